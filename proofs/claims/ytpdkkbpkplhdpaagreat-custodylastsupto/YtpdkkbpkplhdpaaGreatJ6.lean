/- Part of this proof;laid by program. -/
import Derived.Test.YtpdkkbpkplhdpaaGreatJ5
import Derived.Test.YtpdkkbpkplhdpaaGreatProg
set_option linter.unusedVariables false
set_option linter.unusedSimpArgs false
namespace Go.Vm
open Go.RowKit
section
variable {P:Program} {β:List Nat} {F:Mem} {w0:World} {n:Nat} {s:St} {a:Act} {w:World}
theorem Rel.move (R:Rel β F w0 n s a w) {F2:Mem} {w':World} (hs:∀ (b:Nat) o,w.heap[b]? = some o→F b=none→w'.heap[b]? = some o) (hF2:F2.le (zy w')) (hsup:∀ b,F b=none→F2 b=none)
  (hnd:(∀ d∈a.defers,∃ D:Nat,d={ target := .collected D,args := #[] }∧w0.heap.size≤D∧F2 D=some (.deferred (some [])))∧(a.defers.map Deferred.target).Nodup) (e1:w'.os=w.os) (e2:w'.output=w.output) (e3:w'.tape=w.tape)
  (e4:w.heap.size≤w'.heap.size∧w.drawn≤w'.drawn):Rel β F2 w0 n s a w':=by
 refine⟨⟨fun b o hb=>hs b o (R.rd.M b o hb) ((R.dj b).resolve_left (by rw[hb];simp)),fun j T cs hj=>?_,R.rd.gone⟩,R.fr,R.len,hF2,fun b=>(R.dj b).imp id (hsup b),fun j T cs hj b hb=>?_,R.dist,hnd,R.sz,e1.trans R.os,e2.trans R.out,e3.trans R.tape,⟨Nat.le_trans R.grow.1 e4.1,Nat.le_trans R.grow.2 e4.2⟩⟩
 ·obtain⟨b,vs,h1,h2,h3⟩:=R.rd.live j T cs hj;exact⟨b,vs,h1,h2,hs b _ h3 (R.own j T cs hj b h1).2⟩
 ·obtain⟨h1,h2⟩:=R.own j T cs hj b hb;exact⟨h1,hsup b h2⟩
def Mem.join (M N:Mem):Mem:=fun b=>match M b with|some o=>some o|none=>N b
theorem Mem.le_join (M N:Mem):M.le (M.join N):=fun b o h=>by simp[Mem.join,h]
theorem Mem.join_le {M N X:Mem} (h:M.le X) (k:N.le X):(M.join N).le X:=fun b o hb=>by
 unfold Mem.join at hb;cases e:M b with
 | some z=>rw[e] at hb;simp at hb;subst hb;exact h b _ e
 | none=>rw[e] at hb;exact k b o hb
theorem Mem.le_join2 {M N:Mem} (h:∀ b,N b≠none→M b=none):N.le (M.join N):=fun b o hb=>by
 have:=h b (by rw[hb];simp);simp[Mem.join,this,hb]
theorem Rel.more (R:Rel β F w0 n s a w) {Mx:Mem} (hMx:Mx.le (zy w)) (hfr:∀ b,Mx b≠none→F b=none∧∀ (j:Nat) (T:TypeId) (cs:List SC),s.bx[j]? = some (.live T cs)→β[j]? ≠ some b):Rel β F w0 n { s with M:=s.M.join Mx } a w:=by
 refine⟨⟨Mem.join_le R.rd.M hMx,R.rd.live,R.rd.gone⟩,R.fr,R.len,R.Fle,fun b=>?_,fun j T cs hj b hb=>?_,R.dist,R.nd,R.sz,R.os,R.out,R.tape,R.grow⟩
 ·by_cases e:Mx b=none
  ·rcases R.dj b with h|h
   ·left;simp[Mem.join,h,e]
   ·exact .inr h
  ·exact .inr (hfr b e).1
 ·obtain⟨h1,h2⟩:=R.own j T cs hj b hb;refine⟨?_,h2⟩;cases e:Mx b with
  | none=>simp[Mem.join,h1,e]
  | some o=>exact absurd hb ((hfr b (by rw[e];simp)).2 j T cs hj)
theorem Rel.puts:∀ (ps:List Nat) (vs:List Value) (s:St) (a:Act),(∀ p∈ps,p<n)→Rel β F w0 n s a w →
  Rel β F w0 n { s with fr:=zyp ps vs s.fr } { tmps:=(ps.zip vs).foldl (fun t p=>t.setIfInBounds p.1 p.2) a.tmps,defers:=a.defers } w
 | [],_,s,a,_,R=>R
 | _::_,[],s,a,_,R=>R
 | p::ps,v::vs,s,a,hp,R=>Rel.puts ps vs { s with fr:=(p,zkD v)::s.fr } { a with tmps:=a.tmps.setIfInBounds p v } (fun q hq=>hp q (by simp[hq])) (Rel.put R (d:=some p) (fun e he=>by cases he;exact hp p (by simp)) (.inr (zhx β v)))
theorem WLe.alloc (W:World) (o:Obj):WLe W (W.alloc o):=⟨rfl,rfl,rfl,Nat.le_refl _,by simp,fun k o' h=>(Below.heap_alloc W o k (Array.getElem?_eq_some_iff.1 h).1).trans h⟩
theorem WLe.trans {A B C:World} (h:WLe A B) (k:WLe B C):WLe A C:=⟨k.os.trans h.os,k.output.trans h.output,k.tape.trans h.tape,Nat.le_trans h.drawn k.drawn,Nat.le_trans h.size k.size,fun i o e=>k.same i o (h.same i o e)⟩
theorem zwP {kf:Nat→List Nat} {g:Operand} {ps:Array Tmp} {ca cb:Code} {ra rb:zi} (hra:res P n kf ca=some ra) (hrb:res P n kf cb=some rb) (hda:noD ca=true) (hdb:noD cb=true) (hps:∀ p∈ps.toList,p<n)
  {K:Exit→St→Prop} {Q:Exit→Act→World→Prop} (R:Rel β F w0 n s a w) (h:vc P (.rfun g ps.toList ra rb) K s)
  (hK:∀ F' β' s' a' w',K .normal s'→F.le F'→Rel β' F' w0 n s' a' w'→Q .normal a' w'):(Code.rangeFunc g ps ca cb).wpIn Fence.wide 0 P Q a w:=by
 obtain⟨sv,v,hk,hv,he⟩:=zB R.fr h;unfold zzP at hk;split at hk
 case h_2=>exact hk.elim
 rename_i gf fst lb;obtain⟨hfst,hk⟩:=hk;obtain⟨s',hk,R,hfr'⟩:=zlP _ _ _ R hk;obtain⟨hen,hgone,α,encs,A,N,PM,D,I,hit,hA,hlen,⟨M0,hM0,hAM0,hI0⟩,hround,hdone⟩:=hk;have hfst0:fst = #[]:=Array.eq_empty_of_size_eq_zero (Nat.eq_of_beq_eq_true hfst)
 subst hfst0;simp[SV.val,SC.val] at hv;subst hv
 have hgn:∀ (j:Nat) T cs,s'.bx[j]? ≠ some (.live T cs):=fun j T cs hj=>by
  rw[List.all_eq_true] at hgone;have:=hgone _ (List.mem_of_getElem? hj)
  cases this
 refine wpIn_rangeFunc fun fn hfn=>?_
 obtain⟨n1,hn1⟩:∃ n1,n1=w.heap.size:=⟨_,rfl⟩
 obtain⟨rec,hrec⟩:∃ rec:LoopState→Option Code→Loop,rec=fun st pe=>{ state:=st,pending:=pe,fn,tmps:=a.tmps,params:=ps,assign:=ca,body:=cb,defers:=w.heap.size }:=⟨_,rfl⟩
 obtain⟨W1,hW1⟩:∃ W1,(w.alloc (.deferred (some []))).alloc (.loop (rec .ready none))=W1:=⟨_,rfl⟩
 have hle1:WLe w W1:=hW1▸(WLe.alloc w _).trans (WLe.alloc _ _)
 have hL1:W1.heap[n1+1]? = some (.loop (rec .ready none)):=by
  rw[←hW1,hn1];have:=World.alloc_heap_new (w.alloc (.deferred (some []))) (.loop (rec .ready none));rwa [World.size_alloc] at this
 have hK1:W1.heap[n1]? = some (.deferred (some [])):=by
  rw[←hW1,hn1];exact(Below.heap_alloc _ _ _ (by simp)).trans (World.alloc_heap_new w _)
 have hnew:∀ (b:Nat) (o:Obj),w.heap[b]? = some o→b≠n1∧b≠n1+1:=fun b o hb=>by
  have:=(Array.getElem?_eq_some_iff.1 hb).1;omega
 obtain⟨F1,hF1⟩:∃ F1:World→Mem,F1=fun W b=>if b=n1∨b=n1+1 then zy W b else (F.join A) b:=⟨_,rfl⟩
 have hFA:(F.join A).le (zy w):=Mem.join_le R.Fle (Mem.le_trans hA R.rd.M)
 have hF1le:∀ W:World,(F.join A).le (zy W)→(F1 W).le (zy W):=fun W hW b o hb=>by
  rw[hF1] at hb;dsimp only at hb;split at hb
  ·exact hb
  ·exact hW b o hb
 have hF1n:∀ W b,b≠n1→b≠n1+1→F1 W b=(F.join A) b:=fun W b h1 h2=>by rw[hF1];dsimp only;rw[if_neg (by omega)]
 have hF1d:∀ W,F1 W n1=zy W n1:=fun W=>by rw[hF1];dsimp only;rw[if_pos (.inl rfl)]
 have hF1l:∀ W,F1 W (n1+1)=zy W (n1+1):=fun W=>by rw[hF1];dsimp only;rw[if_pos (.inr rfl)]
 have hFn:∀ b o,(F.join A) b=some o→b≠n1∧b≠n1+1:=fun b o hb=>hnew b o (hFA b o hb)
 have hF1ge:∀ W,(F.join A).le (F1 W):=fun W b o hb=>by rw[hF1n W b (hFn b o hb).1 (hFn b o hb).2];exact hb
 obtain⟨J,hJ⟩:∃ J:List α→World→Prop,J=fun pre W=>(∃ M,I pre M∧Rel β (F1 W) w0 n ⟨s'.fr,s'.bx,M⟩ { a with defers:=[] } W)∧W.heap[n1+1]? = some (.loop (rec .ready none))∧W.heap[n1]? = some (.deferred (some [])):=⟨_,rfl⟩
 refine⟨n1+1,[{ target := .collected n1,args := #[] }],W1,{ target := .fn (.func gf) lb,args := #[.func (.yield (n1+1)) #[] #[]] },W1,gf,
  #[.func (.yield (n1+1)) #[] #[]]++lb,W1,?_,?_,fun _ _=>trivial,?_,fun h=>(by cases h),?_⟩
 ·rw[←hW1,hrec,hn1];exact run_enterLoop_outer _ _ _ _ _
 ·simp only[resolve,he];simp[go_sem]
 ·simp[invoke,go_sem,ziD hen]
 have hlb:lb.toList.toArray=lb:=by simp
 have hAW1:A.le (zy W1):=fun b o hb=>hle1.same b o (R.rd.M b o (hA b o hb))
 have key:=hit (n1+1) J W1 hAW1 ?_ ?_
 ·rw[hlb] at key;refine key.mono ?_;rintro e W2 ⟨⟨v,rfl⟩,xs,Wp,hD,hJx,hle⟩;rw[hJ] at hJx;obtain⟨⟨M,hIx,Rx⟩,hl,hk⟩:=hJx;have hdj:∀ b,M b=none∨F1 Wp b=none:=Rx.dj
  have hl2:=hle.same _ _ hl;have hk2:=hle.same _ _ hk
  have hrun:=run_endLoop (P:=P) hl2 (by rw[hrec];simp);obtain⟨W4,hW4⟩:∃ W4,W4=W2.putObj (n1+1) (.loop { rec .ready none with state := .exhausted }):=⟨_,rfl⟩
  rw[←hW4] at hrun;refine⟨none,W4,by rw[hrun];simp[hrec],?_⟩;have h4:∀ (b:Nat),b≠n1+1→W4.heap[b]? = W2.heap[b]? := fun b hb=>by rw[hW4];exact World.putObj_heap_other hb
  have hdisj:∀ b,A b≠none→M b=none:=fun b hb=>by
   obtain⟨o,ho⟩:=Option.ne_none_iff_exists'.1 hb;have hw:=R.rd.M b o (hA b o ho)
   refine(hdj b).resolve_right ?_;rw[hF1n _ b (hnew b o hw).1 (hnew b o hw).2];cases hf:F b with
   | some z=>simp[Mem.join,hf]
   | none=>simp[Mem.join,hf,ho]
  have hmem:∀ (b:Nat) (o:Obj),M b=some o→b≠n1+1∧Wp.heap[b]? = some o:=fun b o hb=>by
   have h5:=Rx.rd.M b o hb;refine⟨fun e=>?_,h5⟩;subst e;have:=(hdj (n1+1)).resolve_left (by rw[hb];simp)
   rw[hF1l] at this;rw[show zy Wp (n1+1)=_ from hl] at this;cases this
  have hFp:(F.join A).le (zy Wp):=fun b o hb=>Rx.Fle b o (hF1ge Wp b o hb)
  have hML:M.le (zy W4):=fun b o hb=>by
   obtain⟨h5,h6⟩:=hmem b o hb;show W4.heap[b]? = _
   rw[h4 b h5];exact hle.same b o h6
  have hFL:(F.join A).le (zy W4):=fun b o hb=>by
   show W4.heap[b]? = _;rw[h4 b (hFn b o hb).2];exact hle.same b o (hFp b o hb)
  have hFF:F.le (F.join A):=Mem.le_join F A
  have hAFd:∀ b,A b≠none→F b=none:=fun b hb=>by
   obtain⟨o,ho⟩:=Option.ne_none_iff_exists'.1 hb;exact(R.dj b).resolve_left (by rw[hA b o ho];simp)
  have hAJ:A.le (F.join A):=Mem.le_join2 hAFd
  have hFd:F n1=none:=by
   cases e:F n1 with
   | none=>rfl
   | some o=>exact absurd rfl (hFn n1 o (hFF n1 o e)).1
  obtain⟨F',hF'⟩:∃ F':Mem,F'=F.upd n1 (.deferred (some [])):=⟨_,rfl⟩
  have hFle':F.le F':=fun b o hb=>by
   rw[hF',Mem.upd_ne _ _ (hFn b o (hFF b o hb)).1];exact hb
  refine hK F' β ⟨s'.fr,s'.bx,M.join A⟩ _ W4 (hdone xs M (M.join A) hD hIx hdisj (Mem.le_join _ _) (Mem.le_join2 hdisj)) hFle' ?_;refine⟨⟨Mem.join_le hML (Mem.le_trans hAJ hFL),fun j T cs hj=>absurd hj (hgn j T cs),R.rd.gone⟩,Rx.fr,R.len,fun b o hb=>?_,fun b=>?_,fun j T cs hj=>absurd hj (hgn j T cs),fun i j Ti ci Tj cj hi=>absurd hi (hgn i Ti ci),?_,R.sz,?_,?_,?_,?_⟩
  ·rw[hF'] at hb;by_cases e:b=n1
   ·subst e;rw[Mem.upd_same] at hb;cases hb;show W4.heap[b]? = _
    rw[h4 b (by omega)];exact hk2
   ·rw[Mem.upd_ne _ _ e] at hb;exact hFL b o (hFF b o hb)
  ·rw[hF'];by_cases e:b=n1
   ·subst e;left
    have h5:M b=none:=by
     cases e:M b with
     | none=>rfl
     | some o=>
      have:=(hdj b).resolve_left (by rw[e];simp);rw[hF1d] at this;rw[show zy Wp b=_ from hk] at this;cases this
    have h6:A b=none:=by
     cases e:A b with
     | none=>rfl
     | some o=>exact absurd rfl (hFn b o (hAJ b o e)).1
    simp[Mem.join,h5,h6]
   ·rw[Mem.upd_ne _ _ e];cases e1:F b with
    | none=>exact .inr rfl
    | some o=>
     left;have h7:=hFn b o (hFF b o e1)
     have h5:M b=none:=(hdj b).resolve_right (by rw[hF1n _ b h7.1 h7.2,hFF b o e1];simp)
     have h6:A b=none:=by
      cases e2:A b with
      | none=>rfl
      | some o2=>rw[hAFd b (by rw[e2];simp)] at e1;cases e1
     simp[Mem.join,h5,h6]
  ·refine⟨fun d hd=>?_,?_⟩
   ·simp only[List.cons_append,List.nil_append,List.mem_cons] at hd;rcases hd with rfl|hd
    ·exact⟨n1,rfl,by rw[hn1];exact R.grow.1,by rw[hF',Mem.upd_same]⟩
    ·obtain⟨D',h1,h2,h3⟩:=R.nd.1 d hd;exact⟨D',h1,h2,hFle' _ _ h3⟩
   ·simp only[List.cons_append,List.nil_append,List.map_cons,List.nodup_cons];refine⟨fun hm=>?_,R.nd.2⟩;obtain⟨d,hd,e⟩:=List.mem_map.1 hm;obtain⟨D',h1,h2,h3⟩:=R.nd.1 d hd;rw[h1] at e;simp at e;subst e;rw[hFd] at h3;cases h3
  ·rw[hW4];exact hle.os.trans Rx.os
  ·rw[hW4];exact hle.output.trans Rx.out
  ·rw[hW4];exact hle.tape.trans Rx.tape
  ·rw[hW4];exact⟨by rw[show (W2.putObj (n1+1) (.loop { rec .ready none with state := .exhausted })).heap.size=W2.heap.size by simp];exact Nat.le_trans Rx.grow.1 hle.size,Nat.le_trans Rx.grow.2 hle.drawn⟩
 ·
  intro pre x Wp W Mx hJp hle hAW hlt hPM hMxW hfresh;rw[hJ] at hJp;obtain⟨⟨M,hI,Rp⟩,hl,hk⟩:=hJp;have hlW:=hle.same _ _ hl
  have hkW:=hle.same _ _ hk;have hy:=run_yield (P:=P) (args:=(encs x).toArray) hlW (by rw[hrec];simpa using hlen x)
  rw[hrec] at hy;have hFp:(F.join A).le (zy Wp):=fun b o hb=>Rp.Fle b o (hF1ge Wp b o hb)
  have hFW:(F.join A).le (zy W):=fun b o hb=>hle.same b o (hFp b o hb)
  have R1:Rel β (F1 W) w0 n ⟨s'.fr,s'.bx,M⟩ { a with defers:=[] } W:=by
   refine Rp.move (fun b o hb _=>hle.same b o hb) (hF1le W hFW) (fun b hb=>?_) (by simp) hle.os hle.output hle.tape ⟨hle.size,hle.drawn⟩;by_cases e:b=n1
   ·subst e;rw[hF1d] at hb;rw[show zy Wp b=_ from hk] at hb;cases hb
   by_cases e2:b=n1+1
   ·subst e2;rw[hF1l] at hb;rw[show zy Wp (n1+1)=_ from hl] at hb;cases hb
   rw[hF1n _ b e e2] at hb ⊢; exact hb
  have hfb:∀ b,Mx b≠none→Wp.heap[b]? = none:=fun b hb=>by
   have:=hfresh b hb;simp[this]
  have hMf:∀ b,Mx b≠none→M b=none∧A b=none:=fun b hb=>by
   have h1:=hfb b hb;refine⟨?_,?_⟩
   ·cases e:M b with
    | none=>rfl
    | some o=>rw[Rp.rd.M b o e |> (fun h:Wp.heap[b]? = some o=>h)] at h1;cases h1
   ·cases e:A b with
    | none=>rfl
    | some o=>
     have:(F.join A) b≠none:=by
      cases e1:F b with
      | some z=>simp[Mem.join,e1]
      | none=>simp[Mem.join,e1,e]
     obtain⟨o2,ho2⟩:=Option.ne_none_iff_exists'.1 this;have h2:Wp.heap[b]? = some o2:=hFp b o2 ho2
     rw[h2] at h1;cases h1
  have hFx:∀ b,Mx b≠none→F1 W b=none:=fun b hb=>by
   have h1:=hfb b hb;by_cases e:b=n1
   ·subst e;rw[hk] at h1;cases h1
   by_cases e2:b=n1+1
   ·subst e2;rw[hl] at h1;cases h1
   rw[hF1n _ b e e2];cases e3:(F.join A) b with
   | none=>rfl
   | some o=>have h2:Wp.heap[b]? = some o:=hFp b o e3;rw[h2] at h1;cases h1
  have R2:=(Rel.more R1 hMxW (fun b hb=>⟨hFx b hb,fun j T cs hj=>absurd hj (hgn j T cs)⟩)).puts ps.toList (encs x) _ _ hps
  have htm:(ps.zip (encs x).toArray).foldl (fun t (p:Nat×Value)=>t.setIfInBounds p.1 p.2) a.tmps=(ps.toList.zip (encs x)).foldl (fun t p=>t.setIfInBounds p.1 p.2) a.tmps:=by
   rw[←Array.foldl_toList,Array.toList_zip]
  have hv:=hround pre x M Mx (M.join Mx) hI hlt hPM hMf (Mem.le_join _ _) (Mem.le_join2 fun b hb=>(hMf b hb).1);refine⟨fn,_,ca,cb,hy,roundIn_of_wpIn hfn ?_⟩;have htm2:(ps.zip (encs x).toArray).foldl (fun tmps x=>match x with|(t,a)=>tmps.setIfInBounds t a) a.tmps=(ps.toList.zip (encs x)).foldl (fun t p=>t.setIfInBounds p.1 p.2) a.tmps:=htm
  rw[htm2];refine ztd (F:=F1 W) (w0:=w0) ca ra hra hda _ _ β _ _ W (fun _ _ h=>h) (fun _ _ _ h=>h) R2 hv ?_;rintro e β2 t a2 W2 ⟨rfl,hb⟩ R4;have hl2:W2.heap[n1+1]? = some (.loop (rec .ready none)):=R4.Fle _ _ (by rw[hF1l];exact hlW)
  have hk2:W2.heap[n1]? = some (.deferred (some [])):=R4.Fle _ _ (by rw[hF1d];exact hkW);obtain⟨W3,hW3⟩:∃ W3,W3=W2.putObj (n1+1) (.loop { rec .ready none with state := .busy }):=⟨_,rfl⟩
  have h3:∀ (b:Nat),b≠n1+1→W3.heap[b]? = W2.heap[b]? := fun b hb=>by rw[hW3];exact World.putObj_heap_other hb
  have hl3:W3.heap[n1+1]? = some (.loop { rec .ready none with state := .busy }):=hW3▸World.putObj_heap_same (Array.getElem?_eq_some_iff.1 hl2).1;have hF2:(F.join A).le (zy W2):=fun b o hb=>R4.Fle b o (hF1ge W b o hb)
  have hF3:(F.join A).le (zy W3):=fun b o hb=>by show W3.heap[b]? = _;rw[h3 b (hFn b o hb).2];exact hF2 b o hb
  have hsz3:W3.heap.size=W2.heap.size:=by rw[hW3];simp
  have R5:Rel β2 (F1 W3) w0 n t a2 W3:=by
   refine R4.move (fun b o hb hF=>?_) (hF1le W3 hF3) (fun b hb=>?_) ⟨fun d hd=>?_,R4.nd.2⟩ (by rw[hW3];rfl) (by rw[hW3];rfl) (by rw[hW3];rfl) ⟨by rw[hsz3];exact Nat.le_refl _,by rw[hW3];exact Nat.le_refl _⟩
   ·rw[h3 b (fun e=>by subst e;rw[hF1l,show zy W (n1+1)=_ from hlW] at hF;cases hF)];exact hb
   ·by_cases e:b=n1
    ·subst e;rw[hF1d,show zy W b=_ from hkW] at hb;cases hb
    by_cases e2:b=n1+1
    ·subst e2;rw[hF1l,show zy W (n1+1)=_ from hlW] at hb;cases hb
    rw[hF1n _ b e e2] at hb ⊢; exact hb
   ·obtain⟨D',h5,h6,h7⟩:=R4.nd.1 d hd;refine⟨D',h5,h6,?_⟩;by_cases e:D'=n1
    ·subst e;rw[hF1d];show W3.heap[D']? = _;rw[h3 D' (by omega)];exact hk2
    by_cases e2:D'=n1+1
    ·subst e2;rw[hF1l,show zy W (n1+1)=_ from hlW] at h7;cases h7
    rw[hF1n _ D' e e2] at h7 ⊢; exact h7
  refine⟨W3,by rw[hW3];exact run_beginRound hl2 (by rw[hrec]),?_⟩;refine ztd (F:=F1 W3) (w0:=w0) cb rb hrb hdb _ _ β2 _ _ W3 (fun _ _ h=>h) (fun _ _ _ h=>h) R5 hb ?_;rintro e β3 t' a3 W4 ⟨rfl,M2,hI2,hM2⟩ R6;have hl4:W4.heap[n1+1]? = some (.loop { rec .ready none with state := .busy }):=R6.Fle _ _ (by rw[hF1l];exact hl3)
  have hk4:W4.heap[n1]? = some (.deferred (some [])):=R6.Fle _ _ (by rw[hF1d];show W3.heap[n1]? = _;rw[h3 n1 (by omega)];exact hk2);have hr:=run_endRound (P:=P) none hl4
  obtain⟨W5,hW5⟩:∃ W5,W5=W4.putObj (n1+1) (.loop (rec .ready none)):=⟨_,rfl⟩
  have hr2:(Instr.endRound (n1+1) none).run P W4 = .ok (.bool true) W5:=by rw[hW5,hr];simp[hrec]
  have h5:∀ (b:Nat),b≠n1+1→W5.heap[b]? = W4.heap[b]? := fun b hb=>by rw[hW5];exact World.putObj_heap_other hb
  have hl5:W5.heap[n1+1]? = some (.loop (rec .ready none)):=hW5▸World.putObj_heap_same (Array.getElem?_eq_some_iff.1 hl4).1;have hF4:(F.join A).le (zy W4):=fun b o hb=>R6.Fle b o (hF1ge W3 b o hb)
  have hF5:(F.join A).le (zy W5):=fun b o hb=>by show W5.heap[b]? = _;rw[h5 b (hFn b o hb).2];exact hF4 b o hb
  have hsz5:W5.heap.size=W4.heap.size:=by rw[hW5];simp
  have hMn:∀ b o,M2 b=some o→b≠n1∧b≠n1+1∧(F.join A) b=none:=fun b o hb=>by
   have h6:=(R6.dj b).resolve_left (by rw[hM2 b o hb];simp);have e1:b≠n1:=fun e=>by subst e;rw[hF1d] at h6;rw[show zy W3 b=_ from (h3 b (by omega)).trans hk2] at h6;cases h6
   have e2:b≠n1+1:=fun e=>by subst e;rw[hF1l,show zy W3 (n1+1)=_ from hl3] at h6;cases h6
   rw[hF1n _ b e1 e2] at h6;exact⟨e1,e2,h6⟩
  refine⟨_,W5,hr2,rfl,?_,fun b o hb=>?_⟩
  ·rw[hJ];refine⟨⟨M2,hI2,⟨⟨fun b o hb=>?_,fun j T cs hj=>absurd hj (hgn j T cs),R.rd.gone⟩,Rp.fr,R.len,hF1le W5 hF5,fun b=>?_,fun j T cs hj=>absurd hj (hgn j T cs),fun i j Ti ci Tj cj hi=>absurd hi (hgn i Ti ci),by simp,Rp.sz,?_,?_,?_,?_⟩⟩,hl5,?_⟩
   ·show W5.heap[b]? = _;rw[h5 b (hMn b o hb).2.1];exact R6.rd.M b o (hM2 b o hb)
   ·show M2 b=none∨_;cases e:M2 b with
    | none=>exact .inl rfl
    | some o=>right;rw[hF1n _ b (hMn b o e).1 (hMn b o e).2.1];exact(hMn b o e).2.2
   ·rw[hW5];exact R6.os
   ·rw[hW5];exact R6.out
   ·rw[hW5];exact R6.tape
   ·rw[hsz5];exact⟨R6.grow.1,by rw[hW5];exact R6.grow.2⟩
   ·rw[h5 n1 (by omega)];exact hk4
  ·have:(F.join A) b≠none:=by
    cases e1:F b with
    | some z=>simp[Mem.join,e1]
    | none=>simp[Mem.join,e1,hb]
   have hAF:F b=none:=(R.dj b).resolve_left (by rw[hA b o hb];simp);exact hF5 b o (by simp[Mem.join,hAF,hb])
 ·
  rw[hJ];refine⟨⟨M0,hI0,⟨⟨fun b o hb=>hle1.same b o (R.rd.M b o (hM0 b o hb)),fun j T cs hj=>absurd hj (hgn j T cs),R.rd.gone⟩,R.fr,R.len,hF1le W1 (fun b o hb=>hle1.same b o (hFA b o hb)),fun b=>?_,fun j T cs hj=>absurd hj (hgn j T cs),fun i j Ti ci Tj cj hi=>absurd hi (hgn i Ti ci),by simp,R.sz,hle1.os.trans R.os,hle1.output.trans R.out,hle1.tape.trans R.tape,⟨Nat.le_trans R.grow.1 hle1.size,Nat.le_trans R.grow.2 hle1.drawn⟩⟩⟩,hL1,hK1⟩;show M0 b=none∨_
  cases e:M0 b with
  | none=>exact .inl rfl
  | some o=>
   right;have hw:=R.rd.M b o (hM0 b o e)
   rw[hF1n _ b (hnew b o hw).1 (hnew b o hw).2];have h1:F b=none:=(R.dj b).resolve_left (by rw[hM0 b o e];simp)
   have h2:A b=none:=by
    cases e2:A b with
    | none=>rfl
    | some z=>rw[hAM0 b (by rw[e2];simp)] at e;cases e
   simp[Mem.join,h1,h2]
end
theorem zBp {P:Program} {w0:World} {n:Nat} {kf:Nat→List Nat}:∀ (c:Code) (r:zi),res P n kf c=some r →
  ∀ (K:Exit→St→Prop) (Q:Exit→Act→World→Prop) (β:List Nat) (F:Mem) (s:St) (a:Act) (w:World),Rel β F w0 n s a w→vc P r K s →
  (∀ e F' β' s' a' w',K e s'→F.le F'→Rel β' F' w0 n s' a' w'→Q e a' w')→c.wp P Q a w:=by
 intro c
 induction c with
 | skip=>
  intro r hr K Q β F s a w R h hK;simp[res] at hr;subst hr;exact wp_skip (hK _ _ _ _ _ _ h (Mem.le_refl _) R)
 | region id ops draw=>
  intro r hr K Q β F s a w R h hK;simp only[res] at hr;cases draw with
  | false=>
   simp only[Option.map_eq_some_iff] at hr;obtain⟨l,hl,rfl⟩:=hr;exact wp_region_list (zgZ ops.toList 0 l β s a w hl R h fun β' s' a' w' hk R'=>hK _ _ _ _ _ _ (by rw[zlK] at hk;exact hk) (Mem.le_refl _) (R'.kill _))
  | true=>
   simp only at hr;split at hr
   ·rename_i hc;simp only[Bool.and_eq_true] at hc;obtain⟨hm,hns⟩:=hc;simp only[Option.map_eq_some_iff] at hr;obtain⟨t,ht,rfl⟩:=hr
    have R1:Rel (β++[]) F w0 n s a { w with drawn:=w.drawn+1 }:=by
     rw[List.append_nil];exact⟨⟨R.rd.M,R.rd.live,R.rd.gone⟩,R.fr,R.len,R.Fle,R.dj,R.own,R.dist,R.nd,R.sz,R.os,R.out,R.tape,⟨R.grow.1,Nat.le_succ_of_le R.grow.2⟩⟩
    have main:∀ X:Mem,X.le s.M→zdb P X s.bx t s (fun s'=>s'.killK (kf id) fun s''=>K .normal s'')→(Code.region id ops true).wp P Q a w:=by
     intro X hX hv;refine wp_mono (Q:=fun e a w=>e = .normal∧∃ β' s',K .normal s'∧Rel β' F w0 n s' a w) ?_ (fun e a w ⟨he,β',s',hk,R'⟩=>by subst he;exact hK _ _ _ _ _ _ hk (Mem.le_refl _) R')
     refine wp_region_any hm (zlR _ _ _ _ (zo5 hns (fun c a w h=>by cases h.1) (bx0:=s.bx) (β0:=β) (fun j b hj=>R.rd.gone j b hj)
      (fun j T cs hj=>R.lv j T cs hj) ops.size X (fun Y=>Y=X) (fun Y hY=>by rw[hY];exact Mem.le_refl _) rfl true _ t [] s a _ ht ?_ R1 (fun _=>⟨Mem.le_trans hX R1.rd.M,fun j T cs hj=>R.rd.live j T cs hj,fun j b hj=>R.rd.gone j b hj⟩) hv ?_))
     ·intro j o ho hl;exfalso;simp only[Array.getD_eq_getD_getElem?, Array.getElem?_replicate] at hl;split at hl<;>simp at hl
     ·intro β' s' a' w' hk R';rw[zlK] at hk;exact⟨rfl,β',_,hk,R'.kill _⟩
    simp only[vc,zyn] at h;cases hn:zjb t with
    | true=>
     rw[hn] at h;obtain⟨X,hX,hv⟩:=h;exact main X hX hv
    | false=>
     rw[hn] at h;exact main s.M (Mem.le_refl _) h
   ·cases hr
 | seq x y ihx ihy=>
  intro r hr K Q β F s a w R h hK;simp only[res] at hr;split at hr
  ·rename_i rx ry hx hy;simp at hr;subst hr;refine wp_seq (ihx rx hx _ _ β F s a w R h ?_);intro e F' β' s' a' w' hk hF R';cases e<;>first|exact ihy ry hy _ _ β' F' s' a' w' R' hk (fun e F2 β2 s2 a2 w2 hk2 hF2 R2=>hK e F2 β2 s2 a2 w2 hk2 (Mem.le_trans hF hF2) R2)|exact hK _ _ _ _ _ _ hk hF R'
  ·cases hr
 | cond c x y ihx ihy=>
  intro r hr K Q β F s a w R h hK;simp only[res] at hr;split at hr
  ·rename_i rx ry hx hy;simp at hr;subst hr;obtain⟨sv,v,hk,hv,he⟩:=zB R.fr h;obtain⟨b,rfl,h1,h2⟩:=zkp hk hv;refine wp_cond he ?_;cases b with
   | true=>exact ihx rx hx _ _ β F s a w R (h1 rfl) hK
   | false=>exact ihy ry hy _ _ β F s a w R (h2 rfl) hK
  ·cases hr
 | block id x ih=>
  intro r hr K Q β F s a w R h hK;simp only[res,Option.map_eq_some_iff] at hr;obtain⟨rx,hx,rfl⟩:=hr;refine wp_block (ih rx hx _ _ β F s a w R h ?_);intro e F' β' s' a' w' hk hF R';cases e with
  | exit i=>
   simp only[zuV] at hk;simp only[Exit.inBlock];split at hk
   ·rename_i hi;rw[if_pos (Nat.eq_of_beq_eq_true hi)];exact hK _ _ _ _ _ _ hk hF R'
   ·rename_i hi;rw[if_neg (Nat.ne_of_beq_eq_false hi)];exact hK _ _ _ _ _ _ hk hF R'
  | _=>exact hK _ _ _ _ _ _ hk hF R'
 | loop x ih=>
  intro r hr K Q β F s a w R h hK;simp only[res,Option.map_eq_some_iff] at hr;obtain⟨rx,hx,rfl⟩:=hr;obtain⟨s1,h,R⟩:=zu1 R h;obtain⟨I,⟨m0,t0,hI0,hs0⟩,hround⟩:=h
  let J:Act→World→Nat→Prop:=fun a w m=>∃ t β F',I m t∧F.le F'∧Rel β F' w0 n t a w
  have hJ0:∃ m,J a w m:=⟨m0,t0,_,F,hI0,Mem.le_refl _,R.sub hs0⟩
  classical
  refine wp_loop (fun a w=>∃ m,J a w m) (fun a w=>if h:∃ m,J a w m then Classical.choose (zeN h) else 0) hJ0 ?_;intro a1 w1 hJ;have hmin:=(Classical.choose_spec (zeN hJ)).1
  obtain⟨t,β1,F1,hI,hF1,R1⟩:=hmin;refine ih rx hx _ _ β1 F1 t a1 w1 R1 (hround _ t hI) ?_;intro e F' β' s' a' w' hk hF2 R';have hF:=Mem.le_trans hF1 hF2
  cases e with
  | normal=>
   obtain⟨m',t',hlt,hI',hs'⟩:=hk;have hJ':J a' w' m':=⟨t',_,F',hI',hF,R'.sub hs'⟩
   refine⟨⟨m',hJ'⟩,?_⟩;rw[dif_pos hJ,dif_pos ⟨m',hJ'⟩];exact Nat.lt_of_le_of_lt ((Classical.choose_spec (zeN (p:=J a' w') ⟨m',hJ'⟩)).2 _ hJ') hlt
  | _=>exact hK _ _ _ _ _ _ hk hF R'
 | exit id=>
  intro r hr K Q β F s a w R h hK;simp[res] at hr;subst hr;exact wp_exit (hK _ _ _ _ _ _ h (Mem.le_refl _) R)
 | ret=>
  intro r hr K Q β F s a w R h hK;simp[res] at hr;subst hr;exact wp_ret (hK _ _ _ _ _ _ h (Mem.le_refl _) R)
 | scope x ih=>
  intro r hr K Q β F s a w R h hK;simp only[res,Option.map_eq_some_iff] at hr;obtain⟨rx,hx,rfl⟩:=hr;refine wp_scope_straight (ih rx hx _ _ β F s a w R h ?_);intro e F' β' s' a' w' hk hF R';cases e with
  | goto l=>exact hk.elim
  | _=>exact hK _ _ _ _ _ _ hk hF R'
 | label l=>
  intro r hr K Q β F s a w R h hK;simp[res] at hr;subst hr;exact wp_label (hK _ _ _ _ _ _ h (Mem.le_refl _) R)
 | rangeFunc g ps x y _ _=>
  intro r hr K Q β F s a w R h hK;simp only[res] at hr;split at hr
  ·rename_i rx ry hx hy;split at hr
   ·rename_i hc;simp only[Option.some.injEq] at hr;subst hr;simp only[Bool.and_eq_true] at hc;obtain⟨⟨⟨⟨-, -⟩,hdx⟩,hdy⟩,hps⟩:=hc;rw[List.all_eq_true] at hps;exact(wpIn_wide (n:=0)).1 (zwP hx hy hdx hdy (fun p hp=>Zd0 (hps p hp)) R h (fun F' β' s' a' w'=>hK .normal F' β' s' a' w'))
   ·cases hr
  ·cases hr
 | _=>intro r hr;simp[res] at hr
theorem zu5:∀ (i:Nat) (args:List Value) (d:Nat) (sv:SV),lk (zqI i args) d=some sv→∃ v,args[d - i]? = some v∧i≤d∧sv=zkD v
 | i,v::r,d,sv,h=>by
  simp only[zqI,lk] at h;split at h
  ·rename_i e;have e:=Nat.eq_of_beq_eq_true e;subst e;simp at h;subst h;exact⟨v,by simp,Nat.le_refl _,rfl⟩
  ·obtain⟨u,h1,h2,h3⟩:=zu5 (i+1) r d sv h;refine⟨u,?_,by omega,h3⟩;have:d - i=(d - (i+1))+1:=by omega
   rw[this];simpa using h1
section
variable {P:Program} {β:List Nat} {F:Mem} {w0:World} {n:Nat} {a:Act} {w:World}
def zjp (tmps:Array Value):ResultVar→Sem Value
 | .tmp t=>pure (tmps.getD t undef)
 | .cell a t=>do loadVar t (←asAddr (tmps.getD a undef))
theorem zwQ {s:St} (R:Rel β F w0 n s a w) {r:ResultVar} {rr:zp} (hr:zlm P r=some rr) {k:Value→St→Prop} (h:zuH rr s k) :
  ∃ v s',k v s'∧Rel β F w0 n s' a w∧(zjp a.tmps r).run P w = .ok v w:=by
 cases r with
 | tmp t=>
  simp[zlm] at hr;subst hr;simp only[zuH] at h;obtain⟨sv,v,hk,hv,he⟩:=zB (x := .tmp t) R.fr h;obtain⟨s',hk',R',_⟩:=zen R hv hk;exact⟨v,s',hk',R',by simp only[zjp,Sem.run_pure];rw[←he];rfl⟩
 | cell x T=>
  simp only[zlm,Option.bind_eq_some_iff] at hr;obtain⟨g,hg,m,hm,hr⟩:=hr;split at hr
  ·rename_i hgm;simp at hr;subst hr;simp only[zuH] at h
   have fin:∀ {cs:List SC} {us:List Value} {b o:Nat} {c:Array Value} {e:TypeId} {fz:Nat×Nat},mkv g cs (fun sv=>zkF sv s k)→zY β cs=some us→a.eval (.tmp x) = .pointer (some ⟨b,o,none⟩) →
     w.heap[b]? = some (.cells c e fz)→o+m≤c.size→us=(c.toList.drop o).take m→∃ v s',k v s'∧Rel β F w0 n s' a w∧(zjp a.tmps (.cell x T)).run P w = .ok v w:=by
    intro cs us b o c e fz hmk hu hp hh hle hus;obtain⟨sv,hk,hor⟩:=zhX hmk hu;have hp':a.tmps.getD x undef = .pointer (some ⟨b,o,none⟩):=hp
    rcases hor with ⟨rfl,hv⟩|⟨rfl,u,hu',hv⟩
    ·obtain⟨s',hk',R',_⟩:=zen R hv hk;refine⟨_,s',hk',R',?_⟩;simp only[zjp,Sem.run_bind,hp',asAddr,Sem.run_pure,Result.andThen_ok];rw[zgW hg hm hh hle,hus]
    ·obtain⟨s',hk',R',_⟩:=zen R hv hk;refine⟨_,s',hk',R',?_⟩;simp only[zjp,Sem.run_bind,hp',asAddr,Sem.run_pure,Result.andThen_ok];rw[zgX (v:=u) hg ?_];rw[zgK hh];have h1:m=1:=by simpa using hgm
     subst h1;rw[hus] at hu';have:=congrArg (·[0]?) hu'
     simpa using this
   rcases R.rd.evP R.fr h with ⟨j,o,T',cs,b,vs,hj,hk,hb,hvs,hp⟩|⟨b,o,hk,hp⟩
   ·obtain⟨l,hl0,hk⟩:=zay hk;obtain⟨hle,rfl⟩:=ziB hl0;obtain⟨b',vs',hb',hvs',hh⟩:=R.rd.live j T' cs hj;rw[hb] at hb';cases hb';rw[hvs] at hvs';cases hvs';have hl:=zcb hvs
    exact fin hk (zeV _ (zeW _ hvs)) hp hh (by simp;omega) (by simp)
   ·obtain⟨vs,hrow,hk⟩:=zay hk;obtain⟨c,e,fz,hh,hle,hvs⟩:=zjl R.rd.M hrow;exact fin hk (zek β vs) hp hh hle hvs
  ·cases hr
theorem zo7:∀ {rs:List ResultVar} {rrs:List zp} {s:St} {k:List Value→St→Prop},rs.mapM (zlm P)=some rrs→Rel β F w0 n s a w→zyr rrs s k →
  ∃ vs s',k vs s'∧Rel β F w0 n s' a w∧vs.length=rs.length∧(rs.mapM (zjp a.tmps)).run P w = .ok vs w
 | [],rrs,s,k,hr,R,h=>by simp at hr;subst hr;exact⟨[],s,h,R,rfl,rfl⟩
 | r::rs,rrs,s,k,hr,R,h=>by
  simp only[List.mapM_cons,Option.bind_eq_bind,Option.bind_eq_some_iff] at hr;obtain⟨x,hx,xs,hxs,he⟩:=hr;simp at he;subst he;obtain⟨v,s1,hk,R1,h1⟩:=zwQ R hx h;obtain⟨vs,s2,hk2,R2,hl,h2⟩:=zo7 hxs R1 hk;exact⟨v::vs,s2,hk2,R2,by simp[hl],by simp only[List.mapM_cons,Sem.run_bind,h1,h2,Result.andThen_ok,Sem.run_pure]⟩
theorem zyC {fn:Func} {rrs:List zp} {s:St} {R':Value→Mem→Prop} (hr:zqK P fn=some rrs) (R:Rel β F w0 n s a w) (h:zys rrs s R') :
  ∃ v s',R' v s'.M∧Rel β F w0 n s' a w∧(results fn a.tmps).run P w = .ok v w:=by
 have hr':fn.results.toList.mapM (zlm P)=some rrs:=hr;obtain⟨vs,s',hk,R2,hl,hrun⟩:=zo7 hr' R h
 have e:results fn a.tmps=(do
   let vs ←fn.results.mapM (zjp a.tmps)
   pure (if h:vs.size=1 then vs[0] else .tuple vs)):=by
  unfold results;congr 1
 have hrun2:(results fn a.tmps).run P w = .ok (znb vs) w:=by
  rw[e,Array.mapM_eq_mapM_toList];simp only[Sem.run_bind,Sem.run_map,hrun,Result.andThen_ok,Sem.run_pure];clear hl hrun
  match vs with
  | [v]=>simp[znb]
  | []=>simp[znb]
  | v::u::r=>simp[znb]
 have hk':R' (znb vs) s'.M:=by
  obtain⟨fr,bx,M⟩:=s'
  match vs,hk with
  | [v],hk=>exact hk
  | [],hk=>exact hk
  | _::_::_,hk=>exact hk
 exact⟨_,s',hk',R2,hrun2⟩
end
theorem znm {P:Program} {fn:Func} {w0:World} {F:Mem} {tmps:Array Value} {R:Ending→World→Prop}:∀ (ds:List Deferred) (w:World),
  (∀ d∈ds,∃ D:Nat,d={ target := .collected D,args := #[] }∧w0.heap.size≤D∧F D=some (.deferred (some [])))→(∀ d∈ds,∀ D:Nat,d={ target := .collected D,args := #[] }→w.heap[D]? = some (.deferred (some []))) →
  (ds.map Deferred.target).Nodup→(∀ w':World,(∀ (b:Nat) o,w.heap[b]? = some o→(∀ d∈ds,d.target ≠ .collected b)→w'.heap[b]? = some o)→w'.os=w.os→w'.output=w.output→w'.tape=w.tape→w'.heap.size=w.heap.size→w'.drawn=w.drawn →
   LeavesIn Fence.wide 0 P fn tmps R [] .returning w')→LeavesInM Fence.wide 0 P fn tmps R ds .returning w
 | [],w,_,_,_,hk=>hk w (fun _ _ h _=>h) rfl rfl rfl rfl rfl
 | d::ds,w,hnd,hw,hdup,hk=>by
  obtain⟨D,rfl,h1,h2⟩:=hnd d (by simp);have h3:=hw _ (List.mem_cons_self ..) D rfl
  rw[List.map_cons,List.nodup_cons] at hdup;have hne:∀ d∈ds,d.target ≠ .collected D:=fun d hd e=>hdup.1 (List.mem_map.2 ⟨d,hd,e⟩)
  refine⟨by simp,.inl ⟨D,_,rfl,run_takeDeferred h3,?_⟩⟩;refine znm (w0:=w0) (F:=F) ds _ (fun d hd=>hnd d (by simp[hd])) (fun d hd D' e=>?_) hdup.2 (fun w' hs e1 e2 e3 e4 e5=>?_)
  ·have hDD:D'≠D:=fun e2=>hne d hd (by rw[e,e2])
   rw[World.putObj_heap_other hDD];exact hw d (by simp[hd]) D' e
  ·refine hk w' (fun b o hb hno=>hs b o ?_ fun d hd=>hno d (by simp[hd])) e1 e2 e3 (by rw[e4];simp) e5;have:b≠D:=fun e=>hno _ (List.mem_cons_self ..) (by rw[e])
   rw[World.putObj_heap_other this];exact hb
theorem zBq {P:Program} {kf:Nat→List Nat} {f:Nat} {fn:Func} {c:Code} {r:zi} {rs:List zp} {args:List Value} {M:Mem} {R:Value→Mem→Prop}
  (hf:P.funcs[f]? = some fn) (hb:fn.body=some c) (hr:res P fn.ntmps kf c=some r) (hrs:zqK P fn=some rs) (hn:args.length≤fn.ntmps) (hen:zfy P f=true)
  (h:vfn P r rs args M R):CallsM P f args M R:=by
 refine⟨hen,fun F w hM hF hd=>?_⟩;unfold vfn at h;rw[zcm] at h;refine(callsIn_wide (n:=0)).1 (callsIn_of_wp_marks hf hb trivial (wpIn_wide.2 ?_) rfl)
 have R0:Rel [] F w fn.ntmps { fr:=zqI 0 args,bx:=[],M:=M } { tmps:=args.toArray++Array.replicate (fn.ntmps - args.toArray.size) undef,defers:=[] } w:=by
  refine⟨⟨hM,by simp,by simp⟩,?_,rfl,hF,hd,by simp,by simp,by simp,by simp;omega,rfl,rfl,rfl,⟨Nat.le_refl _,Nat.le_refl _⟩⟩;intro d sv hd;obtain⟨v,h1,h2,rfl⟩:=zu5 0 args d sv hd;refine .inr ⟨v,zhx _ v,?_⟩;simp only[Nat.sub_zero] at h1;have hlt:=(List.getElem?_eq_some_iff.1 h1).1
  rw[Array.getElem?_append_left (by simpa using hlt)];simpa using h1
 have out:∀ {F':Mem} {β':List Nat} {s':St} {a':Act} {w':World},zys rs s' R→F.le F'→Rel β' F' w fn.ntmps s' a' w' →
   LeavesInM Fence.wide 0 P fn a'.tmps (fun e w''=>∃ v M',e = .returned v∧R v M'∧M'.le (zy w'')∧F.le (zy w'')∧M'.disj F∧w''.os=w.os∧w''.output=w.output∧w''.tape=w.tape∧w.heap.size≤w''.heap.size∧w.drawn≤w''.drawn) a'.defers .returning w':=by
  intro F' β' s' a' w' hk hFF R';refine znm (w0:=w) (F:=F') a'.defers w' R'.nd.1 (fun d hd D e=>?_) R'.nd.2 (fun w2 hs e1 e2 e3 e4 e5=>?_)
  ·obtain⟨D',h1,h2,h3⟩:=R'.nd.1 d hd;rw[e] at h1;simp at h1;subst h1;exact R'.Fle _ _ h3
  ·have R2:Rel β' F w fn.ntmps s' { a' with defers:=[] } w2:=by
    have R1:Rel β' F' w fn.ntmps s' { a' with defers:=[] } w':=⟨R'.rd,R'.fr,R'.len,R'.Fle,R'.dj,R'.own,R'.dist,by simp,R'.sz,R'.os,R'.out,R'.tape,R'.grow⟩
    refine R1.move (fun b o hb hF0=>hs b o hb fun d hd e=>?_) (fun b o hb=>?_) (fun b hb=>?_) (by simp) e1 e2 e3 ⟨by rw[e4];exact Nat.le_refl _,by rw[e5];exact Nat.le_refl _⟩
    ·obtain⟨D',h1,h2,h3⟩:=R'.nd.1 d hd;rw[h1] at e;simp at e;subst e;rw[h3] at hF0;cases hF0
    ·refine hs b o (R'.Fle b o (hFF b o hb)) fun d hd e=>?_
     obtain⟨D',h1,h2,h3⟩:=R'.nd.1 d hd;rw[h1] at e;simp at e;subst e;have:=(Array.getElem?_eq_some_iff.1 (show w.heap[D']? = some o from hF D' o hb)).1
     omega
    ·cases e:F b with
     | none=>rfl
     | some o=>rw[hFF b o e] at hb;cases hb
   obtain⟨v,s2,h1,R3,hrun⟩:=zyC hrs R2 hk;exact⟨v,hrun,v,s2.M,rfl,h1,R3.rd.M,R3.Fle,R3.dj,R3.os,R3.out,R3.tape,R3.grow⟩
 refine zBp c r hr _ _ [] F _ _ w R0 h ?_;intro e F' β' s' a' w' hk hFF R';cases e with
 | normal=>exact out hk hFF R'
 | ret=>exact out hk hFF R'
 | _=>exact hk.elim
theorem zEz {P:Program} {kf:Nat→List Nat} {f:Nat} {fn:Func} {r:zi} {rs:List zp} {args:List Value} {M:Mem} {R:Value→Mem→Prop}
  (hf:P.funcs[f]? = some fn) (hr:fn.body.bind (res P fn.ntmps kf)=some r) (hrs:zqK P fn=some rs) (hn:args.length≤fn.ntmps) (hen:zfy P f=true)
  (h:vfn P r rs args M R):CallsM P f args M R:=by
 obtain⟨c,hb,hr⟩:=Option.bind_eq_some_iff.1 hr;exact zBq hf hb hr hrs hn hen h
end Go.Vm
namespace Go.Vm.S
open Go.Vm
@[reducible] def rg (a:Nat):Nat→List Nat|0=>[]|n+1=>a::rg (a+1) n
@[reducible] instance (n:Nat):OfNat Operand n:=⟨.tmp n⟩
@[reducible] def q (a b:zi):zi := .seq a b
@[reducible] def p (l:List zbD) (k:List Nat):zi := .ops l k
@[reducible] def w (o:zbD) (t:zfq):zfq := .take o t
@[reducible] def A (o:zbD) (n:Bool) (t m:zfq):zfq := .alt o n t m
@[reducible] def c (x:Operand) (a b:zi):zi := .cond x a b
@[reducible] def pn:Operand := .const (.pointer none)
@[reducible] def kt:Operand := .const (.bool true)
@[reducible] def kg:Operand := .const (.bool false)
@[reducible] def ib (d:Nat) (b:BinOp) (x y:Operand):zbD:=⟨some d,.ibin b x y,none,false⟩
@[reducible] def ln (d:Nat) (x:Operand):zbD:=⟨some d,.len x,none,false⟩
@[reducible] def nk (d:Nat) (x:Operand):zbD:=⟨some d,.nilck x,none,false⟩
@[reducible] def pk (d:Nat) (x y z:Operand):zbD:=⟨some d,.pick x y z,none,false⟩
@[reducible] def ia (d n:Nat) (x y:Operand):zbD:=⟨some d,.iaddr n x y,none,false⟩
@[reducible] def z:Nat→List Value→List Value|0,l=>l|n+1,l => .int .i64 0::z n l
@[reducible] def FO (P:Program) (f n:Nat) (c:zi) (r:List zp):Prop:=∀ {args:List Value} {M:Mem} {R:Value→Mem→Prop},args.length≤n→vfn P c r args M R→CallsM P f args M R
def kz:Code→zi→List (Nat×List Nat)
 | .seq a b,.seq c d=>kz a c++kz b d
 | .cond _ a b,.cond _ c d=>kz a c++kz b d
 | .block _ a,.block _ c=>kz a c
 | .loop a,.loop c=>kz a c
 | .scope a,.scope c=>kz a c
 | .rangeFunc _ _ a b,.rfun _ _ c d=>kz a c++kz b d
 | .region i _ _,.ops _ l=>[(i,l)]
 | .region i _ _,.draw _ l=>[(i,l)]
 | _,_=>[]
def kq (b:Option Code) (r:zi) (i:Nat):List Nat:=match b with|some b=>(((kz b r).find? (fun x=>Nat.beq x.1 i)).map (fun x=>x.2)).getD []|none=>[]
theorem fk {P:Program} {f n:Nat} {fn:Func} {r:zi} {rs:List zp} (hf:P.funcs[f]? = some fn) (hr:fn.body.bind (res P fn.ntmps (kq fn.body r))=some r:=by kernel_rfl) (hrs:zqK P fn=some rs:=by kernel_rfl) (hn:fn.ntmps=n:=by kernel_rfl) (hen:zfy P f=true:=by kernel_rfl):FO P f n r rs:=fun h h'=>zEz hf hr hrs (hn▸h) hen h'
@[reducible] def t (n:Nat):Operand := .tmp n
@[reducible] def k (n:Int):Operand := .const (.int .i64 n)
@[reducible] def kb (b:Bool):Operand := .const (.bool b)
@[reducible] def fn (n:Nat):Operand := .func n
@[reducible] def i (n:Int):Value := .int .i64 n
@[reducible] def u (n:Int):Value := .int .u8 n
@[reducible] def sn:Value := .slice none 0 0
@[reducible] def o (d:Nat) (x:ROp):zbD:=⟨some d,x,none,false⟩
@[reducible] def e (x:ROp):zbD:=⟨none,x,none,false⟩
@[reducible] def os (d:Nat) (x:ROp):zbD:=⟨some d,x,none,true⟩
@[reducible] def gt (g:Nat) (d:Nat) (x:ROp):zbD:=⟨some d,x,some (g,true),false⟩
@[reducible] def gf (g:Nat) (d:Nat) (x:ROp):zbD:=⟨some d,x,some (g,false),false⟩
@[reducible] def st (n:Nat) (p x:Operand):zbD:=⟨none,.store n p x,none,false⟩
@[reducible] def ad (d:Nat) (x y:Operand):zbD:=⟨some d,.ibin .add x y,none,false⟩
@[reducible] def mv (d:Nat) (x:Operand):zbD:=⟨some d,.mov x,none,false⟩
@[reducible] def fa (d:Nat) (n:Nat) (p:Operand):zbD:=⟨some d,.faddr n p,none,false⟩
@[reducible] def l1 (d:Nat) (p:Operand):zbD:=⟨some d,.load false 1 p,none,false⟩
@[reducible] def la (d:Nat) (n:Nat) (p:Operand):zbD:=⟨some d,.load true n p,none,false⟩
@[reducible] def ca (d:Nat) (g:Nat) (l:List Operand):zbD:=⟨some d,.call (.func g) l,none,false⟩
@[reducible] def ex (d:Nat) (x:Operand) (j:Nat):zbD:=⟨some d,.extract x j,none,false⟩
end Go.Vm.S
namespace Go.Proofs.YtpdkkbpkplhdpaaGreat
@[reducible] def F.ze4:Nat:=3
@[reducible] def F.zia:Nat:=8
@[reducible] def F.zib:Nat:=9
@[reducible] def F.zkM:Nat:=10
@[reducible] def F.zgu:Nat:=11
@[reducible] def F.zg1:Nat:=12
@[reducible] def F.zdH:Nat:=13
@[reducible] def F.zdZ:Nat:=14
@[reducible] def F.zhL:Nat:=15
@[reducible] def F.zfh:Nat:=16
@[reducible] def F.zgb:Nat:=17
@[reducible] def F.zgv:Nat:=18
@[reducible] def F.zcf:Nat:=19
@[reducible] def F.zdK:Nat:=20
@[reducible] def F.zc1:Nat:=21
@[reducible] def F.zb3:Nat:=22
@[reducible] def F.zeB:Nat:=23
@[reducible] def F.zdL:Nat:=24
@[reducible] def F.zdM:Nat:=25
@[reducible] def F.zg2:Nat:=27
@[reducible] def F.zeC:Nat:=28
@[reducible] def F.zjq:Nat:=30
@[reducible] def F.zg3:Nat:=34
@[reducible] def F.zkN:Nat:=35
@[reducible] def F.zic:Nat:=36
@[reducible] def F.zjr:Nat:=37
@[reducible] def F.zjs:Nat:=38
@[reducible] def F.zdg:Nat:=39
@[reducible] def F.zfr:Nat:=40
@[reducible] def F.zgm:Nat:=41
@[reducible] def F.zcz:Nat:=42
@[reducible] def F.zef:Nat:=43
@[reducible] def F.zds:Nat:=44
@[reducible] def F.zd3:Nat:=45
@[reducible] def F.zeD:Nat:=46
@[reducible] def F.zd0:Nat:=47
@[reducible] def F.zhM:Nat:=48
@[reducible] def F.zjt:Nat:=49
@[reducible] def F.zkO:Nat:=50
@[reducible] def F.zg4:Nat:=51
@[reducible] def F.zkP:Nat:=52
@[reducible] def F.zgc:Nat:=53
@[reducible] def F.zfi:Nat:=54
@[reducible] def F.zde:Nat:=55
@[reducible] def F.zcg:Nat:=56
@[reducible] def F.zep:Nat:=57
@[reducible] def F.zbk:Nat:=58
@[reducible] def F.zeO:Nat:=59
@[reducible] def F.zeE:Nat:=60
@[reducible] def F.zh0:Nat:=61
@[reducible] def F.zee:Nat:=62
@[reducible] def F.zbG:Nat:=63
@[reducible] def F.zeq:Nat:=64
@[reducible] def F.zer:Nat:=65
@[reducible] def F.zdW:Nat:=66
@[reducible] def F.zgA:Nat:=68
@[reducible] def F.zc2:Nat:=69
@[reducible] def F.zdN:Nat:=70
@[reducible] def F.zg5:Nat:=71
@[reducible] def F.zcH:Nat:=72
@[reducible] def F.zbl:Nat:=73
@[reducible] def F.zeg:Nat:=74
@[reducible] def F.zdh:Nat:=75
@[reducible] def F.zdi:Nat:=76
@[reducible] def F.zlS:Nat:=77
@[reducible] def F.zg6:Nat:=78
@[reducible] def F.zlT:Nat:=79
@[reducible] def F.zid:Nat:=80
@[reducible] def F.zbV:Nat:=81
@[reducible] def F.zg7:Nat:=82
@[reducible] def F.zhN:Nat:=83
@[reducible] def F.zie:Nat:=84
@[reducible] def F.zgn:Nat:=85
@[reducible] def F.zkQ:Nat:=86
@[reducible] def F.zd4:Nat:=87
@[reducible] def F.zeP:Nat:=88
@[reducible] def F.zd5:Nat:=89
@[reducible] def F.zlU:Nat:=90
@[reducible] def F.zcI:Nat:=91
@[reducible] def F.zdj:Nat:=92
@[reducible] def F.zdy:Nat:=93
@[reducible] def F.zfS:Nat:=94
@[reducible] def F.zc3:Nat:=97
@[reducible] def F.zif:Nat:=98
@[reducible] def F.ze5:Nat:=99
@[reducible] def F.zeU:Nat:=100
@[reducible] def F.zdO:Nat:=101
@[reducible] def F.zig:Nat:=102
@[reducible] def F.zhy:Nat:=103
@[reducible] def F.zju:Nat:=104
@[reducible] def F.zcj:Nat:=105
@[reducible] def F.zbW:Nat:=106
@[reducible] def F.zcu:Nat:=107
@[reducible] def F.zdP:Nat:=108
@[reducible] def F.zgL:Nat:=109
@[reducible] def F.zfz:Nat:=110
@[reducible] def F.zh1:Nat:=111
@[reducible] def F.zg8:Nat:=112
@[reducible] def F.zih:Nat:=113
@[reducible] def F.zkR:Nat:=114
@[reducible] def F.zhz:Nat:=115
@[reducible] def F.zhO:Nat:=116
@[reducible] def F.zfT:Nat:=117
@[reducible] def F.zgB:Nat:=118
@[reducible] def F.zjv:Nat:=119
@[reducible] def F.zcv:Nat:=120
@[reducible] def F.zkS:Nat:=121
@[reducible] def F.zjw:Nat:=122
@[reducible] def F.zjx:Nat:=123
@[reducible] def F.zjy:Nat:=124
@[reducible] def F.zfU:Nat:=125
@[reducible] def F.zes:Nat:=126
@[reducible] def F.zb4:Nat:=127
@[reducible] def F.zet:Nat:=128
@[reducible] def F.zdk:Nat:=129
@[reducible] def F.zd6:Nat:=130
@[reducible] def F.zcd:Nat:=131
@[reducible] def F.zkt:Nat:=132
@[reducible] def F.zeu:Nat:=133
@[reducible] def F.zd7:Nat:=134
@[reducible] def F.zcJ:Nat:=135
@[reducible] def F.zgC:Nat:=136
@[reducible] def F.zg9:Nat:=148
@[reducible] def F.zfV:Nat:=149
@[reducible] def F.zhP:Nat:=150
@[reducible] def F.zjz:Nat:=151
@[reducible] def F.zdF:Nat:=153
@[reducible] def F.zdQ:Nat:=154
@[reducible] def F.zlV:Nat:=155
@[reducible] def F.zeQ:Nat:=156
@[reducible] def F.zjA:Nat:=157
@[reducible] def F.zfs:Nat:=158
@[reducible] def F.zgD:Nat:=159
@[reducible] def F.zii:Nat:=160
@[reducible] def F.zft:Nat:=161
@[reducible] def F.zgE:Nat:=162
@[reducible] def F.zd8:Nat:=163
@[reducible] def F.zc6:Nat:=164
@[reducible] def F.zj8:Nat:=165
@[reducible] def F.zij:Nat:=166
@[reducible] def F.zgd:Nat:=168
@[reducible] def F.zha:Nat:=169
@[reducible] def F.zeF:Nat:=184
@[reducible] def F.zik:Nat:=185
@[reducible] def F.zhA:Nat:=186
@[reducible] def F.zev:Nat:=187
@[reducible] def F.zdB:Nat:=198
@[reducible] def F.zhb:Nat:=203
@[reducible] def F.zhB:Nat:=204
@[reducible] def T.zr:TypeId:=3
@[reducible] def T.zhc:TypeId:=4
@[reducible] def T.zn:TypeId:=5
@[reducible] def T.zdl:TypeId:=9
@[reducible] def T.zgo:TypeId:=23
@[reducible] def T.zh2:TypeId:=25
@[reducible] def T.zlW:TypeId:=26
@[reducible] def T.zxV:TypeId:=27
@[reducible] def T.zpG:TypeId:=35
@[reducible] def T.zaK:TypeId:=36
@[reducible] def T.zdz:TypeId:=38
@[reducible] def T.znn:TypeId:=40
@[reducible] def T.zK:TypeId:=46
@[reducible] def T.zno:TypeId:=54
@[reducible] def T.zlX:TypeId:=56
@[reducible] def T.zhC:TypeId:=61
@[reducible] def T.zaP:TypeId:=65
@[reducible] def T.zaC:TypeId:=103
@[reducible] def T.zA:TypeId:=105
@[reducible] def T.zbQ:TypeId:=111
@[reducible] def T.zP:TypeId:=113
@[reducible] def T.zbM:TypeId:=120
@[reducible] def T.zz8:TypeId:=137
@[reducible] def T.zo:TypeId:=139
@[reducible] def T.zbo:TypeId:=148
@[reducible] def T.zbm:TypeId:=159
@[reducible] def T.za2:TypeId:=161
@[reducible] def T.zcn:TypeId:=165
@[reducible] def T.zmJ:TypeId:=175
@[reducible] def T.zqY:TypeId:=183
@[reducible] def T.zab:TypeId:=206
@[reducible] def T.ziG:TypeId:=232
end Go.Proofs.YtpdkkbpkplhdpaaGreat
namespace Go.Vm
theorem brn {x:Bool} {A B:Prop} (h:x=true→A) (h':x=false→B):Brn x A B:=⟨h,h'⟩
theorem brn_t {x:Bool} {A B:Prop} (hx:x=true) (h:A):Brn x A B:=⟨fun _=>h,fun e=>absurd (hx.symm.trans e) (by simp)⟩
theorem brn_f {x:Bool} {A B:Prop} (hx:x=false) (h:B):Brn x A B:=⟨fun e=>absurd (hx.symm.trans e) (by simp),fun _=>h⟩
theorem ob {p A:Prop} (h:p) (h':A):Ob p A:=⟨h,h'⟩
theorem grow_same {X M:Mem} {A:Mem→Prop} (h:X.le M) (h':A X):Grow X M A:=⟨X,fun _ _ h=>h,h,h'⟩
theorem zEA {X M:Mem} {A:Mem→Prop} (X':Mem) (h:X.le X') (h2:X'.le M) (h':A X'):Grow X M A:=⟨X',h,h2,h'⟩
theorem on {α:Type} {x:Option α} {l:α} {k:α→Prop} (h:x=some l) (h':k l):onO x k:=by subst h;exact h'
theorem atp {a:Option Addr} {b o:Nat} {k:Nat→Nat→Prop} (h:a=some ⟨b,o,none⟩) (h':k b o):atO a k:=by subst h;exact h'
theorem CallsM.mono {P:Program} {f:Nat} {args:List Value} {M:Mem} {R R':Value→Mem→Prop} (h:CallsM P f args M R) (hr:∀ v M',R v M'→R' v M'):CallsM P f args M R':=
 ⟨h.1,fun F w h1 h2 h3=>(h.2 F w h1 h2 h3).mono fun _ _ ⟨v,M',he,hk,hx⟩=>⟨v,M',he,hr v M' hk,hx⟩⟩
theorem zEB {σ:Type} {body:(Exit→St→Prop)→St→Prop} {Q:Exit→St→Prop} {s:St} (st:σ→St) (inv:σ→Prop) (μ:σ→Nat) (x0:σ) (h0:inv x0) (hs:(st x0).sub s)
  (h:∀ x,inv x→body (zlI Q fun s'=>∃ y,inv y∧μ y<μ x∧(st y).sub s') (st x)):zav body Q s:=
 ⟨fun m t=>∃ x,inv x∧μ x=m∧t=st x,⟨_,_,⟨x0,h0,rfl,rfl⟩,hs⟩,fun m t ⟨x,hx,hm,ht⟩=>by
  subst hm;subst ht
  have e:(fun s'=>∃ m' t',m'<μ x∧(∃ y,inv y∧μ y=m'∧t'=st y)∧t'.sub s')=fun s'=>∃ y,inv y∧μ y<μ x∧(st y).sub s':=by
   funext s';apply propext;constructor
   ·rintro ⟨m',t',h1,⟨y,h2,rfl,rfl⟩,h3⟩;exact⟨y,h2,h1,h3⟩
   ·rintro ⟨y,h1,h2,h3⟩;exact⟨_,_,h2,⟨y,h1,rfl,rfl⟩,h3⟩
  rw[e]
  exact h x hx⟩
theorem loop {σ:Type} {body:(Exit→St→Prop)→St→Prop} {Q:Exit→St→Prop} {s:St} (st:σ→St) (inv:σ→Prop) (μ:σ→Nat) (x0:σ) (h0:inv x0) (hs:(st x0).sub s)
  (h:∀ x,inv x→body (zlI Q fun s'=>∃ y,inv y∧μ y<μ x∧(st y).sub s') (st x)):zax body Q s := .inl (zEB st inv μ x0 h0 hs h)
theorem za6 {σ:Type} {body:(Exit→St→Prop)→St→Prop} {Q:Exit→St→Prop} {fr0:List (Nat×SV)} {bx0:List BE} {M0:Mem} (keys:List Nat) (fr:σ→List (Nat×SV)) (bx:σ→List BE) (mem:σ→Mem) (inv:σ→Prop) (μ:σ→Nat) (x0:σ) (h0:inv x0)
  (hs:St.sub ⟨fr x0++zeK keys fr0,bx x0,mem x0⟩ ⟨fr0,bx0,M0⟩)
  (h:∀ x,inv x→body (zlI Q fun s'=>∃ y,inv y∧μ y<μ x∧St.sub ⟨fr y++zeK keys fr0,bx y,mem y⟩ s') ⟨fr x++zeK keys fr0,bx x,mem x⟩):zax body Q ⟨fr0,bx0,M0⟩:=
 loop (fun x=>⟨fr x++zeK keys fr0,bx x,mem x⟩) inv μ x0 h0 hs h
theorem zdc {σ:Type} {body:(Exit→St→Prop)→St→Prop} {Q:Exit→St→Prop} {fr0:List (Nat×SV)} {bx0:List BE} {M0:Mem} (keys:List Nat) (fr:σ→List (Nat×SV)) (inv:σ→Prop) (μ:σ→Nat) (x0:σ) (h0:inv x0)
  (hs:St.sub ⟨fr x0++zeK keys fr0,bx0,M0⟩ ⟨fr0,bx0,M0⟩)
  (h:∀ x,inv x→body (zlI Q fun s'=>∃ y,inv y∧μ y<μ x∧St.sub ⟨fr y++zeK keys fr0,bx0,M0⟩ s') ⟨fr x++zeK keys fr0,bx0,M0⟩):zax body Q ⟨fr0,bx0,M0⟩:=
 loop (fun x=>⟨fr x++zeK keys fr0,bx0,M0⟩) inv μ x0 h0 hs h
theorem app {E:TypeId} {size bytes:Nat} {a:Option Addr} {n c m:Nat} {news:List Value} {M:Mem} {k:Option Addr→Nat→Mem→Prop} (M0:Mem) (L:List Value) (hown:Own M0 E size a n c L M)
  (h1:(n+m)*bytes≤140737488355328) (h2:n+m≤maxLen) (h3:∀ u∈news,u.oneCell'=true) (hk:∀ a' c' M',Own M0 E size a' (n+m) c' (L++news) M'→k a' c' M'):zaD E size bytes a n c m news M k:=
 ⟨h1,h2,h3,M0,L,hown,fun a' c' M' _ ho=>hk a' c' M' ho⟩
theorem appC {E:TypeId} {size bytes:Nat} {a:Option Addr} {n c m:Nat} {news:List Value} {M:Mem} {k:Option Addr→Nat→Mem→Prop} (M0:Mem) (L:List Value) (hown:Own M0 E size a n c L M)
  (h1:(n+m)*bytes≤140737488355328) (h2:n+m≤maxLen) (h3:∀ u∈news,u.oneCell'=true) (hk:∀ a' c' M',(c'=c∨c'≤maxLen)→Own M0 E size a' (n+m) c' (L++news) M'→k a' c' M'):zaD E size bytes a n c m news M k:=
 ⟨h1,h2,h3,M0,L,hown,hk⟩
theorem zdR {M:Mem} {size:Nat} {a:Option Addr} {n:Nat} {k:List Value→Prop} {vs:List Value} (h:SrcOk M size a n vs) (hk:k vs):za5 M size a n k:=⟨vs,h,hk⟩
theorem zyD {M:Mem} {a:Option Addr} {n:Nat} {k:SV→Prop} {bs:List UInt8} (h:SrcOk M 1 a n (bs.map zl)) (hk:k (.c (.v (.string ⟨bs.toArray⟩)))):zbc M a n k:=⟨bs,h,hk⟩
theorem new {M:Mem} {k:Nat→Prop} (h:∀ b,M b=none→k b):New M k:=h
theorem Mem.le_setCells {M:Mem} {b:Nat} {E:TypeId} {l:List Value} (h:M b=none):M.le (M.setCells b E l):=fun c o hc=>by
 have hne:c≠b:=fun e=>by subst e;rw[h] at hc;cases hc
 simpa[Mem.setCells,Mem.upd_ne _ _ hne] using hc
theorem Own.none (M:Mem) (E:TypeId) (size:Nat):Own M E size none 0 0 [] M:=⟨by simp,Nat.le_refl _,.inl ⟨rfl,rfl,rfl⟩⟩
theorem Own.lit {M:Mem} {b:Nat} (h:M b=Option.none) (E:TypeId) (size n:Nat) (L:List Value) (hl:L.length=n*size):Own M E size (some ⟨b,0,Option.none⟩) n n L (M.setCells b E L):=
 ⟨hl,Nat.le_refl _,.inr ⟨b,L,rfl,h,rfl,hl,by rw[List.take_of_length_le (by omega)]⟩⟩
theorem Own.base {M0:Mem} {E:TypeId} {size:Nat} {a:Option Addr} {n c:Nat} {L:List Value} {M:Mem} (h:Own M0 E size a n c L M):M0.le M:=by
 obtain⟨_,_,⟨_,_,rfl⟩|⟨b,cs,_,hb,rfl,_,_⟩⟩:=h
 ·exact Mem.le_refl _
 ·exact Mem.le_setCells hb
theorem Own.src {M0:Mem} {E:TypeId} {size:Nat} {a:Option Addr} {n c:Nat} {L:List Value} {M:Mem} (h:Own M0 E size a n c L M):SrcOk M size a n L:=by
 obtain⟨hl,hc,⟨rfl,rfl,rfl⟩|⟨b,cs,rfl,hb,rfl,hcl,ht⟩⟩:=h
 ·refine⟨hl,.inl ?_⟩;have:n=0:=by omega
  subst this;simpa using hl
 ·refine⟨hl,.inr ⟨b,0,rfl,?_⟩⟩;have:n*size≤c*size:=Nat.mul_le_mul_right _ hc
  simp only[Mem.row,Mem.setCells,Mem.upd_same];rw[if_pos (by simp;omega)];simp[ht]
theorem Mem.row_le {A M:Mem} (h:A.le M) {b o n:Nat} {vs:List Value} (hr:A.row b o n=some vs):M.row b o n=some vs:=by
 unfold Mem.row at hr ⊢;cases hA:A b with
 | none=>rw[hA] at hr;cases hr
 | some x=>rw[hA] at hr;rw[h b x hA];exact hr
theorem SrcOk.le {A M:Mem} (h:A.le M) {size:Nat} {a:Option Addr} {n:Nat} {vs:List Value} (hs:SrcOk A size a n vs):SrcOk M size a n vs:=by
 obtain⟨hl,h1|⟨b,o,ha,h2⟩⟩:=hs
 ·exact⟨hl,.inl h1⟩
 ·exact⟨hl,.inr ⟨b,o,ha,Mem.row_le h h2⟩⟩
theorem SrcOk.elem {M:Mem} {s:Nat} {a:Option Addr} {n:Nat} {vs:List Value} (h:SrcOk M s a n vs) {j:Nat} (hj:j<n) (hs:0<s) :
  ∃ b o,a=some ⟨b,o,Option.none⟩∧∀ p m,p+m≤s→M.row b (o+j*s+p) m=some ((vs.drop (j*s+p)).take m):=by
 obtain⟨hl,h⟩:=h;have hle:(j+1)*s≤n*s:=Nat.mul_le_mul_right _ hj
 rw[Nat.succ_mul] at hle;rcases h with rfl|⟨b,o,rfl,hr⟩
 ·simp at hl;omega
 ·refine⟨b,o,rfl,fun p m hpm=>?_⟩;unfold Mem.row at hr ⊢;split at hr
  ·rename_i c e fz hM;split at hr
   ·simp only[Option.some.injEq] at hr;rw[if_pos (by omega),←hr];congr 1;rw[List.drop_take,List.drop_drop,List.take_take];rw[Nat.min_eq_left (by omega)];congr 2;omega
   ·cases hr
  ·cases hr
theorem SrcOk.get {M:Mem} {a:Option Addr} {n:Nat} {vs:List Value} (h:SrcOk M 1 a n vs) {j:Nat} {v:Value} (hv:vs[j]? = some v):∃ b o,a=some ⟨b,o,Option.none⟩∧M.row b (o+j*1) 1=some [v]:=by
 have hl:=h.1;have hj:=(List.getElem?_eq_some_iff.1 hv).1
 obtain⟨b,o,h1,h2⟩:=h.elem (j:=j) (by omega) (by omega);refine⟨b,o,h1,?_⟩;have:=h2 0 1 (by omega)
 simp only[Nat.add_zero] at this;rw[List.getElem?_eq_getElem hj] at hv;have hv:=Option.some.inj hv
 rw[this,Nat.mul_one,List.drop_eq_getElem_cons hj,hv];simp
theorem zd {n:Int} (h : -9223372036854775808≤n∧n≤9223372036854775807):inR .i64 n:=by
 unfold inR;rw[IntKind.wrap_i64];omega
end Go.Vm
