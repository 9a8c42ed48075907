/- Part of this proof;laid by program. -/
import Derived.Test.YtpnhjkiligohnaaGreatDoorJ5
import Derived.Test.YtpnhjkiligohnaaGreatDoorProg
set_option linter.unusedVariables false
set_option linter.unusedSimpArgs false
namespace Go.Vm
open Go.RowKit
section
variable {P:Program} {β:List Nat} {F:Mem} {w0:World} {n:Nat} {s:St} {a:Act} {w:World}
theorem Rel.move (R:Rel β F w0 n s a w) {F2:Mem} {w':World} (hs:∀ (b:Nat) o,w.heap[b]? = some o→F b=none→w'.heap[b]? = some o) (hF2:F2.le (zj w')) (hsup:∀ b,F b=none→F2 b=none)
  (hnd:(∀ d∈a.defers,∃ D:Nat,d={ target := .collected D,args := #[] }∧w0.heap.size≤D∧F2 D=some (.deferred (some [])))∧(a.defers.map Deferred.target).Nodup) (e1:w'.os=w.os) (e2:w'.output=w.output) (e3:w'.tape=w.tape)
  (e4:w.heap.size≤w'.heap.size∧w.drawn≤w'.drawn):Rel β F2 w0 n s a w':=by
 refine⟨⟨fun b o hb=>hs b o (R.rd.M b o hb) ((R.dj b).resolve_left (by rw[hb];simp)),fun j T cs hj=>?_,R.rd.gone⟩,R.fr,R.len,hF2,fun b=>(R.dj b).imp id (hsup b),fun j T cs hj b hb=>?_,R.dist,hnd,R.sz,e1.trans R.os,e2.trans R.out,e3.trans R.tape,⟨Nat.le_trans R.grow.1 e4.1,Nat.le_trans R.grow.2 e4.2⟩⟩
 ·obtain⟨b,vs,h1,h2,h3⟩:=R.rd.live j T cs hj;exact⟨b,vs,h1,h2,hs b _ h3 (R.own j T cs hj b h1).2⟩
 ·obtain⟨h1,h2⟩:=R.own j T cs hj b hb;exact⟨h1,hsup b h2⟩
def Mem.join (M N:Mem):Mem:=fun b=>match M b with|some o=>some o|none=>N b
theorem Mem.le_join (M N:Mem):M.le (M.join N):=fun b o h=>by simp[Mem.join,h]
theorem Mem.join_le {M N X:Mem} (h:M.le X) (k:N.le X):(M.join N).le X:=fun b o hb=>by
 unfold Mem.join at hb;cases e:M b with
 | some z=>rw[e] at hb;simp at hb;subst hb;exact h b _ e
 | none=>rw[e] at hb;exact k b o hb
theorem Mem.le_join2 {M N:Mem} (h:∀ b,N b≠none→M b=none):N.le (M.join N):=fun b o hb=>by
 have:=h b (by rw[hb];simp);simp[Mem.join,this,hb]
theorem Rel.more (R:Rel β F w0 n s a w) {Mx:Mem} (hMx:Mx.le (zj w)) (hfr:∀ b,Mx b≠none→F b=none∧∀ (j:Nat) (T:TypeId) (cs:List SC),s.bx[j]? = some (.live T cs)→β[j]? ≠ some b):Rel β F w0 n { s with M:=s.M.join Mx } a w:=by
 refine⟨⟨Mem.join_le R.rd.M hMx,R.rd.live,R.rd.gone⟩,R.fr,R.len,R.Fle,fun b=>?_,fun j T cs hj b hb=>?_,R.dist,R.nd,R.sz,R.os,R.out,R.tape,R.grow⟩
 ·by_cases e:Mx b=none
  ·rcases R.dj b with h|h
   ·left;simp[Mem.join,h,e]
   ·exact .inr h
  ·exact .inr (hfr b e).1
 ·obtain⟨h1,h2⟩:=R.own j T cs hj b hb;refine⟨?_,h2⟩;cases e:Mx b with
  | none=>simp[Mem.join,h1,e]
  | some o=>exact absurd hb ((hfr b (by rw[e];simp)).2 j T cs hj)
theorem Rel.puts:∀ (ps:List Nat) (vs:List Value) (s:St) (a:Act),(∀ p∈ps,p<n)→Rel β F w0 n s a w →
  Rel β F w0 n { s with fr:=zDu ps vs s.fr } { tmps:=(ps.zip vs).foldl (fun t p=>t.setIfInBounds p.1 p.2) a.tmps,defers:=a.defers } w
 | [],_,s,a,_,R=>R
 | _::_,[],s,a,_,R=>R
 | p::ps,v::vs,s,a,hp,R=>Rel.puts ps vs { s with fr:=(p,zdL v)::s.fr } { a with tmps:=a.tmps.setIfInBounds p v } (fun q hq=>hp q (by simp[hq])) (Rel.put R (d:=some p) (fun e he=>by cases he;exact hp p (by simp)) (.inr (zk3 β v)))
theorem WLe.alloc (W:World) (o:Obj):WLe W (W.alloc o):=⟨rfl,rfl,rfl,Nat.le_refl _,by simp,fun k o' h=>(Below.heap_alloc W o k (Array.getElem?_eq_some_iff.1 h).1).trans h⟩
theorem WLe.trans {A B C:World} (h:WLe A B) (k:WLe B C):WLe A C:=⟨k.os.trans h.os,k.output.trans h.output,k.tape.trans h.tape,Nat.le_trans h.drawn k.drawn,Nat.le_trans h.size k.size,fun i o e=>k.same i o (h.same i o e)⟩
theorem zCd {kf:Nat→List Nat} {g:Operand} {ps:Array Tmp} {ca cb:Code} {ra rb:RCode} (hra:res P n kf ca=some ra) (hrb:res P n kf cb=some rb) (hda:noD ca=true) (hdb:noD cb=true) (hps:∀ p∈ps.toList,p<n)
  {K:Exit→St→Prop} {Q:Exit→Act→World→Prop} (R:Rel β F w0 n s a w) (h:vc P (.rfun g ps.toList ra rb) K s)
  (hK:∀ F' β' s' a' w',K .normal s'→F.le F'→Rel β' F' w0 n s' a' w'→Q .normal a' w'):(Code.rangeFunc g ps ca cb).wpIn Fence.wide 0 P Q a w:=by
 obtain⟨sv,v,hk,hv,he⟩:=zl R.fr h;unfold zF2 at hk;split at hk
 case h_2=>exact hk.elim
 rename_i gf fst lb;obtain⟨hfst,hk⟩:=hk;obtain⟨s',hk,R,hfr'⟩:=zp5 _ _ _ R hk;obtain⟨hen,hgone,α,encs,A,N,PM,D,I,hit,hA,hlen,⟨M0,hM0,hAM0,hI0⟩,hround,hdone⟩:=hk;have hfst0:fst = #[]:=Array.eq_empty_of_size_eq_zero (Nat.eq_of_beq_eq_true hfst)
 subst hfst0;simp[SV.val,SC.val] at hv;subst hv
 have hgn:∀ (j:Nat) T cs,s'.bx[j]? ≠ some (.live T cs):=fun j T cs hj=>by
  rw[List.all_eq_true] at hgone;have:=hgone _ (List.mem_of_getElem? hj)
  cases this
 refine wpIn_rangeFunc fun fn hfn=>?_
 obtain⟨n1,hn1⟩:∃ n1,n1=w.heap.size:=⟨_,rfl⟩
 obtain⟨rec,hrec⟩:∃ rec:LoopState→Option Code→Loop,rec=fun st pe=>{ state:=st,pending:=pe,fn,tmps:=a.tmps,params:=ps,assign:=ca,body:=cb,defers:=w.heap.size }:=⟨_,rfl⟩
 obtain⟨W1,hW1⟩:∃ W1,(w.alloc (.deferred (some []))).alloc (.loop (rec .ready none))=W1:=⟨_,rfl⟩
 have hle1:WLe w W1:=hW1▸(WLe.alloc w _).trans (WLe.alloc _ _)
 have hL1:W1.heap[n1+1]? = some (.loop (rec .ready none)):=by
  rw[←hW1,hn1];have:=World.alloc_heap_new (w.alloc (.deferred (some []))) (.loop (rec .ready none));rwa [World.size_alloc] at this
 have hK1:W1.heap[n1]? = some (.deferred (some [])):=by
  rw[←hW1,hn1];exact(Below.heap_alloc _ _ _ (by simp)).trans (World.alloc_heap_new w _)
 have hnew:∀ (b:Nat) (o:Obj),w.heap[b]? = some o→b≠n1∧b≠n1+1:=fun b o hb=>by
  have:=(Array.getElem?_eq_some_iff.1 hb).1;omega
 obtain⟨F1,hF1⟩:∃ F1:World→Mem,F1=fun W b=>if b=n1∨b=n1+1 then zj W b else (F.join A) b:=⟨_,rfl⟩
 have hFA:(F.join A).le (zj w):=Mem.join_le R.Fle (Mem.le_trans hA R.rd.M)
 have hF1le:∀ W:World,(F.join A).le (zj W)→(F1 W).le (zj W):=fun W hW b o hb=>by
  rw[hF1] at hb;dsimp only at hb;split at hb
  ·exact hb
  ·exact hW b o hb
 have hF1n:∀ W b,b≠n1→b≠n1+1→F1 W b=(F.join A) b:=fun W b h1 h2=>by rw[hF1];dsimp only;rw[if_neg (by omega)]
 have hF1d:∀ W,F1 W n1=zj W n1:=fun W=>by rw[hF1];dsimp only;rw[if_pos (.inl rfl)]
 have hF1l:∀ W,F1 W (n1+1)=zj W (n1+1):=fun W=>by rw[hF1];dsimp only;rw[if_pos (.inr rfl)]
 have hFn:∀ b o,(F.join A) b=some o→b≠n1∧b≠n1+1:=fun b o hb=>hnew b o (hFA b o hb)
 have hF1ge:∀ W,(F.join A).le (F1 W):=fun W b o hb=>by rw[hF1n W b (hFn b o hb).1 (hFn b o hb).2];exact hb
 obtain⟨J,hJ⟩:∃ J:List α→World→Prop,J=fun pre W=>(∃ M,I pre M∧Rel β (F1 W) w0 n ⟨s'.fr,s'.bx,M⟩ { a with defers:=[] } W)∧W.heap[n1+1]? = some (.loop (rec .ready none))∧W.heap[n1]? = some (.deferred (some [])):=⟨_,rfl⟩
 refine⟨n1+1,[{ target := .collected n1,args := #[] }],W1,{ target := .fn (.func gf) lb,args := #[.func (.yield (n1+1)) #[] #[]] },W1,gf,
  #[.func (.yield (n1+1)) #[] #[]]++lb,W1,?_,?_,fun _ _=>trivial,?_,fun h=>(by cases h),?_⟩
 ·rw[←hW1,hrec,hn1];exact run_enterLoop_outer _ _ _ _ _
 ·simp only[resolve,he];simp[go_sem]
 ·simp[invoke,go_sem,zxf hen]
 have hlb:lb.toList.toArray=lb:=by simp
 have hAW1:A.le (zj W1):=fun b o hb=>hle1.same b o (R.rd.M b o (hA b o hb))
 have key:=hit (n1+1) J W1 hAW1 ?_ ?_
 ·rw[hlb] at key;refine key.mono ?_;rintro e W2 ⟨⟨v,rfl⟩,xs,Wp,hD,hJx,hle⟩;rw[hJ] at hJx;obtain⟨⟨M,hIx,Rx⟩,hl,hk⟩:=hJx;have hdj:∀ b,M b=none∨F1 Wp b=none:=Rx.dj
  have hl2:=hle.same _ _ hl;have hk2:=hle.same _ _ hk
  have hrun:=run_endLoop (P:=P) hl2 (by rw[hrec];simp);obtain⟨W4,hW4⟩:∃ W4,W4=W2.putObj (n1+1) (.loop { rec .ready none with state := .exhausted }):=⟨_,rfl⟩
  rw[←hW4] at hrun;refine⟨none,W4,by rw[hrun];simp[hrec],?_⟩;have h4:∀ (b:Nat),b≠n1+1→W4.heap[b]? = W2.heap[b]? := fun b hb=>by rw[hW4];exact World.putObj_heap_other hb
  have hdisj:∀ b,A b≠none→M b=none:=fun b hb=>by
   obtain⟨o,ho⟩:=Option.ne_none_iff_exists'.1 hb;have hw:=R.rd.M b o (hA b o ho)
   refine(hdj b).resolve_right ?_;rw[hF1n _ b (hnew b o hw).1 (hnew b o hw).2];cases hf:F b with
   | some z=>simp[Mem.join,hf]
   | none=>simp[Mem.join,hf,ho]
  have hmem:∀ (b:Nat) (o:Obj),M b=some o→b≠n1+1∧Wp.heap[b]? = some o:=fun b o hb=>by
   have h5:=Rx.rd.M b o hb;refine⟨fun e=>?_,h5⟩;subst e;have:=(hdj (n1+1)).resolve_left (by rw[hb];simp)
   rw[hF1l] at this;rw[show zj Wp (n1+1)=_ from hl] at this;cases this
  have hFp:(F.join A).le (zj Wp):=fun b o hb=>Rx.Fle b o (hF1ge Wp b o hb)
  have hML:M.le (zj W4):=fun b o hb=>by
   obtain⟨h5,h6⟩:=hmem b o hb;show W4.heap[b]? = _
   rw[h4 b h5];exact hle.same b o h6
  have hFL:(F.join A).le (zj W4):=fun b o hb=>by
   show W4.heap[b]? = _;rw[h4 b (hFn b o hb).2];exact hle.same b o (hFp b o hb)
  have hFF:F.le (F.join A):=Mem.le_join F A
  have hAFd:∀ b,A b≠none→F b=none:=fun b hb=>by
   obtain⟨o,ho⟩:=Option.ne_none_iff_exists'.1 hb;exact(R.dj b).resolve_left (by rw[hA b o ho];simp)
  have hAJ:A.le (F.join A):=Mem.le_join2 hAFd
  have hFd:F n1=none:=by
   cases e:F n1 with
   | none=>rfl
   | some o=>exact absurd rfl (hFn n1 o (hFF n1 o e)).1
  obtain⟨F',hF'⟩:∃ F':Mem,F'=F.upd n1 (.deferred (some [])):=⟨_,rfl⟩
  have hFle':F.le F':=fun b o hb=>by
   rw[hF',Mem.upd_ne _ _ (hFn b o (hFF b o hb)).1];exact hb
  refine hK F' β ⟨s'.fr,s'.bx,M.join A⟩ _ W4 (hdone xs M (M.join A) hD hIx hdisj (Mem.le_join _ _) (Mem.le_join2 hdisj)) hFle' ?_;refine⟨⟨Mem.join_le hML (Mem.le_trans hAJ hFL),fun j T cs hj=>absurd hj (hgn j T cs),R.rd.gone⟩,Rx.fr,R.len,fun b o hb=>?_,fun b=>?_,fun j T cs hj=>absurd hj (hgn j T cs),fun i j Ti ci Tj cj hi=>absurd hi (hgn i Ti ci),?_,R.sz,?_,?_,?_,?_⟩
  ·rw[hF'] at hb;by_cases e:b=n1
   ·subst e;rw[Mem.upd_same] at hb;cases hb;show W4.heap[b]? = _
    rw[h4 b (by omega)];exact hk2
   ·rw[Mem.upd_ne _ _ e] at hb;exact hFL b o (hFF b o hb)
  ·rw[hF'];by_cases e:b=n1
   ·subst e;left
    have h5:M b=none:=by
     cases e:M b with
     | none=>rfl
     | some o=>
      have:=(hdj b).resolve_left (by rw[e];simp);rw[hF1d] at this;rw[show zj Wp b=_ from hk] at this;cases this
    have h6:A b=none:=by
     cases e:A b with
     | none=>rfl
     | some o=>exact absurd rfl (hFn b o (hAJ b o e)).1
    simp[Mem.join,h5,h6]
   ·rw[Mem.upd_ne _ _ e];cases e1:F b with
    | none=>exact .inr rfl
    | some o=>
     left;have h7:=hFn b o (hFF b o e1)
     have h5:M b=none:=(hdj b).resolve_right (by rw[hF1n _ b h7.1 h7.2,hFF b o e1];simp)
     have h6:A b=none:=by
      cases e2:A b with
      | none=>rfl
      | some o2=>rw[hAFd b (by rw[e2];simp)] at e1;cases e1
     simp[Mem.join,h5,h6]
  ·refine⟨fun d hd=>?_,?_⟩
   ·simp only[List.cons_append,List.nil_append,List.mem_cons] at hd;rcases hd with rfl|hd
    ·exact⟨n1,rfl,by rw[hn1];exact R.grow.1,by rw[hF',Mem.upd_same]⟩
    ·obtain⟨D',h1,h2,h3⟩:=R.nd.1 d hd;exact⟨D',h1,h2,hFle' _ _ h3⟩
   ·simp only[List.cons_append,List.nil_append,List.map_cons,List.nodup_cons];refine⟨fun hm=>?_,R.nd.2⟩;obtain⟨d,hd,e⟩:=List.mem_map.1 hm;obtain⟨D',h1,h2,h3⟩:=R.nd.1 d hd;rw[h1] at e;simp at e;subst e;rw[hFd] at h3;cases h3
  ·rw[hW4];exact hle.os.trans Rx.os
  ·rw[hW4];exact hle.output.trans Rx.out
  ·rw[hW4];exact hle.tape.trans Rx.tape
  ·rw[hW4];exact⟨by rw[show (W2.putObj (n1+1) (.loop { rec .ready none with state := .exhausted })).heap.size=W2.heap.size by simp];exact Nat.le_trans Rx.grow.1 hle.size,Nat.le_trans Rx.grow.2 hle.drawn⟩
 ·
  intro pre x Wp W Mx hJp hle hAW hlt hPM hMxW hfresh;rw[hJ] at hJp;obtain⟨⟨M,hI,Rp⟩,hl,hk⟩:=hJp;have hlW:=hle.same _ _ hl
  have hkW:=hle.same _ _ hk;have hy:=run_yield (P:=P) (args:=(encs x).toArray) hlW (by rw[hrec];simpa using hlen x)
  rw[hrec] at hy;have hFp:(F.join A).le (zj Wp):=fun b o hb=>Rp.Fle b o (hF1ge Wp b o hb)
  have hFW:(F.join A).le (zj W):=fun b o hb=>hle.same b o (hFp b o hb)
  have R1:Rel β (F1 W) w0 n ⟨s'.fr,s'.bx,M⟩ { a with defers:=[] } W:=by
   refine Rp.move (fun b o hb _=>hle.same b o hb) (hF1le W hFW) (fun b hb=>?_) (by simp) hle.os hle.output hle.tape ⟨hle.size,hle.drawn⟩;by_cases e:b=n1
   ·subst e;rw[hF1d] at hb;rw[show zj Wp b=_ from hk] at hb;cases hb
   by_cases e2:b=n1+1
   ·subst e2;rw[hF1l] at hb;rw[show zj Wp (n1+1)=_ from hl] at hb;cases hb
   rw[hF1n _ b e e2] at hb ⊢; exact hb
  have hfb:∀ b,Mx b≠none→Wp.heap[b]? = none:=fun b hb=>by
   have:=hfresh b hb;simp[this]
  have hMf:∀ b,Mx b≠none→M b=none∧A b=none:=fun b hb=>by
   have h1:=hfb b hb;refine⟨?_,?_⟩
   ·cases e:M b with
    | none=>rfl
    | some o=>rw[Rp.rd.M b o e |> (fun h:Wp.heap[b]? = some o=>h)] at h1;cases h1
   ·cases e:A b with
    | none=>rfl
    | some o=>
     have:(F.join A) b≠none:=by
      cases e1:F b with
      | some z=>simp[Mem.join,e1]
      | none=>simp[Mem.join,e1,e]
     obtain⟨o2,ho2⟩:=Option.ne_none_iff_exists'.1 this;have h2:Wp.heap[b]? = some o2:=hFp b o2 ho2
     rw[h2] at h1;cases h1
  have hFx:∀ b,Mx b≠none→F1 W b=none:=fun b hb=>by
   have h1:=hfb b hb;by_cases e:b=n1
   ·subst e;rw[hk] at h1;cases h1
   by_cases e2:b=n1+1
   ·subst e2;rw[hl] at h1;cases h1
   rw[hF1n _ b e e2];cases e3:(F.join A) b with
   | none=>rfl
   | some o=>have h2:Wp.heap[b]? = some o:=hFp b o e3;rw[h2] at h1;cases h1
  have R2:=(Rel.more R1 hMxW (fun b hb=>⟨hFx b hb,fun j T cs hj=>absurd hj (hgn j T cs)⟩)).puts ps.toList (encs x) _ _ hps
  have htm:(ps.zip (encs x).toArray).foldl (fun t (p:Nat×Value)=>t.setIfInBounds p.1 p.2) a.tmps=(ps.toList.zip (encs x)).foldl (fun t p=>t.setIfInBounds p.1 p.2) a.tmps:=by
   rw[←Array.foldl_toList,Array.toList_zip]
  have hv:=hround pre x M Mx (M.join Mx) hI hlt hPM hMf (Mem.le_join _ _) (Mem.le_join2 fun b hb=>(hMf b hb).1);refine⟨fn,_,ca,cb,hy,roundIn_of_wpIn hfn ?_⟩;have htm2:(ps.zip (encs x).toArray).foldl (fun tmps x=>match x with|(t,a)=>tmps.setIfInBounds t a) a.tmps=(ps.toList.zip (encs x)).foldl (fun t p=>t.setIfInBounds p.1 p.2) a.tmps:=htm
  rw[htm2];refine zzy (F:=F1 W) (w0:=w0) ca ra hra hda _ _ β _ _ W (fun _ _ h=>h) (fun _ _ _ h=>h) R2 hv ?_;rintro e β2 t a2 W2 ⟨rfl,hb⟩ R4;have hl2:W2.heap[n1+1]? = some (.loop (rec .ready none)):=R4.Fle _ _ (by rw[hF1l];exact hlW)
  have hk2:W2.heap[n1]? = some (.deferred (some [])):=R4.Fle _ _ (by rw[hF1d];exact hkW);obtain⟨W3,hW3⟩:∃ W3,W3=W2.putObj (n1+1) (.loop { rec .ready none with state := .busy }):=⟨_,rfl⟩
  have h3:∀ (b:Nat),b≠n1+1→W3.heap[b]? = W2.heap[b]? := fun b hb=>by rw[hW3];exact World.putObj_heap_other hb
  have hl3:W3.heap[n1+1]? = some (.loop { rec .ready none with state := .busy }):=hW3▸World.putObj_heap_same (Array.getElem?_eq_some_iff.1 hl2).1;have hF2:(F.join A).le (zj W2):=fun b o hb=>R4.Fle b o (hF1ge W b o hb)
  have hF3:(F.join A).le (zj W3):=fun b o hb=>by show W3.heap[b]? = _;rw[h3 b (hFn b o hb).2];exact hF2 b o hb
  have hsz3:W3.heap.size=W2.heap.size:=by rw[hW3];simp
  have R5:Rel β2 (F1 W3) w0 n t a2 W3:=by
   refine R4.move (fun b o hb hF=>?_) (hF1le W3 hF3) (fun b hb=>?_) ⟨fun d hd=>?_,R4.nd.2⟩ (by rw[hW3];rfl) (by rw[hW3];rfl) (by rw[hW3];rfl) ⟨by rw[hsz3];exact Nat.le_refl _,by rw[hW3];exact Nat.le_refl _⟩
   ·rw[h3 b (fun e=>by subst e;rw[hF1l,show zj W (n1+1)=_ from hlW] at hF;cases hF)];exact hb
   ·by_cases e:b=n1
    ·subst e;rw[hF1d,show zj W b=_ from hkW] at hb;cases hb
    by_cases e2:b=n1+1
    ·subst e2;rw[hF1l,show zj W (n1+1)=_ from hlW] at hb;cases hb
    rw[hF1n _ b e e2] at hb ⊢; exact hb
   ·obtain⟨D',h5,h6,h7⟩:=R4.nd.1 d hd;refine⟨D',h5,h6,?_⟩;by_cases e:D'=n1
    ·subst e;rw[hF1d];show W3.heap[D']? = _;rw[h3 D' (by omega)];exact hk2
    by_cases e2:D'=n1+1
    ·subst e2;rw[hF1l,show zj W (n1+1)=_ from hlW] at h7;cases h7
    rw[hF1n _ D' e e2] at h7 ⊢; exact h7
  refine⟨W3,by rw[hW3];exact run_beginRound hl2 (by rw[hrec]),?_⟩;refine zzy (F:=F1 W3) (w0:=w0) cb rb hrb hdb _ _ β2 _ _ W3 (fun _ _ h=>h) (fun _ _ _ h=>h) R5 hb ?_;rintro e β3 t' a3 W4 ⟨rfl,M2,hI2,hM2⟩ R6;have hl4:W4.heap[n1+1]? = some (.loop { rec .ready none with state := .busy }):=R6.Fle _ _ (by rw[hF1l];exact hl3)
  have hk4:W4.heap[n1]? = some (.deferred (some [])):=R6.Fle _ _ (by rw[hF1d];show W3.heap[n1]? = _;rw[h3 n1 (by omega)];exact hk2);have hr:=run_endRound (P:=P) none hl4
  obtain⟨W5,hW5⟩:∃ W5,W5=W4.putObj (n1+1) (.loop (rec .ready none)):=⟨_,rfl⟩
  have hr2:(Instr.endRound (n1+1) none).run P W4 = .ok (.bool true) W5:=by rw[hW5,hr];simp[hrec]
  have h5:∀ (b:Nat),b≠n1+1→W5.heap[b]? = W4.heap[b]? := fun b hb=>by rw[hW5];exact World.putObj_heap_other hb
  have hl5:W5.heap[n1+1]? = some (.loop (rec .ready none)):=hW5▸World.putObj_heap_same (Array.getElem?_eq_some_iff.1 hl4).1;have hF4:(F.join A).le (zj W4):=fun b o hb=>R6.Fle b o (hF1ge W3 b o hb)
  have hF5:(F.join A).le (zj W5):=fun b o hb=>by show W5.heap[b]? = _;rw[h5 b (hFn b o hb).2];exact hF4 b o hb
  have hsz5:W5.heap.size=W4.heap.size:=by rw[hW5];simp
  have hMn:∀ b o,M2 b=some o→b≠n1∧b≠n1+1∧(F.join A) b=none:=fun b o hb=>by
   have h6:=(R6.dj b).resolve_left (by rw[hM2 b o hb];simp);have e1:b≠n1:=fun e=>by subst e;rw[hF1d] at h6;rw[show zj W3 b=_ from (h3 b (by omega)).trans hk2] at h6;cases h6
   have e2:b≠n1+1:=fun e=>by subst e;rw[hF1l,show zj W3 (n1+1)=_ from hl3] at h6;cases h6
   rw[hF1n _ b e1 e2] at h6;exact⟨e1,e2,h6⟩
  refine⟨_,W5,hr2,rfl,?_,fun b o hb=>?_⟩
  ·rw[hJ];refine⟨⟨M2,hI2,⟨⟨fun b o hb=>?_,fun j T cs hj=>absurd hj (hgn j T cs),R.rd.gone⟩,Rp.fr,R.len,hF1le W5 hF5,fun b=>?_,fun j T cs hj=>absurd hj (hgn j T cs),fun i j Ti ci Tj cj hi=>absurd hi (hgn i Ti ci),by simp,Rp.sz,?_,?_,?_,?_⟩⟩,hl5,?_⟩
   ·show W5.heap[b]? = _;rw[h5 b (hMn b o hb).2.1];exact R6.rd.M b o (hM2 b o hb)
   ·show M2 b=none∨_;cases e:M2 b with
    | none=>exact .inl rfl
    | some o=>right;rw[hF1n _ b (hMn b o e).1 (hMn b o e).2.1];exact(hMn b o e).2.2
   ·rw[hW5];exact R6.os
   ·rw[hW5];exact R6.out
   ·rw[hW5];exact R6.tape
   ·rw[hsz5];exact⟨R6.grow.1,by rw[hW5];exact R6.grow.2⟩
   ·rw[h5 n1 (by omega)];exact hk4
  ·have:(F.join A) b≠none:=by
    cases e1:F b with
    | some z=>simp[Mem.join,e1]
    | none=>simp[Mem.join,e1,hb]
   have hAF:F b=none:=(R.dj b).resolve_left (by rw[hA b o hb];simp);exact hF5 b o (by simp[Mem.join,hAF,hb])
 ·
  rw[hJ];refine⟨⟨M0,hI0,⟨⟨fun b o hb=>hle1.same b o (R.rd.M b o (hM0 b o hb)),fun j T cs hj=>absurd hj (hgn j T cs),R.rd.gone⟩,R.fr,R.len,hF1le W1 (fun b o hb=>hle1.same b o (hFA b o hb)),fun b=>?_,fun j T cs hj=>absurd hj (hgn j T cs),fun i j Ti ci Tj cj hi=>absurd hi (hgn i Ti ci),by simp,R.sz,hle1.os.trans R.os,hle1.output.trans R.out,hle1.tape.trans R.tape,⟨Nat.le_trans R.grow.1 hle1.size,Nat.le_trans R.grow.2 hle1.drawn⟩⟩⟩,hL1,hK1⟩;show M0 b=none∨_
  cases e:M0 b with
  | none=>exact .inl rfl
  | some o=>
   right;have hw:=R.rd.M b o (hM0 b o e)
   rw[hF1n _ b (hnew b o hw).1 (hnew b o hw).2];have h1:F b=none:=(R.dj b).resolve_left (by rw[hM0 b o e];simp)
   have h2:A b=none:=by
    cases e2:A b with
    | none=>rfl
    | some z=>rw[hAM0 b (by rw[e2];simp)] at e;cases e
   simp[Mem.join,h1,h2]
end
theorem zHK {P:Program} {w0:World} {n:Nat} {kf:Nat→List Nat}:∀ (c:Code) (r:RCode),res P n kf c=some r →
  ∀ (K:Exit→St→Prop) (Q:Exit→Act→World→Prop) (β:List Nat) (F:Mem) (s:St) (a:Act) (w:World),Rel β F w0 n s a w→vc P r K s →
  (∀ e F' β' s' a' w',K e s'→F.le F'→Rel β' F' w0 n s' a' w'→Q e a' w')→c.wp P Q a w:=by
 intro c
 induction c with
 | skip=>
  intro r hr K Q β F s a w R h hK;simp[res] at hr;subst hr;exact wp_skip (hK _ _ _ _ _ _ h (Mem.le_refl _) R)
 | region id ops draw=>
  intro r hr K Q β F s a w R h hK;simp only[res] at hr;cases draw with
  | false=>
   simp only[Option.map_eq_some_iff] at hr;obtain⟨l,hl,rfl⟩:=hr;exact wp_region_list (zkl ops.toList 0 l β s a w hl R h fun β' s' a' w' hk R'=>hK _ _ _ _ _ _ (by rw[zk2] at hk;exact hk) (Mem.le_refl _) (R'.kill _))
  | true=>
   simp only at hr;split at hr
   ·rename_i hc;simp only[Bool.and_eq_true] at hc;obtain⟨hm,hns⟩:=hc;simp only[Option.map_eq_some_iff] at hr;obtain⟨t,ht,rfl⟩:=hr
    have R1:Rel (β++[]) F w0 n s a { w with drawn:=w.drawn+1 }:=by
     rw[List.append_nil];exact⟨⟨R.rd.M,R.rd.live,R.rd.gone⟩,R.fr,R.len,R.Fle,R.dj,R.own,R.dist,R.nd,R.sz,R.os,R.out,R.tape,⟨R.grow.1,Nat.le_succ_of_le R.grow.2⟩⟩
    have main:∀ (bx0:List BE) (X:Mem),(∀ (j:Nat) T cs,bx0[j]? = some (.live T cs)→s.bx[j]? = some (.live T cs))→(∀ (j:Nat) b,bx0[j]? = some (.gone b)→β[j]? = some b)→X.le s.M→zbr P X bx0 t s (fun s'=>s'.killK (kf id) fun s''=>K .normal s'')→(Code.region id ops true).wp P Q a w:=by
     intro bx0 X hl hg hX hv;refine wp_mono (Q:=fun e a w=>e = .normal∧∃ β' s',K .normal s'∧Rel β' F w0 n s' a w) ?_ (fun e a w ⟨he,β',s',hk,R'⟩=>by subst he;exact hK _ _ _ _ _ _ hk (Mem.le_refl _) R')
     refine wp_region_any hm (zp8 _ _ _ _ (zvs hns (fun c a w h=>by cases h.1) (bx0:=bx0) (β0:=β) hg
      (fun j T cs hj=>R.lv j T cs (hl j T cs hj)) ops.size X (fun Y=>Y=X) (fun Y hY=>by rw[hY];exact Mem.le_refl _) rfl true _ t [] s a _ ht ?_ R1 (fun _=>⟨Mem.le_trans hX R1.rd.M,fun j T cs hj=>R.rd.live j T cs (hl j T cs hj),hg⟩) hv ?_))
     ·intro j o ho hl;exfalso;simp only[Array.getD_eq_getD_getElem?, Array.getElem?_replicate] at hl;split at hl<;>simp at hl
     ·intro β' s' a' w' hk R';rw[zk2] at hk;exact⟨rfl,β',_,hk,R'.kill _⟩
    simp only[vc,ztH] at h;cases hn:zhj t with
    | true=>
     rw[hn] at h;dsimp only at h;cases hst:zm3 t with
     | true=>
      rw[hst] at h;obtain⟨ks,X,hX,hv⟩:=h;refine main (dim ks (fun j=>β.getD j 0) 0 s.bx) X (fun j T cs hj=>?_) (fun j b hj=>?_) hX (hv _)
      ·obtain⟨e,h1,h2|h2⟩:=zpn hj
       ·rw[h1,h2]
       ·cases h2
      ·obtain⟨e,h1,h2|h2⟩:=zpn hj
       ·subst h2;exact R.rd.gone j b h1
       ·cases h2
        have hb:∃ b,β[j]? = some b:=by
         cases e with
         | live T cs=>obtain⟨b,vs,h3, -⟩:=R.lv j T cs h1;exact⟨b,h3⟩
         | gone b=>exact⟨b,R.rd.gone j b h1⟩
        obtain⟨b,hb⟩:=hb;rw[Nat.zero_add,List.getD_eq_getElem?_getD,hb];rfl
     | false=>
      rw[hst] at h;obtain⟨X,hX,hv⟩:=h;exact main s.bx X (fun _ _ _ h=>h) (fun j b hj=>R.rd.gone j b hj) hX hv
    | false=>
     rw[hn] at h;exact main s.bx s.M (fun _ _ _ h=>h) (fun j b hj=>R.rd.gone j b hj) (Mem.le_refl _) h
   ·cases hr
 | seq x y ihx ihy=>
  intro r hr K Q β F s a w R h hK;simp only[res] at hr;split at hr
  ·rename_i rx ry hx hy;simp at hr;subst hr;refine wp_seq (ihx rx hx _ _ β F s a w R h ?_);intro e F' β' s' a' w' hk hF R';cases e<;>first|exact ihy ry hy _ _ β' F' s' a' w' R' hk (fun e F2 β2 s2 a2 w2 hk2 hF2 R2=>hK e F2 β2 s2 a2 w2 hk2 (Mem.le_trans hF hF2) R2)|exact hK _ _ _ _ _ _ hk hF R'
  ·cases hr
 | cond c x y ihx ihy=>
  intro r hr K Q β F s a w R h hK;simp only[res] at hr;split at hr
  ·rename_i rx ry hx hy;simp at hr;subst hr;obtain⟨sv,v,hk,hv,he⟩:=zl R.fr h;obtain⟨b,rfl,h1,h2⟩:=zop hk hv;refine wp_cond he ?_;cases b with
   | true=>exact ihx rx hx _ _ β F s a w R (h1 rfl) hK
   | false=>exact ihy ry hy _ _ β F s a w R (h2 rfl) hK
  ·cases hr
 | block id x ih=>
  intro r hr K Q β F s a w R h hK;simp only[res,Option.map_eq_some_iff] at hr;obtain⟨rx,hx,rfl⟩:=hr;refine wp_block (ih rx hx _ _ β F s a w R h ?_);intro e F' β' s' a' w' hk hF R';cases e with
  | exit i=>
   simp only[zAJ] at hk;simp only[Exit.inBlock];split at hk
   ·rename_i hi;rw[if_pos (Nat.eq_of_beq_eq_true hi)];exact hK _ _ _ _ _ _ hk hF R'
   ·rename_i hi;rw[if_neg (Nat.ne_of_beq_eq_false hi)];exact hK _ _ _ _ _ _ hk hF R'
  | _=>exact hK _ _ _ _ _ _ hk hF R'
 | loop x ih=>
  intro r hr K Q β F s a w R h hK;simp only[res,Option.map_eq_some_iff] at hr;obtain⟨rx,hx,rfl⟩:=hr;obtain⟨s1,h,R⟩:=zAS R h;obtain⟨I,⟨m0,t0,hI0,hs0⟩,hround⟩:=h
  let J:Act→World→Nat→Prop:=fun a w m=>∃ t β F',I m t∧F.le F'∧Rel β F' w0 n t a w
  have hJ0:∃ m,J a w m:=⟨m0,t0,_,F,hI0,Mem.le_refl _,R.sub hs0⟩
  classical
  refine wp_loop (fun a w=>∃ m,J a w m) (fun a w=>if h:∃ m,J a w m then Classical.choose (zef h) else 0) hJ0 ?_;intro a1 w1 hJ;have hmin:=(Classical.choose_spec (zef hJ)).1
  obtain⟨t,β1,F1,hI,hF1,R1⟩:=hmin;refine ih rx hx _ _ β1 F1 t a1 w1 R1 (hround _ t hI) ?_;intro e F' β' s' a' w' hk hF2 R';have hF:=Mem.le_trans hF1 hF2
  cases e with
  | normal=>
   obtain⟨m',t',hlt,hI',hs'⟩:=hk;have hJ':J a' w' m':=⟨t',_,F',hI',hF,R'.sub hs'⟩
   refine⟨⟨m',hJ'⟩,?_⟩;rw[dif_pos hJ,dif_pos ⟨m',hJ'⟩];exact Nat.lt_of_le_of_lt ((Classical.choose_spec (zef (p:=J a' w') ⟨m',hJ'⟩)).2 _ hJ') hlt
  | _=>exact hK _ _ _ _ _ _ hk hF R'
 | exit id=>
  intro r hr K Q β F s a w R h hK;simp[res] at hr;subst hr;exact wp_exit (hK _ _ _ _ _ _ h (Mem.le_refl _) R)
 | ret=>
  intro r hr K Q β F s a w R h hK;simp[res] at hr;subst hr;exact wp_ret (hK _ _ _ _ _ _ h (Mem.le_refl _) R)
 | scope x ih=>
  intro r hr K Q β F s a w R h hK;simp only[res,Option.map_eq_some_iff] at hr;obtain⟨rx,hx,rfl⟩:=hr;refine wp_scope_straight (ih rx hx _ _ β F s a w R h ?_);intro e F' β' s' a' w' hk hF R';cases e with
  | goto l=>exact hk.elim
  | _=>exact hK _ _ _ _ _ _ hk hF R'
 | label l=>
  intro r hr K Q β F s a w R h hK;simp[res] at hr;subst hr;exact wp_label (hK _ _ _ _ _ _ h (Mem.le_refl _) R)
 | rangeFunc g ps x y _ _=>
  intro r hr K Q β F s a w R h hK;simp only[res] at hr;split at hr
  ·rename_i rx ry hx hy;split at hr
   ·rename_i hc;simp only[Option.some.injEq] at hr;subst hr;simp only[Bool.and_eq_true] at hc;obtain⟨⟨⟨⟨-, -⟩,hdx⟩,hdy⟩,hps⟩:=hc;rw[List.all_eq_true] at hps;exact(wpIn_wide (n:=0)).1 (zCd hx hy hdx hdy (fun p hp=>Zd0 (hps p hp)) R h (fun F' β' s' a' w'=>hK .normal F' β' s' a' w'))
   ·cases hr
  ·cases hr
 | _=>intro r hr;simp[res] at hr
theorem args0_lk:∀ (i:Nat) (args:List Value) (d:Nat) (sv:SV),lk (zm4 i args) d=some sv→∃ v,args[d - i]? = some v∧i≤d∧sv=zdL v
 | i,v::r,d,sv,h=>by
  simp only[zm4,lk] at h;split at h
  ·rename_i e;have e:=Nat.eq_of_beq_eq_true e;subst e;simp at h;subst h;exact⟨v,by simp,Nat.le_refl _,rfl⟩
  ·obtain⟨u,h1,h2,h3⟩:=args0_lk (i+1) r d sv h;refine⟨u,?_,by omega,h3⟩;have:d - i=(d - (i+1))+1:=by omega
   rw[this];simpa using h1
section
variable {P:Program} {β:List Nat} {F:Mem} {w0:World} {n:Nat} {a:Act} {w:World}
def znA (tmps:Array Value):ResultVar→Sem Value
 | .tmp t=>pure (tmps.getD t undef)
 | .cell a t=>do loadVar t (←asAddr (tmps.getD a undef))
theorem zCe {s:St} (R:Rel β F w0 n s a w) {r:ResultVar} {rr:zc} (hr:zpl P r=some rr) {k:Value→St→Prop} (h:zw7 rr s k) :
  ∃ v s',k v s'∧Rel β F w0 n s' a w∧(znA a.tmps r).run P w = .ok v w:=by
 cases r with
 | tmp t=>
  simp[zpl] at hr;subst hr;simp only[zw7] at h;obtain⟨sv,v,hk,hv,he⟩:=zl (x := .tmp t) R.fr h;obtain⟨s',hk',R',_⟩:=zdB R hv hk;exact⟨v,s',hk',R',by simp only[znA,Sem.run_pure];rw[←he];rfl⟩
 | cell x T=>
  simp only[zpl,Option.bind_eq_some_iff] at hr;obtain⟨g,hg,m,hm,hr⟩:=hr;split at hr
  ·rename_i hgm;simp at hr;subst hr;simp only[zw7] at h
   have fin:∀ {cs:List SC} {us:List Value} {b o:Nat} {c:Array Value} {e:TypeId} {fz:Nat×Nat},mkv g cs (fun sv=>shal sv s k)→zx β cs=some us→a.eval (.tmp x) = .pointer (some ⟨b,o,none⟩) →
     w.heap[b]? = some (.cells c e fz)→o+m≤c.size→us=(c.toList.drop o).take m→∃ v s',k v s'∧Rel β F w0 n s' a w∧(znA a.tmps (.cell x T)).run P w = .ok v w:=by
    intro cs us b o c e fz hmk hu hp hh hle hus;obtain⟨sv,hk,hor⟩:=zl5 hmk hu;have hp':a.tmps.getD x undef = .pointer (some ⟨b,o,none⟩):=hp
    rcases hor with ⟨rfl,hv⟩|⟨rfl,u,hu',hv⟩
    ·obtain⟨s',hk',R',_⟩:=zdB R hv hk;refine⟨_,s',hk',R',?_⟩;simp only[znA,Sem.run_bind,hp',asAddr,Sem.run_pure,Result.andThen_ok];rw[zki hg hm hh hle,hus]
    ·obtain⟨s',hk',R',_⟩:=zdB R hv hk;refine⟨_,s',hk',R',?_⟩;simp only[znA,Sem.run_bind,hp',asAddr,Sem.run_pure,Result.andThen_ok];rw[zkj (v:=u) hg ?_];rw[zj1 hh];have h1:m=1:=by simpa using hgm
     subst h1;rw[hus] at hu';have:=congrArg (·[0]?) hu'
     simpa using this
   rcases R.rd.evP R.fr h with ⟨j,o,T',cs,b,vs,hj,hk,hb,hvs,hp⟩|⟨b,o,hk,hp⟩
   ·obtain⟨l,hl0,hk⟩:=zK hk;obtain⟨hle,rfl⟩:=zm5 hl0;obtain⟨b',vs',hb',hvs',hh⟩:=R.rd.live j T' cs hj;rw[hb] at hb';cases hb';rw[hvs] at hvs';cases hvs';have hl:=zbb hvs
    exact fin hk (zeM _ (zeN _ hvs)) hp hh (by simp;omega) (by simp)
   ·obtain⟨vs,hrow,hk⟩:=zK hk;obtain⟨c,e,fz,hh,hle,hvs⟩:=znw R.rd.M hrow;exact fin hk (zdy β vs) hp hh hle hvs
  ·cases hr
theorem zvu:∀ {rs:List ResultVar} {rrs:List zc} {s:St} {k:List Value→St→Prop},rs.mapM (zpl P)=some rrs→Rel β F w0 n s a w→zAx rrs s k →
  ∃ vs s',k vs s'∧Rel β F w0 n s' a w∧vs.length=rs.length∧(rs.mapM (znA a.tmps)).run P w = .ok vs w
 | [],rrs,s,k,hr,R,h=>by simp at hr;subst hr;exact⟨[],s,h,R,rfl,rfl⟩
 | r::rs,rrs,s,k,hr,R,h=>by
  simp only[List.mapM_cons,Option.bind_eq_bind,Option.bind_eq_some_iff] at hr;obtain⟨x,hx,xs,hxs,he⟩:=hr;simp at he;subst he;obtain⟨v,s1,hk,R1,h1⟩:=zCe R hx h;obtain⟨vs,s2,hk2,R2,hl,h2⟩:=zvu hxs R1 hk;exact⟨v::vs,s2,hk2,R2,by simp[hl],by simp only[List.mapM_cons,Sem.run_bind,h1,h2,Result.andThen_ok,Sem.run_pure]⟩
theorem zDF {fn:Func} {rrs:List zc} {s:St} {R':Value→Mem→Prop} (hr:zr2 P fn=some rrs) (R:Rel β F w0 n s a w) (h:zAK rrs s R') :
  ∃ v s',R' v s'.M∧Rel β F w0 n s' a w∧(results fn a.tmps).run P w = .ok v w:=by
 have hr':fn.results.toList.mapM (zpl P)=some rrs:=hr;obtain⟨vs,s',hk,R2,hl,hrun⟩:=zvu hr' R h
 have e:results fn a.tmps=(do
   let vs ←fn.results.mapM (znA a.tmps)
   pure (if h:vs.size=1 then vs[0] else .tuple vs)):=by
  unfold results;congr 1
 have hrun2:(results fn a.tmps).run P w = .ok (zr1 vs) w:=by
  rw[e,Array.mapM_eq_mapM_toList];simp only[Sem.run_bind,Sem.run_map,hrun,Result.andThen_ok,Sem.run_pure];clear hl hrun
  match vs with
  | [v]=>simp[zr1]
  | []=>simp[zr1]
  | v::u::r=>simp[zr1]
 have hk':R' (zr1 vs) s'.M:=by
  obtain⟨fr,bx,M⟩:=s'
  match vs,hk with
  | [v],hk=>exact hk
  | [],hk=>exact hk
  | _::_::_,hk=>exact hk
 exact⟨_,s',hk',R2,hrun2⟩
end
theorem zsd {P:Program} {fn:Func} {w0:World} {F:Mem} {tmps:Array Value} {R:Ending→World→Prop}:∀ (ds:List Deferred) (w:World),
  (∀ d∈ds,∃ D:Nat,d={ target := .collected D,args := #[] }∧w0.heap.size≤D∧F D=some (.deferred (some [])))→(∀ d∈ds,∀ D:Nat,d={ target := .collected D,args := #[] }→w.heap[D]? = some (.deferred (some []))) →
  (ds.map Deferred.target).Nodup→(∀ w':World,(∀ (b:Nat) o,w.heap[b]? = some o→(∀ d∈ds,d.target ≠ .collected b)→w'.heap[b]? = some o)→w'.os=w.os→w'.output=w.output→w'.tape=w.tape→w'.heap.size=w.heap.size→w'.drawn=w.drawn →
   LeavesIn Fence.wide 0 P fn tmps R [] .returning w')→LeavesInM Fence.wide 0 P fn tmps R ds .returning w
 | [],w,_,_,_,hk=>hk w (fun _ _ h _=>h) rfl rfl rfl rfl rfl
 | d::ds,w,hnd,hw,hdup,hk=>by
  obtain⟨D,rfl,h1,h2⟩:=hnd d (by simp);have h3:=hw _ (List.mem_cons_self ..) D rfl
  rw[List.map_cons,List.nodup_cons] at hdup;have hne:∀ d∈ds,d.target ≠ .collected D:=fun d hd e=>hdup.1 (List.mem_map.2 ⟨d,hd,e⟩)
  refine⟨by simp,.inl ⟨D,_,rfl,run_takeDeferred h3,?_⟩⟩;refine zsd (w0:=w0) (F:=F) ds _ (fun d hd=>hnd d (by simp[hd])) (fun d hd D' e=>?_) hdup.2 (fun w' hs e1 e2 e3 e4 e5=>?_)
  ·have hDD:D'≠D:=fun e2=>hne d hd (by rw[e,e2])
   rw[World.putObj_heap_other hDD];exact hw d (by simp[hd]) D' e
  ·refine hk w' (fun b o hb hno=>hs b o ?_ fun d hd=>hno d (by simp[hd])) e1 e2 e3 (by rw[e4];simp) e5;have:b≠D:=fun e=>hno _ (List.mem_cons_self ..) (by rw[e])
   rw[World.putObj_heap_other this];exact hb
theorem zHL {P:Program} {kf:Nat→List Nat} {f:Nat} {fn:Func} {c:Code} {r:RCode} {rs:List zc} {args:List Value} {M:Mem} {R:Value→Mem→Prop}
  (hf:P.funcs[f]? = some fn) (hb:fn.body=some c) (hr:res P fn.ntmps kf c=some r) (hrs:zr2 P fn=some rs) (hn:args.length≤fn.ntmps) (hen:zfm P f=true)
  (h:vfn P r rs args M R):CallsM P f args M R:=by
 refine⟨hen,fun F w hM hF hd=>?_⟩;unfold vfn at h;rw[z8] at h;refine(callsIn_wide (n:=0)).1 (callsIn_of_wp_marks hf hb trivial (wpIn_wide.2 ?_) rfl)
 have R0:Rel [] F w fn.ntmps { fr:=zm4 0 args,bx:=[],M:=M } { tmps:=args.toArray++Array.replicate (fn.ntmps - args.toArray.size) undef,defers:=[] } w:=by
  refine⟨⟨hM,by simp,by simp⟩,?_,rfl,hF,hd,by simp,by simp,by simp,by simp;omega,rfl,rfl,rfl,⟨Nat.le_refl _,Nat.le_refl _⟩⟩;intro d sv hd;obtain⟨v,h1,h2,rfl⟩:=args0_lk 0 args d sv hd;refine .inr ⟨v,zk3 _ v,?_⟩;simp only[Nat.sub_zero] at h1;have hlt:=(List.getElem?_eq_some_iff.1 h1).1
  rw[Array.getElem?_append_left (by simpa using hlt)];simpa using h1
 have out:∀ {F':Mem} {β':List Nat} {s':St} {a':Act} {w':World},zAK rs s' R→F.le F'→Rel β' F' w fn.ntmps s' a' w' →
   LeavesInM Fence.wide 0 P fn a'.tmps (fun e w''=>∃ v M',e = .returned v∧R v M'∧M'.le (zj w'')∧F.le (zj w'')∧M'.disj F∧w''.os=w.os∧w''.output=w.output∧w''.tape=w.tape∧w.heap.size≤w''.heap.size∧w.drawn≤w''.drawn) a'.defers .returning w':=by
  intro F' β' s' a' w' hk hFF R';refine zsd (w0:=w) (F:=F') a'.defers w' R'.nd.1 (fun d hd D e=>?_) R'.nd.2 (fun w2 hs e1 e2 e3 e4 e5=>?_)
  ·obtain⟨D',h1,h2,h3⟩:=R'.nd.1 d hd;rw[e] at h1;simp at h1;subst h1;exact R'.Fle _ _ h3
  ·have R2:Rel β' F w fn.ntmps s' { a' with defers:=[] } w2:=by
    have R1:Rel β' F' w fn.ntmps s' { a' with defers:=[] } w':=⟨R'.rd,R'.fr,R'.len,R'.Fle,R'.dj,R'.own,R'.dist,by simp,R'.sz,R'.os,R'.out,R'.tape,R'.grow⟩
    refine R1.move (fun b o hb hF0=>hs b o hb fun d hd e=>?_) (fun b o hb=>?_) (fun b hb=>?_) (by simp) e1 e2 e3 ⟨by rw[e4];exact Nat.le_refl _,by rw[e5];exact Nat.le_refl _⟩
    ·obtain⟨D',h1,h2,h3⟩:=R'.nd.1 d hd;rw[h1] at e;simp at e;subst e;rw[h3] at hF0;cases hF0
    ·refine hs b o (R'.Fle b o (hFF b o hb)) fun d hd e=>?_
     obtain⟨D',h1,h2,h3⟩:=R'.nd.1 d hd;rw[h1] at e;simp at e;subst e;have:=(Array.getElem?_eq_some_iff.1 (show w.heap[D']? = some o from hF D' o hb)).1
     omega
    ·cases e:F b with
     | none=>rfl
     | some o=>rw[hFF b o e] at hb;cases hb
   obtain⟨v,s2,h1,R3,hrun⟩:=zDF hrs R2 hk;exact⟨v,hrun,v,s2.M,rfl,h1,R3.rd.M,R3.Fle,R3.dj,R3.os,R3.out,R3.tape,R3.grow⟩
 refine zHK c r hr _ _ [] F _ _ w R0 h ?_;intro e F' β' s' a' w' hk hFF R';cases e with
 | normal=>exact out hk hFF R'
 | ret=>exact out hk hFF R'
 | _=>exact hk.elim
theorem zJ5 {P:Program} {kf:Nat→List Nat} {f:Nat} {fn:Func} {r:RCode} {rs:List zc} {args:List Value} {M:Mem} {R:Value→Mem→Prop}
  (hf:P.funcs[f]? = some fn) (hr:fn.body.bind (res P fn.ntmps kf)=some r) (hrs:zr2 P fn=some rs) (hn:args.length≤fn.ntmps) (hen:zfm P f=true)
  (h:vfn P r rs args M R):CallsM P f args M R:=by
 obtain⟨c,hb,hr⟩:=Option.bind_eq_some_iff.1 hr;exact zHL hf hb hr hrs hn hen h
end Go.Vm
namespace Go.Vm.S
open Go.Vm
@[reducible] def rg (a:Nat):Nat→List Nat|0=>[]|n+1=>a::rg (a+1) n
@[reducible] instance (n:Nat):OfNat Operand n:=⟨.tmp n⟩
@[reducible] def q (a b:RCode):RCode := .seq a b
@[reducible] def p (l:List zZ) (k:List Nat):RCode := .ops l k
@[reducible] def w (o:zZ) (t:DTree):DTree := .take o t
@[reducible] def A (o:zZ) (n:Bool) (t m:DTree):DTree := .alt o n t m
@[reducible] def c (x:Operand) (a b:RCode):RCode := .cond x a b
@[reducible] def pn:Operand := .const (.pointer none)
@[reducible] def kt:Operand := .const (.bool true)
@[reducible] def kg:Operand := .const (.bool false)
@[reducible] def ib (d:Nat) (b:BinOp) (x y:Operand):zZ:=⟨some d,.ibin b x y,none,false⟩
@[reducible] def ln (d:Nat) (x:Operand):zZ:=⟨some d,.len x,none,false⟩
@[reducible] def nk (d:Nat) (x:Operand):zZ:=⟨some d,.nilck x,none,false⟩
@[reducible] def pk (d:Nat) (x y z:Operand):zZ:=⟨some d,.pick x y z,none,false⟩
@[reducible] def ia (d n:Nat) (x y:Operand):zZ:=⟨some d,.iaddr n x y,none,false⟩
@[reducible] def pe (l:List zZ):RCode := .ops l []
@[reducible] def de (t:DTree):RCode := .draw t []
@[reducible] def gm (g d:Nat) (x:Operand):zZ:=⟨some d,.mov x,some (g,true),false⟩
@[reducible] def z:Nat→List Value→List Value|0,l=>l|n+1,l => .int .i64 0::z n l
@[reducible] def FO (P:Program) (f n:Nat) (c:RCode) (r:List zc):Prop:=∀ {args:List Value} {M:Mem} {R:Value→Mem→Prop},args.length≤n→vfn P c r args M R→CallsM P f args M R
def kz:Code→RCode→List (Nat×List Nat)
 | .seq a b,.seq c d=>kz a c++kz b d
 | .cond _ a b,.cond _ c d=>kz a c++kz b d
 | .block _ a,.block _ c=>kz a c
 | .loop a,.loop c=>kz a c
 | .scope a,.scope c=>kz a c
 | .rangeFunc _ _ a b,.rfun _ _ c d=>kz a c++kz b d
 | .region i _ _,.ops _ l=>[(i,l)]
 | .region i _ _,.draw _ l=>[(i,l)]
 | _,_=>[]
def kq (b:Option Code) (r:RCode) (i:Nat):List Nat:=match b with|some b=>(((kz b r).find? (fun x=>Nat.beq x.1 i)).map (fun x=>x.2)).getD []|none=>[]
theorem fk {P:Program} {f n:Nat} {fn:Func} {r:RCode} {rs:List zc} (hf:P.funcs[f]? = some fn) (hr:fn.body.bind (res P fn.ntmps (kq fn.body r))=some r:=by kernel_rfl) (hrs:zr2 P fn=some rs:=by kernel_rfl) (hn:fn.ntmps=n:=by kernel_rfl) (hen:zfm P f=true:=by kernel_rfl):FO P f n r rs:=fun h h'=>zJ5 hf hr hrs (hn▸h) hen h'
theorem gk {P:Program} {f n:Nat} {fn:Func} {r:RCode} {rs:List zc} (hf:P.funcs[f]? = some fn) (hr:fn.body.bind (res P fn.ntmps fun _=>[])=some r:=by kernel_rfl) (hrs:zr2 P fn=some rs:=by kernel_rfl) (hn:fn.ntmps=n:=by kernel_rfl) (hen:zfm P f=true:=by kernel_rfl):FO P f n r rs:=fun h h'=>zJ5 hf hr hrs (hn▸h) hen h'
@[reducible] def t (n:Nat):Operand := .tmp n
@[reducible] def k (n:Int):Operand := .const (.int .i64 n)
@[reducible] def kb (b:Bool):Operand := .const (.bool b)
@[reducible] def fn (n:Nat):Operand := .func n
@[reducible] def i (n:Int):Value := .int .i64 n
@[reducible] def u (n:Int):Value := .int .u8 n
@[reducible] def sn:Value := .slice none 0 0
@[reducible] def o (d:Nat) (x:ROp):zZ:=⟨some d,x,none,false⟩
@[reducible] def e (x:ROp):zZ:=⟨none,x,none,false⟩
@[reducible] def os (d:Nat) (x:ROp):zZ:=⟨some d,x,none,true⟩
@[reducible] def gt (g:Nat) (d:Nat) (x:ROp):zZ:=⟨some d,x,some (g,true),false⟩
@[reducible] def gf (g:Nat) (d:Nat) (x:ROp):zZ:=⟨some d,x,some (g,false),false⟩
@[reducible] def st (n:Nat) (p x:Operand):zZ:=⟨none,.store n p x,none,false⟩
@[reducible] def ad (d:Nat) (x y:Operand):zZ:=⟨some d,.ibin .add x y,none,false⟩
@[reducible] def mv (d:Nat) (x:Operand):zZ:=⟨some d,.mov x,none,false⟩
@[reducible] def fa (d:Nat) (n:Nat) (p:Operand):zZ:=⟨some d,.faddr n p,none,false⟩
@[reducible] def l1 (d:Nat) (p:Operand):zZ:=⟨some d,.load false 1 p,none,false⟩
@[reducible] def la (d:Nat) (n:Nat) (p:Operand):zZ:=⟨some d,.load true n p,none,false⟩
@[reducible] def ca (d:Nat) (g:Nat) (l:List Operand):zZ:=⟨some d,.call (.func g) l,none,false⟩
@[reducible] def ex (d:Nat) (x:Operand) (j:Nat):zZ:=⟨some d,.extract x j,none,false⟩
end Go.Vm.S
namespace Go.Proofs.YtpnhjkiligohnaaGreatDoor
@[reducible] def F.zeT:Nat:=6
@[reducible] def F.zbH:Nat:=7
@[reducible] def F.ziB:Nat:=10
@[reducible] def F.zcr:Nat:=14
@[reducible] def F.zeU:Nat:=15
@[reducible] def F.zhD:Nat:=16
@[reducible] def F.zbu:Nat:=17
@[reducible] def F.zhl:Nat:=18
@[reducible] def F.zhE:Nat:=19
@[reducible] def F.zgy:Nat:=20
@[reducible] def F.zbk:Nat:=21
@[reducible] def F.zcG:Nat:=22
@[reducible] def F.zdr:Nat:=23
@[reducible] def F.zmm:Nat:=31
@[reducible] def F.znB:Nat:=32
@[reducible] def F.zhm:Nat:=38
@[reducible] def F.zeV:Nat:=39
@[reducible] def F.zk4:Nat:=40
@[reducible] def F.zmZ:Nat:=41
@[reducible] def F.zcm:Nat:=42
@[reducible] def F.zcH:Nat:=43
@[reducible] def F.zds:Nat:=44
@[reducible] def F.zcI:Nat:=48
@[reducible] def F.ziC:Nat:=49
@[reducible] def F.zce:Nat:=54
@[reducible] def F.zbv:Nat:=55
@[reducible] def F.zhn:Nat:=56
@[reducible] def F.zho:Nat:=57
@[reducible] def F.zb0:Nat:=58
@[reducible] def F.zf:Nat:=59
@[reducible] def F.ziH:Nat:=60
@[reducible] def F.ziI:Nat:=61
@[reducible] def F.zal:Nat:=62
@[reducible] def F.zp9:Nat:=65
@[reducible] def F.zgz:Nat:=66
@[reducible] def F.zlY:Nat:=68
@[reducible] def F.zdD:Nat:=69
@[reducible] def F.zhp:Nat:=70
@[reducible] def F.za4:Nat:=71
@[reducible] def F.zap:Nat:=72
@[reducible] def F.ziJ:Nat:=73
@[reducible] def F.ziK:Nat:=74
@[reducible] def F.zfz:Nat:=75
@[reducible] def F.zg:Nat:=76
@[reducible] def F.zgA:Nat:=77
@[reducible] def F.zvE:Nat:=78
@[reducible] def F.zt2:Nat:=79
@[reducible] def F.zt3:Nat:=80
@[reducible] def F.zt4:Nat:=81
@[reducible] def F.zt5:Nat:=82
@[reducible] def F.zrr:Nat:=83
@[reducible] def F.zxm:Nat:=84
@[reducible] def F.zfA:Nat:=85
@[reducible] def F.zaM:Nat:=87
@[reducible] def F.zeW:Nat:=88
@[reducible] def F.zqa:Nat:=89
@[reducible] def F.zeg:Nat:=90
@[reducible] def F.zcJ:Nat:=91
@[reducible] def F.zj2:Nat:=92
@[reducible] def F.zhq:Nat:=93
@[reducible] def F.zhr:Nat:=94
@[reducible] def F.zaw:Nat:=95
@[reducible] def F.zaY:Nat:=96
@[reducible] def F.zb1:Nat:=97
@[reducible] def F.zcn:Nat:=98
@[reducible] def F.zb2:Nat:=99
@[reducible] def F.zbO:Nat:=100
@[reducible] def F.zfB:Nat:=101
@[reducible] def F.zmn:Nat:=102
@[reducible] def F.zfC:Nat:=103
@[reducible] def F.zk5:Nat:=104
@[reducible] def F.zH:Nat:=105
@[reducible] def F.ziL:Nat:=106
@[reducible] def F.zfD:Nat:=107
@[reducible] def F.zat:Nat:=108
@[reducible] def F.ziM:Nat:=109
@[reducible] def F.zkn:Nat:=110
@[reducible] def F.zb3:Nat:=111
@[reducible] def F.zb4:Nat:=112
@[reducible] def F.zeh:Nat:=113
@[reducible] def F.zgB:Nat:=114
@[reducible] def F.zd7:Nat:=121
@[reducible] def F.zcf:Nat:=122
@[reducible] def F.zcP:Nat:=123
@[reducible] def F.zdt:Nat:=128
@[reducible] def F.zbc:Nat:=129
@[reducible] def F.zb5:Nat:=130
@[reducible] def F.zdd:Nat:=131
@[reducible] def F.zdM:Nat:=132
@[reducible] def F.zcQ:Nat:=133
@[reducible] def F.zdN:Nat:=134
@[reducible] def F.znC:Nat:=135
@[reducible] def F.zqb:Nat:=136
@[reducible] def F.zd8:Nat:=137
@[reducible] def F.zaG:Nat:=138
@[reducible] def F.zeX:Nat:=139
@[reducible] def F.zbP:Nat:=140
@[reducible] def F.zco:Nat:=141
@[reducible] def F.zdu:Nat:=142
@[reducible] def F.zdv:Nat:=143
@[reducible] def F.zfE:Nat:=144
@[reducible] def F.zk6:Nat:=145
@[reducible] def F.zeY:Nat:=146
@[reducible] def F.zdE:Nat:=147
@[reducible] def F.zhF:Nat:=148
@[reducible] def F.zk7:Nat:=149
@[reducible] def F.zyn:Nat:=150
@[reducible] def F.ziN:Nat:=151
@[reducible] def F.zaI:Nat:=152
@[reducible] def F.zse:Nat:=153
@[reducible] def F.zfF:Nat:=154
@[reducible] def F.zk8:Nat:=155
@[reducible] def F.zcv:Nat:=156
@[reducible] def F.zt6:Nat:=157
@[reducible] def F.zfG:Nat:=158
@[reducible] def F.zeZ:Nat:=159
@[reducible] def F.zaZ:Nat:=160
@[reducible] def F.za0:Nat:=161
@[reducible] def F.zvF:Nat:=162
@[reducible] def F.zpo:Nat:=163
@[reducible] def F.ze0:Nat:=164
@[reducible] def F.zkZ:Nat:=165
@[reducible] def F.zbz:Nat:=166
@[reducible] def F.zsf:Nat:=167
@[reducible] def F.ziO:Nat:=168
@[reducible] def F.zc8:Nat:=169
@[reducible] def F.zc9:Nat:=170
@[reducible] def F.zbX:Nat:=171
@[reducible] def F.zcR:Nat:=172
@[reducible] def F.zcs:Nat:=173
@[reducible] def F.znD:Nat:=175
@[reducible] def F.zaA:Nat:=176
@[reducible] def F.zqc:Nat:=177
@[reducible] def F.zbf:Nat:=178
@[reducible] def F.zsg:Nat:=179
@[reducible] def F.zhG:Nat:=182
@[reducible] def F.zei:Nat:=186
@[reducible] def F.zgC:Nat:=187
@[reducible] def F.zde:Nat:=188
@[reducible] def F.zcS:Nat:=189
@[reducible] def F.zk9:Nat:=190
@[reducible] def F.zDG:Nat:=191
@[reducible] def F.zAX:Nat:=192
@[reducible] def F.zqd:Nat:=193
@[reducible] def F.zzH:Nat:=194
@[reducible] def F.zda:Nat:=195
@[reducible] def F.za1:Nat:=196
@[reducible] def F.zcp:Nat:=197
@[reducible] def F.zgD:Nat:=198
@[reducible] def F.zaN:Nat:=199
@[reducible] def F.zgk:Nat:=200
@[reducible] def F.zot:Nat:=201
@[reducible] def F.zdw:Nat:=202
@[reducible] def F.zcw:Nat:=203
@[reducible] def F.zmo:Nat:=204
@[reducible] def F.zsh:Nat:=205
@[reducible] def F.zgE:Nat:=206
@[reducible] def F.zgF:Nat:=207
@[reducible] def F.zhH:Nat:=208
@[reducible] def F.zd9:Nat:=209
@[reducible] def F.zea:Nat:=210
@[reducible] def F.zhI:Nat:=211
@[reducible] def F.zt7:Nat:=212
@[reducible] def F.zhJ:Nat:=213
@[reducible] def F.zsi:Nat:=214
@[reducible] def F.zlZ:Nat:=215
@[reducible] def F.zl0:Nat:=216
@[reducible] def F.zdO:Nat:=217
@[reducible] def F.zcx:Nat:=218
@[reducible] def F.zio:Nat:=219
@[reducible] def F.zoG:Nat:=220
@[reducible] def F.zzI:Nat:=221
@[reducible] def F.ziD:Nat:=222
@[reducible] def F.zaH:Nat:=223
@[reducible] def F.zbI:Nat:=224
@[reducible] def F.ziE:Nat:=225
@[reducible] def F.zoH:Nat:=226
@[reducible] def F.zko:Nat:=227
@[reducible] def F.ziq:Nat:=228
@[reducible] def F.ze1:Nat:=229
@[reducible] def F.zcT:Nat:=230
@[reducible] def F.zaW:Nat:=231
@[reducible] def F.zbY:Nat:=232
@[reducible] def F.zbV:Nat:=233
@[reducible] def F.zfH:Nat:=234
@[reducible] def F.zcg:Nat:=235
@[reducible] def F.zxn:Nat:=236
@[reducible] def F.zb9:Nat:=237
@[reducible] def F.zaf:Nat:=240
@[reducible] def F.zaj:Nat:=241
@[reducible] def F.zeb:Nat:=245
@[reducible] def F.zdb:Nat:=246
@[reducible] def F.zca:Nat:=247
@[reducible] def F.zsj:Nat:=248
@[reducible] def F.zla:Nat:=253
@[reducible] def F.zec:Nat:=254
@[reducible] def F.zlb:Nat:=255
@[reducible] def F.zmp:Nat:=256
@[reducible] def F.ziP:Nat:=257
@[reducible] def F.zlc:Nat:=258
@[reducible] def F.zbB:Nat:=259
@[reducible] def F.zqe:Nat:=260
@[reducible] def F.zou:Nat:=262
@[reducible] def F.zkp:Nat:=263
@[reducible] def F.zoI:Nat:=264
@[reducible] def F.zej:Nat:=265
@[reducible] def F.zgl:Nat:=266
@[reducible] def F.zoJ:Nat:=267
@[reducible] def F.ze2:Nat:=268
@[reducible] def F.zdF:Nat:=269
@[reducible] def F.zcK:Nat:=270
@[reducible] def F.zqf:Nat:=271
@[reducible] def F.zgG:Nat:=272
@[reducible] def F.zbm:Nat:=274
@[reducible] def F.zld:Nat:=275
@[reducible] def F.zir:Nat:=276
@[reducible] def F.zka:Nat:=277
@[reducible] def F.ziQ:Nat:=278
@[reducible] def F.ze3:Nat:=279
@[reducible] def F.zle:Nat:=280
@[reducible] def F.zhK:Nat:=281
@[reducible] def F.zkX:Nat:=282
@[reducible] def F.zt8:Nat:=283
@[reducible] def F.zkq:Nat:=284
@[reducible] def F.zag:Nat:=285
@[reducible] def F.ze4:Nat:=286
@[reducible] def F.zdP:Nat:=287
@[reducible] def F.zaq:Nat:=288
@[reducible] def F.ze5:Nat:=289
@[reducible] def F.zgH:Nat:=291
@[reducible] def F.ziR:Nat:=292
@[reducible] def F.zaB:Nat:=295
@[reducible] def F.zgI:Nat:=296
@[reducible] def F.zeI:Nat:=297
@[reducible] def F.zfo:Nat:=298
@[reducible] def F.ze6:Nat:=299
@[reducible] def F.zcU:Nat:=300
@[reducible] def F.zek:Nat:=301
@[reducible] def F.zgr:Nat:=302
@[reducible] def F.zaP:Nat:=303
@[reducible] def F.zis:Nat:=304
@[reducible] def F.zfI:Nat:=305
@[reducible] def F.zgJ:Nat:=306
@[reducible] def F.zgs:Nat:=307
@[reducible] def F.zdG:Nat:=308
@[reducible] def F.zfp:Nat:=309
@[reducible] def F.zhL:Nat:=310
@[reducible] def F.zm9:Nat:=312
@[reducible] def F.zxo:Nat:=314
@[reducible] def F.ze7:Nat:=315
@[reducible] def F.zdH:Nat:=316
@[reducible] def F.zvG:Nat:=317
@[reducible] def F.zzJ:Nat:=318
@[reducible] def F.zxp:Nat:=319
@[reducible] def F.zvH:Nat:=320
@[reducible] def F.zcV:Nat:=321
@[reducible] def F.zkr:Nat:=322
@[reducible] def F.zhs:Nat:=323
@[reducible] def F.zfq:Nat:=324
@[reducible] def F.zbQ:Nat:=325
@[reducible] def F.zhB:Nat:=326
@[reducible] def F.zsk:Nat:=327
@[reducible] def F.zgm:Nat:=328
@[reducible] def F.znE:Nat:=329
@[reducible] def F.zcL:Nat:=330
@[reducible] def F.ze8:Nat:=331
@[reducible] def F.zar:Nat:=332
@[reducible] def F.zqg:Nat:=333
@[reducible] def F.zfJ:Nat:=334
@[reducible] def F.zel:Nat:=335
@[reducible] def F.zmq:Nat:=336
@[reducible] def F.zdf:Nat:=337
@[reducible] def F.zht:Nat:=338
@[reducible] def F.za5:Nat:=344
@[reducible] def F.zkb:Nat:=345
@[reducible] def F.zgK:Nat:=346
@[reducible] def F.zhM:Nat:=347
@[reducible] def F.zhu:Nat:=348
@[reducible] def F.zd5:Nat:=349
@[reducible] def F.zm0:Nat:=350
@[reducible] def F.zgt:Nat:=351
@[reducible] def F.ziS:Nat:=352
@[reducible] def F.ziT:Nat:=354
@[reducible] def F.zAY:Nat:=362
@[reducible] def F.zl8:Nat:=364
@[reducible] def F.za6:Nat:=367
@[reducible] def F.zkc:Nat:=368
@[reducible] def F.zgL:Nat:=369
@[reducible] def F.zhN:Nat:=370
@[reducible] def F.zhv:Nat:=371
@[reducible] def F.zd6:Nat:=372
@[reducible] def F.zgu:Nat:=373
@[reducible] def F.ziU:Nat:=374
@[reducible] def F.ze9:Nat:=375
@[reducible] def F.zvI:Nat:=376
@[reducible] def F.ziF:Nat:=390
@[reducible] def F.zem:Nat:=391
@[reducible] def T.int:TypeId:=3
@[reducible] def T.zAZ:TypeId:=4
@[reducible] def T.zY:TypeId:=5
@[reducible] def T.zOG:TypeId:=9
@[reducible] def T.zl9:TypeId:=22
@[reducible] def T.zen:TypeId:=27
@[reducible] def T.zgM:TypeId:=30
@[reducible] def T.zac:TypeId:=58
@[reducible] def T.zD:TypeId:=61
@[reducible] def T.zad:TypeId:=90
@[reducible] def T.zt:TypeId:=95
@[reducible] def T.zb6:TypeId:=99
@[reducible] def T.zA0:TypeId:=111
@[reducible] def T.zbs:TypeId:=115
@[reducible] def T.zae:TypeId:=124
@[reducible] def T.zN:TypeId:=134
@[reducible] def T.zoK:TypeId:=137
@[reducible] def T.zt9:TypeId:=147
@[reducible] def T.zzK:TypeId:=158
@[reducible] def T.zQ:TypeId:=172
@[reducible] def T.zma:TypeId:=181
@[reducible] def T.zvJ:TypeId:=201
@[reducible] def T.zDH:TypeId:=208
@[reducible] def T.zpp:TypeId:=212
@[reducible] def T.zbd:TypeId:=225
@[reducible] def T.zvv:TypeId:=258
@[reducible] def T.znF:TypeId:=274
@[reducible] def T.zks:TypeId:=292
@[reducible] def T.zGl:TypeId:=337
@[reducible] def T.zcb:TypeId:=433
end Go.Proofs.YtpnhjkiligohnaaGreatDoor
