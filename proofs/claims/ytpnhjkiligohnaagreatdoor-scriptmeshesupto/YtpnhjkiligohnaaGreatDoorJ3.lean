/- Part of this proof;laid by program. -/
import Derived.Test.YtpnhjkiligohnaaGreatDoorJ2
set_option linter.unusedVariables false
set_option linter.unusedSimpArgs false
namespace Go.Vm
open Go.RowKit
structure Rel (β:List Nat) (F:Mem) (w0:World) (n:Nat) (s:St) (a:Act) (w:World):Prop where
 rd:Rd β s w
 fr:Fr β s.fr a
 len:β.length=s.bx.length
 Fle:F.le (zj w)
 dj:s.M.disj F
 own:∀ (j:Nat) T cs,s.bx[j]? = some (.live T cs)→∀ b,β[j]? = some b→s.M b=none∧F b=none
 dist:∀ (i j:Nat) Ti ci Tj cj,s.bx[i]? = some (.live Ti ci)→s.bx[j]? = some (.live Tj cj)→i≠j→β[i]? ≠ β[j]?
 nd:(∀ d∈a.defers,∃ D:Nat,d={ target := .collected D,args := #[] }∧w0.heap.size≤D∧F D=some (.deferred (some [])))∧(a.defers.map Deferred.target).Nodup
 sz:a.tmps.size=n
 os:w.os=w0.os
 out:w.output=w0.output
 tape:w.tape=w0.tape
 grow:w0.heap.size≤w.heap.size∧w0.drawn≤w.drawn
section
variable {P:Program} {β:List Nat} {F:Mem} {w0:World} {n:Nat} {s:St} {a:Act} {w:World}
theorem Rel.lv (R:Rel β F w0 n s a w) (j:Nat) (T:TypeId) (cs:List SC) (h:s.bx[j]? = some (.live T cs)):∃ b vs,β[j]? = some b∧zx β cs=some vs:=
 let ⟨b,vs,h1,h2,_⟩:=R.rd.live j T cs h;⟨b,vs,h1,h2⟩
theorem Rel.put (R:Rel β F w0 n s a w) {d:Option Nat} (hd:∀ e,d=some e→e<n) {sv:SV} {v:Value} (hv:sv = .dead∨sv.val β=some v) :
  Rel β F w0 n (s.put d sv) (a.put d v) w:=by
 cases d with
 | none=>exact R
 | some d=>
  have hdn:d<n:=hd d rfl;refine⟨⟨R.rd.M,R.rd.live,R.rd.gone⟩,?_,R.len,R.Fle,R.dj,R.own,R.dist,by simpa[Act.put] using R.nd,by simpa[Act.put] using R.sz,R.os,R.out,R.tape,R.grow⟩;intro e sv' h;simp only[St.put,lk] at h;split at h
  ·rename_i hde;have hde:=Nat.eq_of_beq_eq_true hde
   subst hde;simp at h;subst h;rcases hv with hv|hv
   ·exact .inl hv
   ·exact .inr ⟨v,hv,by simp[Act.put,R.sz,hdn]⟩
  ·rename_i hde;have hde:¬d=e:=Nat.ne_of_beq_eq_false hde
   rcases R.fr e sv' h with h|⟨v',h1,h2⟩
   ·exact .inl h
   ·refine .inr ⟨v',h1,?_⟩;simp only[Act.put,Array.getElem?_setIfInBounds];rw[if_neg hde];exact h2
theorem zvD {d e:Nat} {sv:SV}:∀ {l:List (Nat×SV)},lk (zm2 d l) e=some sv→lk l e=some sv
 | [],h=>h
 | (t,x)::r,h=>by
  simp only[zm2] at h;cases htd:Nat.beq t d with
  | true=>
   rw[htd] at h;have htd':=Nat.eq_of_beq_eq_true htd
   have h2:=zvD h;cases hte:Nat.beq t e with
   | true=>
    exfalso;have hte':=Nat.eq_of_beq_eq_true hte
    subst hte';subst htd'
    have hn:∀ (l:List (Nat×SV)),lk (zm2 t l) t=none:=by
     intro l
     induction l with
     | nil=>rfl
     | cons p q ih=>
      obtain⟨u,y⟩:=p;simp only[zm2];cases hu:Nat.beq u t with
      | true=>exact ih
      | false=>simp only[lk,hu];exact ih
    simp only[hn r] at h;cases h
   | false=>simp only[lk,hte];exact h2
  | false=>
   rw[htd] at h;simp only[lk] at h ⊢;cases hte:Nat.beq t e with
   | true=>rw[hte] at h;exact h
   | false=>rw[hte] at h;exact zvD h
theorem zAR {e:Nat} {sv:SV}:∀ {ds:List Nat} {l:List (Nat×SV)},lk (zhh ds l) e=some sv→lk l e=some sv
 | [],_,h=>h
 | _::ds,_,h=>zvD (zAR (ds:=ds) h)
theorem Rel.kill (R:Rel β F w0 n s a w) (l:List Nat):Rel β F w0 n (s.kill l) a w:=
 ⟨⟨R.rd.M,R.rd.live,R.rd.gone⟩,fun d sv h=>R.fr d sv (zAR h),R.len,R.Fle,R.dj,R.own,R.dist,R.nd,R.sz,R.os,R.out,R.tape,R.grow⟩
theorem SC.val_mono {x:SC} {v:Value} (h:x.val β=some v) (γ:List Nat):x.val (β++γ)=some v:=by
 cases x with
 | v y=>exact h
 | bx j o=>
  simp only[SC.val] at h ⊢;cases hb:β[j]? with
  | none=>simp[hb] at h
  | some b=>
   have hlt:=(List.getElem?_eq_some_iff.1 hb).1;rw[List.getElem?_append_left hlt,hb];simpa[hb] using h
theorem zdA:∀ {cs:List SC} {vs:List Value},zx β cs=some vs→∀ γ,zx (β++γ) cs=some vs
 | [],_,h,_=>h
 | x::r,vs,h,γ=>by
  simp only[zx] at h ⊢;split at h
  ·rename_i v vs' h1 h2;simp at h;subst h;simp[SC.val_mono h1 γ,zdA h2 γ]
  ·cases h
theorem SV.val_mono {sv:SV} {v:Value} (h:sv.val β=some v) (γ:List Nat):sv.val (β++γ)=some v:=by
 cases sv with
 | c x=>exact SC.val_mono h γ
 | ag cs=>
  simp only[SV.val,Option.map_eq_some_iff] at h ⊢;obtain⟨vs,h1,h2⟩:=h;exact⟨vs,zdA h1 γ,h2⟩
 | sl j m=>
  simp only[SV.val] at h ⊢;cases hb:β[j]? with
  | none=>simp[hb] at h
  | some b=>
   have hlt:=(List.getElem?_eq_some_iff.1 hb).1;rw[List.getElem?_append_left hlt,hb];simpa[hb] using h
 | fn f cs=>
  simp only[SV.val,Option.map_eq_some_iff] at h ⊢;obtain⟨vs,h1,h2⟩:=h;exact⟨vs,zdA h1 γ,h2⟩
 | sb x=>exact h
 | dead=>simp[SV.val] at h
theorem zbG (w:World) (o:Obj) {b:Nat} {x:Obj} (h:zj w b=some x):zj { w with heap:=w.heap.push o } b=some x:=by
 have hlt:b<w.heap.size:=(Array.getElem?_eq_some_iff.1 h).1;show (w.heap.push o)[b]? = some x
 rw[Array.getElem?_push_lt hlt,←Array.getElem?_eq_getElem hlt];exact h
theorem Mem.none_of_le {M:Mem} (h:M.le (zj w)) {b:Nat} (hb:w.heap.size≤b):M b=none:=by
 cases hm:M b with
 | none=>rfl
 | some x=>
  have:=h b x hm;have hlt:b<w.heap.size:=(Array.getElem?_eq_some_iff.1 this).1
  omega
theorem Rel.newBox (R:Rel β F w0 n s a w) (T:TypeId) {cs:List SC} {vs:List Value} (hv:zx β cs=some vs) :
  Rel (β++[w.heap.size]) F w0 n { s with bx:=s.bx++[.live T cs] } a { w with heap:=w.heap.push (.cells vs.toArray T) }:=by
 have hnew:∀ (j:Nat) e,(s.bx++[BE.live T cs])[j]? = some e→(s.bx[j]? = some e)∨(j=s.bx.length∧e = .live T cs):=by
  intro j e h;rcases Nat.lt_or_ge j s.bx.length with h'|h'
  ·rw[List.getElem?_append_left h'] at h;exact .inl h
  ·rw[List.getElem?_append_right h'] at h;rcases Nat.eq_or_lt_of_le h' with h2|h2
   ·subst h2;simp at h;exact .inr ⟨rfl,h.symm⟩
   ·rw[List.getElem?_eq_none (by simp;omega)] at h;cases h
 have hβn:(β++[w.heap.size])[s.bx.length]? = some w.heap.size:=by rw[←R.len];simp
 have hβo:∀ (j:Nat) b,β[j]? = some b→(β++[w.heap.size])[j]? = some b:=fun j b h=>by
  rw[List.getElem?_append_left (List.getElem?_eq_some_iff.1 h).1];exact h
 have hlt:∀ (j:Nat) T cs b,s.bx[j]? = some (.live T cs)→β[j]? = some b→b<w.heap.size:=fun j T cs b h hb=>by
  obtain⟨b',vs',h1,_,h3⟩:=R.rd.live j T cs h;rw[hb] at h1;cases h1;exact(Array.getElem?_eq_some_iff.1 h3).1
 refine⟨⟨fun b o h=>zbG w _ (R.rd.M b o h),?_,?_⟩,?_,by simp[R.len],fun b o h=>zbG w _ (R.Fle b o h),R.dj,?_,?_,R.nd,R.sz,R.os,R.out,R.tape,⟨by simp;have:=R.grow.1;omega,R.grow.2⟩⟩
 ·intro j T' cs' h;rcases hnew j _ h with h'|⟨rfl,h'⟩
  ·obtain⟨b,vs',h1,h2,h3⟩:=R.rd.live j T' cs' h';exact⟨b,vs',hβo j b h1,zdA h2 _,zbG w _ h3⟩
  ·cases h';exact⟨_,vs,hβn,zdA hv _,by simp⟩
 ·intro j b h;rcases hnew j _ h with h'|⟨rfl,h'⟩
  ·exact hβo j b (R.rd.gone j b h')
  ·cases h'
 ·intro d sv h;rcases R.fr d sv h with h|⟨v,h1,h2⟩
  ·exact .inl h
  ·exact .inr ⟨v,SV.val_mono h1 _,h2⟩
 ·intro j T' cs' h b hb;rcases hnew j _ h with h'|⟨rfl,h'⟩
  ·obtain⟨b',vs',h1,_,_⟩:=R.rd.live j T' cs' h';rw[hβo j b' h1] at hb;cases hb;exact R.own j T' cs' h' b h1
  ·rw[hβn] at hb;cases hb;exact⟨Mem.none_of_le R.rd.M (Nat.le_refl _),Mem.none_of_le R.Fle (Nat.le_refl _)⟩
 ·intro i j Ti ci Tj cj hi hj hij;rcases hnew i _ hi with hi'|⟨rfl,hi'⟩<;>rcases hnew j _ hj with hj'|⟨rfl,hj'⟩
  ·obtain⟨bi,_,h1,_,_⟩:=R.rd.live i _ _ hi';obtain⟨bj,_,h2,_,_⟩:=R.rd.live j _ _ hj';rw[hβo i bi h1,hβo j bj h2];have:=R.dist i j Ti ci Tj cj hi' hj' hij
   rw[h1,h2] at this;exact this
  ·obtain⟨bi,_,h1,_,_⟩:=R.rd.live i _ _ hi';rw[hβo i bi h1,hβn];have:=hlt i _ _ bi hi' h1
   simp;omega
  ·obtain⟨bj,_,h2,_,_⟩:=R.rd.live j _ _ hj';rw[hβo j bj h2,hβn];have:=hlt j _ _ bj hj' h2
   simp;omega
  ·exact absurd rfl hij
theorem zxe (R:Rel β F w0 n s a w):∀ {cs:List SC} {vs:List Value},flats s.bx cs=some vs→zx β cs=some vs
 | [],_,h=>h
 | x::r,vs,h=>by
  simp only[flats] at h;split at h
  ·rename_i v vs' h1 h2;simp at h;subst h
   have hx:x.val β=some v:=by
    cases x with
    | v y=>simpa[flat,SC.val] using h1
    | bx j o=>
     simp only[flat,zno] at h1;split at h1
     ·rename_i b hj;simp at h1;subst h1;simp[SC.val,R.rd.gone j b hj]
     ·cases h1
   simp[zx,hx,zxe R h2]
  ·cases h
theorem zor (R:Rel β F w0 n s a w) {j:Nat} {k:Nat→St→Prop} (h:pub j s k) :
  ∃ b s',k b s'∧Rel β F w0 n s' a w∧β[j]? = some b∧s'.fr=s.fr:=by
 unfold pub zHB at h;rw[zno] at h;split at h
 ·rename_i b hj;exact⟨b,s,h,R,R.rd.gone j b hj,rfl⟩
 ·rename_i T cs hj
  ·obtain⟨vs,hvs,h⟩:=zK h;have hv:=zxe R hvs
   obtain⟨b,vs',hb,hv',hh⟩:=R.rd.live j T cs hj;rw[hv] at hv';cases hv';obtain⟨hMb,hFb⟩:=R.own j T cs hj b hb;have hjlt:=(List.getElem?_eq_some_iff.1 hj).1
   have hset:∀ (i:Nat) e,(s.bx.set j (.gone b))[i]? = some e→(i=j∧e = .gone b)∨(i≠j∧s.bx[i]? = some e):=by
    intro i e hi;by_cases hij:i=j
    ·subst hij;rw[List.getElem?_set_self hjlt] at hi;simp at hi;exact .inl ⟨rfl,hi.symm⟩
    ·rw[List.getElem?_set_ne (Ne.symm hij)] at hi;exact .inr ⟨hij,hi⟩
   have h2:=h b hMb;simp only[z8] at h2;refine⟨b,_,h2,⟨⟨?_,?_,?_⟩,R.fr,by simp[R.len],R.Fle,?_,?_,?_,R.nd,R.sz,R.os,R.out,R.tape,R.grow⟩,hb,rfl⟩
   ·intro c o hc;have hc':(s.M.upd b (.cells vs.toArray T (0,0))) c=some o:=hc
    by_cases hcb:c=b
    ·subst hcb;rw[Mem.upd_same] at hc';cases hc';exact hh
    ·rw[Mem.upd_ne _ _ hcb] at hc';exact R.rd.M c o hc'
   ·intro i T' cs' hi;rcases hset i _ hi with ⟨_,hi'⟩|⟨_,hi'⟩
    ·cases hi'
    ·exact R.rd.live i T' cs' hi'
   ·intro i b' hi;rcases hset i _ hi with ⟨rfl,hi'⟩|⟨_,hi'⟩
    ·cases hi';exact hb
    ·exact R.rd.gone i b' hi'
   ·intro c;by_cases hcb:c=b
    ·subst hcb;exact .inr hFb
    ·show (s.M.upd b _) c=none∨_;rw[Mem.upd_ne _ _ hcb];exact R.dj c
   ·intro i T' cs' hi b' hb';rcases hset i _ hi with ⟨_,hi'⟩|⟨hij,hi'⟩
    ·cases hi'
    ·obtain⟨h1,h2⟩:=R.own i T' cs' hi' b' hb';refine⟨?_,h2⟩
     have:b'≠b:=fun e=>by
      subst e;exact R.dist i j _ _ _ _ hi' hj hij (hb'.trans hb.symm)
     show (s.M.upd b _) b'=none;rw[Mem.upd_ne _ _ this];exact h1
   ·intro i i' Ti ci Tj cj hi hi' hne;rcases hset i _ hi with ⟨_,h3⟩|⟨_,h3⟩
    ·cases h3
    ·rcases hset i' _ hi' with ⟨_,h4⟩|⟨_,h4⟩
     ·cases h4
     ·exact R.dist i i' _ _ _ _ h3 h4 hne
 ·exact h.elim
theorem zp5:∀ (j:Nat) (s:St) (k:St→Prop),Rel β F w0 n s a w→zDv j s k→∃ s',k s'∧Rel β F w0 n s' a w∧s'.fr=s.fr
 | 0,s,k,R,h=>⟨s,h,R,rfl⟩
 | j+1,s,k,R,h=>by
  obtain⟨s1,h1,R1,e1⟩:=zp5 j s _ R h;obtain⟨b,s2,h2,R2, -, e2⟩:=zor R1 h1;exact⟨s2,h2,R2,e2.trans e1⟩
theorem zAS {body:(Exit→St→Prop)→St→Prop} {Q:Exit→St→Prop} (R:Rel β F w0 n s a w) (h:zay body Q s):∃ s',zav body Q s'∧Rel β F w0 n s' a w:=by
 rcases h with h|h
 ·exact⟨s,h,R⟩
 ·obtain⟨s',h1,R1, -⟩:=zp5 _ _ _ R h;exact⟨s',h1,R1⟩
theorem zvp (R:Rel β F w0 n s a w) {x:SC} {v:Value} (hv:x.val β=some v) {k:Value→St→Prop} (h:shalC x s k) :
  ∃ s',k v s'∧Rel β F w0 n s' a w∧s'.fr=s.fr:=by
 cases x with
 | v y=>simp[SC.val] at hv;subst hv;exact⟨s,h,R,rfl⟩
 | bx j o=>
  obtain⟨b,s',hk,R',hb,hfr⟩:=zor R h;simp[SC.val,hb] at hv;subst hv;exact⟨s',hk,R',hfr⟩
theorem zee:∀ {cs:List SC} {s:St} {vs:List Value} {k:List Value→St→Prop},Rel β F w0 n s a w→zx β cs=some vs→shalCs cs s k →
  ∃ s',k vs s'∧Rel β F w0 n s' a w∧s'.fr=s.fr
 | [],s,vs,k,R,hv,h=>by simp[zx] at hv;subst hv;exact⟨s,h,R,rfl⟩
 | x::r,s,vs,k,R,hv,h=>by
  simp only[zx] at hv;split at hv
  ·rename_i v vs' h1 h2;simp at hv;subst hv;obtain⟨s1,hk,R1,e1⟩:=zvp R h1 h;obtain⟨s2,hk2,R2,e2⟩:=zee R1 h2 hk;exact⟨s2,hk2,R2,e2.trans e1⟩
  ·cases hv
theorem zdB (R:Rel β F w0 n s a w) {sv:SV} {v:Value} (hv:sv.val β=some v) {k:Value→St→Prop} (h:shal sv s k) :
  ∃ s',k v s'∧Rel β F w0 n s' a w∧s'.fr=s.fr:=by
 cases sv with
 | c x=>exact zvp R hv h
 | ag cs=>
  simp only[SV.val,Option.map_eq_some_iff] at hv;obtain⟨vs,h1,rfl⟩:=hv;exact zee R h1 h
 | sl j m=>
  obtain⟨b,s',hk,R',hb,hfr⟩:=zor R h;simp[SV.val,hb] at hv;subst hv;exact⟨s',hk,R',hfr⟩
 | fn f cs=>
  simp only[SV.val,Option.map_eq_some_iff] at hv;obtain⟨vs,h1,rfl⟩:=hv;exact zee R h1 h
 | sb x=>simp[SV.val] at hv;subst hv;exact⟨s,h,R,rfl⟩
 | dead=>exact h.elim
theorem zvq:∀ {xs:List Operand} {s:St} {k:List Value→St→Prop},Rel β F w0 n s a w→shals xs s k →
  ∃ s',k (xs.map a.eval) s'∧Rel β F w0 n s' a w∧s'.fr=s.fr
 | [],s,k,R,h=>⟨s,h,R,rfl⟩
 | x::r,s,k,R,h=>by
  obtain⟨sv,v,hk,hv,he⟩:=zl R.fr h;obtain⟨s1,hk1,R1,e1⟩:=zdB R hv hk;obtain⟨s2,hk2,R2,e2⟩:=zvq R1 hk1;exact⟨s2,by simpa[he] using hk2,R2,e2.trans e1⟩
end
end Go.Vm
