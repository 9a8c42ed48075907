/- Part of this proof;laid by program. -/
import Derived.Test.YtpnhjkiligohnaaGreatDoorJ0
set_option linter.unusedVariables false
set_option linter.unusedSimpArgs false
namespace Go.Vm
open Go.RowKit
section
theorem z8 {α:Type}:∀ (l:List α) (k:List α→Prop),zan l k=k l
 | [],_=>rfl
 | x::r,k=>by simp only[zan];rw[z8 r]
theorem zF3 (sv:SV) (k:SV→Prop):zAH sv k=k sv:=by
 unfold zAH;split<;>first|rfl|exact z8 _ _
theorem zno:∀ (l:List BE) (j:Nat),zfy l j=l[j]?
 | [],_=>by simp[zfy]
 | e::r,0=>by simp[zfy]
 | e::r,j+1=>by simp[zfy,zno r j]
theorem zfu (s:St) (d:Option Nat) (sv:SV) (k:St→Prop):s.putK d sv k=k (s.put d sv):=by
 cases d with
 | none=>rfl
 | some d=>simp only[St.putK,St.put,zF3]
theorem zr3 (d:Nat):∀ (l:List (Nat×SV)) (k:List (Nat×SV)→Prop),zrZ d l k=k (zm2 d l)
 | [],_=>rfl
 | (t,sv)::r,k=>by
  simp only[zrZ,zm2];cases Nat.beq t d with
  | true=>exact zr3 d r k
  | false=>exact zr3 d r _
theorem zzs:∀ (ds:List Nat) (l:List (Nat×SV)) (k:List (Nat×SV)→Prop),zw0 ds l k=k (zhh ds l)
 | [],_,_=>rfl
 | d::ds,l,k=>by simp only[zw0,zhh,zr3];exact zzs ds _ k
theorem zk2 (s:St) (l:List Nat) (k:St→Prop):s.killK l k=k (s.kill l):=by simp only[St.killK,St.kill,zzs]
theorem znp (s:St) (e:BE) (k:Nat→St→Prop):s.addK e k=k s.bx.length { s with bx:=s.bx++[e] }:=by simp only[St.addK,z8]
theorem zCU (s:St) (j:Nat) (e:BE) (k:St→Prop):s.setK j e k=k { s with bx:=s.bx.set j e }:=by simp only[St.setK,z8]
theorem Mem.le_refl (M:Mem):M.le M:=fun _ _ h=>h
theorem Mem.le_trans {A B C:Mem} (h:A.le B) (k:B.le C):A.le C:=fun b o e=>k b o (h b o e)
theorem Mem.disj_of_le {A B F:Mem} (h:B.disj F) (k:A.le B):A.disj F:=fun b=>by
 rcases h b with e|e
 ·left;cases ha:A b with
  | none=>rfl
  | some o=>rw[k b o ha] at e;cases e
 ·exact .inr e
theorem Mem.upd_same (M:Mem) (b:Nat) (o:Obj):M.upd b o b=some o:=by simp[Mem.upd]
theorem Mem.upd_ne (M:Mem) {b c:Nat} (o:Obj) (h:c≠b):M.upd b o c=M c:=by simp[Mem.upd,h]
theorem zdy (β:List Nat) (l:List Value):zx β (l.map .v)=some l:=by
 induction l with
 | nil=>rfl
 | cons x r ih=>simp[zx,SC.val,ih]
theorem zk3 (β:List Nat) (v:Value):(zdL v).val β=some v:=by
 unfold zdL;split
 ·simp[SV.val,zdy]
 ·simp[SV.val]
 ·simp[SV.val,SC.val]
theorem zF4 (β:List Nat) (v:Value):(zAv v).val β=some v:=by
 unfold zAv;split
 ·simp[SV.val,zdy]
 ·simp[SV.val,SC.val]
def Fr (β:List Nat) (fr:List (Nat×SV)) (a:Act):Prop:=
 ∀ d sv,lk fr d=some sv→sv = .dead∨∃ v,sv.val β=some v∧a.tmps[d]? = some v
theorem zF5 {x:Option SV} {k:SV→Prop} (h:evO x k):∃ sv,x=some sv∧sv ≠ .dead∧k sv:=by
 unfold evO at h;split at h
 ·exact h.elim
 ·rename_i sv hn;exact⟨sv,rfl,fun e=>hn e,h⟩
 ·exact h.elim
theorem zl {β:List Nat} {s:St} {a:Act} (hf:Fr β s.fr a) {x:Operand} {k:SV→Prop} (h:ev s x k) :
  ∃ sv v,k sv∧sv.val β=some v∧a.eval x=v:=by
 cases x with
 | tmp n=>
  simp only[ev] at h;obtain⟨sv,hl,hd,hk⟩:=zF5 h;rcases hf n sv hl with rfl|⟨v,hv,ht⟩
  ·exact absurd rfl hd
  ·exact⟨sv,v,hk,hv,by simp[Act.eval,ht]⟩
 | const v=>exact⟨_,v,h,zF4 β v,rfl⟩
 | func f=>exact⟨_,_,h,rfl,rfl⟩
 | global g=>exact h.elim
theorem zF6 {β:List Nat} {sv:SV} {v:Value} {k:IntKind→Int→Prop} (h:asI sv k) (hv:sv.val β=some v):∃ q n,k q n∧v = .int q n:=by
 unfold asI at h;split at h
 ·simp[SV.val,SC.val] at hv;exact⟨_,_,h,hv.symm⟩
 ·exact h.elim
theorem zF7 {β:List Nat} {sv:SV} {v:Value} {k:Bool→Prop} (h:asB sv k) (hv:sv.val β=some v):∃ b,k b∧v = .bool b:=by
 unfold asB at h;split at h
 ·simp[SV.val,SC.val] at hv;exact⟨_,h,hv.symm⟩
 ·simp[SV.val] at hv;exact⟨_,h,hv.symm⟩
 ·exact h.elim
theorem zop {β:List Nat} {sv:SV} {v:Value} {A B:Prop} (h:brS sv A B) (hv:sv.val β=some v):∃ b,v = .bool b∧(b=true→A)∧(b=false→B):=by
 unfold brS at h;split at h
 ·rename_i b;simp[SV.val,SC.val] at hv;refine⟨b,hv.symm,fun e=>?_,fun e=>?_⟩
  ·subst e;exact h
  ·subst e;exact h
 ·rename_i b;simp[SV.val] at hv;exact⟨b,hv.symm,h.1,h.2⟩
 ·exact h.elim
theorem zDz {β:List Nat} {sv:SV} {v:Value} {k:Option Addr→Nat→Nat→Prop} (h:zAI sv k) (hv:sv.val β=some v):∃ a n c,k a n c∧v = .slice a n c:=by
 unfold zAI at h;split at h
 ·simp[SV.val,SC.val] at hv;exact⟨_,_,_,h,hv.symm⟩
 ·exact h.elim
theorem zU {β:List Nat} {s:St} {a:Act} (hf:Fr β s.fr a) {x:Operand} {k:IntKind→Int→Prop} (h:evI s x k) :
  ∃ q n,k q n∧a.eval x = .int q n:=by
 obtain⟨sv,v,hk,hv,he⟩:=zl hf h;obtain⟨q,n,h1,h2⟩:=zF6 hk hv;exact⟨q,n,h1,he.trans h2⟩
theorem zzt {β:List Nat} {s:St} {a:Act} (hf:Fr β s.fr a) {x:Operand} {k:Bool→Prop} (h:evB s x k) :
  ∃ b,k b∧a.eval x = .bool b:=by
 obtain⟨sv,v,hk,hv,he⟩:=zl hf h;obtain⟨b,h1,h2⟩:=zF7 hk hv;exact⟨b,h1,he.trans h2⟩
theorem zeL {β:List Nat} {s:St} {a:Act} (hf:Fr β s.fr a) {x:Operand} {k:Option Addr→Nat→Nat→Prop} (h:evS s x k) :
  ∃ p n c,k p n c∧a.eval x = .slice p n c:=by
 obtain⟨sv,v,hk,hv,he⟩:=zl hf h;obtain⟨p,n,c,h1,h2⟩:=zDz hk hv;exact⟨p,n,c,h1,he.trans h2⟩
theorem zj0 {a:Option Addr} {k:Nat→Nat→Prop} (h:atO a k):∃ b o,a=some ⟨b,o,none⟩∧k b o:=by
 unfold atO at h;split at h
 ·exact⟨_,_,rfl,h⟩
 ·exact h.elim
theorem zK {α:Type} {x:Option α} {k:α→Prop} (h:onO x k):∃ l,x=some l∧k l:=by
 unfold onO at h;split at h
 ·exact⟨_,rfl,h⟩
 ·exact h.elim
structure Rd (β:List Nat) (s:St) (w:World):Prop where
 M:s.M.le (zj w)
 live:∀ (j:Nat) T cs,s.bx[j]? = some (.live T cs)→∃ b vs,β[j]? = some b∧zx β cs=some vs∧w.heap[b]? = some (.cells vs.toArray T (0,0))
 gone:∀ (j:Nat) b,s.bx[j]? = some (.gone b)→β[j]? = some b
theorem zF8 {β:List Nat} {s:St} (hg:∀ (j:Nat) b,s.bx[j]? = some (.gone b)→β[j]? = some b)
  (hl:∀ (j:Nat) T cs,s.bx[j]? = some (.live T cs)→∃ b,β[j]? = some b)
  {sv:SV} {v:Value} (hv:sv.val β=some v) {kb:Nat→Nat→List SC→Prop} {kp:Nat→Nat→Prop} (h:asP s sv kb kp) :
  (∃ j o T cs b,s.bx[j]? = some (.live T cs)∧kb j o cs∧β[j]? = some b∧v = .pointer (some ⟨b,o,none⟩)) ∨
  (∃ b o,kp b o∧v = .pointer (some ⟨b,o,none⟩)):=by
 unfold asP at h;split at h
 ·rename_i j o;rw[zno] at h;unfold atB at h;split at h
  ·rename_i T cs hj;obtain⟨b,hb⟩:=hl j T cs hj;simp[SV.val,SC.val,hb] at hv;exact .inl ⟨j,o,T,cs,b,hj,h,hb,hv.symm⟩
  ·rename_i b hj;have hb:=hg j b hj
   simp[SV.val,SC.val,hb] at hv;exact .inr ⟨b,o,h,hv.symm⟩
  ·exact h.elim
 ·obtain⟨b,o,rfl,hk⟩:=zj0 h;simp[SV.val,SC.val] at hv;exact .inr ⟨b,o,hk,hv.symm⟩
 ·exact h.elim
theorem zr4 {β:List Nat} {s:St} {a:Act} (hf:Fr β s.fr a) (hg:∀ (j:Nat) b,s.bx[j]? = some (.gone b)→β[j]? = some b)
  (hl:∀ (j:Nat) T cs,s.bx[j]? = some (.live T cs)→∃ b,β[j]? = some b)
  {x:Operand} {kb:Nat→Nat→List SC→Prop} {kp:Nat→Nat→Prop} (h:evP s x kb kp) :
  (∃ j o T cs b,s.bx[j]? = some (.live T cs)∧kb j o cs∧β[j]? = some b∧a.eval x = .pointer (some ⟨b,o,none⟩)) ∨
  (∃ b o,kp b o∧a.eval x = .pointer (some ⟨b,o,none⟩)):=by
 obtain⟨sv,v,hk,hv,he⟩:=zl hf h;rw[he];exact zF8 hg hl hv hk
theorem Rd.evP {β:List Nat} {s:St} {a:Act} {w:World} (hr:Rd β s w) (hf:Fr β s.fr a)
  {x:Operand} {kb:Nat→Nat→List SC→Prop} {kp:Nat→Nat→Prop} (h:evP s x kb kp) :
  (∃ j o T cs b vs,s.bx[j]? = some (.live T cs)∧kb j o cs∧β[j]? = some b∧zx β cs=some vs∧a.eval x = .pointer (some ⟨b,o,none⟩)) ∨
  (∃ b o,kp b o∧a.eval x = .pointer (some ⟨b,o,none⟩)):=by
 rcases zr4 hf hr.gone (fun j T cs hj=>let ⟨b,_,hb,_⟩:=hr.live j T cs hj;⟨b,hb⟩) h with ⟨j,o,T,cs,b,h1,h2,h3,h4⟩|h
 ·obtain⟨b',vs,hb',hvs,_⟩:=hr.live j T cs h1;exact .inl ⟨j,o,T,cs,b,vs,h1,h2,h3,hvs,h4⟩
 ·exact .inr h
theorem zcN (b o n:Nat):(⟨b,o,none⟩:Addr).add n=⟨b,o+n,none⟩:=by unfold Addr.add;split<;>simp_all
theorem zbb {β:List Nat}:∀ {cs:List SC} {vs:List Value},zx β cs=some vs→vs.length=cs.length
 | [],vs,h=>by simp[zx] at h;subst h;rfl
 | x::r,vs,h=>by
  simp only[zx] at h;split at h
  ·rename_i v vs' h1 h2;simp at h;subst h;simp[zbb h2]
  ·cases h
theorem zoz {β:List Nat}:∀ {c1 c2:List SC} {v1 v2:List Value},zx β c1=some v1→zx β c2=some v2→zx β (c1++c2)=some (v1++v2)
 | [],c2,v1,v2,h1,h2=>by simp[zx] at h1;subst h1;simpa using h2
 | x::r,c2,v1,v2,h1,h2=>by
  simp only[zx] at h1;split at h1
  ·rename_i v vs' e1 e2;simp at h1;subst h1;simp[zx,e1,zoz e2 h2]
  ·cases h1
theorem zeM {β:List Nat}:∀ {cs:List SC} {vs:List Value} (n:Nat),zx β cs=some vs→zx β (cs.take n)=some (vs.take n)
 | [],vs,n,h=>by simp[zx] at h;subst h;simp[zx]
 | x::r,vs,n,h=>by
  simp only[zx] at h;split at h
  ·rename_i v vs' e1 e2;simp at h;subst h;cases n with
   | zero=>simp[zx]
   | succ n=>simp[zx,e1,zeM n e2]
  ·cases h
theorem zeN {β:List Nat}:∀ {cs:List SC} {vs:List Value} (n:Nat),zx β cs=some vs→zx β (cs.drop n)=some (vs.drop n)
 | [],vs,n,h=>by simp[zx] at h;subst h;simp[zx]
 | x::r,vs,n,h=>by
  cases n with
  | zero=>simpa using h
  | succ n=>
   simp only[zx] at h;split at h
   ·rename_i v vs' e1 e2;simp at h;subst h;simpa using zeN n e2
   ·cases h
theorem zvh {β:List Nat} {cs l:List SC} {vs us:List Value} (o:Nat) (h:zx β cs=some vs) (h':zx β l=some us):zx β (splice cs o l)=some (splice vs o us):=by
 unfold splice;rw[zbb h'];exact zoz (zoz (zeM o h) h') (zeN _ h)
theorem zml {α:Type} (cs l:List α) (o:Nat) (h:o+l.length≤cs.length):(splice cs o l).length=cs.length:=by
 simp[splice];omega
theorem zl5 {β:List Nat} {agg:Bool} {cs:List SC} {us:List Value} {k:SV→Prop} (h:mkv agg cs k) (hu:zx β cs=some us) :
  ∃ sv,k sv∧((agg=true∧sv.val β=some (.agg us.toArray))∨(agg=false∧∃ u,us=[u]∧sv.val β=some u)):=by
 cases agg with
 | true=>rw[mkv,z8] at h;exact⟨_,h,.inl ⟨rfl,by simp[SV.val,hu]⟩⟩
 | false=>
  simp only[mkv,zMa] at h;split at h
  ·rename_i x;simp only[zx] at hu;split at hu
   ·rename_i v vs e1 e2;simp at e2 hu;subst e2;subst hu;exact⟨_,h,.inr ⟨rfl,_,rfl,by simpa[SV.val] using e1⟩⟩
   ·cases hu
  ·exact h.elim
theorem zm5 {cs l:List SC} {o n:Nat} (h:takeC cs o n=some l):o+n≤cs.length∧l=(cs.drop o).take n:=by
 unfold takeC at h;split at h
 ·simp at h;exact⟨‹_›, h.symm⟩
 ·cases h
theorem zzu {l cs cs':List SC} {o n:Nat} (h:zvA l o n cs=some cs'):l.length=n∧o+n≤cs.length∧cs'=splice cs o l:=by
 unfold zvA at h;split at h
 ·rename_i hc;simp at h;exact⟨hc.1,hc.2,h.symm⟩
 ·cases h
theorem zoA {β:List Nat} {sv:SV} {v:Value} {n:Nat} {k:SV→Prop} (h:moved sv n k) (hv:sv.val β=some v) :
  ∃ b o sv',v = .pointer (some ⟨b,o,none⟩)∧k sv'∧sv'.val β=some (.pointer (some ⟨b,o+n,none⟩)):=by
 unfold moved at h;split at h
 ·rename_i j o;simp only[SV.val,SC.val] at hv;cases hb:β[j]? with
  | none=>simp[hb] at hv
  | some b=>simp[hb] at hv;exact⟨b,o,_,hv.symm,h,by simp[SV.val,SC.val,hb]⟩
 ·obtain⟨b,o,rfl,hk⟩:=zj0 h;simp[SV.val,SC.val] at hv;exact⟨b,o,_,hv.symm,hk,rfl⟩
 ·exact h.elim
theorem znw {M:Mem} {w:World} (hM:M.le (zj w)) {b o n:Nat} {vs:List Value} (h:M.row b o n=some vs) :
  ∃ c e fz,w.heap[b]? = some (.cells c e fz)∧o+n≤c.size∧vs=(c.toList.drop o).take n:=by
 unfold Mem.row at h;split at h
 ·rename_i c e fz hb;split at h
  ·rename_i hle;simp at h;exact⟨c,e,fz,hM b _ hb,hle,h.symm⟩
  ·cases h
 ·cases h
theorem zj1 {w:World} {b:Nat} {c:Array Value} {e:TypeId} {fz:Nat×Nat} (h:w.heap[b]? = some (.cells c e fz)) (o:Nat):w.cell? ⟨b,o,none⟩=c[o]?:= by
 simp[World.cell?, h]
theorem zAO {P:Program} {w:World} {b o:Nat} {c:Array Value} {e:TypeId} {fz:Nat×Nat} (h:w.heap[b]? = some (.cells c e fz)) (n:Nat) (hle:o+n≤c.size) :
  (loadCells ⟨b,o,none⟩ n).run P w = .ok ((c.toList.drop o).take n).toArray w:=by
 have hlen:((c.toList.drop o).take n).length=n:=by simp;omega
 have:=run_loadCells_list (P:=P) w ⟨b,o,none⟩ ((c.toList.drop o).take n) (fun j v hj=>by
  rw[zcN,zj1 h]
  have hlt:j<n:=by
   have:=(List.getElem?_eq_some_iff.1 hj).1;omega
  rw[List.getElem?_take_of_lt hlt,List.getElem?_drop] at hj
  simpa using hj)
 rwa [hlen] at this
theorem zki {P:Program} {w:World} {T:TypeId} {b o n:Nat} {c:Array Value} {e:TypeId} {fz:Nat×Nat} (hag:zeQ P T=some true) (hsz:zI P T=some n)
  (h:w.heap[b]? = some (.cells c e fz)) (hle:o+n≤c.size):(loadVar T ⟨b,o,none⟩).run P w = .ok (.agg ((c.toList.drop o).take n).toArray) w:=by
 have h1:(isAgg T).run P w = .ok true w:=by
  unfold zeQ at hag;simp only[isAgg,Sem.run_bind];split at hag
  ·rename_i fs hu;simp[run_underlying hu]
  ·rename_i m e hu;simp[run_underlying hu]
  ·cases hag
  ·cases hag
 have h2:(sizeOf T).run P w = .ok n w:=by
  unfold zI at hsz;cases hi:P.info? T with
  | none=>simp[hi] at hsz
  | some i=>
   simp[hi] at hsz;simp[sizeOf,typeInfo,hi,hsz]
 simp[loadVar,h1,h2,zAO h n hle]
theorem zkj {P:Program} {w:World} {T:TypeId} {b o:Nat} {v:Value} (hag:zeQ P T=some false)
  (h:w.cell? ⟨b,o,none⟩=some v):(loadVar T ⟨b,o,none⟩).run P w = .ok v w:=by
 have h1:(isAgg T).run P w = .ok false w:=by
  unfold zeQ at hag;simp only[isAgg,Sem.run_bind];cases hu:P.underlying T with
  | none=>simp[hu] at hag
  | some d=>
   rw[hu] at hag;cases d<;>simp at hag<;>simp[run_underlying hu]
 simp[loadVar,h1,h]
theorem zvi {P:Program} {T:TypeId} {z:List Value} (h:zcM P T=some z):zI P T=some z.length:=by
 unfold zcM at h;unfold zI;cases hi:P.info? T with
 | none=>simp[hi] at h
 | some i=>
  simp only[hi,Option.bind_some] at h;cases hz:i.zero with
  | none=>simp[hz] at h
  | some zz=>
   simp only[hz,Option.bind_some] at h;split at h
   ·rename_i hs;simp at h;subst h;simp[hs]
   ·cases h
theorem zp0 {P:Program} {T:TypeId} {z:List Value} (w:World) (h:zcM P T=some z):∃ zv,(zeroValue T).run P w = .ok zv w∧zv.cells=z.toArray:=by
 unfold zcM at h;cases hi:P.info? T with
 | none=>simp[hi] at h
 | some i=>
  simp only[hi,Option.bind_some] at h;cases hz:i.zero with
  | none=>simp[hz] at h
  | some zz=>
   simp only[hz,Option.bind_some] at h;split at h
   ·simp at h;subst h;exact⟨zz,by simp[zeroValue,typeInfo,hi,hz],by simp⟩
   ·cases h
theorem zvC {β:List Nat} {sv:SV} {v:Value} {l:List SC} (hv:sv.val β=some v) (hc:cellsOf sv=some l) :
  ∃ us,zx β l=some us∧v.cells=us.toArray:=by
 cases sv with
 | c x=>
  cases x with
  | v x=>
   simp only[cellsOf] at hc;split at hc
   ·rename_i h1;simp at hc;subst hc;simp[SV.val,SC.val] at hv;subst hv;refine⟨[x],by simp[zx,SC.val],?_⟩;cases x<;>first|rfl|(simp[Value.oneCell'] at h1)
   ·cases hc
  | bx j o=>
   simp[cellsOf] at hc;subst hc;simp only[SV.val] at hv;refine⟨[v],by simp[zx,hv],?_⟩;simp only[SC.val] at hv;cases hb:β[j]? with
   | none=>simp[hb] at hv
   | some b=>simp[hb] at hv;subst hv;rfl
 | ag cs=>
  simp[cellsOf] at hc;subst hc;simp[SV.val] at hv;obtain⟨us,hu,rfl⟩:=hv;exact⟨us,hu,rfl⟩
 | sb x=>
  simp[cellsOf] at hc;subst hc;simp[SV.val] at hv;subst hv;exact⟨[.bool x],by simp[zx,SC.val],rfl⟩
 | sl _ _=>simp[cellsOf] at hc
 | fn _ _=>simp[cellsOf] at hc
 | dead=>simp[cellsOf] at hc
end
section
theorem zzv:∀ {xs ys:List Value},zaT xs ys=some true→xs=ys
 | [],[],_=>rfl
 | x::r,y::r',h=>by
  cases x<;>cases y<;>simp only[zaT] at h<;>try cases h
  split at h
  ·rename_i hk;split at h
   ·rename_i hab;rw[hk,hab,zzv h]
   ·cases h
  ·cases h
 | [],_::_,h=>by simp[zaT] at h
 | x::_,[],h=>by cases x<;>simp[zaT] at h
theorem zHE {a b:Value} (h:zeP a b=some true):a=b:=by
 cases a<;>cases b<;>simp only[zeP] at h<;>try cases h
 ·split at h
  ·rename_i hk;simp at h;rw[hk,h]
  ·cases h
 ·simp at h;rw[h]
 ·rename_i xs ys;have:=zzv h
  rw[Array.toList_inj.1 this]
def ztK:KK→Value→Prop
 | .int,v=>∃ q n,v = .int q n
 | .str,v=>∃ b,v = .string b
 | .agg n,v=>∃ l:List (IntKind×Int),l.length=n∧v = .agg (l.map fun p=>Value.int p.1 p.2).toArray
theorem zvj {β:List Nat}:∀ {cs:List SC} {us:List Value} {k:List Value→Prop},ztF cs k→zx β cs=some us→k us∧∃ l:List (IntKind×Int),us=l.map fun p=>Value.int p.1 p.2
 | [],us,k,h,hv=>by simp[zx] at hv;subst hv;exact⟨h,[],rfl⟩
 | x::r,us,k,h,hv=>by
  unfold ztF at h;split at h
  ·rename_i e;cases e
  ·rename_i q n r' e;cases e;simp only[zx,SC.val] at hv;cases hr:zx β r with
   | none=>simp[hr] at hv
   | some vs=>
    simp[hr] at hv;subst hv;obtain⟨h1,l,rfl⟩:=zvj h hr;exact⟨h1,(q,n)::l,rfl⟩
  ·exact h.elim
theorem zp1 {β:List Nat} {kk:KK} {sv:SV} {v:Value} {k:Value→Prop} (h:zyk kk sv k) (hv:sv.val β=some v):k v∧ztK kk v:=by
 unfold zyk at h;split at h
 ·simp[SV.val,SC.val] at hv;subst hv;exact⟨h,_,_,rfl⟩
 ·simp[SV.val,SC.val] at hv;subst hv;exact⟨h,_,rfl⟩
 ·rename_i n cs;unfold zkg at h;split at h
  ·have hl:=Nat.eq_of_beq_eq_true ‹_›;simp[SV.val] at hv;obtain⟨vs,hvs,rfl⟩:=hv;obtain⟨h1,l,rfl⟩:=zvj h hvs;have:=zbb hvs
   exact⟨h1,l,by simp at this;omega,rfl⟩
  ·exact h.elim
 ·exact h.elim
section
variable {P:Program}
theorem zcd {T:TypeId} {q:IntKind} (hu:P.underlying T=some (.int q)) (xs:Array Value) (i:Nat) {v:Value} (h:xs[i]? = some v) (w:World):(part T xs i).run P w = .ok v w:=by
 have h1:(isAgg T).run P w = .ok false w:=by
  simp[isAgg,run_underlying hu]
 simp only[part,Sem.run_bind,h1,Result.andThen_ok,Bool.false_eq_true,if_false,h];rfl
theorem zvk {q q':IntKind} {a b:Int} {r r':List Value} {t:Bool} (h:zaT (.int q a::r) (.int q' b::r')=some t):q=q'∧(a=b→zaT r r'=some t)∧(a≠b→t=false):=by
 simp only[zaT] at h;split at h
 ·refine⟨‹_›, fun e=>?_,fun e=>?_⟩
  ·rw[if_pos e] at h;exact h
  ·rw[if_neg e] at h;simpa using h.symm
 ·cases h
theorem zr5 (d:Nat) (w:World) {xs ys:List Value}:∀ (us vs:List Value) (i:Nat) (fs:List Field) (t:Bool),zaT us vs=some t→us=xs.drop i→vs=ys.drop i →
  zcc P i fs=true→fs.length=us.length→(Op.eqFields (d+1) xs.toArray ys.toArray fs).run P w = .ok t w
 | [],[],i,fs,t,h,_,_,_,hl=>by
  simp[zaT] at h;subst h;have:fs=[]:=by simpa using hl
  subst this;simp[Op.eqFields]
 | [],_::_,_,_,_,h,_,_,_,_=>by simp[zaT] at h
 | x::_,[],_,_,_,h,_,_,_,_=>by cases x<;>simp[zaT] at h
 | x::us,y::vs,i,fs,t,h,e1,e2,hi,hl=>by
  obtain⟨q,a,rfl⟩:∃ q a,x = .int q a:=by cases x<;>cases y<;>simp[zaT] at h<;>exact⟨_,_,rfl⟩
  obtain⟨q',b,rfl⟩:∃ q a,y = .int q a:=by cases y<;>simp[zaT] at h<;>exact⟨_,_,rfl⟩
  obtain⟨rfl,h1,h2⟩:=zvk h;cases fs with
  | nil=>simp at hl
  | cons f fs=>
   simp only[zcc,Bool.and_eq_true,bne_iff_ne,ne_eq,beq_iff_eq] at hi;obtain⟨⟨⟨hn,ho⟩,hint⟩,hi⟩:=hi
   have g1:xs[i]? = some (.int q a):=by
    have:=congrArg (·[0]?) e1;simp at this;exact this.symm
   have g2:ys[i]? = some (.int q b):=by
    have:=congrArg (·[0]?) e2;simp at this;exact this.symm
   have g3:us=xs.drop (i+1):=by
    have:=congrArg (·.drop 1) e1;simpa using this
   have g4:vs=ys.drop (i+1):=by
    have:=congrArg (·.drop 1) e2;simpa using this
   split at hint
   ·rename_i q' hq';have p1:=zcd hq' xs.toArray i (by simpa using g1) w
    have p2:=zcd hq' ys.toArray i (by simpa using g2) w;have p3:=run_equalIn_int w d f.type q q' a b hq'
    simp only[Op.eqFields,hn,ne_eq,not_false_eq_true,if_true,ho,Sem.run_bind,p1,p2,p3,Result.andThen_ok];by_cases hab:a=b
    ·subst hab;simp[zr5 d w us vs (i+1) fs t (h1 rfl) g3 g4 hi (by simpa using hl)]
    ·simp[hab,h2 hab]
   ·cases hint
theorem zvl (d:Nat) (w:World) {e:TypeId} {q0:IntKind} (he:P.underlying e=some (.int q0)) {xs ys:List Value}:∀ (us vs:List Value) (i:Nat) (t:Bool),zaT us vs=some t→us=xs.drop i→vs=ys.drop i →
  (Op.eqItems (d+1) e 1 xs.toArray ys.toArray (List.range' i us.length)).run P w = .ok t w
 | [],[],i,t,h,_,_=>by
  simp[zaT] at h;subst h;simp[Op.eqItems]
 | [],_::_,_,_,h,_,_=>by simp[zaT] at h
 | x::_,[],_,_,h,_,_=>by cases x<;>simp[zaT] at h
 | x::us,y::vs,i,t,h,e1,e2=>by
  obtain⟨q,a,rfl⟩:∃ q a,x = .int q a:=by cases x<;>cases y<;>simp[zaT] at h<;>exact⟨_,_,rfl⟩
  obtain⟨q',b,rfl⟩:∃ q a,y = .int q a:=by cases y<;>simp[zaT] at h<;>exact⟨_,_,rfl⟩
  obtain⟨rfl,h1,h2⟩:=zvk h
  have g1:xs[i]? = some (.int q a):=by
   have:=congrArg (·[0]?) e1;simp at this;exact this.symm
  have g2:ys[i]? = some (.int q b):=by
   have:=congrArg (·[0]?) e2;simp at this;exact this.symm
  have g3:us=xs.drop (i+1):=by
   have:=congrArg (·.drop 1) e1;simpa using this
  have g4:vs=ys.drop (i+1):=by
   have:=congrArg (·.drop 1) e2;simpa using this
  have p1:=zcd he xs.toArray i (by simpa using g1) w;have p2:=zcd he ys.toArray i (by simpa using g2) w
  have p3:=run_equalIn_int w d e q q0 a b he;simp only[List.length_cons,List.range'_succ,Op.eqItems,Nat.mul_one,Sem.run_bind,p1,p2,p3,Result.andThen_ok];by_cases hab:a=b
  ·subst hab;simp[zvl d w he us vs (i+1) t (h1 rfl) g3 g4]
  ·simp[hab,h2 hab]
theorem zF9 {K:TypeId} {n:Nat} (hk:zbN P K=some (.agg n)) {l:List (IntKind×Int)} (hl:l.length=n) {v:Value} {t:Bool} (h:zeP (.agg (l.map fun p=>Value.int p.1 p.2).toArray) v=some t) (w:World) :
  (Op.equal K (.agg (l.map fun p=>Value.int p.1 p.2).toArray) v).run P w = .ok t w:=by
 obtain⟨ys,rfl⟩:∃ ys,v = .agg ys:=by cases v<;>simp[zeP] at h<;>exact⟨_,rfl⟩
 simp only[zeP] at h;unfold zbN at hk;split at hk
 ·cases hk
 ·cases hk
 ·rename_i fs hu;split at hk
  ·rename_i hc;simp only[Bool.and_eq_true,Bool.not_eq_true'] at hc;simp at hk;have hfo:P.fieldsOf K=fs:=by simp[Program.fieldsOf,hu]
   have:=run_equalIn_struct (P:=P) w 9999 K (l.map fun p=>Value.int p.1 p.2).toArray ys (by rw[hfo];exact hu) hc.2;rw[hfo] at this;have h2:=zr5 (P:=P) 9998 w (xs:=l.map fun p=>Value.int p.1 p.2) (ys:=ys.toList) _ _ 0 fs.toList t h (by simp) (by simp) hc.1 (by simp;omega)
   rw[show ys.toList.toArray=ys from by simp] at h2;rw[h2] at this;exact this
  ·cases hk
 ·rename_i m e hu;split at hk
  ·rename_i q he hs;simp at hk;subst hk
   obtain⟨i,hi,hsz⟩:∃ i,P.info? e=some i∧i.size=1:=by
    unfold zI at hs;cases hi:P.info? e with
    | none=>simp[hi] at hs
    | some i=>simp[hi] at hs;exact⟨i,rfl,hs⟩
   have hco:P.cellsOf e=1:=by simp[Program.cellsOf,hi,hsz]
   have:=run_equalIn_array (P:=P) w 9999 (l.map fun p=>Value.int p.1 p.2).toArray ys hu hi;rw[hco] at this;have h2:=zvl (P:=P) 9998 w he (xs:=l.map fun p=>Value.int p.1 p.2) (ys:=ys.toList) _ _ 0 t h (by simp) (by simp)
   rw[show ys.toList.toArray=ys from by simp] at h2;simp only[List.length_map] at h2;simp only[hl] at h2;rw[←List.range_eq_range'] at h2;rw[h2] at this;exact this
  ·cases hk
 ·cases hk
theorem zpm {K:TypeId} {key:Value} (heq:∀ (v:Value) (t:Bool) (w:World),zeP key v=some t→(Op.equal K key v).run P w = .ok t w) :
  ∀ (es:List MapEntry) (i:Nat) (f:Option (Nat×Value)) (w:World),kfind key es i=some f→(Instr.findAsking K key es i).run P w = .ok f w
 | [],i,f,w,h=>by simp[kfind] at h;subst h;simp[Instr.findAsking]
 | e::es,i,f,w,h=>by
  simp only[kfind] at h;split at h
  ·rename_i hs;simp at h;subst h;simp[Instr.findAsking,heq _ _ w hs]
  ·rename_i hs;simp[Instr.findAsking,heq _ _ w hs,zpm heq es (i+1) f w h]
  ·cases h
theorem zoB {d:TypeDesc} {key:Value} (heq:∀ v t,zeP key v=some t→Instr.sameNow d key v=some t) :
  ∀ (es:List MapEntry) (i:Nat) (f:Option (Nat×Value)),kfind key es i=some f→Instr.findNow d key es i=some f
 | [],i,f,h=>by simp[kfind] at h;subst h;simp[Instr.findNow]
 | e::es,i,f,h=>by
  simp only[kfind] at h;simp only[Instr.findNow];split at h
  ·rename_i hs;rw[heq _ _ hs];exact h
  ·rename_i hs;rw[heq _ _ hs];exact zoB heq es (i+1) f h
  ·cases h
theorem zp2 {K:TypeId} {kk:KK} (hk:zbN P K=some kk) {key:Value} (hok:ztK kk key) {es:List MapEntry} {f:Option (Nat×Value)} (h:kfind key es 0=some f) (w:World) :
  (Instr.findKey K key es).run P w = .ok f w:=by
 cases kk with
 | int=>
  obtain⟨q,n,rfl⟩:=hok
  have hu:∃ q',P.underlying K=some (.int q'):=by
   unfold zbN at hk;split at hk
   ·exact⟨_, ‹_›⟩
   ·cases hk
   ·split at hk<;>cases hk
   ·split at hk<;>cases hk
   ·cases hk
  obtain⟨q',hu⟩:=hu;refine MapKept.run_findKey hu (zoB (fun v t hv=>?_) es 0 f h);cases v<;>simp only[zeP] at hv<;>try cases hv
  split at hv
  ·rename_i hq;simp at hv;simp only[Instr.sameNow,if_pos hq];rw[←hv];rename_i b;by_cases hab:n=b<;>simp[hab]
  ·cases hv
 | str=>
  obtain⟨b,rfl⟩:=hok
  have hu:P.underlying K=some .string:=by
   unfold zbN at hk;split at hk
   ·cases hk
   ·exact ‹P.underlying K=_›
   ·split at hk<;>cases hk
   ·split at hk<;>cases hk
   ·cases hk
  refine MapKept.run_findKey hu (zoB (fun v t hv=>?_) es 0 f h);cases v<;>simp only[zeP] at hv<;>try cases hv
  rename_i b';simp only[Instr.sameNow];congr 1;rw[beq_toListBytes];by_cases h:b=b'
  ·subst h;simp
  ·have:¬b.toList=b'.toList:=fun e=>h (by
    rw[ByteArray.toList_eq,ByteArray.toList_eq] at e;obtain⟨⟨x⟩⟩:=b;obtain⟨⟨y⟩⟩:=b';simp at e
    rw[e])
   simp[h,this]
 | agg n=>
  obtain⟨l,hl,rfl⟩:=hok
  have hw:(match P.underlying K with|some (.array _ _)|some (.struct _)=>true|_=>false)=true:=by
   unfold zbN at hk;split at hk
   ·cases hk
   ·cases hk
   ·rename_i fs hu;rw[hu]
   ·rename_i m e hu;rw[hu]
   ·cases hk
  rw[run_findKey_eq (P:=P) w hw];exact zpm (fun v t w hv=>zF9 hk hl hv w) es 0 f w h
theorem zr6 {α:Type} {x y:α}:∀ {l:List α},(x,y)∈l.zip l→x=y∧x∈l
 | [],h=>by simp at h
 | a::l,h=>by
  simp only[List.zip_cons_cons,List.mem_cons,Prod.mk.injEq] at h;rcases h with ⟨rfl,rfl⟩|h
  ·exact⟨rfl,by simp⟩
  ·obtain⟨h1,h2⟩:=zr6 h;exact⟨h1,by simp[h2]⟩
theorem znx {T:TypeId} {q:IntKind} (hu:P.underlying T=some (.int q)) (em:Bool) (n:Nat) (v:Value) (w:World):(Instr.checkKey em (n+1) T v).run P w = .ok () w:=by
 unfold Instr.checkKey;simp only[Sem.run_bind,run_underlying hu,Result.andThen];cases v<;>rfl
theorem zl6 {K:TypeId} {kk:KK} (hk:zbN P K=some kk) {key:Value} (hok:ztK kk key) (em:Bool) (n:Nat) (w:World):(Instr.checkKey em (n+2) K key).run P w = .ok () w:=by
 unfold zbN at hk;split at hk
 ·rename_i q hu;exact znx hu em (n+1) key w
 ·rename_i hu;unfold Instr.checkKey;simp only[Sem.run_bind,run_underlying hu,Result.andThen];cases key<;>rfl
 ·rename_i fs hu;split at hk
  ·rename_i hc;simp only[Bool.and_eq_true,Bool.not_eq_true'] at hc;simp at hk;subst hk;obtain⟨l,hl,rfl⟩:=hok;unfold Instr.checkKey;simp only[Sem.run_bind,run_underlying hu,Result.andThen_ok];rw[←Array.forIn_toList]
   have key:∀ (fl:List Field) (i:Nat),zcc P i fl=true→i+fl.length≤l.length →
     (forIn fl PUnit.unit fun f _=>(do
      if f.name ≠ "_" then Instr.checkKey em (n+1) f.type (←part f.type (l.map fun p=>Value.int p.1 p.2).toArray f.offset)
      pure (ForInStep.yield PUnit.unit):Sem (ForInStep PUnit))).run P w = .ok PUnit.unit w:=by
    intro fl
    induction fl with
    | nil=>intro i _ _;simp
    | cons f fl ih=>
     intro i hi hle;simp only[zcc,Bool.and_eq_true,bne_iff_ne,ne_eq,beq_iff_eq] at hi;obtain⟨⟨⟨hn,ho⟩,hint⟩,hi⟩:=hi;simp only[List.length_cons] at hle;split at hint
     ·rename_i q hq;have p1:=zcd hq (l.map fun p=>Value.int p.1 p.2).toArray i (v:=Value.int l[i].1 l[i].2) (by simp[List.getElem?_eq_getElem (show i<l.length by omega)]) w
      have p2:=znx hq em n (Value.int l[i].1 l[i].2) w;simp only[List.forIn_cons,hn,ne_eq,not_false_eq_true,if_true,ho,Sem.run_bind,p1,p2,Result.andThen_ok,Sem.run_pure];exact ih (i+1) hi (by omega)
     ·cases hint
   have h:=key fs.toList 0 hc.1 (by simp[hl]);simp at h ⊢;simp[h]
  ·cases hk
 ·rename_i m e hu;split at hk
  ·rename_i q he hs;simp at hk;subst hk;obtain⟨l,hl,rfl⟩:=hok
   obtain⟨ti,hti,hsz⟩:∃ i,P.info? e=some i∧i.size=1:=by
    unfold zI at hs;cases hi:P.info? e with
    | none=>simp[hi] at hs
    | some i=>simp[hi] at hs;exact⟨i,rfl,hs⟩
   have hco:P.cellsOf e=1:=by simp[Program.cellsOf,hti,hsz]
   have hsr:∀ w:World,(sizeOf e).run P w = .ok 1 w:=fun w=>by rw[run_sizeOf w hti,hco]
   unfold Instr.checkKey;simp only[Sem.run_bind,run_underlying hu,Result.andThen_ok];simp only[Std.Legacy.Range.forIn_eq_forIn_range',Std.Legacy.Range.size,Nat.sub_zero,Nat.add_one_sub_one,Nat.div_one]
   have key:∀ (k i:Nat),i+k≤l.length →
     (forIn (List.range' i k) PUnit.unit fun i _=>(do
      Instr.checkKey em (n+1) e (←part e (l.map fun p=>Value.int p.1 p.2).toArray (i*(←sizeOf e)))
      pure (ForInStep.yield PUnit.unit):Sem (ForInStep PUnit))).run P w = .ok PUnit.unit w:=by
    intro k
    induction k with
    | zero=>intro i _;simp
    | succ k ih=>
     intro i hle;have p1:=zcd he (l.map fun p=>Value.int p.1 p.2).toArray i (v:=Value.int l[i].1 l[i].2) (by simp[List.getElem?_eq_getElem (show i<l.length by omega)]) w
     have p2:=znx he em n (Value.int l[i].1 l[i].2) w;simp only[List.range'_succ,List.forIn_cons,Sem.run_bind,hsr,Nat.mul_one,p1,p2,Result.andThen_ok,Sem.run_pure];exact ih (i+1) (by omega)
   have h:=key m 0 (by omega);simp at h ⊢;simp[h]
  ·cases hk
 ·cases hk
theorem zGa {kk:KK} {key:Value} (hok:ztK kk key) (w:World):(Instr.keyThatStays key key).run P w = .ok key w:=by
 have:Instr.sameBits 10000 key key=true:=by
  cases kk with
  | int=>obtain⟨q,n,rfl⟩:=hok;simp[Instr.sameBits]
  | str=>
   obtain⟨b,rfl⟩:=hok;simp only[Instr.sameBits];rw[beq_toListBytes];simp
  | agg n=>
   obtain⟨l,hl,rfl⟩:=hok;simp only[Instr.sameBits];simp only[beq_self_eq_true,Bool.true_and];rw[List.all_eq_true];rintro ⟨x,y⟩ hxy;obtain⟨rfl,hm⟩:=zr6 hxy;simp at hm;obtain⟨a,b,_,rfl⟩:=hm;simp[Instr.sameBits]
 simp[Instr.keyThatStays,this]
end
end
end Go.Vm
