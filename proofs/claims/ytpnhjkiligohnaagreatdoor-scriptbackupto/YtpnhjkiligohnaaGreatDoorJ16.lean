/- Part of this proof;laid by program. -/
import Derived.Test.YtpnhjkiligohnaaGreatDoorJ15
set_option linter.unusedVariables false
set_option linter.unusedSimpArgs false
namespace Go.Vm.Rn
open Go.Vm
set_option linter.unusedVariables false
section
section
variable {σ:List E} {s:S} {t:St} {y:Out} {nb:Nat}
theorem zd9 {v:V} {K:C→R} (h:asC v K=some y):∃ x,v = .c x∧K x=some y:=by
 cases v with
 | c x=>exact⟨x,rfl,h⟩
 | _=>cases h
theorem VR.cc {x:C} {sv:SV} (h:VR σ nb (.c x) sv) (hx:∀ b,x ≠ .t b):∃ sc,SCR σ nb x sc∧sv = .c sc:=by
 rcases h with h|⟨b,h, -⟩
 ·exact h
 ·exact absurd h (hx b)
theorem VR.val {x:C} {sv:SV} {v:Value} (h:VR σ nb (.c x) sv) (hv:x.val σ=some v) (hx:∀ b,x ≠ .t b):sv = .c (.v v):=by
 obtain⟨sc,h1,rfl⟩:=h.cc hx;cases x with
 | b j o=>cases hv
 | _=>obtain⟨v',h2,rfl⟩:=h1;rw[hv] at h2;cases h2;rfl
theorem VR.int {k:IntKind} {n:Int} {sv:SV} (h:VR σ nb (.c (.n k n)) sv):sv = .int k n:=h.val rfl (by simp)
theorem zbu {x:C} {v:Value} (h:x.val σ=some v):VR σ nb (.c x) (.c (.v v)) := .inl ⟨.v v,CR.sc h,rfl⟩
theorem zoU {b:Bool}:VR σ nb (.c (.t b)) (.sb b) := .inr ⟨b,rfl,rfl⟩
theorem zTZ {v:V} {sv:SV} {K:IntKind→Int→R} (h:asI v K=some y) (hv:VR σ nb v sv) {k:IntKind→Int→Prop} (hk:∀ q n,K q n=some y→k q n):Vm.asI sv k:=by
 obtain⟨x,rfl,h1⟩:=zd9 h;split at h1
 ·rename_i q n;rw[hv.int];exact hk _ _ h1
 ·cases h1
theorem zea {x:Operand} {K:IntKind→Int→R} (h:evI s x K=some y) (hf:FR σ nb s t.fr) {k:IntKind→Int→Prop} (hk:∀ q n,K q n=some y→k q n):Vm.evI t x k:=
 zZ h hf fun _ _ _ hv h1=>zTZ h1 hv hk
theorem zT0 {v:V} {sv:SV} {K:Bool→R} (h:asB v K=some y) (hv:VR σ nb v sv) {k:Bool→Prop} (hk:∀ b,K b=some y→k b):Vm.asB sv k:=by
 obtain⟨x,rfl,h1⟩:=zd9 h;split at h1
 ·rename_i b;rcases hv with ⟨sc,h2,rfl⟩|⟨b',h2,rfl⟩
  ·obtain⟨v',h3,rfl⟩:=h2;cases h3;exact hk _ h1
  ·cases h2;exact hk _ h1
 ·cases h1
theorem zQr {x:Operand} {K:Bool→R} (h:evB s x K=some y) (hf:FR σ nb s t.fr) {k:Bool→Prop} (hk:∀ b,K b=some y→k b):Vm.evB t x k:=
 zZ h hf fun _ _ _ hv h1=>zT0 h1 hv hk
theorem zKK {v:V} {sv:SV} {K:Bool→R} (h:asB v K=some y) (hv:VR σ nb v sv) {A B:Prop} (ha:K true=some y→A) (hb:K false=some y→B):brS sv A B:=by
 obtain⟨x,rfl,h1⟩:=zd9 h;split at h1
 ·rename_i b;rcases hv with ⟨sc,h2,rfl⟩|⟨b',h2,rfl⟩
  ·obtain⟨v',h3,rfl⟩:=h2;cases h3;cases b
   ·exact hb h1
   ·exact ha h1
  ·cases h2;cases b
   ·exact⟨fun h=>(by cases h),fun _=>hb h1⟩
   ·exact⟨fun _=>ha h1,fun h=>(by cases h)⟩
 ·cases h1
theorem zHD:∀ (l:List BE) (j:Nat),zi2 l j=l[j]?
 | [],_=>rfl
 | _::_,0=>rfl
 | _::l,j+1=>by rw[List.getElem?_cons_succ];exact zHD l j
theorem zCp {j:Nat} {kb:TypeId→List C→R} {kp:Nat→R} (h:atB s j kb kp=some y) (hb:All2 (BR σ nb) s.bx t.bx) :
  (∃ T l cs,s.bx[j]? = some (.live T l)∧zi2 t.bx j=some (.live T cs)∧All2 (SCR σ nb) l cs∧kb T l=some y)∨(∃ a e,s.bx[j]? = some (.gone a)∧σ[a]? = some e∧zi2 t.bx j=some (.gone e.addr)∧kp a=some y):=by
 obtain⟨nl,tl,L,bx,n,H,g⟩:=s;obtain⟨b,h1,h2⟩:=ztC (l:=bx) (k:=j) (K:=fun b=>B.rec (motive:=fun _=>R) kb kp fail b) h;obtain⟨x,h3,h4⟩:=hb.at_ h1;rw[zHD];cases b with
 | live T l=>obtain⟨cs,h5,rfl⟩:=h4;exact .inl ⟨T,l,cs,h1,h3,h5,h2⟩
 | gone a=>obtain⟨e,h5,rfl⟩:=h4;exact .inr ⟨a,e,h1,h5,h3,h2⟩
 | dark=>cases h2
theorem zT1 {v:V} {sv:SV} {kb:Nat→Nat→List C→R} {kp:Nat→Nat→R} (h:asP s v kb kp=some y) (hb:All2 (BR σ nb) s.bx t.bx) (hv:VR σ nb v sv)
  {kb':Nat→Nat→List SC→Prop} {kp':Nat→Nat→Prop} (h1:∀ j o T l cs,s.bx[j]? = some (.live T l)→zi2 t.bx j=some (.live T cs)→All2 (SCR σ nb) l cs→kb j o l=some y→kb' j o cs)
  (h2:∀ a o e,σ[a]? = some e→kp a o=some y→kp' e.addr o):Vm.asP t sv kb' kp':=by
 obtain⟨x,rfl,h3⟩:=zd9 h;split at h3
 ·rename_i j o;obtain⟨sc,h4,rfl⟩:=hv.cc (by simp);obtain⟨-, rfl⟩:=h4;show Vm.atB (zi2 t.bx j) (kb' j o) (fun b=>kp' b o)
  rcases zCp h3 hb with ⟨T,l,cs,h5,h6,h7,h8⟩|⟨a,e,h5,h6,h7,h8⟩
  ·rw[h6];exact h1 _ _ _ _ _ h5 h6 h7 h8
  ·rw[h7];exact h2 _ _ _ h6 h8
 ·rename_i a o;obtain⟨sc,h4,rfl⟩:=hv.cc (by simp);obtain⟨w,h4,rfl⟩:=h4;simp only[C.val,Option.map_eq_some_iff] at h4;obtain⟨e,h5,rfl⟩:=h4;exact h2 _ _ _ h5 h3
 ·cases h3
theorem zxk {x:Operand} {kb:Nat→Nat→List C→R} {kp:Nat→Nat→R} (h:evP s x kb kp=some y) (hf:FR σ nb s t.fr) (hb:All2 (BR σ nb) s.bx t.bx)
  {kb':Nat→Nat→List SC→Prop} {kp':Nat→Nat→Prop} (h1:∀ j o T l cs,s.bx[j]? = some (.live T l)→zi2 t.bx j=some (.live T cs)→All2 (SCR σ nb) l cs→kb j o l=some y→kb' j o cs)
  (h2:∀ a o e,σ[a]? = some e→kp a o=some y→kp' e.addr o):Vm.evP t x kb' kp':=
 zZ h hf fun _ _ _ hv h3=>zT1 h3 hb hv h1 h2
theorem zCq {v:V} {sv:SV} {K:List C→R} (h:asAg v K=some y) (hv:VR σ nb v sv):∃ l cs,sv = .ag cs∧All2 (SCR σ nb) l cs∧K l=some y:=by
 cases v with
 | ag l=>obtain⟨cs,h1,h2⟩:=hv;exact⟨l,cs,h2,h1,h⟩
 | _=>cases h
theorem zq6 {v:V} {sv:SV} {K:List Nat→R} (h:asStr v K=some y) (hv:VR σ nb v sv):∃ l,sv = .c (.v (.string (zad l)))∧K l=some y:=by
 obtain⟨x,rfl,h1⟩:=zd9 h;split at h1
 ·exact⟨_,hv.val rfl (by simp),h1⟩
 ·cases h1
theorem zS1 {v:V} {sv:SV} {K:List W→R} (h:asTp v K=some y) (hv:VR σ nb v sv):∃ l vs,sv = .c (.v (.tuple vs.toArray))∧All2 (WR σ) l vs∧K l=some y:=by
 cases v with
 | tp l=>obtain⟨vs,h1,h2⟩:=hv;exact⟨l,vs,h2,h1,h⟩
 | _=>cases h
theorem zxl {g:Bool} {l:List C} {cs:List SC} {K:V→R} (h:mkv g l K=some y) (hl:All2 (SCR σ nb) l cs) {k:SV→Prop} (hk:∀ v sv,VR σ nb v sv→K v=some y→k sv):Vm.mkv g cs k:=by
 cases g with
 | true=>
  show zaz cs fun l=>k (.ag l)
  rw[zaa];exact hk (.ag l) _ ⟨cs,hl,rfl⟩ h
 | false=>
  match l,cs,hl,h with
  | [],_,_,h=>cases h
  | [x],[c],hl,h=>exact hk (.c x) _ (.inl ⟨c,hl.1,rfl⟩) h
  | [_],[],hl,_=>exact hl.elim
  | [_],_::_::_,hl,_=>exact hl.2.elim
  | _::_::_,_,_,h=>cases h
theorem zuK {cs:List SC} {o n:Nat} (h:o+n≤cs.length):Vm.takeC cs o n=some ((cs.drop o).take n):=by unfold Vm.takeC;rw[if_pos h]
theorem zwQ {v:V} {sv:SV} {K:List C→R} (h:cellsOf v K=some y) (hv:VR σ nb v sv):∃ l cs,Vm.cellsOf sv=some cs∧All2 (SCR σ nb) l cs∧K l=some y:=by
 cases v with
 | c x=>
  rcases hv with ⟨sc,h1,rfl⟩|⟨b,rfl,rfl⟩
  ·refine⟨[x],[sc],?_,⟨h1,trivial⟩,h⟩;cases x with
   | b j o=>obtain⟨-, rfl⟩:=h1;rfl
   | _=>
    obtain⟨w,h2,rfl⟩:=h1;show (if w.oneCell' then _ else _)=_
    rw[if_pos (CR.one h2)]
  ·exact⟨[.t b],[.v (.bool b)],rfl,⟨⟨_,rfl,rfl⟩,trivial⟩,h⟩
 | ag l=>obtain⟨cs,h1,rfl⟩:=hv;exact⟨l,cs,rfl,h1,h⟩
 | _=>cases h
theorem zJm {l cs:List SC} {o n:Nat} (h1:l.length=n) (h2:o+n≤cs.length):zzw l o n cs=some (splice cs o l):=by unfold zzw;rw[if_pos ⟨h1,h2⟩]
theorem All2.splice {α β:Type} {Q:α→β→Prop} {l:List α} {r:List β} (h:All2 Q l r) {vs:List α} {ws:List β} (h':All2 Q vs ws) (o:Nat):All2 Q (Vm.splice l o vs) (Vm.splice r o ws):=by
 unfold Vm.splice;rw[h'.len];exact(((h.take o).append h').append (h.drop _))
theorem zD3 (hf:FR σ nb s t.fr) {K:List C→R} {k:List SC→Prop} (hk:∀ l cs,All2 (SCR σ nb) l cs→K l=some y→k cs) :
  ∀ {parts:List (Nat×Nat×Operand)} {l:List C} {cs:List SC},build s parts l K=some y→All2 (SCR σ nb) l cs→Vm.build t parts cs k
 | [],l,cs,h,hl=>hk l cs hl h
 | p::ps,l,cs,h,hl=>by
  refine zZ (K:=fun v=>cellsOf v fun l'=>zew l' fun m=>cB (Nat.beq m p.2.1) (zDX p.1 l l' fun cs'=>build s ps cs' K) fail) h hf fun v sv _ hv h1=>?_
  obtain⟨l',cs',h2,h3,h4⟩:=zwQ h1 hv;rw[h2];rw[zb1] at h4;obtain⟨h5,h6⟩:=zA h4;obtain⟨h7,h8⟩:=zwO h6;have h9:=Nat.eq_of_beq_eq_true h5
  show onO (zzw cs' p.1 p.2.1 cs) _;rw[zJm (by rw[←h3.len];exact h9) (by rw[←hl.len,←h9];exact h7)];show zaz _ _
  rw[zaa];exact zD3 hf hk h8 (hl.splice h3 _)
theorem zD4 {v:V} {sv:SV} {n:Nat} {K:V→R} (h:moved v n K=some y) (hv:VR σ nb v sv) {k:SV→Prop} (hk:∀ v sv,VR σ nb v sv→K v=some y→k sv):Vm.moved sv n k:=by
 obtain⟨x,rfl,h1⟩:=zd9 h;split at h1
 ·rename_i j o;obtain⟨sc,h4,rfl⟩:=hv.cc (by simp);obtain⟨hj,rfl⟩:=h4;rw[fN_eq] at h1;exact hk (.c (.b j (o+n))) _ (.inl ⟨.bx j (o+n),⟨hj,rfl⟩,rfl⟩) h1
 ·rename_i a o;obtain⟨sc,h4,rfl⟩:=hv.cc (by simp);obtain⟨w,h4,rfl⟩:=h4;simp only[C.val,Option.map_eq_some_iff] at h4;obtain⟨e,h5,rfl⟩:=h4;rw[fN_eq] at h1;exact hk (.c (.p a (o+n))) _ (zbu (by simp[C.val,h5])) h1
 ·cases h1
theorem zdn {a:Nat} {K:O→R} (h:s.hget a K=some y):∃ o,s.rd a∧s.H.get a=some o∧K o=some y:=by
 obtain⟨nl,tl,L,bx,n,H,g⟩:=s;cases g with
 | none=>obtain⟨o,h1,h2⟩:=zjg (K:=K) h;exact⟨o,trivial,h1,h2⟩
 | some l=>
  have h':(Bool.rec fail (oV (H.get a) K) (mem a l):R)=some y:=h;cases hm:mem a l with
  | false=>rw[hm] at h';cases h'
  | true=>rw[hm] at h';obtain⟨o,h1,h2⟩:=zjg (K:=K) h';exact⟨o,hm,h1,h2⟩
theorem row_obj {M:Mem} {b:Nat} {E:TypeId} {l:List Value} {fz:Nat×Nat} {o n:Nat} (hb:M b=some (.cells l.toArray E fz)) (h:o+n≤l.length):M.row b o n=some ((l.drop o).take n):=by
 simp[Mem.row,hb,h]
theorem zRq {o:O} {K:List C→R} (h:o.cells K=some y) {M:Mem} {e:E} (ho:OR σ e o M):∃ l vs,All2 (CR σ) l vs∧K l=some y∧((l=[])∨∀ p n,p+n≤l.length→M.row e.addr p n=some ((vs.drop p).take n)):=by
 cases o with
 | row T l=>
  obtain⟨-, vs,h1,h2⟩:=ho;exact⟨l,vs,h1,h,.inr fun p n hp=>row_obj h2 (by rw[←h1.len];exact hp)⟩
 | ro T l=>
  obtain⟨-, vs,h1,h2⟩:=ho;exact⟨l,vs,h1,h,.inr fun p n hp=>row_obj h2 (by rw[←h1.len];exact hp)⟩
 | gr T z l=>
  obtain⟨vs,h1,⟨-, rfl, -⟩|⟨-, h2, -⟩⟩:=ho
  ·exact⟨[],vs,h1,h,.inl rfl⟩
  ·refine⟨l,vs,h1,h,.inr fun p n hp=>?_⟩;have hl:=h1.len
   rw[row_obj h2 (by rw[List.length_append];omega),List.drop_append_of_le_length (by omega),List.take_append_of_le_length (by rw[List.length_drop];omega)]
 | _=>cases h
theorem zCr {a o n:Nat} {K:List C→R} (h:row s a o n K=some y) (hq:QR σ nb s t):∃ l vs e,σ[a]? = some e∧l.length=n∧All2 (CR σ) l vs∧K l=some y∧(n=0∨t.M.row e.addr o n=some vs):=by
 obtain⟨ob,h1,h2,h3⟩:=zdn h;obtain⟨e,h4,h5⟩:=hq.h a ob h1 h2;obtain⟨l,vs,h6,h7,h8⟩:=zRq h3 h5;obtain⟨h9,h10⟩:=ztD h7;refine⟨(l.drop o).take n,(vs.drop o).take n,e,h4,by simp;omega,(h6.drop o).take n,h10,?_⟩;rcases h8 with rfl|h8
 ·left;simp at h9;omega
 ·exact .inr (h8 o n h9)
theorem All2.sc {l:List C} {vs:List Value} (h:All2 (CR σ) l vs) (nb:Nat):All2 (SCR σ nb) l (vs.map SC.v):=h.map (f:=SC.v) fun _ _ h=>CR.sc h
def QS (o:ROp) (q:S→(V→R)→R):Prop:=∀ {σ:List E} {nb:Nat} {s:S} {t:St} {y:Out} {K:V→R} {k:SV→Prop},QR σ nb s t→q s K=some y→(∀ v sv,VR σ nb v sv→K v=some y→k sv)→vq o t k
theorem zQs (x:Operand):QS (.mov x) (zOb x):=fun hq h hk=>zZ h hq.fr fun v sv _ h1 h2=>hk v sv h1 h2
theorem zM0 (c a b:Operand):QS (.pick c a b) (zKn c a b):=fun {σ nb s t y K k} hq h hk=>by
 refine zZ (K:=fun v=>asB v fun t=>cB t (ev s a K) (ev s b K)) h hq.fr fun v sv _ hv h1=>?_
 exact zKK h1 hv (fun h2=>zZ h2 hq.fr fun v sv _ h1 h2=>hk v sv h1 h2) (fun h2=>zZ h2 hq.fr fun v sv _ h1 h2=>hk v sv h1 h2)
theorem zJn (z:List Value) (parts:List (Nat×Nat×Operand)):QS (.build z parts) (zHq z parts):=fun {σ nb s t y K k} hq h hk=>by
 obtain⟨l,h1,h2⟩:=zrB σ h;show zaz (z.map SC.v) _
 rw[zaa];exact zD3 hq.fr (fun l cs hl h=>hk (.ag l) _ ⟨cs,hl,rfl⟩ h) h2 (h1.sc _)
theorem zM1 (g:Bool) (n:Nat) (p:Operand):QS (.load g n p) (zKo g n p):=fun {σ nb s t y K k} hq h hk=>by
 refine zxk h hq.fr hq.bx (fun j o T l cs _ _ hl h1=>?_) (fun a o e he h1=>?_)
 ·obtain⟨h2,h3⟩:=ztD h1;rw[zuK (by rw[←hl.len];exact h2)];exact zxl h3 ((hl.drop o).take n) hk
 ·obtain⟨h2,h3⟩:=zA h1;obtain⟨l,vs,e',h4,h5,h6,h7,h8⟩:=zCr h3 hq;rw[he] at h4;cases h4;rcases h8 with rfl|h8
  ·cases h2
  ·rw[h8];exact zxl h7 (h6.sc _) hk
theorem zJo (x:Operand):QS (.nilck x) (zHr x):=fun {σ nb s t y K k} hq h hk=>zZ h hq.fr fun _ _ _ hv h1=>zD4 h1 hv hk
theorem zJp (off:Nat) (p:Operand):QS (.faddr off p) (zHs off p):=fun {σ nb s t y K k} hq h hk=>zZ h hq.fr fun _ _ _ hv h1=>zD4 h1 hv hk
theorem zJq (g:Bool) (off n:Nat) (x:Operand):QS (.field g off n x) (zHt g off n x):=fun {σ nb s t y K k} hq h hk=>by
 refine zZ h hq.fr fun v sv _ hv h1=>?_
 obtain⟨l,cs,rfl,hl,h2⟩:=zCq h1 hv;obtain⟨h3,h4⟩:=ztD h2;show onO (Vm.takeC cs off n) _
 rw[zuK (by rw[←hl.len];exact h3)];exact zxl h4 ((hl.drop off).take n) hk
theorem zKL {i:Int} {n:Nat} {K:Nat→R} (h:inI i n K=some y):∃ j:Nat,i=(j:Int)∧j<n∧K j=some y:=by
 unfold inI at h;split at h
 ·rename_i j;obtain⟨h1,h2⟩:=zA h;exact⟨j,rfl,by simpa[Nat.blt_eq] using h1,h2⟩
 ·cases h
theorem ziW {i:Int} {K:Nat→R} (h:zod i K=some y):∃ j:Nat,i=(j:Int)∧K j=some y:=by
 unfold zod at h;split at h
 ·exact⟨_,rfl,h⟩
 ·cases h
theorem zHE {v:V} {sv:SV} {K:Nat→Nat→Nat→R} (h:zAq v K=some y) (hv:VR σ nb v sv):∃ a o n x c,sv = .slice x n c∧K a o n=some y∧∃ e,σ[a]? = some e∧(x=some ⟨e.addr,o,none⟩∨(n=0∧x=none)):=by
 obtain⟨x,rfl,h1⟩:=zd9 h;split at h1
 ·rename_i a o n c;obtain⟨sc,h4,rfl⟩:=hv.cc (by simp);obtain⟨w,h4,rfl⟩:=h4;simp only[C.val,Option.map_eq_some_iff] at h4;obtain⟨e,h5,rfl⟩:=h4;exact⟨a,o,n,_,c,rfl,h1,e,h5,.inl rfl⟩
 ·rename_i a o d n;obtain⟨sc,h4,rfl⟩:=hv.cc (by simp);obtain⟨w,h4,rfl⟩:=h4;simp only[C.val,Option.bind_eq_some_iff] at h4;obtain⟨e,h5,h6⟩:=h4;split at h6
  ·split at h6
   ·rename_i hc;cases h6;obtain⟨rfl,rfl,rfl⟩:=hc;exact⟨a,0,0,_,0,rfl,h1,e,h5,.inr ⟨rfl,rfl⟩⟩
   ·cases h6
  ·split at h6
   ·cases h6;exact⟨a,o,n,_,_,rfl,h1,e,h5,.inl rfl⟩
   ·cases h6
 ·cases h1
theorem zJr (size:Nat) (x i:Operand):QS (.iaddr size x i) (zHu size x i):=fun {σ nb s t y K k} hq h hk=>by
 refine zZ h hq.fr fun v sv _ hv h1=>?_
 obtain⟨a,o,n,x,c,rfl,h2,e,he,hx⟩:=zHE h1 hv;refine zea h2 hq.fr fun q m h3=>?_
 obtain⟨j,rfl,hj,h4⟩:=zKL h3;rcases hx with rfl|⟨rfl, -⟩
 ·refine⟨⟨by omega,by omega⟩,?_⟩;rw[fN_eq] at h4;show k (.ptr e.addr (o+(j:Int).toNat*size))
  rw[Int.toNat_natCast];exact hk (.c (.p a (o+j*size))) _ (zbu (by simp[C.val,he])) h4
 ·omega
theorem zHF (len size:Nat) (p i:Operand):QS (.iaddrA len size p i) (zDY len size p i):=fun {σ nb s t y K k} hq h hk=>by
 refine zea h hq.fr fun q m h1=>?_
 obtain⟨j,rfl,hj,h2⟩:=zKL h1;refine⟨⟨by omega,by omega⟩,zZ h2 hq.fr fun v sv _ hv h3=>?_⟩;rw[fN_eq] at h3;rw[Int.toNat_natCast];exact zD4 h3 hv hk
theorem zQt (x:Operand):QS (.not x) (zOc x):=fun {σ nb s t y K k} hq h hk=>by
 refine zZ h hq.fr fun v sv _ hv h1=>?_
 obtain⟨c,rfl,h2⟩:=zd9 h1;cases c with
 | t b=>
  replace h2:kB (!b) K=some y:=h2;rw[zs2] at h2;rcases hv with ⟨sc,h3,rfl⟩|⟨b',h3,rfl⟩
  ·obtain⟨v',h4,rfl⟩:=h3;cases h4;show lit b (k (.bool false)) (k (.bool true))
   cases b
   ·exact hk _ (.bool true) (zbu rfl) h2
   ·exact hk _ (.bool false) (zbu rfl) h2
  ·cases h3;exact hk _ _ zoU h2
 | _=>cases h2
theorem zpA {op:BinOp} {r:Bool} {K:V→R} (h:nilT op r K=some y) {k:SV→Prop} (hk:∀ v sv,VR σ nb v sv→K v=some y→k sv):Vm.nilT op r k:=by
 unfold nilT at h;split at h
 ·rw[zs2] at h;exact hk _ _ zoU h
 ·rw[zs2] at h;exact hk _ _ zoU h
 ·cases h
theorem zM2 (op:BinOp) (x y:Operand):QS (.bbin op x y) (zKq op x y):=fun {σ nb s t z K k} hq h hk=>by
 refine zQr h hq.fr fun a h1=>zQr h1 hq.fr fun b h2=>?_
 unfold beqT at h2;split at h2
 ·rw[zs2] at h2;exact hk _ _ zoU h2
 ·rw[zs2] at h2;exact hk _ _ zoU h2
 ·cases h2
theorem zM3 (op:BinOp) (x y:Operand):QS (.pnil op x y) (zKr op x y):=fun {σ nb s t z K k} hq h hk=>by
 refine zZ h hq.fr fun v sv _ hv h1=>?_
 obtain⟨c,rfl,h2⟩:=zd9 h1;split at h2
 ·rw[hv.val rfl (by simp)];refine zZ h2 hq.fr fun v sv _ hv h3=>?_
  obtain⟨c,rfl,h4⟩:=zd9 h3;split at h4
  ·rw[hv.val rfl (by simp)];exact zpA h4 hk
  ·obtain⟨sc,h5,rfl⟩:=hv.cc (by simp);obtain⟨w,h5,rfl⟩:=h5;simp only[C.val,Option.map_eq_some_iff] at h5;obtain⟨e,h6,rfl⟩:=h5;exact zpA h4 hk
  ·obtain⟨sc,h5,rfl⟩:=hv.cc (by simp);obtain⟨-, rfl⟩:=h5;exact zpA h4 hk
  ·cases h4
 ·cases h2
theorem zQu (x:Operand):QS (.len x) (zOd x):=fun {σ nb s t z K k} hq h hk=>by
 refine zZ h hq.fr fun v sv _ hv h1=>?_
 obtain⟨c,rfl,h2⟩:=zd9 h1;split at h2
 ·obtain⟨sc,h5,rfl⟩:=hv.cc (by simp);obtain⟨w,h5,rfl⟩:=h5;simp only[C.val,Option.map_eq_some_iff] at h5;obtain⟨e,h6,rfl⟩:=h5;exact hk _ _ (zbu rfl) h2
 ·obtain⟨sc,h5,rfl⟩:=hv.cc (by simp);obtain⟨w,h5,rfl⟩:=h5;simp only[C.val,Option.bind_eq_some_iff] at h5;obtain⟨e,h6,h7⟩:=h5;split at h7<;>split at h7
  ·rename_i hc;cases h7;obtain⟨rfl, -, -⟩:=hc;exact hk _ _ (zbu rfl) h2
  ·cases h7
  ·cases h7;exact hk _ _ (zbu rfl) h2
  ·cases h7
 ·rw[hv.val rfl (by simp)];exact hk _ _ (zbu rfl) h2
 ·obtain⟨sc,h5,rfl⟩:=hv.cc (by simp);obtain⟨w,h5,rfl⟩:=h5;simp only[C.val,Option.bind_eq_some_iff] at h5;obtain⟨e,h6,h7⟩:=h5;split at h7
  ·cases h7;exact hk _ _ (zbu (x := .n .i64 0) rfl) h2
  ·cases h7
 ·cases h2
theorem zM4 (x:Operand):QS (.lenS x) (zKt x):=fun {σ nb s t z K k} hq h hk=>by
 refine zZ h hq.fr fun v sv _ hv h1=>?_
 obtain⟨l,rfl,h2⟩:=zq6 h1 hv;rw[zb1] at h2;show k (.int .i64 (zad l).size)
 have e:(zad l).size=l.length:=by simp[zad,ByteArray.size]
 rw[e];exact hk _ _ (zbu rfl) h2
theorem zEy (x:Operand) (i:Nat):QS (.extract x i) (zAr x i):=fun {σ nb s t z K k} hq h hk=>by
 refine zZ h hq.fr fun v sv _ hv h1=>?_
 obtain⟨l,vs,rfl,hl,h2⟩:=zS1 h1 hv;obtain⟨w,h3,h4⟩:=ztC h2;obtain⟨u,h5,h6⟩:=hl.at_ h3;show onO (vs.toArray.toList[i]?) _
 rw[show vs.toArray.toList=vs from rfl,h5];exact hk _ _ (zxj h6) h4
end
end
section
section
variable {σ:List E} {s:S} {t:St} {y:Out} {nb:Nat}
theorem zrC (k:IntKind) {n:Nat} (h:n<lim k):k.wrap (n:Int)=n:=by
 cases k<;>simp only[lim] at h<;>simp only[IntKind.wrap,IntKind.bits,IntKind.signed]<;>simp<;>omega
theorem zRr (k:IntKind):∃ m,lim k=2 ^ m∧m≤k.bits:=by
 cases k
 ·exact⟨7,rfl,by decide⟩
 ·exact⟨15,rfl,by decide⟩
 ·exact⟨31,rfl,by decide⟩
 ·exact⟨63,rfl,by decide⟩
 ·exact⟨8,rfl,by decide⟩
 ·exact⟨16,rfl,by decide⟩
 ·exact⟨32,rfl,by decide⟩
 ·exact⟨64,rfl,by decide⟩
theorem zwR (k:IntKind) (n:Int):VR σ nb (.c (.n k n)) (.int k n):=zbu rfl
section
variable {k:SV→Prop} {K:V→R} (hk:∀ v sv,VR σ nb v sv→K v=some y→k sv)
include hk
theorem zp4 {q:IntKind} {r:Int} (h:kI q r K=some y):k (.int q r):=by
 unfold kI at h;rw[zTW] at h;exact hk _ _ (zwR q r) h
theorem zxm {q:IntKind} {r:Int} (h:arith q r K=some y):Vm.arith q r k:=by
 unfold Vm.arith;cases r with
 | ofNat n=>
  have h':(Bool.rec (match q.signed with|true=>fail|false=>kI q (q.wrap (.ofNat n)) K) (fN (fun n'=>K (.c (.n q (.ofNat n')))) n) (Nat.blt n (lim q)):R)=some y:=h;cases hb:Nat.blt n (lim q) with
  | true=>
   rw[hb,fN_eq] at h';have hw:q.wrap (Int.ofNat n)=Int.ofNat n:=zrC q (by simpa[Nat.blt_eq] using hb)
   have h3:=hk _ _ (zwR q (.ofNat n)) h';split
   ·exact⟨by rw[hw];exact h3⟩
   ·rw[hw];exact h3
  | false=>
   rw[hb] at h';have h'':(match q.signed with|true=>fail|false=>kI q (q.wrap (.ofNat n)) K)=some y:=h'
   cases hs:q.signed
   ·rw[hs] at h'';exact zp4 hk h''
   ·rw[hs] at h'';cases h''
 | negSucc n=>
  have h':(match q.signed with|true=>cB (decide (q.wrap (.negSucc n) = .negSucc n)) (kI q (.negSucc n) K) fail|false=>kI q (q.wrap (.negSucc n)) K)=some y:=h;cases hs:q.signed
  ·rw[hs] at h';exact zp4 hk h'
  ·rw[hs] at h';obtain⟨h1,h2⟩:=zA h';exact⟨by rw[(Zd0 h1:q.wrap (.negSucc n) = .negSucc n)];exact zp4 hk h2⟩
omit hk in
theorem zOn {q:IntKind} {a b:Nat} (ha:a<lim q) (hb:b<lim q) :
  zbz .and q a b=((Nat.land a b:Nat):Int)∧zbz .or q a b=((Nat.lor a b:Nat):Int)∧zbz .xor q a b=((Nat.xor a b:Nat):Int):=by
 obtain⟨m,hm,hmb⟩:=zRr q;have hp:2 ^ m≤2 ^ q.bits:=Nat.pow_le_pow_right (by decide) hmb
 have ea:(BitVec.ofInt q.bits (a:Int))=BitVec.ofNat q.bits a:=BitVec.ofInt_natCast ..;have eb:(BitVec.ofInt q.bits (b:Int))=BitVec.ofNat q.bits b:=BitVec.ofInt_natCast ..
 rw[hm] at ha hb;have ma:a % 2 ^ q.bits=a:=Nat.mod_eq_of_lt (by omega)
 have mb:b % 2 ^ q.bits=b:=Nat.mod_eq_of_lt (by omega);refine⟨?_,?_,?_⟩
 ·unfold zbz;simp only[ea,eb,BitVec.toNat_and,BitVec.toNat_ofNat,ma,mb];exact zrC q (by rw[hm];exact Nat.and_lt_two_pow a hb)
 ·unfold zbz;simp only[ea,eb,BitVec.toNat_or,BitVec.toNat_ofNat,ma,mb];exact zrC q (by rw[hm];exact Nat.or_lt_two_pow ha hb)
 ·unfold zbz;simp only[ea,eb,BitVec.toNat_xor,BitVec.toNat_ofNat,ma,mb];exact zrC q (by rw[hm];exact Nat.xor_lt_two_pow ha hb)
theorem zGa {op:BinOp} (ho:op = .and∨op = .or∨op = .xor∨op = .andNot) {q:IntKind} {a b:Int} (h:bop op q a b K=some y):k (.int q (zbz op q a b)):=by
 unfold bop at h;split at h
 ·obtain⟨h1,h2⟩:=zA h;obtain⟨h3,h4⟩:=zA h2;obtain⟨e1,e2,e3⟩:=zOn (by simpa[Nat.blt_eq] using h1) (by simpa[Nat.blt_eq] using h3);rcases ho with rfl|rfl|rfl|rfl
  ·simp only[fN_eq] at h4;have:=hk _ _ (zwR q _) h4
   show k (.int q (zbz .and q (_:Nat) (_:Nat)));rw[e1];exact this
  ·simp only[fN_eq] at h4;have:=hk _ _ (zwR q _) h4
   show k (.int q (zbz .or q (_:Nat) (_:Nat)));rw[e2];exact this
  ·simp only[fN_eq] at h4;have:=hk _ _ (zwR q _) h4
   show k (.int q (zbz .xor q (_:Nat) (_:Nat)));rw[e3];exact this
  ·exact zp4 hk h4
 ·exact zp4 hk h
omit hk in
theorem zRs (a b:Int):zAp a b=decide (a≤b):=by
 cases a with
 | ofNat a=>cases b with
  | ofNat b=>
   show Nat.ble a b=_;cases hb:Nat.ble a b
   ·have:¬a≤b:=fun h=>by rw[Nat.ble_eq_true_of_le h] at hb;cases hb
    symm;apply decide_eq_false;simp;omega
   ·have:=Nat.le_of_ble_eq_true hb;symm;apply decide_eq_true;simp;omega
  | negSucc b=>show false=_;symm;apply decide_eq_false;simp;omega
 | negSucc a=>cases b with
  | ofNat b=>show true=_;symm;apply decide_eq_true;simp;omega
  | negSucc b=>
   show Nat.ble b a=_;cases hb:Nat.ble b a
   ·have:¬b≤a:=fun h=>by rw[Nat.ble_eq_true_of_le h] at hb;cases hb
    symm;apply decide_eq_false;rw[Int.negSucc_eq,Int.negSucc_eq];omega
   ·have:=Nat.le_of_ble_eq_true hb;symm;apply decide_eq_true;rw[Int.negSucc_eq,Int.negSucc_eq];omega
omit hk in
theorem zwS (a b:Nat):Nat.beq a b=decide (a=b):=by
 cases h:Nat.beq a b
 ·symm;apply decide_eq_false;intro e;subst e;simp at h
 ·symm;apply decide_eq_true;exact Nat.eq_of_beq_eq_true h
omit hk in
theorem ztE (a b:Int):zrA a b=decide (a=b):=by
 cases a<;>cases b<;>simp[zrA,zwS]<;>omega
omit hk in
theorem zRt (a b:Int):zSL a b=a+b:=by cases a<;>cases b<;>rfl
omit hk in
theorem zRu (a b:Int):zSM a b=a - b:=by
 cases a with
 | ofNat a=>cases b with
  | ofNat b=>
   show (Bool.rec (.negSucc (b - a - 1)) (.ofNat (a - b)) (Nat.ble b a):Int)=_;cases hb:Nat.ble b a
   ·have:¬b≤a:=fun h=>by rw[Nat.ble_eq_true_of_le h] at hb;cases hb
    show Int.negSucc (b - a - 1)=_;rw[Int.negSucc_eq];simp only[Int.ofNat_eq_natCast];omega
   ·have:=Nat.le_of_ble_eq_true hb;show Int.ofNat (a - b)=_
    simp only[Int.ofNat_eq_natCast];omega
  | negSucc b=>rfl
 | negSucc a=>cases b<;>rfl
omit hk in
theorem zRv (a b:Int):zSN a b=a*b:=by cases a<;>cases b<;>rfl
omit hk in
theorem zRw (a b:Int):zSO a b=a.tdiv b:=by cases a<;>cases b<;>rfl
omit hk in
theorem zRx (a b:Int):zSP a b=a.tmod b:=by cases a<;>cases b<;>rfl
omit hk in
theorem zQv {b:Bool} {e:R} (h:cB b fail e=some y):b=false∧e=some y:=by cases b<;>simp_all [cB,fail]
theorem zHG {op:BinOp} {q:IntKind} {a b:Int} (h:ibin op q a b K=some y):Vm.ibin op q a b k:=by
 unfold ibin at h;unfold Vm.ibin;cases op<;>simp only[zRt,zRu,zRv,zRw,zRx,ztE,zRs,zs2] at h ⊢
 case add=>exact zxm hk h
 case sub=>exact zxm hk h
 case mul=>exact zxm hk h
 case quo=>
  obtain⟨h1,h2⟩:=zQv h;exact⟨Zd1 h1,zxm hk h2⟩
 case rem=>
  obtain⟨h1,h2⟩:=zQv h;exact⟨Zd1 h1,zp4 hk h2⟩
 case and=>exact zGa hk (.inl rfl) h
 case or=>exact zGa hk (.inr (.inl rfl)) h
 case xor=>exact zGa hk (.inr (.inr (.inl rfl))) h
 case andNot=>exact zGa hk (.inr (.inr (.inr rfl))) h
 case eql=>exact hk _ _ zoU h
 case neq=>exact hk _ _ zoU h
 case lss=>exact hk _ _ (by rw[show decide (a<b) = !decide (b≤a) by simp[←Int.not_le]];exact zoU) h
 case leq=>exact hk _ _ zoU h
 case gtr=>exact hk _ _ (by rw[show decide (b<a) = !decide (a≤b) by simp[←Int.not_le]];exact zoU) h
 case geq=>exact hk _ _ zoU h
 case shl=>
  obtain⟨h1,h2⟩:=zA h;exact⟨Zd0 h1,zp4 hk h2⟩
 case shr=>
  obtain⟨h1,h2⟩:=zA h;refine⟨Zd0 h1,?_⟩;cases a with
  | ofNat a=>
   simp only[fN_eq] at h2;have h3:=hk _ _ (zwR q _) h2
   have e:(Int.ofNat a).fdiv (2 ^ (min b.toNat q.bits))=Int.ofNat (a / 2 ^ (min b.toNat q.bits)):=by
    have:=Int.fdiv_eq_ediv_of_nonneg (Int.ofNat a) (b:=2 ^ (min b.toNat q.bits)) (Int.pow_nonneg (by decide));rw[this];show ((a:Int) / 2 ^ _)=((a / 2 ^ _:Nat):Int)
    simp
   rw[e];exact h3
  | negSucc a=>exact zp4 hk h2
end
theorem zRy {op:BinOp} {q q':IntKind} {A:R} (h:sameK op q q' A=some y) {B:Prop} (hk:A=some y→B):Vm.sameK op q q' B:=by
 unfold sameK at h;unfold Vm.sameK
 cases op<;>first
  | exact hk h
  | (obtain⟨h1,h2⟩:=zA h
     simp only[h1]
     exact hk h2)
theorem zM5 (op:BinOp) (x y:Operand):QS (.ibin op x y) (zKp op x y):=fun {σ nb s t z K k} hq h hk=>by
 refine zea h hq.fr fun q a h1=>zea h1 hq.fr fun q' b h2=>zRy h2 fun h3=>zHG hk h3
theorem zM6 (q:IntKind) (x:Operand):QS (.conv q x) (zKs q x):=fun {σ nb s t z K k} hq h hk=>by
 refine zea h hq.fr fun q' n h1=>?_
 split at h1
 ·rename_i m;cases hb:Nat.blt m (lim q) with
  | true=>
   rw[hb] at h1;have hw:q.wrap (Int.ofNat m)=Int.ofNat m:=zrC q (by simpa[Nat.blt_eq] using hb)
   show k (.int q (q.wrap (Int.ofNat m)));rw[hw];exact hk _ _ (zwR q _) h1
  | false=>rw[hb] at h1;exact zp4 hk h1
 ·exact zp4 hk h1
theorem zM7 (x:Operand):QS (.uneg x) (zKA x):=fun {σ nb s t z K k} hq h hk=>zea h hq.fr fun _ _ h1=>zHG hk h1
theorem zM8 (x:Operand):QS (.ucom x) (zKB x):=fun {σ nb s t z K k} hq h hk=>zea h hq.fr fun _ _ h1=>zHG hk h1
theorem zQw (mx:Bool) (x y:Operand):QS (.imm mx x y) (zOe mx x y):=fun {σ nb s t z K k} hq h hk=>by
 refine zea h hq.fr fun q a h1=>zea h1 hq.fr fun q' b h2=>?_
 cases mx
 ·exact zp4 hk h2
 ·exact zp4 hk h2
theorem zoV {a:List Nat} (h:zl4 a=true):∀ x∈a,x<256:=by
 induction a with
 | nil=>simp
 | cons x r ih=>
  have h':(Bool.rec false (zl4 r) (Nat.blt x 256):Bool)=true:=h;cases hb:Nat.blt x 256 with
  | false=>rw[hb] at h';cases h'
  | true=>
   rw[hb] at h';intro y hy;rcases List.mem_cons.1 hy with rfl|hy
   ·simpa[Nat.blt_eq] using hb
   ·exact ih h' y hy
theorem ztF:∀ a b:List Nat,zuI a b=decide (a=b)
 | [],[]=>rfl
 | [],_::_=>rfl
 | _::_,[]=>rfl
 | x::a,y::b=>by
  show (Bool.rec false (zuI a b) (Nat.beq x y):Bool)=_;rw[ztF a b,zwS];by_cases h:x=y
  ·subst h;simp
  ·simp[h]
theorem zAt {a b:List Nat} (ha:∀ x∈a,x<256) (hb:∀ x∈b,x<256):zad a=zad b↔a=b:=by
 constructor
 ·intro h;unfold zad at h;simp only[ByteArray.mk.injEq] at h;have h':=congrArg Array.toList h
  simp only[List.toList_toArray] at h';have h2:=congrArg (List.map UInt8.toNat) h'
  rw[List.map_map,List.map_map] at h2
  have key:∀ l:List Nat,(∀ x∈l,x<256)→l.map (UInt8.toNat∘UInt8.ofNat)=l:=fun l hl=>by
   conv=>rhs;rw[←List.map_id l]
   exact List.map_congr_left fun x hx=>by simp[Nat.mod_eq_of_lt (hl x hx)]
  rwa [key a ha,key b hb] at h2
 ·rintro rfl;rfl
theorem zS2 {op:BinOp} {a b:List Nat} {K:V→R} (h:strT op a b K=some y) {k:SV→Prop} (hk:∀ v sv,VR σ nb v sv→K v=some y→k sv):Vm.strT op (zad a) (zad b) k:=by
 unfold strT at h;split at h
 ·obtain⟨h1,h2⟩:=zA h;rw[Bool.and_eq_true] at h1;rw[zs2,ztF] at h2;show k (.sb (decide (zad a=zad b)))
  rw[show decide (zad a=zad b)=decide (a=b) from decide_eq_decide.2 (zAt (zoV h1.1) (zoV h1.2))];exact hk _ _ zoU h2
 ·obtain⟨h1,h2⟩:=zA h;rw[Bool.and_eq_true] at h1;rw[zs2,ztF] at h2;show k (.sb (!decide (zad a=zad b)))
  rw[show decide (zad a=zad b)=decide (a=b) from decide_eq_decide.2 (zAt (zoV h1.1) (zoV h1.2))];exact hk _ _ zoU h2
 ·obtain⟨h1,h2⟩:=zA h;rw[znc] at h2;have hs:∀ l:List Nat,(zad l).size=l.length:=fun l=>by simp[zad,ByteArray.size]
  refine⟨?_,?_⟩
  ·rw[hs,hs];exact Nat.le_of_ble_eq_true h1
  ·have e:zad a++zad b=zad (a++b):=by
    apply ByteArray.ext;simp[zad]
   rw[e];exact hk _ _ (zbu rfl) h2
 ·cases h
theorem zM9 (op:BinOp) (x y:Operand):QS (.strE op x y) (zKu op x y):=fun {σ nb s t z K k} hq h hk=>by
 refine zZ h hq.fr fun v sv _ hv h1=>?_
 obtain⟨a,rfl,h2⟩:=zq6 h1 hv;refine zZ h2 hq.fr fun v sv _ hv h3=>?_
 obtain⟨b,rfl,h4⟩:=zq6 h3 hv;exact zS2 h4 hk
theorem zHH:∀ {l:List C} {K:List Nat→R},zwN l K=some y→∃ b,l=b.map (fun x:Nat=>C.n .u8 (.ofNat x))∧(∀ x∈b,x<256)∧K b=some y
 | [],K,h=>⟨[],rfl,by simp,h⟩
 | .n .u8 (.ofNat x)::l,K,h=>by
  have h':cB (Nat.blt x 256) (zwN l fun r=>K (x::r)) fail=some y:=h;obtain⟨h1,h2⟩:=zA h';obtain⟨b,h3,h4,h5⟩:=zHH h2;refine⟨x::b,by rw[h3];rfl,?_,h5⟩;intro z hz;rcases List.mem_cons.1 hz with rfl|hz
  ·simpa[Nat.blt_eq] using h1
  ·exact h4 z hz
 | .n .u8 (.negSucc _)::_,_,h=>by cases h
 | .n .i8 _::_,_,h=>by cases h
 | .n .i16 _::_,_,h=>by cases h
 | .n .i32 _::_,_,h=>by cases h
 | .n .i64 _::_,_,h=>by cases h
 | .n .u16 _::_,_,h=>by cases h
 | .n .u32 _::_,_,h=>by cases h
 | .n .u64 _::_,_,h=>by cases h
 | .t _::_,_,h=>by cases h
 | .s _::_,_,h=>by cases h
 | .p _ _::_,_,h=>by cases h
 | .np::_,_,h=>by cases h
 | .l _ _ _ _::_,_,h=>by cases h
 | .g _ _ _ _::_,_,h=>by cases h
 | .nl::_,_,h=>by cases h
 | .m _::_,_,h=>by cases h
 | .nm::_,_,h=>by cases h
 | .b _ _::_,_,h=>by cases h
 | .f _::_,_,h=>by cases h
 | .fm _ _ _::_,_,h=>by cases h
 | .h _ _ _ _ _ _::_,_,h=>by cases h
 | .ni::_,_,h=>by cases h
 | .nf::_,_,h=>by cases h
theorem zKM {b:List Nat} (hb:∀ x∈b,x<256) {vs:List Value} (h:All2 (CR σ) (b.map fun x:Nat=>C.n .u8 (.ofNat x)) vs):vs=(b.map UInt8.ofNat).map zi:=by
 induction b generalizing vs with
 | nil=>cases vs with
  | nil=>rfl
  | cons _ _=>exact h.elim
 | cons x r ih=>cases vs with
  | nil=>exact h.elim
  | cons v vs=>
   have h1:some (Value.int .u8 (.ofNat x))=some v:=h.1;cases h1;rw[ih (fun z hz=>hb z (List.mem_cons_of_mem _ hz)) h.2];have:(UInt8.ofNat x).toNat=x:=by simp[Nat.mod_eq_of_lt (hb x (by simp))]
   simp[zi,this]
theorem zJs (x:Operand):QS (.strOf x) (zHv x):=fun {σ nb s t z K k} hq h hk=>by
 refine zZ h hq.fr fun v sv _ hv h1=>?_
 have fin:∀ (a o n:Nat) (q:Option Addr) (e:E),σ[a]? = some e→(q=some ⟨e.addr,o,none⟩∨n=0)→(row s a o n fun l=>zwN l fun b=>K (.c (.s b)))=some z→zcc t.M q n k:=fun a o n q e he hqa hr=>by
  obtain⟨l,vs,e',h4,h5,h6,h7,h8⟩:=zCr hr hq;rw[he] at h4;cases h4;obtain⟨b,rfl,h9,h10⟩:=zHH h7;have h11:=zKM h9 h6
  subst h11;rw[List.length_map] at h5;refine⟨b.map UInt8.ofNat,⟨by simp[h5],?_⟩,hk _ _ (zbu rfl) h10⟩;rcases h8 with rfl|h8
  ·left;cases b<;>simp_all
  ·rcases hqa with rfl|rfl
   ·right;exact⟨_,_,rfl,by simpa using h8⟩
   ·left;cases b<;>simp_all
 obtain⟨c,rfl,h2⟩:=zd9 h1;split at h2
 ·rw[hv.val rfl (by simp)];exact⟨[],⟨rfl,.inl rfl⟩,hk _ _ (zbu rfl) h2⟩
 ·obtain⟨sc,h5,rfl⟩:=hv.cc (by simp);obtain⟨w,h5,rfl⟩:=h5;simp only[C.val,Option.bind_eq_some_iff] at h5;obtain⟨e,h6,h7⟩:=h5;split at h7
  ·cases h7;exact⟨[],⟨rfl,.inl rfl⟩,hk _ _ (zbu (x := .s []) rfl) h2⟩
  ·cases h7
 ·obtain⟨sc,h5,rfl⟩:=hv.cc (by simp);obtain⟨w,h5,rfl⟩:=h5;simp only[C.val,Option.map_eq_some_iff] at h5;obtain⟨e,h6,rfl⟩:=h5;exact fin _ _ _ _ e h6 (.inl rfl) h2
 ·obtain⟨sc,h5,rfl⟩:=hv.cc (by simp);obtain⟨w,h5,rfl⟩:=h5;simp only[C.val,Option.bind_eq_some_iff] at h5;obtain⟨e,h6,h7⟩:=h5;split at h7<;>split at h7
  ·rename_i hc;cases h7;obtain⟨rfl, -, -⟩:=hc;exact fin _ _ _ _ e h6 (.inr rfl) h2
  ·cases h7
  ·cases h7;exact fin _ _ _ _ e h6 (.inl rfl) h2
  ·cases h7
 ·cases h2
theorem zNa (x i:Operand):QS (.sidx x i) (zKw x i):=fun {σ nb s t z K k} hq h hk=>by
 refine zZ h hq.fr fun v sv _ hv h1=>?_
 obtain⟨a,rfl,h2⟩:=zq6 h1 hv;refine zea h2 hq.fr fun q j h3=>?_
 obtain⟨j,rfl,h4⟩:=ziW h3;obtain⟨b,h5,h6⟩:=ztC h4;obtain⟨h7,h8⟩:=zA h6;have hj:=(List.getElem?_eq_some_iff.1 h5).1
 have hs:(zad a).size=a.length:=by simp[zad,ByteArray.size]
 refine⟨⟨by omega,by rw[hs];omega⟩,?_⟩;have hb:b<256:=by simpa[Nat.blt_eq] using h7
 have e:((zad a).toList.getD (j:Int).toNat 0).toNat=b:=by
  rw[ByteArray.toList_eq,Int.toNat_natCast];show ((a.map UInt8.ofNat).getD j 0).toNat=b
  rw[List.getD_eq_getElem?_getD,List.getElem?_map,h5];simp[Nat.mod_eq_of_lt hb]
 rw[e];exact hk _ _ (zbu rfl) h8
theorem zNb (g:Bool) (len size:Nat) (x i:Operand):QS (.aidx g len size x i) (zKx g len size x i):=fun {σ nb s t z K k} hq h hk=>by
 refine zea h hq.fr fun q j h1=>?_
 obtain⟨j,rfl,hj,h2⟩:=zKL h1;refine⟨⟨by omega,by omega⟩,zZ h2 hq.fr fun v sv _ hv h3=>?_⟩;obtain⟨l,cs,rfl,hl,h4⟩:=zCq h3 hv;obtain⟨h5,h6⟩:=ztD h4;rw[Int.toNat_natCast];show onO (Vm.takeC cs (j*size) size) _
 rw[zuK (by rw[←hl.len];exact h5)];exact zxl h6 ((hl.drop _).take _) hk
end
end
section
section
variable {σ:List E} {s:S} {t:St} {y:Out} {nb:Nat}
theorem zCs {x:Option Operand} {d:Int} {K:Int→R} (h:evIO s x d K=some y) (hf:FR σ nb s t.fr) {k:Int→Prop} (hk:∀ n,K n=some y→k n):Vm.evIO t x d k:=by
 cases x with
 | none=>exact hk _ h
 | some x=>exact zea h hf fun _ n h=>hk n h
theorem zuL {o l m size:Nat} (b:Nat) (hlm:m≠l):zap (some ⟨b,o,none⟩) l m size=some ⟨b,o+l*size,none⟩:=by
 unfold zap;rw[if_neg hlm];show some (Addr.add ⟨b,o,none⟩ (l*size))=_
 unfold Addr.add;split
 ·rename_i h;rw[h];rfl
 ·rfl
theorem zT2 (q:Option Addr) (c size:Nat):zap q 0 c size=q:=by
 unfold zap;split
 ·rfl
 ·cases q with
  | none=>rfl
  | some a=>show some (a.add (0*size))=_;simp[Addr.add]
theorem zxn {v:V} {sv:SV} {K:Nat→R} (h:zsq v K=some y) (hv:VR σ nb v sv):∃ a n c,sv = .slice a n c∧K n=some y:=by
 obtain⟨x,rfl,h2⟩:=zd9 h;split at h2
 ·obtain⟨sc,h5,rfl⟩:=hv.cc (by simp);obtain⟨w,h5,rfl⟩:=h5;simp only[C.val,Option.map_eq_some_iff] at h5;obtain⟨e,h6,rfl⟩:=h5;exact⟨_,_,_,rfl,h2⟩
 ·obtain⟨sc,h5,rfl⟩:=hv.cc (by simp);obtain⟨w,h5,rfl⟩:=h5;simp only[C.val,Option.bind_eq_some_iff] at h5;obtain⟨e,h6,h7⟩:=h5;split at h7<;>split at h7
  ·rename_i hc;cases h7;obtain⟨rfl, -, -⟩:=hc;exact⟨_,_,_,rfl,h2⟩
  ·cases h7
  ·cases h7;exact⟨_,_,_,rfl,h2⟩
  ·cases h7
 ·exact⟨_,_,_,hv.val rfl (by simp),h2⟩
 ·obtain⟨sc,h5,rfl⟩:=hv.cc (by simp);obtain⟨w,h5,rfl⟩:=h5;simp only[C.val,Option.bind_eq_some_iff] at h5;obtain⟨e,h6,h7⟩:=h5;split at h7
  ·cases h7;exact⟨_,_,_,rfl,h2⟩
  ·cases h7
 ·cases h2
theorem zT3 {size:Nat} {v:V} {sv:SV} {l h:Int} {K:V→R} (hh:slx size v l h K=some y) (hv:VR σ nb v sv) {k:SV→Prop} (hk:∀ v sv,VR σ nb v sv→K v=some y→k sv) {a:Option Addr} {n c:Nat} (hsv:sv = .slice a n c) :
  (0≤l∧l≤h∧h≤c)∧k (.slice (zap a l.toNat c size) (h.toNat - l.toNat) (c - l.toNat)):=by
 obtain⟨i,rfl,h1⟩:=ziW hh;obtain⟨j,rfl,h2⟩:=ziW h1;rw[Int.toNat_natCast,Int.toNat_natCast];clear h1;obtain⟨x,rfl,h1⟩:=zd9 h2;have hval:∀ {q:C} {w:Value},q.val σ=some w→K (.c q)=some y→k (.c (.v w)):=fun hq hK=>hk _ _ (zbu hq) hK
 split at h1
 ·rw[hv.val rfl (by simp)] at hsv;cases hsv;obtain⟨h6,h7⟩:=zA h1;obtain⟨h8,h9⟩:=zA h7;have hi:=Nat.eq_of_beq_eq_true h6
  have hj:=Nat.eq_of_beq_eq_true h8;subst hi hj;exact⟨by simp,hval (q := .nl) rfl h9⟩
 ·rename_i ab o n' c';obtain⟨sc,h5,rfl⟩:=hv.cc (by simp);obtain⟨w,h5,rfl⟩:=h5;simp only[C.val,Option.map_eq_some_iff] at h5;obtain⟨e,he,rfl⟩:=h5;cases hsv;obtain⟨h6,h7⟩:=zA h1;obtain⟨h8,h9⟩:=zA h7;have hij:=Nat.le_of_ble_eq_true h6
  have hjc:=Nat.le_of_ble_eq_true h8;refine⟨by omega,?_⟩;cases hb:Nat.beq c i with
  | true=>
   rw[hb] at h9;simp only[fN_eq] at h9;have hci:=Nat.eq_of_beq_eq_true hb
   have es:zap (some ⟨e.addr,o,none⟩) i c size=some ⟨e.addr,o,none⟩:=by unfold zap;rw[if_pos hci]
   rw[es];exact hval (q := .l ab o (j - i) (c - i)) (by simp[C.val,he]) h9
  | false=>
   rw[hb] at h9;simp only[fN_eq] at h9;have hci:c≠i:=fun e=>by subst e;simp at hb
   rw[zuL _ hci];exact hval (q := .l ab (o+i*size) (j - i) (c - i)) (by simp[C.val,he]) h9
 ·rename_i ab o d n';obtain⟨h6,h7⟩:=zA h1;obtain⟨h8,h9⟩:=zA h7;have hij:=Nat.le_of_ble_eq_true h6
  have hjn:=Nat.le_of_ble_eq_true h8;obtain⟨sc,hs,rfl⟩:=hv.cc (by simp);obtain⟨w,hs,rfl⟩:=hs;simp only[C.val,Option.bind_eq_some_iff] at hs;obtain⟨e,he,hs⟩:=hs;cases hsv;split at hs<;>split at hs
  ·rename_i hn hc;cases hs;obtain⟨rfl,rfl,rfl⟩:=hc;have hi0:i=0:=by omega
   have hj0:j=0:=by omega
   subst hi0 hj0;have h9':fN (fun h'=>K (.c (.g ab 0 0 h'))) 0=some y:=h9
   rw[fN_eq] at h9';exact⟨by simp,hval (q := .g ab 0 0 0) (by simp[C.val,he,hn,zap]) h9'⟩
  ·cases hs
  ·rename_i hn hc;cases hs;refine⟨by omega,?_⟩;cases hb:Nat.beq i 0 with
   | true=>
    have hi0:=Nat.eq_of_beq_eq_true hb;rw[hb] at h9;have h9':fN (fun h'=>K (.c (.g ab o d h'))) j=some y:=h9
    rw[fN_eq] at h9';subst hi0
    have es:zap (some ⟨e.addr,o,none⟩) 0 (e.cap - d) size=some ⟨e.addr,o,none⟩:=by
     unfold zap;split
     ·rfl
     ·show some (Addr.add ⟨e.addr,o,none⟩ (0*size))=_;simp[Addr.add]
    rw[es];exact hval (q := .g ab o d j) (by simp[C.val,he,hn];omega) h9'
   | false=>
    rw[hb] at h9;cases hbl:Nat.blt i n with
    | true=>
     rw[hbl] at h9;have h11:fN (fun o'=>fN (fun d'=>fN (fun n'=>K (.c (.g ab o' d' n'))) (j - i)) (d+i)) (o+i*size)=some y:=h9
     simp only[fN_eq] at h11;have hin:i<n:=by simpa[Nat.blt_eq] using hbl
     rw[zuL _ (show e.cap - d≠i by omega)];have:=hval (q := .g ab (o+i*size) (d+i) (j - i)) (w := .slice (some ⟨e.addr,o+i*size,none⟩) (j - i) (e.cap - (d+i))) (by simp[C.val,he,hn];omega) h11
     rw[show e.cap - d - i=e.cap - (d+i) by omega];exact this
    | false=>
     rw[hbl] at h9;have h11:K (.c (.h ab o d i size false))=some y:=h9
     have hin:¬i<n:=fun h=>by rw[show Nat.blt i n=true by simpa[Nat.blt_eq] using h] at hbl;cases hbl
     have hij':j - i=0:=by omega
     rw[hij']
     exact hval (q := .h ab o d i size false) (w := .slice (zap (some ⟨e.addr,o,none⟩) i (e.cap - d) size) 0 (e.cap - d - i)) (by
      have hn':e.nil=false:=by simpa using hn
      simp[C.val,he,hn'];omega) h11
  ·cases hs
 ·rename_i ab o d q z w;obtain⟨h6,h7⟩:=zA h1;obtain⟨h8,h9⟩:=zA h7;have hi0:=Nat.eq_of_beq_eq_true h6
  have hj0:=Nat.eq_of_beq_eq_true h8;obtain⟨sc,hs,rfl⟩:=hv.cc (by simp);obtain⟨u,hs,rfl⟩:=hs;have hs':=hs
  simp only[C.val,Option.bind_eq_some_iff] at hs;obtain⟨e,he,hs⟩:=hs;cases hsv;subst hi0 hj0;split at hs
  ·rename_i hc;have hn0:n=0:=by cases hs;rfl
   have h3:=hval hs' h9;refine⟨by simp,?_⟩;subst hn0;show k (.slice (zap a 0 c size) 0 c)
   rw[zT2];exact h3
  ·cases hs
 ·cases h1
theorem zQx (size:Nat) (x:Operand) (lo hi:Option Operand):QS (.slx size x lo hi) (zOf size x lo hi):=fun {σ nb s t z K k} hq h hk=>by
 refine zZ h hq.fr fun v sv _ hv h1=>?_
 obtain⟨a,n,c,rfl,h2⟩:=zxn h1 hv;dsimp only [zGe];refine zCs h2 hq.fr fun l h3=>zCs h3 hq.fr fun u h4=>?_
 exact zT3 h4 hv hk rfl
theorem zS3 {size:Nat} {v:V} {sv:SV} {l h m:Int} {K:V→R} (hh:slx3 size v l h m K=some y) (hv:VR σ nb v sv) {k:SV→Prop} (hk:∀ v sv,VR σ nb v sv→K v=some y→k sv) {a:Option Addr} {n c:Nat} (hsv:sv = .slice a n c) :
  (0≤l∧l≤h∧h≤m∧m≤c)∧k (.slice (zap a l.toNat m.toNat size) (h.toNat - l.toNat) (m.toNat - l.toNat)):=by
 obtain⟨i,rfl,h1⟩:=ziW hh;obtain⟨j,rfl,h2⟩:=ziW h1;obtain⟨u,rfl,h3⟩:=ziW h2;clear h1 h2;rw[Int.toNat_natCast,Int.toNat_natCast,Int.toNat_natCast];obtain⟨x,rfl,h1⟩:=zd9 h3;have hval:∀ {q:C} {w:Value},q.val σ=some w→K (.c q)=some y→k (.c (.v w)):=fun hq hK=>hk _ _ (zbu hq) hK
 split at h1
 ·rw[hv.val rfl (by simp)] at hsv;cases hsv;obtain⟨h6,h7⟩:=zA h1;obtain⟨h8,h9⟩:=zA h7;obtain⟨h10,h11⟩:=zA h9;have hi:=Nat.eq_of_beq_eq_true h6
  have hj:=Nat.eq_of_beq_eq_true h8;have hu:=Nat.eq_of_beq_eq_true h10
  subst hi hj hu;exact⟨by simp,hval (q := .nl) rfl h11⟩
 ·rename_i ab o n' c';obtain⟨sc,h5,rfl⟩:=hv.cc (by simp);obtain⟨w,h5,rfl⟩:=h5;simp only[C.val,Option.map_eq_some_iff] at h5;obtain⟨e,he,rfl⟩:=h5;cases hsv;obtain⟨h6,h7⟩:=zA h1;obtain⟨h8,h9⟩:=zA h7;obtain⟨h10,h11⟩:=zA h9;have hij:=Nat.le_of_ble_eq_true h6
  have hju:=Nat.le_of_ble_eq_true h8;have huc:=Nat.le_of_ble_eq_true h10
  refine⟨by omega,?_⟩;cases hb:Nat.beq u i with
  | true=>
   rw[hb] at h11;simp only[fN_eq] at h11;have hci:=Nat.eq_of_beq_eq_true hb
   have es:zap (some ⟨e.addr,o,none⟩) i u size=some ⟨e.addr,o,none⟩:=by unfold zap;rw[if_pos hci]
   rw[es];exact hval (q := .l ab o (j - i) (u - i)) (by simp[C.val,he]) h11
  | false=>
   rw[hb] at h11;simp only[fN_eq] at h11;have hci:u≠i:=fun e=>by subst e;simp at hb
   rw[zuL _ hci];exact hval (q := .l ab (o+i*size) (j - i) (u - i)) (by simp[C.val,he]) h11
 ·rename_i ab o d n';obtain⟨h4,h5⟩:=zA h1;obtain⟨h6,h7⟩:=zA h5;obtain⟨h8,h9⟩:=zA h7;obtain⟨h10,h11⟩:=zA h9;have hn0:0<n':=by simpa[Nat.blt_eq] using h4
  have hij:=Nat.le_of_ble_eq_true h6;have hju:=Nat.le_of_ble_eq_true h8
  have hun:=Nat.le_of_ble_eq_true h10;obtain⟨sc,hs,rfl⟩:=hv.cc (by simp);obtain⟨w,hs,rfl⟩:=hs;simp only[C.val,Option.bind_eq_some_iff] at hs;obtain⟨e,he,hs⟩:=hs;cases hsv;split at hs<;>split at hs
  ·rename_i hc;omega
  ·cases hs
  ·cases hs;refine⟨by omega,?_⟩;cases hb:Nat.beq u i with
   | true=>
    rw[hb] at h11;simp only[fN_eq] at h11;have hci:=Nat.eq_of_beq_eq_true hb
    have es:zap (some ⟨e.addr,o,none⟩) i u size=some ⟨e.addr,o,none⟩:=by unfold zap;rw[if_pos hci]
    rw[es];exact hval (q := .l ab o (j - i) (u - i)) (by simp[C.val,he]) h11
   | false=>
    rw[hb] at h11;simp only[fN_eq] at h11;have hci:u≠i:=fun e=>by subst e;simp at hb
    rw[zuL _ hci];exact hval (q := .l ab (o+i*size) (j - i) (u - i)) (by simp[C.val,he]) h11
  ·cases hs
 ·rename_i ab o d q z w;obtain⟨h6,h7⟩:=zA h1;obtain⟨h8,h9⟩:=zA h7;obtain⟨h10,h11⟩:=zA h9;have hi0:=Nat.eq_of_beq_eq_true h6
  have hj0:=Nat.eq_of_beq_eq_true h8;have hu0:=Nat.eq_of_beq_eq_true h10
  obtain⟨sc,hs,rfl⟩:=hv.cc (by simp);obtain⟨u',hs,rfl⟩:=hs;simp only[C.val,Option.bind_eq_some_iff] at hs;obtain⟨e,he,hs⟩:=hs;cases hsv;subst hi0 hj0 hu0;split at hs
  ·rename_i hc;have ea:a=zap (some ⟨e.addr,o,none⟩) q (e.cap - d) z:=by cases hs;rfl
   have en:n=0:=by cases hs;rfl
   have es:zap a 0 0 size=a:=by unfold zap;simp
   refine⟨by simp,?_⟩;rw[es,ea];exact hval (q := .h ab o d q z true) (w := .slice (zap (some ⟨e.addr,o,none⟩) q (e.cap - d) z) 0 0) (by simp[C.val,he,hc]) h11
  ·cases hs
 ·cases h1
theorem zNc (size:Nat) (x lo hi m:Operand):QS (.slx3 size x lo hi m) (zKv size x lo hi m):=fun {σ nb s t z K k} hq h hk=>by
 refine zZ h hq.fr fun v sv _ hv h1=>?_
 obtain⟨a,n,c,rfl,h2⟩:=zxn h1 hv;dsimp only [zGe];refine zea h2 hq.fr fun _ l h3=>zea h3 hq.fr fun _ u h4=>zea h4 hq.fr fun _ m h5=>?_
 exact zS3 h5 hv hk rfl
theorem zNd (f:Nat) (x:Operand):QS (.mval f x) (zKz f x):=fun {σ nb s t z K k} hq h hk=>by
 refine zZ h hq.fr fun v sv _ hv h1=>?_
 obtain⟨c,rfl,h2⟩:=zd9 h1;cases c with
 | p a o=>
  obtain⟨sc,h5,rfl⟩:=hv.cc (by simp);obtain⟨w,h5,rfl⟩:=h5;simp only[C.val,Option.map_eq_some_iff] at h5;obtain⟨e,he,rfl⟩:=h5;exact hk (.c (.fm f a o)) _ (zbu (by simp[C.val,he])) h2
 | _=>cases h2
theorem zT4 {x x':C} {a a':SC} (h:SCR σ nb x a) (h':SCR σ nb x' a') {b:Bool} (he:eqC x x'=some b) {k:Bool→Prop} (hk:k b):Vm.eqC a a' k:=by
 unfold eqC at he;split at he
 ·rename_i q u q' u';obtain⟨v,hv,rfl⟩:=h;obtain⟨v',hv',rfl⟩:=h';cases hv;cases hv';split at he
  ·rename_i hq;cases he;show (match decide (q=q') with|true=>k (decide (u=u'))|false=>False)
   rw[decide_eq_true hq];rw[ztE] at hk;exact hk
  ·cases he
 ·cases he
theorem zNe:∀ {x x':List C} {a a':List SC},All2 (SCR σ nb) x a→All2 (SCR σ nb) x' a'→∀ {b:Bool},eqCs x x'=some b→∀ {k:Bool→Prop},k b→Vm.eqCs a a' k
 | [],[],[],[],_,_,b,he,k,hk=>by cases he;exact hk
 | x::l,x'::l',a::r,a'::r',h,h',b,he,k,hk=>by
  unfold eqCs at he;split at he
  ·rename_i u u' h1 h2;cases he;exact zT4 h.1 h'.1 h1 (zNe h.2 h'.2 h2 hk)
  ·cases he
 | [],_::_,_,_,_,_,_,he,_,_=>by cases he
 | _::_,[],_,_,_,_,_,he,_,_=>by cases he
 | [],[],_::_,_,h,_,_,_,_,_=>h.elim
 | [],[],[],_::_,_,h,_,_,_,_=>h.elim
 | _::_,_::_,[],_,h,_,_,_,_,_=>h.elim
 | _::_,_::_,_::_,[],_,h,_,_,_,_=>h.elim
theorem znd {m n:Nat} {A:Prop} (h:m=n) (hA:A):znC m n A:=by subst h;unfold znC;rw[show Nat.beq m m=true from Nat.beq_refl m];exact hA
theorem zQy (op:BinOp) (n:Nat) (x y:Operand):QS (.aeq op n x y) (zOg op n x y):=fun {σ nb s t z K k} hq h hk=>by
 refine zZ h hq.fr fun v sv _ hv h1=>?_
 obtain⟨l,cs,rfl,hl,h2⟩:=zCq h1 hv;rw[zb1] at h2;obtain⟨h3,h4⟩:=zA h2;refine znd (by rw[←hl.len];exact Nat.eq_of_beq_eq_true h3) (zZ h4 hq.fr fun v sv _ hv h5=>?_);obtain⟨l',cs',rfl,hl',h6⟩:=zCq h5 hv;obtain⟨b,h7,h8⟩:=zjg h6;exact zNe hl hl' h7 (zpA h8 hk)
theorem zJt (op:BinOp) (x y:Operand):QS (.slnil op x y) (zHw op x y):=fun {σ nb s t z K k} hq h hk=>by
 refine zZ h hq.fr fun v sv _ hv h1=>?_
 obtain⟨c,rfl,h2⟩:=zd9 h1;split at h2
 ·rw[hv.val rfl (by simp)];refine zZ h2 hq.fr fun v sv _ hv h3=>?_
  unfold slNil at h3;split at h3
  ·rw[hv.val rfl (by simp)];exact zpA h3 hk
  ·obtain⟨sc,h5,rfl⟩:=hv.cc (by simp);obtain⟨w,h5,rfl⟩:=h5;simp only[C.val,Option.map_eq_some_iff] at h5;obtain⟨e,h6,rfl⟩:=h5;exact zpA h3 hk
  ·obtain⟨h4,h5⟩:=zA h3;have hn:=h4
   simp only[Nat.blt_eq] at hn;obtain⟨sc,h6,rfl⟩:=hv.cc (by simp);obtain⟨w,h6,rfl⟩:=h6;simp only[C.val,Option.bind_eq_some_iff] at h6;obtain⟨e,h7,h8⟩:=h6;split at h8<;>split at h8
   ·rename_i hc;omega
   ·cases h8
   ·cases h8;exact zpA h5 hk
   ·cases h8
  ·obtain⟨-, rfl⟩:=hv;exact zpA h3 hk
  ·cases h3
 ·cases h2
theorem zHI (hf:FR σ nb s t.fr):∀ {l:List Operand} {K:List C→R} {k:List SC→Prop},evCaps s l K=some y→(∀ l cs,All2 (SCR σ nb) l cs→K l=some y→k cs)→Vm.evCaps l t k
 | [],K,k,h,hk=>hk [] [] trivial h
 | x::l,K,k,h,hk=>by
  refine zZ (K:=fun v=>capOf v fun c=>evCaps s l fun r=>K (c::r)) h hf fun v sv _ hv h1=>?_
  cases v with
  | c c=>
   replace h1:(evCaps s l fun r=>K (c::r))=some y:=h1
   have h2:∃ sc,Vm.capOf sv=some sc∧SCR σ nb c sc:=by
    rcases hv with ⟨sc,h2,rfl⟩|⟨b,rfl,rfl⟩
    ·exact⟨sc,rfl,h2⟩
    ·exact⟨.v (.bool b),rfl,_,rfl,rfl⟩
   obtain⟨sc,h3,h4⟩:=h2;rw[h3];exact zHI hf h1 fun r cs hr h5=>hk (c::r) (sc::cs) ⟨h4,hr⟩ h5
  | _=>cases h1
theorem zNf (f:Nat) (caps:List Operand):QS (.mkfn f caps) (zKy f caps):=fun {σ nb s t z K k} hq h hk=>
 zHI hq.fr h fun l cs hl h1=>hk (.fn f l) _ (.inl ⟨cs,hl,rfl⟩) h1
theorem zQz (x:Operand) (lo hi:Option Operand):QS (.ssl x lo hi) (zOh x lo hi):=fun {σ nb s t z K k} hq h hk=>by
 refine zZ h hq.fr fun v sv _ hv h1=>?_
 obtain⟨a,rfl,h2⟩:=zq6 h1 hv;have hs:(zad a).size=a.length:=by simp[zad,ByteArray.size]
 dsimp only [Vm.asStr];refine zCs h2 hq.fr fun l h3=>?_
 rw[zb1] at h3;show Vm.evIO t hi ((zad a).size:Int) _
 rw[hs];refine zCs h3 hq.fr fun u h4=>?_
 obtain⟨i,rfl,h5⟩:=ziW h4;obtain⟨j,rfl,h6⟩:=ziW h5;obtain⟨h7,h8⟩:=zA h6;obtain⟨h9,h10⟩:=zD1 h8;obtain⟨h11,h12⟩:=ztB h10;have hij:=Nat.le_of_ble_eq_true h7
 rw[List.length_drop] at h11;refine⟨⟨by omega,by omega,by omega⟩,?_⟩
 have e:(zad a).extract (i:Int).toNat (j:Int).toNat=zad ((a.drop i).take (j - i)):=by
  apply ByteArray.ext;rw[Int.toNat_natCast,Int.toNat_natCast];apply Array.toList_inj.1;simp[zad,List.extract_eq_take_drop,List.map_take,List.map_drop]
 rw[e];exact hk _ _ (zbu rfl) h12
end
end
end Go.Vm.Rn
