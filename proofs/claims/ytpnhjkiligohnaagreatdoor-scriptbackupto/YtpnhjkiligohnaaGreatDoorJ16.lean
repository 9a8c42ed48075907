/- Part of this proof;laid by program. -/
import Derived.Test.YtpnhjkiligohnaaGreatDoorJ15
set_option linter.unusedVariables false
set_option linter.unusedSimpArgs false
namespace Go.Vm.Rn
open Go.Vm
set_option linter.unusedVariables false
section
section
variable {σ:List E} {s:S} {t:St} {y:Out} {nb:Nat}
theorem zd8 {v:V} {K:C→R} (h:asC v K=some y):∃ x,v = .c x∧K x=some y:=by
 cases v with
 | c x=>exact⟨x,rfl,h⟩
 | _=>cases h
theorem VR.cc {x:C} {sv:SV} (h:VR σ nb (.c x) sv) (hx:∀ b,x ≠ .t b):∃ sc,SCR σ nb x sc∧sv = .c sc:=by
 rcases h with h|⟨b,h, -⟩
 ·exact h
 ·exact absurd h (hx b)
theorem VR.val {x:C} {sv:SV} {v:Value} (h:VR σ nb (.c x) sv) (hv:x.val σ=some v) (hx:∀ b,x ≠ .t b):sv = .c (.v v):=by
 obtain⟨sc,h1,rfl⟩:=h.cc hx;cases x with
 | b j o=>cases hv
 | _=>obtain⟨v',h2,rfl⟩:=h1;rw[hv] at h2;cases h2;rfl
theorem VR.int {k:IntKind} {n:Int} {sv:SV} (h:VR σ nb (.c (.n k n)) sv):sv = .int k n:=h.val rfl (by simp)
theorem zbk {x:C} {v:Value} (h:x.val σ=some v):VR σ nb (.c x) (.c (.v v)) := .inl ⟨.v v,CR.sc h,rfl⟩
theorem ziH {b:Bool}:VR σ nb (.c (.t b)) (.sb b) := .inr ⟨b,rfl,rfl⟩
theorem zKy {v:V} {sv:SV} {K:IntKind→Int→R} (h:asI v K=some y) (hv:VR σ nb v sv) {k:IntKind→Int→Prop} (hk:∀ q n,K q n=some y→k q n):Vm.asI sv k:=by
 obtain⟨x,rfl,h1⟩:=zd8 h;split at h1
 ·rename_i q n;rw[hv.int];exact hk _ _ h1
 ·cases h1
theorem ze8 {x:Operand} {K:IntKind→Int→R} (h:evI s x K=some y) (hf:FR σ nb s t.fr) {k:IntKind→Int→Prop} (hk:∀ q n,K q n=some y→k q n):Vm.evI t x k:=
 z7 h hf fun _ _ _ hv h1=>zKy h1 hv hk
theorem zTQ {v:V} {sv:SV} {K:Bool→R} (h:asB v K=some y) (hv:VR σ nb v sv) {k:Bool→Prop} (hk:∀ b,K b=some y→k b):Vm.asB sv k:=by
 obtain⟨x,rfl,h1⟩:=zd8 h;split at h1
 ·rename_i b;rcases hv with ⟨sc,h2,rfl⟩|⟨b',h2,rfl⟩
  ·obtain⟨v',h3,rfl⟩:=h2;cases h3;exact hk _ h1
  ·cases h2;exact hk _ h1
 ·cases h1
theorem zQn {x:Operand} {K:Bool→R} (h:evB s x K=some y) (hf:FR σ nb s t.fr) {k:Bool→Prop} (hk:∀ b,K b=some y→k b):Vm.evB t x k:=
 z7 h hf fun _ _ _ hv h1=>zTQ h1 hv hk
theorem zKz {v:V} {sv:SV} {K:Bool→R} (h:asB v K=some y) (hv:VR σ nb v sv) {A B:Prop} (ha:K true=some y→A) (hb:K false=some y→B):brS sv A B:=by
 obtain⟨x,rfl,h1⟩:=zd8 h;split at h1
 ·rename_i b;rcases hv with ⟨sc,h2,rfl⟩|⟨b',h2,rfl⟩
  ·obtain⟨v',h3,rfl⟩:=h2;cases h3;cases b
   ·exact hb h1
   ·exact ha h1
  ·cases h2;cases b
   ·exact⟨fun h=>(by cases h),fun _=>hb h1⟩
   ·exact⟨fun _=>ha h1,fun h=>(by cases h)⟩
 ·cases h1
theorem zHp:∀ (l:List BE) (j:Nat),zi4 l j=l[j]?
 | [],_=>rfl
 | _::_,0=>rfl
 | _::l,j+1=>by rw[List.getElem?_cons_succ];exact zHp l j
theorem zCv {j:Nat} {kb:TypeId→List C→R} {kp:Nat→R} (h:atB s j kb kp=some y) (hb:All2 (BR σ nb) s.bx t.bx) :
  (∃ T l cs,s.bx[j]? = some (.live T l)∧zi4 t.bx j=some (.live T cs)∧All2 (SCR σ nb) l cs∧kb T l=some y)∨(∃ a e,s.bx[j]? = some (.gone a)∧σ[a]? = some e∧zi4 t.bx j=some (.gone e.addr)∧kp a=some y):=by
 obtain⟨nl,tl,L,bx,n,H,g⟩:=s;obtain⟨b,h1,h2⟩:=ztx (l:=bx) (k:=j) (K:=fun b=>B.rec (motive:=fun _=>R) kb kp fail b) h;obtain⟨x,h3,h4⟩:=hb.at_ h1;rw[zHp];cases b with
 | live T l=>obtain⟨cs,h5,rfl⟩:=h4;exact .inl ⟨T,l,cs,h1,h3,h5,h2⟩
 | gone a=>obtain⟨e,h5,rfl⟩:=h4;exact .inr ⟨a,e,h1,h5,h3,h2⟩
 | dark=>cases h2
theorem zTR {v:V} {sv:SV} {kb:Nat→Nat→List C→R} {kp:Nat→Nat→R} (h:asP s v kb kp=some y) (hb:All2 (BR σ nb) s.bx t.bx) (hv:VR σ nb v sv)
  {kb':Nat→Nat→List SC→Prop} {kp':Nat→Nat→Prop} (h1:∀ j o T l cs,s.bx[j]? = some (.live T l)→zi4 t.bx j=some (.live T cs)→All2 (SCR σ nb) l cs→kb j o l=some y→kb' j o cs)
  (h2:∀ a o e,σ[a]? = some e→kp a o=some y→kp' e.addr o):Vm.asP t sv kb' kp':=by
 obtain⟨x,rfl,h3⟩:=zd8 h;split at h3
 ·rename_i j o;obtain⟨sc,h4,rfl⟩:=hv.cc (by simp);obtain⟨-, rfl⟩:=h4;show Vm.atB (zi4 t.bx j) (kb' j o) (fun b=>kp' b o)
  rcases zCv h3 hb with ⟨T,l,cs,h5,h6,h7,h8⟩|⟨a,e,h5,h6,h7,h8⟩
  ·rw[h6];exact h1 _ _ _ _ _ h5 h6 h7 h8
  ·rw[h7];exact h2 _ _ _ h6 h8
 ·rename_i a o;obtain⟨sc,h4,rfl⟩:=hv.cc (by simp);obtain⟨w,h4,rfl⟩:=h4;simp only[C.val,Option.map_eq_some_iff] at h4;obtain⟨e,h5,rfl⟩:=h4;exact h2 _ _ _ h5 h3
 ·cases h3
theorem zxq {x:Operand} {kb:Nat→Nat→List C→R} {kp:Nat→Nat→R} (h:evP s x kb kp=some y) (hf:FR σ nb s t.fr) (hb:All2 (BR σ nb) s.bx t.bx)
  {kb':Nat→Nat→List SC→Prop} {kp':Nat→Nat→Prop} (h1:∀ j o T l cs,s.bx[j]? = some (.live T l)→zi4 t.bx j=some (.live T cs)→All2 (SCR σ nb) l cs→kb j o l=some y→kb' j o cs)
  (h2:∀ a o e,σ[a]? = some e→kp a o=some y→kp' e.addr o):Vm.evP t x kb' kp':=
 z7 h hf fun _ _ _ hv h3=>zTR h3 hb hv h1 h2
theorem zCw {v:V} {sv:SV} {K:List C→R} (h:asAg v K=some y) (hv:VR σ nb v sv):∃ l cs,sv = .ag cs∧All2 (SCR σ nb) l cs∧K l=some y:=by
 cases v with
 | ag l=>obtain⟨cs,h1,h2⟩:=hv;exact⟨l,cs,h2,h1,h⟩
 | _=>cases h
theorem zq3 {v:V} {sv:SV} {K:List Nat→R} (h:asStr v K=some y) (hv:VR σ nb v sv):∃ l,sv = .c (.v (.string (zaf l)))∧K l=some y:=by
 obtain⟨x,rfl,h1⟩:=zd8 h;split at h1
 ·exact⟨_,hv.val rfl (by simp),h1⟩
 ·cases h1
theorem zSR {v:V} {sv:SV} {K:List W→R} (h:asTp v K=some y) (hv:VR σ nb v sv):∃ l vs,sv = .c (.v (.tuple vs.toArray))∧All2 (WR σ) l vs∧K l=some y:=by
 cases v with
 | tp l=>obtain⟨vs,h1,h2⟩:=hv;exact⟨l,vs,h2,h1,h⟩
 | _=>cases h
theorem zxr {g:Bool} {l:List C} {cs:List SC} {K:V→R} (h:mkv g l K=some y) (hl:All2 (SCR σ nb) l cs) {k:SV→Prop} (hk:∀ v sv,VR σ nb v sv→K v=some y→k sv):Vm.mkv g cs k:=by
 cases g with
 | true=>
  show zaC cs fun l=>k (.ag l)
  rw[zad];exact hk (.ag l) _ ⟨cs,hl,rfl⟩ h
 | false=>
  match l,cs,hl,h with
  | [],_,_,h=>cases h
  | [x],[c],hl,h=>exact hk (.c x) _ (.inl ⟨c,hl.1,rfl⟩) h
  | [_],[],hl,_=>exact hl.elim
  | [_],_::_::_,hl,_=>exact hl.2.elim
  | _::_::_,_,_,h=>cases h
theorem zuI {cs:List SC} {o n:Nat} (h:o+n≤cs.length):Vm.takeC cs o n=some ((cs.drop o).take n):=by unfold Vm.takeC;rw[if_pos h]
theorem zwQ {v:V} {sv:SV} {K:List C→R} (h:cellsOf v K=some y) (hv:VR σ nb v sv):∃ l cs,Vm.cellsOf sv=some cs∧All2 (SCR σ nb) l cs∧K l=some y:=by
 cases v with
 | c x=>
  rcases hv with ⟨sc,h1,rfl⟩|⟨b,rfl,rfl⟩
  ·refine⟨[x],[sc],?_,⟨h1,trivial⟩,h⟩;cases x with
   | b j o=>obtain⟨-, rfl⟩:=h1;rfl
   | _=>
    obtain⟨w,h2,rfl⟩:=h1;show (if w.oneCell' then _ else _)=_
    rw[if_pos (CR.one h2)]
  ·exact⟨[.t b],[.v (.bool b)],rfl,⟨⟨_,rfl,rfl⟩,trivial⟩,h⟩
 | ag l=>obtain⟨cs,h1,rfl⟩:=hv;exact⟨l,cs,rfl,h1,h⟩
 | _=>cases h
theorem zI9 {l cs:List SC} {o n:Nat} (h1:l.length=n) (h2:o+n≤cs.length):zzE l o n cs=some (splice cs o l):=by unfold zzE;rw[if_pos ⟨h1,h2⟩]
theorem All2.splice {α β:Type} {Q:α→β→Prop} {l:List α} {r:List β} (h:All2 Q l r) {vs:List α} {ws:List β} (h':All2 Q vs ws) (o:Nat):All2 Q (Vm.splice l o vs) (Vm.splice r o ws):=by
 unfold Vm.splice;rw[h'.len];exact(((h.take o).append h').append (h.drop _))
theorem zD5 (hf:FR σ nb s t.fr) {K:List C→R} {k:List SC→Prop} (hk:∀ l cs,All2 (SCR σ nb) l cs→K l=some y→k cs) :
  ∀ {parts:List (Nat×Nat×Operand)} {l:List C} {cs:List SC},build s parts l K=some y→All2 (SCR σ nb) l cs→Vm.build t parts cs k
 | [],l,cs,h,hl=>hk l cs hl h
 | p::ps,l,cs,h,hl=>by
  refine z7 (K:=fun v=>cellsOf v fun l'=>zew l' fun m=>cB (Nat.beq m p.2.1) (zDZ p.1 l l' fun cs'=>build s ps cs' K) fail) h hf fun v sv _ hv h1=>?_
  obtain⟨l',cs',h2,h3,h4⟩:=zwQ h1 hv;rw[h2];rw[zb4] at h4;obtain⟨h5,h6⟩:=zx h4;obtain⟨h7,h8⟩:=zwO h6;have h9:=Nat.eq_of_beq_eq_true h5
  show onO (zzE cs' p.1 p.2.1 cs) _;rw[zI9 (by rw[←h3.len];exact h9) (by rw[←hl.len,←h9];exact h7)];show zaC _ _
  rw[zad];exact zD5 hf hk h8 (hl.splice h3 _)
theorem zD6 {v:V} {sv:SV} {n:Nat} {K:V→R} (h:moved v n K=some y) (hv:VR σ nb v sv) {k:SV→Prop} (hk:∀ v sv,VR σ nb v sv→K v=some y→k sv):Vm.moved sv n k:=by
 obtain⟨x,rfl,h1⟩:=zd8 h;split at h1
 ·rename_i j o;obtain⟨sc,h4,rfl⟩:=hv.cc (by simp);obtain⟨hj,rfl⟩:=h4;rw[fN_eq] at h1;exact hk (.c (.b j (o+n))) _ (.inl ⟨.bx j (o+n),⟨hj,rfl⟩,rfl⟩) h1
 ·rename_i a o;obtain⟨sc,h4,rfl⟩:=hv.cc (by simp);obtain⟨w,h4,rfl⟩:=h4;simp only[C.val,Option.map_eq_some_iff] at h4;obtain⟨e,h5,rfl⟩:=h4;rw[fN_eq] at h1;exact hk (.c (.p a (o+n))) _ (zbk (by simp[C.val,h5])) h1
 ·cases h1
theorem zdo {a:Nat} {K:O→R} (h:s.hget a K=some y):∃ o,s.rd a∧s.H.get a=some o∧K o=some y:=by
 obtain⟨nl,tl,L,bx,n,H,g⟩:=s;cases g with
 | none=>obtain⟨o,h1,h2⟩:=zji (K:=K) h;exact⟨o,trivial,h1,h2⟩
 | some l=>
  have h':(Bool.rec fail (oV (H.get a) K) (mem a l):R)=some y:=h;cases hm:mem a l with
  | false=>rw[hm] at h';cases h'
  | true=>rw[hm] at h';obtain⟨o,h1,h2⟩:=zji (K:=K) h';exact⟨o,hm,h1,h2⟩
theorem row_obj {M:Mem} {b:Nat} {E:TypeId} {l:List Value} {fz:Nat×Nat} {o n:Nat} (hb:M b=some (.cells l.toArray E fz)) (h:o+n≤l.length):M.row b o n=some ((l.drop o).take n):=by
 simp[Mem.row,hb,h]
theorem zRl {o:O} {K:List C→R} (h:o.cells K=some y) {M:Mem} {e:E} (ho:OR σ e o M):∃ l vs,All2 (CR σ) l vs∧K l=some y∧((l=[])∨∀ p n,p+n≤l.length→M.row e.addr p n=some ((vs.drop p).take n)):=by
 cases o with
 | row T l=>
  obtain⟨-, vs,h1,h2⟩:=ho;exact⟨l,vs,h1,h,.inr fun p n hp=>row_obj h2 (by rw[←h1.len];exact hp)⟩
 | ro T l=>
  obtain⟨-, vs,h1,h2⟩:=ho;exact⟨l,vs,h1,h,.inr fun p n hp=>row_obj h2 (by rw[←h1.len];exact hp)⟩
 | gr T z l=>
  obtain⟨vs,h1,⟨-, rfl, -⟩|⟨-, h2, -⟩⟩:=ho
  ·exact⟨[],vs,h1,h,.inl rfl⟩
  ·refine⟨l,vs,h1,h,.inr fun p n hp=>?_⟩;have hl:=h1.len
   rw[row_obj h2 (by rw[List.length_append];omega),List.drop_append_of_le_length (by omega),List.take_append_of_le_length (by rw[List.length_drop];omega)]
 | _=>cases h
theorem zCx {a o n:Nat} {K:List C→R} (h:row s a o n K=some y) (hq:QR σ nb s t):∃ l vs e,σ[a]? = some e∧l.length=n∧All2 (CR σ) l vs∧K l=some y∧(n=0∨t.M.row e.addr o n=some vs):=by
 obtain⟨ob,h1,h2,h3⟩:=zdo h;obtain⟨e,h4,h5⟩:=hq.h a ob h1 h2;obtain⟨l,vs,h6,h7,h8⟩:=zRl h3 h5;obtain⟨h9,h10⟩:=zty h7;refine⟨(l.drop o).take n,(vs.drop o).take n,e,h4,by simp;omega,(h6.drop o).take n,h10,?_⟩;rcases h8 with rfl|h8
 ·left;simp at h9;omega
 ·exact .inr (h8 o n h9)
theorem All2.sc {l:List C} {vs:List Value} (h:All2 (CR σ) l vs) (nb:Nat):All2 (SCR σ nb) l (vs.map SC.v):=h.map (f:=SC.v) fun _ _ h=>CR.sc h
def QS (o:ROp) (q:S→(V→R)→R):Prop:=∀ {σ:List E} {nb:Nat} {s:S} {t:St} {y:Out} {K:V→R} {k:SV→Prop},QR σ nb s t→q s K=some y→(∀ v sv,VR σ nb v sv→K v=some y→k sv)→vq o t k
theorem zQo (x:Operand):QS (.mov x) (zN5 x):=fun hq h hk=>z7 h hq.fr fun v sv _ h1 h2=>hk v sv h1 h2
theorem zMO (c a b:Operand):QS (.pick c a b) (zKa c a b):=fun {σ nb s t y K k} hq h hk=>by
 refine z7 (K:=fun v=>asB v fun t=>cB t (ev s a K) (ev s b K)) h hq.fr fun v sv _ hv h1=>?_
 exact zKz h1 hv (fun h2=>z7 h2 hq.fr fun v sv _ h1 h2=>hk v sv h1 h2) (fun h2=>z7 h2 hq.fr fun v sv _ h1 h2=>hk v sv h1 h2)
theorem zJa (z:List Value) (parts:List (Nat×Nat×Operand)):QS (.build z parts) (zHb z parts):=fun {σ nb s t y K k} hq h hk=>by
 obtain⟨l,h1,h2⟩:=zry σ h;show zaC (z.map SC.v) _
 rw[zad];exact zD5 hq.fr (fun l cs hl h=>hk (.ag l) _ ⟨cs,hl,rfl⟩ h) h2 (h1.sc _)
theorem zMP (g:Bool) (n:Nat) (p:Operand):QS (.load g n p) (zKb g n p):=fun {σ nb s t y K k} hq h hk=>by
 refine zxq h hq.fr hq.bx (fun j o T l cs _ _ hl h1=>?_) (fun a o e he h1=>?_)
 ·obtain⟨h2,h3⟩:=zty h1;rw[zuI (by rw[←hl.len];exact h2)];exact zxr h3 ((hl.drop o).take n) hk
 ·obtain⟨h2,h3⟩:=zx h1;obtain⟨l,vs,e',h4,h5,h6,h7,h8⟩:=zCx h3 hq;rw[he] at h4;cases h4;rcases h8 with rfl|h8
  ·cases h2
  ·rw[h8];exact zxr h7 (h6.sc _) hk
theorem zJb (x:Operand):QS (.nilck x) (zHc x):=fun {σ nb s t y K k} hq h hk=>z7 h hq.fr fun _ _ _ hv h1=>zD6 h1 hv hk
theorem zJc (off:Nat) (p:Operand):QS (.faddr off p) (zHd off p):=fun {σ nb s t y K k} hq h hk=>z7 h hq.fr fun _ _ _ hv h1=>zD6 h1 hv hk
theorem zJd (g:Bool) (off n:Nat) (x:Operand):QS (.field g off n x) (zHe g off n x):=fun {σ nb s t y K k} hq h hk=>by
 refine z7 h hq.fr fun v sv _ hv h1=>?_
 obtain⟨l,cs,rfl,hl,h2⟩:=zCw h1 hv;obtain⟨h3,h4⟩:=zty h2;show onO (Vm.takeC cs off n) _
 rw[zuI (by rw[←hl.len];exact h3)];exact zxr h4 ((hl.drop off).take n) hk
theorem zKA {i:Int} {n:Nat} {K:Nat→R} (h:inI i n K=some y):∃ j:Nat,i=(j:Int)∧j<n∧K j=some y:=by
 unfold inI at h;split at h
 ·rename_i j;obtain⟨h1,h2⟩:=zx h;exact⟨j,rfl,by simpa[Nat.blt_eq] using h1,h2⟩
 ·cases h
theorem ziZ {i:Int} {K:Nat→R} (h:zob i K=some y):∃ j:Nat,i=(j:Int)∧K j=some y:=by
 unfold zob at h;split at h
 ·exact⟨_,rfl,h⟩
 ·cases h
theorem zHq {v:V} {sv:SV} {K:Nat→Nat→Nat→R} (h:zAy v K=some y) (hv:VR σ nb v sv):∃ a o n x c,sv = .slice x n c∧K a o n=some y∧∃ e,σ[a]? = some e∧(x=some ⟨e.addr,o,none⟩∨(n=0∧x=none)):=by
 obtain⟨x,rfl,h1⟩:=zd8 h;split at h1
 ·rename_i a o n c;obtain⟨sc,h4,rfl⟩:=hv.cc (by simp);obtain⟨w,h4,rfl⟩:=h4;simp only[C.val,Option.map_eq_some_iff] at h4;obtain⟨e,h5,rfl⟩:=h4;exact⟨a,o,n,_,c,rfl,h1,e,h5,.inl rfl⟩
 ·rename_i a o d n;obtain⟨sc,h4,rfl⟩:=hv.cc (by simp);obtain⟨w,h4,rfl⟩:=h4;simp only[C.val,Option.bind_eq_some_iff] at h4;obtain⟨e,h5,h6⟩:=h4;split at h6
  ·split at h6
   ·rename_i hc;cases h6;obtain⟨rfl,rfl,rfl⟩:=hc;exact⟨a,0,0,_,0,rfl,h1,e,h5,.inr ⟨rfl,rfl⟩⟩
   ·cases h6
  ·split at h6
   ·cases h6;exact⟨a,o,n,_,_,rfl,h1,e,h5,.inl rfl⟩
   ·cases h6
 ·cases h1
theorem zJe (size:Nat) (x i:Operand):QS (.iaddr size x i) (zHf size x i):=fun {σ nb s t y K k} hq h hk=>by
 refine z7 h hq.fr fun v sv _ hv h1=>?_
 obtain⟨a,o,n,x,c,rfl,h2,e,he,hx⟩:=zHq h1 hv;refine ze8 h2 hq.fr fun q m h3=>?_
 obtain⟨j,rfl,hj,h4⟩:=zKA h3;rcases hx with rfl|⟨rfl, -⟩
 ·refine⟨⟨by omega,by omega⟩,?_⟩;rw[fN_eq] at h4;show k (.ptr e.addr (o+(j:Int).toNat*size))
  rw[Int.toNat_natCast];exact hk (.c (.p a (o+j*size))) _ (zbk (by simp[C.val,he])) h4
 ·omega
theorem zHr (len size:Nat) (p i:Operand):QS (.iaddrA len size p i) (zD0 len size p i):=fun {σ nb s t y K k} hq h hk=>by
 refine ze8 h hq.fr fun q m h1=>?_
 obtain⟨j,rfl,hj,h2⟩:=zKA h1;refine⟨⟨by omega,by omega⟩,z7 h2 hq.fr fun v sv _ hv h3=>?_⟩;rw[fN_eq] at h3;rw[Int.toNat_natCast];exact zD6 h3 hv hk
theorem zQp (x:Operand):QS (.not x) (zN6 x):=fun {σ nb s t y K k} hq h hk=>by
 refine z7 h hq.fr fun v sv _ hv h1=>?_
 obtain⟨c,rfl,h2⟩:=zd8 h1;cases c with
 | t b=>
  replace h2:kB (!b) K=some y:=h2;rw[zsY] at h2;rcases hv with ⟨sc,h3,rfl⟩|⟨b',h3,rfl⟩
  ·obtain⟨v',h4,rfl⟩:=h3;cases h4;show lit b (k (.bool false)) (k (.bool true))
   cases b
   ·exact hk _ (.bool true) (zbk rfl) h2
   ·exact hk _ (.bool false) (zbk rfl) h2
  ·cases h3;exact hk _ _ ziH h2
 | _=>cases h2
theorem zpA {op:BinOp} {r:Bool} {K:V→R} (h:nilT op r K=some y) {k:SV→Prop} (hk:∀ v sv,VR σ nb v sv→K v=some y→k sv):Vm.nilT op r k:=by
 unfold nilT at h;split at h
 ·rw[zsY] at h;exact hk _ _ ziH h
 ·rw[zsY] at h;exact hk _ _ ziH h
 ·cases h
theorem zMQ (op:BinOp) (x y:Operand):QS (.bbin op x y) (zKf op x y):=fun {σ nb s t z K k} hq h hk=>by
 refine zQn h hq.fr fun a h1=>zQn h1 hq.fr fun b h2=>?_
 unfold beqT at h2;split at h2
 ·rw[zsY] at h2;exact hk _ _ ziH h2
 ·rw[zsY] at h2;exact hk _ _ ziH h2
 ·cases h2
theorem zMR (op:BinOp) (x y:Operand):QS (.pnil op x y) (zKg op x y):=fun {σ nb s t z K k} hq h hk=>by
 refine z7 h hq.fr fun v sv _ hv h1=>?_
 obtain⟨c,rfl,h2⟩:=zd8 h1;split at h2
 ·rw[hv.val rfl (by simp)];refine z7 h2 hq.fr fun v sv _ hv h3=>?_
  obtain⟨c,rfl,h4⟩:=zd8 h3;split at h4
  ·rw[hv.val rfl (by simp)];exact zpA h4 hk
  ·obtain⟨sc,h5,rfl⟩:=hv.cc (by simp);obtain⟨w,h5,rfl⟩:=h5;simp only[C.val,Option.map_eq_some_iff] at h5;obtain⟨e,h6,rfl⟩:=h5;exact zpA h4 hk
  ·obtain⟨sc,h5,rfl⟩:=hv.cc (by simp);obtain⟨-, rfl⟩:=h5;exact zpA h4 hk
  ·cases h4
 ·cases h2
theorem zQq (x:Operand):QS (.len x) (zN7 x):=fun {σ nb s t z K k} hq h hk=>by
 refine z7 h hq.fr fun v sv _ hv h1=>?_
 obtain⟨c,rfl,h2⟩:=zd8 h1;split at h2
 ·obtain⟨sc,h5,rfl⟩:=hv.cc (by simp);obtain⟨w,h5,rfl⟩:=h5;simp only[C.val,Option.map_eq_some_iff] at h5;obtain⟨e,h6,rfl⟩:=h5;exact hk _ _ (zbk rfl) h2
 ·obtain⟨sc,h5,rfl⟩:=hv.cc (by simp);obtain⟨w,h5,rfl⟩:=h5;simp only[C.val,Option.bind_eq_some_iff] at h5;obtain⟨e,h6,h7⟩:=h5;split at h7<;>split at h7
  ·rename_i hc;cases h7;obtain⟨rfl, -, -⟩:=hc;exact hk _ _ (zbk rfl) h2
  ·cases h7
  ·cases h7;exact hk _ _ (zbk rfl) h2
  ·cases h7
 ·rw[hv.val rfl (by simp)];exact hk _ _ (zbk rfl) h2
 ·obtain⟨sc,h5,rfl⟩:=hv.cc (by simp);obtain⟨w,h5,rfl⟩:=h5;simp only[C.val,Option.bind_eq_some_iff] at h5;obtain⟨e,h6,h7⟩:=h5;split at h7
  ·cases h7;exact hk _ _ (zbk (x := .n .i64 0) rfl) h2
  ·cases h7
 ·cases h2
theorem zMS (x:Operand):QS (.lenS x) (zKi x):=fun {σ nb s t z K k} hq h hk=>by
 refine z7 h hq.fr fun v sv _ hv h1=>?_
 obtain⟨l,rfl,h2⟩:=zq3 h1 hv;rw[zb4] at h2;show k (.int .i64 (zaf l).size)
 have e:(zaf l).size=l.length:=by simp[zaf,ByteArray.size]
 rw[e];exact hk _ _ (zbk rfl) h2
theorem zEF (x:Operand) (i:Nat):QS (.extract x i) (zAz x i):=fun {σ nb s t z K k} hq h hk=>by
 refine z7 h hq.fr fun v sv _ hv h1=>?_
 obtain⟨l,vs,rfl,hl,h2⟩:=zSR h1 hv;obtain⟨w,h3,h4⟩:=ztx h2;obtain⟨u,h5,h6⟩:=hl.at_ h3;show onO (vs.toArray.toList[i]?) _
 rw[show vs.toArray.toList=vs from rfl,h5];exact hk _ _ (zxp h6) h4
end
end
section
section
variable {σ:List E} {s:S} {t:St} {y:Out} {nb:Nat}
theorem zrz (k:IntKind) {n:Nat} (h:n<lim k):k.wrap (n:Int)=n:=by
 cases k<;>simp only[lim] at h<;>simp only[IntKind.wrap,IntKind.bits,IntKind.signed]<;>simp<;>omega
theorem zRm (k:IntKind):∃ m,lim k=2 ^ m∧m≤k.bits:=by
 cases k
 ·exact⟨7,rfl,by decide⟩
 ·exact⟨15,rfl,by decide⟩
 ·exact⟨31,rfl,by decide⟩
 ·exact⟨63,rfl,by decide⟩
 ·exact⟨8,rfl,by decide⟩
 ·exact⟨16,rfl,by decide⟩
 ·exact⟨32,rfl,by decide⟩
 ·exact⟨64,rfl,by decide⟩
theorem zwR (k:IntKind) (n:Int):VR σ nb (.c (.n k n)) (.int k n):=zbk rfl
section
variable {k:SV→Prop} {K:V→R} (hk:∀ v sv,VR σ nb v sv→K v=some y→k sv)
include hk
theorem zp1 {q:IntKind} {r:Int} (h:kI q r K=some y):k (.int q r):=by
 unfold kI at h;rw[zQl] at h;exact hk _ _ (zwR q r) h
theorem zxs {q:IntKind} {r:Int} (h:arith q r K=some y):Vm.arith q r k:=by
 unfold Vm.arith;cases r with
 | ofNat n=>
  have h':(Bool.rec (match q.signed with|true=>fail|false=>kI q (q.wrap (.ofNat n)) K) (fN (fun n'=>K (.c (.n q (.ofNat n')))) n) (Nat.blt n (lim q)):R)=some y:=h;cases hb:Nat.blt n (lim q) with
  | true=>
   rw[hb,fN_eq] at h';have hw:q.wrap (Int.ofNat n)=Int.ofNat n:=zrz q (by simpa[Nat.blt_eq] using hb)
   have h3:=hk _ _ (zwR q (.ofNat n)) h';split
   ·exact⟨by rw[hw];exact h3⟩
   ·rw[hw];exact h3
  | false=>
   rw[hb] at h';have h'':(match q.signed with|true=>fail|false=>kI q (q.wrap (.ofNat n)) K)=some y:=h'
   cases hs:q.signed
   ·rw[hs] at h'';exact zp1 hk h''
   ·rw[hs] at h'';cases h''
 | negSucc n=>
  have h':(match q.signed with|true=>cB (decide (q.wrap (.negSucc n) = .negSucc n)) (kI q (.negSucc n) K) fail|false=>kI q (q.wrap (.negSucc n)) K)=some y:=h;cases hs:q.signed
  ·rw[hs] at h';exact zp1 hk h'
  ·rw[hs] at h';obtain⟨h1,h2⟩:=zx h';exact⟨by rw[(Zd0 h1:q.wrap (.negSucc n) = .negSucc n)];exact zp1 hk h2⟩
omit hk in
theorem zOh {q:IntKind} {a b:Nat} (ha:a<lim q) (hb:b<lim q) :
  zbz .and q a b=((Nat.land a b:Nat):Int)∧zbz .or q a b=((Nat.lor a b:Nat):Int)∧zbz .xor q a b=((Nat.xor a b:Nat):Int):=by
 obtain⟨m,hm,hmb⟩:=zRm q;have hp:2 ^ m≤2 ^ q.bits:=Nat.pow_le_pow_right (by decide) hmb
 have ea:(BitVec.ofInt q.bits (a:Int))=BitVec.ofNat q.bits a:=BitVec.ofInt_natCast ..;have eb:(BitVec.ofInt q.bits (b:Int))=BitVec.ofNat q.bits b:=BitVec.ofInt_natCast ..
 rw[hm] at ha hb;have ma:a % 2 ^ q.bits=a:=Nat.mod_eq_of_lt (by omega)
 have mb:b % 2 ^ q.bits=b:=Nat.mod_eq_of_lt (by omega);refine⟨?_,?_,?_⟩
 ·unfold zbz;simp only[ea,eb,BitVec.toNat_and,BitVec.toNat_ofNat,ma,mb];exact zrz q (by rw[hm];exact Nat.and_lt_two_pow a hb)
 ·unfold zbz;simp only[ea,eb,BitVec.toNat_or,BitVec.toNat_ofNat,ma,mb];exact zrz q (by rw[hm];exact Nat.or_lt_two_pow ha hb)
 ·unfold zbz;simp only[ea,eb,BitVec.toNat_xor,BitVec.toNat_ofNat,ma,mb];exact zrz q (by rw[hm];exact Nat.xor_lt_two_pow ha hb)
theorem zF7 {op:BinOp} (ho:op = .and∨op = .or∨op = .xor∨op = .andNot) {q:IntKind} {a b:Int} (h:bop op q a b K=some y):k (.int q (zbz op q a b)):=by
 unfold bop at h;split at h
 ·obtain⟨h1,h2⟩:=zx h;obtain⟨h3,h4⟩:=zx h2;obtain⟨e1,e2,e3⟩:=zOh (by simpa[Nat.blt_eq] using h1) (by simpa[Nat.blt_eq] using h3);rcases ho with rfl|rfl|rfl|rfl
  ·simp only[fN_eq] at h4;have:=hk _ _ (zwR q _) h4
   show k (.int q (zbz .and q (_:Nat) (_:Nat)));rw[e1];exact this
  ·simp only[fN_eq] at h4;have:=hk _ _ (zwR q _) h4
   show k (.int q (zbz .or q (_:Nat) (_:Nat)));rw[e2];exact this
  ·simp only[fN_eq] at h4;have:=hk _ _ (zwR q _) h4
   show k (.int q (zbz .xor q (_:Nat) (_:Nat)));rw[e3];exact this
  ·exact zp1 hk h4
 ·exact zp1 hk h
omit hk in
theorem zoW (a b:Int):zoa a b=decide (a≤b):=by
 cases a with
 | ofNat a=>cases b with
  | ofNat b=>
   show Nat.ble a b=_;cases hb:Nat.ble a b
   ·have:¬a≤b:=fun h=>by rw[Nat.ble_eq_true_of_le h] at hb;cases hb
    symm;apply decide_eq_false;simp;omega
   ·have:=Nat.le_of_ble_eq_true hb;symm;apply decide_eq_true;simp;omega
  | negSucc b=>show false=_;symm;apply decide_eq_false;simp;omega
 | negSucc a=>cases b with
  | ofNat b=>show true=_;symm;apply decide_eq_true;simp;omega
  | negSucc b=>
   show Nat.ble b a=_;cases hb:Nat.ble b a
   ·have:¬b≤a:=fun h=>by rw[Nat.ble_eq_true_of_le h] at hb;cases hb
    symm;apply decide_eq_false;rw[Int.negSucc_eq,Int.negSucc_eq];omega
   ·have:=Nat.le_of_ble_eq_true hb;symm;apply decide_eq_true;rw[Int.negSucc_eq,Int.negSucc_eq];omega
omit hk in
theorem zwS (a b:Nat):Nat.beq a b=decide (a=b):=by
 cases h:Nat.beq a b
 ·symm;apply decide_eq_false;intro e;subst e;simp at h
 ·symm;apply decide_eq_true;exact Nat.eq_of_beq_eq_true h
omit hk in
theorem zq4 (a b:Int):zp0 a b=decide (a=b):=by
 cases a<;>cases b<;>simp[zp0,zwS]<;>omega
omit hk in
theorem zJf (a b:Int):zHa a b=a+b:=by cases a<;>cases b<;>rfl
omit hk in
theorem zJg (a b:Int):zN4 a b=a - b:=by
 cases a with
 | ofNat a=>cases b with
  | ofNat b=>
   show (Bool.rec (.negSucc (b - a - 1)) (.ofNat (a - b)) (Nat.ble b a):Int)=_;cases hb:Nat.ble b a
   ·have:¬b≤a:=fun h=>by rw[Nat.ble_eq_true_of_le h] at hb;cases hb
    show Int.negSucc (b - a - 1)=_;rw[Int.negSucc_eq];simp only[Int.ofNat_eq_natCast];omega
   ·have:=Nat.le_of_ble_eq_true hb;show Int.ofNat (a - b)=_
    simp only[Int.ofNat_eq_natCast];omega
  | negSucc b=>rfl
 | negSucc a=>cases b<;>rfl
omit hk in
theorem zRn (a b:Int):zSD a b=a*b:=by cases a<;>cases b<;>rfl
omit hk in
theorem zRo (a b:Int):zSE a b=a.tdiv b:=by cases a<;>cases b<;>rfl
omit hk in
theorem zRp (a b:Int):zSF a b=a.tmod b:=by cases a<;>cases b<;>rfl
omit hk in
theorem zQr {b:Bool} {e:R} (h:cB b fail e=some y):b=false∧e=some y:=by cases b<;>simp_all [cB,fail]
theorem zHs {op:BinOp} {q:IntKind} {a b:Int} (h:ibin op q a b K=some y):Vm.ibin op q a b k:=by
 unfold ibin at h;unfold Vm.ibin;cases op<;>simp only[zJf,zJg,zRn,zRo,zRp,zq4,zoW,zsY] at h ⊢
 case add=>exact zxs hk h
 case sub=>exact zxs hk h
 case mul=>exact zxs hk h
 case quo=>
  obtain⟨h1,h2⟩:=zQr h;exact⟨Zd1 h1,zxs hk h2⟩
 case rem=>
  obtain⟨h1,h2⟩:=zQr h;exact⟨Zd1 h1,zp1 hk h2⟩
 case and=>exact zF7 hk (.inl rfl) h
 case or=>exact zF7 hk (.inr (.inl rfl)) h
 case xor=>exact zF7 hk (.inr (.inr (.inl rfl))) h
 case andNot=>exact zF7 hk (.inr (.inr (.inr rfl))) h
 case eql=>exact hk _ _ ziH h
 case neq=>exact hk _ _ ziH h
 case lss=>exact hk _ _ (by rw[show decide (a<b) = !decide (b≤a) by simp[←Int.not_le]];exact ziH) h
 case leq=>exact hk _ _ ziH h
 case gtr=>exact hk _ _ (by rw[show decide (b<a) = !decide (a≤b) by simp[←Int.not_le]];exact ziH) h
 case geq=>exact hk _ _ ziH h
 case shl=>
  obtain⟨h1,h2⟩:=zx h;exact⟨Zd0 h1,zp1 hk h2⟩
 case shr=>
  obtain⟨h1,h2⟩:=zx h;refine⟨Zd0 h1,?_⟩;cases a with
  | ofNat a=>
   simp only[fN_eq] at h2;have h3:=hk _ _ (zwR q _) h2
   have e:(Int.ofNat a).fdiv (2 ^ (min b.toNat q.bits))=Int.ofNat (a / 2 ^ (min b.toNat q.bits)):=by
    have:=Int.fdiv_eq_ediv_of_nonneg (Int.ofNat a) (b:=2 ^ (min b.toNat q.bits)) (Int.pow_nonneg (by decide));rw[this];show ((a:Int) / 2 ^ _)=((a / 2 ^ _:Nat):Int)
    simp
   rw[e];exact h3
  | negSucc a=>exact zp1 hk h2
end
theorem zRq {op:BinOp} {q q':IntKind} {A:R} (h:sameK op q q' A=some y) {B:Prop} (hk:A=some y→B):Vm.sameK op q q' B:=by
 unfold sameK at h;unfold Vm.sameK
 cases op<;>first
  | exact hk h
  | (obtain⟨h1,h2⟩:=zx h
     simp only[h1]
     exact hk h2)
theorem VR.x {σ:List E} {nb:Nat} {a:Nat} {d lo hi:Int} {sv:SV} (h:VR σ nb (.c (.xx a d lo hi)) sv):∃ e n,σ[a]? = some e∧e.sp=[.int .i64 n]∧lo≤n+d∧n+d≤hi∧sv = .int .i64 (n+d):=by
 obtain⟨sc,⟨v,h1,rfl⟩,rfl⟩:=h.cc (fun b e=>by cases e);obtain⟨e,n,h2,h3,h4,h5,rfl⟩:=C.val_xx h1;exact⟨e,n,h2,h3,h4,h5,rfl⟩
theorem ztz (a b:Int):ilt a b=decide (a<b):=by
 unfold ilt;rw[zoW,←decide_not];congr 1;simp[Int.not_le]
theorem zxt {t f r:Bool} {K:V→R} {y:Out} (h:tri t f K=some y) (h1:t=true→r=true) (h2:f=true→r=false):K (.c (.t r))=some y:=by
 cases t with
 | true=>rw[h1 rfl];exact h
 | false=>cases f with
  | true=>rw[h2 rfl];exact h
  | false=>cases h
theorem zQs {σ:List E} {nb:Nat} {op:BinOp} {a:Nat} {d lo hi b:Int} {y:Out} {K:V→R} {k:SV→Prop} (h:xop op a d lo hi b K=some y) (hk:∀ v sv,VR σ nb v sv→K v=some y→k sv)
  {e:E} {n:Int} (he:σ[a]? = some e) (hn:e.sp=[.int .i64 n]) (h1:lo≤n+d) (h2:n+d≤hi):(Vm.ibin op .i64 (n+d) b k)∧(op = .add∨op = .eql∨op = .neq∨op = .lss∨op = .leq∨op = .gtr∨op = .geq∨op = .sub):=by
 have key:∀ {c:Int},zKc a d lo hi c K=some y→Vm.arith .i64 (n+d+c) k:=fun {c} h=>by
  unfold zKc at h;simp only[zQl,zJf,zoW] at h;obtain⟨h3,h⟩:=zx h;obtain⟨h4,h⟩:=zx h;have h3:=Zd0 h3
  have h4:=Zd0 h4;refine⟨?_⟩;have hw:IntKind.i64.wrap (n+d+c)=n+d+c:=by rw[IntKind.wrap_i64];omega
  rw[hw];refine hk _ _ (zbk ?_) h;simp only[C.val,he,Option.bind_some,hn];rw[if_pos ⟨by omega,by omega⟩,Int.add_assoc]
 cases op<;>simp only[xop] at h<;>first
  | (cases h;done)
  | skip
 case add=>exact⟨key h,by simp⟩
 case sub=>
  refine⟨?_,by simp⟩;have:=key h
  rw[zJg] at this;show Vm.arith .i64 (n+d - b) k
  rwa [show n+d - b=n+d+(0 - b) by omega]
 case eql=>
  refine⟨hk _ _ ziH (zxt h (fun h=>by cases h) fun h=>?_),by simp⟩;simp only[ztz,Bool.or_eq_true,decide_eq_true_eq] at h;exact decide_eq_false (by omega)
 case neq=>
  refine⟨hk _ _ ziH (zxt h (fun h=>?_) fun h=>by cases h),by simp⟩;simp only[ztz,Bool.or_eq_true,decide_eq_true_eq] at h;simp only[Bool.not_eq_true',decide_eq_false_iff_not];omega
 case lss=>
  refine⟨hk _ _ ziH (zxt h (fun h=>?_) fun h=>?_),by simp⟩<;>simp only[ztz,zoW,decide_eq_true_eq,decide_eq_false_iff_not] at h ⊢ <;> omega
 case leq=>
  refine⟨hk _ _ ziH (zxt h (fun h=>?_) fun h=>?_),by simp⟩<;>simp only[ztz,zoW,decide_eq_true_eq,decide_eq_false_iff_not] at h ⊢ <;> omega
 case gtr=>
  refine⟨hk _ _ ziH (zxt h (fun h=>?_) fun h=>?_),by simp⟩<;>simp only[ztz,zoW,decide_eq_true_eq,decide_eq_false_iff_not] at h ⊢ <;> omega
 case geq=>
  refine⟨hk _ _ ziH (zxt h (fun h=>?_) fun h=>?_),by simp⟩<;>simp only[ztz,zoW,decide_eq_true_eq,decide_eq_false_iff_not] at h ⊢ <;> omega
theorem zJh {q:IntKind} (h:zKd q=true):q = .i64:=by cases q<;>first|rfl|cases h
theorem zMT (op:BinOp) (x y:Operand):QS (.ibin op x y) (zKe op x y):=fun {σ nb s t z K k} hq h hk=>by
 refine z7 h hq.fr fun u su _ hu h1=>?_
 unfold xl at h1;split at h1
 ·rename_i a d lo hi;obtain⟨e,n,he,hn,h3,h4,rfl⟩:=hu.x;refine ze8 h1 hq.fr fun q b h2=>?_
  obtain⟨h5,h6⟩:=zx h2;cases zJh h5;obtain⟨h5,h6⟩:=zQs h6 hk he hn h3 h4;rcases h6 with rfl|rfl|rfl|rfl|rfl|rfl|rfl|rfl<;>exact h5
 ·refine zKy h1 hu fun q a h2=>z7 h2 hq.fr fun v sv _ hv h3=>?_
  unfold xr at h3;split at h3
  ·rename_i c0 d lo hi;obtain⟨h4,h5⟩:=zx h3;cases zJh h4;obtain⟨e,n,he,hn,h6,h7,rfl⟩:=hv.x;obtain⟨h8,h9⟩:=zQs h5 hk he hn h6 h7;show Vm.sameK op .i64 .i64 (Vm.ibin op .i64 a _ k)
   generalize n+_=m at *
   cases op<;>simp[zQd] at h9 h8<;>simp only[Vm.ibin] at h8<;>simp only[Vm.sameK,Vm.ibin,decide_true]<;>first
    | (rw[Int.add_comm];exact h8)
    | exact h8
    | (rw[show decide (a=m)=decide (m=a) from decide_eq_decide.2 eq_comm];exact h8)
  ·exact zKy h3 hv fun q' b h4=>zRq h4 fun h5=>zHs hk h5
theorem zMU (q:IntKind) (x:Operand):QS (.conv q x) (zKh q x):=fun {σ nb s t z K k} hq h hk=>by
 refine ze8 h hq.fr fun q' n h1=>?_
 split at h1
 ·rename_i m;cases hb:Nat.blt m (lim q) with
  | true=>
   rw[hb] at h1;have hw:q.wrap (Int.ofNat m)=Int.ofNat m:=zrz q (by simpa[Nat.blt_eq] using hb)
   show k (.int q (q.wrap (Int.ofNat m)));rw[hw];exact hk _ _ (zwR q _) h1
  | false=>rw[hb] at h1;exact zp1 hk h1
 ·exact zp1 hk h1
theorem zMV (x:Operand):QS (.uneg x) (zKp x):=fun {σ nb s t z K k} hq h hk=>ze8 h hq.fr fun _ _ h1=>zHs hk h1
theorem zMW (x:Operand):QS (.ucom x) (zKq x):=fun {σ nb s t z K k} hq h hk=>ze8 h hq.fr fun _ _ h1=>zHs hk h1
theorem zQt (mx:Bool) (x y:Operand):QS (.imm mx x y) (zN8 mx x y):=fun {σ nb s t z K k} hq h hk=>by
 refine ze8 h hq.fr fun q a h1=>ze8 h1 hq.fr fun q' b h2=>?_
 cases mx
 ·exact zp1 hk h2
 ·exact zp1 hk h2
theorem zoX {a:List Nat} (h:zl3 a=true):∀ x∈a,x<256:=by
 induction a with
 | nil=>simp
 | cons x r ih=>
  have h':(Bool.rec false (zl3 r) (Nat.blt x 256):Bool)=true:=h;cases hb:Nat.blt x 256 with
  | false=>rw[hb] at h';cases h'
  | true=>
   rw[hb] at h';intro y hy;rcases List.mem_cons.1 hy with rfl|hy
   ·simpa[Nat.blt_eq] using hb
   ·exact ih h' y hy
theorem ztA:∀ a b:List Nat,zuG a b=decide (a=b)
 | [],[]=>rfl
 | [],_::_=>rfl
 | _::_,[]=>rfl
 | x::a,y::b=>by
  show (Bool.rec false (zuG a b) (Nat.beq x y):Bool)=_;rw[ztA a b,zwS];by_cases h:x=y
  ·subst h;simp
  ·simp[h]
theorem zAB {a b:List Nat} (ha:∀ x∈a,x<256) (hb:∀ x∈b,x<256):zaf a=zaf b↔a=b:=by
 constructor
 ·intro h;unfold zaf at h;simp only[ByteArray.mk.injEq] at h;have h':=congrArg Array.toList h
  simp only[List.toList_toArray] at h';have h2:=congrArg (List.map UInt8.toNat) h'
  rw[List.map_map,List.map_map] at h2
  have key:∀ l:List Nat,(∀ x∈l,x<256)→l.map (UInt8.toNat∘UInt8.ofNat)=l:=fun l hl=>by
   conv=>rhs;rw[←List.map_id l]
   exact List.map_congr_left fun x hx=>by simp[Nat.mod_eq_of_lt (hl x hx)]
  rwa [key a ha,key b hb] at h2
 ·rintro rfl;rfl
theorem zSS {op:BinOp} {a b:List Nat} {K:V→R} (h:strT op a b K=some y) {k:SV→Prop} (hk:∀ v sv,VR σ nb v sv→K v=some y→k sv):Vm.strT op (zaf a) (zaf b) k:=by
 unfold strT at h;split at h
 ·obtain⟨h1,h2⟩:=zx h;rw[Bool.and_eq_true] at h1;rw[zsY,ztA] at h2;show k (.sb (decide (zaf a=zaf b)))
  rw[show decide (zaf a=zaf b)=decide (a=b) from decide_eq_decide.2 (zAB (zoX h1.1) (zoX h1.2))];exact hk _ _ ziH h2
 ·obtain⟨h1,h2⟩:=zx h;rw[Bool.and_eq_true] at h1;rw[zsY,ztA] at h2;show k (.sb (!decide (zaf a=zaf b)))
  rw[show decide (zaf a=zaf b)=decide (a=b) from decide_eq_decide.2 (zAB (zoX h1.1) (zoX h1.2))];exact hk _ _ ziH h2
 ·obtain⟨h1,h2⟩:=zx h;rw[znc] at h2;have hs:∀ l:List Nat,(zaf l).size=l.length:=fun l=>by simp[zaf,ByteArray.size]
  refine⟨?_,?_⟩
  ·rw[hs,hs];exact Nat.le_of_ble_eq_true h1
  ·have e:zaf a++zaf b=zaf (a++b):=by
    apply ByteArray.ext;simp[zaf]
   rw[e];exact hk _ _ (zbk rfl) h2
 ·cases h
theorem zMX (op:BinOp) (x y:Operand):QS (.strE op x y) (zKj op x y):=fun {σ nb s t z K k} hq h hk=>by
 refine z7 h hq.fr fun v sv _ hv h1=>?_
 obtain⟨a,rfl,h2⟩:=zq3 h1 hv;refine z7 h2 hq.fr fun v sv _ hv h3=>?_
 obtain⟨b,rfl,h4⟩:=zq3 h3 hv;exact zSS h4 hk
theorem zHt:∀ {l:List C} {K:List Nat→R},zwN l K=some y→∃ b,l=b.map (fun x:Nat=>C.n .u8 (.ofNat x))∧(∀ x∈b,x<256)∧K b=some y
 | [],K,h=>⟨[],rfl,by simp,h⟩
 | .n .u8 (.ofNat x)::l,K,h=>by
  have h':cB (Nat.blt x 256) (zwN l fun r=>K (x::r)) fail=some y:=h;obtain⟨h1,h2⟩:=zx h';obtain⟨b,h3,h4,h5⟩:=zHt h2;refine⟨x::b,by rw[h3];rfl,?_,h5⟩;intro z hz;rcases List.mem_cons.1 hz with rfl|hz
  ·simpa[Nat.blt_eq] using h1
  ·exact h4 z hz
 | .n .u8 (.negSucc _)::_,_,h=>by cases h
 | .n .i8 _::_,_,h=>by cases h
 | .n .i16 _::_,_,h=>by cases h
 | .n .i32 _::_,_,h=>by cases h
 | .n .i64 _::_,_,h=>by cases h
 | .n .u16 _::_,_,h=>by cases h
 | .n .u32 _::_,_,h=>by cases h
 | .n .u64 _::_,_,h=>by cases h
 | .t _::_,_,h=>by cases h
 | .s _::_,_,h=>by cases h
 | .p _ _::_,_,h=>by cases h
 | .np::_,_,h=>by cases h
 | .l _ _ _ _::_,_,h=>by cases h
 | .g _ _ _ _::_,_,h=>by cases h
 | .nl::_,_,h=>by cases h
 | .m _::_,_,h=>by cases h
 | .nm::_,_,h=>by cases h
 | .b _ _::_,_,h=>by cases h
 | .f _::_,_,h=>by cases h
 | .fm _ _ _::_,_,h=>by cases h
 | .h _ _ _ _ _ _::_,_,h=>by cases h
 | .ni::_,_,h=>by cases h
 | .nf::_,_,h=>by cases h
 | .xx _ _ _ _::_,_,h=>by cases h
theorem zKB {b:List Nat} (hb:∀ x∈b,x<256) {vs:List Value} (h:All2 (CR σ) (b.map fun x:Nat=>C.n .u8 (.ofNat x)) vs):vs=(b.map UInt8.ofNat).map zy:=by
 induction b generalizing vs with
 | nil=>cases vs with
  | nil=>rfl
  | cons _ _=>exact h.elim
 | cons x r ih=>cases vs with
  | nil=>exact h.elim
  | cons v vs=>
   have h1:some (Value.int .u8 (.ofNat x))=some v:=h.1;cases h1;rw[ih (fun z hz=>hb z (List.mem_cons_of_mem _ hz)) h.2];have:(UInt8.ofNat x).toNat=x:=by simp[Nat.mod_eq_of_lt (hb x (by simp))]
   simp[zy,this]
theorem zJi (x:Operand):QS (.strOf x) (zHg x):=fun {σ nb s t z K k} hq h hk=>by
 refine z7 h hq.fr fun v sv _ hv h1=>?_
 have fin:∀ (a o n:Nat) (q:Option Addr) (e:E),σ[a]? = some e→(q=some ⟨e.addr,o,none⟩∨n=0)→(row s a o n fun l=>zwN l fun b=>K (.c (.s b)))=some z→zcB t.M q n k:=fun a o n q e he hqa hr=>by
  obtain⟨l,vs,e',h4,h5,h6,h7,h8⟩:=zCx hr hq;rw[he] at h4;cases h4;obtain⟨b,rfl,h9,h10⟩:=zHt h7;have h11:=zKB h9 h6
  subst h11;rw[List.length_map] at h5;refine⟨b.map UInt8.ofNat,⟨by simp[h5],?_⟩,hk _ _ (zbk rfl) h10⟩;rcases h8 with rfl|h8
  ·left;cases b<;>simp_all
  ·rcases hqa with rfl|rfl
   ·right;exact⟨_,_,rfl,by simpa using h8⟩
   ·left;cases b<;>simp_all
 obtain⟨c,rfl,h2⟩:=zd8 h1;split at h2
 ·rw[hv.val rfl (by simp)];exact⟨[],⟨rfl,.inl rfl⟩,hk _ _ (zbk rfl) h2⟩
 ·obtain⟨sc,h5,rfl⟩:=hv.cc (by simp);obtain⟨w,h5,rfl⟩:=h5;simp only[C.val,Option.bind_eq_some_iff] at h5;obtain⟨e,h6,h7⟩:=h5;split at h7
  ·cases h7;exact⟨[],⟨rfl,.inl rfl⟩,hk _ _ (zbk (x := .s []) rfl) h2⟩
  ·cases h7
 ·obtain⟨sc,h5,rfl⟩:=hv.cc (by simp);obtain⟨w,h5,rfl⟩:=h5;simp only[C.val,Option.map_eq_some_iff] at h5;obtain⟨e,h6,rfl⟩:=h5;exact fin _ _ _ _ e h6 (.inl rfl) h2
 ·obtain⟨sc,h5,rfl⟩:=hv.cc (by simp);obtain⟨w,h5,rfl⟩:=h5;simp only[C.val,Option.bind_eq_some_iff] at h5;obtain⟨e,h6,h7⟩:=h5;split at h7<;>split at h7
  ·rename_i hc;cases h7;obtain⟨rfl, -, -⟩:=hc;exact fin _ _ _ _ e h6 (.inr rfl) h2
  ·cases h7
  ·cases h7;exact fin _ _ _ _ e h6 (.inl rfl) h2
  ·cases h7
 ·cases h2
theorem zMY (x i:Operand):QS (.sidx x i) (zKl x i):=fun {σ nb s t z K k} hq h hk=>by
 refine z7 h hq.fr fun v sv _ hv h1=>?_
 obtain⟨a,rfl,h2⟩:=zq3 h1 hv;refine ze8 h2 hq.fr fun q j h3=>?_
 obtain⟨j,rfl,h4⟩:=ziZ h3;obtain⟨b,h5,h6⟩:=ztx h4;obtain⟨h7,h8⟩:=zx h6;have hj:=(List.getElem?_eq_some_iff.1 h5).1
 have hs:(zaf a).size=a.length:=by simp[zaf,ByteArray.size]
 refine⟨⟨by omega,by rw[hs];omega⟩,?_⟩;have hb:b<256:=by simpa[Nat.blt_eq] using h7
 have e:((zaf a).toList.getD (j:Int).toNat 0).toNat=b:=by
  rw[ByteArray.toList_eq,Int.toNat_natCast];show ((a.map UInt8.ofNat).getD j 0).toNat=b
  rw[List.getD_eq_getElem?_getD,List.getElem?_map,h5];simp[Nat.mod_eq_of_lt hb]
 rw[e];exact hk _ _ (zbk rfl) h8
theorem zMZ (g:Bool) (len size:Nat) (x i:Operand):QS (.aidx g len size x i) (zKm g len size x i):=fun {σ nb s t z K k} hq h hk=>by
 refine ze8 h hq.fr fun q j h1=>?_
 obtain⟨j,rfl,hj,h2⟩:=zKA h1;refine⟨⟨by omega,by omega⟩,z7 h2 hq.fr fun v sv _ hv h3=>?_⟩;obtain⟨l,cs,rfl,hl,h4⟩:=zCw h3 hv;obtain⟨h5,h6⟩:=zty h4;rw[Int.toNat_natCast];show onO (Vm.takeC cs (j*size) size) _
 rw[zuI (by rw[←hl.len];exact h5)];exact zxr h6 ((hl.drop _).take _) hk
end
end
end Go.Vm.Rn
