/- Part of this proof;laid by program. -/
import Derived.Test.YtpnhjkiligohnaaGreatDoorJ16
set_option linter.unusedVariables false
set_option linter.unusedSimpArgs false
namespace Go.Vm.Rn
open Go.Vm
set_option linter.unusedVariables false
section
section
variable {σ:List E} {s:S} {t:St} {y:Out} {nb:Nat}
theorem zCy {x:Option Operand} {d:Int} {K:Int→R} (h:evIO s x d K=some y) (hf:FR σ nb s t.fr) {k:Int→Prop} (hk:∀ n,K n=some y→k n):Vm.evIO t x d k:=by
 cases x with
 | none=>exact hk _ h
 | some x=>exact ze8 h hf fun _ n h=>hk n h
theorem zuJ {o l m size:Nat} (b:Nat) (hlm:m≠l):zat (some ⟨b,o,none⟩) l m size=some ⟨b,o+l*size,none⟩:=by
 unfold zat;rw[if_neg hlm];show some (Addr.add ⟨b,o,none⟩ (l*size))=_
 unfold Addr.add;split
 ·rename_i h;rw[h];rfl
 ·rfl
theorem zTS (q:Option Addr) (c size:Nat):zat q 0 c size=q:=by
 unfold zat;split
 ·rfl
 ·cases q with
  | none=>rfl
  | some a=>show some (a.add (0*size))=_;simp[Addr.add]
theorem zxu {v:V} {sv:SV} {K:Nat→R} (h:zsn v K=some y) (hv:VR σ nb v sv):∃ a n c,sv = .slice a n c∧K n=some y:=by
 obtain⟨x,rfl,h2⟩:=zd8 h;split at h2
 ·obtain⟨sc,h5,rfl⟩:=hv.cc (by simp);obtain⟨w,h5,rfl⟩:=h5;simp only[C.val,Option.map_eq_some_iff] at h5;obtain⟨e,h6,rfl⟩:=h5;exact⟨_,_,_,rfl,h2⟩
 ·obtain⟨sc,h5,rfl⟩:=hv.cc (by simp);obtain⟨w,h5,rfl⟩:=h5;simp only[C.val,Option.bind_eq_some_iff] at h5;obtain⟨e,h6,h7⟩:=h5;split at h7<;>split at h7
  ·rename_i hc;cases h7;obtain⟨rfl, -, -⟩:=hc;exact⟨_,_,_,rfl,h2⟩
  ·cases h7
  ·cases h7;exact⟨_,_,_,rfl,h2⟩
  ·cases h7
 ·exact⟨_,_,_,hv.val rfl (by simp),h2⟩
 ·obtain⟨sc,h5,rfl⟩:=hv.cc (by simp);obtain⟨w,h5,rfl⟩:=h5;simp only[C.val,Option.bind_eq_some_iff] at h5;obtain⟨e,h6,h7⟩:=h5;split at h7
  ·cases h7;exact⟨_,_,_,rfl,h2⟩
  ·cases h7
 ·cases h2
theorem zTT {size:Nat} {v:V} {sv:SV} {l h:Int} {K:V→R} (hh:slx size v l h K=some y) (hv:VR σ nb v sv) {k:SV→Prop} (hk:∀ v sv,VR σ nb v sv→K v=some y→k sv) {a:Option Addr} {n c:Nat} (hsv:sv = .slice a n c) :
  (0≤l∧l≤h∧h≤c)∧k (.slice (zat a l.toNat c size) (h.toNat - l.toNat) (c - l.toNat)):=by
 obtain⟨i,rfl,h1⟩:=ziZ hh;obtain⟨j,rfl,h2⟩:=ziZ h1;rw[Int.toNat_natCast,Int.toNat_natCast];clear h1;obtain⟨x,rfl,h1⟩:=zd8 h2;have hval:∀ {q:C} {w:Value},q.val σ=some w→K (.c q)=some y→k (.c (.v w)):=fun hq hK=>hk _ _ (zbk hq) hK
 split at h1
 ·rw[hv.val rfl (by simp)] at hsv;cases hsv;obtain⟨h6,h7⟩:=zx h1;obtain⟨h8,h9⟩:=zx h7;have hi:=Nat.eq_of_beq_eq_true h6
  have hj:=Nat.eq_of_beq_eq_true h8;subst hi hj;exact⟨by simp,hval (q := .nl) rfl h9⟩
 ·rename_i ab o n' c';obtain⟨sc,h5,rfl⟩:=hv.cc (by simp);obtain⟨w,h5,rfl⟩:=h5;simp only[C.val,Option.map_eq_some_iff] at h5;obtain⟨e,he,rfl⟩:=h5;cases hsv;obtain⟨h6,h7⟩:=zx h1;obtain⟨h8,h9⟩:=zx h7;have hij:=Nat.le_of_ble_eq_true h6
  have hjc:=Nat.le_of_ble_eq_true h8;refine⟨by omega,?_⟩;cases hb:Nat.beq c i with
  | true=>
   rw[hb] at h9;simp only[fN_eq] at h9;have hci:=Nat.eq_of_beq_eq_true hb
   have es:zat (some ⟨e.addr,o,none⟩) i c size=some ⟨e.addr,o,none⟩:=by unfold zat;rw[if_pos hci]
   rw[es];exact hval (q := .l ab o (j - i) (c - i)) (by simp[C.val,he]) h9
  | false=>
   rw[hb] at h9;simp only[fN_eq] at h9;have hci:c≠i:=fun e=>by subst e;simp at hb
   rw[zuJ _ hci];exact hval (q := .l ab (o+i*size) (j - i) (c - i)) (by simp[C.val,he]) h9
 ·rename_i ab o d n';obtain⟨h6,h7⟩:=zx h1;obtain⟨h8,h9⟩:=zx h7;have hij:=Nat.le_of_ble_eq_true h6
  have hjn:=Nat.le_of_ble_eq_true h8;obtain⟨sc,hs,rfl⟩:=hv.cc (by simp);obtain⟨w,hs,rfl⟩:=hs;simp only[C.val,Option.bind_eq_some_iff] at hs;obtain⟨e,he,hs⟩:=hs;cases hsv;split at hs<;>split at hs
  ·rename_i hn hc;cases hs;obtain⟨rfl,rfl,rfl⟩:=hc;have hi0:i=0:=by omega
   have hj0:j=0:=by omega
   subst hi0 hj0;have h9':fN (fun h'=>K (.c (.g ab 0 0 h'))) 0=some y:=h9
   rw[fN_eq] at h9';exact⟨by simp,hval (q := .g ab 0 0 0) (by simp[C.val,he,hn,zat]) h9'⟩
  ·cases hs
  ·rename_i hn hc;cases hs;refine⟨by omega,?_⟩;cases hb:Nat.beq i 0 with
   | true=>
    have hi0:=Nat.eq_of_beq_eq_true hb;rw[hb] at h9;have h9':fN (fun h'=>K (.c (.g ab o d h'))) j=some y:=h9
    rw[fN_eq] at h9';subst hi0
    have es:zat (some ⟨e.addr,o,none⟩) 0 (e.cap - d) size=some ⟨e.addr,o,none⟩:=by
     unfold zat;split
     ·rfl
     ·show some (Addr.add ⟨e.addr,o,none⟩ (0*size))=_;simp[Addr.add]
    rw[es];exact hval (q := .g ab o d j) (by simp[C.val,he,hn];omega) h9'
   | false=>
    rw[hb] at h9;cases hbl:Nat.blt i n with
    | true=>
     rw[hbl] at h9;have h11:fN (fun o'=>fN (fun d'=>fN (fun n'=>K (.c (.g ab o' d' n'))) (j - i)) (d+i)) (o+i*size)=some y:=h9
     simp only[fN_eq] at h11;have hin:i<n:=by simpa[Nat.blt_eq] using hbl
     rw[zuJ _ (show e.cap - d≠i by omega)];have:=hval (q := .g ab (o+i*size) (d+i) (j - i)) (w := .slice (some ⟨e.addr,o+i*size,none⟩) (j - i) (e.cap - (d+i))) (by simp[C.val,he,hn];omega) h11
     rw[show e.cap - d - i=e.cap - (d+i) by omega];exact this
    | false=>
     rw[hbl] at h9;have h11:K (.c (.h ab o d i size false))=some y:=h9
     have hin:¬i<n:=fun h=>by rw[show Nat.blt i n=true by simpa[Nat.blt_eq] using h] at hbl;cases hbl
     have hij':j - i=0:=by omega
     rw[hij']
     exact hval (q := .h ab o d i size false) (w := .slice (zat (some ⟨e.addr,o,none⟩) i (e.cap - d) size) 0 (e.cap - d - i)) (by
      have hn':e.nil=false:=by simpa using hn
      simp[C.val,he,hn'];omega) h11
  ·cases hs
 ·rename_i ab o d q z w;obtain⟨h6,h7⟩:=zx h1;obtain⟨h8,h9⟩:=zx h7;have hi0:=Nat.eq_of_beq_eq_true h6
  have hj0:=Nat.eq_of_beq_eq_true h8;obtain⟨sc,hs,rfl⟩:=hv.cc (by simp);obtain⟨u,hs,rfl⟩:=hs;have hs':=hs
  simp only[C.val,Option.bind_eq_some_iff] at hs;obtain⟨e,he,hs⟩:=hs;cases hsv;subst hi0 hj0;split at hs
  ·rename_i hc;have hn0:n=0:=by cases hs;rfl
   have h3:=hval hs' h9;refine⟨by simp,?_⟩;subst hn0;show k (.slice (zat a 0 c size) 0 c)
   rw[zTS];exact h3
  ·cases hs
 ·cases h1
theorem zQu (size:Nat) (x:Operand) (lo hi:Option Operand):QS (.slx size x lo hi) (zN9 size x lo hi):=fun {σ nb s t z K k} hq h hk=>by
 refine z7 h hq.fr fun v sv _ hv h1=>?_
 obtain⟨a,n,c,rfl,h2⟩:=zxu h1 hv;dsimp only [zGb];refine zCy h2 hq.fr fun l h3=>zCy h3 hq.fr fun u h4=>?_
 exact zTT h4 hv hk rfl
theorem zST {size:Nat} {v:V} {sv:SV} {l h m:Int} {K:V→R} (hh:slx3 size v l h m K=some y) (hv:VR σ nb v sv) {k:SV→Prop} (hk:∀ v sv,VR σ nb v sv→K v=some y→k sv) {a:Option Addr} {n c:Nat} (hsv:sv = .slice a n c) :
  (0≤l∧l≤h∧h≤m∧m≤c)∧k (.slice (zat a l.toNat m.toNat size) (h.toNat - l.toNat) (m.toNat - l.toNat)):=by
 obtain⟨i,rfl,h1⟩:=ziZ hh;obtain⟨j,rfl,h2⟩:=ziZ h1;obtain⟨u,rfl,h3⟩:=ziZ h2;clear h1 h2;rw[Int.toNat_natCast,Int.toNat_natCast,Int.toNat_natCast];obtain⟨x,rfl,h1⟩:=zd8 h3;have hval:∀ {q:C} {w:Value},q.val σ=some w→K (.c q)=some y→k (.c (.v w)):=fun hq hK=>hk _ _ (zbk hq) hK
 split at h1
 ·rw[hv.val rfl (by simp)] at hsv;cases hsv;obtain⟨h6,h7⟩:=zx h1;obtain⟨h8,h9⟩:=zx h7;obtain⟨h10,h11⟩:=zx h9;have hi:=Nat.eq_of_beq_eq_true h6
  have hj:=Nat.eq_of_beq_eq_true h8;have hu:=Nat.eq_of_beq_eq_true h10
  subst hi hj hu;exact⟨by simp,hval (q := .nl) rfl h11⟩
 ·rename_i ab o n' c';obtain⟨sc,h5,rfl⟩:=hv.cc (by simp);obtain⟨w,h5,rfl⟩:=h5;simp only[C.val,Option.map_eq_some_iff] at h5;obtain⟨e,he,rfl⟩:=h5;cases hsv;obtain⟨h6,h7⟩:=zx h1;obtain⟨h8,h9⟩:=zx h7;obtain⟨h10,h11⟩:=zx h9;have hij:=Nat.le_of_ble_eq_true h6
  have hju:=Nat.le_of_ble_eq_true h8;have huc:=Nat.le_of_ble_eq_true h10
  refine⟨by omega,?_⟩;cases hb:Nat.beq u i with
  | true=>
   rw[hb] at h11;simp only[fN_eq] at h11;have hci:=Nat.eq_of_beq_eq_true hb
   have es:zat (some ⟨e.addr,o,none⟩) i u size=some ⟨e.addr,o,none⟩:=by unfold zat;rw[if_pos hci]
   rw[es];exact hval (q := .l ab o (j - i) (u - i)) (by simp[C.val,he]) h11
  | false=>
   rw[hb] at h11;simp only[fN_eq] at h11;have hci:u≠i:=fun e=>by subst e;simp at hb
   rw[zuJ _ hci];exact hval (q := .l ab (o+i*size) (j - i) (u - i)) (by simp[C.val,he]) h11
 ·rename_i ab o d n';obtain⟨h4,h5⟩:=zx h1;obtain⟨h6,h7⟩:=zx h5;obtain⟨h8,h9⟩:=zx h7;obtain⟨h10,h11⟩:=zx h9;have hn0:0<n':=by simpa[Nat.blt_eq] using h4
  have hij:=Nat.le_of_ble_eq_true h6;have hju:=Nat.le_of_ble_eq_true h8
  have hun:=Nat.le_of_ble_eq_true h10;obtain⟨sc,hs,rfl⟩:=hv.cc (by simp);obtain⟨w,hs,rfl⟩:=hs;simp only[C.val,Option.bind_eq_some_iff] at hs;obtain⟨e,he,hs⟩:=hs;cases hsv;split at hs<;>split at hs
  ·rename_i hc;omega
  ·cases hs
  ·cases hs;refine⟨by omega,?_⟩;cases hb:Nat.beq u i with
   | true=>
    rw[hb] at h11;simp only[fN_eq] at h11;have hci:=Nat.eq_of_beq_eq_true hb
    have es:zat (some ⟨e.addr,o,none⟩) i u size=some ⟨e.addr,o,none⟩:=by unfold zat;rw[if_pos hci]
    rw[es];exact hval (q := .l ab o (j - i) (u - i)) (by simp[C.val,he]) h11
   | false=>
    rw[hb] at h11;simp only[fN_eq] at h11;have hci:u≠i:=fun e=>by subst e;simp at hb
    rw[zuJ _ hci];exact hval (q := .l ab (o+i*size) (j - i) (u - i)) (by simp[C.val,he]) h11
  ·cases hs
 ·rename_i ab o d q z w;obtain⟨h6,h7⟩:=zx h1;obtain⟨h8,h9⟩:=zx h7;obtain⟨h10,h11⟩:=zx h9;have hi0:=Nat.eq_of_beq_eq_true h6
  have hj0:=Nat.eq_of_beq_eq_true h8;have hu0:=Nat.eq_of_beq_eq_true h10
  obtain⟨sc,hs,rfl⟩:=hv.cc (by simp);obtain⟨u',hs,rfl⟩:=hs;simp only[C.val,Option.bind_eq_some_iff] at hs;obtain⟨e,he,hs⟩:=hs;cases hsv;subst hi0 hj0 hu0;split at hs
  ·rename_i hc;have ea:a=zat (some ⟨e.addr,o,none⟩) q (e.cap - d) z:=by cases hs;rfl
   have en:n=0:=by cases hs;rfl
   have es:zat a 0 0 size=a:=by unfold zat;simp
   refine⟨by simp,?_⟩;rw[es,ea];exact hval (q := .h ab o d q z true) (w := .slice (zat (some ⟨e.addr,o,none⟩) q (e.cap - d) z) 0 0) (by simp[C.val,he,hc]) h11
  ·cases hs
 ·cases h1
theorem zM0 (size:Nat) (x lo hi m:Operand):QS (.slx3 size x lo hi m) (zKk size x lo hi m):=fun {σ nb s t z K k} hq h hk=>by
 refine z7 h hq.fr fun v sv _ hv h1=>?_
 obtain⟨a,n,c,rfl,h2⟩:=zxu h1 hv;dsimp only [zGb];refine ze8 h2 hq.fr fun _ l h3=>ze8 h3 hq.fr fun _ u h4=>ze8 h4 hq.fr fun _ m h5=>?_
 exact zST h5 hv hk rfl
theorem zM1 (f:Nat) (x:Operand):QS (.mval f x) (zKo f x):=fun {σ nb s t z K k} hq h hk=>by
 refine z7 h hq.fr fun v sv _ hv h1=>?_
 obtain⟨c,rfl,h2⟩:=zd8 h1;cases c with
 | p a o=>
  obtain⟨sc,h5,rfl⟩:=hv.cc (by simp);obtain⟨w,h5,rfl⟩:=h5;simp only[C.val,Option.map_eq_some_iff] at h5;obtain⟨e,he,rfl⟩:=h5;exact hk (.c (.fm f a o)) _ (zbk (by simp[C.val,he])) h2
 | _=>cases h2
theorem zTU {x x':C} {a a':SC} (h:SCR σ nb x a) (h':SCR σ nb x' a') {b:Bool} (he:eqC x x'=some b) {k:Bool→Prop} (hk:k b):Vm.eqC a a' k:=by
 unfold eqC at he;split at he
 ·rename_i q u q' u';obtain⟨v,hv,rfl⟩:=h;obtain⟨v',hv',rfl⟩:=h';cases hv;cases hv';split at he
  ·rename_i hq;cases he;show (match decide (q=q') with|true=>k (decide (u=u'))|false=>False)
   rw[decide_eq_true hq];rw[zq4] at hk;exact hk
  ·cases he
 ·cases he
theorem zM2:∀ {x x':List C} {a a':List SC},All2 (SCR σ nb) x a→All2 (SCR σ nb) x' a'→∀ {b:Bool},eqCs x x'=some b→∀ {k:Bool→Prop},k b→Vm.eqCs a a' k
 | [],[],[],[],_,_,b,he,k,hk=>by cases he;exact hk
 | x::l,x'::l',a::r,a'::r',h,h',b,he,k,hk=>by
  unfold eqCs at he;split at he
  ·rename_i u u' h1 h2;cases he;exact zTU h.1 h'.1 h1 (zM2 h.2 h'.2 h2 hk)
  ·cases he
 | [],_::_,_,_,_,_,_,he,_,_=>by cases he
 | _::_,[],_,_,_,_,_,he,_,_=>by cases he
 | [],[],_::_,_,h,_,_,_,_,_=>h.elim
 | [],[],[],_::_,_,h,_,_,_,_=>h.elim
 | _::_,_::_,[],_,h,_,_,_,_,_=>h.elim
 | _::_,_::_,_::_,[],_,h,_,_,_,_=>h.elim
theorem znd {m n:Nat} {A:Prop} (h:m=n) (hA:A):znB m n A:=by subst h;unfold znB;rw[show Nat.beq m m=true from Nat.beq_refl m];exact hA
theorem zQv (op:BinOp) (n:Nat) (x y:Operand):QS (.aeq op n x y) (zOa op n x y):=fun {σ nb s t z K k} hq h hk=>by
 refine z7 h hq.fr fun v sv _ hv h1=>?_
 obtain⟨l,cs,rfl,hl,h2⟩:=zCw h1 hv;rw[zb4] at h2;obtain⟨h3,h4⟩:=zx h2;refine znd (by rw[←hl.len];exact Nat.eq_of_beq_eq_true h3) (z7 h4 hq.fr fun v sv _ hv h5=>?_);obtain⟨l',cs',rfl,hl',h6⟩:=zCw h5 hv;obtain⟨b,h7,h8⟩:=zji h6;exact zM2 hl hl' h7 (zpA h8 hk)
theorem zJj (op:BinOp) (x y:Operand):QS (.slnil op x y) (zHh op x y):=fun {σ nb s t z K k} hq h hk=>by
 refine z7 h hq.fr fun v sv _ hv h1=>?_
 obtain⟨c,rfl,h2⟩:=zd8 h1;split at h2
 ·rw[hv.val rfl (by simp)];refine z7 h2 hq.fr fun v sv _ hv h3=>?_
  unfold slNil at h3;split at h3
  ·rw[hv.val rfl (by simp)];exact zpA h3 hk
  ·obtain⟨sc,h5,rfl⟩:=hv.cc (by simp);obtain⟨w,h5,rfl⟩:=h5;simp only[C.val,Option.map_eq_some_iff] at h5;obtain⟨e,h6,rfl⟩:=h5;exact zpA h3 hk
  ·obtain⟨h4,h5⟩:=zx h3;have hn:=h4
   simp only[Nat.blt_eq] at hn;obtain⟨sc,h6,rfl⟩:=hv.cc (by simp);obtain⟨w,h6,rfl⟩:=h6;simp only[C.val,Option.bind_eq_some_iff] at h6;obtain⟨e,h7,h8⟩:=h6;split at h8<;>split at h8
   ·rename_i hc;omega
   ·cases h8
   ·cases h8;exact zpA h5 hk
   ·cases h8
  ·obtain⟨-, rfl⟩:=hv;exact zpA h3 hk
  ·cases h3
 ·cases h2
theorem zHu (hf:FR σ nb s t.fr):∀ {l:List Operand} {K:List C→R} {k:List SC→Prop},evCaps s l K=some y→(∀ l cs,All2 (SCR σ nb) l cs→K l=some y→k cs)→Vm.evCaps l t k
 | [],K,k,h,hk=>hk [] [] trivial h
 | x::l,K,k,h,hk=>by
  refine z7 (K:=fun v=>capOf v fun c=>evCaps s l fun r=>K (c::r)) h hf fun v sv _ hv h1=>?_
  cases v with
  | c c=>
   replace h1:(evCaps s l fun r=>K (c::r))=some y:=h1
   have h2:∃ sc,Vm.capOf sv=some sc∧SCR σ nb c sc:=by
    rcases hv with ⟨sc,h2,rfl⟩|⟨b,rfl,rfl⟩
    ·exact⟨sc,rfl,h2⟩
    ·exact⟨.v (.bool b),rfl,_,rfl,rfl⟩
   obtain⟨sc,h3,h4⟩:=h2;rw[h3];exact zHu hf h1 fun r cs hr h5=>hk (c::r) (sc::cs) ⟨h4,hr⟩ h5
  | _=>cases h1
theorem zM3 (f:Nat) (caps:List Operand):QS (.mkfn f caps) (zKn f caps):=fun {σ nb s t z K k} hq h hk=>
 zHu hq.fr h fun l cs hl h1=>hk (.fn f l) _ (.inl ⟨cs,hl,rfl⟩) h1
theorem zQw (x:Operand) (lo hi:Option Operand):QS (.ssl x lo hi) (zOb x lo hi):=fun {σ nb s t z K k} hq h hk=>by
 refine z7 h hq.fr fun v sv _ hv h1=>?_
 obtain⟨a,rfl,h2⟩:=zq3 h1 hv;have hs:(zaf a).size=a.length:=by simp[zaf,ByteArray.size]
 dsimp only [Vm.asStr];refine zCy h2 hq.fr fun l h3=>?_
 rw[zb4] at h3;show Vm.evIO t hi ((zaf a).size:Int) _
 rw[hs];refine zCy h3 hq.fr fun u h4=>?_
 obtain⟨i,rfl,h5⟩:=ziZ h4;obtain⟨j,rfl,h6⟩:=ziZ h5;obtain⟨h7,h8⟩:=zx h6;obtain⟨h9,h10⟩:=zD3 h8;obtain⟨h11,h12⟩:=ztw h10;have hij:=Nat.le_of_ble_eq_true h7
 rw[List.length_drop] at h11;refine⟨⟨by omega,by omega,by omega⟩,?_⟩
 have e:(zaf a).extract (i:Int).toNat (j:Int).toNat=zaf ((a.drop i).take (j - i)):=by
  apply ByteArray.ext;rw[Int.toNat_natCast,Int.toNat_natCast];apply Array.toList_inj.1;simp[zaf,List.extract_eq_take_drop,List.map_take,List.map_drop]
 rw[e];exact hk _ _ (zbk rfl) h12
end
end
section
section
variable {σ:List E} {s:S} {t:St} {y:Out} {nb:Nat}
theorem zoY {v:V} {sv:SV} {z:R} {K:Nat→R} (h:asMap v z K=some y) (hv:VR σ nb v sv):(sv = .c (.v (.map none))∧z=some y)∨∃ a e,sv = .c (.v (.map (some e.addr)))∧σ[a]? = some e∧K a=some y:=by
 obtain⟨x,rfl,h1⟩:=zd8 h;split at h1
 ·exact .inl ⟨hv.val rfl (by simp),h1⟩
 ·obtain⟨sc,h5,rfl⟩:=hv.cc (by simp);obtain⟨w,h5,rfl⟩:=h5;simp only[C.val,Option.map_eq_some_iff] at h5;obtain⟨e,h6,rfl⟩:=h5;exact .inr ⟨_,e,rfl,h6,h1⟩
 ·cases h1
theorem zuK {x:O} {K:List En→Nat→R} (h:x.mpK K=some y) {e:E} {M:Mem} (ho:OR σ e x M):∃ es c ms,x = .mp es c∧e.nil=false∧All2 (EnR σ) es ms∧M e.addr=some (.map ms.toArray c)∧M.mapAt e.addr=some (ms.toArray,c)∧K es c=some y:=by
 cases x with
 | mp es c=>obtain⟨h0,ms,h1,h2⟩:=ho;exact⟨es,c,ms,rfl,h0,h1,h2,by simp[Mem.mapAt,h2],h⟩
 | _=>cases h
theorem zHv:∀ {cs:List C} {xs:List SC},All2 (SCR σ nb) cs xs→(cs.all fun c=>match c with | .n _ _=>true|_=>false)=true→∀ {k:List Value→Prop},(∀ vs,All2 (CR σ) cs vs→k vs)→zxi xs k
 | [],[],_,_,k,hk=>hk [] trivial
 | c::cs,x::xs,h,ha,k,hk=>by
  rw[List.all_cons,Bool.and_eq_true] at ha;cases c with
  | n q m=>
   obtain⟨v,h1,h2⟩:=h.1;cases h1;subst h2;show zxi xs fun vs=>k (.int q m::vs)
   exact zHv h.2 ha.2 fun vs hvs=>hk _ ⟨rfl,hvs⟩
  | _=>exact absurd ha.1 (by simp)
 | [],_::_,h,_,_,_=>h.elim
 | _::_,[],h,_,_,_=>h.elim
theorem zHw {kk:KK} {v:V} {sv:SV} {K:W→R} (h:zoT kk v K=some y) (hv:VR σ nb v sv) {k:Value→Prop} (hk:∀ w u,WR σ w u→K w=some y→k u):zCV kk sv k:=by
 unfold zoT at h;split at h
 ·rw[hv.val rfl (by simp)];exact hk (.c (.n _ _)) _ rfl h
 ·obtain⟨-, h1⟩:=zx h;rw[hv.val rfl (by simp)];exact hk (.c (.s _)) _ rfl h1
 ·rw[zb4] at h;obtain⟨h1,h2⟩:=zx h;obtain⟨h3,h4⟩:=zx h2;obtain⟨cs,h5,rfl⟩:=hv;refine znd (by rw[←h5.len];exact Nat.eq_of_beq_eq_true h1) (zHv h5 h3 fun vs hvs=>hk (.ag _) _ ⟨vs,hvs,rfl⟩ h4)
 ·cases h
theorem zM4:∀ {xs ys:List C} {b:Bool},sameW.eqKs xs ys=some b→∀ {us vs:List Value},All2 (CR σ) xs us→All2 (CR σ) ys vs→zbl us vs=some b
 | [],[],b,h,[],[],_,_=>h
 | .n q u::xs,.n q' u'::ys,b,h,v::us,v'::vs,h1,h2=>by
  have e1:some (Value.int q u)=some v:=h1.1;have e2:some (Value.int q' u')=some v':=h2.1
  cases e1;cases e2;unfold sameW.eqKs at h;unfold zbl;split at h
  ·rename_i hq;rw[if_pos hq];rw[zq4] at h;by_cases hu:u=u'
   ·rw[if_pos hu];rw[if_pos (by simpa using hu)] at h;exact zM4 h h1.2 h2.2
   ·rw[if_neg hu];rw[if_neg (by simpa using hu)] at h;exact h
  ·cases h
 | [],[],_,_,_::_,_,h,_=>h.elim
 | [],[],_,_,[],_::_,_,h=>h.elim
 | _::_,_,_,_,[],_,h,_=>h.elim
 | _,_::_,_,_,_,[],_,h=>h.elim
 | [],_::_,_,h,_,_,_,_=>by cases h
 | c::_,[],_,h,_,_,_,_=>by cases c<;>cases h
 | .t _::_,_::_,_,h,_,_,_,_=>by cases h
 | .s _::_,_::_,_,h,_,_,_,_=>by cases h
 | .p _ _::_,_::_,_,h,_,_,_,_=>by cases h
 | .np::_,_::_,_,h,_,_,_,_=>by cases h
 | .l _ _ _ _::_,_::_,_,h,_,_,_,_=>by cases h
 | .g _ _ _ _::_,_::_,_,h,_,_,_,_=>by cases h
 | .nl::_,_::_,_,h,_,_,_,_=>by cases h
 | .m _::_,_::_,_,h,_,_,_,_=>by cases h
 | .nm::_,_::_,_,h,_,_,_,_=>by cases h
 | .b _ _::_,_::_,_,h,_,_,_,_=>by cases h
 | .f _::_,_::_,_,h,_,_,_,_=>by cases h
 | .fm _ _ _::_,_::_,_,h,_,_,_,_=>by cases h
 | .h _ _ _ _ _ _::_,_::_,_,h,_,_,_,_=>by cases h
 | .ni::_,_::_,_,h,_,_,_,_=>by cases h
 | .nf::_,_::_,_,h,_,_,_,_=>by cases h
 | .xx _ _ _ _::_,_::_,_,h,_,_,_,_=>by cases h
 | .n _ _::_,.t _::_,_,h,_,_,_,_=>by cases h
 | .n _ _::_,.s _::_,_,h,_,_,_,_=>by cases h
 | .n _ _::_,.p _ _::_,_,h,_,_,_,_=>by cases h
 | .n _ _::_,.np::_,_,h,_,_,_,_=>by cases h
 | .n _ _::_,.l _ _ _ _::_,_,h,_,_,_,_=>by cases h
 | .n _ _::_,.g _ _ _ _::_,_,h,_,_,_,_=>by cases h
 | .n _ _::_,.nl::_,_,h,_,_,_,_=>by cases h
 | .n _ _::_,.m _::_,_,h,_,_,_,_=>by cases h
 | .n _ _::_,.nm::_,_,h,_,_,_,_=>by cases h
 | .n _ _::_,.b _ _::_,_,h,_,_,_,_=>by cases h
 | .n _ _::_,.f _::_,_,h,_,_,_,_=>by cases h
 | .n _ _::_,.fm _ _ _::_,_,h,_,_,_,_=>by cases h
 | .n _ _::_,.h _ _ _ _ _ _::_,_,h,_,_,_,_=>by cases h
 | .n _ _::_,.ni::_,_,h,_,_,_,_=>by cases h
 | .n _ _::_,.nf::_,_,h,_,_,_,_=>by cases h
 | .n _ _::_,.xx _ _ _ _::_,_,h,_,_,_,_=>by cases h
theorem zJk {w w':W} {b:Bool} (h:sameW w w'=some b) {v v':Value} (h1:WR σ w v) (h2:WR σ w' v'):zkz v v'=some b:=by
 unfold sameW at h;split at h
 ·rename_i q u q' u';have e1:some (Value.int q u)=some v:=h1
  have e2:some (Value.int q' u')=some v':=h2;cases e1;cases e2;show (if q=q' then some (decide (u=u')) else none)=some b
  split at h
  ·rename_i hq;rw[if_pos hq];rw[zq4] at h;exact h
  ·cases h
 ·rename_i u u';have e1:some (Value.string (zaf u))=some v:=h1
  have e2:some (Value.string (zaf u'))=some v':=h2;cases e1;cases e2;show some (decide (zaf u=zaf u'))=some b
  split at h
  ·rename_i ha;rw[Bool.and_eq_true] at ha;rw[ztA] at h;rw[←h];exact congrArg some (decide_eq_decide.2 (zAB (zoX ha.1) (zoX ha.2)))
  ·cases h
 ·obtain⟨us,h3,rfl⟩:=h1;obtain⟨vs,h4,rfl⟩:=h2;exact zM4 h h3 h4
 ·cases h
def fR (σ:List E) (f:Option (Nat×W)) (f':Option (Nat×Value)):Prop:=match f,f' with|none,none=>True|some (j,w),some (j',v)=>j=j'∧WR σ w v|_,_=>False
theorem zxv {w:W} {key:Value} (hw:WR σ w key):∀ {es:List En} {ms:List MapEntry} {i:Nat} {f:Option (Nat×W)},kfind w es i=some f→All2 (EnR σ) es ms→∃ f',Vm.kfind key ms i=some f'∧fR σ f f'
 | [],[],i,f,h,_=>by cases h;exact⟨none,rfl,trivial⟩
 | e::es,m::ms,i,f,h,hl=>by
  unfold kfind at h;unfold Vm.kfind;split at h
  ·rename_i h1;cases h;rw[zJk h1 hw hl.1.1];exact⟨some (i,m.val),rfl,rfl,hl.1.2.1⟩
  ·rename_i h1;rw[zJk h1 hw hl.1.1];exact zxv hw h hl.2
  ·cases h
 | [],_::_,_,_,_,h=>h.elim
 | _::_,[],_,_,_,h=>h.elim
theorem zM5 {ok:Bool} {z:Value} {f:Option (Nat×W)} {f':Option (Nat×Value)} (hf:fR σ f f') {K:V→R} (h:mgot ok z f K=some y) {k:SV→Prop} (hk:∀ v sv,VR σ nb v sv→K v=some y→k sv):Vm.mgot ok z f' k:=by
 match f,f',hf with
 | some (j,w),some (j',v),hf=>
  cases ok
  ·exact hk _ _ (zxp hf.2) h
  ·exact hk (.tp [w,.c (.t true)]) _ ⟨[v,.bool true],⟨hf.2,rfl,trivial⟩,rfl⟩ h
 | none,none,_=>
  unfold mgot at h;dsimp only at h;obtain⟨x,⟨w,hx⟩, -, h2⟩:=ofV_s (nb:=nb) (σ:=σ) h;rcases hx with ⟨rfl,h3⟩|⟨l,cs,rfl,rfl,h3⟩
  ·cases ok
   ·exact hk _ _ (zwP h3) h2
   ·exact hk (.tp [.c w,.c (.t false)]) _ ⟨[z,.bool false],⟨h3,rfl,trivial⟩,rfl⟩ h2
  ·have h4:WR σ (.ag l) (.agg cs):=⟨cs.toList,h3,rfl⟩
   cases ok
   ·exact hk _ _ (zxp h4) h2
   ·exact hk (.tp [.ag l,.c (.t false)]) _ ⟨[.agg cs,.bool false],⟨h4,rfl,trivial⟩,rfl⟩ h2
theorem zM6 (kk:KK) (ok:Bool) (z:Value) (x key:Operand):QS (.mget kk ok z x key) (zKr kk ok z x key):=fun {σ nb s t y K k} hq h hk=>by
 refine z7 h hq.fr fun u su _ hu h1=>?_
 have h2:∃ r,(su = .c (.v (.map r))):=by
  have:∃ v' k',(asMap u fail (fun _=>some (Out.rt .dead 0 .e))=some v')∨k'=0:=⟨.rt .dead 0 .e,0,.inr rfl⟩
  clear this
  obtain⟨kv,hk1⟩:∃ kv,(zoT kk kv fun key=>asMap u (mgot ok z none K) fun b=>s.hget b fun x=>x.mpK fun es _=>oV (kfind key es 0) fun f=>mgot ok z f K)=some y:=by
   cases key with
   | tmp d=>obtain⟨v, -, h2⟩:=zji (K:=fun kv=>zoT kk kv _) h1;exact⟨v,h2⟩
   | const v=>obtain⟨x, -, -, h2⟩:=ofV_s (σ:=σ) (nb:=0) (K:=fun kv=>zoT kk kv _) h1;exact⟨x,h2⟩
   | func f=>exact⟨_,h1⟩
   | global g=>cases h1
  have key:∀ w,(asMap u (mgot ok z none K) fun b=>s.hget b fun x=>x.mpK fun es _=>oV (kfind w es 0) fun f=>mgot ok z f K)=some y→∃ r,su = .c (.v (.map r)):=fun w hw=>by
   rcases zoY hw hu with ⟨rfl, -⟩|⟨a,e,rfl, -, -⟩
   ·exact⟨_,rfl⟩
   ·exact⟨_,rfl⟩
  unfold zoT at hk1;split at hk1
  ·exact key _ hk1
  ·exact key _ (zx hk1).2
  ·rw[zb4] at hk1;exact key _ (zx (zx hk1).2).2
  ·cases hk1
 obtain⟨r,rfl⟩:=h2;show Vm.ev t key _
 refine z7 h1 hq.fr fun kv skv _ hkv h3=>zHw h3 hkv fun w u' hw h4=>?_
 rcases zoY h4 hu with ⟨h5,h6⟩|⟨a,e,h5,he,h6⟩
 ·cases h5;exact zM5 (f:=none) (f':=none) trivial h6 hk
 ·cases h5;obtain⟨o,h7,h8,h9⟩:=zdo h6;obtain⟨e',he',ho⟩:=hq.h a o h7 h8;rw[he] at he';cases he';obtain⟨es,c,ms,rfl, -, h10,h11,h12,h13⟩:=zuK h9 ho;obtain⟨f,h14,h15⟩:=zji h13;obtain⟨f',h16,h17⟩:=zxv hw h14 h10;show onO (t.M.mapAt e.addr) _
  rw[h12];show onO (Vm.kfind u' ms 0) _
  rw[h16];exact zM5 h17 h15 hk
theorem zM7 (x:Operand):QS (.mlen x) (zKs x):=fun {σ nb s t y K k} hq h hk=>by
 refine z7 h hq.fr fun u su _ hu h1=>?_
 rcases zoY h1 hu with ⟨rfl,h6⟩|⟨a,e,rfl,he,h6⟩
 ·exact hk _ _ (zbk (x := .n .i64 0) rfl) h6
 ·obtain⟨o,h7,h8,h9⟩:=zdo h6;obtain⟨e',he',ho⟩:=hq.h a o h7 h8;rw[he] at he';cases he';obtain⟨es,c,ms,rfl, -, h10,h11,h12,h13⟩:=zuK h9 ho;rw[zb4] at h13;show onO (t.M.mapAt e.addr) _
  rw[h12];show k (.int .i64 ms.length)
  rw[←h10.len];exact hk _ _ (zbk (x := .n .i64 (.ofNat _)) rfl) h13
theorem zM8 {b:Nat}:∀ {es:List En} {ms:List MapEntry} {e:En},All2 (EnR σ) es ms→es.find? (fun e=>Nat.beq e.born b)=some e→∃ m,ms.find? (fun m=>m.born == b)=some m∧EnR σ e m
 | e::es,m::ms,e',h,hf=>by
  rw[List.find?_cons] at hf ⊢;rw[h.1.2.2];rw[show Nat.beq e.born b=(e.born == b) by rw[zwS];rfl] at hf;split at hf
  ·rename_i hb;cases hf;exact⟨m,rfl,h.1⟩
  ·exact zM8 h.2 hf
 | [],[],_,_,hf=>by cases hf
 | [],_::_,_,h,_=>h.elim
 | _::_,[],_,h,_=>h.elim
theorem zOi (x:Operand):QS (.mentry x) (zI5 x):=fun {σ nb s t y K k} hq h hk=>by
 refine zxq h hq.fr hq.bx (fun j o T l cs _ _ _ h1=>by cases h1) (fun a o e he h1=>?_);obtain⟨h2,h3⟩:=zx h1;refine znd (Nat.eq_of_beq_eq_true h2) ?_;obtain⟨ob,h4,h5,h6⟩:=zdo h3;obtain⟨e',he',ho⟩:=hq.h a ob h4 h5;rw[he] at he';cases he';split at h6
 ·rename_i m since seen last;obtain⟨-, x',hx,hM⟩:=ho;obtain⟨em,hem,rfl⟩:=hx;obtain⟨om,h7,h8,h9⟩:=zdo h6;obtain⟨em',hem',hom⟩:=hq.h m om h7 h8;rw[hem] at hem';cases hem';obtain⟨es,c,ms,rfl, -, h10,h11,h12,h13⟩:=zuK h9 hom;obtain⟨h14,h15⟩:=zx h13;have hc:=Nat.eq_of_beq_eq_true h14
  split at h15
  ·rename_i b hb;split at h15
   ·rename_i en hen;obtain⟨me,hme,her⟩:=zM8 h10 hen
    have e1:za8 t.M e.addr=some (me.key,me.val):=by
     unfold za8;have:t.M.iterAt e.addr=some (some em.addr,since,seen.toArray,last):=by simp[Mem.iterAt,hM]
     rw[this];simp only[h12,List.back?_toArray,hb,hc,if_true,List.find?_toArray,hme,Option.map_some]
    rw[e1];exact hk (.tp [en.key,en.val]) _ ⟨[me.key,me.val],⟨her.1,her.2.1,trivial⟩,rfl⟩ h15
   ·cases h15
  ·cases h15
 ·cases h6
theorem zUw (o:ROp) (hq:zE o=true):QS o (qd o):=by
 cases o with
 | mov x=>exact zQo x
 | pick c a b=>exact zMO c a b
 | build z p=>exact zJa z p
 | load g n p=>exact zMP g n p
 | nilck x=>exact zJb x
 | faddr o p=>exact zJc o p
 | field g o n x=>exact zJd g o n x
 | iaddr n x i=>exact zJe n x i
 | iaddrA l n x i=>exact zHr l n x i
 | ibin o x y=>exact zMT o x y
 | bbin o x y=>exact zMQ o x y
 | pnil o x y=>exact zMR o x y
 | not x=>exact zQp x
 | conv k x=>exact zMU k x
 | len x=>exact zQq x
 | lenS x=>exact zMS x
 | extract x i=>exact zEF x i
 | strOf x=>exact zJi x
 | strE o x y=>exact zMX o x y
 | imm m x y=>exact zQt m x y
 | slx n x l h=>exact zQu n x l h
 | aeq o n x y=>exact zQv o n x y
 | slnil o x y=>exact zJj o x y
 | sidx x i=>exact zMY x i
 | aidx g l n x i=>exact zMZ g l n x i
 | mkfn f c=>exact zM3 f c
 | uneg x=>exact zMV x
 | ucom x=>exact zMW x
 | ssl x l h=>exact zQw x l h
 | mget k o z x y=>exact zM6 k o z x y
 | mlen x=>exact zM7 x
 | slx3 n x l h m=>exact zM0 n x l h m
 | mval f x=>exact zM1 f x
 | mentry x=>exact fun _ h _=>by cases h
 | _=>cases hq
end
end
end Go.Vm.Rn
namespace Go.Vm.Rn
open Go.Vm
set_option linter.unusedVariables false
section
variable {σ:List E} {s:S} {t:St} {y:Out} {nb:Nat}
theorem OR.some {e:E} {o:O} {M:Mem} (h:OR σ e o M) (hn:e.nil=false):∃ ob,M e.addr=some ob:=by
 cases o with
 | row T l=>obtain⟨-, _, -, h⟩:=h;exact⟨_,h⟩
 | ro T l=>obtain⟨-, _, -, h⟩:=h;exact⟨_,h⟩
 | gr T z l=>
  obtain⟨_, -, ⟨h, -⟩|⟨-, h, -⟩⟩:=h
  ·rw[hn] at h;cases h
  ·exact⟨_,h⟩
 | mp es c=>obtain⟨-, _, -, h⟩:=h;exact⟨_,h⟩
 | it m a s t=>obtain⟨-, _, -, h⟩:=h;exact⟨_,h⟩
 | si l p=>exact⟨_,h.2⟩
theorem OR.frame {e:E} {o:O} {M M':Mem} (h:OR σ e o M) (hM:e.nil=false→M' e.addr=M e.addr):OR σ e o M':=by
 cases o with
 | row T l=>obtain⟨h0,vs,h1,h⟩:=h;exact⟨h0,vs,h1,by rw[hM h0];exact h⟩
 | ro T l=>obtain⟨h0,vs,h1,h⟩:=h;exact⟨h0,vs,h1,by rw[hM h0];exact h⟩
 | gr T z l=>
  obtain⟨vs,h1,h|⟨h0,h,h2⟩⟩:=h
  ·exact⟨vs,h1,.inl h⟩
  ·exact⟨vs,h1,.inr ⟨h0,by rw[hM h0];exact h,h2⟩⟩
 | mp es c=>obtain⟨h0,vs,h1,h⟩:=h;exact⟨h0,vs,h1,by rw[hM h0];exact h⟩
 | it m a s t=>obtain⟨h0,vs,h1,h⟩:=h;exact⟨h0,vs,h1,by rw[hM h0];exact h⟩
 | si l p=>exact⟨h.1,by rw[hM h.1];exact h.2⟩
namespace HR
variable {H:T O} {M M':Mem}
theorem new (h:HR σ H M) {e:E} {o:O} (hM:∀ x,(e.nil=false→x≠e.addr)→M' x=M x) (hn:e.nil=false→M e.addr=none) (ho:OR (σ++[e]) e o M'):HR (σ++[e]) (H.put σ.length (some o)) M':=by
 have hlast:(σ++[e])[σ.length]? = some e:=by simp
 have old:∀ a oa,H.get a=some oa→∃ ea,(σ++[e])[a]? = some ea∧σ[a]? = some ea∧OR σ ea oa M∧(ea.nil=false→e.nil=false→ea.addr≠e.addr):=fun a oa ha=>by
  obtain⟨ea,h1,h2⟩:=h.has a oa ha;refine⟨ea,zoV _ h1,h1,h2,fun hea hen heq=>?_⟩;obtain⟨ob,h3⟩:=h2.some hea;rw[heq,hn hen] at h3;cases h3
 refine⟨fun a oa ha=>?_,fun a b oa ob ea eb ha hb hea heb hna hnb hab=>?_⟩
 ·rcases T.get_put ha with ⟨rfl,h1⟩|⟨-, h1⟩
  ·cases h1;exact⟨e,hlast,ho⟩
  ·obtain⟨ea,h2, -, h3,h4⟩:=old a oa h1;exact⟨ea,h2,(h3.mono [e]).frame fun hea=>hM _ fun hen=>h4 hea hen⟩
 ·rcases T.get_put ha with ⟨rfl,h1⟩|⟨-, h1⟩<;>rcases T.get_put hb with ⟨rfl,h2⟩|⟨-, h2⟩
  ·rfl
  ·obtain⟨eb',h3, -, -, h4⟩:=old b ob h2;rw[heb] at h3;cases h3;rw[hlast] at hea;cases hea;exact absurd hab.symm (h4 hnb hna)
  ·obtain⟨ea',h3, -, -, h4⟩:=old a oa h1;rw[hea] at h3;cases h3;rw[hlast] at heb;cases heb;exact absurd hab (h4 hna hnb)
  ·obtain⟨ea',h3,h5, -, -⟩:=old a oa h1;obtain⟨eb',h4,h6, -, -⟩:=old b ob h2;rw[hea] at h3;cases h3;rw[heb] at h4;cases h4;exact h.inj a b oa ob ea eb h1 h2 h5 h6 hna hnb hab
theorem del (h:HR σ H M) {a:Nat} {oa:O} {e:E} (ha:H.get a=Option.some oa) (he:σ[a]? = Option.some e) (hM:∀ x,(e.nil=false→x≠e.addr)→M' x=M x):HR σ (H.put a none) M':=by
 refine⟨fun b ob hb=>?_,fun b c ob oc eb ec hb hc=>?_⟩
 ·rcases T.get_put hb with ⟨-, h1⟩|⟨hne,h1⟩
  ·cases h1
  ·obtain⟨eb,h2,h3⟩:=h.has b ob h1;exact⟨eb,h2,h3.frame fun heb=>hM _ fun hen heq=>hne (h.inj b a ob oa eb e h1 ha h2 he heb hen heq)⟩
 ·rcases T.get_put hb with ⟨-, h1⟩|⟨-, h1⟩
  ·cases h1
  ·rcases T.get_put hc with ⟨-, h2⟩|⟨-, h2⟩
   ·cases h2
   ·exact h.inj b c ob oc eb ec h1 h2
theorem upd (h:HR σ H M) {a:Nat} {oa o:O} {e:E} (ha:H.get a=Option.some oa) (he:σ[a]? = Option.some e) (hM:∀ x,x≠e.addr→M' x=M x) (hn:e.nil=false) (ho:OR σ e o M'):HR σ (H.put a (Option.some o)) M':=by
 refine⟨fun b ob hb=>?_,fun b c ob oc eb ec hb hc=>?_⟩
 ·rcases T.get_put hb with ⟨rfl,h1⟩|⟨hne,h1⟩
  ·cases h1;exact⟨e,he,ho⟩
  ·obtain⟨eb,h2,h3⟩:=h.has b ob h1;exact⟨eb,h2,h3.frame fun heb=>hM _ fun heq=>hne (h.inj b a ob oa eb e h1 ha h2 he heb hn heq)⟩
 ·have old:∀ x ox,(H.put a (Option.some o)).get x=Option.some ox→∃ ox',H.get x=Option.some ox':=fun x ox hx=>by
   rcases T.get_put hx with ⟨rfl, -⟩|⟨-, h1⟩
   ·exact⟨oa,ha⟩
   ·exact⟨ox,h1⟩
  obtain⟨ob',hb'⟩:=old b ob hb;obtain⟨oc',hc'⟩:=old c oc hc;exact h.inj b c ob' oc' eb ec hb' hc'
end HR
theorem FR.same {s s':S} (h1:s'.nl=s.nl) (h2:s'.tl=s.tl) (h3:s'.L=s.L) {fr:List (Nat×SV)} (h:FR σ nb s fr):FR σ nb s' fr:=by
 obtain⟨a,b,c,d,e,f,g⟩:=s;obtain⟨a',b',c',d',e',f',g'⟩:=s';cases h1;cases h2;cases h3;exact h
structure Ext (σ:List E) (t:St) (σ':List E) (t':St):Prop where
 σ:∃ τ,σ'=σ++τ
 bx:t.bx.length≤t'.bx.length
theorem Ext.rfl' {σ:List E} {t:St}:Ext σ t σ t:=⟨⟨[],by simp⟩,Nat.le_refl _⟩
theorem Ext.trans {σ σ' σ'':List E} {t t' t'':St} (h:Ext σ t σ' t') (h':Ext σ' t' σ'' t''):Ext σ t σ'' t'':=by
 obtain⟨⟨τ,rfl⟩,h1⟩:=h;obtain⟨⟨τ',rfl⟩,h2⟩:=h';exact⟨⟨τ++τ',by simp⟩,Nat.le_trans h1 h2⟩
theorem VR.ext {σ':List E} {t':St} (x:Ext σ t σ' t') {v:V} {sv:SV} (h:VR σ t.bx.length v sv):VR σ' t'.bx.length v sv:=by obtain⟨τ,rfl⟩:=x.σ;exact h.mono τ x.bx
theorem WR.ext {σ':List E} {t':St} (x:Ext σ t σ' t') {w:W} {v:Value} (h:WR σ w v):WR σ' w v:=by obtain⟨τ,rfl⟩:=x.σ;exact h.mono τ
theorem CR.ext {σ':List E} {t':St} (x:Ext σ t σ' t') {w:C} {v:Value} (h:CR σ w v):CR σ' w v:=by obtain⟨τ,rfl⟩:=x.σ;exact h.mono τ
theorem SCR.ext {σ':List E} {t':St} (x:Ext σ t σ' t') {w:C} {v:SC} (h:SCR σ t.bx.length w v):SCR σ' t'.bx.length w v:=by obtain⟨τ,rfl⟩:=x.σ;exact h.mono τ x.bx
theorem zpB {σ':List E} {t':St} (x:Ext σ t σ' t') {a:Nat} {e:E} (h:σ[a]? = some e):σ'[a]? = some e:=by obtain⟨τ,rfl⟩:=x.σ;exact zoV τ h
theorem zpC (s:S) (o:O) (K:Nat→S→R):s.new o K=K s.n ⟨s.nl,s.tl,s.L,s.bx,s.n+1,s.H.put s.n (some o),s.g⟩:=by
 obtain⟨nl,tl,L,bx,n,H,g⟩:=s;show H.set n (some o) (fun H'=>fN (fun n'=>K n ⟨nl,tl,L,bx,n',H',g⟩) (n+1))=_
 rw[T.set_put,fN_eq]
theorem zi2 (s:S) (a:Nat) (o:Option O) (K:S→R):s.hset a o K=K ⟨s.nl,s.tl,s.L,s.bx,s.n,s.H.put a o,s.g⟩:=by
 obtain⟨nl,tl,L,bx,n,H,g⟩:=s;show H.set a o (fun H'=>K ⟨nl,tl,L,bx,n,H',g⟩)=_
 rw[T.set_put]
theorem zM9 {j:Nat} {b:B} {K:S→R} (h:s.bset j b K=some y):j<s.bx.length∧K ⟨s.nl,s.tl,s.L,s.bx.set j b,s.n,s.H,s.g⟩=some y:=by
 obtain⟨nl,tl,L,bx,n,H,g⟩:=s;exact zHo (l:=bx) (k:=j) (x:=b) (K:=fun bx'=>K ⟨nl,tl,L,bx',n,H,g⟩) h
theorem zD7 (s:S) (b:B) (K:Nat→S→R):s.badd b K=K s.bx.length ⟨s.nl,s.tl,s.L,s.bx++[b],s.n,s.H,s.g⟩:=by
 obtain⟨nl,tl,L,bx,n,H,g⟩:=s;show zew bx (fun j=>appK bx [b] fun bx'=>K j ⟨nl,tl,L,bx',n,H,g⟩)=_
 rw[zb4,znc]
theorem SR.new (h:SR σ s t) {e:E} {o:O} {M':Mem} (hM:∀ x,(e.nil=false→x≠e.addr)→M' x=t.M x) (hn:e.nil=false→t.M e.addr=none) (ho:OR (σ++[e]) e o M') :
  SR (σ++[e]) ⟨s.nl,s.tl,s.L,s.bx,s.n+1,s.H.put s.n (some o),s.g⟩ ⟨t.fr,t.bx,M'⟩:=
 ⟨by simp[h.n],(h.fr.mono [e] (Nat.le_refl _)).same rfl rfl rfl,h.bx.imp fun _ _ hb=>hb.mono [e] (Nat.le_refl _),by
  have:=h.h.new hM hn ho;rw[←h.n] at this
  exact this⟩
theorem SR.heap (h:SR σ s t) {H':T O} {M':Mem} (hh:HR σ H' M'):SR σ ⟨s.nl,s.tl,s.L,s.bx,s.n,H',s.g⟩ ⟨t.fr,t.bx,M'⟩:=⟨h.n,h.fr.same rfl rfl rfl,h.bx,hh⟩
theorem SR.box (h:SR σ s t) {b:B} {x:BE} (hb:BR σ t.bx.length b x):SR σ ⟨s.nl,s.tl,s.L,s.bx++[b],s.n,s.H,s.g⟩ ⟨t.fr,t.bx++[x],t.M⟩:=by
 have hl:t.bx.length≤(t.bx++[x]).length:=by simp
 have e:σ++[]=σ:=by simp
 refine⟨h.n,?_,?_,h.h⟩
 ·have:=(h.fr.mono [] hl).same (s':=⟨s.nl,s.tl,s.L,s.bx++[b],s.n,s.H,s.g⟩) rfl rfl rfl;rw[e] at this;exact this
 ·refine All2.append (h.bx.imp fun _ _ hb=>?_) ⟨?_,trivial⟩
  ·have:=hb.mono [] hl;rw[e] at this;exact this
  ·have:=hb.mono [] hl;rw[e] at this;exact this
theorem zJl (hb:All2 (BR σ t.bx.length) s.bx t.bx):∀ {l:List C} {xs:List SC} {K:List C→R},flats s l K=some y→All2 (SCR σ t.bx.length) l xs→∃ l' vs,Vm.flats t.bx xs=some vs∧All2 (CR σ) l' vs∧K l'=some y
 | [],[],K,h,_=>⟨[],[],rfl,trivial,h⟩
 | c::l,x::xs,K,h,hl=>by
  have step:∃ c' v,Vm.flat t.bx x=some v∧CR σ c' v∧(flats s l fun r=>K (c'::r))=some y:=by
   have h':flat s c (fun c'=>flats s l fun r=>K (c'::r))=some y:=h;cases c with
   | b j o=>
    obtain⟨-, h1⟩:=hl.1;subst h1;rcases zCv (t:=t) h' hb with ⟨T,l1,cs, -, -, -, h2⟩|⟨a,e, -, he,h2,h3⟩
    ·cases h2
    ·refine⟨.p a o,.pointer (some ⟨e.addr,o,none⟩),by simp only[Vm.flat,h2],?_,h3⟩;simp[CR,C.val,he]
   | _=>
    obtain⟨v,h1,h2⟩:=hl.1;subst h2;exact⟨_,v,rfl,h1,h'⟩
  obtain⟨c',v,h1,h2,h3⟩:=step;obtain⟨l',vs,h4,h5,h6⟩:=zJl hb h3 hl.2;exact⟨c'::l',v::vs,by simp only[Vm.flats,h1,h4],⟨h2,h5⟩,h6⟩
 | [],_::_,_,_,h=>h.elim
 | _::_,[],_,_,h=>h.elim
theorem zKC {j:Nat} {K:Nat→S→R} (h:pub j s K=some y) (hr:SR σ s t) {k:Nat→St→Prop} (hk:∀ σ' a e s' t',Ext σ t σ' t'→SR σ' s' t'→σ'[a]? = some e→K a s'=some y→k e.addr t'):Vm.pub j t k:=by
 show zNP j t (zi4 t.bx j) k;rcases zCv (t:=t) h hr.bx with ⟨T,l,cs,h1,h2,h3,h4⟩|⟨a,e,h1,h2,h3,h4⟩
 ·obtain⟨l',vs,h5,h6,h7⟩:=zJl hr.bx h4 h3;rw[zpC] at h7;obtain⟨h8,h9⟩:=zM9 h7;rw[h2];show onO (Vm.flats t.bx cs) _
  rw[h5];intro b hb;obtain⟨fr,bx,M⟩:=t;dsimp only at hb ⊢;rw[zad,zad];have hr1:=hr.new (e:=⟨b,0,false,[]⟩) (o := .row T l') (M':=M.setCells b T vs) (fun x hx=>by simp[Mem.setCells,Mem.upd,hx rfl]) (fun _=>hb) ⟨rfl,vs,h6.imp fun _ _ hc=>hc.mono _,by simp[Mem.setCells,Mem.upd]⟩
  have hlast:(σ++[(⟨b,0,false,[]⟩:E)])[s.n]? = some ⟨b,0,false,[]⟩:=by rw[hr.n];simp
  refine hk (σ++[⟨b,0,false,[]⟩]) s.n ⟨b,0,false,[]⟩ _ ⟨fr,bx.set j (.gone b),M.setCells b T vs⟩ ⟨⟨_,rfl⟩,by simp⟩ ⟨hr1.n,?_,?_,hr1.h⟩ hlast h9
  ·have:=hr1.fr;simp only[List.length_set];exact this.same rfl rfl rfl
  ·simp only[List.length_set];exact hr1.bx.set ⟨_,hlast,rfl⟩
 ·rw[h3];exact hk σ a e s t Ext.rfl' hr h2 h4
theorem zJm {c:C} {x:SC} {K:C→S→R} (h:shalC c s K=some y) (hr:SR σ s t) (hc:SCR σ t.bx.length c x) {k:Value→St→Prop} (hk:∀ σ' c' v s' t',Ext σ t σ' t'→SR σ' s' t'→CR σ' c' v→K c' s'=some y→k v t'):Vm.shalC x t k:=by
 cases c with
 | b j o=>
  obtain⟨-, rfl⟩:=hc;exact zKC h hr fun σ' a e s' t' hx hr' he h1=>hk σ' (.p a o) _ s' t' hx hr' (by simp[CR,C.val,he]) h1
 | _=>
  obtain⟨v,h1,rfl⟩:=hc;exact hk σ _ v s t Ext.rfl' hr h1 h
theorem zoZ:∀ {l:List C} {xs:List SC} {σ:List E} {s:S} {t:St} {K:List C→S→R},shalCs l s K=some y→SR σ s t→All2 (SCR σ t.bx.length) l xs→∀ {k:List Value→St→Prop},
  (∀ σ' l' vs s' t',Ext σ t σ' t'→SR σ' s' t'→All2 (CR σ') l' vs→l'.length=l.length→K l' s'=some y→k vs t')→Vm.shalCs xs t k
 | [],[],σ,s,t,K,h,hr,_,k,hk=>hk σ [] [] s t Ext.rfl' hr trivial rfl h
 | c::l,x::xs,σ,s,t,K,h,hr,hl,k,hk=>by
  refine zJm (K:=fun c' s'=>shalCs l s' fun r s''=>K (c'::r) s'') h hr hl.1 fun σ' c' v s' t' hx hr' hc h1=>?_
  exact zoZ h1 hr' (hl.2.imp fun _ _ h=>h.ext hx) fun σ'' l' vs s'' t'' hx' hr'' hl' hlen h2=>hk σ'' (c'::l') (v::vs) s'' t'' (hx.trans hx') hr'' ⟨hc.ext hx',hl'⟩ (by simp[hlen]) h2
 | [],_::_,_,_,_,_,_,_,h,_,_=>h.elim
 | _::_,[],_,_,_,_,_,_,h,_,_=>h.elim
theorem zpD {v:V} {sv:SV} {K:W→S→R} (h:shal v s K=some y) (hr:SR σ s t) (hv:VR σ t.bx.length v sv) {k:Value→St→Prop} (hk:∀ σ' w u s' t',Ext σ t σ' t'→SR σ' s' t'→WR σ' w u→K w s'=some y→k u t'):Vm.shal sv t k:=by
 cases v with
 | c x=>
  rcases hv with ⟨sc,h1,rfl⟩|⟨b,rfl,rfl⟩
  ·exact zJm (K:=fun x' s'=>K (.c x') s') h hr h1 fun σ' c' v s' t' hx hr' hc h2=>hk σ' (.c c') v s' t' hx hr' hc h2
  ·exact hk σ (.c (.t b)) _ s t Ext.rfl' hr rfl h
 | ag l=>
  obtain⟨cs,h1,rfl⟩:=hv;exact zoZ (K:=fun l' s'=>K (.ag l') s') h hr h1 fun σ' l' vs s' t' hx hr' hl _ h2=>hk σ' (.ag l') _ s' t' hx hr' ⟨vs,hl,rfl⟩ h2
 | fn g l=>
  rcases hv with ⟨cs,h1,rfl⟩|⟨vs,h1,rfl⟩
  ·exact zoZ (K:=fun l' s'=>K (.fn g l') s') h hr h1 fun σ' l' vs s' t' hx hr' hl _ h2=>hk σ' (.fn g l') _ s' t' hx hr' ⟨vs,hl,rfl⟩ h2
  ·
   have hid:∀ {l:List C} {vs:List Value} {K:List C→S→R},All2 (CR σ) l vs→shalCs l s K=some y→K l s=some y:=by
    intro l
    induction l with
    | nil=>intro vs K _ h;exact h
    | cons c l ih=>
     intro vs K hl h
     match vs,hl with
     | v::vs,hl=>
      have h':shalC c s (fun c' s'=>shalCs l s' fun r s''=>K (c'::r) s'')=some y:=h
      have h'':(shalCs l s fun r s''=>K (c::r) s'')=some y:=by
       cases c with
       | b j o=>exact absurd hl.1 (by simp[CR,C.val])
       | _=>exact h'
      exact ih hl.2 h''
   exact hk σ (.fn g l) _ s t Ext.rfl' hr ⟨vs,h1,rfl⟩ (hid (K:=fun l' s'=>K (.fn g l') s') h1 h)
 | sl j n=>
  obtain⟨-, rfl⟩:=hv;exact zKC (K:=fun a s'=>K (.c (.l a 0 n n)) s') h hr fun σ' a e s' t' hx hr' he h1=>hk σ' (.c (.l a 0 n n)) _ s' t' hx hr' (by simp[WR,CR,C.val,he]) h1
 | _=>cases h
theorem zJn:∀ {l:List Operand} {σ:List E} {s:S} {t:St} {K:List W→S→R},shals l s K=some y→SR σ s t→∀ {k:List Value→St→Prop},
  (∀ σ' ws vs s' t',Ext σ t σ' t'→SR σ' s' t'→All2 (WR σ') ws vs→K ws s'=some y→k vs t')→Vm.shals l t k
 | [],σ,s,t,K,h,hr,k,hk=>hk σ [] [] s t Ext.rfl' hr trivial h
 | x::l,σ,s,t,K,h,hr,k,hk=>by
  refine z7 (K:=fun v=>shal v s fun w s'=>shals l s' fun r s''=>K (w::r) s'') h hr.fr fun v sv _ hv h1=>?_
  refine zpD h1 hr hv fun σ' w u s' t' hx hr' hw h2=>?_
  exact zJn h2 hr' fun σ'' ws vs s'' t'' hx' hr'' hws h3=>hk σ'' (w::ws) (u::vs) s'' t'' (hx.trans hx') hr'' ⟨hw.ext hx',hws⟩ h3
end
end Go.Vm.Rn
namespace Go.Vm.Rn
open Go.Vm
set_option linter.unusedVariables false
def FOk (P:Program) (F:Cal):Prop:=∀ {g:Nat} {ws:List W} {n:Nat} {H:T O} {y:Out},F g ws n H=some y→∀ {v:V} {n':Nat} {H':T O},y = .rt v n' H' →
 ∀ {σ:List E} {M:Mem} {vs:List Value},σ.length=n→HR σ H M→All2 (WR σ) ws vs→CallsM P g vs M fun u M'=>∃ τ,(σ++τ).length=n'∧OVR (σ++τ) v u∧HR (σ++τ) H' M'
def LS (P:Program) (o:ROp) (l:S→(V→S→R)→R):Prop:=∀ {σ:List E} {s:S} {t:St} {y:Out} {K:V→S→R} {k:SV→St→Prop},SR σ s t→l s K=some y →
 (∀ σ' v sv s' t',Ext σ t σ' t'→SR σ' s' t'→VR σ' t'.bx.length v sv→K v s'=some y→k sv t')→vl P o t k
section
variable {P:Program} {σ:List E} {s:S} {t:St} {y:Out} {nb:Nat}
theorem zTV (T:TypeId) (x:Operand):LS P (.box T x) (zSH T x):=fun {σ s t y K k} hr h hk=>by
 refine z7 h hr.fr fun v sv _ hv h1=>?_
 obtain⟨l,cs,h2,h3,h4⟩:=zwQ h1 hv;rw[h2];show zaC cs _
 rw[zad,zq2];rw[zD7] at h4;have hl:s.bx.length=t.bx.length:=hr.bx.len
 refine hk σ (.c (.b s.bx.length 0)) _ _ _ ⟨⟨[],by simp⟩,by simp⟩ (hr.box (b := .live T l) ⟨cs,h3,rfl⟩) ?_ h4;exact .inl ⟨.bx t.bx.length 0,⟨by rw[hl];simp,by rw[hl]⟩,rfl⟩
theorem zRr (T:TypeId) (z:List Value):LS P (.alloc T z) (zMC T z):=fun {σ s t y K k} hr h hk=>by
 obtain⟨l,h1,h4⟩:=zry σ h;show zaC (z.map SC.v) _
 rw[zad,zq2];rw[zD7] at h4;have hl:s.bx.length=t.bx.length:=hr.bx.len
 refine hk σ (.c (.b s.bx.length 0)) _ _ _ ⟨⟨[],by simp⟩,by simp⟩ (hr.box (b := .live T l) ⟨_,h1.sc _,rfl⟩) ?_ h4;exact .inl ⟨.bx t.bx.length 0,⟨by rw[hl];simp,by rw[hl]⟩,rfl⟩
theorem zSU (tmp:Bool) (T n:Nat) (z:List Value) (parts:List (Nat×Nat×Operand)):LS P (.mkSl tmp T n z parts) (zQe tmp T n z parts):=fun {σ s t y K k} hr h hk=>by
 obtain⟨l,h1,h2⟩:=zry σ h;show zaC (z.map SC.v) _
 rw[zad];refine zD5 hr.fr (fun l cs hl h3=>?_) h2 (h1.sc _);rw[zD7] at h3;rw[zq2];have hlen:s.bx.length=t.bx.length:=hr.bx.len
 have hr':=hr.box (b := .live T l) ⟨cs,hl,rfl⟩;cases tmp with
 | true=>
  have h4:K (.sl s.bx.length n) _=some y:=h3;show k (.sl t.bx.length n) _
  exact hk σ (.sl s.bx.length n) _ _ _ ⟨⟨[],by simp⟩,by simp⟩ hr' ⟨by rw[hlen];simp,by rw[hlen]⟩ h4
 | false=>
  have h4:pub s.bx.length _ (fun a s''=>K (.c (.l a 0 n n)) s'')=some y:=h3;rw[hlen] at h4;refine zKC h4 hr' fun σ' a e s' t' hx hr'' he h5=>?_
  exact hk σ' (.c (.l a 0 n n)) _ s' t' (Ext.trans ⟨⟨[],by simp⟩,by simp⟩ hx) hr'' (zbk (by simp[C.val,he])) h5
theorem zOj {ob:O} {o:Nat} {vs:List C} {K:O→R} (h:ob.wr o vs K=some y) {e:E} {M:Mem} (ho:OR σ e ob M) (hvs:vs≠[]∨e.nil=false) {ws:List Value} (hw:All2 (CR σ) vs ws) :
  ∃ ob' T cs,e.nil=false∧M.cells e.addr=some (T,cs)∧o+ws.length≤cs.length∧OR σ e ob' (M.setCells e.addr T (splice cs o ws))∧K ob'=some y:=by
 cases ob with
 | row T l=>
  obtain⟨h0,us,h1,h2⟩:=ho;obtain⟨h3,h4⟩:=zwO h;refine⟨.row T (splice l o vs),T,us,h0,by simp[Mem.cells,h2],by rw[←hw.len,←h1.len];exact h3,⟨h0,_,h1.splice hw o,by simp[Mem.setCells,Mem.upd]⟩,h4⟩
 | gr T z l=>
  obtain⟨us,h1,h2⟩:=ho;obtain⟨h3,h4⟩:=zwO h;rcases h2 with ⟨hn,rfl, -⟩|⟨h0,h2,h5⟩
  ·exfalso;rcases hvs with hvs|hvs
   ·apply hvs;cases vs
    ·rfl
    ·simp at h3
   ·rw[hn] at hvs;cases hvs
  ·have hlen:=h1.len;have hwl:=hw.len
   have hsp:splice (us++e.sp) o ws=splice us o ws++e.sp:=by
    unfold splice;rw[List.take_append_of_le_length (by omega),List.drop_append_of_le_length (by omega)];simp
   refine⟨.gr T z (splice l o vs),T,us++e.sp,h0,by simp[Mem.cells,h2],by rw[List.length_append];omega,⟨_,h1.splice hw o,.inr ⟨h0,?_,?_⟩⟩,h4⟩
   ·rw[←hsp];simp[Mem.setCells,Mem.upd]
   ·rw[←hsp,zpL _ _ _ (by rw[List.length_append];omega)];exact h5
 | _=>cases h
theorem zD8 {M:Mem} {b:Nat} {T:TypeId} {l:List Value}:∀ x,x≠b→M.setCells b T l x=M x:=fun x hx=>by simp[Mem.setCells,Mem.upd,hx]
theorem zOk {l:List C} {cs:List SC} (h:All2 (SCR σ nb) l cs):cs.all zBh=true:=by
 induction l generalizing cs with
 | nil=>cases cs with
  | nil=>rfl
  | cons _ _=>exact h.elim
 | cons c l ih=>cases cs with
  | nil=>exact h.elim
  | cons x cs=>
   rw[List.all_cons,ih h.2,Bool.and_true];cases c with
   | b j o=>obtain⟨-, rfl⟩:=h.1;rfl
   | _=>obtain⟨v,h1,rfl⟩:=h.1;exact CR.one h1
theorem zRs (n:Nat) (p x:Operand):LS P (.store n p x) (zMD n p x):=fun {σ s t y K k} hr h hk=>by
 refine z7 h hr.fr fun v sv _ hv h1=>?_
 obtain⟨l,cs,h2,h3,h4⟩:=zwQ h1 hv;rw[h2];rw[zb4] at h4;obtain⟨h5,h6⟩:=zx h4;have hn:=Nat.eq_of_beq_eq_true h5
 show oneC (cs.all zBh) _;rw[zOk h3];refine zxq h6 hr.fr hr.bx (fun j o T l' cs' hj hj' hl h7=>?_) (fun a o e he h7=>?_)
 ·obtain⟨h8,h9⟩:=zwO h7;rw[zI9 (by rw[←h3.len];exact hn) (by rw[←hl.len,←hn];exact h8)];show zaC _ _
  rw[zad,hj'];show t.setK j (.live T _) _
  rw[zIZ];rcases zCv h9 hr.bx with ⟨T',l2,cs2,h10,h11, -, h12⟩|⟨a,e,h10, -, -, h12⟩
  ·rw[hj] at h10;cases h10;obtain⟨h13,h14⟩:=zM9 h12
   have hS:SR σ ⟨s.nl,s.tl,s.L,s.bx.set j (.live T (splice l' o l)),s.n,s.H,s.g⟩ { t with bx:=t.bx.set j (.live T (splice cs' o cs)) }:=by
    refine⟨hr.n,?_,?_,hr.h⟩
    ·simp only[List.length_set];exact hr.fr.same rfl rfl rfl
    ·simp only[List.length_set];exact hr.bx.set (b := .live T (splice cs' o cs)) (a := .live T (splice l' o l)) ⟨_,hl.splice h3 o,rfl⟩
   exact hk σ .dead .dead _ _ ⟨⟨[],by simp⟩,by simp⟩ hS rfl h14
  ·cases h12
 ·obtain⟨h7',h7⟩:=zx h7;refine znd (by rw[←h3.len];exact hn) (zoZ h7 hr h3 fun σ' l' vs s' t' hx hr' hl' hlen h8=>?_);obtain⟨ob,h9,h10,h11⟩:=zdo h8;obtain⟨e',he',ho⟩:=hr'.h.has a ob h10;rw[zpB hx he] at he';cases he'
  have hvs:l'≠[]:=fun h=>by
   have:0<n:=by simpa[Nat.blt_eq] using h7'
   rw[h] at hlen;simp at hlen;omega
  obtain⟨ob',T,cs',h0,h12,h13,h14,h15⟩:=zOj h11 ho (.inl hvs) hl';rw[zi2] at h15;obtain⟨fr,bx,M⟩:=t';show onO (M.cells e.addr) _
  rw[h12]
  refine⟨by have:vs.length=n:=by rw[←hl'.len,hlen];exact hn
            rw[this] at h13;exact h13,?_⟩
  exact hk σ' .dead .dead _ _ (Ext.trans hx ⟨⟨[],by simp⟩,Nat.le_refl _⟩) (hr'.heap (hr'.h.upd h10 (zpB hx he) zD8 h0 h14)) rfl h15
theorem zOl {b:List Nat} {K:List C→R} (h:(List.rec (motive:=fun _=>(List C→R)→R) (fun K=>K []) (fun x _ ih K=>cB (Nat.blt x 256) (ih fun r=>K (.n .u8 (.ofNat x)::r)) fail) b K:R)=some y) :
  (∀ x∈b,x<256)∧K (b.map fun x:Nat=>C.n .u8 (.ofNat x))=some y:=by
 induction b generalizing K with
 | nil=>exact⟨by simp,h⟩
 | cons x r ih=>
  obtain⟨h1,h2⟩:=zx (b:=Nat.blt x 256) h;obtain⟨h3,h4⟩:=ih h2;refine⟨?_,h4⟩;intro z hz;rcases List.mem_cons.1 hz with rfl|hz
  ·simpa[Nat.blt_eq] using h1
  ·exact h3 z hz
theorem zIG {b:List Nat} (hb:∀ x∈b,x<256):All2 (CR σ) (b.map fun x:Nat=>C.n .u8 (.ofNat x)) (byteCells (zaf b)):=by
 unfold byteCells zaf;simp only
 induction b with
 | nil=>trivial
 | cons x r ih=>
  refine⟨?_,ih fun z hz=>hb z (List.mem_cons_of_mem _ hz)⟩;have:(UInt8.ofNat x).toNat=x:=by simp[Nat.mod_eq_of_lt (hb x (by simp))]
  simp[CR,C.val,this]
theorem zQx {size:Nat} {v:V} {sv:SV} {K:Nat→List C→S→R} (h:src size v s K=some y) (hr:SR σ s t) (hv:VR σ t.bx.length v sv) {k:Nat→List Value→St→Prop}
  (hk:∀ σ' n l vs s' t',Ext σ t σ' t'→SR σ' s' t'→All2 (CR σ') l vs→vs.length=n*size→K n l s'=some y→k n vs t'):zvA size sv t k:=by
 have heap:∀ {a o n:Nat} {q:Option Addr} {c:Nat} {e:E},sv = .slice q n c→σ[a]? = some e→(q=some ⟨e.addr,o,none⟩∨n=0)→(row s a o (n*size) fun l=>K n l s)=some y→zvA size sv t k:=fun {a o n q c e} hsv he hq h1=>by
  obtain⟨l,vs,e',h4,h5,h6,h7,h8⟩:=zCx h1 hr.q;rw[he] at h4;cases h4;subst hsv;obtain⟨fr,bx,M⟩:=t;have hl:vs.length=n*size:=by rw[←h6.len];exact h5
  refine⟨vs,⟨hl,?_⟩,hk σ n l vs s _ Ext.rfl' hr h6 hl h7⟩;rcases h8 with h8|h8
  ·left;rw[h8] at hl;exact List.length_eq_zero_iff.1 hl
  ·rcases hq with rfl|rfl
   ·exact .inr ⟨_,_,rfl,h8⟩
   ·left;rw[Nat.zero_mul] at hl;exact List.length_eq_zero_iff.1 hl
 have nil0:∀ {q:Option Addr} {c:Nat},sv = .slice q 0 c→K 0 [] s=some y→zvA size sv t k:=fun {q c} hsv h1=>by
  subst hsv;obtain⟨fr,bx,M⟩:=t;exact⟨[],⟨by simp,.inl rfl⟩,hk σ 0 [] [] s _ Ext.rfl' hr trivial (by simp) h1⟩
 unfold src at h;split at h
 ·rename_i j n;obtain⟨-, rfl⟩:=hv;show zNQ size n (zi4 t.bx j) t k
  rcases zCv h hr.bx with ⟨T,l,cs,h1,h2,h3,h4⟩|⟨a,e, -, -, -, h4⟩
  ·rw[h2];rw[zb4] at h4;obtain⟨h5,h6⟩:=zx h4;have h7:=Nat.eq_of_beq_eq_true h5
   refine znd (by rw[←h3.len];exact h7) (zoZ h6 hr h3 fun σ' l' vs s' t' hx hr' hl' hlen h8=>?_);exact hk σ' n l' vs s' t' hx hr' hl' (by rw[←hl'.len,hlen];exact h7) h8
  ·cases h4
 ·exact nil0 (hv.val rfl (by simp)) h
 ·obtain⟨sc,h5,rfl⟩:=hv.cc (by simp);obtain⟨w,h5,rfl⟩:=h5;simp only[C.val,Option.bind_eq_some_iff] at h5;obtain⟨e,h6,h7⟩:=h5;split at h7
  ·cases h7;exact nil0 rfl h
  ·cases h7
 ·obtain⟨sc,h5,rfl⟩:=hv.cc (by simp);obtain⟨w,h5,rfl⟩:=h5;simp only[C.val,Option.map_eq_some_iff] at h5;obtain⟨e,h6,rfl⟩:=h5;exact heap rfl h6 (.inl rfl) h
 ·obtain⟨sc,h5,rfl⟩:=hv.cc (by simp);obtain⟨w,h5,rfl⟩:=h5;simp only[C.val,Option.bind_eq_some_iff] at h5;obtain⟨e,h6,h7⟩:=h5;split at h7<;>split at h7
  ·rename_i hc;cases h7;obtain⟨rfl, -, -⟩:=hc;exact heap rfl h6 (.inr rfl) h
  ·cases h7
  ·cases h7;exact heap rfl h6 (.inl rfl) h
  ·cases h7
 ·obtain⟨h1,h2⟩:=zx h;rw[zb4] at h2;obtain⟨h3,h4⟩:=zOl h2;rw[hv.val rfl (by simp)];have hsz:size=1:=Nat.eq_of_beq_eq_true h1
  subst hsz;rename_i b;have hs:(zaf b).size=b.length:=by simp[zaf,ByteArray.size]
  dsimp only [zvA];refine znd rfl ?_;rw[hs];exact hk σ b.length _ _ s t Ext.rfl' hr (zIG h3) (by rw[byteCells_length,hs];simp) h4
 ·cases h
end
end Go.Vm.Rn
