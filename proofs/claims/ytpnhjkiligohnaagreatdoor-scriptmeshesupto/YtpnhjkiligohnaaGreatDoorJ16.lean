/- Part of this proof;laid by program. -/
import Derived.Test.YtpnhjkiligohnaaGreatDoorJ15
set_option linter.unusedVariables false
set_option linter.unusedSimpArgs false
namespace Go.Vm.Rn
open Go.Vm
set_option linter.unusedVariables false
section
section
variable {σ:List E} {s:S} {t:St} {y:Out} {nb:Nat}
theorem zn4 (k:IntKind) {n:Nat} (h:n<lim k):k.wrap (n:Int)=n:=by
 cases k<;>simp only[lim] at h<;>simp only[IntKind.wrap,IntKind.bits,IntKind.signed]<;>simp<;>omega
theorem zLl (k:IntKind):∃ m,lim k=2 ^ m∧m≤k.bits:=by
 cases k
 ·exact⟨7,rfl,by decide⟩
 ·exact⟨15,rfl,by decide⟩
 ·exact⟨31,rfl,by decide⟩
 ·exact⟨63,rfl,by decide⟩
 ·exact⟨8,rfl,by decide⟩
 ·exact⟨16,rfl,by decide⟩
 ·exact⟨32,rfl,by decide⟩
 ·exact⟨64,rfl,by decide⟩
theorem ztc (k:IntKind) (n:Int):VR σ nb (.c (.n k n)) (.int k n):=zaS rfl
section
variable {k:SV→Prop} {K:V→R} (hk:∀ v sv,VR σ nb v sv→K v=some y→k sv)
include hk
theorem zmX {q:IntKind} {r:Int} (h:kI q r K=some y):k (.int q r):=by
 unfold kI at h;rw[zKh] at h;exact hk _ _ (ztc q r) h
theorem ztQ {q:IntKind} {r:Int} (h:arith q r K=some y):Vm.arith q r k:=by
 unfold Vm.arith;cases r with
 | ofNat n=>
  have h':(Bool.rec (match q.signed with|true=>fail|false=>kI q (q.wrap (.ofNat n)) K) (fN (fun n'=>K (.c (.n q (.ofNat n')))) n) (Nat.blt n (lim q)):R)=some y:=h;cases hb:Nat.blt n (lim q) with
  | true=>
   rw[hb,fN_eq] at h';have hw:q.wrap (Int.ofNat n)=Int.ofNat n:=zn4 q (by simpa[Nat.blt_eq] using hb)
   have h3:=hk _ _ (ztc q (.ofNat n)) h';split
   ·exact⟨by rw[hw];exact h3⟩
   ·rw[hw];exact h3
  | false=>
   rw[hb] at h';have h'':(match q.signed with|true=>fail|false=>kI q (q.wrap (.ofNat n)) K)=some y:=h'
   cases hs:q.signed
   ·rw[hs] at h'';exact zmX hk h''
   ·rw[hs] at h'';cases h''
 | negSucc n=>
  have h':(match q.signed with|true=>cB (decide (q.wrap (.negSucc n) = .negSucc n)) (kI q (.negSucc n) K) fail|false=>kI q (q.wrap (.negSucc n)) K)=some y:=h;cases hs:q.signed
  ·rw[hs] at h';exact zmX hk h'
  ·rw[hs] at h';obtain⟨h1,h2⟩:=zr h';exact⟨by rw[(Zd0 h1:q.wrap (.negSucc n) = .negSucc n)];exact zmX hk h2⟩
omit hk in
theorem zH3 {q:IntKind} {a b:Nat} (ha:a<lim q) (hb:b<lim q) :
  za3 .and q a b=((Nat.land a b:Nat):Int)∧za3 .or q a b=((Nat.lor a b:Nat):Int)∧za3 .xor q a b=((Nat.xor a b:Nat):Int):=by
 obtain⟨m,hm,hmb⟩:=zLl q;have hp:2 ^ m≤2 ^ q.bits:=Nat.pow_le_pow_right (by decide) hmb
 have ea:(BitVec.ofInt q.bits (a:Int))=BitVec.ofNat q.bits a:=BitVec.ofInt_natCast ..;have eb:(BitVec.ofInt q.bits (b:Int))=BitVec.ofNat q.bits b:=BitVec.ofInt_natCast ..
 rw[hm] at ha hb;have ma:a % 2 ^ q.bits=a:=Nat.mod_eq_of_lt (by omega)
 have mb:b % 2 ^ q.bits=b:=Nat.mod_eq_of_lt (by omega);refine⟨?_,?_,?_⟩
 ·unfold za3;simp only[ea,eb,BitVec.toNat_and,BitVec.toNat_ofNat,ma,mb];exact zn4 q (by rw[hm];exact Nat.and_lt_two_pow a hb)
 ·unfold za3;simp only[ea,eb,BitVec.toNat_or,BitVec.toNat_ofNat,ma,mb];exact zn4 q (by rw[hm];exact Nat.or_lt_two_pow ha hb)
 ·unfold za3;simp only[ea,eb,BitVec.toNat_xor,BitVec.toNat_ofNat,ma,mb];exact zn4 q (by rw[hm];exact Nat.xor_lt_two_pow ha hb)
theorem zAC {op:BinOp} (ho:op = .and∨op = .or∨op = .xor∨op = .andNot) {q:IntKind} {a b:Int} (h:bop op q a b K=some y):k (.int q (za3 op q a b)):=by
 unfold bop at h;split at h
 ·obtain⟨h1,h2⟩:=zr h;obtain⟨h3,h4⟩:=zr h2;obtain⟨e1,e2,e3⟩:=zH3 (by simpa[Nat.blt_eq] using h1) (by simpa[Nat.blt_eq] using h3);rcases ho with rfl|rfl|rfl|rfl
  ·simp only[fN_eq] at h4;have:=hk _ _ (ztc q _) h4
   show k (.int q (za3 .and q (_:Nat) (_:Nat)));rw[e1];exact this
  ·simp only[fN_eq] at h4;have:=hk _ _ (ztc q _) h4
   show k (.int q (za3 .or q (_:Nat) (_:Nat)));rw[e2];exact this
  ·simp only[fN_eq] at h4;have:=hk _ _ (ztc q _) h4
   show k (.int q (za3 .xor q (_:Nat) (_:Nat)));rw[e3];exact this
  ·exact zmX hk h4
 ·exact zmX hk h
omit hk in
theorem zlO (a b:Int):zkR a b=decide (a≤b):=by
 cases a with
 | ofNat a=>cases b with
  | ofNat b=>
   show Nat.ble a b=_;cases hb:Nat.ble a b
   ·have:¬a≤b:=fun h=>by rw[Nat.ble_eq_true_of_le h] at hb;cases hb
    symm;apply decide_eq_false;simp;omega
   ·have:=Nat.le_of_ble_eq_true hb;symm;apply decide_eq_true;simp;omega
  | negSucc b=>show false=_;symm;apply decide_eq_false;simp;omega
 | negSucc a=>cases b with
  | ofNat b=>show true=_;symm;apply decide_eq_true;simp;omega
  | negSucc b=>
   show Nat.ble b a=_;cases hb:Nat.ble b a
   ·have:¬b≤a:=fun h=>by rw[Nat.ble_eq_true_of_le h] at hb;cases hb
    symm;apply decide_eq_false;rw[Int.negSucc_eq,Int.negSucc_eq];omega
   ·have:=Nat.le_of_ble_eq_true hb;symm;apply decide_eq_true;rw[Int.negSucc_eq,Int.negSucc_eq];omega
omit hk in
theorem ztd (a b:Nat):Nat.beq a b=decide (a=b):=by
 cases h:Nat.beq a b
 ·symm;apply decide_eq_false;intro e;subst e;simp at h
 ·symm;apply decide_eq_true;exact Nat.eq_of_beq_eq_true h
omit hk in
theorem znr (a b:Int):zmW a b=decide (a=b):=by
 cases a<;>cases b<;>simp[zmW,ztd]<;>omega
omit hk in
theorem zDa (a b:Int):zBd a b=a+b:=by cases a<;>cases b<;>rfl
omit hk in
theorem zDb (a b:Int):zHQ a b=a - b:=by
 cases a with
 | ofNat a=>cases b with
  | ofNat b=>
   show (Bool.rec (.negSucc (b - a - 1)) (.ofNat (a - b)) (Nat.ble b a):Int)=_;cases hb:Nat.ble b a
   ·have:¬b≤a:=fun h=>by rw[Nat.ble_eq_true_of_le h] at hb;cases hb
    show Int.negSucc (b - a - 1)=_;rw[Int.negSucc_eq];simp only[Int.ofNat_eq_natCast];omega
   ·have:=Nat.le_of_ble_eq_true hb;show Int.ofNat (a - b)=_
    simp only[Int.ofNat_eq_natCast];omega
  | negSucc b=>rfl
 | negSucc a=>cases b<;>rfl
omit hk in
theorem zLm (a b:Int):zMD a b=a*b:=by cases a<;>cases b<;>rfl
omit hk in
theorem zLn (a b:Int):zME a b=a.tdiv b:=by cases a<;>cases b<;>rfl
omit hk in
theorem zLo (a b:Int):zMF a b=a.tmod b:=by cases a<;>cases b<;>rfl
omit hk in
theorem zKn {b:Bool} {e:R} (h:cB b fail e=some y):b=false∧e=some y:=by cases b<;>simp_all [cB,fail]
theorem zBw {op:BinOp} {q:IntKind} {a b:Int} (h:ibin op q a b K=some y):Vm.ibin op q a b k:=by
 unfold ibin at h;unfold Vm.ibin;cases op<;>simp only[zDa,zDb,zLm,zLn,zLo,znr,zlO,zpb] at h ⊢
 case add=>exact ztQ hk h
 case sub=>exact ztQ hk h
 case mul=>exact ztQ hk h
 case quo=>
  obtain⟨h1,h2⟩:=zKn h;exact⟨Zd1 h1,ztQ hk h2⟩
 case rem=>
  obtain⟨h1,h2⟩:=zKn h;exact⟨Zd1 h1,zmX hk h2⟩
 case and=>exact zAC hk (.inl rfl) h
 case or=>exact zAC hk (.inr (.inl rfl)) h
 case xor=>exact zAC hk (.inr (.inr (.inl rfl))) h
 case andNot=>exact zAC hk (.inr (.inr (.inr rfl))) h
 case eql=>exact hk _ _ zfk h
 case neq=>exact hk _ _ zfk h
 case lss=>exact hk _ _ (by rw[show decide (a<b) = !decide (b≤a) by simp[←Int.not_le]];exact zfk) h
 case leq=>exact hk _ _ zfk h
 case gtr=>exact hk _ _ (by rw[show decide (b<a) = !decide (a≤b) by simp[←Int.not_le]];exact zfk) h
 case geq=>exact hk _ _ zfk h
 case shl=>
  obtain⟨h1,h2⟩:=zr h;exact⟨Zd0 h1,zmX hk h2⟩
 case shr=>
  obtain⟨h1,h2⟩:=zr h;refine⟨Zd0 h1,?_⟩;cases a with
  | ofNat a=>
   simp only[fN_eq] at h2;have h3:=hk _ _ (ztc q _) h2
   have e:(Int.ofNat a).fdiv (2 ^ (min b.toNat q.bits))=Int.ofNat (a / 2 ^ (min b.toNat q.bits)):=by
    have:=Int.fdiv_eq_ediv_of_nonneg (Int.ofNat a) (b:=2 ^ (min b.toNat q.bits)) (Int.pow_nonneg (by decide));rw[this];show ((a:Int) / 2 ^ _)=((a / 2 ^ _:Nat):Int)
    simp
   rw[e];exact h3
  | negSucc a=>exact zmX hk h2
end
theorem zLp {op:BinOp} {q q':IntKind} {A:R} (h:sameK op q q' A=some y) {B:Prop} (hk:A=some y→B):Vm.sameK op q q' B:=by
 unfold sameK at h;unfold Vm.sameK
 cases op<;>first
  | exact hk h
  | (obtain⟨h1,h2⟩:=zr h
     simp only[h1]
     exact hk h2)
theorem VR.x {σ:List E} {nb:Nat} {a:Nat} {d lo hi:Int} {sv:SV} (h:VR σ nb (.c (.xx a d lo hi)) sv):∃ e n,σ[a]? = some e∧e.sp=[.int .i64 n]∧lo≤n+d∧n+d≤hi∧sv = .int .i64 (n+d):=by
 obtain⟨sc,⟨v,h1,rfl⟩,rfl⟩:=h.cc (fun b e=>by cases e);obtain⟨e,n,h2,h3,h4,h5,rfl⟩:=C.val_xx h1;exact⟨e,n,h2,h3,h4,h5,rfl⟩
theorem zpF (a b:Int):ilt a b=decide (a<b):=by
 unfold ilt;rw[zlO,←decide_not];congr 1;simp[Int.not_le]
theorem ztR {t f r:Bool} {K:V→R} {y:Out} (h:tri t f K=some y) (h1:t=true→r=true) (h2:f=true→r=false):K (.c (.t r))=some y:=by
 cases t with
 | true=>rw[h1 rfl];exact h
 | false=>cases f with
  | true=>rw[h2 rfl];exact h
  | false=>cases h
theorem zKo {σ:List E} {nb:Nat} {op:BinOp} {a:Nat} {d lo hi b:Int} {y:Out} {K:V→R} {k:SV→Prop} (h:xop op a d lo hi b K=some y) (hk:∀ v sv,VR σ nb v sv→K v=some y→k sv)
  {e:E} {n:Int} (he:σ[a]? = some e) (hn:e.sp=[.int .i64 n]) (h1:lo≤n+d) (h2:n+d≤hi):(Vm.ibin op .i64 (n+d) b k)∧(op = .add∨op = .eql∨op = .neq∨op = .lss∨op = .leq∨op = .gtr∨op = .geq∨op = .sub):=by
 have key:∀ {c:Int},zD6 a d lo hi c K=some y→Vm.arith .i64 (n+d+c) k:=fun {c} h=>by
  unfold zD6 at h;simp only[zKh,zDa,zlO] at h;obtain⟨h3,h⟩:=zr h;obtain⟨h4,h⟩:=zr h;have h3:=Zd0 h3
  have h4:=Zd0 h4;refine⟨?_⟩;have hw:IntKind.i64.wrap (n+d+c)=n+d+c:=by rw[IntKind.wrap_i64];omega
  rw[hw];refine hk _ _ (zaS ?_) h;simp only[C.val,he,Option.bind_some,hn];rw[if_pos ⟨by omega,by omega⟩,Int.add_assoc]
 cases op<;>simp only[xop] at h<;>first
  | (cases h;done)
  | skip
 case add=>exact⟨key h,by simp⟩
 case sub=>
  refine⟨?_,by simp⟩;have:=key h
  rw[zDb] at this;show Vm.arith .i64 (n+d - b) k
  rwa [show n+d - b=n+d+(0 - b) by omega]
 case eql=>
  refine⟨hk _ _ zfk (ztR h (fun h=>by cases h) fun h=>?_),by simp⟩;simp only[zpF,Bool.or_eq_true,decide_eq_true_eq] at h;exact decide_eq_false (by omega)
 case neq=>
  refine⟨hk _ _ zfk (ztR h (fun h=>?_) fun h=>by cases h),by simp⟩;simp only[zpF,Bool.or_eq_true,decide_eq_true_eq] at h;simp only[Bool.not_eq_true',decide_eq_false_iff_not];omega
 case lss=>
  refine⟨hk _ _ zfk (ztR h (fun h=>?_) fun h=>?_),by simp⟩<;>simp only[zpF,zlO,decide_eq_true_eq,decide_eq_false_iff_not] at h ⊢ <;> omega
 case leq=>
  refine⟨hk _ _ zfk (ztR h (fun h=>?_) fun h=>?_),by simp⟩<;>simp only[zpF,zlO,decide_eq_true_eq,decide_eq_false_iff_not] at h ⊢ <;> omega
 case gtr=>
  refine⟨hk _ _ zfk (ztR h (fun h=>?_) fun h=>?_),by simp⟩<;>simp only[zpF,zlO,decide_eq_true_eq,decide_eq_false_iff_not] at h ⊢ <;> omega
 case geq=>
  refine⟨hk _ _ zfk (ztR h (fun h=>?_) fun h=>?_),by simp⟩<;>simp only[zpF,zlO,decide_eq_true_eq,decide_eq_false_iff_not] at h ⊢ <;> omega
theorem zDc {q:IntKind} (h:zD7 q=true):q = .i64:=by cases q<;>first|rfl|cases h
theorem zGM (op:BinOp) (x y:Operand):QS (.ibin op x y) (zD8 op x y):=fun {σ nb s t z K k} hq h hk=>by
 refine zW h hq.fr fun u su _ hu h1=>?_
 unfold xl at h1;split at h1
 ·rename_i a d lo hi;obtain⟨e,n,he,hn,h3,h4,rfl⟩:=hu.x;refine zdc h1 hq.fr fun q b h2=>?_
  obtain⟨h5,h6⟩:=zr h2;cases zDc h5;obtain⟨h5,h6⟩:=zKo h6 hk he hn h3 h4;rcases h6 with rfl|rfl|rfl|rfl|rfl|rfl|rfl|rfl<;>exact h5
 ·refine zEs h1 hu fun q a h2=>zW h2 hq.fr fun v sv _ hv h3=>?_
  unfold xr at h3;split at h3
  ·rename_i c0 d lo hi;obtain⟨h4,h5⟩:=zr h3;cases zDc h4;obtain⟨e,n,he,hn,h6,h7,rfl⟩:=hv.x;obtain⟨h8,h9⟩:=zKo h5 hk he hn h6 h7;show Vm.sameK op .i64 .i64 (Vm.ibin op .i64 a _ k)
   generalize n+_=m at *
   cases op<;>simp[zJ9] at h9 h8<;>simp only[Vm.ibin] at h8<;>simp only[Vm.sameK,Vm.ibin,decide_true]<;>first
    | (rw[Int.add_comm];exact h8)
    | exact h8
    | (rw[show decide (a=m)=decide (m=a) from decide_eq_decide.2 eq_comm];exact h8)
  ·exact zEs h3 hv fun q' b h4=>zLp h4 fun h5=>zBw hk h5
theorem zGN (q:IntKind) (x:Operand):QS (.conv q x) (zEb q x):=fun {σ nb s t z K k} hq h hk=>by
 refine zdc h hq.fr fun q' n h1=>?_
 split at h1
 ·rename_i m;cases hb:Nat.blt m (lim q) with
  | true=>
   rw[hb] at h1;have hw:q.wrap (Int.ofNat m)=Int.ofNat m:=zn4 q (by simpa[Nat.blt_eq] using hb)
   show k (.int q (q.wrap (Int.ofNat m)));rw[hw];exact hk _ _ (ztc q _) h1
  | false=>rw[hb] at h1;exact zmX hk h1
 ·exact zmX hk h1
theorem zGO (x:Operand):QS (.uneg x) (zEj x):=fun {σ nb s t z K k} hq h hk=>zdc h hq.fr fun _ _ h1=>zBw hk h1
theorem zGP (x:Operand):QS (.ucom x) (zEk x):=fun {σ nb s t z K k} hq h hk=>zdc h hq.fr fun _ _ h1=>zBw hk h1
theorem zKp (mx:Bool) (x y:Operand):QS (.imm mx x y) (zHU mx x y):=fun {σ nb s t z K k} hq h hk=>by
 refine zdc h hq.fr fun q a h1=>zdc h1 hq.fr fun q' b h2=>?_
 cases mx
 ·exact zmX hk h2
 ·exact zmX hk h2
theorem zlP {a:List Nat} (h:ziw a=true):∀ x∈a,x<256:=by
 induction a with
 | nil=>simp
 | cons x r ih=>
  have h':(Bool.rec false (ziw r) (Nat.blt x 256):Bool)=true:=h;cases hb:Nat.blt x 256 with
  | false=>rw[hb] at h';cases h'
  | true=>
   rw[hb] at h';intro y hy;rcases List.mem_cons.1 hy with rfl|hy
   ·simpa[Nat.blt_eq] using hb
   ·exact ih h' y hy
theorem zpG:∀ a b:List Nat,zrb a b=decide (a=b)
 | [],[]=>rfl
 | [],_::_=>rfl
 | _::_,[]=>rfl
 | x::a,y::b=>by
  show (Bool.rec false (zrb a b) (Nat.beq x y):Bool)=_;rw[zpG a b,ztd];by_cases h:x=y
  ·subst h;simp
  ·simp[h]
theorem zwn {a b:List Nat} (ha:∀ x∈a,x<256) (hb:∀ x∈b,x<256):zab a=zab b↔a=b:=by
 constructor
 ·intro h;unfold zab at h;simp only[ByteArray.mk.injEq] at h;have h':=congrArg Array.toList h
  simp only[List.toList_toArray] at h';have h2:=congrArg (List.map UInt8.toNat) h'
  rw[List.map_map,List.map_map] at h2
  have key:∀ l:List Nat,(∀ x∈l,x<256)→l.map (UInt8.toNat∘UInt8.ofNat)=l:=fun l hl=>by
   conv=>rhs;rw[←List.map_id l]
   exact List.map_congr_left fun x hx=>by simp[Nat.mod_eq_of_lt (hl x hx)]
  rwa [key a ha,key b hb] at h2
 ·rintro rfl;rfl
theorem zMS {op:BinOp} {a b:List Nat} {K:V→R} (h:strT op a b K=some y) {k:SV→Prop} (hk:∀ v sv,VR σ nb v sv→K v=some y→k sv):Vm.strT op (zab a) (zab b) k:=by
 unfold strT at h;split at h
 ·obtain⟨h1,h2⟩:=zr h;rw[Bool.and_eq_true] at h1;rw[zpb,zpG] at h2;show k (.sb (decide (zab a=zab b)))
  rw[show decide (zab a=zab b)=decide (a=b) from decide_eq_decide.2 (zwn (zlP h1.1) (zlP h1.2))];exact hk _ _ zfk h2
 ·obtain⟨h1,h2⟩:=zr h;rw[Bool.and_eq_true] at h1;rw[zpb,zpG] at h2;show k (.sb (!decide (zab a=zab b)))
  rw[show decide (zab a=zab b)=decide (a=b) from decide_eq_decide.2 (zwn (zlP h1.1) (zlP h1.2))];exact hk _ _ zfk h2
 ·obtain⟨h1,h2⟩:=zr h;rw[zj5] at h2;have hs:∀ l:List Nat,(zab l).size=l.length:=fun l=>by simp[zab,ByteArray.size]
  refine⟨?_,?_⟩
  ·rw[hs,hs];exact Nat.le_of_ble_eq_true h1
  ·have e:zab a++zab b=zab (a++b):=by
    apply ByteArray.ext;simp[zab]
   rw[e];exact hk _ _ (zaS rfl) h2
 ·cases h
theorem zGQ (op:BinOp) (x y:Operand):QS (.strE op x y) (zEd op x y):=fun {σ nb s t z K k} hq h hk=>by
 refine zW h hq.fr fun v sv _ hv h1=>?_
 obtain⟨a,rfl,h2⟩:=znq h1 hv;refine zW h2 hq.fr fun v sv _ hv h3=>?_
 obtain⟨b,rfl,h4⟩:=znq h3 hv;exact zMS h4 hk
theorem zBx:∀ {l:List C} {K:List Nat→R},zs8 l K=some y→∃ b,l=b.map (fun x:Nat=>C.n .u8 (.ofNat x))∧(∀ x∈b,x<256)∧K b=some y
 | [],K,h=>⟨[],rfl,by simp,h⟩
 | .n .u8 (.ofNat x)::l,K,h=>by
  have h':cB (Nat.blt x 256) (zs8 l fun r=>K (x::r)) fail=some y:=h;obtain⟨h1,h2⟩:=zr h';obtain⟨b,h3,h4,h5⟩:=zBx h2;refine⟨x::b,by rw[h3];rfl,?_,h5⟩;intro z hz;rcases List.mem_cons.1 hz with rfl|hz
  ·simpa[Nat.blt_eq] using h1
  ·exact h4 z hz
 | .n .u8 (.negSucc _)::_,_,h=>by cases h
 | .n .i8 _::_,_,h=>by cases h
 | .n .i16 _::_,_,h=>by cases h
 | .n .i32 _::_,_,h=>by cases h
 | .n .i64 _::_,_,h=>by cases h
 | .n .u16 _::_,_,h=>by cases h
 | .n .u32 _::_,_,h=>by cases h
 | .n .u64 _::_,_,h=>by cases h
 | .t _::_,_,h=>by cases h
 | .s _::_,_,h=>by cases h
 | .p _ _::_,_,h=>by cases h
 | .np::_,_,h=>by cases h
 | .l _ _ _ _::_,_,h=>by cases h
 | .g _ _ _ _::_,_,h=>by cases h
 | .nl::_,_,h=>by cases h
 | .m _::_,_,h=>by cases h
 | .nm::_,_,h=>by cases h
 | .b _ _::_,_,h=>by cases h
 | .f _::_,_,h=>by cases h
 | .fm _ _ _::_,_,h=>by cases h
 | .h _ _ _ _ _ _::_,_,h=>by cases h
 | .ni::_,_,h=>by cases h
 | .nf::_,_,h=>by cases h
 | .xx _ _ _ _::_,_,h=>by cases h
theorem zEv {b:List Nat} (hb:∀ x∈b,x<256) {vs:List Value} (h:All2 (CR σ) (b.map fun x:Nat=>C.n .u8 (.ofNat x)) vs):vs=(b.map UInt8.ofNat).map z7:=by
 induction b generalizing vs with
 | nil=>cases vs with
  | nil=>rfl
  | cons _ _=>exact h.elim
 | cons x r ih=>cases vs with
  | nil=>exact h.elim
  | cons v vs=>
   have h1:some (Value.int .u8 (.ofNat x))=some v:=h.1;cases h1;rw[ih (fun z hz=>hb z (List.mem_cons_of_mem _ hz)) h.2];have:(UInt8.ofNat x).toNat=x:=by simp[Nat.mod_eq_of_lt (hb x (by simp))]
   simp[z7,this]
theorem zDd (x:Operand):QS (.strOf x) (zBj x):=fun {σ nb s t z K k} hq h hk=>by
 refine zW h hq.fr fun v sv _ hv h1=>?_
 have fin:∀ (a o n:Nat) (q:Option Addr) (e:E),σ[a]? = some e→(q=some ⟨e.addr,o,none⟩∨n=0)→(row s a o n fun l=>zs8 l fun b=>K (.c (.s b)))=some z→zbE t.M q n k:=fun a o n q e he hqa hr=>by
  obtain⟨l,vs,e',h4,h5,h6,h7,h8⟩:=zxX hr hq;rw[he] at h4;cases h4;obtain⟨b,rfl,h9,h10⟩:=zBx h7;have h11:=zEv h9 h6
  subst h11;rw[List.length_map] at h5;refine⟨b.map UInt8.ofNat,⟨by simp[h5],?_⟩,hk _ _ (zaS rfl) h10⟩;rcases h8 with rfl|h8
  ·left;cases b<;>simp_all
  ·rcases hqa with rfl|rfl
   ·right;exact⟨_,_,rfl,by simpa using h8⟩
   ·left;cases b<;>simp_all
 obtain⟨c,rfl,h2⟩:=zcE h1;split at h2
 ·rw[hv.val rfl (by simp)];exact⟨[],⟨rfl,.inl rfl⟩,hk _ _ (zaS rfl) h2⟩
 ·obtain⟨sc,h5,rfl⟩:=hv.cc (by simp);obtain⟨w,h5,rfl⟩:=h5;simp only[C.val,Option.bind_eq_some_iff] at h5;obtain⟨e,h6,h7⟩:=h5;split at h7
  ·cases h7;exact⟨[],⟨rfl,.inl rfl⟩,hk _ _ (zaS (x := .s []) rfl) h2⟩
  ·cases h7
 ·obtain⟨sc,h5,rfl⟩:=hv.cc (by simp);obtain⟨w,h5,rfl⟩:=h5;simp only[C.val,Option.map_eq_some_iff] at h5;obtain⟨e,h6,rfl⟩:=h5;exact fin _ _ _ _ e h6 (.inl rfl) h2
 ·obtain⟨sc,h5,rfl⟩:=hv.cc (by simp);obtain⟨w,h5,rfl⟩:=h5;simp only[C.val,Option.bind_eq_some_iff] at h5;obtain⟨e,h6,h7⟩:=h5;split at h7<;>split at h7
  ·rename_i hc;cases h7;obtain⟨rfl, -, -⟩:=hc;exact fin _ _ _ _ e h6 (.inr rfl) h2
  ·cases h7
  ·cases h7;exact fin _ _ _ _ e h6 (.inl rfl) h2
  ·cases h7
 ·cases h2
theorem zGR (x i:Operand):QS (.sidx x i) (zEf x i):=fun {σ nb s t z K k} hq h hk=>by
 refine zW h hq.fr fun v sv _ hv h1=>?_
 obtain⟨a,rfl,h2⟩:=znq h1 hv;refine zdc h2 hq.fr fun q j h3=>?_
 obtain⟨j,rfl,h4⟩:=zfs h3;obtain⟨b,h5,h6⟩:=zpD h4;obtain⟨h7,h8⟩:=zr h6;have hj:=(List.getElem?_eq_some_iff.1 h5).1
 have hs:(zab a).size=a.length:=by simp[zab,ByteArray.size]
 refine⟨⟨by omega,by rw[hs];omega⟩,?_⟩;have hb:b<256:=by simpa[Nat.blt_eq] using h7
 have e:((zab a).toList.getD (j:Int).toNat 0).toNat=b:=by
  rw[ByteArray.toList_eq,Int.toNat_natCast];show ((a.map UInt8.ofNat).getD j 0).toNat=b
  rw[List.getD_eq_getElem?_getD,List.getElem?_map,h5];simp[Nat.mod_eq_of_lt hb]
 rw[e];exact hk _ _ (zaS rfl) h8
theorem zGS (g:Bool) (len size:Nat) (x i:Operand):QS (.aidx g len size x i) (zEg g len size x i):=fun {σ nb s t z K k} hq h hk=>by
 refine zdc h hq.fr fun q j h1=>?_
 obtain⟨j,rfl,hj,h2⟩:=zEu h1;refine⟨⟨by omega,by omega⟩,zW h2 hq.fr fun v sv _ hv h3=>?_⟩;obtain⟨l,cs,rfl,hl,h4⟩:=zxW h3 hv;obtain⟨h5,h6⟩:=zpE h4;rw[Int.toNat_natCast];show onO (Vm.takeC cs (j*size) size) _
 rw[zrd (by rw[←hl.len];exact h5)];exact ztP h6 ((hl.drop _).take _) hk
end
end
section
section
variable {σ:List E} {s:S} {t:St} {y:Out} {nb:Nat}
theorem zxY {x:Option Operand} {d:Int} {K:Int→R} (h:evIO s x d K=some y) (hf:FR σ nb s t.fr) {k:Int→Prop} (hk:∀ n,K n=some y→k n):Vm.evIO t x d k:=by
 cases x with
 | none=>exact hk _ h
 | some x=>exact zdc h hf fun _ n h=>hk n h
theorem zre {o l m size:Nat} (b:Nat) (hlm:m≠l):zah (some ⟨b,o,none⟩) l m size=some ⟨b,o+l*size,none⟩:=by
 unfold zah;rw[if_neg hlm];show some (Addr.add ⟨b,o,none⟩ (l*size))=_
 unfold Addr.add;split
 ·rename_i h;rw[h];rfl
 ·rfl
theorem zN3 (q:Option Addr) (c size:Nat):zah q 0 c size=q:=by
 unfold zah;split
 ·rfl
 ·cases q with
  | none=>rfl
  | some a=>show some (a.add (0*size))=_;simp[Addr.add]
theorem ztS {v:V} {sv:SV} {K:Nat→R} (h:zov v K=some y) (hv:VR σ nb v sv):∃ a n c,sv = .slice a n c∧K n=some y:=by
 obtain⟨x,rfl,h2⟩:=zcE h;split at h2
 ·obtain⟨sc,h5,rfl⟩:=hv.cc (by simp);obtain⟨w,h5,rfl⟩:=h5;simp only[C.val,Option.map_eq_some_iff] at h5;obtain⟨e,h6,rfl⟩:=h5;exact⟨_,_,_,rfl,h2⟩
 ·obtain⟨sc,h5,rfl⟩:=hv.cc (by simp);obtain⟨w,h5,rfl⟩:=h5;simp only[C.val,Option.bind_eq_some_iff] at h5;obtain⟨e,h6,h7⟩:=h5;split at h7<;>split at h7
  ·rename_i hc;cases h7;obtain⟨rfl, -, -⟩:=hc;exact⟨_,_,_,rfl,h2⟩
  ·cases h7
  ·cases h7;exact⟨_,_,_,rfl,h2⟩
  ·cases h7
 ·exact⟨_,_,_,hv.val rfl (by simp),h2⟩
 ·obtain⟨sc,h5,rfl⟩:=hv.cc (by simp);obtain⟨w,h5,rfl⟩:=h5;simp only[C.val,Option.bind_eq_some_iff] at h5;obtain⟨e,h6,h7⟩:=h5;split at h7
  ·cases h7;exact⟨_,_,_,rfl,h2⟩
  ·cases h7
 ·cases h2
theorem zN4 {size:Nat} {v:V} {sv:SV} {l h:Int} {K:V→R} (hh:slx size v l h K=some y) (hv:VR σ nb v sv) {k:SV→Prop} (hk:∀ v sv,VR σ nb v sv→K v=some y→k sv) {a:Option Addr} {n c:Nat} (hsv:sv = .slice a n c) :
  (0≤l∧l≤h∧h≤c)∧k (.slice (zah a l.toNat c size) (h.toNat - l.toNat) (c - l.toNat)):=by
 obtain⟨i,rfl,h1⟩:=zfs hh;obtain⟨j,rfl,h2⟩:=zfs h1;rw[Int.toNat_natCast,Int.toNat_natCast];clear h1;obtain⟨x,rfl,h1⟩:=zcE h2;have hval:∀ {q:C} {w:Value},q.val σ=some w→K (.c q)=some y→k (.c (.v w)):=fun hq hK=>hk _ _ (zaS hq) hK
 split at h1
 ·rw[hv.val rfl (by simp)] at hsv;cases hsv;obtain⟨h6,h7⟩:=zr h1;obtain⟨h8,h9⟩:=zr h7;have hi:=Nat.eq_of_beq_eq_true h6
  have hj:=Nat.eq_of_beq_eq_true h8;subst hi hj;exact⟨by simp,hval (q := .nl) rfl h9⟩
 ·rename_i ab o n' c';obtain⟨sc,h5,rfl⟩:=hv.cc (by simp);obtain⟨w,h5,rfl⟩:=h5;simp only[C.val,Option.map_eq_some_iff] at h5;obtain⟨e,he,rfl⟩:=h5;cases hsv;obtain⟨h6,h7⟩:=zr h1;obtain⟨h8,h9⟩:=zr h7;have hij:=Nat.le_of_ble_eq_true h6
  have hjc:=Nat.le_of_ble_eq_true h8;refine⟨by omega,?_⟩;cases hb:Nat.beq c i with
  | true=>
   rw[hb] at h9;simp only[fN_eq] at h9;have hci:=Nat.eq_of_beq_eq_true hb
   have es:zah (some ⟨e.addr,o,none⟩) i c size=some ⟨e.addr,o,none⟩:=by unfold zah;rw[if_pos hci]
   rw[es];exact hval (q := .l ab o (j - i) (c - i)) (by simp[C.val,he]) h9
  | false=>
   rw[hb] at h9;simp only[fN_eq] at h9;have hci:c≠i:=fun e=>by subst e;simp at hb
   rw[zre _ hci];exact hval (q := .l ab (o+i*size) (j - i) (c - i)) (by simp[C.val,he]) h9
 ·rename_i ab o d n';obtain⟨h6,h7⟩:=zr h1;obtain⟨h8,h9⟩:=zr h7;have hij:=Nat.le_of_ble_eq_true h6
  have hjn:=Nat.le_of_ble_eq_true h8;obtain⟨sc,hs,rfl⟩:=hv.cc (by simp);obtain⟨w,hs,rfl⟩:=hs;simp only[C.val,Option.bind_eq_some_iff] at hs;obtain⟨e,he,hs⟩:=hs;cases hsv;split at hs<;>split at hs
  ·rename_i hn hc;cases hs;obtain⟨rfl,rfl,rfl⟩:=hc;have hi0:i=0:=by omega
   have hj0:j=0:=by omega
   subst hi0 hj0;have h9':fN (fun h'=>K (.c (.g ab 0 0 h'))) 0=some y:=h9
   rw[fN_eq] at h9';exact⟨by simp,hval (q := .g ab 0 0 0) (by simp[C.val,he,hn,zah]) h9'⟩
  ·cases hs
  ·rename_i hn hc;cases hs;refine⟨by omega,?_⟩;cases hb:Nat.beq i 0 with
   | true=>
    have hi0:=Nat.eq_of_beq_eq_true hb;rw[hb] at h9;have h9':fN (fun h'=>K (.c (.g ab o d h'))) j=some y:=h9
    rw[fN_eq] at h9';subst hi0
    have es:zah (some ⟨e.addr,o,none⟩) 0 (e.cap - d) size=some ⟨e.addr,o,none⟩:=by
     unfold zah;split
     ·rfl
     ·show some (Addr.add ⟨e.addr,o,none⟩ (0*size))=_;simp[Addr.add]
    rw[es];exact hval (q := .g ab o d j) (by simp[C.val,he,hn];omega) h9'
   | false=>
    rw[hb] at h9;cases hbl:Nat.blt i n with
    | true=>
     rw[hbl] at h9;have h11:fN (fun o'=>fN (fun d'=>fN (fun n'=>K (.c (.g ab o' d' n'))) (j - i)) (d+i)) (o+i*size)=some y:=h9
     simp only[fN_eq] at h11;have hin:i<n:=by simpa[Nat.blt_eq] using hbl
     rw[zre _ (show e.cap - d≠i by omega)];have:=hval (q := .g ab (o+i*size) (d+i) (j - i)) (w := .slice (some ⟨e.addr,o+i*size,none⟩) (j - i) (e.cap - (d+i))) (by simp[C.val,he,hn];omega) h11
     rw[show e.cap - d - i=e.cap - (d+i) by omega];exact this
    | false=>
     rw[hbl] at h9;have h11:K (.c (.h ab o d i size false))=some y:=h9
     have hin:¬i<n:=fun h=>by rw[show Nat.blt i n=true by simpa[Nat.blt_eq] using h] at hbl;cases hbl
     have hij':j - i=0:=by omega
     rw[hij']
     exact hval (q := .h ab o d i size false) (w := .slice (zah (some ⟨e.addr,o,none⟩) i (e.cap - d) size) 0 (e.cap - d - i)) (by
      have hn':e.nil=false:=by simpa using hn
      simp[C.val,he,hn'];omega) h11
  ·cases hs
 ·rename_i ab o d q z w;obtain⟨h6,h7⟩:=zr h1;obtain⟨h8,h9⟩:=zr h7;have hi0:=Nat.eq_of_beq_eq_true h6
  have hj0:=Nat.eq_of_beq_eq_true h8;obtain⟨sc,hs,rfl⟩:=hv.cc (by simp);obtain⟨u,hs,rfl⟩:=hs;have hs':=hs
  simp only[C.val,Option.bind_eq_some_iff] at hs;obtain⟨e,he,hs⟩:=hs;cases hsv;subst hi0 hj0;split at hs
  ·rename_i hc;have hn0:n=0:=by cases hs;rfl
   have h3:=hval hs' h9;refine⟨by simp,?_⟩;subst hn0;show k (.slice (zah a 0 c size) 0 c)
   rw[zN3];exact h3
  ·cases hs
 ·cases h1
theorem zKq (size:Nat) (x:Operand) (lo hi:Option Operand):QS (.slx size x lo hi) (zHV size x lo hi):=fun {σ nb s t z K k} hq h hk=>by
 refine zW h hq.fr fun v sv _ hv h1=>?_
 obtain⟨a,n,c,rfl,h2⟩:=ztS h1 hv;dsimp only [zAI];refine zxY h2 hq.fr fun l h3=>zxY h3 hq.fr fun u h4=>?_
 exact zN4 h4 hv hk rfl
theorem zMT {size:Nat} {v:V} {sv:SV} {l h m:Int} {K:V→R} (hh:slx3 size v l h m K=some y) (hv:VR σ nb v sv) {k:SV→Prop} (hk:∀ v sv,VR σ nb v sv→K v=some y→k sv) {a:Option Addr} {n c:Nat} (hsv:sv = .slice a n c) :
  (0≤l∧l≤h∧h≤m∧m≤c)∧k (.slice (zah a l.toNat m.toNat size) (h.toNat - l.toNat) (m.toNat - l.toNat)):=by
 obtain⟨i,rfl,h1⟩:=zfs hh;obtain⟨j,rfl,h2⟩:=zfs h1;obtain⟨u,rfl,h3⟩:=zfs h2;clear h1 h2;rw[Int.toNat_natCast,Int.toNat_natCast,Int.toNat_natCast];obtain⟨x,rfl,h1⟩:=zcE h3;have hval:∀ {q:C} {w:Value},q.val σ=some w→K (.c q)=some y→k (.c (.v w)):=fun hq hK=>hk _ _ (zaS hq) hK
 split at h1
 ·rw[hv.val rfl (by simp)] at hsv;cases hsv;obtain⟨h6,h7⟩:=zr h1;obtain⟨h8,h9⟩:=zr h7;obtain⟨h10,h11⟩:=zr h9;have hi:=Nat.eq_of_beq_eq_true h6
  have hj:=Nat.eq_of_beq_eq_true h8;have hu:=Nat.eq_of_beq_eq_true h10
  subst hi hj hu;exact⟨by simp,hval (q := .nl) rfl h11⟩
 ·rename_i ab o n' c';obtain⟨sc,h5,rfl⟩:=hv.cc (by simp);obtain⟨w,h5,rfl⟩:=h5;simp only[C.val,Option.map_eq_some_iff] at h5;obtain⟨e,he,rfl⟩:=h5;cases hsv;obtain⟨h6,h7⟩:=zr h1;obtain⟨h8,h9⟩:=zr h7;obtain⟨h10,h11⟩:=zr h9;have hij:=Nat.le_of_ble_eq_true h6
  have hju:=Nat.le_of_ble_eq_true h8;have huc:=Nat.le_of_ble_eq_true h10
  refine⟨by omega,?_⟩;cases hb:Nat.beq u i with
  | true=>
   rw[hb] at h11;simp only[fN_eq] at h11;have hci:=Nat.eq_of_beq_eq_true hb
   have es:zah (some ⟨e.addr,o,none⟩) i u size=some ⟨e.addr,o,none⟩:=by unfold zah;rw[if_pos hci]
   rw[es];exact hval (q := .l ab o (j - i) (u - i)) (by simp[C.val,he]) h11
  | false=>
   rw[hb] at h11;simp only[fN_eq] at h11;have hci:u≠i:=fun e=>by subst e;simp at hb
   rw[zre _ hci];exact hval (q := .l ab (o+i*size) (j - i) (u - i)) (by simp[C.val,he]) h11
 ·rename_i ab o d n';obtain⟨h4,h5⟩:=zr h1;obtain⟨h6,h7⟩:=zr h5;obtain⟨h8,h9⟩:=zr h7;obtain⟨h10,h11⟩:=zr h9;have hn0:0<n':=by simpa[Nat.blt_eq] using h4
  have hij:=Nat.le_of_ble_eq_true h6;have hju:=Nat.le_of_ble_eq_true h8
  have hun:=Nat.le_of_ble_eq_true h10;obtain⟨sc,hs,rfl⟩:=hv.cc (by simp);obtain⟨w,hs,rfl⟩:=hs;simp only[C.val,Option.bind_eq_some_iff] at hs;obtain⟨e,he,hs⟩:=hs;cases hsv;split at hs<;>split at hs
  ·rename_i hc;omega
  ·cases hs
  ·cases hs;refine⟨by omega,?_⟩;cases hb:Nat.beq u i with
   | true=>
    rw[hb] at h11;simp only[fN_eq] at h11;have hci:=Nat.eq_of_beq_eq_true hb
    have es:zah (some ⟨e.addr,o,none⟩) i u size=some ⟨e.addr,o,none⟩:=by unfold zah;rw[if_pos hci]
    rw[es];exact hval (q := .l ab o (j - i) (u - i)) (by simp[C.val,he]) h11
   | false=>
    rw[hb] at h11;simp only[fN_eq] at h11;have hci:u≠i:=fun e=>by subst e;simp at hb
    rw[zre _ hci];exact hval (q := .l ab (o+i*size) (j - i) (u - i)) (by simp[C.val,he]) h11
  ·cases hs
 ·rename_i ab o d q z w;obtain⟨h6,h7⟩:=zr h1;obtain⟨h8,h9⟩:=zr h7;obtain⟨h10,h11⟩:=zr h9;have hi0:=Nat.eq_of_beq_eq_true h6
  have hj0:=Nat.eq_of_beq_eq_true h8;have hu0:=Nat.eq_of_beq_eq_true h10
  obtain⟨sc,hs,rfl⟩:=hv.cc (by simp);obtain⟨u',hs,rfl⟩:=hs;simp only[C.val,Option.bind_eq_some_iff] at hs;obtain⟨e,he,hs⟩:=hs;cases hsv;subst hi0 hj0 hu0;split at hs
  ·rename_i hc;have ea:a=zah (some ⟨e.addr,o,none⟩) q (e.cap - d) z:=by cases hs;rfl
   have en:n=0:=by cases hs;rfl
   have es:zah a 0 0 size=a:=by unfold zah;simp
   refine⟨by simp,?_⟩;rw[es,ea];exact hval (q := .h ab o d q z true) (w := .slice (zah (some ⟨e.addr,o,none⟩) q (e.cap - d) z) 0 0) (by simp[C.val,he,hc]) h11
  ·cases hs
 ·cases h1
theorem zGT (size:Nat) (x lo hi m:Operand):QS (.slx3 size x lo hi m) (zEe size x lo hi m):=fun {σ nb s t z K k} hq h hk=>by
 refine zW h hq.fr fun v sv _ hv h1=>?_
 obtain⟨a,n,c,rfl,h2⟩:=ztS h1 hv;dsimp only [zAI];refine zdc h2 hq.fr fun _ l h3=>zdc h3 hq.fr fun _ u h4=>zdc h4 hq.fr fun _ m h5=>?_
 exact zMT h5 hv hk rfl
theorem zGU (f:Nat) (x:Operand):QS (.mval f x) (zEi f x):=fun {σ nb s t z K k} hq h hk=>by
 refine zW h hq.fr fun v sv _ hv h1=>?_
 obtain⟨c,rfl,h2⟩:=zcE h1;cases c with
 | p a o=>
  obtain⟨sc,h5,rfl⟩:=hv.cc (by simp);obtain⟨w,h5,rfl⟩:=h5;simp only[C.val,Option.map_eq_some_iff] at h5;obtain⟨e,he,rfl⟩:=h5;exact hk (.c (.fm f a o)) _ (zaS (by simp[C.val,he])) h2
 | _=>cases h2
theorem zN5 {x x':C} {a a':SC} (h:SCR σ nb x a) (h':SCR σ nb x' a') {b:Bool} (he:eqC x x'=some b) {k:Bool→Prop} (hk:k b):Vm.eqC a a' k:=by
 unfold eqC at he;split at he
 ·rename_i q u q' u';obtain⟨v,hv,rfl⟩:=h;obtain⟨v',hv',rfl⟩:=h';cases hv;cases hv';split at he
  ·rename_i hq;cases he;show (match decide (q=q') with|true=>k (decide (u=u'))|false=>False)
   rw[decide_eq_true hq];rw[znr] at hk;exact hk
  ·cases he
 ·cases he
theorem zGV:∀ {x x':List C} {a a':List SC},All2 (SCR σ nb) x a→All2 (SCR σ nb) x' a'→∀ {b:Bool},eqCs x x'=some b→∀ {k:Bool→Prop},k b→Vm.eqCs a a' k
 | [],[],[],[],_,_,b,he,k,hk=>by cases he;exact hk
 | x::l,x'::l',a::r,a'::r',h,h',b,he,k,hk=>by
  unfold eqCs at he;split at he
  ·rename_i u u' h1 h2;cases he;exact zN5 h.1 h'.1 h1 (zGV h.2 h'.2 h2 hk)
  ·cases he
 | [],_::_,_,_,_,_,_,he,_,_=>by cases he
 | _::_,[],_,_,_,_,_,he,_,_=>by cases he
 | [],[],_::_,_,h,_,_,_,_,_=>h.elim
 | [],[],[],_::_,_,h,_,_,_,_=>h.elim
 | _::_,_::_,[],_,h,_,_,_,_,_=>h.elim
 | _::_,_::_,_::_,[],_,h,_,_,_,_=>h.elim
theorem zj6 {m n:Nat} {A:Prop} (h:m=n) (hA:A):zkg m n A:=by subst h;unfold zkg;rw[show Nat.beq m m=true from Nat.beq_refl m];exact hA
theorem zKr (op:BinOp) (n:Nat) (x y:Operand):QS (.aeq op n x y) (zHW op n x y):=fun {σ nb s t z K k} hq h hk=>by
 refine zW h hq.fr fun v sv _ hv h1=>?_
 obtain⟨l,cs,rfl,hl,h2⟩:=zxW h1 hv;rw[zbA] at h2;obtain⟨h3,h4⟩:=zr h2;refine zj6 (by rw[←hl.len];exact Nat.eq_of_beq_eq_true h3) (zW h4 hq.fr fun v sv _ hv h5=>?_);obtain⟨l',cs',rfl,hl',h6⟩:=zxW h5 hv;obtain⟨b,h7,h8⟩:=zgh h6;exact zGV hl hl' h7 (zmc h8 hk)
theorem zDe (op:BinOp) (x y:Operand):QS (.slnil op x y) (zBk op x y):=fun {σ nb s t z K k} hq h hk=>by
 refine zW h hq.fr fun v sv _ hv h1=>?_
 obtain⟨c,rfl,h2⟩:=zcE h1;split at h2
 ·rw[hv.val rfl (by simp)];refine zW h2 hq.fr fun v sv _ hv h3=>?_
  unfold slNil at h3;split at h3
  ·rw[hv.val rfl (by simp)];exact zmc h3 hk
  ·obtain⟨sc,h5,rfl⟩:=hv.cc (by simp);obtain⟨w,h5,rfl⟩:=h5;simp only[C.val,Option.map_eq_some_iff] at h5;obtain⟨e,h6,rfl⟩:=h5;exact zmc h3 hk
  ·obtain⟨h4,h5⟩:=zr h3;have hn:=h4
   simp only[Nat.blt_eq] at hn;obtain⟨sc,h6,rfl⟩:=hv.cc (by simp);obtain⟨w,h6,rfl⟩:=h6;simp only[C.val,Option.bind_eq_some_iff] at h6;obtain⟨e,h7,h8⟩:=h6;split at h8<;>split at h8
   ·rename_i hc;omega
   ·cases h8
   ·cases h8;exact zmc h5 hk
   ·cases h8
  ·obtain⟨-, rfl⟩:=hv;exact zmc h3 hk
  ·cases h3
 ·cases h2
theorem zBy (hf:FR σ nb s t.fr):∀ {l:List Operand} {K:List C→R} {k:List SC→Prop},evCaps s l K=some y→(∀ l cs,All2 (SCR σ nb) l cs→K l=some y→k cs)→Vm.evCaps l t k
 | [],K,k,h,hk=>hk [] [] trivial h
 | x::l,K,k,h,hk=>by
  refine zW (K:=fun v=>capOf v fun c=>evCaps s l fun r=>K (c::r)) h hf fun v sv _ hv h1=>?_
  cases v with
  | c c=>
   replace h1:(evCaps s l fun r=>K (c::r))=some y:=h1
   have h2:∃ sc,Vm.capOf sv=some sc∧SCR σ nb c sc:=by
    rcases hv with ⟨sc,h2,rfl⟩|⟨b,rfl,rfl⟩
    ·exact⟨sc,rfl,h2⟩
    ·exact⟨.v (.bool b),rfl,_,rfl,rfl⟩
   obtain⟨sc,h3,h4⟩:=h2;rw[h3];exact zBy hf h1 fun r cs hr h5=>hk (c::r) (sc::cs) ⟨h4,hr⟩ h5
  | _=>cases h1
theorem zGW (f:Nat) (caps:List Operand):QS (.mkfn f caps) (zEh f caps):=fun {σ nb s t z K k} hq h hk=>
 zBy hq.fr h fun l cs hl h1=>hk (.fn f l) _ (.inl ⟨cs,hl,rfl⟩) h1
theorem zKs (x:Operand) (lo hi:Option Operand):QS (.ssl x lo hi) (zHX x lo hi):=fun {σ nb s t z K k} hq h hk=>by
 refine zW h hq.fr fun v sv _ hv h1=>?_
 obtain⟨a,rfl,h2⟩:=znq h1 hv;have hs:(zab a).size=a.length:=by simp[zab,ByteArray.size]
 dsimp only [Vm.asStr];refine zxY h2 hq.fr fun l h3=>?_
 rw[zbA] at h3;show Vm.evIO t hi ((zab a).size:Int) _
 rw[hs];refine zxY h3 hq.fr fun u h4=>?_
 obtain⟨i,rfl,h5⟩:=zfs h4;obtain⟨j,rfl,h6⟩:=zfs h5;obtain⟨h7,h8⟩:=zr h6;obtain⟨h9,h10⟩:=zyZ h8;obtain⟨h11,h12⟩:=zpC h10;have hij:=Nat.le_of_ble_eq_true h7
 rw[List.length_drop] at h11;refine⟨⟨by omega,by omega,by omega⟩,?_⟩
 have e:(zab a).extract (i:Int).toNat (j:Int).toNat=zab ((a.drop i).take (j - i)):=by
  apply ByteArray.ext;rw[Int.toNat_natCast,Int.toNat_natCast];apply Array.toList_inj.1;simp[zab,List.extract_eq_take_drop,List.map_take,List.map_drop]
 rw[e];exact hk _ _ (zaS rfl) h12
end
end
section
section
variable {σ:List E} {s:S} {t:St} {y:Out} {nb:Nat}
theorem zlQ {v:V} {sv:SV} {z:R} {K:Nat→R} (h:asMap v z K=some y) (hv:VR σ nb v sv):(sv = .c (.v (.map none))∧z=some y)∨∃ a e,sv = .c (.v (.map (some e.addr)))∧σ[a]? = some e∧K a=some y:=by
 obtain⟨x,rfl,h1⟩:=zcE h;split at h1
 ·exact .inl ⟨hv.val rfl (by simp),h1⟩
 ·obtain⟨sc,h5,rfl⟩:=hv.cc (by simp);obtain⟨w,h5,rfl⟩:=h5;simp only[C.val,Option.map_eq_some_iff] at h5;obtain⟨e,h6,rfl⟩:=h5;exact .inr ⟨_,e,rfl,h6,h1⟩
 ·cases h1
theorem zrf {x:O} {K:List En→Nat→R} (h:x.mpK K=some y) {e:E} {M:Mem} (ho:OR σ e x M):∃ es c ms,x = .mp es c∧e.nil=false∧All2 (EnR σ) es ms∧M e.addr=some (.map ms.toArray c)∧M.mapAt e.addr=some (ms.toArray,c)∧K es c=some y:=by
 cases x with
 | mp es c=>obtain⟨h0,ms,h1,h2⟩:=ho;exact⟨es,c,ms,rfl,h0,h1,h2,by simp[Mem.mapAt,h2],h⟩
 | _=>cases h
theorem zBz:∀ {cs:List C} {xs:List SC},All2 (SCR σ nb) cs xs→(cs.all fun c=>match c with | .n _ _=>true|_=>false)=true→∀ {k:List Value→Prop},(∀ vs,All2 (CR σ) cs vs→k vs)→ztF xs k
 | [],[],_,_,k,hk=>hk [] trivial
 | c::cs,x::xs,h,ha,k,hk=>by
  rw[List.all_cons,Bool.and_eq_true] at ha;cases c with
  | n q m=>
   obtain⟨v,h1,h2⟩:=h.1;cases h1;subst h2;show ztF xs fun vs=>k (.int q m::vs)
   exact zBz h.2 ha.2 fun vs hvs=>hk _ ⟨rfl,hvs⟩
  | _=>exact absurd ha.1 (by simp)
 | [],_::_,h,_,_,_=>h.elim
 | _::_,[],h,_,_,_=>h.elim
theorem zBA {kk:KK} {v:V} {sv:SV} {K:W→R} (h:zlL kk v K=some y) (hv:VR σ nb v sv) {k:Value→Prop} (hk:∀ w u,WR σ w u→K w=some y→k u):zyk kk sv k:=by
 unfold zlL at h;split at h
 ·rw[hv.val rfl (by simp)];exact hk (.c (.n _ _)) _ rfl h
 ·obtain⟨-, h1⟩:=zr h;rw[hv.val rfl (by simp)];exact hk (.c (.s _)) _ rfl h1
 ·rw[zbA] at h;obtain⟨h1,h2⟩:=zr h;obtain⟨h3,h4⟩:=zr h2;obtain⟨cs,h5,rfl⟩:=hv;refine zj6 (by rw[←h5.len];exact Nat.eq_of_beq_eq_true h1) (zBz h5 h3 fun vs hvs=>hk (.ag _) _ ⟨vs,hvs,rfl⟩ h4)
 ·cases h
theorem zGX:∀ {xs ys:List C} {b:Bool},sameW.eqKs xs ys=some b→∀ {us vs:List Value},All2 (CR σ) xs us→All2 (CR σ) ys vs→zaT us vs=some b
 | [],[],b,h,[],[],_,_=>h
 | .n q u::xs,.n q' u'::ys,b,h,v::us,v'::vs,h1,h2=>by
  have e1:some (Value.int q u)=some v:=h1.1;have e2:some (Value.int q' u')=some v':=h2.1
  cases e1;cases e2;unfold sameW.eqKs at h;unfold zaT;split at h
  ·rename_i hq;rw[if_pos hq];rw[znr] at h;by_cases hu:u=u'
   ·rw[if_pos hu];rw[if_pos (by simpa using hu)] at h;exact zGX h h1.2 h2.2
   ·rw[if_neg hu];rw[if_neg (by simpa using hu)] at h;exact h
  ·cases h
 | [],[],_,_,_::_,_,h,_=>h.elim
 | [],[],_,_,[],_::_,_,h=>h.elim
 | _::_,_,_,_,[],_,h,_=>h.elim
 | _,_::_,_,_,_,[],_,h=>h.elim
 | [],_::_,_,h,_,_,_,_=>by cases h
 | c::_,[],_,h,_,_,_,_=>by cases c<;>cases h
 | .t _::_,_::_,_,h,_,_,_,_=>by cases h
 | .s _::_,_::_,_,h,_,_,_,_=>by cases h
 | .p _ _::_,_::_,_,h,_,_,_,_=>by cases h
 | .np::_,_::_,_,h,_,_,_,_=>by cases h
 | .l _ _ _ _::_,_::_,_,h,_,_,_,_=>by cases h
 | .g _ _ _ _::_,_::_,_,h,_,_,_,_=>by cases h
 | .nl::_,_::_,_,h,_,_,_,_=>by cases h
 | .m _::_,_::_,_,h,_,_,_,_=>by cases h
 | .nm::_,_::_,_,h,_,_,_,_=>by cases h
 | .b _ _::_,_::_,_,h,_,_,_,_=>by cases h
 | .f _::_,_::_,_,h,_,_,_,_=>by cases h
 | .fm _ _ _::_,_::_,_,h,_,_,_,_=>by cases h
 | .h _ _ _ _ _ _::_,_::_,_,h,_,_,_,_=>by cases h
 | .ni::_,_::_,_,h,_,_,_,_=>by cases h
 | .nf::_,_::_,_,h,_,_,_,_=>by cases h
 | .xx _ _ _ _::_,_::_,_,h,_,_,_,_=>by cases h
 | .n _ _::_,.t _::_,_,h,_,_,_,_=>by cases h
 | .n _ _::_,.s _::_,_,h,_,_,_,_=>by cases h
 | .n _ _::_,.p _ _::_,_,h,_,_,_,_=>by cases h
 | .n _ _::_,.np::_,_,h,_,_,_,_=>by cases h
 | .n _ _::_,.l _ _ _ _::_,_,h,_,_,_,_=>by cases h
 | .n _ _::_,.g _ _ _ _::_,_,h,_,_,_,_=>by cases h
 | .n _ _::_,.nl::_,_,h,_,_,_,_=>by cases h
 | .n _ _::_,.m _::_,_,h,_,_,_,_=>by cases h
 | .n _ _::_,.nm::_,_,h,_,_,_,_=>by cases h
 | .n _ _::_,.b _ _::_,_,h,_,_,_,_=>by cases h
 | .n _ _::_,.f _::_,_,h,_,_,_,_=>by cases h
 | .n _ _::_,.fm _ _ _::_,_,h,_,_,_,_=>by cases h
 | .n _ _::_,.h _ _ _ _ _ _::_,_,h,_,_,_,_=>by cases h
 | .n _ _::_,.ni::_,_,h,_,_,_,_=>by cases h
 | .n _ _::_,.nf::_,_,h,_,_,_,_=>by cases h
 | .n _ _::_,.xx _ _ _ _::_,_,h,_,_,_,_=>by cases h
theorem zDf {w w':W} {b:Bool} (h:sameW w w'=some b) {v v':Value} (h1:WR σ w v) (h2:WR σ w' v'):zeP v v'=some b:=by
 unfold sameW at h;split at h
 ·rename_i q u q' u';have e1:some (Value.int q u)=some v:=h1
  have e2:some (Value.int q' u')=some v':=h2;cases e1;cases e2;show (if q=q' then some (decide (u=u')) else none)=some b
  split at h
  ·rename_i hq;rw[if_pos hq];rw[znr] at h;exact h
  ·cases h
 ·rename_i u u';have e1:some (Value.string (zab u))=some v:=h1
  have e2:some (Value.string (zab u'))=some v':=h2;cases e1;cases e2;show some (decide (zab u=zab u'))=some b
  split at h
  ·rename_i ha;rw[Bool.and_eq_true] at ha;rw[zpG] at h;rw[←h];exact congrArg some (decide_eq_decide.2 (zwn (zlP ha.1) (zlP ha.2)))
  ·cases h
 ·obtain⟨us,h3,rfl⟩:=h1;obtain⟨vs,h4,rfl⟩:=h2;exact zGX h h3 h4
 ·cases h
def fR (σ:List E) (f:Option (Nat×W)) (f':Option (Nat×Value)):Prop:=match f,f' with|none,none=>True|some (j,w),some (j',v)=>j=j'∧WR σ w v|_,_=>False
theorem ztT {w:W} {key:Value} (hw:WR σ w key):∀ {es:List En} {ms:List MapEntry} {i:Nat} {f:Option (Nat×W)},kfind w es i=some f→All2 (EnR σ) es ms→∃ f',Vm.kfind key ms i=some f'∧fR σ f f'
 | [],[],i,f,h,_=>by cases h;exact⟨none,rfl,trivial⟩
 | e::es,m::ms,i,f,h,hl=>by
  unfold kfind at h;unfold Vm.kfind;split at h
  ·rename_i h1;cases h;rw[zDf h1 hw hl.1.1];exact⟨some (i,m.val),rfl,rfl,hl.1.2.1⟩
  ·rename_i h1;rw[zDf h1 hw hl.1.1];exact ztT hw h hl.2
  ·cases h
 | [],_::_,_,_,_,h=>h.elim
 | _::_,[],_,_,_,h=>h.elim
theorem zGY {ok:Bool} {z:Value} {f:Option (Nat×W)} {f':Option (Nat×Value)} (hf:fR σ f f') {K:V→R} (h:mgot ok z f K=some y) {k:SV→Prop} (hk:∀ v sv,VR σ nb v sv→K v=some y→k sv):Vm.mgot ok z f' k:=by
 match f,f',hf with
 | some (j,w),some (j',v),hf=>
  cases ok
  ·exact hk _ _ (ztN hf.2) h
  ·exact hk (.tp [w,.c (.t true)]) _ ⟨[v,.bool true],⟨hf.2,rfl,trivial⟩,rfl⟩ h
 | none,none,_=>
  unfold mgot at h;dsimp only at h;obtain⟨x,⟨w,hx⟩, -, h2⟩:=ofV_s (nb:=nb) (σ:=σ) h;rcases hx with ⟨rfl,h3⟩|⟨l,cs,rfl,rfl,h3⟩
  ·cases ok
   ·exact hk _ _ (zta h3) h2
   ·exact hk (.tp [.c w,.c (.t false)]) _ ⟨[z,.bool false],⟨h3,rfl,trivial⟩,rfl⟩ h2
  ·have h4:WR σ (.ag l) (.agg cs):=⟨cs.toList,h3,rfl⟩
   cases ok
   ·exact hk _ _ (ztN h4) h2
   ·exact hk (.tp [.ag l,.c (.t false)]) _ ⟨[.agg cs,.bool false],⟨h4,rfl,trivial⟩,rfl⟩ h2
theorem zGZ (kk:KK) (ok:Bool) (z:Value) (x key:Operand):QS (.mget kk ok z x key) (zEl kk ok z x key):=fun {σ nb s t y K k} hq h hk=>by
 refine zW h hq.fr fun u su _ hu h1=>?_
 have h2:∃ r,(su = .c (.v (.map r))):=by
  have:∃ v' k',(asMap u fail (fun _=>some (Out.rt .dead 0 .e))=some v')∨k'=0:=⟨.rt .dead 0 .e,0,.inr rfl⟩
  clear this
  obtain⟨kv,hk1⟩:∃ kv,(zlL kk kv fun key=>asMap u (mgot ok z none K) fun b=>s.hget b fun x=>x.mpK fun es _=>oV (kfind key es 0) fun f=>mgot ok z f K)=some y:=by
   cases key with
   | tmp d=>obtain⟨v, -, h2⟩:=zgh (K:=fun kv=>zlL kk kv _) h1;exact⟨v,h2⟩
   | const v=>obtain⟨x, -, -, h2⟩:=ofV_s (σ:=σ) (nb:=0) (K:=fun kv=>zlL kk kv _) h1;exact⟨x,h2⟩
   | func f=>exact⟨_,h1⟩
   | global g=>cases h1
  have key:∀ w,(asMap u (mgot ok z none K) fun b=>s.hget b fun x=>x.mpK fun es _=>oV (kfind w es 0) fun f=>mgot ok z f K)=some y→∃ r,su = .c (.v (.map r)):=fun w hw=>by
   rcases zlQ hw hu with ⟨rfl, -⟩|⟨a,e,rfl, -, -⟩
   ·exact⟨_,rfl⟩
   ·exact⟨_,rfl⟩
  unfold zlL at hk1;split at hk1
  ·exact key _ hk1
  ·exact key _ (zr hk1).2
  ·rw[zbA] at hk1;exact key _ (zr (zr hk1).2).2
  ·cases hk1
 obtain⟨r,rfl⟩:=h2;show Vm.ev t key _
 refine zW h1 hq.fr fun kv skv _ hkv h3=>zBA h3 hkv fun w u' hw h4=>?_
 rcases zlQ h4 hu with ⟨h5,h6⟩|⟨a,e,h5,he,h6⟩
 ·cases h5;exact zGY (f:=none) (f':=none) trivial h6 hk
 ·cases h5;obtain⟨o,h7,h8,h9⟩:=zcl h6;obtain⟨e',he',ho⟩:=hq.h a o h7 h8;rw[he] at he';cases he';obtain⟨es,c,ms,rfl, -, h10,h11,h12,h13⟩:=zrf h9 ho;obtain⟨f,h14,h15⟩:=zgh h13;obtain⟨f',h16,h17⟩:=ztT hw h14 h10;show onO (t.M.mapAt e.addr) _
  rw[h12];show onO (Vm.kfind u' ms 0) _
  rw[h16];exact zGY h17 h15 hk
theorem zG0 (x:Operand):QS (.mlen x) (zEm x):=fun {σ nb s t y K k} hq h hk=>by
 refine zW h hq.fr fun u su _ hu h1=>?_
 rcases zlQ h1 hu with ⟨rfl,h6⟩|⟨a,e,rfl,he,h6⟩
 ·exact hk _ _ (zaS (x := .n .i64 0) rfl) h6
 ·obtain⟨o,h7,h8,h9⟩:=zcl h6;obtain⟨e',he',ho⟩:=hq.h a o h7 h8;rw[he] at he';cases he';obtain⟨es,c,ms,rfl, -, h10,h11,h12,h13⟩:=zrf h9 ho;rw[zbA] at h13;show onO (t.M.mapAt e.addr) _
  rw[h12];show k (.int .i64 ms.length)
  rw[←h10.len];exact hk _ _ (zaS (x := .n .i64 (.ofNat _)) rfl) h13
theorem zG1 {b:Nat}:∀ {es:List En} {ms:List MapEntry} {e:En},All2 (EnR σ) es ms→es.find? (fun e=>Nat.beq e.born b)=some e→∃ m,ms.find? (fun m=>m.born == b)=some m∧EnR σ e m
 | e::es,m::ms,e',h,hf=>by
  rw[List.find?_cons] at hf ⊢;rw[h.1.2.2];rw[show Nat.beq e.born b=(e.born == b) by rw[ztd];rfl] at hf;split at hf
  ·rename_i hb;cases hf;exact⟨m,rfl,h.1⟩
  ·exact zG1 h.2 hf
 | [],[],_,_,hf=>by cases hf
 | [],_::_,_,h,_=>h.elim
 | _::_,[],_,h,_=>h.elim
theorem zH4 (x:Operand):QS (.mentry x) (zC0 x):=fun {σ nb s t y K k} hq h hk=>by
 refine ztO h hq.fr hq.bx (fun j o T l cs _ _ _ h1=>by cases h1) (fun a o e he h1=>?_);obtain⟨h2,h3⟩:=zr h1;refine zj6 (Nat.eq_of_beq_eq_true h2) ?_;obtain⟨ob,h4,h5,h6⟩:=zcl h3;obtain⟨e',he',ho⟩:=hq.h a ob h4 h5;rw[he] at he';cases he';split at h6
 ·rename_i m since seen last;obtain⟨-, x',hx,hM⟩:=ho;obtain⟨em,hem,rfl⟩:=hx;obtain⟨om,h7,h8,h9⟩:=zcl h6;obtain⟨em',hem',hom⟩:=hq.h m om h7 h8;rw[hem] at hem';cases hem';obtain⟨es,c,ms,rfl, -, h10,h11,h12,h13⟩:=zrf h9 hom;obtain⟨h14,h15⟩:=zr h13;have hc:=Nat.eq_of_beq_eq_true h14
  split at h15
  ·rename_i b hb;split at h15
   ·rename_i en hen;obtain⟨me,hme,her⟩:=zG1 h10 hen
    have e1:zak t.M e.addr=some (me.key,me.val):=by
     unfold zak;have:t.M.iterAt e.addr=some (some em.addr,since,seen.toArray,last):=by simp[Mem.iterAt,hM]
     rw[this];simp only[h12,List.back?_toArray,hb,hc,if_true,List.find?_toArray,hme,Option.map_some]
    rw[e1];exact hk (.tp [en.key,en.val]) _ ⟨[me.key,me.val],⟨her.1,her.2.1,trivial⟩,rfl⟩ h15
   ·cases h15
  ·cases h15
 ·cases h6
theorem zOO (o:ROp) (hq:zy o=true):QS o (qd o):=by
 cases o with
 | mov x=>exact zKk x
 | pick c a b=>exact zGH c a b
 | build z p=>exact zC5 z p
 | load g n p=>exact zGI g n p
 | nilck x=>exact zC6 x
 | faddr o p=>exact zC7 o p
 | field g o n x=>exact zC8 g o n x
 | iaddr n x i=>exact zC9 n x i
 | iaddrA l n x i=>exact zBv l n x i
 | ibin o x y=>exact zGM o x y
 | bbin o x y=>exact zGJ o x y
 | pnil o x y=>exact zGK o x y
 | not x=>exact zKl x
 | conv k x=>exact zGN k x
 | len x=>exact zKm x
 | lenS x=>exact zGL x
 | extract x i=>exact zzB x i
 | strOf x=>exact zDd x
 | strE o x y=>exact zGQ o x y
 | imm m x y=>exact zKp m x y
 | slx n x l h=>exact zKq n x l h
 | aeq o n x y=>exact zKr o n x y
 | slnil o x y=>exact zDe o x y
 | sidx x i=>exact zGR x i
 | aidx g l n x i=>exact zGS g l n x i
 | mkfn f c=>exact zGW f c
 | uneg x=>exact zGO x
 | ucom x=>exact zGP x
 | ssl x l h=>exact zKs x l h
 | mget k o z x y=>exact zGZ k o z x y
 | mlen x=>exact zG0 x
 | slx3 n x l h m=>exact zGT n x l h m
 | mval f x=>exact zGU f x
 | mentry x=>exact fun _ h _=>by cases h
 | _=>cases hq
end
end
end Go.Vm.Rn
