/- Part of this proof;laid by program. -/
import Derived.Test.YtpnhjkiligohnaaGreatDoorJ6
set_option linter.unusedVariables false
set_option linter.unusedSimpArgs false
namespace Go.Vm.Rn
open Go.Vm
section
inductive T (α:Type) where
 | e
 | n (l:T α) (v:Option α) (r:T α)
inductive C where
 | n (k:IntKind) (x:Int)
 | t (x:Bool)
 | s (l:List Nat)
 | p (a o:Nat)
 | np
 | l (a o n c:Nat)
 | g (a o d n:Nat)
 | nl
 | m (a:Nat)
 | nm
 | b (j o:Nat)
 | f (g:Nat)
 | fm (g a o:Nat)
 | h (a o d k z:Nat) (c0:Bool)
 | ni
 | nf
 | xx (a:Nat) (d lo hi:Int)
inductive W where
 | c (x:C)
 | ag (l:List C)
 | fn (g:Nat) (l:List C)
inductive V where
 | c (x:C)
 | ag (l:List C)
 | fn (g:Nat) (l:List C)
 | tp (l:List W)
 | sl (j n:Nat)
 | dead
inductive B where
 | live (T:TypeId) (l:List C)
 | gone (a:Nat)
 | dark
structure En where
 key:W
 val:W
 born:Nat
inductive O where
 | row (E:TypeId) (l:List C)
 | ro (E:TypeId) (l:List C)
 | gr (E z:Nat) (l:List C)
 | mp (es:List En) (c:Nat)
 | it (m:Option Nat) (since:Nat) (seen:List Nat) (st:Nat)
 | si (l:List Nat) (p:Nat)
structure S where
 nl:Nat
 tl:List (Nat×V)
 L:List (Option V)
 bx:List B
 n:Nat
 H:T O
 g:Option (List Nat)
inductive X where
 | normal
 | ret
 | exit (i:Nat)
inductive Out where
 | st (e:X) (s:S)
 | rt (v:V) (n:Nat) (H:T O)
abbrev R:=Option Out
@[reducible] def fail:R:=none
noncomputable def fN (k:Nat→R) (n:Nat):R:=Nat.rec (k 0) (fun m _=>k (Nat.succ m)) n
noncomputable def fI (K:Int→R) (r:Int):R:=Int.rec (fun n=>fN (fun n'=>K (.ofNat n')) n) (fun n=>fN (fun n'=>K (.negSucc n')) n) r
noncomputable def cB (b:Bool) (t e:R):R:=Bool.rec e t b
noncomputable def oV {α:Type} (x:Option α) (K:α→R):R:=Option.rec fail K x
noncomputable def T.get {α:Type} (t:T α):Nat→Option α:=
 T.rec (fun _=>none) (fun _ v _ gl gr k=>Nat.rec v (fun m _=>Bool.rec (gl (m / 2)) (gr (m / 2)) (Nat.beq (m % 2) 1)) k) t
noncomputable def T.one {α:Type} (f:Nat):Nat→Option α→T α:=
 Nat.rec (fun _ _ => .e) (fun _ ih k x=>Nat.rec (.n .e x .e) (fun m _=>Bool.rec (.n (ih (m / 2) x) none .e) (.n .e none (ih (m / 2) x)) (Nat.beq (m % 2) 1)) k) f
noncomputable def T.set {α ρ:Type} (t:T α):Nat→Option α→(T α→ρ)→ρ:=
 T.rec (fun k x K=>K (T.one 40 k x))
  (fun l v r gl gr k x K=>Nat.rec (K (.n l x r)) (fun m _=>Bool.rec (gl (m / 2) x fun l'=>K (.n l' v r)) (gr (m / 2) x fun r'=>K (.n l v r')) (Nat.beq (m % 2) 1)) k) t
noncomputable def zD2 {α:Type} (n:Nat):List α→(List α→R)→R:=Nat.rec (fun l K=>K l) (fun _ ih l K=>List.rec fail (fun _ r _=>ih r K) l) n
noncomputable def zng {α:Type} (n:Nat):List α→(List α→R)→R:=Nat.rec (fun _ K=>K []) (fun _ ih l K=>List.rec fail (fun a r _=>ih r fun r'=>K (a::r')) l) n
noncomputable def zJ7 {α:Type} (vs:List α):List α→(List α→R)→R:=List.rec (fun l K=>K l) (fun v _ ih l K=>List.rec fail (fun _ r _=>ih r fun r'=>K (v::r')) l) vs
noncomputable def zyV {α:Type} (o:Nat):List α→List α→(List α→R)→R:=Nat.rec (fun l vs K=>zJ7 vs l K) (fun _ ih l vs K=>List.rec fail (fun a r _=>ih r vs fun r'=>K (a::r')) l) o
noncomputable def appK {α:Type} (l:List α):List α→(List α→R)→R:=List.rec (fun r K=>K r) (fun a _ ih r K=>ih r fun r'=>K (a::r')) l
noncomputable def zwj {α:Type} (l:List α) (n:Nat):(List α→R)→R:=Nat.rec (fun K=>K []) (fun _ ih K=>ih fun r=>appK l r K) n
noncomputable def zc5 {α:Type} (l:List α) (K:Nat→R):R:=fN K (List.rec 0 (fun _ _ ih=>ih+1) l)
noncomputable def zs5 {α:Type} (l:List α):Nat→(α→R)→R:=List.rec (fun _ _=>fail) (fun a _ ih k K=>Nat.rec (K a) (fun m _=>ih m K) k) l
noncomputable def setK {α:Type} (l:List α):Nat→α→(List α→R)→R:=List.rec (fun _ _ _=>fail) (fun a r ih k x K=>Nat.rec (K (x::r)) (fun m _=>ih m x fun r'=>K (a::r')) k) l
noncomputable def C.ofV:Value→Option C
 | .int q x=>some (.n q x)
 | .bool x=>some (.t x)
 | .string x=>some (.s (x.toList.map UInt8.toNat))
 | .pointer none=>some .np
 | .slice none 0 0=>some .nl
 | .map none=>some .nm
 | .func (.func x) ⟨[]⟩ ⟨[]⟩=>some (.f x)
 | .nilIface=>some .ni
 | .nilFunc=>some .nf
 | _=>none
noncomputable def zs6:List Value→(List C→R)→R:=fun l=>List.rec (fun K=>K []) (fun v _ ih K=>oV (C.ofV v) fun c=>ih fun r=>K (c::r)) l
noncomputable def V.ofV (v:Value) (K:V→R):R:=
 match v with
 | .agg cs=>zs6 cs.toList fun l=>K (.ag l)
 | v=>oV (C.ofV v) fun c=>K (.c c)
noncomputable def V.ofW (w:W):V:=W.rec .c .ag .fn w
noncomputable def zra (l:List (Nat×V)) (d:Nat):Option V:=List.rec none (fun p _ ih=>Prod.rec (fun k v=>Bool.rec ih (some v) (Nat.beq k d)) p) l
noncomputable def zHP (l:List (Option V)):Nat→Option V:=List.rec (fun _=>none) (fun a _ ih d=>Nat.rec a (fun m _=>ih m) d) l
noncomputable def zD3 (l:List (Option V)):Nat→V→(List (Option V)→R)→R:=List.rec (fun _ _ _=>fail) (fun a r ih k x K=>Nat.rec (K (some x::r)) (fun m _=>ih m x fun r'=>K (a::r')) k) l
noncomputable def S.fget (s:S) (d:Nat):Option V:=S.rec (fun nl T L _ _ _ _=>Bool.rec (zHP L d) (zra T d) (Nat.ble nl d)) s
noncomputable def zGs (v:V):Bool:=V.rec (fun _=>false) (fun _=>false) (fun _ _=>false) (fun _=>false) (fun _ _=>false) true v
noncomputable def S.put (s:S) (d:Option Nat) (v:V) (K:S→R):R:=
 S.rec (fun nl T L bx n H g=>Option.rec (K ⟨nl,T,L,bx,n,H,g⟩) (fun d=>Bool.rec (Bool.rec (zD3 L d v fun L'=>K ⟨nl,T,L',bx,n,H,g⟩) (K ⟨nl,(d,v)::T,L,bx,n,H,g⟩) (Nat.ble nl d)) fail (zGs v)) d) s
noncomputable def S.cut (s:S) (K:S→R):R:=S.rec (fun nl T L bx n H g=>List.rec (K ⟨nl,[],L,bx,n,H,g⟩) (fun p _ _=>K ⟨nl,[p],L,bx,n,H,g⟩) T) s
noncomputable def ev (s:S) (x:Operand) (K:V→R):R:=Operand.rec (fun d=>oV (s.fget d) K) (fun v=>V.ofV v K) (fun _=>fail) (fun f=>K (.c (.f f))) x
noncomputable def asC (v:V) (K:C→R):R:=V.rec K (fun _=>fail) (fun _ _=>fail) (fun _=>fail) (fun _ _=>fail) fail v
noncomputable def asI (v:V) (K:IntKind→Int→R):R:=asC v fun c=>match c with | .n k x=>K k x|_=>fail
noncomputable def asB (v:V) (K:Bool→R):R:=asC v fun c=>match c with | .t x=>K x|_=>fail
noncomputable def asAg (v:V) (K:List C→R):R:=match v with | .ag l=>K l|_=>fail
noncomputable def asStr (v:V) (K:List Nat→R):R:=asC v fun c=>match c with | .s x=>K x|_=>fail
noncomputable def asTp (v:V) (K:List W→R):R:=match v with | .tp x=>K x|_=>fail
noncomputable def evI (s:S) (x:Operand) (K:IntKind→Int→R):R:=ev s x fun v=>asI v K
noncomputable def evB (s:S) (x:Operand) (K:Bool→R):R:=ev s x fun v=>asB v K
noncomputable def atB (s:S) (j:Nat) (kb:TypeId→List C→R) (kp:Nat→R):R:=S.rec (fun _ _ _ bx _ _ _=>zs5 bx j fun b=>B.rec kb kp fail b) s
noncomputable def asP (s:S) (v:V) (kb:Nat→Nat→List C→R) (kp:Nat→Nat→R):R:=
 asC v fun c=>match c with | .b j o=>atB s j (fun _ cs=>kb j o cs) (fun a=>kp a o) | .p a o=>kp a o|_=>fail
noncomputable def evP (s:S) (x:Operand) (kb:Nat→Nat→List C→R) (kp:Nat→Nat→R):R:=ev s x fun v=>asP s v kb kp
noncomputable def cellsOf (v:V) (K:List C→R):R:=match v with | .c x=>K [x] | .ag l=>K l|_=>fail
noncomputable def mkv (g:Bool) (cs:List C) (K:V→R):R:=Bool.rec (match cs with|[x]=>K (.c x)|_=>fail) (K (.ag cs)) g
noncomputable def takeC (cs:List C) (o n:Nat) (K:List C→R):R:=zD2 o cs fun l=>zng n l K
noncomputable def mem (a:Nat) (l:List Nat):Bool:=List.rec false (fun x _ ih=>Bool.rec ih true (Nat.beq x a)) l
noncomputable def S.hget (s:S) (a:Nat) (K:O→R):R:=S.rec (fun _ _ _ _ _ H g=>Option.rec (oV (H.get a) K) (fun l=>Bool.rec fail (oV (H.get a) K) (mem a l)) g) s
noncomputable def O.cells (x:O) (K:List C→R):R:=match x with | .row _ l=>K l | .ro _ l=>K l | .gr _ _ l=>K l|_=>fail
noncomputable def row (s:S) (a o n:Nat) (K:List C→R):R:=s.hget a fun x=>x.cells fun l=>takeC l o n K
noncomputable def build (s:S) (parts:List (Nat×Nat×Operand)):List C→(List C→R)→R:=
 List.rec (fun cs K=>K cs) (fun p _ ih cs K=>ev s p.2.2 fun v=>cellsOf v fun l=>zc5 l fun m=>cB (Nat.beq m p.2.1) (zyV p.1 cs l fun cs'=>ih cs' K) fail) parts
noncomputable def sameK (op:BinOp) (q q':IntKind) (A:R):R:=match op with | .shl=>A | .shr=>A|_=>cB (decide (q=q')) A fail
noncomputable def kI (k:IntKind) (r:Int) (K:V→R):R:=fI (fun r=>K (.c (.n k r))) r
noncomputable def kB (b:Bool) (K:V→R):R:=Bool.rec (K (.c (.t false))) (K (.c (.t true))) b
noncomputable def lim (k:IntKind):Nat:=IntKind.rec 128 32768 2147483648 9223372036854775808 256 65536 4294967296 18446744073709551616 k
noncomputable def arith (k:IntKind) (r:Int) (K:V→R):R:=
 Int.rec (fun n=>Bool.rec (match k.signed with|true=>fail|false=>kI k (k.wrap r) K) (fN (fun n'=>K (.c (.n k (.ofNat n')))) n) (Nat.blt n (lim k)))
  (fun _=>match k.signed with|true=>cB (decide (k.wrap r=r)) (kI k r K) fail|false=>kI k (k.wrap r) K) r
noncomputable def bop (op:BinOp) (k:IntKind) (a b:Int) (K:V→R):R:=
 match a,b with
 | .ofNat a,.ofNat b=>cB (Nat.blt a (lim k)) (cB (Nat.blt b (lim k)) (match op with
  | .and=>fN (fun r=>K (.c (.n k (.ofNat r)))) (Nat.land a b)
  | .or=>fN (fun r=>K (.c (.n k (.ofNat r)))) (Nat.lor a b)
  | .xor=>fN (fun r=>K (.c (.n k (.ofNat r)))) (Nat.xor a b)
  | _=>kI k (za3 .andNot k (.ofNat a) (.ofNat b)) K) fail) fail
 | a,b=>kI k (za3 op k a b) K
noncomputable def zkR (a b:Int):Bool:=match a,b with | .ofNat a,.ofNat b=>Nat.ble a b | .negSucc a,.negSucc b=>Nat.ble b a | .negSucc _,.ofNat _=>true | .ofNat _,.negSucc _=>false
noncomputable def zmW (a b:Int):Bool:=match a,b with | .ofNat a,.ofNat b=>Nat.beq a b | .negSucc a,.negSucc b=>Nat.beq a b|_,_=>false
noncomputable def zBd (a b:Int):Int:=match a,b with | .ofNat a,.ofNat b => .ofNat (a+b)|a,b=>a+b
noncomputable def zHQ (a b:Int):Int:=match a,b with | .ofNat a,.ofNat b=>Bool.rec (.negSucc (b - a - 1)) (.ofNat (a - b)) (Nat.ble b a)|a,b=>a - b
noncomputable def zMD (a b:Int):Int:=match a,b with | .ofNat a,.ofNat b => .ofNat (a*b)|a,b=>a*b
noncomputable def zME (a b:Int):Int:=match a,b with | .ofNat a,.ofNat b => .ofNat (a / b)|a,b=>a.tdiv b
noncomputable def zMF (a b:Int):Int:=match a,b with | .ofNat a,.ofNat b => .ofNat (a % b)|a,b=>a.tmod b
noncomputable def ibin (op:BinOp) (k:IntKind) (a b:Int) (K:V→R):R:=
 match op with
 | .add=>arith k (zBd a b) K
 | .sub=>arith k (zHQ a b) K
 | .mul=>arith k (zMD a b) K
 | .quo=>cB (zmW b 0) fail (arith k (zME a b) K)
 | .rem=>cB (zmW b 0) fail (kI k (zMF a b) K)
 | .and=>bop .and k a b K
 | .or=>bop .or k a b K
 | .xor=>bop .xor k a b K
 | .andNot=>bop .andNot k a b K
 | .eql=>kB (zmW a b) K
 | .neq=>kB (!zmW a b) K
 | .lss=>kB (!zkR b a) K
 | .leq=>kB (zkR a b) K
 | .gtr=>kB (!zkR a b) K
 | .geq=>kB (zkR b a) K
 | .shl=>cB (zkR 0 b) (kI k (k.wrap (a*2 ^ (min b.toNat k.bits))) K) fail
 | .shr=>cB (zkR 0 b) (match a with | .ofNat a=>fN (fun r=>K (.c (.n k (.ofNat r)))) (a / 2 ^ (min b.toNat k.bits))|a=>kI k (a.fdiv (2 ^ (min b.toNat k.bits))) K) fail
noncomputable def nilT (op:BinOp) (r:Bool) (K:V→R):R:=match op with | .eql=>kB r K | .neq=>kB (!r) K|_=>fail
noncomputable def beqT (op:BinOp) (a b:Bool) (K:V→R):R:=match op with | .eql=>kB (a == b) K | .neq=>kB (a != b) K|_=>fail
noncomputable def zrb (a:List Nat):List Nat→Bool:=List.rec (fun b=>List.rec true (fun _ _ _=>false) b) (fun x _ ih b=>List.rec false (fun y r _=>Bool.rec false (ih r) (Nat.beq x y)) b) a
noncomputable def ziw (a:List Nat):Bool:=List.rec true (fun x _ ih=>Bool.rec false ih (Nat.blt x 256)) a
noncomputable def strT (op:BinOp) (a b:List Nat) (K:V→R):R:=
 match op with
 | .eql=>cB (ziw a&&ziw b) (kB (zrb a b) K) fail
 | .neq=>cB (ziw a&&ziw b) (kB (!zrb a b) K) fail
 | .add=>cB (Nat.ble (a.length+b.length) 9223372036854775807) (appK a b fun l=>K (.c (.s l))) fail
 | _=>fail
noncomputable def moved (v:V) (n:Nat) (K:V→R):R:=asC v fun c=>match c with | .b j o=>fN (fun o'=>K (.c (.b j o'))) (o+n) | .p a o=>fN (fun o'=>K (.c (.p a o'))) (o+n)|_=>fail
noncomputable def ptrNil (v:V) (K:Bool→R):R:=asC v fun c=>match c with | .np=>K true | .p _ _=>K false | .b _ _=>K false|_=>fail
noncomputable def asNil (v:V) (A:R):R:=asC v fun c=>match c with | .np=>A|_=>fail
noncomputable def asNilS (v:V) (A:R):R:=asC v fun c=>match c with | .nl=>A|_=>fail
noncomputable def slNil (v:V) (K:Bool→R):R:=match v with | .c .nl=>K true | .c (.l _ _ _ _)=>K false | .c (.g _ _ _ n)=>cB (Nat.blt 0 n) (K false) fail | .sl _ _=>K false|_=>fail
noncomputable def zov (v:V) (K:Nat→R):R:=asC v fun c=>match c with | .l _ _ n _=>K n | .g _ _ _ n=>K n | .nl=>K 0 | .h _ _ _ _ _ _=>K 0|_=>fail
noncomputable def zwk (v:V) (K:Nat→Nat→Nat→R):R:=asC v fun c=>match c with | .l a o n _=>K a o n | .g a o _ n=>K a o n|_=>fail
noncomputable def inI (i:Int) (n:Nat) (K:Nat→R):R:=match i with | .ofNat j=>cB (Nat.blt j n) (K j) fail|_=>fail
noncomputable def evIO (s:S) (x:Option Operand) (d:Int) (K:Int→R):R:=match x with|none=>K d|some x=>evI s x fun _ n=>K n
noncomputable def zkS (i:Int) (K:Nat→R):R:=match i with | .ofNat j=>K j|_=>fail
noncomputable def eqC (x y:C):Option Bool:=match x,y with | .n q a,.n q' b=>if q=q' then some (zmW a b) else none|_,_=>none
noncomputable def eqCs:List C→List C→Option Bool
 | [],[]=>some true
 | x::r,y::r'=>match eqC x y,eqCs r r' with|some t,some t'=>some (t&&t')|_,_=>none
 | _,_=>none
noncomputable def zs8 (l:List C):(List Nat→R)→R:=List.rec (fun K=>K []) (fun c _ ih K=>match c with | .n .u8 (.ofNat x)=>cB (Nat.blt x 256) (ih fun r=>K (x::r)) fail|_=>fail) l
noncomputable def slx (size:Nat) (v:V) (l h:Int) (K:V→R):R:=zkS l fun l=>zkS h fun h=>asC v fun c=>match c with
 | .nl=>cB (Nat.beq l 0) (cB (Nat.beq h 0) (K (.c .nl)) fail) fail
 | .l a o _ c=>cB (Nat.ble l h) (cB (Nat.ble h c) (Bool.rec (fN (fun o'=>fN (fun n'=>fN (fun c'=>K (.c (.l a o' n' c'))) (c - l)) (h - l)) (o+l*size)) (fN (fun n'=>fN (fun c'=>K (.c (.l a o n' c'))) (c - l)) (h - l)) (Nat.beq c l)) fail) fail
 | .g a o d n=>cB (Nat.ble l h) (cB (Nat.ble h n) (Bool.rec (Bool.rec (K (.c (.h a o d l size false))) (fN (fun o'=>fN (fun d'=>fN (fun n'=>K (.c (.g a o' d' n'))) (h - l)) (d+l)) (o+l*size)) (Nat.blt l n)) (fN (fun h'=>K (.c (.g a o d h'))) h) (Nat.beq l 0)) fail) fail
 | .h _ _ _ _ _ _=>cB (Nat.beq l 0) (cB (Nat.beq h 0) (K (.c c)) fail) fail
 | _=>fail
noncomputable def slx3 (size:Nat) (v:V) (l h m:Int) (K:V→R):R:=zkS l fun l=>zkS h fun h=>zkS m fun m=>asC v fun c=>match c with
 | .nl=>cB (Nat.beq l 0) (cB (Nat.beq h 0) (cB (Nat.beq m 0) (K (.c .nl)) fail) fail) fail
 | .l a o _ c=>cB (Nat.ble l h) (cB (Nat.ble h m) (cB (Nat.ble m c) (Bool.rec (fN (fun o'=>fN (fun n'=>fN (fun c'=>K (.c (.l a o' n' c'))) (m - l)) (h - l)) (o+l*size)) (fN (fun n'=>fN (fun c'=>K (.c (.l a o n' c'))) (m - l)) (h - l)) (Nat.beq m l)) fail) fail) fail
 | .g a o _ n=>cB (Nat.blt 0 n) (cB (Nat.ble l h) (cB (Nat.ble h m) (cB (Nat.ble m n) (Bool.rec (fN (fun o'=>fN (fun n'=>fN (fun c'=>K (.c (.l a o' n' c'))) (m - l)) (h - l)) (o+l*size)) (fN (fun n'=>fN (fun c'=>K (.c (.l a o n' c'))) (m - l)) (h - l)) (Nat.beq m l)) fail) fail) fail) fail
 | .h a o d k z _=>cB (Nat.beq l 0) (cB (Nat.beq h 0) (cB (Nat.beq m 0) (K (.c (.h a o d k z true))) fail) fail) fail
 | _=>fail
noncomputable def zlL (kk:KK) (v:V) (K:W→R):R:=
 match kk,v with
 | .int,.c (.n q n)=>K (.c (.n q n))
 | .str,.c (.s b)=>cB (ziw b) (K (.c (.s b))) fail
 | .agg n,.ag cs=>zc5 cs fun m=>cB (Nat.beq m n) (cB (cs.all fun c=>match c with | .n _ _=>true|_=>false) (K (.ag cs)) fail) fail
 | _,_=>fail
noncomputable def sameW:W→W→Option Bool
 | .c (.n k a),.c (.n k' b)=>if k=k' then some (zmW a b) else none
 | .c (.s a),.c (.s b)=>if ziw a&&ziw b then some (zrb a b) else none
 | .ag xs,.ag ys=>eqKs xs ys
 | _,_=>none
where
 eqKs:List C→List C→Option Bool
 | [],[]=>some true
 | .n k a::r,.n k' b::r'=>if k=k' then (if zmW a b then eqKs r r' else some false) else none
 | _,_=>none
noncomputable def kfind (k:W):List En→Nat→Option (Option (Nat×W))
 | [],_=>some none
 | e::es,i=>match sameW k e.key with
  | some true=>some (some (i,e.val))
  | some false=>kfind k es (i+1)
  | none=>none
noncomputable def asMap (v:V) (z:R) (K:Nat→R):R:=asC v fun c=>match c with | .nm=>z | .m a=>K a|_=>fail
noncomputable def O.mpK (x:O) (K:List En→Nat→R):R:=match x with | .mp es c=>K es c|_=>fail
noncomputable def mgot (ok:Bool) (z:Value) (f:Option (Nat×W)) (K:V→R):R:=
 match f with
 | some (_,w)=>(match ok with|true=>K (.tp [w,.c (.t true)])|false=>K (V.ofW w))
 | none=>V.ofV z fun v=>(match ok with|true=>(match v with | .c x=>K (.tp [.c x,.c (.t false)]) | .ag l=>K (.tp [.ag l,.c (.t false)])|_=>fail)|false=>K v)
noncomputable def capOf (v:V) (K:C→R):R:=match v with | .c x=>K x|_=>fail
noncomputable def evCaps (s:S) (l:List Operand):(List C→R)→R:=List.rec (fun K=>K []) (fun x _ ih K=>ev s x fun v=>capOf v fun c=>ih fun r=>K (c::r)) l
noncomputable def zHR (x:Operand) (s:S) (K:V→R):R:=ev s x K
noncomputable def zD4 (c a b:Operand) (s:S) (K:V→R):R:=evB s c fun t=>cB t (ev s a K) (ev s b K)
noncomputable def zBe (z:List Value) (parts:List (Nat×Nat×Operand)) (s:S) (K:V→R):R:=zs6 z fun z'=>build s parts z' fun cs=>K (.ag cs)
noncomputable def zD5 (g:Bool) (n:Nat) (p:Operand) (s:S) (K:V→R):R:=evP s p (fun _ o cs=>takeC cs o n fun l=>mkv g l K) (fun a o=>cB (Nat.blt 0 n) (row s a o n fun l=>mkv g l K) fail)
noncomputable def zBf (x:Operand) (s:S) (K:V→R):R:=ev s x fun v=>moved v 0 K
noncomputable def zBg (off:Nat) (p:Operand) (s:S) (K:V→R):R:=ev s p fun v=>moved v off K
noncomputable def zBh (g:Bool) (off n:Nat) (x:Operand) (s:S) (K:V→R):R:=ev s x fun v=>asAg v fun cs=>takeC cs off n fun l=>mkv g l K
noncomputable def zBi (size:Nat) (x i:Operand) (s:S) (K:V→R):R:=ev s x fun v=>zwk v fun a o n=>evI s i fun _ j=>inI j n fun j=>fN (fun o'=>K (.c (.p a o'))) (o+j*size)
noncomputable def zyW (len size:Nat) (p i:Operand) (s:S) (K:V→R):R:=evI s i fun _ j=>inI j len fun j=>ev s p fun v=>fN (fun m=>moved v m K) (j*size)
noncomputable def ilt (a b:Int):Bool := !zkR b a
noncomputable def zD6 (a:Nat) (d lo hi b:Int) (K:V→R):R:=
 fI (fun hi'=>fI (fun lo'=>fI (fun d'=>cB (zkR (-9223372036854775808) lo') (cB (zkR hi' 9223372036854775807) (K (.c (.xx a d' lo' hi'))) fail) fail) (zBd d b)) (zBd lo b)) (zBd hi b)
noncomputable def tri (t f:Bool) (K:V→R):R:=cB t (K (.c (.t true))) (cB f (K (.c (.t false))) fail)
noncomputable def xop (op:BinOp) (a:Nat) (d lo hi b:Int) (K:V→R):R:=
 match op with
 | .add=>zD6 a d lo hi b K
 | .sub=>zD6 a d lo hi (zHQ 0 b) K
 | .eql=>tri false (ilt b lo||ilt hi b) K
 | .neq=>tri (ilt b lo||ilt hi b) false K
 | .lss=>tri (ilt hi b) (zkR b lo) K
 | .leq=>tri (zkR hi b) (ilt b lo) K
 | .gtr=>tri (ilt b lo) (zkR hi b) K
 | .geq=>tri (zkR b lo) (ilt hi b) K
 | _=>fail
noncomputable def zJ9 (op:BinOp):BinOp:=match op with | .add => .add | .eql => .eql | .neq => .neq | .lss => .gtr | .leq => .geq | .gtr => .lss | .geq => .leq|_ => .mul
noncomputable def zD7 (q:IntKind):Bool:=IntKind.rec false false false true false false false false q
noncomputable def xr (op:BinOp) (q:IntKind) (a:Int) (v:V) (K:V→R) (z:R):R:=match v with | .c (.xx e d lo hi)=>cB (zD7 q) (xop (zJ9 op) e d lo hi a K) fail|_=>z
noncomputable def xl (op:BinOp) (u:V) (y:Operand) (s:S) (K:V→R) (z:R):R:=match u with | .c (.xx e d lo hi)=>evI s y fun q b=>cB (zD7 q) (xop op e d lo hi b K) fail|_=>z
noncomputable def zD8 (op:BinOp) (x y:Operand) (s:S) (K:V→R):R:=ev s x fun u=>xl op u y s K (asI u fun q a=>ev s y fun v=>xr op q a v K (asI v fun q' b=>sameK op q q' (ibin op q a b K)))
noncomputable def zD9 (op:BinOp) (x y:Operand) (s:S) (K:V→R):R:=evB s x fun a=>evB s y fun b=>beqT op a b K
noncomputable def zEa (op:BinOp) (x y:Operand) (s:S) (K:V→R):R:=ev s y fun u=>asNil u (ev s x fun v=>ptrNil v fun r=>nilT op r K)
noncomputable def zHS (x:Operand) (s:S) (K:V→R):R:=evB s x fun b=>kB (!b) K
noncomputable def zEb (q:IntKind) (x:Operand) (s:S) (K:V→R):R:=evI s x fun _ n=>match n with
 | .ofNat m=>cB (Nat.blt m (lim q)) (K (.c (.n q (.ofNat m)))) (kI q (q.wrap n) K)
 | _=>kI q (q.wrap n) K
noncomputable def zHT (x:Operand) (s:S) (K:V→R):R:=ev s x fun v=>zov v fun n=>K (.c (.n .i64 (.ofNat n)))
noncomputable def zEc (x:Operand) (s:S) (K:V→R):R:=ev s x fun v=>asStr v fun b=>zc5 b fun n=>K (.c (.n .i64 (.ofNat n)))
noncomputable def zwl (x:Operand) (i:Nat) (s:S) (K:V→R):R:=ev s x fun v=>asTp v fun l=>zs5 l i fun w=>K (V.ofW w)
noncomputable def zBj (x:Operand) (s:S) (K:V→R):R:=ev s x fun v=>asC v fun c=>match c with
 | .nl=>K (.c (.s []))
 | .h _ _ _ _ _ _=>K (.c (.s []))
 | .l a o n _=>row s a o n fun l=>zs8 l fun b=>K (.c (.s b))
 | .g a o _ n=>row s a o n fun l=>zs8 l fun b=>K (.c (.s b))
 | _=>fail
noncomputable def zEd (op:BinOp) (x y:Operand) (s:S) (K:V→R):R:=ev s x fun u=>asStr u fun a=>ev s y fun v=>asStr v fun b=>strT op a b K
noncomputable def zHU (mx:Bool) (x y:Operand) (s:S) (K:V→R):R:=evI s x fun q a=>evI s y fun _ b=>match mx with|true=>kI q (max a b) K|false=>kI q (min a b) K
noncomputable def zHV (size:Nat) (x:Operand) (lo hi:Option Operand) (s:S) (K:V→R):R:=ev s x fun v=>zov v fun n=>evIO s lo 0 fun l=>evIO s hi (.ofNat n) fun h=>slx size v l h K
noncomputable def zEe (size:Nat) (x lo hi m:Operand) (s:S) (K:V→R):R:=ev s x fun v=>zov v fun _=>evI s lo fun _ l=>evI s hi fun _ h=>evI s m fun _ m=>slx3 size v l h m K
noncomputable def zHW (op:BinOp) (n:Nat) (x y:Operand) (s:S) (K:V→R):R:=ev s x fun u=>asAg u fun cs=>zc5 cs fun m=>cB (Nat.beq m n) (ev s y fun v=>asAg v fun ds=>oV (eqCs cs ds) fun r=>nilT op r K) fail
noncomputable def zBk (op:BinOp) (x y:Operand) (s:S) (K:V→R):R:=ev s y fun u=>asNilS u (ev s x fun v=>slNil v fun r=>nilT op r K)
noncomputable def zEf (x i:Operand) (s:S) (K:V→R):R:=ev s x fun u=>asStr u fun a=>evI s i fun _ j=>zkS j fun j=>zs5 a j fun b=>cB (Nat.blt b 256) (K (.c (.n .u8 (.ofNat b)))) fail
noncomputable def zEg (g:Bool) (len size:Nat) (x i:Operand) (s:S) (K:V→R):R:=evI s i fun _ j=>inI j len fun j=>ev s x fun u=>asAg u fun cs=>takeC cs (j*size) size fun l=>mkv g l K
noncomputable def zEh (f:Nat) (caps:List Operand) (s:S) (K:V→R):R:=evCaps s caps fun l=>K (.fn f l)
noncomputable def zEi (f:Nat) (x:Operand) (s:S) (K:V→R):R:=ev s x fun v=>asC v fun c=>match c with | .p a o=>K (.c (.fm f a o))|_=>fail
noncomputable def zEj (x:Operand) (s:S) (K:V→R):R:=evI s x fun q n=>ibin .sub q 0 n K
noncomputable def zEk (x:Operand) (s:S) (K:V→R):R:=evI s x fun q n=>ibin .xor q (if q.signed then -1 else q.max) n K
noncomputable def zHX (x:Operand) (lo hi:Option Operand) (s:S) (K:V→R):R:=ev s x fun u=>asStr u fun a=>evIO s lo 0 fun l=>zc5 a fun m=>evIO s hi (.ofNat m) fun h=>zkS l fun l=>zkS h fun h=>cB (Nat.ble l h) (zD2 l a fun r=>zng (h - l) r fun b=>K (.c (.s b))) fail
noncomputable def zEl (kk:KK) (ok:Bool) (z:Value) (x key:Operand) (s:S) (K:V→R):R:=ev s x fun u=>ev s key fun kv=>zlL kk kv fun key=>
 asMap u (mgot ok z none K) fun b=>s.hget b fun x=>x.mpK fun es _=>oV (kfind key es 0) fun f=>mgot ok z f K
noncomputable def zEm (x:Operand) (s:S) (K:V→R):R:=ev s x fun u=>asMap u (K (.c (.n .i64 0))) fun b=>s.hget b fun x=>x.mpK fun es _=>zc5 es fun n=>K (.c (.n .i64 (.ofNat n)))
noncomputable def qNo (_:S) (_:V→R):R:=fail
noncomputable def qd:ROp→S→(V→R)→R:=
 @ROp.rec (fun _=>S→(V→R)→R) zHR zD4 (fun _ _=>qNo) (fun _ _=>qNo) zBe (fun _ _ _ _ _=>qNo) zD5 (fun _ _ _=>qNo) zBf zBg zBh zBi zyW zD8 zD9 zEa zHS zEb zHT zEc
  zwl zBj zEd zHU zEe zHV zHW zBk (fun _ _ _ _ _ _=>qNo) qNo (fun _=>qNo) zEf zEg zEh zEi (fun _ _=>qNo) (fun _ _=>qNo) (fun _=>qNo) (fun _=>qNo) zEj zEk zHX (fun _ _ _=>qNo) (fun _ _ _ _ _=>qNo) (fun _ _ _ _ _=>qNo)
  zEl zEm (fun _ _ _ _=>qNo) (fun _ _ _=>qNo) (fun _=>qNo) (fun _=>qNo) (fun _=>qNo) (fun _ _=>qNo)
noncomputable def flat (s:S) (c:C) (K:C→R):R:=match c with | .b j o=>atB s j (fun _ _=>fail) (fun a=>K (.p a o))|c=>K c
noncomputable def flats (s:S) (l:List C):(List C→R)→R:=List.rec (fun K=>K []) (fun c _ ih K=>flat s c fun c'=>ih fun r=>K (c'::r)) l
noncomputable def S.new (s:S) (o:O) (K:Nat→S→R):R:=S.rec (fun nl T L bx n H g=>H.set n (some o) fun H'=>fN (fun n'=>K n ⟨nl,T,L,bx,n',H',g⟩) (n+1)) s
noncomputable def S.hset (s:S) (a:Nat) (o:Option O) (K:S→R):R:=S.rec (fun nl T L bx n H g=>H.set a o fun H'=>K ⟨nl,T,L,bx,n,H',g⟩) s
noncomputable def S.bset (s:S) (j:Nat) (b:B) (K:S→R):R:=S.rec (fun nl T L bx n H g=>setK bx j b fun bx'=>K ⟨nl,T,L,bx',n,H,g⟩) s
noncomputable def S.badd (s:S) (b:B) (K:Nat→S→R):R:=S.rec (fun nl T L bx n H g=>zc5 bx fun j=>appK bx [b] fun bx'=>K j ⟨nl,T,L,bx',n,H,g⟩) s
noncomputable def pub (j:Nat) (s:S) (K:Nat→S→R):R:=atB s j (fun E cs=>flats s cs fun vs=>s.new (.row E vs) fun a s'=>s'.bset j (.gone a) fun s''=>K a s'') (fun a=>K a s)
noncomputable def shalC (c:C) (s:S) (K:C→S→R):R:=match c with | .b j o=>pub j s fun a s'=>K (.p a o) s'|c=>K c s
noncomputable def shalCs (l:List C):S→(List C→S→R)→R:=List.rec (fun s K=>K [] s) (fun c _ ih s K=>shalC c s fun c' s'=>ih s' fun r s''=>K (c'::r) s'') l
noncomputable def shal (v:V) (s:S) (K:W→S→R):R:=
 match v with
 | .c x=>shalC x s fun x' s'=>K (.c x') s'
 | .ag l=>shalCs l s fun l' s'=>K (.ag l') s'
 | .fn g l=>shalCs l s fun l' s'=>K (.fn g l') s'
 | .sl j n=>pub j s fun a s'=>K (.c (.l a 0 n n)) s'
 | _=>fail
noncomputable def shals (l:List Operand):S→(List W→S→R)→R:=List.rec (fun s K=>K [] s) (fun x _ ih s K=>ev s x fun v=>shal v s fun w s'=>ih s' fun r s''=>K (w::r) s'') l
noncomputable def O.wr (x:O) (o:Nat) (vs:List C) (K:O→R):R:=match x with | .row E l=>zyV o l vs fun l'=>K (.row E l') | .gr E z l=>zyV o l vs fun l'=>K (.gr E z l')|_=>fail
noncomputable def src (size:Nat) (v:V) (s:S) (K:Nat→List C→S→R):R:=
 match v with
 | .sl j n=>atB s j (fun _ cs=>zc5 cs fun m=>cB (Nat.beq m (n*size)) (shalCs cs s fun vs s'=>K n vs s') fail) (fun _=>fail)
 | .c .nl=>K 0 [] s
 | .c (.h _ _ _ _ _ _)=>K 0 [] s
 | .c (.l a o n _)=>row s a o (n*size) fun l=>K n l s
 | .c (.g a o _ n)=>row s a o (n*size) fun l=>K n l s
 | .c (.s b)=>cB (Nat.beq size 1) (zc5 b fun m=>List.rec (motive:=fun _=>(List C→R)→R) (fun K=>K []) (fun x _ ih K=>cB (Nat.blt x 256) (ih fun r=>K (.n .u8 (.ofNat x)::r)) fail) b fun l=>K m l s) fail
 | _=>fail
noncomputable def grow (E size bytes n:Nat) (L:List C) (m:Nat) (vs:List C) (s:S) (K:V→S→R):R:=
 cB (Nat.ble ((n+m)*bytes) 140737488355328) (cB (Nat.ble (n+m) maxLen) (appK L vs fun l=>fN (fun k=>s.new (.gr E size l) fun a s'=>K (.c (.g a 0 0 k)) s') (n+m)) fail) fail
noncomputable def zMG (E size bytes:Nat) (u:C) (s:S) (v:V) (K:V→S→R):R:=
 src size v s fun m vs s=>match u with
 | .nl=>grow E size bytes 0 [] m vs s K
 | .l a o n c=>Bool.rec (Bool.rec (cB (Nat.beq o 0) (s.hget a fun x=>match x with
  | .row E' l=>zc5 l fun k=>cB (Nat.beq E' E) (cB (Nat.beq k (c*size)) (cB (Nat.ble n c) (zng (n*size) l fun l'=>s.hset a none fun s'=>grow E size bytes n l' m vs s' K) fail) fail) fail
  | _=>fail) fail) (cB (Nat.ble ((n+m)*bytes) 140737488355328) (cB (Nat.ble (n+m) maxLen) (cB (Nat.ble n c) (K (.c (.l a o n c)) s) fail) fail) fail) (Nat.beq m 0)) (cB (Nat.ble n c) (row s a o (n*size) fun l=>grow E size bytes n l m vs s K) fail) (Nat.blt c (n+m))
 | .h _ _ _ _ _ true=>cB (Nat.blt 0 m) (grow E size bytes 0 [] m vs s K) fail
 | .g a o d n=>cB (Nat.beq o 0) (cB (Nat.beq d 0) (s.hget a fun x=>match x with
  | .gr E' z l=>cB (Nat.beq E' E) (cB (Nat.beq z size) (zng (n*size) l fun l'=>s.hset a none fun s'=>grow E size bytes n l' m vs s' K) fail) fail
  | _=>fail) fail) fail
 | _=>fail
abbrev Cal:=Nat→List W→Nat→T O→R
noncomputable def callF (F:Cal) (f:Nat) (ws:List W) (s:S) (K:V→S→R):R:=
 S.rec (fun nl T L bx n H g=>oV (F f ws n H) fun y=>Out.rec (fun _ _=>fail) (fun v n' H'=>K v ⟨nl,T,L,bx,n',H',g⟩) y) s
noncomputable def lQ (q:S→(V→R)→R) (s:S) (K:V→S→R):R:=q s fun v=>K v s
noncomputable def zMH (E:TypeId) (x:Operand) (s:S) (K:V→S→R):R:=ev s x fun v=>cellsOf v fun cs=>s.badd (.live E cs) fun j s'=>K (.c (.b j 0)) s'
noncomputable def zGv (E:TypeId) (z:List Value) (s:S) (K:V→S→R):R:=zs6 z fun cs=>s.badd (.live E cs) fun j s'=>K (.c (.b j 0)) s'
noncomputable def zKa (tmp:Bool) (E n:Nat) (z:List Value) (parts:List (Nat×Nat×Operand)) (s:S) (K:V→S→R):R:=
 zs6 z fun z'=>build s parts z' fun cs=>s.badd (.live E cs) fun j s'=>Bool.rec (pub j s' fun a s''=>K (.c (.l a 0 n n)) s'') (K (.sl j n) s') tmp
noncomputable def zGw (n:Nat) (p x:Operand) (s:S) (K:V→S→R):R:=ev s x fun v=>cellsOf v fun l=>zc5 l fun m=>cB (Nat.beq m n) (evP s p
  (fun j o cs=>zyV o cs l fun cs'=>atB s j (fun E _=>s.bset j (.live E cs') fun s'=>K .dead s') (fun _=>fail))
  (fun a o=>cB (Nat.blt 0 n) (shalCs l s fun vs s'=>s'.hget a fun ob=>ob.wr o vs fun ob'=>s'.hset a (some ob') fun s''=>K .dead s'') fail)) fail
noncomputable def zMI (E size bytes:Nat) (_:List Value) (x y:Operand) (s:S) (K:V→S→R):R:=ev s x fun u=>shal u s fun uw s1=>match uw with | .c u=>zov (.c u) fun _=>ev s1 y fun v=>zMG E size bytes u s1 v K|_=>fail
noncomputable def zGx (s:S) (K:V→S→R):R:=s.new (.mp [] 0) fun a s'=>K (.c (.m a)) s'
noncomputable def zCY (x:Operand) (s:S) (K:V→S→R):R:=ev s x fun v=>asC v fun c=>match c with
 | .l a o n k=>s.hget a fun ob=>match ob with | .row E l=>s.hset a (some (.ro E l)) fun s'=>K (.c (.l a o n k)) s' | .ro _ _=>K (.c (.l a o n k)) s|_=>fail
 | _=>fail
noncomputable def zMJ (size:Nat) (x y:Operand) (s:S) (K:V→S→R):R:=ev s x fun u=>shal u s fun uw s1=>match uw with
 | .c u=>zwk (.c u) fun a o m=>ev s1 y fun v=>src size v s1 fun n vs s2=>cB (Nat.ble n m) (zc5 vs fun q=>cB (Nat.blt 0 q) (cB (Nat.beq q (n*size)) (s2.hget a fun ob=>ob.wr o vs fun ob'=>s2.hset a (some ob') fun s3=>K (.c (.n .i64 (.ofNat n))) s3) fail) fail) fail
 | _=>fail
noncomputable def zGy (E bytes:Nat) (z:List Value) (x y:Operand) (s:S) (K:V→S→R):R:=evI s x fun _ n=>evI s y fun _ c=>zkS n fun n=>zkS c fun c=>cB (Nat.beq n c) (cB (Nat.ble (bytes*n) 281474976710656) (cB (Nat.ble n 9223372036854775807)
 (zs6 z fun z'=>zwj z' n fun l=>s.new (.row E l) fun a s'=>K (.c (.l a 0 n n)) s') fail) fail) fail
noncomputable def zGz (E bytes:Nat) (z:List Value) (x y:Operand) (s:S) (K:V→S→R):R:=evI s x fun _ n=>evI s y fun _ c=>zkS n fun n=>zkS c fun c=>cB (Nat.ble n c) (cB (Nat.ble (bytes*c) 281474976710656) (cB (Nat.ble c 9223372036854775807)
 (zs6 z fun z'=>zwj z' c fun l=>s.new (.row E l) fun a s'=>K (.c (.l a 0 n c)) s') fail) fail) fail
noncomputable def mput (es:List En) (c:Nat) (f:Option (Nat×W)) (key v:W) (K:O→R):R:=
 match f with
 | some (i,_)=>zs5 es i fun e=>setK es i ⟨key,v,e.born⟩ fun es'=>K (.mp es' c)
 | none=>fN (fun c'=>appK es [⟨key,v,c⟩] fun es'=>K (.mp es' c')) (c+1)
noncomputable def zHY {α:Type} (l:List α):Nat→(List α→R)→R:=List.rec (fun _ _=>fail) (fun a r ih k K=>Nat.rec (K r) (fun m _=>ih m fun r'=>K (a::r')) k) l
noncomputable def zKb (kk:KK) (x key y:Operand) (s:S) (K:V→S→R):R:=ev s x fun u=>asMap u fail fun b=>ev s key fun kv=>zlL kk kv fun key=>ev s y fun v=>shal v s fun w s'=>s'.hget b fun ob=>ob.mpK fun es c=>oV (kfind key es 0) fun f=>mput es c f key w fun ob'=>s'.hset b (some ob') fun s''=>K .dead s''
noncomputable def zKc (kk:KK) (x key:Operand) (s:S) (K:V→S→R):R:=ev s x fun u=>ev s key fun kv=>zlL kk kv fun key=>asMap u (K (.tp []) s) fun b=>s.hget b fun ob=>ob.mpK fun es c=>oV (kfind key es 0) fun f=>match f with
 | some (i,_)=>zHY es i fun es'=>s.hset b (some (.mp es' c)) fun s'=>K (.tp []) s'
 | none=>K (.tp []) s
noncomputable def zCZ (x:Operand) (s:S) (K:V→S→R):R:=ev s x fun u=>asMap u (s.new (.it none 0 [] 0) fun a s'=>K (.c (.p a 0)) s') fun m=>s.hget m fun ob=>ob.mpK fun _ c=>s.new (.it (some m) c [] c) fun a s'=>K (.c (.p a 0)) s'
noncomputable def zxU (seen:List Nat) (es:List En):List En:=es.filter fun e => !seen.contains e.born
noncomputable def zGA (it:Operand) (s:S) (K:V→S→R):R:=evP s it (fun _ _ _=>fail) fun a o=>cB (Nat.beq o 0) (s.hget a fun ob=>match ob with
 | .it none _ _ _=>K (.tp [.c (.t false)]) s
 | .it (some m) since seen last=>s.hget m fun om=>om.mpK fun es clock=>cB (seen.isEmpty||es.isEmpty||es.any fun e=>Nat.blt e.born last) (match zxU seen es with
  | []=>K (.tp [.c (.t false)]) s
  | [e]=>cB (Nat.blt e.born since) (s.hset a (some (.it (some m) since (seen++[e.born]) clock)) fun s'=>K (.tp [.c (.t true),e.key,e.val]) s') fail
  | _=>fail) fail
 | _=>fail) fail
noncomputable def zC0 (x:Operand) (s:S) (K:V→R):R:=evP s x (fun _ _ _=>fail) fun a o=>cB (Nat.beq o 0) (s.hget a fun ob=>match ob with
 | .it (some m) _ seen last=>s.hget m fun om=>om.mpK fun es clock=>cB (Nat.beq clock last) (match seen.getLast? with
  | some b=>(match es.find? fun e=>Nat.beq e.born b with|some e=>K (.tp [e.key,e.val])|none=>fail)
  | none=>fail) fail
 | _=>fail) fail
noncomputable def zKd (F:Cal) (f:Operand) (args:List Operand) (s:S) (K:V→S→R):R:=ev s f fun v=>shals args s fun ws s'=>match v with
 | .c (.f g)=>callF F g ws s' K
 | .c (.fm g a o)=>callF F g (.c (.p a o)::ws) s' K
 | .fn g l=>shalCs l s' fun l' s''=>appK ws (l'.map .c) fun ws'=>callF F g ws' s'' K
 | _=>fail
noncomputable def zMK (z:Value) (x:Operand) (s:S) (K:V→S→R):R:=ev s x fun v=>zov v fun n=>Bool.rec (zwk v fun a o _=>oV (C.ofV z) fun c=>zwj [c] n fun vs=>s.hget a fun ob=>ob.wr o vs fun ob'=>s.hset a (some ob') fun s'=>K (.tp []) s') (K (.tp []) s) (Nat.beq n 0)
noncomputable def zML (n:Nat) (x:Operand) (s:S) (K:V→S→R):R:=ev s x fun u=>shal u s fun w s'=>match w with | .c (.p a o)=>K (.c (.l a o n n)) s'|_=>fail
noncomputable def zC1 (x:Operand) (s:S) (K:V→S→R):R:=ev s x fun u=>asStr u fun b=>cB (ziw b) (s.new (.si b 0) fun a s'=>K (.c (.p a 0)) s') fail
noncomputable def zGB (it:Operand) (s:S) (K:V→S→R):R:=evP s it (fun _ _ _=>fail) fun a o=>cB (Nat.beq o 0) (s.hget a fun ob=>match ob with
 | .si l p=>zc5 l fun n=>Bool.rec (K (.tp [.c (.t false)]) s) (zs5 l p fun b=>cB (Nat.blt b 128) (fN (fun p'=>s.hset a (some (.si l p')) fun s'=>K (.tp [.c (.t true),.c (.n .i64 (.ofNat p)),.c (.n .i32 (.ofNat b))]) s') (p+1)) fail) (Nat.blt p n)
 | _=>fail) fail
noncomputable def st (F:Cal):ROp→S→(V→S→R)→R:=
 @ROp.rec (fun _=>S→(V→S→R)→R) (fun x=>lQ (zHR x)) (fun a b c=>lQ (zD4 a b c)) zMH zGv (fun z p=>lQ (zBe z p)) zKa (fun g n p=>lQ (zD5 g n p)) zGw (fun x=>lQ (zBf x)) (fun o p=>lQ (zBg o p)) (fun g o n x=>lQ (zBh g o n x))
  (fun n x i=>lQ (zBi n x i)) (fun l n x i=>lQ (zyW l n x i)) (fun o x y=>lQ (zD8 o x y)) (fun o x y=>lQ (zD9 o x y)) (fun o x y=>lQ (zEa o x y)) (fun x=>lQ (zHS x)) (fun k x=>lQ (zEb k x)) (fun x=>lQ (zHT x)) (fun x=>lQ (zEc x))
  (fun x i=>lQ (zwl x i)) (fun x=>lQ (zBj x)) (fun o x y=>lQ (zEd o x y)) (fun m x y=>lQ (zHU m x y)) (fun n x l h m=>lQ (zEe n x l h m)) (fun n x l h=>lQ (zHV n x l h)) (fun o n x y=>lQ (zHW o n x y)) (fun o x y=>lQ (zBk o x y)) zMI zGx zCY
  (fun x i=>lQ (zEf x i)) (fun g l n x i=>lQ (zEg g l n x i)) (fun f c=>lQ (zEh f c)) (fun f x=>lQ (zEi f x)) zMK zML zC1 zGB (fun x=>lQ (zEj x)) (fun x=>lQ (zEk x)) (fun x l h=>lQ (zHX x l h)) zMJ zGy zGz
  (fun k o z x y=>lQ (zEl k o z x y)) (fun x=>lQ (zEm x)) zKb zKc zCZ zGA (fun x=>lQ (zC0 x)) (zKd F)
noncomputable def sp (b:Bool) (v:V) (K:V→R):R:=Bool.rec (K v) (asB v fun t=>kB t K) b
noncomputable def zrc:V := .tp []
noncomputable def op (F:Cal) (o:zZ) (s:S) (K:S→R):R:=st F o.op s fun v s'=>sp o.sp v fun v'=>s'.put o.dst v' K
noncomputable def gd (b:Bool) (v:V) (run skip:R):R:=match v with | .c (.t x)=>(match b with|true=>cB x run skip|false=>cB x skip run) | .tp _=>skip|_=>fail
noncomputable def opG (F:Cal) (o:zZ) (s:S) (K:S→R):R:=Option.rec (op F o s K) (fun g=>ev s (.tmp g.1) fun v=>gd g.2 v (op F o s K) (s.put o.dst zrc K)) o.guard
noncomputable def ops (F:Cal) (l:List zZ):S→(S→R)→R:=List.rec (fun s K=>K s) (fun o _ ih s K=>opG F o s fun s'=>ih s' K) l
end
section
noncomputable def zM (a b:Bool):Bool:=Bool.rec false b a
noncomputable def zpa {α:Type} (f:α→α→Bool) (a:List α):List α→Bool:=List.rec (fun b=>List.rec true (fun _ _ _=>false) b) (fun x _ ih b=>List.rec false (fun y r _=>zM (f x y) (ih r)) b) a
noncomputable def zOJ (a b:IntKind):Bool:=decide (a=b)
noncomputable def zBl (a b:Int):Bool:=zmW a b
noncomputable def C.eqb (a b:C):Bool:=
 match a,b with
 | .n q x,.n q' y=>zM (zBl x y) (zOJ q q')
 | .t x,.t y=>x == y
 | .s x,.s y=>zrb x y
 | .p a o,.p a' o'=>zM (Nat.beq a a') (Nat.beq o o')
 | .np,.np=>true
 | .l a o x w,.l a' o' x' w'=>zM (Nat.beq a a') (zM (Nat.beq o o') (zM (Nat.beq x x') (Nat.beq w w')))
 | .g a o x w,.g a' o' x' w'=>zM (Nat.beq a a') (zM (Nat.beq o o') (zM (Nat.beq x x') (Nat.beq w w')))
 | .nl,.nl=>true
 | .m a,.m a'=>Nat.beq a a'
 | .nm,.nm=>true
 | .b a o,.b a' o'=>zM (Nat.beq a a') (Nat.beq o o')
 | .f a,.f a'=>Nat.beq a a'
 | .fm x a o,.fm x' a' o'=>zM (Nat.beq x x') (zM (Nat.beq a a') (Nat.beq o o'))
 | .h a o d k z w,.h a' o' d' k' z' w'=>zM (Nat.beq a a') (zM (Nat.beq o o') (zM (Nat.beq d d') (zM (Nat.beq k k') (zM (Nat.beq z z') (w == w')))))
 | .ni,.ni=>true
 | .nf,.nf=>true
 | .xx a d lo hi,.xx a' d' lo' hi'=>zM (Nat.beq a a') (zM (zBl d d') (zM (zBl lo lo') (zBl hi hi')))
 | _,_=>false
noncomputable def zkT:List C→List C→Bool:=zpa C.eqb
noncomputable def W.eqb (a b:W):Bool:=match a,b with | .c x,.c y=>x.eqb y | .ag x,.ag y=>zkT x y | .fn g x,.fn g' y=>zM (Nat.beq g g') (zkT x y)|_,_=>false
noncomputable def V.eqb (a b:V):Bool:=match a,b with | .c x,.c y=>x.eqb y | .ag x,.ag y=>zkT x y | .fn g x,.fn g' y=>zM (Nat.beq g g') (zkT x y) | .tp x,.tp y=>zpa W.eqb x y | .sl j n,.sl j' n'=>zM (Nat.beq j j') (Nat.beq n n') | .dead,.dead=>true|_,_=>false
noncomputable def En.eqb (a b:En):Bool:=match a,b with|⟨k,v,n⟩,⟨k',v',n'⟩=>zM (k.eqb k') (zM (v.eqb v') (Nat.beq n n'))
noncomputable def oN (a b:Option Nat):Bool:=match a,b with|some a,some b=>Nat.beq a b|none,none=>true|_,_=>false
noncomputable def O.eqb (a b:O):Bool:=
 match a,b with
 | .row E l,.row E' l'=>zM (Nat.beq E E') (zkT l l')
 | .ro E l,.ro E' l'=>zM (Nat.beq E E') (zkT l l')
 | .gr E z l,.gr E' z' l'=>zM (Nat.beq E E') (zM (Nat.beq z z') (zkT l l'))
 | .mp es c,.mp es' c'=>zM (zpa En.eqb es es') (Nat.beq c c')
 | .si l p,.si l' p'=>zM (zrb l l') (Nat.beq p p')
 | .it m a s t,.it m' a' s' t'=>zM (oN m m') (zM (Nat.beq a a') (zM (zrb s s') (Nat.beq t t')))
 | _,_=>false
noncomputable def zAz (a b:Option O):Bool:=match a,b with|some a,some b=>a.eqb b|none,none=>true|_,_=>false
noncomputable def zBm (a:T O):T O→Bool:=
 T.rec (fun b=>T.rec true (fun _ _ _ _ _=>false) b) (fun _ v _ gl gr b=>T.rec false (fun l' v' r' _ _=>zM (gl l') (zM (zAz v v') (gr r'))) b) a
noncomputable def B.eqb (a b:B):Bool:=match a,b with | .live E l,.live E' l'=>zM (Nat.beq E E') (zkT l l') | .gone a,.gone a'=>Nat.beq a a'|_,_=>false
noncomputable def sw (a b k:Nat):Nat:=Bool.rec (Bool.rec k a (Nat.beq k b)) b (Nat.beq k a)
noncomputable def C.ren (a b:Nat) (c:C):C:=match c with
 | .p x o => .p (sw a b x) o
 | .l x o y k => .l (sw a b x) o y k
 | .g x o d y => .g (sw a b x) o d y
 | .m x => .m (sw a b x)
 | .fm q x o => .fm q (sw a b x) o
 | .h x o d k z w => .h (sw a b x) o d k z w
 | .xx y d lo hi => .xx (sw a b y) d lo hi
 | c=>c
noncomputable def W.ren (a b:Nat) (w:W):W:=match w with | .c x => .c (x.ren a b) | .ag l => .ag (l.map (C.ren a b)) | .fn q l => .fn q (l.map (C.ren a b))
noncomputable def V.ren (a b:Nat) (v:V):V:=match v with | .c x => .c (x.ren a b) | .ag l => .ag (l.map (C.ren a b)) | .fn q l => .fn q (l.map (C.ren a b)) | .tp l => .tp (l.map (W.ren a b)) | .sl j n => .sl j n | .dead => .dead
noncomputable def En.ren (a b:Nat) (e:En):En:=⟨e.key.ren a b,e.val.ren a b,e.born⟩
noncomputable def O.ren (a b:Nat) (o:O):O:=match o with
 | .row E l => .row E (l.map (C.ren a b))
 | .ro E l => .ro E (l.map (C.ren a b))
 | .gr E z l => .gr E z (l.map (C.ren a b))
 | .mp es c => .mp (es.map (En.ren a b)) c
 | .it m s l t => .it (m.map (sw a b)) s l t
 | .si l p => .si l p
noncomputable def B.ren (a b:Nat) (x:B):B:=match x with | .live E l => .live E (l.map (C.ren a b)) | .gone k => .gone (sw a b k) | .dark => .dark
noncomputable def T.ren (a b:Nat) (t:T O):T O:=T.rec .e (fun _ v _ il ir => .n il (v.map (O.ren a b)) ir) t
noncomputable def T.pt (t:T O) (k:Nat) (x:Option O):T O:=t.set k x fun t'=>t'
noncomputable def T.swp (a b:Nat) (H:T O):T O:=((H.ren a b).pt a ((H.get b).map (O.ren a b))).pt b ((H.get a).map (O.ren a b))
noncomputable def S.swp (a b:Nat) (s:S):S:=S.rec (fun nl tl L bx n H g=>⟨nl,tl.map fun p=>(p.1,p.2.ren a b),L.map fun v=>v.map (V.ren a b),bx.map (B.ren a b),n,H.swp a b,g⟩) s
noncomputable def O.ord (o:O):Nat:=match o with | .row E l=>E*64+l.length | .ro E l=>E*64+l.length | .gr E _ l=>E*64+l.length | .mp _ _=>1|_=>0
noncomputable def swB (a b:Nat) (H:T O):Bool:=match H.get a,H.get b with|some x,some y=>Nat.blt y.ord x.ord|_,_=>false
noncomputable def S.cs (a b:Nat) (s:S):S:=Bool.rec s (s.swp a b) (swB a b s.H)
noncomputable def zEn (n:Nat) (s:S):S:=((((s.cs n (n+1)).cs (n+2) (n+3)).cs n (n+2)).cs (n+1) (n+3)).cs (n+1) (n+2)
noncomputable def zgg {α:Type} (f:α→(α→R)→R) (l:List α):(List α→R)→R:=List.rec (fun K=>K []) (fun a _ ih K=>f a fun a'=>ih fun r=>K (a'::r)) l
noncomputable def zyX {α:Type} (f:α→(α→R)→R) (x:Option α) (K:Option α→R):R:=Option.rec (K none) (fun v=>f v fun v'=>K (some v')) x
noncomputable def fcC (c:C) (K:C→R):R:=match c with
 | .p x o=>fN (fun x=>K (.p x o)) x
 | .l x o n k=>fN (fun x=>K (.l x o n k)) x
 | .g x o d n=>fN (fun x=>K (.g x o d n)) x
 | .m x=>fN (fun x=>K (.m x)) x
 | .fm g x o=>fN (fun x=>K (.fm g x o)) x
 | .h x o d k z w=>fN (fun x=>K (.h x o d k z w)) x
 | .xx y d lo hi=>fN (fun y=>K (.xx y d lo hi)) y
 | c=>K c
noncomputable def fcW (w:W) (K:W→R):R:=match w with | .c x=>fcC x fun x=>K (.c x) | .ag l=>zgg fcC l fun l=>K (.ag l) | .fn g l=>zgg fcC l fun l=>K (.fn g l)
noncomputable def fcV (v:V) (K:V→R):R:=match v with | .c x=>fcC x fun x=>K (.c x) | .ag l=>zgg fcC l fun l=>K (.ag l) | .fn g l=>zgg fcC l fun l=>K (.fn g l) | .tp l=>zgg fcW l fun l=>K (.tp l)|v=>K v
noncomputable def fcE (e:En) (K:En→R):R:=En.rec (fun k v n=>fcW k fun k=>fcW v fun v=>K ⟨k,v,n⟩) e
noncomputable def fcO (o:O) (K:O→R):R:=match o with
 | .row E l=>zgg fcC l fun l=>K (.row E l)
 | .ro E l=>zgg fcC l fun l=>K (.ro E l)
 | .gr E z l=>zgg fcC l fun l=>K (.gr E z l)
 | .mp es c=>zgg fcE es fun es=>K (.mp es c)
 | .it m s l t=>zyX (fun x K=>fN K x) m fun m=>K (.it m s l t)
 | .si l p=>K (.si l p)
noncomputable def fcB (x:B) (K:B→R):R:=match x with | .live E l=>zgg fcC l fun l=>K (.live E l) | .gone k=>fN (fun k=>K (.gone k)) k | .dark=>K .dark
noncomputable def fcT (t:T O):(T O→R)→R:=T.rec (fun K=>K .e) (fun _ v _ il ir K=>il fun l=>zyX fcO v fun v=>ir fun r=>K (.n l v r)) t
noncomputable def fcS (s:S) (K:S→R):R:=S.rec (fun nl tl L bx n H g=>zgg (fun p K=>Prod.rec (fun d v=>fcV v fun v=>K (d,v)) p) tl fun tl=>zgg (zyX fcV) L fun L=>zgg fcB bx fun bx=>fcT H fun H=>K ⟨nl,tl,L,bx,n,H,g⟩) s
noncomputable def zMO (a b:Nat×V):Bool:=match a,b with|(d,v),(d',v')=>zM (Nat.beq d d') (v.eqb v')
noncomputable def zEo (a b:Option V):Bool:=match a,b with|some a,some b=>a.eqb b|none,none=>true|_,_=>false
noncomputable def S.eqb (a b:S):Bool:=match a,b with
 | ⟨nl,tl,L,bx,n,H,none⟩,⟨nl',tl',L',bx',n',H',none⟩=>zM (Nat.beq nl nl') (zM (Nat.beq n n') (zM (zpa zMO tl tl') (zM (zpa zEo L L') (zM (zpa B.eqb bx bx') (zBm H H')))))
 | _,_=>false
noncomputable def zHZ (x y:R):R:=oV x fun a=>oV y fun b=>match a,b with
 | .rt v n H,.rt v' n' H'=>cB (zM (v.eqb v') (zM (Nat.beq n n') (zBm H H'))) (some (.rt v n H)) fail
 | .st .normal s,.st .normal s'=>cB (s.eqb s') (some (.st .normal s)) fail
 | _,_=>fail
noncomputable def S.with (s:S) (bx:List B) (H:T O) (g:Option (List Nat)):S:=S.rec (fun nl t L _ n _ _=>⟨nl,t,L,bx,n,H,g⟩) s
noncomputable def rdV (bx:List B) (v:V) (K:List Nat→R):R:=match v with
 | .c (.b j _)=>zs5 bx j fun b=>B.rec (fun _ _=>K []) (fun a=>K [a]) (K []) b
 | .c (.p a _)=>K [a]
 | .c (.l a _ _ _)=>K [a]
 | .c (.g a _ _ _)=>K [a]
 | .c (.m a)=>K [a]
 | _=>K []
noncomputable def rdE (s:S) (bx:List B) (x:Operand) (K:List Nat→R):R:=ev s x fun v=>rdV bx v K
noncomputable def rds (bx:List B) (o:ROp) (s:S) (K:List Nat→R):R:=
 match o with
 | .load _ _ p=>rdE s bx p K
 | .strOf x=>rdE s bx x K
 | .mget _ _ _ x _=>rdE s bx x K
 | .mlen x=>rdE s bx x K
 | .mentry _=>fail
 | _=>K []
inductive Md where
 | free
 | coll
 | kp (l:List Nat)
noncomputable def tk1 (kp:Md) (bx0:List B) (o:zZ) (HX:T O) (s:S) (acc:List Nat) (K:S→List Nat→R):R:=
 let go (g:Option (List Nat)) (acc:List Nat):R:=qd o.op (s.with bx0 HX g) fun v=>sp o.sp v fun v'=>s.put o.dst v' fun s'=>K s' acc
 match kp with
 | .free=>go none acc
 | .kp l=>go (some l) acc
 | .coll=>rds bx0 o.op s fun r=>appK r acc fun acc'=>go none acc'
noncomputable def tk (kp:Md) (bx0:List B) (o:zZ) (HX:T O) (s:S) (acc:List Nat) (K:S→List Nat→R):R:=
 Option.rec (tk1 kp bx0 o HX s acc K) (fun g=>ev s (.tmp g.1) fun v=>gd g.2 v (tk1 kp bx0 o HX s acc K) (s.put o.dst zrc fun s'=>K s' acc)) o.guard
noncomputable def zBo (kp:List Nat) (H H':T O):Bool:=List.rec true (fun a _ ih=>match H.get a with|none=>ih|some o=>(match H'.get a with|some o'=>zM (o.eqb o') ih|none=>false)) kp
noncomputable def zEp (H:T O) (e f:B):Bool:=match e,f with
 | .live _ _,.dark=>true
 | .gone a,.live E cs=>(match H.get a with|some (.row E' cs')=>zM (Nat.beq E E') (zkT cs cs')|_=>false)
 | e,f=>e.eqb f
noncomputable def bxs (H:T O) (bx0:List B):List B→Bool:=List.rec (fun _=>true) (fun f _ ih l=>List.rec false (fun e r _=>zM (zEp H e f) (ih r)) l) bx0
noncomputable def zEq (need:Bool) (kp:Md) (bx0:List B) (HX:T O) (s:S) (K:T O→R):R:=
 match need with
 | false=>K HX
 | true=>(match kp with
  | .free=>fail
  | .coll=>K s.H
  | .kp l=>cB (zBo l HX s.H) (cB (bxs s.H bx0 s.bx) (K s.H) fail) fail)
noncomputable def isNone (t:DTree):Bool:=match t with | .none=>true|_=>false
noncomputable def zEr (md:Md) (more:DTree) (a b:R):R:=match isNone more with|true=>a|false=>(match md with | .coll=>a|_=>zHZ a b)
noncomputable def opD (F:Cal) (o:zZ) (s:S) (K K2:S→R):R:=Option.rec (op F o s K) (fun g=>ev s (.tmp g.1) fun v=>gd g.2 v (op F o s K) (s.put o.dst zrc K2)) o.guard
noncomputable def dr (F:Cal) (kp:Md) (bx0:List B):DTree→T O→S→List Nat→(S→List Nat→R)→R:=
 DTree.rec (fun _ s acc K=>K s acc)
  (fun o _ ih HX s acc K=>tk kp bx0 o HX s acc fun s' acc'=>ih HX s' acc' K)
  (fun o need _ more ih ihm HX s acc K=>zEr kp more (opD F o s (fun s'=>zEq need kp bx0 HX s' fun HX'=>ih HX' s' acc K) (fun s'=>ih HX s' acc K)) (ihm HX s acc K))
  (fun _ _ _ _=>fail)
noncomputable def zBp:DTree→Bool:=DTree.rec false (fun _ _ ih=>ih) (fun _ need _ _ ih ihm=>need||ih||ihm) false
noncomputable def zBq:DTree→Bool:=DTree.rec false (fun _ _ ih=>ih) (fun o need _ _ ih ihm=>(need&&ztG o.op)||ih||ihm) false
noncomputable def zH0 (ks:List Nat) (l:List B):Nat→List B:=List.rec (fun _=>[]) (fun b _ ih i=>Bool.rec b .dark (mem i ks)::ih (i+1)) l
noncomputable def chg (bx0:List B):List B→Nat→List Nat:=List.rec (fun _ _=>[]) (fun f _ ih l i=>List.rec [] (fun e r _=>match e,f with
 | .live E cs,.live E' cs'=>Bool.rec (i::ih r (i+1)) (ih r (i+1)) (zM (Nat.beq E E') (zkT cs cs'))
 | _,_=>ih r (i+1)) l) bx0
noncomputable def zBr (l:List C):List Nat:=l.map fun w=>match w with | .f a=>a|_=>0
noncomputable def draw (F:Cal) (t:DTree) (s:S) (K:S→R):R:=
 match zBp t with
 | true=>oV (dr F .coll s.bx t s.H s [] fun s' acc=>some (.rt (.tp [.ag (acc.map .f),.ag ((chg s.bx s'.bx 0).map .f)]) 0 .e)) fun y=>(match y with
  | .rt (.tp [.ag kp,.ag ks]) _ _=>zc5 kp fun _=>zc5 ks fun _=>(match zBq t with
   | true=>dr F (.kp (zBr kp)) (zH0 (zBr ks) s.bx 0) t s.H s [] fun s' _=>K s'
   | false=>dr F (.kp (zBr kp)) s.bx t s.H s [] fun s' _=>K s')
  | _=>fail)
 | false=>dr F .free s.bx t s.H s [] fun s' _=>K s'
noncomputable def zOM:DTree→Nat:=DTree.rec 1 (fun _ _ ih=>ih) (fun _ _ _ _ ih ihm=>ih+ihm) 0
noncomputable def zAA (F:Cal) (t:DTree) (s:S) (K:S→R):R:=match Nat.blt 8 (zOM t) with
 | true=>oV (draw F t s fun s'=>s'.cut fun s''=>fcS (zEn s.n s'') fun s3=>some (.st .normal s3)) fun y=>(match y with | .st _ s1=>K s1|_=>fail)
 | false=>draw F t s K
noncomputable def zAB (ra:S→(X→S→R)→R) (n:Nat):S→(X→S→R)→R:=
 Nat.rec (fun _ _=>fail) (fun _ ih s K=>ra s fun e s'=>X.rec (ih s' K) (K .ret s') (fun i=>K (.exit i) s') e) n
noncomputable def zlM (F:Cal) (N:Nat):RCode→S→(X→S→R)→R:=
 RCode.rec (fun s K=>K .normal s)
  (fun t kl s K=>List.rec (zAA F t s fun s'=>s'.cut fun s''=>K .normal s'') (fun _ _ _=>fail) kl)
  (fun l kl s K=>List.rec (ops F l s fun s'=>s'.cut fun s''=>K .normal s'') (fun _ _ _=>fail) kl)
  (fun _ _ ra rb s K=>ra s fun e s'=>X.rec (rb s' K) (K .ret s') (fun i=>K (.exit i) s') e)
  (fun c _ _ ra rb s K=>evB s c fun t=>Bool.rec (rb s K) (ra s K) t)
  (fun id _ ra s K=>ra s fun e s'=>X.rec (K .normal s') (K .ret s') (fun i=>Bool.rec (K (.exit i) s') (K .normal s') (Nat.beq i id)) e)
  (fun _ ra s K=>zAB ra N s K)
  (fun id s K=>K (.exit id) s)
  (fun s K=>K .ret s)
  (fun _ ra s K=>ra s K)
  (fun _ _ _ _ _ _ _ _=>fail)
noncomputable def zMQ (r:zc) (s:S) (K:W→S→R):R:=
 match r with
 | .tmp t=>ev s (.tmp t) fun v=>shal v s K
 | .cell g n t=>evP s (.tmp t) (fun _ o cs=>takeC cs o n fun l=>mkv g l fun v=>shal v s K) (fun a o=>cB (Nat.blt 0 n) (row s a o n fun l=>mkv g l fun v=>shal v s K) fail)
noncomputable def zwm (rs:List zc):S→(List W→S→R)→R:=List.rec (fun s K=>K [] s) (fun r _ ih s K=>zMQ r s fun w s'=>ih s' fun ws s''=>K (w::ws) s'') rs
noncomputable def outS (v:V) (s:S):R:=S.rec (fun _ _ _ _ n H _=>some (.rt v n H)) s
noncomputable def zyY (ws:List W) (s:S):R:=match ws with|[w]=>outS (V.ofW w) s|ws=>outS (.tp ws) s
structure FC where
 nl:Nat
 c:RCode
 rs:List zc
noncomputable def zH1 (n:Nat):(List (Option V)→R)→R:=Nat.rec (fun K=>K []) (fun _ ih K=>ih fun r=>K (none::r)) n
noncomputable def zH2 (ws:List W):List (Option V)→(List (Option V)→R)→R:=List.rec (fun l K=>K l) (fun w _ ih l K=>List.rec fail (fun _ r _=>ih r fun r'=>K (some (V.ofW w)::r')) l) ws
noncomputable def body (F:Cal) (N:Nat) (f:FC) (ws:List W) (n:Nat) (H:T O):R:=
 FC.rec (fun nl c rs=>zH1 nl fun L=>zH2 ws L fun L'=>zlM F N c ⟨nl,[],L',[],n,H,none⟩ fun e s=>X.rec (zwm rs s zyY) (zwm rs s zyY) (fun _=>fail) e) f
noncomputable def run (prim:T (List W→Nat→T O→R)) (tab:T FC) (N:Nat) (d:Nat):Cal:=
 Nat.rec (fun _ _ _ _=>fail) (fun _ F g ws n H=>Option.rec (oV (tab.get g) fun f=>body F N f ws n H) (fun p=>p ws n H) (prim.get g)) d
end
end Go.Vm.Rn
