/- Part of this proof;laid by program. -/
import Derived.WalkKit
import Derived.WalkSpells
import Derived.WalkLawsBesides
import Derived.OrdersHeld
import Derived.Scope
import Derived.Deep.Upon
import Derived.Laws.StructEq
import Derived.Laws.IdiomStrings
import Derived.WideKeyRuns
import Derived.ChangeKeysEq
import Derived.MapKept
import Derived.RangeFuncNested
import Derived.RangeFuncCalls
set_option linter.unusedVariables false
set_option linter.unusedSimpArgs false
theorem Zd0 {p:Prop} [Decidable p]:decide p=true→p:=of_decide_eq_true
theorem Zd1 {p:Prop} [Decidable p]:decide p=false→¬p:=of_decide_eq_false
namespace Go.Vm
def Mem:Type:=Nat→Option Obj
namespace Mem
def le (A M:Mem):Prop:=∀ b o,A b=some o→M b=some o
def disj (A B:Mem):Prop:=∀ b,A b=none∨B b=none
def upd (M:Mem) (b:Nat) (o:Obj):Mem:=fun c=>if c=b then some o else M c
def row (M:Mem) (b o n:Nat):Option (List Value):=
 match M b with
 | some (.cells c _ _)=>if o+n≤c.size then some ((c.toList.drop o).take n) else none
 | _=>none
def cells (M:Mem) (b:Nat):Option (TypeId×List Value):=
 match M b with
 | some (.cells c e (0,0))=>some (e,c.toList)
 | _=>none
def setCells (M:Mem) (b:Nat) (e:TypeId) (l:List Value):Mem:=M.upd b (.cells l.toArray e (0,0))
end Mem
def zj (w:World):Mem:=fun b=>w.heap[b]?
inductive SC where
 | v (x:Value)
 | bx (k o:Nat)
inductive SV where
 | c (x:SC)
 | ag (cs:List SC)
 | sl (k n:Nat)
 | fn (f:Nat) (cap:List SC)
 | sb (x:Bool)
 | dead
inductive BE where
 | live (T:TypeId) (cs:List SC)
 | gone (b:Nat)
def SC.val (β:List Nat):SC→Option Value
 | .v x=>some x
 | .bx k o=>(β[k]?).map fun b => .pointer (some ⟨b,o,none⟩)
def zx (β:List Nat):List SC→Option (List Value)
 | []=>some []
 | x::r=>match x.val β,zx β r with
  | some v,some vs=>some (v::vs)
  | _,_=>none
def SV.val (β:List Nat):SV→Option Value
 | .c x=>x.val β
 | .ag cs=>(zx β cs).map fun vs => .agg vs.toArray
 | .sl k n=>(β[k]?).map fun b => .slice (some ⟨b,0,none⟩) n n
 | .fn f cap=>(zx β cap).map fun vs => .func (.func f) #[] vs.toArray
 | .sb x=>some (.bool x)
 | .dead=>none
def zAv:Value→SV
 | .agg cs => .ag (cs.toList.map .v)
 | v => .c (.v v)
def zdL:Value→SV
 | .agg cs => .ag (cs.toList.map .v)
 | .bool x => .sb x
 | v => .c (.v v)
@[reducible] def SV.int (k:IntKind) (n:Int):SV := .c (.v (.int k n))
@[reducible] def SV.bool (b:Bool):SV := .c (.v (.bool b))
@[reducible] def SV.ptr (b o:Nat):SV := .c (.v (.pointer (some ⟨b,o,none⟩)))
@[reducible] def SV.slice (a:Option Addr) (n c:Nat):SV := .c (.v (.slice a n c))
structure St where
 fr:List (Nat×SV)
 bx:List BE
 M:Mem
def lk:List (Nat×SV)→Nat→Option SV
 | [],_=>none
 | (t,sv)::r,d=>match Nat.beq t d with|true=>some sv|false=>lk r d
def zm2 (d:Nat):List (Nat×SV)→List (Nat×SV)
 | []=>[]
 | (t,sv)::r=>match Nat.beq t d with|true=>zm2 d r|false=>(t,sv)::zm2 d r
def zhh:List Nat→List (Nat×SV)→List (Nat×SV)
 | [],l=>l
 | d::r,l=>zhh r (zm2 d l)
def St.put (s:St) (d:Option Nat) (sv:SV):St:=
 match d with
 | none=>s
 | some d=>{ s with fr:=(d,sv)::s.fr }
def St.kill (s:St) (l:List Nat):St:={ s with fr:=zhh l s.fr }
def zan {α:Type}:List α→(List α→Prop)→Prop
 | [],k=>k []
 | x::r,k=>zan r fun r'=>k (x::r')
def zAH (sv:SV) (k:SV→Prop):Prop:=
 match sv with
 | .c (.v v)=>k (.c (.v v))
 | .c (.bx j o)=>k (.c (.bx j o))
 | .ag l=>zan l fun l'=>k (.ag l')
 | .sl j n=>k (.sl j n)
 | .fn f l=>zan l fun l'=>k (.fn f l')
 | .sb x=>k (.sb x)
 | .dead=>k .dead
def zO3 (s:St) (k:St→Prop):Prop:=match s with|⟨fr,bx,M⟩=>zan fr fun fr'=>zan bx fun bx'=>k ⟨fr',bx',M⟩
def St.putK (s:St) (d:Option Nat) (sv:SV) (k:St→Prop):Prop:=
 match d with
 | none=>k s
 | some d=>(match s with|⟨fr,bx,M⟩=>zAH sv fun sv'=>k ⟨(d,sv')::fr,bx,M⟩)
def zrZ (d:Nat):List (Nat×SV)→(List (Nat×SV)→Prop)→Prop
 | [],k=>k []
 | (t,sv)::r,k=>match Nat.beq t d with|true=>zrZ d r k|false=>zrZ d r fun r'=>k ((t,sv)::r')
def zw0:List Nat→List (Nat×SV)→(List (Nat×SV)→Prop)→Prop
 | [],l,k=>k l
 | d::r,l,k=>zrZ d l fun l'=>zw0 r l' k
def St.killK (s:St) (l:List Nat) (k:St→Prop):Prop:=match s with|⟨fr,bx,M⟩=>zw0 l fr fun fr'=>k ⟨fr',bx,M⟩
def zfy:List BE→Nat→Option BE
 | [],_=>none
 | e::_,0=>some e
 | _::r,n+1=>zfy r n
def St.addK (s:St) (e:BE) (k:Nat→St→Prop):Prop:=match s with|⟨fr,bx,M⟩=>zan (bx++[e]) fun bx'=>k bx.length ⟨fr,bx',M⟩
def St.setK (s:St) (j:Nat) (e:BE) (k:St→Prop):Prop:=match s with|⟨fr,bx,M⟩=>zan (bx.set j e) fun bx'=>k ⟨fr,bx',M⟩
def zaT:List Value→List Value→Option Bool
 | [],[]=>some true
 | .int k a::r,.int k' b::r'=>if k=k' then (if a=b then zaT r r' else some false) else none
 | _,_=>none
def zeP:Value→Value→Option Bool
 | .int k a,.int k' b=>if k=k' then some (decide (a=b)) else none
 | .string a,.string b=>some (decide (a=b))
 | .agg xs,.agg ys=>zaT xs.toList ys.toList
 | _,_=>none
def kfind (k:Value):List MapEntry→Nat→Option (Option (Nat×Value))
 | [],_=>some none
 | e::es,i=>match zeP k e.key with
  | some true=>some (some (i,e.val))
  | some false=>kfind k es (i+1)
  | none=>none
inductive KK where
 | int
 | str
 | agg (n:Nat)
def Mem.textAt (M:Mem) (r:Nat):Option Obj:=match M r with|some (.cells c e fz)=>some (.cells c e (if fz.1=fz.2 then (c.size,c.size+1) else (min fz.1 c.size,max fz.2 (c.size+1))))|_=>none
def Mem.mapAt (M:Mem) (r:Nat):Option (Array MapEntry×Nat):=match M r with|some (.map es c)=>some (es,c)|_=>none
def Mem.iterAt (M:Mem) (r:Nat):Option (Option Nat×Nat×Array Nat×Nat):=match M r with|some (.mapIter m a s b)=>some (m,a,s,b)|_=>none
def mput (p:Array MapEntry×Nat) (f:Option (Nat×Value)) (key v:Value):Obj:=
 match f with
 | some (i,_) => .map (p.1.modify i fun e=>{ e with key:=key,val:=v }) p.2
 | none => .map (p.1.push { key:=key,val:=v,born:=p.2 }) (p.2+1)
def zw1 (p:Array MapEntry×Nat) (f:Option (Nat×Value)):Obj:=
 match f with
 | some (i,_) => .map (p.1.eraseIdxIfInBounds i) p.2
 | none => .map p.1 p.2
inductive ROp where
 | mov (x:Operand)
 | pick (c a b:Operand)
 | box (T:TypeId) (x:Operand)
 | alloc (T:TypeId) (z:List Value)
 | build (z:List Value) (parts:List (Nat×Nat×Operand))
 | mkSl (tmp:Bool) (E:TypeId) (n:Nat) (z:List Value) (parts:List (Nat×Nat×Operand))
 | load (agg:Bool) (n:Nat) (p:Operand)
 | store (n:Nat) (p x:Operand)
 | nilck (x:Operand)
 | faddr (off:Nat) (p:Operand)
 | field (agg:Bool) (off n:Nat) (x:Operand)
 | iaddr (size:Nat) (x i:Operand)
 | iaddrA (len size:Nat) (p i:Operand)
 | ibin (op:BinOp) (x y:Operand)
 | bbin (op:BinOp) (x y:Operand)
 | pnil (op:BinOp) (x y:Operand)
 | not (x:Operand)
 | conv (k:IntKind) (x:Operand)
 | len (x:Operand)
 | lenS (x:Operand)
 | extract (x:Operand) (i:Nat)
 | strOf (x:Operand)
 | strE (op:BinOp) (x y:Operand)
 | imm (mx:Bool) (x y:Operand)
 | slx3 (size:Nat) (x lo hi m:Operand)
 | slx (size:Nat) (x:Operand) (lo hi:Option Operand)
 | aeq (op:BinOp) (n:Nat) (x y:Operand)
 | slnil (op:BinOp) (x y:Operand)
 | app (E:TypeId) (size bytes:Nat) (z:List Value) (x y:Operand)
 | mkMap
 | strish (x:Operand)
 | sidx (x i:Operand)
 | aidx (agg:Bool) (len size:Nat) (x i:Operand)
 | mkfn (f:Nat) (caps:List Operand)
 | mval (f:Nat) (x:Operand)
 | clr (z:Value) (x:Operand)
 | slA (n:Nat) (x:Operand)
 | srange (x:Operand)
 | snext (it:Operand)
 | uneg (x:Operand)
 | ucom (x:Operand)
 | ssl (x:Operand) (lo hi:Option Operand)
 | cpy (size:Nat) (x y:Operand)
 | mkSlN (E:TypeId) (bytes:Nat) (z:List Value) (n c:Operand)
 | mkSlC (E:TypeId) (bytes:Nat) (z:List Value) (n c:Operand)
 | mget (kk:KK) (ok:Bool) (z:Value) (x key:Operand)
 | mlen (x:Operand)
 | mset (kk:KK) (x key v:Operand)
 | mdel (kk:KK) (x key:Operand)
 | mrange (x:Operand)
 | mnext (it:Operand)
 | mentry (it:Operand)
 | call (f:Operand) (args:List Operand)
structure zZ where
 dst:Option Nat
 op:ROp
 guard:Option (Nat×Bool)
 sp:Bool
inductive DTree where
 | done
 | take (o:zZ) (t:DTree)
 | alt (o:zZ) (need:Bool) (t more:DTree)
 | none
inductive RCode where
 | skip
 | draw (t:DTree) (kl:List Nat)
 | ops (l:List zZ) (kl:List Nat)
 | seq (a b:RCode)
 | cond (c:Operand) (a b:RCode)
 | block (id:Nat) (a:RCode)
 | loop (a:RCode)
 | exit (id:Nat)
 | ret
 | scope (a:RCode)
 | rfun (g:Operand) (ps:List Nat) (asg body:RCode)
def Brn (x:Bool) (A B:Prop):Prop:=(x=true→A)∧(x=false→B)
def lit (x:Bool) (A B:Prop):Prop:=match x with|true=>A|false=>B
def brS (sv:SV) (A B:Prop):Prop:=
 match sv with
 | .c (.v (.bool b))=>lit b A B
 | .sb x=>Brn x A B
 | _=>False
def Ob (p A:Prop):Prop:=p∧A
def evO (x:Option SV) (k:SV→Prop):Prop:=
 match x with
 | some .dead=>False
 | some sv=>k sv
 | none=>False
def ev (s:St) (x:Operand) (k:SV→Prop):Prop:=
 match x with
 | .tmp n=>evO (lk s.fr n) k
 | .const v=>k (zAv v)
 | .func f=>k (.c (.v (.func (.func f) #[] #[])))
 | .global _=>False
def asI (sv:SV) (k:IntKind→Int→Prop):Prop:=match sv with | .c (.v (.int q n))=>k q n|_=>False
def asB (sv:SV) (k:Bool→Prop):Prop:=match sv with | .c (.v (.bool b))=>k b | .sb b=>k b|_=>False
def zAI (sv:SV) (k:Option Addr→Nat→Nat→Prop):Prop:=match sv with | .c (.v (.slice a n c))=>k a n c|_=>False
def evI (s:St) (x:Operand) (k:IntKind→Int→Prop):Prop:=ev s x fun sv=>asI sv k
def evB (s:St) (x:Operand) (k:Bool→Prop):Prop:=ev s x fun sv=>asB sv k
def evS (s:St) (x:Operand) (k:Option Addr→Nat→Nat→Prop):Prop:=ev s x fun sv=>zAI sv k
def atO (a:Option Addr) (k:Nat→Nat→Prop):Prop:=match a with|some ⟨b,o,none⟩=>k b o|_=>False
def atB (e:Option BE) (kb:List SC→Prop) (kp:Nat→Prop):Prop:=
 match e with
 | some (.live _ cs)=>kb cs
 | some (.gone b)=>kp b
 | none=>False
def asP (s:St) (sv:SV) (kb:Nat→Nat→List SC→Prop) (kp:Nat→Nat→Prop):Prop:=
 match sv with
 | .c (.bx j o)=>atB (zfy s.bx j) (kb j o) (fun b=>kp b o)
 | .c (.v (.pointer a))=>atO a kp
 | _=>False
def evP (s:St) (x:Operand) (kb:Nat→Nat→List SC→Prop) (kp:Nat→Nat→Prop):Prop:=ev s x fun sv=>asP s sv kb kp
def cellsOf:SV→Option (List SC)
 | .c (.v x)=>if x.oneCell' then some [.v x] else none
 | .c (.bx j o)=>some [.bx j o]
 | .ag cs=>some cs
 | .sb x=>some [.v (.bool x)]
 | _=>none
def onO {α:Type} (x:Option α) (k:α→Prop):Prop:=match x with|some l=>k l|none=>False
def zMa (cs:List SC) (k:SV→Prop):Prop:=match cs with|[x]=>k (.c x)|_=>False
def mkv (agg:Bool) (cs:List SC) (k:SV→Prop):Prop:=match agg with|true=>zan cs fun l=>k (.ag l)|false=>zMa cs k
def takeC (cs:List SC) (o n:Nat):Option (List SC):=if o+n≤cs.length then some ((cs.drop o).take n) else none
def splice {α:Type} (l:List α) (o:Nat) (vs:List α):List α:=l.take o++vs++l.drop (o+vs.length)
def zvA (l:List SC) (o n:Nat) (cs:List SC):Option (List SC):=if l.length=n∧o+n≤cs.length then some (splice cs o l) else none
def build (s:St):List (Nat×Nat×Operand)→List SC→(List SC→Prop)→Prop
 | [],cs,k=>k cs
 | (o,n,x)::r,cs,k=>ev s x fun sv=>onO (cellsOf sv) fun l=>onO (zvA l o n cs) fun cs'=>zan cs' fun cs''=>build s r cs'' k
def inR (k:IntKind) (n:Int):Prop:=k.wrap n=n
def za3 (op:BinOp) (k:IntKind) (x y:Int):Int:=
 let a:=BitVec.ofInt k.bits x
 let b:=BitVec.ofInt k.bits y
 match op with
 | .and=>k.wrap (a &&& b).toNat
 | .or=>k.wrap (a ||| b).toNat
 | .xor=>k.wrap (a ^^^ b).toNat
 | _=>k.wrap (a &&& ~~~b).toNat
structure ObR (k:IntKind) (r:Int) (K:SV→Prop):Prop where
 ok:K (.int k (k.wrap r))
def arith (k:IntKind) (r:Int) (K:SV→Prop):Prop:=
 match k.signed with
 | true=>ObR k r K
 | false=>K (.int k (k.wrap r))
def ibin (op:BinOp) (k:IntKind) (a b:Int) (K:SV→Prop):Prop:=
 match op with
 | .add=>arith k (a+b) K
 | .sub=>arith k (a - b) K
 | .mul=>arith k (a*b) K
 | .quo=>Ob (b≠0) (arith k (a.tdiv b) K)
 | .rem=>Ob (b≠0) (K (.int k (a.tmod b)))
 | .and=>K (.int k (za3 .and k a b))
 | .or=>K (.int k (za3 .or k a b))
 | .xor=>K (.int k (za3 .xor k a b))
 | .andNot=>K (.int k (za3 .andNot k a b))
 | .eql=>K (.sb (decide (a=b)))
 | .neq=>K (.sb (!decide (a=b)))
 | .lss=>K (.sb (decide (a<b)))
 | .leq=>K (.sb (decide (a≤b)))
 | .gtr=>K (.sb (decide (b<a)))
 | .geq=>K (.sb (decide (b≤a)))
 | .shl=>Ob (0≤b) (K (.int k (k.wrap (a*2 ^ (min b.toNat k.bits)))))
 | .shr=>Ob (0≤b) (K (.int k (a.fdiv (2 ^ (min b.toNat k.bits)))))
def nilT (op:BinOp) (r:Bool) (k:SV→Prop):Prop:=match op with | .eql=>k (.sb r) | .neq=>k (.sb !r)|_=>False
def strT (op:BinOp) (a b:ByteArray) (k:SV→Prop):Prop:=
 match op with
 | .eql=>k (.sb (decide (a=b)))
 | .neq=>k (.sb (!(decide (a=b))))
 | .add=>Ob (a.size+b.size≤9223372036854775807) (k (.c (.v (.string (a++b)))))
 | .lss=>k (.sb (Op.bytesLess a.toList b.toList))
 | .leq=>k (.sb (Op.bytesLess a.toList b.toList||decide (a=b)))
 | .gtr=>k (.sb (!(Op.bytesLess a.toList b.toList||decide (a=b))))
 | .geq=>k (.sb (!Op.bytesLess a.toList b.toList))
 | _=>False
def beqT (op:BinOp) (a b:Bool) (k:SV→Prop):Prop:=match op with | .eql=>k (.sb (a == b)) | .neq=>k (.sb (a != b))|_=>False
def asNil (sv:SV) (k:Prop):Prop:=match sv with | .c (.v (.pointer none))=>k|_=>False
def ptrNil (sv:SV) (k:Bool→Prop):Prop:=match sv with | .c (.v (.pointer a))=>k a.isNone | .c (.bx _ _)=>k false|_=>False
def moved (sv:SV) (n:Nat) (k:SV→Prop):Prop:=
 match sv with
 | .c (.bx j o)=>k (.c (.bx j (o+n)))
 | .c (.v (.pointer a))=>atO a fun b o=>k (.ptr b (o+n))
 | _=>False
def zMb (sv:SV) (k:SV→Prop):Prop:=
 match sv with
 | .c (.v (.bool b))=>lit b (k (.bool false)) (k (.bool true))
 | .sb x=>k (.sb !x)
 | _=>False
def asAg (sv:SV) (k:List SC→Prop):Prop:=match sv with | .ag cs=>k cs|_=>False
def asStr (sv:SV) (k:ByteArray→Prop):Prop:=match sv with | .c (.v (.string b))=>k b|_=>False
def asTp (sv:SV) (k:List Value→Prop):Prop:=match sv with | .c (.v (.tuple vs))=>k vs.toList|_=>False
def sameK (op:BinOp) (q q':IntKind) (A:Prop):Prop:=
 match op with
 | .shl=>A
 | .shr=>A
 | _=>(match decide (q=q') with|true=>A|false=>False)
def zkg (m n:Nat) (A:Prop):Prop:=match Nat.beq m n with|true=>A|false=>False
def z7 (b:UInt8):Value := .int .u8 b.toNat
def SrcOk (M:Mem) (size:Nat) (a:Option Addr) (n:Nat) (vs:List Value):Prop:=
 vs.length=n*size∧(vs=[]∨∃ b o,a=some ⟨b,o,none⟩∧M.row b o (n*size)=some vs)
def zbE (M:Mem) (a:Option Addr) (n:Nat) (k:SV→Prop):Prop:=∃ bs:List UInt8,SrcOk M 1 a n (bs.map z7)∧k (.c (.v (.string ⟨bs.toArray⟩)))
def zah (a:Option Addr) (l m size:Nat):Option Addr:=if m=l then a else a.map (·.add (l*size))
def evIO (s:St) (x:Option Operand) (d:Int) (k:Int→Prop):Prop:=match x with|none=>k d|some x=>evI s x fun _ n=>k n
def eqC (x y:SC) (k:Bool→Prop):Prop:=
 match x,y with
 | .v (.int q a),.v (.int q' b)=>(match decide (q=q') with|true=>k (decide (a=b))|false=>False)
 | _,_=>False
def eqCs:List SC→List SC→(Bool→Prop)→Prop
 | [],[],k=>k true
 | x::r,y::r',k=>eqC x y fun t=>eqCs r r' fun t'=>k (t&&t')
 | _,_,_=>False
def asNilS (sv:SV) (k:Prop):Prop:=match sv with | .c (.v (.slice none _ _))=>k|_=>False
def slNil (sv:SV) (k:Bool→Prop):Prop:=match sv with | .c (.v (.slice a _ _))=>k a.isNone | .sl _ _=>k false|_=>False
def asMap (sv:SV) (k:Option Nat→Prop):Prop:=match sv with | .c (.v (.map r))=>k r|_=>False
def zpX (r:Option Nat) (A:Prop) (k:Nat→Prop):Prop:=match r with|none=>A|some b=>k b
def ztF:List SC→(List Value→Prop)→Prop
 | [],k=>k []
 | .v (.int q n)::r,k=>ztF r fun vs=>k (.int q n::vs)
 | _,_=>False
def zyk (kk:KK) (sv:SV) (k:Value→Prop):Prop:=
 match kk,sv with
 | .int,.c (.v (.int q n))=>k (.int q n)
 | .str,.c (.v (.string b))=>k (.string b)
 | .agg n,.ag cs=>zkg cs.length n (ztF cs fun vs=>k (.agg vs.toArray))
 | _,_=>False
def mgot (ok:Bool) (z:Value) (f:Option (Nat×Value)) (k:SV→Prop):Prop:=
 match f with
 | some (_,v)=>(match ok with|true=>k (.c (.v (.tuple #[v,.bool true])))|false=>k (zdL v))
 | none=>(match ok with|true=>k (.c (.v (.tuple #[z,.bool false])))|false=>k (zdL z))
def zak (M:Mem) (b:Nat):Option (Value×Value):=
 match M.iterAt b with
 | some (some m,_,seen,stepped)=>(match M.mapAt m,seen.back? with
  | some (es,clock),some stamp=>if clock=stepped then (es.find? (·.born == stamp)).map fun e=>(e.key,e.val) else none
  | _,_=>none)
 | _=>none
def zdq:List SC→Option (List Value)
 | []=>some []
 | .v x::r=>(zdq r).map (x :: ·)
 | .bx _ _::_=>none
def capOf:SV→Option SC
 | .c x=>some x
 | .ag cs=>(zdq cs).map fun vs => .v (.agg vs.toArray)
 | .sb x=>some (.v (.bool x))
 | _=>none
def evCaps:List Operand→St→(List SC→Prop)→Prop
 | [],_,k=>k []
 | x::r,s,k=>ev s x fun sv=>onO (capOf sv) fun c=>evCaps r s fun cs=>k (c::cs)
def zJ0 (f:Nat) (sv:SV) (k:SV→Prop):Prop:=match sv with | .c (.v v)=>k (.c (.v (.func (.func f) #[v] #[])))|_=>False
def vq (o:ROp) (s:St) (k:SV→Prop):Prop:=
 match o with
 | .mov x=>ev s x k
 | .pick c a b=>ev s c fun sv=>brS sv (ev s a k) (ev s b k)
 | .build z parts=>zan (z.map .v) fun z'=>build s parts z' fun cs=>k (.ag cs)
 | .load agg n p=>evP s p
   (fun _ o cs=>onO (takeC cs o n) fun l=>mkv agg l k)
   (fun b o=>onO (s.M.row b o n) fun vs=>mkv agg (vs.map .v) k)
 | .nilck x=>ev s x fun sv=>moved sv 0 k
 | .faddr off p=>ev s p fun sv=>moved sv off k
 | .field agg off n x=>ev s x fun sv=>asAg sv fun cs=>onO (takeC cs off n) fun l=>mkv agg l k
 | .iaddr size x i=>evS s x fun a n _=>evI s i fun _ j=>Ob (0≤j∧j<n) (atO a fun b o=>k (.ptr b (o+j.toNat*size)))
 | .iaddrA len size p i=>evI s i fun _ j=>Ob (0≤j∧j<len) (ev s p fun sv=>moved sv (j.toNat*size) k)
 | .ibin op x y=>evI s x fun q a=>evI s y fun q' b=>sameK op q q' (ibin op q a b k)
 | .bbin op x y=>evB s x fun a=>evB s y fun b=>beqT op a b k
 | .pnil op x y=>ev s y fun u=>asNil u (ev s x fun sv=>ptrNil sv fun r=>nilT op r k)
 | .not x=>ev s x fun sv=>zMb sv k
 | .conv q x=>evI s x fun _ n=>k (.int q (q.wrap n))
 | .len x=>evS s x fun _ n _=>k (.int .i64 n)
 | .lenS x=>ev s x fun sv=>asStr sv fun b=>k (.int .i64 b.size)
 | .extract x i=>ev s x fun sv=>asTp sv fun vs=>onO (vs[i]?) fun v=>k (zdL v)
 | .strOf x=>evS s x fun a n _=>(match s with|⟨_,_,M⟩=>zbE M a n k)
 | .strE op x y=>ev s x fun u=>asStr u fun a=>ev s y fun v=>asStr v fun b=>strT op a b k
 | .sidx x i=>ev s x fun u=>asStr u fun a=>evI s i fun _ j=>Ob (0≤j∧j<a.size) (k (.int .u8 (a.toList.getD j.toNat 0).toNat))
 | .aidx g len size x i=>evI s i fun _ j=>Ob (0≤j∧j<len) (ev s x fun u=>asAg u fun cs=>onO (takeC cs (j.toNat*size) size) fun l=>mkv g l k)
 | .ssl x lo hi=>ev s x fun u=>asStr u fun a=>evIO s lo 0 fun l=>evIO s hi a.size fun h=>Ob (0≤l∧l≤h∧h≤a.size) (k (.c (.v (.string (a.extract l.toNat h.toNat)))))
 | .imm mx x y=>evI s x fun q a=>evI s y fun _ b=>(match mx with|true=>k (.int q (max a b))|false=>k (.int q (min a b)))
 | .slx3 size x lo hi m=>evS s x fun a _ c=>evI s lo fun _ l=>evI s hi fun _ h=>evI s m fun _ m=>Ob (0≤l∧l≤h∧h≤m∧m≤c) (k (.slice (zah a l.toNat m.toNat size) (h.toNat - l.toNat) (m.toNat - l.toNat)))
 | .slx size x lo hi=>evS s x fun a n c=>evIO s lo 0 fun l=>evIO s hi n fun h=>Ob (0≤l∧l≤h∧h≤c) (k (.slice (zah a l.toNat c size) (h.toNat - l.toNat) (c - l.toNat)))
 | .aeq op n x y=>ev s x fun u=>asAg u fun cs=>zkg cs.length n <| ev s y fun v=>asAg v fun ds=>eqCs cs ds fun r=>nilT op r k
 | .slnil op x y=>ev s y fun u=>asNilS u (ev s x fun sv=>slNil sv fun r=>nilT op r k)
 | .mget kk ok z x key=>ev s x fun u=>asMap u fun r=>ev s key fun kv=>zyk kk kv fun key=>
   zpX r (mgot ok z none k) fun b=>onO (s.M.mapAt b) fun p=>onO (kfind key p.1.toList 0) fun f=>mgot ok z f k
 | .mlen x=>ev s x fun u=>asMap u fun r=>zpX r (k (.int .i64 0)) fun b=>onO (s.M.mapAt b) fun p=>k (.int .i64 p.1.size)
 | .mkfn f caps=>evCaps caps s fun cs=>k (.fn f cs)
 | .mval f x=>ev s x fun sv=>zJ0 f sv k
 | .uneg x=>evI s x fun q n=>ibin .sub q 0 n k
 | .ucom x=>evI s x fun q n=>ibin .xor q (if q.signed then -1 else q.max) n k
 | .mentry it=>evP s it (fun _ _ _=>False) (fun b o=>zkg o 0 (onO (zak s.M b) fun e=>k (.c (.v (.tuple #[e.1,e.2])))))
 | _=>False
def zy:ROp→Bool
 | .box .. => false
 | .slA .. => false
 | .srange .. => false
 | .snext .. => false
 | .alloc .. => false
 | .mkSl .. => false
 | .store .. => false
 | .call .. => false
 | .app .. => false
 | .mkMap=>false
 | .strish .. => false
 | .mkSlN .. => false
 | .mkSlC .. => false
 | .mset .. => false
 | .mdel .. => false
 | .mrange .. => false
 | .mnext .. => false
 | .mget .. => true
 | .mlen .. => true
 | .mentry .. => true
 | .strOf .. => true
 | .strE .. => true
 | .sidx .. => true
 | .aidx .. => true
 | .mkfn .. => true
 | .mval .. => true
 | .clr .. => false
 | .uneg .. => true
 | .ucom .. => true
 | .ssl .. => true
 | .cpy .. => false
 | .imm .. => true
 | .slx3 .. => true
 | .slx .. => true
 | .aeq .. => true
 | .slnil .. => true
 | .mov .. => true
 | .pick .. => true
 | .build .. => true
 | .load .. => true
 | .nilck .. => true
 | .faddr .. => true
 | .field .. => true
 | .iaddr .. => true
 | .iaddrA .. => true
 | .ibin .. => true
 | .bbin .. => true
 | .pnil .. => true
 | .not .. => true
 | .conv .. => true
 | .len .. => true
 | .lenS .. => true
 | .extract .. => true
def zhi:ROp→Bool
 | .box .. => true
 | .alloc .. => true
 | .mkSl .. => true
 | _=>false
def reads:ROp→Bool
 | .load .. => true
 | .strOf .. => true
 | .mget .. => true
 | .mlen .. => true
 | .mentry .. => true
 | _=>false
def zfm (P:Program) (f:Nat):Bool:=
 match P.funcs[f]? with
 | some fn=>fn.body.isSome&&fn.name != "runtime.NumGoroutine"
 | none=>false
def CallsM (P:Program) (f:Nat) (args:List Value) (M:Mem) (R:Value→Mem→Prop):Prop:=
 zfm P f=true∧∀ (F:Mem) (w:World),M.le (zj w)→F.le (zj w)→M.disj F →
  Calls P f args.toArray w fun e w'=>∃ v M',e = .returned v∧R v M'∧M'.le (zj w')∧F.le (zj w')∧M'.disj F ∧
   w'.os=w.os∧w'.output=w.output∧w'.tape=w.tape∧w.heap.size≤w'.heap.size∧w.drawn≤w'.drawn
def flat (bx:List BE):SC→Option Value
 | .v x=>some x
 | .bx j o=>match zfy bx j with
  | some (.gone b)=>some (.pointer (some ⟨b,o,none⟩))
  | _=>none
def flats (bx:List BE):List SC→Option (List Value)
 | []=>some []
 | x::r=>match flat bx x,flats bx r with
  | some v,some vs=>some (v::vs)
  | _,_=>none
def New (M:Mem) (k:Nat→Prop):Prop:=∀ b,M b=none→k b
def zHB (j:Nat) (s:St) (e:Option BE) (k:Nat→St→Prop):Prop:=
 match e with
 | some (.gone b)=>k b s
 | some (.live T cs)=>onO (flats s.bx cs) fun vs=>New s.M fun b=>(match s with|⟨fr,bx,M⟩=>zan (bx.set j (.gone b)) fun bx'=>zan vs fun vs'=>k b ⟨fr,bx',M.setCells b T vs'⟩)
 | none=>False
def pub (j:Nat) (s:St) (k:Nat→St→Prop):Prop:=zHB j s (zfy s.bx j) k
def shalC (x:SC) (s:St) (k:Value→St→Prop):Prop:=
 match x with
 | .v v=>k v s
 | .bx j o=>pub j s fun b s'=>k (.pointer (some ⟨b,o,none⟩)) s'
def shalCs:List SC→St→(List Value→St→Prop)→Prop
 | [],s,k=>k [] s
 | x::r,s,k=>shalC x s fun v s'=>shalCs r s' fun vs s''=>k (v::vs) s''
def shal (sv:SV) (s:St) (k:Value→St→Prop):Prop:=
 match sv with
 | .c x=>shalC x s k
 | .ag cs=>shalCs cs s fun vs s'=>k (.agg vs.toArray) s'
 | .sl j n=>pub j s fun b s'=>k (.slice (some ⟨b,0,none⟩) n n) s'
 | .fn f cap=>shalCs cap s fun vs s'=>k (.func (.func f) #[] vs.toArray) s'
 | .sb x=>k (.bool x) s
 | .dead=>False
def shals:List Operand→St→(List Value→St→Prop)→Prop
 | [],s,k=>k [] s
 | x::r,s,k=>ev s x fun sv=>shal sv s fun v s'=>shals r s' fun vs s''=>k (v::vs) s''
def zw3:SC→Bool
 | .v x=>x.oneCell'
 | .bx _ _=>true
def oneC (x:Bool) (A:Prop):Prop:=match x with|true=>A|false=>False
def zMc (j:Nat) (s:St) (e:Option BE) (cs:List SC) (k:St→Prop):Prop:=
 match e with
 | some (.live T _)=>s.setK j (.live T cs) k
 | _=>False
def callF (P:Program) (g:Nat) (args:List Value) (s:St) (k:SV→St→Prop):Prop:=
 zan args fun args'=>(match s with|⟨fr,bx,M⟩=>CallsM P g args' M fun v M'=>k (zdL v) ⟨fr,bx,M'⟩)
def zJ1 (P:Program) (sv:SV) (vs:List Value) (s:St) (k:SV→St→Prop):Prop:=
 match sv with
 | .c (.v (.func (.func g) fst cap))=>callF P g (fst.toList++vs++cap.toList) s k
 | .fn g cap=>shalCs cap s fun cs s''=>callF P g (vs++cs) s'' k
 | _=>False
def Own (M0:Mem) (E:TypeId) (size:Nat) (a:Option Addr) (n c:Nat) (L:List Value) (M:Mem):Prop:=
 L.length=n*size∧n≤c∧((a=none∧c=0∧M=M0)∨∃ b cs,a=some ⟨b,0,none⟩∧M0 b=none∧M=M0.setCells b E cs∧cs.length=c*size∧cs.take (n*size)=L)
def zaU (E:TypeId) (size bytes:Nat) (a:Option Addr) (n c m:Nat) (news:List Value) (M:Mem) (k:Option Addr→Nat→Mem→Prop):Prop:=
 (n+m)*bytes≤140737488355328∧n+m≤maxLen∧(∀ u∈news,u.oneCell'=true) ∧
  ((∃ M0 L,Own M0 E size a n c L M∧∀ a' c' M',(c'=c∨c'≤maxLen)→Own M0 E size a' (n+m) c' (L++news) M'→k a' c' M') ∨
   (c<n+m∧n≤c∧∃ L,SrcOk M size a n L∧∀ a' c' M',c'≤maxLen→Own M E size a' (n+m) c' (L++news) M'→k a' c' M') ∨
   (m=0∧n≤c∧k a c M))
def zbF (M:Mem) (size:Nat) (a:Option Addr) (n:Nat) (k:List Value→Prop):Prop:=∃ vs,SrcOk M size a n vs∧k vs
def zAw (v:Value) (k:Option Addr→Nat→Nat→Prop):Prop:=match v with | .slice a n c=>k a n c|_=>False
def zHC (size n:Nat) (e:Option BE) (s:St) (k:Nat→List Value→St→Prop):Prop:=
 match e with
 | some (.live _ cs)=>zkg cs.length (n*size) (shalCs cs s fun vs s'=>k n vs s')
 | _=>False
def zr0 (size:Nat) (sv:SV) (s:St) (k:Nat→List Value→St→Prop):Prop:=
 match sv with
 | .sl j n=>zHC size n (zfy s.bx j) s k
 | .c (.v (.slice a n _))=>(match s with|⟨fr,bx,M⟩=>zbF M size a n fun vs=>k n vs ⟨fr,bx,M⟩)
 | .c (.v (.string b))=>zkg size 1 (k b.size (byteCells b) s)
 | _=>False
def zaV (M:Mem) (b since last:Nat) (m:Nat) (seen:Array Nat) (es:Array MapEntry) (clock:Nat) (k:SV→Mem→Prop):Prop:=
 (seen.isEmpty=true∨es.isEmpty=true∨∃ e∈es.toList,e.born<last) ∧
 ((∀ e∈es.toList,seen.contains e.born=true∨since≤e.born)→k (.c (.v (.tuple #[.bool false]))) M) ∧
 ∀ e∈es.toList,seen.contains e.born=false→k (.c (.v (.tuple #[.bool true,e.key,e.val]))) (M.upd b (.mapIter (some m) since (seen.push e.born) clock))
def Mem.sitAt (M:Mem) (r:Nat):Option (ByteArray×Nat):=match M r with|some (.stringIter s p)=>some (s,p)|_=>none
def zK6 (M:Mem) (b:Nat) (t:ByteArray×Nat) (k:SV→Mem→Prop):Prop:=
 (t.2<t.1.size→(t.1.get! t.2).toNat<128∧k (.c (.v (.tuple #[.bool true,.int .i64 t.2,.int .i32 (t.1.get! t.2).toNat]))) (M.upd b (.stringIter t.1 (t.2+1)))) ∧
 (¬t.2<t.1.size→k (.c (.v (.tuple #[.bool false]))) M)
def zMd (v:Value) (k:Nat→Nat→Prop):Prop:=match v with | .pointer (some ⟨b,o,none⟩)=>k b o|_=>False
def zHD (z:Value) (a:Option Addr) (n:Nat) (s:St) (k:St→Prop):Prop:=
 match n with
 | 0=>k s
 | n+1=>atO a fun b o=>onO (s.M.cells b) fun ec=>Ob (o+(n+1)≤ec.2.length) (match s with|⟨fr,bx,M⟩=>k ⟨fr,bx,M.setCells b ec.1 (splice ec.2 o (List.replicate (n+1) z))⟩)
def vl (P:Program) (o:ROp) (s:St) (k:SV→St→Prop):Prop:=
 match o with
 | .box T x=>ev s x fun sv=>onO (cellsOf sv) fun cs=>zan cs fun cs'=>s.addK (.live T cs') fun j s'=>k (.c (.bx j 0)) s'
 | .alloc T z=>zan (z.map .v) fun z'=>s.addK (.live T z') fun j s'=>k (.c (.bx j 0)) s'
 | .mkSl tmp E n z parts=>zan (z.map .v) fun z'=>build s parts z' fun cs=>s.addK (.live E cs) fun j s'=>match tmp with
   | true=>k (.sl j n) s'
   | false=>pub j s' fun b s''=>k (.slice (some ⟨b,0,none⟩) n n) s''
 | .store n p x=>ev s x fun sv=>onO (cellsOf sv) fun l=>oneC (l.all zw3) (evP s p
   (fun j o cs=>onO (zvA l o n cs) fun cs'=>zan cs' fun cs''=>zMc j s (zfy s.bx j) cs'' fun s'=>k .dead s')
   (fun b o=>zkg l.length n (shalCs l s fun vs s'=>onO (s'.M.cells b) fun ec=>Ob (o+n≤ec.2.length) (match s' with|⟨fr,bx,M⟩=>k .dead ⟨fr,bx,M.setCells b ec.1 (splice ec.2 o vs)⟩))))
 | .call f args=>ev s f fun sv=>shals args s fun vs s'=>zJ1 P sv vs s' k
 | .app E size bytes _ x y=>ev s x fun u=>shal u s fun uv s1=>zAw uv fun a m c=>ev s1 y fun v=>zr0 size v s1 fun n vs s2=>
   (match s2 with|⟨fr,bx,M⟩=>zaU E size bytes a m c n vs M fun a' c' M'=>k (.slice a' (m+n) c') ⟨fr,bx,M'⟩)
 | .cpy size x y=>ev s x fun u=>shal u s fun uv s1=>zAw uv fun a m _=>ev s1 y fun v=>zr0 size v s1 fun n vs s2=>
   Ob (n≤m∧∀ u∈vs,u.oneCell'=true) (atO a fun b o=>onO (s2.M.cells b) fun ec=>Ob (o+n*size≤ec.2.length)
    (match s2 with|⟨fr,bx,M⟩=>k (.int .i64 n) ⟨fr,bx,M.setCells b ec.1 (splice ec.2 o vs)⟩))
 | .clr z x=>evS s x fun a n _=>zHD z a n s fun s'=>k (.c (.v (.tuple #[]))) s'
 | .srange x=>ev s x fun u=>asStr u fun str=>(match s with|⟨fr,bx,M⟩=>New M fun b=>k (.ptr b 0) ⟨fr,bx,M.upd b (.stringIter str 0)⟩)
 | .snext it=>evP s it (fun _ _ _=>False) (fun b o=>zkg o 0 (onO (s.M.sitAt b) fun t=>(match s with|⟨fr,bx,M⟩=>zK6 M b t fun sv M'=>k sv ⟨fr,bx,M'⟩)))
 | .slA n x=>ev s x fun u=>shal u s fun uv s1=>zMd uv fun b o=>k (.slice (some ⟨b,o,none⟩) n n) s1
 | .strish x=>evS s x fun a n c=>atO a fun b o=>onO (s.M.textAt b) fun ob=>(match s with|⟨fr,bx,M⟩=>k (.slice (some ⟨b,o,none⟩) n c) ⟨fr,bx,M.upd b ob⟩)
 | .mkMap=>(match s with|⟨fr,bx,M⟩=>New M fun b=>k (.c (.v (.map (some b)))) ⟨fr,bx,M.upd b (.map #[] 0)⟩)
 | .mkSlN E bytes z x y=>evI s x fun _ n=>evI s y fun _ c=>Ob (0≤n∧n=c∧bytes*n≤281474976710656∧n≤9223372036854775807)
   (match s with|⟨fr,bx,M⟩=>New M fun b=>k (.slice (some ⟨b,0,none⟩) n.toNat n.toNat) ⟨fr,bx,M.setCells b E (List.replicate n.toNat z).flatten⟩)
 | .mkSlC E bytes z x y=>evI s x fun _ n=>evI s y fun _ c=>Ob (0≤n∧n≤c∧bytes*c≤281474976710656∧c≤9223372036854775807)
   (match s with|⟨fr,bx,M⟩=>New M fun b=>k (.slice (some ⟨b,0,none⟩) n.toNat c.toNat) ⟨fr,bx,M.setCells b E (List.replicate c.toNat z).flatten⟩)
 | .mset kk x key y=>ev s x fun u=>asMap u fun r=>zpX r False fun b=>ev s key fun kv=>zyk kk kv fun key=>ev s y fun sv=>shal sv s fun v s'=>
   onO (s'.M.mapAt b) fun p=>onO (kfind key p.1.toList 0) fun f=>(match s' with|⟨fr,bx,M⟩=>k .dead ⟨fr,bx,M.upd b (mput p f key v)⟩)
 | .mdel kk x key=>ev s x fun u=>asMap u fun r=>ev s key fun kv=>zyk kk kv fun key=>zpX r (k (.c (.v (.tuple #[]))) s) fun b=>
   onO (s.M.mapAt b) fun p=>onO (kfind key p.1.toList 0) fun f=>(match s with|⟨fr,bx,M⟩=>k (.c (.v (.tuple #[]))) ⟨fr,bx,M.upd b (zw1 p f)⟩)
 | .mrange x=>ev s x fun u=>asMap u fun r=>zpX r
   (match s with|⟨fr,bx,M⟩=>New M fun b=>k (.ptr b 0) ⟨fr,bx,M.upd b (.mapIter none 0 #[] 0)⟩)
   (fun m=>onO (s.M.mapAt m) fun p=>(match s with|⟨fr,bx,M⟩=>New M fun b=>k (.ptr b 0) ⟨fr,bx,M.upd b (.mapIter (some m) p.2 #[] p.2)⟩))
 | .mnext it=>evP s it (fun _ _ _=>False) (fun b o=>zkg o 0 (onO (s.M.iterAt b) fun t=>zpX t.1 (k (.c (.v (.tuple #[.bool false]))) s)
   (fun m=>onO (s.M.mapAt m) fun p=>(match s with|⟨fr,bx,M⟩=>zaV M b t.2.1 t.2.2.2 m t.2.2.1 p.1 p.2 fun sv M'=>k sv ⟨fr,bx,M'⟩))))
 | _=>False
def zfn (sp:Bool) (sv:SV) (k:SV→Prop):Prop:=
 match sp with
 | true=>brS sv (k (.bool true)) (k (.bool false))
 | false=>k sv
@[reducible] def SV.skip:SV := .c (.v (.tuple #[]))
def brG (b:Bool) (sv:SV) (run skip:Prop):Prop:=
 match sv with
 | .c (.v (.bool x))=>(match b with|true=>lit x run skip|false=>lit x skip run)
 | .sb x=>(match b with|true=>Brn x run skip|false=>Brn x skip run)
 | .c (.v (.tuple _))=>skip
 | _=>False
def vop (P:Program) (o:zZ) (s:St) (K:St→Prop):Prop:=
 match zy o.op with
 | true=>vq o.op s fun sv=>zfn o.sp sv fun sv'=>s.putK o.dst sv' K
 | false=>vl P o.op s fun sv s'=>zfn o.sp sv fun sv'=>s'.putK o.dst sv' K
def zpY (P:Program):List zZ→St→(St→Prop)→Prop
 | [],s,K=>K s
 | o::r,s,K=>match o.guard with
  | none=>vop P o s fun s'=>zpY P r s' K
  | some (g,b)=>ev s (.tmp g) fun sv=>brG b sv (vop P o s fun s'=>zpY P r s' K) (s.putK o.dst SV.skip (fun s'=>zpY P r s' K))
def bx1 (M:Mem) (e f:BE) (A:Prop):Prop:=
 match e,f with
 | .gone b,.live T cs=>onO (zdq cs) fun vs=>Ob (M b=some (.cells vs.toArray T (0,0))) A
 | .live _ _,.gone _=>A
 | e,f=>Ob (e=f) A
def zpk (M:Mem):List BE→List BE→Prop→Prop
 | _,[],A=>A
 | e::l,f::r,A=>bx1 M e f (zpk M l r A)
 | [],_::_,_=>False
def Grow (X M:Mem) (A:Mem→Prop):Prop:=∃ X',X.le X'∧X'.le M∧A X'
def zyl (need:Bool) (X:Mem) (bx0:List BE) (s:St) (A:Mem→Prop):Prop:=
 match need with
 | true=>zpk s.M s.bx bx0 (Grow X s.M A)
 | false=>A X
def zbr (P:Program) (X:Mem) (bx0:List BE):DTree→St→(St→Prop)→Prop
 | .done,s,K=>K s
 | .none,_,_=>True
 | .take o t,s,K=>(match s with|⟨fr,_,_⟩=>(match o.guard with
  | none=>vq o.op ⟨fr,bx0,X⟩ fun sv=>zfn o.sp sv fun sv'=>s.putK o.dst sv' fun s'=>zbr P X bx0 t s' K
  | some (g,b)=>ev s (.tmp g) fun gv=>brG b gv (vq o.op ⟨fr,bx0,X⟩ fun sv=>zfn o.sp sv fun sv'=>s.putK o.dst sv' fun s'=>zbr P X bx0 t s' K)
    (s.putK o.dst SV.skip fun s'=>zbr P X bx0 t s' K)))
 | .alt o need t more,s,K=>And (match o.guard with
  | none=>vop P o s fun s'=>zyl need X bx0 s' fun X'=>zbr P X' bx0 t s' K
  | some (g,b)=>ev s (.tmp g) fun gv=>brG b gv (vop P o s fun s'=>zyl need X bx0 s' fun X'=>zbr P X' bx0 t s' K) (s.putK o.dst SV.skip fun s'=>zbr P X bx0 t s' K))
  (zbr P X bx0 more s K)
def zhj:DTree→Bool
 | .done=>false
 | .none=>false
 | .take _ t=>zhj t
 | .alt _ need t more=>need||zhj t||zhj more
def zMe (P:Program) (t:DTree) (s:St) (K:St→Prop):Prop:=∃ X:Mem,X.le s.M∧zbr P X s.bx t s K
def dim (ks:List Nat) (d:Nat→Nat):Nat→List BE→List BE
 | _,[]=>[]
 | j,e::r=>(if j∈ks then .gone (d j) else e)::dim ks d (j+1) r
def zK7 (P:Program) (t:DTree) (s:St) (K:St→Prop):Prop:=∃ (ks:List Nat) (X:Mem),X.le s.M∧∀ d:Nat→Nat,zbr P X (dim ks d 0 s.bx) t s K
def ztG:ROp→Bool
 | .store .. => true
 | _=>false
def zm3:DTree→Bool
 | .done=>false
 | .none=>false
 | .take _ t=>zm3 t
 | .alt o need t more=>(need&&ztG o.op)||zm3 t||zm3 more
def ztH (P:Program) (t:DTree) (s:St) (K:St→Prop):Prop:=
 match zhj t with
 | true=>(match zm3 t with|true=>zK7 P t s K|false=>zMe P t s K)
 | false=>(match s with|⟨fr,bx,M⟩=>zbr P M bx t ⟨fr,bx,M⟩ K)
structure WLe (W W':World):Prop where
 os:W'.os=W.os
 output:W'.output=W.output
 tape:W'.tape=W.tape
 drawn:W.drawn≤W'.drawn
 size:W.heap.size≤W'.heap.size
 same:∀ (k:Nat) o,W.heap[k]? = some o→W'.heap[k]? = some o
def zDt (P:Program) (g:Nat) (lb:List Value) {α:Type} (encs:α→List Value) (A:Mem) (N:Nat) (PM:α→Mem→Prop) (D:List α→Prop):Prop:=
 ∀ (l:Nat) (J:List α→World→Prop) (W:World),A.le (zj W) →
  (∀ pre x Wp W1 Mx,J pre Wp→WLe Wp W1→A.le (zj W1)→pre.length<N→PM x Mx→Mx.le (zj W1)→(∀ b,Mx b≠none→Wp.heap.size≤b) →
   YieldAt Fence.wide 0 P l (encs x).toArray W1 fun e W'=>e = .returned (.bool true)∧J (pre++[x]) W'∧A.le (zj W')) →
  J [] W→CallsIn Fence.wide 0 P g (#[.func (.yield l) #[] #[]]++lb.toArray) W fun e W'=>(∃ v,e = .returned v)∧∃ xs Wp,D xs∧J xs Wp∧WLe Wp W'
def SC.lt (n:Nat):SC→Bool
 | .v _=>true
 | .bx j _=>decide (j<n)
def SV.lt (n:Nat):SV→Bool
 | .c x=>x.lt n
 | .ag cs=>cs.all (SC.lt n)
 | .sl j _=>decide (j<n)
 | .fn _ cs=>cs.all (SC.lt n)
 | .sb _=>true
 | .dead=>true
def BE.lt (n:Nat):BE→Bool
 | .live _ cs=>cs.all (SC.lt n)
 | .gone _=>true
def St.wf (t:St):Bool:=t.fr.all (fun p=>p.2.lt t.bx.length)&&t.bx.all (BE.lt t.bx.length)
def zw5 (l:List (Nat×SV)):List (Nat×SV)→Prop
 | []=>True
 | (d,sv)::r=>lk l d=some sv∧zw5 l r
def zw6:List BE→List BE→Prop
 | _,[]=>True
 | e::l,f::r=>e=f∧zw6 l r
 | [],_::_=>False
def St.sub (t s:St):Prop:=zw5 s.fr t.fr∧zw6 s.bx t.bx∧t.M.le s.M∧t.wf=true
def zDu:List Nat→List Value→List (Nat×SV)→List (Nat×SV)
 | p::ps,v::vs,fr=>zDu ps vs ((p,zdL v)::fr)
 | _,_,fr=>fr
def zDv:Nat→St→(St→Prop)→Prop
 | 0,s,k=>k s
 | j+1,s,k=>zDv j s fun s'=>pub j s' fun _ s''=>k s''
def zJ2:BE→Bool
 | .gone _=>true
 | .live _ _=>false
def zCQ (P:Program) (asg body:(Exit→St→Prop)→St→Prop) (ps:List Nat) (gf:Nat) (lb:List Value) (Q:Exit→St→Prop) (s:St):Prop:=
 zfm P gf=true∧s.bx.all zJ2=true∧∃ (α:Type) (encs:α→List Value) (A:Mem) (N:Nat) (PM:α→Mem→Prop) (D:List α→Prop) (I:List α→Mem→Prop),
  zDt P gf lb encs A N PM D∧A.le s.M∧(∀ x,(encs x).length=ps.length) ∧
  (∃ M0,M0.le s.M∧(∀ b,A b≠none→M0 b=none)∧I [] M0) ∧
  (∀ pre x M Mx M1,I pre M→pre.length<N→PM x Mx→(∀ b,Mx b≠none→M b=none∧A b=none)→M.le M1→Mx.le M1 →
   asg (fun e t=>e = .normal∧body (fun e t'=>e = .normal∧∃ M2,I (pre++[x]) M2∧M2.le t'.M) t) ⟨zDu ps (encs x) s.fr,s.bx,M1⟩) ∧
  (∀ xs M M1,D xs→I xs M→(∀ b,A b≠none→M b=none)→M.le M1→A.le M1→Q .normal ⟨s.fr,s.bx,M1⟩)
def zF2 (P:Program) (asg body:(Exit→St→Prop)→St→Prop) (ps:List Nat) (sv:SV) (Q:Exit→St→Prop) (s:St):Prop:=
 match sv with
 | .c (.v (.func (.func gf) fst lb))=>Nat.beq fst.size 0=true∧zDv s.bx.length s fun s'=>zCQ P asg body ps gf lb.toList Q s'
 | _=>False
def ztI (Q:Exit→St→Prop) (k:St→Prop) (e:Exit) (s:St):Prop:=match e with | .normal=>k s|e=>Q e s
def zAJ (id:Nat) (Q:Exit→St→Prop) (e:Exit) (s:St):Prop:=match e with | .exit i=>(match Nat.beq i id with|true=>Q .normal s|false=>Q (.exit i) s)|e=>Q e s
def zMf (Q:Exit→St→Prop) (e:Exit) (s:St):Prop:=match e with | .goto _=>False|e=>Q e s
def zav (body:(Exit→St→Prop)→St→Prop) (Q:Exit→St→Prop) (s:St):Prop:=
 ∃ I:Nat→St→Prop,(∃ m t,I m t∧t.sub s)∧∀ m t,I m t→body (ztI Q fun s'=>∃ m' t',m'<m∧I m' t'∧t'.sub s') t
def zay (body:(Exit→St→Prop)→St→Prop) (Q:Exit→St→Prop) (s:St):Prop:=zav body Q s∨zDv s.bx.length s fun s'=>zav body Q s'
def vc (P:Program):RCode→(Exit→St→Prop)→St→Prop
 | .skip,Q,s=>Q .normal s
 | .ops l kl,Q,s=>zpY P l s fun s'=>s'.killK kl fun s''=>Q .normal s''
 | .draw t kl,Q,s=>ztH P t s fun s'=>s'.killK kl fun s''=>Q .normal s''
 | .seq a b,Q,s=>vc P a (ztI Q (vc P b Q)) s
 | .cond c a b,Q,s=>ev s c fun sv=>brS sv (vc P a Q s) (vc P b Q s)
 | .block id a,Q,s=>vc P a (zAJ id Q) s
 | .loop a,Q,s=>zay (vc P a) Q s
 | .exit id,Q,s=>Q (.exit id) s
 | .ret,Q,s=>Q .ret s
 | .scope a,Q,s=>vc P a (zMf Q) s
 | .rfun g ps a b,Q,s=>ev s g fun sv=>zF2 P (vc P a) (vc P b) ps sv Q s
inductive zc where
 | tmp (t:Nat)
 | cell (agg:Bool) (n:Nat) (t:Nat)
def zw7 (r:zc) (s:St) (k:Value→St→Prop):Prop:=
 match r with
 | .tmp t=>ev s (.tmp t) fun sv=>shal sv s k
 | .cell agg n t=>evP s (.tmp t) (fun _ o cs=>onO (takeC cs o n) fun l=>mkv agg l fun sv=>shal sv s k)
   (fun b o=>onO (s.M.row b o n) fun vs=>mkv agg (vs.map .v) fun sv=>shal sv s k)
def zAx:List zc→St→(List Value→St→Prop)→Prop
 | [],s,k=>k [] s
 | r::rs,s,k=>zw7 r s fun v s'=>zAx rs s' fun vs s''=>k (v::vs) s''
def zr1:List Value→Value
 | [v]=>v
 | vs => .tuple vs.toArray
def zMg (vs:List Value) (s:St) (R:Value→Mem→Prop):Prop:=match s with|⟨_,_,M⟩=>(match vs with|[v]=>R v M|vs=>R (.tuple vs.toArray) M)
def zAK (rs:List zc) (s:St) (R:Value→Mem→Prop):Prop:=zAx rs s fun vs s'=>zMg vs s' R
def zOF (rs:List zc) (R:Value→Mem→Prop) (e:Exit) (s:St):Prop:=match e with | .normal=>zAK rs s R | .ret=>zAK rs s R|_=>False
def zm4:Nat→List Value→List (Nat×SV)
 | _,[]=>[]
 | i,v::r=>(i,zdL v)::zm4 (i+1) r
def vfn (P:Program) (c:RCode) (rs:List zc) (args:List Value) (M:Mem) (R:Value→Mem→Prop):Prop:=
 zan (zm4 0 args) fun fr=>vc P c (zOF rs R) ⟨fr,[],M⟩
end Go.Vm
namespace Go.Vm
def zAM (x y:Operand):Bool:=match x,y with | .tmp a,.tmp b=>a == b | .const (.int _ a),.const (.int _ b)=>a == b|_,_=>false
def zcM (P:Program) (T:TypeId):Option (List Value):=
 (P.info? T).bind fun i=>i.zero.bind fun z=>if z.cells.size=i.size then some z.cells.toList else none
def zI (P:Program) (T:TypeId):Option Nat:=(P.info? T).map (·.size)
def zeQ (P:Program) (T:TypeId):Option Bool:=
 match P.underlying T with
 | some (.struct _)|some (.array _ _)=>some true
 | some _=>some false
 | none=>none
def zvB (P:Program) (T:TypeId) (parts:List (Nat×Operand)):Option (List (Nat×Nat×Operand)):=
 match P.underlying T with
 | some (.struct fs)=>(fs.toList.mapM fun f=>(zI P f.type).map fun n=>(f.offset,n)).bind fun pl=>
   parts.mapM fun p=>(pl[p.1]?).map fun q=>(q.1,q.2,p.2)
 | some (.array _ e)=>(zI P e).map fun n=>parts.map fun (i,x)=>(i*n,n,x)
 | _=>none
def zCR (t:Nat):Operand→Bool
 | .tmp u=>u == t
 | _=>false
def zAN (ops:List Oper) (t:Nat):Bool:=
 ops.all fun o=>match o.op with
  | .call { callee := .builtin .append,args,.. }=>(match args.toList with|[s,_] => !zCR t s|_=>false)
  | op=>op.operands.all fun x => !zCR t x
def zCS (ops:List Oper) (o:Oper):Bool:=match o.dst with|some d=>zAN ops d|none=>false
def zDw (n:Nat) (o:Oper):Bool:=match o.dst with|some d=>decide (d<n)|none=>true
def zcc (P:Program):Nat→List Field→Bool
 | _,[]=>true
 | i,f::r=>f.name != "_" && f.offset == i&&(match P.underlying f.type with|some (.int _)=>true|_=>false)&&zcc P (i+1) r
def zDx (P:Program) (T:TypeId):Option Nat:=match P.underlying T with
 | some (.struct fs)=>if zcc P 0 fs.toList && !P.stoodInHeld T&&zI P T == some fs.toList.length then some fs.toList.length else none
 | _=>none
def zb7 (P:Program):Nat→List Field→Option Nat
 | i,[]=>some i
 | i,f::r=>if f.name != "_" && f.offset == i then (match P.underlying f.type with
  | some (.int _)=>zb7 P (i+1) r
  | some (.struct _)=>(zDx P f.type).bind fun n=>zb7 P (i+n) r
  | _=>none) else none
def ztJ (P:Program) (T:TypeId):Bool:=match P.underlying T with|some (.slice E)=>(match P.underlying E with|some (.int .u8)=>true|_=>false)|_=>false
def zAy (P:Program) (T:TypeId):Bool:=match P.underlying T with|some (.slice _)=>true|some .string=>true|_=>false
def zbN (P:Program) (k:TypeId):Option KK:=
 match P.underlying k with
 | some (.int _)=>some .int
 | some .string=>some .str
 | some (.struct fs)=>if zcc P 0 fs.toList && !P.stoodInHeld k then some (.agg fs.toList.length) else none
 | some (.array n e)=>(match P.underlying e,zI P e with|some (.int _),some 1=>some (.agg n)|_,_=>none)
 | _=>none
def zeroVal (P:Program) (T:TypeId):Option Value:=(P.info? T).bind fun i=>i.zero
def zn (P:Program) (ops:List Oper) (o:Oper):Option ROp:=
 match o.op with
 | .move x | .assign x=>some (.mov x)
 | .pick c a b=>some (.pick c a b)
 | .box T x=>some (.box T x)
 | .alloc T=>(zcM P T).map fun z => .alloc T z
 | .build T parts=>(zcM P T).bind fun z=>(zvB P T parts.toList).map fun l => .build z l
 | .buildSlice T n parts=>
  match P.underlying T with
  | some (.slice E)=>(zcM P E).bind fun z=>(zI P E).bind fun sz=>
    if n*sz≤16777216∧sz≠0 then
     some (.mkSl (zCS ops o) E n ((List.replicate n z).flatten) (parts.toList.map fun (i,x)=>(i*sz,sz,x)))
    else none
  | _=>none
 | .load T p=>(zeQ P T).bind fun g=>(zcM P T).bind fun z=>if g||z.length == 1 then some (.load g z.length p) else none
 | .store T p x=>(zI P T).map fun n => .store n p x
 | .nilCheck x=>some (.nilck x)
 | .fieldAddr T p i=>match P.underlying T with
  | some (.struct fs)=>(fs[i]?).bind fun f=>(zI P f.type).bind fun n=>if n=0 then none else some (.faddr f.offset p)
  | _=>none
 | .field T x i=>match P.underlying T with
  | some (.struct fs)=>(fs[i]?).bind fun f=>(zeQ P f.type).bind fun g=>(zI P f.type).bind fun n=>if g||n == 1 then some (.field g f.offset n x) else none
  | _=>none
 | .indexAddr T x i=>match P.underlying T with
  | some (.slice E)=>(zI P E).map fun n => .iaddr n x i
  | some (.array len E)=>(zI P E).map fun n => .iaddrA len n x i
  | _=>none
 | .binOp op T x y _=>match P.underlying T with
  | some (.int _)=>some (.ibin op x y)
  | some .bool=>some (.bbin op x y)
  | some (.pointer _)=>some (.pnil op x y)
  | some .string=>some (.strE op x y)
  | some (.slice _)=>some (.slnil op x y)
  | some (.struct fs)=>if zcc P 0 fs.toList && !P.stoodInHeld T && !P.eqGuardType P.depth T then some (.aeq op fs.toList.length x y) else (zb7 P 0 fs.toList).bind fun n=>if !P.stoodInHeld T && !P.eqGuardType P.depth T then some (.aeq op n x y) else none
  | some (.array n E)=>(match P.underlying E,zI P E with|some (.int _),some 1=>if !P.eqGuardType P.depth T then some (.aeq op n x y) else none|_,_=>none)
  | _=>none
 | .index T x i=>match P.underlying T with
  | some .string=>some (.sidx x i)
  | some (.array len E)=>(zeQ P E).bind fun g=>(zI P E).bind fun n=>if g||n == 1 then some (.aidx g len n x i) else none
  | _=>none
 | .unOp .not _ x=>some (.not x)
 | .unOp .neg T x=>match P.underlying T with|some (.int _)=>some (.uneg x)|_=>none
 | .unOp .xor T x=>match P.underlying T with|some (.int _)=>some (.ucom x)|_=>none
 | .makeFunc (.func f) first caps=>if first.size=0 then some (.mkfn f caps.toList) else (match first.toList,caps.toList with|[x],[]=>some (.mval f x)|_,_=>none)
 | .convert S T x=>match P.underlying T,P.underlying S with
  | some (.int k),some (.int _)=>some (.conv k x)
  | some .string,some (.slice _)=>if ztJ P S then some (.strOf x) else none
  | some (.slice _),some (.slice _)=>if ztJ P T&&S == T then some (.strish x) else none
  | _,_=>none
 | .slice T x lo hi none=>match P.underlying T with
  | some (.slice E)=>(zI P E).map fun n => .slx n x lo hi
  | some .string=>some (.ssl x lo hi)
  | some (.array n E)=>if lo.isNone&&hi.isNone then (zI P E).map fun _ => .slA n x else none
  | _=>none
 | .call { callee := .builtin .append,args,argTypes }=>match args.toList,argTypes.toList with
  | [x,y],[T,U]=>(match P.underlying T with
   | some (.slice E)=>(zcM P E).bind fun z=>(P.info? E).bind fun i=>if zAy P U&&z.length != 0 then some (.app E z.length i.bytes z x y) else none
   | _=>none)
  | _,_=>none
 | .slice T x none (some hi) (some m)=>match P.underlying T with
  | some (.slice E)=>(zI P E).map fun n => .slx3 n x (.const (.int .i64 0)) hi m
  | _=>none
 | .slice T x (some lo) (some hi) (some m)=>match P.underlying T with
  | some (.slice E)=>(zI P E).map fun n => .slx3 n x lo hi m
  | _=>none
 | .call { callee := .builtin .clear,args,argTypes }=>match args.toList,argTypes.toList with
  | [x],[T]=>(match P.underlying T with
   | some (.slice E)=>(match zcM P E with
    | some [z]=>if z.oneCell' then some (.clr z x) else none
    | _=>none)
   | _=>none)
  | _,_=>none
 | .call { callee := .builtin .copy,args,argTypes }=>match args.toList,argTypes.toList with
  | [x,y],[T,U]=>(match P.underlying T with
   | some (.slice E)=>(zI P E).bind fun n=>if zAy P U then some (.cpy n x y) else none
   | _=>none)
  | _,_=>none
 | .call { callee := .builtin .min,args,.. }=>match args.toList with
  | [x,y]=>some (.imm false x y)
  | _=>none
 | .call { callee := .builtin .max,args,.. }=>match args.toList with
  | [x,y]=>some (.imm true x y)
  | _=>none
 | .extract x i=>some (.extract x i)
 | .makeMap _ none=>some .mkMap
 | .makeSlice T x y=>match P.underlying T with
  | some (.slice E)=>(zcM P E).bind fun z=>(P.info? E).bind fun i=>if z.length != 0 then some (if zAM x y then .mkSlN E i.bytes z x y else .mkSlC E i.bytes z x y) else none
  | _=>none
 | .lookup T x key ok=>match P.underlying T with
  | some (.map K E)=>(zbN P K).bind fun kk=>(zeroVal P E).map fun z => .mget kk ok z x key
  | _=>none
 | .mapUpdate T x key v=>match P.underlying T with
  | some (.map K _)=>(zbN P K).map fun kk => .mset kk x key v
  | _=>none
 | .insert T x key v=>match P.underlying T with
  | some (.map K _)=>(zbN P K).map fun kk => .mset kk x key v
  | _=>none
 | .range T x=>match P.underlying T with
  | some (.map _ _)=>some (.mrange x)
  | some .string=>some (.srange x)
  | _=>none
 | .next it false=>some (.mnext it)
 | .next it true=>some (.snext it)
 | .entry it=>some (.mentry it)
 | .call { callee := .builtin .delete,args,argTypes }=>match args.toList,argTypes.toList with
  | [x,y],[T,_]=>(match P.underlying T with
   | some (.map K _)=>(zbN P K).map fun kk => .mdel kk x y
   | _=>none)
  | _,_=>none
 | .call { callee := .builtin .len,args,argTypes }=>match args.toList,argTypes.toList with
  | [x],[T]=>(match P.underlying T with
   | some (.slice _)=>some (.len x)
   | some .string=>some (.lenS x)
   | some (.map _ _)=>some (.mlen x)
   | _=>none)
  | _,_=>none
 | .call { callee := .value f,args,.. }=>some (.call f args.toList)
 | _=>none
def znn (ops:List Oper) (g:Option (Nat×Bool)):Option (Option (Nat×Bool)):=
 match g with
 | none=>some none
 | some (j,b)=>match (ops[j]?).bind (·.dst) with
  | some d=>some (some (d,b))
  | none=>none
def zK8 (ops:List Oper) (j:Nat):Bool:=ops.any fun o=>match o.guard with|some (i,_)=>i == j|none=>false
def zk0 (P:Program) (n:Nat) (ops:List Oper) (j:Nat) (o:Oper):Option zZ:=
 (zn P ops o).bind fun r=>(znn ops o.guard).bind fun g=>
  if zDw n o then some { dst:=o.dst,op:=r,guard:=g,sp:=zK8 ops j } else none
def znu (P:Program) (n:Nat) (ops:List Oper):Nat→List Oper→Option (List zZ)
 | _,[]=>some []
 | j,o::r=>match zk0 P n ops j o,znu P n ops (j+1) r with
  | some x,some xs=>some (x::xs)
  | _,_=>none
def zkh (ops:Array Oper):Nat→Nat→Nat→Bool
 | 0,_,_=>false
 | n+1,j,i=>match ops[j]? with
  | some o=>o.after.any fun e=>Region.binds .any e&&(e.on == i||zkh ops n e.on i)
  | none=>false
def zCT (P:Program) (ops:Array Oper):List Nat:=
 (List.range ops.size).filter fun i=>match ops[i]? with
  | some o=>(match zn P ops.toList o with|some r=>reads r|none=>false)
  | none=>false
def zb8 (P:Program) (ops:Array Oper) (j:Nat):Bool:=(zCT P ops).any fun i=>i != j && !zkh ops 5 j i
def zaX (P:Program) (n:Nat) (ops:Array Oper) (i:Nat):Option zZ:=
 match ops[i]? with
 | some o=>(match zk0 P n ops.toList i o with
  | some r=>if zy r.op then some r else none
  | none=>none)
 | none=>none
def zDy (P:Program) (n:Nat) (ops:Array Oper) (i:Nat):Option zZ:=(ops[i]?).bind fun o=>zk0 P n ops.toList i o
def zpZ (P:Program) (n:Nat) (ops:Array Oper):Nat→Bool→Array Bool→Option DTree
 | 0,_,listed=>match Region.ready .any ops listed with|[]=>some .done|_=>none
 | fuel+1,ok,listed=>
  match Region.ready .any ops listed with
  | []=>some .done
  | rs=>
   match rs.find? (fun i=>(zaX P n ops i).isSome&&Region.free .any ops listed i&&(ok || !(match zaX P n ops i with|some r=>reads r.op|none=>false))) with
   | some i=>(zaX P n ops i).bind fun r=>(zpZ P n ops fuel ok (listed.setIfInBounds i true)).map (.take r)
   | none=>rs.foldr (fun i more=>more.bind fun m=>(zDy P n ops i).bind fun r=>
     if !zy r.op then (zpZ P n ops fuel (match zhi r.op with|true=>ok|false=>zb8 P ops i&&(ok||r.guard.isNone)) (listed.setIfInBounds i true)).map fun t => .alt r (zb8 P ops i && !zhi r.op) t m else none) (some .none)
def noR:RCode→Bool
 | .seq a b=>noR a&&noR b
 | .cond _ a b=>noR a&&noR b
 | .block _ a=>noR a
 | .loop a=>noR a
 | .scope a=>noR a
 | .rfun .. => false
 | _=>true
def zk1 (o:Oper):Bool:=match o.op with | .defer _=>false|_=>true
def noD:Code→Bool
 | .region _ ops _=>ops.all zk1
 | .seq a b=>noD a&&noD b
 | .cond _ a b=>noD a&&noD b
 | .block _ a=>noD a
 | .loop a=>noD a
 | .scope _=>false
 | .rangeFunc .. => false
 | _=>true
def res (P:Program) (n:Nat) (kf:Nat→List Nat):Code→Option RCode
 | .skip=>some .skip
 | .region id ops draw=>match draw with
  | false=>(znu P n ops.toList 0 ops.toList).map fun l => .ops l (kf id)
  | true=>if P.follows .mixedOrders&&Region.noSelect ops then (zpZ P n ops ops.size true (Array.replicate ops.size false)).map fun t => .draw t (kf id) else none
 | .seq a b=>match res P n kf a,res P n kf b with
  | some x,some y=>some (.seq x y)
  | _,_=>none
 | .cond c a b=>match res P n kf a,res P n kf b with
  | some x,some y=>some (.cond c x y)
  | _,_=>none
 | .block id a=>(res P n kf a).map (.block id)
 | .loop a=>(res P n kf a).map .loop
 | .exit id=>some (.exit id)
 | .ret=>some .ret
 | .scope a=>(res P n kf a).map .scope
 | .rangeFunc g ps a b=>match res P n kf a,res P n kf b with
  | some x,some y=>if noR x&&noR y&&noD a&&noD b&&ps.toList.all (fun p=>decide (p<n)) then some (.rfun g ps.toList x y) else none
  | _,_=>none
 | .label _=>some .skip
 | _=>none
def zpl (P:Program):ResultVar→Option zc
 | .tmp t=>some (.tmp t)
 | .cell a T=>(zeQ P T).bind fun g=>(zI P T).bind fun n=>if g||n == 1 then some (.cell g n a) else none
def zr2 (P:Program) (fn:Func):Option (List zc):=fn.results.toList.mapM (zpl P)
end Go.Vm
