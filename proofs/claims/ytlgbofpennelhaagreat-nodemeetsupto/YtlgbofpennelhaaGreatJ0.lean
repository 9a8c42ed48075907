/- Part. -/
import Derived.WalkKit
import Derived.WalkSpells
import Derived.WalkLawsBesides
import Derived.OrdersHeld
import Derived.Scope
import Derived.Deep.Upon
import Derived.Laws.StructEq
import Derived.Laws.IdiomStrings
import Derived.WideKeyRuns
import Derived.ChangeKeysEq
import Derived.MapKept
import Derived.RangeFuncNested
import Derived.RangeFuncCalls
set_option linter.all false
set_option maxHeartbeats 0
theorem Zd0 {p:Prop} [Decidable p]:decide p=true→p:=of_decide_eq_true
theorem Zd1 {p:Prop} [Decidable p]:decide p=false→¬p:=of_decide_eq_false
def Yb := @List.getElem?_eq_getElem
def Yd := @Nat.le_refl
def Ye := @Option.map_eq_some_iff
def Yf := @List.take_of_length_le
def Yi := @List.length_append
def Yj := @List.mem_map
def Yk := @Go.Result.andThen_ok
def Yl := @Bool.and_eq_true
def Ym := @List.length_cons
def Yn := @Option.bind_eq_some_iff
def Yo := @Go.Sem.run_bind
def Yp := @List.mem_cons
def Yq := @List.map_cons
def Yr := @List.append_assoc
def Ys := @List.getD_eq_getElem?_getD
def Yt := @List.append_nil
def Yu := @List.getElem?_eq_some_iff
def Yv := @List.map_append
def Yx := @List.pairwise_cons
def Yy := @List.mem_append
def Yz := @Nat.le_trans
def Y0 := @List.mem_singleton
def Y1 := @List.take_add_one
def Y2 := @List.drop_eq_getElem_cons
def Y3 := @Option.some.injEq
def Y4 := @List.take_append_of_le_length
def Y5 := @Nat.zero_le
def Y6 := @Go.Sem.run_pure
def Y7 := @Array.getElem?_eq_some_iff
def Y8 := @List.eq_nil_of_length_eq_zero
def Y9 := @List.length_map
def Yaa := @List.nil_append
def Yae := @Int.le_refl
def Yaf := @List.drop_of_length_le
def Yag := @List.getElem?_append_left
def Yah := @Bool.not_eq_true'
def Yai := @List.getElem_mem
def Yaj := @List.take_length
def Yak := @List.mem_cons_of_mem
def Yal := @List.foldl_cons
def Yan := @List.getElem?_append_right
def Yao := @List.mem_of_getElem?
def Yap := @Nat.zero_add
def Yar := @List.length_nil
def Yat := @List.length_filter_le
def Yau := @List.nodup_cons
def Yav := @List.map_congr_left
def Yax := @List.pairwise_append
def Yay := @List.pairwise_singleton
def Yaz := @List.all_eq_true
def Ya0 := @List.foldl_append
def Ya1 := @Int.tdiv_eq_ediv_of_nonneg
def Ya2 := @List.length_take
def Ya3 := @List.mem_filter
def Ya4 := @List.map_map
def Ya5 := @UInt8.toNat_lt
def Ya6 := @List.getElem?_take_of_lt
def Ya7 := @List.getElem?_map
def Ya9 := @Nat.eq_of_beq_eq_true
def Yba := @Option.ne_none_iff_exists'
def Ybb := @List.sum_cons
def Ybd := @List.pairwise_map
def Ybe := @Classical.byContradiction
def Ybf := @Option.bind_some
def Ybg := @Nat.min_eq_left
def Ybi := @Nat.mul_one
def Ybj := @Nat.mod_eq_of_lt
def Ybk := @Array.getElem?_eq_getElem
def Ybl := @List.drop_append_of_le_length
def Ybm := @List.getElem_of_mem
def Ybn := @List.flatMap_cons
def Ybo := @List.drop_drop
def Ybp := @Bool.false_eq_true
def Ybq := @Bool.not_eq_false'
def Ybr := @Nat.mul_le_mul_right
def Ybu := @List.take_succ_cons
def Ybv := @List.length_singleton
def Ybw := @List.getElem?_drop
def Ybx := @Nat.add_zero
def Yby := @List.cons_append
def Ybz := @List.map_nil
def Yb0 := @List.take_take
def Yb1 := @List.ext_getElem?
def Yb2 := @Option.some.inj
def Yb3 := @List.foldr_cons
def Yb4 := @Go.MapKept.run_getObj_map
def Yb5 := @Int.fdiv_eq_ediv_of_nonneg
def Yb6 := @Int.tmod_eq_emod_of_nonneg
def Yb7 := @List.any_eq_true
def Yb8 := @List.filter_cons
def Yb9 := @Bool.not_eq_true
def Yca := @List.getElem?_eq_none
def Ycb := @List.getElem?_take
def Ycd := @Nat.lt_of_lt_of_le
def Yce := @List.filter_append
def Ycf := @List.mem_of_find?_eq_some
def Ych := @List.mem_append_left
def Yci := @Prod.mk.injEq
def Ycj := @Go.World.putObj_heap_other
def Yck := @Go.ByteArray.toList_eq
def Ycl := @List.filter_sublist
def Ycm := @List.drop_take
def Ycn := @List.drop_zero
def Yco := @List.not_mem_nil
def Ycp := @List.getElem?_set_self
def Ycq := @Nat.add_mul
def Ycr := @Nat.sub_zero
def Ycs := @Array.getD_eq_getD_getElem?
def Yct := @BitVec.toNat_ofNat
def Ycu := @List.take_append_drop
def Ycv := @Array.getElem?_append_left
def Ycw := @List.extract_eq_take_drop
def Ycx := @List.pairwise_iff_getElem
def Ycy := @List.ext_getElem
def Ycz := @List.filter_eq_self
def Yc0 := @Option.map_some
def Yc1 := @List.mem_cons_self
def Yc2 := @UInt8.toNat_ofNat'
def Yc3 := @Nat.le_succ
def Yc4 := @Int.toNat_natCast
def Yc5 := @Classical.choose_spec
def Yc7 := @List.mem_append_right
def Yc8 := @Array.getElem?_modify
def Yc9 := @List.Perm.append_left
def Yda := @List.perm_append_comm
def Ydb := @List.getElem?_set_ne
def Ydc := @List.length_drop
def Ydd := @BitVec.ofInt_natCast
def Yde := @Int.fdiv_eq_ediv
def Ydf := @Go.Calls.mono
def Ydh := @List.map_id
def Ydi := @List.flatten_append
def Ydj := @List.flatMap_append
def Ydk := @Int.toNat_of_nonneg
def Ydl := @Bool.or_eq_true
def Ydm := @List.find?_some
def Ydn := @List.filter_map
def Ydo := @Nat.lt_or_ge
def Ydp := @Nat.succ_mul
def Yds := @List.getElem_range
def Ydt := @Nat.xor_lt_two_pow
def Ydu := @List.Perm.eq_of_pairwise
def Ydv := @List.mem_range
def Ydw := @List.nodup_append
def Ydx := @Nat.ne_of_beq_eq_false
def Ydy := @List.all_cons
def Ydz := @List.Sublist.map
def Yd2 := @List.getElem_map
def Yd3 := @List.drop_append
def Yd4 := @Nat.le_add_right
def Yd5 := @List.Pairwise.and_mem
def Yd6 := @Nat.mul_comm
def Yd7 := @Nat.pow_le_pow_right
def Yd8 := @Int.le_antisymm
theorem oM {p:Prop} (h:p:=by omega):p:=h
theorem oN {p:Prop} (h:p:=by first|omega|(dsimp only;omega)):p:=h
theorem oD {p:Prop} (h:p:=by decide):p:=h
theorem oS {p:Prop} (h:p:=by simp):p:=h
theorem oC {p:Prop} (h:p:=by simp[Go.Value.oneCell']):p:=h
theorem oE {p:Prop} (h:p:=by simp;omega):p:=h
theorem oI {α:Type} (x:α):∃ y,y=x:=⟨x,rfl⟩
namespace Go.Vm
def Mem:Type:=Nat→Option Obj
namespace Mem
def le (A M:Mem):Prop:=∀ b o,A b=some o→M b=some o
def disj (A B:Mem):Prop:=∀ b,A b=none∨B b=none
def upd (M:Mem) (b:Nat) (o:Obj):Mem:=fun c=>if c=b then some o else M c
def row (M:Mem) (b o n:Nat):Option (List Value):=
 match M b with
 | some (.cells c _ _)=>if o+n≤c.size then some ((c.toList.drop o).take n) else none
 | _=>none
def cells (M:Mem) (b:Nat):Option (TypeId×List Value):=
 match M b with
 | some (.cells c e (0,0))=>some (e,c.toList)
 | _=>none
def setCells (M:Mem) (b:Nat) (e:TypeId) (l:List Value):Mem:=M.upd b (.cells l.toArray e (0,0))
end Mem
def zk (w:World):Mem:=fun b=>w.heap[b]?
inductive SC where
 | v (x:Value)
 | bx (k o:Nat)
inductive SV where
 | c (x:SC)
 | ag (cs:List SC)
 | sl (k n:Nat)
 | fn (f:Nat) (cap:List SC)
 | sb (x:Bool)
 | dead
inductive BE where
 | live (T:TypeId) (cs:List SC)
 | gone (b:Nat)
def SC.val (β:List Nat):SC→Option Value
 | .v x=>some x
 | .bx k o=>(β[k]?).map fun b => .pointer (some ⟨b,o,none⟩)
def zY (β:List Nat):List SC→Option (List Value)
 | []=>some []
 | x::r=>match x.val β,zY β r with
  | some v,some vs=>some (v::vs)
  | _,_=>none
def SV.val (β:List Nat):SV→Option Value
 | .c x=>x.val β
 | .ag cs=>(zY β cs).map fun vs => .agg vs.toArray
 | .sl k n=>(β[k]?).map fun b => .slice (some ⟨b,0,none⟩) n n
 | .fn f cap=>(zY β cap).map fun vs => .func (.func f) #[] vs.toArray
 | .sb x=>some (.bool x)
 | .dead=>none
def normC:Value→SV
 | .agg cs => .ag (cs.toList.map .v)
 | v => .c (.v v)
def zkP:Value→SV
 | .agg cs => .ag (cs.toList.map .v)
 | .bool x => .sb x
 | v => .c (.v v)
@[reducible] def SV.int (k:IntKind) (n:Int):SV := .c (.v (.int k n))
@[reducible] def SV.bool (b:Bool):SV := .c (.v (.bool b))
@[reducible] def SV.ptr (b o:Nat):SV := .c (.v (.pointer (some ⟨b,o,none⟩)))
@[reducible] def SV.slice (a:Option Addr) (n c:Nat):SV := .c (.v (.slice a n c))
structure St where
 fr:List (Nat×SV)
 bx:List BE
 M:Mem
def lk:List (Nat×SV)→Nat→Option SV
 | [],_=>none
 | (t,sv)::r,d=>match Nat.beq t d with|true=>some sv|false=>lk r d
def zi8 (d:Nat):List (Nat×SV)→List (Nat×SV)
 | []=>[]
 | (t,sv)::r=>match Nat.beq t d with|true=>zi8 d r|false=>(t,sv)::zi8 d r
def zf2:List Nat→List (Nat×SV)→List (Nat×SV)
 | [],l=>l
 | d::r,l=>zf2 r (zi8 d l)
def St.put (s:St) (d:Option Nat) (sv:SV):St:=
 match d with
 | none=>s
 | some d=>{ s with fr:=(d,sv)::s.fr }
def St.kill (s:St) (l:List Nat):St:={ s with fr:=zf2 l s.fr }
def zcV {α:Type}:List α→(List α→Prop)→Prop
 | [],k=>k []
 | x::r,k=>zcV r fun r'=>k (x::r')
def zvo (sv:SV) (k:SV→Prop):Prop:=
 match sv with
 | .c (.v v)=>k (.c (.v v))
 | .c (.bx j o)=>k (.c (.bx j o))
 | .ag l=>zcV l fun l'=>k (.ag l')
 | .sl j n=>k (.sl j n)
 | .fn f l=>zcV l fun l'=>k (.fn f l')
 | .sb x=>k (.sb x)
 | .dead=>k .dead
def St.putK (s:St) (d:Option Nat) (sv:SV) (k:St→Prop):Prop:=
 match d with
 | none=>k s
 | some d=>(match s with|⟨fr,bx,M⟩=>zvo sv fun sv'=>k ⟨(d,sv')::fr,bx,M⟩)
def znC (d:Nat):List (Nat×SV)→(List (Nat×SV)→Prop)→Prop
 | [],k=>k []
 | (t,sv)::r,k=>match Nat.beq t d with|true=>znC d r k|false=>znC d r fun r'=>k ((t,sv)::r')
def zrh:List Nat→List (Nat×SV)→(List (Nat×SV)→Prop)→Prop
 | [],l,k=>k l
 | d::r,l,k=>znC d l fun l'=>zrh r l' k
def St.killK (s:St) (l:List Nat) (k:St→Prop):Prop:=match s with|⟨fr,bx,M⟩=>zrh l fr fun fr'=>k ⟨fr',bx,M⟩
def znD:List BE→Nat→Option BE
 | [],_=>none
 | e::_,0=>some e
 | _::r,n+1=>znD r n
def St.addK (s:St) (e:BE) (k:Nat→St→Prop):Prop:=match s with|⟨fr,bx,M⟩=>zcV (bx++[e]) fun bx'=>k bx.length ⟨fr,bx',M⟩
def St.setK (s:St) (j:Nat) (e:BE) (k:St→Prop):Prop:=match s with|⟨fr,bx,M⟩=>zcV (bx.set j e) fun bx'=>k ⟨fr,bx',M⟩
def zbM:List Value→List Value→Option Bool
 | [],[]=>some true
 | .int k a::r,.int k' b::r'=>if k=k' then (if a=b then zbM r r' else some false) else none
 | _,_=>none
def zeD:Value→Value→Option Bool
 | .int k a,.int k' b=>if k=k' then some (decide (a=b)) else none
 | .string a,.string b=>some (decide (a=b))
 | .agg xs,.agg ys=>zbM xs.toList ys.toList
 | _,_=>none
def zB (k:Value):List MapEntry→Nat→Option (Option (Nat×Value))
 | [],_=>some none
 | e::es,i=>match zeD k e.key with
  | some true=>some (some (i,e.val))
  | some false=>zB k es (i+1)
  | none=>none
inductive KK where
 | int
 | str
 | agg (n:Nat)
def Mem.textAt (M:Mem) (r:Nat):Option Obj:=match M r with|some (.cells c e fz)=>some (.cells c e (if fz.1=fz.2 then (c.size,c.size+1) else (min fz.1 c.size,max fz.2 (c.size+1))))|_=>none
def Mem.mapAt (M:Mem) (r:Nat):Option (Array MapEntry×Nat):=match M r with|some (.map es c)=>some (es,c)|_=>none
def Mem.iterAt (M:Mem) (r:Nat):Option (Option Nat×Nat×Array Nat×Nat):=match M r with|some (.mapIter m a s b)=>some (m,a,s,b)|_=>none
def zdg (p:Array MapEntry×Nat) (f:Option (Nat×Value)) (key v:Value):Obj:=
 match f with
 | some (i,_) => .map (p.1.modify i fun e=>{ e with key:=key,val:=v }) p.2
 | none => .map (p.1.push { key:=key,val:=v,born:=p.2 }) (p.2+1)
def zdq (p:Array MapEntry×Nat) (f:Option (Nat×Value)):Obj:=
 match f with
 | some (i,_) => .map (p.1.eraseIdxIfInBounds i) p.2
 | none => .map p.1 p.2
inductive ROp where
 | mov (x:Operand)
 | pick (c a b:Operand)
 | box (T:TypeId) (x:Operand)
 | alloc (T:TypeId) (z:List Value)
 | build (z:List Value) (parts:List (Nat×Nat×Operand))
 | mkSl (tmp:Bool) (E:TypeId) (n:Nat) (z:List Value) (parts:List (Nat×Nat×Operand))
 | load (agg:Bool) (n:Nat) (p:Operand)
 | store (n:Nat) (p x:Operand)
 | nilck (x:Operand)
 | faddr (off:Nat) (p:Operand)
 | field (agg:Bool) (off n:Nat) (x:Operand)
 | iaddr (size:Nat) (x i:Operand)
 | iaddrA (len size:Nat) (p i:Operand)
 | ibin (op:BinOp) (x y:Operand)
 | bbin (op:BinOp) (x y:Operand)
 | pnil (op:BinOp) (x y:Operand)
 | not (x:Operand)
 | conv (k:IntKind) (x:Operand)
 | len (x:Operand)
 | lenS (x:Operand)
 | extract (x:Operand) (i:Nat)
 | strOf (x:Operand)
 | strE (op:BinOp) (x y:Operand)
 | imm (mx:Bool) (x y:Operand)
 | slx3 (size:Nat) (x lo hi m:Operand)
 | slx (size:Nat) (x:Operand) (lo hi:Option Operand)
 | aeq (op:BinOp) (n:Nat) (x y:Operand)
 | slnil (op:BinOp) (x y:Operand)
 | app (E:TypeId) (size bytes:Nat) (z:List Value) (x y:Operand)
 | mkMap
 | strish (x:Operand)
 | sidx (x i:Operand)
 | aidx (agg:Bool) (len size:Nat) (x i:Operand)
 | mkfn (f:Nat) (caps:List Operand)
 | mval (f:Nat) (x:Operand)
 | clr (z:Value) (x:Operand)
 | slA (n:Nat) (x:Operand)
 | srange (x:Operand)
 | snext (it:Operand)
 | uneg (x:Operand)
 | ucom (x:Operand)
 | ssl (x:Operand) (lo hi:Option Operand)
 | cpy (size:Nat) (x y:Operand)
 | mkSlN (E:TypeId) (bytes:Nat) (z:List Value) (n c:Operand)
 | mkSlC (E:TypeId) (bytes:Nat) (z:List Value) (n c:Operand)
 | mget (kk:KK) (ok:Bool) (z:Value) (x key:Operand)
 | mlen (x:Operand)
 | mset (kk:KK) (x key v:Operand)
 | mdel (kk:KK) (x key:Operand)
 | mrange (x:Operand)
 | mnext (it:Operand)
 | mentry (it:Operand)
 | call (f:Operand) (args:List Operand)
structure zaZ where
 dst:Option Nat
 op:ROp
 guard:Option (Nat×Bool)
 sp:Bool
inductive DTree where
 | done
 | take (o:zaZ) (t:DTree)
 | alt (o:zaZ) (need:Bool) (t more:DTree)
 | none
inductive zbN where
 | skip
 | draw (t:DTree) (kl:List Nat)
 | ops (l:List zaZ) (kl:List Nat)
 | seq (a b:zbN)
 | cond (c:Operand) (a b:zbN)
 | block (id:Nat) (a:zbN)
 | loop (a:zbN)
 | exit (id:Nat)
 | ret
 | scope (a:zbN)
 | rfun (g:Operand) (ps:List Nat) (asg body:zbN)
def Brn (x:Bool) (A B:Prop):Prop:=(x=true→A)∧(x=false→B)
def lit (x:Bool) (A B:Prop):Prop:=match x with|true=>A|false=>B
def brS (sv:SV) (A B:Prop):Prop:=
 match sv with
 | .c (.v (.bool b))=>lit b A B
 | .sb x=>Brn x A B
 | _=>False
def Ob (p A:Prop):Prop:=p∧A
def evO (x:Option SV) (k:SV→Prop):Prop:=
 match x with
 | some .dead=>False
 | some sv=>k sv
 | none=>False
def ev (s:St) (x:Operand) (k:SV→Prop):Prop:=
 match x with
 | .tmp n=>evO (lk s.fr n) k
 | .const v=>k (normC v)
 | .func f=>k (.c (.v (.func (.func f) #[] #[])))
 | .global _=>False
def asI (sv:SV) (k:IntKind→Int→Prop):Prop:=match sv with | .c (.v (.int q n))=>k q n|_=>False
def asB (sv:SV) (k:Bool→Prop):Prop:=match sv with | .c (.v (.bool b))=>k b | .sb b=>k b|_=>False
def zDx (sv:SV) (k:Option Addr→Nat→Nat→Prop):Prop:=match sv with | .c (.v (.slice a n c))=>k a n c|_=>False
def evI (s:St) (x:Operand) (k:IntKind→Int→Prop):Prop:=ev s x fun sv=>asI sv k
def evB (s:St) (x:Operand) (k:Bool→Prop):Prop:=ev s x fun sv=>asB sv k
def evS (s:St) (x:Operand) (k:Option Addr→Nat→Nat→Prop):Prop:=ev s x fun sv=>zDx sv k
def atO (a:Option Addr) (k:Nat→Nat→Prop):Prop:=match a with|some ⟨b,o,none⟩=>k b o|_=>False
def atB (e:Option BE) (kb:List SC→Prop) (kp:Nat→Prop):Prop:=
 match e with
 | some (.live _ cs)=>kb cs
 | some (.gone b)=>kp b
 | none=>False
def asP (s:St) (sv:SV) (kb:Nat→Nat→List SC→Prop) (kp:Nat→Nat→Prop):Prop:=
 match sv with
 | .c (.bx j o)=>atB (znD s.bx j) (kb j o) (fun b=>kp b o)
 | .c (.v (.pointer a))=>atO a kp
 | _=>False
def evP (s:St) (x:Operand) (kb:Nat→Nat→List SC→Prop) (kp:Nat→Nat→Prop):Prop:=ev s x fun sv=>asP s sv kb kp
def cellsOf:SV→Option (List SC)
 | .c (.v x)=>if x.oneCell' then some [.v x] else none
 | .c (.bx j o)=>some [.bx j o]
 | .ag cs=>some cs
 | .sb x=>some [.v (.bool x)]
 | _=>none
def onO {α:Type} (x:Option α) (k:α→Prop):Prop:=match x with|some l=>k l|none=>False
def zHI (cs:List SC) (k:SV→Prop):Prop:=match cs with|[x]=>k (.c x)|_=>False
def mkv (agg:Bool) (cs:List SC) (k:SV→Prop):Prop:=match agg with|true=>zcV cs fun l=>k (.ag l)|false=>zHI cs k
def zih (cs:List SC) (o n:Nat):Option (List SC):=if o+n≤cs.length then some ((cs.drop o).take n) else none
def zd {α:Type} (l:List α) (o:Nat) (vs:List α):List α:=l.take o++vs++l.drop (o+vs.length)
def znE (l:List SC) (o n:Nat) (cs:List SC):Option (List SC):=if l.length=n∧o+n≤cs.length then some (zd cs o l) else none
def build (s:St):List (Nat×Nat×Operand)→List SC→(List SC→Prop)→Prop
 | [],cs,k=>k cs
 | (o,n,x)::r,cs,k=>ev s x fun sv=>onO (cellsOf sv) fun l=>onO (znE l o n cs) fun cs'=>zcV cs' fun cs''=>build s r cs'' k
def inR (k:IntKind) (n:Int):Prop:=k.wrap n=n
def zD (op:BinOp) (k:IntKind) (x y:Int):Int:=
 let a:=BitVec.ofInt k.bits x
 let b:=BitVec.ofInt k.bits y
 match op with
 | .and=>k.wrap (a &&& b).toNat
 | .or=>k.wrap (a ||| b).toNat
 | .xor=>k.wrap (a ^^^ b).toNat
 | _=>k.wrap (a &&& ~~~b).toNat
structure ObR (k:IntKind) (r:Int) (K:SV→Prop):Prop where
 ok:K (.int k (k.wrap r))
def zkq (k:IntKind) (r:Int) (K:SV→Prop):Prop:=
 match k.signed with
 | true=>ObR k r K
 | false=>K (.int k (k.wrap r))
def ibin (op:BinOp) (k:IntKind) (a b:Int) (K:SV→Prop):Prop:=
 match op with
 | .add=>zkq k (a+b) K
 | .sub=>zkq k (a - b) K
 | .mul=>zkq k (a*b) K
 | .quo=>Ob (b≠0) (zkq k (a.tdiv b) K)
 | .rem=>Ob (b≠0) (K (.int k (a.tmod b)))
 | .and=>K (.int k (zD .and k a b))
 | .or=>K (.int k (zD .or k a b))
 | .xor=>K (.int k (zD .xor k a b))
 | .andNot=>K (.int k (zD .andNot k a b))
 | .eql=>K (.sb (decide (a=b)))
 | .neq=>K (.sb (!decide (a=b)))
 | .lss=>K (.sb (decide (a<b)))
 | .leq=>K (.sb (decide (a≤b)))
 | .gtr=>K (.sb (decide (b<a)))
 | .geq=>K (.sb (decide (b≤a)))
 | .shl=>Ob (0≤b) (K (.int k (k.wrap (a*2 ^ (min b.toNat k.bits)))))
 | .shr=>Ob (0≤b) (K (.int k (a.fdiv (2 ^ (min b.toNat k.bits)))))
def znF (op:BinOp) (r:Bool) (k:SV→Prop):Prop:=match op with | .eql=>k (.sb r) | .neq=>k (.sb !r)|_=>False
def zHK (op:BinOp) (a b:ByteArray) (k:SV→Prop):Prop:=
 match op with
 | .eql=>k (.sb (decide (a=b)))
 | .neq=>k (.sb (!(decide (a=b))))
 | .add=>Ob (a.size+b.size≤9223372036854775807) (k (.c (.v (.string (a++b)))))
 | .lss=>k (.sb (Op.bytesLess a.toList b.toList))
 | .leq=>k (.sb (Op.bytesLess a.toList b.toList||decide (a=b)))
 | .gtr=>k (.sb (!(Op.bytesLess a.toList b.toList||decide (a=b))))
 | .geq=>k (.sb (!Op.bytesLess a.toList b.toList))
 | _=>False
def zHL (op:BinOp) (a b:Bool) (k:SV→Prop):Prop:=match op with | .eql=>k (.sb (a == b)) | .neq=>k (.sb (a != b))|_=>False
def zFD (sv:SV) (k:Prop):Prop:=match sv with | .c (.v (.pointer none))=>k|_=>False
def zBn (sv:SV) (k:Bool→Prop):Prop:=match sv with | .c (.v (.pointer a))=>k a.isNone | .c (.bx _ _)=>k false|_=>False
def zrj (sv:SV) (n:Nat) (k:SV→Prop):Prop:=
 match sv with
 | .c (.bx j o)=>k (.c (.bx j (o+n)))
 | .c (.v (.pointer a))=>atO a fun b o=>k (.ptr b (o+n))
 | _=>False
def zHM (sv:SV) (k:SV→Prop):Prop:=
 match sv with
 | .c (.v (.bool b))=>lit b (k (.bool false)) (k (.bool true))
 | .sb x=>k (.sb !x)
 | _=>False
def zqm (sv:SV) (k:List SC→Prop):Prop:=match sv with | .ag cs=>k cs|_=>False
def zi9 (sv:SV) (k:ByteArray→Prop):Prop:=match sv with | .c (.v (.string b))=>k b|_=>False
def zHN (sv:SV) (k:List Value→Prop):Prop:=match sv with | .c (.v (.tuple vs))=>k vs.toList|_=>False
def zzp (op:BinOp) (q q':IntKind) (A:Prop):Prop:=
 match op with
 | .shl=>A
 | .shr=>A
 | _=>(match decide (q=q') with|true=>A|false=>False)
def ziN (m n:Nat) (A:Prop):Prop:=match Nat.beq m n with|true=>A|false=>False
def zc (b:UInt8):Value := .int .u8 b.toNat
def SrcOk (M:Mem) (size:Nat) (a:Option Addr) (n:Nat) (vs:List Value):Prop:=
 vs.length=n*size∧(vs=[]∨∃ b o,a=some ⟨b,o,none⟩∧M.row b o (n*size)=some vs)
def zam (M:Mem) (a:Option Addr) (n:Nat) (k:SV→Prop):Prop:=∃ bs:List UInt8,SrcOk M 1 a n (bs.map zc)∧k (.c (.v (.string ⟨bs.toArray⟩)))
def subA (a:Option Addr) (l m size:Nat):Option Addr:=if m=l then a else a.map (·.add (l*size))
def zzq (s:St) (x:Option Operand) (d:Int) (k:Int→Prop):Prop:=match x with|none=>k d|some x=>evI s x fun _ n=>k n
def eqC (x y:SC) (k:Bool→Prop):Prop:=
 match x,y with
 | .v (.int q a),.v (.int q' b)=>(match decide (q=q') with|true=>k (decide (a=b))|false=>False)
 | _,_=>False
def zfq:List SC→List SC→(Bool→Prop)→Prop
 | [],[],k=>k true
 | x::r,y::r',k=>eqC x y fun t=>zfq r r' fun t'=>k (t&&t')
 | _,_,_=>False
def zBo (sv:SV) (k:Prop):Prop:=match sv with | .c (.v (.slice none _ _))=>k|_=>False
def zFE (sv:SV) (k:Bool→Prop):Prop:=match sv with | .c (.v (.slice a _ _))=>k a.isNone | .sl _ _=>k false|_=>False
def zlO (sv:SV) (k:Option Nat→Prop):Prop:=match sv with | .c (.v (.map r))=>k r|_=>False
def zkQ (r:Option Nat) (A:Prop) (k:Nat→Prop):Prop:=match r with|none=>A|some b=>k b
def zuY:List SC→(List Value→Prop)→Prop
 | [],k=>k []
 | .v (.int q n)::r,k=>zuY r fun vs=>k (.int q n::vs)
 | _,_=>False
def keyV (kk:KK) (sv:SV) (k:Value→Prop):Prop:=
 match kk,sv with
 | .int,.c (.v (.int q n))=>k (.int q n)
 | .str,.c (.v (.string b))=>k (.string b)
 | .agg n,.ag cs=>ziN cs.length n (zuY cs fun vs=>k (.agg vs.toArray))
 | _,_=>False
def zsy (ok:Bool) (z:Value) (f:Option (Nat×Value)) (k:SV→Prop):Prop:=
 match f with
 | some (_,v)=>(match ok with|true=>k (.c (.v (.tuple #[v,.bool true])))|false=>k (zkP v))
 | none=>(match ok with|true=>k (.c (.v (.tuple #[z,.bool false])))|false=>k (zkP z))
def zC (M:Mem) (b:Nat):Option (Value×Value):=
 match M.iterAt b with
 | some (some m,_,seen,stepped)=>(match M.mapAt m,seen.back? with
  | some (es,clock),some stamp=>if clock=stepped then (es.find? (·.born == stamp)).map fun e=>(e.key,e.val) else none
  | _,_=>none)
 | _=>none
def zf3:List SC→Option (List Value)
 | []=>some []
 | .v x::r=>(zf3 r).map (x :: ·)
 | .bx _ _::_=>none
def zja:SV→Option SC
 | .c x=>some x
 | .ag cs=>(zf3 cs).map fun vs => .v (.agg vs.toArray)
 | .sb x=>some (.v (.bool x))
 | _=>none
def zrk:List Operand→St→(List SC→Prop)→Prop
 | [],_,k=>k []
 | x::r,s,k=>ev s x fun sv=>onO (zja sv) fun c=>zrk r s fun cs=>k (c::cs)
def zFF (f:Nat) (sv:SV) (k:SV→Prop):Prop:=match sv with | .c (.v v)=>k (.c (.v (.func (.func f) #[v] #[])))|_=>False
def vq (o:ROp) (s:St) (k:SV→Prop):Prop:=
 match o with
 | .mov x=>ev s x k
 | .pick c a b=>ev s c fun sv=>brS sv (ev s a k) (ev s b k)
 | .build z parts=>zcV (z.map .v) fun z'=>build s parts z' fun cs=>k (.ag cs)
 | .load agg n p=>evP s p
   (fun _ o cs=>onO (zih cs o n) fun l=>mkv agg l k)
   (fun b o=>onO (s.M.row b o n) fun vs=>mkv agg (vs.map .v) k)
 | .nilck x=>ev s x fun sv=>zrj sv 0 k
 | .faddr off p=>ev s p fun sv=>zrj sv off k
 | .field agg off n x=>ev s x fun sv=>zqm sv fun cs=>onO (zih cs off n) fun l=>mkv agg l k
 | .iaddr size x i=>evS s x fun a n _=>evI s i fun _ j=>Ob (0≤j∧j<n) (atO a fun b o=>k (.ptr b (o+j.toNat*size)))
 | .iaddrA len size p i=>evI s i fun _ j=>Ob (0≤j∧j<len) (ev s p fun sv=>zrj sv (j.toNat*size) k)
 | .ibin op x y=>evI s x fun q a=>evI s y fun q' b=>zzp op q q' (ibin op q a b k)
 | .bbin op x y=>evB s x fun a=>evB s y fun b=>zHL op a b k
 | .pnil op x y=>ev s y fun u=>zFD u (ev s x fun sv=>zBn sv fun r=>znF op r k)
 | .not x=>ev s x fun sv=>zHM sv k
 | .conv q x=>evI s x fun _ n=>k (.int q (q.wrap n))
 | .len x=>evS s x fun _ n _=>k (.int .i64 n)
 | .lenS x=>ev s x fun sv=>zi9 sv fun b=>k (.int .i64 b.size)
 | .extract x i=>ev s x fun sv=>zHN sv fun vs=>onO (vs[i]?) fun v=>k (zkP v)
 | .strOf x=>evS s x fun a n _=>(match s with|⟨_,_,M⟩=>zam M a n k)
 | .strE op x y=>ev s x fun u=>zi9 u fun a=>ev s y fun v=>zi9 v fun b=>zHK op a b k
 | .sidx x i=>ev s x fun u=>zi9 u fun a=>evI s i fun _ j=>Ob (0≤j∧j<a.size) (k (.int .u8 (a.toList.getD j.toNat 0).toNat))
 | .aidx g len size x i=>evI s i fun _ j=>Ob (0≤j∧j<len) (ev s x fun u=>zqm u fun cs=>onO (zih cs (j.toNat*size) size) fun l=>mkv g l k)
 | .ssl x lo hi=>ev s x fun u=>zi9 u fun a=>zzq s lo 0 fun l=>zzq s hi a.size fun h=>Ob (0≤l∧l≤h∧h≤a.size) (k (.c (.v (.string (a.extract l.toNat h.toNat)))))
 | .imm mx x y=>evI s x fun q a=>evI s y fun _ b=>(match mx with|true=>k (.int q (max a b))|false=>k (.int q (min a b)))
 | .slx3 size x lo hi m=>evS s x fun a _ c=>evI s lo fun _ l=>evI s hi fun _ h=>evI s m fun _ m=>Ob (0≤l∧l≤h∧h≤m∧m≤c) (k (.slice (subA a l.toNat m.toNat size) (h.toNat - l.toNat) (m.toNat - l.toNat)))
 | .slx size x lo hi=>evS s x fun a n c=>zzq s lo 0 fun l=>zzq s hi n fun h=>Ob (0≤l∧l≤h∧h≤c) (k (.slice (subA a l.toNat c size) (h.toNat - l.toNat) (c - l.toNat)))
 | .aeq op n x y=>ev s x fun u=>zqm u fun cs=>ziN cs.length n <| ev s y fun v=>zqm v fun ds=>zfq cs ds fun r=>znF op r k
 | .slnil op x y=>ev s y fun u=>zBo u (ev s x fun sv=>zFE sv fun r=>znF op r k)
 | .mget kk ok z x key=>ev s x fun u=>zlO u fun r=>ev s key fun kv=>keyV kk kv fun key=>
   zkQ r (zsy ok z none k) fun b=>onO (s.M.mapAt b) fun p=>onO (zB key p.1.toList 0) fun f=>zsy ok z f k
 | .mlen x=>ev s x fun u=>zlO u fun r=>zkQ r (k (.int .i64 0)) fun b=>onO (s.M.mapAt b) fun p=>k (.int .i64 p.1.size)
 | .mkfn f caps=>zrk caps s fun cs=>k (.fn f cs)
 | .mval f x=>ev s x fun sv=>zFF f sv k
 | .uneg x=>evI s x fun q n=>ibin .sub q 0 n k
 | .ucom x=>evI s x fun q n=>ibin .xor q (if q.signed then -1 else q.max) n k
 | .mentry it=>evP s it (fun _ _ _=>False) (fun b o=>ziN o 0 (onO (zC s.M b) fun e=>k (.c (.v (.tuple #[e.1,e.2])))))
 | _=>False
def z6:ROp→Bool
 | .box .. => false
 | .slA .. => false
 | .srange .. => false
 | .snext .. => false
 | .alloc .. => false
 | .mkSl .. => false
 | .store .. => false
 | .call .. => false
 | .app .. => false
 | .mkMap=>false
 | .strish .. => false
 | .mkSlN .. => false
 | .mkSlC .. => false
 | .mset .. => false
 | .mdel .. => false
 | .mrange .. => false
 | .mnext .. => false
 | .mget .. => true
 | .mlen .. => true
 | .mentry .. => true
 | .strOf .. => true
 | .strE .. => true
 | .sidx .. => true
 | .aidx .. => true
 | .mkfn .. => true
 | .mval .. => true
 | .clr .. => false
 | .uneg .. => true
 | .ucom .. => true
 | .ssl .. => true
 | .cpy .. => false
 | .imm .. => true
 | .slx3 .. => true
 | .slx .. => true
 | .aeq .. => true
 | .slnil .. => true
 | .mov .. => true
 | .pick .. => true
 | .build .. => true
 | .load .. => true
 | .nilck .. => true
 | .faddr .. => true
 | .field .. => true
 | .iaddr .. => true
 | .iaddrA .. => true
 | .ibin .. => true
 | .bbin .. => true
 | .pnil .. => true
 | .not .. => true
 | .conv .. => true
 | .len .. => true
 | .lenS .. => true
 | .extract .. => true
def zf4:ROp→Bool
 | .box .. => true
 | .alloc .. => true
 | .mkSl .. => true
 | _=>false
def reads:ROp→Bool
 | .load .. => true
 | .strOf .. => true
 | .mget .. => true
 | .mlen .. => true
 | .mentry .. => true
 | _=>false
def zdZ (P:Program) (f:Nat):Bool:=
 match P.funcs[f]? with
 | some fn=>fn.body.isSome&&fn.name != "runtime.NumGoroutine"
 | none=>false
def CallsM (P:Program) (f:Nat) (args:List Value) (M:Mem) (R:Value→Mem→Prop):Prop:=
 zdZ P f=true∧∀ (F:Mem) (w:World),M.le (zk w)→F.le (zk w)→M.disj F →
  Calls P f args.toArray w fun e w'=>∃ v M',e = .returned v∧R v M'∧M'.le (zk w')∧F.le (zk w')∧M'.disj F ∧
   w'.os=w.os∧w'.output=w.output∧w'.tape=w.tape∧w.heap.size≤w'.heap.size∧w.drawn≤w'.drawn
def flat (bx:List BE):SC→Option Value
 | .v x=>some x
 | .bx j o=>match znD bx j with
  | some (.gone b)=>some (.pointer (some ⟨b,o,none⟩))
  | _=>none
def zuZ (bx:List BE):List SC→Option (List Value)
 | []=>some []
 | x::r=>match flat bx x,zuZ bx r with
  | some v,some vs=>some (v::vs)
  | _,_=>none
def New (M:Mem) (k:Nat→Prop):Prop:=∀ b,M b=none→k b
def zeK (M:Mem) (E:TypeId) (vs:List Value) (k:Nat→Mem→Prop):Prop:=New M fun b=>k b (M.setCells b E vs)
def zfF (M:Mem) (x:Obj) (k:Nat→Mem→Prop):Prop:=New M fun b=>k b (M.upd b x)
def zc9 (M:Mem) (b o n:Nat) (vs:List Value) (k:Mem→Prop):Prop:=onO (M.cells b) fun ec=>Ob (o+n≤ec.2.length) (k (M.setCells b ec.1 (zd ec.2 o vs)))
def zef (M:Mem) (b:Nat) (key v:Value) (k:Mem→Prop):Prop:=onO (M.mapAt b) fun p=>onO (zB key p.1.toList 0) fun f=>k (M.upd b (zdg p f key v))
def zeg (M:Mem) (b:Nat) (key:Value) (k:Mem→Prop):Prop:=onO (M.mapAt b) fun p=>onO (zB key p.1.toList 0) fun f=>k (M.upd b (zdq p f))
def zHO (j:Nat) (s:St) (e:Option BE) (k:Nat→St→Prop):Prop:=
 match e with
 | some (.gone b)=>k b s
 | some (.live T cs)=>onO (zuZ s.bx cs) fun vs=>zcV vs fun vs'=>(match s with|⟨fr,bx,M⟩=>zeK M T vs' fun b M'=>zcV (bx.set j (.gone b)) fun bx'=>k b ⟨fr,bx',M'⟩)
 | none=>False
def pub (j:Nat) (s:St) (k:Nat→St→Prop):Prop:=zHO j s (znD s.bx j) k
def zzr (x:SC) (s:St) (k:Value→St→Prop):Prop:=
 match x with
 | .v v=>k v s
 | .bx j o=>pub j s fun b s'=>k (.pointer (some ⟨b,o,none⟩)) s'
def zjE:List SC→St→(List Value→St→Prop)→Prop
 | [],s,k=>k [] s
 | x::r,s,k=>zzr x s fun v s'=>zjE r s' fun vs s''=>k (v::vs) s''
def zkR (sv:SV) (s:St) (k:Value→St→Prop):Prop:=
 match sv with
 | .c x=>zzr x s k
 | .ag cs=>zjE cs s fun vs s'=>k (.agg vs.toArray) s'
 | .sl j n=>pub j s fun b s'=>k (.slice (some ⟨b,0,none⟩) n n) s'
 | .fn f cap=>zjE cap s fun vs s'=>k (.func (.func f) #[] vs.toArray) s'
 | .sb x=>k (.bool x) s
 | .dead=>False
def zzs:List Operand→St→(List Value→St→Prop)→Prop
 | [],s,k=>k [] s
 | x::r,s,k=>ev s x fun sv=>zkR sv s fun v s'=>zzs r s' fun vs s''=>k (v::vs) s''
def zzt:SC→Bool
 | .v x=>x.oneCell'
 | .bx _ _=>true
def oneC (x:Bool) (A:Prop):Prop:=match x with|true=>A|false=>False
def zHP (j:Nat) (s:St) (e:Option BE) (cs:List SC) (k:St→Prop):Prop:=
 match e with
 | some (.live T _)=>s.setK j (.live T cs) k
 | _=>False
def zu0 (P:Program) (g:Nat) (args:List Value) (s:St) (k:SV→St→Prop):Prop:=
 zcV args fun args'=>(match s with|⟨fr,bx,M⟩=>CallsM P g args' M fun v M'=>k (zkP v) ⟨fr,bx,M'⟩)
def zFG (P:Program) (sv:SV) (vs:List Value) (s:St) (k:SV→St→Prop):Prop:=
 match sv with
 | .c (.v (.func (.func g) fst cap))=>zu0 P g (fst.toList++vs++cap.toList) s k
 | .fn g cap=>zjE cap s fun cs s''=>zu0 P g (vs++cs) s'' k
 | _=>False
def Own (M0:Mem) (E:TypeId) (size:Nat) (a:Option Addr) (n c:Nat) (L:List Value) (M:Mem):Prop:=
 L.length=n*size∧n≤c∧((a=none∧c=0∧M=M0)∨∃ b cs,a=some ⟨b,0,none⟩∧M0 b=none∧M=M0.setCells b E cs∧cs.length=c*size∧cs.take (n*size)=L)
def zZ (E:TypeId) (size bytes:Nat) (a:Option Addr) (n c m:Nat) (news:List Value) (M:Mem) (k:Option Addr→Nat→Mem→Prop):Prop:=
 (n+m)*bytes≤140737488355328∧n+m≤maxLen∧(∀ u∈news,u.oneCell'=true) ∧
  ((∃ M0 L,Own M0 E size a n c L M∧∀ a' c' M',(c'=c∨c'≤maxLen)→Own M0 E size a' (n+m) c' (L++news) M'→k a' c' M') ∨
   (c<n+m∧n≤c∧∃ L,SrcOk M size a n L∧∀ a' c' M',c'≤maxLen→Own M E size a' (n+m) c' (L++news) M'→k a' c' M') ∨
   (m=0∧n≤c∧k a c M))
def zaj (M:Mem) (size:Nat) (a:Option Addr) (n:Nat) (k:List Value→Prop):Prop:=∃ vs,SrcOk M size a n vs∧k vs
def zu1 (v:Value) (k:Option Addr→Nat→Nat→Prop):Prop:=match v with | .slice a n c=>k a n c|_=>False
def zHQ (size n:Nat) (e:Option BE) (s:St) (k:Nat→List Value→St→Prop):Prop:=
 match e with
 | some (.live _ cs)=>ziN cs.length (n*size) (zjE cs s fun vs s'=>k n vs s')
 | _=>False
def zzu (size:Nat) (sv:SV) (s:St) (k:Nat→List Value→St→Prop):Prop:=
 match sv with
 | .sl j n=>zHQ size n (znD s.bx j) s k
 | .c (.v (.slice a n _))=>(match s with|⟨fr,bx,M⟩=>zaj M size a n fun vs=>k n vs ⟨fr,bx,M⟩)
 | .c (.v (.string b))=>ziN size 1 (k b.size (byteCells b) s)
 | _=>False
def zO (M:Mem) (b since last:Nat) (m:Nat) (seen:Array Nat) (es:Array MapEntry) (clock:Nat) (k:SV→Mem→Prop):Prop:=
 (seen.isEmpty=true∨es.isEmpty=true∨∃ e∈es.toList,e.born<last) ∧
 ((∀ e∈es.toList,seen.contains e.born=true∨since≤e.born)→k (.c (.v (.tuple #[.bool false]))) M) ∧
 ∀ e∈es.toList,seen.contains e.born=false→k (.c (.v (.tuple #[.bool true,e.key,e.val]))) (M.upd b (.mapIter (some m) since (seen.push e.born) clock))
def Mem.sitAt (M:Mem) (r:Nat):Option (ByteArray×Nat):=match M r with|some (.stringIter s p)=>some (s,p)|_=>none
def zGe (M:Mem) (b:Nat) (t:ByteArray×Nat) (k:SV→Mem→Prop):Prop:=
 (t.2<t.1.size→(t.1.get! t.2).toNat<128∧k (.c (.v (.tuple #[.bool true,.int .i64 t.2,.int .i32 (t.1.get! t.2).toNat]))) (M.upd b (.stringIter t.1 (t.2+1)))) ∧
 (¬t.2<t.1.size→k (.c (.v (.tuple #[.bool false]))) M)
def zHR (v:Value) (k:Nat→Nat→Prop):Prop:=match v with | .pointer (some ⟨b,o,none⟩)=>k b o|_=>False
def zDy (z:Value) (a:Option Addr) (n:Nat) (s:St) (k:St→Prop):Prop:=
 match n with
 | 0=>k s
 | n+1=>atO a fun b o=>(match s with|⟨fr,bx,M⟩=>zc9 M b o (n+1) (List.replicate (n+1) z) fun M'=>k ⟨fr,bx,M'⟩)
def vl (P:Program) (o:ROp) (s:St) (k:SV→St→Prop):Prop:=
 match o with
 | .box T x=>ev s x fun sv=>onO (cellsOf sv) fun cs=>zcV cs fun cs'=>s.addK (.live T cs') fun j s'=>k (.c (.bx j 0)) s'
 | .alloc T z=>zcV (z.map .v) fun z'=>s.addK (.live T z') fun j s'=>k (.c (.bx j 0)) s'
 | .mkSl tmp E n z parts=>zcV (z.map .v) fun z'=>build s parts z' fun cs=>s.addK (.live E cs) fun j s'=>match tmp with
   | true=>k (.sl j n) s'
   | false=>pub j s' fun b s''=>k (.slice (some ⟨b,0,none⟩) n n) s''
 | .store n p x=>ev s x fun sv=>onO (cellsOf sv) fun l=>oneC (l.all zzt) (evP s p
   (fun j o cs=>onO (znE l o n cs) fun cs'=>zcV cs' fun cs''=>zHP j s (znD s.bx j) cs'' fun s'=>k .dead s')
   (fun b o=>ziN l.length n (zjE l s fun vs s'=>(match s' with|⟨fr,bx,M⟩=>zc9 M b o n vs fun M'=>k .dead ⟨fr,bx,M'⟩))))
 | .call f args=>ev s f fun sv=>zzs args s fun vs s'=>zFG P sv vs s' k
 | .app E size bytes _ x y=>ev s x fun u=>zkR u s fun uv s1=>zu1 uv fun a m c=>ev s1 y fun v=>zzu size v s1 fun n vs s2=>
   (match s2 with|⟨fr,bx,M⟩=>zZ E size bytes a m c n vs M fun a' c' M'=>k (.slice a' (m+n) c') ⟨fr,bx,M'⟩)
 | .cpy size x y=>ev s x fun u=>zkR u s fun uv s1=>zu1 uv fun a m _=>ev s1 y fun v=>zzu size v s1 fun n vs s2=>
   Ob (n≤m∧∀ u∈vs,u.oneCell'=true) (atO a fun b o=>
    (match s2 with|⟨fr,bx,M⟩=>zc9 M b o (n*size) vs fun M'=>k (.int .i64 n) ⟨fr,bx,M'⟩))
 | .clr z x=>evS s x fun a n _=>zDy z a n s fun s'=>k (.c (.v (.tuple #[]))) s'
 | .srange x=>ev s x fun u=>zi9 u fun str=>(match s with|⟨fr,bx,M⟩=>New M fun b=>k (.ptr b 0) ⟨fr,bx,M.upd b (.stringIter str 0)⟩)
 | .snext it=>evP s it (fun _ _ _=>False) (fun b o=>ziN o 0 (onO (s.M.sitAt b) fun t=>(match s with|⟨fr,bx,M⟩=>zGe M b t fun sv M'=>k sv ⟨fr,bx,M'⟩)))
 | .slA n x=>ev s x fun u=>zkR u s fun uv s1=>zHR uv fun b o=>k (.slice (some ⟨b,o,none⟩) n n) s1
 | .strish x=>evS s x fun a n c=>atO a fun b o=>onO (s.M.textAt b) fun ob=>(match s with|⟨fr,bx,M⟩=>k (.slice (some ⟨b,o,none⟩) n c) ⟨fr,bx,M.upd b ob⟩)
 | .mkMap=>(match s with|⟨fr,bx,M⟩=>zfF M (.map #[] 0) fun b M'=>k (.c (.v (.map (some b)))) ⟨fr,bx,M'⟩)
 | .mkSlN E bytes z x y=>evI s x fun _ n=>evI s y fun _ c=>Ob (0≤n∧n=c∧bytes*n≤281474976710656∧n≤9223372036854775807)
   (match s with|⟨fr,bx,M⟩=>zeK M E (List.replicate n.toNat z).flatten fun b M'=>k (.slice (some ⟨b,0,none⟩) n.toNat n.toNat) ⟨fr,bx,M'⟩)
 | .mkSlC E bytes z x y=>evI s x fun _ n=>evI s y fun _ c=>Ob (0≤n∧n≤c∧bytes*c≤281474976710656∧c≤9223372036854775807)
   (match s with|⟨fr,bx,M⟩=>zeK M E (List.replicate c.toNat z).flatten fun b M'=>k (.slice (some ⟨b,0,none⟩) n.toNat c.toNat) ⟨fr,bx,M'⟩)
 | .mset kk x key y=>ev s x fun u=>zlO u fun r=>zkQ r False fun b=>ev s key fun kv=>keyV kk kv fun key=>ev s y fun sv=>zkR sv s fun v s'=>
   (match s' with|⟨fr,bx,M⟩=>zef M b key v fun M'=>k .dead ⟨fr,bx,M'⟩)
 | .mdel kk x key=>ev s x fun u=>zlO u fun r=>ev s key fun kv=>keyV kk kv fun key=>zkQ r (k (.c (.v (.tuple #[]))) s) fun b=>
   (match s with|⟨fr,bx,M⟩=>zeg M b key fun M'=>k (.c (.v (.tuple #[]))) ⟨fr,bx,M'⟩)
 | .mrange x=>ev s x fun u=>zlO u fun r=>zkQ r
   (match s with|⟨fr,bx,M⟩=>zfF M (.mapIter none 0 #[] 0) fun b M'=>k (.ptr b 0) ⟨fr,bx,M'⟩)
   (fun m=>onO (s.M.mapAt m) fun p=>(match s with|⟨fr,bx,M⟩=>zfF M (.mapIter (some m) p.2 #[] p.2) fun b M'=>k (.ptr b 0) ⟨fr,bx,M'⟩))
 | .mnext it=>evP s it (fun _ _ _=>False) (fun b o=>ziN o 0 (onO (s.M.iterAt b) fun t=>zkQ t.1 (k (.c (.v (.tuple #[.bool false]))) s)
   (fun m=>onO (s.M.mapAt m) fun p=>(match s with|⟨fr,bx,M⟩=>zO M b t.2.1 t.2.2.2 m t.2.2.1 p.1 p.2 fun sv M'=>k sv ⟨fr,bx,M'⟩))))
 | _=>False
def zjF (sp:Bool) (sv:SV) (k:SV→Prop):Prop:=
 match sp with
 | true=>brS sv (k (.bool true)) (k (.bool false))
 | false=>k sv
@[reducible] def SV.skip:SV := .c (.v (.tuple #[]))
def brG (b:Bool) (sv:SV) (run skip:Prop):Prop:=
 match sv with
 | .c (.v (.bool x))=>(match b with|true=>lit x run skip|false=>lit x skip run)
 | .sb x=>(match b with|true=>Brn x run skip|false=>Brn x skip run)
 | .c (.v (.tuple _))=>skip
 | _=>False
def vop (P:Program) (o:zaZ) (s:St) (K:St→Prop):Prop:=
 match z6 o.op with
 | true=>vq o.op s fun sv=>zjF o.sp sv fun sv'=>s.putK o.dst sv' K
 | false=>vl P o.op s fun sv s'=>zjF o.sp sv fun sv'=>s'.putK o.dst sv' K
def zsz (P:Program):List zaZ→St→(St→Prop)→Prop
 | [],s,K=>K s
 | o::r,s,K=>match o.guard with
  | none=>vop P o s fun s'=>zsz P r s' K
  | some (g,b)=>ev s (.tmp g) fun sv=>brG b sv (vop P o s fun s'=>zsz P r s' K) (s.putK o.dst SV.skip (fun s'=>zsz P r s' K))
def bx1 (M:Mem) (e f:BE) (A:Prop):Prop:=
 match e,f with
 | .gone b,.live T cs=>onO (zf3 cs) fun vs=>Ob (M b=some (.cells vs.toArray T (0,0))) A
 | .live _ _,.gone _=>A
 | e,f=>Ob (e=f) A
def zvq (M:Mem):List BE→List BE→Prop→Prop
 | _,[],A=>A
 | e::l,f::r,A=>bx1 M e f (zvq M l r A)
 | [],_::_,_=>False
def Grow (X M:Mem) (A:Mem→Prop):Prop:=∃ X',X.le X'∧X'.le M∧A X'
def zsA (need:Bool) (X:Mem) (bx0:List BE) (s:St) (A:Mem→Prop):Prop:=
 match need with
 | true=>zvq s.M s.bx bx0 (Grow X s.M A)
 | false=>A X
def zcC (P:Program) (X:Mem) (bx0:List BE):DTree→St→(St→Prop)→Prop
 | .done,s,K=>K s
 | .none,_,_=>True
 | .take o t,s,K=>(match s with|⟨fr,_,_⟩=>(match o.guard with
  | none=>vq o.op ⟨fr,bx0,X⟩ fun sv=>zjF o.sp sv fun sv'=>s.putK o.dst sv' fun s'=>zcC P X bx0 t s' K
  | some (g,b)=>ev s (.tmp g) fun gv=>brG b gv (vq o.op ⟨fr,bx0,X⟩ fun sv=>zjF o.sp sv fun sv'=>s.putK o.dst sv' fun s'=>zcC P X bx0 t s' K)
    (s.putK o.dst SV.skip fun s'=>zcC P X bx0 t s' K)))
 | .alt o need t more,s,K=>And (match o.guard with
  | none=>vop P o s fun s'=>zsA need X bx0 s' fun X'=>zcC P X' bx0 t s' K
  | some (g,b)=>ev s (.tmp g) fun gv=>brG b gv (vop P o s fun s'=>zsA need X bx0 s' fun X'=>zcC P X' bx0 t s' K) (s.putK o.dst SV.skip fun s'=>zcC P X bx0 t s' K))
  (zcC P X bx0 more s K)
def zjz:DTree→Bool
 | .done=>false
 | .none=>false
 | .take _ t=>zjz t
 | .alt _ need t more=>need||zjz t||zjz more
def zHT (P:Program) (t:DTree) (s:St) (K:St→Prop):Prop:=∃ X:Mem,X.le s.M∧zcC P X s.bx t s K
def dim (ks:List Nat) (d:Nat→Nat):Nat→List BE→List BE
 | _,[]=>[]
 | j,e::r=>(if j∈ks then .gone (d j) else e)::dim ks d (j+1) r
def zGf (P:Program) (t:DTree) (s:St) (K:St→Prop):Prop:=∃ (ks:List Nat) (X:Mem),X.le s.M∧∀ d:Nat→Nat,zcC P X (dim ks d 0 s.bx) t s K
def zGg:ROp→Bool
 | .store .. => true
 | _=>false
def zoN:DTree→Bool
 | .done=>false
 | .none=>false
 | .take _ t=>zoN t
 | .alt o need t more=>(need&&zGg o.op)||zoN t||zoN more
def zzv (P:Program) (t:DTree) (s:St) (K:St→Prop):Prop:=
 match zjz t with
 | true=>(match zoN t with|true=>zGf P t s K|false=>zHT P t s K)
 | false=>(match s with|⟨fr,bx,M⟩=>zcC P M bx t ⟨fr,bx,M⟩ K)
structure WLe (W W':World):Prop where
 os:W'.os=W.os
 output:W'.output=W.output
 tape:W'.tape=W.tape
 drawn:W.drawn≤W'.drawn
 size:W.heap.size≤W'.heap.size
 same:∀ (k:Nat) o,W.heap[k]? = some o→W'.heap[k]? = some o
def zu2 (P:Program) (g:Nat) (lb:List Value) {α:Type} (encs:α→List Value) (A:Mem) (N:Nat) (PM:α→Mem→Prop) (D:List α→Prop):Prop:=
 ∀ (l:Nat) (J:List α→World→Prop) (W:World),A.le (zk W) →
  (∀ pre x Wp W1 Mx,J pre Wp→WLe Wp W1→A.le (zk W1)→pre.length<N→PM x Mx→Mx.le (zk W1)→(∀ b,Mx b≠none→Wp.heap.size≤b) →
   YieldAt Fence.wide 0 P l (encs x).toArray W1 fun e W'=>e = .returned (.bool true)∧J (pre++[x]) W'∧A.le (zk W')) →
  J [] W→CallsIn Fence.wide 0 P g (#[.func (.yield l) #[] #[]]++lb.toArray) W fun e W'=>(∃ v,e = .returned v)∧∃ xs Wp,D xs∧J xs Wp∧WLe Wp W'
def SC.lt (n:Nat):SC→Bool
 | .v _=>true
 | .bx j _=>decide (j<n)
def SV.lt (n:Nat):SV→Bool
 | .c x=>x.lt n
 | .ag cs=>cs.all (SC.lt n)
 | .sl j _=>decide (j<n)
 | .fn _ cs=>cs.all (SC.lt n)
 | .sb _=>true
 | .dead=>true
def BE.lt (n:Nat):BE→Bool
 | .live _ cs=>cs.all (SC.lt n)
 | .gone _=>true
def St.wf (t:St):Bool:=t.fr.all (fun p=>p.2.lt t.bx.length)&&t.bx.all (BE.lt t.bx.length)
def zu3 (l:List (Nat×SV)):List (Nat×SV)→Prop
 | []=>True
 | (d,sv)::r=>lk l d=some sv∧zu3 l r
def zu4:List BE→List BE→Prop
 | _,[]=>True
 | e::l,f::r=>e=f∧zu4 l r
 | [],_::_=>False
def St.sub (t s:St):Prop:=zu3 s.fr t.fr∧zu4 s.bx t.bx∧t.M.le s.M∧t.wf=true
def zzw:List Nat→List Value→List (Nat×SV)→List (Nat×SV)
 | p::ps,v::vs,fr=>zzw ps vs ((p,zkP v)::fr)
 | _,_,fr=>fr
def zzx:Nat→St→(St→Prop)→Prop
 | 0,s,k=>k s
 | j+1,s,k=>zzx j s fun s'=>pub j s' fun _ s''=>k s''
def zFH:BE→Bool
 | .gone _=>true
 | .live _ _=>false
def zyt (P:Program) (asg body:(Exit→St→Prop)→St→Prop) (ps:List Nat) (gf:Nat) (lb:List Value) (Q:Exit→St→Prop) (s:St):Prop:=
 zdZ P gf=true∧s.bx.all zFH=true∧∃ (α:Type) (encs:α→List Value) (A:Mem) (N:Nat) (PM:α→Mem→Prop) (D:List α→Prop) (I:List α→Mem→Prop),
  zu2 P gf lb encs A N PM D∧A.le s.M∧(∀ x,(encs x).length=ps.length) ∧
  (∃ M0,M0.le s.M∧(∀ b,A b≠none→M0 b=none)∧I [] M0) ∧
  (∀ pre x M Mx M1,I pre M→pre.length<N→PM x Mx→(∀ b,Mx b≠none→M b=none∧A b=none)→M.le M1→Mx.le M1 →
   asg (fun e t=>e = .normal∧body (fun e t'=>e = .normal∧∃ M2,I (pre++[x]) M2∧M2.le t'.M) t) ⟨zzw ps (encs x) s.fr,s.bx,M1⟩) ∧
  (∀ xs M M1,D xs→I xs M→(∀ b,A b≠none→M b=none)→M.le M1→A.le M1→Q .normal ⟨s.fr,s.bx,M1⟩)
def zBq (P:Program) (asg body:(Exit→St→Prop)→St→Prop) (ps:List Nat) (sv:SV) (Q:Exit→St→Prop) (s:St):Prop:=
 match sv with
 | .c (.v (.func (.func gf) fst lb))=>Nat.beq fst.size 0=true∧zzx s.bx.length s fun s'=>zyt P asg body ps gf lb.toList Q s'
 | _=>False
def zoO (Q:Exit→St→Prop) (k:St→Prop) (e:Exit) (s:St):Prop:=match e with | .normal=>k s|e=>Q e s
def zvr (id:Nat) (Q:Exit→St→Prop) (e:Exit) (s:St):Prop:=match e with | .exit i=>(match Nat.beq i id with|true=>Q .normal s|false=>Q (.exit i) s)|e=>Q e s
def zHU (Q:Exit→St→Prop) (e:Exit) (s:St):Prop:=match e with | .goto _=>False|e=>Q e s
def zF (body:(Exit→St→Prop)→St→Prop) (Q:Exit→St→Prop) (s:St):Prop:=
 ∃ I:Nat→St→Prop,(∃ m t,I m t∧t.sub s)∧∀ m t,I m t→body (zoO Q fun s'=>∃ m' t',m'<m∧I m' t'∧t'.sub s') t
def zI (body:(Exit→St→Prop)→St→Prop) (Q:Exit→St→Prop) (s:St):Prop:=zF body Q s∨zzx s.bx.length s fun s'=>zF body Q s'
def vc (P:Program):zbN→(Exit→St→Prop)→St→Prop
 | .skip,Q,s=>Q .normal s
 | .ops l kl,Q,s=>zsz P l s fun s'=>s'.killK kl fun s''=>Q .normal s''
 | .draw t kl,Q,s=>zzv P t s fun s'=>s'.killK kl fun s''=>Q .normal s''
 | .seq a b,Q,s=>vc P a (zoO Q (vc P b Q)) s
 | .cond c a b,Q,s=>ev s c fun sv=>brS sv (vc P a Q s) (vc P b Q s)
 | .block id a,Q,s=>vc P a (zvr id Q) s
 | .loop a,Q,s=>zI (vc P a) Q s
 | .exit id,Q,s=>Q (.exit id) s
 | .ret,Q,s=>Q .ret s
 | .scope a,Q,s=>vc P a (zHU Q) s
 | .rfun g ps a b,Q,s=>ev s g fun sv=>zBq P (vc P a) (vc P b) ps sv Q s
inductive zgm where
 | tmp (t:Nat)
 | cell (agg:Bool) (n:Nat) (t:Nat)
def zu5 (r:zgm) (s:St) (k:Value→St→Prop):Prop:=
 match r with
 | .tmp t=>ev s (.tmp t) fun sv=>zkR sv s k
 | .cell agg n t=>evP s (.tmp t) (fun _ o cs=>onO (zih cs o n) fun l=>mkv agg l fun sv=>zkR sv s k)
   (fun b o=>onO (s.M.row b o n) fun vs=>mkv agg (vs.map .v) fun sv=>zkR sv s k)
def zzy:List zgm→St→(List Value→St→Prop)→Prop
 | [],s,k=>k [] s
 | r::rs,s,k=>zu5 r s fun v s'=>zzy rs s' fun vs s''=>k (v::vs) s''
def znG:List Value→Value
 | [v]=>v
 | vs => .tuple vs.toArray
def zKB (vs:List Value) (s:St) (R:Value→Mem→Prop):Prop:=match s with|⟨_,_,M⟩=>(match vs with|[v]=>R v M|vs=>R (.tuple vs.toArray) M)
def zzz (rs:List zgm) (s:St) (R:Value→Mem→Prop):Prop:=zzy rs s fun vs s'=>zKB vs s' R
def zKC (rs:List zgm) (R:Value→Mem→Prop) (e:Exit) (s:St):Prop:=match e with | .normal=>zzz rs s R | .ret=>zzz rs s R|_=>False
def zrl:Nat→List Value→List (Nat×SV)
 | _,[]=>[]
 | i,v::r=>(i,zkP v)::zrl (i+1) r
def vfn (P:Program) (c:zbN) (rs:List zgm) (args:List Value) (M:Mem) (R:Value→Mem→Prop):Prop:=
 zcV (zrl 0 args) fun fr=>vc P c (zKC rs R) ⟨fr,[],M⟩
end Go.Vm
namespace Go.Vm
def zvs (x y:Operand):Bool:=match x,y with | .tmp a,.tmp b=>a == b | .const (.int _ a),.const (.int _ b)=>a == b|_,_=>false
def zdJ (P:Program) (T:TypeId):Option (List Value):=
 (P.info? T).bind fun i=>i.zero.bind fun z=>if z.cells.size=i.size then some z.cells.toList else none
def zac (P:Program) (T:TypeId):Option Nat:=(P.info? T).map (·.size)
def ze8 (P:Program) (T:TypeId):Option Bool:=
 match P.underlying T with
 | some (.struct _)|some (.array _ _)=>some true
 | some _=>some false
 | none=>none
def zqn (P:Program) (T:TypeId) (parts:List (Nat×Operand)):Option (List (Nat×Nat×Operand)):=
 match P.underlying T with
 | some (.struct fs)=>(fs.toList.mapM fun f=>(zac P f.type).map fun n=>(f.offset,n)).bind fun pl=>
   parts.mapM fun p=>(pl[p.1]?).map fun q=>(q.1,q.2,p.2)
 | some (.array _ e)=>(zac P e).map fun n=>parts.map fun (i,x)=>(i*n,n,x)
 | _=>none
def zoP (t:Nat):Operand→Bool
 | .tmp u=>u == t
 | _=>false
def zvt (ops:List Oper) (t:Nat):Bool:=
 ops.all fun o=>match o.op with
  | .call { callee := .builtin .append,args,.. }=>(match args.toList with|[s,_] => !zoP t s|_=>false)
  | op=>op.operands.all fun x => !zoP t x
def zyu (ops:List Oper) (o:Oper):Bool:=match o.dst with|some d=>zvt ops d|none=>false
def zzA (n:Nat) (o:Oper):Bool:=match o.dst with|some d=>decide (d<n)|none=>true
def zdh (P:Program):Nat→List Field→Bool
 | _,[]=>true
 | i,f::r=>f.name != "_" && f.offset == i&&(match P.underlying f.type with|some (.int _)=>true|_=>false)&&zdh P (i+1) r
def zzB (P:Program) (T:TypeId):Option Nat:=match P.underlying T with
 | some (.struct fs)=>if zdh P 0 fs.toList && !P.stoodInHeld T&&zac P T == some fs.toList.length then some fs.toList.length else none
 | _=>none
def zda (P:Program):Nat→List Field→Option Nat
 | i,[]=>some i
 | i,f::r=>if f.name != "_" && f.offset == i then (match P.underlying f.type with
  | some (.int _)=>zda P (i+1) r
  | some (.struct _)=>(zzB P f.type).bind fun n=>zda P (i+n) r
  | _=>none) else none
def zoQ (P:Program) (T:TypeId):Bool:=match P.underlying T with|some (.slice E)=>(match P.underlying E with|some (.int .u8)=>true|_=>false)|_=>false
def zu6 (P:Program) (T:TypeId):Bool:=match P.underlying T with|some (.slice _)=>true|some .string=>true|_=>false
def zcK (P:Program) (k:TypeId):Option KK:=
 match P.underlying k with
 | some (.int _)=>some .int
 | some .string=>some .str
 | some (.struct fs)=>if zdh P 0 fs.toList && !P.stoodInHeld k then some (.agg fs.toList.length) else none
 | some (.array n e)=>(match P.underlying e,zac P e with|some (.int _),some 1=>some (.agg n)|_,_=>none)
 | _=>none
def zeroVal (P:Program) (T:TypeId):Option Value:=(P.info? T).bind fun i=>i.zero
def zo (P:Program) (ops:List Oper) (o:Oper):Option ROp:=
 match o.op with
 | .move x | .assign x=>some (.mov x)
 | .pick c a b=>some (.pick c a b)
 | .box T x=>some (.box T x)
 | .alloc T=>(zdJ P T).map fun z => .alloc T z
 | .build T parts=>(zdJ P T).bind fun z=>(zqn P T parts.toList).map fun l => .build z l
 | .buildSlice T n parts=>
  match P.underlying T with
  | some (.slice E)=>(zdJ P E).bind fun z=>(zac P E).bind fun sz=>
    if n*sz≤16777216∧sz≠0 then
     some (.mkSl (zyu ops o) E n ((List.replicate n z).flatten) (parts.toList.map fun (i,x)=>(i*sz,sz,x)))
    else none
  | _=>none
 | .load T p=>(ze8 P T).bind fun g=>(zdJ P T).bind fun z=>if g||z.length == 1 then some (.load g z.length p) else none
 | .store T p x=>(zac P T).map fun n => .store n p x
 | .nilCheck x=>some (.nilck x)
 | .fieldAddr T p i=>match P.underlying T with
  | some (.struct fs)=>(fs[i]?).bind fun f=>(zac P f.type).bind fun n=>if n=0 then none else some (.faddr f.offset p)
  | _=>none
 | .field T x i=>match P.underlying T with
  | some (.struct fs)=>(fs[i]?).bind fun f=>(ze8 P f.type).bind fun g=>(zac P f.type).bind fun n=>if g||n == 1 then some (.field g f.offset n x) else none
  | _=>none
 | .indexAddr T x i=>match P.underlying T with
  | some (.slice E)=>(zac P E).map fun n => .iaddr n x i
  | some (.array len E)=>(zac P E).map fun n => .iaddrA len n x i
  | _=>none
 | .binOp op T x y _=>match P.underlying T with
  | some (.int _)=>some (.ibin op x y)
  | some .bool=>some (.bbin op x y)
  | some (.pointer _)=>some (.pnil op x y)
  | some .string=>some (.strE op x y)
  | some (.slice _)=>some (.slnil op x y)
  | some (.struct fs)=>if zdh P 0 fs.toList && !P.stoodInHeld T && !P.eqGuardType P.depth T then some (.aeq op fs.toList.length x y) else (zda P 0 fs.toList).bind fun n=>if !P.stoodInHeld T && !P.eqGuardType P.depth T then some (.aeq op n x y) else none
  | some (.array n E)=>(match P.underlying E,zac P E with|some (.int _),some 1=>if !P.eqGuardType P.depth T then some (.aeq op n x y) else none|_,_=>none)
  | _=>none
 | .index T x i=>match P.underlying T with
  | some .string=>some (.sidx x i)
  | some (.array len E)=>(ze8 P E).bind fun g=>(zac P E).bind fun n=>if g||n == 1 then some (.aidx g len n x i) else none
  | _=>none
 | .unOp .not _ x=>some (.not x)
 | .unOp .neg T x=>match P.underlying T with|some (.int _)=>some (.uneg x)|_=>none
 | .unOp .xor T x=>match P.underlying T with|some (.int _)=>some (.ucom x)|_=>none
 | .makeFunc (.func f) first caps=>if first.size=0 then some (.mkfn f caps.toList) else (match first.toList,caps.toList with|[x],[]=>some (.mval f x)|_,_=>none)
 | .convert S T x=>match P.underlying T,P.underlying S with
  | some (.int k),some (.int _)=>some (.conv k x)
  | some .string,some (.slice _)=>if zoQ P S then some (.strOf x) else none
  | some (.slice _),some (.slice _)=>if zoQ P T&&S == T then some (.strish x) else none
  | _,_=>none
 | .slice T x lo hi none=>match P.underlying T with
  | some (.slice E)=>(zac P E).map fun n => .slx n x lo hi
  | some .string=>some (.ssl x lo hi)
  | some (.array n E)=>if lo.isNone&&hi.isNone then (zac P E).map fun _ => .slA n x else none
  | _=>none
 | .call { callee := .builtin .append,args,argTypes }=>match args.toList,argTypes.toList with
  | [x,y],[T,U]=>(match P.underlying T with
   | some (.slice E)=>(zdJ P E).bind fun z=>(P.info? E).bind fun i=>if zu6 P U&&z.length != 0 then some (.app E z.length i.bytes z x y) else none
   | _=>none)
  | _,_=>none
 | .slice T x none (some hi) (some m)=>match P.underlying T with
  | some (.slice E)=>(zac P E).map fun n => .slx3 n x (.const (.int .i64 0)) hi m
  | _=>none
 | .slice T x (some lo) (some hi) (some m)=>match P.underlying T with
  | some (.slice E)=>(zac P E).map fun n => .slx3 n x lo hi m
  | _=>none
 | .call { callee := .builtin .clear,args,argTypes }=>match args.toList,argTypes.toList with
  | [x],[T]=>(match P.underlying T with
   | some (.slice E)=>(match zdJ P E with
    | some [z]=>if z.oneCell' then some (.clr z x) else none
    | _=>none)
   | _=>none)
  | _,_=>none
 | .call { callee := .builtin .copy,args,argTypes }=>match args.toList,argTypes.toList with
  | [x,y],[T,U]=>(match P.underlying T with
   | some (.slice E)=>(zac P E).bind fun n=>if zu6 P U then some (.cpy n x y) else none
   | _=>none)
  | _,_=>none
 | .call { callee := .builtin .min,args,.. }=>match args.toList with
  | [x,y]=>some (.imm false x y)
  | _=>none
 | .call { callee := .builtin .max,args,.. }=>match args.toList with
  | [x,y]=>some (.imm true x y)
  | _=>none
 | .extract x i=>some (.extract x i)
 | .makeMap _ none=>some .mkMap
 | .makeSlice T x y=>match P.underlying T with
  | some (.slice E)=>(zdJ P E).bind fun z=>(P.info? E).bind fun i=>if z.length != 0 then some (if zvs x y then .mkSlN E i.bytes z x y else .mkSlC E i.bytes z x y) else none
  | _=>none
 | .lookup T x key ok=>match P.underlying T with
  | some (.map K E)=>(zcK P K).bind fun kk=>(zeroVal P E).map fun z => .mget kk ok z x key
  | _=>none
 | .mapUpdate T x key v=>match P.underlying T with
  | some (.map K _)=>(zcK P K).map fun kk => .mset kk x key v
  | _=>none
 | .insert T x key v=>match P.underlying T with
  | some (.map K _)=>(zcK P K).map fun kk => .mset kk x key v
  | _=>none
 | .range T x=>match P.underlying T with
  | some (.map _ _)=>some (.mrange x)
  | some .string=>some (.srange x)
  | _=>none
 | .next it false=>some (.mnext it)
 | .next it true=>some (.snext it)
 | .entry it=>some (.mentry it)
 | .call { callee := .builtin .delete,args,argTypes }=>match args.toList,argTypes.toList with
  | [x,y],[T,_]=>(match P.underlying T with
   | some (.map K _)=>(zcK P K).map fun kk => .mdel kk x y
   | _=>none)
  | _,_=>none
 | .call { callee := .builtin .len,args,argTypes }=>match args.toList,argTypes.toList with
  | [x],[T]=>(match P.underlying T with
   | some (.slice _)=>some (.len x)
   | some .string=>some (.lenS x)
   | some (.map _ _)=>some (.mlen x)
   | _=>none)
  | _,_=>none
 | .call { callee := .value f,args,.. }=>some (.call f args.toList)
 | _=>none
def zh0 (ops:List Oper) (g:Option (Nat×Bool)):Option (Option (Nat×Bool)):=
 match g with
 | none=>some none
 | some (j,b)=>match (ops[j]?).bind (·.dst) with
  | some d=>some (some (d,b))
  | none=>none
def zyv (ops:List Oper) (j:Nat):Bool:=ops.any fun o=>match o.guard with|some (i,_)=>i == j|none=>false
def zh1 (P:Program) (n:Nat) (ops:List Oper) (j:Nat) (o:Oper):Option zaZ:=
 (zo P ops o).bind fun r=>(zh0 ops o.guard).bind fun g=>
  if zzA n o then some { dst:=o.dst,op:=r,guard:=g,sp:=zyv ops j } else none
def zjG (P:Program) (n:Nat) (ops:List Oper):Nat→List Oper→Option (List zaZ)
 | _,[]=>some []
 | j,o::r=>match zh1 P n ops j o,zjG P n ops (j+1) r with
  | some x,some xs=>some (x::xs)
  | _,_=>none
def waits (ops:Array Oper):Nat→Nat→Nat→Bool
 | 0,_,_=>false
 | n+1,j,i=>match ops[j]? with
  | some o=>o.after.any fun e=>Region.binds .any e&&(e.on == i||waits ops n e.on i)
  | none=>false
def zyw (P:Program) (ops:Array Oper):List Nat:=
 (List.range ops.size).filter fun i=>match ops[i]? with
  | some o=>(match zo P ops.toList o with|some r=>reads r|none=>false)
  | none=>false
def zdb (P:Program) (ops:Array Oper) (j:Nat):Bool:=(zyw P ops).any fun i=>i != j && !waits ops 5 j i
def zbU (P:Program) (n:Nat) (ops:Array Oper) (i:Nat):Option zaZ:=
 match ops[i]? with
 | some o=>(match zh1 P n ops.toList i o with
  | some r=>if z6 r.op then some r else none
  | none=>none)
 | none=>none
def zzC (P:Program) (n:Nat) (ops:Array Oper) (i:Nat):Option zaZ:=(ops[i]?).bind fun o=>zh1 P n ops.toList i o
def zlP (P:Program) (n:Nat) (ops:Array Oper):Nat→Bool→Array Bool→Option DTree
 | 0,_,listed=>match Region.ready .any ops listed with|[]=>some .done|_=>none
 | fuel+1,ok,listed=>
  match Region.ready .any ops listed with
  | []=>some .done
  | rs=>
   match rs.find? (fun i=>(zbU P n ops i).isSome&&Region.free .any ops listed i&&(ok || !(match zbU P n ops i with|some r=>reads r.op|none=>false))) with
   | some i=>(zbU P n ops i).bind fun r=>(zlP P n ops fuel ok (listed.setIfInBounds i true)).map (.take r)
   | none=>rs.foldr (fun i more=>more.bind fun m=>(zzC P n ops i).bind fun r=>
     if !z6 r.op then (zlP P n ops fuel (match zf4 r.op with|true=>ok|false=>zdb P ops i&&(ok||r.guard.isNone)) (listed.setIfInBounds i true)).map fun t => .alt r (zdb P ops i && !zf4 r.op) t m else none) (some .none)
def noR:zbN→Bool
 | .seq a b=>noR a&&noR b
 | .cond _ a b=>noR a&&noR b
 | .block _ a=>noR a
 | .loop a=>noR a
 | .scope a=>noR a
 | .rfun .. => false
 | _=>true
def zh2 (o:Oper):Bool:=match o.op with | .defer _=>false|_=>true
def noD:Code→Bool
 | .region _ ops _=>ops.all zh2
 | .seq a b=>noD a&&noD b
 | .cond _ a b=>noD a&&noD b
 | .block _ a=>noD a
 | .loop a=>noD a
 | .scope _=>false
 | .rangeFunc .. => false
 | _=>true
def res (P:Program) (n:Nat) (kf:Nat→List Nat):Code→Option zbN
 | .skip=>some .skip
 | .region id ops draw=>match draw with
  | false=>(zjG P n ops.toList 0 ops.toList).map fun l => .ops l (kf id)
  | true=>if P.follows .mixedOrders&&Region.noSelect ops then (zlP P n ops ops.size true (Array.replicate ops.size false)).map fun t => .draw t (kf id) else none
 | .seq a b=>match res P n kf a,res P n kf b with
  | some x,some y=>some (.seq x y)
  | _,_=>none
 | .cond c a b=>match res P n kf a,res P n kf b with
  | some x,some y=>some (.cond c x y)
  | _,_=>none
 | .block id a=>(res P n kf a).map (.block id)
 | .loop a=>(res P n kf a).map .loop
 | .exit id=>some (.exit id)
 | .ret=>some .ret
 | .scope a=>(res P n kf a).map .scope
 | .rangeFunc g ps a b=>match res P n kf a,res P n kf b with
  | some x,some y=>if noR x&&noR y&&noD a&&noD b&&ps.toList.all (fun p=>decide (p<n)) then some (.rfun g ps.toList x y) else none
  | _,_=>none
 | .label _=>some .skip
 | _=>none
def zls (P:Program):ResultVar→Option zgm
 | .tmp t=>some (.tmp t)
 | .cell a T=>(ze8 P T).bind fun g=>(zac P T).bind fun n=>if g||n == 1 then some (.cell g n a) else none
def zlt (P:Program) (fn:Func):Option (List zgm):=fn.results.toList.mapM (zls P)
end Go.Vm
namespace Go.Vm
open Go.RowKit
section
theorem zbW {α:Type}:∀ (l:List α) (k:List α→Prop),zcV l k=k l
 | [],_=>rfl
 | x::r,k=>by simp only[zcV];rw[zbW r]
theorem zBr (sv:SV) (k:SV→Prop):zvo sv k=k sv:=by
 unfold zvo;split<;>first|rfl|exact zbW _ _
theorem zjA:∀ (l:List BE) (j:Nat),znD l j=l[j]?
 | [],_=>by rfl
 | e::r,0=>by rfl
 | e::r,j+1=>by simp[znD,zjA r j]
theorem zlu (s:St) (d:Option Nat) (sv:SV) (k:St→Prop):s.putK d sv k=k (s.put d sv):=by
 cases d with
 | none=>rfl
 | some d=>simp only[St.putK,St.put,zBr]
theorem znH (d:Nat):∀ (l:List (Nat×SV)) (k:List (Nat×SV)→Prop),znC d l k=k (zi8 d l)
 | [],_=>rfl
 | (t,sv)::r,k=>by
  simp only[znC,zi8];cases Nat.beq t d with
  | true=>exact znH d r k
  | false=>exact znH d r _
theorem ztH:∀ (ds:List Nat) (l:List (Nat×SV)) (k:List (Nat×SV)→Prop),zrh ds l k=k (zf2 ds l)
 | [],_,_=>rfl
 | d::ds,l,k=>by simp only[zrh,zf2,znH];exact ztH ds _ k
theorem zlQ (s:St) (l:List Nat) (k:St→Prop):s.killK l k=k (s.kill l):=by simp only[St.killK,St.kill,ztH]
theorem zsB (s:St) (e:BE) (k:Nat→St→Prop):s.addK e k=k s.bx.length { s with bx:=s.bx++[e] }:=by simp only[St.addK,zbW]
theorem zGh (s:St) (j:Nat) (e:BE) (k:St→Prop):s.setK j e k=k { s with bx:=s.bx.set j e }:=by simp only[St.setK,zbW]
theorem Mem.le_refl (M:Mem):M.le M:=fun _ _ h=>h
theorem Mem.le_trans {A B C:Mem} (h:A.le B) (k:B.le C):A.le C:=fun b o e=>k b o (h b o e)
theorem Mem.disj_of_le {A B F:Mem} (h:B.disj F) (k:A.le B):A.disj F:=fun b=>by
 rcases h b with e|e
 ·left;cases ha:A b with
  | none=>rfl
  | some o=>rw[k b o ha] at e;cases e
 ·simp_all
theorem Mem.upd_same (M:Mem) (b:Nat) (o:Obj):M.upd b o b=some o:=by simp[Mem.upd]
theorem Mem.upd_ne (M:Mem) {b c:Nat} (o:Obj) (h:c≠b):M.upd b o c=M c:=by simp[Mem.upd,h]
theorem zeh (β:List Nat) (l:List Value):zY β (l.map .v)=some l:=by
 induction l with
 | nil=>rfl
 | cons x r ih=>simp[zY,SC.val,ih]
theorem zh3 (β:List Nat) (v:Value):(zkP v).val β=some v:=by
 unfold zkP;split
 ·simp[SV.val,zeh]
 ·rfl
 ·rfl
theorem zBs (β:List Nat) (v:Value):(normC v).val β=some v:=by
 unfold normC;split
 ·simp[SV.val,zeh]
 ·rfl
def Fr (β:List Nat) (fr:List (Nat×SV)) (a:Act):Prop:=
 ∀ d sv,lk fr d=some sv→sv = .dead∨∃ v,sv.val β=some v∧a.tmps[d]? = some v
theorem zBt {x:Option SV} {k:SV→Prop} (h:evO x k):∃ sv,x=some sv∧sv ≠ .dead∧k sv:=by
 unfold evO at h;split at h
 ·simp_all
 ·simp_all
 ·simp_all
theorem zl {β:List Nat} {s:St} {a:Act} (hf:Fr β s.fr a) {x:Operand} {k:SV→Prop} (h:ev s x k) :
  ∃ sv v,k sv∧sv.val β=some v∧a.eval x=v:=by
 cases x with
 | tmp n=>
  simp only[ev] at h;obtain⟨sv,hl,hd,hk⟩:=zBt h;rcases hf n sv hl with rfl|⟨v,hv,ht⟩
  ·simp_all
  ·exact⟨sv,v,hk,hv,by simp[Act.eval,ht]⟩
 | const v=>exact⟨_,v,h,zBs β v,rfl⟩
 | func f=>exact⟨_,_,h,rfl,rfl⟩
 | global g=>exact h.elim
theorem zBu {β:List Nat} {sv:SV} {v:Value} {k:IntKind→Int→Prop} (h:asI sv k) (hv:sv.val β=some v):∃ q n,k q n∧v = .int q n:=by
 unfold asI at h;split at h
 ·simp[SV.val,SC.val] at hv;exact⟨_,_,h,hv.symm⟩
 ·simp_all
theorem zBv {β:List Nat} {sv:SV} {v:Value} {k:Bool→Prop} (h:asB sv k) (hv:sv.val β=some v):∃ b,k b∧v = .bool b:=by
 unfold asB at h;split at h
 ·simp[SV.val,SC.val] at hv;exact⟨_,h,hv.symm⟩
 ·simp[SV.val] at hv;exact⟨_,h,hv.symm⟩
 ·simp_all
theorem zkr {β:List Nat} {sv:SV} {v:Value} {A B:Prop} (h:brS sv A B) (hv:sv.val β=some v):∃ b,v = .bool b∧(b=true→A)∧(b=false→B):=by
 unfold brS at h;split at h
 ·rename_i b;simp[SV.val,SC.val] at hv;refine⟨b,hv.symm,fun e=>?_,fun e=>?_⟩
  ·subst e;exact h
  ·subst e;exact h
 ·rename_i b;simp[SV.val] at hv;exact⟨b,hv.symm,h.1,h.2⟩
 ·simp_all
theorem zzD {β:List Nat} {sv:SV} {v:Value} {k:Option Addr→Nat→Nat→Prop} (h:zDx sv k) (hv:sv.val β=some v):∃ a n c,k a n c∧v = .slice a n c:=by
 unfold zDx at h;split at h
 ·simp[SV.val,SC.val] at hv;exact⟨_,_,_,h,hv.symm⟩
 ·simp_all
theorem zas {β:List Nat} {s:St} {a:Act} (hf:Fr β s.fr a) {x:Operand} {k:IntKind→Int→Prop} (h:evI s x k) :
  ∃ q n,k q n∧a.eval x = .int q n:=by
 obtain⟨sv,v,hk,hv,he⟩:=zl hf h;obtain⟨q,n,h1,h2⟩:=zBu hk hv;exact⟨q,n,h1,he.trans h2⟩
theorem ztI {β:List Nat} {s:St} {a:Act} (hf:Fr β s.fr a) {x:Operand} {k:Bool→Prop} (h:evB s x k) :
  ∃ b,k b∧a.eval x = .bool b:=by
 obtain⟨sv,v,hk,hv,he⟩:=zl hf h;obtain⟨b,h1,h2⟩:=zBv hk hv;exact⟨b,h1,he.trans h2⟩
theorem ze0 {β:List Nat} {s:St} {a:Act} (hf:Fr β s.fr a) {x:Operand} {k:Option Addr→Nat→Nat→Prop} (h:evS s x k) :
  ∃ p n c,k p n c∧a.eval x = .slice p n c:=by
 obtain⟨sv,v,hk,hv,he⟩:=zl hf h;obtain⟨p,n,c,h1,h2⟩:=zzD hk hv;exact⟨p,n,c,h1,he.trans h2⟩
theorem zg8 {a:Option Addr} {k:Nat→Nat→Prop} (h:atO a k):∃ b o,a=some ⟨b,o,none⟩∧k b o:=by
 unfold atO at h;split at h
 ·grind
 ·simp_all
theorem zal {α:Type} {x:Option α} {k:α→Prop} (h:onO x k):∃ l,x=some l∧k l:=by
 unfold onO at h;split at h
 ·simp_all
 ·simp_all
structure Rd (β:List Nat) (s:St) (w:World):Prop where
 M:s.M.le (zk w)
 live:∀ (j:Nat) T cs,s.bx[j]? = some (.live T cs)→∃ b vs,β[j]? = some b∧zY β cs=some vs∧w.heap[b]? = some (.cells vs.toArray T (0,0))
 gone:∀ (j:Nat) b,s.bx[j]? = some (.gone b)→β[j]? = some b
theorem zBw {β:List Nat} {s:St} (hg:∀ (j:Nat) b,s.bx[j]? = some (.gone b)→β[j]? = some b)
  (hl:∀ (j:Nat) T cs,s.bx[j]? = some (.live T cs)→∃ b,β[j]? = some b)
  {sv:SV} {v:Value} (hv:sv.val β=some v) {kb:Nat→Nat→List SC→Prop} {kp:Nat→Nat→Prop} (h:asP s sv kb kp) :
  (∃ j o T cs b,s.bx[j]? = some (.live T cs)∧kb j o cs∧β[j]? = some b∧v = .pointer (some ⟨b,o,none⟩)) ∨
  (∃ b o,kp b o∧v = .pointer (some ⟨b,o,none⟩)):=by
 unfold asP at h;split at h
 ·rename_i j o;rw[zjA] at h;unfold atB at h;split at h
  ·rename_i T cs hj;obtain⟨b,hb⟩:=hl j T cs hj;simp[SV.val,SC.val,hb] at hv;exact .inl ⟨j,o,T,cs,b,hj,h,hb,hv.symm⟩
  ·rename_i b hj;have hb:=hg j b hj
   simp[SV.val,SC.val,hb] at hv;exact .inr ⟨b,o,h,hv.symm⟩
  ·simp_all
 ·obtain⟨b,o,rfl,hk⟩:=zg8 h;simp[SV.val,SC.val] at hv;exact .inr ⟨b,o,hk,hv.symm⟩
 ·simp_all
theorem znI {β:List Nat} {s:St} {a:Act} (hf:Fr β s.fr a) (hg:∀ (j:Nat) b,s.bx[j]? = some (.gone b)→β[j]? = some b)
  (hl:∀ (j:Nat) T cs,s.bx[j]? = some (.live T cs)→∃ b,β[j]? = some b)
  {x:Operand} {kb:Nat→Nat→List SC→Prop} {kp:Nat→Nat→Prop} (h:evP s x kb kp) :
  (∃ j o T cs b,s.bx[j]? = some (.live T cs)∧kb j o cs∧β[j]? = some b∧a.eval x = .pointer (some ⟨b,o,none⟩)) ∨
  (∃ b o,kp b o∧a.eval x = .pointer (some ⟨b,o,none⟩)):=by
 obtain⟨sv,v,hk,hv,he⟩:=zl hf h;rw[he];exact zBw hg hl hv hk
theorem Rd.evP {β:List Nat} {s:St} {a:Act} {w:World} (hr:Rd β s w) (hf:Fr β s.fr a)
  {x:Operand} {kb:Nat→Nat→List SC→Prop} {kp:Nat→Nat→Prop} (h:evP s x kb kp) :
  (∃ j o T cs b vs,s.bx[j]? = some (.live T cs)∧kb j o cs∧β[j]? = some b∧zY β cs=some vs∧a.eval x = .pointer (some ⟨b,o,none⟩)) ∨
  (∃ b o,kp b o∧a.eval x = .pointer (some ⟨b,o,none⟩)):=by
 rcases znI hf hr.gone (fun j T cs hj=>let ⟨b,_,hb,_⟩:=hr.live j T cs hj;⟨b,hb⟩) h with ⟨j,o,T,cs,b,h1,h2,h3,h4⟩|h
 ·obtain⟨b',vs,hb',hvs,_⟩:=hr.live j T cs h1;exact .inl ⟨j,o,T,cs,b,vs,h1,h2,h3,hvs,h4⟩
 ·simp_all
theorem zb7 (b o n:Nat):(⟨b,o,none⟩:Addr).add n=⟨b,o+n,none⟩:=by unfold Addr.add;split<;>simp_all
theorem zb1 {β:List Nat}:∀ {cs:List SC} {vs:List Value},zY β cs=some vs→vs.length=cs.length
 | [],vs,h=>by simp[zY] at h;subst h;rfl
 | x::r,vs,h=>by
  simp only[zY] at h;split at h
  ·rename_i v vs' h1 h2;simp at h;subst h;simp[zb1 h2]
  ·cases h
theorem zkT {β:List Nat}:∀ {c1 c2:List SC} {v1 v2:List Value},zY β c1=some v1→zY β c2=some v2→zY β (c1++c2)=some (v1++v2)
 | [],c2,v1,v2,h1,h2=>by simp[zY] at h1;subst h1;simpa using h2
 | x::r,c2,v1,v2,h1,h2=>by
  simp only[zY] at h1;split at h1
  ·rename_i v vs' e1 e2;simp at h1;subst h1;simp[zY,e1,zkT e2 h2]
  ·grind
theorem ze1 {β:List Nat}:∀ {cs:List SC} {vs:List Value} (n:Nat),zY β cs=some vs→zY β (cs.take n)=some (vs.take n)
 | [],vs,n,h=>by simp[zY] at h;subst h;simp[zY]
 | x::r,vs,n,h=>by
  simp only[zY] at h;split at h
  ·rename_i v vs' e1 e2;simp at h;subst h;cases n with
   | zero=>rfl
   | succ n=>simp[zY,e1,ze1 n e2]
  ·cases h
theorem ze2 {β:List Nat}:∀ {cs:List SC} {vs:List Value} (n:Nat),zY β cs=some vs→zY β (cs.drop n)=some (vs.drop n)
 | [],vs,n,h=>by simp[zY] at h;subst h;simp[zY]
 | x::r,vs,n,h=>by
  cases n with
  | zero=>simp_all
  | succ n=>
   simp only[zY] at h;split at h
   ·rename_i v vs' e1 e2;simp at h;subst h;simpa using ze2 n e2
   ·cases h
theorem zpG {β:List Nat} {cs l:List SC} {vs us:List Value} (o:Nat) (h:zY β cs=some vs) (h':zY β l=some us):zY β (zd cs o l)=some (zd vs o us):=by
 unfold zd;rw[zb1 h'];exact zkT (zkT (ze1 o h) h') (ze2 _ h)
theorem ziO {α:Type} (cs l:List α) (o:Nat) (h:o+l.length≤cs.length):(zd cs o l).length=cs.length:=by
 simp[zd];omega
theorem ziw {β:List Nat} {agg:Bool} {cs:List SC} {us:List Value} {k:SV→Prop} (h:mkv agg cs k) (hu:zY β cs=some us) :
  ∃ sv,k sv∧((agg=true∧sv.val β=some (.agg us.toArray))∨(agg=false∧∃ u,us=[u]∧sv.val β=some u)):=by
 cases agg with
 | true=>rw[mkv,zbW] at h;exact⟨_,h,.inl ⟨rfl,by simp[SV.val,hu]⟩⟩
 | false=>
  simp only[mkv,zHI] at h;split at h
  ·rename_i x;simp only[zY] at hu;split at hu
   ·rename_i v vs e1 e2;simp at e2 hu;subst e2;subst hu;exact⟨_,h,.inr ⟨rfl,_,rfl,by assumption⟩⟩
   ·grind
  ·simp_all
theorem zjb {cs l:List SC} {o n:Nat} (h:zih cs o n=some l):o+n≤cs.length∧l=(cs.drop o).take n:=by
 unfold zih at h;split at h
 ·simp_all
 ·cases h
theorem ztJ {l cs cs':List SC} {o n:Nat} (h:znE l o n cs=some cs'):l.length=n∧o+n≤cs.length∧cs'=zd cs o l:=by
 unfold znE at h;split at h
 ·simp_all
 ·cases h
theorem zkU {β:List Nat} {sv:SV} {v:Value} {n:Nat} {k:SV→Prop} (h:zrj sv n k) (hv:sv.val β=some v) :
  ∃ b o sv',v = .pointer (some ⟨b,o,none⟩)∧k sv'∧sv'.val β=some (.pointer (some ⟨b,o+n,none⟩)):=by
 unfold zrj at h;split at h
 ·rename_i j o;simp only[SV.val,SC.val] at hv;cases hb:β[j]? with
  | none=>simp_all
  | some b=>simp[hb] at hv;exact⟨b,o,_,hv.symm,h,by simp[SV.val,SC.val,hb]⟩
 ·obtain⟨b,o,rfl,hk⟩:=zg8 h;simp[SV.val,SC.val] at hv;exact⟨b,o,_,hv.symm,hk,rfl⟩
 ·simp_all
theorem zjI {M:Mem} {w:World} (hM:M.le (zk w)) {b o n:Nat} {vs:List Value} (h:M.row b o n=some vs) :
  ∃ c e fz,w.heap[b]? = some (.cells c e fz)∧o+n≤c.size∧vs=(c.toList.drop o).take n:=by
 unfold Mem.row at h;split at h
 ·rename_i c e fz hb;split at h
  ·rename_i hle;simp at h;exact⟨c,e,fz,hM b _ hb,hle,h.symm⟩
  ·cases h
 ·cases h
theorem zg9 {w:World} {b:Nat} {c:Array Value} {e:TypeId} {fz:Nat×Nat} (h:w.heap[b]? = some (.cells c e fz)) (o:Nat):w.cell? ⟨b,o,none⟩=c[o]?:= by
 simp[World.cell?, h]
theorem zvu {P:Program} {w:World} {b o:Nat} {c:Array Value} {e:TypeId} {fz:Nat×Nat} (h:w.heap[b]? = some (.cells c e fz)) (n:Nat) (hle:o+n≤c.size) :
  (loadCells ⟨b,o,none⟩ n).run P w = .ok ((c.toList.drop o).take n).toArray w:=by
 have hlen:((c.toList.drop o).take n).length=n:=by simp;omega
 have:=run_loadCells_list (P:=P) w ⟨b,o,none⟩ ((c.toList.drop o).take n) (fun j v hj=>by
  rw[zb7,zg9 h]
  have hlt:j<n:=by
   have:=(Yu.1 hj).1;omega
  rw[Ya6 hlt,Ybw] at hj
  simpa using hj)
 rwa [hlen] at this
theorem zhk {P:Program} {w:World} {T:TypeId} {b o n:Nat} {c:Array Value} {e:TypeId} {fz:Nat×Nat} (hag:ze8 P T=some true) (hsz:zac P T=some n)
  (h:w.heap[b]? = some (.cells c e fz)) (hle:o+n≤c.size):(loadVar T ⟨b,o,none⟩).run P w = .ok (.agg ((c.toList.drop o).take n).toArray) w:=by
 have h1:(isAgg T).run P w = .ok true w:=by
  unfold ze8 at hag;simp only[isAgg,Yo];split at hag
  ·rename_i fs hu;simp[run_underlying hu]
  ·rename_i m e hu;simp[run_underlying hu]
  ·grind
  ·grind
 have h2:(sizeOf T).run P w = .ok n w:=by
  unfold zac at hsz;cases hi:P.info? T with
  | none=>simp_all
  | some i=>
   simp[hi] at hsz;simp[sizeOf,typeInfo,hi,hsz]
 simp[loadVar,h1,h2,zvu h n hle]
theorem zhl {P:Program} {w:World} {T:TypeId} {b o:Nat} {v:Value} (hag:ze8 P T=some false)
  (h:w.cell? ⟨b,o,none⟩=some v):(loadVar T ⟨b,o,none⟩).run P w = .ok v w:=by
 have h1:(isAgg T).run P w = .ok false w:=by
  unfold ze8 at hag;simp only[isAgg,Yo];cases hu:P.underlying T with
  | none=>simp_all
  | some d=>
   rw[hu] at hag;cases d<;>simp at hag<;>simp[run_underlying hu]
 simp[loadVar,h1,h]
theorem zpH {P:Program} {T:TypeId} {z:List Value} (h:zdJ P T=some z):zac P T=some z.length:=by
 unfold zdJ at h;unfold zac;cases hi:P.info? T with
 | none=>simp_all
 | some i=>
  simp only[hi,Ybf] at h;cases hz:i.zero with
  | none=>simp_all
  | some zz=>
   grind
theorem zlR {P:Program} {T:TypeId} {z:List Value} (w:World) (h:zdJ P T=some z):∃ zv,(zeroValue T).run P w = .ok zv w∧zv.cells=z.toArray:=by
 unfold zdJ at h;cases hi:P.info? T with
 | none=>simp_all
 | some i=>
  simp only[hi,Ybf] at h;cases hz:i.zero with
  | none=>simp_all
  | some zz=>
   simp only[hz,Ybf] at h;split at h
   ·simp at h;subst h;exact⟨zz,by simp[zeroValue,typeInfo,hi,hz],by simp⟩
   ·cases h
theorem zqo {β:List Nat} {sv:SV} {v:Value} {l:List SC} (hv:sv.val β=some v) (hc:cellsOf sv=some l) :
  ∃ us,zY β l=some us∧v.cells=us.toArray:=by
 cases sv with
 | c x=>
  cases x with
  | v x=>
   simp only[cellsOf] at hc;split at hc
   ·rename_i h1;simp at hc;subst hc;simp[SV.val,SC.val] at hv;subst hv;refine⟨[x],by rfl,?_⟩;cases x<;>first|rfl|(simp[Value.oneCell'] at h1)
   ·grind
  | bx j o=>
   simp[cellsOf] at hc;subst hc;simp only[SV.val] at hv;refine⟨[v],by simp[zY,hv],?_⟩;simp only[SC.val] at hv;cases hb:β[j]? with
   | none=>simp_all
   | some b=>simp[hb] at hv;subst hv;rfl
 | ag cs=>
  simp[cellsOf] at hc;subst hc;simp[SV.val] at hv;obtain⟨us,hu,rfl⟩:=hv;exact⟨us,hu,rfl⟩
 | sb x=>
  simp[cellsOf] at hc;subst hc;simp[SV.val] at hv;subst hv;exact⟨[.bool x],by rfl,rfl⟩
 | sl _ _=>simp[cellsOf] at hc
 | fn _ _=>simp[cellsOf] at hc
 | dead=>simp[cellsOf] at hc
end
section
theorem ztK:∀ {xs ys:List Value},zbM xs ys=some true→xs=ys
 | [],[],_=>rfl
 | x::r,y::r',h=>by
  cases x<;>cases y<;>simp only[zbM] at h<;>try cases h
  split at h
  ·rename_i hk;split at h
   ·rename_i hab;rw[hk,hab,ztK h]
   ·cases h
  ·cases h
 | [],_::_,h=>by simp[zbM] at h
 | x::_,[],h=>by cases x<;>simp[zbM] at h
theorem zDz {a b:Value} (h:zeD a b=some true):a=b:=by
 cases a<;>cases b<;>simp only[zeD] at h<;>try cases h
 ·simp_all
 ·simp_all
 ·rename_i xs ys;have:=ztK h
  rw[Array.toList_inj.1 this]
def zoR:KK→Value→Prop
 | .int,v=>∃ q n,v = .int q n
 | .str,v=>∃ b,v = .string b
 | .agg n,v=>∃ l:List (IntKind×Int),l.length=n∧v = .agg (l.map fun p=>Value.int p.1 p.2).toArray
theorem zpI {β:List Nat}:∀ {cs:List SC} {us:List Value} {k:List Value→Prop},zuY cs k→zY β cs=some us→k us∧∃ l:List (IntKind×Int),us=l.map fun p=>Value.int p.1 p.2
 | [],us,k,h,hv=>by simp[zY] at hv;subst hv;exact⟨h,[],rfl⟩
 | x::r,us,k,h,hv=>by
  unfold zuY at h;split at h
  ·simp_all
  ·rename_i q n r' e;cases e;simp only[zY,SC.val] at hv;cases hr:zY β r with
   | none=>simp_all
   | some vs=>
    simp[hr] at hv;subst hv;obtain⟨h1,l,rfl⟩:=zpI h hr;exact⟨h1,(q,n)::l,rfl⟩
  ·simp_all
theorem zlS {β:List Nat} {kk:KK} {sv:SV} {v:Value} {k:Value→Prop} (h:keyV kk sv k) (hv:sv.val β=some v):k v∧zoR kk v:=by
 unfold keyV at h;split at h
 ·simp[SV.val,SC.val] at hv;subst hv;exact⟨h,_,_,rfl⟩
 ·simp[SV.val,SC.val] at hv;subst hv;exact⟨h,_,rfl⟩
 ·rename_i n cs;unfold ziN at h;split at h
  ·have hl:=Ya9 ‹_›;simp[SV.val] at hv;obtain⟨vs,hvs,rfl⟩:=hv;obtain⟨h1,l,rfl⟩:=zpI h hvs;have:=zb1 hvs
   exact⟨h1,l,by simp_all,rfl⟩
  ·simp_all
 ·simp_all
section
variable {P:Program}
theorem zdi {T:TypeId} {q:IntKind} (hu:P.underlying T=some (.int q)) (xs:Array Value) (i:Nat) {v:Value} (h:xs[i]? = some v) (w:World):(part T xs i).run P w = .ok v w:=by
 have h1:(isAgg T).run P w = .ok false w:=by
  simp[isAgg,run_underlying hu]
 simp only[part,Yo,h1,Yk,Ybp,if_false,h];rfl
theorem zpJ {q q':IntKind} {a b:Int} {r r':List Value} {t:Bool} (h:zbM (.int q a::r) (.int q' b::r')=some t):q=q'∧(a=b→zbM r r'=some t)∧(a≠b→t=false):=by
 simp only[zbM] at h;split at h
 ·grind
 ·cases h
theorem znJ (d:Nat) (w:World) {xs ys:List Value}:∀ (us vs:List Value) (i:Nat) (fs:List Field) (t:Bool),zbM us vs=some t→us=xs.drop i→vs=ys.drop i →
  zdh P i fs=true→fs.length=us.length→(Op.eqFields (d+1) xs.toArray ys.toArray fs).run P w = .ok t w
 | [],[],i,fs,t,h,_,_,_,hl=>by
  simp[zbM] at h;subst h;have:fs=[]:=by simpa using hl
  subst this;simp[Op.eqFields]
 | [],_::_,_,_,_,h,_,_,_,_=>by simp[zbM] at h
 | x::_,[],_,_,_,h,_,_,_,_=>by cases x<;>simp[zbM] at h
 | x::us,y::vs,i,fs,t,h,e1,e2,hi,hl=>by
  obtain⟨q,a,rfl⟩:∃ q a,x = .int q a:=by cases x<;>cases y<;>simp[zbM] at h<;>exact⟨_,_,rfl⟩
  obtain⟨q',b,rfl⟩:∃ q a,y = .int q a:=by cases y<;>simp[zbM] at h<;>exact⟨_,_,rfl⟩
  obtain⟨rfl,h1,h2⟩:=zpJ h;cases fs with
  | nil=>grind
  | cons f fs=>
   simp only[zdh,Yl,bne_iff_ne,ne_eq,beq_iff_eq] at hi;obtain⟨⟨⟨hn,ho⟩,hint⟩,hi⟩:=hi
   have g1:xs[i]? = some (.int q a):=by
    have:=congrArg (·[0]?) e1;simp at this;exact this.symm
   have g2:ys[i]? = some (.int q b):=by
    have:=congrArg (·[0]?) e2;simp at this;exact this.symm
   have g3:us=xs.drop (i+1):=by
    have:=congrArg (·.drop 1) e1;simpa using this
   have g4:vs=ys.drop (i+1):=by
    have:=congrArg (·.drop 1) e2;simpa using this
   split at hint
   ·rename_i q' hq';have p1:=zdi hq' xs.toArray i (by simpa using g1) w
    have p2:=zdi hq' ys.toArray i (by simpa using g2) w;have p3:=run_equalIn_int w d f.type q q' a b hq'
    simp only[Op.eqFields,hn,ne_eq,not_false_eq_true,if_true,ho,Yo,p1,p2,p3,Yk];by_cases hab:a=b
    ·subst hab;simp[znJ d w us vs (i+1) fs t (h1 rfl) g3 g4 hi (by grind)]
    ·simp_all
   ·grind
theorem zpK (d:Nat) (w:World) {e:TypeId} {q0:IntKind} (he:P.underlying e=some (.int q0)) {xs ys:List Value}:∀ (us vs:List Value) (i:Nat) (t:Bool),zbM us vs=some t→us=xs.drop i→vs=ys.drop i →
  (Op.eqItems (d+1) e 1 xs.toArray ys.toArray (List.range' i us.length)).run P w = .ok t w
 | [],[],i,t,h,_,_=>by
  simp[zbM] at h;subst h;simp[Op.eqItems]
 | [],_::_,_,_,h,_,_=>by simp[zbM] at h
 | x::_,[],_,_,h,_,_=>by cases x<;>simp[zbM] at h
 | x::us,y::vs,i,t,h,e1,e2=>by
  obtain⟨q,a,rfl⟩:∃ q a,x = .int q a:=by cases x<;>cases y<;>simp[zbM] at h<;>exact⟨_,_,rfl⟩
  obtain⟨q',b,rfl⟩:∃ q a,y = .int q a:=by cases y<;>simp[zbM] at h<;>exact⟨_,_,rfl⟩
  obtain⟨rfl,h1,h2⟩:=zpJ h
  have g1:xs[i]? = some (.int q a):=by
   have:=congrArg (·[0]?) e1;simp at this;exact this.symm
  have g2:ys[i]? = some (.int q b):=by
   have:=congrArg (·[0]?) e2;simp at this;exact this.symm
  have g3:us=xs.drop (i+1):=by
   have:=congrArg (·.drop 1) e1;simpa using this
  have g4:vs=ys.drop (i+1):=by
   have:=congrArg (·.drop 1) e2;simpa using this
  have p1:=zdi he xs.toArray i (by simpa using g1) w;have p2:=zdi he ys.toArray i (by simpa using g2) w
  have p3:=run_equalIn_int w d e q q0 a b he;simp only[Ym,List.range'_succ,Op.eqItems,Ybi,Yo,p1,p2,p3,Yk];by_cases hab:a=b
  ·subst hab;simp[zpK d w he us vs (i+1) t (h1 rfl) g3 g4]
  ·simp_all
theorem zBx {K:TypeId} {n:Nat} (hk:zcK P K=some (.agg n)) {l:List (IntKind×Int)} (hl:l.length=n) {v:Value} {t:Bool} (h:zeD (.agg (l.map fun p=>Value.int p.1 p.2).toArray) v=some t) (w:World) :
  (Op.equal K (.agg (l.map fun p=>Value.int p.1 p.2).toArray) v).run P w = .ok t w:=by
 obtain⟨ys,rfl⟩:∃ ys,v = .agg ys:=by cases v<;>simp[zeD] at h<;>exact⟨_,rfl⟩
 simp only[zeD] at h;unfold zcK at hk;split at hk
 ·grind
 ·grind
 ·rename_i fs hu;split at hk
  ·rename_i hc;simp only[Yl,Yah] at hc;simp at hk;have hfo:P.fieldsOf K=fs:=by simp[Program.fieldsOf,hu]
   have:=run_equalIn_struct (P:=P) w 9999 K (l.map fun p=>Value.int p.1 p.2).toArray ys (by simp_all) hc.2;rw[hfo] at this;have h2:=znJ (P:=P) 9998 w (xs:=l.map fun p=>Value.int p.1 p.2) (ys:=ys.toList) _ _ 0 fs.toList t h oS oS hc.1 (by simp_all)
   rw[show ys.toList.toArray=ys from by simp] at h2;rw[h2] at this;exact this
  ·grind
 ·rename_i m e hu;split at hk
  ·rename_i q he hs;simp at hk;subst hk
   obtain⟨i,hi,hsz⟩:∃ i,P.info? e=some i∧i.size=1:=by
    unfold zac at hs;cases hi:P.info? e with
    | none=>simp_all
    | some i=>simp_all
   have hco:P.cellsOf e=1:=by simp[Program.cellsOf,hi,hsz]
   have:=run_equalIn_array (P:=P) w 9999 (l.map fun p=>Value.int p.1 p.2).toArray ys hu hi;rw[hco] at this;have h2:=zpK (P:=P) 9998 w he (xs:=l.map fun p=>Value.int p.1 p.2) (ys:=ys.toList) _ _ 0 t h oS oS
   rw[show ys.toList.toArray=ys from by simp] at h2;simp only[Y9] at h2;simp only[hl] at h2;rw[←List.range_eq_range'] at h2;rw[h2] at this;exact this
  ·grind
 ·grind
theorem zlv {K:TypeId} {key:Value} (heq:∀ (v:Value) (t:Bool) (w:World),zeD key v=some t→(Op.equal K key v).run P w = .ok t w) :
  ∀ (es:List MapEntry) (i:Nat) (f:Option (Nat×Value)) (w:World),zB key es i=some f→(Instr.findAsking K key es i).run P w = .ok f w
 | [],i,f,w,h=>by simp[zB] at h;subst h;simp[Instr.findAsking]
 | e::es,i,f,w,h=>by
  simp only[zB] at h;split at h
  ·rename_i hs;simp at h;subst h;simp[Instr.findAsking,heq _ _ w hs]
  ·rename_i hs;simp[Instr.findAsking,heq _ _ w hs,zlv heq es (i+1) f w h]
  ·cases h
theorem zkV {d:TypeDesc} {key:Value} (heq:∀ v t,zeD key v=some t→Instr.sameNow d key v=some t) :
  ∀ (es:List MapEntry) (i:Nat) (f:Option (Nat×Value)),zB key es i=some f→Instr.findNow d key es i=some f
 | [],i,f,h=>by assumption
 | e::es,i,f,h=>by
  simp only[zB] at h;simp only[Instr.findNow];split at h
  ·simp_all
  ·rename_i hs;rw[heq _ _ hs];exact zkV heq es (i+1) f h
  ·cases h
theorem zlT {K:TypeId} {kk:KK} (hk:zcK P K=some kk) {key:Value} (hok:zoR kk key) {es:List MapEntry} {f:Option (Nat×Value)} (h:zB key es 0=some f) (w:World) :
  (Instr.findKey K key es).run P w = .ok f w:=by
 cases kk with
 | int=>
  obtain⟨q,n,rfl⟩:=hok
  have hu:∃ q',P.underlying K=some (.int q'):=by
   unfold zcK at hk;split at hk
   ·simp_all
   ·grind
   ·simp_all
   ·grind
   ·grind
  obtain⟨q',hu⟩:=hu;refine MapKept.run_findKey hu (zkV (fun v t hv=>?_) es 0 f h);cases v<;>simp only[zeD] at hv<;>try cases hv
  split at hv
  ·rename_i hq;simp at hv;simp only[Instr.sameNow,if_pos hq];rw[←hv];rename_i b;by_cases hab:n=b<;>simp[hab]
  ·grind
 | str=>
  obtain⟨b,rfl⟩:=hok
  have hu:P.underlying K=some .string:=by
   unfold zcK at hk;split at hk
   ·grind
   ·omega
   ·simp_all
   ·grind
   ·grind
  refine MapKept.run_findKey hu (zkV (fun v t hv=>?_) es 0 f h);cases v<;>simp only[zeD] at hv<;>try cases hv
  rename_i b';simp only[Instr.sameNow];congr 1;rw[beq_toListBytes];by_cases h:b=b'
  ·simp_all
  ·have:¬b.toList=b'.toList:=fun e=>h (by
    rw[Yck,Yck] at e;obtain⟨⟨x⟩⟩:=b;obtain⟨⟨y⟩⟩:=b';simp at e
    rw[e])
   simp[h,this]
 | agg n=>
  obtain⟨l,hl,rfl⟩:=hok
  have hw:(match P.underlying K with|some (.array _ _)|some (.struct _)=>true|_=>false)=true:=by
   unfold zcK at hk;split at hk
   ·grind
   ·grind
   ·simp_all
   ·simp_all
   ·grind
  rw[run_findKey_eq (P:=P) w hw];exact zlv (fun v t w hv=>zBx hk hl hv w) es 0 f w h
theorem znK {α:Type} {x y:α}:∀ {l:List α},(x,y)∈l.zip l→x=y∧x∈l
 | [],h=>by simp at h
 | a::l,h=>by
  simp only[List.zip_cons_cons,Yp,Yci] at h;rcases h with ⟨rfl,rfl⟩|h
  ·simp
  ·obtain⟨h1,h2⟩:=znK h;exact⟨h1,by grind⟩
theorem zjJ {T:TypeId} {q:IntKind} (hu:P.underlying T=some (.int q)) (em:Bool) (n:Nat) (v:Value) (w:World):(Instr.checkKey em (n+1) T v).run P w = .ok () w:=by
 unfold Instr.checkKey;simp only[Yo,run_underlying hu,Result.andThen];cases v<;>rfl
theorem zix {K:TypeId} {kk:KK} (hk:zcK P K=some kk) {key:Value} (hok:zoR kk key) (em:Bool) (n:Nat) (w:World):(Instr.checkKey em (n+2) K key).run P w = .ok () w:=by
 unfold zcK at hk;split at hk
 ·rename_i q hu;exact zjJ hu em (n+1) key w
 ·rename_i hu;unfold Instr.checkKey;simp only[Yo,run_underlying hu,Result.andThen];cases key<;>rfl
 ·rename_i fs hu;split at hk
  ·rename_i hc;simp only[Yl,Yah] at hc;simp at hk;subst hk;obtain⟨l,hl,rfl⟩:=hok;unfold Instr.checkKey;simp only[Yo,run_underlying hu,Yk];rw[←Array.forIn_toList]
   have key:∀ (fl:List Field) (i:Nat),zdh P i fl=true→i+fl.length≤l.length →
     (forIn fl PUnit.unit fun f _=>(do
      if f.name ≠ "_" then Instr.checkKey em (n+1) f.type (←part f.type (l.map fun p=>Value.int p.1 p.2).toArray f.offset)
      pure (ForInStep.yield PUnit.unit):Sem (ForInStep PUnit))).run P w = .ok PUnit.unit w:=by
    intro fl
    induction fl with
    | nil=>simp
    | cons f fl ih=>
     intro i hi hle;simp only[zdh,Yl,bne_iff_ne,ne_eq,beq_iff_eq] at hi;obtain⟨⟨⟨hn,ho⟩,hint⟩,hi⟩:=hi;simp only[Ym] at hle;split at hint
     ·rename_i q hq;have p1:=zdi hq (l.map fun p=>Value.int p.1 p.2).toArray i (v:=Value.int l[i].1 l[i].2) (by grind) w
      have p2:=zjJ hq em n (Value.int l[i].1 l[i].2) w;simp only[List.forIn_cons,hn,ne_eq,not_false_eq_true,if_true,ho,Yo,p1,p2,Yk,Y6];exact ih (i+1) hi oM
     ·grind
   have h:=key fs.toList 0 hc.1 (by grind);simp at h ⊢;simp[h]
  ·grind
 ·rename_i m e hu;split at hk
  ·rename_i q he hs;simp at hk;subst hk;obtain⟨l,hl,rfl⟩:=hok
   obtain⟨ti,hti,hsz⟩:∃ i,P.info? e=some i∧i.size=1:=by
    unfold zac at hs;cases hi:P.info? e with
    | none=>simp_all
    | some i=>simp_all
   have hco:P.cellsOf e=1:=by simp[Program.cellsOf,hti,hsz]
   have hsr:∀ w:World,(sizeOf e).run P w = .ok 1 w:=fun w=>by rw[run_sizeOf w hti,hco]
   unfold Instr.checkKey;simp only[Yo,run_underlying hu,Yk];simp only[Std.Legacy.Range.forIn_eq_forIn_range',Std.Legacy.Range.size,Ycr,Nat.add_one_sub_one,Nat.div_one]
   have key:∀ (k i:Nat),i+k≤l.length →
     (forIn (List.range' i k) PUnit.unit fun i _=>(do
      Instr.checkKey em (n+1) e (←part e (l.map fun p=>Value.int p.1 p.2).toArray (i*(←sizeOf e)))
      pure (ForInStep.yield PUnit.unit):Sem (ForInStep PUnit))).run P w = .ok PUnit.unit w:=by
    intro k
    induction k with
    | zero=>simp
    | succ k ih=>
     intro i hle;have p1:=zdi he (l.map fun p=>Value.int p.1 p.2).toArray i (v:=Value.int l[i].1 l[i].2) (by grind) w
     have p2:=zjJ he em n (Value.int l[i].1 l[i].2) w;simp only[List.range'_succ,List.forIn_cons,Yo,hsr,Ybi,p1,p2,Yk,Y6];exact ih (i+1) oM
   have h:=key m 0 oM;simp at h ⊢;simp[h]
  ·grind
 ·grind
theorem zBy {kk:KK} {key:Value} (hok:zoR kk key) (w:World):(Instr.keyThatStays key key).run P w = .ok key w:=by
 have:Instr.sameBits 10000 key key=true:=by
  cases kk with
  | int=>obtain⟨q,n,rfl⟩:=hok;simp[Instr.sameBits]
  | str=>
   obtain⟨b,rfl⟩:=hok;simp only[Instr.sameBits];rw[beq_toListBytes];simp
  | agg n=>
   obtain⟨l,hl,rfl⟩:=hok;simp only[Instr.sameBits];simp only[beq_self_eq_true,Bool.true_and];rw[Yaz];rintro ⟨x,y⟩ hxy;obtain⟨rfl,hm⟩:=znK hxy;simp at hm;obtain⟨a,b,_,rfl⟩:=hm;simp[Instr.sameBits]
 simp[Instr.keyThatStays,this]
end
end
end Go.Vm
def Ya := @Go.Vm.Mem.le_refl
def Yc := @Go.Vm.Mem.le_trans
def Yh := @Go.Vm.Mem.upd_ne
def Yam := @Go.Vm.Mem.upd_same
