/- How a function's text is resolved against the program's tables of types. -/
import Derived.Test.YtjkejbenppeagaaGreatDoorVmA
namespace Go.Vm

def zeroOf (P : Program) (T : TypeId) : Option (List Value) :=
  (P.info? T).bind fun i => i.zero.bind fun z => if z.cells.size = i.size then some z.cells.toList else none
def sizeOf' (P : Program) (T : TypeId) : Option Nat := (P.info? T).map (·.size)
def aggOf (P : Program) (T : TypeId) : Option Bool :=
  match P.underlying T with
  | some (.struct _) | some (.array _ _) => some true
  | some _ => some false
  | none => none
def constInt : Operand → Bool
  | .const (.int _ _) => true
  | _ => false

/-- where the parts of a composite value lie -/
def placesOf (P : Program) (T : TypeId) (parts : List (Nat × Operand)) : Option (List (Nat × Nat × Operand)) :=
  match P.underlying T with
  | some (.struct fs) => (fs.toList.mapM fun f => (sizeOf' P f.type).map fun n => (f.offset, n)).bind fun pl =>
      parts.mapM fun p => (pl[p.1]?).map fun q => (q.1, q.2, p.2)
  | some (.array _ e) => (sizeOf' P e).map fun n => parts.map fun (i, x) => (i * n, n, x)
  | _ => none

def usesTmp (t : Nat) : Operand → Bool
  | .tmp u => u == t
  | _ => false
/-- a literal's row that only an append reads -/
def onlyAppended (ops : List Oper) (t : Nat) : Bool :=
  ops.all fun o => match o.op with
    | .call { callee := .builtin .append, args, .. } => (match args.toList with | [s, _] => !usesTmp t s | _ => false)
    | op => op.operands.all fun x => !usesTmp t x

def tmpFlag (ops : List Oper) (o : Oper) : Bool := match o.dst with | some d => onlyAppended ops d | none => false
def dstOk (n : Nat) (o : Oper) : Bool := match o.dst with | some d => decide (d < n) | none => true
/-- a struct of whole numbers, one behind the other -/
def intFields (P : Program) : Nat → List Field → Bool
  | _, [] => true
  | i, f :: r => f.name != "_" && f.offset == i && (match P.underlying f.type with | some (.int _) => true | _ => false) && intFields P (i + 1) r
/-- such a struct's size -/
def intS (P : Program) (T : TypeId) : Option Nat := match P.underlying T with
  | some (.struct fs) => if intFields P 0 fs.toList && !P.stoodInHeld T && sizeOf' P T == some fs.toList.length then some fs.toList.length else none
  | _ => none
/-- a struct of whole numbers, and of structs of these -/
def intFields2 (P : Program) : Nat → List Field → Option Nat
  | i, [] => some i
  | i, f :: r => if f.name != "_" && f.offset == i then (match P.underlying f.type with
    | some (.int _) => intFields2 P (i + 1) r
    | some (.struct _) => (intS P f.type).bind fun n => intFields2 P (i + n) r
    | _ => none) else none
def isBytes (P : Program) (T : TypeId) : Bool := match P.underlying T with | some (.slice E) => (match P.underlying E with | some (.int .u8) => true | _ => false) | _ => false
def isSrc (P : Program) (T : TypeId) : Bool := match P.underlying T with | some (.slice _) => true | some .string => true | _ => false
def keyKind (P : Program) (k : TypeId) : Option KK :=
  match P.underlying k with
  | some (.int _) => some .int
  | some .string => some .str
  | some (.struct fs) => if intFields P 0 fs.toList && !P.stoodInHeld k then some (.agg fs.toList.length) else none
  | some (.array n e) => (match P.underlying e, sizeOf' P e with | some (.int _), some 1 => some (.agg n) | _, _ => none)
  | _ => none
def zeroVal (P : Program) (T : TypeId) : Option Value := (P.info? T).bind fun i => i.zero
def resOp (P : Program) (ops : List Oper) (o : Oper) : Option ROp :=
  match o.op with
  | .move x | .assign x => some (.mov x)
  | .pick c a b => some (.pick c a b)
  | .box T x => some (.box T x)
  | .alloc T => (zeroOf P T).map fun z => .alloc T z
  | .build T parts => (zeroOf P T).bind fun z => (placesOf P T parts.toList).map fun l => .build z l
  | .buildSlice T n parts =>
    match P.underlying T with
    | some (.slice E) => (zeroOf P E).bind fun z => (sizeOf' P E).bind fun sz =>
        if n * sz ≤ 16777216 ∧ sz ≠ 0 then
          some (.mkSl (tmpFlag ops o) E n ((List.replicate n z).flatten) (parts.toList.map fun (i, x) => (i * sz, sz, x)))
        else none
    | _ => none
  | .load T p => (aggOf P T).bind fun g => (zeroOf P T).bind fun z => if g || z.length == 1 then some (.load g z.length p) else none
  | .store T p x => (sizeOf' P T).map fun n => .store n p x
  | .nilCheck x => some (.nilck x)
  | .fieldAddr T p i => match P.underlying T with
    | some (.struct fs) => (fs[i]?).bind fun f => (sizeOf' P f.type).bind fun n => if n = 0 then none else some (.faddr f.offset p)
    | _ => none
  | .field T x i => match P.underlying T with
    | some (.struct fs) => (fs[i]?).bind fun f => (aggOf P f.type).bind fun g => (sizeOf' P f.type).bind fun n => if g || n == 1 then some (.field g f.offset n x) else none
    | _ => none
  | .indexAddr T x i => match P.underlying T with
    | some (.slice E) => (sizeOf' P E).map fun n => .iaddr n x i
    | some (.array len E) => (sizeOf' P E).map fun n => .iaddrA len n x i
    | _ => none
  | .binOp op T x y _ => match P.underlying T with
    | some (.int _) => some (.ibin op x y)
    | some .bool => some (.bbin op x y)
    | some (.pointer _) => some (.pnil op x y)
    | some .string => some (.strE op x y)
    | some (.slice _) => some (.slnil op x y)
    | some (.struct fs) => if intFields P 0 fs.toList && !P.stoodInHeld T && !P.eqGuardType P.depth T then some (.aeq op fs.toList.length x y) else (intFields2 P 0 fs.toList).bind fun n => if !P.stoodInHeld T && !P.eqGuardType P.depth T then some (.aeq op n x y) else none
    | some (.array n E) => (match P.underlying E, sizeOf' P E with | some (.int _), some 1 => if !P.eqGuardType P.depth T then some (.aeq op n x y) else none | _, _ => none)
    | _ => none
  | .index T x i => match P.underlying T with
    | some .string => some (.sidx x i)
    | some (.array len E) => (aggOf P E).bind fun g => (sizeOf' P E).bind fun n => if g || n == 1 then some (.aidx g len n x i) else none
    | _ => none
  | .unOp .not _ x => some (.not x)
  | .unOp .neg T x => match P.underlying T with | some (.int _) => some (.uneg x) | _ => none
  | .unOp .xor T x => match P.underlying T with | some (.int _) => some (.ucom x) | _ => none
  | .makeFunc (.func f) first caps => if first.size = 0 then some (.mkfn f caps.toList) else none
  | .convert S T x => match P.underlying T, P.underlying S with
    | some (.int k), some (.int _) => some (.conv k x)
    | some .string, some (.slice _) => if isBytes P S then some (.strOf x) else none
    | some (.slice _), some (.slice _) => if isBytes P T && S == T then some (.strish x) else none
    | _, _ => none
  | .slice T x lo hi none => match P.underlying T with
    | some (.slice E) => (sizeOf' P E).map fun n => .slx n x lo hi
    | some .string => some (.ssl x lo hi)
    | some (.array n E) => if lo.isNone && hi.isNone then (sizeOf' P E).map fun _ => .slA n x else none
    | _ => none
  | .call { callee := .builtin .append, args, argTypes } => match args.toList, argTypes.toList with
    | [x, y], [T, U] => (match P.underlying T with
      | some (.slice E) => (zeroOf P E).bind fun z => (P.info? E).bind fun i => if isSrc P U && z.length != 0 then some (.app E z.length i.bytes z x y) else none
      | _ => none)
    | _, _ => none
  | .slice T x (some lo) (some hi) (some m) => match P.underlying T with
    | some (.slice E) => (sizeOf' P E).map fun n => .slx3 n x lo hi m
    | _ => none
  | .call { callee := .builtin .copy, args, argTypes } => match args.toList, argTypes.toList with
    | [x, y], [T, U] => (match P.underlying T with
      | some (.slice E) => (sizeOf' P E).bind fun n => if isSrc P U then some (.cpy n x y) else none
      | _ => none)
    | _, _ => none
  | .call { callee := .builtin .min, args, .. } => match args.toList with
    | [x, y] => some (.imm false x y)
    | _ => none
  | .call { callee := .builtin .max, args, .. } => match args.toList with
    | [x, y] => some (.imm true x y)
    | _ => none
  | .extract x i => some (.extract x i)
  | .makeMap _ none => some .mkMap
  | .makeSlice T x y => match P.underlying T with
    | some (.slice E) => (zeroOf P E).bind fun z => (P.info? E).bind fun i => if z.length != 0 then some (.mkSlN E i.bytes z x y) else none
    | _ => none
  | .lookup T x key ok => match P.underlying T with
    | some (.map K E) => (keyKind P K).bind fun kk => (zeroVal P E).map fun z => .mget kk ok z x key
    | _ => none
  | .mapUpdate T x key v => match P.underlying T with
    | some (.map K _) => (keyKind P K).map fun kk => .mset kk x key v
    | _ => none
  | .insert T x key v => match P.underlying T with
    | some (.map K _) => (keyKind P K).map fun kk => .mset kk x key v
    | _ => none
  | .range T x => match P.underlying T with
    | some (.map _ _) => some (.mrange x)
    | some .string => some (.srange x)
    | _ => none
  | .next it false => some (.mnext it)
  | .next it true => some (.snext it)
  | .entry it => some (.mentry it)
  | .call { callee := .builtin .delete, args, argTypes } => match args.toList, argTypes.toList with
    | [x, y], [T, _] => (match P.underlying T with
      | some (.map K _) => (keyKind P K).map fun kk => .mdel kk x y
      | _ => none)
    | _, _ => none
  | .call { callee := .builtin .len, args, argTypes } => match args.toList, argTypes.toList with
    | [x], [T] => (match P.underlying T with
      | some (.slice _) => some (.len x)
      | some .string => some (.lenS x)
      | some (.map _ _) => some (.mlen x)
      | _ => none)
    | _, _ => none
  | .call { callee := .value f, args, .. } => some (.call f args.toList)
  | _ => none

def guardOf (ops : List Oper) (g : Option (Nat × Bool)) : Option (Option (Nat × Bool)) :=
  match g with
  | none => some none
  | some (j, b) => match (ops[j]?).bind (·.dst) with
    | some d => some (some (d, b))
    | none => none
def isGuard (ops : List Oper) (j : Nat) : Bool := ops.any fun o => match o.guard with | some (i, _) => i == j | none => false
def resOper (P : Program) (n : Nat) (ops : List Oper) (j : Nat) (o : Oper) : Option ROper :=
  (resOp P ops o).bind fun r => (guardOf ops o.guard).bind fun g =>
    if dstOk n o then some { dst := o.dst, op := r, guard := g, sp := isGuard ops j } else none
def resOpers (P : Program) (n : Nat) (ops : List Oper) : Nat → List Oper → Option (List ROper)
  | _, [] => some []
  | j, o :: r => match resOper P n ops j o, resOpers P n ops (j + 1) r with
    | some x, some xs => some (x :: xs)
    | _, _ => none
/-- does j wait for i, on a road of at most so many steps? -/
def waits (ops : Array Oper) : Nat → Nat → Nat → Bool
  | 0, _, _ => false
  | n + 1, j, i => match ops[j]? with
    | some o => o.after.any fun e => Region.binds .any e && (e.on == i || waits ops n e.on i)
    | none => false
def readers (P : Program) (ops : Array Oper) : List Nat :=
  (List.range ops.size).filter fun i => match ops[i]? with
    | some o => (match resOp P ops.toList o with | some r => reads r | none => false)
    | none => false
/-- is there something to be read that j does not wait for? -/
def needs (P : Program) (ops : Array Oper) (j : Nat) : Bool := (readers P ops).any fun i => i != j && !waits ops 5 j i
def isQuiet (P : Program) (n : Nat) (ops : Array Oper) (i : Nat) : Option ROper :=
  match ops[i]? with
  | some o => (match resOper P n ops.toList i o with
    | some r => if quiet r.op then some r else none
    | none => none)
  | none => none
def resAt (P : Program) (n : Nat) (ops : Array Oper) (i : Nat) : Option ROper := (ops[i]?).bind fun o => resOper P n ops.toList i o
/-- 'ok': what was there at the start may still be read -/
def dtree (P : Program) (n : Nat) (ops : Array Oper) : Nat → Bool → Array Bool → Option DTree
  | 0, _, listed => match Region.ready .any ops listed with | [] => some .done | _ => none
  | fuel + 1, ok, listed =>
    match Region.ready .any ops listed with
    | [] => some .done
    | rs =>
      match rs.find? (fun i => (isQuiet P n ops i).isSome && Region.free .any ops listed i && (ok || !(match isQuiet P n ops i with | some r => reads r.op | none => false))) with
      | some i => (isQuiet P n ops i).bind fun r => (dtree P n ops fuel ok (listed.setIfInBounds i true)).map (.take r)
      | none => rs.foldr (fun i more => more.bind fun m => (resAt P n ops i).bind fun r =>
          if !quiet r.op then (dtree P n ops fuel (match isAlloc r.op with | true => ok | false => needs P ops i && (ok || r.guard.isNone)) (listed.setIfInBounds i true)).map fun t => .alt r (needs P ops i && !isAlloc r.op) t m else none) (some .none)
/-- no range over a function within -/
def noR : RCode → Bool
  | .seq a b => noR a && noR b
  | .cond _ a b => noR a && noR b
  | .block _ a => noR a
  | .loop a => noR a
  | .scope a => noR a
  | .rfun .. => false
  | _ => true
def notDefer (o : Oper) : Bool := match o.op with | .defer _ => false | _ => true
/-- no deferred calls -/
def noD : Code → Bool
  | .region _ ops _ => ops.all notDefer
  | .seq a b => noD a && noD b
  | .cond _ a b => noD a && noD b
  | .block _ a => noD a
  | .loop a => noD a
  | .scope _ => false
  | .rangeFunc .. => false
  | _ => true
/-- 'kf': which slots nobody needs behind a region -/
def res (P : Program) (n : Nat) (kf : Nat → List Nat) : Code → Option RCode
  | .skip => some .skip
  | .region id ops draw => match draw with
    | false => (resOpers P n ops.toList 0 ops.toList).map fun l => .ops l (kf id)
    | true => if P.follows .mixedOrders && Region.noSelect ops then (dtree P n ops ops.size true (Array.replicate ops.size false)).map fun t => .draw t (kf id) else none
  | .seq a b => match res P n kf a, res P n kf b with
    | some x, some y => some (.seq x y)
    | _, _ => none
  | .cond c a b => match res P n kf a, res P n kf b with
    | some x, some y => some (.cond c x y)
    | _, _ => none
  | .block id a => (res P n kf a).map (.block id)
  | .loop a => (res P n kf a).map .loop
  | .exit id => some (.exit id)
  | .ret => some .ret
  | .scope a => (res P n kf a).map .scope
  | .rangeFunc g ps a b => match res P n kf a, res P n kf b with
    | some x, some y => if noR x && noR y && noD a && noD b && ps.toList.all (fun p => decide (p < n)) then some (.rfun g ps.toList x y) else none
    | _, _ => none
  | .label _ => some .skip
  | _ => none
def resOne (P : Program) : ResultVar → Option RRes
  | .tmp t => some (.tmp t)
  | .cell a T => (aggOf P T).bind fun g => (sizeOf' P T).bind fun n => if g || n == 1 then some (.cell g n a) else none
def resRes (P : Program) (fn : Func) : Option (List RRes) := fn.results.toList.mapM (resOne P)
end Go.Vm
