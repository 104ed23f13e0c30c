/- The abstract machine's code against the model's: Bool tests that the kernel evaluates, function by function. -/
import Derived.Test.YtloklombgjlofaaGreatDoorBase
namespace Am
open Go

/-- A type's form, as far as the machine asks for it. -/
inductive UD where
  | bool | int (k : IntKind) | str | ptr (e : TypeId) | slice (e : TypeId) | array (n : Nat) (e : TypeId) | map (k e : TypeId)
  | struct (fs : List (Nat × TypeId)) | func | iface
  deriving Inhabited

/-- 'eqs': a struct type whose values are compared cell by cell. -/
structure TI where
  u : UD
  size : Nat
  bytes : Nat
  zero : Option V
  eqs : Bool
  deriving Inhabited

mutual
def vMatch : V → Value → Bool
  | .bool a, .bool b => a == b
  | .int k a, .int k' b => k == k' && a == b
  | .str a, .string b => a == b.data.toList
  | .ptr none, .pointer none => true
  | .slice none n c, .slice none 0 0 => Nat.beq n 0 && c == .fix 0
  | .map none, .map none => true
  | .clo f cs, .func (.func g) first cap => Nat.beq f g && first.isEmpty && vMatches cs cap.toList
  | .nilfn, .nilFunc => true
  | .iface t a, .iface u b => Nat.beq t u && vMatch a b
  | .nili, .nilIface => true
  | .agg a, .agg b => vMatches a b.toList
  | .tup a, .tuple b => vMatches a b.toList
  | _, _ => false
def vMatches : List V → List Value → Bool
  | [], [] => true
  | a :: r, b :: s => vMatch a b && vMatches r s
  | _, _ => false
end

def fsMatch : List (Nat × TypeId) → List Field → Bool
  | [], [] => true
  | (o, t) :: r, f :: s => Nat.beq o f.offset && Nat.beq t f.type && f.name != "_" && fsMatch r s
  | _, _ => false

def udMatch : UD → TypeDesc → Bool
  | .bool, .bool => true
  | .int k, .int k' => k == k'
  | .str, .string => true
  | .ptr e, .pointer e' => Nat.beq e e'
  | .slice e, .slice e' => Nat.beq e e'
  | .array n e, .array n' e' => Nat.beq n n' && Nat.beq e e'
  | .map k e, .map k' e' => Nat.beq k k' && Nat.beq e e'
  | .struct fs, .struct gs => fsMatch fs gs.toList
  | .func, .func .. => true
  | .iface, .interface _ => true
  | _, _ => false

def tiCheck (P : Program) (t : TypeId) (i : TI) : Bool :=
  match P.info? t, P.underlying t with
  | some info, some d => udMatch i.u d && Nat.beq i.size info.size && Nat.beq i.bytes info.bytes &&
      (match i.zero, info.zero with
        | none, _ => true
        | some z, some zv => vMatch z zv && Nat.beq z.cells.length info.size
        | some _, none => false) &&
      (!i.eqs || (!P.stoodInHeld t && !P.eqGuardType P.depth t))
  | _, _ => false

abbrev Tbl := List (TypeId × TI)

def tblCheck (P : Program) (T : Tbl) : Bool := T.all fun p => tiCheck P p.1 p.2

def Tbl.at_ (T : Tbl) (t : TypeId) : Option TI := assoc T t

/-- What the code leans on beside the types. -/
structure Cx where
  T : Tbl
  gl : List Nat

def opdM (C : Cx) : Opd → Operand → Bool
  | .t s, .tmp s' => Nat.beq s s'
  | .c (.ptr (some (b, o))), .global g => Nat.beq b g && Nat.beq o 0 && C.gl.any (Nat.beq g)
  | .c (.clo f []), .func g => Nat.beq f g
  | .c v, .const x => vMatch v x
  | _, _ => false

def opdsM (C : Cx) : List Opd → List Operand → Bool
  | [], [] => true
  | a :: r, b :: s => opdM C a b && opdsM C r s
  | _, _ => false

def opdO (C : Cx) : Option Opd → Option Operand → Bool
  | none, none => true
  | some a, some b => opdM C a b
  | _, _ => false

def isAggT : UD → Bool
  | .struct _ | .array .. => true
  | _ => false

/-- 'part' of a type: one cell, or an aggregate of n. -/
def partM (C : Cx) (t : TypeId) (n : Option Nat) : Bool :=
  match C.T.at_ t with
  | some i => match n with
    | none => !isAggT i.u
    | some n => isAggT i.u && Nat.beq i.size n
  | none => false

def sizeM (C : Cx) (t : TypeId) (n : Nat) : Bool :=
  match C.T.at_ t with
  | some i => Nat.beq i.size n
  | none => false

def bytesM (C : Cx) (t : TypeId) (n : Nat) : Bool :=
  match C.T.at_ t with
  | some i => Nat.beq i.bytes n
  | none => false

def zeroM (C : Cx) (t : TypeId) (z : V) : Bool :=
  match C.T.at_ t with
  | some i => match i.zero with
    | some y => V.same y z
    | none => false
  | none => false

def zcellsM (C : Cx) (t : TypeId) (z : List V) : Bool :=
  match C.T.at_ t with
  | some i => match i.zero with
    | some y => V.sames y.cells z
    | none => false
  | none => false

def shapeFs (C : Cx) (f : TypeId → Option (List LK)) : Nat → Nat → List (Nat × TypeId) → Option (List LK)
  | off, size, [] => bif Nat.beq off size then some [] else none
  | off, size, (o, t) :: r => match C.T.at_ t, f t, shapeFs C f (off + (match C.T.at_ t with | some i => i.size | none => 0)) size r with
    | some _, some a, some b => bif Nat.beq o off then some (a ++ b) else none
    | _, _, _ => none

/-- The cells of a type, if they are ints, bools and strings to the bottom. -/
def shapeT (C : Cx) : Nat → TypeId → Option (List LK)
  | 0, _ => none
  | n + 1, t => match C.T.at_ t with
    | some i => match i.u with
      | .bool => bif Nat.beq i.size 1 then some [.bool] else none
      | .int k => bif Nat.beq i.size 1 then some [.int k] else none
      | .str => bif Nat.beq i.size 1 then some [.str] else none
      | .struct fs => bif i.eqs then shapeFs C (shapeT C n) 0 i.size fs else none
      | .array k e => match C.T.at_ e, shapeT C n e with
        | some j, some sh => bif i.eqs && Nat.beq i.size (k * j.size) then some (List.replicate k sh).flatten else none
        | _, _ => none
      | _ => none
    | none => none

def ksM (C : Cx) (ks : KS) (t : TypeId) : Bool :=
  match C.T.at_ t with
  | some i => match ks with
    | .leaf k => !(isAggT i.u) && shapeT C 20 t == some [k]
    | .agg sh => isAggT i.u && shapeT C 20 t == some sh
  | none => false

def eqM (C : Cx) (k : EK) (t : TypeId) (x y : Operand) : Bool :=
  match C.T.at_ t with
  | some i => match k, i.u with
    | .bool, .bool => true
    | .ptr, .ptr e => match C.T.at_ e with
      | some j => !(Nat.beq j.size 0)
      | none => false
    | .slice, .slice _ => true
    | .map, .map .. => true
    | .fn, .func => true
    | .iface, .iface => (x matches .const _) || (y matches .const _)
    | .agg sh, .struct _ => i.eqs && shapeT C 20 t == some sh
    | .agg sh, .array .. => i.eqs && shapeT C 20 t == some sh
    | _, _ => false
  | none => false

def isU (C : Cx) (t : TypeId) (f : UD → Bool) : Bool :=
  match C.T.at_ t with
  | some i => f i.u
  | none => false

/-- A slice of bytes. -/
def bytesT (C : Cx) (t : TypeId) : Bool := isU C t fun
  | .slice e => isU C e (fun | .int .u8 => true | _ => false)
  | _ => false

/-- The slice's elements: of sz cells, the zero of each known. -/
def rowsM (C : Cx) (e : TypeId) (n sz : Nat) (z : List V) : Bool :=
  sizeM C e sz && (Nat.beq (n * sz) 0 && z.isEmpty || (match C.T.at_ e with
      | some i => match i.zero with
        | some y => Nat.beq y.cells.length sz && V.sames (List.replicate n y.cells).flatten z
        | none => false
      | none => false))

def lenT (C : Cx) (n : Int) : UD → Bool
  | .array k _ => n == (k : Int)
  | .ptr a => isU C a fun
    | .array k _ => n == (k : Int)
    | _ => false
  | _ => false

def zsizeM (C : Cx) (e : TypeId) (sz : Nat) : Bool :=
  match C.T.at_ e with
  | some i => match i.zero with
    | some y => Nat.beq y.cells.length sz
    | none => false
  | none => false

def placeOk (C : Cx) (u : UD) (i off n : Nat) : Bool :=
  match u with
  | .struct fs => match fs[i]? with
    | some (o, t) => Nat.beq o off && sizeM C t n
    | none => false
  | .array _ e => sizeM C e n && Nat.beq off (i * n)
  | _ => false

def placesM (C : Cx) (u : UD) : List (Nat × Nat × Opd) → List (Nat × Operand) → Bool
  | [], [] => true
  | (off, n, x) :: r, (i, y) :: s => opdM C x y && placesM C u r s && placeOk C u i off n
  | _, _ => false

/-- The sizes of all fields are known. -/
def knownFs (C : Cx) : UD → Bool
  | .struct fs => fs.all fun q => (C.T.at_ q.2).isSome
  | .array _ e => (C.T.at_ e).isSome
  | _ => false

def partsM (C : Cx) : List (Nat × Opd) → List (Nat × Operand) → Bool
  | [], [] => true
  | (i, x) :: r, (j, y) :: s => Nat.beq i j && opdM C x y && partsM C r s
  | _, _ => false

def isPtrD : TypeDesc → Bool
  | .pointer _ => true
  | _ => false

/-- A method of that name, by its function, the receiver as it is. -/
def methM (P : Program) (t : TypeId) (f : FuncId) (name : String) : Bool :=
  match P.info? t with
  | some i => match i.methods.find? (·.name == name) with
    | some m => m.path.isEmpty && match m.func, P.underlying t with
      | some (g, b), some d => b == isPtrD d && Nat.beq f g
      | _, _ => false
    | none => false
  | none => false

/-- A function with a body, entered by its number. -/
def enters (P : Program) (f : FuncId) : Bool :=
  match P.funcs[f]? with
  | some fn => fn.body.isSome && !(fn.name == "runtime.NumGoroutine")
  | none => false

def argT (C : Cx) (ts : Array TypeId) (i : Nat) (f : UD → Bool) : Bool :=
  match ts[i]? with
  | some t => isU C t f
  | none => false

def elemOfM (C : Cx) (ts : Array TypeId) (f : TypeId → Bool) : Bool :=
  match ts[0]? with
  | some t => isU C t fun | .slice e => f e | _ => false
  | none => false

def notIntT (C : Cx) (ts : Array TypeId) : Bool :=
  match ts[1]? with
  | some t => isU C t fun | .int _ => false | _ => true
  | none => true

def iM (P : Program) (C : Cx) : I → Op → Bool
  | .mv x, .move y => opdM C x y
  | .mv x, .assign y => opdM C x y
  | .mv (.c (.int .i64 n)), .call { callee := .builtin .len, argTypes := ts, args := as } =>
    !as.isEmpty && argT C ts 0 (lenT C n)
  | .pick c a b, .pick c' a' b' => opdM C c c' && opdM C a a' && opdM C b b'
  | .alloc sz z, .alloc t => sizeM C t sz && zcellsM C t z && Nat.beq z.length sz
  | .box sz x, .box t y => sizeM C t sz && opdM C x y
  | .build z ps, .build t qs => zcellsM C t z && (match C.T.at_ t with | some i => knownFs C i.u && placesM C i.u ps qs.toList | none => false)
  | .bslice sz len z ps, .buildSlice t n qs =>
    Nat.beq len n && isU C t (fun | .slice e => rowsM C e n sz z | _ => false) && partsM C ps qs.toList && Nat.ble (n * sz) (2 ^ 24)
  | .load1 a, .load t b => partM C t none && opdM C a b
  | .loadN n a, .load t b => partM C t (some n) && opdM C a b
  | .store n a v, .store t b w => sizeM C t n && opdM C a b && opdM C v w
  | .nilck x, .nilCheck y => opdM C x y
  | .mkBm name x, .makeFunc (.method n) first cap => name == n && opdsM C [x] first.toList && cap.isEmpty
  | .nilckB name tbl x, .nilCheck y => opdM C x y && tbl.all fun p => methM P p.1 p.2 name
  | .bin op x y, .binOp op' _ x' y' _ => op == op' && opdM C x x' && opdM C y y'
  | .eq k neg x y, .binOp op t x' y' _ => (if neg then op == .neq else op == .eql) && opdM C x x' && opdM C y y' && eqM C k t x' y'
  | .un op x, .unOp op' _ y => op == op' && opdM C x y
  | .convInt k x, .convert s d y => opdM C x y && isU C d (fun | .int k' => k == k' | _ => false) && isU C s (fun | .int _ => true | _ => false)
  | .convStr x, .convert s d y => opdM C x y && isU C d (fun | .str => true | _ => false) && isU C s (fun | .str => true | _ => false)
  | .toBytes x, .convert s d y => opdM C x y && bytesT C d && isU C s (fun | .str => true | _ => false)
  | .ofBytes x, .convert s d y => opdM C x y && bytesT C s && isU C d (fun | .str => true | _ => false)
  | .mark x, .convert s d y => opdM C x y && Nat.beq s d && bytesT C d
  | .mkIface t x, .makeInterface t' y => Nat.beq t t' && opdM C x y && isU C t fun | .iface => false | _ => true
  | .mkClo f cs, .makeFunc (.func g) first cap => Nat.beq f g && first.isEmpty && opdsM C cs cap.toList
  | .mkMap, .makeMap _ none => true
  | .mkSlice sz bytes z l c, .makeSlice t l' c' =>
    opdM C l l' && opdM C c c' && isU C t fun | .slice e => sizeM C e sz && bytesM C e bytes && zcellsM C e z && Nat.beq z.length sz | _ => false
  | .sliceS x lo hi, .slice t y lo' hi' none => opdM C x y && opdO C lo lo' && opdO C hi hi' && isU C t fun | .str => true | _ => false
  | .slice sz x lo hi mx, .slice t y lo' hi' mx' => opdM C x y && opdO C lo lo' && opdO C hi hi' && opdO C mx mx' && isU C t fun | .slice e => sizeM C e sz | _ => false
  | .sliceA n sz x lo hi mx, .slice t y lo' hi' mx' => opdM C x y && opdO C lo lo' && opdO C hi hi' && opdO C mx mx' && isU C t fun | .array k e => Nat.beq k n && sizeM C e sz | _ => false
  | .faddr off x, .fieldAddr t y i => opdM C x y && isU C t fun
      | .struct fs => match fs[i]? with
        | some (o, ft) => Nat.beq o off && (match C.T.at_ ft with | some j => !(Nat.beq j.size 0) | none => false)
        | none => false
      | _ => false
  | .field off n x, .field t y i => opdM C x y && isU C t fun
      | .struct fs => match fs[i]? with
        | some (o, ft) => Nat.beq o off && partM C ft n
        | none => false
      | _ => false
  | .ixaA len sz x i, .indexAddr t y j => opdM C x y && opdM C i j && isU C t fun | .array k e => Nat.beq k len && sizeM C e sz | _ => false
  | .ixaS sz x i, .indexAddr t y j => opdM C x y && opdM C i j && isU C t fun | .slice e => sizeM C e sz | _ => false
  | .ixA len sz n x i, .index t y j => opdM C x y && opdM C i j && isU C t fun | .array k e => Nat.beq k len && sizeM C e sz && partM C e n | _ => false
  | .ixStr x i, .index t y j => opdM C x y && opdM C i j && isU C t fun | .str => true | _ => false
  | .lookup ks z ok m k, .lookup t m' k' ok' => ok == ok' && opdM C m m' && opdM C k k' && isU C t fun | .map kt e => zeroM C e z && ksM C ks kt | _ => false
  | .mput ks m k v, .mapUpdate t m' k' v' => opdM C m m' && opdM C k k' && opdM C v v' && isU C t fun | .map kt _ => ksM C ks kt | _ => false
  | .mput ks m k v, .insert t m' k' v' => opdM C m m' && opdM C k k' && opdM C v v' && isU C t fun | .map kt _ => ksM C ks kt | _ => false
  | .mentry ks z m k, .mapEntry t m' k' => opdM C m m' && opdM C k k' && isU C t fun | .map kt e => zeroM C e z && ksM C ks kt | _ => false
  | .mestore m s v, .entryStore _ m' s' v' => opdM C m m' && opdM C s s' && opdM C v v'
  | .range str x, .range t y => opdM C x y && isU C t fun | .str => str | .map .. => !str | _ => false
  | .next str x, .next y str' => str == str' && opdM C x y
  | .entry x, .entry y => opdM C x y
  | .tassert t z ok x, .typeAssert y _ t' ok' => Nat.beq t t' && ok == ok' && opdM C x y && zeroM C t z && isU C t fun | .iface => false | _ => true
  | .extract x i, .extract y j => opdM C x y && Nat.beq i j
  | .call f args, .call { callee := .value (.func g), args := args', argTypes := _ } => Nat.beq f g && opdsM C args args'.toList
  | .callv x args, .call { callee := .value y, args := args', argTypes := _ } => opdM C x y && opdsM C args args'.toList
  | .callb ms x args, .call { callee := .value y, args := args', argTypes := _ } =>
    opdM C x y && opdsM C args args'.toList && ms.all fun q => q.2.all fun p => methM P p.1 p.2 q.1
  | .invoke tbl x args, .call { callee := .invoke y name, args := args', argTypes := _ } =>
    opdM C x y && opdsM C args args'.toList && tbl.all fun p => methM P p.1 p.2 name
  | .lenS x, .call { callee := .builtin .len, args := args', argTypes := ts } =>
    opdsM C [x] args'.toList && argT C ts 0 fun | .str => true | _ => false
  | .lenL x, .call { callee := .builtin .len, args := args', argTypes := ts } =>
    opdsM C [x] args'.toList && argT C ts 0 fun | .slice _ => true | _ => false
  | .lenM x, .call { callee := .builtin .len, args := args', argTypes := ts } =>
    opdsM C [x] args'.toList && argT C ts 0 fun | .map .. => true | _ => false
  | .append sz bytes x y, .call { callee := .builtin .append, args := args', argTypes := ts } =>
    opdsM C [x, y] args'.toList && notIntT C ts && elemOfM C ts fun e => sizeM C e sz && bytesM C e bytes && !(Nat.beq bytes 0) && zsizeM C e sz
  | .copy sz x y, .call { callee := .builtin .copy, args := args', argTypes := ts } =>
    opdsM C [x, y] args'.toList && elemOfM C ts fun e => sizeM C e sz
  | .minI xs, .call { callee := .builtin .min, args := args', argTypes := _ } => opdsM C xs args'.toList
  | .maxI xs, .call { callee := .builtin .max, args := args', argTypes := _ } => opdsM C xs args'.toList
  | .mdel ks m k, .call { callee := .builtin .delete, args := args', argTypes := ts } =>
    opdsM C [m, k] args'.toList && argT C ts 0 fun | .map kt _ => ksM C ks kt | _ => false
  | .fail, _ => true
  | _, _ => false

/-! The slots that an instruction looks at. -/
def Opd.slots : Opd → List Nat
  | .t s => [s]
  | .c _ => []

def oslots : Option Opd → List Nat
  | some x => x.slots
  | none => []

def lslots (l : List Opd) : List Nat := l.flatMap Opd.slots

def I.slots : I → List Nat
  | .mv x | .box _ x | .load1 x | .loadN _ x | .nilck x | .mkBm _ x | .nilckB _ _ x | .un _ x | .convInt _ x | .convStr x | .toBytes x | .ofBytes x | .mark x | .mkIface _ x
  | .faddr _ x | .field _ _ x | .tassert _ _ _ x | .extract x _ | .lenS x | .lenL x | .lenM x | .range _ x | .next _ x | .entry x => x.slots
  | .pick c a b => c.slots ++ a.slots ++ b.slots
  | .alloc .. | .mkMap | .fail => []
  | .build _ ps => ps.flatMap fun p => p.2.2.slots
  | .bslice _ _ _ ps => ps.flatMap fun p => p.2.slots
  | .store _ a b | .bin _ a b | .eq _ _ a b | .mkSlice _ _ _ a b | .ixaA _ _ a b | .ixaS _ a b | .ixA _ _ _ a b | .ixStr a b | .lookup _ _ _ a b | .mentry _ _ a b | .mdel _ a b
  | .append _ _ a b | .copy _ a b => a.slots ++ b.slots
  | .mkClo _ l | .call _ l | .minI l | .maxI l => lslots l
  | .sliceS x lo hi => x.slots ++ oslots lo ++ oslots hi
  | .slice _ x lo hi mx | .sliceA _ _ x lo hi mx => x.slots ++ oslots lo ++ oslots hi ++ oslots mx
  | .mput _ a b c | .mestore a b c => a.slots ++ b.slots ++ c.slots
  | .callv x l | .callb _ x l | .invoke _ x l => x.slots ++ lslots l

def gslots : Option (Nat × Bool) → List Nat
  | some (s, _) => [s]
  | none => []

def Ins.looks (s : Ins) : List Nat := gslots s.guard ++ s.i.slots

def guardM (ops : Array Oper) : Option (Nat × Bool) → Option (Nat × Bool) → Bool
  | none, none => true
  | some (s, b), some (j, b') => b == b' && (match ops[j]? with | some o => o.dst == some s | none => false)
  | _, _ => false

def insM (P : Program) (C : Cx) (nt : Nat) (ops : Array Oper) (s : Ins) : Bool :=
  match ops[s.ix]? with
  | some o => s.dst == o.dst && (match s.dst with | some d => Nat.blt d nt | none => true) && guardM ops s.guard o.guard && iM P C s.i o.op
  | none => false

/-- Which operations come ahead of each, by the edges: a bit each (each number forced to a numeral as it is laid). -/
def force {α : Type} (n : Nat) (k : Nat → α) : α := match n with | 0 => k 0 | m + 1 => k (m + 1)

def edgesOf (o : Oper) : List Nat := o.after.toList.filterMap fun e => if Region.binds .any e then some e.on else none

/-- The slots that its loads asked again look at. -/
def Ins.clooks (s : Ins) : List Nat := s.chk.flatMap fun c => c.1 :: (gslots c.2.2 ++ c.2.1.slots)

def Opd.same : Opd → Opd → Bool
  | .t a, .t b => Nat.beq a b
  | .c a, .c b => V.same a b
  | _, _ => false

/-- The same load. -/
def I.sameR : I → I → Bool
  | .load1 a, .load1 b => a.same b
  | .loadN n a, .loadN m b => Nat.beq n m && a.same b
  | .ofBytes a, .ofBytes b => a.same b
  | .lookup ks z ok a k, .lookup ks' z' ok' a' k' => ks == ks' && V.same z z' && ok == ok' && a.same a' && k.same k'
  | .lenM a, .lenM b => a.same b
  | .entry a, .entry b => a.same b
  | _, _ => false

/-- a comes ahead of b in the list: it looks at no slot that b sets. -/
def ssaM (a b : Ins) : Bool :=
  match b.dst with
  | some d => !(a.looks.contains d) && !(a.clooks.contains d) && a.dst != some d
  | none => true

/-- a comes ahead of b in the list; b may all the same come ahead of a: does it make no difference? -/
def pairM (a b : Ins) : Bool :=
  (match a.dst with | some d => !(b.looks.contains d) | none => true) &&
  match a.i.cls, b.i.cls with
  | .P, _ | _, .P | .R, .R | .R, .A | .A, .A | .E, .A => true
  | .R, .E => match a.dst with
    | some d => b.chk.any fun c => Nat.beq c.1 d && I.sameR c.2.1 a.i && c.2.2 == a.guard
    | none => false
  | _, _ => false

/-- Only what has an effect asks loads again; a load does not look at its own slot. -/
def okM (a : Ins) : Bool :=
  (a.i.cls == .E || a.chk.isEmpty) && (a.i.cls != .R || (match a.dst with | some d => !(a.looks.contains d) | none => true))

/-- 'bef': of each operation of the translation, the set of those that come ahead of it by the edges. -/
def pairsM (bef : List Nat) : List Ins → Bool
  | [] => true
  | a :: r => okM a && (r.all fun b => (Nat.testBit (bef.getD b.ix 0) a.ix && a.i.cls != .R) || ssaM a b && (Nat.testBit (bef.getD b.ix 0) a.ix || pairM a b)) && pairsM bef r

def befL (ops : List Oper) : List Nat → List Nat
  | acc => match ops with
    | [] => acc.reverse
    | o :: r => force ((edgesOf o).foldl (fun s e => s ||| 2 ^ e ||| acc.reverse.getD e 0) 0) fun v => befL r (v :: acc)

/-- The list goes by the edges, and holds each operation once. -/
def orderM (ops : Array Oper) : List Ins → Nat → Bool
  | [], done => Nat.beq done (2 ^ ops.size - 1)
  | s :: r, done =>
    !(Nat.testBit done s.ix) && (match ops[s.ix]? with | some o => (edgesOf o).all (fun e => Nat.testBit done e) | none => false) &&
      force (done ||| 2 ^ s.ix) fun d => orderM ops r d

def seqM : List Ins → Nat → Bool
  | [], _ => true
  | s :: r, n => Nat.beq s.ix n && s.at_.isNone && s.chk.isEmpty && seqM r (n + 1)

/-- The reserved blocks: each made once. -/
def atsM (res : Nat) : List Ins → Nat → Bool
  | [], _ => true
  | s :: r, done => match s.i.cls, s.at_ with
    | .A, some k => Nat.blt k res && !(Nat.testBit done k) && force (done ||| 2 ^ k) fun d => atsM res r d
    | .A, none => false
    | _, none => atsM res r done
    | _, some _ => false

/-- The guard's operation has run before. -/
def guardE (ops : Array Oper) (s : Ins) : Bool :=
  match ops[s.ix]? with
  | some o => match o.guard with
    | some (j, _) => (edgesOf o).contains j
    | none => true
  | none => false

def guardS (ops : Array Oper) (s : Ins) : Bool :=
  match ops[s.ix]? with
  | some o => match o.guard with
    | some (j, _) => Nat.blt j s.ix
    | none => true
  | none => false

def regionM (P : Program) (C : Cx) (nt : Nat) (ops : Array Oper) (draw : Bool) (res : Nat) (l : List Ins) : Bool :=
  l.all (insM P C nt ops) && Nat.beq l.length ops.size &&
  bif draw then orderM ops l 0 && pairsM (befL ops.toList []) l && atsM res l 0 && l.all (guardE ops)
  else seqM l 0 && Nat.beq res 0 && l.all (guardS ops)

def codeM (P : Program) (C : Cx) (nt : Nat) : AC → Code → Bool
  | .skip, .skip => true
  | .label l, .label l' => Nat.beq l l'
  | .region res ops _, .region _ ops' draw => regionM P C nt ops' draw res ops
  | .seq a b, .seq a' b' => codeM P C nt a a' && codeM P C nt b b'
  | .cond c a b, .cond c' a' b' => opdM C c c' && codeM P C nt a a' && codeM P C nt b b'
  | .block i b, .block i' b' => Nat.beq i i' && codeM P C nt b b'
  | .loop _ b, .loop b' => codeM P C nt b b'
  | .rangeFunc f ps _ a b, .rangeFunc f' ps' a' b' => opdM C f f' && ps == ps'.toList && ps.all (Nat.blt · nt) && codeM P C nt a a' && codeM P C nt b b'
  | .exit i, .exit i' => Nat.beq i i'
  | .ret, .ret => true
  | .scope b, .scope b' => codeM P C nt b b'
  | _, _ => false

def rvM (C : Cx) : List RV → List ResultVar → Bool
  | [], [] => true
  | .tmp s :: r, .tmp s' :: r' => Nat.beq s s' && rvM C r r'
  | .cell1 s :: r, .cell s' t :: r' => Nat.beq s s' && partM C t none && rvM C r r'
  | .cellN s n :: r, .cell s' t :: r' => Nat.beq s s' && partM C t (some n) && rvM C r r'
  | _, _ => false

def fnM (P : Program) (C : Cx) (f : FuncId) (a : AFn) : Bool :=
  match P.funcs[f]? with
  | some fn => match fn.body with
    | some c => !(fn.name == "runtime.NumGoroutine") && Nat.beq fn.ntmps a.nt && Nat.ble a.np a.nt && rvM C a.res fn.results.toList && codeM P C a.nt a.body c
    | none => false
  | none => false

end Am
