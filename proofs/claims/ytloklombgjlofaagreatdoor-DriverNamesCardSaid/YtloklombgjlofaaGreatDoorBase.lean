/- An abstract machine for Go functions: values, memory, instructions, a big-step evaluator. No theorem here speaks of a program; AmSound ties it to the model. -/
import GoSem.Dispatch
namespace Am
open Go

/-- A slice's capacity: known; or whatever it is, elements of sz cells. -/
inductive Cap where
  | fix (k : Nat)
  | grow (sz : Nat)
  deriving DecidableEq, Inhabited

/-- Abstract values: pointers name abstract blocks; a slice that an append may have grown bears no capacity. -/
inductive V where
  | bool (b : Bool)
  | int (k : IntKind) (n : Int)
  | str (s : List UInt8)
  | ptr (a : Option (Nat × Nat))
  | slice (a : Option (Nat × Nat)) (len : Nat) (cap : Cap)
  | map (r : Option Nat)
  | clo (f : FuncId) (cap : List V)
  | yld (l : Nat)
  | nilfn
  | bm (name : String) (t : TypeId) (v : V)
  | iface (t : TypeId) (v : V)
  | nili
  | agg (l : List V)
  | tup (l : List V)
  deriving Inhabited

def Cap.room : Cap → Nat → Nat
  | .fix k, _ => k
  | .grow _, len => len

abbrev V.i (n : Int) : V := .int .i64 n
abbrev V.nil : V := .ptr none
abbrev V.nils : V := .slice none 0 (.fix 0)
abbrev V.p (b o : Nat) : V := .ptr (some (b, o))
abbrev V.undef : V := .tup []

def V.cells : V → List V
  | .agg l => l
  | v => [v]

inductive Opd where
  | t (s : Nat)
  | c (v : V)
  deriving Inhabited

/-- A cell that is compared by what it holds. -/
inductive LK where
  | bool | int (k : IntKind) | str
  deriving DecidableEq, Inhabited

/-- What is compared by == . -/
inductive EK where
  | bool | ptr | slice | map | fn | iface | agg (sh : List LK)
  deriving DecidableEq, Inhabited

/-- A map's key. -/
inductive KS where
  | leaf (k : LK) | agg (sh : List LK)
  deriving DecidableEq, Inhabited

/-- Methods by their names, and the types that have them. -/
abbrev MT := List (String × List (TypeId × FuncId))

inductive I where
  | mv (x : Opd)
  | pick (c a b : Opd)
  | alloc (sz : Nat) (zero : List V)
  | box (sz : Nat) (x : Opd)
  | build (zero : List V) (parts : List (Nat × Nat × Opd))
  | bslice (sz len : Nat) (zero : List V) (parts : List (Nat × Opd))
  | load1 (a : Opd)
  | loadN (n : Nat) (a : Opd)
  | store (n : Nat) (a v : Opd)
  | nilck (x : Opd)
  | mkBm (name : String) (x : Opd)
  | nilckB (name : String) (tbl : List (TypeId × FuncId)) (x : Opd)
  | bin (op : BinOp) (x y : Opd)
  | eq (k : EK) (neg : Bool) (x y : Opd)
  | un (op : UnOp) (x : Opd)
  | convInt (k : IntKind) (x : Opd)
  | convStr (x : Opd)
  | toBytes (x : Opd)
  | ofBytes (x : Opd)
  | mark (x : Opd)
  | fail
  | mkIface (t : TypeId) (x : Opd)
  | mkClo (f : FuncId) (cap : List Opd)
  | mkMap
  | mkSlice (sz bytes : Nat) (zero : List V) (len cap : Opd)
  | sliceS (x : Opd) (lo hi : Option Opd)
  | slice (sz : Nat) (x : Opd) (lo hi mx : Option Opd)
  | sliceA (n sz : Nat) (x : Opd) (lo hi mx : Option Opd)
  | faddr (off : Nat) (x : Opd)
  | field (off : Nat) (n : Option Nat) (x : Opd)
  | ixaA (len sz : Nat) (x i : Opd)
  | ixaS (sz : Nat) (x i : Opd)
  | ixA (len sz : Nat) (n : Option Nat) (x i : Opd)
  | ixStr (x i : Opd)
  | lookup (ks : KS) (zero : V) (ok : Bool) (m k : Opd)
  | mput (ks : KS) (m k v : Opd)
  | mentry (ks : KS) (zero : V) (m k : Opd)
  | mestore (m s v : Opd)
  | mdel (ks : KS) (m k : Opd)
  | range (str : Bool) (x : Opd)
  | next (str : Bool) (x : Opd)
  | entry (x : Opd)
  | tassert (t : TypeId) (zero : V) (ok : Bool) (x : Opd)
  | extract (x : Opd) (i : Nat)
  | call (f : FuncId) (args : List Opd)
  | callv (x : Opd) (args : List Opd)
  | callb (ms : MT) (x : Opd) (args : List Opd)
  | invoke (tbl : List (TypeId × FuncId)) (x : Opd) (args : List Opd)
  | lenS (x : Opd)
  | lenL (x : Opd)
  | lenM (x : Opd)
  | append (sz bytes : Nat) (x y : Opd)
  | copy (sz : Nat) (x y : Opd)
  | minI (xs : List Opd)
  | maxI (xs : List Opd)
  deriving Inhabited

/-- An instruction of a region: 'ix': its place in the translation's list; 'at_': the reserved block that it makes; 'chk': loads that are asked again behind it. -/
structure Ins where
  ix : Nat
  dst : Option Nat
  i : I
  guard : Option (Nat × Bool)
  at_ : Option Nat
  chk : List (Nat × I × Option (Nat × Bool))
  deriving Inhabited

abbrev Ins.mk4 (ix : Nat) (dst : Option Nat) (i : I) (guard : Option (Nat × Bool)) : Ins := ⟨ix, dst, i, guard, none, []⟩

/-- Code: 'keep', 'live': the slots that are carried on. -/
inductive AC where
  | skip
  | region (res : Nat) (ops : List Ins) (keep : List Nat)
  | seq (a b : AC)
  | cond (c : Opd) (a b : AC)
  | block (id : Nat) (body : AC)
  | loop (live : List Nat) (body : AC)
  | rangeFunc (f : Opd) (params : List Nat) (live : List Nat) (assign body : AC)
  | exit (id : Nat)
  | ret
  | scope (body : AC)
  | label (l : Nat)
  deriving Inhabited

inductive Ex where
  | normal
  | exit (id : Nat)
  | ret
  deriving DecidableEq, Inhabited

inductive RV where
  | tmp (s : Nat)
  | cell1 (s : Nat)
  | cellN (s n : Nat)
  deriving Inhabited

structure AFn where
  np : Nat
  nt : Nat
  res : List RV
  body : AC
  deriving Inhabited

abbrev Env := List (Nat × V)

def Env.get : Env → Nat → Option V
  | [], _ => none
  | (k, v) :: r, s => bif Nat.beq k s then some v else Env.get r s

/-- In place, or at the end. -/
def Env.put : Env → Nat → V → Env
  | [], s, v => [(s, v)]
  | (k, w) :: r, s, v => bif Nat.beq k s then (k, v) :: r else (k, w) :: Env.put r s v

/-- Only these slots. -/
def Env.only (e : Env) : List Nat → Env
  | [] => []
  | s :: r => match e.get s with
    | some v => (s, v) :: Env.only e r
    | none => Env.only e r

def Env.ofArgs : List V → Nat → Env
  | [], _ => []
  | v :: r, n => (n, v) :: Env.ofArgs r (n + 1)

inductive Obj where
  | cells (l : List V) (ro : Bool)
  | map (es : List (V × V × Nat)) (clock : Nat)
  | loop (st : LoopState) (pend : Option Ex) (params : List Nat) (env : Env) (assign body : AC)
  | iter (mp : Option Nat) (since : Nat) (seen : List Nat) (last : Nat)
  | siter (s : List UInt8) (pos : Nat)
  deriving Inhabited

def Obj.ro : Obj → Bool
  | .cells _ r => r
  | _ => false

inductive T where
  | lf
  | nd (v : Option Obj) (l r : T)
  deriving Inhabited

def T.get : T → Nat → Option Obj
  | .lf, _ => none
  | .nd v l r, k => bif Nat.beq k 0 then v else bif Nat.beq (k % 2) 1 then l.get (k / 2) else r.get (k / 2 - 1)

def T.set : Nat → T → Nat → Option Obj → T
  | 0, t, _, _ => t
  | f + 1, t, k, o =>
    match t with
    | .lf => bif Nat.beq k 0 then .nd o .lf .lf else bif Nat.beq (k % 2) 1 then .nd none (T.set f .lf (k / 2) o) .lf else .nd none .lf (T.set f .lf (k / 2 - 1) o)
    | .nd v l r => bif Nat.beq k 0 then .nd o l r else bif Nat.beq (k % 2) 1 then .nd v (T.set f l (k / 2) o) r else .nd v l (T.set f r (k / 2 - 1) o)

structure H where
  nx : Nat
  t : T
  deriving Inhabited

def H.get (h : H) (b : Nat) : Option Obj := h.t.get b
def H.upd (h : H) (b : Nat) (o : Option Obj) : H := { nx := h.nx, t := h.t.set (b + 1) b o }
def H.set (h : H) (b : Nat) (o : Obj) : H := h.upd b (some o)
def H.kill (h : H) (b : Nat) : H := h.upd b none
/-- A new block bears the number h.nx. -/
def H.new (h : H) (o : Obj) : H := { nx := h.nx + 1, t := h.t.set (h.nx + 1) h.nx (some o) }

/-- No aggregate: the value of one cell. -/
def V.one : V → Bool
  | .agg _ | .tup _ => false
  | _ => true

def setAll : List V → Nat → List V → List V
  | vs, _, [] => vs
  | vs, o, x :: r => setAll (vs.set o x) (o + 1) r

/-- Cells o .. o + n - 1 of block b. -/
def H.load (h : H) (b o n : Nat) : Option (List V) :=
  match h.get b with
  | some (.cells l _) => bif Nat.ble (o + n) l.length then some ((l.drop o).take n) else none
  | _ => none

def H.load1 (h : H) (b o : Nat) : Option V :=
  match h.get b with
  | some (.cells l _) => l[o]?
  | _ => none

def H.store (h : H) (b o : Nat) (vs : List V) : Option H :=
  match h.get b with
  | some (.cells l false) => bif Nat.ble (o + vs.length) l.length && vs.all V.one then some (h.set b (.cells (setAll l o vs) false)) else none
  | _ => none

def leafEq : LK → V → V → Option Bool
  | .bool, .bool a, .bool b => some (a == b)
  | .int k, .int k1 a, .int k2 b => bif k1 == k && k2 == k then some (a == b) else none
  | .str, .str a, .str b => some (a == b)
  | _, _, _ => none

def cellsEq : List LK → List V → List V → Option Bool
  | [], [], [] => some true
  | k :: t, a :: r, b :: s => match leafEq k a b, cellsEq t r s with
    | some x, some y => some (x && y)
    | _, _ => none
  | _, _, _ => none

def keyEq : KS → V → V → Option Bool
  | .leaf k, a, b => leafEq k a b
  | .agg sh, .agg a, .agg b => cellsEq sh a b
  | _, _, _ => none

def intOp (op : BinOp) (k : IntKind) (a b : Int) : Option V :=
  match op with
  | .add => some (.int k (k.wrap (a + b)))
  | .sub => some (.int k (k.wrap (a - b)))
  | .mul => some (.int k (k.wrap (a * b)))
  | .quo => bif b == 0 then none else some (.int k (k.wrap (a.tdiv b)))
  | .rem => bif b == 0 then none else some (.int k (a.tmod b))
  | .and => some (.int k (k.wrap (BitVec.ofInt k.bits a &&& BitVec.ofInt k.bits b).toNat))
  | .or => some (.int k (k.wrap (BitVec.ofInt k.bits a ||| BitVec.ofInt k.bits b).toNat))
  | .xor => some (.int k (k.wrap (BitVec.ofInt k.bits a ^^^ BitVec.ofInt k.bits b).toNat))
  | .andNot => some (.int k (k.wrap (BitVec.ofInt k.bits a &&& ~~~(BitVec.ofInt k.bits b)).toNat))
  | .eql => some (.bool (a == b))
  | .neq => some (.bool (a != b))
  | .lss => some (.bool (decide (a < b)))
  | .leq => some (.bool (decide (a ≤ b)))
  | .gtr => some (.bool (decide (a > b)))
  | .geq => some (.bool (decide (a ≥ b)))
  | .shl => bif decide (b < 0) then none else some (.int k (k.wrap (a * 2 ^ (Nat.min b.toNat k.bits))))
  | .shr => bif decide (b < 0) then none else some (.int k (a.fdiv (2 ^ (Nat.min b.toNat k.bits))))

def strOp (op : BinOp) (a b : List UInt8) : Option V :=
  match op with
  | .add => bif Nat.ble (a.length + b.length) (2 ^ 62) then some (.str (a ++ b)) else none
  | .eql => some (.bool (a == b))
  | .neq => some (.bool !(a == b))
  | .lss => some (.bool (Op.bytesLess a b))
  | .leq => some (.bool (Op.bytesLess a b || a == b))
  | .gtr => some (.bool !(Op.bytesLess a b || a == b))
  | .geq => some (.bool !(Op.bytesLess a b))
  | _ => none

def isShift : BinOp → Bool
  | .shl | .shr => true
  | _ => false

def binOp (op : BinOp) : V → V → Option V
  | .int k a, .int k' b => bif isShift op || k == k' then intOp op k a b else none
  | .str a, .str b => strOp op a b
  | _, _ => none

def eqOp : EK → V → V → Option Bool
  | .bool, .bool a, .bool b => some (a == b)
  | .ptr, .ptr none, .ptr x => some x.isNone
  | .ptr, .ptr (some _), .ptr none => some false
  | .ptr, .ptr (some a), .ptr (some b) => bif Nat.beq a.1 b.1 then some (Nat.beq a.2 b.2) else none
  | .slice, .slice none _ _, .slice x _ _ => some x.isNone
  | .slice, .slice (some _) _ _, .slice none _ _ => some false
  | .map, .map none, .map x => some x.isNone
  | .map, .map (some _), .map none => some false
  | .fn, .nilfn, .nilfn => some true
  | .fn, .clo _ _, .nilfn => some false
  | .fn, .bm _ _ _, .nilfn => some false
  | .fn, .nilfn, .clo _ _ => some false
  | .iface, .nili, .nili => some true
  | .iface, .nili, .iface _ _ => some false
  | .iface, .iface _ _, .nili => some false
  | .agg sh, .agg xs, .agg ys => cellsEq sh xs ys
  | _, _, _ => none

def unOp : UnOp → V → Option V
  | .neg, .int k n => some (.int k (k.wrap (0 - n)))
  | .xor, .int k n => intOp .xor k (if k.signed then -1 else k.max) n
  | .not, .bool b => some (.bool !b)
  | _, _ => none

/-- 0 ≤ n < m -/
def below (n : Int) (m : Nat) : Bool := match n with
  | .ofNat k => Nat.blt k m
  | .negSucc _ => false

/-- 0 ≤ n ≤ m -/
def upto (n : Int) (m : Nat) : Bool := match n with
  | .ofNat k => Nat.ble k m
  | .negSucc _ => false

def asInt : V → Option Int
  | .int _ n => some n
  | _ => none

def sB (v : V) (y : Nat) : Option Nat :=
  match asInt v with
  | some i => bif upto i y then some i.toNat else none
  | none => none

def slcM (cap : Nat) : Option V → Option Nat
  | some v => sB v cap
  | none => some cap

def slcH (len m : Nat) (three : Bool) : Option V → Option Nat
  | some v => sB v m
  | none => bif three then none else some len

def slcL (h : Nat) : Option V → Option Nat
  | some v => sB v h
  | none => some 0

def slcBounds (len cap : Nat) (lo hi mx : Option V) : Option (Nat × Nat × Nat) :=
  match slcM cap mx with
  | none => none
  | some m => match slcH len m mx.isSome hi with
    | none => none
    | some h => match slcL h lo with
      | none => none
      | some l => some (l, h, m)

def byteOf : V → Option UInt8
  | .int .u8 n => bif below n 256 then some (UInt8.ofNat n.toNat) else none
  | _ => none

def bytesOf : List V → Option (List UInt8)
  | [] => some []
  | v :: r => match byteOf v, bytesOf r with
    | some b, some l => some (b :: l)
    | _, _ => none

def byteV (b : UInt8) : V := .int .u8 b.toNat

/-- The cells of what is appended, or copied: its first n elements. -/
def srcCells (h : H) (sz n : Nat) : V → Option (List V)
  | .slice none _ _ => some []
  | .slice (some (b, o)) _ _ => bif n * sz == 0 then some [] else h.load b o (n * sz)
  | .str s => bif sz == 1 then some ((s.take n).map byteV) else none
  | _ => none

def lenOf : V → Option Nat
  | .slice _ n _ => some n
  | .str s => some s.length
  | _ => none

def newRow (h : H) (l : List V) (len : Nat) (cap : Cap) : V × H :=
  (.slice (some (h.nx, 0)) len cap, h.new (.cells l false))

def appendV (h : H) (sz bytes : Nat) (s x : V) : Option (V × H) :=
  match lenOf x with
  | none => none
  | some n =>
    match srcCells h sz n x with
    | none => none
    | some new =>
      match s with
      | .slice base len cap =>
        bif Nat.ble ((len + n) * bytes) (2 ^ 46) && Nat.ble (len + n) (2 ^ 46) then
          bif n == 0 then some (s, h) else
          match base, cap with
          | none, _ => some (newRow h new n (.grow sz))
          | some (b, o), .fix c =>
            bif Nat.ble (len + n) c then
              match h.store b (o + len * sz) new with
              | some h' => some (.slice base (len + n) cap, h')
              | none => none
            else
              match (bif len * sz == 0 then some [] else h.load b o (len * sz)) with
              | some old => some (newRow h (old ++ new) (len + n) (.grow sz))
              | none => none
          | some (b, o), .grow q =>
            match h.get b with
            | some (.cells l false) =>
              bif Nat.beq q sz && Nat.ble (o + len * sz) l.length && new.all V.one then
                some (newRow (h.kill b) ((l.drop o).take (len * sz) ++ new) (len + n) (.grow sz))
              else none
            | _ => none
        else none
      | _ => none

def copyV (h : H) (sz : Nat) (d s : V) : Option (V × H) :=
  match d, lenOf s with
  | .slice base len _, some k =>
    let n := Nat.min k len
    match srcCells h sz n s with
    | none => none
    | some l =>
      bif l.isEmpty then some (.int .i64 n, h) else
      match base with
      | none => none
      | some (b, o) => match h.store b o l with
        | some h' => some (.int .i64 n, h')
        | none => none
  | _, _ => none

def fillParts (cells : List V) : List (Nat × Nat × V) → Option (List V)
  | [] => some cells
  | (off, size, v) :: r =>
    let cs := v.cells
    bif cs.length == size && Nat.ble (off + size) cells.length then fillParts (setAll cells off cs) r else none

def findKey (ks : KS) (k : V) : List (V × V × Nat) → Nat → Option (Option (Nat × V × Nat))
  | [], _ => some none
  | (x, v, born) :: r, i =>
    match keyEq ks k x with
    | some true => some (some (i, v, born))
    | some false => findKey ks k r (i + 1)
    | none => none

/-- As findKey; the key must be of the map's kind. -/
def findK (ks : KS) (k : V) (es : List (V × V × Nat)) : Option (Option (Nat × V × Nat)) :=
  bif (keyEq ks k k).isSome then findKey ks k es 0 else none

def H.map? (h : H) (r : Nat) : Option (List (V × V × Nat) × Nat) :=
  match h.get r with
  | some (.map es c) => some (es, c)
  | _ => none

/-- The entries that a range has not told yet. -/
def unseen (seen : List Nat) (es : List (V × V × Nat)) : List (V × V × Nat) := es.filter fun e => !(seen.any fun b => Nat.beq b e.2.2)

/-- Is every entry newer than the last one that was told? (The model does not say what comes then.) -/
def allNew (seen : List Nat) (last : Nat) (es : List (V × V × Nat)) : Bool := !seen.isEmpty && !es.isEmpty && es.all fun e => Nat.ble last e.2.2

inductive Tgt where
  | fn (f : FuncId)
  | yld (l : Nat)
  deriving Inhabited

abbrev Call := Tgt → List V → H → Option (V × H)

def Opd.ev (e : Env) : Opd → Option V
  | .t s => e.get s
  | .c v => some v

def evs (e : Env) : List Opd → Option (List V)
  | [] => some []
  | x :: r => match x.ev e, evs e r with
    | some v, some l => some (v :: l)
    | _, _ => none

def evo (e : Env) : Option Opd → Option (Option V)
  | none => some none
  | some x => match x.ev e with
    | some v => some (some v)
    | none => none

def evParts (e : Env) : List (Nat × Nat × Opd) → Option (List (Nat × Nat × V))
  | [] => some []
  | (o, n, x) :: r => match x.ev e, evParts e r with
    | some v, some l => some ((o, n, v) :: l)
    | _, _ => none

def part (l : List V) (off : Nat) : Option Nat → Option V
  | none => l[off]?
  | some n => bif Nat.ble (off + n) l.length then some (.agg ((l.drop off).take n)) else none

def minV : V → V → Option V
  | .int k x, .int k' y => bif k == k' then some (.int k (if y < x then y else x)) else none
  | _, _ => none

def maxV : V → V → Option V
  | .int k x, .int k' y => bif k == k' then some (.int k (if y > x then y else x)) else none
  | _, _ => none

def foldV (f : V → V → Option V) : V → List V → Option V
  | a, [] => some a
  | a, x :: r => match f a x with
    | some v => foldV f v r
    | none => none

inductive Cls where
  | P | R | A | E
  deriving DecidableEq, Inhabited

/-- P: of its operands alone; R: reads memory; A: makes one block; E: all else. -/
def I.cls : I → Cls
  | .load1 .. => .R
  | .loadN .. => .R
  | .ofBytes .. => .R
  | .lookup .. => .R
  | .lenM .. => .R
  | .alloc .. => .A
  | .box .. => .A
  | .bslice .. => .A
  | .toBytes .. => .A
  | .mkMap => .A
  | .mkSlice .. => .A
  | .store .. => .E
  | .mput .. => .E
  | .mentry .. => .E
  | .mestore .. => .E
  | .mdel .. => .E
  | .range .. => .E
  | .next .. => .E
  | .entry _ => .R
  | .call .. => .E
  | .callv .. => .E
  | .callb .. => .E
  | .invoke .. => .E
  | .append .. => .E
  | .copy .. => .E
  | .mark _ => .E
  | _ => .P

def I.pure (e : Env) : I → Option V
  | .mv x => match x.ev e with
    | some v => some (v)
    | none => none
  | .pick c a b => match c.ev e with
    | some (.bool true) => match a.ev e with
      | some v => some (v)
      | none => none
    | some (.bool false) => match b.ev e with
      | some v => some (v)
      | none => none
    | _ => none
  | .build zero parts => match evParts e parts with
    | some ps => match fillParts zero ps with
      | some l => some (.agg l)
      | none => none
    | none => none
  | .nilck x => match x.ev e with
    | some (.ptr (some a)) => some (.ptr (some a))
    | some (.clo f c) => some (.clo f c)
    | some (.yld l) => some (.yld l)
    | some (.iface t v) => some (.iface t v)
    | _ => none
  | .mkBm name x => match x.ev e with
    | some (.iface t v) => some (.bm name t v)
    | _ => none
  | .nilckB name tbl x => match x.ev e with
    | some (.bm n t v) => bif n == name && tbl.any (fun p => p.1 == t) then some (.bm n t v) else none
    | _ => none
  | .bin op x y => match x.ev e, y.ev e with
    | some a, some b => match binOp op a b with
      | some v => some (v)
      | none => none
    | _, _ => none
  | .eq k neg x y => match x.ev e, y.ev e with
    | some a, some b => match eqOp k a b with
      | some r => some (.bool (bif neg then !r else r))
      | none => none
    | _, _ => none
  | .un op x => match x.ev e with
    | some a => match unOp op a with
      | some v => some (v)
      | none => none
    | none => none
  | .convInt k x => match x.ev e with
    | some (.int _ n) => some (.int k (k.wrap n))
    | _ => none
  | .convStr x => match x.ev e with
    | some (.str s) => some (.str s)
    | _ => none
  | .mkIface t x => match x.ev e with
    | some v => some (.iface t v)
    | none => none
  | .mkClo f cap => match evs e cap with
    | some l => some (.clo f l)
    | none => none
  | .sliceS x lo hi => match x.ev e, evo e lo, evo e hi with
    | some (.str s), some lo, some hi => match slcBounds s.length s.length lo hi none with
      | some (l, r, _) => some (.str ((s.take r).drop l))
      | none => none
    | _, _, _ => none
  | .slice sz x lo hi mx => match x.ev e, evo e lo, evo e hi, evo e mx with
    | some (.slice a len cap), some lo, some hi, some mx => match slcBounds len (cap.room len) lo hi mx with
      | some (l, r, m) =>
        match a with
        | none => some (.slice none 0 (.fix 0))
        | some (b, o) => match cap, mx with
          | .grow q, none => bif Nat.beq q sz then some (.slice (some (b, o + l * sz)) (r - l) (.grow q)) else none
          | _, _ => some (.slice (some (b, o + l * sz)) (r - l) (.fix (m - l)))
      | none => none
    | _, _, _, _ => none
  | .sliceA n sz x lo hi mx => match x.ev e, evo e lo, evo e hi, evo e mx with
    | some (.ptr (some (b, o))), some lo, some hi, some mx => match slcBounds n n lo hi mx with
      | some (l, r, m) => some (.slice (some (b, o + l * sz)) (r - l) (.fix (m - l)))
      | none => none
    | _, _, _, _ => none
  | .faddr off x => match x.ev e with
    | some (.ptr (some (b, o))) => some (.ptr (some (b, o + off)))
    | _ => none
  | .field off n x => match x.ev e with
    | some (.agg l) => match part l off n with
      | some v => some (v)
      | none => none
    | _ => none
  | .ixaA len sz x i => match x.ev e, i.ev e with
    | some (.ptr (some (b, o))), some (.int _ n) => bif below n len then some (.ptr (some (b, o + n.toNat * sz))) else none
    | _, _ => none
  | .ixaS sz x i => match x.ev e, i.ev e with
    | some (.slice (some (b, o)) len _), some (.int _ n) => bif below n len then some (.ptr (some (b, o + n.toNat * sz))) else none
    | _, _ => none
  | .ixA len sz n x i => match x.ev e, i.ev e with
    | some (.agg l), some (.int _ k) => bif below k len then
        match part l (k.toNat * sz) n with
        | some v => some (v)
        | none => none
      else none
    | _, _ => none
  | .ixStr x i => match x.ev e, i.ev e with
    | some (.str s), some (.int _ n) => bif below n s.length then
        match s[n.toNat]? with
        | some b => some (byteV b)
        | none => none
      else none
    | _, _ => none
  | .tassert t zero ok x => match x.ev e with
    | some (.iface u v) => bif u == t then some (if ok then .tup [v, .bool true] else v) else if ok then some (.tup [zero, .bool false]) else none
    | some .nili => if ok then some (.tup [zero, .bool false]) else none
    | _ => none
  | .lenS x => match x.ev e with
    | some (.str s) => some (.int .i64 s.length)
    | _ => none
  | .lenL x => match x.ev e with
    | some (.slice _ n _) => some (.int .i64 n)
    | _ => none
  | .extract x i => match x.ev e with
    | some (.tup l) => match l[i]? with
      | some v => some (v)
      | none => none
    | _ => none
  | .minI xs => match evs e xs with
    | some (a :: r) => match foldV minV a r with
      | some v => some (v)
      | none => none
    | _ => none
  | .maxI xs => match evs e xs with
    | some (a :: r) => match foldV maxV a r with
      | some v => some (v)
      | none => none
    | _ => none
  | _ => none

def I.read (e : Env) (h : H) : I → Option V
  | .load1 a => match a.ev e with
    | some (.ptr (some (b, o))) => match h.load1 b o with
      | some v => some (v)
      | none => none
    | _ => none
  | .loadN n a => match a.ev e with
    | some (.ptr (some (b, o))) => match h.load b o n with
      | some l => some (.agg l)
      | none => none
    | _ => none
  | .ofBytes x => match x.ev e with
    | some (.slice none _ _) => some (.str [])
    | some (.slice (some (b, o)) n _) => bif n == 0 then some (.str []) else
      match h.load b o n with
      | some l => match bytesOf l with
        | some s => some (.str s)
        | none => none
      | none => none
    | _ => none
  | .lookup ks zero ok m k => match m.ev e, k.ev e with
    | some (.map none), some k => match findK ks k [] with
      | some _ => some (if ok then .tup [zero, .bool false] else zero)
      | none => none
    | some (.map (some r)), some k => match h.map? r with
      | some (es, _) => match findK ks k es with
        | some (some (_, v, _)) => some (if ok then .tup [v, .bool true] else v)
        | some none => some (if ok then .tup [zero, .bool false] else zero)
        | none => none
      | none => none
    | _, _ => none
  | .lenM x => match x.ev e with
    | some (.map none) => some (.int .i64 0)
    | some (.map (some r)) => match h.map? r with
      | some (es, _) => some (.int .i64 es.length)
      | none => none
    | _ => none
  | .entry x => match x.ev e with
    | some (.ptr (some (b, 0))) => match h.get b with
      | some (.iter (some r) _ seen last) => match h.map? r, seen.getLast? with
        | some (es, c), some st => bif Nat.beq c last then
            match es.find? (fun x => Nat.beq x.2.2 st) with
            | some (k, v, _) => some (.tup [k, v])
            | none => none
          else none
        | _, _ => none
      | _ => none
    | _ => none
  | _ => none

/-- The new block, and what names it. -/
def I.make (e : Env) : I → Option (Obj × (Nat → V))
  | .alloc sz zero => some (.cells zero false, fun b => .ptr (some (b, 0)))
  | .box sz x => match x.ev e with
    | some v => some (.cells v.cells false, fun b => .ptr (some (b, 0)))
    | none => none
  | .bslice sz len zero parts => match evParts e (parts.map fun p => (p.1 * sz, sz, p.2)) with
    | some ps => match fillParts zero ps with
      | some l => some (.cells l false, fun b => .slice (some (b, 0)) len (.fix len))
      | none => none
    | none => none
  | .toBytes x => match x.ev e with
    | some (.str s) => bif Nat.ble s.length (2 ^ 46) then some (.cells (s.map byteV) false, fun b => .slice (some (b, 0)) s.length (.grow 1)) else none
    | _ => none
  | .mkMap => some (.map [] 0, fun b => .map (some b))
  | .mkSlice sz bytes zero len cap => match len.ev e, cap.ev e with
    | some (.int _ (.ofNat l)), some (.int _ (.ofNat c)) =>
      bif Nat.ble l c && Nat.ble (c * bytes) (2 ^ 46) && Nat.ble c (2 ^ 46) then some (.cells (List.replicate c zero).flatten false, fun b => .slice (some (b, 0)) l (.fix c)) else none
    | _, _ => none
  | _ => none

def I.eff (call : Call) (e : Env) (h : H) : I → Option (V × H)
  | .store n a x => match a.ev e, x.ev e with
    | some (.ptr (some (b, o))), some v =>
      bif v.cells.length == n then
        match h.store b o v.cells with
        | some h' => some (.undef, h')
        | none => none
      else none
    | _, _ => none
  | .mput ks m k v => match m.ev e, k.ev e, v.ev e with
    | some (.map (some r)), some k, some v => match h.map? r with
      | some (es, c) => match findK ks k es with
        | some (some (i, _, born)) => some (.undef, h.set r (.map (es.set i (k, v, born)) c))
        | some none => some (.undef, h.set r (.map (es ++ [(k, v, c)]) (c + 1)))
        | none => none
      | none => none
    | _, _, _ => none
  | .mentry ks zero m k => match m.ev e, k.ev e with
    | some (.map (some r)), some k => match h.map? r with
      | some (es, c) => match findK ks k es with
        | some (some (i, v, born)) => some (.tup [v, .int .i64 born], h.set r (.map (es.set i (k, v, born)) c))
        | some none => some (.tup [zero, .int .i64 c], h.set r (.map (es ++ [(k, zero, c)]) (c + 1)))
        | none => none
      | none => none
    | _, _ => none
  | .mestore m s v => match m.ev e, s.ev e, v.ev e with
    | some (.map (some r)), some (.int _ st), some v => match h.map? r with
      | some (es, c) => match es.findIdx? (fun x => (x.2.2 : Int) == st) with
        | some i => match es[i]? with
          | some x => some (.undef, h.set r (.map (es.set i (x.1, v, x.2.2)) c))
          | none => none
        | none => none
      | none => none
    | _, _, _ => none
  | .mdel ks m k => match m.ev e, k.ev e with
    | some (.map none), some k => match findK ks k [] with
      | some _ => some (.undef, h)
      | none => none
    | some (.map (some r)), some k => match h.map? r with
      | some (es, c) => match findK ks k es with
        | some (some (i, _, _)) => some (.undef, h.set r (.map (es.eraseIdx i) c))
        | some none => some (.undef, h)
        | none => none
      | none => none
    | _, _ => none
  | .range str x => match str, x.ev e with
    | true, some (.str s) => some (.ptr (some (h.nx, 0)), h.new (.siter s 0))
    | false, some (.map none) => some (.ptr (some (h.nx, 0)), h.new (.iter none 0 [] 0))
    | false, some (.map (some r)) => match h.map? r with
      | some (_, c) => some (.ptr (some (h.nx, 0)), h.new (.iter (some r) c [] c))
      | none => none
    | _, _ => none
  | .next str x => match x.ev e with
    | some (.ptr (some (b, 0))) => match str, h.get b with
      | true, some (.siter s pos) => match s[pos]? with
        | none => some (.tup [.bool false], h)
        | some c => bif Nat.blt c.toNat 128 then some (.tup [.bool true, .i pos, .int .i32 c.toNat], h.set b (.siter s (pos + 1))) else none
      | false, some (.iter none _ _ _) => some (.tup [.bool false], h)
      | false, some (.iter (some r) since seen last) => match h.map? r with
        | some (es, c) => bif allNew seen last es then none else
          match unseen seen es with
          | [] => some (.tup [.bool false], h)
          | [(k, v, born)] => bif Nat.blt born since then some (.tup [.bool true, k, v], h.set b (.iter (some r) since (seen ++ [born]) c)) else none
          | _ => none
        | none => none
      | _, _ => none
    | _ => none
  | .call f args => match evs e args with
    | some l => call (.fn f) l h
    | none => none
  | .callv x args => match x.ev e, evs e args with
    | some (.clo f cap), some l => call (.fn f) (l ++ cap) h
    | some (.yld r), some l => call (.yld r) l h
    | _, _ => none
  | .callb ms x args => match x.ev e, evs e args with
    | some (.clo f cap), some l => call (.fn f) (l ++ cap) h
    | some (.yld r), some l => call (.yld r) l h
    | some (.bm n t v), some l => match ms.find? (fun p => p.1 == n) with
      | some (_, tbl) => match tbl.find? (fun p => p.1 == t) with
        | some (_, f) => call (.fn f) (v :: l) h
        | none => none
      | none => none
    | _, _ => none
  | .invoke tbl x args => match x.ev e, evs e args with
    | some (.iface t v), some l => match tbl.find? (fun p => p.1 == t) with
      | some (_, f) => call (.fn f) (v :: l) h
      | none => none
    | _, _ => none
  | .append sz bytes x y => match x.ev e, y.ev e with
    | some a, some b => appendV h sz bytes a b
    | _, _ => none
  | .copy sz x y => match x.ev e, y.ev e with
    | some a, some b => copyV h sz a b
    | _, _ => none
  | .mark x => match x.ev e with
    | some (.slice (some (b, o)) n c) => match h.get b with
      | some (.cells _ false) => bif Nat.ble 1 n then some (.slice (some (b, o)) n c, h) else none
      | _ => none
    | _ => none
  | _ => none

/-- One instruction. -/
def I.run (call : Call) (e : Env) (h : H) (at_ : Option Nat) (i : I) : Option (V × H) :=
  match i.cls with
  | .P => match i.pure e with
    | some v => some (v, h)
    | none => none
  | .R => match i.read e h with
    | some v => some (v, h)
    | none => none
  | .A => match i.make e with
    | some (o, mk) => match at_ with
      | none => some (mk h.nx, h.new o)
      | some b => some (mk b, h.set b o)
    | none => none
  | .E => i.eff call e h

/-- Does the guard let it run? -/
def wanted (e : Env) : Option (Nat × Bool) → Bool
  | none => true
  | some (j, want) => match e.get j with
    | some (.bool b) => b == want
    | _ => false

def layv (e : Env) (dst : Option Nat) (v : V) : Env :=
  match dst with
  | some d => (d, v) :: e
  | none => e

mutual
def V.same : V → V → Bool
  | .bool a, .bool b => a == b
  | .int k a, .int k' b => k == k' && a == b
  | .str a, .str b => a == b
  | .ptr none, .ptr none => true
  | .ptr (some a), .ptr (some b) => Nat.beq a.1 b.1 && Nat.beq a.2 b.2
  | .slice none n c, .slice none m d => Nat.beq n m && c == d
  | .slice (some a) n c, .slice (some b) m d => Nat.beq a.1 b.1 && Nat.beq a.2 b.2 && Nat.beq n m && c == d
  | .map a, .map b => a == b
  | .clo f a, .clo g b => Nat.beq f g && V.sames a b
  | .yld a, .yld b => Nat.beq a b
  | .nilfn, .nilfn => true
  | .bm n t a, .bm k u b => n == k && Nat.beq t u && V.same a b
  | .iface t a, .iface u b => Nat.beq t u && V.same a b
  | .nili, .nili => true
  | .agg a, .agg b => V.sames a b
  | .tup a, .tup b => V.sames a b
  | _, _ => false
def V.sames : List V → List V → Bool
  | [], [] => true
  | a :: r, b :: s => V.same a b && V.sames r s
  | _, _ => false
end

/-- Loads, asked again: the same. -/
def chkAll (e : Env) (h : H) : List (Nat × I × Option (Nat × Bool)) → Bool
  | [] => true
  | (d, i, g) :: r =>
    (bif wanted e g then
      match i.read e h, e.get d with
      | some v, some u => V.same v u
      | _, _ => false
    else true) && chkAll e h r

def runOps (call : Call) (base : Nat) : List Ins → Env → H → Option (Env × H)
  | [], e, h => some (e, h)
  | s :: r, e, h =>
    bif wanted e s.guard then
      match s.i.run call e h (s.at_.map (base + ·)) with
      | some (v, h') => bif chkAll e h' s.chk then runOps call base r (layv e s.dst v) h' else none
      | none => none
    else runOps call base r (layv e s.dst .undef) h

/-- Reserves n blocks. -/
def H.reserve (h : H) (n : Nat) : H := { nx := h.nx + n, t := h.t }

abbrev Res := Option (Ex × Env × H)

def iter (body : Env → H → Res) (live : List Nat) : Nat → Env → H → Res
  | 0, _, _ => none
  | n + 1, e, h =>
    match body (e.only live) h with
    | some (.normal, e', h') => iter body live n e' h'
    | r => r

def putArgs : Env → List Nat → List V → Option Env
  | e, [], [] => some e
  | e, s :: r, v :: l => putArgs (e.put s v) r l
  | _, _, _ => none

/-- Code; 'fuel': rounds of each loop. -/
def D (call : Call) (fuel : Nat) : AC → Env → H → Res
  | .skip, e, h => some (.normal, e, h)
  | .label _, e, h => some (.normal, e, h)
  | .region res ops keep, e, h =>
    match runOps call h.nx ops e (h.reserve res) with
    | some (e', h') => some (.normal, e'.only keep, h')
    | none => none
  | .seq a b, e, h =>
    match D call fuel a e h with
    | some (.normal, e', h') => D call fuel b e' h'
    | r => r
  | .cond c a b, e, h =>
    match c.ev e with
    | some (.bool true) => D call fuel a e h
    | some (.bool false) => D call fuel b e h
    | _ => none
  | .block id body, e, h =>
    match D call fuel body e h with
    | some (.exit id', e', h') => bif id' == id then some (.normal, e', h') else some (.exit id', e', h')
    | r => r
  | .loop live body, e, h => iter (D call fuel body) live fuel e h
  | .rangeFunc f params live assign body, e, h =>
    match f.ev e with
    | some (.clo g cap) =>
      match call (.fn g) (.yld h.nx :: cap) (h.new (.loop .ready none params (e.only live) assign body)) with
      | some (_, h') =>
        match h'.get h.nx with
        | some (.loop st pend _ _ _ _) =>
          match st with
          | .busy => none
          | _ => match pend with
            | none => some (.normal, e, h'.kill h.nx)
            | some ex => some (ex, e, h'.kill h.nx)
        | _ => none
      | none => none
    | _ => none
  | .exit id, e, h => some (.exit id, e, h)
  | .ret, e, h => some (.ret, e, h)
  | .scope body, e, h => D call fuel body e h

def resOf (e : Env) (h : H) : List RV → Option (List V)
  | [] => some []
  | r :: rs =>
    match (match r with
      | .tmp s => e.get s
      | .cell1 s => match e.get s with
        | some (.ptr (some (b, o))) => h.load1 b o
        | _ => none
      | .cellN s n => match e.get s with
        | some (.ptr (some (b, o))) => match h.load b o n with
          | some l => some (.agg l)
          | none => none
        | _ => none), resOf e h rs with
    | some v, some l => some (v :: l)
    | _, _ => none

def packRes : List V → V
  | [v] => v
  | l => .tup l

/-- A function's body. -/
def runFn (call : Call) (fuel : Nat) (fn : AFn) (args : List V) (h : H) : Option (V × H) :=
  bif args.length == fn.np then
    match D call fuel fn.body (Env.ofArgs args 0) h with
    | some (.exit _, _, _) => none
    | some (_, e, h') => match resOf e h' fn.res with
      | some l => some (packRes l, h')
      | none => none
    | none => none
  else none

/-- A round of a range over a function. -/
def runRound (call : Call) (fuel : Nat) (l : Nat) (args : List V) (h : H) : Option (V × H) :=
  match h.get l with
  | some (.loop _ _ params env assign body) =>
    match putArgs env params args with
    | none => none
    | some e0 =>
      match D call fuel assign e0 h with
      | some (.normal, e1, h1) =>
        match h1.get l with
        | some (.loop .ready p ps en a b) =>
          match D call fuel body e1 (h1.set l (.loop .busy p ps en a b)) with
          | some (ex, _, h3) =>
            match h3.get l with
            | some (.loop _ _ ps' en' a' b') =>
              match ex with
              | .normal => some (.bool true, h3.set l (.loop .ready none ps' en' a' b'))
              | ex => some (.bool false, h3.set l (.loop .done (some ex) ps' en' a' b'))
            | _ => none
          | none => none
        | _ => none
      | _ => none
  | _ => none

abbrev Prim := List V → H → Option (V × H)

structure Prog where
  fns : List (FuncId × AFn)
  prims : List (FuncId × Prim)

def assoc {α : Type} : List (Nat × α) → Nat → Option α
  | [], _ => none
  | (k, v) :: r, s => bif Nat.beq k s then some v else assoc r s

def callN (P : Prog) (fuel : Nat) : Nat → Call
  | 0, _, _, _ => none
  | n + 1, .fn f, args, h =>
    match assoc P.prims f with
    | some p => p args h
    | none => match assoc P.fns f with
      | some fn => runFn (callN P fuel n) fuel fn args h
      | none => none
  | n + 1, .yld l, args, h => runRound (callN P fuel n) fuel l args h

end Am
