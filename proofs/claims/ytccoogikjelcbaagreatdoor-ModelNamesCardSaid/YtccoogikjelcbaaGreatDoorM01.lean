/- Our own library, part 1. -/
import GoSem.Dispatch
set_option maxHeartbeats 8000000
set_option maxRecDepth 800
set_option linter.all false
universe u
abbrev za:=@List.getElem?_eq_getElem.{u}
abbrev zc:=@List.getElem?_eq_none.{u}
abbrev zd:=@List.getElem?_append.{u}
abbrev ze:=@List.length_append.{u}
abbrev zf:=@List.take_of_length_le.{u}
abbrev zh:=@List.mem_cons_self.{u}
abbrev zi:=@List.drop_zero.{u}
abbrev zj:=@List.mem_cons_of_mem.{u}
abbrev zk:=@List.getElem?_drop.{u}
abbrev zl:=@List.length_eq_zero_iff.{u}
abbrev zm:=@Bool.and_eq_true
abbrev zn:=@Nat.le_refl
abbrev zo:=@Nat.lt_of_lt_of_le
abbrev zp:=@Nat.le_of_ble_eq_true
abbrev zr:=@Nat.lt_or_ge
abbrev zu:=@Nat.le_trans
abbrev zb:=@if_neg.{u}
abbrev zg:=@if_pos.{u}
abbrev zq:=@decide_eq_true_eq
abbrev zt:=@cond_eq_ite.{u}
abbrev zw:=@absurd.{u}
abbrev zx:=@List.getElem?_take.{u}
abbrev zy:=@List.mem_append.{u}
abbrev zz:=@Nat.zero_add
abbrev zA:=@Nat.ble_eq
abbrev zB:=@Bool.false_eq_true
abbrev zC:=@List.all_eq_true.{u}
abbrev zD:=@Array.getElem?_eq_none.{u}
abbrev zE:=@List.mem_cons.{u}
namespace Am
open Go
theorem om {P:Prop} (k:P:=by omega):P:=k
theorem Za {P:Prop} (k:P:=by simp;omega):P:=k
theorem Zb {P:Prop} (k:P:=by simp):P:=k
inductive Cap where
 | fix (k:Nat)
 | grow (sz:Nat)
 | least (sz k:Nat)
 deriving DecidableEq,Inhabited
inductive V where
 | bool (b:Bool)
 | int (k:IntKind) (n:Int)
 | str (s:List UInt8)
 | ptr (a:Option (Nat × Nat))
 | slice (a:Option (Nat × Nat)) (len:Nat) (cap:Cap)
 | map (r:Option Nat)
 | clo (f:FuncId) (cap:List V)
 | yld (l:Nat)
 | nilfn
 | bm (name:String) (t:TypeId) (v:V)
 | bcl (f:FuncId) (v:V)
 | iface (t:TypeId) (v:V)
 | nili
 | ifc
 | agg (l:List V)
 | tup (l:List V)
 deriving Inhabited
def Cap.room:Cap->Nat->Nat
 | .fix k,_=>k
 | .grow _,len=>len
 | .least _ k,_=>k
abbrev V.i (n:Int):V := .int .i64 n
abbrev V.nil:V := .ptr none
abbrev V.nils:V := .slice none 0 (.fix 0)
abbrev V.p (b o:Nat):V := .ptr (some (b,o))
abbrev V.undef:V := .tup []
def V.cells:V->List V
 | .agg l=>l
 | v=>[v]
inductive Opd where
 | t (s:Nat)
 | c (v:V)
 deriving Inhabited
inductive LK where
 | bool | int (k:IntKind) | str
 deriving DecidableEq,Inhabited
inductive EK where
 | bool | ptr | slice | map | fn | iface | agg (sh:List LK)
 deriving DecidableEq,Inhabited
inductive KS where
 | leaf (k:LK) | agg (sh:List LK)
 deriving DecidableEq,Inhabited
abbrev MT:=List (String × List (TypeId × FuncId))
inductive I where
 | mv (x:Opd)
 | recap (up:Bool) (x:Opd)
 | pick (c a b:Opd)
 | alloc (sz:Nat) (zero:List V)
 | box (sz:Nat) (x:Opd)
 | build (zero:List V) (parts:List (Nat × Nat × Opd))
 | bslice (sz len:Nat) (zero:List V) (parts:List (Nat × Opd))
 | load1 (a:Opd)
 | loadN (n:Nat) (a:Opd)
 | store (n:Nat) (a v:Opd)
 | nilck (x:Opd)
 | mkBm (name:String) (x:Opd)
 | mkBcl (f:FuncId) (x:Opd)
 | nilckB (name:String) (tbl:List (TypeId × FuncId)) (x:Opd)
 | bin (op:BinOp) (x y:Opd)
 | eq (k:EK) (neg:Bool) (x y:Opd)
 | un (op:UnOp) (x:Opd)
 | convInt (k:IntKind) (x:Opd)
 | toBytes (x:Opd)
 | ofBytes (x:Opd)
 | mark (x:Opd)
 | fail
 | mkIface (t:TypeId) (x:Opd)
 | mkClo (f:FuncId) (cap:List Opd)
 | mkMap
 | mkSlice (sz bytes:Nat) (zero:List V) (len cap:Opd)
 | sliceS (x:Opd) (lo hi:Option Opd)
 | slice (sz:Nat) (x:Opd) (lo hi mx:Option Opd)
 | faddr (off:Nat) (x:Opd)
 | field (off:Nat) (n:Option Nat) (x:Opd)
 | ixaA (len sz:Nat) (x i:Opd)
 | ixaS (sz:Nat) (x i:Opd)
 | ixA (len sz:Nat) (n:Option Nat) (x i:Opd)
 | ixStr (x i:Opd)
 | lookup (ks:KS) (zero:V) (ok:Bool) (m k:Opd)
 | mput (ks:KS) (m k v:Opd)
 | mdel (ks:KS) (m k:Opd)
 | extract (x:Opd) (i:Nat)
 | call (f:FuncId) (args:List Opd)
 | callv (x:Opd) (args:List Opd)
 | callb (ms:MT) (x:Opd) (args:List Opd)
 | invoke (tbl:List (TypeId × FuncId)) (x:Opd) (args:List Opd)
 | lenS (x:Opd)
 | lenL (x:Opd)
 | append (sz bytes:Nat) (x y:Opd)
 | copy (sz:Nat) (x y:Opd)
 | clear (zero:List V) (x:Opd)
 | minI (xs:List Opd)
 | maxI (xs:List Opd)
 deriving Inhabited
structure Ins where
 ix:Nat
 dst:Option Nat
 i:I
 guard:Option (Nat × Bool)
 at_:Option Nat
 chk:List (Nat × I × Option (Nat × Bool))
 deriving Inhabited
abbrev Ins.mk4 (ix:Nat) (dst:Option Nat) (i:I) (guard:Option (Nat × Bool)):Ins:=⟨ix,dst,i,guard,none,[]⟩
inductive AC where
 | skip
 | region (res:Nat) (ops:List Ins) (keep:List Nat)
 | seq (a b:AC)
 | cond (c:Opd) (a b:AC)
 | block (id:Nat) (body:AC)
 | loop (live:List Nat) (body:AC)
 | rangeFunc (f:Opd) (params:List Nat) (live:List Nat) (assign body:AC)
 | exit (id:Nat)
 | ret
 | scope (body:AC)
 | label (l:Nat)
 deriving Inhabited
inductive Ex where
 | normal
 | exit (id:Nat)
 | ret
 deriving DecidableEq,Inhabited
inductive RV where
 | tmp (s:Nat)
 | cell1 (s:Nat)
 | cellN (s n:Nat)
 deriving Inhabited
structure AFn where
 np:Nat
 nt:Nat
 res:List RV
 body:AC
 deriving Inhabited
abbrev Env:=List (Nat × V)
def Env.get:Env->Nat->Option V
 | [],_=>none
 | (k,v) :: r,s=>bif Nat.beq k s then some v else Env.get r s
def Env.put:Env->Nat->V->Env
 | [],s,v=>[(s,v)]
 | (k,w) :: r,s,v=>bif Nat.beq k s then (k,v) :: r else (k,w) :: Env.put r s v
def Env.only (e:Env):List Nat->Env
 | []=>[]
 | s :: r=>match e.get s with
  | some v=>(s,v) :: Env.only e r
  | none=>Env.only e r
def Env.ofArgs:List V->Nat->Env
 | [],_=>[]
 | v :: r,n=>(n,v) :: Env.ofArgs r (n+1)
inductive Obj where
 | cells (l:List V) (ro:Bool)
 | map (es:List (V × V × Nat)) (clock:Nat)
 | loop (st:LoopState) (pend:Option Ex) (params:List Nat) (env:Env) (assign body:AC)
 | iter (mp:Option Nat) (since:Nat) (seen:List Nat) (last:Nat)
 | siter (s:List UInt8) (pos:Nat)
 deriving Inhabited
def Obj.ro:Obj->Bool
 | .cells _ r=>r
 | _=>false
inductive T where
 | lf
 | nd (v:Option Obj) (l r:T)
 deriving Inhabited
def T.get:T->Nat->Option Obj
 | .lf,_=>none
 | .nd v l r,k=>bif Nat.beq k 0 then v else bif Nat.beq (k%2) 1 then l.get (k/2) else r.get (k/2-1)
def T.set:Nat->T->Nat->Option Obj->T
 | 0,t,_,_=>t
 | f+1,t,k,o=>
  match t with
  | .lf=>bif Nat.beq k 0 then .nd o .lf .lf else bif Nat.beq (k%2) 1 then .nd none (T.set f .lf (k/2) o) .lf else .nd none .lf (T.set f .lf (k/2-1) o)
  | .nd v l r=>bif Nat.beq k 0 then .nd o l r else bif Nat.beq (k%2) 1 then .nd v (T.set f l (k/2) o) r else .nd v l (T.set f r (k/2-1) o)
structure H where
 nx:Nat
 t:T
 deriving Inhabited
def H.get (h:H) (b:Nat):Option Obj:=h.t.get b
def H.upd (h:H) (b:Nat) (o:Option Obj):H := { nx:=h.nx,t:=h.t.set (b+1) b o }
def H.set (h:H) (b:Nat) (o:Obj):H:=h.upd b (some o)
def H.kill (h:H) (b:Nat):H:=h.upd b none
def H.new (h:H) (o:Obj):H := { nx:=h.nx+1,t:=h.t.set (h.nx+1) h.nx (some o) }
def V.one:V->Bool
 | .agg _ | .tup _=>false
 | _=>true
def jca:List V->Nat->List V->List V
 | vs,_,[]=>vs
 | vs,o,x :: r=>jca (vs.set o x) (o+1) r
def H.load (h:H) (b o n:Nat):Option (List V) :=
 match h.get b with
 | some (.cells l _)=>bif Nat.ble (o+n) l.length then some ((l.drop o).take n) else none
 | _=>none
def H.load1 (h:H) (b o:Nat):Option V :=
 match h.get b with
 | some (.cells l _)=>l[o]?
 | _=>none
def H.store (h:H) (b o:Nat) (vs:List V):Option H :=
 match h.get b with
 | some (.cells l false)=>bif Nat.ble (o+vs.length) l.length&&vs.all V.one then some (h.set b (.cells (jca l o vs) false)) else none
 | _=>none
def jfh:LK->V->V->Option Bool
 | .bool,.bool a,.bool b=>some (a == b)
 | .int k,.int k1 a,.int k2 b=>bif k1 == k&&k2 == k then some (a == b) else none
 | .str,.str a,.str b=>some (a == b)
 | _,_,_=>none
def jat:List LK->List V->List V->Option Bool
 | [],[],[]=>some true
 | k :: t,a :: r,b :: s=>match jfh k a b,jat t r s with
  | some x,some y=>some (x&&y)
  | _,_=>none
 | _,_,_=>none
def jeI:KS->V->V->Option Bool
 | .leaf k,a,b=>jfh k a b
 | .agg sh,.agg a,.agg b=>jat sh a b
 | _,_,_=>none
def jbi (op:BinOp) (k:IntKind) (a b:Int):Option V :=
 match op with
 | .add=>some (.int k (k.wrap (a+b)))
 | .sub=>some (.int k (k.wrap (a-b)))
 | .mul=>some (.int k (k.wrap (a*b)))
 | .quo=>bif b == 0 then none else some (.int k (k.wrap (a.tdiv b)))
 | .rem=>bif b == 0 then none else some (.int k (a.tmod b))
 | .and=>some (.int k (k.wrap (BitVec.ofInt k.bits a &&& BitVec.ofInt k.bits b).toNat))
 | .or=>some (.int k (k.wrap (BitVec.ofInt k.bits a ||| BitVec.ofInt k.bits b).toNat))
 | .xor=>some (.int k (k.wrap (BitVec.ofInt k.bits a ^^^ BitVec.ofInt k.bits b).toNat))
 | .andNot=>some (.int k (k.wrap (BitVec.ofInt k.bits a &&& ~~~(BitVec.ofInt k.bits b)).toNat))
 | .eql=>some (.bool (a == b))
 | .neq=>some (.bool (a != b))
 | .lss=>some (.bool (decide (a<b)))
 | .leq=>some (.bool (decide (a<=b)))
 | .gtr=>some (.bool (decide (a>b)))
 | .geq=>some (.bool (decide (a>=b)))
 | .shl=>bif decide (b<0) then none else some (.int k (k.wrap (a*2 ^ (Nat.min b.toNat k.bits))))
 | .shr=>bif decide (b<0) then none else some (.int k (a.fdiv (2 ^ (Nat.min b.toNat k.bits))))
def jmZ (op:BinOp) (a b:List UInt8):Option V :=
 match op with
 | .add=>bif Nat.ble (a.length+b.length) (2 ^ 62) then some (.str (a++b)) else none
 | .eql=>some (.bool (a == b))
 | .neq=>some (.bool !(a == b))
 | .lss=>some (.bool (Op.bytesLess a b))
 | .leq=>some (.bool (Op.bytesLess a b||a == b))
 | .gtr=>some (.bool !(Op.bytesLess a b||a == b))
 | .geq=>some (.bool !(Op.bytesLess a b))
 | _=>none
def jbe:BinOp->Bool
 | .shl | .shr=>true
 | _=>false
def binOp (op:BinOp):V->V->Option V
 | .int k a,.int k' b=>bif jbe op||k == k' then jbi op k a b else none
 | .str a,.str b=>jmZ op a b
 | _,_=>none
def eqOp:EK->V->V->Option Bool
 | .bool,.bool a,.bool b=>some (a == b)
 | .ptr,.ptr none,.ptr x=>some x.isNone
 | .ptr,.ptr (some _),.ptr none=>some false
 | .ptr,.ptr (some a),.ptr (some b)=>bif Nat.beq a.1 b.1 then some (Nat.beq a.2 b.2) else none
 | .slice,.slice none _ _,.slice x _ _=>some x.isNone
 | .slice,.slice (some _) _ _,.slice none _ _=>some false
 | .map,.map none,.map x=>some x.isNone
 | .map,.map (some _),.map none=>some false
 | .fn,.nilfn,.nilfn=>some true
 | .fn,.clo _ _,.nilfn=>some false
 | .fn,.bm _ _ _,.nilfn=>some false
 | .fn,.bcl _ _,.nilfn=>some false
 | .fn,.nilfn,.clo _ _=>some false
 | .iface,.nili,.nili=>some true
 | .iface,.nili,.iface _ _=>some false
 | .iface,.iface _ _,.nili=>some false
 | .iface,.ifc,.nili=>some false
 | .iface,.nili,.ifc=>some false
 | .agg sh,.agg xs,.agg ys=>jat sh xs ys
 | _,_,_=>none
def unOp:UnOp->V->Option V
 | .neg,.int k n=>some (.int k (k.wrap (0-n)))
 | .xor,.int k n=>jbi .xor k (if k.signed then -1 else k.max) n
 | .not,.bool b=>some (.bool !b)
 | _,_=>none
def below (n:Int) (m:Nat):Bool:=match n with
 | .ofNat k=>Nat.blt k m
 | .negSucc _=>false
def upto (n:Int) (m:Nat):Bool:=match n with
 | .ofNat k=>Nat.ble k m
 | .negSucc _=>false
def asInt:V->Option Int
 | .int _ n=>some n
 | _=>none
def sB (v:V) (y:Nat):Option Nat :=
 match asInt v with
 | some i=>bif upto i y then some i.toNat else none
 | none=>none
def slcM (cap:Nat):Option V->Option Nat
 | some v=>sB v cap
 | none=>some cap
def slcH (len m:Nat) (three:Bool):Option V->Option Nat
 | some v=>sB v m
 | none=>bif three then none else some len
def slcL (h:Nat):Option V->Option Nat
 | some v=>sB v h
 | none=>some 0
def jbK (len cap:Nat) (lo hi mx:Option V):Option (Nat × Nat × Nat) :=
 match slcM cap mx with
 | none=>none
 | some m=>match slcH len m mx.isSome hi with
  | none=>none
  | some h=>match slcL h lo with
   | none=>none
   | some l=>some (l,h,m)
def jhX:V->Option UInt8
 | .int .u8 n=>bif below n 256 then some (UInt8.ofNat n.toNat) else none
 | _=>none
def bytesOf:List V->Option (List UInt8)
 | []=>some []
 | v :: r=>match jhX v,bytesOf r with
  | some b,some l=>some (b :: l)
  | _,_=>none
def jlb (b:UInt8):V := .int .u8 b.toNat
def jaT (h:H) (sz n:Nat):V->Option (List V)
 | .slice none _ _=>some []
 | .slice (some (b,o)) _ _=>bif n*sz == 0 then some [] else h.load b o (n*sz)
 | .str s=>bif sz == 1 then some ((s.take n).map jlb) else none
 | _=>none
def lenOf:V->Option Nat
 | .slice _ n _=>some n
 | .str s=>some s.length
 | _=>none
def jbt (h:H) (l:List V) (len:Nat) (cap:Cap):V × H :=
 (.slice (some (h.nx,0)) len cap,h.new (.cells l false))
def jb8 (h:H) (sz bytes:Nat) (s x:V):Option (V × H) :=
 match lenOf x with
 | none=>none
 | some n=>
  match jaT h sz n x with
  | none=>none
  | some new=>
   match s with
   | .slice base len cap=>
    bif Nat.ble ((len+n)*bytes) (2 ^ 46)&&Nat.ble (len+n) (2 ^ 46) then
     bif n == 0 then some (s,h) else
     match base,cap with
     | none,_=>some (jbt h new n (.grow sz))
     | some (b,o),.fix c=>
      bif Nat.ble (len+n) c then
       match h.store b (o+len*sz) new with
       | some h'=>some (.slice base (len+n) cap,h')
       | none=>none
      else
       match (bif len*sz == 0 then some [] else h.load b o (len*sz)) with
       | some old=>some (jbt h (old++new) (len+n) (.grow sz))
       | none=>none
     | some (b,o),.least q k=>
      bif Nat.beq q sz&&Nat.ble (len+n) k then
       match h.store b (o+len*sz) new with
       | some h'=>some (.slice base (len+n) cap,h')
       | none=>none
      else none
     | some (b,o),.grow q=>
      match h.get b with
      | some (.cells l false)=>
       bif Nat.beq q sz&&Nat.ble (o+len*sz) l.length&&new.all V.one then
        some (jbt (h.kill b) ((l.drop o).take (len*sz)++new) (len+n) (.grow sz))
       else none
      | _=>none
    else none
   | _=>none
def jhR (h:H) (sz:Nat) (d s:V):Option (V × H) :=
 match d,lenOf s with
 | .slice base len _,some k=>
  let n:=Nat.min k len
  match jaT h sz n s with
  | none=>none
  | some l=>
   bif l.isEmpty then some (.int .i64 n,h) else
   match base with
   | none=>none
   | some (b,o)=>match h.store b o l with
    | some h'=>some (.int .i64 n,h')
    | none=>none
 | _,_=>none
def jd1 (h:H) (z:List V):V->Option (V × H)
 | .slice base n _=>bif Nat.beq n 0 then some (.tup [],h) else match base with
  | none=>some (.tup [],h)
  | some (b,o)=>match h.store b o (List.replicate n z).flatten with
   | some h'=>some (.tup [],h')
   | none=>none
 | _=>none
def jaH (cells:List V):List (Nat × Nat × V)->Option (List V)
 | []=>some cells
 | (off,size,v) :: r=>
  let cs:=v.cells
  bif cs.length == size&&Nat.ble (off+size) cells.length then jaH (jca cells off cs) r else none
def findKey (ks:KS) (k:V):List (V × V × Nat)->Nat->Option (Option (Nat × V × Nat))
 | [],_=>some none
 | (x,v,born) :: r,i=>
  match jeI ks k x with
  | some true=>some (some (i,v,born))
  | some false=>findKey ks k r (i+1)
  | none=>none
def jdq (ks:KS) (k:V) (es:List (V × V × Nat)):Option (Option (Nat × V × Nat)) :=
 bif (jeI ks k k).isSome then findKey ks k es 0 else none
def H.map? (h:H) (r:Nat):Option (List (V × V × Nat) × Nat) :=
 match h.get r with
 | some (.map es c)=>some (es,c)
 | _=>none
inductive Tgt where
 | fn (f:FuncId)
 | yld (l:Nat)
 deriving Inhabited
abbrev Call:=Tgt->List V->H->Option (V × H)
def Opd.ev (e:Env):Opd->Option V
 | .t s=>e.get s
 | .c v=>some v
def evs (e:Env):List Opd->Option (List V)
 | []=>some []
 | x :: r=>match x.ev e,evs e r with
  | some v,some l=>some (v :: l)
  | _,_=>none
def evo (e:Env):Option Opd->Option (Option V)
 | none=>some none
 | some x=>match x.ev e with
  | some v=>some (some v)
  | none=>none
def jaR (e:Env):List (Nat × Nat × Opd)->Option (List (Nat × Nat × V))
 | []=>some []
 | (o,n,x) :: r=>match x.ev e,jaR e r with
  | some v,some l=>some ((o,n,v) :: l)
  | _,_=>none
def part (l:List V) (off:Nat):Option Nat->Option V
 | none=>l[off]?
 | some n=>bif Nat.ble (off+n) l.length then some (.agg ((l.drop off).take n)) else none
def minV:V->V->Option V
 | .int k x,.int k' y=>bif k == k' then some (.int k (if y<x then y else x)) else none
 | _,_=>none
def maxV:V->V->Option V
 | .int k x,.int k' y=>bif k == k' then some (.int k (if y>x then y else x)) else none
 | _,_=>none
def jgC (f:V->V->Option V):V->List V->Option V
 | a,[]=>some a
 | a,x :: r=>match f a x with
  | some v=>jgC f v r
  | none=>none
inductive Cls where
 | P | R | A | E
 deriving DecidableEq,Inhabited
def I.cls:I->Cls
 | .load1 ..=>.R
 | .loadN ..=>.R
 | .ofBytes ..=>.R
 | .lookup ..=>.R
 | .alloc ..=>.A
 | .box ..=>.A
 | .bslice ..=>.A
 | .toBytes ..=>.A
 | .mkMap=>.A
 | .mkSlice ..=>.A
 | .store ..=>.E
 | .mput ..=>.E
 | .mdel ..=>.E
 | .call ..=>.E
 | .callv ..=>.E
 | .callb ..=>.E
 | .invoke ..=>.E
 | .append ..=>.E
 | .copy ..=>.E
 | .clear ..=>.E
 | .mark _=>.E
 | _=>.P
def jjx (up:Bool):V->V
 | .slice (some a) n (.grow q)=>bif up then .slice (some a) n (.least q n) else .slice (some a) n (.grow q)
 | .slice (some a) n (.least q k)=>bif up then .slice (some a) n (.least q k) else .slice (some a) n (.grow q)
 | v=>v
def I.pure (e:Env):I->Option V
 | .recap up x=>match x.ev e with
  | some v=>some (jjx up v)
  | none=>none
 | .mv x=>match x.ev e with
  | some v=>some (v)
  | none=>none
 | .pick c a b=>match c.ev e with
  | some (.bool true)=>match a.ev e with
   | some v=>some (v)
   | none=>none
  | some (.bool false)=>match b.ev e with
   | some v=>some (v)
   | none=>none
  | _=>none
 | .build zero parts=>match jaR e parts with
  | some ps=>match jaH zero ps with
   | some l=>some (.agg l)
   | none=>none
  | none=>none
 | .nilck x=>match x.ev e with
  | some (.ptr (some a))=>some (.ptr (some a))
  | some (.clo f c)=>some (.clo f c)
  | some (.yld l)=>some (.yld l)
  | some (.iface t v)=>some (.iface t v)
  | some (.bcl f v)=>some (.bcl f v)
  | _=>none
 | .mkBm name x=>match x.ev e with
  | some (.iface t v)=>some (.bm name t v)
  | _=>none
 | .mkBcl f x=>match x.ev e with
  | some v=>some (.bcl f v)
  | none=>none
 | .nilckB name tbl x=>match x.ev e with
  | some (.bm n t v)=>bif n == name&&tbl.any (fun p=>p.1 == t) then some (.bm n t v) else none
  | _=>none
 | .bin op x y=>match x.ev e,y.ev e with
  | some a,some b=>match binOp op a b with
   | some v=>some (v)
   | none=>none
  | _,_=>none
 | .eq k neg x y=>match x.ev e,y.ev e with
  | some a,some b=>match eqOp k a b with
   | some r=>some (.bool (bif neg then !r else r))
   | none=>none
  | _,_=>none
 | .un op x=>match x.ev e with
  | some a=>match unOp op a with
   | some v=>some (v)
   | none=>none
  | none=>none
 | .convInt k x=>match x.ev e with
  | some (.int _ n)=>some (.int k (k.wrap n))
  | _=>none
 | .mkIface t x=>match x.ev e with
  | some v=>some (.iface t v)
  | none=>none
 | .mkClo f cap=>match evs e cap with
  | some l=>some (.clo f l)
  | none=>none
 | .sliceS x lo hi=>match x.ev e,evo e lo,evo e hi with
  | some (.str s),some lo,some hi=>match jbK s.length s.length lo hi none with
   | some (l,r,_)=>some (.str ((s.take r).drop l))
   | none=>none
  | _,_,_=>none
 | .slice sz x lo hi mx=>match x.ev e,evo e lo,evo e hi,evo e mx with
  | some (.slice a len cap),some lo,some hi,some mx=>match jbK len (cap.room len) lo hi mx with
   | some (l,r,m)=>
    match a with
    | none=>some (.slice none 0 (.fix 0))
    | some (b,o)=>match cap,mx with
     | .grow q,none=>bif Nat.beq q sz then some (.slice (some (b,o+l*sz)) (r-l) (.grow q)) else none
     | .least q k,none=>bif Nat.beq q sz then some (.slice (some (b,o+l*sz)) (r-l) (.least q (k-l))) else none
     | _,_=>some (.slice (some (b,o+l*sz)) (r-l) (.fix (m-l)))
   | none=>none
  | _,_,_,_=>none
 | .faddr off x=>match x.ev e with
  | some (.ptr (some (b,o)))=>some (.ptr (some (b,o+off)))
  | _=>none
 | .field off n x=>match x.ev e with
  | some (.agg l)=>match part l off n with
   | some v=>some (v)
   | none=>none
  | _=>none
 | .ixaA len sz x i=>match x.ev e,i.ev e with
  | some (.ptr (some (b,o))),some (.int _ n)=>bif below n len then some (.ptr (some (b,o+n.toNat*sz))) else none
  | _,_=>none
 | .ixaS sz x i=>match x.ev e,i.ev e with
  | some (.slice (some (b,o)) len _),some (.int _ n)=>bif below n len then some (.ptr (some (b,o+n.toNat*sz))) else none
  | _,_=>none
 | .ixA len sz n x i=>match x.ev e,i.ev e with
  | some (.agg l),some (.int _ k)=>bif below k len then
    match part l (k.toNat*sz) n with
    | some v=>some (v)
    | none=>none
   else none
  | _,_=>none
 | .ixStr x i=>match x.ev e,i.ev e with
  | some (.str s),some (.int _ n)=>bif below n s.length then
    match s[n.toNat]? with
    | some b=>some (jlb b)
    | none=>none
   else none
  | _,_=>none
 | .lenS x=>match x.ev e with
  | some (.str s)=>some (.int .i64 s.length)
  | _=>none
 | .lenL x=>match x.ev e with
  | some (.slice _ n _)=>some (.int .i64 n)
  | _=>none
 | .extract x i=>match x.ev e with
  | some (.tup l)=>match l[i]? with
   | some v=>some (v)
   | none=>none
  | _=>none
 | .minI xs=>match evs e xs with
  | some (a :: r)=>match jgC minV a r with
   | some v=>some (v)
   | none=>none
  | _=>none
 | .maxI xs=>match evs e xs with
  | some (a :: r)=>match jgC maxV a r with
   | some v=>some (v)
   | none=>none
  | _=>none
 | _=>none
def I.read (e:Env) (h:H):I->Option V
 | .load1 a=>match a.ev e with
  | some (.ptr (some (b,o)))=>match h.load1 b o with
   | some v=>some (v)
   | none=>none
  | _=>none
 | .loadN n a=>match a.ev e with
  | some (.ptr (some (b,o)))=>match h.load b o n with
   | some l=>some (.agg l)
   | none=>none
  | _=>none
 | .ofBytes x=>match x.ev e with
  | some (.slice none _ _)=>some (.str [])
  | some (.slice (some (b,o)) n _)=>bif n == 0 then some (.str []) else
   match h.load b o n with
   | some l=>match bytesOf l with
    | some s=>some (.str s)
    | none=>none
   | none=>none
  | _=>none
 | .lookup ks zero ok m k=>match m.ev e,k.ev e with
  | some (.map none),some k=>match jdq ks k [] with
   | some _=>some (if ok then .tup [zero,.bool false] else zero)
   | none=>none
  | some (.map (some r)),some k=>match h.map? r with
   | some (es,_)=>match jdq ks k es with
    | some (some (_,v,_))=>some (if ok then .tup [v,.bool true] else v)
    | some none=>some (if ok then .tup [zero,.bool false] else zero)
    | none=>none
   | none=>none
  | _,_=>none
 | _=>none
def I.make (e:Env):I->Option (Obj × (Nat->V))
 | .alloc sz zero=>some (.cells zero false,fun b=>.ptr (some (b,0)))
 | .box sz x=>match x.ev e with
  | some v=>some (.cells v.cells false,fun b=>.ptr (some (b,0)))
  | none=>none
 | .bslice sz len zero parts=>match jaR e (parts.map fun p=>(p.1*sz,sz,p.2)) with
  | some ps=>match jaH zero ps with
   | some l=>some (.cells l false,fun b=>.slice (some (b,0)) len (.fix len))
   | none=>none
  | none=>none
 | .toBytes x=>match x.ev e with
  | some (.str s)=>bif Nat.ble s.length (2 ^ 46) then some (.cells (s.map jlb) false,fun b=>.slice (some (b,0)) s.length (.grow 1)) else none
  | _=>none
 | .mkMap=>some (.map [] 0,fun b=>.map (some b))
 | .mkSlice sz bytes zero len cap=>match len.ev e,cap.ev e with
  | some (.int _ (.ofNat l)),some (.int _ (.ofNat c))=>
   bif Nat.ble l c&&Nat.ble (c*bytes) (2 ^ 46)&&Nat.ble c (2 ^ 46) then some (.cells (List.replicate c zero).flatten false,fun b=>.slice (some (b,0)) l (.fix c)) else none
  | _,_=>none
 | _=>none
def I.eff (call:Call) (e:Env) (h:H):I->Option (V × H)
 | .store n a x=>match a.ev e,x.ev e with
  | some (.ptr (some (b,o))),some v=>
   bif v.cells.length == n then
    match h.store b o v.cells with
    | some h'=>some (.undef,h')
    | none=>none
   else none
  | _,_=>none
 | .mput ks m k v=>match m.ev e,k.ev e,v.ev e with
  | some (.map (some r)),some k,some v=>match h.map? r with
   | some (es,c)=>match jdq ks k es with
    | some (some (i,_,born))=>some (.undef,h.set r (.map (es.set i (k,v,born)) c))
    | some none=>some (.undef,h.set r (.map (es++[(k,v,c)]) (c+1)))
    | none=>none
   | none=>none
  | _,_,_=>none
 | .mdel ks m k=>match m.ev e,k.ev e with
  | some (.map none),some k=>match jdq ks k [] with
   | some _=>some (.undef,h)
   | none=>none
  | some (.map (some r)),some k=>match h.map? r with
   | some (es,c)=>match jdq ks k es with
    | some (some (i,_,_))=>some (.undef,h.set r (.map (es.eraseIdx i) c))
    | some none=>some (.undef,h)
    | none=>none
   | none=>none
  | _,_=>none
 | .call f args=>match evs e args with
  | some l=>call (.fn f) l h
  | none=>none
 | .callv x args=>match x.ev e,evs e args with
  | some (.clo f cap),some l=>call (.fn f) (l++cap) h
  | some (.yld r),some l=>call (.yld r) l h
  | some (.bcl f v),some l=>call (.fn f) (v :: l) h
  | _,_=>none
 | .callb ms x args=>match x.ev e,evs e args with
  | some (.clo f cap),some l=>call (.fn f) (l++cap) h
  | some (.yld r),some l=>call (.yld r) l h
  | some (.bm n t v),some l=>match ms.find? (fun p=>p.1 == n) with
   | some (_,tbl)=>match tbl.find? (fun p=>p.1 == t) with
    | some (_,f)=>call (.fn f) (v :: l) h
    | none=>none
   | none=>none
  | some (.bcl f v),some l=>call (.fn f) (v :: l) h
  | _,_=>none
 | .invoke tbl x args=>match x.ev e,evs e args with
  | some (.iface t v),some l=>match tbl.find? (fun p=>p.1 == t) with
   | some (_,f)=>call (.fn f) (v :: l) h
   | none=>none
  | _,_=>none
 | .append sz bytes x y=>match x.ev e,y.ev e with
  | some a,some b=>jb8 h sz bytes a b
  | _,_=>none
 | .copy sz x y=>match x.ev e,y.ev e with
  | some a,some b=>jhR h sz a b
  | _,_=>none
 | .clear z x=>match x.ev e with
  | some a=>jd1 h z a
  | none=>none
 | .mark x=>match x.ev e with
  | some (.slice (some (b,o)) n c)=>match h.get b with
   | some (.cells _ false)=>bif Nat.ble 1 n then some (.slice (some (b,o)) n c,h) else none
   | _=>none
  | _=>none
 | _=>none
def I.run (call:Call) (e:Env) (h:H) (at_:Option Nat) (i:I):Option (V × H) :=
 match i.cls with
 | .P=>match i.pure e with
  | some v=>some (v,h)
  | none=>none
 | .R=>match i.read e h with
  | some v=>some (v,h)
  | none=>none
 | .A=>match i.make e with
  | some (o,mk)=>match at_ with
   | none=>some (mk h.nx,h.new o)
   | some b=>some (mk b,h.set b o)
  | none=>none
 | .E=>i.eff call e h
def wanted (e:Env):Option (Nat × Bool)->Bool
 | none=>true
 | some (j,want)=>match e.get j with
  | some (.bool b)=>b == want
  | _=>false
def layv (e:Env) (dst:Option Nat) (v:V):Env :=
 match dst with
 | some d=>(d,v) :: e
 | none=>e
mutual
def V.same:V->V->Bool
 | .bool a,.bool b=>a == b
 | .int k a,.int k' b=>k == k'&&a == b
 | .str a,.str b=>a == b
 | .ptr none,.ptr none=>true
 | .ptr (some a),.ptr (some b)=>Nat.beq a.1 b.1&&Nat.beq a.2 b.2
 | .slice none n c,.slice none m d=>Nat.beq n m&&c == d
 | .slice (some a) n c,.slice (some b) m d=>Nat.beq a.1 b.1&&Nat.beq a.2 b.2&&Nat.beq n m&&c == d
 | .map a,.map b=>a == b
 | .clo f a,.clo g b=>Nat.beq f g&&V.sames a b
 | .yld a,.yld b=>Nat.beq a b
 | .nilfn,.nilfn=>true
 | .bm n t a,.bm k u b=>n == k&&Nat.beq t u&&V.same a b
 | .bcl f a,.bcl g b=>Nat.beq f g&&V.same a b
 | .iface t a,.iface u b=>Nat.beq t u&&V.same a b
 | .nili,.nili=>true
 | .ifc,.ifc=>true
 | .agg a,.agg b=>V.sames a b
 | .tup a,.tup b=>V.sames a b
 | _,_=>false
def V.sames:List V->List V->Bool
 | [],[]=>true
 | a :: r,b :: s=>V.same a b&&V.sames r s
 | _,_=>false
end
def jaB (e:Env) (h:H):List (Nat × I × Option (Nat × Bool))->Bool
 | []=>true
 | (d,i,g) :: r=>
  (bif wanted e g then
   match i.read e h,e.get d with
   | some v,some u=>V.same v u
   | _,_=>false
  else true)&&jaB e h r
def jag (call:Call) (base:Nat):List Ins->Env->H->Option (Env × H)
 | [],e,h=>some (e,h)
 | s :: r,e,h=>
  bif wanted e s.guard then
   match s.i.run call e h (s.at_.map (base + ·)) with
   | some (v,h')=>bif jaB e h' s.chk then jag call base r (layv e s.dst v) h' else none
   | none=>none
  else jag call base r (layv e s.dst .undef) h
def H.reserve (h:H) (n:Nat):H := { nx:=h.nx+n,t:=h.t }
abbrev Res:=Option (Ex × Env × H)
def iter (body:Env->H->Res) (live:List Nat):Nat->Env->H->Res
 | 0,_,_=>none
 | n+1,e,h=>
  match body (e.only live) h with
  | some (.normal,e',h')=>iter body live n e' h'
  | r=>r
def jc2:Env->List Nat->List V->Option Env
 | e,[],[]=>some e
 | e,s :: r,v :: l=>jc2 (e.put s v) r l
 | _,_,_=>none
def D (call:Call) (fuel:Nat):AC->Env->H->Res
 | .skip,e,h=>some (.normal,e,h)
 | .label _,e,h=>some (.normal,e,h)
 | .region res ops keep,e,h=>
  match jag call h.nx ops e (h.reserve res) with
  | some (e',h')=>some (.normal,e'.only keep,h')
  | none=>none
 | .seq a b,e,h=>
  match D call fuel a e h with
  | some (.normal,e',h')=>D call fuel b e' h'
  | r=>r
 | .cond c a b,e,h=>
  match c.ev e with
  | some (.bool true)=>D call fuel a e h
  | some (.bool false)=>D call fuel b e h
  | _=>none
 | .block id body,e,h=>
  match D call fuel body e h with
  | some (.exit id',e',h')=>bif id' == id then some (.normal,e',h') else some (.exit id',e',h')
  | r=>r
 | .loop live body,e,h=>iter (D call fuel body) live fuel e h
 | .rangeFunc f params live assign body,e,h=>
  match f.ev e with
  | some (.clo g cap)=>
   match call (.fn g) (.yld h.nx :: cap) (h.new (.loop .ready none params (e.only live) assign body)) with
   | some (_,h')=>
    match h'.get h.nx with
    | some (.loop st pend _ _ _ _)=>
     match st with
     | .busy=>none
     | _=>match pend with
      | none=>some (.normal,e,h'.kill h.nx)
      | some ex=>some (ex,e,h'.kill h.nx)
    | _=>none
   | none=>none
  | _=>none
 | .exit id,e,h=>some (.exit id,e,h)
 | .ret,e,h=>some (.ret,e,h)
 | .scope body,e,h=>D call fuel body e h
def jbR (e:Env) (h:H):List RV->Option (List V)
 | []=>some []
 | r :: rs=>
  match (match r with
   | .tmp s=>e.get s
   | .cell1 s=>match e.get s with
    | some (.ptr (some (b,o)))=>h.load1 b o
    | _=>none
   | .cellN s n=>match e.get s with
    | some (.ptr (some (b,o)))=>match h.load b o n with
     | some l=>some (.agg l)
     | none=>none
    | _=>none),jbR e h rs with
  | some v,some l=>some (v :: l)
  | _,_=>none
def jbx:List V->V
 | [v]=>v
 | l=>.tup l
def jcW (call:Call) (fuel:Nat) (fn:AFn) (args:List V) (h:H):Option (V × H) :=
 bif args.length == fn.np then
  match D call fuel fn.body (Env.ofArgs args 0) h with
  | some (.exit _,_,_)=>none
  | some (_,e,h')=>match jbR e h' fn.res with
   | some l=>some (jbx l,h')
   | none=>none
  | none=>none
 else none
def jbE (call:Call) (fuel:Nat) (l:Nat) (args:List V) (h:H):Option (V × H) :=
 match h.get l with
 | some (.loop _ _ params env assign body)=>
  match jc2 env params args with
  | none=>none
  | some e0=>
   match D call fuel assign e0 h with
   | some (.normal,e1,h1)=>
    match h1.get l with
    | some (.loop .ready p ps en a b)=>
     match D call fuel body e1 (h1.set l (.loop .busy p ps en a b)) with
     | some (ex,_,h3)=>
      match h3.get l with
      | some (.loop _ _ ps' en' a' b')=>
       match ex with
       | .normal=>some (.bool true,h3.set l (.loop .ready none ps' en' a' b'))
       | ex=>some (.bool false,h3.set l (.loop .done (some ex) ps' en' a' b'))
      | _=>none
     | none=>none
    | _=>none
   | _=>none
 | _=>none
abbrev Prim:=List V->H->Option (V × H)
structure Prog where
 fns:List (FuncId × AFn)
 prims:List (FuncId × Prim)
def jaL {α : Type} : List (Nat × α)->Nat->Option α
 | [],_=>none
 | (k,v) :: r,s=>bif Nat.beq k s then some v else jaL r s
def ja9 (P:Prog) (fuel:Nat):Nat->Call
 | 0,_,_,_=>none
 | n+1,.fn f,args,h=>
  match jaL P.prims f with
  | some p=>p args h
  | none=>match jaL P.fns f with
   | some fn=>jcW (ja9 P fuel n) fuel fn args h
   | none=>none
 | n+1,.yld l,args,h=>jbE (ja9 P fuel n) fuel l args h
end Am
namespace Am
open Go
inductive UD where
 | bool | int (k:IntKind) | str | ptr (e:TypeId) | slice (e:TypeId) | array (n:Nat) (e:TypeId) | map (k e:TypeId)
 | struct (fs:List (Nat × TypeId)) | func | iface
 deriving Inhabited
structure TI where
 u:UD
 size:Nat
 bytes:Nat
 zero:Option V
 eqs:Bool
 deriving Inhabited
mutual
def jau:V->Value->Bool
 | .bool a,.bool b=>a == b
 | .int k a,.int k' b=>k == k'&&a == b
 | .str a,.string b=>a == b.data.toList
 | .ptr none,.pointer none=>true
 | .slice none n c,.slice none 0 0=>Nat.beq n 0&&c == .fix 0
 | .map none,.map none=>true
 | .clo f cs,.func (.func g) first cap=>Nat.beq f g&&first.isEmpty&&jbC cs cap.toList
 | .nilfn,.nilFunc=>true
 | .iface t a,.iface u b=>Nat.beq t u&&jau a b
 | .nili,.nilIface=>true
 | .agg a,.agg b=>jbC a b.toList
 | .tup a,.tuple b=>jbC a b.toList
 | _,_=>false
def jbC:List V->List Value->Bool
 | [],[]=>true
 | a :: r,b :: s=>jau a b&&jbC r s
 | _,_=>false
end
def jaD:List (Nat × TypeId)->List Field->Bool
 | [],[]=>true
 | (o,t) :: r,f :: s=>Nat.beq o f.offset&&Nat.beq t f.type&&f.name != "_" && jaD r s
 | _,_=>false
def jaf:UD->TypeDesc->Bool
 | .bool,.bool=>true
 | .int k,.int k'=>k == k'
 | .str,.string=>true
 | .ptr e,.pointer e'=>Nat.beq e e'
 | .slice e,.slice e'=>Nat.beq e e'
 | .array n e,.array n' e'=>Nat.beq n n'&&Nat.beq e e'
 | .map k e,.map k' e'=>Nat.beq k k'&&Nat.beq e e'
 | .struct fs,.struct gs=>jaD fs gs.toList
 | .func,.func ..=>true
 | .iface,.interface _=>true
 | _,_=>false
def jiz (P:Program) (t:TypeId) (i:TI):Bool :=
 match P.info? t,P.underlying t with
 | some info,some d=>jaf i.u d&&Nat.beq i.size info.size&&Nat.beq i.bytes info.bytes &&
   (match i.zero,info.zero with
    | none,_=>true
    | some z,some zv=>jau z zv&&Nat.beq z.cells.length info.size
    | some _,none=>false) &&
   (!i.eqs||(!P.stoodInHeld t && !P.eqGuardType P.depth t))
 | _,_=>false
abbrev Tbl:=List (TypeId × TI)
def jfN (P:Program) (T:Tbl):Bool:=T.all fun p=>jiz P p.1 p.2
def Tbl.at_ (T:Tbl) (t:TypeId):Option TI:=jaL T t
structure Cx where
 T:Tbl
 gl:List Nat
def opdM (C:Cx):Opd->Operand->Bool
 | .t s,.tmp s'=>Nat.beq s s'
 | .c (.ptr (some (b,o))),.global g=>Nat.beq b g&&Nat.beq o 0&&C.gl.any (Nat.beq g)
 | .c (.clo f []),.func g=>Nat.beq f g
 | .c v,.const x=>jau v x
 | _,_=>false
def ja1 (C:Cx):List Opd->List Operand->Bool
 | [],[]=>true
 | a :: r,b :: s=>opdM C a b&&ja1 C r s
 | _,_=>false
def opdO (C:Cx):Option Opd->Option Operand->Bool
 | none,none=>true
 | some a,some b=>opdM C a b
 | _,_=>false
def jbF:UD->Bool
 | .struct _ | .array ..=>true
 | _=>false
def jc3 (C:Cx) (t:TypeId) (n:Option Nat):Bool :=
 match C.T.at_ t with
 | some i=>match n with
  | none=>!jbF i.u
  | some n=>jbF i.u&&Nat.beq i.size n
 | none=>false
def jaz (C:Cx) (t:TypeId) (n:Nat):Bool :=
 match C.T.at_ t with
 | some i=>Nat.beq i.size n
 | none=>false
def jez (C:Cx) (t:TypeId) (n:Nat):Bool :=
 match C.T.at_ t with
 | some i=>Nat.beq i.bytes n
 | none=>false
def jmx (C:Cx) (t:TypeId) (z:V):Bool :=
 match C.T.at_ t with
 | some i=>match i.zero with
  | some y=>V.same y z
  | none=>false
 | none=>false
def jb1 (C:Cx) (t:TypeId) (z:List V):Bool :=
 match C.T.at_ t with
 | some i=>match i.zero with
  | some y=>V.sames y.cells z
  | none=>false
 | none=>false
def jbk (C:Cx) (f:TypeId->Option (List LK)):Nat->Nat->List (Nat × TypeId)->Option (List LK)
 | off,size,[]=>bif Nat.beq off size then some [] else none
 | off,size,(o,t) :: r=>match C.T.at_ t,f t,jbk C f (off+(match C.T.at_ t with | some i=>i.size | none=>0)) size r with
  | some _,some a,some b=>bif Nat.beq o off then some (a++b) else none
  | _,_,_=>none
def jaS (C:Cx):Nat->TypeId->Option (List LK)
 | 0,_=>none
 | n+1,t=>match C.T.at_ t with
  | some i=>match i.u with
   | .bool=>bif Nat.beq i.size 1 then some [.bool] else none
   | .int k=>bif Nat.beq i.size 1 then some [.int k] else none
   | .str=>bif Nat.beq i.size 1 then some [.str] else none
   | .struct fs=>bif i.eqs then jbk C (jaS C n) 0 i.size fs else none
   | .array k e=>match C.T.at_ e,jaS C n e with
    | some j,some sh=>bif i.eqs&&Nat.beq i.size (k*j.size) then some (List.replicate k sh).flatten else none
    | _,_=>none
   | _=>none
  | none=>none
def ksM (C:Cx) (ks:KS) (t:TypeId):Bool :=
 match C.T.at_ t with
 | some i=>match ks with
  | .leaf k=>!(jbF i.u)&&jaS C 20 t == some [k]
  | .agg sh=>jbF i.u&&jaS C 20 t == some sh
 | none=>false
def eqM (C:Cx) (k:EK) (t:TypeId) (x y:Operand):Bool :=
 match C.T.at_ t with
 | some i=>match k,i.u with
  | .bool,.bool=>true
  | .ptr,.ptr e=>match C.T.at_ e with
   | some j=>!(Nat.beq j.size 0)
   | none=>false
  | .slice,.slice _=>true
  | .map,.map ..=>true
  | .fn,.func=>true
  | .iface,.iface=>(x matches .const _)||(y matches .const _)
  | .agg sh,.struct _=>i.eqs&&jaS C 20 t == some sh
  | .agg sh,.array ..=>i.eqs&&jaS C 20 t == some sh
  | _,_=>false
 | none=>false
def isU (C:Cx) (t:TypeId) (f:UD->Bool):Bool :=
 match C.T.at_ t with
 | some i=>f i.u
 | none=>false
def jew (C:Cx) (t:TypeId):Bool:=isU C t fun
 | .slice e=>isU C e (fun | .int .u8=>true | _=>false)
 | _=>false
def jnW (C:Cx) (e:TypeId) (n sz:Nat) (z:List V):Bool :=
 jaz C e sz&&(Nat.beq (n*sz) 0&&z.isEmpty||(match C.T.at_ e with
   | some i=>match i.zero with
    | some y=>Nat.beq y.cells.length sz&&V.sames (List.replicate n y.cells).flatten z
    | none=>false
   | none=>false))
def lenT (C:Cx) (n:Int):UD->Bool
 | .array k _=>n == (k:Int)
 | .ptr a=>isU C a fun
  | .array k _=>n == (k:Int)
  | _=>false
 | _=>false
def jgK (C:Cx) (e:TypeId) (sz:Nat):Bool :=
 match C.T.at_ e with
 | some i=>match i.zero with
  | some y=>Nat.beq y.cells.length sz
  | none=>false
 | none=>false
def jcY (C:Cx) (u:UD) (i off n:Nat):Bool :=
 match u with
 | .struct fs=>match fs[i]? with
  | some (o,t)=>Nat.beq o off&&jaz C t n
  | none=>false
 | .array _ e=>jaz C e n&&Nat.beq off (i*n)
 | _=>false
def jbw (C:Cx) (u:UD):List (Nat × Nat × Opd)->List (Nat × Operand)->Bool
 | [],[]=>true
 | (off,n,x) :: r,(i,y) :: s=>opdM C x y&&jbw C u r s&&jcY C u i off n
 | _,_=>false
def jgo (C:Cx):UD->Bool
 | .struct fs=>fs.all fun q=>(C.T.at_ q.2).isSome
 | .array _ e=>(C.T.at_ e).isSome
 | _=>false
def jdT (C:Cx):List (Nat × Opd)->List (Nat × Operand)->Bool
 | [],[]=>true
 | (i,x) :: r,(j,y) :: s=>Nat.beq i j&&opdM C x y&&jdT C r s
 | _,_=>false
def jlV:TypeDesc->Bool
 | .pointer _=>true
 | _=>false
def jeG (P:Program) (t:TypeId) (f:FuncId) (name:String):Bool :=
 match P.info? t with
 | some i=>match i.methods.find? (·.name == name) with
  | some m=>m.path.isEmpty&&match m.func,P.underlying t with
   | some (g,b),some d=>b == jlV d&&Nat.beq f g
   | _,_=>false
  | none=>false
 | none=>false
def argT (C:Cx) (ts:Array TypeId) (i:Nat) (f:UD->Bool):Bool :=
 match ts[i]? with
 | some t=>isU C t f
 | none=>false
def jcl (C:Cx) (ts:Array TypeId) (f:TypeId->Bool):Bool :=
 match ts[0]? with
 | some t=>isU C t fun | .slice e=>f e | _=>false
 | none=>false
def jdb (C:Cx) (ts:Array TypeId):Bool :=
 match ts[1]? with
 | some t=>isU C t fun | .int _=>false | _=>true
 | none=>true
def iM (P:Program) (C:Cx):I->Op->Bool
 | .mv x,.move y=>opdM C x y
 | .mv x,.assign y=>opdM C x y
 | .recap _ x,.move y=>opdM C x y
 | .recap _ x,.assign y=>opdM C x y
 | .mv (.c (.int .i64 n)),.call { callee := .builtin .len,argTypes:=ts,args:=as }=>
  !as.isEmpty&&argT C ts 0 (lenT C n)
 | .pick c a b,.pick c' a' b'=>opdM C c c'&&opdM C a a'&&opdM C b b'
 | .alloc sz z,.alloc t=>jaz C t sz&&jb1 C t z&&Nat.beq z.length sz
 | .box sz x,.box t y=>jaz C t sz&&opdM C x y
 | .build z ps,.build t qs=>jb1 C t z&&(match C.T.at_ t with | some i=>jgo C i.u&&jbw C i.u ps qs.toList | none=>false)
 | .bslice sz len z ps,.buildSlice t n qs=>
  Nat.beq len n&&isU C t (fun | .slice e=>jnW C e n sz z | _=>false)&&jdT C ps qs.toList&&Nat.ble (n*sz) (2 ^ 24)
 | .load1 a,.load t b=>jc3 C t none&&opdM C a b
 | .loadN n a,.load t b=>jc3 C t (some n)&&opdM C a b
 | .store n a v,.store t b w=>jaz C t n&&opdM C a b&&opdM C v w
 | .nilck x,.nilCheck y=>opdM C x y
 | .mkBm name x,.makeFunc (.method n) first cap=>name == n&&ja1 C [x] first.toList&&cap.isEmpty
 | .mkBcl f x,.makeFunc (.func g) first cap=>Nat.beq f g&&ja1 C [x] first.toList&&cap.isEmpty
 | .nilckB name tbl x,.nilCheck y=>opdM C x y&&tbl.all fun p=>jeG P p.1 p.2 name
 | .bin op x y,.binOp op' _ x' y' _=>op == op'&&opdM C x x'&&opdM C y y'
 | .eq k neg x y,.binOp op t x' y' _=>(if neg then op == .neq else op == .eql)&&opdM C x x'&&opdM C y y'&&eqM C k t x' y'
 | .un op x,.unOp op' _ y=>op == op'&&opdM C x y
 | .convInt k x,.convert s d y=>opdM C x y&&isU C d (fun | .int k'=>k == k' | _=>false)&&isU C s (fun | .int _=>true | _=>false)
 | .toBytes x,.convert s d y=>opdM C x y&&jew C d&&isU C s (fun | .str=>true | _=>false)
 | .ofBytes x,.convert s d y=>opdM C x y&&jew C s&&isU C d (fun | .str=>true | _=>false)
 | .mark x,.convert s d y=>opdM C x y&&Nat.beq s d&&jew C d
 | .mkIface t x,.makeInterface t' y=>Nat.beq t t'&&opdM C x y&&isU C t fun | .iface=>false | _=>true
 | .mkClo f cs,.makeFunc (.func g) first cap=>Nat.beq f g&&first.isEmpty&&ja1 C cs cap.toList
 | .mkMap,.makeMap _ none=>true
 | .mkSlice sz bytes z l c,.makeSlice t l' c'=>
  opdM C l l'&&opdM C c c'&&isU C t fun | .slice e=>jaz C e sz&&jez C e bytes&&jb1 C e z&&Nat.beq z.length sz | _=>false
 | .sliceS x lo hi,.slice t y lo' hi' none=>opdM C x y&&opdO C lo lo'&&opdO C hi hi'&&isU C t fun | .str=>true | _=>false
 | .slice sz x lo hi mx,.slice t y lo' hi' mx'=>opdM C x y&&opdO C lo lo'&&opdO C hi hi'&&opdO C mx mx'&&isU C t fun | .slice e=>jaz C e sz | _=>false
 | .faddr off x,.fieldAddr t y i=>opdM C x y&&isU C t fun
   | .struct fs=>match fs[i]? with
    | some (o,ft)=>Nat.beq o off&&(match C.T.at_ ft with | some j=>!(Nat.beq j.size 0) | none=>false)
    | none=>false
   | _=>false
 | .field off n x,.field t y i=>opdM C x y&&isU C t fun
   | .struct fs=>match fs[i]? with
    | some (o,ft)=>Nat.beq o off&&jc3 C ft n
    | none=>false
   | _=>false
 | .ixaA len sz x i,.indexAddr t y j=>opdM C x y&&opdM C i j&&isU C t fun | .array k e=>Nat.beq k len&&jaz C e sz | _=>false
 | .ixaS sz x i,.indexAddr t y j=>opdM C x y&&opdM C i j&&isU C t fun | .slice e=>jaz C e sz | _=>false
 | .ixA len sz n x i,.index t y j=>opdM C x y&&opdM C i j&&isU C t fun | .array k e=>Nat.beq k len&&jaz C e sz&&jc3 C e n | _=>false
 | .ixStr x i,.index t y j=>opdM C x y&&opdM C i j&&isU C t fun | .str=>true | _=>false
 | .lookup ks z ok m k,.lookup t m' k' ok'=>ok == ok'&&opdM C m m'&&opdM C k k'&&isU C t fun | .map kt e=>jmx C e z&&ksM C ks kt | _=>false
 | .mput ks m k v,.mapUpdate t m' k' v'=>opdM C m m'&&opdM C k k'&&opdM C v v'&&isU C t fun | .map kt _=>ksM C ks kt | _=>false
 | .mput ks m k v,.insert t m' k' v'=>opdM C m m'&&opdM C k k'&&opdM C v v'&&isU C t fun | .map kt _=>ksM C ks kt | _=>false
 | .extract x i,.extract y j=>opdM C x y&&Nat.beq i j
 | .call f args,.call { callee := .value (.func g),args:=args',argTypes:=_ }=>Nat.beq f g&&ja1 C args args'.toList
 | .callv x args,.call { callee := .value y,args:=args',argTypes:=_ }=>opdM C x y&&ja1 C args args'.toList
 | .callb ms x args,.call { callee := .value y,args:=args',argTypes:=_ }=>
  opdM C x y&&ja1 C args args'.toList&&ms.all fun q=>q.2.all fun p=>jeG P p.1 p.2 q.1
 | .invoke tbl x args,.call { callee := .invoke y name,args:=args',argTypes:=_ }=>
  opdM C x y&&ja1 C args args'.toList&&tbl.all fun p=>jeG P p.1 p.2 name
 | .lenS x,.call { callee := .builtin .len,args:=args',argTypes:=ts }=>
  ja1 C [x] args'.toList&&argT C ts 0 fun | .str=>true | _=>false
 | .lenL x,.call { callee := .builtin .len,args:=args',argTypes:=ts }=>
  ja1 C [x] args'.toList&&argT C ts 0 fun | .slice _=>true | _=>false
 | .append sz bytes x y,.call { callee := .builtin .append,args:=args',argTypes:=ts }=>
  ja1 C [x,y] args'.toList&&jdb C ts&&jcl C ts fun e=>jaz C e sz&&jez C e bytes && !(Nat.beq bytes 0)&&jgK C e sz
 | .copy sz x y,.call { callee := .builtin .copy,args:=args',argTypes:=ts }=>
  ja1 C [x,y] args'.toList&&jcl C ts fun e=>jaz C e sz
 | .minI xs,.call { callee := .builtin .min,args:=args',argTypes:=_ }=>ja1 C xs args'.toList
 | .maxI xs,.call { callee := .builtin .max,args:=args',argTypes:=_ }=>ja1 C xs args'.toList
 | .mdel ks m k,.call { callee := .builtin .delete,args:=args',argTypes:=ts }=>
  ja1 C [m,k] args'.toList&&argT C ts 0 fun | .map kt _=>ksM C ks kt | _=>false
 | .clear z x,.call { callee := .builtin .clear,args:=args',argTypes:=ts }=>
  ja1 C [x] args'.toList&&jcl C ts fun e=>jb1 C e z
 | .fail,_=>true
 | _,_=>false
def Opd.slots:Opd->List Nat
 | .t s=>[s]
 | .c _=>[]
def jfb:Option Opd->List Nat
 | some x=>x.slots
 | none=>[]
def jh8 (l:List Opd):List Nat:=l.flatMap Opd.slots
def I.slots:I->List Nat
 | .mv x | .recap _ x | .box _ x | .load1 x | .loadN _ x | .nilck x | .mkBm _ x | .mkBcl _ x | .nilckB _ _ x | .un _ x | .convInt _ x | .toBytes x | .ofBytes x | .mark x | .mkIface _ x | .faddr _ x | .field _ _ x | .extract x _ | .lenS x | .lenL x | .clear _ x=>x.slots
 | .pick c a b=>c.slots++a.slots++b.slots
 | .alloc .. | .mkMap | .fail=>[]
 | .build _ ps=>ps.flatMap fun p=>p.2.2.slots
 | .bslice _ _ _ ps=>ps.flatMap fun p=>p.2.slots
 | .store _ a b | .bin _ a b | .eq _ _ a b | .mkSlice _ _ _ a b | .ixaA _ _ a b | .ixaS _ a b | .ixA _ _ _ a b | .ixStr a b | .lookup _ _ _ a b | .mdel _ a b | .append _ _ a b | .copy _ a b=>a.slots++b.slots
 | .mkClo _ l | .call _ l | .minI l | .maxI l=>jh8 l
 | .sliceS x lo hi=>x.slots++jfb lo++jfb hi
 | .slice _ x lo hi mx=>x.slots++jfb lo++jfb hi++jfb mx
 | .mput _ a b c=>a.slots++b.slots++c.slots
 | .callv x l | .callb _ x l | .invoke _ x l=>x.slots++jh8 l
def jel:Option (Nat × Bool)->List Nat
 | some (s,_)=>[s]
 | none=>[]
def Ins.looks (s:Ins):List Nat:=jel s.guard++s.i.slots
def jfn (ops:Array Oper):Option (Nat × Bool)->Option (Nat × Bool)->Bool
 | none,none=>true
 | some (s,b),some (j,b')=>b == b'&&(match ops[j]? with | some o=>o.dst == some s | none=>false)
 | _,_=>false
def insM (P:Program) (C:Cx) (nt:Nat) (ops:Array Oper) (s:Ins):Bool :=
 match ops[s.ix]? with
 | some o=>s.dst == o.dst&&(match s.dst with | some d=>Nat.blt d nt | none=>true)&&jfn ops s.guard o.guard&&iM P C s.i o.op
 | none=>false
def jnb {α : Type} (n:Nat) (k:Nat -> α) : α := match n with | 0=>k 0 | m+1=>k (m+1)
def jbI (o:Oper):List Nat:=o.after.toList.filterMap fun e=>if Region.binds .any e then some e.on else none
def Ins.clooks (s:Ins):List Nat:=s.chk.flatMap fun c=>c.1 :: (jel c.2.2++c.2.1.slots)
def Opd.same:Opd->Opd->Bool
 | .t a,.t b=>Nat.beq a b
 | .c a,.c b=>V.same a b
 | _,_=>false
def I.sameR:I->I->Bool
 | .load1 a,.load1 b=>a.same b
 | .loadN n a,.loadN m b=>Nat.beq n m&&a.same b
 | .ofBytes a,.ofBytes b=>a.same b
 | .lookup ks z ok a k,.lookup ks' z' ok' a' k'=>ks == ks'&&V.same z z'&&ok == ok'&&a.same a'&&k.same k'
 | _,_=>false
def ssaM (a b:Ins):Bool :=
 match b.dst with
 | some d=>!(a.looks.contains d) && !(a.clooks.contains d)&&a.dst != some d
 | none=>true
def jnZ (a b:Ins):Bool :=
 (match a.dst with | some d=>!(b.looks.contains d) | none=>true) &&
 match a.i.cls,b.i.cls with
 | .P,_ | _,.P | .R,.R | .R,.A | .A,.A | .E,.A=>true
 | .R,.E=>match a.dst with
  | some d=>b.chk.any fun c=>Nat.beq c.1 d&&I.sameR c.2.1 a.i&&c.2.2 == a.guard
  | none=>false
 | _,_=>false
def okM (a:Ins):Bool :=
 (a.i.cls == .E||a.chk.isEmpty)&&(a.i.cls != .R||(match a.dst with | some d=>!(a.looks.contains d) | none=>true))
def jj8 (bef:List Nat):List Ins->Bool
 | []=>true
 | a :: r=>okM a&&(r.all fun b=>(Nat.testBit (bef.getD b.ix 0) a.ix&&a.i.cls != .R)||ssaM a b&&(Nat.testBit (bef.getD b.ix 0) a.ix||jnZ a b))&&jj8 bef r
def befL (ops:List Oper):List Nat->List Nat
 | acc=>match ops with
  | []=>acc.reverse
  | o :: r=>jnb ((jbI o).foldl (fun s e=>s ||| 2 ^ e ||| acc.reverse.getD e 0) 0) fun v=>befL r (v :: acc)
def jh0 (ops:Array Oper):List Ins->Nat->Bool
 | [],done=>Nat.beq done (2 ^ ops.size-1)
 | s :: r,done=>
  !(Nat.testBit done s.ix)&&(match ops[s.ix]? with | some o=>(jbI o).all (fun e=>Nat.testBit done e) | none=>false) &&
   jnb (done ||| 2 ^ s.ix) fun d=>jh0 ops r d
def seqM:List Ins->Nat->Bool
 | [],_=>true
 | s :: r,n=>Nat.beq s.ix n&&s.at_.isNone&&s.chk.isEmpty&&seqM r (n+1)
def atsM (res:Nat):List Ins->Nat->Bool
 | [],_=>true
 | s :: r,done=>match s.i.cls,s.at_ with
  | .A,some k=>Nat.blt k res && !(Nat.testBit done k)&&jnb (done ||| 2 ^ k) fun d=>atsM res r d
  | .A,none=>false
  | _,none=>atsM res r done
  | _,some _=>false
def jlY (ops:Array Oper) (s:Ins):Bool :=
 match ops[s.ix]? with
 | some o=>match o.guard with
  | some (j,_)=>(jbI o).contains j
  | none=>true
 | none=>false
def jlX (ops:Array Oper) (s:Ins):Bool :=
 match ops[s.ix]? with
 | some o=>match o.guard with
  | some (j,_)=>Nat.blt j s.ix
  | none=>true
 | none=>false
def ji6 (P:Program) (C:Cx) (nt:Nat) (ops:Array Oper) (draw:Bool) (res:Nat) (l:List Ins):Bool :=
 l.all (insM P C nt ops)&&Nat.beq l.length ops.size &&
 bif draw then jh0 ops l 0&&jj8 (befL ops.toList []) l&&atsM res l 0&&l.all (jlY ops)
 else seqM l 0&&Nat.beq res 0&&l.all (jlX ops)
def jbb (P:Program) (C:Cx) (nt:Nat):AC->Code->Bool
 | .skip,.skip=>true
 | .label l,.label l'=>Nat.beq l l'
 | .region res ops _,.region _ ops' draw=>ji6 P C nt ops' draw res ops
 | .seq a b,.seq a' b'=>jbb P C nt a a'&&jbb P C nt b b'
 | .cond c a b,.cond c' a' b'=>opdM C c c'&&jbb P C nt a a'&&jbb P C nt b b'
 | .block i b,.block i' b'=>Nat.beq i i'&&jbb P C nt b b'
 | .loop _ b,.loop b'=>jbb P C nt b b'
 | .rangeFunc f ps _ a b,.rangeFunc f' ps' a' b'=>opdM C f f'&&ps == ps'.toList&&ps.all (Nat.blt · nt)&&jbb P C nt a a'&&jbb P C nt b b'
 | .exit i,.exit i'=>Nat.beq i i'
 | .ret,.ret=>true
 | .scope b,.scope b'=>jbb P C nt b b'
 | _,_=>false
def rvM (C:Cx):List RV->List ResultVar->Bool
 | [],[]=>true
 | .tmp s :: r,.tmp s' :: r'=>Nat.beq s s'&&rvM C r r'
 | .cell1 s :: r,.cell s' t :: r'=>Nat.beq s s'&&jc3 C t none&&rvM C r r'
 | .cellN s n :: r,.cell s' t :: r'=>Nat.beq s s'&&jc3 C t (some n)&&rvM C r r'
 | _,_=>false
def fnM (P:Program) (C:Cx) (f:FuncId) (a:AFn):Bool :=
 match P.funcs[f]? with
 | some fn=>match fn.body with
  | some c=>!(fn.name == "runtime.NumGoroutine")&&Nat.beq fn.ntmps a.nt&&Nat.ble a.np a.nt&&rvM C a.res fn.results.toList&&jbb P C a.nt a.body c
  | none=>false
 | none=>false
end Am
