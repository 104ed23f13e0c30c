/- Our own library, part 1. -/
import GoSem.Dispatch
set_option maxHeartbeats 8000000
set_option maxRecDepth 800
set_option linter.all false
universe u
abbrev za:=@List.getElem?_eq_getElem.{u}
abbrev zc:=@List.mem_of_getElem?.{u}
abbrev zd:=@List.getElem?_eq_none.{u}
abbrev ze:=@List.getElem?_append.{u}
abbrev zg:=@List.length_append.{u}
abbrev zh:=@List.take_of_length_le.{u}
abbrev zi:=@List.getElem?_set.{u}
abbrev zj:=@List.mem_cons_self.{u}
abbrev zk:=@List.drop_zero.{u}
abbrev zl:=@List.mem_cons_of_mem.{u}
abbrev zm:=@List.getElem?_drop.{u}
abbrev zn:=@List.length_eq_zero_iff.{u}
abbrev zp:=@Bool.and_eq_true
abbrev zq:=@Nat.le_refl
abbrev zr:=@Nat.lt_of_lt_of_le
abbrev zu:=@Nat.le_of_ble_eq_true
abbrev zw:=@Int.toNat_natCast
abbrev zx:=@Nat.lt_or_ge
abbrev zz:=@Int.eq_ofNat_of_zero_le
abbrev zA:=@Nat.le_trans
abbrev zC:=@if_neg.{u}
abbrev zD:=@if_pos.{u}
abbrev zE:=@decide_eq_false
abbrev zF:=@decide_eq_true_eq
abbrev zG:=@decide_eq_true
abbrev zH:=@cond_eq_ite.{u}
abbrev zI:=@of_decide_eq_true
abbrev zJ:=@absurd.{u}
abbrev zK:=@Option.ne_none_iff_exists'.{u}
abbrev zL:=@Eq.trans.{u}
abbrev zM:=@Nat.zero_lt_one
abbrev zN:=@List.getElem?_take.{u}
abbrev zO:=@List.mem_append.{u}
abbrev zP:=@Nat.zero_add
abbrev zQ:=@Nat.ble_eq
abbrev zR:=@Bool.false_eq_true
abbrev zS:=@List.all_eq_true.{u}
abbrev zT:=@List.ext_getElem?.{u}
abbrev zU:=@List.set_append.{u}
abbrev zV:=@List.getElem_of_mem.{u}
abbrev zW:=@List.flatten_cons.{u}
abbrev zX:=@Array.getElem?_eq_none.{u}
abbrev zY:=@Nat.zero_le
abbrev zZ:=@List.mem_cons.{u}
abbrev Zh:=@List.mem_iff_getElem?.{u}
abbrev Zi:=@Nat.add_sub_cancel_left
namespace Am
open Go
theorem om{P:Prop}(k:P:=by omega):P:=k
theorem Za{P:Prop}(k:P:=by first|assumption|omega|exact fun h=>h rfl):P:=k
theorem Zb{P:Prop}(k:P:=by first|rfl|assumption):P:=k
theorem Zc{P:Prop}(k:P:=by simp;omega):P:=k
theorem Zd{P:Prop}(k:P:=by simp):P:=k
theorem Ze{P:Prop}(k:P:=by show _<100000;omega):P:=k
theorem Zf{P:Prop}(k:P:=by first|assumption|omega):P:=k
theorem Zg{P:Prop}(k:P:=by first|assumption|rfl):P:=k
inductive Cap where
 |fix (k:Nat)
 |grow (sz:Nat)
 |least (sz k:Nat)
 deriving DecidableEq,Inhabited
inductive V where
 |bool (b:Bool)
 |int (k:IntKind) (n:Int)
 |str (s:List UInt8)
 |ptr (a:Option (Nat×Nat))
 |slice (a:Option (Nat×Nat)) (len:Nat) (cap:Cap)
 |map (r:Option Nat)
 |clo (f:FuncId) (cap:List V)
 |yld (l:Nat)
 |nilfn
 |bm (name:String) (t:TypeId) (v:V)
 |bcl (f:FuncId) (v:V)
 |iface (t:TypeId) (v:V)
 |nili
 |ifc
 |agg (l:List V)
 |tup (l:List V)
 deriving Inhabited
def Cap.room:Cap->Nat->Nat
 |.fix k,_=>k
 |.grow _,len=>len
 |.least _ k,_=>k
abbrev V.i(n:Int):V:= .int .i64 n
abbrev V.nil:V:= .ptr none
abbrev V.nils:V:= .slice none 0 (.fix 0)
abbrev V.p(b o:Nat):V:= .ptr (some (b,o))
abbrev V.undef:V:= .tup []
def V.cells:V->List V
 |.agg l=>l
 |v=>[v]
inductive Opd where
 |t (s:Nat)
 |c (v:V)
 deriving Inhabited
inductive LK where
 |bool|int (k:IntKind)|str
 deriving DecidableEq,Inhabited
inductive EK where
 |bool|ptr|slice|map|fn|iface|agg (sh:List LK)
 deriving DecidableEq,Inhabited
inductive KS where
 |leaf (k:LK)|agg (sh:List LK)
 deriving DecidableEq,Inhabited
inductive I where
 |mv (x:Opd)
 |pick (c a b:Opd)
 |alloc (sz:Nat) (zero:List V)
 |box (sz:Nat) (x:Opd)
 |build (zero:List V) (parts:List (Nat×Nat×Opd))
 |bslice (sz len:Nat) (zero:List V) (parts:List (Nat×Opd))
 |load1 (a:Opd)
 |loadN (n:Nat) (a:Opd)
 |store (n:Nat) (a v:Opd)
 |nilck (x:Opd)
 |mkBcl (f:FuncId) (x:Opd)
 |bin (op:BinOp) (x y:Opd)
 |eq (k:EK) (neg:Bool) (x y:Opd)
 |un (op:UnOp) (x:Opd)
 |convInt (k:IntKind) (x:Opd)
 |ofBytes (x:Opd)
 |mark (x:Opd)
 |fail
 |mkClo (f:FuncId) (cap:List Opd)
 |mkSlice (sz bytes:Nat) (zero:List V) (len cap:Opd)
 |sliceS (x:Opd) (lo hi:Option Opd)
 |slice (sz:Nat) (x:Opd) (lo hi mx:Option Opd)
 |faddr (off:Nat) (x:Opd)
 |field (off:Nat) (n:Option Nat) (x:Opd)
 |ixaA (len sz:Nat) (x i:Opd)
 |ixaS (sz:Nat) (x i:Opd)
 |ixA (len sz:Nat) (n:Option Nat) (x i:Opd)
 |ixStr (x i:Opd)
 |extract (x:Opd) (i:Nat)
 |call (f:FuncId) (args:List Opd)
 |callv (x:Opd) (args:List Opd)
 |lenS (x:Opd)
 |lenL (x:Opd)
 |append (sz bytes:Nat) (x y:Opd)
 |copy (sz:Nat) (x y:Opd)
 |minI (xs:List Opd)
 deriving Inhabited
structure Ins where
 ix:Nat
 dst:Option Nat
 i:I
 guard:Option (Nat×Bool)
 at_:Option Nat
 chk:List (Nat×I×Option (Nat×Bool))
 deriving Inhabited
abbrev Ins.mk4(ix:Nat)(dst:Option Nat)(i:I)(guard:Option (Nat×Bool)):Ins:=⟨ix,dst,i,guard,none,[]⟩
inductive AC where
 |skip
 |region (res:Nat) (ops:List Ins) (keep:List Nat)
 |seq (a b:AC)
 |cond (c:Opd) (a b:AC)
 |block (id:Nat) (body:AC)
 |loop (live:List Nat) (body:AC)
 |rangeFunc (f:Opd) (params:List Nat) (live:List Nat) (assign body:AC)
 |exit (id:Nat)
 |ret
 |scope (body:AC)
 |label (l:Nat)
 deriving Inhabited
inductive Ex where
 |normal
 |exit (id:Nat)
 |ret
 deriving DecidableEq,Inhabited
inductive RV where
 |tmp (s:Nat)
 |cell1 (s:Nat)
 |cellN (s n:Nat)
 deriving Inhabited
structure AFn where
 np:Nat
 nt:Nat
 res:List RV
 body:AC
 deriving Inhabited
abbrev Env:=List (Nat×V)
def Env.get:Env->Nat->Option V
 |[],_=>none
 |(k,v)::r,s=>bif Nat.beq k s then some v else Env.get r s
def Env.put:Env->Nat->V->Env
 |[],s,v=>[(s,v)]
 |(k,w)::r,s,v=>bif Nat.beq k s then (k,v)::r else (k,w)::Env.put r s v
def Env.only(e:Env):List Nat->Env
 |[]=>[]
 |s::r=>match e.get s with
  |some v=>(s,v)::Env.only e r
  |none=>Env.only e r
def Env.ofArgs:List V->Nat->Env
 |[],_=>[]
 |v::r,n=>(n,v)::Env.ofArgs r (n+1)
inductive Obj where
 |cells (l:List V) (ro:Bool)
 |map (es:List (V×V×Nat)) (clock:Nat)
 |loop (st:LoopState) (pend:Option Ex) (params:List Nat) (env:Env) (assign body:AC)
 |iter (mp:Option Nat) (since:Nat) (seen:List Nat) (last:Nat)
 |siter (s:List UInt8) (pos:Nat)
 deriving Inhabited
def Obj.ro:Obj->Bool
 |.cells _ r=>r
 |_=>false
inductive T where
 |lf
 |nd (v:Option Obj) (l r:T)
 deriving Inhabited
def T.get:T->Nat->Option Obj
 |.lf,_=>none
 |.nd v l r,k=>bif Nat.beq k 0 then v else bif Nat.beq (k%2) 1 then l.get (k/2) else r.get (k/2-1)
def T.set:Nat->T->Nat->Option Obj->T
 |0,t,_,_=>t
 |f+1,t,k,o=>
  match t with
  |.lf=>bif Nat.beq k 0 then .nd o .lf .lf else bif Nat.beq (k%2) 1 then .nd none (T.set f .lf (k/2) o) .lf else .nd none .lf (T.set f .lf (k/2-1) o)
  |.nd v l r=>bif Nat.beq k 0 then .nd o l r else bif Nat.beq (k%2) 1 then .nd v (T.set f l (k/2) o) r else .nd v l (T.set f r (k/2-1) o)
structure H where
 nx:Nat
 t:T
 deriving Inhabited
def H.get(h:H)(b:Nat):Option Obj:=h.t.get b
def H.upd(h:H)(b:Nat)(o:Option Obj):H:= {nx:=h.nx,t:=h.t.set (b+1) b o}
def H.set(h:H)(b:Nat)(o:Obj):H:=h.upd b (some o)
def H.kill(h:H)(b:Nat):H:=h.upd b none
def H.new(h:H)(o:Obj):H:= {nx:=h.nx+1,t:=h.t.set (h.nx+1) h.nx (some o)}
def V.one:V->Bool
 |.agg _|.tup _=>false
 |_=>true
def jao:List V->Nat->List V->List V
 |vs,_,[]=>vs
 |vs,o,x::r=>jao (vs.set o x) (o+1) r
def H.load(h:H)(b o n:Nat):Option (List V):=
 match h.get b with
 |some (.cells l _)=>bif Nat.ble (o+n) l.length then some ((l.drop o).take n) else none
 |_=>none
def H.load1(h:H)(b o:Nat):Option V:=
 match h.get b with
 |some (.cells l _)=>l[o]?
 |_=>none
def H.store(h:H)(b o:Nat)(vs:List V):Option H:=
 match h.get b with
 |some (.cells l false)=>bif Nat.ble (o+vs.length) l.length&&vs.all V.one then some (h.set b (.cells (jao l o vs) false)) else none
 |_=>none
def jmU:LK->V->V->Option Bool
 |.bool,.bool a,.bool b=>some (a == b)
 |.int k,.int k1 a,.int k2 b=>bif k1 == k&&k2 == k then some (a == b) else none
 |.str,.str a,.str b=>some (a == b)
 |_,_,_=>none
def jaY:List LK->List V->List V->Option Bool
 |[],[],[]=>some true
 |k::t,a::r,b::s=>match jmU k a b,jaY t r s with
  |some x,some y=>some (x&&y)
  |_,_=>none
 |_,_,_=>none
def jdX(op:BinOp)(k:IntKind)(a b:Int):Option V:=
 match op with
 |.add=>some (.int k (k.wrap (a+b)))
 |.sub=>some (.int k (k.wrap (a-b)))
 |.mul=>some (.int k (k.wrap (a*b)))
 |.quo=>bif b == 0 then none else some (.int k (k.wrap (a.tdiv b)))
 |.rem=>bif b == 0 then none else some (.int k (a.tmod b))
 |.and=>some (.int k (k.wrap (BitVec.ofInt k.bits a &&& BitVec.ofInt k.bits b).toNat))
 |.or=>some (.int k (k.wrap (BitVec.ofInt k.bits a |||BitVec.ofInt k.bits b).toNat))
 |.xor=>some (.int k (k.wrap (BitVec.ofInt k.bits a ^^^ BitVec.ofInt k.bits b).toNat))
 |.andNot=>some (.int k (k.wrap (BitVec.ofInt k.bits a &&& ~~~(BitVec.ofInt k.bits b)).toNat))
 |.eql=>some (.bool (a == b))
 |.neq=>some (.bool (a != b))
 |.lss=>some (.bool (decide (a<b)))
 |.leq=>some (.bool (decide (a<=b)))
 |.gtr=>some (.bool (decide (a>b)))
 |.geq=>some (.bool (decide (a>=b)))
 |.shl=>bif decide (b<0) then none else some (.int k (k.wrap (a*2 ^ (Nat.min b.toNat k.bits))))
 |.shr=>bif decide (b<0) then none else some (.int k (a.fdiv (2 ^ (Nat.min b.toNat k.bits))))
def jpr(op:BinOp)(a b:List UInt8):Option V:=
 match op with
 |.add=>bif Nat.ble (a.length+b.length) (2 ^ 62) then some (.str (a++b)) else none
 |.eql=>some (.bool (a == b))
 |.neq=>some (.bool !(a == b))
 |.lss=>some (.bool (Op.bytesLess a b))
 |.leq=>some (.bool (Op.bytesLess a b||a == b))
 |.gtr=>some (.bool !(Op.bytesLess a b||a == b))
 |.geq=>some (.bool !(Op.bytesLess a b))
 |_=>none
def jc0:BinOp->Bool
 |.shl|.shr=>true
 |_=>false
def binOp(op:BinOp):V->V->Option V
 |.int k a,.int k' b=>bif jc0 op||k == k' then jdX op k a b else none
 |.str a,.str b=>jpr op a b
 |_,_=>none
def eqOp:EK->V->V->Option Bool
 |.bool,.bool a,.bool b=>some (a == b)
 |.ptr,.ptr none,.ptr x=>some x.isNone
 |.ptr,.ptr (some _),.ptr none=>some false
 |.ptr,.ptr (some a),.ptr (some b)=>bif Nat.beq a.1 b.1 then some (Nat.beq a.2 b.2) else none
 |.slice,.slice none _ _,.slice x _ _=>some x.isNone
 |.slice,.slice (some _) _ _,.slice none _ _=>some false
 |.map,.map none,.map x=>some x.isNone
 |.map,.map (some _),.map none=>some false
 |.fn,.nilfn,.nilfn=>some true
 |.fn,.clo _ _,.nilfn=>some false
 |.fn,.bm _ _ _,.nilfn=>some false
 |.fn,.bcl _ _,.nilfn=>some false
 |.fn,.nilfn,.clo _ _=>some false
 |.iface,.nili,.nili=>some true
 |.iface,.nili,.iface _ _=>some false
 |.iface,.iface _ _,.nili=>some false
 |.iface,.ifc,.nili=>some false
 |.iface,.nili,.ifc=>some false
 |.agg sh,.agg xs,.agg ys=>jaY sh xs ys
 |_,_,_=>none
def unOp:UnOp->V->Option V
 |.neg,.int k n=>some (.int k (k.wrap (0-n)))
 |.xor,.int k n=>jdX .xor k (if k.signed then -1 else k.max) n
 |.not,.bool b=>some (.bool !b)
 |_,_=>none
def jgx(n:Int)(m:Nat):Bool:=match n with
 |.ofNat k=>Nat.blt k m
 |.negSucc _=>false
def upto(n:Int)(m:Nat):Bool:=match n with
 |.ofNat k=>Nat.ble k m
 |.negSucc _=>false
def asInt:V->Option Int
 |.int _ n=>some n
 |_=>none
def sB(v:V)(y:Nat):Option Nat:=
 match asInt v with
 |some i=>bif upto i y then some i.toNat else none
 |none=>none
def slcM(cap:Nat):Option V->Option Nat
 |some v=>sB v cap
 |none=>some cap
def slcH(len m:Nat)(three:Bool):Option V->Option Nat
 |some v=>sB v m
 |none=>bif three then none else some len
def slcL(h:Nat):Option V->Option Nat
 |some v=>sB v h
 |none=>some 0
def jce(len cap:Nat)(lo hi mx:Option V):Option (Nat×Nat×Nat):=
 match slcM cap mx with
 |none=>none
 |some m=>match slcH len m mx.isSome hi with
  |none=>none
  |some h=>match slcL h lo with
   |none=>none
   |some l=>some (l,h,m)
def jhr:V->Option UInt8
 |.int .u8 n=>bif jgx n 256 then some (UInt8.ofNat n.toNat) else none
 |_=>none
def bytesOf:List V->Option (List UInt8)
 |[]=>some []
 |v::r=>match jhr v,bytesOf r with
  |some b,some l=>some (b::l)
  |_,_=>none
def jcY(b:UInt8):V:= .int .u8 b.toNat
def jaz(h:H)(sz n:Nat):V->Option (List V)
 |.slice none _ _=>some []
 |.slice (some (b,o)) _ _=>bif n*sz == 0 then some [] else h.load b o (n*sz)
 |.str s=>bif sz == 1 then some ((s.take n).map jcY) else none
 |_=>none
def lenOf:V->Option Nat
 |.slice _ n _=>some n
 |.str s=>some s.length
 |_=>none
def newRow(h:H)(l:List V)(len:Nat)(cap:Cap):V×H:=
 (.slice (some (h.nx,0)) len cap,h.new (.cells l false))
def jaH(h:H)(sz bytes:Nat)(s x:V):Option (V×H):=
 match lenOf x with
 |none=>none
 |some n=>
  match jaz h sz n x with
  |none=>none
  |some new=>
   match s with
   |.slice base len cap=>
    bif Nat.ble ((len+n)*bytes) (2 ^ 46)&&Nat.ble (len+n) (2 ^ 46) then
     bif n == 0 then some (s,h) else
     match base,cap with
     |none,_=>some (newRow h new n (.grow sz))
     |some (b,o),.fix c=>
      bif Nat.ble (len+n) c then
       match h.store b (o+len*sz) new with
       |some h'=>some (.slice base (len+n) cap,h')
       |none=>none
      else
       match (bif len*sz == 0 then some [] else h.load b o (len*sz)) with
       |some old=>some (newRow h (old++new) (len+n) (.grow sz))
       |none=>none
     |some (b,o),.least q k=>
      bif Nat.beq q sz&&Nat.ble (len+n) k then
       match h.store b (o+len*sz) new with
       |some h'=>some (.slice base (len+n) cap,h')
       |none=>none
      else none
     |some (b,o),.grow q=>
      match h.get b with
      |some (.cells l false)=>
       bif Nat.beq q sz&&Nat.ble (o+len*sz) l.length&&new.all V.one then
        some (newRow (h.kill b) ((l.drop o).take (len*sz)++new) (len+n) (.grow sz))
       else none
      |_=>none
    else none
   |_=>none
def jks(h:H)(sz:Nat)(d s:V):Option (V×H):=
 match d,lenOf s with
 |.slice base len _,some k=>
  let n:=Nat.min k len
  match jaz h sz n s with
  |none=>none
  |some l=>
   bif l.isEmpty then some (.int .i64 n,h) else
   match base with
   |none=>none
   |some (b,o)=>match h.store b o l with
    |some h'=>some (.int .i64 n,h')
    |none=>none
 |_,_=>none
def jpb(h:H)(z:List V):V->Option (V×H)
 |.slice base n _=>bif Nat.beq n 0 then some (.tup [],h) else match base with
  |none=>some (.tup [],h)
  |some (b,o)=>match h.store b o (List.replicate n z).flatten with
   |some h'=>some (.tup [],h')
   |none=>none
 |_=>none
def jaF(cells:List V):List (Nat×Nat×V)->Option (List V)
 |[]=>some cells
 |(off,size,v)::r=>
  let cs:=v.cells
  bif cs.length == size&&Nat.ble (off+size) cells.length then jaF (jao cells off cs) r else none
inductive Tgt where
 |fn (f:FuncId)
 |yld (l:Nat)
 deriving Inhabited
abbrev Call:=Tgt->List V->H->Option (V×H)
def Opd.ev(e:Env):Opd->Option V
 |.t s=>e.get s
 |.c v=>some v
def evs(e:Env):List Opd->Option (List V)
 |[]=>some []
 |x::r=>match x.ev e,evs e r with
  |some v,some l=>some (v::l)
  |_,_=>none
def evo(e:Env):Option Opd->Option (Option V)
 |none=>some none
 |some x=>match x.ev e with
  |some v=>some (some v)
  |none=>none
def jb2(e:Env):List (Nat×Nat×Opd)->Option (List (Nat×Nat×V))
 |[]=>some []
 |(o,n,x)::r=>match x.ev e,jb2 e r with
  |some v,some l=>some ((o,n,v)::l)
  |_,_=>none
def part(l:List V)(off:Nat):Option Nat->Option V
 |none=>l[off]?
 |some n=>bif Nat.ble (off+n) l.length then some (.agg ((l.drop off).take n)) else none
def minV:V->V->Option V
 |.int k x,.int k' y=>bif k == k' then some (.int k (if y<x then y else x)) else none
 |_,_=>none
def jnS(f:V->V->Option V):V->List V->Option V
 |a,[]=>some a
 |a,x::r=>match f a x with
  |some v=>jnS f v r
  |none=>none
inductive Cls where
 |P|R|A|E
 deriving DecidableEq,Inhabited
def I.cls:I->Cls
 |.load1 ..=>.R
 |.loadN ..=>.R
 |.ofBytes ..=>.R
 |.alloc ..=>.A
 |.box ..=>.A
 |.bslice ..=>.A
 |.mkSlice ..=>.A
 |.store ..=>.E
 |.call ..=>.E
 |.callv ..=>.E
 |.append ..=>.E
 |.copy ..=>.E
 |.mark _=>.E
 |_=>.P
def I.pure(e:Env):I->Option V
 |.mv x=>match x.ev e with
  |some v=>some (v)
  |none=>none
 |.pick c a b=>match c.ev e with
  |some (.bool true)=>match a.ev e with
   |some v=>some (v)
   |none=>none
  |some (.bool false)=>match b.ev e with
   |some v=>some (v)
   |none=>none
  |_=>none
 |.build zero parts=>match jb2 e parts with
  |some ps=>match jaF zero ps with
   |some l=>some (.agg l)
   |none=>none
  |none=>none
 |.nilck x=>match x.ev e with
  |some (.ptr (some a))=>some (.ptr (some a))
  |some (.clo f c)=>some (.clo f c)
  |some (.yld l)=>some (.yld l)
  |some (.iface t v)=>some (.iface t v)
  |some (.bcl f v)=>some (.bcl f v)
  |_=>none
 |.mkBcl f x=>match x.ev e with
  |some v=>some (.bcl f v)
  |none=>none
 |.bin op x y=>match x.ev e,y.ev e with
  |some a,some b=>match binOp op a b with
   |some v=>some (v)
   |none=>none
  |_,_=>none
 |.eq k neg x y=>match x.ev e,y.ev e with
  |some a,some b=>match eqOp k a b with
   |some r=>some (.bool (bif neg then !r else r))
   |none=>none
  |_,_=>none
 |.un op x=>match x.ev e with
  |some a=>match unOp op a with
   |some v=>some (v)
   |none=>none
  |none=>none
 |.convInt k x=>match x.ev e with
  |some (.int _ n)=>some (.int k (k.wrap n))
  |_=>none
 |.mkClo f cap=>match evs e cap with
  |some l=>some (.clo f l)
  |none=>none
 |.sliceS x lo hi=>match x.ev e,evo e lo,evo e hi with
  |some (.str s),some lo,some hi=>match jce s.length s.length lo hi none with
   |some (l,r,_)=>some (.str ((s.take r).drop l))
   |none=>none
  |_,_,_=>none
 |.slice sz x lo hi mx=>match x.ev e,evo e lo,evo e hi,evo e mx with
  |some (.slice a len cap),some lo,some hi,some mx=>match jce len (cap.room len) lo hi mx with
   |some (l,r,m)=>
    match a with
    |none=>some (.slice none 0 (.fix 0))
    |some (b,o)=>match cap,mx with
     |.grow q,none=>bif Nat.beq q sz then some (.slice (some (b,o+l*sz)) (r-l) (.grow q)) else none
     |.least q k,none=>bif Nat.beq q sz then some (.slice (some (b,o+l*sz)) (r-l) (.least q (k-l))) else none
     |_,_=>some (.slice (some (b,o+l*sz)) (r-l) (.fix (m-l)))
   |none=>none
  |_,_,_,_=>none
 |.faddr off x=>match x.ev e with
  |some (.ptr (some (b,o)))=>some (.ptr (some (b,o+off)))
  |_=>none
 |.field off n x=>match x.ev e with
  |some (.agg l)=>match part l off n with
   |some v=>some (v)
   |none=>none
  |_=>none
 |.ixaA len sz x i=>match x.ev e,i.ev e with
  |some (.ptr (some (b,o))),some (.int _ n)=>bif jgx n len then some (.ptr (some (b,o+n.toNat*sz))) else none
  |_,_=>none
 |.ixaS sz x i=>match x.ev e,i.ev e with
  |some (.slice (some (b,o)) len _),some (.int _ n)=>bif jgx n len then some (.ptr (some (b,o+n.toNat*sz))) else none
  |_,_=>none
 |.ixA len sz n x i=>match x.ev e,i.ev e with
  |some (.agg l),some (.int _ k)=>bif jgx k len then
    match part l (k.toNat*sz) n with
    |some v=>some (v)
    |none=>none
   else none
  |_,_=>none
 |.ixStr x i=>match x.ev e,i.ev e with
  |some (.str s),some (.int _ n)=>bif jgx n s.length then
    match s[n.toNat]? with
    |some b=>some (jcY b)
    |none=>none
   else none
  |_,_=>none
 |.lenS x=>match x.ev e with
  |some (.str s)=>some (.int .i64 s.length)
  |_=>none
 |.lenL x=>match x.ev e with
  |some (.slice _ n _)=>some (.int .i64 n)
  |_=>none
 |.extract x i=>match x.ev e with
  |some (.tup l)=>match l[i]? with
   |some v=>some (v)
   |none=>none
  |_=>none
 |.minI xs=>match evs e xs with
  |some (a::r)=>match jnS minV a r with
   |some v=>some (v)
   |none=>none
  |_=>none
 |_=>none
def I.read(e:Env)(h:H):I->Option V
 |.load1 a=>match a.ev e with
  |some (.ptr (some (b,o)))=>match h.load1 b o with
   |some v=>some (v)
   |none=>none
  |_=>none
 |.loadN n a=>match a.ev e with
  |some (.ptr (some (b,o)))=>match h.load b o n with
   |some l=>some (.agg l)
   |none=>none
  |_=>none
 |.ofBytes x=>match x.ev e with
  |some (.slice none _ _)=>some (.str [])
  |some (.slice (some (b,o)) n _)=>bif n == 0 then some (.str []) else
   match h.load b o n with
   |some l=>match bytesOf l with
    |some s=>some (.str s)
    |none=>none
   |none=>none
  |_=>none
 |_=>none
def I.make(e:Env):I->Option (Obj×(Nat->V))
 |.alloc sz zero=>some (.cells zero false,fun b=>.ptr (some (b,0)))
 |.box sz x=>match x.ev e with
  |some v=>some (.cells v.cells false,fun b=>.ptr (some (b,0)))
  |none=>none
 |.bslice sz len zero parts=>match jb2 e (parts.map fun p=>(p.1*sz,sz,p.2)) with
  |some ps=>match jaF zero ps with
   |some l=>some (.cells l false,fun b=>.slice (some (b,0)) len (.fix len))
   |none=>none
  |none=>none
 |.mkSlice sz bytes zero len cap=>match len.ev e,cap.ev e with
  |some (.int _ (.ofNat l)),some (.int _ (.ofNat c))=>
   bif Nat.ble l c&&Nat.ble (c*bytes) (2 ^ 46)&&Nat.ble c (2 ^ 46) then some (.cells (List.replicate c zero).flatten false,fun b=>.slice (some (b,0)) l (.fix c)) else none
  |_,_=>none
 |_=>none
def I.eff(call:Call)(e:Env)(h:H):I->Option (V×H)
 |.store n a x=>match a.ev e,x.ev e with
  |some (.ptr (some (b,o))),some v=>
   bif v.cells.length == n then
    match h.store b o v.cells with
    |some h'=>some (.undef,h')
    |none=>none
   else none
  |_,_=>none
 |.call f args=>match evs e args with
  |some l=>call (.fn f) l h
  |none=>none
 |.callv x args=>match x.ev e,evs e args with
  |some (.clo f cap),some l=>call (.fn f) (l++cap) h
  |some (.yld r),some l=>call (.yld r) l h
  |some (.bcl f v),some l=>call (.fn f) (v::l) h
  |_,_=>none
 |.append sz bytes x y=>match x.ev e,y.ev e with
  |some a,some b=>jaH h sz bytes a b
  |_,_=>none
 |.copy sz x y=>match x.ev e,y.ev e with
  |some a,some b=>jks h sz a b
  |_,_=>none
 |.mark x=>match x.ev e with
  |some (.slice (some (b,o)) n c)=>match h.get b with
   |some (.cells _ false)=>bif Nat.ble 1 n then some (.slice (some (b,o)) n c,h) else none
   |_=>none
  |_=>none
 |_=>none
def I.run(call:Call)(e:Env)(h:H)(at_:Option Nat)(i:I):Option (V×H):=
 match i.cls with
 |.P=>match i.pure e with
  |some v=>some (v,h)
  |none=>none
 |.R=>match i.read e h with
  |some v=>some (v,h)
  |none=>none
 |.A=>match i.make e with
  |some (o,mk)=>match at_ with
   |none=>some (mk h.nx,h.new o)
   |some b=>some (mk b,h.set b o)
  |none=>none
 |.E=>i.eff call e h
def wanted(e:Env):Option (Nat×Bool)->Bool
 |none=>true
 |some (j,want)=>match e.get j with
  |some (.bool b)=>b == want
  |_=>false
def layv(e:Env)(dst:Option Nat)(v:V):Env:=
 match dst with
 |some d=>(d,v)::e
 |none=>e
mutual
def V.same:V->V->Bool
 |.bool a,.bool b=>a == b
 |.int k a,.int k' b=>k == k'&&a == b
 |.str a,.str b=>a == b
 |.ptr none,.ptr none=>true
 |.ptr (some a),.ptr (some b)=>Nat.beq a.1 b.1&&Nat.beq a.2 b.2
 |.slice none n c,.slice none m d=>Nat.beq n m&&c == d
 |.slice (some a) n c,.slice (some b) m d=>Nat.beq a.1 b.1&&Nat.beq a.2 b.2&&Nat.beq n m&&c == d
 |.map a,.map b=>a == b
 |.clo f a,.clo g b=>Nat.beq f g&&V.sames a b
 |.yld a,.yld b=>Nat.beq a b
 |.nilfn,.nilfn=>true
 |.bm n t a,.bm k u b=>n == k&&Nat.beq t u&&V.same a b
 |.bcl f a,.bcl g b=>Nat.beq f g&&V.same a b
 |.iface t a,.iface u b=>Nat.beq t u&&V.same a b
 |.nili,.nili=>true
 |.ifc,.ifc=>true
 |.agg a,.agg b=>V.sames a b
 |.tup a,.tup b=>V.sames a b
 |_,_=>false
def V.sames:List V->List V->Bool
 |[],[]=>true
 |a::r,b::s=>V.same a b&&V.sames r s
 |_,_=>false
end
def jaO(e:Env)(h:H):List (Nat×I×Option (Nat×Bool))->Bool
 |[]=>true
 |(d,i,g)::r=>
  (bif wanted e g then
   match i.read e h,e.get d with
   |some v,some u=>V.same v u
   |_,_=>false
  else true)&&jaO e h r
def jaC(call:Call)(base:Nat):List Ins->Env->H->Option (Env×H)
 |[],e,h=>some (e,h)
 |s::r,e,h=>
  bif wanted e s.guard then
   match s.i.run call e h (s.at_.map (base + ·)) with
   |some (v,h')=>bif jaO e h' s.chk then jaC call base r (layv e s.dst v) h' else none
   |none=>none
  else jaC call base r (layv e s.dst .undef) h
def H.reserve(h:H)(n:Nat):H:= {nx:=h.nx+n,t:=h.t}
abbrev Res:=Option (Ex×Env×H)
def iter(body:Env->H->Res)(live:List Nat):Nat->Env->H->Res
 |0,_,_=>none
 |n+1,e,h=>
  match body (e.only live) h with
  |some (.normal,e',h')=>iter body live n e' h'
  |r=>r
def jef:Env->List Nat->List V->Option Env
 |e,[],[]=>some e
 |e,s::r,v::l=>jef (e.put s v) r l
 |_,_,_=>none
def D(call:Call)(fuel:Nat):AC->Env->H->Res
 |.skip,e,h=>some (.normal,e,h)
 |.label _,e,h=>some (.normal,e,h)
 |.region res ops keep,e,h=>
  match jaC call h.nx ops e (h.reserve res) with
  |some (e',h')=>some (.normal,e'.only keep,h')
  |none=>none
 |.seq a b,e,h=>
  match D call fuel a e h with
  |some (.normal,e',h')=>D call fuel b e' h'
  |r=>r
 |.cond c a b,e,h=>
  match c.ev e with
  |some (.bool true)=>D call fuel a e h
  |some (.bool false)=>D call fuel b e h
  |_=>none
 |.block id body,e,h=>
  match D call fuel body e h with
  |some (.exit id',e',h')=>bif id' == id then some (.normal,e',h') else some (.exit id',e',h')
  |r=>r
 |.loop live body,e,h=>iter (D call fuel body) live fuel e h
 |.rangeFunc f params live assign body,e,h=>
  match f.ev e with
  |some (.clo g cap)=>
   match call (.fn g) (.yld h.nx::cap) (h.new (.loop .ready none params (e.only live) assign body)) with
   |some (_,h')=>
    match h'.get h.nx with
    |some (.loop st pend _ _ _ _)=>
     match st with
     |.busy=>none
     |_=>match pend with
      |none=>some (.normal,e,h'.kill h.nx)
      |some ex=>some (ex,e,h'.kill h.nx)
    |_=>none
   |none=>none
  |_=>none
 |.exit id,e,h=>some (.exit id,e,h)
 |.ret,e,h=>some (.ret,e,h)
 |.scope body,e,h=>D call fuel body e h
def jdG(e:Env)(h:H):List RV->Option (List V)
 |[]=>some []
 |r::rs=>
  match (match r with
   |.tmp s=>e.get s
   |.cell1 s=>match e.get s with
    |some (.ptr (some (b,o)))=>h.load1 b o
    |_=>none
   |.cellN s n=>match e.get s with
    |some (.ptr (some (b,o)))=>match h.load b o n with
     |some l=>some (.agg l)
     |none=>none
    |_=>none),jdG e h rs with
  |some v,some l=>some (v::l)
  |_,_=>none
def jeA:List V->V
 |[v]=>v
 |l=>.tup l
def jjI(call:Call)(fuel:Nat)(fn:AFn)(args:List V)(h:H):Option (V×H):=
 bif args.length == fn.np then
  match D call fuel fn.body (Env.ofArgs args 0) h with
  |some (.exit _,_,_)=>none
  |some (_,e,h')=>match jdG e h' fn.res with
   |some l=>some (jeA l,h')
   |none=>none
  |none=>none
 else none
def jed(call:Call)(fuel:Nat)(l:Nat)(args:List V)(h:H):Option (V×H):=
 match h.get l with
 |some (.loop _ _ params env assign body)=>
  match jef env params args with
  |none=>none
  |some e0=>
   match D call fuel assign e0 h with
   |some (.normal,e1,h1)=>
    match h1.get l with
    |some (.loop .ready p ps en a b)=>
     match D call fuel body e1 (h1.set l (.loop .busy p ps en a b)) with
     |some (ex,_,h3)=>
      match h3.get l with
      |some (.loop _ _ ps' en' a' b')=>
       match ex with
       |.normal=>some (.bool true,h3.set l (.loop .ready none ps' en' a' b'))
       |ex=>some (.bool false,h3.set l (.loop .done (some ex) ps' en' a' b'))
      |_=>none
     |none=>none
    |_=>none
   |_=>none
 |_=>none
abbrev Prim:=List V->H->Option (V×H)
structure Prog where
 fns:List (FuncId×AFn)
 prims:List (FuncId×Prim)
def jdt{α:Type}:List (Nat×α)->Nat->Option α
 |[],_=>none
 |(k,v)::r,s=>bif Nat.beq k s then some v else jdt r s
def jcl(P:Prog)(fuel:Nat):Nat->Call
 |0,_,_,_=>none
 |n+1,.fn f,args,h=>
  match jdt P.prims f with
  |some p=>p args h
  |none=>match jdt P.fns f with
   |some fn=>jjI (jcl P fuel n) fuel fn args h
   |none=>none
 |n+1,.yld l,args,h=>jed (jcl P fuel n) fuel l args h
end Am
namespace Am
open Go
inductive UD where
 |bool|int (k:IntKind)|str|ptr (e:TypeId)|slice (e:TypeId)|array (n:Nat) (e:TypeId)|map (k e:TypeId)
 |struct (fs:List (Nat×TypeId))|func|iface
 deriving Inhabited
structure TI where
 u:UD
 size:Nat
 bytes:Nat
 zero:Option V
 eqs:Bool
 deriving Inhabited
mutual
def jaE:V->Value->Bool
 |.bool a,.bool b=>a == b
 |.int k a,.int k' b=>k == k'&&a == b
 |.str a,.string b=>a == b.data.toList
 |.ptr none,.pointer none=>true
 |.slice none n c,.slice none 0 0=>Nat.beq n 0&&c == .fix 0
 |.map none,.map none=>true
 |.clo f cs,.func (.func g) first cap=>Nat.beq f g&&first.isEmpty&&jd1 cs cap.toList
 |.nilfn,.nilFunc=>true
 |.iface t a,.iface u b=>Nat.beq t u&&jaE a b
 |.nili,.nilIface=>true
 |.agg a,.agg b=>jd1 a b.toList
 |.tup a,.tuple b=>jd1 a b.toList
 |_,_=>false
def jd1:List V->List Value->Bool
 |[],[]=>true
 |a::r,b::s=>jaE a b&&jd1 r s
 |_,_=>false
end
def jc2:List (Nat×TypeId)->List Field->Bool
 |[],[]=>true
 | (o,t) :: r,f :: s=>Nat.beq o f.offset&&Nat.beq t f.type&&f.name != "_" && jc2 r s
 |_,_=>false
def jal:UD->TypeDesc->Bool
 |.bool,.bool=>true
 |.int k,.int k'=>k == k'
 |.str,.string=>true
 |.ptr e,.pointer e'=>Nat.beq e e'
 |.slice e,.slice e'=>Nat.beq e e'
 |.array n e,.array n' e'=>Nat.beq n n'&&Nat.beq e e'
 |.map k e,.map k' e'=>Nat.beq k k'&&Nat.beq e e'
 |.struct fs,.struct gs=>jc2 fs gs.toList
 |.func,.func ..=>true
 |.iface,.interface _=>true
 |_,_=>false
def jlE(P:Program)(t:TypeId)(i:TI):Bool:=
 match P.info? t,P.underlying t with
 |some info,some d=>jal i.u d&&Nat.beq i.size info.size&&Nat.beq i.bytes info.bytes &&
   (match i.zero,info.zero with
    |none,_=>true
    |some z,some zv=>jaE z zv&&Nat.beq z.cells.length info.size
    |some _,none=>false) &&
   (!i.eqs||(!P.stoodInHeld t && !P.eqGuardType P.depth t))
 |_,_=>false
abbrev Tbl:=List (TypeId×TI)
def jm3(P:Program)(T:Tbl):Bool:=T.all fun p=>jlE P p.1 p.2
def Tbl.at_(T:Tbl)(t:TypeId):Option TI:=jdt T t
structure Cx where
 T:Tbl
 gl:List Nat
def opdM(C:Cx):Opd->Operand->Bool
 |.t s,.tmp s'=>Nat.beq s s'
 |.c (.ptr (some (b,o))),.global g=>Nat.beq b g&&Nat.beq o 0&&C.gl.any (Nat.beq g)
 |.c (.clo f []),.func g=>Nat.beq f g
 |.c v,.const x=>jaE v x
 |_,_=>false
def jcc(C:Cx):List Opd->List Operand->Bool
 |[],[]=>true
 |a::r,b::s=>opdM C a b&&jcc C r s
 |_,_=>false
def opdO(C:Cx):Option Opd->Option Operand->Bool
 |none,none=>true
 |some a,some b=>opdM C a b
 |_,_=>false
def jhl:UD->Bool
 |.struct _|.array ..=>true
 |_=>false
def jf7(C:Cx)(t:TypeId)(n:Option Nat):Bool:=
 match C.T.at_ t with
 |some i=>match n with
  |none=>!jhl i.u
  |some n=>jhl i.u&&Nat.beq i.size n
 |none=>false
def jb3(C:Cx)(t:TypeId)(n:Nat):Bool:=
 match C.T.at_ t with
 |some i=>Nat.beq i.size n
 |none=>false
def jiA(C:Cx)(t:TypeId)(n:Nat):Bool:=
 match C.T.at_ t with
 |some i=>Nat.beq i.bytes n
 |none=>false
def jdY(C:Cx)(t:TypeId)(z:List V):Bool:=
 match C.T.at_ t with
 |some i=>match i.zero with
  |some y=>V.sames y.cells z
  |none=>false
 |none=>false
def je6(C:Cx)(f:TypeId->Option (List LK)):Nat->Nat->List (Nat×TypeId)->Option (List LK)
 |off,size,[]=>bif Nat.beq off size then some [] else none
 |off,size,(o,t)::r=>match C.T.at_ t,f t,je6 C f (off+(match C.T.at_ t with|some i=>i.size|none=>0)) size r with
  |some _,some a,some b=>bif Nat.beq o off then some (a++b) else none
  |_,_,_=>none
def je5(C:Cx):Nat->TypeId->Option (List LK)
 |0,_=>none
 |n+1,t=>match C.T.at_ t with
  |some i=>match i.u with
   |.bool=>bif Nat.beq i.size 1 then some [.bool] else none
   |.int k=>bif Nat.beq i.size 1 then some [.int k] else none
   |.str=>bif Nat.beq i.size 1 then some [.str] else none
   |.struct fs=>bif i.eqs then je6 C (je5 C n) 0 i.size fs else none
   |.array k e=>match C.T.at_ e,je5 C n e with
    |some j,some sh=>bif i.eqs&&Nat.beq i.size (k*j.size) then some (List.replicate k sh).flatten else none
    |_,_=>none
   |_=>none
  |none=>none
def eqM(C:Cx)(k:EK)(t:TypeId)(x y:Operand):Bool:=
 match C.T.at_ t with
 |some i=>match k,i.u with
  |.bool,.bool=>true
  |.ptr,.ptr e=>match C.T.at_ e with
   |some j=>!(Nat.beq j.size 0)
   |none=>false
  |.slice,.slice _=>true
  |.map,.map ..=>true
  |.fn,.func=>true
  |.iface,.iface=>(x matches .const _)||(y matches .const _)
  |.agg sh,.struct _=>i.eqs&&je5 C 20 t == some sh
  |.agg sh,.array ..=>i.eqs&&je5 C 20 t == some sh
  |_,_=>false
 |none=>false
def isU(C:Cx)(t:TypeId)(f:UD->Bool):Bool:=
 match C.T.at_ t with
 |some i=>f i.u
 |none=>false
def jl1(C:Cx)(t:TypeId):Bool:=isU C t fun
 |.slice e=>isU C e (fun|.int .u8=>true|_=>false)
 |_=>false
def jqa(C:Cx)(e:TypeId)(n sz:Nat)(z:List V):Bool:=
 jb3 C e sz&&(Nat.beq (n*sz) 0&&z.isEmpty||(match C.T.at_ e with
   |some i=>match i.zero with
    |some y=>Nat.beq y.cells.length sz&&V.sames (List.replicate n y.cells).flatten z
    |none=>false
   |none=>false))
def lenT(C:Cx)(n:Int):UD->Bool
 |.array k _=>n == (k:Int)
 |.ptr a=>isU C a fun
  |.array k _=>n == (k:Int)
  |_=>false
 |_=>false
def jk4(C:Cx)(e:TypeId)(sz:Nat):Bool:=
 match C.T.at_ e with
 |some i=>match i.zero with
  |some y=>Nat.beq y.cells.length sz
  |none=>false
 |none=>false
def jgF(C:Cx)(u:UD)(i off n:Nat):Bool:=
 match u with
 |.struct fs=>match fs[i]? with
  |some (o,t)=>Nat.beq o off&&jb3 C t n
  |none=>false
 |.array _ e=>jb3 C e n&&Nat.beq off (i*n)
 |_=>false
def jcT(C:Cx)(u:UD):List (Nat×Nat×Opd)->List (Nat×Operand)->Bool
 |[],[]=>true
 |(off,n,x)::r,(i,y)::s=>opdM C x y&&jcT C u r s&&jgF C u i off n
 |_,_=>false
def jkn(C:Cx):UD->Bool
 |.struct fs=>fs.all fun q=>(C.T.at_ q.2).isSome
 |.array _ e=>(C.T.at_ e).isSome
 |_=>false
def jii(C:Cx):List (Nat×Opd)->List (Nat×Operand)->Bool
 |[],[]=>true
 |(i,x)::r,(j,y)::s=>Nat.beq i j&&opdM C x y&&jii C r s
 |_,_=>false
def argT(C:Cx)(ts:Array TypeId)(i:Nat)(f:UD->Bool):Bool:=
 match ts[i]? with
 |some t=>isU C t f
 |none=>false
def jha(C:Cx)(ts:Array TypeId)(f:TypeId->Bool):Bool:=
 match ts[0]? with
 |some t=>isU C t fun|.slice e=>f e|_=>false
 |none=>false
def jgN(C:Cx)(ts:Array TypeId):Bool:=
 match ts[1]? with
 |some t=>isU C t fun|.int _=>false|_=>true
 |none=>true
def iM(P:Program)(C:Cx):I->Op->Bool
 |.mv x,.move y=>opdM C x y
 |.mv x,.assign y=>opdM C x y
 |.mv (.c (.int .i64 n)),.call {callee:= .builtin .len,argTypes:=ts,args:=as}=>
  !as.isEmpty&&argT C ts 0 (lenT C n)
 |.pick c a b,.pick c' a' b'=>opdM C c c'&&opdM C a a'&&opdM C b b'
 |.alloc sz z,.alloc t=>jb3 C t sz&&jdY C t z&&Nat.beq z.length sz
 |.box sz x,.box t y=>jb3 C t sz&&opdM C x y
 |.build z ps,.build t qs=>jdY C t z&&(match C.T.at_ t with|some i=>jkn C i.u&&jcT C i.u ps qs.toList|none=>false)
 |.bslice sz len z ps,.buildSlice t n qs=>
  Nat.beq len n&&isU C t (fun|.slice e=>jqa C e n sz z|_=>false)&&jii C ps qs.toList&&Nat.ble (n*sz) (2 ^ 24)
 |.load1 a,.load t b=>jf7 C t none&&opdM C a b
 |.loadN n a,.load t b=>jf7 C t (some n)&&opdM C a b
 |.store n a v,.store t b w=>jb3 C t n&&opdM C a b&&opdM C v w
 |.nilck x,.nilCheck y=>opdM C x y
 |.mkBcl f x,.makeFunc (.func g) first cap=>Nat.beq f g&&jcc C [x] first.toList&&cap.isEmpty
 |.bin op x y,.binOp op' _ x' y' _=>op == op'&&opdM C x x'&&opdM C y y'
 |.eq k neg x y,.binOp op t x' y' _=>(if neg then op == .neq else op == .eql)&&opdM C x x'&&opdM C y y'&&eqM C k t x' y'
 |.un op x,.unOp op' _ y=>op == op'&&opdM C x y
 |.convInt k x,.convert s d y=>opdM C x y&&isU C d (fun|.int k'=>k == k'|_=>false)&&isU C s (fun|.int _=>true|_=>false)
 |.ofBytes x,.convert s d y=>opdM C x y&&jl1 C s&&isU C d (fun|.str=>true|_=>false)
 |.mark x,.convert s d y=>opdM C x y&&Nat.beq s d&&jl1 C d
 |.mkClo f cs,.makeFunc (.func g) first cap=>Nat.beq f g&&first.isEmpty&&jcc C cs cap.toList
 |.mkSlice sz bytes z l c,.makeSlice t l' c'=>
  opdM C l l'&&opdM C c c'&&isU C t fun|.slice e=>jb3 C e sz&&jiA C e bytes&&jdY C e z&&Nat.beq z.length sz|_=>false
 |.sliceS x lo hi,.slice t y lo' cA none=>opdM C x y&&opdO C lo lo'&&opdO C hi cA&&isU C t fun|.str=>true|_=>false
 |.slice sz x lo hi mx,.slice t y lo' cA mx'=>opdM C x y&&opdO C lo lo'&&opdO C hi cA&&opdO C mx mx'&&isU C t fun|.slice e=>jb3 C e sz|_=>false
 |.faddr off x,.fieldAddr t y i=>opdM C x y&&isU C t fun
   |.struct fs=>match fs[i]? with
    |some (o,ft)=>Nat.beq o off&&(match C.T.at_ ft with|some j=>!(Nat.beq j.size 0)|none=>false)
    |none=>false
   |_=>false
 |.field off n x,.field t y i=>opdM C x y&&isU C t fun
   |.struct fs=>match fs[i]? with
    |some (o,ft)=>Nat.beq o off&&jf7 C ft n
    |none=>false
   |_=>false
 |.ixaA len sz x i,.indexAddr t y j=>opdM C x y&&opdM C i j&&isU C t fun|.array k e=>Nat.beq k len&&jb3 C e sz|_=>false
 |.ixaS sz x i,.indexAddr t y j=>opdM C x y&&opdM C i j&&isU C t fun|.slice e=>jb3 C e sz|_=>false
 |.ixA len sz n x i,.index t y j=>opdM C x y&&opdM C i j&&isU C t fun|.array k e=>Nat.beq k len&&jb3 C e sz&&jf7 C e n|_=>false
 |.ixStr x i,.index t y j=>opdM C x y&&opdM C i j&&isU C t fun|.str=>true|_=>false
 |.extract x i,.extract y j=>opdM C x y&&Nat.beq i j
 |.call f args,.call {callee:= .value (.func g),args:=args',argTypes:=_}=>Nat.beq f g&&jcc C args args'.toList
 |.callv x args,.call {callee:= .value y,args:=args',argTypes:=_}=>opdM C x y&&jcc C args args'.toList
 |.lenS x,.call {callee:= .builtin .len,args:=args',argTypes:=ts}=>
  jcc C [x] args'.toList&&argT C ts 0 fun|.str=>true|_=>false
 |.lenL x,.call {callee:= .builtin .len,args:=args',argTypes:=ts}=>
  jcc C [x] args'.toList&&argT C ts 0 fun|.slice _=>true|_=>false
 |.append sz bytes x y,.call {callee:= .builtin .append,args:=args',argTypes:=ts}=>
  jcc C [x,y] args'.toList&&jgN C ts&&jha C ts fun e=>jb3 C e sz&&jiA C e bytes && !(Nat.beq bytes 0)&&jk4 C e sz
 |.copy sz x y,.call {callee:= .builtin .copy,args:=args',argTypes:=ts}=>
  jcc C [x,y] args'.toList&&jha C ts fun e=>jb3 C e sz
 |.minI xs,.call {callee:= .builtin .min,args:=args',argTypes:=_}=>jcc C xs args'.toList
 |.fail,_=>true
 |_,_=>false
def Opd.slots:Opd->List Nat
 |.t s=>[s]
 |.c _=>[]
def jjm:Option Opd->List Nat
 |some x=>x.slots
 |none=>[]
def jlh(l:List Opd):List Nat:=l.flatMap Opd.slots
def I.slots:I->List Nat
 |.mv x|.box _ x|.load1 x|.loadN _ x|.nilck x|.mkBcl _ x|.un _ x|.convInt _ x|.ofBytes x|.mark x|.faddr _ x|.field _ _ x|.extract x _|.lenS x|.lenL x=>x.slots
 |.pick c a b=>c.slots++a.slots++b.slots
 |.alloc .. | .fail=>[]
 |.build _ ps=>ps.flatMap fun p=>p.2.2.slots
 |.bslice _ _ _ ps=>ps.flatMap fun p=>p.2.slots
 |.store _ a b|.bin _ a b|.eq _ _ a b|.mkSlice _ _ _ a b|.ixaA _ _ a b|.ixaS _ a b|.ixA _ _ _ a b|.ixStr a b|.append _ _ a b|.copy _ a b=>a.slots++b.slots
 |.mkClo _ l|.call _ l|.minI l=>jlh l
 |.sliceS x lo hi=>x.slots++jjm lo++jjm hi
 |.slice _ x lo hi mx=>x.slots++jjm lo++jjm hi++jjm mx
 |.callv x l=>x.slots++jlh l
def jiz:Option (Nat×Bool)->List Nat
 |some (s,_)=>[s]
 |none=>[]
def Ins.looks(s:Ins):List Nat:=jiz s.guard++s.i.slots
def jjs(ops:Array Oper):Option (Nat×Bool)->Option (Nat×Bool)->Bool
 |none,none=>true
 |some (s,b),some (j,b')=>b == b'&&(match ops[j]? with|some o=>o.dst == some s|none=>false)
 |_,_=>false
def insM(P:Program)(C:Cx)(nt:Nat)(ops:Array Oper)(s:Ins):Bool:=
 match ops[s.ix]? with
 |some o=>s.dst == o.dst&&(match s.dst with|some d=>Nat.blt d nt|none=>true)&&jjs ops s.guard o.guard&&iM P C s.i o.op
 |none=>false
def jpw{α:Type}(n:Nat)(k:Nat -> α):α:= match n with|0=>k 0|m+1=>k (m+1)
def jdK(o:Oper):List Nat:=o.after.toList.filterMap fun e=>if Region.binds .any e then some e.on else none
def Ins.clooks(s:Ins):List Nat:=s.chk.flatMap fun c=>c.1::(jiz c.2.2++c.2.1.slots)
def Opd.same:Opd->Opd->Bool
 |.t a,.t b=>Nat.beq a b
 |.c a,.c b=>V.same a b
 |_,_=>false
def I.sameR:I->I->Bool
 |.load1 a,.load1 b=>a.same b
 |.loadN n a,.loadN m b=>Nat.beq n m&&a.same b
 |.ofBytes a,.ofBytes b=>a.same b
 |_,_=>false
def ssaM(a b:Ins):Bool:=
 match b.dst with
 |some d=>!(a.looks.contains d) && !(a.clooks.contains d)&&a.dst != some d
 |none=>true
def jqb(a b:Ins):Bool:=
 (match a.dst with|some d=>!(b.looks.contains d)|none=>true) &&
 match a.i.cls,b.i.cls with
 |.P,_|_,.P|.R,.R|.R,.A|.A,.A|.E,.A=>true
 |.R,.E=>match a.dst with
  |some d=>b.chk.any fun c=>Nat.beq c.1 d&&I.sameR c.2.1 a.i&&c.2.2 == a.guard
  |none=>false
 |_,_=>false
def okM(a:Ins):Bool:=
 (a.i.cls == .E||a.chk.isEmpty)&&(a.i.cls != .R||(match a.dst with|some d=>!(a.looks.contains d)|none=>true))
def jmO(bef:List Nat):List Ins->Bool
 |[]=>true
 |a::r=>okM a&&(r.all fun b=>(Nat.testBit (bef.getD b.ix 0) a.ix&&a.i.cls != .R)||ssaM a b&&(Nat.testBit (bef.getD b.ix 0) a.ix||jqb a b))&&jmO bef r
def befL(ops:List Oper):List Nat->List Nat
 |acc=>match ops with
  |[]=>acc.reverse
  |o::r=>jpw ((jdK o).foldl (fun s e=>s |||2 ^ e |||acc.reverse.getD e 0) 0) fun v=>befL r (v::acc)
def jlc(ops:Array Oper):List Ins->Nat->Bool
 |[],done=>Nat.beq done (2 ^ ops.size-1)
 |s::r,done=>
  !(Nat.testBit done s.ix)&&(match ops[s.ix]? with|some o=>(jdK o).all (fun e=>Nat.testBit done e)|none=>false) &&
   jpw (done |||2 ^ s.ix) fun d=>jlc ops r d
def seqM:List Ins->Nat->Bool
 |[],_=>true
 |s::r,n=>Nat.beq s.ix n&&s.at_.isNone&&s.chk.isEmpty&&seqM r (n+1)
def atsM(res:Nat):List Ins->Nat->Bool
 |[],_=>true
 |s::r,done=>match s.i.cls,s.at_ with
  |.A,some k=>Nat.blt k res && !(Nat.testBit done k)&&jpw (done |||2 ^ k) fun d=>atsM res r d
  |.A,none=>false
  |_,none=>atsM res r done
  |_,some _=>false
def joU(ops:Array Oper)(s:Ins):Bool:=
 match ops[s.ix]? with
 |some o=>match o.guard with
  |some (j,_)=>(jdK o).contains j
  |none=>true
 |none=>false
def joT(ops:Array Oper)(s:Ins):Bool:=
 match ops[s.ix]? with
 |some o=>match o.guard with
  |some (j,_)=>Nat.blt j s.ix
  |none=>true
 |none=>false
def jlT(P:Program)(C:Cx)(nt:Nat)(ops:Array Oper)(draw:Bool)(res:Nat)(l:List Ins):Bool:=
 l.all (insM P C nt ops)&&Nat.beq l.length ops.size &&
 bif draw then jlc ops l 0&&jmO (befL ops.toList []) l&&atsM res l 0&&l.all (joU ops)
 else seqM l 0&&Nat.beq res 0&&l.all (joT ops)
def jcr(P:Program)(C:Cx)(nt:Nat):AC->Code->Bool
 |.skip,.skip=>true
 |.label l,.label l'=>Nat.beq l l'
 |.region res ops _,.region _ ops' draw=>jlT P C nt ops' draw res ops
 |.seq a b,.seq a' b'=>jcr P C nt a a'&&jcr P C nt b b'
 |.cond c a b,.cond c' a' b'=>opdM C c c'&&jcr P C nt a a'&&jcr P C nt b b'
 |.block i b,.block i' b'=>Nat.beq i i'&&jcr P C nt b b'
 |.loop _ b,.loop b'=>jcr P C nt b b'
 |.rangeFunc f ps _ a b,.rangeFunc f' ps' a' b'=>opdM C f f'&&ps == ps'.toList&&ps.all (Nat.blt · nt)&&jcr P C nt a a'&&jcr P C nt b b'
 |.exit i,.exit i'=>Nat.beq i i'
 |.ret,.ret=>true
 |.scope b,.scope b'=>jcr P C nt b b'
 |_,_=>false
def rvM(C:Cx):List RV->List ResultVar->Bool
 |[],[]=>true
 |.tmp s::r,.tmp s'::r'=>Nat.beq s s'&&rvM C r r'
 |.cell1 s::r,.cell s' t::r'=>Nat.beq s s'&&jf7 C t none&&rvM C r r'
 |.cellN s n::r,.cell s' t::r'=>Nat.beq s s'&&jf7 C t (some n)&&rvM C r r'
 |_,_=>false
def fnM(P:Program)(C:Cx)(f:FuncId)(a:AFn):Bool:=
 match P.funcs[f]? with
 |some fn=>match fn.body with
  | some c=>!(fn.name == "runtime.NumGoroutine")&&Nat.beq fn.ntmps a.nt&&Nat.ble a.np a.nt&&rvM C a.res fn.results.toList&&jcr P C a.nt a.body c
  |none=>false
 |none=>false
end Am
