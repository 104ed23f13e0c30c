/- Our own library, part 15. -/
import Derived.KernelRfl
import Derived.Test.YtkhkjhojpoandaaGreatDoorW11
import Derived.Test.YtkhkjhojpoandaaGreatDoorW10
import Derived.Test.YtkhkjhojpoandaaGreatDoorW14
import Derived.Test.YtkhkjhojpoandaaGreatDoorW01
import Derived.Test.YtkhkjhojpoandaaGreatDoorW13
set_option maxHeartbeats 8000000
set_option maxRecDepth 800
set_option linter.all false
namespace Am.Sigs
open Am Go
abbrev fuel:Nat:=100000
def Sem (cl:Nat->Call):Prop:=(∀ d,cl d=jaD prog fuel d) \/ ∀ d,cl d=jaD jaK fuel d
theorem jeV {f g:Nat} {p:Prim} {l:List (Nat × Prim)} (h:jaQ ((g,p) :: l) f=none):jaQ l f=none:=by
 simp only [jaQ] at h
 revert h
 generalize Nat.beq _ f=b
 cases b with
 | true=>intro h;cases h
 | false=>exact fun h=>h
theorem primT {f:Nat} (h:jaQ prog.prims f=none):jaQ jaK.prims f=none:=jeV (jeV (jeV (h)))
theorem at_ {cl:Nat->Call} (hcl:Sem cl) {d f:Nat} {fn:AFn} {args:List V} {h:H} {R:V->H->Prop} (hd:0<d) (hp:jaQ prog.prims f=none) (hf:jaQ prog.fns f=some fn) (hl:(args.length == fn.np)=true)
  (k:Run (cl (d-1)) fuel fn.body [] (Env.ofArgs args 0) h (Fin fn.res R)) : ∃ v h',cl d (.fn f) args h=some (v,h')/\R v h':=by
 rcases hcl with hcl | hcl
 ·rw [hcl d];rw [hcl (d-1)] at k;exact jlL hd hp hf hl k
 ·rw [hcl d];rw [hcl (d-1)] at k;exact jlL hd (primT hp) hf hl k
def isS:Option Obj->Nat
 | some _=>1
 | none=>0
def up:Nat->Nat
 | 0=>0
 | n+1=>2*n+3
def ttop:T->Nat
 | .lf=>0
 | .nd v l r=>Nat.max (isS v) (Nat.max (2*(ttop l)) (up (ttop r)))
theorem aT {cl:Nat->Call} (hcl:Sem cl) {d f:Nat} {fn:AFn} {args:List V} {h:H} {R:V->H->Prop} (k:Run (cl (d-1)) fuel fn.body [] (Env.ofArgs args 0) h (Fin fn.res R)) (hd:0<d:=by omega) (hp:jaQ prog.prims f=none:=by exact rfl) (hf:jaQ prog.fns f=some fn:=by exact rfl) (hl:(args.length==fn.np)=true:=by exact rfl):∃ v h',cl d (.fn f) args h=some (v,h') /\ R v h':=at_ hcl hd hp hf hl k
theorem jhl : ∀ (t:T) (k:Nat),(ttop t)<=k->t.get k=none
 | .lf,_,_=>rfl
 | .nd v l r,k,h=>by
  have h1:Nat.max (isS v) (Nat.max (2*(ttop l)) (up (ttop r)))<=k:=h
  have a1:=zu (Nat.le_max_left _ _) h1
  have a2:=zu (Nat.le_max_left _ _) (zu (Nat.le_max_right _ _) h1)
  have a3:=zu (Nat.le_max_right _ _) (zu (Nat.le_max_right _ _) h1)
  rw [T.get_nd]
  by_cases k0:k=0
  ·subst k0
   rw [zg rfl]
   cases v with
   | none=>rfl
   | some _=>simp [isS] at a1
  ·rw [zb k0]
   by_cases ko:k%2=1
   ·rw [zg ko];exact jhl l _ om
   ·rw [zb ko]
    refine jhl r _ ?_
    cases e:(ttop r) with
    | zero=>omega
    | succ n=>rw [e] at a3;simp [up] at a3;omega
end Am.Sigs
namespace Am
open Go
noncomputable def jnV (n:Nat) (f:Nat->Option V):Option V:=Nat.rec (f 0) (fun k _=>f (Nat.succ k)) n
theorem jjr (n:Nat) (f:Nat->Option V):jnV n f=f n:=by cases n<;>rfl
noncomputable def jcH (k:IntKind) (n:Int):Option V:=Int.rec (fun m=>jnV m fun m=>some (.int k (.ofNat m))) (fun m=>jnV m fun m=>some (.int k (.negSucc m))) n
theorem jaX (k:IntKind) (n:Int):jcH k n=some (.int k n):=by
 cases n with
 | ofNat m=>unfold jcH;exact jjr m _
 | negSucc m=>unfold jcH;exact jjr m _
noncomputable def maxN:IntKind->Nat
 | .i8=>127 | .i16=>32767 | .i32=>2147483647 | .i64=>9223372036854775807
 | .u8=>255 | .u16=>65535 | .u32=>4294967295 | .u64=>18446744073709551615
noncomputable def minN:IntKind->Nat
 | .i8=>128 | .i16=>32768 | .i32=>2147483648 | .i64=>9223372036854775808
 | _=>0
noncomputable def je7 (k:IntKind) (n:Int):Int:=Int.rec (fun m=>bif Nat.ble m (maxN k) then n else k.wrap n) (fun m=>bif Nat.blt m (minN k) then n else k.wrap n) n
theorem jbn (k:IntKind) (n:Int):je7 k n=k.wrap n:=by
 cases n with
 | ofNat m=>
  show (bif Nat.ble m (maxN k) then (Int.ofNat m) else k.wrap (Int.ofNat m))=_
  cases e:Nat.ble m (maxN k)
  ·rfl
  ·have h:=zp e
   have h0:Int.ofNat m=(m:Int):=rfl
   cases k<;>simp only [maxN] at h<;>simp only [cond_true,IntKind.wrap,IntKind.bits,IntKind.signed,h0]<;>(try simp only [Bool.false_and,Bool.true_and,zq,zA,if_false])<;>(first | omega | (split<;>omega))
 | negSucc m=>
  show (bif Nat.blt m (minN k) then (Int.negSucc m) else k.wrap (Int.negSucc m))=_
  cases e:Nat.blt m (minN k)
  ·rfl
  ·have h:m<minN k:=zp e
   have h0:Int.negSucc m = -(m:Int)-1:=by omega
   cases k<;>simp only [minN] at h<;>(try omega)<;>simp only [cond_true,IntKind.wrap,IntKind.bits,IntKind.signed,h0]<;>(try simp only [Bool.true_and,zq])<;>(split<;>omega)
noncomputable def ltF:Int->Int->Bool
 | .ofNat a,.ofNat b=>Nat.blt a b
 | .ofNat _,.negSucc _=>false
 | .negSucc _,.ofNat _=>true
 | .negSucc a,.negSucc b=>Nat.blt b a
theorem jof (a b:Nat):Nat.blt a b=decide (a<b):=by
 by_cases h:a<b
 ·rw [decide_eq_true h];exact Nat.ble_eq_true_of_le h
 ·rw [decide_eq_false h]
  cases e:Nat.blt a b
  ·rfl
  ·exact zw (zp e) h
theorem jl7 (a b:Int):ltF a b=decide (a<b):=by
 cases a with
 | ofNat a=>cases b with
  | ofNat b=>simp only [ltF,jof];exact decide_eq_decide.2 (show a<b↔((a:Nat):Int)<((b:Nat):Int) by omega)
  | negSucc b=>simp only [ltF];symm;rw [decide_eq_false_iff_not];show ¬ ((a:Nat):Int)<Int.negSucc b;omega
 | negSucc a=>cases b with
  | ofNat b=>simp only [ltF];symm;rw [zq];show Int.negSucc a<((b:Nat):Int);omega
  | negSucc b=>simp only [ltF,jof];exact decide_eq_decide.2 om
noncomputable def eqF:Int->Int->Bool
 | .ofNat a,.ofNat b=>Nat.beq a b
 | .negSucc a,.negSucc b=>Nat.beq a b
 | _,_=>false
theorem jlD (a b:Int):eqF a b=(a == b):=by
 cases a with
 | ofNat a=>cases b with
  | ofNat b=>
   simp only [eqF]
   by_cases h:a=b
   ·subst h;simp
   ·have h2:(Int.ofNat a == Int.ofNat b)=false:=by rw [beq_eq_false_iff_ne];intro e;exact h (by injection e)
    rw [h2]
    cases e:Nat.beq a b
    ·rfl
    ·exact zw (Nat.eq_of_beq_eq_true e) h
  | negSucc b=>simp only [eqF];symm;rw [beq_eq_false_iff_ne];intro e;cases e
 | negSucc a=>cases b with
  | ofNat b=>simp only [eqF];symm;rw [beq_eq_false_iff_ne];intro e;cases e
  | negSucc b=>
   simp only [eqF]
   by_cases h:a=b
   ·subst h;simp
   ·have h2:(Int.negSucc a == Int.negSucc b)=false:=by rw [beq_eq_false_iff_ne];intro e;exact h (by injection e)
    rw [h2]
    cases e:Nat.beq a b
    ·rfl
    ·exact zw (Nat.eq_of_beq_eq_true e) h
noncomputable def subF:Int->Int->Int
 | .ofNat a,.ofNat b=>bif Nat.ble b a then .ofNat (Nat.sub a b) else Int.sub (.ofNat a) (.ofNat b)
 | a,b=>Int.sub a b
theorem subF_eq (a b:Int):subF a b=a-b:=by
 cases a with
 | ofNat a=>cases b with
  | ofNat b=>
   show (bif Nat.ble b a then Int.ofNat (Nat.sub a b) else Int.sub (.ofNat a) (.ofNat b))=_
   cases e:Nat.ble b a
   ·rfl
   ·have h:=zp e
    show ((a-b:Nat):Int)=(a:Int)-(b:Int)
    omega
  | negSucc _=>rfl
 | negSucc _=>rfl
noncomputable def ikN:IntKind->Nat
 | .i8=>0 | .i16=>1 | .i32=>2 | .i64=>3 | .u8=>4 | .u16=>5 | .u32=>6 | .u64=>7
noncomputable def ikEq (a b:IntKind):Bool:=Nat.beq (ikN a) (ikN b)
theorem ikEq_eq (a b:IntKind):ikEq a b=(a == b):=by cases a<;>cases b<;>rfl
noncomputable def i_add (k:IntKind) (a b:Int):Option V:=jcH k (je7 k (Int.add a b))
noncomputable def i_sub (k:IntKind) (a b:Int):Option V:=jcH k (je7 k (subF a b))
noncomputable def i_mul (k:IntKind) (a b:Int):Option V:=jcH k (je7 k (Int.mul a b))
noncomputable def i_eql (_:IntKind) (a b:Int):Option V:=some (.bool (eqF a b))
noncomputable def i_neq (_:IntKind) (a b:Int):Option V:=some (.bool !(eqF a b))
noncomputable def i_lss (_:IntKind) (a b:Int):Option V:=some (.bool (ltF a b))
noncomputable def i_gtr (_:IntKind) (a b:Int):Option V:=some (.bool (ltF b a))
noncomputable def i_leq (_:IntKind) (a b:Int):Option V:=some (.bool !(ltF b a))
noncomputable def i_geq (_:IntKind) (a b:Int):Option V:=some (.bool !(ltF a b))
noncomputable def jqs (k:IntKind) (a b:Int):Option V:=bif eqF b 0 then none else jcH k (je7 k (a.tdiv b))
noncomputable def jqr (k:IntKind) (a b:Int):Option V:=bif eqF b 0 then none else jcH k (a.tmod b)
noncomputable def toF (k:IntKind):Int->Nat
 | .ofNat a=>Nat.mod a (Nat.pow 2 k.bits)
 | .negSucc a=>Nat.sub (Nat.pow 2 k.bits) (Nat.succ (Nat.mod a (Nat.pow 2 k.bits)))
theorem jdO (k:IntKind) (a:Int):toF k a=(BitVec.ofInt k.bits a).toNat:=by
 have hp:0<2 ^ k.bits:=Nat.pow_pos (by decide)
 rw [BitVec.toNat_ofInt]
 cases a with
 | ofNat a=>show a%2 ^ k.bits=_;rfl
 | negSucc a=>
  show 2 ^ k.bits-Nat.succ (a%2 ^ k.bits)=_
  have h1:a%2 ^ k.bits<2 ^ k.bits:=Nat.mod_lt _ hp
  have h2:=Nat.div_add_mod a (2 ^ k.bits)
  have h3:Int.negSucc a = -(a:Int)-1:=by omega
  have h4:(Int.negSucc a)%((2 ^ k.bits:Nat):Int)=((2 ^ k.bits-Nat.succ (a%2 ^ k.bits):Nat):Int):=by
   have e:Int.negSucc a=((2 ^ k.bits-Nat.succ (a%2 ^ k.bits):Nat):Int)+((2 ^ k.bits:Nat):Int)*(-((a/2 ^ k.bits:Nat):Int)-1):=by
    rw [h3,Int.mul_sub,Int.mul_neg,Int.mul_one]
    have h5:(a:Int)=((2 ^ k.bits:Nat):Int)*((a/2 ^ k.bits:Nat):Int)+((a%2 ^ k.bits:Nat):Int):=by exact_mod_cast h2.symm
    omega
   rw [e,Int.add_mul_emod_self_left]
   exact Int.emod_eq_of_lt om om
  rw [h4];rfl
noncomputable def i_and (k:IntKind) (a b:Int):Option V:=jcH k (je7 k (.ofNat (Nat.land (toF k a) (toF k b))))
noncomputable def i_or (k:IntKind) (a b:Int):Option V:=jcH k (je7 k (.ofNat (Nat.lor (toF k a) (toF k b))))
noncomputable def i_xor (k:IntKind) (a b:Int):Option V:=jcH k (je7 k (.ofNat (Nat.xor (toF k a) (toF k b))))
noncomputable def i_andNot (k:IntKind) (a b:Int):Option V:=jcH k (je7 k (.ofNat (Nat.land (toF k a) (Nat.sub (Nat.sub (Nat.pow 2 k.bits) 1) (toF k b)))))
noncomputable def minF (a b:Nat):Nat:=bif Nat.ble a b then a else b
noncomputable def jr6 (k:IntKind) (a b:Int):Option V:=Int.rec (fun b=>jcH k (je7 k (Int.mul a (.ofNat (Nat.pow 2 (minF b k.bits)))))) (fun _=>none) b
noncomputable def jr5 (k:IntKind) (a b:Int):Option V:=Int.rec (fun b=>Int.rec (fun a=>jcH k (.ofNat (Nat.div a (Nat.pow 2 (minF b k.bits))))) (fun a=>jcH k (Int.fdiv (.negSucc a) (2 ^ (Nat.min b k.bits)))) a) (fun _=>none) b
noncomputable def jlA (op:BinOp):IntKind->Int->Int->Option V :=
 match op with
 | .add=>i_add
 | .sub=>i_sub
 | .mul=>i_mul
 | .quo=>jqs
 | .rem=>jqr
 | .and=>i_and
 | .or=>i_or
 | .xor=>i_xor
 | .andNot=>i_andNot
 | .eql=>i_eql
 | .neq=>i_neq
 | .lss=>i_lss
 | .leq=>i_leq
 | .gtr=>i_gtr
 | .geq=>i_geq
 | .shl=>jr6
 | .shr=>jr5
theorem jgc (a b:Int):(!decide (b<a))=decide (a<=b):=by by_cases h:b<a<;>simp [h]<;>omega
theorem jnG (a b:Nat):minF a b=Nat.min a b:=by
 unfold minF
 cases e:Nat.ble a b
 ·have : ¬ a<=b:=fun h=>by rw [Nat.ble_eq_true_of_le h] at e;cases e
  simp only [cond_false];exact (Nat.min_eq_right om).symm
 ·exact (Nat.min_eq_left (zp e)).symm
theorem intOpF_eq (op:BinOp) (k:IntKind) (a b:Int):jlA op k a b=jbe op k a b:=by
 cases op
 case add=>exact (jaX _ _).trans (by rw [jbn];rfl)
 case sub=>exact (jaX _ _).trans (by rw [jbn,subF_eq];rfl)
 case mul=>exact (jaX _ _).trans (by rw [jbn];rfl)
 case quo=>show jqs k a b=_;unfold jqs;rw [jlD,jaX,jbn];rfl
 case rem=>show jqr k a b=_;unfold jqr;rw [jlD,jaX];rfl
 case and=>exact (jaX _ _).trans (by rw [jbn,jdO,jdO];simp only [jbe,BitVec.toNat_and];rfl)
 case or=>exact (jaX _ _).trans (by rw [jbn,jdO,jdO];simp only [jbe,BitVec.toNat_or];rfl)
 case xor=>exact (jaX _ _).trans (by rw [jbn,jdO,jdO];simp only [jbe,BitVec.toNat_xor];rfl)
 case andNot=>exact (jaX _ _).trans (by rw [jbn,jdO,jdO];simp only [jbe,BitVec.toNat_and,BitVec.toNat_not];rfl)
 case shl=>
  cases b with
  | negSucc b=>simp [jlA,jr6,jbe]
  | ofNat b=>
   refine (jaX _ _).trans ?_
   have h1:decide ((Int.ofNat b)<0)=false:=by simp
   simp only [jbe,h1,cond_false,jbn,jnG]
   congr 3
 case shr=>
  cases b with
  | negSucc b=>simp [jlA,jr5,jbe]
  | ofNat b=>
   have h1:decide ((Int.ofNat b)<0)=false:=by simp
   simp only [jbe,h1,cond_false]
   cases a with
   | negSucc a=>exact jaX _ _
   | ofNat a=>
    show jcH k (.ofNat (Nat.div a (Nat.pow 2 (minF b k.bits))))=_
    rw [jaX,jnG]
    congr 2
    have h2:((2:Int) ^ (Nat.min b k.bits))=((2 ^ (Nat.min b k.bits):Nat):Int):=(Int.natCast_pow 2 _).symm
    have h3:Int.fdiv (Int.ofNat a) ((2 ^ (Nat.min b k.bits):Nat):Int)=((a/2 ^ (Nat.min b k.bits):Nat):Int):=Int.ofNat_fdiv a _ |>.symm
    show _=Int.fdiv (Int.ofNat a) (2 ^ (Nat.min b k.bits))
    rw [h2,h3];rfl
 case eql=>show some _=some _;rw [jlD]
 case neq=>show some (V.bool !(eqF a b))=_;rw [jlD];rfl
 case lss=>show some (V.bool (ltF a b))=_;rw [jl7];rfl
 case gtr=>show some (V.bool (ltF b a))=_;rw [jl7];rfl
 case leq=>show some (V.bool !(ltF b a))=_;rw [jl7,jgc];rfl
 case geq=>show some (V.bool !(ltF a b))=_;rw [jl7,jgc];rfl
noncomputable def jog (op:BinOp):V->V->Option V
 | .int k a,.int k' b=>bif jbb op||ikEq k k' then jlA op k a b else none
 | .str a,.str b=>joU op a b
 | _,_=>none
theorem binOpF_eq (op:BinOp) (a b:V):jog op a b=binOp op a b:=by
 cases a<;>cases b<;>first | rfl | (simp only [jog,binOp,ikEq_eq,intOpF_eq])
noncomputable def getF (e:Env) (s:Nat):Option V:=List.rec (motive:=fun _=>Option V) none (fun p _ ih=>bif Nat.beq p.1 s then some p.2 else ih) e
theorem jhm : ∀ (e:Env) (s:Nat),getF e s=e.get s
 | [],_=>rfl
 | (k,v) :: r,s=>by
  show (bif Nat.beq k s then some v else getF r s)=_
  rw [jhm r s];rfl
noncomputable def evF (x:Opd) (e:Env):Option V:=Opd.rec (fun s=>getF e s) (fun v=>some v) x
theorem jaq (x:Opd) (e:Env):evF x e=x.ev e:=by
 cases x
 ·exact jhm _ _
 ·rfl
noncomputable def evsF (e:Env):List Opd->Option (List V)
 | []=>some []
 | x :: r=>match evF x e,evsF e r with
  | some v,some l=>some (v :: l)
  | _,_=>none
theorem jc4 (e:Env) : ∀ l,evsF e l=evs e l
 | []=>rfl
 | x :: r=>by simp only [evsF,evs,jaq,jc4 e r];rfl
theorem jqp (a b:Nat):Nat.beq a b=(a == b):=by
 by_cases h:a=b
 ·subst h;simp
 ·rw [show (a == b)=false by simpa using h]
  cases e:Nat.beq a b
  ·rfl
  ·exact zw (Nat.eq_of_beq_eq_true e) h
noncomputable def fin1 (o:Option V) (h:H):Option (V × H):=Option.rec none (fun v=>some (v,h)) o
noncomputable def finA (o:Option (Obj × (Nat->V))) (h:H) (at_:Option Nat):Option (V × H):=match o with
 | some (ob,mk)=>match at_ with
  | none=>some (mk h.nx,h.new ob)
  | some b=>some (mk b,h.set b ob)
 | none=>none
theorem jar (o:Option V) (h:H):fin1 o h=(match o with | some v=>some (v,h) | none=>none):=by cases o<;>rfl
noncomputable def jlv (up:Bool) (x:Opd) (e:Env):Option V :=
 match evF x e with
  | some v=>some (jlt up v)
  | none=>none
noncomputable def jr1 (x:Opd) (e:Env):Option V :=
 match evF x e with
  | some v=>some (v)
  | none=>none
noncomputable def jn6 (c:Opd) (a:Opd) (b:Opd) (e:Env):Option V :=
 match evF c e with
  | some (.bool true)=>match evF a e with
   | some v=>some (v)
   | none=>none
  | some (.bool false)=>match evF b e with
   | some v=>some (v)
   | none=>none
  | _=>none
noncomputable def jl1 (zero:List V) (parts:List (Nat × Nat × Opd)) (e:Env):Option V :=
 match jaS e parts with
  | some ps=>match jaL zero ps with
   | some l=>some (.agg l)
   | none=>none
  | none=>none
noncomputable def jlw (x:Opd) (e:Env):Option V :=
 match evF x e with
  | some (.ptr (some a))=>some (.ptr (some a))
  | some (.clo f c)=>some (.clo f c)
  | some (.yld l)=>some (.yld l)
  | some (.iface t v)=>some (.iface t v)
  | _=>none
noncomputable def jn7 (name:String) (x:Opd) (e:Env):Option V :=
 match evF x e with
  | some (.iface t v)=>some (.bm name t v)
  | _=>none
noncomputable def jiW (name:String) (tbl:List (TypeId × FuncId)) (x:Opd) (e:Env):Option V :=
 match evF x e with
  | some (.bm n t v)=>bif n == name&&tbl.any (fun p=>p.1 == t) then some (.bm n t v) else none
  | _=>none
noncomputable def jpf (op:BinOp) (x:Opd) (y:Opd) (e:Env):Option V :=
 match evF x e,evF y e with
  | some a,some b=>match jog op a b with
   | some v=>some (v)
   | none=>none
  | _,_=>none
noncomputable def jr2 (k:EK) (neg:Bool) (x:Opd) (y:Opd) (e:Env):Option V :=
 match evF x e,evF y e with
  | some a,some b=>match eqOp k a b with
   | some r=>some (.bool (bif neg then !r else r))
   | none=>none
  | _,_=>none
noncomputable def jr0 (op:UnOp) (x:Opd) (e:Env):Option V :=
 match evF x e with
  | some a=>match unOp op a with
   | some v=>some (v)
   | none=>none
  | none=>none
noncomputable def jfZ (k:IntKind) (x:Opd) (e:Env):Option V :=
 match evF x e with
  | some (.int _ n)=>some (.int k (je7 k n))
  | _=>none
noncomputable def jfX (t:TypeId) (x:Opd) (e:Env):Option V :=
 match evF x e with
  | some v=>some (.iface t v)
  | none=>none
noncomputable def jlx (f:FuncId) (cap:List Opd) (e:Env):Option V :=
 match evsF e cap with
  | some l=>some (.clo f l)
  | none=>none
noncomputable def jiU (x:Opd) (lo:Option Opd) (hi:Option Opd) (e:Env):Option V :=
 match evF x e,evo e lo,evo e hi with
  | some (.str s),some lo,some hi=>match jbt s.length s.length lo hi none with
   | some (l,r,_)=>some (.str ((s.take r).drop l))
   | none=>none
  | _,_,_=>none
noncomputable def jlu (sz:Nat) (x:Opd) (lo:Option Opd) (hi:Option Opd) (mx:Option Opd) (e:Env):Option V :=
 match evF x e,evo e lo,evo e hi,evo e mx with
  | some (.slice a len cap),some lo,some hi,some mx=>match jbt len (cap.room len) lo hi mx with
   | some (l,r,m)=>
    match a with
    | none=>some (.slice none 0 (.fix 0))
    | some (b,o)=>match cap,mx with
     | .grow q,none=>bif Nat.beq q sz then some (.slice (some (b,o+l*sz)) (r-l) (.grow q)) else none
     | .least q k,none=>bif Nat.beq q sz then some (.slice (some (b,o+l*sz)) (r-l) (.least q (k-l))) else none
     | _,_=>some (.slice (some (b,o+l*sz)) (r-l) (.fix (m-l)))
   | none=>none
  | _,_,_,_=>none
noncomputable def jiV (n:Nat) (sz:Nat) (x:Opd) (lo:Option Opd) (hi:Option Opd) (mx:Option Opd) (e:Env):Option V :=
 match evF x e,evo e lo,evo e hi,evo e mx with
  | some (.ptr (some (b,o))),some lo,some hi,some mx=>match jbt n n lo hi mx with
   | some (l,r,m)=>some (.slice (some (b,o+l*sz)) (r-l) (.fix (m-l)))
   | none=>none
  | _,_,_,_=>none
noncomputable def jl0 (off:Nat) (x:Opd) (e:Env):Option V :=
 match evF x e with
  | some (.ptr (some (b,o)))=>some (.ptr (some (b,o+off)))
  | _=>none
noncomputable def jlz (off:Nat) (n:Option Nat) (x:Opd) (e:Env):Option V :=
 match evF x e with
  | some (.agg l)=>match part l off n with
   | some v=>some (v)
   | none=>none
  | _=>none
noncomputable def jnD (len:Nat) (sz:Nat) (x:Opd) (i:Opd) (e:Env):Option V :=
 match evF x e,evF i e with
  | some (.ptr (some (b,o))),some (.int _ n)=>bif below n len then some (.ptr (some (b,o+n.toNat*sz))) else none
  | _,_=>none
noncomputable def jnC (sz:Nat) (x:Opd) (i:Opd) (e:Env):Option V :=
 match evF x e,evF i e with
  | some (.slice (some (b,o)) len _),some (.int _ n)=>bif below n len then some (.ptr (some (b,o+n.toNat*sz))) else none
  | _,_=>none
noncomputable def jpe (len:Nat) (sz:Nat) (n:Option Nat) (x:Opd) (i:Opd) (e:Env):Option V :=
 match evF x e,evF i e with
  | some (.agg l),some (.int _ k)=>bif below k len then
    match part l (k.toNat*sz) n with
    | some v=>some (v)
    | none=>none
   else none
  | _,_=>none
noncomputable def jly (x:Opd) (i:Opd) (e:Env):Option V :=
 match evF x e,evF i e with
  | some (.str s),some (.int _ n)=>bif below n s.length then
    match s[n.toNat]? with
    | some b=>some (jmS b)
    | none=>none
   else none
  | _,_=>none
noncomputable def jnA (x:Opd) (e:Env):Option V :=
 match evF x e with
  | some (.str s)=>some (.int .i64 s.length)
  | _=>none
noncomputable def jnB (x:Opd) (e:Env):Option V :=
 match evF x e with
  | some (.slice _ n _)=>some (.int .i64 n)
  | _=>none
noncomputable def jfY (x:Opd) (i:Nat) (e:Env):Option V :=
 match evF x e with
  | some (.tup l)=>match l[i]? with
   | some v=>some (v)
   | none=>none
  | _=>none
noncomputable def jn8 (xs:List Opd) (e:Env):Option V :=
 match evsF e xs with
  | some (a :: r)=>match jho minV a r with
   | some v=>some (v)
   | none=>none
  | _=>none
noncomputable def jn9 (xs:List Opd) (e:Env):Option V :=
 match evsF e xs with
  | some (a :: r)=>match jho maxV a r with
   | some v=>some (v)
   | none=>none
  | _=>none
noncomputable def jlr (a:Opd) (e:Env) (h:H):Option V :=
 match evF a e with
  | some (.ptr (some (b,o)))=>match h.load1 b o with
   | some v=>some (v)
   | none=>none
  | _=>none
noncomputable def jlq (n:Nat) (a:Opd) (e:Env) (h:H):Option V :=
 match evF a e with
  | some (.ptr (some (b,o)))=>match h.load b o n with
   | some l=>some (.agg l)
   | none=>none
  | _=>none
noncomputable def jfR (x:Opd) (e:Env) (h:H):Option V :=
 match evF x e with
  | some (.slice none _ _)=>some (.str [])
  | some (.slice (some (b,o)) n _)=>bif n == 0 then some (.str []) else
   match h.load b o n with
   | some l=>match bytesOf l with
    | some s=>some (.str s)
    | none=>none
   | none=>none
  | _=>none
noncomputable def jiL (ks:KS) (zero:V) (ok:Bool) (m:Opd) (k:Opd) (e:Env) (h:H):Option V :=
 match evF m e,evF k e with
  | some (.map none),some k=>match jdJ ks k [] with
   | some _=>some (if ok then .tup [zero,.bool false] else zero)
   | none=>none
  | some (.map (some r)),some k=>match h.map? r with
   | some (es,_)=>match jdJ ks k es with
    | some (some (_,v,_))=>some (if ok then .tup [v,.bool true] else v)
    | some none=>some (if ok then .tup [zero,.bool false] else zero)
    | none=>none
   | none=>none
  | _,_=>none
noncomputable def jl5 (_x0:Nat) (zero:List V) (_e:Env):Option (Obj × (Nat->V)) :=
 some (.cells zero false,fun b=>.ptr (some (b,0)))
noncomputable def jpg (_x0:Nat) (x:Opd) (e:Env):Option (Obj × (Nat->V)) :=
 match evF x e with
  | some v=>some (.cells v.cells false,fun b=>.ptr (some (b,0)))
  | none=>none
noncomputable def jjc (sz:Nat) (len:Nat) (zero:List V) (parts:List (Nat × Opd)) (e:Env):Option (Obj × (Nat->V)) :=
 match jaS e (parts.map fun p=>(p.1*sz,sz,p.2)) with
  | some ps=>match jaL zero ps with
   | some l=>some (.cells l false,fun b=>.slice (some (b,0)) len (.fix len))
   | none=>none
  | none=>none
noncomputable def jgd (x:Opd) (e:Env):Option (Obj × (Nat->V)) :=
 match evF x e with
  | some (.str s)=>bif Nat.ble s.length (2 ^ 46) then some (.cells (s.map jmS) false,fun b=>.slice (some (b,0)) s.length (.grow 1)) else none
  | _=>none
noncomputable def jl4  (_e:Env):Option (Obj × (Nat->V)) :=
 some (.map [] 0,fun b=>.map (some b))
noncomputable def jge (_x0:Nat) (bytes:Nat) (zero:List V) (len:Opd) (cap:Opd) (e:Env):Option (Obj × (Nat->V)) :=
 match len.ev e,cap.ev e with
  | some (.int _ (.ofNat l)),some (.int _ (.ofNat c))=>
   bif Nat.ble l c&&Nat.ble (c*bytes) (2 ^ 46)&&Nat.ble c (2 ^ 46) then some (.cells (List.replicate c zero).flatten false,fun b=>.slice (some (b,0)) l (.fix c)) else none
  | _,_=>none
noncomputable def jlG (n:Nat) (a:Opd) (x:Opd) (_call:Call) (e:Env) (h:H):Option (V × H) :=
 match evF a e,evF x e with
  | some (.ptr (some (b,o))),some v=>
   bif Nat.beq v.cells.length n then
    match h.store b o v.cells with
    | some h'=>some (.undef,h')
    | none=>none
   else none
  | _,_=>none
noncomputable def jnX (ks:KS) (m:Opd) (k:Opd) (v:Opd) (_call:Call) (e:Env) (h:H):Option (V × H) :=
 match evF m e,evF k e,evF v e with
  | some (.map (some r)),some k,some v=>match h.map? r with
   | some (es,c)=>match jdJ ks k es with
    | some (some (i,_,born))=>some (.undef,h.set r (.map (es.set i (k,v,born)) c))
    | some none=>some (.undef,h.set r (.map (es++[(k,v,c)]) (c+1)))
    | none=>none
   | none=>none
  | _,_,_=>none
noncomputable def jnY (ks:KS) (m:Opd) (k:Opd) (_call:Call) (e:Env) (h:H):Option (V × H) :=
 match evF m e,evF k e with
  | some (.map none),some k=>match jdJ ks k [] with
   | some _=>some (.undef,h)
   | none=>none
  | some (.map (some r)),some k=>match h.map? r with
   | some (es,c)=>match jdJ ks k es with
    | some (some (i,_,_))=>some (.undef,h.set r (.map (es.eraseIdx i) c))
    | some none=>some (.undef,h)
    | none=>none
   | none=>none
  | _,_=>none
noncomputable def job (f:FuncId) (args:List Opd) (call:Call) (e:Env) (h:H):Option (V × H) :=
 match evsF e args with
  | some l=>call (.fn f) l h
  | none=>none
noncomputable def jlI (x:Opd) (args:List Opd) (call:Call) (e:Env) (h:H):Option (V × H) :=
 match evF x e,evsF e args with
  | some (.clo f cap),some l=>call (.fn f) (l++cap) h
  | some (.yld r),some l=>call (.yld r) l h
  | _,_=>none
noncomputable def jlJ (ms:MT) (x:Opd) (args:List Opd) (call:Call) (e:Env) (h:H):Option (V × H) :=
 match evF x e,evsF e args with
  | some (.clo f cap),some l=>call (.fn f) (l++cap) h
  | some (.yld r),some l=>call (.yld r) l h
  | some (.bm n t v),some l=>match ms.find? (fun p=>p.1 == n) with
   | some (_,tbl)=>match tbl.find? (fun p=>p.1 == t) with
    | some (_,f)=>call (.fn f) (v :: l) h
    | none=>none
   | none=>none
  | _,_=>none
noncomputable def jju (tbl:List (TypeId × FuncId)) (x:Opd) (args:List Opd) (call:Call) (e:Env) (h:H):Option (V × H) :=
 match evF x e,evsF e args with
  | some (.iface t v),some l=>match tbl.find? (fun p=>p.1 == t) with
   | some (_,f)=>call (.fn f) (v :: l) h
   | none=>none
  | _,_=>none
noncomputable def jjv (sz:Nat) (bytes:Nat) (x:Opd) (y:Opd) (_call:Call) (e:Env) (h:H):Option (V × H) :=
 match evF x e,evF y e with
  | some a,some b=>jbG h sz bytes a b
  | _,_=>none
noncomputable def joa (sz:Nat) (x:Opd) (y:Opd) (_call:Call) (e:Env) (h:H):Option (V × H) :=
 match evF x e,evF y e with
  | some a,some b=>jjx h sz a b
  | _,_=>none
noncomputable def jlH (z:List V) (x:Opd) (_call:Call) (e:Env) (h:H):Option (V × H) :=
 match evF x e with
  | some a=>jdW h z a
  | none=>none
noncomputable def jnZ (x:Opd) (_call:Call) (e:Env) (h:H):Option (V × H) :=
 match evF x e with
  | some (.slice (some (b,o)) n c)=>match h.get b with
   | some (.cells _ false)=>bif Nat.ble 1 n then some (.slice (some (b,o)) n c,h) else none
   | _=>none
  | _=>none
abbrev RunT:=Call->Env->H->Option Nat->Option (V × H)
noncomputable def jqu (q0:Opd):RunT:=fun _ e h _=>fin1 (jr1 q0 e) h
noncomputable def jgX (q0:Bool) (q1:Opd):RunT:=fun _ e h _=>fin1 (jlv q0 q1 e) h
noncomputable def jkN (q0:Opd) (q1:Opd) (q2:Opd):RunT:=fun _ e h _=>fin1 (jn6 q0 q1 q2 e) h
noncomputable def jhk (q0:Nat) (q1:List V):RunT:=fun _ e h a=>finA (jl5 q0 q1 e) h a
noncomputable def jnR (q0:Nat) (q1:Opd):RunT:=fun _ e h a=>finA (jpg q0 q1 e) h a
noncomputable def jhj (q0:List V) (q1:List (Nat × Nat × Opd)):RunT:=fun _ e h _=>fin1 (jl1 q0 q1 e) h
noncomputable def jfs (q0:Nat) (q1:Nat) (q2:List V) (q3:List (Nat × Opd)):RunT:=fun _ e h a=>finA (jjc q0 q1 q2 q3 e) h a
noncomputable def jhc (q0:Opd):RunT:=fun _ e h _=>fin1 (jlr q0 e h) h
noncomputable def jhb (q0:Nat) (q1:Opd):RunT:=fun _ e h _=>fin1 (jlq q0 q1 e h) h
noncomputable def jgV (q0:Nat) (q1:Opd) (q2:Opd):RunT:=fun call e h _=>jlG q0 q1 q2 call e h
noncomputable def jgY (q0:Opd):RunT:=fun _ e h _=>fin1 (jlw q0 e) h
noncomputable def jkP (q0:String) (q1:Opd):RunT:=fun _ e h _=>fin1 (jn7 q0 q1 e) h
noncomputable def jfp (q0:String) (q1:List (TypeId × FuncId)) (q2:Opd):RunT:=fun _ e h _=>fin1 (jiW q0 q1 q2 e) h
noncomputable def jnS (q0:BinOp) (q1:Opd) (q2:Opd):RunT:=fun _ e h _=>fin1 (jpf q0 q1 q2 e) h
noncomputable def jqv (q0:EK) (q1:Bool) (q2:Opd) (q3:Opd):RunT:=fun _ e h _=>fin1 (jr2 q0 q1 q2 q3 e) h
noncomputable def jqt (q0:UnOp) (q1:Opd):RunT:=fun _ e h _=>fin1 (jr0 q0 q1 e) h
noncomputable def jdH (q0:IntKind) (q1:Opd):RunT:=fun _ e h _=>fin1 (jfZ q0 q1 e) h
noncomputable def jdC (q0:Opd):RunT:=fun _ e h a=>finA (jgd q0 e) h a
noncomputable def jdD (q0:Opd):RunT:=fun _ e h _=>fin1 (jfR q0 e h) h
noncomputable def jkT (q0:Opd):RunT:=fun call e h _=>jnZ q0 call e h
noncomputable def jkY  : RunT:=fun _ _ _ _=>none
noncomputable def jdF (q0:TypeId) (q1:Opd):RunT:=fun _ e h _=>fin1 (jfX q0 q1 e) h
noncomputable def jha (q0:FuncId) (q1:List Opd):RunT:=fun _ e h _=>fin1 (jlx q0 q1 e) h
noncomputable def jgZ  : RunT:=fun _ e h a=>finA (jl4  e) h a
noncomputable def jdE (q0:Nat) (q1:Nat) (q2:List V) (q3:Opd) (q4:Opd):RunT:=fun _ e h a=>finA (jge q0 q1 q2 q3 q4 e) h a
noncomputable def jfn (q0:Opd) (q1:Option Opd) (q2:Option Opd):RunT:=fun _ e h _=>fin1 (jiU q0 q1 q2 e) h
noncomputable def jgW (q0:Nat) (q1:Opd) (q2:Option Opd) (q3:Option Opd) (q4:Option Opd):RunT:=fun _ e h _=>fin1 (jlu q0 q1 q2 q3 q4 e) h
noncomputable def jfo (q0:Nat) (q1:Nat) (q2:Opd) (q3:Option Opd) (q4:Option Opd) (q5:Option Opd):RunT:=fun _ e h _=>fin1 (jiV q0 q1 q2 q3 q4 q5 e) h
noncomputable def jhf (q0:Nat) (q1:Opd):RunT:=fun _ e h _=>fin1 (jl0 q0 q1 e) h
noncomputable def jhe (q0:Nat) (q1:Option Nat) (q2:Opd):RunT:=fun _ e h _=>fin1 (jlz q0 q1 q2 e) h
noncomputable def jkX (q0:Nat) (q1:Nat) (q2:Opd) (q3:Opd):RunT:=fun _ e h _=>fin1 (jnD q0 q1 q2 q3 e) h
noncomputable def jkW (q0:Nat) (q1:Opd) (q2:Opd):RunT:=fun _ e h _=>fin1 (jnC q0 q1 q2 e) h
noncomputable def jnQ (q0:Nat) (q1:Nat) (q2:Option Nat) (q3:Opd) (q4:Opd):RunT:=fun _ e h _=>fin1 (jpe q0 q1 q2 q3 q4 e) h
noncomputable def jhd (q0:Opd) (q1:Opd):RunT:=fun _ e h _=>fin1 (jly q0 q1 e) h
noncomputable def jfq (q0:KS) (q1:V) (q2:Bool) (q3:Opd) (q4:Opd):RunT:=fun _ e h _=>fin1 (jiL q0 q1 q2 q3 q4 e h) h
noncomputable def jkO (q0:KS) (q1:Opd) (q2:Opd) (q3:Opd):RunT:=fun call e h _=>jnX q0 q1 q2 q3 call e h
noncomputable def jkR (q0:KS) (q1:Opd) (q2:Opd):RunT:=fun call e h _=>jnY q0 q1 q2 call e h
noncomputable def jdG (q0:Opd) (q1:Nat):RunT:=fun _ e h _=>fin1 (jfY q0 q1 e) h
noncomputable def jla (q0:FuncId) (q1:List Opd):RunT:=fun call e h _=>job q0 q1 call e h
noncomputable def jhh (q0:Opd) (q1:List Opd):RunT:=fun call e h _=>jlI q0 q1 call e h
noncomputable def jhi (q0:MT) (q1:Opd) (q2:List Opd):RunT:=fun call e h _=>jlJ q0 q1 q2 call e h
noncomputable def jfr (q0:List (TypeId × FuncId)) (q1:Opd) (q2:List Opd):RunT:=fun call e h _=>jju q0 q1 q2 call e h
noncomputable def jkU (q0:Opd):RunT:=fun _ e h _=>fin1 (jnA q0 e) h
noncomputable def jkV (q0:Opd):RunT:=fun _ e h _=>fin1 (jnB q0 e) h
noncomputable def jft (q0:Nat) (q1:Nat) (q2:Opd) (q3:Opd):RunT:=fun call e h _=>jjv q0 q1 q2 q3 call e h
noncomputable def jkZ (q0:Nat) (q1:Opd) (q2:Opd):RunT:=fun call e h _=>joa q0 q1 q2 call e h
noncomputable def jhg (q0:List V) (q1:Opd):RunT:=fun call e h _=>jlH q0 q1 call e h
noncomputable def jkQ (q0:List Opd):RunT:=fun _ e h _=>fin1 (jn8 q0 e) h
noncomputable def jkS (q0:List Opd):RunT:=fun _ e h _=>fin1 (jn9 q0 e) h
noncomputable def runF (i:I):RunT :=
 I.rec (motive:=fun _=>RunT) jqu jgX jkN jhk jnR jhj jfs jhc jhb jgV jgY jkP jfp jnS jqv jqt jdH jdC jdD jkT jkY jdF jha jgZ jdE jfn jgW jfo jhf jhe jkX jkW jnQ jhd jfq jkO jkR jdG jla jhh jhi jfr jkU jkV jft jkZ jhg jkQ jkS i
theorem runF_eq (i:I) (call:Call) (e:Env) (h:H) (a:Option Nat):runF i call e h a=i.run call e h a:=by
 cases i
 case mv q0=>
  show jqu q0 call e h a=_
  simp only [jqu,jr1,I.run,I.cls,I.pure,jar,jaq]<;>rfl
 case recap q0 q1=>
  show jgX q0 q1 call e h a=_
  simp only [jgX,jlv,I.run,I.cls,I.pure,jar,jaq]<;>rfl
 case pick q0 q1 q2=>
  show jkN q0 q1 q2 call e h a=_
  simp only [jkN,jn6,I.run,I.cls,I.pure,jar,jaq]<;>rfl
 case alloc q0 q1=>
  show jhk q0 q1 call e h a=_
  simp only [jhk,jl5,I.run,I.cls,I.make,finA]<;>rfl
 case box q0 q1=>
  show jnR q0 q1 call e h a=_
  simp only [jnR,jpg,I.run,I.cls,I.make,finA,jaq]<;>rfl
 case build q0 q1=>
  show jhj q0 q1 call e h a=_
  simp only [jhj,jl1,I.run,I.cls,I.pure,jar]<;>rfl
 case bslice q0 q1 q2 q3=>
  show jfs q0 q1 q2 q3 call e h a=_
  simp only [jfs,jjc,I.run,I.cls,I.make,finA]<;>rfl
 case load1 q0=>
  show jhc q0 call e h a=_
  simp only [jhc,jlr,I.run,I.cls,I.read,jar,jaq]<;>rfl
 case loadN q0 q1=>
  show jhb q0 q1 call e h a=_
  simp only [jhb,jlq,I.run,I.cls,I.read,jar,jaq]<;>rfl
 case store q0 q1 q2=>
  show jgV q0 q1 q2 call e h a=_
  simp only [jgV,jlG,I.run,I.cls,I.eff,jaq,jqp]<;>rfl
 case nilck q0=>
  show jgY q0 call e h a=_
  simp only [jgY,jlw,I.run,I.cls,I.pure,jar,jaq]<;>rfl
 case mkBm q0 q1=>
  show jkP q0 q1 call e h a=_
  simp only [jkP,jn7,I.run,I.cls,I.pure,jar,jaq]<;>rfl
 case nilckB q0 q1 q2=>
  show jfp q0 q1 q2 call e h a=_
  simp only [jfp,jiW,I.run,I.cls,I.pure,jar,jaq]<;>rfl
 case bin q0 q1 q2=>
  show jnS q0 q1 q2 call e h a=_
  simp only [jnS,jpf,I.run,I.cls,I.pure,jar,jaq,binOpF_eq]<;>rfl
 case eq q0 q1 q2 q3=>
  show jqv q0 q1 q2 q3 call e h a=_
  simp only [jqv,jr2,I.run,I.cls,I.pure,jar,jaq]<;>rfl
 case un q0 q1=>
  show jqt q0 q1 call e h a=_
  simp only [jqt,jr0,I.run,I.cls,I.pure,jar,jaq]<;>rfl
 case convInt q0 q1=>
  show jdH q0 q1 call e h a=_
  simp only [jdH,jfZ,I.run,I.cls,I.pure,jar,jaq,jbn]<;>rfl
 case toBytes q0=>
  show jdC q0 call e h a=_
  simp only [jdC,jgd,I.run,I.cls,I.make,finA,jaq]<;>rfl
 case ofBytes q0=>
  show jdD q0 call e h a=_
  simp only [jdD,jfR,I.run,I.cls,I.read,jar,jaq]<;>rfl
 case mark q0=>
  show jkT q0 call e h a=_
  simp only [jkT,jnZ,I.run,I.cls,I.eff,jaq]<;>rfl
 case fail =>
  show jkY  call e h a=_
  simp only [jkY,I.run,I.cls,I.pure]<;>rfl
 case mkIface q0 q1=>
  show jdF q0 q1 call e h a=_
  simp only [jdF,jfX,I.run,I.cls,I.pure,jar,jaq]<;>rfl
 case mkClo q0 q1=>
  show jha q0 q1 call e h a=_
  simp only [jha,jlx,I.run,I.cls,I.pure,jar,jc4]<;>rfl
 case mkMap =>
  show jgZ  call e h a=_
  simp only [jgZ,jl4,I.run,I.cls,I.make,finA]<;>rfl
 case mkSlice q0 q1 q2 q3 q4=>
  show jdE q0 q1 q2 q3 q4 call e h a=_
  simp only [jdE,jge,I.run,I.cls,I.make,finA]<;>rfl
 case sliceS q0 q1 q2=>
  show jfn q0 q1 q2 call e h a=_
  simp only [jfn,jiU,I.run,I.cls,I.pure,jar,jaq]<;>rfl
 case slice q0 q1 q2 q3 q4=>
  show jgW q0 q1 q2 q3 q4 call e h a=_
  simp only [jgW,jlu,I.run,I.cls,I.pure,jar,jaq]<;>rfl
 case sliceA q0 q1 q2 q3 q4 q5=>
  show jfo q0 q1 q2 q3 q4 q5 call e h a=_
  simp only [jfo,jiV,I.run,I.cls,I.pure,jar,jaq]<;>rfl
 case faddr q0 q1=>
  show jhf q0 q1 call e h a=_
  simp only [jhf,jl0,I.run,I.cls,I.pure,jar,jaq]<;>rfl
 case field q0 q1 q2=>
  show jhe q0 q1 q2 call e h a=_
  simp only [jhe,jlz,I.run,I.cls,I.pure,jar,jaq]<;>rfl
 case ixaA q0 q1 q2 q3=>
  show jkX q0 q1 q2 q3 call e h a=_
  simp only [jkX,jnD,I.run,I.cls,I.pure,jar,jaq]<;>rfl
 case ixaS q0 q1 q2=>
  show jkW q0 q1 q2 call e h a=_
  simp only [jkW,jnC,I.run,I.cls,I.pure,jar,jaq]<;>rfl
 case ixA q0 q1 q2 q3 q4=>
  show jnQ q0 q1 q2 q3 q4 call e h a=_
  simp only [jnQ,jpe,I.run,I.cls,I.pure,jar,jaq]<;>rfl
 case ixStr q0 q1=>
  show jhd q0 q1 call e h a=_
  simp only [jhd,jly,I.run,I.cls,I.pure,jar,jaq]<;>rfl
 case lookup q0 q1 q2 q3 q4=>
  show jfq q0 q1 q2 q3 q4 call e h a=_
  simp only [jfq,jiL,I.run,I.cls,I.read,jar,jaq]<;>rfl
 case mput q0 q1 q2 q3=>
  show jkO q0 q1 q2 q3 call e h a=_
  simp only [jkO,jnX,I.run,I.cls,I.eff,jaq]<;>rfl
 case mdel q0 q1 q2=>
  show jkR q0 q1 q2 call e h a=_
  simp only [jkR,jnY,I.run,I.cls,I.eff,jaq]<;>rfl
 case extract q0 q1=>
  show jdG q0 q1 call e h a=_
  simp only [jdG,jfY,I.run,I.cls,I.pure,jar,jaq]<;>rfl
 case call q0 q1=>
  show jla q0 q1 call e h a=_
  simp only [jla,job,I.run,I.cls,I.eff,jc4]<;>rfl
 case callv q0 q1=>
  show jhh q0 q1 call e h a=_
  simp only [jhh,jlI,I.run,I.cls,I.eff,jaq,jc4]<;>rfl
 case callb q0 q1 q2=>
  show jhi q0 q1 q2 call e h a=_
  simp only [jhi,jlJ,I.run,I.cls,I.eff,jaq,jc4]<;>rfl
 case invoke q0 q1 q2=>
  show jfr q0 q1 q2 call e h a=_
  simp only [jfr,jju,I.run,I.cls,I.eff,jaq,jc4]<;>rfl
 case lenS q0=>
  show jkU q0 call e h a=_
  simp only [jkU,jnA,I.run,I.cls,I.pure,jar,jaq]<;>rfl
 case lenL q0=>
  show jkV q0 call e h a=_
  simp only [jkV,jnB,I.run,I.cls,I.pure,jar,jaq]<;>rfl
 case append q0 q1 q2 q3=>
  show jft q0 q1 q2 q3 call e h a=_
  simp only [jft,jjv,I.run,I.cls,I.eff,jaq]<;>rfl
 case copy q0 q1 q2=>
  show jkZ q0 q1 q2 call e h a=_
  simp only [jkZ,joa,I.run,I.cls,I.eff,jaq]<;>rfl
 case clear q0 q1=>
  show jhg q0 q1 call e h a=_
  simp only [jhg,jlH,I.run,I.cls,I.eff,jaq]<;>rfl
 case minI q0=>
  show jkQ q0 call e h a=_
  simp only [jkQ,jn8,I.run,I.cls,I.pure,jar,jc4]<;>rfl
 case maxI q0=>
  show jkS q0 call e h a=_
  simp only [jkS,jn9,I.run,I.cls,I.pure,jar,jc4]<;>rfl
noncomputable def jiZ (e:Env):List Nat->Env
 | []=>[]
 | s :: r=>match getF e s with
  | some v=>(s,v) :: jiZ e r
  | none=>jiZ e r
theorem je4 (e:Env) : ∀ l,jiZ e l=e.only l
 | []=>rfl
 | s :: r=>by simp only [jiZ,Env.only,jhm,je4 e r];rfl
noncomputable def jpl (e:Env):Option (Nat × Bool)->Bool
 | none=>true
 | some (j,want)=>match getF e j with
  | some (.bool b)=>b == want
  | _=>false
theorem wantF_eq (e:Env) (g:Option (Nat × Bool)):jpl e g=wanted e g:=by
 cases g with
 | none=>rfl
 | some g=>obtain ⟨j,w⟩:=g;simp only [jpl,wanted,jhm];rfl
noncomputable def jr3 (s:Ins) (e:Env) (k:Env->H->Option (Env × H)) (o:Option (V × H)):Option (Env × H):=match o with
 | some (v,h')=>match s.chk with
  | []=>k (layv e s.dst v) h'
  | c=>bif jaF e h' c then k (layv e s.dst v) h' else none
 | none=>none
noncomputable def opF (s:Ins) (call:Call) (base:Nat) (e:Env) (h:H) (k:Env->H->Option (Env × H)):Option (Env × H) :=
 bif jpl e s.guard then jr3 s e k (runF s.i call e h (s.at_.map (base + ·))) else k (layv e s.dst .undef) h
noncomputable def jeR (l:List Ins):Call->Nat->Env->H->Option (Env × H) :=
 List.rec (motive:=fun _=>Call->Nat->Env->H->Option (Env × H)) (fun _ _ e h=>some (e,h)) (fun s _ ih call base e h=>opF s call base e h (ih call base)) l
theorem jfQ : ∀ (l:List Ins) (call:Call) (base:Nat) (e:Env) (h:H),jeR l call base e h=jaf call base l e h
 | [],_,_,_,_=>rfl
 | s :: r,call,base,e,h=>by
  show opF s call base e h (jeR r call base)=_
  have ih:jeR r call base=jaf call base r:=by funext e h;exact jfQ r call base e h
  rw [ih]
  have hd:jaf call base (s :: r) e h=(bif wanted e s.guard then
   match s.i.run call e h (s.at_.map (base + ·)) with
   | some (v,h')=>bif jaF e h' s.chk then jaf call base r (layv e s.dst v) h' else none
   | none=>none
  else jaf call base r (layv e s.dst .undef) h):=rfl
  rw [hd]
  unfold opF
  rw [wantF_eq,runF_eq]
  generalize wanted e s.guard=g
  cases g
  ·rfl
  ·simp only [cond_true]
   unfold jr3
   cases I.run call e h (Option.map (fun x=>base+x) s.at_) s.i with
   | none=>rfl
   | some q=>
    obtain ⟨v,h'⟩:=q
    simp only
    cases s.chk with
    | nil=>simp [jaF]
    | cons _ _=>rfl
abbrev DT:=Call->Nat->Env->H->Res
noncomputable def jqq (keep:List Nat) (o:Option (Env × H)):Res:=match o with
 | some (e',h')=>some (.normal,jiZ e' keep,h')
 | none=>none
noncomputable def joV (r:Res) (k:Env->H->Res):Res:=match r with
 | some (.normal,e',h')=>k e' h'
 | r=>r
noncomputable def jnK (c:Option V) (a b:Env->H->Res) (e:Env) (h:H):Res:=match c with
 | some (.bool true)=>a e h
 | some (.bool false)=>b e h
 | _=>none
noncomputable def jkK (id:Nat) (r:Res):Res:=match r with
 | some (.exit id',e',h')=>bif Nat.beq id' id then some (.normal,e',h') else some (.exit id',e',h')
 | r=>r
noncomputable def jnL (body:Env->H->Res) (live:List Nat) (n:Nat):Env->H->Res :=
 Nat.rec (motive:=fun _=>Env->H->Res) (fun _ _=>none) (fun _ ih e h=>joV (body (jiZ e live) h) ih) n
theorem jl9 (body:Env->H->Res) (live:List Nat) : ∀ (n:Nat) (e:Env) (h:H),jnL body live n e h=iter body live n e h
 | 0,_,_=>rfl
 | n+1,e,h=>by
  show joV (body (jiZ e live) h) (jnL body live n)=_
  have ih:jnL body live n=iter body live n:=by funext e h;exact jl9 body live n e h
  rw [ih,je4];rfl
noncomputable def jkJ (f:Option V) (params live:List Nat) (assign body:AC) (call:Call) (e:Env) (h:H):Res :=
  match f with
  | some (.clo g cap)=>
   match call (.fn g) (.yld h.nx :: cap) (h.new (.loop .ready none params (jiZ e live) assign body)) with
   | some (_,h')=>
    match h'.get h.nx with
    | some (.loop st pend _ _ _ _)=>
     match st with
     | .busy=>none
     | _=>match pend with
      | none=>some (.normal,e,h'.kill h.nx)
      | some ex=>some (ex,e,h'.kill h.nx)
    | _=>none
   | none=>none
  | _=>none
noncomputable def DF (c:AC):DT:=AC.rec (motive:=fun _=>DT)
 (fun _ _ e h=>some (.normal,e,h))
 (fun res ops keep call _ e h=>jqq keep (jeR ops call h.nx e (h.reserve res)))
 (fun _ _ iha ihb call fuel e h=>joV (iha call fuel e h) (ihb call fuel))
 (fun c _ _ iha ihb call fuel e h=>jnK (evF c e) (iha call fuel) (ihb call fuel) e h)
 (fun id _ ih call fuel e h=>jkK id (ih call fuel e h))
 (fun live _ ih call fuel e h=>jnL (ih call fuel) live fuel e h)
 (fun f params live assign body _ _ call _ e h=>jkJ (evF f e) params live assign body call e h)
 (fun id _ _ e h=>some (.exit id,e,h))
 (fun _ _ e h=>some (.ret,e,h))
 (fun _ ih=>ih)
 (fun _ _ _ e h=>some (.normal,e,h)) c
theorem jcX : ∀ (c:AC) (call:Call) (fuel:Nat) (e:Env) (h:H),DF c call fuel e h=D call fuel c e h
 | .skip,_,_,_,_=>rfl
 | .label _,_,_,_,_=>rfl
 | .exit _,_,_,_,_=>rfl
 | .ret,_,_,_,_=>rfl
 | .scope a,call,fuel,e,h=>jcX a call fuel e h
 | .region res ops keep,call,fuel,e,h=>by
  show jqq keep (jeR ops call h.nx e (h.reserve res))=_
  rw [jfQ];simp only [D,jqq,je4]
  cases jaf call h.nx ops e (h.reserve res)<;>rfl
 | .seq a b,call,fuel,e,h=>by
  show joV (DF a call fuel e h) (DF b call fuel)=_
  have ih:DF b call fuel=D call fuel b:=by funext e h;exact jcX b call fuel e h
  rw [ih,jcX a];rfl
 | .cond c a b,call,fuel,e,h=>by
  show jnK (evF c e) (DF a call fuel) (DF b call fuel) e h=_
  simp only [jnK,D,jaq,jcX a,jcX b];rfl
 | .block id a,call,fuel,e,h=>by
  show jkK id (DF a call fuel e h)=_
  rw [jcX a];simp only [jkK,D,jqp];rfl
 | .loop live a,call,fuel,e,h=>by
  show jnL (DF a call fuel) live fuel e h=_
  have ih:DF a call fuel=D call fuel a:=by funext e h;exact jcX a call fuel e h
  rw [ih,jl9];rfl
 | .rangeFunc f params live assign body,call,fuel,e,h=>by
  show jkJ (evF f e) params live assign body call e h=_
  simp only [jkJ,D,jaq,je4];rfl
noncomputable def jn5 (call:Call) (fuel:Nat) (fn:AFn) (args:List V) (h:H):Option (V × H) :=
 bif Nat.beq args.length fn.np then
  match DF fn.body call fuel (Env.ofArgs args 0) h with
  | some (.exit _,_,_)=>none
  | some (_,e,h')=>match jcb e h' fn.res with
   | some l=>some (jb1 l,h')
   | none=>none
  | none=>none
 else none
theorem runFnF_eq (call:Call) (fuel:Nat) (fn:AFn) (args:List V) (h:H):jn5 call fuel fn args h=jd1 call fuel fn args h:=by
 simp only [jn5,jd1,jcX,jqp];rfl
noncomputable def jeQ (call:Call) (fuel:Nat) (l:Nat) (args:List V) (h:H):Option (V × H) :=
 match h.get l with
 | some (.loop _ _ params env assign body)=>
  match jcR env params args with
  | none=>none
  | some e0=>
   match DF assign call fuel e0 h with
   | some (.normal,e1,h1)=>
    match h1.get l with
    | some (.loop .ready p ps en a b)=>
     match DF body call fuel e1 (h1.set l (.loop .busy p ps en a b)) with
     | some (ex,_,h3)=>
      match h3.get l with
      | some (.loop _ _ ps' en' a' b')=>
       match ex with
       | .normal=>some (.bool true,h3.set l (.loop .ready none ps' en' a' b'))
       | ex=>some (.bool false,h3.set l (.loop .done (some ex) ps' en' a' b'))
      | _=>none
     | none=>none
    | _=>none
   | _=>none
 | _=>none
theorem jiK (call:Call) (fuel:Nat) (l:Nat) (args:List V) (h:H):jeQ call fuel l args h=jbO call fuel l args h:=by
 simp only [jeQ,jbO,jcX];rfl
noncomputable def jjI {α : Type} (l:List (Nat × α)) (s:Nat):Option α := List.rec (motive:=fun _=>Option α) none (fun p _ ih=>bif Nat.beq p.1 s then some p.2 else ih) l
theorem jjH {α : Type} : ∀ (l:List (Nat × α)) (s:Nat),jjI l s=jaQ l s
 | [],_=>rfl
 | (k,v) :: r,s=>by
  show (bif Nat.beq k s then some v else jjI r s)=_
  rw [jjH r s];rfl
noncomputable def jqw (call:Call) (fuel:Nat) (fns:List (FuncId × AFn)) (f:FuncId) (args:List V) (h:H) (p:Option Prim):Option (V × H):=match p with
 | some p=>p args h
 | none=>match jjI fns f with
  | some fn=>jn5 call fuel fn args h
  | none=>none
noncomputable def jr7 (P:Prog) (fuel:Nat) (call:Call) (t:Tgt) (args:List V) (h:H):Option (V × H) :=
 Tgt.rec (fun f=>jqw call fuel P.fns f args h (jjI P.prims f)) (fun l=>jeQ call fuel l args h) t
noncomputable def jab (P:Prog) (fuel:Nat) (n:Nat):Call:=Nat.rec (motive:=fun _=>Call) (fun _ _ _=>none) (fun _ ih=>jr7 P fuel ih) n
theorem jdu (P:Prog) (fuel:Nat) : ∀ n,jab P fuel n=jaD P fuel n
 | 0=>rfl
 | n+1=>by
  show jr7 P fuel (jab P fuel n)=_
  rw [jdu P fuel n]
  funext t args h
  cases t with
  | fn f=>
   show jqw (jaD P fuel n) fuel P.fns f args h (jjI P.prims f)=_
   simp only [jqw,jjH,runFnF_eq,jaD];rfl
  | yld l=>exact jiK _ _ _ _ _
end Am
namespace Am.Sigs
open Am Go
noncomputable def runL (call:Call) (fuel:Nat):List AC->Env->H->Res
 | [],e,h=>some (.normal,e,h)
 | c :: r,e,h=>match DF c call fuel e h with
  | some (.normal,e',h')=>runL call fuel r e' h'
  | x=>x
theorem jbE (call:Call) (fuel:Nat) (c:AC) (r:List AC) (e:Env) (h:H):runL call fuel (c :: r) e h=match DF c call fuel e h with
  | some (.normal,e',h')=>runL call fuel r e' h'
  | x=>x:=rfl
def flat:AC->List AC
 | .seq a b=>flat a++flat b
 | c=>[c]
theorem jbp (call:Call) (fuel:Nat) (c:AC) (e:Env) (h:H):runL call fuel [c] e h=D call fuel c e h:=by
 unfold runL
 rw [jcX]
 cases D call fuel c e h with
 | none=>rfl
 | some r=>
  obtain ⟨x,e',h'⟩:=r
  cases x<;>rfl
theorem jcQ (call:Call) (fuel:Nat) : ∀ (a b:List AC) (e:Env) (h:H),runL call fuel (a++b) e h=match runL call fuel a e h with
  | some (.normal,e',h')=>runL call fuel b e' h'
  | x=>x
 | [],b,e,h=>rfl
 | c :: r,b,e,h=>by
  rw [List.cons_append,jbE,jbE]
  cases DF c call fuel e h with
  | none=>rfl
  | some q=>
   obtain ⟨x,e',h'⟩:=q
   cases x with
   | normal=>exact jcQ call fuel r b e' h'
   | exit _=>rfl
   | ret=>rfl
theorem jdU (call:Call) (fuel:Nat) : ∀ (c:AC) (e:Env) (h:H),D call fuel c e h=runL call fuel (flat c) e h
 | .seq a b,e,h=>by
  show _=runL call fuel (flat a++flat b) e h
  rw [jcQ,<- jdU call fuel a e h]
  show (match D call fuel a e h with
   | some (.normal,e',h')=>D call fuel b e' h'
   | r=>r)=_
  cases D call fuel a e h with
  | none=>rfl
  | some q=>
   obtain ⟨x,e',h'⟩:=q
   cases x with
   | normal=>exact jdU call fuel b e' h'
   | exit _=>rfl
   | ret=>rfl
 | .skip,e,h=>(jbp call fuel _ e h).symm
 | .label _,e,h=>(jbp call fuel _ e h).symm
 | .region _ _ _,e,h=>(jbp call fuel _ e h).symm
 | .cond _ _ _,e,h=>(jbp call fuel _ e h).symm
 | .block _ _,e,h=>(jbp call fuel _ e h).symm
 | .loop _ _,e,h=>(jbp call fuel _ e h).symm
 | .rangeFunc _ _ _ _ _,e,h=>(jbp call fuel _ e h).symm
 | .exit _,e,h=>(jbp call fuel _ e h).symm
 | .ret,e,h=>(jbp call fuel _ e h).symm
 | .scope _,e,h=>(jbp call fuel _ e h).symm
section
variable {call:Call} {fuel:Nat} {e e1:Env} {h h1:H} {r:Res}
theorem go_take {a b:List AC} (k:runL call fuel a e h=some (.normal,e1,h1)) (z:runL call fuel b e1 h1=r):runL call fuel (a++b) e h=r:=by
 rw [jcQ,k];exact z
theorem go_cons {c:AC} {b:List AC} (k:D call fuel c e h=some (.normal,e1,h1)) (z:runL call fuel b e1 h1=r):runL call fuel (c :: b) e h=r:=by
 rw [jbE,jcX,k];exact z
theorem jai {lb:AC} {live:List Nat} {n:Nat} (k:runL call fuel (flat lb) (e.only live) h=some (.normal,e1,h1)) (z:iter (D call fuel lb) live n e1 h1=r):iter (D call fuel lb) live (n+1) e h=r:=by
 rw [<- jdU] at k
 simp only [iter,k];exact z
theorem loop_exit {lb:AC} {live:List Nat} {n id:Nat} (k:runL call fuel (flat lb) (e.only live) h=some (.exit id,e1,h1)):iter (D call fuel lb) live (n+1) e h=some (.exit id,e1,h1):=by
 rw [<- jdU] at k
 simp only [iter,k]
theorem ja9 {c:AC} {id:Nat} (k:D call fuel c e h=some (.normal,e1,h1)):D call fuel (.block id c) e h=some (.normal,e1,h1):=by
 simp only [D,k]
theorem block_exit {lb:AC} {live:List Nat} {id:Nat} (k:iter (D call fuel lb) live fuel e h=some (.exit id,e1,h1)):D call fuel (.block id (.loop live lb)) e h=some (.normal,e1,h1):=by
 simp only [D,k,beq_self_eq_true,cond_true]
end
theorem jpd {call:Call} (hC:jc9 call) (hG:jfN call) (fuel:Nat) : ∀ l,joY (runL call fuel l)
 | []=>fun e h ex e' h' hr=>by cases hr;exact ⟨zn _,fun X h2 x=>⟨_,rfl,x⟩⟩
 | c :: r=>fun e h ex e' h' hr=>by
  rw [jbE,jcX] at hr
  split at hr
  ·next e1 h1 hd=>
   have a:=D_F hC hG fuel c _ _ _ _ _ hd
   have b:=jpd hC hG fuel r _ _ _ _ _ hr
   refine ⟨zu a.1 b.1,fun X h2 x=>?_⟩
   obtain ⟨h3,e3,x3⟩:=a.2 X h2 x
   rw [jbE,jcX,e3]
   exact b.2 X h3 x3
  ·next hd=>
   have a:=D_F hC hG fuel c _ _ _ _ _ hr
   refine ⟨a.1,fun X h2 x=>?_⟩
   obtain ⟨h3,e3,x3⟩:=a.2 X h2 x
   rw [jbE,jcX,e3]
   have hne:ex ≠ .normal:=fun e0=>hd e' h' (by rw [hr,e0])
   split
   ·next q=>cases q;exact zw rfl hne
   ·exact ⟨_,rfl,x3⟩
structure St where
 E:Env
 n:Nat
 T:List (Nat × Obj)
def jnH (n:Nat):List (Nat × Obj)->H
 | []=>⟨n,.lf⟩
 | p :: r=>(jnH n r).set p.1 p.2
def St.h (s:St):H:=jnH s.n s.T
theorem jgM (n:Nat) : ∀ l,(jnH n l).nx=n
 | []=>rfl
 | p :: r=>jgM n r
theorem jjd (n:Nat) : ∀ (l:List (Nat × Obj)) {j:Nat} {o:Obj},(jnH n l).get j=some o->(j,o)∈l
 | [],j,o,h=>by cases h
 | p :: r,j,o,h=>by
  unfold jnH at h
  rw [H.get_set] at h
  split at h
  ·next e=>cases h;subst e;exact zh ..
  ·exact zj _ (jjd n r h)
structure Meets (s:St) (h:H):Prop where
 nx:h.nx=s.n
 has : ∀ p∈s.T,h.get p.1=some p.2
 wf : ∀ j,s.n<=j->h.get j=none
theorem Meets.ext {s:St} {h:H} (m:Meets s h):Ext (fun j=>match s.h.get j with | some _=>none | none=>h.get j) s.h h:=by
 have hh : ∀ j o,s.h.get j=some o->h.get j=some o:=fun j o e=>m.has _ (jjd s.n s.T e)
 refine ⟨by rw [m.nx];exact (jgM _ _).symm,fun j=>?_,fun j hj=>?_⟩
 ·cases hq:s.h.get j with
  | some o=>rw [hh j o hq];rfl
  | none=>simp
 ·cases hq:s.h.get j with
  | some o=>rw [hq] at hj;exact zw rfl hj
  | none=>
   rw [hq] at hj
   refine ⟨?_,rfl⟩
   rcases zr j s.n with h1 | h1
   ·rw [show s.h.nx=s.n from jgM _ _];exact h1
   ·exact zw (m.wf j h1) hj
def envB:Env->Env->Bool
 | [],[]=>true
 | (i,v) :: a,(j,u) :: b=>Nat.beq i j&&(V.same v u&&envB a b)
 | _,_=>false
theorem jld : ∀ {a b:Env},envB a b=true->a=b
 | [],[],_=>rfl
 | (i,v) :: a,(j,u) :: b,h=>by
  simp only [envB,zm] at h
  rw [Nat.eq_of_beq_eq_true h.1,V.same_eq h.2.1,jld h.2.2]
 | [],_ :: _,h=>by cases h
 | _ :: _,[],h=>by cases h
def hasB (h:H):List (Nat × Obj)->Bool
 | []=>true
 | p :: r=>(match h.get p.1 with
  | some o=>o.eqB p.2
  | none=>false)&&hasB h r
theorem jgU {h:H} : ∀ {l:List (Nat × Obj)},hasB h l=true -> ∀ p∈l,h.get p.1=some p.2
 | q :: r,hb,p,hp=>by
  simp only [hasB,zm] at hb
  rcases zD.1 hp with rfl | hp
  ·obtain ⟨h1,_⟩:=hb
   split at h1
   ·next o ho=>rw [ho,Obj.eqB_eq h1]
   ·cases h1
  ·exact jgU hb.2 p hp
def exB:Ex->Ex->Bool
 | .normal,.normal=>true
 | .ret,.ret=>true
 | .exit a,.exit b=>Nat.beq a b
 | _,_=>false
theorem exB_eq {a b:Ex} (h:exB a b=true):a=b:=by
 cases a<;>cases b<;>simp_all [exB]
def after (s:St) (x0:Ex):Res->Bool
 | some (x,e,h)=>exB x x0&&(envB e s.E&&(Nat.beq h.nx s.n&&(hasB h s.T&&Nat.ble (ttop h.t) s.n)))
 | none=>false
theorem jah {call:Call} (hC:jc9 call) (hG:jfN call) {fuel:Nat} {l:List AC} {s s':St} {x0:Ex} {e:Env} (hk:after s' x0 (runL call fuel l e s.h)=true) {h:H} (m:Meets s h) : ∃ h',runL call fuel l e h=some (x0,s'.E,h')/\Meets s' h':=by
 unfold after at hk
 split at hk
 ·next x e1 h1 hr=>
  simp only [zm,zz] at hk
  obtain ⟨k1,k2,k3,k4,k5⟩:=hk
  obtain ⟨-,hf⟩:=jpd hC hG fuel l _ _ _ _ _ hr
  obtain ⟨h2,e2,x2⟩:=hf _ h m.ext
  rw [exB_eq k1,jld k2] at e2
  refine ⟨h2,e2,?_,fun p hp=>x2.has (jgU k4 p hp),fun j hj=>?_⟩
  ·rw [x2.nx];exact Nat.eq_of_beq_eq_true k3
  ·have hn:h1.get j=none:=jhl h1.t j om
   rw [x2.get,hn]
   show none.or _=_
   rw [Option.none_or]
   cases hx:(match s.h.get j with | some _=>none | none=>h.get j) with
   | none=>rfl
   | some o=>
    have:=(x2.off j (by show (match s.h.get j with | some _=>none | none=>h.get j)≠none;rw [hx];simp)).1
    rw [Nat.eq_of_beq_eq_true k3] at this
    omega
 ·cases hk
theorem jaa (d:Nat):jc9 (jab prog fuel d)/\jfN (jab prog fuel d):=by rw [jdu];exact jch primsF fuel d
theorem jmP {f d:Nat} {fn:AFn} {s:St} {h h':H} (hp:jaQ prog.prims f=none) (hf:jaQ prog.fns f=some fn) (hn:fn.np=0) (hr:runL (jab prog fuel d) fuel (flat fn.body) [] h=some (.ret,s.E,h')) (hq:jcb s.E h' fn.res=some [.bool true]) :
  jaD prog fuel (d+1) (.fn f) [] h=some (.bool true,h'):=by
 rw [<- jdU,jdu] at hr
 simp only [jaD,hp,hf,jd1,hn,Env.ofArgs,hr,hq]
 rfl
section
variable {call:Call} {fuel:Nat} {e e1 e3:Env} {h h1 h2 h3:H} {r:Res} {x:Ex}
theorem jak {l:List AC} {a:Nat} (n:Nat) (k:runL call fuel ((l.drop a).take n) e h=some (.normal,e1,h1)) (z:runL call fuel (l.drop (a+n)) e1 h1=r):runL call fuel (l.drop a) e h=r:=by
 rw [<- List.take_append_drop n (l.drop a),List.drop_drop]
 exact go_take k z
theorem jjw {l:List AC} {a:Nat} (hl:Nat.blt a l.length=true):l.drop a=(l.drop a).headD .skip :: l.drop (a+1):=by
 rw [Nat.blt_eq] at hl
 rw [List.drop_eq_getElem_cons hl]
 rfl
theorem jam {l:List AC} {a:Nat} (hl:Nat.blt a l.length=true) (k:D call fuel ((l.drop a).headD .skip) e h=some (.normal,e1,h1)) (z:runL call fuel (l.drop (a+1)) e1 h1=r):runL call fuel (l.drop a) e h=r:=by
 rw [jjw hl]
 exact go_cons k z
theorem je2 {l:List AC} {a:Nat} (hl:Nat.blt a l.length=true) (k:D call fuel ((l.drop a).headD .skip) e h=some (x,e1,h1)) (hx:exB x .normal=false):runL call fuel (l.drop a) e h=some (x,e1,h1):=by
 rw [jjw hl,jbE,jcX,k]
 cases x with
 | normal=>cases hx
 | exit _=>rfl
 | ret=>rfl
theorem block_ret {c:AC} {id:Nat} (k:D call fuel c e h=some (.ret,e1,h1)):D call fuel (.block id c) e h=some (.ret,e1,h1):=by
 simp only [D,k]
theorem loop_ret {lb:AC} {live:List Nat} {n:Nat} (k:runL call fuel (flat lb) (e.only live) h=some (.ret,e1,h1)):iter (D call fuel lb) live (n+1) e h=some (.ret,e1,h1):=by
 rw [<- jdU] at k
 simp only [iter,k]
theorem jb2 {c:AC} (k:runL call fuel ((flat c).drop 0) e h=r):D call fuel c e h=r:=by
 rw [jdU];exact k
theorem cond_t {c:Opd} {a b:AC} (hc:c.ev e=some (.bool true)) (k:D call fuel a e h=r):D call fuel (.cond c a b) e h=r:=by
 simp only [D,hc];exact k
theorem cond_f {c:Opd} {a b:AC} (hc:c.ev e=some (.bool false)) (k:D call fuel b e h=r):D call fuel (.cond c a b) e h=r:=by
 simp only [D,hc];exact k
theorem runOps_append (call:Call) (base:Nat) : ∀ (a b:List Ins) (e:Env) (h:H),jaf call base (a++b) e h=match jaf call base a e h with
  | some (e',h')=>jaf call base b e' h'
  | none=>none
 | [],b,e,h=>rfl
 | s :: r,b,e,h=>by
  rw [List.cons_append]
  simp only [jaf]
  cases wanted e s.guard with
  | false=>exact runOps_append call base r b _ _
  | true=>
   simp only [cond_true]
   cases s.i.run call e h (s.at_.map (base + ·)) with
   | none=>rfl
   | some q=>
    obtain ⟨v,h'⟩:=q
    simp only
    cases jaF e h' s.chk with
    | false=>rfl
    | true=>exact runOps_append call base r b _ _
theorem run_call {f:FuncId} {l:List Opd} {vs:List V} {at_:Option Nat} {v:V} (ha:evs e l=some vs) (k:call (.fn f) vs h=some (v,h1)):(I.call f l).run call e h at_=some (v,h1):=by
 simp only [I.run,I.cls,I.eff,ha,k]
theorem jmt {keep:List Nat} {o1 o2:List Ins} {s:Ins} {v:V} (k1:jaf call h.nx o1 e h=some (e1,h1)) (hg:wanted e1 s.guard=true) (hi:s.i.run call e1 h1 (s.at_.map (h.nx + ·))=some (v,h2)) (hc:jaF e1 h2 s.chk=true)
  (k3:jaf call h.nx o2 (layv e1 s.dst v) h2=some (e3,h3)):D call fuel (.region 0 (o1++s :: o2) keep) e h=some (.normal,e3.only keep,h3):=by
 have h0:h.reserve 0=h:=rfl
 simp only [D,h0,runOps_append,k1]
 simp only [jaf,hg,cond_true,hi,hc,k3]
def noAt:List Ins->Bool
 | []=>true
 | s :: r=>s.at_.isNone&&noAt r
theorem jgK (call:Call) (b b':Nat) : ∀ (l:List Ins),noAt l=true -> ∀ (e:Env) (h:H),jaf call b l e h=jaf call b' l e h
 | [],_,e,h=>rfl
 | s :: r,hn,e,h=>by
  simp only [noAt,zm,Option.isNone_iff_eq_none] at hn
  simp only [jaf,hn.1,Option.map_none]
  cases wanted e s.guard with
  | false=>exact jgK call b b' r hn.2 _ _
  | true=>
   simp only [cond_true]
   cases s.i.run call e h none with
   | none=>rfl
   | some q=>
    obtain ⟨v,h'⟩:=q
    simp only
    cases jaF e h' s.chk with
    | false=>rfl
    | true=>exact jgK call b b' r hn.2 _ _
end
def jat (s:St):Option (Env × H)->Bool
 | some (e,h)=>envB e s.E&&(Nat.beq h.nx s.n&&(hasB h s.T&&Nat.ble (ttop h.t) s.n))
 | none=>false
theorem jaw {d:Nat} {l:List Ins} {s s':St} {e:Env} (hk:jat s' (jaf (jab prog fuel d) s.n l e s.h)=true) (hna:noAt l=true) {b:Nat} {h:H} (m:Meets s h) : ∃ h',jaf (jab prog fuel d) b l e h=some (s'.E,h')/\Meets s' h':=by
 obtain ⟨hC,hG⟩:=jaa d
 unfold jat at hk
 split at hk
 ·next e1 h1 hr=>
  simp only [zm,zz] at hk
  obtain ⟨k2,k3,k4,k5⟩:=hk
  have hX : ∀ k,s.n<=k->(match s.h.get k with | some _=>none | none=>h.get k)=none:=fun k hk=>by
   split
   ·rfl
   ·exact m.wf k hk
  obtain ⟨-,h2,e2,x2⟩:=Ext.runOps hC hG m.ext hX hr
  rw [jld k2] at e2
  refine ⟨h2,(jgK _ _ s.n l hna _ _).trans e2,?_,fun p hp=>x2.has (jgU k4 p hp),fun j hj=>?_⟩
  ·rw [x2.nx];exact Nat.eq_of_beq_eq_true k3
  ·have hn:h1.get j=none:=jhl h1.t j om
   rw [x2.get,hn]
   show none.or _=_
   rw [Option.none_or]
   cases hx:(match s.h.get j with | some _=>none | none=>h.get j) with
   | none=>first |exact hx |rfl
   | some o=>
    have:=(x2.off j (by show (match s.h.get j with | some _=>none | none=>h.get j)≠none;rw [hx];simp)).1
    rw [Nat.eq_of_beq_eq_true k3] at this
    omega
 ·cases hk
theorem ja2 {f d:Nat} {fn:AFn} {args:List V} {s:St} {h h':H} {l:List V} (hp:jaQ prog.prims f=none) (hf:jaQ prog.fns f=some fn) (hn:(args.length == fn.np)=true) (hr:runL (jab prog fuel d) fuel ((flat fn.body).drop 0) (Env.ofArgs args 0) h=some (.ret,s.E,h')) (m:Meets s h') (hq:jcb s.E s.h fn.res=some l) :
  jab prog fuel (d+1) (.fn f) args h=some (jb1 l,h'):=by
 have hr:runL (jab prog fuel d) fuel (flat fn.body) (Env.ofArgs args 0) h=some (.ret,s.E,h'):=hr
 rw [<- jdU,jdu] at hr
 rw [jdu]
 simp only [jaD,hp,hf,jd1,hn,cond_true,hr,jk4 m.ext hq]
theorem Meets.env {s:St} {h:H} (m:Meets s h) (E:Env):Meets { s with E:=E } h:=⟨m.nx,m.has,m.wf⟩
def blkB:AC->AC
 | .block _ b=>b
 | _=>.skip
def lpB:AC->AC
 | .loop _ b=>b
 | _=>.skip
def rgO:AC->List Ins
 | .region _ o _=>o
 | _=>[]
def insD:Ins:=⟨0,none,.mv (.c .nilfn),none,none,[]⟩
def jce (l:List Ins) (j:Nat):Ins:=(l.drop j).headD insD
def jlM:I->Env->Option (Nat × List V)
 | .call f l,e=>match evs e l with
  | some vs=>some (f,vs)
  | none=>none
 | _,_=>none
theorem D_of {call:Call} {fuel:Nat} {c c':AC} {e:Env} {h:H} {r:Res} (hc:c=c') (k:D call fuel c' e h=r):D call fuel c e h=r:=by rw [hc];exact k
theorem jao {call:Call} {i:I} {e:Env} {h h1:H} {f:Nat} {vs l:List V} {v:V} {at_:Option Nat} (hs:jlM i e=some (f,vs)) (hv:jb1 l=v) (k:call (.fn f) vs h=some (jb1 l,h1)):i.run call e h at_=some (v,h1):=by
 unfold jlM at hs
 split at hs
 ·next f' l'=>
  split at hs
  ·next vs' ha=>
   cases hs
   rw [<- hv]
   exact run_call ha k
  ·cases hs
 ·cases hs
theorem jap {call:Call} {fuel:Nat} {keep:List Nat} {o1 o2:List Ins} {s:Ins} {v:V} {e e1 e2 e3 e4:Env} {h h1 h2 h3:H} (k1:jaf call h.nx o1 e h=some (e1,h1)) (hg:wanted e1 s.guard=true) (hi:s.i.run call e1 h1 (s.at_.map (h.nx + ·))=some (v,h2)) (hc:jaF e1 h2 s.chk=true)
  (hl:layv e1 s.dst v=e2) (k3:jaf call h.nx o2 e2 h2=some (e3,h3)) (hk:e3.only keep=e4):D call fuel (.region 0 (o1++s :: o2) keep) e h=some (.normal,e4,h3):=by
 subst hl hk
 exact jmt k1 hg hi hc k3
def subT (T:List (Nat × Obj)):List (Nat × Obj)->Bool
 | []=>true
 | p :: r=>(T.any fun q=>Nat.beq q.1 p.1&&q.2.eqB p.2)&&subT T r
theorem jaC {h:H} {T:List (Nat × Obj)} (m : ∀ p∈T,h.get p.1=some p.2) : ∀ {T':List (Nat × Obj)},subT T T'=true -> ∀ p∈T',h.get p.1=some p.2
 | q :: r,k,p,hp=>by
  simp only [subT,zm] at k
  rcases zD.1 hp with rfl | hp
  ·obtain ⟨x,hx,hb⟩:=List.any_eq_true.1 k.1
   simp only [zm] at hb
   have:=m x hx
   rw [Nat.eq_of_beq_eq_true hb.1,Obj.eqB_eq hb.2] at this
   exact this
  ·exact jaC m k.2 p hp
end Am.Sigs
