/- Our own library, part 15. -/
import Derived.KernelRfl
import Derived.Test.YtccoogikjelcbaaGreatDoorM10
import Derived.Test.YtccoogikjelcbaaGreatDoorM14
import Derived.Test.YtccoogikjelcbaaGreatDoorM01
import Derived.Test.YtccoogikjelcbaaGreatDoorM13
set_option maxHeartbeats 8000000
set_option maxRecDepth 800
set_option linter.all false
namespace Am.Sigs
open Am Go
abbrev fuel:Nat:=100000
def Sem (cl:Nat->Call):Prop:=(∀ d,cl d=ja9 prog fuel d) \/ ∀ d,cl d=ja9 jaG fuel d
theorem jdQ {f g:Nat} {p:Prim} {l:List (Nat × Prim)} (h:jaL ((g,p) :: l) f=none):jaL l f=none:=by
 simp only [jaL] at h
 revert h
 generalize Nat.beq _ f=b
 cases b with
 | true=>intro h;cases h
 | false=>exact fun h=>h
theorem primT {f:Nat} (h:jaL prog.prims f=none):jaL jaG.prims f=none:=jdQ (jdQ (jdQ (h)))
theorem at_ {cl:Nat->Call} (hcl:Sem cl) {d f:Nat} {fn:AFn} {args:List V} {h:H} {R:V->H->Prop} (hd:0<d) (hp:jaL prog.prims f=none) (hf:jaL prog.fns f=some fn) (hl:(args.length == fn.np)=true)
  (k:Run (cl (d-1)) fuel fn.body [] (Env.ofArgs args 0) h (Fin fn.res R)) : ∃ v h',cl d (.fn f) args h=some (v,h')/\R v h':=by
 rcases hcl with hcl | hcl
 ·rw [hcl d];rw [hcl (d-1)] at k;exact jjR hd hp hf hl k
 ·rw [hcl d];rw [hcl (d-1)] at k;exact jjR hd (primT hp) hf hl k
def isS:Option Obj->Nat
 | some _=>1
 | none=>0
def up:Nat->Nat
 | 0=>0
 | n+1=>2*n+3
def ttop:T->Nat
 | .lf=>0
 | .nd v l r=>Nat.max (isS v) (Nat.max (2*(ttop l)) (up (ttop r)))
theorem aT {cl:Nat->Call} (hcl:Sem cl) {d f:Nat} {fn:AFn} {args:List V} {h:H} {R:V->H->Prop} (k:Run (cl (d-1)) fuel fn.body [] (Env.ofArgs args 0) h (Fin fn.res R)) (hd:0<d:=by omega) (hp:jaL prog.prims f=none:=by exact rfl) (hf:jaL prog.fns f=some fn:=by exact rfl) (hl:(args.length==fn.np)=true:=by exact rfl):∃ v h',cl d (.fn f) args h=some (v,h') /\ R v h':=at_ hcl hd hp hf hl k
theorem jg9 : ∀ (t:T) (k:Nat),(ttop t)<=k->t.get k=none
 | .lf,_,_=>rfl
 | .nd v l r,k,h=>by
  have h1:Nat.max (isS v) (Nat.max (2*(ttop l)) (up (ttop r)))<=k:=h
  have a1:=zu (Nat.le_max_left _ _) h1
  have a2:=zu (Nat.le_max_left _ _) (zu (Nat.le_max_right _ _) h1)
  have a3:=zu (Nat.le_max_right _ _) (zu (Nat.le_max_right _ _) h1)
  rw [T.get_nd]
  by_cases k0:k=0
  ·subst k0
   rw [zg rfl]
   cases v with
   | none=>rfl
   | some _=>simp [isS] at a1
  ·rw [zb k0]
   by_cases ko:k%2=1
   ·rw [zg ko];exact jg9 l _ om
   ·rw [zb ko]
    refine jg9 r _ ?_
    cases e:(ttop r) with
    | zero=>omega
    | succ n=>rw [e] at a3;simp [up] at a3;omega
end Am.Sigs
namespace Am
open Go
noncomputable def jme (n:Nat) (f:Nat->Option V):Option V:=Nat.rec (f 0) (fun k _=>f (Nat.succ k)) n
theorem jhL (n:Nat) (f:Nat->Option V):jme n f=f n:=by cases n<;>rfl
noncomputable def jcp (k:IntKind) (n:Int):Option V:=Int.rec (fun m=>jme m fun m=>some (.int k (.ofNat m))) (fun m=>jme m fun m=>some (.int k (.negSucc m))) n
theorem jaU (k:IntKind) (n:Int):jcp k n=some (.int k n):=by
 cases n with
 | ofNat m=>unfold jcp;exact jhL m _
 | negSucc m=>unfold jcp;exact jhL m _
noncomputable def maxN:IntKind->Nat
 | .i8=>127 | .i16=>32767 | .i32=>2147483647 | .i64=>9223372036854775807
 | .u8=>255 | .u16=>65535 | .u32=>4294967295 | .u64=>18446744073709551615
noncomputable def minN:IntKind->Nat
 | .i8=>128 | .i16=>32768 | .i32=>2147483648 | .i64=>9223372036854775808
 | _=>0
noncomputable def jdH (k:IntKind) (n:Int):Int:=Int.rec (fun m=>bif Nat.ble m (maxN k) then n else k.wrap n) (fun m=>bif Nat.blt m (minN k) then n else k.wrap n) n
theorem jbl (k:IntKind) (n:Int):jdH k n=k.wrap n:=by
 cases n with
 | ofNat m=>
  show (bif Nat.ble m (maxN k) then (Int.ofNat m) else k.wrap (Int.ofNat m))=_
  cases e:Nat.ble m (maxN k)
  ·rfl
  ·have h:=zp e
   have h0:Int.ofNat m=(m:Int):=rfl
   cases k<;>simp only [maxN] at h<;>simp only [cond_true,IntKind.wrap,IntKind.bits,IntKind.signed,h0]<;>(try simp only [Bool.false_and,Bool.true_and,zq,zB,if_false])<;>(first | omega | (split<;>omega))
 | negSucc m=>
  show (bif Nat.blt m (minN k) then (Int.negSucc m) else k.wrap (Int.negSucc m))=_
  cases e:Nat.blt m (minN k)
  ·rfl
  ·have h:m<minN k:=zp e
   have h0:Int.negSucc m = -(m:Int)-1:=by omega
   cases k<;>simp only [minN] at h<;>(try omega)<;>simp only [cond_true,IntKind.wrap,IntKind.bits,IntKind.signed,h0]<;>(try simp only [Bool.true_and,zq])<;>(split<;>omega)
noncomputable def ltF:Int->Int->Bool
 | .ofNat a,.ofNat b=>Nat.blt a b
 | .ofNat _,.negSucc _=>false
 | .negSucc _,.ofNat _=>true
 | .negSucc a,.negSucc b=>Nat.blt b a
theorem jmp (a b:Nat):Nat.blt a b=decide (a<b):=by
 by_cases h:a<b
 ·rw [decide_eq_true h];exact Nat.ble_eq_true_of_le h
 ·rw [decide_eq_false h]
  cases e:Nat.blt a b
  ·rfl
  ·exact zw (zp e) h
theorem jjC (a b:Int):ltF a b=decide (a<b):=by
 cases a with
 | ofNat a=>cases b with
  | ofNat b=>simp only [ltF,jmp];exact decide_eq_decide.2 (show a<b↔((a:Nat):Int)<((b:Nat):Int) by omega)
  | negSucc b=>simp only [ltF];symm;rw [decide_eq_false_iff_not];show ¬ ((a:Nat):Int)<Int.negSucc b;omega
 | negSucc a=>cases b with
  | ofNat b=>simp only [ltF];symm;rw [zq];show Int.negSucc a<((b:Nat):Int);omega
  | negSucc b=>simp only [ltF,jmp];exact decide_eq_decide.2 om
noncomputable def eqF:Int->Int->Bool
 | .ofNat a,.ofNat b=>Nat.beq a b
 | .negSucc a,.negSucc b=>Nat.beq a b
 | _,_=>false
theorem jjJ (a b:Int):eqF a b=(a == b):=by
 cases a with
 | ofNat a=>cases b with
  | ofNat b=>
   simp only [eqF]
   by_cases h:a=b
   ·subst h;simp
   ·have h2:(Int.ofNat a == Int.ofNat b)=false:=by rw [beq_eq_false_iff_ne];intro e;exact h (by injection e)
    rw [h2]
    cases e:Nat.beq a b
    ·rfl
    ·exact zw (Nat.eq_of_beq_eq_true e) h
  | negSucc b=>simp only [eqF];symm;rw [beq_eq_false_iff_ne];intro e;cases e
 | negSucc a=>cases b with
  | ofNat b=>simp only [eqF];symm;rw [beq_eq_false_iff_ne];intro e;cases e
  | negSucc b=>
   simp only [eqF]
   by_cases h:a=b
   ·subst h;simp
   ·have h2:(Int.negSucc a == Int.negSucc b)=false:=by rw [beq_eq_false_iff_ne];intro e;exact h (by injection e)
    rw [h2]
    cases e:Nat.beq a b
    ·rfl
    ·exact zw (Nat.eq_of_beq_eq_true e) h
noncomputable def subF:Int->Int->Int
 | .ofNat a,.ofNat b=>bif Nat.ble b a then .ofNat (Nat.sub a b) else Int.sub (.ofNat a) (.ofNat b)
 | a,b=>Int.sub a b
theorem subF_eq (a b:Int):subF a b=a-b:=by
 cases a with
 | ofNat a=>cases b with
  | ofNat b=>
   show (bif Nat.ble b a then Int.ofNat (Nat.sub a b) else Int.sub (.ofNat a) (.ofNat b))=_
   cases e:Nat.ble b a
   ·rfl
   ·have h:=zp e
    show ((a-b:Nat):Int)=(a:Int)-(b:Int)
    omega
  | negSucc _=>rfl
 | negSucc _=>rfl
noncomputable def ikN:IntKind->Nat
 | .i8=>0 | .i16=>1 | .i32=>2 | .i64=>3 | .u8=>4 | .u16=>5 | .u32=>6 | .u64=>7
noncomputable def ikEq (a b:IntKind):Bool:=Nat.beq (ikN a) (ikN b)
theorem ikEq_eq (a b:IntKind):ikEq a b=(a == b):=by cases a<;>cases b<;>rfl
noncomputable def i_add (k:IntKind) (a b:Int):Option V:=jcp k (jdH k (Int.add a b))
noncomputable def i_sub (k:IntKind) (a b:Int):Option V:=jcp k (jdH k (subF a b))
noncomputable def i_mul (k:IntKind) (a b:Int):Option V:=jcp k (jdH k (Int.mul a b))
noncomputable def i_eql (_:IntKind) (a b:Int):Option V:=some (.bool (eqF a b))
noncomputable def i_neq (_:IntKind) (a b:Int):Option V:=some (.bool !(eqF a b))
noncomputable def i_lss (_:IntKind) (a b:Int):Option V:=some (.bool (ltF a b))
noncomputable def i_gtr (_:IntKind) (a b:Int):Option V:=some (.bool (ltF b a))
noncomputable def i_leq (_:IntKind) (a b:Int):Option V:=some (.bool !(ltF b a))
noncomputable def i_geq (_:IntKind) (a b:Int):Option V:=some (.bool !(ltF a b))
noncomputable def jod (k:IntKind) (a b:Int):Option V:=bif eqF b 0 then none else jcp k (jdH k (a.tdiv b))
noncomputable def joc (k:IntKind) (a b:Int):Option V:=bif eqF b 0 then none else jcp k (a.tmod b)
noncomputable def toF (k:IntKind):Int->Nat
 | .ofNat a=>Nat.mod a (Nat.pow 2 k.bits)
 | .negSucc a=>Nat.sub (Nat.pow 2 k.bits) (Nat.succ (Nat.mod a (Nat.pow 2 k.bits)))
theorem jdt (k:IntKind) (a:Int):toF k a=(BitVec.ofInt k.bits a).toNat:=by
 have hp:0<2 ^ k.bits:=Nat.pow_pos (by decide)
 rw [BitVec.toNat_ofInt]
 cases a with
 | ofNat a=>show a%2 ^ k.bits=_;rfl
 | negSucc a=>
  show 2 ^ k.bits-Nat.succ (a%2 ^ k.bits)=_
  have h1:a%2 ^ k.bits<2 ^ k.bits:=Nat.mod_lt _ hp
  have h2:=Nat.div_add_mod a (2 ^ k.bits)
  have h3:Int.negSucc a = -(a:Int)-1:=by omega
  have h4:(Int.negSucc a)%((2 ^ k.bits:Nat):Int)=((2 ^ k.bits-Nat.succ (a%2 ^ k.bits):Nat):Int):=by
   have e:Int.negSucc a=((2 ^ k.bits-Nat.succ (a%2 ^ k.bits):Nat):Int)+((2 ^ k.bits:Nat):Int)*(-((a/2 ^ k.bits:Nat):Int)-1):=by
    rw [h3,Int.mul_sub,Int.mul_neg,Int.mul_one]
    have h5:(a:Int)=((2 ^ k.bits:Nat):Int)*((a/2 ^ k.bits:Nat):Int)+((a%2 ^ k.bits:Nat):Int):=by exact_mod_cast h2.symm
    omega
   rw [e,Int.add_mul_emod_self_left]
   exact Int.emod_eq_of_lt om om
  rw [h4];rfl
noncomputable def i_and (k:IntKind) (a b:Int):Option V:=jcp k (jdH k (.ofNat (Nat.land (toF k a) (toF k b))))
noncomputable def i_or (k:IntKind) (a b:Int):Option V:=jcp k (jdH k (.ofNat (Nat.lor (toF k a) (toF k b))))
noncomputable def i_xor (k:IntKind) (a b:Int):Option V:=jcp k (jdH k (.ofNat (Nat.xor (toF k a) (toF k b))))
noncomputable def i_andNot (k:IntKind) (a b:Int):Option V:=jcp k (jdH k (.ofNat (Nat.land (toF k a) (Nat.sub (Nat.sub (Nat.pow 2 k.bits) 1) (toF k b)))))
noncomputable def minF (a b:Nat):Nat:=bif Nat.ble a b then a else b
noncomputable def joJ (k:IntKind) (a b:Int):Option V:=Int.rec (fun b=>jcp k (jdH k (Int.mul a (.ofNat (Nat.pow 2 (minF b k.bits)))))) (fun _=>none) b
noncomputable def joI (k:IntKind) (a b:Int):Option V:=Int.rec (fun b=>Int.rec (fun a=>jcp k (.ofNat (Nat.div a (Nat.pow 2 (minF b k.bits))))) (fun a=>jcp k (Int.fdiv (.negSucc a) (2 ^ (Nat.min b k.bits)))) a) (fun _=>none) b
noncomputable def jjF (op:BinOp):IntKind->Int->Int->Option V :=
 match op with
 | .add=>i_add
 | .sub=>i_sub
 | .mul=>i_mul
 | .quo=>jod
 | .rem=>joc
 | .and=>i_and
 | .or=>i_or
 | .xor=>i_xor
 | .andNot=>i_andNot
 | .eql=>i_eql
 | .neq=>i_neq
 | .lss=>i_lss
 | .leq=>i_leq
 | .gtr=>i_gtr
 | .geq=>i_geq
 | .shl=>joJ
 | .shr=>joI
theorem jfd (a b:Int):(!decide (b<a))=decide (a<=b):=by by_cases h:b<a<;>simp [h]<;>omega
theorem jlP (a b:Nat):minF a b=Nat.min a b:=by
 unfold minF
 cases e:Nat.ble a b
 ·have : ¬ a<=b:=fun h=>by rw [Nat.ble_eq_true_of_le h] at e;cases e
  simp only [cond_false];exact (Nat.min_eq_right om).symm
 ·exact (Nat.min_eq_left (zp e)).symm
theorem intOpF_eq (op:BinOp) (k:IntKind) (a b:Int):jjF op k a b=jbi op k a b:=by
 cases op
 case add=>exact (jaU _ _).trans (by rw [jbl];rfl)
 case sub=>exact (jaU _ _).trans (by rw [jbl,subF_eq];rfl)
 case mul=>exact (jaU _ _).trans (by rw [jbl];rfl)
 case quo=>show jod k a b=_;unfold jod;rw [jjJ,jaU,jbl];rfl
 case rem=>show joc k a b=_;unfold joc;rw [jjJ,jaU];rfl
 case and=>exact (jaU _ _).trans (by rw [jbl,jdt,jdt];simp only [jbi,BitVec.toNat_and];rfl)
 case or=>exact (jaU _ _).trans (by rw [jbl,jdt,jdt];simp only [jbi,BitVec.toNat_or];rfl)
 case xor=>exact (jaU _ _).trans (by rw [jbl,jdt,jdt];simp only [jbi,BitVec.toNat_xor];rfl)
 case andNot=>exact (jaU _ _).trans (by rw [jbl,jdt,jdt];simp only [jbi,BitVec.toNat_and,BitVec.toNat_not];rfl)
 case shl=>
  cases b with
  | negSucc b=>simp [jjF,joJ,jbi]
  | ofNat b=>
   refine (jaU _ _).trans ?_
   have h1:decide ((Int.ofNat b)<0)=false:=by simp
   simp only [jbi,h1,cond_false,jbl,jlP]
   congr 3
 case shr=>
  cases b with
  | negSucc b=>simp [jjF,joI,jbi]
  | ofNat b=>
   have h1:decide ((Int.ofNat b)<0)=false:=by simp
   simp only [jbi,h1,cond_false]
   cases a with
   | negSucc a=>exact jaU _ _
   | ofNat a=>
    show jcp k (.ofNat (Nat.div a (Nat.pow 2 (minF b k.bits))))=_
    rw [jaU,jlP]
    congr 2
    have h2:((2:Int) ^ (Nat.min b k.bits))=((2 ^ (Nat.min b k.bits):Nat):Int):=(Int.natCast_pow 2 _).symm
    have h3:Int.fdiv (Int.ofNat a) ((2 ^ (Nat.min b k.bits):Nat):Int)=((a/2 ^ (Nat.min b k.bits):Nat):Int):=Int.ofNat_fdiv a _ |>.symm
    show _=Int.fdiv (Int.ofNat a) (2 ^ (Nat.min b k.bits))
    rw [h2,h3];rfl
 case eql=>show some _=some _;rw [jjJ]
 case neq=>show some (V.bool !(eqF a b))=_;rw [jjJ];rfl
 case lss=>show some (V.bool (ltF a b))=_;rw [jjC];rfl
 case gtr=>show some (V.bool (ltF b a))=_;rw [jjC];rfl
 case leq=>show some (V.bool !(ltF b a))=_;rw [jjC,jfd];rfl
 case geq=>show some (V.bool !(ltF a b))=_;rw [jjC,jfd];rfl
noncomputable def jmq (op:BinOp):V->V->Option V
 | .int k a,.int k' b=>bif jbe op||ikEq k k' then jjF op k a b else none
 | .str a,.str b=>jmZ op a b
 | _,_=>none
theorem binOpF_eq (op:BinOp) (a b:V):jmq op a b=binOp op a b:=by
 cases a<;>cases b<;>first | rfl | (simp only [jmq,binOp,ikEq_eq,intOpF_eq])
noncomputable def getF (e:Env) (s:Nat):Option V:=List.rec (motive:=fun _=>Option V) none (fun p _ ih=>bif Nat.beq p.1 s then some p.2 else ih) e
theorem jgA : ∀ (e:Env) (s:Nat),getF e s=e.get s
 | [],_=>rfl
 | (k,v) :: r,s=>by
  show (bif Nat.beq k s then some v else getF r s)=_
  rw [jgA r s];rfl
noncomputable def evF (x:Opd) (e:Env):Option V:=Opd.rec (fun s=>getF e s) (fun v=>some v) x
theorem jap (x:Opd) (e:Env):evF x e=x.ev e:=by
 cases x
 ·exact jgA _ _
 ·rfl
noncomputable def evsF (e:Env):List Opd->Option (List V)
 | []=>some []
 | x :: r=>match evF x e,evsF e r with
  | some v,some l=>some (v :: l)
  | _,_=>none
theorem jcj (e:Env) : ∀ l,evsF e l=evs e l
 | []=>rfl
 | x :: r=>by simp only [evsF,evs,jap,jcj e r];rfl
theorem joa (a b:Nat):Nat.beq a b=(a == b):=by
 by_cases h:a=b
 ·subst h;simp
 ·rw [show (a == b)=false by simpa using h]
  cases e:Nat.beq a b
  ·rfl
  ·exact zw (Nat.eq_of_beq_eq_true e) h
noncomputable def fin1 (o:Option V) (h:H):Option (V × H):=Option.rec none (fun v=>some (v,h)) o
noncomputable def finA (o:Option (Obj × (Nat->V))) (h:H) (at_:Option Nat):Option (V × H):=match o with
 | some (ob,mk)=>match at_ with
  | none=>some (mk h.nx,h.new ob)
  | some b=>some (mk b,h.set b ob)
 | none=>none
theorem jas (o:Option V) (h:H):fin1 o h=(match o with | some v=>some (v,h) | none=>none):=by cases o<;>rfl
noncomputable def jjz (up:Bool) (x:Opd) (e:Env):Option V :=
 match evF x e with
  | some v=>some (jjx up v)
  | none=>none
noncomputable def joE (x:Opd) (e:Env):Option V :=
 match evF x e with
  | some v=>some (v)
  | none=>none
noncomputable def jlF (c:Opd) (a:Opd) (b:Opd) (e:Env):Option V :=
 match evF c e with
  | some (.bool true)=>match evF a e with
   | some v=>some (v)
   | none=>none
  | some (.bool false)=>match evF b e with
   | some v=>some (v)
   | none=>none
  | _=>none
noncomputable def jj6 (zero:List V) (parts:List (Nat × Nat × Opd)) (e:Env):Option V :=
 match jaR e parts with
  | some ps=>match jaH zero ps with
   | some l=>some (.agg l)
   | none=>none
  | none=>none
noncomputable def jj0 (x:Opd) (e:Env):Option V :=
 match evF x e with
  | some (.ptr (some a))=>some (.ptr (some a))
  | some (.clo f c)=>some (.clo f c)
  | some (.yld l)=>some (.yld l)
  | some (.iface t v)=>some (.iface t v)
  | some (.bcl f v)=>some (.bcl f v)
  | _=>none
noncomputable def jlG (name:String) (x:Opd) (e:Env):Option V :=
 match evF x e with
  | some (.iface t v)=>some (.bm name t v)
  | _=>none
noncomputable def jj2 (f:FuncId) (x:Opd) (e:Env):Option V :=
 match evF x e with
  | some v=>some (.bcl f v)
  | none=>none
noncomputable def jhy (name:String) (tbl:List (TypeId × FuncId)) (x:Opd) (e:Env):Option V :=
 match evF x e with
  | some (.bm n t v)=>bif n == name&&tbl.any (fun p=>p.1 == t) then some (.bm n t v) else none
  | _=>none
noncomputable def jnh (op:BinOp) (x:Opd) (y:Opd) (e:Env):Option V :=
 match evF x e,evF y e with
  | some a,some b=>match jmq op a b with
   | some v=>some (v)
   | none=>none
  | _,_=>none
noncomputable def joF (k:EK) (neg:Bool) (x:Opd) (y:Opd) (e:Env):Option V :=
 match evF x e,evF y e with
  | some a,some b=>match eqOp k a b with
   | some r=>some (.bool (bif neg then !r else r))
   | none=>none
  | _,_=>none
noncomputable def joD (op:UnOp) (x:Opd) (e:Env):Option V :=
 match evF x e with
  | some a=>match unOp op a with
   | some v=>some (v)
   | none=>none
  | none=>none
noncomputable def jeZ (k:IntKind) (x:Opd) (e:Env):Option V :=
 match evF x e with
  | some (.int _ n)=>some (.int k (jdH k n))
  | _=>none
noncomputable def jeX (t:TypeId) (x:Opd) (e:Env):Option V :=
 match evF x e with
  | some v=>some (.iface t v)
  | none=>none
noncomputable def jj1 (f:FuncId) (cap:List Opd) (e:Env):Option V :=
 match evsF e cap with
  | some l=>some (.clo f l)
  | none=>none
noncomputable def jhx (x:Opd) (lo:Option Opd) (hi:Option Opd) (e:Env):Option V :=
 match evF x e,evo e lo,evo e hi with
  | some (.str s),some lo,some hi=>match jbK s.length s.length lo hi none with
   | some (l,r,_)=>some (.str ((s.take r).drop l))
   | none=>none
  | _,_,_=>none
noncomputable def jjy (sz:Nat) (x:Opd) (lo:Option Opd) (hi:Option Opd) (mx:Option Opd) (e:Env):Option V :=
 match evF x e,evo e lo,evo e hi,evo e mx with
  | some (.slice a len cap),some lo,some hi,some mx=>match jbK len (cap.room len) lo hi mx with
   | some (l,r,m)=>
    match a with
    | none=>some (.slice none 0 (.fix 0))
    | some (b,o)=>match cap,mx with
     | .grow q,none=>bif Nat.beq q sz then some (.slice (some (b,o+l*sz)) (r-l) (.grow q)) else none
     | .least q k,none=>bif Nat.beq q sz then some (.slice (some (b,o+l*sz)) (r-l) (.least q (k-l))) else none
     | _,_=>some (.slice (some (b,o+l*sz)) (r-l) (.fix (m-l)))
   | none=>none
  | _,_,_,_=>none
noncomputable def jj5 (off:Nat) (x:Opd) (e:Env):Option V :=
 match evF x e with
  | some (.ptr (some (b,o)))=>some (.ptr (some (b,o+off)))
  | _=>none
noncomputable def jj4 (off:Nat) (n:Option Nat) (x:Opd) (e:Env):Option V :=
 match evF x e with
  | some (.agg l)=>match part l off n with
   | some v=>some (v)
   | none=>none
  | _=>none
noncomputable def jlM (len:Nat) (sz:Nat) (x:Opd) (i:Opd) (e:Env):Option V :=
 match evF x e,evF i e with
  | some (.ptr (some (b,o))),some (.int _ n)=>bif below n len then some (.ptr (some (b,o+n.toNat*sz))) else none
  | _,_=>none
noncomputable def jlL (sz:Nat) (x:Opd) (i:Opd) (e:Env):Option V :=
 match evF x e,evF i e with
  | some (.slice (some (b,o)) len _),some (.int _ n)=>bif below n len then some (.ptr (some (b,o+n.toNat*sz))) else none
  | _,_=>none
noncomputable def jng (len:Nat) (sz:Nat) (n:Option Nat) (x:Opd) (i:Opd) (e:Env):Option V :=
 match evF x e,evF i e with
  | some (.agg l),some (.int _ k)=>bif below k len then
    match part l (k.toNat*sz) n with
    | some v=>some (v)
    | none=>none
   else none
  | _,_=>none
noncomputable def jj3 (x:Opd) (i:Opd) (e:Env):Option V :=
 match evF x e,evF i e with
  | some (.str s),some (.int _ n)=>bif below n s.length then
    match s[n.toNat]? with
    | some b=>some (jlb b)
    | none=>none
   else none
  | _,_=>none
noncomputable def jlJ (x:Opd) (e:Env):Option V :=
 match evF x e with
  | some (.str s)=>some (.int .i64 s.length)
  | _=>none
noncomputable def jlK (x:Opd) (e:Env):Option V :=
 match evF x e with
  | some (.slice _ n _)=>some (.int .i64 n)
  | _=>none
noncomputable def jeY (x:Opd) (i:Nat) (e:Env):Option V :=
 match evF x e with
  | some (.tup l)=>match l[i]? with
   | some v=>some (v)
   | none=>none
  | _=>none
noncomputable def jlH (xs:List Opd) (e:Env):Option V :=
 match evsF e xs with
  | some (a :: r)=>match jgC minV a r with
   | some v=>some (v)
   | none=>none
  | _=>none
noncomputable def jlI (xs:List Opd) (e:Env):Option V :=
 match evsF e xs with
  | some (a :: r)=>match jgC maxV a r with
   | some v=>some (v)
   | none=>none
  | _=>none
noncomputable def jjv (a:Opd) (e:Env) (h:H):Option V :=
 match evF a e with
  | some (.ptr (some (b,o)))=>match h.load1 b o with
   | some v=>some (v)
   | none=>none
  | _=>none
noncomputable def jju (n:Nat) (a:Opd) (e:Env) (h:H):Option V :=
 match evF a e with
  | some (.ptr (some (b,o)))=>match h.load b o n with
   | some l=>some (.agg l)
   | none=>none
  | _=>none
noncomputable def jeR (x:Opd) (e:Env) (h:H):Option V :=
 match evF x e with
  | some (.slice none _ _)=>some (.str [])
  | some (.slice (some (b,o)) n _)=>bif n == 0 then some (.str []) else
   match h.load b o n with
   | some l=>match bytesOf l with
    | some s=>some (.str s)
    | none=>none
   | none=>none
  | _=>none
noncomputable def jhn (ks:KS) (zero:V) (ok:Bool) (m:Opd) (k:Opd) (e:Env) (h:H):Option V :=
 match evF m e,evF k e with
  | some (.map none),some k=>match jdq ks k [] with
   | some _=>some (if ok then .tup [zero,.bool false] else zero)
   | none=>none
  | some (.map (some r)),some k=>match h.map? r with
   | some (es,_)=>match jdq ks k es with
    | some (some (_,v,_))=>some (if ok then .tup [v,.bool true] else v)
    | some none=>some (if ok then .tup [zero,.bool false] else zero)
    | none=>none
   | none=>none
  | _,_=>none
noncomputable def jjA (_x0:Nat) (zero:List V) (_e:Env):Option (Obj × (Nat->V)) :=
 some (.cells zero false,fun b=>.ptr (some (b,0)))
noncomputable def jni (_x0:Nat) (x:Opd) (e:Env):Option (Obj × (Nat->V)) :=
 match evF x e with
  | some v=>some (.cells v.cells false,fun b=>.ptr (some (b,0)))
  | none=>none
noncomputable def jh4 (sz:Nat) (len:Nat) (zero:List V) (parts:List (Nat × Opd)) (e:Env):Option (Obj × (Nat->V)) :=
 match jaR e (parts.map fun p=>(p.1*sz,sz,p.2)) with
  | some ps=>match jaH zero ps with
   | some l=>some (.cells l false,fun b=>.slice (some (b,0)) len (.fix len))
   | none=>none
  | none=>none
noncomputable def jfe (x:Opd) (e:Env):Option (Obj × (Nat->V)) :=
 match evF x e with
  | some (.str s)=>bif Nat.ble s.length (2 ^ 46) then some (.cells (s.map jlb) false,fun b=>.slice (some (b,0)) s.length (.grow 1)) else none
  | _=>none
noncomputable def jj9  (_e:Env):Option (Obj × (Nat->V)) :=
 some (.map [] 0,fun b=>.map (some b))
noncomputable def jff (_x0:Nat) (bytes:Nat) (zero:List V) (len:Opd) (cap:Opd) (e:Env):Option (Obj × (Nat->V)) :=
 match len.ev e,cap.ev e with
  | some (.int _ (.ofNat l)),some (.int _ (.ofNat c))=>
   bif Nat.ble l c&&Nat.ble (c*bytes) (2 ^ 46)&&Nat.ble c (2 ^ 46) then some (.cells (List.replicate c zero).flatten false,fun b=>.slice (some (b,0)) l (.fix c)) else none
  | _,_=>none
noncomputable def jjM (n:Nat) (a:Opd) (x:Opd) (_call:Call) (e:Env) (h:H):Option (V × H) :=
 match evF a e,evF x e with
  | some (.ptr (some (b,o))),some v=>
   bif Nat.beq v.cells.length n then
    match h.store b o v.cells with
    | some h'=>some (.undef,h')
    | none=>none
   else none
  | _,_=>none
noncomputable def jmg (ks:KS) (m:Opd) (k:Opd) (v:Opd) (_call:Call) (e:Env) (h:H):Option (V × H) :=
 match evF m e,evF k e,evF v e with
  | some (.map (some r)),some k,some v=>match h.map? r with
   | some (es,c)=>match jdq ks k es with
    | some (some (i,_,born))=>some (.undef,h.set r (.map (es.set i (k,v,born)) c))
    | some none=>some (.undef,h.set r (.map (es++[(k,v,c)]) (c+1)))
    | none=>none
   | none=>none
  | _,_,_=>none
noncomputable def jmh (ks:KS) (m:Opd) (k:Opd) (_call:Call) (e:Env) (h:H):Option (V × H) :=
 match evF m e,evF k e with
  | some (.map none),some k=>match jdq ks k [] with
   | some _=>some (.undef,h)
   | none=>none
  | some (.map (some r)),some k=>match h.map? r with
   | some (es,c)=>match jdq ks k es with
    | some (some (i,_,_))=>some (.undef,h.set r (.map (es.eraseIdx i) c))
    | some none=>some (.undef,h)
    | none=>none
   | none=>none
  | _,_=>none
noncomputable def jmk (f:FuncId) (args:List Opd) (call:Call) (e:Env) (h:H):Option (V × H) :=
 match evsF e args with
  | some l=>call (.fn f) l h
  | none=>none
noncomputable def jjO (x:Opd) (args:List Opd) (call:Call) (e:Env) (h:H):Option (V × H) :=
 match evF x e,evsF e args with
  | some (.clo f cap),some l=>call (.fn f) (l++cap) h
  | some (.yld r),some l=>call (.yld r) l h
  | some (.bcl f v),some l=>call (.fn f) (v :: l) h
  | _,_=>none
noncomputable def jjP (ms:MT) (x:Opd) (args:List Opd) (call:Call) (e:Env) (h:H):Option (V × H) :=
 match evF x e,evsF e args with
  | some (.clo f cap),some l=>call (.fn f) (l++cap) h
  | some (.yld r),some l=>call (.yld r) l h
  | some (.bm n t v),some l=>match ms.find? (fun p=>p.1 == n) with
   | some (_,tbl)=>match tbl.find? (fun p=>p.1 == t) with
    | some (_,f)=>call (.fn f) (v :: l) h
    | none=>none
   | none=>none
  | some (.bcl f v),some l=>call (.fn f) (v :: l) h
  | _,_=>none
noncomputable def jhO (tbl:List (TypeId × FuncId)) (x:Opd) (args:List Opd) (call:Call) (e:Env) (h:H):Option (V × H) :=
 match evF x e,evsF e args with
  | some (.iface t v),some l=>match tbl.find? (fun p=>p.1 == t) with
   | some (_,f)=>call (.fn f) (v :: l) h
   | none=>none
  | _,_=>none
noncomputable def jhP (sz:Nat) (bytes:Nat) (x:Opd) (y:Opd) (_call:Call) (e:Env) (h:H):Option (V × H) :=
 match evF x e,evF y e with
  | some a,some b=>jb8 h sz bytes a b
  | _,_=>none
noncomputable def jmj (sz:Nat) (x:Opd) (y:Opd) (_call:Call) (e:Env) (h:H):Option (V × H) :=
 match evF x e,evF y e with
  | some a,some b=>jhR h sz a b
  | _,_=>none
noncomputable def jjN (z:List V) (x:Opd) (_call:Call) (e:Env) (h:H):Option (V × H) :=
 match evF x e with
  | some a=>jd1 h z a
  | none=>none
noncomputable def jmi (x:Opd) (_call:Call) (e:Env) (h:H):Option (V × H) :=
 match evF x e with
  | some (.slice (some (b,o)) n c)=>match h.get b with
   | some (.cells _ false)=>bif Nat.ble 1 n then some (.slice (some (b,o)) n c,h) else none
   | _=>none
  | _=>none
abbrev RunT:=Call->Env->H->Option Nat->Option (V × H)
noncomputable def jof (q0:Opd):RunT:=fun _ e h _=>fin1 (joE q0 e) h
noncomputable def jgu (q0:Bool) (q1:Opd):RunT:=fun _ e h _=>fin1 (jjz q0 q1 e) h
noncomputable def jiR (q0:Opd) (q1:Opd) (q2:Opd):RunT:=fun _ e h _=>fin1 (jlF q0 q1 q2 e) h
noncomputable def jg8 (q0:Nat) (q1:List V):RunT:=fun _ e h a=>finA (jjA q0 q1 e) h a
noncomputable def jma (q0:Nat) (q1:Opd):RunT:=fun _ e h a=>finA (jni q0 q1 e) h a
noncomputable def jg7 (q0:List V) (q1:List (Nat × Nat × Opd)):RunT:=fun _ e h _=>fin1 (jj6 q0 q1 e) h
noncomputable def jeq (q0:Nat) (q1:Nat) (q2:List V) (q3:List (Nat × Opd)):RunT:=fun _ e h a=>finA (jh4 q0 q1 q2 q3 e) h a
noncomputable def jg0 (q0:Opd):RunT:=fun _ e h _=>fin1 (jjv q0 e h) h
noncomputable def jgz (q0:Nat) (q1:Opd):RunT:=fun _ e h _=>fin1 (jju q0 q1 e h) h
noncomputable def jgs (q0:Nat) (q1:Opd) (q2:Opd):RunT:=fun call e h _=>jjM q0 q1 q2 call e h
noncomputable def jgv (q0:Opd):RunT:=fun _ e h _=>fin1 (jj0 q0 e) h
noncomputable def jiT (q0:String) (q1:Opd):RunT:=fun _ e h _=>fin1 (jlG q0 q1 e) h
noncomputable def jgy (q0:FuncId) (q1:Opd):RunT:=fun _ e h _=>fin1 (jj2 q0 q1 e) h
noncomputable def jen (q0:String) (q1:List (TypeId × FuncId)) (q2:Opd):RunT:=fun _ e h _=>fin1 (jhy q0 q1 q2 e) h
noncomputable def jmb (q0:BinOp) (q1:Opd) (q2:Opd):RunT:=fun _ e h _=>fin1 (jnh q0 q1 q2 e) h
noncomputable def jog (q0:EK) (q1:Bool) (q2:Opd) (q3:Opd):RunT:=fun _ e h _=>fin1 (joF q0 q1 q2 q3 e) h
noncomputable def joe (q0:UnOp) (q1:Opd):RunT:=fun _ e h _=>fin1 (joD q0 q1 e) h
noncomputable def jdo (q0:IntKind) (q1:Opd):RunT:=fun _ e h _=>fin1 (jeZ q0 q1 e) h
noncomputable def jdj (q0:Opd):RunT:=fun _ e h a=>finA (jfe q0 e) h a
noncomputable def jdk (q0:Opd):RunT:=fun _ e h _=>fin1 (jeR q0 e h) h
noncomputable def jiX (q0:Opd):RunT:=fun call e h _=>jmi q0 call e h
noncomputable def jjc  : RunT:=fun _ _ _ _=>none
noncomputable def jdm (q0:TypeId) (q1:Opd):RunT:=fun _ e h _=>fin1 (jeX q0 q1 e) h
noncomputable def jgx (q0:FuncId) (q1:List Opd):RunT:=fun _ e h _=>fin1 (jj1 q0 q1 e) h
noncomputable def jgw  : RunT:=fun _ e h a=>finA (jj9  e) h a
noncomputable def jdl (q0:Nat) (q1:Nat) (q2:List V) (q3:Opd) (q4:Opd):RunT:=fun _ e h a=>finA (jff q0 q1 q2 q3 q4 e) h a
noncomputable def jem (q0:Opd) (q1:Option Opd) (q2:Option Opd):RunT:=fun _ e h _=>fin1 (jhx q0 q1 q2 e) h
noncomputable def jgt (q0:Nat) (q1:Opd) (q2:Option Opd) (q3:Option Opd) (q4:Option Opd):RunT:=fun _ e h _=>fin1 (jjy q0 q1 q2 q3 q4 e) h
noncomputable def jg3 (q0:Nat) (q1:Opd):RunT:=fun _ e h _=>fin1 (jj5 q0 q1 e) h
noncomputable def jg2 (q0:Nat) (q1:Option Nat) (q2:Opd):RunT:=fun _ e h _=>fin1 (jj4 q0 q1 q2 e) h
noncomputable def jjb (q0:Nat) (q1:Nat) (q2:Opd) (q3:Opd):RunT:=fun _ e h _=>fin1 (jlM q0 q1 q2 q3 e) h
noncomputable def jja (q0:Nat) (q1:Opd) (q2:Opd):RunT:=fun _ e h _=>fin1 (jlL q0 q1 q2 e) h
noncomputable def jlZ (q0:Nat) (q1:Nat) (q2:Option Nat) (q3:Opd) (q4:Opd):RunT:=fun _ e h _=>fin1 (jng q0 q1 q2 q3 q4 e) h
noncomputable def jg1 (q0:Opd) (q1:Opd):RunT:=fun _ e h _=>fin1 (jj3 q0 q1 e) h
noncomputable def jeo (q0:KS) (q1:V) (q2:Bool) (q3:Opd) (q4:Opd):RunT:=fun _ e h _=>fin1 (jhn q0 q1 q2 q3 q4 e h) h
noncomputable def jiS (q0:KS) (q1:Opd) (q2:Opd) (q3:Opd):RunT:=fun call e h _=>jmg q0 q1 q2 q3 call e h
noncomputable def jiV (q0:KS) (q1:Opd) (q2:Opd):RunT:=fun call e h _=>jmh q0 q1 q2 call e h
noncomputable def jdn (q0:Opd) (q1:Nat):RunT:=fun _ e h _=>fin1 (jeY q0 q1 e) h
noncomputable def jje (q0:FuncId) (q1:List Opd):RunT:=fun call e h _=>jmk q0 q1 call e h
noncomputable def jg5 (q0:Opd) (q1:List Opd):RunT:=fun call e h _=>jjO q0 q1 call e h
noncomputable def jg6 (q0:MT) (q1:Opd) (q2:List Opd):RunT:=fun call e h _=>jjP q0 q1 q2 call e h
noncomputable def jep (q0:List (TypeId × FuncId)) (q1:Opd) (q2:List Opd):RunT:=fun call e h _=>jhO q0 q1 q2 call e h
noncomputable def jiY (q0:Opd):RunT:=fun _ e h _=>fin1 (jlJ q0 e) h
noncomputable def jiZ (q0:Opd):RunT:=fun _ e h _=>fin1 (jlK q0 e) h
noncomputable def jer (q0:Nat) (q1:Nat) (q2:Opd) (q3:Opd):RunT:=fun call e h _=>jhP q0 q1 q2 q3 call e h
noncomputable def jjd (q0:Nat) (q1:Opd) (q2:Opd):RunT:=fun call e h _=>jmj q0 q1 q2 call e h
noncomputable def jg4 (q0:List V) (q1:Opd):RunT:=fun call e h _=>jjN q0 q1 call e h
noncomputable def jiU (q0:List Opd):RunT:=fun _ e h _=>fin1 (jlH q0 e) h
noncomputable def jiW (q0:List Opd):RunT:=fun _ e h _=>fin1 (jlI q0 e) h
noncomputable def runF (i:I):RunT :=
 I.rec (motive:=fun _=>RunT) jof jgu jiR jg8 jma jg7 jeq jg0 jgz jgs jgv jiT jgy jen jmb jog joe jdo jdj jdk jiX jjc jdm jgx jgw jdl jem jgt jg3 jg2 jjb jja jlZ jg1 jeo jiS jiV jdn jje jg5 jg6 jep jiY jiZ jer jjd jg4 jiU jiW i
theorem runF_eq (i:I) (call:Call) (e:Env) (h:H) (a:Option Nat):runF i call e h a=i.run call e h a:=by
 cases i
 case mv q0=>
  show jof q0 call e h a=_
  simp only [jof,joE,I.run,I.cls,I.pure,jas,jap]<;>rfl
 case recap q0 q1=>
  show jgu q0 q1 call e h a=_
  simp only [jgu,jjz,I.run,I.cls,I.pure,jas,jap]<;>rfl
 case pick q0 q1 q2=>
  show jiR q0 q1 q2 call e h a=_
  simp only [jiR,jlF,I.run,I.cls,I.pure,jas,jap]<;>rfl
 case alloc q0 q1=>
  show jg8 q0 q1 call e h a=_
  simp only [jg8,jjA,I.run,I.cls,I.make,finA]<;>rfl
 case box q0 q1=>
  show jma q0 q1 call e h a=_
  simp only [jma,jni,I.run,I.cls,I.make,finA,jap]<;>rfl
 case build q0 q1=>
  show jg7 q0 q1 call e h a=_
  simp only [jg7,jj6,I.run,I.cls,I.pure,jas]<;>rfl
 case bslice q0 q1 q2 q3=>
  show jeq q0 q1 q2 q3 call e h a=_
  simp only [jeq,jh4,I.run,I.cls,I.make,finA]<;>rfl
 case load1 q0=>
  show jg0 q0 call e h a=_
  simp only [jg0,jjv,I.run,I.cls,I.read,jas,jap]<;>rfl
 case loadN q0 q1=>
  show jgz q0 q1 call e h a=_
  simp only [jgz,jju,I.run,I.cls,I.read,jas,jap]<;>rfl
 case store q0 q1 q2=>
  show jgs q0 q1 q2 call e h a=_
  simp only [jgs,jjM,I.run,I.cls,I.eff,jap,joa]<;>rfl
 case nilck q0=>
  show jgv q0 call e h a=_
  simp only [jgv,jj0,I.run,I.cls,I.pure,jas,jap]<;>rfl
 case mkBm q0 q1=>
  show jiT q0 q1 call e h a=_
  simp only [jiT,jlG,I.run,I.cls,I.pure,jas,jap]<;>rfl
 case mkBcl q0 q1=>
  show jgy q0 q1 call e h a=_
  simp only [jgy,jj2,I.run,I.cls,I.pure,jas,jap]<;>rfl
 case nilckB q0 q1 q2=>
  show jen q0 q1 q2 call e h a=_
  simp only [jen,jhy,I.run,I.cls,I.pure,jas,jap]<;>rfl
 case bin q0 q1 q2=>
  show jmb q0 q1 q2 call e h a=_
  simp only [jmb,jnh,I.run,I.cls,I.pure,jas,jap,binOpF_eq]<;>rfl
 case eq q0 q1 q2 q3=>
  show jog q0 q1 q2 q3 call e h a=_
  simp only [jog,joF,I.run,I.cls,I.pure,jas,jap]<;>rfl
 case un q0 q1=>
  show joe q0 q1 call e h a=_
  simp only [joe,joD,I.run,I.cls,I.pure,jas,jap]<;>rfl
 case convInt q0 q1=>
  show jdo q0 q1 call e h a=_
  simp only [jdo,jeZ,I.run,I.cls,I.pure,jas,jap,jbl]<;>rfl
 case toBytes q0=>
  show jdj q0 call e h a=_
  simp only [jdj,jfe,I.run,I.cls,I.make,finA,jap]<;>rfl
 case ofBytes q0=>
  show jdk q0 call e h a=_
  simp only [jdk,jeR,I.run,I.cls,I.read,jas,jap]<;>rfl
 case mark q0=>
  show jiX q0 call e h a=_
  simp only [jiX,jmi,I.run,I.cls,I.eff,jap]<;>rfl
 case fail =>
  show jjc  call e h a=_
  simp only [jjc,I.run,I.cls,I.pure]<;>rfl
 case mkIface q0 q1=>
  show jdm q0 q1 call e h a=_
  simp only [jdm,jeX,I.run,I.cls,I.pure,jas,jap]<;>rfl
 case mkClo q0 q1=>
  show jgx q0 q1 call e h a=_
  simp only [jgx,jj1,I.run,I.cls,I.pure,jas,jcj]<;>rfl
 case mkMap =>
  show jgw  call e h a=_
  simp only [jgw,jj9,I.run,I.cls,I.make,finA]<;>rfl
 case mkSlice q0 q1 q2 q3 q4=>
  show jdl q0 q1 q2 q3 q4 call e h a=_
  simp only [jdl,jff,I.run,I.cls,I.make,finA]<;>rfl
 case sliceS q0 q1 q2=>
  show jem q0 q1 q2 call e h a=_
  simp only [jem,jhx,I.run,I.cls,I.pure,jas,jap]<;>rfl
 case slice q0 q1 q2 q3 q4=>
  show jgt q0 q1 q2 q3 q4 call e h a=_
  simp only [jgt,jjy,I.run,I.cls,I.pure,jas,jap]<;>rfl
 case faddr q0 q1=>
  show jg3 q0 q1 call e h a=_
  simp only [jg3,jj5,I.run,I.cls,I.pure,jas,jap]<;>rfl
 case field q0 q1 q2=>
  show jg2 q0 q1 q2 call e h a=_
  simp only [jg2,jj4,I.run,I.cls,I.pure,jas,jap]<;>rfl
 case ixaA q0 q1 q2 q3=>
  show jjb q0 q1 q2 q3 call e h a=_
  simp only [jjb,jlM,I.run,I.cls,I.pure,jas,jap]<;>rfl
 case ixaS q0 q1 q2=>
  show jja q0 q1 q2 call e h a=_
  simp only [jja,jlL,I.run,I.cls,I.pure,jas,jap]<;>rfl
 case ixA q0 q1 q2 q3 q4=>
  show jlZ q0 q1 q2 q3 q4 call e h a=_
  simp only [jlZ,jng,I.run,I.cls,I.pure,jas,jap]<;>rfl
 case ixStr q0 q1=>
  show jg1 q0 q1 call e h a=_
  simp only [jg1,jj3,I.run,I.cls,I.pure,jas,jap]<;>rfl
 case lookup q0 q1 q2 q3 q4=>
  show jeo q0 q1 q2 q3 q4 call e h a=_
  simp only [jeo,jhn,I.run,I.cls,I.read,jas,jap]<;>rfl
 case mput q0 q1 q2 q3=>
  show jiS q0 q1 q2 q3 call e h a=_
  simp only [jiS,jmg,I.run,I.cls,I.eff,jap]<;>rfl
 case mdel q0 q1 q2=>
  show jiV q0 q1 q2 call e h a=_
  simp only [jiV,jmh,I.run,I.cls,I.eff,jap]<;>rfl
 case extract q0 q1=>
  show jdn q0 q1 call e h a=_
  simp only [jdn,jeY,I.run,I.cls,I.pure,jas,jap]<;>rfl
 case call q0 q1=>
  show jje q0 q1 call e h a=_
  simp only [jje,jmk,I.run,I.cls,I.eff,jcj]<;>rfl
 case callv q0 q1=>
  show jg5 q0 q1 call e h a=_
  simp only [jg5,jjO,I.run,I.cls,I.eff,jap,jcj]<;>rfl
 case callb q0 q1 q2=>
  show jg6 q0 q1 q2 call e h a=_
  simp only [jg6,jjP,I.run,I.cls,I.eff,jap,jcj]<;>rfl
 case invoke q0 q1 q2=>
  show jep q0 q1 q2 call e h a=_
  simp only [jep,jhO,I.run,I.cls,I.eff,jap,jcj]<;>rfl
 case lenS q0=>
  show jiY q0 call e h a=_
  simp only [jiY,jlJ,I.run,I.cls,I.pure,jas,jap]<;>rfl
 case lenL q0=>
  show jiZ q0 call e h a=_
  simp only [jiZ,jlK,I.run,I.cls,I.pure,jas,jap]<;>rfl
 case append q0 q1 q2 q3=>
  show jer q0 q1 q2 q3 call e h a=_
  simp only [jer,jhP,I.run,I.cls,I.eff,jap]<;>rfl
 case copy q0 q1 q2=>
  show jjd q0 q1 q2 call e h a=_
  simp only [jjd,jmj,I.run,I.cls,I.eff,jap]<;>rfl
 case clear q0 q1=>
  show jg4 q0 q1 call e h a=_
  simp only [jg4,jjN,I.run,I.cls,I.eff,jap]<;>rfl
 case minI q0=>
  show jiU q0 call e h a=_
  simp only [jiU,jlH,I.run,I.cls,I.pure,jas,jcj]<;>rfl
 case maxI q0=>
  show jiW q0 call e h a=_
  simp only [jiW,jlI,I.run,I.cls,I.pure,jas,jcj]<;>rfl
noncomputable def jh1 (e:Env):List Nat->Env
 | []=>[]
 | s :: r=>match getF e s with
  | some v=>(s,v) :: jh1 e r
  | none=>jh1 e r
theorem jdE (e:Env) : ∀ l,jh1 e l=e.only l
 | []=>rfl
 | s :: r=>by simp only [jh1,Env.only,jgA,jdE e r];rfl
noncomputable def jno (e:Env):Option (Nat × Bool)->Bool
 | none=>true
 | some (j,want)=>match getF e j with
  | some (.bool b)=>b == want
  | _=>false
theorem wantF_eq (e:Env) (g:Option (Nat × Bool)):jno e g=wanted e g:=by
 cases g with
 | none=>rfl
 | some g=>obtain ⟨j,w⟩:=g;simp only [jno,wanted,jgA];rfl
noncomputable def joG (s:Ins) (e:Env) (k:Env->H->Option (Env × H)) (o:Option (V × H)):Option (Env × H):=match o with
 | some (v,h')=>match s.chk with
  | []=>k (layv e s.dst v) h'
  | c=>bif jaB e h' c then k (layv e s.dst v) h' else none
 | none=>none
noncomputable def opF (s:Ins) (call:Call) (base:Nat) (e:Env) (h:H) (k:Env->H->Option (Env × H)):Option (Env × H) :=
 bif jno e s.guard then joG s e k (runF s.i call e h (s.at_.map (base + ·))) else k (layv e s.dst .undef) h
noncomputable def jdM (l:List Ins):Call->Nat->Env->H->Option (Env × H) :=
 List.rec (motive:=fun _=>Call->Nat->Env->H->Option (Env × H)) (fun _ _ e h=>some (e,h)) (fun s _ ih call base e h=>opF s call base e h (ih call base)) l
theorem jeQ : ∀ (l:List Ins) (call:Call) (base:Nat) (e:Env) (h:H),jdM l call base e h=jag call base l e h
 | [],_,_,_,_=>rfl
 | s :: r,call,base,e,h=>by
  show opF s call base e h (jdM r call base)=_
  have ih:jdM r call base=jag call base r:=by funext e h;exact jeQ r call base e h
  rw [ih]
  have hd:jag call base (s :: r) e h=(bif wanted e s.guard then
   match s.i.run call e h (s.at_.map (base + ·)) with
   | some (v,h')=>bif jaB e h' s.chk then jag call base r (layv e s.dst v) h' else none
   | none=>none
  else jag call base r (layv e s.dst .undef) h):=rfl
  rw [hd]
  unfold opF
  rw [wantF_eq,runF_eq]
  generalize wanted e s.guard=g
  cases g
  ·rfl
  ·simp only [cond_true]
   unfold joG
   cases I.run call e h (Option.map (fun x=>base+x) s.at_) s.i with
   | none=>rfl
   | some q=>
    obtain ⟨v,h'⟩:=q
    simp only
    cases s.chk with
    | nil=>simp [jaB]
    | cons _ _=>rfl
abbrev DT:=Call->Nat->Env->H->Res
noncomputable def job (keep:List Nat) (o:Option (Env × H)):Res:=match o with
 | some (e',h')=>some (.normal,jh1 e' keep,h')
 | none=>none
noncomputable def jna (r:Res) (k:Env->H->Res):Res:=match r with
 | some (.normal,e',h')=>k e' h'
 | r=>r
noncomputable def jlT (c:Option V) (a b:Env->H->Res) (e:Env) (h:H):Res:=match c with
 | some (.bool true)=>a e h
 | some (.bool false)=>b e h
 | _=>none
noncomputable def jiO (id:Nat) (r:Res):Res:=match r with
 | some (.exit id',e',h')=>bif Nat.beq id' id then some (.normal,e',h') else some (.exit id',e',h')
 | r=>r
noncomputable def jlU (body:Env->H->Res) (live:List Nat) (n:Nat):Env->H->Res :=
 Nat.rec (motive:=fun _=>Env->H->Res) (fun _ _=>none) (fun _ ih e h=>jna (body (jh1 e live) h) ih) n
theorem jjE (body:Env->H->Res) (live:List Nat) : ∀ (n:Nat) (e:Env) (h:H),jlU body live n e h=iter body live n e h
 | 0,_,_=>rfl
 | n+1,e,h=>by
  show jna (body (jh1 e live) h) (jlU body live n)=_
  have ih:jlU body live n=iter body live n:=by funext e h;exact jjE body live n e h
  rw [ih,jdE];rfl
noncomputable def jiN (f:Option V) (params live:List Nat) (assign body:AC) (call:Call) (e:Env) (h:H):Res :=
  match f with
  | some (.clo g cap)=>
   match call (.fn g) (.yld h.nx :: cap) (h.new (.loop .ready none params (jh1 e live) assign body)) with
   | some (_,h')=>
    match h'.get h.nx with
    | some (.loop st pend _ _ _ _)=>
     match st with
     | .busy=>none
     | _=>match pend with
      | none=>some (.normal,e,h'.kill h.nx)
      | some ex=>some (ex,e,h'.kill h.nx)
    | _=>none
   | none=>none
  | _=>none
noncomputable def DF (c:AC):DT:=AC.rec (motive:=fun _=>DT)
 (fun _ _ e h=>some (.normal,e,h))
 (fun res ops keep call _ e h=>job keep (jdM ops call h.nx e (h.reserve res)))
 (fun _ _ iha ihb call fuel e h=>jna (iha call fuel e h) (ihb call fuel))
 (fun c _ _ iha ihb call fuel e h=>jlT (evF c e) (iha call fuel) (ihb call fuel) e h)
 (fun id _ ih call fuel e h=>jiO id (ih call fuel e h))
 (fun live _ ih call fuel e h=>jlU (ih call fuel) live fuel e h)
 (fun f params live assign body _ _ call _ e h=>jiN (evF f e) params live assign body call e h)
 (fun id _ _ e h=>some (.exit id,e,h))
 (fun _ _ e h=>some (.ret,e,h))
 (fun _ ih=>ih)
 (fun _ _ _ e h=>some (.normal,e,h)) c
theorem jc9 : ∀ (c:AC) (call:Call) (fuel:Nat) (e:Env) (h:H),DF c call fuel e h=D call fuel c e h
 | .skip,_,_,_,_=>rfl
 | .label _,_,_,_,_=>rfl
 | .exit _,_,_,_,_=>rfl
 | .ret,_,_,_,_=>rfl
 | .scope a,call,fuel,e,h=>jc9 a call fuel e h
 | .region res ops keep,call,fuel,e,h=>by
  show job keep (jdM ops call h.nx e (h.reserve res))=_
  rw [jeQ];simp only [D,job,jdE]
  cases jag call h.nx ops e (h.reserve res)<;>rfl
 | .seq a b,call,fuel,e,h=>by
  show jna (DF a call fuel e h) (DF b call fuel)=_
  have ih:DF b call fuel=D call fuel b:=by funext e h;exact jc9 b call fuel e h
  rw [ih,jc9 a];rfl
 | .cond c a b,call,fuel,e,h=>by
  show jlT (evF c e) (DF a call fuel) (DF b call fuel) e h=_
  simp only [jlT,D,jap,jc9 a,jc9 b];rfl
 | .block id a,call,fuel,e,h=>by
  show jiO id (DF a call fuel e h)=_
  rw [jc9 a];simp only [jiO,D,joa];rfl
 | .loop live a,call,fuel,e,h=>by
  show jlU (DF a call fuel) live fuel e h=_
  have ih:DF a call fuel=D call fuel a:=by funext e h;exact jc9 a call fuel e h
  rw [ih,jjE];rfl
 | .rangeFunc f params live assign body,call,fuel,e,h=>by
  show jiN (evF f e) params live assign body call e h=_
  simp only [jiN,D,jap,jdE];rfl
noncomputable def jlE (call:Call) (fuel:Nat) (fn:AFn) (args:List V) (h:H):Option (V × H) :=
 bif Nat.beq args.length fn.np then
  match DF fn.body call fuel (Env.ofArgs args 0) h with
  | some (.exit _,_,_)=>none
  | some (_,e,h')=>match jbR e h' fn.res with
   | some l=>some (jbx l,h')
   | none=>none
  | none=>none
 else none
theorem runFnF_eq (call:Call) (fuel:Nat) (fn:AFn) (args:List V) (h:H):jlE call fuel fn args h=jcW call fuel fn args h:=by
 simp only [jlE,jcW,jc9,joa];rfl
noncomputable def jdL (call:Call) (fuel:Nat) (l:Nat) (args:List V) (h:H):Option (V × H) :=
 match h.get l with
 | some (.loop _ _ params env assign body)=>
  match jc2 env params args with
  | none=>none
  | some e0=>
   match DF assign call fuel e0 h with
   | some (.normal,e1,h1)=>
    match h1.get l with
    | some (.loop .ready p ps en a b)=>
     match DF body call fuel e1 (h1.set l (.loop .busy p ps en a b)) with
     | some (ex,_,h3)=>
      match h3.get l with
      | some (.loop _ _ ps' en' a' b')=>
       match ex with
       | .normal=>some (.bool true,h3.set l (.loop .ready none ps' en' a' b'))
       | ex=>some (.bool false,h3.set l (.loop .done (some ex) ps' en' a' b'))
      | _=>none
     | none=>none
    | _=>none
   | _=>none
 | _=>none
theorem jhm (call:Call) (fuel:Nat) (l:Nat) (args:List V) (h:H):jdL call fuel l args h=jbE call fuel l args h:=by
 simp only [jdL,jbE,jc9];rfl
noncomputable def jhZ {α : Type} (l:List (Nat × α)) (s:Nat):Option α := List.rec (motive:=fun _=>Option α) none (fun p _ ih=>bif Nat.beq p.1 s then some p.2 else ih) l
theorem jhY {α : Type} : ∀ (l:List (Nat × α)) (s:Nat),jhZ l s=jaL l s
 | [],_=>rfl
 | (k,v) :: r,s=>by
  show (bif Nat.beq k s then some v else jhZ r s)=_
  rw [jhY r s];rfl
noncomputable def joh (call:Call) (fuel:Nat) (fns:List (FuncId × AFn)) (f:FuncId) (args:List V) (h:H) (p:Option Prim):Option (V × H):=match p with
 | some p=>p args h
 | none=>match jhZ fns f with
  | some fn=>jlE call fuel fn args h
  | none=>none
noncomputable def joK (P:Prog) (fuel:Nat) (call:Call) (t:Tgt) (args:List V) (h:H):Option (V × H) :=
 Tgt.rec (fun f=>joh call fuel P.fns f args h (jhZ P.prims f)) (fun l=>jdL call fuel l args h) t
noncomputable def jac (P:Prog) (fuel:Nat) (n:Nat):Call:=Nat.rec (motive:=fun _=>Call) (fun _ _ _=>none) (fun _ ih=>joK P fuel ih) n
theorem jcS (P:Prog) (fuel:Nat) : ∀ n,jac P fuel n=ja9 P fuel n
 | 0=>rfl
 | n+1=>by
  show joK P fuel (jac P fuel n)=_
  rw [jcS P fuel n]
  funext t args h
  cases t with
  | fn f=>
   show joh (ja9 P fuel n) fuel P.fns f args h (jhZ P.prims f)=_
   simp only [joh,jhY,runFnF_eq,ja9];rfl
  | yld l=>exact jhm _ _ _ _ _
end Am
namespace Am.Sigs
open Am Go
noncomputable def runL (call:Call) (fuel:Nat):List AC->Env->H->Res
 | [],e,h=>some (.normal,e,h)
 | c :: r,e,h=>match DF c call fuel e h with
  | some (.normal,e',h')=>runL call fuel r e' h'
  | x=>x
theorem jb5 (call:Call) (fuel:Nat) (c:AC) (r:List AC) (e:Env) (h:H):runL call fuel (c :: r) e h=match DF c call fuel e h with
  | some (.normal,e',h')=>runL call fuel r e' h'
  | x=>x:=rfl
def flat:AC->List AC
 | .seq a b=>flat a++flat b
 | c=>[c]
theorem jbn (call:Call) (fuel:Nat) (c:AC) (e:Env) (h:H):runL call fuel [c] e h=D call fuel c e h:=by
 unfold runL
 rw [jc9]
 cases D call fuel c e h with
 | none=>rfl
 | some r=>
  obtain ⟨x,e',h'⟩:=r
  cases x<;>rfl
theorem jc1 (call:Call) (fuel:Nat) : ∀ (a b:List AC) (e:Env) (h:H),runL call fuel (a++b) e h=match runL call fuel a e h with
  | some (.normal,e',h')=>runL call fuel b e' h'
  | x=>x
 | [],b,e,h=>rfl
 | c :: r,b,e,h=>by
  rw [List.cons_append,jb5,jb5]
  cases DF c call fuel e h with
  | none=>rfl
  | some q=>
   obtain ⟨x,e',h'⟩:=q
   cases x with
   | normal=>exact jc1 call fuel r b e' h'
   | exit _=>rfl
   | ret=>rfl
theorem jdz (call:Call) (fuel:Nat) : ∀ (c:AC) (e:Env) (h:H),D call fuel c e h=runL call fuel (flat c) e h
 | .seq a b,e,h=>by
  show _=runL call fuel (flat a++flat b) e h
  rw [jc1,<- jdz call fuel a e h]
  show (match D call fuel a e h with
   | some (.normal,e',h')=>D call fuel b e' h'
   | r=>r)=_
  cases D call fuel a e h with
  | none=>rfl
  | some q=>
   obtain ⟨x,e',h'⟩:=q
   cases x with
   | normal=>exact jdz call fuel b e' h'
   | exit _=>rfl
   | ret=>rfl
 | .skip,e,h=>(jbn call fuel _ e h).symm
 | .label _,e,h=>(jbn call fuel _ e h).symm
 | .region _ _ _,e,h=>(jbn call fuel _ e h).symm
 | .cond _ _ _,e,h=>(jbn call fuel _ e h).symm
 | .block _ _,e,h=>(jbn call fuel _ e h).symm
 | .loop _ _,e,h=>(jbn call fuel _ e h).symm
 | .rangeFunc _ _ _ _ _,e,h=>(jbn call fuel _ e h).symm
 | .exit _,e,h=>(jbn call fuel _ e h).symm
 | .ret,e,h=>(jbn call fuel _ e h).symm
 | .scope _,e,h=>(jbn call fuel _ e h).symm
section
variable {call:Call} {fuel:Nat} {e e1:Env} {h h1:H} {r:Res}
theorem go_take {a b:List AC} (k:runL call fuel a e h=some (.normal,e1,h1)) (z:runL call fuel b e1 h1=r):runL call fuel (a++b) e h=r:=by
 rw [jc1,k];exact z
theorem go_cons {c:AC} {b:List AC} (k:D call fuel c e h=some (.normal,e1,h1)) (z:runL call fuel b e1 h1=r):runL call fuel (c :: b) e h=r:=by
 rw [jb5,jc9,k];exact z
theorem jax {lb:AC} {live:List Nat} {n:Nat} (k:runL call fuel (flat lb) (e.only live) h=some (.normal,e1,h1)) (z:iter (D call fuel lb) live n e1 h1=r):iter (D call fuel lb) live (n+1) e h=r:=by
 rw [<- jdz] at k
 simp only [iter,k];exact z
theorem loop_exit {lb:AC} {live:List Nat} {n id:Nat} (k:runL call fuel (flat lb) (e.only live) h=some (.exit id,e1,h1)):iter (D call fuel lb) live (n+1) e h=some (.exit id,e1,h1):=by
 rw [<- jdz] at k
 simp only [iter,k]
theorem jaK {c:AC} {id:Nat} (k:D call fuel c e h=some (.normal,e1,h1)):D call fuel (.block id c) e h=some (.normal,e1,h1):=by
 simp only [D,k]
theorem block_exit {lb:AC} {live:List Nat} {id:Nat} (k:iter (D call fuel lb) live fuel e h=some (.exit id,e1,h1)):D call fuel (.block id (.loop live lb)) e h=some (.normal,e1,h1):=by
 simp only [D,k,beq_self_eq_true,cond_true]
end
theorem jnf {call:Call} (hC:jcn call) (hG:jeN call) (fuel:Nat) : ∀ l,jnd (runL call fuel l)
 | []=>fun e h ex e' h' hr=>by cases hr;exact ⟨zn _,fun X h2 x=>⟨_,rfl,x⟩⟩
 | c :: r=>fun e h ex e' h' hr=>by
  rw [jb5,jc9] at hr
  split at hr
  ·next e1 h1 hd=>
   have a:=D_F hC hG fuel c _ _ _ _ _ hd
   have b:=jnf hC hG fuel r _ _ _ _ _ hr
   refine ⟨zu a.1 b.1,fun X h2 x=>?_⟩
   obtain ⟨h3,e3,x3⟩:=a.2 X h2 x
   rw [jb5,jc9,e3]
   exact b.2 X h3 x3
  ·next hd=>
   have a:=D_F hC hG fuel c _ _ _ _ _ hr
   refine ⟨a.1,fun X h2 x=>?_⟩
   obtain ⟨h3,e3,x3⟩:=a.2 X h2 x
   rw [jb5,jc9,e3]
   have hne:ex ≠ .normal:=fun e0=>hd e' h' (by rw [hr,e0])
   split
   ·next q=>cases q;exact zw rfl hne
   ·exact ⟨_,rfl,x3⟩
structure St where
 E:Env
 n:Nat
 T:List (Nat × Obj)
def jlQ (n:Nat):List (Nat × Obj)->H
 | []=>⟨n,.lf⟩
 | p :: r=>(jlQ n r).set p.1 p.2
def St.h (s:St):H:=jlQ s.n s.T
theorem jgj (n:Nat) : ∀ l,(jlQ n l).nx=n
 | []=>rfl
 | p :: r=>jgj n r
theorem jh5 (n:Nat) : ∀ (l:List (Nat × Obj)) {j:Nat} {o:Obj},(jlQ n l).get j=some o->(j,o)∈l
 | [],j,o,h=>by cases h
 | p :: r,j,o,h=>by
  unfold jlQ at h
  rw [H.get_set] at h
  split at h
  ·next e=>cases h;subst e;exact zh ..
  ·exact zj _ (jh5 n r h)
structure Meets (s:St) (h:H):Prop where
 nx:h.nx=s.n
 has : ∀ p∈s.T,h.get p.1=some p.2
 wf : ∀ j,s.n<=j->h.get j=none
theorem Meets.ext {s:St} {h:H} (m:Meets s h):Ext (fun j=>match s.h.get j with | some _=>none | none=>h.get j) s.h h:=by
 have hh : ∀ j o,s.h.get j=some o->h.get j=some o:=fun j o e=>m.has _ (jh5 s.n s.T e)
 refine ⟨by rw [m.nx];exact (jgj _ _).symm,fun j=>?_,fun j hj=>?_⟩
 ·cases hq:s.h.get j with
  | some o=>rw [hh j o hq];rfl
  | none=>simp
 ·cases hq:s.h.get j with
  | some o=>rw [hq] at hj;exact zw rfl hj
  | none=>
   rw [hq] at hj
   refine ⟨?_,rfl⟩
   rcases zr j s.n with h1 | h1
   ·rw [show s.h.nx=s.n from jgj _ _];exact h1
   ·exact zw (m.wf j h1) hj
def envB:Env->Env->Bool
 | [],[]=>true
 | (i,v) :: a,(j,u) :: b=>Nat.beq i j&&(V.same v u&&envB a b)
 | _,_=>false
theorem jji : ∀ {a b:Env},envB a b=true->a=b
 | [],[],_=>rfl
 | (i,v) :: a,(j,u) :: b,h=>by
  simp only [envB,zm] at h
  rw [Nat.eq_of_beq_eq_true h.1,V.same_eq h.2.1,jji h.2.2]
 | [],_ :: _,h=>by cases h
 | _ :: _,[],h=>by cases h
def hasB (h:H):List (Nat × Obj)->Bool
 | []=>true
 | p :: r=>(match h.get p.1 with
  | some o=>o.eqB p.2
  | none=>false)&&hasB h r
theorem jgr {h:H} : ∀ {l:List (Nat × Obj)},hasB h l=true -> ∀ p∈l,h.get p.1=some p.2
 | q :: r,hb,p,hp=>by
  simp only [hasB,zm] at hb
  rcases zE.1 hp with rfl | hp
  ·obtain ⟨h1,_⟩:=hb
   split at h1
   ·next o ho=>rw [ho,Obj.eqB_eq h1]
   ·cases h1
  ·exact jgr hb.2 p hp
def exB:Ex->Ex->Bool
 | .normal,.normal=>true
 | .ret,.ret=>true
 | .exit a,.exit b=>Nat.beq a b
 | _,_=>false
theorem exB_eq {a b:Ex} (h:exB a b=true):a=b:=by
 cases a<;>cases b<;>simp_all [exB]
def after (s:St) (x0:Ex):Res->Bool
 | some (x,e,h)=>exB x x0&&(envB e s.E&&(Nat.beq h.nx s.n&&(hasB h s.T&&Nat.ble (ttop h.t) s.n)))
 | none=>false
theorem jal {call:Call} (hC:jcn call) (hG:jeN call) {fuel:Nat} {l:List AC} {s s':St} {x0:Ex} {e:Env} (hk:after s' x0 (runL call fuel l e s.h)=true) {h:H} (m:Meets s h) : ∃ h',runL call fuel l e h=some (x0,s'.E,h')/\Meets s' h':=by
 unfold after at hk
 split at hk
 ·next x e1 h1 hr=>
  simp only [zm,zA] at hk
  obtain ⟨k1,k2,k3,k4,k5⟩:=hk
  obtain ⟨-,hf⟩:=jnf hC hG fuel l _ _ _ _ _ hr
  obtain ⟨h2,e2,x2⟩:=hf _ h m.ext
  rw [exB_eq k1,jji k2] at e2
  refine ⟨h2,e2,?_,fun p hp=>x2.has (jgr k4 p hp),fun j hj=>?_⟩
  ·rw [x2.nx];exact Nat.eq_of_beq_eq_true k3
  ·have hn:h1.get j=none:=jg9 h1.t j om
   rw [x2.get,hn]
   show none.or _=_
   rw [Option.none_or]
   cases hx:(match s.h.get j with | some _=>none | none=>h.get j) with
   | none=>rfl
   | some o=>
    have:=(x2.off j (by show (match s.h.get j with | some _=>none | none=>h.get j)≠none;rw [hx];simp)).1
    rw [Nat.eq_of_beq_eq_true k3] at this
    omega
 ·cases hk
theorem jaa (d:Nat):jcn (jac prog fuel d)/\jeN (jac prog fuel d):=by rw [jcS];exact jbY primsF fuel d
theorem jkY {f d:Nat} {fn:AFn} {s:St} {h h':H} (hp:jaL prog.prims f=none) (hf:jaL prog.fns f=some fn) (hn:fn.np=0) (hr:runL (jac prog fuel d) fuel (flat fn.body) [] h=some (.ret,s.E,h')) (hq:jbR s.E h' fn.res=some [.bool true]) :
  ja9 prog fuel (d+1) (.fn f) [] h=some (.bool true,h'):=by
 rw [<- jdz,jcS] at hr
 simp only [ja9,hp,hf,jcW,hn,Env.ofArgs,hr,hq]
 rfl
section
variable {call:Call} {fuel:Nat} {e e1 e3:Env} {h h1 h2 h3:H} {r:Res} {x:Ex}
theorem jai {l:List AC} {a:Nat} (n:Nat) (k:runL call fuel ((l.drop a).take n) e h=some (.normal,e1,h1)) (z:runL call fuel (l.drop (a+n)) e1 h1=r):runL call fuel (l.drop a) e h=r:=by
 rw [<- List.take_append_drop n (l.drop a),List.drop_drop]
 exact go_take k z
theorem jhQ {l:List AC} {a:Nat} (hl:Nat.blt a l.length=true):l.drop a=(l.drop a).headD .skip :: l.drop (a+1):=by
 rw [Nat.blt_eq] at hl
 rw [List.drop_eq_getElem_cons hl]
 rfl
theorem jav {l:List AC} {a:Nat} (hl:Nat.blt a l.length=true) (k:D call fuel ((l.drop a).headD .skip) e h=some (.normal,e1,h1)) (z:runL call fuel (l.drop (a+1)) e1 h1=r):runL call fuel (l.drop a) e h=r:=by
 rw [jhQ hl]
 exact go_cons k z
theorem jfQ {l:List AC} {a:Nat} (hl:Nat.blt a l.length=true) (k:D call fuel ((l.drop a).headD .skip) e h=some (x,e1,h1)) (hx:exB x .normal=false):runL call fuel (l.drop a) e h=some (x,e1,h1):=by
 rw [jhQ hl,jb5,jc9,k]
 cases x with
 | normal=>cases hx
 | exit _=>rfl
 | ret=>rfl
theorem block_ret {c:AC} {id:Nat} (k:D call fuel c e h=some (.ret,e1,h1)):D call fuel (.block id c) e h=some (.ret,e1,h1):=by
 simp only [D,k]
theorem loop_ret {lb:AC} {live:List Nat} {n:Nat} (k:runL call fuel (flat lb) (e.only live) h=some (.ret,e1,h1)):iter (D call fuel lb) live (n+1) e h=some (.ret,e1,h1):=by
 rw [<- jdz] at k
 simp only [iter,k]
theorem jbV {c:AC} (k:runL call fuel ((flat c).drop 0) e h=r):D call fuel c e h=r:=by
 rw [jdz];exact k
theorem cond_t {c:Opd} {a b:AC} (hc:c.ev e=some (.bool true)) (k:D call fuel a e h=r):D call fuel (.cond c a b) e h=r:=by
 simp only [D,hc];exact k
theorem cond_f {c:Opd} {a b:AC} (hc:c.ev e=some (.bool false)) (k:D call fuel b e h=r):D call fuel (.cond c a b) e h=r:=by
 simp only [D,hc];exact k
theorem runOps_append (call:Call) (base:Nat) : ∀ (a b:List Ins) (e:Env) (h:H),jag call base (a++b) e h=match jag call base a e h with
  | some (e',h')=>jag call base b e' h'
  | none=>none
 | [],b,e,h=>rfl
 | s :: r,b,e,h=>by
  rw [List.cons_append]
  simp only [jag]
  cases wanted e s.guard with
  | false=>exact runOps_append call base r b _ _
  | true=>
   simp only [cond_true]
   cases s.i.run call e h (s.at_.map (base + ·)) with
   | none=>rfl
   | some q=>
    obtain ⟨v,h'⟩:=q
    simp only
    cases jaB e h' s.chk with
    | false=>rfl
    | true=>exact runOps_append call base r b _ _
theorem run_call {f:FuncId} {l:List Opd} {vs:List V} {at_:Option Nat} {v:V} (ha:evs e l=some vs) (k:call (.fn f) vs h=some (v,h1)):(I.call f l).run call e h at_=some (v,h1):=by
 simp only [I.run,I.cls,I.eff,ha,k]
theorem jk1 {keep:List Nat} {o1 o2:List Ins} {s:Ins} {v:V} (k1:jag call h.nx o1 e h=some (e1,h1)) (hg:wanted e1 s.guard=true) (hi:s.i.run call e1 h1 (s.at_.map (h.nx + ·))=some (v,h2)) (hc:jaB e1 h2 s.chk=true)
  (k3:jag call h.nx o2 (layv e1 s.dst v) h2=some (e3,h3)):D call fuel (.region 0 (o1++s :: o2) keep) e h=some (.normal,e3.only keep,h3):=by
 have h0:h.reserve 0=h:=rfl
 simp only [D,h0,runOps_append,k1]
 simp only [jag,hg,cond_true,hi,hc,k3]
def noAt:List Ins->Bool
 | []=>true
 | s :: r=>s.at_.isNone&&noAt r
theorem jfU (call:Call) (b b':Nat) : ∀ (l:List Ins),noAt l=true -> ∀ (e:Env) (h:H),jag call b l e h=jag call b' l e h
 | [],_,e,h=>rfl
 | s :: r,hn,e,h=>by
  simp only [noAt,zm,Option.isNone_iff_eq_none] at hn
  simp only [jag,hn.1,Option.map_none]
  cases wanted e s.guard with
  | false=>exact jfU call b b' r hn.2 _ _
  | true=>
   simp only [cond_true]
   cases s.i.run call e h none with
   | none=>rfl
   | some q=>
    obtain ⟨v,h'⟩:=q
    simp only
    cases jaB e h' s.chk with
    | false=>rfl
    | true=>exact jfU call b b' r hn.2 _ _
end
def ja0 (s:St):Option (Env × H)->Bool
 | some (e,h)=>envB e s.E&&(Nat.beq h.nx s.n&&(hasB h s.T&&Nat.ble (ttop h.t) s.n))
 | none=>false
theorem ja7 {d:Nat} {l:List Ins} {s s':St} {e:Env} (hk:ja0 s' (jag (jac prog fuel d) s.n l e s.h)=true) (hna:noAt l=true) {b:Nat} {h:H} (m:Meets s h) : ∃ h',jag (jac prog fuel d) b l e h=some (s'.E,h')/\Meets s' h':=by
 obtain ⟨hC,hG⟩:=jaa d
 unfold ja0 at hk
 split at hk
 ·next e1 h1 hr=>
  simp only [zm,zA] at hk
  obtain ⟨k2,k3,k4,k5⟩:=hk
  have hX : ∀ k,s.n<=k->(match s.h.get k with | some _=>none | none=>h.get k)=none:=fun k hk=>by
   split
   ·rfl
   ·exact m.wf k hk
  obtain ⟨-,h2,e2,x2⟩:=Ext.runOps hC hG m.ext hX hr
  rw [jji k2] at e2
  refine ⟨h2,(jfU _ _ s.n l hna _ _).trans e2,?_,fun p hp=>x2.has (jgr k4 p hp),fun j hj=>?_⟩
  ·rw [x2.nx];exact Nat.eq_of_beq_eq_true k3
  ·have hn:h1.get j=none:=jg9 h1.t j om
   rw [x2.get,hn]
   show none.or _=_
   rw [Option.none_or]
   cases hx:(match s.h.get j with | some _=>none | none=>h.get j) with
   | none=>first | exact hx | rfl
   | some o=>
    have:=(x2.off j (by show (match s.h.get j with | some _=>none | none=>h.get j)≠none;rw [hx];simp)).1
    rw [Nat.eq_of_beq_eq_true k3] at this
    omega
 ·cases hk
theorem jaA {f d:Nat} {fn:AFn} {args:List V} {s:St} {h h':H} {l:List V} (hp:jaL prog.prims f=none) (hf:jaL prog.fns f=some fn) (hn:(args.length == fn.np)=true) (hr:runL (jac prog fuel d) fuel ((flat fn.body).drop 0) (Env.ofArgs args 0) h=some (.ret,s.E,h')) (m:Meets s h') (hq:jbR s.E s.h fn.res=some l) :
  jac prog fuel (d+1) (.fn f) args h=some (jbx l,h'):=by
 have hr:runL (jac prog fuel d) fuel (flat fn.body) (Env.ofArgs args 0) h=some (.ret,s.E,h'):=hr
 rw [<- jdz,jcS] at hr
 rw [jcS]
 simp only [ja9,hp,hf,jcW,hn,cond_true,hr,ji5 m.ext hq]
theorem Meets.env {s:St} {h:H} (m:Meets s h) (E:Env):Meets { s with E:=E } h:=⟨m.nx,m.has,m.wf⟩
def blkB:AC->AC
 | .block _ b=>b
 | _=>.skip
def lpB:AC->AC
 | .loop _ b=>b
 | _=>.skip
def rgO:AC->List Ins
 | .region _ o _=>o
 | _=>[]
def insD:Ins:=⟨0,none,.mv (.c .nilfn),none,none,[]⟩
def jc6 (l:List Ins) (j:Nat):Ins:=(l.drop j).headD insD
def jjS:I->Env->Option (Nat × List V)
 | .call f l,e=>match evs e l with
  | some vs=>some (f,vs)
  | none=>none
 | _,_=>none
theorem D_of {call:Call} {fuel:Nat} {c c':AC} {e:Env} {h:H} {r:Res} (hc:c=c') (k:D call fuel c' e h=r):D call fuel c e h=r:=by rw [hc];exact k
theorem jaq {call:Call} {i:I} {e:Env} {h h1:H} {f:Nat} {vs l:List V} {v:V} {at_:Option Nat} (hs:jjS i e=some (f,vs)) (hv:jbx l=v) (k:call (.fn f) vs h=some (jbx l,h1)):i.run call e h at_=some (v,h1):=by
 unfold jjS at hs
 split at hs
 ·next f' l'=>
  split at hs
  ·next vs' ha=>
   cases hs
   rw [<- hv]
   exact run_call ha k
  ·cases hs
 ·cases hs
theorem jar {call:Call} {fuel:Nat} {keep:List Nat} {o1 o2:List Ins} {s:Ins} {v:V} {e e1 e2 e3 e4:Env} {h h1 h2 h3:H} (k1:jag call h.nx o1 e h=some (e1,h1)) (hg:wanted e1 s.guard=true) (hi:s.i.run call e1 h1 (s.at_.map (h.nx + ·))=some (v,h2)) (hc:jaB e1 h2 s.chk=true)
  (hl:layv e1 s.dst v=e2) (k3:jag call h.nx o2 e2 h2=some (e3,h3)) (hk:e3.only keep=e4):D call fuel (.region 0 (o1++s :: o2) keep) e h=some (.normal,e4,h3):=by
 subst hl hk
 exact jk1 k1 hg hi hc k3
def subT (T:List (Nat × Obj)):List (Nat × Obj)->Bool
 | []=>true
 | p :: r=>(T.any fun q=>Nat.beq q.1 p.1&&q.2.eqB p.2)&&subT T r
theorem jaQ {h:H} {T:List (Nat × Obj)} (m : ∀ p∈T,h.get p.1=some p.2) : ∀ {T':List (Nat × Obj)},subT T T'=true -> ∀ p∈T',h.get p.1=some p.2
 | q :: r,k,p,hp=>by
  simp only [subT,zm] at k
  rcases zE.1 hp with rfl | hp
  ·obtain ⟨x,hx,hb⟩:=List.any_eq_true.1 k.1
   simp only [zm] at hb
   have:=m x hx
   rw [Nat.eq_of_beq_eq_true hb.1,Obj.eqB_eq hb.2] at this
   exact this
  ·exact jaQ m k.2 p hp
def rpL (n:Nat) (l:List V):List V:=(List.replicate n l).flatten
def ptA (b:Nat):V := .ptr (some (b,0))
abbrev nC (c:AC) (n:Nat):AC:=((flat c).drop n).headD .skip
def uO0:Am.Obj := .cells [.int .u64 1,.int .u64 10,.int .u64 100,.int .u64 1000,.int .u64 10000,.int .u64 100000,.int .u64 1000000,.int .u64 10000000,.int .u64 100000000,.int .u64 1000000000,.int .u64 10000000000,.int .u64 100000000000,.int .u64 1000000000000,.int .u64 10000000000000,.int .u64 100000000000000,.int .u64 1000000000000000,.int .u64 10000000000000000,.int .u64 100000000000000000,.int .u64 1000000000000000000,.int .u64 10000000000000000000] true
def uO1:Am.Obj := .cells [.int .u8 0,.int .u8 1,.int .u8 28,.int .u8 2,.int .u8 29,.int .u8 14,.int .u8 24,.int .u8 3,.int .u8 30,.int .u8 22,.int .u8 20,.int .u8 15,.int .u8 25,.int .u8 17,.int .u8 4,.int .u8 8,.int .u8 31,.int .u8 27,.int .u8 13,.int .u8 23,.int .u8 21,.int .u8 19,.int .u8 16,.int .u8 7,.int .u8 26,.int .u8 12,.int .u8 18,.int .u8 6,.int .u8 11,.int .u8 5,.int .u8 10,.int .u8 9] true
def uO2:Am.Obj := .cells [.int .u8 0,.int .u8 1,.int .u8 56,.int .u8 2,.int .u8 57,.int .u8 49,.int .u8 28,.int .u8 3,.int .u8 61,.int .u8 58,.int .u8 42,.int .u8 50,.int .u8 38,.int .u8 29,.int .u8 17,.int .u8 4,.int .u8 62,.int .u8 47,.int .u8 59,.int .u8 36,.int .u8 45,.int .u8 43,.int .u8 51,.int .u8 22,.int .u8 53,.int .u8 39,.int .u8 33,.int .u8 30,.int .u8 24,.int .u8 18,.int .u8 12,.int .u8 5,.int .u8 63,.int .u8 55,.int .u8 48,.int .u8 27,.int .u8 60,.int .u8 41,.int .u8 37,.int .u8 16,.int .u8 46,.int .u8 35,.int .u8 44,.int .u8 21,.int .u8 52,.int .u8 32,.int .u8 23,.int .u8 11,.int .u8 54,.int .u8 26,.int .u8 40,.int .u8 15,.int .u8 34,.int .u8 20,.int .u8 31,.int .u8 10,.int .u8 25,.int .u8 14,.int .u8 19,.int .u8 9,.int .u8 13,.int .u8 8,.int .u8 7,.int .u8 6] true
def uM3:List (Nat × Am.Obj):=[(0,uO0),(2,uO1),(3,uO2)]
def uS4:St:=⟨[],4,uM3⟩
def uM6:List (Nat × Am.Obj):=[]
def uS7:St:=⟨[],4,uM6⟩
def uO10:Am.Obj := .cells [.i 3,.i 8] false
def uO11:Am.Obj := .cells [.int .u8 97,.int .u8 98] false
def uO12:Am.Obj := .cells [.i 1,.i 0,.i 0,.slice (some (6,0)) 2 (.fix 2)] false
def uO13:Am.Obj := .cells [.int .u64 3,.bool false,.slice none 0 (.fix 0),.slice (some (7,0)) 1 (.fix 1)] false
def uO14:Am.Obj := .cells [.int .u8 120] false
def uO15:Am.Obj := .cells [.i 2,.i (-1),.i 0,.int .u64 0,.slice none 0 (.fix 0),.i 3,.i 0,.i 0,.int .u64 0,.slice (some (9,0)) 1 (.fix 1)] false
def uO16:Am.Obj := .cells [.i 1,.i 1,.i 0,.i 34,.i 0,.bool false,.int .u64 0,.slice (some (10,0)) 2 (.fix 2)] false
def uO17:Am.Obj := .cells [.i 0,.i 0] false
def uM18:List (Nat × Am.Obj):=[(5,uO10),(6,uO11),(7,uO12),(8,uO13),(9,uO14),(10,uO15),(11,uO16),(12,uO17)]
def uS19:St:=⟨[(41,(.agg [(.slice (some (5,0)) 1 (.fix 1)),(.slice (some (8,0)) 1 (.fix 1)),(.slice (some (11,0)) 1 (.fix 1)),(.slice (some (12,0)) 2 (.fix 2)),(.i 9)]))],13,uM18⟩
def uS21:St:=⟨[(0,(.agg [(.slice (some (5,0)) 1 (.fix 1)),(.slice (some (8,0)) 1 (.fix 1)),(.slice (some (11,0)) 1 (.fix 1)),(.slice (some (12,0)) 2 (.fix 2)),(.i 9)])),(1,(.i 1))],13,uM18⟩
def uO23:Am.Obj := .cells [.slice (some (5,0)) 1 (.fix 1),.slice (some (8,0)) 1 (.fix 1),.slice (some (11,0)) 1 (.fix 1),.slice (some (12,0)) 2 (.fix 2),.i 9] false
def uO24:Am.Obj := .cells [.i 0,.i 0,.i 0,.i 0] false
def uO25:Am.Obj := .cells [.i 0,.i 0,.i 0,.i 191,.i 1,.i 0,.i 1,.i 0] false
def uO26:Am.Obj := .cells (rpL 2 [.i 4,.int .u64 0,.i 0,.i 0,.i 1,.i 0,.slice none 0 (.fix 0)]) false
def uO27:Am.Obj := .cells [.str [110,111,119,32,48],.str [102,100,32,48,32,119,105,114,101,32,48,32,101,110,100,32,48],.str [102,100,32,49,32,119,105,114,101,32,49,32,101,110,100,32,48],.str [102,100,32,50,32,119,105,114,101,32,49,32,101,110,100,32,49],.str [119,105,114,101,32,48,32,105,110,32,47,56,32,111,117,116,32,47,56],.str [119,105,114,101,32,49,32,105,110,32,47,56,32,105,110,32,47,56],.str [110,111,116,105,99,101,32,49,32,48]] false
def uO28:Am.Obj := .cells [.slice (some (175,0)) 8 (.grow 1),.slice (some (177,0)) 2 (.grow 7),.slice (some (316,0)) 7 (.grow 1)] false
def uM29:List (Nat × Am.Obj):=[(5,uO10),(6,uO11),(7,uO12),(8,uO13),(9,uO14),(10,uO15),(11,uO16),(12,uO17),(13,uO23),(14,uO24),(15,uO24),(175,uO25),(177,uO26),(316,uO27),(317,uO28)]
def uS30:St:=⟨[(1,(.i 1)),(2,(ptA 13)),(4,(ptA 14)),(6,(ptA 15)),(7,(ptA 317)),(22,(.i 0))],318,uM29⟩
def uO34:Am.Obj := .cells [.i (-1),.i 0,.i 0,.i 0] false
def uM35:List (Nat × Am.Obj):=[(5,uO10),(6,uO11),(7,uO12),(8,uO13),(9,uO14),(10,uO15),(11,uO16),(12,uO17),(13,uO23),(14,uO24),(15,uO34),(175,uO25),(177,uO26),(316,uO27),(317,uO28)]
def uS36:St:=⟨[(1,(.i 1)),(2,(ptA 13)),(4,(ptA 14)),(6,(ptA 15)),(7,(ptA 317)),(22,(.i 1))],627,uM35⟩
def uO39:Am.Obj := .cells [.i (-1),.i (-1),.i 0,.i 0] false
def uM40:List (Nat × Am.Obj):=[(5,uO10),(6,uO11),(7,uO12),(8,uO13),(9,uO14),(10,uO15),(11,uO16),(12,uO17),(13,uO23),(14,uO24),(15,uO39),(175,uO25),(177,uO26),(316,uO27),(317,uO28)]
def uS41:St:=⟨[(1,(.i 1)),(2,(ptA 13)),(4,(ptA 14)),(6,(ptA 15)),(7,(ptA 317)),(22,(.i 2))],936,uM40⟩
def uS44:St:=⟨[(1,(.i 1)),(2,(ptA 13)),(4,(ptA 14)),(6,(ptA 15)),(7,(ptA 317)),(22,(.i 3))],1594,uM40⟩
def uS47:St:=⟨[(1,(.i 1)),(2,(ptA 13)),(4,(ptA 14)),(6,(ptA 15)),(7,(ptA 317)),(22,(.i 3)),(23,(.bool true))],1594,uM40⟩
def uS51:St:=⟨[(1,(.i 1)),(2,(ptA 13)),(4,(ptA 14)),(6,(ptA 15)),(7,(ptA 317)),(9,(.i 3)),(22,(.i 3))],1594,uM40⟩
def uS54:St:=⟨[(29,(.i 1)),(28,(.i 4)),(27,(.i 3)),(26,(.agg [(.slice (some (5,0)) 1 (.fix 1)),(.slice (some (8,0)) 1 (.fix 1)),(.slice (some (11,0)) 1 (.fix 1)),(.slice (some (12,0)) 2 (.fix 2)),(.i 9)])),(1,(.i 1)),(2,(ptA 13)),(4,(ptA 14)),(6,(ptA 15)),(7,(ptA 317)),(9,(.i 3)),(22,(.i 3))],1594,uM40⟩
def uS56:St:=⟨[(0,(.agg [(.slice (some (5,0)) 1 (.fix 1)),(.slice (some (8,0)) 1 (.fix 1)),(.slice (some (11,0)) 1 (.fix 1)),(.slice (some (12,0)) 2 (.fix 2)),(.i 9)])),(1,(.i 4)),(2,(.i 1))],1594,uM40⟩
def uO58:Am.Obj := .cells (rpL 3 [.slice none 0 (.fix 0)]) false
def uO59:Am.Obj := .cells ([.slice (some (1745,0)) 4 (.grow 1)]++rpL 2 [.slice none 0 (.fix 0)]) false
def uO60:Am.Obj := .cells (rpL 16 [.bool false,.bool false]++rpL 16 [.i 0,.i 0]) false
def uO61:Am.Obj := .cells ([.bool true,.i 0]++rpL 2 [.i 0,.bool true,.i 1]++[.i 1]++rpL 46 [.bool false,.i 0,.i 0,.bool false,.i 0,.i 0]++[.bool false,.i 0,.i 0,.slice (some (1685,0)) 2 (.grow 1),ptA 1613,.int .u64 0,.bool true,.i 1,.i 0]) false
def uO62:Am.Obj := .cells [.i 1,.i 0,ptA 1619,.bool true,.bool false,.int .u64 0,.int .u64 0,.i 2,.i 0,ptA 1621,.bool true,.bool false,.int .u64 0,.int .u64 0,.bool false,.i 0,.slice none 0 (.fix 0)] false
def uO63:Am.Obj := .cells (rpL 8 [.int .u8 0]) false
def uO64:Am.Obj := .cells [.slice (some (1618,0)) 8 (.fix 8),.i 0,.i 0,.int .u64 0,.int .u64 0,.bool true] false
def uO65:Am.Obj := .cells [.slice (some (1620,0)) 8 (.fix 8),.i 0,.i 0,.int .u64 0,.int .u64 0,.bool true] false
def uO66:Am.Obj := .cells [.i 1,.i 0,.i 0,.slice (some (1644,0)) 2 (.grow 1)] false
def uO67:Am.Obj := .cells [.int .u64 3,.bool false,.slice none 0 (.fix 0),.slice (some (1642,0)) 1 (.grow 4)] false
def uO68:Am.Obj := .cells [.slice (some (1646,0)) 1 (.grow 4),.slice none 0 (.fix 0)] false
def uO69:Am.Obj := .cells (rpL 24 [.i 0,.i 0,.i 0,.i 0]++[.i 34]++rpL 19 [.i 0,.i 0,.i 0,.i 0,.i 0]++[.bool true]) false
def uO70:Am.Obj := .cells [ptA 1614,.iface 272 (ptA 1652),ptA 1648,.i 1,.i 1,.i (-1)] false
def uO71:Am.Obj := .map [] 0
def uO72:Am.Obj := .cells [ptA 1614,.map (some 1650)] false
def uO73:Am.Obj := .cells [ptA 1651] false
def uO74:Am.Obj := .cells [.iface 192 (ptA 1649),.i 4] false
def uO75:Am.Obj := .cells (rpL 8 [.slice none 0 (.fix 0)]) false
def uO76:Am.Obj := .cells [.slice (some (1654,0)) 8 (.fix 8),.map (some 1655)] false
def uO77:Am.Obj := .map [((.i 1),(.agg [(.i 1),(.i 0),(.i 34),(.i 0)]),0)] 1
def uO78:Am.Obj := .map [((.i 1),(.agg [(.i 0),(.i 34)]),0)] 1
def uO79:Am.Obj := .cells ([.map (some 1658),.slice (some (1744,0)) 1 (.grow 1)]++rpL 63 [.slice none 0 (.fix 0),.slice none 0 (.fix 0)]++[.slice none 0 (.fix 0)]) false
def uO80:Am.Obj := .cells [.slice none 0 (.fix 0),.map (some 1660),.bool true] false
def uO81:Am.Obj := .cells [ptA 1661,.slice none 0 (.fix 0),.map (some 1662),.int .u64 0] false
def uO82:Am.Obj := .cells [ptA 1663,.map (some 1664),.int .u64 18446744073709551615] false
def uO83:Am.Obj := .cells [ptA 1614,.iface 138 (ptA 1653),.map (some 1657),ptA 1659,ptA 1665,ptA 1656] false
def uO84:Am.Obj := .cells [.i 1,.i 1,ptA 1669,.bool true,.bool false,.int .u64 0,.int .u64 0,.i 1,.i 2,ptA 1671,.bool true,.bool false,.int .u64 0,.int .u64 0,.bool false,.i 0,.slice none 0 (.fix 0)] false
def uO85:Am.Obj := .cells [.slice (some (1668,0)) 8 (.fix 8),.i 0,.i 0,.int .u64 0,.int .u64 0,.bool true] false
def uO86:Am.Obj := .cells [.slice (some (1670,0)) 8 (.fix 8),.i 0,.i 0,.int .u64 0,.int .u64 0,.bool true] false
def uO87:Am.Obj := .cells [ptA 1617,ptA 1667] false
def uO88:Am.Obj := .map [((.i 1),(.slice (some (1724,0)) 2 (.grow 5)),0)] 1
def uO89:Am.Obj := .cells [.i 1,.i 2] false
def uO90:Am.Obj := .cells [ptA 1614,.iface 138 (ptA 1653),ptA 1647,ptA 1666,.map (some 1700),.slice (some (1701,0)) 2 (.fix 2),.slice none 0 (.fix 0),.bool false,.bool false] false
def uO91:Am.Obj := .cells [.i 2,.i (-1),.i 0,.int .u64 0,.slice none 0 (.fix 0),.i 3,.i 0,.i 0,.int .u64 0,.slice (some (1722,0)) 1 (.grow 1)] false
def uO92:Am.Obj := .cells [.i 1] false
def uM93:List (Nat × Am.Obj):=[(5,uO10),(6,uO11),(7,uO12),(8,uO13),(9,uO14),(10,uO15),(11,uO16),(12,uO17),(13,uO23),(14,uO24),(15,uO39),(175,uO25),(177,uO26),(316,uO27),(317,uO28),(1594,uO23),(1595,uO58),(1612,uO59),(1613,uO60),(1614,uO61),(1617,uO62),(1618,uO63),(1619,uO64),(1620,uO63),(1621,uO65),(1642,uO66),(1644,uO11),(1646,uO67),(1647,uO68),(1648,uO69),(1649,uO70),(1650,uO71),(1651,uO72),(1652,uO73),(1653,uO74),(1654,uO75),(1655,uO71),(1656,uO76),(1657,uO77),(1658,uO78),(1659,uO79),(1660,uO71),(1661,uO80),(1662,uO71),(1663,uO81),(1664,uO71),(1665,uO82),(1666,uO83),(1667,uO84),(1668,uO63),(1669,uO85),(1670,uO63),(1671,uO86),(1685,uO87),(1700,uO88),(1701,uO89),(1702,uO90),(1722,uO14),(1724,uO91),(1744,uO92),(1745,uO24)]
def uS94:St:=⟨[(3,(ptA 1594)),(6,(ptA 1595)),(9,(ptA 1612)),(10,(.clo 22 [(ptA 1612)])),(11,(ptA 1614)),(18,(ptA 1702)),(119,(.slice (some (12,0)) 2 (.fix 2))),(120,(.i 2)),(121,(.i 0))],1746,uM93⟩
def uS98:St:=⟨[(3,(ptA 1594)),(6,(ptA 1595)),(9,(ptA 1612)),(10,(.clo 22 [(ptA 1612)])),(11,(ptA 1614)),(18,(ptA 1702)),(119,(.slice (some (12,0)) 2 (.fix 2))),(120,(.i 2)),(121,(.i 0)),(122,(.bool true))],1746,uM93⟩
def jkk:St:=⟨[(3,(ptA 1594)),(6,(ptA 1595)),(9,(ptA 1612)),(10,(.clo 22 [(ptA 1612)])),(11,(ptA 1614)),(18,(ptA 1702)),(22,(.i 0)),(119,(.slice (some (12,0)) 2 (.fix 2))),(120,(.i 2)),(121,(.i 0))],1746,uM93⟩
def uS105:St:=⟨[(129,(.i 9)),(128,(.ptr (some (1594,4)))),(127,(.i 0)),(126,(ptA 1702)),(3,(ptA 1594)),(6,(ptA 1595)),(9,(ptA 1612)),(10,(.clo 22 [(ptA 1612)])),(11,(ptA 1614)),(18,(ptA 1702)),(22,(.i 0)),(119,(.slice (some (12,0)) 2 (.fix 2))),(120,(.i 2)),(121,(.i 0))],1746,uM93⟩
def je4:St:=⟨[(0,(ptA 1702)),(1,(.i 0)),(2,(.i 9))],1746,uM93⟩
def jkj:St:=⟨[(0,(ptA 1702)),(1,(.i 0)),(2,(.i 9)),(13,(.bool false))],1746,uM93⟩
def uS112:St:=⟨[(28,(.i 9)),(27,(.i 0)),(26,(ptA 1702)),(0,(ptA 1702)),(1,(.i 0)),(2,(.i 9)),(13,(.bool false))],1746,uM93⟩
def jd6:St:=⟨[(0,(ptA 1702)),(1,(.i 0)),(2,(.i 9)),(8,(.i 1))],1746,uM93⟩
def jnQ:Am.Obj := .cells [ptA 1614,.iface 138 (ptA 1653),ptA 1647,ptA 1666,.map (some 1700),.slice (some (1701,0)) 2 (.fix 2),.slice (some (1748,0)) 1 (.grow 7),.bool false,.bool false] false
def jfJ:Am.Obj := .cells [.i 1,.int .u64 0,.i 0,.i 0,.i 1,.i 0,.slice none 0 (.fix 0)] false
def jnV:List (Nat × Am.Obj):=[(5,uO10),(6,uO11),(7,uO12),(8,uO13),(9,uO14),(10,uO15),(11,uO16),(12,uO17),(13,uO23),(14,uO24),(15,uO39),(175,uO25),(177,uO26),(316,uO27),(317,uO28),(1594,uO23),(1595,uO58),(1612,uO59),(1613,uO60),(1614,uO61),(1617,uO62),(1618,uO63),(1619,uO64),(1620,uO63),(1621,uO65),(1642,uO66),(1644,uO11),(1646,uO67),(1647,uO68),(1648,uO69),(1649,uO70),(1650,uO71),(1651,uO72),(1652,uO73),(1653,uO74),(1654,uO75),(1655,uO71),(1656,uO76),(1657,uO77),(1658,uO78),(1659,uO79),(1660,uO71),(1661,uO80),(1662,uO71),(1663,uO81),(1664,uO71),(1665,uO82),(1666,uO83),(1667,uO84),(1668,uO63),(1669,uO85),(1670,uO63),(1671,uO86),(1685,uO87),(1700,uO88),(1701,uO89),(1702,jnQ),(1722,uO14),(1724,uO91),(1744,uO92),(1745,uO24),(1748,jfJ)]
def jki:St:=⟨[(0,(ptA 1702)),(1,(.i 0)),(2,(.i 9)),(8,(.i 1))],1749,jnV⟩
def uS127:St:=⟨[(57,(.i 0)),(56,(ptA 1702)),(0,(ptA 1702)),(1,(.i 0)),(2,(.i 9)),(8,(.i 1))],1749,jnV⟩
def jlp:St:=⟨[(0,(ptA 1702)),(1,(.i 0))],1749,jnV⟩
def jo0:Am.Obj := .cells [ptA 1702] false
def jkv:Am.Obj := .cells [.bool false] false
def uM133:List (Nat × Am.Obj):=[(5,uO10),(6,uO11),(7,uO12),(8,uO13),(9,uO14),(10,uO15),(11,uO16),(12,uO17),(13,uO23),(14,uO24),(15,uO39),(175,uO25),(177,uO26),(316,uO27),(317,uO28),(1594,uO23),(1595,uO58),(1612,uO59),(1613,uO60),(1614,uO61),(1617,uO62),(1618,uO63),(1619,uO64),(1620,uO63),(1621,uO65),(1642,uO66),(1644,uO11),(1646,uO67),(1647,uO68),(1648,uO69),(1649,uO70),(1650,uO71),(1651,uO72),(1652,uO73),(1653,uO74),(1654,uO75),(1655,uO71),(1656,uO76),(1657,uO77),(1658,uO78),(1659,uO79),(1660,uO71),(1661,uO80),(1662,uO71),(1663,uO81),(1664,uO71),(1665,uO82),(1666,uO83),(1667,uO84),(1668,uO63),(1669,uO85),(1670,uO63),(1671,uO86),(1685,uO87),(1700,uO88),(1701,uO89),(1702,jnQ),(1722,uO14),(1724,uO91),(1744,uO92),(1745,uO24),(1748,jfJ),(1749,jo0),(1750,jkv)]
def jn6:St:=⟨[(1,(.i 0)),(2,(ptA 1749)),(4,(ptA 1750)),(8,(.int .u64 0)),(9,(.bool true))],1758,uM133⟩
def jku:Am.Obj := .cells ([.bool true,.i 0]++rpL 2 [.i 0,.bool true,.i 1]++[.i 1]++rpL 46 [.bool false,.i 0,.i 0,.bool false,.i 0,.i 0]++[.bool false,.i 0,.i 0,.slice (some (1685,0)) 2 (.grow 1),ptA 1613,.int .u64 3,.bool true,.i 1,.i 0]) false
def uO137:Am.Obj := .cells [.i 1,.i 0,ptA 1619,.bool true,.bool false,.int .u64 1,.int .u64 0,.i 2,.i 0,ptA 1621,.bool true,.bool false,.int .u64 0,.int .u64 0,.bool false,.i 0,.slice none 0 (.fix 0)] false
def jcc:Am.Obj := .cells ([.int .u8 97,.int .u8 98]++rpL 6 [.int .u8 0]) false
def uO139:Am.Obj := .cells [.slice (some (1618,0)) 8 (.fix 8),.i 0,.i 2,.int .u64 2,.int .u64 0,.bool true] false
def jkt:Am.Obj := .cells [.slice (some (1646,4)) 0 (.grow 4),.slice none 0 (.fix 0)] false
def uO141:Am.Obj := .cells ([.i 34]++rpL 19 [.i 0,.i 0,.i 0,.i 0,.i 0]++[.i 34]++rpL 19 [.i 0,.i 0,.i 0,.i 0,.i 0]++[.bool true]) false
def jks:Am.Obj := .cells [ptA 1614,.iface 272 (ptA 1652),ptA 1648,.i 1,.i 1,.i 1] false
def jkr:Am.Obj := .map [((.agg [(.i 0),(.i 1)]),(.agg [(.i 0),(.i 16),(.bool false),(.int .u64 1)]),0),((.agg [(.i 1),(.i 3)]),(.agg [(.i 0),(.i 0),(.bool true),(.int .u64 0)]),1),((.agg [(.i 2),(.i 3)]),(.agg [(.i 0),(.i 0),(.bool true),(.int .u64 0)]),2),((.agg [(.i 3),(.i 3)]),(.agg [(.i 0),(.i 0),(.bool true),(.int .u64 0)]),3),((.agg [(.i 4),(.i 3)]),(.agg [(.i 0),(.i 0),(.bool true),(.int .u64 0)]),4),((.agg [(.i 5),(.i 3)]),(.agg [(.i 0),(.i 0),(.bool true),(.int .u64 0)]),5),((.agg [(.i 6),(.i 3)]),(.agg [(.i 0),(.i 0),(.bool true),(.int .u64 0)]),6),((.agg [(.i 7),(.i 3)]),(.agg [(.i 0),(.i 0),(.bool true),(.int .u64 0)]),7),((.agg [(.i 8),(.i 3)]),(.agg [(.i 0),(.i 0),(.bool true),(.int .u64 0)]),8),((.agg [(.i 9),(.i 3)]),(.agg [(.i 0),(.i 0),(.bool true),(.int .u64 0)]),9),((.agg [(.i 10),(.i 3)]),(.agg [(.i 0),(.i 0),(.bool true),(.int .u64 0)]),10),((.agg [(.i 11),(.i 3)]),(.agg [(.i 0),(.i 0),(.bool true),(.int .u64 0)]),11),((.agg [(.i 12),(.i 3)]),(.agg [(.i 0),(.i 0),(.bool true),(.int .u64 0)]),12),((.agg [(.i 13),(.i 3)]),(.agg [(.i 0),(.i 0),(.bool true),(.int .u64 0)]),13),((.agg [(.i 14),(.i 3)]),(.agg [(.i 0),(.i 0),(.bool true),(.int .u64 0)]),14),((.agg [(.i 15),(.i 3)]),(.agg [(.i 0),(.i 0),(.bool true),(.int .u64 0)]),15),((.agg [(.i 16),(.i 3)]),(.agg [(.i 0),(.i 0),(.bool true),(.int .u64 0)]),16),((.agg [(.i 17),(.i 3)]),(.agg [(.i 0),(.i 0),(.bool true),(.int .u64 0)]),17),((.agg [(.i 18),(.i 3)]),(.agg [(.i 0),(.i 0),(.bool true),(.int .u64 0)]),18),((.agg [(.i 19),(.i 3)]),(.agg [(.i 0),(.i 0),(.bool true),(.int .u64 0)]),19),((.agg [(.i 20),(.i 3)]),(.agg [(.i 0),(.i 0),(.bool true),(.int .u64 0)]),20),((.agg [(.i 21),(.i 3)]),(.agg [(.i 0),(.i 0),(.bool true),(.int .u64 0)]),21),((.agg [(.i 22),(.i 3)]),(.agg [(.i 0),(.i 0),(.bool true),(.int .u64 0)]),22),((.agg [(.i 23),(.i 3)]),(.agg [(.i 0),(.i 0),(.bool true),(.int .u64 0)]),23),((.agg [(.i 24),(.i 3)]),(.agg [(.i 0),(.i 0),(.bool true),(.int .u64 0)]),24),((.agg [(.i 25),(.i 3)]),(.agg [(.i 0),(.i 0),(.bool true),(.int .u64 0)]),25),((.agg [(.i 26),(.i 3)]),(.agg [(.i 0),(.i 0),(.bool true),(.int .u64 0)]),26),((.agg [(.i 27),(.i 3)]),(.agg [(.i 0),(.i 0),(.bool true),(.int .u64 0)]),27),((.agg [(.i 28),(.i 3)]),(.agg [(.i 0),(.i 0),(.bool true),(.int .u64 0)]),28),((.agg [(.i 29),(.i 3)]),(.agg [(.i 0),(.i 0),(.bool true),(.int .u64 0)]),29),((.agg [(.i 30),(.i 3)]),(.agg [(.i 0),(.i 0),(.bool true),(.int .u64 0)]),30),((.agg [(.i 31),(.i 3)]),(.agg [(.i 0),(.i 0),(.bool true),(.int .u64 0)]),31)] 32
def jnP:Am.Obj := .cells [.i 0,.i 2] false
def uM145:List (Nat × Am.Obj):=[(5,uO10),(6,uO11),(7,uO12),(8,uO13),(9,uO14),(10,uO15),(11,uO16),(12,uO17),(13,uO23),(14,uO24),(15,uO39),(175,uO25),(177,uO26),(316,uO27),(317,uO28),(1594,uO23),(1595,uO58),(1612,uO59),(1613,uO60),(1614,jku),(1617,uO137),(1618,jcc),(1619,uO139),(1620,uO63),(1621,uO65),(1642,uO66),(1644,uO11),(1646,uO67),(1647,jkt),(1648,uO141),(1649,jks),(1650,jkr),(1651,uO72),(1652,uO73),(1653,uO74),(1654,uO75),(1655,uO71),(1656,uO76),(1657,uO77),(1658,uO78),(1659,uO79),(1660,uO71),(1661,uO80),(1662,uO71),(1663,uO81),(1664,uO71),(1665,uO82),(1666,uO83),(1667,uO84),(1668,uO63),(1669,uO85),(1670,uO63),(1671,uO86),(1685,uO87),(1700,uO88),(1701,uO89),(1702,jnQ),(1722,uO14),(1724,uO91),(1744,uO92),(1745,uO24),(1748,jfJ),(1749,jo0),(1750,jkv),(2904,jnP)]
def jn5:St:=⟨[(1,(.i 0)),(2,(ptA 1749)),(4,(ptA 1750)),(6,(.i 0)),(10,(.slice (some (2904,0)) 1 (.grow 2))),(11,(.slice none 0 (.fix 0))),(12,(.i 1))],2905,uM145⟩
def jl7:Am.Obj := .cells [.i 1,.i 0,ptA 1619,.bool true,.bool false,.int .u64 1,.int .u64 0,.i 2,.i 0,ptA 1621,.bool true,.bool false,.int .u64 1,.int .u64 1,.bool false,.i 0,.slice none 0 (.fix 0)] false
def jl6:Am.Obj := .cells [.slice (some (1618,0)) 8 (.fix 8),.i 2,.i 0,.int .u64 2,.int .u64 2,.bool true] false
def jcy:Am.Obj := .cells ([.int .u8 120]++rpL 7 [.int .u8 0]) false
def jl5:Am.Obj := .cells [.slice (some (1620,0)) 8 (.fix 8),.i 0,.i 1,.int .u64 1,.int .u64 0,.bool true] false
def jl4:Am.Obj := .cells ([.i 34]++rpL 38 [.i 0,.i 0,.i 0,.i 0,.i 0]++[.i 0,.bool true]) false
def jl3:Am.Obj := .cells ([.slice (some (2924,0)) 0 (.grow 3)]++rpL 7 [.slice none 0 (.fix 0)]) false
def jba:Am.Obj := .map [] 1
def jl2:Am.Obj := .cells ([.map (some 1658),.slice (some (2962,0)) 0 (.grow 1)]++rpL 63 [.slice none 0 (.fix 0),.slice none 0 (.fix 0)]++[.slice none 0 (.fix 0)]) false
def joz:Am.Obj := .cells [ptA 1614,.iface 138 (ptA 1653),ptA 1647,ptA 1666,.map (some 1700),.slice (some (1701,0)) 2 (.fix 2),.slice (some (3005,0)) 4 (.grow 7),.bool false,.bool false] false
def jnO:Am.Obj := .cells [.bool true] false
def jcx:Am.Obj := .cells [.i 0,.i 0,.i 0] false
def jcw:Am.Obj := .cells [.i 0] false
def jak:Am.Obj := .cells [.int .u8 49] false
def joy:Am.Obj := .cells [.i 1,.int .u64 0,.i 0,.i 0,.i 1,.i 0,.slice none 0 (.fix 0),.i 2,.int .u64 3,.i 1,.i 2,.i 0,.i 0,.slice none 0 (.fix 0),.i 3,.int .u64 3,.i 1,.i 0,.i 2,.i 113,.slice (some (2983,0)) 2 (.grow 1),.i 3,.int .u64 3,.i 1,.i 0,.i 3,.i 0,.slice (some (3002,0)) 1 (.grow 1)] false
def uM162:List (Nat × Am.Obj):=[(5,uO10),(6,uO11),(7,uO12),(8,uO13),(9,uO14),(10,uO15),(11,uO16),(12,uO17),(13,uO23),(14,uO24),(15,uO39),(175,uO25),(177,uO26),(316,uO27),(317,uO28),(1594,uO23),(1595,uO58),(1612,uO59),(1613,uO60),(1614,jku),(1617,jl7),(1618,jcc),(1619,jl6),(1620,jcy),(1621,jl5),(1642,uO66),(1644,uO11),(1646,uO67),(1647,jkt),(1648,jl4),(1649,jks),(1650,jkr),(1651,uO72),(1652,uO73),(1653,uO74),(1654,jl3),(1655,jba),(1656,uO76),(1657,uO77),(1658,jba),(1659,jl2),(1660,uO71),(1661,uO80),(1662,uO71),(1663,uO81),(1664,uO71),(1665,uO82),(1666,uO83),(1667,uO84),(1668,uO63),(1669,uO85),(1670,uO63),(1671,uO86),(1685,uO87),(1700,uO88),(1701,uO89),(1702,joz),(1722,uO14),(1724,uO91),(1745,uO24),(1750,jnO),(2924,jcx),(2962,jcw),(2983,uO11),(3002,jak),(3005,joy)]
def jn4:St:=⟨[(4,(ptA 1750)),(5,(.i (-1))),(6,(.i 0))],3006,uM162⟩
def jfM:List (Nat × Am.Obj):=[(5,uO10),(6,uO11),(7,uO12),(8,uO13),(9,uO14),(10,uO15),(11,uO16),(12,uO17),(13,uO23),(14,uO24),(15,uO39),(175,uO25),(177,uO26),(316,uO27),(317,uO28),(1594,uO23),(1595,uO58),(1612,uO59),(1613,uO60),(1614,jku),(1617,jl7),(1618,jcc),(1619,jl6),(1620,jcy),(1621,jl5),(1642,uO66),(1644,uO11),(1646,uO67),(1647,jkt),(1648,jl4),(1649,jks),(1650,jkr),(1651,uO72),(1652,uO73),(1653,uO74),(1654,jl3),(1655,jba),(1656,uO76),(1657,uO77),(1658,jba),(1659,jl2),(1660,uO71),(1661,uO80),(1662,uO71),(1663,uO81),(1664,uO71),(1665,uO82),(1666,uO83),(1667,uO84),(1668,uO63),(1669,uO85),(1670,uO63),(1671,uO86),(1685,uO87),(1700,uO88),(1701,uO89),(1702,joz),(1722,uO14),(1724,uO91),(1745,uO24),(2924,jcx),(2962,jcw),(2983,uO11),(3002,jak),(3005,joy)]
def jmQ:St:=⟨[(58,(.tup [(.bool true),(.i (-1)),(.i 0)])),(57,(.i 0)),(56,(ptA 1702)),(0,(ptA 1702)),(1,(.i 0)),(2,(.i 9)),(8,(.i 1))],3006,jfM⟩
def uS167:St:=⟨[(11,(.i 0)),(10,(.i (-1))),(9,(.bool true)),(61,(.i 0)),(60,(.i (-1))),(59,(.bool true)),(55,(.tup [(.bool true),(.i (-1)),(.i 0)])),(58,(.tup [(.bool true),(.i (-1)),(.i 0)])),(57,(.i 0)),(56,(ptA 1702)),(0,(ptA 1702)),(1,(.i 0)),(2,(.i 9)),(8,(.i 1))],3006,jfM⟩
def jmP:St:=⟨[(0,(ptA 1702)),(1,(.i 0)),(2,(.i 9)),(8,(.i 1)),(10,(.i (-1))),(11,(.i 0))],3006,jfM⟩
def jiw:St:=⟨[(0,(ptA 1702)),(1,(.i 0)),(2,(.i 9)),(8,(.i 1)),(10,(.i (-1))),(11,(.i 0)),(63,(.bool false))],3006,jfM⟩
def jhf:St:=⟨[(0,(ptA 1702)),(1,(.i 0)),(2,(.i 9)),(8,(.i 2))],3006,jfM⟩
def jiv:St:=⟨[(6,(.i 1)),(7,(.i 0))],3009,jfM⟩
def jmO:St:=⟨[(29,(.tup [(.i 1),(.i 0)])),(28,(.i 9)),(27,(.i 0)),(26,(ptA 1702)),(0,(ptA 1702)),(1,(.i 0)),(2,(.i 9)),(13,(.bool false))],3009,jfM⟩
def uS178:St:=⟨[(9,(.i 0)),(8,(.i 1)),(31,(.i 0)),(30,(.i 1)),(25,(.tup [(.i 1),(.i 0)])),(29,(.tup [(.i 1),(.i 0)])),(28,(.i 9)),(27,(.i 0)),(26,(ptA 1702)),(0,(ptA 1702)),(1,(.i 0)),(2,(.i 9)),(13,(.bool false))],3009,jfM⟩
def jmN:St:=⟨[(0,(ptA 1702)),(8,(.i 1)),(9,(.i 0))],3009,jfM⟩
def jox:Am.Obj := .cells [ptA 1614,.iface 138 (ptA 1653),ptA 1647,ptA 1666,.map (some 1700),.slice (some (1701,0)) 2 (.fix 2),.slice (some (3011,0)) 5 (.grow 7),.bool false,.bool false] false
def jow:Am.Obj := .cells [.i 1,.int .u64 0,.i 0,.i 0,.i 1,.i 0,.slice none 0 (.fix 0),.i 2,.int .u64 3,.i 1,.i 2,.i 0,.i 0,.slice none 0 (.fix 0),.i 3,.int .u64 3,.i 1,.i 0,.i 2,.i 113,.slice (some (2983,0)) 2 (.grow 1),.i 3,.int .u64 3,.i 1,.i 0,.i 3,.i 0,.slice (some (3002,0)) 1 (.grow 1),.i 4,.int .u64 3,.i 0,.i 0,.i 1,.i 0,.slice none 0 (.fix 0)] false
def jmY:List (Nat × Am.Obj):=[(5,uO10),(6,uO11),(7,uO12),(8,uO13),(9,uO14),(10,uO15),(11,uO16),(12,uO17),(13,uO23),(14,uO24),(15,uO39),(175,uO25),(177,uO26),(316,uO27),(317,uO28),(1594,uO23),(1595,uO58),(1612,uO59),(1613,uO60),(1614,jku),(1617,jl7),(1618,jcc),(1619,jl6),(1620,jcy),(1621,jl5),(1642,uO66),(1644,uO11),(1646,uO67),(1647,jkt),(1648,jl4),(1649,jks),(1650,jkr),(1651,uO72),(1652,uO73),(1653,uO74),(1654,jl3),(1655,jba),(1656,uO76),(1657,uO77),(1658,jba),(1659,jl2),(1660,uO71),(1661,uO80),(1662,uO71),(1663,uO81),(1664,uO71),(1665,uO82),(1666,uO83),(1667,uO84),(1668,uO63),(1669,uO85),(1670,uO63),(1671,uO86),(1685,uO87),(1700,uO88),(1701,uO89),(1702,jox),(1722,uO14),(1724,uO91),(1745,uO24),(2924,jcx),(2962,jcw),(2983,uO11),(3002,jak),(3011,jow)]
def jn3:St:=⟨[(6,(.i 1)),(7,(.i 0))],3012,jmY⟩
def jmM:St:=⟨[(130,(.tup [(.i 1),(.i 0)])),(129,(.i 9)),(128,(.ptr (some (1594,4)))),(127,(.i 0)),(126,(ptA 1702)),(3,(ptA 1594)),(6,(ptA 1595)),(9,(ptA 1612)),(10,(.clo 22 [(ptA 1612)])),(11,(ptA 1614)),(18,(ptA 1702)),(22,(.i 0)),(119,(.slice (some (12,0)) 2 (.fix 2))),(120,(.i 2)),(121,(.i 0))],3012,jmY⟩
def uS187:St:=⟨[(24,(.i 0)),(23,(.i 1)),(132,(.i 0)),(131,(.i 1)),(125,(.tup [(.i 1),(.i 0)])),(130,(.tup [(.i 1),(.i 0)])),(129,(.i 9)),(128,(.ptr (some (1594,4)))),(127,(.i 0)),(126,(ptA 1702)),(3,(ptA 1594)),(6,(ptA 1595)),(9,(ptA 1612)),(10,(.clo 22 [(ptA 1612)])),(11,(ptA 1614)),(18,(ptA 1702)),(22,(.i 0)),(119,(.slice (some (12,0)) 2 (.fix 2))),(120,(.i 2)),(121,(.i 0))],3012,jmY⟩
def jmL:St:=⟨[(3,(ptA 1594)),(6,(ptA 1595)),(9,(ptA 1612)),(10,(.clo 22 [(ptA 1612)])),(11,(ptA 1614)),(18,(ptA 1702)),(23,(.i 1)),(24,(.i 0)),(119,(.slice (some (12,0)) 2 (.fix 2))),(120,(.i 2)),(121,(.i 0))],3012,jmY⟩
def uO190:Am.Obj := .cells ([.slice (some (3013,0)) 6 (.grow 1)]++rpL 2 [.slice none 0 (.fix 0)]) false
def jnN:Am.Obj := .cells [.i 0,.i 0,.i 0,.i 0,.i 1,.i 0] false
def joC:List (Nat × Am.Obj):=[(5,uO10),(6,uO11),(7,uO12),(8,uO13),(9,uO14),(10,uO15),(11,uO16),(12,uO17),(13,uO23),(14,uO24),(15,uO39),(175,uO25),(177,uO26),(316,uO27),(317,uO28),(1594,uO23),(1595,uO58),(1612,uO190),(1613,uO60),(1614,jku),(1617,jl7),(1618,jcc),(1619,jl6),(1620,jcy),(1621,jl5),(1642,uO66),(1644,uO11),(1646,uO67),(1647,jkt),(1648,jl4),(1649,jks),(1650,jkr),(1651,uO72),(1652,uO73),(1653,uO74),(1654,jl3),(1655,jba),(1656,uO76),(1657,uO77),(1658,jba),(1659,jl2),(1660,uO71),(1661,uO80),(1662,uO71),(1663,uO81),(1664,uO71),(1665,uO82),(1666,uO83),(1667,uO84),(1668,uO63),(1669,uO85),(1670,uO63),(1671,uO86),(1685,uO87),(1700,uO88),(1701,uO89),(1702,jox),(1722,uO14),(1724,uO91),(2924,jcx),(2962,jcw),(2983,uO11),(3002,jak),(3011,jow),(3013,jnN)]
def jiu:St:=⟨[(3,(ptA 1594)),(6,(ptA 1595)),(9,(ptA 1612)),(10,(.clo 22 [(ptA 1612)])),(11,(ptA 1614)),(18,(ptA 1702)),(119,(.slice (some (12,0)) 2 (.fix 2))),(120,(.i 2)),(121,(.i 0))],3014,joC⟩
def jhe:St:=⟨[(3,(ptA 1594)),(6,(ptA 1595)),(9,(ptA 1612)),(10,(.clo 22 [(ptA 1612)])),(11,(ptA 1614)),(18,(ptA 1702)),(119,(.slice (some (12,0)) 2 (.fix 2))),(120,(.i 2)),(121,(.i 1))],3014,joC⟩
def uO198:Am.Obj := .cells ([.slice (some (3021,0)) 8 (.grow 1)]++rpL 2 [.slice none 0 (.fix 0)]) false
def uO199:Am.Obj := .cells [ptA 1614,.iface 138 (ptA 1653),ptA 1647,ptA 1666,.map (some 1700),.slice (some (1701,0)) 2 (.fix 2),.slice (some (3019,0)) 6 (.grow 7),.bool false,.bool false] false
def uO200:Am.Obj := .cells ([.i 1,.int .u64 0,.i 0,.i 0,.i 1,.i 0,.slice none 0 (.fix 0),.i 2,.int .u64 3,.i 1,.i 2,.i 0,.i 0,.slice none 0 (.fix 0),.i 3,.int .u64 3,.i 1,.i 0,.i 2,.i 113,.slice (some (2983,0)) 2 (.grow 1),.i 3,.int .u64 3,.i 1,.i 0,.i 3,.i 0,.slice (some (3002,0)) 1 (.grow 1)]++rpL 2 [.i 4,.int .u64 3,.i 0,.i 0,.i 1,.i 0,.slice none 0 (.fix 0)]) false
def jan:Am.Obj := .cells [.i 0,.i 0,.i 0,.i 0,.i 1,.i 0,.i 1,.i 0] false
def joB:List (Nat × Am.Obj):=[(5,uO10),(6,uO11),(7,uO12),(8,uO13),(9,uO14),(10,uO15),(11,uO16),(12,uO17),(13,uO23),(14,uO24),(15,uO39),(175,uO25),(177,uO26),(316,uO27),(317,uO28),(1594,uO23),(1595,uO58),(1612,uO198),(1613,uO60),(1614,jku),(1617,jl7),(1618,jcc),(1619,jl6),(1620,jcy),(1621,jl5),(1642,uO66),(1644,uO11),(1646,uO67),(1647,jkt),(1648,jl4),(1649,jks),(1650,jkr),(1651,uO72),(1652,uO73),(1653,uO74),(1654,jl3),(1655,jba),(1656,uO76),(1657,uO77),(1658,jba),(1659,jl2),(1660,uO71),(1661,uO80),(1662,uO71),(1663,uO81),(1664,uO71),(1665,uO82),(1666,uO83),(1667,uO84),(1668,uO63),(1669,uO85),(1670,uO63),(1671,uO86),(1685,uO87),(1700,uO88),(1701,uO89),(1702,uO199),(1722,uO14),(1724,uO91),(2924,jcx),(2962,jcw),(2983,uO11),(3002,jak),(3019,uO200),(3021,jan)]
def jhd:St:=⟨[(3,(ptA 1594)),(6,(ptA 1595)),(9,(ptA 1612)),(10,(.clo 22 [(ptA 1612)])),(11,(ptA 1614)),(18,(ptA 1702)),(119,(.slice (some (12,0)) 2 (.fix 2))),(120,(.i 2)),(121,(.i 2))],3022,joB⟩
def jit:St:=⟨[(3,(ptA 1594)),(6,(ptA 1595)),(9,(ptA 1612)),(10,(.clo 22 [(ptA 1612)])),(11,(ptA 1614)),(18,(ptA 1702)),(119,(.slice (some (12,0)) 2 (.fix 2))),(120,(.i 2)),(121,(.i 2)),(122,(.bool false))],3022,joB⟩
def jov:Am.Obj := .cells [.slice (some (3021,0)) 8 (.grow 1),.slice (some (3023,0)) 6 (.grow 7),.slice (some (3173,0)) 7 (.grow 1)] false
def jnM:Am.Obj := .cells ([.i 1,.int .u64 0,.i 0,.i 0,.i 1,.i 0,.slice none 0 (.fix 0),.i 2,.int .u64 3,.i 1,.i 2,.i 0,.i 0,.slice none 0 (.fix 0),.i 3,.int .u64 3,.i 1,.i 0,.i 2,.i 113,.slice (some (3025,0)) 2 (.grow 1),.i 3,.int .u64 3,.i 1,.i 0,.i 3,.i 0,.slice (some (3027,0)) 1 (.grow 1)]++rpL 2 [.i 4,.int .u64 3,.i 0,.i 0,.i 1,.i 0,.slice none 0 (.fix 0)]) false
def jao:Am.Obj := .cells [.str [110,111,119,32,51],.str [102,100,32,48,32,119,105,114,101,32,48,32,101,110,100,32,48],.str [102,100,32,49,32,119,105,114,101,32,49,32,101,110,100,32,48],.str [102,100,32,50,32,119,105,114,101,32,49,32,101,110,100,32,49],.str [119,105,114,101,32,48,32,105,110,32,47,56,32,111,117,116,32,55,56,47,56],.str [119,105,114,101,32,49,32,105,110,32,47,56,32,105,110,32,47,56],.str [110,111,116,105,99,101,32,49,32,48]] false
def uM211:List (Nat × Am.Obj):=[(5,uO10),(6,uO11),(7,uO12),(8,uO13),(9,uO14),(10,uO15),(11,uO16),(12,uO17),(13,uO23),(14,uO24),(15,uO39),(175,uO25),(177,uO26),(316,uO27),(317,uO28),(1595,jov),(3021,jan),(3023,jnM),(3025,uO11),(3027,jak),(3173,jao)]
def jn2:St:=⟨[(6,(ptA 1595)),(7,(.i 0))],3174,uM211⟩
def uM214:List (Nat × Am.Obj):=[(5,uO10),(6,uO11),(7,uO12),(8,uO13),(9,uO14),(10,uO15),(11,uO16),(12,uO17),(13,uO23),(14,uO24),(15,uO39),(175,uO25),(177,uO26),(316,uO27),(317,uO28),(3021,jan),(3023,jnM),(3025,uO11),(3027,jak),(3173,jao)]
def jmK:St:=⟨[(30,(.tup [(.agg [(.slice (some (3021,0)) 8 (.grow 1)),(.slice (some (3023,0)) 6 (.grow 7)),(.slice (some (3173,0)) 7 (.grow 1))]),(.i 0)])),(29,(.i 1)),(28,(.i 4)),(27,(.i 3)),(26,(.agg [(.slice (some (5,0)) 1 (.fix 1)),(.slice (some (8,0)) 1 (.fix 1)),(.slice (some (11,0)) 1 (.fix 1)),(.slice (some (12,0)) 2 (.fix 2)),(.i 9)])),(1,(.i 1)),(2,(ptA 13)),(4,(ptA 14)),(6,(ptA 15)),(7,(ptA 317)),(9,(.i 3)),(22,(.i 3))],3174,uM214⟩
def joA:List (Nat × Am.Obj):=[(5,uO10),(6,uO11),(7,uO12),(8,uO13),(9,uO14),(10,uO15),(11,uO16),(12,uO17),(13,uO23),(14,uO24),(15,uO39),(175,uO25),(177,uO26),(316,uO27),(317,uO28),(3021,jan),(3023,jnM),(3025,uO11),(3027,jak),(3173,jao),(3174,jov)]
def uS217:St:=⟨[(11,(.i 0)),(10,(ptA 3174)),(32,(.i 0)),(31,(.agg [(.slice (some (3021,0)) 8 (.grow 1)),(.slice (some (3023,0)) 6 (.grow 7)),(.slice (some (3173,0)) 7 (.grow 1))])),(25,(.tup [(.agg [(.slice (some (3021,0)) 8 (.grow 1)),(.slice (some (3023,0)) 6 (.grow 7)),(.slice (some (3173,0)) 7 (.grow 1))]),(.i 0)])),(30,(.tup [(.agg [(.slice (some (3021,0)) 8 (.grow 1)),(.slice (some (3023,0)) 6 (.grow 7)),(.slice (some (3173,0)) 7 (.grow 1))]),(.i 0)])),(29,(.i 1)),(28,(.i 4)),(27,(.i 3)),(26,(.agg [(.slice (some (5,0)) 1 (.fix 1)),(.slice (some (8,0)) 1 (.fix 1)),(.slice (some (11,0)) 1 (.fix 1)),(.slice (some (12,0)) 2 (.fix 2)),(.i 9)])),(1,(.i 1)),(2,(ptA 13)),(4,(ptA 14)),(6,(ptA 15)),(7,(ptA 317)),(9,(.i 3)),(22,(.i 3))],3175,joA⟩
def jmJ:St:=⟨[(1,(.i 1)),(2,(ptA 13)),(4,(ptA 14)),(6,(ptA 15)),(7,(ptA 317)),(9,(.i 3)),(10,(ptA 3174)),(22,(.i 3))],3175,joA⟩
def jis:St:=⟨[(1,(.i 1)),(2,(ptA 13)),(4,(ptA 14)),(6,(ptA 15)),(7,(ptA 317)),(9,(.i 3)),(22,(.i 3)),(59,(.bool false))],3178,uM40⟩
def jhc:St:=⟨[(1,(.i 1)),(2,(ptA 13)),(4,(ptA 14)),(6,(ptA 15)),(7,(ptA 317)),(22,(.i 4))],3178,uM40⟩
def jir:St:=⟨[(1,(.i 1)),(2,(ptA 13)),(4,(ptA 14)),(6,(ptA 15)),(7,(ptA 317)),(22,(.i 4)),(23,(.bool false))],3178,uM40⟩
def uM227:List (Nat × Am.Obj):=[(5,uO10),(6,uO11),(7,uO12),(8,uO13),(9,uO14),(10,uO15),(11,uO16),(12,uO17),(14,uO39)]
def jn1:St:=⟨[(4,(ptA 14)),(5,(.i 0))],3178,uM227⟩
def jmI:St:=⟨[(42,(.tup [(.agg [(.i (-1)),(.i (-1)),(.i 0),(.i 0)]),(.i 0)])),(41,(.agg [(.slice (some (5,0)) 1 (.fix 1)),(.slice (some (8,0)) 1 (.fix 1)),(.slice (some (11,0)) 1 (.fix 1)),(.slice (some (12,0)) 2 (.fix 2)),(.i 9)]))],3178,uM18⟩
def jo9:List (Nat × Am.Obj):=[(3178,uO39)]
def uS232:St:=⟨[(2,(.i 0)),(1,(ptA 3178)),(44,(.i 0)),(43,(.agg [(.i (-1)),(.i (-1)),(.i 0),(.i 0)])),(40,(.tup [(.agg [(.i (-1)),(.i (-1)),(.i 0),(.i 0)]),(.i 0)])),(42,(.tup [(.agg [(.i (-1)),(.i (-1)),(.i 0),(.i 0)]),(.i 0)])),(41,(.agg [(.slice (some (5,0)) 1 (.fix 1)),(.slice (some (8,0)) 1 (.fix 1)),(.slice (some (11,0)) 1 (.fix 1)),(.slice (some (12,0)) 2 (.fix 2)),(.i 9)]))],3179,jo9⟩
def jmH:St:=⟨[(1,(ptA 3178)),(2,(.i 0))],3179,jo9⟩
def jaI:Am.Obj := .cells ([.ptr none]++rpL 24 [.i 0,.i 0,.i 0,.i 0]++[.i 0]) false
def jlA:List (Nat × Am.Obj):=[(3401,jaI)]
def jkh:St:=⟨[(3,(.bool true)),(18,(.bool true)),(33,(.bool true)),(34,(.ptr none)),(35,(ptA 3401)),(39,(.i 1))],3402,jlA⟩
def uS240:St:=⟨[(234,(.bool true)),(3,(.bool true)),(18,(.bool true)),(33,(.bool true)),(34,(.ptr none)),(35,(ptA 3401)),(39,(.i 1))],3402,jlA⟩
def jlo:St:=⟨[],3402,jlA⟩
def jaO:Am.Obj := .cells ([.i 1,.int .u64 0,.i 0,.i 0,.i 1,.i 0,.slice none 0 (.fix 0),.i 2,.int .u64 3,.i 1,.i 2,.i 0,.i 0,.slice none 0 (.fix 0),.i 3,.int .u64 3,.i 1,.i 0,.i 2,.i 113,.slice (some (3742,0)) 2 (.grow 1),.i 3,.int .u64 3,.i 1,.i 0,.i 3,.i 0,.slice (some (3744,0)) 1 (.grow 1)]++rpL 2 [.i 4,.int .u64 3,.i 0,.i 0,.i 1,.i 0,.slice none 0 (.fix 0)]) false
def jaN:Am.Obj := .cells [.slice (some (3738,0)) 8 (.grow 1),.slice (some (3740,0)) 6 (.grow 7),.slice (some (3890,0)) 7 (.grow 1)] false
def uM246:List (Nat × Am.Obj):=[(3401,jaI),(3738,jan),(3740,jaO),(3742,uO11),(3744,jak),(3890,jao),(3891,jaN)]
def jkg:St:=⟨[(1,(ptA 3891)),(2,(.i 0))],3892,uM246⟩
def jaY:Am.Obj := .cells [.i 1,.i 0,.i 0,.slice (some (3894,0)) 2 (.fix 2)] false
def jaX:Am.Obj := .cells [.int .u64 3,.bool false,.slice none 0 (.fix 0),.slice (some (3895,0)) 1 (.fix 1)] false
def jaW:Am.Obj := .cells [.i 2,.i (-1),.i 0,.int .u64 0,.slice none 0 (.fix 0),.i 3,.i 0,.i 0,.int .u64 0,.slice (some (3897,0)) 1 (.fix 1)] false
def jaV:Am.Obj := .cells [.i 1,.i 1,.i 0,.i 2,.i 0,.bool false,.int .u64 0,.slice (some (3898,0)) 2 (.fix 2)] false
def jnU:List (Nat × Am.Obj):=[(3401,jaI),(3738,jan),(3740,jaO),(3742,uO11),(3744,jak),(3890,jao),(3891,jaN),(3893,uO10),(3894,uO11),(3895,jaY),(3896,jaX),(3897,uO14),(3898,jaW),(3899,jaV),(3900,uO17)]
def uS255:St:=⟨[(11,(.agg [(.slice (some (3893,0)) 1 (.fix 1)),(.slice (some (3896,0)) 1 (.fix 1)),(.slice (some (3899,0)) 1 (.fix 1)),(.slice (some (3900,0)) 2 (.fix 2)),(.i 9)])),(1,(ptA 3891)),(2,(.i 0))],3901,jnU⟩
def jln:St:=⟨[(0,(.agg [(.slice (some (3893,0)) 1 (.fix 1)),(.slice (some (3896,0)) 1 (.fix 1)),(.slice (some (3899,0)) 1 (.fix 1)),(.slice (some (3900,0)) 2 (.fix 2)),(.i 9)])),(1,(.i 1))],3901,jnU⟩
def ja2:Am.Obj := .cells [.slice (some (3893,0)) 1 (.fix 1),.slice (some (3896,0)) 1 (.fix 1),.slice (some (3899,0)) 1 (.fix 1),.slice (some (3900,0)) 2 (.fix 2),.i 9] false
def jbd:Am.Obj := .cells ([.i 1,.int .u64 0,.i 0,.i 0,.i 1,.i 0,.slice none 0 (.fix 0),.i 2,.int .u64 3,.i 1,.i 2,.i 0,.i 0,.slice none 0 (.fix 0),.i 3,.int .u64 3,.i 1,.i 0,.i 2,.i 113,.slice (some (4235,0)) 2 (.grow 1),.i 3,.int .u64 3,.i 1,.i 0,.i 3,.i 0,.slice (some (4237,0)) 1 (.grow 1)]++rpL 2 [.i 4,.int .u64 3,.i 0,.i 0,.i 1,.i 0,.slice none 0 (.fix 0)]) false
def jbc:Am.Obj := .cells [.slice (some (4231,0)) 8 (.grow 1),.slice (some (4233,0)) 6 (.grow 7),.slice (some (4383,0)) 7 (.grow 1)] false
def jl9:List (Nat × Am.Obj):=[(3401,jaI),(3738,jan),(3740,jaO),(3742,uO11),(3744,jak),(3890,jao),(3891,jaN),(3893,uO10),(3894,uO11),(3895,jaY),(3896,jaX),(3897,uO14),(3898,jaW),(3899,jaV),(3900,uO17),(3901,ja2),(3902,uO24),(3903,uO24),(4231,jan),(4233,jbd),(4235,uO11),(4237,jak),(4383,jao),(4384,jbc)]
def jhb:St:=⟨[(1,(.i 1)),(2,(ptA 3901)),(4,(ptA 3902)),(6,(ptA 3903)),(7,(ptA 4384)),(22,(.i 0))],4385,jl9⟩
def jiq:St:=⟨[(1,(.i 1)),(2,(ptA 3901)),(4,(ptA 3902)),(6,(ptA 3903)),(7,(ptA 4384)),(22,(.i 0)),(23,(.bool true))],4385,jl9⟩
def jkf:St:=⟨[(1,(.i 1)),(2,(ptA 3901)),(4,(ptA 3902)),(6,(ptA 3903)),(7,(ptA 4384)),(9,(.i 0)),(22,(.i 0))],4385,jl9⟩
def uS274:St:=⟨[(29,(.i 1)),(28,(.i 1)),(27,(.i 0)),(26,(.agg [(.slice (some (3893,0)) 1 (.fix 1)),(.slice (some (3896,0)) 1 (.fix 1)),(.slice (some (3899,0)) 1 (.fix 1)),(.slice (some (3900,0)) 2 (.fix 2)),(.i 9)])),(1,(.i 1)),(2,(ptA 3901)),(4,(ptA 3902)),(6,(ptA 3903)),(7,(ptA 4384)),(9,(.i 0)),(22,(.i 0))],4385,jl9⟩
def jlm:St:=⟨[(0,(.agg [(.slice (some (3893,0)) 1 (.fix 1)),(.slice (some (3896,0)) 1 (.fix 1)),(.slice (some (3899,0)) 1 (.fix 1)),(.slice (some (3900,0)) 2 (.fix 2)),(.i 9)])),(1,(.i 1)),(2,(.i 1))],4385,jl9⟩
def jiy:Am.Obj := .cells ([.slice (some (4532,0)) 4 (.grow 1)]++rpL 2 [.slice none 0 (.fix 0)]) false
def jnL:Am.Obj := .cells ([.bool true,.i 0]++rpL 2 [.i 0,.bool true,.i 1]++[.i 1]++rpL 46 [.bool false,.i 0,.i 0,.bool false,.i 0,.i 0]++[.bool false,.i 0,.i 0,.slice (some (4472,0)) 2 (.grow 1),ptA 4404,.int .u64 0,.bool true,.i 1,.i 0]) false
def jnK:Am.Obj := .cells [.i 1,.i 0,ptA 4410,.bool true,.bool false,.int .u64 0,.int .u64 0,.i 2,.i 0,ptA 4412,.bool true,.bool false,.int .u64 0,.int .u64 0,.bool false,.i 0,.slice none 0 (.fix 0)] false
def jnJ:Am.Obj := .cells [.slice (some (4409,0)) 8 (.fix 8),.i 0,.i 0,.int .u64 0,.int .u64 0,.bool true] false
def jmV:Am.Obj := .cells [.slice (some (4411,0)) 8 (.fix 8),.i 0,.i 0,.int .u64 0,.int .u64 0,.bool true] false
def jfI:Am.Obj := .cells [.i 1,.i 0,.i 0,.slice (some (4435,0)) 2 (.grow 1)] false
def jfH:Am.Obj := .cells [.int .u64 3,.bool false,.slice none 0 (.fix 0),.slice (some (4433,0)) 1 (.grow 4)] false
def jnI:Am.Obj := .cells [.slice (some (4437,0)) 1 (.grow 4),.slice none 0 (.fix 0)] false
def jmU:Am.Obj := .cells ([ptA 4405,.i 1,.i 2]++rpL 19 [.i 0,.i 0,.i 0,.i 0,.i 0]++[.i 2]) false
def jfG:Am.Obj := .cells [.iface 189 (ptA 4439),.i 1] false
def jfF:Am.Obj := .cells [.slice (some (4441,0)) 8 (.fix 8),.map (some 4442)] false
def jcb:Am.Obj := .map [((.i 1),(.agg [(.i 1),(.i 0),(.i 2),(.i 0)]),0)] 1
def jhg:Am.Obj := .map [((.i 1),(.agg [(.i 0),(.i 2)]),0)] 1
def jmT:Am.Obj := .cells ([.map (some 4445),.slice (some (4531,0)) 1 (.grow 1)]++rpL 63 [.slice none 0 (.fix 0),.slice none 0 (.fix 0)]++[.slice none 0 (.fix 0)]) false
def jfE:Am.Obj := .cells [.slice none 0 (.fix 0),.map (some 4447),.bool true] false
def jfD:Am.Obj := .cells [ptA 4448,.slice none 0 (.fix 0),.map (some 4449),.int .u64 0] false
def jfC:Am.Obj := .cells [ptA 4450,.map (some 4451),.int .u64 18446744073709551615] false
def jfB:Am.Obj := .cells [ptA 4405,.iface 138 (ptA 4440),.map (some 4444),ptA 4446,ptA 4452,ptA 4443] false
def jfA:Am.Obj := .cells [.i 1,.i 1,ptA 4456,.bool true,.bool false,.int .u64 0,.int .u64 0,.i 1,.i 2,ptA 4458,.bool true,.bool false,.int .u64 0,.int .u64 0,.bool false,.i 0,.slice none 0 (.fix 0)] false
def jf9:Am.Obj := .cells [.slice (some (4455,0)) 8 (.fix 8),.i 0,.i 0,.int .u64 0,.int .u64 0,.bool true] false
def jf8:Am.Obj := .cells [.slice (some (4457,0)) 8 (.fix 8),.i 0,.i 0,.int .u64 0,.int .u64 0,.bool true] false
def jf7:Am.Obj := .cells [ptA 4408,ptA 4454] false
def jf6:Am.Obj := .map [((.i 1),(.slice (some (4511,0)) 2 (.grow 5)),0)] 1
def uO301:Am.Obj := .cells [ptA 4405,.iface 138 (ptA 4440),ptA 4438,ptA 4453,.map (some 4487),.slice (some (4488,0)) 2 (.fix 2),.slice none 0 (.fix 0),.bool false,.bool false] false
def jf5:Am.Obj := .cells [.i 2,.i (-1),.i 0,.int .u64 0,.slice none 0 (.fix 0),.i 3,.i 0,.i 0,.int .u64 0,.slice (some (4509,0)) 1 (.grow 1)] false
def jhi:List (Nat × Am.Obj):=[(3401,jaI),(3738,jan),(3740,jaO),(3742,uO11),(3744,jak),(3890,jao),(3891,jaN),(3893,uO10),(3894,uO11),(3895,jaY),(3896,jaX),(3897,uO14),(3898,jaW),(3899,jaV),(3900,uO17),(3901,ja2),(3902,uO24),(3903,uO24),(4231,jan),(4233,jbd),(4235,uO11),(4237,jak),(4383,jao),(4384,jbc),(4385,ja2),(4386,uO58),(4403,jiy),(4404,uO60),(4405,jnL),(4408,jnK),(4409,uO63),(4410,jnJ),(4411,uO63),(4412,jmV),(4433,jfI),(4435,uO11),(4437,jfH),(4438,jnI),(4439,jmU),(4440,jfG),(4441,uO75),(4442,uO71),(4443,jfF),(4444,jcb),(4445,jhg),(4446,jmT),(4447,uO71),(4448,jfE),(4449,uO71),(4450,jfD),(4451,uO71),(4452,jfC),(4453,jfB),(4454,jfA),(4455,uO63),(4456,jf9),(4457,uO63),(4458,jf8),(4472,jf7),(4487,jf6),(4488,uO89),(4489,uO301),(4509,uO14),(4511,jf5),(4531,uO92),(4532,uO24)]
def jha:St:=⟨[(3,(ptA 4385)),(6,(ptA 4386)),(9,(ptA 4403)),(10,(.clo 22 [(ptA 4403)])),(11,(ptA 4405)),(18,(ptA 4489)),(119,(.slice (some (3900,0)) 2 (.fix 2))),(120,(.i 2)),(121,(.i 0))],4533,jhi⟩
def jip:St:=⟨[(3,(ptA 4385)),(6,(ptA 4386)),(9,(ptA 4403)),(10,(.clo 22 [(ptA 4403)])),(11,(ptA 4405)),(18,(ptA 4489)),(119,(.slice (some (3900,0)) 2 (.fix 2))),(120,(.i 2)),(121,(.i 0)),(122,(.bool true))],4533,jhi⟩
def jke:St:=⟨[(3,(ptA 4385)),(6,(ptA 4386)),(9,(ptA 4403)),(10,(.clo 22 [(ptA 4403)])),(11,(ptA 4405)),(18,(ptA 4489)),(22,(.i 0)),(119,(.slice (some (3900,0)) 2 (.fix 2))),(120,(.i 2)),(121,(.i 0))],4533,jhi⟩
def uS315:St:=⟨[(129,(.i 9)),(128,(.ptr (some (4385,4)))),(127,(.i 0)),(126,(ptA 4489)),(3,(ptA 4385)),(6,(ptA 4386)),(9,(ptA 4403)),(10,(.clo 22 [(ptA 4403)])),(11,(ptA 4405)),(18,(ptA 4489)),(22,(.i 0)),(119,(.slice (some (3900,0)) 2 (.fix 2))),(120,(.i 2)),(121,(.i 0))],4533,jhi⟩
def je3:St:=⟨[(0,(ptA 4489)),(1,(.i 0)),(2,(.i 9))],4533,jhi⟩
def jkd:St:=⟨[(0,(ptA 4489)),(1,(.i 0)),(2,(.i 9)),(13,(.bool false))],4533,jhi⟩
def uS322:St:=⟨[(28,(.i 9)),(27,(.i 0)),(26,(ptA 4489)),(0,(ptA 4489)),(1,(.i 0)),(2,(.i 9)),(13,(.bool false))],4533,jhi⟩
def jd5:St:=⟨[(0,(ptA 4489)),(1,(.i 0)),(2,(.i 9)),(8,(.i 1))],4533,jhi⟩
def jnH:Am.Obj := .cells [ptA 4405,.iface 138 (ptA 4440),ptA 4438,ptA 4453,.map (some 4487),.slice (some (4488,0)) 2 (.fix 2),.slice (some (4535,0)) 1 (.grow 7),.bool false,.bool false] false
def jnT:List (Nat × Am.Obj):=[(3401,jaI),(3738,jan),(3740,jaO),(3742,uO11),(3744,jak),(3890,jao),(3891,jaN),(3893,uO10),(3894,uO11),(3895,jaY),(3896,jaX),(3897,uO14),(3898,jaW),(3899,jaV),(3900,uO17),(3901,ja2),(3902,uO24),(3903,uO24),(4231,jan),(4233,jbd),(4235,uO11),(4237,jak),(4383,jao),(4384,jbc),(4385,ja2),(4386,uO58),(4403,jiy),(4404,uO60),(4405,jnL),(4408,jnK),(4409,uO63),(4410,jnJ),(4411,uO63),(4412,jmV),(4433,jfI),(4435,uO11),(4437,jfH),(4438,jnI),(4439,jmU),(4440,jfG),(4441,uO75),(4442,uO71),(4443,jfF),(4444,jcb),(4445,jhg),(4446,jmT),(4447,uO71),(4448,jfE),(4449,uO71),(4450,jfD),(4451,uO71),(4452,jfC),(4453,jfB),(4454,jfA),(4455,uO63),(4456,jf9),(4457,uO63),(4458,jf8),(4472,jf7),(4487,jf6),(4488,uO89),(4489,jnH),(4509,uO14),(4511,jf5),(4531,uO92),(4532,uO24),(4535,jfJ)]
def jkc:St:=⟨[(0,(ptA 4489)),(1,(.i 0)),(2,(.i 9)),(8,(.i 1))],4536,jnT⟩
def uS336:St:=⟨[(57,(.i 0)),(56,(ptA 4489)),(0,(ptA 4489)),(1,(.i 0)),(2,(.i 9)),(8,(.i 1))],4536,jnT⟩
def jll:St:=⟨[(0,(ptA 4489)),(1,(.i 0))],4536,jnT⟩
def jou:Am.Obj := .cells [ptA 4489] false
def uM341:List (Nat × Am.Obj):=[(3401,jaI),(3738,jan),(3740,jaO),(3742,uO11),(3744,jak),(3890,jao),(3891,jaN),(3893,uO10),(3894,uO11),(3895,jaY),(3896,jaX),(3897,uO14),(3898,jaW),(3899,jaV),(3900,uO17),(3901,ja2),(3902,uO24),(3903,uO24),(4231,jan),(4233,jbd),(4235,uO11),(4237,jak),(4383,jao),(4384,jbc),(4385,ja2),(4386,uO58),(4403,jiy),(4404,uO60),(4405,jnL),(4408,jnK),(4409,uO63),(4410,jnJ),(4411,uO63),(4412,jmV),(4433,jfI),(4435,uO11),(4437,jfH),(4438,jnI),(4439,jmU),(4440,jfG),(4441,uO75),(4442,uO71),(4443,jfF),(4444,jcb),(4445,jhg),(4446,jmT),(4447,uO71),(4448,jfE),(4449,uO71),(4450,jfD),(4451,uO71),(4452,jfC),(4453,jfB),(4454,jfA),(4455,uO63),(4456,jf9),(4457,uO63),(4458,jf8),(4472,jf7),(4487,jf6),(4488,uO89),(4489,jnH),(4509,uO14),(4511,jf5),(4531,uO92),(4532,uO24),(4535,jfJ),(4536,jou),(4537,jkv)]
def jn0:St:=⟨[(1,(.i 0)),(2,(ptA 4536)),(4,(ptA 4537)),(8,(.int .u64 0)),(9,(.bool true))],4545,uM341⟩
def jkq:Am.Obj := .cells ([.bool true,.i 0]++rpL 2 [.i 0,.bool true,.i 1]++[.i 1]++rpL 46 [.bool false,.i 0,.i 0,.bool false,.i 0,.i 0]++[.bool false,.i 0,.i 0,.slice (some (4472,0)) 2 (.grow 1),ptA 4404,.int .u64 3,.bool true,.i 1,.i 0]) false
def uO345:Am.Obj := .cells [.i 1,.i 0,ptA 4410,.bool true,.bool false,.int .u64 1,.int .u64 0,.i 2,.i 0,ptA 4412,.bool true,.bool false,.int .u64 0,.int .u64 0,.bool false,.i 0,.slice none 0 (.fix 0)] false
def uO346:Am.Obj := .cells [.slice (some (4409,0)) 8 (.fix 8),.i 0,.i 2,.int .u64 2,.int .u64 0,.bool true] false
def jkp:Am.Obj := .cells [.slice (some (4437,4)) 0 (.grow 4),.slice none 0 (.fix 0)] false
def uM348:List (Nat × Am.Obj):=[(3401,jaI),(3738,jan),(3740,jaO),(3742,uO11),(3744,jak),(3890,jao),(3891,jaN),(3893,uO10),(3894,uO11),(3895,jaY),(3896,jaX),(3897,uO14),(3898,jaW),(3899,jaV),(3900,uO17),(3901,ja2),(3902,uO24),(3903,uO24),(4231,jan),(4233,jbd),(4235,uO11),(4237,jak),(4383,jao),(4384,jbc),(4385,ja2),(4386,uO58),(4403,jiy),(4404,uO60),(4405,jkq),(4408,uO345),(4409,jcc),(4410,uO346),(4411,uO63),(4412,jmV),(4433,jfI),(4435,uO11),(4437,jfH),(4438,jkp),(4439,jmU),(4440,jfG),(4441,uO75),(4442,uO71),(4443,jfF),(4444,jcb),(4445,jhg),(4446,jmT),(4447,uO71),(4448,jfE),(4449,uO71),(4450,jfD),(4451,uO71),(4452,jfC),(4453,jfB),(4454,jfA),(4455,uO63),(4456,jf9),(4457,uO63),(4458,jf8),(4472,jf7),(4487,jf6),(4488,uO89),(4489,jnH),(4509,uO14),(4511,jf5),(4531,uO92),(4532,uO24),(4535,jfJ),(4536,jou),(4537,jkv),(5771,jnP)]
def jnz:St:=⟨[(1,(.i 0)),(2,(ptA 4536)),(4,(ptA 4537)),(6,(.i 0)),(10,(.slice (some (5771,0)) 1 (.grow 2))),(11,(.slice none 0 (.fix 0))),(12,(.i 1))],5772,uM348⟩
def jl1:Am.Obj := .cells [.i 1,.i 0,ptA 4410,.bool true,.bool false,.int .u64 1,.int .u64 0,.i 2,.i 0,ptA 4412,.bool true,.bool false,.int .u64 1,.int .u64 1,.bool false,.i 0,.slice none 0 (.fix 0)] false
def jl0:Am.Obj := .cells [.slice (some (4409,0)) 8 (.fix 8),.i 2,.i 0,.int .u64 2,.int .u64 2,.bool true] false
def jlz:Am.Obj := .cells [.slice (some (4411,0)) 8 (.fix 8),.i 0,.i 1,.int .u64 1,.int .u64 0,.bool true] false
def jly:Am.Obj := .cells ([ptA 4405,.i 1]++rpL 24 [.i 0,.i 0,.i 0,.i 0]++[.i 2]) false
def jlx:Am.Obj := .cells ([.slice (some (5791,0)) 0 (.grow 3)]++rpL 7 [.slice none 0 (.fix 0)]) false
def jlw:Am.Obj := .cells ([.map (some 4445),.slice (some (5829,0)) 0 (.grow 1)]++rpL 63 [.slice none 0 (.fix 0),.slice none 0 (.fix 0)]++[.slice none 0 (.fix 0)]) false
def jot:Am.Obj := .cells [ptA 4405,.iface 138 (ptA 4440),ptA 4438,ptA 4453,.map (some 4487),.slice (some (4488,0)) 2 (.fix 2),.slice (some (5872,0)) 4 (.grow 7),.bool false,.bool false] false
def jos:Am.Obj := .cells [.i 1,.int .u64 0,.i 0,.i 0,.i 1,.i 0,.slice none 0 (.fix 0),.i 2,.int .u64 3,.i 1,.i 2,.i 0,.i 0,.slice none 0 (.fix 0),.i 3,.int .u64 3,.i 1,.i 0,.i 2,.i 113,.slice (some (5850,0)) 2 (.grow 1),.i 3,.int .u64 3,.i 1,.i 0,.i 3,.i 0,.slice (some (5869,0)) 1 (.grow 1)] false
def uM359:List (Nat × Am.Obj):=[(3401,jaI),(3738,jan),(3740,jaO),(3742,uO11),(3744,jak),(3890,jao),(3891,jaN),(3893,uO10),(3894,uO11),(3895,jaY),(3896,jaX),(3897,uO14),(3898,jaW),(3899,jaV),(3900,uO17),(3901,ja2),(3902,uO24),(3903,uO24),(4231,jan),(4233,jbd),(4235,uO11),(4237,jak),(4383,jao),(4384,jbc),(4385,ja2),(4386,uO58),(4403,jiy),(4404,uO60),(4405,jkq),(4408,jl1),(4409,jcc),(4410,jl0),(4411,jcy),(4412,jlz),(4433,jfI),(4435,uO11),(4437,jfH),(4438,jkp),(4439,jly),(4440,jfG),(4441,jlx),(4442,jba),(4443,jfF),(4444,jcb),(4445,jba),(4446,jlw),(4447,uO71),(4448,jfE),(4449,uO71),(4450,jfD),(4451,uO71),(4452,jfC),(4453,jfB),(4454,jfA),(4455,uO63),(4456,jf9),(4457,uO63),(4458,jf8),(4472,jf7),(4487,jf6),(4488,uO89),(4489,jot),(4509,uO14),(4511,jf5),(4532,uO24),(4537,jnO),(5791,jcx),(5829,jcw),(5850,uO11),(5869,jak),(5872,jos)]
def jny:St:=⟨[(4,(ptA 4537)),(5,(.i (-1))),(6,(.i 0))],5873,uM359⟩
def jfL:List (Nat × Am.Obj):=[(3401,jaI),(3738,jan),(3740,jaO),(3742,uO11),(3744,jak),(3890,jao),(3891,jaN),(3893,uO10),(3894,uO11),(3895,jaY),(3896,jaX),(3897,uO14),(3898,jaW),(3899,jaV),(3900,uO17),(3901,ja2),(3902,uO24),(3903,uO24),(4231,jan),(4233,jbd),(4235,uO11),(4237,jak),(4383,jao),(4384,jbc),(4385,ja2),(4386,uO58),(4403,jiy),(4404,uO60),(4405,jkq),(4408,jl1),(4409,jcc),(4410,jl0),(4411,jcy),(4412,jlz),(4433,jfI),(4435,uO11),(4437,jfH),(4438,jkp),(4439,jly),(4440,jfG),(4441,jlx),(4442,jba),(4443,jfF),(4444,jcb),(4445,jba),(4446,jlw),(4447,uO71),(4448,jfE),(4449,uO71),(4450,jfD),(4451,uO71),(4452,jfC),(4453,jfB),(4454,jfA),(4455,uO63),(4456,jf9),(4457,uO63),(4458,jf8),(4472,jf7),(4487,jf6),(4488,uO89),(4489,jot),(4509,uO14),(4511,jf5),(4532,uO24),(5791,jcx),(5829,jcw),(5850,uO11),(5869,jak),(5872,jos)]
def jmG:St:=⟨[(58,(.tup [(.bool true),(.i (-1)),(.i 0)])),(57,(.i 0)),(56,(ptA 4489)),(0,(ptA 4489)),(1,(.i 0)),(2,(.i 9)),(8,(.i 1))],5873,jfL⟩
def uS364:St:=⟨[(11,(.i 0)),(10,(.i (-1))),(9,(.bool true)),(61,(.i 0)),(60,(.i (-1))),(59,(.bool true)),(55,(.tup [(.bool true),(.i (-1)),(.i 0)])),(58,(.tup [(.bool true),(.i (-1)),(.i 0)])),(57,(.i 0)),(56,(ptA 4489)),(0,(ptA 4489)),(1,(.i 0)),(2,(.i 9)),(8,(.i 1))],5873,jfL⟩
def jmF:St:=⟨[(0,(ptA 4489)),(1,(.i 0)),(2,(.i 9)),(8,(.i 1)),(10,(.i (-1))),(11,(.i 0))],5873,jfL⟩
def jio:St:=⟨[(0,(ptA 4489)),(1,(.i 0)),(2,(.i 9)),(8,(.i 1)),(10,(.i (-1))),(11,(.i 0)),(63,(.bool false))],5873,jfL⟩
def jgZ:St:=⟨[(0,(ptA 4489)),(1,(.i 0)),(2,(.i 9)),(8,(.i 2))],5873,jfL⟩
def jin:St:=⟨[(6,(.i 1)),(7,(.i 0))],5876,jfL⟩
def jmE:St:=⟨[(29,(.tup [(.i 1),(.i 0)])),(28,(.i 9)),(27,(.i 0)),(26,(ptA 4489)),(0,(ptA 4489)),(1,(.i 0)),(2,(.i 9)),(13,(.bool false))],5876,jfL⟩
def uS375:St:=⟨[(9,(.i 0)),(8,(.i 1)),(31,(.i 0)),(30,(.i 1)),(25,(.tup [(.i 1),(.i 0)])),(29,(.tup [(.i 1),(.i 0)])),(28,(.i 9)),(27,(.i 0)),(26,(ptA 4489)),(0,(ptA 4489)),(1,(.i 0)),(2,(.i 9)),(13,(.bool false))],5876,jfL⟩
def jmD:St:=⟨[(0,(ptA 4489)),(8,(.i 1)),(9,(.i 0))],5876,jfL⟩
def jor:Am.Obj := .cells [ptA 4405,.iface 138 (ptA 4440),ptA 4438,ptA 4453,.map (some 4487),.slice (some (4488,0)) 2 (.fix 2),.slice (some (5878,0)) 5 (.grow 7),.bool false,.bool false] false
def joq:Am.Obj := .cells [.i 1,.int .u64 0,.i 0,.i 0,.i 1,.i 0,.slice none 0 (.fix 0),.i 2,.int .u64 3,.i 1,.i 2,.i 0,.i 0,.slice none 0 (.fix 0),.i 3,.int .u64 3,.i 1,.i 0,.i 2,.i 113,.slice (some (5850,0)) 2 (.grow 1),.i 3,.int .u64 3,.i 1,.i 0,.i 3,.i 0,.slice (some (5869,0)) 1 (.grow 1),.i 4,.int .u64 3,.i 0,.i 0,.i 1,.i 0,.slice none 0 (.fix 0)] false
def jmX:List (Nat × Am.Obj):=[(3401,jaI),(3738,jan),(3740,jaO),(3742,uO11),(3744,jak),(3890,jao),(3891,jaN),(3893,uO10),(3894,uO11),(3895,jaY),(3896,jaX),(3897,uO14),(3898,jaW),(3899,jaV),(3900,uO17),(3901,ja2),(3902,uO24),(3903,uO24),(4231,jan),(4233,jbd),(4235,uO11),(4237,jak),(4383,jao),(4384,jbc),(4385,ja2),(4386,uO58),(4403,jiy),(4404,uO60),(4405,jkq),(4408,jl1),(4409,jcc),(4410,jl0),(4411,jcy),(4412,jlz),(4433,jfI),(4435,uO11),(4437,jfH),(4438,jkp),(4439,jly),(4440,jfG),(4441,jlx),(4442,jba),(4443,jfF),(4444,jcb),(4445,jba),(4446,jlw),(4447,uO71),(4448,jfE),(4449,uO71),(4450,jfD),(4451,uO71),(4452,jfC),(4453,jfB),(4454,jfA),(4455,uO63),(4456,jf9),(4457,uO63),(4458,jf8),(4472,jf7),(4487,jf6),(4488,uO89),(4489,jor),(4509,uO14),(4511,jf5),(4532,uO24),(5791,jcx),(5829,jcw),(5850,uO11),(5869,jak),(5878,joq)]
def jnx:St:=⟨[(6,(.i 1)),(7,(.i 0))],5879,jmX⟩
def jmC:St:=⟨[(130,(.tup [(.i 1),(.i 0)])),(129,(.i 9)),(128,(.ptr (some (4385,4)))),(127,(.i 0)),(126,(ptA 4489)),(3,(ptA 4385)),(6,(ptA 4386)),(9,(ptA 4403)),(10,(.clo 22 [(ptA 4403)])),(11,(ptA 4405)),(18,(ptA 4489)),(22,(.i 0)),(119,(.slice (some (3900,0)) 2 (.fix 2))),(120,(.i 2)),(121,(.i 0))],5879,jmX⟩
def uS384:St:=⟨[(24,(.i 0)),(23,(.i 1)),(132,(.i 0)),(131,(.i 1)),(125,(.tup [(.i 1),(.i 0)])),(130,(.tup [(.i 1),(.i 0)])),(129,(.i 9)),(128,(.ptr (some (4385,4)))),(127,(.i 0)),(126,(ptA 4489)),(3,(ptA 4385)),(6,(ptA 4386)),(9,(ptA 4403)),(10,(.clo 22 [(ptA 4403)])),(11,(ptA 4405)),(18,(ptA 4489)),(22,(.i 0)),(119,(.slice (some (3900,0)) 2 (.fix 2))),(120,(.i 2)),(121,(.i 0))],5879,jmX⟩
def jmB:St:=⟨[(3,(ptA 4385)),(6,(ptA 4386)),(9,(ptA 4403)),(10,(.clo 22 [(ptA 4403)])),(11,(ptA 4405)),(18,(ptA 4489)),(23,(.i 1)),(24,(.i 0)),(119,(.slice (some (3900,0)) 2 (.fix 2))),(120,(.i 2)),(121,(.i 0))],5879,jmX⟩
def uO387:Am.Obj := .cells ([.slice (some (5880,0)) 6 (.grow 1)]++rpL 2 [.slice none 0 (.fix 0)]) false
def jo8:List (Nat × Am.Obj):=[(3401,jaI),(3738,jan),(3740,jaO),(3742,uO11),(3744,jak),(3890,jao),(3891,jaN),(3893,uO10),(3894,uO11),(3895,jaY),(3896,jaX),(3897,uO14),(3898,jaW),(3899,jaV),(3900,uO17),(3901,ja2),(3902,uO24),(3903,uO24),(4231,jan),(4233,jbd),(4235,uO11),(4237,jak),(4383,jao),(4384,jbc),(4385,ja2),(4386,uO58),(4403,uO387),(4404,uO60),(4405,jkq),(4408,jl1),(4409,jcc),(4410,jl0),(4411,jcy),(4412,jlz),(4433,jfI),(4435,uO11),(4437,jfH),(4438,jkp),(4439,jly),(4440,jfG),(4441,jlx),(4442,jba),(4443,jfF),(4444,jcb),(4445,jba),(4446,jlw),(4447,uO71),(4448,jfE),(4449,uO71),(4450,jfD),(4451,uO71),(4452,jfC),(4453,jfB),(4454,jfA),(4455,uO63),(4456,jf9),(4457,uO63),(4458,jf8),(4472,jf7),(4487,jf6),(4488,uO89),(4489,jor),(4509,uO14),(4511,jf5),(5791,jcx),(5829,jcw),(5850,uO11),(5869,jak),(5878,joq),(5880,jnN)]
def jim:St:=⟨[(3,(ptA 4385)),(6,(ptA 4386)),(9,(ptA 4403)),(10,(.clo 22 [(ptA 4403)])),(11,(ptA 4405)),(18,(ptA 4489)),(119,(.slice (some (3900,0)) 2 (.fix 2))),(120,(.i 2)),(121,(.i 0))],5881,jo8⟩
def jgY:St:=⟨[(3,(ptA 4385)),(6,(ptA 4386)),(9,(ptA 4403)),(10,(.clo 22 [(ptA 4403)])),(11,(ptA 4405)),(18,(ptA 4489)),(119,(.slice (some (3900,0)) 2 (.fix 2))),(120,(.i 2)),(121,(.i 1))],5881,jo8⟩
def uO394:Am.Obj := .cells ([.slice (some (5888,0)) 8 (.grow 1)]++rpL 2 [.slice none 0 (.fix 0)]) false
def uO395:Am.Obj := .cells [ptA 4405,.iface 138 (ptA 4440),ptA 4438,ptA 4453,.map (some 4487),.slice (some (4488,0)) 2 (.fix 2),.slice (some (5886,0)) 6 (.grow 7),.bool false,.bool false] false
def uO396:Am.Obj := .cells ([.i 1,.int .u64 0,.i 0,.i 0,.i 1,.i 0,.slice none 0 (.fix 0),.i 2,.int .u64 3,.i 1,.i 2,.i 0,.i 0,.slice none 0 (.fix 0),.i 3,.int .u64 3,.i 1,.i 0,.i 2,.i 113,.slice (some (5850,0)) 2 (.grow 1),.i 3,.int .u64 3,.i 1,.i 0,.i 3,.i 0,.slice (some (5869,0)) 1 (.grow 1)]++rpL 2 [.i 4,.int .u64 3,.i 0,.i 0,.i 1,.i 0,.slice none 0 (.fix 0)]) false
def jo7:List (Nat × Am.Obj):=[(3401,jaI),(3738,jan),(3740,jaO),(3742,uO11),(3744,jak),(3890,jao),(3891,jaN),(3893,uO10),(3894,uO11),(3895,jaY),(3896,jaX),(3897,uO14),(3898,jaW),(3899,jaV),(3900,uO17),(3901,ja2),(3902,uO24),(3903,uO24),(4231,jan),(4233,jbd),(4235,uO11),(4237,jak),(4383,jao),(4384,jbc),(4385,ja2),(4386,uO58),(4403,uO394),(4404,uO60),(4405,jkq),(4408,jl1),(4409,jcc),(4410,jl0),(4411,jcy),(4412,jlz),(4433,jfI),(4435,uO11),(4437,jfH),(4438,jkp),(4439,jly),(4440,jfG),(4441,jlx),(4442,jba),(4443,jfF),(4444,jcb),(4445,jba),(4446,jlw),(4447,uO71),(4448,jfE),(4449,uO71),(4450,jfD),(4451,uO71),(4452,jfC),(4453,jfB),(4454,jfA),(4455,uO63),(4456,jf9),(4457,uO63),(4458,jf8),(4472,jf7),(4487,jf6),(4488,uO89),(4489,uO395),(4509,uO14),(4511,jf5),(5791,jcx),(5829,jcw),(5850,uO11),(5869,jak),(5886,uO396),(5888,jan)]
def jgX:St:=⟨[(3,(ptA 4385)),(6,(ptA 4386)),(9,(ptA 4403)),(10,(.clo 22 [(ptA 4403)])),(11,(ptA 4405)),(18,(ptA 4489)),(119,(.slice (some (3900,0)) 2 (.fix 2))),(120,(.i 2)),(121,(.i 2))],5889,jo7⟩
def jil:St:=⟨[(3,(ptA 4385)),(6,(ptA 4386)),(9,(ptA 4403)),(10,(.clo 22 [(ptA 4403)])),(11,(ptA 4405)),(18,(ptA 4489)),(119,(.slice (some (3900,0)) 2 (.fix 2))),(120,(.i 2)),(121,(.i 2)),(122,(.bool false))],5889,jo7⟩
def jop:Am.Obj := .cells [.slice (some (5888,0)) 8 (.grow 1),.slice (some (5890,0)) 6 (.grow 7),.slice (some (6040,0)) 7 (.grow 1)] false
def jnG:Am.Obj := .cells ([.i 1,.int .u64 0,.i 0,.i 0,.i 1,.i 0,.slice none 0 (.fix 0),.i 2,.int .u64 3,.i 1,.i 2,.i 0,.i 0,.slice none 0 (.fix 0),.i 3,.int .u64 3,.i 1,.i 0,.i 2,.i 113,.slice (some (5892,0)) 2 (.grow 1),.i 3,.int .u64 3,.i 1,.i 0,.i 3,.i 0,.slice (some (5894,0)) 1 (.grow 1)]++rpL 2 [.i 4,.int .u64 3,.i 0,.i 0,.i 1,.i 0,.slice none 0 (.fix 0)]) false
def uM405:List (Nat × Am.Obj):=[(3401,jaI),(3738,jan),(3740,jaO),(3742,uO11),(3744,jak),(3890,jao),(3891,jaN),(3893,uO10),(3894,uO11),(3895,jaY),(3896,jaX),(3897,uO14),(3898,jaW),(3899,jaV),(3900,uO17),(3901,ja2),(3902,uO24),(3903,uO24),(4231,jan),(4233,jbd),(4235,uO11),(4237,jak),(4383,jao),(4384,jbc),(4386,jop),(5888,jan),(5890,jnG),(5892,uO11),(5894,jak),(6040,jao)]
def jnw:St:=⟨[(6,(ptA 4386)),(7,(.i 0))],6041,uM405⟩
def uM408:List (Nat × Am.Obj):=[(3401,jaI),(3738,jan),(3740,jaO),(3742,uO11),(3744,jak),(3890,jao),(3891,jaN),(3893,uO10),(3894,uO11),(3895,jaY),(3896,jaX),(3897,uO14),(3898,jaW),(3899,jaV),(3900,uO17),(3901,ja2),(3902,uO24),(3903,uO24),(4231,jan),(4233,jbd),(4235,uO11),(4237,jak),(4383,jao),(4384,jbc),(5888,jan),(5890,jnG),(5892,uO11),(5894,jak),(6040,jao)]
def jmA:St:=⟨[(30,(.tup [(.agg [(.slice (some (5888,0)) 8 (.grow 1)),(.slice (some (5890,0)) 6 (.grow 7)),(.slice (some (6040,0)) 7 (.grow 1))]),(.i 0)])),(29,(.i 1)),(28,(.i 1)),(27,(.i 0)),(26,(.agg [(.slice (some (3893,0)) 1 (.fix 1)),(.slice (some (3896,0)) 1 (.fix 1)),(.slice (some (3899,0)) 1 (.fix 1)),(.slice (some (3900,0)) 2 (.fix 2)),(.i 9)])),(1,(.i 1)),(2,(ptA 3901)),(4,(ptA 3902)),(6,(ptA 3903)),(7,(ptA 4384)),(9,(.i 0)),(22,(.i 0))],6041,uM408⟩
def jo6:List (Nat × Am.Obj):=[(3401,jaI),(3738,jan),(3740,jaO),(3742,uO11),(3744,jak),(3890,jao),(3891,jaN),(3893,uO10),(3894,uO11),(3895,jaY),(3896,jaX),(3897,uO14),(3898,jaW),(3899,jaV),(3900,uO17),(3901,ja2),(3902,uO24),(3903,uO24),(4231,jan),(4233,jbd),(4235,uO11),(4237,jak),(4383,jao),(4384,jbc),(5888,jan),(5890,jnG),(5892,uO11),(5894,jak),(6040,jao),(6041,jop)]
def uS411:St:=⟨[(11,(.i 0)),(10,(ptA 6041)),(32,(.i 0)),(31,(.agg [(.slice (some (5888,0)) 8 (.grow 1)),(.slice (some (5890,0)) 6 (.grow 7)),(.slice (some (6040,0)) 7 (.grow 1))])),(25,(.tup [(.agg [(.slice (some (5888,0)) 8 (.grow 1)),(.slice (some (5890,0)) 6 (.grow 7)),(.slice (some (6040,0)) 7 (.grow 1))]),(.i 0)])),(30,(.tup [(.agg [(.slice (some (5888,0)) 8 (.grow 1)),(.slice (some (5890,0)) 6 (.grow 7)),(.slice (some (6040,0)) 7 (.grow 1))]),(.i 0)])),(29,(.i 1)),(28,(.i 1)),(27,(.i 0)),(26,(.agg [(.slice (some (3893,0)) 1 (.fix 1)),(.slice (some (3896,0)) 1 (.fix 1)),(.slice (some (3899,0)) 1 (.fix 1)),(.slice (some (3900,0)) 2 (.fix 2)),(.i 9)])),(1,(.i 1)),(2,(ptA 3901)),(4,(ptA 3902)),(6,(ptA 3903)),(7,(ptA 4384)),(9,(.i 0)),(22,(.i 0))],6042,jo6⟩
def jm9:St:=⟨[(1,(.i 1)),(2,(ptA 3901)),(4,(ptA 3902)),(6,(ptA 3903)),(7,(ptA 4384)),(9,(.i 0)),(10,(ptA 6041)),(22,(.i 0))],6042,jo6⟩
def jo5:List (Nat × Am.Obj):=[(3401,jaI),(3738,jan),(3740,jaO),(3742,uO11),(3744,jak),(3890,jao),(3891,jaN),(3893,uO10),(3894,uO11),(3895,jaY),(3896,jaX),(3897,uO14),(3898,jaW),(3899,jaV),(3900,uO17),(3901,ja2),(3902,uO24),(3903,uO34),(4231,jan),(4233,jbd),(4235,uO11),(4237,jak),(4383,jao),(4384,jbc)]
def jik:St:=⟨[(1,(.i 1)),(2,(ptA 3901)),(4,(ptA 3902)),(6,(ptA 3903)),(7,(ptA 4384)),(9,(.i 0)),(22,(.i 0)),(59,(.bool false))],6060,jo5⟩
def jgW:St:=⟨[(1,(.i 1)),(2,(ptA 3901)),(4,(ptA 3902)),(6,(ptA 3903)),(7,(ptA 4384)),(22,(.i 1))],6060,jo5⟩
def uM420:List (Nat × Am.Obj):=[(3401,jaI),(3738,jan),(3740,jaO),(3742,uO11),(3744,jak),(3890,jao),(3891,jaN),(3893,uO10),(3894,uO11),(3895,jaY),(3896,jaX),(3897,uO14),(3898,jaW),(3899,jaV),(3900,uO17),(3901,ja2),(3902,uO24),(3903,uO39),(4231,jan),(4233,jbd),(4235,uO11),(4237,jak),(4383,jao),(4384,jbc)]
def jgV:St:=⟨[(1,(.i 1)),(2,(ptA 3901)),(4,(ptA 3902)),(6,(ptA 3903)),(7,(ptA 4384)),(22,(.i 2))],6610,uM420⟩
def jcT:Am.Obj := .cells (rpL 3 [.i (-1)]++[.i 0]) false
def jl8:List (Nat × Am.Obj):=[(3401,jaI),(3738,jan),(3740,jaO),(3742,uO11),(3744,jak),(3890,jao),(3891,jaN),(3893,uO10),(3894,uO11),(3895,jaY),(3896,jaX),(3897,uO14),(3898,jaW),(3899,jaV),(3900,uO17),(3901,ja2),(3902,uO24),(3903,jcT),(4231,jan),(4233,jbd),(4235,uO11),(4237,jak),(4383,jao),(4384,jbc)]
def jgU:St:=⟨[(1,(.i 1)),(2,(ptA 3901)),(4,(ptA 3902)),(6,(ptA 3903)),(7,(ptA 4384)),(22,(.i 3))],7297,jl8⟩
def jij:St:=⟨[(1,(.i 1)),(2,(ptA 3901)),(4,(ptA 3902)),(6,(ptA 3903)),(7,(ptA 4384)),(22,(.i 3)),(23,(.bool true))],7297,jl8⟩
def jkb:St:=⟨[(1,(.i 1)),(2,(ptA 3901)),(4,(ptA 3902)),(6,(ptA 3903)),(7,(ptA 4384)),(9,(.i 3)),(22,(.i 3))],7297,jl8⟩
def uS436:St:=⟨[(29,(.i 1)),(28,(.i 4)),(27,(.i 3)),(26,(.agg [(.slice (some (3893,0)) 1 (.fix 1)),(.slice (some (3896,0)) 1 (.fix 1)),(.slice (some (3899,0)) 1 (.fix 1)),(.slice (some (3900,0)) 2 (.fix 2)),(.i 9)])),(1,(.i 1)),(2,(ptA 3901)),(4,(ptA 3902)),(6,(ptA 3903)),(7,(ptA 4384)),(9,(.i 3)),(22,(.i 3))],7297,jl8⟩
def jlk:St:=⟨[(0,(.agg [(.slice (some (3893,0)) 1 (.fix 1)),(.slice (some (3896,0)) 1 (.fix 1)),(.slice (some (3899,0)) 1 (.fix 1)),(.slice (some (3900,0)) 2 (.fix 2)),(.i 9)])),(1,(.i 4)),(2,(.i 1))],7297,jl8⟩
def jix:Am.Obj := .cells ([.slice (some (7448,0)) 4 (.grow 1)]++rpL 2 [.slice none 0 (.fix 0)]) false
def jnF:Am.Obj := .cells ([.bool true,.i 0]++rpL 2 [.i 0,.bool true,.i 1]++[.i 1]++rpL 46 [.bool false,.i 0,.i 0,.bool false,.i 0,.i 0]++[.bool false,.i 0,.i 0,.slice (some (7388,0)) 2 (.grow 1),ptA 7316,.int .u64 0,.bool true,.i 1,.i 0]) false
def jnE:Am.Obj := .cells [.i 1,.i 0,ptA 7322,.bool true,.bool false,.int .u64 0,.int .u64 0,.i 2,.i 0,ptA 7324,.bool true,.bool false,.int .u64 0,.int .u64 0,.bool false,.i 0,.slice none 0 (.fix 0)] false
def jnD:Am.Obj := .cells [.slice (some (7321,0)) 8 (.fix 8),.i 0,.i 0,.int .u64 0,.int .u64 0,.bool true] false
def jmS:Am.Obj := .cells [.slice (some (7323,0)) 8 (.fix 8),.i 0,.i 0,.int .u64 0,.int .u64 0,.bool true] false
def jf4:Am.Obj := .cells [.i 1,.i 0,.i 0,.slice (some (7347,0)) 2 (.grow 1)] false
def jf3:Am.Obj := .cells [.int .u64 3,.bool false,.slice none 0 (.fix 0),.slice (some (7345,0)) 1 (.grow 4)] false
def jnC:Am.Obj := .cells [.slice (some (7349,0)) 1 (.grow 4),.slice none 0 (.fix 0)] false
def jnB:Am.Obj := .cells (rpL 24 [.i 0,.i 0,.i 0,.i 0]++[.i 2]++rpL 19 [.i 0,.i 0,.i 0,.i 0,.i 0]++[.bool true]) false
def jnA:Am.Obj := .cells [ptA 7317,.iface 272 (ptA 7355),ptA 7351,.i 1,.i 1,.i (-1)] false
def jf2:Am.Obj := .cells [ptA 7317,.map (some 7353)] false
def jf1:Am.Obj := .cells [ptA 7354] false
def jf0:Am.Obj := .cells [.iface 192 (ptA 7352),.i 4] false
def jfz:Am.Obj := .cells [.slice (some (7357,0)) 8 (.fix 8),.map (some 7358)] false
def jmR:Am.Obj := .cells ([.map (some 7361),.slice (some (7447,0)) 1 (.grow 1)]++rpL 63 [.slice none 0 (.fix 0),.slice none 0 (.fix 0)]++[.slice none 0 (.fix 0)]) false
def jfy:Am.Obj := .cells [.slice none 0 (.fix 0),.map (some 7363),.bool true] false
def jfx:Am.Obj := .cells [ptA 7364,.slice none 0 (.fix 0),.map (some 7365),.int .u64 0] false
def jfw:Am.Obj := .cells [ptA 7366,.map (some 7367),.int .u64 18446744073709551615] false
def jfv:Am.Obj := .cells [ptA 7317,.iface 138 (ptA 7356),.map (some 7360),ptA 7362,ptA 7368,ptA 7359] false
def jfu:Am.Obj := .cells [.i 1,.i 1,ptA 7372,.bool true,.bool false,.int .u64 0,.int .u64 0,.i 1,.i 2,ptA 7374,.bool true,.bool false,.int .u64 0,.int .u64 0,.bool false,.i 0,.slice none 0 (.fix 0)] false
def jft:Am.Obj := .cells [.slice (some (7371,0)) 8 (.fix 8),.i 0,.i 0,.int .u64 0,.int .u64 0,.bool true] false
def jfs:Am.Obj := .cells [.slice (some (7373,0)) 8 (.fix 8),.i 0,.i 0,.int .u64 0,.int .u64 0,.bool true] false
def jfr:Am.Obj := .cells [ptA 7320,ptA 7370] false
def jfq:Am.Obj := .map [((.i 1),(.slice (some (7427,0)) 2 (.grow 5)),0)] 1
def uO464:Am.Obj := .cells [ptA 7317,.iface 138 (ptA 7356),ptA 7350,ptA 7369,.map (some 7403),.slice (some (7404,0)) 2 (.fix 2),.slice none 0 (.fix 0),.bool false,.bool false] false
def jfp:Am.Obj := .cells [.i 2,.i (-1),.i 0,.int .u64 0,.slice none 0 (.fix 0),.i 3,.i 0,.i 0,.int .u64 0,.slice (some (7425,0)) 1 (.grow 1)] false
def jhh:List (Nat × Am.Obj):=[(3401,jaI),(3738,jan),(3740,jaO),(3742,uO11),(3744,jak),(3890,jao),(3891,jaN),(3893,uO10),(3894,uO11),(3895,jaY),(3896,jaX),(3897,uO14),(3898,jaW),(3899,jaV),(3900,uO17),(3901,ja2),(3902,uO24),(3903,jcT),(4231,jan),(4233,jbd),(4235,uO11),(4237,jak),(4383,jao),(4384,jbc),(7297,ja2),(7298,uO58),(7315,jix),(7316,uO60),(7317,jnF),(7320,jnE),(7321,uO63),(7322,jnD),(7323,uO63),(7324,jmS),(7345,jf4),(7347,uO11),(7349,jf3),(7350,jnC),(7351,jnB),(7352,jnA),(7353,uO71),(7354,jf2),(7355,jf1),(7356,jf0),(7357,uO75),(7358,uO71),(7359,jfz),(7360,jcb),(7361,jhg),(7362,jmR),(7363,uO71),(7364,jfy),(7365,uO71),(7366,jfx),(7367,uO71),(7368,jfw),(7369,jfv),(7370,jfu),(7371,uO63),(7372,jft),(7373,uO63),(7374,jfs),(7388,jfr),(7403,jfq),(7404,uO89),(7405,uO464),(7425,uO14),(7427,jfp),(7447,uO92),(7448,uO24)]
def jgT:St:=⟨[(3,(ptA 7297)),(6,(ptA 7298)),(9,(ptA 7315)),(10,(.clo 22 [(ptA 7315)])),(11,(ptA 7317)),(18,(ptA 7405)),(119,(.slice (some (3900,0)) 2 (.fix 2))),(120,(.i 2)),(121,(.i 0))],7449,jhh⟩
def jii:St:=⟨[(3,(ptA 7297)),(6,(ptA 7298)),(9,(ptA 7315)),(10,(.clo 22 [(ptA 7315)])),(11,(ptA 7317)),(18,(ptA 7405)),(119,(.slice (some (3900,0)) 2 (.fix 2))),(120,(.i 2)),(121,(.i 0)),(122,(.bool true))],7449,jhh⟩
def jka:St:=⟨[(3,(ptA 7297)),(6,(ptA 7298)),(9,(ptA 7315)),(10,(.clo 22 [(ptA 7315)])),(11,(ptA 7317)),(18,(ptA 7405)),(22,(.i 0)),(119,(.slice (some (3900,0)) 2 (.fix 2))),(120,(.i 2)),(121,(.i 0))],7449,jhh⟩
def uS478:St:=⟨[(129,(.i 9)),(128,(.ptr (some (7297,4)))),(127,(.i 0)),(126,(ptA 7405)),(3,(ptA 7297)),(6,(ptA 7298)),(9,(ptA 7315)),(10,(.clo 22 [(ptA 7315)])),(11,(ptA 7317)),(18,(ptA 7405)),(22,(.i 0)),(119,(.slice (some (3900,0)) 2 (.fix 2))),(120,(.i 2)),(121,(.i 0))],7449,jhh⟩
def je2:St:=⟨[(0,(ptA 7405)),(1,(.i 0)),(2,(.i 9))],7449,jhh⟩
def jjZ:St:=⟨[(0,(ptA 7405)),(1,(.i 0)),(2,(.i 9)),(13,(.bool false))],7449,jhh⟩
def uS485:St:=⟨[(28,(.i 9)),(27,(.i 0)),(26,(ptA 7405)),(0,(ptA 7405)),(1,(.i 0)),(2,(.i 9)),(13,(.bool false))],7449,jhh⟩
def jd4:St:=⟨[(0,(ptA 7405)),(1,(.i 0)),(2,(.i 9)),(8,(.i 1))],7449,jhh⟩
def jn9:Am.Obj := .cells [ptA 7317,.iface 138 (ptA 7356),ptA 7350,ptA 7369,.map (some 7403),.slice (some (7404,0)) 2 (.fix 2),.slice (some (7451,0)) 1 (.grow 7),.bool false,.bool false] false
def jnS:List (Nat × Am.Obj):=[(3401,jaI),(3738,jan),(3740,jaO),(3742,uO11),(3744,jak),(3890,jao),(3891,jaN),(3893,uO10),(3894,uO11),(3895,jaY),(3896,jaX),(3897,uO14),(3898,jaW),(3899,jaV),(3900,uO17),(3901,ja2),(3902,uO24),(3903,jcT),(4231,jan),(4233,jbd),(4235,uO11),(4237,jak),(4383,jao),(4384,jbc),(7297,ja2),(7298,uO58),(7315,jix),(7316,uO60),(7317,jnF),(7320,jnE),(7321,uO63),(7322,jnD),(7323,uO63),(7324,jmS),(7345,jf4),(7347,uO11),(7349,jf3),(7350,jnC),(7351,jnB),(7352,jnA),(7353,uO71),(7354,jf2),(7355,jf1),(7356,jf0),(7357,uO75),(7358,uO71),(7359,jfz),(7360,jcb),(7361,jhg),(7362,jmR),(7363,uO71),(7364,jfy),(7365,uO71),(7366,jfx),(7367,uO71),(7368,jfw),(7369,jfv),(7370,jfu),(7371,uO63),(7372,jft),(7373,uO63),(7374,jfs),(7388,jfr),(7403,jfq),(7404,uO89),(7405,jn9),(7425,uO14),(7427,jfp),(7447,uO92),(7448,uO24),(7451,jfJ)]
def jjY:St:=⟨[(0,(ptA 7405)),(1,(.i 0)),(2,(.i 9)),(8,(.i 1))],7452,jnS⟩
def uS499:St:=⟨[(57,(.i 0)),(56,(ptA 7405)),(0,(ptA 7405)),(1,(.i 0)),(2,(.i 9)),(8,(.i 1))],7452,jnS⟩
def jlj:St:=⟨[(0,(ptA 7405)),(1,(.i 0))],7452,jnS⟩
def joo:Am.Obj := .cells [ptA 7405] false
def uM504:List (Nat × Am.Obj):=[(3401,jaI),(3738,jan),(3740,jaO),(3742,uO11),(3744,jak),(3890,jao),(3891,jaN),(3893,uO10),(3894,uO11),(3895,jaY),(3896,jaX),(3897,uO14),(3898,jaW),(3899,jaV),(3900,uO17),(3901,ja2),(3902,uO24),(3903,jcT),(4231,jan),(4233,jbd),(4235,uO11),(4237,jak),(4383,jao),(4384,jbc),(7297,ja2),(7298,uO58),(7315,jix),(7316,uO60),(7317,jnF),(7320,jnE),(7321,uO63),(7322,jnD),(7323,uO63),(7324,jmS),(7345,jf4),(7347,uO11),(7349,jf3),(7350,jnC),(7351,jnB),(7352,jnA),(7353,uO71),(7354,jf2),(7355,jf1),(7356,jf0),(7357,uO75),(7358,uO71),(7359,jfz),(7360,jcb),(7361,jhg),(7362,jmR),(7363,uO71),(7364,jfy),(7365,uO71),(7366,jfx),(7367,uO71),(7368,jfw),(7369,jfv),(7370,jfu),(7371,uO63),(7372,jft),(7373,uO63),(7374,jfs),(7388,jfr),(7403,jfq),(7404,uO89),(7405,jn9),(7425,uO14),(7427,jfp),(7447,uO92),(7448,uO24),(7451,jfJ),(7452,joo),(7453,jkv)]
def jnv:St:=⟨[(1,(.i 0)),(2,(ptA 7452)),(4,(ptA 7453)),(8,(.int .u64 0)),(9,(.bool true))],7461,uM504⟩
def jko:Am.Obj := .cells ([.bool true,.i 0]++rpL 2 [.i 0,.bool true,.i 1]++[.i 1]++rpL 46 [.bool false,.i 0,.i 0,.bool false,.i 0,.i 0]++[.bool false,.i 0,.i 0,.slice (some (7388,0)) 2 (.grow 1),ptA 7316,.int .u64 3,.bool true,.i 1,.i 0]) false
def uO508:Am.Obj := .cells [.i 1,.i 0,ptA 7322,.bool true,.bool false,.int .u64 1,.int .u64 0,.i 2,.i 0,ptA 7324,.bool true,.bool false,.int .u64 0,.int .u64 0,.bool false,.i 0,.slice none 0 (.fix 0)] false
def uO509:Am.Obj := .cells [.slice (some (7321,0)) 8 (.fix 8),.i 0,.i 2,.int .u64 2,.int .u64 0,.bool true] false
def jkn:Am.Obj := .cells [.slice (some (7349,4)) 0 (.grow 4),.slice none 0 (.fix 0)] false
def uO511:Am.Obj := .cells ([.i 2]++rpL 19 [.i 0,.i 0,.i 0,.i 0,.i 0]++[.i 2]++rpL 19 [.i 0,.i 0,.i 0,.i 0,.i 0]++[.bool true]) false
def jkm:Am.Obj := .cells [ptA 7317,.iface 272 (ptA 7355),ptA 7351,.i 1,.i 1,.i 1] false
def jkl:Am.Obj := .map [((.agg [(.i 0),(.i 1)]),(.agg [(.i 0),(.i 0),(.bool false),(.int .u64 1)]),0),((.agg [(.i 1),(.i 3)]),(.agg [(.i 0),(.i 0),(.bool true),(.int .u64 0)]),1),((.agg [(.i 2),(.i 3)]),(.agg [(.i 0),(.i 0),(.bool true),(.int .u64 0)]),2),((.agg [(.i 3),(.i 3)]),(.agg [(.i 0),(.i 0),(.bool true),(.int .u64 0)]),3),((.agg [(.i 4),(.i 3)]),(.agg [(.i 0),(.i 0),(.bool true),(.int .u64 0)]),4),((.agg [(.i 5),(.i 3)]),(.agg [(.i 0),(.i 0),(.bool true),(.int .u64 0)]),5),((.agg [(.i 6),(.i 3)]),(.agg [(.i 0),(.i 0),(.bool true),(.int .u64 0)]),6),((.agg [(.i 7),(.i 3)]),(.agg [(.i 0),(.i 0),(.bool true),(.int .u64 0)]),7),((.agg [(.i 8),(.i 3)]),(.agg [(.i 0),(.i 0),(.bool true),(.int .u64 0)]),8),((.agg [(.i 9),(.i 3)]),(.agg [(.i 0),(.i 0),(.bool true),(.int .u64 0)]),9),((.agg [(.i 10),(.i 3)]),(.agg [(.i 0),(.i 0),(.bool true),(.int .u64 0)]),10),((.agg [(.i 11),(.i 3)]),(.agg [(.i 0),(.i 0),(.bool true),(.int .u64 0)]),11),((.agg [(.i 12),(.i 3)]),(.agg [(.i 0),(.i 0),(.bool true),(.int .u64 0)]),12),((.agg [(.i 13),(.i 3)]),(.agg [(.i 0),(.i 0),(.bool true),(.int .u64 0)]),13),((.agg [(.i 14),(.i 3)]),(.agg [(.i 0),(.i 0),(.bool true),(.int .u64 0)]),14),((.agg [(.i 15),(.i 3)]),(.agg [(.i 0),(.i 0),(.bool true),(.int .u64 0)]),15),((.agg [(.i 16),(.i 3)]),(.agg [(.i 0),(.i 0),(.bool true),(.int .u64 0)]),16),((.agg [(.i 17),(.i 3)]),(.agg [(.i 0),(.i 0),(.bool true),(.int .u64 0)]),17),((.agg [(.i 18),(.i 3)]),(.agg [(.i 0),(.i 0),(.bool true),(.int .u64 0)]),18),((.agg [(.i 19),(.i 3)]),(.agg [(.i 0),(.i 0),(.bool true),(.int .u64 0)]),19),((.agg [(.i 20),(.i 3)]),(.agg [(.i 0),(.i 0),(.bool true),(.int .u64 0)]),20),((.agg [(.i 21),(.i 3)]),(.agg [(.i 0),(.i 0),(.bool true),(.int .u64 0)]),21),((.agg [(.i 22),(.i 3)]),(.agg [(.i 0),(.i 0),(.bool true),(.int .u64 0)]),22),((.agg [(.i 23),(.i 3)]),(.agg [(.i 0),(.i 0),(.bool true),(.int .u64 0)]),23),((.agg [(.i 24),(.i 3)]),(.agg [(.i 0),(.i 0),(.bool true),(.int .u64 0)]),24),((.agg [(.i 25),(.i 3)]),(.agg [(.i 0),(.i 0),(.bool true),(.int .u64 0)]),25),((.agg [(.i 26),(.i 3)]),(.agg [(.i 0),(.i 0),(.bool true),(.int .u64 0)]),26),((.agg [(.i 27),(.i 3)]),(.agg [(.i 0),(.i 0),(.bool true),(.int .u64 0)]),27),((.agg [(.i 28),(.i 3)]),(.agg [(.i 0),(.i 0),(.bool true),(.int .u64 0)]),28),((.agg [(.i 29),(.i 3)]),(.agg [(.i 0),(.i 0),(.bool true),(.int .u64 0)]),29),((.agg [(.i 30),(.i 3)]),(.agg [(.i 0),(.i 0),(.bool true),(.int .u64 0)]),30),((.agg [(.i 31),(.i 3)]),(.agg [(.i 0),(.i 0),(.bool true),(.int .u64 0)]),31)] 32
def uM514:List (Nat × Am.Obj):=[(3401,jaI),(3738,jan),(3740,jaO),(3742,uO11),(3744,jak),(3890,jao),(3891,jaN),(3893,uO10),(3894,uO11),(3895,jaY),(3896,jaX),(3897,uO14),(3898,jaW),(3899,jaV),(3900,uO17),(3901,ja2),(3902,uO24),(3903,jcT),(4231,jan),(4233,jbd),(4235,uO11),(4237,jak),(4383,jao),(4384,jbc),(7297,ja2),(7298,uO58),(7315,jix),(7316,uO60),(7317,jko),(7320,uO508),(7321,jcc),(7322,uO509),(7323,uO63),(7324,jmS),(7345,jf4),(7347,uO11),(7349,jf3),(7350,jkn),(7351,uO511),(7352,jkm),(7353,jkl),(7354,jf2),(7355,jf1),(7356,jf0),(7357,uO75),(7358,uO71),(7359,jfz),(7360,jcb),(7361,jhg),(7362,jmR),(7363,uO71),(7364,jfy),(7365,uO71),(7366,jfx),(7367,uO71),(7368,jfw),(7369,jfv),(7370,jfu),(7371,uO63),(7372,jft),(7373,uO63),(7374,jfs),(7388,jfr),(7403,jfq),(7404,uO89),(7405,jn9),(7425,uO14),(7427,jfp),(7447,uO92),(7448,uO24),(7451,jfJ),(7452,joo),(7453,jkv),(8626,jnP)]
def jnu:St:=⟨[(1,(.i 0)),(2,(ptA 7452)),(4,(ptA 7453)),(6,(.i 0)),(10,(.slice (some (8626,0)) 1 (.grow 2))),(11,(.slice none 0 (.fix 0))),(12,(.i 1))],8627,uM514⟩
def jlv:Am.Obj := .cells [.i 1,.i 0,ptA 7322,.bool true,.bool false,.int .u64 1,.int .u64 0,.i 2,.i 0,ptA 7324,.bool true,.bool false,.int .u64 1,.int .u64 1,.bool false,.i 0,.slice none 0 (.fix 0)] false
def jlu:Am.Obj := .cells [.slice (some (7321,0)) 8 (.fix 8),.i 2,.i 0,.int .u64 2,.int .u64 2,.bool true] false
def jlt:Am.Obj := .cells [.slice (some (7323,0)) 8 (.fix 8),.i 0,.i 1,.int .u64 1,.int .u64 0,.bool true] false
def jls:Am.Obj := .cells ([.i 2]++rpL 38 [.i 0,.i 0,.i 0,.i 0,.i 0]++[.i 0,.bool true]) false
def jlr:Am.Obj := .cells ([.slice (some (8646,0)) 0 (.grow 3)]++rpL 7 [.slice none 0 (.fix 0)]) false
def jlq:Am.Obj := .cells ([.map (some 7361),.slice (some (8684,0)) 0 (.grow 1)]++rpL 63 [.slice none 0 (.fix 0),.slice none 0 (.fix 0)]++[.slice none 0 (.fix 0)]) false
def jon:Am.Obj := .cells [ptA 7317,.iface 138 (ptA 7356),ptA 7350,ptA 7369,.map (some 7403),.slice (some (7404,0)) 2 (.fix 2),.slice (some (8727,0)) 4 (.grow 7),.bool false,.bool false] false
def jom:Am.Obj := .cells [.i 1,.int .u64 0,.i 0,.i 0,.i 1,.i 0,.slice none 0 (.fix 0),.i 2,.int .u64 3,.i 1,.i 2,.i 0,.i 0,.slice none 0 (.fix 0),.i 3,.int .u64 3,.i 1,.i 0,.i 2,.i 113,.slice (some (8705,0)) 2 (.grow 1),.i 3,.int .u64 3,.i 1,.i 0,.i 3,.i 0,.slice (some (8724,0)) 1 (.grow 1)] false
def uM525:List (Nat × Am.Obj):=[(3401,jaI),(3738,jan),(3740,jaO),(3742,uO11),(3744,jak),(3890,jao),(3891,jaN),(3893,uO10),(3894,uO11),(3895,jaY),(3896,jaX),(3897,uO14),(3898,jaW),(3899,jaV),(3900,uO17),(3901,ja2),(3902,uO24),(3903,jcT),(4231,jan),(4233,jbd),(4235,uO11),(4237,jak),(4383,jao),(4384,jbc),(7297,ja2),(7298,uO58),(7315,jix),(7316,uO60),(7317,jko),(7320,jlv),(7321,jcc),(7322,jlu),(7323,jcy),(7324,jlt),(7345,jf4),(7347,uO11),(7349,jf3),(7350,jkn),(7351,jls),(7352,jkm),(7353,jkl),(7354,jf2),(7355,jf1),(7356,jf0),(7357,jlr),(7358,jba),(7359,jfz),(7360,jcb),(7361,jba),(7362,jlq),(7363,uO71),(7364,jfy),(7365,uO71),(7366,jfx),(7367,uO71),(7368,jfw),(7369,jfv),(7370,jfu),(7371,uO63),(7372,jft),(7373,uO63),(7374,jfs),(7388,jfr),(7403,jfq),(7404,uO89),(7405,jon),(7425,uO14),(7427,jfp),(7448,uO24),(7453,jnO),(8646,jcx),(8684,jcw),(8705,uO11),(8724,jak),(8727,jom)]
def jnt:St:=⟨[(4,(ptA 7453)),(5,(.i (-1))),(6,(.i 0))],8728,uM525⟩
def jfK:List (Nat × Am.Obj):=[(3401,jaI),(3738,jan),(3740,jaO),(3742,uO11),(3744,jak),(3890,jao),(3891,jaN),(3893,uO10),(3894,uO11),(3895,jaY),(3896,jaX),(3897,uO14),(3898,jaW),(3899,jaV),(3900,uO17),(3901,ja2),(3902,uO24),(3903,jcT),(4231,jan),(4233,jbd),(4235,uO11),(4237,jak),(4383,jao),(4384,jbc),(7297,ja2),(7298,uO58),(7315,jix),(7316,uO60),(7317,jko),(7320,jlv),(7321,jcc),(7322,jlu),(7323,jcy),(7324,jlt),(7345,jf4),(7347,uO11),(7349,jf3),(7350,jkn),(7351,jls),(7352,jkm),(7353,jkl),(7354,jf2),(7355,jf1),(7356,jf0),(7357,jlr),(7358,jba),(7359,jfz),(7360,jcb),(7361,jba),(7362,jlq),(7363,uO71),(7364,jfy),(7365,uO71),(7366,jfx),(7367,uO71),(7368,jfw),(7369,jfv),(7370,jfu),(7371,uO63),(7372,jft),(7373,uO63),(7374,jfs),(7388,jfr),(7403,jfq),(7404,uO89),(7405,jon),(7425,uO14),(7427,jfp),(7448,uO24),(8646,jcx),(8684,jcw),(8705,uO11),(8724,jak),(8727,jom)]
def jm8:St:=⟨[(58,(.tup [(.bool true),(.i (-1)),(.i 0)])),(57,(.i 0)),(56,(ptA 7405)),(0,(ptA 7405)),(1,(.i 0)),(2,(.i 9)),(8,(.i 1))],8728,jfK⟩
def uS530:St:=⟨[(11,(.i 0)),(10,(.i (-1))),(9,(.bool true)),(61,(.i 0)),(60,(.i (-1))),(59,(.bool true)),(55,(.tup [(.bool true),(.i (-1)),(.i 0)])),(58,(.tup [(.bool true),(.i (-1)),(.i 0)])),(57,(.i 0)),(56,(ptA 7405)),(0,(ptA 7405)),(1,(.i 0)),(2,(.i 9)),(8,(.i 1))],8728,jfK⟩
def jm7:St:=⟨[(0,(ptA 7405)),(1,(.i 0)),(2,(.i 9)),(8,(.i 1)),(10,(.i (-1))),(11,(.i 0))],8728,jfK⟩
def jih:St:=⟨[(0,(ptA 7405)),(1,(.i 0)),(2,(.i 9)),(8,(.i 1)),(10,(.i (-1))),(11,(.i 0)),(63,(.bool false))],8728,jfK⟩
def jgS:St:=⟨[(0,(ptA 7405)),(1,(.i 0)),(2,(.i 9)),(8,(.i 2))],8728,jfK⟩
def jig:St:=⟨[(6,(.i 1)),(7,(.i 0))],8731,jfK⟩
def jm6:St:=⟨[(29,(.tup [(.i 1),(.i 0)])),(28,(.i 9)),(27,(.i 0)),(26,(ptA 7405)),(0,(ptA 7405)),(1,(.i 0)),(2,(.i 9)),(13,(.bool false))],8731,jfK⟩
def uS541:St:=⟨[(9,(.i 0)),(8,(.i 1)),(31,(.i 0)),(30,(.i 1)),(25,(.tup [(.i 1),(.i 0)])),(29,(.tup [(.i 1),(.i 0)])),(28,(.i 9)),(27,(.i 0)),(26,(ptA 7405)),(0,(ptA 7405)),(1,(.i 0)),(2,(.i 9)),(13,(.bool false))],8731,jfK⟩
def jm5:St:=⟨[(0,(ptA 7405)),(8,(.i 1)),(9,(.i 0))],8731,jfK⟩
def jol:Am.Obj := .cells [ptA 7317,.iface 138 (ptA 7356),ptA 7350,ptA 7369,.map (some 7403),.slice (some (7404,0)) 2 (.fix 2),.slice (some (8733,0)) 5 (.grow 7),.bool false,.bool false] false
def jok:Am.Obj := .cells [.i 1,.int .u64 0,.i 0,.i 0,.i 1,.i 0,.slice none 0 (.fix 0),.i 2,.int .u64 3,.i 1,.i 2,.i 0,.i 0,.slice none 0 (.fix 0),.i 3,.int .u64 3,.i 1,.i 0,.i 2,.i 113,.slice (some (8705,0)) 2 (.grow 1),.i 3,.int .u64 3,.i 1,.i 0,.i 3,.i 0,.slice (some (8724,0)) 1 (.grow 1),.i 4,.int .u64 3,.i 0,.i 0,.i 1,.i 0,.slice none 0 (.fix 0)] false
def jmW:List (Nat × Am.Obj):=[(3401,jaI),(3738,jan),(3740,jaO),(3742,uO11),(3744,jak),(3890,jao),(3891,jaN),(3893,uO10),(3894,uO11),(3895,jaY),(3896,jaX),(3897,uO14),(3898,jaW),(3899,jaV),(3900,uO17),(3901,ja2),(3902,uO24),(3903,jcT),(4231,jan),(4233,jbd),(4235,uO11),(4237,jak),(4383,jao),(4384,jbc),(7297,ja2),(7298,uO58),(7315,jix),(7316,uO60),(7317,jko),(7320,jlv),(7321,jcc),(7322,jlu),(7323,jcy),(7324,jlt),(7345,jf4),(7347,uO11),(7349,jf3),(7350,jkn),(7351,jls),(7352,jkm),(7353,jkl),(7354,jf2),(7355,jf1),(7356,jf0),(7357,jlr),(7358,jba),(7359,jfz),(7360,jcb),(7361,jba),(7362,jlq),(7363,uO71),(7364,jfy),(7365,uO71),(7366,jfx),(7367,uO71),(7368,jfw),(7369,jfv),(7370,jfu),(7371,uO63),(7372,jft),(7373,uO63),(7374,jfs),(7388,jfr),(7403,jfq),(7404,uO89),(7405,jol),(7425,uO14),(7427,jfp),(7448,uO24),(8646,jcx),(8684,jcw),(8705,uO11),(8724,jak),(8733,jok)]
def jns:St:=⟨[(6,(.i 1)),(7,(.i 0))],8734,jmW⟩
def jm4:St:=⟨[(130,(.tup [(.i 1),(.i 0)])),(129,(.i 9)),(128,(.ptr (some (7297,4)))),(127,(.i 0)),(126,(ptA 7405)),(3,(ptA 7297)),(6,(ptA 7298)),(9,(ptA 7315)),(10,(.clo 22 [(ptA 7315)])),(11,(ptA 7317)),(18,(ptA 7405)),(22,(.i 0)),(119,(.slice (some (3900,0)) 2 (.fix 2))),(120,(.i 2)),(121,(.i 0))],8734,jmW⟩
def uS550:St:=⟨[(24,(.i 0)),(23,(.i 1)),(132,(.i 0)),(131,(.i 1)),(125,(.tup [(.i 1),(.i 0)])),(130,(.tup [(.i 1),(.i 0)])),(129,(.i 9)),(128,(.ptr (some (7297,4)))),(127,(.i 0)),(126,(ptA 7405)),(3,(ptA 7297)),(6,(ptA 7298)),(9,(ptA 7315)),(10,(.clo 22 [(ptA 7315)])),(11,(ptA 7317)),(18,(ptA 7405)),(22,(.i 0)),(119,(.slice (some (3900,0)) 2 (.fix 2))),(120,(.i 2)),(121,(.i 0))],8734,jmW⟩
def jm3:St:=⟨[(3,(ptA 7297)),(6,(ptA 7298)),(9,(ptA 7315)),(10,(.clo 22 [(ptA 7315)])),(11,(ptA 7317)),(18,(ptA 7405)),(23,(.i 1)),(24,(.i 0)),(119,(.slice (some (3900,0)) 2 (.fix 2))),(120,(.i 2)),(121,(.i 0))],8734,jmW⟩
def uO553:Am.Obj := .cells ([.slice (some (8735,0)) 6 (.grow 1)]++rpL 2 [.slice none 0 (.fix 0)]) false
def jo4:List (Nat × Am.Obj):=[(3401,jaI),(3738,jan),(3740,jaO),(3742,uO11),(3744,jak),(3890,jao),(3891,jaN),(3893,uO10),(3894,uO11),(3895,jaY),(3896,jaX),(3897,uO14),(3898,jaW),(3899,jaV),(3900,uO17),(3901,ja2),(3902,uO24),(3903,jcT),(4231,jan),(4233,jbd),(4235,uO11),(4237,jak),(4383,jao),(4384,jbc),(7297,ja2),(7298,uO58),(7315,uO553),(7316,uO60),(7317,jko),(7320,jlv),(7321,jcc),(7322,jlu),(7323,jcy),(7324,jlt),(7345,jf4),(7347,uO11),(7349,jf3),(7350,jkn),(7351,jls),(7352,jkm),(7353,jkl),(7354,jf2),(7355,jf1),(7356,jf0),(7357,jlr),(7358,jba),(7359,jfz),(7360,jcb),(7361,jba),(7362,jlq),(7363,uO71),(7364,jfy),(7365,uO71),(7366,jfx),(7367,uO71),(7368,jfw),(7369,jfv),(7370,jfu),(7371,uO63),(7372,jft),(7373,uO63),(7374,jfs),(7388,jfr),(7403,jfq),(7404,uO89),(7405,jol),(7425,uO14),(7427,jfp),(8646,jcx),(8684,jcw),(8705,uO11),(8724,jak),(8733,jok),(8735,jnN)]
def jif:St:=⟨[(3,(ptA 7297)),(6,(ptA 7298)),(9,(ptA 7315)),(10,(.clo 22 [(ptA 7315)])),(11,(ptA 7317)),(18,(ptA 7405)),(119,(.slice (some (3900,0)) 2 (.fix 2))),(120,(.i 2)),(121,(.i 0))],8736,jo4⟩
def jgR:St:=⟨[(3,(ptA 7297)),(6,(ptA 7298)),(9,(ptA 7315)),(10,(.clo 22 [(ptA 7315)])),(11,(ptA 7317)),(18,(ptA 7405)),(119,(.slice (some (3900,0)) 2 (.fix 2))),(120,(.i 2)),(121,(.i 1))],8736,jo4⟩
def uO560:Am.Obj := .cells ([.slice (some (8743,0)) 8 (.grow 1)]++rpL 2 [.slice none 0 (.fix 0)]) false
def uO561:Am.Obj := .cells [ptA 7317,.iface 138 (ptA 7356),ptA 7350,ptA 7369,.map (some 7403),.slice (some (7404,0)) 2 (.fix 2),.slice (some (8741,0)) 6 (.grow 7),.bool false,.bool false] false
def uO562:Am.Obj := .cells ([.i 1,.int .u64 0,.i 0,.i 0,.i 1,.i 0,.slice none 0 (.fix 0),.i 2,.int .u64 3,.i 1,.i 2,.i 0,.i 0,.slice none 0 (.fix 0),.i 3,.int .u64 3,.i 1,.i 0,.i 2,.i 113,.slice (some (8705,0)) 2 (.grow 1),.i 3,.int .u64 3,.i 1,.i 0,.i 3,.i 0,.slice (some (8724,0)) 1 (.grow 1)]++rpL 2 [.i 4,.int .u64 3,.i 0,.i 0,.i 1,.i 0,.slice none 0 (.fix 0)]) false
def jo3:List (Nat × Am.Obj):=[(3401,jaI),(3738,jan),(3740,jaO),(3742,uO11),(3744,jak),(3890,jao),(3891,jaN),(3893,uO10),(3894,uO11),(3895,jaY),(3896,jaX),(3897,uO14),(3898,jaW),(3899,jaV),(3900,uO17),(3901,ja2),(3902,uO24),(3903,jcT),(4231,jan),(4233,jbd),(4235,uO11),(4237,jak),(4383,jao),(4384,jbc),(7297,ja2),(7298,uO58),(7315,uO560),(7316,uO60),(7317,jko),(7320,jlv),(7321,jcc),(7322,jlu),(7323,jcy),(7324,jlt),(7345,jf4),(7347,uO11),(7349,jf3),(7350,jkn),(7351,jls),(7352,jkm),(7353,jkl),(7354,jf2),(7355,jf1),(7356,jf0),(7357,jlr),(7358,jba),(7359,jfz),(7360,jcb),(7361,jba),(7362,jlq),(7363,uO71),(7364,jfy),(7365,uO71),(7366,jfx),(7367,uO71),(7368,jfw),(7369,jfv),(7370,jfu),(7371,uO63),(7372,jft),(7373,uO63),(7374,jfs),(7388,jfr),(7403,jfq),(7404,uO89),(7405,uO561),(7425,uO14),(7427,jfp),(8646,jcx),(8684,jcw),(8705,uO11),(8724,jak),(8741,uO562),(8743,jan)]
def jgQ:St:=⟨[(3,(ptA 7297)),(6,(ptA 7298)),(9,(ptA 7315)),(10,(.clo 22 [(ptA 7315)])),(11,(ptA 7317)),(18,(ptA 7405)),(119,(.slice (some (3900,0)) 2 (.fix 2))),(120,(.i 2)),(121,(.i 2))],8744,jo3⟩
def jie:St:=⟨[(3,(ptA 7297)),(6,(ptA 7298)),(9,(ptA 7315)),(10,(.clo 22 [(ptA 7315)])),(11,(ptA 7317)),(18,(ptA 7405)),(119,(.slice (some (3900,0)) 2 (.fix 2))),(120,(.i 2)),(121,(.i 2)),(122,(.bool false))],8744,jo3⟩
def joj:Am.Obj := .cells [.slice (some (8743,0)) 8 (.grow 1),.slice (some (8745,0)) 6 (.grow 7),.slice (some (8895,0)) 7 (.grow 1)] false
def jn8:Am.Obj := .cells ([.i 1,.int .u64 0,.i 0,.i 0,.i 1,.i 0,.slice none 0 (.fix 0),.i 2,.int .u64 3,.i 1,.i 2,.i 0,.i 0,.slice none 0 (.fix 0),.i 3,.int .u64 3,.i 1,.i 0,.i 2,.i 113,.slice (some (8747,0)) 2 (.grow 1),.i 3,.int .u64 3,.i 1,.i 0,.i 3,.i 0,.slice (some (8749,0)) 1 (.grow 1)]++rpL 2 [.i 4,.int .u64 3,.i 0,.i 0,.i 1,.i 0,.slice none 0 (.fix 0)]) false
def uM571:List (Nat × Am.Obj):=[(3401,jaI),(3738,jan),(3740,jaO),(3742,uO11),(3744,jak),(3890,jao),(3891,jaN),(3893,uO10),(3894,uO11),(3895,jaY),(3896,jaX),(3897,uO14),(3898,jaW),(3899,jaV),(3900,uO17),(3901,ja2),(3902,uO24),(3903,jcT),(4231,jan),(4233,jbd),(4235,uO11),(4237,jak),(4383,jao),(4384,jbc),(7298,joj),(8743,jan),(8745,jn8),(8747,uO11),(8749,jak),(8895,jao)]
def jnr:St:=⟨[(6,(ptA 7298)),(7,(.i 0))],8896,uM571⟩
def uM574:List (Nat × Am.Obj):=[(3401,jaI),(3738,jan),(3740,jaO),(3742,uO11),(3744,jak),(3890,jao),(3891,jaN),(3893,uO10),(3894,uO11),(3895,jaY),(3896,jaX),(3897,uO14),(3898,jaW),(3899,jaV),(3900,uO17),(3901,ja2),(3902,uO24),(3903,jcT),(4231,jan),(4233,jbd),(4235,uO11),(4237,jak),(4383,jao),(4384,jbc),(8743,jan),(8745,jn8),(8747,uO11),(8749,jak),(8895,jao)]
def jm2:St:=⟨[(30,(.tup [(.agg [(.slice (some (8743,0)) 8 (.grow 1)),(.slice (some (8745,0)) 6 (.grow 7)),(.slice (some (8895,0)) 7 (.grow 1))]),(.i 0)])),(29,(.i 1)),(28,(.i 4)),(27,(.i 3)),(26,(.agg [(.slice (some (3893,0)) 1 (.fix 1)),(.slice (some (3896,0)) 1 (.fix 1)),(.slice (some (3899,0)) 1 (.fix 1)),(.slice (some (3900,0)) 2 (.fix 2)),(.i 9)])),(1,(.i 1)),(2,(ptA 3901)),(4,(ptA 3902)),(6,(ptA 3903)),(7,(ptA 4384)),(9,(.i 3)),(22,(.i 3))],8896,uM574⟩
def jo2:List (Nat × Am.Obj):=[(3401,jaI),(3738,jan),(3740,jaO),(3742,uO11),(3744,jak),(3890,jao),(3891,jaN),(3893,uO10),(3894,uO11),(3895,jaY),(3896,jaX),(3897,uO14),(3898,jaW),(3899,jaV),(3900,uO17),(3901,ja2),(3902,uO24),(3903,jcT),(4231,jan),(4233,jbd),(4235,uO11),(4237,jak),(4383,jao),(4384,jbc),(8743,jan),(8745,jn8),(8747,uO11),(8749,jak),(8895,jao),(8896,joj)]
def uS577:St:=⟨[(11,(.i 0)),(10,(ptA 8896)),(32,(.i 0)),(31,(.agg [(.slice (some (8743,0)) 8 (.grow 1)),(.slice (some (8745,0)) 6 (.grow 7)),(.slice (some (8895,0)) 7 (.grow 1))])),(25,(.tup [(.agg [(.slice (some (8743,0)) 8 (.grow 1)),(.slice (some (8745,0)) 6 (.grow 7)),(.slice (some (8895,0)) 7 (.grow 1))]),(.i 0)])),(30,(.tup [(.agg [(.slice (some (8743,0)) 8 (.grow 1)),(.slice (some (8745,0)) 6 (.grow 7)),(.slice (some (8895,0)) 7 (.grow 1))]),(.i 0)])),(29,(.i 1)),(28,(.i 4)),(27,(.i 3)),(26,(.agg [(.slice (some (3893,0)) 1 (.fix 1)),(.slice (some (3896,0)) 1 (.fix 1)),(.slice (some (3899,0)) 1 (.fix 1)),(.slice (some (3900,0)) 2 (.fix 2)),(.i 9)])),(1,(.i 1)),(2,(ptA 3901)),(4,(ptA 3902)),(6,(ptA 3903)),(7,(ptA 4384)),(9,(.i 3)),(22,(.i 3))],8897,jo2⟩
def jm1:St:=⟨[(1,(.i 1)),(2,(ptA 3901)),(4,(ptA 3902)),(6,(ptA 3903)),(7,(ptA 4384)),(9,(.i 3)),(10,(ptA 8896)),(22,(.i 3))],8897,jo2⟩
def jn7:Am.Obj := .cells (rpL 4 [.i (-1)]) false
def jnR:List (Nat × Am.Obj):=[(3401,jaI),(3738,jan),(3740,jaO),(3742,uO11),(3744,jak),(3890,jao),(3891,jaN),(3893,uO10),(3894,uO11),(3895,jaY),(3896,jaX),(3897,uO14),(3898,jaW),(3899,jaV),(3900,uO17),(3901,ja2),(3902,uO24),(3903,jn7),(4231,jan),(4233,jbd),(4235,uO11),(4237,jak),(4383,jao),(4384,jbc)]
def jid:St:=⟨[(1,(.i 1)),(2,(ptA 3901)),(4,(ptA 3902)),(6,(ptA 3903)),(7,(ptA 4384)),(9,(.i 3)),(22,(.i 3)),(59,(.bool false))],8915,jnR⟩
def jgP:St:=⟨[(1,(.i 1)),(2,(ptA 3901)),(4,(ptA 3902)),(6,(ptA 3903)),(7,(ptA 4384)),(22,(.i 4))],8915,jnR⟩
def jic:St:=⟨[(1,(.i 1)),(2,(ptA 3901)),(4,(ptA 3902)),(6,(ptA 3903)),(7,(ptA 4384)),(22,(.i 4)),(23,(.bool false))],8915,jnR⟩
def uM589:List (Nat × Am.Obj):=[(3401,jaI),(3738,jan),(3740,jaO),(3742,uO11),(3744,jak),(3890,jao),(3891,jaN),(3893,uO10),(3894,uO11),(3895,jaY),(3896,jaX),(3897,uO14),(3898,jaW),(3899,jaV),(3900,uO17),(3902,jn7)]
def jnq:St:=⟨[(4,(ptA 3902)),(5,(.i 0))],8915,uM589⟩
def jm0:St:=⟨[(12,(.tup [(.agg [(.i (-1)),(.i (-1)),(.i (-1)),(.i (-1))]),(.i 0)])),(11,(.agg [(.slice (some (3893,0)) 1 (.fix 1)),(.slice (some (3896,0)) 1 (.fix 1)),(.slice (some (3899,0)) 1 (.fix 1)),(.slice (some (3900,0)) 2 (.fix 2)),(.i 9)])),(1,(ptA 3891)),(2,(.i 0))],8915,jnU⟩
def jo1:List (Nat × Am.Obj):=[(3401,jaI),(3738,jan),(3740,jaO),(3742,uO11),(3744,jak),(3890,jao),(3891,jaN),(8915,jn7)]
def uS594:St:=⟨[(4,(.i 0)),(3,(ptA 8915)),(14,(.i 0)),(13,(.agg [(.i (-1)),(.i (-1)),(.i (-1)),(.i (-1))])),(10,(.tup [(.agg [(.i (-1)),(.i (-1)),(.i (-1)),(.i (-1))]),(.i 0)])),(12,(.tup [(.agg [(.i (-1)),(.i (-1)),(.i (-1)),(.i (-1))]),(.i 0)])),(11,(.agg [(.slice (some (3893,0)) 1 (.fix 1)),(.slice (some (3896,0)) 1 (.fix 1)),(.slice (some (3899,0)) 1 (.fix 1)),(.slice (some (3900,0)) 2 (.fix 2)),(.i 9)])),(1,(ptA 3891)),(2,(.i 0))],8916,jo1⟩
def jmz:St:=⟨[(1,(ptA 3891)),(2,(.i 0)),(3,(ptA 8915)),(4,(.i 0))],8916,jo1⟩
def jnp:St:=⟨[(0,(.bool true))],8917,jlA⟩
def jmy:St:=⟨[(235,(.bool true)),(234,(.bool true)),(3,(.bool true)),(18,(.bool true)),(33,(.bool true)),(34,(.ptr none)),(35,(ptA 3401)),(39,(.i 1))],8917,jlA⟩
def uS600:St:=⟨[(0,(.bool true)),(262,(.bool true)),(261,(.bool true)),(260,(.i 0)),(259,(.bool true)),(258,(.bool true)),(257,(.bool true)),(256,(.i 1)),(255,(.ptr none)),(254,(.bool true)),(253,(.bool true)),(252,(.bool true)),(251,(.i 1)),(250,(.bool true)),(249,(.bool true)),(248,(.bool true)),(247,(.i 1)),(246,(.bool true)),(245,(.bool true)),(244,(.bool true)),(243,(.bool true)),(242,(.bool true)),(241,(.bool true)),(240,(.bool true)),(239,(.bool true)),(238,(.bool true)),(237,(.bool true)),(236,(.bool true)),(235,(.bool true)),(234,(.bool true)),(3,(.bool true)),(18,(.bool true)),(33,(.bool true)),(34,(.ptr none)),(35,(ptA 3401)),(39,(.i 1))],8917,uM6⟩
def jgO:St:=⟨[(0,(.bool true))],8917,uM6⟩
end Am.Sigs
