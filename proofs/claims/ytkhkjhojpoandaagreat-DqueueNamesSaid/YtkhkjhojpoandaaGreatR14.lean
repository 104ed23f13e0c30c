/- Our own library, part 14. -/
import Derived.KernelRfl
import Derived.Test.YtkhkjhojpoandaaGreatR11
import Derived.Test.YtkhkjhojpoandaaGreatR10
import Derived.Test.YtkhkjhojpoandaaGreatR13
import Derived.Test.YtkhkjhojpoandaaGreatR01
set_option maxHeartbeats 8000000
set_option maxRecDepth 800
set_option linter.all false
namespace Am.Sigs
open Am Go
abbrev fuel:Nat:=100000
def Sem (cl:Nat->Call):Prop:=(∀ d,cl d=jaw prog fuel d) \/ ∀ d,cl d=jaw jbb fuel d
theorem jeP {f g:Nat} {p:Prim} {l:List (Nat × Prim)} (h:ja7 ((g,p) :: l) f=none):ja7 l f=none:=by
 simp only [ja7] at h
 revert h
 generalize Nat.beq _ f=b
 cases b with
 | true=>intro h;cases h
 | false=>exact fun h=>h
theorem primT {f:Nat} (h:ja7 prog.prims f=none):ja7 jbb.prims f=none:=jeP (jeP (h))
theorem at_ {cl:Nat->Call} (hcl:Sem cl) {d f:Nat} {fn:AFn} {args:List V} {h:H} {R:V->H->Prop} (hd:0<d) (hp:ja7 prog.prims f=none) (hf:ja7 prog.fns f=some fn) (hl:(args.length == fn.np)=true)
  (k:Run (cl (d-1)) fuel fn.body [] (Env.ofArgs args 0) h (Fin fn.res R)) : ∃ v h',cl d (.fn f) args h=some (v,h')/\R v h':=by
 rcases hcl with hcl | hcl
 ·rw [hcl d];rw [hcl (d-1)] at k;exact jgF hd hp hf hl k
 ·rw [hcl d];rw [hcl (d-1)] at k;exact jgF hd (primT hp) hf hl k
def isS:Option Obj->Nat
 | some _=>1
 | none=>0
def up:Nat->Nat
 | 0=>0
 | n+1=>2*n+3
def ttop:T->Nat
 | .lf=>0
 | .nd v l r=>Nat.max (isS v) (Nat.max (2*(ttop l)) (up (ttop r)))
theorem aT {cl:Nat->Call} (hcl:Sem cl) {d f:Nat} {fn:AFn} {args:List V} {h:H} {R:V->H->Prop} (k:Run (cl (d-1)) fuel fn.body [] (Env.ofArgs args 0) h (Fin fn.res R)) (hd:0<d:=by omega) (hp:ja7 prog.prims f=none:=by exact rfl) (hf:ja7 prog.fns f=some fn:=by exact rfl) (hl:(args.length==fn.np)=true:=by exact rfl):∃ v h',cl d (.fn f) args h=some (v,h') /\ R v h':=at_ hcl hd hp hf hl k
theorem jga : ∀ (t:T) (k:Nat),(ttop t)<=k->t.get k=none
 | .lf,_,_=>rfl
 | .nd v l r,k,h=>by
  have h1:Nat.max (isS v) (Nat.max (2*(ttop l)) (up (ttop r)))<=k:=h
  have a1:=zu (Nat.le_max_left _ _) h1
  have a2:=zu (Nat.le_max_left _ _) (zu (Nat.le_max_right _ _) h1)
  have a3:=zu (Nat.le_max_right _ _) (zu (Nat.le_max_right _ _) h1)
  rw [T.get_nd]
  by_cases k0:k=0
  ·subst k0
   rw [zg rfl]
   cases v with
   | none=>rfl
   | some _=>simp [isS] at a1
  ·rw [zb k0]
   by_cases ko:k%2=1
   ·rw [zg ko];exact jga l _ om
   ·rw [zb ko]
    refine jga r _ ?_
    cases e:(ttop r) with
    | zero=>omega
    | succ n=>rw [e] at a3;simp [up] at a3;omega
end Am.Sigs
namespace Am
open Go
noncomputable def jhY (n:Nat) (f:Nat->Option V):Option V:=Nat.rec (f 0) (fun k _=>f (Nat.succ k)) n
theorem jfn (n:Nat) (f:Nat->Option V):jhY n f=f n:=by cases n<;>rfl
noncomputable def jbA (k:IntKind) (n:Int):Option V:=Int.rec (fun m=>jhY m fun m=>some (.int k (.ofNat m))) (fun m=>jhY m fun m=>some (.int k (.negSucc m))) n
theorem ja3 (k:IntKind) (n:Int):jbA k n=some (.int k n):=by
 cases n with
 | ofNat m=>unfold jbA;exact jfn m _
 | negSucc m=>unfold jbA;exact jfn m _
noncomputable def maxN:IntKind->Nat
 | .i8=>127 | .i16=>32767 | .i32=>2147483647 | .i64=>9223372036854775807
 | .u8=>255 | .u16=>65535 | .u32=>4294967295 | .u64=>18446744073709551615
noncomputable def minN:IntKind->Nat
 | .i8=>128 | .i16=>32768 | .i32=>2147483648 | .i64=>9223372036854775808
 | _=>0
noncomputable def jcL (k:IntKind) (n:Int):Int:=Int.rec (fun m=>bif Nat.ble m (maxN k) then n else k.wrap n) (fun m=>bif Nat.blt m (minN k) then n else k.wrap n) n
theorem jaD (k:IntKind) (n:Int):jcL k n=k.wrap n:=by
 cases n with
 | ofNat m=>
  show (bif Nat.ble m (maxN k) then (Int.ofNat m) else k.wrap (Int.ofNat m))=_
  cases e:Nat.ble m (maxN k)
  ·rfl
  ·have h:=zp e
   have h0:Int.ofNat m=(m:Int):=rfl
   cases k<;>simp only [maxN] at h<;>simp only [cond_true,IntKind.wrap,IntKind.bits,IntKind.signed,h0]<;>(try simp only [Bool.false_and,Bool.true_and,zq,zA,if_false])<;>(first | omega | (split<;>omega))
 | negSucc m=>
  show (bif Nat.blt m (minN k) then (Int.negSucc m) else k.wrap (Int.negSucc m))=_
  cases e:Nat.blt m (minN k)
  ·rfl
  ·have h:m<minN k:=zp e
   have h0:Int.negSucc m = -(m:Int)-1:=by omega
   cases k<;>simp only [minN] at h<;>(try omega)<;>simp only [cond_true,IntKind.wrap,IntKind.bits,IntKind.signed,h0]<;>(try simp only [Bool.true_and,zq])<;>(split<;>omega)
noncomputable def ltF:Int->Int->Bool
 | .ofNat a,.ofNat b=>Nat.blt a b
 | .ofNat _,.negSucc _=>false
 | .negSucc _,.ofNat _=>true
 | .negSucc a,.negSucc b=>Nat.blt b a
theorem jii (a b:Nat):Nat.blt a b=decide (a<b):=by
 by_cases h:a<b
 ·rw [decide_eq_true h];exact Nat.ble_eq_true_of_le h
 ·rw [decide_eq_false h]
  cases e:Nat.blt a b
  ·rfl
  ·exact zw (zp e) h
theorem jg1 (a b:Int):ltF a b=decide (a<b):=by
 cases a with
 | ofNat a=>cases b with
  | ofNat b=>simp only [ltF,jii];exact decide_eq_decide.2 (show a<b↔((a:Nat):Int)<((b:Nat):Int) by omega)
  | negSucc b=>simp only [ltF];symm;rw [decide_eq_false_iff_not];show ¬ ((a:Nat):Int)<Int.negSucc b;omega
 | negSucc a=>cases b with
  | ofNat b=>simp only [ltF];symm;rw [zq];show Int.negSucc a<((b:Nat):Int);omega
  | negSucc b=>simp only [ltF,jii];exact decide_eq_decide.2 om
noncomputable def eqF:Int->Int->Bool
 | .ofNat a,.ofNat b=>Nat.beq a b
 | .negSucc a,.negSucc b=>Nat.beq a b
 | _,_=>false
theorem jg7 (a b:Int):eqF a b=(a == b):=by
 cases a with
 | ofNat a=>cases b with
  | ofNat b=>
   simp only [eqF]
   by_cases h:a=b
   ·subst h;simp
   ·have h2:(Int.ofNat a == Int.ofNat b)=false:=by rw [beq_eq_false_iff_ne];intro e;exact h (by injection e)
    rw [h2]
    cases e:Nat.beq a b
    ·rfl
    ·exact zw (Nat.eq_of_beq_eq_true e) h
  | negSucc b=>simp only [eqF];symm;rw [beq_eq_false_iff_ne];intro e;cases e
 | negSucc a=>cases b with
  | ofNat b=>simp only [eqF];symm;rw [beq_eq_false_iff_ne];intro e;cases e
  | negSucc b=>
   simp only [eqF]
   by_cases h:a=b
   ·subst h;simp
   ·have h2:(Int.negSucc a == Int.negSucc b)=false:=by rw [beq_eq_false_iff_ne];intro e;exact h (by injection e)
    rw [h2]
    cases e:Nat.beq a b
    ·rfl
    ·exact zw (Nat.eq_of_beq_eq_true e) h
noncomputable def subF:Int->Int->Int
 | .ofNat a,.ofNat b=>bif Nat.ble b a then .ofNat (Nat.sub a b) else Int.sub (.ofNat a) (.ofNat b)
 | a,b=>Int.sub a b
theorem subF_eq (a b:Int):subF a b=a-b:=by
 cases a with
 | ofNat a=>cases b with
  | ofNat b=>
   show (bif Nat.ble b a then Int.ofNat (Nat.sub a b) else Int.sub (.ofNat a) (.ofNat b))=_
   cases e:Nat.ble b a
   ·rfl
   ·have h:=zp e
    show ((a-b:Nat):Int)=(a:Int)-(b:Int)
    omega
  | negSucc _=>rfl
 | negSucc _=>rfl
noncomputable def ikN:IntKind->Nat
 | .i8=>0 | .i16=>1 | .i32=>2 | .i64=>3 | .u8=>4 | .u16=>5 | .u32=>6 | .u64=>7
noncomputable def ikEq (a b:IntKind):Bool:=Nat.beq (ikN a) (ikN b)
theorem ikEq_eq (a b:IntKind):ikEq a b=(a == b):=by cases a<;>cases b<;>rfl
noncomputable def i_add (k:IntKind) (a b:Int):Option V:=jbA k (jcL k (Int.add a b))
noncomputable def i_sub (k:IntKind) (a b:Int):Option V:=jbA k (jcL k (subF a b))
noncomputable def i_mul (k:IntKind) (a b:Int):Option V:=jbA k (jcL k (Int.mul a b))
noncomputable def i_eql (_:IntKind) (a b:Int):Option V:=some (.bool (eqF a b))
noncomputable def i_neq (_:IntKind) (a b:Int):Option V:=some (.bool !(eqF a b))
noncomputable def i_lss (_:IntKind) (a b:Int):Option V:=some (.bool (ltF a b))
noncomputable def i_gtr (_:IntKind) (a b:Int):Option V:=some (.bool (ltF b a))
noncomputable def i_leq (_:IntKind) (a b:Int):Option V:=some (.bool !(ltF b a))
noncomputable def i_geq (_:IntKind) (a b:Int):Option V:=some (.bool !(ltF a b))
noncomputable def jiG (k:IntKind) (a b:Int):Option V:=bif eqF b 0 then none else jbA k (jcL k (a.tdiv b))
noncomputable def jiF (k:IntKind) (a b:Int):Option V:=bif eqF b 0 then none else jbA k (a.tmod b)
noncomputable def toF (k:IntKind):Int->Nat
 | .ofNat a=>Nat.mod a (Nat.pow 2 k.bits)
 | .negSucc a=>Nat.sub (Nat.pow 2 k.bits) (Nat.succ (Nat.mod a (Nat.pow 2 k.bits)))
theorem jc1 (k:IntKind) (a:Int):toF k a=(BitVec.ofInt k.bits a).toNat:=by
 have hp:0<2 ^ k.bits:=Nat.pow_pos (by decide)
 rw [BitVec.toNat_ofInt]
 cases a with
 | ofNat a=>show a%2 ^ k.bits=_;rfl
 | negSucc a=>
  show 2 ^ k.bits-Nat.succ (a%2 ^ k.bits)=_
  have h1:a%2 ^ k.bits<2 ^ k.bits:=Nat.mod_lt _ hp
  have h2:=Nat.div_add_mod a (2 ^ k.bits)
  have h3:Int.negSucc a = -(a:Int)-1:=by omega
  have h4:(Int.negSucc a)%((2 ^ k.bits:Nat):Int)=((2 ^ k.bits-Nat.succ (a%2 ^ k.bits):Nat):Int):=by
   have e:Int.negSucc a=((2 ^ k.bits-Nat.succ (a%2 ^ k.bits):Nat):Int)+((2 ^ k.bits:Nat):Int)*(-((a/2 ^ k.bits:Nat):Int)-1):=by
    rw [h3,Int.mul_sub,Int.mul_neg,Int.mul_one]
    have h5:(a:Int)=((2 ^ k.bits:Nat):Int)*((a/2 ^ k.bits:Nat):Int)+((a%2 ^ k.bits:Nat):Int):=by exact_mod_cast h2.symm
    omega
   rw [e,Int.add_mul_emod_self_left]
   exact Int.emod_eq_of_lt om om
  rw [h4];rfl
noncomputable def i_and (k:IntKind) (a b:Int):Option V:=jbA k (jcL k (.ofNat (Nat.land (toF k a) (toF k b))))
noncomputable def i_or (k:IntKind) (a b:Int):Option V:=jbA k (jcL k (.ofNat (Nat.lor (toF k a) (toF k b))))
noncomputable def i_xor (k:IntKind) (a b:Int):Option V:=jbA k (jcL k (.ofNat (Nat.xor (toF k a) (toF k b))))
noncomputable def i_andNot (k:IntKind) (a b:Int):Option V:=jbA k (jcL k (.ofNat (Nat.land (toF k a) (Nat.sub (Nat.sub (Nat.pow 2 k.bits) 1) (toF k b)))))
noncomputable def minF (a b:Nat):Nat:=bif Nat.ble a b then a else b
noncomputable def jiS (k:IntKind) (a b:Int):Option V:=Int.rec (fun b=>jbA k (jcL k (Int.mul a (.ofNat (Nat.pow 2 (minF b k.bits)))))) (fun _=>none) b
noncomputable def jiR (k:IntKind) (a b:Int):Option V:=Int.rec (fun b=>Int.rec (fun a=>jbA k (.ofNat (Nat.div a (Nat.pow 2 (minF b k.bits))))) (fun a=>jbA k (Int.fdiv (.negSucc a) (2 ^ (Nat.min b k.bits)))) a) (fun _=>none) b
noncomputable def jg4 (op:BinOp):IntKind->Int->Int->Option V :=
 match op with
 | .add=>i_add
 | .sub=>i_sub
 | .mul=>i_mul
 | .quo=>jiG
 | .rem=>jiF
 | .and=>i_and
 | .or=>i_or
 | .xor=>i_xor
 | .andNot=>i_andNot
 | .eql=>i_eql
 | .neq=>i_neq
 | .lss=>i_lss
 | .leq=>i_leq
 | .gtr=>i_gtr
 | .geq=>i_geq
 | .shl=>jiS
 | .shr=>jiR
theorem jdM (a b:Int):(!decide (b<a))=decide (a<=b):=by by_cases h:b<a<;>simp [h]<;>omega
theorem jhJ (a b:Nat):minF a b=Nat.min a b:=by
 unfold minF
 cases e:Nat.ble a b
 ·have : ¬ a<=b:=fun h=>by rw [Nat.ble_eq_true_of_le h] at e;cases e
  simp only [cond_false];exact (Nat.min_eq_right om).symm
 ·exact (Nat.min_eq_left (zp e)).symm
theorem intOpF_eq (op:BinOp) (k:IntKind) (a b:Int):jg4 op k a b=jaA op k a b:=by
 cases op
 case add=>exact (ja3 _ _).trans (by rw [jaD];rfl)
 case sub=>exact (ja3 _ _).trans (by rw [jaD,subF_eq];rfl)
 case mul=>exact (ja3 _ _).trans (by rw [jaD];rfl)
 case quo=>show jiG k a b=_;unfold jiG;rw [jg7,ja3,jaD];rfl
 case rem=>show jiF k a b=_;unfold jiF;rw [jg7,ja3];rfl
 case and=>exact (ja3 _ _).trans (by rw [jaD,jc1,jc1];simp only [jaA,BitVec.toNat_and];rfl)
 case or=>exact (ja3 _ _).trans (by rw [jaD,jc1,jc1];simp only [jaA,BitVec.toNat_or];rfl)
 case xor=>exact (ja3 _ _).trans (by rw [jaD,jc1,jc1];simp only [jaA,BitVec.toNat_xor];rfl)
 case andNot=>exact (ja3 _ _).trans (by rw [jaD,jc1,jc1];simp only [jaA,BitVec.toNat_and,BitVec.toNat_not];rfl)
 case shl=>
  cases b with
  | negSucc b=>simp [jg4,jiS,jaA]
  | ofNat b=>
   refine (ja3 _ _).trans ?_
   have h1:decide ((Int.ofNat b)<0)=false:=by simp
   simp only [jaA,h1,cond_false,jaD,jhJ]
   congr 3
 case shr=>
  cases b with
  | negSucc b=>simp [jg4,jiR,jaA]
  | ofNat b=>
   have h1:decide ((Int.ofNat b)<0)=false:=by simp
   simp only [jaA,h1,cond_false]
   cases a with
   | negSucc a=>exact ja3 _ _
   | ofNat a=>
    show jbA k (.ofNat (Nat.div a (Nat.pow 2 (minF b k.bits))))=_
    rw [ja3,jhJ]
    congr 2
    have h2:((2:Int) ^ (Nat.min b k.bits))=((2 ^ (Nat.min b k.bits):Nat):Int):=(Int.natCast_pow 2 _).symm
    have h3:Int.fdiv (Int.ofNat a) ((2 ^ (Nat.min b k.bits):Nat):Int)=((a/2 ^ (Nat.min b k.bits):Nat):Int):=Int.ofNat_fdiv a _ |>.symm
    show _=Int.fdiv (Int.ofNat a) (2 ^ (Nat.min b k.bits))
    rw [h2,h3];rfl
 case eql=>show some _=some _;rw [jg7]
 case neq=>show some (V.bool !(eqF a b))=_;rw [jg7];rfl
 case lss=>show some (V.bool (ltF a b))=_;rw [jg1];rfl
 case gtr=>show some (V.bool (ltF b a))=_;rw [jg1];rfl
 case leq=>show some (V.bool !(ltF b a))=_;rw [jg1,jdM];rfl
 case geq=>show some (V.bool !(ltF a b))=_;rw [jg1,jdM];rfl
noncomputable def jij (op:BinOp):V->V->Option V
 | .int k a,.int k' b=>bif ja9 op||ikEq k k' then jg4 op k a b else none
 | .str a,.str b=>jit op a b
 | _,_=>none
theorem binOpF_eq (op:BinOp) (a b:V):jij op a b=binOp op a b:=by
 cases a<;>cases b<;>first | rfl | (simp only [jij,binOp,ikEq_eq,intOpF_eq])
noncomputable def getF (e:Env) (s:Nat):Option V:=List.rec (motive:=fun _=>Option V) none (fun p _ ih=>bif Nat.beq p.1 s then some p.2 else ih) e
theorem je1 : ∀ (e:Env) (s:Nat),getF e s=e.get s
 | [],_=>rfl
 | (k,v) :: r,s=>by
  show (bif Nat.beq k s then some v else getF r s)=_
  rw [je1 r s];rfl
noncomputable def evF (x:Opd) (e:Env):Option V:=Opd.rec (fun s=>getF e s) (fun v=>some v) x
theorem jak (x:Opd) (e:Env):evF x e=x.ev e:=by
 cases x
 ·exact je1 _ _
 ·rfl
noncomputable def evsF (e:Env):List Opd->Option (List V)
 | []=>some []
 | x :: r=>match evF x e,evsF e r with
  | some v,some l=>some (v :: l)
  | _,_=>none
theorem jb4 (e:Env) : ∀ l,evsF e l=evs e l
 | []=>rfl
 | x :: r=>by simp only [evsF,evs,jak,jb4 e r];rfl
theorem jiD (a b:Nat):Nat.beq a b=(a == b):=by
 by_cases h:a=b
 ·subst h;simp
 ·rw [show (a == b)=false by simpa using h]
  cases e:Nat.beq a b
  ·rfl
  ·exact zw (Nat.eq_of_beq_eq_true e) h
noncomputable def fin1 (o:Option V) (h:H):Option (V × H):=Option.rec none (fun v=>some (v,h)) o
noncomputable def finA (o:Option (Obj × (Nat->V))) (h:H) (at_:Option Nat):Option (V × H):=match o with
 | some (ob,mk)=>match at_ with
  | none=>some (mk h.nx,h.new ob)
  | some b=>some (mk b,h.set b ob)
 | none=>none
theorem jal (o:Option V) (h:H):fin1 o h=(match o with | some v=>some (v,h) | none=>none):=by cases o<;>rfl
noncomputable def jiN (x:Opd) (e:Env):Option V :=
 match evF x e with
  | some v=>some (v)
  | none=>none
noncomputable def jh9 (c:Opd) (a:Opd) (b:Opd) (e:Env):Option V :=
 match evF c e with
  | some (.bool true)=>match evF a e with
   | some v=>some (v)
   | none=>none
  | some (.bool false)=>match evF b e with
   | some v=>some (v)
   | none=>none
  | _=>none
noncomputable def jgv (zero:List V) (parts:List (Nat × Nat × Opd)) (e:Env):Option V :=
 match jay e parts with
  | some ps=>match jau zero ps with
   | some l=>some (.agg l)
   | none=>none
  | none=>none
noncomputable def jgq (x:Opd) (e:Env):Option V :=
 match evF x e with
  | some (.ptr (some a))=>some (.ptr (some a))
  | some (.clo f c)=>some (.clo f c)
  | some (.yld l)=>some (.yld l)
  | some (.iface t v)=>some (.iface t v)
  | _=>none
noncomputable def jhA (name:String) (x:Opd) (e:Env):Option V :=
 match evF x e with
  | some (.iface t v)=>some (.bm name t v)
  | _=>none
noncomputable def ji3 (op:BinOp) (x:Opd) (y:Opd) (e:Env):Option V :=
 match evF x e,evF y e with
  | some a,some b=>match jij op a b with
   | some v=>some (v)
   | none=>none
  | _,_=>none
noncomputable def jiO (k:EK) (neg:Bool) (x:Opd) (y:Opd) (e:Env):Option V :=
 match evF x e,evF y e with
  | some a,some b=>match eqOp k a b with
   | some r=>some (.bool (bif neg then !r else r))
   | none=>none
  | _,_=>none
noncomputable def jiM (op:UnOp) (x:Opd) (e:Env):Option V :=
 match evF x e with
  | some a=>match unOp op a with
   | some v=>some (v)
   | none=>none
  | none=>none
noncomputable def jdJ (k:IntKind) (x:Opd) (e:Env):Option V :=
 match evF x e with
  | some (.int _ n)=>some (.int k (jcL k n))
  | _=>none
noncomputable def jdH (t:TypeId) (x:Opd) (e:Env):Option V :=
 match evF x e with
  | some v=>some (.iface t v)
  | none=>none
noncomputable def jgr (f:FuncId) (cap:List Opd) (e:Env):Option V :=
 match evsF e cap with
  | some l=>some (.clo f l)
  | none=>none
noncomputable def jeQ (x:Opd) (lo:Option Opd) (hi:Option Opd) (e:Env):Option V :=
 match evF x e,evo e lo,evo e hi with
  | some (.str s),some lo,some hi=>match jbm s.length s.length lo hi none with
   | some (l,r,_)=>some (.str ((s.take r).drop l))
   | none=>none
  | _,_,_=>none
noncomputable def jgp (sz:Nat) (x:Opd) (lo:Option Opd) (hi:Option Opd) (mx:Option Opd) (e:Env):Option V :=
 match evF x e,evo e lo,evo e hi,evo e mx with
  | some (.slice a len cap),some lo,some hi,some mx=>match jbm len (cap.room len) lo hi mx with
   | some (l,r,m)=>
    match a with
    | none=>some (.slice none 0 (.fix 0))
    | some (b,o)=>match cap,mx with
     | .grow q,none=>bif Nat.beq q sz then some (.slice (some (b,o+l*sz)) (r-l) (.grow q)) else none
     | .least q k,none=>bif Nat.beq q sz then some (.slice (some (b,o+l*sz)) (r-l) (.least q (k-l))) else none
     | _,_=>some (.slice (some (b,o+l*sz)) (r-l) (.fix (m-l)))
   | none=>none
  | _,_,_,_=>none
noncomputable def jgu (off:Nat) (x:Opd) (e:Env):Option V :=
 match evF x e with
  | some (.ptr (some (b,o)))=>some (.ptr (some (b,o+off)))
  | _=>none
noncomputable def jgt (off:Nat) (n:Option Nat) (x:Opd) (e:Env):Option V :=
 match evF x e with
  | some (.agg l)=>match part l off n with
   | some v=>some (v)
   | none=>none
  | _=>none
noncomputable def jhG (len:Nat) (sz:Nat) (x:Opd) (i:Opd) (e:Env):Option V :=
 match evF x e,evF i e with
  | some (.ptr (some (b,o))),some (.int _ n)=>bif below n len then some (.ptr (some (b,o+n.toNat*sz))) else none
  | _,_=>none
noncomputable def jhF (sz:Nat) (x:Opd) (i:Opd) (e:Env):Option V :=
 match evF x e,evF i e with
  | some (.slice (some (b,o)) len _),some (.int _ n)=>bif below n len then some (.ptr (some (b,o+n.toNat*sz))) else none
  | _,_=>none
noncomputable def ji2 (len:Nat) (sz:Nat) (n:Option Nat) (x:Opd) (i:Opd) (e:Env):Option V :=
 match evF x e,evF i e with
  | some (.agg l),some (.int _ k)=>bif below k len then
    match part l (k.toNat*sz) n with
    | some v=>some (v)
    | none=>none
   else none
  | _,_=>none
noncomputable def jgs (x:Opd) (i:Opd) (e:Env):Option V :=
 match evF x e,evF i e with
  | some (.str s),some (.int _ n)=>bif below n s.length then
    match s[n.toNat]? with
    | some b=>some (jix b)
    | none=>none
   else none
  | _,_=>none
noncomputable def jhD (x:Opd) (e:Env):Option V :=
 match evF x e with
  | some (.str s)=>some (.int .i64 s.length)
  | _=>none
noncomputable def jhE (x:Opd) (e:Env):Option V :=
 match evF x e with
  | some (.slice _ n _)=>some (.int .i64 n)
  | _=>none
noncomputable def jdI (x:Opd) (i:Nat) (e:Env):Option V :=
 match evF x e with
  | some (.tup l)=>match l[i]? with
   | some v=>some (v)
   | none=>none
  | _=>none
noncomputable def jhB (xs:List Opd) (e:Env):Option V :=
 match evsF e xs with
  | some (a :: r)=>match je3 minV a r with
   | some v=>some (v)
   | none=>none
  | _=>none
noncomputable def jhC (xs:List Opd) (e:Env):Option V :=
 match evsF e xs with
  | some (a :: r)=>match je3 maxV a r with
   | some v=>some (v)
   | none=>none
  | _=>none
noncomputable def jgm (a:Opd) (e:Env) (h:H):Option V :=
 match evF a e with
  | some (.ptr (some (b,o)))=>match h.load1 b o with
   | some v=>some (v)
   | none=>none
  | _=>none
noncomputable def jgl (n:Nat) (a:Opd) (e:Env) (h:H):Option V :=
 match evF a e with
  | some (.ptr (some (b,o)))=>match h.load b o n with
   | some l=>some (.agg l)
   | none=>none
  | _=>none
noncomputable def jeH (ks:KS) (zero:V) (ok:Bool) (m:Opd) (k:Opd) (e:Env) (h:H):Option V :=
 match evF m e,evF k e with
  | some (.map none),some k=>match jcy ks k [] with
   | some _=>some (if ok then .tup [zero,.bool false] else zero)
   | none=>none
  | some (.map (some r)),some k=>match h.map? r with
   | some (es,_)=>match jcy ks k es with
    | some (some (_,v,_))=>some (if ok then .tup [v,.bool true] else v)
    | some none=>some (if ok then .tup [zero,.bool false] else zero)
    | none=>none
   | none=>none
  | _,_=>none
noncomputable def jgz (_x0:Nat) (zero:List V) (_e:Env):Option (Obj × (Nat->V)) :=
 some (.cells zero false,fun b=>.ptr (some (b,0)))
noncomputable def ji4 (_x0:Nat) (x:Opd) (e:Env):Option (Obj × (Nat->V)) :=
 match evF x e with
  | some v=>some (.cells v.cells false,fun b=>.ptr (some (b,0)))
  | none=>none
noncomputable def jeV (sz:Nat) (len:Nat) (zero:List V) (parts:List (Nat × Opd)) (e:Env):Option (Obj × (Nat->V)) :=
 match jay e (parts.map fun p=>(p.1*sz,sz,p.2)) with
  | some ps=>match jau zero ps with
   | some l=>some (.cells l false,fun b=>.slice (some (b,0)) len (.fix len))
   | none=>none
  | none=>none
noncomputable def jgy  (_e:Env):Option (Obj × (Nat->V)) :=
 some (.map [] 0,fun b=>.map (some b))
noncomputable def jdN (_x0:Nat) (bytes:Nat) (zero:List V) (len:Opd) (cap:Opd) (e:Env):Option (Obj × (Nat->V)) :=
 match len.ev e,cap.ev e with
  | some (.int _ (.ofNat l)),some (.int _ (.ofNat c))=>
   bif Nat.ble l c&&Nat.ble (c*bytes) (2 ^ 46)&&Nat.ble c (2 ^ 46) then some (.cells (List.replicate c zero).flatten false,fun b=>.slice (some (b,0)) l (.fix c)) else none
  | _,_=>none
noncomputable def jgA (n:Nat) (a:Opd) (x:Opd) (_call:Call) (e:Env) (h:H):Option (V × H) :=
 match evF a e,evF x e with
  | some (.ptr (some (b,o))),some v=>
   bif Nat.beq v.cells.length n then
    match h.store b o v.cells with
    | some h'=>some (.undef,h')
    | none=>none
   else none
  | _,_=>none
noncomputable def jia (ks:KS) (m:Opd) (k:Opd) (v:Opd) (_call:Call) (e:Env) (h:H):Option (V × H) :=
 match evF m e,evF k e,evF v e with
  | some (.map (some r)),some k,some v=>match h.map? r with
   | some (es,c)=>match jcy ks k es with
    | some (some (i,_,born))=>some (.undef,h.set r (.map (es.set i (k,v,born)) c))
    | some none=>some (.undef,h.set r (.map (es++[(k,v,c)]) (c+1)))
    | none=>none
   | none=>none
  | _,_,_=>none
noncomputable def jib (ks:KS) (m:Opd) (k:Opd) (_call:Call) (e:Env) (h:H):Option (V × H) :=
 match evF m e,evF k e with
  | some (.map none),some k=>match jcy ks k [] with
   | some _=>some (.undef,h)
   | none=>none
  | some (.map (some r)),some k=>match h.map? r with
   | some (es,c)=>match jcy ks k es with
    | some (some (i,_,_))=>some (.undef,h.set r (.map (es.eraseIdx i) c))
    | some none=>some (.undef,h)
    | none=>none
   | none=>none
  | _,_=>none
noncomputable def jie (f:FuncId) (args:List Opd) (call:Call) (e:Env) (h:H):Option (V × H) :=
 match evsF e args with
  | some l=>call (.fn f) l h
  | none=>none
noncomputable def jgC (x:Opd) (args:List Opd) (call:Call) (e:Env) (h:H):Option (V × H) :=
 match evF x e,evsF e args with
  | some (.clo f cap),some l=>call (.fn f) (l++cap) h
  | some (.yld r),some l=>call (.yld r) l h
  | _,_=>none
noncomputable def jgD (ms:MT) (x:Opd) (args:List Opd) (call:Call) (e:Env) (h:H):Option (V × H) :=
 match evF x e,evsF e args with
  | some (.clo f cap),some l=>call (.fn f) (l++cap) h
  | some (.yld r),some l=>call (.yld r) l h
  | some (.bm n t v),some l=>match ms.find? (fun p=>p.1 == n) with
   | some (_,tbl)=>match tbl.find? (fun p=>p.1 == t) with
    | some (_,f)=>call (.fn f) (v :: l) h
    | none=>none
   | none=>none
  | _,_=>none
noncomputable def jfq (tbl:List (TypeId × FuncId)) (x:Opd) (args:List Opd) (call:Call) (e:Env) (h:H):Option (V × H) :=
 match evF x e,evsF e args with
  | some (.iface t v),some l=>match tbl.find? (fun p=>p.1 == t) with
   | some (_,f)=>call (.fn f) (v :: l) h
   | none=>none
  | _,_=>none
noncomputable def jfr (sz:Nat) (bytes:Nat) (x:Opd) (y:Opd) (_call:Call) (e:Env) (h:H):Option (V × H) :=
 match evF x e,evF y e with
  | some a,some b=>jba h sz bytes a b
  | _,_=>none
noncomputable def jid (sz:Nat) (x:Opd) (y:Opd) (_call:Call) (e:Env) (h:H):Option (V × H) :=
 match evF x e,evF y e with
  | some a,some b=>jfs h sz a b
  | _,_=>none
noncomputable def jgB (z:List V) (x:Opd) (_call:Call) (e:Env) (h:H):Option (V × H) :=
 match evF x e with
  | some a=>jc7 h z a
  | none=>none
noncomputable def jic (x:Opd) (_call:Call) (e:Env) (h:H):Option (V × H) :=
 match evF x e with
  | some (.slice (some (b,o)) n c)=>match h.get b with
   | some (.cells _ false)=>bif Nat.ble 1 n then some (.slice (some (b,o)) n c,h) else none
   | _=>none
  | _=>none
abbrev RunT:=Call->Env->H->Option Nat->Option (V × H)
noncomputable def jiI (q0:Opd):RunT:=fun _ e h _=>fin1 (jiN q0 e) h
noncomputable def jfM (q0:Opd) (q1:Opd) (q2:Opd):RunT:=fun _ e h _=>fin1 (jh9 q0 q1 q2 e) h
noncomputable def je0 (q0:Nat) (q1:List V):RunT:=fun _ e h a=>finA (jgz q0 q1 e) h a
noncomputable def jhU (q0:Nat) (q1:Opd):RunT:=fun _ e h a=>finA (ji4 q0 q1 e) h a
noncomputable def jez (q0:List V) (q1:List (Nat × Nat × Opd)):RunT:=fun _ e h _=>fin1 (jgv q0 q1 e) h
noncomputable def jdl (q0:Nat) (q1:Nat) (q2:List V) (q3:List (Nat × Opd)):RunT:=fun _ e h a=>finA (jeV q0 q1 q2 q3 e) h a
noncomputable def jes (q0:Opd):RunT:=fun _ e h _=>fin1 (jgm q0 e h) h
noncomputable def jer (q0:Nat) (q1:Opd):RunT:=fun _ e h _=>fin1 (jgl q0 q1 e h) h
noncomputable def jem (q0:Nat) (q1:Opd) (q2:Opd):RunT:=fun call e h _=>jgA q0 q1 q2 call e h
noncomputable def jeo (q0:Opd):RunT:=fun _ e h _=>fin1 (jgq q0 e) h
noncomputable def jfO (q0:String) (q1:Opd):RunT:=fun _ e h _=>fin1 (jhA q0 q1 e) h
noncomputable def jhV (q0:BinOp) (q1:Opd) (q2:Opd):RunT:=fun _ e h _=>fin1 (ji3 q0 q1 q2 e) h
noncomputable def jiJ (q0:EK) (q1:Bool) (q2:Opd) (q3:Opd):RunT:=fun _ e h _=>fin1 (jiO q0 q1 q2 q3 e) h
noncomputable def jiH (q0:UnOp) (q1:Opd):RunT:=fun _ e h _=>fin1 (jiM q0 q1 e) h
noncomputable def jcw (q0:IntKind) (q1:Opd):RunT:=fun _ e h _=>fin1 (jdJ q0 q1 e) h
noncomputable def jfS (q0:Opd):RunT:=fun call e h _=>jic q0 call e h
noncomputable def jfX  : RunT:=fun _ _ _ _=>none
noncomputable def jcu (q0:TypeId) (q1:Opd):RunT:=fun _ e h _=>fin1 (jdH q0 q1 e) h
noncomputable def jeq (q0:FuncId) (q1:List Opd):RunT:=fun _ e h _=>fin1 (jgr q0 q1 e) h
noncomputable def jep  : RunT:=fun _ e h a=>finA (jgy  e) h a
noncomputable def jct (q0:Nat) (q1:Nat) (q2:List V) (q3:Opd) (q4:Opd):RunT:=fun _ e h a=>finA (jdN q0 q1 q2 q3 q4 e) h a
noncomputable def jdi (q0:Opd) (q1:Option Opd) (q2:Option Opd):RunT:=fun _ e h _=>fin1 (jeQ q0 q1 q2 e) h
noncomputable def jen (q0:Nat) (q1:Opd) (q2:Option Opd) (q3:Option Opd) (q4:Option Opd):RunT:=fun _ e h _=>fin1 (jgp q0 q1 q2 q3 q4 e) h
noncomputable def jev (q0:Nat) (q1:Opd):RunT:=fun _ e h _=>fin1 (jgu q0 q1 e) h
noncomputable def jeu (q0:Nat) (q1:Option Nat) (q2:Opd):RunT:=fun _ e h _=>fin1 (jgt q0 q1 q2 e) h
noncomputable def jfW (q0:Nat) (q1:Nat) (q2:Opd) (q3:Opd):RunT:=fun _ e h _=>fin1 (jhG q0 q1 q2 q3 e) h
noncomputable def jfV (q0:Nat) (q1:Opd) (q2:Opd):RunT:=fun _ e h _=>fin1 (jhF q0 q1 q2 e) h
noncomputable def jhS (q0:Nat) (q1:Nat) (q2:Option Nat) (q3:Opd) (q4:Opd):RunT:=fun _ e h _=>fin1 (ji2 q0 q1 q2 q3 q4 e) h
noncomputable def jet (q0:Opd) (q1:Opd):RunT:=fun _ e h _=>fin1 (jgs q0 q1 e) h
noncomputable def jdj (q0:KS) (q1:V) (q2:Bool) (q3:Opd) (q4:Opd):RunT:=fun _ e h _=>fin1 (jeH q0 q1 q2 q3 q4 e h) h
noncomputable def jfN (q0:KS) (q1:Opd) (q2:Opd) (q3:Opd):RunT:=fun call e h _=>jia q0 q1 q2 q3 call e h
noncomputable def jfQ (q0:KS) (q1:Opd) (q2:Opd):RunT:=fun call e h _=>jib q0 q1 q2 call e h
noncomputable def jcv (q0:Opd) (q1:Nat):RunT:=fun _ e h _=>fin1 (jdI q0 q1 e) h
noncomputable def jfZ (q0:FuncId) (q1:List Opd):RunT:=fun call e h _=>jie q0 q1 call e h
noncomputable def jex (q0:Opd) (q1:List Opd):RunT:=fun call e h _=>jgC q0 q1 call e h
noncomputable def jey (q0:MT) (q1:Opd) (q2:List Opd):RunT:=fun call e h _=>jgD q0 q1 q2 call e h
noncomputable def jdk (q0:List (TypeId × FuncId)) (q1:Opd) (q2:List Opd):RunT:=fun call e h _=>jfq q0 q1 q2 call e h
noncomputable def jfT (q0:Opd):RunT:=fun _ e h _=>fin1 (jhD q0 e) h
noncomputable def jfU (q0:Opd):RunT:=fun _ e h _=>fin1 (jhE q0 e) h
noncomputable def jdm (q0:Nat) (q1:Nat) (q2:Opd) (q3:Opd):RunT:=fun call e h _=>jfr q0 q1 q2 q3 call e h
noncomputable def jfY (q0:Nat) (q1:Opd) (q2:Opd):RunT:=fun call e h _=>jid q0 q1 q2 call e h
noncomputable def jew (q0:List V) (q1:Opd):RunT:=fun call e h _=>jgB q0 q1 call e h
noncomputable def jfP (q0:List Opd):RunT:=fun _ e h _=>fin1 (jhB q0 e) h
noncomputable def jfR (q0:List Opd):RunT:=fun _ e h _=>fin1 (jhC q0 e) h
noncomputable def runF (i:I):RunT :=
 I.rec (motive:=fun _=>RunT) jiI jfM je0 jhU jez jdl jes jer jem jeo jfO jhV jiJ jiH jcw jfS jfX jcu jeq jep jct jdi jen jev jeu jfW jfV jhS jet jdj jfN jfQ jcv jfZ jex jey jdk jfT jfU jdm jfY jew jfP jfR i
theorem runF_eq (i:I) (call:Call) (e:Env) (h:H) (a:Option Nat):runF i call e h a=i.run call e h a:=by
 cases i
 case mv q0=>
  show jiI q0 call e h a=_
  simp only [jiI,jiN,I.run,I.cls,I.pure,jal,jak]<;>rfl
 case pick q0 q1 q2=>
  show jfM q0 q1 q2 call e h a=_
  simp only [jfM,jh9,I.run,I.cls,I.pure,jal,jak]<;>rfl
 case alloc q0 q1=>
  show je0 q0 q1 call e h a=_
  simp only [je0,jgz,I.run,I.cls,I.make,finA]<;>rfl
 case box q0 q1=>
  show jhU q0 q1 call e h a=_
  simp only [jhU,ji4,I.run,I.cls,I.make,finA,jak]<;>rfl
 case build q0 q1=>
  show jez q0 q1 call e h a=_
  simp only [jez,jgv,I.run,I.cls,I.pure,jal]<;>rfl
 case bslice q0 q1 q2 q3=>
  show jdl q0 q1 q2 q3 call e h a=_
  simp only [jdl,jeV,I.run,I.cls,I.make,finA]<;>rfl
 case load1 q0=>
  show jes q0 call e h a=_
  simp only [jes,jgm,I.run,I.cls,I.read,jal,jak]<;>rfl
 case loadN q0 q1=>
  show jer q0 q1 call e h a=_
  simp only [jer,jgl,I.run,I.cls,I.read,jal,jak]<;>rfl
 case store q0 q1 q2=>
  show jem q0 q1 q2 call e h a=_
  simp only [jem,jgA,I.run,I.cls,I.eff,jak,jiD]<;>rfl
 case nilck q0=>
  show jeo q0 call e h a=_
  simp only [jeo,jgq,I.run,I.cls,I.pure,jal,jak]<;>rfl
 case mkBm q0 q1=>
  show jfO q0 q1 call e h a=_
  simp only [jfO,jhA,I.run,I.cls,I.pure,jal,jak]<;>rfl
 case bin q0 q1 q2=>
  show jhV q0 q1 q2 call e h a=_
  simp only [jhV,ji3,I.run,I.cls,I.pure,jal,jak,binOpF_eq]<;>rfl
 case eq q0 q1 q2 q3=>
  show jiJ q0 q1 q2 q3 call e h a=_
  simp only [jiJ,jiO,I.run,I.cls,I.pure,jal,jak]<;>rfl
 case un q0 q1=>
  show jiH q0 q1 call e h a=_
  simp only [jiH,jiM,I.run,I.cls,I.pure,jal,jak]<;>rfl
 case convInt q0 q1=>
  show jcw q0 q1 call e h a=_
  simp only [jcw,jdJ,I.run,I.cls,I.pure,jal,jak,jaD]<;>rfl
 case mark q0=>
  show jfS q0 call e h a=_
  simp only [jfS,jic,I.run,I.cls,I.eff,jak]<;>rfl
 case fail =>
  show jfX  call e h a=_
  simp only [jfX,I.run,I.cls,I.pure]<;>rfl
 case mkIface q0 q1=>
  show jcu q0 q1 call e h a=_
  simp only [jcu,jdH,I.run,I.cls,I.pure,jal,jak]<;>rfl
 case mkClo q0 q1=>
  show jeq q0 q1 call e h a=_
  simp only [jeq,jgr,I.run,I.cls,I.pure,jal,jb4]<;>rfl
 case mkMap =>
  show jep  call e h a=_
  simp only [jep,jgy,I.run,I.cls,I.make,finA]<;>rfl
 case mkSlice q0 q1 q2 q3 q4=>
  show jct q0 q1 q2 q3 q4 call e h a=_
  simp only [jct,jdN,I.run,I.cls,I.make,finA]<;>rfl
 case sliceS q0 q1 q2=>
  show jdi q0 q1 q2 call e h a=_
  simp only [jdi,jeQ,I.run,I.cls,I.pure,jal,jak]<;>rfl
 case slice q0 q1 q2 q3 q4=>
  show jen q0 q1 q2 q3 q4 call e h a=_
  simp only [jen,jgp,I.run,I.cls,I.pure,jal,jak]<;>rfl
 case faddr q0 q1=>
  show jev q0 q1 call e h a=_
  simp only [jev,jgu,I.run,I.cls,I.pure,jal,jak]<;>rfl
 case field q0 q1 q2=>
  show jeu q0 q1 q2 call e h a=_
  simp only [jeu,jgt,I.run,I.cls,I.pure,jal,jak]<;>rfl
 case ixaA q0 q1 q2 q3=>
  show jfW q0 q1 q2 q3 call e h a=_
  simp only [jfW,jhG,I.run,I.cls,I.pure,jal,jak]<;>rfl
 case ixaS q0 q1 q2=>
  show jfV q0 q1 q2 call e h a=_
  simp only [jfV,jhF,I.run,I.cls,I.pure,jal,jak]<;>rfl
 case ixA q0 q1 q2 q3 q4=>
  show jhS q0 q1 q2 q3 q4 call e h a=_
  simp only [jhS,ji2,I.run,I.cls,I.pure,jal,jak]<;>rfl
 case ixStr q0 q1=>
  show jet q0 q1 call e h a=_
  simp only [jet,jgs,I.run,I.cls,I.pure,jal,jak]<;>rfl
 case lookup q0 q1 q2 q3 q4=>
  show jdj q0 q1 q2 q3 q4 call e h a=_
  simp only [jdj,jeH,I.run,I.cls,I.read,jal,jak]<;>rfl
 case mput q0 q1 q2 q3=>
  show jfN q0 q1 q2 q3 call e h a=_
  simp only [jfN,jia,I.run,I.cls,I.eff,jak]<;>rfl
 case mdel q0 q1 q2=>
  show jfQ q0 q1 q2 call e h a=_
  simp only [jfQ,jib,I.run,I.cls,I.eff,jak]<;>rfl
 case extract q0 q1=>
  show jcv q0 q1 call e h a=_
  simp only [jcv,jdI,I.run,I.cls,I.pure,jal,jak]<;>rfl
 case call q0 q1=>
  show jfZ q0 q1 call e h a=_
  simp only [jfZ,jie,I.run,I.cls,I.eff,jb4]<;>rfl
 case callv q0 q1=>
  show jex q0 q1 call e h a=_
  simp only [jex,jgC,I.run,I.cls,I.eff,jak,jb4]<;>rfl
 case callb q0 q1 q2=>
  show jey q0 q1 q2 call e h a=_
  simp only [jey,jgD,I.run,I.cls,I.eff,jak,jb4]<;>rfl
 case invoke q0 q1 q2=>
  show jdk q0 q1 q2 call e h a=_
  simp only [jdk,jfq,I.run,I.cls,I.eff,jak,jb4]<;>rfl
 case lenS q0=>
  show jfT q0 call e h a=_
  simp only [jfT,jhD,I.run,I.cls,I.pure,jal,jak]<;>rfl
 case lenL q0=>
  show jfU q0 call e h a=_
  simp only [jfU,jhE,I.run,I.cls,I.pure,jal,jak]<;>rfl
 case append q0 q1 q2 q3=>
  show jdm q0 q1 q2 q3 call e h a=_
  simp only [jdm,jfr,I.run,I.cls,I.eff,jak]<;>rfl
 case copy q0 q1 q2=>
  show jfY q0 q1 q2 call e h a=_
  simp only [jfY,jid,I.run,I.cls,I.eff,jak]<;>rfl
 case clear q0 q1=>
  show jew q0 q1 call e h a=_
  simp only [jew,jgB,I.run,I.cls,I.eff,jak]<;>rfl
 case minI q0=>
  show jfP q0 call e h a=_
  simp only [jfP,jhB,I.run,I.cls,I.pure,jal,jb4]<;>rfl
 case maxI q0=>
  show jfR q0 call e h a=_
  simp only [jfR,jhC,I.run,I.cls,I.pure,jal,jb4]<;>rfl
noncomputable def jeT (e:Env):List Nat->Env
 | []=>[]
 | s :: r=>match getF e s with
  | some v=>(s,v) :: jeT e r
  | none=>jeT e r
theorem jcI (e:Env) : ∀ l,jeT e l=e.only l
 | []=>rfl
 | s :: r=>by simp only [jeT,Env.only,je1,jcI e r];rfl
noncomputable def ji9 (e:Env):Option (Nat × Bool)->Bool
 | none=>true
 | some (j,want)=>match getF e j with
  | some (.bool b)=>b == want
  | _=>false
theorem wantF_eq (e:Env) (g:Option (Nat × Bool)):ji9 e g=wanted e g:=by
 cases g with
 | none=>rfl
 | some g=>obtain ⟨j,w⟩:=g;simp only [ji9,wanted,je1];rfl
noncomputable def jiP (s:Ins) (e:Env) (k:Env->H->Option (Env × H)) (o:Option (V × H)):Option (Env × H):=match o with
 | some (v,h')=>match s.chk with
  | []=>k (layv e s.dst v) h'
  | c=>bif ja1 e h' c then k (layv e s.dst v) h' else none
 | none=>none
noncomputable def opF (s:Ins) (call:Call) (base:Nat) (e:Env) (h:H) (k:Env->H->Option (Env × H)):Option (Env × H) :=
 bif ji9 e s.guard then jiP s e k (runF s.i call e h (s.at_.map (base + ·))) else k (layv e s.dst .undef) h
noncomputable def jcR (l:List Ins):Call->Nat->Env->H->Option (Env × H) :=
 List.rec (motive:=fun _=>Call->Nat->Env->H->Option (Env × H)) (fun _ _ e h=>some (e,h)) (fun s _ ih call base e h=>opF s call base e h (ih call base)) l
theorem jdC : ∀ (l:List Ins) (call:Call) (base:Nat) (e:Env) (h:H),jcR l call base e h=jag call base l e h
 | [],_,_,_,_=>rfl
 | s :: r,call,base,e,h=>by
  show opF s call base e h (jcR r call base)=_
  have ih:jcR r call base=jag call base r:=by funext e h;exact jdC r call base e h
  rw [ih]
  have hd:jag call base (s :: r) e h=(bif wanted e s.guard then
   match s.i.run call e h (s.at_.map (base + ·)) with
   | some (v,h')=>bif ja1 e h' s.chk then jag call base r (layv e s.dst v) h' else none
   | none=>none
  else jag call base r (layv e s.dst .undef) h):=rfl
  rw [hd]
  unfold opF
  rw [wantF_eq,runF_eq]
  generalize wanted e s.guard=g
  cases g
  ·rfl
  ·simp only [cond_true]
   unfold jiP
   cases I.run call e h (Option.map (fun x=>base+x) s.at_) s.i with
   | none=>rfl
   | some q=>
    obtain ⟨v,h'⟩:=q
    simp only
    cases s.chk with
    | nil=>simp [ja1]
    | cons _ _=>rfl
abbrev DT:=Call->Nat->Env->H->Res
noncomputable def jiE (keep:List Nat) (o:Option (Env × H)):Res:=match o with
 | some (e',h')=>some (.normal,jeT e' keep,h')
 | none=>none
noncomputable def jiu (r:Res) (k:Env->H->Res):Res:=match r with
 | some (.normal,e',h')=>k e' h'
 | r=>r
noncomputable def jhO (c:Option V) (a b:Env->H->Res) (e:Env) (h:H):Res:=match c with
 | some (.bool true)=>a e h
 | some (.bool false)=>b e h
 | _=>none
noncomputable def jfI (id:Nat) (r:Res):Res:=match r with
 | some (.exit id',e',h')=>bif Nat.beq id' id then some (.normal,e',h') else some (.exit id',e',h')
 | r=>r
noncomputable def jhP (body:Env->H->Res) (live:List Nat) (n:Nat):Env->H->Res :=
 Nat.rec (motive:=fun _=>Env->H->Res) (fun _ _=>none) (fun _ ih e h=>jiu (body (jeT e live) h) ih) n
theorem jg3 (body:Env->H->Res) (live:List Nat) : ∀ (n:Nat) (e:Env) (h:H),jhP body live n e h=iter body live n e h
 | 0,_,_=>rfl
 | n+1,e,h=>by
  show jiu (body (jeT e live) h) (jhP body live n)=_
  have ih:jhP body live n=iter body live n:=by funext e h;exact jg3 body live n e h
  rw [ih,jcI];rfl
noncomputable def jfH (f:Option V) (params live:List Nat) (assign body:AC) (call:Call) (e:Env) (h:H):Res :=
  match f with
  | some (.clo g cap)=>
   match call (.fn g) (.yld h.nx :: cap) (h.new (.loop .ready none params (jeT e live) assign body)) with
   | some (_,h')=>
    match h'.get h.nx with
    | some (.loop st pend _ _ _ _)=>
     match st with
     | .busy=>none
     | _=>match pend with
      | none=>some (.normal,e,h'.kill h.nx)
      | some ex=>some (ex,e,h'.kill h.nx)
    | _=>none
   | none=>none
  | _=>none
noncomputable def DF (c:AC):DT:=AC.rec (motive:=fun _=>DT)
 (fun _ _ e h=>some (.normal,e,h))
 (fun res ops keep call _ e h=>jiE keep (jcR ops call h.nx e (h.reserve res)))
 (fun _ _ iha ihb call fuel e h=>jiu (iha call fuel e h) (ihb call fuel))
 (fun c _ _ iha ihb call fuel e h=>jhO (evF c e) (iha call fuel) (ihb call fuel) e h)
 (fun id _ ih call fuel e h=>jfI id (ih call fuel e h))
 (fun live _ ih call fuel e h=>jhP (ih call fuel) live fuel e h)
 (fun f params live assign body _ _ call _ e h=>jfH (evF f e) params live assign body call e h)
 (fun id _ _ e h=>some (.exit id,e,h))
 (fun _ _ e h=>some (.ret,e,h))
 (fun _ ih=>ih)
 (fun _ _ _ e h=>some (.normal,e,h)) c
theorem jci : ∀ (c:AC) (call:Call) (fuel:Nat) (e:Env) (h:H),DF c call fuel e h=D call fuel c e h
 | .skip,_,_,_,_=>rfl
 | .label _,_,_,_,_=>rfl
 | .exit _,_,_,_,_=>rfl
 | .ret,_,_,_,_=>rfl
 | .scope a,call,fuel,e,h=>jci a call fuel e h
 | .region res ops keep,call,fuel,e,h=>by
  show jiE keep (jcR ops call h.nx e (h.reserve res))=_
  rw [jdC];simp only [D,jiE,jcI]
  cases jag call h.nx ops e (h.reserve res)<;>rfl
 | .seq a b,call,fuel,e,h=>by
  show jiu (DF a call fuel e h) (DF b call fuel)=_
  have ih:DF b call fuel=D call fuel b:=by funext e h;exact jci b call fuel e h
  rw [ih,jci a];rfl
 | .cond c a b,call,fuel,e,h=>by
  show jhO (evF c e) (DF a call fuel) (DF b call fuel) e h=_
  simp only [jhO,D,jak,jci a,jci b];rfl
 | .block id a,call,fuel,e,h=>by
  show jfI id (DF a call fuel e h)=_
  rw [jci a];simp only [jfI,D,jiD];rfl
 | .loop live a,call,fuel,e,h=>by
  show jhP (DF a call fuel) live fuel e h=_
  have ih:DF a call fuel=D call fuel a:=by funext e h;exact jci a call fuel e h
  rw [ih,jg3];rfl
 | .rangeFunc f params live assign body,call,fuel,e,h=>by
  show jfH (evF f e) params live assign body call e h=_
  simp only [jfH,D,jak,jcI];rfl
noncomputable def jh7 (call:Call) (fuel:Nat) (fn:AFn) (args:List V) (h:H):Option (V × H) :=
 bif Nat.beq args.length fn.np then
  match DF fn.body call fuel (Env.ofArgs args 0) h with
  | some (.exit _,_,_)=>none
  | some (_,e,h')=>match jbz e h' fn.res with
   | some l=>some (jbt l,h')
   | none=>none
  | none=>none
 else none
theorem runFnF_eq (call:Call) (fuel:Nat) (fn:AFn) (args:List V) (h:H):jh7 call fuel fn args h=jcC call fuel fn args h:=by
 simp only [jh7,jcC,jci,jiD];rfl
noncomputable def jcQ (call:Call) (fuel:Nat) (l:Nat) (args:List V) (h:H):Option (V × H) :=
 match h.get l with
 | some (.loop _ _ params env assign body)=>
  match jbJ env params args with
  | none=>none
  | some e0=>
   match DF assign call fuel e0 h with
   | some (.normal,e1,h1)=>
    match h1.get l with
    | some (.loop .ready p ps en a b)=>
     match DF body call fuel e1 (h1.set l (.loop .busy p ps en a b)) with
     | some (ex,_,h3)=>
      match h3.get l with
      | some (.loop _ _ ps' en' a' b')=>
       match ex with
       | .normal=>some (.bool true,h3.set l (.loop .ready none ps' en' a' b'))
       | ex=>some (.bool false,h3.set l (.loop .done (some ex) ps' en' a' b'))
      | _=>none
     | none=>none
    | _=>none
   | _=>none
 | _=>none
theorem jeG (call:Call) (fuel:Nat) (l:Nat) (args:List V) (h:H):jcQ call fuel l args h=jbg call fuel l args h:=by
 simp only [jcQ,jbg,jci];rfl
noncomputable def jfx {α : Type} (l:List (Nat × α)) (s:Nat):Option α := List.rec (motive:=fun _=>Option α) none (fun p _ ih=>bif Nat.beq p.1 s then some p.2 else ih) l
theorem jfw {α : Type} : ∀ (l:List (Nat × α)) (s:Nat),jfx l s=ja7 l s
 | [],_=>rfl
 | (k,v) :: r,s=>by
  show (bif Nat.beq k s then some v else jfx r s)=_
  rw [jfw r s];rfl
noncomputable def jiK (call:Call) (fuel:Nat) (fns:List (FuncId × AFn)) (f:FuncId) (args:List V) (h:H) (p:Option Prim):Option (V × H):=match p with
 | some p=>p args h
 | none=>match jfx fns f with
  | some fn=>jh7 call fuel fn args h
  | none=>none
noncomputable def jiT (P:Prog) (fuel:Nat) (call:Call) (t:Tgt) (args:List V) (h:H):Option (V × H) :=
 Tgt.rec (fun f=>jiK call fuel P.fns f args h (jfx P.prims f)) (fun l=>jcQ call fuel l args h) t
noncomputable def jcg (P:Prog) (fuel:Nat) (n:Nat):Call:=Nat.rec (motive:=fun _=>Call) (fun _ _ _=>none) (fun _ ih=>jiT P fuel ih) n
theorem je5 (P:Prog) (fuel:Nat) : ∀ n,jcg P fuel n=jaw P fuel n
 | 0=>rfl
 | n+1=>by
  show jiT P fuel (jcg P fuel n)=_
  rw [je5 P fuel n]
  funext t args h
  cases t with
  | fn f=>
   show jiK (jaw P fuel n) fuel P.fns f args h (jfx P.prims f)=_
   simp only [jiK,jfw,runFnF_eq,jaw];rfl
  | yld l=>exact jeG _ _ _ _ _
end Am
namespace Am.Sigs
open Am Go
noncomputable def runL (call:Call) (fuel:Nat):List AC->Env->H->Res
 | [],e,h=>some (.normal,e,h)
 | c :: r,e,h=>match DF c call fuel e h with
  | some (.normal,e',h')=>runL call fuel r e' h'
  | x=>x
theorem jbn (call:Call) (fuel:Nat) (c:AC) (r:List AC) (e:Env) (h:H):runL call fuel (c :: r) e h=match DF c call fuel e h with
  | some (.normal,e',h')=>runL call fuel r e' h'
  | x=>x:=rfl
def flat:AC->List AC
 | .seq a b=>flat a++flat b
 | c=>[c]
theorem jaF (call:Call) (fuel:Nat) (c:AC) (e:Env) (h:H):runL call fuel [c] e h=D call fuel c e h:=by
 unfold runL
 rw [jci]
 cases D call fuel c e h with
 | none=>rfl
 | some r=>
  obtain ⟨x,e',h'⟩:=r
  cases x<;>rfl
theorem jbI (call:Call) (fuel:Nat) : ∀ (a b:List AC) (e:Env) (h:H),runL call fuel (a++b) e h=match runL call fuel a e h with
  | some (.normal,e',h')=>runL call fuel b e' h'
  | x=>x
 | [],b,e,h=>rfl
 | c :: r,b,e,h=>by
  rw [List.cons_append,jbn,jbn]
  cases DF c call fuel e h with
  | none=>rfl
  | some q=>
   obtain ⟨x,e',h'⟩:=q
   cases x with
   | normal=>exact jbI call fuel r b e' h'
   | exit _=>rfl
   | ret=>rfl
theorem jdX (call:Call) (fuel:Nat) : ∀ (c:AC) (e:Env) (h:H),D call fuel c e h=runL call fuel (flat c) e h
 | .seq a b,e,h=>by
  show _=runL call fuel (flat a++flat b) e h
  rw [jbI,<- jdX call fuel a e h]
  show (match D call fuel a e h with
   | some (.normal,e',h')=>D call fuel b e' h'
   | r=>r)=_
  cases D call fuel a e h with
  | none=>rfl
  | some q=>
   obtain ⟨x,e',h'⟩:=q
   cases x with
   | normal=>exact jdX call fuel b e' h'
   | exit _=>rfl
   | ret=>rfl
 | .skip,e,h=>(jaF call fuel _ e h).symm
 | .label _,e,h=>(jaF call fuel _ e h).symm
 | .region _ _ _,e,h=>(jaF call fuel _ e h).symm
 | .cond _ _ _,e,h=>(jaF call fuel _ e h).symm
 | .block _ _,e,h=>(jaF call fuel _ e h).symm
 | .loop _ _,e,h=>(jaF call fuel _ e h).symm
 | .rangeFunc _ _ _ _ _,e,h=>(jaF call fuel _ e h).symm
 | .exit _,e,h=>(jaF call fuel _ e h).symm
 | .ret,e,h=>(jaF call fuel _ e h).symm
 | .scope _,e,h=>(jaF call fuel _ e h).symm
section
variable {call:Call} {fuel:Nat} {e e1:Env} {h h1:H} {r:Res}
theorem jfL {a b:List AC} (k:runL call fuel a e h=some (.normal,e1,h1)) (z:runL call fuel b e1 h1=r):runL call fuel (a++b) e h=r:=by
 rw [jbI,k];exact z
theorem jhT {c:AC} {b:List AC} (k:D call fuel c e h=some (.normal,e1,h1)) (z:runL call fuel b e1 h1=r):runL call fuel (c :: b) e h=r:=by
 rw [jbn,jci,k];exact z
theorem jeZ {lb:AC} {live:List Nat} {n:Nat} (k:runL call fuel (flat lb) (e.only live) h=some (.normal,e1,h1)) (z:iter (D call fuel lb) live n e1 h1=r):iter (D call fuel lb) live (n+1) e h=r:=by
 rw [<- jdX] at k
 simp only [iter,k];exact z
theorem loop_exit {lb:AC} {live:List Nat} {n id:Nat} (k:runL call fuel (flat lb) (e.only live) h=some (.exit id,e1,h1)):iter (D call fuel lb) live (n+1) e h=some (.exit id,e1,h1):=by
 rw [<- jdX] at k
 simp only [iter,k]
theorem jhz {c:AC} {id:Nat} (k:D call fuel c e h=some (.normal,e1,h1)):D call fuel (.block id c) e h=some (.normal,e1,h1):=by
 simp only [D,k]
theorem block_exit {lb:AC} {live:List Nat} {id:Nat} (k:iter (D call fuel lb) live fuel e h=some (.exit id,e1,h1)):D call fuel (.block id (.loop live lb)) e h=some (.normal,e1,h1):=by
 simp only [D,k,beq_self_eq_true,cond_true]
end
theorem ji1 {call:Call} (hC:jb7 call) (hG:jd9 call) (fuel:Nat) : ∀ l,jiz (runL call fuel l)
 | []=>fun e h ex e' h' hr=>by cases hr;exact ⟨zn _,fun X h2 x=>⟨_,rfl,x⟩⟩
 | c :: r=>fun e h ex e' h' hr=>by
  rw [jbn,jci] at hr
  split at hr
  ·next e1 h1 hd=>
   have a:=D_F hC hG fuel c _ _ _ _ _ hd
   have b:=ji1 hC hG fuel r _ _ _ _ _ hr
   refine ⟨zu a.1 b.1,fun X h2 x=>?_⟩
   obtain ⟨h3,e3,x3⟩:=a.2 X h2 x
   rw [jbn,jci,e3]
   exact b.2 X h3 x3
  ·next hd=>
   have a:=D_F hC hG fuel c _ _ _ _ _ hr
   refine ⟨a.1,fun X h2 x=>?_⟩
   obtain ⟨h3,e3,x3⟩:=a.2 X h2 x
   rw [jbn,jci,e3]
   have hne:ex ≠ .normal:=fun e0=>hd e' h' (by rw [hr,e0])
   split
   ·next q=>cases q;exact zw rfl hne
   ·exact ⟨_,rfl,x3⟩
structure St where
 E:Env
 n:Nat
 T:List (Nat × Obj)
def jhK (n:Nat):List (Nat × Obj)->H
 | []=>⟨n,.lf⟩
 | p :: r=>(jhK n r).set p.1 p.2
def St.h (s:St):H:=jhK s.n s.T
theorem jef (n:Nat) : ∀ l,(jhK n l).nx=n
 | []=>rfl
 | p :: r=>jef n r
theorem jeW (n:Nat) : ∀ (l:List (Nat × Obj)) {j:Nat} {o:Obj},(jhK n l).get j=some o->(j,o)∈l
 | [],j,o,h=>by cases h
 | p :: r,j,o,h=>by
  unfold jhK at h
  rw [H.get_set] at h
  split at h
  ·next e=>cases h;subst e;exact zh ..
  ·exact zj _ (jeW n r h)
structure Meets (s:St) (h:H):Prop where
 nx:h.nx=s.n
 has : ∀ p∈s.T,h.get p.1=some p.2
 wf : ∀ j,s.n<=j->h.get j=none
theorem Meets.ext {s:St} {h:H} (m:Meets s h):Ext (fun j=>match s.h.get j with | some _=>none | none=>h.get j) s.h h:=by
 have hh : ∀ j o,s.h.get j=some o->h.get j=some o:=fun j o e=>m.has _ (jeW s.n s.T e)
 refine ⟨by rw [m.nx];exact (jef _ _).symm,fun j=>?_,fun j hj=>?_⟩
 ·cases hq:s.h.get j with
  | some o=>rw [hh j o hq];rfl
  | none=>simp
 ·cases hq:s.h.get j with
  | some o=>rw [hq] at hj;exact zw rfl hj
  | none=>
   rw [hq] at hj
   refine ⟨?_,rfl⟩
   rcases zr j s.n with h1 | h1
   ·rw [show s.h.nx=s.n from jef _ _];exact h1
   ·exact zw (m.wf j h1) hj
def envB:Env->Env->Bool
 | [],[]=>true
 | (i,v) :: a,(j,u) :: b=>Nat.beq i j&&(V.same v u&&envB a b)
 | _,_=>false
theorem jhZ : ∀ {a b:Env},envB a b=true->a=b
 | [],[],_=>rfl
 | (i,v) :: a,(j,u) :: b,h=>by
  simp only [envB,zm] at h
  rw [Nat.eq_of_beq_eq_true h.1,V.same_eq h.2.1,jhZ h.2.2]
 | [],_ :: _,h=>by cases h
 | _ :: _,[],h=>by cases h
def hasB (h:H):List (Nat × Obj)->Bool
 | []=>true
 | p :: r=>(match h.get p.1 with
  | some o=>o.eqB p.2
  | none=>false)&&hasB h r
theorem jg5 {h:H} : ∀ {l:List (Nat × Obj)},hasB h l=true -> ∀ p∈l,h.get p.1=some p.2
 | q :: r,hb,p,hp=>by
  simp only [hasB,zm] at hb
  rcases zD.1 hp with rfl | hp
  ·obtain ⟨h1,_⟩:=hb
   split at h1
   ·next o ho=>rw [ho,Obj.eqB_eq h1]
   ·cases h1
  ·exact jg5 hb.2 p hp
def exB:Ex->Ex->Bool
 | .normal,.normal=>true
 | .ret,.ret=>true
 | .exit a,.exit b=>Nat.beq a b
 | _,_=>false
theorem exB_eq {a b:Ex} (h:exB a b=true):a=b:=by
 cases a<;>cases b<;>simp_all [exB]
def after (s:St) (x0:Ex):Res->Bool
 | some (x,e,h)=>exB x x0&&(envB e s.E&&(Nat.beq h.nx s.n&&(hasB h s.T&&Nat.ble (ttop h.t) s.n)))
 | none=>false
theorem jft {call:Call} (hC:jb7 call) (hG:jd9 call) {fuel:Nat} {l:List AC} {s s':St} {x0:Ex} {e:Env} (hk:after s' x0 (runL call fuel l e s.h)=true) {h:H} (m:Meets s h) : ∃ h',runL call fuel l e h=some (x0,s'.E,h')/\Meets s' h':=by
 unfold after at hk
 split at hk
 ·next x e1 h1 hr=>
  simp only [zm,zz] at hk
  obtain ⟨k1,k2,k3,k4,k5⟩:=hk
  obtain ⟨-,hf⟩:=ji1 hC hG fuel l _ _ _ _ _ hr
  obtain ⟨h2,e2,x2⟩:=hf _ h m.ext
  rw [exB_eq k1,jhZ k2] at e2
  refine ⟨h2,e2,?_,fun p hp=>x2.has (jg5 k4 p hp),fun j hj=>?_⟩
  ·rw [x2.nx];exact Nat.eq_of_beq_eq_true k3
  ·have hn:h1.get j=none:=jga h1.t j om
   rw [x2.get,hn]
   show none.or _=_
   rw [Option.none_or]
   cases hx:(match s.h.get j with | some _=>none | none=>h.get j) with
   | none=>rfl
   | some o=>
    have:=(x2.off j (by show (match s.h.get j with | some _=>none | none=>h.get j)≠none;rw [hx];simp)).1
    rw [Nat.eq_of_beq_eq_true k3] at this
    omega
 ·cases hk
theorem callsF (d:Nat):jb7 (jcg prog fuel d)/\jd9 (jcg prog fuel d):=by rw [je5];exact jbO primsF fuel d
theorem jhv {f d:Nat} {fn:AFn} {s:St} {h h':H} (hp:ja7 prog.prims f=none) (hf:ja7 prog.fns f=some fn) (hn:fn.np=0) (hr:runL (jcg prog fuel d) fuel (flat fn.body) [] h=some (.ret,s.E,h')) (hq:jbz s.E h' fn.res=some [.bool true]) :
  jaw prog fuel (d+1) (.fn f) [] h=some (.bool true,h'):=by
 rw [<- jdX,je5] at hr
 simp only [jaw,hp,hf,jcC,hn,Env.ofArgs,hr,hq]
 rfl
def q0:St:=⟨[],0,[]⟩
def q1:St:=⟨[(1,.bool true),(43,.slice (some (0,0)) 2 (.fix 2)),(44,.i 2),(45,.i 0)],1,[(0,.cells [.i 3,.i 4] false)]⟩
def q2:St:=⟨[(1,.bool true),(43,.slice (some (0,0)) 2 (.fix 2)),(44,.i 2),(45,.i 1)],587,[(0,.cells [.i 3,.i 4] false)]⟩
def q2a:St:=⟨[(1,.bool true),(43,.slice (some (0,0)) 2 (.fix 2)),(44,.i 2),(45,.i 1),(46,.bool true)],587,[(0,.cells [.i 3,.i 4] false)]⟩
def q2b:St:=⟨[(1,.bool true),(4,(.ptr (some (588,0)))),(8,(.ptr (some (620,0)))),(43,(.slice (some (0,0)) 2 (.fix 2))),(44,.i 2),(45,.i 1)],1338,[(0,.cells [.i 3,.i 4] false),(587,.cells [.bool false,.bool false,.bool true,.bool false,.bool false,.bool false,.bool false,.bool false,.bool false,.bool false,.bool false,.bool false,.bool false,.bool false,.bool false,.bool false,.bool false,.bool false,.bool false,.bool false,.bool false,.bool false,.bool false,.bool false,.bool false,.bool false,.bool false,.bool false,.bool false,.bool false,.bool false,.bool false,.i 0,.i 0,.i 0,.i 0,.i 0,.i 0,.i 0,.i 0,.i 0,.i 0,.i 0,.i 0,.i 0,.i 0,.i 0,.i 0,.i 0,.i 0,.i 0,.i 0,.i 0,.i 0,.i 0,.i 0,.i 0,.i 0,.i 0,.i 0,.i 0,.i 0,.i 0,.i 0] false),(588,.cells [.bool true,.i 0,.i 0,.bool true,.i 0,.i 1,.bool false,.i 0,.i 0,.bool false,.i 0,.i 0,.bool false,.i 0,.i 0,.bool false,.i 0,.i 0,.bool false,.i 0,.i 0,.bool false,.i 0,.i 0,.bool false,.i 0,.i 0,.bool false,.i 0,.i 0,.bool false,.i 0,.i 0,.bool false,.i 0,.i 0,.bool false,.i 0,.i 0,.bool false,.i 0,.i 0,.bool false,.i 0,.i 0,.bool false,.i 0,.i 0,.bool false,.i 0,.i 0,.bool false,.i 0,.i 0,.bool false,.i 0,.i 0,.bool false,.i 0,.i 0,.bool false,.i 0,.i 0,.bool false,.i 0,.i 0,.bool false,.i 0,.i 0,.bool false,.i 0,.i 0,.bool false,.i 0,.i 0,.bool false,.i 0,.i 0,.bool false,.i 0,.i 0,.bool false,.i 0,.i 0,.bool false,.i 0,.i 0,.bool false,.i 0,.i 0,.bool false,.i 0,.i 0,.bool false,.i 0,.i 0,.bool false,.i 0,.i 0,.bool false,.i 0,.i 0,.bool false,.i 0,.i 0,.bool false,.i 0,.i 0,.bool false,.i 0,.i 0,.bool false,.i 0,.i 0,.bool false,.i 0,.i 0,.bool false,.i 0,.i 0,.bool false,.i 0,.i 0,.bool false,.i 0,.i 0,.bool false,.i 0,.i 0,.bool false,.i 0,.i 0,.bool false,.i 0,.i 0,.bool false,.i 0,.i 0,.bool false,.i 0,.i 0,.bool false,.i 0,.i 0,.bool false,.i 0,.i 0,.bool false,.i 0,.i 0,.bool false,.i 0,.i 0,.bool false,.i 0,.i 0,.bool false,.i 0,.i 0,.bool false,.i 0,.i 0,.bool false,.i 0,.i 0,.bool false,.i 0,.i 0,.bool false,.i 0,.i 0,.bool false,.i 0,.i 0,.bool false,.i 0,.i 0,.bool false,.i 0,.i 0,.bool false,.i 0,.i 0,.bool false,.i 0,.i 0,.bool false,.i 0,.i 0,.bool false,.i 0,.i 0,.bool false,.i 0,.i 0,.bool false,.i 0,.i 0,.bool false,.i 0,.i 0,.bool false,.i 0,.i 0,.bool false,.i 0,.i 0,.bool false,.i 0,.i 0,.bool false,.i 0,.i 0,.bool false,.i 0,.i 0,.bool false,.i 0,.i 0,.bool false,.i 0,.i 0,.bool false,.i 0,.i 0,.bool false,.i 0,.i 0,.bool false,.i 0,.i 0,.bool false,.i 0,.i 0,.bool false,.i 0,.i 0,.bool false,.i 0,.i 0,.bool false,.i 0,.i 0,.bool false,.i 0,.i 0,.bool false,.i 0,.i 0,.bool false,.i 0,.i 0,.bool false,.i 0,.i 0,.bool false,.i 0,.i 0,.bool false,.i 0,.i 0,.bool false,.i 0,.i 0,.bool false,.i 0,.i 0,.bool false,.i 0,.i 0,.bool false,.i 0,.i 0,.bool false,.i 0,.i 0,.bool false,.i 0,.i 0,.bool false,.i 0,.i 0,.bool false,.i 0,.i 0,.bool false,.i 0,.i 0,(.slice (some (606,0)) 1 (.grow 1)),(.ptr (some (587,0))),(.int .u64 (0)),.bool true,.i 0,.i 0] false),(589,.cells [.i 1,.i 0,(.ptr (some (591,0))),.bool true,.bool false,(.int .u64 (1)),(.int .u64 (0)),.i 1,.i 1,(.ptr (some (593,0))),.bool true,.bool false,(.int .u64 (0)),(.int .u64 (1)),.bool false,.i 0,(.slice none 0 (.fix 0))] false),(590,.cells [(.int .u8 (1)),(.int .u8 (0)),(.int .u8 (0)),(.int .u8 (0))] false),(591,.cells [(.slice (some (590,0)) 4 (.fix 4)),.i 1,.i 0,(.int .u64 (1)),(.int .u64 (1)),.bool true] false),(592,.cells [(.int .u8 (0)),(.int .u8 (0)),(.int .u8 (0)),(.int .u8 (0))] false),(593,.cells [(.slice (some (592,0)) 4 (.fix 4)),.i 0,.i 0,(.int .u64 (0)),(.int .u64 (0)),.bool true] false),(606,.cells [(.ptr (some (589,0)))] false),(619,.cells [.i 0,.i 0,.i 0,.i 0,.i 0,.i 0,.i 0,.i 0,.i 0,.i 0,.i 0,.i 0,.i 0,.i 0,.i 0,.i 0,.i 0,.i 0,.i 0,.i 0,.i 0,.i 0,.i 0,.i 0,.i 0,.i 0,.i 0,.i 0,.i 0,.i 0,.i 0,.i 0,.i 0,.i 0,.i 0,.i 0,.i 0,.i 0,.i 0,.i 0,.i 0,.i 0,.i 0,.i 0,.i 0,.i 0,.i 0,.i 0,.i 0,.i 0,.i 0,.i 0,.i 0,.i 0,.i 0,.i 0,.i 0,.i 0,.i 0,.i 0,.i 0,.i 0,.i 0,.i 0,.i 0,.i 0,.i 0,.i 0,.i 0,.i 0,.i 0,.i 0,.i 0,.i 0,.i 0,.i 0,.i 0,.i 0,.i 0,.i 0,.i 0,.i 0,.i 0,.i 0,.i 0,.i 0,.i 0,.i 0,.i 0,.i 0,.i 0,.i 0,.i 0,.i 0,.i 0,.i 0,.i 0,.i 0,.i 0,.i 0,.i 0,.i 0,.i 0,.i 0,.i 0,.i 0,.i 0,.i 0,.i 0,.i 0,.i 0,.i 0,.i 0,.i 0,.i 0,.i 0,.i 0,.i 0,.i 0,.i 0,.i 0,.i 0,.i 0,.i 0,.i 0,.i 0,.i 0,.i 0,.i 0,.i 0,.i 0,.i 0,.i 0,.i 0,.i 0,.i 0,.i 0,.i 0,.i 0,.i 0,.i 0,.i 0,.i 0,.i 0,.i 0,.i 0,.i 0,.i 0,.i 0,.i 0,.i 0,.i 0,.i 0,.i 0,.i 0,.i 0,.i 0,.i 0,.i 0,.i 0,.i 0,.i 0,.i 0,.i 0,.i 0,.i 0,.i 0,.i 0,.i 0,.i 0,.i 0,.i 0,.i 0,.i 0,.i 0,.i 0,.i 0,.i 0,.i 0,.i 0,.i 0,.i 0,.i 0,.i 0,.i 0,.i 0,.i 0,.i 0,.i 0,.i 0,.i 0,.i 0,.bool true] false),(620,.cells [(.ptr (some (588,0))),(.iface 83 (.ptr (some (623,0)))),(.ptr (some (619,0))),.i 9,.i 0,.i 0] false),(621,.map [((.agg [.i 1,.i 3]),(.agg [.i 0,.i 0,.bool true,(.int .u64 (0))]),0),((.agg [.i 2,.i 3]),(.agg [.i 0,.i 0,.bool false,(.int .u64 (0))]),1),((.agg [.i 3,.i 3]),(.agg [.i 0,.i 0,.bool true,(.int .u64 (0))]),2),((.agg [.i 4,.i 3]),(.agg [.i 0,.i 0,.bool true,(.int .u64 (0))]),3),((.agg [.i 5,.i 3]),(.agg [.i 0,.i 0,.bool true,(.int .u64 (0))]),4),((.agg [.i 6,.i 3]),(.agg [.i 0,.i 0,.bool true,(.int .u64 (0))]),5),((.agg [.i 7,.i 3]),(.agg [.i 0,.i 0,.bool true,(.int .u64 (0))]),6),((.agg [.i 8,.i 3]),(.agg [.i 0,.i 0,.bool true,(.int .u64 (0))]),7),((.agg [.i 9,.i 3]),(.agg [.i 0,.i 0,.bool true,(.int .u64 (0))]),8),((.agg [.i 10,.i 3]),(.agg [.i 0,.i 0,.bool true,(.int .u64 (0))]),9),((.agg [.i 11,.i 3]),(.agg [.i 0,.i 0,.bool true,(.int .u64 (0))]),10),((.agg [.i 12,.i 3]),(.agg [.i 0,.i 0,.bool true,(.int .u64 (0))]),11),((.agg [.i 13,.i 3]),(.agg [.i 0,.i 0,.bool true,(.int .u64 (0))]),12),((.agg [.i 14,.i 3]),(.agg [.i 0,.i 0,.bool true,(.int .u64 (0))]),13),((.agg [.i 15,.i 3]),(.agg [.i 0,.i 0,.bool true,(.int .u64 (0))]),14),((.agg [.i 16,.i 3]),(.agg [.i 0,.i 0,.bool true,(.int .u64 (0))]),15),((.agg [.i 17,.i 3]),(.agg [.i 0,.i 0,.bool true,(.int .u64 (0))]),16),((.agg [.i 18,.i 3]),(.agg [.i 0,.i 0,.bool true,(.int .u64 (0))]),17),((.agg [.i 19,.i 3]),(.agg [.i 0,.i 0,.bool true,(.int .u64 (0))]),18),((.agg [.i 20,.i 3]),(.agg [.i 0,.i 0,.bool true,(.int .u64 (0))]),19),((.agg [.i 21,.i 3]),(.agg [.i 0,.i 0,.bool true,(.int .u64 (0))]),20),((.agg [.i 22,.i 3]),(.agg [.i 0,.i 0,.bool true,(.int .u64 (0))]),21),((.agg [.i 23,.i 3]),(.agg [.i 0,.i 0,.bool true,(.int .u64 (0))]),22),((.agg [.i 24,.i 3]),(.agg [.i 0,.i 0,.bool true,(.int .u64 (0))]),23),((.agg [.i 25,.i 3]),(.agg [.i 0,.i 0,.bool true,(.int .u64 (0))]),24),((.agg [.i 26,.i 3]),(.agg [.i 0,.i 0,.bool true,(.int .u64 (0))]),25),((.agg [.i 27,.i 3]),(.agg [.i 0,.i 0,.bool true,(.int .u64 (0))]),26),((.agg [.i 28,.i 3]),(.agg [.i 0,.i 0,.bool true,(.int .u64 (0))]),27),((.agg [.i 29,.i 3]),(.agg [.i 0,.i 0,.bool true,(.int .u64 (0))]),28),((.agg [.i 30,.i 3]),(.agg [.i 0,.i 0,.bool true,(.int .u64 (0))]),29),((.agg [.i 31,.i 3]),(.agg [.i 0,.i 0,.bool true,(.int .u64 (0))]),30)] 31),(622,.cells [(.ptr (some (588,0))),(.map (some 621))] false),(623,.cells [(.ptr (some (622,0)))] false)]⟩
def q2c:St:=⟨[(1,.bool true),(43,.slice (some (0,0)) 2 (.fix 2)),(44,.i 2),(45,.i 1)],2601,[(0,.cells [.i 3,.i 4] false)]⟩
def q3:St:=⟨[(1,.bool true),(43,.slice (some (0,0)) 2 (.fix 2)),(44,.i 2),(45,.i 2)],2601,[(0,.cells [.i 3,.i 4] false)]⟩
def q4:St:=⟨[(1,.bool true),(43,.slice (some (0,0)) 2 (.fix 2)),(44,.i 2),(45,.i 2),(46,.bool false)],2601,[(0,.cells [.i 3,.i 4] false)]⟩
def q5:St:=⟨[(0,.bool true)],3412,[]⟩
def qL:AC:=((flat c3.body).drop 3).headD .skip
def qB:AC:=match qL with
 | .block _ (.loop _ b)=>b
 | _=>.skip
def qC:AC:=match ((flat qB).drop 2).headD .skip with
 | .block _ b=>b
 | _=>.skip
theorem qL_eq:qL = .block 0 (.loop [1,43,44,45] qB):=by rfl
theorem qB_eq:flat qB=(flat qB).take 2++(.block 1 qC :: (flat qB).drop 3):=by rfl
theorem qC_eq:flat qC=(flat qC).take 11++(flat qC).drop 11:=(List.take_append_drop 11 _).symm
theorem qs_eq:flat c3.body=(flat c3.body).take 3++(qL :: (flat c3.body).drop 4):=by rfl
set_option maxRecDepth 100000 in
theorem qk1:after q1 .normal (runL (jcg prog fuel 59) fuel ((flat c3.body).take 3) q0.E q0.h)=true:=by kernel_rfl
set_option maxRecDepth 100000 in
theorem qk2:after q2 .normal (runL (jcg prog fuel 59) fuel (flat qB) (q1.E.only [1,43,44,45]) q1.h)=true:=by kernel_rfl
set_option maxRecDepth 100000 in
theorem qk3a:after q2a .normal (runL (jcg prog fuel 59) fuel ((flat qB).take 2) (q2.E.only [1,43,44,45]) q2.h)=true:=by kernel_rfl
set_option maxRecDepth 100000 in
theorem qk3b:after q2b .normal (runL (jcg prog fuel 59) fuel ((flat qC).take 11) q2a.E q2a.h)=true:=by kernel_rfl
set_option maxRecDepth 100000 in
theorem qk3c:after q2c .normal (runL (jcg prog fuel 59) fuel ((flat qC).drop 11) q2b.E q2b.h)=true:=by kernel_rfl
set_option maxRecDepth 100000 in
theorem qk3d:after q3 .normal (runL (jcg prog fuel 59) fuel ((flat qB).drop 3) q2c.E q2c.h)=true:=by kernel_rfl
set_option maxRecDepth 100000 in
theorem qk4:after q4 (.exit 0) (runL (jcg prog fuel 59) fuel (flat qB) (q3.E.only [1,43,44,45]) q3.h)=true:=by kernel_rfl
set_option maxRecDepth 100000 in
theorem qk5:after q5 .ret (runL (jcg prog fuel 59) fuel ((flat c3.body).drop 4) q4.E q4.h)=true:=by kernel_rfl
theorem jd8 {cl:Nat->Call} (hcl : ∀ d,cl d=jaw prog fuel d) {h0:H} (hnx:h0.nx=0) (hwf : ∀ b,0<=b->h0.get b=none) :
  ∃ h',cl 60 (.fn 3) [] h0=some (.bool true,h'):=by
 obtain ⟨hC,hG⟩:=callsF 59
 have m0:Meets q0 h0:=⟨hnx,fun p hp=>(by cases hp),hwf⟩
 obtain ⟨h1,r1,m1⟩:=jft hC hG qk1 m0
 obtain ⟨h2,r2,m2⟩:=jft hC hG qk2 m1
 obtain ⟨ha,ra,ma⟩:=jft hC hG qk3a m2
 obtain ⟨hb,rb,mb⟩:=jft hC hG qk3b ma
 obtain ⟨hc,rc,mc⟩:=jft hC hG qk3c mb
 obtain ⟨h3,rd,m3⟩:=jft hC hG qk3d mc
 have r3:runL (jcg prog fuel 59) fuel (flat qB) (q2.E.only [1,43,44,45]) h2=some (.normal,q3.E,h3):=by
  rw [qB_eq]
  refine jfL ra (jhT (jhz ?_) rd)
  rw [jdX,qC_eq]
  exact jfL rb rc
 obtain ⟨h4,r4,m4⟩:=jft hC hG qk4 m3
 obtain ⟨h5,r5,m5⟩:=jft hC hG qk5 m4
 refine ⟨h5,?_⟩
 rw [hcl]
 refine jhv (s:=q5) (fn:=c3) (by rfl) (by rfl) (by rfl) ?_ (by rfl)
 rw [qs_eq]
 refine jfL r1 (jhT (e1:=q4.E) (h1:=h4) ?_ r5)
 rw [qL_eq]
 exact block_exit (jeZ r2 (jeZ r3 (loop_exit r4)))
end Am.Sigs
