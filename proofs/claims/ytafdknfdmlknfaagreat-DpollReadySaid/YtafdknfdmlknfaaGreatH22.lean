/- Our own library, part 22. -/
import Derived.Test.YtafdknfdmlknfaaGreatH14
import Derived.Test.YtafdknfdmlknfaaGreatH16
import Derived.Test.YtafdknfdmlknfaaGreatH15
import Derived.Test.YtafdknfdmlknfaaGreatH18
import Derived.Test.YtafdknfdmlknfaaGreatH20
set_option maxHeartbeats 8000000
set_option maxRecDepth 800
set_option linter.all false
namespace Am.Sigs
open Am Go
def mk (f:Nat->Bool):Nat->Nat
 | 0=>0
 | n+1=>mk f n+if f n then 2 ^ n else 0
theorem jgL (f:Nat->Bool) : ∀ n,mk f n<2 ^ n
 | 0=>by simp [mk]
 | n+1=>by
  have:=jgL f n
  rw [mk,Nat.pow_succ]
  split<;>omega
theorem jej (f:Nat->Bool) : ∀ n i,(mk f n).testBit i=(decide (i<n)&&f i)
 | 0,i=>by simp [mk]
 | n+1,i=>by
  have ih:=jej f n i
  have hlt:=jgL f n
  rw [mk]
  by_cases hf:f n=true
  ·rw [zG hf,Nat.add_comm]
   by_cases hi:i=n
   ·subst hi
    rw [Nat.testBit_two_pow_add_eq,ih]
    simp [hf]
   ·by_cases h2:i<n
    ·rw [Nat.testBit_two_pow_add_gt h2,ih]
     simp [h2,show i<n+1 by omega]
    ·have:2 ^ n+mk f n<2 ^ i:=by
      have h3:2 ^ (n+1)<=2 ^ i:=Nat.pow_le_pow_right om om
      rw [Nat.pow_succ] at h3
      omega
     rw [Nat.testBit_lt_two_pow this]
     simp [show ¬ i<n+1 by omega]
  ·rw [zF hf,Nat.add_zero,ih]
   by_cases hi:i=n
   ·subst hi;simp [hf]
   ·by_cases h2:i<n
    ·simp [h2,show i<n+1 by omega]
    ·simp [h2,show ¬ i<n+1 by omega]
theorem jlN {f:Nat->Bool} {n m:Nat} (hm:m<2 ^ n) (h : ∀ i,i<n->m.testBit i=f i):m=mk f n:=by
 apply Nat.eq_of_testBit_eq
 intro i
 rw [jej]
 by_cases hi:i<n
 ·rw [h i hi];simp [hi]
 ·rw [Nat.testBit_lt_two_pow (zu hm (Nat.pow_le_pow_right om om))];simp [hi]
theorem jdr {f g:Nat->Bool} {n:Nat} (h : ∀ i,i<n->f i=g i):mk f n=mk g n :=
 jlN (jgL f n) fun i hi=>by rw [jej,h i hi];simp [hi]
theorem jl3 {n:Nat} (h:n<4294967296):IntKind.u32.wrap (n:Int)=(n:Int):=by
 have:IntKind.u32.wrap (n:Int)=(n:Int)%4294967296:=by simp [IntKind.wrap,IntKind.bits,IntKind.signed]
 rw [this];omega
theorem bv32 {n:Nat} (h:n<4294967296):(BitVec.ofInt 32 (n:Int)).toNat=n:=by
 simp [BitVec.ofInt];omega
theorem or32 (f g:Nat->Bool):IntKind.u32.wrap ((BitVec.ofInt 32 ((mk f 32:Nat):Int) ||| BitVec.ofInt 32 ((mk g 32:Nat):Int)).toNat:Int)=((mk (fun i=>f i||g i) 32:Nat):Int):=by
 have h1:=jgL f 32
 have h2:=jgL g 32
 have e:(BitVec.ofInt 32 ((mk f 32:Nat):Int) ||| BitVec.ofInt 32 ((mk g 32:Nat):Int)).toNat=mk (fun i=>f i||g i) 32:=by
  rw [BitVec.toNat_or,bv32 h1,bv32 h2]
  refine jlN (Nat.or_lt_two_pow h1 h2) fun i hi=>?_
  rw [Nat.testBit_or,jej,jej];simp [hi]
 rw [e,jl3 (jgL _ 32)]
theorem joR (f g:Nat->Bool):IntKind.u32.wrap ((BitVec.ofInt 32 ((mk f 32:Nat):Int) &&& ~~~(BitVec.ofInt 32 ((mk g 32:Nat):Int))).toNat:Int)=((mk (fun i=>f i && !g i) 32:Nat):Int):=by
 have h1:=jgL f 32
 have h2:=jgL g 32
 have e:(BitVec.ofInt 32 ((mk f 32:Nat):Int) &&& ~~~(BitVec.ofInt 32 ((mk g 32:Nat):Int))).toNat=mk (fun i=>f i && !g i) 32:=by
  refine jlN (BitVec.isLt _) fun i hi=>?_
  rw [<- BitVec.getLsbD,BitVec.getLsbD_and,BitVec.getLsbD_not]
  rw [BitVec.getLsbD,BitVec.getLsbD,bv32 h1,bv32 h2,jej,jej]
  simp [hi]
 rw [e,jl3 (jgL _ 32)]
theorem jpl (f:Nat->Bool) {k:Nat} (hk:k<32):IntKind.u32.wrap ((BitVec.ofInt 32 (((mk f 32:Nat):Int).fdiv (2 ^ (Nat.min k 32))) &&& BitVec.ofInt 32 1).toNat:Int)=if f k then 1 else 0:=by
 have h1:=jgL f 32
 have e0:((mk f 32:Nat):Int).fdiv (2 ^ (Nat.min k 32))=((mk f 32/2 ^ k:Nat):Int):=by
  rw [show Nat.min k 32=k from Nat.min_eq_left om,Int.fdiv_eq_ediv_of_nonneg _ (by exact Int.le_of_lt (Int.pow_pos om))]
  simp
 have h2:mk f 32/2 ^ k<4294967296:=Nat.lt_of_le_of_lt (Nat.div_le_self _ _) h1
 rw [e0]
 have e:(BitVec.ofInt 32 ((mk f 32/2 ^ k:Nat):Int) &&& BitVec.ofInt 32 1).toNat=(mk f 32/2 ^ k)%2:=by
  rw [BitVec.toNat_and,bv32 h2]
  show (mk f 32/2 ^ k) &&& 1=_
  exact Nat.and_one_is_mod _
 rw [e,jl3 om]
 have h3:=jej f 32 k
 rw [Nat.testBit_eq_decide_div_mod_eq] at h3
 simp only [hk,decide_true,Bool.true_and] at h3
 rw [<- h3]
 by_cases h4:mk f 32/2 ^ k%2=1
 ·simp [h4]
 ·have:mk f 32/2 ^ k%2=0:=by omega
  simp [this]
theorem shl32 {k:Nat} (hk:k<32):IntKind.u32.wrap (1*2 ^ (Nat.min k 32))=((mk (fun i=>decide (i=k)) 32:Nat):Int):=by
 have e:mk (fun i=>decide (i=k)) 32=2 ^ k:=by
  refine (jlN (Nat.pow_lt_pow_right om hk) fun i hi=>?_).symm
  rw [Nat.testBit_two_pow]
  by_cases h:k=i
  ·subst h;simp
  ·rw [zH h,zH (fun e=>h e.symm)]
 rw [e,show Nat.min k 32=k from Nat.min_eq_left om]
 have h2:2 ^ k<2 ^ 32:=Nat.pow_lt_pow_right om hk
 have:=jl3 (n:=2 ^ k) h2
 rw [<- this]
 congr 1
 simp
def setV (f:Nat->Bool):List V:=[.int .u32 ((mk f 32:Nat):Int),.int .u32 ((mk (fun i=>f (i+32)) 32:Nat):Int)]
theorem jbv {f g:Nat->Bool} (h : ∀ i,i<64->f i=g i):setV f=setV g:=by
 unfold setV
 rw [jdr (f:=f) (g:=g) fun i hi=>h i om,jdr (f:=fun i=>f (i+32)) (g:=fun i=>g (i+32)) fun i hi=>h (i+32) om]
theorem jnM : ∀ n,mk (fun _=>false) n=0
 | 0=>rfl
 | n+1=>by rw [mk,jnM n];rfl
theorem jfx:setV (fun _=>false)=[.int .u32 0,.int .u32 0]:=by unfold setV;rw [jnM];rfl
def fitS (fd:Int):Prop:=0<=fd/\fd<64
instance (fd:Int):Decidable (fitS fd):=inferInstanceAs (Decidable (_/\_))
section
variable {call:Call} {fuel base:Nat} {K:List Fr} {e:Env} {h:H} {Q:Post} {ix:Nat} {dst at_:Option Nat} {ops:List Ins} {keep:List Nat}
theorem Ops.shl32 {x y:Opd} {a b:Int} (hx:x.ev e=some (.int .u32 a)) (hy:y.ev e=some (.i b)) (hb:0<=b) (k:Ops call fuel base ops keep K (layv e dst (.int .u32 (IntKind.u32.wrap (a*2 ^ (Nat.min b.toNat 32))))) h Q) :
  Ops call fuel base (⟨ix,dst,.bin .shl x y,none,at_,[]⟩ :: ops) keep K e h Q:=by
 refine zau rfl ?_ k
 simp only [I.pure,hx,hy]
 have:decide (b<0)=false:=zH om
 simp only [binOp,jbV,Bool.true_or,cond_true,jdw,this,cond_false]
 rfl
end
section
variable {cl:Nat->Call} (hcl:Sem cl)
include hcl
theorem jlg {d:Nat} {fd:Int} {h:H} (hd:1<=d):cl d (.fn 131) [.i fd] h=some (.bool (decide (fitS fd)),h):=by
 refine jan (aT hcl ?_)
 unfold fitS
 by_cases h1:0<=fd
 ·by_cases h2:fd<64
  ·refine Ga ?_
   exact ⟨by simp [h1,h2],rfl⟩
  ·refine Ga ?_
   exact ⟨by simp [h1,h2],rfl⟩
 ·refine Ga ?_
  exact ⟨by simp [h1],rfl⟩
theorem jnV {d:Nat} {f:Nat->Bool} {fd:Int} {h:H} (hd:2<=d):cl d (.fn 192) [.agg (setV f),.i fd] h=some (.bool (decide (fitS fd)&&f fd.toNat),h.new (.cells (setV f) false)):=by
 have e1:=jlg hcl (d:=d-1) (fd:=fd) (h:=h.new (.cells (setV f) false)) om
 refine jan (aT hcl ?_)
 by_cases hf:fitS fd
 case neg=>
  rw [zH hf] at e1 ⊢
  refine qm ?_
  exact ⟨rfl,rfl⟩
 rw [zJ hf] at e1 ⊢
 obtain ⟨m,rfl⟩:=zC hf.1
 have h2:=hf.2
 by_cases h32:m<32
 ·have hq:IntKind.i64.wrap ((m:Int).tdiv 32)=0:=by
   rw [Zk om,show (m:Int)/32=0 by omega];rfl
  have hr:(m:Int).tmod 32=(m:Int):=by rw [Zj om];omega
  clear hf
  refine qm ?_
  rw [hq]
  refine qm ?_
  refine ⟨?_,rfl⟩
  rw [hr,zz,Bool.true_and]
  have hb:(IntKind.u32.wrap ↑(BitVec.ofInt IntKind.u32.bits (((mk f 32:Nat):Int).fdiv (2 ^ (m.min IntKind.u32.bits))) &&& BitVec.ofInt IntKind.u32.bits 1).toNat:Int)=if f m then 1 else 0:=jpl f h32
  rw [hb]
  cases f m<;>rfl
 ·obtain ⟨k,rfl⟩ : ∃ k,m=k+32:=⟨m-32,by omega⟩
  have hk:k<32:=by omega
  have hq:IntKind.i64.wrap (((k+32:Nat):Int).tdiv 32)=1:=by
   rw [Zk om,show ((k+32:Nat):Int)/32=1 by omega];rfl
  have hr:((k+32:Nat):Int).tmod 32=(k:Int):=by rw [Zj om];omega
  clear hf
  refine qm ?_
  rw [hq]
  refine qm ?_
  refine ⟨?_,rfl⟩
  rw [hr,zz,zz,Bool.true_and]
  have hb:(IntKind.u32.wrap ↑(BitVec.ofInt IntKind.u32.bits (((mk (fun i=>f (i+32)) 32:Nat):Int).fdiv (2 ^ (k.min IntKind.u32.bits))) &&& BitVec.ofInt IntKind.u32.bits 1).toNat:Int)=if f (k+32) then 1 else 0:=jpl (fun i=>f (i+32)) hk
  rw [hb]
  cases f (k+32)<;>rfl
end
attribute [irreducible] mk
end Am.Sigs
namespace Am.Sigs
open Am Go
def addS (f:Nat->Bool) (k:Nat):Nat->Bool:=fun i=>f i||decide (i=k)
def delS (f:Nat->Bool) (k:Nat):Nat->Bool:=fun i=>f i && !decide (i=k)
def orS (f g:Nat->Bool):Nat->Bool:=fun i=>f i||g i
def noS:Nat->Bool:=fun _=>false
theorem add_lo (f:Nat->Bool) {k:Nat} (hk:k<32):setV (addS f k)=[.int .u32 ((mk (fun i=>f i||decide (i=k)) 32:Nat):Int),.int .u32 ((mk (fun i=>f (i+32)) 32:Nat):Int)]:=by
 unfold setV addS
 rw [jdr (f:=fun i=>f (i+32)||decide (i+32=k)) (g:=fun i=>f (i+32)) fun i _=>by rw [zH om,Bool.or_false]]
theorem add_hi (f:Nat->Bool) {k:Nat} : setV (addS f (k+32))=[.int .u32 ((mk f 32:Nat):Int),.int .u32 ((mk (fun i=>f (i+32)||decide (i=k)) 32:Nat):Int)]:=by
 unfold setV addS
 rw [jdr (f:=fun i=>f i||decide (i=k+32)) (g:=f) fun i hi=>by rw [zH om,Bool.or_false],
  jdr (f:=fun i=>f (i+32)||decide (i+32=k+32)) (g:=fun i=>f (i+32)||decide (i=k)) fun i _=>by simp]
theorem del_lo (f:Nat->Bool) {k:Nat} (hk:k<32):setV (delS f k)=[.int .u32 ((mk (fun i=>f i && !decide (i=k)) 32:Nat):Int),.int .u32 ((mk (fun i=>f (i+32)) 32:Nat):Int)]:=by
 unfold setV delS
 rw [jdr (f:=fun i=>f (i+32) && !decide (i+32=k)) (g:=fun i=>f (i+32)) fun i _=>by rw [zH om];simp]
theorem del_hi (f:Nat->Bool) {k:Nat} : setV (delS f (k+32))=[.int .u32 ((mk f 32:Nat):Int),.int .u32 ((mk (fun i=>f (i+32) && !decide (i=k)) 32:Nat):Int)]:=by
 unfold setV delS
 rw [jdr (f:=fun i=>f i && !decide (i=k+32)) (g:=f) fun i hi=>by rw [zH om];simp,
  jdr (f:=fun i=>f (i+32) && !decide (i+32=k+32)) (g:=fun i=>f (i+32) && !decide (i=k)) fun i _=>by simp]
section
variable {cl:Nat->Call} (hcl:Sem cl) {f g:Nat->Bool} {fd:Int} {h:H}
include hcl
theorem jpj {d:Nat} (hd:1<=d) : ∃ h',cl d (.fn 182) [.agg (setV f),.agg (setV g)] h=some (.agg (setV (orS f g)),h')/\Old h h':=by
 refine jai (aT hcl ?_)
 have e1:=or32 f g
 have e2:=or32 (fun i=>f (i+32)) (fun i=>g (i+32))
 have e3:[V.int .u32 (IntKind.u32.wrap ((BitVec.ofInt 32 ((mk f 32:Nat):Int) ||| BitVec.ofInt 32 ((mk g 32:Nat):Int)).toNat:Int)),V.int .u32 (IntKind.u32.wrap ((BitVec.ofInt 32 ((mk (fun i=>f (i+32)) 32:Nat):Int) ||| BitVec.ofInt 32 ((mk (fun i=>g (i+32)) 32:Nat):Int)).toNat:Int))]=setV (orS f g):=by
  unfold setV orS;rw [e1,e2]
 refine qm ?_
 refine jcN (l:=setV (orS f g)) rfl ((jab _).trans (by rw [<- e3];rfl)) rfl ⟨rfl,?_⟩
 exact (ZD h).new.new.new.set (by simp<;>omega)
def jcU (f:Nat->Bool) (fd:Int):Nat->Bool:=if fitS fd then addS f fd.toNat else noS
theorem jh9 {d:Nat} (hd:2<=d) : ∃ h',cl d (.fn 97) [.agg (setV f),.i fd] h=some (.tup [.agg (setV (jcU f fd)),.i (if fitS fd then 0 else 10)],h')/\Old h h':=by
 have e0:=fun G=>jlg hcl (d:=d-1) (fd:=fd) (h:=G) om
 refine jai (aT hcl ?_)
 unfold jcU
 by_cases hf:fitS fd
 case neg=>
  rw [zF hf,zF hf]
  have e0:=e0 ((h.new (.cells (setV f) false)).new (.cells [.int .u32 0,.int .u32 0] false))
  rw [zH hf] at e0
  refine qm ?_
  refine zcf (resN rfl (jab _) (zw rfl) rfl) ⟨?_,(ZD h).new.new.set Zd⟩
  unfold noS;rw [jfx];rfl
 rw [zG hf,zG hf]
 have e0:=e0 ((h.new (.cells (setV f) false)).new (.cells [.int .u32 0,.int .u32 0] false))
 rw [zJ hf] at e0
 obtain ⟨m,rfl⟩:=zC hf.1
 have h2:=hf.2
 rw [zz]
 by_cases h32:m<32
 ·have hq:IntKind.i64.wrap ((m:Int).tdiv 32)=0:=by
   rw [Zk om,show (m:Int)/32=0 by omega];rfl
  have hr:(m:Int).tmod 32=(m:Int):=by rw [Zj om];omega
  have e1:=or32 f (fun i=>decide (i=m))
  rw [<- shl32 h32] at e1
  clear hf
  refine qm ?_
  rw [hq]
  refine qm ?_
  rw [hr,zz]
  have e2:(setV f).set (0+Int.toNat 0*1) (V.int .u32 (IntKind.u32.wrap ((BitVec.ofInt IntKind.u32.bits ((mk f 32:Nat):Int) ||| BitVec.ofInt IntKind.u32.bits (IntKind.u32.wrap (1*2 ^ m.min IntKind.u32.bits))).toNat:Int)))=setV (addS f m):=by
   rw [add_lo f h32]
   show [V.int .u32 (IntKind.u32.wrap ((BitVec.ofInt 32 ((mk f 32:Nat):Int) ||| BitVec.ofInt 32 (IntKind.u32.wrap (1*2 ^ m.min 32))).toNat:Int)),_]=_
   rw [e1]
  rw [e2]
  have e3:List.take 2 (List.drop 0 (setV (addS f m)))=setV (addS f m):=rfl
  rw [e3]
  refine zct (vs:=setV (addS f m)) (l:=[.int .u32 0,.int .u32 0]) (b:=h.nx+1) rfl rfl rfl rfl qgt (zw rfl) ?_
  rw [jas (setV (addS f m)) [.int .u32 0,.int .u32 0] rfl]
  refine qm ?_
  refine zcf (resN rfl (jab _) (zw rfl) rfl) ⟨rfl,?_⟩
  exact ((ZD h).new.new.set (zr _)).set om
 ·obtain ⟨k,rfl⟩ : ∃ k,m=k+32:=⟨m-32,by omega⟩
  have hk:k<32:=by omega
  have hq:IntKind.i64.wrap (((k+32:Nat):Int).tdiv 32)=1:=by
   rw [Zk om,show ((k+32:Nat):Int)/32=1 by omega];rfl
  have hr:((k+32:Nat):Int).tmod 32=(k:Int):=by rw [Zj om];omega
  have e1:=or32 (fun i=>f (i+32)) (fun i=>decide (i=k))
  rw [<- shl32 hk] at e1
  clear hf
  refine qm ?_
  rw [hq]
  refine qm ?_
  rw [hr,zz]
  have e2:(setV f).set (0+Int.toNat 1*1) (V.int .u32 (IntKind.u32.wrap ((BitVec.ofInt IntKind.u32.bits ((mk (fun i=>f (i+32)) 32:Nat):Int) ||| BitVec.ofInt IntKind.u32.bits (IntKind.u32.wrap (1*2 ^ k.min IntKind.u32.bits))).toNat:Int)))=setV (addS f (k+32)):=by
   rw [add_hi f]
   show [_,V.int .u32 (IntKind.u32.wrap ((BitVec.ofInt 32 ((mk (fun i=>f (i+32)) 32:Nat):Int) ||| BitVec.ofInt 32 (IntKind.u32.wrap (1*2 ^ k.min 32))).toNat:Int))]=_
   rw [e1]
  rw [e2]
  have e3:List.take 2 (List.drop 0 (setV (addS f (k+32))))=setV (addS f (k+32)):=rfl
  rw [e3]
  refine zct (vs:=setV (addS f (k+32))) (l:=[.int .u32 0,.int .u32 0]) (b:=h.nx+1) rfl rfl rfl rfl qgt (zw rfl) ?_
  rw [jas (setV (addS f (k+32))) [.int .u32 0,.int .u32 0] rfl]
  refine qm ?_
  refine zcf (resN rfl (jab _) (zw rfl) rfl) ⟨rfl,?_⟩
  exact ((ZD h).new.new.set (zr _)).set om
theorem jmR {d m:Nat} (hd:2<=d) (hm:m<64) : ∃ h',cl d (.fn 195) [.agg (setV f),.i (m:Int)] h=some (.agg (setV (delS f m)),h')/\Old h h':=by
 have e0:=jlg hcl (d:=d-1) (fd:=(m:Int)) (h:=(h.new (.cells (setV f) false)).new (.cells [.int .u32 0,.int .u32 0] false)) om
 refine jai (aT hcl ?_)
 rw [zJ (show fitS (m:Int) from ⟨by omega,by omega⟩)] at e0
 by_cases h32:m<32
 ·have hq:IntKind.i64.wrap ((m:Int).tdiv 32)=0:=by
   rw [Zk om,show (m:Int)/32=0 by omega];rfl
  have hr:(m:Int).tmod 32=(m:Int):=by rw [Zj om];omega
  have e1:=joR f (fun i=>decide (i=m))
  rw [<- shl32 h32] at e1
  refine qm ?_
  rw [hq]
  refine qm ?_
  rw [hr,zz]
  have e2:(setV f).set (0+Int.toNat 0*1) (V.int .u32 (IntKind.u32.wrap ((BitVec.ofInt IntKind.u32.bits ((mk f 32:Nat):Int) &&& ~~~BitVec.ofInt IntKind.u32.bits (IntKind.u32.wrap (1*2 ^ m.min IntKind.u32.bits))).toNat:Int)))=setV (delS f m):=by
   rw [del_lo f h32]
   show [V.int .u32 (IntKind.u32.wrap ((BitVec.ofInt 32 ((mk f 32:Nat):Int) &&& ~~~BitVec.ofInt 32 (IntKind.u32.wrap (1*2 ^ m.min 32))).toNat:Int)),_]=_
   rw [e1]
  rw [e2]
  refine qm ?_
  have e3:List.take 2 (List.drop 0 (setV (delS f m)))=setV (delS f m):=rfl
  rw [e3]
  refine zct (vs:=setV (delS f m)) (l:=[.int .u32 0,.int .u32 0]) (b:=h.nx+1) rfl rfl rfl rfl qgt (zw rfl) ?_
  rw [jas (setV (delS f m)) [.int .u32 0,.int .u32 0] rfl]
  refine qm ?_
  refine jcN (l:=setV (delS f m)) rfl (jab _) rfl ⟨rfl,?_⟩
  exact ((ZD h).new.new.set (zr _)).set om
 ·obtain ⟨k,rfl⟩ : ∃ k,m=k+32:=⟨m-32,by omega⟩
  have hk:k<32:=by omega
  have hq:IntKind.i64.wrap (((k+32:Nat):Int).tdiv 32)=1:=by
   rw [Zk om,show ((k+32:Nat):Int)/32=1 by omega];rfl
  have hr:((k+32:Nat):Int).tmod 32=(k:Int):=by rw [Zj om];omega
  have e1:=joR (fun i=>f (i+32)) (fun i=>decide (i=k))
  rw [<- shl32 hk] at e1
  refine qm ?_
  rw [hq]
  refine qm ?_
  rw [hr,zz]
  have e2:(setV f).set (0+Int.toNat 1*1) (V.int .u32 (IntKind.u32.wrap ((BitVec.ofInt IntKind.u32.bits ((mk (fun i=>f (i+32)) 32:Nat):Int) &&& ~~~BitVec.ofInt IntKind.u32.bits (IntKind.u32.wrap (1*2 ^ k.min IntKind.u32.bits))).toNat:Int)))=setV (delS f (k+32)):=by
   rw [del_hi f]
   show [_,V.int .u32 (IntKind.u32.wrap ((BitVec.ofInt 32 ((mk (fun i=>f (i+32)) 32:Nat):Int) &&& ~~~BitVec.ofInt 32 (IntKind.u32.wrap (1*2 ^ k.min 32))).toNat:Int))]=_
   rw [e1]
  rw [e2]
  refine qm ?_
  have e3:List.take 2 (List.drop 0 (setV (delS f (k+32))))=setV (delS f (k+32)):=rfl
  rw [e3]
  refine zct (vs:=setV (delS f (k+32))) (l:=[.int .u32 0,.int .u32 0]) (b:=h.nx+1) rfl rfl rfl rfl qgt (zw rfl) ?_
  rw [jas (setV (delS f (k+32))) [.int .u32 0,.int .u32 0] rfl]
  refine qm ?_
  refine jcN (l:=setV (delS f (k+32))) rfl (jab _) rfl ⟨rfl,?_⟩
  exact ((ZD h).new.new.set (zr _)).set om
end
def jay (f:Nat->Bool):Nat->List Int
 | 0=>[]
 | n+1=>jay f n++if f n then [(n:Int)] else []
theorem jem (f:Nat->Bool) : ∀ n,(jay f n).length<=n
 | 0=>zr _
 | n+1=>by
  have:=jem f n
  simp only [jay,zg]
  split<;>simp<;>omega
def jdf (f:Nat->Bool) (n:Int):Nat->Bool:=fun i=>f i&&decide ((i:Int)<n)
def jaW (f:Nat->Bool) (n:Int) (k:Nat):Nat->Bool:=fun i=>f i&&(decide (k<=i)||decide ((i:Int)<n))
section
variable {cl:Nat->Call} (hcl:Sem cl) {f g:Nat->Bool} {fd:Int} {h:H}
include hcl
theorem joM {d:Nat} (hd:1<=d):cl d (.fn 188) [.agg (setV f)] h=some (.clo 194 [.p h.nx 0],h.new (.cells (setV f) false)):=by
 refine jan (aT hcl ?_)
 refine qm ?_
 exact ⟨rfl,rfl⟩
theorem jlS {d L c:Nat} (hd:3<=d) (I:Nat->H->Prop) (J:H->Prop)
  (hc : ∀ k g,I k g->g.get c=some (.cells (setV f) false))
  (hI : ∀ k g g',I k g->Old g g'->I k g')
  (hskip : ∀ k g,k<64->f k=false->I k g->I (k+1) g)
  (hy : ∀ k g,k<64->f k=true->I k g -> ∃ (b:Bool) (g':H),cl (d-1) (.yld L) [.i (k:Int)] g=some (.bool b,g')/\(b=true->I (k+1) g')/\(b=false->J g'))
  (h0:I 0 h) : ∃ v h',cl d (.fn 194) [.yld L,.p c 0] h=some (v,h')/\(I 64 h'\/J h'):=by
 refine aT hcl ?_
 refine Ga ?_
 refine Zx (fun m e g=>∃ k:Nat,m=64-k/\k<=64/\e=[(0,.yld L),(1,.p c 0),(4,.i (k:Int))]/\I k g) (k:=64) Ze ⟨0,rfl,by omega,rfl,h0⟩ ?_
 rintro _ _ g ⟨k,rfl,hk,rfl,hIk⟩ n ih
 by_cases hlt:k<64
 case neg=>
  obtain rfl:k=64:=by omega
  have hlt' : ¬ ((64:Nat):Int)<64:=by omega
  clear ih hI hskip hy hc
  refine Ga ?_
  exact .inl hIk
 have hlt':(k:Int)<64:=by omega
 have hk1:(k:Int)+1=((k+1:Nat):Int):=by omega
 have hc1:=hc k g hIk
 have eh:=jnV hcl (d:=d-1) (f:=f) (fd:=(k:Int)) (h:=g) om
 rw [zJ (show fitS (k:Int) from ⟨by omega,by omega⟩),Bool.true_and,zz] at eh
 have I1:=hI k g _ hIk ((ZD g).new (o := .cells (setV f) false))
 cases hf:f k with
 | false=>
  rw [hf] at eh
  have I2:=hskip k _ hlt hf I1
  clear hI hskip hy hc
  refine Ga ?_
  refine zcw rfl hc1 (zr _) ?_
  rw [show List.take 2 (List.drop 0 (setV f))=setV f from rfl]
  refine Ga ?_
  rw [hk1]
  exact ih (64-(k+1)) om _ _ ⟨k+1,rfl,by omega,rfl,I2⟩
 | true=>
  rw [hf] at eh
  obtain ⟨b,g',e1,q1,q2⟩:=hy k _ hlt hf I1
  clear hI hskip hy hc
  refine Ga ?_
  refine zcw rfl hc1 (zr _) ?_
  rw [show List.take 2 (List.drop 0 (setV f))=setV f from rfl]
  cases b
  ·refine Ga ?_
   refine Ops.yield rfl rfl e1 ?_
   refine Ga ?_
   exact .inr (q2 rfl)
  ·refine Ga ?_
   refine Ops.yield rfl rfl e1 ?_
   refine Ga ?_
   rw [hk1]
   exact ih (64-(k+1)) om _ _ ⟨k+1,rfl,by omega,rfl,q1 rfl⟩
theorem jnX {d:Nat} (hd:7<=d) : ∃ v h',cl d (.fn 181) [.agg (setV f)] h=some (v,h')/\Row h.nx h' 1 v (jay f 64).length (ints (jay f 64))/\Old h h':=by
 have app : ∀ (H0:H) (c:Nat),c<H0.nx->H0.get c=some (.cells (setV f) false) -> ∃ v h',cl (d-1-1) (.fn 193) [.nils,.clo 194 [.p c 0]] H0=some (v,h')/\Row H0.nx h' 1 v (jay f 64).length (ints (jay f 64))/\Old H0 h':=by
  intro H0 c lc hc
  refine aT hcl ?_
  refine qm ?_
  have oH:Old H0 (H0.new (.cells [.nils] false)):=(ZD H0).new
  refine Zz rfl qkp fun LO hLO=>?_
  obtain ⟨v',h',hc',hIJ⟩:=jlS hcl (d:=d-1-1-1) (L:=H0.nx+1) (c:=c) (f:=f) (h:=(H0.new (.cells [.nils] false)).new (LO .ready none)) om
   (fun k g=>(∃ sv,g.get H0.nx=some (.cells [sv] false)/\Row (H0.nx+2) g 1 sv (jay f k).length (ints (jay f k)))/\g.get c=some (.cells (setV f) false)/\g.get (H0.nx+1)=some (LO .ready none)/\H0.nx+2<=g.nx/\Old H0 g/\k<=64)
   (fun _=>False)
   (fun k g p=>p.2.1)
   (by
    rintro k g g' ⟨⟨sv,p0,pr⟩,p1,p2,p3,p4,p5⟩ og
    exact ⟨⟨sv,by rw [og.2 _ om,p0],pr.keep og.1 fun z hz=>og.2 z (pr.at_ge hz).2⟩,by rw [og.2 _ om,p1],by rw [og.2 _ om,p2],zE p3 og.1,p4.trans og,p5⟩)
   (by
    rintro k g hk hf ⟨p0,p1,p2,p3,p4,p5⟩
    have e:jay f (k+1)=jay f k:=by simp [jay,hf]
    rw [e];exact ⟨p0,p1,p2,p3,p4,by omega⟩)
   (by
    rintro k g hk hf ⟨⟨sv,p0,pr⟩,p1,p2,p3,p4,p5⟩
    have e:jay f (k+1)=jay f k++[(k:Int)]:=by simp [jay,hf]
    have hll:=jem f k
    rw [e]
    generalize jay f k=pl at pr hll ⊢
    refine ⟨true,?_⟩
    suffices q : ∃ v' g',cl (d-1-1-1-1) (.yld (H0.nx+1)) [.i (k:Int)] g=some (v',g')/\(v' = .bool true/\((∃ sv,g'.get H0.nx=some (.cells [sv] false)/\Row (H0.nx+2) g' 1 sv (pl++[(k:Int)]).length (ints (pl++[(k:Int)])))/\g'.get c=some (.cells (setV f) false)/\g'.get (H0.nx+1)=some (LO .ready none)/\H0.nx+2<=g'.nx/\Old H0 g'/\k+1<=64)) by
     obtain ⟨_,g',e,rfl,q⟩:=q
     exact ⟨g',e,fun _=>q,fun e=>by cases e⟩
    obtain ⟨cp,⟨asv,rfl⟩,_⟩:=pr.shape
    refine yl_ hcl om hLO p2 rfl ?_
    refine Ga ?_
    refine Zv ⟨rfl,p2,?_⟩
    have pr2:Row (H0.nx+2) (g.set (H0.nx+1) (LO .busy none)) 1 (.slice asv pl.length cp) pl.length (ints pl):=pr.keep Zd fun z hz=>by have:=pr.at_ge hz;exact jaa om
    refine Ga ?_
    refine Ops.push (N:=H0.nx+2) (new:=[.i (k:Int)]) rfl rfl rfl rfl om rfl rfl pr2 (by simpa using p3) om om fun v2 g2 row' hx' hz' hk'=>?_
    have hx':g.nx<=g2.nx:=by simpa using hx'
    have hk2 : ∀ j,j<H0.nx+2->g2.get j=(g.set (H0.nx+1) (LO .busy none)).get j:=fun j hj=>hk' j Zc fun e=>by have:=pr2.at_ge e;omega
    have q0:g2.get H0.nx=some (.cells [.slice asv pl.length cp] false):=by rw [hk2 _ om,jaa om,p0]
    have hone:=row'.one
    refine zcs rfl rfl hone q0 zP ?_
    refine Ga ?_
    refine Zv ⟨⟨.busy,none,by rw [jaa om,hk2 _ om,jab]⟩,rfl,⟨v2,?_,?_⟩,?_,jab _,by simp;omega,?_,by omega⟩
    ·rw [jaa om];exact jab _
    ·have r2:Row (H0.nx+2) g2 1 v2 (pl++[(k:Int)]).length (ints (pl++[(k:Int)])):=by simpa [ints] using row'
     exact r2.keep Zd fun z hz=>by have:=hz' z hz;simp at this;rw [jaa om,jaa om]
    ·rw [jaa om,jaa om,hk2 _ om,jaa om,p1]
    ·have p7:=p4.1
     exact ⟨by simp;omega,fun j hj=>by rw [jaa om,jaa om,hk2 _ om,jaa om,p4.2 j hj]⟩)
   ⟨⟨.nils,qgt,by simpa [jay] using Row.nil _ _ _⟩,by rw [jac Zc,jac lc,hc],qgt,by simp,oH.new,by omega⟩
  refine hIJ.elim ?_ fun hF=>hF.elim
  rintro ⟨⟨sv,p0,pr⟩,p1,p2,p3,p4,_⟩
  refine ⟨v',h',hc',.normal,p2,?_⟩
  have k0:(h'.kill (H0.nx+1)).get H0.nx=some (.cells [sv] false):=by rw [jae om,p0]
  have o9:Old H0 (h'.kill (H0.nx+1)):=⟨p4.1,fun j hj=>by rw [jae om,p4.2 j hj]⟩
  have r9:Row H0.nx (h'.kill (H0.nx+1)) 1 sv (jay f 64).length (ints (jay f 64)):=by
   rcases pr with r | ⟨q,q1,q2,e,q4,q5⟩
   ·exact .inl r
   ·exact .inr ⟨q,by omega,q2,e,by rw [jae om,q4],q5⟩
  obtain ⟨cp,⟨asv,rfl⟩,_⟩:=pr.shape
  clear hLO
  refine Ga ?_
  exact ⟨r9,o9⟩
 have o0:Old h ((h.new (.cells (setV f) false)).new (.cells (setV f) false)):=(ZD h).new.new
 obtain ⟨v,h',e1,r1,o1⟩:=app ((h.new (.cells (setV f) false)).new (.cells (setV f) false)) (h.nx+1) Zd qgt
 have ec:cl (d-1) (.fn 187) [.clo 194 [.p (h.nx+1) 0]] ((h.new (.cells (setV f) false)).new (.cells (setV f) false))=some (v,h'):=by
  obtain ⟨cp,⟨asv,rfl⟩,_⟩:=r1.shape
  refine jan (aT hcl ?_)
  clear app
  refine Ga ?_
  exact ⟨rfl,rfl⟩
 have ea:=joM hcl (d:=d-1) (f:=f) (h:=h.new (.cells (setV f) false)) om
 have ea:cl (d-1) (.fn 188) [.agg (setV f)] (h.new (.cells (setV f) false))=some (.clo 194 [.p (h.nx+1) 0],(h.new (.cells (setV f) false)).new (.cells (setV f) false)):=ea
 have r2:Row h.nx h' 1 v (jay f 64).length (ints (jay f 64)):=by
  rcases r1 with r | ⟨q,q1,q2,e,q4,q5⟩
  ·exact .inl r
  ·have q1:h.nx+2<=q:=q1
   exact .inr ⟨q,by omega,q2,e,q4,q5⟩
 obtain ⟨cp,⟨asv,rfl⟩,_⟩:=r1.shape
 refine aT hcl ?_
 clear app
 refine qm ?_
 exact ⟨r2,o0.trans o1⟩
end
def cntS (f:Nat->Bool):Nat->Nat
 | 0=>0
 | n+1=>cntS f n+if f n then 1 else 0
theorem jlo (f:Nat->Bool) : ∀ n,cntS f n<=n
 | 0=>zr _
 | n+1=>by
  have:=jlo f n
  rw [cntS];split<;>omega
section
variable {call:Call} {fuel base:Nat} {K:List Fr} {e:Env} {h:H} {Q:Post} {ix:Nat} {dst at_:Option Nat} {ops:List Ins} {keep:List Nat}
theorem Ops.ixStr {x i:Opd} {s:List UInt8} {k:IntKind} {n:Nat} {b:UInt8} (hx:x.ev e=some (.str s)) (hi:i.ev e=some (.int k (n:Int))) (hs:s[n]?=some b) (kk:Ops call fuel base ops keep K (layv e dst (.int .u8 (b.toNat:Int))) h Q) :
  Ops call fuel base (⟨ix,dst,.ixStr x i,none,at_,[]⟩ :: ops) keep K e h Q:=by
 refine zau rfl ?_ kk
 simp only [I.pure,hx,hi]
 have hlt:n<s.length:=by
  rcases zA n s.length with h | h
  ·exact h
  ·rw [zc h] at hs;cases hs
 have hb:jfM (n:Int) s.length=true:=jde.2 ⟨by omega,by omega⟩
 rw [hb]
 simp only [cond_true,zz,hs,jg0]
end
def len8:List UInt8:=[0,1,2,2,3,3,3,3,4,4,4,4,4,4,4,4,5,5,5,5,5,5,5,5,5,5,5,5,5,5,5,5,6,6,6,6,6,6,6,6,6,6,6,6,6,6,6,6,6,6,6,6,6,6,6,6,6,6,6,6,6,6,6,6,7,7,7,7,7,7,7,7,7,7,7,7,7,7,7,7,7,7,7,7,7,7,7,7,7,7,7,7,7,7,7,7,7,7,7,7,7,7,7,7,7,7,7,7,7,7,7,7,7,7,7,7,7,7,7,7,7,7,7,7,7,7,7,7,8,8,8,8,8,8,8,8,8,8,8,8,8,8,8,8,8,8,8,8,8,8,8,8,8,8,8,8,8,8,8,8,8,8,8,8,8,8,8,8,8,8,8,8,8,8,8,8,8,8,8,8,8,8,8,8,8,8,8,8,8,8,8,8,8,8,8,8,8,8,8,8,8,8,8,8,8,8,8,8,8,8,8,8,8,8,8,8,8,8,8,8,8,8,8,8,8,8,8,8,8,8,8,8,8,8,8,8,8,8,8,8,8,8,8,8,8,8,8,8,8,8,8,8,8,8,8,8]
def BL (x L:Nat):Prop:=x<2 ^ L/\(L=0\/2 ^ (L-1)<=x)
instance (x L:Nat):Decidable (BL x L):=inferInstanceAs (Decidable (_/\_))
theorem len8_all:(List.range 256).all (fun n=>match len8[n]? with | some b=>decide (BL n b.toNat/\b.toNat<=8) | none=>false)=true:=by decide +kernel
theorem len8_at {n:Nat} (hn:n<256) : ∃ b,len8[n]?=some b/\BL n b.toNat/\b.toNat<=8:=by
 have h:=zV.1 len8_all n (List.mem_range.2 hn)
 split at h
 ·next b hb=>exact ⟨b,hb,by simpa using h⟩
 ·cases h
theorem BL.up {x k L:Nat} (h:BL (x/2 ^ k) L) (hx:2 ^ k<=x):BL x (L+k):=by
 have hp:0<2 ^ k:=Nat.pow_pos om
 obtain ⟨h1,h2⟩:=h
 have h3:L≠0:=by
  rintro rfl
  have:1<=x/2 ^ k:=(Nat.le_div_iff_mul_le hp).2 om
  simp at h1;omega
 refine ⟨?_,.inr ?_⟩
 ·rw [Nat.pow_add];exact (Nat.div_lt_iff_lt_mul hp).1 h1
 ·rcases h2 with h2 | h2
  ·exact zM h2 h3
  ·rw [show L+k-1=(L-1)+k by omega,Nat.pow_add]
   exact (Nat.le_div_iff_mul_le hp).1 h2
theorem jpk {n k:Nat} : ((n:Nat):Int).fdiv (2 ^ k)=((n/2 ^ k:Nat):Int):=by
 rw [Int.fdiv_eq_ediv_of_nonneg _ (Int.le_of_lt (Int.pow_pos om))];simp
theorem u8_of {n:Int} (h0:0<=n) (h1:n<256):IntKind.u8.wrap n=n:=by
 have:IntKind.u8.wrap n=n%256:=by simp [IntKind.wrap,IntKind.bits,IntKind.signed]
 rw [this];omega
theorem strike_0 (f:Nat->Bool) (n:Int):setV (jaW f n 0)=setV f:=jbv fun i _=>by unfold jaW;simp
theorem strike_64 (f:Nat->Bool) (n:Int):setV (jaW f n 64)=setV (jdf f n):=jbv fun i hi=>by
 unfold jaW jdf;rw [zH (show ¬ 64<=i by omega),Bool.false_or]
theorem strike_no {f:Nat->Bool} {n:Int} {k:Nat} (hf:f k=false):setV (jaW f n (k+1))=setV (jaW f n k):=jbv fun i _=>by
 unfold jaW
 by_cases h:i=k
 ·subst h;rw [hf];rfl
 ·rw [show decide (k+1<=i)=decide (k<=i) by by_cases h2:k<=i<;>simp [h2]<;>omega]
theorem strike_lt {f:Nat->Bool} {n:Int} {k:Nat} (hn:(k:Int)<n):setV (jaW f n (k+1))=setV (jaW f n k):=jbv fun i _=>by
 unfold jaW
 by_cases h:i=k
 ·subst h;rw [zJ hn,Bool.or_true,Bool.or_true]
 ·rw [show decide (k+1<=i)=decide (k<=i) by by_cases h2:k<=i<;>simp [h2]<;>omega]
theorem strike_ge {f:Nat->Bool} {n:Int} {k:Nat} (hn : ¬ (k:Int)<n):setV (jaW f n (k+1))=setV (delS (jaW f n k) k):=jbv fun i _=>by
 unfold jaW delS
 by_cases h:i=k
 ·subst h;simp;intro _;omega
 ·rw [show decide (k+1<=i)=decide (k<=i) by by_cases h2:k<=i<;>simp [h2]<;>omega,zH h];simp
section
variable {cl:Nat->Call} (hcl:Sem cl) {f g:Nat->Bool} {fd:Int} {h:H}
include hcl
theorem fs_below {d:Nat} {n:Int} (hd:6<=d) : ∃ h',cl d (.fn 191) [.agg (setV f),.i n] h=some (.agg (setV (jdf f n)),h')/\Old h h':=by
 refine jai (aT hcl ?_)
 have ea:=joM hcl (d:=d-1) (f:=f) (h:=((h.new (.cells (setV f) false)).new (.cells [.i n] false)).new (.cells [.int .u32 0,.int .u32 0] false)) om
 have x3:(((h.new (.cells (setV f) false)).new (.cells [.i n] false)).new (.cells [.int .u32 0,.int .u32 0] false)).nx=h.nx+3:=rfl
 rw [x3] at ea
 refine qm ?_
 have oH:Old h ((((h.new (.cells (setV f) false)).new (.cells [.i n] false)).new (.cells [.int .u32 0,.int .u32 0] false)).new (.cells (setV f) false)):=(ZD h).new.new.new.new
 have b0:((((h.new (.cells (setV f) false)).new (.cells [.i n] false)).new (.cells [.int .u32 0,.int .u32 0] false)).new (.cells (setV f) false)).get h.nx=some (.cells (setV f) false):=qgt
 have b1:((((h.new (.cells (setV f) false)).new (.cells [.i n] false)).new (.cells [.int .u32 0,.int .u32 0] false)).new (.cells (setV f) false)).get (h.nx+1)=some (.cells [.i n] false):=qgt
 have b2:((((h.new (.cells (setV f) false)).new (.cells [.i n] false)).new (.cells [.int .u32 0,.int .u32 0] false)).new (.cells (setV f) false)).get (h.nx+2)=some (.cells [.int .u32 0,.int .u32 0] false):=qgt
 have b3:((((h.new (.cells (setV f) false)).new (.cells [.i n] false)).new (.cells [.int .u32 0,.int .u32 0] false)).new (.cells (setV f) false)).get (h.nx+3)=some (.cells (setV f) false):=qgt
 have x4:((((h.new (.cells (setV f) false)).new (.cells [.i n] false)).new (.cells [.int .u32 0,.int .u32 0] false)).new (.cells (setV f) false)).nx=h.nx+4:=rfl
 change Run (cl (d-1)) fuel _ _ [(2,.p h.nx 0),(3,.p (h.nx+1) 0),(4,.p (h.nx+2) 0),(7,.clo 194 [.p (h.nx+3) 0])] ((((h.new (.cells (setV f) false)).new (.cells [.i n] false)).new (.cells [.int .u32 0,.int .u32 0] false)).new (.cells (setV f) false)) _
 generalize (((h.new (.cells (setV f) false)).new (.cells [.i n] false)).new (.cells [.int .u32 0,.int .u32 0] false)).new (.cells (setV f) false)=H1 at oH b0 b1 b2 b3 x4 ⊢
 clear ea
 refine Zz rfl qkp fun LO hLO=>?_
 rw [x4]
 have oL:Old h (H1.new (LO .ready none)):=oH.new
 obtain ⟨v',h',hc',hIJ⟩:=jlS hcl (d:=d-1) (L:=h.nx+4) (c:=h.nx+3) (f:=f) (h:=H1.new (LO .ready none)) om
  (fun k g=>g.get h.nx=some (.cells (setV (jaW f n k)) false)/\g.get (h.nx+1)=some (.cells [.i n] false)/\g.get (h.nx+2)=some (.cells [.int .u32 0,.int .u32 0] false)/\g.get (h.nx+3)=some (.cells (setV f) false)/\g.get (h.nx+4)=some (LO .ready none)/\h.nx+5<=g.nx/\Old h g/\k<=64)
  (fun _=>False)
  (fun k g p=>p.2.2.2.1)
  (by
   rintro k g g' ⟨p0,p1,p2,p3,p4,p5,p6,p7⟩ og
   exact ⟨by rw [og.2 _ om,p0],by rw [og.2 _ om,p1],by rw [og.2 _ om,p2],by rw [og.2 _ om,p3],by rw [og.2 _ om,p4],zE p5 og.1,p6.trans og,p7⟩)
  (by
   rintro k g hk hf ⟨p0,p1,p2,p3,p4,p5,p6,p7⟩
   exact ⟨by rw [p0,strike_no hf],p1,p2,p3,p4,p5,p6,by omega⟩)
  (by
   rintro k g hk hf ⟨p0,p1,p2,p3,p4,p5,p6,p7⟩
   refine ⟨true,?_⟩
   suffices q : ∃ v' g',cl (d-1-1) (.yld (h.nx+4)) [.i (k:Int)] g=some (v',g')/\(v' = .bool true/\(g'.get h.nx=some (.cells (setV (jaW f n (k+1))) false)/\g'.get (h.nx+1)=some (.cells [.i n] false)/\g'.get (h.nx+2)=some (.cells [.int .u32 0,.int .u32 0] false)/\g'.get (h.nx+3)=some (.cells (setV f) false)/\g'.get (h.nx+4)=some (LO .ready none)/\h.nx+5<=g'.nx/\Old h g'/\k+1<=64)) by
    obtain ⟨_,g',e,rfl,q⟩:=q
    exact ⟨g',e,fun _=>q,fun e=>by cases e⟩
   refine yl_ hcl om hLO p4 rfl ?_
   refine Ga ?_
   refine Zv ⟨rfl,p4,?_⟩
   by_cases hn:(k:Int)<n
   ·have hn' : ¬ (k:Int)>=n:=by omega
    refine Ga ?_
    refine Zv ⟨⟨.busy,none,qgt⟩,rfl,?_,?_,?_,?_,jab _,by simpa using p5,(p6.set om).set om,by omega⟩
    ·rw [jaa om,jaa om,p0,strike_lt hn]
    ·rw [jaa om,jaa om,p1]
    ·rw [jaa om,jaa om,p2]
    ·rw [jaa om,jaa om,p3]
   ·have hn':(k:Int)>=n:=by omega
    have oB:Old h (g.set (h.nx+4) (LO .busy none)):=p6.set om
    obtain ⟨g2,e2,o2⟩:=jmR hcl (d:=d-1-1-1) (f:=jaW f n k) (m:=k) (h:=g.set (h.nx+4) (LO .busy none)) om hk
    have x2:g.nx<=g2.nx:=o2.1
    have p0B:(g.set (h.nx+4) (LO .busy none)).get h.nx=some (.cells (setV (jaW f n k)) false):=by rw [jaa om,p0]
    have q0:g2.get h.nx=some (.cells (setV (jaW f n k)) false):=by rw [o2.2 _ (by show h.nx<g.nx;omega),p0B]
    refine Ga ?_
    refine zcw rfl p0B (zr _) ?_
    rw [show List.take 2 (List.drop 0 (setV (jaW f n k)))=setV (jaW f n k) from rfl]
    refine Ga ?_
    refine zct (vs:=setV (delS (jaW f n k) k)) (b:=h.nx) (o:=0) rfl rfl rfl rfl q0 (zr _) ?_
    rw [jas (setV (delS (jaW f n k) k)) (setV (jaW f n k)) rfl,<- strike_ge hn]
    refine Ga ?_
    refine Zv ⟨⟨.busy,none,?_⟩,rfl,?_,?_,?_,?_,jab _,by simp;omega,?_,by omega⟩
    ·rw [jaa om,o2.2 _ (by show h.nx+4<g.nx;omega),jab]
    ·rw [jaa om,jab]
    ·rw [jaa om,jaa om,o2.2 _ (by show _<g.nx;omega),jaa om,p1]
    ·rw [jaa om,jaa om,o2.2 _ (by show _<g.nx;omega),jaa om,p2]
    ·rw [jaa om,jaa om,o2.2 _ (by show _<g.nx;omega),jaa om,p3]
    ·exact ((oB.trans o2).set (zr _)).set om)
  ⟨by rw [jac om,b0,strike_0],by rw [jac om,b1],by rw [jac om,b2],by rw [jac om,b3],by rw [<- x4,jad],by simp [x4],oL,by omega⟩
 refine hIJ.elim ?_ fun hF=>hF.elim
 rintro ⟨p0,p1,p2,p3,p4,p5,p6,_⟩
 rw [strike_64] at p0
 refine ⟨v',h',hc',.normal,p4,?_⟩
 have k0:(h'.kill (h.nx+4)).get h.nx=some (.cells (setV (jdf f n)) false):=by rw [jae om,p0]
 have k2:(h'.kill (h.nx+4)).get (h.nx+2)=some (.cells [.int .u32 0,.int .u32 0] false):=by rw [jae om,p2]
 have o9:Old h (h'.kill (h.nx+4)):=⟨p6.1,fun j hj=>by rw [jae om,p6.2 j hj]⟩
 clear hLO
 refine Ga ?_
 refine zcw rfl k0 (zr _) ?_
 rw [show List.take 2 (List.drop 0 (setV (jdf f n)))=setV (jdf f n) from rfl]
 refine Ga ?_
 refine zct (vs:=setV (jdf f n)) (b:=h.nx+2) (o:=0) rfl rfl rfl rfl k2 (zw rfl) ?_
 rw [jas (setV (jdf f n)) [.int .u32 0,.int .u32 0] rfl]
 refine Ga ?_
 refine jcN (l:=setV (jdf f n)) rfl (jab _) rfl ⟨rfl,?_⟩
 exact o9.set om
end
section
variable {cl:Nat->Call} (hcl:Sem cl) {f g:Nat->Bool} {h:H}
include hcl
set_option maxRecDepth 100000 in
theorem len32_1 {d z m:Nat} {r:Env} {Q:V->H->Prop} (hz:z<256) (hm:m<=24) (hQ : ∀ L,BL z L->L<=8->Q (.i ((m+L:Nat):Int)) h) :
  Run (cl d) fuel c189_1 [] ((0,.int .u32 (z:Int)) :: (2,.i (m:Int)) :: r) h (Fin c189.res Q):=by
 obtain ⟨b,hb,hL,h8⟩:=len8_at hz
 have hq:=hQ b.toNat hL h8
 have e1:IntKind.u8.wrap (z:Int)=(z:Int):=u8_of om om
 have e2:IntKind.i64.wrap (b.toNat:Int)=(b.toNat:Int):=jec ⟨by omega,by omega⟩
 clear hQ hcl
 refine Ga ?_
 refine Ops.ixStr (n:=z) rfl (congrArg (fun y=>some (V.int .u8 y)) e1) hb ?_
 refine Ga ?_
 rw [e2]
 refine Ga ?_
 rw [show (m:Int)+(b.toNat:Int)=((m+b.toNat:Nat):Int) by omega]
 exact hq
set_option maxRecDepth 100000 in
theorem jph {d x:Nat} (hd:1<=d) (hx:x<4294967296) : ∃ L:Nat,cl d (.fn 189) [.int .u32 (x:Int)] h=some (.i (L:Int),h)/\BL x L/\L<=32:=by
 suffices q : ∃ v h',cl d (.fn 189) [.int .u32 (x:Int)] h=some (v,h')/\(∃ L:Nat,v = .i (L:Int)/\BL x L/\L<=32)/\h'=h by
  obtain ⟨_,_,e,⟨L,rfl,q⟩,rfl⟩:=q;exact ⟨L,e,q⟩
 refine aT hcl ?_
 obtain ⟨C,hC⟩ : ∃ C,C=c189_1:=⟨_,rfl⟩
 simp only [c189,c189_2,uF,yB]
 rw [<- hC]
 have fin : ∀ (z m:Nat) (r:Env),z<256->m<=24->z=x/2 ^ m->(m=0\/2 ^ m<=x)->Run (cl (d-1)) fuel C [] ((0,.int .u32 (z:Int)) :: (2,.i (m:Int)) :: r) h (Fin c189.res fun v' h'=>(∃ L:Nat,v' = .i (L:Int)/\BL x L/\L<=32)/\h'=h):=by
  intro z m r hz hm hzx hmx
  rw [hC]
  refine len32_1 hcl hz hm fun L hL h8=>⟨⟨m+L,rfl,?_,by omega⟩,rfl⟩
  subst hzx
  rcases hmx with rfl | hmx
  ·rw [zS];simpa using hL
  ·rw [Nat.add_comm];exact hL.up hmx
 have f16:((x:Nat):Int).fdiv (2 ^ 16)=((x/2 ^ 16:Nat):Int):=jpk
 have f8 : ∀ y:Nat,((y:Nat):Int).fdiv (2 ^ 8)=((y/2 ^ 8:Nat):Int):=fun y=>jpk
 by_cases h1:x<65536
 ·have h1' : ¬ (x:Int)>=65536:=by omega
  by_cases h2:x<256
  ·have h2' : ¬ (x:Int)>=256:=by omega
   refine Ga ?_
   exact fin x 0 _ h2 om Zd (.inl rfl)
  ·have h2':(x:Int)>=256:=by omega
   refine Ga ?_
   rw [show ((x:Nat):Int).fdiv (2 ^ (Int.toNat 8).min IntKind.u32.bits)=((x/2 ^ 8:Nat):Int) from f8 x]
   exact fin (x/2 ^ 8) 8 _ om om rfl (.inr om)
 ·have h1':(x:Int)>=65536:=by omega
  have g16:((x:Nat):Int).fdiv (2 ^ (Int.toNat 16).min IntKind.u32.bits)=((x/2 ^ 16:Nat):Int):=f16
  by_cases h2:x/2 ^ 16<256
  ·have h2' : ¬ (256:Int)<=((x:Nat):Int).fdiv (2 ^ (Int.toNat 16).min IntKind.u32.bits):=by rw [g16];omega
   refine Ga ?_
   rw [g16]
   exact fin (x/2 ^ 16) 16 _ h2 om rfl (.inr om)
  ·have h2':(256:Int)<=((x:Nat):Int).fdiv (2 ^ (Int.toNat 16).min IntKind.u32.bits):=by rw [g16];omega
   refine Ga ?_
   rw [g16,show ((x/2 ^ 16:Nat):Int).fdiv (2 ^ (Int.toNat 8).min IntKind.u32.bits)=((x/2 ^ 16/2 ^ 8:Nat):Int) from f8 _]
   have e:x/2 ^ 16/2 ^ 8=x/2 ^ 24:=by rw [Nat.div_div_eq_div_mul]
   rw [e]
   exact fin (x/2 ^ 24) 24 _ om om rfl (.inr om)
end
theorem BL.top {x L:Nat} (h:BL x L) (h0:L≠0):x.testBit (L-1)=true:=by
 obtain ⟨h1,h2⟩:=h
 have h2:=h2.resolve_left h0
 obtain ⟨k,rfl⟩ : ∃ k,L=k+1:=⟨L-1,by omega⟩
 rw [Nat.add_sub_cancel] at h2 ⊢
 rw [Nat.testBit_eq_decide_div_mod_eq]
 have h3:x/2 ^ k=1:=by
  rw [Nat.pow_succ] at h1
  refine Nat.le_antisymm ?_ ((Nat.le_div_iff_mul_le (Nat.pow_pos om)).2 om)
  have:x/2 ^ k<2:=(Nat.div_lt_iff_lt_mul (Nat.pow_pos om)).2 om
  omega
 rw [h3];rfl
theorem BL.all {f:Nat->Bool} {n L:Nat} (h:BL (mk f n) L) {i:Nat} (hi:i<n) (hf:f i=true):i<L:=by
 have h1:(mk f n).testBit i=true:=by rw [jej];simp [hi,hf]
 have h2:=Nat.ge_two_pow_of_testBit h1
 rcases zA i L with h3 | h3
 ·exact h3
 ·have:=Nat.pow_le_pow_right (n:=2) om h3
  have:=h.1
  omega
theorem BL.in_ {f:Nat->Bool} {n L:Nat} (h:BL (mk f n) L) (h0:L≠0):f (L-1)=true:=by
 have:=h.top h0
 rw [jej] at this
 simp at this
 exact this.2
section
variable {cl:Nat->Call} (hcl:Sem cl) {f g:Nat->Bool} {h:H}
include hcl
theorem fs_top {d:Nat} (hd:2<=d) : ∃ (T:Int) (h':H),cl d (.fn 183) [.agg (setV f)] h=some (.i T,h')/\Old h h' /\ -1<=T/\T<=63/\(∀ i:Nat,i<64->f i=true->(i:Int)<=T)/\(0<=T->f T.toNat=true):=by
 suffices q : ∃ v h',cl d (.fn 183) [.agg (setV f)] h=some (v,h') /\ ∃ T:Int,v = .i T/\Old h h' /\ -1<=T/\T<=63/\(∀ i:Nat,i<64->f i=true->(i:Int)<=T)/\(0<=T->f T.toNat=true) by
  obtain ⟨_,h',e,T,rfl,q⟩:=q;exact ⟨T,h',e,q⟩
 obtain ⟨L0,e0,b0,l0⟩:=jph hcl (d:=d-1) (x:=mk f 32) (h:=h.new (.cells (setV f) false)) om (jgL f 32)
 obtain ⟨L1,e1,b1,l1⟩:=jph hcl (d:=d-1) (x:=mk (fun i=>f (i+32)) 32) (h:=h.new (.cells (setV f) false)) om (jgL _ 32)
 refine aT hcl ?_
 by_cases hz:mk (fun i=>f (i+32)) 32=0
 ·have hz' : ¬ ((mk (fun i=>f (i+32)) 32:Nat):Int)≠0:=by omega
  have hno : ∀ i,i<32->f (i+32)=false:=fun i hi=>by
   have:=jej (fun i=>f (i+32)) 32 i
   rw [hz] at this
   simpa [hi] using this.symm
  have fin : ∃ T:Int,V.i ((L0:Int)-1) = .i T/\Old h (h.new (.cells (setV f) false)) /\ -1<=T/\T<=63/\(∀ i:Nat,i<64->f i=true->(i:Int)<=T)/\(0<=T->f T.toNat=true):=by
   refine ⟨_,rfl,(ZD h).new,by omega,by omega,fun i hi hf=>?_,fun hT=>?_⟩
   ·have h32:i<32:=by
     rcases zA i 32 with h1 | h1
     ·exact h1
     ·have:=hno (i-32) om
      rw [show i-32+32=i by omega,hf] at this;cases this
    have:=b0.all h32 hf
    omega
   ·have:=b0.in_ om
    rw [show ((L0:Int)-1).toNat=L0-1 by omega];exact this
  clear b0 b1 hno e1
  refine qm ?_
  exact fin
 ·have hz':((mk (fun i=>f (i+32)) 32:Nat):Int)≠0:=by omega
  have hL:L1≠0:=by
   rintro rfl
   have:=b1.1
   simp at this;omega
  have fin : ∃ T:Int,V.i (32+(L1:Int)-1) = .i T/\Old h (h.new (.cells (setV f) false)) /\ -1<=T/\T<=63/\(∀ i:Nat,i<64->f i=true->(i:Int)<=T)/\(0<=T->f T.toNat=true):=by
   refine ⟨_,rfl,(ZD h).new,by omega,by omega,fun i hi hf=>?_,fun hT=>?_⟩
   ·rcases zA i 32 with h1 | h1
    ·omega
    ·have:=b1.all (i:=i-32) om (by show f (i-32+32)=true;rw [show i-32+32=i by omega];exact hf)
     omega
   ·have:=b1.in_ hL
    rw [show ((32:Int)+(L1:Int)-1).toNat=L1-1+32 by omega];exact this
  clear b0 b1 e0
  refine qm ?_
  exact fin
end
theorem jiy {F:Nat->Bool} : ∀ (q m:Nat),m+q=64->(jay F m).length<(jay F 64).length -> ∃ m',m<=m'/\m'<64/\F m'=true/\(∀ j,m<=j->j<m'->F j=false)/\jay F m'=jay F m
 | 0,m,h,hl=>by
  obtain rfl:m=64:=by omega
  omega
 | q+1,m,h,hl=>by
  cases hF:F m with
  | true=>exact ⟨m,zr _,by omega,hF,fun j h1 h2=>by omega,rfl⟩
  | false=>
   have e:jay F (m+1)=jay F m:=by simp [jay,hF]
   obtain ⟨m',h1,h2,h3,h4,h5⟩:=jiy q (m+1) om (by rw [e];exact hl)
   refine ⟨m',by omega,h2,h3,fun j h6 h7=>?_,by rw [h5,e]⟩
   by_cases hj:j=m
   ·rw [hj,hF]
   ·exact h4 j om h7
theorem jh5 {F:Nat->Bool} {m:Nat} : ∀ {n:Nat},m<=n -> ∃ r,jay F n=jay F m++r
 | 0,h=>by
  obtain rfl:m=0:=by omega
  exact ⟨[],by simp⟩
 | n+1,h=>by
  by_cases e:m=n+1
  ·subst e;exact ⟨[],by simp⟩
  ·obtain ⟨r,hr⟩:=jh5 (F:=F) (m:=m) (n:=n) om
   exact ⟨r++if F n then [(n:Int)] else [],by rw [jay,hr,List.append_assoc]⟩
theorem listS_at {F:Nat->Bool} {m:Nat} (hm:m<64) (hF:F m=true):(jay F 64)[(jay F m).length]?=some (m:Int):=by
 obtain ⟨r,hr⟩:=jh5 (F:=F) (m:=m+1) (n:=64) om
 rw [hr,jay,zG hF,List.append_assoc,List.getElem?_append_right (zr _)]
 simp
def jnN (f g:Nat->Bool) (m:Nat):Int:=(if f m then 2 else 0)+(if g m then 4 else 0)
def askS (f g:Nat->Bool) (top:Int):Nat->Bool:=jdf (orS f g) top
section
variable {cl:Nat->Call} (hcl:Sem cl) {f g:Nat->Bool} {h:H}
include hcl
theorem jlB {d:Nat} {top:Int} (hd:1<=d):cl d (.fn 185) [.i top,.agg (setV f),.agg (setV g)] h=some (.clo 190 [.p (h.nx+1) 0,.p (h.nx+2) 0,.p h.nx 0],((h.new (.cells [.i top] false)).new (.cells (setV f) false)).new (.cells (setV g) false)):=by
 refine jan (aT hcl ?_)
 refine qm ?_
 exact ⟨rfl,rfl⟩
end
def OldN (N:Nat) (a b:H):Prop:=a.nx<=b.nx /\ ∀ j,N<=j->j<a.nx->b.get j=a.get j
theorem OldN.refl (N:Nat) (a:H):OldN N a a:=⟨zr _,fun _ _ _=>rfl⟩
theorem OldN.trans {N:Nat} {a b c:H} (x:OldN N a b) (y:OldN N b c):OldN N a c:=⟨zE x.1 y.1,fun j h1 h2=>by rw [y.2 j h1 (zu h2 x.1),x.2 j h1 h2]⟩
theorem Old.toN {a b:H} (N:Nat) (x:Old a b):OldN N a b:=⟨x.1,fun j _ h2=>x.2 j h2⟩
section
variable {cl:Nat->Call} (hcl:Sem cl) {f g:Nat->Bool} {h:H}
include hcl
theorem jim {d L c1 c2 c3:Nat} {top:Int} (hd:8<=d) (I:Nat->H->Prop) (J:H->Prop)
  (hc : ∀ m e,I m e->e.get c1=some (.cells (setV f) false)/\e.get c2=some (.cells (setV g) false)/\e.get c3=some (.cells [.i top] false)/\c1<e.nx/\c2<e.nx/\c3<e.nx)
  (hI : ∀ m e e',I m e->Old e e'->I m e')
  (hskip : ∀ m e,m<64->askS f g top m=false->I m e->I (m+1) e)
  (hy : ∀ m e,m<64->askS f g top m=true->I m e -> ∃ (b:Bool) (e':H),cl (d-1) (.yld L) [.i (m:Int),.i (jnN f g m)] e=some (.bool b,e')/\(b=true->I (m+1) e'/\OldN h.nx e e')/\(b=false->J e'))
  (h0:I 0 h) : ∃ v h',cl d (.fn 190) [.yld L,.p c1 0,.p c2 0,.p c3 0] h=some (v,h')/\(I 64 h'\/J h'):=by
 obtain ⟨a1,a2,a3,l1,l2,l3⟩:=hc _ _ h0
 obtain ⟨h1,e1,o1⟩:=jpj hcl (d:=d-1) (f:=f) (g:=g) (h:=h) om
 obtain ⟨h2,e2,o2⟩:=fs_below hcl (d:=d-1) (f:=orS f g) (n:=top) (h:=h1) om
 obtain ⟨v,h3,e3,row,o3⟩:=jnX hcl (d:=d-1) (f:=jdf (orS f g) top) (h:=h2) om
 have a3':h1.get c3=some (.cells [.i top] false):=by rw [o1.2 _ l3,a3]
 obtain ⟨cp,⟨av,rfl⟩,hix⟩:=row.shape
 have o13:Old h h3:=(o1.trans o2).trans o3
 have I3:=hI _ _ _ h0 o13
 have hll:=jem (askS f g top) 64
 replace row:Row h2.nx h3 1 (.slice av (jay (askS f g top) 64).length cp) (jay (askS f g top) 64).length (ints (jay (askS f g top) 64)):=row
 replace e3:cl (d-1) (.fn 181) [.agg (setV (jdf (orS f g) top))] h2=some (.slice av (jay (askS f g top) 64).length cp,h3):=e3
 replace hix : ∀ i,i<(jay (askS f g top) 64).length -> ∃ q,h2.nx<=q/\q<h3.nx/\V.slice av (jay (askS f g top) 64).length cp = .slice (some (q,0)) (jay (askS f g top) 64).length cp/\h3.get q=some (.cells (ints (jay (askS f g top) 64)) false):=hix
 have hat : ∀ m,m<64->askS f g top m=true->(jay (askS f g top) 64)[(jay (askS f g top) m).length]?=some (m:Int):=fun m hm hF=>listS_at hm hF
 have hpre : ∀ m,m<=64->(jay (askS f g top) m).length<=(jay (askS f g top) 64).length:=fun m hm=>by
  obtain ⟨r,hr⟩:=jh5 (F:=askS f g top) hm
  rw [hr,zg];omega
 have hnext : ∀ m,m<=64->(jay (askS f g top) m).length<(jay (askS f g top) 64).length -> ∃ m',m<=m'/\m'<64/\askS f g top m'=true/\(∀ j,m<=j->j<m'->askS f g top j=false)/\jay (askS f g top) m'=jay (askS f g top) m:=fun m hm hl=>jiy (64-m) m om hl
 generalize jay (askS f g top) 64=A at *
 refine aT hcl ?_
 refine Ga ?_
 refine zcw rfl a1 (zr _) ?_
 rw [show List.take 2 (List.drop 0 (setV f))=setV f from rfl]
 refine Ga ?_
 refine zcw rfl a2 (zr _) ?_
 rw [show List.take 2 (List.drop 0 (setV g))=setV g from rfl]
 refine Ga ?_
 refine Ops.callf_chk rfl e1 (jaN rfl a3' rfl rfl jbn) ?_
 refine Ga ?_
 refine Zx (fun k e gg=>∃ m:Nat,k=A.length-(jay (askS f g top) m).length/\m<=64/\e=[(0,.yld L),(1,.p c1 0),(2,.p c2 0),(13,.slice av A.length cp),(14,.i (A.length:Int)),(15,.i ((jay (askS f g top) m).length:Int))]/\I m gg/\OldN h.nx h3 gg)
  (k:=A.length) Ze ⟨0,rfl,by omega,rfl,I3,OldN.refl _ _⟩ ?_
 clear e1 e2 e3 a1 a2 a3 a3' l1 l2 l3 h0 I3
 rintro _ _ gg ⟨m0,rfl,hm0,rfl,hIm,og⟩ n2 ih
 by_cases hlt:((jay (askS f g top) m0).length:Int)<A.length
 case neg=>
  have fin : ∀ q m,m+q=64->I m gg->(jay (askS f g top) m).length=A.length->I 64 gg:=by
   intro q
   induction q with
   | zero=>intro m hm hI' _;obtain rfl:m=64:=om;exact hI'
   | succ q ihq=>
    intro m hm hI' hl
    have hf:askS f g top m=false:=by
     cases hF:askS f g top m with
     | false=>rfl
     | true=>
      have h1:=hat m om hF
      rw [zc om] at h1;cases h1
    exact ihq (m+1) om (hskip m _ om hf hI') (by simp [jay,hf];exact hl)
  have hpre0:=hpre m0 hm0
  have hfin:=fin (64-m0) m0 om hIm om
  clear ih hix hc hI hskip hy fin hat hpre hnext hIm
  refine Ga ?_
  exact .inl hfin
 obtain ⟨m,hm1,hm2,hF,hall,hls⟩:=hnext m0 hm0 om
 have hIm:I m gg:=by
  have : ∀ q,m0+q<=m->I (m0+q) gg:=by
   intro q
   induction q with
   | zero=>intro _;exact hIm
   | succ q ihq=>intro hq;exact hskip (m0+q) _ om (hall _ om om) (ihq om)
  have:=this (m-m0) om
  rwa [show m0+(m-m0)=m by omega] at this
 have hat:=hat m hm2 hF
 clear hpre hnext
 rw [<- hls] at hlt ⊢
 rw [<- hls] at ih
 obtain ⟨q,y1,y2,y3,y4⟩:=hix (jay (askS f g top) m).length om
 cases y3
 have hcell:(ints A)[0+((jay (askS f g top) m).length:Int).toNat*1]?=some (.i (m:Int)):=by
  rw [show 0+((jay (askS f g top) m).length:Int).toNat*1=(jay (askS f g top) m).length by omega];simp [hat]
 have hqg:gg.get q=some (.cells (ints A) false):=by rw [og.2 _ (by have:=o1.1;have:=o2.1;omega) y2,y4]
 obtain ⟨b1,b2,b3,m1,m2,m3⟩:=hc _ _ hIm
 have hfit:decide (fitS (m:Int))=true:=zJ ⟨by omega,by omega⟩
 have eh1:=jnV hcl (d:=d-1) (f:=f) (fd:=(m:Int)) (h:=gg) om
 rw [hfit,Bool.true_and,zz] at eh1
 have oA:Old gg (gg.new (.cells (setV f) false)):=(ZD gg).new
 have eh2:=jnV hcl (d:=d-1) (f:=g) (fd:=(m:Int)) (h:=gg.new (.cells (setV f) false)) om
 rw [hfit,Bool.true_and,zz] at eh2
 have b2':(gg.new (.cells (setV f) false)).get c2=some (.cells (setV g) false):=by rw [jac m2,b2]
 have oB:Old gg ((gg.new (.cells (setV f) false)).new (.cells (setV g) false)):=oA.new
 obtain ⟨bb,g',ey,q1,q2⟩:=hy m _ hm2 hF (hI _ _ _ hIm oB)
 have hl1:(((jay (askS f g top) m).length:Int)+1)=((jay (askS f g top) (m+1)).length:Int):=by simp [jay,hF]
 have hend:bb=true->End (cl (d-1)) fuel [.loop [0,1,2,13,14,15] (.seq (.region 0 [.mk4 0 (some 16) (.bin .lss (.t 15) (.t 14)) none] [0,1,2,13,14,15,16]) (.seq (.cond (.t 16) .skip (.exit 0)) c190_2)) n2,.block 0] .normal
   [(0,.yld L),(1,.p c1 0),(2,.p c2 0),(13,.slice (some (q,0)) A.length cp),(14,.i (A.length:Int)),(15,.i (((jay (askS f g top) m).length:Int)+1))] g' (Fin c190.res fun v' h'=>I 64 h'\/J h'):=by
  intro hb
  rw [hl1]
  have hlt2:(jay (askS f g top) (m+1)).length=(jay (askS f g top) m).length+1:=by simp [jay,hF]
  exact ih (A.length-(jay (askS f g top) (m+1)).length) om _ _ ⟨m+1,rfl,by omega,rfl,(q1 hb).1,(og.trans (oB.toN _)).trans (q1 hb).2⟩
 clear hc hI hskip hy ih hix hall hls hat hIm hm1 hm2 hF o1 o2 o3 o13 row
 clear oB oA b3 m1 m2 m3 og y1 y2 y4
 generalize A.length=N at *
 generalize (jay (askS f g top) m).length=x at *
 generalize ints A=xs at *
 cases hf:f m<;>cases hg:g m<;>rw [hf] at eh1<;>rw [hg] at eh2<;>simp only [jnN,hf,hg,zU,if_true,if_false,reduceIte] at ey
 all_goals
  repeat' (first|refine qxy ?_|(refine zsp ?_ ?_<;>intro _)|fail)
  refine zcw rfl b1 (zr _) ?_
  rw [show List.take 2 (List.drop 0 (setV f))=setV f from rfl]
  repeat' (first|refine qxy ?_|(refine zsp ?_ ?_<;>intro _)|fail)
  refine zcw rfl b2' (zr _) ?_
  rw [show List.take 2 (List.drop 0 (setV g))=setV g from rfl]
  repeat' (first|refine qxy ?_|(refine zsp ?_ ?_<;>intro _)|fail)
  refine Ops.yield rfl rfl ey ?_
  cases bb
  ·repeat' (first|refine qxy ?_|(refine zsp ?_ ?_<;>intro _)|fail)
   exact .inr (q2 rfl)
  ·repeat' (first|refine qxy ?_|(refine zsp ?_ ?_<;>intro _)|fail)
   exact hend rfl
end
def VP (h:H) (v:V) (l:List (Int × Int)):Prop := ∃ a c,v = .slice a l.length c/\(l≠[] -> ∃ b o cs ro,a=some (b,o)/\b<h.nx/\h.get b=some (.cells cs ro)/\o+l.length*2<=cs.length /\ ∀ (i:Nat) (p:Int × Int),l[i]?=some p->(cs.drop (o+i*2)).take 2=[.i p.1,.i p.2])
theorem VP.keep {h h':H} {v:V} {l:List (Int × Int)} (a:VP h v l) (o:Old h h'):VP h' v l:=by
 obtain ⟨a,c,rfl,g⟩:=a
 refine ⟨a,c,rfl,fun hl=>?_⟩
 obtain ⟨b,o',cs,ro,rfl,h1,h2,h3⟩:=g hl
 exact ⟨b,o',cs,ro,rfl,zu h1 o.1,by rw [o.2 _ h1,h2],h3⟩
theorem VP.get {h:H} {a:Option (Nat × Nat)} {c:Cap} {l:List (Int × Int)} (v:VP h (.slice a l.length c) l) {i:Nat} {p:Int × Int} (hi:l[i]?=some p) :
  ∃ b o cs ro,a=some (b,o)/\b<h.nx/\h.get b=some (.cells cs ro)/\o+i*2+2<=cs.length/\(cs.drop (o+i*2)).take 2=[.i p.1,.i p.2]:=by
 obtain ⟨a',c',e,g⟩:=v
 cases e
 have hl:l≠[]:=by rintro rfl;simp at hi
 have hlt:i<l.length:=by
  rcases zA i l.length with h | h
  ·exact h
  ·rw [zc h] at hi;cases hi
 obtain ⟨b,o,cs,ro,rfl,h1,h2,h3,h4⟩:=g hl
 exact ⟨b,o,cs,ro,rfl,h1,h2,by omega,h4 i p hi⟩
def jnY (l:List (Int × Int)):Prop := ∀ p∈l,(-9223372036854775808<=p.1/\p.1<=9223372036854775807)/\(-9223372036854775808<=p.2/\p.2<=9223372036854775807)
def mayP (l:List (Int × Int)):Prop:=l.length<=96 /\ ∀ p∈l,jeM p.2
instance (l:List (Int × Int)):Decidable (mayP l):=inferInstanceAs (Decidable (_/\_))
section
variable {cl:Nat->Call} (hcl:Sem cl) {h:H} {w s:Nat} {ow:Nat->Nat} {ws:Ws} {now:Int} {tb:Tb} {no:Option (Nat × Nat)}
include hcl
theorem jo9 {d:Nat} {v:V} {l:List (Int × Int)} (hd:1<=d) (hv:VP h v l) (hf:jnY l) (hl:l.length<=100000) :
  ∃ h',cl d (.fn 201) [.p w 0,v] h=some (.i (if mayP l then 0 else 2),h')/\Old h h':=by
 obtain ⟨a,c,rfl,_⟩:=id hv
 refine jai (aT hcl ?_)
 by_cases h96:96<l.length
 ·have hn : ¬ mayP l:=fun e=>by have:=e.1;omega
  have h96':(96:Int)<(l.length:Int):=by omega
  rw [zF hn]
  clear hn hf
  refine Ga ?_
  exact ⟨rfl,ZD _⟩
 have h96' : ¬ (96:Int)<(l.length:Int):=by omega
 refine Ga ?_
 refine Zx (fun m e g=>∃ i:Nat,m=l.length-i/\i<=l.length/\e=[(12,.slice a l.length c),(13,.i (l.length:Int)),(14,.i (i:Int))]/\Old h g /\ ∀ j p,j<i->l[j]?=some p->jeM p.2)
  (k:=l.length) Ze ⟨0,rfl,by omega,rfl,ZD _,fun j p hj=>by omega⟩ ?_
 rintro _ _ g ⟨i,rfl,hi,rfl,og,hall⟩ n2 ih
 by_cases hlt:(i:Int)<l.length
 case neg=>
  have hm:mayP l:=⟨by omega,fun p hp=>by
   obtain ⟨j,hj,e⟩:=zY hp
   exact hall j p om (by rw [za hj,e])⟩
  rw [zG hm]
  clear ih hall hf hm
  refine Ga ?_
  exact ⟨rfl,og⟩
 have hp:=za (show i<l.length by omega)
 have hpm:=zb hp
 generalize l[i]=p at hp hpm
 obtain ⟨b,o,cs,ro,rfl,hb,hcs,ho,hg⟩:=(hv.keep og).get hp
 have hfp:=hf p hpm
 have hg':(cs.drop (o+(i:Int).toNat*2)).take 2=[.i p.1,.i p.2]:=by rw [zz];exact hg
 have hi1:(i:Int)+1=((i+1:Nat):Int):=by omega
 by_cases hm:jeM p.2
 ·have hz:=(jlP hfp.2.1 hfp.2.2).2 hm
  clear hf
  refine Ga ?_
  refine zcw rfl hcs om ?_
  rw [hg']
  repeat' (first|refine qmy ?_|(refine zsp ?_ ?_<;>intro _)|fail)
  ·rename_i hx
   exact zM hz hx
  rw [hi1]
  refine ih (l.length-(i+1)) om _ _ ⟨i+1,rfl,by omega,rfl,og.new.set og.1,fun j q hj hq=>?_⟩
  rcases zA j i with h1 | h1
  ·exact hall j q h1 hq
  ·obtain rfl:j=i:=by omega
   rw [hp] at hq;cases hq;exact hm
 ·have hz : ¬ IntKind.i64.wrap (BitVec.ofInt 64 p.2 &&& ~~~(BitVec.ofInt 64 5)).toNat=0:=fun e=>hm ((jlP hfp.2.1 hfp.2.2).1 e)
  have hn : ¬ mayP l:=fun e=>hm (e.2 p hpm)
  rw [zF hn]
  clear hf hn ih hall
  refine Ga ?_
  refine zcw rfl hcs om ?_
  rw [hg']
  refine qm ?_
  exact ⟨rfl,og.new.set og.1⟩
end
section
variable {cl:Nat->Call} (hcl:Sem cl) {h:H} {w s:Nat} {ow:Nat->Nat} {ws:Ws} {now:Int} {tb:Tb} {no:Option (Nat × Nat)}
include hcl
theorem pl_is {d:Nat} {fd ev:Int} (hd:6<=d) (a:WSt h w s ow ws now tb no) (o:WsOk ws) (hm:jeM ev) :
  ∃ h',cl d (.fn 204) [.p w 0,.agg [.i fd,.i ev]] h=some (.i (jcL (rdyS ws fd) fd ev),h')/\Old h h':=by
 have o0:Old h (h.new (.cells [.i fd,.i ev] false)):=(ZD h).new
 have g0:(h.new (.cells [.i fd,.i ev] false)).get h.nx=some (.cells [.i fd,.i ev] false):=jad _
 have x0:(h.new (.cells [.i fd,.i ev] false)).nx=h.nx+1:=rfl
 obtain ⟨h1,e1,o1⟩:=jfm hcl (d:=d-1) (fd:=fd) om (a.old o0) o
 rw [jhp] at e1
 generalize rdyS ws fd=r at e1 ⊢
 obtain ⟨op,inn,out,hup,err,rd,wr⟩:=r
 simp only [Rdy.cells] at e1
 have g1:h1.get h.nx=some (.cells [.i fd,.i ev] false):=by rw [o1.2 _ om,g0]
 have x1:=o1.1
 have oE : ∀ c:List V,Old h ((h1.new (.cells [.bool false,.bool false,.bool false,.bool false,.bool false,.int .u64 0,.int .u64 0] false)).set h1.nx (.cells c false)):=fun c=>(o0.trans o1).new.set om
 refine jai (aT hcl ?_)
 clear a o
 by_cases hfd:fd<0
 ·have hp:jcL ⟨op,inn,out,hup,err,rd,wr⟩ fd ev=0:=zG hfd
  rw [hp]
  clear hm
  refine qm ?_
  exact ⟨rfl,oE _⟩
 cases op
 ·have hp:jcL ⟨false,inn,out,hup,err,rd,wr⟩ fd ev=32:=by unfold jcL;rw [zF hfd];rfl
  rw [hp]
  clear hm
  refine qm ?_
  exact ⟨rfl,oE _⟩
 have hp:jcL ⟨true,inn,out,hup,err,rd,wr⟩ fd ev=b2i hup 16+b2i (inn&&decide (ev=1\/ev=5)) 1+b2i (out&&decide (ev=4\/ev=5)) 4+b2i err 8:=by
  unfold jcL;rw [zF hfd];rfl
 rw [hp]
 clear hp
 cases hup<;>cases inn<;>cases out<;>cases err<;>rcases hm with rfl | rfl | rfl | rfl
 all_goals
  repeat' (first|refine qmy ?_|(refine zsp ?_ ?_<;>intro _)|fail)
  exact ⟨rfl,oE _⟩
theorem jjW {d L c2 c3:Nat} {v:V} {l:List (Int × Int)} (hd:8<=d) (o:WsOk ws) (hm : ∀ p∈l,jeM p.2) (hl:l.length<=1000) (I:Nat->H->Prop) (J:H->Prop)
  (hW : ∀ i g,I i g->WSt g w s ow ws now tb no/\VP g v l/\g.get c3=some (.cells [v] false)/\g.get c2=some (.cells [.p w 0] false)/\c2<g.nx)
  (hI : ∀ i g g',I i g->Old g g'->I i g')
  (hy : ∀ i g p,l[i]?=some p->I i g -> ∃ (b:Bool) (g':H),cl (d-1) (.yld L) [.i (jcL (rdyS ws p.1) p.1 p.2)] g=some (.bool b,g')/\(b=true->I (i+1) g')/\(b=false->J g'))
  (h0:I 0 h) : ∃ v' h',cl d (.fn 203) [.yld L,.p c3 0,.p c2 0] h=some (v',h')/\(I l.length h'\/J h'):=by
 obtain ⟨_,hv,hc3,_⟩:=hW _ _ h0
 obtain ⟨a,c,rfl,_⟩:=id hv
 refine aT hcl ?_
 refine Ga ?_
 refine Zx (fun m e g=>∃ i:Nat,m=l.length-i/\i<=l.length/\e=[(0,.yld L),(2,.p c2 0),(6,.slice a l.length c),(7,.i (l.length:Int)),(8,.i (i:Int))]/\I i g)
  (k:=l.length) Ze ⟨0,rfl,by omega,rfl,h0⟩ ?_
 clear hc3
 rintro _ _ g ⟨i,rfl,hi,rfl,hIi⟩ n2 ih
 by_cases hlt:(i:Int)<l.length
 case neg=>
  obtain rfl:i=l.length:=by omega
  clear ih hI hy hW hm
  refine Ga ?_
  exact .inl hIi
 have hp:=za (show i<l.length by omega)
 have hpm:=zb hp
 generalize l[i]=p at hp hpm
 obtain ⟨_,hv1,_⟩:=hW _ _ hIi
 obtain ⟨b,o',cs,ro,rfl,hb,hcs,ho,hg⟩:=hv1.get hp
 have hg':(cs.drop (o'+(i:Int).toNat*2)).take 2=[.i p.1,.i p.2]:=by rw [zz];exact hg
 have hi1:(i:Int)+1=((i+1:Nat):Int):=by omega
 have o1:Old g ((g.new (.cells [.i 0,.i 0] false)).set g.nx (.cells [.i p.1,.i p.2] false)):=(ZD g).new.set (zr _)
 have I1:=hI _ _ _ hIi o1
 obtain ⟨W1,_,_,hc2,lc2⟩:=hW _ _ I1
 obtain ⟨g2,e2,o2⟩:=pl_is hcl (d:=d-1) (fd:=p.1) (ev:=p.2) om W1 o (hm p hpm)
 obtain ⟨b',g',e3,q1,q2⟩:=hy i g2 p hp (hI _ _ _ I1 o2)
 clear hW hI hy hm
 refine Ga ?_
 refine zcw rfl hcs om ?_
 rw [hg']
 cases b'
 ·refine qm ?_
  refine Ops.yield rfl rfl e3 ?_
  refine qm ?_
  exact .inr (q2 rfl)
 ·refine qm ?_
  refine Ops.yield rfl rfl e3 ?_
  refine qm ?_
  rw [hi1]
  exact ih (l.length-(i+1)) om _ _ ⟨i+1,rfl,by omega,rfl,q1 rfl⟩
end
def inR (r:Rdy):Bool:=r.inn||r.hup||r.err
def outR (r:Rdy):Bool:=r.out||r.hup||r.err
def isR (r:Rdy):Int:=(if inR r then 2 else 0)+(if outR r then 4 else 0)
def jey (ws:Ws) (f g:Nat->Bool) (top:Int):Prop := ∃ m:Nat,m<64/\askS f g top m=true/\(rdyS ws (m:Int)).op=false
section
variable {cl:Nat->Call} (hcl:Sem cl) {h:H}
include hcl
theorem sl_is {d:Nat} {r:Rdy} (hd:1<=d) : ∃ h',cl d (.fn 186) [.agg r.cells] h=some (.i (isR r),h')/\Old h h':=by
 obtain ⟨op,inn,out,hup,err,rd,wr⟩:=r
 have o0:Old h (h.new (.cells (Rdy.cells ⟨op,inn,out,hup,err,rd,wr⟩) false)):=(ZD h).new
 simp only [Rdy.cells] at o0 ⊢
 refine jai (aT hcl ?_)
 cases inn<;>cases out<;>cases hup<;>cases err
 all_goals
  generalize hR:isR _=R
  repeat' (first|refine qxy ?_|(refine zsp ?_ ?_<;>intro _)|fail)
  refine zcu rfl rfl ?_
  repeat' (first|refine qxy ?_|(refine zsp ?_ ?_<;>intro _)|fail)
  subst hR
  exact ⟨rfl,o0⟩
variable {w s:Nat} {ow:Nat->Nat} {ws:Ws} {now:Int} {tb:Tb} {no:Option (Nat × Nat)} {f g:Nat->Bool}
theorem sl_closed {d:Nat} {top:Int} (hd:10<=d) (a:WSt h w s ow ws now tb no) (o:WsOk ws) :
  ∃ (b:Bool) (h':H),cl d (.fn 184) [.p w 0,.i top,.agg (setV f),.agg (setV g)] h=some (.bool b,h')/\(b=true↔jey ws f g top)/\Old h h':=by
 suffices q : ∃ v' h',cl d (.fn 184) [.p w 0,.i top,.agg (setV f),.agg (setV g)] h=some (v',h') /\ ∃ b:Bool,v' = .bool b/\(b=true↔jey ws f g top)/\Old h h' by
  obtain ⟨_,h',e,b,rfl,q⟩:=q;exact ⟨b,h',e,q⟩
 refine aT hcl ?_
 refine qm ?_
 refine zcw (l:=setV f) rfl qgt (zr _) ?_
 rw [show List.take 2 (List.drop 0 (setV f))=setV f from rfl]
 refine Ga ?_
 refine zcw (l:=setV g) rfl qgt (zr _) ?_
 rw [show List.take 2 (List.drop 0 (setV g))=setV g from rfl]
 refine Ga ?_
 refine zaw rfl (jlB hcl (d:=d-1) (f:=f) (g:=g) om) ?_
 refine Ga ?_
 have oH:Old h ((((((((h.new (.cells [.p w 0] false)).new (.cells (setV f) false)).new (.cells (setV g) false)).new (.cells [.bool false] false)).set (h.nx+3) (.cells [.bool false] false)).new (.cells [.i top] false)).new (.cells (setV f) false)).new (.cells (setV g) false)):=((((ZD h).new.new.new.new.set Zd).new).new).new
 have b0:((((((((h.new (.cells [.p w 0] false)).new (.cells (setV f) false)).new (.cells (setV g) false)).new (.cells [.bool false] false)).set (h.nx+3) (.cells [.bool false] false)).new (.cells [.i top] false)).new (.cells (setV f) false)).new (.cells (setV g) false)).get h.nx=some (.cells [.p w 0] false):=qgt
 have b3:((((((((h.new (.cells [.p w 0] false)).new (.cells (setV f) false)).new (.cells (setV g) false)).new (.cells [.bool false] false)).set (h.nx+3) (.cells [.bool false] false)).new (.cells [.i top] false)).new (.cells (setV f) false)).new (.cells (setV g) false)).get (h.nx+3)=some (.cells [.bool false] false):=qgt
 have b4:((((((((h.new (.cells [.p w 0] false)).new (.cells (setV f) false)).new (.cells (setV g) false)).new (.cells [.bool false] false)).set (h.nx+3) (.cells [.bool false] false)).new (.cells [.i top] false)).new (.cells (setV f) false)).new (.cells (setV g) false)).get (h.nx+4)=some (.cells [.i top] false):=qgt
 have b5:((((((((h.new (.cells [.p w 0] false)).new (.cells (setV f) false)).new (.cells (setV g) false)).new (.cells [.bool false] false)).set (h.nx+3) (.cells [.bool false] false)).new (.cells [.i top] false)).new (.cells (setV f) false)).new (.cells (setV g) false)).get (h.nx+5)=some (.cells (setV f) false):=qgt
 have b6:((((((((h.new (.cells [.p w 0] false)).new (.cells (setV f) false)).new (.cells (setV g) false)).new (.cells [.bool false] false)).set (h.nx+3) (.cells [.bool false] false)).new (.cells [.i top] false)).new (.cells (setV f) false)).new (.cells (setV g) false)).get (h.nx+6)=some (.cells (setV g) false):=qgt
 have x1:((((((((h.new (.cells [.p w 0] false)).new (.cells (setV f) false)).new (.cells (setV g) false)).new (.cells [.bool false] false)).set (h.nx+3) (.cells [.bool false] false)).new (.cells [.i top] false)).new (.cells (setV f) false)).new (.cells (setV g) false)).nx=h.nx+7:=rfl
 change Run (cl (d-1)) fuel _ _ [(4,.p h.nx 0),(9,.p (h.nx+3) 0),(14,.clo 190 [.p (h.nx+5) 0,.p (h.nx+6) 0,.p (h.nx+4) 0])] ((((((((h.new (.cells [.p w 0] false)).new (.cells (setV f) false)).new (.cells (setV g) false)).new (.cells [.bool false] false)).set (h.nx+3) (.cells [.bool false] false)).new (.cells [.i top] false)).new (.cells (setV f) false)).new (.cells (setV g) false)) _
 generalize (((((((h.new (.cells [.p w 0] false)).new (.cells (setV f) false)).new (.cells (setV g) false)).new (.cells [.bool false] false)).set (h.nx+3) (.cells [.bool false] false)).new (.cells [.i top] false)).new (.cells (setV f) false)).new (.cells (setV g) false)=H1 at oH b0 b3 b4 b5 b6 x1 ⊢
 have hx1:=oH.1
 refine Zz rfl qkp fun LO hLO=>?_
 rw [x1]
 have oL:Old h (H1.new (LO .ready none)):=oH.new
 obtain ⟨v',h',hc,hIJ⟩:=jim hcl (d:=d-1) (L:=h.nx+7) (c1:=h.nx+5) (c2:=h.nx+6) (c3:=h.nx+4) (f:=f) (g:=g) (top:=top) (h:=H1.new (LO .ready none)) om
  (fun m e=>(∀ j,j<m->askS f g top j=true->(rdyS ws (j:Int)).op=true)/\e.get h.nx=some (.cells [.p w 0] false)/\e.get (h.nx+3)=some (.cells [.bool false] false)/\e.get (h.nx+4)=some (.cells [.i top] false)/\e.get (h.nx+5)=some (.cells (setV f) false)/\e.get (h.nx+6)=some (.cells (setV g) false)/\e.get (h.nx+7)=some (LO .ready none)/\h.nx+8<=e.nx/\Old h e)
  (fun e=>jey ws f g top/\e.get (h.nx+3)=some (.cells [.bool true] false)/\e.get (h.nx+7)=some (LO .done (some (.exit 0)))/\h.nx+8<=e.nx/\Old h e)
  (fun m e ⟨_,_,_,p4,p5,p6,_,p8,_⟩=>⟨p5,p6,p4,by omega,by omega,by omega⟩)
  (by
   rintro m e e' ⟨p00,p0,p3,p4,p5,p6,p7,p8,p9⟩ og
   exact ⟨p00,by rw [og.2 _ om,p0],by rw [og.2 _ om,p3],by rw [og.2 _ om,p4],by rw [og.2 _ om,p5],by rw [og.2 _ om,p6],by rw [og.2 _ om,p7],zE p8 og.1,p9.trans og⟩)
  (by
   rintro m e hm hk ⟨p00,p⟩
   refine ⟨fun j hj ha=>?_,p⟩
   by_cases hjm:j=m
   ·rw [hjm,hk] at ha;cases ha
   ·exact p00 j om ha)
  (by
   rintro m e hm hk ⟨p00,p0,p3,p4,p5,p6,p7,p8,p9⟩
   have oq:Old h (e.set (h.nx+7) (LO .busy none)):=p9.set om
   obtain ⟨e1,er,oe⟩:=jfm hcl (d:=d-1-1-1) (fd:=(m:Int)) om (a.old oq) o
   rw [jhp] at er
   have hop : ∀ j,j<m+1->askS f g top j=true->(rdyS ws (m:Int)).op=true->(rdyS ws (j:Int)).op=true:=by
    intro j hj ha ho
    by_cases hjm:j=m
    ·rw [hjm,ho]
    ·exact p00 j om ha
   have hcz:(rdyS ws (m:Int)).op=false->jey ws f g top:=fun h=>⟨m,hm,hk,h⟩
   generalize jnN f g m=mk0
   generalize rdyS ws (m:Int)=r at er hop hcz
   obtain ⟨op,inn,out,hup,err,rd,wr⟩:=r
   simp only [Rdy.cells] at er hop hcz
   have r0:e1.get (h.nx+3)=some (.cells [.bool false] false):=by rw [oe.2 _ Zc,jaa om,p3]
   have r7:e1.get (h.nx+7)=some (LO .busy none):=by rw [oe.2 _ Zc,jab]
   have oe2 : ∀ j,j<e.nx->j≠h.nx+7->e1.get j=e.get j:=fun j h1 h2=>by rw [oe.2 _ (by simpa using h1),jaa h2]
   have ox:e.nx<=e1.nx:=by have:=oe.1;simpa using this
   have of:Old h e1:=oq.trans oe
   suffices q : ∃ v' g',cl (d-1-1) (.yld (h.nx+7)) [.i (m:Int),.i mk0] e=some (v',g') /\ ∃ b:Bool,v' = .bool b/\(b=true->((∀ j,j<m+1->askS f g top j=true->(rdyS ws (j:Int)).op=true)/\g'.get h.nx=some (.cells [.p w 0] false)/\g'.get (h.nx+3)=some (.cells [.bool false] false)/\g'.get (h.nx+4)=some (.cells [.i top] false)/\g'.get (h.nx+5)=some (.cells (setV f) false)/\g'.get (h.nx+6)=some (.cells (setV g) false)/\g'.get (h.nx+7)=some (LO .ready none)/\h.nx+8<=g'.nx/\Old h g')/\Old e g') /\
     (b=false->jey ws f g top/\g'.get (h.nx+3)=some (.cells [.bool true] false)/\g'.get (h.nx+7)=some (LO .done (some (.exit 0)))/\h.nx+8<=g'.nx/\Old h g') by
    obtain ⟨_,g',e,b,rfl,q⟩:=q
    exact ⟨b,g',e,fun hb=>⟨(q.1 hb).1,(q.1 hb).2.toN _⟩,q.2⟩
   refine yl_ hcl om hLO p7 rfl ?_
   clear a o
   refine Ga ?_
   refine Zv ⟨rfl,p7,?_⟩
   cases op
   ·refine Ga ?_
    refine zcs (l:=[.bool false]) rfl rfl rfl r0 zP ?_
    refine Ga ?_
    refine Zv ⟨⟨.busy,none,by rw [jaa om,r7]⟩,false,rfl,fun e=>(by cases e),fun _=>⟨hcz rfl,?_,jab _,by simp;omega,(of.set om).set om⟩⟩
    rw [jaa om];exact jab _
   ·refine Ga ?_
    refine Zv ⟨⟨.busy,none,r7⟩,true,rfl,fun _=>⟨⟨fun j hj ha=>hop j hj ha rfl,?_,?_,?_,?_,?_,jab _,by simp;omega,of.set om⟩,by simpa using ox,?_⟩,fun e=>by cases e⟩
    ·rw [jaa om,oe2 _ om om,p0]
    ·rw [jaa om,oe2 _ om om,p3]
    ·rw [jaa om,oe2 _ om om,p4]
    ·rw [jaa om,oe2 _ om om,p5]
    ·rw [jaa om,oe2 _ om om,p6]
    ·intro j hj
     by_cases hz:j=h.nx+7
     ·rw [hz,jab,p7];rfl
     ·rw [jaa hz,oe2 _ hj hz])
  ⟨fun j hj=>by omega,by rw [jac om,b0],by rw [jac om,b3],by rw [jac om,b4],by rw [jac om,b5],by rw [jac om,b6],by rw [<- x1,jad],by simp [x1],oL⟩
 clear a o
 rcases hIJ with ⟨p00,p0,p3,p4,p5,p6,p7,p8,p9⟩ | ⟨p00,p3,p7,p8,p9⟩
 ·have hn : ¬ jey ws f g top:=by
   rintro ⟨m,hm,hk,hz⟩
   rw [p00 m hm hk] at hz;cases hz
  have k0:(h'.kill (h.nx+7)).get (h.nx+3)=some (.cells [.bool false] false):=by rw [jae om,p3]
  have o9:Old h (h'.kill (h.nx+7)):=⟨p9.1,fun j hj=>by rw [jae om,p9.2 j hj]⟩
  refine ⟨v',h',hc,.normal,p7,?_⟩
  clear hLO
  refine Ga ?_
  exact ⟨_,rfl,by simp [hn],o9⟩
 ·have k0:(h'.kill (h.nx+7)).get (h.nx+3)=some (.cells [.bool true] false):=by rw [jae om,p3]
  have o9:Old h (h'.kill (h.nx+7)):=⟨p9.1,fun j hj=>by rw [jae om,p9.2 j hj]⟩
  refine ⟨v',h',hc,.exit 0,p7,?_⟩
  clear hLO
  refine Ga ?_
  exact ⟨_,rfl,by simp [p00],o9⟩
end
end Am.Sigs
