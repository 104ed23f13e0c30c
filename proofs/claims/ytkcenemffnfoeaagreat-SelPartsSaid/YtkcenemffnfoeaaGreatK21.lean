/- Our own library, part 21: an abstract machine, sound for the model, and what the functions do over it. No condition. -/
import Derived.Test.YtkcenemffnfoeaaGreatK20
import Derived.Test.YtkcenemffnfoeaaGreatK17
import Derived.Test.YtkcenemffnfoeaaGreatK19
set_option maxHeartbeats 8000000
set_option linter.all false
namespace Am.Sigs
open Am Go
def jaz (f:Nat->Bool):Nat->List Int
 | 0=>[]
 | n+1=>jaz f n++if f n then [(n:Int)] else []
theorem jhp (f:Nat->Bool) : ∀ n,(jaz f n).length<=n
 | 0=>Nat.le_refl _
 | n+1=>by
  have:=jhp f n
  simp only [jaz,List.length_append]
  split<;>simp<;>omega
def jcf (f:Nat->Bool) (n:Int):Nat->Bool:=fun i=>f i&&decide ((i:Int)<n)
def jaY (f:Nat->Bool) (n:Int) (k:Nat):Nat->Bool:=fun i=>f i&&(decide (k<=i)||decide ((i:Int)<n))
section
variable {cl:Nat->Call} (hcl:Sem cl) {f g:Nat->Bool} {fd:Int} {h:H}
include hcl
theorem jon {d:Nat} (hd:1<=d):cl d (.fn F.jfu) [.agg (setV f)] h=some (.clo F.jby [.p h.nx 0],h.new (.cells (setV f) false)):=by
 refine jao (at_ hcl om rfl rfl rfl ?_)
 refine qm1 ?_
 exact ⟨rfl,rfl⟩
theorem jlJ {d L c:Nat} (hd:3<=d) (I:Nat->H->Prop) (J:H->Prop)
  (hc : ∀ k g,I k g->g.get c=some (.cells (setV f) false))
  (hI : ∀ k g g',I k g->Old g g'->I k g')
  (hskip : ∀ k g,k<64->f k=false->I k g->I (k+1) g)
  (hy : ∀ k g,k<64->f k=true->I k g -> ∃ (b:Bool) (g':H),cl (d-1) (.yld L) [.i (k:Int)] g=some (.bool b,g')/\(b=true->I (k+1) g')/\(b=false->J g'))
  (h0:I 0 h) : ∃ v h',cl d (.fn F.jby) [.yld L,.p c 0] h=some (v,h')/\(I 64 h'\/J h'):=by
 refine at_ hcl om rfl rfl rfl ?_
 refine qx1 ?_
 refine Run.loop (fun m e g=>∃ k:Nat,m=64-k/\k<=64/\e=[(0,.yld L),(1,.p c 0),(4,.i (k:Int))]/\I k g) (k:=64) (by show _<100000;omega) ⟨0,rfl,by omega,rfl,h0⟩ ?_
 rintro _ _ g ⟨k,rfl,hk,rfl,hIk⟩ n ih
 by_cases hlt:k<64
 case neg=>
  obtain rfl:k=64:=by omega
  have hlt' : ¬ ((64:Nat):Int)<64:=by omega
  clear ih hI hskip hy hc
  refine qx1 ?_
  exact .inl hIk
 have hlt':(k:Int)<64:=by omega
 have hk1:(k:Int)+1=((k+1:Nat):Int):=by omega
 have hc1:=hc k g hIk
 have eh:=jn8 hcl (d:=d-1) (f:=f) (fd:=(k:Int)) (h:=g) om
 rw [decide_eq_true (show fitS (k:Int) from ⟨by omega,by omega⟩),Bool.true_and,Int.toNat_natCast] at eh
 have I1:=hI k g _ hIk ((Old.refl g).new (o := .cells (setV f) false))
 cases hf:f k with
 | false=>
  rw [hf] at eh
  have I2:=hskip k _ hlt hf I1
  clear hI hskip hy hc
  refine qx1 ?_
  refine Ops.loadN rfl hc1 (Nat.le_refl _) ?_
  rw [show List.take 2 (List.drop 0 (setV f))=setV f from rfl]
  refine qx1 ?_
  rw [hk1]
  exact ih (64-(k+1)) om _ _ ⟨k+1,rfl,by omega,rfl,I2⟩
 | true=>
  rw [hf] at eh
  obtain ⟨b,g',e1,q1,q2⟩:=hy k _ hlt hf I1
  clear hI hskip hy hc
  refine qx1 ?_
  refine Ops.loadN rfl hc1 (Nat.le_refl _) ?_
  rw [show List.take 2 (List.drop 0 (setV f))=setV f from rfl]
  cases b
  ·refine qx1 ?_
   refine Ops.yield rfl rfl e1 ?_
   refine qx1 ?_
   exact .inr (q2 rfl)
  ·refine qx1 ?_
   refine Ops.yield rfl rfl e1 ?_
   refine qx1 ?_
   rw [hk1]
   exact ih (64-(k+1)) om _ _ ⟨k+1,rfl,by omega,rfl,q1 rfl⟩
theorem fs_All {d:Nat} (hd:7<=d) : ∃ v h',cl d (.fn F.jfw) [.agg (setV f)] h=some (v,h')/\Row h.nx h' 1 v (jaz f 64).length (ints (jaz f 64))/\Old h h':=by
 have app : ∀ (H0:H) (c:Nat),c<H0.nx->H0.get c=some (.cells (setV f) false) -> ∃ v h',cl (d-1-1) (.fn F.jdu) [.nils,.clo F.jby [.p c 0]] H0=some (v,h')/\Row H0.nx h' 1 v (jaz f 64).length (ints (jaz f 64))/\Old H0 h':=by
  intro H0 c lc hc
  refine at_ hcl om rfl rfl rfl ?_
  refine qm1 ?_
  have oH:Old H0 (H0.new (.cells [.nils] false)):=(Old.refl H0).new
  refine Run.rangeFunc_lo rfl qkp fun LO hLO=>?_
  obtain ⟨v',h',hc',hIJ⟩:=jlJ hcl (d:=d-1-1-1) (L:=H0.nx+1) (c:=c) (f:=f) (h:=(H0.new (.cells [.nils] false)).new (LO .ready none)) om
   (fun k g=>(∃ sv,g.get H0.nx=some (.cells [sv] false)/\Row (H0.nx+2) g 1 sv (jaz f k).length (ints (jaz f k)))/\g.get c=some (.cells (setV f) false)/\g.get (H0.nx+1)=some (LO .ready none)/\H0.nx+2<=g.nx/\Old H0 g/\k<=64)
   (fun _=>False)
   (fun k g p=>p.2.1)
   (by
    rintro k g g' ⟨⟨sv,p0,pr⟩,p1,p2,p3,p4,p5⟩ og
    exact ⟨⟨sv,by rw [og.2 _ om,p0],pr.keep og.1 fun z hz=>og.2 z (pr.at_ge hz).2⟩,by rw [og.2 _ om,p1],by rw [og.2 _ om,p2],Nat.le_trans p3 og.1,p4.trans og,p5⟩)
   (by
    rintro k g hk hf ⟨p0,p1,p2,p3,p4,p5⟩
    have e:jaz f (k+1)=jaz f k:=by simp [jaz,hf]
    rw [e];exact ⟨p0,p1,p2,p3,p4,by omega⟩)
   (by
    rintro k g hk hf ⟨⟨sv,p0,pr⟩,p1,p2,p3,p4,p5⟩
    have e:jaz f (k+1)=jaz f k++[(k:Int)]:=by simp [jaz,hf]
    have hll:=jhp f k
    rw [e]
    generalize jaz f k=pl at pr hll ⊢
    refine ⟨true,?_⟩
    suffices q : ∃ v' g',cl (d-1-1-1-1) (.yld (H0.nx+1)) [.i (k:Int)] g=some (v',g')/\(v' = .bool true/\((∃ sv,g'.get H0.nx=some (.cells [sv] false)/\Row (H0.nx+2) g' 1 sv (pl++[(k:Int)]).length (ints (pl++[(k:Int)])))/\g'.get c=some (.cells (setV f) false)/\g'.get (H0.nx+1)=some (LO .ready none)/\H0.nx+2<=g'.nx/\Old H0 g'/\k+1<=64)) by
     obtain ⟨_,g',e,rfl,q⟩:=q
     exact ⟨g',e,fun _=>q,fun e=>by cases e⟩
    obtain ⟨cp,⟨asv,rfl⟩,_⟩:=pr.shape
    refine yl_ hcl om hLO p2 rfl ?_
    refine qx1 ?_
    refine End.nil ⟨rfl,p2,?_⟩
    have pr2:Row (H0.nx+2) (g.set (H0.nx+1) (LO .busy none)) 1 (.slice asv pl.length cp) pl.length (ints pl):=pr.keep (by simp) fun z hz=>by have:=pr.at_ge hz;exact jaa om
    refine qx1 ?_
    refine Ops.push (N:=H0.nx+2) (new:=[.i (k:Int)]) rfl rfl rfl rfl om rfl rfl pr2 (by simpa using p3) om om fun v2 g2 row' hx' hz' hk'=>?_
    have hx':g.nx<=g2.nx:=by simpa using hx'
    have hk2 : ∀ j,j<H0.nx+2->g2.get j=(g.set (H0.nx+1) (LO .busy none)).get j:=fun j hj=>hk' j (by simp;omega) fun e=>by have:=pr2.at_ge e;omega
    have q0:g2.get H0.nx=some (.cells [.slice asv pl.length cp] false):=by rw [hk2 _ om,jaa om,p0]
    have hone:=row'.one
    refine Ops.store1 rfl rfl hone q0 Nat.zero_lt_one ?_
    refine qx1 ?_
    refine End.nil ⟨⟨.busy,none,by rw [jaa om,hk2 _ om,jab]⟩,rfl,⟨v2,?_,?_⟩,?_,jab _,by simp;omega,?_,by omega⟩
    ·rw [jaa om];exact jab _
    ·have r2:Row (H0.nx+2) g2 1 v2 (pl++[(k:Int)]).length (ints (pl++[(k:Int)])):=by simpa [ints] using row'
     exact r2.keep (by simp) fun z hz=>by have:=hz' z hz;simp at this;rw [jaa om,jaa om]
    ·rw [jaa om,jaa om,hk2 _ om,jaa om,p1]
    ·have p7:=p4.1
     exact ⟨by simp;omega,fun j hj=>by rw [jaa om,jaa om,hk2 _ om,jaa om,p4.2 j hj]⟩)
   ⟨⟨.nils,qgt,by simpa [jaz] using Row.nil _ _ _⟩,by rw [jac (by simp;omega),jac lc,hc],qgt,by simp,oH.new,by omega⟩
  refine hIJ.elim ?_ fun hF=>hF.elim
  rintro ⟨⟨sv,p0,pr⟩,p1,p2,p3,p4,_⟩
  refine ⟨v',h',hc',.normal,p2,?_⟩
  have k0:(h'.kill (H0.nx+1)).get H0.nx=some (.cells [sv] false):=by rw [jaf om,p0]
  have o9:Old H0 (h'.kill (H0.nx+1)):=⟨p4.1,fun j hj=>by rw [jaf om,p4.2 j hj]⟩
  have r9:Row H0.nx (h'.kill (H0.nx+1)) 1 sv (jaz f 64).length (ints (jaz f 64)):=by
   rcases pr with r | ⟨q,q1,q2,e,q4,q5⟩
   ·exact .inl r
   ·exact .inr ⟨q,by omega,q2,e,by rw [jaf om,q4],q5⟩
  obtain ⟨cp,⟨asv,rfl⟩,_⟩:=pr.shape
  clear hLO
  refine qx1 ?_
  exact ⟨r9,o9⟩
 have o0:Old h ((h.new (.cells (setV f) false)).new (.cells (setV f) false)):=(Old.refl h).new.new
 obtain ⟨v,h',e1,r1,o1⟩:=app ((h.new (.cells (setV f) false)).new (.cells (setV f) false)) (h.nx+1) (by simp) qgt
 have ec:cl (d-1) (.fn F.jfg) [.clo F.jby [.p (h.nx+1) 0]] ((h.new (.cells (setV f) false)).new (.cells (setV f) false))=some (v,h'):=by
  obtain ⟨cp,⟨asv,rfl⟩,_⟩:=r1.shape
  refine jao (at_ hcl om rfl rfl rfl ?_)
  clear app
  refine qx1 ?_
  exact ⟨rfl,rfl⟩
 have ea:=jon hcl (d:=d-1) (f:=f) (h:=h.new (.cells (setV f) false)) om
 have ea:cl (d-1) (.fn F.jfu) [.agg (setV f)] (h.new (.cells (setV f) false))=some (.clo F.jby [.p (h.nx+1) 0],(h.new (.cells (setV f) false)).new (.cells (setV f) false)):=ea
 have r2:Row h.nx h' 1 v (jaz f 64).length (ints (jaz f 64)):=by
  rcases r1 with r | ⟨q,q1,q2,e,q4,q5⟩
  ·exact .inl r
  ·have q1:h.nx+2<=q:=q1
   exact .inr ⟨q,by omega,q2,e,q4,q5⟩
 obtain ⟨cp,⟨asv,rfl⟩,_⟩:=r1.shape
 refine at_ hcl om rfl rfl rfl ?_
 clear app
 refine qm1 ?_
 exact ⟨r2,o0.trans o1⟩
end
end Am.Sigs
namespace Am.Sigs
open Am Go
def cntS (f:Nat->Bool):Nat->Nat
 | 0=>0
 | n+1=>cntS f n+if f n then 1 else 0
theorem jfy (f:Nat->Bool) (m:Nat) : ∀ n,cntS f (m+n)=cntS f m+cntS (fun i=>f (m+i)) n
 | 0=>rfl
 | n+1=>by rw [<- Nat.add_assoc,cntS,jfy f m n,cntS,Nat.add_assoc]
theorem jcs {f g:Nat->Bool} : ∀ {n:Nat},(∀ i,i<n->f i=g i)->cntS f n=cntS g n
 | 0,_=>rfl
 | n+1,h=>by rw [cntS,cntS,jcs fun i hi=>h i om,h n om]
theorem jcd (f:Nat->Bool) : ∀ n,cntS f n<=n
 | 0=>Nat.le_refl _
 | n+1=>by
  have:=jcd f n
  rw [cntS];split<;>omega
def pop8:List UInt8:=[0,1,1,2,1,2,2,3,1,2,2,3,2,3,3,4,1,2,2,3,2,3,3,4,2,3,3,4,3,4,4,5,1,2,2,3,2,3,3,4,2,3,3,4,3,4,4,5,2,3,3,4,3,4,4,5,3,4,4,5,4,5,5,6,1,2,2,3,2,3,3,4,2,3,3,4,3,4,4,5,2,3,3,4,3,4,4,5,3,4,4,5,4,5,5,6,2,3,3,4,3,4,4,5,3,4,4,5,4,5,5,6,3,4,4,5,4,5,5,6,4,5,5,6,5,6,6,7,1,2,2,3,2,3,3,4,2,3,3,4,3,4,4,5,2,3,3,4,3,4,4,5,3,4,4,5,4,5,5,6,2,3,3,4,3,4,4,5,3,4,4,5,4,5,5,6,3,4,4,5,4,5,5,6,4,5,5,6,5,6,6,7,2,3,3,4,3,4,4,5,3,4,4,5,4,5,5,6,3,4,4,5,4,5,5,6,4,5,5,6,5,6,6,7,3,4,4,5,4,5,5,6,4,5,5,6,5,6,6,7,4,5,5,6,5,6,6,7,5,6,6,7,6,7,7,8]
theorem pop8_all:(List.range 256).all (fun n=>pop8[n]? == some (UInt8.ofNat (cntS (fun i=>n.testBit i) 8)))=true:=by decide +kernel
theorem jiG (f:Nat->Bool):pop8[mk f 8]?=some (UInt8.ofNat (cntS f 8)):=by
 have h1:=jeF f 8
 have h:=List.all_eq_true.1 pop8_all (mk f 8) (List.mem_range.2 om)
 rw [beq_iff_eq] at h
 rw [h,jcs (g:=f) fun i hi=>by rw [jcO];simp [hi]]
theorem joo (f:Nat->Bool) {s:Nat} (hs:s<=24):mk f 32/2 ^ s%256=mk (fun i=>f (s+i)) 8:=by
 refine jjX (Nat.mod_lt _ om) fun i hi=>?_
 rw [show (256:Nat)=2 ^ 8 from rfl,Nat.testBit_mod_two_pow,Nat.testBit_div_two_pow,jcO]
 rw [Nat.add_comm i s]
 simp [hi,show s+i<32 by omega]
section
variable {call:Call} {fuel base:Nat} {K:List Fr} {e:Env} {h:H} {Q:Post} {ix:Nat} {dst at_:Option Nat} {ops:List Ins} {keep:List Nat}
theorem Ops.ixStr {x i:Opd} {s:List UInt8} {k:IntKind} {n:Nat} {b:UInt8} (hx:x.ev e=some (.str s)) (hi:i.ev e=some (.int k (n:Int))) (hs:s[n]?=some b) (kk:Ops call fuel base ops keep K (layv e dst (.int .u8 (b.toNat:Int))) h Q) :
  Ops call fuel base (⟨ix,dst,.ixStr x i,none,at_,[]⟩ :: ops) keep K e h Q:=by
 refine Ops.pure rfl ?_ kk
 simp only [I.pure,hx,hi]
 have hlt:n<s.length:=by
  rcases Nat.lt_or_ge n s.length with h | h
  ·exact h
  ·rw [List.getElem?_eq_none h] at hs;cases hs
 have hb:jfZ (n:Int) s.length=true:=jdx.2 ⟨by omega,by omega⟩
 rw [hb]
 simp only [cond_true,Int.toNat_natCast,hs,jf1]
end
def len8:List UInt8:=[0,1,2,2,3,3,3,3,4,4,4,4,4,4,4,4,5,5,5,5,5,5,5,5,5,5,5,5,5,5,5,5,6,6,6,6,6,6,6,6,6,6,6,6,6,6,6,6,6,6,6,6,6,6,6,6,6,6,6,6,6,6,6,6,7,7,7,7,7,7,7,7,7,7,7,7,7,7,7,7,7,7,7,7,7,7,7,7,7,7,7,7,7,7,7,7,7,7,7,7,7,7,7,7,7,7,7,7,7,7,7,7,7,7,7,7,7,7,7,7,7,7,7,7,7,7,7,7,8,8,8,8,8,8,8,8,8,8,8,8,8,8,8,8,8,8,8,8,8,8,8,8,8,8,8,8,8,8,8,8,8,8,8,8,8,8,8,8,8,8,8,8,8,8,8,8,8,8,8,8,8,8,8,8,8,8,8,8,8,8,8,8,8,8,8,8,8,8,8,8,8,8,8,8,8,8,8,8,8,8,8,8,8,8,8,8,8,8,8,8,8,8,8,8,8,8,8,8,8,8,8,8,8,8,8,8,8,8,8,8,8,8,8,8,8,8,8,8,8,8,8,8,8,8,8,8]
def BL (x L:Nat):Prop:=x<2 ^ L/\(L=0\/2 ^ (L-1)<=x)
instance (x L:Nat):Decidable (BL x L):=inferInstanceAs (Decidable (_/\_))
theorem len8_all:(List.range 256).all (fun n=>match len8[n]? with | some b=>decide (BL n b.toNat/\b.toNat<=8) | none=>false)=true:=by decide +kernel
theorem len8_at {n:Nat} (hn:n<256) : ∃ b,len8[n]?=some b/\BL n b.toNat/\b.toNat<=8:=by
 have h:=List.all_eq_true.1 len8_all n (List.mem_range.2 hn)
 split at h
 ·next b hb=>exact ⟨b,hb,by simpa using h⟩
 ·cases h
theorem BL.up {x k L:Nat} (h:BL (x/2 ^ k) L) (hx:2 ^ k<=x):BL x (L+k):=by
 have hp:0<2 ^ k:=Nat.pow_pos om
 obtain ⟨h1,h2⟩:=h
 have h3:L≠0:=by
  rintro rfl
  have:1<=x/2 ^ k:=(Nat.le_div_iff_mul_le hp).2 om
  simp at h1;omega
 refine ⟨?_,.inr ?_⟩
 ·rw [Nat.pow_add];exact (Nat.div_lt_iff_lt_mul hp).1 h1
 ·rcases h2 with h2 | h2
  ·exact absurd h2 h3
  ·rw [show L+k-1=(L-1)+k by omega,Nat.pow_add]
   exact (Nat.le_div_iff_mul_le hp).1 h2
theorem jnA {n k:Nat} : ((n:Nat):Int).fdiv (2 ^ k)=((n/2 ^ k:Nat):Int):=by
 rw [Int.fdiv_eq_ediv_of_nonneg _ (Int.le_of_lt (Int.pow_pos om))];simp
theorem jnH (f:Nat->Bool) {s:Nat} (hs:s<=24):IntKind.u32.wrap ((BitVec.ofInt 32 (((mk f 32:Nat):Int).fdiv (2 ^ s)) &&& BitVec.ofInt 32 255).toNat:Int)=((mk (fun i=>f (s+i)) 8:Nat):Int):=by
 have h1:=jeF f 32
 have h2:mk f 32/2 ^ s<4294967296:=Nat.lt_of_le_of_lt (Nat.div_le_self _ _) h1
 rw [jnA]
 have e:(BitVec.ofInt 32 ((mk f 32/2 ^ s:Nat):Int) &&& BitVec.ofInt 32 255).toNat=mk (fun i=>f (s+i)) 8:=by
  rw [BitVec.toNat_and,bv32 h2,<- joo f hs]
  show (mk f 32/2 ^ s) &&& (2 ^ 8-1)=_
  exact Nat.and_two_pow_sub_one_eq_mod _ _
 have h3:=jeF (fun i=>f (s+i)) 8
 rw [e,jju om]
theorem and255' (f:Nat->Bool):IntKind.u32.wrap ((BitVec.ofInt 32 ((mk f 32:Nat):Int) &&& BitVec.ofInt 32 255).toNat:Int)=((mk (fun i=>f (0+i)) 8:Nat):Int):=by
 have:=jnH f (s:=0) om
 rw [jnA,Nat.pow_zero,Nat.div_one] at this
 exact this
theorem jnO {n:Int} (h0:0<=n) (h1:n<256):IntKind.u8.wrap n=n:=by
 have:IntKind.u8.wrap n=n%256:=by simp [IntKind.wrap,IntKind.bits,IntKind.signed]
 rw [this];omega
section
variable {cl:Nat->Call} (hcl:Sem cl) {h:H}
include hcl
set_option maxRecDepth 100000 in
theorem joc {d:Nat} {f:Nat->Bool} (hd:1<=d):cl d (.fn F.jeg) [.int .u32 ((mk f 32:Nat):Int)] h=some (.i (cntS f 32:Nat),h):=by
 have q3:((mk f 32:Nat):Int).fdiv (2 ^ 24)=((mk (fun i=>f (24+i)) 8:Nat):Int):=by
  rw [<- joo f (s:=24) om,jnA]
  have:=jeF f 32
  have:mk f 32/2 ^ 24<256:=by rw [Nat.div_lt_iff_lt_mul om];omega
  rw [Nat.mod_eq_of_lt this]
 refine jao (at_ hcl om rfl rfl rfl ?_)
 refine qx1 ?_
 refine Ops.ixStr (n:=mk (fun i=>f (24+i)) 8) rfl (congrArg (fun z=>some (V.int .u32 z)) q3) (jiG _) ?_
 refine qx1 ?_
 refine Ops.ixStr (n:=mk (fun i=>f (16+i)) 8) rfl (congrArg (fun z=>some (V.int .u32 z)) (jnH f (s:=16) om)) (jiG _) ?_
 refine qx1 ?_
 refine Ops.ixStr (n:=mk (fun i=>f (8+i)) 8) rfl (congrArg (fun z=>some (V.int .u32 z)) (jnH f (s:=8) om)) (jiG _) ?_
 refine qx1 ?_
 refine Ops.ixStr (n:=mk (fun i=>f (0+i)) 8) rfl (congrArg (fun z=>some (V.int .u32 z)) (and255' f)) (jiG _) ?_
 refine qx1 ?_
 refine ⟨?_,rfl⟩
 have hs:cntS f 32=cntS (fun i=>f (0+i)) 8+cntS (fun i=>f (8+i)) 8+cntS (fun i=>f (16+i)) 8+cntS (fun i=>f (24+i)) 8:=by
  have e1:cntS f 32=_:=jfy f 8 24
  have e2:cntS (fun i=>f (8+i)) 24=_:=jfy (fun i=>f (8+i)) 8 16
  have e3:cntS (fun i=>f (16+i)) 16=_:=jfy (fun i=>f (16+i)) 8 8
  have c0:cntS (fun i=>f (0+i)) 8=cntS f 8:=jcs fun i _=>by rw [Nat.zero_add]
  have c2:cntS (fun i=>f (8+(8+i))) 16=cntS (fun i=>f (16+i)) 16:=jcs fun i _=>by rw [<- Nat.add_assoc]
  have c3:cntS (fun i=>f (16+(8+i))) 8=cntS (fun i=>f (24+i)) 8:=jcs fun i _=>by rw [<- Nat.add_assoc]
  omega
 have hz : ∀ g:Nat->Bool,(UInt8.ofNat (cntS g 8)).toNat=cntS g 8:=fun g=>by
  have:=jcd g 8
  rw [UInt8.toNat_ofNat'];omega
 rw [hz,hz,hz,hz,hs]
 have h0:=jcd (fun i=>f (0+i)) 8
 have h1:=jcd (fun i=>f (8+i)) 8
 have h2:=jcd (fun i=>f (16+i)) 8
 have h3:=jcd (fun i=>f (24+i)) 8
 generalize cntS (fun i=>f (0+i)) 8=a0 at *
 generalize cntS (fun i=>f (8+i)) 8=a1 at *
 generalize cntS (fun i=>f (16+i)) 8=a2 at *
 generalize cntS (fun i=>f (24+i)) 8=a3 at *
 rw [jnO (n:=(a3:Int)+(a2:Int)) om om,jnO (n:=(a3:Int)+(a2:Int)+(a1:Int)) om om,jnO (n:=(a3:Int)+(a2:Int)+(a1:Int)+(a0:Int)) om om,jdR ⟨by omega,by omega⟩]
 congr 1
 omega
end
end Am.Sigs
namespace Am.Sigs
open Am Go
theorem strike_0 (f:Nat->Bool) (n:Int):setV (jaY f n 0)=setV f:=jaX fun i _=>by unfold jaY;simp
theorem strike_64 (f:Nat->Bool) (n:Int):setV (jaY f n 64)=setV (jcf f n):=jaX fun i hi=>by
 unfold jaY jcf;rw [decide_eq_false (show ¬ 64<=i by omega),Bool.false_or]
theorem strike_no {f:Nat->Bool} {n:Int} {k:Nat} (hf:f k=false):setV (jaY f n (k+1))=setV (jaY f n k):=jaX fun i _=>by
 unfold jaY
 by_cases h:i=k
 ·subst h;rw [hf];rfl
 ·rw [show decide (k+1<=i)=decide (k<=i) by by_cases h2:k<=i<;>simp [h2]<;>omega]
theorem strike_lt {f:Nat->Bool} {n:Int} {k:Nat} (hn:(k:Int)<n):setV (jaY f n (k+1))=setV (jaY f n k):=jaX fun i _=>by
 unfold jaY
 by_cases h:i=k
 ·subst h;rw [decide_eq_true hn,Bool.or_true,Bool.or_true]
 ·rw [show decide (k+1<=i)=decide (k<=i) by by_cases h2:k<=i<;>simp [h2]<;>omega]
theorem strike_ge {f:Nat->Bool} {n:Int} {k:Nat} (hn : ¬ (k:Int)<n):setV (jaY f n (k+1))=setV (delS (jaY f n k) k):=jaX fun i _=>by
 unfold jaY delS
 by_cases h:i=k
 ·subst h;simp;intro _;omega
 ·rw [show decide (k+1<=i)=decide (k<=i) by by_cases h2:k<=i<;>simp [h2]<;>omega,decide_eq_false h];simp
section
variable {cl:Nat->Call} (hcl:Sem cl) {f g:Nat->Bool} {fd:Int} {h:H}
include hcl
theorem jin {d:Nat} (hd:2<=d) : ∃ h',cl d (.fn F.jiY) [.agg (setV f)] h=some (.i (cntS f 64:Nat),h')/\Old h h':=by
 have e1:=joc hcl (d:=d-1) (f:=f) (h:=h.new (.cells (setV f) false)) om
 have e2:=joc hcl (d:=d-1) (f:=fun i=>f (i+32)) (h:=h.new (.cells (setV f) false)) om
 have hs:cntS f 64=cntS f 32+cntS (fun i=>f (i+32)) 32:=by
  have:cntS f 64=_:=jfy f 32 32
  rw [this,jcs (f:=fun i=>f (32+i)) (g:=fun i=>f (i+32)) fun i _=>by rw [Nat.add_comm]]
 have h1:=jcd f 32
 have h2:=jcd (fun i=>f (i+32)) 32
 refine jak (at_ hcl om rfl rfl rfl ?_)
 rw [hs]
 refine qm1 ?_
 refine Ops.callf_chk rfl e1 (jbi rfl (jad _) rfl rfl jb9) ?_
 refine qm1 ?_
 exact ⟨by simp,(Old.refl h).new⟩
theorem jiW {d:Nat} {n:Int} (hd:6<=d) : ∃ h',cl d (.fn F.jhz) [.agg (setV f),.i n] h=some (.agg (setV (jcf f n)),h')/\Old h h':=by
 refine jak (at_ hcl om rfl rfl rfl ?_)
 have ea:=jon hcl (d:=d-1) (f:=f) (h:=((h.new (.cells (setV f) false)).new (.cells [.i n] false)).new (.cells [.int .u32 0,.int .u32 0] false)) om
 have x3:(((h.new (.cells (setV f) false)).new (.cells [.i n] false)).new (.cells [.int .u32 0,.int .u32 0] false)).nx=h.nx+3:=rfl
 rw [x3] at ea
 refine qm1 ?_
 have oH:Old h ((((h.new (.cells (setV f) false)).new (.cells [.i n] false)).new (.cells [.int .u32 0,.int .u32 0] false)).new (.cells (setV f) false)):=(Old.refl h).new.new.new.new
 have b0:((((h.new (.cells (setV f) false)).new (.cells [.i n] false)).new (.cells [.int .u32 0,.int .u32 0] false)).new (.cells (setV f) false)).get h.nx=some (.cells (setV f) false):=qgt
 have b1:((((h.new (.cells (setV f) false)).new (.cells [.i n] false)).new (.cells [.int .u32 0,.int .u32 0] false)).new (.cells (setV f) false)).get (h.nx+1)=some (.cells [.i n] false):=qgt
 have b2:((((h.new (.cells (setV f) false)).new (.cells [.i n] false)).new (.cells [.int .u32 0,.int .u32 0] false)).new (.cells (setV f) false)).get (h.nx+2)=some (.cells [.int .u32 0,.int .u32 0] false):=qgt
 have b3:((((h.new (.cells (setV f) false)).new (.cells [.i n] false)).new (.cells [.int .u32 0,.int .u32 0] false)).new (.cells (setV f) false)).get (h.nx+3)=some (.cells (setV f) false):=qgt
 have x4:((((h.new (.cells (setV f) false)).new (.cells [.i n] false)).new (.cells [.int .u32 0,.int .u32 0] false)).new (.cells (setV f) false)).nx=h.nx+4:=rfl
 change Run (cl (d-1)) fuel _ _ [(2,.p h.nx 0),(3,.p (h.nx+1) 0),(4,.p (h.nx+2) 0),(7,.clo F.jby [.p (h.nx+3) 0])] ((((h.new (.cells (setV f) false)).new (.cells [.i n] false)).new (.cells [.int .u32 0,.int .u32 0] false)).new (.cells (setV f) false)) _
 generalize (((h.new (.cells (setV f) false)).new (.cells [.i n] false)).new (.cells [.int .u32 0,.int .u32 0] false)).new (.cells (setV f) false)=H1 at oH b0 b1 b2 b3 x4 ⊢
 clear ea
 refine Run.rangeFunc_lo rfl qkp fun LO hLO=>?_
 rw [x4]
 have oL:Old h (H1.new (LO .ready none)):=oH.new
 obtain ⟨v',h',hc',hIJ⟩:=jlJ hcl (d:=d-1) (L:=h.nx+4) (c:=h.nx+3) (f:=f) (h:=H1.new (LO .ready none)) om
  (fun k g=>g.get h.nx=some (.cells (setV (jaY f n k)) false)/\g.get (h.nx+1)=some (.cells [.i n] false)/\g.get (h.nx+2)=some (.cells [.int .u32 0,.int .u32 0] false)/\g.get (h.nx+3)=some (.cells (setV f) false)/\g.get (h.nx+4)=some (LO .ready none)/\h.nx+5<=g.nx/\Old h g/\k<=64)
  (fun _=>False)
  (fun k g p=>p.2.2.2.1)
  (by
   rintro k g g' ⟨p0,p1,p2,p3,p4,p5,p6,p7⟩ og
   exact ⟨by rw [og.2 _ om,p0],by rw [og.2 _ om,p1],by rw [og.2 _ om,p2],by rw [og.2 _ om,p3],by rw [og.2 _ om,p4],Nat.le_trans p5 og.1,p6.trans og,p7⟩)
  (by
   rintro k g hk hf ⟨p0,p1,p2,p3,p4,p5,p6,p7⟩
   exact ⟨by rw [p0,strike_no hf],p1,p2,p3,p4,p5,p6,by omega⟩)
  (by
   rintro k g hk hf ⟨p0,p1,p2,p3,p4,p5,p6,p7⟩
   refine ⟨true,?_⟩
   suffices q : ∃ v' g',cl (d-1-1) (.yld (h.nx+4)) [.i (k:Int)] g=some (v',g')/\(v' = .bool true/\(g'.get h.nx=some (.cells (setV (jaY f n (k+1))) false)/\g'.get (h.nx+1)=some (.cells [.i n] false)/\g'.get (h.nx+2)=some (.cells [.int .u32 0,.int .u32 0] false)/\g'.get (h.nx+3)=some (.cells (setV f) false)/\g'.get (h.nx+4)=some (LO .ready none)/\h.nx+5<=g'.nx/\Old h g'/\k+1<=64)) by
    obtain ⟨_,g',e,rfl,q⟩:=q
    exact ⟨g',e,fun _=>q,fun e=>by cases e⟩
   refine yl_ hcl om hLO p4 rfl ?_
   refine qx1 ?_
   refine End.nil ⟨rfl,p4,?_⟩
   by_cases hn:(k:Int)<n
   ·have hn' : ¬ (k:Int)>=n:=by omega
    refine qx1 ?_
    refine End.nil ⟨⟨.busy,none,qgt⟩,rfl,?_,?_,?_,?_,jab _,by simpa using p5,(p6.set om).set om,by omega⟩
    ·rw [jaa om,jaa om,p0,strike_lt hn]
    ·rw [jaa om,jaa om,p1]
    ·rw [jaa om,jaa om,p2]
    ·rw [jaa om,jaa om,p3]
   ·have hn':(k:Int)>=n:=by omega
    have oB:Old h (g.set (h.nx+4) (LO .busy none)):=p6.set om
    obtain ⟨g2,e2,o2⟩:=jmD hcl (d:=d-1-1-1) (f:=jaY f n k) (m:=k) (h:=g.set (h.nx+4) (LO .busy none)) om hk
    have x2:g.nx<=g2.nx:=o2.1
    have p0B:(g.set (h.nx+4) (LO .busy none)).get h.nx=some (.cells (setV (jaY f n k)) false):=by rw [jaa om,p0]
    have q0:g2.get h.nx=some (.cells (setV (jaY f n k)) false):=by rw [o2.2 _ (by show h.nx<g.nx;omega),p0B]
    refine qx1 ?_
    refine Ops.loadN rfl p0B (Nat.le_refl _) ?_
    rw [show List.take 2 (List.drop 0 (setV (jaY f n k)))=setV (jaY f n k) from rfl]
    refine qx1 ?_
    refine Ops.storeN (vs:=setV (delS (jaY f n k) k)) (b:=h.nx) (o:=0) rfl rfl rfl rfl q0 (Nat.le_refl _) ?_
    rw [jan (setV (delS (jaY f n k) k)) (setV (jaY f n k)) rfl,<- strike_ge hn]
    refine qx1 ?_
    refine End.nil ⟨⟨.busy,none,?_⟩,rfl,?_,?_,?_,?_,jab _,by simp;omega,?_,by omega⟩
    ·rw [jaa om,o2.2 _ (by show h.nx+4<g.nx;omega),jab]
    ·rw [jaa om,jab]
    ·rw [jaa om,jaa om,o2.2 _ (by show _<g.nx;omega),jaa om,p1]
    ·rw [jaa om,jaa om,o2.2 _ (by show _<g.nx;omega),jaa om,p2]
    ·rw [jaa om,jaa om,o2.2 _ (by show _<g.nx;omega),jaa om,p3]
    ·exact ((oB.trans o2).set (Nat.le_refl _)).set om)
  ⟨by rw [jac om,b0,strike_0],by rw [jac om,b1],by rw [jac om,b2],by rw [jac om,b3],by rw [<- x4,jad],by simp [x4],oL,by omega⟩
 refine hIJ.elim ?_ fun hF=>hF.elim
 rintro ⟨p0,p1,p2,p3,p4,p5,p6,_⟩
 rw [strike_64] at p0
 refine ⟨v',h',hc',.normal,p4,?_⟩
 have k0:(h'.kill (h.nx+4)).get h.nx=some (.cells (setV (jcf f n)) false):=by rw [jaf om,p0]
 have k2:(h'.kill (h.nx+4)).get (h.nx+2)=some (.cells [.int .u32 0,.int .u32 0] false):=by rw [jaf om,p2]
 have o9:Old h (h'.kill (h.nx+4)):=⟨p6.1,fun j hj=>by rw [jaf om,p6.2 j hj]⟩
 clear hLO
 refine qx1 ?_
 refine Ops.loadN rfl k0 (Nat.le_refl _) ?_
 rw [show List.take 2 (List.drop 0 (setV (jcf f n)))=setV (jcf f n) from rfl]
 refine qx1 ?_
 refine Ops.storeN (vs:=setV (jcf f n)) (b:=h.nx+2) (o:=0) rfl rfl rfl rfl k2 (Nat.le_of_ble_eq_true rfl) ?_
 rw [jan (setV (jcf f n)) [.int .u32 0,.int .u32 0] rfl]
 refine qx1 ?_
 refine jaD (l:=setV (jcf f n)) rfl (jab _) rfl ⟨rfl,?_⟩
 exact o9.set om
end
end Am.Sigs
namespace Am.Sigs
open Am Go
section
variable {cl:Nat->Call} (hcl:Sem cl) {f g:Nat->Bool} {h:H}
include hcl
set_option maxRecDepth 100000 in
theorem len32_1 {d z m:Nat} {r:Env} {Q:V->H->Prop} (hz:z<256) (hm:m<=24) (hQ : ∀ L,BL z L->L<=8->Q (.i ((m+L:Nat):Int)) h) :
  Run (cl d) fuel c124_1 [] ((0,.int .u32 (z:Int)) :: (2,.i (m:Int)) :: r) h (Fin c124.res Q):=by
 obtain ⟨b,hb,hL,h8⟩:=len8_at hz
 have hq:=hQ b.toNat hL h8
 have e1:IntKind.u8.wrap (z:Int)=(z:Int):=jnO om om
 have e2:IntKind.i64.wrap (b.toNat:Int)=(b.toNat:Int):=jdR ⟨by omega,by omega⟩
 clear hQ hcl
 refine qx1 ?_
 refine Ops.ixStr (n:=z) rfl (congrArg (fun y=>some (V.int .u8 y)) e1) hb ?_
 refine qx1 ?_
 rw [e2]
 refine qx1 ?_
 rw [show (m:Int)+(b.toNat:Int)=((m+b.toNat:Nat):Int) by omega]
 exact hq
set_option maxRecDepth 100000 in
theorem jo6 {d x:Nat} (hd:1<=d) (hx:x<4294967296) : ∃ L:Nat,cl d (.fn F.jeh) [.int .u32 (x:Int)] h=some (.i (L:Int),h)/\BL x L/\L<=32:=by
 suffices q : ∃ v h',cl d (.fn F.jeh) [.int .u32 (x:Int)] h=some (v,h')/\(∃ L:Nat,v = .i (L:Int)/\BL x L/\L<=32)/\h'=h by
  obtain ⟨_,_,e,⟨L,rfl,q⟩,rfl⟩:=q;exact ⟨L,e,q⟩
 refine at_ hcl om rfl rfl rfl ?_
 obtain ⟨C,hC⟩ : ∃ C,C=c124_1:=⟨_,rfl⟩
 simp only [c124,c124_2]
 rw [<- hC]
 have fin : ∀ (z m:Nat) (r:Env),z<256->m<=24->z=x/2 ^ m->(m=0\/2 ^ m<=x)->Run (cl (d-1)) fuel C [] ((0,.int .u32 (z:Int)) :: (2,.i (m:Int)) :: r) h (Fin c124.res fun v' h'=>(∃ L:Nat,v' = .i (L:Int)/\BL x L/\L<=32)/\h'=h):=by
  intro z m r hz hm hzx hmx
  rw [hC]
  refine len32_1 hcl hz hm fun L hL h8=>⟨⟨m+L,rfl,?_,by omega⟩,rfl⟩
  subst hzx
  rcases hmx with rfl | hmx
  ·rw [Nat.zero_add];simpa using hL
  ·rw [Nat.add_comm];exact hL.up hmx
 have f16:((x:Nat):Int).fdiv (2 ^ 16)=((x/2 ^ 16:Nat):Int):=jnA
 have f8 : ∀ y:Nat,((y:Nat):Int).fdiv (2 ^ 8)=((y/2 ^ 8:Nat):Int):=fun y=>jnA
 by_cases h1:x<65536
 ·have h1' : ¬ (x:Int)>=65536:=by omega
  by_cases h2:x<256
  ·have h2' : ¬ (x:Int)>=256:=by omega
   refine qx1 ?_
   exact fin x 0 _ h2 om (by simp) (.inl rfl)
  ·have h2':(x:Int)>=256:=by omega
   refine qx1 ?_
   rw [show ((x:Nat):Int).fdiv (2 ^ (Int.toNat 8).min IntKind.u32.bits)=((x/2 ^ 8:Nat):Int) from f8 x]
   exact fin (x/2 ^ 8) 8 _ om om rfl (.inr om)
 ·have h1':(x:Int)>=65536:=by omega
  have g16:((x:Nat):Int).fdiv (2 ^ (Int.toNat 16).min IntKind.u32.bits)=((x/2 ^ 16:Nat):Int):=f16
  by_cases h2:x/2 ^ 16<256
  ·have h2' : ¬ (256:Int)<=((x:Nat):Int).fdiv (2 ^ (Int.toNat 16).min IntKind.u32.bits):=by rw [g16];omega
   refine qx1 ?_
   rw [g16]
   exact fin (x/2 ^ 16) 16 _ h2 om rfl (.inr om)
  ·have h2':(256:Int)<=((x:Nat):Int).fdiv (2 ^ (Int.toNat 16).min IntKind.u32.bits):=by rw [g16];omega
   refine qx1 ?_
   rw [g16,show ((x/2 ^ 16:Nat):Int).fdiv (2 ^ (Int.toNat 8).min IntKind.u32.bits)=((x/2 ^ 16/2 ^ 8:Nat):Int) from f8 _]
   have e:x/2 ^ 16/2 ^ 8=x/2 ^ 24:=by rw [Nat.div_div_eq_div_mul]
   rw [e]
   exact fin (x/2 ^ 24) 24 _ om om rfl (.inr om)
end
end Am.Sigs
namespace Am.Sigs
open Am Go
theorem BL.top {x L:Nat} (h:BL x L) (h0:L≠0):x.testBit (L-1)=true:=by
 obtain ⟨h1,h2⟩:=h
 have h2:=h2.resolve_left h0
 obtain ⟨k,rfl⟩ : ∃ k,L=k+1:=⟨L-1,by omega⟩
 rw [Nat.add_sub_cancel] at h2 ⊢
 rw [Nat.testBit_eq_decide_div_mod_eq]
 have h3:x/2 ^ k=1:=by
  rw [Nat.pow_succ] at h1
  refine Nat.le_antisymm ?_ ((Nat.le_div_iff_mul_le (Nat.pow_pos om)).2 om)
  have:x/2 ^ k<2:=(Nat.div_lt_iff_lt_mul (Nat.pow_pos om)).2 om
  omega
 rw [h3];rfl
theorem BL.all {f:Nat->Bool} {n L:Nat} (h:BL (mk f n) L) {i:Nat} (hi:i<n) (hf:f i=true):i<L:=by
 have h1:(mk f n).testBit i=true:=by rw [jcO];simp [hi,hf]
 have h2:=Nat.ge_two_pow_of_testBit h1
 rcases Nat.lt_or_ge i L with h3 | h3
 ·exact h3
 ·have:=Nat.pow_le_pow_right (n:=2) om h3
  have:=h.1
  omega
theorem BL.in_ {f:Nat->Bool} {n L:Nat} (h:BL (mk f n) L) (h0:L≠0):f (L-1)=true:=by
 have:=h.top h0
 rw [jcO] at this
 simp at this
 exact this.2
def ofS (L:List Int):Nat->Bool:=fun i=>decide ((i:Int)∈L)
section
variable {cl:Nat->Call} (hcl:Sem cl) {f g:Nat->Bool} {h:H}
include hcl
theorem fs_top {d:Nat} (hd:2<=d) : ∃ (T:Int) (h':H),cl d (.fn F.jfv) [.agg (setV f)] h=some (.i T,h')/\Old h h' /\ -1<=T/\T<=63/\(∀ i:Nat,i<64->f i=true->(i:Int)<=T)/\(0<=T->f T.toNat=true):=by
 suffices q : ∃ v h',cl d (.fn F.jfv) [.agg (setV f)] h=some (v,h') /\ ∃ T:Int,v = .i T/\Old h h' /\ -1<=T/\T<=63/\(∀ i:Nat,i<64->f i=true->(i:Int)<=T)/\(0<=T->f T.toNat=true) by
  obtain ⟨_,h',e,T,rfl,q⟩:=q;exact ⟨T,h',e,q⟩
 obtain ⟨L0,e0,b0,l0⟩:=jo6 hcl (d:=d-1) (x:=mk f 32) (h:=h.new (.cells (setV f) false)) om (jeF f 32)
 obtain ⟨L1,e1,b1,l1⟩:=jo6 hcl (d:=d-1) (x:=mk (fun i=>f (i+32)) 32) (h:=h.new (.cells (setV f) false)) om (jeF _ 32)
 refine at_ hcl om rfl rfl rfl ?_
 by_cases hz:mk (fun i=>f (i+32)) 32=0
 ·have hz' : ¬ ((mk (fun i=>f (i+32)) 32:Nat):Int)≠0:=by omega
  have hno : ∀ i,i<32->f (i+32)=false:=fun i hi=>by
   have:=jcO (fun i=>f (i+32)) 32 i
   rw [hz] at this
   simpa [hi] using this.symm
  have fin : ∃ T:Int,V.i ((L0:Int)-1) = .i T/\Old h (h.new (.cells (setV f) false)) /\ -1<=T/\T<=63/\(∀ i:Nat,i<64->f i=true->(i:Int)<=T)/\(0<=T->f T.toNat=true):=by
   refine ⟨_,rfl,(Old.refl h).new,by omega,by omega,fun i hi hf=>?_,fun hT=>?_⟩
   ·have h32:i<32:=by
     rcases Nat.lt_or_ge i 32 with h1 | h1
     ·exact h1
     ·have:=hno (i-32) om
      rw [show i-32+32=i by omega,hf] at this;cases this
    have:=b0.all h32 hf
    omega
   ·have:=b0.in_ om
    rw [show ((L0:Int)-1).toNat=L0-1 by omega];exact this
  clear b0 b1 hno e1
  refine qm1 ?_
  exact fin
 ·have hz':((mk (fun i=>f (i+32)) 32:Nat):Int)≠0:=by omega
  have hL:L1≠0:=by
   rintro rfl
   have:=b1.1
   simp at this;omega
  have fin : ∃ T:Int,V.i (32+(L1:Int)-1) = .i T/\Old h (h.new (.cells (setV f) false)) /\ -1<=T/\T<=63/\(∀ i:Nat,i<64->f i=true->(i:Int)<=T)/\(0<=T->f T.toNat=true):=by
   refine ⟨_,rfl,(Old.refl h).new,by omega,by omega,fun i hi hf=>?_,fun hT=>?_⟩
   ·rcases Nat.lt_or_ge i 32 with h1 | h1
    ·omega
    ·have:=b1.all (i:=i-32) om (by show f (i-32+32)=true;rw [show i-32+32=i by omega];exact hf)
     omega
   ·have:=b1.in_ hL
    rw [show ((32:Int)+(L1:Int)-1).toNat=L1-1+32 by omega];exact this
  clear b0 b1 e0
  refine qm1 ?_
  exact fin
theorem fs_of {d:Nat} {v:V} {L:List Int} (hd:3<=d) (hv:VI h v L) (hf : ∀ x∈L,fitS x) (hl:L.length<=10000) :
  ∃ h',cl d (.fn F.fdset_Of) [v] h=some (.tup [.agg (setV (ofS L)),.i 0],h')/\Old h h':=by
 obtain ⟨a,c,rfl,hg⟩:=id hv
 refine jak (at_ hcl om rfl rfl rfl ?_)
 refine qm1 ?_
 change Run (cl (d-1)) fuel _ _ [(2,.p h.nx 0),(4,.p (h.nx+1) 0),(9,.slice a L.length c),(10,.i (L.length:Int)),(11,.i ((0:Nat):Int))] ((h.new (.cells [.int .u32 0,.int .u32 0] false)).new (.cells [.int .u32 0,.int .u32 0] false)) _
 refine Run.loop (fun m e g=>∃ i:Nat,m=L.length-i/\i<=L.length/\e=[(2,.p h.nx 0),(4,.p (h.nx+1) 0),(9,.slice a L.length c),(10,.i (L.length:Int)),(11,.i (i:Int))]/\Old h g/\h.nx+2<=g.nx/\g.get h.nx=some (.cells [.int .u32 0,.int .u32 0] false)/\g.get (h.nx+1)=some (.cells (setV (ofS (L.take i))) false))
  (k:=L.length) (by show _<100000;omega) ⟨0,rfl,by omega,rfl,(Old.refl h).new.new,by simp,qgt,?_⟩ ?_
 ·have:setV (ofS (L.take 0))=[.int .u32 0,.int .u32 0]:=by rw [<- jfh];exact jaX fun i _=>by simp [ofS]
  rw [this];exact qgt
 rintro _ _ g ⟨i,rfl,hi,rfl,og,xg,g0,g1⟩ n2 ih
 by_cases hlt:(i:Int)<L.length
 case neg=>
  obtain rfl:i=L.length:=by omega
  rw [List.take_length] at g1
  clear ih hv hg hf
  refine qx1 ?_
  refine Ops.loadN rfl g1 (Nat.le_refl _) ?_
  rw [show List.take 2 (List.drop 0 (setV (ofS L)))=setV (ofS L) from rfl]
  refine qx1 ?_
  refine Ops.storeN (vs:=setV (ofS L)) (b:=h.nx) (o:=0) rfl rfl rfl rfl g0 (Nat.le_of_ble_eq_true rfl) ?_
  rw [jan (setV (ofS L)) [.int .u32 0,.int .u32 0] rfl]
  refine qx1 ?_
  refine zcf (resN rfl (jab _) (Nat.le_refl _) rfl) ⟨rfl,og.set (Nat.le_refl _)⟩
 obtain ⟨x,hx⟩ : ∃ x,L[i]?=some x:=⟨_,List.getElem?_eq_getElem om⟩
 have hfx:=hf x (List.mem_of_getElem? hx)
 obtain ⟨b,o,cs,ro,rfl,hb,hc⟩:=VI.cell (hv.keep2 og.1 fun hl z hz=>og.2 z (by
  obtain ⟨a',c',e,n',f',k'⟩:=hv
  obtain ⟨b',o',cs',ro',rfl,h1,_⟩:=k' hl
  cases e
  cases hz;exact h1)) hx
 obtain ⟨g2,e2,o2⟩:=jlc hcl (d:=d-1) (f:=ofS (L.take i)) (fd:=x) (h:=g) om
 have hw:setV (jlY (ofS (L.take i)) x)=setV (ofS (L.take (i+1))):=jaX fun j _=>by
  unfold jlY
  rw [if_pos hfx]
  unfold addS ofS
  rw [List.take_add_one,hx]
  simp only [Option.toList_some,List.mem_append,List.mem_singleton,Bool.decide_or]
  congr 1
  have:=hfx.1
  by_cases h1:j=x.toNat
  ·rw [decide_eq_true h1,decide_eq_true om]
  ·rw [decide_eq_false h1,decide_eq_false om]
 rw [hw,if_pos hfx] at e2
 have hi1:(i:Int)+1=((i+1:Nat):Int):=by omega
 have x2:=o2.1
 have g20:g2.get h.nx=some (.cells [.int .u32 0,.int .u32 0] false):=by rw [o2.2 _ om,g0]
 have g21:g2.get (h.nx+1)=some (.cells (setV (ofS (L.take i))) false):=by rw [o2.2 _ om,g1]
 clear hv hg hf
 refine qx1 ?_
 refine Ops.loadN rfl g1 (Nat.le_refl _) ?_
 rw [show List.take 2 (List.drop 0 (setV (ofS (L.take i))))=setV (ofS (L.take i)) from rfl]
 refine qm1 ?_
 rw [jan (setV (ofS (L.take (i+1)))) [.int .u32 0,.int .u32 0] rfl,show List.take 2 (List.drop 0 (setV (ofS (L.take (i+1)))))=setV (ofS (L.take (i+1))) from rfl,jan (setV (ofS (L.take (i+1)))) (setV (ofS (L.take i))) rfl,hi1]
 refine ih (L.length-(i+1)) om _ _ ⟨i+1,rfl,by omega,rfl,(((og.trans o2).new.set om).set om),by simp;omega,?_,jab _⟩
 rw [jaa om,jaa om,jac om,g20]
theorem fs_set {d:Nat} {v:V} {L:List Int} (hd:4<=d) (hv:VI h v L) (hf : ∀ x∈L,fitS x) (hl:L.length<=10000) :
  ∃ h',cl d (.fn F.jcL) [v] h=some (.agg (setV (ofS L)),h')/\Old h h':=by
 have o0:Old h (h.new (.cells [.int .u32 0,.int .u32 0] false)):=(Old.refl h).new
 have hv1:VI (h.new (.cells [.int .u32 0,.int .u32 0] false)) v L:=hv.keep2 o0.1 fun hl z hz=>o0.2 z (by
  obtain ⟨a',c',rfl,n',f',k'⟩:=hv
  obtain ⟨b',o',cs',ro',rfl,h1,_⟩:=k' hl
  cases hz;exact h1)
 obtain ⟨h1,e1,o1⟩:=fs_of hcl (d:=d-1) om hv1 hf hl
 have g0:h1.get h.nx=some (.cells [.int .u32 0,.int .u32 0] false):=by rw [o1.2 _ (by simp),jad]
 have x1:h.nx+1<=h1.nx:=o1.1
 refine jak (at_ hcl om rfl rfl rfl ?_)
 clear hv hv1 hf
 refine qm1 ?_
 refine jaD (l:=setV (ofS L)) rfl ?_ rfl ⟨rfl,?_⟩
 ·rw [jab];rfl
 ·exact ((o0.trans o1).new.set om).set om
theorem fs_some {d:Nat} {a:Option (Nat × Nat)} {c:Cap} {L:List UInt8} (hd:1<=d) (hv:BytesAt h a c L) (hl:L.length<=10000) :
  ∃ v h',cl d (.fn F.jc8) [.slice a L.length c] h=some (v,h')/\Row h.nx h' 1 v L.length (ints (L.map fun x=>((x.toNat%64:Nat):Int)))/\Old h h':=by
 refine at_ hcl om rfl rfl rfl ?_
 refine qx1 ?_
 refine Run.loop (fun m e g=>∃ (i:Nat) (sv:V),m=L.length-i/\i<=L.length/\e=[(0,.slice a L.length c),(3,sv),(4,.i (i:Int))]/\Old h g/\Row h.nx g 1 sv i (ints ((L.take i).map fun x=>((x.toNat%64:Nat):Int))))
  (k:=L.length) (by show _<100000;omega) ⟨0,.nils,rfl,by omega,rfl,Old.refl h,Row.nil _ _ _⟩ ?_
 rintro _ _ g ⟨i,sv,rfl,hi,rfl,og,row⟩ n2 ih
 by_cases hlt:(i:Int)<L.length
 case neg=>
  obtain rfl:i=L.length:=by omega
  rw [List.take_length] at row
  obtain ⟨cp,⟨asv,rfl⟩,_⟩:=row.shape
  clear ih hv
  refine qx1 ?_
  exact ⟨row,og⟩
 obtain ⟨x,hx⟩ : ∃ x,L[i]?=some x:=⟨_,List.getElem?_eq_getElem om⟩
 obtain ⟨b,o,cs,ro,rfl,q2,q3,q4⟩:=hv.at_ (by rintro rfl;simp at hx)
 have hg:g.get b=some (.cells cs ro):=by rw [og.2 _ q2,q3]
 have hc:cs[o+(i:Int).toNat*1]?=some (.int .u8 x.toNat):=by rw [show o+(i:Int).toNat*1=o+i by omega];exact q4 i x hx
 have hlt8:x.toNat<256:=x.toNat_lt
 have e1:IntKind.i64.wrap ((x.toNat:Nat):Int)=(x.toNat:Int):=jdR ⟨by omega,by omega⟩
 have e2:(x.toNat:Int).tmod 64=((x.toNat%64:Nat):Int):=by rw [Int.tmod_eq_emod_of_nonneg om];simp
 have hi1:(i:Int)+1=((i+1:Nat):Int):=by omega
 have et:ints ((L.take (i+1)).map fun x=>((x.toNat%64:Nat):Int))=ints ((L.take i).map fun x=>((x.toNat%64:Nat):Int))++[.i ((x.toNat%64:Nat):Int)]:=by
  rw [List.take_add_one,hx];simp [ints]
 clear hv
 refine qx1 ?_
 rw [e1,e2]
 refine Ops.push (N:=h.nx) (new:=[.i ((x.toNat%64:Nat):Int)]) rfl rfl rfl rfl om rfl rfl row og.1 om om fun v' g3 row' hx' hz' hk'=>?_
 refine qx1 ?_
 rw [hi1]
 refine ih (L.length-(i+1)) om _ _ ⟨i+1,v',rfl,by omega,rfl,⟨Nat.le_trans og.1 hx',fun j hj=>by rw [hk' j (Nat.lt_of_lt_of_le hj og.1) fun e=>by have:=row.at_ge e;omega,og.2 j hj]⟩,?_⟩
 rw [et];exact row'
end
end Am.Sigs
namespace Am.Sigs
open Am Go
theorem jij {F:Nat->Bool} : ∀ (q m:Nat),m+q=64->(jaz F m).length<(jaz F 64).length -> ∃ m',m<=m'/\m'<64/\F m'=true/\(∀ j,m<=j->j<m'->F j=false)/\jaz F m'=jaz F m
 | 0,m,h,hl=>by
  obtain rfl:m=64:=by omega
  omega
 | q+1,m,h,hl=>by
  cases hF:F m with
  | true=>exact ⟨m,Nat.le_refl _,by omega,hF,fun j h1 h2=>by omega,rfl⟩
  | false=>
   have e:jaz F (m+1)=jaz F m:=by simp [jaz,hF]
   obtain ⟨m',h1,h2,h3,h4,h5⟩:=jij q (m+1) om (by rw [e];exact hl)
   refine ⟨m',by omega,h2,h3,fun j h6 h7=>?_,by rw [h5,e]⟩
   by_cases hj:j=m
   ·rw [hj,hF]
   ·exact h4 j om h7
theorem jho {F:Nat->Bool} {m:Nat} : ∀ {n:Nat},m<=n -> ∃ r,jaz F n=jaz F m++r
 | 0,h=>by
  obtain rfl:m=0:=by omega
  exact ⟨[],by simp⟩
 | n+1,h=>by
  by_cases e:m=n+1
  ·subst e;exact ⟨[],by simp⟩
  ·obtain ⟨r,hr⟩:=jho (F:=F) (m:=m) (n:=n) om
   exact ⟨r++if F n then [(n:Int)] else [],by rw [jaz,hr,List.append_assoc]⟩
theorem listS_at {F:Nat->Bool} {m:Nat} (hm:m<64) (hF:F m=true):(jaz F 64)[(jaz F m).length]?=some (m:Int):=by
 obtain ⟨r,hr⟩:=jho (F:=F) (m:=m+1) (n:=64) om
 rw [hr,jaz,if_pos hF,List.append_assoc,List.getElem?_append_right (Nat.le_refl _)]
 simp
def jn0 (f g:Nat->Bool) (m:Nat):Int:=(if f m then 2 else 0)+(if g m then 4 else 0)
def askS (f g:Nat->Bool) (top:Int):Nat->Bool:=jcf (orS f g) top
section
variable {cl:Nat->Call} (hcl:Sem cl) {f g:Nat->Bool} {h:H}
include hcl
theorem jl2 {d:Nat} {top:Int} (hd:1<=d):cl d (.fn F.sel_asked) [.i top,.agg (setV f),.agg (setV g)] h=some (.clo F.jeO [.p (h.nx+1) 0,.p (h.nx+2) 0,.p h.nx 0],((h.new (.cells [.i top] false)).new (.cells (setV f) false)).new (.cells (setV g) false)):=by
 refine jao (at_ hcl om rfl rfl rfl ?_)
 refine qm1 ?_
 exact ⟨rfl,rfl⟩
end
end Am.Sigs
namespace Am.Sigs
open Am Go
def OldN (N:Nat) (a b:H):Prop:=a.nx<=b.nx /\ ∀ j,N<=j->j<a.nx->b.get j=a.get j
theorem OldN.refl (N:Nat) (a:H):OldN N a a:=⟨Nat.le_refl _,fun _ _ _=>rfl⟩
theorem OldN.trans {N:Nat} {a b c:H} (x:OldN N a b) (y:OldN N b c):OldN N a c:=⟨Nat.le_trans x.1 y.1,fun j h1 h2=>by rw [y.2 j h1 (Nat.lt_of_lt_of_le h2 x.1),x.2 j h1 h2]⟩
theorem Old.toN {a b:H} (N:Nat) (x:Old a b):OldN N a b:=⟨x.1,fun j _ h2=>x.2 j h2⟩
section
variable {cl:Nat->Call} (hcl:Sem cl) {f g:Nat->Bool} {h:H}
include hcl
theorem jhY {d L c1 c2 c3:Nat} {top:Int} (hd:8<=d) (I:Nat->H->Prop) (J:H->Prop)
  (hc : ∀ m e,I m e->e.get c1=some (.cells (setV f) false)/\e.get c2=some (.cells (setV g) false)/\e.get c3=some (.cells [.i top] false)/\c1<e.nx/\c2<e.nx/\c3<e.nx)
  (hI : ∀ m e e',I m e->Old e e'->I m e')
  (hskip : ∀ m e,m<64->askS f g top m=false->I m e->I (m+1) e)
  (hy : ∀ m e,m<64->askS f g top m=true->I m e -> ∃ (b:Bool) (e':H),cl (d-1) (.yld L) [.i (m:Int),.i (jn0 f g m)] e=some (.bool b,e')/\(b=true->I (m+1) e'/\OldN h.nx e e')/\(b=false->J e'))
  (h0:I 0 h) : ∃ v h',cl d (.fn F.jeO) [.yld L,.p c1 0,.p c2 0,.p c3 0] h=some (v,h')/\(I 64 h'\/J h'):=by
 obtain ⟨a1,a2,a3,l1,l2,l3⟩:=hc _ _ h0
 obtain ⟨h1,e1,o1⟩:=jkj hcl (d:=d-1) (f:=f) (g:=g) (h:=h) om
 obtain ⟨h2,e2,o2⟩:=jiW hcl (d:=d-1) (f:=orS f g) (n:=top) (h:=h1) om
 obtain ⟨v,h3,e3,row,o3⟩:=fs_All hcl (d:=d-1) (f:=jcf (orS f g) top) (h:=h2) om
 have a3':h1.get c3=some (.cells [.i top] false):=by rw [o1.2 _ l3,a3]
 obtain ⟨cp,⟨av,rfl⟩,hix⟩:=row.shape
 have o13:Old h h3:=(o1.trans o2).trans o3
 have I3:=hI _ _ _ h0 o13
 have hll:=jhp (askS f g top) 64
 replace row:Row h2.nx h3 1 (.slice av (jaz (askS f g top) 64).length cp) (jaz (askS f g top) 64).length (ints (jaz (askS f g top) 64)):=row
 replace e3:cl (d-1) (.fn F.jfw) [.agg (setV (jcf (orS f g) top))] h2=some (.slice av (jaz (askS f g top) 64).length cp,h3):=e3
 replace hix : ∀ i,i<(jaz (askS f g top) 64).length -> ∃ q,h2.nx<=q/\q<h3.nx/\V.slice av (jaz (askS f g top) 64).length cp = .slice (some (q,0)) (jaz (askS f g top) 64).length cp/\h3.get q=some (.cells (ints (jaz (askS f g top) 64)) false):=hix
 have hat : ∀ m,m<64->askS f g top m=true->(jaz (askS f g top) 64)[(jaz (askS f g top) m).length]?=some (m:Int):=fun m hm hF=>listS_at hm hF
 have hpre : ∀ m,m<=64->(jaz (askS f g top) m).length<=(jaz (askS f g top) 64).length:=fun m hm=>by
  obtain ⟨r,hr⟩:=jho (F:=askS f g top) hm
  rw [hr,List.length_append];omega
 have hnext : ∀ m,m<=64->(jaz (askS f g top) m).length<(jaz (askS f g top) 64).length -> ∃ m',m<=m'/\m'<64/\askS f g top m'=true/\(∀ j,m<=j->j<m'->askS f g top j=false)/\jaz (askS f g top) m'=jaz (askS f g top) m:=fun m hm hl=>jij (64-m) m om hl
 generalize jaz (askS f g top) 64=A at *
 refine at_ hcl om rfl rfl rfl ?_
 refine qx1 ?_
 refine Ops.loadN rfl a1 (Nat.le_refl _) ?_
 rw [show List.take 2 (List.drop 0 (setV f))=setV f from rfl]
 refine qx1 ?_
 refine Ops.loadN rfl a2 (Nat.le_refl _) ?_
 rw [show List.take 2 (List.drop 0 (setV g))=setV g from rfl]
 refine qx1 ?_
 refine Ops.callf_chk rfl e1 (jbi rfl a3' rfl rfl jb9) ?_
 refine qx1 ?_
 refine Run.loop (fun k e gg=>∃ m:Nat,k=A.length-(jaz (askS f g top) m).length/\m<=64/\e=[(0,.yld L),(1,.p c1 0),(2,.p c2 0),(13,.slice av A.length cp),(14,.i (A.length:Int)),(15,.i ((jaz (askS f g top) m).length:Int))]/\I m gg/\OldN h.nx h3 gg)
  (k:=A.length) (by show _<100000;omega) ⟨0,rfl,by omega,rfl,I3,OldN.refl _ _⟩ ?_
 clear e1 e2 e3 a1 a2 a3 a3' l1 l2 l3 h0 I3
 rintro _ _ gg ⟨m0,rfl,hm0,rfl,hIm,og⟩ n2 ih
 by_cases hlt:((jaz (askS f g top) m0).length:Int)<A.length
 case neg=>
  have fin : ∀ q m,m+q=64->I m gg->(jaz (askS f g top) m).length=A.length->I 64 gg:=by
   intro q
   induction q with
   | zero=>intro m hm hI' _;obtain rfl:m=64:=om;exact hI'
   | succ q ihq=>
    intro m hm hI' hl
    have hf:askS f g top m=false:=by
     cases hF:askS f g top m with
     | false=>rfl
     | true=>
      have h1:=hat m om hF
      rw [List.getElem?_eq_none om] at h1;cases h1
    exact ihq (m+1) om (hskip m _ om hf hI') (by simp [jaz,hf];exact hl)
  have hpre0:=hpre m0 hm0
  have hfin:=fin (64-m0) m0 om hIm om
  clear ih hix hc hI hskip hy fin hat hpre hnext hIm
  refine qx1 ?_
  exact .inl hfin
 obtain ⟨m,hm1,hm2,hF,hall,hls⟩:=hnext m0 hm0 om
 have hIm:I m gg:=by
  have : ∀ q,m0+q<=m->I (m0+q) gg:=by
   intro q
   induction q with
   | zero=>intro _;exact hIm
   | succ q ihq=>intro hq;exact hskip (m0+q) _ om (hall _ om om) (ihq om)
  have:=this (m-m0) om
  rwa [show m0+(m-m0)=m by omega] at this
 have hat:=hat m hm2 hF
 clear hpre hnext
 rw [<- hls] at hlt ⊢
 rw [<- hls] at ih
 obtain ⟨q,y1,y2,y3,y4⟩:=hix (jaz (askS f g top) m).length om
 cases y3
 have hcell:(ints A)[0+((jaz (askS f g top) m).length:Int).toNat*1]?=some (.i (m:Int)):=by
  rw [show 0+((jaz (askS f g top) m).length:Int).toNat*1=(jaz (askS f g top) m).length by omega];simp [hat]
 have hqg:gg.get q=some (.cells (ints A) false):=by rw [og.2 _ (by have:=o1.1;have:=o2.1;omega) y2,y4]
 obtain ⟨b1,b2,b3,m1,m2,m3⟩:=hc _ _ hIm
 have hfit:decide (fitS (m:Int))=true:=decide_eq_true ⟨by omega,by omega⟩
 have eh1:=jn8 hcl (d:=d-1) (f:=f) (fd:=(m:Int)) (h:=gg) om
 rw [hfit,Bool.true_and,Int.toNat_natCast] at eh1
 have oA:Old gg (gg.new (.cells (setV f) false)):=(Old.refl gg).new
 have eh2:=jn8 hcl (d:=d-1) (f:=g) (fd:=(m:Int)) (h:=gg.new (.cells (setV f) false)) om
 rw [hfit,Bool.true_and,Int.toNat_natCast] at eh2
 have b2':(gg.new (.cells (setV f) false)).get c2=some (.cells (setV g) false):=by rw [jac m2,b2]
 have oB:Old gg ((gg.new (.cells (setV f) false)).new (.cells (setV g) false)):=oA.new
 obtain ⟨bb,g',ey,q1,q2⟩:=hy m _ hm2 hF (hI _ _ _ hIm oB)
 have hl1:(((jaz (askS f g top) m).length:Int)+1)=((jaz (askS f g top) (m+1)).length:Int):=by simp [jaz,hF]
 have hend:bb=true->End (cl (d-1)) fuel [.loop [0,1,2,13,14,15] (.seq (.region 0 [.mk4 0 (some 16) (.bin .lss (.t 15) (.t 14)) none] [0,1,2,13,14,15,16]) (.seq (.cond (.t 16) .skip (.exit 0)) c121_2)) n2,.block 0] .normal
   [(0,.yld L),(1,.p c1 0),(2,.p c2 0),(13,.slice (some (q,0)) A.length cp),(14,.i (A.length:Int)),(15,.i (((jaz (askS f g top) m).length:Int)+1))] g' (Fin c121.res fun v' h'=>I 64 h'\/J h'):=by
  intro hb
  rw [hl1]
  have hlt2:(jaz (askS f g top) (m+1)).length=(jaz (askS f g top) m).length+1:=by simp [jaz,hF]
  exact ih (A.length-(jaz (askS f g top) (m+1)).length) om _ _ ⟨m+1,rfl,by omega,rfl,(q1 hb).1,(og.trans (oB.toN _)).trans (q1 hb).2⟩
 clear hc hI hskip hy ih hix hall hls hat hIm hm1 hm2 hF o1 o2 o3 o13 row
 clear oB oA b3 m1 m2 m3 og y1 y2 y4
 generalize A.length=N at *
 generalize (jaz (askS f g top) m).length=x at *
 generalize ints A=xs at *
 cases hf:f m<;>cases hg:g m<;>rw [hf] at eh1<;>rw [hg] at eh2<;>simp only [jn0,hf,hg,Bool.false_eq_true,if_true,if_false,reduceIte] at ey
 all_goals
  repeat' (first|refine qxy ?_|refine zbf rfl (fun _=>?_) fun _=>?_|refine zbg rfl (fun _=>?_) fun _=>?_|refine zbh rfl (fun _=>?_) fun _=>?_|refine zbm rfl (fun _=>?_) fun _=>?_|refine zbn rfl (fun _=>?_) fun _=>?_)
  refine Ops.loadN rfl b1 (Nat.le_refl _) ?_
  rw [show List.take 2 (List.drop 0 (setV f))=setV f from rfl]
  repeat' (first|refine qxy ?_|refine zbf rfl (fun _=>?_) fun _=>?_|refine zbg rfl (fun _=>?_) fun _=>?_|refine zbh rfl (fun _=>?_) fun _=>?_|refine zbm rfl (fun _=>?_) fun _=>?_|refine zbn rfl (fun _=>?_) fun _=>?_)
  refine Ops.loadN rfl b2' (Nat.le_refl _) ?_
  rw [show List.take 2 (List.drop 0 (setV g))=setV g from rfl]
  repeat' (first|refine qxy ?_|refine zbf rfl (fun _=>?_) fun _=>?_|refine zbg rfl (fun _=>?_) fun _=>?_|refine zbh rfl (fun _=>?_) fun _=>?_|refine zbm rfl (fun _=>?_) fun _=>?_|refine zbn rfl (fun _=>?_) fun _=>?_)
  refine Ops.yield rfl rfl ey ?_
  cases bb
  ·repeat' (first|refine qxy ?_|refine zbf rfl (fun _=>?_) fun _=>?_|refine zbg rfl (fun _=>?_) fun _=>?_|refine zbh rfl (fun _=>?_) fun _=>?_|refine zbm rfl (fun _=>?_) fun _=>?_|refine zbn rfl (fun _=>?_) fun _=>?_)
   exact .inr (q2 rfl)
  ·repeat' (first|refine qxy ?_|refine zbf rfl (fun _=>?_) fun _=>?_|refine zbg rfl (fun _=>?_) fun _=>?_|refine zbh rfl (fun _=>?_) fun _=>?_|refine zbm rfl (fun _=>?_) fun _=>?_|refine zbn rfl (fun _=>?_) fun _=>?_)
   exact hend rfl
end
end Am.Sigs
namespace Am.Sigs
open Am Go
def inR (r:Rdy):Bool:=r.inn||r.hup||r.err
def outR (r:Rdy):Bool:=r.out||r.hup||r.err
def isR (r:Rdy):Int:=(if inR r then 2 else 0)+(if outR r then 4 else 0)
def jbP (ws:Ws) (f g:Nat->Bool) (top:Int):Prop := ∃ m:Nat,m<64/\askS f g top m=true/\(rdyS ws (m:Int)).op=false
section
variable {cl:Nat->Call} (hcl:Sem cl) {h:H}
include hcl
theorem sl_is {d:Nat} {r:Rdy} (hd:1<=d) : ∃ h',cl d (.fn F.sel_is) [.agg r.cells] h=some (.i (isR r),h')/\Old h h':=by
 obtain ⟨op,inn,out,hup,err,rd,wr⟩:=r
 have o0:Old h (h.new (.cells (Rdy.cells ⟨op,inn,out,hup,err,rd,wr⟩) false)):=(Old.refl h).new
 simp only [Rdy.cells] at o0 ⊢
 refine jak (at_ hcl om rfl rfl rfl ?_)
 cases inn<;>cases out<;>cases hup<;>cases err
 all_goals
  generalize hR:isR _=R
  repeat' (first|refine qxy ?_|refine zbf rfl (fun _=>?_) fun _=>?_|refine zbg rfl (fun _=>?_) fun _=>?_|refine zbh rfl (fun _=>?_) fun _=>?_|refine zbm rfl (fun _=>?_) fun _=>?_|refine zbn rfl (fun _=>?_) fun _=>?_)
  refine Ops.make rfl rfl ?_
  repeat' (first|refine qxy ?_|refine zbf rfl (fun _=>?_) fun _=>?_|refine zbg rfl (fun _=>?_) fun _=>?_|refine zbh rfl (fun _=>?_) fun _=>?_|refine zbm rfl (fun _=>?_) fun _=>?_|refine zbn rfl (fun _=>?_) fun _=>?_)
  subst hR
  exact ⟨rfl,o0⟩
variable {w s:Nat} {ow:Nat->Nat} {ws:Ws} {now:Int} {tb:Tb} {no:Option (Nat × Nat)} {f g:Nat->Bool}
theorem sl_closed {d:Nat} {top:Int} (hd:10<=d) (a:WSt h w s ow ws now tb no) (o:WsOk ws) :
  ∃ (b:Bool) (h':H),cl d (.fn F.jia) [.p w 0,.i top,.agg (setV f),.agg (setV g)] h=some (.bool b,h')/\(b=true↔jbP ws f g top)/\Old h h':=by
 suffices q : ∃ v' h',cl d (.fn F.jia) [.p w 0,.i top,.agg (setV f),.agg (setV g)] h=some (v',h') /\ ∃ b:Bool,v' = .bool b/\(b=true↔jbP ws f g top)/\Old h h' by
  obtain ⟨_,h',e,b,rfl,q⟩:=q;exact ⟨b,h',e,q⟩
 refine at_ hcl om rfl rfl rfl ?_
 refine qm1 ?_
 refine Ops.loadN (l:=setV f) rfl qgt (Nat.le_refl _) ?_
 rw [show List.take 2 (List.drop 0 (setV f))=setV f from rfl]
 refine qx1 ?_
 refine Ops.loadN (l:=setV g) rfl qgt (Nat.le_refl _) ?_
 rw [show List.take 2 (List.drop 0 (setV g))=setV g from rfl]
 refine qx1 ?_
 refine Ops.callf rfl (jl2 hcl (d:=d-1) (f:=f) (g:=g) om) ?_
 refine qx1 ?_
 have oH:Old h ((((((((h.new (.cells [.p w 0] false)).new (.cells (setV f) false)).new (.cells (setV g) false)).new (.cells [.bool false] false)).set (h.nx+3) (.cells [.bool false] false)).new (.cells [.i top] false)).new (.cells (setV f) false)).new (.cells (setV g) false)):=((((Old.refl h).new.new.new.new.set (by simp)).new).new).new
 have b0:((((((((h.new (.cells [.p w 0] false)).new (.cells (setV f) false)).new (.cells (setV g) false)).new (.cells [.bool false] false)).set (h.nx+3) (.cells [.bool false] false)).new (.cells [.i top] false)).new (.cells (setV f) false)).new (.cells (setV g) false)).get h.nx=some (.cells [.p w 0] false):=qgt
 have b3:((((((((h.new (.cells [.p w 0] false)).new (.cells (setV f) false)).new (.cells (setV g) false)).new (.cells [.bool false] false)).set (h.nx+3) (.cells [.bool false] false)).new (.cells [.i top] false)).new (.cells (setV f) false)).new (.cells (setV g) false)).get (h.nx+3)=some (.cells [.bool false] false):=qgt
 have b4:((((((((h.new (.cells [.p w 0] false)).new (.cells (setV f) false)).new (.cells (setV g) false)).new (.cells [.bool false] false)).set (h.nx+3) (.cells [.bool false] false)).new (.cells [.i top] false)).new (.cells (setV f) false)).new (.cells (setV g) false)).get (h.nx+4)=some (.cells [.i top] false):=qgt
 have b5:((((((((h.new (.cells [.p w 0] false)).new (.cells (setV f) false)).new (.cells (setV g) false)).new (.cells [.bool false] false)).set (h.nx+3) (.cells [.bool false] false)).new (.cells [.i top] false)).new (.cells (setV f) false)).new (.cells (setV g) false)).get (h.nx+5)=some (.cells (setV f) false):=qgt
 have b6:((((((((h.new (.cells [.p w 0] false)).new (.cells (setV f) false)).new (.cells (setV g) false)).new (.cells [.bool false] false)).set (h.nx+3) (.cells [.bool false] false)).new (.cells [.i top] false)).new (.cells (setV f) false)).new (.cells (setV g) false)).get (h.nx+6)=some (.cells (setV g) false):=qgt
 have x1:((((((((h.new (.cells [.p w 0] false)).new (.cells (setV f) false)).new (.cells (setV g) false)).new (.cells [.bool false] false)).set (h.nx+3) (.cells [.bool false] false)).new (.cells [.i top] false)).new (.cells (setV f) false)).new (.cells (setV g) false)).nx=h.nx+7:=rfl
 change Run (cl (d-1)) fuel _ _ [(4,.p h.nx 0),(9,.p (h.nx+3) 0),(14,.clo F.jeO [.p (h.nx+5) 0,.p (h.nx+6) 0,.p (h.nx+4) 0])] ((((((((h.new (.cells [.p w 0] false)).new (.cells (setV f) false)).new (.cells (setV g) false)).new (.cells [.bool false] false)).set (h.nx+3) (.cells [.bool false] false)).new (.cells [.i top] false)).new (.cells (setV f) false)).new (.cells (setV g) false)) _
 generalize (((((((h.new (.cells [.p w 0] false)).new (.cells (setV f) false)).new (.cells (setV g) false)).new (.cells [.bool false] false)).set (h.nx+3) (.cells [.bool false] false)).new (.cells [.i top] false)).new (.cells (setV f) false)).new (.cells (setV g) false)=H1 at oH b0 b3 b4 b5 b6 x1 ⊢
 have hx1:=oH.1
 refine Run.rangeFunc_lo rfl qkp fun LO hLO=>?_
 rw [x1]
 have oL:Old h (H1.new (LO .ready none)):=oH.new
 obtain ⟨v',h',hc,hIJ⟩:=jhY hcl (d:=d-1) (L:=h.nx+7) (c1:=h.nx+5) (c2:=h.nx+6) (c3:=h.nx+4) (f:=f) (g:=g) (top:=top) (h:=H1.new (LO .ready none)) om
  (fun m e=>(∀ j,j<m->askS f g top j=true->(rdyS ws (j:Int)).op=true)/\e.get h.nx=some (.cells [.p w 0] false)/\e.get (h.nx+3)=some (.cells [.bool false] false)/\e.get (h.nx+4)=some (.cells [.i top] false)/\e.get (h.nx+5)=some (.cells (setV f) false)/\e.get (h.nx+6)=some (.cells (setV g) false)/\e.get (h.nx+7)=some (LO .ready none)/\h.nx+8<=e.nx/\Old h e)
  (fun e=>jbP ws f g top/\e.get (h.nx+3)=some (.cells [.bool true] false)/\e.get (h.nx+7)=some (LO .done (some (.exit 0)))/\h.nx+8<=e.nx/\Old h e)
  (fun m e ⟨_,_,_,p4,p5,p6,_,p8,_⟩=>⟨p5,p6,p4,by omega,by omega,by omega⟩)
  (by
   rintro m e e' ⟨p00,p0,p3,p4,p5,p6,p7,p8,p9⟩ og
   exact ⟨p00,by rw [og.2 _ om,p0],by rw [og.2 _ om,p3],by rw [og.2 _ om,p4],by rw [og.2 _ om,p5],by rw [og.2 _ om,p6],by rw [og.2 _ om,p7],Nat.le_trans p8 og.1,p9.trans og⟩)
  (by
   rintro m e hm hk ⟨p00,p⟩
   refine ⟨fun j hj ha=>?_,p⟩
   by_cases hjm:j=m
   ·rw [hjm,hk] at ha;cases ha
   ·exact p00 j om ha)
  (by
   rintro m e hm hk ⟨p00,p0,p3,p4,p5,p6,p7,p8,p9⟩
   have oq:Old h (e.set (h.nx+7) (LO .busy none)):=p9.set om
   obtain ⟨e1,er,oe⟩:=jir hcl (d:=d-1-1-1) (fd:=(m:Int)) om (a.old oq) o
   rw [jiB] at er
   have hop : ∀ j,j<m+1->askS f g top j=true->(rdyS ws (m:Int)).op=true->(rdyS ws (j:Int)).op=true:=by
    intro j hj ha ho
    by_cases hjm:j=m
    ·rw [hjm,ho]
    ·exact p00 j om ha
   have hcz:(rdyS ws (m:Int)).op=false->jbP ws f g top:=fun h=>⟨m,hm,hk,h⟩
   generalize jn0 f g m=mk0
   generalize rdyS ws (m:Int)=r at er hop hcz
   obtain ⟨op,inn,out,hup,err,rd,wr⟩:=r
   simp only [Rdy.cells] at er hop hcz
   have r0:e1.get (h.nx+3)=some (.cells [.bool false] false):=by rw [oe.2 _ (by simp;omega),jaa om,p3]
   have r7:e1.get (h.nx+7)=some (LO .busy none):=by rw [oe.2 _ (by simp;omega),jab]
   have oe2 : ∀ j,j<e.nx->j≠h.nx+7->e1.get j=e.get j:=fun j h1 h2=>by rw [oe.2 _ (by simpa using h1),jaa h2]
   have ox:e.nx<=e1.nx:=by have:=oe.1;simpa using this
   have of:Old h e1:=oq.trans oe
   suffices q : ∃ v' g',cl (d-1-1) (.yld (h.nx+7)) [.i (m:Int),.i mk0] e=some (v',g') /\ ∃ b:Bool,v' = .bool b/\(b=true->((∀ j,j<m+1->askS f g top j=true->(rdyS ws (j:Int)).op=true)/\g'.get h.nx=some (.cells [.p w 0] false)/\g'.get (h.nx+3)=some (.cells [.bool false] false)/\g'.get (h.nx+4)=some (.cells [.i top] false)/\g'.get (h.nx+5)=some (.cells (setV f) false)/\g'.get (h.nx+6)=some (.cells (setV g) false)/\g'.get (h.nx+7)=some (LO .ready none)/\h.nx+8<=g'.nx/\Old h g')/\Old e g') /\
     (b=false->jbP ws f g top/\g'.get (h.nx+3)=some (.cells [.bool true] false)/\g'.get (h.nx+7)=some (LO .done (some (.exit 0)))/\h.nx+8<=g'.nx/\Old h g') by
    obtain ⟨_,g',e,b,rfl,q⟩:=q
    exact ⟨b,g',e,fun hb=>⟨(q.1 hb).1,(q.1 hb).2.toN _⟩,q.2⟩
   refine yl_ hcl om hLO p7 rfl ?_
   clear a o
   refine qx1 ?_
   refine End.nil ⟨rfl,p7,?_⟩
   cases op
   ·refine qx1 ?_
    refine Ops.store1 (l:=[.bool false]) rfl rfl rfl r0 Nat.zero_lt_one ?_
    refine qx1 ?_
    refine End.nil ⟨⟨.busy,none,by rw [jaa om,r7]⟩,false,rfl,fun e=>(by cases e),fun _=>⟨hcz rfl,?_,jab _,by simp;omega,(of.set om).set om⟩⟩
    rw [jaa om];exact jab _
   ·refine qx1 ?_
    refine End.nil ⟨⟨.busy,none,r7⟩,true,rfl,fun _=>⟨⟨fun j hj ha=>hop j hj ha rfl,?_,?_,?_,?_,?_,jab _,by simp;omega,of.set om⟩,by simpa using ox,?_⟩,fun e=>by cases e⟩
    ·rw [jaa om,oe2 _ om om,p0]
    ·rw [jaa om,oe2 _ om om,p3]
    ·rw [jaa om,oe2 _ om om,p4]
    ·rw [jaa om,oe2 _ om om,p5]
    ·rw [jaa om,oe2 _ om om,p6]
    ·intro j hj
     by_cases hz:j=h.nx+7
     ·rw [hz,jab,p7];rfl
     ·rw [jaa hz,oe2 _ hj hz])
  ⟨fun j hj=>by omega,by rw [jac om,b0],by rw [jac om,b3],by rw [jac om,b4],by rw [jac om,b5],by rw [jac om,b6],by rw [<- x1,jad],by simp [x1],oL⟩
 clear a o
 rcases hIJ with ⟨p00,p0,p3,p4,p5,p6,p7,p8,p9⟩ | ⟨p00,p3,p7,p8,p9⟩
 ·have hn : ¬ jbP ws f g top:=by
   rintro ⟨m,hm,hk,hz⟩
   rw [p00 m hm hk] at hz;cases hz
  have k0:(h'.kill (h.nx+7)).get (h.nx+3)=some (.cells [.bool false] false):=by rw [jaf om,p3]
  have o9:Old h (h'.kill (h.nx+7)):=⟨p9.1,fun j hj=>by rw [jaf om,p9.2 j hj]⟩
  refine ⟨v',h',hc,.normal,p7,?_⟩
  clear hLO
  refine qx1 ?_
  exact ⟨_,rfl,by simp [hn],o9⟩
 ·have k0:(h'.kill (h.nx+7)).get (h.nx+3)=some (.cells [.bool true] false):=by rw [jaf om,p3]
  have o9:Old h (h'.kill (h.nx+7)):=⟨p9.1,fun j hj=>by rw [jaf om,p9.2 j hj]⟩
  refine ⟨v',h',hc,.exit 0,p7,?_⟩
  clear hLO
  refine qx1 ?_
  exact ⟨_,rfl,by simp [p00],o9⟩
end
end Am.Sigs
