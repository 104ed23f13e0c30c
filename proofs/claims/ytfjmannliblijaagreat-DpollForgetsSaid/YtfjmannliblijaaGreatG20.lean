/- Our own library, part 20. -/
import Derived.Test.YtfjmannliblijaaGreatG19
import Derived.Test.YtfjmannliblijaaGreatG16
import Derived.Test.YtfjmannliblijaaGreatG15
import Derived.Test.YtfjmannliblijaaGreatG18
set_option maxHeartbeats 8000000
set_option maxRecDepth 800
set_option linter.all false
namespace Am.Sigs
open Am Go
def addS (f:Nat->Bool) (k:Nat):Nat->Bool:=fun i=>f i||decide (i=k)
def delS (f:Nat->Bool) (k:Nat):Nat->Bool:=fun i=>f i && !decide (i=k)
def orS (f g:Nat->Bool):Nat->Bool:=fun i=>f i||g i
def noS:Nat->Bool:=fun _=>false
theorem add_lo (f:Nat->Bool) {k:Nat} (hk:k<32):setV (addS f k)=[.int .u32 ((mk (fun i=>f i||decide (i=k)) 32:Nat):Int),.int .u32 ((mk (fun i=>f (i+32)) 32:Nat):Int)]:=by
 unfold setV addS
 rw [jcV (f:=fun i=>f (i+32)||decide (i+32=k)) (g:=fun i=>f (i+32)) fun i _=>by rw [decide_eq_false om,Bool.or_false]]
theorem add_hi (f:Nat->Bool) {k:Nat} : setV (addS f (k+32))=[.int .u32 ((mk f 32:Nat):Int),.int .u32 ((mk (fun i=>f (i+32)||decide (i=k)) 32:Nat):Int)]:=by
 unfold setV addS
 rw [jcV (f:=fun i=>f i||decide (i=k+32)) (g:=f) fun i hi=>by rw [decide_eq_false om,Bool.or_false],
  jcV (f:=fun i=>f (i+32)||decide (i+32=k+32)) (g:=fun i=>f (i+32)||decide (i=k)) fun i _=>by simp]
theorem del_lo (f:Nat->Bool) {k:Nat} (hk:k<32):setV (delS f k)=[.int .u32 ((mk (fun i=>f i && !decide (i=k)) 32:Nat):Int),.int .u32 ((mk (fun i=>f (i+32)) 32:Nat):Int)]:=by
 unfold setV delS
 rw [jcV (f:=fun i=>f (i+32) && !decide (i+32=k)) (g:=fun i=>f (i+32)) fun i _=>by rw [decide_eq_false om];simp]
theorem del_hi (f:Nat->Bool) {k:Nat} : setV (delS f (k+32))=[.int .u32 ((mk f 32:Nat):Int),.int .u32 ((mk (fun i=>f (i+32) && !decide (i=k)) 32:Nat):Int)]:=by
 unfold setV delS
 rw [jcV (f:=fun i=>f i && !decide (i=k+32)) (g:=f) fun i hi=>by rw [decide_eq_false om];simp,
  jcV (f:=fun i=>f (i+32) && !decide (i+32=k+32)) (g:=fun i=>f (i+32) && !decide (i=k)) fun i _=>by simp]
section
variable {cl:Nat->Call} (hcl:Sem cl) {f g:Nat->Bool} {fd:Int} {h:H}
include hcl
theorem jn5 {d:Nat} (hd:1<=d) : ∃ h',cl d (.fn F.jjp) [.agg (setV f),.agg (setV g)] h=some (.agg (setV (orS f g)),h')/\Old h h':=by
 refine jai (at_ hcl om rfl rfl rfl ?_)
 have e1:=or32 f g
 have e2:=or32 (fun i=>f (i+32)) (fun i=>g (i+32))
 have e3:[V.int .u32 (IntKind.u32.wrap ((BitVec.ofInt 32 ((mk f 32:Nat):Int) ||| BitVec.ofInt 32 ((mk g 32:Nat):Int)).toNat:Int)),V.int .u32 (IntKind.u32.wrap ((BitVec.ofInt 32 ((mk (fun i=>f (i+32)) 32:Nat):Int) ||| BitVec.ofInt 32 ((mk (fun i=>g (i+32)) 32:Nat):Int)).toNat:Int))]=setV (orS f g):=by
  unfold setV orS;rw [e1,e2]
 refine qm1 ?_
 refine jcG (l:=setV (orS f g)) rfl ((jab _).trans (by rw [<- e3];rfl)) rfl ⟨rfl,?_⟩
 exact (Old.refl h).new.new.new.set (by simp<;>omega)
def jmI (f:Nat->Bool) (fd:Int):Nat->Bool:=if fitS fd then addS f fd.toNat else noS
theorem jm2 {d:Nat} (hd:2<=d) : ∃ h',cl d (.fn F.jdd) [.agg (setV f),.i fd] h=some (.tup [.agg (setV (jmI f fd)),.i (if fitS fd then 0 else 10)],h')/\Old h h':=by
 have e0:=fun G=>jjV hcl (d:=d-1) (fd:=fd) (h:=G) om
 refine jai (at_ hcl om rfl rfl rfl ?_)
 unfold jmI
 by_cases hf:fitS fd
 case neg=>
  rw [if_neg hf,if_neg hf]
  have e0:=e0 ((h.new (.cells (setV f) false)).new (.cells [.int .u32 0,.int .u32 0] false))
  rw [decide_eq_false hf] at e0
  refine qm1 ?_
  refine zcf (resN rfl (jab _) (zr rfl) rfl) ⟨?_,(Old.refl h).new.new.set Zd⟩
  unfold noS;rw [jeN];rfl
 rw [if_pos hf,if_pos hf]
 have e0:=e0 ((h.new (.cells (setV f) false)).new (.cells [.int .u32 0,.int .u32 0] false))
 rw [decide_eq_true hf] at e0
 obtain ⟨m,rfl⟩:=zy hf.1
 have h2:=hf.2
 rw [zu]
 by_cases h32:m<32
 ·have hq:IntKind.i64.wrap ((m:Int).tdiv 32)=0:=by
   rw [Int.tdiv_eq_ediv_of_nonneg om,show (m:Int)/32=0 by omega];rfl
  have hr:(m:Int).tmod 32=(m:Int):=by rw [Int.tmod_eq_emod_of_nonneg om];omega
  have e1:=or32 f (fun i=>decide (i=m))
  rw [<- shl32 h32] at e1
  clear hf
  refine qm1 ?_
  rw [hq]
  refine qm1 ?_
  rw [hr,zu]
  have e2:(setV f).set (0+Int.toNat 0*1) (V.int .u32 (IntKind.u32.wrap ((BitVec.ofInt IntKind.u32.bits ((mk f 32:Nat):Int) ||| BitVec.ofInt IntKind.u32.bits (IntKind.u32.wrap (1*2 ^ m.min IntKind.u32.bits))).toNat:Int)))=setV (addS f m):=by
   rw [add_lo f h32]
   show [V.int .u32 (IntKind.u32.wrap ((BitVec.ofInt 32 ((mk f 32:Nat):Int) ||| BitVec.ofInt 32 (IntKind.u32.wrap (1*2 ^ m.min 32))).toNat:Int)),_]=_
   rw [e1]
  rw [e2]
  have e3:List.take 2 (List.drop 0 (setV (addS f m)))=setV (addS f m):=rfl
  rw [e3]
  refine Ops.storeN (vs:=setV (addS f m)) (l:=[.int .u32 0,.int .u32 0]) (b:=h.nx+1) rfl rfl rfl rfl qgt (zr rfl) ?_
  rw [jas (setV (addS f m)) [.int .u32 0,.int .u32 0] rfl]
  refine qm1 ?_
  refine zcf (resN rfl (jab _) (zr rfl) rfl) ⟨rfl,?_⟩
  exact ((Old.refl h).new.new.set (zp _)).set om
 ·obtain ⟨k,rfl⟩ : ∃ k,m=k+32:=⟨m-32,by omega⟩
  have hk:k<32:=by omega
  have hq:IntKind.i64.wrap (((k+32:Nat):Int).tdiv 32)=1:=by
   rw [Int.tdiv_eq_ediv_of_nonneg om,show ((k+32:Nat):Int)/32=1 by omega];rfl
  have hr:((k+32:Nat):Int).tmod 32=(k:Int):=by rw [Int.tmod_eq_emod_of_nonneg om];omega
  have e1:=or32 (fun i=>f (i+32)) (fun i=>decide (i=k))
  rw [<- shl32 hk] at e1
  clear hf
  refine qm1 ?_
  rw [hq]
  refine qm1 ?_
  rw [hr,zu]
  have e2:(setV f).set (0+Int.toNat 1*1) (V.int .u32 (IntKind.u32.wrap ((BitVec.ofInt IntKind.u32.bits ((mk (fun i=>f (i+32)) 32:Nat):Int) ||| BitVec.ofInt IntKind.u32.bits (IntKind.u32.wrap (1*2 ^ k.min IntKind.u32.bits))).toNat:Int)))=setV (addS f (k+32)):=by
   rw [add_hi f]
   show [_,V.int .u32 (IntKind.u32.wrap ((BitVec.ofInt 32 ((mk (fun i=>f (i+32)) 32:Nat):Int) ||| BitVec.ofInt 32 (IntKind.u32.wrap (1*2 ^ k.min 32))).toNat:Int))]=_
   rw [e1]
  rw [e2]
  have e3:List.take 2 (List.drop 0 (setV (addS f (k+32))))=setV (addS f (k+32)):=rfl
  rw [e3]
  refine Ops.storeN (vs:=setV (addS f (k+32))) (l:=[.int .u32 0,.int .u32 0]) (b:=h.nx+1) rfl rfl rfl rfl qgt (zr rfl) ?_
  rw [jas (setV (addS f (k+32))) [.int .u32 0,.int .u32 0] rfl]
  refine qm1 ?_
  refine zcf (resN rfl (jab _) (zr rfl) rfl) ⟨rfl,?_⟩
  exact ((Old.refl h).new.new.set (zp _)).set om
theorem jl3 {d m:Nat} (hd:2<=d) (hm:m<64) : ∃ h',cl d (.fn F.jf8) [.agg (setV f),.i (m:Int)] h=some (.agg (setV (delS f m)),h')/\Old h h':=by
 have e0:=jjV hcl (d:=d-1) (fd:=(m:Int)) (h:=(h.new (.cells (setV f) false)).new (.cells [.int .u32 0,.int .u32 0] false)) om
 refine jai (at_ hcl om rfl rfl rfl ?_)
 rw [decide_eq_true (show fitS (m:Int) from ⟨by omega,by omega⟩)] at e0
 by_cases h32:m<32
 ·have hq:IntKind.i64.wrap ((m:Int).tdiv 32)=0:=by
   rw [Int.tdiv_eq_ediv_of_nonneg om,show (m:Int)/32=0 by omega];rfl
  have hr:(m:Int).tmod 32=(m:Int):=by rw [Int.tmod_eq_emod_of_nonneg om];omega
  have e1:=jno f (fun i=>decide (i=m))
  rw [<- shl32 h32] at e1
  refine qm1 ?_
  rw [hq]
  refine qm1 ?_
  rw [hr,zu]
  have e2:(setV f).set (0+Int.toNat 0*1) (V.int .u32 (IntKind.u32.wrap ((BitVec.ofInt IntKind.u32.bits ((mk f 32:Nat):Int) &&& ~~~BitVec.ofInt IntKind.u32.bits (IntKind.u32.wrap (1*2 ^ m.min IntKind.u32.bits))).toNat:Int)))=setV (delS f m):=by
   rw [del_lo f h32]
   show [V.int .u32 (IntKind.u32.wrap ((BitVec.ofInt 32 ((mk f 32:Nat):Int) &&& ~~~BitVec.ofInt 32 (IntKind.u32.wrap (1*2 ^ m.min 32))).toNat:Int)),_]=_
   rw [e1]
  rw [e2]
  refine qm1 ?_
  have e3:List.take 2 (List.drop 0 (setV (delS f m)))=setV (delS f m):=rfl
  rw [e3]
  refine Ops.storeN (vs:=setV (delS f m)) (l:=[.int .u32 0,.int .u32 0]) (b:=h.nx+1) rfl rfl rfl rfl qgt (zr rfl) ?_
  rw [jas (setV (delS f m)) [.int .u32 0,.int .u32 0] rfl]
  refine qm1 ?_
  refine jcG (l:=setV (delS f m)) rfl (jab _) rfl ⟨rfl,?_⟩
  exact ((Old.refl h).new.new.set (zp _)).set om
 ·obtain ⟨k,rfl⟩ : ∃ k,m=k+32:=⟨m-32,by omega⟩
  have hk:k<32:=by omega
  have hq:IntKind.i64.wrap (((k+32:Nat):Int).tdiv 32)=1:=by
   rw [Int.tdiv_eq_ediv_of_nonneg om,show ((k+32:Nat):Int)/32=1 by omega];rfl
  have hr:((k+32:Nat):Int).tmod 32=(k:Int):=by rw [Int.tmod_eq_emod_of_nonneg om];omega
  have e1:=jno (fun i=>f (i+32)) (fun i=>decide (i=k))
  rw [<- shl32 hk] at e1
  refine qm1 ?_
  rw [hq]
  refine qm1 ?_
  rw [hr,zu]
  have e2:(setV f).set (0+Int.toNat 1*1) (V.int .u32 (IntKind.u32.wrap ((BitVec.ofInt IntKind.u32.bits ((mk (fun i=>f (i+32)) 32:Nat):Int) &&& ~~~BitVec.ofInt IntKind.u32.bits (IntKind.u32.wrap (1*2 ^ k.min IntKind.u32.bits))).toNat:Int)))=setV (delS f (k+32)):=by
   rw [del_hi f]
   show [_,V.int .u32 (IntKind.u32.wrap ((BitVec.ofInt 32 ((mk (fun i=>f (i+32)) 32:Nat):Int) &&& ~~~BitVec.ofInt 32 (IntKind.u32.wrap (1*2 ^ k.min 32))).toNat:Int))]=_
   rw [e1]
  rw [e2]
  refine qm1 ?_
  have e3:List.take 2 (List.drop 0 (setV (delS f (k+32))))=setV (delS f (k+32)):=rfl
  rw [e3]
  refine Ops.storeN (vs:=setV (delS f (k+32))) (l:=[.int .u32 0,.int .u32 0]) (b:=h.nx+1) rfl rfl rfl rfl qgt (zr rfl) ?_
  rw [jas (setV (delS f (k+32))) [.int .u32 0,.int .u32 0] rfl]
  refine qm1 ?_
  refine jcG (l:=setV (delS f (k+32))) rfl (jab _) rfl ⟨rfl,?_⟩
  exact ((Old.refl h).new.new.set (zp _)).set om
end
def jay (f:Nat->Bool):Nat->List Int
 | 0=>[]
 | n+1=>jay f n++if f n then [(n:Int)] else []
theorem jgG (f:Nat->Bool) : ∀ n,(jay f n).length<=n
 | 0=>zp _
 | n+1=>by
  have:=jgG f n
  simp only [jay,ze]
  split<;>simp<;>omega
def jcL (f:Nat->Bool) (n:Int):Nat->Bool:=fun i=>f i&&decide ((i:Int)<n)
def jaS (f:Nat->Bool) (n:Int) (k:Nat):Nat->Bool:=fun i=>f i&&(decide (k<=i)||decide ((i:Int)<n))
section
variable {cl:Nat->Call} (hcl:Sem cl) {f g:Nat->Bool} {fd:Int} {h:H}
include hcl
theorem jnj {d:Nat} (hd:1<=d):cl d (.fn F.jfb) [.agg (setV f)] h=some (.clo F.jbs [.p h.nx 0],h.new (.cells (setV f) false)):=by
 refine jaj (at_ hcl om rfl rfl rfl ?_)
 refine qm1 ?_
 exact ⟨rfl,rfl⟩
theorem jk7 {d L c:Nat} (hd:3<=d) (I:Nat->H->Prop) (J:H->Prop)
  (hc : ∀ k g,I k g->g.get c=some (.cells (setV f) false))
  (hI : ∀ k g g',I k g->Old g g'->I k g')
  (hskip : ∀ k g,k<64->f k=false->I k g->I (k+1) g)
  (hy : ∀ k g,k<64->f k=true->I k g -> ∃ (b:Bool) (g':H),cl (d-1) (.yld L) [.i (k:Int)] g=some (.bool b,g')/\(b=true->I (k+1) g')/\(b=false->J g'))
  (h0:I 0 h) : ∃ v h',cl d (.fn F.jbs) [.yld L,.p c 0] h=some (v,h')/\(I 64 h'\/J h'):=by
 refine at_ hcl om rfl rfl rfl ?_
 refine qx1 ?_
 refine Run.loop (fun m e g=>∃ k:Nat,m=64-k/\k<=64/\e=[(0,.yld L),(1,.p c 0),(4,.i (k:Int))]/\I k g) (k:=64) Ze ⟨0,rfl,by omega,rfl,h0⟩ ?_
 rintro _ _ g ⟨k,rfl,hk,rfl,hIk⟩ n ih
 by_cases hlt:k<64
 case neg=>
  obtain rfl:k=64:=by omega
  have hlt' : ¬ ((64:Nat):Int)<64:=by omega
  clear ih hI hskip hy hc
  refine qx1 ?_
  exact .inl hIk
 have hlt':(k:Int)<64:=by omega
 have hk1:(k:Int)+1=((k+1:Nat):Int):=by omega
 have hc1:=hc k g hIk
 have eh:=jm3 hcl (d:=d-1) (f:=f) (fd:=(k:Int)) (h:=g) om
 rw [decide_eq_true (show fitS (k:Int) from ⟨by omega,by omega⟩),Bool.true_and,zu] at eh
 have I1:=hI k g _ hIk ((Old.refl g).new (o := .cells (setV f) false))
 cases hf:f k with
 | false=>
  rw [hf] at eh
  have I2:=hskip k _ hlt hf I1
  clear hI hskip hy hc
  refine qx1 ?_
  refine Ops.loadN rfl hc1 (zp _) ?_
  rw [show List.take 2 (List.drop 0 (setV f))=setV f from rfl]
  refine qx1 ?_
  rw [hk1]
  exact ih (64-(k+1)) om _ _ ⟨k+1,rfl,by omega,rfl,I2⟩
 | true=>
  rw [hf] at eh
  obtain ⟨b,g',e1,q1,q2⟩:=hy k _ hlt hf I1
  clear hI hskip hy hc
  refine qx1 ?_
  refine Ops.loadN rfl hc1 (zp _) ?_
  rw [show List.take 2 (List.drop 0 (setV f))=setV f from rfl]
  cases b
  ·refine qx1 ?_
   refine Ops.yield rfl rfl e1 ?_
   refine qx1 ?_
   exact .inr (q2 rfl)
  ·refine qx1 ?_
   refine Ops.yield rfl rfl e1 ?_
   refine qx1 ?_
   rw [hk1]
   exact ih (64-(k+1)) om _ _ ⟨k+1,rfl,by omega,rfl,q1 rfl⟩
theorem jm5 {d:Nat} (hd:7<=d) : ∃ v h',cl d (.fn F.jfd) [.agg (setV f)] h=some (v,h')/\Row h.nx h' 1 v (jay f 64).length (ints (jay f 64))/\Old h h':=by
 have app : ∀ (H0:H) (c:Nat),c<H0.nx->H0.get c=some (.cells (setV f) false) -> ∃ v h',cl (d-1-1) (.fn F.jdi) [.nils,.clo F.jbs [.p c 0]] H0=some (v,h')/\Row H0.nx h' 1 v (jay f 64).length (ints (jay f 64))/\Old H0 h':=by
  intro H0 c lc hc
  refine at_ hcl om rfl rfl rfl ?_
  refine qm1 ?_
  have oH:Old H0 (H0.new (.cells [.nils] false)):=(Old.refl H0).new
  refine Run.rangeFunc_lo rfl qkp fun LO hLO=>?_
  obtain ⟨v',h',hc',hIJ⟩:=jk7 hcl (d:=d-1-1-1) (L:=H0.nx+1) (c:=c) (f:=f) (h:=(H0.new (.cells [.nils] false)).new (LO .ready none)) om
   (fun k g=>(∃ sv,g.get H0.nx=some (.cells [sv] false)/\Row (H0.nx+2) g 1 sv (jay f k).length (ints (jay f k)))/\g.get c=some (.cells (setV f) false)/\g.get (H0.nx+1)=some (LO .ready none)/\H0.nx+2<=g.nx/\Old H0 g/\k<=64)
   (fun _=>False)
   (fun k g p=>p.2.1)
   (by
    rintro k g g' ⟨⟨sv,p0,pr⟩,p1,p2,p3,p4,p5⟩ og
    exact ⟨⟨sv,by rw [og.2 _ om,p0],pr.keep og.1 fun z hz=>og.2 z (pr.at_ge hz).2⟩,by rw [og.2 _ om,p1],by rw [og.2 _ om,p2],zz p3 og.1,p4.trans og,p5⟩)
   (by
    rintro k g hk hf ⟨p0,p1,p2,p3,p4,p5⟩
    have e:jay f (k+1)=jay f k:=by simp [jay,hf]
    rw [e];exact ⟨p0,p1,p2,p3,p4,by omega⟩)
   (by
    rintro k g hk hf ⟨⟨sv,p0,pr⟩,p1,p2,p3,p4,p5⟩
    have e:jay f (k+1)=jay f k++[(k:Int)]:=by simp [jay,hf]
    have hll:=jgG f k
    rw [e]
    generalize jay f k=pl at pr hll ⊢
    refine ⟨true,?_⟩
    suffices q : ∃ v' g',cl (d-1-1-1-1) (.yld (H0.nx+1)) [.i (k:Int)] g=some (v',g')/\(v' = .bool true/\((∃ sv,g'.get H0.nx=some (.cells [sv] false)/\Row (H0.nx+2) g' 1 sv (pl++[(k:Int)]).length (ints (pl++[(k:Int)])))/\g'.get c=some (.cells (setV f) false)/\g'.get (H0.nx+1)=some (LO .ready none)/\H0.nx+2<=g'.nx/\Old H0 g'/\k+1<=64)) by
     obtain ⟨_,g',e,rfl,q⟩:=q
     exact ⟨g',e,fun _=>q,fun e=>by cases e⟩
    obtain ⟨cp,⟨asv,rfl⟩,_⟩:=pr.shape
    refine yl_ hcl om hLO p2 rfl ?_
    refine qx1 ?_
    refine End.nil ⟨rfl,p2,?_⟩
    have pr2:Row (H0.nx+2) (g.set (H0.nx+1) (LO .busy none)) 1 (.slice asv pl.length cp) pl.length (ints pl):=pr.keep Zd fun z hz=>by have:=pr.at_ge hz;exact jaa om
    refine qx1 ?_
    refine Ops.push (N:=H0.nx+2) (new:=[.i (k:Int)]) rfl rfl rfl rfl om rfl rfl pr2 (by simpa using p3) om om fun v2 g2 row' hx' hz' hk'=>?_
    have hx':g.nx<=g2.nx:=by simpa using hx'
    have hk2 : ∀ j,j<H0.nx+2->g2.get j=(g.set (H0.nx+1) (LO .busy none)).get j:=fun j hj=>hk' j Zc fun e=>by have:=pr2.at_ge e;omega
    have q0:g2.get H0.nx=some (.cells [.slice asv pl.length cp] false):=by rw [hk2 _ om,jaa om,p0]
    have hone:=row'.one
    refine Ops.store1 rfl rfl hone q0 Nat.zero_lt_one ?_
    refine qx1 ?_
    refine End.nil ⟨⟨.busy,none,by rw [jaa om,hk2 _ om,jab]⟩,rfl,⟨v2,?_,?_⟩,?_,jab _,by simp;omega,?_,by omega⟩
    ·rw [jaa om];exact jab _
    ·have r2:Row (H0.nx+2) g2 1 v2 (pl++[(k:Int)]).length (ints (pl++[(k:Int)])):=by simpa [ints] using row'
     exact r2.keep Zd fun z hz=>by have:=hz' z hz;simp at this;rw [jaa om,jaa om]
    ·rw [jaa om,jaa om,hk2 _ om,jaa om,p1]
    ·have p7:=p4.1
     exact ⟨by simp;omega,fun j hj=>by rw [jaa om,jaa om,hk2 _ om,jaa om,p4.2 j hj]⟩)
   ⟨⟨.nils,qgt,by simpa [jay] using Row.nil _ _ _⟩,by rw [jac Zc,jac lc,hc],qgt,by simp,oH.new,by omega⟩
  refine hIJ.elim ?_ fun hF=>hF.elim
  rintro ⟨⟨sv,p0,pr⟩,p1,p2,p3,p4,_⟩
  refine ⟨v',h',hc',.normal,p2,?_⟩
  have k0:(h'.kill (H0.nx+1)).get H0.nx=some (.cells [sv] false):=by rw [jae om,p0]
  have o9:Old H0 (h'.kill (H0.nx+1)):=⟨p4.1,fun j hj=>by rw [jae om,p4.2 j hj]⟩
  have r9:Row H0.nx (h'.kill (H0.nx+1)) 1 sv (jay f 64).length (ints (jay f 64)):=by
   rcases pr with r | ⟨q,q1,q2,e,q4,q5⟩
   ·exact .inl r
   ·exact .inr ⟨q,by omega,q2,e,by rw [jae om,q4],q5⟩
  obtain ⟨cp,⟨asv,rfl⟩,_⟩:=pr.shape
  clear hLO
  refine qx1 ?_
  exact ⟨r9,o9⟩
 have o0:Old h ((h.new (.cells (setV f) false)).new (.cells (setV f) false)):=(Old.refl h).new.new
 obtain ⟨v,h',e1,r1,o1⟩:=app ((h.new (.cells (setV f) false)).new (.cells (setV f) false)) (h.nx+1) Zd qgt
 have ec:cl (d-1) (.fn F.jeM) [.clo F.jbs [.p (h.nx+1) 0]] ((h.new (.cells (setV f) false)).new (.cells (setV f) false))=some (v,h'):=by
  obtain ⟨cp,⟨asv,rfl⟩,_⟩:=r1.shape
  refine jaj (at_ hcl om rfl rfl rfl ?_)
  clear app
  refine qx1 ?_
  exact ⟨rfl,rfl⟩
 have ea:=jnj hcl (d:=d-1) (f:=f) (h:=h.new (.cells (setV f) false)) om
 have ea:cl (d-1) (.fn F.jfb) [.agg (setV f)] (h.new (.cells (setV f) false))=some (.clo F.jbs [.p (h.nx+1) 0],(h.new (.cells (setV f) false)).new (.cells (setV f) false)):=ea
 have r2:Row h.nx h' 1 v (jay f 64).length (ints (jay f 64)):=by
  rcases r1 with r | ⟨q,q1,q2,e,q4,q5⟩
  ·exact .inl r
  ·have q1:h.nx+2<=q:=q1
   exact .inr ⟨q,by omega,q2,e,q4,q5⟩
 obtain ⟨cp,⟨asv,rfl⟩,_⟩:=r1.shape
 refine at_ hcl om rfl rfl rfl ?_
 clear app
 refine qm1 ?_
 exact ⟨r2,o0.trans o1⟩
end
def cntS (f:Nat->Bool):Nat->Nat
 | 0=>0
 | n+1=>cntS f n+if f n then 1 else 0
theorem jka (f:Nat->Bool) : ∀ n,cntS f n<=n
 | 0=>zp _
 | n+1=>by
  have:=jka f n
  rw [cntS];split<;>omega
section
variable {call:Call} {fuel base:Nat} {K:List Fr} {e:Env} {h:H} {Q:Post} {ix:Nat} {dst at_:Option Nat} {ops:List Ins} {keep:List Nat}
theorem Ops.ixStr {x i:Opd} {s:List UInt8} {k:IntKind} {n:Nat} {b:UInt8} (hx:x.ev e=some (.str s)) (hi:i.ev e=some (.int k (n:Int))) (hs:s[n]?=some b) (kk:Ops call fuel base ops keep K (layv e dst (.int .u8 (b.toNat:Int))) h Q) :
  Ops call fuel base (⟨ix,dst,.ixStr x i,none,at_,[]⟩ :: ops) keep K e h Q:=by
 refine Ops.pure rfl ?_ kk
 simp only [I.pure,hx,hi]
 have hlt:n<s.length:=by
  rcases zw n s.length with h | h
  ·exact h
  ·rw [zc h] at hs;cases hs
 have hb:jfj (n:Int) s.length=true:=jcK.2 ⟨by omega,by omega⟩
 rw [hb]
 simp only [cond_true,zu,hs,jfH]
end
def len8:List UInt8:=[0,1,2,2,3,3,3,3,4,4,4,4,4,4,4,4,5,5,5,5,5,5,5,5,5,5,5,5,5,5,5,5,6,6,6,6,6,6,6,6,6,6,6,6,6,6,6,6,6,6,6,6,6,6,6,6,6,6,6,6,6,6,6,6,7,7,7,7,7,7,7,7,7,7,7,7,7,7,7,7,7,7,7,7,7,7,7,7,7,7,7,7,7,7,7,7,7,7,7,7,7,7,7,7,7,7,7,7,7,7,7,7,7,7,7,7,7,7,7,7,7,7,7,7,7,7,7,7,8,8,8,8,8,8,8,8,8,8,8,8,8,8,8,8,8,8,8,8,8,8,8,8,8,8,8,8,8,8,8,8,8,8,8,8,8,8,8,8,8,8,8,8,8,8,8,8,8,8,8,8,8,8,8,8,8,8,8,8,8,8,8,8,8,8,8,8,8,8,8,8,8,8,8,8,8,8,8,8,8,8,8,8,8,8,8,8,8,8,8,8,8,8,8,8,8,8,8,8,8,8,8,8,8,8,8,8,8,8,8,8,8,8,8,8,8,8,8,8,8,8,8,8,8,8,8,8]
def BL (x L:Nat):Prop:=x<2 ^ L/\(L=0\/2 ^ (L-1)<=x)
instance (x L:Nat):Decidable (BL x L):=inferInstanceAs (Decidable (_/\_))
theorem len8_all:(List.range 256).all (fun n=>match len8[n]? with | some b=>decide (BL n b.toNat/\b.toNat<=8) | none=>false)=true:=by decide +kernel
theorem len8_at {n:Nat} (hn:n<256) : ∃ b,len8[n]?=some b/\BL n b.toNat/\b.toNat<=8:=by
 have h:=List.all_eq_true.1 len8_all n (List.mem_range.2 hn)
 split at h
 ·next b hb=>exact ⟨b,hb,by simpa using h⟩
 ·cases h
theorem BL.up {x k L:Nat} (h:BL (x/2 ^ k) L) (hx:2 ^ k<=x):BL x (L+k):=by
 have hp:0<2 ^ k:=Nat.pow_pos om
 obtain ⟨h1,h2⟩:=h
 have h3:L≠0:=by
  rintro rfl
  have:1<=x/2 ^ k:=(Nat.le_div_iff_mul_le hp).2 om
  simp at h1;omega
 refine ⟨?_,.inr ?_⟩
 ·rw [Nat.pow_add];exact (Nat.div_lt_iff_lt_mul hp).1 h1
 ·rcases h2 with h2 | h2
  ·exact absurd h2 h3
  ·rw [show L+k-1=(L-1)+k by omega,Nat.pow_add]
   exact (Nat.le_div_iff_mul_le hp).1 h2
theorem jn6 {n k:Nat} : ((n:Nat):Int).fdiv (2 ^ k)=((n/2 ^ k:Nat):Int):=by
 rw [Int.fdiv_eq_ediv_of_nonneg _ (Int.le_of_lt (Int.pow_pos om))];simp
theorem u8_of {n:Int} (h0:0<=n) (h1:n<256):IntKind.u8.wrap n=n:=by
 have:IntKind.u8.wrap n=n%256:=by simp [IntKind.wrap,IntKind.bits,IntKind.signed]
 rw [this];omega
theorem strike_0 (f:Nat->Bool) (n:Int):setV (jaS f n 0)=setV f:=jbB fun i _=>by unfold jaS;simp
theorem strike_64 (f:Nat->Bool) (n:Int):setV (jaS f n 64)=setV (jcL f n):=jbB fun i hi=>by
 unfold jaS jcL;rw [decide_eq_false (show ¬ 64<=i by omega),Bool.false_or]
theorem strike_no {f:Nat->Bool} {n:Int} {k:Nat} (hf:f k=false):setV (jaS f n (k+1))=setV (jaS f n k):=jbB fun i _=>by
 unfold jaS
 by_cases h:i=k
 ·subst h;rw [hf];rfl
 ·rw [show decide (k+1<=i)=decide (k<=i) by by_cases h2:k<=i<;>simp [h2]<;>omega]
theorem strike_lt {f:Nat->Bool} {n:Int} {k:Nat} (hn:(k:Int)<n):setV (jaS f n (k+1))=setV (jaS f n k):=jbB fun i _=>by
 unfold jaS
 by_cases h:i=k
 ·subst h;rw [decide_eq_true hn,Bool.or_true,Bool.or_true]
 ·rw [show decide (k+1<=i)=decide (k<=i) by by_cases h2:k<=i<;>simp [h2]<;>omega]
theorem strike_ge {f:Nat->Bool} {n:Int} {k:Nat} (hn : ¬ (k:Int)<n):setV (jaS f n (k+1))=setV (delS (jaS f n k) k):=jbB fun i _=>by
 unfold jaS delS
 by_cases h:i=k
 ·subst h;simp;intro _;omega
 ·rw [show decide (k+1<=i)=decide (k<=i) by by_cases h2:k<=i<;>simp [h2]<;>omega,decide_eq_false h];simp
section
variable {cl:Nat->Call} (hcl:Sem cl) {f g:Nat->Bool} {fd:Int} {h:H}
include hcl
theorem fs_below {d:Nat} {n:Int} (hd:6<=d) : ∃ h',cl d (.fn F.jgO) [.agg (setV f),.i n] h=some (.agg (setV (jcL f n)),h')/\Old h h':=by
 refine jai (at_ hcl om rfl rfl rfl ?_)
 have ea:=jnj hcl (d:=d-1) (f:=f) (h:=((h.new (.cells (setV f) false)).new (.cells [.i n] false)).new (.cells [.int .u32 0,.int .u32 0] false)) om
 have x3:(((h.new (.cells (setV f) false)).new (.cells [.i n] false)).new (.cells [.int .u32 0,.int .u32 0] false)).nx=h.nx+3:=rfl
 rw [x3] at ea
 refine qm1 ?_
 have oH:Old h ((((h.new (.cells (setV f) false)).new (.cells [.i n] false)).new (.cells [.int .u32 0,.int .u32 0] false)).new (.cells (setV f) false)):=(Old.refl h).new.new.new.new
 have b0:((((h.new (.cells (setV f) false)).new (.cells [.i n] false)).new (.cells [.int .u32 0,.int .u32 0] false)).new (.cells (setV f) false)).get h.nx=some (.cells (setV f) false):=qgt
 have b1:((((h.new (.cells (setV f) false)).new (.cells [.i n] false)).new (.cells [.int .u32 0,.int .u32 0] false)).new (.cells (setV f) false)).get (h.nx+1)=some (.cells [.i n] false):=qgt
 have b2:((((h.new (.cells (setV f) false)).new (.cells [.i n] false)).new (.cells [.int .u32 0,.int .u32 0] false)).new (.cells (setV f) false)).get (h.nx+2)=some (.cells [.int .u32 0,.int .u32 0] false):=qgt
 have b3:((((h.new (.cells (setV f) false)).new (.cells [.i n] false)).new (.cells [.int .u32 0,.int .u32 0] false)).new (.cells (setV f) false)).get (h.nx+3)=some (.cells (setV f) false):=qgt
 have x4:((((h.new (.cells (setV f) false)).new (.cells [.i n] false)).new (.cells [.int .u32 0,.int .u32 0] false)).new (.cells (setV f) false)).nx=h.nx+4:=rfl
 change Run (cl (d-1)) fuel _ _ [(2,.p h.nx 0),(3,.p (h.nx+1) 0),(4,.p (h.nx+2) 0),(7,.clo F.jbs [.p (h.nx+3) 0])] ((((h.new (.cells (setV f) false)).new (.cells [.i n] false)).new (.cells [.int .u32 0,.int .u32 0] false)).new (.cells (setV f) false)) _
 generalize (((h.new (.cells (setV f) false)).new (.cells [.i n] false)).new (.cells [.int .u32 0,.int .u32 0] false)).new (.cells (setV f) false)=H1 at oH b0 b1 b2 b3 x4 ⊢
 clear ea
 refine Run.rangeFunc_lo rfl qkp fun LO hLO=>?_
 rw [x4]
 have oL:Old h (H1.new (LO .ready none)):=oH.new
 obtain ⟨v',h',hc',hIJ⟩:=jk7 hcl (d:=d-1) (L:=h.nx+4) (c:=h.nx+3) (f:=f) (h:=H1.new (LO .ready none)) om
  (fun k g=>g.get h.nx=some (.cells (setV (jaS f n k)) false)/\g.get (h.nx+1)=some (.cells [.i n] false)/\g.get (h.nx+2)=some (.cells [.int .u32 0,.int .u32 0] false)/\g.get (h.nx+3)=some (.cells (setV f) false)/\g.get (h.nx+4)=some (LO .ready none)/\h.nx+5<=g.nx/\Old h g/\k<=64)
  (fun _=>False)
  (fun k g p=>p.2.2.2.1)
  (by
   rintro k g g' ⟨p0,p1,p2,p3,p4,p5,p6,p7⟩ og
   exact ⟨by rw [og.2 _ om,p0],by rw [og.2 _ om,p1],by rw [og.2 _ om,p2],by rw [og.2 _ om,p3],by rw [og.2 _ om,p4],zz p5 og.1,p6.trans og,p7⟩)
  (by
   rintro k g hk hf ⟨p0,p1,p2,p3,p4,p5,p6,p7⟩
   exact ⟨by rw [p0,strike_no hf],p1,p2,p3,p4,p5,p6,by omega⟩)
  (by
   rintro k g hk hf ⟨p0,p1,p2,p3,p4,p5,p6,p7⟩
   refine ⟨true,?_⟩
   suffices q : ∃ v' g',cl (d-1-1) (.yld (h.nx+4)) [.i (k:Int)] g=some (v',g')/\(v' = .bool true/\(g'.get h.nx=some (.cells (setV (jaS f n (k+1))) false)/\g'.get (h.nx+1)=some (.cells [.i n] false)/\g'.get (h.nx+2)=some (.cells [.int .u32 0,.int .u32 0] false)/\g'.get (h.nx+3)=some (.cells (setV f) false)/\g'.get (h.nx+4)=some (LO .ready none)/\h.nx+5<=g'.nx/\Old h g'/\k+1<=64)) by
    obtain ⟨_,g',e,rfl,q⟩:=q
    exact ⟨g',e,fun _=>q,fun e=>by cases e⟩
   refine yl_ hcl om hLO p4 rfl ?_
   refine qx1 ?_
   refine End.nil ⟨rfl,p4,?_⟩
   by_cases hn:(k:Int)<n
   ·have hn' : ¬ (k:Int)>=n:=by omega
    refine qx1 ?_
    refine End.nil ⟨⟨.busy,none,qgt⟩,rfl,?_,?_,?_,?_,jab _,by simpa using p5,(p6.set om).set om,by omega⟩
    ·rw [jaa om,jaa om,p0,strike_lt hn]
    ·rw [jaa om,jaa om,p1]
    ·rw [jaa om,jaa om,p2]
    ·rw [jaa om,jaa om,p3]
   ·have hn':(k:Int)>=n:=by omega
    have oB:Old h (g.set (h.nx+4) (LO .busy none)):=p6.set om
    obtain ⟨g2,e2,o2⟩:=jl3 hcl (d:=d-1-1-1) (f:=jaS f n k) (m:=k) (h:=g.set (h.nx+4) (LO .busy none)) om hk
    have x2:g.nx<=g2.nx:=o2.1
    have p0B:(g.set (h.nx+4) (LO .busy none)).get h.nx=some (.cells (setV (jaS f n k)) false):=by rw [jaa om,p0]
    have q0:g2.get h.nx=some (.cells (setV (jaS f n k)) false):=by rw [o2.2 _ (by show h.nx<g.nx;omega),p0B]
    refine qx1 ?_
    refine Ops.loadN rfl p0B (zp _) ?_
    rw [show List.take 2 (List.drop 0 (setV (jaS f n k)))=setV (jaS f n k) from rfl]
    refine qx1 ?_
    refine Ops.storeN (vs:=setV (delS (jaS f n k) k)) (b:=h.nx) (o:=0) rfl rfl rfl rfl q0 (zp _) ?_
    rw [jas (setV (delS (jaS f n k) k)) (setV (jaS f n k)) rfl,<- strike_ge hn]
    refine qx1 ?_
    refine End.nil ⟨⟨.busy,none,?_⟩,rfl,?_,?_,?_,?_,jab _,by simp;omega,?_,by omega⟩
    ·rw [jaa om,o2.2 _ (by show h.nx+4<g.nx;omega),jab]
    ·rw [jaa om,jab]
    ·rw [jaa om,jaa om,o2.2 _ (by show _<g.nx;omega),jaa om,p1]
    ·rw [jaa om,jaa om,o2.2 _ (by show _<g.nx;omega),jaa om,p2]
    ·rw [jaa om,jaa om,o2.2 _ (by show _<g.nx;omega),jaa om,p3]
    ·exact ((oB.trans o2).set (zp _)).set om)
  ⟨by rw [jac om,b0,strike_0],by rw [jac om,b1],by rw [jac om,b2],by rw [jac om,b3],by rw [<- x4,jad],by simp [x4],oL,by omega⟩
 refine hIJ.elim ?_ fun hF=>hF.elim
 rintro ⟨p0,p1,p2,p3,p4,p5,p6,_⟩
 rw [strike_64] at p0
 refine ⟨v',h',hc',.normal,p4,?_⟩
 have k0:(h'.kill (h.nx+4)).get h.nx=some (.cells (setV (jcL f n)) false):=by rw [jae om,p0]
 have k2:(h'.kill (h.nx+4)).get (h.nx+2)=some (.cells [.int .u32 0,.int .u32 0] false):=by rw [jae om,p2]
 have o9:Old h (h'.kill (h.nx+4)):=⟨p6.1,fun j hj=>by rw [jae om,p6.2 j hj]⟩
 clear hLO
 refine qx1 ?_
 refine Ops.loadN rfl k0 (zp _) ?_
 rw [show List.take 2 (List.drop 0 (setV (jcL f n)))=setV (jcL f n) from rfl]
 refine qx1 ?_
 refine Ops.storeN (vs:=setV (jcL f n)) (b:=h.nx+2) (o:=0) rfl rfl rfl rfl k2 (zr rfl) ?_
 rw [jas (setV (jcL f n)) [.int .u32 0,.int .u32 0] rfl]
 refine qx1 ?_
 refine jcG (l:=setV (jcL f n)) rfl (jab _) rfl ⟨rfl,?_⟩
 exact o9.set om
end
section
variable {cl:Nat->Call} (hcl:Sem cl) {f g:Nat->Bool} {h:H}
include hcl
set_option maxRecDepth 100000 in
theorem len32_1 {d z m:Nat} {r:Env} {Q:V->H->Prop} (hz:z<256) (hm:m<=24) (hQ : ∀ L,BL z L->L<=8->Q (.i ((m+L:Nat):Int)) h) :
  Run (cl d) fuel c189_1 [] ((0,.int .u32 (z:Int)) :: (2,.i (m:Int)) :: r) h (Fin c189.res Q):=by
 obtain ⟨b,hb,hL,h8⟩:=len8_at hz
 have hq:=hQ b.toNat hL h8
 have e1:IntKind.u8.wrap (z:Int)=(z:Int):=u8_of om om
 have e2:IntKind.i64.wrap (b.toNat:Int)=(b.toNat:Int):=jdE ⟨by omega,by omega⟩
 clear hQ hcl
 refine qx1 ?_
 refine Ops.ixStr (n:=z) rfl (congrArg (fun y=>some (V.int .u8 y)) e1) hb ?_
 refine qx1 ?_
 rw [e2]
 refine qx1 ?_
 rw [show (m:Int)+(b.toNat:Int)=((m+b.toNat:Nat):Int) by omega]
 exact hq
set_option maxRecDepth 100000 in
theorem jn3 {d x:Nat} (hd:1<=d) (hx:x<4294967296) : ∃ L:Nat,cl d (.fn F.jdN) [.int .u32 (x:Int)] h=some (.i (L:Int),h)/\BL x L/\L<=32:=by
 suffices q : ∃ v h',cl d (.fn F.jdN) [.int .u32 (x:Int)] h=some (v,h')/\(∃ L:Nat,v = .i (L:Int)/\BL x L/\L<=32)/\h'=h by
  obtain ⟨_,_,e,⟨L,rfl,q⟩,rfl⟩:=q;exact ⟨L,e,q⟩
 refine at_ hcl om rfl rfl rfl ?_
 obtain ⟨C,hC⟩ : ∃ C,C=c189_1:=⟨_,rfl⟩
 simp only [c189,c189_2,uF,yB]
 rw [<- hC]
 have fin : ∀ (z m:Nat) (r:Env),z<256->m<=24->z=x/2 ^ m->(m=0\/2 ^ m<=x)->Run (cl (d-1)) fuel C [] ((0,.int .u32 (z:Int)) :: (2,.i (m:Int)) :: r) h (Fin c189.res fun v' h'=>(∃ L:Nat,v' = .i (L:Int)/\BL x L/\L<=32)/\h'=h):=by
  intro z m r hz hm hzx hmx
  rw [hC]
  refine len32_1 hcl hz hm fun L hL h8=>⟨⟨m+L,rfl,?_,by omega⟩,rfl⟩
  subst hzx
  rcases hmx with rfl | hmx
  ·rw [Nat.zero_add];simpa using hL
  ·rw [Nat.add_comm];exact hL.up hmx
 have f16:((x:Nat):Int).fdiv (2 ^ 16)=((x/2 ^ 16:Nat):Int):=jn6
 have f8 : ∀ y:Nat,((y:Nat):Int).fdiv (2 ^ 8)=((y/2 ^ 8:Nat):Int):=fun y=>jn6
 by_cases h1:x<65536
 ·have h1' : ¬ (x:Int)>=65536:=by omega
  by_cases h2:x<256
  ·have h2' : ¬ (x:Int)>=256:=by omega
   refine qx1 ?_
   exact fin x 0 _ h2 om Zd (.inl rfl)
  ·have h2':(x:Int)>=256:=by omega
   refine qx1 ?_
   rw [show ((x:Nat):Int).fdiv (2 ^ (Int.toNat 8).min IntKind.u32.bits)=((x/2 ^ 8:Nat):Int) from f8 x]
   exact fin (x/2 ^ 8) 8 _ om om rfl (.inr om)
 ·have h1':(x:Int)>=65536:=by omega
  have g16:((x:Nat):Int).fdiv (2 ^ (Int.toNat 16).min IntKind.u32.bits)=((x/2 ^ 16:Nat):Int):=f16
  by_cases h2:x/2 ^ 16<256
  ·have h2' : ¬ (256:Int)<=((x:Nat):Int).fdiv (2 ^ (Int.toNat 16).min IntKind.u32.bits):=by rw [g16];omega
   refine qx1 ?_
   rw [g16]
   exact fin (x/2 ^ 16) 16 _ h2 om rfl (.inr om)
  ·have h2':(256:Int)<=((x:Nat):Int).fdiv (2 ^ (Int.toNat 16).min IntKind.u32.bits):=by rw [g16];omega
   refine qx1 ?_
   rw [g16,show ((x/2 ^ 16:Nat):Int).fdiv (2 ^ (Int.toNat 8).min IntKind.u32.bits)=((x/2 ^ 16/2 ^ 8:Nat):Int) from f8 _]
   have e:x/2 ^ 16/2 ^ 8=x/2 ^ 24:=by rw [Nat.div_div_eq_div_mul]
   rw [e]
   exact fin (x/2 ^ 24) 24 _ om om rfl (.inr om)
end
theorem BL.top {x L:Nat} (h:BL x L) (h0:L≠0):x.testBit (L-1)=true:=by
 obtain ⟨h1,h2⟩:=h
 have h2:=h2.resolve_left h0
 obtain ⟨k,rfl⟩ : ∃ k,L=k+1:=⟨L-1,by omega⟩
 rw [Nat.add_sub_cancel] at h2 ⊢
 rw [Nat.testBit_eq_decide_div_mod_eq]
 have h3:x/2 ^ k=1:=by
  rw [Nat.pow_succ] at h1
  refine Nat.le_antisymm ?_ ((Nat.le_div_iff_mul_le (Nat.pow_pos om)).2 om)
  have:x/2 ^ k<2:=(Nat.div_lt_iff_lt_mul (Nat.pow_pos om)).2 om
  omega
 rw [h3];rfl
theorem BL.all {f:Nat->Bool} {n L:Nat} (h:BL (mk f n) L) {i:Nat} (hi:i<n) (hf:f i=true):i<L:=by
 have h1:(mk f n).testBit i=true:=by rw [jdM];simp [hi,hf]
 have h2:=Nat.ge_two_pow_of_testBit h1
 rcases zw i L with h3 | h3
 ·exact h3
 ·have:=Nat.pow_le_pow_right (n:=2) om h3
  have:=h.1
  omega
theorem BL.in_ {f:Nat->Bool} {n L:Nat} (h:BL (mk f n) L) (h0:L≠0):f (L-1)=true:=by
 have:=h.top h0
 rw [jdM] at this
 simp at this
 exact this.2
section
variable {cl:Nat->Call} (hcl:Sem cl) {f g:Nat->Bool} {h:H}
include hcl
theorem fs_top {d:Nat} (hd:2<=d) : ∃ (T:Int) (h':H),cl d (.fn F.jfc) [.agg (setV f)] h=some (.i T,h')/\Old h h' /\ -1<=T/\T<=63/\(∀ i:Nat,i<64->f i=true->(i:Int)<=T)/\(0<=T->f T.toNat=true):=by
 suffices q : ∃ v h',cl d (.fn F.jfc) [.agg (setV f)] h=some (v,h') /\ ∃ T:Int,v = .i T/\Old h h' /\ -1<=T/\T<=63/\(∀ i:Nat,i<64->f i=true->(i:Int)<=T)/\(0<=T->f T.toNat=true) by
  obtain ⟨_,h',e,T,rfl,q⟩:=q;exact ⟨T,h',e,q⟩
 obtain ⟨L0,e0,b0,l0⟩:=jn3 hcl (d:=d-1) (x:=mk f 32) (h:=h.new (.cells (setV f) false)) om (jgc f 32)
 obtain ⟨L1,e1,b1,l1⟩:=jn3 hcl (d:=d-1) (x:=mk (fun i=>f (i+32)) 32) (h:=h.new (.cells (setV f) false)) om (jgc _ 32)
 refine at_ hcl om rfl rfl rfl ?_
 by_cases hz:mk (fun i=>f (i+32)) 32=0
 ·have hz' : ¬ ((mk (fun i=>f (i+32)) 32:Nat):Int)≠0:=by omega
  have hno : ∀ i,i<32->f (i+32)=false:=fun i hi=>by
   have:=jdM (fun i=>f (i+32)) 32 i
   rw [hz] at this
   simpa [hi] using this.symm
  have fin : ∃ T:Int,V.i ((L0:Int)-1) = .i T/\Old h (h.new (.cells (setV f) false)) /\ -1<=T/\T<=63/\(∀ i:Nat,i<64->f i=true->(i:Int)<=T)/\(0<=T->f T.toNat=true):=by
   refine ⟨_,rfl,(Old.refl h).new,by omega,by omega,fun i hi hf=>?_,fun hT=>?_⟩
   ·have h32:i<32:=by
     rcases zw i 32 with h1 | h1
     ·exact h1
     ·have:=hno (i-32) om
      rw [show i-32+32=i by omega,hf] at this;cases this
    have:=b0.all h32 hf
    omega
   ·have:=b0.in_ om
    rw [show ((L0:Int)-1).toNat=L0-1 by omega];exact this
  clear b0 b1 hno e1
  refine qm1 ?_
  exact fin
 ·have hz':((mk (fun i=>f (i+32)) 32:Nat):Int)≠0:=by omega
  have hL:L1≠0:=by
   rintro rfl
   have:=b1.1
   simp at this;omega
  have fin : ∃ T:Int,V.i (32+(L1:Int)-1) = .i T/\Old h (h.new (.cells (setV f) false)) /\ -1<=T/\T<=63/\(∀ i:Nat,i<64->f i=true->(i:Int)<=T)/\(0<=T->f T.toNat=true):=by
   refine ⟨_,rfl,(Old.refl h).new,by omega,by omega,fun i hi hf=>?_,fun hT=>?_⟩
   ·rcases zw i 32 with h1 | h1
    ·omega
    ·have:=b1.all (i:=i-32) om (by show f (i-32+32)=true;rw [show i-32+32=i by omega];exact hf)
     omega
   ·have:=b1.in_ hL
    rw [show ((32:Int)+(L1:Int)-1).toNat=L1-1+32 by omega];exact this
  clear b0 b1 e0
  refine qm1 ?_
  exact fin
end
section
variable {cl:Nat->Call} (hcl:Sem cl)
include hcl
theorem wr_out {d b4 b8 b9 b10 wb cap rk ro:Nat} {g:H} {own oth:En} {wl:List V} {rst i hup:Bool} {a c:Int} (hd:3<=d) (g4:g.get b4=some jfS) (g8:g.get b8=some (.cells (own.cells rk) false)) (g9:g.get b9=some (.cells (oth.cells ro) false))
  (g10:g.get b10=some (.cells [.bool true,.bool i,.bool false,.bool hup,.bool rst,.int .u64 a,.int .u64 c] false)) (gx:g.get wb=some (.cells wl false)) (hx:wl[0+14]?=some (.bool rst)) (n1:b4≠b10) (n2:b8≠b10) (n3:b9≠b10) (n4:wb≠b10)
  (hR:own.writes=true -> ∃ q b,oth.ring=some q/\ja2 g ro b q cap) :
  Run (cl (d-1)) fuel c15_0 [] [(4,.p b4 0),(6,.p wb 0),(8,.p b8 0),(9,.p b9 0),(10,.p b10 0)] g
   (Fin c15.res fun v' h'=>v' = .agg [.bool true,.bool i,.bool (own.writes && !own.shut&&(decide (((oth.ring.getD []).length:Int)<cap)||hup||rst)),.bool hup,.bool rst,.int .u64 a,.int .u64 c]/\Ch (fun j=>j=b4\/j=b10) g h'):=by
 obtain ⟨w0,f0,q0,wr0,s0,i0,o0⟩:=own
 obtain ⟨w1,f1,q1,wr1,s1,i1,o1⟩:=oth
 simp only [En.cells] at g8 g9
 cases wr0
 case false=>
  refine qm1 ?_
  exact jcG rfl (jab _) rfl ⟨rfl,(Ch.set (.inr rfl)).trans (Ch.set (.inl rfl))⟩
 obtain ⟨q,b,hq,R⟩:=hR rfl
 have hq:q1=some q:=hq
 subst hq
 simp only [En.ptr] at g9
 cases s0
 case true=>
  refine qm1 ?_
  exact jcG rfl (jab _) rfl ⟨rfl,(Ch.set (.inr rfl)).trans (Ch.set (.inl rfl))⟩
 cases hup
 case true=>
  refine qm1 ?_
  exact jcG rfl (jab _) rfl ⟨by simp [jat],(Ch.set (.inr rfl)).trans (Ch.set (.inl rfl))⟩
 cases rst
 case true=>
  refine qm1 ?_
  exact jcG rfl (jab _) rfl ⟨by simp [jat],(Ch.set (.inr rfl)).trans (Ch.set (.inl rfl))⟩
 obtain ⟨buf,frm,inn,out,C,V⟩:=R
 have hroom:=jmf hcl (d:=d-1) om C V.fit V.small
 have e1:decide (0<((cap-q.length:Nat):Int))=decide ((q.length:Int)<cap):=by
  have:=V.fit
  by_cases h1:(q.length:Int)<cap
  ·rw [decide_eq_true h1,decide_eq_true om]
  ·rw [decide_eq_false h1,decide_eq_false om]
 clear C V hR
 refine qm1 ?_
 rw [e1]
 exact jcG rfl (jab _) rfl ⟨by simp [jat],(Ch.set (.inr rfl)).trans (Ch.set (.inl rfl))⟩
theorem Fin.mono {res:List RV} {R R':V->H->Prop} {x:Ex} {e:Env} {h:H} (k:Fin res R x e h) (hR : ∀ v,R v h->R' v h):Fin res R' x e h:=by
 obtain ⟨p1,l,p2,p3⟩:=k;exact ⟨p1,l,p2,hR _ p3⟩
theorem wr_in {d b4 b5 b8 b9 b10 r0 r1 bo k n t0:Nat} {g:H} {x:Wi} {wv:V} {hup:Bool} (hd:3<=d) (hk:k=0\/k=1) (g4:g.get b4=some jfS) (g5:g.get b5=some (.cells [.bool true,.i (n:Int),.i (k:Int)] false)) (g8:g.get b8=some (.cells ((x.e k).cells (two r0 r1 k)) false)) (g9:g.get b9=some (.cells ((x.e (1-k)).cells (two r0 r1 (1-k))) false))
  (g10:g.get b10=some (.cells [.bool true,.bool false,.bool false,.bool hup,.bool x.reset,.int .u64 (x.e k).inn,.int .u64 (x.e k).out] false)) (gx:g.get t0=some (x.obj r0 r1 wv)) (n1:b4≠b10) (n2:b8≠b10) (n3:b9≠b10) (n4:t0≠b10)
  (hhup:hup=((x.e (1-k)).what == 3)) (hO : ∀ q,(x.e k).ring=some q->ja2 g (two r0 r1 k) bo q x.cap) (hR:(x.e k).writes=true -> ∃ q bt,(x.e (1-k)).ring=some q/\ja2 g (two r0 r1 (1-k)) bt q x.cap/\two r0 r1 (1-k)≠b10/\bt≠b10) :
  Run (cl (d-1)) fuel c15_1 [] [(4,.p b4 0),(5,.p b5 0),(6,.p t0 0),(8,.p b8 0),(9,.p b9 0),(10,.p b10 0)] g
   (Fin c15.res fun v' h'=>v' = .agg [.bool true,.bool (x.rIn k),.bool (x.rOut k),.bool ((x.e (1-k)).what == 3),.bool x.reset,.int .u64 (x.e k).inn,.int .u64 (x.e k).out]/\Ch (fun j=>j=b4\/j=b10) g h'):=by
 refine Run.seq (Run.cut (fun y e' g'=>y = .normal/\e'=[(4,.p b4 0),(6,.p t0 0),(8,.p b8 0),(9,.p b9 0),(10,.p b10 0)] /\
  Upd b10 (.cells [.bool true,.bool (x.rIn k),.bool false,.bool hup,.bool x.reset,.int .u64 (x.e k).inn,.int .u64 (x.e k).out] false) g g') ?_ ?_)
 case refine_2=>
  rintro _ _ g' ⟨rfl,rfl,u⟩
  refine End.seq ?_
  have:=wr_out hcl (d:=d) (cap:=x.cap) (wl:=x.cells r0 r1 wv) hd (by rw [u.get _ n1,g4]) (by rw [u.get _ n2,g8]) (by rw [u.get _ n3,g9]) u.self (by rw [u.get _ n4,gx];rfl) (Wi.reset_cell rfl) n1 n2 n3 n4 fun hw=>by
   obtain ⟨q,bt,q1,q2,n6,n7⟩:=hR hw
   exact ⟨q,bt,q1,q2.keep (u.get _ n6) (u.get _ n7)⟩
  refine Run.fin_mono this fun v h' ⟨p1,p2⟩=>⟨?_,(u.ch (.inr rfl)).trans p2⟩
  rw [p1,hhup];rfl
 have hsil:=ji5 hcl (d:=d-1) om gx hk
 have hx14:=Wi.reset_cell (x:=x) (r0:=r0) (r1:=r1) (wv:=wv) (o:=0+14) rfl
 unfold Wi.obj at gx
 have hrin:x.rIn k=match (x.e k).ring with
  | none=>false
  | some q=>!q.isEmpty||x.silent k||x.reset:=by
  unfold Wi.rIn Wi.silent
  cases (x.e k).ring with
  | none=>rfl
  | some q=>simp [Bool.or_assoc]
 rw [hrin]
 clear hrin hR
 cases hring:(x.e k).ring with
 | none=>
  have c8:((x.e k).cells (two r0 r1 k))[0+2]?=some (.ptr none):=by simp [En.cells,hring,En.ptr]
  refine qm1 ?_
  exact End.nil ⟨rfl,rfl,Upd.set⟩
 | some q=>
  have c8:((x.e k).cells (two r0 r1 k))[0+2]?=some (.p (two r0 r1 k) 0):=by simp [En.cells,hring,En.ptr]
  obtain ⟨buf,frm,inn,out,C,V⟩:=hO q hring
  have hlen:=jkv hcl (d:=d-1) om C
  clear C V hO
  cases q with
  | cons y q=>
   have hpos:0<(((y :: q:List UInt8).length:Nat):Int):=by simp
   have eT:decide (0<(((y :: q:List UInt8).length:Nat):Int))=true:=decide_eq_true hpos
   refine qm1 ?_
   exact End.nil ⟨rfl,rfl,Upd.set⟩
  | nil=>
   have hlen:cl (d-1) (.fn F.jeT) [.p (two r0 r1 k) 0] g=some (.i 0,g):=hlen
   cases hsl:x.silent k
   ·rw [hsl] at hsil
    cases hrs:x.reset
    ·rw [hrs] at hx14 g10
     refine qm1 ?_
     exact End.nil ⟨rfl,rfl,Upd.set⟩
    ·rw [hrs] at hx14 g10
     refine qm1 ?_
     exact End.nil ⟨rfl,rfl,Upd.set⟩
   ·rw [hsl] at hsil
    refine qm1 ?_
    exact End.nil ⟨rfl,rfl,Upd.set⟩
end
theorem Wi.en_cells {x:Wi} {r0 r1 k o:Nat} {wv:V} (hk:k=0\/k=1) (ho:o=k*7):((x.cells r0 r1 wv).drop o).take 7=(x.e k).cells (two r0 r1 k):=by
 subst ho
 rcases hk with rfl | rfl<;>rfl
theorem En.cells_one (x:En) (r:Nat):(x.cells r).all V.one=true:=by
 obtain ⟨w,f,q,wr,s,i,o⟩:=x
 cases q<;>rfl
theorem jc1 {e:Env} {h:H} {d n:Nat} {a:Opd} {g:Option (Nat × Bool)} {r:List (Nat × I × Option (Nat × Bool))} {b o:Nat} {l:List V} {ro:Bool} {v:List V} (ha:a.ev e=some (.ptr (some (b,o)))) (hb:h.get b=some (.cells l ro)) (hn:o+n<=l.length)
  (hv:(l.drop o).take n=v) (hd:e.get d=some (.agg v)) (k:jaO e h r=true):jaO e h ((d,.loadN n a,g) :: r)=true:=by
 simp only [jaO,I.read,ha,jdb hb hn,hv,hd,V.same_refl,k,Bool.and_true]
 cases wanted e g<;>rfl
section
variable {cl:Nat->Call} (hcl:Sem cl)
include hcl
end
section
variable {cl:Nat->Call} (hcl:Sem cl) {h0:H} {w s:Nat} {ow:Nat->Nat} {ws:Ws} {now:Int} {tb:Tb} {no:Option (Nat × Nat)}
include hcl
theorem jgg {d:Nat} {fd:Int} (hd:4<=d) (a:WSt h0 w s ow ws now tb no) (o:WsOk ws) :
  ∃ h',cl d (.fn F.jch) [.p w 0,.i fd] h0=some (.agg (jh4 ws fd),h')/\Old h0 h':=by
 obtain ⟨l,a,rfl⟩:=a
 have oA:Old h0 (h0.new jfS):=(Old.refl _).new
 have gA0:(h0.new jfS).get h0.nx=some jfS:=jad _
 have nA:(h0.new jfS).nx=h0.nx+1:=rfl
 refine jai (at_ hcl om rfl rfl rfl ?_)
 refine qo1 ?_
 refine Ops.make (ob:=jfS) rfl rfl ?_
 generalize h0.new jfS=hA at oA gA0 nA ⊢
 rcases jcZ hcl (d:=d-1) (fd:=fd) om (a.old oA) o.uniq with ⟨hno,h1,e1,o1,x1⟩ | ⟨n,k,m,t,rfl,hm,hat,ht,hk,h1,e1,o1,x1⟩
 ·have hS:jh4 (wxs l) fd=jms:=jaD hno
  rw [hS]
  have g1:h1.get h0.nx=some jfS:=by rw [o1.2 _ om,gA0]
  refine qm1 ?_
  refine jcG rfl (jab _) rfl ⟨rfl,?_⟩
  exact ((oA.trans o1).new.set om).set (zp _)
 have hS:jh4 (wxs l) (m:Int)=_:=jaE o.uniq hat (jam ht)
 have hS:jh4 (wxs l) (m:Int)=t.x.ready k:=hS
 rw [hS]
 have WI:=o.ok _ (zb (jam ht))
 have X:=a.wf.ok n t ht
 have hk':1-k=0\/1-k=1:=by omega
 let h2:=(h1.new (.cells [.bool false,.i 0,.i 0] false)).set h1.nx (.cells [.bool true,.i (n:Int),.i (k:Int)] false)
 have n2:h2.nx=h0.nx+3:=by show h1.nx+1=_;omega
 have g2 : ∀ j,j<h0.nx->h2.get j=h0.get j:=fun j hj=>by
  show (H.set _ _ _).get j=_
  rw [jaa om,jac om,o1.2 j om,oA.2 j hj]
 have g20:h2.get h0.nx=some jfS:=by
  show (H.set _ _ _).get _=_
  rw [jaa om,jac om,o1.2 _ om];exact gA0
 have gp:h2.get h1.nx=some (.cells [.bool true,.i (n:Int),.i (k:Int)] false):=jab _
 have y1:h1.nx=h0.nx+2:=by omega
 obtain ⟨C,hC⟩ : ∃ C,C=c15_1:=⟨_,rfl⟩
 simp only [c15_8,c15_7,c15_6,c15_5,c15_4,c15_3,yB,yC,yF]
 rw [<- hC]
 refine qo1 ?_
 refine Ops.callf rfl e1 ?_
 refine qo1 ?_
 refine Ops.make rfl rfl ?_
 refine qx1 ?_
 refine Ops.storeN rfl rfl rfl rfl (jad _) (zr rfl) ?_
 rw [show ((h1.new (.cells [.bool false,.i 0,.i 0] false)).set h1.nx (.cells (jat [.bool false,.i 0,.i 0] 0 [.bool true,.i (n:Int),.i (k:Int)]) false))=h2 from rfl]
 clear_value h2
 clear e1 o1 gA0 nA oA
 have hx:=X.hx
 have lx:=X.lx
 have hx2:h2.get t.wb=some (.cells (t.x.cells t.r0 t.r1 t.wv) false):=by rw [g2 _ lx];exact hx
 have ek:((1:Int)-(k:Int)).toNat=1-k:=by omega
 have hcl17:=Wi.cells_length t.x t.r0 t.r1 t.wv
 rw [y1] at gp ⊢
 refine qx1 ?_
 refine Run.region ?_
 rw [n2]
 refine qx1 ?_
 refine Ops.loadN rfl hx2 om ?_
 rw [Wi.en_cells hk om]
 refine qx1 ?_
 refine Ops.loadN rfl hx2 om ?_
 rw [Wi.en_cells (k:=1-k) hk' om]
 refine Ops.make_at rfl rfl ?_
 refine Ops.make_at rfl rfl ?_
 refine Ops.storeN_chk rfl rfl rfl (En.cells_one _ _) (by rw [jaa om];exact jab _) (zr rfl) ?_ ?_
 ·refine jbq rfl (l:=[.bool true,.i (n:Int),.i (k:Int)]) (ro:=false) (by rw [jaa om,jaa om,jaa om];exact gp) rfl rfl (jc1 rfl (l:=t.x.cells t.r0 t.r1 t.wv) (ro:=false) (by rw [jaa om,jaa om,jaa om];exact hx2) om (Wi.en_cells (k:=1-k) hk' om) rfl jb3)
 refine Ops.storeN rfl rfl rfl (En.cells_one _ _) (by rw [jaa om];exact jab _) (zr rfl) ?_
 have ow7 : ∀ (e:En) (r:Nat),jat [V.i 0,V.i 0,V.ptr none,V.bool false,V.bool false,V.int IntKind.u64 0,V.int IntKind.u64 0] 0 (e.cells r)=e.cells r:=fun e r=>jas _ _ rfl
 rw [ow7,ow7]
 generalize hh:H.set (H.set (H.set (H.set _ _ _) _ _) _ _) _ _=h3
 have z3:h3.nx=h0.nx+5:=by rw [<- hh];show h2.nx+2=_;omega
 have zo:h3.get (h0.nx+3)=some (.cells ((t.x.e k).cells (two t.r0 t.r1 k)) false):=by
  rw [<- hh,jaa om];exact jab _
 have zt:h3.get (h0.nx+3+1)=some (.cells ((t.x.e (1-k)).cells (two t.r0 t.r1 (1-k))) false):=by
  rw [<- hh];exact jab _
 have g3 : ∀ j,j<h0.nx+3->h3.get j=h2.get j:=fun j hj=>by
  rw [<- hh,jaa om,jaa om,jaa om,jaa om];rfl
 have hx3:h3.get t.wb=some (.cells (t.x.cells t.r0 t.r1 t.wv) false):=by rw [g3 _ om,hx2]
 have z0:h3.get h0.nx=some jfS:=by rw [g3 _ om,g20]
 have gp3:h3.get (h0.nx+2)=some (.cells [.bool true,.i (n:Int),.i (k:Int)] false):=by rw [g3 _ om,gp]
 have kk : ∀ j,j<h0.nx->h3.get j=h0.get j:=fun j hj=>by rw [g3 _ om,g2 _ hj]
 clear hh g3 gp hx2 g20 g2 n2
 have zo:h3.get (h0.nx+3+0)=some (.cells ((t.x.e k).cells (two t.r0 t.r1 k)) false):=zo
 have i5:((t.x.e k).cells (two t.r0 t.r1 k))[0+5]?=some (.int .u64 (t.x.e k).inn):=rfl
 have i6:((t.x.e k).cells (two t.r0 t.r1 k))[0+6]?=some (.int .u64 (t.x.e k).out):=rfl
 have f15:=Wi.backlog_cell (x:=t.x) (r0:=t.r0) (r1:=t.r1) (wv:=t.wv) (o:=0+15) rfl
 have f14:=Wi.reset_cell (x:=t.x) (r0:=t.r0) (r1:=t.r1) (wv:=t.wv) (o:=0+14) rfl
 obtain ⟨av,cp,hva,_⟩:=X.wait.1
 have f16:(t.x.cells t.r0 t.r1 t.wv)[0+16]?=some (.slice av t.x.waiting.length cp):=by simp [Wi.cells,En.cells,hva]
 have o3:Old h0 h3:=⟨by omega,kk⟩
 by_cases hbl:0<t.x.backlog
 ·have hR:t.x.ready k=[.bool true,.bool (!t.x.waiting.isEmpty),.bool false,.bool false,.bool false,.int .u64 (t.x.e k).inn,.int .u64 (t.x.e k).out]:=if_pos hbl
  rw [hR]
  have ew:decide (0<((t.x.waiting.length:Nat):Int)) = !t.x.waiting.isEmpty:=by cases t.x.waiting<;>simp
  clear hC hcl17 ek hk' y1
  refine qm1 ?_
  rw [ew]
  refine jcG rfl (jab _) rfl ⟨rfl,?_⟩
  exact (((o3.new.set om).set om).set om)
 ·have hR:t.x.ready k=[.bool true,.bool (t.x.rIn k),.bool (t.x.rOut k),.bool ((t.x.e (1-k)).what == 3),.bool t.x.reset,.int .u64 (t.x.e k).inn,.int .u64 (t.x.e k).out]:=if_neg hbl
  rw [hR]
  have j0:((t.x.e (1-k)).cells (two t.r0 t.r1 (1-k)))[0+0]?=some (.i (t.x.e (1-k)).what):=rfl
  refine qm1 ?_
  refine Ops.store1_chk rfl rfl rfl (by first | exact jab _ | (rw [jab])) (zr rfl) ?_ ?_
  ·exact jbq rfl (l:=t.x.cells t.r0 t.r1 t.wv) (ro:=false) (by rw [jaa om,jaa om,jac om];exact hx3) f14 rfl jb3
  refine qs1 ?_
  generalize hh:H.set (H.set (H.set _ _ _) _ _) _ _=h5
  have y5:h5.nx=h3.nx+1:=by rw [<- hh];rfl
  have g5 : ∀ j,j<h3.nx->h5.get j=h3.get j:=fun j hj=>by
   rw [<- hh,jaa om,jaa om,jaa om,jac hj]
  have ehup:decide ((t.x.e (1-k)).what=3)=((t.x.e (1-k)).what == 3):=rfl
  have z5:h5.get h3.nx=some (.cells [.bool true,.bool false,.bool false,.bool ((t.x.e (1-k)).what == 3),.bool t.x.reset,.int .u64 (t.x.e k).inn,.int .u64 (t.x.e k).out] false):=by
   rw [<- hh,jab,<- ehup];rfl
  clear hh
  have o5:Old h0 h5:=o3.trans ⟨by omega,g5⟩
  have lr : ∀ i,i=0\/i=1 -> ∀ q,(t.x.e i).ring=some q->ja2 h5 (t.r i) (t.b i) q t.x.cap/\t.r i<h0.nx/\t.b i<h0.nx:=fun i hi q hq=>by
   obtain ⟨p1,_,_,p4,p5⟩:=X.ring i hi q hq
   exact ⟨p1.keep (o5.2 _ p4) (o5.2 _ p5),p4,p5⟩
  have q4:h5.get h0.nx=some jfS:=by rw [g5 _ om,z0]
  have q5:h5.get (h0.nx+2)=some (.cells [.bool true,.i (n:Int),.i (k:Int)] false):=by rw [g5 _ om,gp3]
  have q8:h5.get (h0.nx+3+0)=some (.cells ((t.x.e k).cells (two t.r0 t.r1 k)) false):=by rw [g5 _ om,zo]
  have q9:h5.get (h0.nx+3+1)=some (.cells ((t.x.e (1-k)).cells (two t.r0 t.r1 (1-k))) false):=by rw [g5 _ om,zt]
  have qx:h5.get t.wb=some (t.x.obj t.r0 t.r1 t.wv):=by rw [g5 _ om,hx3];rfl
  have hpair:=WI.pair k hk
  rw [hC]
  refine Run.fin_mono (wr_in hcl (d:=d) (bo:=t.b k) (n:=n) (hup:=(t.x.e (1-k)).what == 3) om hk q4 q5 q8 q9 z5 qx om om om om rfl (fun q hq=>(lr k hk q hq).1) fun hwr=>?_) fun v h' ⟨p1,p2⟩=>⟨p1,?_⟩
  ·obtain ⟨q,hq⟩:=Option.ne_none_iff_exists'.1 (hpair.1 hwr)
   obtain ⟨r1,r2,r3⟩:=lr (1-k) hk' q hq
   exact ⟨q,t.b (1-k),hq,r1,by show t.r (1-k)≠_;omega,by omega⟩
  ·have hn5:=o5.1
   exact ⟨zz hn5 p2.nx,fun j hj=>by rw [p2.get j om (by rintro (e | e)<;>omega),o5.2 j hj]⟩
end
structure Rdy where
 op:Bool
 inn:Bool
 out:Bool
 hup:Bool
 err:Bool
 rd:Int
 wr:Int
def Rdy.cells (r:Rdy):List V:=[.bool r.op,.bool r.inn,.bool r.out,.bool r.hup,.bool r.err,.int .u64 r.rd,.int .u64 r.wr]
def Rdy.no:Rdy:=⟨false,false,false,false,false,0,0⟩
def Wi.rdy (x:Wi) (k:Nat):Rdy :=
 if 0<x.backlog then ⟨true,!x.waiting.isEmpty,false,false,false,(x.e k).inn,(x.e k).out⟩
 else ⟨true,x.rIn k,x.rOut k,(x.e (1-k)).what == 3,x.reset,(x.e k).inn,(x.e k).out⟩
noncomputable def rdyS (ws:Ws) (fd:Int):Rdy:=jcb ws fd Rdy.no fun _ k x=>x.rdy k
theorem jic (ws:Ws) (fd:Int):jh4 ws fd=(rdyS ws fd).cells:=by
 unfold jh4 rdyS jcb
 split
 ·rfl
 ·split
  ·rfl
  ·show Wi.ready _ _=(Wi.rdy _ _).cells
   unfold Wi.ready Wi.rdy
   split<;>rfl
def jgC (ev:Int):Prop:=ev=0\/ev=1\/ev=4\/ev=5
instance (ev:Int):Decidable (jgC ev):=inferInstanceAs (Decidable (_\/_))
def b2i (b:Bool) (n:Int):Int:=if b then n else 0
def je4 (r:Rdy) (fd ev:Int):Int :=
 if fd<0 then 0 else if r.op=false then 32 else b2i r.hup 16+b2i (r.inn&&decide (ev=1\/ev=5)) 1+b2i (r.out&&decide (ev=4\/ev=5)) 4+b2i r.err 8
theorem jih (r:Rdy) (fd ev:Int):0<=je4 r fd ev/\je4 r fd ev<=63:=by
 unfold je4 b2i
 repeat' split
 all_goals omega
theorem wrap_zero {n:Nat} (hn:n<2 ^ 64) (h:IntKind.i64.wrap (n:Int)=0):n=0:=by
 have e:IntKind.wrap .i64 n=if (n:Int)%18446744073709551616>=9223372036854775808 then (n:Int)%18446744073709551616-18446744073709551616 else (n:Int)%18446744073709551616:=by
  unfold IntKind.wrap
  simp [IntKind.bits,IntKind.signed]
 rw [e] at h
 split at h<;>omega
theorem jlF (x:BitVec 64) (h:x &&& ~~~(5#64)=0#64):x=0#64\/x=1#64\/x=4#64\/x=5#64:=by
 have h5:x &&& 5#64=x:=by
  apply BitVec.eq_of_getElem_eq
  intro i hi
  have:=congrArg (fun y:BitVec 64=>y[i]) h
  simp only [BitVec.getElem_and,BitVec.getElem_not,BitVec.getElem_zero] at this ⊢
  revert this
  cases x[i]<;>cases (5#64)[i]<;>simp
 have hle:x.toNat<=5:=by
  have e:(x &&& 5#64).toNat=x.toNat:=by rw [h5]
  rw [BitVec.toNat_and] at e
  have:=Nat.and_le_right (n:=x.toNat) (m:=(5#64).toNat)
  rw [e] at this
  exact this
 have hx:x=BitVec.ofNat 64 x.toNat:=by simp
 generalize x.toNat=n at hle hx
 subst hx
 rcases (by omega:n=0\/n=1\/n=2\/n=3\/n=4\/n=5) with rfl | rfl | rfl | rfl | rfl | rfl
 ·exact .inl rfl
 ·exact .inr (.inl rfl)
 ·exact absurd h (by decide)
 ·exact absurd h (by decide)
 ·exact .inr (.inr (.inl rfl))
 ·exact .inr (.inr (.inr rfl))
theorem jk4 {ev:Int} (h0 : -9223372036854775808<=ev) (h1:ev<=9223372036854775807):(IntKind.i64.wrap (BitVec.ofInt 64 ev &&& ~~~(BitVec.ofInt 64 5)).toNat=0)↔jgC ev:=by
 constructor
 ·intro h
  have h2:=wrap_zero (BitVec.isLt _) h
  have h3:BitVec.ofInt 64 ev &&& ~~~(5#64)=0#64:=BitVec.eq_of_toNat_eq (by simpa using h2)
  have hi:(BitVec.ofInt 64 ev).toInt=ev:=by
   rw [BitVec.toInt_ofInt]
   unfold Int.bmod
   simp
   split<;>omega
  have key : ∀ n:Int,BitVec.ofInt 64 ev=BitVec.ofInt 64 n->(BitVec.ofInt 64 n).toInt=n->ev=n:=fun n e e2=>by rw [<- hi,e,e2]
  rcases jlF _ h3 with e | e | e | e
  ·exact .inl (key 0 e rfl)
  ·exact .inr (.inl (key 1 e rfl))
  ·exact .inr (.inr (.inl (key 4 e rfl)))
  ·exact .inr (.inr (.inr (key 5 e rfl)))
 ·rintro (rfl | rfl | rfl | rfl)<;>rfl
theorem jh8 : ∀ {l:List (Int × Int)} {i:Nat} {p:Int × Int},l[i]?=some p->((jce l).drop (i*2)).take 2=[.i p.1,.i p.2]
 | [],i,p,h=>by simp at h
 | x :: l,0,p,h=>by
  simp at h;subst h;rfl
 | x :: l,i+1,p,h=>by
  have e:jce (x :: l) = .i x.1 :: .i x.2 :: jce l:=rfl
  rw [e,show (i+1)*2=i*2+1+1 by omega]
  exact jh8 (l:=l) (by simpa using h)
theorem jh7 : ∀ l:List (Int × Int),(jce l).length=l.length*2
 | []=>rfl
 | x :: l=>by
  have:=jh7 l
  have e:jce (x :: l) = .i x.1 :: .i x.2 :: jce l:=rfl
  rw [e];simp;omega
section
variable {call:Call} {fuel base:Nat} {K:List Fr} {e:Env} {h:H} {Q:Post} {ix:Nat} {dst at_:Option Nat} {ops:List Ins} {keep:List Nat}
end
section
variable {cl:Nat->Call} (hcl:Sem cl) {h:H} {p w s rw:Nat} {ow:Nat->Nat} {ro dat:Nat->Prop} {st:St} {a n t:Int} {dv vd:V} {D:List UInt8}
include hcl
theorem mo_18 {d i:Nat} (hd:15<=d) (b:BB h p w s rw ow ro dat st st) (so:StOk st i) (hi:i<=200) :
  jcY cl d F.jag h p w s rw ow ro dat [.p p 0,.agg (opV 18 a n t dv),vd] (doS 18 a n t D st):=by
 have o0:Old h (h.new (.cells (opV 18 a n t dv) false)):=(Old.refl h).new
 have b0:=b.old o0
 have g0:(h.new (.cells (opV 18 a n t dv) false)).get h.nx=some (.cells (opV 18 a n t dv) false):=jad _
 have x0:h.nx<(h.new (.cells (opV 18 a n t dv) false)).nx:=by simp
 have z0:ow h.nx=0:=b.W.top (zp _)
 have hp0:=b0.hp
 have lp:=b.lp
 have hok:st.tb.ok 1000000:=so.tb.mono om
 have hS:doS 18 a n t D st = { st with ws:=jap st.ws (st.tb.take.sum 32) (noI st.no) (siI st.no),tb:=st.tb.take } := by simp [doS]
 rw [hS]
 obtain ⟨v1,h1,e1,row1,W1,t1⟩:=jkM hcl (d:=d-1) om b0.W so.nt (jlT hok om)
 have b1:=b0.wc (a' := { st with ws:=jap st.ws (st.tb.take.sum 32) (noI st.no) (siI st.no),tb:=st.tb.take }) W1 t1
 have g1:=b0.off_w t1 x0 z0 g0
 have hp1:=b1.hp
 obtain ⟨v2,h2,e2,b2,f2,row2⟩:=b1.rc hcl (d:=d-1) (f:=F.jaL) (args:=[.p rw 0]) (r' := { st with ws:=jap st.ws (st.tb.take.sum 32) (noI st.no) (siI st.no),tb:=st.tb.take })
  (P:=fun g v=>Row h1.nx g 2 v (jca st.tb.pd 31).length (jce (jca st.tb.pd 31))) (fun _ _ _ m r=>Row.mono m r) (fun g q l ga gn hq wR hl=>by
  have oR:WsOk (l.map RX.x):=by rw [hl];exact so.K.ok
  obtain ⟨v2,l',g',k1,k0,k2,k3,k4⟩:=jkY hcl (d:=d-1) om wR oR (by rw [hl];exact so.nt) hok
  rw [hl,<- jj7,<- jmL] at k3
  rw [<- jj7] at k2
  rw [gn] at k0
  exact ⟨_,q,l',g',k1,k2,k3,k4,.inl rfl,k0⟩)
 have hcs:(st.tb.cnts 32).map (fun p=>((p.1:Int),p.2))=jca st.tb.pd 31:=jjt (fun k=>(hok k).1) 31
 have row1:Row (h.new (.cells (opV 18 a n t dv) false)).nx h1 2 v1 (jca st.tb.pd 31).length (jce (jca st.tb.pd 31)):=by
  rw [jhb,hcs] at row1
  rw [<- hcs,List.length_map];rw [hcs];exact row1
 have row3:Row (h.new (.cells (opV 18 a n t dv) false)).nx h2 2 v1 (jca st.tb.pd 31).length (jce (jca st.tb.pd 31)):=row1.keep f2.ch.nx fun z hz=>f2.ch.get z (row1.at_ge hz).2 fun e=>e.elim (fun e=>e (b0.W.top (row1.at_ge hz).1)) fun e=>by
  have:=b0.ro_lt (.inl e)
  have:=(row1.at_ge hz).1
  omega
 have hlen:=jgy st.tb.pd 31
 generalize jca st.tb.pd 31=L at row3 row2 hlen
 clear row1 hcs hok so hS
 obtain ⟨c1,⟨a1,rfl⟩,ix1⟩:=row3.shape
 obtain ⟨c2,⟨a2,rfl⟩,ix2⟩:=row2.shape
 suffices q : ∃ v' h',cl d (.fn F.jag) [.p p 0,.agg (opV 18 a n t dv),vd] h=some (v',h')/\(v' = .bool true/\h'=h2) by
  obtain ⟨_,_,e,rfl,rfl⟩:=q
  exact ⟨_,_,_,e,b2,Fm.two o0 t1 f2⟩
 refine at_ hcl om rfl rfl rfl ?_
 clear b b0 b1 b2 f2 t1 W1 row2 row3
 refine qm1 ?_
 refine Run.loop (fun m e g=>∃ k:Nat,m=L.length-k/\k<=L.length/\g=h2/\e=[(24,.slice a1 L.length c1),(25,.slice a2 L.length c2),(267,.i (L.length:Int)),(268,.i (k:Int))])
  (k:=L.length) Ze ⟨0,rfl,by omega,rfl,rfl⟩ ?_
 rintro _ _ g ⟨k,rfl,hk4,rfl,rfl⟩ n2 ih2
 by_cases hlt2:(k:Int)<L.length
 case neg=>
  clear ih2 ix1 ix2
  refine qm1 ?_
  exact ⟨rfl,rfl⟩
 obtain ⟨q1,y1,y2,y3,y4⟩:=ix1 k om
 cases y3
 obtain ⟨q2,z1,z2,z3,z4⟩:=ix2 k om
 cases z3
 have hp2:=za (show k<L.length by omega)
 generalize L[k]=pr at hp2
 have hg:=jh8 hp2
 have hl2:=jh7 L
 have hk1:(k:Int)+1=((k+1:Nat):Int):=by omega
 have hg':((jce L).drop (0+(k:Int).toNat*2)).take 2=[.i pr.1,.i pr.2]:=by rw [<- hg,zu,Nat.zero_add]
 clear ix1 ix2 e1 e2
 refine qm1 ?_
 refine Ops.loadN rfl y4 om ?_
 rw [hg']
 refine qm1 ?_
 refine Ops.loadN rfl z4 om ?_
 rw [hg']
 repeat' (first|refine qmy ?_|refine zbf rfl (fun _=>?_) fun _=>?_|refine zbg rfl (fun _=>?_) fun _=>?_|refine zbh rfl (fun _=>?_) fun _=>?_|refine zbm rfl (fun _=>?_) fun _=>?_|refine zbn rfl (fun _=>?_) fun _=>?_)
 ·rename_i hx
  simp at hx
 rw [hk1]
 exact ih2 (L.length-(k+1)) om _ _ ⟨k+1,rfl,by omega,rfl,rfl⟩
end
theorem jhB {F:Nat->Bool} : ∀ (q m:Nat),m+q=64->(jay F m).length<(jay F 64).length -> ∃ m',m<=m'/\m'<64/\F m'=true/\(∀ j,m<=j->j<m'->F j=false)/\jay F m'=jay F m
 | 0,m,h,hl=>by
  obtain rfl:m=64:=by omega
  omega
 | q+1,m,h,hl=>by
  cases hF:F m with
  | true=>exact ⟨m,zp _,by omega,hF,fun j h1 h2=>by omega,rfl⟩
  | false=>
   have e:jay F (m+1)=jay F m:=by simp [jay,hF]
   obtain ⟨m',h1,h2,h3,h4,h5⟩:=jhB q (m+1) om (by rw [e];exact hl)
   refine ⟨m',by omega,h2,h3,fun j h6 h7=>?_,by rw [h5,e]⟩
   by_cases hj:j=m
   ·rw [hj,hF]
   ·exact h4 j om h7
theorem jgF {F:Nat->Bool} {m:Nat} : ∀ {n:Nat},m<=n -> ∃ r,jay F n=jay F m++r
 | 0,h=>by
  obtain rfl:m=0:=by omega
  exact ⟨[],by simp⟩
 | n+1,h=>by
  by_cases e:m=n+1
  ·subst e;exact ⟨[],by simp⟩
  ·obtain ⟨r,hr⟩:=jgF (F:=F) (m:=m) (n:=n) om
   exact ⟨r++if F n then [(n:Int)] else [],by rw [jay,hr,List.append_assoc]⟩
theorem listS_at {F:Nat->Bool} {m:Nat} (hm:m<64) (hF:F m=true):(jay F 64)[(jay F m).length]?=some (m:Int):=by
 obtain ⟨r,hr⟩:=jgF (F:=F) (m:=m+1) (n:=64) om
 rw [hr,jay,if_pos hF,List.append_assoc,List.getElem?_append_right (zp _)]
 simp
def jmu (f g:Nat->Bool) (m:Nat):Int:=(if f m then 2 else 0)+(if g m then 4 else 0)
def askS (f g:Nat->Bool) (top:Int):Nat->Bool:=jcL (orS f g) top
section
variable {cl:Nat->Call} (hcl:Sem cl) {f g:Nat->Bool} {h:H}
include hcl
theorem jkr {d:Nat} {top:Int} (hd:1<=d):cl d (.fn F.sel_asked) [.i top,.agg (setV f),.agg (setV g)] h=some (.clo F.je1 [.p (h.nx+1) 0,.p (h.nx+2) 0,.p h.nx 0],((h.new (.cells [.i top] false)).new (.cells (setV f) false)).new (.cells (setV g) false)):=by
 refine jaj (at_ hcl om rfl rfl rfl ?_)
 refine qm1 ?_
 exact ⟨rfl,rfl⟩
end
def OldN (N:Nat) (a b:H):Prop:=a.nx<=b.nx /\ ∀ j,N<=j->j<a.nx->b.get j=a.get j
theorem OldN.refl (N:Nat) (a:H):OldN N a a:=⟨zp _,fun _ _ _=>rfl⟩
theorem OldN.trans {N:Nat} {a b c:H} (x:OldN N a b) (y:OldN N b c):OldN N a c:=⟨zz x.1 y.1,fun j h1 h2=>by rw [y.2 j h1 (zq h2 x.1),x.2 j h1 h2]⟩
theorem Old.toN {a b:H} (N:Nat) (x:Old a b):OldN N a b:=⟨x.1,fun j _ h2=>x.2 j h2⟩
section
variable {cl:Nat->Call} (hcl:Sem cl) {f g:Nat->Bool} {h:H}
include hcl
theorem jhy {d L c1 c2 c3:Nat} {top:Int} (hd:8<=d) (I:Nat->H->Prop) (J:H->Prop)
  (hc : ∀ m e,I m e->e.get c1=some (.cells (setV f) false)/\e.get c2=some (.cells (setV g) false)/\e.get c3=some (.cells [.i top] false)/\c1<e.nx/\c2<e.nx/\c3<e.nx)
  (hI : ∀ m e e',I m e->Old e e'->I m e')
  (hskip : ∀ m e,m<64->askS f g top m=false->I m e->I (m+1) e)
  (hy : ∀ m e,m<64->askS f g top m=true->I m e -> ∃ (b:Bool) (e':H),cl (d-1) (.yld L) [.i (m:Int),.i (jmu f g m)] e=some (.bool b,e')/\(b=true->I (m+1) e'/\OldN h.nx e e')/\(b=false->J e'))
  (h0:I 0 h) : ∃ v h',cl d (.fn F.je1) [.yld L,.p c1 0,.p c2 0,.p c3 0] h=some (v,h')/\(I 64 h'\/J h'):=by
 obtain ⟨a1,a2,a3,l1,l2,l3⟩:=hc _ _ h0
 obtain ⟨h1,e1,o1⟩:=jn5 hcl (d:=d-1) (f:=f) (g:=g) (h:=h) om
 obtain ⟨h2,e2,o2⟩:=fs_below hcl (d:=d-1) (f:=orS f g) (n:=top) (h:=h1) om
 obtain ⟨v,h3,e3,row,o3⟩:=jm5 hcl (d:=d-1) (f:=jcL (orS f g) top) (h:=h2) om
 have a3':h1.get c3=some (.cells [.i top] false):=by rw [o1.2 _ l3,a3]
 obtain ⟨cp,⟨av,rfl⟩,hix⟩:=row.shape
 have o13:Old h h3:=(o1.trans o2).trans o3
 have I3:=hI _ _ _ h0 o13
 have hll:=jgG (askS f g top) 64
 replace row:Row h2.nx h3 1 (.slice av (jay (askS f g top) 64).length cp) (jay (askS f g top) 64).length (ints (jay (askS f g top) 64)):=row
 replace e3:cl (d-1) (.fn F.jfd) [.agg (setV (jcL (orS f g) top))] h2=some (.slice av (jay (askS f g top) 64).length cp,h3):=e3
 replace hix : ∀ i,i<(jay (askS f g top) 64).length -> ∃ q,h2.nx<=q/\q<h3.nx/\V.slice av (jay (askS f g top) 64).length cp = .slice (some (q,0)) (jay (askS f g top) 64).length cp/\h3.get q=some (.cells (ints (jay (askS f g top) 64)) false):=hix
 have hat : ∀ m,m<64->askS f g top m=true->(jay (askS f g top) 64)[(jay (askS f g top) m).length]?=some (m:Int):=fun m hm hF=>listS_at hm hF
 have hpre : ∀ m,m<=64->(jay (askS f g top) m).length<=(jay (askS f g top) 64).length:=fun m hm=>by
  obtain ⟨r,hr⟩:=jgF (F:=askS f g top) hm
  rw [hr,ze];omega
 have hnext : ∀ m,m<=64->(jay (askS f g top) m).length<(jay (askS f g top) 64).length -> ∃ m',m<=m'/\m'<64/\askS f g top m'=true/\(∀ j,m<=j->j<m'->askS f g top j=false)/\jay (askS f g top) m'=jay (askS f g top) m:=fun m hm hl=>jhB (64-m) m om hl
 generalize jay (askS f g top) 64=A at *
 refine at_ hcl om rfl rfl rfl ?_
 refine qx1 ?_
 refine Ops.loadN rfl a1 (zp _) ?_
 rw [show List.take 2 (List.drop 0 (setV f))=setV f from rfl]
 refine qx1 ?_
 refine Ops.loadN rfl a2 (zp _) ?_
 rw [show List.take 2 (List.drop 0 (setV g))=setV g from rfl]
 refine qx1 ?_
 refine Ops.callf_chk rfl e1 (jbq rfl a3' rfl rfl jb3) ?_
 refine qx1 ?_
 refine Run.loop (fun k e gg=>∃ m:Nat,k=A.length-(jay (askS f g top) m).length/\m<=64/\e=[(0,.yld L),(1,.p c1 0),(2,.p c2 0),(13,.slice av A.length cp),(14,.i (A.length:Int)),(15,.i ((jay (askS f g top) m).length:Int))]/\I m gg/\OldN h.nx h3 gg)
  (k:=A.length) Ze ⟨0,rfl,by omega,rfl,I3,OldN.refl _ _⟩ ?_
 clear e1 e2 e3 a1 a2 a3 a3' l1 l2 l3 h0 I3
 rintro _ _ gg ⟨m0,rfl,hm0,rfl,hIm,og⟩ n2 ih
 by_cases hlt:((jay (askS f g top) m0).length:Int)<A.length
 case neg=>
  have fin : ∀ q m,m+q=64->I m gg->(jay (askS f g top) m).length=A.length->I 64 gg:=by
   intro q
   induction q with
   | zero=>intro m hm hI' _;obtain rfl:m=64:=om;exact hI'
   | succ q ihq=>
    intro m hm hI' hl
    have hf:askS f g top m=false:=by
     cases hF:askS f g top m with
     | false=>rfl
     | true=>
      have h1:=hat m om hF
      rw [zc om] at h1;cases h1
    exact ihq (m+1) om (hskip m _ om hf hI') (by simp [jay,hf];exact hl)
  have hpre0:=hpre m0 hm0
  have hfin:=fin (64-m0) m0 om hIm om
  clear ih hix hc hI hskip hy fin hat hpre hnext hIm
  refine qx1 ?_
  exact .inl hfin
 obtain ⟨m,hm1,hm2,hF,hall,hls⟩:=hnext m0 hm0 om
 have hIm:I m gg:=by
  have : ∀ q,m0+q<=m->I (m0+q) gg:=by
   intro q
   induction q with
   | zero=>intro _;exact hIm
   | succ q ihq=>intro hq;exact hskip (m0+q) _ om (hall _ om om) (ihq om)
  have:=this (m-m0) om
  rwa [show m0+(m-m0)=m by omega] at this
 have hat:=hat m hm2 hF
 clear hpre hnext
 rw [<- hls] at hlt ⊢
 rw [<- hls] at ih
 obtain ⟨q,y1,y2,y3,y4⟩:=hix (jay (askS f g top) m).length om
 cases y3
 have hcell:(ints A)[0+((jay (askS f g top) m).length:Int).toNat*1]?=some (.i (m:Int)):=by
  rw [show 0+((jay (askS f g top) m).length:Int).toNat*1=(jay (askS f g top) m).length by omega];simp [hat]
 have hqg:gg.get q=some (.cells (ints A) false):=by rw [og.2 _ (by have:=o1.1;have:=o2.1;omega) y2,y4]
 obtain ⟨b1,b2,b3,m1,m2,m3⟩:=hc _ _ hIm
 have hfit:decide (fitS (m:Int))=true:=decide_eq_true ⟨by omega,by omega⟩
 have eh1:=jm3 hcl (d:=d-1) (f:=f) (fd:=(m:Int)) (h:=gg) om
 rw [hfit,Bool.true_and,zu] at eh1
 have oA:Old gg (gg.new (.cells (setV f) false)):=(Old.refl gg).new
 have eh2:=jm3 hcl (d:=d-1) (f:=g) (fd:=(m:Int)) (h:=gg.new (.cells (setV f) false)) om
 rw [hfit,Bool.true_and,zu] at eh2
 have b2':(gg.new (.cells (setV f) false)).get c2=some (.cells (setV g) false):=by rw [jac m2,b2]
 have oB:Old gg ((gg.new (.cells (setV f) false)).new (.cells (setV g) false)):=oA.new
 obtain ⟨bb,g',ey,q1,q2⟩:=hy m _ hm2 hF (hI _ _ _ hIm oB)
 have hl1:(((jay (askS f g top) m).length:Int)+1)=((jay (askS f g top) (m+1)).length:Int):=by simp [jay,hF]
 have hend:bb=true->End (cl (d-1)) fuel [.loop [0,1,2,13,14,15] (.seq (.region 0 [.mk4 0 (some 16) (.bin .lss (.t 15) (.t 14)) none] [0,1,2,13,14,15,16]) (.seq (.cond (.t 16) .skip (.exit 0)) c190_2)) n2,.block 0] .normal
   [(0,.yld L),(1,.p c1 0),(2,.p c2 0),(13,.slice (some (q,0)) A.length cp),(14,.i (A.length:Int)),(15,.i (((jay (askS f g top) m).length:Int)+1))] g' (Fin c190.res fun v' h'=>I 64 h'\/J h'):=by
  intro hb
  rw [hl1]
  have hlt2:(jay (askS f g top) (m+1)).length=(jay (askS f g top) m).length+1:=by simp [jay,hF]
  exact ih (A.length-(jay (askS f g top) (m+1)).length) om _ _ ⟨m+1,rfl,by omega,rfl,(q1 hb).1,(og.trans (oB.toN _)).trans (q1 hb).2⟩
 clear hc hI hskip hy ih hix hall hls hat hIm hm1 hm2 hF o1 o2 o3 o13 row
 clear oB oA b3 m1 m2 m3 og y1 y2 y4
 generalize A.length=N at *
 generalize (jay (askS f g top) m).length=x at *
 generalize ints A=xs at *
 cases hf:f m<;>cases hg:g m<;>rw [hf] at eh1<;>rw [hg] at eh2<;>simp only [jmu,hf,hg,Bool.false_eq_true,if_true,if_false,reduceIte] at ey
 all_goals
  repeat' (first|refine qxy ?_|refine zbf rfl (fun _=>?_) fun _=>?_|refine zbg rfl (fun _=>?_) fun _=>?_|refine zbh rfl (fun _=>?_) fun _=>?_|refine zbm rfl (fun _=>?_) fun _=>?_|refine zbn rfl (fun _=>?_) fun _=>?_)
  refine Ops.loadN rfl b1 (zp _) ?_
  rw [show List.take 2 (List.drop 0 (setV f))=setV f from rfl]
  repeat' (first|refine qxy ?_|refine zbf rfl (fun _=>?_) fun _=>?_|refine zbg rfl (fun _=>?_) fun _=>?_|refine zbh rfl (fun _=>?_) fun _=>?_|refine zbm rfl (fun _=>?_) fun _=>?_|refine zbn rfl (fun _=>?_) fun _=>?_)
  refine Ops.loadN rfl b2' (zp _) ?_
  rw [show List.take 2 (List.drop 0 (setV g))=setV g from rfl]
  repeat' (first|refine qxy ?_|refine zbf rfl (fun _=>?_) fun _=>?_|refine zbg rfl (fun _=>?_) fun _=>?_|refine zbh rfl (fun _=>?_) fun _=>?_|refine zbm rfl (fun _=>?_) fun _=>?_|refine zbn rfl (fun _=>?_) fun _=>?_)
  refine Ops.yield rfl rfl ey ?_
  cases bb
  ·repeat' (first|refine qxy ?_|refine zbf rfl (fun _=>?_) fun _=>?_|refine zbg rfl (fun _=>?_) fun _=>?_|refine zbh rfl (fun _=>?_) fun _=>?_|refine zbm rfl (fun _=>?_) fun _=>?_|refine zbn rfl (fun _=>?_) fun _=>?_)
   exact .inr (q2 rfl)
  ·repeat' (first|refine qxy ?_|refine zbf rfl (fun _=>?_) fun _=>?_|refine zbg rfl (fun _=>?_) fun _=>?_|refine zbh rfl (fun _=>?_) fun _=>?_|refine zbm rfl (fun _=>?_) fun _=>?_|refine zbn rfl (fun _=>?_) fun _=>?_)
   exact hend rfl
end
def VP (h:H) (v:V) (l:List (Int × Int)):Prop := ∃ a c,v = .slice a l.length c/\(l≠[] -> ∃ b o cs ro,a=some (b,o)/\b<h.nx/\h.get b=some (.cells cs ro)/\o+l.length*2<=cs.length /\ ∀ (i:Nat) (p:Int × Int),l[i]?=some p->(cs.drop (o+i*2)).take 2=[.i p.1,.i p.2])
theorem VP.keep {h h':H} {v:V} {l:List (Int × Int)} (a:VP h v l) (o:Old h h'):VP h' v l:=by
 obtain ⟨a,c,rfl,g⟩:=a
 refine ⟨a,c,rfl,fun hl=>?_⟩
 obtain ⟨b,o',cs,ro,rfl,h1,h2,h3⟩:=g hl
 exact ⟨b,o',cs,ro,rfl,zq h1 o.1,by rw [o.2 _ h1,h2],h3⟩
theorem VP.get {h:H} {a:Option (Nat × Nat)} {c:Cap} {l:List (Int × Int)} (v:VP h (.slice a l.length c) l) {i:Nat} {p:Int × Int} (hi:l[i]?=some p) :
  ∃ b o cs ro,a=some (b,o)/\b<h.nx/\h.get b=some (.cells cs ro)/\o+i*2+2<=cs.length/\(cs.drop (o+i*2)).take 2=[.i p.1,.i p.2]:=by
 obtain ⟨a',c',e,g⟩:=v
 cases e
 have hl:l≠[]:=by rintro rfl;simp at hi
 have hlt:i<l.length:=by
  rcases zw i l.length with h | h
  ·exact h
  ·rw [zc h] at hi;cases hi
 obtain ⟨b,o,cs,ro,rfl,h1,h2,h3,h4⟩:=g hl
 exact ⟨b,o,cs,ro,rfl,h1,h2,by omega,h4 i p hi⟩
def jnv (l:List (Int × Int)):Prop := ∀ p∈l,(-9223372036854775808<=p.1/\p.1<=9223372036854775807)/\(-9223372036854775808<=p.2/\p.2<=9223372036854775807)
def mayP (l:List (Int × Int)):Prop:=l.length<=96 /\ ∀ p∈l,jgC p.2
instance (l:List (Int × Int)):Decidable (mayP l):=inferInstanceAs (Decidable (_/\_))
section
variable {cl:Nat->Call} (hcl:Sem cl) {h:H} {w s:Nat} {ow:Nat->Nat} {ws:Ws} {now:Int} {tb:Tb} {no:Option (Nat × Nat)}
include hcl
theorem jmZ {d:Nat} {v:V} {l:List (Int × Int)} (hd:1<=d) (hv:VP h v l) (hf:jnv l) (hl:l.length<=100000) :
  ∃ h',cl d (.fn F.pol_may) [.p w 0,v] h=some (.i (if mayP l then 0 else 2),h')/\Old h h':=by
 obtain ⟨a,c,rfl,_⟩:=id hv
 refine jai (at_ hcl om rfl rfl rfl ?_)
 by_cases h96:96<l.length
 ·have hn : ¬ mayP l:=fun e=>by have:=e.1;omega
  have h96':(96:Int)<(l.length:Int):=by omega
  rw [if_neg hn]
  clear hn hf
  refine qx1 ?_
  exact ⟨rfl,Old.refl _⟩
 have h96' : ¬ (96:Int)<(l.length:Int):=by omega
 refine qx1 ?_
 refine Run.loop (fun m e g=>∃ i:Nat,m=l.length-i/\i<=l.length/\e=[(12,.slice a l.length c),(13,.i (l.length:Int)),(14,.i (i:Int))]/\Old h g /\ ∀ j p,j<i->l[j]?=some p->jgC p.2)
  (k:=l.length) Ze ⟨0,rfl,by omega,rfl,Old.refl _,fun j p hj=>by omega⟩ ?_
 rintro _ _ g ⟨i,rfl,hi,rfl,og,hall⟩ n2 ih
 by_cases hlt:(i:Int)<l.length
 case neg=>
  have hm:mayP l:=⟨by omega,fun p hp=>by
   obtain ⟨j,hj,e⟩:=List.getElem_of_mem hp
   exact hall j p om (by rw [za hj,e])⟩
  rw [if_pos hm]
  clear ih hall hf hm
  refine qx1 ?_
  exact ⟨rfl,og⟩
 have hp:=za (show i<l.length by omega)
 have hpm:=zb hp
 generalize l[i]=p at hp hpm
 obtain ⟨b,o,cs,ro,rfl,hb,hcs,ho,hg⟩:=(hv.keep og).get hp
 have hfp:=hf p hpm
 have hg':(cs.drop (o+(i:Int).toNat*2)).take 2=[.i p.1,.i p.2]:=by rw [zu];exact hg
 have hi1:(i:Int)+1=((i+1:Nat):Int):=by omega
 by_cases hm:jgC p.2
 ·have hz:=(jk4 hfp.2.1 hfp.2.2).2 hm
  clear hf
  refine qx1 ?_
  refine Ops.loadN rfl hcs om ?_
  rw [hg']
  repeat' (first|refine qmy ?_|refine zbf rfl (fun _=>?_) fun _=>?_|refine zbg rfl (fun _=>?_) fun _=>?_|refine zbh rfl (fun _=>?_) fun _=>?_|refine zbm rfl (fun _=>?_) fun _=>?_|refine zbn rfl (fun _=>?_) fun _=>?_)
  ·rename_i hx
   exact absurd hz hx
  rw [hi1]
  refine ih (l.length-(i+1)) om _ _ ⟨i+1,rfl,by omega,rfl,og.new.set og.1,fun j q hj hq=>?_⟩
  rcases zw j i with h1 | h1
  ·exact hall j q h1 hq
  ·obtain rfl:j=i:=by omega
   rw [hp] at hq;cases hq;exact hm
 ·have hz : ¬ IntKind.i64.wrap (BitVec.ofInt 64 p.2 &&& ~~~(BitVec.ofInt 64 5)).toNat=0:=fun e=>hm ((jk4 hfp.2.1 hfp.2.2).1 e)
  have hn : ¬ mayP l:=fun e=>hm (e.2 p hpm)
  rw [if_neg hn]
  clear hf hn ih hall
  refine qx1 ?_
  refine Ops.loadN rfl hcs om ?_
  rw [hg']
  refine qm1 ?_
  exact ⟨rfl,og.new.set og.1⟩
end
section
variable {cl:Nat->Call} (hcl:Sem cl) {h:H} {w s:Nat} {ow:Nat->Nat} {ws:Ws} {now:Int} {tb:Tb} {no:Option (Nat × Nat)}
include hcl
theorem pl_is {d:Nat} {fd ev:Int} (hd:6<=d) (a:WSt h w s ow ws now tb no) (o:WsOk ws) (hm:jgC ev) :
  ∃ h',cl d (.fn F.pol_is) [.p w 0,.agg [.i fd,.i ev]] h=some (.i (je4 (rdyS ws fd) fd ev),h')/\Old h h':=by
 have o0:Old h (h.new (.cells [.i fd,.i ev] false)):=(Old.refl h).new
 have g0:(h.new (.cells [.i fd,.i ev] false)).get h.nx=some (.cells [.i fd,.i ev] false):=jad _
 have x0:(h.new (.cells [.i fd,.i ev] false)).nx=h.nx+1:=rfl
 obtain ⟨h1,e1,o1⟩:=jgg hcl (d:=d-1) (fd:=fd) om (a.old o0) o
 rw [jic] at e1
 generalize rdyS ws fd=r at e1 ⊢
 obtain ⟨op,inn,out,hup,err,rd,wr⟩:=r
 simp only [Rdy.cells] at e1
 have g1:h1.get h.nx=some (.cells [.i fd,.i ev] false):=by rw [o1.2 _ om,g0]
 have x1:=o1.1
 have oE : ∀ c:List V,Old h ((h1.new (.cells [.bool false,.bool false,.bool false,.bool false,.bool false,.int .u64 0,.int .u64 0] false)).set h1.nx (.cells c false)):=fun c=>(o0.trans o1).new.set om
 refine jai (at_ hcl om rfl rfl rfl ?_)
 clear a o
 by_cases hfd:fd<0
 ·have hp:je4 ⟨op,inn,out,hup,err,rd,wr⟩ fd ev=0:=if_pos hfd
  rw [hp]
  clear hm
  refine qm1 ?_
  exact ⟨rfl,oE _⟩
 cases op
 ·have hp:je4 ⟨false,inn,out,hup,err,rd,wr⟩ fd ev=32:=by unfold je4;rw [if_neg hfd];rfl
  rw [hp]
  clear hm
  refine qm1 ?_
  exact ⟨rfl,oE _⟩
 have hp:je4 ⟨true,inn,out,hup,err,rd,wr⟩ fd ev=b2i hup 16+b2i (inn&&decide (ev=1\/ev=5)) 1+b2i (out&&decide (ev=4\/ev=5)) 4+b2i err 8:=by
  unfold je4;rw [if_neg hfd];rfl
 rw [hp]
 clear hp
 cases hup<;>cases inn<;>cases out<;>cases err<;>rcases hm with rfl | rfl | rfl | rfl
 all_goals
  repeat' (first|refine qmy ?_|refine zbf rfl (fun _=>?_) fun _=>?_|refine zbg rfl (fun _=>?_) fun _=>?_|refine zbh rfl (fun _=>?_) fun _=>?_|refine zbm rfl (fun _=>?_) fun _=>?_|refine zbn rfl (fun _=>?_) fun _=>?_)
  exact ⟨rfl,oE _⟩
theorem jiU {d L c2 c3:Nat} {v:V} {l:List (Int × Int)} (hd:8<=d) (o:WsOk ws) (hm : ∀ p∈l,jgC p.2) (hl:l.length<=1000) (I:Nat->H->Prop) (J:H->Prop)
  (hW : ∀ i g,I i g->WSt g w s ow ws now tb no/\VP g v l/\g.get c3=some (.cells [v] false)/\g.get c2=some (.cells [.p w 0] false)/\c2<g.nx)
  (hI : ∀ i g g',I i g->Old g g'->I i g')
  (hy : ∀ i g p,l[i]?=some p->I i g -> ∃ (b:Bool) (g':H),cl (d-1) (.yld L) [.i (je4 (rdyS ws p.1) p.1 p.2)] g=some (.bool b,g')/\(b=true->I (i+1) g')/\(b=false->J g'))
  (h0:I 0 h) : ∃ v' h',cl d (.fn F.jei) [.yld L,.p c3 0,.p c2 0] h=some (v',h')/\(I l.length h'\/J h'):=by
 obtain ⟨_,hv,hc3,_⟩:=hW _ _ h0
 obtain ⟨a,c,rfl,_⟩:=id hv
 refine at_ hcl om rfl rfl rfl ?_
 refine qx1 ?_
 refine Run.loop (fun m e g=>∃ i:Nat,m=l.length-i/\i<=l.length/\e=[(0,.yld L),(2,.p c2 0),(6,.slice a l.length c),(7,.i (l.length:Int)),(8,.i (i:Int))]/\I i g)
  (k:=l.length) Ze ⟨0,rfl,by omega,rfl,h0⟩ ?_
 clear hc3
 rintro _ _ g ⟨i,rfl,hi,rfl,hIi⟩ n2 ih
 by_cases hlt:(i:Int)<l.length
 case neg=>
  obtain rfl:i=l.length:=by omega
  clear ih hI hy hW hm
  refine qx1 ?_
  exact .inl hIi
 have hp:=za (show i<l.length by omega)
 have hpm:=zb hp
 generalize l[i]=p at hp hpm
 obtain ⟨_,hv1,_⟩:=hW _ _ hIi
 obtain ⟨b,o',cs,ro,rfl,hb,hcs,ho,hg⟩:=hv1.get hp
 have hg':(cs.drop (o'+(i:Int).toNat*2)).take 2=[.i p.1,.i p.2]:=by rw [zu];exact hg
 have hi1:(i:Int)+1=((i+1:Nat):Int):=by omega
 have o1:Old g ((g.new (.cells [.i 0,.i 0] false)).set g.nx (.cells [.i p.1,.i p.2] false)):=(Old.refl g).new.set (zp _)
 have I1:=hI _ _ _ hIi o1
 obtain ⟨W1,_,_,hc2,lc2⟩:=hW _ _ I1
 obtain ⟨g2,e2,o2⟩:=pl_is hcl (d:=d-1) (fd:=p.1) (ev:=p.2) om W1 o (hm p hpm)
 obtain ⟨b',g',e3,q1,q2⟩:=hy i g2 p hp (hI _ _ _ I1 o2)
 clear hW hI hy hm
 refine qx1 ?_
 refine Ops.loadN rfl hcs om ?_
 rw [hg']
 cases b'
 ·refine qm1 ?_
  refine Ops.yield rfl rfl e3 ?_
  refine qm1 ?_
  exact .inr (q2 rfl)
 ·refine qm1 ?_
  refine Ops.yield rfl rfl e3 ?_
  refine qm1 ?_
  rw [hi1]
  exact ih (l.length-(i+1)) om _ _ ⟨i+1,rfl,by omega,rfl,q1 rfl⟩
end
def inR (r:Rdy):Bool:=r.inn||r.hup||r.err
def outR (r:Rdy):Bool:=r.out||r.hup||r.err
def isR (r:Rdy):Int:=(if inR r then 2 else 0)+(if outR r then 4 else 0)
def jdY (ws:Ws) (f g:Nat->Bool) (top:Int):Prop := ∃ m:Nat,m<64/\askS f g top m=true/\(rdyS ws (m:Int)).op=false
section
variable {cl:Nat->Call} (hcl:Sem cl) {h:H}
include hcl
theorem sl_is {d:Nat} {r:Rdy} (hd:1<=d) : ∃ h',cl d (.fn F.sel_is) [.agg r.cells] h=some (.i (isR r),h')/\Old h h':=by
 obtain ⟨op,inn,out,hup,err,rd,wr⟩:=r
 have o0:Old h (h.new (.cells (Rdy.cells ⟨op,inn,out,hup,err,rd,wr⟩) false)):=(Old.refl h).new
 simp only [Rdy.cells] at o0 ⊢
 refine jai (at_ hcl om rfl rfl rfl ?_)
 cases inn<;>cases out<;>cases hup<;>cases err
 all_goals
  generalize hR:isR _=R
  repeat' (first|refine qxy ?_|refine zbf rfl (fun _=>?_) fun _=>?_|refine zbg rfl (fun _=>?_) fun _=>?_|refine zbh rfl (fun _=>?_) fun _=>?_|refine zbm rfl (fun _=>?_) fun _=>?_|refine zbn rfl (fun _=>?_) fun _=>?_)
  refine Ops.make rfl rfl ?_
  repeat' (first|refine qxy ?_|refine zbf rfl (fun _=>?_) fun _=>?_|refine zbg rfl (fun _=>?_) fun _=>?_|refine zbh rfl (fun _=>?_) fun _=>?_|refine zbm rfl (fun _=>?_) fun _=>?_|refine zbn rfl (fun _=>?_) fun _=>?_)
  subst hR
  exact ⟨rfl,o0⟩
variable {w s:Nat} {ow:Nat->Nat} {ws:Ws} {now:Int} {tb:Tb} {no:Option (Nat × Nat)} {f g:Nat->Bool}
theorem sl_closed {d:Nat} {top:Int} (hd:10<=d) (a:WSt h w s ow ws now tb no) (o:WsOk ws) :
  ∃ (b:Bool) (h':H),cl d (.fn F.jh0) [.p w 0,.i top,.agg (setV f),.agg (setV g)] h=some (.bool b,h')/\(b=true↔jdY ws f g top)/\Old h h':=by
 suffices q : ∃ v' h',cl d (.fn F.jh0) [.p w 0,.i top,.agg (setV f),.agg (setV g)] h=some (v',h') /\ ∃ b:Bool,v' = .bool b/\(b=true↔jdY ws f g top)/\Old h h' by
  obtain ⟨_,h',e,b,rfl,q⟩:=q;exact ⟨b,h',e,q⟩
 refine at_ hcl om rfl rfl rfl ?_
 refine qm1 ?_
 refine Ops.loadN (l:=setV f) rfl qgt (zp _) ?_
 rw [show List.take 2 (List.drop 0 (setV f))=setV f from rfl]
 refine qx1 ?_
 refine Ops.loadN (l:=setV g) rfl qgt (zp _) ?_
 rw [show List.take 2 (List.drop 0 (setV g))=setV g from rfl]
 refine qx1 ?_
 refine Ops.callf rfl (jkr hcl (d:=d-1) (f:=f) (g:=g) om) ?_
 refine qx1 ?_
 have oH:Old h ((((((((h.new (.cells [.p w 0] false)).new (.cells (setV f) false)).new (.cells (setV g) false)).new (.cells [.bool false] false)).set (h.nx+3) (.cells [.bool false] false)).new (.cells [.i top] false)).new (.cells (setV f) false)).new (.cells (setV g) false)):=((((Old.refl h).new.new.new.new.set Zd).new).new).new
 have b0:((((((((h.new (.cells [.p w 0] false)).new (.cells (setV f) false)).new (.cells (setV g) false)).new (.cells [.bool false] false)).set (h.nx+3) (.cells [.bool false] false)).new (.cells [.i top] false)).new (.cells (setV f) false)).new (.cells (setV g) false)).get h.nx=some (.cells [.p w 0] false):=qgt
 have b3:((((((((h.new (.cells [.p w 0] false)).new (.cells (setV f) false)).new (.cells (setV g) false)).new (.cells [.bool false] false)).set (h.nx+3) (.cells [.bool false] false)).new (.cells [.i top] false)).new (.cells (setV f) false)).new (.cells (setV g) false)).get (h.nx+3)=some (.cells [.bool false] false):=qgt
 have b4:((((((((h.new (.cells [.p w 0] false)).new (.cells (setV f) false)).new (.cells (setV g) false)).new (.cells [.bool false] false)).set (h.nx+3) (.cells [.bool false] false)).new (.cells [.i top] false)).new (.cells (setV f) false)).new (.cells (setV g) false)).get (h.nx+4)=some (.cells [.i top] false):=qgt
 have b5:((((((((h.new (.cells [.p w 0] false)).new (.cells (setV f) false)).new (.cells (setV g) false)).new (.cells [.bool false] false)).set (h.nx+3) (.cells [.bool false] false)).new (.cells [.i top] false)).new (.cells (setV f) false)).new (.cells (setV g) false)).get (h.nx+5)=some (.cells (setV f) false):=qgt
 have b6:((((((((h.new (.cells [.p w 0] false)).new (.cells (setV f) false)).new (.cells (setV g) false)).new (.cells [.bool false] false)).set (h.nx+3) (.cells [.bool false] false)).new (.cells [.i top] false)).new (.cells (setV f) false)).new (.cells (setV g) false)).get (h.nx+6)=some (.cells (setV g) false):=qgt
 have x1:((((((((h.new (.cells [.p w 0] false)).new (.cells (setV f) false)).new (.cells (setV g) false)).new (.cells [.bool false] false)).set (h.nx+3) (.cells [.bool false] false)).new (.cells [.i top] false)).new (.cells (setV f) false)).new (.cells (setV g) false)).nx=h.nx+7:=rfl
 change Run (cl (d-1)) fuel _ _ [(4,.p h.nx 0),(9,.p (h.nx+3) 0),(14,.clo F.je1 [.p (h.nx+5) 0,.p (h.nx+6) 0,.p (h.nx+4) 0])] ((((((((h.new (.cells [.p w 0] false)).new (.cells (setV f) false)).new (.cells (setV g) false)).new (.cells [.bool false] false)).set (h.nx+3) (.cells [.bool false] false)).new (.cells [.i top] false)).new (.cells (setV f) false)).new (.cells (setV g) false)) _
 generalize (((((((h.new (.cells [.p w 0] false)).new (.cells (setV f) false)).new (.cells (setV g) false)).new (.cells [.bool false] false)).set (h.nx+3) (.cells [.bool false] false)).new (.cells [.i top] false)).new (.cells (setV f) false)).new (.cells (setV g) false)=H1 at oH b0 b3 b4 b5 b6 x1 ⊢
 have hx1:=oH.1
 refine Run.rangeFunc_lo rfl qkp fun LO hLO=>?_
 rw [x1]
 have oL:Old h (H1.new (LO .ready none)):=oH.new
 obtain ⟨v',h',hc,hIJ⟩:=jhy hcl (d:=d-1) (L:=h.nx+7) (c1:=h.nx+5) (c2:=h.nx+6) (c3:=h.nx+4) (f:=f) (g:=g) (top:=top) (h:=H1.new (LO .ready none)) om
  (fun m e=>(∀ j,j<m->askS f g top j=true->(rdyS ws (j:Int)).op=true)/\e.get h.nx=some (.cells [.p w 0] false)/\e.get (h.nx+3)=some (.cells [.bool false] false)/\e.get (h.nx+4)=some (.cells [.i top] false)/\e.get (h.nx+5)=some (.cells (setV f) false)/\e.get (h.nx+6)=some (.cells (setV g) false)/\e.get (h.nx+7)=some (LO .ready none)/\h.nx+8<=e.nx/\Old h e)
  (fun e=>jdY ws f g top/\e.get (h.nx+3)=some (.cells [.bool true] false)/\e.get (h.nx+7)=some (LO .done (some (.exit 0)))/\h.nx+8<=e.nx/\Old h e)
  (fun m e ⟨_,_,_,p4,p5,p6,_,p8,_⟩=>⟨p5,p6,p4,by omega,by omega,by omega⟩)
  (by
   rintro m e e' ⟨p00,p0,p3,p4,p5,p6,p7,p8,p9⟩ og
   exact ⟨p00,by rw [og.2 _ om,p0],by rw [og.2 _ om,p3],by rw [og.2 _ om,p4],by rw [og.2 _ om,p5],by rw [og.2 _ om,p6],by rw [og.2 _ om,p7],zz p8 og.1,p9.trans og⟩)
  (by
   rintro m e hm hk ⟨p00,p⟩
   refine ⟨fun j hj ha=>?_,p⟩
   by_cases hjm:j=m
   ·rw [hjm,hk] at ha;cases ha
   ·exact p00 j om ha)
  (by
   rintro m e hm hk ⟨p00,p0,p3,p4,p5,p6,p7,p8,p9⟩
   have oq:Old h (e.set (h.nx+7) (LO .busy none)):=p9.set om
   obtain ⟨e1,er,oe⟩:=jgg hcl (d:=d-1-1-1) (fd:=(m:Int)) om (a.old oq) o
   rw [jic] at er
   have hop : ∀ j,j<m+1->askS f g top j=true->(rdyS ws (m:Int)).op=true->(rdyS ws (j:Int)).op=true:=by
    intro j hj ha ho
    by_cases hjm:j=m
    ·rw [hjm,ho]
    ·exact p00 j om ha
   have hcz:(rdyS ws (m:Int)).op=false->jdY ws f g top:=fun h=>⟨m,hm,hk,h⟩
   generalize jmu f g m=mk0
   generalize rdyS ws (m:Int)=r at er hop hcz
   obtain ⟨op,inn,out,hup,err,rd,wr⟩:=r
   simp only [Rdy.cells] at er hop hcz
   have r0:e1.get (h.nx+3)=some (.cells [.bool false] false):=by rw [oe.2 _ Zc,jaa om,p3]
   have r7:e1.get (h.nx+7)=some (LO .busy none):=by rw [oe.2 _ Zc,jab]
   have oe2 : ∀ j,j<e.nx->j≠h.nx+7->e1.get j=e.get j:=fun j h1 h2=>by rw [oe.2 _ (by simpa using h1),jaa h2]
   have ox:e.nx<=e1.nx:=by have:=oe.1;simpa using this
   have of:Old h e1:=oq.trans oe
   suffices q : ∃ v' g',cl (d-1-1) (.yld (h.nx+7)) [.i (m:Int),.i mk0] e=some (v',g') /\ ∃ b:Bool,v' = .bool b/\(b=true->((∀ j,j<m+1->askS f g top j=true->(rdyS ws (j:Int)).op=true)/\g'.get h.nx=some (.cells [.p w 0] false)/\g'.get (h.nx+3)=some (.cells [.bool false] false)/\g'.get (h.nx+4)=some (.cells [.i top] false)/\g'.get (h.nx+5)=some (.cells (setV f) false)/\g'.get (h.nx+6)=some (.cells (setV g) false)/\g'.get (h.nx+7)=some (LO .ready none)/\h.nx+8<=g'.nx/\Old h g')/\Old e g') /\
     (b=false->jdY ws f g top/\g'.get (h.nx+3)=some (.cells [.bool true] false)/\g'.get (h.nx+7)=some (LO .done (some (.exit 0)))/\h.nx+8<=g'.nx/\Old h g') by
    obtain ⟨_,g',e,b,rfl,q⟩:=q
    exact ⟨b,g',e,fun hb=>⟨(q.1 hb).1,(q.1 hb).2.toN _⟩,q.2⟩
   refine yl_ hcl om hLO p7 rfl ?_
   clear a o
   refine qx1 ?_
   refine End.nil ⟨rfl,p7,?_⟩
   cases op
   ·refine qx1 ?_
    refine Ops.store1 (l:=[.bool false]) rfl rfl rfl r0 Nat.zero_lt_one ?_
    refine qx1 ?_
    refine End.nil ⟨⟨.busy,none,by rw [jaa om,r7]⟩,false,rfl,fun e=>(by cases e),fun _=>⟨hcz rfl,?_,jab _,by simp;omega,(of.set om).set om⟩⟩
    rw [jaa om];exact jab _
   ·refine qx1 ?_
    refine End.nil ⟨⟨.busy,none,r7⟩,true,rfl,fun _=>⟨⟨fun j hj ha=>hop j hj ha rfl,?_,?_,?_,?_,?_,jab _,by simp;omega,of.set om⟩,by simpa using ox,?_⟩,fun e=>by cases e⟩
    ·rw [jaa om,oe2 _ om om,p0]
    ·rw [jaa om,oe2 _ om om,p3]
    ·rw [jaa om,oe2 _ om om,p4]
    ·rw [jaa om,oe2 _ om om,p5]
    ·rw [jaa om,oe2 _ om om,p6]
    ·intro j hj
     by_cases hz:j=h.nx+7
     ·rw [hz,jab,p7];rfl
     ·rw [jaa hz,oe2 _ hj hz])
  ⟨fun j hj=>by omega,by rw [jac om,b0],by rw [jac om,b3],by rw [jac om,b4],by rw [jac om,b5],by rw [jac om,b6],by rw [<- x1,jad],by simp [x1],oL⟩
 clear a o
 rcases hIJ with ⟨p00,p0,p3,p4,p5,p6,p7,p8,p9⟩ | ⟨p00,p3,p7,p8,p9⟩
 ·have hn : ¬ jdY ws f g top:=by
   rintro ⟨m,hm,hk,hz⟩
   rw [p00 m hm hk] at hz;cases hz
  have k0:(h'.kill (h.nx+7)).get (h.nx+3)=some (.cells [.bool false] false):=by rw [jae om,p3]
  have o9:Old h (h'.kill (h.nx+7)):=⟨p9.1,fun j hj=>by rw [jae om,p9.2 j hj]⟩
  refine ⟨v',h',hc,.normal,p7,?_⟩
  clear hLO
  refine qx1 ?_
  exact ⟨_,rfl,by simp [hn],o9⟩
 ·have k0:(h'.kill (h.nx+7)).get (h.nx+3)=some (.cells [.bool true] false):=by rw [jae om,p3]
  have o9:Old h (h'.kill (h.nx+7)):=⟨p9.1,fun j hj=>by rw [jae om,p9.2 j hj]⟩
  refine ⟨v',h',hc,.exit 0,p7,?_⟩
  clear hLO
  refine qx1 ?_
  exact ⟨_,rfl,by simp [p00],o9⟩
end
end Am.Sigs
