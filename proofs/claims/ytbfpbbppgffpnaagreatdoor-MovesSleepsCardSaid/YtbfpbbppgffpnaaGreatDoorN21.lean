/- Our own library, part 21. -/
import Derived.Test.YtbfpbbppgffpnaaGreatDoorN20
import Derived.Test.YtbfpbbppgffpnaaGreatDoorN18
import Derived.Test.YtbfpbbppgffpnaaGreatDoorN19
set_option maxHeartbeats 8000000
set_option linter.all false
namespace Am.Sigs
open Am Go
def jds (op:Int):List UInt8:=if op=1 then [119,100] else if op=2\/op=6 then [119,110] else if op=3\/op=4\/op=5 then [119] else if op=7 then [110] else []
theorem parts_w (op:Int):decide (0<=idxB 119 (jds op) 0)=decide (1<=op/\op<=6):=by
 unfold jds
 (repeat' split)<;>(refine decide_eq_decide.2 ⟨fun _=>?_,fun _=>?_⟩)<;>first | omega | decide | (exfalso;omega) | (rename_i h;exact absurd h (by decide))
theorem parts_n (op:Int):decide (0<=idxB 110 (jds op) 0)=decide (op=2\/op=6\/op=7):=by
 unfold jds
 (repeat' split)<;>(refine decide_eq_decide.2 ⟨fun _=>?_,fun _=>?_⟩)<;>first | omega | decide | (exfalso;omega) | (rename_i h;exact absurd h (by decide))
theorem parts_d (op:Int):decide (0<=idxB 100 (jds op) 0)=decide (op=1):=by
 unfold jds
 (repeat' split)<;>(refine decide_eq_decide.2 ⟨fun _=>?_,fun _=>?_⟩)<;>first | omega | decide | (exfalso;omega) | (rename_i h;exact absurd h (by decide))
section
variable {cl:Nat->Call} (hcl:Sem cl)
include hcl
theorem jlg {d:Nat} {h:H} {s:List UInt8} {c:UInt8} (hd:5<=d):cl d (.fn F.jgV) [.str s,.str [c]] h=some (.bool (decide (0<=idxB c s 0)),h):=by
 have e0:cl (d-4) (.fn F.jcx) [.str s,.int .u8 (c.toNat:Int)] h=some (.i (idxB c s 0),h):=by
  rw [joq hcl om (p:=jc3) rfl]
  show some (V.i (idxB ((c.toNat:Int).toNat.toUInt8) s 0),h)=_
  rw [show ((c.toNat:Int).toNat.toUInt8)=c by simp]
 have e1:cl (d-3) (.fn F.jcH) [.str s,.int .u8 (c.toNat:Int)] h=some (.i (idxB c s 0),h):=by
  refine jal (at_ hcl om rfl rfl rfl ?_)
  refine qx1 ?_
  exact ⟨rfl,rfl⟩
 have e2:cl (d-2) (.fn F.jdj) [.str s,.str [c]] h=some (.i (idxB c s 0),h):=by
  refine jal (at_ hcl om rfl rfl rfl ?_)
  have n0 : ¬ (([c].length:Nat):Int)=0:=by simp
  have n1:(([c].length:Nat):Int)=1:=by simp
  clear e0
  repeat' (first|refine qxy ?_|refine zbf rfl (fun _=>?_) fun _=>?_|refine zbg rfl (fun _=>?_) fun _=>?_|refine zbh rfl (fun _=>?_) fun _=>?_|refine zbm rfl (fun _=>?_) fun _=>?_|refine zbn rfl (fun _=>?_) fun _=>?_)
  ·next hs=>
   obtain rfl:[c]=s:=by simpa using hs
   exact ⟨by simp [idxB],rfl⟩
  ·exact ⟨rfl,rfl⟩
 have e3:cl (d-1) (.fn F.jjk) [.str s,.str [c]] h=some (.i (idxB c s 0),h):=by
  refine jal (at_ hcl om rfl rfl rfl ?_)
  clear e0 e1
  refine qx1 ?_
  exact ⟨rfl,rfl⟩
 refine jal (at_ hcl om rfl rfl rfl ?_)
 clear e0 e1 e2
 refine qx1 ?_
 exact ⟨rfl,rfl⟩
theorem jlI {d:Nat} {h:H} {op:Int} (hd:1<=d):cl d (.fn F.jlv) [.i op] h=some (.str (jds op),h):=by
 refine jal (at_ hcl om rfl rfl rfl ?_)
 unfold jds
 by_cases h1:op=1
 ·rw [if_pos h1]
  refine qx1 ?_
  exact ⟨rfl,rfl⟩
 rw [if_neg h1]
 by_cases h2:op=2
 ·rw [if_pos (.inl h2)]
  refine qx1 ?_
  exact ⟨rfl,rfl⟩
 by_cases h6:op=6
 ·rw [if_pos (.inr h6)]
  refine qx1 ?_
  exact ⟨rfl,rfl⟩
 rw [if_neg om]
 by_cases h3:op=3
 ·rw [if_pos (.inl h3)]
  refine qx1 ?_
  exact ⟨rfl,rfl⟩
 by_cases h4:op=4
 ·rw [if_pos (.inr (.inl h4))]
  refine qx1 ?_
  exact ⟨rfl,rfl⟩
 by_cases h5:op=5
 ·rw [if_pos (.inr (.inr h5))]
  refine qx1 ?_
  exact ⟨rfl,rfl⟩
 rw [if_neg om]
 by_cases h7:op=7
 ·rw [if_pos h7]
  refine qx1 ?_
  exact ⟨rfl,rfl⟩
 rw [if_neg h7]
 refine qx1 ?_
 exact ⟨rfl,rfl⟩
theorem jnt {d b:Nat} {h:H} {op:Int} {c:UInt8} {l:List V} {ro:Bool} (hd:6<=d) (hb:h.get b=some (.cells (.i op :: l) ro)):cl d (.fn F.jhO) [.str [c],.p b 0] h=some (.bool (decide (0<=idxB c (jds op) 0)),h):=by
 have e1:=jlI hcl (d:=d-1) (h:=h) (op:=op) om
 have e2:=jlg hcl (d:=d-1) (h:=h) (s:=jds op) (c:=c) om
 refine jal (at_ hcl om rfl rfl rfl ?_)
 refine qx1 ?_
 exact ⟨rfl,rfl⟩
theorem jnH {d:Nat} {h:H} {op:Int} (hd:1<=d):cl d (.fn F.jeT) [.i op] h=some (.bool (decide (1<=op/\op<=6)),h):=by
 refine jal (at_ hcl om rfl rfl rfl ?_)
 by_cases h1:1<=op
 ·refine qx1 ?_
  exact ⟨by simp [h1],rfl⟩
 ·refine qx1 ?_
  exact ⟨by simp [h1],rfl⟩
theorem jkl {d:Nat} {h:H} {op:Int} (hd:1<=d):cl d (.fn F.jej) [.i op] h=some (.bool (decide (op=2\/op=6\/op=7)),h):=by
 refine jal (at_ hcl om rfl rfl rfl ?_)
 by_cases h1:op=2
 ·refine qx1 ?_
  exact ⟨by simp [h1],rfl⟩
 by_cases h2:op=6
 ·refine qx1 ?_
  exact ⟨by simp [h2],rfl⟩
 ·refine qx1 ?_
  exact ⟨by simp [h1,h2],rfl⟩
end
theorem jhc {m:Mv} (h:m.op<1\/m.op>7\/m.wire<0\/m.n<0\/m.D.length>1000\/(m.op=7/\m.wire≠0)\/(m.op≠2/\m.op≠6/\m.op≠7/\m.n≠0)):decide m.may=false:=by
 refine decide_eq_false fun c=>?_
 obtain ⟨c1,c2,c3,c4,c5,c6,c7,_⟩:=c
 omega
theorem joY {m:Mv} (h1 : ¬ m.op<1) (h2 : ¬ m.op>7) (h3 : ¬ m.wire<0) (h4 : ¬ m.n<0) (h6:m.op≠7\/m.wire=0) (h7:m.op=2\/m.op=6\/m.op=7\/m.n=0) :
  decide m.may=decide (m.D.length<=1000/\(m.op=1↔0<m.D.length)) :=
 decide_eq_decide.2 ⟨fun c=>⟨c.2.2.2.2.1,c.2.2.2.2.2.2.2⟩,fun c=>⟨by omega,by omega,by omega,by omega,c.1,by omega,by omega,c.2⟩⟩
abbrev mvV (m:Mv) (dv:V):List V:=[.i m.op,.i m.wire,.i m.n,dv]
theorem Ops.callc_chk {call:Call} {fuel base:Nat} {K:List Fr} {e:Env} {h h':H} {Q:Post} {ix:Nat} {dst at_:Option Nat} {ops:List Ins} {keep:List Nat} {chk:List (Nat × I × Option (Nat × Bool))} {f:FuncId} {x:Opd} {args:List Opd} {cap vs:List V} {v:V} (hx:x.ev e=some (.clo f cap)) (ha:evs e args=some vs) (hc:call (.fn f) (vs++cap) h=some (v,h')) (hk:jaK e h' chk=true) (k:Ops call fuel base ops keep K (layv e dst v) h' Q) :
  Ops call fuel base (⟨ix,dst,.callv x args,none,at_,chk⟩ :: ops) keep K e h Q :=
 Ops.step_chk (I.run_eff rfl (by simp only [I.eff,hx,ha,hc])) hk k
section
variable {cl:Nat->Call} (hcl:Sem cl) {h:H} {m:Mv} {a:Option (Nat × Nat)} {c:Cap}
include hcl
theorem jo8 {d:Nat} (hd:2<=d) : ∃ h',cl d (.fn F.jfl) [.agg (mvV m (.slice a m.D.length c))] h=some (.bool (decide m.may),h')/\Old h h':=by
 have o:Old h (h.new (.cells (mvV m (.slice a m.D.length c)) false)):=(Old.refl h).new
 have ew:=jnH hcl (d:=d-1) (op:=m.op) (h:=h.new (.cells (mvV m (.slice a m.D.length c)) false)) om
 have en:=jkl hcl (d:=d-1) (op:=m.op) (h:=h.new (.cells (mvV m (.slice a m.D.length c)) false)) om
 have g0:(h.new (.cells (mvV m (.slice a m.D.length c)) false)).get h.nx=some (.cells (mvV m (.slice a m.D.length c)) false):=jac _
 refine jag (at_ hcl om rfl rfl rfl ?_)
 obtain ⟨C,hC⟩ : ∃ C,C=c49_1:=⟨_,rfl⟩
 simp only [c49,c49_2,<- hC,yB,yL]
 by_cases c1:m.op<1
 ·have hf:=jhc (.inl c1)
  clear ew en
  refine qm1 ?_
  exact ⟨by rw [hf],o⟩
 by_cases c2:m.op>7
 ·have hf:=jhc (m:=m) om
  clear ew en
  refine qm1 ?_
  exact ⟨by rw [hf],o⟩
 by_cases c3:m.wire<0
 ·have hf:=jhc (m:=m) om
  clear ew en
  refine qm1 ?_
  exact ⟨by rw [hf],o⟩
 by_cases c4:m.n<0
 ·have hf:=jhc (m:=m) om
  clear ew en
  refine qm1 ?_
  exact ⟨by rw [hf],o⟩
 by_cases c5:(m.D.length:Int)>1000
 ·have hf:=jhc (m:=m) om
  clear ew en
  refine qm1 ?_
  exact ⟨by rw [hf],o⟩
 have tail : ∀ sb,Run (cl (d-1)) fuel C [] ((1,.p h.nx 0) :: sb) (h.new (.cells (mvV m (.slice a m.D.length c)) false)) (Fin c49.res fun v h'=>v = .bool (decide m.may)/\Old h h'):=fun sb=>by
  rw [hC]
  generalize h.new (.cells (mvV m (.slice a m.D.length c)) false)=G at o ew en g0 ⊢
  have fin : ∀ p:Prop,[Decidable p]->(p↔(m.op=1↔0<m.D.length))->(m.op≠7\/m.wire=0)->(m.op=2\/m.op=6\/m.op=7\/m.n=0)->V.bool (decide p)=V.bool (decide m.may):=fun p _ hp h6 h7=>by
   rw [joY c1 c2 c3 c4 h6 h7]
   exact congrArg V.bool (decide_eq_decide.2 ⟨fun x=>⟨by omega,hp.1 x⟩,fun x=>hp.2 x.2⟩)
  have e1:(decide (m.op=1)=decide ((m.D.length:Int)>0))↔(m.op=1↔0<m.D.length):=by rw [decide_eq_decide];omega
  clear hC
  by_cases c7:m.op=7
  ·rw [decide_eq_false om] at ew
   rw [decide_eq_true om] at en
   by_cases c6:m.wire=0
   ·have hf:=fin _ e1 om om
    clear fin e1 c1 c2 c3 c4 c5
    refine qm1 ?_
    exact ⟨hf,o⟩
   ·have hf:=jhc (m:=m) om
    clear fin e1 c1 c2 c3 c4 c5
    refine qm1 ?_
    exact ⟨by rw [hf],o⟩
  ·rw [decide_eq_true om] at ew
   by_cases c8:m.op=2\/m.op=6\/m.op=7
   ·rw [decide_eq_true c8] at en
    have hf:=fin _ e1 om om
    clear fin e1 c1 c2 c3 c4 c5 c8 c7
    refine qm1 ?_
    exact ⟨hf,o⟩
   rw [decide_eq_false c8] at en
   by_cases c9:m.n=0
   ·have hf:=fin _ e1 om om
    clear fin e1 c1 c2 c3 c4 c5 c8 c7
    refine qm1 ?_
    exact ⟨hf,o⟩
   ·have hf:=jhc (m:=m) om
    clear fin e1 c1 c2 c3 c4 c5 c8 c7
    refine qm1 ?_
    exact ⟨by rw [hf],o⟩
 clear ew en
 refine qm1 ?_
 exact tail _
theorem joy {d:Nat} (hd:7<=d) : ∃ h',cl d (.fn F.moves_may) [.agg (mvV m (.slice a m.D.length c))] h=some (.bool (decide m.may),h')/\Old h h':=by
 have o:Old h (h.new (.cells (mvV m (.slice a m.D.length c)) false)):=(Old.refl h).new
 have g0:(h.new (.cells (mvV m (.slice a m.D.length c)) false)).get h.nx=some (.cells (mvV m (.slice a m.D.length c)) false):=jac _
 have en:=jlI hcl (d:=d-1) (op:=m.op) (h:=h.new (.cells (mvV m (.slice a m.D.length c)) false)) om
 have ew:=jnt hcl (d:=d-1) (c:=119) om g0
 have eN:=jnt hcl (d:=d-1) (c:=110) om g0
 have ed:=jnt hcl (d:=d-1) (c:=100) om g0
 rw [parts_w] at ew
 rw [parts_n] at eN
 rw [parts_d] at ed
 refine jag (at_ hcl om rfl rfl rfl ?_)
 obtain ⟨C,hC⟩ : ∃ C,C=c41_4:=⟨_,rfl⟩
 simp only [c41,<- hC,yN]
 by_cases c0:m.op<1\/m.op>7
 ·have ep:jds m.op=[]:=by
   unfold jds
   rw [if_neg om,if_neg om,if_neg om,if_neg om]
  rw [ep] at en
  refine qm1 ?_
  exact ⟨by rw [jhc om],o⟩
 obtain ⟨x,t,ep⟩ : ∃ x t,jds m.op=x :: t:=by
  unfold jds
  by_cases h1:m.op=1
  ·rw [if_pos h1];exact ⟨_,_,rfl⟩
  rw [if_neg h1]
  by_cases h2:m.op=2\/m.op=6
  ·rw [if_pos h2];exact ⟨_,_,rfl⟩
  rw [if_neg h2]
  by_cases h3:m.op=3\/m.op=4\/m.op=5
  ·rw [if_pos h3];exact ⟨_,_,rfl⟩
  rw [if_neg h3,if_pos om];exact ⟨_,_,rfl⟩
 rw [ep] at en
 have c1 : ¬ m.op<1:=by omega
 have c2 : ¬ m.op>7:=by omega
 by_cases c3:m.wire<0
 ·refine qm1 ?_
  exact ⟨by rw [jhc om],o⟩
 by_cases c4:m.n<0
 ·refine qm1 ?_
  exact ⟨by rw [jhc om],o⟩
 have fin : ∀ p:Prop,[Decidable p]->(p↔(m.op=1↔0<m.D.length)/\m.D.length<=1000)->(m.op≠7\/m.wire=0)->(m.op=2\/m.op=6\/m.op=7\/m.n=0)->V.bool (decide p)=V.bool (decide m.may):=fun p _ hp h6 h7=>by
  rw [joY c1 c2 c3 c4 h6 h7]
  exact congrArg V.bool (decide_eq_decide.2 ⟨fun x=>(hp.1 x).symm,fun x=>hp.2 x.symm⟩)
 have e1:(decide (m.op=1)=decide ((m.D.length:Int)>0))↔(m.op=1↔0<m.D.length):=by rw [decide_eq_decide];omega
 have tail : ∀ sb,(m.op≠7\/m.wire=0)->(m.op=2\/m.op=6\/m.op=7\/m.n=0)->Run (cl (d-1)) fuel C [] ((1,.p h.nx 0) :: (3,.clo F.jhO [.p h.nx 0]) :: sb) (h.new (.cells (mvV m (.slice a m.D.length c)) false)) (Fin c41.res fun v h'=>v = .bool (decide m.may)/\Old h h'):=fun sb h6 h7=>by
  rw [hC]
  clear ew eN en c0
  generalize hE:(decide (m.op=1):Bool)=b1 at ed e1
  have hfin:=fun p [Decidable p] hp=>fin p hp h6 h7
  have hmt:=joY c1 c2 c3 c4 h6 h7
  clear fin h6 h7
  refine qm1 ?_
  refine Ops.callc_chk rfl rfl ed (jat rfl g0 rfl rfl ja6) ?_
  by_cases e2:b1=decide ((m.D.length:Int)>0)
  ·refine qm1 ?_
   exact ⟨hfin _ ⟨fun x=>⟨e1.1 e2,by omega⟩,fun x=>by have:=x.2;omega⟩,o⟩
  ·refine qm1 ?_
   exact ⟨by rw [hmt];exact congrArg V.bool (decide_eq_false fun x=>e2 (e1.2 x.2)).symm,o⟩
 clear c0 fin e1
 by_cases c7:m.op=7
 ·rw [decide_eq_false om] at ew
  rw [decide_eq_true om] at eN
  by_cases c6:m.wire=0
  ·have tl:=fun sb=>tail sb om om
   clear tail
   refine qm1 ?_
   refine Ops.callc rfl rfl ew ?_
   refine qm1 ?_
   refine Ops.callc rfl rfl eN ?_
   refine qm1 ?_
   exact tl _
  ·clear tail
   refine qm1 ?_
   refine Ops.callc rfl rfl ew ?_
   refine qm1 ?_
   exact ⟨by rw [jhc om],o⟩
 ·rw [decide_eq_true om] at ew
  by_cases c8:m.op=2\/m.op=6\/m.op=7
  ·rw [decide_eq_true c8] at eN
   have tl:=fun sb=>tail sb om om
   clear c8 tail
   refine qm1 ?_
   refine Ops.callc rfl rfl ew ?_
   refine qm1 ?_
   refine Ops.callc rfl rfl eN ?_
   refine qm1 ?_
   exact tl _
  rw [decide_eq_false c8] at eN
  by_cases c9:m.n=0
  ·have tl:=fun sb=>tail sb om om
   clear c8 tail
   refine qm1 ?_
   refine Ops.callc rfl rfl ew ?_
   refine qm1 ?_
   refine Ops.callc rfl rfl eN ?_
   refine qm1 ?_
   exact tl _
  ·have hf:=jhc (m:=m) om
   clear c8 tail
   refine qm1 ?_
   refine Ops.callc rfl rfl ew ?_
   refine qm1 ?_
   refine Ops.callc rfl rfl eN ?_
   refine qm1 ?_
   exact ⟨by rw [hf],o⟩
end
abbrev opV (k a n t:Int) (dv:V):List V:=[.i k,.i a,.i n,.int .u64 t,dv]
structure Dat (h:H) (dat:Nat->Prop) (dv:V) (D:List UInt8):Prop where
 v:VB h dv D
 z:D≠[] -> ∀ z,dv.at?=some z->dat z
 len:D.length<=300
structure Cpy (h:H) (p:Nat) (ow:Nat->Nat) (ro dat:Nat->Prop) (vd:V) (D:List UInt8):Prop where
 v:VB h vd D
 z : ∀ z,vd.at?=some z->z<h.nx/\ow z=0 /\ ¬ ro z /\ ¬ dat z/\z≠p
section
variable {h h':H} {p w s rw:Nat} {ow ow':Nat->Nat} {ro ro' dat:Nat->Prop} {a r a' r':St} {dv vd:V} {D:List UInt8}
theorem BB.keepD (b:BB h p w s rw ow ro dat a r) (f:Fm h h' ow ro ow' ro') {z:Nat} (hz:dat z):h'.get z=h.get z :=
 f.ch.get z (b.ro_lt (.inr hz)) fun e=>e.elim (fun e=>e (b.sep z (.inr hz))) (b.ap hz)
theorem Dat.keep (d:Dat h dat dv D) (b:BB h p w s rw ow ro dat a r) (f:Fm h h' ow ro ow' ro'):Dat h' dat dv D :=
 ⟨d.v.keep2 f.ch.nx fun hl z hz=>b.keepD f (d.z hl z hz),d.z,d.len⟩
theorem Cpy.keep (c:Cpy h p ow ro dat vd D) (f:Fm h h' ow ro ow' ro'):Cpy h' p ow' ro' dat vd D :=
 ⟨c.v.keep f.ch.nx fun z hz=>by
  obtain ⟨p1,p2,p3,p4,p5⟩:=c.z z hz
  exact f.ch.get z p1 fun e=>e.elim (fun e=>e p2) p3,fun z hz=>by
  obtain ⟨p1,p2,p3,p4,p5⟩:=c.z z hz
  exact ⟨zr p1 f.ch.nx,by rw [f.tag z p1];exact p2,fun e=>p3 ((f.rtag z p1).1 e),p4,p5⟩⟩
theorem Dat.in_ {g:H} {q:Nat} (d:Dat h dat dv D) (b:BB h p w s rw ow ro dat a r) (ga : ∀ j,j<h.nx->ro j\/dat j->g.get j=h.get j) (gn:g.nx=h.nx) (hq:q=p\/ro q) :
  VB g dv D/\(D≠[] -> ∀ z,dv.at?=some z->z≠q/\z≠rw/\z<g.nx):=by
 refine ⟨d.v.keep2 om fun hl z hz=>ga z (b.ro_lt (.inr (d.z hl z hz))) (.inr (d.z hl z hz)),fun hl z hz=>?_⟩
 have dz:=d.z hl z hz
 refine ⟨fun e=>?_,fun e=>?_,by rw [gn];exact b.ro_lt (.inr dz)⟩
 ·rcases hq with rfl | hq
  ·exact b.rp (.inr (by rw [<- e];exact dz))
  ·exact b.ap dz (by rw [e];exact hq)
 ·obtain ⟨l,R,_⟩:=b.R
  exact b.ap dz (by rw [e];exact R.hr)
theorem BB.off_w {h1:H} (b:BB h p w s rw ow ro dat a r) (t:To h h1 ow ow') {o:Obj} {z:Nat} (hz:z<h.nx) (h0:ow z=0) (g:h.get z=some o):h1.get z=some o:=by
 rw [t.ch.get z hz fun e=>e h0,g]
theorem Fm.two {h1 h2:H} {ow1:Nat->Nat} (o:Old h h') (t:To h' h1 ow ow1) (f:Fm h1 h2 ow1 ro ow1 ro'):Fm h h2 ow ro ow1 ro':=(Fm.old o).trans ((Fm.to t).trans f)
end
def jdz (cl:Nat->Call) (d f:Nat) (h:H) (p w s rw:Nat) (ow:Nat->Nat) (ro dat:Nat->Prop) (args:List V) (st':St):Prop :=
 ∃ h' ow' ro',cl d (.fn f) args h=some (.bool true,h')/\BB h' p w s rw ow' ro' dat st' st'/\Fm h h' ow ro ow' ro'
section
variable {call:Call} {fuel base:Nat} {ops:List Ins} {keep:List Nat} {K:List Fr} {e:Env} {h:H} {Q:Post} {ix:Nat} {dst at_:Option Nat}
theorem Ops.ixAn {x i:Opd} {l vs:List V} {kd:IntKind} {n sz m len:Nat} (hx:x.ev e=some (.agg l)) (hi:i.ev e=some (.int kd (n:Int))) (hn:n<len) (hl:n*sz+m<=l.length) (hv:(l.drop (n*sz)).take m=vs)
  (k:Ops call fuel base ops keep K (layv e dst (.agg vs)) h Q):Ops call fuel base (⟨ix,dst,.ixA len sz (some m) x i,none,at_,[]⟩ :: ops) keep K e h Q:=by
 refine Ops.pure rfl ?_ k
 have h1:Nat.blt n len=true:=by simp [Nat.blt];omega
 have h2:Nat.ble (n*sz+m) l.length=true:=by simpa using hl
 simp only [I.pure,hx,hi]
 show (bif jgE (Int.ofNat n) len then _ else _)=_
 simp only [jgE,h1,cond_true,part]
 show (match (bif Nat.ble (n*sz+m) l.length then some (V.agg ((l.drop (n*sz)).take m)) else none) with | some v=>some v | none=>none)=_
 rw [h2];simp only [cond_true,hv]
end
section
variable {f:Nat->Option (Nat × Nat)} {wv:V} {s:Nat} {now:Int} {no:Option (Nat × Nat)}
theorem jg9 {i:Nat} (hi:i<96):((jd5 f).drop (i*3)).take 3=plc (f i) :=
 jpf (jge (i:=i) (j:=0) hi om rfl) (jge (i:=i) (j:=1) hi om rfl) (jge (i:=i) (j:=2) hi om rfl)
theorem jka:((wc f wv s now no).drop 0).take 288=jd5 f:=by
 unfold wc
 rw [zk,List.take_append_of_le_length (by rw [ja4];omega),zh (by rw [ja4];omega)]
end
section
variable {cl:Nat->Call} (hcl:Sem cl) {h:H} {w s:Nat} {ow:Nat->Nat} {f:Nat->Option (Nat × Nat)} {l:List WX} {now:Int} {tb:Tb} {no:Option (Nat × Nat)}
include hcl
theorem jjZ {d L bx:Nat} {wl:List V} (hd:2<=d) (I:Nat->H->Prop) (J:H->Prop) (hw:h.get w=some (.cells (wc f (.slice none 0 (.fix 0)) s now no) false)\/h.get w=some (.cells wl false)) (hwl:wl.length=294/\(wl.drop 0).take 288=jd5 f) (hbx:h.get bx=some (.cells [.p w 0] false))
  (hI : ∀ i g g',I i g->Old g g'->I i g') (hskip : ∀ i g,i<96->f i≠none->I i g->I (i+1) g)
  (hy : ∀ i g,i<96->f i=none->I i g -> ∃ (b:Bool) (g':H),cl (d-1) (.yld L) [.i (i:Int)] g=some (.bool b,g')/\(b=true->I (i+1) g')/\(b=false->J g'))
  (h0:I 0 h) : ∃ v h',cl d (.fn F.jch) [.yld L,.p bx 0] h=some (v,h')/\(I 96 h'\/J h'):=by
 have hw : ∃ wl,h.get w=some (.cells wl false)/\wl.length=294/\(wl.drop 0).take 288=jd5 f:=by
  rcases hw with hw | hw
  ·exact ⟨_,hw,jbr,jka⟩
  ·exact ⟨_,hw,hwl⟩
 obtain ⟨wl,hw,hl,ht⟩:=hw
 refine at_ hcl om rfl rfl rfl ?_
 refine qx1 ?_
 refine Ops.loadN rfl hw om ?_
 rw [ht]
 refine qx1 ?_
 refine Run.loop (fun m e g=>∃ i:Nat,m=96-i/\i<=96/\e=[(0,.yld L),(8,.agg (jd5 f)),(9,.i i)]/\I i g) (k:=96) Ze ⟨0,rfl,by omega,rfl,h0⟩ ?_
 rintro _ _ g ⟨i,rfl,hi,rfl,hIi⟩ n ih
 by_cases hlt:i<96
 case neg=>
  obtain rfl:i=96:=by omega
  have hlt' : ¬ ((96:Nat):Int)<96:=by omega
  refine qx1 ?_
  exact .inl hIi
 have hi1:((i+1:Nat):Int)=(i:Int)+1:=by omega
 refine qx1 ?_
 refine Ops.ixAn (m:=3) rfl rfl hlt (by rw [ja4];omega) (jg9 hlt) ?_
 refine Ops.make rfl rfl ?_
 refine qx1 ?_
 have o1:Old g ((g.new (.cells [.bool false,.i 0,.i 0] false)).set g.nx (.cells (plc (f i)) false)):=((Old.refl g).new).set (zq _)
 have I1:=hI _ _ _ hIi o1
 cases hf:f i with
 | some p=>
  rw [hf] at I1
  refine qm1 ?_
  exact ih (96-(i+1)) om _ _ ⟨i+1,rfl,by omega,by rw [hi1],hskip i _ hlt (by rw [hf];simp) I1⟩
 | none=>
  rw [hf] at I1
  obtain ⟨b,g',e1,q1,q2⟩:=hy i _ hlt hf I1
  cases b
  ·refine qm1 ?_
   refine Ops.yield rfl rfl e1 ?_
   refine qm1 ?_
   exact .inr (q2 rfl)
  ·refine qm1 ?_
   refine Ops.yield rfl rfl e1 ?_
   refine qm1 ?_
   exact ih (96-(i+1)) om _ _ ⟨i+1,rfl,by omega,by rw [hi1],q1 rfl⟩
theorem jnr {d:Nat} (hd:1<=d):cl d (.fn F.jgT) [.p w 0] h=some (.clo F.jch [.p h.nx 0],h.new (.cells [.p w 0] false)):=by
 refine jal (at_ hcl om rfl rfl rfl ?_)
 refine qx1 ?_
 refine Ops.make rfl rfl ?_
 refine qx1 ?_
 exact ⟨rfl,rfl⟩
theorem ww_Fds {d:Nat} {ws:Ws} (hd:2<=d) (a:WSt h w s ow ws now tb no) :
  ∃ v h',cl d (.fn F.jh0) [.p w 0] h=some (v,h')/\Row h.nx h' 1 v (fdsL ws 96).length (ints (fdsL ws 96))/\Old h h':=by
 obtain ⟨l,a,rfl⟩:=a
 obtain ⟨sa,c,hw,_⟩:=a.wf.head
 have hn:=jbC hcl (d:=d-1) om a.wf
 refine at_ hcl om rfl rfl rfl ?_
 refine qx1 ?_
 refine Ops.loadN rfl hw (by rw [jbr];omega) ?_
 rw [show 0+0=0 from rfl,jka]
 refine qx1 ?_
 refine Run.loop (fun m e g=>∃ (n:Nat) (v:V),m=96-n/\n<=96/\e=[(3,v),(12,.agg (jd5 fun i=>atS (wxs l) (i:Int))),(13,.i n)]/\Row h.nx g 1 v (fdsL (wxs l) n).length (ints (fdsL (wxs l) n))/\Old h g)
  (k:=96) Ze ⟨0,.nils,rfl,by omega,rfl,Row.nil _ _ _,Old.refl h⟩ ?_
 clear hw hn a
 rintro _ _ g ⟨n,v,rfl,hn,rfl,row,old⟩ fu ih
 by_cases hlt:n<96
 case neg=>
  obtain rfl:n=96:=by omega
  have hlt' : ¬ ((96:Nat):Int)<96:=by omega
  refine qx1 ?_
  exact ⟨row,old⟩
 have hn1:((n+1:Nat):Int)=(n:Int)+1:=by omega
 have hll:=jho (wxs l) n
 refine qx1 ?_
 refine Ops.ixAn (m:=3) rfl rfl hlt (by rw [ja4];omega) (jg9 hlt) ?_
 refine Ops.make rfl rfl ?_
 cases hf:atS (wxs l) (n:Int) with
 | none=>
  have hs:fdsL (wxs l) (n+1)=fdsL (wxs l) n:=by rw [jgd,hf];simp
  refine qm1 ?_
  refine ih (96-(n+1)) om _ _ ⟨n+1,v,rfl,by omega,by rw [hn1],?_,old.new.set old.1⟩
  rw [hs]
  exact row.keep Zd fun z hz=>by have:=(row.at_ge hz).2;rw [jaa om,jad this]
 | some p=>
  have hs:fdsL (wxs l) (n+1)=fdsL (wxs l) n++[(n:Int)]:=by rw [jgd,hf];rfl
  have row2:Row h.nx ((g.new (.cells [.bool false,.i 0,.i 0] false)).set g.nx (.cells [.bool true,.i p.1,.i p.2] false)) 1 v (fdsL (wxs l) n).length (ints (fdsL (wxs l) n)):=row.keep Zd fun z hz=>by have:=(row.at_ge hz).2;rw [jaa om,jad this]
  have old2:Old h ((g.new (.cells [.bool false,.i 0,.i 0] false)).set g.nx (.cells [.bool true,.i p.1,.i p.2] false)):=old.new.set old.1
  refine qx1 ?_
  refine Ops.storeN (vs:=[.bool true,.i p.1,.i p.2]) rfl rfl rfl rfl (jac _) (zu rfl) ?_
  rw [show jao [.bool false,.i 0,.i 0] 0 [.bool true,.i p.1,.i p.2]=[.bool true,.i p.1,.i p.2] from rfl]
  refine qx1 ?_
  refine Ops.push (N:=h.nx) (new:=[.i (n:Int)]) rfl rfl rfl rfl om rfl rfl row2 old2.1 om om fun v' g' row' hx' hz' hk'=>?_
  refine qx1 ?_
  refine ih (96-(n+1)) om _ _ ⟨n+1,v',rfl,by omega,by rw [hn1],?_,zA old2.1 hx',fun j hj=>?_⟩
  ·rw [hs,zg]
   simpa [ints] using row'
  ·rw [hk' j (zr hj old2.1) (fun e=>by have:=row2.at_ge e;omega),old2.2 j hj]
theorem jnq {d:Nat} {ws:Ws} {t:Int} (hd:2<=d) (a:WSt h w s ow ws now tb no) (n0:0<=now) (n1:now<=18446744073709551615) (t0:0<=t) (t1:t<=18446744073709551615) :
  ∃ h',cl d (.fn F.jee) [.p w 0,.int .u64 t] h=some (.tup [],h')/\WSt h' w s ow ws (jcn now t) tb no/\To h h' ow ow:=by
 obtain ⟨l,a,rfl⟩:=a
 have hn:=jbC hcl (d:=d-1) om a.wf
 obtain ⟨wv,hw,hr,hz⟩:=a.wf.hw
 have e0:=jnu (f:=fun i=>atS (wxs l) (i:Int)) (wv:=wv) (s:=s) (now:=now) (no:=no) (o:=0+290) rfl
 have es:jcn now t=now+min t (18446744073709551615-now):=by unfold jcn;split<;>omega
 have hlen:0+290<(wc (fun i=>atS (wxs l) (i:Int)) wv s now no).length:=by rw [jbr];omega
 refine jag (at_ hcl om rfl rfl rfl ?_)
 refine qx1 ?_
 refine Ops.store1 rfl rfl rfl hw hlen ?_
 rw [jmz rfl,<- es]
 refine qx1 ?_
 have hne : ∀ j,ow j≠1->j≠w:=fun j hj e=>hj (by rw [e,a.wf.tw])
 refine ⟨rfl,⟨l,⟨⟨⟨wv,jab _,hr.keep (zq _) fun z hz'=>jaa (hne z (by rw [hz z hz'];omega)),hz⟩,?_,a.wf.tw,a.wf.ts,a.wf.lw,a.wf.ls,a.wf.top,fun m t ht=>(a.wf.ok m t ht).keep (zq _) fun j h1 _=>jaa (hne j om)⟩,a.fds⟩,rfl⟩,Ch.set (by show ow w≠0;rw [a.wf.tw];omega),fun _ _=>rfl⟩
 rw [jaa (hne s (by rw [a.wf.ts];omega)),a.wf.hs]
end
theorem jey (ws:Ws) : ∀ (m n:Nat),n<=m->(jau ws m).take (jau ws n).length=jau ws n
 | 0,n,h=>by
  obtain rfl:n=0:=by omega
  simp
 | m+1,n,h=>by
  by_cases e:n=m+1
  ·subst e;simp
  ·have ih:=jey ws m n om
   have hl:(jau ws n).length<=(jau ws m).length:=by
    have:=congrArg List.length ih
    rw [List.length_take] at this
    omega
   rw [jc7,List.take_append_of_le_length hl,ih]
section
variable {cl:Nat->Call} (hcl:Sem cl) {h:H} {w s:Nat} {ow:Nat->Nat} {l:List WX} {now:Int} {tb:Tb} {no:Option (Nat × Nat)}
include hcl
theorem jgk {d k:Nat} (hd:5<=d) (hk:k=1\/k=2) (a:WW h w s ow l now tb no) (hlen:l.length<=1000) :
  ∃ v h',cl d (.fn F.jcT) [.p w 0,.i (k:Int)] h=some (.tup [v,.bool (decide (((jau (wxs l) 96).take k).length=k)&&decide (l.length<1000))],h')/\VI h' v ((jau (wxs l) 96).take k)/\(∀ z,v.at?=some z->h.nx<=z/\z<h'.nx)/\Old h h':=by
 obtain ⟨sa,c,hw,_⟩:=a.wf.head
 have lw:=a.wf.lw
 suffices q : ∃ v2 h',cl d (.fn F.jcT) [.p w 0,.i (k:Int)] h=some (v2,h') /\ ∃ v,v2 = .tup [v,.bool (decide (((jau (wxs l) 96).take k).length=k)&&decide (l.length<1000))]/\Row h.nx h' 1 v ((jau (wxs l) 96).take k).length (ints ((jau (wxs l) 96).take k))/\Old h h' by
  obtain ⟨_,h',e,v,rfl,r,o⟩:=q
  obtain ⟨p1,p2⟩:=VI.ofRow r
  exact ⟨v,h',e,p1,p2,o⟩
 refine at_ hcl om rfl rfl rfl ?_
 refine qx1 ?_
 refine Ops.make (ob := .cells [.i (k:Int)] false) (mk:=fun b=>.p b 0) rfl rfl ?_
 refine qx1 ?_
 refine Ops.make (ob := .cells [.nils] false) (mk:=fun b=>.p b 0) rfl rfl ?_
 refine qx1 ?_
 refine Ops.callf rfl (jnr hcl (w:=w) om) ?_
 rw [show ((h.new (.cells [.i (k:Int)] false)).new (.cells [.nils] false)).nx=h.nx+2 from rfl,show (h.new (.cells [.i (k:Int)] false)).nx=h.nx+1 from rfl]
 refine qx1 ?_
 have o1:Old h (((h.new (.cells [.i (k:Int)] false)).new (.cells [.nils] false)).new (.cells [.p w 0] false)):=(Old.refl h).new.new.new
 have b0:(((h.new (.cells [.i (k:Int)] false)).new (.cells [.nils] false)).new (.cells [.p w 0] false)).get h.nx=some (.cells [.i (k:Int)] false):=qgt
 have b1:(((h.new (.cells [.i (k:Int)] false)).new (.cells [.nils] false)).new (.cells [.p w 0] false)).get (h.nx+1)=some (.cells [.nils] false):=qgt
 have b2:(((h.new (.cells [.i (k:Int)] false)).new (.cells [.nils] false)).new (.cells [.p w 0] false)).get (h.nx+2)=some (.cells [.p w 0] false):=qgt
 have x1:(((h.new (.cells [.i (k:Int)] false)).new (.cells [.nils] false)).new (.cells [.p w 0] false)).nx=h.nx+3:=rfl
 generalize ((h.new (.cells [.i (k:Int)] false)).new (.cells [.nils] false)).new (.cells [.p w 0] false)=H1 at o1 b0 b1 b2 x1 ⊢
 refine Run.rangeFunc_lo rfl qkp fun LO hLO=>?_
 rw [x1]
 have oL:Old h (H1.new (LO .ready none)):=o1.new
 obtain ⟨v,h',hc,hIJ⟩:=jjZ hcl (d:=d-1) (L:=h.nx+3) (bx:=h.nx+2) (h:=H1.new (LO .ready none)) (f:=fun i=>atS (wxs l) (i:Int)) (s:=s) (now:=now) (no:=no) (w:=w) (wl:=wc (fun i=>atS (wxs l) (i:Int)) (.slice sa l.length c) s now no) om
  (fun i g=>(jau (wxs l) i).length<=k/\i<=96/\(∃ v,g.get (h.nx+1)=some (.cells [v] false)/\Row (h.nx+4) g 1 v (jau (wxs l) i).length (ints (jau (wxs l) i)))/\g.get h.nx=some (.cells [.i (k:Int)] false)/\g.get (h.nx+3)=some (LO .ready none)/\h.nx+4<=g.nx/\Old h g)
  (fun g=>(∃ v,g.get (h.nx+1)=some (.cells [v] false)/\Row (h.nx+4) g 1 v ((jau (wxs l) 96).take k).length (ints ((jau (wxs l) 96).take k)))/\g.get h.nx=some (.cells [.i (k:Int)] false)/\g.get (h.nx+3)=some (LO .done (some (.exit 0)))/\h.nx+4<=g.nx/\Old h g)
  (.inr (by rw [oL.2 _ lw,hw])) ⟨jbr,jka⟩ (by rw [jad om,b2])
  (by
   rintro i g g' ⟨p0,p00,⟨v,p1,p2⟩,p3,p4,p5,p6⟩ og
   exact ⟨p0,p00,⟨v,by rw [og.2 _ om,p1],p2.keep og.1 fun z hz=>og.2 z (p2.at_ge hz).2⟩,by rw [og.2 _ om,p3],by rw [og.2 _ om,p4],zA p5 og.1,p6.trans og⟩)
  (by
   rintro i g hi hf ⟨p0,p00,p1,p2⟩
   have e:jau (wxs l) (i+1)=jau (wxs l) i:=by
    have:(atS (wxs l) (i:Int)).isNone=false:=by cases h5:atS (wxs l) (i:Int)<;>simp_all
    rw [jc7,this];simp
   rw [e];exact ⟨p0,by omega,p1,p2⟩)
  (by
   rintro i g hi hf ⟨p0,p00,⟨v,p1,p2⟩,p3,p4,p5,p6⟩
   have hfi:atS (wxs l) (i:Int)=none:=hf
   have e:jau (wxs l) (i+1)=jau (wxs l) i++[(i:Int)]:=by rw [jc7,hfi];rfl
   have hll:=jib (wxs l) i
   obtain ⟨cp,⟨av,rfl⟩,_⟩:=p2.shape
   suffices q : ∃ v' g',cl (d-1-1) (.yld (h.nx+3)) [.i (i:Int)] g=some (v',g') /\ ∃ b:Bool,v' = .bool b/\(b=true->(jau (wxs l) (i+1)).length<=k/\i+1<=96/\(∃ v,g'.get (h.nx+1)=some (.cells [v] false)/\Row (h.nx+4) g' 1 v (jau (wxs l) (i+1)).length (ints (jau (wxs l) (i+1))))/\g'.get h.nx=some (.cells [.i (k:Int)] false)/\g'.get (h.nx+3)=some (LO .ready none)/\h.nx+4<=g'.nx/\Old h g') /\
     (b=false->(∃ v,g'.get (h.nx+1)=some (.cells [v] false)/\Row (h.nx+4) g' 1 v ((jau (wxs l) 96).take k).length (ints ((jau (wxs l) 96).take k)))/\g'.get h.nx=some (.cells [.i (k:Int)] false)/\g'.get (h.nx+3)=some (LO .done (some (.exit 0)))/\h.nx+4<=g'.nx/\Old h g') by
    obtain ⟨_,g',e,b,rfl,q⟩:=q
    exact ⟨b,g',e,q⟩
   refine yl_ hcl om hLO p4 rfl ?_
   refine qx1 ?_
   refine End.nil ⟨rfl,p4,?_⟩
   by_cases hck:(jau (wxs l) i).length=k
   ·have hck':((jau (wxs l) i).length:Int)=(k:Int):=by omega
    refine qx1 ?_
    refine End.nil ⟨⟨.busy,none,qgt⟩,false,rfl,fun e=>(by cases e),fun _=>⟨⟨_,qgt,?_⟩,qgt,jab _,by simpa using p5,?_⟩⟩
    ·rw [<- hck,jey _ 96 i om]
     exact p2.keep Zd fun z hz=>by have:=p2.at_ge hz;rw [jaa om,jaa om]
    ·exact (p6.set om).set om
   ·have hck' : ¬ ((jau (wxs l) i).length:Int)=(k:Int):=by omega
    refine qx1 ?_
    have p2':Row (h.nx+4) (g.set (h.nx+3) (LO .busy none)) 1 (.slice av (jau (wxs l) i).length cp) (jau (wxs l) i).length (ints (jau (wxs l) i)):=p2.keep Zd fun z hz=>by have:=p2.at_ge hz;exact jaa om
    refine Ops.push (N:=h.nx+4) (new:=[.i (i:Int)]) rfl rfl rfl rfl om rfl rfl p2' (by simpa using p5) om om fun v' g2 row' hx' hz' hk'=>?_
    have hx':g.nx<=g2.nx:=by simpa using hx'
    have hk2 : ∀ j,j<h.nx+4->g2.get j=(g.set (h.nx+3) (LO .busy none)).get j:=fun j hj=>hk' j Zc fun e=>by have:=p2'.at_ge e;omega
    have q1:g2.get (h.nx+1)=some (.cells [.slice av (jau (wxs l) i).length cp] false):=by rw [hk2 _ om];exact qgt
    have hone:=row'.one
    refine Ops.store1 rfl rfl hone q1 Nat.zero_lt_one ?_
    refine qx1 ?_
    refine End.nil ⟨⟨.busy,none,by rw [jaa om,hk2 _ om,jab]⟩,true,rfl,fun _=>⟨by rw [e,zg];simp;omega,by omega,⟨v',qgt,?_⟩,?_,jab _,by simp;omega,?_⟩,fun e=>by cases e⟩
    ·rw [e,zg]
     have r2:Row (h.nx+4) g2 1 v' ((jau (wxs l) i).length+[(i:Int)].length) (ints (jau (wxs l) i++[(i:Int)])):=by simpa [ints] using row'
     exact r2.keep Zd fun z hz=>by have:=hz' z hz;simp at this;rw [jaa om,jaa om]
    ·rw [jaa om,jaa om,hk2 _ om,jaa om,p3]
    ·have p7:=p6.1
     exact ⟨by simp;omega,fun j hj=>by rw [jaa om,jaa om,hk2 _ om,jaa om,p6.2 j hj]⟩)
  ⟨by simp [jau],by omega,⟨.nils,by rw [jad om,b1],by simpa [jau] using Row.nil _ _ _⟩,by rw [jad om,b0],by rw [<- x1,jac],by simp [x1],oL⟩
 refine ⟨v,h',hc,?_⟩
 have fin : ∀ (v:V) (g:H),g.get (h.nx+1)=some (.cells [v] false)->Row (h.nx+4) g 1 v ((jau (wxs l) 96).take k).length (ints ((jau (wxs l) 96).take k))->g.get h.nx=some (.cells [.i (k:Int)] false)->h.nx+4<=g.nx->Old h g ->
   End (cl (d-1)) fuel [.seq c137_1] .normal [(0,.p w 0),(3,.p h.nx 0),(6,.p (h.nx+1) 0),(9,.clo F.jch [.p (h.nx+2) 0])] (g.kill (h.nx+3)) (Fin c137.res fun v2 h'=>∃ v,v2 = .tup [v,.bool (decide (((jau (wxs l) 96).take k).length=k)&&decide (l.length<1000))]/\Row h.nx h' 1 v ((jau (wxs l) 96).take k).length (ints ((jau (wxs l) 96).take k))/\Old h h'):=by
  intro v g g1 r g0 gn og
  have hw':g.get w=some (.cells (wc (fun i=>atS (wxs l) (i:Int)) (.slice sa l.length c) s now no) false):=by rw [og.2 _ lw,hw]
  have k1:(g.kill (h.nx+3)).get (h.nx+1)=some (.cells [v] false):=by rw [jak om,g1]
  have k0:(g.kill (h.nx+3)).get h.nx=some (.cells [.i (k:Int)] false):=by rw [jak om,g0]
  have kw:(g.kill (h.nx+3)).get w=some (.cells (wc (fun i=>atS (wxs l) (i:Int)) (.slice sa l.length c) s now no) false):=by rw [jak om,hw']
  have w1:(wc (fun i=>atS (wxs l) (i:Int)) (.slice sa l.length c) s now no)[0+288]?=some (.slice sa l.length c):=jaO rfl
  have r2:Row h.nx (g.kill (h.nx+3)) 1 v ((jau (wxs l) 96).take k).length (ints ((jau (wxs l) 96).take k)):=(r.keep Zd fun z hz=>by have:=r.at_ge hz;exact jak om).weaken om
  have o2:Old h (g.kill (h.nx+3)):=⟨by simpa using og.1,fun j hj=>by rw [jak om,og.2 j hj]⟩
  obtain ⟨cp,⟨av,rfl⟩,_⟩:=r.shape
  generalize (jau (wxs l) 96).take k=fl at r2 k1 ⊢
  by_cases h1:(fl.length:Int)=(k:Int)
  ·have h1':fl.length=k:=by omega
   refine qx1 ?_
   have el:decide (l.length<1000)=decide ((l.length:Int)<1000):=by
    by_cases e:l.length<1000
    ·rw [decide_eq_true e,decide_eq_true om]
    ·rw [decide_eq_false e,decide_eq_false om]
   refine ⟨_,?_,r2,o2⟩
   rw [decide_eq_true h1',Bool.true_and,el]
  ·have h1' : ¬ fl.length=k:=by omega
   refine qx1 ?_
   exact ⟨_,by rw [decide_eq_false h1',Bool.false_and],r2,o2⟩
 rcases hIJ with ⟨p0,_,⟨v,p1,p2⟩,p3,p4,p5,p6⟩ | ⟨⟨v,p1,p2⟩,p3,p4,p5,p6⟩
 ·refine ⟨.normal,p4,?_⟩
  have et:(jau (wxs l) 96).take k=jau (wxs l) 96:=zh p0
  have:=fin v h' p1 (by rw [et];exact p2) p3 p5 p6
  exact zbw this
 ·refine ⟨.exit 0,p4,?_⟩
  have:=fin v h' p1 p2 p3 p5 p6
  exact zby this
end
def jpa (n:Nat):Wi:=⟨⟨0,0,some [],true,false,0,0⟩,⟨0,0,some [],true,false,0,0⟩,n,false,0,[]⟩
def jmG (bb n:Nat):Obj := .cells [.slice (some (bb,0)) n (.fix n),.i 0,.i 0,.int .u64 0,.int .u64 0,.bool true] false
def bufO (n:Nat):Obj := .cells (List.replicate n (.int .u8 0)) false
theorem jeF {h:H} {r bb n:Nat} (h1:1<=n) (h2:n<=65536) (hr:h.get r=some (jmG bb n)) (hb:h.get bb=some (bufO n)):ja0 h r bb [] n:=by
 refine ⟨List.replicate n 0,0,0,0,⟨hr,?_⟩,?_⟩
 ·rw [hb];simp [bufO,bts];exact .inr rfl
 ·exact ⟨by simp,h1,Nat.zero_le _,h2,fun i hi=>absurd hi (Nat.not_lt_zero _)⟩
def tg:Nat->Nat
 | 0=>0
 | 1=>2
 | 2=>1
 | 3=>4
 | _=>3
def jg1 (ow:Nat->Nat) (N L m z:Nat):Nat->Nat:=fun j=>if j=z then 2 else if N<=j/\j<N+m then 10*L+10+tg (j-N) else ow j
theorem jnL {ow:Nat->Nat} {N L m z:Nat} : jg1 ow N L m z z=2:=if_pos rfl
theorem jnM {ow:Nat->Nat} {N L m z i:Nat} (h:i<m) (hz:N+i≠z):jg1 ow N L m z (N+i)=10*L+10+tg i:=by
 unfold jg1
 rw [if_neg hz,if_pos om,show N+i-N=i by omega]
theorem jg0 {ow:Nat->Nat} {N L m z j:Nat} (h:j<N\/N+m<=j) (hz:j≠z):jg1 ow N L m z j=ow j:=by
 unfold jg1
 rw [if_neg hz,if_neg om]
theorem XOk.tag0 {h:H} {ow ow':Nat->Nat} {n:Nat} {t:WX} (a:XOk h ow n t) (hk : ∀ j,ow j≠0->ow' j=ow j):XOk h ow' n t:=by
 refine ⟨a.hx,by rw [hk _ (by rw [a.ox];omega),a.ox],a.lx,fun k h01 q hq=>?_,a.wait.1,fun hl z hz=>?_⟩
 ·obtain ⟨p1,p2,p3,p4,p5⟩:=a.ring k h01 q hq
  exact ⟨p1,by rw [hk _ om,p2],by rw [hk _ om,p3],p4,p5⟩
 ·obtain ⟨p1,p2⟩:=a.wait.2 hl z hz
  exact ⟨by rw [hk _ om,p1],p2⟩
theorem WF.push {h h':H} {w s:Nat} {ow:Nat->Nat} {f g:Nat->Option (Nat × Nat)} {l:List WX} {now:Int} {tb:Tb} {no:Option (Nat × Nat)} {m z N:Nat} {wv:V} {t:WX} (a:WF h w s ow f l now tb no)
  (hm:m=1\/m=5) (hN:N+m<=h.nx) (h0 : ∀ j,N<=j->j<N+m->ow j=0) (hx:h.nx<=z) (hz:z<h'.nx) (hk : ∀ j,ow j≠0->ow j≠2->j≠w->h'.get j=h.get j)
  (hw:h'.get w=some (.cells (wc g wv s now no) false)) (row:Row 0 h' 1 wv (l.length+1) (wps l++[.p N 0])) (hat : ∀ y,wv.at?=some y->y=z)
  (t0:t.wb=N) (t1:m=5->t.b0=N+1/\t.r0=N+2/\t.b1=N+3/\t.r1=N+4)
  (ho:h'.get N=some (t.x.obj t.r0 t.r1 t.wv)) (hwt:t.x.waiting=[]) (hwv:t.wv = .nils)
  (hr : ∀ k,k=0\/k=1 -> ∀ q,(t.x.e k).ring=some q->m=5/\ja0 h' (t.r k) (t.b k) q t.x.cap) :
  WF h' w s (jg1 ow N l.length m z) g (l++[t]) now tb no:=by
 have hz0:ow z=0:=a.top z hx
 have keep : ∀ j,ow j≠0->jg1 ow N l.length m z j=ow j:=fun j hj=>jg0 (by
  rcases zx j N with h1 | h1
  ·exact .inl h1
  ·rcases zx j (N+m) with h2 | h2
   ·exact absurd (h0 j h1 h2) hj
   ·exact .inr h2) fun e=>hj (by rw [e,hz0])
 have nx:h.nx<=h'.nx:=by omega
 refine ⟨⟨wv,hw,?_,fun y hy=>by rw [hat y hy,jnL]⟩,?_,?_,?_,zr a.lw nx,zr a.ls nx,fun j hj=>?_,fun n u hu=>?_⟩
 ·rw [zg]
  show Row 0 h' 1 wv (l.length+1) (wps (l++[t]))
  have:wps (l++[t])=wps l++[.p N 0]:=by rw [<- t0];simp
  rw [this];exact row
 ·rw [hk s (by rw [a.ts];omega) (by rw [a.ts];omega) (fun e=>by have:=a.ts;rw [e,a.tw] at this;omega),a.hs]
 ·rw [keep w (by rw [a.tw];omega),a.tw]
 ·rw [keep s (by rw [a.ts];omega),a.ts]
 ·rw [jg0 om om,a.top j om]
 ·rcases zx n l.length with hn | hn
  ·rw [ze,if_pos hn] at hu
   have o:=(a.ok n u hu).tag0 keep
   refine o.keep nx fun j j1 j2=>?_
   have hj:ow j≠0:=by
    intro e
    rcases zx j N with h1 | h1
    ·by_cases ez:j=z
     ·omega
     ·rw [jg0 (.inl h1) ez,e] at j1;omega
    ·by_cases ez:j=z
     ·rw [ez,jnL] at j1;omega
     ·rcases zx j (N+m) with h2 | h2
      ·obtain ⟨i,rfl⟩ : ∃ i,j=N+i:=⟨j-N,by omega⟩
       rw [jnM om ez] at j2;omega
      ·rw [jg0 (.inr h2) ez,e] at j1;omega
   refine hk j hj (fun e=>?_) fun e=>?_
   ·rw [keep j hj,e] at j1;omega
   ·rw [keep j hj,e,a.tw] at j1;omega
  ·rw [ze,if_neg om] at hu
   have e0:n-l.length=0:=by
    rcases Nat.eq_zero_or_pos (n-l.length) with e | e
    ·exact e
    ·rw [zd (show 1<=_ from e)] at hu;cases hu
   rw [e0] at hu
   cases hu
   obtain rfl:n=l.length:=by omega
   have tag : ∀ i,i<m->jg1 ow N l.length m z (N+i)=10*l.length+10+tg i:=fun i hi=>jnM hi om
   refine ⟨by rw [t0];exact ho,by rw [t0];exact tag 0 om,by rw [t0];omega,fun k hk q hq=>?_,by rw [hwt,hwv];exact VI.nil h',fun hl=>absurd hwt hl⟩
   obtain ⟨r1,r2⟩:=hr k hk q hq
   obtain ⟨p1,p2,p3,p4⟩:=t1 r1
   refine ⟨r2,?_⟩
   rcases hk with rfl | rfl
   ·show jg1 ow N l.length m z t.r0=_/\jg1 ow N l.length m z t.b0=_/\t.r0<h'.nx/\t.b0<h'.nx
    rw [p1,p2]
    exact ⟨tag 2 om,tag 1 om,by omega,by omega⟩
   ·show jg1 ow N l.length m z t.r1=_/\jg1 ow N l.length m z t.b1=_/\t.r1<h'.nx/\t.b1<h'.nx
    rw [p3,p4]
    exact ⟨tag 4 om,tag 3 om,by omega,by omega⟩
theorem End.opqh {call:Call} {fuel:Nat} {K:List Fr} {x:Ex} {e:Env} {h:H} {Q:Post} (k : ∀ G,G=h->End call fuel K x e G Q):End call fuel K x e h Q:=k h rfl
section
variable {cl:Nat->Call} (hcl:Sem cl)
include hcl
theorem jiK {d:Nat} {h:H} {n:Int} (hd:1<=d) (hn:n<0\/65536<n):cl d (.fn F.jlY) [.i n] h=some (.tup [.ptr none,.i 2],h):=by
 refine jal (at_ hcl om rfl rfl rfl ?_)
 rcases hn with hn | hn
 ·refine qx1 ?_
  exact ⟨rfl,rfl⟩
 ·by_cases h0:n<0
  ·exfalso;omega
  ·refine qx1 ?_
   exact ⟨rfl,rfl⟩
theorem jnn {d:Nat} {h:H} {n:Nat} (hd:2<=d) (h2:n<=65536) :
  ∃ h',cl d (.fn F.jgm) [.i (n:Int)] h=some (.p h.nx 0,h')/\h'.nx=h.nx+5/\Old h h'/\h'.get h.nx=some ((jpa n).obj (h.nx+2) (h.nx+4) .nils)/\h'.get (h.nx+2)=some (jmG (h.nx+1) n)/\h'.get (h.nx+1)=some (bufO n)/\h'.get (h.nx+4)=some (jmG (h.nx+3) n)/\h'.get (h.nx+3)=some (bufO n):=by
 refine jag (at_ hcl om rfl rfl rfl ?_)
 refine qm1 ?_
 refine Run.unroll (n:=99999) rfl ?_
 refine qm1 ?_
 refine Ops.callf rfl (jo7 hcl (n:=n) om h2) ?_
 refine qm1 ?_
 refine End.opqh fun G hG=>?_
 have x1:G.nx=h.nx+3:=by rw [hG];rfl
 have o1:Old h G:=by
  rw [hG]
  repeat (first | exact Old.refl _ | refine Old.new ?_ | refine Old.set ?_ (zq _))
 have g0:G.get h.nx=some (.cells [.i 0,.i 0,.p (h.nx+2) 0,.bool true,.bool false,.int .u64 0,.int .u64 0,.i 0,.i 0,.ptr none,.bool false,.bool false,.int .u64 0,.int .u64 0,.bool false,.i 0,.nils] false):=by
  rw [hG];exact jab _
 have g1:G.get (h.nx+1)=some (bufO n):=by
  rw [hG];rw [jaa om,jaa om,jad (Nat.lt_succ_self _)];exact jac _
 have g2:G.get (h.nx+2)=some (jmG (h.nx+1) n):=by
  rw [hG];rw [jaa om,jaa om];exact jac _
 clear hG
 refine End.unroll ?_
 refine qm1 ?_
 refine Ops.callf rfl (jo7 hcl (n:=n) om h2) ?_
 have g0':((G.new (.cells (List.replicate n (.int .u8 0)) false)).new (.cells [.slice (some (G.nx,0)) n (.fix n),.i 0,.i 0,.int .u64 0,.int .u64 0,.bool true] false)).get h.nx=G.get h.nx:=by
  rw [jad Zc,jad om]
 rw [g0] at g0'
 refine qm1 ?_
 refine End.opqh fun G2 hG2=>?_
 have x2:G2.nx=h.nx+5:=by rw [hG2];show G.nx+1+1=_;omega
 have o2:Old h G2:=by
  rw [hG2]
  repeat (first | exact o1 | refine Old.new ?_ | refine Old.set ?_ (zq _))
 have k0:G2.get h.nx=some ((jpa n).obj (h.nx+2) (h.nx+4) .nils):=by
  rw [hG2];refine (jab _).trans ?_
  have:G.nx+1=h.nx+4:=by omega
  rw [<- this];rfl
 have k1:G2.get (h.nx+1)=some (bufO n):=by
  rw [hG2];rw [jaa om,jaa om,jad Zc,jad om];exact g1
 have k2:G2.get (h.nx+2)=some (jmG (h.nx+1) n):=by
  rw [hG2];rw [jaa om,jaa om,jad Zc,jad om];exact g2
 have k3:G2.get (h.nx+3)=some (bufO n):=by
  rw [hG2,<- x1];rw [jaa om,jaa om,jad Zd];exact jac _
 have k4:G2.get (h.nx+4)=some (jmG (h.nx+3) n):=by
  have e:h.nx+4=G.nx+1:=by omega
  rw [hG2,e,<- x1];rw [jaa om,jaa om];exact jac _
 clear hG2
 refine End.unroll ?_
 refine qm1 ?_
 exact ⟨rfl,x2,o2,k0,k2,k1,k4,k3⟩
theorem jkU {d:Nat} {h:H} {n:Int} (hd:2<=d) (hn:n<0\/65536<n) :
  ∃ h',cl d (.fn F.jgm) [.i n] h=some (.p h.nx 0,h')/\h'.nx=h.nx+1/\Old h h'/\h'.get h.nx=some ((⟨⟨0,0,none,true,false,0,0⟩,⟨0,0,none,true,false,0,0⟩,0,false,0,[]⟩:Wi).obj 0 0 .nils):=by
 refine jag (at_ hcl om rfl rfl rfl ?_)
 refine qm1 ?_
 refine Run.unroll (n:=99999) rfl ?_
 refine qm1 ?_
 refine Ops.callf rfl (jiK hcl (n:=n) om hn) ?_
 refine qm1 ?_
 refine End.opqh fun G hG=>?_
 have x1:G.nx=h.nx+1:=by rw [hG];rfl
 have o1:Old h G:=by
  rw [hG]
  repeat (first | exact Old.refl _ | refine Old.new ?_ | refine Old.set ?_ (zq _))
 have g0:G.get h.nx=some (.cells [.i 0,.i 0,.ptr none,.bool true,.bool false,.int .u64 0,.int .u64 0,.i 0,.i 0,.ptr none,.bool false,.bool false,.int .u64 0,.int .u64 0,.bool false,.i 0,.nils] false):=by
  rw [hG];exact jab _
 clear hG
 refine End.unroll ?_
 refine qm1 ?_
 refine Ops.callf rfl (jiK hcl (n:=n) om (by assumption)) ?_
 refine qm1 ?_
 refine End.opqh fun G2 hG2=>?_
 have x2:G2.nx=h.nx+1:=by rw [hG2];exact x1
 have o2:Old h G2:=by
  rw [hG2]
  repeat (first | exact o1 | refine Old.new ?_ | refine Old.set ?_ (zq _))
 have k0:G2.get h.nx=some ((⟨⟨0,0,none,true,false,0,0⟩,⟨0,0,none,true,false,0,0⟩,0,false,0,[]⟩:Wi).obj 0 0 .nils):=by
  rw [hG2];exact jab _
 clear hG2
 refine End.unroll ?_
 refine qm1 ?_
 exact ⟨rfl,x2,o2,k0⟩
end
def Wi.name (x:Wi) (k:Nat) (i:Nat):Wi:=x.put k { x.e k with what:=1,fd:=i }
structure Opened (h h':H) (w s N:Nat) (ow:Nat->Nat) (g:Nat->Option (Nat × Nat)) (l:List WX) (now:Int) (no:Option (Nat × Nat)) (o:Obj):Prop where
 ho:h'.get N=some o
 hw : ∃ wv z,h'.get w=some (.cells (wc g wv s now no) false)/\Row 0 h' 1 wv (l.length+1) (wps l++[.p N 0])/\(∀ y,wv.at?=some y->y=z)/\h.nx<=z/\z<h'.nx
 hk : ∀ j,j<h.nx->j≠N->j≠w->ow j≠2->h'.get j=h.get j
 nx:h.nx<=h'.nx
theorem Ops.opqh {call:Call} {fuel base:Nat} {ops:List Ins} {keep:List Nat} {K:List Fr} {e:Env} {h:H} {Q:Post} (k : ∀ G,G=h->Ops call fuel base ops keep K e G Q):Ops call fuel base ops keep K e h Q:=k h rfl
section
variable {cl:Nat->Call} (hcl:Sem cl) {h:H} {w s:Nat} {ow:Nat->Nat} {f:Nat->Option (Nat × Nat)} {l:List WX} {now:Int} {tb:Tb} {no:Option (Nat × Nat)}
include hcl
theorem xp_open1 {d N i0:Nat} {vf wv:V} {x:Wi} {r0 r1:Nat} (hd:1<=d) (a:WF h w s ow f l now tb no) (hN:h.get N=some (x.obj r0 r1 wv)) (hN0:ow N=0) (hNl:N<h.nx) (hl:l.length<1000) (vi:VI h vf [(i0:Int)]) (vz : ∀ z,vf.at?=some z->ow z=0/\z≠N) (hi:i0<96) :
  ∃ h',cl d (.fn F.jeb) [.p w 0,.p N 0,vf] h=some (.tup [],h')/\Opened h h' w s N ow (fun j=>if j=i0 then some (l.length,0) else f j) l now no ((x.name 0 i0).obj r0 r1 wv):=by
 obtain ⟨wv0,hw,row,hz⟩:=a.hw
 obtain ⟨cp,⟨av,rfl⟩,_⟩:=row.shape
 obtain ⟨af,cf,rfl,_⟩:=id vi
 obtain ⟨b,of,cs,ro,rfl,hcs,hc0⟩:=VI.cell (l:=[(i0:Int)]) vi (i:=0) (x:=(i0:Int)) rfl
 have hNw:N≠w:=fun e=>by have:=a.tw;rw [<- e] at this;omega
 have hbN:=vz b rfl
 have hwN:w≠N:=fun e=>hNw e.symm
 have c1:(wc f (.slice av l.length cp) s now no)[0+288]?=some (.slice av l.length cp):=jaO rfl
 obtain ⟨⟨a0,b0,c0,d0,e0,f0,g0⟩,⟨a1,b1,c1',d1,e1,f1,g1⟩,cap,rs,bl,wt⟩:=x
 simp only [Wi.obj,Wi.cells,En.cells,List.cons_append,List.nil_append] at hN
 refine jag (at_ hcl om rfl rfl rfl ?_)
 refine qm1 ?_
 refine Run.unroll (n:=99999) rfl ?_
 refine qm1 ?_
 refine Ops.opqh fun H1 hH1=>?_
 have n1:H1.nx=h.nx:=by rw [hH1];rfl
 have k1 : ∀ j,j≠N->H1.get j=h.get j:=by intro j hj;rw [hH1,jaa hj,jaa hj]
 have q1:H1.get N=some (.cells [.i 1,.i i0,En.ptr c0 r0,.bool d0,.bool e0,.int .u64 f0,.int .u64 g0,.i a1,.i b1,En.ptr c1' r1,.bool d1,.bool e1,.int .u64 f1,.int .u64 g1,.bool rs,.i bl,wv] false):=by rw [hH1];exact jab _
 clear hH1
 have hw1:H1.get w=some (.cells (wc f (.slice av l.length cp) s now no) false):=by rw [k1 w hwN,hw]
 have e3:jao (wc f (.slice av l.length cp) s now no) (0+0+(i0:Int).toNat*3) [.bool true,.i (l.length:Int),.i 0]=wc (fun j=>if j=i0 then some (l.length,0) else f j) (.slice av l.length cp) s now no:=jf5 (p:=some (l.length,0)) hi om fun j _=>rfl
 have hlen:0+0+(i0:Int).toNat*3+3<=(wc f (.slice av l.length cp) s now no).length:=by rw [jbr];omega
 refine Ops.storeN (vs:=[.bool true,.i (l.length:Int),.i 0]) rfl rfl rfl rfl hw1 hlen ?_
 rw [e3]
 clear e3 hlen
 refine qm1 ?_
 refine End.opqh fun H2 hH2=>?_
 have n2:H2.nx=h.nx:=by rw [hH2];exact n1
 have k2 : ∀ j,j≠N->j≠w->H2.get j=h.get j:=by intro j hj hj2;rw [hH2,jaa hj2,k1 j hj]
 have q2:H2.get N=some (.cells [.i 1,.i i0,En.ptr c0 r0,.bool d0,.bool e0,.int .u64 f0,.int .u64 g0,.i a1,.i b1,En.ptr c1' r1,.bool d1,.bool e1,.int .u64 f1,.int .u64 g1,.bool rs,.i bl,wv] false):=by rw [hH2,jaa hNw,q1]
 have hw2:H2.get w=some (.cells (wc (fun j=>if j=i0 then some (l.length,0) else f j) (.slice av l.length cp) s now no) false):=by rw [hH2,jab]
 clear hH2 hw1 q1 k1
 generalize hg:(fun j=>if j=i0 then some (l.length,0) else f j)=g at hw2 ⊢
 have c2:(wc g (.slice av l.length cp) s now no)[0+288]?=some (.slice av l.length cp):=jaO rfl
 refine End.unroll ?_
 refine qx1 ?_
 have hzN : ∀ z,(V.slice av l.length cp).at?=some z->z≠N/\z≠w:=fun z e=>⟨fun e2=>by have:=hz z e;rw [e2,hN0] at this;omega,fun e2=>by have:=hz z e;rw [e2,a.tw] at this;omega⟩
 have row2:Row 0 H2 1 (.slice av l.length cp) l.length (wps l):=row.keep om fun z e=>k2 z (hzN z e).1 (hzN z e).2
 refine Ops.push (N:=0) (new:=[.p N 0]) rfl rfl rfl rfl om rfl rfl row2 (Nat.zero_le _) om om fun v' H3 row3 hx3 hz3 hk3=>?_
 have k3 : ∀ j,j<h.nx->ow j≠2->H3.get j=H2.get j:=fun j hj ho=>hk3 j om fun e=>ho (hz j e)
 have hw3:H3.get w=some (.cells (wc g (.slice av l.length cp) s now no) false):=by rw [k3 w a.lw (by rw [a.tw];omega),hw2]
 have q3:H3.get N=some (.cells [.i 1,.i i0,En.ptr c0 r0,.bool d0,.bool e0,.int .u64 f0,.int .u64 g0,.i a1,.i b1,En.ptr c1' r1,.bool d1,.bool e1,.int .u64 f1,.int .u64 g1,.bool rs,.i bl,wv] false):=by rw [k3 N hNl om,q2]
 have hlen:0+288<(wc g (.slice av l.length cp) s now no).length:=by rw [jbr];omega
 have hone:=row3.one
 refine qx1 ?_
 refine Ops.store1 rfl rfl hone hw3 hlen ?_
 rw [jen rfl]
 refine qx1 ?_
 have hzw : ∀ z,v'.at?=some z->z≠w:=fun z e=>by have:=hz3 z e;have:=a.lw;omega
 refine ⟨rfl,by rw [jaa hNw,q3];rfl,⟨v',?_⟩,fun j hj h1 h2 h3=>by rw [jaa h2,k3 j hj h3,k2 j h1 h2],by show h.nx<=H3.nx;omega⟩
 rcases id row3 with ⟨h0,_⟩ | ⟨z,_,z1,rfl,_,_⟩
 ·omega
 ·refine ⟨z,jab _,row3.keep (zq _) fun y e=>jaa (hzw y e),fun y e=>by cases e;rfl,by have:=hz3 z rfl;omega,z1⟩
theorem xp_open2 {d N i0 i1:Nat} {vf wv:V} {x:Wi} {r0 r1:Nat} (hd:1<=d) (a:WF h w s ow f l now tb no) (hN:h.get N=some (x.obj r0 r1 wv)) (hN0:ow N=0) (hNl:N<h.nx) (hl:l.length<1000) (vi:VI h vf [(i0:Int),(i1:Int)]) (vz : ∀ z,vf.at?=some z->ow z=0/\z≠N) (hi:i0<96) (hi1:i1<96) :
  ∃ h',cl d (.fn F.jeb) [.p w 0,.p N 0,vf] h=some (.tup [],h')/\Opened h h' w s N ow (fun j=>if j=i1 then some (l.length,1) else if j=i0 then some (l.length,0) else f j) l now no (((x.name 0 i0).name 1 i1).obj r0 r1 wv):=by
 obtain ⟨wv0,hw,row,hz⟩:=a.hw
 obtain ⟨cp,⟨av,rfl⟩,_⟩:=row.shape
 obtain ⟨af,cf,rfl,_⟩:=id vi
 obtain ⟨b,of,cs,ro,rfl,hcs,hc0⟩:=VI.cell (l:=[(i0:Int),(i1:Int)]) vi (i:=0) (x:=(i0:Int)) rfl
 obtain ⟨_,_,_,_,e0,ecs,hc1⟩:=VI.cell (l:=[(i0:Int),(i1:Int)]) vi (i:=1) (x:=(i1:Int)) rfl
 cases e0
 rw [hcs] at ecs;cases ecs
 have hNw:N≠w:=fun e=>by have:=a.tw;rw [<- e] at this;omega
 have hbN:=vz b rfl
 have hwN:w≠N:=fun e=>hNw e.symm
 have hbw:b≠w:=fun e=>by have:=a.tw;rw [<- e] at this;omega
 have c1:(wc f (.slice av l.length cp) s now no)[0+288]?=some (.slice av l.length cp):=jaO rfl
 obtain ⟨⟨a0,b0,c0,d0,e0,f0,g0⟩,⟨a1,b1,c1',d1,e1,f1,g1⟩,cap,rs,bl,wt⟩:=x
 simp only [Wi.obj,Wi.cells,En.cells,List.cons_append,List.nil_append] at hN
 refine jag (at_ hcl om rfl rfl rfl ?_)
 refine qm1 ?_
 refine Run.unroll (n:=99999) rfl ?_
 refine qm1 ?_
 refine Ops.opqh fun H1 hH1=>?_
 have n1:H1.nx=h.nx:=by rw [hH1];rfl
 have k1 : ∀ j,j≠N->H1.get j=h.get j:=by intro j hj;rw [hH1,jaa hj,jaa hj]
 have q1:H1.get N=some (.cells [.i 1,.i i0,En.ptr c0 r0,.bool d0,.bool e0,.int .u64 f0,.int .u64 g0,.i a1,.i b1,En.ptr c1' r1,.bool d1,.bool e1,.int .u64 f1,.int .u64 g1,.bool rs,.i bl,wv] false):=by rw [hH1];exact jab _
 clear hH1
 have hw1:H1.get w=some (.cells (wc f (.slice av l.length cp) s now no) false):=by rw [k1 w hwN,hw]
 have e3:jao (wc f (.slice av l.length cp) s now no) (0+0+(i0:Int).toNat*3) [.bool true,.i (l.length:Int),.i 0]=wc (fun j=>if j=i0 then some (l.length,0) else f j) (.slice av l.length cp) s now no:=jf5 (p:=some (l.length,0)) hi om fun j _=>rfl
 have hlen:0+0+(i0:Int).toNat*3+3<=(wc f (.slice av l.length cp) s now no).length:=by rw [jbr];omega
 refine Ops.storeN (vs:=[.bool true,.i (l.length:Int),.i 0]) rfl rfl rfl rfl hw1 hlen ?_
 rw [e3]
 clear e3 hlen
 refine qm1 ?_
 refine End.opqh fun H2 hH2=>?_
 have n2:H2.nx=h.nx:=by rw [hH2];exact n1
 have k2 : ∀ j,j≠N->j≠w->H2.get j=h.get j:=by intro j hj hj2;rw [hH2,jaa hj2,k1 j hj]
 have q2:H2.get N=some (.cells [.i 1,.i i0,En.ptr c0 r0,.bool d0,.bool e0,.int .u64 f0,.int .u64 g0,.i a1,.i b1,En.ptr c1' r1,.bool d1,.bool e1,.int .u64 f1,.int .u64 g1,.bool rs,.i bl,wv] false):=by rw [hH2,jaa hNw,q1]
 have hw2:H2.get w=some (.cells (wc (fun j=>if j=i0 then some (l.length,0) else f j) (.slice av l.length cp) s now no) false):=by rw [hH2,jab]
 clear hH2 hw1 q1 k1
 obtain ⟨fA,hfA⟩ : ∃ fA,(fun j=>if j=i0 then some (l.length,0) else f j)=fA:=⟨_,rfl⟩
 rw [hfA] at hw2
 have c2A:(wc fA (.slice av l.length cp) s now no)[0+288]?=some (.slice av l.length cp):=jaO rfl
 have hcs2:H2.get b=some (.cells cs ro):=by rw [k2 b hbN.2 hbw,hcs]
 refine End.unroll ?_
 refine qm1 ?_
 refine Ops.opqh fun H4 hH4=>?_
 have n4:H4.nx=h.nx:=by rw [hH4];exact n2
 have k4 : ∀ j,j≠N->H4.get j=H2.get j:=by intro j hj;rw [hH4,jaa hj,jaa hj]
 have q4:H4.get N=some (.cells [.i 1,.i i0,En.ptr c0 r0,.bool d0,.bool e0,.int .u64 f0,.int .u64 g0,.i 1,.i i1,En.ptr c1' r1,.bool d1,.bool e1,.int .u64 f1,.int .u64 g1,.bool rs,.i bl,wv] false):=by rw [hH4];exact jab _
 clear hH4
 have hw4:H4.get w=some (.cells (wc fA (.slice av l.length cp) s now no) false):=by rw [k4 w hwN,hw2]
 have e3:jao (wc fA (.slice av l.length cp) s now no) (0+0+(i1:Int).toNat*3) [.bool true,.i (l.length:Int),.i 1]=wc (fun j=>if j=i1 then some (l.length,1) else fA j) (.slice av l.length cp) s now no:=jf5 (p:=some (l.length,1)) hi1 om fun j _=>rfl
 have hlen:0+0+(i1:Int).toNat*3+3<=(wc fA (.slice av l.length cp) s now no).length:=by rw [jbr];omega
 refine Ops.storeN (vs:=[.bool true,.i (l.length:Int),.i 1]) rfl rfl rfl rfl hw4 hlen ?_
 rw [e3]
 clear e3 hlen
 refine qm1 ?_
 refine End.opqh fun H5 hH5=>?_
 have n5:H5.nx=h.nx:=by rw [hH5];exact n4
 have k5 : ∀ j,j≠N->j≠w->H5.get j=h.get j:=by intro j hj hj2;rw [hH5,jaa hj2,k4 j hj,k2 j hj hj2]
 have q5:H5.get N=some (.cells [.i 1,.i i0,En.ptr c0 r0,.bool d0,.bool e0,.int .u64 f0,.int .u64 g0,.i 1,.i i1,En.ptr c1' r1,.bool d1,.bool e1,.int .u64 f1,.int .u64 g1,.bool rs,.i bl,wv] false):=by rw [hH5,jaa hNw,q4]
 have hw5:H5.get w=some (.cells (wc (fun j=>if j=i1 then some (l.length,1) else fA j) (.slice av l.length cp) s now no) false):=by rw [hH5,jab]
 clear hH5 hw4 q4 k4 c2A hcs2
 have hgA:(fun j=>if j=i1 then some (l.length,1) else fA j)=fun j=>if j=i1 then some (l.length,1) else if j=i0 then some (l.length,0) else f j:=by rw [<- hfA]
 rw [hgA] at hw5
 clear hgA hfA
 generalize hg:(fun j=>if j=i1 then some (l.length,1) else if j=i0 then some (l.length,0) else f j)=g at hw5 ⊢
 have c2:(wc g (.slice av l.length cp) s now no)[0+288]?=some (.slice av l.length cp):=jaO rfl
 refine End.unroll ?_
 refine qx1 ?_
 have hzN : ∀ z,(V.slice av l.length cp).at?=some z->z≠N/\z≠w:=fun z e=>⟨fun e2=>by have:=hz z e;rw [e2,hN0] at this;omega,fun e2=>by have:=hz z e;rw [e2,a.tw] at this;omega⟩
 have row2:Row 0 H5 1 (.slice av l.length cp) l.length (wps l):=row.keep om fun z e=>k5 z (hzN z e).1 (hzN z e).2
 refine Ops.push (N:=0) (new:=[.p N 0]) rfl rfl rfl rfl om rfl rfl row2 (Nat.zero_le _) om om fun v' H3 row3 hx3 hz3 hk3=>?_
 have k3 : ∀ j,j<h.nx->ow j≠2->H3.get j=H5.get j:=fun j hj ho=>hk3 j om fun e=>ho (hz j e)
 have hw3:H3.get w=some (.cells (wc g (.slice av l.length cp) s now no) false):=by rw [k3 w a.lw (by rw [a.tw];omega),hw5]
 have q3:H3.get N=some (.cells [.i 1,.i i0,En.ptr c0 r0,.bool d0,.bool e0,.int .u64 f0,.int .u64 g0,.i 1,.i i1,En.ptr c1' r1,.bool d1,.bool e1,.int .u64 f1,.int .u64 g1,.bool rs,.i bl,wv] false):=by rw [k3 N hNl om,q5]
 have hlen:0+288<(wc g (.slice av l.length cp) s now no).length:=by rw [jbr];omega
 have hone:=row3.one
 refine qx1 ?_
 refine Ops.store1 rfl rfl hone hw3 hlen ?_
 rw [jen rfl]
 refine qx1 ?_
 have hzw : ∀ z,v'.at?=some z->z≠w:=fun z e=>by have:=hz3 z e;have:=a.lw;omega
 refine ⟨rfl,by rw [jaa hNw,q3];rfl,⟨v',?_⟩,fun j hj h1 h2 h3=>by rw [jaa h2,k3 j hj h3,k5 j h1 h2],by show h.nx<=H3.nx;omega⟩
 rcases id row3 with ⟨h0,_⟩ | ⟨z,_,z1,rfl,_,_⟩
 ·omega
 ·refine ⟨z,jab _,row3.keep (zq _) fun y e=>jaa (hzw y e),fun y e=>by cases e;rfl,by have:=hz3 z rfl;omega,z1⟩
end
theorem tab_push1 {ws:Ws} {x:Wi} {i0 j:Nat} (u:Uniq (ws++[x])) (w0:x.e0.what=1) (f0:x.e0.fd=i0) (w1:x.e1.what≠1):(if j=i0 then some (ws.length,0) else atS ws (j:Int))=atS (ws++[x]) (j:Int):=by
 have hL:(ws++[x])[ws.length]?=some x:=by simp
 by_cases e:j=i0
 ·subst e
  rw [if_pos rfl,jdy u (n:=ws.length) (k:=0) ⟨x,hL,.inl rfl,w0,f0⟩]
 ·rw [if_neg e]
  refine jeP fun n k=>⟨fun h=>?_,fun h=>?_⟩
  ·obtain ⟨y,hy,r⟩:=h
   exact ⟨y,jeG hy,r⟩
  ·rcases jdZ h with h | ⟨_,hk,h1,h2⟩
   ·exact h
   ·rcases hk with rfl | rfl
    ·have h2:x.e0.fd=(j:Int):=h2
     omega
    ·exact absurd h1 w1
theorem tab_push2 {ws:Ws} {x:Wi} {i0 i1 j:Nat} (u:Uniq (ws++[x])) (w0:x.e0.what=1) (f0:x.e0.fd=i0) (w1:x.e1.what=1) (f1:x.e1.fd=i1) (hne:i0≠i1) :
  (if j=i1 then some (ws.length,1) else if j=i0 then some (ws.length,0) else atS ws (j:Int))=atS (ws++[x]) (j:Int):=by
 have hL:(ws++[x])[ws.length]?=some x:=by simp
 by_cases e:j=i1
 ·subst e
  rw [if_pos rfl,jdy u (n:=ws.length) (k:=1) ⟨x,hL,.inr rfl,w1,f1⟩]
 rw [if_neg e]
 by_cases e:j=i0
 ·subst e
  rw [if_pos rfl,jdy u (n:=ws.length) (k:=0) ⟨x,hL,.inl rfl,w0,f0⟩]
 rw [if_neg e]
 refine jeP fun n k=>⟨fun h=>?_,fun h=>?_⟩
 ·obtain ⟨y,hy,r⟩:=h
  exact ⟨y,jeG hy,r⟩
 ·rcases jdZ h with h | ⟨_,hk,h1,h2⟩
  ·exact h
  ·rcases hk with rfl | rfl
   ·have h2:x.e0.fd=(j:Int):=h2
    omega
   ·have h2:x.e1.fd=(j:Int):=h2
    omega
theorem WW.newWire {h0 h2 h':H} {w s m r0 r1:Nat} {ow:Nat->Nat} {g:Nat->Option (Nat × Nat)} {l:List WX} {x:Wi} {now:Int} {tb:Tb} {no:Option (Nat × Nat)} (a:WW h0 w s ow l now tb no) (o1:Old h0 h2) (hm:m=1\/m=5) (hN:h0.nx+m<=h2.nx)
  (h01:m=5->r0=h0.nx+2/\r1=h0.nx+4) (p:Opened h2 h' w s h0.nx ow g l now no (x.obj r0 r1 .nils)) (hwt:x.waiting=[]) (hg : ∀ j,j<96->g j=atS (wxs l++[x]) (j:Int)) (hfd : ∀ k,k=0\/k=1->(x.e k).what=1->0<=(x.e k).fd/\(x.e k).fd<=95)
  (hr : ∀ k,k=0\/k=1 -> ∀ q,(x.e k).ring=some q->m=5/\ja0 h2 (two r0 r1 k) (two (h0.nx+1) (h0.nx+3) k) q x.cap) :
  ∃ ow',WSt h' w s ow' (wxs l++[x]) now tb no/\To h0 h' ow ow':=by
 obtain ⟨wv,z,p1,p2,p3,p4,p5⟩:=p.hw
 have a2:=a.wf.old o1
 have lw:=a.wf.lw
 have h00 : ∀ j,h0.nx<=j->ow j=0:=a.wf.top
 have keep : ∀ j,h0.nx<j->j<h0.nx+m->h'.get j=h2.get j:=fun j j1 j2=>p.hk j om om om (by rw [h00 j om];omega)
 have F:=a2.push (t:=⟨x,h0.nx,r0,h0.nx+1,r1,h0.nx+3,.nils⟩) (m:=m) (z:=z) (N:=h0.nx) hm hN (fun j j1 _=>h00 j j1) p4 p5
  (fun j j1 j2 j3=>p.hk j (a2.lt_of j1) (fun e=>j1 (by rw [e];exact h00 _ (zq _))) j3 j2) p1 p2 p3 rfl (fun e=>⟨rfl,(h01 e).1,rfl,(h01 e).2⟩) p.ho hwt rfl
  (fun k hk q hq=>by
   obtain ⟨e5,R⟩:=hr k hk q hq
   obtain ⟨e0,e1⟩:=h01 e5
   refine ⟨e5,?_⟩
   subst e0 e1
   rcases hk with rfl | rfl
   ·exact R.keep (keep _ (by show h0.nx<h0.nx+2;omega) (by show h0.nx+2<_;omega)) (keep _ (by show h0.nx<h0.nx+1;omega) (by show h0.nx+1<_;omega))
   ·exact R.keep (keep _ (by show h0.nx<h0.nx+4;omega) (by show h0.nx+4<_;omega)) (keep _ (by show h0.nx<h0.nx+3;omega) (by show h0.nx+3<_;omega)))
 have ez:wxs (l++[(⟨x,h0.nx,r0,h0.nx+1,r1,h0.nx+3,.nils⟩:WX)])=wxs l++[x]:=by simp
 refine ⟨_,⟨_,⟨F.congr fun j hj=>by rw [ez];exact (hg j hj).symm,fun n k fd hf=>?_⟩,ez⟩,⟨⟨zA o1.1 p.nx,fun j hj ho=>?_⟩,fun j hj=>?_⟩⟩
 ·rw [ez] at hf
  rcases jdZ hf with hf | ⟨_,hk,q1,q2⟩
  ·exact a.fds n k fd hf
  ·rw [<- q2];exact hfd k hk q1
 ·have ho:ow j=0:=Classical.not_not.1 ho
  rw [p.hk j (zr hj o1.1) om (fun e=>by rw [e,a.wf.tw] at ho;omega) om,o1.2 j hj]
 ·exact jg0 (.inl hj) (by have:=o1.1;omega)
section
variable {cl:Nat->Call} (hcl:Sem cl) {h:H} {w s:Nat} {ow:Nat->Nat} {l:List WX} {now:Int} {tb:Tb} {no:Option (Nat × Nat)}
include hcl
theorem jiD {d:Nat} {n:Int} (hd:1<=d):cl d (.fn F.jip) [.i n] h=some (.bool (decide (1<=n/\n<=65536)),h):=by
 refine jal (at_ hcl om rfl rfl rfl ?_)
 by_cases h1:1<=n
 ·by_cases h2:n<=65536
  ·refine qx1 ?_
   exact ⟨by rw [decide_eq_true (show 1<=n/\n<=65536 from ⟨h1,h2⟩)];simp [h2],rfl⟩
  ·refine qx1 ?_
   exact ⟨by rw [decide_eq_false (show ¬ (1<=n/\n<=65536) from fun e=>h2 e.2)];simp [h2],rfl⟩
 ·refine qx1 ?_
  exact ⟨by rw [decide_eq_false (show ¬ (1<=n/\n<=65536) from fun e=>h1 e.1)],rfl⟩
theorem jht {d k N:Nat} {n:Int} (hd:3<=d) (a:WW h w s ow l now tb no) (hn:n<1\/65536<n):cl d (.fn F.jaq) [.p w 0,.i n,.i (k:Int),.p N 0] h=some (.tup [.nils,.i 2],h):=by
 have h1:=jbC hcl (d:=d-1) om a.wf
 have h2:=jiD hcl (h:=h) (d:=d-1) (n:=n) om
 rw [decide_eq_false om] at h2
 clear hn
 refine jal (at_ hcl om rfl rfl rfl ?_)
 refine qx1 ?_
 exact ⟨rfl,rfl⟩
theorem jgF {d k N:Nat} {n:Int} (hd:6<=d) (hk:k=1\/k=2) (a:WW h w s ow l now tb no) (ol:l.length<=1000) (hn1:1<=n) (hn2:n<=65536) (hb:((jau (wxs l) 96).take k).length≠k\/1000<=l.length) :
  ∃ h',cl d (.fn F.jaq) [.p w 0,.i n,.i (k:Int),.p N 0] h=some (.tup [.nils,.i 112],h')/\Old h h':=by
 have h1:=jbC hcl (d:=d-1) om a.wf
 have h2:=jiD hcl (h:=h) (d:=d-1) (n:=n) om
 rw [decide_eq_true om] at h2
 obtain ⟨v,g,e,p1,p2,old⟩:=jgk hcl (d:=d-1) (k:=k) om hk a ol
 have eb:(decide (((jau (wxs l) 96).take k).length=k)&&decide (l.length<1000))=false:=by
  rcases hb with hb | hb
  ·rw [decide_eq_false hb,Bool.false_and]
  ·rw [decide_eq_false (show ¬ l.length<1000 by omega),Bool.and_false]
 rw [eb] at e
 clear hb eb hk
 refine jag (at_ hcl om rfl rfl rfl ?_)
 refine qx1 ?_
 exact ⟨rfl,old⟩
theorem xp_make1 {d N i0:Nat} {n:Int} {x:Wi} {r0 r1:Nat} {wv:V} (hd:6<=d) (a:WW h w s ow l now tb no) (hn1:1<=n) (hn2:n<=65536) (hf:(jau (wxs l) 96).take 1=[(i0:Int)]) (hi:i0<96) (hl:l.length<1000)
  (hN:h.get N=some (x.obj r0 r1 wv)) (hN0:ow N=0) (hNl:N<h.nx) :
  ∃ v h2 h',cl d (.fn F.jaq) [.p w 0,.i n,.i ((1:Nat):Int),.p N 0] h=some (.tup [v,.i 0],h')/\VI h' v [(i0:Int)]/\Old h h2/\Opened h2 h' w s N ow (fun j=>if j=i0 then some (l.length,0) else atS (wxs l) (j:Int)) l now no ((x.name 0 i0).obj r0 r1 wv):=by
 have h1:=jbC hcl (d:=d-1) om a.wf
 have h2:=jiD hcl (h:=h) (d:=d-1) (n:=n) om
 rw [decide_eq_true om] at h2
 obtain ⟨v,g,e,p1,p2,old⟩:=jgk hcl (d:=d-1) (k:=1) om (.inl rfl) a om
 rw [hf] at e p1
 rw [decide_eq_true (show [(i0:Int)].length=1 from rfl),decide_eq_true hl] at e
 have ag:=a.wf.old old
 obtain ⟨g2,e2,op⟩:=xp_open1 hcl (d:=d-1) (N:=N) (i0:=i0) (vf:=v) (wv:=wv) (x:=x) (r0:=r0) (r1:=r1) om ag (by rw [old.2 N hNl,hN]) hN0 (zr hNl old.1) hl p1 (fun z hz=>⟨a.wf.top z (p2 z hz).1,by have:=p2 z hz;omega⟩) hi
 suffices q : ∃ v2 h',cl d (.fn F.jaq) [.p w 0,.i n,.i ((1:Nat):Int),.p N 0] h=some (v2,h')/\(v2 = .tup [v,.i 0]/\h'=g2) by
  obtain ⟨_,_,q,rfl,rfl⟩:=q
  refine ⟨v,g,_,q,p1.keep op.nx fun z hz=>?_,old,op⟩
  have:=p2 z hz
  have:=a.wf.lw
  exact op.hk z om om om (by rw [a.wf.top z om];omega)
 clear hf
 refine at_ hcl om rfl rfl rfl ?_
 refine qx1 ?_
 exact ⟨rfl,rfl⟩
theorem xp_make2 {d N i0 i1:Nat} {n:Int} {x:Wi} {r0 r1:Nat} {wv:V} (hd:6<=d) (a:WW h w s ow l now tb no) (hn1:1<=n) (hn2:n<=65536) (hf:(jau (wxs l) 96).take 2=[(i0:Int),(i1:Int)]) (hi:i0<96) (hi1:i1<96) (hl:l.length<1000)
  (hN:h.get N=some (x.obj r0 r1 wv)) (hN0:ow N=0) (hNl:N<h.nx) :
  ∃ v h2 h',cl d (.fn F.jaq) [.p w 0,.i n,.i ((2:Nat):Int),.p N 0] h=some (.tup [v,.i 0],h')/\VI h' v [(i0:Int),(i1:Int)]/\Old h h2/\Opened h2 h' w s N ow (fun j=>if j=i1 then some (l.length,1) else if j=i0 then some (l.length,0) else atS (wxs l) (j:Int)) l now no (((x.name 0 i0).name 1 i1).obj r0 r1 wv):=by
 have h1:=jbC hcl (d:=d-1) om a.wf
 have h2:=jiD hcl (h:=h) (d:=d-1) (n:=n) om
 rw [decide_eq_true om] at h2
 obtain ⟨v,g,e,p1,p2,old⟩:=jgk hcl (d:=d-1) (k:=2) om (.inr rfl) a om
 rw [hf] at e p1
 rw [decide_eq_true (show [(i0:Int),(i1:Int)].length=2 from rfl),decide_eq_true hl] at e
 have ag:=a.wf.old old
 obtain ⟨g2,e2,op⟩:=xp_open2 hcl (d:=d-1) (N:=N) (i0:=i0) (i1:=i1) (vf:=v) (wv:=wv) (x:=x) (r0:=r0) (r1:=r1) om ag (by rw [old.2 N hNl,hN]) hN0 (zr hNl old.1) hl p1 (fun z hz=>⟨a.wf.top z (p2 z hz).1,by have:=p2 z hz;omega⟩) hi hi1
 suffices q : ∃ v2 h',cl d (.fn F.jaq) [.p w 0,.i n,.i ((2:Nat):Int),.p N 0] h=some (v2,h')/\(v2 = .tup [v,.i 0]/\h'=g2) by
  obtain ⟨_,_,q,rfl,rfl⟩:=q
  refine ⟨v,g,_,q,p1.keep op.nx fun z hz=>?_,old,op⟩
  have:=p2 z hz
  have:=a.wf.lw
  exact op.hk z om om om (by rw [a.wf.top z om];omega)
 clear hf
 refine at_ hcl om rfl rfl rfl ?_
 refine qx1 ?_
 exact ⟨rfl,rfl⟩
end
theorem jkG {ws:Ws} {f0:Int} {fs:List Int} (h:jau ws 96=f0 :: fs):(∃ i0:Nat,f0=i0/\i0<96) /\ ∀ f1 r,fs=f1 :: r -> ∃ i1:Nat,f1=i1/\i1<96/\f0≠f1:=by
 constructor
 ·obtain ⟨i,e,hi,_⟩:=jez (ws:=ws) (n:=96) (f:=f0) (by rw [h];simp)
  exact ⟨i,e,hi⟩
 ·rintro f1 r rfl
  obtain ⟨i,e,hi,_⟩:=jez (ws:=ws) (n:=96) (f:=f1) (by rw [h];simp)
  refine ⟨i,e,hi,fun e2=>?_⟩
  have nd:=jia ws 96
  rw [h,e2] at nd
  exact absurd nd Zd
section
variable {cl:Nat->Call} (hcl:Sem cl) {h:H} {w s:Nat} {ow:Nat->Nat} {l:List WX} {now:Int} {tb:Tb} {no:Option (Nat × Nat)}
include hcl
theorem jov {d m r0 r1:Nat} {kind n:Int} {x:Wi} {h1:H} (hd:6<=d) (hk:kind=0\/kind=1) (K:WsK (wxs l)) (a:WW h w s ow l now tb no) (o1:Old h h1)
  (good:1<=n->n<=65536->h.nx+5<=h1.nx/\h1.get h.nx=some (x.obj (h.nx+2) (h.nx+4) .nils)/\x.waiting=[]/\(∀ i0 i1:Nat,(x.name 0 i0).name 1 i1=newW kind n i0 i1) /\ ∀ k,k=0\/k=1->ja0 h1 (two (h.nx+2) (h.nx+4) k) (two (h.nx+1) (h.nx+3) k) [] n.toNat) :
  ∃ v h' ow',cl d (.fn F.jaq) [.p w 0,.i n,.i ((2:Nat):Int),.p h.nx 0] h1=some (.tup [v,.i (jaf (wxs l) kind n).1.2],h')/\VI h' v (jaf (wxs l) kind n).1.1/\WSt h' w s ow' (jaf (wxs l) kind n).2 now tb no/\To h h' ow ow':=by
 have a1:=a.old o1
 have K':=jdT (kind:=kind) (n:=n) om K
 by_cases hn:n<1\/65536<n
 ·have e:jaf (wxs l) kind n=(([],2),wxs l):=if_pos om
  rw [e]
  exact ⟨_,h1,ow,jht hcl om a1 hn,VI.nil h1,⟨l,a1,rfl⟩,To.of_old o1⟩
 have eS:jaf (wxs l) kind n=_:=if_neg om
 have hlw:(wxs l).length=l.length:=by simp
 have ol:l.length<=1000:=by have:=K.ok.len;omega
 have many:((jau (wxs l) 96).take 2).length≠2\/1000<=l.length -> ∃ h',cl d (.fn F.jaq) [.p w 0,.i n,.i ((2:Nat):Int),.p h.nx 0] h1=some (.tup [.nils,.i 112],h')/\Old h1 h':=fun hb=>jgF hcl hd (.inr rfl) a1 ol om om hb
 cases hF:jau (wxs l) 96 with
 | nil=>
  simp only [hF] at eS;rw [eS]
  obtain ⟨h',e,o2⟩:=many (.inl (by rw [hF];simp))
  exact ⟨_,h',ow,e,VI.nil h',⟨l,a1.old o2,rfl⟩,To.of_old (o1.trans o2)⟩
 | cons f0 fs=>
  simp only [hF] at eS
  by_cases hbad:(fs=[]/\kind<2)\/1000<=(wxs l).length
  ·rw [if_pos hbad] at eS;rw [eS]
   obtain ⟨h',e,o2⟩:=many (hbad.imp (fun e=>by rw [hF,e.1];simp) fun e=>by omega)
   exact ⟨_,h',ow,e,VI.nil h',⟨l,a1.old o2,rfl⟩,To.of_old (o1.trans o2)⟩
  ·rw [if_neg hbad] at eS
   cases fs with
   | nil=>exact absurd (.inl ⟨rfl,by omega⟩) hbad
   | cons f1 r=>
    obtain ⟨⟨i0,rfl,l0⟩,q⟩:=jkG hF
    obtain ⟨i1,rfl,l1,hne⟩:=q f1 r rfl
    have eS:jaf (wxs l) kind n=(([(i0:Int),(i1:Int)],0),wxs l++[newW kind n i0 i1]):=by
     rw [eS,if_pos om];rfl
    rw [eS] at K'
    obtain ⟨g1,g2,g3,g4,g5⟩:=good om om
    have hN0:=a.wf.top h.nx (zq _)
    obtain ⟨v,h2,h',e,p1,o2,op⟩:=xp_make2 hcl (N:=h.nx) (i0:=i0) (i1:=i1) hd a1 (n:=n) om om (by rw [hF];rfl) l0 l1 om g2 hN0 om
    rw [g4] at op
    have hx0:(newW kind n i0 i1).e0.what=1/\(newW kind n i0 i1).e0.fd=i0/\(newW kind n i0 i1).e1.what=1/\(newW kind n i0 i1).e1.fd=i1/\(newW kind n i0 i1).waiting=[]/\(newW kind n i0 i1).cap=n.toNat/\(∀ q,(newW kind n i0 i1).e0.ring=some q->q=[]) /\ ∀ q,(newW kind n i0 i1).e1.ring=some q->q=[]:=by
     rcases hk with rfl | rfl
     ·exact ⟨rfl,rfl,rfl,rfl,rfl,rfl,fun q hq=>by (have hq:some []=some q:=hq);cases hq;rfl,fun q hq=>by (have hq:none=some q:=hq);cases hq⟩
     ·exact ⟨rfl,rfl,rfl,rfl,rfl,rfl,fun q hq=>by (have hq:some []=some q:=hq);cases hq;rfl,fun q hq=>by (have hq:some []=some q:=hq);cases hq;rfl⟩
    obtain ⟨z1,z2,z3,z4,z5,z6,z7,z8⟩:=hx0
    generalize newW kind n i0 i1=y at op eS z1 z2 z3 z4 z5 z6 z7 z8 K'
    obtain ⟨ow',W,T⟩:=a.newWire (m:=5) (o1.trans o2) (.inr rfl) (zA g1 o2.1) (fun _=>⟨rfl,rfl⟩) op z5
     (fun j _=>by have:=tab_push2 (j:=j) K'.ok.uniq z1 z2 z3 z4 om;rw [hlw] at this;exact this)
     (fun k hk' h1'=>by
      rcases hk' with rfl | rfl
      ·show 0<=y.e0.fd/\y.e0.fd<=95;omega
      ·show 0<=y.e1.fd/\y.e1.fd<=95;omega)
     (fun k hk' q hq=>by
      refine ⟨rfl,?_⟩
      have R:=g5 k hk'
      have eq:q=[]:=by
       rcases hk' with rfl | rfl
       ·exact z7 q hq
       ·exact z8 q hq
      rw [eq,z6]
      refine R.keep (o2.2 _ ?_) (o2.2 _ ?_)<;>(rcases hk' with rfl | rfl<;>simp only [two]<;>omega))
    rw [eS]
    exact ⟨v,h',ow',e,p1,W,T⟩
theorem jow {d m r0 r1:Nat} {kind n:Int} {x:Wi} {h1:H} (hd:6<=d) (hk:kind=2\/kind=3) (hn3:kind=3->n<=64) (K:WsK (wxs l)) (a:WW h w s ow l now tb no) (o1:Old h h1)
  (good:1<=n->n<=65536->(m=1\/m=5)/\(m=5->r0=h.nx+2/\r1=h.nx+4)/\h.nx+m<=h1.nx/\h1.get h.nx=some (x.obj r0 r1 .nils)/\x.waiting=[]/\(∀ i0:Nat,x.name 0 i0=newW kind n i0 0)/\(kind=2->m=5 /\ ∀ k,k=0\/k=1->ja0 h1 (two (h.nx+2) (h.nx+4) k) (two (h.nx+1) (h.nx+3) k) [] n.toNat)) :
  ∃ v h' ow',cl d (.fn F.jaq) [.p w 0,.i n,.i ((1:Nat):Int),.p h.nx 0] h1=some (.tup [v,.i (jaf (wxs l) kind n).1.2],h')/\VI h' v (jaf (wxs l) kind n).1.1/\WSt h' w s ow' (jaf (wxs l) kind n).2 now tb no/\To h h' ow ow':=by
 have a1:=a.old o1
 have K':=jdT (kind:=kind) (n:=n) om K
 by_cases hn:n<1\/65536<n
 ·have e:jaf (wxs l) kind n=(([],2),wxs l):=if_pos om
  rw [e]
  exact ⟨_,h1,ow,jht hcl om a1 hn,VI.nil h1,⟨l,a1,rfl⟩,To.of_old o1⟩
 have eS:jaf (wxs l) kind n=_:=if_neg om
 have hlw:(wxs l).length=l.length:=by simp
 have ol:l.length<=1000:=by have:=K.ok.len;omega
 have many:((jau (wxs l) 96).take 1).length≠1\/1000<=l.length -> ∃ h',cl d (.fn F.jaq) [.p w 0,.i n,.i ((1:Nat):Int),.p h.nx 0] h1=some (.tup [.nils,.i 112],h')/\Old h1 h':=fun hb=>jgF hcl hd (.inl rfl) a1 ol om om hb
 cases hF:jau (wxs l) 96 with
 | nil=>
  simp only [hF] at eS;rw [eS]
  obtain ⟨h',e,o2⟩:=many (.inl (by rw [hF];simp))
  exact ⟨_,h',ow,e,VI.nil h',⟨l,a1.old o2,rfl⟩,To.of_old (o1.trans o2)⟩
 | cons f0 fs=>
  simp only [hF] at eS
  by_cases hbad:(fs=[]/\kind<2)\/1000<=(wxs l).length
  ·rw [if_pos hbad] at eS;rw [eS]
   obtain ⟨h',e,o2⟩:=many (hbad.imp (fun e=>by omega) fun e=>by omega)
   exact ⟨_,h',ow,e,VI.nil h',⟨l,a1.old o2,rfl⟩,To.of_old (o1.trans o2)⟩
  ·rw [if_neg hbad] at eS
   obtain ⟨⟨i0,rfl,l0⟩,_⟩:=jkG hF
   have eW : ∀ c:Int,newW kind n i0 c=newW kind n i0 0:=by
    intro c
    rcases hk with rfl | rfl<;>rfl
   have eS:jaf (wxs l) kind n=(([(i0:Int)],0),wxs l++[newW kind n i0 0]):=by
    rw [eS,if_neg om,eW];rfl
   rw [eS] at K'
   obtain ⟨g0,g01,g1,g2,g3,g4,g5⟩:=good om om
   have hN0:=a.wf.top h.nx (zq _)
   obtain ⟨v,h2,h',e,p1,o2,op⟩:=xp_make1 hcl (N:=h.nx) (i0:=i0) hd a1 (n:=n) om om (by rw [hF];rfl) l0 om g2 hN0 om
   rw [g4] at op
   have hx0:(newW kind n i0 0).e0.what=1/\(newW kind n i0 0).e0.fd=i0/\(newW kind n i0 0).e1.what≠1/\(newW kind n i0 0).waiting=[]/\(newW kind n i0 0).cap=n.toNat/\(∀ q,(newW kind n i0 0).e0.ring=some q->q=[]/\kind=2) /\ ∀ q,(newW kind n i0 0).e1.ring=some q->q=[]/\kind=2:=by
    rcases hk with rfl | rfl
    ·exact ⟨rfl,rfl,by show (2:Int)≠1;omega,rfl,rfl,fun q hq=>by (have hq:some []=some q:=hq);cases hq;exact ⟨rfl,rfl⟩,fun q hq=>by (have hq:some []=some q:=hq);cases hq;exact ⟨rfl,rfl⟩⟩
    ·exact ⟨rfl,rfl,by show (0:Int)≠1;omega,rfl,rfl,fun q hq=>(by have hq:none=some q:=hq;cases hq),fun q hq=>(by have hq:none=some q:=hq;cases hq)⟩
   obtain ⟨z1,z2,z3,z5,z6,z7,z8⟩:=hx0
   generalize newW kind n i0 0=y at op eS z1 z2 z3 z5 z6 z7 z8 K'
   obtain ⟨ow',W,T⟩:=a.newWire (m:=m) (o1.trans o2) g0 (zA g1 o2.1) g01 op z5
    (fun j _=>by have:=tab_push1 (j:=j) K'.ok.uniq z1 z2 z3;rw [hlw] at this;exact this)
    (fun k hk' h1'=>by
     rcases hk' with rfl | rfl
     ·show 0<=y.e0.fd/\y.e0.fd<=95;omega
     ·exact absurd h1' z3)
    (fun k hk' q hq=>by
     have eq:q=[]/\kind=2:=by
      rcases hk' with rfl | rfl
      ·exact z7 q hq
      ·exact z8 q hq
     obtain ⟨m5,R⟩:=g5 eq.2
     obtain ⟨e0,e1⟩:=g01 m5
     refine ⟨m5,?_⟩
     rw [eq.1,z6,e0,e1]
     refine (R k hk').keep (o2.2 _ ?_) (o2.2 _ ?_)<;>(rcases hk' with rfl | rfl<;>simp only [two]<;>omega))
   rw [eS]
   exact ⟨v,h',ow',e,p1,W,T⟩
end
theorem jiX {ws:Ws} {kind n:Int} (hk:kind<2):((jaf ws kind n).1.2=0 /\ ∃ a b,(jaf ws kind n).1.1=[a,b])\/((jaf ws kind n).1.2≠0/\(jaf ws kind n).1.1=[]):=by
 unfold jaf
 split
 ·exact .inr ⟨by show (2:Int)≠0;omega,rfl⟩
 split
 ·exact .inr ⟨by show (112:Int)≠0;omega,rfl⟩
 next f0 fs hF=>
 split
 ·exact .inr ⟨by show (112:Int)≠0;omega,rfl⟩
 next hb=>
 cases fs with
 | nil=>exact absurd (.inl ⟨rfl,hk⟩) hb
 | cons f1 r=>exact .inl ⟨rfl,f0,f1,rfl⟩
theorem jeL {ws:Ws} {kind n:Int} (hk : ¬ kind<2):((jaf ws kind n).1.2=0/\(∃ a,(jaf ws kind n).1.1=[a])/\(jaf ws kind n).2.length=ws.length+1)\/((jaf ws kind n).1.2≠0/\(jaf ws kind n).1.1=[]):=by
 unfold jaf
 split
 ·exact .inr ⟨by show (2:Int)≠0;omega,rfl⟩
 split
 ·exact .inr ⟨by show (112:Int)≠0;omega,rfl⟩
 next f0 fs hF=>
 split
 ·exact .inr ⟨by show (112:Int)≠0;omega,rfl⟩
 ·exact .inl ⟨rfl,⟨f0,rfl⟩,by simp⟩
theorem WSt.len {h:H} {w s:Nat} {ow:Nat->Nat} {ws:Ws} {now:Int} {tb:Tb} {no:Option (Nat × Nat)} (a:WSt h w s ow ws now tb no) : ∃ f av cp,h.get w=some (.cells (wc f (.slice av ws.length cp) s now no) false):=by
 obtain ⟨l,a,rfl⟩:=a
 obtain ⟨av,cp,hw,_⟩:=a.wf.head
 exact ⟨fun i=>atS (wxs l) (i:Int),av,cp,by rw [hw,List.length_map]⟩
section
variable {cl:Nat->Call} (hcl:Sem cl) {h:H} {w s:Nat} {ow:Nat->Nat} {ws:Ws} {now:Int} {tb:Tb} {no:Option (Nat × Nat)}
include hcl
theorem jhu {d:Nat} {n:Int} (hd:2<=d) :
  ∃ h1 q0 q1 r0 r1 c,cl d (.fn F.jgm) [.i n] h=some (.p h.nx 0,h1)/\Old h h1/\h.nx<h1.nx/\h1.get h.nx=some ((⟨⟨0,0,q0,true,false,0,0⟩,⟨0,0,q1,true,false,0,0⟩,c,false,0,[]⟩:Wi).obj r0 r1 .nils) /\
   (1<=n->n<=65536->h1.nx=h.nx+5/\q0=some []/\q1=some []/\r0=h.nx+2/\r1=h.nx+4/\c=n.toNat /\ ∀ k,k=0\/k=1->ja0 h1 (two (h.nx+2) (h.nx+4) k) (two (h.nx+1) (h.nx+3) k) [] n.toNat):=by
 by_cases hn:n<0\/65536<n
 ·obtain ⟨h1,e,x1,o1,g0⟩:=jkU hcl (h:=h) hd hn
  exact ⟨h1,_,_,_,_,_,e,o1,by omega,g0,fun _ _=>by omega⟩
 ·obtain ⟨m,rfl⟩:=zz (show 0<=n by omega)
  obtain ⟨h1,e,x1,o1,g0,g2,g1,g4,g3⟩:=jnn hcl (h:=h) (n:=m) hd om
  refine ⟨h1,_,_,_,_,_,e,o1,by omega,g0,fun p1 p2=>⟨x1,rfl,rfl,rfl,rfl,rfl,fun k hk=>?_⟩⟩
  rcases hk with rfl | rfl
  ·exact jeF om om g2 g1
  ·exact jeF om om g4 g3
theorem ww_Pair {d:Nat} {n:Int} (hd:7<=d) (K:WsK ws) (a:WSt h w s ow ws now tb no) :
  ∃ x y h' ow',cl d (.fn F.jef) [.p w 0,.i n] h=some (.tup [.i x,.i y,.i (jaf ws 1 n).1.2],h')/\((jaf ws 1 n).1.2=0->(jaf ws 1 n).1.1=[x,y])/\((jaf ws 1 n).1.2≠0->x=0/\y=0)/\WSt h' w s ow' (jaf ws 1 n).2 now tb no/\To h h' ow ow':=by
 obtain ⟨l,a,rfl⟩:=a
 obtain ⟨h1,q0,q1,r0,r1,c,e1,o1,x1,g0,good⟩:=jhu hcl (h:=h) (d:=d-1) (n:=n) om
 obtain ⟨v,h',ow',e2,p1,W,T⟩:=jov hcl (d:=d-1) (kind:=1) (n:=n) (m:=0) (r0:=0) (r1:=0) om (.inr rfl) K a o1 fun n1 n2=>by
  obtain ⟨y1,rfl,rfl,rfl,rfl,rfl,R⟩:=good n1 n2
  exact ⟨by omega,g0,rfl,fun _ _=>rfl,R⟩
 have e2:cl (d-1) (.fn F.jaq) [.p w 0,.i n,.i 2,.p h.nx 0] h1=_:=e2
 clear good
 suffices q : ∃ v h',cl d (.fn F.jef) [.p w 0,.i n] h=some (v,h') /\ ∃ x y,v = .tup [.i x,.i y,.i (jaf (wxs l) 1 n).1.2]/\((jaf (wxs l) 1 n).1.2=0->(jaf (wxs l) 1 n).1.1=[x,y])/\((jaf (wxs l) 1 n).1.2≠0->x=0/\y=0)/\WSt h' w s ow' (jaf (wxs l) 1 n).2 now tb no/\To h h' ow ow' by
  obtain ⟨_,h',e,x,y,rfl,q⟩:=q;exact ⟨x,y,h',ow',e,q⟩
 rcases jiX (ws:=wxs l) (n:=n) (kind:=1) om with ⟨m1,x,y,m2⟩ | ⟨m1,m2⟩
 ·rw [m2] at p1
  obtain ⟨af,cf,rfl,_⟩:=id p1
  obtain ⟨b,of,cs,ro,rfl,hcs,hc0⟩:=VI.cell (l:=[x,y]) p1 (i:=0) (x:=x) rfl
  obtain ⟨_,_,_,_,e0,ecs,hc1⟩:=VI.cell (l:=[x,y]) p1 (i:=1) (x:=y) rfl
  cases e0
  rw [hcs] at ecs;cases ecs
  have hc1:cs[of+(1:Int).toNat*1]?=some (.i y):=hc1
  have hc0:cs[of+(0:Int).toNat*1]?=some (.i x):=hc0
  generalize jaf (wxs l) 1 n=M at m1 m2 e2 W ⊢
  obtain ⟨⟨M1,M2⟩,M3⟩:=M
  simp only at m1 m2 e2 W ⊢
  subst m1 m2
  refine at_ hcl om rfl rfl rfl ?_
  refine qx1 ?_
  exact ⟨x,y,rfl,fun _=>rfl,fun h=>absurd rfl h,W,T⟩
 ·rw [m2] at p1
  generalize jaf (wxs l) 1 n=M at m1 m2 e2 W ⊢
  obtain ⟨⟨M1,M2⟩,M3⟩:=M
  simp only at m1 m2 e2 W ⊢
  refine at_ hcl om rfl rfl rfl ?_
  refine qx1 ?_
  exact ⟨0,0,rfl,fun h=>absurd h m1,fun _=>⟨rfl,rfl⟩,W,T⟩
theorem ww_Pipe {d:Nat} {n:Int} (hd:7<=d) (K:WsK ws) (a:WSt h w s ow ws now tb no) :
  ∃ x y h' ow',cl d (.fn F.jed) [.p w 0,.i n] h=some (.tup [.i x,.i y,.i (jaf ws 0 n).1.2],h')/\((jaf ws 0 n).1.2=0->(jaf ws 0 n).1.1=[x,y])/\((jaf ws 0 n).1.2≠0->x=0/\y=0)/\WSt h' w s ow' (jaf ws 0 n).2 now tb no/\To h h' ow ow':=by
 obtain ⟨l,a,rfl⟩:=a
 obtain ⟨h1,q0,q1,r0,r1,c,e1,o1,x1,g0,good⟩:=jhu hcl (h:=h) (d:=d-1) (n:=n) om
 simp only [Wi.obj,Wi.cells,En.cells,List.cons_append,List.nil_append] at g0
 have key : ∀ G:H,G=(h1.set h.nx (.cells [.i 0,.i 0,En.ptr q0 r0,.bool false,.bool false,.int .u64 0,.int .u64 0,.i 0,.i 0,En.ptr q1 r1,.bool true,.bool false,.int .u64 0,.int .u64 0,.bool false,.i 0,.nils] false)).set h.nx (.cells [.i 0,.i 0,En.ptr q0 r0,.bool false,.bool false,.int .u64 0,.int .u64 0,.i 0,.i 0,.ptr none,.bool true,.bool false,.int .u64 0,.int .u64 0,.bool false,.i 0,.nils] false) ->
   ∃ v h' ow',cl (d-1) (.fn F.jaq) [.p w 0,.i n,.i 2,.p h.nx 0] G=some (.tup [v,.i (jaf (wxs l) 0 n).1.2],h')/\VI h' v (jaf (wxs l) 0 n).1.1/\WSt h' w s ow' (jaf (wxs l) 0 n).2 now tb no/\To h h' ow ow':=by
  intro G hG
  have oG:Old h G:=by rw [hG];exact (o1.set (zq _)).set (zq _)
  refine jov hcl (d:=d-1) (kind:=0) (n:=n) (m:=0) (r0:=0) (r1:=0) (x:=⟨⟨0,0,some [],false,false,0,0⟩,⟨0,0,none,true,false,0,0⟩,n.toNat,false,0,[]⟩) om (.inl rfl) K a oG fun n1 n2=>?_
  obtain ⟨y1,rfl,rfl,rfl,rfl,rfl,R⟩:=good n1 n2
  refine ⟨by rw [hG];exact Nat.le_of_eq y1.symm,by rw [hG];exact jab _,rfl,fun _ _=>rfl,fun k hk=>?_⟩
  refine (R k hk).keep ?_ ?_<;>(rw [hG,jaa,jaa]<;>(rcases hk with rfl | rfl<;>simp only [two]<;>omega))
 suffices q : ∃ v h',cl d (.fn F.jed) [.p w 0,.i n] h=some (v,h') /\ ∃ x y ow',v = .tup [.i x,.i y,.i (jaf (wxs l) 0 n).1.2]/\((jaf (wxs l) 0 n).1.2=0->(jaf (wxs l) 0 n).1.1=[x,y])/\((jaf (wxs l) 0 n).1.2≠0->x=0/\y=0)/\WSt h' w s ow' (jaf (wxs l) 0 n).2 now tb no/\To h h' ow ow' by
  obtain ⟨_,h',e,x,y,ow',rfl,q⟩:=q;exact ⟨x,y,h',ow',e,q⟩
 clear good
 refine at_ hcl om rfl rfl rfl ?_
 refine qs1 ?_
 refine Ops.opqh fun G hG=>?_
 obtain ⟨v,h',ow',e2,p1,W,T⟩:=key G hG
 clear hG key
 rcases jiX (ws:=wxs l) (n:=n) (kind:=0) om with ⟨m1,x,y,m2⟩ | ⟨m1,m2⟩
 ·rw [m2] at p1
  obtain ⟨af,cf,rfl,_⟩:=id p1
  obtain ⟨b,of,cs,ro,rfl,hcs,hc0⟩:=VI.cell (l:=[x,y]) p1 (i:=0) (x:=x) rfl
  obtain ⟨_,_,_,_,e0,ecs,hc1⟩:=VI.cell (l:=[x,y]) p1 (i:=1) (x:=y) rfl
  cases e0
  rw [hcs] at ecs;cases ecs
  have hc1:cs[of+(1:Int).toNat*1]?=some (.i y):=hc1
  have hc0:cs[of+(0:Int).toNat*1]?=some (.i x):=hc0
  generalize jaf (wxs l) 0 n=M at m1 m2 e2 W ⊢
  obtain ⟨⟨M1,M2⟩,M3⟩:=M
  simp only at m1 m2 e2 W ⊢
  subst m1 m2
  refine qx1 ?_
  exact ⟨x,y,ow',rfl,fun _=>rfl,fun h=>absurd rfl h,W,T⟩
 ·rw [m2] at p1
  generalize jaf (wxs l) 0 n=M at m1 m2 e2 W ⊢
  obtain ⟨⟨M1,M2⟩,M3⟩:=M
  simp only at m1 m2 e2 W ⊢
  refine qx1 ?_
  exact ⟨0,0,ow',rfl,fun h=>absurd h m1,fun _=>⟨rfl,rfl⟩,W,T⟩
theorem ww_Outer {d:Nat} {n:Int} (hd:7<=d) (K:WsK ws) (a:WSt h w s ow ws now tb no) :
  ∃ x y h' ow',cl d (.fn F.jdA) [.p w 0,.i n] h=some (.tup [.i x,.i y,.i (jaf ws 2 n).1.2],h')/\((jaf ws 2 n).1.2=0->(jaf ws 2 n).1.1=[x]/\y=ws.length)/\((jaf ws 2 n).1.2≠0->x=0/\y=0)/\WSt h' w s ow' (jaf ws 2 n).2 now tb no/\To h h' ow ow':=by
 obtain ⟨l,a,rfl⟩:=a
 obtain ⟨h1,q0,q1,r0,r1,c,e1,o1,x1,g0,good⟩:=jhu hcl (h:=h) (d:=d-1) (n:=n) om
 simp only [Wi.obj,Wi.cells,En.cells,List.cons_append,List.nil_append] at g0
 have key : ∀ G:H,G=h1.set h.nx (.cells [.i 0,.i 0,En.ptr q0 r0,.bool true,.bool false,.int .u64 0,.int .u64 0,.i 2,.i 0,En.ptr q1 r1,.bool true,.bool false,.int .u64 0,.int .u64 0,.bool false,.i 0,.nils] false) ->
   ∃ v h' ow',cl (d-1) (.fn F.jaq) [.p w 0,.i n,.i 1,.p h.nx 0] G=some (.tup [v,.i (jaf (wxs l) 2 n).1.2],h')/\VI h' v (jaf (wxs l) 2 n).1.1/\WSt h' w s ow' (jaf (wxs l) 2 n).2 now tb no/\To h h' ow ow':=by
  intro G hG
  have oG:Old h G:=by rw [hG];exact o1.set (zq _)
  refine jow hcl (d:=d-1) (kind:=2) (n:=n) (m:=5) (r0:=h.nx+2) (r1:=h.nx+4) (x:=⟨⟨0,0,some [],true,false,0,0⟩,⟨2,0,some [],true,false,0,0⟩,n.toNat,false,0,[]⟩) om (.inl rfl) (fun e=>by omega) K a oG fun n1 n2=>?_
  obtain ⟨y1,rfl,rfl,rfl,rfl,rfl,R⟩:=good n1 n2
  refine ⟨.inr rfl,fun _=>⟨rfl,rfl⟩,by rw [hG];exact Nat.le_of_eq y1.symm,by rw [hG];exact jab _,rfl,fun _=>rfl,fun _=>⟨rfl,fun k hk=>?_⟩⟩
  refine (R k hk).keep ?_ ?_<;>(rw [hG,jaa]<;>(rcases hk with rfl | rfl<;>simp only [two]<;>omega))
 suffices q : ∃ v h',cl d (.fn F.jdA) [.p w 0,.i n] h=some (v,h') /\ ∃ x y ow',v = .tup [.i x,.i y,.i (jaf (wxs l) 2 n).1.2]/\((jaf (wxs l) 2 n).1.2=0->(jaf (wxs l) 2 n).1.1=[x]/\y=(wxs l).length)/\((jaf (wxs l) 2 n).1.2≠0->x=0/\y=0)/\WSt h' w s ow' (jaf (wxs l) 2 n).2 now tb no/\To h h' ow ow' by
  obtain ⟨_,h',e,x,y,ow',rfl,q⟩:=q;exact ⟨x,y,h',ow',e,q⟩
 clear good
 refine at_ hcl om rfl rfl rfl ?_
 refine qs1 ?_
 refine Ops.opqh fun G hG=>?_
 obtain ⟨v,h',ow',e2,p1,W,T⟩:=key G hG
 clear hG key
 rcases jeL (ws:=wxs l) (n:=n) (kind:=2) om with ⟨m1,⟨x,m2⟩,m3⟩ | ⟨m1,m2⟩
 ·rw [m2] at p1
  obtain ⟨af,cf,rfl,_⟩:=id p1
  obtain ⟨b,of,cs,ro,rfl,hcs,hc0⟩:=VI.cell (l:=[x]) p1 (i:=0) (x:=x) rfl
  have hc0:cs[of+(0:Int).toNat*1]?=some (.i x):=hc0
  obtain ⟨f2,av2,cp2,hw2⟩:=W.len
  rw [m3,List.length_map] at hw2
  have c1:(wc f2 (.slice av2 (l.length+1) cp2) s now no)[0+288]?=some (.slice av2 (l.length+1) cp2):=jaO rfl
  have em:((l.length+1:Nat):Int)-1=(l.length:Int):=by omega
  have ol:=K.ok.len
  rw [List.length_map] at ol
  generalize jaf (wxs l) 2 n=M at m1 m2 e2 W ⊢
  obtain ⟨⟨M1,M2⟩,M3⟩:=M
  simp only at m1 m2 e2 W ⊢
  subst m1 m2
  refine qx1 ?_
  exact ⟨x,l.length,ow',by rw [em],fun _=>⟨rfl,by simp⟩,fun h=>absurd rfl h,W,T⟩
 ·rw [m2] at p1
  generalize jaf (wxs l) 2 n=M at m1 m2 e2 W ⊢
  obtain ⟨⟨M1,M2⟩,M3⟩:=M
  simp only at m1 m2 e2 W ⊢
  refine qx1 ?_
  exact ⟨0,0,ow',rfl,fun h=>absurd h m1,fun _=>⟨rfl,rfl⟩,W,T⟩
theorem ww_Listen {d:Nat} {n:Int} (hd:7<=d) (K:WsK ws) (a:WSt h w s ow ws now tb no) :
  ∃ x y h' ow',cl d (.fn F.jdl) [.p w 0,.i n] h=some (.tup [.i x,.i y,.i (jaf ws 3 n).1.2],h')/\((jaf ws 3 n).1.2=0->(jaf ws 3 n).1.1=[x]/\y=ws.length)/\((jaf ws 3 n).1.2≠0->x=0/\y=0)/\WSt h' w s ow' (jaf ws 3 n).2 now tb no/\To h h' ow ow':=by
 obtain ⟨l,a,rfl⟩:=a
 have hnone:=jbC hcl (d:=d-1) om a.wf
 suffices q : ∃ v h',cl d (.fn F.jdl) [.p w 0,.i n] h=some (v,h') /\ ∃ x y ow',v = .tup [.i x,.i y,.i (jaf (wxs l) 3 n).1.2]/\((jaf (wxs l) 3 n).1.2=0->(jaf (wxs l) 3 n).1.1=[x]/\y=(wxs l).length)/\((jaf (wxs l) 3 n).1.2≠0->x=0/\y=0)/\WSt h' w s ow' (jaf (wxs l) 3 n).2 now tb no/\To h h' ow ow' by
  obtain ⟨_,h',e,x,y,ow',rfl,q⟩:=q;exact ⟨x,y,h',ow',e,q⟩
 refine at_ hcl om rfl rfl rfl ?_
 by_cases hn:64<n
 ·have eS:jaf (wxs l) 3 n=(([],2),wxs l):=if_pos (.inr (.inr ⟨rfl,hn⟩))
  rw [eS]
  refine qx1 ?_
  exact ⟨0,0,ow,rfl,fun h=>by (have h:(2:Int)=0:=h);omega,fun _=>⟨rfl,rfl⟩,⟨l,a,rfl⟩,To.refl _ _⟩
 have key : ∀ G:H,G=h.new (.cells [.i 0,.i 0,.ptr none,.bool false,.bool false,.int .u64 0,.int .u64 0,.i 0,.i 0,.ptr none,.bool false,.bool false,.int .u64 0,.int .u64 0,.bool false,.i n,.nils] false) ->
   ∃ v h' ow',cl (d-1) (.fn F.jaq) [.p w 0,.i n,.i 1,.p h.nx 0] G=some (.tup [v,.i (jaf (wxs l) 3 n).1.2],h')/\VI h' v (jaf (wxs l) 3 n).1.1/\WSt h' w s ow' (jaf (wxs l) 3 n).2 now tb no/\To h h' ow ow':=by
  intro G hG
  have oG:Old h G:=by rw [hG];exact (Old.refl h).new
  exact jow hcl (d:=d-1) (kind:=3) (n:=n) (m:=1) (r0:=0) (r1:=0) (x:=⟨⟨0,0,none,false,false,0,0⟩,⟨0,0,none,false,false,0,0⟩,n.toNat,false,n,[]⟩) om (.inr rfl) (fun _=>by omega) K a oG fun n1 n2=>
   ⟨.inl rfl,fun e=>by omega,by rw [hG];exact zq _,by rw [hG];exact jac _,rfl,fun _=>rfl,fun e=>by omega⟩
 refine qm1 ?_
 refine Ops.opqh fun G hG=>?_
 obtain ⟨v,h',ow',e2,p1,W,T⟩:=key G hG
 clear hG key
 rcases jeL (ws:=wxs l) (n:=n) (kind:=3) om with ⟨m1,⟨x,m2⟩,m3⟩ | ⟨m1,m2⟩
 ·rw [m2] at p1
  obtain ⟨af,cf,rfl,_⟩:=id p1
  obtain ⟨b,of,cs,ro,rfl,hcs,hc0⟩:=VI.cell (l:=[x]) p1 (i:=0) (x:=x) rfl
  have hc0:cs[of+(0:Int).toNat*1]?=some (.i x):=hc0
  obtain ⟨f2,av2,cp2,hw2⟩:=W.len
  rw [m3,List.length_map] at hw2
  have c1:(wc f2 (.slice av2 (l.length+1) cp2) s now no)[0+288]?=some (.slice av2 (l.length+1) cp2):=jaO rfl
  have em:((l.length+1:Nat):Int)-1=(l.length:Int):=by omega
  have ol:=K.ok.len
  rw [List.length_map] at ol
  generalize jaf (wxs l) 3 n=M at m1 m2 e2 W ⊢
  obtain ⟨⟨M1,M2⟩,M3⟩:=M
  simp only at m1 m2 e2 W ⊢
  subst m1 m2
  refine qx1 ?_
  exact ⟨x,l.length,ow',by rw [em],fun _=>⟨rfl,by simp⟩,fun h=>absurd rfl h,W,T⟩
 ·rw [m2] at p1
  generalize jaf (wxs l) 3 n=M at m1 m2 e2 W ⊢
  obtain ⟨⟨M1,M2⟩,M3⟩:=M
  simp only at m1 m2 e2 W ⊢
  refine qx1 ?_
  exact ⟨0,0,ow',rfl,fun h=>absurd h m1,fun _=>⟨rfl,rfl⟩,W,T⟩
end
end Am.Sigs
