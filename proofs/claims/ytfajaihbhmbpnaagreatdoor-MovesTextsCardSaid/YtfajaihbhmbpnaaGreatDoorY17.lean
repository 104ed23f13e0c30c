/- Our own library, part 17. -/
import Derived.Test.YtfajaihbhmbpnaaGreatDoorY16
import Derived.Test.YtfajaihbhmbpnaaGreatDoorY11
import Derived.Test.YtfajaihbhmbpnaaGreatDoorY14
set_option maxHeartbeats 8000000
set_option maxRecDepth 800
set_option linter.all false
namespace Am.Sigs
open Am Go
structure St where
 ws:Ws
 now:Int
 tb:Tb
 no:Option (Nat × Nat)
abbrev St.tl (r:St):List V:=tail r.now r.tb.hd r.tb.pd (noI r.no) (siI r.no)
section
variable {h h':H} {w s:Nat} {ow:Nat->Nat} {ws:Ws} {now:Int} {tb:Tb} {no:Option (Nat × Nat)}
theorem WSt.keep (a:WSt h w s ow ws now tb no) (hx:h.nx<=h'.nx) (hk : ∀ j,ow j≠0->h'.get j=h.get j):WSt h' w s ow ws now tb no:=by
 obtain ⟨l,a,e⟩:=a
 exact ⟨l,⟨a.wf.keep hx hk,a.fds⟩,e⟩
theorem WSt.top (a:WSt h w s ow ws now tb no) {j:Nat} (hj:h.nx<=j):ow j=0:=by
 obtain ⟨l,a,e⟩:=a
 exact a.wf.top j hj
theorem WSt.lt_of (a:WSt h w s ow ws now tb no) {j:Nat} (hj:ow j≠0):j<h.nx:=by
 obtain ⟨l,a,e⟩:=a
 exact a.wf.lt_of hj
theorem WSt.lw (a:WSt h w s ow ws now tb no):w<h.nx:=by
 obtain ⟨l,a,e⟩:=a
 exact a.wf.lw
end
structure BB (h:H) (p w s rw:Nat) (ow:Nat->Nat) (ro dat:Nat->Prop) (a r:St):Prop where
 W:WSt h w s ow a.ws a.now a.tb a.no
 R : ∃ l,RO h ro dat rw l r.tl/\l.map RX.x=r.ws
 hp:h.get p=some (.cells [.p w 0,.p rw 0] false)
 lp:p<h.nx
 sep : ∀ j,ro j\/dat j->ow j=0
 op:ow p=0
 rp : ¬ (ro p\/dat p)
structure Fm (h h':H) (ow:Nat->Nat) (ro:Nat->Prop) (ow':Nat->Nat) (ro':Nat->Prop):Prop where
 ch:Ch (fun j=>ow j≠0\/ro j) h h'
 tag : ∀ j,j<h.nx->ow' j=ow j
 rtag : ∀ j,j<h.nx->(ro' j↔ro j)
theorem Fm.refl {h:H} {ow:Nat->Nat} {ro:Nat->Prop} : Fm h h ow ro ow ro:=⟨Ch.refl _ _,fun _ _=>rfl,fun _ _=>Iff.rfl⟩
theorem Fm.trans {h h1 h2:H} {a b c:Nat->Nat} {x y z:Nat->Prop} (f:Fm h h1 a x b y) (g:Fm h1 h2 b y c z):Fm h h2 a x c z :=
 ⟨f.ch.trans_new g.ch fun j hj hb=>by rw [f.tag j hj,f.rtag j hj] at hb;exact hb,
  fun j hj=>by rw [g.tag j (zo hj f.ch.nx),f.tag j hj],fun j hj=>(g.rtag j (zo hj f.ch.nx)).trans (f.rtag j hj)⟩
theorem Fm.old {h h1:H} {ow:Nat->Nat} {ro:Nat->Prop} (o:Old h h1):Fm h h1 ow ro ow ro:=⟨o.ch,fun _ _=>rfl,fun _ _=>Iff.rfl⟩
theorem Fm.to {h h1:H} {ow ow':Nat->Nat} {ro:Nat->Prop} (t:To h h1 ow ow'):Fm h h1 ow ro ow' ro:=⟨t.ch.weaken fun _ _ hb=>.inl hb,t.tag,fun _ _=>Iff.rfl⟩
section
variable {h h':H} {p w s rw:Nat} {ow ow':Nat->Nat} {ro dat:Nat->Prop} {a a' r r':St}
theorem BB.old (b:BB h p w s rw ow ro dat a r) (o:Old h h'):BB h' p w s rw ow ro dat a r:=by
 obtain ⟨l,R,e⟩:=b.R
 exact ⟨b.W.old o,⟨l,R.keep o.1 fun j hj=>o.2 j (R.lt j hj),e⟩,by rw [o.2 _ b.lp,b.hp],zo b.lp o.1,b.sep,b.op,b.rp⟩
theorem BB.off (b:BB h p w s rw ow ro dat a r) (hx:h.nx<=h'.nx) (hk : ∀ j,j<h.nx->ow j≠0\/ro j\/dat j\/j=p->h'.get j=h.get j):BB h' p w s rw ow ro dat a r:=by
 obtain ⟨l,R,e⟩:=b.R
 exact ⟨b.W.keep hx fun j hj=>hk j (b.W.lt_of hj) (.inl hj),⟨l,R.keep hx fun j hj=>hk j (R.lt j hj) (.inr (hj.imp id .inl)),e⟩,by rw [hk _ b.lp (.inr (.inr (.inr rfl))),b.hp],zo b.lp hx,b.sep,b.op,b.rp⟩
theorem BB.wc (b:BB h p w s rw ow ro dat a r) (W:WSt h' w s ow' a'.ws a'.now a'.tb a'.no) (t:To h h' ow ow'):BB h' p w s rw ow' ro dat a' r:=by
 obtain ⟨l,R,e⟩:=b.R
 refine ⟨W,⟨l,R.keep t.ch.nx fun j hj=>t.ch.get j (R.lt j hj) fun hne=>hne (b.sep j hj),e⟩,by rw [t.ch.get p b.lp fun hne=>hne b.op,b.hp],zo b.lp t.ch.nx,fun j hj=>by rw [t.tag j (R.lt j hj)];exact b.sep j hj,by rw [t.tag p b.lp];exact b.op,b.rp⟩
theorem BB.ro_lt (b:BB h p w s rw ow ro dat a r) {j:Nat} (hj:ro j\/dat j):j<h.nx:=by
 obtain ⟨l,R,e⟩:=b.R
 exact R.lt j hj
theorem BB.ap (b:BB h p w s rw ow ro dat a r) {j:Nat} (hj:dat j) : ¬ ro j:=by
 obtain ⟨l,R,e⟩:=b.R
 exact fun h=>R.ap j h hj
end
theorem Tb.ok.mono {t:Tb} {m n:Int} (a:t.ok m) (h:m<=n):t.ok n:=fun k=>⟨(a k).1,by have:=(a k).2;omega⟩
structure StOk (st:St) (i:Nat):Prop where
 K:WsK st.ws
 nt:NtOk st.ws (noI st.no) (siI st.no)
 now:0<=st.now/\st.now<=18446744073709551615
 tb:st.tb.ok i
noncomputable def doS (k a n t:Int) (D:List UInt8) (st:St):St :=
 if k=0\/k=1\/k=2\/k=3 then { st with ws:=(makeS st.ws k n).2 }
 else if k=4 then { st with ws:=(acceptS st.ws a).2 }
 else if k=5 then { st with ws:=(readS st.ws a n).2 }
 else if k=6 then { st with ws:=(writeS st.ws a D).2 }
 else if k=7 then { st with ws:=(shutS st.ws a).2 }
 else if k=8 then { st with ws:=(closeS st.ws a).2 }
 else if k=9 then { st with ws:=(putS st.ws a D).2 }
 else if k=10 then { st with ws:=(takeS st.ws a n).2 }
 else if k=11 then { st with ws:=(peerShutS st.ws a).2 }
 else if k=12 then { st with ws:=(jju st.ws a).2 }
 else if k=13 then { st with ws:=(resetS st.ws a).2 }
 else if k=14 then { st with ws:=(connectS st.ws a n).2 }
 else if k=15 then { st with now:=passS st.now t }
 else if k=16 then { st with ws:=jeq st.ws ((st.tb.handle a (decide (0<n))).sum 32) (noI st.no) (siI st.no),tb:=st.tb.handle a (decide (0<n)) }
 else if k=17 then { st with ws:=jeq st.ws ((st.tb.raise a).sum 32) (noI st.no) (siI st.no),tb:=st.tb.raise a }
 else if k=18 then { st with ws:=jeq st.ws (st.tb.take.sum 32) (noI st.no) (siI st.no),tb:=st.tb.take }
 else if k=19 then { st with ws:=ntW st.ws (st.tb.sum 32) a n,no:=noT st.ws a n st.no }
 else st
theorem StOk.ws {st:St} {i:Nat} {ws:Ws} (o:StOk st i) (K:WsK ws) (r:WsR st.ws ws):StOk { st with ws:=ws } (i+1) :=
 ⟨K,o.nt.keep r,o.now,o.tb.mono om⟩
structure Mv where
 op:Int
 wire:Int
 n:Int
 D:List UInt8
def Mv.may (m:Mv):Prop :=
 1<=m.op/\m.op<=7/\0<=m.wire/\0<=m.n/\m.D.length<=1000/\(m.op=7->m.wire=0)/\(m.op=2\/m.op=6\/m.op=7\/m.n=0)/\(m.op=1↔0<m.D.length)
instance (m:Mv):Decidable m.may:=by unfold Mv.may;infer_instance
noncomputable def Mv.go (m:Mv) (st:St):St:=doS (if m.op=7 then 17 else m.op+8) (if m.op=7 then m.n else m.wire) m.n 0 m.D st
structure Sp where
 ticks:Int
 intr:Bool
 order:List Int
 moves:List Mv
def jap (op:Int):List UInt8:=if op=1 then [119,100] else if op=2\/op=6 then [119,110] else if op=3\/op=4\/op=5 then [119] else if op=7 then [110] else []
theorem parts_len (op:Int):(jap op).length<=2:=by unfold jap;(repeat' split)<;>simp
theorem parts_w (op:Int):decide (0<=idxB 119 (jap op) 0)=decide (1<=op/\op<=6):=by
 unfold jap
 (repeat' split)<;>(refine decide_eq_decide.2 ⟨fun _=>?_,fun _=>?_⟩)<;>first | omega | decide | (exfalso;omega) | (rename_i h;exact zC h (by decide))
theorem parts_n (op:Int):decide (0<=idxB 110 (jap op) 0)=decide (op=2\/op=6\/op=7):=by
 unfold jap
 (repeat' split)<;>(refine decide_eq_decide.2 ⟨fun _=>?_,fun _=>?_⟩)<;>first | omega | decide | (exfalso;omega) | (rename_i h;exact zC h (by decide))
theorem parts_d (op:Int):decide (0<=idxB 100 (jap op) 0)=decide (op=1):=by
 unfold jap
 (repeat' split)<;>(refine decide_eq_decide.2 ⟨fun _=>?_,fun _=>?_⟩)<;>first | omega | decide | (exfalso;omega) | (rename_i h;exact zC h (by decide))
section
variable {cl:Nat->Call} (hcl:Sem cl)
include hcl
theorem jhQ {d:Nat} {h:H} {s:List UInt8} {c:UInt8} (hd:5<=d):cl d (.fn 58) [.str s,.str [c]] h=some (.bool (decide (0<=idxB c s 0)),h):=by
 have e0:cl (d-4) (.fn 126) [.str s,.int .u8 (c.toNat:Int)] h=some (.i (idxB c s 0),h):=by
  rw [jfT hcl om (p:=jaH) rfl]
  show some (V.i (idxB ((c.toNat:Int).toNat.toUInt8) s 0),h)=_
  rw [show ((c.toNat:Int).toNat.toUInt8)=c by simp]
 have e1:cl (d-3) (.fn 102) [.str s,.int .u8 (c.toNat:Int)] h=some (.i (idxB c s 0),h):=by
  refine jam (aT hcl ?_)
  refine qx ?_
  exact ⟨rfl,rfl⟩
 have e2:cl (d-2) (.fn 119) [.str s,.str [c]] h=some (.i (idxB c s 0),h):=by
  refine jam (aT hcl ?_)
  have n0 : ¬ (([c].length:Nat):Int)=0:=by simp
  have n1:(([c].length:Nat):Int)=1:=by simp
  clear e0
  repeat' (first|refine qxy ?_|(refine zsp ?_ ?_<;>intro _)|fail)
  ·next hs=>
   obtain rfl:[c]=s:=by simpa using hs
   exact ⟨by simp [idxB],rfl⟩
  ·exact ⟨rfl,rfl⟩
 have e3:cl (d-1) (.fn 96) [.str s,.str [c]] h=some (.i (idxB c s 0),h):=by
  refine jam (aT hcl ?_)
  clear e0 e1
  refine qx ?_
  exact ⟨rfl,rfl⟩
 refine jam (aT hcl ?_)
 clear e0 e1 e2
 refine qx ?_
 exact ⟨rfl,rfl⟩
theorem jek {d:Nat} {h:H} {op:Int} (hd:1<=d):cl d (.fn 59) [.i op] h=some (.str (jap op),h):=by
 refine jam (aT hcl ?_)
 unfold jap
 by_cases h1:op=1
 ·rw [zw h1]
  refine qx ?_
  exact ⟨rfl,rfl⟩
 rw [zt h1]
 by_cases h2:op=2
 ·rw [zw (.inl h2)]
  refine qx ?_
  exact ⟨rfl,rfl⟩
 by_cases h6:op=6
 ·rw [zw (.inr h6)]
  refine qx ?_
  exact ⟨rfl,rfl⟩
 rw [zt om]
 by_cases h3:op=3
 ·rw [zw (.inl h3)]
  refine qx ?_
  exact ⟨rfl,rfl⟩
 by_cases h4:op=4
 ·rw [zw (.inr (.inl h4))]
  refine qx ?_
  exact ⟨rfl,rfl⟩
 by_cases h5:op=5
 ·rw [zw (.inr (.inr h5))]
  refine qx ?_
  exact ⟨rfl,rfl⟩
 rw [zt om]
 by_cases h7:op=7
 ·rw [zw h7]
  refine qx ?_
  exact ⟨rfl,rfl⟩
 rw [zt h7]
 refine qx ?_
 exact ⟨rfl,rfl⟩
theorem jjH {d b:Nat} {h:H} {op:Int} {c:UInt8} {l:List V} {ro:Bool} (hd:6<=d) (hb:h.get b=some (.cells (.i op :: l) ro)):cl d (.fn 57) [.str [c],.p b 0] h=some (.bool (decide (0<=idxB c (jap op) 0)),h):=by
 have e1:=jek hcl (d:=d-1) (h:=h) (op:=op) om
 have e2:=jhQ hcl (d:=d-1) (h:=h) (s:=jap op) (c:=c) om
 refine jam (aT hcl ?_)
 refine qx ?_
 exact ⟨rfl,rfl⟩
theorem jhV {d:Nat} {h:H} {op:Int} (hd:1<=d):cl d (.fn 60) [.i op] h=some (.bool (decide (1<=op/\op<=6)),h):=by
 refine jam (aT hcl ?_)
 by_cases h1:1<=op
 ·refine qx ?_
  exact ⟨by simp [h1],rfl⟩
 ·refine qx ?_
  exact ⟨by simp [h1],rfl⟩
theorem jeC {d:Nat} {h:H} {op:Int} (hd:1<=d):cl d (.fn 61) [.i op] h=some (.bool (decide (op=2\/op=6\/op=7)),h):=by
 refine jam (aT hcl ?_)
 by_cases h1:op=2
 ·refine qx ?_
  exact ⟨by simp [h1],rfl⟩
 by_cases h2:op=6
 ·refine qx ?_
  exact ⟨by simp [h2],rfl⟩
 ·refine qx ?_
  exact ⟨by simp [h1,h2],rfl⟩
end
theorem jei {m:Mv} (h:m.op<1\/m.op>7\/m.wire<0\/m.n<0\/m.D.length>1000\/(m.op=7/\m.wire≠0)\/(m.op≠2/\m.op≠6/\m.op≠7/\m.n≠0)):decide m.may=false:=by
 refine zx fun c=>?_
 obtain ⟨c1,c2,c3,c4,c5,c6,c7,_⟩:=c
 omega
theorem jkX {m:Mv} (h1 : ¬ m.op<1) (h2 : ¬ m.op>7) (h3 : ¬ m.wire<0) (h4 : ¬ m.n<0) (h6:m.op≠7\/m.wire=0) (h7:m.op=2\/m.op=6\/m.op=7\/m.n=0) :
  decide m.may=decide (m.D.length<=1000/\(m.op=1↔0<m.D.length)) :=
 decide_eq_decide.2 ⟨fun c=>⟨c.2.2.2.2.1,c.2.2.2.2.2.2.2⟩,fun c=>⟨by omega,by omega,by omega,by omega,c.1,by omega,by omega,c.2⟩⟩
abbrev mvV (m:Mv) (dv:V):List V:=[.i m.op,.i m.wire,.i m.n,dv]
theorem Ops.callc_chk {call:Call} {fuel base:Nat} {K:List Fr} {e:Env} {h h':H} {Q:Post} {ix:Nat} {dst at_:Option Nat} {ops:List Ins} {keep:List Nat} {chk:List (Nat × I × Option (Nat × Bool))} {f:FuncId} {x:Opd} {args:List Opd} {cap vs:List V} {v:V} (hx:x.ev e=some (.clo f cap)) (ha:evs e args=some vs) (hc:call (.fn f) (vs++cap) h=some (v,h')) (hk:jau e h' chk=true) (k:Ops call fuel base ops keep K (layv e dst v) h' Q) :
  Ops call fuel base (⟨ix,dst,.callv x args,none,at_,chk⟩ :: ops) keep K e h Q :=
 Ops.step_chk (I.run_eff rfl (by simp only [I.eff,hx,ha,hc])) hk k
section
variable {cl:Nat->Call} (hcl:Sem cl) {h:H} {m:Mv} {a:Option (Nat × Nat)} {c:Cap}
include hcl
theorem rm_may {d:Nat} (hd:2<=d) : ∃ h',cl d (.fn 29) [.agg (mvV m (.slice a m.D.length c))] h=some (.bool (decide m.may),h')/\Old h h':=by
 have o:Old h (h.new (.cells (mvV m (.slice a m.D.length c)) false)):=(zX h).new
 have ew:=jhV hcl (d:=d-1) (op:=m.op) (h:=h.new (.cells (mvV m (.slice a m.D.length c)) false)) om
 have en:=jeC hcl (d:=d-1) (op:=m.op) (h:=h.new (.cells (mvV m (.slice a m.D.length c)) false)) om
 have g0:(h.new (.cells (mvV m (.slice a m.D.length c)) false)).get h.nx=some (.cells (mvV m (.slice a m.D.length c)) false):=jac _
 refine ja5 (aT hcl ?_)
 obtain ⟨C,hC⟩ : ∃ C,C=c29_1:=⟨_,rfl⟩
 simp only [c29,c29_2,<- hC,yB,yL]
 by_cases c1:m.op<1
 ·have hf:=jei (.inl c1)
  clear ew en
  refine qm ?_
  exact ⟨by rw [hf],o⟩
 by_cases c2:m.op>7
 ·have hf:=jei (m:=m) om
  clear ew en
  refine qm ?_
  exact ⟨by rw [hf],o⟩
 by_cases c3:m.wire<0
 ·have hf:=jei (m:=m) om
  clear ew en
  refine qm ?_
  exact ⟨by rw [hf],o⟩
 by_cases c4:m.n<0
 ·have hf:=jei (m:=m) om
  clear ew en
  refine qm ?_
  exact ⟨by rw [hf],o⟩
 by_cases c5:(m.D.length:Int)>1000
 ·have hf:=jei (m:=m) om
  clear ew en
  refine qm ?_
  exact ⟨by rw [hf],o⟩
 have tail : ∀ sb,Run (cl (d-1)) fuel C [] ((1,.p h.nx 0) :: sb) (h.new (.cells (mvV m (.slice a m.D.length c)) false)) (Fin c29.res fun v h'=>v = .bool (decide m.may)/\Old h h'):=fun sb=>by
  rw [hC]
  generalize h.new (.cells (mvV m (.slice a m.D.length c)) false)=G at o ew en g0 ⊢
  have fin : ∀ p:Prop,[Decidable p]->(p↔(m.op=1↔0<m.D.length))->(m.op≠7\/m.wire=0)->(m.op=2\/m.op=6\/m.op=7\/m.n=0)->V.bool (decide p)=V.bool (decide m.may):=fun p _ hp h6 h7=>by
   rw [jkX c1 c2 c3 c4 h6 h7]
   exact congrArg V.bool (decide_eq_decide.2 ⟨fun x=>⟨by omega,hp.1 x⟩,fun x=>hp.2 x.2⟩)
  have e1:(decide (m.op=1)=decide ((m.D.length:Int)>0))↔(m.op=1↔0<m.D.length):=by rw [decide_eq_decide];omega
  clear hC
  by_cases c7:m.op=7
  ·rw [zx om] at ew
   rw [zA om] at en
   by_cases c6:m.wire=0
   ·have hf:=fin _ e1 om om
    clear fin e1 c1 c2 c3 c4 c5
    refine qm ?_
    exact ⟨hf,o⟩
   ·have hf:=jei (m:=m) om
    clear fin e1 c1 c2 c3 c4 c5
    refine qm ?_
    exact ⟨by rw [hf],o⟩
  ·rw [zA om] at ew
   by_cases c8:m.op=2\/m.op=6\/m.op=7
   ·rw [zA c8] at en
    have hf:=fin _ e1 om om
    clear fin e1 c1 c2 c3 c4 c5 c8 c7
    refine qm ?_
    exact ⟨hf,o⟩
   rw [zx c8] at en
   by_cases c9:m.n=0
   ·have hf:=fin _ e1 om om
    clear fin e1 c1 c2 c3 c4 c5 c8 c7
    refine qm ?_
    exact ⟨hf,o⟩
   ·have hf:=jei (m:=m) om
    clear fin e1 c1 c2 c3 c4 c5 c8 c7
    refine qm ?_
    exact ⟨by rw [hf],o⟩
 clear ew en
 refine qm ?_
 exact tail _
theorem wm_may {d:Nat} (hd:7<=d) : ∃ h',cl d (.fn 28) [.agg (mvV m (.slice a m.D.length c))] h=some (.bool (decide m.may),h')/\Old h h':=by
 have o:Old h (h.new (.cells (mvV m (.slice a m.D.length c)) false)):=(zX h).new
 have g0:(h.new (.cells (mvV m (.slice a m.D.length c)) false)).get h.nx=some (.cells (mvV m (.slice a m.D.length c)) false):=jac _
 have en:=jek hcl (d:=d-1) (op:=m.op) (h:=h.new (.cells (mvV m (.slice a m.D.length c)) false)) om
 have ew:=jjH hcl (d:=d-1) (c:=119) om g0
 have eN:=jjH hcl (d:=d-1) (c:=110) om g0
 have ed:=jjH hcl (d:=d-1) (c:=100) om g0
 rw [parts_w] at ew
 rw [parts_n] at eN
 rw [parts_d] at ed
 refine ja5 (aT hcl ?_)
 obtain ⟨C,hC⟩ : ∃ C,C=c28_4:=⟨_,rfl⟩
 simp only [c28,<- hC,yN]
 by_cases c0:m.op<1\/m.op>7
 ·have ep:jap m.op=[]:=by
   unfold jap
   rw [zt om,zt om,zt om,zt om]
  rw [ep] at en
  refine qm ?_
  exact ⟨by rw [jei om],o⟩
 obtain ⟨x,t,ep⟩ : ∃ x t,jap m.op=x :: t:=by
  unfold jap
  by_cases h1:m.op=1
  ·rw [zw h1];exact ⟨_,_,rfl⟩
  rw [zt h1]
  by_cases h2:m.op=2\/m.op=6
  ·rw [zw h2];exact ⟨_,_,rfl⟩
  rw [zt h2]
  by_cases h3:m.op=3\/m.op=4\/m.op=5
  ·rw [zw h3];exact ⟨_,_,rfl⟩
  rw [zt h3,zw om];exact ⟨_,_,rfl⟩
 rw [ep] at en
 have c1 : ¬ m.op<1:=by omega
 have c2 : ¬ m.op>7:=by omega
 by_cases c3:m.wire<0
 ·refine qm ?_
  exact ⟨by rw [jei om],o⟩
 by_cases c4:m.n<0
 ·refine qm ?_
  exact ⟨by rw [jei om],o⟩
 have fin : ∀ p:Prop,[Decidable p]->(p↔(m.op=1↔0<m.D.length)/\m.D.length<=1000)->(m.op≠7\/m.wire=0)->(m.op=2\/m.op=6\/m.op=7\/m.n=0)->V.bool (decide p)=V.bool (decide m.may):=fun p _ hp h6 h7=>by
  rw [jkX c1 c2 c3 c4 h6 h7]
  exact congrArg V.bool (decide_eq_decide.2 ⟨fun x=>(hp.1 x).symm,fun x=>hp.2 x.symm⟩)
 have e1:(decide (m.op=1)=decide ((m.D.length:Int)>0))↔(m.op=1↔0<m.D.length):=by rw [decide_eq_decide];omega
 have tail : ∀ sb,(m.op≠7\/m.wire=0)->(m.op=2\/m.op=6\/m.op=7\/m.n=0)->Run (cl (d-1)) fuel C [] ((1,.p h.nx 0) :: (3,.clo 57 [.p h.nx 0]) :: sb) (h.new (.cells (mvV m (.slice a m.D.length c)) false)) (Fin c28.res fun v h'=>v = .bool (decide m.may)/\Old h h'):=fun sb h6 h7=>by
  rw [hC]
  clear ew eN en c0
  generalize hE:(decide (m.op=1):Bool)=b1 at ed e1
  have hfin:=fun p [Decidable p] hp=>fin p hp h6 h7
  have hmt:=jkX c1 c2 c3 c4 h6 h7
  clear fin h6 h7
  refine qm ?_
  refine Ops.callc_chk rfl rfl ed (chk_load rfl g0 rfl rfl jkv) ?_
  by_cases e2:b1=decide ((m.D.length:Int)>0)
  ·refine qm ?_
   exact ⟨hfin _ ⟨fun x=>⟨e1.1 e2,by omega⟩,fun x=>by have:=x.2;omega⟩,o⟩
  ·refine qm ?_
   exact ⟨by rw [hmt];exact congrArg V.bool (zx fun x=>e2 (e1.2 x.2)).symm,o⟩
 clear c0 fin e1
 by_cases c7:m.op=7
 ·rw [zx om] at ew
  rw [zA om] at eN
  by_cases c6:m.wire=0
  ·have tl:=fun sb=>tail sb om om
   clear tail
   refine qm ?_
   refine Ops.callc rfl rfl ew ?_
   refine qm ?_
   refine Ops.callc rfl rfl eN ?_
   refine qm ?_
   exact tl _
  ·clear tail
   refine qm ?_
   refine Ops.callc rfl rfl ew ?_
   refine qm ?_
   exact ⟨by rw [jei om],o⟩
 ·rw [zA om] at ew
  by_cases c8:m.op=2\/m.op=6\/m.op=7
  ·rw [zA c8] at eN
   have tl:=fun sb=>tail sb om om
   clear c8 tail
   refine qm ?_
   refine Ops.callc rfl rfl ew ?_
   refine qm ?_
   refine Ops.callc rfl rfl eN ?_
   refine qm ?_
   exact tl _
  rw [zx c8] at eN
  by_cases c9:m.n=0
  ·have tl:=fun sb=>tail sb om om
   clear c8 tail
   refine qm ?_
   refine Ops.callc rfl rfl ew ?_
   refine qm ?_
   refine Ops.callc rfl rfl eN ?_
   refine qm ?_
   exact tl _
  ·have hf:=jei (m:=m) om
   clear c8 tail
   refine qm ?_
   refine Ops.callc rfl rfl ew ?_
   refine qm ?_
   refine Ops.callc rfl rfl eN ?_
   refine qm ?_
   exact ⟨by rw [hf],o⟩
end
theorem jdW (b:UInt8):jdX (jbw b)=some b:=by
 have h:b.toNat<256:=b.toNat_lt
 have h2:below (b.toNat:Int) 256=true:=by
  rcases zr b.toNat 256 with _ | _
  ·simp [below];omega
  ·omega
 simp only [jbw,jdX,h2,cond_true,zq]
 congr 1
 exact UInt8.ofNat_toNat
theorem jfe : ∀ l:List UInt8,bytesOf (bts l)=some l
 | []=>rfl
 | b :: l=>by
  show (match jdX (jbw b),bytesOf (bts l) with | some b,some l=>some (b :: l) | _,_=>none)=_
  rw [jdW,jfe l]
section
variable {call:Call} {fuel base:Nat} {ops:List Ins} {keep:List Nat} {K:List Fr} {e:Env} {h:H} {Q:Post} {ix:Nat} {dst at_:Option Nat}
theorem Ops.sadd {x y:Opd} {a b:List UInt8} (hx:x.ev e=some (.str a)) (hy:y.ev e=some (.str b)) (hl:a.length+b.length<=1000000) (k:Ops call fuel base ops keep K (layv e dst (.str (a++b))) h Q) :
  Ops call fuel base (⟨ix,dst,.bin .add x y,none,at_,[]⟩ :: ops) keep K e h Q:=by
 refine Ops.pure rfl ?_ k
 have h2:Nat.ble (a.length+b.length) (2 ^ 62)=true:=Nat.ble_eq_true_of_le om
 simp only [I.pure,hx,hy,binOp,jjL,h2,cond_true]
theorem Ops.ofRow {x:Opd} {v:V} {N n:Nat} {l:List UInt8} (hx:x.ev e=some v) (r:Row N h 1 v n (bts l)) (k:Ops call fuel base ops keep K (layv e dst (.str l)) h Q) :
  Ops call fuel base (⟨ix,dst,.ofBytes x,none,at_,[]⟩ :: ops) keep K e h Q:=by
 refine Ops.step (I.run_read rfl ?_) k
 rcases r with ⟨rfl,h2,rfl⟩ | ⟨q,_,_,rfl,h4,h5⟩
 ·have:l=[]:=by simpa using h2
  subst this
  simp only [I.read,hx]
 ·simp only [I.read,hx]
  have hn:n=l.length:=by simpa using h5.symm
  subst hn
  cases l with
  | nil=>rfl
  | cons a l=>
   have:((a :: l).length == 0)=false:=rfl
   rw [this,cond_false,jby h4 Zd,zi,zf Zd]
   show (match bytesOf (bts (a :: l)) with | some s=>some (V.str s) | none=>none)=_
   rw [jfe]
theorem Ops.mark {x:Opd} {b o n:Nat} {c:Cap} {l:List V} (hx:x.ev e=some (.slice (some (b,o)) n c)) (hb:h.get b=some (.cells l false)) (hn:Nat.ble 1 n=true) (k:Ops call fuel base ops keep K (layv e dst (.slice (some (b,o)) n c)) h Q) :
  Ops call fuel base (⟨ix,dst,.mark x,none,at_,[]⟩ :: ops) keep K e h Q:=by
 refine Ops.step (I.run_eff rfl ?_) k
 simp only [I.eff,hx,hb,hn,cond_true]
end
abbrev opV (k a n t:Int) (dv:V):List V:=[.i k,.i a,.i n,.int .u64 t,dv]
structure Dat (h:H) (dat:Nat->Prop) (dv:V) (D:List UInt8):Prop where
 v:VB h dv D
 z:D≠[] -> ∀ z,dv.at?=some z->dat z
 len:D.length<=300
structure Cpy (h:H) (p:Nat) (ow:Nat->Nat) (ro dat:Nat->Prop) (vd:V) (D:List UInt8):Prop where
 v:VB h vd D
 z : ∀ z,vd.at?=some z->z<h.nx/\ow z=0 /\ ¬ ro z /\ ¬ dat z/\z≠p
section
variable {h h':H} {p w s rw:Nat} {ow ow':Nat->Nat} {ro ro' dat:Nat->Prop} {a r a' r':St} {dv vd:V} {D:List UInt8}
theorem BB.keepD (b:BB h p w s rw ow ro dat a r) (f:Fm h h' ow ro ow' ro') {z:Nat} (hz:dat z):h'.get z=h.get z :=
 f.ch.get z (b.ro_lt (.inr hz)) fun e=>e.elim (fun e=>e (b.sep z (.inr hz))) (b.ap hz)
theorem Dat.keep (d:Dat h dat dv D) (b:BB h p w s rw ow ro dat a r) (f:Fm h h' ow ro ow' ro'):Dat h' dat dv D :=
 ⟨d.v.keep2 f.ch.nx fun hl z hz=>b.keepD f (d.z hl z hz),d.z,d.len⟩
theorem Cpy.keep (c:Cpy h p ow ro dat vd D) (f:Fm h h' ow ro ow' ro'):Cpy h' p ow' ro' dat vd D :=
 ⟨c.v.keep f.ch.nx fun z hz=>by
  obtain ⟨p1,p2,p3,p4,p5⟩:=c.z z hz
  exact f.ch.get z p1 fun e=>e.elim (fun e=>e p2) p3,fun z hz=>by
  obtain ⟨p1,p2,p3,p4,p5⟩:=c.z z hz
  exact ⟨zo p1 f.ch.nx,by rw [f.tag z p1];exact p2,fun e=>p3 ((f.rtag z p1).1 e),p4,p5⟩⟩
theorem Fm.two {h1 h2:H} {ow1:Nat->Nat} (o:Old h h') (t:To h' h1 ow ow1) (f:Fm h1 h2 ow1 ro ow1 ro'):Fm h h2 ow ro ow1 ro':=(Fm.old o).trans ((Fm.to t).trans f)
end
section
variable {call:Call} {fuel base:Nat} {ops:List Ins} {keep:List Nat} {K:List Fr} {e:Env} {h:H} {Q:Post} {ix:Nat} {dst at_:Option Nat}
end
section
variable {f:Nat->Option (Nat × Nat)} {wv:V} {s:Nat} {now:Int} {no:Option (Nat × Nat)}
end
section
variable {cl:Nat->Call} (hcl:Sem cl) {h:H} {w s:Nat} {ow:Nat->Nat} {f:Nat->Option (Nat × Nat)} {l:List WX} {now:Int} {tb:Tb} {no:Option (Nat × Nat)}
include hcl
end
section
variable {cl:Nat->Call} (hcl:Sem cl) {h:H} {w s:Nat} {ow:Nat->Nat} {l:List WX} {now:Int} {tb:Tb} {no:Option (Nat × Nat)}
include hcl
end
def tg:Nat->Nat
 | 0=>0
 | 1=>2
 | 2=>1
 | 3=>4
 | _=>3
def jeg (ow:Nat->Nat) (N L m z:Nat):Nat->Nat:=fun j=>if j=z then 2 else if N<=j/\j<N+m then 10*L+10+tg (j-N) else ow j
theorem jkb {ow:Nat->Nat} {N L m z:Nat} : jeg ow N L m z z=2:=zw rfl
theorem jkc {ow:Nat->Nat} {N L m z i:Nat} (h:i<m) (hz:N+i≠z):jeg ow N L m z (N+i)=10*L+10+tg i:=by
 unfold jeg
 rw [zt hz,zw om,show N+i-N=i by omega]
theorem jfY {ow:Nat->Nat} {N L m z j:Nat} (h:j<N\/N+m<=j) (hz:j≠z):jeg ow N L m z j=ow j:=by
 unfold jeg
 rw [zt hz,zt om]
theorem XOk.tag0 {h:H} {ow ow':Nat->Nat} {n:Nat} {t:WX} (a:XOk h ow n t) (hk : ∀ j,ow j≠0->ow' j=ow j):XOk h ow' n t:=by
 refine ⟨a.hx,by rw [hk _ (by rw [a.ox];omega),a.ox],a.lx,fun k h01 q hq=>?_,a.wait.1,fun hl z hz=>?_⟩
 ·obtain ⟨p1,p2,p3,p4,p5⟩:=a.ring k h01 q hq
  exact ⟨p1,by rw [hk _ om,p2],by rw [hk _ om,p3],p4,p5⟩
 ·obtain ⟨p1,p2⟩:=a.wait.2 hl z hz
  exact ⟨by rw [hk _ om,p1],p2⟩
theorem WF.push {h h':H} {w s:Nat} {ow:Nat->Nat} {f g:Nat->Option (Nat × Nat)} {l:List WX} {now:Int} {tb:Tb} {no:Option (Nat × Nat)} {m z N:Nat} {wv:V} {t:WX} (a:WF h w s ow f l now tb no)
  (hm:m=1\/m=5) (hN:N+m<=h.nx) (h0 : ∀ j,N<=j->j<N+m->ow j=0) (hx:h.nx<=z) (hz:z<h'.nx) (hk : ∀ j,ow j≠0->ow j≠2->j≠w->h'.get j=h.get j)
  (hw:h'.get w=some (.cells (wc g wv s now no) false)) (row:Row 0 h' 1 wv (l.length+1) (wps l++[.p N 0])) (hat : ∀ y,wv.at?=some y->y=z)
  (t0:t.wb=N) (t1:m=5->t.b0=N+1/\t.r0=N+2/\t.b1=N+3/\t.r1=N+4)
  (ho:h'.get N=some (t.x.obj t.r0 t.r1 t.wv)) (hwt:t.x.waiting=[]) (hwv:t.wv = .nils)
  (hr : ∀ k,k=0\/k=1 -> ∀ q,(t.x.e k).ring=some q->m=5/\jch h' (t.r k) (t.b k) q t.x.cap) :
  WF h' w s (jeg ow N l.length m z) g (l++[t]) now tb no:=by
 have hz0:ow z=0:=a.top z hx
 have keep : ∀ j,ow j≠0->jeg ow N l.length m z j=ow j:=fun j hj=>jfY (by
  rcases zr j N with h1 | h1
  ·exact .inl h1
  ·rcases zr j (N+m) with h2 | h2
   ·exact zC (h0 j h1 h2) hj
   ·exact .inr h2) fun e=>hj (by rw [e,hz0])
 have nx:h.nx<=h'.nx:=by omega
 refine ⟨⟨wv,hw,?_,fun y hy=>by rw [hat y hy,jkb]⟩,?_,?_,?_,zo a.lw nx,zo a.ls nx,fun j hj=>?_,fun n u hu=>?_⟩
 ·rw [ze]
  show Row 0 h' 1 wv (l.length+1) (wps (l++[t]))
  have:wps (l++[t])=wps l++[.p N 0]:=by rw [<- t0];simp
  rw [this];exact row
 ·rw [hk s (by rw [a.ts];omega) (by rw [a.ts];omega) (fun e=>by have:=a.ts;rw [e,a.tw] at this;omega),a.hs]
 ·rw [keep w (by rw [a.tw];omega),a.tw]
 ·rw [keep s (by rw [a.ts];omega),a.ts]
 ·rw [jfY om om,a.top j om]
 ·rcases zr n l.length with hn | hn
  ·rw [zd,zw hn] at hu
   have o:=(a.ok n u hu).tag0 keep
   refine o.keep nx fun j j1 j2=>?_
   have hj:ow j≠0:=by
    intro e
    rcases zr j N with h1 | h1
    ·by_cases ez:j=z
     ·omega
     ·rw [jfY (.inl h1) ez,e] at j1;omega
    ·by_cases ez:j=z
     ·rw [ez,jkb] at j1;omega
     ·rcases zr j (N+m) with h2 | h2
      ·obtain ⟨i,rfl⟩ : ∃ i,j=N+i:=⟨j-N,by omega⟩
       rw [jkc om ez] at j2;omega
      ·rw [jfY (.inr h2) ez,e] at j1;omega
   refine hk j hj (fun e=>?_) fun e=>?_
   ·rw [keep j hj,e] at j1;omega
   ·rw [keep j hj,e,a.tw] at j1;omega
  ·rw [zd,zt om] at hu
   have e0:n-l.length=0:=by
    rcases Nat.eq_zero_or_pos (n-l.length) with e | e
    ·exact e
    ·rw [zc (show 1<=_ from e)] at hu;cases hu
   rw [e0] at hu
   cases hu
   obtain rfl:n=l.length:=by omega
   have tag : ∀ i,i<m->jeg ow N l.length m z (N+i)=10*l.length+10+tg i:=fun i hi=>jkc hi om
   refine ⟨by rw [t0];exact ho,by rw [t0];exact tag 0 om,by rw [t0];omega,fun k hk q hq=>?_,by rw [hwt,hwv];exact VI.nil h',fun hl=>zC hwt hl⟩
   obtain ⟨r1,r2⟩:=hr k hk q hq
   obtain ⟨p1,p2,p3,p4⟩:=t1 r1
   refine ⟨r2,?_⟩
   rcases hk with rfl | rfl
   ·show jeg ow N l.length m z t.r0=_/\jeg ow N l.length m z t.b0=_/\t.r0<h'.nx/\t.b0<h'.nx
    rw [p1,p2]
    exact ⟨tag 2 om,tag 1 om,by omega,by omega⟩
   ·show jeg ow N l.length m z t.r1=_/\jeg ow N l.length m z t.b1=_/\t.r1<h'.nx/\t.b1<h'.nx
    rw [p3,p4]
    exact ⟨tag 4 om,tag 3 om,by omega,by omega⟩
section
variable {cl:Nat->Call} (hcl:Sem cl)
include hcl
end
def Wi.name (x:Wi) (k:Nat) (i:Nat):Wi:=x.put k { x.e k with what:=1,fd:=i }
structure Opened (h h':H) (w s N:Nat) (ow:Nat->Nat) (g:Nat->Option (Nat × Nat)) (l:List WX) (now:Int) (no:Option (Nat × Nat)) (o:Obj):Prop where
 ho:h'.get N=some o
 hw : ∃ wv z,h'.get w=some (.cells (wc g wv s now no) false)/\Row 0 h' 1 wv (l.length+1) (wps l++[.p N 0])/\(∀ y,wv.at?=some y->y=z)/\h.nx<=z/\z<h'.nx
 hk : ∀ j,j<h.nx->j≠N->j≠w->ow j≠2->h'.get j=h.get j
 nx:h.nx<=h'.nx
section
variable {cl:Nat->Call} (hcl:Sem cl) {h:H} {w s:Nat} {ow:Nat->Nat} {f:Nat->Option (Nat × Nat)} {l:List WX} {now:Int} {tb:Tb} {no:Option (Nat × Nat)}
include hcl
end
section
variable {cl:Nat->Call} (hcl:Sem cl) {h:H} {w s:Nat} {ow:Nat->Nat} {l:List WX} {now:Int} {tb:Tb} {no:Option (Nat × Nat)}
include hcl
end
section
variable {cl:Nat->Call} (hcl:Sem cl) {h:H} {w s:Nat} {ow:Nat->Nat} {l:List WX} {now:Int} {tb:Tb} {no:Option (Nat × Nat)}
include hcl
end
theorem WSt.len {h:H} {w s:Nat} {ow:Nat->Nat} {ws:Ws} {now:Int} {tb:Tb} {no:Option (Nat × Nat)} (a:WSt h w s ow ws now tb no) : ∃ f av cp,h.get w=some (.cells (wc f (.slice av ws.length cp) s now no) false):=by
 obtain ⟨l,a,rfl⟩:=a
 obtain ⟨av,cp,hw,_⟩:=a.wf.head
 exact ⟨fun i=>atS (wxs l) (i:Int),av,cp,by rw [hw,List.length_map]⟩
section
variable {cl:Nat->Call} (hcl:Sem cl) {h:H} {w s:Nat} {ow:Nat->Nat} {ws:Ws} {now:Int} {tb:Tb} {no:Option (Nat × Nat)}
include hcl
end
section
variable {h:H} {w s:Nat} {ow:Nat->Nat} {f:Nat->Option (Nat × Nat)} {l:List WX} {now:Int} {tb:Tb} {no:Option (Nat × Nat)} {n m:Nat} {t:WX}
end
section
variable {cl:Nat->Call} (hcl:Sem cl) {h:H} {w s:Nat} {ow:Nat->Nat} {ws:Ws} {now:Int} {tb:Tb} {no:Option (Nat × Nat)}
include hcl
end
def RowZ (N:Nat) (h:H) (v:V) (l:List Int):Prop:=Row N h 1 v l.length (ints l)\/(l=[] /\ ∃ b,v = .slice (some (b,0)) 0 (.fix 0)/\N<=b/\b<h.nx)
theorem RowZ.at_ge {N:Nat} {h:H} {v:V} {l:List Int} (r:RowZ N h v l) {q:Nat} (hq:v.at?=some q):N<=q/\q<h.nx:=by
 rcases r with r | ⟨_,b,rfl,h1,h2⟩
 ·exact r.at_ge hq
 ·cases hq;exact ⟨h1,h2⟩
theorem RowZ.keep {N:Nat} {h h':H} {v:V} {l:List Int} (r:RowZ N h v l) (hx:h.nx<=h'.nx) (hg : ∀ q,v.at?=some q->h'.get q=h.get q):RowZ N h' v l:=by
 rcases r with r | ⟨h0,b,rfl,h1,h2⟩
 ·exact .inl (r.keep hx hg)
 ·exact .inr ⟨h0,b,rfl,h1,by omega⟩
section
variable {call:Call} {fuel base:Nat} {ops:List Ins} {keep:List Nat} {K:List Fr} {e:Env} {h:H} {Q:Post} {ix:Nat} {dst:Option Nat}
end
section
variable {cl:Nat->Call} (hcl:Sem cl)
include hcl
end
section
variable {cl:Nat->Call} (hcl:Sem cl) {h:H} {w s:Nat} {ow:Nat->Nat} {l:List WX} {now:Int} {tb:Tb} {no:Option (Nat × Nat)}
include hcl
end
section
variable {cl:Nat->Call} (hcl:Sem cl) {h:H} {w s:Nat} {ow:Nat->Nat} {l:List WX} {now:Int} {tb:Tb} {no:Option (Nat × Nat)}
include hcl
end
section
variable {cl:Nat->Call} (hcl:Sem cl) {h:H} {w s:Nat} {ow:Nat->Nat} {ws:Ws} {now:Int} {tb:Tb} {no:Option (Nat × Nat)}
include hcl
end
section
variable {cl:Nat->Call} (hcl:Sem cl) {h:H} {p w s rw:Nat} {ow:Nat->Nat} {ro dat:Nat->Prop} {st:St} {a n t:Int} {dv vd:V} {D:List UInt8}
include hcl
end
section
variable {cl:Nat->Call} (hcl:Sem cl) {h:H} {p w s rw:Nat} {ow:Nat->Nat} {ro dat:Nat->Prop} {st:St} {a n t:Int} {dv vd:V} {D:List UInt8}
include hcl
end
section
variable {call:Call} {fuel base:Nat} {K:List Fr} {e:Env} {h:H} {Q:Post} {ix:Nat} {dst at_:Option Nat} {ops:List Ins} {keep:List Nat}
end
section
variable {cl:Nat->Call} (hcl:Sem cl) {h:H} {p w s rw:Nat} {ow:Nat->Nat} {ro dat:Nat->Prop} {st:St} {a n t:Int} {dv vd:V} {D:List UInt8}
include hcl
end
theorem VB.lt {h:H} {v:V} {l:List UInt8} (a:VB h v l) (hl:l≠[]) {z:Nat} (hz:v.at?=some z):z<h.nx:=by
 obtain ⟨a,c,rfl,n,f,g⟩:=a
 obtain ⟨b,o,cs,ro,rfl,h1,_⟩:=g hl
 cases hz;exact h1
section
variable {cl:Nat->Call} (hcl:Sem cl) {h:H} {p w s rw:Nat} {ow:Nat->Nat} {ro dat:Nat->Prop} {st:St} {a n t:Int} {dv vd:V} {D:List UInt8}
include hcl
end
section
variable {call:Call} {fuel base:Nat} {K:List Fr} {e:Env} {h:H} {Q:Post} {ix:Nat} {dst:Option Nat} {ops:List Ins} {keep:List Nat}
end
section
variable {cl:Nat->Call} (hcl:Sem cl)
include hcl
end
def PD (h:H) (p w s rw:Nat) (ow:Nat->Nat) (ro dat:Nat->Prop) (vd:V) (st':St):Post:=fun y e g=>y = .normal/\e=[(5,vd),(6,.bool true)] /\ ∃ ow' ro',BB g p w s rw ow' ro' dat st' st'/\Fm h g ow ro ow' ro'
theorem PD.mk {call:Call} {fuel:Nat} {h g:H} {p w s rw:Nat} {ow ow':Nat->Nat} {ro ro' dat:Nat->Prop} {vd:V} {st':St} (b:BB g p w s rw ow' ro' dat st' st') (f:Fm h g ow ro ow' ro'):End call fuel [] .normal [(5,vd),(6,.bool true)] g (PD h p w s rw ow ro dat vd st') :=
 End.nil ⟨rfl,rfl,ow',ro',b,f⟩
section
variable {cl:Nat->Call} (hcl:Sem cl) {h:H} {p w s rw:Nat} {ow:Nat->Nat} {ro dat:Nat->Prop} {st:St} {a n t:Int} {dv vd:V} {D:List UInt8}
include hcl
end
section
variable {cl:Nat->Call} (hcl:Sem cl) {h:H} {p w s rw:Nat} {ow:Nat->Nat} {ro dat:Nat->Prop} {st:St} {a n t:Int} {dv vd:V} {D:List UInt8}
include hcl
end
section
variable {cl:Nat->Call} (hcl:Sem cl) {h:H} {p w s rw:Nat} {ow:Nat->Nat} {ro dat:Nat->Prop} {st:St} {a n t:Int} {dv vd:V} {D:List UInt8}
include hcl
end
section
variable {cl:Nat->Call} (hcl:Sem cl) {h:H} {p w s rw:Nat} {ow:Nat->Nat} {ro dat:Nat->Prop} {st:St} {k a n t:Int} {dv vd:V} {D:List UInt8}
include hcl
end
section
variable {cl:Nat->Call} (hcl:Sem cl)
include hcl
theorem Fin.mono {res:List RV} {R R':V->H->Prop} {x:Ex} {e:Env} {h:H} (k:Fin res R x e h) (hR : ∀ v,R v h->R' v h):Fin res R' x e h:=by
 obtain ⟨p1,l,p2,p3⟩:=k;exact ⟨p1,l,p2,hR _ p3⟩
end
theorem chk_loadN {e:Env} {h:H} {d n:Nat} {a:Opd} {g:Option (Nat × Bool)} {r:List (Nat × I × Option (Nat × Bool))} {b o:Nat} {l:List V} {ro:Bool} {v:List V} (ha:a.ev e=some (.ptr (some (b,o)))) (hb:h.get b=some (.cells l ro)) (hn:o+n<=l.length)
  (hv:(l.drop o).take n=v) (hd:e.get d=some (.agg v)) (k:jau e h r=true):jau e h ((d,.loadN n a,g) :: r)=true:=by
 simp only [jau,I.read,ha,jby hb hn,hv,hd,V.same_refl,k,Bool.and_true]
 cases wanted e g<;>rfl
section
variable {cl:Nat->Call} (hcl:Sem cl)
include hcl
end
section
variable {cl:Nat->Call} (hcl:Sem cl) {h0:H} {w s:Nat} {ow:Nat->Nat} {ws:Ws} {now:Int} {tb:Tb} {no:Option (Nat × Nat)}
include hcl
end
structure Rdy where
 op:Bool
 inn:Bool
 out:Bool
 hup:Bool
 err:Bool
 rd:Int
 wr:Int
def Rdy.cells (r:Rdy):List V:=[.bool r.op,.bool r.inn,.bool r.out,.bool r.hup,.bool r.err,.int .u64 r.rd,.int .u64 r.wr]
def Rdy.no:Rdy:=⟨false,false,false,false,false,0,0⟩
def mayAsk (ev:Int):Prop:=ev=0\/ev=1\/ev=4\/ev=5
instance (ev:Int):Decidable (mayAsk ev):=inferInstanceAs (Decidable (_\/_))
structure BX (h0 h:H) (p w s rw:Nat) (ow:Nat->Nat) (ro:Nat->Prop) (st:St) (i:Nat):Prop where
 b:BB h p w s rw ow ro (fun j=>j<h0.nx) st st
 so:StOk st i
 old:Old h0 h
 own : ∀ j,ow j≠0\/ro j->h0.nx<=j
 lp:h0.nx<=p
theorem Ops.build {call:Call} {fuel base:Nat} {K:List Fr} {e:Env} {h:H} {Q:Post} {ix:Nat} {dst:Option Nat} {ops:List Ins} {keep:List Nat} {at_:Option Nat} {zero l:List V} {parts:List (Nat × Nat × Opd)} {ps:List (Nat × Nat × V)}
  (he:jaC e parts=some ps) (hf:jaB zero ps=some l) (k:Ops call fuel base ops keep K (layv e dst (.agg l)) h Q):Ops call fuel base (⟨ix,dst,.build zero parts,none,at_,[]⟩ :: ops) keep K e h Q :=
 Ops.pure rfl (by simp only [I.pure,he,hf]) k
section
variable {cl:Nat->Call} (hcl:Sem cl)
include hcl
end
def jjC (n:Int):UInt8:=UInt8.ofNat n.toNat
theorem byteI_V {n:Int} (h1:0<=n) (h2:n<=255):jbw (jjC n) = .int .u8 n:=by
 have:n.toNat<256:=by omega
 simp only [jbw,jjC,UInt8.toNat_ofNat',Nat.mod_eq_of_lt this]
 congr 1;omega
theorem jgW {h:H} : ∀ {l:List Int} {cs:List V},ja3 (jcy .u8) h l cs->cs=bts (l.map jjC)
 | [],_,e=>e
 | x :: l,_,⟨u,w,e,h1,h2⟩=>by
  obtain ⟨rfl,h3⟩:=h1
  rw [e,jgW h2,<- byteI_V h3.1 h3.2];rfl
theorem bytes_of {h:H} {l:List Int} {u:V} {B:Nat} (r:jb2 B (jcy .u8) h l [u]) : ∃ a c,u = .slice a l.length (.fix c)/\(l.length<=B->BytesAt h a (.fix c) (l.map jjC)):=by
 obtain ⟨a,c,e,h1,h2,h3⟩:=r
 cases e
 refine ⟨a,c,rfl,fun hB=>⟨fun e=>?_,by show (l.map jjC).length<=c;simpa using h2,fun hn=>?_⟩⟩
 ·obtain ⟨rfl,rfl⟩:=h3 e;exact ⟨rfl,rfl⟩
 ·obtain ⟨b,cs,q1,q2,q3,q4⟩:=h1 hB (by rintro rfl;exact hn rfl)
  refine ⟨b,0,cs,true,q1,q2,q3,fun i x hi=>?_⟩
  rw [jgW q4,zG];exact jky hi
theorem BytesAt.keep {h h':H} {a:Option (Nat × Nat)} {c:Cap} {l:List UInt8} (t:BytesAt h a c l) (hx:h.nx<=h'.nx) (hk : ∀ j o,j<h.nx->h.get j=some o->h'.get j=some o):BytesAt h' a c l :=
 ⟨t.none_,t.fits,fun hn=>by
  obtain ⟨b,o,cs,ro,q1,q2,q3,q4⟩:=t.at_ hn
  exact ⟨b,o,cs,ro,q1,by omega,hk _ _ q2 q3,q4⟩⟩
theorem BytesAt.lt {h:H} {a:Option (Nat × Nat)} {c:Cap} {l:List UInt8} (t:BytesAt h a c l) {N:Nat} (hN:h.nx<=N) {z o:Nat} (ha:a=some (z,o)) (hl:l≠[]):z<N:=by
 obtain ⟨b,o',cs,ro,q1,q2,_⟩:=t.at_ hl
 rw [q1] at ha;cases ha;omega
structure OpX where
 k:Int
 a:Int
 n:Int
 t:Int
 dv:V
 D:List UInt8
abbrev OpX.V (x:OpX):List V:=opV x.k x.a x.n x.t x.dv
structure OpOk (h:H) (x:OpX):Prop where
 dv : ∃ a c,x.dv = .slice a x.D.length c/\(x.D.length<=300->BytesAt h a c x.D)
 t0:0<=x.t
 t1:x.t<=18446744073709551615
theorem OpOk.keep {h h':H} {x:OpX} (o:OpOk h x) (hx:h.nx<=h'.nx) (hk : ∀ j o,j<h.nx->h.get j=some o->h'.get j=some o):OpOk h' x:=by
 obtain ⟨⟨a,c,e,g⟩,t0,t1⟩:=o
 exact ⟨⟨a,c,e,fun hl=>(g hl).keep hx hk⟩,t0,t1⟩
theorem OpOk.dat {h:H} {x:OpX} (o:OpOk h x) (hl:x.D.length<=300):Dat h (fun j=>j<h.nx) x.dv x.D:=by
 obtain ⟨⟨a,c,e,g⟩,_,_⟩:=o
 refine ⟨⟨a,c,e,g hl⟩,fun hn z hz=>?_,hl⟩
 obtain ⟨b,o,cs,ro,q1,q2,_⟩:=(g hl).at_ hn
 rw [e,q1] at hz
 cases hz;exact q2
def jkZ (h:H) (lv:V) (L:List OpX):Prop := ∃ ad c,lv = .slice ad L.length c/\(L.length<=200->(∀ x∈L,OpOk h x)/\(L≠[] -> ∃ b cs ro,ad=some (b,0)/\b<h.nx/\h.get b=some (.cells cs ro)/\cs.length=L.length*5 /\ ∀ (i:Nat) (x:OpX),L[i]?=some x->(cs.drop (i*5)).take 5=x.V))
theorem jkZ.keep {h h':H} {lv:V} {L:List OpX} (o:jkZ h lv L) (hx:h.nx<=h'.nx) (hk : ∀ j o,j<h.nx->h.get j=some o->h'.get j=some o):jkZ h' lv L:=by
 obtain ⟨ad,c,e,g⟩:=o
 refine ⟨ad,c,e,fun hl=>⟨fun x hx'=>((g hl).1 x hx').keep hx hk,fun hn=>?_⟩⟩
 obtain ⟨b,cs,ro,q1,q2,q3,q4⟩:=(g hl).2 hn
 exact ⟨b,cs,ro,q1,by omega,hk _ _ q2 q3,q4⟩
theorem jdb {α : Type} {l:List α} {i:Nat} (h:i<l.length) : ∃ x,l[i]?=some x:=⟨_,za h⟩
section
variable {cl:Nat->Call} (hcl:Sem cl)
include hcl
end
theorem flat_get : ∀ {L:List OpX} {i:Nat} {x:OpX},L[i]?=some x->(((L.map OpX.V).flatten).drop (i*5)).take 5=x.V
 | [],i,x,h=>by simp at h
 | y :: L,0,x,h=>by simp at h;subst h;rfl
 | y :: L,i+1,x,h=>by
  rw [List.map_cons,zM,show (i+1)*5=(OpX.V y).length+i*5 by show _=5+_;omega,<- List.drop_drop,List.drop_left]
  exact flat_get (by simpa using h)
structure MvX where
 m:Mv
 dv:V
abbrev MvX.V (x:MvX):List V:=mvV x.m x.dv
def MvOk (h:H) (x:MvX):Prop := ∃ a c,x.dv = .slice a x.m.D.length c/\(x.m.D.length<=1100->BytesAt h a c x.m.D)
def MvsAt (h:H) (v:V) (l:List MvX):Prop := ∃ ad c,v = .slice ad l.length c/\(l≠[] -> ∃ b cs ro,ad=some (b,0)/\b<h.nx/\h.get b=some (.cells cs ro)/\cs.length=l.length*4 /\ ∀ (i:Nat) (x:MvX),l[i]?=some x->(cs.drop (i*4)).take 4=x.V)
def jlh (B:Nat) (h:H) (v:V) (l:List MvX):Prop:=(∃ ad c,v = .slice ad l.length c)/\(l.length<=B->(∀ x∈l,MvOk h x)/\MvsAt h v l)
structure SpX where
 t:Int
 intr:Bool
 ol:List Int
 ov:V
 ml:List MvX
 mv:V
abbrev SpX.V (x:SpX):List V:=[.int .u64 x.t,.bool x.intr,x.ov,x.mv]
structure SpOk (h:H) (x:SpX):Prop where
 ov:(∃ ad c,x.ov = .slice ad x.ol.length c)/\(x.ol.length<=60->VI h x.ov x.ol)
 mv:jlh 60 h x.mv x.ml
 t0:0<=x.t
 t1:x.t<=18446744073709551615
def jlg (h:H) (v:V) (l:List SpX):Prop := ∃ ad c,v = .slice ad l.length c/\(l.length<=100->(∀ x∈l,SpOk h x)/\(l≠[] -> ∃ b cs ro,ad=some (b,0)/\b<h.nx/\h.get b=some (.cells cs ro)/\cs.length=l.length*4 /\ ∀ (i:Nat) (x:SpX),l[i]?=some x->(cs.drop (i*4)).take 4=x.V))
def sumM:List SpX->Nat
 | []=>0
 | x :: l=>x.ml.length+sumM l
theorem sumM_take {l:List SpX} : ∀ {i:Nat} {x:SpX},l[i]?=some x->sumM (l.take (i+1))=sumM (l.take i)+x.ml.length:=by
 induction l with
 | nil=>intro i x h;simp at h
 | cons y l ih=>
  intro i x h
  match i,h with
  | 0,h=>simp at h;subst h;simp [sumM]
  | i+1,h=>
   have:=ih (i:=i) (x:=x) (by simpa using h)
   simp only [List.take_succ_cons,sumM] at this ⊢
   omega
structure fewS (l:List SpX):Prop where
 len:l.length<=100
 each : ∀ x∈l,x.ml.length<=60/\x.ol.length<=60 /\ ∀ m∈x.ml,m.m.D.length<=1100
 sum:sumM l<=500
theorem jkY {cs l:List V} {i j:Nat} (h:(cs.drop (i*4)).take 4=l) (hj:j<4):cs[0+(i:Int).toNat*4+j]?=l[j]?:=by
 rw [<- h,zE,zw hj,zk]
 congr 1
 omega
section
variable {cl:Nat->Call} (hcl:Sem cl)
include hcl
theorem gs_ok {d:Nat} {h:H} {v:V} {l:List SpX} (hd:1<=d) (hl:jlg h v l) :
  ∃ r,cl d (.fn 6) [v] h=some (r,h)/\(r = .i 1\/(r = .i 0/\fewS l)):=by
 obtain ⟨ad,c,rfl,hin⟩:=hl
 suffices ∃ r h',cl d (.fn 6) [.slice ad l.length c] h=some (r,h')/\(h'=h/\(r = .i 1\/(r = .i 0/\fewS l))) by
  obtain ⟨v,h',q1,rfl,q3⟩:=this
  exact ⟨v,q1,q3⟩
 refine aT hcl ?_
 by_cases h1:100<(l.length:Int)
 ·refine qx ?_
  exact ⟨rfl,.inl rfl⟩
 obtain ⟨hok,hel⟩:=hin om
 refine qx ?_
 refine zW (fun m e h'=>∃ (i:Nat) (n:Int),m=l.length-i/\i<=l.length/\e=[(0,.slice ad l.length c),(3,.i n),(10,.i (l.length:Int)),(11,.i (i:Int))]/\h'=h/\0<=n/\n<=4000/\(sumM (l.take i):Int)<=n/\sumM (l.take i)<=500 /\ ∀ j x,j<i->l[j]?=some x->x.ml.length<=60/\x.ol.length<=60 /\ ∀ m∈x.ml,m.m.D.length<=1100)
  (k:=l.length) Ze ⟨0,0,rfl,by omega,rfl,rfl,by omega,by omega,by simp [sumM],by simp [sumM],fun j x hj=>by omega⟩ ?_
 rintro _ _ g ⟨i,n,rfl,hi,rfl,rfl,n0,n1,n2,n3,hj⟩ n' ih
 by_cases hlt:(i:Int)<l.length
 case neg=>
  obtain rfl:i=l.length:=by omega
  rw [List.take_length] at n3
  have hf:fewS l:=⟨by omega,fun x hx=>by
   obtain ⟨j,hjl,e⟩:=zK hx
   exact hj j x om (by rw [za hjl,e]),n3⟩
  clear ih hel hok hj
  refine qx ?_
  exact ⟨rfl,.inr ⟨rfl,hf⟩⟩
 obtain ⟨x,hx⟩:=jdb (l:=l) (i:=i) om
 obtain ⟨b,cs,ro,rfl,_,hb,hcs,hc⟩:=hel (by rintro rfl;simp at hx)
 obtain ⟨⟨⟨oa,oc,eov⟩,_⟩,⟨⟨ma,mc,emv⟩,hmin⟩,_,_⟩:=hok x (zb hx)
 have h4:=hc i x hx
 have c2:cs[0+(i:Int).toNat*4+2]?=some (.slice oa x.ol.length oc):=by rw [jkY h4 om,<- eov];rfl
 have c3:cs[0+(i:Int).toNat*4+3]?=some (.slice ma x.ml.length mc):=by rw [jkY h4 om,<- emv];rfl
 have hs:=sumM_take hx
 clear hel hok hc h4
 by_cases k1:60<(x.ml.length:Int)
 ·clear ih hj
  refine qx ?_
  exact ⟨rfl,.inl rfl⟩
 by_cases k2:60<(x.ol.length:Int)
 ·clear ih hj
  refine qx ?_
  exact ⟨rfl,.inl rfl⟩
 by_cases k3:500<n+(x.ml.length:Int)+(x.ol.length:Int)
 ·clear ih hj
  refine qx ?_
  exact ⟨rfl,.inl rfl⟩
 obtain ⟨hmok,hmat⟩:=hmin om
 have hi1:(i:Int)+1=((i+1:Nat):Int):=by omega
 refine qx ?_
 refine zW (fun m e h'=>∃ (k:Nat) (n':Int),m=x.ml.length-k/\k<=x.ml.length/\e=[(0,.slice (some (b,0)) l.length c),(3,.i n'),(4,.i (i:Int)),(10,.i (l.length:Int)),(11,.i (i:Int)),(54,.i (x.ml.length:Int)),(55,.i (k:Int))]/\h'=g/\n+(x.ml.length:Int)+(x.ol.length:Int)<=n'/\n'<=500+55*(k:Int) /\ ∀ j y,j<k->x.ml[j]?=some y->y.m.D.length<=1100)
  (k:=x.ml.length) Ze ⟨0,_,rfl,by omega,rfl,rfl,by omega,by omega,fun j y hj=>by omega⟩ ?_
 rintro _ _ _ ⟨k,n',rfl,hk,rfl,rfl,p0,p1,hjk⟩ n'' ih2
 by_cases hlt2:(k:Int)<x.ml.length
 case neg=>
  clear ih2
  have hall : ∀ m∈x.ml,m.m.D.length<=1100:=fun m hm=>by
   obtain ⟨j,hjl,e⟩:=zK hm
   exact hjk j m om (by rw [za hjl,e])
  refine qx ?_
  rw [hi1]
  refine ih (l.length-(i+1)) om _ _ ⟨i+1,n',rfl,by omega,rfl,rfl,by omega,by omega,by rw [hs];omega,by rw [hs];omega,fun j y hj' hy=>?_⟩
  by_cases e:j=i
  ·subst e
   rw [hx] at hy;cases hy
   exact ⟨by omega,by omega,hall⟩
  ·exact hj j y om hy
 obtain ⟨y,hy⟩:=jdb (l:=x.ml) (i:=k) om
 obtain ⟨ad',c',emv',hne⟩:=hmat
 obtain ⟨b2,cs2,ro2,e2,_,hb2,hcs2,hc2⟩:=hne (by intro e;rw [e] at hy;simp at hy)
 obtain ⟨da,dc,edv,_⟩:=hmok y (zb hy)
 obtain ⟨rfl,rfl⟩:ma=ad'/\mc=c':=by rw [emv] at emv';cases emv';exact ⟨rfl,rfl⟩
 subst e2
 have d3:cs2[0+(k:Int).toNat*4+3]?=some (.slice da y.m.D.length dc):=by rw [jkY (hc2 k y hy) om,<- edv];rfl
 have hk1:(k:Int)+1=((k+1:Nat):Int):=by omega
 clear hmok hne hc2
 by_cases k4:1100<(y.m.D.length:Int)
 ·clear ih ih2 hj hjk
  refine qx ?_
  exact ⟨rfl,.inl rfl⟩
 refine qx ?_
 have q1:(0:Int)<=(y.m.D.length:Int)/20/\(y.m.D.length:Int)/20<=55:=by omega
 have q2:(y.m.D.length:Int).tdiv 20=(y.m.D.length:Int)/20:=Int.tdiv_eq_ediv_of_nonneg om
 rw [q2,jdc (n:=(y.m.D.length:Int)/20) ⟨by omega,by omega⟩,jdc (n:=n'+(y.m.D.length:Int)/20) ⟨by omega,by omega⟩,hk1]
 refine ih2 (x.ml.length-(k+1)) om _ _ ⟨k+1,_,rfl,by omega,rfl,rfl,by omega,by omega,fun j z hj' hz=>?_⟩
 by_cases e:j=k
 ·subst e
  rw [hy] at hz;cases hz
  omega
 ·exact hjk j z om hz
end
section
variable {cl:Nat->Call} (hcl:Sem cl) {h:H} {m:Mv} {dv:V} {st:St} {i:Nat}
include hcl
end
def At4 {α : Type} (h:H) (P:Nat->Prop) (f : α -> List V) (v:V) (l:List α):Prop :=
 ∃ ad c,v = .slice ad l.length c/\(ad=none->c = .fix 0/\l=[])/\Cap.fits c l.length 4/\(l≠[] -> ∃ b o cs ro,ad=some (b,o)/\b<h.nx/\P b/\h.get b=some (.cells cs ro) /\ ∀ (i:Nat) (x : α),l[i]?=some x->(cs.drop (o+i*4)).take 4=f x)
theorem At4.keep {α : Type} {h h':H} {P P':Nat->Prop} {f : α -> List V} {v:V} {l:List α} (a:At4 h P f v l) (hx:h.nx<=h'.nx) (hk : ∀ z,z<h.nx->P z->h'.get z=h.get z/\P' z):At4 h' P' f v l:=by
 obtain ⟨ad,c,e,n,ft,g⟩:=a
 refine ⟨ad,c,e,n,ft,fun hl=>?_⟩
 obtain ⟨b,o,cs,ro,e1,e2,e3,e4,e5⟩:=g hl
 exact ⟨b,o,cs,ro,e1,zo e2 hx,(hk b e2 e3).2,by rw [(hk b e2 e3).1,e4],e5⟩
theorem je2 {cs l:List V} {k:Nat} (h:(cs.drop k).take 4=l) (hl:l.length=4):k+4<=cs.length:=by
 have:=congrArg List.length h
 rw [List.length_take,List.length_drop,hl] at this
 omega
theorem cell4' {cs l:List V} {k j:Nat} (h:(cs.drop k).take 4=l) (hj:j<4):cs[k+j]?=l[j]?:=by
 rw [<- h,zE,zw hj,zk]
structure StepAt (h:H) (P Q:Nat->Prop) (x:SpX):Prop where
 ov:VI h x.ov x.ol/\(x.ol≠[] -> ∀ z,x.ov.at?=some z->P z)
 mv:At4 h P MvX.V x.mv x.ml
 dv : ∀ m∈x.ml,VB h m.dv m.m.D/\(m.m.D≠[] -> ∀ z,m.dv.at?=some z->Q z)
 t0:0<=x.t
 t1:x.t<=18446744073709551615
def jbF (h:H) (P Q:Nat->Prop) (v:V) (l:List SpX):Prop:=At4 h P SpX.V v l /\ ∀ x∈l,StepAt h P Q x
theorem VI.lt {h:H} {v:V} {l:List Int} (a:VI h v l) (hl:l≠[]) {z:Nat} (hz:v.at?=some z):z<h.nx:=by
 obtain ⟨a,c,rfl,n,f,g⟩:=a
 obtain ⟨b,o,cs,ro,rfl,h1,_⟩:=g hl
 cases hz;exact h1
theorem StepAt.keep {h h':H} {P Q P' Q':Nat->Prop} {x:SpX} (a:StepAt h P Q x) (hx:h.nx<=h'.nx) (hp : ∀ z,z<h.nx->P z->h'.get z=h.get z/\P' z) (hq : ∀ z,z<h.nx->Q z->h'.get z=h.get z/\Q' z):StepAt h' P' Q' x where
 ov:=⟨a.ov.1.keep2 hx fun hl z hz=>(hp z (a.ov.1.lt hl hz) (a.ov.2 hl z hz)).1,fun hl z hz=>(hp z (a.ov.1.lt hl hz) (a.ov.2 hl z hz)).2⟩
 mv:=a.mv.keep hx hp
 dv m hm:=⟨(a.dv m hm).1.keep2 hx fun hl z hz=>(hq z ((a.dv m hm).1.lt hl hz) ((a.dv m hm).2 hl z hz)).1,fun hl z hz=>(hq z ((a.dv m hm).1.lt hl hz) ((a.dv m hm).2 hl z hz)).2⟩
 t0:=a.t0
 t1:=a.t1
theorem jbF.keep {h h':H} {P Q P' Q':Nat->Prop} {v:V} {l:List SpX} (a:jbF h P Q v l) (hx:h.nx<=h'.nx) (hp : ∀ z,z<h.nx->P z->h'.get z=h.get z/\P' z) (hq : ∀ z,z<h.nx->Q z->h'.get z=h.get z/\Q' z):jbF h' P' Q' v l :=
 ⟨a.1.keep hx hp,fun x hx'=>(a.2 x hx').keep hx hp hq⟩
theorem StepAt.old {h h':H} {P Q:Nat->Prop} {x:SpX} (a:StepAt h P Q x) (o:Old h h'):StepAt h' P Q x:=a.keep o.1 (fun z hz hp=>⟨o.2 z hz,hp⟩) (fun z hz hp=>⟨o.2 z hz,hp⟩)
theorem jbF.old {h h':H} {P Q:Nat->Prop} {v:V} {l:List SpX} (a:jbF h P Q v l) (o:Old h h'):jbF h' P Q v l:=a.keep o.1 (fun z hz hp=>⟨o.2 z hz,hp⟩) (fun z hz hp=>⟨o.2 z hz,hp⟩)
theorem At4.old {α : Type} {h h':H} {P:Nat->Prop} {f : α -> List V} {v:V} {l:List α} (a:At4 h P f v l) (o:Old h h'):At4 h' P f v l:=a.keep o.1 fun z hz hp=>⟨o.2 z hz,hp⟩
def SpX.sp (x:SpX):Sp:=⟨x.t,x.intr,x.ol,x.ml.map MvX.m⟩
def Sp.may (x:Sp):Prop:=x.moves.length<=50/\x.order.length<=50/\(∀ n∈x.order,0<=n/\n<=999) /\ ∀ m∈x.moves,m.may
instance (x:Sp):Decidable x.may:=by unfold Sp.may;infer_instance
def badN (n:Int):Prop:=n<0\/n>999
instance:DecidablePred badN:=fun n=>by unfold badN;infer_instance
section
variable {cl:Nat->Call} (hcl:Sem cl)
include hcl
theorem if_4 {α : Type} {d f g:Nat} {h:H} {P:Nat->Prop} {V4 : α -> List V} {bad : α -> Prop} [DecidablePred bad] {v:V} {l:List α} (hV : ∀ x,(V4 x).length=4) (hf:jbg prog.prims f=none) (hf2:jbg prog.fns f=some c97) (hd:1<=d) (a:At4 h P V4 v l) (hl:l.length<=50000)
  (k : ∀ x∈l,∀ h1,Old h h1 -> ∃ h2,cl (d-1) (.fn g) [.agg (V4 x)] h1=some (.bool (decide (bad x)),h2)/\Old h1 h2) :
  ∃ r h',cl d (.fn f) [v,.clo g []] h=some (.i r,h')/\Old h h'/\(0<=r ↔ ∃ x∈l,bad x):=by
 suffices q : ∃ w h',cl d (.fn f) [v,.clo g []] h=some (w,h') /\ ∃ r,w = .i r/\Old h h'/\(0<=r ↔ ∃ x∈l,bad x) by
  obtain ⟨_,h',e,r,rfl,q⟩:=q;exact ⟨r,h',e,q⟩
 obtain ⟨ad,c,rfl,_,_,hb⟩:=a
 refine at_ hcl om hf hf2 rfl ?_
 refine qx ?_
 refine zW (fun m e h1=>∃ i:Nat,m=l.length-i/\i<=l.length/\e=[(0,.slice ad l.length c),(1,.clo g []),(7,.i (l.length:Int)),(8,.i (i:Int))]/\Old h h1 /\ ∀ j x,j<i->l[j]?=some x -> ¬ bad x)
  (k:=l.length) Ze ⟨0,rfl,by omega,rfl,zX h,fun j x hj=>by omega⟩ ?_
 rintro _ _ h1 ⟨i,rfl,hi,rfl,o,hj⟩ n' ih
 by_cases hlt:(i:Int)<l.length
 case neg=>
  have hno : ¬ ∃ x∈l,bad x:=fun ⟨x,hx,hb⟩=>by
   obtain ⟨j,hjl,e⟩:=zK hx
   exact hj j x om (by rw [za hjl,e]) hb
  clear ih hb hj k
  refine qx ?_
  exact ⟨_,rfl,o,fun e=>zC e om,fun e=>zC e hno⟩
 obtain ⟨x,hx⟩:=jdb (l:=l) (i:=i) om
 obtain ⟨b,oo,cs,ro,rfl,lb,_,gb,hc⟩:=hb (by rintro rfl;simp at hx)
 have gb1:h1.get b=some (.cells cs ro):=by rw [o.2 b lb,gb]
 have h4:(cs.drop (oo+(i:Int).toNat*4)).take 4=V4 x:=by rw [zq];exact hc i x hx
 have hlen:=je2 h4 (hV x)
 have hxm:=zb hx
 obtain ⟨h2,e2,o2⟩:=k x hxm h1 o
 have hi1:(i:Int)+1=((i+1:Nat):Int):=by omega
 clear k hb
 by_cases hbad:bad x
 ·rw [zA hbad] at e2
  clear ih hj hc
  refine qx ?_
  refine zcw rfl gb1 hlen ?_
  rw [h4]
  refine Ops.callc rfl rfl e2 ?_
  refine qx ?_
  exact ⟨_,rfl,o.trans o2,fun _=>⟨x,hxm,hbad⟩,fun _=>by omega⟩
 ·rw [zx hbad] at e2
  clear hc
  refine qx ?_
  refine zcw rfl gb1 hlen ?_
  rw [h4]
  refine Ops.callc rfl rfl e2 ?_
  refine qx ?_
  rw [hi1]
  refine ih (l.length-(i+1)) om _ _ ⟨i+1,rfl,by omega,rfl,o.trans o2,fun j y hj' hy=>?_⟩
  by_cases e:j=i
  ·subst e
   rw [hx] at hy;cases hy
   exact hbad
  ·exact hj j y om hy
theorem cf_step {d g:Nat} {h:H} {P:Nat->Prop} {bad:SpX->Prop} [DecidablePred bad] {v:V} {l:List SpX} (hd:2<=d) (a:At4 h P SpX.V v l) (hl:l.length<=50000)
  (k : ∀ x∈l,∀ h1,Old h h1 -> ∃ h2,cl (d-2) (.fn g) [.agg x.V] h1=some (.bool (decide (bad x)),h2)/\Old h1 h2) :
  ∃ h',cl d (.fn 62) [v,.clo g []] h=some (.bool (decide (∃ x∈l,bad x)),h')/\Old h h':=by
 obtain ⟨r,h1,e1,o1,hr⟩:=if_4 hcl (d:=d-1) (f:=97) (fun _=>rfl) rfl rfl om a hl k
 refine ja5 (aT hcl ?_)
 refine qx ?_
 exact ⟨congrArg V.bool (decide_eq_decide.2 hr),o1⟩
theorem cf_move {d g:Nat} {h:H} {P:Nat->Prop} {bad:MvX->Prop} [DecidablePred bad] {v:V} {l:List MvX} (hd:2<=d) (a:At4 h P MvX.V v l) (hl:l.length<=50000)
  (k : ∀ x∈l,∀ h1,Old h h1 -> ∃ h2,cl (d-2) (.fn g) [.agg x.V] h1=some (.bool (decide (bad x)),h2)/\Old h1 h2) :
  ∃ h',cl d (.fn 26) [v,.clo g []] h=some (.bool (decide (∃ x∈l,bad x)),h')/\Old h h':=by
 obtain ⟨r,h1,e1,o1,hr⟩:=if_4 hcl (d:=d-1) (f:=56) (fun _=>rfl) rfl rfl om a hl k
 refine ja5 (aT hcl ?_)
 refine qx ?_
 exact ⟨congrArg V.bool (decide_eq_decide.2 hr),o1⟩
theorem wm_badN {d:Nat} {h:H} {n:Int} (hd:1<=d):cl d (.fn 24) [.i n] h=some (.bool (decide (badN n)),h):=by
 refine jam (aT hcl ?_)
 by_cases h1:n<0
 ·refine qx ?_
  exact ⟨by rw [zA (show badN n from .inl h1)],rfl⟩
 ·refine qx ?_
  exact ⟨congrArg V.bool (decide_eq_decide.2 ⟨.inr,fun e=>e.elim (fun e=>zC e h1) id⟩),rfl⟩
theorem if_1 {d:Nat} {h:H} {v:V} {l:List Int} (hd:2<=d) (a:VI h v l) (hl:l.length<=50000) :
  ∃ r,cl d (.fn 55) [v,.clo 24 []] h=some (.i r,h)/\(0<=r ↔ ∃ x∈l,badN x):=by
 suffices q : ∃ w h',cl d (.fn 55) [v,.clo 24 []] h=some (w,h') /\ ∃ r,w = .i r/\h'=h/\(0<=r ↔ ∃ x∈l,badN x) by
  obtain ⟨_,h',e,r,rfl,rfl,q⟩:=q;exact ⟨r,e,q⟩
 obtain ⟨ad,c,rfl,_,_,hb⟩:=a
 refine aT hcl ?_
 refine qx ?_
 refine zW (fun m e h1=>∃ i:Nat,m=l.length-i/\i<=l.length/\e=[(0,.slice ad l.length c),(1,.clo 24 []),(7,.i (l.length:Int)),(8,.i (i:Int))]/\h1=h /\ ∀ j x,j<i->l[j]?=some x -> ¬ badN x)
  (k:=l.length) Ze ⟨0,rfl,by omega,rfl,rfl,fun j x hj=>by omega⟩ ?_
 rintro _ _ h1 ⟨i,rfl,hi,rfl,rfl,hj⟩ n' ih
 by_cases hlt:(i:Int)<l.length
 case neg=>
  have hno : ¬ ∃ x∈l,badN x:=fun ⟨x,hx,hb⟩=>by
   obtain ⟨j,hjl,e⟩:=zK hx
   exact hj j x om (by rw [za hjl,e]) hb
  clear ih hb hj
  refine qx ?_
  exact ⟨_,rfl,rfl,fun e=>zC e om,fun e=>zC e hno⟩
 obtain ⟨x,hx⟩:=jdb (l:=l) (i:=i) om
 obtain ⟨b,oo,cs,ro,rfl,lb,gb,hc⟩:=hb (by rintro rfl;simp at hx)
 have h4:cs[oo+(i:Int).toNat*1]?=some (.i x):=by rw [zq,Nat.mul_one];exact hc i x hx
 have hxm:=zb hx
 have e2:=wm_badN hcl (d:=d-1) (n:=x) (h:=h1) om
 have hi1:(i:Int)+1=((i+1:Nat):Int):=by omega
 clear hb hc
 by_cases hbad:badN x
 ·rw [zA hbad] at e2
  clear ih hj
  refine qx ?_
  refine Ops.callc rfl rfl e2 ?_
  refine qx ?_
  exact ⟨_,rfl,rfl,fun _=>⟨x,hxm,hbad⟩,fun _=>by omega⟩
 ·rw [zx hbad] at e2
  refine qx ?_
  refine Ops.callc rfl rfl e2 ?_
  refine qx ?_
  rw [hi1]
  refine ih (l.length-(i+1)) om _ _ ⟨i+1,rfl,by omega,rfl,rfl,fun j y hj' hy=>?_⟩
  by_cases e:j=i
  ·subst e
   rw [hx] at hy;cases hy
   exact hbad
  ·exact hj j y om hy
theorem cf_int {d:Nat} {h:H} {v:V} {l:List Int} (hd:3<=d) (a:VI h v l) (hl:l.length<=50000) :
  cl d (.fn 25) [v,.clo 24 []] h=some (.bool (decide (∃ x∈l,badN x)),h):=by
 obtain ⟨r,e1,hr⟩:=if_1 hcl (d:=d-1) om a hl
 refine jam (aT hcl ?_)
 refine qx ?_
 exact ⟨congrArg V.bool (decide_eq_decide.2 hr),rfl⟩
theorem wm_mayC {d:Nat} {h:H} {x:MvX} (hd:8<=d) (hv:VB h x.dv x.m.D) : ∃ h',cl d (.fn 27) [.agg x.V] h=some (.bool (decide (¬ x.m.may)),h')/\Old h h':=by
 obtain ⟨m,dv⟩:=x
 obtain ⟨a,c,e,_⟩:=hv
 have e:dv = .slice a m.D.length c:=e
 subst e
 have o:Old h (h.new (.cells (mvV m (.slice a m.D.length c)) false)):=(zX h).new
 have g0:(h.new (.cells (mvV m (.slice a m.D.length c)) false)).get h.nx=some (.cells (mvV m (.slice a m.D.length c)) false):=jac _
 obtain ⟨h1,e1,o1⟩:=wm_may hcl (d:=d-1) (h:=h.new (.cells (mvV m (.slice a m.D.length c)) false)) (m:=m) (a:=a) (c:=c) om
 refine ja5 (aT hcl ?_)
 refine qm ?_
 exact ⟨rfl,o.trans o1⟩
theorem jfD {d:Nat} {h:H} {P Q:Nat->Prop} {x:SpX} (hd:11<=d) (a:StepAt h P Q x) : ∃ h',cl d (.fn 7) [.agg x.V] h=some (.i (if x.sp.may then 0 else 120),h')/\Old h h':=by
 have o:Old h (h.new (.cells x.V false)):=(zX h).new
 have g0:(h.new (.cells x.V false)).get h.nx=some (.cells x.V false):=jac _
 have x0:h.nx<(h.new (.cells x.V false)).nx:=by simp
 have a0:=a.old o
 obtain ⟨ao,co,eo,_⟩:=id a.ov.1
 obtain ⟨am,cm,em,_⟩:=id a.mv
 have q2:(x.V)[0+2]?=some (.slice ao x.ol.length co):=by rw [<- eo];rfl
 have q3:(x.V)[0+3]?=some (.slice am x.ml.length cm):=by rw [<- em];rfl
 refine ja5 (aT hcl ?_)
 by_cases h1:(x.ml.length:Int)>50
 ·have hm : ¬ x.sp.may:=fun e=>by have:=e.1;simp [SpX.sp] at this;omega
  clear a a0
  refine qm ?_
  exact ⟨by rw [zt hm],o⟩
 by_cases h2:(x.ol.length:Int)>50
 ·have hm : ¬ x.sp.may:=fun e=>by have:=e.2.1;simp [SpX.sp] at this;omega
  clear a a0
  refine qm ?_
  exact ⟨by rw [zt hm],o⟩
 have e1:=cf_int hcl (d:=d-1) om a0.ov.1 om
 rw [eo] at e1
 by_cases h3 : ∃ n∈x.ol,badN n
 ·have hm : ¬ x.sp.may:=fun e=>by
   obtain ⟨n,hn,hb⟩:=h3
   have:=e.2.2.1 n hn
   rcases hb with hb | hb<;>omega
  rw [zA h3] at e1
  clear a a0 h3
  refine qm ?_
  exact ⟨by rw [zt hm],o⟩
 obtain ⟨h9,e2,o2⟩:=cf_move hcl (d:=d-1) (g:=27) (bad:=fun y=>¬ y.m.may) om a0.mv om fun y hy h1 o1=>wm_mayC hcl om ((a0.old o1).dv y hy).1
 rw [em] at e2
 rw [zx h3] at e1
 by_cases h4 : ∃ y∈x.ml,¬ y.m.may
 ·have hm : ¬ x.sp.may:=fun e=>by
   obtain ⟨y,hy,hb⟩:=h4
   exact hb (e.2.2.2 y.m (List.mem_map_of_mem hy))
  rw [zA h4] at e2
  clear a a0 h3 h4
  refine qm ?_
  exact ⟨by rw [zt hm],o.trans o2⟩
 ·have hm:x.sp.may:=⟨by simp [SpX.sp];omega,by simp [SpX.sp];omega,fun n hn=>by
   have : ¬ badN n:=fun e=>h3 ⟨n,hn,e⟩
   unfold badN at this
   omega,fun m hm=>by
   obtain ⟨y,hy,rfl⟩:=List.mem_map.1 hm
   exact Decidable.byContradiction fun e=>h4 ⟨y,hy,e⟩⟩
  rw [zx h4] at e2
  clear a a0 h3 h4
  refine qm ?_
  exact ⟨by rw [zw hm],o.trans o2⟩
theorem wm_CheckC {d:Nat} {h:H} {P Q:Nat->Prop} {x:SpX} (hd:12<=d) (a:StepAt h P Q x) : ∃ h',cl d (.fn 63) [.agg x.V] h=some (.bool (decide (¬ x.sp.may)),h')/\Old h h':=by
 have o:Old h (h.new (.cells x.V false)):=(zX h).new
 have g0:(h.new (.cells x.V false)).get h.nx=some (.cells x.V false):=jac _
 obtain ⟨h1,e1,o1⟩:=jfD hcl (d:=d-1) om (a.old o)
 refine ja5 (aT hcl ?_)
 by_cases hm:x.sp.may
 ·rw [zw hm] at e1
  refine qm ?_
  exact ⟨by simp [hm],o.trans o1⟩
 ·rw [zt hm] at e1
  refine qm ?_
  exact ⟨by simp [hm],o.trans o1⟩
theorem wm_all {d:Nat} {h:H} {P Q:Nat->Prop} {v:V} {l:List SpX} (hd:15<=d) (a:jbF h P Q v l) (hl:l.length<=2000) : ∃ h',cl d (.fn 30) [v] h=some (.bool (decide (∀ x∈l,x.sp.may)),h')/\Old h h':=by
 obtain ⟨h1,e1,o1⟩:=cf_step hcl (d:=d-1) (g:=63) (bad:=fun x=>¬ x.sp.may) om a.1 om fun y hy h1 o1=>wm_CheckC hcl om ((a.2 y hy).old o1)
 have he:decide (∀ x∈l,x.sp.may)=decide (¬ ∃ x∈l,¬ x.sp.may):=decide_eq_decide.2 ⟨fun e ⟨x,hx,hn⟩=>hn (e x hx),fun e x hx=>Decidable.byContradiction fun hn=>e ⟨x,hx,hn⟩⟩
 rw [he]
 obtain ⟨ad,c,rfl,_⟩:=id a.1
 have h1:(l.length:Int)<=2000:=by omega
 refine ja5 (aT hcl ?_)
 clear a he
 refine qx ?_
 exact ⟨rfl,o1⟩
end
section
variable {cl:Nat->Call} (hcl:Sem cl)
include hcl
theorem jjV {d:Nat} {h:H} {P Q:Nat->Prop} {x:SpX} (hd:4<=d) (a:StepAt h P Q x) : ∃ h',cl d (.fn 8) [.agg x.V] h=some (.bool (decide x.sp.may),h')/\Old h h':=by
 have o:Old h (h.new (.cells x.V false)):=(zX h).new
 have g0:(h.new (.cells x.V false)).get h.nx=some (.cells x.V false):=jac _
 have x0:h.nx<(h.new (.cells x.V false)).nx:=by simp
 have a0:=a.old o
 generalize hG:h.new (.cells x.V false)=G at o g0 x0 a0
 obtain ⟨ao,co,eo,n1,f1,b1⟩:=id a0.ov.1
 obtain ⟨am,cm,em,n2,f2,b2⟩:=id a0.mv
 have q2:(x.V)[0+2]?=some (.slice ao x.ol.length co):=by rw [<- eo];rfl
 have q3:(x.V)[0+3]?=some (.slice am x.ml.length cm):=by rw [<- em];rfl
 refine ja5 (aT hcl ?_)
 by_cases h1:(x.ml.length:Int)>50
 ·have hm : ¬ x.sp.may:=fun e=>by have:=e.1;simp [SpX.sp] at this;omega
  subst hG
  clear a a0 b1 b2
  refine qm ?_
  exact ⟨by rw [zx hm],o⟩
 by_cases h2:(x.ol.length:Int)>50
 ·have hm : ¬ x.sp.may:=fun e=>by have:=e.2.1;simp [SpX.sp] at this;omega
  subst hG
  clear a a0 b1 b2
  refine qm ?_
  exact ⟨by rw [zx hm],o⟩
 have dvs : ∀ g,Old G g -> ∀ m∈x.ml,VB g m.dv m.m.D:=fun g og m hm=>((a0.old og).dv m hm).1
 clear a a0
 obtain ⟨C,hC⟩ : ∃ C,C=c8_3:=⟨_,rfl⟩
 obtain ⟨C1,hC1⟩ : ∃ C,C=c8_1:=⟨_,rfl⟩
 simp only [c8,c8_4,<- hC,<- hC1,uF,yB]
 have T:Run (cl (d-1)) fuel (.loop [1,3] C) [.block 0,.seq (.seq (.seq (.region 0 [.mk4 0 (some 4) (.mv (.c (.i 0))) none] [1,4]) (.block 2 (.loop [1,4] C1))) (.seq (.region 0 [.mk4 0 (some 2) (.mv (.c (.bool true))) none] [2]) (.ret)))] [(1,.p h.nx 0),(3,.i 0)] G (Fin c8.res fun v h'=>v = .bool (decide x.sp.may)/\Old h h'):=by
  rw [hC]
  refine zW (fun m e g=>∃ i:Nat,m=x.ol.length-i/\i<=x.ol.length/\e=[(1,.p h.nx 0),(3,.i (i:Int))]/\g=G /\ ∀ j y,j<i->x.ol[j]?=some y -> ¬ badN y)
   (k:=x.ol.length) Ze ⟨0,rfl,by omega,rfl,rfl,fun j x hj=>by omega⟩ ?_
  rintro _ _ g ⟨i,rfl,hi,rfl,rfl,hj⟩ n' ih
  by_cases hlt:(i:Int)<x.ol.length
  case pos=>
   obtain ⟨y,hy⟩:=jdb (l:=x.ol) (i:=i) om
   obtain ⟨b,oo,cs,ro,rfl,lb,gb,hc⟩:=b1 (by intro e;rw [e] at hy;simp at hy)
   have h4:cs[oo+(i:Int).toNat*1]?=some (.i y):=by rw [zq,Nat.mul_one];exact hc i y hy
   have hym:=zb hy
   have hi1:(i:Int)+1=((i+1:Nat):Int):=by omega
   clear b1 b2 hc dvs
   by_cases k1:y<0
   ·have hm : ¬ x.sp.may:=fun e=>by have:=(e.2.2.1 y hym).1;omega
    clear ih hj
    refine qx ?_
    exact ⟨by rw [zx hm],o⟩
   by_cases k2:y>999
   ·have hm : ¬ x.sp.may:=fun e=>by have:=(e.2.2.1 y hym).2;omega
    clear ih hj
    refine qx ?_
    exact ⟨by rw [zx hm],o⟩
   refine qx ?_
   rw [hi1]
   refine ih (x.ol.length-(i+1)) om _ _ ⟨i+1,rfl,by omega,rfl,rfl,fun j z hj' hz=>?_⟩
   by_cases e:j=i
   ·subst e
    rw [hy] at hz;cases hz
    unfold badN;omega
   ·exact hj j z om hz
  have hok : ∀ n∈x.ol,0<=n/\n<=999:=fun n hn=>by
   obtain ⟨j,hjl,e⟩:=zK hn
   have:=hj j n om (by rw [za hjl,e])
   unfold badN at this;omega
  clear ih b1 hj
  refine qx ?_
  rw [hC1]
  refine zW (fun m e g'=>∃ i:Nat,m=x.ml.length-i/\i<=x.ml.length/\e=[(1,.p h.nx 0),(4,.i (i:Int))]/\Old g g' /\ ∀ j y,j<i->x.ml[j]?=some y->y.m.may)
   (k:=x.ml.length) Ze ⟨0,rfl,by omega,rfl,zX _,fun j x hj=>by omega⟩ ?_
  rintro _ _ g' ⟨i,rfl,hi,rfl,og,hj⟩ n' ih
  have gg:g'.get h.nx=some (.cells x.V false):=by rw [og.2 _ x0,g0]
  by_cases hlt:(i:Int)<x.ml.length
  case neg=>
   have hm:x.sp.may:=⟨by simp [SpX.sp];omega,by simp [SpX.sp];omega,hok,fun m hm=>by
    obtain ⟨y,hy,rfl⟩:=List.mem_map.1 hm
    obtain ⟨j,hjl,e⟩:=zK hy
    exact hj j y om (by rw [za hjl,e])⟩
   clear ih b2 hj dvs hok
   refine qx ?_
   exact ⟨by rw [zA hm],o.trans og⟩
  obtain ⟨y,hy⟩:=jdb (l:=x.ml) (i:=i) om
  obtain ⟨b,oo,cs,ro,rfl,lb,_,gb,hc⟩:=b2 (by intro e;rw [e] at hy;simp at hy)
  have gb1:g'.get b=some (.cells cs ro):=by rw [og.2 b lb,gb]
  have h4:(cs.drop (oo+(i:Int).toNat*4)).take 4=y.V:=by rw [zq];exact hc i y hy
  have hlen:=je2 h4 rfl
  have hym:=zb hy
  have hi1:(i:Int)+1=((i+1:Nat):Int):=by omega
  have hv:=dvs g' og y hym
  obtain ⟨m,dv⟩:=y
  obtain ⟨da,dc,e,_⟩:=hv
  have e:dv = .slice da m.D.length dc:=e
  subst e
  obtain ⟨g2,e2,o2⟩:=rm_may hcl (d:=d-1) (h:=g') (m:=m) (a:=da) (c:=dc) om
  clear b2 hc dvs
  by_cases hm1:m.may
  ·rw [zA hm1] at e2
   refine qx ?_
   refine zcw rfl gb1 hlen ?_
   rw [h4]
   refine qx ?_
   rw [hi1]
   refine ih (x.ml.length-(i+1)) om _ _ ⟨i+1,rfl,by omega,rfl,og.trans o2,fun j z hj' hz=>?_⟩
   by_cases e:j=i
   ·subst e
    rw [hy] at hz;cases hz
    exact hm1
   ·exact hj j z om hz
  ·rw [zx hm1] at e2
   have hm : ¬ x.sp.may:=fun e=>hm1 (e.2.2.2 m (List.mem_map.2 ⟨_,hym,rfl⟩))
   clear ih hj hok
   refine qx ?_
   refine zcw rfl gb1 hlen ?_
   rw [h4]
   refine qx ?_
   exact ⟨by rw [zx hm],(o.trans og).trans o2⟩
 subst hG
 clear dvs b1 b2
 refine qm ?_
 exact T
theorem rm_All {d:Nat} {h:H} {P Q:Nat->Prop} {v:V} {l:List SpX} (hd:5<=d) (a:jbF h P Q v l) (hl:l.length<=2000) : ∃ h',cl d (.fn 34) [v] h=some (.bool (decide (∀ x∈l,x.sp.may)),h')/\Old h h':=by
 obtain ⟨⟨ad,c,rfl,_,_,hb⟩,hs⟩:=a
 have h1 : ¬ (l.length:Int)>2000:=by omega
 refine ja5 (aT hcl ?_)
 refine qx ?_
 refine zW (fun m e g=>∃ i:Nat,m=l.length-i/\i<=l.length/\e=[(0,.slice ad l.length c),(3,.i (i:Int))]/\Old h g /\ ∀ j y,j<i->l[j]?=some y->y.sp.may)
  (k:=l.length) Ze ⟨0,rfl,by omega,rfl,zX _,fun j x hj=>by omega⟩ ?_
 rintro _ _ g ⟨i,rfl,hi,rfl,og,hj⟩ n' ih
 by_cases hlt:(i:Int)<l.length
 case neg=>
  have hall : ∀ x∈l,x.sp.may:=fun y hy=>by
   obtain ⟨j,hjl,e⟩:=zK hy
   exact hj j y om (by rw [za hjl,e])
  clear ih hj hb hs
  refine qx ?_
  exact ⟨by rw [zA hall],og⟩
 obtain ⟨y,hy⟩:=jdb (l:=l) (i:=i) om
 obtain ⟨b,oo,cs,ro,rfl,lb,_,gb,hc⟩:=hb (by intro e;rw [e] at hy;simp at hy)
 have gb1:g.get b=some (.cells cs ro):=by rw [og.2 b lb,gb]
 have h4:(cs.drop (oo+(i:Int).toNat*4)).take 4=y.V:=by rw [zq];exact hc i y hy
 have hlen:=je2 h4 rfl
 have hym:=zb hy
 have hi1:(i:Int)+1=((i+1:Nat):Int):=by omega
 obtain ⟨g2,e2,o2⟩:=jjV hcl (d:=d-1) om ((hs y hym).old og)
 clear hb hc hs
 by_cases hm1:y.sp.may
 ·rw [zA hm1] at e2
  refine qx ?_
  refine zcw rfl gb1 hlen ?_
  rw [h4]
  refine qx ?_
  rw [hi1]
  refine ih (l.length-(i+1)) om _ _ ⟨i+1,rfl,by omega,rfl,og.trans o2,fun j z hj' hz=>?_⟩
  by_cases e:j=i
  ·subst e
   rw [hy] at hz;cases hz
   exact hm1
  ·exact hj j z om hz
 ·rw [zx hm1] at e2
  have hall : ¬ ∀ x∈l,x.sp.may:=fun e=>hm1 (e y hym)
  clear ih hj
  refine qx ?_
  refine zcw rfl gb1 hlen ?_
  rw [h4]
  refine qx ?_
  exact ⟨by rw [zx hall],og.trans o2⟩
end
abbrev jkW:H->Int × Int × Int × List Int × Unit->List V->Prop:=jcc (jcy .i64) (jcc (jcy .i64) (jcc (jcy .i64) (jcc (jb2 1100 (jcy .u8)) jjX)))
def MvX.fit (x:MvX):Prop:=x.m.wire<9223372036854775808/\x.m.n<9223372036854775808
theorem jkf {h:H} : ∀ {l:List (Int × Int × Int × List Int × Unit)} {cs:List V},ja3 jkW h l cs -> ∃ L:List MvX,L.length=l.length/\cs=(L.map MvX.V).flatten /\ ∀ x∈L,MvOk h x/\x.fit
 | [],_,e=>⟨[],rfl,e,fun x hx=>by cases hx⟩
 | y :: l,_,⟨u,w,e,h1,h2⟩=>by
  obtain ⟨L,l1,l2,l3⟩:=jkf h2
  obtain ⟨_,_,rfl,⟨rfl,_⟩,_,_,rfl,⟨rfl,_,b2⟩,_,_,rfl,⟨rfl,_,b3⟩,u5,w5,rfl,r5,hw⟩:=h1
  obtain rfl:w5=[]:=hw
  have ⟨ad,c,e5,_⟩:=r5
  subst e5
  obtain ⟨a,c,e6,hB⟩:=bytes_of r5
  refine ⟨⟨⟨y.1,y.2.1,y.2.2.1,y.2.2.2.1.map jjC⟩,.slice a y.2.2.2.1.length (.fix c)⟩ :: L,by simp [l1],by rw [e,l2,e6];rfl,fun x hx=>?_⟩
  rcases zP.1 hx with rfl | hx
  ·exact ⟨⟨a,.fix c,by simp,fun hl=>hB (by simpa using hl)⟩,Int.lt_of_le_of_lt b2 (by decide),Int.lt_of_le_of_lt b3 (by decide)⟩
  ·exact l3 x hx
theorem jeW {α : Type} {f : α -> List V} (hf : ∀ x,(f x).length=4) : ∀ L:List α,(L.map f).flatten.length=L.length*4
 | []=>rfl
 | x :: L=>by
  have:=jeW hf L
  show (f x++(L.map f).flatten).length=_
  rw [ze,this,hf]
  simp;omega
theorem jbU {α : Type} {f : α -> List V} (hf : ∀ x,(f x).length=4) : ∀ {L:List α} {i:Nat} {x : α},L[i]?=some x->(((L.map f).flatten).drop (i*4)).take 4=f x
 | [],i,x,h=>by simp at h
 | y :: L,0,x,h=>by
  simp at h;subst h
  show ((f y++(L.map f).flatten).drop (0*4)).take 4=f y
  rw [Nat.zero_mul,zi,List.take_append_of_le_length (by rw [hf y];exact zn _),zf (by rw [hf y];exact zn _)]
 | y :: L,i+1,x,h=>by
  rw [List.map_cons,zM,show (i+1)*4=(f y).length+i*4 by rw [hf];omega,<- List.drop_drop,List.drop_left]
  exact jbU hf (by simpa using h)
theorem MvOk.keep {h h':H} {x:MvX} (o:MvOk h x) (a:Old h h'):MvOk h' x:=by
 obtain ⟨z,c,e,g⟩:=o
 exact ⟨z,c,e,fun hl=>⟨(g hl).none_,(g hl).fits,fun hn=>by
  obtain ⟨b,o,cs,ro,q1,q2,q3,q4⟩:=(g hl).at_ hn
  exact ⟨b,o,cs,ro,q1,zo q2 a.1,by rw [a.2 b q2,q3],q4⟩⟩⟩
theorem At4.nil {α : Type} {f : α -> List V} {h:H} {P:Nat->Prop} : At4 h P f .nils ([]:List α):=⟨none,.fix 0,rfl,fun _=>⟨rfl,rfl⟩,zn _,fun e=>zC rfl e⟩
theorem At4.zero {α : Type} {f : α -> List V} {h:H} {P:Nat->Prop} {b:Nat} : At4 h P f (.slice (some (b,0)) 0 (.fix 0)) ([]:List α):=⟨_,_,rfl,fun e=>(by cases e),zn _,fun e=>zC rfl e⟩
section
variable {call:Call} {fuel base:Nat} {ops:List Ins} {keep:List Nat} {K:List Fr} {e:Env} {h:H} {Q:Post} {ix:Nat} {dst:Option Nat}
end
section
variable {cl:Nat->Call} (hcl:Sem cl)
include hcl
end
section
variable {cl:Nat->Call} (hcl:Sem cl)
include hcl
end
theorem SpX.one {h:H} {P Q:Nat->Prop} {x:SpX} (a:StepAt h P Q x):(SpX.V x).all V.one=true:=by
 obtain ⟨⟨⟨_,_,e1,_⟩,_⟩,⟨_,_,e2,_⟩,_,_,_⟩:=a
 show [V.int .u64 x.t,.bool x.intr,x.ov,x.mv].all V.one=true
 rw [e1,e2]
 rfl
theorem At4.of_row {α : Type} {f : α -> List V} (hf : ∀ x,(f x).length=4) {N:Nat} {h:H} {v:V} {l:List α} (r:Row N h 4 v l.length (l.map f).flatten):At4 h (N <= ·) f v l:=by
 rcases r with ⟨h0,_,rfl⟩ | ⟨q,h1,h2,rfl,h4,h5⟩
 ·obtain rfl:=zl.1 h0
  exact At4.nil
 ·exact ⟨_,_,rfl,fun e=>(by cases e),rfl,fun _=>⟨q,0,_,false,rfl,h2,h1,h4,fun i x hi=>by rw [zG];exact jbU hf hi⟩⟩
def SpX.few (x:SpX):Prop:=x.ml.length<=1000/\x.ol.length<=1000 /\ ∀ m∈x.ml,m.m.D.length<=2000
section
variable {cl:Nat->Call} (hcl:Sem cl)
include hcl
end
structure Fs (h h':H) (ow:Nat->Nat) (ro:Nat->Prop) (ow':Nat->Nat) (ro' S:Nat->Prop):Prop where
 ch:Ch (fun j=>ow j≠0\/ro j\/S j) h h'
 tag : ∀ j,j<h.nx->ow' j=ow j
 rtag : ∀ j,j<h.nx->(ro' j↔ro j)
theorem Fs.refl {h:H} {ow:Nat->Nat} {ro S:Nat->Prop} : Fs h h ow ro ow ro S:=⟨Ch.refl _ _,fun _ _=>rfl,fun _ _=>Iff.rfl⟩
theorem Fs.trans {h h1 h2:H} {a b c:Nat->Nat} {x y z S T:Nat->Prop} (f:Fs h h1 a x b y S) (g:Fs h1 h2 b y c z T) (hT : ∀ j,j<h.nx->T j->S j):Fs h h2 a x c z S :=
 ⟨f.ch.trans_new g.ch fun j hj hb=>by
  rw [f.tag j hj,f.rtag j hj] at hb
  exact hb.imp id fun hb=>hb.imp id (hT j hj),
  fun j hj=>by rw [g.tag j (zo hj f.ch.nx),f.tag j hj],fun j hj=>(g.rtag j (zo hj f.ch.nx)).trans (f.rtag j hj)⟩
theorem Fs.of_fm {h h1:H} {a b:Nat->Nat} {x y S:Nat->Prop} (f:Fm h h1 a x b y):Fs h h1 a x b y S:=⟨f.ch.weaken fun _ _ hb=>hb.elim .inl fun hb=>.inr (.inl hb),f.tag,f.rtag⟩
theorem Fs.old {h h1:H} {ow:Nat->Nat} {ro S:Nat->Prop} (o:Old h h1):Fs h h1 ow ro ow ro S := .of_fm (Fm.old o)
theorem Fs.set {h:H} {ow:Nat->Nat} {ro S:Nat->Prop} {b:Nat} {ob:Obj} (hS:S b):Fs h (h.set b ob) ow ro ow ro S:=⟨Ch.set (.inr (.inr hS)),fun _ _=>rfl,fun _ _=>Iff.rfl⟩
def PB (ow:Nat->Nat) (ro:Nat->Prop) (s z:Nat):Prop:=ow z=0 /\ ¬ ro z/\z≠s
theorem Fs.pb {h h':H} {a b:Nat->Nat} {x y:Nat->Prop} {s z:Nat} (f:Fs h h' a x b y (· = s)) (hz:z<h.nx) (p:PB a x s z):h'.get z=h.get z/\PB b y s z :=
 ⟨f.ch.get z hz fun e=>e.elim (fun e=>e p.1) fun e=>e.elim p.2.1 p.2.2,by rw [f.tag z hz];exact p.1,fun e=>p.2.1 ((f.rtag z hz).1 e),p.2.2⟩
structure Own (h:H) (ow:Nat->Nat) (ro dat:Nat->Prop) (p s:Nat):Prop where
 lt:s<h.nx
 o0:ow s=0
 r0 : ¬ ro s
 d0 : ¬ dat s
 ne:s≠p
theorem Own.fs {h h':H} {a b:Nat->Nat} {x y S dat:Nat->Prop} {p s:Nat} (o:Own h a x dat p s) (f:Fs h h' a x b y S):Own h' b y dat p s :=
 ⟨zo o.lt f.ch.nx,by rw [f.tag s o.lt];exact o.o0,fun e=>o.r0 ((f.rtag s o.lt).1 e),o.d0,o.ne⟩
section
variable {h h':H} {p w s rw:Nat} {ow:Nat->Nat} {ro dat:Nat->Prop} {a r:St}
theorem BB.set (b:BB h p w s rw ow ro dat a r) {z:Nat} (o:Own h ow ro dat p z) {ob:Obj} : BB (h.set z ob) p w s rw ow ro dat a r :=
 b.off (zn _) fun j _ hj=>jaa fun e=>by
  subst e
  rcases hj with hj | hj | hj | hj
  ·exact hj o.o0
  ·exact o.r0 hj
  ·exact o.d0 hj
  ·exact o.ne hj
variable {cl:Nat->Call} (hcl:Sem cl) {d i:Nat} {m:Mv} {dv:V} {t:Int}
include hcl
end
theorem At4.tail {α : Type} {h:H} {P:Nat->Prop} {f : α -> List V} {b o n:Nat} {c:Cap} {x : α} {l:List α} (hn:n=l.length+1) (a:At4 h P f (.slice (some (b,o)) n c) (x :: l)):At4 h P f (.slice (some (b,o+1*4)) (n-1) (c.less 1)) l:=by
 obtain ⟨ad,c',e,_,ft,g⟩:=a
 cases e
 refine ⟨_,_,by rw [hn];rfl,fun e=>(by cases e),?_,fun hl=>?_⟩
 ·have ft:c.fits (l.length+1) 4:=ft
  cases c with
  | fix q=>simp only [Cap.less,Cap.fits] at ft ⊢;omega
  | grow q=>exact ft
 ·obtain ⟨b',o',cs,ro,e1,e2,e3,e4,e5⟩:=g Zd
  cases e1
  refine ⟨b,o+1*4,cs,ro,rfl,e2,e3,e4,fun i y hi=>?_⟩
  rw [show o+1*4+i*4=o+(i+1)*4 by omega]
  exact e5 (i+1) y (by simpa using hi)
section
variable {cl:Nat->Call} (hcl:Sem cl) {h:H} {p w s rw:Nat} {ow:Nat->Nat} {ro dat:Nat->Prop} {a r:St} {d i:Nat}
include hcl
end
structure SW (h:H) (ow:Nat->Nat) (ro dat:Nat->Prop) (p sb:Nat) (bs:Option Nat) (X:Nat->Prop) (L:List SpX) (o:List Int):Prop where
 own:Own h ow ro dat p sb
 bown : ∀ z,bs=some z->Own h ow ro dat p z/\z≠sb /\ ∃ cs,h.get z=some (.cells cs false)
 ex : ∃ v ov,v.at?=bs/\h.get sb=some (.cells [v,ov] false)/\At4 h (PB ow ro sb) SpX.V v L/\(∀ y∈L,StepAt h (fun z=>PB ow ro sb z/\(bs≠some z/\X z)) (fun z=>PB ow ro sb z/\(bs≠some z/\X z)) y)/\VI h ov o/\(o≠[] -> ∀ z,ov.at?=some z->PB ow ro sb z/\(bs≠some z/\X z))
 few : ∀ x∈L,x.few
theorem Fs.get {h h':H} {a b:Nat->Nat} {x y S dat:Nat->Prop} {p z:Nat} (f:Fs h h' a x b y S) (o:Own h a x dat p z) (hS : ¬ S z):h'.get z=h.get z :=
 f.ch.get z o.lt fun e=>e.elim (fun e=>e o.o0) fun e=>e.elim o.r0 hS
theorem SW.fs {h h':H} {ow ow':Nat->Nat} {ro ro' dat S X:Nat->Prop} {p sb:Nat} {bs:Option Nat} {L:List SpX} {o:List Int} (a:SW h ow ro dat p sb bs X L o) (f:Fs h h' ow ro ow' ro' S) (h1 : ¬ S sb) (h2 : ∀ z,bs=some z -> ¬ S z) (h3 : ∀ z,X z -> ¬ S z):SW h' ow' ro' dat p sb bs X L o:=by
 obtain ⟨v,ov,e1,e2,e3,e4,e5,e6⟩:=a.ex
 have kp : ∀ z,z<h.nx->(PB ow ro sb z/\(bs≠some z/\X z))->h'.get z=h.get z/\(PB ow' ro' sb z/\(bs≠some z/\X z)):=fun z hz hp=>⟨f.ch.get z hz fun e=>e.elim (fun e=>e hp.1.1) fun e=>e.elim hp.1.2.1 (h3 z hp.2.2),⟨by rw [f.tag z hz];exact hp.1.1,fun e=>hp.1.2.1 ((f.rtag z hz).1 e),hp.1.2.2⟩,hp.2⟩
 refine ⟨a.own.fs f,fun z hz=>?_,⟨v,ov,e1,by rw [f.get a.own h1,e2],?_,fun y hy=>(e4 y hy).keep f.ch.nx kp kp,e5.keep2 f.ch.nx fun hl z hz=>(kp z (e5.lt hl hz) (e6 hl z hz)).1,fun hl z hz=>(kp z (e5.lt hl hz) (e6 hl z hz)).2⟩,a.few⟩
 ·obtain ⟨q1,q2,cs,q3⟩:=a.bown z hz
  exact ⟨q1.fs f,q2,cs,by rw [f.get q1 (h2 z hz),q3]⟩
 ·obtain ⟨ad,c,rfl,n,ft,g⟩:=e3
  refine ⟨ad,c,rfl,n,ft,fun hl=>?_⟩
  obtain ⟨b,oo,cs,rr,rfl,lb,pb,gb,hc⟩:=g hl
  have hz:bs=some b:=by rw [<- e1];rfl
  obtain ⟨q1,q2,_⟩:=a.bown b hz
  exact ⟨b,oo,cs,rr,rfl,zo lb f.ch.nx,⟨(q1.fs f).o0,(q1.fs f).r0,q2⟩,by rw [f.get q1 (h2 b hz),gb],hc⟩
section
variable {cl:Nat->Call} (hcl:Sem cl) {h:H} {p w s rw:Nat} {ow:Nat->Nat} {ro dat:Nat->Prop} {a r:St} {d i sb bp bf:Nat} {fd:Int} {bs:Option Nat} {X:Nat->Prop} {x:SpX} {L:List SpX} {o:List Int}
include hcl
end
theorem At4.cons {h:H} {P:Nat->Prop} {x:SpX} {L:List SpX} {v:V} (a:At4 h P SpX.V v (x :: L)) : ∃ b o c cs rr,v = .slice (some (b,o)) (x :: L).length c/\b<h.nx/\h.get b=some (.cells cs rr)/\(cs.drop (o+(0:Int).toNat*4)).take 4=x.V:=by
 obtain ⟨ad,c,rfl,_,_,g⟩:=a
 obtain ⟨b,o,cs,rr,rfl,lb,_,gb,hc⟩:=g Zd
 exact ⟨b,o,c,cs,rr,rfl,lb,gb,hc 0 x rfl⟩
def jk1 (h:H) (p w s rw:Nat) (ow:Nat->Nat) (ro dat:Nat->Prop) (r:St) (sb:Nat) (bs:Option Nat) (X:Nat->Prop) (N:Nat) (R:Int × List Sp × List Int × St) (v:V) (h':H):Prop :=
 ∃ ow' L' i',v = .i R.1/\L'.map SpX.sp=R.2.1/\BB h' p w s rw ow' ro dat R.2.2.2 r/\StOk R.2.2.2 i'/\SW h' ow' ro dat p sb bs X L' R.2.2.1/\Fs h h' ow ro ow' ro (fun j=>j=sb\/bs=some j)/\i'+sumM L'<=N
theorem jk1.trans {h g:H} {p w s rw:Nat} {ow ow1:Nat->Nat} {ro dat:Nat->Prop} {r:St} {sb:Nat} {bs:Option Nat} {X:Nat->Prop} {N:Nat} {R:Int × List Sp × List Int × St} {v:V} {h':H} (q:jk1 g p w s rw ow1 ro dat r sb bs X N R v h') (f:Fs h g ow ro ow1 ro (fun j=>j=sb\/bs=some j)):jk1 h p w s rw ow ro dat r sb bs X N R v h':=by
 obtain ⟨ow',L',i',e1,e2,e3,e4,e5,e6,e7⟩:=q
 exact ⟨ow',L',i',e1,e2,e3,e4,e5,f.trans e6 fun _ _ e=>e,e7⟩
section
variable {rd:St->Bool} {fv:Bool} {x:Sp} {l:List Sp} {wt:Int} {o:List Int} {st:St}
end
theorem At4.upd {h:H} {P:Nat->Prop} {x:SpX} {L:List SpX} {b o n:Nat} {c:Cap} {cs:List V} {t:Int} (a:At4 h P SpX.V (.slice (some (b,o)) n c) (x :: L)) (g:h.get b=some (.cells cs false)) :
  At4 (h.set b (.cells (cs.set (o+(0:Int).toNat*4+0) (.int .u64 t)) false)) P SpX.V (.slice (some (b,o)) n c) ({ x with t:=t } :: L):=by
 obtain ⟨ad,c',e,n1,ft,k⟩:=a
 cases e
 obtain ⟨b',o',cs',rr,e1,e2,e3,e4,e5⟩:=k Zd
 cases e1
 rw [g] at e4
 cases e4
 refine ⟨_,_,rfl,fun e=>(by cases e),ft,fun _=>⟨b,o,_,false,rfl,e2,e3,jab _,fun i y hi=>?_⟩⟩
 match i,hi with
 | 0,hi=>
  cases hi
  have h0:(cs.drop o).take 4=x.V:=by have:=e5 0 x rfl;simpa using this
  have hl:=je2 h0 rfl
  show ((cs.set o (.int .u64 t)).drop (o+0)).take 4=_
  rw [Nat.add_zero,List.drop_set,zt om,Nat.sub_self,List.take_set,h0]
  rfl
 | i+1,hi=>
  have:=e5 (i+1) y (by simpa using hi)
  show ((cs.set o (.int .u64 t)).drop _).take 4=_
  rw [List.drop_set,zw om]
  exact this
section
variable {cl:Nat->Call} (hcl:Sem cl) {h:H} {p w s rw:Nat} {ow:Nat->Nat} {ro dat:Nat->Prop} {a r:St} {d i sb bp bf:Nat} {fd wt:Int} {fv:Bool} {bs:Option Nat} {X:Nat->Prop} {L:List SpX} {o:List Int}
include hcl
end
structure SD (h:H) (ow:Nat->Nat) (ro dat:Nat->Prop) (p sb:Nat) (X:Nat->Prop) (L:List SpX) (o:List Int):Prop where
 own:Own h ow ro dat p sb
 ex : ∃ v ov,h.get sb=some (.cells [v,ov] false)/\At4 h (fun z=>PB ow ro sb z/\X z) SpX.V v L/\(∀ y∈L,StepAt h dat dat y)/\VI h ov o/\(o≠[] -> ∀ z,ov.at?=some z->dat z)
 few : ∀ x∈L,x.few
theorem SD.fs {h h':H} {p w s rw sb:Nat} {ow ow':Nat->Nat} {ro ro' dat S X:Nat->Prop} {a r:St} {L:List SpX} {o:List Int} (A:SD h ow ro dat p sb X L o) (b:BB h p w s rw ow ro dat a r) (f:Fs h h' ow ro ow' ro' S) (h1 : ¬ S sb) (h2 : ∀ z,dat z -> ¬ S z) (h3 : ∀ z,X z -> ¬ S z):SD h' ow' ro' dat p sb X L o:=by
 obtain ⟨v,ov,e2,e3,e4,e5,e6⟩:=A.ex
 have kd : ∀ z,z<h.nx->dat z->h'.get z=h.get z/\dat z:=fun z hz hd=>⟨f.ch.get z hz fun e=>e.elim (fun e=>e (b.sep z (.inr hd))) fun e=>e.elim (b.ap hd) (h2 z hd),hd⟩
 refine ⟨A.own.fs f,⟨v,ov,by rw [f.get A.own h1,e2],e3.keep f.ch.nx fun z hz hp=>⟨f.ch.get z hz fun e=>e.elim (fun e=>e hp.1.1) fun e=>e.elim hp.1.2.1 (h3 z hp.2),⟨by rw [f.tag z hz];exact hp.1.1,fun e=>hp.1.2.1 ((f.rtag z hz).1 e),hp.1.2.2⟩,hp.2⟩,fun y hy=>(e4 y hy).keep f.ch.nx kd kd,e5.keep2 f.ch.nx fun hl z hz=>(kd z (e5.lt hl hz) (e6 hl z hz)).1,e6⟩,A.few⟩
section
variable {cl:Nat->Call} (hcl:Sem cl) {h:H} {p w s rw:Nat} {ow:Nat->Nat} {ro dat:Nat->Prop} {a r:St} {d i sb:Nat} {fd wt n:Int} {fv:Bool} {X:Nat->Prop} {x:SpX} {L:List SpX} {o:List Int}
include hcl
end
def jk2 (h:H) (p w s rw:Nat) (ow:Nat->Nat) (ro dat:Nat->Prop) (a:St) (sb:Nat) (X:Nat->Prop) (N:Nat) (R:Int × List Sp × List Int × St) (v:V) (h':H):Prop :=
 ∃ ro' L' i',v = .i R.1/\L'.map SpX.sp=R.2.1/\BB h' p w s rw ow ro' dat a R.2.2.2/\StOk R.2.2.2 i'/\SD h' ow ro' dat p sb X L' R.2.2.1/\Fs h h' ow ro ow ro' (· = sb)/\i'+sumM L'<=N
theorem jk2.trans {h g:H} {p w s rw:Nat} {ow:Nat->Nat} {ro ro1 dat:Nat->Prop} {a:St} {sb:Nat} {X:Nat->Prop} {N:Nat} {R:Int × List Sp × List Int × St} {v:V} {h':H} (q:jk2 g p w s rw ow ro1 dat a sb X N R v h') (f:Fs h g ow ro ow ro1 (· = sb)):jk2 h p w s rw ow ro dat a sb X N R v h':=by
 obtain ⟨ow',L',i',e1,e2,e3,e4,e5,e6,e7⟩:=q
 exact ⟨ow',L',i',e1,e2,e3,e4,e5,f.trans e6 fun _ _ e=>e,e7⟩
section
variable {cl:Nat->Call} (hcl:Sem cl) {h:H} {p w s rw:Nat} {ow:Nat->Nat} {ro dat:Nat->Prop} {a r:St} {d i sb:Nat} {fd wt:Int} {fv:Bool} {X:Nat->Prop} {L:List SpX} {o:List Int}
include hcl
end
theorem jdU {u:Nat} (h:u<10):dec u=[UInt8.ofNat (48+u)]:=by
 rw [jh9 om,Lib.decDigits,dif_pos h]
theorem jeZ {u:Nat} (h : ¬ u<10) (hu:u<18446744073709551616):dec u=dec (u/10)++[UInt8.ofNat (48+u%10)]:=by
 rw [jh9 hu,jh9 om,Lib.decDigits,dif_neg h]
theorem jc6 {u:Nat} : ∀ {m:Nat},u<10 ^ (m+1)->u<18446744073709551616->(dec u).length<=m+1:=by
 intro m
 induction m generalizing u with
 | zero=>intro h _;rw [jdU (by simpa using h)];simp
 | succ m ih=>
  intro h h2
  by_cases h3:u<10
  ·rw [jdU h3];simp
  ·rw [jeZ h3 h2,ze]
   have:=ih (u:=u/10) (by rw [Nat.pow_succ] at h;omega) om
   simp;omega
section
variable {call:Call} {fuel base:Nat} {ops:List Ins} {keep:List Nat} {K:List Fr} {e:Env} {h:H} {Q:Post}
theorem Ops.str1 {i1 i2 d1 d2:Nat} {x:Opd} {n:Int} {b:UInt8} (hx:x.ev e=some (.int .u8 n)) (hb:n=(b.toNat:Int))
  (k:Ops call fuel base ops keep K (layv (layv e (some d1) (.slice (some (h.nx,0)) 1 (.fix 1))) (some d2) (.str [b])) (h.new (.cells [jbw b] false)) Q) :
  Ops call fuel base (⟨i1,some d1,.bslice 1 1 [.int .u8 0] [(0,x)],none,none,[]⟩ :: ⟨i2,some d2,.ofBytes (.t d1),none,none,[]⟩ :: ops) keep K e h Q:=by
 subst hb
 refine zcu (ob := .cells [jbw b] false) (mk:=fun b=>.slice (some (b,0)) 1 (.fix 1)) rfl ?_ ?_
 ·simp only [I.make,jaC,List.map,hx];rfl
 ·refine Ops.step (v := .str [b]) (h':=h.new (.cells [jbw b] false)) (I.run_read rfl ?_) k
  have he:(Opd.t d1).ev (layv e (some d1) (.slice (some (h.nx,0)) 1 (.fix 1)))=some (.slice (some (h.nx,0)) 1 (.fix 1)):=by
   show (layv e (some d1) _).get d1=_
   rw [ja9];simp
  simp only [I.read,he]
  have:((1:Nat) == 0)=false:=rfl
  rw [this,cond_false,jby (jac _) Zd]
  simp [bytesOf,jdW]
end
theorem jkD {m:Nat} (h:m<10):IntKind.u8.wrap (48+(m:Int))=((UInt8.ofNat (48+m)).toNat:Int):=by
 rw [UInt8.toNat_ofNat',IntKind.wrap_u8]
 omega
section
variable {cl:Nat->Call} (hcl:Sem cl)
include hcl
end
section
variable {cl:Nat->Call} (hcl:Sem cl)
include hcl
theorem rd_digits {d u:Nat} {h:H} (hd:1<=d) (hu:u<18446744073709551616) :
  ∃ h',cl d (.fn 69) [.int .u64 (u:Int)] h=some (.str (dec u),h')/\Old h h':=by
 refine ja5 (aT hcl ?_)
 refine qx ?_
 refine zW (fun m e g=>∃ (n:Nat) (s:List UInt8),n<10 ^ (m+1)/\m+s.length<=19/\n<18446744073709551616/\dec u=dec n++s/\e=[(0,.int .u64 (n:Int)),(3,.str s)]/\Old h g)
  (k:=19) Ze ⟨u,[],by omega,by simp,hu,by simp,rfl,zX h⟩ ?_
 rintro m _ g ⟨n,s,hm,hsl,hn,hs,rfl,old⟩ f ih
 by_cases hlt:n<10
 ·have hlt' : ¬ (9:Int)<(n:Int):=by omega
  refine qx ?_
  refine Ops.str1 (b:=UInt8.ofNat (48+n)) rfl (jkD hlt) ?_
  refine qx ?_
  refine Ops.sadd rfl rfl Zc ?_
  refine qx ?_
  exact ⟨by rw [hs,jdU hlt],old.trans ⟨by simp,fun _ hj=>jaj hj⟩⟩
 ·have hlt':(9:Int)<(n:Int):=by omega
  have hm0:m≠0:=by rintro rfl;simp at hm;omega
  have e1:IntKind.u8.wrap (IntKind.u64.wrap (48+(n:Int).tmod 10))=((UInt8.ofNat (48+n%10)).toNat:Int):=by
   have:(n:Int).tmod 10=((n%10:Nat):Int):=(Int.ofNat_tmod n 10).symm
   rw [this,IntKind.wrap_u64,<- jkD (m:=n%10) om]
   congr 1;omega
  refine qx ?_
  refine Ops.str1 (b:=UInt8.ofNat (48+n%10)) rfl e1 ?_
  refine qx ?_
  refine Ops.sadd rfl rfl Zc ?_
  refine qx ?_
  refine ih (m-1) om _ _ ⟨n/10,[UInt8.ofNat (48+n%10)]++s,?_,by simp;omega,by omega,by rw [hs,jeZ hlt hn,List.append_assoc],?_,old.trans ⟨by simp,fun _ hj=>jaj hj⟩⟩
  ·rw [show m-1+1=m by omega];rw [Nat.pow_succ] at hm;omega
  ·have:(n:Int).tdiv 10=((n/10:Nat):Int):=(Int.ofNat_tdiv n 10).symm
   rw [this,IntKind.wrap_u64,Int.emod_eq_of_lt om om]
end
abbrev hexT:List UInt8:=[48,49,50,51,52,53,54,55,56,57,97,98,99,100,101,102]
def hx (n:Nat):UInt8:=hexT.getD n 0
def hexS (l:List UInt8):List UInt8:=(l.map fun b=>[hx (b.toNat/16),hx (b.toNat%16)]).flatten
theorem jg1 (l:List UInt8):(hexS l).length=2*l.length:=by
 induction l with
 | nil=>rfl
 | cons a l ih=>simp only [hexS,List.map_cons,zM,ze] at ih ⊢;rw [ih];simp;omega
theorem jh1 {l:List UInt8} {i:Nat} {b:UInt8} (h:l[i]?=some b):hexS (l.take (i+1))=hexS (l.take i)++[hx (b.toNat/16),hx (b.toNat%16)]:=by
 rw [List.take_add_one,h]
 simp [hexS]
theorem jiN {n:Nat} (h:n<16):hexT[n]?=some (hx n):=by
 match n,h with
 | 0,_=>rfl | 1,_=>rfl | 2,_=>rfl | 3,_=>rfl | 4,_=>rfl | 5,_=>rfl | 6,_=>rfl | 7,_=>rfl
 | 8,_=>rfl | 9,_=>rfl | 10,_=>rfl | 11,_=>rfl | 12,_=>rfl | 13,_=>rfl | 14,_=>rfl | 15,_=>rfl
 | n+16,h=>exact zC h om
section
variable {call:Call} {fuel base:Nat} {K:List Fr} {e:Env} {h:H} {Q:Post} {ix:Nat} {dst at_:Option Nat} {ops:List Ins} {keep:List Nat}
theorem Ops.ixHex {x i:Opd} {s:List UInt8} {k:IntKind} {n:Nat} {b:UInt8} (hx:x.ev e=some (.str s)) (hi:i.ev e=some (.int k (n:Int))) (hs:s[n]?=some b) (kk:Ops call fuel base ops keep K (layv e dst (.int .u8 (b.toNat:Int))) h Q) :
  Ops call fuel base (⟨ix,dst,.ixStr x i,none,at_,[]⟩ :: ops) keep K e h Q:=by
 refine Ops.pure rfl ?_ kk
 simp only [I.pure,hx,hi]
 have hlt:n<s.length:=by
  rcases zr n s.length with h | h
  ·exact h
  ·rw [zc h] at hs;cases hs
 have hb:below (n:Int) s.length=true:=jbV.2 ⟨by omega,by omega⟩
 rw [hb]
 simp only [cond_true,zq,hs,jbw]
theorem Ops.bslice2_at {b:Nat} {x y:Opd} {xv yv z0 z1:V} (hx:x.ev e=some xv) (hy:y.ev e=some yv) (h1:xv.cells=[xv]) (h2:yv.cells=[yv])
  (k:Ops call fuel base ops keep K (layv e dst (.slice (some (base+b,0)) 2 (.fix 2))) (h.set (base+b) (.cells [xv,yv] false)) Q) :
  Ops call fuel base (⟨ix,dst,.bslice 1 2 [z0,z1] [(0,x),(1,y)],none,some b,[]⟩ :: ops) keep K e h Q:=by
 refine Ops.make_at (ob := .cells [xv,yv] false) (mk:=fun b=>.slice (some (b,0)) 2 (.fix 2)) rfl ?_ k
 have hf:jaB [z0,z1] [(0,1,xv),(1,1,yv)]=some [xv,yv]:=by
  simp [jaB,h1,h2,jal];rfl
 simp only [I.make,jaC,List.map,hx,hy,Nat.zero_mul,Nat.one_mul,hf]
end
section
variable {cl:Nat->Call} (hcl:Sem cl)
include hcl
end
abbrev zY:=@Ops.ixHex
def Pw (h:H):Prop:=2<h.nx /\ ∃ l ro,h.get 2=some (.cells l ro)/\jhh 20 1 l=true
theorem Pw.old {h h':H} (p:Pw h) (o:Old h h'):Pw h':=⟨zo p.1 o.1,by obtain ⟨l,ro,h1,h2⟩:=p.2;exact ⟨l,ro,by rw [o.2 2 p.1,h1],h2⟩⟩
theorem Pw.ch {h h':H} {B:Nat->Prop} (p:Pw h) (c:Ch B h h') (h0 : ¬ B 2):Pw h':=⟨zo p.1 c.nx,by obtain ⟨l,ro,h1,h2⟩:=p.2;exact ⟨l,ro,by rw [c.get 2 p.1 h0,h1],h2⟩⟩
theorem jf5 {h:H} {u:Nat} (p:Pw h):jbk 2 u h=some (.str (dec u),h):=by
 obtain ⟨_,l,ro,h1,h2⟩:=p
 unfold jbk
 cases Nat.blt u 100 with
 | true=>rfl
 | false=>simp only [cond_false,h1,h2,cond_true]
section
variable {cl:Nat->Call} (hcl:Sem cl)
include hcl
theorem jfE {d u:Nat} {h:H} (hd:1<=d) (hu:u<9223372036854775808) (p:Pw h):cl d (.fn 66) [.i (u:Int)] h=some (.str (dec u),h):=by
 rw [jfT hcl hd (p:=jhj 2) rfl]
 have h1:Nat.ble u 9223372036854775807=true:=Nat.ble_eq_true_of_le om
 show (bif Nat.ble u 9223372036854775807 then jbk 2 u h else none)=_
 rw [h1,cond_true,jf5 p]
theorem w_FmtU {d u:Nat} {h:H} (hd:1<=d) (hu:u<18446744073709551616) (p:Pw h):cl d (.fn 65) [.int .u64 (u:Int),.i 10] h=some (.str (dec u),h):=by
 rw [jfT hcl hd (p:=jhl 2) rfl]
 have h1:Nat.ble u 18446744073709551615=true:=Nat.ble_eq_true_of_le om
 show (bif Nat.ble u 18446744073709551615 then jbk 2 u h else none)=_
 rw [h1,cond_true,jf5 p]
theorem w_Join {d b o n:Nat} {c:Cap} {h:H} {l:List V} {ro:Bool} {xs:List (List UInt8)} {s:List UInt8} (hd:1<=d) (hg:h.get b=some (.cells l ro)) (hx:(l.drop o).take n=xs.map V.str) (hn:xs.length=n) (hs:(Lib.join xs s).length<=100000000) (hn2:n<=1000000) :
  cl d (.fn 67) [.slice (some (b,o)) n c,.str s] h=some (.str (Lib.join xs s),h):=by
 rw [jfT hcl hd (p:=jfW) rfl]
 have h1:(Nat.beq xs.length n&&(Nat.ble n 140737488355328&&Nat.ble (Lib.join xs s).length 140737488355328))=true:=by
  rw [show Nat.beq xs.length n=true by rw [hn];exact Nat.beq_refl n,Nat.ble_eq_true_of_le om,Nat.ble_eq_true_of_le om];rfl
 simp only [jfW]
 rw [hg]
 dsimp only
 rw [hx,jiw]
 dsimp only
 rw [h1,cond_true]
end
section
variable {call:Call} {fuel base:Nat} {K:List Fr} {e:Env} {h:H} {Q:Post} {ix:Nat} {dst at_:Option Nat} {ops:List Ins} {keep:List Nat}
theorem Ops.digit {x y:Opd} {n:Nat} (hx':x.ev e=some (.i (n:Int))) (hy:y.ev e=some (.i ((n:Int)+1))) (hn:n<16) (k:Ops call fuel base ops keep K (layv e dst (.str [hx n])) h Q) :
  Ops call fuel base (⟨ix,dst,.sliceS (.c (.str hexT)) (some x) (some y),none,at_,[]⟩ :: ops) keep K e h Q:=by
 refine Ops.pure rfl ?_ k
 have hh:(Opd.c (.str hexT)).ev e=some (.str hexT):=rfl
 simp only [I.pure,evo,hx',hy,hh]
 match n,hn with
 | 0,_=>rfl | 1,_=>rfl | 2,_=>rfl | 3,_=>rfl | 4,_=>rfl | 5,_=>rfl | 6,_=>rfl | 7,_=>rfl
 | 8,_=>rfl | 9,_=>rfl | 10,_=>rfl | 11,_=>rfl | 12,_=>rfl | 13,_=>rfl | 14,_=>rfl | 15,_=>rfl
 | n+16,h=>exact zC h om
end
section
variable {cl:Nat->Call} (hcl:Sem cl)
include hcl
end
end Am.Sigs
