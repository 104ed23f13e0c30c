/- Our own library, part 22. -/
import Derived.Test.YtfjmannliblijaaGreatG21
import Derived.Test.YtfjmannliblijaaGreatG18
import Derived.Test.YtfjmannliblijaaGreatG19
import Derived.Test.YtfjmannliblijaaGreatG20
set_option maxHeartbeats 8000000
set_option maxRecDepth 800
set_option linter.all false
namespace Am.Sigs
open Am Go
theorem Run.region1 {call:Call} {fuel:Nat} {K:List Fr} {e:Env} {h:H} {Q:Post} {ops:List Ins} {keep:List Nat} (k : ∀ HR,Old h HR->HR.nx=h.nx+1->Ops call fuel h.nx ops keep K e HR Q):Run call fuel (.region 1 ops keep) K e h Q :=
 Run.region (k _ ⟨by simp [H.reserve],fun _ _=>rfl⟩ rfl)
section
variable {cl:Nat->Call} (hcl:Sem cl) {d D w s:Nat} {h:H} {ow:Nat->Nat} {ws:Ws} {now:Int} {tb:Tb} {no:Option (Nat × Nat)} {k:Int}
include hcl
theorem mv_New0 (hd:4<=d) : ∃ sb h',cl d (.fn F.moves_New) [.nils] h=some (.tup [.p sb 0,.i 0],h')/\h'.get sb=some (.cells [.nils,.nils] false)/\sb<h'.nx/\Old h h':=by
 have e3:cl (d-3) (.fn F.jbQ) [.nils,.clo F.jgB []] h=some (.i (-1),h):=by
  refine jaj (at_ hcl om rfl rfl rfl ?_)
  refine qx1 ?_
  refine Run.loop0 Ze fun n'=>?_
  refine qx1 ?_
  exact ⟨rfl,rfl⟩
 have e2:cl (d-2) (.fn F.jbI) [.nils,.clo F.jgB []] h=some (.bool false,h):=by
  refine jaj (at_ hcl om rfl rfl rfl ?_)
  refine qx1 ?_
  exact ⟨rfl,rfl⟩
 have e1:cl (d-1) (.fn F.moves_all) [.nils] h=some (.bool true,h):=by
  refine jaj (at_ hcl om rfl rfl rfl ?_)
  refine qx1 ?_
  exact ⟨rfl,rfl⟩
 have e0:cl (d-1) (.fn F.jjR) [.nils] h=some (.nils,h):=by
  refine jaj (at_ hcl om rfl rfl rfl ?_)
  refine qx1 ?_
  refine Run.loop0 Ze fun n'=>?_
  refine qx1 ?_
  exact ⟨rfl,rfl⟩
 refine ⟨h.nx,h.new (.cells [.nils,.nils] false),jaj (at_ hcl om rfl rfl rfl ?_),jad _,Nat.lt_succ_self _,(Old.refl h).new⟩
 clear e2 e3
 refine qm1 ?_
 exact ⟨rfl,rfl⟩
theorem mv_Sleep0 {sb f:Nat} {cap:List V} {t:Int} (hd:8<=d) (a:WSt h w s ow ws now tb no) (o:WsOk ws) (n0:0<=now) (n1:now<=18446744073709551615) (t0:0<t) (t1:t<=18446744073709551615)
  (hs:h.get sb=some (.cells [.nils,.nils] false)) (ls:sb<h.nx) (hc : ∀ g,Old h g -> ∃ g',cl (d-1) (.fn f) cap g=some (.bool false,g')/\Old g g') :
  ∃ h',cl d (.fn F.jeZ) [.p sb 0,.p w 0,.int .u64 t,.bool false,.clo f cap] h=some (.i 2,h')/\WSt h' w s ow ws (jf1 now t) tb no/\Ch (fun j=>ow j≠0) h h':=by
 obtain ⟨h1,e1,o1⟩:=wm_none hcl (d:=d-1) om a o
 obtain ⟨h2,e2,o2⟩:=hc h1 o1
 obtain ⟨h3,e3,W3,t3⟩:=jlP hcl (d:=d-1) om ((a.old o1).old o2) n0 n1 om t1
 have g1:h1.get sb=some (.cells [.nils,.nils] false):=by rw [o1.2 _ ls,hs]
 have g2:h2.get sb=some (.cells [.nils,.nils] false):=by rw [o2.2 _ (zq ls o1.1),g1]
 have tz : ¬ t=0:=by omega
 have hch:Ch (fun j=>ow j≠0) h h3:=((o1.trans o2).ch.trans t3.ch)
 refine jai (at_ hcl om rfl rfl rfl ?_)
 clear a o hc
 refine qx1 ?_
 refine Run.loop0 Ze fun n'=>?_
 refine qx1 ?_
 refine Run.loop0 Ze fun n'=>?_
 refine qx1 ?_
 refine Ops.callc rfl rfl e2 ?_
 refine qx1 ?_
 exact ⟨rfl,W3,hch⟩
theorem dp_hold {c1 c2:Nat} {v:V} (hd:15<=d) (a:WSt h w s ow ws now tb no) (o:WsOk ws) (K:KZ k v) (g1:h.get c1=some (.cells [v] false)) (g2:h.get c2=some (.cells [.p D 0] false)) (hD:h.get D=some (.cells (dz w k) false)) :
  ∃ h',cl d (.fn F.jbX) [.p c1 0,.p c2 0] h=some (.bool false,h')/\Old h h':=by
 have q0:(dz w k)[0+0]?=some (.p w 0):=rfl
 obtain ⟨h1,e1,o1⟩:=dp_sholds hcl (d:=d-1) om a o
 obtain ⟨h2,e2,o2⟩:=dp_lholds hcl (d:=d-1) om a o
 refine jai (at_ hcl om rfl rfl rfl ?_)
 clear a o
 obtain ⟨_,rfl⟩ | ⟨_,rfl⟩:=K
 ·refine qx1 ?_
  refine Ops.invk rfl rfl rfl e1 ?_
  refine qx1 ?_
  exact ⟨rfl,o1⟩
 ·refine qx1 ?_
  refine Ops.invk rfl rfl rfl e2 ?_
  refine qx1 ?_
  exact ⟨rfl,o2⟩
theorem dp_tail {B4 B8 B13:Nat} (hd:1<=d) (g4:h.get B4=some (.cells [.p D 0] false)) (g8:h.get B8=some (.cells [.nils] false)) (hD:h.get D=some (.cells (dz w k) false)) (l4:B4<h.nx) (l8:B8<h.nx) (lD:D<h.nx) (ne:D≠B8) :
  Run (cl d) fuel c14_5 [] [(4,.p B4 0),(8,.p B8 0),(9,.nils),(10,.i 2),(11,.i 0),(13,.p B13 0)] h (Fin c14.res fun v h'=>v = .tup [.nils,.nils,.i 2,.i 0]/\h'.get D=some (.cells (dz w k) false)):=by
 have q98:(dz w k)[0+98]?=some (.i 0):=dc_n
 have e1:=jkB hcl (d:=d) (D:=D) (h:=h) hd
 have o1:Old h (h.new (.cells [.p D 0] false)):=(Old.refl h).new
 have x1:(h.new (.cells [.p D 0] false)).get h.nx=some (.cells [.p D 0] false):=jad _
 have xn:(h.new (.cells [.p D 0] false)).nx=h.nx+1:=rfl
 refine qx1 ?_
 change Run _ _ _ _ [(4,.p B4 0),(8,.p B8 0),(9,.nils),(10,.i 2),(13,.p B13 0),(58,.clo F.jbp [.p h.nx 0])] _ _
 generalize h.new (.cells [.p D 0] false)=X at o1 x1 xn ⊢
 refine Run.rangeFunc_lo rfl qkp fun LO hLO=>?_
 have e2:=jhF hcl (d:=d) (h:=X.new (LO .ready none)) (L:=X.nx) (c:=h.nx) hd (by rw [jac om,x1]) (by rw [jac om,o1.2 _ lD,hD])
 refine ⟨_,_,e2,.normal,jad _,?_⟩
 have gk : ∀ j,j<h.nx->((X.new (LO .ready none)).kill X.nx).get j=h.get j:=fun j hj=>by rw [jae om,jac om,o1.2 j hj]
 have k4:=(gk B4 l4).trans g4
 have k8:=(gk B8 l8).trans g8
 have kD:=(gk D lD).trans hD
 clear hLO gk e2 e1
 generalize (X.new (LO .ready none)).kill X.nx=Z at k4 k8 kD ⊢
 refine qs1 ?_
 refine End.fin2 (a := .nils) (b := .nils) (l:=[.i 2,.i 0]) ?_ ⟨rfl,by rw [jaa ne,kD]⟩
 show (match (Z.set B8 (.cells [.nils] false)).load1 B8 0,some [V.nils,.i 2,.i 0] with | some v,some l=>some (v :: l) | _,_=>none)=_
 rw [jdw (jab _) rfl]
theorem jfM (hd:20<=d) (a:WSt h w s ow ws now tb no) (o:WsOk ws) (n0:0<=now) (n1:now<=18446744073709551615) (hD:h.get D=some (.cells (dz w k) false)) (lD:D<h.nx) (tD:ow D=0) :
  ∃ h',cl d (.fn F.jc0) [.p D 0,.ptr none,.int .u64 3,.bool false] h=some (.tup [.nils,.nils,.i 2,.i 0],h')/\h'.get D=some (.cells (dz w k) false):=by
 have q0:(dz w k)[0+0]?=some (.p w 0):=rfl
 have q98:(dz w k)[0+98]?=some (.i 0):=dc_n
 have oX:Old h ((h.new (.cells [.p D 0] false)).new (.cells [.nils] false)):=(Old.refl h).new.new
 have x4:((h.new (.cells [.p D 0] false)).new (.cells [.nils] false)).get h.nx=some (.cells [.p D 0] false):=qgt
 have x8:((h.new (.cells [.p D 0] false)).new (.cells [.nils] false)).get (h.nx+1)=some (.cells [.nils] false):=qgt
 have xn:((h.new (.cells [.p D 0] false)).new (.cells [.nils] false)).nx=h.nx+2:=rfl
 have t4:ow h.nx=0:=a.top (zp _)
 have t8:ow (h.nx+1)=0:=a.top (Nat.le_succ _)
 refine jai (at_ hcl om rfl rfl rfl ?_)
 obtain ⟨C8,hC8⟩ : ∃ C,C=c14_8:=⟨_,rfl⟩
 simp only [c14,c14_10,c14_9,<- hC8,yB,yJ]
 refine Run.seq (Run.region0 (Ops.make rfl rfl (Ops.make rfl rfl (Ops.mv rfl (Ops.mv rfl (Ops.mv rfl (Ops.nil qkp (End.seq ?_))))))))
 change Run _ _ _ _ [(1,.ptr none),(2,.int .u64 3),(3,.bool false),(4,.p h.nx 0),(8,.p (h.nx+1) 0),(9,.nils)] ((h.new (.cells [.p D 0] false)).new (.cells [.nils] false)) _
 generalize (h.new (.cells [.p D 0] false)).new (.cells [.nils] false)=X at oX x4 x8 xn ⊢
 have xD:X.get D=some (.cells (dz w k) false):=by rw [oX.2 _ lD,hD]
 have e0:=jfD hcl (d:=d-1) om xD
 obtain ⟨sb,X1,e1,s1,l1,o1⟩:=mv_New0 hcl (d:=d-1) (h:=X) om
 have y4:X1.get h.nx=some (.cells [.p D 0] false):=by rw [o1.2 _ om,x4]
 have yD:X1.get D=some (.cells (dz w k) false):=by rw [o1.2 _ om,xD]
 have y1:=o1.1
 obtain ⟨v,X2,e2,K,o2⟩:=dp_kernel hcl (d:=d-1) om yD om
 have y2:=o2.1
 have hone:v.one=true:=by obtain ⟨_,rfl⟩ | ⟨_,rfl⟩:=K<;>rfl
 generalize hX:(X2.new (.cells [.nili] false)).set X2.nx (.cells [v] false)=X3
 have o3:Old X2 X3:=by rw [<- hX];exact (Old.refl X2).new.set (zp _)
 have o13:Old h X3:=((oX.trans o1).trans o2).trans o3
 have z12:X3.get X2.nx=some (.cells [v] false):=by rw [<- hX];exact jab _
 have z3:=(o1.trans o2).trans o3
 have z4:X3.get h.nx=some (.cells [.p D 0] false):=by rw [z3.2 _ om,x4]
 have z8:X3.get (h.nx+1)=some (.cells [.nils] false):=by rw [z3.2 _ om,x8]
 have zD:X3.get D=some (.cells (dz w k) false):=by rw [o13.2 _ lD,hD]
 have l3:X3.nx=X2.nx+1:=by rw [<- hX];rfl
 have zs:X3.get sb=some (.cells [.nils,.nils] false):=by rw [(o2.trans o3).2 _ l1,s1]
 have W3:=a.old o13
 obtain ⟨X4,e4,W4,c4⟩:=mv_Sleep0 hcl (d:=d-1) (t:=3) (f:=F.jbX) (cap:=[.p X2.nx 0,.p h.nx 0]) om W3 o n0 n1 om om zs (zq l1 (o2.trans o3).1) fun g og=>
  dp_hold hcl (d:=d-1-1) om (W3.old og) o K (by rw [og.2 _ om,z12]) (by rw [og.2 _ om,z4]) (by rw [og.2 _ om,zD])
 have k4:X4.get h.nx=some (.cells [.p D 0] false):=by rw [c4.get _ om (fun e=>e t4),z4]
 have k8:X4.get (h.nx+1)=some (.cells [.nils] false):=by rw [c4.get _ om (fun e=>e t8),z8]
 have kD:X4.get D=some (.cells (dz w k) false):=by rw [c4.get _ om (fun e=>e tD),zD]
 have k12:X4.get X2.nx=some (.cells [v] false):=by rw [c4.get _ om (fun e=>e (a.top om)),z12]
 have y5:=c4.nx
 clear a W3 o1 o2 o3 z3 o13 oX
 refine qm1 ?_
 refine Ops.store1 (l:=[.nili]) rfl rfl hone (jad _) Nat.zero_lt_one ?_
 change Ops _ _ _ _ _ _ _ ((X2.new (.cells [.nili] false)).set X2.nx (.cells [v] false)) _
 rw [hX]
 subst hC8
 refine qx1 ?_
 clear e0 e1 e2 e4
 refine Run.region1 fun HR oR xR=>?_
 have r12:HR.get X2.nx=some (.cells [v] false):=by rw [oR.2 _ om,k12]
 have r4:HR.get h.nx=some (.cells [.p D 0] false):=by rw [oR.2 _ om,k4]
 have rD:HR.get D=some (.cells (dz w k) false):=by rw [oR.2 _ om,kD]
 obtain ⟨_,X5,e5,⟨m,rfl⟩,o5⟩:=dp_stold hcl (d:=d-1) om (W4.old oR) o
 obtain ⟨_,X6,e6,⟨m6,rfl⟩,o6⟩:=dp_ltold hcl (d:=d-1) om (W4.old oR) o
 have T : ∀ (Y:H) (m:Option Nat),Old HR Y->Run (cl (d-1)) fuel c14_5 [] [(4,.p h.nx 0),(8,.p (h.nx+1) 0),(9,.nils),(10,.i 2),(11,.i 0),(13,.p (X4.nx+0) 0)] ((Y.set (X4.nx+0) (.cells [.map none] false)).set (X4.nx+0) (.cells [.map m] false)) (Fin c14.res fun v h'=>v = .tup [.nils,.nils,.i 2,.i 0]/\h'.get D=some (.cells (dz w k) false)):=fun Y m oY=>by
  have gY : ∀ j,j<X4.nx->((Y.set (X4.nx+0) (.cells [.map none] false)).set (X4.nx+0) (.cells [.map m] false)).get j=X4.get j:=fun j hj=>by rw [jaa om,jaa om,(oR.trans oY).2 j hj]
  have nY:=(oR.trans oY).1
  exact dp_tail hcl (d:=d-1) om ((gY _ om).trans k4) ((gY _ om).trans k8) ((gY _ om).trans kD) (by show h.nx<Y.nx;omega) (by show h.nx+1<Y.nx;omega) (by show D<Y.nx;omega) om
 have T5:=T X5 m o5
 have T6:=T X6 m6 o6
 obtain ⟨C,hC⟩ : ∃ C,C=c14_5:=⟨_,rfl⟩
 rw [<- hC] at T5 T6 ⊢
 clear T W4 o c4 k4 k8 kD k12
 obtain ⟨_,rfl⟩ | ⟨_,rfl⟩:=K
 ·refine qx1 ?_
  refine Ops.invk rfl rfl rfl e5 ?_
  refine qx1 ?_
  refine Ops.make_at rfl rfl ?_
  refine Ops.store1 rfl rfl rfl (jab _) Nat.zero_lt_one ?_
  refine qx1 ?_
  exact T5
 ·refine qx1 ?_
  refine Ops.invk rfl rfl rfl e6 ?_
  refine qx1 ?_
  refine Ops.make_at rfl rfl ?_
  refine Ops.store1 rfl rfl rfl (jab _) Nat.zero_lt_one ?_
  refine qx1 ?_
  exact T6
end
section
variable {cl:Nat->Call} (hcl:Sem cl) {h:H} {p w s rw:Nat} {ow:Nat->Nat} {ro dat:Nat->Prop} {st:St} {a n t:Int} {dv vd:V} {D:List UInt8}
include hcl
theorem mo_9 {d i:Nat} (hd:15<=d) (b:BB h p w s rw ow ro dat st st) (so:StOk st i) (hi:i<=200) (hD:Dat h dat dv D) (hC:Cpy h p ow ro dat vd D) :
  jcY cl d F.jag h p w s rw ow ro dat [.p p 0,.agg (opV 9 a n t dv),vd] (doS 9 a n t D st):=by
 have o0:Old h (h.new (.cells (opV 9 a n t dv) false)):=(Old.refl h).new
 have b0:=b.old o0
 have f0:=Fm.old (ow:=ow) (ro:=ro) o0
 have hD0:=hD.keep b f0
 have hC0:=hC.keep f0
 have hl300:=hD.len
 have g0:(h.new (.cells (opV 9 a n t dv) false)).get h.nx=some (.cells (opV 9 a n t dv) false):=jad _
 have x0:h.nx<(h.new (.cells (opV 9 a n t dv) false)).nx:=by simp
 have z0:ow h.nx=0:=b.W.top (zp _)
 have hp0:=b0.hp
 have lp:=b.lp
 have hok:st.tb.ok 1000000:=so.tb.mono om
 have hS:doS 9 a n t D st = { st with ws:=(putS st.ws a D).2 } := by simp [doS]
 rw [hS]
 obtain ⟨h1,e1,W1,t1⟩:=ww_Put hcl (d:=d-1) (n:=a) om b0.W so.K.ok hC0.v om (fun z hz=>(hC0.z z hz).2.1)
 have b1:=b0.wc (a' := { st with ws:=(putS st.ws a D).2 }) W1 t1
 have g1:=b0.off_w t1 x0 z0 g0
 have hp1:=b1.hp
 obtain ⟨v,h2,e2,b2,f2,rfl⟩:=b1.rc hcl (d:=d-1) (f:=F.jbo) (args:=[.p rw 0,.i a,dv]) (r' := { st with ws:=(putS st.ws a D).2 }) (P:=fun _ v=>v = .tup [.i (putS st.ws a D).1.1,.i (putS st.ws a D).1.2]) (fun _ _ _ _ h=>h) (fun g q l ga gn hq wR hl=>by
  have oR:WsOk (l.map RX.x):=by rw [hl];exact so.K.ok
  obtain ⟨q1,q2⟩:=(hD0.keep b0 (Fm.to t1)).in_ b1 ga gn hq
  obtain ⟨l',g',k1,k2,k3,k4⟩:=rq_Put hcl (d:=d-1) (n:=a) om wR oR q1 om q2
  rw [hl] at k1 k3
  exact ⟨_,q,l',g',k1,k2,k3,k4,.inl rfl,rfl⟩)
 clear so hD hC hD0 hC0 hok hl300 hS
 refine ⟨h2,_,_,jaj (at_ hcl om rfl rfl rfl ?_),b2,Fm.two o0 t1 f2⟩
 refine qm1 ?_
 exact ⟨by simp,rfl⟩
theorem mo_11 {d i:Nat} (hd:15<=d) (b:BB h p w s rw ow ro dat st st) (so:StOk st i) (hi:i<=200) (hD:Dat h dat dv D) (hC:Cpy h p ow ro dat vd D) :
  jcY cl d F.jag h p w s rw ow ro dat [.p p 0,.agg (opV 11 a n t dv),vd] (doS 11 a n t D st):=by
 have o0:Old h (h.new (.cells (opV 11 a n t dv) false)):=(Old.refl h).new
 have b0:=b.old o0
 have f0:=Fm.old (ow:=ow) (ro:=ro) o0
 have hD0:=hD.keep b f0
 have hC0:=hC.keep f0
 have hl300:=hD.len
 have g0:(h.new (.cells (opV 11 a n t dv) false)).get h.nx=some (.cells (opV 11 a n t dv) false):=jad _
 have x0:h.nx<(h.new (.cells (opV 11 a n t dv) false)).nx:=by simp
 have z0:ow h.nx=0:=b.W.top (zp _)
 have hp0:=b0.hp
 have lp:=b.lp
 have hok:st.tb.ok 1000000:=so.tb.mono om
 have hS:doS 11 a n t D st = { st with ws:=(jaG st.ws a).2 } := by simp [doS]
 rw [hS]
 obtain ⟨h1,e1,W1,t1⟩:=jj2 hcl (d:=d-1) (n:=a) om b0.W
 have b1:=b0.wc (a' := { st with ws:=(jaG st.ws a).2 }) W1 t1
 have g1:=b0.off_w t1 x0 z0 g0
 have hp1:=b1.hp
 obtain ⟨v,h2,e2,b2,f2,rfl⟩:=b1.rc hcl (d:=d-1) (f:=F.jaF) (args:=[.p rw 0,.i a]) (r' := { st with ws:=(jaG st.ws a).2 }) (P:=fun _ v=>v = .i (jaG st.ws a).1) (fun _ _ _ _ h=>h) (fun g q l ga gn hq wR hl=>by
  have oR:WsOk (l.map RX.x):=by rw [hl];exact so.K.ok
  obtain ⟨l',g',k1,k2,k3,k4⟩:=jjE hcl (d:=d-1) (n:=a) om wR
  rw [hl] at k1 k3
  exact ⟨_,q,l',g',k1,k2,k3,k4,.inl rfl,rfl⟩)
 clear so hD hC hD0 hC0 hok hl300 hS
 refine ⟨h2,_,_,jaj (at_ hcl om rfl rfl rfl ?_),b2,Fm.two o0 t1 f2⟩
 refine qm1 ?_
 exact ⟨by simp,rfl⟩
theorem mo_12 {d i:Nat} (hd:15<=d) (b:BB h p w s rw ow ro dat st st) (so:StOk st i) (hi:i<=200) (hD:Dat h dat dv D) (hC:Cpy h p ow ro dat vd D) :
  jcY cl d F.jag h p w s rw ow ro dat [.p p 0,.agg (opV 12 a n t dv),vd] (doS 12 a n t D st):=by
 have o0:Old h (h.new (.cells (opV 12 a n t dv) false)):=(Old.refl h).new
 have b0:=b.old o0
 have f0:=Fm.old (ow:=ow) (ro:=ro) o0
 have hD0:=hD.keep b f0
 have hC0:=hC.keep f0
 have hl300:=hD.len
 have g0:(h.new (.cells (opV 12 a n t dv) false)).get h.nx=some (.cells (opV 12 a n t dv) false):=jad _
 have x0:h.nx<(h.new (.cells (opV 12 a n t dv) false)).nx:=by simp
 have z0:ow h.nx=0:=b.W.top (zp _)
 have hp0:=b0.hp
 have lp:=b.lp
 have hok:st.tb.ok 1000000:=so.tb.mono om
 have hS:doS 12 a n t D st = { st with ws:=(ja5 st.ws a).2 } := by simp [doS]
 rw [hS]
 obtain ⟨h1,e1,W1,t1⟩:=ji6 hcl (d:=d-1) (n:=a) om b0.W
 have b1:=b0.wc (a' := { st with ws:=(ja5 st.ws a).2 }) W1 t1
 have g1:=b0.off_w t1 x0 z0 g0
 have hp1:=b1.hp
 obtain ⟨v,h2,e2,b2,f2,rfl⟩:=b1.rc hcl (d:=d-1) (f:=F.jaC) (args:=[.p rw 0,.i a]) (r' := { st with ws:=(ja5 st.ws a).2 }) (P:=fun _ v=>v = .i (ja5 st.ws a).1) (fun _ _ _ _ h=>h) (fun g q l ga gn hq wR hl=>by
  have oR:WsOk (l.map RX.x):=by rw [hl];exact so.K.ok
  obtain ⟨l',g',k1,k2,k3,k4⟩:=jiF hcl (d:=d-1) (n:=a) om wR
  rw [hl] at k1 k3
  exact ⟨_,q,l',g',k1,k2,k3,k4,.inl rfl,rfl⟩)
 clear so hD hC hD0 hC0 hok hl300 hS
 refine ⟨h2,_,_,jaj (at_ hcl om rfl rfl rfl ?_),b2,Fm.two o0 t1 f2⟩
 refine qm1 ?_
 exact ⟨by simp,rfl⟩
theorem mo_13 {d i:Nat} (hd:15<=d) (b:BB h p w s rw ow ro dat st st) (so:StOk st i) (hi:i<=200) (hD:Dat h dat dv D) (hC:Cpy h p ow ro dat vd D) :
  jcY cl d F.jag h p w s rw ow ro dat [.p p 0,.agg (opV 13 a n t dv),vd] (doS 13 a n t D st):=by
 have o0:Old h (h.new (.cells (opV 13 a n t dv) false)):=(Old.refl h).new
 have b0:=b.old o0
 have f0:=Fm.old (ow:=ow) (ro:=ro) o0
 have hD0:=hD.keep b f0
 have hC0:=hC.keep f0
 have hl300:=hD.len
 have g0:(h.new (.cells (opV 13 a n t dv) false)).get h.nx=some (.cells (opV 13 a n t dv) false):=jad _
 have x0:h.nx<(h.new (.cells (opV 13 a n t dv) false)).nx:=by simp
 have z0:ow h.nx=0:=b.W.top (zp _)
 have hp0:=b0.hp
 have lp:=b.lp
 have hok:st.tb.ok 1000000:=so.tb.mono om
 have hS:doS 13 a n t D st = { st with ws:=(jcd st.ws a).2 } := by simp [doS]
 rw [hS]
 obtain ⟨h1,e1,W1,t1⟩:=ww_Reset hcl (d:=d-1) (n:=a) om b0.W so.K.ok
 have b1:=b0.wc (a' := { st with ws:=(jcd st.ws a).2 }) W1 t1
 have g1:=b0.off_w t1 x0 z0 g0
 have hp1:=b1.hp
 obtain ⟨v,h2,e2,b2,f2,rfl⟩:=b1.rc hcl (d:=d-1) (f:=F.jaV) (args:=[.p rw 0,.i a]) (r' := { st with ws:=(jcd st.ws a).2 }) (P:=fun _ v=>v = .i (jcd st.ws a).1) (fun _ _ _ _ h=>h) (fun g q l ga gn hq wR hl=>by
  have oR:WsOk (l.map RX.x):=by rw [hl];exact so.K.ok
  obtain ⟨l',g',k1,k2,k3,k4⟩:=rq_Reset hcl (d:=d-1) (n:=a) om wR oR
  rw [hl] at k1 k3
  exact ⟨_,q,l',g',k1,k2,k3,k4,.inl rfl,rfl⟩)
 clear so hD hC hD0 hC0 hok hl300 hS
 refine ⟨h2,_,_,jaj (at_ hcl om rfl rfl rfl ?_),b2,Fm.two o0 t1 f2⟩
 refine qm1 ?_
 exact ⟨by simp,rfl⟩
theorem mo_14 {d i:Nat} (hd:15<=d) (b:BB h p w s rw ow ro dat st st) (so:StOk st i) (hi:i<=200) (hD:Dat h dat dv D) (hC:Cpy h p ow ro dat vd D) :
  jcY cl d F.jag h p w s rw ow ro dat [.p p 0,.agg (opV 14 a n t dv),vd] (doS 14 a n t D st):=by
 have o0:Old h (h.new (.cells (opV 14 a n t dv) false)):=(Old.refl h).new
 have b0:=b.old o0
 have f0:=Fm.old (ow:=ow) (ro:=ro) o0
 have hD0:=hD.keep b f0
 have hC0:=hC.keep f0
 have hl300:=hD.len
 have g0:(h.new (.cells (opV 14 a n t dv) false)).get h.nx=some (.cells (opV 14 a n t dv) false):=jad _
 have x0:h.nx<(h.new (.cells (opV 14 a n t dv) false)).nx:=by simp
 have z0:ow h.nx=0:=b.W.top (zp _)
 have hp0:=b0.hp
 have lp:=b.lp
 have hok:st.tb.ok 1000000:=so.tb.mono om
 have hS:doS 14 a n t D st = { st with ws:=(jar st.ws a n).2 } := by simp [doS]
 rw [hS]
 obtain ⟨h1,ow1,e1,W1,t1⟩:=jkN hcl (d:=d-1) (n:=a) (many:=n) om so.K b0.W
 have b1:=b0.wc (a' := { st with ws:=(jar st.ws a n).2 }) W1 t1
 have g1:=b0.off_w t1 x0 z0 g0
 have hp1:=b1.hp
 obtain ⟨v,h2,e2,b2,f2,rfl⟩:=b1.rc hcl (d:=d-1) (f:=F.jaM) (args:=[.p rw 0,.i a,.i n]) (r' := { st with ws:=(jar st.ws a n).2 }) (P:=fun _ v=>v = .tup [.i (jar st.ws a n).1.1,.i (jar st.ws a n).1.2]) (fun _ _ _ _ h=>h) (fun g q l ga gn hq wR hl=>by
  have oR:WsOk (l.map RX.x):=by rw [hl];exact so.K.ok
  obtain ⟨q',l',g',k1,k2,k3,k4,k5⟩:=jla hcl (d:=d-1) (n:=a) (many:=n) om wR oR
  rw [hl] at k1 k3
  exact ⟨_,q',l',g',k1,k2,k3,k4,k5,rfl⟩)
 clear so hD hC hD0 hC0 hok hl300 hS
 refine ⟨h2,_,_,jaj (at_ hcl om rfl rfl rfl ?_),b2,Fm.two o0 t1 f2⟩
 refine qm1 ?_
 exact ⟨by simp,rfl⟩
end
section
variable {cl:Nat->Call} (hcl:Sem cl) {h:H} {p w s rw:Nat} {ow:Nat->Nat} {ro dat:Nat->Prop} {st:St} {a n t:Int} {dv vd:V} {D:List UInt8}
include hcl
theorem mo_15 {d i:Nat} (hd:15<=d) (b:BB h p w s rw ow ro dat st st) (so:StOk st i) (hi:i<=200) (hD:Dat h dat dv D) (hC:Cpy h p ow ro dat vd D) (t0:0<=t) (t1:t<=18446744073709551615) :
  jcY cl d F.jag h p w s rw ow ro dat [.p p 0,.agg (opV 15 a n t dv),vd] (doS 15 a n t D st):=by
 have o0:Old h (h.new (.cells (opV 15 a n t dv) false)):=(Old.refl h).new
 have b0:=b.old o0
 have f0:=Fm.old (ow:=ow) (ro:=ro) o0
 have hD0:=hD.keep b f0
 have hC0:=hC.keep f0
 have hl300:=hD.len
 have g0:(h.new (.cells (opV 15 a n t dv) false)).get h.nx=some (.cells (opV 15 a n t dv) false):=jad _
 have x0:h.nx<(h.new (.cells (opV 15 a n t dv) false)).nx:=by simp
 have z0:ow h.nx=0:=b.W.top (zp _)
 have hp0:=b0.hp
 have lp:=b.lp
 have hok:st.tb.ok 1000000:=so.tb.mono om
 have hS:doS 15 a n t D st = { st with now:=jf1 st.now t } := by simp [doS]
 rw [hS]
 obtain ⟨h1,e1,W1,tt1⟩:=jlP hcl (d:=d-1) om b0.W so.now.1 so.now.2 t0 t1
 have b1:=b0.wc (a' := { st with now:=jf1 st.now t }) W1 tt1
 have g1:=b0.off_w tt1 x0 z0 g0
 have hp1:=b1.hp
 obtain ⟨v,h2,e2,b2,f2,rfl⟩:=b1.rc hcl (d:=d-1) (f:=F.jbG) (args:=[.p rw 0,.int .u64 t]) (r' := { st with now:=jf1 st.now t }) (P:=fun _ v=>v = .tup []) (fun _ _ _ _ h=>h) (fun g q l ga gn hq wR hl=>by
  have oR:WsOk (l.map RX.x):=by rw [hl];exact so.K.ok
  obtain ⟨g',k1,k2,k4⟩:=rq_Pass hcl (d:=d-1) om wR so.now.1 so.now.2 t0 t1
  skip
  exact ⟨_,q,l,g',k1,k2,hl,k4,.inl rfl,rfl⟩)
 clear so hD hC hD0 hC0 hok hl300 hS
 refine ⟨h2,_,_,jaj (at_ hcl om rfl rfl rfl ?_),b2,Fm.two o0 tt1 f2⟩
 refine qm1 ?_
 exact ⟨by simp,rfl⟩
theorem mo_16 {d i:Nat} (hd:15<=d) (b:BB h p w s rw ow ro dat st st) (so:StOk st i) (hi:i<=200) (hD:Dat h dat dv D) (hC:Cpy h p ow ro dat vd D) :
  jcY cl d F.jag h p w s rw ow ro dat [.p p 0,.agg (opV 16 a n t dv),vd] (doS 16 a n t D st):=by
 have o0:Old h (h.new (.cells (opV 16 a n t dv) false)):=(Old.refl h).new
 have b0:=b.old o0
 have f0:=Fm.old (ow:=ow) (ro:=ro) o0
 have hD0:=hD.keep b f0
 have hC0:=hC.keep f0
 have hl300:=hD.len
 have g0:(h.new (.cells (opV 16 a n t dv) false)).get h.nx=some (.cells (opV 16 a n t dv) false):=jad _
 have x0:h.nx<(h.new (.cells (opV 16 a n t dv) false)).nx:=by simp
 have z0:ow h.nx=0:=b.W.top (zp _)
 have hp0:=b0.hp
 have lp:=b.lp
 have hok:st.tb.ok 1000000:=so.tb.mono om
 have hS:doS 16 a n t D st = { st with ws:=jap st.ws ((st.tb.handle a (decide (0<n))).sum 32) (noI st.no) (siI st.no),tb:=st.tb.handle a (decide (0<n)) } := by simp [doS]
 rw [hS]
 obtain ⟨h1,e1,W1,t1⟩:=ww_Handle hcl (d:=d-1) (sg:=a) (on:=decide (0<n)) om b0.W so.nt (jjk hok om _ _)
 have b1:=b0.wc (a' := { st with ws:=jap st.ws ((st.tb.handle a (decide (0<n))).sum 32) (noI st.no) (siI st.no),tb:=st.tb.handle a (decide (0<n)) }) W1 t1
 have g1:=b0.off_w t1 x0 z0 g0
 have hp1:=b1.hp
 obtain ⟨v,h2,e2,b2,f2,rfl⟩:=b1.rc hcl (d:=d-1) (f:=F.jaP) (args:=[.p rw 0,.i a,.bool (decide (0<n))]) (r' := { st with ws:=jap st.ws ((st.tb.handle a (decide (0<n))).sum 32) (noI st.no) (siI st.no),tb:=st.tb.handle a (decide (0<n)) }) (P:=fun _ v=>v = .i (if sig? a then 0 else 100)) (fun _ _ _ _ h=>h) (fun g q l ga gn hq wR hl=>by
  have oR:WsOk (l.map RX.x):=by rw [hl];exact so.K.ok
  obtain ⟨l',g',k1,k2,k3,k4⟩:=rq_Handle hcl (d:=d-1) (s:=a) (on:=decide (0<n)) om wR oR (by rw [hl];exact so.nt) hok
  rw [hl,<- jgI,<- jmL] at k3
  rw [<- jgI,<- handle_hd] at k2
  exact ⟨_,q,l',g',k1,k2,k3,k4,.inl rfl,rfl⟩)
 clear so hD hC hD0 hC0 hok hl300 hS
 refine ⟨h2,_,_,jaj (at_ hcl om rfl rfl rfl ?_),b2,Fm.two o0 t1 f2⟩
 refine qm1 ?_
 exact ⟨by simp,rfl⟩
theorem mo_17 {d i:Nat} (hd:15<=d) (b:BB h p w s rw ow ro dat st st) (so:StOk st i) (hi:i<=200) (hD:Dat h dat dv D) (hC:Cpy h p ow ro dat vd D) :
  jcY cl d F.jag h p w s rw ow ro dat [.p p 0,.agg (opV 17 a n t dv),vd] (doS 17 a n t D st):=by
 have o0:Old h (h.new (.cells (opV 17 a n t dv) false)):=(Old.refl h).new
 have b0:=b.old o0
 have f0:=Fm.old (ow:=ow) (ro:=ro) o0
 have hD0:=hD.keep b f0
 have hC0:=hC.keep f0
 have hl300:=hD.len
 have g0:(h.new (.cells (opV 17 a n t dv) false)).get h.nx=some (.cells (opV 17 a n t dv) false):=jad _
 have x0:h.nx<(h.new (.cells (opV 17 a n t dv) false)).nx:=by simp
 have z0:ow h.nx=0:=b.W.top (zp _)
 have hp0:=b0.hp
 have lp:=b.lp
 have hok:st.tb.ok 1000000:=so.tb.mono om
 have hS:doS 17 a n t D st = { st with ws:=jap st.ws ((st.tb.raise a).sum 32) (noI st.no) (siI st.no),tb:=st.tb.raise a } := by simp [doS]
 rw [hS]
 obtain ⟨h1,e1,W1,t1⟩:=ww_Raise hcl (d:=d-1) (sg:=a) om b0.W so.nt hok (Tb.ok.mono (jkz so.tb a) om)
 have b1:=b0.wc (a' := { st with ws:=jap st.ws ((st.tb.raise a).sum 32) (noI st.no) (siI st.no),tb:=st.tb.raise a }) W1 t1
 have g1:=b0.off_w t1 x0 z0 g0
 have hp1:=b1.hp
 obtain ⟨v,h2,e2,b2,f2,rfl⟩:=b1.rc hcl (d:=d-1) (f:=F.jaW) (args:=[.p rw 0,.i a]) (r' := { st with ws:=jap st.ws ((st.tb.raise a).sum 32) (noI st.no) (siI st.no),tb:=st.tb.raise a }) (P:=fun _ v=>v = .i (if sig? a then 0 else 100)) (fun _ _ _ _ h=>h) (fun g q l ga gn hq wR hl=>by
  have oR:WsOk (l.map RX.x):=by rw [hl];exact so.K.ok
  obtain ⟨l',g',k1,k2,k3,k4⟩:=rq_Raise hcl (d:=d-1) (s:=a) om wR oR (by rw [hl];exact so.nt) (so.tb.mono om)
  rw [hl,<- jid,<- jmL] at k3
  rw [<- jid,<- raise_hd st.tb a] at k2
  exact ⟨_,q,l',g',k1,k2,k3,k4,.inl rfl,rfl⟩)
 clear so hD hC hD0 hC0 hok hl300 hS
 refine ⟨h2,_,_,jaj (at_ hcl om rfl rfl rfl ?_),b2,Fm.two o0 t1 f2⟩
 refine qm1 ?_
 exact ⟨by simp,rfl⟩
theorem mo_19 {d i:Nat} (hd:15<=d) (b:BB h p w s rw ow ro dat st st) (so:StOk st i) (hi:i<=200) (hD:Dat h dat dv D) (hC:Cpy h p ow ro dat vd D) :
  jcY cl d F.jag h p w s rw ow ro dat [.p p 0,.agg (opV 19 a n t dv),vd] (doS 19 a n t D st):=by
 have o0:Old h (h.new (.cells (opV 19 a n t dv) false)):=(Old.refl h).new
 have b0:=b.old o0
 have f0:=Fm.old (ow:=ow) (ro:=ro) o0
 have hD0:=hD.keep b f0
 have hC0:=hC.keep f0
 have hl300:=hD.len
 have g0:(h.new (.cells (opV 19 a n t dv) false)).get h.nx=some (.cells (opV 19 a n t dv) false):=jad _
 have x0:h.nx<(h.new (.cells (opV 19 a n t dv) false)).nx:=by simp
 have z0:ow h.nx=0:=b.W.top (zp _)
 have hp0:=b0.hp
 have lp:=b.lp
 have hok:st.tb.ok 1000000:=so.tb.mono om
 have hS:doS 19 a n t D st = { st with ws:=ntW st.ws (st.tb.sum 32) a n,no:=noT st.ws a n st.no } := by simp [doS]
 rw [hS]
 obtain ⟨h1,e1,W1,t1⟩:=ww_Notice hcl (d:=d-1) (x:=a) (y:=n) om b0.W so.K.ok hok
 have b1:=b0.wc (a' := { st with ws:=ntW st.ws (st.tb.sum 32) a n,no:=noT st.ws a n st.no }) W1 t1
 have g1:=b0.off_w t1 x0 z0 g0
 have hp1:=b1.hp
 obtain ⟨v,h2,e2,b2,f2,rfl⟩:=b1.rc hcl (d:=d-1) (f:=F.jaB) (args:=[.p rw 0,.i a,.i n]) (r' := { st with ws:=ntW st.ws (st.tb.sum 32) a n,no:=noT st.ws a n st.no }) (P:=fun _ v=>v = .i (ntS st.ws a n).1) (fun _ _ _ _ h=>h) (fun g q l ga gn hq wR hl=>by
  have oR:WsOk (l.map RX.x):=by rw [hl];exact so.K.ok
  obtain ⟨l',g',k1,k2,k3,k4⟩:=jiE hcl (d:=d-1) (a:=a) (b:=n) om wR oR hok
  rw [hl] at k1
  rw [hl,<- jmL] at k3
  rw [hl,<- jnd,<- jnc] at k2
  exact ⟨_,q,l',g',k1,k2,k3,k4,.inl rfl,rfl⟩)
 clear so hD hC hD0 hC0 hok hl300 hS
 refine ⟨h2,_,_,jaj (at_ hcl om rfl rfl rfl ?_),b2,Fm.two o0 t1 f2⟩
 refine qm1 ?_
 exact ⟨by simp,rfl⟩
end
section
variable {call:Call} {fuel base:Nat} {K:List Fr} {e:Env} {h:H} {Q:Post} {ix:Nat} {dst:Option Nat} {ops:List Ins} {keep:List Nat}
theorem Ops.copyB {x y:Opd} {B:Nat} {v:V} {l:List UInt8} (hx:x.ev e=some (.slice (some (B,0)) 0 (.fix 0))) (hy:y.ev e=some v) (hv:VB h v l) (hl:l.length<=1000000)
  (k : ∀ a c h',VB h' (.slice (some (a,0)) l.length c) l->(l≠[]->h'.get a=some (.cells (bts l) false))->Old h h'->(a=B\/(h.nx<=a/\a<h'.nx))->Ops call fuel base ops keep K (layv e dst (.slice (some (a,0)) l.length c)) h' Q) :
  Ops call fuel base (⟨ix,dst,.append 1 1 x y,none,none,[]⟩ :: ops) keep K e h Q:=by
 obtain ⟨a,cp,rfl,n,f,g⟩:=hv
 by_cases hn:l=[]
 ·subst hn
  have hsrc:ja3 h 1 0 (.slice a 0 cp)=some []:=by cases a<;>rfl
  refine Ops.step (v := .slice (some (B,0)) 0 (.fix 0)) (h':=h) (I.run_eff rfl ?_) (k B (.fix 0) h ⟨some (B,0),.fix 0,rfl,fun e=>(by cases e),zp _,fun e=>absurd rfl e⟩ (fun e=>absurd rfl e) (Old.refl _) (.inl rfl))
  simp only [I.eff,hx,hy,jbk,lenOf,List.length_nil,hsrc]
  rfl
 ·obtain ⟨b,o,cs,ro,rfl,h1,h2,h3⟩:=g hn
  have hpos:0<l.length:=List.length_pos_iff.2 hn
  obtain ⟨p1,p2⟩:=jd0 (k:=0) (m:=l.length) h3 om hpos
  rw [zj,zg (zp _)] at p2
  have hload:h.load b o (l.length*1)=some (bts l):=by
   unfold H.load
   rw [h2]
   simp only
   rw [Nat.mul_one,show Nat.ble (o+l.length) cs.length=true by rw [Nat.ble_eq];omega]
   simp only [cond_true]
   rw [<- p2,Nat.add_zero]
  have hsrc:ja3 h 1 l.length (.slice (some (b,o)) l.length cp)=some (bts l):=by
   unfold ja3
   simp only
   rw [hload,show (l.length*1 == 0)=false by simp;omega]
   rfl
  have ho:Old h (h.new (.cells (bts l) false)):=⟨by simp,fun j hj=>jac hj⟩
  refine Ops.step (v := .slice (some (h.nx,0)) l.length (.grow 1)) (h':=h.new (.cells (bts l) false)) (I.run_eff rfl ?_) (k h.nx (.grow 1) _ ⟨some (h.nx,0),.grow 1,rfl,fun e=>(by cases e),by simp [Cap.fits],fun _=>⟨h.nx,0,bts l,false,rfl,by simp,jad _,fun i x hi=>by rw [Nat.zero_add];exact jiz hi⟩⟩ (fun _=>jad _) ho (.inr ⟨zp _,by simp⟩))
  simp only [I.eff,hx,hy,jbk,lenOf,hsrc]
  have c1:(Nat.ble ((0+l.length)*1) (2 ^ 46)&&Nat.ble (0+l.length) (2 ^ 46))=true:=by simp only [zn,Nat.ble_eq];omega
  have c2:(l.length == 0)=false:=by simp;exact hn
  have c3:Nat.ble (0+l.length) 0=false:=by
   cases hb:Nat.ble (0+l.length) 0 with
   | false=>rfl
   | true=>rw [Nat.ble_eq] at hb;omega
  rw [c1,c2,c3]
  simp only [cond_true,cond_false,Nat.zero_mul,beq_self_eq_true,List.nil_append,Nat.zero_add]
  rfl
end
section
variable {cl:Nat->Call} (hcl:Sem cl)
include hcl
theorem jmO {d:Nat} {h:H} {f n:Int} {v:V} (hd:1<=d) (hf:f≠0):cl d (.fn F.ja1) [.i 0,.i 0,.i f,v,.i n,.i f] h=some (.bool true,h):=by
 refine jaj (at_ hcl hd rfl rfl rfl ?_)
 refine qx1 ?_
 exact ⟨rfl,rfl⟩
theorem jnf {d:Nat} {h:H} {x y n:Int} {v:V} (hd:1<=d) (hv:VI h v [x,y]):cl d (.fn F.ja1) [.i x,.i y,.i 0,v,.i n,.i 0] h=some (.bool true,h):=by
 obtain ⟨a,c,rfl,_⟩:=id hv
 obtain ⟨b,o,cs,ro,rfl,hcs,h0⟩:=VI.cell (l:=[x,y]) hv (i:=0) (x:=x) rfl
 obtain ⟨b',o',cs',ro',e,hcs',h1⟩:=VI.cell (l:=[x,y]) hv (i:=1) (x:=y) rfl
 cases e
 rw [hcs] at hcs';cases hcs'
 have h0:cs[o+(0:Int).toNat*1]?=some (.i x):=h0
 have h1:cs[o+(1:Int).toNat*1]?=some (.i y):=h1
 refine jaj (at_ hcl hd rfl rfl rfl ?_)
 refine qx1 ?_
 exact ⟨by simp,rfl⟩
theorem jng {d:Nat} {h:H} {x n:Int} {v:V} (hd:1<=d) (hv:VI h v [x]):cl d (.fn F.ja1) [.i x,.i n,.i 0,v,.i n,.i 0] h=some (.bool true,h):=by
 obtain ⟨a,c,rfl,_⟩:=id hv
 obtain ⟨b,o,cs,ro,rfl,hcs,h0⟩:=VI.cell (l:=[x]) hv (i:=0) (x:=x) rfl
 have h0:cs[o+(0:Int).toNat*1]?=some (.i x):=h0
 refine jaj (at_ hcl hd rfl rfl rfl ?_)
 refine qx1 ?_
 exact ⟨by simp,rfl⟩
end
def PD (h:H) (p w s rw:Nat) (ow:Nat->Nat) (ro dat:Nat->Prop) (vd:V) (st':St):Post:=fun y e g=>y = .normal/\e=[(5,vd),(6,.bool true)] /\ ∃ ow' ro',BB g p w s rw ow' ro' dat st' st'/\Fm h g ow ro ow' ro'
theorem PD.mk {call:Call} {fuel:Nat} {h g:H} {p w s rw:Nat} {ow ow':Nat->Nat} {ro ro' dat:Nat->Prop} {vd:V} {st':St} (b:BB g p w s rw ow' ro' dat st' st') (f:Fm h g ow ro ow' ro'):End call fuel [] .normal [(5,vd),(6,.bool true)] g (PD h p w s rw ow ro dat vd st') :=
 End.nil ⟨rfl,rfl,ow',ro',b,f⟩
theorem PD.mk' {call:Call} {fuel:Nat} {h g:H} {p w s rw:Nat} {ow ow':Nat->Nat} {ro ro' dat:Nat->Prop} {vd x:V} {st':St} (hx:x = .bool true) (b:BB g p w s rw ow' ro' dat st' st') (f:Fm h g ow ro ow' ro'):End call fuel [] .normal [(5,vd),(6,x)] g (PD h p w s rw ow ro dat vd st'):=by
 subst hx;exact PD.mk b f
theorem BB.rhead {h:H} {p w s rw:Nat} {ow:Nat->Nat} {ro dat:Nat->Prop} {a r:St} (b:BB h p w s rw ow ro dat a r) : ∃ x c,h.get rw=some (.cells (.slice x r.ws.length c :: r.tl) false):=by
 obtain ⟨l,R,e⟩:=b.R
 obtain ⟨q,_,k⟩:=R.ex
 obtain ⟨x,c,hw,_⟩:=(k h rfl fun _ _ _=>rfl).head
 refine ⟨x,c,?_⟩
 rw [hw,<- e,List.length_map]
section
variable {cl:Nat->Call} (hcl:Sem cl) {h:H} {p w s rw:Nat} {ow:Nat->Nat} {ro dat:Nat->Prop} {st:St} {a n t:Int} {dv vd:V} {D:List UInt8}
include hcl
theorem sw_4 {d i B:Nat} (hd:16<=d) (b:BB h p w s rw ow ro dat st st) (so:StOk st i) (hi:i<=200) (hD:Dat h dat dv D) (hC:Cpy h p ow ro dat vd D) (lB:B<h.nx) (zB:ow B=0) (rB : ¬ ro B) (gB:h.get B=some (.cells (opV 4 a n t dv) false)) :
  Run (cl (d-1)) fuel c9_27 [] [(0,.p p 0),(3,.p B 0),(5,vd),(36,.i 4)] h (PD h p w s rw ow ro dat vd (doS 4 a n t D st)):=by
 have hp0:=b.hp
 have lp:=b.lp
 have hl300:=hD.len
 have hS:doS 4 a n t D st = { st with ws:=(jax st.ws a).2 } := by simp [doS]
 rw [hS]
 obtain ⟨h1,e1,W1,t1⟩:=ww_Accept hcl (d:=d-1) (fd:=a) om so.K b.W
 have b1:=b.wc (a' := { st with ws:=(jax st.ws a).2 }) W1 t1
 have g1:=b.off_w t1 lB zB gB
 have hp1:=b1.hp
 obtain ⟨v,h2,e2,b2,f2,rfl⟩:=b1.rc hcl (d:=d-1) (f:=F.jaQ) (args:=[.p rw 0,.i a]) (r' := { st with ws:=(jax st.ws a).2 }) (P:=fun _ v=>v = .tup [.i (jax st.ws a).1.1,.i (jax st.ws a).1.2.1,.i (jax st.ws a).1.2.2]) (fun _ _ _ _ h=>h) (fun g q l ga gn hq wR hl=>by
  have oR:WsOk (l.map RX.x):=by rw [hl];exact so.K.ok
  obtain ⟨l',g',k1,k2,k3,k4⟩:=rq_Accept hcl (d:=d-1) (fd:=a) om wR oR
  rw [hl] at k1 k3
  exact ⟨_,q,l',g',k1,k2,k3,k4,.inl rfl,rfl⟩)
 have fF:=(Fm.to (ro:=ro) t1).trans f2
 clear so hD hC hl300 hS
 refine qm1 ?_
 exact PD.mk' Zd b2 fF
theorem sw_6 {d i B:Nat} (hd:16<=d) (b:BB h p w s rw ow ro dat st st) (so:StOk st i) (hi:i<=200) (hD:Dat h dat dv D) (hC:Cpy h p ow ro dat vd D) (lB:B<h.nx) (zB:ow B=0) (rB : ¬ ro B) (gB:h.get B=some (.cells (opV 6 a n t dv) false)) :
  Run (cl (d-1)) fuel c9_27 [] [(0,.p p 0),(3,.p B 0),(5,vd),(36,.i 6)] h (PD h p w s rw ow ro dat vd (doS 6 a n t D st)):=by
 have hp0:=b.hp
 have lp:=b.lp
 have hl300:=hD.len
 have hS:doS 6 a n t D st = { st with ws:=(jb5 st.ws a D).2 } := by simp [doS]
 rw [hS]
 obtain ⟨h1,e1,W1,t1⟩:=ww_Write hcl (d:=d-1) (fd:=a) om b.W so.K.ok hC.v om (fun z hz=>(hC.z z hz).2.1)
 have b1:=b.wc (a' := { st with ws:=(jb5 st.ws a D).2 }) W1 t1
 have g1:=b.off_w t1 lB zB gB
 have hp1:=b1.hp
 obtain ⟨v,h2,e2,b2,f2,rfl⟩:=b1.rc hcl (d:=d-1) (f:=F.jaU) (args:=[.p rw 0,.i a,dv]) (r' := { st with ws:=(jb5 st.ws a D).2 }) (P:=fun _ v=>v = .tup [.i (jb5 st.ws a D).1.1,.i (jb5 st.ws a D).1.2]) (fun _ _ _ _ h=>h) (fun g q l ga gn hq wR hl=>by
  have oR:WsOk (l.map RX.x):=by rw [hl];exact so.K.ok
  obtain ⟨q1,q2⟩:=(hD.keep b (Fm.to t1)).in_ b1 ga gn hq
  obtain ⟨l',g',k1,k2,k3,k4⟩:=rq_Write hcl (d:=d-1) (fd:=a) om wR oR q1 om q2
  rw [hl] at k1 k3
  exact ⟨_,q,l',g',k1,k2,k3,k4,.inl rfl,rfl⟩)
 have fF:=(Fm.to (ro:=ro) t1).trans f2
 clear so hD hC hl300 hS
 refine qm1 ?_
 exact PD.mk' Zd b2 fF
theorem sw_7 {d i B:Nat} (hd:16<=d) (b:BB h p w s rw ow ro dat st st) (so:StOk st i) (hi:i<=200) (hD:Dat h dat dv D) (hC:Cpy h p ow ro dat vd D) (lB:B<h.nx) (zB:ow B=0) (rB : ¬ ro B) (gB:h.get B=some (.cells (opV 7 a n t dv) false)) :
  Run (cl (d-1)) fuel c9_27 [] [(0,.p p 0),(3,.p B 0),(5,vd),(36,.i 7)] h (PD h p w s rw ow ro dat vd (doS 7 a n t D st)):=by
 have hp0:=b.hp
 have lp:=b.lp
 have hl300:=hD.len
 have hS:doS 7 a n t D st = { st with ws:=(jdo st.ws a).2 } := by simp [doS]
 rw [hS]
 obtain ⟨h1,e1,W1,t1⟩:=ww_Shut hcl (d:=d-1) (fd:=a) om b.W so.K.ok
 have b1:=b.wc (a' := { st with ws:=(jdo st.ws a).2 }) W1 t1
 have g1:=b.off_w t1 lB zB gB
 have hp1:=b1.hp
 obtain ⟨v,h2,e2,b2,f2,rfl⟩:=b1.rc hcl (d:=d-1) (f:=F.jbh) (args:=[.p rw 0,.i a]) (r' := { st with ws:=(jdo st.ws a).2 }) (P:=fun _ v=>v = .i (jdo st.ws a).1) (fun _ _ _ _ h=>h) (fun g q l ga gn hq wR hl=>by
  have oR:WsOk (l.map RX.x):=by rw [hl];exact so.K.ok
  obtain ⟨l',g',k1,k2,k3,k4⟩:=rq_Shut hcl (d:=d-1) (fd:=a) om wR oR
  rw [hl] at k1 k3
  exact ⟨_,q,l',g',k1,k2,k3,k4,.inl rfl,rfl⟩)
 have fF:=(Fm.to (ro:=ro) t1).trans f2
 clear so hD hC hl300 hS
 refine qm1 ?_
 exact PD.mk' Zd b2 fF
theorem sw_8 {d i B:Nat} (hd:16<=d) (b:BB h p w s rw ow ro dat st st) (so:StOk st i) (hi:i<=200) (hD:Dat h dat dv D) (hC:Cpy h p ow ro dat vd D) (lB:B<h.nx) (zB:ow B=0) (rB : ¬ ro B) (gB:h.get B=some (.cells (opV 8 a n t dv) false)) :
  Run (cl (d-1)) fuel c9_27 [] [(0,.p p 0),(3,.p B 0),(5,vd),(36,.i 8)] h (PD h p w s rw ow ro dat vd (doS 8 a n t D st)):=by
 have hp0:=b.hp
 have lp:=b.lp
 have hl300:=hD.len
 have hS:doS 8 a n t D st = { st with ws:=(jbY st.ws a).2 } := by simp [doS]
 rw [hS]
 obtain ⟨h1,e1,W1,t1⟩:=ww_Close hcl (d:=d-1) (fd:=a) om b.W so.K.ok
 have b1:=b.wc (a' := { st with ws:=(jbY st.ws a).2 }) W1 t1
 have g1:=b.off_w t1 lB zB gB
 have hp1:=b1.hp
 obtain ⟨v,h2,e2,b2,f2,rfl⟩:=b1.rc hcl (d:=d-1) (f:=F.jaX) (args:=[.p rw 0,.i a]) (r' := { st with ws:=(jbY st.ws a).2 }) (P:=fun _ v=>v = .i (jbY st.ws a).1) (fun _ _ _ _ h=>h) (fun g q l ga gn hq wR hl=>by
  have oR:WsOk (l.map RX.x):=by rw [hl];exact so.K.ok
  obtain ⟨l',g',k1,k2,k3,k4⟩:=rq_Close hcl (d:=d-1) (fd:=a) om wR oR
  rw [hl] at k1 k3
  exact ⟨_,q,l',g',k1,k2,k3,k4,.inl rfl,rfl⟩)
 have fF:=(Fm.to (ro:=ro) t1).trans f2
 clear so hD hC hl300 hS
 refine qm1 ?_
 exact PD.mk' Zd b2 fF
theorem sw_5 {d i B:Nat} (hd:16<=d) (b:BB h p w s rw ow ro dat st st) (so:StOk st i) (hi:i<=200) (hD:Dat h dat dv D) (hC:Cpy h p ow ro dat vd D) (lB:B<h.nx) (zB:ow B=0) (rB : ¬ ro B) (gB:h.get B=some (.cells (opV 5 a n t dv) false)) :
  Run (cl (d-1)) fuel c9_27 [] [(0,.p p 0),(3,.p B 0),(5,vd),(36,.i 5)] h (PD h p w s rw ow ro dat vd (doS 5 a n t D st)):=by
 have hp0:=b.hp
 have lp:=b.lp
 have hl300:=hD.len
 have hS:doS 5 a n t D st = { st with ws:=(jbV st.ws a n).2 } := by simp [doS]
 rw [hS]
 obtain ⟨v1,h1,e1,vb1,vz1,W1,t1⟩:=ww_Read hcl (d:=d-1) (fd:=a) (many:=n) om b.W so.K.ok
 have b1:=b.wc (a' := { st with ws:=(jbV st.ws a n).2 }) W1 t1
 have g1:=b.off_w t1 lB zB gB
 have hp1:=b1.hp
 obtain ⟨v,h2,e2,b2,f2,hP⟩:=b1.rc hcl (d:=d-1) (f:=F.jbi) (args:=[.p rw 0,.i a,.i n]) (r' := { st with ws:=(jbV st.ws a n).2 })
  (P:=fun g v=>∃ v2,v = .tup [v2,.bool (jbV st.ws a n).1.2.1,.i (jbV st.ws a n).1.2.2]/\VB g v2 (jbV st.ws a n).1.1) (fun _ _ _ m ⟨v2,e,hv⟩=>⟨v2,e,hv.mono m⟩) (fun g q l ga gn hq wR hl=>by
  have oR:WsOk (l.map RX.x):=by rw [hl];exact so.K.ok
  obtain ⟨v2,l',g',k1,k0,k2,k3,k4⟩:=rq_Read hcl (d:=d-1) (fd:=a) (many:=n) om wR oR
  rw [hl] at k0 k1 k3
  exact ⟨_,q,l',g',k1,k2,k3,k4,.inl rfl,v2,rfl,k0⟩)
 have vb2:VB h2 v1 (jbV st.ws a n).1.1:=vb1.keep2 f2.ch.nx fun hl z hz=>f2.ch.get z (vb1.lt hl hz) fun e=>e.elim (fun e=>e (b.W.top (vz1 z hz))) fun e=>by
  have:=b.ro_lt (.inl e)
  have:=vz1 z hz
  omega
 obtain ⟨a1,c1,rfl,B1⟩:=vb2
 obtain ⟨v2,rfl,a2,c2,rfl,B2⟩:=hP
 have fF:=(Fm.to (ro:=ro) t1).trans f2
 generalize (jbV st.ws a n).1.2.1=bb at e1 e2
 clear so hD hC hl300 hS
 cases bb
 ·refine qm1 ?_
  refine Ops.ofBytesAt rfl B1 (zp _) ?_
  refine qm1 ?_
  refine Ops.ofBytesAt rfl B2 (zp _) ?_
  repeat' (first|refine qmy ?_|refine zbf rfl (fun _=>?_) fun _=>?_|refine zbg rfl (fun _=>?_) fun _=>?_|refine zbh rfl (fun _=>?_) fun _=>?_|refine zbm rfl (fun _=>?_) fun _=>?_|refine zbn rfl (fun _=>?_) fun _=>?_)
  ·exact PD.mk' Zd b2 fF
  ·rename_i hx
   simp at hx
 ·refine qm1 ?_
  refine Ops.ofBytesAt rfl B1 (zp _) ?_
  refine qm1 ?_
  refine Ops.ofBytesAt rfl B2 (zp _) ?_
  repeat' (first|refine qmy ?_|refine zbf rfl (fun _=>?_) fun _=>?_|refine zbg rfl (fun _=>?_) fun _=>?_|refine zbh rfl (fun _=>?_) fun _=>?_|refine zbm rfl (fun _=>?_) fun _=>?_|refine zbn rfl (fun _=>?_) fun _=>?_)
  ·exact PD.mk' Zd b2 fF
  ·rename_i hx
   simp at hx
end
section
variable {cl:Nat->Call} (hcl:Sem cl) {h:H} {p w s rw:Nat} {ow:Nat->Nat} {ro dat:Nat->Prop} {st:St} {a n t:Int} {dv vd:V} {D:List UInt8}
include hcl
theorem sw_0 {d i B:Nat} (hd:16<=d) (b:BB h p w s rw ow ro dat st st) (so:StOk st i) (hi:i<=200) (hD:Dat h dat dv D) (hC:Cpy h p ow ro dat vd D) (lB:B<h.nx) (zB:ow B=0) (rB : ¬ ro B) (gB:h.get B=some (.cells (opV 0 a n t dv) false)) :
  Run (cl (d-1)) fuel c9_27 [] [(0,.p p 0),(3,.p B 0),(5,vd),(36,.i 0)] h (PD h p w s rw ow ro dat vd (doS 0 a n t D st)):=by
 have hp0:=b.hp
 have lp:=b.lp
 have hl300:=hD.len
 have hS:doS 0 a n t D st = { st with ws:=(jah st.ws 0 n).2 } := by simp [doS]
 rw [hS]
 obtain ⟨x,y,h1,ow1,e1,good,bad,W1,t1⟩:=ww_Pipe hcl (d:=d-1) (n:=n) om so.K b.W
 have b1:=b.wc (a' := { st with ws:=(jah st.ws 0 n).2 }) W1 t1
 have g1:=b.off_w t1 lB zB gB
 have hp1:=b1.hp
 obtain ⟨v,h2,e2,b2,f2,v2,rfl,hv2⟩:=b1.rc hcl (d:=d-1) (f:=F.jav) (args:=[.p rw 0,.i 0,.i n]) (r' := { st with ws:=(jah st.ws 0 n).2 })
  (P:=fun g v=>∃ v2,v = .tup [v2,.i (jah st.ws 0 n).1.2]/\VI g v2 (jah st.ws 0 n).1.1) (fun _ _ _ m ⟨v2,e,hv⟩=>⟨v2,e,hv.mono m⟩) (fun g q l ga gn hq wR hl=>by
  have oR:WsOk (l.map RX.x):=by rw [hl];exact so.K.ok
  obtain ⟨v2,q',l',g',k1,k0,k2,k3,k4,k5⟩:=jhX hcl (d:=d-1) (kind:=0) (n:=n) om om wR oR
  rw [hl] at k0 k1 k3
  exact ⟨_,q',l',g',k1,k2,k3,k4,k5,v2,rfl,k0⟩)
 have fF:=(Fm.to (ro:=ro) t1).trans f2
 have hp2:=b2.hp
 obtain ⟨xs,cs,hr2⟩:=b2.rhead
 have wl:({ st with ws:=(jah st.ws 0 n).2 } : St).ws.length=(jah st.ws 0 n).2.length:=rfl
 rw [wl] at hr2
 have q0:(V.slice xs (jah st.ws 0 n).2.length cs :: ({ st with ws:=(jah st.ws 0 n).2 } : St).tl)[0+0]?=some (V.slice xs (jah st.ws 0 n).2.length cs):=rfl
 have o2v:=hv2.one
 have e3:cl (d-1) (.fn F.ja1) [.i x,.i y,.i (jah st.ws 0 n).1.2,v2,.i ((jah st.ws 0 n).2.length-1),.i (jah st.ws 0 n).1.2] h2=some (.bool true,h2):=by
  by_cases hz:(jah st.ws 0 n).1.2=0
  ·have gd:=good hz
   rw [gd] at hv2
   rw [hz]
   exact jnf hcl om hv2
  ·obtain ⟨rfl,rfl⟩:=bad hz
   exact jmO hcl om hz
 have hlen:(jah st.ws 0 n).2.length<=1000:=(jdv om so.K).ok.len
 clear so hD hC hl300 hS good bad
 generalize (jah st.ws 0 n).1.2=er at e1 e2 e3
 refine qm1 ?_
 exact PD.mk' rfl b2 fF
theorem sw_1 {d i B:Nat} (hd:16<=d) (b:BB h p w s rw ow ro dat st st) (so:StOk st i) (hi:i<=200) (hD:Dat h dat dv D) (hC:Cpy h p ow ro dat vd D) (lB:B<h.nx) (zB:ow B=0) (rB : ¬ ro B) (gB:h.get B=some (.cells (opV 1 a n t dv) false)) :
  Run (cl (d-1)) fuel c9_27 [] [(0,.p p 0),(3,.p B 0),(5,vd),(36,.i 1)] h (PD h p w s rw ow ro dat vd (doS 1 a n t D st)):=by
 have hp0:=b.hp
 have lp:=b.lp
 have hl300:=hD.len
 have hS:doS 1 a n t D st = { st with ws:=(jah st.ws 1 n).2 } := by simp [doS]
 rw [hS]
 obtain ⟨x,y,h1,ow1,e1,good,bad,W1,t1⟩:=ww_Pair hcl (d:=d-1) (n:=n) om so.K b.W
 have b1:=b.wc (a' := { st with ws:=(jah st.ws 1 n).2 }) W1 t1
 have g1:=b.off_w t1 lB zB gB
 have hp1:=b1.hp
 obtain ⟨v,h2,e2,b2,f2,v2,rfl,hv2⟩:=b1.rc hcl (d:=d-1) (f:=F.jav) (args:=[.p rw 0,.i 1,.i n]) (r' := { st with ws:=(jah st.ws 1 n).2 })
  (P:=fun g v=>∃ v2,v = .tup [v2,.i (jah st.ws 1 n).1.2]/\VI g v2 (jah st.ws 1 n).1.1) (fun _ _ _ m ⟨v2,e,hv⟩=>⟨v2,e,hv.mono m⟩) (fun g q l ga gn hq wR hl=>by
  have oR:WsOk (l.map RX.x):=by rw [hl];exact so.K.ok
  obtain ⟨v2,q',l',g',k1,k0,k2,k3,k4,k5⟩:=jhX hcl (d:=d-1) (kind:=1) (n:=n) om om wR oR
  rw [hl] at k0 k1 k3
  exact ⟨_,q',l',g',k1,k2,k3,k4,k5,v2,rfl,k0⟩)
 have fF:=(Fm.to (ro:=ro) t1).trans f2
 have hp2:=b2.hp
 obtain ⟨xs,cs,hr2⟩:=b2.rhead
 have wl:({ st with ws:=(jah st.ws 1 n).2 } : St).ws.length=(jah st.ws 1 n).2.length:=rfl
 rw [wl] at hr2
 have q0:(V.slice xs (jah st.ws 1 n).2.length cs :: ({ st with ws:=(jah st.ws 1 n).2 } : St).tl)[0+0]?=some (V.slice xs (jah st.ws 1 n).2.length cs):=rfl
 have o2v:=hv2.one
 have e3:cl (d-1) (.fn F.ja1) [.i x,.i y,.i (jah st.ws 1 n).1.2,v2,.i ((jah st.ws 1 n).2.length-1),.i (jah st.ws 1 n).1.2] h2=some (.bool true,h2):=by
  by_cases hz:(jah st.ws 1 n).1.2=0
  ·have gd:=good hz
   rw [gd] at hv2
   rw [hz]
   exact jnf hcl om hv2
  ·obtain ⟨rfl,rfl⟩:=bad hz
   exact jmO hcl om hz
 have hlen:(jah st.ws 1 n).2.length<=1000:=(jdv om so.K).ok.len
 clear so hD hC hl300 hS good bad
 generalize (jah st.ws 1 n).1.2=er at e1 e2 e3
 refine qm1 ?_
 exact PD.mk' rfl b2 fF
end
section
variable {cl:Nat->Call} (hcl:Sem cl) {h:H} {p w s rw:Nat} {ow:Nat->Nat} {ro dat:Nat->Prop} {st:St} {a n t:Int} {dv vd:V} {D:List UInt8}
include hcl
theorem sw_2 {d i B:Nat} (hd:16<=d) (b:BB h p w s rw ow ro dat st st) (so:StOk st i) (hi:i<=200) (hD:Dat h dat dv D) (hC:Cpy h p ow ro dat vd D) (lB:B<h.nx) (zB:ow B=0) (rB : ¬ ro B) (gB:h.get B=some (.cells (opV 2 a n t dv) false)) :
  Run (cl (d-1)) fuel c9_27 [] [(0,.p p 0),(3,.p B 0),(5,vd),(36,.i 2)] h (PD h p w s rw ow ro dat vd (doS 2 a n t D st)):=by
 have hp0:=b.hp
 have lp:=b.lp
 have hl300:=hD.len
 have hS:doS 2 a n t D st = { st with ws:=(jah st.ws 2 n).2 } := by simp [doS]
 rw [hS]
 obtain ⟨x,y,h1,ow1,e1,good,bad,W1,t1⟩:=ww_Outer hcl (d:=d-1) (n:=n) om so.K b.W
 have b1:=b.wc (a' := { st with ws:=(jah st.ws 2 n).2 }) W1 t1
 have g1:=b.off_w t1 lB zB gB
 have hp1:=b1.hp
 obtain ⟨v,h2,e2,b2,f2,v2,rfl,hv2⟩:=b1.rc hcl (d:=d-1) (f:=F.jav) (args:=[.p rw 0,.i 2,.i n]) (r' := { st with ws:=(jah st.ws 2 n).2 })
  (P:=fun g v=>∃ v2,v = .tup [v2,.i (jah st.ws 2 n).1.2]/\VI g v2 (jah st.ws 2 n).1.1) (fun _ _ _ m ⟨v2,e,hv⟩=>⟨v2,e,hv.mono m⟩) (fun g q l ga gn hq wR hl=>by
  have oR:WsOk (l.map RX.x):=by rw [hl];exact so.K.ok
  obtain ⟨v2,q',l',g',k1,k0,k2,k3,k4,k5⟩:=jhX hcl (d:=d-1) (kind:=2) (n:=n) om om wR oR
  rw [hl] at k0 k1 k3
  exact ⟨_,q',l',g',k1,k2,k3,k4,k5,v2,rfl,k0⟩)
 have fF:=(Fm.to (ro:=ro) t1).trans f2
 have hp2:=b2.hp
 obtain ⟨xs,cs,hr2⟩:=b2.rhead
 have wl:({ st with ws:=(jah st.ws 2 n).2 } : St).ws.length=(jah st.ws 2 n).2.length:=rfl
 rw [wl] at hr2
 have q0:(V.slice xs (jah st.ws 2 n).2.length cs :: ({ st with ws:=(jah st.ws 2 n).2 } : St).tl)[0+0]?=some (V.slice xs (jah st.ws 2 n).2.length cs):=rfl
 have o2v:=hv2.one
 have e3:cl (d-1) (.fn F.ja1) [.i x,.i y,.i (jah st.ws 2 n).1.2,v2,.i ((jah st.ws 2 n).2.length-1),.i (jah st.ws 2 n).1.2] h2=some (.bool true,h2):=by
  by_cases hz:(jah st.ws 2 n).1.2=0
  ·obtain ⟨gd,gl⟩:=good hz
   have hm:((jah st.ws 2 n).2.length:Int)-1=(st.ws.length:Int):=by
    rcases jen (ws:=st.ws) (n:=n) (kind:=2) om with ⟨_,_,m3⟩ | ⟨m1,_⟩
    ·omega
    ·exact absurd hz m1
   rw [gd] at hv2
   rw [hz,hm,gl]
   exact jng hcl om hv2
  ·obtain ⟨rfl,rfl⟩:=bad hz
   exact jmO hcl om hz
 have hlen:(jah st.ws 2 n).2.length<=1000:=(jdv om so.K).ok.len
 clear so hD hC hl300 hS good bad
 generalize (jah st.ws 2 n).1.2=er at e1 e2 e3
 refine qm1 ?_
 exact PD.mk' rfl b2 fF
theorem sw_3 {d i B:Nat} (hd:16<=d) (b:BB h p w s rw ow ro dat st st) (so:StOk st i) (hi:i<=200) (hD:Dat h dat dv D) (hC:Cpy h p ow ro dat vd D) (lB:B<h.nx) (zB:ow B=0) (rB : ¬ ro B) (gB:h.get B=some (.cells (opV 3 a n t dv) false)) :
  Run (cl (d-1)) fuel c9_27 [] [(0,.p p 0),(3,.p B 0),(5,vd),(36,.i 3)] h (PD h p w s rw ow ro dat vd (doS 3 a n t D st)):=by
 have hp0:=b.hp
 have lp:=b.lp
 have hl300:=hD.len
 have hS:doS 3 a n t D st = { st with ws:=(jah st.ws 3 n).2 } := by simp [doS]
 rw [hS]
 obtain ⟨x,y,h1,ow1,e1,good,bad,W1,t1⟩:=ww_Listen hcl (d:=d-1) (n:=n) om so.K b.W
 have b1:=b.wc (a' := { st with ws:=(jah st.ws 3 n).2 }) W1 t1
 have g1:=b.off_w t1 lB zB gB
 have hp1:=b1.hp
 obtain ⟨v,h2,e2,b2,f2,v2,rfl,hv2⟩:=b1.rc hcl (d:=d-1) (f:=F.jav) (args:=[.p rw 0,.i 3,.i n]) (r' := { st with ws:=(jah st.ws 3 n).2 })
  (P:=fun g v=>∃ v2,v = .tup [v2,.i (jah st.ws 3 n).1.2]/\VI g v2 (jah st.ws 3 n).1.1) (fun _ _ _ m ⟨v2,e,hv⟩=>⟨v2,e,hv.mono m⟩) (fun g q l ga gn hq wR hl=>by
  have oR:WsOk (l.map RX.x):=by rw [hl];exact so.K.ok
  obtain ⟨v2,q',l',g',k1,k0,k2,k3,k4,k5⟩:=jhX hcl (d:=d-1) (kind:=3) (n:=n) om om wR oR
  rw [hl] at k0 k1 k3
  exact ⟨_,q',l',g',k1,k2,k3,k4,k5,v2,rfl,k0⟩)
 have fF:=(Fm.to (ro:=ro) t1).trans f2
 have hp2:=b2.hp
 obtain ⟨xs,cs,hr2⟩:=b2.rhead
 have wl:({ st with ws:=(jah st.ws 3 n).2 } : St).ws.length=(jah st.ws 3 n).2.length:=rfl
 rw [wl] at hr2
 have q0:(V.slice xs (jah st.ws 3 n).2.length cs :: ({ st with ws:=(jah st.ws 3 n).2 } : St).tl)[0+0]?=some (V.slice xs (jah st.ws 3 n).2.length cs):=rfl
 have o2v:=hv2.one
 have e3:cl (d-1) (.fn F.ja1) [.i x,.i y,.i (jah st.ws 3 n).1.2,v2,.i ((jah st.ws 3 n).2.length-1),.i (jah st.ws 3 n).1.2] h2=some (.bool true,h2):=by
  by_cases hz:(jah st.ws 3 n).1.2=0
  ·obtain ⟨gd,gl⟩:=good hz
   have hm:((jah st.ws 3 n).2.length:Int)-1=(st.ws.length:Int):=by
    rcases jen (ws:=st.ws) (n:=n) (kind:=3) om with ⟨_,_,m3⟩ | ⟨m1,_⟩
    ·omega
    ·exact absurd hz m1
   rw [gd] at hv2
   rw [hz,hm,gl]
   exact jng hcl om hv2
  ·obtain ⟨rfl,rfl⟩:=bad hz
   exact jmO hcl om hz
 have hlen:(jah st.ws 3 n).2.length<=1000:=(jdv om so.K).ok.len
 clear so hD hC hl300 hS good bad
 generalize (jah st.ws 3 n).1.2=er at e1 e2 e3
 refine qm1 ?_
 exact PD.mk' rfl b2 fF
end
section
variable {cl:Nat->Call} (hcl:Sem cl) {h:H} {p w s rw:Nat} {ow:Nat->Nat} {ro dat:Nat->Prop} {st:St} {k a n t:Int} {dv vd:V} {D:List UInt8}
include hcl
theorem sw_more {d B:Nat} {st':St} (hk:k<0\/8<k) (gB:h.get B=some (.cells (opV k a n t dv) false)) (m:jcY cl (d-1) F.jag h p w s rw ow ro dat [.p p 0,.agg (opV k a n t dv),vd] st') :
  Run (cl (d-1)) fuel c9_27 [] [(0,.p p 0),(3,.p B 0),(5,vd),(36,.i k)] h (PD h p w s rw ow ro dat vd st'):=by
 obtain ⟨h',ow',ro',e1,b',f'⟩:=m
 have n0 : ¬ k=0:=by omega
 have n1 : ¬ k=1:=by omega
 have n2 : ¬ k=2:=by omega
 have n3 : ¬ k=3:=by omega
 have n4 : ¬ k=4:=by omega
 have n5 : ¬ k=5:=by omega
 have n6 : ¬ k=6:=by omega
 have n7 : ¬ k=7:=by omega
 have n8 : ¬ k=8:=by omega
 clear hk
 refine qm1 ?_
 exact PD.mk' rfl b' f'
theorem sw_all {d i B:Nat} (hd:16<=d) (b:BB h p w s rw ow ro dat st st) (so:StOk st i) (hi:i<=200) (hD:Dat h dat dv D) (hC:Cpy h p ow ro dat vd D) (lB:B<h.nx) (zB:ow B=0) (rB : ¬ ro B) (gB:h.get B=some (.cells (opV k a n t dv) false)) (t0:0<=t) (t1:t<=18446744073709551615) :
  Run (cl (d-1)) fuel c9_27 [] [(0,.p p 0),(3,.p B 0),(5,vd),(36,.i k)] h (PD h p w s rw ow ro dat vd (doS k a n t D st)):=by
 by_cases k0:k=0
 ·subst k0;exact sw_0 hcl hd b so hi hD hC lB zB rB gB
 by_cases k1:k=1
 ·subst k1;exact sw_1 hcl hd b so hi hD hC lB zB rB gB
 by_cases k2:k=2
 ·subst k2;exact sw_2 hcl hd b so hi hD hC lB zB rB gB
 by_cases k3:k=3
 ·subst k3;exact sw_3 hcl hd b so hi hD hC lB zB rB gB
 by_cases k4:k=4
 ·subst k4;exact sw_4 hcl hd b so hi hD hC lB zB rB gB
 by_cases k5:k=5
 ·subst k5;exact sw_5 hcl hd b so hi hD hC lB zB rB gB
 by_cases k6:k=6
 ·subst k6;exact sw_6 hcl hd b so hi hD hC lB zB rB gB
 by_cases k7:k=7
 ·subst k7;exact sw_7 hcl hd b so hi hD hC lB zB rB gB
 by_cases k8:k=8
 ·subst k8;exact sw_8 hcl hd b so hi hD hC lB zB rB gB
 refine sw_more hcl om gB ?_
 by_cases k9:k=9
 ·subst k9;exact mo_9 hcl om b so hi hD hC
 by_cases k10:k=10
 ·subst k10;exact mo_10 hcl om b so hi hD hC
 by_cases k11:k=11
 ·subst k11;exact mo_11 hcl om b so hi hD hC
 by_cases k12:k=12
 ·subst k12;exact mo_12 hcl om b so hi hD hC
 by_cases k13:k=13
 ·subst k13;exact mo_13 hcl om b so hi hD hC
 by_cases k14:k=14
 ·subst k14;exact mo_14 hcl om b so hi hD hC
 by_cases k15:k=15
 ·subst k15;exact mo_15 hcl om b so hi hD hC t0 t1
 by_cases k16:k=16
 ·subst k16;exact mo_16 hcl om b so hi hD hC
 by_cases k17:k=17
 ·subst k17;exact mo_17 hcl om b so hi hD hC
 by_cases k18:k=18
 ·subst k18;exact mo_18 hcl om b so hi
 by_cases k19:k=19
 ·subst k19;exact mo_19 hcl om b so hi hD hC
 by_cases k20:k=20
 ·subst k20;exact mo_20 hcl om b so
 exact mo_no hcl om b om
theorem do_ok {d i:Nat} (hd:16<=d) (b:BB h p w s rw ow ro dat st st) (so:StOk st i) (hi:i<=200) (hD:Dat h dat dv D) (t0:0<=t) (t1:t<=18446744073709551615) :
  ∃ h' ow' ro',cl d (.fn F.jbu) [.p p 0,.agg (opV k a n t dv)] h=some (.bool true,h')/\BB h' p w s rw ow' ro' dat (doS k a n t D st) (doS k a n t D st)/\Fm h h' ow ro ow' ro':=by
 suffices q : ∃ v h',cl d (.fn F.jbu) [.p p 0,.agg (opV k a n t dv)] h=some (v,h') /\ ∃ ow' ro',v = .bool true/\BB h' p w s rw ow' ro' dat (doS k a n t D st) (doS k a n t D st)/\Fm h h' ow ro ow' ro' by
  obtain ⟨_,h',e,ow',ro',rfl,q⟩:=q;exact ⟨h',ow',ro',e,q⟩
 have ol:Old h ((h.new (.cells (opV k a n t dv) false)).new (.cells [] false)):=(Old.refl h).new.new
 have hv:=(hD.keep b (Fm.old (ow:=ow) (ro:=ro) ol)).v
 have hl300:=hD.len
 refine at_ hcl om rfl rfl rfl ?_
 obtain ⟨C,hC⟩ : ∃ C,C=c9_27:=⟨_,rfl⟩
 simp only [c9,c9_29,yB,yC]
 rw [<- hC]
 refine qm1 ?_
 refine Ops.copyB rfl rfl hv om fun a' c' h3 hvd hcells ho hz=>?_
 have ho:Old ((h.new (.cells (opV k a n t dv) false)).new (.cells [] false)) h3:=ho
 have hz:a'=h.nx+1\/(h.nx+2<=a'/\a'<h3.nx):=hz
 have o3:=ol.trans ho
 have xo:((h.new (.cells (opV k a n t dv) false)).new (.cells [] false)).nx=h.nx+2:=rfl
 have x3:=ho.1
 have b3:=b.old o3
 have hD3:=hD.keep b (Fm.old (ow:=ow) (ro:=ro) o3)
 have gB:h3.get h.nx=some (.cells (opV k a n t dv) false):=by
  rw [ho.2 _ om,jac Zd,jad]
 have ha':h.nx+1<=a'/\a'<h3.nx:=by
  omega
 have lp:=b.lp
 have hC3:Cpy h3 p ow ro dat (.slice (some (a',0)) D.length c') D:=⟨hvd,fun z hz=>by
  cases hz
  refine ⟨ha'.2,b.W.top om,fun e=>?_,fun e=>?_,by omega⟩
  ·have:=b.ro_lt (.inl e);omega
  ·have:=b.ro_lt (.inr e);omega⟩
 have hsw:=sw_all hcl (d:=d) (k:=k) (a:=a) (n:=n) (t:=t) hd b3 so hi hD3 hC3 (B:=h.nx) om (b.W.top (zp _)) (fun e=>by have:=b.ro_lt (.inl e);omega) gB t0 t1
 rw [<- hC] at hsw
 clear hD hD3 hv so
 refine qm1 ?_
 refine Run.cut _ hsw ?_
 rintro _ _ g ⟨rfl,rfl,ow',ro',b',f'⟩
 clear hsw hC
 have hCg:=hC3.keep f'
 obtain ⟨z1,z2,z3,z4,z5⟩:=hCg.z a' rfl
 have gcells:D≠[]->g.get a'=some (.cells (bts D) false):=fun hn=>by
  obtain ⟨y1,y2,y3,_,_⟩:=hC3.z a' rfl
  rw [f'.ch.get a' y1 fun e=>e.elim (fun e=>e y2) y3,hcells hn]
 have fF:=(Fm.old (ow:=ow) (ro:=ro) o3).trans f'
 have xg:=f'.ch.nx
 clear hC3 hCg hcells f' b3 gB hvd
 refine qm1 ?_
 refine Run.loop (fun m e g2=>∃ j:Nat,m=D.length-j/\j<=D.length/\e=[(5,.slice (some (a',0)) D.length c'),(6,.bool true),(275,.i (D.length:Int)),(276,.i (j:Int))] /\
   (D≠[] -> ∃ cs:List V,g2.get a'=some (.cells cs false)/\cs.length=D.length /\ ∀ i,i<D.length -> ∃ x,cs[i]?=some (.int .u8 x))/\g2.nx=g.nx /\ ∀ j,j≠a'->g2.get j=g.get j)
  (k:=D.length) Ze ⟨0,rfl,by omega,rfl,fun hn=>⟨bts D,gcells hn,by simp,fun i hi=>⟨_,jiz (za hi)⟩⟩,rfl,fun _ _=>rfl⟩ ?_
 rintro _ _ g2 ⟨j,rfl,hj,rfl,hcs,hx2,hk2⟩ n2 ih2
 by_cases hlt:(j:Int)<D.length
 case neg=>
  clear ih2 hcs gcells
  refine qm1 ?_
  refine ⟨ow',ro',rfl,b'.off om fun i hi ho=>hk2 i ?_,⟨by have:=fF.ch.nx;omega,fun i hi hb=>by rw [hk2 i om,fF.ch.get i hi hb]⟩,fF.tag,fF.rtag⟩
  rintro rfl
  rcases ho with ho | ho | ho | ho
  ·exact ho z2
  ·exact z3 ho
  ·exact z4 ho
  ·exact z5 ho
 obtain ⟨cs,g1,g3,g4⟩:=hcs (by rintro rfl;simp at hlt;omega)
 obtain ⟨x,hx⟩:=g4 j om
 have hx':cs[0+(j:Int).toNat*1]?=some (.int .u8 x):=by rw [show 0+(j:Int).toNat*1=j by omega];exact hx
 have hj1:(j:Int)+1=((j+1:Nat):Int):=by omega
 clear gcells hcs
 refine qm1 ?_
 refine Ops.store1 rfl rfl rfl g1 om ?_
 refine qm1 ?_
 rw [hj1]
 refine ih2 (D.length-(j+1)) om _ _ ⟨j+1,rfl,by omega,rfl,fun _=>⟨_,jab _,by simp;exact g3,fun i hi=>?_⟩,hx2,fun i hi=>by rw [jaa hi,hk2 i hi]⟩
 rw [zh]
 by_cases e:0+(j:Int).toNat*1=i
 ·rw [if_pos e,if_pos om];exact ⟨_,rfl⟩
 ·rw [if_neg e];exact g4 i hi
end
structure BX (h0 h:H) (p w s rw:Nat) (ow:Nat->Nat) (ro:Nat->Prop) (st:St) (i:Nat):Prop where
 b:BB h p w s rw ow ro (fun j=>j<h0.nx) st st
 so:StOk st i
 old:Old h0 h
 own : ∀ j,ow j≠0\/ro j->h0.nx<=j
 lp:h0.nx<=p
theorem old_fm {h0 h h':H} {ow ow':Nat->Nat} {ro ro':Nat->Prop} (o:Old h0 h) (f:Fm h h' ow ro ow' ro') (own : ∀ j,ow j≠0\/ro j->h0.nx<=j):Old h0 h' :=
 ⟨zz o.1 f.ch.nx,fun j hj=>by rw [f.ch.get j (zq hj o.1) fun hb=>by have:=own j hb;omega,o.2 j hj]⟩
theorem BX.fm {h0 h h':H} {p w s rw:Nat} {ow ow':Nat->Nat} {ro ro':Nat->Prop} {st st':St} {i i':Nat} (x:BX h0 h p w s rw ow ro st i) (b:BB h' p w s rw ow' ro' (fun j=>j<h0.nx) st' st') (f:Fm h h' ow ro ow' ro') (so:StOk st' i'):BX h0 h' p w s rw ow' ro' st' i':=by
 refine ⟨b,so,old_fm x.old f x.own,fun j hj=>?_,x.lp⟩
 rcases zw j h.nx with h1 | h1
 ·rw [f.tag j h1,f.rtag j h1] at hj
  exact x.own j hj
 ·exact zz x.old.1 h1
def st0:St:=⟨[],0,Tb.zero,none⟩
theorem atS_nil (fd:Int):atS [] fd=none:=jfk fun n k=>by rintro ⟨x,h,_⟩;simp at h
theorem st0_ok:StOk st0 0 where
 K:=⟨⟨fun n k n' k' fd h=>(by obtain ⟨x,hx,_⟩:=h;simp [st0] at hx),fun x hx=>(by simp [st0] at hx),by simp [st0],fun x hx=>(by simp [st0] at hx)⟩,fun i j x y p q m hx=>by simp [st0] at hx⟩
 nt := .inl rfl
 now:=⟨Int.le_refl _,by show (0:Int)<=_;omega⟩
 tb:=fun k=>⟨Int.le_refl _,Int.le_refl _⟩
theorem Ops.build {call:Call} {fuel base:Nat} {K:List Fr} {e:Env} {h:H} {Q:Post} {ix:Nat} {dst:Option Nat} {ops:List Ins} {keep:List Nat} {at_:Option Nat} {zero l:List V} {parts:List (Nat × Nat × Opd)} {ps:List (Nat × Nat × V)}
  (he:jbK e parts=some ps) (hf:jba zero ps=some l) (k:Ops call fuel base ops keep K (layv e dst (.agg l)) h Q):Ops call fuel base (⟨ix,dst,.build zero parts,none,at_,[]⟩ :: ops) keep K e h Q :=
 Ops.pure rfl (by simp only [I.pure,he,hf]) k
section
variable {cl:Nat->Call} (hcl:Sem cl)
include hcl
def wc0 (s:Nat):List V:=(List.replicate 96 ([.bool false,.i 0,.i 0]:List V)).flatten++[.nils,.p s 0,.int .u64 0,.bool false,.i 0,.i 0]
def rc0:List V := .nils :: tail 0 (fun _=>false) (fun _=>0) (-1) 0
omit hcl in
theorem wc0_eq (s:Nat):wc0 s=wc (fun i=>atS [] (i:Int)) .nils s 0 none:=by
 have e:(fun i:Nat=>atS [] (i:Int))=fun _=>none:=by funext i;exact atS_nil _
 rw [e]
 have:(List.replicate 96 ([.bool false,.i 0,.i 0]:List V)).flatten=jdC fun _=>none:=by
  kernel_rfl
 unfold wc0 wc
 rw [this]
 rfl
omit hcl in
theorem fillW (s:Nat):jba ((List.replicate 96 ([.bool false,.i 0,.i 0]:List V)).flatten++[.nils,.ptr none,.int .u64 0,.bool false,.i 0,.i 0]) [(289,1,.p s 0)]=some (wc0 s):=by kernel_rfl
omit hcl in
theorem fillR:jba ([.nils,.int .u64 0]++List.replicate 32 (.bool false:V)++List.replicate 34 (.i 0:V)) [(66,1,.i (-1))]=some rc0:=by kernel_rfl
set_option maxRecDepth 100000 in
theorem nw_world {d:Nat} (hd:2<=d) (h:H):cl d (.fn F.world_New) [] h=some (.p (h.nx+1) 0,(h.new Tb.zero.obj).new (.cells (wc0 h.nx) false)):=by
 have hs:=sp_new hcl (d:=d-1) om h
 refine jaj (at_ hcl om rfl rfl rfl ?_)
 refine Run.seq (Run.region0 (Ops.mv rfl (Ops.nil qkp (End.seq (Run.seq (Run.region0 (Ops.callf rfl hs (Ops.build rfl (fillW h.nx) (Ops.make rfl rfl ?_)))))))))
 refine qo1 ?_
 exact ⟨rfl,rfl⟩
set_option maxRecDepth 100000 in
theorem nw_ref {d:Nat} (hd:1<=d) (h:H):cl d (.fn F.je3) [] h=some (.p h.nx 0,h.new (.cells rc0 false)):=by
 refine jaj (at_ hcl om rfl rfl rfl ?_)
 refine Run.seq (Run.region0 (Ops.mv rfl (Ops.nil qkp (End.seq (Run.seq (Run.region0 (Ops.build rfl fillR (Ops.make rfl rfl ?_))))))))
 refine qo1 ?_
 exact ⟨rfl,rfl⟩
theorem nw_fresh {d:Nat} (hd:3<=d) (h:H) (hf : ∀ j,h.nx<=j->h.get j=none) : ∃ p w s rw ow ro h',cl d (.fn F.jdK) [] h=some (.p p 0,h')/\BX h h' p w s rw ow ro st0 0:=by
 have e1:=nw_world hcl (d:=d-1) om h
 have e2:=nw_ref hcl (d:=d-1) om ((h.new Tb.zero.obj).new (.cells (wc0 h.nx) false))
 have x1:((h.new Tb.zero.obj).new (.cells (wc0 h.nx) false)).nx=h.nx+2:=rfl
 rw [x1] at e2
 have o4:Old h ((((h.new Tb.zero.obj).new (.cells (wc0 h.nx) false)).new (.cells rc0 false)).new (.cells [.p (h.nx+1) 0,.p (h.nx+2) 0] false)):=(Old.refl h).new.new.new.new
 refine ⟨h.nx+3,h.nx+1,h.nx,h.nx+2,fun j=>if j=h.nx then 3 else if j=h.nx+1 then 1 else 0,fun j=>j=h.nx+2,(((h.new Tb.zero.obj).new (.cells (wc0 h.nx) false)).new (.cells rc0 false)).new (.cells [.p (h.nx+1) 0,.p (h.nx+2) 0] false),jaj (at_ hcl om rfl rfl rfl ?_),⟨⟨?_,?_,?_,?_,?_,?_,?_⟩,st0_ok,o4,?_,?_⟩⟩
 ·refine qm1 ?_
  exact ⟨rfl,rfl⟩
 ·refine ⟨[],⟨⟨⟨.nils,?_,Row.nil _ _ _,fun z hz=>by cases hz⟩,?_,?_,?_,?_,?_,fun j hj=>?_,fun n t ht=>by simp at ht⟩,fun n k fd hat=>?_⟩,rfl⟩
  ·have e:=wc0_eq h.nx
   show _=some (Obj.cells (wc (fun i=>atS [] (i:Int)) .nils h.nx 0 none) false)
   rw [<- e]
   exact qgt
  ·exact qgt
  ·show (if h.nx+1=h.nx then 3 else if h.nx+1=h.nx+1 then 1 else 0)=1
   rw [if_neg om,if_pos rfl]
  ·show (if h.nx=h.nx then 3 else if h.nx=h.nx+1 then 1 else 0)=3
   rw [if_pos rfl]
  ·simp<;>omega
  ·simp<;>omega
  ·have hj:h.nx+4<=j:=hj
   show (if j=h.nx then 3 else if j=h.nx+1 then 1 else 0)=0
   rw [if_neg om,if_neg om]
  ·obtain ⟨x,hx,_⟩:=hat;simp at hx
 ·refine ⟨[],⟨⟨h.nx+3,fun e=>absurd rfl e,fun g gn gk=>⟨?_,?_,by omega,fun e=>absurd rfl e,fun _=>?_,fun r hr=>by cases hr⟩⟩,fun j hj=>?_,rfl,fun j hj hd=>?_⟩,rfl⟩
  ·rw [gn];simp
  ·rw [gn];simp
  ·rw [gk (h.nx+2) Zd (.inl rfl)]
   show _=some (Obj.cells rc0 false)
   exact qgt
  ·rcases hj with rfl | hj
   ·simp
   ·simp<;>omega
  ·have hj:j=h.nx+2:=hj
   have hd:j<h.nx:=hd
   omega
 ·exact qgt
 ·simp
 ·intro j hj
  have hj:j=h.nx+2\/j<h.nx:=hj
  show (if j=h.nx then 3 else if j=h.nx+1 then 1 else 0)=0
  rw [if_neg om,if_neg om]
 ·show (if h.nx+3=h.nx then 3 else if h.nx+3=h.nx+1 then 1 else 0)=0
  rw [if_neg om,if_neg om]
 ·intro hj
  have hj:h.nx+3=h.nx+2\/h.nx+3<h.nx:=hj
  omega
 ·intro j hj
  rcases hj with hj | hj
  ·have hj:(if j=h.nx then 3 else if j=h.nx+1 then 1 else 0)≠0:=hj
   by_cases h1:j=h.nx
   ·omega
   ·rw [if_neg h1] at hj
    by_cases h2:j=h.nx+1
    ·omega
    ·rw [if_neg h2] at hj;exact absurd rfl hj
  ·have hj:j=h.nx+2:=hj
   omega
 ·omega
end
structure OpX where
 k:Int
 a:Int
 n:Int
 t:Int
 dv:V
 D:List UInt8
abbrev OpX.V (x:OpX):List V:=opV x.k x.a x.n x.t x.dv
structure OpOk (h:H) (x:OpX):Prop where
 dv : ∃ a c,x.dv = .slice a x.D.length c/\(x.D.length<=300->BytesAt h a c x.D)
 t0:0<=x.t
 t1:x.t<=18446744073709551615
theorem OpOk.keep {h h':H} {x:OpX} (o:OpOk h x) (hx:h.nx<=h'.nx) (hk : ∀ j o,j<h.nx->h.get j=some o->h'.get j=some o):OpOk h' x:=by
 obtain ⟨⟨a,c,e,g⟩,t0,t1⟩:=o
 exact ⟨⟨a,c,e,fun hl=>(g hl).keep hx hk⟩,t0,t1⟩
theorem OpOk.dat {h:H} {x:OpX} (o:OpOk h x) (hl:x.D.length<=300):Dat h (fun j=>j<h.nx) x.dv x.D:=by
 obtain ⟨⟨a,c,e,g⟩,_,_⟩:=o
 refine ⟨⟨a,c,e,g hl⟩,fun hn z hz=>?_,hl⟩
 obtain ⟨b,o,cs,ro,q1,q2,_⟩:=(g hl).at_ hn
 rw [e,q1] at hz
 cases hz;exact q2
def jlH (h:H) (lv:V) (L:List OpX):Prop := ∃ ad c,lv = .slice ad L.length c/\(L.length<=200->(∀ x∈L,OpOk h x)/\(L≠[] -> ∃ b cs ro,ad=some (b,0)/\b<h.nx/\h.get b=some (.cells cs ro)/\cs.length=L.length*5 /\ ∀ (i:Nat) (x:OpX),L[i]?=some x->(cs.drop (i*5)).take 5=x.V))
theorem jlH.keep {h h':H} {lv:V} {L:List OpX} (o:jlH h lv L) (hx:h.nx<=h'.nx) (hk : ∀ j o,j<h.nx->h.get j=some o->h'.get j=some o):jlH h' lv L:=by
 obtain ⟨ad,c,e,g⟩:=o
 refine ⟨ad,c,e,fun hl=>⟨fun x hx'=>((g hl).1 x hx').keep hx hk,fun hn=>?_⟩⟩
 obtain ⟨b,cs,ro,q1,q2,q3,q4⟩:=(g hl).2 hn
 exact ⟨b,cs,ro,q1,by omega,hk _ _ q2 q3,q4⟩
def fewL (L:List OpX):Prop:=L.length<=200 /\ ∀ x∈L,x.D.length<=300
theorem jnz {α : Type} {l:List α} {i:Nat} (h:i<l.length) : ∃ x,l[i]?=some x:=⟨_,za h⟩
section
variable {cl:Nat->Call} (hcl:Sem cl)
include hcl
theorem gr_ok {d:Nat} {h:H} {lv:V} {L:List OpX} (hd:1<=d) (hL:jlH h lv L) :
  ∃ v,cl d (.fn F.jcz) [lv] h=some (v,h)/\(v = .i 1\/(v = .i 0/\fewL L)):=by
 obtain ⟨ad,c,rfl,hin⟩:=hL
 suffices ∃ v h',cl d (.fn F.jcz) [.slice ad L.length c] h=some (v,h')/\(h'=h/\(v = .i 1\/(v = .i 0/\fewL L))) by
  obtain ⟨v,h',q1,rfl,q3⟩:=this
  exact ⟨v,q1,q3⟩
 refine at_ hcl om rfl rfl rfl ?_
 by_cases h1:200<(L.length:Int)
 ·refine qx1 ?_
  exact ⟨rfl,.inl rfl⟩
 obtain ⟨hok,hel⟩:=hin om
 refine qx1 ?_
 refine Run.loop (fun m e h'=>∃ i:Nat,m=L.length-i/\i<=L.length/\e=[(0,.slice ad L.length c),(8,.i (L.length:Int)),(9,.i (i:Int))]/\h'=h /\ ∀ j x,j<i->L[j]?=some x->x.D.length<=300) (k:=L.length) Ze ⟨0,rfl,by omega,rfl,rfl,fun j x hj=>by omega⟩ ?_
 rintro _ _ _ ⟨i,rfl,hi,rfl,rfl,hj⟩ n' ih
 by_cases hlt:(i:Int)<L.length
 case neg=>
  have hf:fewL L:=⟨by omega,fun x hx=>by
   obtain ⟨j,hjl,e⟩:=List.getElem_of_mem hx
   exact hj j x om (by rw [za hjl,e])⟩
  clear ih hel hok hj
  refine qx1 ?_
  exact ⟨rfl,.inr ⟨rfl,hf⟩⟩
 obtain ⟨x,hx⟩:=jnz (l:=L) (i:=i) om
 obtain ⟨b,cs,ro,rfl,_,hb,hcl',hc⟩:=hel (by rintro rfl;simp at hx)
 obtain ⟨⟨da,dc,edv,_⟩,_,_⟩:=hok x (zb hx)
 have h5:=hc i x hx
 have hc':cs[0+(i:Int).toNat*5+4]?=some (.slice da x.D.length dc):=by
  have:((cs.drop (i*5)).take 5)[4]?=some x.dv:=by rw [h5];rfl
  rw [List.getElem?_take,if_pos om,zl] at this
  rw [show 0+(i:Int).toNat*5+4=i*5+4 by omega,this,edv]
 clear hel hok hc h5
 by_cases hd3:300<(x.D.length:Int)
 ·clear ih hj
  refine qx1 ?_
  exact ⟨rfl,.inl rfl⟩
 ·have hi1:(i:Int)+1=((i+1:Nat):Int):=by omega
  refine qx1 ?_
  rw [hi1]
  refine ih (L.length-(i+1)) om _ _ ⟨i+1,rfl,by omega,rfl,rfl,fun j y hj' hy=>?_⟩
  by_cases e:j=i
  ·subst e
   rw [hx] at hy;cases hy
   omega
  ·exact hj j y om hy
theorem bx_do {d i p w s rw:Nat} {h0 h:H} {ow:Nat->Nat} {ro:Nat->Prop} {st:St} {x:OpX} (hd:16<=d) (b:BX h0 h p w s rw ow ro st i) (hi:i<=200) (hx:OpOk h0 x) (hl:x.D.length<=300) :
  ∃ h' ow' ro',cl d (.fn F.jbu) [.p p 0,.agg x.V] h=some (.bool true,h')/\BX h0 h' p w s rw ow' ro' (doS x.k x.a x.n x.t x.D st) (i+1)/\Fm h h' ow ro ow' ro':=by
 have hD:Dat h (fun j=>j<h0.nx) x.dv x.D:=by
  have:=hx.dat hl
  exact ⟨this.v.keep2 b.old.1 fun hn z hz=>b.old.2 z (this.z hn z hz),this.z,hl⟩
 obtain ⟨h',ow',ro',e,b',f⟩:=do_ok hcl (k:=x.k) (a:=x.a) (n:=x.n) (t:=x.t) hd b.b b.so hi hD hx.t0 hx.t1
 exact ⟨h',ow',ro',e,b.fm b' f (doS_ok b.so hx.t0 hx.t1),f⟩
end
def ji1 (n:Nat) (v:V) (h':H):Bool:=jmx v&&(Nat.beq h'.nx n&&Nat.ble (ttop h'.t) n)
abbrev jmM:H->Int × Int × Int × Int × List Int × Unit->List V->Prop:=jfy (jd8 .i64) (jfy (jd8 .i64) (jfy (jd8 .i64) (jfy (jd8 .u64) (jfy (jeg 300 (jd8 .u8)) jmY))))
theorem jjP {h:H} {x:Int × Int × Int × Int × List Int × Unit} {vs:List V} (r:jmM h x vs) : ∃ u,vs=[.i x.1,.i x.2.1,.i x.2.2.1,.int .u64 x.2.2.2.1,u]/\jeg 300 (jd8 .u8) h x.2.2.2.2.1 [u]/\0<=x.2.2.2.1/\x.2.2.2.1<=18446744073709551615:=by
 obtain ⟨_,_,rfl,⟨rfl,_⟩,_,_,rfl,⟨rfl,_⟩,_,_,rfl,⟨rfl,_⟩,_,_,rfl,⟨rfl,ht⟩,u,w,rfl,r5,hw⟩:=r
 obtain rfl:w=[]:=hw
 have ⟨ad,c,e,h1⟩:=r5
 subst e
 exact ⟨_,rfl,⟨ad,c,rfl,h1⟩,ht.1,ht.2⟩
theorem jmp {h:H} : ∀ {l:List (Int × Int × Int × Int × List Int × Unit)} {cs:List V},jby jmM h l cs -> ∃ L:List OpX,L.length=l.length/\cs=(L.map OpX.V).flatten /\ ∀ x∈L,OpOk h x
 | [],_,e=>⟨[],rfl,e,fun x hx=>by cases hx⟩
 | y :: l,_,⟨u,w,e,h1,h2⟩=>by
  obtain ⟨L,l1,l2,l3⟩:=jmp h2
  obtain ⟨v,e1,r,t0,t1⟩:=jjP h1
  obtain ⟨a,c,rfl,hB⟩:=bytes_of r
  refine ⟨⟨y.1,y.2.1,y.2.2.1,y.2.2.2.1,.slice a y.2.2.2.2.1.length (.fix c),y.2.2.2.2.1.map jlE⟩ :: L,by simp [l1],by rw [e,e1,l2];rfl,fun x hx=>?_⟩
  rcases List.mem_cons.1 hx with rfl | hx
  ·exact ⟨⟨a,.fix c,by simp,fun hl=>hB (by simpa using hl)⟩,t0,t1⟩
  ·exact l3 x hx
theorem jk8 : ∀ L:List OpX,(L.map OpX.V).flatten.length=L.length*5
 | []=>rfl
 | x :: L=>by
  have:=jk8 L
  have h5:(OpX.V x).length=5:=rfl
  show (OpX.V x++(L.map OpX.V).flatten).length=_
  rw [ze,this,h5]
  simp;omega
theorem flat_get : ∀ {L:List OpX} {i:Nat} {x:OpX},L[i]?=some x->(((L.map OpX.V).flatten).drop (i*5)).take 5=x.V
 | [],i,x,h=>by simp at h
 | y :: L,0,x,h=>by simp at h;subst h;rfl
 | y :: L,i+1,x,h=>by
  rw [List.map_cons,List.flatten_cons,show (i+1)*5=(OpX.V y).length+i*5 by show _=5+_;omega,<- List.drop_drop,List.drop_left]
  exact flat_get (by simpa using h)
theorem opsIn_of {h:H} {l:List (Int × Int × Int × Int × List Int × Unit)} {u:V} (r:jeg 200 jmM h l [u]) : ∃ L:List OpX,L.length=l.length/\jlH h u L:=by
 obtain ⟨ad,c,e,h1,h2,h3⟩:=r
 cases e
 by_cases hl:l.length<=200
 ·by_cases hn:l=[]
  ·subst hn
   exact ⟨[],rfl,ad,.fix c,rfl,fun _=>⟨fun x hx=>(by cases hx),fun e=>absurd rfl e⟩⟩
  ·obtain ⟨b,cs,rfl,q1,q2,q3⟩:=h1 hl hn
   obtain ⟨L,l1,rfl,l3⟩:=jmp q3
   exact ⟨L,l1,_,.fix c,by rw [l1],fun _=>⟨l3,fun _=>⟨b,_,true,rfl,q1,q2,jk8 L,fun i x hx=>flat_get hx⟩⟩⟩
 ·exact ⟨List.replicate l.length ⟨0,0,0,0,.nils,[]⟩,by simp,ad,.fix c,by simp,fun hl'=>absurd (by simpa using hl') hl⟩
theorem alive19_1:ran (jbE prog fuel 30 (.fn F.jcx) [.i 1] ⟨201,.lf⟩) (ji1 1402)=true:=by kernel_rfl
theorem alive19_2:ran (jbE prog fuel 30 (.fn F.jcx) [.i 2] ⟨1402,.lf⟩) (ji1 1518)=true:=by kernel_rfl
theorem jhI {cl:Nat->Call} (hcl:Sem cl) {f:Nat} {args:List V} {h0:H} {n n':Nat} (run:ran (jbE prog fuel 30 (.fn f) args ⟨n,.lf⟩) (ji1 n')=true) (hnx:h0.nx=n) (hwf : ∀ b,n<=b->h0.get b=none) (hn:n<=n') :
  ∃ h1,cl 30 (.fn f) args h0=some (.bool true,h1)/\h1.nx=n'/\(∀ j,n'<=j->h1.get j=none) /\ ∀ j o,h0.get j=some o->h1.get j=some o:=by
 obtain ⟨v1,e1,ra,pa⟩:=ran_ex run
 unfold ji1 at pa
 simp only [zn,Nat.beq_eq,Nat.ble_eq] at pa
 obtain ⟨p1,p2,p3⟩:=pa
 obtain rfl:=isTrue_eq p1
 have hX:Ext h0.get ⟨n,.lf⟩ h0:=by have:=ext_all (h:=h0) (by rw [hnx];exact hwf);rwa [hnx] at this
 obtain ⟨h1,qa,xa⟩:=same_in hcl ra hX
 refine ⟨h1,qa,by rw [xa.nx];exact p2,fun j hj=>?_,fun j o hj=>ext_kept xa hj⟩
 rw [xa.get,hwf j om,show e1.get j=none from jjU _ _ om];rfl
noncomputable def runS (L:List OpX) (st:St):St:=L.foldl (fun st x=>doS x.k x.a x.n x.t x.D st) st
theorem runS_take {L:List OpX} {i:Nat} {x:OpX} (hx:L[i]?=some x) (st:St):runS (L.take (i+1)) st=doS x.k x.a x.n x.t x.D (runS (L.take i) st):=by
 unfold runS
 rw [List.take_add_one,hx]
 simp
abbrev twoN (m:Int):Int:=IntKind.wrap .i64 (IntKind.wrap .i64 (m.tmod 4)*2)
theorem twoN_is {m:Int} (h0:0<=m):twoN m=0\/twoN m=2\/twoN m=4\/twoN m=6:=by
 unfold twoN
 rw [Int.tmod_eq_emod_of_nonneg h0,jdE (n:=m%4) ⟨by omega,by omega⟩,jdE ⟨by omega,by omega⟩]
 omega
section
variable {cl:Nat->Call} (hcl:Sem cl) {d D w s:Nat} {h:H} {ow:Nat->Nat} {ws:Ws} {now:Int} {tb:Tb} {no:Option (Nat × Nat)} {k fd m:Int}
include hcl
theorem g19_ok {lv:V} {L:List OpX} (hd:2<=d) (hL:jlH h lv L) : ∃ v,cl d (.fn F.jcy) [lv,.nils,.nils] h=some (v,h)/\(v = .i 1\/(v = .i 0/\L.length<=60/\fewL L)):=by
 suffices q : ∃ v h',cl d (.fn F.jcy) [lv,.nils,.nils] h=some (v,h')/\h'=h/\(v = .i 1\/(v = .i 0/\L.length<=60/\fewL L)) by
  obtain ⟨v,_,e,rfl,q⟩:=q;exact ⟨v,e,q⟩
 have e12:cl (d-1) (.fn F.jdJ) [.nils] h=some (.i 0,h):=by
  refine jaj (at_ hcl om rfl rfl rfl ?_)
  refine qx1 ?_
  refine Run.loop0 Ze fun n'=>?_
  refine qx1 ?_
  exact ⟨rfl,rfl⟩
 obtain ⟨v,e1,hv⟩:=gr_ok hcl (d:=d-1) om hL
 obtain ⟨ad,c,rfl,_⟩:=hL
 by_cases h60:60<(L.length:Int)
 ·refine at_ hcl om rfl rfl rfl ?_
  refine qx1 ?_
  exact ⟨rfl,.inl rfl⟩
 obtain rfl | ⟨rfl,hf⟩:=hv
 ·refine at_ hcl om rfl rfl rfl ?_
  refine qx1 ?_
  exact ⟨rfl,.inl rfl⟩
 ·refine at_ hcl om rfl rfl rfl ?_
  refine qx1 ?_
  refine Run.loop0 Ze fun n'=>?_
  refine qx1 ?_
  exact ⟨rfl,.inr ⟨rfl,by omega,hf⟩⟩
theorem dp_New (hd:1<=d) (hk:k=1\/k=2):cl d (.fn F.jjq) [.p w 0,.i k] h=some (.tup [.p h.nx 0,.i 0],h.new (.cells (dc w k (fun _=>0) 0) false)):=by
 have hb:jba ([.ptr none]++List.replicate 98 (.i 0:V)) [(0,1,.p w 0),(1,1,.i k)]=some (dc w k (fun _=>0) 0):=by
  have:List.replicate 98 (.i 0:V) = .i 0 :: (tab 96 (fun _=>.i 0)++[.i 0]):=by kernel_rfl
  rw [this];rfl
 refine jaj (at_ hcl om rfl rfl rfl ?_)
 obtain ⟨C,hC⟩ : ∃ C,C=c11_2:=⟨_,rfl⟩
 simp only [c11,<- hC,yC]
 rcases hk with rfl | rfl
 all_goals
  repeat' (first|refine qxy ?_|refine zbf rfl (fun _=>?_) fun _=>?_|refine zbg rfl (fun _=>?_) fun _=>?_|refine zbh rfl (fun _=>?_) fun _=>?_|refine zbm rfl (fun _=>?_) fun _=>?_|refine zbn rfl (fun _=>?_) fun _=>?_)
  subst hC
  refine Run.seq (Run.region0 (Ops.mv rfl (Ops.mv rfl (Ops.build rfl hb ?_))))
  repeat' (first|refine qmy ?_|refine zbf rfl (fun _=>?_) fun _=>?_|refine zbg rfl (fun _=>?_) fun _=>?_|refine zbh rfl (fun _=>?_) fun _=>?_|refine zbm rfl (fun _=>?_) fun _=>?_|refine zbn rfl (fun _=>?_) fun _=>?_)
  exact ⟨rfl,rfl⟩
theorem dp_New_no (hd:1<=d) (hk : ¬ (k=1\/k=2)):cl d (.fn F.jjq) [.p w 0,.i k] h=some (.tup [.ptr none,.i 2],h):=by
 obtain ⟨k1,k2⟩:k≠1/\k≠2:=by omega
 refine jaj (at_ hcl om rfl rfl rfl ?_)
 refine qx1 ?_
 exact ⟨rfl,rfl⟩
theorem jnk {e n:Int} (hd:2<=d) (hw:cl d (.fn F.jbW) [.p D 0,.i fd] h=some (.i 0,h)) (he:e=0->n=twoN m) :
  Run (cl d) fuel c4_0 [] [(2,.i fd),(3,.int .u8 m),(9,.bool true),(13,.p D 0),(15,.i e),(16,.i n),(17,.nils),(18,.nils),(19,.i 2),(20,.i 0)] h (Fin c4.res fun v _=>v = .bool true):=by
 by_cases e0:e=0
 ·obtain rfl:=he e0
  subst e0
  have hz:twoN m=IntKind.wrap .i64 (IntKind.wrap .i64 (m.tmod 4)*2):=rfl
  refine qx1 ?_
  rfl
 ·have hq:decide (e=0)=false:=decide_eq_false e0
  have hr:decide (e=0)=decide (e=0):=rfl
  clear he
  by_cases hn:n=twoN m
  ·refine qx1 ?_
   rfl
  ·refine qx1 ?_
   rfl
theorem df_rest {p rw:Nat} {v0:V} {sb:Env} (hd:21<=d) (a:WSt h w s ow ws now tb no) (o:WsOk ws) (n0:0<=now) (n1:now<=18446744073709551615) (hp:h.get p=some (.cells [.p w 0,.p rw 0] false)) (hm:0<=m) :
  Run (cl d) fuel c4_9 [] ((0,v0) :: (1,.i k) :: (2,.i fd) :: (3,.int .u8 m) :: (9,.bool true) :: (10,.p p 0) :: sb) h (Fin c4.res fun v _=>v = .bool true):=by
 by_cases hk:k=1\/k=2
 case neg=>
  have e1:=dp_New_no hcl (d:=d) (w:=w) (h:=h) om hk
  clear a o
  refine qx1 ?_
  rfl
 have e1:=dp_New hcl (d:=d) (w:=w) (h:=h) om hk
 have o1:Old h (h.new (.cells (dc w k (fun _=>0) 0) false)):=(Old.refl h).new
 have gD:(h.new (.cells (dc w k (fun _=>0) 0) false)).get h.nx=some (.cells (dc w k (fun _=>0) 0) false):=jad _
 have nD:h.nx<(h.new (.cells (dc w k (fun _=>0) 0) false)).nx:=Nat.lt_succ_self _
 have tD:=a.top (zp _)
 generalize h.new (.cells (dc w k (fun _=>0) 0) false)=G at e1 o1 gD nD
 have WG:=a.old o1
 have h4:=twoN_is hm
 obtain ⟨e,g2,e2,cc2,gD2,q1,q2,q3⟩:=jm7 hcl (d:=d) (fd:=fd) om h4 WG o gD nD
 have W2:WSt g2 w s ow ws now tb no:=WG.keep cc2.nx fun j hj=>cc2.get j (WG.lt_of hj) fun e=>hj (by rw [e];exact tD)
 have nD2:h.nx<g2.nx:=zq nD cc2.nx
 obtain ⟨C0,hC0⟩ : ∃ C,C=c4_0:=⟨_,rfl⟩
 by_cases hf:isFd fd
 case neg=>
  obtain rfl:=q2 hf
  rw [if_neg om] at gD2
  have e3:=jgX hcl (d:=d) om gD2 hf
  have e4:=jjr hcl (d:=d) om gD2 hf
  obtain ⟨r,g5,e5,_,_,_,q5,_⟩:=jm7 hcl (d:=d) (n:=0) om (.inl rfl) W2 o gD2 nD2 (fd:=fd)
  obtain rfl:=q5 hf
  obtain ⟨g6,e6,gD6⟩:=jfM hcl (d:=d) om W2 o n0 n1 gD2 nD2 tD
  have T:=jnk hcl (d:=d) (D:=h.nx) (h:=g6) (fd:=fd) (m:=m) (e:=2) (n:=0) om (jgX hcl (d:=d) om gD6 hf) (fun e=>absurd e om)
  rw [<- hC0] at T
  simp only [c4_9,c4_6,c4_4,c4_3,<- hC0,uF,yC,yH,yJ]
  unfold isFd at hf
  clear a o WG W2 q1 q2 q3 q5 hk
  by_cases h2:m.tmod 2=0
  ·refine qx1 ?_
   exact T
  ·by_cases f0:fd<0
   ·refine qx1 ?_
    rfl
   ·have f1:95<fd:=by omega
    refine qx1 ?_
    rw [decide_eq_true f1]
 have hz : ∀ (r:Int),dc w k (put1 (if r=0 then put1 (fun _=>0) fd.toNat (twoN m) else fun _=>0) fd.toNat 0) 0=dz w k:=fun r=>dc_congr fun i _=>by
  show (if i=fd.toNat then 0 else (if r=0 then put1 (fun _=>0) fd.toNat (twoN m) else fun _=>(0:Int)) i)=0
  by_cases hi:i=fd.toNat
  ·rw [if_pos hi]
  ·rw [if_neg hi]
   by_cases hr:r=0
   ·rw [if_pos hr];exact if_neg hi
   ·rw [if_neg hr]
 have hz:=hz e
 have e3:=jkC hcl (d:=d) om gD2 hf
 have hn:e=0->(if e=0 then put1 (fun _=>0) fd.toNat (twoN m) else fun _=>0) fd.toNat=twoN m:=fun e=>by rw [if_pos e];unfold put1;rw [if_pos rfl]
 have e4:=jjs hcl (d:=d) om gD2 hf
 obtain ⟨r,g5,e5,cc5,gD5,_,_,q5⟩:=jm7 hcl (d:=d) (n:=0) om (.inl rfl) W2 o gD2 nD2 (fd:=fd)
 obtain rfl:=q5 hf rfl
 rw [if_pos rfl] at gD5
 generalize (if e=0 then put1 (fun _=>0) fd.toNat (twoN m) else fun _=>(0:Int))=f2 at gD2 e3 hn e4 hz gD5
 rw [hz] at e4 gD5
 have cc4:Ch (fun j=>j=h.nx) g2 (g2.set h.nx (.cells (dz w k) false)):=Ch.set rfl
 have gD4:(g2.set h.nx (.cells (dz w k) false)).get h.nx=some (.cells (dz w k) false):=jab _
 have X : ∀ G':H,Ch (fun j=>j=h.nx) g2 G'->G'.get h.nx=some (.cells (dz w k) false) -> ∃ g6,cl d (.fn F.jc0) [.p h.nx 0,.ptr none,.int .u64 3,.bool false] G'=some (.tup [.nils,.nils,.i 2,.i 0],g6)/\Run (cl d) fuel C0 [] [(2,.i fd),(3,.int .u8 m),(9,.bool true),(13,.p h.nx 0),(15,.i e),(16,.i (f2 fd.toNat)),(17,.nils),(18,.nils),(19,.i 2),(20,.i 0)] g6 (Fin c4.res fun v _=>v = .bool true):=fun G' cG gG=>by
  have W':WSt G' w s ow ws now tb no:=W2.keep cG.nx fun j hj=>cG.get j (W2.lt_of hj) fun e=>hj (by rw [e];exact tD)
  obtain ⟨g6,e6,gD6⟩:=jfM hcl (d:=d) om W' o n0 n1 gG (zq nD2 cG.nx) tD
  refine ⟨g6,e6,?_⟩
  rw [hC0]
  exact jnk hcl (d:=d) om (jkC hcl (d:=d) om gD6 hf) hn
 obtain ⟨g6,e6,T6⟩:=X _ cc4 gD4
 obtain ⟨g7,e7,T7⟩:=X _ cc5 gD5
 simp only [c4_9,c4_6,c4_4,c4_3,<- hC0,uF,yC,yH,yJ]
 clear X a o WG W2 q1 q2 q3 q5 hk hn
 by_cases h2:m.tmod 2=0
 ·refine qx1 ?_
  exact T6
 ·refine qx1 ?_
  exact T7
theorem jgW {h0:H} (hnx:h0.nx=201) (hwf : ∀ b,201<=b->h0.get b=none) {l:List (Int × Int × Int × Int × List Int × Unit)} {u1:V} (rl:jeg 200 jmM h0 l [u1]) {x1:Int} {u2:V} (rk:jd8 .i64 h0 x1 [u2]) {x2:Int} {u3:V} (rf:jd8 .i64 h0 x2 [u3]) {x3:Int} {u4:V} (rm:jd8 .u8 h0 x3 [u4]) :
  ∃ h',cl 31 (.fn F.jb4) [u1,u2,u3,u4] h0=some (.bool true,h'):=by
 suffices q : ∃ v h',cl 31 (.fn F.jb4) [u1,u2,u3,u4] h0=some (v,h')/\v = .bool true by
  obtain ⟨_,h',e,rfl⟩:=q;exact ⟨h',e⟩
 obtain ⟨⟨⟩,_⟩:=rk
 obtain ⟨⟨⟩,_⟩:=rf
 obtain ⟨⟨⟩,m0,_⟩:=rm
 obtain ⟨h1,ea1,n1,wf1,k1⟩:=jhI hcl alive19_1 hnx hwf om
 obtain ⟨h2,ea2,n2,wf2,k2⟩:=jhI hcl alive19_2 n1 wf1 om
 obtain ⟨L,_,hL0⟩:=opsIn_of rl
 have hL:=hL0.keep (h':=h2) om fun j o _ hj=>k2 j o (k1 j o hj)
 obtain ⟨gv,eg,hg⟩:=g19_ok hcl (d:=30) om hL
 clear rl hL0 k1 k2 hwf wf1
 refine at_ hcl om rfl rfl rfl ?_
 rcases hg with rfl | ⟨rfl,h60,hfew⟩
 ·clear hL
  refine qx1 ?_
  rfl
 obtain ⟨p,w,s,rw,ow,ro,h3,e3,b3⟩:=nw_fresh hcl (d:=30) om h2 (by rw [n2];exact wf2)
 obtain ⟨ad,c,rfl,hin⟩:=hL
 obtain ⟨hok,hel⟩:=hin hfew.1
 clear wf2 hin
 obtain ⟨C,hC⟩ : ∃ C,C=c4_9:=⟨_,rfl⟩
 simp only [c4,c4_11,c4_10,<- hC,yB,yC]
 refine qx1 ?_
 refine Run.loop (fun m e g=>∃ (i:Nat) (ow:Nat->Nat) (ro:Nat->Prop),m=L.length-i/\i<=L.length/\e=[(0,.slice ad L.length c),(1,.i x1),(2,.i x2),(3,.int .u8 x3),(9,.bool true),(10,.p p 0),(11,.i (i:Int))]/\BX h2 g p w s rw ow ro (runS (L.take i) st0) i)
  (k:=L.length) Ze ⟨0,ow,ro,rfl,by omega,rfl,b3⟩ ?_
 clear b3 e3 eg ea1 ea2 ow ro h3
 rintro _ _ g ⟨i,ow,ro,rfl,hi,rfl,bx⟩ n2 ih
 by_cases hlt:(i:Int)<L.length
 case neg=>
  have T:=df_rest hcl (d:=30) (k:=x1) (fd:=x2) (m:=x3) (v0 := .slice ad L.length c) (sb:=[(11,.i (i:Int)),(37,.bool (decide ((i:Int)<L.length)))]) om bx.b.W bx.so.K.ok bx.so.now.1 bx.so.now.2 bx.b.hp m0
  rw [<- hC] at T
  clear ih hel hok bx
  refine qx1 ?_
  exact T
 obtain ⟨x,hx⟩:=jnz (l:=L) (i:=i) om
 have hxm:=zb hx
 obtain ⟨b,cs,ro',rfl,lb,hb,hlen,hc⟩:=hel (by rintro rfl;simp at hx)
 have h5:(cs.drop (0+(i:Int).toNat*5)).take 5=x.V:=by rw [Nat.zero_add,zu];exact hc i x hx
 have hbg:g.get b=some (.cells cs ro'):=by rw [bx.old.2 b lb,hb]
 obtain ⟨g2,ow2,ro2,e2,bx2,_⟩:=bx_do hcl (d:=30) om bx om (hok x hxm) (hfew.2 x hxm)
 have hi1:(i:Int)+1=((i+1:Nat):Int):=by omega
 rw [<- runS_take hx] at bx2
 clear hok hel hfew bx hc
 refine qx1 ?_
 refine Ops.loadN rfl hbg om ?_
 rw [h5]
 refine qx1 ?_
 rw [hi1]
 exact ih (L.length-(i+1)) om _ _ ⟨i+1,ow2,ro2,rfl,by omega,rfl,bx2⟩
end
end Am.Sigs
