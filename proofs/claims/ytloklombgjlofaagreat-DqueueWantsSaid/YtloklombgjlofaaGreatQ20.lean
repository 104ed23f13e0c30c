/- Our own library, part 20. -/
import Derived.Test.YtloklombgjlofaaGreatQ19
import Derived.Test.YtloklombgjlofaaGreatQ18
import Derived.Test.YtloklombgjlofaaGreatQ17
import Derived.Test.YtloklombgjlofaaGreatQ11
set_option maxHeartbeats 8000000
set_option maxRecDepth 800
set_option linter.all false
namespace Am.Sigs
open Am Go
section
variable {cl:Nat->Call} (hcl:Sem cl) {h:H} {w s:Nat} {ow:Nat->Nat} {l:List WX} {now:Int} {tb:Tb} {no:Option (Nat × Nat)}
include hcl
theorem cw_ok {d m nn:Nat} {t:WX} (hd:5<=d) (K:WsK (wxs l)) (a:WW h w s ow l now tb no) (ht:l[m]?=some t) (hb0:t.x.backlog≠0) (hw1:t.x.e0.what=1) (hm1:1<=nn) (hm2:nn<=65536) (hbk : ¬ t.x.backlog<=t.x.waiting.length) (hfull:l.length<1000) :
  ∃ h' ow',cl d (.fn F.jbt) [.p w 0,.i (m:Int),.i (nn:Int)] h=some (.tup [.i (l.length:Int),.i 0],h') /\
   WSt h' w s ow' ((wxs l).set m { t.x with waiting:=t.x.waiting++[(l.length:Int)],e0 := { t.x.e0 with inn:=upu t.x.e0.inn } } ++ [jbe nn]) now tb no/\To h h' ow ow':=by
 have lw:=a.wf.lw
 have hnone:=jch hcl (d:=d-1) om a.wf
 have hcap:=jh1 hcl (h:=h) (d:=d-1) (n:=(nn:Int)) om
 rw [decide_eq_true om] at hcap
 obtain ⟨sa,c,hw,hsl⟩:=a.wf.head
 have c1:(wc (fun i=>atS (wxs l) (i:Int)) (.slice sa l.length c) s now no)[0+288]?=some (.slice sa l.length c):=jbd rfl
 have hlt:=x_lt ht
 obtain ⟨z,rfl,z1,z2,z3⟩:=hsl (by rintro rfl;simp at hlt)
 have hx:=jam ht
 have X:=a.wf.ok m t ht
 have hwb:=X.lx
 have w2:(wps l)[0+(m:Int).toNat*1]?=some (.p t.wb 0):=by rw [show 0+(m:Int).toNat*1=m by omega];exact jdq ht
 have gt:h.get t.wb=some (.cells (t.x.cells t.r0 t.r1 t.wv) false):=X.hx
 have hvi:=X.wait.1
 obtain ⟨av,cv,hva,_⟩:=id hvi
 rw [hva] at gt hvi
 have hnw : ¬ t.x.e0.what≠1:=fun e=>e hw1
 have hl2 : ¬ 1000<=(l.length:Int):=by omega
 have hwt:=(K.ok.wait t.x (zb hx)).1
 obtain ⟨h1,e1,x1,o1,g0,g2,g1,g4,g3⟩:=jmL hcl (h:=h) (n:=nn) (d:=d-1) om hm2
 simp only [joL,Wi.obj,Wi.cells,En.cells,List.cons_append,List.nil_append] at g0
 suffices q : ∃ v h',cl d (.fn F.jbt) [.p w 0,.i (m:Int),.i (nn:Int)] h=some (v,h') /\ ∃ ow',v = .tup [.i (l.length:Int),.i 0]/\WSt h' w s ow' ((wxs l).set m { t.x with waiting:=t.x.waiting++[(l.length:Int)],e0 := { t.x.e0 with inn:=upu t.x.e0.inn } } ++ [jbe nn]) now tb no/\To h h' ow ow' by
  obtain ⟨_,h',e,ow',rfl,q⟩:=q;exact ⟨h',ow',e,q⟩
 refine at_ hcl om rfl rfl rfl ?_
 obtain ⟨C,hC⟩ : ∃ C,C=c95_3:=⟨_,rfl⟩
 simp only [c95,c95_10,c95_5,c95_4,yB,yC]
 rw [<- hC]
 have gw1:h1.get w=some _:=(o1.2 _ lw).trans hw
 have gz1:h1.get z=some _:=(o1.2 _ z1).trans z3
 have gt1:h1.get t.wb=some _:=(o1.2 _ hwb).trans gt
 refine qs1 ?_
 refine Run.opqh fun H1 hH1=>?_
 have xH:H1.nx=h1.nx:=by rw [hH1];rfl
 have kH : ∀ j,j≠h.nx->H1.get j=h1.get j:=fun j hj=>by rw [hH1,jaa hj]
 have oH:Old h H1:=⟨by have:=o1.1;omega,fun j hj=>by rw [kH j om,o1.2 j hj]⟩
 have gN:H1.get h.nx=some ((jbe nn).obj (h.nx+2) (h.nx+4) .nils):=by rw [hH1];exact jab _
 clear hH1 gw1 gz1 gt1
 rw [hC]
 refine cw_mid hcl om K a ht hwt hfull oH om gN fun k hk=>?_
 rcases hk with rfl | rfl
 ·exact (jee hm1 hm2 g2 g1).keep (kH _ (by show h.nx+2≠h.nx;omega)) (kH _ (by show h.nx+1≠h.nx;omega))
 ·exact (jee hm1 hm2 g4 g3).keep (kH _ (by show h.nx+4≠h.nx;omega)) (kH _ (by show h.nx+3≠h.nx;omega))
end
section
variable {cl:Nat->Call} (hcl:Sem cl) {h:H} {w s:Nat} {ow:Nat->Nat} {ws:Ws} {now:Int} {tb:Tb} {no:Option (Nat × Nat)}
include hcl
theorem jlI {d:Nat} {n many:Int} (hd:5<=d) (K:WsK ws) (a:WSt h w s ow ws now tb no) :
  ∃ h' ow',cl d (.fn F.jbt) [.p w 0,.i n,.i many] h=some (.tup [.i (jas ws n many).1.1,.i (jas ws n many).1.2],h')/\WSt h' w s ow' (jas ws n many).2 now tb no/\To h h' ow ow':=by
 obtain ⟨l,a,rfl⟩:=a
 have K':=jgZ (n:=n) (many:=many) K
 have lw:=a.wf.lw
 have hnone:=jch hcl (d:=d-1) om a.wf
 have hcap:=jh1 hcl (h:=h) (d:=d-1) (n:=many) om
 have hwl:(wxs l).length=l.length:=by simp
 have hol:l.length<=1000:=by have:=K.ok.len;omega
 obtain ⟨sa,c,hw,hsl⟩:=a.wf.head
 have c1:(wc (fun i=>atS (wxs l) (i:Int)) (.slice sa l.length c) s now no)[0+288]?=some (.slice sa l.length c):=jbd rfl
 suffices q : ∃ v h',cl d (.fn F.jbt) [.p w 0,.i n,.i many] h=some (v,h') /\ ∃ ow',v = .tup [.i (jas (wxs l) n many).1.1,.i (jas (wxs l) n many).1.2]/\WSt h' w s ow' (jas (wxs l) n many).2 now tb no/\To h h' ow ow' by
  obtain ⟨_,h',e,ow',rfl,q⟩:=q;exact ⟨h',ow',e,q⟩
 by_cases hall : ∃ (m nn:Nat) (t:WX),n=m/\many=nn/\l[m]?=some t/\t.x.backlog≠0/\t.x.e0.what=1/\1<=nn/\nn<=65536 /\ ¬ t.x.backlog<=t.x.waiting.length/\l.length<1000
 ·obtain ⟨m,nn,t,rfl,rfl,ht,hb0,hw1,hm1,hm2,hbk,hfull⟩:=hall
  obtain ⟨h',ow',e,q⟩:=cw_ok hcl hd K a ht hb0 hw1 hm1 hm2 hbk hfull
  have hS:jas (wxs l) m nn=(((l.length:Int),(0:Int)),(wxs l).set m { t.x with waiting:=t.x.waiting++[(l.length:Int)],e0 := { t.x.e0 with inn:=upu t.x.e0.inn } } ++ [jbe nn]):=by
   unfold jas
   rw [if_neg om,zu,jam ht]
   simp only
   rw [if_neg (by rintro (e | e);(exact hb0 e);exact e hw1),if_neg om,if_neg hbk,if_neg om,hwl]
  rw [hS]
  exact ⟨_,h',e,ow',rfl,q⟩
 refine at_ hcl om rfl rfl rfl ?_
 have same:WSt h w s ow (wxs l) now tb no:=⟨l,a,rfl⟩
 by_cases hn:n<0
 ·have hS:jas (wxs l) n many=((0,116),wxs l):=if_pos hn
  rw [hS]
  refine qx1 ?_
  all_goals first | exact ⟨ow,rfl,same,To.refl _ _⟩ | (exfalso;omega)
 have hS:jas (wxs l) n many=_:=if_neg hn
 obtain ⟨m,rfl⟩:=zx (show 0<=n by omega)
 rw [zu] at hS
 by_cases hlt:m<l.length
 case neg=>
  rw [zc om] at hS
  have hS:jas (wxs l) m many=((0,116),wxs l):=hS
  rw [hS]
  refine qx1 ?_
  all_goals first | exact ⟨ow,rfl,same,To.refl _ _⟩ | (exfalso;omega)
 obtain ⟨t,ht⟩ : ∃ t,l[m]?=some t:=⟨_,za hlt⟩
 obtain ⟨z,rfl,z1,z2,z3⟩:=hsl (by rintro rfl;simp at hlt)
 have hx:=jam ht
 rw [hx] at hS
 simp only at hS
 have X:=a.wf.ok m t ht
 have hwb:=X.lx
 have w2:(wps l)[0+(m:Int).toNat*1]?=some (.p t.wb 0):=by rw [show 0+(m:Int).toNat*1=m by omega];exact jdq ht
 have gt:h.get t.wb=some (.cells (t.x.cells t.r0 t.r1 t.wv) false):=X.hx
 obtain ⟨av,cv,hva,_⟩:=id X.wait.1
 rw [hva] at gt
 by_cases hb0:t.x.backlog=0
 ·have hS:jas (wxs l) m many=((0,116),wxs l):=by rw [hS,if_pos (.inl hb0)]
  rw [hS]
  refine qx1 ?_
  all_goals first | exact ⟨ow,rfl,same,To.refl _ _⟩ | (exfalso;omega)
 by_cases hw1:t.x.e0.what=1
 case neg=>
  have hS:jas (wxs l) m many=((0,116),wxs l):=by rw [hS,if_pos (.inr hw1)]
  rw [hS]
  refine qx1 ?_
  all_goals first | exact ⟨ow,rfl,same,To.refl _ _⟩ | (exfalso;omega)
 rw [if_neg (by rintro (e | e);(exact hb0 e);exact e hw1)] at hS
 have hnw : ¬ t.x.e0.what≠1:=fun e=>e hw1
 by_cases hm:many<1\/65536<many
 ·have hS:jas (wxs l) m many=((0,2),wxs l):=by rw [hS,if_pos hm]
  rw [hS]
  rw [decide_eq_false om] at hcap
  clear hm
  refine qx1 ?_
  all_goals first | exact ⟨ow,rfl,same,To.refl _ _⟩ | (exfalso;omega)
 rw [if_neg hm] at hS
 have hm1:1<=many:=by omega
 have hm2:many<=65536:=by omega
 clear hm
 rw [decide_eq_true om] at hcap
 by_cases hbk:t.x.backlog<=t.x.waiting.length
 ·have hS:jas (wxs l) m many=((0,113),wxs l):=by rw [hS,if_pos hbk]
  rw [hS]
  refine qx1 ?_
  all_goals first | exact ⟨ow,rfl,same,To.refl _ _⟩ | (exfalso;omega)
 rw [if_neg hbk,hwl] at hS
 by_cases hfull:1000<=l.length
 ·have hS:jas (wxs l) m many=((0,112),wxs l):=by rw [hS,if_pos hfull]
  rw [hS]
  have hl2:(1000:Int)<=(l.length:Int):=by omega
  refine qx1 ?_
  all_goals first | exact ⟨ow,rfl,same,To.refl _ _⟩ | (exfalso;omega)
 rw [if_neg hfull] at hS
 obtain ⟨nn,rfl⟩:=zx (show 0<=many by omega)
 exact absurd ⟨m,nn,t,rfl,rfl,ht,hb0,hw1,by omega,by omega,hbk,by omega⟩ hall
end
section
variable {cl:Nat->Call} (hcl:Sem cl) {h:H} {p w s rw:Nat} {ow:Nat->Nat} {ro dat:Nat->Prop} {st:St} {a n t:Int} {dv vd:V} {D:List UInt8}
include hcl
theorem mo_9 {d i:Nat} (hd:15<=d) (b:BB h p w s rw ow ro dat st st) (so:StOk st i) (hi:i<=200) (hD:Dat h dat dv D) (hC:Cpy h p ow ro dat vd D) :
  jdb cl d F.jaf h p w s rw ow ro dat [.p p 0,.agg (opV 9 a n t dv),vd] (doS 9 a n t D st):=by
 have o0:Old h (h.new (.cells (opV 9 a n t dv) false)):=(Old.refl h).new
 have b0:=b.old o0
 have f0:=Fm.old (ow:=ow) (ro:=ro) o0
 have hD0:=hD.keep b f0
 have hC0:=hC.keep f0
 have hl300:=hD.len
 have g0:(h.new (.cells (opV 9 a n t dv) false)).get h.nx=some (.cells (opV 9 a n t dv) false):=jac _
 have x0:h.nx<(h.new (.cells (opV 9 a n t dv) false)).nx:=by simp
 have z0:ow h.nx=0:=b.W.top (zp _)
 have hp0:=b0.hp
 have lp:=b.lp
 have hok:st.tb.ok 1000000:=so.tb.mono om
 have hS:doS 9 a n t D st = { st with ws:=(putS st.ws a D).2 } := by simp [doS]
 rw [hS]
 obtain ⟨h1,e1,W1,t1⟩:=ww_Put hcl (d:=d-1) (n:=a) om b0.W so.K.ok hC0.v om (fun z hz=>(hC0.z z hz).2.1)
 have b1:=b0.wc (a' := { st with ws:=(putS st.ws a D).2 }) W1 t1
 have g1:=b0.off_w t1 x0 z0 g0
 have hp1:=b1.hp
 obtain ⟨v,h2,e2,b2,f2,rfl⟩:=b1.rc hcl (d:=d-1) (f:=F.jbo) (args:=[.p rw 0,.i a,dv]) (r' := { st with ws:=(putS st.ws a D).2 }) (P:=fun _ v=>v = .tup [.i (putS st.ws a D).1.1,.i (putS st.ws a D).1.2]) (fun _ _ _ _ h=>h) (fun g q l ga gn hq wR hl=>by
  have oR:WsOk (l.map RX.x):=by rw [hl];exact so.K.ok
  obtain ⟨q1,q2⟩:=(hD0.keep b0 (Fm.to t1)).in_ b1 ga gn hq
  obtain ⟨l',g',k1,k2,k3,k4⟩:=rq_Put hcl (d:=d-1) (n:=a) om wR oR q1 om q2
  rw [hl] at k1 k3
  exact ⟨_,q,l',g',k1,k2,k3,k4,.inl rfl,rfl⟩)
 clear so hD hC hD0 hC0 hok hl300 hS
 refine ⟨h2,_,_,jak (at_ hcl om rfl rfl rfl ?_),b2,Fm.two o0 t1 f2⟩
 refine qm1 ?_
 exact ⟨by simp,rfl⟩
theorem mo_11 {d i:Nat} (hd:15<=d) (b:BB h p w s rw ow ro dat st st) (so:StOk st i) (hi:i<=200) (hD:Dat h dat dv D) (hC:Cpy h p ow ro dat vd D) :
  jdb cl d F.jaf h p w s rw ow ro dat [.p p 0,.agg (opV 11 a n t dv),vd] (doS 11 a n t D st):=by
 have o0:Old h (h.new (.cells (opV 11 a n t dv) false)):=(Old.refl h).new
 have b0:=b.old o0
 have f0:=Fm.old (ow:=ow) (ro:=ro) o0
 have hD0:=hD.keep b f0
 have hC0:=hC.keep f0
 have hl300:=hD.len
 have g0:(h.new (.cells (opV 11 a n t dv) false)).get h.nx=some (.cells (opV 11 a n t dv) false):=jac _
 have x0:h.nx<(h.new (.cells (opV 11 a n t dv) false)).nx:=by simp
 have z0:ow h.nx=0:=b.W.top (zp _)
 have hp0:=b0.hp
 have lp:=b.lp
 have hok:st.tb.ok 1000000:=so.tb.mono om
 have hS:doS 11 a n t D st = { st with ws:=(jaK st.ws a).2 } := by simp [doS]
 rw [hS]
 obtain ⟨h1,e1,W1,t1⟩:=jjU hcl (d:=d-1) (n:=a) om b0.W
 have b1:=b0.wc (a' := { st with ws:=(jaK st.ws a).2 }) W1 t1
 have g1:=b0.off_w t1 x0 z0 g0
 have hp1:=b1.hp
 obtain ⟨v,h2,e2,b2,f2,rfl⟩:=b1.rc hcl (d:=d-1) (f:=F.jaJ) (args:=[.p rw 0,.i a]) (r' := { st with ws:=(jaK st.ws a).2 }) (P:=fun _ v=>v = .i (jaK st.ws a).1) (fun _ _ _ _ h=>h) (fun g q l ga gn hq wR hl=>by
  have oR:WsOk (l.map RX.x):=by rw [hl];exact so.K.ok
  obtain ⟨l',g',k1,k2,k3,k4⟩:=jke hcl (d:=d-1) (n:=a) om wR
  rw [hl] at k1 k3
  exact ⟨_,q,l',g',k1,k2,k3,k4,.inl rfl,rfl⟩)
 clear so hD hC hD0 hC0 hok hl300 hS
 refine ⟨h2,_,_,jak (at_ hcl om rfl rfl rfl ?_),b2,Fm.two o0 t1 f2⟩
 refine qm1 ?_
 exact ⟨by simp,rfl⟩
theorem mo_12 {d i:Nat} (hd:15<=d) (b:BB h p w s rw ow ro dat st st) (so:StOk st i) (hi:i<=200) (hD:Dat h dat dv D) (hC:Cpy h p ow ro dat vd D) :
  jdb cl d F.jaf h p w s rw ow ro dat [.p p 0,.agg (opV 12 a n t dv),vd] (doS 12 a n t D st):=by
 have o0:Old h (h.new (.cells (opV 12 a n t dv) false)):=(Old.refl h).new
 have b0:=b.old o0
 have f0:=Fm.old (ow:=ow) (ro:=ro) o0
 have hD0:=hD.keep b f0
 have hC0:=hC.keep f0
 have hl300:=hD.len
 have g0:(h.new (.cells (opV 12 a n t dv) false)).get h.nx=some (.cells (opV 12 a n t dv) false):=jac _
 have x0:h.nx<(h.new (.cells (opV 12 a n t dv) false)).nx:=by simp
 have z0:ow h.nx=0:=b.W.top (zp _)
 have hp0:=b0.hp
 have lp:=b.lp
 have hok:st.tb.ok 1000000:=so.tb.mono om
 have hS:doS 12 a n t D st = { st with ws:=(ja5 st.ws a).2 } := by simp [doS]
 rw [hS]
 obtain ⟨h1,e1,W1,t1⟩:=jiT hcl (d:=d-1) (n:=a) om b0.W
 have b1:=b0.wc (a' := { st with ws:=(ja5 st.ws a).2 }) W1 t1
 have g1:=b0.off_w t1 x0 z0 g0
 have hp1:=b1.hp
 obtain ⟨v,h2,e2,b2,f2,rfl⟩:=b1.rc hcl (d:=d-1) (f:=F.jaF) (args:=[.p rw 0,.i a]) (r' := { st with ws:=(ja5 st.ws a).2 }) (P:=fun _ v=>v = .i (ja5 st.ws a).1) (fun _ _ _ _ h=>h) (fun g q l ga gn hq wR hl=>by
  have oR:WsOk (l.map RX.x):=by rw [hl];exact so.K.ok
  obtain ⟨l',g',k1,k2,k3,k4⟩:=jjc hcl (d:=d-1) (n:=a) om wR
  rw [hl] at k1 k3
  exact ⟨_,q,l',g',k1,k2,k3,k4,.inl rfl,rfl⟩)
 clear so hD hC hD0 hC0 hok hl300 hS
 refine ⟨h2,_,_,jak (at_ hcl om rfl rfl rfl ?_),b2,Fm.two o0 t1 f2⟩
 refine qm1 ?_
 exact ⟨by simp,rfl⟩
theorem mo_13 {d i:Nat} (hd:15<=d) (b:BB h p w s rw ow ro dat st st) (so:StOk st i) (hi:i<=200) (hD:Dat h dat dv D) (hC:Cpy h p ow ro dat vd D) :
  jdb cl d F.jaf h p w s rw ow ro dat [.p p 0,.agg (opV 13 a n t dv),vd] (doS 13 a n t D st):=by
 have o0:Old h (h.new (.cells (opV 13 a n t dv) false)):=(Old.refl h).new
 have b0:=b.old o0
 have f0:=Fm.old (ow:=ow) (ro:=ro) o0
 have hD0:=hD.keep b f0
 have hC0:=hC.keep f0
 have hl300:=hD.len
 have g0:(h.new (.cells (opV 13 a n t dv) false)).get h.nx=some (.cells (opV 13 a n t dv) false):=jac _
 have x0:h.nx<(h.new (.cells (opV 13 a n t dv) false)).nx:=by simp
 have z0:ow h.nx=0:=b.W.top (zp _)
 have hp0:=b0.hp
 have lp:=b.lp
 have hok:st.tb.ok 1000000:=so.tb.mono om
 have hS:doS 13 a n t D st = { st with ws:=(jcd st.ws a).2 } := by simp [doS]
 rw [hS]
 obtain ⟨h1,e1,W1,t1⟩:=ww_Reset hcl (d:=d-1) (n:=a) om b0.W so.K.ok
 have b1:=b0.wc (a' := { st with ws:=(jcd st.ws a).2 }) W1 t1
 have g1:=b0.off_w t1 x0 z0 g0
 have hp1:=b1.hp
 obtain ⟨v,h2,e2,b2,f2,rfl⟩:=b1.rc hcl (d:=d-1) (f:=F.jaW) (args:=[.p rw 0,.i a]) (r' := { st with ws:=(jcd st.ws a).2 }) (P:=fun _ v=>v = .i (jcd st.ws a).1) (fun _ _ _ _ h=>h) (fun g q l ga gn hq wR hl=>by
  have oR:WsOk (l.map RX.x):=by rw [hl];exact so.K.ok
  obtain ⟨l',g',k1,k2,k3,k4⟩:=rq_Reset hcl (d:=d-1) (n:=a) om wR oR
  rw [hl] at k1 k3
  exact ⟨_,q,l',g',k1,k2,k3,k4,.inl rfl,rfl⟩)
 clear so hD hC hD0 hC0 hok hl300 hS
 refine ⟨h2,_,_,jak (at_ hcl om rfl rfl rfl ?_),b2,Fm.two o0 t1 f2⟩
 refine qm1 ?_
 exact ⟨by simp,rfl⟩
theorem mo_14 {d i:Nat} (hd:15<=d) (b:BB h p w s rw ow ro dat st st) (so:StOk st i) (hi:i<=200) (hD:Dat h dat dv D) (hC:Cpy h p ow ro dat vd D) :
  jdb cl d F.jaf h p w s rw ow ro dat [.p p 0,.agg (opV 14 a n t dv),vd] (doS 14 a n t D st):=by
 have o0:Old h (h.new (.cells (opV 14 a n t dv) false)):=(Old.refl h).new
 have b0:=b.old o0
 have f0:=Fm.old (ow:=ow) (ro:=ro) o0
 have hD0:=hD.keep b f0
 have hC0:=hC.keep f0
 have hl300:=hD.len
 have g0:(h.new (.cells (opV 14 a n t dv) false)).get h.nx=some (.cells (opV 14 a n t dv) false):=jac _
 have x0:h.nx<(h.new (.cells (opV 14 a n t dv) false)).nx:=by simp
 have z0:ow h.nx=0:=b.W.top (zp _)
 have hp0:=b0.hp
 have lp:=b.lp
 have hok:st.tb.ok 1000000:=so.tb.mono om
 have hS:doS 14 a n t D st = { st with ws:=(jas st.ws a n).2 } := by simp [doS]
 rw [hS]
 obtain ⟨h1,ow1,e1,W1,t1⟩:=jlI hcl (d:=d-1) (n:=a) (many:=n) om so.K b0.W
 have b1:=b0.wc (a' := { st with ws:=(jas st.ws a n).2 }) W1 t1
 have g1:=b0.off_w t1 x0 z0 g0
 have hp1:=b1.hp
 obtain ⟨v,h2,e2,b2,f2,rfl⟩:=b1.rc hcl (d:=d-1) (f:=F.jaQ) (args:=[.p rw 0,.i a,.i n]) (r' := { st with ws:=(jas st.ws a n).2 }) (P:=fun _ v=>v = .tup [.i (jas st.ws a n).1.1,.i (jas st.ws a n).1.2]) (fun _ _ _ _ h=>h) (fun g q l ga gn hq wR hl=>by
  have oR:WsOk (l.map RX.x):=by rw [hl];exact so.K.ok
  obtain ⟨q',l',g',k1,k2,k3,k4,k5⟩:=jlV hcl (d:=d-1) (n:=a) (many:=n) om wR oR
  rw [hl] at k1 k3
  exact ⟨_,q',l',g',k1,k2,k3,k4,k5,rfl⟩)
 clear so hD hC hD0 hC0 hok hl300 hS
 refine ⟨h2,_,_,jak (at_ hcl om rfl rfl rfl ?_),b2,Fm.two o0 t1 f2⟩
 refine qm1 ?_
 exact ⟨by simp,rfl⟩
end
section
variable {cl:Nat->Call} (hcl:Sem cl) {h:H} {p w s rw:Nat} {ow:Nat->Nat} {ro dat:Nat->Prop} {st:St} {a n t:Int} {dv vd:V} {D:List UInt8}
include hcl
theorem mo_15 {d i:Nat} (hd:15<=d) (b:BB h p w s rw ow ro dat st st) (so:StOk st i) (hi:i<=200) (hD:Dat h dat dv D) (hC:Cpy h p ow ro dat vd D) (t0:0<=t) (t1:t<=18446744073709551615) :
  jdb cl d F.jaf h p w s rw ow ro dat [.p p 0,.agg (opV 15 a n t dv),vd] (doS 15 a n t D st):=by
 have o0:Old h (h.new (.cells (opV 15 a n t dv) false)):=(Old.refl h).new
 have b0:=b.old o0
 have f0:=Fm.old (ow:=ow) (ro:=ro) o0
 have hD0:=hD.keep b f0
 have hC0:=hC.keep f0
 have hl300:=hD.len
 have g0:(h.new (.cells (opV 15 a n t dv) false)).get h.nx=some (.cells (opV 15 a n t dv) false):=jac _
 have x0:h.nx<(h.new (.cells (opV 15 a n t dv) false)).nx:=by simp
 have z0:ow h.nx=0:=b.W.top (zp _)
 have hp0:=b0.hp
 have lp:=b.lp
 have hok:st.tb.ok 1000000:=so.tb.mono om
 have hS:doS 15 a n t D st = { st with now:=jgc st.now t } := by simp [doS]
 rw [hS]
 obtain ⟨h1,e1,W1,tt1⟩:=ww_Pass hcl (d:=d-1) om b0.W so.now.1 so.now.2 t0 t1
 have b1:=b0.wc (a' := { st with now:=jgc st.now t }) W1 tt1
 have g1:=b0.off_w tt1 x0 z0 g0
 have hp1:=b1.hp
 obtain ⟨v,h2,e2,b2,f2,rfl⟩:=b1.rc hcl (d:=d-1) (f:=F.jbF) (args:=[.p rw 0,.int .u64 t]) (r' := { st with now:=jgc st.now t }) (P:=fun _ v=>v = .tup []) (fun _ _ _ _ h=>h) (fun g q l ga gn hq wR hl=>by
  have oR:WsOk (l.map RX.x):=by rw [hl];exact so.K.ok
  obtain ⟨g',k1,k2,k4⟩:=rq_Pass hcl (d:=d-1) om wR so.now.1 so.now.2 t0 t1
  skip
  exact ⟨_,q,l,g',k1,k2,hl,k4,.inl rfl,rfl⟩)
 clear so hD hC hD0 hC0 hok hl300 hS
 refine ⟨h2,_,_,jak (at_ hcl om rfl rfl rfl ?_),b2,Fm.two o0 tt1 f2⟩
 refine qm1 ?_
 exact ⟨by simp,rfl⟩
theorem mo_16 {d i:Nat} (hd:15<=d) (b:BB h p w s rw ow ro dat st st) (so:StOk st i) (hi:i<=200) (hD:Dat h dat dv D) (hC:Cpy h p ow ro dat vd D) :
  jdb cl d F.jaf h p w s rw ow ro dat [.p p 0,.agg (opV 16 a n t dv),vd] (doS 16 a n t D st):=by
 have o0:Old h (h.new (.cells (opV 16 a n t dv) false)):=(Old.refl h).new
 have b0:=b.old o0
 have f0:=Fm.old (ow:=ow) (ro:=ro) o0
 have hD0:=hD.keep b f0
 have hC0:=hC.keep f0
 have hl300:=hD.len
 have g0:(h.new (.cells (opV 16 a n t dv) false)).get h.nx=some (.cells (opV 16 a n t dv) false):=jac _
 have x0:h.nx<(h.new (.cells (opV 16 a n t dv) false)).nx:=by simp
 have z0:ow h.nx=0:=b.W.top (zp _)
 have hp0:=b0.hp
 have lp:=b.lp
 have hok:st.tb.ok 1000000:=so.tb.mono om
 have hS:doS 16 a n t D st = { st with ws:=jar st.ws ((st.tb.handle a (decide (0<n))).sum 32) (noI st.no) (siI st.no),tb:=st.tb.handle a (decide (0<n)) } := by simp [doS]
 rw [hS]
 obtain ⟨h1,e1,W1,t1⟩:=ww_Handle hcl (d:=d-1) (sg:=a) (on:=decide (0<n)) om b0.W so.nt (jj7 hok om _ _)
 have b1:=b0.wc (a' := { st with ws:=jar st.ws ((st.tb.handle a (decide (0<n))).sum 32) (noI st.no) (siI st.no),tb:=st.tb.handle a (decide (0<n)) }) W1 t1
 have g1:=b0.off_w t1 x0 z0 g0
 have hp1:=b1.hp
 obtain ⟨v,h2,e2,b2,f2,rfl⟩:=b1.rc hcl (d:=d-1) (f:=F.jaS) (args:=[.p rw 0,.i a,.bool (decide (0<n))]) (r' := { st with ws:=jar st.ws ((st.tb.handle a (decide (0<n))).sum 32) (noI st.no) (siI st.no),tb:=st.tb.handle a (decide (0<n)) }) (P:=fun _ v=>v = .i (if sig? a then 0 else 100)) (fun _ _ _ _ h=>h) (fun g q l ga gn hq wR hl=>by
  have oR:WsOk (l.map RX.x):=by rw [hl];exact so.K.ok
  obtain ⟨l',g',k1,k2,k3,k4⟩:=rq_Handle hcl (d:=d-1) (s:=a) (on:=decide (0<n)) om wR oR (by rw [hl];exact so.nt) hok
  rw [hl,<- jgJ,<- joc] at k3
  rw [<- jgJ,<- handle_hd] at k2
  exact ⟨_,q,l',g',k1,k2,k3,k4,.inl rfl,rfl⟩)
 clear so hD hC hD0 hC0 hok hl300 hS
 refine ⟨h2,_,_,jak (at_ hcl om rfl rfl rfl ?_),b2,Fm.two o0 t1 f2⟩
 refine qm1 ?_
 exact ⟨by simp,rfl⟩
theorem mo_17 {d i:Nat} (hd:15<=d) (b:BB h p w s rw ow ro dat st st) (so:StOk st i) (hi:i<=200) (hD:Dat h dat dv D) (hC:Cpy h p ow ro dat vd D) :
  jdb cl d F.jaf h p w s rw ow ro dat [.p p 0,.agg (opV 17 a n t dv),vd] (doS 17 a n t D st):=by
 have o0:Old h (h.new (.cells (opV 17 a n t dv) false)):=(Old.refl h).new
 have b0:=b.old o0
 have f0:=Fm.old (ow:=ow) (ro:=ro) o0
 have hD0:=hD.keep b f0
 have hC0:=hC.keep f0
 have hl300:=hD.len
 have g0:(h.new (.cells (opV 17 a n t dv) false)).get h.nx=some (.cells (opV 17 a n t dv) false):=jac _
 have x0:h.nx<(h.new (.cells (opV 17 a n t dv) false)).nx:=by simp
 have z0:ow h.nx=0:=b.W.top (zp _)
 have hp0:=b0.hp
 have lp:=b.lp
 have hok:st.tb.ok 1000000:=so.tb.mono om
 have hS:doS 17 a n t D st = { st with ws:=jar st.ws ((st.tb.raise a).sum 32) (noI st.no) (siI st.no),tb:=st.tb.raise a } := by simp [doS]
 rw [hS]
 obtain ⟨h1,e1,W1,t1⟩:=ww_Raise hcl (d:=d-1) (sg:=a) om b0.W so.nt hok (Tb.ok.mono (jlh so.tb a) om)
 have b1:=b0.wc (a' := { st with ws:=jar st.ws ((st.tb.raise a).sum 32) (noI st.no) (siI st.no),tb:=st.tb.raise a }) W1 t1
 have g1:=b0.off_w t1 x0 z0 g0
 have hp1:=b1.hp
 obtain ⟨v,h2,e2,b2,f2,rfl⟩:=b1.rc hcl (d:=d-1) (f:=F.jaX) (args:=[.p rw 0,.i a]) (r' := { st with ws:=jar st.ws ((st.tb.raise a).sum 32) (noI st.no) (siI st.no),tb:=st.tb.raise a }) (P:=fun _ v=>v = .i (if sig? a then 0 else 100)) (fun _ _ _ _ h=>h) (fun g q l ga gn hq wR hl=>by
  have oR:WsOk (l.map RX.x):=by rw [hl];exact so.K.ok
  obtain ⟨l',g',k1,k2,k3,k4⟩:=rq_Raise hcl (d:=d-1) (s:=a) om wR oR (by rw [hl];exact so.nt) (so.tb.mono om)
  rw [hl,<- jij,<- joc] at k3
  rw [<- jij,<- raise_hd st.tb a] at k2
  exact ⟨_,q,l',g',k1,k2,k3,k4,.inl rfl,rfl⟩)
 clear so hD hC hD0 hC0 hok hl300 hS
 refine ⟨h2,_,_,jak (at_ hcl om rfl rfl rfl ?_),b2,Fm.two o0 t1 f2⟩
 refine qm1 ?_
 exact ⟨by simp,rfl⟩
theorem mo_19 {d i:Nat} (hd:15<=d) (b:BB h p w s rw ow ro dat st st) (so:StOk st i) (hi:i<=200) (hD:Dat h dat dv D) (hC:Cpy h p ow ro dat vd D) :
  jdb cl d F.jaf h p w s rw ow ro dat [.p p 0,.agg (opV 19 a n t dv),vd] (doS 19 a n t D st):=by
 have o0:Old h (h.new (.cells (opV 19 a n t dv) false)):=(Old.refl h).new
 have b0:=b.old o0
 have f0:=Fm.old (ow:=ow) (ro:=ro) o0
 have hD0:=hD.keep b f0
 have hC0:=hC.keep f0
 have hl300:=hD.len
 have g0:(h.new (.cells (opV 19 a n t dv) false)).get h.nx=some (.cells (opV 19 a n t dv) false):=jac _
 have x0:h.nx<(h.new (.cells (opV 19 a n t dv) false)).nx:=by simp
 have z0:ow h.nx=0:=b.W.top (zp _)
 have hp0:=b0.hp
 have lp:=b.lp
 have hok:st.tb.ok 1000000:=so.tb.mono om
 have hS:doS 19 a n t D st = { st with ws:=ntW st.ws (st.tb.sum 32) a n,no:=noT st.ws a n st.no } := by simp [doS]
 rw [hS]
 obtain ⟨h1,e1,W1,t1⟩:=ww_Notice hcl (d:=d-1) (x:=a) (y:=n) om b0.W so.K.ok hok
 have b1:=b0.wc (a' := { st with ws:=ntW st.ws (st.tb.sum 32) a n,no:=noT st.ws a n st.no }) W1 t1
 have g1:=b0.off_w t1 x0 z0 g0
 have hp1:=b1.hp
 obtain ⟨v,h2,e2,b2,f2,rfl⟩:=b1.rc hcl (d:=d-1) (f:=F.jaE) (args:=[.p rw 0,.i a,.i n]) (r' := { st with ws:=ntW st.ws (st.tb.sum 32) a n,no:=noT st.ws a n st.no }) (P:=fun _ v=>v = .i (ntS st.ws a n).1) (fun _ _ _ _ h=>h) (fun g q l ga gn hq wR hl=>by
  have oR:WsOk (l.map RX.x):=by rw [hl];exact so.K.ok
  obtain ⟨l',g',k1,k2,k3,k4⟩:=jjb hcl (d:=d-1) (a:=a) (b:=n) om wR oR hok
  rw [hl] at k1
  rw [hl,<- joc] at k3
  rw [hl,<- jow,<- jov] at k2
  exact ⟨_,q,l',g',k1,k2,k3,k4,.inl rfl,rfl⟩)
 clear so hD hC hD0 hC0 hok hl300 hS
 refine ⟨h2,_,_,jak (at_ hcl om rfl rfl rfl ?_),b2,Fm.two o0 t1 f2⟩
 refine qm1 ?_
 exact ⟨by simp,rfl⟩
end
theorem jhG : ∀ {l:List (Int × Int)} {i:Nat} {p:Int × Int},l[i]?=some p->((jce l).drop (i*2)).take 2=[.i p.1,.i p.2]
 | [],i,p,h=>by simp at h
 | x :: l,0,p,h=>by
  simp at h;subst h;rfl
 | x :: l,i+1,p,h=>by
  have e:jce (x :: l) = .i x.1 :: .i x.2 :: jce l:=rfl
  rw [e,show (i+1)*2=i*2+1+1 by omega]
  exact jhG (l:=l) (by simpa using h)
theorem jhF : ∀ l:List (Int × Int),(jce l).length=l.length*2
 | []=>rfl
 | x :: l=>by
  have:=jhF l
  have e:jce (x :: l) = .i x.1 :: .i x.2 :: jce l:=rfl
  rw [e];simp;omega
section
variable {call:Call} {fuel base:Nat} {K:List Fr} {e:Env} {h:H} {Q:Post} {ix:Nat} {dst at_:Option Nat} {ops:List Ins} {keep:List Nat}
end
section
variable {cl:Nat->Call} (hcl:Sem cl) {h:H} {p w s rw:Nat} {ow:Nat->Nat} {ro dat:Nat->Prop} {st:St} {a n t:Int} {dv vd:V} {D:List UInt8}
include hcl
theorem mo_18 {d i:Nat} (hd:15<=d) (b:BB h p w s rw ow ro dat st st) (so:StOk st i) (hi:i<=200) :
  jdb cl d F.jaf h p w s rw ow ro dat [.p p 0,.agg (opV 18 a n t dv),vd] (doS 18 a n t D st):=by
 have o0:Old h (h.new (.cells (opV 18 a n t dv) false)):=(Old.refl h).new
 have b0:=b.old o0
 have g0:(h.new (.cells (opV 18 a n t dv) false)).get h.nx=some (.cells (opV 18 a n t dv) false):=jac _
 have x0:h.nx<(h.new (.cells (opV 18 a n t dv) false)).nx:=by simp
 have z0:ow h.nx=0:=b.W.top (zp _)
 have hp0:=b0.hp
 have lp:=b.lp
 have hok:st.tb.ok 1000000:=so.tb.mono om
 have hS:doS 18 a n t D st = { st with ws:=jar st.ws (st.tb.take.sum 32) (noI st.no) (siI st.no),tb:=st.tb.take } := by simp [doS]
 rw [hS]
 obtain ⟨v1,h1,e1,row1,W1,t1⟩:=jlH hcl (d:=d-1) om b0.W so.nt (jmQ hok om)
 have b1:=b0.wc (a' := { st with ws:=jar st.ws (st.tb.take.sum 32) (noI st.no) (siI st.no),tb:=st.tb.take }) W1 t1
 have g1:=b0.off_w t1 x0 z0 g0
 have hp1:=b1.hp
 obtain ⟨v2,h2,e2,b2,f2,row2⟩:=b1.rc hcl (d:=d-1) (f:=F.jaP) (args:=[.p rw 0]) (r' := { st with ws:=jar st.ws (st.tb.take.sum 32) (noI st.no) (siI st.no),tb:=st.tb.take })
  (P:=fun g v=>Row h1.nx g 2 v (jcc st.tb.pd 31).length (jce (jcc st.tb.pd 31))) (fun _ _ _ m r=>Row.mono m r) (fun g q l ga gn hq wR hl=>by
  have oR:WsOk (l.map RX.x):=by rw [hl];exact so.K.ok
  obtain ⟨v2,l',g',k1,k0,k2,k3,k4⟩:=jlT hcl (d:=d-1) om wR oR (by rw [hl];exact so.nt) hok
  rw [hl,<- jjZ,<- joc] at k3
  rw [<- jjZ] at k2
  rw [gn] at k0
  exact ⟨_,q,l',g',k1,k2,k3,k4,.inl rfl,k0⟩)
 have hcs:(st.tb.cnts 32).map (fun p=>((p.1:Int),p.2))=jcc st.tb.pd 31:=jjG (fun k=>(hok k).1) 31
 have row1:Row (h.new (.cells (opV 18 a n t dv) false)).nx h1 2 v1 (jcc st.tb.pd 31).length (jce (jcc st.tb.pd 31)):=by
  rw [jhc,hcs] at row1
  rw [<- hcs,List.length_map];rw [hcs];exact row1
 have row3:Row (h.new (.cells (opV 18 a n t dv) false)).nx h2 2 v1 (jcc st.tb.pd 31).length (jce (jcc st.tb.pd 31)):=row1.keep f2.ch.nx fun z hz=>f2.ch.get z (row1.at_ge hz).2 fun e=>e.elim (fun e=>e (b0.W.top (row1.at_ge hz).1)) fun e=>by
  have:=b0.ro_lt (.inl e)
  have:=(row1.at_ge hz).1
  omega
 have hlen:=jgz st.tb.pd 31
 generalize jcc st.tb.pd 31=L at row3 row2 hlen
 clear row1 hcs hok so hS
 obtain ⟨c1,⟨a1,rfl⟩,ix1⟩:=row3.shape
 obtain ⟨c2,⟨a2,rfl⟩,ix2⟩:=row2.shape
 suffices q : ∃ v' h',cl d (.fn F.jaf) [.p p 0,.agg (opV 18 a n t dv),vd] h=some (v',h')/\(v' = .bool true/\h'=h2) by
  obtain ⟨_,_,e,rfl,rfl⟩:=q
  exact ⟨_,_,_,e,b2,Fm.two o0 t1 f2⟩
 refine at_ hcl om rfl rfl rfl ?_
 clear b b0 b1 b2 f2 t1 W1 row2 row3
 refine qm1 ?_
 refine Run.loop (fun m e g=>∃ k:Nat,m=L.length-k/\k<=L.length/\g=h2/\e=[(24,.slice a1 L.length c1),(25,.slice a2 L.length c2),(267,.i (L.length:Int)),(268,.i (k:Int))])
  (k:=L.length) Ze ⟨0,rfl,by omega,rfl,rfl⟩ ?_
 rintro _ _ g ⟨k,rfl,hk4,rfl,rfl⟩ n2 ih2
 by_cases hlt2:(k:Int)<L.length
 case neg=>
  clear ih2 ix1 ix2
  refine qm1 ?_
  exact ⟨rfl,rfl⟩
 obtain ⟨q1,y1,y2,y3,y4⟩:=ix1 k om
 cases y3
 obtain ⟨q2,z1,z2,z3,z4⟩:=ix2 k om
 cases z3
 have hp2:=za (show k<L.length by omega)
 generalize L[k]=pr at hp2
 have hg:=jhG hp2
 have hl2:=jhF L
 have hk1:(k:Int)+1=((k+1:Nat):Int):=by omega
 have hg':((jce L).drop (0+(k:Int).toNat*2)).take 2=[.i pr.1,.i pr.2]:=by rw [<- hg,zu,Nat.zero_add]
 clear ix1 ix2 e1 e2
 refine qm1 ?_
 refine Ops.loadN rfl y4 om ?_
 rw [hg']
 refine qm1 ?_
 refine Ops.loadN rfl z4 om ?_
 rw [hg']
 repeat' (first|refine qmy ?_|refine zbf rfl (fun _=>?_) fun _=>?_|refine zbg rfl (fun _=>?_) fun _=>?_|refine zbh rfl (fun _=>?_) fun _=>?_|refine zbm rfl (fun _=>?_) fun _=>?_|refine zbn rfl (fun _=>?_) fun _=>?_)
 ·rename_i hx
  simp at hx
 rw [hk1]
 exact ih2 (L.length-(k+1)) om _ _ ⟨k+1,rfl,by omega,rfl,rfl⟩
end
theorem VB.lt {h:H} {v:V} {l:List UInt8} (a:VB h v l) (hl:l≠[]) {z:Nat} (hz:v.at?=some z):z<h.nx:=by
 obtain ⟨a,c,rfl,n,f,g⟩:=a
 obtain ⟨b,o,cs,ro,rfl,h1,_⟩:=g hl
 cases hz;exact h1
section
variable {cl:Nat->Call} (hcl:Sem cl) {h:H} {p w s rw:Nat} {ow:Nat->Nat} {ro dat:Nat->Prop} {st:St} {a n t:Int} {dv vd:V} {D:List UInt8}
include hcl
theorem mo_10 {d i:Nat} (hd:15<=d) (b:BB h p w s rw ow ro dat st st) (so:StOk st i) (hi:i<=200) (hD:Dat h dat dv D) (hC:Cpy h p ow ro dat vd D) :
  jdb cl d F.jaf h p w s rw ow ro dat [.p p 0,.agg (opV 10 a n t dv),vd] (doS 10 a n t D st):=by
 have o0:Old h (h.new (.cells (opV 10 a n t dv) false)):=(Old.refl h).new
 have b0:=b.old o0
 have g0:(h.new (.cells (opV 10 a n t dv) false)).get h.nx=some (.cells (opV 10 a n t dv) false):=jac _
 have x0:h.nx<(h.new (.cells (opV 10 a n t dv) false)).nx:=by simp
 have z0:ow h.nx=0:=b.W.top (zp _)
 have hp0:=b0.hp
 have lp:=b.lp
 have hS:doS 10 a n t D st = { st with ws:=(jc5 st.ws a n).2 } := by simp [doS]
 rw [hS]
 obtain ⟨v1,h1,e1,vb1,vz1,W1,t1⟩:=ww_Take hcl (d:=d-1) (n:=a) (many:=n) om b0.W so.K.ok
 have b1:=b0.wc (a' := { st with ws:=(jc5 st.ws a n).2 }) W1 t1
 have g1:=b0.off_w t1 x0 z0 g0
 have hp1:=b1.hp
 obtain ⟨v,h2,e2,b2,f2,hP⟩:=b1.rc hcl (d:=d-1) (f:=F.jbi) (args:=[.p rw 0,.i a,.i n]) (r' := { st with ws:=(jc5 st.ws a n).2 })
  (P:=fun g v=>∃ v2,v = .tup [v2,.i (jc5 st.ws a n).1.2]/\VB g v2 (jc5 st.ws a n).1.1) (fun _ _ _ m ⟨v2,e,hv⟩=>⟨v2,e,hv.mono m⟩) (fun g q l ga gn hq wR hl=>by
  have oR:WsOk (l.map RX.x):=by rw [hl];exact so.K.ok
  obtain ⟨v2,l',g',k1,k0,k2,k3,k4⟩:=rq_Take hcl (d:=d-1) (n:=a) (many:=n) om wR oR
  rw [hl] at k0 k1 k3
  exact ⟨_,q,l',g',k1,k2,k3,k4,.inl rfl,v2,rfl,k0⟩)
 have vb2:VB h2 v1 (jc5 st.ws a n).1.1:=vb1.keep2 f2.ch.nx fun hl z hz=>f2.ch.get z (vb1.lt hl hz) fun e=>e.elim (fun e=>e (b0.W.top (vz1 z hz))) fun e=>by
  have:=b0.ro_lt (.inl e)
  have:=vz1 z hz
  omega
 obtain ⟨a1,c1,rfl,B1⟩:=vb2
 obtain ⟨v2,rfl,a2,c2,rfl,B2⟩:=hP
 clear so hD hC hS
 refine ⟨h2,_,_,jak (at_ hcl om rfl rfl rfl ?_),b2,Fm.two o0 t1 f2⟩
 refine qm1 ?_
 refine Ops.ofBytesAt rfl B1 (zp _) ?_
 refine qm1 ?_
 refine Ops.ofBytesAt rfl B2 (zp _) ?_
 repeat' (first|refine qmy ?_|refine zbf rfl (fun _=>?_) fun _=>?_|refine zbg rfl (fun _=>?_) fun _=>?_|refine zbh rfl (fun _=>?_) fun _=>?_|refine zbm rfl (fun _=>?_) fun _=>?_|refine zbn rfl (fun _=>?_) fun _=>?_)
 ·exact ⟨by simp,rfl⟩
 ·rename_i hx
  simp at hx
theorem mo_20 {d i:Nat} (hd:15<=d) (b:BB h p w s rw ow ro dat st st) (so:StOk st i) :
  jdb cl d F.jaf h p w s rw ow ro dat [.p p 0,.agg (opV 20 a n t dv),vd] (doS 20 a n t D st):=by
 have o0:Old h (h.new (.cells (opV 20 a n t dv) false)):=(Old.refl h).new
 have b0:=b.old o0
 have g0:(h.new (.cells (opV 20 a n t dv) false)).get h.nx=some (.cells (opV 20 a n t dv) false):=jac _
 have x0:h.nx<(h.new (.cells (opV 20 a n t dv) false)).nx:=by simp
 have hp0:=b0.hp
 have lp:=b.lp
 have hS:doS 20 a n t D st=st:=by simp [doS]
 rw [hS]
 obtain ⟨h1,e1,o1⟩:=ww_Wire hcl (d:=d-1) (fd:=a) om b0.W so.K.ok
 have b1:=b0.old o1
 have g1:h1.get h.nx=some (.cells (opV 20 a n t dv) false):=by rw [o1.2 _ x0,g0]
 have hp1:=b1.hp
 obtain ⟨v,h2,e2,b2,f2,rfl⟩:=b1.rc hcl (d:=d-1) (f:=F.jbE) (args:=[.p rw 0,.i a]) (r':=st)
  (P:=fun _ v=>v = .tup [.i (jhl st.ws a).1,.i (jhl st.ws a).2]) (fun _ _ _ _ h=>h) (fun g q l ga gn hq wR hl=>by
  have oR:WsOk (l.map RX.x):=by rw [hl];exact so.K.ok
  have k1:=rq_Wire hcl (d:=d-1) (fd:=a) om wR oR
  rw [hl] at k1
  exact ⟨_,q,l,g,k1,wR,hl,Ch.refl _ _,.inl rfl,rfl⟩)
 clear so hS
 refine ⟨h2,_,_,jak (at_ hcl om rfl rfl rfl ?_),b2,(Fm.old (o0.trans o1)).trans f2⟩
 refine qm1 ?_
 exact ⟨by simp,rfl⟩
theorem mo_no {d:Nat} {k:Int} (hd:15<=d) (b:BB h p w s rw ow ro dat st st) (hk:k<0\/20<k) :
  jdb cl d F.jaf h p w s rw ow ro dat [.p p 0,.agg (opV k a n t dv),vd] (doS k a n t D st):=by
 have o0:Old h (h.new (.cells (opV k a n t dv) false)):=(Old.refl h).new
 have b0:=b.old o0
 have hS:doS k a n t D st=st:=by
  unfold doS
  rw [if_neg om,if_neg om,if_neg om,if_neg om,if_neg om,if_neg om,if_neg om,if_neg om,if_neg om,if_neg om,if_neg om,if_neg om,if_neg om,if_neg om,if_neg om,if_neg om,if_neg om]
 rw [hS]
 have n9 : ¬ k=9:=by omega
 have n10 : ¬ k=10:=by omega
 have n11 : ¬ k=11:=by omega
 have n12 : ¬ k=12:=by omega
 have n13 : ¬ k=13:=by omega
 have n14 : ¬ k=14:=by omega
 have n15 : ¬ k=15:=by omega
 have n16 : ¬ k=16:=by omega
 have n17 : ¬ k=17:=by omega
 have n18 : ¬ k=18:=by omega
 have n19 : ¬ k=19:=by omega
 have n20 : ¬ k=20:=by omega
 clear hS hk
 refine ⟨_,_,_,jak (at_ hcl om rfl rfl rfl ?_),b0,Fm.old o0⟩
 refine qm1 ?_
 exact ⟨by simp,rfl⟩
end
section
variable {call:Call} {fuel base:Nat} {K:List Fr} {e:Env} {h:H} {Q:Post} {ix:Nat} {dst:Option Nat} {ops:List Ins} {keep:List Nat}
theorem Ops.copyB {x y:Opd} {B:Nat} {v:V} {l:List UInt8} (hx:x.ev e=some (.slice (some (B,0)) 0 (.fix 0))) (hy:y.ev e=some v) (hv:VB h v l) (hl:l.length<=1000000)
  (k : ∀ a c h',VB h' (.slice (some (a,0)) l.length c) l->(l≠[]->h'.get a=some (.cells (bts l) false))->Old h h'->(a=B\/(h.nx<=a/\a<h'.nx))->Ops call fuel base ops keep K (layv e dst (.slice (some (a,0)) l.length c)) h' Q) :
  Ops call fuel base (⟨ix,dst,.append 1 1 x y,none,none,[]⟩ :: ops) keep K e h Q:=by
 obtain ⟨a,cp,rfl,n,f,g⟩:=hv
 by_cases hn:l=[]
 ·subst hn
  have hsrc:ja3 h 1 0 (.slice a 0 cp)=some []:=by cases a<;>rfl
  refine Ops.step (v := .slice (some (B,0)) 0 (.fix 0)) (h':=h) (I.run_eff rfl ?_) (k B (.fix 0) h ⟨some (B,0),.fix 0,rfl,fun e=>(by cases e),zp _,fun e=>absurd rfl e⟩ (fun e=>absurd rfl e) (Old.refl _) (.inl rfl))
  simp only [I.eff,hx,hy,jbc,lenOf,List.length_nil,hsrc]
  rfl
 ·obtain ⟨b,o,cs,ro,rfl,h1,h2,h3⟩:=g hn
  have hpos:0<l.length:=List.length_pos_iff.2 hn
  obtain ⟨p1,p2⟩:=jd4 (k:=0) (m:=l.length) h3 om hpos
  rw [zj,zg (zp _)] at p2
  have hload:h.load b o (l.length*1)=some (bts l):=by
   unfold H.load
   rw [h2]
   simp only
   rw [Nat.mul_one,show Nat.ble (o+l.length) cs.length=true by rw [Nat.ble_eq];omega]
   simp only [cond_true]
   rw [<- p2,Nat.add_zero]
  have hsrc:ja3 h 1 l.length (.slice (some (b,o)) l.length cp)=some (bts l):=by
   unfold ja3
   simp only
   rw [hload,show (l.length*1 == 0)=false by simp;omega]
   rfl
  have ho:Old h (h.new (.cells (bts l) false)):=⟨by simp,fun j hj=>jad hj⟩
  refine Ops.step (v := .slice (some (h.nx,0)) l.length (.grow 1)) (h':=h.new (.cells (bts l) false)) (I.run_eff rfl ?_) (k h.nx (.grow 1) _ ⟨some (h.nx,0),.grow 1,rfl,fun e=>(by cases e),by simp [Cap.fits],fun _=>⟨h.nx,0,bts l,false,rfl,by simp,jac _,fun i x hi=>by rw [Nat.zero_add];exact jiK hi⟩⟩ (fun _=>jac _) ho (.inr ⟨zp _,by simp⟩))
  simp only [I.eff,hx,hy,jbc,lenOf,hsrc]
  have c1:(Nat.ble ((0+l.length)*1) (2 ^ 46)&&Nat.ble (0+l.length) (2 ^ 46))=true:=by simp only [zn,Nat.ble_eq];omega
  have c2:(l.length == 0)=false:=by simp;exact hn
  have c3:Nat.ble (0+l.length) 0=false:=by
   cases hb:Nat.ble (0+l.length) 0 with
   | false=>rfl
   | true=>rw [Nat.ble_eq] at hb;omega
  rw [c1,c2,c3]
  simp only [cond_true,cond_false,Nat.zero_mul,beq_self_eq_true,List.nil_append,Nat.zero_add]
  rfl
end
section
variable {cl:Nat->Call} (hcl:Sem cl)
include hcl
theorem joe {d:Nat} {h:H} {f n:Int} {v:V} (hd:1<=d) (hf:f≠0):cl d (.fn F.ja1) [.i 0,.i 0,.i f,v,.i n,.i f] h=some (.bool true,h):=by
 refine jak (at_ hcl hd rfl rfl rfl ?_)
 refine qx1 ?_
 exact ⟨rfl,rfl⟩
theorem joz {d:Nat} {h:H} {x y n:Int} {v:V} (hd:1<=d) (hv:VI h v [x,y]):cl d (.fn F.ja1) [.i x,.i y,.i 0,v,.i n,.i 0] h=some (.bool true,h):=by
 obtain ⟨a,c,rfl,_⟩:=id hv
 obtain ⟨b,o,cs,ro,rfl,hcs,h0⟩:=VI.cell (l:=[x,y]) hv (i:=0) (x:=x) rfl
 obtain ⟨b',o',cs',ro',e,hcs',h1⟩:=VI.cell (l:=[x,y]) hv (i:=1) (x:=y) rfl
 cases e
 rw [hcs] at hcs';cases hcs'
 have h0:cs[o+(0:Int).toNat*1]?=some (.i x):=h0
 have h1:cs[o+(1:Int).toNat*1]?=some (.i y):=h1
 refine jak (at_ hcl hd rfl rfl rfl ?_)
 refine qx1 ?_
 exact ⟨by simp,rfl⟩
theorem jo0 {d:Nat} {h:H} {x n:Int} {v:V} (hd:1<=d) (hv:VI h v [x]):cl d (.fn F.ja1) [.i x,.i n,.i 0,v,.i n,.i 0] h=some (.bool true,h):=by
 obtain ⟨a,c,rfl,_⟩:=id hv
 obtain ⟨b,o,cs,ro,rfl,hcs,h0⟩:=VI.cell (l:=[x]) hv (i:=0) (x:=x) rfl
 have h0:cs[o+(0:Int).toNat*1]?=some (.i x):=h0
 refine jak (at_ hcl hd rfl rfl rfl ?_)
 refine qx1 ?_
 exact ⟨by simp,rfl⟩
end
def PD (h:H) (p w s rw:Nat) (ow:Nat->Nat) (ro dat:Nat->Prop) (vd:V) (st':St):Post:=fun y e g=>y = .normal/\e=[(5,vd),(6,.bool true)] /\ ∃ ow' ro',BB g p w s rw ow' ro' dat st' st'/\Fm h g ow ro ow' ro'
theorem PD.mk {call:Call} {fuel:Nat} {h g:H} {p w s rw:Nat} {ow ow':Nat->Nat} {ro ro' dat:Nat->Prop} {vd:V} {st':St} (b:BB g p w s rw ow' ro' dat st' st') (f:Fm h g ow ro ow' ro'):End call fuel [] .normal [(5,vd),(6,.bool true)] g (PD h p w s rw ow ro dat vd st') :=
 End.nil ⟨rfl,rfl,ow',ro',b,f⟩
theorem PD.mk' {call:Call} {fuel:Nat} {h g:H} {p w s rw:Nat} {ow ow':Nat->Nat} {ro ro' dat:Nat->Prop} {vd x:V} {st':St} (hx:x = .bool true) (b:BB g p w s rw ow' ro' dat st' st') (f:Fm h g ow ro ow' ro'):End call fuel [] .normal [(5,vd),(6,x)] g (PD h p w s rw ow ro dat vd st'):=by
 subst hx;exact PD.mk b f
theorem BB.rhead {h:H} {p w s rw:Nat} {ow:Nat->Nat} {ro dat:Nat->Prop} {a r:St} (b:BB h p w s rw ow ro dat a r) : ∃ x c,h.get rw=some (.cells (.slice x r.ws.length c :: r.tl) false):=by
 obtain ⟨l,R,e⟩:=b.R
 obtain ⟨q,_,k⟩:=R.ex
 obtain ⟨x,c,hw,_⟩:=(k h rfl fun _ _ _=>rfl).head
 refine ⟨x,c,?_⟩
 rw [hw,<- e,List.length_map]
section
variable {cl:Nat->Call} (hcl:Sem cl) {h:H} {p w s rw:Nat} {ow:Nat->Nat} {ro dat:Nat->Prop} {st:St} {a n t:Int} {dv vd:V} {D:List UInt8}
include hcl
theorem sw_4 {d i B:Nat} (hd:16<=d) (b:BB h p w s rw ow ro dat st st) (so:StOk st i) (hi:i<=200) (hD:Dat h dat dv D) (hC:Cpy h p ow ro dat vd D) (lB:B<h.nx) (zB:ow B=0) (rB : ¬ ro B) (gB:h.get B=some (.cells (opV 4 a n t dv) false)) :
  Run (cl (d-1)) fuel c19_27 [] [(0,.p p 0),(3,.p B 0),(5,vd),(36,.i 4)] h (PD h p w s rw ow ro dat vd (doS 4 a n t D st)):=by
 have hp0:=b.hp
 have lp:=b.lp
 have hl300:=hD.len
 have hS:doS 4 a n t D st = { st with ws:=(jaw st.ws a).2 } := by simp [doS]
 rw [hS]
 obtain ⟨h1,e1,W1,t1⟩:=ww_Accept hcl (d:=d-1) (fd:=a) om so.K b.W
 have b1:=b.wc (a' := { st with ws:=(jaw st.ws a).2 }) W1 t1
 have g1:=b.off_w t1 lB zB gB
 have hp1:=b1.hp
 obtain ⟨v,h2,e2,b2,f2,rfl⟩:=b1.rc hcl (d:=d-1) (f:=F.jaT) (args:=[.p rw 0,.i a]) (r' := { st with ws:=(jaw st.ws a).2 }) (P:=fun _ v=>v = .tup [.i (jaw st.ws a).1.1,.i (jaw st.ws a).1.2.1,.i (jaw st.ws a).1.2.2]) (fun _ _ _ _ h=>h) (fun g q l ga gn hq wR hl=>by
  have oR:WsOk (l.map RX.x):=by rw [hl];exact so.K.ok
  obtain ⟨l',g',k1,k2,k3,k4⟩:=rq_Accept hcl (d:=d-1) (fd:=a) om wR oR
  rw [hl] at k1 k3
  exact ⟨_,q,l',g',k1,k2,k3,k4,.inl rfl,rfl⟩)
 have fF:=(Fm.to (ro:=ro) t1).trans f2
 clear so hD hC hl300 hS
 refine qm1 ?_
 exact PD.mk' Zd b2 fF
theorem sw_6 {d i B:Nat} (hd:16<=d) (b:BB h p w s rw ow ro dat st st) (so:StOk st i) (hi:i<=200) (hD:Dat h dat dv D) (hC:Cpy h p ow ro dat vd D) (lB:B<h.nx) (zB:ow B=0) (rB : ¬ ro B) (gB:h.get B=some (.cells (opV 6 a n t dv) false)) :
  Run (cl (d-1)) fuel c19_27 [] [(0,.p p 0),(3,.p B 0),(5,vd),(36,.i 6)] h (PD h p w s rw ow ro dat vd (doS 6 a n t D st)):=by
 have hp0:=b.hp
 have lp:=b.lp
 have hl300:=hD.len
 have hS:doS 6 a n t D st = { st with ws:=(jb6 st.ws a D).2 } := by simp [doS]
 rw [hS]
 obtain ⟨h1,e1,W1,t1⟩:=ww_Write hcl (d:=d-1) (fd:=a) om b.W so.K.ok hC.v om (fun z hz=>(hC.z z hz).2.1)
 have b1:=b.wc (a' := { st with ws:=(jb6 st.ws a D).2 }) W1 t1
 have g1:=b.off_w t1 lB zB gB
 have hp1:=b1.hp
 obtain ⟨v,h2,e2,b2,f2,rfl⟩:=b1.rc hcl (d:=d-1) (f:=F.jaV) (args:=[.p rw 0,.i a,dv]) (r' := { st with ws:=(jb6 st.ws a D).2 }) (P:=fun _ v=>v = .tup [.i (jb6 st.ws a D).1.1,.i (jb6 st.ws a D).1.2]) (fun _ _ _ _ h=>h) (fun g q l ga gn hq wR hl=>by
  have oR:WsOk (l.map RX.x):=by rw [hl];exact so.K.ok
  obtain ⟨q1,q2⟩:=(hD.keep b (Fm.to t1)).in_ b1 ga gn hq
  obtain ⟨l',g',k1,k2,k3,k4⟩:=rq_Write hcl (d:=d-1) (fd:=a) om wR oR q1 om q2
  rw [hl] at k1 k3
  exact ⟨_,q,l',g',k1,k2,k3,k4,.inl rfl,rfl⟩)
 have fF:=(Fm.to (ro:=ro) t1).trans f2
 clear so hD hC hl300 hS
 refine qm1 ?_
 exact PD.mk' Zd b2 fF
theorem sw_7 {d i B:Nat} (hd:16<=d) (b:BB h p w s rw ow ro dat st st) (so:StOk st i) (hi:i<=200) (hD:Dat h dat dv D) (hC:Cpy h p ow ro dat vd D) (lB:B<h.nx) (zB:ow B=0) (rB : ¬ ro B) (gB:h.get B=some (.cells (opV 7 a n t dv) false)) :
  Run (cl (d-1)) fuel c19_27 [] [(0,.p p 0),(3,.p B 0),(5,vd),(36,.i 7)] h (PD h p w s rw ow ro dat vd (doS 7 a n t D st)):=by
 have hp0:=b.hp
 have lp:=b.lp
 have hl300:=hD.len
 have hS:doS 7 a n t D st = { st with ws:=(jdt st.ws a).2 } := by simp [doS]
 rw [hS]
 obtain ⟨h1,e1,W1,t1⟩:=ww_Shut hcl (d:=d-1) (fd:=a) om b.W so.K.ok
 have b1:=b.wc (a' := { st with ws:=(jdt st.ws a).2 }) W1 t1
 have g1:=b.off_w t1 lB zB gB
 have hp1:=b1.hp
 obtain ⟨v,h2,e2,b2,f2,rfl⟩:=b1.rc hcl (d:=d-1) (f:=F.jbj) (args:=[.p rw 0,.i a]) (r' := { st with ws:=(jdt st.ws a).2 }) (P:=fun _ v=>v = .i (jdt st.ws a).1) (fun _ _ _ _ h=>h) (fun g q l ga gn hq wR hl=>by
  have oR:WsOk (l.map RX.x):=by rw [hl];exact so.K.ok
  obtain ⟨l',g',k1,k2,k3,k4⟩:=rq_Shut hcl (d:=d-1) (fd:=a) om wR oR
  rw [hl] at k1 k3
  exact ⟨_,q,l',g',k1,k2,k3,k4,.inl rfl,rfl⟩)
 have fF:=(Fm.to (ro:=ro) t1).trans f2
 clear so hD hC hl300 hS
 refine qm1 ?_
 exact PD.mk' Zd b2 fF
theorem sw_8 {d i B:Nat} (hd:16<=d) (b:BB h p w s rw ow ro dat st st) (so:StOk st i) (hi:i<=200) (hD:Dat h dat dv D) (hC:Cpy h p ow ro dat vd D) (lB:B<h.nx) (zB:ow B=0) (rB : ¬ ro B) (gB:h.get B=some (.cells (opV 8 a n t dv) false)) :
  Run (cl (d-1)) fuel c19_27 [] [(0,.p p 0),(3,.p B 0),(5,vd),(36,.i 8)] h (PD h p w s rw ow ro dat vd (doS 8 a n t D st)):=by
 have hp0:=b.hp
 have lp:=b.lp
 have hl300:=hD.len
 have hS:doS 8 a n t D st = { st with ws:=(jca st.ws a).2 } := by simp [doS]
 rw [hS]
 obtain ⟨h1,e1,W1,t1⟩:=ww_Close hcl (d:=d-1) (fd:=a) om b.W so.K.ok
 have b1:=b.wc (a' := { st with ws:=(jca st.ws a).2 }) W1 t1
 have g1:=b.off_w t1 lB zB gB
 have hp1:=b1.hp
 obtain ⟨v,h2,e2,b2,f2,rfl⟩:=b1.rc hcl (d:=d-1) (f:=F.jaY) (args:=[.p rw 0,.i a]) (r' := { st with ws:=(jca st.ws a).2 }) (P:=fun _ v=>v = .i (jca st.ws a).1) (fun _ _ _ _ h=>h) (fun g q l ga gn hq wR hl=>by
  have oR:WsOk (l.map RX.x):=by rw [hl];exact so.K.ok
  obtain ⟨l',g',k1,k2,k3,k4⟩:=rq_Close hcl (d:=d-1) (fd:=a) om wR oR
  rw [hl] at k1 k3
  exact ⟨_,q,l',g',k1,k2,k3,k4,.inl rfl,rfl⟩)
 have fF:=(Fm.to (ro:=ro) t1).trans f2
 clear so hD hC hl300 hS
 refine qm1 ?_
 exact PD.mk' Zd b2 fF
theorem sw_5 {d i B:Nat} (hd:16<=d) (b:BB h p w s rw ow ro dat st st) (so:StOk st i) (hi:i<=200) (hD:Dat h dat dv D) (hC:Cpy h p ow ro dat vd D) (lB:B<h.nx) (zB:ow B=0) (rB : ¬ ro B) (gB:h.get B=some (.cells (opV 5 a n t dv) false)) :
  Run (cl (d-1)) fuel c19_27 [] [(0,.p p 0),(3,.p B 0),(5,vd),(36,.i 5)] h (PD h p w s rw ow ro dat vd (doS 5 a n t D st)):=by
 have hp0:=b.hp
 have lp:=b.lp
 have hl300:=hD.len
 have hS:doS 5 a n t D st = { st with ws:=(jbX st.ws a n).2 } := by simp [doS]
 rw [hS]
 obtain ⟨v1,h1,e1,vb1,vz1,W1,t1⟩:=ww_Read hcl (d:=d-1) (fd:=a) (many:=n) om b.W so.K.ok
 have b1:=b.wc (a' := { st with ws:=(jbX st.ws a n).2 }) W1 t1
 have g1:=b.off_w t1 lB zB gB
 have hp1:=b1.hp
 obtain ⟨v,h2,e2,b2,f2,hP⟩:=b1.rc hcl (d:=d-1) (f:=F.jbk) (args:=[.p rw 0,.i a,.i n]) (r' := { st with ws:=(jbX st.ws a n).2 })
  (P:=fun g v=>∃ v2,v = .tup [v2,.bool (jbX st.ws a n).1.2.1,.i (jbX st.ws a n).1.2.2]/\VB g v2 (jbX st.ws a n).1.1) (fun _ _ _ m ⟨v2,e,hv⟩=>⟨v2,e,hv.mono m⟩) (fun g q l ga gn hq wR hl=>by
  have oR:WsOk (l.map RX.x):=by rw [hl];exact so.K.ok
  obtain ⟨v2,l',g',k1,k0,k2,k3,k4⟩:=rq_Read hcl (d:=d-1) (fd:=a) (many:=n) om wR oR
  rw [hl] at k0 k1 k3
  exact ⟨_,q,l',g',k1,k2,k3,k4,.inl rfl,v2,rfl,k0⟩)
 have vb2:VB h2 v1 (jbX st.ws a n).1.1:=vb1.keep2 f2.ch.nx fun hl z hz=>f2.ch.get z (vb1.lt hl hz) fun e=>e.elim (fun e=>e (b.W.top (vz1 z hz))) fun e=>by
  have:=b.ro_lt (.inl e)
  have:=vz1 z hz
  omega
 obtain ⟨a1,c1,rfl,B1⟩:=vb2
 obtain ⟨v2,rfl,a2,c2,rfl,B2⟩:=hP
 have fF:=(Fm.to (ro:=ro) t1).trans f2
 generalize (jbX st.ws a n).1.2.1=bb at e1 e2
 clear so hD hC hl300 hS
 cases bb
 ·refine qm1 ?_
  refine Ops.ofBytesAt rfl B1 (zp _) ?_
  refine qm1 ?_
  refine Ops.ofBytesAt rfl B2 (zp _) ?_
  repeat' (first|refine qmy ?_|refine zbf rfl (fun _=>?_) fun _=>?_|refine zbg rfl (fun _=>?_) fun _=>?_|refine zbh rfl (fun _=>?_) fun _=>?_|refine zbm rfl (fun _=>?_) fun _=>?_|refine zbn rfl (fun _=>?_) fun _=>?_)
  ·exact PD.mk' Zd b2 fF
  ·rename_i hx
   simp at hx
 ·refine qm1 ?_
  refine Ops.ofBytesAt rfl B1 (zp _) ?_
  refine qm1 ?_
  refine Ops.ofBytesAt rfl B2 (zp _) ?_
  repeat' (first|refine qmy ?_|refine zbf rfl (fun _=>?_) fun _=>?_|refine zbg rfl (fun _=>?_) fun _=>?_|refine zbh rfl (fun _=>?_) fun _=>?_|refine zbm rfl (fun _=>?_) fun _=>?_|refine zbn rfl (fun _=>?_) fun _=>?_)
  ·exact PD.mk' Zd b2 fF
  ·rename_i hx
   simp at hx
end
section
variable {cl:Nat->Call} (hcl:Sem cl) {h:H} {p w s rw:Nat} {ow:Nat->Nat} {ro dat:Nat->Prop} {st:St} {a n t:Int} {dv vd:V} {D:List UInt8}
include hcl
theorem sw_0 {d i B:Nat} (hd:16<=d) (b:BB h p w s rw ow ro dat st st) (so:StOk st i) (hi:i<=200) (hD:Dat h dat dv D) (hC:Cpy h p ow ro dat vd D) (lB:B<h.nx) (zB:ow B=0) (rB : ¬ ro B) (gB:h.get B=some (.cells (opV 0 a n t dv) false)) :
  Run (cl (d-1)) fuel c19_27 [] [(0,.p p 0),(3,.p B 0),(5,vd),(36,.i 0)] h (PD h p w s rw ow ro dat vd (doS 0 a n t D st)):=by
 have hp0:=b.hp
 have lp:=b.lp
 have hl300:=hD.len
 have hS:doS 0 a n t D st = { st with ws:=(jag st.ws 0 n).2 } := by simp [doS]
 rw [hS]
 obtain ⟨x,y,h1,ow1,e1,good,bad,W1,t1⟩:=ww_Pipe hcl (d:=d-1) (n:=n) om so.K b.W
 have b1:=b.wc (a' := { st with ws:=(jag st.ws 0 n).2 }) W1 t1
 have g1:=b.off_w t1 lB zB gB
 have hp1:=b1.hp
 obtain ⟨v,h2,e2,b2,f2,v2,rfl,hv2⟩:=b1.rc hcl (d:=d-1) (f:=F.jau) (args:=[.p rw 0,.i 0,.i n]) (r' := { st with ws:=(jag st.ws 0 n).2 })
  (P:=fun g v=>∃ v2,v = .tup [v2,.i (jag st.ws 0 n).1.2]/\VI g v2 (jag st.ws 0 n).1.1) (fun _ _ _ m ⟨v2,e,hv⟩=>⟨v2,e,hv.mono m⟩) (fun g q l ga gn hq wR hl=>by
  have oR:WsOk (l.map RX.x):=by rw [hl];exact so.K.ok
  obtain ⟨v2,q',l',g',k1,k0,k2,k3,k4,k5⟩:=jie hcl (d:=d-1) (kind:=0) (n:=n) om om wR oR
  rw [hl] at k0 k1 k3
  exact ⟨_,q',l',g',k1,k2,k3,k4,k5,v2,rfl,k0⟩)
 have fF:=(Fm.to (ro:=ro) t1).trans f2
 have hp2:=b2.hp
 obtain ⟨xs,cs,hr2⟩:=b2.rhead
 have wl:({ st with ws:=(jag st.ws 0 n).2 } : St).ws.length=(jag st.ws 0 n).2.length:=rfl
 rw [wl] at hr2
 have q0:(V.slice xs (jag st.ws 0 n).2.length cs :: ({ st with ws:=(jag st.ws 0 n).2 } : St).tl)[0+0]?=some (V.slice xs (jag st.ws 0 n).2.length cs):=rfl
 have o2v:=hv2.one
 have e3:cl (d-1) (.fn F.ja1) [.i x,.i y,.i (jag st.ws 0 n).1.2,v2,.i ((jag st.ws 0 n).2.length-1),.i (jag st.ws 0 n).1.2] h2=some (.bool true,h2):=by
  by_cases hz:(jag st.ws 0 n).1.2=0
  ·have gd:=good hz
   rw [gd] at hv2
   rw [hz]
   exact joz hcl om hv2
  ·obtain ⟨rfl,rfl⟩:=bad hz
   exact joe hcl om hz
 have hlen:(jag st.ws 0 n).2.length<=1000:=(jd0 om so.K).ok.len
 clear so hD hC hl300 hS good bad
 generalize (jag st.ws 0 n).1.2=er at e1 e2 e3
 refine qm1 ?_
 exact PD.mk' rfl b2 fF
theorem sw_1 {d i B:Nat} (hd:16<=d) (b:BB h p w s rw ow ro dat st st) (so:StOk st i) (hi:i<=200) (hD:Dat h dat dv D) (hC:Cpy h p ow ro dat vd D) (lB:B<h.nx) (zB:ow B=0) (rB : ¬ ro B) (gB:h.get B=some (.cells (opV 1 a n t dv) false)) :
  Run (cl (d-1)) fuel c19_27 [] [(0,.p p 0),(3,.p B 0),(5,vd),(36,.i 1)] h (PD h p w s rw ow ro dat vd (doS 1 a n t D st)):=by
 have hp0:=b.hp
 have lp:=b.lp
 have hl300:=hD.len
 have hS:doS 1 a n t D st = { st with ws:=(jag st.ws 1 n).2 } := by simp [doS]
 rw [hS]
 obtain ⟨x,y,h1,ow1,e1,good,bad,W1,t1⟩:=ww_Pair hcl (d:=d-1) (n:=n) om so.K b.W
 have b1:=b.wc (a' := { st with ws:=(jag st.ws 1 n).2 }) W1 t1
 have g1:=b.off_w t1 lB zB gB
 have hp1:=b1.hp
 obtain ⟨v,h2,e2,b2,f2,v2,rfl,hv2⟩:=b1.rc hcl (d:=d-1) (f:=F.jau) (args:=[.p rw 0,.i 1,.i n]) (r' := { st with ws:=(jag st.ws 1 n).2 })
  (P:=fun g v=>∃ v2,v = .tup [v2,.i (jag st.ws 1 n).1.2]/\VI g v2 (jag st.ws 1 n).1.1) (fun _ _ _ m ⟨v2,e,hv⟩=>⟨v2,e,hv.mono m⟩) (fun g q l ga gn hq wR hl=>by
  have oR:WsOk (l.map RX.x):=by rw [hl];exact so.K.ok
  obtain ⟨v2,q',l',g',k1,k0,k2,k3,k4,k5⟩:=jie hcl (d:=d-1) (kind:=1) (n:=n) om om wR oR
  rw [hl] at k0 k1 k3
  exact ⟨_,q',l',g',k1,k2,k3,k4,k5,v2,rfl,k0⟩)
 have fF:=(Fm.to (ro:=ro) t1).trans f2
 have hp2:=b2.hp
 obtain ⟨xs,cs,hr2⟩:=b2.rhead
 have wl:({ st with ws:=(jag st.ws 1 n).2 } : St).ws.length=(jag st.ws 1 n).2.length:=rfl
 rw [wl] at hr2
 have q0:(V.slice xs (jag st.ws 1 n).2.length cs :: ({ st with ws:=(jag st.ws 1 n).2 } : St).tl)[0+0]?=some (V.slice xs (jag st.ws 1 n).2.length cs):=rfl
 have o2v:=hv2.one
 have e3:cl (d-1) (.fn F.ja1) [.i x,.i y,.i (jag st.ws 1 n).1.2,v2,.i ((jag st.ws 1 n).2.length-1),.i (jag st.ws 1 n).1.2] h2=some (.bool true,h2):=by
  by_cases hz:(jag st.ws 1 n).1.2=0
  ·have gd:=good hz
   rw [gd] at hv2
   rw [hz]
   exact joz hcl om hv2
  ·obtain ⟨rfl,rfl⟩:=bad hz
   exact joe hcl om hz
 have hlen:(jag st.ws 1 n).2.length<=1000:=(jd0 om so.K).ok.len
 clear so hD hC hl300 hS good bad
 generalize (jag st.ws 1 n).1.2=er at e1 e2 e3
 refine qm1 ?_
 exact PD.mk' rfl b2 fF
end
section
variable {cl:Nat->Call} (hcl:Sem cl) {h:H} {p w s rw:Nat} {ow:Nat->Nat} {ro dat:Nat->Prop} {st:St} {a n t:Int} {dv vd:V} {D:List UInt8}
include hcl
theorem sw_2 {d i B:Nat} (hd:16<=d) (b:BB h p w s rw ow ro dat st st) (so:StOk st i) (hi:i<=200) (hD:Dat h dat dv D) (hC:Cpy h p ow ro dat vd D) (lB:B<h.nx) (zB:ow B=0) (rB : ¬ ro B) (gB:h.get B=some (.cells (opV 2 a n t dv) false)) :
  Run (cl (d-1)) fuel c19_27 [] [(0,.p p 0),(3,.p B 0),(5,vd),(36,.i 2)] h (PD h p w s rw ow ro dat vd (doS 2 a n t D st)):=by
 have hp0:=b.hp
 have lp:=b.lp
 have hl300:=hD.len
 have hS:doS 2 a n t D st = { st with ws:=(jag st.ws 2 n).2 } := by simp [doS]
 rw [hS]
 obtain ⟨x,y,h1,ow1,e1,good,bad,W1,t1⟩:=ww_Outer hcl (d:=d-1) (n:=n) om so.K b.W
 have b1:=b.wc (a' := { st with ws:=(jag st.ws 2 n).2 }) W1 t1
 have g1:=b.off_w t1 lB zB gB
 have hp1:=b1.hp
 obtain ⟨v,h2,e2,b2,f2,v2,rfl,hv2⟩:=b1.rc hcl (d:=d-1) (f:=F.jau) (args:=[.p rw 0,.i 2,.i n]) (r' := { st with ws:=(jag st.ws 2 n).2 })
  (P:=fun g v=>∃ v2,v = .tup [v2,.i (jag st.ws 2 n).1.2]/\VI g v2 (jag st.ws 2 n).1.1) (fun _ _ _ m ⟨v2,e,hv⟩=>⟨v2,e,hv.mono m⟩) (fun g q l ga gn hq wR hl=>by
  have oR:WsOk (l.map RX.x):=by rw [hl];exact so.K.ok
  obtain ⟨v2,q',l',g',k1,k0,k2,k3,k4,k5⟩:=jie hcl (d:=d-1) (kind:=2) (n:=n) om om wR oR
  rw [hl] at k0 k1 k3
  exact ⟨_,q',l',g',k1,k2,k3,k4,k5,v2,rfl,k0⟩)
 have fF:=(Fm.to (ro:=ro) t1).trans f2
 have hp2:=b2.hp
 obtain ⟨xs,cs,hr2⟩:=b2.rhead
 have wl:({ st with ws:=(jag st.ws 2 n).2 } : St).ws.length=(jag st.ws 2 n).2.length:=rfl
 rw [wl] at hr2
 have q0:(V.slice xs (jag st.ws 2 n).2.length cs :: ({ st with ws:=(jag st.ws 2 n).2 } : St).tl)[0+0]?=some (V.slice xs (jag st.ws 2 n).2.length cs):=rfl
 have o2v:=hv2.one
 have e3:cl (d-1) (.fn F.ja1) [.i x,.i y,.i (jag st.ws 2 n).1.2,v2,.i ((jag st.ws 2 n).2.length-1),.i (jag st.ws 2 n).1.2] h2=some (.bool true,h2):=by
  by_cases hz:(jag st.ws 2 n).1.2=0
  ·obtain ⟨gd,gl⟩:=good hz
   have hm:((jag st.ws 2 n).2.length:Int)-1=(st.ws.length:Int):=by
    rcases jek (ws:=st.ws) (n:=n) (kind:=2) om with ⟨_,_,m3⟩ | ⟨m1,_⟩
    ·omega
    ·exact absurd hz m1
   rw [gd] at hv2
   rw [hz,hm,gl]
   exact jo0 hcl om hv2
  ·obtain ⟨rfl,rfl⟩:=bad hz
   exact joe hcl om hz
 have hlen:(jag st.ws 2 n).2.length<=1000:=(jd0 om so.K).ok.len
 clear so hD hC hl300 hS good bad
 generalize (jag st.ws 2 n).1.2=er at e1 e2 e3
 refine qm1 ?_
 exact PD.mk' rfl b2 fF
theorem sw_3 {d i B:Nat} (hd:16<=d) (b:BB h p w s rw ow ro dat st st) (so:StOk st i) (hi:i<=200) (hD:Dat h dat dv D) (hC:Cpy h p ow ro dat vd D) (lB:B<h.nx) (zB:ow B=0) (rB : ¬ ro B) (gB:h.get B=some (.cells (opV 3 a n t dv) false)) :
  Run (cl (d-1)) fuel c19_27 [] [(0,.p p 0),(3,.p B 0),(5,vd),(36,.i 3)] h (PD h p w s rw ow ro dat vd (doS 3 a n t D st)):=by
 have hp0:=b.hp
 have lp:=b.lp
 have hl300:=hD.len
 have hS:doS 3 a n t D st = { st with ws:=(jag st.ws 3 n).2 } := by simp [doS]
 rw [hS]
 obtain ⟨x,y,h1,ow1,e1,good,bad,W1,t1⟩:=ww_Listen hcl (d:=d-1) (n:=n) om so.K b.W
 have b1:=b.wc (a' := { st with ws:=(jag st.ws 3 n).2 }) W1 t1
 have g1:=b.off_w t1 lB zB gB
 have hp1:=b1.hp
 obtain ⟨v,h2,e2,b2,f2,v2,rfl,hv2⟩:=b1.rc hcl (d:=d-1) (f:=F.jau) (args:=[.p rw 0,.i 3,.i n]) (r' := { st with ws:=(jag st.ws 3 n).2 })
  (P:=fun g v=>∃ v2,v = .tup [v2,.i (jag st.ws 3 n).1.2]/\VI g v2 (jag st.ws 3 n).1.1) (fun _ _ _ m ⟨v2,e,hv⟩=>⟨v2,e,hv.mono m⟩) (fun g q l ga gn hq wR hl=>by
  have oR:WsOk (l.map RX.x):=by rw [hl];exact so.K.ok
  obtain ⟨v2,q',l',g',k1,k0,k2,k3,k4,k5⟩:=jie hcl (d:=d-1) (kind:=3) (n:=n) om om wR oR
  rw [hl] at k0 k1 k3
  exact ⟨_,q',l',g',k1,k2,k3,k4,k5,v2,rfl,k0⟩)
 have fF:=(Fm.to (ro:=ro) t1).trans f2
 have hp2:=b2.hp
 obtain ⟨xs,cs,hr2⟩:=b2.rhead
 have wl:({ st with ws:=(jag st.ws 3 n).2 } : St).ws.length=(jag st.ws 3 n).2.length:=rfl
 rw [wl] at hr2
 have q0:(V.slice xs (jag st.ws 3 n).2.length cs :: ({ st with ws:=(jag st.ws 3 n).2 } : St).tl)[0+0]?=some (V.slice xs (jag st.ws 3 n).2.length cs):=rfl
 have o2v:=hv2.one
 have e3:cl (d-1) (.fn F.ja1) [.i x,.i y,.i (jag st.ws 3 n).1.2,v2,.i ((jag st.ws 3 n).2.length-1),.i (jag st.ws 3 n).1.2] h2=some (.bool true,h2):=by
  by_cases hz:(jag st.ws 3 n).1.2=0
  ·obtain ⟨gd,gl⟩:=good hz
   have hm:((jag st.ws 3 n).2.length:Int)-1=(st.ws.length:Int):=by
    rcases jek (ws:=st.ws) (n:=n) (kind:=3) om with ⟨_,_,m3⟩ | ⟨m1,_⟩
    ·omega
    ·exact absurd hz m1
   rw [gd] at hv2
   rw [hz,hm,gl]
   exact jo0 hcl om hv2
  ·obtain ⟨rfl,rfl⟩:=bad hz
   exact joe hcl om hz
 have hlen:(jag st.ws 3 n).2.length<=1000:=(jd0 om so.K).ok.len
 clear so hD hC hl300 hS good bad
 generalize (jag st.ws 3 n).1.2=er at e1 e2 e3
 refine qm1 ?_
 exact PD.mk' rfl b2 fF
end
section
variable {cl:Nat->Call} (hcl:Sem cl) {h:H} {p w s rw:Nat} {ow:Nat->Nat} {ro dat:Nat->Prop} {st:St} {k a n t:Int} {dv vd:V} {D:List UInt8}
include hcl
theorem sw_more {d B:Nat} {st':St} (hk:k<0\/8<k) (gB:h.get B=some (.cells (opV k a n t dv) false)) (m:jdb cl (d-1) F.jaf h p w s rw ow ro dat [.p p 0,.agg (opV k a n t dv),vd] st') :
  Run (cl (d-1)) fuel c19_27 [] [(0,.p p 0),(3,.p B 0),(5,vd),(36,.i k)] h (PD h p w s rw ow ro dat vd st'):=by
 obtain ⟨h',ow',ro',e1,b',f'⟩:=m
 have n0 : ¬ k=0:=by omega
 have n1 : ¬ k=1:=by omega
 have n2 : ¬ k=2:=by omega
 have n3 : ¬ k=3:=by omega
 have n4 : ¬ k=4:=by omega
 have n5 : ¬ k=5:=by omega
 have n6 : ¬ k=6:=by omega
 have n7 : ¬ k=7:=by omega
 have n8 : ¬ k=8:=by omega
 clear hk
 refine qm1 ?_
 exact PD.mk' rfl b' f'
theorem sw_all {d i B:Nat} (hd:16<=d) (b:BB h p w s rw ow ro dat st st) (so:StOk st i) (hi:i<=200) (hD:Dat h dat dv D) (hC:Cpy h p ow ro dat vd D) (lB:B<h.nx) (zB:ow B=0) (rB : ¬ ro B) (gB:h.get B=some (.cells (opV k a n t dv) false)) (t0:0<=t) (t1:t<=18446744073709551615) :
  Run (cl (d-1)) fuel c19_27 [] [(0,.p p 0),(3,.p B 0),(5,vd),(36,.i k)] h (PD h p w s rw ow ro dat vd (doS k a n t D st)):=by
 by_cases k0:k=0
 ·subst k0;exact sw_0 hcl hd b so hi hD hC lB zB rB gB
 by_cases k1:k=1
 ·subst k1;exact sw_1 hcl hd b so hi hD hC lB zB rB gB
 by_cases k2:k=2
 ·subst k2;exact sw_2 hcl hd b so hi hD hC lB zB rB gB
 by_cases k3:k=3
 ·subst k3;exact sw_3 hcl hd b so hi hD hC lB zB rB gB
 by_cases k4:k=4
 ·subst k4;exact sw_4 hcl hd b so hi hD hC lB zB rB gB
 by_cases k5:k=5
 ·subst k5;exact sw_5 hcl hd b so hi hD hC lB zB rB gB
 by_cases k6:k=6
 ·subst k6;exact sw_6 hcl hd b so hi hD hC lB zB rB gB
 by_cases k7:k=7
 ·subst k7;exact sw_7 hcl hd b so hi hD hC lB zB rB gB
 by_cases k8:k=8
 ·subst k8;exact sw_8 hcl hd b so hi hD hC lB zB rB gB
 refine sw_more hcl om gB ?_
 by_cases k9:k=9
 ·subst k9;exact mo_9 hcl om b so hi hD hC
 by_cases k10:k=10
 ·subst k10;exact mo_10 hcl om b so hi hD hC
 by_cases k11:k=11
 ·subst k11;exact mo_11 hcl om b so hi hD hC
 by_cases k12:k=12
 ·subst k12;exact mo_12 hcl om b so hi hD hC
 by_cases k13:k=13
 ·subst k13;exact mo_13 hcl om b so hi hD hC
 by_cases k14:k=14
 ·subst k14;exact mo_14 hcl om b so hi hD hC
 by_cases k15:k=15
 ·subst k15;exact mo_15 hcl om b so hi hD hC t0 t1
 by_cases k16:k=16
 ·subst k16;exact mo_16 hcl om b so hi hD hC
 by_cases k17:k=17
 ·subst k17;exact mo_17 hcl om b so hi hD hC
 by_cases k18:k=18
 ·subst k18;exact mo_18 hcl om b so hi
 by_cases k19:k=19
 ·subst k19;exact mo_19 hcl om b so hi hD hC
 by_cases k20:k=20
 ·subst k20;exact mo_20 hcl om b so
 exact mo_no hcl om b om
theorem do_ok {d i:Nat} (hd:16<=d) (b:BB h p w s rw ow ro dat st st) (so:StOk st i) (hi:i<=200) (hD:Dat h dat dv D) (t0:0<=t) (t1:t<=18446744073709551615) :
  ∃ h' ow' ro',cl d (.fn F.jbu) [.p p 0,.agg (opV k a n t dv)] h=some (.bool true,h')/\BB h' p w s rw ow' ro' dat (doS k a n t D st) (doS k a n t D st)/\Fm h h' ow ro ow' ro':=by
 suffices q : ∃ v h',cl d (.fn F.jbu) [.p p 0,.agg (opV k a n t dv)] h=some (v,h') /\ ∃ ow' ro',v = .bool true/\BB h' p w s rw ow' ro' dat (doS k a n t D st) (doS k a n t D st)/\Fm h h' ow ro ow' ro' by
  obtain ⟨_,h',e,ow',ro',rfl,q⟩:=q;exact ⟨h',ow',ro',e,q⟩
 have ol:Old h ((h.new (.cells (opV k a n t dv) false)).new (.cells [] false)):=(Old.refl h).new.new
 have hv:=(hD.keep b (Fm.old (ow:=ow) (ro:=ro) ol)).v
 have hl300:=hD.len
 refine at_ hcl om rfl rfl rfl ?_
 obtain ⟨C,hC⟩ : ∃ C,C=c19_27:=⟨_,rfl⟩
 simp only [c19,c19_29,yB,yC]
 rw [<- hC]
 refine qm1 ?_
 refine Ops.copyB rfl rfl hv om fun a' c' h3 hvd hcells ho hz=>?_
 have ho:Old ((h.new (.cells (opV k a n t dv) false)).new (.cells [] false)) h3:=ho
 have hz:a'=h.nx+1\/(h.nx+2<=a'/\a'<h3.nx):=hz
 have o3:=ol.trans ho
 have xo:((h.new (.cells (opV k a n t dv) false)).new (.cells [] false)).nx=h.nx+2:=rfl
 have x3:=ho.1
 have b3:=b.old o3
 have hD3:=hD.keep b (Fm.old (ow:=ow) (ro:=ro) o3)
 have gB:h3.get h.nx=some (.cells (opV k a n t dv) false):=by
  rw [ho.2 _ om,jad Zd,jac]
 have ha':h.nx+1<=a'/\a'<h3.nx:=by
  omega
 have lp:=b.lp
 have hC3:Cpy h3 p ow ro dat (.slice (some (a',0)) D.length c') D:=⟨hvd,fun z hz=>by
  cases hz
  refine ⟨ha'.2,b.W.top om,fun e=>?_,fun e=>?_,by omega⟩
  ·have:=b.ro_lt (.inl e);omega
  ·have:=b.ro_lt (.inr e);omega⟩
 have hsw:=sw_all hcl (d:=d) (k:=k) (a:=a) (n:=n) (t:=t) hd b3 so hi hD3 hC3 (B:=h.nx) om (b.W.top (zp _)) (fun e=>by have:=b.ro_lt (.inl e);omega) gB t0 t1
 rw [<- hC] at hsw
 clear hD hD3 hv so
 refine qm1 ?_
 refine Run.cut _ hsw ?_
 rintro _ _ g ⟨rfl,rfl,ow',ro',b',f'⟩
 clear hsw hC
 have hCg:=hC3.keep f'
 obtain ⟨z1,z2,z3,z4,z5⟩:=hCg.z a' rfl
 have gcells:D≠[]->g.get a'=some (.cells (bts D) false):=fun hn=>by
  obtain ⟨y1,y2,y3,_,_⟩:=hC3.z a' rfl
  rw [f'.ch.get a' y1 fun e=>e.elim (fun e=>e y2) y3,hcells hn]
 have fF:=(Fm.old (ow:=ow) (ro:=ro) o3).trans f'
 have xg:=f'.ch.nx
 clear hC3 hCg hcells f' b3 gB hvd
 refine qm1 ?_
 refine Run.loop (fun m e g2=>∃ j:Nat,m=D.length-j/\j<=D.length/\e=[(5,.slice (some (a',0)) D.length c'),(6,.bool true),(275,.i (D.length:Int)),(276,.i (j:Int))] /\
   (D≠[] -> ∃ cs:List V,g2.get a'=some (.cells cs false)/\cs.length=D.length /\ ∀ i,i<D.length -> ∃ x,cs[i]?=some (.int .u8 x))/\g2.nx=g.nx /\ ∀ j,j≠a'->g2.get j=g.get j)
  (k:=D.length) Ze ⟨0,rfl,by omega,rfl,fun hn=>⟨bts D,gcells hn,by simp,fun i hi=>⟨_,jiK (za hi)⟩⟩,rfl,fun _ _=>rfl⟩ ?_
 rintro _ _ g2 ⟨j,rfl,hj,rfl,hcs,hx2,hk2⟩ n2 ih2
 by_cases hlt:(j:Int)<D.length
 case neg=>
  clear ih2 hcs gcells
  refine qm1 ?_
  refine ⟨ow',ro',rfl,b'.off om fun i hi ho=>hk2 i ?_,⟨by have:=fF.ch.nx;omega,fun i hi hb=>by rw [hk2 i om,fF.ch.get i hi hb]⟩,fF.tag,fF.rtag⟩
  rintro rfl
  rcases ho with ho | ho | ho | ho
  ·exact ho z2
  ·exact z3 ho
  ·exact z4 ho
  ·exact z5 ho
 obtain ⟨cs,g1,g3,g4⟩:=hcs (by rintro rfl;simp at hlt;omega)
 obtain ⟨x,hx⟩:=g4 j om
 have hx':cs[0+(j:Int).toNat*1]?=some (.int .u8 x):=by rw [show 0+(j:Int).toNat*1=j by omega];exact hx
 have hj1:(j:Int)+1=((j+1:Nat):Int):=by omega
 clear gcells hcs
 refine qm1 ?_
 refine Ops.store1 rfl rfl rfl g1 om ?_
 refine qm1 ?_
 rw [hj1]
 refine ih2 (D.length-(j+1)) om _ _ ⟨j+1,rfl,by omega,rfl,fun _=>⟨_,jab _,by simp;exact g3,fun i hi=>?_⟩,hx2,fun i hi=>by rw [jaa hi,hk2 i hi]⟩
 rw [zh]
 by_cases e:0+(j:Int).toNat*1=i
 ·rw [if_pos e,if_pos om];exact ⟨_,rfl⟩
 ·rw [if_neg e];exact g4 i hi
end
structure Rdy where
 op:Bool
 inn:Bool
 out:Bool
 hup:Bool
 err:Bool
 rd:Int
 wr:Int
def Rdy.cells (r:Rdy):List V:=[.bool r.op,.bool r.inn,.bool r.out,.bool r.hup,.bool r.err,.int .u64 r.rd,.int .u64 r.wr]
def Rdy.no:Rdy:=⟨false,false,false,false,false,0,0⟩
def Wi.rdy (x:Wi) (k:Nat):Rdy :=
 if 0<x.backlog then ⟨true,!x.waiting.isEmpty,false,false,false,(x.e k).inn,(x.e k).out⟩
 else ⟨true,x.rIn k,x.rOut k,(x.e (1-k)).what == 3,x.reset,(x.e k).inn,(x.e k).out⟩
noncomputable def rdyS (ws:Ws) (fd:Int):Rdy:=jcs ws fd Rdy.no fun _ k x=>x.rdy k
theorem rdyS_eq (ws:Ws) (fd:Int):jh9 ws fd=(rdyS ws fd).cells:=by
 unfold jh9 rdyS jcs
 split
 ·rfl
 ·split
  ·rfl
  ·show Wi.ready _ _=(Wi.rdy _ _).cells
   unfold Wi.ready Wi.rdy
   split<;>rfl
def mayAsk (ev:Int):Prop:=ev=0\/ev=1\/ev=4\/ev=5
instance (ev:Int):Decidable (mayAsk ev):=inferInstanceAs (Decidable (_\/_))
structure BX (h0 h:H) (p w s rw:Nat) (ow:Nat->Nat) (ro:Nat->Prop) (st:St) (i:Nat):Prop where
 b:BB h p w s rw ow ro (fun j=>j<h0.nx) st st
 so:StOk st i
 old:Old h0 h
 own : ∀ j,ow j≠0\/ro j->h0.nx<=j
 lp:h0.nx<=p
theorem old_fm {h0 h h':H} {ow ow':Nat->Nat} {ro ro':Nat->Prop} (o:Old h0 h) (f:Fm h h' ow ro ow' ro') (own : ∀ j,ow j≠0\/ro j->h0.nx<=j):Old h0 h' :=
 ⟨zy o.1 f.ch.nx,fun j hj=>by rw [f.ch.get j (zq hj o.1) fun hb=>by have:=own j hb;omega,o.2 j hj]⟩
theorem BX.fm {h0 h h':H} {p w s rw:Nat} {ow ow':Nat->Nat} {ro ro':Nat->Prop} {st st':St} {i i':Nat} (x:BX h0 h p w s rw ow ro st i) (b:BB h' p w s rw ow' ro' (fun j=>j<h0.nx) st' st') (f:Fm h h' ow ro ow' ro') (so:StOk st' i'):BX h0 h' p w s rw ow' ro' st' i':=by
 refine ⟨b,so,old_fm x.old f x.own,fun j hj=>?_,x.lp⟩
 rcases zw j h.nx with h1 | h1
 ·rw [f.tag j h1,f.rtag j h1] at hj
  exact x.own j hj
 ·exact zy x.old.1 h1
theorem BX.old' {h0 h h':H} {p w s rw:Nat} {ow:Nat->Nat} {ro:Nat->Prop} {st:St} {i:Nat} (x:BX h0 h p w s rw ow ro st i) (o:Old h h'):BX h0 h' p w s rw ow ro st i :=
 x.fm (x.b.old o) (Fm.old o) x.so
def st0:St:=⟨[],0,Tb.zero,none⟩
theorem atS_nil (fd:Int):atS [] fd=none:=jfj fun n k=>by rintro ⟨x,h,_⟩;simp at h
theorem st0_ok:StOk st0 0 where
 K:=⟨⟨fun n k n' k' fd h=>(by obtain ⟨x,hx,_⟩:=h;simp [st0] at hx),fun x hx=>(by simp [st0] at hx),by simp [st0],fun x hx=>(by simp [st0] at hx)⟩,fun i j x y p q m hx=>by simp [st0] at hx⟩
 nt := .inl rfl
 now:=⟨Int.le_refl _,by show (0:Int)<=_;omega⟩
 tb:=fun k=>⟨Int.le_refl _,Int.le_refl _⟩
theorem Ops.build {call:Call} {fuel base:Nat} {K:List Fr} {e:Env} {h:H} {Q:Post} {ix:Nat} {dst:Option Nat} {ops:List Ins} {keep:List Nat} {at_:Option Nat} {zero l:List V} {parts:List (Nat × Nat × Opd)} {ps:List (Nat × Nat × V)}
  (he:jbv e parts=some ps) (hf:ja9 zero ps=some l) (k:Ops call fuel base ops keep K (layv e dst (.agg l)) h Q):Ops call fuel base (⟨ix,dst,.build zero parts,none,at_,[]⟩ :: ops) keep K e h Q :=
 Ops.pure rfl (by simp only [I.pure,he,hf]) k
section
variable {cl:Nat->Call} (hcl:Sem cl)
include hcl
def wc0 (s:Nat):List V:=(List.replicate 96 ([.bool false,.i 0,.i 0]:List V)).flatten++[.nils,.p s 0,.int .u64 0,.bool false,.i 0,.i 0]
def rc0:List V := .nils :: tail 0 (fun _=>false) (fun _=>0) (-1) 0
omit hcl in
theorem wc0_eq (s:Nat):wc0 s=wc (fun i=>atS [] (i:Int)) .nils s 0 none:=by
 have e:(fun i:Nat=>atS [] (i:Int))=fun _=>none:=by funext i;exact atS_nil _
 rw [e]
 have:(List.replicate 96 ([.bool false,.i 0,.i 0]:List V)).flatten=jdF fun _=>none:=by
  kernel_rfl
 unfold wc0 wc
 rw [this]
 rfl
omit hcl in
theorem fillW (s:Nat):ja9 ((List.replicate 96 ([.bool false,.i 0,.i 0]:List V)).flatten++[.nils,.ptr none,.int .u64 0,.bool false,.i 0,.i 0]) [(289,1,.p s 0)]=some (wc0 s):=by kernel_rfl
omit hcl in
theorem fillR:ja9 ([.nils,.int .u64 0]++List.replicate 32 (.bool false:V)++List.replicate 34 (.i 0:V)) [(66,1,.i (-1))]=some rc0:=by kernel_rfl
set_option maxRecDepth 100000 in
theorem nw_world {d:Nat} (hd:2<=d) (h:H):cl d (.fn F.world_New) [] h=some (.p (h.nx+1) 0,(h.new Tb.zero.obj).new (.cells (wc0 h.nx) false)):=by
 have hs:=sp_new hcl (d:=d-1) om h
 refine jak (at_ hcl om rfl rfl rfl ?_)
 refine Run.seq (Run.region0 (Ops.mv rfl (Ops.nil qkp (End.seq (Run.seq (Run.region0 (Ops.callf rfl hs (Ops.build rfl (fillW h.nx) (Ops.make rfl rfl ?_)))))))))
 refine qo1 ?_
 exact ⟨rfl,rfl⟩
set_option maxRecDepth 100000 in
theorem nw_ref {d:Nat} (hd:1<=d) (h:H):cl d (.fn F.je3) [] h=some (.p h.nx 0,h.new (.cells rc0 false)):=by
 refine jak (at_ hcl om rfl rfl rfl ?_)
 refine Run.seq (Run.region0 (Ops.mv rfl (Ops.nil qkp (End.seq (Run.seq (Run.region0 (Ops.build rfl fillR (Ops.make rfl rfl ?_))))))))
 refine qo1 ?_
 exact ⟨rfl,rfl⟩
theorem nw_fresh {d:Nat} (hd:3<=d) (h:H) (hf : ∀ j,h.nx<=j->h.get j=none) : ∃ p w s rw ow ro h',cl d (.fn F.jdK) [] h=some (.p p 0,h')/\BX h h' p w s rw ow ro st0 0:=by
 have e1:=nw_world hcl (d:=d-1) om h
 have e2:=nw_ref hcl (d:=d-1) om ((h.new Tb.zero.obj).new (.cells (wc0 h.nx) false))
 have x1:((h.new Tb.zero.obj).new (.cells (wc0 h.nx) false)).nx=h.nx+2:=rfl
 rw [x1] at e2
 have o4:Old h ((((h.new Tb.zero.obj).new (.cells (wc0 h.nx) false)).new (.cells rc0 false)).new (.cells [.p (h.nx+1) 0,.p (h.nx+2) 0] false)):=(Old.refl h).new.new.new.new
 refine ⟨h.nx+3,h.nx+1,h.nx,h.nx+2,fun j=>if j=h.nx then 3 else if j=h.nx+1 then 1 else 0,fun j=>j=h.nx+2,(((h.new Tb.zero.obj).new (.cells (wc0 h.nx) false)).new (.cells rc0 false)).new (.cells [.p (h.nx+1) 0,.p (h.nx+2) 0] false),jak (at_ hcl om rfl rfl rfl ?_),⟨⟨?_,?_,?_,?_,?_,?_,?_⟩,st0_ok,o4,?_,?_⟩⟩
 ·refine qm1 ?_
  exact ⟨rfl,rfl⟩
 ·refine ⟨[],⟨⟨⟨.nils,?_,Row.nil _ _ _,fun z hz=>by cases hz⟩,?_,?_,?_,?_,?_,fun j hj=>?_,fun n t ht=>by simp at ht⟩,fun n k fd hat=>?_⟩,rfl⟩
  ·have e:=wc0_eq h.nx
   show _=some (Obj.cells (wc (fun i=>atS [] (i:Int)) .nils h.nx 0 none) false)
   rw [<- e]
   exact qgt
  ·exact qgt
  ·show (if h.nx+1=h.nx then 3 else if h.nx+1=h.nx+1 then 1 else 0)=1
   rw [if_neg om,if_pos rfl]
  ·show (if h.nx=h.nx then 3 else if h.nx=h.nx+1 then 1 else 0)=3
   rw [if_pos rfl]
  ·simp<;>omega
  ·simp<;>omega
  ·have hj:h.nx+4<=j:=hj
   show (if j=h.nx then 3 else if j=h.nx+1 then 1 else 0)=0
   rw [if_neg om,if_neg om]
  ·obtain ⟨x,hx,_⟩:=hat;simp at hx
 ·refine ⟨[],⟨⟨h.nx+3,fun e=>absurd rfl e,fun g gn gk=>⟨?_,?_,by omega,fun e=>absurd rfl e,fun _=>?_,fun r hr=>by cases hr⟩⟩,fun j hj=>?_,rfl,fun j hj hd=>?_⟩,rfl⟩
  ·rw [gn];simp
  ·rw [gn];simp
  ·rw [gk (h.nx+2) Zd (.inl rfl)]
   show _=some (Obj.cells rc0 false)
   exact qgt
  ·rcases hj with rfl | hj
   ·simp
   ·simp<;>omega
  ·have hj:j=h.nx+2:=hj
   have hd:j<h.nx:=hd
   omega
 ·exact qgt
 ·simp
 ·intro j hj
  have hj:j=h.nx+2\/j<h.nx:=hj
  show (if j=h.nx then 3 else if j=h.nx+1 then 1 else 0)=0
  rw [if_neg om,if_neg om]
 ·show (if h.nx+3=h.nx then 3 else if h.nx+3=h.nx+1 then 1 else 0)=0
  rw [if_neg om,if_neg om]
 ·intro hj
  have hj:h.nx+3=h.nx+2\/h.nx+3<h.nx:=hj
  omega
 ·intro j hj
  rcases hj with hj | hj
  ·have hj:(if j=h.nx then 3 else if j=h.nx+1 then 1 else 0)≠0:=hj
   by_cases h1:j=h.nx
   ·omega
   ·rw [if_neg h1] at hj
    by_cases h2:j=h.nx+1
    ·omega
    ·rw [if_neg h2] at hj;exact absurd rfl hj
  ·have hj:j=h.nx+2:=hj
   omega
 ·omega
end
abbrev ddc (w:Nat) (kv:V) (L:Nat) (room:Int):List V:=[.p w 0,kv,.p L 0,.i room,.i (-1),.i (-1)]
section
variable {cl:Nat->Call} (hcl:Sem cl) {d D L w s:Nat} {kv:V} {h:H} {ow:Nat->Nat} {ws:Ws} {now:Int} {tb:Tb} {no:Option (Nat × Nat)} {k room fd n:Int} {f:Nat->Int}
include hcl
theorem jkF (hd:1<=d) (hD:h.get D=some (.cells (ddc w kv L room) false)):cl d (.fn F.jfa) [.p D 0] h=some (.bool false,h):=by
 have h0:(ddc w kv L room)[0+0]?=some (.p w 0):=rfl
 refine jak (at_ hcl om rfl rfl rfl ?_)
 refine qx1 ?_
 exact ⟨rfl,rfl⟩
theorem jff (hd:3<=d) (hD:h.get D=some (.cells (ddc w kv L room) false)) (hL:h.get L=some (.cells (lc f) false)):cl d (.fn F.je7) [.p D 0,.i fd] h=some (.i (if 0<=fd/\fd<=95 then f fd.toNat else 0),h):=by
 have e1:=jkF hcl (d:=d-1) om hD
 have h0:(ddc w kv L room)[0+2]?=some (.p L 0):=rfl
 by_cases hf:0<=fd/\fd<=95
 ·have e2:=cg_Wants hcl (d:=d-1) om hL hf
  rw [if_pos hf]
  refine jak (at_ hcl om rfl rfl rfl ?_)
  clear hf
  refine qx1 ?_
  exact ⟨rfl,rfl⟩
 ·have e2:=jkH hcl (d:=d-1) om hL hf
  rw [if_neg hf]
  refine jak (at_ hcl om rfl rfl rfl ?_)
  clear hf
  refine qx1 ?_
  exact ⟨rfl,rfl⟩
theorem dq_open (hd:5<=d) (a:WSt h w s ow ws now tb no) (o:WsOk ws) (hD:h.get D=some (.cells (ddc w kv L room) false)) :
  ∃ h',cl d (.fn F.jeZ) [.p D 0,.i fd] h=some (.bool (rdyS ws fd).op,h')/\Old h h':=by
 obtain ⟨h1,e1,o1⟩:=ww_Ready hcl (d:=d-1) (fd:=fd) om a o
 rw [rdyS_eq] at e1
 have q0:(ddc w kv L room)[0+0]?=some (.p w 0):=rfl
 generalize rdyS ws fd=r at e1
 obtain ⟨op,_,_,_,_,_,_⟩:=r
 replace e1:cl (d-1) (.fn F.jdk) [.p w 0,.i fd] h=some (.agg [.bool op,_,_,_,_,_,_],h1):=e1
 clear a o
 refine jal (at_ hcl om rfl rfl rfl ?_)
 refine qx1 ?_
 exact ⟨rfl,o1⟩
theorem jo4 (hd:6<=d) (a:WSt h w s ow ws now tb no) (o:WsOk ws) (hD:h.get D=some (.cells (ddc w kv L room) false)) (hL:h.get L=some (.cells (lc f) false)) (lD:D<h.nx) (lL:L<h.nx) :
  ∃ e h',cl d (.fn F.jdn) [.p D 0,.i fd,.i n] h=some (.i e,h')/\Ch (fun j=>j=L) h h'/\((e=0/\inFd fd/\h'.get L=some (.cells (lc (put1 f fd.toNat n)) false))\/(e≠0/\h'.get L=some (.cells (lc f) false))):=by
 suffices q : ∃ v h',cl d (.fn F.jdn) [.p D 0,.i fd,.i n] h=some (v,h') /\ ∃ e,v = .i e/\Ch (fun j=>j=L) h h'/\((e=0/\inFd fd/\h'.get L=some (.cells (lc (put1 f fd.toNat n)) false))\/(e≠0/\h'.get L=some (.cells (lc f) false))) by
  obtain ⟨_,h',e,r,rfl,q⟩:=q;exact ⟨r,h',e,q⟩
 have e1:=jkF hcl (d:=d-1) om hD
 have no2 : ∃ e:Int,V.i 2 = .i e/\Ch (fun j=>j=L) h h/\((e=0/\inFd fd/\h.get L=some (.cells (lc (put1 f fd.toNat n)) false))\/(e≠0/\h.get L=some (.cells (lc f) false))):=⟨2,rfl,Ch.refl _ _,.inr ⟨by omega,hL⟩⟩
 have e3:=jo5 hcl (d:=d-1) (h:=h) (n:=n) om
 by_cases hf:inFd fd
 case neg=>
  unfold inFd at hf
  have hf' : ¬ (0<=fd/\fd<=95):=hf
  refine at_ hcl om rfl rfl rfl ?_
  by_cases f0:fd<0
  ·clear a o hf hf'
   refine qx1 ?_
   exact no2
  ·have f1:95<fd:=by omega
   clear a o hf hf'
   refine qx1 ?_
   exact no2
 obtain ⟨f0,f1⟩:=id hf
 have f0' : ¬ fd<0:=by omega
 have f1' : ¬ 95<fd:=by omega
 cases hm:mayW n with
 | false=>
  rw [hm] at e3
  refine at_ hcl om rfl rfl rfl ?_
  clear a o hf
  refine qx1 ?_
  exact no2
 | true=>
 rw [hm] at e3
 have q2:(ddc w kv L room)[0+2]?=some (.p L 0):=rfl
 have q4:(ddc w kv L room)[0+4]?=some (.i (-1)):=rfl
 have ne : ¬ fd = -1:=by omega
 by_cases n0:n=0
 ·have e4:=jnN hcl (d:=d-1) om hL hf hm
  refine at_ hcl om rfl rfl rfl ?_
  clear a o no2
  refine qx1 ?_
  exact ⟨0,rfl,Ch.set rfl,.inl ⟨rfl,hf,jab _⟩⟩
 obtain ⟨h1,e5,o1⟩:=dq_open hcl (d:=d-1) (fd:=fd) om a o hD
 have hD1:h1.get D=some (.cells (ddc w kv L room) false):=by rw [o1.2 D lD,hD]
 have hL1:h1.get L=some (.cells (lc f) false):=by rw [o1.2 L lL,hL]
 generalize (rdyS ws fd).op=op at e5
 have e4:=jnN hcl (d:=d-1) om hL1 hf hm
 refine at_ hcl om rfl rfl rfl ?_
 clear a o no2
 cases op with
 | false=>
  refine qx1 ?_
  exact ⟨110,rfl,o1.ch,.inr ⟨by omega,hL1⟩⟩
 | true=>
  refine qx1 ?_
  exact ⟨0,rfl,o1.ch.trans (Ch.set rfl),.inl ⟨rfl,hf,jab _⟩⟩
theorem jjE (hd:3<=d) (hD:h.get D=some (.cells (ddc w kv L room) false)) (hL:h.get L=some (.cells (lc f) false)) :
  ∃ h',cl d (.fn F.jeq) [.p D 0,.i fd] h=some (.tup [],h')/\Ch (fun j=>j=L) h h'/\h'.get L=some (.cells (lc (if 0<=fd/\fd<=95 then put1 f fd.toNat 0 else f)) false):=by
 have e1:=jkF hcl (d:=d-1) om hD
 have e2:=cg_Held hcl (d:=d-1) (fd:=fd) om hL
 have q2:(ddc w kv L room)[0+2]?=some (.p L 0):=rfl
 by_cases hf:0<=fd/\fd<=95
 ·obtain ⟨h1,e3,u⟩:=cg_Forget hcl (d:=d-1) om hL hf
  rw [if_pos hf]
  refine jal (at_ hcl om rfl rfl rfl ?_)
  clear hf
  refine qx1 ?_
  exact ⟨rfl,u.ch rfl,u.self⟩
 ·have e3:=jjK hcl (d:=d-1) om hL hf
  rw [if_neg hf]
  refine jal (at_ hcl om rfl rfl rfl ?_)
  clear hf
  refine qx1 ?_
  exact ⟨rfl,Ch.refl _ _,hL⟩
set_option maxRecDepth 100000 in
theorem cg_New (hd:1<=d):cl d (.fn F.jmA) [] h=some (.p h.nx 0,h.new (.cells (lc fun _=>0) false)):=by
 have hb:ja9 (List.replicate 192 (.i 0:V)++[.bool false]) [(192,1,.bool true)]=some (lc fun _=>0):=by kernel_rfl
 refine jak (at_ hcl om rfl rfl rfl ?_)
 refine Run.seq (Run.region0 (Ops.mv rfl (Ops.nil qkp (End.seq (Run.seq (Run.region0 (Ops.build rfl hb ?_)))))))
 refine qm1 ?_
 exact ⟨rfl,rfl⟩
theorem ep_New (hd:1<=d):cl d (.fn F.epl_New) [.p w 0,.i 96] h=some (.tup [.p (h.nx+1) 0,.i 0],(h.new (.map [] 0)).new (.cells [.p w 0,.i 96,.map (some h.nx)] false)):=by
 refine jak (at_ hcl om rfl rfl rfl ?_)
 refine qm1 ?_
 exact ⟨rfl,rfl⟩
theorem kq_New (hd:1<=d):cl d (.fn F.kqu_New) [.p w 0] h=some (.tup [.p (h.nx+1) 0,.i 0],(h.new (.map [] 0)).new (.cells [.p w 0,.map (some h.nx)] false)):=by
 refine jak (at_ hcl om rfl rfl rfl ?_)
 refine qm1 ?_
 exact ⟨rfl,rfl⟩
theorem dq_New_no (hd:1<=d) (hk : ¬ ((k=3\/k=4)/\1<=room/\room<=256)):cl d (.fn F.jfB) [.p w 0,.i k,.i room] h=some (.tup [.ptr none,.i 2],h):=by
 refine jak (at_ hcl om rfl rfl rfl ?_)
 by_cases k3:k=3
 ·by_cases r0:room<1
  ·clear hk
   refine qx1 ?_
   exact ⟨rfl,rfl⟩
  ·have r1:256<room:=by omega
   clear hk
   refine qx1 ?_
   exact ⟨rfl,rfl⟩
 ·by_cases k4:k=4
  ·by_cases r0:room<1
   ·clear hk
    refine qx1 ?_
    exact ⟨rfl,rfl⟩
   ·have r1:256<room:=by omega
    clear hk
    refine qx1 ?_
    exact ⟨rfl,rfl⟩
  ·clear hk
   refine qx1 ?_
   exact ⟨rfl,rfl⟩
theorem dq_New (hd:2<=d) (hk:k=3\/k=4) (r0:1<=room) (r1:room<=256) :
  ∃ D L kv h',cl d (.fn F.jfB) [.p w 0,.i k,.i room] h=some (.tup [.p D 0,.i 0],h')/\Old h h'/\h'.get D=some (.cells (ddc w kv L room) false)/\h'.get L=some (.cells (lc fun _=>0) false)/\D≠L/\h.nx<=D/\h.nx<=L/\D<h'.nx/\L<h'.nx:=by
 have e1:=cg_New hcl (d:=d-1) (h:=h) om
 have r0' : ¬ room<1:=by omega
 have r1' : ¬ 256<room:=by omega
 suffices q : ∃ v h',cl d (.fn F.jfB) [.p w 0,.i k,.i room] h=some (v,h') /\ ∃ D L kv,v = .tup [.p D 0,.i 0]/\Old h h'/\h'.get D=some (.cells (ddc w kv L room) false)/\h'.get L=some (.cells (lc fun _=>0) false)/\D≠L/\h.nx<=D/\h.nx<=L/\D<h'.nx/\L<h'.nx by
  obtain ⟨_,h',e,D,L,kv,rfl,q⟩:=q;exact ⟨D,L,kv,h',e,q⟩
 obtain ⟨l0,hl0⟩ : ∃ l0,l0=lc fun _=>0:=⟨_,rfl⟩
 rw [<- hl0] at e1 ⊢
 clear hl0
 rcases hk with rfl | rfl
 ·have e2:=ep_New hcl (d:=d-1) (w:=w) (h:=(h.new (.cells l0 false)).new (.cells [.p w 0,.nili,.p h.nx 0,.i room,.i (-1),.i (-1)] false)) om
  have x:((h.new (.cells l0 false)).new (.cells [.p w 0,.nili,.p h.nx 0,.i room,.i (-1),.i (-1)] false)).nx=h.nx+2:=rfl
  rw [x] at e2
  refine at_ hcl om rfl rfl rfl ?_
  refine qm1 ?_
  refine ⟨h.nx+1,h.nx,.iface 83 (.p (h.nx+4) 0),rfl,?_,?_,?_,by omega,by omega,zp _,?_,?_⟩
  ·exact (Old.refl h).new.new.new.new.new.set (Nat.le_succ _)
  ·exact jab _
  ·exact qgt
  ·show h.nx+1<h.nx+5;omega
  ·show h.nx<h.nx+5;omega
 ·have e2:=kq_New hcl (d:=d-1) (w:=w) (h:=(h.new (.cells l0 false)).new (.cells [.p w 0,.nili,.p h.nx 0,.i room,.i (-1),.i (-1)] false)) om
  have x:((h.new (.cells l0 false)).new (.cells [.p w 0,.nili,.p h.nx 0,.i room,.i (-1),.i (-1)] false)).nx=h.nx+2:=rfl
  rw [x] at e2
  refine at_ hcl om rfl rfl rfl ?_
  refine qm1 ?_
  refine ⟨h.nx+1,h.nx,.iface 89 (.p (h.nx+4) 0),rfl,?_,?_,?_,by omega,by omega,zp _,?_,?_⟩
  ·exact (Old.refl h).new.new.new.new.new.set (Nat.le_succ _)
  ·exact jab _
  ·exact qgt
  ·show h.nx+1<h.nx+5;omega
  ·show h.nx<h.nx+5;omega
end
def jkJ (n:Int):UInt8:=UInt8.ofNat n.toNat
theorem byteI_V {n:Int} (h1:0<=n) (h2:n<=255):jfh (jkJ n) = .int .u8 n:=by
 have:n.toNat<256:=by omega
 simp only [jfh,jkJ,UInt8.toNat_ofNat',Nat.mod_eq_of_lt this]
 congr 1;omega
theorem jjf {h:H} : ∀ {l:List Int} {cs:List V},jbs (jcH .u8) h l cs->cs=bts (l.map jkJ)
 | [],_,e=>e
 | x :: l,_,⟨u,w,e,h1,h2⟩=>by
  obtain ⟨rfl,h3⟩:=h1
  rw [e,jjf h2,<- byteI_V h3.1 h3.2];rfl
theorem jlB {h:H} {l:List Int} {u:V} {B:Nat} (r:jcV B (jcH .u8) h l [u]) : ∃ a c,u = .slice a l.length (.fix c)/\(l.length<=B->BytesAt h a (.fix c) (l.map jkJ)):=by
 obtain ⟨a,c,e,h1,h2,h3⟩:=r
 cases e
 refine ⟨a,c,rfl,fun hB=>⟨fun e=>?_,by show (l.map jkJ).length<=c;simpa using h2,fun hn=>?_⟩⟩
 ·obtain ⟨rfl,rfl⟩:=h3 e;exact ⟨rfl,rfl⟩
 ·obtain ⟨b,cs,q1,q2,q3,q4⟩:=h1 hB (by rintro rfl;exact hn rfl)
  refine ⟨b,0,cs,true,q1,q2,q3,fun i x hi=>?_⟩
  rw [jjf q4,Nat.zero_add];exact jiK hi
theorem BytesAt.keep {h h':H} {a:Option (Nat × Nat)} {c:Cap} {l:List UInt8} (t:BytesAt h a c l) (hx:h.nx<=h'.nx) (hk : ∀ j o,j<h.nx->h.get j=some o->h'.get j=some o):BytesAt h' a c l :=
 ⟨t.none_,t.fits,fun hn=>by
  obtain ⟨b,o,cs,ro,q1,q2,q3,q4⟩:=t.at_ hn
  exact ⟨b,o,cs,ro,q1,by omega,hk _ _ q2 q3,q4⟩⟩
theorem BytesAt.lt {h:H} {a:Option (Nat × Nat)} {c:Cap} {l:List UInt8} (t:BytesAt h a c l) {N:Nat} (hN:h.nx<=N) {z o:Nat} (ha:a=some (z,o)) (hl:l≠[]):z<N:=by
 obtain ⟨b,o',cs,ro,q1,q2,_⟩:=t.at_ hl
 rw [q1] at ha;cases ha;omega
structure OpX where
 k:Int
 a:Int
 n:Int
 t:Int
 dv:V
 D:List UInt8
abbrev OpX.V (x:OpX):List V:=opV x.k x.a x.n x.t x.dv
structure OpOk (h:H) (x:OpX):Prop where
 dv : ∃ a c,x.dv = .slice a x.D.length c/\(x.D.length<=300->BytesAt h a c x.D)
 t0:0<=x.t
 t1:x.t<=18446744073709551615
theorem OpOk.keep {h h':H} {x:OpX} (o:OpOk h x) (hx:h.nx<=h'.nx) (hk : ∀ j o,j<h.nx->h.get j=some o->h'.get j=some o):OpOk h' x:=by
 obtain ⟨⟨a,c,e,g⟩,t0,t1⟩:=o
 exact ⟨⟨a,c,e,fun hl=>(g hl).keep hx hk⟩,t0,t1⟩
theorem OpOk.dat {h:H} {x:OpX} (o:OpOk h x) (hl:x.D.length<=300):Dat h (fun j=>j<h.nx) x.dv x.D:=by
 obtain ⟨⟨a,c,e,g⟩,_,_⟩:=o
 refine ⟨⟨a,c,e,g hl⟩,fun hn z hz=>?_,hl⟩
 obtain ⟨b,o,cs,ro,q1,q2,_⟩:=(g hl).at_ hn
 rw [e,q1] at hz
 cases hz;exact q2
def jkO (h:H) (lv:V) (L:List OpX):Prop := ∃ ad c,lv = .slice ad L.length c/\(L.length<=200->(∀ x∈L,OpOk h x)/\(L≠[] -> ∃ b cs ro,ad=some (b,0)/\b<h.nx/\h.get b=some (.cells cs ro)/\cs.length=L.length*5 /\ ∀ (i:Nat) (x:OpX),L[i]?=some x->(cs.drop (i*5)).take 5=x.V))
theorem jkO.keep {h h':H} {lv:V} {L:List OpX} (o:jkO h lv L) (hx:h.nx<=h'.nx) (hk : ∀ j o,j<h.nx->h.get j=some o->h'.get j=some o):jkO h' lv L:=by
 obtain ⟨ad,c,e,g⟩:=o
 refine ⟨ad,c,e,fun hl=>⟨fun x hx'=>((g hl).1 x hx').keep hx hk,fun hn=>?_⟩⟩
 obtain ⟨b,cs,ro,q1,q2,q3,q4⟩:=(g hl).2 hn
 exact ⟨b,cs,ro,q1,by omega,hk _ _ q2 q3,q4⟩
def fewL (L:List OpX):Prop:=L.length<=200 /\ ∀ x∈L,x.D.length<=300
theorem jnZ {α : Type} {l:List α} {i:Nat} (h:i<l.length) : ∃ x,l[i]?=some x:=⟨_,za h⟩
section
variable {cl:Nat->Call} (hcl:Sem cl)
include hcl
theorem joZ {d:Nat} {h:H} {lv:V} {L:List OpX} (hd:1<=d) (hL:jkO h lv L) :
  ∃ v,cl d (.fn F.jcy) [lv] h=some (v,h)/\(v = .i 1\/(v = .i 0/\fewL L)):=by
 obtain ⟨ad,c,rfl,hin⟩:=hL
 suffices ∃ v h',cl d (.fn F.jcy) [.slice ad L.length c] h=some (v,h')/\(h'=h/\(v = .i 1\/(v = .i 0/\fewL L))) by
  obtain ⟨v,h',q1,rfl,q3⟩:=this
  exact ⟨v,q1,q3⟩
 refine at_ hcl om rfl rfl rfl ?_
 by_cases h1:200<(L.length:Int)
 ·refine qx1 ?_
  exact ⟨rfl,.inl rfl⟩
 obtain ⟨hok,hel⟩:=hin om
 refine qx1 ?_
 refine Run.loop (fun m e h'=>∃ i:Nat,m=L.length-i/\i<=L.length/\e=[(0,.slice ad L.length c),(8,.i (L.length:Int)),(9,.i (i:Int))]/\h'=h /\ ∀ j x,j<i->L[j]?=some x->x.D.length<=300) (k:=L.length) Ze ⟨0,rfl,by omega,rfl,rfl,fun j x hj=>by omega⟩ ?_
 rintro _ _ _ ⟨i,rfl,hi,rfl,rfl,hj⟩ n' ih
 by_cases hlt:(i:Int)<L.length
 case neg=>
  have hf:fewL L:=⟨by omega,fun x hx=>by
   obtain ⟨j,hjl,e⟩:=List.getElem_of_mem hx
   exact hj j x om (by rw [za hjl,e])⟩
  clear ih hel hok hj
  refine qx1 ?_
  exact ⟨rfl,.inr ⟨rfl,hf⟩⟩
 obtain ⟨x,hx⟩:=jnZ (l:=L) (i:=i) om
 obtain ⟨b,cs,ro,rfl,_,hb,hcl',hc⟩:=hel (by rintro rfl;simp at hx)
 obtain ⟨⟨da,dc,edv,_⟩,_,_⟩:=hok x (zb hx)
 have h5:=hc i x hx
 have hc':cs[0+(i:Int).toNat*5+4]?=some (.slice da x.D.length dc):=by
  have:((cs.drop (i*5)).take 5)[4]?=some x.dv:=by rw [h5];rfl
  rw [List.getElem?_take,if_pos om,zl] at this
  rw [show 0+(i:Int).toNat*5+4=i*5+4 by omega,this,edv]
 clear hel hok hc h5
 by_cases hd3:300<(x.D.length:Int)
 ·clear ih hj
  refine qx1 ?_
  exact ⟨rfl,.inl rfl⟩
 ·have hi1:(i:Int)+1=((i+1:Nat):Int):=by omega
  refine qx1 ?_
  rw [hi1]
  refine ih (L.length-(i+1)) om _ _ ⟨i+1,rfl,by omega,rfl,rfl,fun j y hj' hy=>?_⟩
  by_cases e:j=i
  ·subst e
   rw [hx] at hy;cases hy
   omega
  ·exact hj j y om hy
theorem bx_do {d i p w s rw:Nat} {h0 h:H} {ow:Nat->Nat} {ro:Nat->Prop} {st:St} {x:OpX} (hd:16<=d) (b:BX h0 h p w s rw ow ro st i) (hi:i<=200) (hx:OpOk h0 x) (hl:x.D.length<=300) :
  ∃ h' ow' ro',cl d (.fn F.jbu) [.p p 0,.agg x.V] h=some (.bool true,h')/\BX h0 h' p w s rw ow' ro' (doS x.k x.a x.n x.t x.D st) (i+1)/\Fm h h' ow ro ow' ro':=by
 have hD:Dat h (fun j=>j<h0.nx) x.dv x.D:=by
  have:=hx.dat hl
  exact ⟨this.v.keep2 b.old.1 fun hn z hz=>b.old.2 z (this.z hn z hz),this.z,hl⟩
 obtain ⟨h',ow',ro',e,b',f⟩:=do_ok hcl (k:=x.k) (a:=x.a) (n:=x.n) (t:=x.t) hd b.b b.so hi hD hx.t0 hx.t1
 exact ⟨h',ow',ro',e,b.fm b' f (doS_ok b.so hx.t0 hx.t1),f⟩
end
noncomputable def runS (L:List OpX) (st:St):St:=L.foldl (fun st x=>doS x.k x.a x.n x.t x.D st) st
theorem runS_take {L:List OpX} {i:Nat} {x:OpX} (hx:L[i]?=some x) (st:St):runS (L.take (i+1)) st=doS x.k x.a x.n x.t x.D (runS (L.take i) st):=by
 unfold runS
 rw [List.take_add_one,hx]
 simp
def jiN (n:Nat) (v:V) (h':H):Bool:=jn4 v&&(Nat.beq h'.nx n&&Nat.ble (ttop h'.t) n)
abbrev jmr:H->Int × Int × Int × Int × List Int × Unit->List V->Prop:=jbW (jcH .i64) (jbW (jcH .i64) (jbW (jcH .i64) (jbW (jcH .u64) (jbW (jcV 300 (jcH .u8)) jlg))))
theorem jgF {h:H} {x:Int × Int × Int × Int × List Int × Unit} {vs:List V} (r:jmr h x vs) : ∃ u,vs=[.i x.1,.i x.2.1,.i x.2.2.1,.int .u64 x.2.2.2.1,u]/\jcV 300 (jcH .u8) h x.2.2.2.2.1 [u]/\0<=x.2.2.2.1/\x.2.2.2.1<=18446744073709551615:=by
 obtain ⟨_,_,rfl,⟨rfl,_⟩,_,_,rfl,⟨rfl,_⟩,_,_,rfl,⟨rfl,_⟩,_,_,rfl,⟨rfl,ht⟩,u,w,rfl,r5,hw⟩:=r
 obtain rfl:w=[]:=hw
 have ⟨ad,c,e,h1⟩:=r5
 subst e
 exact ⟨_,rfl,⟨ad,c,rfl,h1⟩,ht.1,ht.2⟩
theorem jnu {h:H} : ∀ {l:List (Int × Int × Int × Int × List Int × Unit)} {cs:List V},jbs jmr h l cs -> ∃ L:List OpX,L.length=l.length/\cs=(L.map OpX.V).flatten /\ ∀ x∈L,OpOk h x
 | [],_,e=>⟨[],rfl,e,fun x hx=>by cases hx⟩
 | y :: l,_,⟨u,w,e,h1,h2⟩=>by
  obtain ⟨L,l1,l2,l3⟩:=jnu h2
  obtain ⟨v,e1,r,t0,t1⟩:=jgF h1
  obtain ⟨a,c,rfl,hB⟩:=jlB r
  refine ⟨⟨y.1,y.2.1,y.2.2.1,y.2.2.2.1,.slice a y.2.2.2.2.1.length (.fix c),y.2.2.2.2.1.map jkJ⟩ :: L,by simp [l1],by rw [e,e1,l2];rfl,fun x hx=>?_⟩
  rcases List.mem_cons.1 hx with rfl | hx
  ·exact ⟨⟨a,.fix c,by simp,fun hl=>hB (by simpa using hl)⟩,t0,t1⟩
  ·exact l3 x hx
theorem jl0 : ∀ L:List OpX,(L.map OpX.V).flatten.length=L.length*5
 | []=>rfl
 | x :: L=>by
  have:=jl0 L
  have h5:(OpX.V x).length=5:=rfl
  show (OpX.V x++(L.map OpX.V).flatten).length=_
  rw [ze,this,h5]
  simp;omega
theorem flat_get : ∀ {L:List OpX} {i:Nat} {x:OpX},L[i]?=some x->(((L.map OpX.V).flatten).drop (i*5)).take 5=x.V
 | [],i,x,h=>by simp at h
 | y :: L,0,x,h=>by simp at h;subst h;rfl
 | y :: L,i+1,x,h=>by
  rw [List.map_cons,List.flatten_cons,show (i+1)*5=(OpX.V y).length+i*5 by show _=5+_;omega,<- List.drop_drop,List.drop_left]
  exact flat_get (by simpa using h)
theorem opsIn_of {h:H} {l:List (Int × Int × Int × Int × List Int × Unit)} {u:V} (r:jcV 200 jmr h l [u]) : ∃ L:List OpX,L.length=l.length/\jkO h u L:=by
 obtain ⟨ad,c,e,h1,h2,h3⟩:=r
 cases e
 by_cases hl:l.length<=200
 ·by_cases hn:l=[]
  ·subst hn
   exact ⟨[],rfl,ad,.fix c,rfl,fun _=>⟨fun x hx=>(by cases hx),fun e=>absurd rfl e⟩⟩
  ·obtain ⟨b,cs,rfl,q1,q2,q3⟩:=h1 hl hn
   obtain ⟨L,l1,rfl,l3⟩:=jnu q3
   exact ⟨L,l1,_,.fix c,by rw [l1],fun _=>⟨l3,fun _=>⟨b,_,true,rfl,q1,q2,jl0 L,fun i x hx=>flat_get hx⟩⟩⟩
 ·exact ⟨List.replicate l.length ⟨0,0,0,0,.nils,[]⟩,by simp,ad,.fix c,by simp,fun hl'=>absurd (by simpa using hl') hl⟩
end Am.Sigs
