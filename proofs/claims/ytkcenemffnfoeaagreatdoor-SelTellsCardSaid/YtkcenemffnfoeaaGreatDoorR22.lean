/- Our own library, part 22. -/
import Derived.Test.YtkcenemffnfoeaaGreatDoorR21
import Derived.Test.YtkcenemffnfoeaaGreatDoorR20
import Derived.Test.YtkcenemffnfoeaaGreatDoorR18
import Derived.Test.YtkcenemffnfoeaaGreatDoorR17
import Derived.Test.YtkcenemffnfoeaaGreatDoorR11
set_option maxHeartbeats 8000000
set_option linter.all false
namespace Am.Sigs
open Am Go
section
variable {cl:Nat->Call} (hcl:Sem cl) {h:H} {w s:Nat} {ow:Nat->Nat} {l:List WX} {now:Int} {tb:Tb} {no:Option (Nat × Nat)}
include hcl
theorem cw_ok {d m nn:Nat} {t:WX} (hd:5<=d) (K:WsK (wxs l)) (a:WW h w s ow l now tb no) (ht:l[m]?=some t) (hb0:t.x.backlog≠0) (hw1:t.x.e0.what=1) (hm1:1<=nn) (hm2:nn<=65536) (hbk : ¬ t.x.backlog<=t.x.waiting.length) (hfull:l.length<1000) :
  ∃ h' ow',cl d (.fn F.jb3) [.p w 0,.i (m:Int),.i (nn:Int)] h=some (.tup [.i (l.length:Int),.i 0],h') /\
   WSt h' w s ow' ((wxs l).set m { t.x with waiting:=t.x.waiting++[(l.length:Int)],e0 := { t.x.e0 with inn:=upu t.x.e0.inn } } ++ [jbh nn]) now tb no/\To h h' ow ow':=by
 have lw:=a.wf.lw
 have hnone:=jbC hcl (d:=d-1) om a.wf
 have hcap:=jhB hcl (h:=h) (d:=d-1) (n:=(nn:Int)) om
 rw [decide_eq_true om] at hcap
 obtain ⟨sa,c,hw,hsl⟩:=a.wf.head
 have c1:(wc (fun i=>atS (wxs l) (i:Int)) (.slice sa l.length c) s now no)[0+288]?=some (.slice sa l.length c):=jaO rfl
 have hlt:=x_lt ht
 obtain ⟨z,rfl,z1,z2,z3⟩:=hsl (by rintro rfl;simp at hlt)
 have hx:=jaj ht
 have X:=a.wf.ok m t ht
 have hwb:=X.lx
 have w2:(wps l)[0+(m:Int).toNat*1]?=some (.p t.wb 0):=by rw [show 0+(m:Int).toNat*1=m by omega];exact jc8 ht
 have gt:h.get t.wb=some (.cells (t.x.cells t.r0 t.r1 t.wv) false):=X.hx
 have hvi:=X.wait.1
 obtain ⟨av,cv,hva,_⟩:=id hvi
 rw [hva] at gt hvi
 have hnw : ¬ t.x.e0.what≠1:=fun e=>e hw1
 have hl2 : ¬ 1000<=(l.length:Int):=by omega
 have hwt:=(K.ok.wait t.x (zc hx)).1
 obtain ⟨h1,e1,x1,o1,g0,g2,g1,g4,g3⟩:=jmx hcl (h:=h) (n:=nn) (d:=d-1) om hm2
 simp only [jnP,Wi.obj,Wi.cells,En.cells,List.cons_append,List.nil_append] at g0
 suffices q : ∃ v h',cl d (.fn F.jb3) [.p w 0,.i (m:Int),.i (nn:Int)] h=some (v,h') /\ ∃ ow',v = .tup [.i (l.length:Int),.i 0]/\WSt h' w s ow' ((wxs l).set m { t.x with waiting:=t.x.waiting++[(l.length:Int)],e0 := { t.x.e0 with inn:=upu t.x.e0.inn } } ++ [jbh nn]) now tb no/\To h h' ow ow' by
  obtain ⟨_,h',e,ow',rfl,q⟩:=q;exact ⟨h',ow',e,q⟩
 refine at_ hcl om rfl rfl rfl ?_
 obtain ⟨C,hC⟩ : ∃ C,C=c112_3:=⟨_,rfl⟩
 simp only [c112,c112_10,c112_5,c112_4,yB,yC]
 rw [<- hC]
 have gw1:h1.get w=some _:=(o1.2 _ lw).trans hw
 have gz1:h1.get z=some _:=(o1.2 _ z1).trans z3
 have gt1:h1.get t.wb=some _:=(o1.2 _ hwb).trans gt
 refine qs1 ?_
 refine Run.opqh fun H1 hH1=>?_
 have xH:H1.nx=h1.nx:=by rw [hH1];rfl
 have kH : ∀ j,j≠h.nx->H1.get j=h1.get j:=fun j hj=>by rw [hH1,jaa hj]
 have oH:Old h H1:=⟨by have:=o1.1;omega,fun j hj=>by rw [kH j om,o1.2 j hj]⟩
 have gN:H1.get h.nx=some ((jbh nn).obj (h.nx+2) (h.nx+4) .nils):=by rw [hH1];exact jab _
 clear hH1 gw1 gz1 gt1
 rw [hC]
 refine cw_mid hcl om K a ht hwt hfull oH om gN fun k hk=>?_
 rcases hk with rfl | rfl
 ·exact (jeu hm1 hm2 g2 g1).keep (kH _ (by show h.nx+2≠h.nx;omega)) (kH _ (by show h.nx+1≠h.nx;omega))
 ·exact (jeu hm1 hm2 g4 g3).keep (kH _ (by show h.nx+4≠h.nx;omega)) (kH _ (by show h.nx+3≠h.nx;omega))
end
section
variable {cl:Nat->Call} (hcl:Sem cl) {h:H} {w s:Nat} {ow:Nat->Nat} {ws:Ws} {now:Int} {tb:Tb} {no:Option (Nat × Nat)}
include hcl
theorem jl6 {d:Nat} {n many:Int} (hd:5<=d) (K:WsK ws) (a:WSt h w s ow ws now tb no) :
  ∃ h' ow',cl d (.fn F.jb3) [.p w 0,.i n,.i many] h=some (.tup [.i (jas ws n many).1.1,.i (jas ws n many).1.2],h')/\WSt h' w s ow' (jas ws n many).2 now tb no/\To h h' ow ow':=by
 obtain ⟨l,a,rfl⟩:=a
 have K':=jho (n:=n) (many:=many) K
 have lw:=a.wf.lw
 have hnone:=jbC hcl (d:=d-1) om a.wf
 have hcap:=jhB hcl (h:=h) (d:=d-1) (n:=many) om
 have hwl:(wxs l).length=l.length:=by simp
 have hol:l.length<=1000:=by have:=K.ok.len;omega
 obtain ⟨sa,c,hw,hsl⟩:=a.wf.head
 have c1:(wc (fun i=>atS (wxs l) (i:Int)) (.slice sa l.length c) s now no)[0+288]?=some (.slice sa l.length c):=jaO rfl
 suffices q : ∃ v h',cl d (.fn F.jb3) [.p w 0,.i n,.i many] h=some (v,h') /\ ∃ ow',v = .tup [.i (jas (wxs l) n many).1.1,.i (jas (wxs l) n many).1.2]/\WSt h' w s ow' (jas (wxs l) n many).2 now tb no/\To h h' ow ow' by
  obtain ⟨_,h',e,ow',rfl,q⟩:=q;exact ⟨h',ow',e,q⟩
 by_cases hall : ∃ (m nn:Nat) (t:WX),n=m/\many=nn/\l[m]?=some t/\t.x.backlog≠0/\t.x.e0.what=1/\1<=nn/\nn<=65536 /\ ¬ t.x.backlog<=t.x.waiting.length/\l.length<1000
 ·obtain ⟨m,nn,t,rfl,rfl,ht,hb0,hw1,hm1,hm2,hbk,hfull⟩:=hall
  obtain ⟨h',ow',e,q⟩:=cw_ok hcl hd K a ht hb0 hw1 hm1 hm2 hbk hfull
  have hS:jas (wxs l) m nn=(((l.length:Int),(0:Int)),(wxs l).set m { t.x with waiting:=t.x.waiting++[(l.length:Int)],e0 := { t.x.e0 with inn:=upu t.x.e0.inn } } ++ [jbh nn]):=by
   unfold jas
   rw [if_neg om,zw,jaj ht]
   simp only
   rw [if_neg (by rintro (e | e);(exact hb0 e);exact e hw1),if_neg om,if_neg hbk,if_neg om,hwl]
  rw [hS]
  exact ⟨_,h',e,ow',rfl,q⟩
 refine at_ hcl om rfl rfl rfl ?_
 have same:WSt h w s ow (wxs l) now tb no:=⟨l,a,rfl⟩
 by_cases hn:n<0
 ·have hS:jas (wxs l) n many=((0,116),wxs l):=if_pos hn
  rw [hS]
  refine qx1 ?_
  all_goals first | exact ⟨ow,rfl,same,To.refl _ _⟩ | (exfalso;omega)
 have hS:jas (wxs l) n many=_:=if_neg hn
 obtain ⟨m,rfl⟩:=zz (show 0<=n by omega)
 rw [zw] at hS
 by_cases hlt:m<l.length
 case neg=>
  rw [zd om] at hS
  have hS:jas (wxs l) m many=((0,116),wxs l):=hS
  rw [hS]
  refine qx1 ?_
  all_goals first | exact ⟨ow,rfl,same,To.refl _ _⟩ | (exfalso;omega)
 obtain ⟨t,ht⟩ : ∃ t,l[m]?=some t:=⟨_,za hlt⟩
 obtain ⟨z,rfl,z1,z2,z3⟩:=hsl (by rintro rfl;simp at hlt)
 have hx:=jaj ht
 rw [hx] at hS
 simp only at hS
 have X:=a.wf.ok m t ht
 have hwb:=X.lx
 have w2:(wps l)[0+(m:Int).toNat*1]?=some (.p t.wb 0):=by rw [show 0+(m:Int).toNat*1=m by omega];exact jc8 ht
 have gt:h.get t.wb=some (.cells (t.x.cells t.r0 t.r1 t.wv) false):=X.hx
 obtain ⟨av,cv,hva,_⟩:=id X.wait.1
 rw [hva] at gt
 by_cases hb0:t.x.backlog=0
 ·have hS:jas (wxs l) m many=((0,116),wxs l):=by rw [hS,if_pos (.inl hb0)]
  rw [hS]
  refine qx1 ?_
  all_goals first | exact ⟨ow,rfl,same,To.refl _ _⟩ | (exfalso;omega)
 by_cases hw1:t.x.e0.what=1
 case neg=>
  have hS:jas (wxs l) m many=((0,116),wxs l):=by rw [hS,if_pos (.inr hw1)]
  rw [hS]
  refine qx1 ?_
  all_goals first | exact ⟨ow,rfl,same,To.refl _ _⟩ | (exfalso;omega)
 rw [if_neg (by rintro (e | e);(exact hb0 e);exact e hw1)] at hS
 have hnw : ¬ t.x.e0.what≠1:=fun e=>e hw1
 by_cases hm:many<1\/65536<many
 ·have hS:jas (wxs l) m many=((0,2),wxs l):=by rw [hS,if_pos hm]
  rw [hS]
  rw [decide_eq_false om] at hcap
  clear hm
  refine qx1 ?_
  all_goals first | exact ⟨ow,rfl,same,To.refl _ _⟩ | (exfalso;omega)
 rw [if_neg hm] at hS
 have hm1:1<=many:=by omega
 have hm2:many<=65536:=by omega
 clear hm
 rw [decide_eq_true om] at hcap
 by_cases hbk:t.x.backlog<=t.x.waiting.length
 ·have hS:jas (wxs l) m many=((0,113),wxs l):=by rw [hS,if_pos hbk]
  rw [hS]
  refine qx1 ?_
  all_goals first | exact ⟨ow,rfl,same,To.refl _ _⟩ | (exfalso;omega)
 rw [if_neg hbk,hwl] at hS
 by_cases hfull:1000<=l.length
 ·have hS:jas (wxs l) m many=((0,112),wxs l):=by rw [hS,if_pos hfull]
  rw [hS]
  have hl2:(1000:Int)<=(l.length:Int):=by omega
  refine qx1 ?_
  all_goals first | exact ⟨ow,rfl,same,To.refl _ _⟩ | (exfalso;omega)
 rw [if_neg hfull] at hS
 obtain ⟨nn,rfl⟩:=zz (show 0<=many by omega)
 exact absurd ⟨m,nn,t,rfl,rfl,ht,hb0,hw1,by omega,by omega,hbk,by omega⟩ hall
end
section
variable {cl:Nat->Call} (hcl:Sem cl) {h:H} {p w s rw:Nat} {ow:Nat->Nat} {ro dat:Nat->Prop} {st:St} {a n t:Int} {dv vd:V} {D:List UInt8}
include hcl
theorem mo_9 {d i:Nat} (hd:15<=d) (b:BB h p w s rw ow ro dat st st) (so:StOk st i) (hi:i<=200) (hD:Dat h dat dv D) (hC:Cpy h p ow ro dat vd D) :
  jdf cl d F.jae h p w s rw ow ro dat [.p p 0,.agg (opV 9 a n t dv),vd] (doS 9 a n t D st):=by
 have o0:Old h (h.new (.cells (opV 9 a n t dv) false)):=(Old.refl h).new
 have b0:=b.old o0
 have f0:=Fm.old (ow:=ow) (ro:=ro) o0
 have hD0:=hD.keep b f0
 have hC0:=hC.keep f0
 have hl300:=hD.len
 have g0:(h.new (.cells (opV 9 a n t dv) false)).get h.nx=some (.cells (opV 9 a n t dv) false):=jad _
 have x0:h.nx<(h.new (.cells (opV 9 a n t dv) false)).nx:=by simp
 have z0:ow h.nx=0:=b.W.top (zq _)
 have hp0:=b0.hp
 have lp:=b.lp
 have hok:st.tb.ok 1000000:=so.tb.mono om
 have hS:doS 9 a n t D st = { st with ws:=(putS st.ws a D).2 } := by simp [doS]
 rw [hS]
 obtain ⟨h1,e1,W1,t1⟩:=ww_Put hcl (d:=d-1) (n:=a) om b0.W so.K.ok hC0.v om (fun z hz=>(hC0.z z hz).2.1)
 have b1:=b0.wc (a' := { st with ws:=(putS st.ws a D).2 }) W1 t1
 have g1:=b0.off_w t1 x0 z0 g0
 have hp1:=b1.hp
 obtain ⟨v,h2,e2,b2,f2,rfl⟩:=b1.rc hcl (d:=d-1) (f:=F.jbt) (args:=[.p rw 0,.i a,dv]) (r' := { st with ws:=(putS st.ws a D).2 }) (P:=fun _ v=>v = .tup [.i (putS st.ws a D).1.1,.i (putS st.ws a D).1.2]) (fun _ _ _ _ h=>h) (fun g q l ga gn hq wR hl=>by
  have oR:WsOk (l.map RX.x):=by rw [hl];exact so.K.ok
  obtain ⟨q1,q2⟩:=(hD0.keep b0 (Fm.to t1)).in_ b1 ga gn hq
  obtain ⟨l',g',k1,k2,k3,k4⟩:=rq_Put hcl (d:=d-1) (n:=a) om wR oR q1 om q2
  rw [hl] at k1 k3
  exact ⟨_,q,l',g',k1,k2,k3,k4,.inl rfl,rfl⟩)
 clear so hD hC hD0 hC0 hok hl300 hS
 refine ⟨h2,_,_,jam (at_ hcl om rfl rfl rfl ?_),b2,Fm.two o0 t1 f2⟩
 refine qm1 ?_
 exact ⟨by simp,rfl⟩
theorem mo_11 {d i:Nat} (hd:15<=d) (b:BB h p w s rw ow ro dat st st) (so:StOk st i) (hi:i<=200) (hD:Dat h dat dv D) (hC:Cpy h p ow ro dat vd D) :
  jdf cl d F.jae h p w s rw ow ro dat [.p p 0,.agg (opV 11 a n t dv),vd] (doS 11 a n t D st):=by
 have o0:Old h (h.new (.cells (opV 11 a n t dv) false)):=(Old.refl h).new
 have b0:=b.old o0
 have f0:=Fm.old (ow:=ow) (ro:=ro) o0
 have hD0:=hD.keep b f0
 have hC0:=hC.keep f0
 have hl300:=hD.len
 have g0:(h.new (.cells (opV 11 a n t dv) false)).get h.nx=some (.cells (opV 11 a n t dv) false):=jad _
 have x0:h.nx<(h.new (.cells (opV 11 a n t dv) false)).nx:=by simp
 have z0:ow h.nx=0:=b.W.top (zq _)
 have hp0:=b0.hp
 have lp:=b.lp
 have hok:st.tb.ok 1000000:=so.tb.mono om
 have hS:doS 11 a n t D st = { st with ws:=(jaL st.ws a).2 } := by simp [doS]
 rw [hS]
 obtain ⟨h1,e1,W1,t1⟩:=jjX hcl (d:=d-1) (n:=a) om b0.W
 have b1:=b0.wc (a' := { st with ws:=(jaL st.ws a).2 }) W1 t1
 have g1:=b0.off_w t1 x0 z0 g0
 have hp1:=b1.hp
 obtain ⟨v,h2,e2,b2,f2,rfl⟩:=b1.rc hcl (d:=d-1) (f:=F.jaK) (args:=[.p rw 0,.i a]) (r' := { st with ws:=(jaL st.ws a).2 }) (P:=fun _ v=>v = .i (jaL st.ws a).1) (fun _ _ _ _ h=>h) (fun g q l ga gn hq wR hl=>by
  have oR:WsOk (l.map RX.x):=by rw [hl];exact so.K.ok
  obtain ⟨l',g',k1,k2,k3,k4⟩:=jkx hcl (d:=d-1) (n:=a) om wR
  rw [hl] at k1 k3
  exact ⟨_,q,l',g',k1,k2,k3,k4,.inl rfl,rfl⟩)
 clear so hD hC hD0 hC0 hok hl300 hS
 refine ⟨h2,_,_,jam (at_ hcl om rfl rfl rfl ?_),b2,Fm.two o0 t1 f2⟩
 refine qm1 ?_
 exact ⟨by simp,rfl⟩
theorem mo_12 {d i:Nat} (hd:15<=d) (b:BB h p w s rw ow ro dat st st) (so:StOk st i) (hi:i<=200) (hD:Dat h dat dv D) (hC:Cpy h p ow ro dat vd D) :
  jdf cl d F.jae h p w s rw ow ro dat [.p p 0,.agg (opV 12 a n t dv),vd] (doS 12 a n t D st):=by
 have o0:Old h (h.new (.cells (opV 12 a n t dv) false)):=(Old.refl h).new
 have b0:=b.old o0
 have f0:=Fm.old (ow:=ow) (ro:=ro) o0
 have hD0:=hD.keep b f0
 have hC0:=hC.keep f0
 have hl300:=hD.len
 have g0:(h.new (.cells (opV 12 a n t dv) false)).get h.nx=some (.cells (opV 12 a n t dv) false):=jad _
 have x0:h.nx<(h.new (.cells (opV 12 a n t dv) false)).nx:=by simp
 have z0:ow h.nx=0:=b.W.top (zq _)
 have hp0:=b0.hp
 have lp:=b.lp
 have hok:st.tb.ok 1000000:=so.tb.mono om
 have hS:doS 12 a n t D st = { st with ws:=(ja8 st.ws a).2 } := by simp [doS]
 rw [hS]
 obtain ⟨h1,e1,W1,t1⟩:=jiU hcl (d:=d-1) (n:=a) om b0.W
 have b1:=b0.wc (a' := { st with ws:=(ja8 st.ws a).2 }) W1 t1
 have g1:=b0.off_w t1 x0 z0 g0
 have hp1:=b1.hp
 obtain ⟨v,h2,e2,b2,f2,rfl⟩:=b1.rc hcl (d:=d-1) (f:=F.jaI) (args:=[.p rw 0,.i a]) (r' := { st with ws:=(ja8 st.ws a).2 }) (P:=fun _ v=>v = .i (ja8 st.ws a).1) (fun _ _ _ _ h=>h) (fun g q l ga gn hq wR hl=>by
  have oR:WsOk (l.map RX.x):=by rw [hl];exact so.K.ok
  obtain ⟨l',g',k1,k2,k3,k4⟩:=jjk hcl (d:=d-1) (n:=a) om wR
  rw [hl] at k1 k3
  exact ⟨_,q,l',g',k1,k2,k3,k4,.inl rfl,rfl⟩)
 clear so hD hC hD0 hC0 hok hl300 hS
 refine ⟨h2,_,_,jam (at_ hcl om rfl rfl rfl ?_),b2,Fm.two o0 t1 f2⟩
 refine qm1 ?_
 exact ⟨by simp,rfl⟩
theorem mo_13 {d i:Nat} (hd:15<=d) (b:BB h p w s rw ow ro dat st st) (so:StOk st i) (hi:i<=200) (hD:Dat h dat dv D) (hC:Cpy h p ow ro dat vd D) :
  jdf cl d F.jae h p w s rw ow ro dat [.p p 0,.agg (opV 13 a n t dv),vd] (doS 13 a n t D st):=by
 have o0:Old h (h.new (.cells (opV 13 a n t dv) false)):=(Old.refl h).new
 have b0:=b.old o0
 have f0:=Fm.old (ow:=ow) (ro:=ro) o0
 have hD0:=hD.keep b f0
 have hC0:=hC.keep f0
 have hl300:=hD.len
 have g0:(h.new (.cells (opV 13 a n t dv) false)).get h.nx=some (.cells (opV 13 a n t dv) false):=jad _
 have x0:h.nx<(h.new (.cells (opV 13 a n t dv) false)).nx:=by simp
 have z0:ow h.nx=0:=b.W.top (zq _)
 have hp0:=b0.hp
 have lp:=b.lp
 have hok:st.tb.ok 1000000:=so.tb.mono om
 have hS:doS 13 a n t D st = { st with ws:=(jcl st.ws a).2 } := by simp [doS]
 rw [hS]
 obtain ⟨h1,e1,W1,t1⟩:=ww_Reset hcl (d:=d-1) (n:=a) om b0.W so.K.ok
 have b1:=b0.wc (a' := { st with ws:=(jcl st.ws a).2 }) W1 t1
 have g1:=b0.off_w t1 x0 z0 g0
 have hp1:=b1.hp
 obtain ⟨v,h2,e2,b2,f2,rfl⟩:=b1.rc hcl (d:=d-1) (f:=F.jbc) (args:=[.p rw 0,.i a]) (r' := { st with ws:=(jcl st.ws a).2 }) (P:=fun _ v=>v = .i (jcl st.ws a).1) (fun _ _ _ _ h=>h) (fun g q l ga gn hq wR hl=>by
  have oR:WsOk (l.map RX.x):=by rw [hl];exact so.K.ok
  obtain ⟨l',g',k1,k2,k3,k4⟩:=rq_Reset hcl (d:=d-1) (n:=a) om wR oR
  rw [hl] at k1 k3
  exact ⟨_,q,l',g',k1,k2,k3,k4,.inl rfl,rfl⟩)
 clear so hD hC hD0 hC0 hok hl300 hS
 refine ⟨h2,_,_,jam (at_ hcl om rfl rfl rfl ?_),b2,Fm.two o0 t1 f2⟩
 refine qm1 ?_
 exact ⟨by simp,rfl⟩
theorem mo_14 {d i:Nat} (hd:15<=d) (b:BB h p w s rw ow ro dat st st) (so:StOk st i) (hi:i<=200) (hD:Dat h dat dv D) (hC:Cpy h p ow ro dat vd D) :
  jdf cl d F.jae h p w s rw ow ro dat [.p p 0,.agg (opV 14 a n t dv),vd] (doS 14 a n t D st):=by
 have o0:Old h (h.new (.cells (opV 14 a n t dv) false)):=(Old.refl h).new
 have b0:=b.old o0
 have f0:=Fm.old (ow:=ow) (ro:=ro) o0
 have hD0:=hD.keep b f0
 have hC0:=hC.keep f0
 have hl300:=hD.len
 have g0:(h.new (.cells (opV 14 a n t dv) false)).get h.nx=some (.cells (opV 14 a n t dv) false):=jad _
 have x0:h.nx<(h.new (.cells (opV 14 a n t dv) false)).nx:=by simp
 have z0:ow h.nx=0:=b.W.top (zq _)
 have hp0:=b0.hp
 have lp:=b.lp
 have hok:st.tb.ok 1000000:=so.tb.mono om
 have hS:doS 14 a n t D st = { st with ws:=(jas st.ws a n).2 } := by simp [doS]
 rw [hS]
 obtain ⟨h1,ow1,e1,W1,t1⟩:=jl6 hcl (d:=d-1) (n:=a) (many:=n) om so.K b0.W
 have b1:=b0.wc (a' := { st with ws:=(jas st.ws a n).2 }) W1 t1
 have g1:=b0.off_w t1 x0 z0 g0
 have hp1:=b1.hp
 obtain ⟨v,h2,e2,b2,f2,rfl⟩:=b1.rc hcl (d:=d-1) (f:=F.jaT) (args:=[.p rw 0,.i a,.i n]) (r' := { st with ws:=(jas st.ws a n).2 }) (P:=fun _ v=>v = .tup [.i (jas st.ws a n).1.1,.i (jas st.ws a n).1.2]) (fun _ _ _ _ h=>h) (fun g q l ga gn hq wR hl=>by
  have oR:WsOk (l.map RX.x):=by rw [hl];exact so.K.ok
  obtain ⟨q',l',g',k1,k2,k3,k4,k5⟩:=jlK hcl (d:=d-1) (n:=a) (many:=n) om wR oR
  rw [hl] at k1 k3
  exact ⟨_,q',l',g',k1,k2,k3,k4,k5,rfl⟩)
 clear so hD hC hD0 hC0 hok hl300 hS
 refine ⟨h2,_,_,jam (at_ hcl om rfl rfl rfl ?_),b2,Fm.two o0 t1 f2⟩
 refine qm1 ?_
 exact ⟨by simp,rfl⟩
end
section
variable {cl:Nat->Call} (hcl:Sem cl) {h:H} {p w s rw:Nat} {ow:Nat->Nat} {ro dat:Nat->Prop} {st:St} {a n t:Int} {dv vd:V} {D:List UInt8}
include hcl
theorem mo_15 {d i:Nat} (hd:15<=d) (b:BB h p w s rw ow ro dat st st) (so:StOk st i) (hi:i<=200) (hD:Dat h dat dv D) (hC:Cpy h p ow ro dat vd D) (t0:0<=t) (t1:t<=18446744073709551615) :
  jdf cl d F.jae h p w s rw ow ro dat [.p p 0,.agg (opV 15 a n t dv),vd] (doS 15 a n t D st):=by
 have o0:Old h (h.new (.cells (opV 15 a n t dv) false)):=(Old.refl h).new
 have b0:=b.old o0
 have f0:=Fm.old (ow:=ow) (ro:=ro) o0
 have hD0:=hD.keep b f0
 have hC0:=hC.keep f0
 have hl300:=hD.len
 have g0:(h.new (.cells (opV 15 a n t dv) false)).get h.nx=some (.cells (opV 15 a n t dv) false):=jad _
 have x0:h.nx<(h.new (.cells (opV 15 a n t dv) false)).nx:=by simp
 have z0:ow h.nx=0:=b.W.top (zq _)
 have hp0:=b0.hp
 have lp:=b.lp
 have hok:st.tb.ok 1000000:=so.tb.mono om
 have hS:doS 15 a n t D st = { st with now:=jgt st.now t } := by simp [doS]
 rw [hS]
 obtain ⟨h1,e1,W1,tt1⟩:=ww_Pass hcl (d:=d-1) om b0.W so.now.1 so.now.2 t0 t1
 have b1:=b0.wc (a' := { st with now:=jgt st.now t }) W1 tt1
 have g1:=b0.off_w tt1 x0 z0 g0
 have hp1:=b1.hp
 obtain ⟨v,h2,e2,b2,f2,rfl⟩:=b1.rc hcl (d:=d-1) (f:=F.jbN) (args:=[.p rw 0,.int .u64 t]) (r' := { st with now:=jgt st.now t }) (P:=fun _ v=>v = .tup []) (fun _ _ _ _ h=>h) (fun g q l ga gn hq wR hl=>by
  have oR:WsOk (l.map RX.x):=by rw [hl];exact so.K.ok
  obtain ⟨g',k1,k2,k4⟩:=rq_Pass hcl (d:=d-1) om wR so.now.1 so.now.2 t0 t1
  skip
  exact ⟨_,q,l,g',k1,k2,hl,k4,.inl rfl,rfl⟩)
 clear so hD hC hD0 hC0 hok hl300 hS
 refine ⟨h2,_,_,jam (at_ hcl om rfl rfl rfl ?_),b2,Fm.two o0 tt1 f2⟩
 refine qm1 ?_
 exact ⟨by simp,rfl⟩
theorem mo_16 {d i:Nat} (hd:15<=d) (b:BB h p w s rw ow ro dat st st) (so:StOk st i) (hi:i<=200) (hD:Dat h dat dv D) (hC:Cpy h p ow ro dat vd D) :
  jdf cl d F.jae h p w s rw ow ro dat [.p p 0,.agg (opV 16 a n t dv),vd] (doS 16 a n t D st):=by
 have o0:Old h (h.new (.cells (opV 16 a n t dv) false)):=(Old.refl h).new
 have b0:=b.old o0
 have f0:=Fm.old (ow:=ow) (ro:=ro) o0
 have hD0:=hD.keep b f0
 have hC0:=hC.keep f0
 have hl300:=hD.len
 have g0:(h.new (.cells (opV 16 a n t dv) false)).get h.nx=some (.cells (opV 16 a n t dv) false):=jad _
 have x0:h.nx<(h.new (.cells (opV 16 a n t dv) false)).nx:=by simp
 have z0:ow h.nx=0:=b.W.top (zq _)
 have hp0:=b0.hp
 have lp:=b.lp
 have hok:st.tb.ok 1000000:=so.tb.mono om
 have hS:doS 16 a n t D st = { st with ws:=jaq st.ws ((st.tb.handle a (decide (0<n))).sum 32) (noI st.no) (siI st.no),tb:=st.tb.handle a (decide (0<n)) } := by simp [doS]
 rw [hS]
 obtain ⟨h1,e1,W1,t1⟩:=ww_Handle hcl (d:=d-1) (sg:=a) (on:=decide (0<n)) om b0.W so.nt (jjF hok om _ _)
 have b1:=b0.wc (a' := { st with ws:=jaq st.ws ((st.tb.handle a (decide (0<n))).sum 32) (noI st.no) (siI st.no),tb:=st.tb.handle a (decide (0<n)) }) W1 t1
 have g1:=b0.off_w t1 x0 z0 g0
 have hp1:=b1.hp
 obtain ⟨v,h2,e2,b2,f2,rfl⟩:=b1.rc hcl (d:=d-1) (f:=F.jaW) (args:=[.p rw 0,.i a,.bool (decide (0<n))]) (r' := { st with ws:=jaq st.ws ((st.tb.handle a (decide (0<n))).sum 32) (noI st.no) (siI st.no),tb:=st.tb.handle a (decide (0<n)) }) (P:=fun _ v=>v = .i (if sig? a then 0 else 100)) (fun _ _ _ _ h=>h) (fun g q l ga gn hq wR hl=>by
  have oR:WsOk (l.map RX.x):=by rw [hl];exact so.K.ok
  obtain ⟨l',g',k1,k2,k3,k4⟩:=rq_Handle hcl (d:=d-1) (s:=a) (on:=decide (0<n)) om wR oR (by rw [hl];exact so.nt) hok
  rw [hl,<- jhg,<- jm6] at k3
  rw [<- jhg,<- handle_hd] at k2
  exact ⟨_,q,l',g',k1,k2,k3,k4,.inl rfl,rfl⟩)
 clear so hD hC hD0 hC0 hok hl300 hS
 refine ⟨h2,_,_,jam (at_ hcl om rfl rfl rfl ?_),b2,Fm.two o0 t1 f2⟩
 refine qm1 ?_
 exact ⟨by simp,rfl⟩
theorem mo_17 {d i:Nat} (hd:15<=d) (b:BB h p w s rw ow ro dat st st) (so:StOk st i) (hi:i<=200) (hD:Dat h dat dv D) (hC:Cpy h p ow ro dat vd D) :
  jdf cl d F.jae h p w s rw ow ro dat [.p p 0,.agg (opV 17 a n t dv),vd] (doS 17 a n t D st):=by
 have o0:Old h (h.new (.cells (opV 17 a n t dv) false)):=(Old.refl h).new
 have b0:=b.old o0
 have f0:=Fm.old (ow:=ow) (ro:=ro) o0
 have hD0:=hD.keep b f0
 have hC0:=hC.keep f0
 have hl300:=hD.len
 have g0:(h.new (.cells (opV 17 a n t dv) false)).get h.nx=some (.cells (opV 17 a n t dv) false):=jad _
 have x0:h.nx<(h.new (.cells (opV 17 a n t dv) false)).nx:=by simp
 have z0:ow h.nx=0:=b.W.top (zq _)
 have hp0:=b0.hp
 have lp:=b.lp
 have hok:st.tb.ok 1000000:=so.tb.mono om
 have hS:doS 17 a n t D st = { st with ws:=jaq st.ws ((st.tb.raise a).sum 32) (noI st.no) (siI st.no),tb:=st.tb.raise a } := by simp [doS]
 rw [hS]
 obtain ⟨h1,e1,W1,t1⟩:=ww_Raise hcl (d:=d-1) (sg:=a) om b0.W so.nt hok (Tb.ok.mono (jlj so.tb a) om)
 have b1:=b0.wc (a' := { st with ws:=jaq st.ws ((st.tb.raise a).sum 32) (noI st.no) (siI st.no),tb:=st.tb.raise a }) W1 t1
 have g1:=b0.off_w t1 x0 z0 g0
 have hp1:=b1.hp
 obtain ⟨v,h2,e2,b2,f2,rfl⟩:=b1.rc hcl (d:=d-1) (f:=F.jbd) (args:=[.p rw 0,.i a]) (r' := { st with ws:=jaq st.ws ((st.tb.raise a).sum 32) (noI st.no) (siI st.no),tb:=st.tb.raise a }) (P:=fun _ v=>v = .i (if sig? a then 0 else 100)) (fun _ _ _ _ h=>h) (fun g q l ga gn hq wR hl=>by
  have oR:WsOk (l.map RX.x):=by rw [hl];exact so.K.ok
  obtain ⟨l',g',k1,k2,k3,k4⟩:=rq_Raise hcl (d:=d-1) (s:=a) om wR oR (by rw [hl];exact so.nt) (so.tb.mono om)
  rw [hl,<- ji0,<- jm6] at k3
  rw [<- ji0,<- raise_hd st.tb a] at k2
  exact ⟨_,q,l',g',k1,k2,k3,k4,.inl rfl,rfl⟩)
 clear so hD hC hD0 hC0 hok hl300 hS
 refine ⟨h2,_,_,jam (at_ hcl om rfl rfl rfl ?_),b2,Fm.two o0 t1 f2⟩
 refine qm1 ?_
 exact ⟨by simp,rfl⟩
theorem mo_19 {d i:Nat} (hd:15<=d) (b:BB h p w s rw ow ro dat st st) (so:StOk st i) (hi:i<=200) (hD:Dat h dat dv D) (hC:Cpy h p ow ro dat vd D) :
  jdf cl d F.jae h p w s rw ow ro dat [.p p 0,.agg (opV 19 a n t dv),vd] (doS 19 a n t D st):=by
 have o0:Old h (h.new (.cells (opV 19 a n t dv) false)):=(Old.refl h).new
 have b0:=b.old o0
 have f0:=Fm.old (ow:=ow) (ro:=ro) o0
 have hD0:=hD.keep b f0
 have hC0:=hC.keep f0
 have hl300:=hD.len
 have g0:(h.new (.cells (opV 19 a n t dv) false)).get h.nx=some (.cells (opV 19 a n t dv) false):=jad _
 have x0:h.nx<(h.new (.cells (opV 19 a n t dv) false)).nx:=by simp
 have z0:ow h.nx=0:=b.W.top (zq _)
 have hp0:=b0.hp
 have lp:=b.lp
 have hok:st.tb.ok 1000000:=so.tb.mono om
 have hS:doS 19 a n t D st = { st with ws:=ntW st.ws (st.tb.sum 32) a n,no:=noT st.ws a n st.no } := by simp [doS]
 rw [hS]
 obtain ⟨h1,e1,W1,t1⟩:=ww_Notice hcl (d:=d-1) (x:=a) (y:=n) om b0.W so.K.ok hok
 have b1:=b0.wc (a' := { st with ws:=ntW st.ws (st.tb.sum 32) a n,no:=noT st.ws a n st.no }) W1 t1
 have g1:=b0.off_w t1 x0 z0 g0
 have hp1:=b1.hp
 obtain ⟨v,h2,e2,b2,f2,rfl⟩:=b1.rc hcl (d:=d-1) (f:=F.jaH) (args:=[.p rw 0,.i a,.i n]) (r' := { st with ws:=ntW st.ws (st.tb.sum 32) a n,no:=noT st.ws a n st.no }) (P:=fun _ v=>v = .i (ntS st.ws a n).1) (fun _ _ _ _ h=>h) (fun g q l ga gn hq wR hl=>by
  have oR:WsOk (l.map RX.x):=by rw [hl];exact so.K.ok
  obtain ⟨l',g',k1,k2,k3,k4⟩:=jjj hcl (d:=d-1) (a:=a) (b:=n) om wR oR hok
  rw [hl] at k1
  rw [hl,<- jm6] at k3
  rw [hl,<- jn9,<- jn8] at k2
  exact ⟨_,q,l',g',k1,k2,k3,k4,.inl rfl,rfl⟩)
 clear so hD hC hD0 hC0 hok hl300 hS
 refine ⟨h2,_,_,jam (at_ hcl om rfl rfl rfl ?_),b2,Fm.two o0 t1 f2⟩
 refine qm1 ?_
 exact ⟨by simp,rfl⟩
end
theorem jhP : ∀ {l:List (Int × Int)} {i:Nat} {p:Int × Int},l[i]?=some p->((jcm l).drop (i*2)).take 2=[.i p.1,.i p.2]
 | [],i,p,h=>by simp at h
 | x :: l,0,p,h=>by
  simp at h;subst h;rfl
 | x :: l,i+1,p,h=>by
  have e:jcm (x :: l) = .i x.1 :: .i x.2 :: jcm l:=rfl
  rw [e,show (i+1)*2=i*2+1+1 by omega]
  exact jhP (l:=l) (by simpa using h)
theorem jhO : ∀ l:List (Int × Int),(jcm l).length=l.length*2
 | []=>rfl
 | x :: l=>by
  have:=jhO l
  have e:jcm (x :: l) = .i x.1 :: .i x.2 :: jcm l:=rfl
  rw [e];simp;omega
section
variable {call:Call} {fuel base:Nat} {K:List Fr} {e:Env} {h:H} {Q:Post} {ix:Nat} {dst at_:Option Nat} {ops:List Ins} {keep:List Nat}
end
section
variable {cl:Nat->Call} (hcl:Sem cl) {h:H} {p w s rw:Nat} {ow:Nat->Nat} {ro dat:Nat->Prop} {st:St} {a n t:Int} {dv vd:V} {D:List UInt8}
include hcl
theorem mo_18 {d i:Nat} (hd:15<=d) (b:BB h p w s rw ow ro dat st st) (so:StOk st i) (hi:i<=200) :
  jdf cl d F.jae h p w s rw ow ro dat [.p p 0,.agg (opV 18 a n t dv),vd] (doS 18 a n t D st):=by
 have o0:Old h (h.new (.cells (opV 18 a n t dv) false)):=(Old.refl h).new
 have b0:=b.old o0
 have g0:(h.new (.cells (opV 18 a n t dv) false)).get h.nx=some (.cells (opV 18 a n t dv) false):=jad _
 have x0:h.nx<(h.new (.cells (opV 18 a n t dv) false)).nx:=by simp
 have z0:ow h.nx=0:=b.W.top (zq _)
 have hp0:=b0.hp
 have lp:=b.lp
 have hok:st.tb.ok 1000000:=so.tb.mono om
 have hS:doS 18 a n t D st = { st with ws:=jaq st.ws (st.tb.take.sum 32) (noI st.no) (siI st.no),tb:=st.tb.take } := by simp [doS]
 rw [hS]
 obtain ⟨v1,h1,e1,row1,W1,t1⟩:=jl4 hcl (d:=d-1) om b0.W so.nt (jm4 hok om)
 have b1:=b0.wc (a' := { st with ws:=jaq st.ws (st.tb.take.sum 32) (noI st.no) (siI st.no),tb:=st.tb.take }) W1 t1
 have g1:=b0.off_w t1 x0 z0 g0
 have hp1:=b1.hp
 obtain ⟨v2,h2,e2,b2,f2,row2⟩:=b1.rc hcl (d:=d-1) (f:=F.jaS) (args:=[.p rw 0]) (r' := { st with ws:=jaq st.ws (st.tb.take.sum 32) (noI st.no) (siI st.no),tb:=st.tb.take })
  (P:=fun g v=>Row h1.nx g 2 v (jcj st.tb.pd 31).length (jcm (jcj st.tb.pd 31))) (fun _ _ _ m r=>Row.mono m r) (fun g q l ga gn hq wR hl=>by
  have oR:WsOk (l.map RX.x):=by rw [hl];exact so.K.ok
  obtain ⟨v2,l',g',k1,k0,k2,k3,k4⟩:=jlJ hcl (d:=d-1) om wR oR (by rw [hl];exact so.nt) hok
  rw [hl,<- jke,<- jm6] at k3
  rw [<- jke] at k2
  rw [gn] at k0
  exact ⟨_,q,l',g',k1,k2,k3,k4,.inl rfl,k0⟩)
 have hcs:(st.tb.cnts 32).map (fun p=>((p.1:Int),p.2))=jcj st.tb.pd 31:=jjP (fun k=>(hok k).1) 31
 have row1:Row (h.new (.cells (opV 18 a n t dv) false)).nx h1 2 v1 (jcj st.tb.pd 31).length (jcm (jcj st.tb.pd 31)):=by
  rw [jhq,hcs] at row1
  rw [<- hcs,List.length_map];rw [hcs];exact row1
 have row3:Row (h.new (.cells (opV 18 a n t dv) false)).nx h2 2 v1 (jcj st.tb.pd 31).length (jcm (jcj st.tb.pd 31)):=row1.keep f2.ch.nx fun z hz=>f2.ch.get z (row1.at_ge hz).2 fun e=>e.elim (fun e=>e (b0.W.top (row1.at_ge hz).1)) fun e=>by
  have:=b0.ro_lt (.inl e)
  have:=(row1.at_ge hz).1
  omega
 have hlen:=jgG st.tb.pd 31
 generalize jcj st.tb.pd 31=L at row3 row2 hlen
 clear row1 hcs hok so hS
 obtain ⟨c1,⟨a1,rfl⟩,ix1⟩:=row3.shape
 obtain ⟨c2,⟨a2,rfl⟩,ix2⟩:=row2.shape
 suffices q : ∃ v' h',cl d (.fn F.jae) [.p p 0,.agg (opV 18 a n t dv),vd] h=some (v',h')/\(v' = .bool true/\h'=h2) by
  obtain ⟨_,_,e,rfl,rfl⟩:=q
  exact ⟨_,_,_,e,b2,Fm.two o0 t1 f2⟩
 refine at_ hcl om rfl rfl rfl ?_
 clear b b0 b1 b2 f2 t1 W1 row2 row3
 refine qm1 ?_
 refine Run.loop (fun m e g=>∃ k:Nat,m=L.length-k/\k<=L.length/\g=h2/\e=[(24,.slice a1 L.length c1),(25,.slice a2 L.length c2),(267,.i (L.length:Int)),(268,.i (k:Int))])
  (k:=L.length) Ze ⟨0,rfl,by omega,rfl,rfl⟩ ?_
 rintro _ _ g ⟨k,rfl,hk4,rfl,rfl⟩ n2 ih2
 by_cases hlt2:(k:Int)<L.length
 case neg=>
  clear ih2 ix1 ix2
  refine qm1 ?_
  exact ⟨rfl,rfl⟩
 obtain ⟨q1,y1,y2,y3,y4⟩:=ix1 k om
 cases y3
 obtain ⟨q2,z1,z2,z3,z4⟩:=ix2 k om
 cases z3
 have hp2:=za (show k<L.length by omega)
 generalize L[k]=pr at hp2
 have hg:=jhP hp2
 have hl2:=jhO L
 have hk1:(k:Int)+1=((k+1:Nat):Int):=by omega
 have hg':((jcm L).drop (0+(k:Int).toNat*2)).take 2=[.i pr.1,.i pr.2]:=by rw [<- hg,zw,Nat.zero_add]
 clear ix1 ix2 e1 e2
 refine qm1 ?_
 refine Ops.loadN rfl y4 om ?_
 rw [hg']
 refine qm1 ?_
 refine Ops.loadN rfl z4 om ?_
 rw [hg']
 repeat' (first|refine qmy ?_|refine zbf rfl (fun _=>?_) fun _=>?_|refine zbg rfl (fun _=>?_) fun _=>?_|refine zbh rfl (fun _=>?_) fun _=>?_|refine zbm rfl (fun _=>?_) fun _=>?_|refine zbn rfl (fun _=>?_) fun _=>?_)
 ·rename_i hx
  simp at hx
 rw [hk1]
 exact ih2 (L.length-(k+1)) om _ _ ⟨k+1,rfl,by omega,rfl,rfl⟩
end
theorem VB.lt {h:H} {v:V} {l:List UInt8} (a:VB h v l) (hl:l≠[]) {z:Nat} (hz:v.at?=some z):z<h.nx:=by
 obtain ⟨a,c,rfl,n,f,g⟩:=a
 obtain ⟨b,o,cs,ro,rfl,h1,_⟩:=g hl
 cases hz;exact h1
section
variable {cl:Nat->Call} (hcl:Sem cl) {h:H} {p w s rw:Nat} {ow:Nat->Nat} {ro dat:Nat->Prop} {st:St} {a n t:Int} {dv vd:V} {D:List UInt8}
include hcl
theorem mo_10 {d i:Nat} (hd:15<=d) (b:BB h p w s rw ow ro dat st st) (so:StOk st i) (hi:i<=200) (hD:Dat h dat dv D) (hC:Cpy h p ow ro dat vd D) :
  jdf cl d F.jae h p w s rw ow ro dat [.p p 0,.agg (opV 10 a n t dv),vd] (doS 10 a n t D st):=by
 have o0:Old h (h.new (.cells (opV 10 a n t dv) false)):=(Old.refl h).new
 have b0:=b.old o0
 have g0:(h.new (.cells (opV 10 a n t dv) false)).get h.nx=some (.cells (opV 10 a n t dv) false):=jad _
 have x0:h.nx<(h.new (.cells (opV 10 a n t dv) false)).nx:=by simp
 have z0:ow h.nx=0:=b.W.top (zq _)
 have hp0:=b0.hp
 have lp:=b.lp
 have hS:doS 10 a n t D st = { st with ws:=(jc4 st.ws a n).2 } := by simp [doS]
 rw [hS]
 obtain ⟨v1,h1,e1,vb1,vz1,W1,t1⟩:=ww_Take hcl (d:=d-1) (n:=a) (many:=n) om b0.W so.K.ok
 have b1:=b0.wc (a' := { st with ws:=(jc4 st.ws a n).2 }) W1 t1
 have g1:=b0.off_w t1 x0 z0 g0
 have hp1:=b1.hp
 obtain ⟨v,h2,e2,b2,f2,hP⟩:=b1.rc hcl (d:=d-1) (f:=F.jbm) (args:=[.p rw 0,.i a,.i n]) (r' := { st with ws:=(jc4 st.ws a n).2 })
  (P:=fun g v=>∃ v2,v = .tup [v2,.i (jc4 st.ws a n).1.2]/\VB g v2 (jc4 st.ws a n).1.1) (fun _ _ _ m ⟨v2,e,hv⟩=>⟨v2,e,hv.mono m⟩) (fun g q l ga gn hq wR hl=>by
  have oR:WsOk (l.map RX.x):=by rw [hl];exact so.K.ok
  obtain ⟨v2,l',g',k1,k0,k2,k3,k4⟩:=rq_Take hcl (d:=d-1) (n:=a) (many:=n) om wR oR
  rw [hl] at k0 k1 k3
  exact ⟨_,q,l',g',k1,k2,k3,k4,.inl rfl,v2,rfl,k0⟩)
 have vb2:VB h2 v1 (jc4 st.ws a n).1.1:=vb1.keep2 f2.ch.nx fun hl z hz=>f2.ch.get z (vb1.lt hl hz) fun e=>e.elim (fun e=>e (b0.W.top (vz1 z hz))) fun e=>by
  have:=b0.ro_lt (.inl e)
  have:=vz1 z hz
  omega
 obtain ⟨a1,c1,rfl,B1⟩:=vb2
 obtain ⟨v2,rfl,a2,c2,rfl,B2⟩:=hP
 clear so hD hC hS
 refine ⟨h2,_,_,jam (at_ hcl om rfl rfl rfl ?_),b2,Fm.two o0 t1 f2⟩
 refine qm1 ?_
 refine Ops.ofBytesAt rfl B1 (zq _) ?_
 refine qm1 ?_
 refine Ops.ofBytesAt rfl B2 (zq _) ?_
 repeat' (first|refine qmy ?_|refine zbf rfl (fun _=>?_) fun _=>?_|refine zbg rfl (fun _=>?_) fun _=>?_|refine zbh rfl (fun _=>?_) fun _=>?_|refine zbm rfl (fun _=>?_) fun _=>?_|refine zbn rfl (fun _=>?_) fun _=>?_)
 ·exact ⟨by simp,rfl⟩
 ·rename_i hx
  simp at hx
theorem mo_20 {d i:Nat} (hd:15<=d) (b:BB h p w s rw ow ro dat st st) (so:StOk st i) :
  jdf cl d F.jae h p w s rw ow ro dat [.p p 0,.agg (opV 20 a n t dv),vd] (doS 20 a n t D st):=by
 have o0:Old h (h.new (.cells (opV 20 a n t dv) false)):=(Old.refl h).new
 have b0:=b.old o0
 have g0:(h.new (.cells (opV 20 a n t dv) false)).get h.nx=some (.cells (opV 20 a n t dv) false):=jad _
 have x0:h.nx<(h.new (.cells (opV 20 a n t dv) false)).nx:=by simp
 have hp0:=b0.hp
 have lp:=b.lp
 have hS:doS 20 a n t D st=st:=by simp [doS]
 rw [hS]
 obtain ⟨h1,e1,o1⟩:=ww_Wire hcl (d:=d-1) (fd:=a) om b0.W so.K.ok
 have b1:=b0.old o1
 have g1:h1.get h.nx=some (.cells (opV 20 a n t dv) false):=by rw [o1.2 _ x0,g0]
 have hp1:=b1.hp
 obtain ⟨v,h2,e2,b2,f2,rfl⟩:=b1.rc hcl (d:=d-1) (f:=F.jbM) (args:=[.p rw 0,.i a]) (r':=st)
  (P:=fun _ v=>v = .tup [.i (jhy st.ws a).1,.i (jhy st.ws a).2]) (fun _ _ _ _ h=>h) (fun g q l ga gn hq wR hl=>by
  have oR:WsOk (l.map RX.x):=by rw [hl];exact so.K.ok
  have k1:=rq_Wire hcl (d:=d-1) (fd:=a) om wR oR
  rw [hl] at k1
  exact ⟨_,q,l,g,k1,wR,hl,Ch.refl _ _,.inl rfl,rfl⟩)
 clear so hS
 refine ⟨h2,_,_,jam (at_ hcl om rfl rfl rfl ?_),b2,(Fm.old (o0.trans o1)).trans f2⟩
 refine qm1 ?_
 exact ⟨by simp,rfl⟩
theorem mo_no {d:Nat} {k:Int} (hd:15<=d) (b:BB h p w s rw ow ro dat st st) (hk:k<0\/20<k) :
  jdf cl d F.jae h p w s rw ow ro dat [.p p 0,.agg (opV k a n t dv),vd] (doS k a n t D st):=by
 have o0:Old h (h.new (.cells (opV k a n t dv) false)):=(Old.refl h).new
 have b0:=b.old o0
 have hS:doS k a n t D st=st:=by
  unfold doS
  rw [if_neg om,if_neg om,if_neg om,if_neg om,if_neg om,if_neg om,if_neg om,if_neg om,if_neg om,if_neg om,if_neg om,if_neg om,if_neg om,if_neg om,if_neg om,if_neg om,if_neg om]
 rw [hS]
 have n9 : ¬ k=9:=by omega
 have n10 : ¬ k=10:=by omega
 have n11 : ¬ k=11:=by omega
 have n12 : ¬ k=12:=by omega
 have n13 : ¬ k=13:=by omega
 have n14 : ¬ k=14:=by omega
 have n15 : ¬ k=15:=by omega
 have n16 : ¬ k=16:=by omega
 have n17 : ¬ k=17:=by omega
 have n18 : ¬ k=18:=by omega
 have n19 : ¬ k=19:=by omega
 have n20 : ¬ k=20:=by omega
 clear hS hk
 refine ⟨_,_,_,jam (at_ hcl om rfl rfl rfl ?_),b0,Fm.old o0⟩
 refine qm1 ?_
 exact ⟨by simp,rfl⟩
end
section
variable {call:Call} {fuel base:Nat} {K:List Fr} {e:Env} {h:H} {Q:Post} {ix:Nat} {dst:Option Nat} {ops:List Ins} {keep:List Nat}
theorem Ops.copyB {x y:Opd} {B:Nat} {v:V} {l:List UInt8} (hx:x.ev e=some (.slice (some (B,0)) 0 (.fix 0))) (hy:y.ev e=some v) (hv:VB h v l) (hl:l.length<=1000000)
  (k : ∀ a c h',VB h' (.slice (some (a,0)) l.length c) l->(l≠[]->h'.get a=some (.cells (bts l) false))->Old h h'->(a=B\/(h.nx<=a/\a<h'.nx))->Ops call fuel base ops keep K (layv e dst (.slice (some (a,0)) l.length c)) h' Q) :
  Ops call fuel base (⟨ix,dst,.append 1 1 x y,none,none,[]⟩ :: ops) keep K e h Q:=by
 obtain ⟨a,cp,rfl,n,f,g⟩:=hv
 by_cases hn:l=[]
 ·subst hn
  have hsrc:ja0 h 1 0 (.slice a 0 cp)=some []:=by cases a<;>rfl
  refine Ops.step (v := .slice (some (B,0)) 0 (.fix 0)) (h':=h) (I.run_eff rfl ?_) (k B (.fix 0) h ⟨some (B,0),.fix 0,rfl,fun e=>(by cases e),zq _,fun e=>absurd rfl e⟩ (fun e=>absurd rfl e) (Old.refl _) (.inl rfl))
  simp only [I.eff,hx,hy,jaU,lenOf,List.length_nil,hsrc]
  rfl
 ·obtain ⟨b,o,cs,ro,rfl,h1,h2,h3⟩:=g hn
  have hpos:0<l.length:=List.length_pos_iff.2 hn
  obtain ⟨p1,p2⟩:=jdG (k:=0) (m:=l.length) h3 om hpos
  rw [zk,zh (zq _)] at p2
  have hload:h.load b o (l.length*1)=some (bts l):=by
   unfold H.load
   rw [h2]
   simp only
   rw [Nat.mul_one,show Nat.ble (o+l.length) cs.length=true by rw [Nat.ble_eq];omega]
   simp only [cond_true]
   rw [<- p2,Nat.add_zero]
  have hsrc:ja0 h 1 l.length (.slice (some (b,o)) l.length cp)=some (bts l):=by
   unfold ja0
   simp only
   rw [hload,show (l.length*1 == 0)=false by simp;omega]
   rfl
  have ho:Old h (h.new (.cells (bts l) false)):=⟨by simp,fun j hj=>jac hj⟩
  refine Ops.step (v := .slice (some (h.nx,0)) l.length (.grow 1)) (h':=h.new (.cells (bts l) false)) (I.run_eff rfl ?_) (k h.nx (.grow 1) _ ⟨some (h.nx,0),.grow 1,rfl,fun e=>(by cases e),by simp [Cap.fits],fun _=>⟨h.nx,0,bts l,false,rfl,by simp,jad _,fun i x hi=>by rw [Nat.zero_add];exact jiO hi⟩⟩ (fun _=>jad _) ho (.inr ⟨zq _,by simp⟩))
  simp only [I.eff,hx,hy,jaU,lenOf,hsrc]
  have c1:(Nat.ble ((0+l.length)*1) (2 ^ 46)&&Nat.ble (0+l.length) (2 ^ 46))=true:=by simp only [zp,Nat.ble_eq];omega
  have c2:(l.length == 0)=false:=by simp;exact hn
  have c3:Nat.ble (0+l.length) 0=false:=by
   cases hb:Nat.ble (0+l.length) 0 with
   | false=>rfl
   | true=>rw [Nat.ble_eq] at hb;omega
  rw [c1,c2,c3]
  simp only [cond_true,cond_false,Nat.zero_mul,beq_self_eq_true,List.nil_append,Nat.zero_add]
  rfl
end
section
variable {cl:Nat->Call} (hcl:Sem cl)
include hcl
theorem jnt {d:Nat} {h:H} {f n:Int} {v:V} (hd:1<=d) (hf:f≠0):cl d (.fn F.ja4) [.i 0,.i 0,.i f,v,.i n,.i f] h=some (.bool true,h):=by
 refine jam (at_ hcl hd rfl rfl rfl ?_)
 refine qx1 ?_
 exact ⟨rfl,rfl⟩
theorem jnB {d:Nat} {h:H} {x y n:Int} {v:V} (hd:1<=d) (hv:VI h v [x,y]):cl d (.fn F.ja4) [.i x,.i y,.i 0,v,.i n,.i 0] h=some (.bool true,h):=by
 obtain ⟨a,c,rfl,_⟩:=id hv
 obtain ⟨b,o,cs,ro,rfl,hcs,h0⟩:=VI.cell (l:=[x,y]) hv (i:=0) (x:=x) rfl
 obtain ⟨b',o',cs',ro',e,hcs',h1⟩:=VI.cell (l:=[x,y]) hv (i:=1) (x:=y) rfl
 cases e
 rw [hcs] at hcs';cases hcs'
 have h0:cs[o+(0:Int).toNat*1]?=some (.i x):=h0
 have h1:cs[o+(1:Int).toNat*1]?=some (.i y):=h1
 refine jam (at_ hcl hd rfl rfl rfl ?_)
 refine qx1 ?_
 exact ⟨by simp,rfl⟩
theorem jnC {d:Nat} {h:H} {x n:Int} {v:V} (hd:1<=d) (hv:VI h v [x]):cl d (.fn F.ja4) [.i x,.i n,.i 0,v,.i n,.i 0] h=some (.bool true,h):=by
 obtain ⟨a,c,rfl,_⟩:=id hv
 obtain ⟨b,o,cs,ro,rfl,hcs,h0⟩:=VI.cell (l:=[x]) hv (i:=0) (x:=x) rfl
 have h0:cs[o+(0:Int).toNat*1]?=some (.i x):=h0
 refine jam (at_ hcl hd rfl rfl rfl ?_)
 refine qx1 ?_
 exact ⟨by simp,rfl⟩
end
def PD (h:H) (p w s rw:Nat) (ow:Nat->Nat) (ro dat:Nat->Prop) (vd:V) (st':St):Post:=fun y e g=>y = .normal/\e=[(5,vd),(6,.bool true)] /\ ∃ ow' ro',BB g p w s rw ow' ro' dat st' st'/\Fm h g ow ro ow' ro'
theorem PD.mk {call:Call} {fuel:Nat} {h g:H} {p w s rw:Nat} {ow ow':Nat->Nat} {ro ro' dat:Nat->Prop} {vd:V} {st':St} (b:BB g p w s rw ow' ro' dat st' st') (f:Fm h g ow ro ow' ro'):End call fuel [] .normal [(5,vd),(6,.bool true)] g (PD h p w s rw ow ro dat vd st') :=
 End.nil ⟨rfl,rfl,ow',ro',b,f⟩
theorem PD.mk' {call:Call} {fuel:Nat} {h g:H} {p w s rw:Nat} {ow ow':Nat->Nat} {ro ro' dat:Nat->Prop} {vd x:V} {st':St} (hx:x = .bool true) (b:BB g p w s rw ow' ro' dat st' st') (f:Fm h g ow ro ow' ro'):End call fuel [] .normal [(5,vd),(6,x)] g (PD h p w s rw ow ro dat vd st'):=by
 subst hx;exact PD.mk b f
theorem BB.rhead {h:H} {p w s rw:Nat} {ow:Nat->Nat} {ro dat:Nat->Prop} {a r:St} (b:BB h p w s rw ow ro dat a r) : ∃ x c,h.get rw=some (.cells (.slice x r.ws.length c :: r.tl) false):=by
 obtain ⟨l,R,e⟩:=b.R
 obtain ⟨q,_,k⟩:=R.ex
 obtain ⟨x,c,hw,_⟩:=(k h rfl fun _ _ _=>rfl).head
 refine ⟨x,c,?_⟩
 rw [hw,<- e,List.length_map]
section
variable {cl:Nat->Call} (hcl:Sem cl) {h:H} {p w s rw:Nat} {ow:Nat->Nat} {ro dat:Nat->Prop} {st:St} {a n t:Int} {dv vd:V} {D:List UInt8}
include hcl
theorem sw_4 {d i B:Nat} (hd:16<=d) (b:BB h p w s rw ow ro dat st st) (so:StOk st i) (hi:i<=200) (hD:Dat h dat dv D) (hC:Cpy h p ow ro dat vd D) (lB:B<h.nx) (zB:ow B=0) (rB : ¬ ro B) (gB:h.get B=some (.cells (opV 4 a n t dv) false)) :
  Run (cl (d-1)) fuel c22_27 [] [(0,.p p 0),(3,.p B 0),(5,vd),(36,.i 4)] h (PD h p w s rw ow ro dat vd (doS 4 a n t D st)):=by
 have hp0:=b.hp
 have lp:=b.lp
 have hl300:=hD.len
 have hS:doS 4 a n t D st = { st with ws:=(jax st.ws a).2 } := by simp [doS]
 rw [hS]
 obtain ⟨h1,e1,W1,t1⟩:=ww_Accept hcl (d:=d-1) (fd:=a) om so.K b.W
 have b1:=b.wc (a' := { st with ws:=(jax st.ws a).2 }) W1 t1
 have g1:=b.off_w t1 lB zB gB
 have hp1:=b1.hp
 obtain ⟨v,h2,e2,b2,f2,rfl⟩:=b1.rc hcl (d:=d-1) (f:=F.jaX) (args:=[.p rw 0,.i a]) (r' := { st with ws:=(jax st.ws a).2 }) (P:=fun _ v=>v = .tup [.i (jax st.ws a).1.1,.i (jax st.ws a).1.2.1,.i (jax st.ws a).1.2.2]) (fun _ _ _ _ h=>h) (fun g q l ga gn hq wR hl=>by
  have oR:WsOk (l.map RX.x):=by rw [hl];exact so.K.ok
  obtain ⟨l',g',k1,k2,k3,k4⟩:=rq_Accept hcl (d:=d-1) (fd:=a) om wR oR
  rw [hl] at k1 k3
  exact ⟨_,q,l',g',k1,k2,k3,k4,.inl rfl,rfl⟩)
 have fF:=(Fm.to (ro:=ro) t1).trans f2
 clear so hD hC hl300 hS
 refine qm1 ?_
 exact PD.mk' Zd b2 fF
theorem sw_6 {d i B:Nat} (hd:16<=d) (b:BB h p w s rw ow ro dat st st) (so:StOk st i) (hi:i<=200) (hD:Dat h dat dv D) (hC:Cpy h p ow ro dat vd D) (lB:B<h.nx) (zB:ow B=0) (rB : ¬ ro B) (gB:h.get B=some (.cells (opV 6 a n t dv) false)) :
  Run (cl (d-1)) fuel c22_27 [] [(0,.p p 0),(3,.p B 0),(5,vd),(36,.i 6)] h (PD h p w s rw ow ro dat vd (doS 6 a n t D st)):=by
 have hp0:=b.hp
 have lp:=b.lp
 have hl300:=hD.len
 have hS:doS 6 a n t D st = { st with ws:=(jbE st.ws a D).2 } := by simp [doS]
 rw [hS]
 obtain ⟨h1,e1,W1,t1⟩:=ww_Write hcl (d:=d-1) (fd:=a) om b.W so.K.ok hC.v om (fun z hz=>(hC.z z hz).2.1)
 have b1:=b.wc (a' := { st with ws:=(jbE st.ws a D).2 }) W1 t1
 have g1:=b.off_w t1 lB zB gB
 have hp1:=b1.hp
 obtain ⟨v,h2,e2,b2,f2,rfl⟩:=b1.rc hcl (d:=d-1) (f:=F.jbb) (args:=[.p rw 0,.i a,dv]) (r' := { st with ws:=(jbE st.ws a D).2 }) (P:=fun _ v=>v = .tup [.i (jbE st.ws a D).1.1,.i (jbE st.ws a D).1.2]) (fun _ _ _ _ h=>h) (fun g q l ga gn hq wR hl=>by
  have oR:WsOk (l.map RX.x):=by rw [hl];exact so.K.ok
  obtain ⟨q1,q2⟩:=(hD.keep b (Fm.to t1)).in_ b1 ga gn hq
  obtain ⟨l',g',k1,k2,k3,k4⟩:=rq_Write hcl (d:=d-1) (fd:=a) om wR oR q1 om q2
  rw [hl] at k1 k3
  exact ⟨_,q,l',g',k1,k2,k3,k4,.inl rfl,rfl⟩)
 have fF:=(Fm.to (ro:=ro) t1).trans f2
 clear so hD hC hl300 hS
 refine qm1 ?_
 exact PD.mk' Zd b2 fF
theorem sw_7 {d i B:Nat} (hd:16<=d) (b:BB h p w s rw ow ro dat st st) (so:StOk st i) (hi:i<=200) (hD:Dat h dat dv D) (hC:Cpy h p ow ro dat vd D) (lB:B<h.nx) (zB:ow B=0) (rB : ¬ ro B) (gB:h.get B=some (.cells (opV 7 a n t dv) false)) :
  Run (cl (d-1)) fuel c22_27 [] [(0,.p p 0),(3,.p B 0),(5,vd),(36,.i 7)] h (PD h p w s rw ow ro dat vd (doS 7 a n t D st)):=by
 have hp0:=b.hp
 have lp:=b.lp
 have hl300:=hD.len
 have hS:doS 7 a n t D st = { st with ws:=(jd4 st.ws a).2 } := by simp [doS]
 rw [hS]
 obtain ⟨h1,e1,W1,t1⟩:=ww_Shut hcl (d:=d-1) (fd:=a) om b.W so.K.ok
 have b1:=b.wc (a' := { st with ws:=(jd4 st.ws a).2 }) W1 t1
 have g1:=b.off_w t1 lB zB gB
 have hp1:=b1.hp
 obtain ⟨v,h2,e2,b2,f2,rfl⟩:=b1.rc hcl (d:=d-1) (f:=F.jbn) (args:=[.p rw 0,.i a]) (r' := { st with ws:=(jd4 st.ws a).2 }) (P:=fun _ v=>v = .i (jd4 st.ws a).1) (fun _ _ _ _ h=>h) (fun g q l ga gn hq wR hl=>by
  have oR:WsOk (l.map RX.x):=by rw [hl];exact so.K.ok
  obtain ⟨l',g',k1,k2,k3,k4⟩:=rq_Shut hcl (d:=d-1) (fd:=a) om wR oR
  rw [hl] at k1 k3
  exact ⟨_,q,l',g',k1,k2,k3,k4,.inl rfl,rfl⟩)
 have fF:=(Fm.to (ro:=ro) t1).trans f2
 clear so hD hC hl300 hS
 refine qm1 ?_
 exact PD.mk' Zd b2 fF
theorem sw_8 {d i B:Nat} (hd:16<=d) (b:BB h p w s rw ow ro dat st st) (so:StOk st i) (hi:i<=200) (hD:Dat h dat dv D) (hC:Cpy h p ow ro dat vd D) (lB:B<h.nx) (zB:ow B=0) (rB : ¬ ro B) (gB:h.get B=some (.cells (opV 8 a n t dv) false)) :
  Run (cl (d-1)) fuel c22_27 [] [(0,.p p 0),(3,.p B 0),(5,vd),(36,.i 8)] h (PD h p w s rw ow ro dat vd (doS 8 a n t D st)):=by
 have hp0:=b.hp
 have lp:=b.lp
 have hl300:=hD.len
 have hS:doS 8 a n t D st = { st with ws:=(jch st.ws a).2 } := by simp [doS]
 rw [hS]
 obtain ⟨h1,e1,W1,t1⟩:=ww_Close hcl (d:=d-1) (fd:=a) om b.W so.K.ok
 have b1:=b.wc (a' := { st with ws:=(jch st.ws a).2 }) W1 t1
 have g1:=b.off_w t1 lB zB gB
 have hp1:=b1.hp
 obtain ⟨v,h2,e2,b2,f2,rfl⟩:=b1.rc hcl (d:=d-1) (f:=F.jbe) (args:=[.p rw 0,.i a]) (r' := { st with ws:=(jch st.ws a).2 }) (P:=fun _ v=>v = .i (jch st.ws a).1) (fun _ _ _ _ h=>h) (fun g q l ga gn hq wR hl=>by
  have oR:WsOk (l.map RX.x):=by rw [hl];exact so.K.ok
  obtain ⟨l',g',k1,k2,k3,k4⟩:=rq_Close hcl (d:=d-1) (fd:=a) om wR oR
  rw [hl] at k1 k3
  exact ⟨_,q,l',g',k1,k2,k3,k4,.inl rfl,rfl⟩)
 have fF:=(Fm.to (ro:=ro) t1).trans f2
 clear so hD hC hl300 hS
 refine qm1 ?_
 exact PD.mk' Zd b2 fF
theorem sw_5 {d i B:Nat} (hd:16<=d) (b:BB h p w s rw ow ro dat st st) (so:StOk st i) (hi:i<=200) (hD:Dat h dat dv D) (hC:Cpy h p ow ro dat vd D) (lB:B<h.nx) (zB:ow B=0) (rB : ¬ ro B) (gB:h.get B=some (.cells (opV 5 a n t dv) false)) :
  Run (cl (d-1)) fuel c22_27 [] [(0,.p p 0),(3,.p B 0),(5,vd),(36,.i 5)] h (PD h p w s rw ow ro dat vd (doS 5 a n t D st)):=by
 have hp0:=b.hp
 have lp:=b.lp
 have hl300:=hD.len
 have hS:doS 5 a n t D st = { st with ws:=(jcc st.ws a n).2 } := by simp [doS]
 rw [hS]
 obtain ⟨v1,h1,e1,vb1,vz1,W1,t1⟩:=ww_Read hcl (d:=d-1) (fd:=a) (many:=n) om b.W so.K.ok
 have b1:=b.wc (a' := { st with ws:=(jcc st.ws a n).2 }) W1 t1
 have g1:=b.off_w t1 lB zB gB
 have hp1:=b1.hp
 obtain ⟨v,h2,e2,b2,f2,hP⟩:=b1.rc hcl (d:=d-1) (f:=F.jbo) (args:=[.p rw 0,.i a,.i n]) (r' := { st with ws:=(jcc st.ws a n).2 })
  (P:=fun g v=>∃ v2,v = .tup [v2,.bool (jcc st.ws a n).1.2.1,.i (jcc st.ws a n).1.2.2]/\VB g v2 (jcc st.ws a n).1.1) (fun _ _ _ m ⟨v2,e,hv⟩=>⟨v2,e,hv.mono m⟩) (fun g q l ga gn hq wR hl=>by
  have oR:WsOk (l.map RX.x):=by rw [hl];exact so.K.ok
  obtain ⟨v2,l',g',k1,k0,k2,k3,k4⟩:=rq_Read hcl (d:=d-1) (fd:=a) (many:=n) om wR oR
  rw [hl] at k0 k1 k3
  exact ⟨_,q,l',g',k1,k2,k3,k4,.inl rfl,v2,rfl,k0⟩)
 have vb2:VB h2 v1 (jcc st.ws a n).1.1:=vb1.keep2 f2.ch.nx fun hl z hz=>f2.ch.get z (vb1.lt hl hz) fun e=>e.elim (fun e=>e (b.W.top (vz1 z hz))) fun e=>by
  have:=b.ro_lt (.inl e)
  have:=vz1 z hz
  omega
 obtain ⟨a1,c1,rfl,B1⟩:=vb2
 obtain ⟨v2,rfl,a2,c2,rfl,B2⟩:=hP
 have fF:=(Fm.to (ro:=ro) t1).trans f2
 generalize (jcc st.ws a n).1.2.1=bb at e1 e2
 clear so hD hC hl300 hS
 cases bb
 ·refine qm1 ?_
  refine Ops.ofBytesAt rfl B1 (zq _) ?_
  refine qm1 ?_
  refine Ops.ofBytesAt rfl B2 (zq _) ?_
  repeat' (first|refine qmy ?_|refine zbf rfl (fun _=>?_) fun _=>?_|refine zbg rfl (fun _=>?_) fun _=>?_|refine zbh rfl (fun _=>?_) fun _=>?_|refine zbm rfl (fun _=>?_) fun _=>?_|refine zbn rfl (fun _=>?_) fun _=>?_)
  ·exact PD.mk' Zd b2 fF
  ·rename_i hx
   simp at hx
 ·refine qm1 ?_
  refine Ops.ofBytesAt rfl B1 (zq _) ?_
  refine qm1 ?_
  refine Ops.ofBytesAt rfl B2 (zq _) ?_
  repeat' (first|refine qmy ?_|refine zbf rfl (fun _=>?_) fun _=>?_|refine zbg rfl (fun _=>?_) fun _=>?_|refine zbh rfl (fun _=>?_) fun _=>?_|refine zbm rfl (fun _=>?_) fun _=>?_|refine zbn rfl (fun _=>?_) fun _=>?_)
  ·exact PD.mk' Zd b2 fF
  ·rename_i hx
   simp at hx
end
section
variable {cl:Nat->Call} (hcl:Sem cl) {h:H} {p w s rw:Nat} {ow:Nat->Nat} {ro dat:Nat->Prop} {st:St} {a n t:Int} {dv vd:V} {D:List UInt8}
include hcl
theorem sw_0 {d i B:Nat} (hd:16<=d) (b:BB h p w s rw ow ro dat st st) (so:StOk st i) (hi:i<=200) (hD:Dat h dat dv D) (hC:Cpy h p ow ro dat vd D) (lB:B<h.nx) (zB:ow B=0) (rB : ¬ ro B) (gB:h.get B=some (.cells (opV 0 a n t dv) false)) :
  Run (cl (d-1)) fuel c22_27 [] [(0,.p p 0),(3,.p B 0),(5,vd),(36,.i 0)] h (PD h p w s rw ow ro dat vd (doS 0 a n t D st)):=by
 have hp0:=b.hp
 have lp:=b.lp
 have hl300:=hD.len
 have hS:doS 0 a n t D st = { st with ws:=(jag st.ws 0 n).2 } := by simp [doS]
 rw [hS]
 obtain ⟨x,y,h1,ow1,e1,good,bad,W1,t1⟩:=ww_Pipe hcl (d:=d-1) (n:=n) om so.K b.W
 have b1:=b.wc (a' := { st with ws:=(jag st.ws 0 n).2 }) W1 t1
 have g1:=b.off_w t1 lB zB gB
 have hp1:=b1.hp
 obtain ⟨v,h2,e2,b2,f2,v2,rfl,hv2⟩:=b1.rc hcl (d:=d-1) (f:=F.jaw) (args:=[.p rw 0,.i 0,.i n]) (r' := { st with ws:=(jag st.ws 0 n).2 })
  (P:=fun g v=>∃ v2,v = .tup [v2,.i (jag st.ws 0 n).1.2]/\VI g v2 (jag st.ws 0 n).1.1) (fun _ _ _ m ⟨v2,e,hv⟩=>⟨v2,e,hv.mono m⟩) (fun g q l ga gn hq wR hl=>by
  have oR:WsOk (l.map RX.x):=by rw [hl];exact so.K.ok
  obtain ⟨v2,q',l',g',k1,k0,k2,k3,k4,k5⟩:=jiu hcl (d:=d-1) (kind:=0) (n:=n) om om wR oR
  rw [hl] at k0 k1 k3
  exact ⟨_,q',l',g',k1,k2,k3,k4,k5,v2,rfl,k0⟩)
 have fF:=(Fm.to (ro:=ro) t1).trans f2
 have hp2:=b2.hp
 obtain ⟨xs,cs,hr2⟩:=b2.rhead
 have wl:({ st with ws:=(jag st.ws 0 n).2 } : St).ws.length=(jag st.ws 0 n).2.length:=rfl
 rw [wl] at hr2
 have q0:(V.slice xs (jag st.ws 0 n).2.length cs :: ({ st with ws:=(jag st.ws 0 n).2 } : St).tl)[0+0]?=some (V.slice xs (jag st.ws 0 n).2.length cs):=rfl
 have o2v:=hv2.one
 have e3:cl (d-1) (.fn F.ja4) [.i x,.i y,.i (jag st.ws 0 n).1.2,v2,.i ((jag st.ws 0 n).2.length-1),.i (jag st.ws 0 n).1.2] h2=some (.bool true,h2):=by
  by_cases hz:(jag st.ws 0 n).1.2=0
  ·have gd:=good hz
   rw [gd] at hv2
   rw [hz]
   exact jnB hcl om hv2
  ·obtain ⟨rfl,rfl⟩:=bad hz
   exact jnt hcl om hz
 have hlen:(jag st.ws 0 n).2.length<=1000:=(jdB om so.K).ok.len
 clear so hD hC hl300 hS good bad
 generalize (jag st.ws 0 n).1.2=er at e1 e2 e3
 refine qm1 ?_
 exact PD.mk' rfl b2 fF
theorem sw_1 {d i B:Nat} (hd:16<=d) (b:BB h p w s rw ow ro dat st st) (so:StOk st i) (hi:i<=200) (hD:Dat h dat dv D) (hC:Cpy h p ow ro dat vd D) (lB:B<h.nx) (zB:ow B=0) (rB : ¬ ro B) (gB:h.get B=some (.cells (opV 1 a n t dv) false)) :
  Run (cl (d-1)) fuel c22_27 [] [(0,.p p 0),(3,.p B 0),(5,vd),(36,.i 1)] h (PD h p w s rw ow ro dat vd (doS 1 a n t D st)):=by
 have hp0:=b.hp
 have lp:=b.lp
 have hl300:=hD.len
 have hS:doS 1 a n t D st = { st with ws:=(jag st.ws 1 n).2 } := by simp [doS]
 rw [hS]
 obtain ⟨x,y,h1,ow1,e1,good,bad,W1,t1⟩:=ww_Pair hcl (d:=d-1) (n:=n) om so.K b.W
 have b1:=b.wc (a' := { st with ws:=(jag st.ws 1 n).2 }) W1 t1
 have g1:=b.off_w t1 lB zB gB
 have hp1:=b1.hp
 obtain ⟨v,h2,e2,b2,f2,v2,rfl,hv2⟩:=b1.rc hcl (d:=d-1) (f:=F.jaw) (args:=[.p rw 0,.i 1,.i n]) (r' := { st with ws:=(jag st.ws 1 n).2 })
  (P:=fun g v=>∃ v2,v = .tup [v2,.i (jag st.ws 1 n).1.2]/\VI g v2 (jag st.ws 1 n).1.1) (fun _ _ _ m ⟨v2,e,hv⟩=>⟨v2,e,hv.mono m⟩) (fun g q l ga gn hq wR hl=>by
  have oR:WsOk (l.map RX.x):=by rw [hl];exact so.K.ok
  obtain ⟨v2,q',l',g',k1,k0,k2,k3,k4,k5⟩:=jiu hcl (d:=d-1) (kind:=1) (n:=n) om om wR oR
  rw [hl] at k0 k1 k3
  exact ⟨_,q',l',g',k1,k2,k3,k4,k5,v2,rfl,k0⟩)
 have fF:=(Fm.to (ro:=ro) t1).trans f2
 have hp2:=b2.hp
 obtain ⟨xs,cs,hr2⟩:=b2.rhead
 have wl:({ st with ws:=(jag st.ws 1 n).2 } : St).ws.length=(jag st.ws 1 n).2.length:=rfl
 rw [wl] at hr2
 have q0:(V.slice xs (jag st.ws 1 n).2.length cs :: ({ st with ws:=(jag st.ws 1 n).2 } : St).tl)[0+0]?=some (V.slice xs (jag st.ws 1 n).2.length cs):=rfl
 have o2v:=hv2.one
 have e3:cl (d-1) (.fn F.ja4) [.i x,.i y,.i (jag st.ws 1 n).1.2,v2,.i ((jag st.ws 1 n).2.length-1),.i (jag st.ws 1 n).1.2] h2=some (.bool true,h2):=by
  by_cases hz:(jag st.ws 1 n).1.2=0
  ·have gd:=good hz
   rw [gd] at hv2
   rw [hz]
   exact jnB hcl om hv2
  ·obtain ⟨rfl,rfl⟩:=bad hz
   exact jnt hcl om hz
 have hlen:(jag st.ws 1 n).2.length<=1000:=(jdB om so.K).ok.len
 clear so hD hC hl300 hS good bad
 generalize (jag st.ws 1 n).1.2=er at e1 e2 e3
 refine qm1 ?_
 exact PD.mk' rfl b2 fF
end
section
variable {cl:Nat->Call} (hcl:Sem cl) {h:H} {p w s rw:Nat} {ow:Nat->Nat} {ro dat:Nat->Prop} {st:St} {a n t:Int} {dv vd:V} {D:List UInt8}
include hcl
theorem sw_2 {d i B:Nat} (hd:16<=d) (b:BB h p w s rw ow ro dat st st) (so:StOk st i) (hi:i<=200) (hD:Dat h dat dv D) (hC:Cpy h p ow ro dat vd D) (lB:B<h.nx) (zB:ow B=0) (rB : ¬ ro B) (gB:h.get B=some (.cells (opV 2 a n t dv) false)) :
  Run (cl (d-1)) fuel c22_27 [] [(0,.p p 0),(3,.p B 0),(5,vd),(36,.i 2)] h (PD h p w s rw ow ro dat vd (doS 2 a n t D st)):=by
 have hp0:=b.hp
 have lp:=b.lp
 have hl300:=hD.len
 have hS:doS 2 a n t D st = { st with ws:=(jag st.ws 2 n).2 } := by simp [doS]
 rw [hS]
 obtain ⟨x,y,h1,ow1,e1,good,bad,W1,t1⟩:=ww_Outer hcl (d:=d-1) (n:=n) om so.K b.W
 have b1:=b.wc (a' := { st with ws:=(jag st.ws 2 n).2 }) W1 t1
 have g1:=b.off_w t1 lB zB gB
 have hp1:=b1.hp
 obtain ⟨v,h2,e2,b2,f2,v2,rfl,hv2⟩:=b1.rc hcl (d:=d-1) (f:=F.jaw) (args:=[.p rw 0,.i 2,.i n]) (r' := { st with ws:=(jag st.ws 2 n).2 })
  (P:=fun g v=>∃ v2,v = .tup [v2,.i (jag st.ws 2 n).1.2]/\VI g v2 (jag st.ws 2 n).1.1) (fun _ _ _ m ⟨v2,e,hv⟩=>⟨v2,e,hv.mono m⟩) (fun g q l ga gn hq wR hl=>by
  have oR:WsOk (l.map RX.x):=by rw [hl];exact so.K.ok
  obtain ⟨v2,q',l',g',k1,k0,k2,k3,k4,k5⟩:=jiu hcl (d:=d-1) (kind:=2) (n:=n) om om wR oR
  rw [hl] at k0 k1 k3
  exact ⟨_,q',l',g',k1,k2,k3,k4,k5,v2,rfl,k0⟩)
 have fF:=(Fm.to (ro:=ro) t1).trans f2
 have hp2:=b2.hp
 obtain ⟨xs,cs,hr2⟩:=b2.rhead
 have wl:({ st with ws:=(jag st.ws 2 n).2 } : St).ws.length=(jag st.ws 2 n).2.length:=rfl
 rw [wl] at hr2
 have q0:(V.slice xs (jag st.ws 2 n).2.length cs :: ({ st with ws:=(jag st.ws 2 n).2 } : St).tl)[0+0]?=some (V.slice xs (jag st.ws 2 n).2.length cs):=rfl
 have o2v:=hv2.one
 have e3:cl (d-1) (.fn F.ja4) [.i x,.i y,.i (jag st.ws 2 n).1.2,v2,.i ((jag st.ws 2 n).2.length-1),.i (jag st.ws 2 n).1.2] h2=some (.bool true,h2):=by
  by_cases hz:(jag st.ws 2 n).1.2=0
  ·obtain ⟨gd,gl⟩:=good hz
   have hm:((jag st.ws 2 n).2.length:Int)-1=(st.ws.length:Int):=by
    rcases jez (ws:=st.ws) (n:=n) (kind:=2) om with ⟨_,_,m3⟩ | ⟨m1,_⟩
    ·omega
    ·exact absurd hz m1
   rw [gd] at hv2
   rw [hz,hm,gl]
   exact jnC hcl om hv2
  ·obtain ⟨rfl,rfl⟩:=bad hz
   exact jnt hcl om hz
 have hlen:(jag st.ws 2 n).2.length<=1000:=(jdB om so.K).ok.len
 clear so hD hC hl300 hS good bad
 generalize (jag st.ws 2 n).1.2=er at e1 e2 e3
 refine qm1 ?_
 exact PD.mk' rfl b2 fF
theorem sw_3 {d i B:Nat} (hd:16<=d) (b:BB h p w s rw ow ro dat st st) (so:StOk st i) (hi:i<=200) (hD:Dat h dat dv D) (hC:Cpy h p ow ro dat vd D) (lB:B<h.nx) (zB:ow B=0) (rB : ¬ ro B) (gB:h.get B=some (.cells (opV 3 a n t dv) false)) :
  Run (cl (d-1)) fuel c22_27 [] [(0,.p p 0),(3,.p B 0),(5,vd),(36,.i 3)] h (PD h p w s rw ow ro dat vd (doS 3 a n t D st)):=by
 have hp0:=b.hp
 have lp:=b.lp
 have hl300:=hD.len
 have hS:doS 3 a n t D st = { st with ws:=(jag st.ws 3 n).2 } := by simp [doS]
 rw [hS]
 obtain ⟨x,y,h1,ow1,e1,good,bad,W1,t1⟩:=ww_Listen hcl (d:=d-1) (n:=n) om so.K b.W
 have b1:=b.wc (a' := { st with ws:=(jag st.ws 3 n).2 }) W1 t1
 have g1:=b.off_w t1 lB zB gB
 have hp1:=b1.hp
 obtain ⟨v,h2,e2,b2,f2,v2,rfl,hv2⟩:=b1.rc hcl (d:=d-1) (f:=F.jaw) (args:=[.p rw 0,.i 3,.i n]) (r' := { st with ws:=(jag st.ws 3 n).2 })
  (P:=fun g v=>∃ v2,v = .tup [v2,.i (jag st.ws 3 n).1.2]/\VI g v2 (jag st.ws 3 n).1.1) (fun _ _ _ m ⟨v2,e,hv⟩=>⟨v2,e,hv.mono m⟩) (fun g q l ga gn hq wR hl=>by
  have oR:WsOk (l.map RX.x):=by rw [hl];exact so.K.ok
  obtain ⟨v2,q',l',g',k1,k0,k2,k3,k4,k5⟩:=jiu hcl (d:=d-1) (kind:=3) (n:=n) om om wR oR
  rw [hl] at k0 k1 k3
  exact ⟨_,q',l',g',k1,k2,k3,k4,k5,v2,rfl,k0⟩)
 have fF:=(Fm.to (ro:=ro) t1).trans f2
 have hp2:=b2.hp
 obtain ⟨xs,cs,hr2⟩:=b2.rhead
 have wl:({ st with ws:=(jag st.ws 3 n).2 } : St).ws.length=(jag st.ws 3 n).2.length:=rfl
 rw [wl] at hr2
 have q0:(V.slice xs (jag st.ws 3 n).2.length cs :: ({ st with ws:=(jag st.ws 3 n).2 } : St).tl)[0+0]?=some (V.slice xs (jag st.ws 3 n).2.length cs):=rfl
 have o2v:=hv2.one
 have e3:cl (d-1) (.fn F.ja4) [.i x,.i y,.i (jag st.ws 3 n).1.2,v2,.i ((jag st.ws 3 n).2.length-1),.i (jag st.ws 3 n).1.2] h2=some (.bool true,h2):=by
  by_cases hz:(jag st.ws 3 n).1.2=0
  ·obtain ⟨gd,gl⟩:=good hz
   have hm:((jag st.ws 3 n).2.length:Int)-1=(st.ws.length:Int):=by
    rcases jez (ws:=st.ws) (n:=n) (kind:=3) om with ⟨_,_,m3⟩ | ⟨m1,_⟩
    ·omega
    ·exact absurd hz m1
   rw [gd] at hv2
   rw [hz,hm,gl]
   exact jnC hcl om hv2
  ·obtain ⟨rfl,rfl⟩:=bad hz
   exact jnt hcl om hz
 have hlen:(jag st.ws 3 n).2.length<=1000:=(jdB om so.K).ok.len
 clear so hD hC hl300 hS good bad
 generalize (jag st.ws 3 n).1.2=er at e1 e2 e3
 refine qm1 ?_
 exact PD.mk' rfl b2 fF
end
section
variable {cl:Nat->Call} (hcl:Sem cl) {h:H} {p w s rw:Nat} {ow:Nat->Nat} {ro dat:Nat->Prop} {st:St} {k a n t:Int} {dv vd:V} {D:List UInt8}
include hcl
theorem sw_more {d B:Nat} {st':St} (hk:k<0\/8<k) (gB:h.get B=some (.cells (opV k a n t dv) false)) (m:jdf cl (d-1) F.jae h p w s rw ow ro dat [.p p 0,.agg (opV k a n t dv),vd] st') :
  Run (cl (d-1)) fuel c22_27 [] [(0,.p p 0),(3,.p B 0),(5,vd),(36,.i k)] h (PD h p w s rw ow ro dat vd st'):=by
 obtain ⟨h',ow',ro',e1,b',f'⟩:=m
 have n0 : ¬ k=0:=by omega
 have n1 : ¬ k=1:=by omega
 have n2 : ¬ k=2:=by omega
 have n3 : ¬ k=3:=by omega
 have n4 : ¬ k=4:=by omega
 have n5 : ¬ k=5:=by omega
 have n6 : ¬ k=6:=by omega
 have n7 : ¬ k=7:=by omega
 have n8 : ¬ k=8:=by omega
 clear hk
 refine qm1 ?_
 exact PD.mk' rfl b' f'
theorem sw_all {d i B:Nat} (hd:16<=d) (b:BB h p w s rw ow ro dat st st) (so:StOk st i) (hi:i<=200) (hD:Dat h dat dv D) (hC:Cpy h p ow ro dat vd D) (lB:B<h.nx) (zB:ow B=0) (rB : ¬ ro B) (gB:h.get B=some (.cells (opV k a n t dv) false)) (t0:0<=t) (t1:t<=18446744073709551615) :
  Run (cl (d-1)) fuel c22_27 [] [(0,.p p 0),(3,.p B 0),(5,vd),(36,.i k)] h (PD h p w s rw ow ro dat vd (doS k a n t D st)):=by
 by_cases k0:k=0
 ·subst k0;exact sw_0 hcl hd b so hi hD hC lB zB rB gB
 by_cases k1:k=1
 ·subst k1;exact sw_1 hcl hd b so hi hD hC lB zB rB gB
 by_cases k2:k=2
 ·subst k2;exact sw_2 hcl hd b so hi hD hC lB zB rB gB
 by_cases k3:k=3
 ·subst k3;exact sw_3 hcl hd b so hi hD hC lB zB rB gB
 by_cases k4:k=4
 ·subst k4;exact sw_4 hcl hd b so hi hD hC lB zB rB gB
 by_cases k5:k=5
 ·subst k5;exact sw_5 hcl hd b so hi hD hC lB zB rB gB
 by_cases k6:k=6
 ·subst k6;exact sw_6 hcl hd b so hi hD hC lB zB rB gB
 by_cases k7:k=7
 ·subst k7;exact sw_7 hcl hd b so hi hD hC lB zB rB gB
 by_cases k8:k=8
 ·subst k8;exact sw_8 hcl hd b so hi hD hC lB zB rB gB
 refine sw_more hcl om gB ?_
 by_cases k9:k=9
 ·subst k9;exact mo_9 hcl om b so hi hD hC
 by_cases k10:k=10
 ·subst k10;exact mo_10 hcl om b so hi hD hC
 by_cases k11:k=11
 ·subst k11;exact mo_11 hcl om b so hi hD hC
 by_cases k12:k=12
 ·subst k12;exact mo_12 hcl om b so hi hD hC
 by_cases k13:k=13
 ·subst k13;exact mo_13 hcl om b so hi hD hC
 by_cases k14:k=14
 ·subst k14;exact mo_14 hcl om b so hi hD hC
 by_cases k15:k=15
 ·subst k15;exact mo_15 hcl om b so hi hD hC t0 t1
 by_cases k16:k=16
 ·subst k16;exact mo_16 hcl om b so hi hD hC
 by_cases k17:k=17
 ·subst k17;exact mo_17 hcl om b so hi hD hC
 by_cases k18:k=18
 ·subst k18;exact mo_18 hcl om b so hi
 by_cases k19:k=19
 ·subst k19;exact mo_19 hcl om b so hi hD hC
 by_cases k20:k=20
 ·subst k20;exact mo_20 hcl om b so
 exact mo_no hcl om b om
theorem do_ok {d i:Nat} (hd:16<=d) (b:BB h p w s rw ow ro dat st st) (so:StOk st i) (hi:i<=200) (hD:Dat h dat dv D) (t0:0<=t) (t1:t<=18446744073709551615) :
  ∃ h' ow' ro',cl d (.fn F.jb4) [.p p 0,.agg (opV k a n t dv)] h=some (.bool true,h')/\BB h' p w s rw ow' ro' dat (doS k a n t D st) (doS k a n t D st)/\Fm h h' ow ro ow' ro':=by
 suffices q : ∃ v h',cl d (.fn F.jb4) [.p p 0,.agg (opV k a n t dv)] h=some (v,h') /\ ∃ ow' ro',v = .bool true/\BB h' p w s rw ow' ro' dat (doS k a n t D st) (doS k a n t D st)/\Fm h h' ow ro ow' ro' by
  obtain ⟨_,h',e,ow',ro',rfl,q⟩:=q;exact ⟨h',ow',ro',e,q⟩
 have ol:Old h ((h.new (.cells (opV k a n t dv) false)).new (.cells [] false)):=(Old.refl h).new.new
 have hv:=(hD.keep b (Fm.old (ow:=ow) (ro:=ro) ol)).v
 have hl300:=hD.len
 refine at_ hcl om rfl rfl rfl ?_
 obtain ⟨C,hC⟩ : ∃ C,C=c22_27:=⟨_,rfl⟩
 simp only [c22,c22_29,yB,yC]
 rw [<- hC]
 refine qm1 ?_
 refine Ops.copyB rfl rfl hv om fun a' c' h3 hvd hcells ho hz=>?_
 have ho:Old ((h.new (.cells (opV k a n t dv) false)).new (.cells [] false)) h3:=ho
 have hz:a'=h.nx+1\/(h.nx+2<=a'/\a'<h3.nx):=hz
 have o3:=ol.trans ho
 have xo:((h.new (.cells (opV k a n t dv) false)).new (.cells [] false)).nx=h.nx+2:=rfl
 have x3:=ho.1
 have b3:=b.old o3
 have hD3:=hD.keep b (Fm.old (ow:=ow) (ro:=ro) o3)
 have gB:h3.get h.nx=some (.cells (opV k a n t dv) false):=by
  rw [ho.2 _ om,jac Zd,jad]
 have ha':h.nx+1<=a'/\a'<h3.nx:=by
  omega
 have lp:=b.lp
 have hC3:Cpy h3 p ow ro dat (.slice (some (a',0)) D.length c') D:=⟨hvd,fun z hz=>by
  cases hz
  refine ⟨ha'.2,b.W.top om,fun e=>?_,fun e=>?_,by omega⟩
  ·have:=b.ro_lt (.inl e);omega
  ·have:=b.ro_lt (.inr e);omega⟩
 have hsw:=sw_all hcl (d:=d) (k:=k) (a:=a) (n:=n) (t:=t) hd b3 so hi hD3 hC3 (B:=h.nx) om (b.W.top (zq _)) (fun e=>by have:=b.ro_lt (.inl e);omega) gB t0 t1
 rw [<- hC] at hsw
 clear hD hD3 hv so
 refine qm1 ?_
 refine Run.cut _ hsw ?_
 rintro _ _ g ⟨rfl,rfl,ow',ro',b',f'⟩
 clear hsw hC
 have hCg:=hC3.keep f'
 obtain ⟨z1,z2,z3,z4,z5⟩:=hCg.z a' rfl
 have gcells:D≠[]->g.get a'=some (.cells (bts D) false):=fun hn=>by
  obtain ⟨y1,y2,y3,_,_⟩:=hC3.z a' rfl
  rw [f'.ch.get a' y1 fun e=>e.elim (fun e=>e y2) y3,hcells hn]
 have fF:=(Fm.old (ow:=ow) (ro:=ro) o3).trans f'
 have xg:=f'.ch.nx
 clear hC3 hCg hcells f' b3 gB hvd
 refine qm1 ?_
 refine Run.loop (fun m e g2=>∃ j:Nat,m=D.length-j/\j<=D.length/\e=[(5,.slice (some (a',0)) D.length c'),(6,.bool true),(275,.i (D.length:Int)),(276,.i (j:Int))] /\
   (D≠[] -> ∃ cs:List V,g2.get a'=some (.cells cs false)/\cs.length=D.length /\ ∀ i,i<D.length -> ∃ x,cs[i]?=some (.int .u8 x))/\g2.nx=g.nx /\ ∀ j,j≠a'->g2.get j=g.get j)
  (k:=D.length) Ze ⟨0,rfl,by omega,rfl,fun hn=>⟨bts D,gcells hn,by simp,fun i hi=>⟨_,jiO (za hi)⟩⟩,rfl,fun _ _=>rfl⟩ ?_
 rintro _ _ g2 ⟨j,rfl,hj,rfl,hcs,hx2,hk2⟩ n2 ih2
 by_cases hlt:(j:Int)<D.length
 case neg=>
  clear ih2 hcs gcells
  refine qm1 ?_
  refine ⟨ow',ro',rfl,b'.off om fun i hi ho=>hk2 i ?_,⟨by have:=fF.ch.nx;omega,fun i hi hb=>by rw [hk2 i om,fF.ch.get i hi hb]⟩,fF.tag,fF.rtag⟩
  rintro rfl
  rcases ho with ho | ho | ho | ho
  ·exact ho z2
  ·exact z3 ho
  ·exact z4 ho
  ·exact z5 ho
 obtain ⟨cs,g1,g3,g4⟩:=hcs (by rintro rfl;simp at hlt;omega)
 obtain ⟨x,hx⟩:=g4 j om
 have hx':cs[0+(j:Int).toNat*1]?=some (.int .u8 x):=by rw [show 0+(j:Int).toNat*1=j by omega];exact hx
 have hj1:(j:Int)+1=((j+1:Nat):Int):=by omega
 clear gcells hcs
 refine qm1 ?_
 refine Ops.store1 rfl rfl rfl g1 om ?_
 refine qm1 ?_
 rw [hj1]
 refine ih2 (D.length-(j+1)) om _ _ ⟨j+1,rfl,by omega,rfl,fun _=>⟨_,jab _,by simp;exact g3,fun i hi=>?_⟩,hx2,fun i hi=>by rw [jaa hi,hk2 i hi]⟩
 rw [zi]
 by_cases e:0+(j:Int).toNat*1=i
 ·rw [if_pos e,if_pos om];exact ⟨_,rfl⟩
 ·rw [if_neg e];exact g4 i hi
end
section
variable {cl:Nat->Call} (hcl:Sem cl)
include hcl
theorem wr_out {d b4 b8 b9 b10 wb cap rk ro:Nat} {g:H} {own oth:En} {wl:List V} {rst i hup:Bool} {a c:Int} (hd:3<=d) (g4:g.get b4=some jdO) (g8:g.get b8=some (.cells (own.cells rk) false)) (g9:g.get b9=some (.cells (oth.cells ro) false))
  (g10:g.get b10=some (.cells [.bool true,.bool i,.bool false,.bool hup,.bool rst,.int .u64 a,.int .u64 c] false)) (gx:g.get wb=some (.cells wl false)) (hx:wl[0+14]?=some (.bool rst)) (n1:b4≠b10) (n2:b8≠b10) (n3:b9≠b10) (n4:wb≠b10)
  (hR:own.writes=true -> ∃ q b,oth.ring=some q/\jaz g ro b q cap) :
  Run (cl (d-1)) fuel c33_0 [] [(4,.p b4 0),(6,.p wb 0),(8,.p b8 0),(9,.p b9 0),(10,.p b10 0)] g
   (Fin c33.res fun v' h'=>v' = .agg [.bool true,.bool i,.bool (own.writes && !own.shut&&(decide (((oth.ring.getD []).length:Int)<cap)||hup||rst)),.bool hup,.bool rst,.int .u64 a,.int .u64 c]/\Ch (fun j=>j=b4\/j=b10) g h'):=by
 obtain ⟨w0,f0,q0,wr0,s0,i0,o0⟩:=own
 obtain ⟨w1,f1,q1,wr1,s1,i1,o1⟩:=oth
 simp only [En.cells] at g8 g9
 cases wr0
 case false=>
  refine qm1 ?_
  exact jaM rfl (jab _) rfl ⟨rfl,(Ch.set (.inr rfl)).trans (Ch.set (.inl rfl))⟩
 obtain ⟨q,b,hq,R⟩:=hR rfl
 have hq:q1=some q:=hq
 subst hq
 simp only [En.ptr] at g9
 cases s0
 case true=>
  refine qm1 ?_
  exact jaM rfl (jab _) rfl ⟨rfl,(Ch.set (.inr rfl)).trans (Ch.set (.inl rfl))⟩
 cases hup
 case true=>
  refine qm1 ?_
  exact jaM rfl (jab _) rfl ⟨by simp [jao],(Ch.set (.inr rfl)).trans (Ch.set (.inl rfl))⟩
 cases rst
 case true=>
  refine qm1 ?_
  exact jaM rfl (jab _) rfl ⟨by simp [jao],(Ch.set (.inr rfl)).trans (Ch.set (.inl rfl))⟩
 obtain ⟨buf,frm,inn,out,C,V⟩:=R
 have hroom:=jkz hcl (d:=d-1) om C V.fit V.small
 have e1:decide (0<((cap-q.length:Nat):Int))=decide ((q.length:Int)<cap):=by
  have:=V.fit
  by_cases h1:(q.length:Int)<cap
  ·rw [decide_eq_true h1,decide_eq_true om]
  ·rw [decide_eq_false h1,decide_eq_false om]
 clear C V hR
 refine qm1 ?_
 rw [e1]
 exact jaM rfl (jab _) rfl ⟨by simp [jao],(Ch.set (.inr rfl)).trans (Ch.set (.inl rfl))⟩
theorem Fin.mono {res:List RV} {R R':V->H->Prop} {x:Ex} {e:Env} {h:H} (k:Fin res R x e h) (hR : ∀ v,R v h->R' v h):Fin res R' x e h:=by
 obtain ⟨p1,l,p2,p3⟩:=k;exact ⟨p1,l,p2,hR _ p3⟩
theorem wr_in {d b4 b5 b8 b9 b10 r0 r1 bo k n t0:Nat} {g:H} {x:Wi} {wv:V} {hup:Bool} (hd:3<=d) (hk:k=0\/k=1) (g4:g.get b4=some jdO) (g5:g.get b5=some (.cells [.bool true,.i (n:Int),.i (k:Int)] false)) (g8:g.get b8=some (.cells ((x.e k).cells (two r0 r1 k)) false)) (g9:g.get b9=some (.cells ((x.e (1-k)).cells (two r0 r1 (1-k))) false))
  (g10:g.get b10=some (.cells [.bool true,.bool false,.bool false,.bool hup,.bool x.reset,.int .u64 (x.e k).inn,.int .u64 (x.e k).out] false)) (gx:g.get t0=some (x.obj r0 r1 wv)) (n1:b4≠b10) (n2:b8≠b10) (n3:b9≠b10) (n4:t0≠b10)
  (hhup:hup=((x.e (1-k)).what == 3)) (hO : ∀ q,(x.e k).ring=some q->jaz g (two r0 r1 k) bo q x.cap) (hR:(x.e k).writes=true -> ∃ q bt,(x.e (1-k)).ring=some q/\jaz g (two r0 r1 (1-k)) bt q x.cap/\two r0 r1 (1-k)≠b10/\bt≠b10) :
  Run (cl (d-1)) fuel c33_1 [] [(4,.p b4 0),(5,.p b5 0),(6,.p t0 0),(8,.p b8 0),(9,.p b9 0),(10,.p b10 0)] g
   (Fin c33.res fun v' h'=>v' = .agg [.bool true,.bool (x.rIn k),.bool (x.rOut k),.bool ((x.e (1-k)).what == 3),.bool x.reset,.int .u64 (x.e k).inn,.int .u64 (x.e k).out]/\Ch (fun j=>j=b4\/j=b10) g h'):=by
 refine Run.seq (Run.cut (fun y e' g'=>y = .normal/\e'=[(4,.p b4 0),(6,.p t0 0),(8,.p b8 0),(9,.p b9 0),(10,.p b10 0)] /\
  Upd b10 (.cells [.bool true,.bool (x.rIn k),.bool false,.bool hup,.bool x.reset,.int .u64 (x.e k).inn,.int .u64 (x.e k).out] false) g g') ?_ ?_)
 case refine_2=>
  rintro _ _ g' ⟨rfl,rfl,u⟩
  refine End.seq ?_
  have:=wr_out hcl (d:=d) (cap:=x.cap) (wl:=x.cells r0 r1 wv) hd (by rw [u.get _ n1,g4]) (by rw [u.get _ n2,g8]) (by rw [u.get _ n3,g9]) u.self (by rw [u.get _ n4,gx];rfl) (Wi.reset_cell rfl) n1 n2 n3 n4 fun hw=>by
   obtain ⟨q,bt,q1,q2,n6,n7⟩:=hR hw
   exact ⟨q,bt,q1,q2.keep (u.get _ n6) (u.get _ n7)⟩
  refine Run.fin_mono this fun v h' ⟨p1,p2⟩=>⟨?_,(u.ch (.inr rfl)).trans p2⟩
  rw [p1,hhup];rfl
 have hsil:=jiT hcl (d:=d-1) om gx hk
 have hx14:=Wi.reset_cell (x:=x) (r0:=r0) (r1:=r1) (wv:=wv) (o:=0+14) rfl
 unfold Wi.obj at gx
 have hrin:x.rIn k=match (x.e k).ring with
  | none=>false
  | some q=>!q.isEmpty||x.silent k||x.reset:=by
  unfold Wi.rIn Wi.silent
  cases (x.e k).ring with
  | none=>rfl
  | some q=>simp [Bool.or_assoc]
 rw [hrin]
 clear hrin hR
 cases hring:(x.e k).ring with
 | none=>
  have c8:((x.e k).cells (two r0 r1 k))[0+2]?=some (.ptr none):=by simp [En.cells,hring,En.ptr]
  refine qm1 ?_
  exact End.nil ⟨rfl,rfl,Upd.set⟩
 | some q=>
  have c8:((x.e k).cells (two r0 r1 k))[0+2]?=some (.p (two r0 r1 k) 0):=by simp [En.cells,hring,En.ptr]
  obtain ⟨buf,frm,inn,out,C,V⟩:=hO q hring
  have hlen:=jhJ hcl (d:=d-1) om C
  clear C V hO
  cases q with
  | cons y q=>
   have hpos:0<(((y :: q:List UInt8).length:Nat):Int):=by simp
   have eT:decide (0<(((y :: q:List UInt8).length:Nat):Int))=true:=decide_eq_true hpos
   refine qm1 ?_
   exact End.nil ⟨rfl,rfl,Upd.set⟩
  | nil=>
   have hlen:cl (d-1) (.fn F.jfk) [.p (two r0 r1 k) 0] g=some (.i 0,g):=hlen
   cases hsl:x.silent k
   ·rw [hsl] at hsil
    cases hrs:x.reset
    ·rw [hrs] at hx14 g10
     refine qm1 ?_
     exact End.nil ⟨rfl,rfl,Upd.set⟩
    ·rw [hrs] at hx14 g10
     refine qm1 ?_
     exact End.nil ⟨rfl,rfl,Upd.set⟩
   ·rw [hsl] at hsil
    refine qm1 ?_
    exact End.nil ⟨rfl,rfl,Upd.set⟩
end
theorem Wi.en_cells {x:Wi} {r0 r1 k o:Nat} {wv:V} (hk:k=0\/k=1) (ho:o=k*7):((x.cells r0 r1 wv).drop o).take 7=(x.e k).cells (two r0 r1 k):=by
 subst ho
 rcases hk with rfl | rfl<;>rfl
theorem En.cells_one (x:En) (r:Nat):(x.cells r).all V.one=true:=by
 obtain ⟨w,f,q,wr,s,i,o⟩:=x
 cases q<;>rfl
theorem jcL {e:Env} {h:H} {d n:Nat} {a:Opd} {g:Option (Nat × Bool)} {r:List (Nat × I × Option (Nat × Bool))} {b o:Nat} {l:List V} {ro:Bool} {v:List V} (ha:a.ev e=some (.ptr (some (b,o)))) (hb:h.get b=some (.cells l ro)) (hn:o+n<=l.length)
  (hv:(l.drop o).take n=v) (hd:e.get d=some (.agg v)) (k:jaA e h r=true):jaA e h ((d,.loadN n a,g) :: r)=true:=by
 simp only [jaA,I.read,ha,jce hb hn,hv,hd,V.same_refl,k,Bool.and_true]
 cases wanted e g<;>rfl
section
variable {cl:Nat->Call} (hcl:Sem cl)
include hcl
end
section
variable {cl:Nat->Call} (hcl:Sem cl) {h0:H} {w s:Nat} {ow:Nat->Nat} {ws:Ws} {now:Int} {tb:Tb} {no:Option (Nat × Nat)}
include hcl
theorem jie {d:Nat} {fd:Int} (hd:4<=d) (a:WSt h0 w s ow ws now tb no) (o:WsOk ws) :
  ∃ h',cl d (.fn F.jdt) [.p w 0,.i fd] h0=some (.agg (jeB ws fd),h')/\Old h0 h':=by
 obtain ⟨l,a,rfl⟩:=a
 have oA:Old h0 (h0.new jdO):=(Old.refl _).new
 have gA0:(h0.new jdO).get h0.nx=some jdO:=jad _
 have nA:(h0.new jdO).nx=h0.nx+1:=rfl
 refine jai (at_ hcl om rfl rfl rfl ?_)
 refine qo1 ?_
 refine Ops.make (ob:=jdO) rfl rfl ?_
 generalize h0.new jdO=hA at oA gA0 nA ⊢
 rcases jdg hcl (d:=d-1) (fd:=fd) om (a.old oA) o.uniq with ⟨hno,h1,e1,o1,x1⟩ | ⟨n,k,m,t,rfl,hm,hat,ht,hk,h1,e1,o1,x1⟩
 ·have hS:jeB (wxs l) fd=jk9:=jaB hno
  rw [hS]
  have g1:h1.get h0.nx=some jdO:=by rw [o1.2 _ om,gA0]
  refine qm1 ?_
  refine jaM rfl (jab _) rfl ⟨rfl,?_⟩
  exact ((oA.trans o1).new.set om).set (zq _)
 have hS:jeB (wxs l) (m:Int)=_:=ja7 o.uniq hat (jaj ht)
 have hS:jeB (wxs l) (m:Int)=t.x.ready k:=hS
 rw [hS]
 have WI:=o.ok _ (zc (jaj ht))
 have X:=a.wf.ok n t ht
 have hk':1-k=0\/1-k=1:=by omega
 let h2:=(h1.new (.cells [.bool false,.i 0,.i 0] false)).set h1.nx (.cells [.bool true,.i (n:Int),.i (k:Int)] false)
 have n2:h2.nx=h0.nx+3:=by show h1.nx+1=_;omega
 have g2 : ∀ j,j<h0.nx->h2.get j=h0.get j:=fun j hj=>by
  show (H.set _ _ _).get j=_
  rw [jaa om,jac om,o1.2 j om,oA.2 j hj]
 have g20:h2.get h0.nx=some jdO:=by
  show (H.set _ _ _).get _=_
  rw [jaa om,jac om,o1.2 _ om];exact gA0
 have gp:h2.get h1.nx=some (.cells [.bool true,.i (n:Int),.i (k:Int)] false):=jab _
 have y1:h1.nx=h0.nx+2:=by omega
 obtain ⟨C,hC⟩ : ∃ C,C=c33_1:=⟨_,rfl⟩
 simp only [c33_8,c33_7,c33_6,c33_5,c33_4,c33_3,yB,yC,yF]
 rw [<- hC]
 refine qo1 ?_
 refine Ops.callf rfl e1 ?_
 refine qo1 ?_
 refine Ops.make rfl rfl ?_
 refine qx1 ?_
 refine Ops.storeN rfl rfl rfl rfl (jad _) (zu rfl) ?_
 rw [show ((h1.new (.cells [.bool false,.i 0,.i 0] false)).set h1.nx (.cells (jao [.bool false,.i 0,.i 0] 0 [.bool true,.i (n:Int),.i (k:Int)]) false))=h2 from rfl]
 clear_value h2
 clear e1 o1 gA0 nA oA
 have hx:=X.hx
 have lx:=X.lx
 have hx2:h2.get t.wb=some (.cells (t.x.cells t.r0 t.r1 t.wv) false):=by rw [g2 _ lx];exact hx
 have ek:((1:Int)-(k:Int)).toNat=1-k:=by omega
 have hcl17:=Wi.cells_length t.x t.r0 t.r1 t.wv
 rw [y1] at gp ⊢
 refine qx1 ?_
 refine Run.region ?_
 rw [n2]
 refine qx1 ?_
 refine Ops.loadN rfl hx2 om ?_
 rw [Wi.en_cells hk om]
 refine qx1 ?_
 refine Ops.loadN rfl hx2 om ?_
 rw [Wi.en_cells (k:=1-k) hk' om]
 refine Ops.make_at rfl rfl ?_
 refine Ops.make_at rfl rfl ?_
 refine Ops.storeN_chk rfl rfl rfl (En.cells_one _ _) (by rw [jaa om];exact jab _) (zu rfl) ?_ ?_
 ·refine jau rfl (l:=[.bool true,.i (n:Int),.i (k:Int)]) (ro:=false) (by rw [jaa om,jaa om,jaa om];exact gp) rfl rfl (jcL rfl (l:=t.x.cells t.r0 t.r1 t.wv) (ro:=false) (by rw [jaa om,jaa om,jaa om];exact hx2) om (Wi.en_cells (k:=1-k) hk' om) rfl ja2)
 refine Ops.storeN rfl rfl rfl (En.cells_one _ _) (by rw [jaa om];exact jab _) (zu rfl) ?_
 have ow7 : ∀ (e:En) (r:Nat),jao [V.i 0,V.i 0,V.ptr none,V.bool false,V.bool false,V.int IntKind.u64 0,V.int IntKind.u64 0] 0 (e.cells r)=e.cells r:=fun e r=>jak _ _ rfl
 rw [ow7,ow7]
 generalize hh:H.set (H.set (H.set (H.set _ _ _) _ _) _ _) _ _=h3
 have z3:h3.nx=h0.nx+5:=by rw [<- hh];show h2.nx+2=_;omega
 have zo:h3.get (h0.nx+3)=some (.cells ((t.x.e k).cells (two t.r0 t.r1 k)) false):=by
  rw [<- hh,jaa om];exact jab _
 have zt:h3.get (h0.nx+3+1)=some (.cells ((t.x.e (1-k)).cells (two t.r0 t.r1 (1-k))) false):=by
  rw [<- hh];exact jab _
 have g3 : ∀ j,j<h0.nx+3->h3.get j=h2.get j:=fun j hj=>by
  rw [<- hh,jaa om,jaa om,jaa om,jaa om];rfl
 have hx3:h3.get t.wb=some (.cells (t.x.cells t.r0 t.r1 t.wv) false):=by rw [g3 _ om,hx2]
 have z0:h3.get h0.nx=some jdO:=by rw [g3 _ om,g20]
 have gp3:h3.get (h0.nx+2)=some (.cells [.bool true,.i (n:Int),.i (k:Int)] false):=by rw [g3 _ om,gp]
 have kk : ∀ j,j<h0.nx->h3.get j=h0.get j:=fun j hj=>by rw [g3 _ om,g2 _ hj]
 clear hh g3 gp hx2 g20 g2 n2
 have zo:h3.get (h0.nx+3+0)=some (.cells ((t.x.e k).cells (two t.r0 t.r1 k)) false):=zo
 have i5:((t.x.e k).cells (two t.r0 t.r1 k))[0+5]?=some (.int .u64 (t.x.e k).inn):=rfl
 have i6:((t.x.e k).cells (two t.r0 t.r1 k))[0+6]?=some (.int .u64 (t.x.e k).out):=rfl
 have f15:=Wi.backlog_cell (x:=t.x) (r0:=t.r0) (r1:=t.r1) (wv:=t.wv) (o:=0+15) rfl
 have f14:=Wi.reset_cell (x:=t.x) (r0:=t.r0) (r1:=t.r1) (wv:=t.wv) (o:=0+14) rfl
 obtain ⟨av,cp,hva,_⟩:=X.wait.1
 have f16:(t.x.cells t.r0 t.r1 t.wv)[0+16]?=some (.slice av t.x.waiting.length cp):=by simp [Wi.cells,En.cells,hva]
 have o3:Old h0 h3:=⟨by omega,kk⟩
 by_cases hbl:0<t.x.backlog
 ·have hR:t.x.ready k=[.bool true,.bool (!t.x.waiting.isEmpty),.bool false,.bool false,.bool false,.int .u64 (t.x.e k).inn,.int .u64 (t.x.e k).out]:=if_pos hbl
  rw [hR]
  have ew:decide (0<((t.x.waiting.length:Nat):Int)) = !t.x.waiting.isEmpty:=by cases t.x.waiting<;>simp
  clear hC hcl17 ek hk' y1
  refine qm1 ?_
  rw [ew]
  refine jaM rfl (jab _) rfl ⟨rfl,?_⟩
  exact (((o3.new.set om).set om).set om)
 ·have hR:t.x.ready k=[.bool true,.bool (t.x.rIn k),.bool (t.x.rOut k),.bool ((t.x.e (1-k)).what == 3),.bool t.x.reset,.int .u64 (t.x.e k).inn,.int .u64 (t.x.e k).out]:=if_neg hbl
  rw [hR]
  have j0:((t.x.e (1-k)).cells (two t.r0 t.r1 (1-k)))[0+0]?=some (.i (t.x.e (1-k)).what):=rfl
  refine qm1 ?_
  refine Ops.store1_chk rfl rfl rfl (by first | exact jab _ | (rw [jab])) (zu rfl) ?_ ?_
  ·exact jau rfl (l:=t.x.cells t.r0 t.r1 t.wv) (ro:=false) (by rw [jaa om,jaa om,jac om];exact hx3) f14 rfl ja2
  refine qs1 ?_
  generalize hh:H.set (H.set (H.set _ _ _) _ _) _ _=h5
  have y5:h5.nx=h3.nx+1:=by rw [<- hh];rfl
  have g5 : ∀ j,j<h3.nx->h5.get j=h3.get j:=fun j hj=>by
   rw [<- hh,jaa om,jaa om,jaa om,jac hj]
  have ehup:decide ((t.x.e (1-k)).what=3)=((t.x.e (1-k)).what == 3):=rfl
  have z5:h5.get h3.nx=some (.cells [.bool true,.bool false,.bool false,.bool ((t.x.e (1-k)).what == 3),.bool t.x.reset,.int .u64 (t.x.e k).inn,.int .u64 (t.x.e k).out] false):=by
   rw [<- hh,jab,<- ehup];rfl
  clear hh
  have o5:Old h0 h5:=o3.trans ⟨by omega,g5⟩
  have lr : ∀ i,i=0\/i=1 -> ∀ q,(t.x.e i).ring=some q->jaz h5 (t.r i) (t.b i) q t.x.cap/\t.r i<h0.nx/\t.b i<h0.nx:=fun i hi q hq=>by
   obtain ⟨p1,_,_,p4,p5⟩:=X.ring i hi q hq
   exact ⟨p1.keep (o5.2 _ p4) (o5.2 _ p5),p4,p5⟩
  have q4:h5.get h0.nx=some jdO:=by rw [g5 _ om,z0]
  have q5:h5.get (h0.nx+2)=some (.cells [.bool true,.i (n:Int),.i (k:Int)] false):=by rw [g5 _ om,gp3]
  have q8:h5.get (h0.nx+3+0)=some (.cells ((t.x.e k).cells (two t.r0 t.r1 k)) false):=by rw [g5 _ om,zo]
  have q9:h5.get (h0.nx+3+1)=some (.cells ((t.x.e (1-k)).cells (two t.r0 t.r1 (1-k))) false):=by rw [g5 _ om,zt]
  have qx:h5.get t.wb=some (t.x.obj t.r0 t.r1 t.wv):=by rw [g5 _ om,hx3];rfl
  have hpair:=WI.pair k hk
  rw [hC]
  refine Run.fin_mono (wr_in hcl (d:=d) (bo:=t.b k) (n:=n) (hup:=(t.x.e (1-k)).what == 3) om hk q4 q5 q8 q9 z5 qx om om om om rfl (fun q hq=>(lr k hk q hq).1) fun hwr=>?_) fun v h' ⟨p1,p2⟩=>⟨p1,?_⟩
  ·obtain ⟨q,hq⟩:=Option.ne_none_iff_exists'.1 (hpair.1 hwr)
   obtain ⟨r1,r2,r3⟩:=lr (1-k) hk' q hq
   exact ⟨q,t.b (1-k),hq,r1,by show t.r (1-k)≠_;omega,by omega⟩
  ·have hn5:=o5.1
   exact ⟨zA hn5 p2.nx,fun j hj=>by rw [p2.get j om (by rintro (e | e)<;>omega),o5.2 j hj]⟩
end
structure Rdy where
 op:Bool
 inn:Bool
 out:Bool
 hup:Bool
 err:Bool
 rd:Int
 wr:Int
def Rdy.cells (r:Rdy):List V:=[.bool r.op,.bool r.inn,.bool r.out,.bool r.hup,.bool r.err,.int .u64 r.rd,.int .u64 r.wr]
def Rdy.no:Rdy:=⟨false,false,false,false,false,0,0⟩
def Wi.rdy (x:Wi) (k:Nat):Rdy :=
 if 0<x.backlog then ⟨true,!x.waiting.isEmpty,false,false,false,(x.e k).inn,(x.e k).out⟩
 else ⟨true,x.rIn k,x.rOut k,(x.e (1-k)).what == 3,x.reset,(x.e k).inn,(x.e k).out⟩
noncomputable def rdyS (ws:Ws) (fd:Int):Rdy:=jbV ws fd Rdy.no fun _ k x=>x.rdy k
theorem jgR (ws:Ws) (fd:Int):jeB ws fd=(rdyS ws fd).cells:=by
 unfold jeB rdyS jbV
 split
 ·rfl
 ·split
  ·rfl
  ·show Wi.ready _ _=(Wi.rdy _ _).cells
   unfold Wi.ready Wi.rdy
   split<;>rfl
def jnD (ev:Int):Prop:=ev=0\/ev=1\/ev=4\/ev=5
instance (ev:Int):Decidable (jnD ev):=inferInstanceAs (Decidable (_\/_))
structure BX (h0 h:H) (p w s rw:Nat) (ow:Nat->Nat) (ro:Nat->Prop) (st:St) (i:Nat):Prop where
 b:BB h p w s rw ow ro (fun j=>j<h0.nx) st st
 so:StOk st i
 old:Old h0 h
 own : ∀ j,ow j≠0\/ro j->h0.nx<=j
 lp:h0.nx<=p
theorem old_fm {h0 h h':H} {ow ow':Nat->Nat} {ro ro':Nat->Prop} (o:Old h0 h) (f:Fm h h' ow ro ow' ro') (own : ∀ j,ow j≠0\/ro j->h0.nx<=j):Old h0 h' :=
 ⟨zA o.1 f.ch.nx,fun j hj=>by rw [f.ch.get j (zr hj o.1) fun hb=>by have:=own j hb;omega,o.2 j hj]⟩
theorem BX.fm {h0 h h':H} {p w s rw:Nat} {ow ow':Nat->Nat} {ro ro':Nat->Prop} {st st':St} {i i':Nat} (x:BX h0 h p w s rw ow ro st i) (b:BB h' p w s rw ow' ro' (fun j=>j<h0.nx) st' st') (f:Fm h h' ow ro ow' ro') (so:StOk st' i'):BX h0 h' p w s rw ow' ro' st' i':=by
 refine ⟨b,so,old_fm x.old f x.own,fun j hj=>?_,x.lp⟩
 rcases zy j h.nx with h1 | h1
 ·rw [f.tag j h1,f.rtag j h1] at hj
  exact x.own j hj
 ·exact zA x.old.1 h1
def st0:St:=⟨[],0,Tb.zero,none⟩
theorem atS_nil (fd:Int):atS [] fd=none:=je3 fun n k=>by rintro ⟨x,h,_⟩;simp at h
theorem st0_ok:StOk st0 0 where
 K:=⟨⟨fun n k n' k' fd h=>(by obtain ⟨x,hx,_⟩:=h;simp [st0] at hx),fun x hx=>(by simp [st0] at hx),by simp [st0],fun x hx=>(by simp [st0] at hx)⟩,fun i j x y p q m hx=>by simp [st0] at hx⟩
 nt := .inl rfl
 now:=⟨Int.le_refl _,by show (0:Int)<=_;omega⟩
 tb:=fun k=>⟨Int.le_refl _,Int.le_refl _⟩
theorem Ops.build {call:Call} {fuel base:Nat} {K:List Fr} {e:Env} {h:H} {Q:Post} {ix:Nat} {dst:Option Nat} {ops:List Ins} {keep:List Nat} {at_:Option Nat} {zero l:List V} {parts:List (Nat × Nat × Opd)} {ps:List (Nat × Nat × V)}
  (he:jb0 e parts=some ps) (hf:jaV zero ps=some l) (k:Ops call fuel base ops keep K (layv e dst (.agg l)) h Q):Ops call fuel base (⟨ix,dst,.build zero parts,none,at_,[]⟩ :: ops) keep K e h Q :=
 Ops.pure rfl (by simp only [I.pure,he,hf]) k
section
variable {cl:Nat->Call} (hcl:Sem cl)
include hcl
def wc0 (s:Nat):List V:=(List.replicate 96 ([.bool false,.i 0,.i 0]:List V)).flatten++[.nils,.p s 0,.int .u64 0,.bool false,.i 0,.i 0]
def rc0:List V := .nils :: tail 0 (fun _=>false) (fun _=>0) (-1) 0
omit hcl in
theorem wc0_eq (s:Nat):wc0 s=wc (fun i=>atS [] (i:Int)) .nils s 0 none:=by
 have e:(fun i:Nat=>atS [] (i:Int))=fun _=>none:=by funext i;exact atS_nil _
 rw [e]
 have:(List.replicate 96 ([.bool false,.i 0,.i 0]:List V)).flatten=jdn fun _=>none:=by
  kernel_rfl
 unfold wc0 wc
 rw [this]
 rfl
omit hcl in
theorem fillW (s:Nat):jaV ((List.replicate 96 ([.bool false,.i 0,.i 0]:List V)).flatten++[.nils,.ptr none,.int .u64 0,.bool false,.i 0,.i 0]) [(289,1,.p s 0)]=some (wc0 s):=by kernel_rfl
omit hcl in
theorem fillR:jaV ([.nils,.int .u64 0]++List.replicate 32 (.bool false:V)++List.replicate 34 (.i 0:V)) [(66,1,.i (-1))]=some rc0:=by kernel_rfl
set_option maxRecDepth 100000 in
theorem nw_world {d:Nat} (hd:2<=d) (h:H):cl d (.fn F.world_New) [] h=some (.p (h.nx+1) 0,(h.new Tb.zero.obj).new (.cells (wc0 h.nx) false)):=by
 have hs:=sp_new hcl (d:=d-1) om h
 refine jam (at_ hcl om rfl rfl rfl ?_)
 refine Run.seq (Run.region0 (Ops.mv rfl (Ops.nil qkp (End.seq (Run.seq (Run.region0 (Ops.callf rfl hs (Ops.build rfl (fillW h.nx) (Ops.make rfl rfl ?_)))))))))
 refine qo1 ?_
 exact ⟨rfl,rfl⟩
set_option maxRecDepth 100000 in
theorem nw_ref {d:Nat} (hd:1<=d) (h:H):cl d (.fn F.jeM) [] h=some (.p h.nx 0,h.new (.cells rc0 false)):=by
 refine jam (at_ hcl om rfl rfl rfl ?_)
 refine Run.seq (Run.region0 (Ops.mv rfl (Ops.nil qkp (End.seq (Run.seq (Run.region0 (Ops.build rfl fillR (Ops.make rfl rfl ?_))))))))
 refine qo1 ?_
 exact ⟨rfl,rfl⟩
theorem nw_fresh {d:Nat} (hd:3<=d) (h:H) (hf : ∀ j,h.nx<=j->h.get j=none) : ∃ p w s rw ow ro h',cl d (.fn F.jea) [] h=some (.p p 0,h')/\BX h h' p w s rw ow ro st0 0:=by
 have e1:=nw_world hcl (d:=d-1) om h
 have e2:=nw_ref hcl (d:=d-1) om ((h.new Tb.zero.obj).new (.cells (wc0 h.nx) false))
 have x1:((h.new Tb.zero.obj).new (.cells (wc0 h.nx) false)).nx=h.nx+2:=rfl
 rw [x1] at e2
 have o4:Old h ((((h.new Tb.zero.obj).new (.cells (wc0 h.nx) false)).new (.cells rc0 false)).new (.cells [.p (h.nx+1) 0,.p (h.nx+2) 0] false)):=(Old.refl h).new.new.new.new
 refine ⟨h.nx+3,h.nx+1,h.nx,h.nx+2,fun j=>if j=h.nx then 3 else if j=h.nx+1 then 1 else 0,fun j=>j=h.nx+2,(((h.new Tb.zero.obj).new (.cells (wc0 h.nx) false)).new (.cells rc0 false)).new (.cells [.p (h.nx+1) 0,.p (h.nx+2) 0] false),jam (at_ hcl om rfl rfl rfl ?_),⟨⟨?_,?_,?_,?_,?_,?_,?_⟩,st0_ok,o4,?_,?_⟩⟩
 ·refine qm1 ?_
  exact ⟨rfl,rfl⟩
 ·refine ⟨[],⟨⟨⟨.nils,?_,Row.nil _ _ _,fun z hz=>by cases hz⟩,?_,?_,?_,?_,?_,fun j hj=>?_,fun n t ht=>by simp at ht⟩,fun n k fd hat=>?_⟩,rfl⟩
  ·have e:=wc0_eq h.nx
   show _=some (Obj.cells (wc (fun i=>atS [] (i:Int)) .nils h.nx 0 none) false)
   rw [<- e]
   exact qgt
  ·exact qgt
  ·show (if h.nx+1=h.nx then 3 else if h.nx+1=h.nx+1 then 1 else 0)=1
   rw [if_neg om,if_pos rfl]
  ·show (if h.nx=h.nx then 3 else if h.nx=h.nx+1 then 1 else 0)=3
   rw [if_pos rfl]
  ·simp<;>omega
  ·simp<;>omega
  ·have hj:h.nx+4<=j:=hj
   show (if j=h.nx then 3 else if j=h.nx+1 then 1 else 0)=0
   rw [if_neg om,if_neg om]
  ·obtain ⟨x,hx,_⟩:=hat;simp at hx
 ·refine ⟨[],⟨⟨h.nx+3,fun e=>absurd rfl e,fun g gn gk=>⟨?_,?_,by omega,fun e=>absurd rfl e,fun _=>?_,fun r hr=>by cases hr⟩⟩,fun j hj=>?_,rfl,fun j hj hd=>?_⟩,rfl⟩
  ·rw [gn];simp
  ·rw [gn];simp
  ·rw [gk (h.nx+2) Zd (.inl rfl)]
   show _=some (Obj.cells rc0 false)
   exact qgt
  ·rcases hj with rfl | hj
   ·simp
   ·simp<;>omega
  ·have hj:j=h.nx+2:=hj
   have hd:j<h.nx:=hd
   omega
 ·exact qgt
 ·simp
 ·intro j hj
  have hj:j=h.nx+2\/j<h.nx:=hj
  show (if j=h.nx then 3 else if j=h.nx+1 then 1 else 0)=0
  rw [if_neg om,if_neg om]
 ·show (if h.nx+3=h.nx then 3 else if h.nx+3=h.nx+1 then 1 else 0)=0
  rw [if_neg om,if_neg om]
 ·intro hj
  have hj:h.nx+3=h.nx+2\/h.nx+3<h.nx:=hj
  omega
 ·intro j hj
  rcases hj with hj | hj
  ·have hj:(if j=h.nx then 3 else if j=h.nx+1 then 1 else 0)≠0:=hj
   by_cases h1:j=h.nx
   ·omega
   ·rw [if_neg h1] at hj
    by_cases h2:j=h.nx+1
    ·omega
    ·rw [if_neg h2] at hj;exact absurd rfl hj
  ·have hj:j=h.nx+2:=hj
   omega
 ·omega
end
def jfz (n:Int):UInt8:=UInt8.ofNat n.toNat
theorem byteI_V {n:Int} (h1:0<=n) (h2:n<=255):jc3 (jfz n) = .int .u8 n:=by
 have:n.toNat<256:=by omega
 simp only [jc3,jfz,UInt8.toNat_ofNat',Nat.mod_eq_of_lt this]
 congr 1;omega
theorem jjo {h:H} : ∀ {l:List Int} {cs:List V},jb8 (jdN .u8) h l cs->cs=bts (l.map jfz)
 | [],_,e=>e
 | x :: l,_,⟨u,w,e,h1,h2⟩=>by
  obtain ⟨rfl,h3⟩:=h1
  rw [e,jjo h2,<- byteI_V h3.1 h3.2];rfl
theorem jiM {h:H} {l:List Int} {u:V} {B:Nat} (r:jda B (jdN .u8) h l [u]) : ∃ a c,u = .slice a l.length (.fix c)/\(l.length<=B->BytesAt h a (.fix c) (l.map jfz)):=by
 obtain ⟨a,c,e,h1,h2,h3⟩:=r
 cases e
 refine ⟨a,c,rfl,fun hB=>⟨fun e=>?_,by show (l.map jfz).length<=c;simpa using h2,fun hn=>?_⟩⟩
 ·obtain ⟨rfl,rfl⟩:=h3 e;exact ⟨rfl,rfl⟩
 ·obtain ⟨b,cs,q1,q2,q3,q4⟩:=h1 hB (by rintro rfl;exact hn rfl)
  refine ⟨b,0,cs,true,q1,q2,q3,fun i x hi=>?_⟩
  rw [jjo q4,Nat.zero_add];exact jiO hi
theorem BytesAt.keep {h h':H} {a:Option (Nat × Nat)} {c:Cap} {l:List UInt8} (t:BytesAt h a c l) (hx:h.nx<=h'.nx) (hk : ∀ j o,j<h.nx->h.get j=some o->h'.get j=some o):BytesAt h' a c l :=
 ⟨t.none_,t.fits,fun hn=>by
  obtain ⟨b,o,cs,ro,q1,q2,q3,q4⟩:=t.at_ hn
  exact ⟨b,o,cs,ro,q1,by omega,hk _ _ q2 q3,q4⟩⟩
theorem BytesAt.lt {h:H} {a:Option (Nat × Nat)} {c:Cap} {l:List UInt8} (t:BytesAt h a c l) {N:Nat} (hN:h.nx<=N) {z o:Nat} (ha:a=some (z,o)) (hl:l≠[]):z<N:=by
 obtain ⟨b,o',cs,ro,q1,q2,_⟩:=t.at_ hl
 rw [q1] at ha;cases ha;omega
structure OpX where
 k:Int
 a:Int
 n:Int
 t:Int
 dv:V
 D:List UInt8
abbrev OpX.V (x:OpX):List V:=opV x.k x.a x.n x.t x.dv
structure OpOk (h:H) (x:OpX):Prop where
 dv : ∃ a c,x.dv = .slice a x.D.length c/\(x.D.length<=300->BytesAt h a c x.D)
 t0:0<=x.t
 t1:x.t<=18446744073709551615
theorem OpOk.keep {h h':H} {x:OpX} (o:OpOk h x) (hx:h.nx<=h'.nx) (hk : ∀ j o,j<h.nx->h.get j=some o->h'.get j=some o):OpOk h' x:=by
 obtain ⟨⟨a,c,e,g⟩,t0,t1⟩:=o
 exact ⟨⟨a,c,e,fun hl=>(g hl).keep hx hk⟩,t0,t1⟩
theorem OpOk.dat {h:H} {x:OpX} (o:OpOk h x) (hl:x.D.length<=300):Dat h (fun j=>j<h.nx) x.dv x.D:=by
 obtain ⟨⟨a,c,e,g⟩,_,_⟩:=o
 refine ⟨⟨a,c,e,g hl⟩,fun hn z hz=>?_,hl⟩
 obtain ⟨b,o,cs,ro,q1,q2,_⟩:=(g hl).at_ hn
 rw [e,q1] at hz
 cases hz;exact q2
def jms (h:H) (lv:V) (L:List OpX):Prop := ∃ ad c,lv = .slice ad L.length c/\(L.length<=200->(∀ x∈L,OpOk h x)/\(L≠[] -> ∃ b cs ro,ad=some (b,0)/\b<h.nx/\h.get b=some (.cells cs ro)/\cs.length=L.length*5 /\ ∀ (i:Nat) (x:OpX),L[i]?=some x->(cs.drop (i*5)).take 5=x.V))
theorem jms.keep {h h':H} {lv:V} {L:List OpX} (o:jms h lv L) (hx:h.nx<=h'.nx) (hk : ∀ j o,j<h.nx->h.get j=some o->h'.get j=some o):jms h' lv L:=by
 obtain ⟨ad,c,e,g⟩:=o
 refine ⟨ad,c,e,fun hl=>⟨fun x hx'=>((g hl).1 x hx').keep hx hk,fun hn=>?_⟩⟩
 obtain ⟨b,cs,ro,q1,q2,q3,q4⟩:=(g hl).2 hn
 exact ⟨b,cs,ro,q1,by omega,hk _ _ q2 q3,q4⟩
def fewL (L:List OpX):Prop:=L.length<=200 /\ ∀ x∈L,x.D.length<=300
theorem jmy {α : Type} {l:List α} {i:Nat} (h:i<l.length) : ∃ x,l[i]?=some x:=⟨_,za h⟩
section
variable {cl:Nat->Call} (hcl:Sem cl)
include hcl
theorem gr_ok {d:Nat} {h:H} {lv:V} {L:List OpX} (hd:1<=d) (hL:jms h lv L) :
  ∃ v,cl d (.fn F.jcy) [lv] h=some (v,h)/\(v = .i 1\/(v = .i 0/\fewL L)):=by
 obtain ⟨ad,c,rfl,hin⟩:=hL
 suffices ∃ v h',cl d (.fn F.jcy) [.slice ad L.length c] h=some (v,h')/\(h'=h/\(v = .i 1\/(v = .i 0/\fewL L))) by
  obtain ⟨v,h',q1,rfl,q3⟩:=this
  exact ⟨v,q1,q3⟩
 refine at_ hcl om rfl rfl rfl ?_
 by_cases h1:200<(L.length:Int)
 ·refine qx1 ?_
  exact ⟨rfl,.inl rfl⟩
 obtain ⟨hok,hel⟩:=hin om
 refine qx1 ?_
 refine Run.loop (fun m e h'=>∃ i:Nat,m=L.length-i/\i<=L.length/\e=[(0,.slice ad L.length c),(8,.i (L.length:Int)),(9,.i (i:Int))]/\h'=h /\ ∀ j x,j<i->L[j]?=some x->x.D.length<=300) (k:=L.length) Ze ⟨0,rfl,by omega,rfl,rfl,fun j x hj=>by omega⟩ ?_
 rintro _ _ _ ⟨i,rfl,hi,rfl,rfl,hj⟩ n' ih
 by_cases hlt:(i:Int)<L.length
 case neg=>
  have hf:fewL L:=⟨by omega,fun x hx=>by
   obtain ⟨j,hjl,e⟩:=List.getElem_of_mem hx
   exact hj j x om (by rw [za hjl,e])⟩
  clear ih hel hok hj
  refine qx1 ?_
  exact ⟨rfl,.inr ⟨rfl,hf⟩⟩
 obtain ⟨x,hx⟩:=jmy (l:=L) (i:=i) om
 obtain ⟨b,cs,ro,rfl,_,hb,hcl',hc⟩:=hel (by rintro rfl;simp at hx)
 obtain ⟨⟨da,dc,edv,_⟩,_,_⟩:=hok x (zc hx)
 have h5:=hc i x hx
 have hc':cs[0+(i:Int).toNat*5+4]?=some (.slice da x.D.length dc):=by
  have:((cs.drop (i*5)).take 5)[4]?=some x.dv:=by rw [h5];rfl
  rw [List.getElem?_take,if_pos om,zm] at this
  rw [show 0+(i:Int).toNat*5+4=i*5+4 by omega,this,edv]
 clear hel hok hc h5
 by_cases hd3:300<(x.D.length:Int)
 ·clear ih hj
  refine qx1 ?_
  exact ⟨rfl,.inl rfl⟩
 ·have hi1:(i:Int)+1=((i+1:Nat):Int):=by omega
  refine qx1 ?_
  rw [hi1]
  refine ih (L.length-(i+1)) om _ _ ⟨i+1,rfl,by omega,rfl,rfl,fun j y hj' hy=>?_⟩
  by_cases e:j=i
  ·subst e
   rw [hx] at hy;cases hy
   omega
  ·exact hj j y om hy
theorem bx_do {d i p w s rw:Nat} {h0 h:H} {ow:Nat->Nat} {ro:Nat->Prop} {st:St} {x:OpX} (hd:16<=d) (b:BX h0 h p w s rw ow ro st i) (hi:i<=200) (hx:OpOk h0 x) (hl:x.D.length<=300) :
  ∃ h' ow' ro',cl d (.fn F.jb4) [.p p 0,.agg x.V] h=some (.bool true,h')/\BX h0 h' p w s rw ow' ro' (doS x.k x.a x.n x.t x.D st) (i+1)/\Fm h h' ow ro ow' ro':=by
 have hD:Dat h (fun j=>j<h0.nx) x.dv x.D:=by
  have:=hx.dat hl
  exact ⟨this.v.keep2 b.old.1 fun hn z hz=>b.old.2 z (this.z hn z hz),this.z,hl⟩
 obtain ⟨h',ow',ro',e,b',f⟩:=do_ok hcl (k:=x.k) (a:=x.a) (n:=x.n) (t:=x.t) hd b.b b.so hi hD hx.t0 hx.t1
 exact ⟨h',ow',ro',e,b.fm b' f (doS_ok b.so hx.t0 hx.t1),f⟩
theorem bx_ready {d i p w s rw:Nat} {h0 h:H} {ow:Nat->Nat} {ro:Nat->Prop} {st:St} {fd:Int} (hd:3<=d) (b:BX h0 h p w s rw ow ro st i) :
  ∃ h' ro',cl d (.fn F.jaC) [.p rw 0,.i fd] h=some (.agg (rdyS st.ws fd).cells,h')/\BX h0 h' p w s rw ow ro' st i/\Fm h h' ow ro ow ro' /\ ∀ j o,j<h.nx->h.get j=some o->h'.get j=some o:=by
 obtain ⟨v,h',e,b',f,cr,rfl,hk⟩:=b.b.rcc hcl (d:=d) (f:=F.jaC) (args:=[.p rw 0,.i fd]) (r':=st)
  (P:=fun g v=>v = .agg (rdyS st.ws fd).cells/\(h.nx<=g.nx /\ ∀ j o,j<h.nx->ro j\/j<h0.nx->h.get j=some o->g.get j=some o))
  (fun g g' v m hp=>⟨hp.1,by rw [m.nx];exact hp.2.1,fun j o hj ho hg=>m.get j o (zr hj hp.2.1) (hp.2.2 j o hj ho hg)⟩) (fun g q l ga gn hq wR hl=>by
  have oR:WsOk (l.map RX.x):=by rw [hl];exact b.so.K.ok
  obtain ⟨g',k1,k2⟩:=jlf hcl (d:=d) (fd:=fd) hd wR oR
  rw [hl,jgR] at k1
  have ok2:=Old.ofCh k2
  exact ⟨_,q,l,g',k1,wR.old ok2,hl,k2.weaken (fun _ _ h=>h.elim),.inl rfl,rfl,by rw [<- gn];exact ok2.1,fun j o hj ho hg=>by rw [ok2.2 j om,ga j hj ho,hg]⟩)
 refine ⟨h',_,e,b.fm b' f b.so,f,fun j o hj hg=>?_⟩
 by_cases hr:ro j\/j<h0.nx
 ·exact hk.2 j o hj hr hg
 ·rw [cr.get j hj fun e=>hr (.inl e),hg]
end
end Am.Sigs
