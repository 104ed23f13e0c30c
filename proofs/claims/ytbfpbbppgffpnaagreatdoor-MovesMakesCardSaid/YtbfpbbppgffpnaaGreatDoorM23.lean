/- Our own library, part 23. -/
import Derived.Test.YtbfpbbppgffpnaaGreatDoorM22
import Derived.Test.YtbfpbbppgffpnaaGreatDoorM18
import Derived.Test.YtbfpbbppgffpnaaGreatDoorM17
import Derived.Test.YtbfpbbppgffpnaaGreatDoorM20
import Derived.Test.YtbfpbbppgffpnaaGreatDoorM11
import Derived.Test.YtbfpbbppgffpnaaGreatDoorM21
set_option maxHeartbeats 8000000
set_option linter.all false
namespace Am.Sigs
open Am Go
section
variable {cl:Nat->Call} (hcl:Sem cl) {h:H} {p w s rw:Nat} {ow:Nat->Nat} {ro dat:Nat->Prop} {st:St} {a n t:Int} {dv vd:V} {D:List UInt8}
include hcl
theorem sw_0 {d i B:Nat} (hd:16<=d) (b:BB h p w s rw ow ro dat st st) (so:StOk st i) (hi:i<=200) (hD:Dat h dat dv D) (hC:Cpy h p ow ro dat vd D) (lB:B<h.nx) (zB:ow B=0) (rB : ¬ ro B) (gB:h.get B=some (.cells (opV 0 a n t dv) false)) :
  Run (cl (d-1)) fuel c8_27 [] [(0,.p p 0),(3,.p B 0),(5,vd),(36,.i 0)] h (PD h p w s rw ow ro dat vd (doS 0 a n t D st)):=by
 have hp0:=b.hp
 have lp:=b.lp
 have hl300:=hD.len
 have hS:doS 0 a n t D st = { st with ws:=(jaf st.ws 0 n).2 } := by simp [doS]
 rw [hS]
 obtain ⟨x,y,h1,ow1,e1,good,bad,W1,t1⟩:=ww_Pipe hcl (d:=d-1) (n:=n) om so.K b.W
 have b1:=b.wc (a' := { st with ws:=(jaf st.ws 0 n).2 }) W1 t1
 have g1:=b.off_w t1 lB zB gB
 have hp1:=b1.hp
 obtain ⟨v,h2,e2,b2,f2,v2,rfl,hv2⟩:=b1.rc hcl (d:=d-1) (f:=F.jat) (args:=[.p rw 0,.i 0,.i n]) (r' := { st with ws:=(jaf st.ws 0 n).2 })
  (P:=fun g v=>∃ v2,v = .tup [v2,.i (jaf st.ws 0 n).1.2]/\VI g v2 (jaf st.ws 0 n).1.1) (fun _ _ _ m ⟨v2,e,hv⟩=>⟨v2,e,hv.mono m⟩) (fun g q l ga gn hq wR hl=>by
  have oR:WsOk (l.map RX.x):=by rw [hl];exact so.K.ok
  obtain ⟨v2,q',l',g',k1,k0,k2,k3,k4,k5⟩:=jid hcl (d:=d-1) (kind:=0) (n:=n) om om wR oR
  rw [hl] at k0 k1 k3
  exact ⟨_,q',l',g',k1,k2,k3,k4,k5,v2,rfl,k0⟩)
 have fF:=(Fm.to (ro:=ro) t1).trans f2
 have hp2:=b2.hp
 obtain ⟨xs,cs,hr2⟩:=b2.rhead
 have wl:({ st with ws:=(jaf st.ws 0 n).2 } : St).ws.length=(jaf st.ws 0 n).2.length:=rfl
 rw [wl] at hr2
 have q0:(V.slice xs (jaf st.ws 0 n).2.length cs :: ({ st with ws:=(jaf st.ws 0 n).2 } : St).tl)[0+0]?=some (V.slice xs (jaf st.ws 0 n).2.length cs):=rfl
 have o2v:=hv2.one
 have e3:cl (d-1) (.fn F.ja2) [.i x,.i y,.i (jaf st.ws 0 n).1.2,v2,.i ((jaf st.ws 0 n).2.length-1),.i (jaf st.ws 0 n).1.2] h2=some (.bool true,h2):=by
  by_cases hz:(jaf st.ws 0 n).1.2=0
  ·have gd:=good hz
   rw [gd] at hv2
   rw [hz]
   exact jng hcl om hv2
  ·obtain ⟨rfl,rfl⟩:=bad hz
   exact jmL hcl om hz
 have hlen:(jaf st.ws 0 n).2.length<=1000:=(jd4 om so.K).ok.len
 clear so hD hC hl300 hS good bad
 generalize (jaf st.ws 0 n).1.2=er at e1 e2 e3
 refine qm1 ?_
 exact PD.mk' rfl b2 fF
theorem sw_1 {d i B:Nat} (hd:16<=d) (b:BB h p w s rw ow ro dat st st) (so:StOk st i) (hi:i<=200) (hD:Dat h dat dv D) (hC:Cpy h p ow ro dat vd D) (lB:B<h.nx) (zB:ow B=0) (rB : ¬ ro B) (gB:h.get B=some (.cells (opV 1 a n t dv) false)) :
  Run (cl (d-1)) fuel c8_27 [] [(0,.p p 0),(3,.p B 0),(5,vd),(36,.i 1)] h (PD h p w s rw ow ro dat vd (doS 1 a n t D st)):=by
 have hp0:=b.hp
 have lp:=b.lp
 have hl300:=hD.len
 have hS:doS 1 a n t D st = { st with ws:=(jaf st.ws 1 n).2 } := by simp [doS]
 rw [hS]
 obtain ⟨x,y,h1,ow1,e1,good,bad,W1,t1⟩:=ww_Pair hcl (d:=d-1) (n:=n) om so.K b.W
 have b1:=b.wc (a' := { st with ws:=(jaf st.ws 1 n).2 }) W1 t1
 have g1:=b.off_w t1 lB zB gB
 have hp1:=b1.hp
 obtain ⟨v,h2,e2,b2,f2,v2,rfl,hv2⟩:=b1.rc hcl (d:=d-1) (f:=F.jat) (args:=[.p rw 0,.i 1,.i n]) (r' := { st with ws:=(jaf st.ws 1 n).2 })
  (P:=fun g v=>∃ v2,v = .tup [v2,.i (jaf st.ws 1 n).1.2]/\VI g v2 (jaf st.ws 1 n).1.1) (fun _ _ _ m ⟨v2,e,hv⟩=>⟨v2,e,hv.mono m⟩) (fun g q l ga gn hq wR hl=>by
  have oR:WsOk (l.map RX.x):=by rw [hl];exact so.K.ok
  obtain ⟨v2,q',l',g',k1,k0,k2,k3,k4,k5⟩:=jid hcl (d:=d-1) (kind:=1) (n:=n) om om wR oR
  rw [hl] at k0 k1 k3
  exact ⟨_,q',l',g',k1,k2,k3,k4,k5,v2,rfl,k0⟩)
 have fF:=(Fm.to (ro:=ro) t1).trans f2
 have hp2:=b2.hp
 obtain ⟨xs,cs,hr2⟩:=b2.rhead
 have wl:({ st with ws:=(jaf st.ws 1 n).2 } : St).ws.length=(jaf st.ws 1 n).2.length:=rfl
 rw [wl] at hr2
 have q0:(V.slice xs (jaf st.ws 1 n).2.length cs :: ({ st with ws:=(jaf st.ws 1 n).2 } : St).tl)[0+0]?=some (V.slice xs (jaf st.ws 1 n).2.length cs):=rfl
 have o2v:=hv2.one
 have e3:cl (d-1) (.fn F.ja2) [.i x,.i y,.i (jaf st.ws 1 n).1.2,v2,.i ((jaf st.ws 1 n).2.length-1),.i (jaf st.ws 1 n).1.2] h2=some (.bool true,h2):=by
  by_cases hz:(jaf st.ws 1 n).1.2=0
  ·have gd:=good hz
   rw [gd] at hv2
   rw [hz]
   exact jng hcl om hv2
  ·obtain ⟨rfl,rfl⟩:=bad hz
   exact jmL hcl om hz
 have hlen:(jaf st.ws 1 n).2.length<=1000:=(jd4 om so.K).ok.len
 clear so hD hC hl300 hS good bad
 generalize (jaf st.ws 1 n).1.2=er at e1 e2 e3
 refine qm1 ?_
 exact PD.mk' rfl b2 fF
end
section
variable {cl:Nat->Call} (hcl:Sem cl) {h:H} {p w s rw:Nat} {ow:Nat->Nat} {ro dat:Nat->Prop} {st:St} {a n t:Int} {dv vd:V} {D:List UInt8}
include hcl
theorem sw_2 {d i B:Nat} (hd:16<=d) (b:BB h p w s rw ow ro dat st st) (so:StOk st i) (hi:i<=200) (hD:Dat h dat dv D) (hC:Cpy h p ow ro dat vd D) (lB:B<h.nx) (zB:ow B=0) (rB : ¬ ro B) (gB:h.get B=some (.cells (opV 2 a n t dv) false)) :
  Run (cl (d-1)) fuel c8_27 [] [(0,.p p 0),(3,.p B 0),(5,vd),(36,.i 2)] h (PD h p w s rw ow ro dat vd (doS 2 a n t D st)):=by
 have hp0:=b.hp
 have lp:=b.lp
 have hl300:=hD.len
 have hS:doS 2 a n t D st = { st with ws:=(jaf st.ws 2 n).2 } := by simp [doS]
 rw [hS]
 obtain ⟨x,y,h1,ow1,e1,good,bad,W1,t1⟩:=ww_Outer hcl (d:=d-1) (n:=n) om so.K b.W
 have b1:=b.wc (a' := { st with ws:=(jaf st.ws 2 n).2 }) W1 t1
 have g1:=b.off_w t1 lB zB gB
 have hp1:=b1.hp
 obtain ⟨v,h2,e2,b2,f2,v2,rfl,hv2⟩:=b1.rc hcl (d:=d-1) (f:=F.jat) (args:=[.p rw 0,.i 2,.i n]) (r' := { st with ws:=(jaf st.ws 2 n).2 })
  (P:=fun g v=>∃ v2,v = .tup [v2,.i (jaf st.ws 2 n).1.2]/\VI g v2 (jaf st.ws 2 n).1.1) (fun _ _ _ m ⟨v2,e,hv⟩=>⟨v2,e,hv.mono m⟩) (fun g q l ga gn hq wR hl=>by
  have oR:WsOk (l.map RX.x):=by rw [hl];exact so.K.ok
  obtain ⟨v2,q',l',g',k1,k0,k2,k3,k4,k5⟩:=jid hcl (d:=d-1) (kind:=2) (n:=n) om om wR oR
  rw [hl] at k0 k1 k3
  exact ⟨_,q',l',g',k1,k2,k3,k4,k5,v2,rfl,k0⟩)
 have fF:=(Fm.to (ro:=ro) t1).trans f2
 have hp2:=b2.hp
 obtain ⟨xs,cs,hr2⟩:=b2.rhead
 have wl:({ st with ws:=(jaf st.ws 2 n).2 } : St).ws.length=(jaf st.ws 2 n).2.length:=rfl
 rw [wl] at hr2
 have q0:(V.slice xs (jaf st.ws 2 n).2.length cs :: ({ st with ws:=(jaf st.ws 2 n).2 } : St).tl)[0+0]?=some (V.slice xs (jaf st.ws 2 n).2.length cs):=rfl
 have o2v:=hv2.one
 have e3:cl (d-1) (.fn F.ja2) [.i x,.i y,.i (jaf st.ws 2 n).1.2,v2,.i ((jaf st.ws 2 n).2.length-1),.i (jaf st.ws 2 n).1.2] h2=some (.bool true,h2):=by
  by_cases hz:(jaf st.ws 2 n).1.2=0
  ·obtain ⟨gd,gl⟩:=good hz
   have hm:((jaf st.ws 2 n).2.length:Int)-1=(st.ws.length:Int):=by
    rcases jen (ws:=st.ws) (n:=n) (kind:=2) om with ⟨_,_,m3⟩ | ⟨m1,_⟩
    ·omega
    ·exact absurd hz m1
   rw [gd] at hv2
   rw [hz,hm,gl]
   exact jnh hcl om hv2
  ·obtain ⟨rfl,rfl⟩:=bad hz
   exact jmL hcl om hz
 have hlen:(jaf st.ws 2 n).2.length<=1000:=(jd4 om so.K).ok.len
 clear so hD hC hl300 hS good bad
 generalize (jaf st.ws 2 n).1.2=er at e1 e2 e3
 refine qm1 ?_
 exact PD.mk' rfl b2 fF
theorem sw_3 {d i B:Nat} (hd:16<=d) (b:BB h p w s rw ow ro dat st st) (so:StOk st i) (hi:i<=200) (hD:Dat h dat dv D) (hC:Cpy h p ow ro dat vd D) (lB:B<h.nx) (zB:ow B=0) (rB : ¬ ro B) (gB:h.get B=some (.cells (opV 3 a n t dv) false)) :
  Run (cl (d-1)) fuel c8_27 [] [(0,.p p 0),(3,.p B 0),(5,vd),(36,.i 3)] h (PD h p w s rw ow ro dat vd (doS 3 a n t D st)):=by
 have hp0:=b.hp
 have lp:=b.lp
 have hl300:=hD.len
 have hS:doS 3 a n t D st = { st with ws:=(jaf st.ws 3 n).2 } := by simp [doS]
 rw [hS]
 obtain ⟨x,y,h1,ow1,e1,good,bad,W1,t1⟩:=ww_Listen hcl (d:=d-1) (n:=n) om so.K b.W
 have b1:=b.wc (a' := { st with ws:=(jaf st.ws 3 n).2 }) W1 t1
 have g1:=b.off_w t1 lB zB gB
 have hp1:=b1.hp
 obtain ⟨v,h2,e2,b2,f2,v2,rfl,hv2⟩:=b1.rc hcl (d:=d-1) (f:=F.jat) (args:=[.p rw 0,.i 3,.i n]) (r' := { st with ws:=(jaf st.ws 3 n).2 })
  (P:=fun g v=>∃ v2,v = .tup [v2,.i (jaf st.ws 3 n).1.2]/\VI g v2 (jaf st.ws 3 n).1.1) (fun _ _ _ m ⟨v2,e,hv⟩=>⟨v2,e,hv.mono m⟩) (fun g q l ga gn hq wR hl=>by
  have oR:WsOk (l.map RX.x):=by rw [hl];exact so.K.ok
  obtain ⟨v2,q',l',g',k1,k0,k2,k3,k4,k5⟩:=jid hcl (d:=d-1) (kind:=3) (n:=n) om om wR oR
  rw [hl] at k0 k1 k3
  exact ⟨_,q',l',g',k1,k2,k3,k4,k5,v2,rfl,k0⟩)
 have fF:=(Fm.to (ro:=ro) t1).trans f2
 have hp2:=b2.hp
 obtain ⟨xs,cs,hr2⟩:=b2.rhead
 have wl:({ st with ws:=(jaf st.ws 3 n).2 } : St).ws.length=(jaf st.ws 3 n).2.length:=rfl
 rw [wl] at hr2
 have q0:(V.slice xs (jaf st.ws 3 n).2.length cs :: ({ st with ws:=(jaf st.ws 3 n).2 } : St).tl)[0+0]?=some (V.slice xs (jaf st.ws 3 n).2.length cs):=rfl
 have o2v:=hv2.one
 have e3:cl (d-1) (.fn F.ja2) [.i x,.i y,.i (jaf st.ws 3 n).1.2,v2,.i ((jaf st.ws 3 n).2.length-1),.i (jaf st.ws 3 n).1.2] h2=some (.bool true,h2):=by
  by_cases hz:(jaf st.ws 3 n).1.2=0
  ·obtain ⟨gd,gl⟩:=good hz
   have hm:((jaf st.ws 3 n).2.length:Int)-1=(st.ws.length:Int):=by
    rcases jen (ws:=st.ws) (n:=n) (kind:=3) om with ⟨_,_,m3⟩ | ⟨m1,_⟩
    ·omega
    ·exact absurd hz m1
   rw [gd] at hv2
   rw [hz,hm,gl]
   exact jnh hcl om hv2
  ·obtain ⟨rfl,rfl⟩:=bad hz
   exact jmL hcl om hz
 have hlen:(jaf st.ws 3 n).2.length<=1000:=(jd4 om so.K).ok.len
 clear so hD hC hl300 hS good bad
 generalize (jaf st.ws 3 n).1.2=er at e1 e2 e3
 refine qm1 ?_
 exact PD.mk' rfl b2 fF
end
section
variable {cl:Nat->Call} (hcl:Sem cl) {h:H} {p w s rw:Nat} {ow:Nat->Nat} {ro dat:Nat->Prop} {st:St} {k a n t:Int} {dv vd:V} {D:List UInt8}
include hcl
theorem sw_more {d B:Nat} {st':St} (hk:k<0\/8<k) (gB:h.get B=some (.cells (opV k a n t dv) false)) (m:jcZ cl (d-1) F.jae h p w s rw ow ro dat [.p p 0,.agg (opV k a n t dv),vd] st') :
  Run (cl (d-1)) fuel c8_27 [] [(0,.p p 0),(3,.p B 0),(5,vd),(36,.i k)] h (PD h p w s rw ow ro dat vd st'):=by
 obtain ⟨h',ow',ro',e1,b',f'⟩:=m
 have n0 : ¬ k=0:=by omega
 have n1 : ¬ k=1:=by omega
 have n2 : ¬ k=2:=by omega
 have n3 : ¬ k=3:=by omega
 have n4 : ¬ k=4:=by omega
 have n5 : ¬ k=5:=by omega
 have n6 : ¬ k=6:=by omega
 have n7 : ¬ k=7:=by omega
 have n8 : ¬ k=8:=by omega
 clear hk
 refine qm1 ?_
 exact PD.mk' rfl b' f'
theorem sw_all {d i B:Nat} (hd:16<=d) (b:BB h p w s rw ow ro dat st st) (so:StOk st i) (hi:i<=200) (hD:Dat h dat dv D) (hC:Cpy h p ow ro dat vd D) (lB:B<h.nx) (zB:ow B=0) (rB : ¬ ro B) (gB:h.get B=some (.cells (opV k a n t dv) false)) (t0:0<=t) (t1:t<=18446744073709551615) :
  Run (cl (d-1)) fuel c8_27 [] [(0,.p p 0),(3,.p B 0),(5,vd),(36,.i k)] h (PD h p w s rw ow ro dat vd (doS k a n t D st)):=by
 by_cases k0:k=0
 ·subst k0;exact sw_0 hcl hd b so hi hD hC lB zB rB gB
 by_cases k1:k=1
 ·subst k1;exact sw_1 hcl hd b so hi hD hC lB zB rB gB
 by_cases k2:k=2
 ·subst k2;exact sw_2 hcl hd b so hi hD hC lB zB rB gB
 by_cases k3:k=3
 ·subst k3;exact sw_3 hcl hd b so hi hD hC lB zB rB gB
 by_cases k4:k=4
 ·subst k4;exact sw_4 hcl hd b so hi hD hC lB zB rB gB
 by_cases k5:k=5
 ·subst k5;exact sw_5 hcl hd b so hi hD hC lB zB rB gB
 by_cases k6:k=6
 ·subst k6;exact sw_6 hcl hd b so hi hD hC lB zB rB gB
 by_cases k7:k=7
 ·subst k7;exact sw_7 hcl hd b so hi hD hC lB zB rB gB
 by_cases k8:k=8
 ·subst k8;exact sw_8 hcl hd b so hi hD hC lB zB rB gB
 refine sw_more hcl om gB ?_
 by_cases k9:k=9
 ·subst k9;exact mo_9 hcl om b so hi hD hC
 by_cases k10:k=10
 ·subst k10;exact mo_10 hcl om b so hi hD hC
 by_cases k11:k=11
 ·subst k11;exact mo_11 hcl om b so hi hD hC
 by_cases k12:k=12
 ·subst k12;exact mo_12 hcl om b so hi hD hC
 by_cases k13:k=13
 ·subst k13;exact mo_13 hcl om b so hi hD hC
 by_cases k14:k=14
 ·subst k14;exact mo_14 hcl om b so hi hD hC
 by_cases k15:k=15
 ·subst k15;exact mo_15 hcl om b so hi hD hC t0 t1
 by_cases k16:k=16
 ·subst k16;exact mo_16 hcl om b so hi hD hC
 by_cases k17:k=17
 ·subst k17;exact mo_17 hcl om b so hi hD hC
 by_cases k18:k=18
 ·subst k18;exact mo_18 hcl om b so hi
 by_cases k19:k=19
 ·subst k19;exact mo_19 hcl om b so hi hD hC
 by_cases k20:k=20
 ·subst k20;exact mo_20 hcl om b so
 exact mo_no hcl om b om
theorem do_ok {d i:Nat} (hd:16<=d) (b:BB h p w s rw ow ro dat st st) (so:StOk st i) (hi:i<=200) (hD:Dat h dat dv D) (t0:0<=t) (t1:t<=18446744073709551615) :
  ∃ h' ow' ro',cl d (.fn F.jby) [.p p 0,.agg (opV k a n t dv)] h=some (.bool true,h')/\BB h' p w s rw ow' ro' dat (doS k a n t D st) (doS k a n t D st)/\Fm h h' ow ro ow' ro':=by
 suffices q : ∃ v h',cl d (.fn F.jby) [.p p 0,.agg (opV k a n t dv)] h=some (v,h') /\ ∃ ow' ro',v = .bool true/\BB h' p w s rw ow' ro' dat (doS k a n t D st) (doS k a n t D st)/\Fm h h' ow ro ow' ro' by
  obtain ⟨_,h',e,ow',ro',rfl,q⟩:=q;exact ⟨h',ow',ro',e,q⟩
 have ol:Old h ((h.new (.cells (opV k a n t dv) false)).new (.cells [] false)):=(Old.refl h).new.new
 have hv:=(hD.keep b (Fm.old (ow:=ow) (ro:=ro) ol)).v
 have hl300:=hD.len
 refine at_ hcl om rfl rfl rfl ?_
 obtain ⟨C,hC⟩ : ∃ C,C=c8_27:=⟨_,rfl⟩
 simp only [c8,c8_29,yB,yC]
 rw [<- hC]
 refine qm1 ?_
 refine Ops.copyB rfl rfl hv om fun a' c' h3 hvd hcells ho hz=>?_
 have ho:Old ((h.new (.cells (opV k a n t dv) false)).new (.cells [] false)) h3:=ho
 have hz:a'=h.nx+1\/(h.nx+2<=a'/\a'<h3.nx):=hz
 have o3:=ol.trans ho
 have xo:((h.new (.cells (opV k a n t dv) false)).new (.cells [] false)).nx=h.nx+2:=rfl
 have x3:=ho.1
 have b3:=b.old o3
 have hD3:=hD.keep b (Fm.old (ow:=ow) (ro:=ro) o3)
 have gB:h3.get h.nx=some (.cells (opV k a n t dv) false):=by
  rw [ho.2 _ om,jad Zd,jac]
 have ha':h.nx+1<=a'/\a'<h3.nx:=by
  omega
 have lp:=b.lp
 have hC3:Cpy h3 p ow ro dat (.slice (some (a',0)) D.length c') D:=⟨hvd,fun z hz=>by
  cases hz
  refine ⟨ha'.2,b.W.top om,fun e=>?_,fun e=>?_,by omega⟩
  ·have:=b.ro_lt (.inl e);omega
  ·have:=b.ro_lt (.inr e);omega⟩
 have hsw:=sw_all hcl (d:=d) (k:=k) (a:=a) (n:=n) (t:=t) hd b3 so hi hD3 hC3 (B:=h.nx) om (b.W.top (zq _)) (fun e=>by have:=b.ro_lt (.inl e);omega) gB t0 t1
 rw [<- hC] at hsw
 clear hD hD3 hv so
 refine qm1 ?_
 refine Run.cut _ hsw ?_
 rintro _ _ g ⟨rfl,rfl,ow',ro',b',f'⟩
 clear hsw hC
 have hCg:=hC3.keep f'
 obtain ⟨z1,z2,z3,z4,z5⟩:=hCg.z a' rfl
 have gcells:D≠[]->g.get a'=some (.cells (bts D) false):=fun hn=>by
  obtain ⟨y1,y2,y3,_,_⟩:=hC3.z a' rfl
  rw [f'.ch.get a' y1 fun e=>e.elim (fun e=>e y2) y3,hcells hn]
 have fF:=(Fm.old (ow:=ow) (ro:=ro) o3).trans f'
 have xg:=f'.ch.nx
 clear hC3 hCg hcells f' b3 gB hvd
 refine qm1 ?_
 refine Run.loop (fun m e g2=>∃ j:Nat,m=D.length-j/\j<=D.length/\e=[(5,.slice (some (a',0)) D.length c'),(6,.bool true),(275,.i (D.length:Int)),(276,.i (j:Int))] /\
   (D≠[] -> ∃ cs:List V,g2.get a'=some (.cells cs false)/\cs.length=D.length /\ ∀ i,i<D.length -> ∃ x,cs[i]?=some (.int .u8 x))/\g2.nx=g.nx /\ ∀ j,j≠a'->g2.get j=g.get j)
  (k:=D.length) Ze ⟨0,rfl,by omega,rfl,fun hn=>⟨bts D,gcells hn,by simp,fun i hi=>⟨_,jiH (za hi)⟩⟩,rfl,fun _ _=>rfl⟩ ?_
 rintro _ _ g2 ⟨j,rfl,hj,rfl,hcs,hx2,hk2⟩ n2 ih2
 by_cases hlt:(j:Int)<D.length
 case neg=>
  clear ih2 hcs gcells
  refine qm1 ?_
  refine ⟨ow',ro',rfl,b'.off om fun i hi ho=>hk2 i ?_,⟨by have:=fF.ch.nx;omega,fun i hi hb=>by rw [hk2 i om,fF.ch.get i hi hb]⟩,fF.tag,fF.rtag⟩
  rintro rfl
  rcases ho with ho | ho | ho | ho
  ·exact ho z2
  ·exact z3 ho
  ·exact z4 ho
  ·exact z5 ho
 obtain ⟨cs,g1,g3,g4⟩:=hcs (by rintro rfl;simp at hlt;omega)
 obtain ⟨x,hx⟩:=g4 j om
 have hx':cs[0+(j:Int).toNat*1]?=some (.int .u8 x):=by rw [show 0+(j:Int).toNat*1=j by omega];exact hx
 have hj1:(j:Int)+1=((j+1:Nat):Int):=by omega
 clear gcells hcs
 refine qm1 ?_
 refine Ops.store1 rfl rfl rfl g1 om ?_
 refine qm1 ?_
 rw [hj1]
 refine ih2 (D.length-(j+1)) om _ _ ⟨j+1,rfl,by omega,rfl,fun _=>⟨_,jab _,by simp;exact g3,fun i hi=>?_⟩,hx2,fun i hi=>by rw [jaa hi,hk2 i hi]⟩
 rw [zi]
 by_cases e:0+(j:Int).toNat*1=i
 ·rw [if_pos e,if_pos om];exact ⟨_,rfl⟩
 ·rw [if_neg e];exact g4 i hi
end
section
variable {cl:Nat->Call} (hcl:Sem cl)
include hcl
theorem wr_out {d b4 b8 b9 b10 wb cap rk ro:Nat} {g:H} {own oth:En} {wl:List V} {rst i hup:Bool} {a c:Int} (hd:3<=d) (g4:g.get b4=some jdG) (g8:g.get b8=some (.cells (own.cells rk) false)) (g9:g.get b9=some (.cells (oth.cells ro) false))
  (g10:g.get b10=some (.cells [.bool true,.bool i,.bool false,.bool hup,.bool rst,.int .u64 a,.int .u64 c] false)) (gx:g.get wb=some (.cells wl false)) (hx:wl[0+14]?=some (.bool rst)) (n1:b4≠b10) (n2:b8≠b10) (n3:b9≠b10) (n4:wb≠b10)
  (hR:own.writes=true -> ∃ q b,oth.ring=some q/\jay g ro b q cap) :
  Run (cl (d-1)) fuel c16_0 [] [(4,.p b4 0),(6,.p wb 0),(8,.p b8 0),(9,.p b9 0),(10,.p b10 0)] g
   (Fin c16.res fun v' h'=>v' = .agg [.bool true,.bool i,.bool (own.writes && !own.shut&&(decide (((oth.ring.getD []).length:Int)<cap)||hup||rst)),.bool hup,.bool rst,.int .u64 a,.int .u64 c]/\Ch (fun j=>j=b4\/j=b10) g h'):=by
 obtain ⟨w0,f0,q0,wr0,s0,i0,o0⟩:=own
 obtain ⟨w1,f1,q1,wr1,s1,i1,o1⟩:=oth
 simp only [En.cells] at g8 g9
 cases wr0
 case false=>
  refine qm1 ?_
  exact jbj rfl (jab _) rfl ⟨rfl,(Ch.set (.inr rfl)).trans (Ch.set (.inl rfl))⟩
 obtain ⟨q,b,hq,R⟩:=hR rfl
 have hq:q1=some q:=hq
 subst hq
 simp only [En.ptr] at g9
 cases s0
 case true=>
  refine qm1 ?_
  exact jbj rfl (jab _) rfl ⟨rfl,(Ch.set (.inr rfl)).trans (Ch.set (.inl rfl))⟩
 cases hup
 case true=>
  refine qm1 ?_
  exact jbj rfl (jab _) rfl ⟨by simp [jar],(Ch.set (.inr rfl)).trans (Ch.set (.inl rfl))⟩
 cases rst
 case true=>
  refine qm1 ?_
  exact jbj rfl (jab _) rfl ⟨by simp [jar],(Ch.set (.inr rfl)).trans (Ch.set (.inl rfl))⟩
 obtain ⟨buf,frm,inn,out,C,V⟩:=R
 have hroom:=jjW hcl (d:=d-1) om C V.fit V.small
 have e1:decide (0<((cap-q.length:Nat):Int))=decide ((q.length:Int)<cap):=by
  have:=V.fit
  by_cases h1:(q.length:Int)<cap
  ·rw [decide_eq_true h1,decide_eq_true om]
  ·rw [decide_eq_false h1,decide_eq_false om]
 clear C V hR
 refine qm1 ?_
 rw [e1]
 exact jbj rfl (jab _) rfl ⟨by simp [jar],(Ch.set (.inr rfl)).trans (Ch.set (.inl rfl))⟩
theorem Fin.mono {res:List RV} {R R':V->H->Prop} {x:Ex} {e:Env} {h:H} (k:Fin res R x e h) (hR : ∀ v,R v h->R' v h):Fin res R' x e h:=by
 obtain ⟨p1,l,p2,p3⟩:=k;exact ⟨p1,l,p2,hR _ p3⟩
theorem wr_in {d b4 b5 b8 b9 b10 r0 r1 bo k n t0:Nat} {g:H} {x:Wi} {wv:V} {hup:Bool} (hd:3<=d) (hk:k=0\/k=1) (g4:g.get b4=some jdG) (g5:g.get b5=some (.cells [.bool true,.i (n:Int),.i (k:Int)] false)) (g8:g.get b8=some (.cells ((x.e k).cells (two r0 r1 k)) false)) (g9:g.get b9=some (.cells ((x.e (1-k)).cells (two r0 r1 (1-k))) false))
  (g10:g.get b10=some (.cells [.bool true,.bool false,.bool false,.bool hup,.bool x.reset,.int .u64 (x.e k).inn,.int .u64 (x.e k).out] false)) (gx:g.get t0=some (x.obj r0 r1 wv)) (n1:b4≠b10) (n2:b8≠b10) (n3:b9≠b10) (n4:t0≠b10)
  (hhup:hup=((x.e (1-k)).what == 3)) (hO : ∀ q,(x.e k).ring=some q->jay g (two r0 r1 k) bo q x.cap) (hR:(x.e k).writes=true -> ∃ q bt,(x.e (1-k)).ring=some q/\jay g (two r0 r1 (1-k)) bt q x.cap/\two r0 r1 (1-k)≠b10/\bt≠b10) :
  Run (cl (d-1)) fuel c16_1 [] [(4,.p b4 0),(5,.p b5 0),(6,.p t0 0),(8,.p b8 0),(9,.p b9 0),(10,.p b10 0)] g
   (Fin c16.res fun v' h'=>v' = .agg [.bool true,.bool (x.rIn k),.bool (x.rOut k),.bool ((x.e (1-k)).what == 3),.bool x.reset,.int .u64 (x.e k).inn,.int .u64 (x.e k).out]/\Ch (fun j=>j=b4\/j=b10) g h'):=by
 refine Run.seq (Run.cut (fun y e' g'=>y = .normal/\e'=[(4,.p b4 0),(6,.p t0 0),(8,.p b8 0),(9,.p b9 0),(10,.p b10 0)] /\
  Upd b10 (.cells [.bool true,.bool (x.rIn k),.bool false,.bool hup,.bool x.reset,.int .u64 (x.e k).inn,.int .u64 (x.e k).out] false) g g') ?_ ?_)
 case refine_2=>
  rintro _ _ g' ⟨rfl,rfl,u⟩
  refine End.seq ?_
  have:=wr_out hcl (d:=d) (cap:=x.cap) (wl:=x.cells r0 r1 wv) hd (by rw [u.get _ n1,g4]) (by rw [u.get _ n2,g8]) (by rw [u.get _ n3,g9]) u.self (by rw [u.get _ n4,gx];rfl) (Wi.reset_cell rfl) n1 n2 n3 n4 fun hw=>by
   obtain ⟨q,bt,q1,q2,n6,n7⟩:=hR hw
   exact ⟨q,bt,q1,q2.keep (u.get _ n6) (u.get _ n7)⟩
  refine Run.fin_mono this fun v h' ⟨p1,p2⟩=>⟨?_,(u.ch (.inr rfl)).trans p2⟩
  rw [p1,hhup];rfl
 have hsil:=jiM hcl (d:=d-1) om gx hk
 have hx14:=Wi.reset_cell (x:=x) (r0:=r0) (r1:=r1) (wv:=wv) (o:=0+14) rfl
 unfold Wi.obj at gx
 have hrin:x.rIn k=match (x.e k).ring with
  | none=>false
  | some q=>!q.isEmpty||x.silent k||x.reset:=by
  unfold Wi.rIn Wi.silent
  cases (x.e k).ring with
  | none=>rfl
  | some q=>simp [Bool.or_assoc]
 rw [hrin]
 clear hrin hR
 cases hring:(x.e k).ring with
 | none=>
  have c8:((x.e k).cells (two r0 r1 k))[0+2]?=some (.ptr none):=by simp [En.cells,hring,En.ptr]
  refine qm1 ?_
  exact End.nil ⟨rfl,rfl,Upd.set⟩
 | some q=>
  have c8:((x.e k).cells (two r0 r1 k))[0+2]?=some (.p (two r0 r1 k) 0):=by simp [En.cells,hring,En.ptr]
  obtain ⟨buf,frm,inn,out,C,V⟩:=hO q hring
  have hlen:=jh6 hcl (d:=d-1) om C
  clear C V hO
  cases q with
  | cons y q=>
   have hpos:0<(((y :: q:List UInt8).length:Nat):Int):=by simp
   have eT:decide (0<(((y :: q:List UInt8).length:Nat):Int))=true:=decide_eq_true hpos
   refine qm1 ?_
   exact End.nil ⟨rfl,rfl,Upd.set⟩
  | nil=>
   have hlen:cl (d-1) (.fn F.jeV) [.p (two r0 r1 k) 0] g=some (.i 0,g):=hlen
   cases hsl:x.silent k
   ·rw [hsl] at hsil
    cases hrs:x.reset
    ·rw [hrs] at hx14 g10
     refine qm1 ?_
     exact End.nil ⟨rfl,rfl,Upd.set⟩
    ·rw [hrs] at hx14 g10
     refine qm1 ?_
     exact End.nil ⟨rfl,rfl,Upd.set⟩
   ·rw [hsl] at hsil
    refine qm1 ?_
    exact End.nil ⟨rfl,rfl,Upd.set⟩
end
theorem Wi.en_cells {x:Wi} {r0 r1 k o:Nat} {wv:V} (hk:k=0\/k=1) (ho:o=k*7):((x.cells r0 r1 wv).drop o).take 7=(x.e k).cells (two r0 r1 k):=by
 subst ho
 rcases hk with rfl | rfl<;>rfl
theorem En.cells_one (x:En) (r:Nat):(x.cells r).all V.one=true:=by
 obtain ⟨w,f,q,wr,s,i,o⟩:=x
 cases q<;>rfl
theorem jfl {e:Env} {h:H} {d n:Nat} {a:Opd} {g:Option (Nat × Bool)} {r:List (Nat × I × Option (Nat × Bool))} {b o:Nat} {l:List V} {ro:Bool} {v:List V} (ha:a.ev e=some (.ptr (some (b,o)))) (hb:h.get b=some (.cells l ro)) (hn:o+n<=l.length)
  (hv:(l.drop o).take n=v) (hd:e.get d=some (.agg v)) (k:jaH e h r=true):jaH e h ((d,.loadN n a,g) :: r)=true:=by
 simp only [jaH,I.read,ha,jco hb hn,hv,hd,V.same_refl,k,Bool.and_true]
 cases wanted e g<;>rfl
section
variable {cl:Nat->Call} (hcl:Sem cl)
include hcl
end
section
variable {cl:Nat->Call} (hcl:Sem cl) {h0:H} {w s:Nat} {ow:Nat->Nat} {ws:Ws} {now:Int} {tb:Tb} {no:Option (Nat × Nat)}
include hcl
theorem ww_Ready {d:Nat} {fd:Int} (hd:4<=d) (a:WSt h0 w s ow ws now tb no) (o:WsOk ws) :
  ∃ h',cl d (.fn F.jfs) [.p w 0,.i fd] h0=some (.agg (jex ws fd),h')/\Old h0 h':=by
 obtain ⟨l,a,rfl⟩:=a
 have oA:Old h0 (h0.new jdG):=(Old.refl _).new
 have gA0:(h0.new jdG).get h0.nx=some jdG:=jac _
 have nA:(h0.new jdG).nx=h0.nx+1:=rfl
 refine jah (at_ hcl om rfl rfl rfl ?_)
 refine qo1 ?_
 refine Ops.make (ob:=jdG) rfl rfl ?_
 generalize h0.new jdG=hA at oA gA0 nA ⊢
 rcases jda hcl (d:=d-1) (fd:=fd) om (a.old oA) o.uniq with ⟨hno,h1,e1,o1,x1⟩ | ⟨n,k,m,t,rfl,hm,hat,ht,hk,h1,e1,o1,x1⟩
 ·have hS:jex (wxs l) fd=jkg:=ja8 hno
  rw [hS]
  have g1:h1.get h0.nx=some jdG:=by rw [o1.2 _ om,gA0]
  refine qm1 ?_
  refine jbj rfl (jab _) rfl ⟨rfl,?_⟩
  exact ((oA.trans o1).new.set om).set (zq _)
 have hS:jex (wxs l) (m:Int)=_:=ja5 o.uniq hat (jai ht)
 have hS:jex (wxs l) (m:Int)=t.x.ready k:=hS
 rw [hS]
 have WI:=o.ok _ (zc (jai ht))
 have X:=a.wf.ok n t ht
 have hk':1-k=0\/1-k=1:=by omega
 let h2:=(h1.new (.cells [.bool false,.i 0,.i 0] false)).set h1.nx (.cells [.bool true,.i (n:Int),.i (k:Int)] false)
 have n2:h2.nx=h0.nx+3:=by show h1.nx+1=_;omega
 have g2 : ∀ j,j<h0.nx->h2.get j=h0.get j:=fun j hj=>by
  show (H.set _ _ _).get j=_
  rw [jaa om,jad om,o1.2 j om,oA.2 j hj]
 have g20:h2.get h0.nx=some jdG:=by
  show (H.set _ _ _).get _=_
  rw [jaa om,jad om,o1.2 _ om];exact gA0
 have gp:h2.get h1.nx=some (.cells [.bool true,.i (n:Int),.i (k:Int)] false):=jab _
 have y1:h1.nx=h0.nx+2:=by omega
 obtain ⟨C,hC⟩ : ∃ C,C=c16_1:=⟨_,rfl⟩
 simp only [c16_8,c16_7,c16_6,c16_5,c16_4,c16_3,yB,yC,yF]
 rw [<- hC]
 refine qo1 ?_
 refine Ops.callf rfl e1 ?_
 refine qo1 ?_
 refine Ops.make rfl rfl ?_
 refine qx1 ?_
 refine Ops.storeN rfl rfl rfl rfl (jac _) (zu rfl) ?_
 rw [show ((h1.new (.cells [.bool false,.i 0,.i 0] false)).set h1.nx (.cells (jar [.bool false,.i 0,.i 0] 0 [.bool true,.i (n:Int),.i (k:Int)]) false))=h2 from rfl]
 clear_value h2
 clear e1 o1 gA0 nA oA
 have hx:=X.hx
 have lx:=X.lx
 have hx2:h2.get t.wb=some (.cells (t.x.cells t.r0 t.r1 t.wv) false):=by rw [g2 _ lx];exact hx
 have ek:((1:Int)-(k:Int)).toNat=1-k:=by omega
 have hcl17:=Wi.cells_length t.x t.r0 t.r1 t.wv
 rw [y1] at gp ⊢
 refine qx1 ?_
 refine Run.region ?_
 rw [n2]
 refine qx1 ?_
 refine Ops.loadN rfl hx2 om ?_
 rw [Wi.en_cells hk om]
 refine qx1 ?_
 refine Ops.loadN rfl hx2 om ?_
 rw [Wi.en_cells (k:=1-k) hk' om]
 refine Ops.make_at rfl rfl ?_
 refine Ops.make_at rfl rfl ?_
 refine Ops.storeN_chk rfl rfl rfl (En.cells_one _ _) (by rw [jaa om];exact jab _) (zu rfl) ?_ ?_
 ·refine jav rfl (l:=[.bool true,.i (n:Int),.i (k:Int)]) (ro:=false) (by rw [jaa om,jaa om,jaa om];exact gp) rfl rfl (jfl rfl (l:=t.x.cells t.r0 t.r1 t.wv) (ro:=false) (by rw [jaa om,jaa om,jaa om];exact hx2) om (Wi.en_cells (k:=1-k) hk' om) rfl jaA)
 refine Ops.storeN rfl rfl rfl (En.cells_one _ _) (by rw [jaa om];exact jab _) (zu rfl) ?_
 have ow7 : ∀ (e:En) (r:Nat),jar [V.i 0,V.i 0,V.ptr none,V.bool false,V.bool false,V.int IntKind.u64 0,V.int IntKind.u64 0] 0 (e.cells r)=e.cells r:=fun e r=>jcu _ _ rfl
 rw [ow7,ow7]
 generalize hh:H.set (H.set (H.set (H.set _ _ _) _ _) _ _) _ _=h3
 have z3:h3.nx=h0.nx+5:=by rw [<- hh];show h2.nx+2=_;omega
 have zo:h3.get (h0.nx+3)=some (.cells ((t.x.e k).cells (two t.r0 t.r1 k)) false):=by
  rw [<- hh,jaa om];exact jab _
 have zt:h3.get (h0.nx+3+1)=some (.cells ((t.x.e (1-k)).cells (two t.r0 t.r1 (1-k))) false):=by
  rw [<- hh];exact jab _
 have g3 : ∀ j,j<h0.nx+3->h3.get j=h2.get j:=fun j hj=>by
  rw [<- hh,jaa om,jaa om,jaa om,jaa om];rfl
 have hx3:h3.get t.wb=some (.cells (t.x.cells t.r0 t.r1 t.wv) false):=by rw [g3 _ om,hx2]
 have z0:h3.get h0.nx=some jdG:=by rw [g3 _ om,g20]
 have gp3:h3.get (h0.nx+2)=some (.cells [.bool true,.i (n:Int),.i (k:Int)] false):=by rw [g3 _ om,gp]
 have kk : ∀ j,j<h0.nx->h3.get j=h0.get j:=fun j hj=>by rw [g3 _ om,g2 _ hj]
 clear hh g3 gp hx2 g20 g2 n2
 have zo:h3.get (h0.nx+3+0)=some (.cells ((t.x.e k).cells (two t.r0 t.r1 k)) false):=zo
 have i5:((t.x.e k).cells (two t.r0 t.r1 k))[0+5]?=some (.int .u64 (t.x.e k).inn):=rfl
 have i6:((t.x.e k).cells (two t.r0 t.r1 k))[0+6]?=some (.int .u64 (t.x.e k).out):=rfl
 have f15:=Wi.backlog_cell (x:=t.x) (r0:=t.r0) (r1:=t.r1) (wv:=t.wv) (o:=0+15) rfl
 have f14:=Wi.reset_cell (x:=t.x) (r0:=t.r0) (r1:=t.r1) (wv:=t.wv) (o:=0+14) rfl
 obtain ⟨av,cp,hva,_⟩:=X.wait.1
 have f16:(t.x.cells t.r0 t.r1 t.wv)[0+16]?=some (.slice av t.x.waiting.length cp):=by simp [Wi.cells,En.cells,hva]
 have o3:Old h0 h3:=⟨by omega,kk⟩
 by_cases hbl:0<t.x.backlog
 ·have hR:t.x.ready k=[.bool true,.bool (!t.x.waiting.isEmpty),.bool false,.bool false,.bool false,.int .u64 (t.x.e k).inn,.int .u64 (t.x.e k).out]:=if_pos hbl
  rw [hR]
  have ew:decide (0<((t.x.waiting.length:Nat):Int)) = !t.x.waiting.isEmpty:=by cases t.x.waiting<;>simp
  clear hC hcl17 ek hk' y1
  refine qm1 ?_
  rw [ew]
  refine jbj rfl (jab _) rfl ⟨rfl,?_⟩
  exact (((o3.new.set om).set om).set om)
 ·have hR:t.x.ready k=[.bool true,.bool (t.x.rIn k),.bool (t.x.rOut k),.bool ((t.x.e (1-k)).what == 3),.bool t.x.reset,.int .u64 (t.x.e k).inn,.int .u64 (t.x.e k).out]:=if_neg hbl
  rw [hR]
  have j0:((t.x.e (1-k)).cells (two t.r0 t.r1 (1-k)))[0+0]?=some (.i (t.x.e (1-k)).what):=rfl
  refine qm1 ?_
  refine Ops.store1_chk rfl rfl rfl (by first | exact jab _ | (rw [jab])) (zu rfl) ?_ ?_
  ·exact jav rfl (l:=t.x.cells t.r0 t.r1 t.wv) (ro:=false) (by rw [jaa om,jaa om,jad om];exact hx3) f14 rfl jaA
  refine qs1 ?_
  generalize hh:H.set (H.set (H.set _ _ _) _ _) _ _=h5
  have y5:h5.nx=h3.nx+1:=by rw [<- hh];rfl
  have g5 : ∀ j,j<h3.nx->h5.get j=h3.get j:=fun j hj=>by
   rw [<- hh,jaa om,jaa om,jaa om,jad hj]
  have ehup:decide ((t.x.e (1-k)).what=3)=((t.x.e (1-k)).what == 3):=rfl
  have z5:h5.get h3.nx=some (.cells [.bool true,.bool false,.bool false,.bool ((t.x.e (1-k)).what == 3),.bool t.x.reset,.int .u64 (t.x.e k).inn,.int .u64 (t.x.e k).out] false):=by
   rw [<- hh,jab,<- ehup];rfl
  clear hh
  have o5:Old h0 h5:=o3.trans ⟨by omega,g5⟩
  have lr : ∀ i,i=0\/i=1 -> ∀ q,(t.x.e i).ring=some q->jay h5 (t.r i) (t.b i) q t.x.cap/\t.r i<h0.nx/\t.b i<h0.nx:=fun i hi q hq=>by
   obtain ⟨p1,_,_,p4,p5⟩:=X.ring i hi q hq
   exact ⟨p1.keep (o5.2 _ p4) (o5.2 _ p5),p4,p5⟩
  have q4:h5.get h0.nx=some jdG:=by rw [g5 _ om,z0]
  have q5:h5.get (h0.nx+2)=some (.cells [.bool true,.i (n:Int),.i (k:Int)] false):=by rw [g5 _ om,gp3]
  have q8:h5.get (h0.nx+3+0)=some (.cells ((t.x.e k).cells (two t.r0 t.r1 k)) false):=by rw [g5 _ om,zo]
  have q9:h5.get (h0.nx+3+1)=some (.cells ((t.x.e (1-k)).cells (two t.r0 t.r1 (1-k))) false):=by rw [g5 _ om,zt]
  have qx:h5.get t.wb=some (t.x.obj t.r0 t.r1 t.wv):=by rw [g5 _ om,hx3];rfl
  have hpair:=WI.pair k hk
  rw [hC]
  refine Run.fin_mono (wr_in hcl (d:=d) (bo:=t.b k) (n:=n) (hup:=(t.x.e (1-k)).what == 3) om hk q4 q5 q8 q9 z5 qx om om om om rfl (fun q hq=>(lr k hk q hq).1) fun hwr=>?_) fun v h' ⟨p1,p2⟩=>⟨p1,?_⟩
  ·obtain ⟨q,hq⟩:=Option.ne_none_iff_exists'.1 (hpair.1 hwr)
   obtain ⟨r1,r2,r3⟩:=lr (1-k) hk' q hq
   exact ⟨q,t.b (1-k),hq,r1,by show t.r (1-k)≠_;omega,by omega⟩
  ·have hn5:=o5.1
   exact ⟨zz hn5 p2.nx,fun j hj=>by rw [p2.get j om (by rintro (e | e)<;>omega),o5.2 j hj]⟩
end
structure Rdy where
 op:Bool
 inn:Bool
 out:Bool
 hup:Bool
 err:Bool
 rd:Int
 wr:Int
def Rdy.cells (r:Rdy):List V:=[.bool r.op,.bool r.inn,.bool r.out,.bool r.hup,.bool r.err,.int .u64 r.rd,.int .u64 r.wr]
def Rdy.no:Rdy:=⟨false,false,false,false,false,0,0⟩
def Wi.rdy (x:Wi) (k:Nat):Rdy :=
 if 0<x.backlog then ⟨true,!x.waiting.isEmpty,false,false,false,(x.e k).inn,(x.e k).out⟩
 else ⟨true,x.rIn k,x.rOut k,(x.e (1-k)).what == 3,x.reset,(x.e k).inn,(x.e k).out⟩
noncomputable def rdyS (ws:Ws) (fd:Int):Rdy:=jbM ws fd Rdy.no fun _ k x=>x.rdy k
theorem jmm (ws:Ws) (fd:Int):jex ws fd=(rdyS ws fd).cells:=by
 unfold jex rdyS jbM
 split
 ·rfl
 ·split
  ·rfl
  ·show Wi.ready _ _=(Wi.rdy _ _).cells
   unfold Wi.ready Wi.rdy
   split<;>rfl
def mayAsk (ev:Int):Prop:=ev=0\/ev=1\/ev=4\/ev=5
instance (ev:Int):Decidable (mayAsk ev):=inferInstanceAs (Decidable (_\/_))
structure BX (h0 h:H) (p w s rw:Nat) (ow:Nat->Nat) (ro:Nat->Prop) (st:St) (i:Nat):Prop where
 b:BB h p w s rw ow ro (fun j=>j<h0.nx) st st
 so:StOk st i
 old:Old h0 h
 own : ∀ j,ow j≠0\/ro j->h0.nx<=j
 lp:h0.nx<=p
theorem jmY {h0 h h':H} {ow ow':Nat->Nat} {ro ro':Nat->Prop} (o:Old h0 h) (f:Fm h h' ow ro ow' ro') (own : ∀ j,ow j≠0\/ro j->h0.nx<=j):Old h0 h' :=
 ⟨zz o.1 f.ch.nx,fun j hj=>by rw [f.ch.get j (zr hj o.1) fun hb=>by have:=own j hb;omega,o.2 j hj]⟩
theorem BX.fm {h0 h h':H} {p w s rw:Nat} {ow ow':Nat->Nat} {ro ro':Nat->Prop} {st st':St} {i i':Nat} (x:BX h0 h p w s rw ow ro st i) (b:BB h' p w s rw ow' ro' (fun j=>j<h0.nx) st' st') (f:Fm h h' ow ro ow' ro') (so:StOk st' i'):BX h0 h' p w s rw ow' ro' st' i':=by
 refine ⟨b,so,jmY x.old f x.own,fun j hj=>?_,x.lp⟩
 rcases zx j h.nx with h1 | h1
 ·rw [f.tag j h1,f.rtag j h1] at hj
  exact x.own j hj
 ·exact zz x.old.1 h1
theorem BX.old' {h0 h h':H} {p w s rw:Nat} {ow:Nat->Nat} {ro:Nat->Prop} {st:St} {i:Nat} (x:BX h0 h p w s rw ow ro st i) (o:Old h h'):BX h0 h' p w s rw ow ro st i :=
 x.fm (x.b.old o) (Fm.old o) x.so
def st0:St:=⟨[],0,Tb.zero,none⟩
theorem atS_nil (fd:Int):atS [] fd=none:=jeq fun n k=>by rintro ⟨x,h,_⟩;simp at h
theorem st0_ok:StOk st0 0 where
 K:=⟨⟨fun n k n' k' fd h=>(by obtain ⟨x,hx,_⟩:=h;simp [st0] at hx),fun x hx=>(by simp [st0] at hx),by simp [st0],fun x hx=>(by simp [st0] at hx)⟩,fun i j x y p q m hx=>by simp [st0] at hx⟩
 nt := .inl rfl
 now:=⟨Int.le_refl _,by show (0:Int)<=_;omega⟩
 tb:=fun k=>⟨Int.le_refl _,Int.le_refl _⟩
theorem Ops.build {call:Call} {fuel base:Nat} {K:List Fr} {e:Env} {h:H} {Q:Post} {ix:Nat} {dst:Option Nat} {ops:List Ins} {keep:List Nat} {at_:Option Nat} {zero l:List V} {parts:List (Nat × Nat × Opd)} {ps:List (Nat × Nat × V)}
  (he:jbt e parts=some ps) (hf:jaR zero ps=some l) (k:Ops call fuel base ops keep K (layv e dst (.agg l)) h Q):Ops call fuel base (⟨ix,dst,.build zero parts,none,at_,[]⟩ :: ops) keep K e h Q :=
 Ops.pure rfl (by simp only [I.pure,he,hf]) k
section
variable {cl:Nat->Call} (hcl:Sem cl)
include hcl
def wc0 (s:Nat):List V:=(List.replicate 96 ([.bool false,.i 0,.i 0]:List V)).flatten++[.nils,.p s 0,.int .u64 0,.bool false,.i 0,.i 0]
def rc0:List V := .nils :: tail 0 (fun _=>false) (fun _=>0) (-1) 0
omit hcl in
theorem wc0_eq (s:Nat):wc0 s=wc (fun i=>atS [] (i:Int)) .nils s 0 none:=by
 have e:(fun i:Nat=>atS [] (i:Int))=fun _=>none:=by funext i;exact atS_nil _
 rw [e]
 have:(List.replicate 96 ([.bool false,.i 0,.i 0]:List V)).flatten=jdf fun _=>none:=by
  kernel_rfl
 unfold wc0 wc
 rw [this]
 rfl
omit hcl in
theorem fillW (s:Nat):jaR ((List.replicate 96 ([.bool false,.i 0,.i 0]:List V)).flatten++[.nils,.ptr none,.int .u64 0,.bool false,.i 0,.i 0]) [(289,1,.p s 0)]=some (wc0 s):=by kernel_rfl
omit hcl in
theorem fillR:jaR ([.nils,.int .u64 0]++List.replicate 32 (.bool false:V)++List.replicate 34 (.i 0:V)) [(66,1,.i (-1))]=some rc0:=by kernel_rfl
set_option maxRecDepth 100000 in
theorem nw_world {d:Nat} (hd:2<=d) (h:H):cl d (.fn F.world_New) [] h=some (.p (h.nx+1) 0,(h.new Tb.zero.obj).new (.cells (wc0 h.nx) false)):=by
 have hs:=sp_new hcl (d:=d-1) om h
 refine jak (at_ hcl om rfl rfl rfl ?_)
 refine Run.seq (Run.region0 (Ops.mv rfl (Ops.nil qkp (End.seq (Run.seq (Run.region0 (Ops.callf rfl hs (Ops.build rfl (fillW h.nx) (Ops.make rfl rfl ?_)))))))))
 refine qo1 ?_
 exact ⟨rfl,rfl⟩
set_option maxRecDepth 100000 in
theorem nw_ref {d:Nat} (hd:1<=d) (h:H):cl d (.fn F.jeA) [] h=some (.p h.nx 0,h.new (.cells rc0 false)):=by
 refine jak (at_ hcl om rfl rfl rfl ?_)
 refine Run.seq (Run.region0 (Ops.mv rfl (Ops.nil qkp (End.seq (Run.seq (Run.region0 (Ops.build rfl fillR (Ops.make rfl rfl ?_))))))))
 refine qo1 ?_
 exact ⟨rfl,rfl⟩
theorem nw_fresh {d:Nat} (hd:3<=d) (h:H) (hf : ∀ j,h.nx<=j->h.get j=none) : ∃ p w s rw ow ro h',cl d (.fn F.jdP) [] h=some (.p p 0,h')/\BX h h' p w s rw ow ro st0 0:=by
 have e1:=nw_world hcl (d:=d-1) om h
 have e2:=nw_ref hcl (d:=d-1) om ((h.new Tb.zero.obj).new (.cells (wc0 h.nx) false))
 have x1:((h.new Tb.zero.obj).new (.cells (wc0 h.nx) false)).nx=h.nx+2:=rfl
 rw [x1] at e2
 have o4:Old h ((((h.new Tb.zero.obj).new (.cells (wc0 h.nx) false)).new (.cells rc0 false)).new (.cells [.p (h.nx+1) 0,.p (h.nx+2) 0] false)):=(Old.refl h).new.new.new.new
 refine ⟨h.nx+3,h.nx+1,h.nx,h.nx+2,fun j=>if j=h.nx then 3 else if j=h.nx+1 then 1 else 0,fun j=>j=h.nx+2,(((h.new Tb.zero.obj).new (.cells (wc0 h.nx) false)).new (.cells rc0 false)).new (.cells [.p (h.nx+1) 0,.p (h.nx+2) 0] false),jak (at_ hcl om rfl rfl rfl ?_),⟨⟨?_,?_,?_,?_,?_,?_,?_⟩,st0_ok,o4,?_,?_⟩⟩
 ·refine qm1 ?_
  exact ⟨rfl,rfl⟩
 ·refine ⟨[],⟨⟨⟨.nils,?_,Row.nil _ _ _,fun z hz=>by cases hz⟩,?_,?_,?_,?_,?_,fun j hj=>?_,fun n t ht=>by simp at ht⟩,fun n k fd hat=>?_⟩,rfl⟩
  ·have e:=wc0_eq h.nx
   show _=some (Obj.cells (wc (fun i=>atS [] (i:Int)) .nils h.nx 0 none) false)
   rw [<- e]
   exact qgt
  ·exact qgt
  ·show (if h.nx+1=h.nx then 3 else if h.nx+1=h.nx+1 then 1 else 0)=1
   rw [if_neg om,if_pos rfl]
  ·show (if h.nx=h.nx then 3 else if h.nx=h.nx+1 then 1 else 0)=3
   rw [if_pos rfl]
  ·simp<;>omega
  ·simp<;>omega
  ·have hj:h.nx+4<=j:=hj
   show (if j=h.nx then 3 else if j=h.nx+1 then 1 else 0)=0
   rw [if_neg om,if_neg om]
  ·obtain ⟨x,hx,_⟩:=hat;simp at hx
 ·refine ⟨[],⟨⟨h.nx+3,fun e=>absurd rfl e,fun g gn gk=>⟨?_,?_,by omega,fun e=>absurd rfl e,fun _=>?_,fun r hr=>by cases hr⟩⟩,fun j hj=>?_,rfl,fun j hj hd=>?_⟩,rfl⟩
  ·rw [gn];simp
  ·rw [gn];simp
  ·rw [gk (h.nx+2) Zd (.inl rfl)]
   show _=some (Obj.cells rc0 false)
   exact qgt
  ·rcases hj with rfl | hj
   ·simp
   ·simp<;>omega
  ·have hj:j=h.nx+2:=hj
   have hd:j<h.nx:=hd
   omega
 ·exact qgt
 ·simp
 ·intro j hj
  have hj:j=h.nx+2\/j<h.nx:=hj
  show (if j=h.nx then 3 else if j=h.nx+1 then 1 else 0)=0
  rw [if_neg om,if_neg om]
 ·show (if h.nx+3=h.nx then 3 else if h.nx+3=h.nx+1 then 1 else 0)=0
  rw [if_neg om,if_neg om]
 ·intro hj
  have hj:h.nx+3=h.nx+2\/h.nx+3<h.nx:=hj
  omega
 ·intro j hj
  rcases hj with hj | hj
  ·have hj:(if j=h.nx then 3 else if j=h.nx+1 then 1 else 0)≠0:=hj
   by_cases h1:j=h.nx
   ·omega
   ·rw [if_neg h1] at hj
    by_cases h2:j=h.nx+1
    ·omega
    ·rw [if_neg h2] at hj;exact absurd rfl hj
  ·have hj:j=h.nx+2:=hj
   omega
 ·omega
end
def jkr (n:Int):UInt8:=UInt8.ofNat n.toNat
theorem byteI_V {n:Int} (h1:0<=n) (h2:n<=255):jc6 (jkr n) = .int .u8 n:=by
 have:n.toNat<256:=by omega
 simp only [jc6,jkr,UInt8.toNat_ofNat',Nat.mod_eq_of_lt this]
 congr 1;omega
theorem jiZ {h:H} : ∀ {l:List Int} {cs:List V},jbv (jdq .u8) h l cs->cs=bts (l.map jkr)
 | [],_,e=>e
 | x :: l,_,⟨u,w,e,h1,h2⟩=>by
  obtain ⟨rfl,h3⟩:=h1
  rw [e,jiZ h2,<- byteI_V h3.1 h3.2];rfl
theorem jkP {h:H} {l:List Int} {u:V} {B:Nat} (r:jc4 B (jdq .u8) h l [u]) : ∃ a c,u = .slice a l.length (.fix c)/\(l.length<=B->BytesAt h a (.fix c) (l.map jkr)):=by
 obtain ⟨a,c,e,h1,h2,h3⟩:=r
 cases e
 refine ⟨a,c,rfl,fun hB=>⟨fun e=>?_,by show (l.map jkr).length<=c;simpa using h2,fun hn=>?_⟩⟩
 ·obtain ⟨rfl,rfl⟩:=h3 e;exact ⟨rfl,rfl⟩
 ·obtain ⟨b,cs,q1,q2,q3,q4⟩:=h1 hB (by rintro rfl;exact hn rfl)
  refine ⟨b,0,cs,true,q1,q2,q3,fun i x hi=>?_⟩
  rw [jiZ q4,Nat.zero_add];exact jiH hi
theorem BytesAt.keep {h h':H} {a:Option (Nat × Nat)} {c:Cap} {l:List UInt8} (t:BytesAt h a c l) (hx:h.nx<=h'.nx) (hk : ∀ j o,j<h.nx->h.get j=some o->h'.get j=some o):BytesAt h' a c l :=
 ⟨t.none_,t.fits,fun hn=>by
  obtain ⟨b,o,cs,ro,q1,q2,q3,q4⟩:=t.at_ hn
  exact ⟨b,o,cs,ro,q1,by omega,hk _ _ q2 q3,q4⟩⟩
theorem BytesAt.lt {h:H} {a:Option (Nat × Nat)} {c:Cap} {l:List UInt8} (t:BytesAt h a c l) {N:Nat} (hN:h.nx<=N) {z o:Nat} (ha:a=some (z,o)) (hl:l≠[]):z<N:=by
 obtain ⟨b,o',cs,ro,q1,q2,_⟩:=t.at_ hl
 rw [q1] at ha;cases ha;omega
structure OpX where
 k:Int
 a:Int
 n:Int
 t:Int
 dv:V
 D:List UInt8
abbrev OpX.V (x:OpX):List V:=opV x.k x.a x.n x.t x.dv
structure OpOk (h:H) (x:OpX):Prop where
 dv : ∃ a c,x.dv = .slice a x.D.length c/\(x.D.length<=300->BytesAt h a c x.D)
 t0:0<=x.t
 t1:x.t<=18446744073709551615
theorem OpOk.keep {h h':H} {x:OpX} (o:OpOk h x) (hx:h.nx<=h'.nx) (hk : ∀ j o,j<h.nx->h.get j=some o->h'.get j=some o):OpOk h' x:=by
 obtain ⟨⟨a,c,e,g⟩,t0,t1⟩:=o
 exact ⟨⟨a,c,e,fun hl=>(g hl).keep hx hk⟩,t0,t1⟩
theorem OpOk.dat {h:H} {x:OpX} (o:OpOk h x) (hl:x.D.length<=300):Dat h (fun j=>j<h.nx) x.dv x.D:=by
 obtain ⟨⟨a,c,e,g⟩,_,_⟩:=o
 refine ⟨⟨a,c,e,g hl⟩,fun hn z hz=>?_,hl⟩
 obtain ⟨b,o,cs,ro,q1,q2,_⟩:=(g hl).at_ hn
 rw [e,q1] at hz
 cases hz;exact q2
def jmC (h:H) (lv:V) (L:List OpX):Prop := ∃ ad c,lv = .slice ad L.length c/\(L.length<=200->(∀ x∈L,OpOk h x)/\(L≠[] -> ∃ b cs ro,ad=some (b,0)/\b<h.nx/\h.get b=some (.cells cs ro)/\cs.length=L.length*5 /\ ∀ (i:Nat) (x:OpX),L[i]?=some x->(cs.drop (i*5)).take 5=x.V))
theorem jmC.keep {h h':H} {lv:V} {L:List OpX} (o:jmC h lv L) (hx:h.nx<=h'.nx) (hk : ∀ j o,j<h.nx->h.get j=some o->h'.get j=some o):jmC h' lv L:=by
 obtain ⟨ad,c,e,g⟩:=o
 refine ⟨ad,c,e,fun hl=>⟨fun x hx'=>((g hl).1 x hx').keep hx hk,fun hn=>?_⟩⟩
 obtain ⟨b,cs,ro,q1,q2,q3,q4⟩:=(g hl).2 hn
 exact ⟨b,cs,ro,q1,by omega,hk _ _ q2 q3,q4⟩
def fewL (L:List OpX):Prop:=L.length<=200 /\ ∀ x∈L,x.D.length<=300
theorem jkV {α : Type} {l:List α} {i:Nat} (h:i<l.length) : ∃ x,l[i]?=some x:=⟨_,za h⟩
section
variable {cl:Nat->Call} (hcl:Sem cl)
include hcl
theorem gr_ok {d:Nat} {h:H} {lv:V} {L:List OpX} (hd:1<=d) (hL:jmC h lv L) :
  ∃ v,cl d (.fn F.jcy) [lv] h=some (v,h)/\(v = .i 1\/(v = .i 0/\fewL L)):=by
 obtain ⟨ad,c,rfl,hin⟩:=hL
 suffices ∃ v h',cl d (.fn F.jcy) [.slice ad L.length c] h=some (v,h')/\(h'=h/\(v = .i 1\/(v = .i 0/\fewL L))) by
  obtain ⟨v,h',q1,rfl,q3⟩:=this
  exact ⟨v,q1,q3⟩
 refine at_ hcl om rfl rfl rfl ?_
 by_cases h1:200<(L.length:Int)
 ·refine qx1 ?_
  exact ⟨rfl,.inl rfl⟩
 obtain ⟨hok,hel⟩:=hin om
 refine qx1 ?_
 refine Run.loop (fun m e h'=>∃ i:Nat,m=L.length-i/\i<=L.length/\e=[(0,.slice ad L.length c),(8,.i (L.length:Int)),(9,.i (i:Int))]/\h'=h /\ ∀ j x,j<i->L[j]?=some x->x.D.length<=300) (k:=L.length) Ze ⟨0,rfl,by omega,rfl,rfl,fun j x hj=>by omega⟩ ?_
 rintro _ _ _ ⟨i,rfl,hi,rfl,rfl,hj⟩ n' ih
 by_cases hlt:(i:Int)<L.length
 case neg=>
  have hf:fewL L:=⟨by omega,fun x hx=>by
   obtain ⟨j,hjl,e⟩:=List.getElem_of_mem hx
   exact hj j x om (by rw [za hjl,e])⟩
  clear ih hel hok hj
  refine qx1 ?_
  exact ⟨rfl,.inr ⟨rfl,hf⟩⟩
 obtain ⟨x,hx⟩:=jkV (l:=L) (i:=i) om
 obtain ⟨b,cs,ro,rfl,_,hb,hcl',hc⟩:=hel (by rintro rfl;simp at hx)
 obtain ⟨⟨da,dc,edv,_⟩,_,_⟩:=hok x (zc hx)
 have h5:=hc i x hx
 have hc':cs[0+(i:Int).toNat*5+4]?=some (.slice da x.D.length dc):=by
  have:((cs.drop (i*5)).take 5)[4]?=some x.dv:=by rw [h5];rfl
  rw [List.getElem?_take,if_pos om,zm] at this
  rw [show 0+(i:Int).toNat*5+4=i*5+4 by omega,this,edv]
 clear hel hok hc h5
 by_cases hd3:300<(x.D.length:Int)
 ·clear ih hj
  refine qx1 ?_
  exact ⟨rfl,.inl rfl⟩
 ·have hi1:(i:Int)+1=((i+1:Nat):Int):=by omega
  refine qx1 ?_
  rw [hi1]
  refine ih (L.length-(i+1)) om _ _ ⟨i+1,rfl,by omega,rfl,rfl,fun j y hj' hy=>?_⟩
  by_cases e:j=i
  ·subst e
   rw [hx] at hy;cases hy
   omega
  ·exact hj j y om hy
theorem bx_do {d i p w s rw:Nat} {h0 h:H} {ow:Nat->Nat} {ro:Nat->Prop} {st:St} {x:OpX} (hd:16<=d) (b:BX h0 h p w s rw ow ro st i) (hi:i<=200) (hx:OpOk h0 x) (hl:x.D.length<=300) :
  ∃ h' ow' ro',cl d (.fn F.jby) [.p p 0,.agg x.V] h=some (.bool true,h')/\BX h0 h' p w s rw ow' ro' (doS x.k x.a x.n x.t x.D st) (i+1)/\Fm h h' ow ro ow' ro':=by
 have hD:Dat h (fun j=>j<h0.nx) x.dv x.D:=by
  have:=hx.dat hl
  exact ⟨this.v.keep2 b.old.1 fun hn z hz=>b.old.2 z (this.z hn z hz),this.z,hl⟩
 obtain ⟨h',ow',ro',e,b',f⟩:=do_ok hcl (k:=x.k) (a:=x.a) (n:=x.n) (t:=x.t) hd b.b b.so hi hD hx.t0 hx.t1
 exact ⟨h',ow',ro',e,b.fm b' f (jnl b.so hx.t0 hx.t1),f⟩
end
abbrev jmK:H->Int × Int × Int × Int × List Int × Unit->List V->Prop:=jdd (jdq .i64) (jdd (jdq .i64) (jdd (jdq .i64) (jdd (jdq .u64) (jdd (jc4 300 (jdq .u8)) jml))))
theorem jkf {h:H} {x:Int × Int × Int × Int × List Int × Unit} {vs:List V} (r:jmK h x vs) : ∃ u,vs=[.i x.1,.i x.2.1,.i x.2.2.1,.int .u64 x.2.2.2.1,u]/\jc4 300 (jdq .u8) h x.2.2.2.2.1 [u]/\0<=x.2.2.2.1/\x.2.2.2.1<=18446744073709551615:=by
 obtain ⟨_,_,rfl,⟨rfl,_⟩,_,_,rfl,⟨rfl,_⟩,_,_,rfl,⟨rfl,_⟩,_,_,rfl,⟨rfl,ht⟩,u,w,rfl,r5,hw⟩:=r
 obtain rfl:w=[]:=hw
 have ⟨ad,c,e,h1⟩:=r5
 subst e
 exact ⟨_,rfl,⟨ad,c,rfl,h1⟩,ht.1,ht.2⟩
theorem jmq {h:H} : ∀ {l:List (Int × Int × Int × Int × List Int × Unit)} {cs:List V},jbv jmK h l cs -> ∃ L:List OpX,L.length=l.length/\cs=(L.map OpX.V).flatten /\ ∀ x∈L,OpOk h x
 | [],_,e=>⟨[],rfl,e,fun x hx=>by cases hx⟩
 | y :: l,_,⟨u,w,e,h1,h2⟩=>by
  obtain ⟨L,l1,l2,l3⟩:=jmq h2
  obtain ⟨v,e1,r,t0,t1⟩:=jkf h1
  obtain ⟨a,c,rfl,hB⟩:=jkP r
  refine ⟨⟨y.1,y.2.1,y.2.2.1,y.2.2.2.1,.slice a y.2.2.2.2.1.length (.fix c),y.2.2.2.2.1.map jkr⟩ :: L,by simp [l1],by rw [e,e1,l2];rfl,fun x hx=>?_⟩
  rcases List.mem_cons.1 hx with rfl | hx
  ·exact ⟨⟨a,.fix c,by simp,fun hl=>hB (by simpa using hl)⟩,t0,t1⟩
  ·exact l3 x hx
theorem jkK : ∀ L:List OpX,(L.map OpX.V).flatten.length=L.length*5
 | []=>rfl
 | x :: L=>by
  have:=jkK L
  have h5:(OpX.V x).length=5:=rfl
  show (OpX.V x++(L.map OpX.V).flatten).length=_
  rw [zg,this,h5]
  simp;omega
theorem flat_get : ∀ {L:List OpX} {i:Nat} {x:OpX},L[i]?=some x->(((L.map OpX.V).flatten).drop (i*5)).take 5=x.V
 | [],i,x,h=>by simp at h
 | y :: L,0,x,h=>by simp at h;subst h;rfl
 | y :: L,i+1,x,h=>by
  rw [List.map_cons,List.flatten_cons,show (i+1)*5=(OpX.V y).length+i*5 by show _=5+_;omega,<- List.drop_drop,List.drop_left]
  exact flat_get (by simpa using h)
theorem opsIn_of {h:H} {l:List (Int × Int × Int × Int × List Int × Unit)} {u:V} (r:jc4 200 jmK h l [u]) : ∃ L:List OpX,L.length=l.length/\jmC h u L:=by
 obtain ⟨ad,c,e,h1,h2,h3⟩:=r
 cases e
 by_cases hl:l.length<=200
 ·by_cases hn:l=[]
  ·subst hn
   exact ⟨[],rfl,ad,.fix c,rfl,fun _=>⟨fun x hx=>(by cases hx),fun e=>absurd rfl e⟩⟩
  ·obtain ⟨b,cs,rfl,q1,q2,q3⟩:=h1 hl hn
   obtain ⟨L,l1,rfl,l3⟩:=jmq q3
   exact ⟨L,l1,_,.fix c,by rw [l1],fun _=>⟨l3,fun _=>⟨b,_,true,rfl,q1,q2,jkK L,fun i x hx=>flat_get hx⟩⟩⟩
 ·exact ⟨List.replicate l.length ⟨0,0,0,0,.nils,[]⟩,by simp,ad,.fix c,by simp,fun hl'=>absurd (by simpa using hl') hl⟩
structure MvX where
 m:Mv
 dv:V
abbrev MvX.V (x:MvX):List V:=mvV x.m x.dv
def MvOk (h:H) (x:MvX):Prop := ∃ a c,x.dv = .slice a x.m.D.length c/\(x.m.D.length<=1100->BytesAt h a c x.m.D)
def MvsAt (h:H) (v:V) (l:List MvX):Prop := ∃ ad c,v = .slice ad l.length c/\(l≠[] -> ∃ b cs ro,ad=some (b,0)/\b<h.nx/\h.get b=some (.cells cs ro)/\cs.length=l.length*4 /\ ∀ (i:Nat) (x:MvX),l[i]?=some x->(cs.drop (i*4)).take 4=x.V)
def jn4 (B:Nat) (h:H) (v:V) (l:List MvX):Prop:=(∃ ad c,v = .slice ad l.length c)/\(l.length<=B->(∀ x∈l,MvOk h x)/\MvsAt h v l)
structure SpX where
 t:Int
 intr:Bool
 ol:List Int
 ov:V
 ml:List MvX
 mv:V
abbrev SpX.V (x:SpX):List V:=[.int .u64 x.t,.bool x.intr,x.ov,x.mv]
structure SpOk (h:H) (x:SpX):Prop where
 ov:(∃ ad c,x.ov = .slice ad x.ol.length c)/\(x.ol.length<=60->VI h x.ov x.ol)
 mv:jn4 60 h x.mv x.ml
 t0:0<=x.t
 t1:x.t<=18446744073709551615
def jn3 (h:H) (v:V) (l:List SpX):Prop := ∃ ad c,v = .slice ad l.length c/\(l.length<=100->(∀ x∈l,SpOk h x)/\(l≠[] -> ∃ b cs ro,ad=some (b,0)/\b<h.nx/\h.get b=some (.cells cs ro)/\cs.length=l.length*4 /\ ∀ (i:Nat) (x:SpX),l[i]?=some x->(cs.drop (i*4)).take 4=x.V))
def sumM:List SpX->Nat
 | []=>0
 | x :: l=>x.ml.length+sumM l
theorem sumM_take {l:List SpX} : ∀ {i:Nat} {x:SpX},l[i]?=some x->sumM (l.take (i+1))=sumM (l.take i)+x.ml.length:=by
 induction l with
 | nil=>intro i x h;simp at h
 | cons y l ih=>
  intro i x h
  match i,h with
  | 0,h=>simp at h;subst h;simp [sumM]
  | i+1,h=>
   have:=ih (i:=i) (x:=x) (by simpa using h)
   simp only [List.take_succ_cons,sumM] at this ⊢
   omega
structure fewS (l:List SpX):Prop where
 len:l.length<=100
 each : ∀ x∈l,x.ml.length<=60/\x.ol.length<=60 /\ ∀ m∈x.ml,m.m.D.length<=1100
 sum:sumM l<=500
theorem jnu {cs l:List V} {i j:Nat} (h:(cs.drop (i*4)).take 4=l) (hj:j<4):cs[0+(i:Int).toNat*4+j]?=l[j]?:=by
 rw [<- h,List.getElem?_take,if_pos hj,zm]
 congr 1
 omega
section
variable {cl:Nat->Call} (hcl:Sem cl)
include hcl
theorem gs_ok {d:Nat} {h:H} {v:V} {l:List SpX} (hd:1<=d) (hl:jn3 h v l) :
  ∃ r,cl d (.fn F.jcx) [v] h=some (r,h)/\(r = .i 1\/(r = .i 0/\fewS l)):=by
 obtain ⟨ad,c,rfl,hin⟩:=hl
 suffices ∃ r h',cl d (.fn F.jcx) [.slice ad l.length c] h=some (r,h')/\(h'=h/\(r = .i 1\/(r = .i 0/\fewS l))) by
  obtain ⟨v,h',q1,rfl,q3⟩:=this
  exact ⟨v,q1,q3⟩
 refine at_ hcl om rfl rfl rfl ?_
 by_cases h1:100<(l.length:Int)
 ·refine qx1 ?_
  exact ⟨rfl,.inl rfl⟩
 obtain ⟨hok,hel⟩:=hin om
 refine qx1 ?_
 refine Run.loop (fun m e h'=>∃ (i:Nat) (n:Int),m=l.length-i/\i<=l.length/\e=[(0,.slice ad l.length c),(3,.i n),(10,.i (l.length:Int)),(11,.i (i:Int))]/\h'=h/\0<=n/\n<=4000/\(sumM (l.take i):Int)<=n/\sumM (l.take i)<=500 /\ ∀ j x,j<i->l[j]?=some x->x.ml.length<=60/\x.ol.length<=60 /\ ∀ m∈x.ml,m.m.D.length<=1100)
  (k:=l.length) Ze ⟨0,0,rfl,by omega,rfl,rfl,by omega,by omega,by simp [sumM],by simp [sumM],fun j x hj=>by omega⟩ ?_
 rintro _ _ g ⟨i,n,rfl,hi,rfl,rfl,n0,n1,n2,n3,hj⟩ n' ih
 by_cases hlt:(i:Int)<l.length
 case neg=>
  obtain rfl:i=l.length:=by omega
  rw [List.take_length] at n3
  have hf:fewS l:=⟨by omega,fun x hx=>by
   obtain ⟨j,hjl,e⟩:=List.getElem_of_mem hx
   exact hj j x om (by rw [za hjl,e]),n3⟩
  clear ih hel hok hj
  refine qx1 ?_
  exact ⟨rfl,.inr ⟨rfl,hf⟩⟩
 obtain ⟨x,hx⟩:=jkV (l:=l) (i:=i) om
 obtain ⟨b,cs,ro,rfl,_,hb,hcs,hc⟩:=hel (by rintro rfl;simp at hx)
 obtain ⟨⟨⟨oa,oc,eov⟩,_⟩,⟨⟨ma,mc,emv⟩,hmin⟩,_,_⟩:=hok x (zc hx)
 have h4:=hc i x hx
 have c2:cs[0+(i:Int).toNat*4+2]?=some (.slice oa x.ol.length oc):=by rw [jnu h4 om,<- eov];rfl
 have c3:cs[0+(i:Int).toNat*4+3]?=some (.slice ma x.ml.length mc):=by rw [jnu h4 om,<- emv];rfl
 have hs:=sumM_take hx
 clear hel hok hc h4
 by_cases k1:60<(x.ml.length:Int)
 ·clear ih hj
  refine qx1 ?_
  exact ⟨rfl,.inl rfl⟩
 by_cases k2:60<(x.ol.length:Int)
 ·clear ih hj
  refine qx1 ?_
  exact ⟨rfl,.inl rfl⟩
 by_cases k3:500<n+(x.ml.length:Int)+(x.ol.length:Int)
 ·clear ih hj
  refine qx1 ?_
  exact ⟨rfl,.inl rfl⟩
 obtain ⟨hmok,hmat⟩:=hmin om
 have hi1:(i:Int)+1=((i+1:Nat):Int):=by omega
 refine qx1 ?_
 refine Run.loop (fun m e h'=>∃ (k:Nat) (n':Int),m=x.ml.length-k/\k<=x.ml.length/\e=[(0,.slice (some (b,0)) l.length c),(3,.i n'),(4,.i (i:Int)),(10,.i (l.length:Int)),(11,.i (i:Int)),(54,.i (x.ml.length:Int)),(55,.i (k:Int))]/\h'=g/\n+(x.ml.length:Int)+(x.ol.length:Int)<=n'/\n'<=500+55*(k:Int) /\ ∀ j y,j<k->x.ml[j]?=some y->y.m.D.length<=1100)
  (k:=x.ml.length) Ze ⟨0,_,rfl,by omega,rfl,rfl,by omega,by omega,fun j y hj=>by omega⟩ ?_
 rintro _ _ _ ⟨k,n',rfl,hk,rfl,rfl,p0,p1,hjk⟩ n'' ih2
 by_cases hlt2:(k:Int)<x.ml.length
 case neg=>
  clear ih2
  have hall : ∀ m∈x.ml,m.m.D.length<=1100:=fun m hm=>by
   obtain ⟨j,hjl,e⟩:=List.getElem_of_mem hm
   exact hjk j m om (by rw [za hjl,e])
  refine qx1 ?_
  rw [hi1]
  refine ih (l.length-(i+1)) om _ _ ⟨i+1,n',rfl,by omega,rfl,rfl,by omega,by omega,by rw [hs];omega,by rw [hs];omega,fun j y hj' hy=>?_⟩
  by_cases e:j=i
  ·subst e
   rw [hx] at hy;cases hy
   exact ⟨by omega,by omega,hall⟩
  ·exact hj j y om hy
 obtain ⟨y,hy⟩:=jkV (l:=x.ml) (i:=k) om
 obtain ⟨ad',c',emv',hne⟩:=hmat
 obtain ⟨b2,cs2,ro2,e2,_,hb2,hcs2,hc2⟩:=hne (by intro e;rw [e] at hy;simp at hy)
 obtain ⟨da,dc,edv,_⟩:=hmok y (zc hy)
 obtain ⟨rfl,rfl⟩:ma=ad'/\mc=c':=by rw [emv] at emv';cases emv';exact ⟨rfl,rfl⟩
 subst e2
 have d3:cs2[0+(k:Int).toNat*4+3]?=some (.slice da y.m.D.length dc):=by rw [jnu (hc2 k y hy) om,<- edv];rfl
 have hk1:(k:Int)+1=((k+1:Nat):Int):=by omega
 clear hmok hne hc2
 by_cases k4:1100<(y.m.D.length:Int)
 ·clear ih ih2 hj hjk
  refine qx1 ?_
  exact ⟨rfl,.inl rfl⟩
 refine qx1 ?_
 have q1:(0:Int)<=(y.m.D.length:Int)/20/\(y.m.D.length:Int)/20<=55:=by omega
 have q2:(y.m.D.length:Int).tdiv 20=(y.m.D.length:Int)/20:=Int.tdiv_eq_ediv_of_nonneg om
 rw [q2,jeG (n:=(y.m.D.length:Int)/20) ⟨by omega,by omega⟩,jeG (n:=n'+(y.m.D.length:Int)/20) ⟨by omega,by omega⟩,hk1]
 refine ih2 (x.ml.length-(k+1)) om _ _ ⟨k+1,_,rfl,by omega,rfl,rfl,by omega,by omega,fun j z hj' hz=>?_⟩
 by_cases e:j=k
 ·subst e
  rw [hy] at hz;cases hz
  omega
 ·exact hjk j z om hz
end
noncomputable def runS (L:List OpX) (st:St):St:=L.foldl (fun st x=>doS x.k x.a x.n x.t x.D st) st
theorem runS_take {L:List OpX} {i:Nat} {x:OpX} (hx:L[i]?=some x) (st:St):runS (L.take (i+1)) st=doS x.k x.a x.n x.t x.D (runS (L.take i) st):=by
 unfold runS
 rw [List.take_add_one,hx]
 simp
def Pw (h:H):Prop:=F.powB<h.nx /\ ∃ l ro,h.get F.powB=some (.cells l ro)/\jjj 20 1 l=true
theorem Pw.old {h h':H} (p:Pw h) (o:Old h h'):Pw h':=⟨zr p.1 o.1,by obtain ⟨l,ro,h1,h2⟩:=p.2;exact ⟨l,ro,by rw [o.2 F.powB p.1,h1],h2⟩⟩
theorem Pw.ch {h h':H} {B:Nat->Prop} (p:Pw h) (c:Ch B h h') (h0 : ¬ B F.powB):Pw h':=⟨zr p.1 c.nx,by obtain ⟨l,ro,h1,h2⟩:=p.2;exact ⟨l,ro,by rw [c.get F.powB p.1 h0,h1],h2⟩⟩
theorem jhE {h:H} {u:Nat} (p:Pw h):jcn F.powB u h=some (.str (dec u),h):=by
 obtain ⟨_,l,ro,h1,h2⟩:=p
 unfold jcn
 cases Nat.blt u 100 with
 | true=>rfl
 | false=>simp only [cond_false,h1,h2,cond_true]
def jeB:Int->List UInt8
 | 0=>[110,111,110,101]
 | 1=>[105,110]
 | 2=>[111,117,116]
 | _=>[99,108,111,115,101,100]
theorem jjr (i:Int):(jeB i).length<=6:=by unfold jeB;split<;>simp
def jhq (r:Option (List UInt8)) (cap:Nat):List UInt8:=match r with
 | none=>[45]
 | some b=>hexS b++[47]++dec cap
def jbs (what:Int) (shut:Bool) (r:Option (List UInt8)) (cap:Nat):List (List UInt8):=jeB what :: ((if shut then [[115,104,117,116]] else [])++[jhq r cap])
section
variable {cl:Nat->Call} (hcl:Sem cl)
include hcl
theorem jcC {d u:Nat} {h:H} (hd:1<=d) (hu:u<9223372036854775808) (p:Pw h):cl d (.fn F.jiR) [.i (u:Int)] h=some (.str (dec u),h):=by
 rw [jmJ hcl hd (p:=jjm F.powB) rfl]
 have h1:Nat.ble u 9223372036854775807=true:=Nat.ble_eq_true_of_le om
 show (bif Nat.ble u 9223372036854775807 then jcn F.powB u h else none)=_
 rw [h1,cond_true,jhE p]
theorem w_FmtU {d u:Nat} {h:H} (hd:1<=d) (hu:u<18446744073709551616) (p:Pw h):cl d (.fn F.jeO) [.int .u64 (u:Int),.i 10] h=some (.str (dec u),h):=by
 rw [jmJ hcl hd (p:=jjo F.powB) rfl]
 have h1:Nat.ble u 18446744073709551615=true:=Nat.ble_eq_true_of_le om
 show (bif Nat.ble u 18446744073709551615 then jcn F.powB u h else none)=_
 rw [h1,cond_true,jhE p]
theorem w_Join {d b o n:Nat} {c:Cap} {h:H} {l:List V} {ro:Bool} {xs:List (List UInt8)} {s:List UInt8} (hd:1<=d) (hg:h.get b=some (.cells l ro)) (hx:(l.drop o).take n=xs.map V.str) (hn:xs.length=n) (hs:(Lib.join xs s).length<=100000000) (hn2:n<=1000000) :
  cl d (.fn F.jfN) [.slice (some (b,o)) n c,.str s] h=some (.str (Lib.join xs s),h):=by
 rw [jmJ hcl hd (p:=jio) rfl]
 have h1:(Nat.beq xs.length n&&(Nat.ble n 140737488355328&&Nat.ble (Lib.join xs s).length 140737488355328))=true:=by
  rw [show Nat.beq xs.length n=true by rw [hn];exact Nat.beq_refl n,Nat.ble_eq_true_of_le om,Nat.ble_eq_true_of_le om];rfl
 simp only [jio]
 rw [hg]
 dsimp only
 rw [hx,jk4]
 dsimp only
 rw [h1,cond_true]
end
theorem join2 (a b s:List UInt8):Lib.join [a,b] s=a++s++b:=by simp [Lib.join,List.intercalate]
theorem join3 (a b c s:List UInt8):Lib.join [a,b,c] s=a++s++b++s++c:=by simp [Lib.join,List.intercalate]
section
variable {call:Call} {fuel base:Nat} {K:List Fr} {e:Env} {h:H} {Q:Post} {ix:Nat} {dst at_:Option Nat} {ops:List Ins} {keep:List Nat}
theorem Ops.digit {x y:Opd} {n:Nat} (hx':x.ev e=some (.i (n:Int))) (hy:y.ev e=some (.i ((n:Int)+1))) (hn:n<16) (k:Ops call fuel base ops keep K (layv e dst (.str [hx n])) h Q) :
  Ops call fuel base (⟨ix,dst,.sliceS (.c (.str hexT)) (some x) (some y),none,at_,[]⟩ :: ops) keep K e h Q:=by
 refine Ops.pure rfl ?_ k
 have hh:(Opd.c (.str hexT)).ev e=some (.str hexT):=rfl
 simp only [I.pure,evo,hx',hy,hh]
 match n,hn with
 | 0,_=>rfl | 1,_=>rfl | 2,_=>rfl | 3,_=>rfl | 4,_=>rfl | 5,_=>rfl | 6,_=>rfl | 7,_=>rfl
 | 8,_=>rfl | 9,_=>rfl | 10,_=>rfl | 11,_=>rfl | 12,_=>rfl | 13,_=>rfl | 14,_=>rfl | 15,_=>rfl
 | n+16,h=>exact absurd h om
end
section
variable {cl:Nat->Call} (hcl:Sem cl)
include hcl
abbrev endC (what fd:Int) (rs wr:Bool) (v:V) (shut:Bool) (inn out:Int):List V:=[.i what,.i fd,.bool rs,.bool wr,v,.bool shut,.int .u64 inn,.int .u64 out]
theorem jmc {d cap b:Nat} {what fd inn out:Int} {ring:Option (List UInt8)} {wr shut:Bool} {sb:Env} {v:V} {s:List UInt8} {h:H} (hsb:sb=[]\/sb=[(15,.bool false)]) (hd:2<=d) (hg:h.get b=some (.cells (endC what fd ring.isSome wr v shut inn out) false)) (hbn:b<h.nx) (hb:VB h v (ring.getD [])) (hvn : ∀ z,v.at?=some z->z<h.nx) (hl:(ring.getD []).length<=90000)
  (hc:cap<9223372036854775808) (hs:s.length<=100) :
  Run (cl d) fuel c127_5 [] ([(1,.i (cap:Int)),(2,.p b 0),(5,.str s)]++sb) h (Fin c127.res fun x h'=>x = .str (s++[32]++jhq ring cap)/\Old h h'):=by
 rcases hsb with rfl | rfl
 all_goals
  dsimp only [List.append_nil,List.cons_append,List.nil_append]
  cases ring with
  | none=>
   dsimp only [Option.isSome_none] at hg
   repeat' (first|refine qxy ?_|refine zbf rfl (fun _=>?_) fun _=>?_|refine zbg rfl (fun _=>?_) fun _=>?_|refine zbh rfl (fun _=>?_) fun _=>?_|refine zbm rfl (fun _=>?_) fun _=>?_|refine zbn rfl (fun _=>?_) fun _=>?_)
   refine Ops.sadd rfl rfl Zc ?_
   repeat' (first|refine qxy ?_|refine zbf rfl (fun _=>?_) fun _=>?_|refine zbg rfl (fun _=>?_) fun _=>?_|refine zbh rfl (fun _=>?_) fun _=>?_|refine zbm rfl (fun _=>?_) fun _=>?_|refine zbn rfl (fun _=>?_) fun _=>?_)
   exact ⟨by simp [jhq],Old.refl h⟩
  | some l=>
   dsimp only [Option.isSome_some,Option.getD_some] at hg hb hl
   obtain ⟨a,c,rfl,hn,hf,hxx⟩:=hb
   repeat' (first|refine qxy ?_|refine zbf rfl (fun _=>?_) fun _=>?_|refine zbg rfl (fun _=>?_) fun _=>?_|refine zbh rfl (fun _=>?_) fun _=>?_|refine zbm rfl (fun _=>?_) fun _=>?_|refine zbn rfl (fun _=>?_) fun _=>?_)
   refine Ops.sadd rfl rfl Zc ?_
   repeat' (first|refine qxy ?_|refine zbf rfl (fun _=>?_) fun _=>?_|refine zbg rfl (fun _=>?_) fun _=>?_|refine zbh rfl (fun _=>?_) fun _=>?_|refine zbm rfl (fun _=>?_) fun _=>?_|refine zbn rfl (fun _=>?_) fun _=>?_)
   refine Run.loop (fun m e g=>∃ (i:Nat),m=l.length-i/\i<=l.length/\e=[(1,.i (cap:Int)),(2,.p b 0),(5,.str (s++[32]++hexS (l.take i))),(6,.i (i:Int))]/\Old h g)
    (k:=l.length) Ze ⟨0,by omega,by omega,by simp [hexS],Old.refl h⟩ ?_
   rintro _ _ g ⟨i,rfl,hi,rfl,old⟩ f ih
   have g1:g.get b=_:=(old.2 b hbn).trans hg
   by_cases hlt:i<l.length
   case neg=>
    obtain rfl:i=l.length:=by omega
    rw [List.take_length]
    obtain ⟨h1,e1,o1⟩:=jbA hcl (d:=d) (u:=cap) (h:=g) hd hc
    have:=ji7 l
    repeat' (first|refine qxy ?_|refine zbf rfl (fun _=>?_) fun _=>?_|refine zbg rfl (fun _=>?_) fun _=>?_|refine zbh rfl (fun _=>?_) fun _=>?_|refine zbm rfl (fun _=>?_) fun _=>?_|refine zbn rfl (fun _=>?_) fun _=>?_)
    refine Ops.sadd rfl rfl Zc ?_
    repeat' (first|refine qxy ?_|refine zbf rfl (fun _=>?_) fun _=>?_|refine zbg rfl (fun _=>?_) fun _=>?_|refine zbh rfl (fun _=>?_) fun _=>?_|refine zbm rfl (fun _=>?_) fun _=>?_|refine zbn rfl (fun _=>?_) fun _=>?_)
    refine Ops.sadd rfl rfl (by have:=jm5 (u:=cap) (m:=19) om om;simp;omega) ?_
    repeat' (first|refine qxy ?_|refine zbf rfl (fun _=>?_) fun _=>?_|refine zbg rfl (fun _=>?_) fun _=>?_|refine zbh rfl (fun _=>?_) fun _=>?_|refine zbm rfl (fun _=>?_) fun _=>?_|refine zbn rfl (fun _=>?_) fun _=>?_)
    exact ⟨by simp [jhq],old.trans o1⟩
   obtain ⟨q,o,cs,ro,rfl,q1,q2,q3⟩:=hxx (by rintro rfl;simp at hlt)
   have g2:g.get q=some (.cells cs ro):=by rw [old.2 q (hvn q rfl),q2]
   obtain ⟨y,hy⟩ : ∃ y,l[i]?=some y:=⟨_,za hlt⟩
   have hy256:=y.toNat_lt
   have q4:cs[o+i*1]?=some (.int .u8 (y.toNat:Int)):=by rw [Nat.mul_one];exact q3 i y hy
   have g3:(g.reserve 1).get b=_:=(H.get_reserve ..).trans g1
   have g4:(g.reserve 1).get q=some (.cells cs ro):=(H.get_reserve ..).trans g2
   repeat' (first|refine qxy ?_|refine zbf rfl (fun _=>?_) fun _=>?_|refine zbg rfl (fun _=>?_) fun _=>?_|refine zbh rfl (fun _=>?_) fun _=>?_|refine zbm rfl (fun _=>?_) fun _=>?_|refine zbn rfl (fun _=>?_) fun _=>?_)
   refine Run.region ?_
   repeat' (first|refine qxy ?_|refine zbf rfl (fun _=>?_) fun _=>?_|refine zbg rfl (fun _=>?_) fun _=>?_|refine zbh rfl (fun _=>?_) fun _=>?_|refine zbm rfl (fun _=>?_) fun _=>?_|refine zbn rfl (fun _=>?_) fun _=>?_)
   have e1:IntKind.u8.wrap ((y.toNat:Int).tdiv 16)=((y.toNat/16:Nat):Int):=by
    rw [show (y.toNat:Int).tdiv 16=((y.toNat/16:Nat):Int) from (Int.ofNat_tdiv _ 16).symm,IntKind.wrap_u8];omega
   have e2:(y.toNat:Int).tmod 16=((y.toNat%16:Nat):Int):=(Int.ofNat_tmod _ 16).symm
   rw [e1,e2]
   refine Ops.bslice2_at (xv := .int .u8 ((y.toNat/16:Nat):Int)) (yv := .int .u8 ((y.toNat%16:Nat):Int)) rfl rfl rfl rfl ?_
   have g5:((g.reserve 1).set (g.nx+0) (.cells [.int .u8 ((y.toNat/16:Nat):Int),.int .u8 ((y.toNat%16:Nat):Int)] false)).get (g.nx+0)=some (.cells [.int .u8 ((y.toNat/16:Nat):Int),.int .u8 ((y.toNat%16:Nat):Int)] false):=jab ..
   have o2:Old g ((g.reserve 1).set (g.nx+0) (.cells [.int .u8 ((y.toNat/16:Nat):Int),.int .u8 ((y.toNat%16:Nat):Int)] false)):=⟨by simp,fun j hj=>by rw [jaa om,H.get_reserve]⟩
   generalize (g.reserve 1).set (g.nx+0) (.cells [.int .u8 ((y.toNat/16:Nat):Int),.int .u8 ((y.toNat%16:Nat):Int)] false)=g6 at g5 o2 ⊢
   repeat' (first|refine qxy ?_|refine zbf rfl (fun _=>?_) fun _=>?_|refine zbg rfl (fun _=>?_) fun _=>?_|refine zbh rfl (fun _=>?_) fun _=>?_|refine zbm rfl (fun _=>?_) fun _=>?_|refine zbn rfl (fun _=>?_) fun _=>?_)
   have hlen:=ji7 (l.take i)
   have hlt2:(l.take i).length<=90000:=by simp;omega
   refine Run.loop (fun m e g'=>∃ (j:Nat),m=2-j/\j<=2/\e=[(1,.i (cap:Int)),(2,.p b 0),(5,.str (s++[32]++hexS (l.take i)++([hx (y.toNat/16),hx (y.toNat%16)].take j))),(6,.i (i:Int)),(44,.slice (some (g.nx+0,0)) 2 (.fix 2)),(45,.i 2),(46,.i (j:Int))]/\g'=g6)
    (k:=2) Ze ⟨0,by omega,by omega,by simp,rfl⟩ ?_
   rintro _ _ g' ⟨j,rfl,hj,rfl,rfl⟩ f2 ih2
   by_cases hj2:j<2
   case neg=>
    obtain rfl:j=2:=by omega
    repeat' (first|refine qxy ?_|refine zbf rfl (fun _=>?_) fun _=>?_|refine zbg rfl (fun _=>?_) fun _=>?_|refine zbh rfl (fun _=>?_) fun _=>?_|refine zbm rfl (fun _=>?_) fun _=>?_|refine zbn rfl (fun _=>?_) fun _=>?_)
    refine ih (l.length-(i+1)) om _ _ ⟨i+1,rfl,by omega,?_,old.trans o2⟩
    rw [jj0 hy,List.append_assoc (s++[32])];rfl
   have key : ∃ z:Nat,z<16/\[V.int .u8 ((y.toNat/16:Nat):Int),.int .u8 ((y.toNat%16:Nat):Int)][0+j*1]?=some (.int .u8 (z:Int))/\[hx (y.toNat/16),hx (y.toNat%16)].take (j+1)=[hx (y.toNat/16),hx (y.toNat%16)].take j++[hx z]:=by
    match j,hj2 with
    | 0,_=>exact ⟨y.toNat/16,by omega,rfl,rfl⟩
    | 1,_=>exact ⟨y.toNat%16,by omega,rfl,rfl⟩
   obtain ⟨z,hz,z1,z2⟩:=key
   have e3:IntKind.i64.wrap (z:Int)=(z:Int):=by rw [IntKind.wrap_i64];omega
   repeat' (first|refine qxy ?_|refine zbf rfl (fun _=>?_) fun _=>?_|refine zbg rfl (fun _=>?_) fun _=>?_|refine zbh rfl (fun _=>?_) fun _=>?_|refine zbm rfl (fun _=>?_) fun _=>?_|refine zbn rfl (fun _=>?_) fun _=>?_)
   rw [e3]
   refine Ops.digit rfl rfl hz ?_
   repeat' (first|refine qxy ?_|refine zbf rfl (fun _=>?_) fun _=>?_|refine zbg rfl (fun _=>?_) fun _=>?_|refine zbh rfl (fun _=>?_) fun _=>?_|refine zbm rfl (fun _=>?_) fun _=>?_|refine zbn rfl (fun _=>?_) fun _=>?_)
   have hj3:([hx (y.toNat/16),hx (y.toNat%16)].take j).length<=2:=by simp;omega
   refine Ops.sadd rfl rfl (by simp at hj3 hlen hlt2 ⊢;omega) ?_
   repeat' (first|refine qxy ?_|refine zbf rfl (fun _=>?_) fun _=>?_|refine zbg rfl (fun _=>?_) fun _=>?_|refine zbh rfl (fun _=>?_) fun _=>?_|refine zbm rfl (fun _=>?_) fun _=>?_|refine zbn rfl (fun _=>?_) fun _=>?_)
   refine ih2 (2-(j+1)) om _ _ ⟨j+1,rfl,by omega,?_,rfl⟩
   rw [z2,<- List.append_assoc];rfl
omit hcl in
theorem jjM {what:Int} {shut:Bool} {r:Option (List UInt8)} {cap:Nat} : Lib.join (jbs what shut r cap) [32]=jeB what++(if shut then [32,115,104,117,116] else [])++[32]++jhq r cap:=by
 unfold jbs
 cases shut with
 | true=>simp [join3]
 | false=>simp [join2]
theorem jmV {d cap:Nat} {e:En} {v:V} {h:H} (hd:3<=d) (hw:0<=e.what/\e.what<=3) (hb:VB h v (e.ring.getD [])) (hvn : ∀ z,v.at?=some z->z<h.nx) (hl:(e.ring.getD []).length<=90000) (hc:cap<9223372036854775808) :
  ∃ h',cl d (.fn F.je9) [.agg (e.rcells v),.i (cap:Int)] h=some (.str (Lib.join (jbs e.what e.shut e.ring cap) [32]),h')/\Old h h':=by
 rw [jjM]
 obtain ⟨what,fd,ring,writes,shut,inn,out⟩:=e
 dsimp only at hw hb hl ⊢
 obtain ⟨w,rfl⟩ : ∃ w:Nat,what=(w:Int):=⟨what.toNat,by omega⟩
 have hw4:w<4:=by omega
 have hnm:[V.str [110,111,110,101],.str [105,110],.str [111,117,116],.str [99,108,111,115,101,100]][0+w*1]?=some (.str (jeB (w:Int))):=by
  match w,hw4 with
  | 0,_=>rfl | 1,_=>rfl | 2,_=>rfl | 3,_=>rfl
 have hnl:=jjr (w:Int)
 refine jah (at_ hcl om rfl rfl rfl ?_)
 unfold En.rcells
 dsimp only
 refine qx1 ?_
 refine Ops.make (ob := .cells (endC w fd ring.isSome writes v shut inn out) false) rfl rfl ?_
 have g0:(h.new (.cells (endC w fd ring.isSome writes v shut inn out) false)).get h.nx=some (.cells (endC w fd ring.isSome writes v shut inn out) false):=jac _
 have l1:h.nx<(h.new (.cells (endC w fd ring.isSome writes v shut inn out) false)).nx:=by simp
 have o1:Old h (h.new (.cells (endC w fd ring.isSome writes v shut inn out) false)):=⟨by simp,fun _ hj=>jad hj⟩
 generalize h.new (.cells (endC w fd ring.isSome writes v shut inn out) false)=h1 at g0 l1 o1 ⊢
 refine qx1 ?_
 refine Ops.make (ob := .cells [V.str [110,111,110,101],.str [105,110],.str [111,117,116],.str [99,108,111,115,101,100]] false) rfl rfl ?_
 have g2:=jac (h:=h1) (.cells [V.str [110,111,110,101],.str [105,110],.str [111,117,116],.str [99,108,111,115,101,100]] false)
 have g3:(h1.new (.cells [V.str [110,111,110,101],.str [105,110],.str [111,117,116],.str [99,108,111,115,101,100]] false)).get h.nx=_:=(jad l1).trans g0
 have o2:Old h1 (h1.new (.cells [V.str [110,111,110,101],.str [105,110],.str [111,117,116],.str [99,108,111,115,101,100]] false)):=⟨by simp,fun _ hj=>jad hj⟩
 generalize h1.new (.cells [V.str [110,111,110,101],.str [105,110],.str [111,117,116],.str [99,108,111,115,101,100]] false)=h2 at g2 g3 o2 ⊢
 have o3:=o1.trans o2
 have hb2:VB h2 v (ring.getD []):=hb.keep o3.1 fun z hz=>o3.2 z (hvn z hz)
 obtain ⟨C,hC⟩ : ∃ C,C=c127_5:=⟨_,rfl⟩
 simp only [c127_6,<- hC,yH]
 cases shut with
 | true=>
  refine qx1 ?_
  refine Ops.sadd rfl rfl Zc ?_
  refine qx1 ?_
  rw [hC]
  exact Run.fin_mono (jmc hcl (d:=d-1) (s:=jeB (w:Int)++[32,115,104,117,116]) (sb:=[]) (.inl rfl) om g3 (zr l1 o2.1) hb2 (fun z hz=>zr (hvn z hz) o3.1) hl hc Zc) fun x h' ⟨p,q⟩=>⟨by simp [p],o3.trans q⟩
 | false=>
  refine qx1 ?_
  rw [hC]
  exact Run.fin_mono (jmc hcl (d:=d-1) (s:=jeB (w:Int)) (sb:=[(15,.bool false)]) (.inr rfl) om g3 (zr l1 o2.1) hb2 (fun z hz=>zr (hvn z hz) o3.1) hl hc om) fun x h' ⟨p,q⟩=>⟨by simp [p],o3.trans q⟩
end
end Am.Sigs
namespace Am
open Go Am.Sigs
structure Hd (p:Prop):Prop where
 g:p
structure Kc (h:H) (b:Nat) (l:List V) (ro:Bool):Prop where
 lt:b<h.nx
 at_:h.get b=some (.cells l ro)
theorem Kc.old {h h':H} {b:Nat} {l:List V} {ro:Bool} (k:Kc h b l ro) (o:Old h h'):Kc h' b l ro :=
 ⟨zr k.lt o.1,by rw [o.2 _ k.lt,k.at_]⟩
section
variable {call:Call} {fuel base:Nat} {K:List Fr} {e:Env} {h h' h0:H} {Q:Post} {ix:Nat} {dst:Option Nat} {ops:List Ins} {keep:List Nat} {at_:Option Nat} {c:List (Nat × I × Option (Nat × Bool))}
end
end Am
namespace Am.Sigs
open Am Go
abbrev strs (l:List (List UInt8)):List V:=l.map V.str
theorem strs_one (l:List (List UInt8)):(strs l).all V.one=true:=by
 rw [List.all_eq_true]
 intro x hx
 obtain ⟨s,_,rfl⟩:=List.mem_map.1 hx
 rfl
def SR (N:Nat) (h:H) (v:V) (l:List (List UInt8)):Prop :=
 ∃ q c,N<=q/\q<h.nx/\v = .slice (some (q,0)) l.length c/\(c = .grow 1\/c = .fix l.length)/\h.get q=some (.cells (strs l) false)
theorem SR.keep {N M:Nat} {h h':H} {v:V} {l:List (List UInt8)} (r:SR N h v l) (hM:M<=N) (o:Old h h'):SR M h' v l:=by
 obtain ⟨q,c,h1,h2,e,hc,hg⟩:=r
 exact ⟨q,c,by omega,zr h2 o.1,e,hc,by rw [o.2 q h2,hg]⟩
theorem SR.keep_ne {N:Nat} {h h':H} {v:V} {l:List (List UInt8)} (r:SR N h v l) (hx:h.nx<=h'.nx) (k : ∀ j,v.at?=some j->h'.get j=h.get j):SR N h' v l:=by
 obtain ⟨q,c,h1,h2,rfl,hc,hg⟩:=r
 exact ⟨q,c,h1,by omega,rfl,hc,by rw [k q rfl,hg]⟩
theorem SR.at_ge {N:Nat} {h:H} {v:V} {l:List (List UInt8)} (r:SR N h v l) {j:Nat} (e:v.at?=some j):N<=j/\j<h.nx:=by
 obtain ⟨q,c,h1,h2,rfl,hc,hg⟩:=r
 cases e;exact ⟨h1,h2⟩
theorem SR.app {N m sb so:Nat} {h:H} {v:V} {l new:List (List UInt8)} {ls:List V} {ro:Bool} {cap:Cap} (r:SR N h v l) (hN:N<=h.nx) (hm:0<m) (hs:h.get sb=some (.cells ls ro)) (hsl:so+m<=ls.length) (hnew:(ls.drop so).take m=strs new) (hb:l.length+m<=1000000) :
  ∃ v' h',jaQ h 1 16 v (.slice (some (sb,so)) m cap)=some (v',h')/\SR N h' v' (l++new)/\h'.nx=h.nx+1/\v'.at?=some h.nx /\ ∀ j,j<h.nx->v.at?≠some j->h'.get j=h.get j:=by
 obtain ⟨q,c,h1,h2,rfl,hc,hg⟩:=r
 have hlen:new.length=m:=by
  have:=congrArg List.length hnew
  simp at this;omega
 have hsrc:jaz h 1 m (.slice (some (sb,so)) m cap)=some (strs new):=by
  have:(m*1 == 0)=false:=by simp;omega
  simp only [jaz,this,cond_false]
  rw [jco hs om,Nat.mul_one,hnew]
 have hcond:(Nat.ble ((l.length+m)*16) (2 ^ 46)&&Nat.ble (l.length+m) (2 ^ 46))=true:=by simp only [zp,Nat.ble_eq];omega
 have h10:(m == 0)=false:=by simp;omega
 have hll:(l++new).length=l.length+m:=by simp [hlen]
 rcases hc with rfl | rfl
 ·have hgd:(Nat.beq 1 1&&Nat.ble (0+l.length*1) (strs l).length&&(strs new).all V.one)=true:=by
   simp only [zp,Nat.ble_eq,strs_one,and_true]
   exact ⟨rfl,by simp⟩
  have htk:((strs l).drop 0).take (l.length*1)=strs l:=by rw [zk,zh Zd]
  refine ⟨.slice (some (h.nx,0)) (l.length+m) (.grow 1),(h.kill q).new (.cells (strs (l++new)) false),?_,⟨h.nx,.grow 1,hN,by simp,by rw [hll],.inl rfl,?_⟩,by simp,rfl,?_⟩
  ·simp only [jaQ,lenOf,hsrc]
   rw [hcond]
   simp only [cond_true,h10,cond_false,hg]
   rw [hgd]
   simp only [cond_true,newRow,htk,strs,List.map_append]
   rfl
  ·exact jac (h:=h.kill q) _
  ·intro j hj hv
   have hjq:j≠q:=fun e=>hv (by subst e;rfl)
   rw [jad (by simpa using hj),jaj hjq]
 ·have hld:(bif l.length*1 == 0 then some [] else h.load q 0 (l.length*1))=some (strs l):=by
   by_cases h0:l=[]
   ·subst h0;rfl
   ·have:(l.length*1 == 0)=false:=by
     have:=List.length_pos_iff.2 h0
     simp [h0]
    rw [this,cond_false,jco hg Zd,zk,zh Zd]
  have hno:Nat.ble (l.length+m) l.length=false:=by
   cases e:Nat.ble (l.length+m) l.length with
   | false=>rfl
   | true=>have:=zu e;omega
  refine ⟨.slice (some (h.nx,0)) (l.length+m) (.grow 1),h.new (.cells (strs (l++new)) false),?_,⟨h.nx,.grow 1,hN,by simp,by rw [hll],.inl rfl,jac _⟩,by simp,rfl,fun j hj _=>jad hj⟩
  simp only [jaQ,lenOf,hsrc]
  rw [hcond]
  simp only [cond_true,h10,cond_false,hno,hld]
  simp only [newRow,strs,List.map_append]
theorem jfi (e:Env) (d:Nat) (v:V):(Opd.t d).ev (layv e (some d) v)=some v:=by
 show (layv e (some d) v).get d=_
 rw [jb0,if_pos rfl]
section
variable {call:Call} {fuel base:Nat} {K:List Fr} {e:Env} {h h0:H} {Q:Post} {ix i1 i2 d1 d2:Nat} {dst at_:Option Nat} {ops:List Ins} {keep:List Nat} {c:List (Nat × I × Option (Nat × Bool))}
theorem Ops.strA {x y:Opd} {sv:V} {l new:List (List UInt8)} {sb so m:Nat} {ls:List V} {ro:Bool} {cap:Cap} (hx:x.ev e=some sv) (hy:y.ev e=some (.slice (some (sb,so)) m cap)) (o:Old h0 h) (r:SR h0.nx h sv l) (hm:0<m) (hs:h.get sb=some (.cells ls ro)) (hsl:so+m<=ls.length) (hnew:(ls.drop so).take m=strs new) (hb:l.length+m<=1000000)
  (hk : ∀ h',Old h0 h'->jaH e h' c=true) (k : ∀ v' h',SR h0.nx h' v' (l++new)->Old h0 h'->h'.nx=h.nx+1->(∀ j,j<h.nx->sv.at?≠some j->h'.get j=h.get j)->Ops call fuel base ops keep K (layv e dst v') h' Q) :
  Ops call fuel base (⟨ix,dst,.append 1 16 x y,none,none,c⟩ :: ops) keep K e h Q:=by
 obtain ⟨v',h',e1,e2,e3,e4,e5⟩:=r.app (cap:=cap) o.1 hm hs hsl hnew hb
 have o':Old h0 h':=⟨by have:=o.1;omega,fun j hj=>by rw [e5 j (zr hj o.1) fun e=>by have:=(r.at_ge e).1;omega,o.2 j hj]⟩
 exact Ops.step_chk (I.run_eff rfl (by simp only [I.eff,hx,hy,e1])) (hk h' o') (k v' h' e2 o' e3 e5)
theorem Ops.strS {x y:Opd} {sv yv:V} {l new:List (List UInt8)} {M:Nat} (hx:x.ev e=some sv) (hy:y.ev e=some yv) (o:Old h0 h) (r:SR h0.nx h sv l) (r2:SR M h yv new) (hn:new≠[]) (hb:l.length+new.length<=1000000)
  (hk : ∀ h',Old h0 h'->jaH e h' c=true) (k : ∀ v' h',SR h0.nx h' v' (l++new)->Old h0 h'->h'.nx=h.nx+1->(∀ j,j<h.nx->sv.at?≠some j->h'.get j=h.get j)->Ops call fuel base ops keep K (layv e dst v') h' Q) :
  Ops call fuel base (⟨ix,dst,.append 1 16 x y,none,none,c⟩ :: ops) keep K e h Q:=by
 obtain ⟨q,c,h1,h2,rfl,hc,hg⟩:=r2
 have:=List.length_pos_iff.2 hn
 exact Ops.strA hx hy o r this hg Zd (by rw [zk,zh Zd]) hb hk k
theorem Ops.strP {x s:Opd} {sv z:V} {l:List (List UInt8)} {t:List UInt8} (hx:x.ev e=some (.str t)) (hs:s.ev (layv e (some d1) (.slice (some (h.nx,0)) 1 (.fix 1)))=some sv) (o:Old h0 h) (r:SR h0.nx h sv l) (hb:l.length<=900000)
  (k : ∀ v' h',SR h0.nx h' v' (l++[t])->Old h0 h'->h'.nx=h.nx+2->(∀ j,j<h.nx->sv.at?≠some j->h'.get j=h.get j)->Ops call fuel base ops keep K (layv (layv e (some d1) (.slice (some (h.nx,0)) 1 (.fix 1))) (some d2) v') h' Q) :
  Ops call fuel base (⟨i1,some d1,.bslice 1 1 [z] [(0,x)],none,none,[]⟩ :: ⟨i2,some d2,.append 1 16 s (.t d1),none,none,[]⟩ :: ops) keep K e h Q:=by
 refine Ops.make (ob := .cells [V.str t] false) (mk:=fun b=>.slice (some (b,0)) 1 (.fix 1)) rfl ?_ ?_
 ·simp only [I.make,jbt,List.map,hx];rfl
 ·have on:Old h (h.new (.cells [V.str t] false)):=⟨by simp,fun _ hj=>jad hj⟩
  refine Ops.strA (new:=[t]) hs (jfi ..) (o.trans on) (r.keep (zq _) on) Nat.one_pos (jac _) Zd rfl om (fun _ _=>rfl) fun v' h' a b c d=>k v' h' a b (by rw [c];simp) fun j hj hv=>by rw [d j Zc hv,jad hj]
theorem Ops.strP_at {x s:Opd} {sv z:V} {l:List (List UInt8)} {t:List UInt8} {b:Nat} (hx:x.ev e=some (.str t)) (hs:s.ev (layv e (some d1) (.slice (some (base+b,0)) 1 (.fix 1)))=some sv) (o:Old h0 h) (r:SR h0.nx h sv l) (h1:h0.nx<=base+b) (h2:base+b<h.nx) (h3:sv.at?≠some (base+b)) (hb:l.length<=900000)
  (k : ∀ v' h',SR h0.nx h' v' (l++[t])->Old h0 h'->h'.nx=h.nx+1->(∀ j,j<h.nx->j≠base+b->sv.at?≠some j->h'.get j=h.get j)->Ops call fuel base ops keep K (layv (layv e (some d1) (.slice (some (base+b,0)) 1 (.fix 1))) (some d2) v') h' Q) :
  Ops call fuel base (⟨i1,some d1,.bslice 1 1 [z] [(0,x)],none,some b,[]⟩ :: ⟨i2,some d2,.append 1 16 s (.t d1),none,none,[]⟩ :: ops) keep K e h Q:=by
 refine Ops.make_at (ob := .cells [V.str t] false) (mk:=fun b=>.slice (some (b,0)) 1 (.fix 1)) rfl ?_ ?_
 ·simp only [I.make,jbt,List.map,hx];rfl
 ·have on:Old h0 (h.set (base+b) (.cells [V.str t] false)):=⟨o.1,fun j hj=>by rw [jaa om,o.2 j hj]⟩
  refine Ops.strA (new:=[t]) hs (jfi ..) on (r.keep_ne (zq _) fun j hj=>jaa fun e=>h3 (by rw [hj,e])) Nat.one_pos (jab _) Zd rfl om (fun _ _=>rfl) fun v' h' a b c d=>k v' h' a b c fun j hj hjb hv=>by rw [d j hj hv,jaa hjb]
end
theorem Row.sr {N:Nat} {h:H} {v:V} {l:List (List UInt8)} (r:Row N h 1 v l.length (strs l)) (hl:l≠[]):SR N h v l:=by
 rcases r with ⟨h1,_⟩ | ⟨q,h1,h2,rfl,h4,_⟩
 ·exact absurd (zn.1 h1) hl
 ·exact ⟨q,_,h1,h2,rfl,.inl rfl,h4⟩
theorem jj1 {q:List UInt8} {cap:Nat} (h1:q.length<=cap) (h2:cap<=65536):(hexS q).length<=131072:=by
 rw [ji7];omega
theorem jbw {u:Nat} (h:u<18446744073709551616):(dec u).length<=20:=jm5 (m:=19) om h
section
variable {cl:Nat->Call} (hcl:Sem cl)
include hcl
theorem wd_ring {d bx r b cap:Nat} {v:V} {l:List (List UInt8)} {q:List UInt8} {e:En} {h h0:H} (hd:8<=d) (p:Pw h) (o:Old h0 h) (g:h.get bx=some (.cells (e.cells r) false)) (lb:bx<h.nx) (hq:e.ring=some q) (R:jay h r b q cap) (l1:r<h.nx) (l2:b<h.nx) (s:SR h0.nx h v l) (hl:l.length<=10) :
  Run (cl d) fuel c122_0 [] [(1,.p bx 0),(3,v),(17,.bool false)] h (Fin c122.res fun x h'=>SR h0.nx h' x (l++[hexS q++[47]++dec cap])/\Old h0 h'):=by
 obtain ⟨buf,frm,inn,out,C,W⟩:=R
 have w1:=W.fit
 have w2:=W.small
 refine Run.seq (Run.region ?_)
 have oG:Old h (h.reserve 1):=⟨by simp,fun j _=>H.get_reserve ..⟩
 have xG:(h.reserve 1).nx=h.nx+1:=by simp
 have sG:=s.keep (zq _) oG
 have CG:RingC (h.reserve 1) r b buf frm q.length cap inn out:=⟨by rw [oG.2 r l1,C.hr],by rw [oG.2 b l2,C.hb]⟩
 generalize h.reserve 1=G at oG xG sG CG ⊢
 have gG:G.get bx=some (.cells (e.cells r) false):=by rw [oG.2 bx lb,g]
 have q2:(e.cells r)[0+2]?=some (.p r 0):=by show some (En.ptr e.ring r)=_;rw [hq];rfl
 have eLen:=jh6 hcl (d:=d) om CG
 obtain ⟨lv,h1,eLook,row,_,ch1⟩:=jmh hcl (d:=d) (n:=(q.length:Int)) om CG W om om
 rw [Int.min_self,zw,List.take_length] at row
 have o1:Old G h1:=Old.ofCh ch1
 obtain ⟨h2,eHex,o2⟩:=sp_hex hcl (d:=d) om row om
 have o12:=o1.trans o2
 have g1:h1.get bx=some (.cells (e.cells r) false):=by rw [o1.2 bx om,gG]
 have g2:h2.get bx=some (.cells (e.cells r) false):=by rw [o12.2 bx om,gG]
 have C2:RingC h2 r b buf frm q.length cap inn out:=⟨by rw [o12.2 r om,CG.hr],by rw [o12.2 b om,CG.hb]⟩
 have eLen2:=jh6 hcl (d:=d) om C2
 have eRoom:=jjW hcl (d:=d) om C2 w1 w2
 have p2:Pw h2:=(p.old oG).old o12
 have eIt:=jcC hcl (d:=d) (u:=cap) om om p2
 have hxl:=jj1 w1 w2
 have hdl:=jbw (u:=cap) om
 clear C W CG C2 row ch1
 refine qx1 ?_
 refine Ops.callf_chk rfl eLen (by repeat (first | apply jaA | refine jav rfl gG q2 rfl ?_)) ?_
 refine Ops.callf_chk rfl eLook (by repeat (first | apply jaA | refine jav rfl g1 q2 rfl ?_)) ?_
 refine Ops.callf_chk rfl eHex (by repeat (first | apply jaA | refine jav rfl g2 q2 rfl ?_)) ?_
 refine Ops.sadd rfl rfl Zc ?_
 refine Ops.callf_chk rfl eLen2 (by repeat (first | apply jaA | refine jav rfl g2 q2 rfl ?_)) ?_
 refine qx1 ?_
 rw [show (q.length:Int)+((cap-q.length:Nat):Int)=(cap:Int) by omega]
 refine qx1 ?_
 refine Ops.sadd rfl rfl Zc ?_
 have oh2:Old h0 h2:=(o.trans oG).trans o12
 refine Ops.strP_at (h0:=h0) (l:=l) rfl rfl oh2 (sG.keep (zq _) o12) ?_ ?_ ?_ om fun v' h' s' o' _ _=>?_
 ·have:=o.1;omega
 ·have:=o12.1;omega
 ·intro e
  have:=(s.at_ge e).2
  omega
 ·refine qx1 ?_
  exact ⟨s',o'⟩
theorem jk6 {d r b cap:Nat} {e:En} {h:H} (hd:9<=d) (p:Pw h) (hw:0<=e.what/\e.what<=3) (hR : ∀ q,e.ring=some q->jay h r b q cap/\r<h.nx/\b<h.nx) :
  ∃ v h',cl d (.fn F.jgz) [.agg (e.cells r)] h=some (v,h')/\SR h.nx h' v (jbs e.what e.shut e.ring cap)/\Old h h':=by
 obtain ⟨w,hww⟩ : ∃ w:Nat,e.what=(w:Int):=⟨e.what.toNat,by omega⟩
 have hw4:w<4:=by omega
 have hnm:[V.str [110,111,110,101],.str [105,110],.str [111,117,116],.str [99,108,111,115,101,100]][0+(w:Int).toNat*1]?=some (.str (jeB (w:Int))):=by
  match w,hw4 with
  | 0,_=>rfl | 1,_=>rfl | 2,_=>rfl | 3,_=>rfl
 rw [hww]
 refine at_ hcl om rfl rfl rfl ?_
 obtain ⟨C2,hC2⟩ : ∃ C,C=c122_2:=⟨_,rfl⟩
 simp only [c122,c122_3,<- hC2,uF,yB]
 refine qx1 ?_
 refine Ops.make (ob := .cells (e.cells r) false) rfl rfl ?_
 have o1:Old h (h.new (.cells (e.cells r) false)):=(Old.refl h).new
 have g1:=jac (h:=h) (.cells (e.cells r) false)
 have l1:h.nx<(h.new (.cells (e.cells r) false)).nx:=by simp
 generalize h.new (.cells (e.cells r) false)=h1 at o1 g1 l1 ⊢
 refine qx1 ?_
 refine Ops.make (ob := .cells [V.str [110,111,110,101],.str [105,110],.str [111,117,116],.str [99,108,111,115,101,100]] false) rfl rfl ?_
 have o2:Old h1 (h1.new (.cells [V.str [110,111,110,101],.str [105,110],.str [111,117,116],.str [99,108,111,115,101,100]] false)):=(Old.refl h1).new
 have g2:=jac (h:=h1) (.cells [V.str [110,111,110,101],.str [105,110],.str [111,117,116],.str [99,108,111,115,101,100]] false)
 generalize h1.new (.cells [V.str [110,111,110,101],.str [105,110],.str [111,117,116],.str [99,108,111,115,101,100]] false)=h2 at o2 g2 ⊢
 have g1':h2.get h.nx=some (.cells (e.cells r) false):=by rw [o2.2 _ l1,g1]
 have q0:(e.cells r)[0+0]?=some (.i (w:Int)):=by rw [<- hww];rfl
 have q2:(e.cells r)[0+2]?=some (En.ptr e.ring r):=rfl
 have q4:(e.cells r)[0+4]?=some (.bool e.shut):=rfl
 have o12:=o1.trans o2
 refine qx1 ?_
 refine Ops.make (ob := .cells [V.str (jeB (w:Int))] false) (mk:=fun b=>.slice (some (b,0)) 1 (.fix 1)) rfl rfl ?_
 have o3:Old h2 (h2.new (.cells [V.str (jeB (w:Int))] false)):=(Old.refl h2).new
 have s3:SR h.nx (h2.new (.cells [V.str (jeB (w:Int))] false)) (.slice (some (h2.nx,0)) 1 (.fix 1)) [jeB (w:Int)]:=⟨h2.nx,_,o12.1,by simp,rfl,.inr rfl,jac _⟩
 have n2:=o2.1
 generalize (h2.new (.cells [V.str (jeB (w:Int))] false))=h3 at o3 s3 ⊢
 have hv3:(V.slice (some (h2.nx,0)) 1 (.fix 1)).at?≠some h.nx:=fun e=>by have e:some h2.nx=some h.nx:=e;have:=Option.some.inj e;omega
 generalize V.slice (some (h2.nx,0)) 1 (.fix 1)=v3 at s3 hv3 ⊢
 have g3:h3.get h.nx=some (.cells (e.cells r) false):=by rw [o3.2 _ om,g1']
 have o13:=o12.trans o3
 have n3:=o3.1
 clear g1 g1' g2 hnm
 refine qx1 ?_
 rw [hC2]
 refine Run.fin_mono (R:=fun x h'=>SR h.nx h' x (([jeB (w:Int)]++if e.shut then [[115,104,117,116]] else [])++[jhq e.ring cap])/\Old h h') ?_ fun x h' ⟨a,b⟩=>⟨by simpa [jbs] using a,b⟩
 suffices key : ∀ (sb:Env) v4 h4 l4,SR h.nx h4 v4 l4->Old h h4->h4.get h.nx=some (.cells (e.cells r) false)->h.nx<h4.nx->l4.length<=9->Run (cl (d-1)) fuel c122_1 [] ((1,.p h.nx 0) :: (3,v4) :: sb) h4 (Fin c122.res fun x h'=>SR h.nx h' x (l4++[jhq e.ring cap])/\Old h h') by
  obtain ⟨C,hC⟩ : ∃ C,C=c122_1:=⟨_,rfl⟩
  simp only [c122_2,<- hC,yH]
  cases hs:e.shut with
  | false=>
   rw [hs] at q4
   refine qx1 ?_
   rw [hC]
   exact Run.fin_mono (key [(11,.bool false)] v3 h3 _ s3 o13 g3 om Zd) fun x h' ⟨a,b⟩=>⟨by simpa using a,b⟩
  | true=>
   rw [hs] at q4
   refine qx1 ?_
   refine Ops.strP (h0:=h) (l:=[jeB (w:Int)]) rfl rfl o13 s3 Zd fun v4 h4 s4 o4 x4 k4=>?_
   refine qx1 ?_
   rw [hC]
   refine key [] v4 h4 _ s4 o4 ?_ om Zd
   rw [k4 _ om fun e=>hv3 e,g3]
 intro sb v4 h4 l4 s4 o4 g4 n4 hl4
 cases hr:e.ring with
 | none=>
  rw [hr] at q2
  have q2:(e.cells r)[0+2]?=some (.ptr none):=q2
  refine qx1 ?_
  refine Ops.strP (h0:=h) (l:=l4) rfl rfl o4 s4 om fun v5 h5 s5 o5 _ _=>?_
  refine qx1 ?_
  exact ⟨s5,o5⟩
 | some q=>
  obtain ⟨R,l1',l2'⟩:=hR q hr
  rw [hr] at q2
  have q2:(e.cells r)[0+2]?=some (.p r 0):=q2
  obtain ⟨C,hC⟩ : ∃ C,C=c122_0:=⟨_,rfl⟩
  simp only [c122_1,<- hC,yJ]
  refine qx1 ?_
  rw [hC]
  have onx:=o4.1
  exact wd_ring hcl (d:=d-1) om (p.old o4) o4 g4 n4 hr (R.keep (o4.2 _ l1') (o4.2 _ l2')) om om s4 om
end
abbrev tNow:List UInt8:=[110,111,119,32]
abbrev tFd:List UInt8:=[102,100,32]
abbrev jjQ:List UInt8:=[32,119,105,114,101,32]
abbrev tEnd:List UInt8:=[32,101,110,100,32]
abbrev jc0:List UInt8:=[119,105,114,101]
abbrev jdb:List UInt8:=[108,105,115,116,101,110]
abbrev jew:List UInt8:=[114,101,115,101,116]
abbrev tSig:List UInt8:=[115,105,103,110,97,108,32]
abbrev tNo:List UInt8:=[110,111,116,105,99,101,32]
def endK (x:Wi) (k:Nat):Nat:=if 0<x.backlog then 2 else k
noncomputable def jhw (ws:Ws) (fd:Nat):List (List UInt8):=jbM ws (fd:Int) [] fun n k x=>[tFd++dec fd++jjQ++dec n++tEnd++dec (endK x k)]
noncomputable def jcW (ws:Ws):Nat->List (List UInt8)
 | 0=>[]
 | n+1=>jcW ws n++jhw ws n
def jkZ (x:Wi):List (List UInt8):=(if 0<x.backlog then [jdb,dec x.backlog.toNat]++x.waiting.map (fun m=>dec m.toNat) else jbs x.e0.what x.e0.shut x.e0.ring x.cap++jbs x.e1.what x.e1.shut x.e1.ring x.cap)++if x.reset then [jew] else []
def jaJ (l:List (List UInt8)):List UInt8:=(l.map fun s=>[32]++s).flatten
def jgR (n:Nat) (x:Wi):List UInt8:=jc0++jaJ (dec n :: jkZ x)
def jgl (ws:Ws):Nat->List (List UInt8)
 | 0=>[]
 | n+1=>jgl ws n++match ws[n]? with
  | none=>[]
  | some x=>[jgR n x]
def jde (hd:Nat->Bool) (pd:Nat->Int):Nat->List (List UInt8)
 | 0=>[]
 | n+1=>jde hd pd n++if hd (n+1) then [tSig++dec (n+1)++[32]++dec (pd (n+1)).toNat] else []
def jkk:Option (Nat × Nat)->List (List UInt8)
 | none=>[]
 | some p=>[tNo++dec p.1++[32]++dec p.2]
noncomputable def jjx (ws:Ws) (now:Int) (hd:Nat->Bool) (pd:Nat->Int) (no:Option (Nat × Nat)):List (List UInt8) :=
 [tNow++dec now.toNat]++jcW ws 96++jgl ws ws.length++jde hd pd 31++jkk no
theorem jeo (ws:Ws) : ∀ n,(jcW ws n).length<=n
 | 0=>zq _
 | n+1=>by
  have:=jeo ws n
  have h1:(jhw ws n).length<=1:=by
   unfold jhw jbM
   split
   ·simp
   ·split<;>simp
  simp only [jcW,zg];omega
theorem jfh (ws:Ws) : ∀ n,(jgl ws n).length<=n
 | 0=>zq _
 | n+1=>by
  have:=jfh ws n
  simp only [jgl,zg]
  split<;>simp<;>omega
theorem jd6 (hd:Nat->Bool) (pd:Nat->Int) : ∀ n,(jde hd pd n).length<=n
 | 0=>zq _
 | n+1=>by
  have:=jd6 hd pd n
  simp only [jde,zg]
  split<;>simp<;>omega
theorem jbG (a b:List (List UInt8)):jaJ (a++b)=jaJ a++jaJ b:=by simp [jaJ]
theorem jhL (a:List UInt8):jaJ [a]=32 :: a:=by simp [jaJ]
theorem jbR (x:List UInt8) (l:List (List UInt8)):Lib.join (x :: l) [32]=x++jaJ l:=Lib.join_cons x l [32]
theorem jkI {l:List (List UInt8)} (h:l≠[]):[32]++Lib.join l [32]=jaJ l:=by
 cases l with
 | nil=>exact absurd rfl h
 | cons x l=>rw [jbR];simp [jaJ]
theorem jeJ {w:Int} {s:Bool} {r:Option (List UInt8)} {c:Nat} : jbs w s r c≠[]:=by simp [jbs]
theorem ringS_len {r:Option (List UInt8)} {cap:Nat} (h : ∀ q,r=some q->q.length<=cap) (hc:cap<=65536):(jhq r cap).length<=131100:=by
 cases r with
 | none=>simp [jhq]
 | some q=>
  have:=jj1 (h q rfl) hc
  have:=jbw (u:=cap) om
  simp only [jhq,zg,List.length_singleton];omega
theorem jeI {w:Int} {s:Bool} {r:Option (List UInt8)} {cap:Nat} (h : ∀ q,r=some q->q.length<=cap) (hc:cap<=65536):(jaJ (jbs w s r cap)).length<=131200:=by
 have h1:=ringS_len h hc
 have h2:=jjr w
 unfold jbs jaJ
 cases s<;>simp<;>omega
def BM (h0:H) (rw j:Nat) (i:Int) (l:List (List UInt8)):Post:=fun x e h'=>x = .normal /\ ∃ v' sb,e=(0,.p rw 0) :: (3,v') :: (j,.i i) :: sb/\SR h0.nx h' v' l/\Old h0 h'
theorem jlh {cl:Nat->Call} (hcl:Sem cl) {d b:Nat} {h:H} {t:Tb} (hd:3<=d) (hb:h.get b=some t.obj) (s:Int):cl d (.fn F.jfx) [.p b 0,.i s] h=some (.bool (t.has s),h):=by
 refine jak (at_ hcl om rfl rfl rfl ?_)
 have hm:=jk7 hcl (d:=d-1) om b s h
 unfold Tb.obj at hb
 by_cases hs:sig? s
 ·rw [if_pos hs] at hm
  obtain ⟨s1,s2⟩:=hs
  refine qo1 ?_
  refine Ops.callf rfl hm ?_
  refine qo1 ?_
  refine Ops.load1 rfl hb (jmT (k:=s.toNat) om om) ?_
  refine qo1 ?_
  exact ⟨by rw [Tb.has,decide_eq_true ⟨s1,s2⟩];rfl,rfl⟩
 ·rw [if_neg hs] at hm
  refine qo1 ?_
  refine Ops.callf rfl hm ?_
  refine qo1 ?_
  exact ⟨by rw [Tb.has,decide_eq_false hs];rfl,rfl⟩
end Am.Sigs
