/- Our own library, part 23. -/
import Derived.Test.YtbfpbbppgffpnaaGreatDoorN22
import Derived.Test.YtbfpbbppgffpnaaGreatDoorN18
import Derived.Test.YtbfpbbppgffpnaaGreatDoorN17
import Derived.Test.YtbfpbbppgffpnaaGreatDoorN20
import Derived.Test.YtbfpbbppgffpnaaGreatDoorN11
import Derived.Test.YtbfpbbppgffpnaaGreatDoorN21
set_option maxHeartbeats 8000000
set_option linter.all false
namespace Am.Sigs
open Am Go
section
variable {cl:Nat->Call} (hcl:Sem cl) {h:H} {p w s rw:Nat} {ow:Nat->Nat} {ro dat:Nat->Prop} {st:St} {a n t:Int} {dv vd:V} {D:List UInt8}
include hcl
theorem sw_2 {d i B:Nat} (hd:16<=d) (b:BB h p w s rw ow ro dat st st) (so:StOk st i) (hi:i<=200) (hD:Dat h dat dv D) (hC:Cpy h p ow ro dat vd D) (lB:B<h.nx) (zB:ow B=0) (rB : ¬ ro B) (gB:h.get B=some (.cells (opV 2 a n t dv) false)) :
  Run (cl (d-1)) fuel c8_27 [] [(0,.p p 0),(3,.p B 0),(5,vd),(36,.i 2)] h (PD h p w s rw ow ro dat vd (doS 2 a n t D st)):=by
 have hp0:=b.hp
 have lp:=b.lp
 have hl300:=hD.len
 have hS:doS 2 a n t D st = { st with ws:=(jaf st.ws 2 n).2 } := by simp [doS]
 rw [hS]
 obtain ⟨x,y,h1,ow1,e1,good,bad,W1,t1⟩:=ww_Outer hcl (d:=d-1) (n:=n) om so.K b.W
 have b1:=b.wc (a' := { st with ws:=(jaf st.ws 2 n).2 }) W1 t1
 have g1:=b.off_w t1 lB zB gB
 have hp1:=b1.hp
 obtain ⟨v,h2,e2,b2,f2,v2,rfl,hv2⟩:=b1.rc hcl (d:=d-1) (f:=F.jav) (args:=[.p rw 0,.i 2,.i n]) (r' := { st with ws:=(jaf st.ws 2 n).2 })
  (P:=fun g v=>∃ v2,v = .tup [v2,.i (jaf st.ws 2 n).1.2]/\VI g v2 (jaf st.ws 2 n).1.1) (fun _ _ _ m ⟨v2,e,hv⟩=>⟨v2,e,hv.mono m⟩) (fun g q l ga gn hq wR hl=>by
  have oR:WsOk (l.map RX.x):=by rw [hl];exact so.K.ok
  obtain ⟨v2,q',l',g',k1,k0,k2,k3,k4,k5⟩:=jjy hcl (d:=d-1) (kind:=2) (n:=n) om om wR oR
  rw [hl] at k0 k1 k3
  exact ⟨_,q',l',g',k1,k2,k3,k4,k5,v2,rfl,k0⟩)
 have fF:=(Fm.to (ro:=ro) t1).trans f2
 have hp2:=b2.hp
 obtain ⟨xs,cs,hr2⟩:=b2.rhead
 have wl:({ st with ws:=(jaf st.ws 2 n).2 } : St).ws.length=(jaf st.ws 2 n).2.length:=rfl
 rw [wl] at hr2
 have q0:(V.slice xs (jaf st.ws 2 n).2.length cs :: ({ st with ws:=(jaf st.ws 2 n).2 } : St).tl)[0+0]?=some (V.slice xs (jaf st.ws 2 n).2.length cs):=rfl
 have o2v:=hv2.one
 have e3:cl (d-1) (.fn F.ja3) [.i x,.i y,.i (jaf st.ws 2 n).1.2,v2,.i ((jaf st.ws 2 n).2.length-1),.i (jaf st.ws 2 n).1.2] h2=some (.bool true,h2):=by
  by_cases hz:(jaf st.ws 2 n).1.2=0
  ·obtain ⟨gd,gl⟩:=good hz
   have hm:((jaf st.ws 2 n).2.length:Int)-1=(st.ws.length:Int):=by
    rcases jeL (ws:=st.ws) (n:=n) (kind:=2) om with ⟨_,_,m3⟩ | ⟨m1,_⟩
    ·omega
    ·exact absurd hz m1
   rw [gd] at hv2
   rw [hz,hm,gl]
   exact joL hcl om hv2
  ·obtain ⟨rfl,rfl⟩:=bad hz
   exact jos hcl om hz
 have hlen:(jaf st.ws 2 n).2.length<=1000:=(jdT om so.K).ok.len
 clear so hD hC hl300 hS good bad
 generalize (jaf st.ws 2 n).1.2=er at e1 e2 e3
 refine qm1 ?_
 exact PD.mk' rfl b2 fF
theorem sw_3 {d i B:Nat} (hd:16<=d) (b:BB h p w s rw ow ro dat st st) (so:StOk st i) (hi:i<=200) (hD:Dat h dat dv D) (hC:Cpy h p ow ro dat vd D) (lB:B<h.nx) (zB:ow B=0) (rB : ¬ ro B) (gB:h.get B=some (.cells (opV 3 a n t dv) false)) :
  Run (cl (d-1)) fuel c8_27 [] [(0,.p p 0),(3,.p B 0),(5,vd),(36,.i 3)] h (PD h p w s rw ow ro dat vd (doS 3 a n t D st)):=by
 have hp0:=b.hp
 have lp:=b.lp
 have hl300:=hD.len
 have hS:doS 3 a n t D st = { st with ws:=(jaf st.ws 3 n).2 } := by simp [doS]
 rw [hS]
 obtain ⟨x,y,h1,ow1,e1,good,bad,W1,t1⟩:=ww_Listen hcl (d:=d-1) (n:=n) om so.K b.W
 have b1:=b.wc (a' := { st with ws:=(jaf st.ws 3 n).2 }) W1 t1
 have g1:=b.off_w t1 lB zB gB
 have hp1:=b1.hp
 obtain ⟨v,h2,e2,b2,f2,v2,rfl,hv2⟩:=b1.rc hcl (d:=d-1) (f:=F.jav) (args:=[.p rw 0,.i 3,.i n]) (r' := { st with ws:=(jaf st.ws 3 n).2 })
  (P:=fun g v=>∃ v2,v = .tup [v2,.i (jaf st.ws 3 n).1.2]/\VI g v2 (jaf st.ws 3 n).1.1) (fun _ _ _ m ⟨v2,e,hv⟩=>⟨v2,e,hv.mono m⟩) (fun g q l ga gn hq wR hl=>by
  have oR:WsOk (l.map RX.x):=by rw [hl];exact so.K.ok
  obtain ⟨v2,q',l',g',k1,k0,k2,k3,k4,k5⟩:=jjy hcl (d:=d-1) (kind:=3) (n:=n) om om wR oR
  rw [hl] at k0 k1 k3
  exact ⟨_,q',l',g',k1,k2,k3,k4,k5,v2,rfl,k0⟩)
 have fF:=(Fm.to (ro:=ro) t1).trans f2
 have hp2:=b2.hp
 obtain ⟨xs,cs,hr2⟩:=b2.rhead
 have wl:({ st with ws:=(jaf st.ws 3 n).2 } : St).ws.length=(jaf st.ws 3 n).2.length:=rfl
 rw [wl] at hr2
 have q0:(V.slice xs (jaf st.ws 3 n).2.length cs :: ({ st with ws:=(jaf st.ws 3 n).2 } : St).tl)[0+0]?=some (V.slice xs (jaf st.ws 3 n).2.length cs):=rfl
 have o2v:=hv2.one
 have e3:cl (d-1) (.fn F.ja3) [.i x,.i y,.i (jaf st.ws 3 n).1.2,v2,.i ((jaf st.ws 3 n).2.length-1),.i (jaf st.ws 3 n).1.2] h2=some (.bool true,h2):=by
  by_cases hz:(jaf st.ws 3 n).1.2=0
  ·obtain ⟨gd,gl⟩:=good hz
   have hm:((jaf st.ws 3 n).2.length:Int)-1=(st.ws.length:Int):=by
    rcases jeL (ws:=st.ws) (n:=n) (kind:=3) om with ⟨_,_,m3⟩ | ⟨m1,_⟩
    ·omega
    ·exact absurd hz m1
   rw [gd] at hv2
   rw [hz,hm,gl]
   exact joL hcl om hv2
  ·obtain ⟨rfl,rfl⟩:=bad hz
   exact jos hcl om hz
 have hlen:(jaf st.ws 3 n).2.length<=1000:=(jdT om so.K).ok.len
 clear so hD hC hl300 hS good bad
 generalize (jaf st.ws 3 n).1.2=er at e1 e2 e3
 refine qm1 ?_
 exact PD.mk' rfl b2 fF
end
section
variable {cl:Nat->Call} (hcl:Sem cl) {h:H} {p w s rw:Nat} {ow:Nat->Nat} {ro dat:Nat->Prop} {st:St} {k a n t:Int} {dv vd:V} {D:List UInt8}
include hcl
theorem sw_more {d B:Nat} {st':St} (hk:k<0\/8<k) (gB:h.get B=some (.cells (opV k a n t dv) false)) (m:jdz cl (d-1) F.jae h p w s rw ow ro dat [.p p 0,.agg (opV k a n t dv),vd] st') :
  Run (cl (d-1)) fuel c8_27 [] [(0,.p p 0),(3,.p B 0),(5,vd),(36,.i k)] h (PD h p w s rw ow ro dat vd st'):=by
 obtain ⟨h',ow',ro',e1,b',f'⟩:=m
 have n0 : ¬ k=0:=by omega
 have n1 : ¬ k=1:=by omega
 have n2 : ¬ k=2:=by omega
 have n3 : ¬ k=3:=by omega
 have n4 : ¬ k=4:=by omega
 have n5 : ¬ k=5:=by omega
 have n6 : ¬ k=6:=by omega
 have n7 : ¬ k=7:=by omega
 have n8 : ¬ k=8:=by omega
 clear hk
 refine qm1 ?_
 exact PD.mk' rfl b' f'
theorem sw_all {d i B:Nat} (hd:16<=d) (b:BB h p w s rw ow ro dat st st) (so:StOk st i) (hi:i<=200) (hD:Dat h dat dv D) (hC:Cpy h p ow ro dat vd D) (lB:B<h.nx) (zB:ow B=0) (rB : ¬ ro B) (gB:h.get B=some (.cells (opV k a n t dv) false)) (t0:0<=t) (t1:t<=18446744073709551615) :
  Run (cl (d-1)) fuel c8_27 [] [(0,.p p 0),(3,.p B 0),(5,vd),(36,.i k)] h (PD h p w s rw ow ro dat vd (doS k a n t D st)):=by
 by_cases k0:k=0
 ·subst k0;exact sw_0 hcl hd b so hi hD hC lB zB rB gB
 by_cases k1:k=1
 ·subst k1;exact sw_1 hcl hd b so hi hD hC lB zB rB gB
 by_cases k2:k=2
 ·subst k2;exact sw_2 hcl hd b so hi hD hC lB zB rB gB
 by_cases k3:k=3
 ·subst k3;exact sw_3 hcl hd b so hi hD hC lB zB rB gB
 by_cases k4:k=4
 ·subst k4;exact sw_4 hcl hd b so hi hD hC lB zB rB gB
 by_cases k5:k=5
 ·subst k5;exact sw_5 hcl hd b so hi hD hC lB zB rB gB
 by_cases k6:k=6
 ·subst k6;exact sw_6 hcl hd b so hi hD hC lB zB rB gB
 by_cases k7:k=7
 ·subst k7;exact sw_7 hcl hd b so hi hD hC lB zB rB gB
 by_cases k8:k=8
 ·subst k8;exact sw_8 hcl hd b so hi hD hC lB zB rB gB
 refine sw_more hcl om gB ?_
 by_cases k9:k=9
 ·subst k9;exact mo_9 hcl om b so hi hD hC
 by_cases k10:k=10
 ·subst k10;exact mo_10 hcl om b so hi hD hC
 by_cases k11:k=11
 ·subst k11;exact mo_11 hcl om b so hi hD hC
 by_cases k12:k=12
 ·subst k12;exact mo_12 hcl om b so hi hD hC
 by_cases k13:k=13
 ·subst k13;exact mo_13 hcl om b so hi hD hC
 by_cases k14:k=14
 ·subst k14;exact mo_14 hcl om b so hi hD hC
 by_cases k15:k=15
 ·subst k15;exact mo_15 hcl om b so hi hD hC t0 t1
 by_cases k16:k=16
 ·subst k16;exact mo_16 hcl om b so hi hD hC
 by_cases k17:k=17
 ·subst k17;exact mo_17 hcl om b so hi hD hC
 by_cases k18:k=18
 ·subst k18;exact mo_18 hcl om b so hi
 by_cases k19:k=19
 ·subst k19;exact mo_19 hcl om b so hi hD hC
 by_cases k20:k=20
 ·subst k20;exact mo_20 hcl om b so
 exact mo_no hcl om b om
theorem do_ok {d i:Nat} (hd:16<=d) (b:BB h p w s rw ow ro dat st st) (so:StOk st i) (hi:i<=200) (hD:Dat h dat dv D) (t0:0<=t) (t1:t<=18446744073709551615) :
  ∃ h' ow' ro',cl d (.fn F.jb4) [.p p 0,.agg (opV k a n t dv)] h=some (.bool true,h')/\BB h' p w s rw ow' ro' dat (doS k a n t D st) (doS k a n t D st)/\Fm h h' ow ro ow' ro':=by
 suffices q : ∃ v h',cl d (.fn F.jb4) [.p p 0,.agg (opV k a n t dv)] h=some (v,h') /\ ∃ ow' ro',v = .bool true/\BB h' p w s rw ow' ro' dat (doS k a n t D st) (doS k a n t D st)/\Fm h h' ow ro ow' ro' by
  obtain ⟨_,h',e,ow',ro',rfl,q⟩:=q;exact ⟨h',ow',ro',e,q⟩
 have ol:Old h ((h.new (.cells (opV k a n t dv) false)).new (.cells [] false)):=(Old.refl h).new.new
 have hv:=(hD.keep b (Fm.old (ow:=ow) (ro:=ro) ol)).v
 have hl300:=hD.len
 refine at_ hcl om rfl rfl rfl ?_
 obtain ⟨C,hC⟩ : ∃ C,C=c8_27:=⟨_,rfl⟩
 simp only [c8,c8_29,yB,yC]
 rw [<- hC]
 refine qm1 ?_
 refine Ops.copyB rfl rfl hv om fun a' c' h3 hvd hcells ho hz=>?_
 have ho:Old ((h.new (.cells (opV k a n t dv) false)).new (.cells [] false)) h3:=ho
 have hz:a'=h.nx+1\/(h.nx+2<=a'/\a'<h3.nx):=hz
 have o3:=ol.trans ho
 have xo:((h.new (.cells (opV k a n t dv) false)).new (.cells [] false)).nx=h.nx+2:=rfl
 have x3:=ho.1
 have b3:=b.old o3
 have hD3:=hD.keep b (Fm.old (ow:=ow) (ro:=ro) o3)
 have gB:h3.get h.nx=some (.cells (opV k a n t dv) false):=by
  rw [ho.2 _ om,jad Zd,jac]
 have ha':h.nx+1<=a'/\a'<h3.nx:=by
  omega
 have lp:=b.lp
 have hC3:Cpy h3 p ow ro dat (.slice (some (a',0)) D.length c') D:=⟨hvd,fun z hz=>by
  cases hz
  refine ⟨ha'.2,b.W.top om,fun e=>?_,fun e=>?_,by omega⟩
  ·have:=b.ro_lt (.inl e);omega
  ·have:=b.ro_lt (.inr e);omega⟩
 have hsw:=sw_all hcl (d:=d) (k:=k) (a:=a) (n:=n) (t:=t) hd b3 so hi hD3 hC3 (B:=h.nx) om (b.W.top (zq _)) (fun e=>by have:=b.ro_lt (.inl e);omega) gB t0 t1
 rw [<- hC] at hsw
 clear hD hD3 hv so
 refine qm1 ?_
 refine Run.cut _ hsw ?_
 rintro _ _ g ⟨rfl,rfl,ow',ro',b',f'⟩
 clear hsw hC
 have hCg:=hC3.keep f'
 obtain ⟨z1,z2,z3,z4,z5⟩:=hCg.z a' rfl
 have gcells:D≠[]->g.get a'=some (.cells (bts D) false):=fun hn=>by
  obtain ⟨y1,y2,y3,_,_⟩:=hC3.z a' rfl
  rw [f'.ch.get a' y1 fun e=>e.elim (fun e=>e y2) y3,hcells hn]
 have fF:=(Fm.old (ow:=ow) (ro:=ro) o3).trans f'
 have xg:=f'.ch.nx
 clear hC3 hCg hcells f' b3 gB hvd
 refine qm1 ?_
 refine Run.loop (fun m e g2=>∃ j:Nat,m=D.length-j/\j<=D.length/\e=[(5,.slice (some (a',0)) D.length c'),(6,.bool true),(275,.i (D.length:Int)),(276,.i (j:Int))] /\
   (D≠[] -> ∃ cs:List V,g2.get a'=some (.cells cs false)/\cs.length=D.length /\ ∀ i,i<D.length -> ∃ x,cs[i]?=some (.int .u8 x))/\g2.nx=g.nx /\ ∀ j,j≠a'->g2.get j=g.get j)
  (k:=D.length) Ze ⟨0,rfl,by omega,rfl,fun hn=>⟨bts D,gcells hn,by simp,fun i hi=>⟨_,jjR (za hi)⟩⟩,rfl,fun _ _=>rfl⟩ ?_
 rintro _ _ g2 ⟨j,rfl,hj,rfl,hcs,hx2,hk2⟩ n2 ih2
 by_cases hlt:(j:Int)<D.length
 case neg=>
  clear ih2 hcs gcells
  refine qm1 ?_
  refine ⟨ow',ro',rfl,b'.off om fun i hi ho=>hk2 i ?_,⟨by have:=fF.ch.nx;omega,fun i hi hb=>by rw [hk2 i om,fF.ch.get i hi hb]⟩,fF.tag,fF.rtag⟩
  rintro rfl
  rcases ho with ho | ho | ho | ho
  ·exact ho z2
  ·exact z3 ho
  ·exact z4 ho
  ·exact z5 ho
 obtain ⟨cs,g1,g3,g4⟩:=hcs (by rintro rfl;simp at hlt;omega)
 obtain ⟨x,hx⟩:=g4 j om
 have hx':cs[0+(j:Int).toNat*1]?=some (.int .u8 x):=by rw [show 0+(j:Int).toNat*1=j by omega];exact hx
 have hj1:(j:Int)+1=((j+1:Nat):Int):=by omega
 clear gcells hcs
 refine qm1 ?_
 refine Ops.store1 rfl rfl rfl g1 om ?_
 refine qm1 ?_
 rw [hj1]
 refine ih2 (D.length-(j+1)) om _ _ ⟨j+1,rfl,by omega,rfl,fun _=>⟨_,jab _,by simp;exact g3,fun i hi=>?_⟩,hx2,fun i hi=>by rw [jaa hi,hk2 i hi]⟩
 rw [zi]
 by_cases e:0+(j:Int).toNat*1=i
 ·rw [if_pos e,if_pos om];exact ⟨_,rfl⟩
 ·rw [if_neg e];exact g4 i hi
end
section
variable {cl:Nat->Call} (hcl:Sem cl)
include hcl
theorem wr_out {d b4 b8 b9 b10 wb cap rk ro:Nat} {g:H} {own oth:En} {wl:List V} {rst i hup:Bool} {a c:Int} (hd:3<=d) (g4:g.get b4=some jeg) (g8:g.get b8=some (.cells (own.cells rk) false)) (g9:g.get b9=some (.cells (oth.cells ro) false))
  (g10:g.get b10=some (.cells [.bool true,.bool i,.bool false,.bool hup,.bool rst,.int .u64 a,.int .u64 c] false)) (gx:g.get wb=some (.cells wl false)) (hx:wl[0+14]?=some (.bool rst)) (n1:b4≠b10) (n2:b8≠b10) (n3:b9≠b10) (n4:wb≠b10)
  (hR:own.writes=true -> ∃ q b,oth.ring=some q/\ja0 g ro b q cap) :
  Run (cl (d-1)) fuel c16_0 [] [(4,.p b4 0),(6,.p wb 0),(8,.p b8 0),(9,.p b9 0),(10,.p b10 0)] g
   (Fin c16.res fun v' h'=>v' = .agg [.bool true,.bool i,.bool (own.writes && !own.shut&&(decide (((oth.ring.getD []).length:Int)<cap)||hup||rst)),.bool hup,.bool rst,.int .u64 a,.int .u64 c]/\Ch (fun j=>j=b4\/j=b10) g h'):=by
 obtain ⟨w0,f0,q0,wr0,s0,i0,o0⟩:=own
 obtain ⟨w1,f1,q1,wr1,s1,i1,o1⟩:=oth
 simp only [En.cells] at g8 g9
 cases wr0
 case false=>
  refine qm1 ?_
  exact jbg rfl (jab _) rfl ⟨rfl,(Ch.set (.inr rfl)).trans (Ch.set (.inl rfl))⟩
 obtain ⟨q,b,hq,R⟩:=hR rfl
 have hq:q1=some q:=hq
 subst hq
 simp only [En.ptr] at g9
 cases s0
 case true=>
  refine qm1 ?_
  exact jbg rfl (jab _) rfl ⟨rfl,(Ch.set (.inr rfl)).trans (Ch.set (.inl rfl))⟩
 cases hup
 case true=>
  refine qm1 ?_
  exact jbg rfl (jab _) rfl ⟨by simp [jao],(Ch.set (.inr rfl)).trans (Ch.set (.inl rfl))⟩
 cases rst
 case true=>
  refine qm1 ?_
  exact jbg rfl (jab _) rfl ⟨by simp [jao],(Ch.set (.inr rfl)).trans (Ch.set (.inl rfl))⟩
 obtain ⟨buf,frm,inn,out,C,V⟩:=R
 have hroom:=jli hcl (d:=d-1) om C V.fit V.small
 have e1:decide (0<((cap-q.length:Nat):Int))=decide ((q.length:Int)<cap):=by
  have:=V.fit
  by_cases h1:(q.length:Int)<cap
  ·rw [decide_eq_true h1,decide_eq_true om]
  ·rw [decide_eq_false h1,decide_eq_false om]
 clear C V hR
 refine qm1 ?_
 rw [e1]
 exact jbg rfl (jab _) rfl ⟨by simp [jao],(Ch.set (.inr rfl)).trans (Ch.set (.inl rfl))⟩
theorem Fin.mono {res:List RV} {R R':V->H->Prop} {x:Ex} {e:Env} {h:H} (k:Fin res R x e h) (hR : ∀ v,R v h->R' v h):Fin res R' x e h:=by
 obtain ⟨p1,l,p2,p3⟩:=k;exact ⟨p1,l,p2,hR _ p3⟩
theorem wr_in {d b4 b5 b8 b9 b10 r0 r1 bo k n t0:Nat} {g:H} {x:Wi} {wv:V} {hup:Bool} (hd:3<=d) (hk:k=0\/k=1) (g4:g.get b4=some jeg) (g5:g.get b5=some (.cells [.bool true,.i (n:Int),.i (k:Int)] false)) (g8:g.get b8=some (.cells ((x.e k).cells (two r0 r1 k)) false)) (g9:g.get b9=some (.cells ((x.e (1-k)).cells (two r0 r1 (1-k))) false))
  (g10:g.get b10=some (.cells [.bool true,.bool false,.bool false,.bool hup,.bool x.reset,.int .u64 (x.e k).inn,.int .u64 (x.e k).out] false)) (gx:g.get t0=some (x.obj r0 r1 wv)) (n1:b4≠b10) (n2:b8≠b10) (n3:b9≠b10) (n4:t0≠b10)
  (hhup:hup=((x.e (1-k)).what == 3)) (hO : ∀ q,(x.e k).ring=some q->ja0 g (two r0 r1 k) bo q x.cap) (hR:(x.e k).writes=true -> ∃ q bt,(x.e (1-k)).ring=some q/\ja0 g (two r0 r1 (1-k)) bt q x.cap/\two r0 r1 (1-k)≠b10/\bt≠b10) :
  Run (cl (d-1)) fuel c16_1 [] [(4,.p b4 0),(5,.p b5 0),(6,.p t0 0),(8,.p b8 0),(9,.p b9 0),(10,.p b10 0)] g
   (Fin c16.res fun v' h'=>v' = .agg [.bool true,.bool (x.rIn k),.bool (x.rOut k),.bool ((x.e (1-k)).what == 3),.bool x.reset,.int .u64 (x.e k).inn,.int .u64 (x.e k).out]/\Ch (fun j=>j=b4\/j=b10) g h'):=by
 refine Run.seq (Run.cut (fun y e' g'=>y = .normal/\e'=[(4,.p b4 0),(6,.p t0 0),(8,.p b8 0),(9,.p b9 0),(10,.p b10 0)] /\
  Upd b10 (.cells [.bool true,.bool (x.rIn k),.bool false,.bool hup,.bool x.reset,.int .u64 (x.e k).inn,.int .u64 (x.e k).out] false) g g') ?_ ?_)
 case refine_2=>
  rintro _ _ g' ⟨rfl,rfl,u⟩
  refine End.seq ?_
  have:=wr_out hcl (d:=d) (cap:=x.cap) (wl:=x.cells r0 r1 wv) hd (by rw [u.get _ n1,g4]) (by rw [u.get _ n2,g8]) (by rw [u.get _ n3,g9]) u.self (by rw [u.get _ n4,gx];rfl) (Wi.reset_cell rfl) n1 n2 n3 n4 fun hw=>by
   obtain ⟨q,bt,q1,q2,n6,n7⟩:=hR hw
   exact ⟨q,bt,q1,q2.keep (u.get _ n6) (u.get _ n7)⟩
  refine Run.fin_mono this fun v h' ⟨p1,p2⟩=>⟨?_,(u.ch (.inr rfl)).trans p2⟩
  rw [p1,hhup];rfl
 have hsil:=jjW hcl (d:=d-1) om gx hk
 have hx14:=Wi.reset_cell (x:=x) (r0:=r0) (r1:=r1) (wv:=wv) (o:=0+14) rfl
 unfold Wi.obj at gx
 have hrin:x.rIn k=match (x.e k).ring with
  | none=>false
  | some q=>!q.isEmpty||x.silent k||x.reset:=by
  unfold Wi.rIn Wi.silent
  cases (x.e k).ring with
  | none=>rfl
  | some q=>simp [Bool.or_assoc]
 rw [hrin]
 clear hrin hR
 cases hring:(x.e k).ring with
 | none=>
  have c8:((x.e k).cells (two r0 r1 k))[0+2]?=some (.ptr none):=by simp [En.cells,hring,En.ptr]
  refine qm1 ?_
  exact End.nil ⟨rfl,rfl,Upd.set⟩
 | some q=>
  have c8:((x.e k).cells (two r0 r1 k))[0+2]?=some (.p (two r0 r1 k) 0):=by simp [En.cells,hring,En.ptr]
  obtain ⟨buf,frm,inn,out,C,V⟩:=hO q hring
  have hlen:=jiL hcl (d:=d-1) om C
  clear C V hO
  cases q with
  | cons y q=>
   have hpos:0<(((y :: q:List UInt8).length:Nat):Int):=by simp
   have eT:decide (0<(((y :: q:List UInt8).length:Nat):Int))=true:=decide_eq_true hpos
   refine qm1 ?_
   exact End.nil ⟨rfl,rfl,Upd.set⟩
  | nil=>
   have hlen:cl (d-1) (.fn F.jfG) [.p (two r0 r1 k) 0] g=some (.i 0,g):=hlen
   cases hsl:x.silent k
   ·rw [hsl] at hsil
    cases hrs:x.reset
    ·rw [hrs] at hx14 g10
     refine qm1 ?_
     exact End.nil ⟨rfl,rfl,Upd.set⟩
    ·rw [hrs] at hx14 g10
     refine qm1 ?_
     exact End.nil ⟨rfl,rfl,Upd.set⟩
   ·rw [hsl] at hsil
    refine qm1 ?_
    exact End.nil ⟨rfl,rfl,Upd.set⟩
end
theorem Wi.en_cells {x:Wi} {r0 r1 k o:Nat} {wv:V} (hk:k=0\/k=1) (ho:o=k*7):((x.cells r0 r1 wv).drop o).take 7=(x.e k).cells (two r0 r1 k):=by
 subst ho
 rcases hk with rfl | rfl<;>rfl
theorem En.cells_one (x:En) (r:Nat):(x.cells r).all V.one=true:=by
 obtain ⟨w,f,q,wr,s,i,o⟩:=x
 cases q<;>rfl
theorem je7 {e:Env} {h:H} {d n:Nat} {a:Opd} {g:Option (Nat × Bool)} {r:List (Nat × I × Option (Nat × Bool))} {b o:Nat} {l:List V} {ro:Bool} {v:List V} (ha:a.ev e=some (.ptr (some (b,o)))) (hb:h.get b=some (.cells l ro)) (hn:o+n<=l.length)
  (hv:(l.drop o).take n=v) (hd:e.get d=some (.agg v)) (k:jaK e h r=true):jaK e h ((d,.loadN n a,g) :: r)=true:=by
 simp only [jaK,I.read,ha,jcp hb hn,hv,hd,V.same_refl,k,Bool.and_true]
 cases wanted e g<;>rfl
section
variable {cl:Nat->Call} (hcl:Sem cl)
include hcl
end
section
variable {cl:Nat->Call} (hcl:Sem cl) {h0:H} {w s:Nat} {ow:Nat->Nat} {ws:Ws} {now:Int} {tb:Tb} {no:Option (Nat × Nat)}
include hcl
theorem jlE {d:Nat} {fd:Int} (hd:4<=d) (a:WSt h0 w s ow ws now tb no) (o:WsOk ws) :
  ∃ h',cl d (.fn F.jgn) [.p w 0,.i fd] h0=some (.agg (jfa ws fd),h')/\Old h0 h':=by
 obtain ⟨l,a,rfl⟩:=a
 have oA:Old h0 (h0.new jeg):=(Old.refl _).new
 have gA0:(h0.new jeg).get h0.nx=some jeg:=jac _
 have nA:(h0.new jeg).nx=h0.nx+1:=rfl
 refine jag (at_ hcl om rfl rfl rfl ?_)
 refine qo1 ?_
 refine Ops.make (ob:=jeg) rfl rfl ?_
 generalize h0.new jeg=hA at oA gA0 nA ⊢
 rcases jd0 hcl (d:=d-1) (fd:=fd) om (a.old oA) o.uniq with ⟨hno,h1,e1,o1,x1⟩ | ⟨n,k,m,t,rfl,hm,hat,ht,hk,h1,e1,o1,x1⟩
 ·have hS:jfa (wxs l) fd=jlt:=jaA hno
  rw [hS]
  have g1:h1.get h0.nx=some jeg:=by rw [o1.2 _ om,gA0]
  refine qm1 ?_
  refine jbg rfl (jab _) rfl ⟨rfl,?_⟩
  exact ((oA.trans o1).new.set om).set (zq _)
 have hS:jfa (wxs l) (m:Int)=_:=ja7 o.uniq hat (jaj ht)
 have hS:jfa (wxs l) (m:Int)=t.x.ready k:=hS
 rw [hS]
 have WI:=o.ok _ (zc (jaj ht))
 have X:=a.wf.ok n t ht
 have hk':1-k=0\/1-k=1:=by omega
 let h2:=(h1.new (.cells [.bool false,.i 0,.i 0] false)).set h1.nx (.cells [.bool true,.i (n:Int),.i (k:Int)] false)
 have n2:h2.nx=h0.nx+3:=by show h1.nx+1=_;omega
 have g2 : ∀ j,j<h0.nx->h2.get j=h0.get j:=fun j hj=>by
  show (H.set _ _ _).get j=_
  rw [jaa om,jad om,o1.2 j om,oA.2 j hj]
 have g20:h2.get h0.nx=some jeg:=by
  show (H.set _ _ _).get _=_
  rw [jaa om,jad om,o1.2 _ om];exact gA0
 have gp:h2.get h1.nx=some (.cells [.bool true,.i (n:Int),.i (k:Int)] false):=jab _
 have y1:h1.nx=h0.nx+2:=by omega
 obtain ⟨C,hC⟩ : ∃ C,C=c16_1:=⟨_,rfl⟩
 simp only [c16_8,c16_7,c16_6,c16_5,c16_4,c16_3,yB,yC,yF]
 rw [<- hC]
 refine qo1 ?_
 refine Ops.callf rfl e1 ?_
 refine qo1 ?_
 refine Ops.make rfl rfl ?_
 refine qx1 ?_
 refine Ops.storeN rfl rfl rfl rfl (jac _) (zu rfl) ?_
 rw [show ((h1.new (.cells [.bool false,.i 0,.i 0] false)).set h1.nx (.cells (jao [.bool false,.i 0,.i 0] 0 [.bool true,.i (n:Int),.i (k:Int)]) false))=h2 from rfl]
 clear_value h2
 clear e1 o1 gA0 nA oA
 have hx:=X.hx
 have lx:=X.lx
 have hx2:h2.get t.wb=some (.cells (t.x.cells t.r0 t.r1 t.wv) false):=by rw [g2 _ lx];exact hx
 have ek:((1:Int)-(k:Int)).toNat=1-k:=by omega
 have hcl17:=Wi.cells_length t.x t.r0 t.r1 t.wv
 rw [y1] at gp ⊢
 refine qx1 ?_
 refine Run.region ?_
 rw [n2]
 refine qx1 ?_
 refine Ops.loadN rfl hx2 om ?_
 rw [Wi.en_cells hk om]
 refine qx1 ?_
 refine Ops.loadN rfl hx2 om ?_
 rw [Wi.en_cells (k:=1-k) hk' om]
 refine Ops.make_at rfl rfl ?_
 refine Ops.make_at rfl rfl ?_
 refine Ops.storeN_chk rfl rfl rfl (En.cells_one _ _) (by rw [jaa om];exact jab _) (zu rfl) ?_ ?_
 ·refine jat rfl (l:=[.bool true,.i (n:Int),.i (k:Int)]) (ro:=false) (by rw [jaa om,jaa om,jaa om];exact gp) rfl rfl (je7 rfl (l:=t.x.cells t.r0 t.r1 t.wv) (ro:=false) (by rw [jaa om,jaa om,jaa om];exact hx2) om (Wi.en_cells (k:=1-k) hk' om) rfl ja6)
 refine Ops.storeN rfl rfl rfl (En.cells_one _ _) (by rw [jaa om];exact jab _) (zu rfl) ?_
 have ow7 : ∀ (e:En) (r:Nat),jao [V.i 0,V.i 0,V.ptr none,V.bool false,V.bool false,V.int IntKind.u64 0,V.int IntKind.u64 0] 0 (e.cells r)=e.cells r:=fun e r=>jcC _ _ rfl
 rw [ow7,ow7]
 generalize hh:H.set (H.set (H.set (H.set _ _ _) _ _) _ _) _ _=h3
 have z3:h3.nx=h0.nx+5:=by rw [<- hh];show h2.nx+2=_;omega
 have zo:h3.get (h0.nx+3)=some (.cells ((t.x.e k).cells (two t.r0 t.r1 k)) false):=by
  rw [<- hh,jaa om];exact jab _
 have zt:h3.get (h0.nx+3+1)=some (.cells ((t.x.e (1-k)).cells (two t.r0 t.r1 (1-k))) false):=by
  rw [<- hh];exact jab _
 have g3 : ∀ j,j<h0.nx+3->h3.get j=h2.get j:=fun j hj=>by
  rw [<- hh,jaa om,jaa om,jaa om,jaa om];rfl
 have hx3:h3.get t.wb=some (.cells (t.x.cells t.r0 t.r1 t.wv) false):=by rw [g3 _ om,hx2]
 have z0:h3.get h0.nx=some jeg:=by rw [g3 _ om,g20]
 have gp3:h3.get (h0.nx+2)=some (.cells [.bool true,.i (n:Int),.i (k:Int)] false):=by rw [g3 _ om,gp]
 have kk : ∀ j,j<h0.nx->h3.get j=h0.get j:=fun j hj=>by rw [g3 _ om,g2 _ hj]
 clear hh g3 gp hx2 g20 g2 n2
 have zo:h3.get (h0.nx+3+0)=some (.cells ((t.x.e k).cells (two t.r0 t.r1 k)) false):=zo
 have i5:((t.x.e k).cells (two t.r0 t.r1 k))[0+5]?=some (.int .u64 (t.x.e k).inn):=rfl
 have i6:((t.x.e k).cells (two t.r0 t.r1 k))[0+6]?=some (.int .u64 (t.x.e k).out):=rfl
 have f15:=Wi.backlog_cell (x:=t.x) (r0:=t.r0) (r1:=t.r1) (wv:=t.wv) (o:=0+15) rfl
 have f14:=Wi.reset_cell (x:=t.x) (r0:=t.r0) (r1:=t.r1) (wv:=t.wv) (o:=0+14) rfl
 obtain ⟨av,cp,hva,_⟩:=X.wait.1
 have f16:(t.x.cells t.r0 t.r1 t.wv)[0+16]?=some (.slice av t.x.waiting.length cp):=by simp [Wi.cells,En.cells,hva]
 have o3:Old h0 h3:=⟨by omega,kk⟩
 by_cases hbl:0<t.x.backlog
 ·have hR:t.x.ready k=[.bool true,.bool (!t.x.waiting.isEmpty),.bool false,.bool false,.bool false,.int .u64 (t.x.e k).inn,.int .u64 (t.x.e k).out]:=if_pos hbl
  rw [hR]
  have ew:decide (0<((t.x.waiting.length:Nat):Int)) = !t.x.waiting.isEmpty:=by cases t.x.waiting<;>simp
  clear hC hcl17 ek hk' y1
  refine qm1 ?_
  rw [ew]
  refine jbg rfl (jab _) rfl ⟨rfl,?_⟩
  exact (((o3.new.set om).set om).set om)
 ·have hR:t.x.ready k=[.bool true,.bool (t.x.rIn k),.bool (t.x.rOut k),.bool ((t.x.e (1-k)).what == 3),.bool t.x.reset,.int .u64 (t.x.e k).inn,.int .u64 (t.x.e k).out]:=if_neg hbl
  rw [hR]
  have j0:((t.x.e (1-k)).cells (two t.r0 t.r1 (1-k)))[0+0]?=some (.i (t.x.e (1-k)).what):=rfl
  refine qm1 ?_
  refine Ops.store1_chk rfl rfl rfl (by first | exact jab _ | (rw [jab])) (zu rfl) ?_ ?_
  ·exact jat rfl (l:=t.x.cells t.r0 t.r1 t.wv) (ro:=false) (by rw [jaa om,jaa om,jad om];exact hx3) f14 rfl ja6
  refine qs1 ?_
  generalize hh:H.set (H.set (H.set _ _ _) _ _) _ _=h5
  have y5:h5.nx=h3.nx+1:=by rw [<- hh];rfl
  have g5 : ∀ j,j<h3.nx->h5.get j=h3.get j:=fun j hj=>by
   rw [<- hh,jaa om,jaa om,jaa om,jad hj]
  have ehup:decide ((t.x.e (1-k)).what=3)=((t.x.e (1-k)).what == 3):=rfl
  have z5:h5.get h3.nx=some (.cells [.bool true,.bool false,.bool false,.bool ((t.x.e (1-k)).what == 3),.bool t.x.reset,.int .u64 (t.x.e k).inn,.int .u64 (t.x.e k).out] false):=by
   rw [<- hh,jab,<- ehup];rfl
  clear hh
  have o5:Old h0 h5:=o3.trans ⟨by omega,g5⟩
  have lr : ∀ i,i=0\/i=1 -> ∀ q,(t.x.e i).ring=some q->ja0 h5 (t.r i) (t.b i) q t.x.cap/\t.r i<h0.nx/\t.b i<h0.nx:=fun i hi q hq=>by
   obtain ⟨p1,_,_,p4,p5⟩:=X.ring i hi q hq
   exact ⟨p1.keep (o5.2 _ p4) (o5.2 _ p5),p4,p5⟩
  have q4:h5.get h0.nx=some jeg:=by rw [g5 _ om,z0]
  have q5:h5.get (h0.nx+2)=some (.cells [.bool true,.i (n:Int),.i (k:Int)] false):=by rw [g5 _ om,gp3]
  have q8:h5.get (h0.nx+3+0)=some (.cells ((t.x.e k).cells (two t.r0 t.r1 k)) false):=by rw [g5 _ om,zo]
  have q9:h5.get (h0.nx+3+1)=some (.cells ((t.x.e (1-k)).cells (two t.r0 t.r1 (1-k))) false):=by rw [g5 _ om,zt]
  have qx:h5.get t.wb=some (t.x.obj t.r0 t.r1 t.wv):=by rw [g5 _ om,hx3];rfl
  have hpair:=WI.pair k hk
  rw [hC]
  refine Run.fin_mono (wr_in hcl (d:=d) (bo:=t.b k) (n:=n) (hup:=(t.x.e (1-k)).what == 3) om hk q4 q5 q8 q9 z5 qx om om om om rfl (fun q hq=>(lr k hk q hq).1) fun hwr=>?_) fun v h' ⟨p1,p2⟩=>⟨p1,?_⟩
  ·obtain ⟨q,hq⟩:=Option.ne_none_iff_exists'.1 (hpair.1 hwr)
   obtain ⟨r1,r2,r3⟩:=lr (1-k) hk' q hq
   exact ⟨q,t.b (1-k),hq,r1,by show t.r (1-k)≠_;omega,by omega⟩
  ·have hn5:=o5.1
   exact ⟨zA hn5 p2.nx,fun j hj=>by rw [p2.get j om (by rintro (e | e)<;>omega),o5.2 j hj]⟩
end
structure Rdy where
 op:Bool
 inn:Bool
 out:Bool
 hup:Bool
 err:Bool
 rd:Int
 wr:Int
def Rdy.cells (r:Rdy):List V:=[.bool r.op,.bool r.inn,.bool r.out,.bool r.hup,.bool r.err,.int .u64 r.rd,.int .u64 r.wr]
def Rdy.no:Rdy:=⟨false,false,false,false,false,0,0⟩
def Wi.rdy (x:Wi) (k:Nat):Rdy :=
 if 0<x.backlog then ⟨true,!x.waiting.isEmpty,false,false,false,(x.e k).inn,(x.e k).out⟩
 else ⟨true,x.rIn k,x.rOut k,(x.e (1-k)).what == 3,x.reset,(x.e k).inn,(x.e k).out⟩
noncomputable def rdyS (ws:Ws) (fd:Int):Rdy:=jbU ws fd Rdy.no fun _ k x=>x.rdy k
theorem jj3 (ws:Ws) (fd:Int):jfa ws fd=(rdyS ws fd).cells:=by
 unfold jfa rdyS jbU
 split
 ·rfl
 ·split
  ·rfl
  ·show Wi.ready _ _=(Wi.rdy _ _).cells
   unfold Wi.ready Wi.rdy
   split<;>rfl
def mayAsk (ev:Int):Prop:=ev=0\/ev=1\/ev=4\/ev=5
instance (ev:Int):Decidable (mayAsk ev):=inferInstanceAs (Decidable (_\/_))
structure BX (h0 h:H) (p w s rw:Nat) (ow:Nat->Nat) (ro:Nat->Prop) (st:St) (i:Nat):Prop where
 b:BB h p w s rw ow ro (fun j=>j<h0.nx) st st
 so:StOk st i
 old:Old h0 h
 own : ∀ j,ow j≠0\/ro j->h0.nx<=j
 lp:h0.nx<=p
theorem old_fm {h0 h h':H} {ow ow':Nat->Nat} {ro ro':Nat->Prop} (o:Old h0 h) (f:Fm h h' ow ro ow' ro') (own : ∀ j,ow j≠0\/ro j->h0.nx<=j):Old h0 h' :=
 ⟨zA o.1 f.ch.nx,fun j hj=>by rw [f.ch.get j (zr hj o.1) fun hb=>by have:=own j hb;omega,o.2 j hj]⟩
theorem BX.fm {h0 h h':H} {p w s rw:Nat} {ow ow':Nat->Nat} {ro ro':Nat->Prop} {st st':St} {i i':Nat} (x:BX h0 h p w s rw ow ro st i) (b:BB h' p w s rw ow' ro' (fun j=>j<h0.nx) st' st') (f:Fm h h' ow ro ow' ro') (so:StOk st' i'):BX h0 h' p w s rw ow' ro' st' i':=by
 refine ⟨b,so,old_fm x.old f x.own,fun j hj=>?_,x.lp⟩
 rcases zx j h.nx with h1 | h1
 ·rw [f.tag j h1,f.rtag j h1] at hj
  exact x.own j hj
 ·exact zA x.old.1 h1
theorem BX.old' {h0 h h':H} {p w s rw:Nat} {ow:Nat->Nat} {ro:Nat->Prop} {st:St} {i:Nat} (x:BX h0 h p w s rw ow ro st i) (o:Old h h'):BX h0 h' p w s rw ow ro st i :=
 x.fm (x.b.old o) (Fm.old o) x.so
def st0:St:=⟨[],0,Tb.zero,none⟩
theorem atS_nil (fd:Int):atS [] fd=none:=jeO fun n k=>by rintro ⟨x,h,_⟩;simp at h
theorem st0_ok:StOk st0 0 where
 K:=⟨⟨fun n k n' k' fd h=>(by obtain ⟨x,hx,_⟩:=h;simp [st0] at hx),fun x hx=>(by simp [st0] at hx),by simp [st0],fun x hx=>(by simp [st0] at hx)⟩,fun i j x y p q m hx=>by simp [st0] at hx⟩
 nt := .inl rfl
 now:=⟨Int.le_refl _,by show (0:Int)<=_;omega⟩
 tb:=fun k=>⟨Int.le_refl _,Int.le_refl _⟩
theorem Ops.build {call:Call} {fuel base:Nat} {K:List Fr} {e:Env} {h:H} {Q:Post} {ix:Nat} {dst:Option Nat} {ops:List Ins} {keep:List Nat} {at_:Option Nat} {zero l:List V} {parts:List (Nat × Nat × Opd)} {ps:List (Nat × Nat × V)}
  (he:jb1 e parts=some ps) (hf:jaU zero ps=some l) (k:Ops call fuel base ops keep K (layv e dst (.agg l)) h Q):Ops call fuel base (⟨ix,dst,.build zero parts,none,at_,[]⟩ :: ops) keep K e h Q :=
 Ops.pure rfl (by simp only [I.pure,he,hf]) k
section
variable {cl:Nat->Call} (hcl:Sem cl)
include hcl
def wc0 (s:Nat):List V:=(List.replicate 96 ([.bool false,.i 0,.i 0]:List V)).flatten++[.nils,.p s 0,.int .u64 0,.bool false,.i 0,.i 0]
def rc0:List V := .nils :: tail 0 (fun _=>false) (fun _=>0) (-1) 0
omit hcl in
theorem wc0_eq (s:Nat):wc0 s=wc (fun i=>atS [] (i:Int)) .nils s 0 none:=by
 have e:(fun i:Nat=>atS [] (i:Int))=fun _=>none:=by funext i;exact atS_nil _
 rw [e]
 have:(List.replicate 96 ([.bool false,.i 0,.i 0]:List V)).flatten=jd5 fun _=>none:=by
  kernel_rfl
 unfold wc0 wc
 rw [this]
 rfl
omit hcl in
theorem fillW (s:Nat):jaU ((List.replicate 96 ([.bool false,.i 0,.i 0]:List V)).flatten++[.nils,.ptr none,.int .u64 0,.bool false,.i 0,.i 0]) [(289,1,.p s 0)]=some (wc0 s):=by kernel_rfl
omit hcl in
theorem fillR:jaU ([.nils,.int .u64 0]++List.replicate 32 (.bool false:V)++List.replicate 34 (.i 0:V)) [(66,1,.i (-1))]=some rc0:=by kernel_rfl
set_option maxRecDepth 100000 in
theorem nw_world {d:Nat} (hd:2<=d) (h:H):cl d (.fn F.world_New) [] h=some (.p (h.nx+1) 0,(h.new Tb.zero.obj).new (.cells (wc0 h.nx) false)):=by
 have hs:=sp_new hcl (d:=d-1) om h
 refine jal (at_ hcl om rfl rfl rfl ?_)
 refine Run.seq (Run.region0 (Ops.mv rfl (Ops.nil qkp (End.seq (Run.seq (Run.region0 (Ops.callf rfl hs (Ops.build rfl (fillW h.nx) (Ops.make rfl rfl ?_)))))))))
 refine qo1 ?_
 exact ⟨rfl,rfl⟩
set_option maxRecDepth 100000 in
theorem nw_ref {d:Nat} (hd:1<=d) (h:H):cl d (.fn F.jfp) [] h=some (.p h.nx 0,h.new (.cells rc0 false)):=by
 refine jal (at_ hcl om rfl rfl rfl ?_)
 refine Run.seq (Run.region0 (Ops.mv rfl (Ops.nil qkp (End.seq (Run.seq (Run.region0 (Ops.build rfl fillR (Ops.make rfl rfl ?_))))))))
 refine qo1 ?_
 exact ⟨rfl,rfl⟩
theorem nw_fresh {d:Nat} (hd:3<=d) (h:H) (hf : ∀ j,h.nx<=j->h.get j=none) : ∃ p w s rw ow ro h',cl d (.fn F.jer) [] h=some (.p p 0,h')/\BX h h' p w s rw ow ro st0 0:=by
 have e1:=nw_world hcl (d:=d-1) om h
 have e2:=nw_ref hcl (d:=d-1) om ((h.new Tb.zero.obj).new (.cells (wc0 h.nx) false))
 have x1:((h.new Tb.zero.obj).new (.cells (wc0 h.nx) false)).nx=h.nx+2:=rfl
 rw [x1] at e2
 have o4:Old h ((((h.new Tb.zero.obj).new (.cells (wc0 h.nx) false)).new (.cells rc0 false)).new (.cells [.p (h.nx+1) 0,.p (h.nx+2) 0] false)):=(Old.refl h).new.new.new.new
 refine ⟨h.nx+3,h.nx+1,h.nx,h.nx+2,fun j=>if j=h.nx then 3 else if j=h.nx+1 then 1 else 0,fun j=>j=h.nx+2,(((h.new Tb.zero.obj).new (.cells (wc0 h.nx) false)).new (.cells rc0 false)).new (.cells [.p (h.nx+1) 0,.p (h.nx+2) 0] false),jal (at_ hcl om rfl rfl rfl ?_),⟨⟨?_,?_,?_,?_,?_,?_,?_⟩,st0_ok,o4,?_,?_⟩⟩
 ·refine qm1 ?_
  exact ⟨rfl,rfl⟩
 ·refine ⟨[],⟨⟨⟨.nils,?_,Row.nil _ _ _,fun z hz=>by cases hz⟩,?_,?_,?_,?_,?_,fun j hj=>?_,fun n t ht=>by simp at ht⟩,fun n k fd hat=>?_⟩,rfl⟩
  ·have e:=wc0_eq h.nx
   show _=some (Obj.cells (wc (fun i=>atS [] (i:Int)) .nils h.nx 0 none) false)
   rw [<- e]
   exact qgt
  ·exact qgt
  ·show (if h.nx+1=h.nx then 3 else if h.nx+1=h.nx+1 then 1 else 0)=1
   rw [if_neg om,if_pos rfl]
  ·show (if h.nx=h.nx then 3 else if h.nx=h.nx+1 then 1 else 0)=3
   rw [if_pos rfl]
  ·simp<;>omega
  ·simp<;>omega
  ·have hj:h.nx+4<=j:=hj
   show (if j=h.nx then 3 else if j=h.nx+1 then 1 else 0)=0
   rw [if_neg om,if_neg om]
  ·obtain ⟨x,hx,_⟩:=hat;simp at hx
 ·refine ⟨[],⟨⟨h.nx+3,fun e=>absurd rfl e,fun g gn gk=>⟨?_,?_,by omega,fun e=>absurd rfl e,fun _=>?_,fun r hr=>by cases hr⟩⟩,fun j hj=>?_,rfl,fun j hj hd=>?_⟩,rfl⟩
  ·rw [gn];simp
  ·rw [gn];simp
  ·rw [gk (h.nx+2) Zd (.inl rfl)]
   show _=some (Obj.cells rc0 false)
   exact qgt
  ·rcases hj with rfl | hj
   ·simp
   ·simp<;>omega
  ·have hj:j=h.nx+2:=hj
   have hd:j<h.nx:=hd
   omega
 ·exact qgt
 ·simp
 ·intro j hj
  have hj:j=h.nx+2\/j<h.nx:=hj
  show (if j=h.nx then 3 else if j=h.nx+1 then 1 else 0)=0
  rw [if_neg om,if_neg om]
 ·show (if h.nx+3=h.nx then 3 else if h.nx+3=h.nx+1 then 1 else 0)=0
  rw [if_neg om,if_neg om]
 ·intro hj
  have hj:h.nx+3=h.nx+2\/h.nx+3<h.nx:=hj
  omega
 ·intro j hj
  rcases hj with hj | hj
  ·have hj:(if j=h.nx then 3 else if j=h.nx+1 then 1 else 0)≠0:=hj
   by_cases h1:j=h.nx
   ·omega
   ·rw [if_neg h1] at hj
    by_cases h2:j=h.nx+1
    ·omega
    ·rw [if_neg h2] at hj;exact absurd rfl hj
  ·have hj:j=h.nx+2:=hj
   omega
 ·omega
end
def jl5 (n:Int):UInt8:=UInt8.ofNat n.toNat
theorem byteI_V {n:Int} (h1:0<=n) (h2:n<=255):jcP (jl5 n) = .int .u8 n:=by
 have:n.toNat<256:=by omega
 simp only [jcP,jl5,UInt8.toNat_ofNat',Nat.mod_eq_of_lt this]
 congr 1;omega
theorem jkk {h:H} : ∀ {l:List Int} {cs:List V},jbs (jcl .u8) h l cs->cs=bts (l.map jl5)
 | [],_,e=>e
 | x :: l,_,⟨u,w,e,h1,h2⟩=>by
  obtain ⟨rfl,h3⟩:=h1
  rw [e,jkk h2,<- byteI_V h3.1 h3.2];rfl
theorem jmp {h:H} {l:List Int} {u:V} {B:Nat} (r:jb5 B (jcl .u8) h l [u]) : ∃ a c,u = .slice a l.length (.fix c)/\(l.length<=B->BytesAt h a (.fix c) (l.map jl5)):=by
 obtain ⟨a,c,e,h1,h2,h3⟩:=r
 cases e
 refine ⟨a,c,rfl,fun hB=>⟨fun e=>?_,by show (l.map jl5).length<=c;simpa using h2,fun hn=>?_⟩⟩
 ·obtain ⟨rfl,rfl⟩:=h3 e;exact ⟨rfl,rfl⟩
 ·obtain ⟨b,cs,q1,q2,q3,q4⟩:=h1 hB (by rintro rfl;exact hn rfl)
  refine ⟨b,0,cs,true,q1,q2,q3,fun i x hi=>?_⟩
  rw [jkk q4,Nat.zero_add];exact jjR hi
theorem BytesAt.keep {h h':H} {a:Option (Nat × Nat)} {c:Cap} {l:List UInt8} (t:BytesAt h a c l) (hx:h.nx<=h'.nx) (hk : ∀ j o,j<h.nx->h.get j=some o->h'.get j=some o):BytesAt h' a c l :=
 ⟨t.none_,t.fits,fun hn=>by
  obtain ⟨b,o,cs,ro,q1,q2,q3,q4⟩:=t.at_ hn
  exact ⟨b,o,cs,ro,q1,by omega,hk _ _ q2 q3,q4⟩⟩
theorem BytesAt.lt {h:H} {a:Option (Nat × Nat)} {c:Cap} {l:List UInt8} (t:BytesAt h a c l) {N:Nat} (hN:h.nx<=N) {z o:Nat} (ha:a=some (z,o)) (hl:l≠[]):z<N:=by
 obtain ⟨b,o',cs,ro,q1,q2,_⟩:=t.at_ hl
 rw [q1] at ha;cases ha;omega
structure OpX where
 k:Int
 a:Int
 n:Int
 t:Int
 dv:V
 D:List UInt8
abbrev OpX.V (x:OpX):List V:=opV x.k x.a x.n x.t x.dv
structure OpOk (h:H) (x:OpX):Prop where
 dv : ∃ a c,x.dv = .slice a x.D.length c/\(x.D.length<=300->BytesAt h a c x.D)
 t0:0<=x.t
 t1:x.t<=18446744073709551615
theorem OpOk.keep {h h':H} {x:OpX} (o:OpOk h x) (hx:h.nx<=h'.nx) (hk : ∀ j o,j<h.nx->h.get j=some o->h'.get j=some o):OpOk h' x:=by
 obtain ⟨⟨a,c,e,g⟩,t0,t1⟩:=o
 exact ⟨⟨a,c,e,fun hl=>(g hl).keep hx hk⟩,t0,t1⟩
theorem OpOk.dat {h:H} {x:OpX} (o:OpOk h x) (hl:x.D.length<=300):Dat h (fun j=>j<h.nx) x.dv x.D:=by
 obtain ⟨⟨a,c,e,g⟩,_,_⟩:=o
 refine ⟨⟨a,c,e,g hl⟩,fun hn z hz=>?_,hl⟩
 obtain ⟨b,o,cs,ro,q1,q2,_⟩:=(g hl).at_ hn
 rw [e,q1] at hz
 cases hz;exact q2
def joi (h:H) (lv:V) (L:List OpX):Prop := ∃ ad c,lv = .slice ad L.length c/\(L.length<=200->(∀ x∈L,OpOk h x)/\(L≠[] -> ∃ b cs ro,ad=some (b,0)/\b<h.nx/\h.get b=some (.cells cs ro)/\cs.length=L.length*5 /\ ∀ (i:Nat) (x:OpX),L[i]?=some x->(cs.drop (i*5)).take 5=x.V))
theorem joi.keep {h h':H} {lv:V} {L:List OpX} (o:joi h lv L) (hx:h.nx<=h'.nx) (hk : ∀ j o,j<h.nx->h.get j=some o->h'.get j=some o):joi h' lv L:=by
 obtain ⟨ad,c,e,g⟩:=o
 refine ⟨ad,c,e,fun hl=>⟨fun x hx'=>((g hl).1 x hx').keep hx hk,fun hn=>?_⟩⟩
 obtain ⟨b,cs,ro,q1,q2,q3,q4⟩:=(g hl).2 hn
 exact ⟨b,cs,ro,q1,by omega,hk _ _ q2 q3,q4⟩
def fewL (L:List OpX):Prop:=L.length<=200 /\ ∀ x∈L,x.D.length<=300
theorem jd9 {α : Type} {l:List α} {i:Nat} (h:i<l.length) : ∃ x,l[i]?=some x:=⟨_,za h⟩
section
variable {cl:Nat->Call} (hcl:Sem cl)
include hcl
theorem gr_ok {d:Nat} {h:H} {lv:V} {L:List OpX} (hd:1<=d) (hL:joi h lv L) :
  ∃ v,cl d (.fn F.jcG) [lv] h=some (v,h)/\(v = .i 1\/(v = .i 0/\fewL L)):=by
 obtain ⟨ad,c,rfl,hin⟩:=hL
 suffices ∃ v h',cl d (.fn F.jcG) [.slice ad L.length c] h=some (v,h')/\(h'=h/\(v = .i 1\/(v = .i 0/\fewL L))) by
  obtain ⟨v,h',q1,rfl,q3⟩:=this
  exact ⟨v,q1,q3⟩
 refine at_ hcl om rfl rfl rfl ?_
 by_cases h1:200<(L.length:Int)
 ·refine qx1 ?_
  exact ⟨rfl,.inl rfl⟩
 obtain ⟨hok,hel⟩:=hin om
 refine qx1 ?_
 refine Run.loop (fun m e h'=>∃ i:Nat,m=L.length-i/\i<=L.length/\e=[(0,.slice ad L.length c),(8,.i (L.length:Int)),(9,.i (i:Int))]/\h'=h /\ ∀ j x,j<i->L[j]?=some x->x.D.length<=300) (k:=L.length) Ze ⟨0,rfl,by omega,rfl,rfl,fun j x hj=>by omega⟩ ?_
 rintro _ _ _ ⟨i,rfl,hi,rfl,rfl,hj⟩ n' ih
 by_cases hlt:(i:Int)<L.length
 case neg=>
  have hf:fewL L:=⟨by omega,fun x hx=>by
   obtain ⟨j,hjl,e⟩:=List.getElem_of_mem hx
   exact hj j x om (by rw [za hjl,e])⟩
  clear ih hel hok hj
  refine qx1 ?_
  exact ⟨rfl,.inr ⟨rfl,hf⟩⟩
 obtain ⟨x,hx⟩:=jd9 (l:=L) (i:=i) om
 obtain ⟨b,cs,ro,rfl,_,hb,hcl',hc⟩:=hel (by rintro rfl;simp at hx)
 obtain ⟨⟨da,dc,edv,_⟩,_,_⟩:=hok x (zc hx)
 have h5:=hc i x hx
 have hc':cs[0+(i:Int).toNat*5+4]?=some (.slice da x.D.length dc):=by
  have:((cs.drop (i*5)).take 5)[4]?=some x.dv:=by rw [h5];rfl
  rw [List.getElem?_take,if_pos om,zm] at this
  rw [show 0+(i:Int).toNat*5+4=i*5+4 by omega,this,edv]
 clear hel hok hc h5
 by_cases hd3:300<(x.D.length:Int)
 ·clear ih hj
  refine qx1 ?_
  exact ⟨rfl,.inl rfl⟩
 ·have hi1:(i:Int)+1=((i+1:Nat):Int):=by omega
  refine qx1 ?_
  rw [hi1]
  refine ih (L.length-(i+1)) om _ _ ⟨i+1,rfl,by omega,rfl,rfl,fun j y hj' hy=>?_⟩
  by_cases e:j=i
  ·subst e
   rw [hx] at hy;cases hy
   omega
  ·exact hj j y om hy
theorem bx_do {d i p w s rw:Nat} {h0 h:H} {ow:Nat->Nat} {ro:Nat->Prop} {st:St} {x:OpX} (hd:16<=d) (b:BX h0 h p w s rw ow ro st i) (hi:i<=200) (hx:OpOk h0 x) (hl:x.D.length<=300) :
  ∃ h' ow' ro',cl d (.fn F.jb4) [.p p 0,.agg x.V] h=some (.bool true,h')/\BX h0 h' p w s rw ow' ro' (doS x.k x.a x.n x.t x.D st) (i+1)/\Fm h h' ow ro ow' ro':=by
 have hD:Dat h (fun j=>j<h0.nx) x.dv x.D:=by
  have:=hx.dat hl
  exact ⟨this.v.keep2 b.old.1 fun hn z hz=>b.old.2 z (this.z hn z hz),this.z,hl⟩
 obtain ⟨h',ow',ro',e,b',f⟩:=do_ok hcl (k:=x.k) (a:=x.a) (n:=x.n) (t:=x.t) hd b.b b.so hi hD hx.t0 hx.t1
 exact ⟨h',ow',ro',e,b.fm b' f (joP b.so hx.t0 hx.t1),f⟩
end
abbrev jor:H->Int × Int × Int × Int × List Int × Unit->List V->Prop:=jbJ (jcl .i64) (jbJ (jcl .i64) (jbJ (jcl .i64) (jbJ (jcl .u64) (jbJ (jb5 300 (jcl .u8)) jkn))))
theorem jls {h:H} {x:Int × Int × Int × Int × List Int × Unit} {vs:List V} (r:jor h x vs) : ∃ u,vs=[.i x.1,.i x.2.1,.i x.2.2.1,.int .u64 x.2.2.2.1,u]/\jb5 300 (jcl .u8) h x.2.2.2.2.1 [u]/\0<=x.2.2.2.1/\x.2.2.2.1<=18446744073709551615:=by
 obtain ⟨_,_,rfl,⟨rfl,_⟩,_,_,rfl,⟨rfl,_⟩,_,_,rfl,⟨rfl,_⟩,_,_,rfl,⟨rfl,ht⟩,u,w,rfl,r5,hw⟩:=r
 obtain rfl:w=[]:=hw
 have ⟨ad,c,e,h1⟩:=r5
 subst e
 exact ⟨_,rfl,⟨ad,c,rfl,h1⟩,ht.1,ht.2⟩
theorem jnN {h:H} : ∀ {l:List (Int × Int × Int × Int × List Int × Unit)} {cs:List V},jbs jor h l cs -> ∃ L:List OpX,L.length=l.length/\cs=(L.map OpX.V).flatten /\ ∀ x∈L,OpOk h x
 | [],_,e=>⟨[],rfl,e,fun x hx=>by cases hx⟩
 | y :: l,_,⟨u,w,e,h1,h2⟩=>by
  obtain ⟨L,l1,l2,l3⟩:=jnN h2
  obtain ⟨v,e1,r,t0,t1⟩:=jls h1
  obtain ⟨a,c,rfl,hB⟩:=jmp r
  refine ⟨⟨y.1,y.2.1,y.2.2.1,y.2.2.2.1,.slice a y.2.2.2.2.1.length (.fix c),y.2.2.2.2.1.map jl5⟩ :: L,by simp [l1],by rw [e,e1,l2];rfl,fun x hx=>?_⟩
  rcases List.mem_cons.1 hx with rfl | hx
  ·exact ⟨⟨a,.fix c,by simp,fun hl=>hB (by simpa using hl)⟩,t0,t1⟩
  ·exact l3 x hx
theorem jmk : ∀ L:List OpX,(L.map OpX.V).flatten.length=L.length*5
 | []=>rfl
 | x :: L=>by
  have:=jmk L
  have h5:(OpX.V x).length=5:=rfl
  show (OpX.V x++(L.map OpX.V).flatten).length=_
  rw [zg,this,h5]
  simp;omega
theorem flat_get : ∀ {L:List OpX} {i:Nat} {x:OpX},L[i]?=some x->(((L.map OpX.V).flatten).drop (i*5)).take 5=x.V
 | [],i,x,h=>by simp at h
 | y :: L,0,x,h=>by simp at h;subst h;rfl
 | y :: L,i+1,x,h=>by
  rw [List.map_cons,List.flatten_cons,show (i+1)*5=(OpX.V y).length+i*5 by show _=5+_;omega,<- List.drop_drop,List.drop_left]
  exact flat_get (by simpa using h)
theorem opsIn_of {h:H} {l:List (Int × Int × Int × Int × List Int × Unit)} {u:V} (r:jb5 200 jor h l [u]) : ∃ L:List OpX,L.length=l.length/\joi h u L:=by
 obtain ⟨ad,c,e,h1,h2,h3⟩:=r
 cases e
 by_cases hl:l.length<=200
 ·by_cases hn:l=[]
  ·subst hn
   exact ⟨[],rfl,ad,.fix c,rfl,fun _=>⟨fun x hx=>(by cases hx),fun e=>absurd rfl e⟩⟩
  ·obtain ⟨b,cs,rfl,q1,q2,q3⟩:=h1 hl hn
   obtain ⟨L,l1,rfl,l3⟩:=jnN q3
   exact ⟨L,l1,_,.fix c,by rw [l1],fun _=>⟨l3,fun _=>⟨b,_,true,rfl,q1,q2,jmk L,fun i x hx=>flat_get hx⟩⟩⟩
 ·exact ⟨List.replicate l.length ⟨0,0,0,0,.nils,[]⟩,by simp,ad,.fix c,by simp,fun hl'=>absurd (by simpa using hl') hl⟩
structure MvX where
 m:Mv
 dv:V
abbrev MvX.V (x:MvX):List V:=mvV x.m x.dv
def MvOk (h:H) (x:MvX):Prop := ∃ a c,x.dv = .slice a x.m.D.length c/\(x.m.D.length<=1100->BytesAt h a c x.m.D)
def MvsAt (h:H) (v:V) (l:List MvX):Prop := ∃ ad c,v = .slice ad l.length c/\(l≠[] -> ∃ b cs ro,ad=some (b,0)/\b<h.nx/\h.get b=some (.cells cs ro)/\cs.length=l.length*4 /\ ∀ (i:Nat) (x:MvX),l[i]?=some x->(cs.drop (i*4)).take 4=x.V)
def jpj (B:Nat) (h:H) (v:V) (l:List MvX):Prop:=(∃ ad c,v = .slice ad l.length c)/\(l.length<=B->(∀ x∈l,MvOk h x)/\MvsAt h v l)
structure SpX where
 t:Int
 intr:Bool
 ol:List Int
 ov:V
 ml:List MvX
 mv:V
abbrev SpX.V (x:SpX):List V:=[.int .u64 x.t,.bool x.intr,x.ov,x.mv]
structure SpOk (h:H) (x:SpX):Prop where
 ov:(∃ ad c,x.ov = .slice ad x.ol.length c)/\(x.ol.length<=60->VI h x.ov x.ol)
 mv:jpj 60 h x.mv x.ml
 t0:0<=x.t
 t1:x.t<=18446744073709551615
def jpi (h:H) (v:V) (l:List SpX):Prop := ∃ ad c,v = .slice ad l.length c/\(l.length<=100->(∀ x∈l,SpOk h x)/\(l≠[] -> ∃ b cs ro,ad=some (b,0)/\b<h.nx/\h.get b=some (.cells cs ro)/\cs.length=l.length*4 /\ ∀ (i:Nat) (x:SpX),l[i]?=some x->(cs.drop (i*4)).take 4=x.V))
def sumM:List SpX->Nat
 | []=>0
 | x :: l=>x.ml.length+sumM l
theorem sumM_take {l:List SpX} : ∀ {i:Nat} {x:SpX},l[i]?=some x->sumM (l.take (i+1))=sumM (l.take i)+x.ml.length:=by
 induction l with
 | nil=>intro i x h;simp at h
 | cons y l ih=>
  intro i x h
  match i,h with
  | 0,h=>simp at h;subst h;simp [sumM]
  | i+1,h=>
   have:=ih (i:=i) (x:=x) (by simpa using h)
   simp only [List.take_succ_cons,sumM] at this ⊢
   omega
structure fewS (l:List SpX):Prop where
 len:l.length<=100
 each : ∀ x∈l,x.ml.length<=60/\x.ol.length<=60 /\ ∀ m∈x.ml,m.m.D.length<=1100
 sum:sumM l<=500
theorem joZ {cs l:List V} {i j:Nat} (h:(cs.drop (i*4)).take 4=l) (hj:j<4):cs[0+(i:Int).toNat*4+j]?=l[j]?:=by
 rw [<- h,List.getElem?_take,if_pos hj,zm]
 congr 1
 omega
section
variable {cl:Nat->Call} (hcl:Sem cl)
include hcl
theorem gs_ok {d:Nat} {h:H} {v:V} {l:List SpX} (hd:1<=d) (hl:jpi h v l) :
  ∃ r,cl d (.fn F.jcF) [v] h=some (r,h)/\(r = .i 1\/(r = .i 0/\fewS l)):=by
 obtain ⟨ad,c,rfl,hin⟩:=hl
 suffices ∃ r h',cl d (.fn F.jcF) [.slice ad l.length c] h=some (r,h')/\(h'=h/\(r = .i 1\/(r = .i 0/\fewS l))) by
  obtain ⟨v,h',q1,rfl,q3⟩:=this
  exact ⟨v,q1,q3⟩
 refine at_ hcl om rfl rfl rfl ?_
 by_cases h1:100<(l.length:Int)
 ·refine qx1 ?_
  exact ⟨rfl,.inl rfl⟩
 obtain ⟨hok,hel⟩:=hin om
 refine qx1 ?_
 refine Run.loop (fun m e h'=>∃ (i:Nat) (n:Int),m=l.length-i/\i<=l.length/\e=[(0,.slice ad l.length c),(3,.i n),(10,.i (l.length:Int)),(11,.i (i:Int))]/\h'=h/\0<=n/\n<=4000/\(sumM (l.take i):Int)<=n/\sumM (l.take i)<=500 /\ ∀ j x,j<i->l[j]?=some x->x.ml.length<=60/\x.ol.length<=60 /\ ∀ m∈x.ml,m.m.D.length<=1100)
  (k:=l.length) Ze ⟨0,0,rfl,by omega,rfl,rfl,by omega,by omega,by simp [sumM],by simp [sumM],fun j x hj=>by omega⟩ ?_
 rintro _ _ g ⟨i,n,rfl,hi,rfl,rfl,n0,n1,n2,n3,hj⟩ n' ih
 by_cases hlt:(i:Int)<l.length
 case neg=>
  obtain rfl:i=l.length:=by omega
  rw [List.take_length] at n3
  have hf:fewS l:=⟨by omega,fun x hx=>by
   obtain ⟨j,hjl,e⟩:=List.getElem_of_mem hx
   exact hj j x om (by rw [za hjl,e]),n3⟩
  clear ih hel hok hj
  refine qx1 ?_
  exact ⟨rfl,.inr ⟨rfl,hf⟩⟩
 obtain ⟨x,hx⟩:=jd9 (l:=l) (i:=i) om
 obtain ⟨b,cs,ro,rfl,_,hb,hcs,hc⟩:=hel (by rintro rfl;simp at hx)
 obtain ⟨⟨⟨oa,oc,eov⟩,_⟩,⟨⟨ma,mc,emv⟩,hmin⟩,_,_⟩:=hok x (zc hx)
 have h4:=hc i x hx
 have c2:cs[0+(i:Int).toNat*4+2]?=some (.slice oa x.ol.length oc):=by rw [joZ h4 om,<- eov];rfl
 have c3:cs[0+(i:Int).toNat*4+3]?=some (.slice ma x.ml.length mc):=by rw [joZ h4 om,<- emv];rfl
 have hs:=sumM_take hx
 clear hel hok hc h4
 by_cases k1:60<(x.ml.length:Int)
 ·clear ih hj
  refine qx1 ?_
  exact ⟨rfl,.inl rfl⟩
 by_cases k2:60<(x.ol.length:Int)
 ·clear ih hj
  refine qx1 ?_
  exact ⟨rfl,.inl rfl⟩
 by_cases k3:500<n+(x.ml.length:Int)+(x.ol.length:Int)
 ·clear ih hj
  refine qx1 ?_
  exact ⟨rfl,.inl rfl⟩
 obtain ⟨hmok,hmat⟩:=hmin om
 have hi1:(i:Int)+1=((i+1:Nat):Int):=by omega
 refine qx1 ?_
 refine Run.loop (fun m e h'=>∃ (k:Nat) (n':Int),m=x.ml.length-k/\k<=x.ml.length/\e=[(0,.slice (some (b,0)) l.length c),(3,.i n'),(4,.i (i:Int)),(10,.i (l.length:Int)),(11,.i (i:Int)),(54,.i (x.ml.length:Int)),(55,.i (k:Int))]/\h'=g/\n+(x.ml.length:Int)+(x.ol.length:Int)<=n'/\n'<=500+55*(k:Int) /\ ∀ j y,j<k->x.ml[j]?=some y->y.m.D.length<=1100)
  (k:=x.ml.length) Ze ⟨0,_,rfl,by omega,rfl,rfl,by omega,by omega,fun j y hj=>by omega⟩ ?_
 rintro _ _ _ ⟨k,n',rfl,hk,rfl,rfl,p0,p1,hjk⟩ n'' ih2
 by_cases hlt2:(k:Int)<x.ml.length
 case neg=>
  clear ih2
  have hall : ∀ m∈x.ml,m.m.D.length<=1100:=fun m hm=>by
   obtain ⟨j,hjl,e⟩:=List.getElem_of_mem hm
   exact hjk j m om (by rw [za hjl,e])
  refine qx1 ?_
  rw [hi1]
  refine ih (l.length-(i+1)) om _ _ ⟨i+1,n',rfl,by omega,rfl,rfl,by omega,by omega,by rw [hs];omega,by rw [hs];omega,fun j y hj' hy=>?_⟩
  by_cases e:j=i
  ·subst e
   rw [hx] at hy;cases hy
   exact ⟨by omega,by omega,hall⟩
  ·exact hj j y om hy
 obtain ⟨y,hy⟩:=jd9 (l:=x.ml) (i:=k) om
 obtain ⟨ad',c',emv',hne⟩:=hmat
 obtain ⟨b2,cs2,ro2,e2,_,hb2,hcs2,hc2⟩:=hne (by intro e;rw [e] at hy;simp at hy)
 obtain ⟨da,dc,edv,_⟩:=hmok y (zc hy)
 obtain ⟨rfl,rfl⟩:ma=ad'/\mc=c':=by rw [emv] at emv';cases emv';exact ⟨rfl,rfl⟩
 subst e2
 have d3:cs2[0+(k:Int).toNat*4+3]?=some (.slice da y.m.D.length dc):=by rw [joZ (hc2 k y hy) om,<- edv];rfl
 have hk1:(k:Int)+1=((k+1:Nat):Int):=by omega
 clear hmok hne hc2
 by_cases k4:1100<(y.m.D.length:Int)
 ·clear ih ih2 hj hjk
  refine qx1 ?_
  exact ⟨rfl,.inl rfl⟩
 refine qx1 ?_
 have q1:(0:Int)<=(y.m.D.length:Int)/20/\(y.m.D.length:Int)/20<=55:=by omega
 have q2:(y.m.D.length:Int).tdiv 20=(y.m.D.length:Int)/20:=Int.tdiv_eq_ediv_of_nonneg om
 rw [q2,jfz (n:=(y.m.D.length:Int)/20) ⟨by omega,by omega⟩,jfz (n:=n'+(y.m.D.length:Int)/20) ⟨by omega,by omega⟩,hk1]
 refine ih2 (x.ml.length-(k+1)) om _ _ ⟨k+1,_,rfl,by omega,rfl,rfl,by omega,by omega,fun j z hj' hz=>?_⟩
 by_cases e:j=k
 ·subst e
  rw [hy] at hz;cases hz
  omega
 ·exact hjk j z om hz
end
theorem joH {m:Mv} {st:St} (h : ¬ m.may):mvS m st=((0,120),st):=if_neg h
theorem joI {m:Mv} {st:St} (h:m.may):mvS m st=(m.ans st,m.go st):=if_pos h
theorem Mv.ans_1 {m:Mv} {st:St} (h:m.op=1):m.ans st=(putS st.ws m.wire m.D).1:=by simp [Mv.ans,h]
theorem Mv.ans_2 {m:Mv} {st:St} (h:m.op=2):m.ans st=(((jci st.ws m.wire m.n).1.1.length:Int),(jci st.ws m.wire m.n).1.2):=by simp [Mv.ans,h]
theorem Mv.ans_3 {m:Mv} {st:St} (h:m.op=3):m.ans st=(0,(ja8 st.ws m.wire).1):=by simp [Mv.ans,h]
theorem Mv.ans_4 {m:Mv} {st:St} (h:m.op=4):m.ans st=(0,(jaz st.ws m.wire).1):=by simp [Mv.ans,h]
theorem Mv.ans_5 {m:Mv} {st:St} (h:m.op=5):m.ans st=(0,(jbX st.ws m.wire).1):=by simp [Mv.ans,h]
theorem Mv.ans_6 {m:Mv} {st:St} (h:m.op=6):m.ans st=(jar st.ws m.wire m.n).1:=by simp [Mv.ans,h]
theorem Mv.ans_7 {m:Mv} {st:St} (h:m.op=7):m.ans st=(0,if sig? m.n then 0 else 100):=by simp [Mv.ans,h]
theorem wire_12 {ws:Ws} {fd:Int} (u:Uniq ws):(jf3 ws fd).2=110\/(jf3 ws fd).2=0:=by
 unfold jf3 jbU
 split
 ·exact .inl rfl
 ·split
  ·exact .inl rfl
  ·exact .inr rfl
section
variable {cl:Nat->Call} (hcl:Sem cl) {h:H} {m:Mv} {dv:V} {st:St} {i:Nat}
include hcl
theorem jns {d w s:Nat} {ow:Nat->Nat} {ws:Ws} {now:Int} {tb:Tb} {no:Option (Nat × Nat)} (hd:4<=d) (a:WSt h w s ow ws now tb no) (o:WsOk ws) : ∃ h',cl d (.fn F.jmV) [.p w 0] h=some (.bool false,h')/\Old h h':=by
 obtain ⟨h1,e1,o1⟩:=jno hcl (d:=d-1) (fd := -1) om a o
 have hw:=wire_12 (fd := -1) o.uniq
 generalize jf3 ws (-1)=x at e1 hw
 obtain ⟨x1,x2⟩:=x
 have hx : ¬ x2=1:=by rcases hw with hw | hw<;>(have hw:x2=_:=hw;omega)
 clear hw a o
 refine jag (at_ hcl om rfl rfl rfl ?_)
 refine qx1 ?_
 exact ⟨by rw [decide_eq_false hx],o1⟩
theorem wm_Make {d w s:Nat} {ow:Nat->Nat} (hd:13<=d) (W:WSt h w s ow st.ws st.now st.tb st.no) (so:StOk st i) (hi:i<=900000) (hv:VB h dv m.D) (hz:m.D≠[] -> ∀ z,dv.at?=some z->ow z=0) :
  ∃ h' ow',cl d (.fn F.jg6) [.p w 0,.agg (mvV m dv)] h=some (.tup [.i (mvS m st).1.1,.i (mvS m st).1.2],h')/\WSt h' w s ow' (mvS m st).2.ws (mvS m st).2.now (mvS m st).2.tb (mvS m st).2.no/\To h h' ow ow':=by
 suffices q : ∃ v h',cl d (.fn F.jg6) [.p w 0,.agg (mvV m dv)] h=some (v,h') /\ ∃ ow',v = .tup [.i (mvS m st).1.1,.i (mvS m st).1.2]/\WSt h' w s ow' (mvS m st).2.ws (mvS m st).2.now (mvS m st).2.tb (mvS m st).2.no/\To h h' ow ow' by
  obtain ⟨_,h',e,ow',rfl,q⟩:=q;exact ⟨h',ow',e,q⟩
 obtain ⟨a,c,rfl,hB⟩:=id hv
 have o0:Old h (h.new (.cells (mvV m (.slice a m.D.length c)) false)):=(Old.refl h).new
 have g0:(h.new (.cells (mvV m (.slice a m.D.length c)) false)).get h.nx=some (.cells (mvV m (.slice a m.D.length c)) false):=jac _
 have x0:h.nx<(h.new (.cells (mvV m (.slice a m.D.length c)) false)).nx:=by simp
 obtain ⟨h1,e1,o1⟩:=jns hcl (d:=d-1) om (W.old o0) so.K.ok
 obtain ⟨h2,e2,o2⟩:=joy hcl (d:=d-1) (h:=h1) (m:=m) (a:=a) (c:=c) om
 have x1:=zr x0 o1.1
 have g1:h1.get h.nx=some (.cells (mvV m (.slice a m.D.length c)) false):=by rw [o1.2 _ x0,g0]
 have g2:h2.get h.nx=some (.cells (mvV m (.slice a m.D.length c)) false):=by rw [o2.2 _ x1,g1]
 have o02:Old h h2:=(o0.trans o1).trans o2
 have W2:=W.old o02
 have V2:VB h2 (.slice a m.D.length c) m.D:=hv.keep2 o02.1 fun hl z hz=>o02.2 z (hv.lt hl hz)
 have ok:=so.K.ok
 refine at_ hcl om rfl rfl rfl ?_
 obtain ⟨C,hC⟩ : ∃ C,C=c9_7:=⟨_,rfl⟩
 simp only [c9,c9_9,c9_8,<- hC,yB,yH]
 by_cases hm:m.may
 case neg=>
  rw [joH hm]
  clear so W V2 hv hB ok
  refine qm1 ?_
  exact ⟨ow,rfl,W2,To.of_old o02⟩
 have hm' : ¬ ¬ m.may:=fun e=>e hm
 have tail : ∀ sb,Run (cl (d-1)) fuel C [] ((0,.p w 0) :: (3,.p h.nx 0) :: sb) h2 (Fin c9.res fun v h'=>∃ ow',v = .tup [.i (mvS m st).1.1,.i (mvS m st).1.2]/\WSt h' w s ow' (mvS m st).2.ws (mvS m st).2.now (mvS m st).2.tb (mvS m st).2.no/\To h h' ow ow'):=fun sb=>by
  rw [joI hm,hC]
  clear e1 e2
  have hop:m.op=1\/m.op=2\/m.op=3\/m.op=4\/m.op=5\/m.op=6\/m.op=7:=by have:=hm.1;have:=hm.2.1;omega
  rcases hop with c1 | c1 | c1 | c1 | c1 | c1 | c1
  ·rw [Mv.ans_1 c1,Mv.go_1 c1]
   obtain ⟨h3,e3,W3,t3⟩:=jox hcl (d:=d-1) (n:=m.wire) om W2 ok V2 hm.2.2.2.2.1 (hz fun e=>by have h1:=hm.2.2.2.2.2.2.2.1 c1;rw [e] at h1;exact absurd h1 (by decide))
   clear so W W2 V2 hv hB ok
   refine qm1 ?_
   exact ⟨_,rfl,W3,To.old o02 t3⟩
  ·rw [Mv.ans_2 c1,Mv.go_2 c1]
   obtain ⟨v3,h3,e3,vb3,vz3,W3,t3⟩:=jnp hcl (d:=d-1) (n:=m.wire) (many:=m.n) om W2 ok
   obtain ⟨a3,c3,rfl,B3⟩:=vb3
   clear so W W2 V2 hv hB ok
   refine qm1 ?_
   exact ⟨_,rfl,W3,To.old o02 t3⟩
  ·rw [Mv.ans_3 c1,Mv.go_3 c1]
   obtain ⟨h3,e3,W3,t3⟩:=jhv hcl (d:=d-1) (n:=m.wire) om W2
   clear so W W2 V2 hv hB ok
   refine qm1 ?_
   exact ⟨_,rfl,W3,To.old o02 t3⟩
  ·rw [Mv.ans_4 c1,Mv.go_4 c1]
   obtain ⟨h3,e3,W3,t3⟩:=jgG hcl (d:=d-1) (n:=m.wire) om W2
   clear so W W2 V2 hv hB ok
   refine qm1 ?_
   exact ⟨_,rfl,W3,To.old o02 t3⟩
  ·rw [Mv.ans_5 c1,Mv.go_5 c1]
   obtain ⟨h3,e3,W3,t3⟩:=jlD hcl (d:=d-1) (n:=m.wire) om W2 ok
   clear so W W2 V2 hv hB ok
   refine qm1 ?_
   exact ⟨_,rfl,W3,To.old o02 t3⟩
  ·rw [Mv.ans_6 c1,Mv.go_6 c1]
   obtain ⟨h3,ow3,e3,W3,t3⟩:=jiE hcl (d:=d-1) (n:=m.wire) (many:=m.n) om so.K W2
   clear so W W2 V2 hv hB ok
   refine qm1 ?_
   exact ⟨_,rfl,W3,To.old o02 t3⟩
  ·rw [Mv.ans_7 c1,Mv.go_7 c1]
   obtain ⟨h3,e3,W3,t3⟩:=jlF hcl (d:=d-1) (sg:=m.n) om W2 so.nt (so.tb.mono om) (Tb.ok.mono (jj4 so.tb m.n) om)
   clear so W W2 V2 hv hB ok
   refine qm1 ?_
   exact ⟨_,rfl,W3,To.old o02 t3⟩
 clear so W V2 hv hB ok
 refine qm1 ?_
 exact tail _
theorem rm_Make {d rw q:Nat} {l:List RX} (hd:6<=d) (w:RW h rw q l st.tl) (hl:l.map RX.x=st.ws) (so:StOk st i) (hi:i<=900000) (hv:VB h dv m.D) (hz:m.D≠[] -> ∀ z,dv.at?=some z->z≠q/\z≠rw/\z<h.nx) :
  ∃ q' l' h',cl d (.fn F.jbx) [.p rw 0,.agg (mvV m dv)] h=some (.tup [.i (mvS m st).1.1,.i (mvS m st).1.2],h')/\RW h' rw q' l' (mvS m st).2.tl/\l'.map RX.x=(mvS m st).2.ws/\Ch (RC rw q) h h'/\(q'=q\/h.nx<=q'):=by
 suffices k : ∃ v h',cl d (.fn F.jbx) [.p rw 0,.agg (mvV m dv)] h=some (v,h') /\ ∃ q' l',v = .tup [.i (mvS m st).1.1,.i (mvS m st).1.2]/\RW h' rw q' l' (mvS m st).2.tl/\l'.map RX.x=(mvS m st).2.ws/\Ch (RC rw q) h h'/\(q'=q\/h.nx<=q') by
  obtain ⟨_,h',e,q',l',rfl,k⟩:=k;exact ⟨q',l',h',e,k⟩
 obtain ⟨a,c,rfl,hB⟩:=id hv
 have o0:Old h (h.new (.cells (mvV m (.slice a m.D.length c)) false)):=(Old.refl h).new
 have g0:(h.new (.cells (mvV m (.slice a m.D.length c)) false)).get h.nx=some (.cells (mvV m (.slice a m.D.length c)) false):=jac _
 have x0:h.nx<(h.new (.cells (mvV m (.slice a m.D.length c)) false)).nx:=by simp
 obtain ⟨h1,e1,o1⟩:=jo8 hcl (d:=d-1) (h:=h.new (.cells (mvV m (.slice a m.D.length c)) false)) (m:=m) (a:=a) (c:=c) om
 have g1:h1.get h.nx=some (.cells (mvV m (.slice a m.D.length c)) false):=by rw [o1.2 _ x0,g0]
 have o01:Old h h1:=o0.trans o1
 have w1:=w.old o01
 have V1:VB h1 (.slice a m.D.length c) m.D:=hv.keep2 o01.1 fun hl z hz=>o01.2 z (hv.lt hl hz)
 have z1:m.D≠[] -> ∀ z,(V.slice a m.D.length c).at?=some z->z≠q/\z≠rw/\z<h1.nx:=fun hn z e=>⟨(hz hn z e).1,(hz hn z e).2.1,zr (hz hn z e).2.2 o01.1⟩
 have ok:WsOk (l.map RX.x):=by rw [hl];exact so.K.ok
 refine at_ hcl om rfl rfl rfl ?_
 obtain ⟨C,hC⟩ : ∃ C,C=c10_7:=⟨_,rfl⟩
 simp only [c10,c10_8,<- hC,yB,yH]
 by_cases hm:m.may
 case neg=>
  rw [joH hm]
  clear so w V1 hv hB ok
  refine qm1 ?_
  exact ⟨q,l,rfl,w1,hl,o01.ch,.inl rfl⟩
 have hm' : ¬ ¬ m.may:=fun e=>e hm
 have tail : ∀ sb,Run (cl (d-1)) fuel C [] ((0,.p rw 0) :: (3,.p h.nx 0) :: sb) h1 (Fin c10.res fun v h'=>∃ q' l',v = .tup [.i (mvS m st).1.1,.i (mvS m st).1.2]/\RW h' rw q' l' (mvS m st).2.tl/\l'.map RX.x=(mvS m st).2.ws/\Ch (RC rw q) h h'/\(q'=q\/h.nx<=q')):=fun sb=>by
  rw [joI hm,hC]
  clear e1
  have hop:m.op=1\/m.op=2\/m.op=3\/m.op=4\/m.op=5\/m.op=6\/m.op=7:=by have:=hm.1;have:=hm.2.1;omega
  rcases hop with c1 | c1 | c1 | c1 | c1 | c1 | c1
  ·rw [Mv.ans_1 c1,Mv.go_1 c1]
   obtain ⟨l3,h3,e3,w3,x3,k3⟩:=jo6 hcl (d:=d-1) (n:=m.wire) om w1 ok V1 hm.2.2.2.2.1 z1
   rw [hl] at e3 x3
   clear so w w1 V1 hv hB ok
   refine qm1 ?_
   exact ⟨q,l3,rfl,w3,x3,(o01.ch (B:=RC rw q)).trans k3,.inl rfl⟩
  ·rw [Mv.ans_2 c1,Mv.go_2 c1]
   obtain ⟨v3,l3,h3,e3,vb3,w3,x3,k3⟩:=jn9 hcl (d:=d-1) (n:=m.wire) (many:=m.n) om w1 ok
   obtain ⟨a3,c3,rfl,B3⟩:=vb3
   rw [hl] at e3 x3 B3
   clear so w w1 V1 hv hB ok
   refine qm1 ?_
   exact ⟨q,l3,rfl,w3,x3,(o01.ch (B:=RC rw q)).trans k3,.inl rfl⟩
  ·rw [Mv.ans_3 c1,Mv.go_3 c1]
   obtain ⟨l3,h3,e3,w3,x3,k3⟩:=jh8 hcl (d:=d-1) (n:=m.wire) om w1
   rw [hl] at e3 x3
   clear so w w1 V1 hv hB ok
   refine qm1 ?_
   exact ⟨q,l3,rfl,w3,x3,(o01.ch (B:=RC rw q)).trans k3,.inl rfl⟩
  ·rw [Mv.ans_4 c1,Mv.go_4 c1]
   obtain ⟨l3,h3,e3,w3,x3,k3⟩:=jgI hcl (d:=d-1) (n:=m.wire) om w1
   rw [hl] at e3 x3
   clear so w w1 V1 hv hB ok
   refine qm1 ?_
   exact ⟨q,l3,rfl,w3,x3,(o01.ch (B:=RC rw q)).trans k3,.inl rfl⟩
  ·rw [Mv.ans_5 c1,Mv.go_5 c1]
   obtain ⟨l3,h3,e3,w3,x3,k3⟩:=jlT hcl (d:=d-1) (n:=m.wire) om w1 ok
   rw [hl] at e3 x3
   clear so w w1 V1 hv hB ok
   refine qm1 ?_
   exact ⟨q,l3,rfl,w3,x3,(o01.ch (B:=RC rw q)).trans k3,.inl rfl⟩
  ·rw [Mv.ans_6 c1,Mv.go_6 c1]
   obtain ⟨q3,l3,h3,e3,w3,x3,k3,n3⟩:=jiJ hcl (d:=d-1) (n:=m.wire) (many:=m.n) om w1 ok
   rw [hl] at e3 x3
   clear so w w1 V1 hv hB ok
   refine qm1 ?_
   exact ⟨q3,l3,rfl,w3,x3,(o01.ch (B:=RC rw q)).trans k3,(n3.imp id fun e=>zA o01.1 e)⟩
  ·rw [Mv.ans_7 c1,Mv.go_7 c1]
   obtain ⟨l3,h3,e3,w3,x3,k3⟩:=jlV hcl (d:=d-1) (s:=m.n) om w1 ok (by rw [hl];exact so.nt) (so.tb.mono om)
   rw [hl,<- jfH,<- jm1] at x3
   rw [<- jfH,<- jma st.tb m.n] at w3
   clear so w w1 V1 hv hB ok
   refine qm1 ?_
   exact ⟨q,l3,rfl,w3,x3,(o01.ch (B:=RC rw q)).trans k3,.inl rfl⟩
 clear so w V1 hv hB ok
 refine qm1 ?_
 exact tail _
end
def At4 {α : Type} (h:H) (P:Nat->Prop) (f : α -> List V) (v:V) (l:List α):Prop :=
 ∃ ad c,v = .slice ad l.length c/\(ad=none->c = .fix 0/\l=[])/\Cap.fits c l.length 4/\(l≠[] -> ∃ b o cs ro,ad=some (b,o)/\b<h.nx/\P b/\h.get b=some (.cells cs ro) /\ ∀ (i:Nat) (x : α),l[i]?=some x->(cs.drop (o+i*4)).take 4=f x)
theorem At4.keep {α : Type} {h h':H} {P P':Nat->Prop} {f : α -> List V} {v:V} {l:List α} (a:At4 h P f v l) (hx:h.nx<=h'.nx) (hk : ∀ z,z<h.nx->P z->h'.get z=h.get z/\P' z):At4 h' P' f v l:=by
 obtain ⟨ad,c,e,n,ft,g⟩:=a
 refine ⟨ad,c,e,n,ft,fun hl=>?_⟩
 obtain ⟨b,o,cs,ro,e1,e2,e3,e4,e5⟩:=g hl
 exact ⟨b,o,cs,ro,e1,zr e2 hx,(hk b e2 e3).2,by rw [(hk b e2 e3).1,e4],e5⟩
theorem jf6 {cs l:List V} {k:Nat} (h:(cs.drop k).take 4=l) (hl:l.length=4):k+4<=cs.length:=by
 have:=congrArg List.length h
 rw [List.length_take,List.length_drop,hl] at this
 omega
theorem jgP {cs l:List V} {k j:Nat} (h:(cs.drop k).take 4=l) (hj:j<4):cs[k+j]?=l[j]?:=by
 rw [<- h,List.getElem?_take,if_pos hj,zm]
structure StepAt (h:H) (P Q:Nat->Prop) (x:SpX):Prop where
 ov:VI h x.ov x.ol/\(x.ol≠[] -> ∀ z,x.ov.at?=some z->P z)
 mv:At4 h P MvX.V x.mv x.ml
 dv : ∀ m∈x.ml,VB h m.dv m.m.D/\(m.m.D≠[] -> ∀ z,m.dv.at?=some z->Q z)
 t0:0<=x.t
 t1:x.t<=18446744073709551615
def je9 (h:H) (P Q:Nat->Prop) (v:V) (l:List SpX):Prop:=At4 h P SpX.V v l /\ ∀ x∈l,StepAt h P Q x
theorem VI.lt {h:H} {v:V} {l:List Int} (a:VI h v l) (hl:l≠[]) {z:Nat} (hz:v.at?=some z):z<h.nx:=by
 obtain ⟨a,c,rfl,n,f,g⟩:=a
 obtain ⟨b,o,cs,ro,rfl,h1,_⟩:=g hl
 cases hz;exact h1
theorem StepAt.keep {h h':H} {P Q P' Q':Nat->Prop} {x:SpX} (a:StepAt h P Q x) (hx:h.nx<=h'.nx) (hp : ∀ z,z<h.nx->P z->h'.get z=h.get z/\P' z) (hq : ∀ z,z<h.nx->Q z->h'.get z=h.get z/\Q' z):StepAt h' P' Q' x where
 ov:=⟨a.ov.1.keep2 hx fun hl z hz=>(hp z (a.ov.1.lt hl hz) (a.ov.2 hl z hz)).1,fun hl z hz=>(hp z (a.ov.1.lt hl hz) (a.ov.2 hl z hz)).2⟩
 mv:=a.mv.keep hx hp
 dv m hm:=⟨(a.dv m hm).1.keep2 hx fun hl z hz=>(hq z ((a.dv m hm).1.lt hl hz) ((a.dv m hm).2 hl z hz)).1,fun hl z hz=>(hq z ((a.dv m hm).1.lt hl hz) ((a.dv m hm).2 hl z hz)).2⟩
 t0:=a.t0
 t1:=a.t1
theorem je9.keep {h h':H} {P Q P' Q':Nat->Prop} {v:V} {l:List SpX} (a:je9 h P Q v l) (hx:h.nx<=h'.nx) (hp : ∀ z,z<h.nx->P z->h'.get z=h.get z/\P' z) (hq : ∀ z,z<h.nx->Q z->h'.get z=h.get z/\Q' z):je9 h' P' Q' v l :=
 ⟨a.1.keep hx hp,fun x hx'=>(a.2 x hx').keep hx hp hq⟩
theorem StepAt.old {h h':H} {P Q:Nat->Prop} {x:SpX} (a:StepAt h P Q x) (o:Old h h'):StepAt h' P Q x:=a.keep o.1 (fun z hz hp=>⟨o.2 z hz,hp⟩) (fun z hz hp=>⟨o.2 z hz,hp⟩)
theorem je9.old {h h':H} {P Q:Nat->Prop} {v:V} {l:List SpX} (a:je9 h P Q v l) (o:Old h h'):je9 h' P Q v l:=a.keep o.1 (fun z hz hp=>⟨o.2 z hz,hp⟩) (fun z hz hp=>⟨o.2 z hz,hp⟩)
theorem At4.old {α : Type} {h h':H} {P:Nat->Prop} {f : α -> List V} {v:V} {l:List α} (a:At4 h P f v l) (o:Old h h'):At4 h' P f v l:=a.keep o.1 fun z hz hp=>⟨o.2 z hz,hp⟩
def SpX.sp (x:SpX):Sp:=⟨x.t,x.intr,x.ol,x.ml.map MvX.m⟩
def Sp.may (x:Sp):Prop:=x.moves.length<=50/\x.order.length<=50/\(∀ n∈x.order,0<=n/\n<=999) /\ ∀ m∈x.moves,m.may
instance (x:Sp):Decidable x.may:=by unfold Sp.may;infer_instance
def badN (n:Int):Prop:=n<0\/n>999
instance:DecidablePred badN:=fun n=>by unfold badN;infer_instance
section
variable {cl:Nat->Call} (hcl:Sem cl)
include hcl
theorem if_4 {α : Type} {d f g:Nat} {h:H} {P:Nat->Prop} {V4 : α -> List V} {bad : α -> Prop} [DecidablePred bad] {v:V} {l:List α} (hV : ∀ x,(V4 x).length=4) (hf:jdg prog.prims f=none) (hf2:jdg prog.fns f=some c154) (hd:1<=d) (a:At4 h P V4 v l) (hl:l.length<=50000)
  (k : ∀ x∈l,∀ h1,Old h h1 -> ∃ h2,cl (d-1) (.fn g) [.agg (V4 x)] h1=some (.bool (decide (bad x)),h2)/\Old h1 h2) :
  ∃ r h',cl d (.fn f) [v,.clo g []] h=some (.i r,h')/\Old h h'/\(0<=r ↔ ∃ x∈l,bad x):=by
 suffices q : ∃ w h',cl d (.fn f) [v,.clo g []] h=some (w,h') /\ ∃ r,w = .i r/\Old h h'/\(0<=r ↔ ∃ x∈l,bad x) by
  obtain ⟨_,h',e,r,rfl,q⟩:=q;exact ⟨r,h',e,q⟩
 obtain ⟨ad,c,rfl,_,_,hb⟩:=a
 refine at_ hcl om hf hf2 rfl ?_
 refine qx1 ?_
 refine Run.loop (fun m e h1=>∃ i:Nat,m=l.length-i/\i<=l.length/\e=[(0,.slice ad l.length c),(1,.clo g []),(7,.i (l.length:Int)),(8,.i (i:Int))]/\Old h h1 /\ ∀ j x,j<i->l[j]?=some x -> ¬ bad x)
  (k:=l.length) Ze ⟨0,rfl,by omega,rfl,Old.refl h,fun j x hj=>by omega⟩ ?_
 rintro _ _ h1 ⟨i,rfl,hi,rfl,o,hj⟩ n' ih
 by_cases hlt:(i:Int)<l.length
 case neg=>
  have hno : ¬ ∃ x∈l,bad x:=fun ⟨x,hx,hb⟩=>by
   obtain ⟨j,hjl,e⟩:=List.getElem_of_mem hx
   exact hj j x om (by rw [za hjl,e]) hb
  clear ih hb hj k
  refine qx1 ?_
  exact ⟨_,rfl,o,fun e=>absurd e om,fun e=>absurd e hno⟩
 obtain ⟨x,hx⟩:=jd9 (l:=l) (i:=i) om
 obtain ⟨b,oo,cs,ro,rfl,lb,_,gb,hc⟩:=hb (by rintro rfl;simp at hx)
 have gb1:h1.get b=some (.cells cs ro):=by rw [o.2 b lb,gb]
 have h4:(cs.drop (oo+(i:Int).toNat*4)).take 4=V4 x:=by rw [zw];exact hc i x hx
 have hlen:=jf6 h4 (hV x)
 have hxm:=zc hx
 obtain ⟨h2,e2,o2⟩:=k x hxm h1 o
 have hi1:(i:Int)+1=((i+1:Nat):Int):=by omega
 clear k hb
 by_cases hbad:bad x
 ·rw [decide_eq_true hbad] at e2
  clear ih hj hc
  refine qx1 ?_
  refine Ops.loadN rfl gb1 hlen ?_
  rw [h4]
  refine Ops.callc rfl rfl e2 ?_
  refine qx1 ?_
  exact ⟨_,rfl,o.trans o2,fun _=>⟨x,hxm,hbad⟩,fun _=>by omega⟩
 ·rw [decide_eq_false hbad] at e2
  clear hc
  refine qx1 ?_
  refine Ops.loadN rfl gb1 hlen ?_
  rw [h4]
  refine Ops.callc rfl rfl e2 ?_
  refine qx1 ?_
  rw [hi1]
  refine ih (l.length-(i+1)) om _ _ ⟨i+1,rfl,by omega,rfl,o.trans o2,fun j y hj' hy=>?_⟩
  by_cases e:j=i
  ·subst e
   rw [hx] at hy;cases hy
   exact hbad
  ·exact hj j y om hy
theorem cf_step {d g:Nat} {h:H} {P:Nat->Prop} {bad:SpX->Prop} [DecidablePred bad] {v:V} {l:List SpX} (hd:2<=d) (a:At4 h P SpX.V v l) (hl:l.length<=50000)
  (k : ∀ x∈l,∀ h1,Old h h1 -> ∃ h2,cl (d-2) (.fn g) [.agg x.V] h1=some (.bool (decide (bad x)),h2)/\Old h1 h2) :
  ∃ h',cl d (.fn F.jbR) [v,.clo g []] h=some (.bool (decide (∃ x∈l,bad x)),h')/\Old h h':=by
 obtain ⟨r,h1,e1,o1,hr⟩:=if_4 hcl (d:=d-1) (f:=F.jce) (fun _=>rfl) rfl rfl om a hl k
 refine jag (at_ hcl om rfl rfl rfl ?_)
 refine qx1 ?_
 exact ⟨congrArg V.bool (decide_eq_decide.2 hr),o1⟩
theorem cf_move {d g:Nat} {h:H} {P:Nat->Prop} {bad:MvX->Prop} [DecidablePred bad] {v:V} {l:List MvX} (hd:2<=d) (a:At4 h P MvX.V v l) (hl:l.length<=50000)
  (k : ∀ x∈l,∀ h1,Old h h1 -> ∃ h2,cl (d-2) (.fn g) [.agg x.V] h1=some (.bool (decide (bad x)),h2)/\Old h1 h2) :
  ∃ h',cl d (.fn F.jbS) [v,.clo g []] h=some (.bool (decide (∃ x∈l,bad x)),h')/\Old h h':=by
 obtain ⟨r,h1,e1,o1,hr⟩:=if_4 hcl (d:=d-1) (f:=F.jcf) (fun _=>rfl) rfl rfl om a hl k
 refine jag (at_ hcl om rfl rfl rfl ?_)
 refine qx1 ?_
 exact ⟨congrArg V.bool (decide_eq_decide.2 hr),o1⟩
theorem wm_badN {d:Nat} {h:H} {n:Int} (hd:1<=d):cl d (.fn F.jco) [.i n] h=some (.bool (decide (badN n)),h):=by
 refine jal (at_ hcl om rfl rfl rfl ?_)
 by_cases h1:n<0
 ·refine qx1 ?_
  exact ⟨by rw [decide_eq_true (show badN n from .inl h1)],rfl⟩
 ·refine qx1 ?_
  exact ⟨congrArg V.bool (decide_eq_decide.2 ⟨.inr,fun e=>e.elim (fun e=>absurd e h1) id⟩),rfl⟩
theorem if_1 {d:Nat} {h:H} {v:V} {l:List Int} (hd:2<=d) (a:VI h v l) (hl:l.length<=50000) :
  ∃ r,cl d (.fn F.jcc) [v,.clo F.jco []] h=some (.i r,h)/\(0<=r ↔ ∃ x∈l,badN x):=by
 suffices q : ∃ w h',cl d (.fn F.jcc) [v,.clo F.jco []] h=some (w,h') /\ ∃ r,w = .i r/\h'=h/\(0<=r ↔ ∃ x∈l,badN x) by
  obtain ⟨_,h',e,r,rfl,rfl,q⟩:=q;exact ⟨r,e,q⟩
 obtain ⟨ad,c,rfl,_,_,hb⟩:=a
 refine at_ hcl om rfl rfl rfl ?_
 refine qx1 ?_
 refine Run.loop (fun m e h1=>∃ i:Nat,m=l.length-i/\i<=l.length/\e=[(0,.slice ad l.length c),(1,.clo F.jco []),(7,.i (l.length:Int)),(8,.i (i:Int))]/\h1=h /\ ∀ j x,j<i->l[j]?=some x -> ¬ badN x)
  (k:=l.length) Ze ⟨0,rfl,by omega,rfl,rfl,fun j x hj=>by omega⟩ ?_
 rintro _ _ h1 ⟨i,rfl,hi,rfl,rfl,hj⟩ n' ih
 by_cases hlt:(i:Int)<l.length
 case neg=>
  have hno : ¬ ∃ x∈l,badN x:=fun ⟨x,hx,hb⟩=>by
   obtain ⟨j,hjl,e⟩:=List.getElem_of_mem hx
   exact hj j x om (by rw [za hjl,e]) hb
  clear ih hb hj
  refine qx1 ?_
  exact ⟨_,rfl,rfl,fun e=>absurd e om,fun e=>absurd e hno⟩
 obtain ⟨x,hx⟩:=jd9 (l:=l) (i:=i) om
 obtain ⟨b,oo,cs,ro,rfl,lb,gb,hc⟩:=hb (by rintro rfl;simp at hx)
 have h4:cs[oo+(i:Int).toNat*1]?=some (.i x):=by rw [zw,Nat.mul_one];exact hc i x hx
 have hxm:=zc hx
 have e2:=wm_badN hcl (d:=d-1) (n:=x) (h:=h1) om
 have hi1:(i:Int)+1=((i+1:Nat):Int):=by omega
 clear hb hc
 by_cases hbad:badN x
 ·rw [decide_eq_true hbad] at e2
  clear ih hj
  refine qx1 ?_
  refine Ops.callc rfl rfl e2 ?_
  refine qx1 ?_
  exact ⟨_,rfl,rfl,fun _=>⟨x,hxm,hbad⟩,fun _=>by omega⟩
 ·rw [decide_eq_false hbad] at e2
  refine qx1 ?_
  refine Ops.callc rfl rfl e2 ?_
  refine qx1 ?_
  rw [hi1]
  refine ih (l.length-(i+1)) om _ _ ⟨i+1,rfl,by omega,rfl,rfl,fun j y hj' hy=>?_⟩
  by_cases e:j=i
  ·subst e
   rw [hx] at hy;cases hy
   exact hbad
  ·exact hj j y om hy
theorem cf_int {d:Nat} {h:H} {v:V} {l:List Int} (hd:3<=d) (a:VI h v l) (hl:l.length<=50000) :
  cl d (.fn F.jcZ) [v,.clo F.jco []] h=some (.bool (decide (∃ x∈l,badN x)),h):=by
 obtain ⟨r,e1,hr⟩:=if_1 hcl (d:=d-1) om a hl
 refine jal (at_ hcl om rfl rfl rfl ?_)
 refine qx1 ?_
 exact ⟨congrArg V.bool (decide_eq_decide.2 hr),rfl⟩
theorem wm_mayC {d:Nat} {h:H} {x:MvX} (hd:8<=d) (hv:VB h x.dv x.m.D) : ∃ h',cl d (.fn F.jfQ) [.agg x.V] h=some (.bool (decide (¬ x.m.may)),h')/\Old h h':=by
 obtain ⟨m,dv⟩:=x
 obtain ⟨a,c,e,_⟩:=hv
 have e:dv = .slice a m.D.length c:=e
 subst e
 have o:Old h (h.new (.cells (mvV m (.slice a m.D.length c)) false)):=(Old.refl h).new
 have g0:(h.new (.cells (mvV m (.slice a m.D.length c)) false)).get h.nx=some (.cells (mvV m (.slice a m.D.length c)) false):=jac _
 obtain ⟨h1,e1,o1⟩:=joy hcl (d:=d-1) (h:=h.new (.cells (mvV m (.slice a m.D.length c)) false)) (m:=m) (a:=a) (c:=c) om
 refine jag (at_ hcl om rfl rfl rfl ?_)
 refine qm1 ?_
 exact ⟨rfl,o.trans o1⟩
theorem wm_Check {d:Nat} {h:H} {P Q:Nat->Prop} {x:SpX} (hd:11<=d) (a:StepAt h P Q x) : ∃ h',cl d (.fn F.jlw) [.agg x.V] h=some (.i (if x.sp.may then 0 else 120),h')/\Old h h':=by
 have o:Old h (h.new (.cells x.V false)):=(Old.refl h).new
 have g0:(h.new (.cells x.V false)).get h.nx=some (.cells x.V false):=jac _
 have x0:h.nx<(h.new (.cells x.V false)).nx:=by simp
 have a0:=a.old o
 obtain ⟨ao,co,eo,_⟩:=id a.ov.1
 obtain ⟨am,cm,em,_⟩:=id a.mv
 have q2:(x.V)[0+2]?=some (.slice ao x.ol.length co):=by rw [<- eo];rfl
 have q3:(x.V)[0+3]?=some (.slice am x.ml.length cm):=by rw [<- em];rfl
 refine jag (at_ hcl om rfl rfl rfl ?_)
 by_cases h1:(x.ml.length:Int)>50
 ·have hm : ¬ x.sp.may:=fun e=>by have:=e.1;simp [SpX.sp] at this;omega
  clear a a0
  refine qm1 ?_
  exact ⟨by rw [if_neg hm],o⟩
 by_cases h2:(x.ol.length:Int)>50
 ·have hm : ¬ x.sp.may:=fun e=>by have:=e.2.1;simp [SpX.sp] at this;omega
  clear a a0
  refine qm1 ?_
  exact ⟨by rw [if_neg hm],o⟩
 have e1:=cf_int hcl (d:=d-1) om a0.ov.1 om
 rw [eo] at e1
 by_cases h3 : ∃ n∈x.ol,badN n
 ·have hm : ¬ x.sp.may:=fun e=>by
   obtain ⟨n,hn,hb⟩:=h3
   have:=e.2.2.1 n hn
   rcases hb with hb | hb<;>omega
  rw [decide_eq_true h3] at e1
  clear a a0 h3
  refine qm1 ?_
  exact ⟨by rw [if_neg hm],o⟩
 obtain ⟨h9,e2,o2⟩:=cf_move hcl (d:=d-1) (g:=F.jfQ) (bad:=fun y=>¬ y.m.may) om a0.mv om fun y hy h1 o1=>wm_mayC hcl om ((a0.old o1).dv y hy).1
 rw [em] at e2
 rw [decide_eq_false h3] at e1
 by_cases h4 : ∃ y∈x.ml,¬ y.m.may
 ·have hm : ¬ x.sp.may:=fun e=>by
   obtain ⟨y,hy,hb⟩:=h4
   exact hb (e.2.2.2 y.m (List.mem_map_of_mem hy))
  rw [decide_eq_true h4] at e2
  clear a a0 h3 h4
  refine qm1 ?_
  exact ⟨by rw [if_neg hm],o.trans o2⟩
 ·have hm:x.sp.may:=⟨by simp [SpX.sp];omega,by simp [SpX.sp];omega,fun n hn=>by
   have : ¬ badN n:=fun e=>h3 ⟨n,hn,e⟩
   unfold badN at this
   omega,fun m hm=>by
   obtain ⟨y,hy,rfl⟩:=List.mem_map.1 hm
   exact Decidable.byContradiction fun e=>h4 ⟨y,hy,e⟩⟩
  rw [decide_eq_false h4] at e2
  clear a a0 h3 h4
  refine qm1 ?_
  exact ⟨by rw [if_pos hm],o.trans o2⟩
theorem wm_CheckC {d:Nat} {h:H} {P Q:Nat->Prop} {x:SpX} (hd:12<=d) (a:StepAt h P Q x) : ∃ h',cl d (.fn F.jhP) [.agg x.V] h=some (.bool (decide (¬ x.sp.may)),h')/\Old h h':=by
 have o:Old h (h.new (.cells x.V false)):=(Old.refl h).new
 have g0:(h.new (.cells x.V false)).get h.nx=some (.cells x.V false):=jac _
 obtain ⟨h1,e1,o1⟩:=wm_Check hcl (d:=d-1) om (a.old o)
 refine jag (at_ hcl om rfl rfl rfl ?_)
 by_cases hm:x.sp.may
 ·rw [if_pos hm] at e1
  refine qm1 ?_
  exact ⟨by simp [hm],o.trans o1⟩
 ·rw [if_neg hm] at e1
  refine qm1 ?_
  exact ⟨by simp [hm],o.trans o1⟩
theorem joz {d:Nat} {h:H} {P Q:Nat->Prop} {v:V} {l:List SpX} (hd:15<=d) (a:je9 h P Q v l) (hl:l.length<=2000) : ∃ h',cl d (.fn F.moves_all) [v] h=some (.bool (decide (∀ x∈l,x.sp.may)),h')/\Old h h':=by
 obtain ⟨h1,e1,o1⟩:=cf_step hcl (d:=d-1) (g:=F.jhP) (bad:=fun x=>¬ x.sp.may) om a.1 om fun y hy h1 o1=>wm_CheckC hcl om ((a.2 y hy).old o1)
 have he:decide (∀ x∈l,x.sp.may)=decide (¬ ∃ x∈l,¬ x.sp.may):=decide_eq_decide.2 ⟨fun e ⟨x,hx,hn⟩=>hn (e x hx),fun e x hx=>Decidable.byContradiction fun hn=>e ⟨x,hx,hn⟩⟩
 rw [he]
 obtain ⟨ad,c,rfl,_⟩:=id a.1
 have h1:(l.length:Int)<=2000:=by omega
 refine jag (at_ hcl om rfl rfl rfl ?_)
 clear a he
 refine qx1 ?_
 exact ⟨rfl,o1⟩
end
section
variable {cl:Nat->Call} (hcl:Sem cl)
include hcl
theorem rm_May {d:Nat} {h:H} {P Q:Nat->Prop} {x:SpX} (hd:4<=d) (a:StepAt h P Q x) : ∃ h',cl d (.fn F.jfm) [.agg x.V] h=some (.bool (decide x.sp.may),h')/\Old h h':=by
 have o:Old h (h.new (.cells x.V false)):=(Old.refl h).new
 have g0:(h.new (.cells x.V false)).get h.nx=some (.cells x.V false):=jac _
 have x0:h.nx<(h.new (.cells x.V false)).nx:=by simp
 have a0:=a.old o
 generalize hG:h.new (.cells x.V false)=G at o g0 x0 a0
 obtain ⟨ao,co,eo,n1,f1,b1⟩:=id a0.ov.1
 obtain ⟨am,cm,em,n2,f2,b2⟩:=id a0.mv
 have q2:(x.V)[0+2]?=some (.slice ao x.ol.length co):=by rw [<- eo];rfl
 have q3:(x.V)[0+3]?=some (.slice am x.ml.length cm):=by rw [<- em];rfl
 refine jag (at_ hcl om rfl rfl rfl ?_)
 by_cases h1:(x.ml.length:Int)>50
 ·have hm : ¬ x.sp.may:=fun e=>by have:=e.1;simp [SpX.sp] at this;omega
  subst hG
  clear a a0 b1 b2
  refine qm1 ?_
  exact ⟨by rw [decide_eq_false hm],o⟩
 by_cases h2:(x.ol.length:Int)>50
 ·have hm : ¬ x.sp.may:=fun e=>by have:=e.2.1;simp [SpX.sp] at this;omega
  subst hG
  clear a a0 b1 b2
  refine qm1 ?_
  exact ⟨by rw [decide_eq_false hm],o⟩
 have dvs : ∀ g,Old G g -> ∀ m∈x.ml,VB g m.dv m.m.D:=fun g og m hm=>((a0.old og).dv m hm).1
 clear a a0
 obtain ⟨C,hC⟩ : ∃ C,C=c132_3:=⟨_,rfl⟩
 obtain ⟨C1,hC1⟩ : ∃ C,C=c132_1:=⟨_,rfl⟩
 simp only [c132,c132_4,<- hC,<- hC1,uF,yB]
 have T:Run (cl (d-1)) fuel (.loop [1,3] C) [.block 0,.seq (.seq (.seq (.region 0 [.mk4 0 (some 4) (.mv (.c (.i 0))) none] [1,4]) (.block 2 (.loop [1,4] C1))) (.seq (.region 0 [.mk4 0 (some 2) (.mv (.c (.bool true))) none] [2]) (.ret)))] [(1,.p h.nx 0),(3,.i 0)] G (Fin c132.res fun v h'=>v = .bool (decide x.sp.may)/\Old h h'):=by
  rw [hC]
  refine Run.loop (fun m e g=>∃ i:Nat,m=x.ol.length-i/\i<=x.ol.length/\e=[(1,.p h.nx 0),(3,.i (i:Int))]/\g=G /\ ∀ j y,j<i->x.ol[j]?=some y -> ¬ badN y)
   (k:=x.ol.length) Ze ⟨0,rfl,by omega,rfl,rfl,fun j x hj=>by omega⟩ ?_
  rintro _ _ g ⟨i,rfl,hi,rfl,rfl,hj⟩ n' ih
  by_cases hlt:(i:Int)<x.ol.length
  case pos=>
   obtain ⟨y,hy⟩:=jd9 (l:=x.ol) (i:=i) om
   obtain ⟨b,oo,cs,ro,rfl,lb,gb,hc⟩:=b1 (by intro e;rw [e] at hy;simp at hy)
   have h4:cs[oo+(i:Int).toNat*1]?=some (.i y):=by rw [zw,Nat.mul_one];exact hc i y hy
   have hym:=zc hy
   have hi1:(i:Int)+1=((i+1:Nat):Int):=by omega
   clear b1 b2 hc dvs
   by_cases k1:y<0
   ·have hm : ¬ x.sp.may:=fun e=>by have:=(e.2.2.1 y hym).1;omega
    clear ih hj
    refine qx1 ?_
    exact ⟨by rw [decide_eq_false hm],o⟩
   by_cases k2:y>999
   ·have hm : ¬ x.sp.may:=fun e=>by have:=(e.2.2.1 y hym).2;omega
    clear ih hj
    refine qx1 ?_
    exact ⟨by rw [decide_eq_false hm],o⟩
   refine qx1 ?_
   rw [hi1]
   refine ih (x.ol.length-(i+1)) om _ _ ⟨i+1,rfl,by omega,rfl,rfl,fun j z hj' hz=>?_⟩
   by_cases e:j=i
   ·subst e
    rw [hy] at hz;cases hz
    unfold badN;omega
   ·exact hj j z om hz
  have hok : ∀ n∈x.ol,0<=n/\n<=999:=fun n hn=>by
   obtain ⟨j,hjl,e⟩:=List.getElem_of_mem hn
   have:=hj j n om (by rw [za hjl,e])
   unfold badN at this;omega
  clear ih b1 hj
  refine qx1 ?_
  rw [hC1]
  refine Run.loop (fun m e g'=>∃ i:Nat,m=x.ml.length-i/\i<=x.ml.length/\e=[(1,.p h.nx 0),(4,.i (i:Int))]/\Old g g' /\ ∀ j y,j<i->x.ml[j]?=some y->y.m.may)
   (k:=x.ml.length) Ze ⟨0,rfl,by omega,rfl,Old.refl _,fun j x hj=>by omega⟩ ?_
  rintro _ _ g' ⟨i,rfl,hi,rfl,og,hj⟩ n' ih
  have gg:g'.get h.nx=some (.cells x.V false):=by rw [og.2 _ x0,g0]
  by_cases hlt:(i:Int)<x.ml.length
  case neg=>
   have hm:x.sp.may:=⟨by simp [SpX.sp];omega,by simp [SpX.sp];omega,hok,fun m hm=>by
    obtain ⟨y,hy,rfl⟩:=List.mem_map.1 hm
    obtain ⟨j,hjl,e⟩:=List.getElem_of_mem hy
    exact hj j y om (by rw [za hjl,e])⟩
   clear ih b2 hj dvs hok
   refine qx1 ?_
   exact ⟨by rw [decide_eq_true hm],o.trans og⟩
  obtain ⟨y,hy⟩:=jd9 (l:=x.ml) (i:=i) om
  obtain ⟨b,oo,cs,ro,rfl,lb,_,gb,hc⟩:=b2 (by intro e;rw [e] at hy;simp at hy)
  have gb1:g'.get b=some (.cells cs ro):=by rw [og.2 b lb,gb]
  have h4:(cs.drop (oo+(i:Int).toNat*4)).take 4=y.V:=by rw [zw];exact hc i y hy
  have hlen:=jf6 h4 rfl
  have hym:=zc hy
  have hi1:(i:Int)+1=((i+1:Nat):Int):=by omega
  have hv:=dvs g' og y hym
  obtain ⟨m,dv⟩:=y
  obtain ⟨da,dc,e,_⟩:=hv
  have e:dv = .slice da m.D.length dc:=e
  subst e
  obtain ⟨g2,e2,o2⟩:=jo8 hcl (d:=d-1) (h:=g') (m:=m) (a:=da) (c:=dc) om
  clear b2 hc dvs
  by_cases hm1:m.may
  ·rw [decide_eq_true hm1] at e2
   refine qx1 ?_
   refine Ops.loadN rfl gb1 hlen ?_
   rw [h4]
   refine qx1 ?_
   rw [hi1]
   refine ih (x.ml.length-(i+1)) om _ _ ⟨i+1,rfl,by omega,rfl,og.trans o2,fun j z hj' hz=>?_⟩
   by_cases e:j=i
   ·subst e
    rw [hy] at hz;cases hz
    exact hm1
   ·exact hj j z om hz
  ·rw [decide_eq_false hm1] at e2
   have hm : ¬ x.sp.may:=fun e=>hm1 (e.2.2.2 m (List.mem_map.2 ⟨_,hym,rfl⟩))
   clear ih hj hok
   refine qx1 ?_
   refine Ops.loadN rfl gb1 hlen ?_
   rw [h4]
   refine qx1 ?_
   exact ⟨by rw [decide_eq_false hm],(o.trans og).trans o2⟩
 subst hG
 clear dvs b1 b2
 refine qm1 ?_
 exact T
theorem jo9 {d:Nat} {h:H} {P Q:Nat->Prop} {v:V} {l:List SpX} (hd:5<=d) (a:je9 h P Q v l) (hl:l.length<=2000) : ∃ h',cl d (.fn F.jfn) [v] h=some (.bool (decide (∀ x∈l,x.sp.may)),h')/\Old h h':=by
 obtain ⟨⟨ad,c,rfl,_,_,hb⟩,hs⟩:=a
 have h1 : ¬ (l.length:Int)>2000:=by omega
 refine jag (at_ hcl om rfl rfl rfl ?_)
 refine qx1 ?_
 refine Run.loop (fun m e g=>∃ i:Nat,m=l.length-i/\i<=l.length/\e=[(0,.slice ad l.length c),(3,.i (i:Int))]/\Old h g /\ ∀ j y,j<i->l[j]?=some y->y.sp.may)
  (k:=l.length) Ze ⟨0,rfl,by omega,rfl,Old.refl _,fun j x hj=>by omega⟩ ?_
 rintro _ _ g ⟨i,rfl,hi,rfl,og,hj⟩ n' ih
 by_cases hlt:(i:Int)<l.length
 case neg=>
  have hall : ∀ x∈l,x.sp.may:=fun y hy=>by
   obtain ⟨j,hjl,e⟩:=List.getElem_of_mem hy
   exact hj j y om (by rw [za hjl,e])
  clear ih hj hb hs
  refine qx1 ?_
  exact ⟨by rw [decide_eq_true hall],og⟩
 obtain ⟨y,hy⟩:=jd9 (l:=l) (i:=i) om
 obtain ⟨b,oo,cs,ro,rfl,lb,_,gb,hc⟩:=hb (by intro e;rw [e] at hy;simp at hy)
 have gb1:g.get b=some (.cells cs ro):=by rw [og.2 b lb,gb]
 have h4:(cs.drop (oo+(i:Int).toNat*4)).take 4=y.V:=by rw [zw];exact hc i y hy
 have hlen:=jf6 h4 rfl
 have hym:=zc hy
 have hi1:(i:Int)+1=((i+1:Nat):Int):=by omega
 obtain ⟨g2,e2,o2⟩:=rm_May hcl (d:=d-1) om ((hs y hym).old og)
 clear hb hc hs
 by_cases hm1:y.sp.may
 ·rw [decide_eq_true hm1] at e2
  refine qx1 ?_
  refine Ops.loadN rfl gb1 hlen ?_
  rw [h4]
  refine qx1 ?_
  rw [hi1]
  refine ih (l.length-(i+1)) om _ _ ⟨i+1,rfl,by omega,rfl,og.trans o2,fun j z hj' hz=>?_⟩
  by_cases e:j=i
  ·subst e
   rw [hy] at hz;cases hz
   exact hm1
  ·exact hj j z om hz
 ·rw [decide_eq_false hm1] at e2
  have hall : ¬ ∀ x∈l,x.sp.may:=fun e=>hm1 (e y hym)
  clear ih hj
  refine qx1 ?_
  refine Ops.loadN rfl gb1 hlen ?_
  rw [h4]
  refine qx1 ?_
  exact ⟨by rw [decide_eq_false hall],og.trans o2⟩
end
noncomputable def runS (L:List OpX) (st:St):St:=L.foldl (fun st x=>doS x.k x.a x.n x.t x.D st) st
theorem runS_take {L:List OpX} {i:Nat} {x:OpX} (hx:L[i]?=some x) (st:St):runS (L.take (i+1)) st=doS x.k x.a x.n x.t x.D (runS (L.take i) st):=by
 unfold runS
 rw [List.take_add_one,hx]
 simp
def Pw (h:H):Prop:=F.powB<h.nx /\ ∃ l ro,h.get F.powB=some (.cells l ro)/\jkw 20 1 l=true
theorem Pw.old {h h':H} (p:Pw h) (o:Old h h'):Pw h':=⟨zr p.1 o.1,by obtain ⟨l,ro,h1,h2⟩:=p.2;exact ⟨l,ro,by rw [o.2 F.powB p.1,h1],h2⟩⟩
theorem Pw.ch {h h':H} {B:Nat->Prop} (p:Pw h) (c:Ch B h h') (h0 : ¬ B F.powB):Pw h':=⟨zr p.1 c.nx,by obtain ⟨l,ro,h1,h2⟩:=p.2;exact ⟨l,ro,by rw [c.get F.powB p.1 h0,h1],h2⟩⟩
theorem jiT {h:H} {u:Nat} (p:Pw h):jc4 F.powB u h=some (.str (dec u),h):=by
 obtain ⟨_,l,ro,h1,h2⟩:=p
 unfold jc4
 cases Nat.blt u 100 with
 | true=>rfl
 | false=>simp only [cond_false,h1,h2,cond_true]
def jfr:Int->List UInt8
 | 0=>[110,111,110,101]
 | 1=>[105,110]
 | 2=>[111,117,116]
 | _=>[99,108,111,115,101,100]
theorem jk5 (i:Int):(jfr i).length<=6:=by unfold jfr;split<;>simp
def jiw (r:Option (List UInt8)) (cap:Nat):List UInt8:=match r with
 | none=>[45]
 | some b=>hexS b++[47]++dec cap
def jbz (what:Int) (shut:Bool) (r:Option (List UInt8)) (cap:Nat):List (List UInt8):=jfr what :: ((if shut then [[115,104,117,116]] else [])++[jiw r cap])
section
variable {cl:Nat->Call} (hcl:Sem cl)
include hcl
theorem jcW {d u:Nat} {h:H} (hd:1<=d) (hu:u<9223372036854775808) (p:Pw h):cl d (.fn F.jkc) [.i (u:Int)] h=some (.str (dec u),h):=by
 rw [joq hcl hd (p:=jkz F.powB) rfl]
 have h1:Nat.ble u 9223372036854775807=true:=Nat.ble_eq_true_of_le om
 show (bif Nat.ble u 9223372036854775807 then jc4 F.powB u h else none)=_
 rw [h1,cond_true,jiT p]
theorem w_FmtU {d u:Nat} {h:H} (hd:1<=d) (hu:u<18446744073709551616) (p:Pw h):cl d (.fn F.jf9) [.int .u64 (u:Int),.i 10] h=some (.str (dec u),h):=by
 rw [joq hcl hd (p:=jk1 F.powB) rfl]
 have h1:Nat.ble u 18446744073709551615=true:=Nat.ble_eq_true_of_le om
 show (bif Nat.ble u 18446744073709551615 then jc4 F.powB u h else none)=_
 rw [h1,cond_true,jiT p]
theorem w_Join {d b o n:Nat} {c:Cap} {h:H} {l:List V} {ro:Bool} {xs:List (List UInt8)} {s:List UInt8} (hd:1<=d) (hg:h.get b=some (.cells l ro)) (hx:(l.drop o).take n=xs.map V.str) (hn:xs.length=n) (hs:(Lib.join xs s).length<=100000000) (hn2:n<=1000000) :
  cl d (.fn F.jgH) [.slice (some (b,o)) n c,.str s] h=some (.str (Lib.join xs s),h):=by
 rw [joq hcl hd (p:=jjA) rfl]
 have h1:(Nat.beq xs.length n&&(Nat.ble n 140737488355328&&Nat.ble (Lib.join xs s).length 140737488355328))=true:=by
  rw [show Nat.beq xs.length n=true by rw [hn];exact Nat.beq_refl n,Nat.ble_eq_true_of_le om,Nat.ble_eq_true_of_le om];rfl
 simp only [jjA]
 rw [hg]
 dsimp only
 rw [hx,jlN]
 dsimp only
 rw [h1,cond_true]
end
end Am.Sigs
