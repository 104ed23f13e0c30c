/- Our own library, part 21: an abstract machine, sound for the model, and what the functions do over it. No condition. -/
import Derived.Test.YtkcenemffnfoeaaGreatK20
set_option maxHeartbeats 8000000
namespace Am.Sigs
open Am Go
section
variable {cl:Nat->Call} (hcl:Sem cl) {h:H} {w s:Nat} {ow:Nat->Nat} {l:List WX} {now:Int} {tb:Tb} {no:Option (Nat × Nat)}
include hcl
theorem cw_ok {d m nn:Nat} {t:WX} (hd:5<=d) (K:WsK (wxs l)) (a:WW h w s ow l now tb no) (ht:l[m]?=some t) (hb0:t.x.backlog≠0) (hw1:t.x.e0.what=1) (hm1:1<=nn) (hm2:nn<=65536) (hbk : ¬ t.x.backlog<=t.x.waiting.length) (hfull:l.length<1000) :
  ∃ h' ow',cl d (.fn F.jbs) [.p w 0,.i (m:Int),.i (nn:Int)] h=some (.tup [.i (l.length:Int),.i 0],h') /\
   WSt h' w s ow' ((wxs l).set m { t.x with waiting:=t.x.waiting++[(l.length:Int)],e0 := { t.x.e0 with inn:=upu t.x.e0.inn } } ++ [jba nn]) now tb no/\To h h' ow ow':=by
 have lw:=a.wf.lw
 have hnone:=jbZ hcl (d:=d-1) (by omega) a.wf
 have hcap:=jg5 hcl (h:=h) (d:=d-1) (n:=(nn:Int)) (by omega)
 rw [decide_eq_true (by omega)] at hcap
 obtain ⟨sa,c,hw,hsl⟩:=a.wf.head
 have c1:(wc (fun i=>atS (wxs l) (i:Int)) (.slice sa l.length c) s now no)[0+288]?=some (.slice sa l.length c):=jaZ rfl
 have hlt:=x_lt ht
 obtain ⟨z,rfl,z1,z2,z3⟩:=hsl (by rintro rfl;simp at hlt)
 have hx:=jak ht
 have X:=a.wf.ok m t ht
 have hwb:=X.lx
 have w2:(wps l)[0+(m:Int).toNat*1]?=some (.p t.wb 0):=by rw [show 0+(m:Int).toNat*1=m by omega];exact jcV ht
 have gt:h.get t.wb=some (.cells (t.x.cells t.r0 t.r1 t.wv) false):=X.hx
 have hvi:=X.wait.1
 obtain ⟨av,cv,hva,_⟩:=id hvi
 rw [hva] at gt hvi
 have hnw : ¬ t.x.e0.what≠1:=fun e=>e hw1
 have hl2 : ¬ 1000<=(l.length:Int):=by omega
 have hwt:=(K.ok.wait t.x (List.mem_of_getElem? hx)).1
 obtain ⟨h1,e1,x1,o1,g0,g2,g1,g4,g3⟩:=jkz hcl (h:=h) (n:=nn) (d:=d-1) (by omega) hm2
 simp only [jlC,Wi.obj,Wi.cells,En.cells,List.cons_append,List.nil_append] at g0
 suffices q : ∃ v h',cl d (.fn F.jbs) [.p w 0,.i (m:Int),.i (nn:Int)] h=some (v,h') /\ ∃ ow',v = .tup [.i (l.length:Int),.i 0]/\WSt h' w s ow' ((wxs l).set m { t.x with waiting:=t.x.waiting++[(l.length:Int)],e0 := { t.x.e0 with inn:=upu t.x.e0.inn } } ++ [jba nn]) now tb no/\To h h' ow ow' by
  obtain ⟨_,h',e,ow',rfl,q⟩:=q;exact ⟨h',ow',e,q⟩
 refine at_ hcl (by omega) rfl rfl rfl ?_
 obtain ⟨C,hC⟩ : ∃ C,C=c101_3:=⟨_,rfl⟩
 simp only [c101,c101_10,c101_5,c101_4]
 rw [<- hC]
 have gw1:h1.get w=some _:=(o1.2 _ lw).trans hw
 have gz1:h1.get z=some _:=(o1.2 _ z1).trans z3
 have gt1:h1.get t.wb=some _:=(o1.2 _ hwb).trans gt
 repeat' (first|refine zaa rfl ?_|refine zav rfl (by repeat first|assumption|refine zzn (by omega) ?_) (by first|assumption|rfl) ?_|refine zaw rfl ‹_› ?_|refine zcs rfl rfl rfl (by repeat first|assumption|refine zzn (by omega) ?_) (Nat.le_of_ble_eq_true rfl) ?_|refine zad (by repeat' constructor) ?_|refine zbb rfl (by first|assumption|omega) ?_|refine zaf rfl rfl ?_|refine zag rfl rfl ?_|refine zah rfl rfl ?_|refine zak rfl rfl ?_|refine zar rfl (by first|assumption|omega) rfl ?_|refine zao rfl ?_|refine zau rfl rfl ?_|refine zay rfl rfl (by omega) ?_|apply zab|apply zac|refine zbj rfl ‹_› ?_|refine zbl rfl rfl ?_|apply zbo|apply zbp|apply zae|apply zbw)
 refine Run.opqh fun H1 hH1=>?_
 have xH:H1.nx=h1.nx:=by rw [hH1];rfl
 have kH : ∀ j,j≠h.nx->H1.get j=h1.get j:=fun j hj=>by rw [hH1,jab hj]
 have oH:Old h H1:=⟨by have:=o1.1;omega,fun j hj=>by rw [kH j (by omega),o1.2 j hj]⟩
 have gN:H1.get h.nx=some ((jba nn).obj (h.nx+2) (h.nx+4) .nils):=by rw [hH1];exact jaa _
 clear hH1 gw1 gz1 gt1
 rw [hC]
 refine cw_mid hcl (by omega) K a ht hwt hfull oH (by omega) gN fun k hk=>?_
 rcases hk with rfl | rfl
 ·exact (jdJ hm1 hm2 g2 g1).keep (kH _ (by show h.nx+2≠h.nx;omega)) (kH _ (by show h.nx+1≠h.nx;omega))
 ·exact (jdJ hm1 hm2 g4 g3).keep (kH _ (by show h.nx+4≠h.nx;omega)) (kH _ (by show h.nx+3≠h.nx;omega))
end
end Am.Sigs
namespace Am.Sigs
open Am Go
section
variable {cl:Nat->Call} (hcl:Sem cl) {h:H} {w s:Nat} {ow:Nat->Nat} {ws:Ws} {now:Int} {tb:Tb} {no:Option (Nat × Nat)}
include hcl
theorem jj6 {d:Nat} {n many:Int} (hd:5<=d) (K:WsK ws) (a:WSt h w s ow ws now tb no) :
  ∃ h' ow',cl d (.fn F.jbs) [.p w 0,.i n,.i many] h=some (.tup [.i (jar ws n many).1.1,.i (jar ws n many).1.2],h')/\WSt h' w s ow' (jar ws n many).2 now tb no/\To h h' ow ow':=by
 obtain ⟨l,a,rfl⟩:=a
 have K':=jgf (n:=n) (many:=many) K
 have lw:=a.wf.lw
 have hnone:=jbZ hcl (d:=d-1) (by omega) a.wf
 have hcap:=jg5 hcl (h:=h) (d:=d-1) (n:=many) (by omega)
 have hwl:(wxs l).length=l.length:=by simp
 have hol:l.length<=1000:=by have:=K.ok.len;omega
 obtain ⟨sa,c,hw,hsl⟩:=a.wf.head
 have c1:(wc (fun i=>atS (wxs l) (i:Int)) (.slice sa l.length c) s now no)[0+288]?=some (.slice sa l.length c):=jaZ rfl
 suffices q : ∃ v h',cl d (.fn F.jbs) [.p w 0,.i n,.i many] h=some (v,h') /\ ∃ ow',v = .tup [.i (jar (wxs l) n many).1.1,.i (jar (wxs l) n many).1.2]/\WSt h' w s ow' (jar (wxs l) n many).2 now tb no/\To h h' ow ow' by
  obtain ⟨_,h',e,ow',rfl,q⟩:=q;exact ⟨h',ow',e,q⟩
 by_cases hall : ∃ (m nn:Nat) (t:WX),n=m/\many=nn/\l[m]?=some t/\t.x.backlog≠0/\t.x.e0.what=1/\1<=nn/\nn<=65536 /\ ¬ t.x.backlog<=t.x.waiting.length/\l.length<1000
 ·obtain ⟨m,nn,t,rfl,rfl,ht,hb0,hw1,hm1,hm2,hbk,hfull⟩:=hall
  obtain ⟨h',ow',e,q⟩:=cw_ok hcl hd K a ht hb0 hw1 hm1 hm2 hbk hfull
  have hS:jar (wxs l) m nn=(((l.length:Int),(0:Int)),(wxs l).set m { t.x with waiting:=t.x.waiting++[(l.length:Int)],e0 := { t.x.e0 with inn:=upu t.x.e0.inn } } ++ [jba nn]):=by
   unfold jar
   rw [if_neg (by omega),Int.toNat_natCast,jak ht]
   simp only
   rw [if_neg (by rintro (e | e);(exact hb0 e);exact e hw1),if_neg (by omega),if_neg hbk,if_neg (by omega),hwl]
  rw [hS]
  exact ⟨_,h',e,ow',rfl,q⟩
 refine at_ hcl (by omega) rfl rfl rfl ?_
 have same:WSt h w s ow (wxs l) now tb no:=⟨l,a,rfl⟩
 by_cases hn:n<0
 ·have hS:jar (wxs l) n many=((0,116),wxs l):=if_pos hn
  rw [hS]
  repeat' (first|refine zaa rfl ?_|refine zaw rfl ‹_› ?_|refine zad (by repeat' constructor) ?_|refine zbc rfl ‹_› ?_|refine zbe rfl rfl ?_|refine zaf rfl rfl ?_|refine zaq rfl ‹_› rfl ?_|refine zas rfl rfl rfl ?_|apply zab|apply zac|refine zbk rfl rfl ?_|refine zbl rfl rfl ?_|apply zbo|apply zbq|apply zae|apply zbu|apply zbx|refine zcf rfl ?_)
  all_goals first | exact ⟨ow,rfl,same,To.refl _ _⟩ | (exfalso;omega)
 have hS:jar (wxs l) n many=_:=if_neg hn
 obtain ⟨m,rfl⟩:=Int.eq_ofNat_of_zero_le (show 0<=n by omega)
 rw [Int.toNat_natCast] at hS
 by_cases hlt:m<l.length
 case neg=>
  rw [List.getElem?_eq_none (by omega)] at hS
  have hS:jar (wxs l) m many=((0,116),wxs l):=hS
  rw [hS]
  repeat' (first|refine zaa rfl ?_|refine zav rfl ‹_› ‹_› ?_|refine zaw rfl ‹_› ?_|refine zad (by repeat' constructor) ?_|refine zbb rfl ‹_› ?_|refine zbc rfl (by first|assumption|omega) ?_|refine zbe rfl rfl ?_|refine zaf rfl rfl ?_|refine zak rfl rfl ?_|refine zaq rfl (by first|assumption|omega) rfl ?_|refine zar rfl ‹_› rfl ?_|refine zas rfl rfl rfl ?_|refine zau rfl rfl ?_|apply zab|apply zac|refine zbk rfl rfl ?_|refine zbl rfl rfl ?_|apply zbo|apply zbq|apply zae|apply zbu|apply zbx|refine zcf rfl ?_)
  all_goals first | exact ⟨ow,rfl,same,To.refl _ _⟩ | (exfalso;omega)
 obtain ⟨t,ht⟩ : ∃ t,l[m]?=some t:=⟨_,List.getElem?_eq_getElem hlt⟩
 obtain ⟨z,rfl,z1,z2,z3⟩:=hsl (by rintro rfl;simp at hlt)
 have hx:=jak ht
 rw [hx] at hS
 simp only at hS
 have X:=a.wf.ok m t ht
 have hwb:=X.lx
 have w2:(wps l)[0+(m:Int).toNat*1]?=some (.p t.wb 0):=by rw [show 0+(m:Int).toNat*1=m by omega];exact jcV ht
 have gt:h.get t.wb=some (.cells (t.x.cells t.r0 t.r1 t.wv) false):=X.hx
 obtain ⟨av,cv,hva,_⟩:=id X.wait.1
 rw [hva] at gt
 by_cases hb0:t.x.backlog=0
 ·have hS:jar (wxs l) m many=((0,116),wxs l):=by rw [hS,if_pos (.inl hb0)]
  rw [hS]
  repeat' (first|refine zaa rfl ?_|refine zav rfl ‹_› (by first|assumption|rfl) ?_|refine zaw rfl ‹_› ?_|refine zad (by repeat' constructor) ?_|refine zbb rfl (by first|assumption|omega) ?_|refine zbc rfl ‹_› ?_|refine zaf rfl rfl ?_|refine zag rfl rfl ?_|refine zak rfl rfl ?_|refine zaq rfl ‹_› rfl ?_|refine zar rfl (by first|assumption|omega) rfl ?_|refine zau rfl rfl ?_|refine zay rfl rfl (by omega) ?_|apply zab|apply zac|refine zbj rfl ‹_› ?_|refine zbk rfl rfl ?_|apply zbo|apply zbq|apply zae|apply zbu|apply zbx|refine zcf rfl ?_)
  all_goals first | exact ⟨ow,rfl,same,To.refl _ _⟩ | (exfalso;omega)
 by_cases hw1:t.x.e0.what=1
 case neg=>
  have hS:jar (wxs l) m many=((0,116),wxs l):=by rw [hS,if_pos (.inr hw1)]
  rw [hS]
  repeat' (first|refine zaa rfl ?_|refine zav rfl ‹_› (by first|assumption|rfl) ?_|refine zaw rfl ‹_› ?_|refine zad (by repeat' constructor) ?_|refine zbb rfl (by first|assumption|omega) ?_|refine zaf rfl rfl ?_|refine zag rfl rfl ?_|refine zah rfl rfl ?_|refine zak rfl rfl ?_|refine zar rfl (by first|assumption|omega) rfl ?_|refine zau rfl rfl ?_|refine zay rfl rfl (by omega) ?_|apply zab|apply zac|refine zbi rfl ‹_› ?_|refine zbl rfl rfl ?_|apply zbo|apply zbq|apply zae|apply zbu|apply zbx|refine zcf rfl ?_)
  all_goals first | exact ⟨ow,rfl,same,To.refl _ _⟩ | (exfalso;omega)
 rw [if_neg (by rintro (e | e);(exact hb0 e);exact e hw1)] at hS
 have hnw : ¬ t.x.e0.what≠1:=fun e=>e hw1
 by_cases hm:many<1\/65536<many
 ·have hS:jar (wxs l) m many=((0,2),wxs l):=by rw [hS,if_pos hm]
  rw [hS]
  rw [decide_eq_false (by omega)] at hcap
  clear hm
  repeat' (first|refine zaa rfl ?_|refine zav rfl ‹_› (by first|assumption|rfl) ?_|refine zaw rfl ‹_› ?_|refine zad (by repeat' constructor) ?_|refine zbb rfl (by first|assumption|omega) ?_|refine zaf rfl rfl ?_|refine zag rfl rfl ?_|refine zah rfl rfl ?_|refine zak rfl rfl ?_|refine zar rfl (by first|assumption|omega) rfl ?_|refine zao rfl ?_|refine zau rfl rfl ?_|refine zay rfl rfl (by omega) ?_|apply zab|apply zac|refine zbj rfl ‹_› ?_|refine zbk rfl rfl ?_|refine zbl rfl rfl ?_|apply zbo|apply zbq|apply zae|apply zbu|apply zbx|refine zcf rfl ?_)
  all_goals first | exact ⟨ow,rfl,same,To.refl _ _⟩ | (exfalso;omega)
 rw [if_neg hm] at hS
 have hm1:1<=many:=by omega
 have hm2:many<=65536:=by omega
 clear hm
 rw [decide_eq_true (by omega)] at hcap
 by_cases hbk:t.x.backlog<=t.x.waiting.length
 ·have hS:jar (wxs l) m many=((0,113),wxs l):=by rw [hS,if_pos hbk]
  rw [hS]
  repeat' (first|refine zaa rfl ?_|refine zav rfl ‹_› (by first|assumption|rfl) ?_|refine zaw rfl ‹_› ?_|refine zad (by repeat' constructor) ?_|refine zbb rfl (by first|assumption|omega) ?_|refine zaf rfl rfl ?_|refine zag rfl rfl ?_|refine zah rfl rfl ?_|refine zak rfl rfl ?_|refine zar rfl (by first|assumption|omega) rfl ?_|refine zao rfl ?_|refine zau rfl rfl ?_|refine zay rfl rfl (by omega) ?_|apply zab|apply zac|refine zbi rfl ‹_› ?_|refine zbj rfl ‹_› ?_|refine zbl rfl rfl ?_|apply zbo|apply zbq|apply zae|apply zbu|apply zbx|refine zcf rfl ?_)
  all_goals first | exact ⟨ow,rfl,same,To.refl _ _⟩ | (exfalso;omega)
 rw [if_neg hbk,hwl] at hS
 by_cases hfull:1000<=l.length
 ·have hS:jar (wxs l) m many=((0,112),wxs l):=by rw [hS,if_pos hfull]
  rw [hS]
  have hl2:(1000:Int)<=(l.length:Int):=by omega
  repeat' (first|refine zaa rfl ?_|refine zav rfl ‹_› (by first|assumption|rfl) ?_|refine zaw rfl ‹_› ?_|refine zad (by repeat' constructor) ?_|refine zbb rfl (by first|assumption|omega) ?_|refine zaf rfl rfl ?_|refine zag rfl rfl ?_|refine zah rfl rfl ?_|refine zak rfl rfl ?_|refine zar rfl (by first|assumption|omega) rfl ?_|refine zao rfl ?_|refine zau rfl rfl ?_|refine zay rfl rfl (by omega) ?_|apply zab|apply zac|refine zbi rfl ‹_› ?_|refine zbj rfl ‹_› ?_|refine zbl rfl rfl ?_|apply zbo|apply zbq|apply zae|apply zbu|apply zbx|refine zcf rfl ?_)
  all_goals first | exact ⟨ow,rfl,same,To.refl _ _⟩ | (exfalso;omega)
 rw [if_neg hfull] at hS
 obtain ⟨nn,rfl⟩:=Int.eq_ofNat_of_zero_le (show 0<=many by omega)
 exact absurd ⟨m,nn,t,rfl,rfl,ht,hb0,hw1,by omega,by omega,hbk,by omega⟩ hall
end
end Am.Sigs
namespace Am.Sigs
open Am Go
section
variable {cl:Nat->Call} (hcl:Sem cl) {h:H} {p w s rw:Nat} {ow:Nat->Nat} {ro dat:Nat->Prop} {st:St} {a n t:Int} {dv vd:V} {D:List UInt8}
include hcl
theorem mo_9 {d i:Nat} (hd:15<=d) (b:BB h p w s rw ow ro dat st st) (so:StOk st i) (hi:i<=200) (hD:Dat h dat dv D) (hC:Cpy h p ow ro dat vd D) :
  jcG cl d F.jaf h p w s rw ow ro dat [.p p 0,.agg (opV 9 a n t dv),vd] (doS 9 a n t D st):=by
 have o0:Old h (h.new (.cells (opV 9 a n t dv) false)):=(Old.refl h).new
 have b0:=b.old o0
 have f0:=Fm.old (ow:=ow) (ro:=ro) o0
 have hD0:=hD.keep b f0
 have hC0:=hC.keep f0
 have hl300:=hD.len
 have g0:(h.new (.cells (opV 9 a n t dv) false)).get h.nx=some (.cells (opV 9 a n t dv) false):=jad _
 have x0:h.nx<(h.new (.cells (opV 9 a n t dv) false)).nx:=by simp
 have z0:ow h.nx=0:=b.W.top (Nat.le_refl _)
 have hp0:=b0.hp
 have lp:=b.lp
 have hok:st.tb.ok 1000000:=so.tb.mono (by omega)
 have hS:doS 9 a n t D st = { st with ws:=(putS st.ws a D).2 } := by simp [doS]
 rw [hS]
 obtain ⟨h1,e1,W1,t1⟩:=ww_Put hcl (d:=d-1) (n:=a) (by omega) b0.W so.K.ok hC0.v (by omega) (fun z hz=>(hC0.z z hz).2.1)
 have b1:=b0.wc (a' := { st with ws:=(putS st.ws a D).2 }) W1 t1
 have g1:=b0.off_w t1 x0 z0 g0
 have hp1:=b1.hp
 obtain ⟨v,h2,e2,b2,f2,rfl⟩:=b1.rc hcl (d:=d-1) (f:=F.jbo) (args:=[.p rw 0,.i a,dv]) (r' := { st with ws:=(putS st.ws a D).2 }) (P:=fun _ v=>v = .tup [.i (putS st.ws a D).1.1,.i (putS st.ws a D).1.2]) (fun _ _ _ _ h=>h) (fun g q l ga gn hq wR hl=>by
  have oR:WsOk (l.map RX.x):=by rw [hl];exact so.K.ok
  obtain ⟨q1,q2⟩:=(hD0.keep b0 (Fm.to t1)).in_ b1 ga gn hq
  obtain ⟨l',g',k1,k2,k3,k4⟩:=rq_Put hcl (d:=d-1) (n:=a) (by omega) wR oR q1 (by omega) q2
  rw [hl] at k1 k3
  exact ⟨_,q,l',g',k1,k2,k3,k4,.inl rfl,rfl⟩)
 clear so hD hC hD0 hC0 hok hl300 hS
 refine ⟨h2,_,_,jaq (at_ hcl (by omega) rfl rfl rfl ?_),b2,Fm.two o0 t1 f2⟩
 repeat' (first|refine zaa rfl ?_|refine zav rfl ‹_› rfl ?_|refine zaw rfl ‹_› ?_|refine zad (by repeat' constructor) ?_|refine zaz rfl (by omega) ?_|refine zag rfl rfl ?_|refine zaq rfl (by omega) rfl ?_|refine zau rfl rfl ?_|refine zcu rfl rfl ?_|apply zab|apply zac|refine zbi rfl (by omega) ?_|apply zbo|apply zbq|apply zae|refine zcc rfl ?_|apply zbu|apply zbx)
 exact ⟨by simp,rfl⟩
theorem mo_11 {d i:Nat} (hd:15<=d) (b:BB h p w s rw ow ro dat st st) (so:StOk st i) (hi:i<=200) (hD:Dat h dat dv D) (hC:Cpy h p ow ro dat vd D) :
  jcG cl d F.jaf h p w s rw ow ro dat [.p p 0,.agg (opV 11 a n t dv),vd] (doS 11 a n t D st):=by
 have o0:Old h (h.new (.cells (opV 11 a n t dv) false)):=(Old.refl h).new
 have b0:=b.old o0
 have f0:=Fm.old (ow:=ow) (ro:=ro) o0
 have hD0:=hD.keep b f0
 have hC0:=hC.keep f0
 have hl300:=hD.len
 have g0:(h.new (.cells (opV 11 a n t dv) false)).get h.nx=some (.cells (opV 11 a n t dv) false):=jad _
 have x0:h.nx<(h.new (.cells (opV 11 a n t dv) false)).nx:=by simp
 have z0:ow h.nx=0:=b.W.top (Nat.le_refl _)
 have hp0:=b0.hp
 have lp:=b.lp
 have hok:st.tb.ok 1000000:=so.tb.mono (by omega)
 have hS:doS 11 a n t D st = { st with ws:=(jaJ st.ws a).2 } := by simp [doS]
 rw [hS]
 obtain ⟨h1,e1,W1,t1⟩:=jit hcl (d:=d-1) (n:=a) (by omega) b0.W
 have b1:=b0.wc (a' := { st with ws:=(jaJ st.ws a).2 }) W1 t1
 have g1:=b0.off_w t1 x0 z0 g0
 have hp1:=b1.hp
 obtain ⟨v,h2,e2,b2,f2,rfl⟩:=b1.rc hcl (d:=d-1) (f:=F.jaI) (args:=[.p rw 0,.i a]) (r' := { st with ws:=(jaJ st.ws a).2 }) (P:=fun _ v=>v = .i (jaJ st.ws a).1) (fun _ _ _ _ h=>h) (fun g q l ga gn hq wR hl=>by
  have oR:WsOk (l.map RX.x):=by rw [hl];exact so.K.ok
  obtain ⟨l',g',k1,k2,k3,k4⟩:=ji3 hcl (d:=d-1) (n:=a) (by omega) wR
  rw [hl] at k1 k3
  exact ⟨_,q,l',g',k1,k2,k3,k4,.inl rfl,rfl⟩)
 clear so hD hC hD0 hC0 hok hl300 hS
 refine ⟨h2,_,_,jaq (at_ hcl (by omega) rfl rfl rfl ?_),b2,Fm.two o0 t1 f2⟩
 repeat' (first|refine zaa rfl ?_|refine zav rfl ‹_› rfl ?_|refine zaw rfl ‹_› ?_|refine zad (by repeat' constructor) ?_|refine zag rfl rfl ?_|refine zau rfl rfl ?_|refine zcu rfl rfl ?_|apply zab|apply zac|refine zbi rfl (by omega) ?_|refine zbj rfl (by omega) ?_|apply zbo|apply zbq|apply zae|refine zcc rfl ?_|apply zbu|apply zbx)
 exact ⟨by simp,rfl⟩
theorem mo_12 {d i:Nat} (hd:15<=d) (b:BB h p w s rw ow ro dat st st) (so:StOk st i) (hi:i<=200) (hD:Dat h dat dv D) (hC:Cpy h p ow ro dat vd D) :
  jcG cl d F.jaf h p w s rw ow ro dat [.p p 0,.agg (opV 12 a n t dv),vd] (doS 12 a n t D st):=by
 have o0:Old h (h.new (.cells (opV 12 a n t dv) false)):=(Old.refl h).new
 have b0:=b.old o0
 have f0:=Fm.old (ow:=ow) (ro:=ro) o0
 have hD0:=hD.keep b f0
 have hC0:=hC.keep f0
 have hl300:=hD.len
 have g0:(h.new (.cells (opV 12 a n t dv) false)).get h.nx=some (.cells (opV 12 a n t dv) false):=jad _
 have x0:h.nx<(h.new (.cells (opV 12 a n t dv) false)).nx:=by simp
 have z0:ow h.nx=0:=b.W.top (Nat.le_refl _)
 have hp0:=b0.hp
 have lp:=b.lp
 have hok:st.tb.ok 1000000:=so.tb.mono (by omega)
 have hS:doS 12 a n t D st = { st with ws:=(ja3 st.ws a).2 } := by simp [doS]
 rw [hS]
 obtain ⟨h1,e1,W1,t1⟩:=jh3 hcl (d:=d-1) (n:=a) (by omega) b0.W
 have b1:=b0.wc (a' := { st with ws:=(ja3 st.ws a).2 }) W1 t1
 have g1:=b0.off_w t1 x0 z0 g0
 have hp1:=b1.hp
 obtain ⟨v,h2,e2,b2,f2,rfl⟩:=b1.rc hcl (d:=d-1) (f:=F.jaF) (args:=[.p rw 0,.i a]) (r' := { st with ws:=(ja3 st.ws a).2 }) (P:=fun _ v=>v = .i (ja3 st.ws a).1) (fun _ _ _ _ h=>h) (fun g q l ga gn hq wR hl=>by
  have oR:WsOk (l.map RX.x):=by rw [hl];exact so.K.ok
  obtain ⟨l',g',k1,k2,k3,k4⟩:=jhB hcl (d:=d-1) (n:=a) (by omega) wR
  rw [hl] at k1 k3
  exact ⟨_,q,l',g',k1,k2,k3,k4,.inl rfl,rfl⟩)
 clear so hD hC hD0 hC0 hok hl300 hS
 refine ⟨h2,_,_,jaq (at_ hcl (by omega) rfl rfl rfl ?_),b2,Fm.two o0 t1 f2⟩
 repeat' (first|refine zaa rfl ?_|refine zav rfl ‹_› rfl ?_|refine zaw rfl ‹_› ?_|refine zad (by repeat' constructor) ?_|refine zag rfl rfl ?_|refine zau rfl rfl ?_|refine zcu rfl rfl ?_|apply zab|apply zac|refine zbi rfl (by omega) ?_|refine zbj rfl (by omega) ?_|apply zbo|apply zbq|apply zae|refine zcc rfl ?_|apply zbu|apply zbx)
 exact ⟨by simp,rfl⟩
theorem mo_13 {d i:Nat} (hd:15<=d) (b:BB h p w s rw ow ro dat st st) (so:StOk st i) (hi:i<=200) (hD:Dat h dat dv D) (hC:Cpy h p ow ro dat vd D) :
  jcG cl d F.jaf h p w s rw ow ro dat [.p p 0,.agg (opV 13 a n t dv),vd] (doS 13 a n t D st):=by
 have o0:Old h (h.new (.cells (opV 13 a n t dv) false)):=(Old.refl h).new
 have b0:=b.old o0
 have f0:=Fm.old (ow:=ow) (ro:=ro) o0
 have hD0:=hD.keep b f0
 have hC0:=hC.keep f0
 have hl300:=hD.len
 have g0:(h.new (.cells (opV 13 a n t dv) false)).get h.nx=some (.cells (opV 13 a n t dv) false):=jad _
 have x0:h.nx<(h.new (.cells (opV 13 a n t dv) false)).nx:=by simp
 have z0:ow h.nx=0:=b.W.top (Nat.le_refl _)
 have hp0:=b0.hp
 have lp:=b.lp
 have hok:st.tb.ok 1000000:=so.tb.mono (by omega)
 have hS:doS 13 a n t D st = { st with ws:=(jbV st.ws a).2 } := by simp [doS]
 rw [hS]
 obtain ⟨h1,e1,W1,t1⟩:=ww_Reset hcl (d:=d-1) (n:=a) (by omega) b0.W so.K.ok
 have b1:=b0.wc (a' := { st with ws:=(jbV st.ws a).2 }) W1 t1
 have g1:=b0.off_w t1 x0 z0 g0
 have hp1:=b1.hp
 obtain ⟨v,h2,e2,b2,f2,rfl⟩:=b1.rc hcl (d:=d-1) (f:=F.jaV) (args:=[.p rw 0,.i a]) (r' := { st with ws:=(jbV st.ws a).2 }) (P:=fun _ v=>v = .i (jbV st.ws a).1) (fun _ _ _ _ h=>h) (fun g q l ga gn hq wR hl=>by
  have oR:WsOk (l.map RX.x):=by rw [hl];exact so.K.ok
  obtain ⟨l',g',k1,k2,k3,k4⟩:=rq_Reset hcl (d:=d-1) (n:=a) (by omega) wR oR
  rw [hl] at k1 k3
  exact ⟨_,q,l',g',k1,k2,k3,k4,.inl rfl,rfl⟩)
 clear so hD hC hD0 hC0 hok hl300 hS
 refine ⟨h2,_,_,jaq (at_ hcl (by omega) rfl rfl rfl ?_),b2,Fm.two o0 t1 f2⟩
 repeat' (first|refine zaa rfl ?_|refine zav rfl ‹_› rfl ?_|refine zaw rfl ‹_› ?_|refine zad (by repeat' constructor) ?_|refine zag rfl rfl ?_|refine zau rfl rfl ?_|refine zcu rfl rfl ?_|apply zab|apply zac|refine zbi rfl (by omega) ?_|refine zbj rfl (by omega) ?_|apply zbo|apply zbq|apply zae|refine zcc rfl ?_|apply zbu|apply zbx)
 exact ⟨by simp,rfl⟩
theorem mo_14 {d i:Nat} (hd:15<=d) (b:BB h p w s rw ow ro dat st st) (so:StOk st i) (hi:i<=200) (hD:Dat h dat dv D) (hC:Cpy h p ow ro dat vd D) :
  jcG cl d F.jaf h p w s rw ow ro dat [.p p 0,.agg (opV 14 a n t dv),vd] (doS 14 a n t D st):=by
 have o0:Old h (h.new (.cells (opV 14 a n t dv) false)):=(Old.refl h).new
 have b0:=b.old o0
 have f0:=Fm.old (ow:=ow) (ro:=ro) o0
 have hD0:=hD.keep b f0
 have hC0:=hC.keep f0
 have hl300:=hD.len
 have g0:(h.new (.cells (opV 14 a n t dv) false)).get h.nx=some (.cells (opV 14 a n t dv) false):=jad _
 have x0:h.nx<(h.new (.cells (opV 14 a n t dv) false)).nx:=by simp
 have z0:ow h.nx=0:=b.W.top (Nat.le_refl _)
 have hp0:=b0.hp
 have lp:=b.lp
 have hok:st.tb.ok 1000000:=so.tb.mono (by omega)
 have hS:doS 14 a n t D st = { st with ws:=(jar st.ws a n).2 } := by simp [doS]
 rw [hS]
 obtain ⟨h1,ow1,e1,W1,t1⟩:=jj6 hcl (d:=d-1) (n:=a) (many:=n) (by omega) so.K b0.W
 have b1:=b0.wc (a' := { st with ws:=(jar st.ws a n).2 }) W1 t1
 have g1:=b0.off_w t1 x0 z0 g0
 have hp1:=b1.hp
 obtain ⟨v,h2,e2,b2,f2,rfl⟩:=b1.rc hcl (d:=d-1) (f:=F.jaO) (args:=[.p rw 0,.i a,.i n]) (r' := { st with ws:=(jar st.ws a n).2 }) (P:=fun _ v=>v = .tup [.i (jar st.ws a n).1.1,.i (jar st.ws a n).1.2]) (fun _ _ _ _ h=>h) (fun g q l ga gn hq wR hl=>by
  have oR:WsOk (l.map RX.x):=by rw [hl];exact so.K.ok
  obtain ⟨q',l',g',k1,k2,k3,k4,k5⟩:=jjJ hcl (d:=d-1) (n:=a) (many:=n) (by omega) wR oR
  rw [hl] at k1 k3
  exact ⟨_,q',l',g',k1,k2,k3,k4,k5,rfl⟩)
 clear so hD hC hD0 hC0 hok hl300 hS
 refine ⟨h2,_,_,jaq (at_ hcl (by omega) rfl rfl rfl ?_),b2,Fm.two o0 t1 f2⟩
 repeat' (first|refine zaa rfl ?_|refine zav rfl ‹_› rfl ?_|refine zaw rfl ‹_› ?_|refine zad (by repeat' constructor) ?_|refine zaz rfl (by omega) ?_|refine zag rfl rfl ?_|refine zaq rfl (by omega) rfl ?_|refine zau rfl rfl ?_|refine zcu rfl rfl ?_|apply zab|apply zac|refine zbi rfl (by omega) ?_|refine zbj rfl (by omega) ?_|apply zbo|apply zbq|apply zae|refine zcc rfl ?_|apply zbu|apply zbx)
 exact ⟨by simp,rfl⟩
end
end Am.Sigs
namespace Am.Sigs
open Am Go
section
variable {cl:Nat->Call} (hcl:Sem cl) {h:H} {p w s rw:Nat} {ow:Nat->Nat} {ro dat:Nat->Prop} {st:St} {a n t:Int} {dv vd:V} {D:List UInt8}
include hcl
theorem mo_15 {d i:Nat} (hd:15<=d) (b:BB h p w s rw ow ro dat st st) (so:StOk st i) (hi:i<=200) (hD:Dat h dat dv D) (hC:Cpy h p ow ro dat vd D) (t0:0<=t) (t1:t<=18446744073709551615) :
  jcG cl d F.jaf h p w s rw ow ro dat [.p p 0,.agg (opV 15 a n t dv),vd] (doS 15 a n t D st):=by
 have o0:Old h (h.new (.cells (opV 15 a n t dv) false)):=(Old.refl h).new
 have b0:=b.old o0
 have f0:=Fm.old (ow:=ow) (ro:=ro) o0
 have hD0:=hD.keep b f0
 have hC0:=hC.keep f0
 have hl300:=hD.len
 have g0:(h.new (.cells (opV 15 a n t dv) false)).get h.nx=some (.cells (opV 15 a n t dv) false):=jad _
 have x0:h.nx<(h.new (.cells (opV 15 a n t dv) false)).nx:=by simp
 have z0:ow h.nx=0:=b.W.top (Nat.le_refl _)
 have hp0:=b0.hp
 have lp:=b.lp
 have hok:st.tb.ok 1000000:=so.tb.mono (by omega)
 have hS:doS 15 a n t D st = { st with now:=jfx st.now t } := by simp [doS]
 rw [hS]
 obtain ⟨h1,e1,W1,tt1⟩:=ww_Pass hcl (d:=d-1) (by omega) b0.W so.now.1 so.now.2 t0 t1
 have b1:=b0.wc (a' := { st with now:=jfx st.now t }) W1 tt1
 have g1:=b0.off_w tt1 x0 z0 g0
 have hp1:=b1.hp
 obtain ⟨v,h2,e2,b2,f2,rfl⟩:=b1.rc hcl (d:=d-1) (f:=F.jbB) (args:=[.p rw 0,.int .u64 t]) (r' := { st with now:=jfx st.now t }) (P:=fun _ v=>v = .tup []) (fun _ _ _ _ h=>h) (fun g q l ga gn hq wR hl=>by
  have oR:WsOk (l.map RX.x):=by rw [hl];exact so.K.ok
  obtain ⟨g',k1,k2,k4⟩:=rq_Pass hcl (d:=d-1) (by omega) wR so.now.1 so.now.2 t0 t1
  skip
  exact ⟨_,q,l,g',k1,k2,hl,k4,.inl rfl,rfl⟩)
 clear so hD hC hD0 hC0 hok hl300 hS
 refine ⟨h2,_,_,jaq (at_ hcl (by omega) rfl rfl rfl ?_),b2,Fm.two o0 tt1 f2⟩
 repeat' (first|refine zaa rfl ?_|refine zav rfl ‹_› rfl ?_|refine zaw rfl ‹_› ?_|refine zad (by repeat' constructor) ?_|refine zag rfl rfl ?_|refine zau rfl rfl ?_|refine zcu rfl rfl ?_|apply zab|apply zac|refine zbi rfl (by omega) ?_|refine zbj rfl (by omega) ?_|apply zbo|apply zbq|apply zae|apply zbw|refine zcc rfl ?_)
 exact ⟨by simp,rfl⟩
theorem mo_16 {d i:Nat} (hd:15<=d) (b:BB h p w s rw ow ro dat st st) (so:StOk st i) (hi:i<=200) (hD:Dat h dat dv D) (hC:Cpy h p ow ro dat vd D) :
  jcG cl d F.jaf h p w s rw ow ro dat [.p p 0,.agg (opV 16 a n t dv),vd] (doS 16 a n t D st):=by
 have o0:Old h (h.new (.cells (opV 16 a n t dv) false)):=(Old.refl h).new
 have b0:=b.old o0
 have f0:=Fm.old (ow:=ow) (ro:=ro) o0
 have hD0:=hD.keep b f0
 have hC0:=hC.keep f0
 have hl300:=hD.len
 have g0:(h.new (.cells (opV 16 a n t dv) false)).get h.nx=some (.cells (opV 16 a n t dv) false):=jad _
 have x0:h.nx<(h.new (.cells (opV 16 a n t dv) false)).nx:=by simp
 have z0:ow h.nx=0:=b.W.top (Nat.le_refl _)
 have hp0:=b0.hp
 have lp:=b.lp
 have hok:st.tb.ok 1000000:=so.tb.mono (by omega)
 have hS:doS 16 a n t D st = { st with ws:=jao st.ws ((st.tb.handle a (decide (0<n))).sum 32) (noI st.no) (siI st.no),tb:=st.tb.handle a (decide (0<n)) } := by simp [doS]
 rw [hS]
 obtain ⟨h1,e1,W1,t1⟩:=ww_Handle hcl (d:=d-1) (sg:=a) (on:=decide (0<n)) (by omega) b0.W so.nt (jif hok (by omega) _ _)
 have b1:=b0.wc (a' := { st with ws:=jao st.ws ((st.tb.handle a (decide (0<n))).sum 32) (noI st.no) (siI st.no),tb:=st.tb.handle a (decide (0<n)) }) W1 t1
 have g1:=b0.off_w t1 x0 z0 g0
 have hp1:=b1.hp
 obtain ⟨v,h2,e2,b2,f2,rfl⟩:=b1.rc hcl (d:=d-1) (f:=F.jaQ) (args:=[.p rw 0,.i a,.bool (decide (0<n))]) (r' := { st with ws:=jao st.ws ((st.tb.handle a (decide (0<n))).sum 32) (noI st.no) (siI st.no),tb:=st.tb.handle a (decide (0<n)) }) (P:=fun _ v=>v = .i (if sig? a then 0 else 100)) (fun _ _ _ _ h=>h) (fun g q l ga gn hq wR hl=>by
  have oR:WsOk (l.map RX.x):=by rw [hl];exact so.K.ok
  obtain ⟨l',g',k1,k2,k3,k4⟩:=rq_Handle hcl (d:=d-1) (s:=a) (on:=decide (0<n)) (by omega) wR oR (by rw [hl];exact so.nt) hok
  rw [hl,<- jfX,<- jll] at k3
  rw [<- jfX,<- handle_hd] at k2
  exact ⟨_,q,l',g',k1,k2,k3,k4,.inl rfl,rfl⟩)
 clear so hD hC hD0 hC0 hok hl300 hS
 refine ⟨h2,_,_,jaq (at_ hcl (by omega) rfl rfl rfl ?_),b2,Fm.two o0 t1 f2⟩
 repeat' (first|refine zaa rfl ?_|refine zav rfl ‹_› rfl ?_|refine zaw rfl ‹_› ?_|refine zad (by repeat' constructor) ?_|refine zag rfl rfl ?_|refine zaj rfl rfl ?_|refine zau rfl rfl ?_|refine zcu rfl rfl ?_|apply zab|apply zac|refine zbi rfl (by omega) ?_|refine zbj rfl (by omega) ?_|apply zbo|apply zbq|apply zae|refine zcc rfl ?_|apply zbu|apply zbx)
 exact ⟨by simp,rfl⟩
theorem mo_17 {d i:Nat} (hd:15<=d) (b:BB h p w s rw ow ro dat st st) (so:StOk st i) (hi:i<=200) (hD:Dat h dat dv D) (hC:Cpy h p ow ro dat vd D) :
  jcG cl d F.jaf h p w s rw ow ro dat [.p p 0,.agg (opV 17 a n t dv),vd] (doS 17 a n t D st):=by
 have o0:Old h (h.new (.cells (opV 17 a n t dv) false)):=(Old.refl h).new
 have b0:=b.old o0
 have f0:=Fm.old (ow:=ow) (ro:=ro) o0
 have hD0:=hD.keep b f0
 have hC0:=hC.keep f0
 have hl300:=hD.len
 have g0:(h.new (.cells (opV 17 a n t dv) false)).get h.nx=some (.cells (opV 17 a n t dv) false):=jad _
 have x0:h.nx<(h.new (.cells (opV 17 a n t dv) false)).nx:=by simp
 have z0:ow h.nx=0:=b.W.top (Nat.le_refl _)
 have hp0:=b0.hp
 have lp:=b.lp
 have hok:st.tb.ok 1000000:=so.tb.mono (by omega)
 have hS:doS 17 a n t D st = { st with ws:=jao st.ws ((st.tb.raise a).sum 32) (noI st.no) (siI st.no),tb:=st.tb.raise a } := by simp [doS]
 rw [hS]
 obtain ⟨h1,e1,W1,t1⟩:=ww_Raise hcl (d:=d-1) (sg:=a) (by omega) b0.W so.nt hok (Tb.ok.mono (jjp so.tb a) (by omega))
 have b1:=b0.wc (a' := { st with ws:=jao st.ws ((st.tb.raise a).sum 32) (noI st.no) (siI st.no),tb:=st.tb.raise a }) W1 t1
 have g1:=b0.off_w t1 x0 z0 g0
 have hp1:=b1.hp
 obtain ⟨v,h2,e2,b2,f2,rfl⟩:=b1.rc hcl (d:=d-1) (f:=F.jaW) (args:=[.p rw 0,.i a]) (r' := { st with ws:=jao st.ws ((st.tb.raise a).sum 32) (noI st.no) (siI st.no),tb:=st.tb.raise a }) (P:=fun _ v=>v = .i (if sig? a then 0 else 100)) (fun _ _ _ _ h=>h) (fun g q l ga gn hq wR hl=>by
  have oR:WsOk (l.map RX.x):=by rw [hl];exact so.K.ok
  obtain ⟨l',g',k1,k2,k3,k4⟩:=rq_Raise hcl (d:=d-1) (s:=a) (by omega) wR oR (by rw [hl];exact so.nt) (so.tb.mono (by omega))
  rw [hl,<- jhc,<- jll] at k3
  rw [<- jhc,<- raise_hd st.tb a] at k2
  exact ⟨_,q,l',g',k1,k2,k3,k4,.inl rfl,rfl⟩)
 clear so hD hC hD0 hC0 hok hl300 hS
 refine ⟨h2,_,_,jaq (at_ hcl (by omega) rfl rfl rfl ?_),b2,Fm.two o0 t1 f2⟩
 repeat' (first|refine zaa rfl ?_|refine zav rfl ‹_› rfl ?_|refine zaw rfl ‹_› ?_|refine zad (by repeat' constructor) ?_|refine zag rfl rfl ?_|refine zau rfl rfl ?_|refine zcu rfl rfl ?_|apply zab|apply zac|refine zbi rfl (by omega) ?_|refine zbj rfl (by omega) ?_|apply zbo|apply zbq|apply zae|refine zcc rfl ?_|apply zbu|apply zbx)
 exact ⟨by simp,rfl⟩
theorem mo_19 {d i:Nat} (hd:15<=d) (b:BB h p w s rw ow ro dat st st) (so:StOk st i) (hi:i<=200) (hD:Dat h dat dv D) (hC:Cpy h p ow ro dat vd D) :
  jcG cl d F.jaf h p w s rw ow ro dat [.p p 0,.agg (opV 19 a n t dv),vd] (doS 19 a n t D st):=by
 have o0:Old h (h.new (.cells (opV 19 a n t dv) false)):=(Old.refl h).new
 have b0:=b.old o0
 have f0:=Fm.old (ow:=ow) (ro:=ro) o0
 have hD0:=hD.keep b f0
 have hC0:=hC.keep f0
 have hl300:=hD.len
 have g0:(h.new (.cells (opV 19 a n t dv) false)).get h.nx=some (.cells (opV 19 a n t dv) false):=jad _
 have x0:h.nx<(h.new (.cells (opV 19 a n t dv) false)).nx:=by simp
 have z0:ow h.nx=0:=b.W.top (Nat.le_refl _)
 have hp0:=b0.hp
 have lp:=b.lp
 have hok:st.tb.ok 1000000:=so.tb.mono (by omega)
 have hS:doS 19 a n t D st = { st with ws:=ntW st.ws (st.tb.sum 32) a n,no:=noT st.ws a n st.no } := by simp [doS]
 rw [hS]
 obtain ⟨h1,e1,W1,t1⟩:=ww_Notice hcl (d:=d-1) (x:=a) (y:=n) (by omega) b0.W so.K.ok hok
 have b1:=b0.wc (a' := { st with ws:=ntW st.ws (st.tb.sum 32) a n,no:=noT st.ws a n st.no }) W1 t1
 have g1:=b0.off_w t1 x0 z0 g0
 have hp1:=b1.hp
 obtain ⟨v,h2,e2,b2,f2,rfl⟩:=b1.rc hcl (d:=d-1) (f:=F.jaE) (args:=[.p rw 0,.i a,.i n]) (r' := { st with ws:=ntW st.ws (st.tb.sum 32) a n,no:=noT st.ws a n st.no }) (P:=fun _ v=>v = .i (ntS st.ws a n).1) (fun _ _ _ _ h=>h) (fun g q l ga gn hq wR hl=>by
  have oR:WsOk (l.map RX.x):=by rw [hl];exact so.K.ok
  obtain ⟨l',g',k1,k2,k3,k4⟩:=jhA hcl (d:=d-1) (a:=a) (b:=n) (by omega) wR oR hok
  rw [hl] at k1
  rw [hl,<- jll] at k3
  rw [hl,<- jlz,<- jly] at k2
  exact ⟨_,q,l',g',k1,k2,k3,k4,.inl rfl,rfl⟩)
 clear so hD hC hD0 hC0 hok hl300 hS
 refine ⟨h2,_,_,jaq (at_ hcl (by omega) rfl rfl rfl ?_),b2,Fm.two o0 t1 f2⟩
 repeat' (first|refine zaa rfl ?_|refine zav rfl ‹_› rfl ?_|refine zaw rfl ‹_› ?_|refine zad (by repeat' constructor) ?_|refine zag rfl rfl ?_|refine zau rfl rfl ?_|refine zcu rfl rfl ?_|apply zab|apply zac|refine zbi rfl (by omega) ?_|refine zbj rfl (by omega) ?_|apply zbo|apply zbq|apply zae|refine zcc rfl ?_|apply zbu|apply zbx)
 exact ⟨by simp,rfl⟩
end
end Am.Sigs
namespace Am.Sigs
open Am Go
theorem jdM : ∀ {l:List (Int × Int)} {i:Nat} {p:Int × Int},l[i]?=some p->((jb5 l).drop (i*2)).take 2=[.i p.1,.i p.2]
 | [],i,p,h=>by simp at h
 | x :: l,0,p,h=>by
  simp at h;subst h;rfl
 | x :: l,i+1,p,h=>by
  have e:jb5 (x :: l) = .i x.1 :: .i x.2 :: jb5 l:=rfl
  rw [e,show (i+1)*2=i*2+1+1 by omega]
  exact jdM (l:=l) (by simpa using h)
theorem jdL : ∀ l:List (Int × Int),(jb5 l).length=l.length*2
 | []=>rfl
 | x :: l=>by
  have:=jdL l
  have e:jb5 (x :: l) = .i x.1 :: .i x.2 :: jb5 l:=rfl
  rw [e];simp;omega
section
variable {call:Call} {fuel base:Nat} {K:List Fr} {e:Env} {h:H} {Q:Post} {ix:Nat} {dst at_:Option Nat} {ops:List Ins} {keep:List Nat}
end
section
variable {cl:Nat->Call} (hcl:Sem cl) {h:H} {p w s rw:Nat} {ow:Nat->Nat} {ro dat:Nat->Prop} {st:St} {a n t:Int} {dv vd:V} {D:List UInt8}
include hcl
theorem mo_18 {d i:Nat} (hd:15<=d) (b:BB h p w s rw ow ro dat st st) (so:StOk st i) (hi:i<=200) :
  jcG cl d F.jaf h p w s rw ow ro dat [.p p 0,.agg (opV 18 a n t dv),vd] (doS 18 a n t D st):=by
 have o0:Old h (h.new (.cells (opV 18 a n t dv) false)):=(Old.refl h).new
 have b0:=b.old o0
 have g0:(h.new (.cells (opV 18 a n t dv) false)).get h.nx=some (.cells (opV 18 a n t dv) false):=jad _
 have x0:h.nx<(h.new (.cells (opV 18 a n t dv) false)).nx:=by simp
 have z0:ow h.nx=0:=b.W.top (Nat.le_refl _)
 have hp0:=b0.hp
 have lp:=b.lp
 have hok:st.tb.ok 1000000:=so.tb.mono (by omega)
 have hS:doS 18 a n t D st = { st with ws:=jao st.ws (st.tb.take.sum 32) (noI st.no) (siI st.no),tb:=st.tb.take } := by simp [doS]
 rw [hS]
 obtain ⟨v1,h1,e1,row1,W1,t1⟩:=jj5 hcl (d:=d-1) (by omega) b0.W so.nt (jk3 hok (by omega))
 have b1:=b0.wc (a' := { st with ws:=jao st.ws (st.tb.take.sum 32) (noI st.no) (siI st.no),tb:=st.tb.take }) W1 t1
 have g1:=b0.off_w t1 x0 z0 g0
 have hp1:=b1.hp
 obtain ⟨v2,h2,e2,b2,f2,row2⟩:=b1.rc hcl (d:=d-1) (f:=F.jaN) (args:=[.p rw 0]) (r' := { st with ws:=jao st.ws (st.tb.take.sum 32) (noI st.no) (siI st.no),tb:=st.tb.take })
  (P:=fun g v=>Row h1.nx g 2 v (jbU st.tb.pd 31).length (jb5 (jbU st.tb.pd 31))) (fun _ _ _ m r=>Row.mono m r) (fun g q l ga gn hq wR hl=>by
  have oR:WsOk (l.map RX.x):=by rw [hl];exact so.K.ok
  obtain ⟨v2,l',g',k1,k0,k2,k3,k4⟩:=jjH hcl (d:=d-1) (by omega) wR oR (by rw [hl];exact so.nt) hok
  rw [hl,<- jiy,<- jll] at k3
  rw [<- jiy] at k2
  rw [gn] at k0
  exact ⟨_,q,l',g',k1,k2,k3,k4,.inl rfl,k0⟩)
 have hcs:(st.tb.cnts 32).map (fun p=>((p.1:Int),p.2))=jbU st.tb.pd 31:=jij (fun k=>(hok k).1) 31
 have row1:Row (h.new (.cells (opV 18 a n t dv) false)).nx h1 2 v1 (jbU st.tb.pd 31).length (jb5 (jbU st.tb.pd 31)):=by
  rw [jgi,hcs] at row1
  rw [<- hcs,List.length_map];rw [hcs];exact row1
 have row3:Row (h.new (.cells (opV 18 a n t dv) false)).nx h2 2 v1 (jbU st.tb.pd 31).length (jb5 (jbU st.tb.pd 31)):=row1.keep f2.ch.nx fun z hz=>f2.ch.get z (row1.at_ge hz).2 fun e=>e.elim (fun e=>e (b0.W.top (row1.at_ge hz).1)) fun e=>by
  have:=b0.ro_lt (.inl e)
  have:=(row1.at_ge hz).1
  omega
 have hlen:=jfI st.tb.pd 31
 generalize jbU st.tb.pd 31=L at row3 row2 hlen
 clear row1 hcs hok so hS
 obtain ⟨c1,⟨a1,rfl⟩,ix1⟩:=row3.shape
 obtain ⟨c2,⟨a2,rfl⟩,ix2⟩:=row2.shape
 suffices q : ∃ v' h',cl d (.fn F.jaf) [.p p 0,.agg (opV 18 a n t dv),vd] h=some (v',h')/\(v' = .bool true/\h'=h2) by
  obtain ⟨_,_,e,rfl,rfl⟩:=q
  exact ⟨_,_,_,e,b2,Fm.two o0 t1 f2⟩
 refine at_ hcl (by omega) rfl rfl rfl ?_
 clear b b0 b1 b2 f2 t1 W1 row2 row3
 repeat' (first|refine zaa rfl ?_|refine zav rfl ‹_› rfl ?_|refine zaw rfl ‹_› ?_|refine zad (by repeat' constructor) ?_|refine zag rfl rfl ?_|refine zah rfl rfl ?_|refine zau rfl rfl ?_|refine zcu rfl rfl ?_|apply zab|apply zac|refine zbi rfl (by omega) ?_|refine zbj rfl (by omega) ?_|apply zbo|apply zbp|apply zae)
 refine Run.loop (fun m e g=>∃ k:Nat,m=L.length-k/\k<=L.length/\g=h2/\e=[(24,.slice a1 L.length c1),(25,.slice a2 L.length c2),(267,.i (L.length:Int)),(268,.i (k:Int))])
  (k:=L.length) (by show _<100000;omega) ⟨0,rfl,by omega,rfl,rfl⟩ ?_
 rintro _ _ g ⟨k,rfl,hk4,rfl,rfl⟩ n2 ih2
 by_cases hlt2:(k:Int)<L.length
 case neg=>
  clear ih2 ix1 ix2
  repeat' (first|refine zaa rfl ?_|refine zad (by repeat' constructor) ?_|refine zaf rfl rfl ?_|apply zab|apply zac|refine zbj rfl ‹_› ?_|apply zbq|apply zbr|apply zae|apply zbw|refine zcc rfl ?_|apply zbv|apply zby|apply zcb)
  exact ⟨rfl,rfl⟩
 obtain ⟨q1,y1,y2,y3,y4⟩:=ix1 k (by omega)
 cases y3
 obtain ⟨q2,z1,z2,z3,z4⟩:=ix2 k (by omega)
 cases z3
 have hp2:=List.getElem?_eq_getElem (show k<L.length by omega)
 generalize L[k]=pr at hp2
 have hg:=jdM hp2
 have hl2:=jdL L
 have hk1:(k:Int)+1=((k+1:Nat):Int):=by omega
 have hg':((jb5 L).drop (0+(k:Int).toNat*2)).take 2=[.i pr.1,.i pr.2]:=by rw [<- hg,Int.toNat_natCast,Nat.zero_add]
 clear ix1 ix2 e1 e2
 repeat' (first|refine zaa rfl ?_|refine zad (by repeat' constructor) ?_|refine zaf rfl rfl ?_|refine zay rfl rfl (by omega) ?_|apply zab|apply zac|refine zbi rfl ‹_› ?_|apply zbo|apply zbp|apply zae)
 refine Ops.loadN rfl y4 (by omega) ?_
 rw [hg']
 repeat' (first|refine zaa rfl ?_|refine zay rfl rfl (by omega) ?_)
 refine Ops.loadN rfl z4 (by omega) ?_
 rw [hg']
 repeat' (first|refine zaa rfl ?_|refine zad (by repeat' constructor) ?_|refine zal rfl rfl ⟨by omega,by omega⟩ ?_|refine zau rfl rfl ?_|apply zab|apply zac|refine zbn rfl (fun _=>?_) fun _=>?_|apply zbp|apply zbq|apply zae|apply zbw|refine zcc rfl ?_|apply zbu|apply zbx|apply zca)
 ·rename_i hx
  simp at hx
 rw [hk1]
 exact ih2 (L.length-(k+1)) (by omega) _ _ ⟨k+1,rfl,by omega,rfl,rfl⟩
end
end Am.Sigs
namespace Am.Sigs
open Am Go
theorem VB.lt {h:H} {v:V} {l:List UInt8} (a:VB h v l) (hl:l≠[]) {z:Nat} (hz:v.at?=some z):z<h.nx:=by
 obtain ⟨a,c,rfl,n,f,g⟩:=a
 obtain ⟨b,o,cs,ro,rfl,h1,_⟩:=g hl
 cases hz;exact h1
section
variable {cl:Nat->Call} (hcl:Sem cl) {h:H} {p w s rw:Nat} {ow:Nat->Nat} {ro dat:Nat->Prop} {st:St} {a n t:Int} {dv vd:V} {D:List UInt8}
include hcl
theorem mo_10 {d i:Nat} (hd:15<=d) (b:BB h p w s rw ow ro dat st st) (so:StOk st i) (_hi:i<=200) (_hD:Dat h dat dv D) (_hC:Cpy h p ow ro dat vd D) :
  jcG cl d F.jaf h p w s rw ow ro dat [.p p 0,.agg (opV 10 a n t dv),vd] (doS 10 a n t D st):=by
 have o0:Old h (h.new (.cells (opV 10 a n t dv) false)):=(Old.refl h).new
 have b0:=b.old o0
 have g0:(h.new (.cells (opV 10 a n t dv) false)).get h.nx=some (.cells (opV 10 a n t dv) false):=jad _
 have x0:h.nx<(h.new (.cells (opV 10 a n t dv) false)).nx:=by simp
 have z0:ow h.nx=0:=b.W.top (Nat.le_refl _)
 have hp0:=b0.hp
 have lp:=b.lp
 have hS:doS 10 a n t D st = { st with ws:=(jco st.ws a n).2 } := by simp [doS]
 rw [hS]
 obtain ⟨v1,h1,e1,vb1,vz1,W1,t1⟩:=ww_Take hcl (d:=d-1) (n:=a) (many:=n) (by omega) b0.W so.K.ok
 have b1:=b0.wc (a' := { st with ws:=(jco st.ws a n).2 }) W1 t1
 have g1:=b0.off_w t1 x0 z0 g0
 have hp1:=b1.hp
 obtain ⟨v,h2,e2,b2,f2,hP⟩:=b1.rc hcl (d:=d-1) (f:=F.jbe) (args:=[.p rw 0,.i a,.i n]) (r' := { st with ws:=(jco st.ws a n).2 })
  (P:=fun g v=>∃ v2,v = .tup [v2,.i (jco st.ws a n).1.2]/\VB g v2 (jco st.ws a n).1.1) (fun _ _ _ m ⟨v2,e,hv⟩=>⟨v2,e,hv.mono m⟩) (fun g q l ga gn hq wR hl=>by
  have oR:WsOk (l.map RX.x):=by rw [hl];exact so.K.ok
  obtain ⟨v2,l',g',k1,k0,k2,k3,k4⟩:=rq_Take hcl (d:=d-1) (n:=a) (many:=n) (by omega) wR oR
  rw [hl] at k0 k1 k3
  exact ⟨_,q,l',g',k1,k2,k3,k4,.inl rfl,v2,rfl,k0⟩)
 have vb2:VB h2 v1 (jco st.ws a n).1.1:=vb1.keep2 f2.ch.nx fun hl z hz=>f2.ch.get z (vb1.lt hl hz) fun e=>e.elim (fun e=>e (b0.W.top (vz1 z hz))) fun e=>by
  have:=b0.ro_lt (.inl e)
  have:=vz1 z hz
  omega
 obtain ⟨a1,c1,rfl,B1⟩:=vb2
 obtain ⟨v2,rfl,a2,c2,rfl,B2⟩:=hP
 clear so _hD _hC hS
 refine ⟨h2,_,_,jaq (at_ hcl (by omega) rfl rfl rfl ?_),b2,Fm.two o0 t1 f2⟩
 repeat' (first|refine zaa rfl ?_|refine zav rfl ‹_› rfl ?_|refine zaw rfl ‹_› ?_|refine zad (by repeat' constructor) ?_|refine zag rfl rfl ?_|refine zau rfl rfl ?_|refine zcu rfl rfl ?_|apply zab|apply zac|refine zbi rfl (by omega) ?_|refine zbj rfl (by omega) ?_|apply zbo|apply zae)
 refine Ops.ofBytesAt rfl B1 (Nat.le_refl _) ?_
 repeat' (first|refine zaa rfl ?_)
 refine Ops.ofBytesAt rfl B2 (Nat.le_refl _) ?_
 repeat' (first|refine zaa rfl ?_|refine zad (by repeat' constructor) ?_|refine zbd rfl ‹_› ?_|refine zbe rfl ‹_› ?_|refine zbh rfl (fun _=>?_) fun _=>?_|refine zag rfl rfl ?_|refine zas rfl ‹_› rfl ?_|refine zat rfl ‹_› rfl ?_|refine zau rfl rfl ?_|apply zbq|apply zae|refine zcc rfl ?_|apply zbu|apply zbx)
 ·exact ⟨by simp,rfl⟩
 ·rename_i hx
  simp at hx
theorem mo_20 {d i:Nat} (hd:15<=d) (b:BB h p w s rw ow ro dat st st) (so:StOk st i) :
  jcG cl d F.jaf h p w s rw ow ro dat [.p p 0,.agg (opV 20 a n t dv),vd] (doS 20 a n t D st):=by
 have o0:Old h (h.new (.cells (opV 20 a n t dv) false)):=(Old.refl h).new
 have b0:=b.old o0
 have g0:(h.new (.cells (opV 20 a n t dv) false)).get h.nx=some (.cells (opV 20 a n t dv) false):=jad _
 have x0:h.nx<(h.new (.cells (opV 20 a n t dv) false)).nx:=by simp
 have hp0:=b0.hp
 have lp:=b.lp
 have hS:doS 20 a n t D st=st:=by simp [doS]
 rw [hS]
 obtain ⟨h1,e1,o1⟩:=ww_Wire hcl (d:=d-1) (fd:=a) (by omega) b0.W so.K.ok
 have b1:=b0.old o1
 have g1:h1.get h.nx=some (.cells (opV 20 a n t dv) false):=by rw [o1.2 _ x0,g0]
 have hp1:=b1.hp
 obtain ⟨v,h2,e2,b2,f2,rfl⟩:=b1.rc hcl (d:=d-1) (f:=F.jbA) (args:=[.p rw 0,.i a]) (r':=st)
  (P:=fun _ v=>v = .tup [.i (jgs st.ws a).1,.i (jgs st.ws a).2]) (fun _ _ _ _ h=>h) (fun g q l ga gn hq wR hl=>by
  have oR:WsOk (l.map RX.x):=by rw [hl];exact so.K.ok
  have k1:=rq_Wire hcl (d:=d-1) (fd:=a) (by omega) wR oR
  rw [hl] at k1
  exact ⟨_,q,l,g,k1,wR,hl,Ch.refl _ _,.inl rfl,rfl⟩)
 clear so hS
 refine ⟨h2,_,_,jaq (at_ hcl (by omega) rfl rfl rfl ?_),b2,(Fm.old (o0.trans o1)).trans f2⟩
 repeat' (first|refine zaa rfl ?_|refine zav rfl ‹_› rfl ?_|refine zaw rfl ‹_› ?_|refine zad (by repeat' constructor) ?_|refine zaz rfl (by omega) ?_|refine zag rfl rfl ?_|refine zaq rfl (by omega) rfl ?_|refine zau rfl rfl ?_|refine zcu rfl rfl ?_|apply zab|apply zac|refine zbi rfl (by omega) ?_|refine zbj rfl (by omega) ?_|apply zbo|apply zbq|apply zae|refine zcc rfl ?_|apply zbu|apply zbx)
 exact ⟨by simp,rfl⟩
theorem mo_no {d:Nat} {k:Int} (hd:15<=d) (b:BB h p w s rw ow ro dat st st) (hk:k<0\/20<k) :
  jcG cl d F.jaf h p w s rw ow ro dat [.p p 0,.agg (opV k a n t dv),vd] (doS k a n t D st):=by
 have o0:Old h (h.new (.cells (opV k a n t dv) false)):=(Old.refl h).new
 have b0:=b.old o0
 have hS:doS k a n t D st=st:=by
  unfold doS
  rw [if_neg (by omega),if_neg (by omega),if_neg (by omega),if_neg (by omega),if_neg (by omega),if_neg (by omega),if_neg (by omega),if_neg (by omega),if_neg (by omega),if_neg (by omega),if_neg (by omega),if_neg (by omega),if_neg (by omega),if_neg (by omega),if_neg (by omega),if_neg (by omega),if_neg (by omega)]
 rw [hS]
 have n9 : ¬ k=9:=by omega
 have n10 : ¬ k=10:=by omega
 have n11 : ¬ k=11:=by omega
 have n12 : ¬ k=12:=by omega
 have n13 : ¬ k=13:=by omega
 have n14 : ¬ k=14:=by omega
 have n15 : ¬ k=15:=by omega
 have n16 : ¬ k=16:=by omega
 have n17 : ¬ k=17:=by omega
 have n18 : ¬ k=18:=by omega
 have n19 : ¬ k=19:=by omega
 have n20 : ¬ k=20:=by omega
 clear hS hk
 refine ⟨_,_,_,jaq (at_ hcl (by omega) rfl rfl rfl ?_),b0,Fm.old o0⟩
 repeat' (first|refine zaa rfl ?_|refine zav rfl (jaa _) rfl ?_|refine zad (by repeat' constructor) ?_|refine zag rfl rfl ?_|refine zau rfl rfl ?_|refine zcu rfl rfl ?_|apply zab|apply zac|refine zbj rfl ‹_› ?_|apply zbo|apply zbp|apply zbq|apply zae|apply zbw|refine zcc rfl ?_)
 exact ⟨by simp,rfl⟩
end
end Am.Sigs
namespace Am.Sigs
open Am Go
section
variable {call:Call} {fuel base:Nat} {K:List Fr} {e:Env} {h:H} {Q:Post} {ix:Nat} {dst:Option Nat} {ops:List Ins} {keep:List Nat}
theorem Ops.copyB {x y:Opd} {B:Nat} {v:V} {l:List UInt8} (hx:x.ev e=some (.slice (some (B,0)) 0 (.fix 0))) (hy:y.ev e=some v) (hv:VB h v l) (hl:l.length<=1000000)
  (k : ∀ a c h',VB h' (.slice (some (a,0)) l.length c) l->(l≠[]->h'.get a=some (.cells (bts l) false))->Old h h'->(a=B\/(h.nx<=a/\a<h'.nx))->Ops call fuel base ops keep K (layv e dst (.slice (some (a,0)) l.length c)) h' Q) :
  Ops call fuel base (⟨ix,dst,.append 1 1 x y,none,none,[]⟩ :: ops) keep K e h Q:=by
 obtain ⟨a,cp,rfl,n,f,g⟩:=hv
 by_cases hn:l=[]
 ·subst hn
  have hsrc:ja1 h 1 0 (.slice a 0 cp)=some []:=by cases a<;>rfl
  refine Ops.step (v := .slice (some (B,0)) 0 (.fix 0)) (h':=h) (I.run_eff rfl ?_) (k B (.fix 0) h ⟨some (B,0),.fix 0,rfl,fun e=>(by cases e),Nat.le_refl _,fun e=>absurd rfl e⟩ (fun e=>absurd rfl e) (Old.refl _) (.inl rfl))
  simp only [I.eff,hx,hy,jbi,lenOf,List.length_nil,hsrc]
  rfl
 ·obtain ⟨b,o,cs,ro,rfl,h1,h2,h3⟩:=g hn
  have hpos:0<l.length:=List.length_pos_iff.2 hn
  obtain ⟨p1,p2⟩:=jdh (k:=0) (m:=l.length) h3 (by omega) hpos
  rw [List.drop_zero,List.take_of_length_le (Nat.le_refl _)] at p2
  have hload:h.load b o (l.length*1)=some (bts l):=by
   unfold H.load
   rw [h2]
   simp only
   rw [Nat.mul_one,show Nat.ble (o+l.length) cs.length=true by rw [Nat.ble_eq];omega]
   simp only [cond_true]
   rw [<- p2,Nat.add_zero]
  have hsrc:ja1 h 1 l.length (.slice (some (b,o)) l.length cp)=some (bts l):=by
   unfold ja1
   simp only
   rw [hload,show (l.length*1 == 0)=false by simp;omega]
   rfl
  have ho:Old h (h.new (.cells (bts l) false)):=⟨by simp,fun j hj=>jac hj⟩
  refine Ops.step (v := .slice (some (h.nx,0)) l.length (.grow 1)) (h':=h.new (.cells (bts l) false)) (I.run_eff rfl ?_) (k h.nx (.grow 1) _ ⟨some (h.nx,0),.grow 1,rfl,fun e=>(by cases e),by simp [Cap.fits],fun _=>⟨h.nx,0,bts l,false,rfl,by simp,jad _,fun i x hi=>by rw [Nat.zero_add];exact jhw hi⟩⟩ (fun _=>jad _) ho (.inr ⟨Nat.le_refl _,by simp⟩))
  simp only [I.eff,hx,hy,jbi,lenOf,hsrc]
  have c1:(Nat.ble ((0+l.length)*1) (2 ^ 46)&&Nat.ble (0+l.length) (2 ^ 46))=true:=by simp only [Bool.and_eq_true,Nat.ble_eq];omega
  have c2:(l.length == 0)=false:=by simp;exact hn
  have c3:Nat.ble (0+l.length) 0=false:=by
   cases hb:Nat.ble (0+l.length) 0 with
   | false=>rfl
   | true=>rw [Nat.ble_eq] at hb;omega
  rw [c1,c2,c3]
  simp only [cond_true,cond_false,Nat.zero_mul,beq_self_eq_true,List.nil_append,Nat.zero_add]
  rfl
end
section
variable {cl:Nat->Call} (hcl:Sem cl)
include hcl
theorem jln {d:Nat} {h:H} {f n:Int} {v:V} (hd:1<=d) (hf:f≠0):cl d (.fn F.jaz) [.i 0,.i 0,.i f,v,.i n,.i f] h=some (.bool true,h):=by
 refine jaq (at_ hcl hd rfl rfl rfl ?_)
 repeat' (first|refine zaa rfl ?_|refine zad (by repeat' constructor) ?_|refine zaz rfl (by first|assumption|omega) ?_|refine zbc rfl ‹_› ?_|refine zag rfl rfl ?_|refine zah rfl rfl ?_|refine zaq rfl (by first|assumption|omega) rfl ?_|apply zab|apply zac|refine zbk rfl rfl ?_|apply zbq|apply zae|refine zcc rfl ?_|apply zbu)
 exact ⟨rfl,rfl⟩
theorem jl1 {d:Nat} {h:H} {x y n:Int} {v:V} (hd:1<=d) (hv:VI h v [x,y]):cl d (.fn F.jaz) [.i x,.i y,.i 0,v,.i n,.i 0] h=some (.bool true,h):=by
 obtain ⟨a,c,rfl,_⟩:=id hv
 obtain ⟨b,o,cs,ro,rfl,hcs,h0⟩:=VI.cell (l:=[x,y]) hv (i:=0) (x:=x) rfl
 obtain ⟨b',o',cs',ro',e,hcs',h1⟩:=VI.cell (l:=[x,y]) hv (i:=1) (x:=y) rfl
 cases e
 rw [hcs] at hcs';cases hcs'
 have h0:cs[o+(0:Int).toNat*1]?=some (.i x):=h0
 have h1:cs[o+(1:Int).toNat*1]?=some (.i y):=h1
 refine jaq (at_ hcl hd rfl rfl rfl ?_)
 repeat' (first|refine zaa rfl ?_|refine zav rfl ‹_› ‹_› ?_|refine zad (by repeat' constructor) ?_|refine zaz rfl (by first|assumption|omega) ?_|refine zbb rfl (by omega) ?_|refine zag rfl rfl ?_|refine zah rfl rfl ?_|refine zaq rfl (by omega) rfl ?_|refine zar rfl (by omega) rfl ?_|refine zau rfl rfl ?_|apply zab|apply zac|refine zbj rfl (by omega) ?_|refine zbk rfl rfl ?_|apply zbp|apply zbq|apply zae|refine zcc rfl ?_|apply zbu)
 exact ⟨by simp,rfl⟩
theorem jl2 {d:Nat} {h:H} {x n:Int} {v:V} (hd:1<=d) (hv:VI h v [x]):cl d (.fn F.jaz) [.i x,.i n,.i 0,v,.i n,.i 0] h=some (.bool true,h):=by
 obtain ⟨a,c,rfl,_⟩:=id hv
 obtain ⟨b,o,cs,ro,rfl,hcs,h0⟩:=VI.cell (l:=[x]) hv (i:=0) (x:=x) rfl
 have h0:cs[o+(0:Int).toNat*1]?=some (.i x):=h0
 refine jaq (at_ hcl hd rfl rfl rfl ?_)
 repeat' (first|refine zaa rfl ?_|refine zav rfl ‹_› ‹_› ?_|refine zad (by repeat' constructor) ?_|refine zaz rfl (by first|assumption|omega) ?_|refine zbb rfl (by omega) ?_|refine zag rfl rfl ?_|refine zah rfl rfl ?_|refine zaq rfl (by omega) rfl ?_|refine zar rfl (by omega) rfl ?_|refine zau rfl rfl ?_|apply zab|apply zac|refine zbj rfl (by omega) ?_|refine zbl rfl rfl ?_|apply zbp|apply zbq|apply zae|refine zcc rfl ?_)
 exact ⟨by simp,rfl⟩
end
def PD (h:H) (p w s rw:Nat) (ow:Nat->Nat) (ro dat:Nat->Prop) (vd:V) (st':St):Post:=fun y e g=>y = .normal/\e=[(5,vd),(6,.bool true)] /\ ∃ ow' ro',BB g p w s rw ow' ro' dat st' st'/\Fm h g ow ro ow' ro'
theorem PD.mk {call:Call} {fuel:Nat} {h g:H} {p w s rw:Nat} {ow ow':Nat->Nat} {ro ro' dat:Nat->Prop} {vd:V} {st':St} (b:BB g p w s rw ow' ro' dat st' st') (f:Fm h g ow ro ow' ro'):End call fuel [] .normal [(5,vd),(6,.bool true)] g (PD h p w s rw ow ro dat vd st') :=
 End.nil ⟨rfl,rfl,ow',ro',b,f⟩
theorem PD.mk' {call:Call} {fuel:Nat} {h g:H} {p w s rw:Nat} {ow ow':Nat->Nat} {ro ro' dat:Nat->Prop} {vd x:V} {st':St} (hx:x = .bool true) (b:BB g p w s rw ow' ro' dat st' st') (f:Fm h g ow ro ow' ro'):End call fuel [] .normal [(5,vd),(6,x)] g (PD h p w s rw ow ro dat vd st'):=by
 subst hx;exact PD.mk b f
theorem BB.rhead {h:H} {p w s rw:Nat} {ow:Nat->Nat} {ro dat:Nat->Prop} {a r:St} (b:BB h p w s rw ow ro dat a r) : ∃ x c,h.get rw=some (.cells (.slice x r.ws.length c :: r.tl) false):=by
 obtain ⟨l,R,e⟩:=b.R
 obtain ⟨q,_,k⟩:=R.ex
 obtain ⟨x,c,hw,_⟩:=(k h rfl fun _ _ _=>rfl).head
 refine ⟨x,c,?_⟩
 rw [hw,<- e,List.length_map]
end Am.Sigs
namespace Am.Sigs
open Am Go
section
variable {cl:Nat->Call} (hcl:Sem cl) {h:H} {p w s rw:Nat} {ow:Nat->Nat} {ro dat:Nat->Prop} {st:St} {a n t:Int} {dv vd:V} {D:List UInt8}
include hcl
theorem sw_4 {d i B:Nat} (hd:16<=d) (b:BB h p w s rw ow ro dat st st) (so:StOk st i) (_hi:i<=200) (hD:Dat h dat dv D) (_hC:Cpy h p ow ro dat vd D) (lB:B<h.nx) (zB:ow B=0) (_rB : ¬ ro B) (gB:h.get B=some (.cells (opV 4 a n t dv) false)) :
  Run (cl (d-1)) fuel c15_27 [] [(0,.p p 0),(3,.p B 0),(5,vd),(36,.i 4)] h (PD h p w s rw ow ro dat vd (doS 4 a n t D st)):=by
 have hp0:=b.hp
 have lp:=b.lp
 have hl300:=hD.len
 have hS:doS 4 a n t D st = { st with ws:=(jaw st.ws a).2 } := by simp [doS]
 rw [hS]
 obtain ⟨h1,e1,W1,t1⟩:=ww_Accept hcl (d:=d-1) (fd:=a) (by omega) so.K b.W
 have b1:=b.wc (a' := { st with ws:=(jaw st.ws a).2 }) W1 t1
 have g1:=b.off_w t1 lB zB gB
 have hp1:=b1.hp
 obtain ⟨v,h2,e2,b2,f2,rfl⟩:=b1.rc hcl (d:=d-1) (f:=F.jaR) (args:=[.p rw 0,.i a]) (r' := { st with ws:=(jaw st.ws a).2 }) (P:=fun _ v=>v = .tup [.i (jaw st.ws a).1.1,.i (jaw st.ws a).1.2.1,.i (jaw st.ws a).1.2.2]) (fun _ _ _ _ h=>h) (fun g q l ga gn hq wR hl=>by
  have oR:WsOk (l.map RX.x):=by rw [hl];exact so.K.ok
  obtain ⟨l',g',k1,k2,k3,k4⟩:=rq_Accept hcl (d:=d-1) (fd:=a) (by omega) wR oR
  rw [hl] at k1 k3
  exact ⟨_,q,l',g',k1,k2,k3,k4,.inl rfl,rfl⟩)
 have fF:=(Fm.to (ro:=ro) t1).trans f2
 clear so hD _hC hl300 hS
 repeat' (first|refine zaa rfl ?_|refine zav rfl ‹_› rfl ?_|refine zaw rfl ‹_› ?_|refine zad (by repeat' constructor) ?_|refine zaz rfl (by omega) ?_|refine zag rfl rfl ?_|refine zaq rfl (by omega) rfl ?_|refine zau rfl rfl ?_|apply zab|apply zac|refine zbi rfl (by omega) ?_|refine zbj rfl (by omega) ?_|apply zae)
 exact PD.mk' (by simp) b2 fF
theorem sw_6 {d i B:Nat} (hd:16<=d) (b:BB h p w s rw ow ro dat st st) (so:StOk st i) (_hi:i<=200) (hD:Dat h dat dv D) (hC:Cpy h p ow ro dat vd D) (lB:B<h.nx) (zB:ow B=0) (_rB : ¬ ro B) (gB:h.get B=some (.cells (opV 6 a n t dv) false)) :
  Run (cl (d-1)) fuel c15_27 [] [(0,.p p 0),(3,.p B 0),(5,vd),(36,.i 6)] h (PD h p w s rw ow ro dat vd (doS 6 a n t D st)):=by
 have hp0:=b.hp
 have lp:=b.lp
 have hl300:=hD.len
 have hS:doS 6 a n t D st = { st with ws:=(jb1 st.ws a D).2 } := by simp [doS]
 rw [hS]
 obtain ⟨h1,e1,W1,t1⟩:=ww_Write hcl (d:=d-1) (fd:=a) (by omega) b.W so.K.ok hC.v (by omega) (fun z hz=>(hC.z z hz).2.1)
 have b1:=b.wc (a' := { st with ws:=(jb1 st.ws a D).2 }) W1 t1
 have g1:=b.off_w t1 lB zB gB
 have hp1:=b1.hp
 obtain ⟨v,h2,e2,b2,f2,rfl⟩:=b1.rc hcl (d:=d-1) (f:=F.jaU) (args:=[.p rw 0,.i a,dv]) (r' := { st with ws:=(jb1 st.ws a D).2 }) (P:=fun _ v=>v = .tup [.i (jb1 st.ws a D).1.1,.i (jb1 st.ws a D).1.2]) (fun _ _ _ _ h=>h) (fun g q l ga gn hq wR hl=>by
  have oR:WsOk (l.map RX.x):=by rw [hl];exact so.K.ok
  obtain ⟨q1,q2⟩:=(hD.keep b (Fm.to t1)).in_ b1 ga gn hq
  obtain ⟨l',g',k1,k2,k3,k4⟩:=rq_Write hcl (d:=d-1) (fd:=a) (by omega) wR oR q1 (by omega) q2
  rw [hl] at k1 k3
  exact ⟨_,q,l',g',k1,k2,k3,k4,.inl rfl,rfl⟩)
 have fF:=(Fm.to (ro:=ro) t1).trans f2
 clear so hD hC hl300 hS
 repeat' (first|refine zaa rfl ?_|refine zav rfl ‹_› rfl ?_|refine zaw rfl ‹_› ?_|refine zad (by repeat' constructor) ?_|refine zaz rfl (by omega) ?_|refine zag rfl rfl ?_|refine zaq rfl (by omega) rfl ?_|refine zau rfl rfl ?_|apply zab|apply zac|refine zbi rfl (by omega) ?_|refine zbj rfl (by omega) ?_|apply zae)
 exact PD.mk' (by simp) b2 fF
theorem sw_7 {d i B:Nat} (hd:16<=d) (b:BB h p w s rw ow ro dat st st) (so:StOk st i) (_hi:i<=200) (hD:Dat h dat dv D) (_hC:Cpy h p ow ro dat vd D) (lB:B<h.nx) (zB:ow B=0) (_rB : ¬ ro B) (gB:h.get B=some (.cells (opV 7 a n t dv) false)) :
  Run (cl (d-1)) fuel c15_27 [] [(0,.p p 0),(3,.p B 0),(5,vd),(36,.i 7)] h (PD h p w s rw ow ro dat vd (doS 7 a n t D st)):=by
 have hp0:=b.hp
 have lp:=b.lp
 have hl300:=hD.len
 have hS:doS 7 a n t D st = { st with ws:=(jcW st.ws a).2 } := by simp [doS]
 rw [hS]
 obtain ⟨h1,e1,W1,t1⟩:=ww_Shut hcl (d:=d-1) (fd:=a) (by omega) b.W so.K.ok
 have b1:=b.wc (a' := { st with ws:=(jcW st.ws a).2 }) W1 t1
 have g1:=b.off_w t1 lB zB gB
 have hp1:=b1.hp
 obtain ⟨v,h2,e2,b2,f2,rfl⟩:=b1.rc hcl (d:=d-1) (f:=F.jbf) (args:=[.p rw 0,.i a]) (r' := { st with ws:=(jcW st.ws a).2 }) (P:=fun _ v=>v = .i (jcW st.ws a).1) (fun _ _ _ _ h=>h) (fun g q l ga gn hq wR hl=>by
  have oR:WsOk (l.map RX.x):=by rw [hl];exact so.K.ok
  obtain ⟨l',g',k1,k2,k3,k4⟩:=rq_Shut hcl (d:=d-1) (fd:=a) (by omega) wR oR
  rw [hl] at k1 k3
  exact ⟨_,q,l',g',k1,k2,k3,k4,.inl rfl,rfl⟩)
 have fF:=(Fm.to (ro:=ro) t1).trans f2
 clear so hD _hC hl300 hS
 repeat' (first|refine zaa rfl ?_|refine zav rfl ‹_› rfl ?_|refine zaw rfl ‹_› ?_|refine zad (by repeat' constructor) ?_|refine zag rfl rfl ?_|refine zau rfl rfl ?_|apply zab|apply zac|refine zbi rfl (by omega) ?_|refine zbj rfl (by omega) ?_|apply zae)
 exact PD.mk' (by simp) b2 fF
theorem sw_8 {d i B:Nat} (hd:16<=d) (b:BB h p w s rw ow ro dat st st) (so:StOk st i) (_hi:i<=200) (hD:Dat h dat dv D) (_hC:Cpy h p ow ro dat vd D) (lB:B<h.nx) (zB:ow B=0) (_rB : ¬ ro B) (gB:h.get B=some (.cells (opV 8 a n t dv) false)) :
  Run (cl (d-1)) fuel c15_27 [] [(0,.p p 0),(3,.p B 0),(5,vd),(36,.i 8)] h (PD h p w s rw ow ro dat vd (doS 8 a n t D st)):=by
 have hp0:=b.hp
 have lp:=b.lp
 have hl300:=hD.len
 have hS:doS 8 a n t D st = { st with ws:=(jbR st.ws a).2 } := by simp [doS]
 rw [hS]
 obtain ⟨h1,e1,W1,t1⟩:=ww_Close hcl (d:=d-1) (fd:=a) (by omega) b.W so.K.ok
 have b1:=b.wc (a' := { st with ws:=(jbR st.ws a).2 }) W1 t1
 have g1:=b.off_w t1 lB zB gB
 have hp1:=b1.hp
 obtain ⟨v,h2,e2,b2,f2,rfl⟩:=b1.rc hcl (d:=d-1) (f:=F.jaX) (args:=[.p rw 0,.i a]) (r' := { st with ws:=(jbR st.ws a).2 }) (P:=fun _ v=>v = .i (jbR st.ws a).1) (fun _ _ _ _ h=>h) (fun g q l ga gn hq wR hl=>by
  have oR:WsOk (l.map RX.x):=by rw [hl];exact so.K.ok
  obtain ⟨l',g',k1,k2,k3,k4⟩:=rq_Close hcl (d:=d-1) (fd:=a) (by omega) wR oR
  rw [hl] at k1 k3
  exact ⟨_,q,l',g',k1,k2,k3,k4,.inl rfl,rfl⟩)
 have fF:=(Fm.to (ro:=ro) t1).trans f2
 clear so hD _hC hl300 hS
 repeat' (first|refine zaa rfl ?_|refine zav rfl ‹_› rfl ?_|refine zaw rfl ‹_› ?_|refine zad (by repeat' constructor) ?_|refine zag rfl rfl ?_|refine zau rfl rfl ?_|apply zab|apply zac|refine zbi rfl (by omega) ?_|refine zbj rfl (by omega) ?_|apply zae)
 exact PD.mk' (by simp) b2 fF
theorem sw_5 {d i B:Nat} (hd:16<=d) (b:BB h p w s rw ow ro dat st st) (so:StOk st i) (_hi:i<=200) (hD:Dat h dat dv D) (_hC:Cpy h p ow ro dat vd D) (lB:B<h.nx) (zB:ow B=0) (_rB : ¬ ro B) (gB:h.get B=some (.cells (opV 5 a n t dv) false)) :
  Run (cl (d-1)) fuel c15_27 [] [(0,.p p 0),(3,.p B 0),(5,vd),(36,.i 5)] h (PD h p w s rw ow ro dat vd (doS 5 a n t D st)):=by
 have hp0:=b.hp
 have lp:=b.lp
 have hl300:=hD.len
 have hS:doS 5 a n t D st = { st with ws:=(jbP st.ws a n).2 } := by simp [doS]
 rw [hS]
 obtain ⟨v1,h1,e1,vb1,vz1,W1,t1⟩:=ww_Read hcl (d:=d-1) (fd:=a) (many:=n) (by omega) b.W so.K.ok
 have b1:=b.wc (a' := { st with ws:=(jbP st.ws a n).2 }) W1 t1
 have g1:=b.off_w t1 lB zB gB
 have hp1:=b1.hp
 obtain ⟨v,h2,e2,b2,f2,hP⟩:=b1.rc hcl (d:=d-1) (f:=F.jbg) (args:=[.p rw 0,.i a,.i n]) (r' := { st with ws:=(jbP st.ws a n).2 })
  (P:=fun g v=>∃ v2,v = .tup [v2,.bool (jbP st.ws a n).1.2.1,.i (jbP st.ws a n).1.2.2]/\VB g v2 (jbP st.ws a n).1.1) (fun _ _ _ m ⟨v2,e,hv⟩=>⟨v2,e,hv.mono m⟩) (fun g q l ga gn hq wR hl=>by
  have oR:WsOk (l.map RX.x):=by rw [hl];exact so.K.ok
  obtain ⟨v2,l',g',k1,k0,k2,k3,k4⟩:=rq_Read hcl (d:=d-1) (fd:=a) (many:=n) (by omega) wR oR
  rw [hl] at k0 k1 k3
  exact ⟨_,q,l',g',k1,k2,k3,k4,.inl rfl,v2,rfl,k0⟩)
 have vb2:VB h2 v1 (jbP st.ws a n).1.1:=vb1.keep2 f2.ch.nx fun hl z hz=>f2.ch.get z (vb1.lt hl hz) fun e=>e.elim (fun e=>e (b.W.top (vz1 z hz))) fun e=>by
  have:=b.ro_lt (.inl e)
  have:=vz1 z hz
  omega
 obtain ⟨a1,c1,rfl,B1⟩:=vb2
 obtain ⟨v2,rfl,a2,c2,rfl,B2⟩:=hP
 have fF:=(Fm.to (ro:=ro) t1).trans f2
 generalize (jbP st.ws a n).1.2.1=bb at e1 e2
 clear so hD _hC hl300 hS
 cases bb
 ·repeat' (first|refine zaa rfl ?_|refine zav rfl ‹_› rfl ?_|refine zaw rfl ‹_› ?_|refine zad (by repeat' constructor) ?_|refine zag rfl rfl ?_|refine zau rfl rfl ?_|apply zab|apply zac|refine zbi rfl (by omega) ?_|refine zbj rfl (by omega) ?_|apply zae)
  refine Ops.ofBytesAt rfl B1 (Nat.le_refl _) ?_
  repeat' (first|refine zaa rfl ?_)
  refine Ops.ofBytesAt rfl B2 (Nat.le_refl _) ?_
  repeat' (first|refine zaa rfl ?_|refine zad (by repeat' constructor) ?_|refine zbd rfl (by first|rfl|assumption) ?_|refine zbe rfl (by first|rfl|assumption) ?_|refine zbh rfl (fun _=>?_) fun _=>?_|refine zag rfl rfl ?_|refine zas rfl (by first|rfl|assumption) rfl ?_|refine zat rfl (by first|rfl|assumption) rfl ?_|refine zcn rfl rfl ?_|refine zau rfl rfl ?_)
  ·exact PD.mk' (by simp) b2 fF
  ·rename_i hx
   simp at hx
 ·repeat' (first|refine zaa rfl ?_|refine zav rfl ‹_› rfl ?_|refine zaw rfl ‹_› ?_|refine zad (by repeat' constructor) ?_|refine zag rfl rfl ?_|refine zau rfl rfl ?_|apply zab|apply zac|refine zbi rfl (by omega) ?_|refine zbj rfl (by omega) ?_|apply zae)
  refine Ops.ofBytesAt rfl B1 (Nat.le_refl _) ?_
  repeat' (first|refine zaa rfl ?_)
  refine Ops.ofBytesAt rfl B2 (Nat.le_refl _) ?_
  repeat' (first|refine zaa rfl ?_|refine zad (by repeat' constructor) ?_|refine zbd rfl (by first|rfl|assumption) ?_|refine zbe rfl (by first|rfl|assumption) ?_|refine zbh rfl (fun _=>?_) fun _=>?_|refine zag rfl rfl ?_|refine zas rfl (by first|rfl|assumption) rfl ?_|refine zat rfl (by first|rfl|assumption) rfl ?_|refine zcn rfl rfl ?_|refine zau rfl rfl ?_)
  ·exact PD.mk' (by simp) b2 fF
  ·rename_i hx
   simp at hx
end
end Am.Sigs
namespace Am.Sigs
open Am Go
section
variable {cl:Nat->Call} (hcl:Sem cl) {h:H} {p w s rw:Nat} {ow:Nat->Nat} {ro dat:Nat->Prop} {st:St} {a n t:Int} {dv vd:V} {D:List UInt8}
include hcl
theorem sw_0 {d i B:Nat} (hd:16<=d) (b:BB h p w s rw ow ro dat st st) (so:StOk st i) (_hi:i<=200) (hD:Dat h dat dv D) (_hC:Cpy h p ow ro dat vd D) (lB:B<h.nx) (zB:ow B=0) (_rB : ¬ ro B) (gB:h.get B=some (.cells (opV 0 a n t dv) false)) :
  Run (cl (d-1)) fuel c15_27 [] [(0,.p p 0),(3,.p B 0),(5,vd),(36,.i 0)] h (PD h p w s rw ow ro dat vd (doS 0 a n t D st)):=by
 have hp0:=b.hp
 have lp:=b.lp
 have hl300:=hD.len
 have hS:doS 0 a n t D st = { st with ws:=(jag st.ws 0 n).2 } := by simp [doS]
 rw [hS]
 obtain ⟨x,y,h1,ow1,e1,good,bad,W1,t1⟩:=ww_Pipe hcl (d:=d-1) (n:=n) (by omega) so.K b.W
 have b1:=b.wc (a' := { st with ws:=(jag st.ws 0 n).2 }) W1 t1
 have g1:=b.off_w t1 lB zB gB
 have hp1:=b1.hp
 obtain ⟨v,h2,e2,b2,f2,v2,rfl,hv2⟩:=b1.rc hcl (d:=d-1) (f:=F.jav) (args:=[.p rw 0,.i 0,.i n]) (r' := { st with ws:=(jag st.ws 0 n).2 })
  (P:=fun g v=>∃ v2,v = .tup [v2,.i (jag st.ws 0 n).1.2]/\VI g v2 (jag st.ws 0 n).1.1) (fun _ _ _ m ⟨v2,e,hv⟩=>⟨v2,e,hv.mono m⟩) (fun g q l ga gn hq wR hl=>by
  have oR:WsOk (l.map RX.x):=by rw [hl];exact so.K.ok
  obtain ⟨v2,q',l',g',k1,k0,k2,k3,k4,k5⟩:=jgX hcl (d:=d-1) (kind:=0) (n:=n) (by omega) (by omega) wR oR
  rw [hl] at k0 k1 k3
  exact ⟨_,q',l',g',k1,k2,k3,k4,k5,v2,rfl,k0⟩)
 have fF:=(Fm.to (ro:=ro) t1).trans f2
 have hp2:=b2.hp
 obtain ⟨xs,cs,hr2⟩:=b2.rhead
 have wl:({ st with ws:=(jag st.ws 0 n).2 } : St).ws.length=(jag st.ws 0 n).2.length:=rfl
 rw [wl] at hr2
 have q0:(V.slice xs (jag st.ws 0 n).2.length cs :: ({ st with ws:=(jag st.ws 0 n).2 } : St).tl)[0+0]?=some (V.slice xs (jag st.ws 0 n).2.length cs):=rfl
 have o2v:=hv2.one
 have e3:cl (d-1) (.fn F.jaz) [.i x,.i y,.i (jag st.ws 0 n).1.2,v2,.i ((jag st.ws 0 n).2.length-1),.i (jag st.ws 0 n).1.2] h2=some (.bool true,h2):=by
  by_cases hz:(jag st.ws 0 n).1.2=0
  ·have gd:=good hz
   rw [gd] at hv2
   rw [hz]
   exact jl1 hcl (by omega) hv2
  ·obtain ⟨rfl,rfl⟩:=bad hz
   exact jln hcl (by omega) hz
 have hlen:(jag st.ws 0 n).2.length<=1000:=(jdd (by omega) so.K).ok.len
 clear so hD _hC hl300 hS good bad
 generalize (jag st.ws 0 n).1.2=er at e1 e2 e3
 repeat' (first|refine zaa rfl ?_|refine zav rfl ‹_› (by first|assumption|rfl) ?_|refine zaw rfl ‹_› ?_|refine zad (by repeat' constructor) ?_|refine zag rfl rfl ?_|refine zam rfl rfl ⟨by omega,by omega⟩ ?_|refine zau rfl rfl ?_|apply zab|apply zac|refine zbi rfl (by omega) ?_|apply zbo|apply zbp|apply zae|apply zbw)
 exact PD.mk' rfl b2 fF
theorem sw_1 {d i B:Nat} (hd:16<=d) (b:BB h p w s rw ow ro dat st st) (so:StOk st i) (_hi:i<=200) (hD:Dat h dat dv D) (_hC:Cpy h p ow ro dat vd D) (lB:B<h.nx) (zB:ow B=0) (_rB : ¬ ro B) (gB:h.get B=some (.cells (opV 1 a n t dv) false)) :
  Run (cl (d-1)) fuel c15_27 [] [(0,.p p 0),(3,.p B 0),(5,vd),(36,.i 1)] h (PD h p w s rw ow ro dat vd (doS 1 a n t D st)):=by
 have hp0:=b.hp
 have lp:=b.lp
 have hl300:=hD.len
 have hS:doS 1 a n t D st = { st with ws:=(jag st.ws 1 n).2 } := by simp [doS]
 rw [hS]
 obtain ⟨x,y,h1,ow1,e1,good,bad,W1,t1⟩:=ww_Pair hcl (d:=d-1) (n:=n) (by omega) so.K b.W
 have b1:=b.wc (a' := { st with ws:=(jag st.ws 1 n).2 }) W1 t1
 have g1:=b.off_w t1 lB zB gB
 have hp1:=b1.hp
 obtain ⟨v,h2,e2,b2,f2,v2,rfl,hv2⟩:=b1.rc hcl (d:=d-1) (f:=F.jav) (args:=[.p rw 0,.i 1,.i n]) (r' := { st with ws:=(jag st.ws 1 n).2 })
  (P:=fun g v=>∃ v2,v = .tup [v2,.i (jag st.ws 1 n).1.2]/\VI g v2 (jag st.ws 1 n).1.1) (fun _ _ _ m ⟨v2,e,hv⟩=>⟨v2,e,hv.mono m⟩) (fun g q l ga gn hq wR hl=>by
  have oR:WsOk (l.map RX.x):=by rw [hl];exact so.K.ok
  obtain ⟨v2,q',l',g',k1,k0,k2,k3,k4,k5⟩:=jgX hcl (d:=d-1) (kind:=1) (n:=n) (by omega) (by omega) wR oR
  rw [hl] at k0 k1 k3
  exact ⟨_,q',l',g',k1,k2,k3,k4,k5,v2,rfl,k0⟩)
 have fF:=(Fm.to (ro:=ro) t1).trans f2
 have hp2:=b2.hp
 obtain ⟨xs,cs,hr2⟩:=b2.rhead
 have wl:({ st with ws:=(jag st.ws 1 n).2 } : St).ws.length=(jag st.ws 1 n).2.length:=rfl
 rw [wl] at hr2
 have q0:(V.slice xs (jag st.ws 1 n).2.length cs :: ({ st with ws:=(jag st.ws 1 n).2 } : St).tl)[0+0]?=some (V.slice xs (jag st.ws 1 n).2.length cs):=rfl
 have o2v:=hv2.one
 have e3:cl (d-1) (.fn F.jaz) [.i x,.i y,.i (jag st.ws 1 n).1.2,v2,.i ((jag st.ws 1 n).2.length-1),.i (jag st.ws 1 n).1.2] h2=some (.bool true,h2):=by
  by_cases hz:(jag st.ws 1 n).1.2=0
  ·have gd:=good hz
   rw [gd] at hv2
   rw [hz]
   exact jl1 hcl (by omega) hv2
  ·obtain ⟨rfl,rfl⟩:=bad hz
   exact jln hcl (by omega) hz
 have hlen:(jag st.ws 1 n).2.length<=1000:=(jdd (by omega) so.K).ok.len
 clear so hD _hC hl300 hS good bad
 generalize (jag st.ws 1 n).1.2=er at e1 e2 e3
 repeat' (first|refine zaa rfl ?_|refine zav rfl ‹_› (by first|assumption|rfl) ?_|refine zaw rfl ‹_› ?_|refine zad (by repeat' constructor) ?_|refine zag rfl rfl ?_|refine zam rfl rfl ⟨by omega,by omega⟩ ?_|refine zau rfl rfl ?_|apply zab|apply zac|refine zbi rfl (by omega) ?_|refine zbj rfl (by omega) ?_|apply zbo|apply zbp|apply zae|apply zbw)
 exact PD.mk' rfl b2 fF
end
end Am.Sigs
namespace Am.Sigs
open Am Go
section
variable {cl:Nat->Call} (hcl:Sem cl) {h:H} {p w s rw:Nat} {ow:Nat->Nat} {ro dat:Nat->Prop} {st:St} {a n t:Int} {dv vd:V} {D:List UInt8}
include hcl
theorem sw_2 {d i B:Nat} (hd:16<=d) (b:BB h p w s rw ow ro dat st st) (so:StOk st i) (_hi:i<=200) (hD:Dat h dat dv D) (_hC:Cpy h p ow ro dat vd D) (lB:B<h.nx) (zB:ow B=0) (_rB : ¬ ro B) (gB:h.get B=some (.cells (opV 2 a n t dv) false)) :
  Run (cl (d-1)) fuel c15_27 [] [(0,.p p 0),(3,.p B 0),(5,vd),(36,.i 2)] h (PD h p w s rw ow ro dat vd (doS 2 a n t D st)):=by
 have hp0:=b.hp
 have lp:=b.lp
 have hl300:=hD.len
 have hS:doS 2 a n t D st = { st with ws:=(jag st.ws 2 n).2 } := by simp [doS]
 rw [hS]
 obtain ⟨x,y,h1,ow1,e1,good,bad,W1,t1⟩:=ww_Outer hcl (d:=d-1) (n:=n) (by omega) so.K b.W
 have b1:=b.wc (a' := { st with ws:=(jag st.ws 2 n).2 }) W1 t1
 have g1:=b.off_w t1 lB zB gB
 have hp1:=b1.hp
 obtain ⟨v,h2,e2,b2,f2,v2,rfl,hv2⟩:=b1.rc hcl (d:=d-1) (f:=F.jav) (args:=[.p rw 0,.i 2,.i n]) (r' := { st with ws:=(jag st.ws 2 n).2 })
  (P:=fun g v=>∃ v2,v = .tup [v2,.i (jag st.ws 2 n).1.2]/\VI g v2 (jag st.ws 2 n).1.1) (fun _ _ _ m ⟨v2,e,hv⟩=>⟨v2,e,hv.mono m⟩) (fun g q l ga gn hq wR hl=>by
  have oR:WsOk (l.map RX.x):=by rw [hl];exact so.K.ok
  obtain ⟨v2,q',l',g',k1,k0,k2,k3,k4,k5⟩:=jgX hcl (d:=d-1) (kind:=2) (n:=n) (by omega) (by omega) wR oR
  rw [hl] at k0 k1 k3
  exact ⟨_,q',l',g',k1,k2,k3,k4,k5,v2,rfl,k0⟩)
 have fF:=(Fm.to (ro:=ro) t1).trans f2
 have hp2:=b2.hp
 obtain ⟨xs,cs,hr2⟩:=b2.rhead
 have wl:({ st with ws:=(jag st.ws 2 n).2 } : St).ws.length=(jag st.ws 2 n).2.length:=rfl
 rw [wl] at hr2
 have q0:(V.slice xs (jag st.ws 2 n).2.length cs :: ({ st with ws:=(jag st.ws 2 n).2 } : St).tl)[0+0]?=some (V.slice xs (jag st.ws 2 n).2.length cs):=rfl
 have o2v:=hv2.one
 have e3:cl (d-1) (.fn F.jaz) [.i x,.i y,.i (jag st.ws 2 n).1.2,v2,.i ((jag st.ws 2 n).2.length-1),.i (jag st.ws 2 n).1.2] h2=some (.bool true,h2):=by
  by_cases hz:(jag st.ws 2 n).1.2=0
  ·obtain ⟨gd,gl⟩:=good hz
   have hm:((jag st.ws 2 n).2.length:Int)-1=(st.ws.length:Int):=by
    rcases jdS (ws:=st.ws) (n:=n) (kind:=2) (by omega) with ⟨_,_,m3⟩ | ⟨m1,_⟩
    ·omega
    ·exact absurd hz m1
   rw [gd] at hv2
   rw [hz,hm,gl]
   exact jl2 hcl (by omega) hv2
  ·obtain ⟨rfl,rfl⟩:=bad hz
   exact jln hcl (by omega) hz
 have hlen:(jag st.ws 2 n).2.length<=1000:=(jdd (by omega) so.K).ok.len
 clear so hD _hC hl300 hS good bad
 generalize (jag st.ws 2 n).1.2=er at e1 e2 e3
 repeat' (first|refine zaa rfl ?_|refine zav rfl ‹_› (by first|assumption|rfl) ?_|refine zaw rfl ‹_› ?_|refine zad (by repeat' constructor) ?_|refine zag rfl rfl ?_|refine zam rfl rfl ⟨by omega,by omega⟩ ?_|refine zau rfl rfl ?_|apply zab|apply zac|refine zbi rfl (by omega) ?_|refine zbj rfl (by omega) ?_|apply zbo|apply zbp|apply zae|apply zbw)
 exact PD.mk' rfl b2 fF
theorem sw_3 {d i B:Nat} (hd:16<=d) (b:BB h p w s rw ow ro dat st st) (so:StOk st i) (_hi:i<=200) (hD:Dat h dat dv D) (_hC:Cpy h p ow ro dat vd D) (lB:B<h.nx) (zB:ow B=0) (_rB : ¬ ro B) (gB:h.get B=some (.cells (opV 3 a n t dv) false)) :
  Run (cl (d-1)) fuel c15_27 [] [(0,.p p 0),(3,.p B 0),(5,vd),(36,.i 3)] h (PD h p w s rw ow ro dat vd (doS 3 a n t D st)):=by
 have hp0:=b.hp
 have lp:=b.lp
 have hl300:=hD.len
 have hS:doS 3 a n t D st = { st with ws:=(jag st.ws 3 n).2 } := by simp [doS]
 rw [hS]
 obtain ⟨x,y,h1,ow1,e1,good,bad,W1,t1⟩:=ww_Listen hcl (d:=d-1) (n:=n) (by omega) so.K b.W
 have b1:=b.wc (a' := { st with ws:=(jag st.ws 3 n).2 }) W1 t1
 have g1:=b.off_w t1 lB zB gB
 have hp1:=b1.hp
 obtain ⟨v,h2,e2,b2,f2,v2,rfl,hv2⟩:=b1.rc hcl (d:=d-1) (f:=F.jav) (args:=[.p rw 0,.i 3,.i n]) (r' := { st with ws:=(jag st.ws 3 n).2 })
  (P:=fun g v=>∃ v2,v = .tup [v2,.i (jag st.ws 3 n).1.2]/\VI g v2 (jag st.ws 3 n).1.1) (fun _ _ _ m ⟨v2,e,hv⟩=>⟨v2,e,hv.mono m⟩) (fun g q l ga gn hq wR hl=>by
  have oR:WsOk (l.map RX.x):=by rw [hl];exact so.K.ok
  obtain ⟨v2,q',l',g',k1,k0,k2,k3,k4,k5⟩:=jgX hcl (d:=d-1) (kind:=3) (n:=n) (by omega) (by omega) wR oR
  rw [hl] at k0 k1 k3
  exact ⟨_,q',l',g',k1,k2,k3,k4,k5,v2,rfl,k0⟩)
 have fF:=(Fm.to (ro:=ro) t1).trans f2
 have hp2:=b2.hp
 obtain ⟨xs,cs,hr2⟩:=b2.rhead
 have wl:({ st with ws:=(jag st.ws 3 n).2 } : St).ws.length=(jag st.ws 3 n).2.length:=rfl
 rw [wl] at hr2
 have q0:(V.slice xs (jag st.ws 3 n).2.length cs :: ({ st with ws:=(jag st.ws 3 n).2 } : St).tl)[0+0]?=some (V.slice xs (jag st.ws 3 n).2.length cs):=rfl
 have o2v:=hv2.one
 have e3:cl (d-1) (.fn F.jaz) [.i x,.i y,.i (jag st.ws 3 n).1.2,v2,.i ((jag st.ws 3 n).2.length-1),.i (jag st.ws 3 n).1.2] h2=some (.bool true,h2):=by
  by_cases hz:(jag st.ws 3 n).1.2=0
  ·obtain ⟨gd,gl⟩:=good hz
   have hm:((jag st.ws 3 n).2.length:Int)-1=(st.ws.length:Int):=by
    rcases jdS (ws:=st.ws) (n:=n) (kind:=3) (by omega) with ⟨_,_,m3⟩ | ⟨m1,_⟩
    ·omega
    ·exact absurd hz m1
   rw [gd] at hv2
   rw [hz,hm,gl]
   exact jl2 hcl (by omega) hv2
  ·obtain ⟨rfl,rfl⟩:=bad hz
   exact jln hcl (by omega) hz
 have hlen:(jag st.ws 3 n).2.length<=1000:=(jdd (by omega) so.K).ok.len
 clear so hD _hC hl300 hS good bad
 generalize (jag st.ws 3 n).1.2=er at e1 e2 e3
 repeat' (first|refine zaa rfl ?_|refine zav rfl ‹_› (by first|assumption|rfl) ?_|refine zaw rfl ‹_› ?_|refine zad (by repeat' constructor) ?_|refine zag rfl rfl ?_|refine zam rfl rfl ⟨by omega,by omega⟩ ?_|refine zau rfl rfl ?_|apply zab|apply zac|refine zbi rfl (by omega) ?_|refine zbj rfl (by omega) ?_|apply zbo|apply zae|apply zbw)
 exact PD.mk' rfl b2 fF
end
end Am.Sigs
namespace Am.Sigs
open Am Go
section
variable {cl:Nat->Call} (hcl:Sem cl) {h:H} {p w s rw:Nat} {ow:Nat->Nat} {ro dat:Nat->Prop} {st:St} {k a n t:Int} {dv vd:V} {D:List UInt8}
include hcl
theorem sw_more {d B:Nat} {st':St} (hk:k<0\/8<k) (gB:h.get B=some (.cells (opV k a n t dv) false)) (m:jcG cl (d-1) F.jaf h p w s rw ow ro dat [.p p 0,.agg (opV k a n t dv),vd] st') :
  Run (cl (d-1)) fuel c15_27 [] [(0,.p p 0),(3,.p B 0),(5,vd),(36,.i k)] h (PD h p w s rw ow ro dat vd st'):=by
 have _:=hcl
 obtain ⟨h',ow',ro',e1,b',f'⟩:=m
 have n0 : ¬ k=0:=by omega
 have n1 : ¬ k=1:=by omega
 have n2 : ¬ k=2:=by omega
 have n3 : ¬ k=3:=by omega
 have n4 : ¬ k=4:=by omega
 have n5 : ¬ k=5:=by omega
 have n6 : ¬ k=6:=by omega
 have n7 : ¬ k=7:=by omega
 have n8 : ¬ k=8:=by omega
 clear hk
 repeat' (first|refine zaa rfl ?_|refine zaw rfl ‹_› ?_|refine zcw rfl ‹_› (Nat.le_of_ble_eq_true rfl) ?_|refine zad (by repeat' constructor) ?_|refine zag rfl rfl ?_|apply zab|apply zac|refine zbj rfl ‹_› ?_|apply zae)
 exact PD.mk' rfl b' f'
theorem sw_all {d i B:Nat} (hd:16<=d) (b:BB h p w s rw ow ro dat st st) (so:StOk st i) (hi:i<=200) (hD:Dat h dat dv D) (hC:Cpy h p ow ro dat vd D) (lB:B<h.nx) (zB:ow B=0) (rB : ¬ ro B) (gB:h.get B=some (.cells (opV k a n t dv) false)) (t0:0<=t) (t1:t<=18446744073709551615) :
  Run (cl (d-1)) fuel c15_27 [] [(0,.p p 0),(3,.p B 0),(5,vd),(36,.i k)] h (PD h p w s rw ow ro dat vd (doS k a n t D st)):=by
 by_cases k0:k=0
 ·subst k0;exact sw_0 hcl hd b so hi hD hC lB zB rB gB
 by_cases k1:k=1
 ·subst k1;exact sw_1 hcl hd b so hi hD hC lB zB rB gB
 by_cases k2:k=2
 ·subst k2;exact sw_2 hcl hd b so hi hD hC lB zB rB gB
 by_cases k3:k=3
 ·subst k3;exact sw_3 hcl hd b so hi hD hC lB zB rB gB
 by_cases k4:k=4
 ·subst k4;exact sw_4 hcl hd b so hi hD hC lB zB rB gB
 by_cases k5:k=5
 ·subst k5;exact sw_5 hcl hd b so hi hD hC lB zB rB gB
 by_cases k6:k=6
 ·subst k6;exact sw_6 hcl hd b so hi hD hC lB zB rB gB
 by_cases k7:k=7
 ·subst k7;exact sw_7 hcl hd b so hi hD hC lB zB rB gB
 by_cases k8:k=8
 ·subst k8;exact sw_8 hcl hd b so hi hD hC lB zB rB gB
 refine sw_more hcl (by omega) gB ?_
 by_cases k9:k=9
 ·subst k9;exact mo_9 hcl (by omega) b so hi hD hC
 by_cases k10:k=10
 ·subst k10;exact mo_10 hcl (by omega) b so hi hD hC
 by_cases k11:k=11
 ·subst k11;exact mo_11 hcl (by omega) b so hi hD hC
 by_cases k12:k=12
 ·subst k12;exact mo_12 hcl (by omega) b so hi hD hC
 by_cases k13:k=13
 ·subst k13;exact mo_13 hcl (by omega) b so hi hD hC
 by_cases k14:k=14
 ·subst k14;exact mo_14 hcl (by omega) b so hi hD hC
 by_cases k15:k=15
 ·subst k15;exact mo_15 hcl (by omega) b so hi hD hC t0 t1
 by_cases k16:k=16
 ·subst k16;exact mo_16 hcl (by omega) b so hi hD hC
 by_cases k17:k=17
 ·subst k17;exact mo_17 hcl (by omega) b so hi hD hC
 by_cases k18:k=18
 ·subst k18;exact mo_18 hcl (by omega) b so hi
 by_cases k19:k=19
 ·subst k19;exact mo_19 hcl (by omega) b so hi hD hC
 by_cases k20:k=20
 ·subst k20;exact mo_20 hcl (by omega) b so
 exact mo_no hcl (by omega) b (by omega)
theorem do_ok {d i:Nat} (hd:16<=d) (b:BB h p w s rw ow ro dat st st) (so:StOk st i) (hi:i<=200) (hD:Dat h dat dv D) (t0:0<=t) (t1:t<=18446744073709551615) :
  ∃ h' ow' ro',cl d (.fn F.jbt) [.p p 0,.agg (opV k a n t dv)] h=some (.bool true,h')/\BB h' p w s rw ow' ro' dat (doS k a n t D st) (doS k a n t D st)/\Fm h h' ow ro ow' ro':=by
 suffices q : ∃ v h',cl d (.fn F.jbt) [.p p 0,.agg (opV k a n t dv)] h=some (v,h') /\ ∃ ow' ro',v = .bool true/\BB h' p w s rw ow' ro' dat (doS k a n t D st) (doS k a n t D st)/\Fm h h' ow ro ow' ro' by
  obtain ⟨_,h',e,ow',ro',rfl,q⟩:=q;exact ⟨h',ow',ro',e,q⟩
 have ol:Old h ((h.new (.cells (opV k a n t dv) false)).new (.cells [] false)):=(Old.refl h).new.new
 have hv:=(hD.keep b (Fm.old (ow:=ow) (ro:=ro) ol)).v
 have hl300:=hD.len
 refine at_ hcl (by omega) rfl rfl rfl ?_
 obtain ⟨C,hC⟩ : ∃ C,C=c15_27:=⟨_,rfl⟩
 simp only [c15,c15_29]
 rw [<- hC]
 repeat' (first|refine zaa rfl ?_|refine zav rfl (by repeat first|exact jaa _|refine zzl (by (simp only [H.nx_new];omega)) ?_) rfl ?_|refine zad (by repeat' constructor) ?_|refine zau rfl rfl ?_|refine zcu rfl rfl ?_|apply zab|apply zac|apply zae)
 refine Ops.copyB rfl rfl hv (by omega) fun a' c' h3 hvd hcells ho hz=>?_
 have ho:Old ((h.new (.cells (opV k a n t dv) false)).new (.cells [] false)) h3:=ho
 have hz:a'=h.nx+1\/(h.nx+2<=a'/\a'<h3.nx):=hz
 have o3:=ol.trans ho
 have xo:((h.new (.cells (opV k a n t dv) false)).new (.cells [] false)).nx=h.nx+2:=rfl
 have x3:=ho.1
 have b3:=b.old o3
 have hD3:=hD.keep b (Fm.old (ow:=ow) (ro:=ro) o3)
 have gB:h3.get h.nx=some (.cells (opV k a n t dv) false):=by
  rw [ho.2 _ (by omega),jac (by simp),jad]
 have ha':h.nx+1<=a'/\a'<h3.nx:=by
  omega
 have lp:=b.lp
 have hC3:Cpy h3 p ow ro dat (.slice (some (a',0)) D.length c') D:=⟨hvd,fun z hz=>by
  cases hz
  refine ⟨ha'.2,b.W.top (by omega),fun e=>?_,fun e=>?_,by omega⟩
  ·have:=b.ro_lt (.inl e);omega
  ·have:=b.ro_lt (.inr e);omega⟩
 have hsw:=sw_all hcl (d:=d) (k:=k) (a:=a) (n:=n) (t:=t) hd b3 so hi hD3 hC3 (B:=h.nx) (by omega) (b.W.top (Nat.le_refl _)) (fun e=>by have:=b.ro_lt (.inl e);omega) gB t0 t1
 rw [<- hC] at hsw
 clear hD hD3 hv so
 repeat' (first|refine zaa rfl ?_|refine zav rfl ‹_› rfl ?_|refine zad (by repeat' constructor) ?_|refine zau rfl rfl ?_|apply zab|apply zac|apply zbo|apply zae)
 refine Run.cut _ hsw ?_
 rintro _ _ g ⟨rfl,rfl,ow',ro',b',f'⟩
 clear hsw hC
 have hCg:=hC3.keep f'
 obtain ⟨z1,z2,z3,z4,z5⟩:=hCg.z a' rfl
 have gcells:D≠[]->g.get a'=some (.cells (bts D) false):=fun hn=>by
  obtain ⟨y1,y2,y3,_,_⟩:=hC3.z a' rfl
  rw [f'.ch.get a' y1 fun e=>e.elim (fun e=>e y2) y3,hcells hn]
 have fF:=(Fm.old (ow:=ow) (ro:=ro) o3).trans f'
 have xg:=f'.ch.nx
 clear hC3 hCg hcells f' b3 gB hvd
 repeat' (first|refine zaa rfl ?_|refine zad (by repeat' constructor) ?_|refine zau rfl rfl ?_|apply zab|apply zac|apply zbo|apply zae|apply zbw)
 refine Run.loop (fun m e g2=>∃ j:Nat,m=D.length-j/\j<=D.length/\e=[(5,.slice (some (a',0)) D.length c'),(6,.bool true),(275,.i (D.length:Int)),(276,.i (j:Int))] /\
   (D≠[] -> ∃ cs:List V,g2.get a'=some (.cells cs false)/\cs.length=D.length /\ ∀ i,i<D.length -> ∃ x,cs[i]?=some (.int .u8 x))/\g2.nx=g.nx /\ ∀ j,j≠a'->g2.get j=g.get j)
  (k:=D.length) (by show _<100000;omega) ⟨0,rfl,by omega,rfl,fun hn=>⟨bts D,gcells hn,by simp,fun i hi=>⟨_,jhw (List.getElem?_eq_getElem hi)⟩⟩,rfl,fun _ _=>rfl⟩ ?_
 rintro _ _ g2 ⟨j,rfl,hj,rfl,hcs,hx2,hk2⟩ n2 ih2
 by_cases hlt:(j:Int)<D.length
 case neg=>
  clear ih2 hcs gcells
  repeat' (first|refine zaa rfl ?_|refine zad (by repeat' constructor) ?_|refine zaf rfl rfl ?_|apply zab|apply zac|refine zbj rfl ‹_› ?_|apply zbq|apply zbr|apply zae|refine zcc rfl ?_|apply zbv|apply zby|apply zcb)
  refine ⟨ow',ro',rfl,b'.off (by omega) fun i hi ho=>hk2 i ?_,⟨by have:=fF.ch.nx;omega,fun i hi hb=>by rw [hk2 i (by omega),fF.ch.get i hi hb]⟩,fF.tag,fF.rtag⟩
  rintro rfl
  rcases ho with ho | ho | ho | ho
  ·exact ho z2
  ·exact z3 ho
  ·exact z4 ho
  ·exact z5 ho
 obtain ⟨cs,g1,g3,g4⟩:=hcs (by rintro rfl;simp at hlt;omega)
 obtain ⟨x,hx⟩:=g4 j (by omega)
 have hx':cs[0+(j:Int).toNat*1]?=some (.int .u8 x):=by rw [show 0+(j:Int).toNat*1=j by omega];exact hx
 have hj1:(j:Int)+1=((j+1:Nat):Int):=by omega
 clear gcells hcs
 repeat' (first|refine zaa rfl ?_|refine zav rfl ‹_› ‹_› ?_|refine zad (by repeat' constructor) ?_|refine zaf rfl rfl ?_|refine zau rfl rfl ?_|refine zay rfl rfl (by omega) ?_|apply zab|apply zac|refine zbi rfl ‹_› ?_|apply zbo|apply zbp|apply zae)
 refine Ops.store1 rfl rfl rfl g1 (by omega) ?_
 repeat' (first|refine zaa rfl ?_|refine zad (by repeat' constructor) ?_|refine zal rfl rfl ⟨by omega,by omega⟩ ?_|apply zac|apply zae|apply zbw)
 rw [hj1]
 refine ih2 (D.length-(j+1)) (by omega) _ _ ⟨j+1,rfl,by omega,rfl,fun _=>⟨_,jaa _,by simp;exact g3,fun i hi=>?_⟩,hx2,fun i hi=>by rw [jab hi,hk2 i hi]⟩
 rw [List.getElem?_set]
 by_cases e:0+(j:Int).toNat*1=i
 ·rw [if_pos e,if_pos (by omega)];exact ⟨_,rfl⟩
 ·rw [if_neg e];exact g4 i hi
end
end Am.Sigs
namespace Am.Sigs
open Am Go
section
variable {cl:Nat->Call} (hcl:Sem cl)
include hcl
theorem wr_out {d b4 b8 b9 b10 wb cap rk ro:Nat} {g:H} {own oth:En} {wl:List V} {rst i hup:Bool} {a c:Int} (hd:3<=d) (g4:g.get b4=some jdq) (g8:g.get b8=some (.cells (own.cells rk) false)) (g9:g.get b9=some (.cells (oth.cells ro) false))
  (g10:g.get b10=some (.cells [.bool true,.bool i,.bool false,.bool hup,.bool rst,.int .u64 a,.int .u64 c] false)) (gx:g.get wb=some (.cells wl false)) (hx:wl[0+14]?=some (.bool rst)) (n1:b4≠b10) (_n2:b8≠b10) (_n3:b9≠b10) (_n4:wb≠b10)
  (hR:own.writes=true -> ∃ q b,oth.ring=some q/\ja0 g ro b q cap) :
  Run (cl (d-1)) fuel c13_0 [] [(4,.p b4 0),(6,.p wb 0),(8,.p b8 0),(9,.p b9 0),(10,.p b10 0)] g
   (Fin c13.res fun v' h'=>v' = .agg [.bool true,.bool i,.bool (own.writes && !own.shut&&(decide (((oth.ring.getD []).length:Int)<cap)||hup||rst)),.bool hup,.bool rst,.int .u64 a,.int .u64 c]/\Ch (fun j=>j=b4\/j=b10) g h'):=by
 obtain ⟨w0,f0,q0,wr0,s0,i0,o0⟩:=own
 obtain ⟨w1,f1,q1,wr1,s1,i1,o1⟩:=oth
 simp only [En.cells] at g8 g9
 cases wr0
 case false=>
  repeat' (first|refine zaa rfl ?_|refine zav rfl (by repeat first|assumption|exact jaa _|refine zzn (by omega) ?_) rfl ?_|refine zcs rfl rfl rfl (by repeat first|assumption|exact jaa _|refine zzn (by omega) ?_) (Nat.le_of_ble_eq_true rfl) ?_|refine zct rfl rfl rfl rfl (by repeat first|assumption|exact jaa _|refine zzn ‹_› ?_) (Nat.le_of_ble_eq_true rfl) ?_|refine zcw rfl (by repeat first|assumption|exact jaa _|refine zzn (by omega) ?_) (Nat.le_of_ble_eq_true rfl) ?_|refine zad (by repeat' constructor) ?_|refine zcv rfl ?_|refine zbe rfl rfl ?_|refine zat rfl rfl rfl ?_|refine zau rfl rfl ?_|apply zab|apply zac|apply zbq|apply zae)
  exact jbh rfl (jaa _) rfl ⟨rfl,(Ch.set (.inr rfl)).trans (Ch.set (.inl rfl))⟩
 obtain ⟨q,b,hq,R⟩:=hR rfl
 have hq:q1=some q:=hq
 subst hq
 simp only [En.ptr] at g9
 cases s0
 case true=>
  repeat' (first|refine zaa rfl ?_|refine zav rfl (by repeat first|assumption|exact jaa _|refine zzn (by omega) ?_) rfl ?_|refine zcs rfl rfl rfl (by repeat first|assumption|exact jaa _|refine zzn (by omega) ?_) (Nat.le_of_ble_eq_true rfl) ?_|refine zct rfl rfl rfl rfl (by repeat first|assumption|exact jaa _|refine zzn ‹_› ?_) (Nat.le_of_ble_eq_true rfl) ?_|refine zcw rfl (by repeat first|assumption|exact jaa _|refine zzn (by omega) ?_) (Nat.le_of_ble_eq_true rfl) ?_|refine zad (by repeat' constructor) ?_|refine zcv rfl ?_|refine zbd rfl rfl ?_|refine zbe rfl rfl ?_|refine zas rfl rfl rfl ?_|refine zat rfl rfl rfl ?_|refine zao rfl ?_|refine zau rfl rfl ?_|apply zab|apply zac|apply zbq|apply zae)
  exact jbh rfl (jaa _) rfl ⟨rfl,(Ch.set (.inr rfl)).trans (Ch.set (.inl rfl))⟩
 cases hup
 case true=>
  repeat' (first|refine zaa rfl ?_|refine zav rfl (by repeat first|assumption|exact jaa _|refine zzn (by omega) ?_) rfl ?_|refine zcs rfl rfl rfl (by repeat first|assumption|exact jaa _|refine zzn (by omega) ?_) (Nat.le_of_ble_eq_true rfl) ?_|refine zct rfl rfl rfl rfl (by repeat first|assumption|exact jaa _|refine zzn ‹_› ?_) (Nat.le_of_ble_eq_true rfl) ?_|refine zcw rfl (by repeat first|assumption|exact jaa _|refine zzn (by omega) ?_) (Nat.le_of_ble_eq_true rfl) ?_|refine zad (by repeat' constructor) ?_|refine zbd rfl rfl ?_|refine zbe rfl rfl ?_|refine zas rfl rfl rfl ?_|refine zao rfl ?_|refine zau rfl rfl ?_|apply zab|apply zac|apply zbq|apply zae)
  exact jbh rfl (jaa _) rfl ⟨by simp [jas],(Ch.set (.inr rfl)).trans (Ch.set (.inl rfl))⟩
 cases rst
 case true=>
  repeat' (first|refine zaa rfl ?_|refine zav rfl (by repeat first|assumption|exact jaa _|refine zzn (by omega) ?_) (by first|assumption|rfl) ?_|refine zcs rfl rfl rfl (by repeat first|assumption|exact jaa _|refine zzn (by omega) ?_) (Nat.le_of_ble_eq_true rfl) ?_|refine zct rfl rfl rfl rfl (by repeat first|assumption|exact jaa _|refine zzn ‹_› ?_) (Nat.le_of_ble_eq_true rfl) ?_|refine zcw rfl (by repeat first|assumption|exact jaa _|refine zzn (by omega) ?_) (Nat.le_of_ble_eq_true rfl) ?_|refine zad (by repeat' constructor) ?_|refine zbd rfl rfl ?_|refine zbe rfl rfl ?_|refine zas rfl rfl rfl ?_|refine zat rfl rfl rfl ?_|refine zao rfl ?_|refine zau rfl rfl ?_|apply zab|apply zac|apply zbq|apply zae)
  exact jbh rfl (jaa _) rfl ⟨by simp [jas],(Ch.set (.inr rfl)).trans (Ch.set (.inl rfl))⟩
 obtain ⟨buf,frm,inn,out,C,V⟩:=R
 have hroom:=jkE hcl (d:=d-1) (by omega) C V.fit V.small
 have e1:decide (0<((cap-q.length:Nat):Int))=decide ((q.length:Int)<cap):=by
  have:=V.fit
  by_cases h1:(q.length:Int)<cap
  ·rw [decide_eq_true h1,decide_eq_true (by omega)]
  ·rw [decide_eq_false h1,decide_eq_false (by omega)]
 clear C V hR
 repeat' (first|refine zaa rfl ?_|refine zav rfl (by repeat first|assumption|exact jaa _|refine zzn (by omega) ?_) (by first|assumption|rfl) ?_|refine zaw rfl ‹_› ?_|refine zcs rfl rfl rfl (by repeat first|assumption|exact jaa _|refine zzn (by omega) ?_) (Nat.le_of_ble_eq_true rfl) ?_|refine zct rfl rfl rfl rfl (by repeat first|assumption|exact jaa _|refine zzn ‹_› ?_) (Nat.le_of_ble_eq_true rfl) ?_|refine zcw rfl (by repeat first|assumption|exact jaa _|refine zzn (by omega) ?_) (Nat.le_of_ble_eq_true rfl) ?_|refine zad (by repeat' constructor) ?_|refine zbd rfl rfl ?_|refine zaj rfl rfl ?_|refine zas rfl rfl rfl ?_|refine zat rfl rfl rfl ?_|refine zao rfl ?_|refine zau rfl rfl ?_|apply zab|apply zac|apply zbq|apply zae)
 rw [e1]
 exact jbh rfl (jaa _) rfl ⟨by simp [jas],(Ch.set (.inr rfl)).trans (Ch.set (.inl rfl))⟩
theorem Fin.mono {res:List RV} {R R':V->H->Prop} {x:Ex} {e:Env} {h:H} (k:Fin res R x e h) (hR : ∀ v,R v h->R' v h):Fin res R' x e h:=by
 have _:=hcl
 obtain ⟨p1,l,p2,p3⟩:=k;exact ⟨p1,l,p2,hR _ p3⟩
theorem wr_in {d b4 b5 b8 b9 b10 r0 r1 bo k n t0:Nat} {g:H} {x:Wi} {wv:V} {hup:Bool} (hd:3<=d) (hk:k=0\/k=1) (g4:g.get b4=some jdq) (g5:g.get b5=some (.cells [.bool true,.i (n:Int),.i (k:Int)] false)) (g8:g.get b8=some (.cells ((x.e k).cells (two r0 r1 k)) false)) (g9:g.get b9=some (.cells ((x.e (1-k)).cells (two r0 r1 (1-k))) false))
  (g10:g.get b10=some (.cells [.bool true,.bool false,.bool false,.bool hup,.bool x.reset,.int .u64 (x.e k).inn,.int .u64 (x.e k).out] false)) (gx:g.get t0=some (x.obj r0 r1 wv)) (n1:b4≠b10) (n2:b8≠b10) (n3:b9≠b10) (n4:t0≠b10)
  (hhup:hup=((x.e (1-k)).what == 3)) (hO : ∀ q,(x.e k).ring=some q->ja0 g (two r0 r1 k) bo q x.cap) (hR:(x.e k).writes=true -> ∃ q bt,(x.e (1-k)).ring=some q/\ja0 g (two r0 r1 (1-k)) bt q x.cap/\two r0 r1 (1-k)≠b10/\bt≠b10) :
  Run (cl (d-1)) fuel c13_1 [] [(4,.p b4 0),(5,.p b5 0),(6,.p t0 0),(8,.p b8 0),(9,.p b9 0),(10,.p b10 0)] g
   (Fin c13.res fun v' h'=>v' = .agg [.bool true,.bool (x.rIn k),.bool (x.rOut k),.bool ((x.e (1-k)).what == 3),.bool x.reset,.int .u64 (x.e k).inn,.int .u64 (x.e k).out]/\Ch (fun j=>j=b4\/j=b10) g h'):=by
 refine Run.seq (Run.cut (fun y e' g'=>y = .normal/\e'=[(4,.p b4 0),(6,.p t0 0),(8,.p b8 0),(9,.p b9 0),(10,.p b10 0)] /\
  Upd b10 (.cells [.bool true,.bool (x.rIn k),.bool false,.bool hup,.bool x.reset,.int .u64 (x.e k).inn,.int .u64 (x.e k).out] false) g g') ?_ ?_)
 case refine_2=>
  rintro _ _ g' ⟨rfl,rfl,u⟩
  refine End.seq ?_
  have:=wr_out hcl (d:=d) (cap:=x.cap) (wl:=x.cells r0 r1 wv) hd (by rw [u.get _ n1,g4]) (by rw [u.get _ n2,g8]) (by rw [u.get _ n3,g9]) u.self (by rw [u.get _ n4,gx];rfl) (Wi.reset_cell rfl) n1 n2 n3 n4 fun hw=>by
   obtain ⟨q,bt,q1,q2,n6,n7⟩:=hR hw
   exact ⟨q,bt,q1,q2.keep (u.get _ n6) (u.get _ n7)⟩
  refine Run.fin_mono this fun v h' ⟨p1,p2⟩=>⟨?_,(u.ch (.inr rfl)).trans p2⟩
  rw [p1,hhup];rfl
 have hsil:=jh2 hcl (d:=d-1) (by omega) gx hk
 have hx14:=Wi.reset_cell (x:=x) (r0:=r0) (r1:=r1) (wv:=wv) (o:=0+14) rfl
 unfold Wi.obj at gx
 have hrin:x.rIn k=match (x.e k).ring with
  | none=>false
  | some q=>!q.isEmpty||x.silent k||x.reset:=by
  unfold Wi.rIn Wi.silent
  cases (x.e k).ring with
  | none=>rfl
  | some q=>simp [Bool.or_assoc]
 rw [hrin]
 clear hrin hR
 cases hring:(x.e k).ring with
 | none=>
  have c8:((x.e k).cells (two r0 r1 k))[0+2]?=some (.ptr none):=by simp [En.cells,hring,En.ptr]
  repeat' (first|refine zaa rfl ?_|refine zav rfl ‹_› ‹_› ?_|refine zcs rfl rfl rfl ‹_› (Nat.le_of_ble_eq_true rfl) ?_|refine zad (by repeat' constructor) ?_|refine zcv rfl ?_|refine zbe rfl rfl ?_|refine zat rfl rfl rfl ?_|refine zau rfl rfl ?_|apply zac)
  exact End.nil ⟨rfl,rfl,Upd.set⟩
 | some q=>
  have c8:((x.e k).cells (two r0 r1 k))[0+2]?=some (.p (two r0 r1 k) 0):=by simp [En.cells,hring,En.ptr]
  obtain ⟨buf,frm,inn,out,C,V⟩:=hO q hring
  have hlen:=jjk hcl (d:=d-1) (by omega) C
  clear C V hO
  cases q with
  | cons y q=>
   have hpos:0<(((y :: q:List UInt8).length:Nat):Int):=by simp
   have eT:decide (0<(((y :: q:List UInt8).length:Nat):Int))=true:=decide_eq_true hpos
   repeat' (first|refine zaa rfl ?_|refine zav rfl ‹_› ‹_› ?_|refine zaw rfl ‹_› ?_|refine zcs rfl rfl rfl ‹_› (Nat.le_of_ble_eq_true rfl) ?_|refine zad (by repeat' constructor) ?_|refine zbc rfl ‹_› ?_|refine zbd rfl rfl ?_|refine zbe rfl rfl ?_|refine zaj rfl rfl ?_|refine zaq rfl ‹_› rfl ?_|refine zas rfl rfl rfl ?_|refine zau rfl rfl ?_|apply zac)
   exact End.nil ⟨rfl,rfl,Upd.set⟩
  | nil=>
   have hlen:cl (d-1) (.fn F.je0) [.p (two r0 r1 k) 0] g=some (.i 0,g):=hlen
   cases hsl:x.silent k
   ·rw [hsl] at hsil
    cases hrs:x.reset
    ·rw [hrs] at hx14 g10
     repeat' (first|refine zaa rfl ?_|refine zav rfl ‹_› (by first|assumption|rfl) ?_|refine zaw rfl ‹_› ?_|refine zcs rfl rfl rfl ‹_› (Nat.le_of_ble_eq_true rfl) ?_|refine zad (by repeat' constructor) ?_|refine zbb rfl (by first|assumption|omega) ?_|refine zbd rfl rfl ?_|refine zaj rfl rfl ?_|refine zar rfl (by first|assumption|omega) rfl ?_|refine zas rfl rfl rfl ?_|refine zat rfl rfl rfl ?_|refine zau rfl rfl ?_|apply zac)
     exact End.nil ⟨rfl,rfl,Upd.set⟩
    ·rw [hrs] at hx14 g10
     repeat' (first|refine zaa rfl ?_|refine zav rfl ‹_› (by first|assumption|rfl) ?_|refine zaw rfl ‹_› ?_|refine zcs rfl rfl rfl ‹_› (Nat.le_of_ble_eq_true rfl) ?_|refine zad (by repeat' constructor) ?_|refine zbb rfl (by first|assumption|omega) ?_|refine zbd rfl rfl ?_|refine zaj rfl rfl ?_|refine zar rfl (by first|assumption|omega) rfl ?_|refine zas rfl rfl rfl ?_|refine zat rfl rfl rfl ?_|refine zau rfl rfl ?_|apply zac)
     exact End.nil ⟨rfl,rfl,Upd.set⟩
   ·rw [hsl] at hsil
    repeat' (first|refine zaa rfl ?_|refine zav rfl ‹_› (by first|assumption|rfl) ?_|refine zaw rfl ‹_› ?_|refine zcs rfl rfl rfl ‹_› (Nat.le_of_ble_eq_true rfl) ?_|refine zad (by repeat' constructor) ?_|refine zbb rfl (by first|assumption|omega) ?_|refine zbd rfl rfl ?_|refine zbe rfl rfl ?_|refine zaj rfl rfl ?_|refine zar rfl (by first|assumption|omega) rfl ?_|refine zas rfl rfl rfl ?_|refine zau rfl rfl ?_|apply zac)
    exact End.nil ⟨rfl,rfl,Upd.set⟩
end
end Am.Sigs
namespace Am.Sigs
open Am Go
theorem Wi.en_cells {x:Wi} {r0 r1 k o:Nat} {wv:V} (hk:k=0\/k=1) (ho:o=k*7):((x.cells r0 r1 wv).drop o).take 7=(x.e k).cells (two r0 r1 k):=by
 subst ho
 rcases hk with rfl | rfl<;>rfl
theorem En.cells_one (x:En) (r:Nat):(x.cells r).all V.one=true:=by
 obtain ⟨w,f,q,wr,s,i,o⟩:=x
 cases q<;>rfl
theorem chk_loadN {e:Env} {h:H} {d n:Nat} {a:Opd} {g:Option (Nat × Bool)} {r:List (Nat × I × Option (Nat × Bool))} {b o:Nat} {l:List V} {ro:Bool} {v:List V} (ha:a.ev e=some (.ptr (some (b,o)))) (hb:h.get b=some (.cells l ro)) (hn:o+n<=l.length)
  (hv:(l.drop o).take n=v) (hd:e.get d=some (.agg v)) (k:jaP e h r=true):jaP e h ((d,.loadN n a,g) :: r)=true:=by
 simp only [jaP,I.read,ha,jcI hb hn,hv,hd,V.same_refl,k,Bool.and_true]
 cases wanted e g<;>rfl
section
variable {cl:Nat->Call} (hcl:Sem cl)
include hcl
end
end Am.Sigs
