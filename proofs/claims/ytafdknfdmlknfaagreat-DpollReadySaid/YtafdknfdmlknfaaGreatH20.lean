/- Our own library, part 20. -/
import Derived.Test.YtafdknfdmlknfaaGreatH19
import Derived.Test.YtafdknfdmlknfaaGreatH18
import Derived.Test.YtafdknfdmlknfaaGreatH16
import Derived.Test.YtafdknfdmlknfaaGreatH15
import Derived.Test.YtafdknfdmlknfaaGreatH11
set_option maxHeartbeats 8000000
set_option maxRecDepth 800
set_option linter.all false
namespace Am.Sigs
open Am Go
section
variable {cl:Nat->Call} (hcl:Sem cl) {h:H} {p w s rw:Nat} {ow:Nat->Nat} {ro dat:Nat->Prop} {st sr:St} {a n t:Int} {dv vd:V} {D:List UInt8}
include hcl
theorem emo_15 {d i:Nat} (hd:15<=d) (b:BB h p w s rw ow ro dat st sr) (so:StOk st i) (sq:StOk sr i) (hi:i<=900000) (hD:Dat h dat dv D) (hC:Cpy h p ow ro dat vd D) (t0:0<=t) (t1:t<=18446744073709551615) :
  jcp cl d 39 h p w s rw ow ro dat [.p p 0,.agg (opV 15 a n t dv),vd] (doS 15 a n t D st) (doS 15 a n t D sr):=by
 have o0:Old h (h.new (.cells (opV 15 a n t dv) false)):=(ZD h).new
 have b0:=b.old o0
 have f0:=Fm.old (ow:=ow) (ro:=ro) o0
 have hD0:=hD.keep b f0
 have hC0:=hC.keep f0
 have hl300:=hD.len
 have g0:(h.new (.cells (opV 15 a n t dv) false)).get h.nx=some (.cells (opV 15 a n t dv) false):=jad _
 have x0:h.nx<(h.new (.cells (opV 15 a n t dv) false)).nx:=by simp
 have z0:ow h.nx=0:=b.W.top (zr _)
 have hp0:=b0.hp
 have lp:=b.lp
 have hok:st.tb.ok 1000000:=so.tb.mono om
 have hoq:sr.tb.ok 1000000:=sq.tb.mono om
 have hS:doS 15 a n t D st = { st with now:=jdJ st.now t } := by simp [doS]
 have hS2:doS 15 a n t D sr = { sr with now:=jdJ sr.now t } := by simp [doS]
 rw [hS,hS2]
 obtain ⟨h1,e1,W1,tt1⟩:=jnn hcl (d:=d-1) om b0.W so.now.1 so.now.2 t0 t1
 have b1:=b0.wc (a' := { st with now:=jdJ st.now t }) W1 tt1
 have g1:=b0.off_w tt1 x0 z0 g0
 have hp1:=b1.hp
 obtain ⟨v,h2,e2,b2,f2,rfl⟩:=b1.rc hcl (d:=d-1) (f:=83) (args:=[.p rw 0,.int .u64 t]) (r' := { sr with now:=jdJ sr.now t }) (P:=fun _ v=>v = .tup []) (fun _ _ _ _ h=>h) (fun g q l ga gn hq wR hl=>by
  have oR:WsOk (l.map RX.x):=by rw [hl];exact sq.K.ok
  obtain ⟨g',k1,k2,k4⟩:=rq_Pass hcl (d:=d-1) om wR sq.now.1 sq.now.2 t0 t1
  skip
  exact ⟨_,q,l,g',k1,k2,hl,k4,.inl rfl,rfl⟩)
 clear so sq hD hC hD0 hC0 hok hoq hl300 hS hS2
 refine jcp.mk b2 (Fm.two o0 tt1 f2) (aT hcl ?_)
 refine qm ?_
 all_goals exact ⟨⟨_,rfl⟩,rfl⟩
theorem emo_16 {d i:Nat} (hd:15<=d) (b:BB h p w s rw ow ro dat st sr) (so:StOk st i) (sq:StOk sr i) (hi:i<=900000) (hD:Dat h dat dv D) (hC:Cpy h p ow ro dat vd D) :
  jcp cl d 39 h p w s rw ow ro dat [.p p 0,.agg (opV 16 a n t dv),vd] (doS 16 a n t D st) (doS 16 a n t D sr):=by
 have o0:Old h (h.new (.cells (opV 16 a n t dv) false)):=(ZD h).new
 have b0:=b.old o0
 have f0:=Fm.old (ow:=ow) (ro:=ro) o0
 have hD0:=hD.keep b f0
 have hC0:=hC.keep f0
 have hl300:=hD.len
 have g0:(h.new (.cells (opV 16 a n t dv) false)).get h.nx=some (.cells (opV 16 a n t dv) false):=jad _
 have x0:h.nx<(h.new (.cells (opV 16 a n t dv) false)).nx:=by simp
 have z0:ow h.nx=0:=b.W.top (zr _)
 have hp0:=b0.hp
 have lp:=b.lp
 have hok:st.tb.ok 1000000:=so.tb.mono om
 have hoq:sr.tb.ok 1000000:=sq.tb.mono om
 have hS:doS 16 a n t D st = { st with ws:=jao st.ws ((st.tb.handle a (decide (0<n))).sum 32) (noI st.no) (siI st.no),tb:=st.tb.handle a (decide (0<n)) } := by simp [doS]
 have hS2:doS 16 a n t D sr = { sr with ws:=jao sr.ws ((sr.tb.handle a (decide (0<n))).sum 32) (noI sr.no) (siI sr.no),tb:=sr.tb.handle a (decide (0<n)) } := by simp [doS]
 rw [hS,hS2]
 obtain ⟨h1,e1,W1,t1⟩:=ww_Handle hcl (d:=d-1) (sg:=a) (on:=decide (0<n)) om b0.W so.nt (jkm hok om _ _)
 have b1:=b0.wc (a' := { st with ws:=jao st.ws ((st.tb.handle a (decide (0<n))).sum 32) (noI st.no) (siI st.no),tb:=st.tb.handle a (decide (0<n)) }) W1 t1
 have g1:=b0.off_w t1 x0 z0 g0
 have hp1:=b1.hp
 obtain ⟨v,h2,e2,b2,f2,rfl⟩:=b1.rc hcl (d:=d-1) (f:=85) (args:=[.p rw 0,.i a,.bool (decide (0<n))]) (r' := { sr with ws:=jao sr.ws ((sr.tb.handle a (decide (0<n))).sum 32) (noI sr.no) (siI sr.no),tb:=sr.tb.handle a (decide (0<n)) }) (P:=fun _ v=>v = .i (if sig? a then 0 else 100)) (fun _ _ _ _ h=>h) (fun g q l ga gn hq wR hl=>by
  have oR:WsOk (l.map RX.x):=by rw [hl];exact sq.K.ok
  obtain ⟨l',g',k1,k2,k3,k4⟩:=rq_Handle hcl (d:=d-1) (s:=a) (on:=decide (0<n)) om wR oR (by rw [hl];exact sq.nt) hoq
  rw [hl,<- jh7,<- jou] at k3
  rw [<- jh7,<- handle_hd] at k2
  exact ⟨_,q,l',g',k1,k2,k3,k4,.inl rfl,rfl⟩)
 clear so sq hD hC hD0 hC0 hok hoq hl300 hS hS2
 refine jcp.mk b2 (Fm.two o0 t1 f2) (aT hcl ?_)
 refine qm ?_
 all_goals exact ⟨⟨_,rfl⟩,rfl⟩
theorem emo_17 {d i:Nat} (hd:15<=d) (b:BB h p w s rw ow ro dat st sr) (so:StOk st i) (sq:StOk sr i) (hi:i<=900000) (hD:Dat h dat dv D) (hC:Cpy h p ow ro dat vd D) :
  jcp cl d 39 h p w s rw ow ro dat [.p p 0,.agg (opV 17 a n t dv),vd] (doS 17 a n t D st) (doS 17 a n t D sr):=by
 have o0:Old h (h.new (.cells (opV 17 a n t dv) false)):=(ZD h).new
 have b0:=b.old o0
 have f0:=Fm.old (ow:=ow) (ro:=ro) o0
 have hD0:=hD.keep b f0
 have hC0:=hC.keep f0
 have hl300:=hD.len
 have g0:(h.new (.cells (opV 17 a n t dv) false)).get h.nx=some (.cells (opV 17 a n t dv) false):=jad _
 have x0:h.nx<(h.new (.cells (opV 17 a n t dv) false)).nx:=by simp
 have z0:ow h.nx=0:=b.W.top (zr _)
 have hp0:=b0.hp
 have lp:=b.lp
 have hok:st.tb.ok 1000000:=so.tb.mono om
 have hoq:sr.tb.ok 1000000:=sq.tb.mono om
 have hS:doS 17 a n t D st = { st with ws:=jao st.ws ((st.tb.raise a).sum 32) (noI st.no) (siI st.no),tb:=st.tb.raise a } := by simp [doS]
 have hS2:doS 17 a n t D sr = { sr with ws:=jao sr.ws ((sr.tb.raise a).sum 32) (noI sr.no) (siI sr.no),tb:=sr.tb.raise a } := by simp [doS]
 rw [hS,hS2]
 obtain ⟨h1,e1,W1,t1⟩:=jlz hcl (d:=d-1) (sg:=a) om b0.W so.nt hok (Tb.ok.mono (jiU so.tb a) om)
 have b1:=b0.wc (a' := { st with ws:=jao st.ws ((st.tb.raise a).sum 32) (noI st.no) (siI st.no),tb:=st.tb.raise a }) W1 t1
 have g1:=b0.off_w t1 x0 z0 g0
 have hp1:=b1.hp
 obtain ⟨v,h2,e2,b2,f2,rfl⟩:=b1.rc hcl (d:=d-1) (f:=87) (args:=[.p rw 0,.i a]) (r' := { sr with ws:=jao sr.ws ((sr.tb.raise a).sum 32) (noI sr.no) (siI sr.no),tb:=sr.tb.raise a }) (P:=fun _ v=>v = .i (if sig? a then 0 else 100)) (fun _ _ _ _ h=>h) (fun g q l ga gn hq wR hl=>by
  have oR:WsOk (l.map RX.x):=by rw [hl];exact sq.K.ok
  obtain ⟨l',g',k1,k2,k3,k4⟩:=rq_Raise hcl (d:=d-1) (s:=a) om wR oR (by rw [hl];exact sq.nt) (sq.tb.mono om)
  rw [hl,<- jiT,<- jou] at k3
  rw [<- jiT,<- raise_hd sr.tb a] at k2
  exact ⟨_,q,l',g',k1,k2,k3,k4,.inl rfl,rfl⟩)
 clear so sq hD hC hD0 hC0 hok hoq hl300 hS hS2
 refine jcp.mk b2 (Fm.two o0 t1 f2) (aT hcl ?_)
 refine qm ?_
 all_goals exact ⟨⟨_,rfl⟩,rfl⟩
theorem emo_19 {d i:Nat} (hd:15<=d) (b:BB h p w s rw ow ro dat st sr) (so:StOk st i) (sq:StOk sr i) (hi:i<=900000) (hD:Dat h dat dv D) (hC:Cpy h p ow ro dat vd D) :
  jcp cl d 39 h p w s rw ow ro dat [.p p 0,.agg (opV 19 a n t dv),vd] (doS 19 a n t D st) (doS 19 a n t D sr):=by
 have o0:Old h (h.new (.cells (opV 19 a n t dv) false)):=(ZD h).new
 have b0:=b.old o0
 have f0:=Fm.old (ow:=ow) (ro:=ro) o0
 have hD0:=hD.keep b f0
 have hC0:=hC.keep f0
 have hl300:=hD.len
 have g0:(h.new (.cells (opV 19 a n t dv) false)).get h.nx=some (.cells (opV 19 a n t dv) false):=jad _
 have x0:h.nx<(h.new (.cells (opV 19 a n t dv) false)).nx:=by simp
 have z0:ow h.nx=0:=b.W.top (zr _)
 have hp0:=b0.hp
 have lp:=b.lp
 have hok:st.tb.ok 1000000:=so.tb.mono om
 have hoq:sr.tb.ok 1000000:=sq.tb.mono om
 have hS:doS 19 a n t D st = { st with ws:=ntW st.ws (st.tb.sum 32) a n,no:=noT st.ws a n st.no } := by simp [doS]
 have hS2:doS 19 a n t D sr = { sr with ws:=ntW sr.ws (sr.tb.sum 32) a n,no:=noT sr.ws a n sr.no } := by simp [doS]
 rw [hS,hS2]
 obtain ⟨h1,e1,W1,t1⟩:=ww_Notice hcl (d:=d-1) (x:=a) (y:=n) om b0.W so.K.ok hok
 have b1:=b0.wc (a' := { st with ws:=ntW st.ws (st.tb.sum 32) a n,no:=noT st.ws a n st.no }) W1 t1
 have g1:=b0.off_w t1 x0 z0 g0
 have hp1:=b1.hp
 obtain ⟨v,h2,e2,b2,f2,rfl⟩:=b1.rc hcl (d:=d-1) (f:=90) (args:=[.p rw 0,.i a,.i n]) (r' := { sr with ws:=ntW sr.ws (sr.tb.sum 32) a n,no:=noT sr.ws a n sr.no }) (P:=fun _ v=>v = .i (ntS sr.ws a n).1) (fun _ _ _ _ h=>h) (fun g q l ga gn hq wR hl=>by
  have oR:WsOk (l.map RX.x):=by rw [hl];exact sq.K.ok
  obtain ⟨l',g',k1,k2,k3,k4⟩:=jjC hcl (d:=d-1) (a:=a) (b:=n) om wR oR hoq
  rw [hl] at k1
  rw [hl,<- jou] at k3
  rw [hl,<- joI,<- joH] at k2
  exact ⟨_,q,l',g',k1,k2,k3,k4,.inl rfl,rfl⟩)
 clear so sq hD hC hD0 hC0 hok hoq hl300 hS hS2
 refine jcp.mk b2 (Fm.two o0 t1 f2) (aT hcl ?_)
 refine qm ?_
 all_goals exact ⟨⟨_,rfl⟩,rfl⟩
end
section
variable {cl:Nat->Call} (hcl:Sem cl) {h:H} {p w s rw:Nat} {ow:Nat->Nat} {ro dat:Nat->Prop} {st sr:St} {a n t:Int} {dv vd:V} {D:List UInt8}
include hcl
theorem emo_10 {d i:Nat} (hd:15<=d) (b:BB h p w s rw ow ro dat st sr) (so:StOk st i) (sq:StOk sr i) (hi:i<=900000) (hD:Dat h dat dv D) (hC:Cpy h p ow ro dat vd D) :
  jcp cl d 39 h p w s rw ow ro dat [.p p 0,.agg (opV 10 a n t dv),vd] (doS 10 a n t D st) (doS 10 a n t D sr):=by
 have o0:Old h (h.new (.cells (opV 10 a n t dv) false)):=(ZD h).new
 have b0:=b.old o0
 have g0:(h.new (.cells (opV 10 a n t dv) false)).get h.nx=some (.cells (opV 10 a n t dv) false):=jad _
 have x0:h.nx<(h.new (.cells (opV 10 a n t dv) false)).nx:=by simp
 have z0:ow h.nx=0:=b.W.top (zr _)
 have hp0:=b0.hp
 have lp:=b.lp
 have hS:doS 10 a n t D st = { st with ws:=(jcb st.ws a n).2 } := by simp [doS]
 have hS2:doS 10 a n t D sr = { sr with ws:=(jcb sr.ws a n).2 } := by simp [doS]
 rw [hS,hS2]
 obtain ⟨v1,h1,e1,vb1,vz1,W1,t1⟩:=jnm hcl (d:=d-1) (n:=a) (many:=n) om b0.W so.K.ok
 have b1:=b0.wc (a' := { st with ws:=(jcb st.ws a n).2 }) W1 t1
 have g1:=b0.off_w t1 x0 z0 g0
 have hp1:=b1.hp
 obtain ⟨v,h2,e2,b2,f2,hP⟩:=b1.rc hcl (d:=d-1) (f:=73) (args:=[.p rw 0,.i a,.i n]) (r' := { sr with ws:=(jcb sr.ws a n).2 })
  (P:=fun g v=>∃ v2,v = .tup [v2,.i (jcb sr.ws a n).1.2]/\VB g v2 (jcb sr.ws a n).1.1) (fun _ _ _ m ⟨v2,e,hv⟩=>⟨v2,e,hv.mono m⟩) (fun g q l ga gn hq wR hl=>by
  have oR:WsOk (l.map RX.x):=by rw [hl];exact sq.K.ok
  obtain ⟨v2,l',g',k1,k0,k2,k3,k4⟩:=rq_Take hcl (d:=d-1) (n:=a) (many:=n) om wR oR
  rw [hl] at k0 k1 k3
  exact ⟨_,q,l',g',k1,k2,k3,k4,.inl rfl,v2,rfl,k0⟩)
 have vb2:VB h2 v1 (jcb st.ws a n).1.1:=vb1.keep2 f2.ch.nx fun hl z hz=>f2.ch.get z (vb1.lt hl hz) fun e=>e.elim (fun e=>e (b0.W.top (vz1 z hz))) fun e=>by
  have:=b0.ro_lt (.inl e)
  have:=vz1 z hz
  omega
 obtain ⟨a1,c1,rfl,B1⟩:=vb2
 obtain ⟨v2,rfl,a2,c2,rfl,B2⟩:=hP
 clear so sq hD hC hS
 refine jcp.mk b2 (Fm.two o0 t1 f2) (aT hcl ?_)
 refine qm ?_
 refine Ops.ofBytesAt rfl B1 (zr _) ?_
 refine qm ?_
 refine Ops.ofBytesAt rfl B2 (zr _) ?_
 repeat' (first|refine qmy ?_|(refine zsp ?_ ?_<;>intro _)|fail)
 all_goals exact ⟨⟨_,rfl⟩,rfl⟩
theorem emo_20 {d i:Nat} (hd:15<=d) (b:BB h p w s rw ow ro dat st sr) (so:StOk st i) (sq:StOk sr i) :
  jcp cl d 39 h p w s rw ow ro dat [.p p 0,.agg (opV 20 a n t dv),vd] (doS 20 a n t D st) (doS 20 a n t D sr):=by
 have o0:Old h (h.new (.cells (opV 20 a n t dv) false)):=(ZD h).new
 have b0:=b.old o0
 have g0:(h.new (.cells (opV 20 a n t dv) false)).get h.nx=some (.cells (opV 20 a n t dv) false):=jad _
 have x0:h.nx<(h.new (.cells (opV 20 a n t dv) false)).nx:=by simp
 have hp0:=b0.hp
 have lp:=b.lp
 have hS:doS 20 a n t D st=st:=by simp [doS]
 have hS2:doS 20 a n t D sr=sr:=by simp [doS]
 rw [hS,hS2]
 obtain ⟨h1,e1,o1⟩:=jnl hcl (d:=d-1) (fd:=a) om b0.W so.K.ok
 have b1:=b0.old o1
 have g1:h1.get h.nx=some (.cells (opV 20 a n t dv) false):=by rw [o1.2 _ x0,g0]
 have hp1:=b1.hp
 obtain ⟨v,h2,e2,b2,f2,rfl⟩:=b1.rc hcl (d:=d-1) (f:=92) (args:=[.p rw 0,.i a]) (r':=sr)
  (P:=fun _ v=>v = .tup [.i (jfo sr.ws a).1,.i (jfo sr.ws a).2]) (fun _ _ _ _ h=>h) (fun g q l ga gn hq wR hl=>by
  have oR:WsOk (l.map RX.x):=by rw [hl];exact sq.K.ok
  have k1:=rq_Wire hcl (d:=d-1) (fd:=a) om wR oR
  rw [hl] at k1
  exact ⟨_,q,l,g,k1,wR,hl,Zy _ _,.inl rfl,rfl⟩)
 clear so sq hS
 refine jcp.mk b2 ((Fm.old (o0.trans o1)).trans f2) (aT hcl ?_)
 repeat' (first|refine qmy ?_|(refine zsp ?_ ?_<;>intro _)|fail)
 all_goals exact ⟨⟨_,rfl⟩,rfl⟩
theorem emo_no {d:Nat} {k:Int} (hd:15<=d) (b:BB h p w s rw ow ro dat st sr) (hk:k<0\/20<k) :
  jcp cl d 39 h p w s rw ow ro dat [.p p 0,.agg (opV k a n t dv),vd] (doS k a n t D st) (doS k a n t D sr):=by
 have o0:Old h (h.new (.cells (opV k a n t dv) false)):=(ZD h).new
 have b0:=b.old o0
 have hS : ∀ st,doS k a n t D st=st:=fun st=>by
  unfold doS
  rw [zF om,zF om,zF om,zF om,zF om,zF om,zF om,zF om,zF om,zF om,zF om,zF om,zF om,zF om,zF om,zF om,zF om]
 rw [hS,hS]
 have n9 : ¬ k=9:=by omega
 have n10 : ¬ k=10:=by omega
 have n11 : ¬ k=11:=by omega
 have n12 : ¬ k=12:=by omega
 have n13 : ¬ k=13:=by omega
 have n14 : ¬ k=14:=by omega
 have n15 : ¬ k=15:=by omega
 have n16 : ¬ k=16:=by omega
 have n17 : ¬ k=17:=by omega
 have n18 : ¬ k=18:=by omega
 have n19 : ¬ k=19:=by omega
 have n20 : ¬ k=20:=by omega
 clear hS hk
 refine jcp.mk b0 (Fm.old o0) (aT hcl ?_)
 refine qm ?_
 all_goals exact ⟨⟨_,rfl⟩,rfl⟩
end
section
variable {cl:Nat->Call} (hcl:Sem cl) {h:H} {p w s rw:Nat} {ow:Nat->Nat} {ro dat:Nat->Prop} {st sr:St} {a n t:Int} {dv vd:V} {D:List UInt8}
include hcl
theorem esw_4 {d i B:Nat} (hd:16<=d) (b:BB h p w s rw ow ro dat st sr) (so:StOk st i) (sq:StOk sr i) (hi:i<=900000) (hD:Dat h dat dv D) (hC:Cpy h p ow ro dat vd D) (lB:B<h.nx) (zB:ow B=0) (rB : ¬ ro B) (gB:h.get B=some (.cells (opV 4 a n t dv) false)) :
  Run (cl (d-1)) fuel c9_27 [] [(0,.p p 0),(3,.p B 0),(5,vd),(36,.i 4)] h (PE h p w s rw ow ro dat vd (doS 4 a n t D st) (doS 4 a n t D sr)):=by
 have hp0:=b.hp
 have lp:=b.lp
 have hl300:=hD.len
 have hS:doS 4 a n t D st = { st with ws:=(jaz st.ws a).2 } := by simp [doS]
 have hS2:doS 4 a n t D sr = { sr with ws:=(jaz sr.ws a).2 } := by simp [doS]
 rw [hS,hS2]
 obtain ⟨h1,e1,W1,t1⟩:=ww_Accept hcl (d:=d-1) (fd:=a) om so.K b.W
 have b1:=b.wc (a' := { st with ws:=(jaz st.ws a).2 }) W1 t1
 have g1:=b.off_w t1 lB zB gB
 have hp1:=b1.hp
 obtain ⟨v,h2,e2,b2,f2,rfl⟩:=b1.rc hcl (d:=d-1) (f:=30) (args:=[.p rw 0,.i a]) (r' := { sr with ws:=(jaz sr.ws a).2 }) (P:=fun _ v=>v = .tup [.i (jaz sr.ws a).1.1,.i (jaz sr.ws a).1.2.1,.i (jaz sr.ws a).1.2.2]) (fun _ _ _ _ h=>h) (fun g q l ga gn hq wR hl=>by
  have oR:WsOk (l.map RX.x):=by rw [hl];exact sq.K.ok
  obtain ⟨l',g',k1,k2,k3,k4⟩:=rq_Accept hcl (d:=d-1) (fd:=a) om wR oR
  rw [hl] at k1 k3
  exact ⟨_,q,l',g',k1,k2,k3,k4,.inl rfl,rfl⟩)
 have fF:=(Fm.to (ro:=ro) t1).trans f2
 clear so sq hD hC hl300 hS hS2
 repeat' (first|refine qmy ?_|(refine zsp ?_ ?_<;>intro _)|fail)
 all_goals exact PE.mk' b2 fF
theorem esw_6 {d i B:Nat} (hd:16<=d) (b:BB h p w s rw ow ro dat st sr) (so:StOk st i) (sq:StOk sr i) (hi:i<=900000) (hD:Dat h dat dv D) (hC:Cpy h p ow ro dat vd D) (lB:B<h.nx) (zB:ow B=0) (rB : ¬ ro B) (gB:h.get B=some (.cells (opV 6 a n t dv) false)) :
  Run (cl (d-1)) fuel c9_27 [] [(0,.p p 0),(3,.p B 0),(5,vd),(36,.i 6)] h (PE h p w s rw ow ro dat vd (doS 6 a n t D st) (doS 6 a n t D sr)):=by
 have hp0:=b.hp
 have lp:=b.lp
 have hl300:=hD.len
 have hS:doS 6 a n t D st = { st with ws:=(jb8 st.ws a D).2 } := by simp [doS]
 have hS2:doS 6 a n t D sr = { sr with ws:=(jb8 sr.ws a D).2 } := by simp [doS]
 rw [hS,hS2]
 obtain ⟨h1,e1,W1,t1⟩:=ww_Write hcl (d:=d-1) (fd:=a) om b.W so.K.ok hC.v om (fun z hz=>(hC.z z hz).2.1)
 have b1:=b.wc (a' := { st with ws:=(jb8 st.ws a D).2 }) W1 t1
 have g1:=b.off_w t1 lB zB gB
 have hp1:=b1.hp
 obtain ⟨v,h2,e2,b2,f2,rfl⟩:=b1.rc hcl (d:=d-1) (f:=34) (args:=[.p rw 0,.i a,dv]) (r' := { sr with ws:=(jb8 sr.ws a D).2 }) (P:=fun _ v=>v = .tup [.i (jb8 sr.ws a D).1.1,.i (jb8 sr.ws a D).1.2]) (fun _ _ _ _ h=>h) (fun g q l ga gn hq wR hl=>by
  have oR:WsOk (l.map RX.x):=by rw [hl];exact sq.K.ok
  obtain ⟨q1,q2⟩:=(hD.keep b (Fm.to t1)).in_ b1 ga gn hq
  obtain ⟨l',g',k1,k2,k3,k4⟩:=rq_Write hcl (d:=d-1) (fd:=a) om wR oR q1 om q2
  rw [hl] at k1 k3
  exact ⟨_,q,l',g',k1,k2,k3,k4,.inl rfl,rfl⟩)
 have fF:=(Fm.to (ro:=ro) t1).trans f2
 clear so sq hD hC hl300 hS hS2
 repeat' (first|refine qmy ?_|(refine zsp ?_ ?_<;>intro _)|fail)
 all_goals exact PE.mk' b2 fF
theorem esw_7 {d i B:Nat} (hd:16<=d) (b:BB h p w s rw ow ro dat st sr) (so:StOk st i) (sq:StOk sr i) (hi:i<=900000) (hD:Dat h dat dv D) (hC:Cpy h p ow ro dat vd D) (lB:B<h.nx) (zB:ow B=0) (rB : ¬ ro B) (gB:h.get B=some (.cells (opV 7 a n t dv) false)) :
  Run (cl (d-1)) fuel c9_27 [] [(0,.p p 0),(3,.p B 0),(5,vd),(36,.i 7)] h (PE h p w s rw ow ro dat vd (doS 7 a n t D st) (doS 7 a n t D sr)):=by
 have hp0:=b.hp
 have lp:=b.lp
 have hl300:=hD.len
 have hS:doS 7 a n t D st = { st with ws:=(jd5 st.ws a).2 } := by simp [doS]
 have hS2:doS 7 a n t D sr = { sr with ws:=(jd5 sr.ws a).2 } := by simp [doS]
 rw [hS,hS2]
 obtain ⟨h1,e1,W1,t1⟩:=ww_Shut hcl (d:=d-1) (fd:=a) om b.W so.K.ok
 have b1:=b.wc (a' := { st with ws:=(jd5 st.ws a).2 }) W1 t1
 have g1:=b.off_w t1 lB zB gB
 have hp1:=b1.hp
 obtain ⟨v,h2,e2,b2,f2,rfl⟩:=b1.rc hcl (d:=d-1) (f:=36) (args:=[.p rw 0,.i a]) (r' := { sr with ws:=(jd5 sr.ws a).2 }) (P:=fun _ v=>v = .i (jd5 sr.ws a).1) (fun _ _ _ _ h=>h) (fun g q l ga gn hq wR hl=>by
  have oR:WsOk (l.map RX.x):=by rw [hl];exact sq.K.ok
  obtain ⟨l',g',k1,k2,k3,k4⟩:=rq_Shut hcl (d:=d-1) (fd:=a) om wR oR
  rw [hl] at k1 k3
  exact ⟨_,q,l',g',k1,k2,k3,k4,.inl rfl,rfl⟩)
 have fF:=(Fm.to (ro:=ro) t1).trans f2
 clear so sq hD hC hl300 hS hS2
 refine qm ?_
 all_goals exact PE.mk' b2 fF
theorem esw_8 {d i B:Nat} (hd:16<=d) (b:BB h p w s rw ow ro dat st sr) (so:StOk st i) (sq:StOk sr i) (hi:i<=900000) (hD:Dat h dat dv D) (hC:Cpy h p ow ro dat vd D) (lB:B<h.nx) (zB:ow B=0) (rB : ¬ ro B) (gB:h.get B=some (.cells (opV 8 a n t dv) false)) :
  Run (cl (d-1)) fuel c9_27 [] [(0,.p p 0),(3,.p B 0),(5,vd),(36,.i 8)] h (PE h p w s rw ow ro dat vd (doS 8 a n t D st) (doS 8 a n t D sr)):=by
 have hp0:=b.hp
 have lp:=b.lp
 have hl300:=hD.len
 have hS:doS 8 a n t D st = { st with ws:=(jca st.ws a).2 } := by simp [doS]
 have hS2:doS 8 a n t D sr = { sr with ws:=(jca sr.ws a).2 } := by simp [doS]
 rw [hS,hS2]
 obtain ⟨h1,e1,W1,t1⟩:=ww_Close hcl (d:=d-1) (fd:=a) om b.W so.K.ok
 have b1:=b.wc (a' := { st with ws:=(jca st.ws a).2 }) W1 t1
 have g1:=b.off_w t1 lB zB gB
 have hp1:=b1.hp
 obtain ⟨v,h2,e2,b2,f2,rfl⟩:=b1.rc hcl (d:=d-1) (f:=38) (args:=[.p rw 0,.i a]) (r' := { sr with ws:=(jca sr.ws a).2 }) (P:=fun _ v=>v = .i (jca sr.ws a).1) (fun _ _ _ _ h=>h) (fun g q l ga gn hq wR hl=>by
  have oR:WsOk (l.map RX.x):=by rw [hl];exact sq.K.ok
  obtain ⟨l',g',k1,k2,k3,k4⟩:=rq_Close hcl (d:=d-1) (fd:=a) om wR oR
  rw [hl] at k1 k3
  exact ⟨_,q,l',g',k1,k2,k3,k4,.inl rfl,rfl⟩)
 have fF:=(Fm.to (ro:=ro) t1).trans f2
 clear so sq hD hC hl300 hS hS2
 refine qm ?_
 all_goals exact PE.mk' b2 fF
theorem esw_5 {d i B:Nat} (hd:16<=d) (b:BB h p w s rw ow ro dat st sr) (so:StOk st i) (sq:StOk sr i) (hi:i<=900000) (hD:Dat h dat dv D) (hC:Cpy h p ow ro dat vd D) (lB:B<h.nx) (zB:ow B=0) (rB : ¬ ro B) (gB:h.get B=some (.cells (opV 5 a n t dv) false)) :
  Run (cl (d-1)) fuel c9_27 [] [(0,.p p 0),(3,.p B 0),(5,vd),(36,.i 5)] h (PE h p w s rw ow ro dat vd (doS 5 a n t D st) (doS 5 a n t D sr)):=by
 have hp0:=b.hp
 have lp:=b.lp
 have hl300:=hD.len
 have hS:doS 5 a n t D st = { st with ws:=(jbU st.ws a n).2 } := by simp [doS]
 have hS2:doS 5 a n t D sr = { sr with ws:=(jbU sr.ws a n).2 } := by simp [doS]
 rw [hS,hS2]
 obtain ⟨v1,h1,e1,vb1,vz1,W1,t1⟩:=ww_Read hcl (d:=d-1) (fd:=a) (many:=n) om b.W so.K.ok
 have b1:=b.wc (a' := { st with ws:=(jbU st.ws a n).2 }) W1 t1
 have g1:=b.off_w t1 lB zB gB
 have hp1:=b1.hp
 obtain ⟨v,h2,e2,b2,f2,hP⟩:=b1.rc hcl (d:=d-1) (f:=32) (args:=[.p rw 0,.i a,.i n]) (r' := { sr with ws:=(jbU sr.ws a n).2 })
  (P:=fun g v=>∃ v2,v = .tup [v2,.bool (jbU sr.ws a n).1.2.1,.i (jbU sr.ws a n).1.2.2]/\VB g v2 (jbU sr.ws a n).1.1) (fun _ _ _ m ⟨v2,e,hv⟩=>⟨v2,e,hv.mono m⟩) (fun g q l ga gn hq wR hl=>by
  have oR:WsOk (l.map RX.x):=by rw [hl];exact sq.K.ok
  obtain ⟨v2,l',g',k1,k0,k2,k3,k4⟩:=rq_Read hcl (d:=d-1) (fd:=a) (many:=n) om wR oR
  rw [hl] at k0 k1 k3
  exact ⟨_,q,l',g',k1,k2,k3,k4,.inl rfl,v2,rfl,k0⟩)
 have vb2:VB h2 v1 (jbU st.ws a n).1.1:=vb1.keep2 f2.ch.nx fun hl z hz=>f2.ch.get z (vb1.lt hl hz) fun e=>e.elim (fun e=>e (b.W.top (vz1 z hz))) fun e=>by
  have:=b.ro_lt (.inl e)
  have:=vz1 z hz
  omega
 obtain ⟨a1,c1,rfl,B1⟩:=vb2
 obtain ⟨v2,rfl,a2,c2,rfl,B2⟩:=hP
 have fF:=(Fm.to (ro:=ro) t1).trans f2
 generalize (jbU st.ws a n).1.2.1=bb at e1
 generalize (jbU sr.ws a n).1.2.1=bq at e2
 clear so sq hD hC hl300 hS hS2
 cases bb<;>cases bq
 all_goals
  repeat' (first|refine qmy ?_|(refine zsp ?_ ?_<;>intro _)|fail)
  refine Ops.ofBytesAt rfl B1 (zr _) ?_
  repeat' (first|refine qmy ?_|(refine zsp ?_ ?_<;>intro _)|fail)
  refine Ops.ofBytesAt rfl B2 (zr _) ?_
  repeat' (first|refine qmy ?_|(refine zsp ?_ ?_<;>intro _)|fail)
  all_goals exact PE.mk' b2 fF
end
section
variable {cl:Nat->Call} (hcl:Sem cl) {h:H} {p w s rw:Nat} {ow:Nat->Nat} {ro dat:Nat->Prop} {st sr:St} {a n t:Int} {dv vd:V} {D:List UInt8}
include hcl
theorem esw_0 {d i B:Nat} (hd:16<=d) (b:BB h p w s rw ow ro dat st sr) (so:StOk st i) (sq:StOk sr i) (hi:i<=900000) (hD:Dat h dat dv D) (hC:Cpy h p ow ro dat vd D) (lB:B<h.nx) (zB:ow B=0) (rB : ¬ ro B) (gB:h.get B=some (.cells (opV 0 a n t dv) false)) :
  Run (cl (d-1)) fuel c9_27 [] [(0,.p p 0),(3,.p B 0),(5,vd),(36,.i 0)] h (PE h p w s rw ow ro dat vd (doS 0 a n t D st) (doS 0 a n t D sr)):=by
 have hp0:=b.hp
 have lp:=b.lp
 have hl300:=hD.len
 have hS:doS 0 a n t D st = { st with ws:=(jah st.ws 0 n).2 } := by simp [doS]
 have hS2:doS 0 a n t D sr = { sr with ws:=(jah sr.ws 0 n).2 } := by simp [doS]
 rw [hS,hS2]
 obtain ⟨x,y,h1,ow1,e1,good,bad,W1,t1⟩:=ww_Pipe hcl (d:=d-1) (n:=n) om so.K b.W
 have b1:=b.wc (a' := { st with ws:=(jah st.ws 0 n).2 }) W1 t1
 have g1:=b.off_w t1 lB zB gB
 have hp1:=b1.hp
 obtain ⟨v,h2,e2,b2,f2,v2,rfl,hv2⟩:=b1.rc hcl (d:=d-1) (f:=27) (args:=[.p rw 0,.i 0,.i n]) (r' := { sr with ws:=(jah sr.ws 0 n).2 })
  (P:=fun g v=>∃ v2,v = .tup [v2,.i (jah sr.ws 0 n).1.2]/\VI g v2 (jah sr.ws 0 n).1.1) (fun _ _ _ m ⟨v2,e,hv⟩=>⟨v2,e,hv.mono m⟩) (fun g q l ga gn hq wR hl=>by
  have oR:WsOk (l.map RX.x):=by rw [hl];exact sq.K.ok
  obtain ⟨v2,q',l',g',k1,k0,k2,k3,k4,k5⟩:=jiO hcl (d:=d-1) (kind:=0) (n:=n) om om wR oR
  rw [hl] at k0 k1 k3
  exact ⟨_,q',l',g',k1,k2,k3,k4,k5,v2,rfl,k0⟩)
 have fF:=(Fm.to (ro:=ro) t1).trans f2
 have hp2:=b2.hp
 obtain ⟨xs,cs,hr2⟩:=b2.rhead
 have wl:({ sr with ws:=(jah sr.ws 0 n).2 } : St).ws.length=(jah sr.ws 0 n).2.length:=rfl
 rw [wl] at hr2
 have q0:(V.slice xs (jah sr.ws 0 n).2.length cs :: ({ sr with ws:=(jah sr.ws 0 n).2 } : St).tl)[0+0]?=some (V.slice xs (jah sr.ws 0 n).2.length cs):=rfl
 have o2v:=hv2.one
 obtain ⟨bo,e3⟩:=jlO hcl (d:=d-1) (h:=h2) (x:=x) (y:=y) (e:=(jah st.ws 0 n).1.2) (n:=((jah sr.ws 0 n).2.length:Int)-1) om hv2 (jeE (n:=n) (kind:=0) (ws:=sr.ws))
 have hlen:(jah sr.ws 0 n).2.length<=1000:=(jdL om sq.K).ok.len
 clear so sq hD hC hl300 hS hS2 good bad
 generalize (jah st.ws 0 n).1.2=er at e1 e3
 generalize (jah sr.ws 0 n).1.2=er2 at e2 e3
 refine qm ?_
 all_goals exact PE.mk' b2 fF
theorem esw_1 {d i B:Nat} (hd:16<=d) (b:BB h p w s rw ow ro dat st sr) (so:StOk st i) (sq:StOk sr i) (hi:i<=900000) (hD:Dat h dat dv D) (hC:Cpy h p ow ro dat vd D) (lB:B<h.nx) (zB:ow B=0) (rB : ¬ ro B) (gB:h.get B=some (.cells (opV 1 a n t dv) false)) :
  Run (cl (d-1)) fuel c9_27 [] [(0,.p p 0),(3,.p B 0),(5,vd),(36,.i 1)] h (PE h p w s rw ow ro dat vd (doS 1 a n t D st) (doS 1 a n t D sr)):=by
 have hp0:=b.hp
 have lp:=b.lp
 have hl300:=hD.len
 have hS:doS 1 a n t D st = { st with ws:=(jah st.ws 1 n).2 } := by simp [doS]
 have hS2:doS 1 a n t D sr = { sr with ws:=(jah sr.ws 1 n).2 } := by simp [doS]
 rw [hS,hS2]
 obtain ⟨x,y,h1,ow1,e1,good,bad,W1,t1⟩:=ww_Pair hcl (d:=d-1) (n:=n) om so.K b.W
 have b1:=b.wc (a' := { st with ws:=(jah st.ws 1 n).2 }) W1 t1
 have g1:=b.off_w t1 lB zB gB
 have hp1:=b1.hp
 obtain ⟨v,h2,e2,b2,f2,v2,rfl,hv2⟩:=b1.rc hcl (d:=d-1) (f:=27) (args:=[.p rw 0,.i 1,.i n]) (r' := { sr with ws:=(jah sr.ws 1 n).2 })
  (P:=fun g v=>∃ v2,v = .tup [v2,.i (jah sr.ws 1 n).1.2]/\VI g v2 (jah sr.ws 1 n).1.1) (fun _ _ _ m ⟨v2,e,hv⟩=>⟨v2,e,hv.mono m⟩) (fun g q l ga gn hq wR hl=>by
  have oR:WsOk (l.map RX.x):=by rw [hl];exact sq.K.ok
  obtain ⟨v2,q',l',g',k1,k0,k2,k3,k4,k5⟩:=jiO hcl (d:=d-1) (kind:=1) (n:=n) om om wR oR
  rw [hl] at k0 k1 k3
  exact ⟨_,q',l',g',k1,k2,k3,k4,k5,v2,rfl,k0⟩)
 have fF:=(Fm.to (ro:=ro) t1).trans f2
 have hp2:=b2.hp
 obtain ⟨xs,cs,hr2⟩:=b2.rhead
 have wl:({ sr with ws:=(jah sr.ws 1 n).2 } : St).ws.length=(jah sr.ws 1 n).2.length:=rfl
 rw [wl] at hr2
 have q0:(V.slice xs (jah sr.ws 1 n).2.length cs :: ({ sr with ws:=(jah sr.ws 1 n).2 } : St).tl)[0+0]?=some (V.slice xs (jah sr.ws 1 n).2.length cs):=rfl
 have o2v:=hv2.one
 obtain ⟨bo,e3⟩:=jlO hcl (d:=d-1) (h:=h2) (x:=x) (y:=y) (e:=(jah st.ws 1 n).1.2) (n:=((jah sr.ws 1 n).2.length:Int)-1) om hv2 (jeE (n:=n) (kind:=1) (ws:=sr.ws))
 have hlen:(jah sr.ws 1 n).2.length<=1000:=(jdL om sq.K).ok.len
 clear so sq hD hC hl300 hS hS2 good bad
 generalize (jah st.ws 1 n).1.2=er at e1 e3
 generalize (jah sr.ws 1 n).1.2=er2 at e2 e3
 refine qm ?_
 all_goals exact PE.mk' b2 fF
end
section
variable {cl:Nat->Call} (hcl:Sem cl) {h:H} {p w s rw:Nat} {ow:Nat->Nat} {ro dat:Nat->Prop} {st sr:St} {a n t:Int} {dv vd:V} {D:List UInt8}
include hcl
theorem esw_2 {d i B:Nat} (hd:16<=d) (b:BB h p w s rw ow ro dat st sr) (so:StOk st i) (sq:StOk sr i) (hi:i<=900000) (hD:Dat h dat dv D) (hC:Cpy h p ow ro dat vd D) (lB:B<h.nx) (zB:ow B=0) (rB : ¬ ro B) (gB:h.get B=some (.cells (opV 2 a n t dv) false)) :
  Run (cl (d-1)) fuel c9_27 [] [(0,.p p 0),(3,.p B 0),(5,vd),(36,.i 2)] h (PE h p w s rw ow ro dat vd (doS 2 a n t D st) (doS 2 a n t D sr)):=by
 have hp0:=b.hp
 have lp:=b.lp
 have hl300:=hD.len
 have hS:doS 2 a n t D st = { st with ws:=(jah st.ws 2 n).2 } := by simp [doS]
 have hS2:doS 2 a n t D sr = { sr with ws:=(jah sr.ws 2 n).2 } := by simp [doS]
 rw [hS,hS2]
 obtain ⟨x,y,h1,ow1,e1,good,bad,W1,t1⟩:=ww_Outer hcl (d:=d-1) (n:=n) om so.K b.W
 have b1:=b.wc (a' := { st with ws:=(jah st.ws 2 n).2 }) W1 t1
 have g1:=b.off_w t1 lB zB gB
 have hp1:=b1.hp
 obtain ⟨v,h2,e2,b2,f2,v2,rfl,hv2⟩:=b1.rc hcl (d:=d-1) (f:=27) (args:=[.p rw 0,.i 2,.i n]) (r' := { sr with ws:=(jah sr.ws 2 n).2 })
  (P:=fun g v=>∃ v2,v = .tup [v2,.i (jah sr.ws 2 n).1.2]/\VI g v2 (jah sr.ws 2 n).1.1) (fun _ _ _ m ⟨v2,e,hv⟩=>⟨v2,e,hv.mono m⟩) (fun g q l ga gn hq wR hl=>by
  have oR:WsOk (l.map RX.x):=by rw [hl];exact sq.K.ok
  obtain ⟨v2,q',l',g',k1,k0,k2,k3,k4,k5⟩:=jiO hcl (d:=d-1) (kind:=2) (n:=n) om om wR oR
  rw [hl] at k0 k1 k3
  exact ⟨_,q',l',g',k1,k2,k3,k4,k5,v2,rfl,k0⟩)
 have fF:=(Fm.to (ro:=ro) t1).trans f2
 have hp2:=b2.hp
 obtain ⟨xs,cs,hr2⟩:=b2.rhead
 have wl:({ sr with ws:=(jah sr.ws 2 n).2 } : St).ws.length=(jah sr.ws 2 n).2.length:=rfl
 rw [wl] at hr2
 have q0:(V.slice xs (jah sr.ws 2 n).2.length cs :: ({ sr with ws:=(jah sr.ws 2 n).2 } : St).tl)[0+0]?=some (V.slice xs (jah sr.ws 2 n).2.length cs):=rfl
 have o2v:=hv2.one
 obtain ⟨bo,e3⟩:=jlO hcl (d:=d-1) (h:=h2) (x:=x) (y:=y) (e:=(jah st.ws 2 n).1.2) (n:=((jah sr.ws 2 n).2.length:Int)-1) om hv2 (jeE (n:=n) (kind:=2) (ws:=sr.ws))
 have hlen:(jah sr.ws 2 n).2.length<=1000:=(jdL om sq.K).ok.len
 clear so sq hD hC hl300 hS hS2 good bad
 generalize (jah st.ws 2 n).1.2=er at e1 e3
 generalize (jah sr.ws 2 n).1.2=er2 at e2 e3
 refine qm ?_
 all_goals exact PE.mk' b2 fF
theorem esw_3 {d i B:Nat} (hd:16<=d) (b:BB h p w s rw ow ro dat st sr) (so:StOk st i) (sq:StOk sr i) (hi:i<=900000) (hD:Dat h dat dv D) (hC:Cpy h p ow ro dat vd D) (lB:B<h.nx) (zB:ow B=0) (rB : ¬ ro B) (gB:h.get B=some (.cells (opV 3 a n t dv) false)) :
  Run (cl (d-1)) fuel c9_27 [] [(0,.p p 0),(3,.p B 0),(5,vd),(36,.i 3)] h (PE h p w s rw ow ro dat vd (doS 3 a n t D st) (doS 3 a n t D sr)):=by
 have hp0:=b.hp
 have lp:=b.lp
 have hl300:=hD.len
 have hS:doS 3 a n t D st = { st with ws:=(jah st.ws 3 n).2 } := by simp [doS]
 have hS2:doS 3 a n t D sr = { sr with ws:=(jah sr.ws 3 n).2 } := by simp [doS]
 rw [hS,hS2]
 obtain ⟨x,y,h1,ow1,e1,good,bad,W1,t1⟩:=ww_Listen hcl (d:=d-1) (n:=n) om so.K b.W
 have b1:=b.wc (a' := { st with ws:=(jah st.ws 3 n).2 }) W1 t1
 have g1:=b.off_w t1 lB zB gB
 have hp1:=b1.hp
 obtain ⟨v,h2,e2,b2,f2,v2,rfl,hv2⟩:=b1.rc hcl (d:=d-1) (f:=27) (args:=[.p rw 0,.i 3,.i n]) (r' := { sr with ws:=(jah sr.ws 3 n).2 })
  (P:=fun g v=>∃ v2,v = .tup [v2,.i (jah sr.ws 3 n).1.2]/\VI g v2 (jah sr.ws 3 n).1.1) (fun _ _ _ m ⟨v2,e,hv⟩=>⟨v2,e,hv.mono m⟩) (fun g q l ga gn hq wR hl=>by
  have oR:WsOk (l.map RX.x):=by rw [hl];exact sq.K.ok
  obtain ⟨v2,q',l',g',k1,k0,k2,k3,k4,k5⟩:=jiO hcl (d:=d-1) (kind:=3) (n:=n) om om wR oR
  rw [hl] at k0 k1 k3
  exact ⟨_,q',l',g',k1,k2,k3,k4,k5,v2,rfl,k0⟩)
 have fF:=(Fm.to (ro:=ro) t1).trans f2
 have hp2:=b2.hp
 obtain ⟨xs,cs,hr2⟩:=b2.rhead
 have wl:({ sr with ws:=(jah sr.ws 3 n).2 } : St).ws.length=(jah sr.ws 3 n).2.length:=rfl
 rw [wl] at hr2
 have q0:(V.slice xs (jah sr.ws 3 n).2.length cs :: ({ sr with ws:=(jah sr.ws 3 n).2 } : St).tl)[0+0]?=some (V.slice xs (jah sr.ws 3 n).2.length cs):=rfl
 have o2v:=hv2.one
 obtain ⟨bo,e3⟩:=jlO hcl (d:=d-1) (h:=h2) (x:=x) (y:=y) (e:=(jah st.ws 3 n).1.2) (n:=((jah sr.ws 3 n).2.length:Int)-1) om hv2 (jeE (n:=n) (kind:=3) (ws:=sr.ws))
 have hlen:(jah sr.ws 3 n).2.length<=1000:=(jdL om sq.K).ok.len
 clear so sq hD hC hl300 hS hS2 good bad
 generalize (jah st.ws 3 n).1.2=er at e1 e3
 generalize (jah sr.ws 3 n).1.2=er2 at e2 e3
 refine qm ?_
 all_goals exact PE.mk' b2 fF
end
theorem je9 : ∀ {l:List (Int × Int)} {i:Nat} {p:Int × Int},l[i]?=some p->((jav l).drop (i*2)).take 2=[.i p.1,.i p.2]
 | [],i,p,h=>by simp at h
 | x :: l,0,p,h=>by
  simp at h;subst h;rfl
 | x :: l,i+1,p,h=>by
  have e:jav (x :: l) = .i x.1 :: .i x.2 :: jav l:=rfl
  rw [e,show (i+1)*2=i*2+1+1 by omega]
  exact je9 (l:=l) (by simpa using h)
theorem je8 : ∀ l:List (Int × Int),(jav l).length=l.length*2
 | []=>rfl
 | x :: l=>by
  have:=je8 l
  have e:jav (x :: l) = .i x.1 :: .i x.2 :: jav l:=rfl
  rw [e];simp;omega
section
variable {call:Call} {fuel base:Nat} {K:List Fr} {e:Env} {h:H} {Q:Post} {ix:Nat} {dst at_:Option Nat} {ops:List Ins} {keep:List Nat}
end
section
variable {cl:Nat->Call} (hcl:Sem cl) {h:H} {p w s rw:Nat} {ow:Nat->Nat} {ro dat:Nat->Prop} {st:St} {a n t:Int} {dv vd:V} {D:List UInt8}
include hcl
end
section
variable {cl:Nat->Call} (hcl:Sem cl) {h:H} {p w s rw:Nat} {ow:Nat->Nat} {ro dat:Nat->Prop} {st sr:St} {a n t:Int} {dv vd:V} {D:List UInt8}
include hcl
theorem emo_18 {d i:Nat} (hd:15<=d) (b:BB h p w s rw ow ro dat st sr) (so:StOk st i) (sq:StOk sr i) (hi:i<=900000) :
  jcp cl d 39 h p w s rw ow ro dat [.p p 0,.agg (opV 18 a n t dv),vd] (doS 18 a n t D st) (doS 18 a n t D sr):=by
 have o0:Old h (h.new (.cells (opV 18 a n t dv) false)):=(ZD h).new
 have b0:=b.old o0
 have g0:(h.new (.cells (opV 18 a n t dv) false)).get h.nx=some (.cells (opV 18 a n t dv) false):=jad _
 have x0:h.nx<(h.new (.cells (opV 18 a n t dv) false)).nx:=by simp
 have z0:ow h.nx=0:=b.W.top (zr _)
 have hp0:=b0.hp
 have lp:=b.lp
 have hok:st.tb.ok 1000000:=so.tb.mono om
 have hoq:sr.tb.ok 1000000:=sq.tb.mono om
 have hS:doS 18 a n t D st = { st with ws:=jao st.ws (st.tb.take.sum 32) (noI st.no) (siI st.no),tb:=st.tb.take } := by simp [doS]
 have hS2:doS 18 a n t D sr = { sr with ws:=jao sr.ws (sr.tb.take.sum 32) (noI sr.no) (siI sr.no),tb:=sr.tb.take } := by simp [doS]
 rw [hS,hS2]
 obtain ⟨v1,h1,e1,row1,W1,t1⟩:=jmk hcl (d:=d-1) om b0.W so.nt (jnu hok om)
 have b1:=b0.wc (a' := { st with ws:=jao st.ws (st.tb.take.sum 32) (noI st.no) (siI st.no),tb:=st.tb.take }) W1 t1
 have g1:=b0.off_w t1 x0 z0 g0
 have hp1:=b1.hp
 obtain ⟨v2,h2,e2,b2,f2,row2⟩:=b1.rc hcl (d:=d-1) (f:=88) (args:=[.p rw 0]) (r' := { sr with ws:=jao sr.ws (sr.tb.take.sum 32) (noI sr.no) (siI sr.no),tb:=sr.tb.take })
  (P:=fun g v=>Row h1.nx g 2 v (jcg sr.tb.pd 31).length (jav (jcg sr.tb.pd 31))) (fun _ _ _ m r=>Row.mono m r) (fun g q l ga gn hq wR hl=>by
  have oR:WsOk (l.map RX.x):=by rw [hl];exact sq.K.ok
  obtain ⟨v2,l',g',k1,k0,k2,k3,k4⟩:=jmv hcl (d:=d-1) om wR oR (by rw [hl];exact sq.nt) hoq
  rw [hl,<- jkD,<- jou] at k3
  rw [<- jkD] at k2
  rw [gn] at k0
  exact ⟨_,q,l',g',k1,k2,k3,k4,.inl rfl,k0⟩)
 have hcs:(st.tb.cnts 32).map (fun p=>((p.1:Int),p.2))=jcg st.tb.pd 31:=jkx (fun k=>(hok k).1) 31
 have row1:Row (h.new (.cells (opV 18 a n t dv) false)).nx h1 2 v1 (jcg st.tb.pd 31).length (jav (jcg st.tb.pd 31)):=by
  rw [jhO,hcs] at row1
  rw [<- hcs,List.length_map];rw [hcs];exact row1
 have row3:Row (h.new (.cells (opV 18 a n t dv) false)).nx h2 2 v1 (jcg st.tb.pd 31).length (jav (jcg st.tb.pd 31)):=row1.keep f2.ch.nx fun z hz=>f2.ch.get z (row1.at_ge hz).2 fun e=>e.elim (fun e=>e (b0.W.top (row1.at_ge hz).1)) fun e=>by
  have:=b0.ro_lt (.inl e)
  have:=(row1.at_ge hz).1
  omega
 have hlen:=jhk st.tb.pd 31
 generalize jcg st.tb.pd 31=L at row3 hlen
 generalize jcg sr.tb.pd 31=L2 at row2
 clear row1 hcs hok hoq so sq hS hS2
 obtain ⟨c1,⟨a1,rfl⟩,ix1⟩:=row3.shape
 obtain ⟨c2,⟨a2,rfl⟩,ix2⟩:=row2.shape
 refine jcp.mk b2 (Fm.two o0 t1 f2) ?_
 refine aT hcl ?_
 clear b b0 b1 b2 f2 t1 W1 row2 row3
 by_cases hll:(L.length:Int)=L2.length
 case neg=>
  clear ix1 ix2
  refine qm ?_
  exact ⟨⟨_,rfl⟩,rfl⟩
 have hll':L2.length=L.length:=by omega
 rw [hll'] at e2 ix2
 clear hll
 refine qm ?_
 refine Zx (fun m e g=>∃ k:Nat,m=L.length-k/\k<=L.length/\g=h2/\e=[(24,.slice a1 L.length c1),(25,.slice a2 L.length c2),(267,.i (L.length:Int)),(268,.i (k:Int))])
  (k:=L.length) Ze ⟨0,rfl,by omega,rfl,rfl⟩ ?_
 rintro _ _ g ⟨k,rfl,hk4,rfl,rfl⟩ n2 ih2
 by_cases hlt2:(k:Int)<L.length
 case neg=>
  clear ih2 ix1 ix2
  refine qm ?_
  exact ⟨⟨_,rfl⟩,rfl⟩
 obtain ⟨q1,y1,y2,y3,y4⟩:=ix1 k om
 cases y3
 obtain ⟨q2,z1,z2,z3,z4⟩:=ix2 k om
 cases z3
 have hp2:=za (show k<L.length by omega)
 generalize L[k]=pr at hp2
 have hp3:=za (show k<L2.length by omega)
 generalize L2[k]=pr3 at hp3
 have hg:=je9 hp2
 have hg3:=je9 hp3
 have hl2:=je8 L
 have hl3:=je8 L2
 have hk1:(k:Int)+1=((k+1:Nat):Int):=by omega
 have hg':((jav L).drop (0+(k:Int).toNat*2)).take 2=[.i pr.1,.i pr.2]:=by rw [<- hg,zz,zS]
 have hg3':((jav L2).drop (0+(k:Int).toNat*2)).take 2=[.i pr3.1,.i pr3.2]:=by rw [<- hg3,zz,zS]
 clear ix1 ix2 e1 e2
 refine qm ?_
 refine zcw rfl y4 om ?_
 rw [hg']
 refine qm ?_
 refine zcw rfl z4 om ?_
 rw [hg3']
 repeat' (first|refine qmy ?_|(refine zsp ?_ ?_<;>intro _)|fail)
 ·exact ⟨⟨_,rfl⟩,rfl⟩
 rw [hk1]
 exact ih2 (L.length-(k+1)) om _ _ ⟨k+1,rfl,by omega,rfl,rfl⟩
end
section
variable {cl:Nat->Call} (hcl:Sem cl) {h:H} {p w s rw:Nat} {ow:Nat->Nat} {ro dat:Nat->Prop} {st sr:St} {k a n t:Int} {dv vd:V} {D:List UInt8}
include hcl
theorem esw_more {d B:Nat} {st' sr':St} (hk:k<0\/8<k) (gB:h.get B=some (.cells (opV k a n t dv) false)) (m:jcp cl (d-1) 39 h p w s rw ow ro dat [.p p 0,.agg (opV k a n t dv),vd] st' sr') :
  Run (cl (d-1)) fuel c9_27 [] [(0,.p p 0),(3,.p B 0),(5,vd),(36,.i k)] h (PE h p w s rw ow ro dat vd st' sr'):=by
 obtain ⟨x,h',ow',ro',e1,b',f'⟩:=m
 have n0 : ¬ k=0:=by omega
 have n1 : ¬ k=1:=by omega
 have n2 : ¬ k=2:=by omega
 have n3 : ¬ k=3:=by omega
 have n4 : ¬ k=4:=by omega
 have n5 : ¬ k=5:=by omega
 have n6 : ¬ k=6:=by omega
 have n7 : ¬ k=7:=by omega
 have n8 : ¬ k=8:=by omega
 clear hk
 refine qm ?_
 exact PE.mk' b' f'
theorem esw_all {d i B:Nat} (hd:16<=d) (b:BB h p w s rw ow ro dat st sr) (so:StOk st i) (sq:StOk sr i) (hi:i<=900000) (hD:Dat h dat dv D) (hC:Cpy h p ow ro dat vd D) (lB:B<h.nx) (zB:ow B=0) (rB : ¬ ro B) (gB:h.get B=some (.cells (opV k a n t dv) false)) (t0:0<=t) (t1:t<=18446744073709551615) :
  Run (cl (d-1)) fuel c9_27 [] [(0,.p p 0),(3,.p B 0),(5,vd),(36,.i k)] h (PE h p w s rw ow ro dat vd (doS k a n t D st) (doS k a n t D sr)):=by
 by_cases k0:k=0
 ·subst k0;exact esw_0 hcl hd b so sq hi hD hC lB zB rB gB
 by_cases k1:k=1
 ·subst k1;exact esw_1 hcl hd b so sq hi hD hC lB zB rB gB
 by_cases k2:k=2
 ·subst k2;exact esw_2 hcl hd b so sq hi hD hC lB zB rB gB
 by_cases k3:k=3
 ·subst k3;exact esw_3 hcl hd b so sq hi hD hC lB zB rB gB
 by_cases k4:k=4
 ·subst k4;exact esw_4 hcl hd b so sq hi hD hC lB zB rB gB
 by_cases k5:k=5
 ·subst k5;exact esw_5 hcl hd b so sq hi hD hC lB zB rB gB
 by_cases k6:k=6
 ·subst k6;exact esw_6 hcl hd b so sq hi hD hC lB zB rB gB
 by_cases k7:k=7
 ·subst k7;exact esw_7 hcl hd b so sq hi hD hC lB zB rB gB
 by_cases k8:k=8
 ·subst k8;exact esw_8 hcl hd b so sq hi hD hC lB zB rB gB
 refine esw_more hcl om gB ?_
 by_cases k9:k=9
 ·subst k9;exact emo_9 hcl om b so sq hi hD hC
 by_cases k10:k=10
 ·subst k10;exact emo_10 hcl om b so sq hi hD hC
 by_cases k11:k=11
 ·subst k11;exact emo_11 hcl om b so sq hi hD hC
 by_cases k12:k=12
 ·subst k12;exact emo_12 hcl om b so sq hi hD hC
 by_cases k13:k=13
 ·subst k13;exact emo_13 hcl om b so sq hi hD hC
 by_cases k14:k=14
 ·subst k14;exact emo_14 hcl om b so sq hi hD hC
 by_cases k15:k=15
 ·subst k15;exact emo_15 hcl om b so sq hi hD hC t0 t1
 by_cases k16:k=16
 ·subst k16;exact emo_16 hcl om b so sq hi hD hC
 by_cases k17:k=17
 ·subst k17;exact emo_17 hcl om b so sq hi hD hC
 by_cases k18:k=18
 ·subst k18;exact emo_18 hcl om b so sq hi
 by_cases k19:k=19
 ·subst k19;exact emo_19 hcl om b so sq hi hD hC
 by_cases k20:k=20
 ·subst k20;exact emo_20 hcl om b so sq
 exact emo_no hcl om b om
theorem do_any {d i:Nat} (hd:16<=d) (b:BB h p w s rw ow ro dat st sr) (so:StOk st i) (sq:StOk sr i) (hi:i<=900000) (hD:Dat h dat dv D) (t0:0<=t) (t1:t<=18446744073709551615) :
  ∃ x h' ow' ro',cl d (.fn 9) [.p p 0,.agg (opV k a n t dv)] h=some (.bool x,h')/\BB h' p w s rw ow' ro' dat (doS k a n t D st) (doS k a n t D sr)/\Fm h h' ow ro ow' ro':=by
 suffices q : ∃ v h',cl d (.fn 9) [.p p 0,.agg (opV k a n t dv)] h=some (v,h') /\ ∃ x ow' ro',v = .bool x/\BB h' p w s rw ow' ro' dat (doS k a n t D st) (doS k a n t D sr)/\Fm h h' ow ro ow' ro' by
  obtain ⟨_,h',e,x,ow',ro',rfl,q⟩:=q;exact ⟨x,h',ow',ro',e,q⟩
 have ol:Old h ((h.new (.cells (opV k a n t dv) false)).new (.cells [] false)):=(ZD h).new.new
 have hv:=(hD.keep b (Fm.old (ow:=ow) (ro:=ro) ol)).v
 have hl300:=hD.len
 refine aT hcl ?_
 obtain ⟨C,hC⟩ : ∃ C,C=c9_27:=⟨_,rfl⟩
 simp only [c9,c9_29,yB,yH]
 rw [<- hC]
 refine qm ?_
 refine Ops.copyB rfl rfl hv om fun a' c' h3 hvd hcells ho hz=>?_
 have ho:Old ((h.new (.cells (opV k a n t dv) false)).new (.cells [] false)) h3:=ho
 have hz:a'=h.nx+1\/(h.nx+2<=a'/\a'<h3.nx):=hz
 have o3:=ol.trans ho
 have xo:((h.new (.cells (opV k a n t dv) false)).new (.cells [] false)).nx=h.nx+2:=rfl
 have x3:=ho.1
 have b3:=b.old o3
 have hD3:=hD.keep b (Fm.old (ow:=ow) (ro:=ro) o3)
 have gB:h3.get h.nx=some (.cells (opV k a n t dv) false):=by
  rw [ho.2 _ om,jac Zd,jad]
 have ha':h.nx+1<=a'/\a'<h3.nx:=by
  omega
 have lp:=b.lp
 have hC3:Cpy h3 p ow ro dat (.slice (some (a',0)) D.length c') D:=⟨hvd,fun z hz=>by
  cases hz
  refine ⟨ha'.2,b.W.top om,fun e=>?_,fun e=>?_,by omega⟩
  ·have:=b.ro_lt (.inl e);omega
  ·have:=b.ro_lt (.inr e);omega⟩
 have hsw:=esw_all hcl (d:=d) (k:=k) (a:=a) (n:=n) (t:=t) hd b3 so sq hi hD3 hC3 (B:=h.nx) om (b.W.top (zr _)) (fun e=>by have:=b.ro_lt (.inl e);omega) gB t0 t1
 rw [<- hC] at hsw
 clear hD hD3 hv so sq
 refine qm ?_
 refine Run.cut _ hsw ?_
 rintro _ _ g ⟨rfl,⟨xb,rfl⟩,ow',ro',b',f'⟩
 clear hsw hC
 have hCg:=hC3.keep f'
 obtain ⟨z1,z2,z3,z4,z5⟩:=hCg.z a' rfl
 have gcells:D≠[]->g.get a'=some (.cells (bts D) false):=fun hn=>by
  obtain ⟨y1,y2,y3,_,_⟩:=hC3.z a' rfl
  rw [f'.ch.get a' y1 fun e=>e.elim (fun e=>e y2) y3,hcells hn]
 have fF:=(Fm.old (ow:=ow) (ro:=ro) o3).trans f'
 have xg:=f'.ch.nx
 clear hC3 hCg hcells f' b3 gB hvd
 refine qm ?_
 refine Zx (fun m e g2=>∃ j:Nat,m=D.length-j/\j<=D.length/\e=[(5,.slice (some (a',0)) D.length c'),(6,.bool xb),(275,.i (D.length:Int)),(276,.i (j:Int))] /\
   (D≠[] -> ∃ cs:List V,g2.get a'=some (.cells cs false)/\cs.length=D.length /\ ∀ i,i<D.length -> ∃ x,cs[i]?=some (.int .u8 x))/\g2.nx=g.nx /\ ∀ j,j≠a'->g2.get j=g.get j)
  (k:=D.length) Ze ⟨0,rfl,by omega,rfl,fun hn=>⟨bts D,gcells hn,by simp,fun i hi=>⟨_,jjv (za hi)⟩⟩,rfl,fun _ _=>rfl⟩ ?_
 rintro _ _ g2 ⟨j,rfl,hj,rfl,hcs,hx2,hk2⟩ n2 ih2
 by_cases hlt:(j:Int)<D.length
 case neg=>
  clear ih2 hcs gcells
  refine qm ?_
  refine ⟨xb,ow',ro',rfl,b'.off om fun i hi ho=>hk2 i ?_,⟨by have:=fF.ch.nx;omega,fun i hi hb=>by rw [hk2 i om,fF.ch.get i hi hb]⟩,fF.tag,fF.rtag⟩
  rintro rfl
  rcases ho with ho | ho | ho | ho
  ·exact ho z2
  ·exact z3 ho
  ·exact z4 ho
  ·exact z5 ho
 obtain ⟨cs,g1,g3,g4⟩:=hcs (by rintro rfl;simp at hlt;omega)
 obtain ⟨x,hx⟩:=g4 j om
 have hx':cs[0+(j:Int).toNat*1]?=some (.int .u8 x):=by rw [show 0+(j:Int).toNat*1=j by omega];exact hx
 have hj1:(j:Int)+1=((j+1:Nat):Int):=by omega
 clear gcells hcs
 refine qm ?_
 refine zcs rfl rfl rfl g1 om ?_
 refine qm ?_
 rw [hj1]
 refine ih2 (D.length-(j+1)) om _ _ ⟨j+1,rfl,by omega,rfl,fun _=>⟨_,jab _,by simp;exact g3,fun i hi=>?_⟩,hx2,fun i hi=>by rw [jaa hi,hk2 i hi]⟩
 rw [zi]
 by_cases e:0+(j:Int).toNat*1=i
 ·rw [zG e,zG om];exact ⟨_,rfl⟩
 ·rw [zF e];exact g4 i hi
end
section
variable {cl:Nat->Call} (hcl:Sem cl) {h:H} {p w s rw:Nat} {ow:Nat->Nat} {ro dat:Nat->Prop} {st:St} {a n t:Int} {dv vd:V} {D:List UInt8}
include hcl
end
section
variable {cl:Nat->Call} (hcl:Sem cl) {h:H} {p w s rw:Nat} {ow:Nat->Nat} {ro dat:Nat->Prop} {st:St} {a n t:Int} {dv vd:V} {D:List UInt8}
include hcl
end
section
variable {cl:Nat->Call} (hcl:Sem cl) {h:H} {p w s rw:Nat} {ow:Nat->Nat} {ro dat:Nat->Prop} {st:St} {a n t:Int} {dv vd:V} {D:List UInt8}
include hcl
end
section
variable {cl:Nat->Call} (hcl:Sem cl) {h:H} {p w s rw:Nat} {ow:Nat->Nat} {ro dat:Nat->Prop} {st:St} {a n t:Int} {dv vd:V} {D:List UInt8}
include hcl
end
section
variable {cl:Nat->Call} (hcl:Sem cl) {h:H} {p w s rw:Nat} {ow:Nat->Nat} {ro dat:Nat->Prop} {st:St} {a n t:Int} {dv vd:V} {D:List UInt8}
include hcl
end
section
variable {cl:Nat->Call} (hcl:Sem cl) {h:H} {p w s rw:Nat} {ow:Nat->Nat} {ro dat:Nat->Prop} {st:St} {k a n t:Int} {dv vd:V} {D:List UInt8}
include hcl
end
section
variable {cl:Nat->Call} (hcl:Sem cl)
include hcl
theorem wr_out {d b4 b8 b9 b10 wb cap rk ro:Nat} {g:H} {own oth:En} {wl:List V} {rst i hup:Bool} {a c:Int} (hd:3<=d) (g4:g.get b4=some jgB) (g8:g.get b8=some (.cells (own.cells rk) false)) (g9:g.get b9=some (.cells (oth.cells ro) false))
  (g10:g.get b10=some (.cells [.bool true,.bool i,.bool false,.bool hup,.bool rst,.int .u64 a,.int .u64 c] false)) (gx:g.get wb=some (.cells wl false)) (hx:wl[0+14]?=some (.bool rst)) (n1:b4≠b10) (n2:b8≠b10) (n3:b9≠b10) (n4:wb≠b10)
  (hR:own.writes=true -> ∃ q b,oth.ring=some q/\ja5 g ro b q cap) :
  Run (cl (d-1)) fuel c15_0 [] [(4,.p b4 0),(6,.p wb 0),(8,.p b8 0),(9,.p b9 0),(10,.p b10 0)] g
   (Fin c15.res fun v' h'=>v' = .agg [.bool true,.bool i,.bool (own.writes && !own.shut&&(decide (((oth.ring.getD []).length:Int)<cap)||hup||rst)),.bool hup,.bool rst,.int .u64 a,.int .u64 c]/\Ch (fun j=>j=b4\/j=b10) g h'):=by
 obtain ⟨w0,f0,q0,wr0,s0,i0,o0⟩:=own
 obtain ⟨w1,f1,q1,wr1,s1,i1,o1⟩:=oth
 simp only [En.cells] at g8 g9
 cases wr0
 case false=>
  refine qm ?_
  exact jcN rfl (jab _) rfl ⟨rfl,(Ch.set (.inr rfl)).trans (Ch.set (.inl rfl))⟩
 obtain ⟨q,b,hq,R⟩:=hR rfl
 have hq:q1=some q:=hq
 subst hq
 simp only [En.ptr] at g9
 cases s0
 case true=>
  refine qm ?_
  exact jcN rfl (jab _) rfl ⟨rfl,(Ch.set (.inr rfl)).trans (Ch.set (.inl rfl))⟩
 cases hup
 case true=>
  refine qm ?_
  exact jcN rfl (jab _) rfl ⟨by simp [jat],(Ch.set (.inr rfl)).trans (Ch.set (.inl rfl))⟩
 cases rst
 case true=>
  refine qm ?_
  exact jcN rfl (jab _) rfl ⟨by simp [jat],(Ch.set (.inr rfl)).trans (Ch.set (.inl rfl))⟩
 obtain ⟨buf,frm,inn,out,C,V⟩:=R
 have hroom:=jn8 hcl (d:=d-1) om C V.fit V.small
 have e1:decide (0<((cap-q.length:Nat):Int))=decide ((q.length:Int)<cap):=by
  have:=V.fit
  by_cases h1:(q.length:Int)<cap
  ·rw [zJ h1,zJ om]
  ·rw [zH h1,zH om]
 clear C V hR
 refine qm ?_
 rw [e1]
 exact jcN rfl (jab _) rfl ⟨by simp [jat],(Ch.set (.inr rfl)).trans (Ch.set (.inl rfl))⟩
theorem Fin.mono {res:List RV} {R R':V->H->Prop} {x:Ex} {e:Env} {h:H} (k:Fin res R x e h) (hR : ∀ v,R v h->R' v h):Fin res R' x e h:=by
 obtain ⟨p1,l,p2,p3⟩:=k;exact ⟨p1,l,p2,hR _ p3⟩
theorem wr_in {d b4 b5 b8 b9 b10 r0 r1 bo k n t0:Nat} {g:H} {x:Wi} {wv:V} {hup:Bool} (hd:3<=d) (hk:k=0\/k=1) (g4:g.get b4=some jgB) (g5:g.get b5=some (.cells [.bool true,.i (n:Int),.i (k:Int)] false)) (g8:g.get b8=some (.cells ((x.e k).cells (two r0 r1 k)) false)) (g9:g.get b9=some (.cells ((x.e (1-k)).cells (two r0 r1 (1-k))) false))
  (g10:g.get b10=some (.cells [.bool true,.bool false,.bool false,.bool hup,.bool x.reset,.int .u64 (x.e k).inn,.int .u64 (x.e k).out] false)) (gx:g.get t0=some (x.obj r0 r1 wv)) (n1:b4≠b10) (n2:b8≠b10) (n3:b9≠b10) (n4:t0≠b10)
  (hhup:hup=((x.e (1-k)).what == 3)) (hO : ∀ q,(x.e k).ring=some q->ja5 g (two r0 r1 k) bo q x.cap) (hR:(x.e k).writes=true -> ∃ q bt,(x.e (1-k)).ring=some q/\ja5 g (two r0 r1 (1-k)) bt q x.cap/\two r0 r1 (1-k)≠b10/\bt≠b10) :
  Run (cl (d-1)) fuel c15_1 [] [(4,.p b4 0),(5,.p b5 0),(6,.p t0 0),(8,.p b8 0),(9,.p b9 0),(10,.p b10 0)] g
   (Fin c15.res fun v' h'=>v' = .agg [.bool true,.bool (x.rIn k),.bool (x.rOut k),.bool ((x.e (1-k)).what == 3),.bool x.reset,.int .u64 (x.e k).inn,.int .u64 (x.e k).out]/\Ch (fun j=>j=b4\/j=b10) g h'):=by
 refine zab (Run.cut (fun y e' g'=>y = .normal/\e'=[(4,.p b4 0),(6,.p t0 0),(8,.p b8 0),(9,.p b9 0),(10,.p b10 0)] /\
  Upd b10 (.cells [.bool true,.bool (x.rIn k),.bool false,.bool hup,.bool x.reset,.int .u64 (x.e k).inn,.int .u64 (x.e k).out] false) g g') ?_ ?_)
 case refine_2=>
  rintro _ _ g' ⟨rfl,rfl,u⟩
  refine End.seq ?_
  have:=wr_out hcl (d:=d) (cap:=x.cap) (wl:=x.cells r0 r1 wv) hd (by rw [u.get _ n1,g4]) (by rw [u.get _ n2,g8]) (by rw [u.get _ n3,g9]) u.self (by rw [u.get _ n4,gx];rfl) (ZB rfl) n1 n2 n3 n4 fun hw=>by
   obtain ⟨q,bt,q1,q2,n6,n7⟩:=hR hw
   exact ⟨q,bt,q1,q2.keep (u.get _ n6) (u.get _ n7)⟩
  refine Run.fin_mono this fun v h' ⟨p1,p2⟩=>⟨?_,(u.ch (.inr rfl)).trans p2⟩
  rw [p1,hhup];rfl
 have hsil:=jj2 hcl (d:=d-1) om gx hk
 have hx14:=ZB (x:=x) (r0:=r0) (r1:=r1) (wv:=wv) (o:=0+14) rfl
 unfold Wi.obj at gx
 have hrin:x.rIn k=match (x.e k).ring with
  | none=>false
  | some q=>!q.isEmpty||x.silent k||x.reset:=by
  unfold Wi.rIn Wi.silent
  cases (x.e k).ring with
  | none=>rfl
  | some q=>simp [Bool.or_assoc]
 rw [hrin]
 clear hrin hR
 cases hring:(x.e k).ring with
 | none=>
  have c8:((x.e k).cells (two r0 r1 k))[0+2]?=some (.ptr none):=by simp [En.cells,hring,En.ptr]
  refine qm ?_
  exact Zv ⟨rfl,rfl,ZA⟩
 | some q=>
  have c8:((x.e k).cells (two r0 r1 k))[0+2]?=some (.p (two r0 r1 k) 0):=by simp [En.cells,hring,En.ptr]
  obtain ⟨buf,frm,inn,out,C,V⟩:=hO q hring
  have hlen:=jlF hcl (d:=d-1) om C
  clear C V hO
  cases q with
  | cons y q=>
   have hpos:0<(((y :: q:List UInt8).length:Nat):Int):=by simp
   have eT:decide (0<(((y :: q:List UInt8).length:Nat):Int))=true:=zJ hpos
   refine qm ?_
   exact Zv ⟨rfl,rfl,ZA⟩
  | nil=>
   have hlen:cl (d-1) (.fn 51) [.p (two r0 r1 k) 0] g=some (.i 0,g):=hlen
   cases hsl:x.silent k
   ·rw [hsl] at hsil
    cases hrs:x.reset
    ·rw [hrs] at hx14 g10
     refine qm ?_
     exact Zv ⟨rfl,rfl,ZA⟩
    ·rw [hrs] at hx14 g10
     refine qm ?_
     exact Zv ⟨rfl,rfl,ZA⟩
   ·rw [hsl] at hsil
    refine qm ?_
    exact Zv ⟨rfl,rfl,ZA⟩
end
theorem Wi.en_cells {x:Wi} {r0 r1 k o:Nat} {wv:V} (hk:k=0\/k=1) (ho:o=k*7):((x.cells r0 r1 wv).drop o).take 7=(x.e k).cells (two r0 r1 k):=by
 subst ho
 rcases hk with rfl | rfl<;>rfl
theorem En.cells_one (x:En) (r:Nat):(x.cells r).all V.one=true:=by
 obtain ⟨w,f,q,wr,s,i,o⟩:=x
 cases q<;>rfl
theorem jcJ {e:Env} {h:H} {d n:Nat} {a:Opd} {g:Option (Nat × Bool)} {r:List (Nat × I × Option (Nat × Bool))} {b o:Nat} {l:List V} {ro:Bool} {v:List V} (ha:a.ev e=some (.ptr (some (b,o)))) (hb:h.get b=some (.cells l ro)) (hn:o+n<=l.length)
  (hv:(l.drop o).take n=v) (hd:e.get d=some (.agg v)) (k:jaO e h r=true):jaO e h ((d,.loadN n a,g) :: r)=true:=by
 simp only [jaO,I.read,ha,jdc hb hn,hv,hd,V.same_refl,k,Bool.and_true]
 cases wanted e g<;>rfl
section
variable {cl:Nat->Call} (hcl:Sem cl)
include hcl
end
section
variable {cl:Nat->Call} (hcl:Sem cl) {h0:H} {w s:Nat} {ow:Nat->Nat} {ws:Ws} {now:Int} {tb:Tb} {no:Option (Nat × Nat)}
include hcl
theorem jfm {d:Nat} {fd:Int} (hd:4<=d) (a:WSt h0 w s ow ws now tb no) (o:WsOk ws) :
  ∃ h',cl d (.fn 15) [.p w 0,.i fd] h0=some (.agg (jit ws fd),h')/\Old h0 h':=by
 obtain ⟨l,a,rfl⟩:=a
 have oA:Old h0 (h0.new jgB):=(ZD _).new
 have gA0:(h0.new jgB).get h0.nx=some jgB:=jad _
 have nA:(h0.new jgB).nx=h0.nx+1:=rfl
 refine jai (aT hcl ?_)
 refine qo ?_
 refine zcu (ob:=jgB) rfl rfl ?_
 generalize h0.new jgB=hA at oA gA0 nA ⊢
 rcases jdu hcl (d:=d-1) (fd:=fd) om (a.old oA) o.uniq with ⟨hno,h1,e1,o1,x1⟩ | ⟨n,k,m,t,rfl,hm,hat,ht,hk,h1,e1,o1,x1⟩
 ·have hS:jit (wxs l) fd=jnK:=jaG hno
  rw [hS]
  have g1:h1.get h0.nx=some jgB:=by rw [o1.2 _ om,gA0]
  refine qm ?_
  refine jcN rfl (jab _) rfl ⟨rfl,?_⟩
  exact ((oA.trans o1).new.set om).set (zr _)
 have hS:jit (wxs l) (m:Int)=_:=jaH o.uniq hat (jam ht)
 have hS:jit (wxs l) (m:Int)=t.x.ready k:=hS
 rw [hS]
 have WI:=o.ok _ (zb (jam ht))
 have X:=a.wf.ok n t ht
 have hk':1-k=0\/1-k=1:=by omega
 let h2:=(h1.new (.cells [.bool false,.i 0,.i 0] false)).set h1.nx (.cells [.bool true,.i (n:Int),.i (k:Int)] false)
 have n2:h2.nx=h0.nx+3:=by show h1.nx+1=_;omega
 have g2 : ∀ j,j<h0.nx->h2.get j=h0.get j:=fun j hj=>by
  show (H.set _ _ _).get j=_
  rw [jaa om,jac om,o1.2 j om,oA.2 j hj]
 have g20:h2.get h0.nx=some jgB:=by
  show (H.set _ _ _).get _=_
  rw [jaa om,jac om,o1.2 _ om];exact gA0
 have gp:h2.get h1.nx=some (.cells [.bool true,.i (n:Int),.i (k:Int)] false):=jab _
 have y1:h1.nx=h0.nx+2:=by omega
 obtain ⟨C,hC⟩ : ∃ C,C=c15_1:=⟨_,rfl⟩
 simp only [c15_8,c15_7,c15_6,c15_5,c15_4,c15_3,yB,yF]
 rw [<- hC]
 refine qo ?_
 refine zaw rfl e1 ?_
 refine qo ?_
 refine zcu rfl rfl ?_
 refine Ga ?_
 refine zct rfl rfl rfl rfl (jad _) (zw rfl) ?_
 rw [show ((h1.new (.cells [.bool false,.i 0,.i 0] false)).set h1.nx (.cells (jat [.bool false,.i 0,.i 0] 0 [.bool true,.i (n:Int),.i (k:Int)]) false))=h2 from rfl]
 clear_value h2
 clear e1 o1 gA0 nA oA
 have hx:=X.hx
 have lx:=X.lx
 have hx2:h2.get t.wb=some (.cells (t.x.cells t.r0 t.r1 t.wv) false):=by rw [g2 _ lx];exact hx
 have ek:((1:Int)-(k:Int)).toNat=1-k:=by omega
 have hcl17:=Wi.cells_length t.x t.r0 t.r1 t.wv
 rw [y1] at gp ⊢
 refine Ga ?_
 refine Run.region ?_
 rw [n2]
 refine Ga ?_
 refine zcw rfl hx2 om ?_
 rw [Wi.en_cells hk om]
 refine Ga ?_
 refine zcw rfl hx2 om ?_
 rw [Wi.en_cells (k:=1-k) hk' om]
 refine Ops.make_at rfl rfl ?_
 refine Ops.make_at rfl rfl ?_
 refine Ops.storeN_chk rfl rfl rfl (En.cells_one _ _) (by rw [jaa om];exact jab _) (zw rfl) ?_ ?_
 ·refine jaN rfl (l:=[.bool true,.i (n:Int),.i (k:Int)]) (ro:=false) (by rw [jaa om,jaa om,jaa om];exact gp) rfl rfl (jcJ rfl (l:=t.x.cells t.r0 t.r1 t.wv) (ro:=false) (by rw [jaa om,jaa om,jaa om];exact hx2) om (Wi.en_cells (k:=1-k) hk' om) rfl jbn)
 refine zct rfl rfl rfl (En.cells_one _ _) (by rw [jaa om];exact jab _) (zw rfl) ?_
 have ow7 : ∀ (e:En) (r:Nat),jat [V.i 0,V.i 0,V.ptr none,V.bool false,V.bool false,V.int IntKind.u64 0,V.int IntKind.u64 0] 0 (e.cells r)=e.cells r:=fun e r=>jas _ _ rfl
 rw [ow7,ow7]
 generalize hh:H.set (H.set (H.set (H.set _ _ _) _ _) _ _) _ _=h3
 have z3:h3.nx=h0.nx+5:=by rw [<- hh];show h2.nx+2=_;omega
 have zo:h3.get (h0.nx+3)=some (.cells ((t.x.e k).cells (two t.r0 t.r1 k)) false):=by
  rw [<- hh,jaa om];exact jab _
 have zt:h3.get (h0.nx+3+1)=some (.cells ((t.x.e (1-k)).cells (two t.r0 t.r1 (1-k))) false):=by
  rw [<- hh];exact jab _
 have g3 : ∀ j,j<h0.nx+3->h3.get j=h2.get j:=fun j hj=>by
  rw [<- hh,jaa om,jaa om,jaa om,jaa om];rfl
 have hx3:h3.get t.wb=some (.cells (t.x.cells t.r0 t.r1 t.wv) false):=by rw [g3 _ om,hx2]
 have z0:h3.get h0.nx=some jgB:=by rw [g3 _ om,g20]
 have gp3:h3.get (h0.nx+2)=some (.cells [.bool true,.i (n:Int),.i (k:Int)] false):=by rw [g3 _ om,gp]
 have kk : ∀ j,j<h0.nx->h3.get j=h0.get j:=fun j hj=>by rw [g3 _ om,g2 _ hj]
 clear hh g3 gp hx2 g20 g2 n2
 have zo:h3.get (h0.nx+3+0)=some (.cells ((t.x.e k).cells (two t.r0 t.r1 k)) false):=zo
 have i5:((t.x.e k).cells (two t.r0 t.r1 k))[0+5]?=some (.int .u64 (t.x.e k).inn):=rfl
 have i6:((t.x.e k).cells (two t.r0 t.r1 k))[0+6]?=some (.int .u64 (t.x.e k).out):=rfl
 have f15:=Wi.backlog_cell (x:=t.x) (r0:=t.r0) (r1:=t.r1) (wv:=t.wv) (o:=0+15) rfl
 have f14:=ZB (x:=t.x) (r0:=t.r0) (r1:=t.r1) (wv:=t.wv) (o:=0+14) rfl
 obtain ⟨av,cp,hva,_⟩:=X.wait.1
 have f16:(t.x.cells t.r0 t.r1 t.wv)[0+16]?=some (.slice av t.x.waiting.length cp):=by simp [Wi.cells,En.cells,hva]
 have o3:Old h0 h3:=⟨by omega,kk⟩
 by_cases hbl:0<t.x.backlog
 ·have hR:t.x.ready k=[.bool true,.bool (!t.x.waiting.isEmpty),.bool false,.bool false,.bool false,.int .u64 (t.x.e k).inn,.int .u64 (t.x.e k).out]:=zG hbl
  rw [hR]
  have ew:decide (0<((t.x.waiting.length:Nat):Int)) = !t.x.waiting.isEmpty:=by cases t.x.waiting<;>simp
  clear hC hcl17 ek hk' y1
  refine qm ?_
  rw [ew]
  refine jcN rfl (jab _) rfl ⟨rfl,?_⟩
  exact (((o3.new.set om).set om).set om)
 ·have hR:t.x.ready k=[.bool true,.bool (t.x.rIn k),.bool (t.x.rOut k),.bool ((t.x.e (1-k)).what == 3),.bool t.x.reset,.int .u64 (t.x.e k).inn,.int .u64 (t.x.e k).out]:=zF hbl
  rw [hR]
  have j0:((t.x.e (1-k)).cells (two t.r0 t.r1 (1-k)))[0+0]?=some (.i (t.x.e (1-k)).what):=rfl
  refine qm ?_
  refine Ops.store1_chk rfl rfl rfl (by first | exact jab _ | (rw [jab])) (zw rfl) ?_ ?_
  ·exact jaN rfl (l:=t.x.cells t.r0 t.r1 t.wv) (ro:=false) (by rw [jaa om,jaa om,jac om];exact hx3) f14 rfl jbn
  refine Gb ?_
  generalize hh:H.set (H.set (H.set _ _ _) _ _) _ _=h5
  have y5:h5.nx=h3.nx+1:=by rw [<- hh];rfl
  have g5 : ∀ j,j<h3.nx->h5.get j=h3.get j:=fun j hj=>by
   rw [<- hh,jaa om,jaa om,jaa om,jac hj]
  have ehup:decide ((t.x.e (1-k)).what=3)=((t.x.e (1-k)).what == 3):=rfl
  have z5:h5.get h3.nx=some (.cells [.bool true,.bool false,.bool false,.bool ((t.x.e (1-k)).what == 3),.bool t.x.reset,.int .u64 (t.x.e k).inn,.int .u64 (t.x.e k).out] false):=by
   rw [<- hh,jab,<- ehup];rfl
  clear hh
  have o5:Old h0 h5:=o3.trans ⟨by omega,g5⟩
  have lr : ∀ i,i=0\/i=1 -> ∀ q,(t.x.e i).ring=some q->ja5 h5 (t.r i) (t.b i) q t.x.cap/\t.r i<h0.nx/\t.b i<h0.nx:=fun i hi q hq=>by
   obtain ⟨p1,_,_,p4,p5⟩:=X.ring i hi q hq
   exact ⟨p1.keep (o5.2 _ p4) (o5.2 _ p5),p4,p5⟩
  have q4:h5.get h0.nx=some jgB:=by rw [g5 _ om,z0]
  have q5:h5.get (h0.nx+2)=some (.cells [.bool true,.i (n:Int),.i (k:Int)] false):=by rw [g5 _ om,gp3]
  have q8:h5.get (h0.nx+3+0)=some (.cells ((t.x.e k).cells (two t.r0 t.r1 k)) false):=by rw [g5 _ om,zo]
  have q9:h5.get (h0.nx+3+1)=some (.cells ((t.x.e (1-k)).cells (two t.r0 t.r1 (1-k))) false):=by rw [g5 _ om,zt]
  have qx:h5.get t.wb=some (t.x.obj t.r0 t.r1 t.wv):=by rw [g5 _ om,hx3];rfl
  have hpair:=WI.pair k hk
  rw [hC]
  refine Run.fin_mono (wr_in hcl (d:=d) (bo:=t.b k) (n:=n) (hup:=(t.x.e (1-k)).what == 3) om hk q4 q5 q8 q9 z5 qx om om om om rfl (fun q hq=>(lr k hk q hq).1) fun hwr=>?_) fun v h' ⟨p1,p2⟩=>⟨p1,?_⟩
  ·obtain ⟨q,hq⟩:=zN.1 (hpair.1 hwr)
   obtain ⟨r1,r2,r3⟩:=lr (1-k) hk' q hq
   exact ⟨q,t.b (1-k),hq,r1,by show t.r (1-k)≠_;omega,by omega⟩
  ·have hn5:=o5.1
   exact ⟨zE hn5 p2.nx,fun j hj=>by rw [p2.get j om (by rintro (e | e)<;>omega),o5.2 j hj]⟩
end
structure Rdy where
 op:Bool
 inn:Bool
 out:Bool
 hup:Bool
 err:Bool
 rd:Int
 wr:Int
def Rdy.cells (r:Rdy):List V:=[.bool r.op,.bool r.inn,.bool r.out,.bool r.hup,.bool r.err,.int .u64 r.rd,.int .u64 r.wr]
def Rdy.no:Rdy:=⟨false,false,false,false,false,0,0⟩
def Wi.rdy (x:Wi) (k:Nat):Rdy :=
 if 0<x.backlog then ⟨true,!x.waiting.isEmpty,false,false,false,(x.e k).inn,(x.e k).out⟩
 else ⟨true,x.rIn k,x.rOut k,(x.e (1-k)).what == 3,x.reset,(x.e k).inn,(x.e k).out⟩
noncomputable def rdyS (ws:Ws) (fd:Int):Rdy:=jcs ws fd Rdy.no fun _ k x=>x.rdy k
theorem jhp (ws:Ws) (fd:Int):jit ws fd=(rdyS ws fd).cells:=by
 unfold jit rdyS jcs
 split
 ·rfl
 ·split
  ·rfl
  ·show Wi.ready _ _=(Wi.rdy _ _).cells
   unfold Wi.ready Wi.rdy
   split<;>rfl
def jeM (ev:Int):Prop:=ev=0\/ev=1\/ev=4\/ev=5
instance (ev:Int):Decidable (jeM ev):=inferInstanceAs (Decidable (_\/_))
def b2i (b:Bool) (n:Int):Int:=if b then n else 0
def jcL (r:Rdy) (fd ev:Int):Int :=
 if fd<0 then 0 else if r.op=false then 32 else b2i r.hup 16+b2i (r.inn&&decide (ev=1\/ev=5)) 1+b2i (r.out&&decide (ev=4\/ev=5)) 4+b2i r.err 8
theorem jiY (r:Rdy) (fd ev:Int):0<=jcL r fd ev/\jcL r fd ev<=63:=by
 unfold jcL b2i
 repeat' split
 all_goals omega
theorem jj3 {n:Nat} (hn:n<2 ^ 64) (h:IntKind.i64.wrap (n:Int)=0):n=0:=by
 have e:IntKind.wrap .i64 n=if (n:Int)%18446744073709551616>=9223372036854775808 then (n:Int)%18446744073709551616-18446744073709551616 else (n:Int)%18446744073709551616:=by
  unfold IntKind.wrap
  simp [IntKind.bits,IntKind.signed]
 rw [e] at h
 split at h<;>omega
theorem jnb (x:BitVec 64) (h:x &&& ~~~(5#64)=0#64):x=0#64\/x=1#64\/x=4#64\/x=5#64:=by
 have h5:x &&& 5#64=x:=by
  apply BitVec.eq_of_getElem_eq
  intro i hi
  have:=congrArg (fun y:BitVec 64=>y[i]) h
  simp only [BitVec.getElem_and,BitVec.getElem_not,BitVec.getElem_zero] at this ⊢
  revert this
  cases x[i]<;>cases (5#64)[i]<;>simp
 have hle:x.toNat<=5:=by
  have e:(x &&& 5#64).toNat=x.toNat:=by rw [h5]
  rw [BitVec.toNat_and] at e
  have:=Nat.and_le_right (n:=x.toNat) (m:=(5#64).toNat)
  rw [e] at this
  exact this
 have hx:x=BitVec.ofNat 64 x.toNat:=by simp
 generalize x.toNat=n at hle hx
 subst hx
 rcases (by omega:n=0\/n=1\/n=2\/n=3\/n=4\/n=5) with rfl | rfl | rfl | rfl | rfl | rfl
 ·exact .inl rfl
 ·exact .inr (.inl rfl)
 ·exact zM h (by decide)
 ·exact zM h (by decide)
 ·exact .inr (.inr (.inl rfl))
 ·exact .inr (.inr (.inr rfl))
theorem jlP {ev:Int} (h0 : -9223372036854775808<=ev) (h1:ev<=9223372036854775807):(IntKind.i64.wrap (BitVec.ofInt 64 ev &&& ~~~(BitVec.ofInt 64 5)).toNat=0)↔jeM ev:=by
 constructor
 ·intro h
  have h2:=jj3 (BitVec.isLt _) h
  have h3:BitVec.ofInt 64 ev &&& ~~~(5#64)=0#64:=BitVec.eq_of_toNat_eq (by simpa using h2)
  have hi:(BitVec.ofInt 64 ev).toInt=ev:=by
   rw [BitVec.toInt_ofInt]
   unfold Int.bmod
   simp
   split<;>omega
  have key : ∀ n:Int,BitVec.ofInt 64 ev=BitVec.ofInt 64 n->(BitVec.ofInt 64 n).toInt=n->ev=n:=fun n e e2=>by rw [<- hi,e,e2]
  rcases jnb _ h3 with e | e | e | e
  ·exact .inl (key 0 e rfl)
  ·exact .inr (.inl (key 1 e rfl))
  ·exact .inr (.inr (.inl (key 4 e rfl)))
  ·exact .inr (.inr (.inr (key 5 e rfl)))
 ·rintro (rfl | rfl | rfl | rfl)<;>rfl
structure BX (h0 h:H) (p w s rw:Nat) (ow:Nat->Nat) (ro:Nat->Prop) (st:St) (i:Nat):Prop where
 b:BB h p w s rw ow ro (fun j=>j<h0.nx) st st
 so:StOk st i
 old:Old h0 h
 own : ∀ j,ow j≠0\/ro j->h0.nx<=j
 lp:h0.nx<=p
theorem joB {h0 h h':H} {ow ow':Nat->Nat} {ro ro':Nat->Prop} (o:Old h0 h) (f:Fm h h' ow ro ow' ro') (own : ∀ j,ow j≠0\/ro j->h0.nx<=j):Old h0 h' :=
 ⟨zE o.1 f.ch.nx,fun j hj=>by rw [f.ch.get j (zu hj o.1) fun hb=>by have:=own j hb;omega,o.2 j hj]⟩
theorem BX.fm {h0 h h':H} {p w s rw:Nat} {ow ow':Nat->Nat} {ro ro':Nat->Prop} {st st':St} {i i':Nat} (x:BX h0 h p w s rw ow ro st i) (b:BB h' p w s rw ow' ro' (fun j=>j<h0.nx) st' st') (f:Fm h h' ow ro ow' ro') (so:StOk st' i'):BX h0 h' p w s rw ow' ro' st' i':=by
 refine ⟨b,so,joB x.old f x.own,fun j hj=>?_,x.lp⟩
 rcases zA j h.nx with h1 | h1
 ·rw [f.tag j h1,f.rtag j h1] at hj
  exact x.own j hj
 ·exact zE x.old.1 h1
theorem BX.old' {h0 h h':H} {p w s rw:Nat} {ow:Nat->Nat} {ro:Nat->Prop} {st:St} {i:Nat} (x:BX h0 h p w s rw ow ro st i) (o:Old h h'):BX h0 h' p w s rw ow ro st i :=
 x.fm (x.b.old o) (Fm.old o) x.so
def st0:St:=⟨[],0,Tb.zero,none⟩
theorem atS_nil (fd:Int):atS [] fd=none:=jfN fun n k=>by rintro ⟨x,h,_⟩;simp at h
theorem st0_ok:StOk st0 0 where
 K:=⟨⟨fun n k n' k' fd h=>(by obtain ⟨x,hx,_⟩:=h;simp [st0] at hx),fun x hx=>(by simp [st0] at hx),by simp [st0],fun x hx=>(by simp [st0] at hx)⟩,fun i j x y p q m hx=>by simp [st0] at hx⟩
 nt := .inl rfl
 now:=⟨Int.le_refl _,by show (0:Int)<=_;omega⟩
 tb:=fun k=>⟨Int.le_refl _,Int.le_refl _⟩
theorem Ops.build {call:Call} {fuel base:Nat} {K:List Fr} {e:Env} {h:H} {Q:Post} {ix:Nat} {dst:Option Nat} {ops:List Ins} {keep:List Nat} {at_:Option Nat} {zero l:List V} {parts:List (Nat × Nat × Opd)} {ps:List (Nat × Nat × V)}
  (he:jbE e parts=some ps) (hf:jaJ zero ps=some l) (k:Ops call fuel base ops keep K (layv e dst (.agg l)) h Q):Ops call fuel base (⟨ix,dst,.build zero parts,none,at_,[]⟩ :: ops) keep K e h Q :=
 zau rfl (by simp only [I.pure,he,hf]) k
section
variable {cl:Nat->Call} (hcl:Sem cl)
include hcl
def wc0 (s:Nat):List V:=(List.replicate 96 ([.bool false,.i 0,.i 0]:List V)).flatten++[.nils,.p s 0,.int .u64 0,.bool false,.i 0,.i 0]
def rc0:List V := .nils :: tail 0 (fun _=>false) (fun _=>0) (-1) 0
omit hcl in
theorem wc0_eq (s:Nat):wc0 s=wc (fun i=>atS [] (i:Int)) .nils s 0 none:=by
 have e:(fun i:Nat=>atS [] (i:Int))=fun _=>none:=by funext i;exact atS_nil _
 rw [e]
 have:(List.replicate 96 ([.bool false,.i 0,.i 0]:List V)).flatten=jeb fun _=>none:=by
  kernel_rfl
 unfold wc0 wc
 rw [this]
 rfl
omit hcl in
theorem fillW (s:Nat):jaJ ((List.replicate 96 ([.bool false,.i 0,.i 0]:List V)).flatten++[.nils,.ptr none,.int .u64 0,.bool false,.i 0,.i 0]) [(289,1,.p s 0)]=some (wc0 s):=by kernel_rfl
omit hcl in
theorem fillR:jaJ ([.nils,.int .u64 0]++List.replicate 32 (.bool false:V)++List.replicate 34 (.i 0:V)) [(66,1,.i (-1))]=some rc0:=by kernel_rfl
set_option maxRecDepth 100000 in
theorem nw_world {d:Nat} (hd:2<=d) (h:H):cl d (.fn 17) [] h=some (.p (h.nx+1) 0,(h.new Tb.zero.obj).new (.cells (wc0 h.nx) false)):=by
 have hs:=sp_new hcl (d:=d-1) om h
 refine jan (aT hcl ?_)
 refine zab (zac (Ops.mv rfl (Ops.nil qkp (End.seq (zab (zac (zaw rfl hs (Ops.build rfl (fillW h.nx) (zcu rfl rfl ?_)))))))))
 refine qo ?_
 exact ⟨rfl,rfl⟩
set_option maxRecDepth 100000 in
theorem nw_ref {d:Nat} (hd:1<=d) (h:H):cl d (.fn 23) [] h=some (.p h.nx 0,h.new (.cells rc0 false)):=by
 refine jan (aT hcl ?_)
 refine zab (zac (Ops.mv rfl (Ops.nil qkp (End.seq (zab (zac (Ops.build rfl fillR (zcu rfl rfl ?_))))))))
 refine qo ?_
 exact ⟨rfl,rfl⟩
end
def jk3 (n:Int):UInt8:=UInt8.ofNat n.toNat
theorem byteI_V {n:Int} (h1:0<=n) (h2:n<=255):jg0 (jk3 n) = .int .u8 n:=by
 have:n.toNat<256:=by omega
 simp only [jg0,jk3,UInt8.toNat_ofNat',Nat.mod_eq_of_lt this]
 congr 1;omega
theorem jjG {h:H} : ∀ {l:List Int} {cs:List V},jbq (jbM .u8) h l cs->cs=bts (l.map jk3)
 | [],_,e=>e
 | x :: l,_,⟨u,w,e,h1,h2⟩=>by
  obtain ⟨rfl,h3⟩:=h1
  rw [e,jjG h2,<- byteI_V h3.1 h3.2];rfl
theorem jjt {h:H} {l:List Int} {u:V} {B:Nat} (r:jb0 B (jbM .u8) h l [u]) : ∃ a c,u = .slice a l.length (.fix c)/\(l.length<=B->BytesAt h a (.fix c) (l.map jk3)):=by
 obtain ⟨a,c,e,h1,h2,h3⟩:=r
 cases e
 refine ⟨a,c,rfl,fun hB=>⟨fun e=>?_,by show (l.map jk3).length<=c;simpa using h2,fun hn=>?_⟩⟩
 ·obtain ⟨rfl,rfl⟩:=h3 e;exact ⟨rfl,rfl⟩
 ·obtain ⟨b,cs,q1,q2,q3,q4⟩:=h1 hB (by rintro rfl;exact hn rfl)
  refine ⟨b,0,cs,true,q1,q2,q3,fun i x hi=>?_⟩
  rw [jjG q4,zS];exact jjv hi
theorem BytesAt.keep {h h':H} {a:Option (Nat × Nat)} {c:Cap} {l:List UInt8} (t:BytesAt h a c l) (hx:h.nx<=h'.nx) (hk : ∀ j o,j<h.nx->h.get j=some o->h'.get j=some o):BytesAt h' a c l :=
 ⟨t.none_,t.fits,fun hn=>by
  obtain ⟨b,o,cs,ro,q1,q2,q3,q4⟩:=t.at_ hn
  exact ⟨b,o,cs,ro,q1,by omega,hk _ _ q2 q3,q4⟩⟩
theorem BytesAt.lt {h:H} {a:Option (Nat × Nat)} {c:Cap} {l:List UInt8} (t:BytesAt h a c l) {N:Nat} (hN:h.nx<=N) {z o:Nat} (ha:a=some (z,o)) (hl:l≠[]):z<N:=by
 obtain ⟨b,o',cs,ro,q1,q2,_⟩:=t.at_ hl
 rw [q1] at ha;cases ha;omega
structure OpX where
 k:Int
 a:Int
 n:Int
 t:Int
 dv:V
 D:List UInt8
abbrev OpX.V (x:OpX):List V:=opV x.k x.a x.n x.t x.dv
structure OpOk (h:H) (x:OpX):Prop where
 dv : ∃ a c,x.dv = .slice a x.D.length c/\(x.D.length<=300->BytesAt h a c x.D)
 t0:0<=x.t
 t1:x.t<=18446744073709551615
theorem OpOk.keep {h h':H} {x:OpX} (o:OpOk h x) (hx:h.nx<=h'.nx) (hk : ∀ j o,j<h.nx->h.get j=some o->h'.get j=some o):OpOk h' x:=by
 obtain ⟨⟨a,c,e,g⟩,t0,t1⟩:=o
 exact ⟨⟨a,c,e,fun hl=>(g hl).keep hx hk⟩,t0,t1⟩
theorem OpOk.dat {h:H} {x:OpX} (o:OpOk h x) (hl:x.D.length<=300):Dat h (fun j=>j<h.nx) x.dv x.D:=by
 obtain ⟨⟨a,c,e,g⟩,_,_⟩:=o
 refine ⟨⟨a,c,e,g hl⟩,fun hn z hz=>?_,hl⟩
 obtain ⟨b,o,cs,ro,q1,q2,_⟩:=(g hl).at_ hn
 rw [e,q1] at hz
 cases hz;exact q2
def jne (h:H) (lv:V) (L:List OpX):Prop := ∃ ad c,lv = .slice ad L.length c/\(L.length<=200->(∀ x∈L,OpOk h x)/\(L≠[] -> ∃ b cs ro,ad=some (b,0)/\b<h.nx/\h.get b=some (.cells cs ro)/\cs.length=L.length*5 /\ ∀ (i:Nat) (x:OpX),L[i]?=some x->(cs.drop (i*5)).take 5=x.V))
theorem jne.keep {h h':H} {lv:V} {L:List OpX} (o:jne h lv L) (hx:h.nx<=h'.nx) (hk : ∀ j o,j<h.nx->h.get j=some o->h'.get j=some o):jne h' lv L:=by
 obtain ⟨ad,c,e,g⟩:=o
 refine ⟨ad,c,e,fun hl=>⟨fun x hx'=>((g hl).1 x hx').keep hx hk,fun hn=>?_⟩⟩
 obtain ⟨b,cs,ro,q1,q2,q3,q4⟩:=(g hl).2 hn
 exact ⟨b,cs,ro,q1,by omega,hk _ _ q2 q3,q4⟩
def fewL (L:List OpX):Prop:=L.length<=200 /\ ∀ x∈L,x.D.length<=300
theorem jfl {α : Type} {l:List α} {i:Nat} (h:i<l.length) : ∃ x,l[i]?=some x:=⟨_,za h⟩
section
variable {cl:Nat->Call} (hcl:Sem cl)
include hcl
theorem gr_ok {d:Nat} {h:H} {lv:V} {L:List OpX} (hd:1<=d) (hL:jne h lv L) :
  ∃ v,cl d (.fn 21) [lv] h=some (v,h)/\(v = .i 1\/(v = .i 0/\fewL L)):=by
 obtain ⟨ad,c,rfl,hin⟩:=hL
 suffices ∃ v h',cl d (.fn 21) [.slice ad L.length c] h=some (v,h')/\(h'=h/\(v = .i 1\/(v = .i 0/\fewL L))) by
  obtain ⟨v,h',q1,rfl,q3⟩:=this
  exact ⟨v,q1,q3⟩
 refine aT hcl ?_
 by_cases h1:200<(L.length:Int)
 ·refine Ga ?_
  exact ⟨rfl,.inl rfl⟩
 obtain ⟨hok,hel⟩:=hin om
 refine Ga ?_
 refine Zx (fun m e h'=>∃ i:Nat,m=L.length-i/\i<=L.length/\e=[(0,.slice ad L.length c),(8,.i (L.length:Int)),(9,.i (i:Int))]/\h'=h /\ ∀ j x,j<i->L[j]?=some x->x.D.length<=300) (k:=L.length) Ze ⟨0,rfl,by omega,rfl,rfl,fun j x hj=>by omega⟩ ?_
 rintro _ _ _ ⟨i,rfl,hi,rfl,rfl,hj⟩ n' ih
 by_cases hlt:(i:Int)<L.length
 case neg=>
  have hf:fewL L:=⟨by omega,fun x hx=>by
   obtain ⟨j,hjl,e⟩:=zY hx
   exact hj j x om (by rw [za hjl,e])⟩
  clear ih hel hok hj
  refine Ga ?_
  exact ⟨rfl,.inr ⟨rfl,hf⟩⟩
 obtain ⟨x,hx⟩:=jfl (l:=L) (i:=i) om
 obtain ⟨b,cs,ro,rfl,_,hb,hcl',hc⟩:=hel (by rintro rfl;simp at hx)
 obtain ⟨⟨da,dc,edv,_⟩,_,_⟩:=hok x (zb hx)
 have h5:=hc i x hx
 have hc':cs[0+(i:Int).toNat*5+4]?=some (.slice da x.D.length dc):=by
  have:((cs.drop (i*5)).take 5)[4]?=some x.dv:=by rw [h5];rfl
  rw [zQ,zG om,zn] at this
  rw [show 0+(i:Int).toNat*5+4=i*5+4 by omega,this,edv]
 clear hel hok hc h5
 by_cases hd3:300<(x.D.length:Int)
 ·clear ih hj
  refine Ga ?_
  exact ⟨rfl,.inl rfl⟩
 ·have hi1:(i:Int)+1=((i+1:Nat):Int):=by omega
  refine Ga ?_
  rw [hi1]
  refine ih (L.length-(i+1)) om _ _ ⟨i+1,rfl,by omega,rfl,rfl,fun j y hj' hy=>?_⟩
  by_cases e:j=i
  ·subst e
   rw [hx] at hy;cases hy
   omega
  ·exact hj j y om hy
end
structure Mv where
 op:Int
 wire:Int
 n:Int
 D:List UInt8
def Mv.may (m:Mv):Prop :=
 1<=m.op/\m.op<=7/\0<=m.wire/\0<=m.n/\m.D.length<=1000/\(m.op=7->m.wire=0)/\(m.op=2\/m.op=6\/m.op=7\/m.n=0)/\(m.op=1↔0<m.D.length)
instance (m:Mv):Decidable m.may:=by unfold Mv.may;infer_instance
noncomputable def Mv.ans (m:Mv) (st:St):Int × Int :=
 if m.op=1 then (putS st.ws m.wire m.D).1
 else if m.op=2 then ((jcb st.ws m.wire m.n).1.1.length,(jcb st.ws m.wire m.n).1.2)
 else if m.op=3 then (0,(ja6 st.ws m.wire).1)
 else if m.op=4 then (0,(ja1 st.ws m.wire).1)
 else if m.op=5 then (0,(jbL st.ws m.wire).1)
 else if m.op=6 then (jar st.ws m.wire m.n).1
 else (0,if sig? m.n then 0 else 100)
noncomputable def Mv.go (m:Mv) (st:St):St:=doS (if m.op=7 then 17 else m.op+8) (if m.op=7 then m.n else m.wire) m.n 0 m.D st
noncomputable def mvS (m:Mv) (st:St):(Int × Int) × St:=if m.may then (m.ans st,m.go st) else ((0,120),st)
theorem mvS_ok {m:Mv} {st:St} {i:Nat} (o:StOk st i):StOk (mvS m st).2 (i+1):=by
 unfold mvS
 split
 ·exact joc o om om
 ·exact o.more
theorem Mv.go_1 {m:Mv} {st:St} (h:m.op=1):m.go st = { st with ws:=(putS st.ws m.wire m.D).2 } := by simp [Mv.go,doS,h]
theorem Mv.go_2 {m:Mv} {st:St} (h:m.op=2):m.go st = { st with ws:=(jcb st.ws m.wire m.n).2 } := by simp [Mv.go,doS,h]
theorem Mv.go_3 {m:Mv} {st:St} (h:m.op=3):m.go st = { st with ws:=(ja6 st.ws m.wire).2 } := by simp [Mv.go,doS,h]
theorem Mv.go_4 {m:Mv} {st:St} (h:m.op=4):m.go st = { st with ws:=(ja1 st.ws m.wire).2 } := by simp [Mv.go,doS,h]
theorem Mv.go_5 {m:Mv} {st:St} (h:m.op=5):m.go st = { st with ws:=(jbL st.ws m.wire).2 } := by simp [Mv.go,doS,h]
theorem Mv.go_6 {m:Mv} {st:St} (h:m.op=6):m.go st = { st with ws:=(jar st.ws m.wire m.n).2 } := by simp [Mv.go,doS,h]
theorem Mv.go_7 {m:Mv} {st:St} (h:m.op=7):m.go st = { st with ws:=jao st.ws ((st.tb.raise m.n).sum 32) (noI st.no) (siI st.no),tb:=st.tb.raise m.n } := by simp [Mv.go,doS,h]
structure Sp where
 ticks:Int
 intr:Bool
 order:List Int
 moves:List Mv
noncomputable def mvsS:List Mv->St->St
 | [],st=>st
 | m :: l,st=>mvsS l (mvS m st).2
def jdq (op:Int):List UInt8:=if op=1 then [119,100] else if op=2\/op=6 then [119,110] else if op=3\/op=4\/op=5 then [119] else if op=7 then [110] else []
theorem parts_w (op:Int):decide (0<=idxB 119 (jdq op) 0)=decide (1<=op/\op<=6):=by
 unfold jdq
 (repeat' split)<;>(refine decide_eq_decide.2 ⟨fun _=>?_,fun _=>?_⟩)<;>first | omega | decide | (exfalso;omega) | (rename_i h;exact zM h (by decide))
theorem parts_n (op:Int):decide (0<=idxB 110 (jdq op) 0)=decide (op=2\/op=6\/op=7):=by
 unfold jdq
 (repeat' split)<;>(refine decide_eq_decide.2 ⟨fun _=>?_,fun _=>?_⟩)<;>first | omega | decide | (exfalso;omega) | (rename_i h;exact zM h (by decide))
theorem parts_d (op:Int):decide (0<=idxB 100 (jdq op) 0)=decide (op=1):=by
 unfold jdq
 (repeat' split)<;>(refine decide_eq_decide.2 ⟨fun _=>?_,fun _=>?_⟩)<;>first | omega | decide | (exfalso;omega) | (rename_i h;exact zM h (by decide))
section
variable {cl:Nat->Call} (hcl:Sem cl)
include hcl
theorem jkH {d:Nat} {h:H} {s:List UInt8} {c:UInt8} (hd:5<=d):cl d (.fn 142) [.str s,.str [c]] h=some (.bool (decide (0<=idxB c s 0)),h):=by
 have e0:cl (d-4) (.fn 154) [.str s,.int .u8 (c.toNat:Int)] h=some (.i (idxB c s 0),h):=by
  rw [prim_ hcl om (p:=jc0) rfl]
  show some (V.i (idxB ((c.toNat:Int).toNat.toUInt8) s 0),h)=_
  rw [show ((c.toNat:Int).toNat.toUInt8)=c by simp]
 have e1:cl (d-3) (.fn 150) [.str s,.int .u8 (c.toNat:Int)] h=some (.i (idxB c s 0),h):=by
  refine jan (aT hcl ?_)
  refine Ga ?_
  exact ⟨rfl,rfl⟩
 have e2:cl (d-2) (.fn 149) [.str s,.str [c]] h=some (.i (idxB c s 0),h):=by
  refine jan (aT hcl ?_)
  have n0 : ¬ (([c].length:Nat):Int)=0:=by simp
  have n1:(([c].length:Nat):Int)=1:=by simp
  clear e0
  repeat' (first|refine qxy ?_|(refine zsp ?_ ?_<;>intro _)|fail)
  ·next hs=>
   obtain rfl:[c]=s:=by simpa using hs
   exact ⟨by simp [idxB],rfl⟩
  ·exact ⟨rfl,rfl⟩
 have e3:cl (d-1) (.fn 148) [.str s,.str [c]] h=some (.i (idxB c s 0),h):=by
  refine jan (aT hcl ?_)
  clear e0 e1
  refine Ga ?_
  exact ⟨rfl,rfl⟩
 refine jan (aT hcl ?_)
 clear e0 e1 e2
 refine Ga ?_
 exact ⟨rfl,rfl⟩
theorem jl2 {d:Nat} {h:H} {op:Int} (hd:1<=d):cl d (.fn 143) [.i op] h=some (.str (jdq op),h):=by
 refine jan (aT hcl ?_)
 unfold jdq
 by_cases h1:op=1
 ·rw [zG h1]
  refine Ga ?_
  exact ⟨rfl,rfl⟩
 rw [zF h1]
 by_cases h2:op=2
 ·rw [zG (.inl h2)]
  refine Ga ?_
  exact ⟨rfl,rfl⟩
 by_cases h6:op=6
 ·rw [zG (.inr h6)]
  refine Ga ?_
  exact ⟨rfl,rfl⟩
 rw [zF om]
 by_cases h3:op=3
 ·rw [zG (.inl h3)]
  refine Ga ?_
  exact ⟨rfl,rfl⟩
 by_cases h4:op=4
 ·rw [zG (.inr (.inl h4))]
  refine Ga ?_
  exact ⟨rfl,rfl⟩
 by_cases h5:op=5
 ·rw [zG (.inr (.inr h5))]
  refine Ga ?_
  exact ⟨rfl,rfl⟩
 rw [zF om]
 by_cases h7:op=7
 ·rw [zG h7]
  refine Ga ?_
  exact ⟨rfl,rfl⟩
 rw [zF h7]
 refine Ga ?_
 exact ⟨rfl,rfl⟩
theorem jnq {d b:Nat} {h:H} {op:Int} {c:UInt8} {l:List V} {ro:Bool} (hd:6<=d) (hb:h.get b=some (.cells (.i op :: l) ro)):cl d (.fn 141) [.str [c],.p b 0] h=some (.bool (decide (0<=idxB c (jdq op) 0)),h):=by
 have e1:=jl2 hcl (d:=d-1) (h:=h) (op:=op) om
 have e2:=jkH hcl (d:=d-1) (h:=h) (s:=jdq op) (c:=c) om
 refine jan (aT hcl ?_)
 refine Ga ?_
 exact ⟨rfl,rfl⟩
theorem rm_wire {d:Nat} {h:H} {op:Int} (hd:1<=d):cl d (.fn 109) [.i op] h=some (.bool (decide (1<=op/\op<=6)),h):=by
 refine jan (aT hcl ?_)
 by_cases h1:1<=op
 ·refine Ga ?_
  exact ⟨by simp [h1],rfl⟩
 ·refine Ga ?_
  exact ⟨by simp [h1],rfl⟩
theorem rm_number {d:Nat} {h:H} {op:Int} (hd:1<=d):cl d (.fn 110) [.i op] h=some (.bool (decide (op=2\/op=6\/op=7)),h):=by
 refine jan (aT hcl ?_)
 by_cases h1:op=2
 ·refine Ga ?_
  exact ⟨by simp [h1],rfl⟩
 by_cases h2:op=6
 ·refine Ga ?_
  exact ⟨by simp [h2],rfl⟩
 ·refine Ga ?_
  exact ⟨by simp [h1,h2],rfl⟩
end
theorem jgM {m:Mv} (h:m.op<1\/m.op>7\/m.wire<0\/m.n<0\/m.D.length>1000\/(m.op=7/\m.wire≠0)\/(m.op≠2/\m.op≠6/\m.op≠7/\m.n≠0)):decide m.may=false:=by
 refine zH fun c=>?_
 obtain ⟨c1,c2,c3,c4,c5,c6,c7,_⟩:=c
 omega
theorem joY {m:Mv} (h1 : ¬ m.op<1) (h2 : ¬ m.op>7) (h3 : ¬ m.wire<0) (h4 : ¬ m.n<0) (h6:m.op≠7\/m.wire=0) (h7:m.op=2\/m.op=6\/m.op=7\/m.n=0) :
  decide m.may=decide (m.D.length<=1000/\(m.op=1↔0<m.D.length)) :=
 decide_eq_decide.2 ⟨fun c=>⟨c.2.2.2.2.1,c.2.2.2.2.2.2.2⟩,fun c=>⟨by omega,by omega,by omega,by omega,c.1,by omega,by omega,c.2⟩⟩
abbrev mvV (m:Mv) (dv:V):List V:=[.i m.op,.i m.wire,.i m.n,dv]
theorem Ops.callc_chk {call:Call} {fuel base:Nat} {K:List Fr} {e:Env} {h h':H} {Q:Post} {ix:Nat} {dst at_:Option Nat} {ops:List Ins} {keep:List Nat} {chk:List (Nat × I × Option (Nat × Bool))} {f:FuncId} {x:Opd} {args:List Opd} {cap vs:List V} {v:V} (hx:x.ev e=some (.clo f cap)) (ha:evs e args=some vs) (hc:call (.fn f) (vs++cap) h=some (v,h')) (hk:jaO e h' chk=true) (k:Ops call fuel base ops keep K (layv e dst v) h' Q) :
  Ops call fuel base (⟨ix,dst,.callv x args,none,at_,chk⟩ :: ops) keep K e h Q :=
 Ops.step_chk (Zw rfl (by simp only [I.eff,hx,ha,hc])) hk k
section
variable {cl:Nat->Call} (hcl:Sem cl) {h:H} {m:Mv} {a:Option (Nat × Nat)} {c:Cap}
include hcl
theorem rm_may {d:Nat} (hd:2<=d) : ∃ h',cl d (.fn 58) [.agg (mvV m (.slice a m.D.length c))] h=some (.bool (decide m.may),h')/\Old h h':=by
 have o:Old h (h.new (.cells (mvV m (.slice a m.D.length c)) false)):=(ZD h).new
 have ew:=rm_wire hcl (d:=d-1) (op:=m.op) (h:=h.new (.cells (mvV m (.slice a m.D.length c)) false)) om
 have en:=rm_number hcl (d:=d-1) (op:=m.op) (h:=h.new (.cells (mvV m (.slice a m.D.length c)) false)) om
 have g0:(h.new (.cells (mvV m (.slice a m.D.length c)) false)).get h.nx=some (.cells (mvV m (.slice a m.D.length c)) false):=jad _
 refine jai (aT hcl ?_)
 obtain ⟨C,hC⟩ : ∃ C,C=c58_1:=⟨_,rfl⟩
 simp only [c58,c58_2,<- hC,yB,yL]
 by_cases c1:m.op<1
 ·have hf:=jgM (.inl c1)
  clear ew en
  refine qm ?_
  exact ⟨by rw [hf],o⟩
 by_cases c2:m.op>7
 ·have hf:=jgM (m:=m) om
  clear ew en
  refine qm ?_
  exact ⟨by rw [hf],o⟩
 by_cases c3:m.wire<0
 ·have hf:=jgM (m:=m) om
  clear ew en
  refine qm ?_
  exact ⟨by rw [hf],o⟩
 by_cases c4:m.n<0
 ·have hf:=jgM (m:=m) om
  clear ew en
  refine qm ?_
  exact ⟨by rw [hf],o⟩
 by_cases c5:(m.D.length:Int)>1000
 ·have hf:=jgM (m:=m) om
  clear ew en
  refine qm ?_
  exact ⟨by rw [hf],o⟩
 have tail : ∀ sb,Run (cl (d-1)) fuel C [] ((1,.p h.nx 0) :: sb) (h.new (.cells (mvV m (.slice a m.D.length c)) false)) (Fin c58.res fun v h'=>v = .bool (decide m.may)/\Old h h'):=fun sb=>by
  rw [hC]
  generalize h.new (.cells (mvV m (.slice a m.D.length c)) false)=G at o ew en g0 ⊢
  have fin : ∀ p:Prop,[Decidable p]->(p↔(m.op=1↔0<m.D.length))->(m.op≠7\/m.wire=0)->(m.op=2\/m.op=6\/m.op=7\/m.n=0)->V.bool (decide p)=V.bool (decide m.may):=fun p _ hp h6 h7=>by
   rw [joY c1 c2 c3 c4 h6 h7]
   exact congrArg V.bool (decide_eq_decide.2 ⟨fun x=>⟨by omega,hp.1 x⟩,fun x=>hp.2 x.2⟩)
  have e1:(decide (m.op=1)=decide ((m.D.length:Int)>0))↔(m.op=1↔0<m.D.length):=by rw [decide_eq_decide];omega
  clear hC
  by_cases c7:m.op=7
  ·rw [zH om] at ew
   rw [zJ om] at en
   by_cases c6:m.wire=0
   ·have hf:=fin _ e1 om om
    clear fin e1 c1 c2 c3 c4 c5
    refine qm ?_
    exact ⟨hf,o⟩
   ·have hf:=jgM (m:=m) om
    clear fin e1 c1 c2 c3 c4 c5
    refine qm ?_
    exact ⟨by rw [hf],o⟩
  ·rw [zJ om] at ew
   by_cases c8:m.op=2\/m.op=6\/m.op=7
   ·rw [zJ c8] at en
    have hf:=fin _ e1 om om
    clear fin e1 c1 c2 c3 c4 c5 c8 c7
    refine qm ?_
    exact ⟨hf,o⟩
   rw [zH c8] at en
   by_cases c9:m.n=0
   ·have hf:=fin _ e1 om om
    clear fin e1 c1 c2 c3 c4 c5 c8 c7
    refine qm ?_
    exact ⟨hf,o⟩
   ·have hf:=jgM (m:=m) om
    clear fin e1 c1 c2 c3 c4 c5 c8 c7
    refine qm ?_
    exact ⟨by rw [hf],o⟩
 clear ew en
 refine qm ?_
 exact tail _
theorem jo1 {d:Nat} (hd:7<=d) : ∃ h',cl d (.fn 128) [.agg (mvV m (.slice a m.D.length c))] h=some (.bool (decide m.may),h')/\Old h h':=by
 have o:Old h (h.new (.cells (mvV m (.slice a m.D.length c)) false)):=(ZD h).new
 have g0:(h.new (.cells (mvV m (.slice a m.D.length c)) false)).get h.nx=some (.cells (mvV m (.slice a m.D.length c)) false):=jad _
 have en:=jl2 hcl (d:=d-1) (op:=m.op) (h:=h.new (.cells (mvV m (.slice a m.D.length c)) false)) om
 have ew:=jnq hcl (d:=d-1) (c:=119) om g0
 have eN:=jnq hcl (d:=d-1) (c:=110) om g0
 have ed:=jnq hcl (d:=d-1) (c:=100) om g0
 rw [parts_w] at ew
 rw [parts_n] at eN
 rw [parts_d] at ed
 refine jai (aT hcl ?_)
 obtain ⟨C,hC⟩ : ∃ C,C=c128_4:=⟨_,rfl⟩
 simp only [c128,<- hC,yN]
 by_cases c0:m.op<1\/m.op>7
 ·have ep:jdq m.op=[]:=by
   unfold jdq
   rw [zF om,zF om,zF om,zF om]
  rw [ep] at en
  refine qm ?_
  exact ⟨by rw [jgM om],o⟩
 obtain ⟨x,t,ep⟩ : ∃ x t,jdq m.op=x :: t:=by
  unfold jdq
  by_cases h1:m.op=1
  ·rw [zG h1];exact ⟨_,_,rfl⟩
  rw [zF h1]
  by_cases h2:m.op=2\/m.op=6
  ·rw [zG h2];exact ⟨_,_,rfl⟩
  rw [zF h2]
  by_cases h3:m.op=3\/m.op=4\/m.op=5
  ·rw [zG h3];exact ⟨_,_,rfl⟩
  rw [zF h3,zG om];exact ⟨_,_,rfl⟩
 rw [ep] at en
 have c1 : ¬ m.op<1:=by omega
 have c2 : ¬ m.op>7:=by omega
 by_cases c3:m.wire<0
 ·refine qm ?_
  exact ⟨by rw [jgM om],o⟩
 by_cases c4:m.n<0
 ·refine qm ?_
  exact ⟨by rw [jgM om],o⟩
 have fin : ∀ p:Prop,[Decidable p]->(p↔(m.op=1↔0<m.D.length)/\m.D.length<=1000)->(m.op≠7\/m.wire=0)->(m.op=2\/m.op=6\/m.op=7\/m.n=0)->V.bool (decide p)=V.bool (decide m.may):=fun p _ hp h6 h7=>by
  rw [joY c1 c2 c3 c4 h6 h7]
  exact congrArg V.bool (decide_eq_decide.2 ⟨fun x=>(hp.1 x).symm,fun x=>hp.2 x.symm⟩)
 have e1:(decide (m.op=1)=decide ((m.D.length:Int)>0))↔(m.op=1↔0<m.D.length):=by rw [decide_eq_decide];omega
 have tail : ∀ sb,(m.op≠7\/m.wire=0)->(m.op=2\/m.op=6\/m.op=7\/m.n=0)->Run (cl (d-1)) fuel C [] ((1,.p h.nx 0) :: (3,.clo 141 [.p h.nx 0]) :: sb) (h.new (.cells (mvV m (.slice a m.D.length c)) false)) (Fin c128.res fun v h'=>v = .bool (decide m.may)/\Old h h'):=fun sb h6 h7=>by
  rw [hC]
  clear ew eN en c0
  generalize hE:(decide (m.op=1):Bool)=b1 at ed e1
  have hfin:=fun p [Decidable p] hp=>fin p hp h6 h7
  have hmt:=joY c1 c2 c3 c4 h6 h7
  clear fin h6 h7
  refine qm ?_
  refine Ops.callc_chk rfl rfl ed (jaN rfl g0 rfl rfl jbn) ?_
  by_cases e2:b1=decide ((m.D.length:Int)>0)
  ·refine qm ?_
   exact ⟨hfin _ ⟨fun x=>⟨e1.1 e2,by omega⟩,fun x=>by have:=x.2;omega⟩,o⟩
  ·refine qm ?_
   exact ⟨by rw [hmt];exact congrArg V.bool (zH fun x=>e2 (e1.2 x.2)).symm,o⟩
 clear c0 fin e1
 by_cases c7:m.op=7
 ·rw [zH om] at ew
  rw [zJ om] at eN
  by_cases c6:m.wire=0
  ·have tl:=fun sb=>tail sb om om
   clear tail
   refine qm ?_
   refine Ops.callc rfl rfl ew ?_
   refine qm ?_
   refine Ops.callc rfl rfl eN ?_
   refine qm ?_
   exact tl _
  ·clear tail
   refine qm ?_
   refine Ops.callc rfl rfl ew ?_
   refine qm ?_
   exact ⟨by rw [jgM om],o⟩
 ·rw [zJ om] at ew
  by_cases c8:m.op=2\/m.op=6\/m.op=7
  ·rw [zJ c8] at eN
   have tl:=fun sb=>tail sb om om
   clear c8 tail
   refine qm ?_
   refine Ops.callc rfl rfl ew ?_
   refine qm ?_
   refine Ops.callc rfl rfl eN ?_
   refine qm ?_
   exact tl _
  rw [zH c8] at eN
  by_cases c9:m.n=0
  ·have tl:=fun sb=>tail sb om om
   clear c8 tail
   refine qm ?_
   refine Ops.callc rfl rfl ew ?_
   refine qm ?_
   refine Ops.callc rfl rfl eN ?_
   refine qm ?_
   exact tl _
  ·have hf:=jgM (m:=m) om
   clear c8 tail
   refine qm ?_
   refine Ops.callc rfl rfl ew ?_
   refine qm ?_
   refine Ops.callc rfl rfl eN ?_
   refine qm ?_
   exact ⟨by rw [hf],o⟩
end
def jjy (n:Nat) (v:V) (h':H):Bool:=jnQ v&&(Nat.beq h'.nx n&&Nat.ble (ttop h'.t) n)
abbrev jmH:H->Int × Int × Int × Int × List Int × Unit->List V->Prop:=jbw (jbM .i64) (jbw (jbM .i64) (jbw (jbM .i64) (jbw (jbM .u64) (jbw (jb0 300 (jbM .u8)) jjJ))))
theorem jhx {h:H} {x:Int × Int × Int × Int × List Int × Unit} {vs:List V} (r:jmH h x vs) : ∃ u,vs=[.i x.1,.i x.2.1,.i x.2.2.1,.int .u64 x.2.2.2.1,u]/\jb0 300 (jbM .u8) h x.2.2.2.2.1 [u]/\0<=x.2.2.2.1/\x.2.2.2.1<=18446744073709551615:=by
 obtain ⟨_,_,rfl,⟨rfl,_⟩,_,_,rfl,⟨rfl,_⟩,_,_,rfl,⟨rfl,_⟩,_,_,rfl,⟨rfl,ht⟩,u,w,rfl,r5,hw⟩:=r
 obtain rfl:w=[]:=hw
 have ⟨ad,c,e,h1⟩:=r5
 subst e
 exact ⟨_,rfl,⟨ad,c,rfl,h1⟩,ht.1,ht.2⟩
theorem jnH {h:H} : ∀ {l:List (Int × Int × Int × Int × List Int × Unit)} {cs:List V},jbq jmH h l cs -> ∃ L:List OpX,L.length=l.length/\cs=(L.map OpX.V).flatten /\ ∀ x∈L,OpOk h x
 | [],_,e=>⟨[],rfl,e,fun x hx=>by cases hx⟩
 | y :: l,_,⟨u,w,e,h1,h2⟩=>by
  obtain ⟨L,l1,l2,l3⟩:=jnH h2
  obtain ⟨v,e1,r,t0,t1⟩:=jhx h1
  obtain ⟨a,c,rfl,hB⟩:=jjt r
  refine ⟨⟨y.1,y.2.1,y.2.2.1,y.2.2.2.1,.slice a y.2.2.2.2.1.length (.fix c),y.2.2.2.2.1.map jk3⟩ :: L,by simp [l1],by rw [e,e1,l2];rfl,fun x hx=>?_⟩
  rcases Zn.1 hx with rfl | hx
  ·exact ⟨⟨a,.fix c,by simp,fun hl=>hB (by simpa using hl)⟩,t0,t1⟩
  ·exact l3 x hx
theorem jlT : ∀ L:List OpX,(L.map OpX.V).flatten.length=L.length*5
 | []=>rfl
 | x :: L=>by
  have:=jlT L
  have h5:(OpX.V x).length=5:=rfl
  show (OpX.V x++(L.map OpX.V).flatten).length=_
  rw [zg,this,h5]
  simp;omega
theorem flat_get : ∀ {L:List OpX} {i:Nat} {x:OpX},L[i]?=some x->(((L.map OpX.V).flatten).drop (i*5)).take 5=x.V
 | [],i,x,h=>by simp at h
 | y :: L,0,x,h=>by simp at h;subst h;rfl
 | y :: L,i+1,x,h=>by
  rw [List.map_cons,Zh,show (i+1)*5=(OpX.V y).length+i*5 by show _=5+_;omega,<- List.drop_drop,List.drop_left]
  exact flat_get (by simpa using h)
theorem opsIn_of {h:H} {l:List (Int × Int × Int × Int × List Int × Unit)} {u:V} (r:jb0 200 jmH h l [u]) : ∃ L:List OpX,L.length=l.length/\jne h u L:=by
 obtain ⟨ad,c,e,h1,h2,h3⟩:=r
 cases e
 by_cases hl:l.length<=200
 ·by_cases hn:l=[]
  ·subst hn
   exact ⟨[],rfl,ad,.fix c,rfl,fun _=>⟨fun x hx=>(by cases hx),fun e=>zM rfl e⟩⟩
  ·obtain ⟨b,cs,rfl,q1,q2,q3⟩:=h1 hl hn
   obtain ⟨L,l1,rfl,l3⟩:=jnH q3
   exact ⟨L,l1,_,.fix c,by rw [l1],fun _=>⟨l3,fun _=>⟨b,_,true,rfl,q1,q2,jlT L,fun i x hx=>flat_get hx⟩⟩⟩
 ·exact ⟨List.replicate l.length ⟨0,0,0,0,.nils,[]⟩,by simp,ad,.fix c,by simp,fun hl'=>zM (by simpa using hl') hl⟩
end Am.Sigs
