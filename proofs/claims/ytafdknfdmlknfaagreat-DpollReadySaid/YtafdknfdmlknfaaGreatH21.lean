/- Our own library, part 21. -/
import Derived.Test.YtafdknfdmlknfaaGreatH20
import Derived.Test.YtafdknfdmlknfaaGreatH18
import Derived.Test.YtafdknfdmlknfaaGreatH19
set_option maxHeartbeats 8000000
set_option maxRecDepth 800
set_option linter.all false
namespace Am.Sigs
open Am Go
structure MvX where
 m:Mv
 dv:V
abbrev MvX.V (x:MvX):List V:=mvV x.m x.dv
def MvOk (h:H) (x:MvX):Prop := ∃ a c,x.dv = .slice a x.m.D.length c/\(x.m.D.length<=1100->BytesAt h a c x.m.D)
def MvsAt (h:H) (v:V) (l:List MvX):Prop := ∃ ad c,v = .slice ad l.length c/\(l≠[] -> ∃ b cs ro,ad=some (b,0)/\b<h.nx/\h.get b=some (.cells cs ro)/\cs.length=l.length*4 /\ ∀ (i:Nat) (x:MvX),l[i]?=some x->(cs.drop (i*4)).take 4=x.V)
def jon (B:Nat) (h:H) (v:V) (l:List MvX):Prop:=(∃ ad c,v = .slice ad l.length c)/\(l.length<=B->(∀ x∈l,MvOk h x)/\MvsAt h v l)
structure SpX where
 t:Int
 intr:Bool
 ol:List Int
 ov:V
 ml:List MvX
 mv:V
abbrev SpX.V (x:SpX):List V:=[.int .u64 x.t,.bool x.intr,x.ov,x.mv]
structure SpOk (h:H) (x:SpX):Prop where
 ov:(∃ ad c,x.ov = .slice ad x.ol.length c)/\(x.ol.length<=60->VI h x.ov x.ol)
 mv:jon 60 h x.mv x.ml
 t0:0<=x.t
 t1:x.t<=18446744073709551615
def jnd (h:H) (v:V) (l:List SpX):Prop := ∃ ad c,v = .slice ad l.length c/\(l.length<=100->(∀ x∈l,SpOk h x)/\(l≠[] -> ∃ b cs ro,ad=some (b,0)/\b<h.nx/\h.get b=some (.cells cs ro)/\cs.length=l.length*4 /\ ∀ (i:Nat) (x:SpX),l[i]?=some x->(cs.drop (i*4)).take 4=x.V))
def sumM:List SpX->Nat
 | []=>0
 | x :: l=>x.ml.length+sumM l
theorem sumM_take {l:List SpX} : ∀ {i:Nat} {x:SpX},l[i]?=some x->sumM (l.take (i+1))=sumM (l.take i)+x.ml.length:=by
 induction l with
 | nil=>intro i x h;simp at h
 | cons y l ih=>
  intro i x h
  match i,h with
  | 0,h=>simp at h;subst h;simp [sumM]
  | i+1,h=>
   have:=ih (i:=i) (x:=x) (by simpa using h)
   simp only [List.take_succ_cons,sumM] at this ⊢
   omega
structure fewS (l:List SpX):Prop where
 len:l.length<=100
 each : ∀ x∈l,x.ml.length<=60/\x.ol.length<=60 /\ ∀ m∈x.ml,m.m.D.length<=1100
 sum:sumM l<=500
theorem jpa {cs l:List V} {i j:Nat} (h:(cs.drop (i*4)).take 4=l) (hj:j<4):cs[0+(i:Int).toNat*4+j]?=l[j]?:=by
 rw [<- h,zQ,zG hj,zn]
 congr 1
 omega
section
variable {cl:Nat->Call} (hcl:Sem cl)
include hcl
theorem gs_ok {d:Nat} {h:H} {v:V} {l:List SpX} (hd:1<=d) (hl:jnd h v l) :
  ∃ r,cl d (.fn 22) [v] h=some (r,h)/\(r = .i 1\/(r = .i 0/\fewS l)):=by
 obtain ⟨ad,c,rfl,hin⟩:=hl
 suffices ∃ r h',cl d (.fn 22) [.slice ad l.length c] h=some (r,h')/\(h'=h/\(r = .i 1\/(r = .i 0/\fewS l))) by
  obtain ⟨v,h',q1,rfl,q3⟩:=this
  exact ⟨v,q1,q3⟩
 refine aT hcl ?_
 by_cases h1:100<(l.length:Int)
 ·refine Ga ?_
  exact ⟨rfl,.inl rfl⟩
 obtain ⟨hok,hel⟩:=hin om
 refine Ga ?_
 refine Zx (fun m e h'=>∃ (i:Nat) (n:Int),m=l.length-i/\i<=l.length/\e=[(0,.slice ad l.length c),(3,.i n),(10,.i (l.length:Int)),(11,.i (i:Int))]/\h'=h/\0<=n/\n<=4000/\(sumM (l.take i):Int)<=n/\sumM (l.take i)<=500 /\ ∀ j x,j<i->l[j]?=some x->x.ml.length<=60/\x.ol.length<=60 /\ ∀ m∈x.ml,m.m.D.length<=1100)
  (k:=l.length) Ze ⟨0,0,rfl,by omega,rfl,rfl,by omega,by omega,by simp [sumM],by simp [sumM],fun j x hj=>by omega⟩ ?_
 rintro _ _ g ⟨i,n,rfl,hi,rfl,rfl,n0,n1,n2,n3,hj⟩ n' ih
 by_cases hlt:(i:Int)<l.length
 case neg=>
  obtain rfl:i=l.length:=by omega
  rw [List.take_length] at n3
  have hf:fewS l:=⟨by omega,fun x hx=>by
   obtain ⟨j,hjl,e⟩:=zY hx
   exact hj j x om (by rw [za hjl,e]),n3⟩
  clear ih hel hok hj
  refine Ga ?_
  exact ⟨rfl,.inr ⟨rfl,hf⟩⟩
 obtain ⟨x,hx⟩:=jfl (l:=l) (i:=i) om
 obtain ⟨b,cs,ro,rfl,_,hb,hcs,hc⟩:=hel (by rintro rfl;simp at hx)
 obtain ⟨⟨⟨oa,oc,eov⟩,_⟩,⟨⟨ma,mc,emv⟩,hmin⟩,_,_⟩:=hok x (zb hx)
 have h4:=hc i x hx
 have c2:cs[0+(i:Int).toNat*4+2]?=some (.slice oa x.ol.length oc):=by rw [jpa h4 om,<- eov];rfl
 have c3:cs[0+(i:Int).toNat*4+3]?=some (.slice ma x.ml.length mc):=by rw [jpa h4 om,<- emv];rfl
 have hs:=sumM_take hx
 clear hel hok hc h4
 by_cases k1:60<(x.ml.length:Int)
 ·clear ih hj
  refine Ga ?_
  exact ⟨rfl,.inl rfl⟩
 by_cases k2:60<(x.ol.length:Int)
 ·clear ih hj
  refine Ga ?_
  exact ⟨rfl,.inl rfl⟩
 by_cases k3:500<n+(x.ml.length:Int)+(x.ol.length:Int)
 ·clear ih hj
  refine Ga ?_
  exact ⟨rfl,.inl rfl⟩
 obtain ⟨hmok,hmat⟩:=hmin om
 have hi1:(i:Int)+1=((i+1:Nat):Int):=by omega
 refine Ga ?_
 refine Zx (fun m e h'=>∃ (k:Nat) (n':Int),m=x.ml.length-k/\k<=x.ml.length/\e=[(0,.slice (some (b,0)) l.length c),(3,.i n'),(4,.i (i:Int)),(10,.i (l.length:Int)),(11,.i (i:Int)),(54,.i (x.ml.length:Int)),(55,.i (k:Int))]/\h'=g/\n+(x.ml.length:Int)+(x.ol.length:Int)<=n'/\n'<=500+55*(k:Int) /\ ∀ j y,j<k->x.ml[j]?=some y->y.m.D.length<=1100)
  (k:=x.ml.length) Ze ⟨0,_,rfl,by omega,rfl,rfl,by omega,by omega,fun j y hj=>by omega⟩ ?_
 rintro _ _ _ ⟨k,n',rfl,hk,rfl,rfl,p0,p1,hjk⟩ n'' ih2
 by_cases hlt2:(k:Int)<x.ml.length
 case neg=>
  clear ih2
  have hall : ∀ m∈x.ml,m.m.D.length<=1100:=fun m hm=>by
   obtain ⟨j,hjl,e⟩:=zY hm
   exact hjk j m om (by rw [za hjl,e])
  refine Ga ?_
  rw [hi1]
  refine ih (l.length-(i+1)) om _ _ ⟨i+1,n',rfl,by omega,rfl,rfl,by omega,by omega,by rw [hs];omega,by rw [hs];omega,fun j y hj' hy=>?_⟩
  by_cases e:j=i
  ·subst e
   rw [hx] at hy;cases hy
   exact ⟨by omega,by omega,hall⟩
  ·exact hj j y om hy
 obtain ⟨y,hy⟩:=jfl (l:=x.ml) (i:=k) om
 obtain ⟨ad',c',emv',hne⟩:=hmat
 obtain ⟨b2,cs2,ro2,e2,_,hb2,hcs2,hc2⟩:=hne (by intro e;rw [e] at hy;simp at hy)
 obtain ⟨da,dc,edv,_⟩:=hmok y (zb hy)
 obtain ⟨rfl,rfl⟩:ma=ad'/\mc=c':=by rw [emv] at emv';cases emv';exact ⟨rfl,rfl⟩
 subst e2
 have d3:cs2[0+(k:Int).toNat*4+3]?=some (.slice da y.m.D.length dc):=by rw [jpa (hc2 k y hy) om,<- edv];rfl
 have hk1:(k:Int)+1=((k+1:Nat):Int):=by omega
 clear hmok hne hc2
 by_cases k4:1100<(y.m.D.length:Int)
 ·clear ih ih2 hj hjk
  refine Ga ?_
  exact ⟨rfl,.inl rfl⟩
 refine Ga ?_
 have q1:(0:Int)<=(y.m.D.length:Int)/20/\(y.m.D.length:Int)/20<=55:=by omega
 have q2:(y.m.D.length:Int).tdiv 20=(y.m.D.length:Int)/20:=Zk om
 rw [q2,jec (n:=(y.m.D.length:Int)/20) ⟨by omega,by omega⟩,jec (n:=n'+(y.m.D.length:Int)/20) ⟨by omega,by omega⟩,hk1]
 refine ih2 (x.ml.length-(k+1)) om _ _ ⟨k+1,_,rfl,by omega,rfl,rfl,by omega,by omega,fun j z hj' hz=>?_⟩
 by_cases e:j=k
 ·subst e
  rw [hy] at hz;cases hz
  omega
 ·exact hjk j z om hz
end
theorem mvS_no {m:Mv} {st:St} (h : ¬ m.may):mvS m st=((0,120),st):=zF h
theorem mvS_at {m:Mv} {st:St} (h:m.may):mvS m st=(m.ans st,m.go st):=zG h
theorem Mv.ans_1 {m:Mv} {st:St} (h:m.op=1):m.ans st=(putS st.ws m.wire m.D).1:=by simp [Mv.ans,h]
theorem Mv.ans_2 {m:Mv} {st:St} (h:m.op=2):m.ans st=(((jcb st.ws m.wire m.n).1.1.length:Int),(jcb st.ws m.wire m.n).1.2):=by simp [Mv.ans,h]
theorem Mv.ans_3 {m:Mv} {st:St} (h:m.op=3):m.ans st=(0,(ja6 st.ws m.wire).1):=by simp [Mv.ans,h]
theorem Mv.ans_4 {m:Mv} {st:St} (h:m.op=4):m.ans st=(0,(ja1 st.ws m.wire).1):=by simp [Mv.ans,h]
theorem Mv.ans_5 {m:Mv} {st:St} (h:m.op=5):m.ans st=(0,(jbL st.ws m.wire).1):=by simp [Mv.ans,h]
theorem Mv.ans_6 {m:Mv} {st:St} (h:m.op=6):m.ans st=(jar st.ws m.wire m.n).1:=by simp [Mv.ans,h]
theorem Mv.ans_7 {m:Mv} {st:St} (h:m.op=7):m.ans st=(0,if sig? m.n then 0 else 100):=by simp [Mv.ans,h]
theorem wire_12 {ws:Ws} {fd:Int} (u:Uniq ws):(jfo ws fd).2=110\/(jfo ws fd).2=0:=by
 unfold jfo jcs
 split
 ·exact .inl rfl
 ·split
  ·exact .inl rfl
  ·exact .inr rfl
section
variable {cl:Nat->Call} (hcl:Sem cl) {h:H} {m:Mv} {dv:V} {st:St} {i:Nat}
include hcl
theorem jnp {d w s:Nat} {ow:Nat->Nat} {ws:Ws} {now:Int} {tb:Tb} {no:Option (Nat × Nat)} (hd:4<=d) (a:WSt h w s ow ws now tb no) (o:WsOk ws) : ∃ h',cl d (.fn 99) [.p w 0] h=some (.bool false,h')/\Old h h':=by
 obtain ⟨h1,e1,o1⟩:=jnl hcl (d:=d-1) (fd := -1) om a o
 have hw:=wire_12 (fd := -1) o.uniq
 generalize jfo ws (-1)=x at e1 hw
 obtain ⟨x1,x2⟩:=x
 have hx : ¬ x2=1:=by rcases hw with hw | hw<;>(have hw:x2=_:=hw;omega)
 clear hw a o
 refine jai (aT hcl ?_)
 refine Ga ?_
 exact ⟨by rw [zH hx],o1⟩
theorem wm_Make {d w s:Nat} {ow:Nat->Nat} (hd:13<=d) (W:WSt h w s ow st.ws st.now st.tb st.no) (so:StOk st i) (hi:i<=900000) (hv:VB h dv m.D) (hz:m.D≠[] -> ∀ z,dv.at?=some z->ow z=0) :
  ∃ h' ow',cl d (.fn 132) [.p w 0,.agg (mvV m dv)] h=some (.tup [.i (mvS m st).1.1,.i (mvS m st).1.2],h')/\WSt h' w s ow' (mvS m st).2.ws (mvS m st).2.now (mvS m st).2.tb (mvS m st).2.no/\To h h' ow ow':=by
 suffices q : ∃ v h',cl d (.fn 132) [.p w 0,.agg (mvV m dv)] h=some (v,h') /\ ∃ ow',v = .tup [.i (mvS m st).1.1,.i (mvS m st).1.2]/\WSt h' w s ow' (mvS m st).2.ws (mvS m st).2.now (mvS m st).2.tb (mvS m st).2.no/\To h h' ow ow' by
  obtain ⟨_,h',e,ow',rfl,q⟩:=q;exact ⟨h',ow',e,q⟩
 obtain ⟨a,c,rfl,hB⟩:=id hv
 have o0:Old h (h.new (.cells (mvV m (.slice a m.D.length c)) false)):=(ZD h).new
 have g0:(h.new (.cells (mvV m (.slice a m.D.length c)) false)).get h.nx=some (.cells (mvV m (.slice a m.D.length c)) false):=jad _
 have x0:h.nx<(h.new (.cells (mvV m (.slice a m.D.length c)) false)).nx:=by simp
 obtain ⟨h1,e1,o1⟩:=jnp hcl (d:=d-1) om (W.old o0) so.K.ok
 obtain ⟨h2,e2,o2⟩:=jo1 hcl (d:=d-1) (h:=h1) (m:=m) (a:=a) (c:=c) om
 have x1:=zu x0 o1.1
 have g1:h1.get h.nx=some (.cells (mvV m (.slice a m.D.length c)) false):=by rw [o1.2 _ x0,g0]
 have g2:h2.get h.nx=some (.cells (mvV m (.slice a m.D.length c)) false):=by rw [o2.2 _ x1,g1]
 have o02:Old h h2:=(o0.trans o1).trans o2
 have W2:=W.old o02
 have V2:VB h2 (.slice a m.D.length c) m.D:=hv.keep2 o02.1 fun hl z hz=>o02.2 z (hv.lt hl hz)
 have ok:=so.K.ok
 refine aT hcl ?_
 obtain ⟨C,hC⟩ : ∃ C,C=c132_7:=⟨_,rfl⟩
 simp only [c132,c132_9,c132_8,<- hC,yB,yH]
 by_cases hm:m.may
 case neg=>
  rw [mvS_no hm]
  clear so W V2 hv hB ok
  refine qm ?_
  exact ⟨ow,rfl,W2,ZE o02⟩
 have hm' : ¬ ¬ m.may:=fun e=>e hm
 have tail : ∀ sb,Run (cl (d-1)) fuel C [] ((0,.p w 0) :: (3,.p h.nx 0) :: sb) h2 (Fin c132.res fun v h'=>∃ ow',v = .tup [.i (mvS m st).1.1,.i (mvS m st).1.2]/\WSt h' w s ow' (mvS m st).2.ws (mvS m st).2.now (mvS m st).2.tb (mvS m st).2.no/\To h h' ow ow'):=fun sb=>by
  rw [mvS_at hm,hC]
  clear e1 e2
  have hop:m.op=1\/m.op=2\/m.op=3\/m.op=4\/m.op=5\/m.op=6\/m.op=7:=by have:=hm.1;have:=hm.2.1;omega
  rcases hop with c1 | c1 | c1 | c1 | c1 | c1 | c1
  ·rw [Mv.ans_1 c1,Mv.go_1 c1]
   obtain ⟨h3,e3,W3,t3⟩:=jo0 hcl (d:=d-1) (n:=m.wire) om W2 ok V2 hm.2.2.2.2.1 (hz fun e=>by have h1:=hm.2.2.2.2.2.2.2.1 c1;rw [e] at h1;exact zM h1 (by decide))
   clear so W W2 V2 hv hB ok
   refine qm ?_
   exact ⟨_,rfl,W3,To.old o02 t3⟩
  ·rw [Mv.ans_2 c1,Mv.go_2 c1]
   obtain ⟨v3,h3,e3,vb3,vz3,W3,t3⟩:=jnm hcl (d:=d-1) (n:=m.wire) (many:=m.n) om W2 ok
   obtain ⟨a3,c3,rfl,B3⟩:=vb3
   clear so W W2 V2 hv hB ok
   refine qm ?_
   exact ⟨_,rfl,W3,To.old o02 t3⟩
  ·rw [Mv.ans_3 c1,Mv.go_3 c1]
   obtain ⟨h3,e3,W3,t3⟩:=jhc hcl (d:=d-1) (n:=m.wire) om W2
   clear so W W2 V2 hv hB ok
   refine qm ?_
   exact ⟨_,rfl,W3,To.old o02 t3⟩
  ·rw [Mv.ans_4 c1,Mv.go_4 c1]
   obtain ⟨h3,e3,W3,t3⟩:=jg2 hcl (d:=d-1) (n:=m.wire) om W2
   clear so W W2 V2 hv hB ok
   refine qm ?_
   exact ⟨_,rfl,W3,To.old o02 t3⟩
  ·rw [Mv.ans_5 c1,Mv.go_5 c1]
   obtain ⟨h3,e3,W3,t3⟩:=jly hcl (d:=d-1) (n:=m.wire) om W2 ok
   clear so W W2 V2 hv hB ok
   refine qm ?_
   exact ⟨_,rfl,W3,To.old o02 t3⟩
  ·rw [Mv.ans_6 c1,Mv.go_6 c1]
   obtain ⟨h3,ow3,e3,W3,t3⟩:=jik hcl (d:=d-1) (n:=m.wire) (many:=m.n) om so.K W2
   clear so W W2 V2 hv hB ok
   refine qm ?_
   exact ⟨_,rfl,W3,To.old o02 t3⟩
  ·rw [Mv.ans_7 c1,Mv.go_7 c1]
   obtain ⟨h3,e3,W3,t3⟩:=jlz hcl (d:=d-1) (sg:=m.n) om W2 so.nt (so.tb.mono om) (Tb.ok.mono (jiU so.tb m.n) om)
   clear so W W2 V2 hv hB ok
   refine qm ?_
   exact ⟨_,rfl,W3,To.old o02 t3⟩
 clear so W V2 hv hB ok
 refine qm ?_
 exact tail _
end
def At4 {α : Type} (h:H) (P:Nat->Prop) (f : α -> List V) (v:V) (l:List α):Prop :=
 ∃ ad c,v = .slice ad l.length c/\(ad=none->c = .fix 0/\l=[])/\Cap.fits c l.length 4/\(l≠[] -> ∃ b o cs ro,ad=some (b,o)/\b<h.nx/\P b/\h.get b=some (.cells cs ro) /\ ∀ (i:Nat) (x : α),l[i]?=some x->(cs.drop (o+i*4)).take 4=f x)
theorem At4.keep {α : Type} {h h':H} {P P':Nat->Prop} {f : α -> List V} {v:V} {l:List α} (a:At4 h P f v l) (hx:h.nx<=h'.nx) (hk : ∀ z,z<h.nx->P z->h'.get z=h.get z/\P' z):At4 h' P' f v l:=by
 obtain ⟨ad,c,e,n,ft,g⟩:=a
 refine ⟨ad,c,e,n,ft,fun hl=>?_⟩
 obtain ⟨b,o,cs,ro,e1,e2,e3,e4,e5⟩:=g hl
 exact ⟨b,o,cs,ro,e1,zu e2 hx,(hk b e2 e3).2,by rw [(hk b e2 e3).1,e4],e5⟩
theorem jiB {cs l:List V} {k:Nat} (h:(cs.drop k).take 4=l) (hl:l.length=4):k+4<=cs.length:=by
 have:=congrArg List.length h
 rw [List.length_take,List.length_drop,hl] at this
 omega
theorem jk0 {cs l:List V} {k j:Nat} (h:(cs.drop k).take 4=l) (hj:j<4):cs[k+j]?=l[j]?:=by
 rw [<- h,zQ,zG hj,zn]
structure StepAt (h:H) (P Q:Nat->Prop) (x:SpX):Prop where
 ov:VI h x.ov x.ol/\(x.ol≠[] -> ∀ z,x.ov.at?=some z->P z)
 mv:At4 h P MvX.V x.mv x.ml
 dv : ∀ m∈x.ml,VB h m.dv m.m.D/\(m.m.D≠[] -> ∀ z,m.dv.at?=some z->Q z)
 t0:0<=x.t
 t1:x.t<=18446744073709551615
def jgQ (h:H) (P Q:Nat->Prop) (v:V) (l:List SpX):Prop:=At4 h P SpX.V v l /\ ∀ x∈l,StepAt h P Q x
theorem VI.lt {h:H} {v:V} {l:List Int} (a:VI h v l) (hl:l≠[]) {z:Nat} (hz:v.at?=some z):z<h.nx:=by
 obtain ⟨a,c,rfl,n,f,g⟩:=a
 obtain ⟨b,o,cs,ro,rfl,h1,_⟩:=g hl
 cases hz;exact h1
theorem StepAt.keep {h h':H} {P Q P' Q':Nat->Prop} {x:SpX} (a:StepAt h P Q x) (hx:h.nx<=h'.nx) (hp : ∀ z,z<h.nx->P z->h'.get z=h.get z/\P' z) (hq : ∀ z,z<h.nx->Q z->h'.get z=h.get z/\Q' z):StepAt h' P' Q' x where
 ov:=⟨a.ov.1.keep2 hx fun hl z hz=>(hp z (a.ov.1.lt hl hz) (a.ov.2 hl z hz)).1,fun hl z hz=>(hp z (a.ov.1.lt hl hz) (a.ov.2 hl z hz)).2⟩
 mv:=a.mv.keep hx hp
 dv m hm:=⟨(a.dv m hm).1.keep2 hx fun hl z hz=>(hq z ((a.dv m hm).1.lt hl hz) ((a.dv m hm).2 hl z hz)).1,fun hl z hz=>(hq z ((a.dv m hm).1.lt hl hz) ((a.dv m hm).2 hl z hz)).2⟩
 t0:=a.t0
 t1:=a.t1
theorem jgQ.keep {h h':H} {P Q P' Q':Nat->Prop} {v:V} {l:List SpX} (a:jgQ h P Q v l) (hx:h.nx<=h'.nx) (hp : ∀ z,z<h.nx->P z->h'.get z=h.get z/\P' z) (hq : ∀ z,z<h.nx->Q z->h'.get z=h.get z/\Q' z):jgQ h' P' Q' v l :=
 ⟨a.1.keep hx hp,fun x hx'=>(a.2 x hx').keep hx hp hq⟩
theorem StepAt.old {h h':H} {P Q:Nat->Prop} {x:SpX} (a:StepAt h P Q x) (o:Old h h'):StepAt h' P Q x:=a.keep o.1 (fun z hz hp=>⟨o.2 z hz,hp⟩) (fun z hz hp=>⟨o.2 z hz,hp⟩)
theorem jgQ.old {h h':H} {P Q:Nat->Prop} {v:V} {l:List SpX} (a:jgQ h P Q v l) (o:Old h h'):jgQ h' P Q v l:=a.keep o.1 (fun z hz hp=>⟨o.2 z hz,hp⟩) (fun z hz hp=>⟨o.2 z hz,hp⟩)
theorem At4.old {α : Type} {h h':H} {P:Nat->Prop} {f : α -> List V} {v:V} {l:List α} (a:At4 h P f v l) (o:Old h h'):At4 h' P f v l:=a.keep o.1 fun z hz hp=>⟨o.2 z hz,hp⟩
def SpX.sp (x:SpX):Sp:=⟨x.t,x.intr,x.ol,x.ml.map MvX.m⟩
def Sp.may (x:Sp):Prop:=x.moves.length<=50/\x.order.length<=50/\(∀ n∈x.order,0<=n/\n<=999) /\ ∀ m∈x.moves,m.may
instance (x:Sp):Decidable x.may:=by unfold Sp.may;infer_instance
def badN (n:Int):Prop:=n<0\/n>999
instance:DecidablePred badN:=fun n=>by unfold badN;infer_instance
section
variable {cl:Nat->Call} (hcl:Sem cl)
include hcl
theorem if_4 {α : Type} {d f g:Nat} {h:H} {P:Nat->Prop} {V4 : α -> List V} {bad : α -> Prop} [DecidablePred bad] {v:V} {l:List α} (hV : ∀ x,(V4 x).length=4) (hf:jd2 prog.prims f=none) (hf2:jd2 prog.fns f=some c123) (hd:1<=d) (a:At4 h P V4 v l) (hl:l.length<=50000)
  (k : ∀ x∈l,∀ h1,Old h h1 -> ∃ h2,cl (d-1) (.fn g) [.agg (V4 x)] h1=some (.bool (decide (bad x)),h2)/\Old h1 h2) :
  ∃ r h',cl d (.fn f) [v,.clo g []] h=some (.i r,h')/\Old h h'/\(0<=r ↔ ∃ x∈l,bad x):=by
 suffices q : ∃ w h',cl d (.fn f) [v,.clo g []] h=some (w,h') /\ ∃ r,w = .i r/\Old h h'/\(0<=r ↔ ∃ x∈l,bad x) by
  obtain ⟨_,h',e,r,rfl,q⟩:=q;exact ⟨r,h',e,q⟩
 obtain ⟨ad,c,rfl,_,_,hb⟩:=a
 refine at_ hcl om hf hf2 rfl ?_
 refine Ga ?_
 refine Zx (fun m e h1=>∃ i:Nat,m=l.length-i/\i<=l.length/\e=[(0,.slice ad l.length c),(1,.clo g []),(7,.i (l.length:Int)),(8,.i (i:Int))]/\Old h h1 /\ ∀ j x,j<i->l[j]?=some x -> ¬ bad x)
  (k:=l.length) Ze ⟨0,rfl,by omega,rfl,ZD h,fun j x hj=>by omega⟩ ?_
 rintro _ _ h1 ⟨i,rfl,hi,rfl,o,hj⟩ n' ih
 by_cases hlt:(i:Int)<l.length
 case neg=>
  have hno : ¬ ∃ x∈l,bad x:=fun ⟨x,hx,hb⟩=>by
   obtain ⟨j,hjl,e⟩:=zY hx
   exact hj j x om (by rw [za hjl,e]) hb
  clear ih hb hj k
  refine Ga ?_
  exact ⟨_,rfl,o,fun e=>zM e om,fun e=>zM e hno⟩
 obtain ⟨x,hx⟩:=jfl (l:=l) (i:=i) om
 obtain ⟨b,oo,cs,ro,rfl,lb,_,gb,hc⟩:=hb (by rintro rfl;simp at hx)
 have gb1:h1.get b=some (.cells cs ro):=by rw [o.2 b lb,gb]
 have h4:(cs.drop (oo+(i:Int).toNat*4)).take 4=V4 x:=by rw [zz];exact hc i x hx
 have hlen:=jiB h4 (hV x)
 have hxm:=zb hx
 obtain ⟨h2,e2,o2⟩:=k x hxm h1 o
 have hi1:(i:Int)+1=((i+1:Nat):Int):=by omega
 clear k hb
 by_cases hbad:bad x
 ·rw [zJ hbad] at e2
  clear ih hj hc
  refine Ga ?_
  refine zcw rfl gb1 hlen ?_
  rw [h4]
  refine Ops.callc rfl rfl e2 ?_
  refine Ga ?_
  exact ⟨_,rfl,o.trans o2,fun _=>⟨x,hxm,hbad⟩,fun _=>by omega⟩
 ·rw [zH hbad] at e2
  clear hc
  refine Ga ?_
  refine zcw rfl gb1 hlen ?_
  rw [h4]
  refine Ops.callc rfl rfl e2 ?_
  refine Ga ?_
  rw [hi1]
  refine ih (l.length-(i+1)) om _ _ ⟨i+1,rfl,by omega,rfl,o.trans o2,fun j y hj' hy=>?_⟩
  by_cases e:j=i
  ·subst e
   rw [hx] at hy;cases hy
   exact hbad
  ·exact hj j y om hy
theorem cf_step {d g:Nat} {h:H} {P:Nat->Prop} {bad:SpX->Prop} [DecidablePred bad] {v:V} {l:List SpX} (hd:2<=d) (a:At4 h P SpX.V v l) (hl:l.length<=50000)
  (k : ∀ x∈l,∀ h1,Old h h1 -> ∃ h2,cl (d-2) (.fn g) [.agg x.V] h1=some (.bool (decide (bad x)),h2)/\Old h1 h2) :
  ∃ h',cl d (.fn 93) [v,.clo g []] h=some (.bool (decide (∃ x∈l,bad x)),h')/\Old h h':=by
 obtain ⟨r,h1,e1,o1,hr⟩:=if_4 hcl (d:=d-1) (f:=123) (fun _=>rfl) rfl rfl om a hl k
 refine jai (aT hcl ?_)
 refine Ga ?_
 exact ⟨congrArg V.bool (decide_eq_decide.2 hr),o1⟩
theorem cf_move {d g:Nat} {h:H} {P:Nat->Prop} {bad:MvX->Prop} [DecidablePred bad] {v:V} {l:List MvX} (hd:2<=d) (a:At4 h P MvX.V v l) (hl:l.length<=50000)
  (k : ∀ x∈l,∀ h1,Old h h1 -> ∃ h2,cl (d-2) (.fn g) [.agg x.V] h1=some (.bool (decide (bad x)),h2)/\Old h1 h2) :
  ∃ h',cl d (.fn 126) [v,.clo g []] h=some (.bool (decide (∃ x∈l,bad x)),h')/\Old h h':=by
 obtain ⟨r,h1,e1,o1,hr⟩:=if_4 hcl (d:=d-1) (f:=140) (fun _=>rfl) rfl rfl om a hl k
 refine jai (aT hcl ?_)
 refine Ga ?_
 exact ⟨congrArg V.bool (decide_eq_decide.2 hr),o1⟩
theorem wm_badN {d:Nat} {h:H} {n:Int} (hd:1<=d):cl d (.fn 124) [.i n] h=some (.bool (decide (badN n)),h):=by
 refine jan (aT hcl ?_)
 by_cases h1:n<0
 ·refine Ga ?_
  exact ⟨by rw [zJ (show badN n from .inl h1)],rfl⟩
 ·refine Ga ?_
  exact ⟨congrArg V.bool (decide_eq_decide.2 ⟨.inr,fun e=>e.elim (fun e=>zM e h1) id⟩),rfl⟩
theorem if_1 {d:Nat} {h:H} {v:V} {l:List Int} (hd:2<=d) (a:VI h v l) (hl:l.length<=50000) :
  ∃ r,cl d (.fn 139) [v,.clo 124 []] h=some (.i r,h)/\(0<=r ↔ ∃ x∈l,badN x):=by
 suffices q : ∃ w h',cl d (.fn 139) [v,.clo 124 []] h=some (w,h') /\ ∃ r,w = .i r/\h'=h/\(0<=r ↔ ∃ x∈l,badN x) by
  obtain ⟨_,h',e,r,rfl,rfl,q⟩:=q;exact ⟨r,e,q⟩
 obtain ⟨ad,c,rfl,_,_,hb⟩:=a
 refine aT hcl ?_
 refine Ga ?_
 refine Zx (fun m e h1=>∃ i:Nat,m=l.length-i/\i<=l.length/\e=[(0,.slice ad l.length c),(1,.clo 124 []),(7,.i (l.length:Int)),(8,.i (i:Int))]/\h1=h /\ ∀ j x,j<i->l[j]?=some x -> ¬ badN x)
  (k:=l.length) Ze ⟨0,rfl,by omega,rfl,rfl,fun j x hj=>by omega⟩ ?_
 rintro _ _ h1 ⟨i,rfl,hi,rfl,rfl,hj⟩ n' ih
 by_cases hlt:(i:Int)<l.length
 case neg=>
  have hno : ¬ ∃ x∈l,badN x:=fun ⟨x,hx,hb⟩=>by
   obtain ⟨j,hjl,e⟩:=zY hx
   exact hj j x om (by rw [za hjl,e]) hb
  clear ih hb hj
  refine Ga ?_
  exact ⟨_,rfl,rfl,fun e=>zM e om,fun e=>zM e hno⟩
 obtain ⟨x,hx⟩:=jfl (l:=l) (i:=i) om
 obtain ⟨b,oo,cs,ro,rfl,lb,gb,hc⟩:=hb (by rintro rfl;simp at hx)
 have h4:cs[oo+(i:Int).toNat*1]?=some (.i x):=by rw [zz,Nat.mul_one];exact hc i x hx
 have hxm:=zb hx
 have e2:=wm_badN hcl (d:=d-1) (n:=x) (h:=h1) om
 have hi1:(i:Int)+1=((i+1:Nat):Int):=by omega
 clear hb hc
 by_cases hbad:badN x
 ·rw [zJ hbad] at e2
  clear ih hj
  refine Ga ?_
  refine Ops.callc rfl rfl e2 ?_
  refine Ga ?_
  exact ⟨_,rfl,rfl,fun _=>⟨x,hxm,hbad⟩,fun _=>by omega⟩
 ·rw [zH hbad] at e2
  refine Ga ?_
  refine Ops.callc rfl rfl e2 ?_
  refine Ga ?_
  rw [hi1]
  refine ih (l.length-(i+1)) om _ _ ⟨i+1,rfl,by omega,rfl,rfl,fun j y hj' hy=>?_⟩
  by_cases e:j=i
  ·subst e
   rw [hx] at hy;cases hy
   exact hbad
  ·exact hj j y om hy
theorem cf_int {d:Nat} {h:H} {v:V} {l:List Int} (hd:3<=d) (a:VI h v l) (hl:l.length<=50000) :
  cl d (.fn 125) [v,.clo 124 []] h=some (.bool (decide (∃ x∈l,badN x)),h):=by
 obtain ⟨r,e1,hr⟩:=if_1 hcl (d:=d-1) om a hl
 refine jan (aT hcl ?_)
 refine Ga ?_
 exact ⟨congrArg V.bool (decide_eq_decide.2 hr),rfl⟩
theorem wm_mayC {d:Nat} {h:H} {x:MvX} (hd:8<=d) (hv:VB h x.dv x.m.D) : ∃ h',cl d (.fn 127) [.agg x.V] h=some (.bool (decide (¬ x.m.may)),h')/\Old h h':=by
 obtain ⟨m,dv⟩:=x
 obtain ⟨a,c,e,_⟩:=hv
 have e:dv = .slice a m.D.length c:=e
 subst e
 have o:Old h (h.new (.cells (mvV m (.slice a m.D.length c)) false)):=(ZD h).new
 have g0:(h.new (.cells (mvV m (.slice a m.D.length c)) false)).get h.nx=some (.cells (mvV m (.slice a m.D.length c)) false):=jad _
 obtain ⟨h1,e1,o1⟩:=jo1 hcl (d:=d-1) (h:=h.new (.cells (mvV m (.slice a m.D.length c)) false)) (m:=m) (a:=a) (c:=c) om
 refine jai (aT hcl ?_)
 refine qm ?_
 exact ⟨rfl,o.trans o1⟩
theorem wm_Check {d:Nat} {h:H} {P Q:Nat->Prop} {x:SpX} (hd:11<=d) (a:StepAt h P Q x) : ∃ h',cl d (.fn 95) [.agg x.V] h=some (.i (if x.sp.may then 0 else 120),h')/\Old h h':=by
 have o:Old h (h.new (.cells x.V false)):=(ZD h).new
 have g0:(h.new (.cells x.V false)).get h.nx=some (.cells x.V false):=jad _
 have x0:h.nx<(h.new (.cells x.V false)).nx:=by simp
 have a0:=a.old o
 obtain ⟨ao,co,eo,_⟩:=id a.ov.1
 obtain ⟨am,cm,em,_⟩:=id a.mv
 have q2:(x.V)[0+2]?=some (.slice ao x.ol.length co):=by rw [<- eo];rfl
 have q3:(x.V)[0+3]?=some (.slice am x.ml.length cm):=by rw [<- em];rfl
 refine jai (aT hcl ?_)
 by_cases h1:(x.ml.length:Int)>50
 ·have hm : ¬ x.sp.may:=fun e=>by have:=e.1;simp [SpX.sp] at this;omega
  clear a a0
  refine qm ?_
  exact ⟨by rw [zF hm],o⟩
 by_cases h2:(x.ol.length:Int)>50
 ·have hm : ¬ x.sp.may:=fun e=>by have:=e.2.1;simp [SpX.sp] at this;omega
  clear a a0
  refine qm ?_
  exact ⟨by rw [zF hm],o⟩
 have e1:=cf_int hcl (d:=d-1) om a0.ov.1 om
 rw [eo] at e1
 by_cases h3 : ∃ n∈x.ol,badN n
 ·have hm : ¬ x.sp.may:=fun e=>by
   obtain ⟨n,hn,hb⟩:=h3
   have:=e.2.2.1 n hn
   rcases hb with hb | hb<;>omega
  rw [zJ h3] at e1
  clear a a0 h3
  refine qm ?_
  exact ⟨by rw [zF hm],o⟩
 obtain ⟨h9,e2,o2⟩:=cf_move hcl (d:=d-1) (g:=127) (bad:=fun y=>¬ y.m.may) om a0.mv om fun y hy h1 o1=>wm_mayC hcl om ((a0.old o1).dv y hy).1
 rw [em] at e2
 rw [zH h3] at e1
 by_cases h4 : ∃ y∈x.ml,¬ y.m.may
 ·have hm : ¬ x.sp.may:=fun e=>by
   obtain ⟨y,hy,hb⟩:=h4
   exact hb (e.2.2.2 y.m (List.mem_map_of_mem hy))
  rw [zJ h4] at e2
  clear a a0 h3 h4
  refine qm ?_
  exact ⟨by rw [zF hm],o.trans o2⟩
 ·have hm:x.sp.may:=⟨by simp [SpX.sp];omega,by simp [SpX.sp];omega,fun n hn=>by
   have : ¬ badN n:=fun e=>h3 ⟨n,hn,e⟩
   unfold badN at this
   omega,fun m hm=>by
   obtain ⟨y,hy,rfl⟩:=List.mem_map.1 hm
   exact Decidable.byContradiction fun e=>h4 ⟨y,hy,e⟩⟩
  rw [zH h4] at e2
  clear a a0 h3 h4
  refine qm ?_
  exact ⟨by rw [zG hm],o.trans o2⟩
theorem wm_CheckC {d:Nat} {h:H} {P Q:Nat->Prop} {x:SpX} (hd:12<=d) (a:StepAt h P Q x) : ∃ h',cl d (.fn 94) [.agg x.V] h=some (.bool (decide (¬ x.sp.may)),h')/\Old h h':=by
 have o:Old h (h.new (.cells x.V false)):=(ZD h).new
 have g0:(h.new (.cells x.V false)).get h.nx=some (.cells x.V false):=jad _
 obtain ⟨h1,e1,o1⟩:=wm_Check hcl (d:=d-1) om (a.old o)
 refine jai (aT hcl ?_)
 by_cases hm:x.sp.may
 ·rw [zG hm] at e1
  refine qm ?_
  exact ⟨by simp [hm],o.trans o1⟩
 ·rw [zF hm] at e1
  refine qm ?_
  exact ⟨by simp [hm],o.trans o1⟩
theorem wm_all {d:Nat} {h:H} {P Q:Nat->Prop} {v:V} {l:List SpX} (hd:15<=d) (a:jgQ h P Q v l) (hl:l.length<=2000) : ∃ h',cl d (.fn 40) [v] h=some (.bool (decide (∀ x∈l,x.sp.may)),h')/\Old h h':=by
 obtain ⟨h1,e1,o1⟩:=cf_step hcl (d:=d-1) (g:=94) (bad:=fun x=>¬ x.sp.may) om a.1 om fun y hy h1 o1=>wm_CheckC hcl om ((a.2 y hy).old o1)
 have he:decide (∀ x∈l,x.sp.may)=decide (¬ ∃ x∈l,¬ x.sp.may):=decide_eq_decide.2 ⟨fun e ⟨x,hx,hn⟩=>hn (e x hx),fun e x hx=>Decidable.byContradiction fun hn=>e ⟨x,hx,hn⟩⟩
 rw [he]
 obtain ⟨ad,c,rfl,_⟩:=id a.1
 have h1:(l.length:Int)<=2000:=by omega
 refine jai (aT hcl ?_)
 clear a he
 refine Ga ?_
 exact ⟨rfl,o1⟩
end
section
variable {cl:Nat->Call} (hcl:Sem cl)
include hcl
end
abbrev joX:H->Int × Int × Int × List Int × Unit->List V->Prop:=jbw (jbM .i64) (jbw (jbM .i64) (jbw (jbM .i64) (jbw (jb0 1100 (jbM .u8)) jjJ)))
theorem jnL {h:H} : ∀ {l:List (Int × Int × Int × List Int × Unit)} {cs:List V},jbq joX h l cs -> ∃ L:List MvX,L.length=l.length/\cs=(L.map MvX.V).flatten /\ ∀ x∈L,MvOk h x
 | [],_,e=>⟨[],rfl,e,fun x hx=>by cases hx⟩
 | y :: l,_,⟨u,w,e,h1,h2⟩=>by
  obtain ⟨L,l1,l2,l3⟩:=jnL h2
  obtain ⟨_,_,rfl,⟨rfl,_⟩,_,_,rfl,⟨rfl,_⟩,_,_,rfl,⟨rfl,_⟩,u5,w5,rfl,r5,hw⟩:=h1
  obtain rfl:w5=[]:=hw
  have ⟨ad,c,e5,_⟩:=r5
  subst e5
  obtain ⟨a,c,e6,hB⟩:=jjt r5
  refine ⟨⟨⟨y.1,y.2.1,y.2.2.1,y.2.2.2.1.map jk3⟩,.slice a y.2.2.2.1.length (.fix c)⟩ :: L,by simp [l1],by rw [e,l2,e6];rfl,fun x hx=>?_⟩
  rcases Zn.1 hx with rfl | hx
  ·exact ⟨a,.fix c,by simp,fun hl=>hB (by simpa using hl)⟩
  ·exact l3 x hx
theorem jfC {α : Type} {f : α -> List V} (hf : ∀ x,(f x).length=4) : ∀ L:List α,(L.map f).flatten.length=L.length*4
 | []=>rfl
 | x :: L=>by
  have:=jfC hf L
  show (f x++(L.map f).flatten).length=_
  rw [zg,this,hf]
  simp;omega
theorem jcI {α : Type} {f : α -> List V} (hf : ∀ x,(f x).length=4) : ∀ {L:List α} {i:Nat} {x : α},L[i]?=some x->(((L.map f).flatten).drop (i*4)).take 4=f x
 | [],i,x,h=>by simp at h
 | y :: L,0,x,h=>by
  simp at h;subst h
  show ((f y++(L.map f).flatten).drop (0*4)).take 4=f y
  rw [Nat.zero_mul,zl,List.take_append_of_le_length (by rw [hf y];exact zr _),zh (by rw [hf y];exact zr _)]
 | y :: L,i+1,x,h=>by
  rw [List.map_cons,Zh,show (i+1)*4=(f y).length+i*4 by rw [hf];omega,<- List.drop_drop,List.drop_left]
  exact jcI hf (by simpa using h)
theorem MvOk.keep {h h':H} {x:MvX} (o:MvOk h x) (a:Old h h'):MvOk h' x:=by
 obtain ⟨z,c,e,g⟩:=o
 exact ⟨z,c,e,fun hl=>⟨(g hl).none_,(g hl).fits,fun hn=>by
  obtain ⟨b,o,cs,ro,q1,q2,q3,q4⟩:=(g hl).at_ hn
  exact ⟨b,o,cs,ro,q1,zu q2 a.1,by rw [a.2 b q2,q3],q4⟩⟩⟩
theorem joA {α : Type} {f : α -> List V} (hf : ∀ x,(f x).length=4) {cs:List V} : ∀ {l:List α} {o:Nat},(∀ (i:Nat) (x : α),l[i]?=some x->(cs.drop (o+i*4)).take 4=f x)->(cs.drop o).take (l.length*4)=(l.map f).flatten
 | [],o,_=>by simp
 | x :: l,o,h=>by
  have h0:=h 0 x rfl
  rw [Nat.zero_mul,Nat.add_zero] at h0
  have ih:=joA hf (l:=l) (o:=o+4) fun i y hi=>by
   have:=h (i+1) y (by simpa using hi)
   rw [show o+(i+1)*4=o+4+i*4 by omega] at this
   exact this
  have e:(x :: l).length*4=4+l.length*4:=by simp;omega
  rw [e,List.take_add,h0,List.map_cons,Zh,List.drop_drop,ih]
theorem append4 {α : Type} {f : α -> List V} (hf : ∀ x,(f x).length=4) {h:H} {P:Nat->Prop} {bytes:Nat} {s v:V} {l:List α} (hb:bytes<=64) (hs:s = .nils \/ ∃ b,s = .slice (some (b,0)) 0 (.fix 0)) (a:At4 h P f v l) (hn:l.length<=1000000) :
  ∃ v' h',jaK h 4 bytes s v=some (v',h')/\((l=[]/\v'=s/\h'=h)\/(l≠[]/\v' = .slice (some (h.nx,0)) l.length (.grow 4)/\h'=h.new (.cells (l.map f).flatten false))):=by
 obtain ⟨ad,c,rfl,_,_,g⟩:=a
 have hcond:(Nat.ble ((0+l.length)*bytes) (2 ^ 46)&&Nat.ble (0+l.length) (2 ^ 46))=true:=by
  have:(0+l.length)*bytes<=1000000*64:=Nat.mul_le_mul om hb
  simp only [zq,zT];omega
 by_cases hl:l=[]
 ·subst hl
  have hsrc:ja2 h 4 0 (.slice ad 0 c)=some []:=by cases ad<;>rfl
  refine ⟨s,h,?_,.inl ⟨rfl,rfl,rfl⟩⟩
  rw [List.length_nil] at hcond
  rcases hs with rfl | ⟨b,rfl⟩<;>(simp only [jaK,lenOf,List.length_nil,hsrc];rw [hcond];rfl)
 ·obtain ⟨b',o,cs,ro,rfl,h1,_,h2,h3⟩:=g hl
  have hpos:0<l.length:=List.length_pos_iff.2 hl
  have p2:=joA hf h3
  have hz:(l.length == 0)=false:=by simp;omega
  have hz1:(l.length*4 == 0)=false:=by simp;omega
  have hlast:=jiB (h3 (l.length-1) _ (za om)) (hf _)
  have hsrc:ja2 h 4 l.length (.slice (some (b',o)) l.length c)=some (l.map f).flatten:=by
   simp only [ja2,hz1,cond_false]
   rw [jdc h2 om,p2]
  have hble:Nat.ble (0+l.length) 0=false:=by
   cases hb2:Nat.ble (0+l.length) 0 with
   | false=>rfl
   | true=>rw [zT] at hb2;omega
  refine ⟨.slice (some (h.nx,0)) l.length (.grow 4),h.new (.cells (l.map f).flatten false),?_,.inr ⟨hl,rfl,rfl⟩⟩
  rcases hs with rfl | ⟨b,rfl⟩
  ·simp only [jaK,lenOf,hsrc,hcond,hz,cond_true,cond_false]
   rfl
  ·simp only [jaK,lenOf,hsrc]
   rw [hcond,hz,hble]
   simp only [cond_true,cond_false,Nat.zero_mul,beq_self_eq_true,Zi,zS]
   rfl
theorem At4.nil {α : Type} {f : α -> List V} {h:H} {P:Nat->Prop} : At4 h P f .nils ([]:List α):=⟨none,.fix 0,rfl,fun _=>⟨rfl,rfl⟩,zr _,fun e=>zM rfl e⟩
theorem At4.zero {α : Type} {f : α -> List V} {h:H} {P:Nat->Prop} {b:Nat} : At4 h P f (.slice (some (b,0)) 0 (.fix 0)) ([]:List α):=⟨_,_,rfl,fun e=>(by cases e),zr _,fun e=>zM rfl e⟩
section
variable {call:Call} {fuel base:Nat} {ops:List Ins} {keep:List Nat} {K:List Fr} {e:Env} {h:H} {Q:Post} {ix:Nat} {dst:Option Nat}
theorem Ops.app4 {α : Type} {f : α -> List V} (hf : ∀ x,(f x).length=4) {P:Nat->Prop} {bytes:Nat} {x y:Opd} {s v:V} {l:List α} (hx:x.ev e=some s) (hy:y.ev e=some v) (hb:bytes<=64) (hs:s = .nils \/ ∃ b,s = .slice (some (b,0)) 0 (.fix 0)) (a:At4 h P f v l) (hn:l.length<=1000000)
  (k : ∀ v' h',((l=[]/\v'=s/\h'=h)\/(l≠[]/\v' = .slice (some (h.nx,0)) l.length (.grow 4)/\h'=h.new (.cells (l.map f).flatten false)))->Ops call fuel base ops keep K (layv e dst v') h' Q):Ops call fuel base (⟨ix,dst,.append 4 bytes x y,none,none,[]⟩ :: ops) keep K e h Q:=by
 obtain ⟨v',h',e1,e2⟩:=append4 hf hb hs a hn
 exact Ops.step (Zw rfl (by simp only [I.eff,hx,hy,e1])) (k v' h' e2)
end
section
variable {cl:Nat->Call} (hcl:Sem cl)
include hcl
theorem sc_bytes {d:Nat} {h:H} {v:V} {l:List UInt8} (hd:1<=d) (hv:VB h v l) (hn:l.length<=100000) : ∃ v1 h1,cl d (.fn 130) [v] h=some (v1,h1)/\Old h h1/\VB h1 v1 l/\(∀ z,v1.at?=some z->h.nx<=z) /\ ∃ a c,v1 = .slice a l.length c:=by
 obtain ⟨a,c,rfl,n,f,g⟩:=id hv
 refine aT hcl ?_
 cases a with
 | none=>
  obtain ⟨rfl,rfl⟩:=n rfl
  refine Ga ?_
  all_goals first | exact ⟨ZD h,VB.nil h,fun z hz=>(by cases hz),_,_,rfl⟩ | skip
 | some p=>
  refine qm ?_
  refine Ops.copyB (B:=h.nx) rfl rfl (hv.keep2 Zd fun hl z hz=>jac (hv.lt hl hz)) om fun a c h' hv' _ o hz=>?_
  refine qm ?_
  refine ⟨(ZD h).new.trans o,hv',fun z e=>?_,_,_,rfl⟩
  cases e
  rcases hz with rfl | hz
  ·exact zr _
  ·have:h.nx+1<=a:=hz.1
   omega
theorem sc_moves {d:Nat} {h:H} {P:Nat->Prop} {v:V} {l:List MvX} (hd:1<=d) (a:At4 h P MvX.V v l) (hn:l.length<=100000) : ∃ v1 h1,cl d (.fn 129) [v] h=some (v1,h1)/\Old h h1 /\
  ∃ ad c,v1 = .slice ad l.length c/\(ad=none->c = .fix 0/\l=[])/\Cap.fits c l.length 4/\(l≠[] -> ∃ b,ad=some (b,0)/\h.nx<=b/\b<h1.nx/\h1.get b=some (.cells (l.map MvX.V).flatten false)):=by
 obtain ⟨ad,c,rfl,n,f,g⟩:=id a
 refine aT hcl ?_
 cases ad with
 | none=>
  obtain ⟨rfl,rfl⟩:=n rfl
  refine Ga ?_
  all_goals first | exact ⟨ZD h,none,.fix 0,rfl,fun _=>⟨rfl,rfl⟩,zr _,fun e=>zM rfl e⟩ | skip
 | some p=>
  refine qm ?_
  refine Ops.app4 (l:=l) (f:=MvX.V) (P:=P) (fun _=>rfl) rfl rfl om (.inr ⟨_,rfl⟩) (a.old (ZD h).new) om fun v' h' hk=>?_
  rcases hk with ⟨rfl,rfl,rfl⟩ | ⟨hl,rfl,rfl⟩
  ·refine qm ?_
   exact ⟨(ZD h).new,_,_,rfl,fun e=>(by cases e),zr _,fun e=>zM rfl e⟩
  ·refine qm ?_
   exact ⟨(ZD h).new.new,_,_,rfl,fun e=>(by cases e),rfl,fun _=>⟨_,rfl,by simp,by simp,jad _⟩⟩
end
theorem jkr : ∀ {l:List MvX} {i:Nat} {m:Mv} {dv v:V},l[i]?=some ⟨m,dv⟩->((l.map MvX.V).flatten).set (i*4+3) v=((l.set i ⟨m,v⟩).map MvX.V).flatten
 | [],i,m,dv,v,h=>by simp at h
 | y :: l,0,m,dv,v,h=>by
  simp at h;subst h;rfl
 | y :: l,i+1,m,dv,v,h=>by
  have ih:=jkr (l:=l) (i:=i) (m:=m) (dv:=dv) (v:=v) (by simpa using h)
  rw [List.map_cons,Zh,show (i+1)*4+3=(MvX.V y).length+(i*4+3) by show _=4+_;omega,List.set_append_right _ _ (Nat.le_add_right _ _),Zp,ih]
  rfl
theorem RowZ.vi {N:Nat} {h:H} {v:V} {l:List Int} (r:RowZ N h v l):VI h v l:=by
 rcases r with r | ⟨rfl,b,rfl,h1,h2⟩
 ·rcases r with ⟨h0,_,rfl⟩ | ⟨q,h1,h2,rfl,h4,h5⟩
  ·obtain rfl:=zp.1 h0
   exact VI.nil h
  ·exact ⟨_,_,rfl,fun e=>(by cases e),rfl,fun _=>⟨q,0,_,false,rfl,h2,h4,fun i x hi=>by rw [zS];simp [hi]⟩⟩
 ·exact ⟨_,_,rfl,fun e=>(by cases e),zr _,fun e=>zM rfl e⟩
section
variable {cl:Nat->Call} (hcl:Sem cl)
include hcl
theorem wm_twin {d:Nat} {h:H} {P Q:Nat->Prop} {x:SpX} (hd:2<=d) (a:StepAt h P Q x) (h1:x.ml.length<=1000) (h2:x.ol.length<=1000) (h3 : ∀ m∈x.ml,m.m.D.length<=2000) :
  ∃ y h',cl d (.fn 96) [.agg x.V] h=some (.agg (SpX.V y),h')/\y.sp=x.sp/\StepAt h' (h.nx <= ·) (h.nx <= ·) y/\Old h h':=by
 suffices q : ∃ w h',cl d (.fn 96) [.agg x.V] h=some (w,h') /\ ∃ y,w = .agg (SpX.V y)/\y.sp=x.sp/\StepAt h' (h.nx <= ·) (h.nx <= ·) y/\Old h h' by
  obtain ⟨_,h',e,y,rfl,q⟩:=q;exact ⟨y,h',e,q⟩
 have o:Old h ((h.new (.cells x.V false)).new (.cells [.int .u64 0,.bool false,.nils,.nils] false)):=(ZD h).new.new
 have g0:((h.new (.cells x.V false)).new (.cells [.int .u64 0,.bool false,.nils,.nils] false)).get h.nx=some (.cells x.V false):=qgt
 have g0':((h.new (.cells x.V false)).new (.cells [.int .u64 0,.bool false,.nils,.nils] false)).get (h.nx+1)=some (.cells [.int .u64 0,.bool false,.nils,.nils] false):=qgt
 have x0:((h.new (.cells x.V false)).new (.cells [.int .u64 0,.bool false,.nils,.nils] false)).nx=h.nx+2:=rfl
 have a0:=a.old o
 obtain ⟨ov,h4,e4,o4,r4⟩:=jlA hcl (d:=d-1) om a0.ov.1 om
 obtain ⟨oa,oc,rfl,_⟩:=id r4.vi
 have a4:=a0.old o4
 obtain ⟨mv,h5,e5,o5,ad,c,rfl,n5,f5,g5⟩:=sc_moves hcl (d:=d-1) om a4.mv om
 have b4:h4.get h.nx=some (.cells x.V false):=by rw [o4.2 _ om,g0]
 have b5:h5.get h.nx=some (.cells x.V false):=by rw [o5.2 _ (by have:=o4.1;omega),b4]
 have c5:h5.get (h.nx+1)=some (.cells [.int .u64 0,.bool false,.nils,.nils] false):=by rw [o5.2 _ (by have:=o4.1;omega),o4.2 _ om,g0']
 have x4:=o4.1
 have x5:=o5.1
 obtain ⟨am,cm,em,_⟩:=id a.mv
 have q3:(x.V)[0+3]?=some x.mv:=rfl
 have q2:(x.V)[0+2]?=some x.ov:=rfl
 refine aT hcl ?_
 obtain ⟨C,hC⟩ : ∃ C,C=c96_2:=⟨_,rfl⟩
 simp only [c96,c96_3,<- hC,yB]
 have T : ∀ h6:H,h6=(h5.set h.nx (.cells [.int .u64 x.t,.bool x.intr,.slice oa x.ol.length oc,x.mv] false)).set h.nx (.cells [.int .u64 x.t,.bool x.intr,.slice oa x.ol.length oc,.slice ad x.ml.length c] false)->Run (cl (d-1)) fuel C [] [(1,.p h.nx 0),(2,.p (h.nx+1) 0)] h6 (Fin c96.res fun w h'=>∃ y,w = .agg (SpX.V y)/\y.sp=x.sp/\StepAt h' (h.nx <= ·) (h.nx <= ·) y/\Old h h'):=by
  intro h6 hh
  have x6:h6.nx=h5.nx:=by rw [hh];simp
  have g6 : ∀ j,j≠h.nx->h6.get j=h5.get j:=fun j hj=>by rw [hh,jaa hj,jaa hj]
  have b6:h6.get h.nx=some (.cells [.int .u64 x.t,.bool x.intr,.slice oa x.ol.length oc,.slice ad x.ml.length c] false):=by rw [hh];exact jab _
  have r6:RowZ (h.nx+2) h6 (.slice oa x.ol.length oc) x.ol:=(r4.keep (N:=h.nx+2) om fun z hz=>by
   have:=r4.at_ge hz
   rw [g6 z om,o5.2 z this.2])
  have o6:Old h h6:=⟨by rw [x6];have:=o.1;omega,fun j hj=>by rw [g6 j om,((o.trans o4).trans o5).2 j hj]⟩
  have d6 : ∀ m∈x.ml,VB h6 m.dv m.m.D:=fun m hm=>(a.dv m hm).1.keep2 o6.1 fun hl z hz=>o6.2 z ((a.dv m hm).1.lt hl hz)
  have m6:x.ml≠[] -> ∃ b,ad=some (b,0)/\h.nx+2<=b/\b<h6.nx/\(∀ z,(V.slice oa x.ol.length oc).at?=some z->z<b)/\h6.get b=some (.cells (x.ml.map MvX.V).flatten false):=fun hn=>by
   obtain ⟨b,e1,e2,e3,e4⟩:=g5 hn
   exact ⟨b,e1,by omega,by omega,fun z hz=>by have:=(r4.at_ge hz).2;omega,by rw [g6 b om,e4]⟩
  have c6:h6.get (h.nx+1)=some (.cells [.int .u64 0,.bool false,.nils,.nils] false):=by rw [g6 _ om,c5]
  clear g6 hh a0 a4 e4 e5 b4 b5 c5 g0 g0' r4 o4 o5 o g5
  obtain ⟨b,hb2,hb3,hb4⟩ : ∃ b,h.nx+2<=b/\(∀ z,(V.slice oa x.ol.length oc).at?=some z->z<b)/\(x.ml≠[]->ad=some (b,0)/\b<h6.nx/\h6.get b=some (.cells (x.ml.map MvX.V).flatten false)):=by
   by_cases hn:x.ml=[]
   ·exact ⟨h6.nx,by omega,fun z hz=>(r6.at_ge hz).2,fun e=>zM hn e⟩
   ·obtain ⟨b,e1,e2,e3,e4,e5⟩:=m6 hn
    exact ⟨b,e2,e4,fun _=>⟨e1,e3,e5⟩⟩
  clear m6
  rw [hC]
  clear hC
  refine Ga ?_
  refine Zx (fun m e g=>∃ (i:Nat) (cur:List MvX),m=x.ml.length-i/\i<=x.ml.length/\e=[(1,.p h.nx 0),(2,.p (h.nx+1) 0),(14,.i (x.ml.length:Int)),(15,.i (i:Int))]/\cur.length=x.ml.length/\cur.map MvX.m=x.ml.map MvX.m/\(∀ j,i<=j->cur[j]?=x.ml[j]?)/\(∀ j y,j<i->cur[j]?=some y->VB g y.dv y.m.D /\ ∀ z,y.dv.at?=some z->h6.nx<=z)/\(x.ml≠[]->g.get b=some (.cells (cur.map MvX.V).flatten false))/\h6.nx<=g.nx /\ ∀ j,j<h6.nx->j≠b->g.get j=h6.get j)
   (k:=x.ml.length) Ze ⟨0,x.ml,rfl,by omega,rfl,rfl,rfl,fun _ _=>rfl,fun j y hj=>by omega,fun hn=>(hb4 hn).2.2,zr _,fun _ _ _=>rfl⟩ ?_
  rintro _ _ g ⟨i,cur,rfl,hi,rfl,hcl1,hcm,hcr,hcv,hcb,hgx,hgk⟩ n' ih
  have bg:g.get h.nx=some (.cells [.int .u64 x.t,.bool x.intr,.slice oa x.ol.length oc,.slice ad x.ml.length c] false):=by rw [hgk _ om om,b6]
  have cg:g.get (h.nx+1)=some (.cells [.int .u64 0,.bool false,.nils,.nils] false):=by rw [hgk _ om om,c6]
  by_cases hlt:(i:Int)<x.ml.length
  case neg=>
   obtain rfl:i=x.ml.length:=by omega
   have hog:Old h (g.set (h.nx+1) (.cells [.int .u64 x.t,.bool x.intr,.slice oa x.ol.length oc,.slice ad x.ml.length c] false)):=⟨by simp;have:=o6.1;omega,fun j hj=>by rw [jaa om,hgk j om om,o6.2 j hj]⟩
   have hst:StepAt (g.set (h.nx+1) (.cells [.int .u64 x.t,.bool x.intr,.slice oa x.ol.length oc,.slice ad x.ml.length c] false)) (h.nx <= ·) (h.nx <= ·) ⟨x.t,x.intr,x.ol,.slice oa x.ol.length oc,cur,.slice ad x.ml.length c⟩:=by
    refine ⟨⟨?_,fun hl z hz=>by have:=(r6.at_ge hz).1;show h.nx<=z;omega⟩,?_,fun m hm=>?_,a.t0,a.t1⟩
    ·have r7:RowZ (h.nx+2) (g.set (h.nx+1) (.cells [.int .u64 x.t,.bool x.intr,.slice oa x.ol.length oc,.slice ad x.ml.length c] false)) (.slice oa x.ol.length oc) x.ol:=r6.keep Zc fun z hz=>by
      have:=r6.at_ge hz
      have:=hb3 z hz
      rw [jaa om,hgk z om om]
     exact r7.vi
    ·have hz:cur=[]↔x.ml=[]:=by rw [<- zp,hcl1,zp]
     refine ⟨ad,c,by rw [hcl1],fun e=>⟨(n5 e).1,hz.2 (n5 e).2⟩,by rw [hcl1];exact f5,fun hn=>?_⟩
     have hn':x.ml≠[]:=fun e=>hn (hz.2 e)
     obtain ⟨e1,e2,_⟩:=hb4 hn'
     exact ⟨b,0,_,false,e1,by simp;omega,by show h.nx<=b;omega,by rw [jaa om,hcb hn'],fun i y hi=>by rw [zS];exact jcI (fun _=>rfl) hi⟩
    ·obtain ⟨j,hjl,e⟩:=zY hm
     have hjl:j<cur.length:=hjl
     obtain ⟨p1,p2⟩:=hcv j m om (by rw [za hjl,e])
     exact ⟨p1.keep2 Zd fun hl z hz=>jaa (by have:=p2 z hz;omega),fun _ z hz=>by have:=p2 z hz;show h.nx<=z;omega⟩
   have hsp:SpX.sp ⟨x.t,x.intr,x.ol,.slice oa x.ol.length oc,cur,.slice ad x.ml.length c⟩=x.sp:=by
    unfold SpX.sp
    rw [hcm]
   clear ih hcr hcv hcb hgk hb4 r6 d6 b6 c6 hcm
   refine qm ?_
   exact jcN rfl (jab _) rfl ⟨_,rfl,hsp,hst,hog⟩
  obtain ⟨y,hy⟩:=jfl (l:=x.ml) (i:=i) om
  have hcy:cur[i]?=some y:=by rw [hcr i (zr _),hy]
  have hne:x.ml≠[]:=by intro e;rw [e] at hy;simp at hy
  have hym:=zb hy
  obtain ⟨rfl,lb,_⟩:=hb4 hne
  have gb:=hcb hne
  have hv:VB g y.dv y.m.D:=(d6 y hym).keep2 hgx fun hl z hz=>by
   have:=(a.dv y hym).1.lt hl hz
   exact hgk z om om
  obtain ⟨v1,g1,e1,o1,hv1,hz1,a1,c1,rfl⟩:=sc_bytes hcl (d:=d-1) om hv (by have:=h3 y hym;omega)
  have cs3:((cur.map MvX.V).flatten)[0+(i:Int).toNat*4+3]?=some y.dv:=by
   rw [zS,zz,jk0 (jcI (fun _=>rfl) hcy) om];rfl
  have bg1:g1.get h.nx=some (.cells [.int .u64 x.t,.bool x.intr,.slice oa x.ol.length oc,.slice (some (b,0)) x.ml.length c] false):=by rw [o1.2 _ om,bg]
  have gb1:g1.get b=some (.cells (cur.map MvX.V).flatten false):=by rw [o1.2 _ om,gb]
  have hfl:((cur.map MvX.V).flatten).length=cur.length*4:=jfC (fun _=>rfl) cur
  have hst:=jkr (l:=cur) (i:=i) (m:=y.m) (dv:=y.dv) (v := .slice a1 y.m.D.length c1) hcy
  have hi1:(i:Int)+1=((i+1:Nat):Int):=by omega
  have hdm:=h3 y hym
  generalize hfc:(cur.map MvX.V).flatten=fc at gb gb1 cs3 hfl hst
  clear hb4 hcb d6 h3
  refine Ga ?_
  refine Ops.callf_chk rfl e1 (jaN rfl bg1 rfl rfl jbn) ?_
  refine Ga ?_
  refine zcs (l:=fc) rfl rfl rfl gb1 om ?_
  refine Ga ?_
  rw [hi1,show 0+(i:Int).toNat*4+3=i*4+3 by omega,hst]
  refine ih (x.ml.length-(i+1)) om _ _ ⟨i+1,cur.set i ⟨y.m,.slice a1 y.m.D.length c1⟩,rfl,by omega,rfl,by simp [hcl1],?_,fun j hj=>?_,fun j w hj hw=>?_,fun _=>jab _,by simp;have:=o1.1;omega,fun j hj hjb=>?_⟩
  ·rw [<- hcm]
   apply zW
   intro j
   simp only [List.getElem?_map,zi]
   by_cases e:i=j
   ·subst e
    rw [zG rfl,zG om,hcy];rfl
   ·rw [zF e]
  ·rw [List.getElem?_set_ne om,hcr j om]
  ·by_cases e:j=i
   ·subst e
    rw [List.getElem?_set_self om] at hw
    cases hw
    exact ⟨hv1.keep2 Zd fun hl z hz=>jaa (by have:=hz1 z hz;omega),fun z hz=>by have:=hz1 z hz;omega⟩
   ·rw [List.getElem?_set_ne om] at hw
    obtain ⟨p1,p2⟩:=hcv j w om hw
    exact ⟨p1.keep2 (by simp;exact o1.1) fun hl z hz=>by rw [jaa (by have:=p2 z hz;omega),o1.2 z (p1.lt hl hz)],p2⟩
  ·rw [jaa hjb,o1.2 j om,hgk j hj hjb]
 clear a0 a4
 refine qm ?_
 refine Ops.callf_chk rfl e4 (jaN rfl b4 q3 rfl jbn) ?_
 refine qm ?_
 exact T _ rfl
end
theorem SpX.one {h:H} {P Q:Nat->Prop} {x:SpX} (a:StepAt h P Q x):(SpX.V x).all V.one=true:=by
 obtain ⟨⟨⟨_,_,e1,_⟩,_⟩,⟨_,_,e2,_⟩,_,_,_⟩:=a
 show [V.int .u64 x.t,.bool x.intr,x.ov,x.mv].all V.one=true
 rw [e1,e2]
 rfl
theorem At4.of_row {α : Type} {f : α -> List V} (hf : ∀ x,(f x).length=4) {N:Nat} {h:H} {v:V} {l:List α} (r:Row N h 4 v l.length (l.map f).flatten):At4 h (N <= ·) f v l:=by
 rcases r with ⟨h0,_,rfl⟩ | ⟨q,h1,h2,rfl,h4,h5⟩
 ·obtain rfl:=zp.1 h0
  exact At4.nil
 ·exact ⟨_,_,rfl,fun e=>(by cases e),rfl,fun _=>⟨q,0,_,false,rfl,h2,h1,h4,fun i x hi=>by rw [zS];exact jcI hf hi⟩⟩
def Wr (N M:Nat) (h:H) (v:V):Prop := ∀ z,v.at?=some z->N<=z/\z<M /\ ∃ cs,h.get z=some (.cells cs false)
def SpX.few (x:SpX):Prop:=x.ml.length<=1000/\x.ol.length<=1000 /\ ∀ m∈x.ml,m.m.D.length<=2000
section
variable {cl:Nat->Call} (hcl:Sem cl)
include hcl
theorem wm_twins {d:Nat} {h:H} {P Q:Nat->Prop} {v:V} {l:List SpX} (hd:3<=d) (a:jgQ h P Q v l) (hl:l.length<=2000) (hf : ∀ x∈l,x.few) :
  ∃ v' l' h',cl d (.fn 41) [v] h=some (v',h')/\l'.map SpX.sp=l.map SpX.sp/\At4 h' (h.nx <= ·) SpX.V v' l'/\(∀ x∈l',StepAt h' (fun z=>h.nx<=z/\V.at? v'≠some z) (fun z=>h.nx<=z/\V.at? v'≠some z) x)/\Wr h.nx h'.nx h' v'/\Old h h':=by
 suffices q : ∃ w h',cl d (.fn 41) [v] h=some (w,h') /\ ∃ l',l'.map SpX.sp=l.map SpX.sp/\At4 h' (h.nx <= ·) SpX.V w l'/\(∀ x∈l',StepAt h' (fun z=>h.nx<=z/\V.at? w≠some z) (fun z=>h.nx<=z/\V.at? w≠some z) x)/\Wr h.nx h'.nx h' w/\Old h h' by
  obtain ⟨v',h',e,l',q⟩:=q;exact ⟨v',l',h',e,q⟩
 obtain ⟨⟨ad,c,rfl,_,_,hb⟩,hs⟩:=a
 refine aT hcl ?_
 refine Ga ?_
 refine Zx (fun m e g=>∃ (i:Nat) (acc:V) (out:List SpX),m=l.length-i/\i<=l.length/\e=[(3,acc),(6,.slice ad l.length c),(7,.i (l.length:Int)),(8,.i (i:Int))]/\out.map SpX.sp=(l.take i).map SpX.sp/\Row h.nx g 4 acc i (out.map SpX.V).flatten/\(∀ x∈out,StepAt g (fun z=>h.nx<=z/\acc.at?≠some z) (fun z=>h.nx<=z/\acc.at?≠some z) x)/\Old h g)
  (k:=l.length) Ze ⟨0,.nils,[],rfl,by omega,rfl,rfl,Row.nil _ _ _,(fun x hx=>by cases hx),ZD _⟩ ?_
 rintro _ _ g ⟨i,acc,out,rfl,hi,rfl,ho,row,hso,og⟩ n' ih
 by_cases hlt:(i:Int)<l.length
 case neg=>
  obtain rfl:i=l.length:=by omega
  rw [List.take_length] at ho
  have hol:out.length=l.length:=by have:=congrArg List.length ho;simpa using this
  rw [<- hol] at row
  have hfin:At4 g (h.nx <= ·) SpX.V acc out:=At4.of_row (fun _=>rfl) row
  have hw:Wr h.nx g.nx g acc:=fun z hz=>by
   rcases row with ⟨_,_,rfl⟩ | ⟨q,k1,k2,rfl,h4,_⟩
   ·cases hz
   ·cases hz;exact ⟨k1,k2,_,h4⟩
  clear ih hb hs row
  refine Ga ?_
  exact ⟨out,ho,hfin,hso,hw,og⟩
 obtain ⟨x,hx⟩:=jfl (l:=l) (i:=i) om
 obtain ⟨b,oo,cs,ro,rfl,lb,_,gb,hc⟩:=hb (by intro e;rw [e] at hx;simp at hx)
 have gb1:g.get b=some (.cells cs ro):=by rw [og.2 b lb,gb]
 have h4:(cs.drop (oo+(i:Int).toNat*4)).take 4=x.V:=by rw [zz];exact hc i x hx
 have hlen:=jiB h4 rfl
 have hxm:=zb hx
 have og1:Old g ((g.new (.cells [.int .u64 0,.bool false,.nils,.nils] false)).set g.nx (.cells x.V false)):=(ZD g).new.set (zr _)
 have gx1:((g.new (.cells [.int .u64 0,.bool false,.nils,.nils] false)).set g.nx (.cells x.V false)).get g.nx=some (.cells x.V false):=jab _
 have gn1:((g.new (.cells [.int .u64 0,.bool false,.nils,.nils] false)).set g.nx (.cells x.V false)).nx=g.nx+1:=rfl
 obtain ⟨y,g2,e2,hy,sy,o2⟩:=wm_twin hcl (d:=d-1) om ((hs x hxm).old (og.trans og1)) (hf x hxm).1 (hf x hxm).2.1 (hf x hxm).2.2
 have hone:=SpX.one (hs x hxm)
 have hi1:(i:Int)+1=((i+1:Nat):Int):=by omega
 have hat : ∀ z,acc.at?=some z->h.nx<=z/\z<g.nx:=fun z hz=>row.at_ge hz
 have row2:Row h.nx g2 4 acc i (out.map SpX.V).flatten:=row.keep (by have:=o2.1;omega) fun z hz=>by rw [o2.2 z (by have:=hat z hz;omega),og1.2 z (hat z hz).2]
 have ognx:=og.1
 clear hb hs hc
 refine qm ?_
 refine zcw rfl gb1 hlen ?_
 rw [h4]
 refine qm ?_
 refine zct (o:=0) (vs:=x.V) rfl rfl rfl hone (jad _) Zd ?_
 rw [show jat ([.int .u64 0,.bool false,.nils,.nils]:List V) 0 x.V=x.V from rfl]
 generalize (g.new (.cells [.int .u64 0,.bool false,.nils,.nils] false)).set g.nx (.cells x.V false)=G1 at og1 gx1 gn1 e2 o2 sy
 have o2x:=o2.1
 have hto:(l.take (i+1)).map SpX.sp=(l.take i).map SpX.sp++[x.sp]:=by rw [List.take_add_one,hx];simp
 have sy1:=SpX.one sy
 refine Ga ?_
 refine zcw (n:=4) rfl gx1 Zd ?_
 rw [show ((SpX.V x).drop 0).take 4=x.V from rfl]
 refine Ga ?_
 refine Ops.push (sz:=4) (bytes:=64) (N:=h.nx) (new:=SpX.V y) rfl rfl rfl sy1 om rfl rfl row2 om om om fun v' g3 row' x3 z3 k3=>?_
 refine qm ?_
 rw [hi1]
 refine ih (l.length-(i+1)) om _ _ ⟨i+1,v',out++[y],rfl,by omega,rfl,by rw [hto,List.map_append,ho,<- hy];rfl,by rw [List.map_append,List.flatten_append];simpa using row',fun w hw=>?_,by omega,fun j hj=>by rw [k3 j om fun e=>(by have:=hat j e;omega),o2.2 j om,og1.2 j om,og.2 j hj]⟩
 ·have kz : ∀ z,v'.at?=some z->g2.nx<=z:=z3
  rcases zR.1 hw with hw | hw
  ·have kp : ∀ z,z<g.nx->(h.nx<=z/\acc.at?≠some z)->g3.get z=g.get z/\(h.nx<=z/\v'.at?≠some z):=fun z hz hp=>⟨by rw [k3 z om hp.2,o2.2 z om,og1.2 z hz],hp.1,fun e=>by have:=kz z e;omega⟩
   exact (hso w hw).keep om kp kp
  ·obtain rfl:w=y:=by simpa using hw
   have kp : ∀ z,z<g2.nx->G1.nx<=z->g3.get z=g2.get z/\(h.nx<=z/\v'.at?≠some z):=fun z hz hp=>⟨k3 z hz fun e=>by have:=hat z e;omega,by omega,fun e=>by have:=kz z e;omega⟩
   exact sy.keep x3 kp kp
theorem wm_New {d:Nat} {h:H} {P Q:Nat->Prop} {v:V} {l:List SpX} (hd:16<=d) (a:jgQ h P Q v l) (hl:l.length<=2000) (hf : ∀ x∈l,x.few) (hm : ∀ x∈l,x.sp.may) :
  ∃ sb v' l' h',cl d (.fn 10) [v] h=some (.tup [.p sb 0,.i 0],h')/\l'.map SpX.sp=l.map SpX.sp/\At4 h' (fun z=>h.nx<=z/\z≠sb) SpX.V v' l'/\(∀ x∈l',StepAt h' (fun z=>(h.nx<=z/\z≠sb)/\v'.at?≠some z) (fun z=>(h.nx<=z/\z≠sb)/\v'.at?≠some z) x)/\h'.get sb=some (.cells [v',.nils] false)/\Wr h.nx sb h' v'/\h.nx<=sb/\sb<h'.nx/\Old h h':=by
 suffices q : ∃ w h',cl d (.fn 10) [v] h=some (w,h') /\ ∃ sb v' l',w = .tup [.p sb 0,.i 0]/\l'.map SpX.sp=l.map SpX.sp/\At4 h' (fun z=>h.nx<=z/\z≠sb) SpX.V v' l'/\(∀ x∈l',StepAt h' (fun z=>(h.nx<=z/\z≠sb)/\v'.at?≠some z) (fun z=>(h.nx<=z/\z≠sb)/\v'.at?≠some z) x)/\h'.get sb=some (.cells [v',.nils] false)/\Wr h.nx sb h' v'/\h.nx<=sb/\sb<h'.nx/\Old h h' by
  obtain ⟨_,h',e,sb,v',l',rfl,q⟩:=q;exact ⟨sb,v',l',h',e,q⟩
 obtain ⟨h1,e1,o1⟩:=wm_all hcl (d:=d-1) om a hl
 rw [zJ hm] at e1
 obtain ⟨v',l',h2,e2,hs,a2,s2,hw,o2⟩:=wm_twins hcl (d:=d-1) om (a.old o1) hl hf
 obtain ⟨ad,c,rfl,_⟩:=id a2
 have o3:Old h2 (h2.new (.cells [.slice ad l'.length c,.nils] false)):=(ZD h2).new
 have x1:=o1.1
 have x2:=o2.1
 refine aT hcl ?_
 clear a
 refine qm ?_
 have kp : ∀ z,z<h2.nx->h1.nx<=z->(h2.new (.cells [.slice ad l'.length c,.nils] false)).get z=h2.get z/\(h.nx<=z/\z≠h2.nx):=fun z hz hp=>⟨o3.2 z hz,by omega,by omega⟩
 refine ⟨h2.nx,_,l',rfl,hs,a2.keep o3.1 kp,fun x hx=>(s2 x hx).keep o3.1 (fun z hz hp=>⟨(kp z hz hp.1).1,(kp z hz hp.1).2,hp.2⟩) fun z hz hp=>⟨(kp z hz hp.1).1,(kp z hz hp.1).2,hp.2⟩,jad _,fun z hz=>?_,by omega,by simp,(o1.trans o2).trans o3⟩
 obtain ⟨k1,k2,cs,e⟩:=hw z hz
 exact ⟨by omega,k2,cs,by rw [jac k2,e]⟩
end
structure Fs (h h':H) (ow:Nat->Nat) (ro:Nat->Prop) (ow':Nat->Nat) (ro' S:Nat->Prop):Prop where
 ch:Ch (fun j=>ow j≠0\/ro j\/S j) h h'
 tag : ∀ j,j<h.nx->ow' j=ow j
 rtag : ∀ j,j<h.nx->(ro' j↔ro j)
theorem Fs.refl {h:H} {ow:Nat->Nat} {ro S:Nat->Prop} : Fs h h ow ro ow ro S:=⟨Zy _ _,fun _ _=>rfl,fun _ _=>Iff.rfl⟩
theorem Fs.trans {h h1 h2:H} {a b c:Nat->Nat} {x y z S T:Nat->Prop} (f:Fs h h1 a x b y S) (g:Fs h1 h2 b y c z T) (hT : ∀ j,j<h.nx->T j->S j):Fs h h2 a x c z S :=
 ⟨f.ch.trans_new g.ch fun j hj hb=>by
  rw [f.tag j hj,f.rtag j hj] at hb
  exact hb.imp id fun hb=>hb.imp id (hT j hj),
  fun j hj=>by rw [g.tag j (zu hj f.ch.nx),f.tag j hj],fun j hj=>(g.rtag j (zu hj f.ch.nx)).trans (f.rtag j hj)⟩
theorem Fs.of_fm {h h1:H} {a b:Nat->Nat} {x y S:Nat->Prop} (f:Fm h h1 a x b y):Fs h h1 a x b y S:=⟨f.ch.weaken fun _ _ hb=>hb.elim .inl fun hb=>.inr (.inl hb),f.tag,f.rtag⟩
theorem Fs.old {h h1:H} {ow:Nat->Nat} {ro S:Nat->Prop} (o:Old h h1):Fs h h1 ow ro ow ro S := .of_fm (Fm.old o)
theorem Fs.set {h:H} {ow:Nat->Nat} {ro S:Nat->Prop} {b:Nat} {ob:Obj} (hS:S b):Fs h (h.set b ob) ow ro ow ro S:=⟨Ch.set (.inr (.inr hS)),fun _ _=>rfl,fun _ _=>Iff.rfl⟩
def PB (ow:Nat->Nat) (ro:Nat->Prop) (s z:Nat):Prop:=ow z=0 /\ ¬ ro z/\z≠s
theorem Fs.pb {h h':H} {a b:Nat->Nat} {x y:Nat->Prop} {s z:Nat} (f:Fs h h' a x b y (· = s)) (hz:z<h.nx) (p:PB a x s z):h'.get z=h.get z/\PB b y s z :=
 ⟨f.ch.get z hz fun e=>e.elim (fun e=>e p.1) fun e=>e.elim p.2.1 p.2.2,by rw [f.tag z hz];exact p.1,fun e=>p.2.1 ((f.rtag z hz).1 e),p.2.2⟩
theorem jhy : ∀ {l:List Mv} {m:Mv} {st:St},mvsS (l++[m]) st=(mvS m (mvsS l st)).2
 | [],_,_=>rfl
 | _ :: l,m,st=>by
  show mvsS (l++[m]) _=_
  rw [jhy];rfl
theorem jkY {st:St} {i:Nat} {n:Int} (o:StOk st i) (h0:0<=n) (h1:n<=18446744073709551615):StOk { st with now:=jdJ st.now n } i :=
 ⟨o.K,o.nt,by
  have:=o.now
  show 0<=jdJ st.now n/\jdJ st.now n<=_
  unfold jdJ
  split<;>omega,o.tb⟩
structure Own (h:H) (ow:Nat->Nat) (ro dat:Nat->Prop) (p s:Nat):Prop where
 lt:s<h.nx
 o0:ow s=0
 r0 : ¬ ro s
 d0 : ¬ dat s
 ne:s≠p
theorem Own.fs {h h':H} {a b:Nat->Nat} {x y S dat:Nat->Prop} {p s:Nat} (o:Own h a x dat p s) (f:Fs h h' a x b y S):Own h' b y dat p s :=
 ⟨zu o.lt f.ch.nx,by rw [f.tag s o.lt];exact o.o0,fun e=>o.r0 ((f.rtag s o.lt).1 e),o.d0,o.ne⟩
section
variable {h h':H} {p w s rw:Nat} {ow:Nat->Nat} {ro dat:Nat->Prop} {a r:St}
theorem BB.set (b:BB h p w s rw ow ro dat a r) {z:Nat} (o:Own h ow ro dat p z) {ob:Obj} : BB (h.set z ob) p w s rw ow ro dat a r :=
 b.off (zr _) fun j _ hj=>jaa fun e=>by
  subst e
  rcases hj with hj | hj | hj | hj
  ·exact hj o.o0
  ·exact o.r0 hj
  ·exact o.d0 hj
  ·exact o.ne hj
variable {cl:Nat->Call} (hcl:Sem cl) {d i:Nat} {m:Mv} {dv:V} {t:Int}
include hcl
end
theorem At4.tail {α : Type} {h:H} {P:Nat->Prop} {f : α -> List V} {b o n:Nat} {c:Cap} {x : α} {l:List α} (hn:n=l.length+1) (a:At4 h P f (.slice (some (b,o)) n c) (x :: l)):At4 h P f (.slice (some (b,o+1*4)) (n-1) (c.less 1)) l:=by
 obtain ⟨ad,c',e,_,ft,g⟩:=a
 cases e
 refine ⟨_,_,by rw [hn];rfl,fun e=>(by cases e),?_,fun hl=>?_⟩
 ·have ft:c.fits (l.length+1) 4:=ft
  cases c with
  | fix q=>simp only [Cap.less,Cap.fits] at ft ⊢;omega
  | grow q=>exact ft
 ·obtain ⟨b',o',cs,ro,e1,e2,e3,e4,e5⟩:=g Zd
  cases e1
  refine ⟨b,o+1*4,cs,ro,rfl,e2,e3,e4,fun i y hi=>?_⟩
  rw [show o+1*4+i*4=o+(i+1)*4 by omega]
  exact e5 (i+1) y (by simpa using hi)
theorem map_take {α β : Type} {f : α -> β} {l:List α} {i:Nat} {x : α} (h:l[i]?=some x):(l.take (i+1)).map f=(l.take i).map f++[f x]:=by rw [List.take_add_one,h];simp
section
variable {cl:Nat->Call} (hcl:Sem cl) {h:H} {p w s rw:Nat} {ow:Nat->Nat} {ro dat:Nat->Prop} {a r:St} {d i:Nat}
include hcl
end
structure SW (h:H) (ow:Nat->Nat) (ro dat:Nat->Prop) (p sb:Nat) (bs:Option Nat) (X:Nat->Prop) (L:List SpX) (o:List Int):Prop where
 own:Own h ow ro dat p sb
 bown : ∀ z,bs=some z->Own h ow ro dat p z/\z≠sb /\ ∃ cs,h.get z=some (.cells cs false)
 ex : ∃ v ov,v.at?=bs/\h.get sb=some (.cells [v,ov] false)/\At4 h (PB ow ro sb) SpX.V v L/\(∀ y∈L,StepAt h (fun z=>PB ow ro sb z/\(bs≠some z/\X z)) (fun z=>PB ow ro sb z/\(bs≠some z/\X z)) y)/\VI h ov o/\(o≠[] -> ∀ z,ov.at?=some z->PB ow ro sb z/\(bs≠some z/\X z))
 few : ∀ x∈L,x.few
theorem Fs.get {h h':H} {a b:Nat->Nat} {x y S dat:Nat->Prop} {p z:Nat} (f:Fs h h' a x b y S) (o:Own h a x dat p z) (hS : ¬ S z):h'.get z=h.get z :=
 f.ch.get z o.lt fun e=>e.elim (fun e=>e o.o0) fun e=>e.elim o.r0 hS
theorem SW.fs {h h':H} {ow ow':Nat->Nat} {ro ro' dat S X:Nat->Prop} {p sb:Nat} {bs:Option Nat} {L:List SpX} {o:List Int} (a:SW h ow ro dat p sb bs X L o) (f:Fs h h' ow ro ow' ro' S) (h1 : ¬ S sb) (h2 : ∀ z,bs=some z -> ¬ S z) (h3 : ∀ z,X z -> ¬ S z):SW h' ow' ro' dat p sb bs X L o:=by
 obtain ⟨v,ov,e1,e2,e3,e4,e5,e6⟩:=a.ex
 have kp : ∀ z,z<h.nx->(PB ow ro sb z/\(bs≠some z/\X z))->h'.get z=h.get z/\(PB ow' ro' sb z/\(bs≠some z/\X z)):=fun z hz hp=>⟨f.ch.get z hz fun e=>e.elim (fun e=>e hp.1.1) fun e=>e.elim hp.1.2.1 (h3 z hp.2.2),⟨by rw [f.tag z hz];exact hp.1.1,fun e=>hp.1.2.1 ((f.rtag z hz).1 e),hp.1.2.2⟩,hp.2⟩
 refine ⟨a.own.fs f,fun z hz=>?_,⟨v,ov,e1,by rw [f.get a.own h1,e2],?_,fun y hy=>(e4 y hy).keep f.ch.nx kp kp,e5.keep2 f.ch.nx fun hl z hz=>(kp z (e5.lt hl hz) (e6 hl z hz)).1,fun hl z hz=>(kp z (e5.lt hl hz) (e6 hl z hz)).2⟩,a.few⟩
 ·obtain ⟨q1,q2,cs,q3⟩:=a.bown z hz
  exact ⟨q1.fs f,q2,cs,by rw [f.get q1 (h2 z hz),q3]⟩
 ·obtain ⟨ad,c,rfl,n,ft,g⟩:=e3
  refine ⟨ad,c,rfl,n,ft,fun hl=>?_⟩
  obtain ⟨b,oo,cs,rr,rfl,lb,pb,gb,hc⟩:=g hl
  have hz:bs=some b:=by rw [<- e1];rfl
  obtain ⟨q1,q2,_⟩:=a.bown b hz
  exact ⟨b,oo,cs,rr,rfl,zu lb f.ch.nx,⟨(q1.fs f).o0,(q1.fs f).r0,q2⟩,by rw [f.get q1 (h2 b hz),gb],hc⟩
section
variable {cl:Nat->Call} (hcl:Sem cl) {h:H} {p w s rw:Nat} {ow:Nat->Nat} {ro dat:Nat->Prop} {a r:St} {d i sb bp bf:Nat} {fd:Int} {bs:Option Nat} {X:Nat->Prop} {x:SpX} {L:List SpX} {o:List Int}
include hcl
end
theorem jj6 {x:SpX} {L:List SpX} : sumM (x :: L)=x.ml.length+sumM L:=rfl
theorem At4.cons {h:H} {P:Nat->Prop} {x:SpX} {L:List SpX} {v:V} (a:At4 h P SpX.V v (x :: L)) : ∃ b o c cs rr,v = .slice (some (b,o)) (x :: L).length c/\b<h.nx/\h.get b=some (.cells cs rr)/\(cs.drop (o+(0:Int).toNat*4)).take 4=x.V:=by
 obtain ⟨ad,c,rfl,_,_,g⟩:=a
 obtain ⟨b,o,cs,rr,rfl,lb,_,gb,hc⟩:=g Zd
 exact ⟨b,o,c,cs,rr,rfl,lb,gb,hc 0 x rfl⟩
def joj (h:H) (p w s rw:Nat) (ow:Nat->Nat) (ro dat:Nat->Prop) (r:St) (sb:Nat) (bs:Option Nat) (X:Nat->Prop) (N:Nat) (R:Int × List Sp × List Int × St) (v:V) (h':H):Prop :=
 ∃ ow' L' i',v = .i R.1/\L'.map SpX.sp=R.2.1/\BB h' p w s rw ow' ro dat R.2.2.2 r/\StOk R.2.2.2 i'/\SW h' ow' ro dat p sb bs X L' R.2.2.1/\Fs h h' ow ro ow' ro (fun j=>j=sb\/bs=some j)/\i'+sumM L'<=N
theorem joj.trans {h g:H} {p w s rw:Nat} {ow ow1:Nat->Nat} {ro dat:Nat->Prop} {r:St} {sb:Nat} {bs:Option Nat} {X:Nat->Prop} {N:Nat} {R:Int × List Sp × List Int × St} {v:V} {h':H} (q:joj g p w s rw ow1 ro dat r sb bs X N R v h') (f:Fs h g ow ro ow1 ro (fun j=>j=sb\/bs=some j)):joj h p w s rw ow ro dat r sb bs X N R v h':=by
 obtain ⟨ow',L',i',e1,e2,e3,e4,e5,e6,e7⟩:=q
 exact ⟨ow',L',i',e1,e2,e3,e4,e5,f.trans e6 fun _ _ e=>e,e7⟩
section
variable {rd:St->Bool} {fv:Bool} {x:Sp} {l:List Sp} {wt:Int} {o:List Int} {st:St}
end
theorem At4.upd {h:H} {P:Nat->Prop} {x:SpX} {L:List SpX} {b o n:Nat} {c:Cap} {cs:List V} {t:Int} (a:At4 h P SpX.V (.slice (some (b,o)) n c) (x :: L)) (g:h.get b=some (.cells cs false)) :
  At4 (h.set b (.cells (cs.set (o+(0:Int).toNat*4+0) (.int .u64 t)) false)) P SpX.V (.slice (some (b,o)) n c) ({ x with t:=t } :: L):=by
 obtain ⟨ad,c',e,n1,ft,k⟩:=a
 cases e
 obtain ⟨b',o',cs',rr,e1,e2,e3,e4,e5⟩:=k Zd
 cases e1
 rw [g] at e4
 cases e4
 refine ⟨_,_,rfl,fun e=>(by cases e),ft,fun _=>⟨b,o,_,false,rfl,e2,e3,jab _,fun i y hi=>?_⟩⟩
 match i,hi with
 | 0,hi=>
  cases hi
  have h0:(cs.drop o).take 4=x.V:=by have:=e5 0 x rfl;simpa using this
  have hl:=jiB h0 rfl
  show ((cs.set o (.int .u64 t)).drop (o+0)).take 4=_
  rw [Nat.add_zero,List.drop_set,zF om,Nat.sub_self,List.take_set,h0]
  rfl
 | i+1,hi=>
  have:=e5 (i+1) y (by simpa using hi)
  show ((cs.set o (.int .u64 t)).drop _).take 4=_
  rw [List.drop_set,zG om]
  exact this
section
variable {cl:Nat->Call} (hcl:Sem cl) {h:H} {p w s rw:Nat} {ow:Nat->Nat} {ro dat:Nat->Prop} {a r:St} {d i sb bp bf:Nat} {fd wt:Int} {fv:Bool} {bs:Option Nat} {X:Nat->Prop} {L:List SpX} {o:List Int}
include hcl
end
structure SD (h:H) (ow:Nat->Nat) (ro dat:Nat->Prop) (p sb:Nat) (X:Nat->Prop) (L:List SpX) (o:List Int):Prop where
 own:Own h ow ro dat p sb
 ex : ∃ v ov,h.get sb=some (.cells [v,ov] false)/\At4 h (fun z=>PB ow ro sb z/\X z) SpX.V v L/\(∀ y∈L,StepAt h dat dat y)/\VI h ov o/\(o≠[] -> ∀ z,ov.at?=some z->dat z)
 few : ∀ x∈L,x.few
theorem SD.fs {h h':H} {p w s rw sb:Nat} {ow ow':Nat->Nat} {ro ro' dat S X:Nat->Prop} {a r:St} {L:List SpX} {o:List Int} (A:SD h ow ro dat p sb X L o) (b:BB h p w s rw ow ro dat a r) (f:Fs h h' ow ro ow' ro' S) (h1 : ¬ S sb) (h2 : ∀ z,dat z -> ¬ S z) (h3 : ∀ z,X z -> ¬ S z):SD h' ow' ro' dat p sb X L o:=by
 obtain ⟨v,ov,e2,e3,e4,e5,e6⟩:=A.ex
 have kd : ∀ z,z<h.nx->dat z->h'.get z=h.get z/\dat z:=fun z hz hd=>⟨f.ch.get z hz fun e=>e.elim (fun e=>e (b.sep z (.inr hd))) fun e=>e.elim (b.ap hd) (h2 z hd),hd⟩
 refine ⟨A.own.fs f,⟨v,ov,by rw [f.get A.own h1,e2],e3.keep f.ch.nx fun z hz hp=>⟨f.ch.get z hz fun e=>e.elim (fun e=>e hp.1.1) fun e=>e.elim hp.1.2.1 (h3 z hp.2),⟨by rw [f.tag z hz];exact hp.1.1,fun e=>hp.1.2.1 ((f.rtag z hz).1 e),hp.1.2.2⟩,hp.2⟩,fun y hy=>(e4 y hy).keep f.ch.nx kd kd,e5.keep2 f.ch.nx fun hl z hz=>(kd z (e5.lt hl hz) (e6 hl z hz)).1,e6⟩,A.few⟩
section
variable {cl:Nat->Call} (hcl:Sem cl) {h:H} {p w s rw:Nat} {ow:Nat->Nat} {ro dat:Nat->Prop} {a r:St} {d i sb:Nat} {fd wt n:Int} {fv:Bool} {X:Nat->Prop} {x:SpX} {L:List SpX} {o:List Int}
include hcl
end
structure WB (h:H) (w s:Nat) (ow:Nat->Nat) (ro:Nat->Prop) (J:H->Prop) (a:St):Prop where
 W:WSt h w s ow a.ws a.now a.tb a.no
 J : ∀ h',h.nx<=h'.nx->(∀ j,j<h.nx->ro j->h'.get j=h.get j)->J h'
 sep : ∀ j,ro j->ow j=0
 lt : ∀ j,ro j->j<h.nx
structure Ow (h:H) (ow:Nat->Nat) (ro:Nat->Prop) (s:Nat):Prop where
 lt:s<h.nx
 o0:ow s=0
 r0 : ¬ ro s
theorem Ow.fs {h h':H} {a b:Nat->Nat} {x y S:Nat->Prop} {s:Nat} (o:Ow h a x s) (f:Fs h h' a x b y S):Ow h' b y s :=
 ⟨zu o.lt f.ch.nx,by rw [f.tag s o.lt];exact o.o0,fun e=>o.r0 ((f.rtag s o.lt).1 e)⟩
theorem Fs.getw {h h':H} {a b:Nat->Nat} {x y S:Nat->Prop} {z:Nat} (f:Fs h h' a x b y S) (o:Ow h a x z) (hS : ¬ S z):h'.get z=h.get z :=
 f.ch.get z o.lt fun e=>e.elim (fun e=>e o.o0) fun e=>e.elim o.r0 hS
section
variable {h h':H} {w s:Nat} {ow ow':Nat->Nat} {ro:Nat->Prop} {J:H->Prop} {a a':St}
theorem WB.wc (b:WB h w s ow ro J a) (W:WSt h' w s ow' a'.ws a'.now a'.tb a'.no) (t:To h h' ow ow'):WB h' w s ow' ro J a' :=
 ⟨W,fun g gx gk=>b.J g (zE t.ch.nx gx) fun j hj hr=>by rw [gk j (zu hj t.ch.nx) hr,t.ch.get j hj fun e=>e (b.sep j hr)],fun j hj=>by rw [t.tag j (b.lt j hj)];exact b.sep j hj,fun j hj=>zu (b.lt j hj) t.ch.nx⟩
theorem WB.old (b:WB h w s ow ro J a) (o:Old h h'):WB h' w s ow ro J a:=b.wc (b.W.old o) (ZE o)
theorem WB.set (b:WB h w s ow ro J a) {z:Nat} (o:Ow h ow ro z) {ob:Obj} : WB (h.set z ob) w s ow ro J a :=
 ⟨b.W.keep (zr _) fun j hj=>jaa fun e=>hj (e ▸ o.o0),fun g gx gk=>b.J g gx fun j hj hr=>(gk j hj hr).trans (jaa fun e=>o.r0 (e ▸ hr)),b.sep,b.lt⟩
variable {cl:Nat->Call} (hcl:Sem cl) {d i:Nat} {m:Mv} {dv:V} {t:Int}
include hcl
theorem tb_Make (hd:13<=d) (b:WB h w s ow ro J a) (so:StOk a i) (hi:i<=900000) (hv:VB h dv m.D) (hz:m.D≠[] -> ∀ z,dv.at?=some z->ow z=0) :
  ∃ h' ow',cl d (.fn 132) [.p w 0,.agg (mvV m dv)] h=some (.tup [.i (mvS m a).1.1,.i (mvS m a).1.2],h')/\WB h' w s ow' ro J (mvS m a).2/\Fm h h' ow ro ow' ro:=by
 obtain ⟨h1,ow1,e1,W1,t1⟩:=wm_Make hcl (m:=m) (dv:=dv) hd b.W so hi hv hz
 exact ⟨h1,ow1,e1,b.wc W1 t1,Fm.to t1⟩
theorem jkB (hd:2<=d) (b:WB h w s ow ro J a) (so:StOk a i) (t0:0<=t) (t1:t<=18446744073709551615) :
  ∃ h',cl d (.fn 82) [.p w 0,.int .u64 t] h=some (.tup [],h')/\WB h' w s ow ro J { a with now:=jdJ a.now t } /\ Fm h h' ow ro ow ro:=by
 obtain ⟨h1,e1,W1,tt⟩:=jnn hcl (d:=d) hd b.W so.now.1 so.now.2 t0 t1
 exact ⟨h1,e1,b.wc (a' := { a with now:=jdJ a.now t }) W1 tt,Fm.to tt⟩
end
section
variable {cl:Nat->Call} (hcl:Sem cl) {h:H} {w s:Nat} {ow:Nat->Nat} {ro:Nat->Prop} {J:H->Prop} {a:St} {d i:Nat}
include hcl
theorem tm_take {sb:Nat} {X:Nat->Prop} {v ov0:V} {x:SpX} {L:List SpX} (hd:15<=d) (b:WB h w s ow ro J a) (so:StOk a i) (hi:i+x.ml.length<=900000) (hs:h.get sb=some (.cells [v,ov0] false)) (own:Ow h ow ro sb) (A:At4 h (PB ow ro sb) SpX.V v (x :: L) /\ ∀ y∈x :: L,StepAt h (fun z=>PB ow ro sb z/\X z) (fun z=>PB ow ro sb z/\X z) y) (hf:x.few) :
  ∃ h' ow' v',cl d (.fn 100) [.p sb 0,.p w 0] h=some (.bool x.intr,h')/\WB h' w s ow' ro J (mvsS x.sp.moves a)/\StOk (mvsS x.sp.moves a) (i+x.ml.length)/\h'.get sb=some (.cells [v',x.ov] false)/\v'.at?=v.at? /\
   (At4 h' (PB ow' ro sb) SpX.V v' L /\ ∀ y∈L,StepAt h' (fun z=>PB ow' ro sb z/\X z) (fun z=>PB ow' ro sb z/\X z) y)/\(VI h' x.ov x.ol/\(x.ol≠[] -> ∀ z,x.ov.at?=some z->PB ow' ro sb z/\X z))/\Fs h h' ow ro ow' ro (· = sb):=by
 suffices q : ∃ w' h',cl d (.fn 100) [.p sb 0,.p w 0] h=some (w',h') /\ ∃ ow' v',w' = .bool x.intr/\WB h' w s ow' ro J (mvsS x.sp.moves a)/\StOk (mvsS x.sp.moves a) (i+x.ml.length)/\h'.get sb=some (.cells [v',x.ov] false)/\v'.at?=v.at? /\
   (At4 h' (PB ow' ro sb) SpX.V v' L /\ ∀ y∈L,StepAt h' (fun z=>PB ow' ro sb z/\X z) (fun z=>PB ow' ro sb z/\X z) y)/\(VI h' x.ov x.ol/\(x.ol≠[] -> ∀ z,x.ov.at?=some z->PB ow' ro sb z/\X z))/\Fs h h' ow ro ow' ro (· = sb) by
  obtain ⟨_,h',e,ow',v',rfl,q⟩:=q;exact ⟨h',ow',v',e,q⟩
 obtain ⟨ad,c,rfl,_,ft,g⟩:=id A.1
 obtain ⟨bs,o,cs,rr,rfl,lb,pb,gb,hc⟩:=g Zd
 have sx:=A.2 x (zj ..)
 have h4:(cs.drop (o+(0:Int).toNat*4)).take 4=x.V:=hc 0 x rfl
 have hlen:=jiB h4 rfl
 have hone:=SpX.one sx
 have ls:=own.lt
 obtain ⟨ao,co,eo,_⟩:=id sx.ov.1
 obtain ⟨am,cm,em,_,_,gm⟩:=id sx.mv
 have q1:(x.V)[0+1]?=some (.bool x.intr):=rfl
 have q2:(x.V)[0+2]?=some (.slice ao x.ol.length co):=by rw [<- eo];rfl
 have q3:(x.V)[0+3]?=some (.slice am x.ml.length cm):=by rw [<- em];rfl
 have hlc:(0:Int)<(((x :: L).length:Nat):Int):=by simp
 have o1:Old h ((h.new (.cells [.int .u64 0,.bool false,.nils,.nils] false)).set h.nx (.cells x.V false)):=(ZD h).new.set (zr _)
 have g1:((h.new (.cells [.int .u64 0,.bool false,.nils,.nils] false)).set h.nx (.cells x.V false)).get h.nx=some (.cells x.V false):=jab _
 have s1:((h.new (.cells [.int .u64 0,.bool false,.nils,.nils] false)).set h.nx (.cells x.V false)).get sb=some (.cells [.slice (some (bs,o)) (x :: L).length c,ov0] false):=by rw [o1.2 _ ls,hs]
 have n1:((h.new (.cells [.int .u64 0,.bool false,.nils,.nils] false)).set h.nx (.cells x.V false)).nx=h.nx+1:=rfl
 generalize hG:(h.new (.cells [.int .u64 0,.bool false,.nils,.nils] false)).set h.nx (.cells x.V false)=G at o1 g1 s1 n1
 have b1:=(b.old o1).set (own.fs (Fs.old (S:=fun j=>j=sb) o1)) (ob := .cells [.slice (some (bs,o+1*4)) ((x :: L).length-1) (c.less 1),ov0] false)
 have f1:Fs h (G.set sb (.cells [.slice (some (bs,o+1*4)) ((x :: L).length-1) (c.less 1),ov0] false)) ow ro ow ro (· = sb):=(Fs.old o1).trans (Fs.set rfl) fun _ _ e=>e.symm
 have gs1:(G.set sb (.cells [.slice (some (bs,o+1*4)) ((x :: L).length-1) (c.less 1),ov0] false)).get sb=some (.cells [.slice (some (bs,o+1*4)) ((x :: L).length-1) (c.less 1),ov0] false):=jab _
 have gl1:(G.set sb (.cells [.slice (some (bs,o+1*4)) ((x :: L).length-1) (c.less 1),ov0] false)).get h.nx=some (.cells x.V false):=by rw [jaa om,g1]
 have nl1:h.nx<(G.set sb (.cells [.slice (some (bs,o+1*4)) ((x :: L).length-1) (c.less 1),ov0] false)).nx:=by simp;omega
 have zl1:ow h.nx=0 /\ ¬ ro h.nx/\h.nx≠sb:=⟨b.W.top (zr _),fun e=>by have:=b.lt _ e;omega,by omega⟩
 have At:At4 h (PB ow ro sb) SpX.V (.slice (some (bs,o+1*4)) ((x :: L).length-1) (c.less 1)) L:=At4.tail rfl A.1
 have AL : ∀ y∈L,StepAt h (fun z=>PB ow ro sb z/\X z) (fun z=>PB ow ro sb z/\X z) y:=fun y hy=>A.2 y (zm _ hy)
 generalize hv1:V.slice (some (bs,o+1*4)) ((x :: L).length-1) (c.less 1)=v1 at b1 f1 gs1 gl1 nl1 At
 have hv1a:v1.at?=some bs:=by rw [<- hv1];rfl
 generalize hH:G.set sb (.cells [v1,ov0] false)=H1 at b1 f1 gs1 gl1 nl1
 refine aT hcl ?_
 obtain ⟨C,hC⟩ : ∃ C,C=c100_3:=⟨_,rfl⟩
 simp only [c100,c100_4,<- hC,yB]
 have T:Run (cl (d-1)) fuel C [] [(0,.p sb 0),(1,.p w 0),(5,.p h.nx 0)] G (Fin c100.res fun w' h'=>∃ ow' v',w' = .bool x.intr/\WB h' w s ow' ro J (mvsS x.sp.moves a)/\StOk (mvsS x.sp.moves a) (i+x.ml.length)/\h'.get sb=some (.cells [v',x.ov] false)/\v'.at?=some bs /\
   (At4 h' (PB ow' ro sb) SpX.V v' L /\ ∀ y∈L,StepAt h' (fun z=>PB ow' ro sb z/\X z) (fun z=>PB ow' ro sb z/\X z) y)/\(VI h' x.ov x.ol/\(x.ol≠[] -> ∀ z,x.ov.at?=some z->PB ow' ro sb z/\X z))/\Fs h h' ow ro ow' ro (· = sb)):=by
  rw [hC]
  clear hC hG o1 n1 gb hc g hs b A
  refine Ga ?_
  refine Ops.slice_l (sz:=4) (l:=1) rfl rfl Zd ft ?_
  rw [hv1]
  have hv1o:v1.one=true:=by rw [<- hv1];rfl
  refine Ga ?_
  refine zcs rfl rfl hv1o s1 Zd ?_
  rw [show ([.slice (some (bs,o)) (x :: L).length c,ov0]:List V).set 0 v1=[v1,ov0] from rfl,hH]
  clear hv1 hH s1 g1
  refine Ga ?_
  refine Zx (fun m e g=>∃ (j:Nat) (ow':Nat->Nat),m=x.ml.length-j/\j<=x.ml.length/\e=[(0,.p sb 0),(1,.p w 0),(5,.p h.nx 0),(23,.slice am x.ml.length cm),(24,.i (x.ml.length:Int)),(25,.i (j:Int))]/\WB g w s ow' ro J (mvsS ((x.ml.take j).map MvX.m) a)/\StOk (mvsS ((x.ml.take j).map MvX.m) a) (i+j)/\Fs h g ow ro ow' ro (· = sb)/\g.get sb=some (.cells [v1,ov0] false)/\g.get h.nx=some (.cells x.V false)/\h.nx<g.nx/\ow' h.nx=0)
   (k:=x.ml.length) (by show _<100000;have:=hf.1;omega) ⟨0,ow,rfl,by omega,rfl,b1,so,f1,gs1,gl1,nl1,zl1.1⟩ ?_
  clear b1 f1 gs1 gl1 nl1
  rintro _ _ g ⟨j,ow1,rfl,hj,rfl,bb,sj,fj,gsb,glx,nlx,zlx⟩ n' ih
  by_cases hlt:(j:Int)<x.ml.length
  case neg=>
   obtain rfl:j=x.ml.length:=by omega
   rw [List.take_length] at bb sj
   have ownj:=own.fs fj
   have bf:=bb.set ownj (ob := .cells [v1,x.ov] false)
   have ff:Fs h (g.set sb (.cells [v1,x.ov] false)) ow ro ow1 ro (· = sb):=fj.trans (Fs.set rfl) fun _ _ e=>e.symm
   have At':=At.keep ff.ch.nx fun z hz hp=>ff.pb hz hp
   have kk : ∀ z,z<h.nx->(PB ow ro sb z/\X z)->(g.set sb (.cells [v1,x.ov] false)).get z=h.get z/\(PB ow1 ro sb z/\X z):=fun z hz hp=>⟨(ff.pb hz hp.1).1,(ff.pb hz hp.1).2,hp.2⟩
   have AL' : ∀ y∈L,StepAt (g.set sb (.cells [v1,x.ov] false)) (fun z=>PB ow1 ro sb z/\X z) (fun z=>PB ow1 ro sb z/\X z) y:=fun y hy=>(AL y hy).keep ff.ch.nx kk kk
   have ov':=(sx.keep ff.ch.nx kk kk).ov
   have hsn:(g.set sb (.cells [v1,x.ov] false)).get sb=some (.cells [v1,x.ov] false):=jab _
   clear ih gm At AL sx bb fj
   clear kk
   rw [eo] at bf ff At' AL' ov' hsn ⊢
   refine Gb ?_
   exact ⟨ow1,v1,rfl,bf,sj,hsn,hv1a,⟨At',AL'⟩,ov',ff⟩
  obtain ⟨y,hy⟩:=jfl (l:=x.ml) (i:=j) om
  obtain ⟨mb,mo,ms,mr,rfl,lm,pm,hgm,hmc⟩:=gm (by intro e;rw [e] at hy;simp at hy)
  have gmb:g.get mb=some (.cells ms mr):=by rw [(fj.pb lm pm.1).1,hgm]
  have m4:(ms.drop (mo+(j:Int).toNat*4)).take 4=y.V:=by rw [zz];exact hmc j y hy
  have mlen:=jiB m4 rfl
  have hym:=zb hy
  obtain ⟨vy,zy⟩:=sx.dv y hym
  have vyg:VB g y.dv y.m.D:=vy.keep2 fj.ch.nx fun hl z hz=>(fj.pb (vy.lt hl hz) (zy hl z hz).1).1
  obtain ⟨da,dc,ed,_⟩:=id vy
  have yone:(MvX.V y).all V.one=true:=by
   show [V.i y.m.op,.i y.m.wire,.i y.m.n,y.dv].all V.one=true
   rw [ed];rfl
  have o2:Old g ((g.new (.cells [.i 0,.i 0,.i 0,.nils] false)).set g.nx (.cells y.V false)):=(ZD g).new.set (zr _)
  have g2:((g.new (.cells [.i 0,.i 0,.i 0,.nils] false)).set g.nx (.cells y.V false)).get g.nx=some (.cells y.V false):=jab _
  have hj1:(j:Int)+1=((j+1:Nat):Int):=by omega
  have hfl:=hf.2.2 y hym
  clear gm hmc
  refine Ga ?_
  refine zcw rfl gmb mlen ?_
  rw [m4]
  refine qm ?_
  refine zct (n:=4) (o:=0) (vs:=y.V) rfl rfl rfl yone (jad _) Zd ?_
  rw [show jat ([.i 0,.i 0,.i 0,.nils]:List V) 0 y.V=y.V from rfl]
  generalize (g.new (.cells [.i 0,.i 0,.i 0,.nils] false)).set g.nx (.cells y.V false)=G2 at o2 g2
  obtain ⟨g3,ow3,e3,b3,f3⟩:=tb_Make hcl (d:=d-1) (m:=y.m) (dv:=y.dv) om (bb.old o2) sj om (vyg.keep2 o2.1 fun hl z hz=>o2.2 z (vyg.lt hl hz)) fun hl z hz=>(fj.pb (vy.lt hl hz) (zy hl z hz).1).2.1
  have ff:Fs h g3 ow ro ow3 ro (· = sb):=fj.trans (.of_fm ((Fm.old o2).trans f3)) fun _ _ e=>e
  have ownj:=own.fs fj
  have nx2:=o2.1
  have ks:g3.get sb=some (.cells [v1,ov0] false):=by rw [f3.ch.get sb (by have:=ownj.lt;omega) fun e=>e.elim (fun e=>e ownj.o0) ownj.r0,o2.2 sb ownj.lt,gsb]
  have kl:g3.get h.nx=some (.cells x.V false):=by rw [f3.ch.get h.nx om fun e=>e.elim (fun e=>e zlx) zl1.2.1,o2.2 _ nlx,glx]
  have zl3:ow3 h.nx=0:=by rw [f3.tag h.nx om];exact zlx
  have nx3:=f3.ch.nx
  rw [<- jhy,<- map_take hy] at b3
  have s3:=mvS_ok (m:=y.m) sj
  rw [<- jhy,<- map_take hy] at s3
  clear bb sj fj gsb glx sx At AL vy vyg
  refine qm ?_
  rw [hj1]
  exact ih (x.ml.length-(j+1)) om _ _ ⟨j+1,ow3,rfl,by omega,rfl,b3,s3,ff,ks,kl,by omega,zl3⟩
 clear A b sx At AL g hc f1 b1 gs1 gl1 hH hv1
 refine qm ?_
 refine zcw rfl gb hlen ?_
 rw [h4]
 refine qm ?_
 refine zct (n:=4) (o:=0) (vs:=x.V) rfl rfl rfl hone (jad _) Zd ?_
 rw [show jat ([.int .u64 0,.bool false,.nils,.nils]:List V) 0 x.V=x.V from rfl,hG]
 refine qm ?_
 exact T
end
structure ST (h:H) (ow:Nat->Nat) (ro:Nat->Prop) (sb:Nat) (bs:Option Nat) (X:Nat->Prop) (L:List SpX) (o:List Int):Prop where
 own:Ow h ow ro sb
 bown : ∀ z,bs=some z->Ow h ow ro z/\z≠sb /\ ∃ cs,h.get z=some (.cells cs false)
 ex : ∃ v ov,v.at?=bs/\h.get sb=some (.cells [v,ov] false)/\At4 h (PB ow ro sb) SpX.V v L/\(∀ y∈L,StepAt h (fun z=>PB ow ro sb z/\(bs≠some z/\X z)) (fun z=>PB ow ro sb z/\(bs≠some z/\X z)) y)/\VI h ov o/\(o≠[] -> ∀ z,ov.at?=some z->PB ow ro sb z/\(bs≠some z/\X z))
 few : ∀ x∈L,x.few
theorem ST.fs {h h':H} {ow ow':Nat->Nat} {ro ro' S X:Nat->Prop} {sb:Nat} {bs:Option Nat} {L:List SpX} {o:List Int} (a:ST h ow ro sb bs X L o) (f:Fs h h' ow ro ow' ro' S) (h1 : ¬ S sb) (h2 : ∀ z,bs=some z -> ¬ S z) (h3 : ∀ z,X z -> ¬ S z):ST h' ow' ro' sb bs X L o:=by
 obtain ⟨v,ov,e1,e2,e3,e4,e5,e6⟩:=a.ex
 have kp : ∀ z,z<h.nx->(PB ow ro sb z/\(bs≠some z/\X z))->h'.get z=h.get z/\(PB ow' ro' sb z/\(bs≠some z/\X z)):=fun z hz hp=>⟨f.ch.get z hz fun e=>e.elim (fun e=>e hp.1.1) fun e=>e.elim hp.1.2.1 (h3 z hp.2.2),⟨by rw [f.tag z hz];exact hp.1.1,fun e=>hp.1.2.1 ((f.rtag z hz).1 e),hp.1.2.2⟩,hp.2⟩
 refine ⟨a.own.fs f,fun z hz=>?_,⟨v,ov,e1,by rw [f.getw a.own h1,e2],?_,fun y hy=>(e4 y hy).keep f.ch.nx kp kp,e5.keep2 f.ch.nx fun hl z hz=>(kp z (e5.lt hl hz) (e6 hl z hz)).1,fun hl z hz=>(kp z (e5.lt hl hz) (e6 hl z hz)).2⟩,a.few⟩
 ·obtain ⟨q1,q2,cs,q3⟩:=a.bown z hz
  exact ⟨q1.fs f,q2,cs,by rw [f.getw q1 (h2 z hz),q3]⟩
 ·obtain ⟨ad,c,rfl,n,ft,g⟩:=e3
  refine ⟨ad,c,rfl,n,ft,fun hl=>?_⟩
  obtain ⟨b,oo,cs,rr,rfl,lb,pb,gb,hc⟩:=g hl
  have hz:bs=some b:=by rw [<- e1];rfl
  obtain ⟨q1,q2,_⟩:=a.bown b hz
  exact ⟨b,oo,cs,rr,rfl,zu lb f.ch.nx,⟨(q1.fs f).o0,(q1.fs f).r0,q2⟩,by rw [f.getw q1 (h2 b hz),gb],hc⟩
section
variable {cl:Nat->Call} (hcl:Sem cl) {h:H} {w s:Nat} {ow:Nat->Nat} {ro:Nat->Prop} {J:H->Prop} {a:St} {d i sb:Nat} {bs:Option Nat} {X:Nat->Prop} {x:SpX} {L:List SpX} {o:List Int}
include hcl
theorem jns (hd:15<=d) (b:WB h w s ow ro J a) (so:StOk a i) (hi:i+x.ml.length<=900000) (A:ST h ow ro sb bs X (x :: L) o) :
  ∃ h' ow',cl d (.fn 100) [.p sb 0,.p w 0] h=some (.bool x.intr,h')/\WB h' w s ow' ro J (mvsS x.sp.moves a)/\StOk (mvsS x.sp.moves a) (i+x.ml.length)/\ST h' ow' ro sb bs X L x.ol/\Fs h h' ow ro ow' ro (· = sb):=by
 obtain ⟨v,ov,e1,e2,e3,e4,e5,e6⟩:=A.ex
 obtain ⟨h',ow',v',k1,k2,k3,k4,k5,⟨k6,k7⟩,⟨k8,k9⟩,f⟩:=tm_take hcl (X:=fun z=>bs≠some z/\X z) hd b so hi e2 A.own ⟨e3,e4⟩ (A.few x (zj ..))
 refine ⟨h',ow',k1,k2,k3,⟨A.own.fs f,fun z hz=>?_,⟨v',x.ov,by rw [k5,e1],k4,k6,k7,k8,k9⟩,fun y hy=>A.few y (zm _ hy)⟩,f⟩
 obtain ⟨q1,q2,cs,q3⟩:=A.bown z hz
 exact ⟨q1.fs f,q2,cs,by rw [f.getw q1 q2,q3]⟩
end
def jeQ (h:H) (w s:Nat) (ow:Nat->Nat) (ro:Nat->Prop) (J:H->Prop) (sb:Nat) (bs:Option Nat) (X:Nat->Prop) (N:Nat) (v:V) (h':H):Prop :=
 ∃ m ow' L' i' o' a',v = .i m/\WB h' w s ow' ro J a'/\StOk a' i'/\ST h' ow' ro sb bs X L' o'/\Fs h h' ow ro ow' ro (fun j=>j=sb\/bs=some j)/\i'+sumM L'<=N/\L'.length<=2000
theorem jeQ.trans {h g:H} {w s:Nat} {ow ow1:Nat->Nat} {ro:Nat->Prop} {J:H->Prop} {sb:Nat} {bs:Option Nat} {X:Nat->Prop} {N:Nat} {v:V} {h':H} (q:jeQ g w s ow1 ro J sb bs X N v h') (f:Fs h g ow ro ow1 ro (fun j=>j=sb\/bs=some j)):jeQ h w s ow ro J sb bs X N v h':=by
 obtain ⟨m,ow',L',i',o',a',e1,e3,e4,e5,e6,e7⟩:=q
 exact ⟨m,ow',L',i',o',a',e1,e3,e4,e5,f.trans e6 fun _ _ e=>e,e7⟩
theorem Run.fin_monoK {call:Call} {fuel:Nat} {c:AC} {res:List RV} {K:List Fr} {e:Env} {h:H} {R R':V->H->Prop} (k:Run call fuel c K e h (Fin res R)) (hR : ∀ v h',R v h'->R' v h'):Run call fuel c K e h (Fin res R'):=by
 obtain ⟨x',e',h',hd',x2,e2,h2,ha,⟨⟨p1,l,p2,p3⟩⟩⟩:=k
 exact ⟨x',e',h',hd',x2,e2,h2,ha,⟨⟨p1,l,p2,hR _ _ p3⟩⟩⟩
theorem ST.tail {h:H} {ow:Nat->Nat} {ro:Nat->Prop} {sb:Nat} {bs:Option Nat} {X:Nat->Prop} {L:List SpX} {o:List Int} (a:ST h ow ro sb bs X L o) {h':H} (q:Old h h'):ST h' ow ro sb bs X L o :=
 a.fs (Fs.old (S:=fun _=>False) q) (fun e=>e) (fun _ _ e=>e) fun _ _ e=>e
section
variable {cl:Nat->Call} (hcl:Sem cl) {h:H} {w s:Nat} {ow:Nat->Nat} {ro:Nat->Prop} {J:H->Prop} {a:St} {d i sb:Nat} {wt:Int} {fv:Bool} {bs:Option Nat} {X:Nat->Prop} {L:List SpX} {o:List Int}
include hcl
theorem te_nap {N:Nat} {sbi:Env} {cf:Nat} {cap:List V} (hd:16<=d) (b:WB h w s ow ro J a) (so:StOk a i) (A:ST h ow ro sb bs X L o) (hi:i+sumM L<=N) (hN:N<=900000) (hL:L.length<=2000)
  (hc : ∀ (g:H) (ow1:Nat->Nat) (a1:St) (i1:Nat),Fs h g ow ro ow1 ro (fun j=>j=sb\/bs=some j)->WB g w s ow1 ro J a1->StOk a1 i1 -> ∃ (b:Bool) (g':H),cl d (.fn cf) cap g=some (.bool b,g')/\Old g g')
  (w0:0<=wt) (w1:wt<=18446744073709551615) :
  Run (cl d) fuel (.loop [0,1,2,3,4] (.block 3 (.seq (.block 4 c46_6) c46_7))) [.block 2] ((0,.p sb 0) :: (1,.p w 0) :: (2,.int .u64 wt) :: (3,.bool fv) :: (4,.clo cf cap) :: sbi) h
   (Fin c46.res fun v h'=>jeQ h w s ow ro J sb bs X N v h'):=by
 refine Zx (fun m e g=>∃ (L1:List SpX) (o1:List Int) (a1:St) (ow1:Nat->Nat) (i1:Nat) (w1:Int) (sbe:Env),m=L1.length/\e=(0,.p sb 0) :: (1,.p w 0) :: (2,.int .u64 w1) :: (3,.bool fv) :: (4,.clo cf cap) :: sbe/\WB g w s ow1 ro J a1/\StOk a1 i1/\ST g ow1 ro sb bs X L1 o1/\Fs h g ow ro ow1 ro (fun j=>j=sb\/bs=some j)/\i1+sumM L1<=N/\0<=w1/\w1<=18446744073709551615/\L1.length<=2000)
  (k:=L.length) Ze ⟨L,o,a,ow,i,wt,sbi,rfl,rfl,b,so,A,Fs.refl,hi,w0,w1,hL⟩ ?_
 clear b so A hi w0 w1 hL
 rintro _ _ g0 ⟨L1,o1,a1,ow1,i1,w1,sbe0,rfl,rfl,b0,so,A0,f0,hi,w0,w2,hR⟩ n' ih
 obtain ⟨bq,g,eq,oq⟩:=hc g0 ow1 a1 i1 f0 b0 so
 have b:=b0.old oq
 have A:=A0.tail oq
 have f:Fs h g ow ro ow1 ro (fun j=>j=sb\/bs=some j):=f0.trans (Fs.old (S:=fun _=>False) oq) fun _ _ e=>e.elim
 clear b0 A0 f0 hc
 show Run _ _ _ _ [(0,.p sb 0),(1,.p w 0),(2,.int .u64 w1),(3,.bool fv),(4,.clo cf cap)] _ _
 clear sbe0
 have f1:=f
 have b1:=b
 have A1:=A
 clear A b f
 obtain ⟨C,hC⟩ : ∃ C,C=c46_5:=⟨_,rfl⟩
 obtain ⟨C7,hC7⟩ : ∃ C,C=c46_7:=⟨_,rfl⟩
 simp only [c46_6,<- hC,<- hC7,uF]
 have clE:=Fs.of_fm (S:=fun j=>j=sb\/bs=some j) (Fm.refl (h:=g) (ow:=ow1) (ro:=ro))
 clear clE
 have U : ∀ (x:SpX) (M:List SpX),L1=x :: M -> ¬ (fv=false/\w1=0) -> ¬ (fv=false/\w1<x.t) -> ∀ sbe,Run (cl d) fuel C7 [.block 3,.loop [0,1,2,3,4] (.block 3 (.seq (.block 4 c46_6) C7)) n',.block 2] ((0,.p sb 0) :: (1,.p w 0) :: (2,.int .u64 w1) :: (3,.bool fv) :: (4,.clo cf cap) :: sbe) g (Fin c46.res fun v h'=>jeQ h w s ow ro J sb bs X N v h'):=by
  rintro x M rfl k1 k2 sbe
  have hm:M.length<=2000:=by have:(x :: M).length<=2000:=hR;simp at this;omega
  obtain ⟨v,ov,ev,es,ea,el,eo,eoz⟩:=id A1.ex
  obtain ⟨bb,oo,c,cs,rr,rfl,lb,gb,h4⟩:=At4.cons ea
  have hbs:bs=some bb:=by rw [<- ev];rfl
  have sx:=el x (zj ..)
  have q0:cs[oo+(0:Int).toNat*4+0]?=some (.int .u64 x.t):=by rw [jk0 h4 om];rfl
  have hlc:(0:Int)<(((x :: M).length:Nat):Int):=by simp
  obtain ⟨g2,e2,b2,f2⟩:=jkB hcl (d:=d) (t:=x.t) om b1 so sx.t0 sx.t1
  have so2:=jkY so sx.t0 sx.t1
  have A2:=A1.fs (Fs.of_fm (S:=fun _=>False) f2) (fun e=>e) (fun _ _ e=>e) fun _ _ e=>e
  have es2:g2.get sb=some (.cells [.slice (some (bb,oo)) (x :: M).length c,ov] false):=by rw [(Fs.of_fm (S:=fun _=>False) f2).getw A1.own (fun e=>e),es]
  have gb2:g2.get bb=some (.cells cs rr):=by rw [(Fs.of_fm (S:=fun _=>False) f2).getw (A1.bown bb hbs).1 (fun e=>e),gb]
  rw [jj6] at hi
  obtain ⟨g3,ow3,e3,b3,so3,A3,f3⟩:=jns hcl (d:=d) om b2 so2 om A2
  have ff:Fs h g3 ow ro ow3 ro (fun j=>j=sb\/bs=some j):=(f1.trans (Fs.of_fm (S:=fun _=>False) f2) fun _ _ e=>e.elim).trans f3 fun _ _ e=>.inl e
  have hm1:min w1 x.t<=w1:=Int.min_le_left _ _
  have hm0:0<=min w1 x.t:=by have:=sx.t0;omega
  rw [hC7]
  clear b1 A1 b2 A2 so2 so el ea eo eoz f1 f2 f3 sx h4
  cases hin:x.intr with
  | true=>
   rw [hin] at e3
   clear ih hR
   refine Ga ?_
   exact ⟨_,ow3,M,_,_,_,rfl,b3,so3,A3,ff,by omega,hm⟩
  | false=>
   rw [hin] at e3
   refine Ga ?_
   exact ih M.length Zd _ _ ⟨M,x.ol,_,ow3,_,w1-min w1 x.t,_,rfl,rfl,b3,so3,A3,ff,by omega,by omega,by omega,hm⟩
 have T : ∀ sbe,Run (cl d) fuel C [.block 4,.seq C7,.block 3,.loop [0,1,2,3,4] (.block 3 (.seq (.block 4 c46_6) C7)) n',.block 2] ((0,.p sb 0) :: (1,.p w 0) :: (2,.int .u64 w1) :: (3,.bool fv) :: (4,.clo cf cap) :: sbe) g (Fin c46.res fun v h'=>jeQ h w s ow ro J sb bs X N v h'):=by
  intro sbe
  rw [hC]
  obtain ⟨v,ov,ev,es,ea,el,eo,eoz⟩:=id A1.ex
  have nt : ¬ (true=false):=fun e=>Bool.noConfusion e
  cases fv with
  | true=>
   cases L1 with
   | nil=>
    obtain ⟨ad,c,rfl,_⟩:=id ea
    have h0:(([]:List SpX).length:Int)=0:=rfl
    clear ih U ea el eo eoz
    refine Ga ?_
    exact ⟨_,ow1,[],i1,_,_,rfl,b1,so,A1,f1,hi,Zm _⟩
   | cons x M=>
    have U':=U x M rfl (fun e=>nt e.1) (fun e=>nt e.1)
    obtain ⟨bb,oo,c,cs,rr,rfl,lb,gb,h4⟩:=At4.cons ea
    have h0 : ¬ (((x :: M).length:Nat):Int)=0:=by simp;omega
    clear ih U ea el eo eoz b1 so A1 f1 hR
    refine Ga ?_
    exact U' _
  | false=>
   have ft:false=false:=rfl
   by_cases hw:w1=0
   ·clear ih U ea el eo eoz
    refine Ga ?_
    exact ⟨_,ow1,L1,i1,_,_,rfl,b1,so,A1,f1,hi,hR⟩
   cases L1 with
   | nil=>
    obtain ⟨ad,c,rfl,_⟩:=id ea
    have h0:(([]:List SpX).length:Int)=0:=rfl
    obtain ⟨g2,e2,b2,f2⟩:=jkB hcl (d:=d) (t:=w1) om b1 so w0 w2
    have so2:=jkY so w0 w2
    have A2:=A1.fs (Fs.of_fm (S:=fun _=>False) f2) (fun e=>e) (fun _ _ e=>e) fun _ _ e=>e
    have ff:Fs h g2 ow ro ow1 ro (fun j=>j=sb\/bs=some j):=f1.trans (Fs.of_fm (S:=fun _=>False) f2) fun _ _ e=>e.elim
    clear ih U ea el eo eoz b1 so A1 f1
    refine Ga ?_
    exact ⟨_,ow1,[],i1,_,_,rfl,b2,so2,A2,ff,hi,Zm _⟩
   | cons x M=>
    by_cases hlt:w1<x.t
    case neg=>
     have U':=U x M rfl (fun e=>hw e.2) (fun e=>hlt e.2)
     obtain ⟨bb,oo,c,cs,rr,rfl,lb,gb,h4⟩:=At4.cons ea
     have h0 : ¬ (((x :: M).length:Nat):Int)=0:=by simp;omega
     have hlc:(0:Int)<(((x :: M).length:Nat):Int):=by simp
     have q0:cs[oo+(0:Int).toNat*4+0]?=some (.int .u64 x.t):=by rw [jk0 h4 om];rfl
     clear ih U ea el eo eoz b1 so A1 f1 hR
     refine Ga ?_
     exact U' _
    obtain ⟨bb,oo,c,cs,rr,rfl,lb,gb,h4⟩:=At4.cons ea
    have hbs:bs=some bb:=by rw [<- ev];rfl
    obtain ⟨ob,nb,cs',gb'⟩:=A1.bown bb hbs
    obtain rfl:rr=false:=by rw [gb] at gb';cases gb';rfl
    clear gb' cs'
    have sx:=el x (zj ..)
    have h0 : ¬ (((x :: M).length:Nat):Int)=0:=by simp;omega
    have hlc:(0:Int)<(((x :: M).length:Nat):Int):=by simp
    have q0:cs[oo+(0:Int).toNat*4+0]?=some (.int .u64 x.t):=by rw [jk0 h4 om];rfl
    have hlen:=jiB h4 rfl
    have x1:=sx.t1
    have fset:Fs g (g.set bb (.cells (cs.set (oo+(0:Int).toNat*4+0) (.int .u64 (x.t-w1))) false)) ow1 ro ow1 ro (fun j=>j=bb):=Fs.set rfl
    have kp : ∀ z,z<g.nx->(PB ow1 ro sb z/\(bs≠some z/\X z))->(g.set bb (.cells (cs.set (oo+(0:Int).toNat*4+0) (.int .u64 (x.t-w1))) false)).get z=g.get z/\(PB ow1 ro sb z/\(bs≠some z/\X z)):=fun z hz hp=>⟨jaa fun e=>hp.2.1 (by rw [hbs,e]),hp⟩
    have A2:ST (g.set bb (.cells (cs.set (oo+(0:Int).toNat*4+0) (.int .u64 (x.t-w1))) false)) ow1 ro sb bs X ({ x with t:=x.t-w1 } :: M) o1:=by
     refine ⟨A1.own.fs fset,fun z hz=>?_,⟨_,ov,ev,by rw [jaa (Ne.symm nb),es],ea.upd gb,fun y hy=>?_,eo.keep2 (zr _) fun hl z hz=>(kp z (eo.lt hl hz) (eoz hl z hz)).1,eoz⟩,fun y hy=>?_⟩
     ·obtain rfl:bb=z:=by rw [hbs] at hz;cases hz;rfl
      exact ⟨ob.fs fset,nb,_,jab _⟩
     ·rcases Zn.1 hy with rfl | hy
      ·have s2:=sx.keep (h':=g.set bb (.cells (cs.set (oo+(0:Int).toNat*4+0) (.int .u64 (x.t-w1))) false)) (zr _) kp kp
       exact ⟨s2.ov,s2.mv,s2.dv,by show 0<=x.t-w1;omega,by show x.t-w1<=_;omega⟩
      ·exact (el y (zm _ hy)).keep (zr _) kp kp
     ·rcases Zn.1 hy with rfl | hy
      ·exact A1.few x (zj ..)
      ·exact A1.few y (zm _ hy)
    have b2:=b1.set ob (ob := .cells (cs.set (oo+(0:Int).toNat*4+0) (.int .u64 (x.t-w1))) false)
    obtain ⟨g3,e3,b3,f3⟩:=jkB hcl (d:=d) (t:=w1) om b2 so w0 w2
    have so2:=jkY so w0 w2
    have A3:=A2.fs (Fs.of_fm (S:=fun _=>False) f3) (fun e=>e) (fun _ _ e=>e) fun _ _ e=>e
    have ff:Fs h g3 ow ro ow1 ro (fun j=>j=sb\/bs=some j):=(f1.trans fset fun j _ e=>.inr (by rw [hbs,e])).trans (Fs.of_fm (S:=fun _=>False) f3) fun _ _ e=>e.elim
    have hs:i1+sumM ({ x with t:=x.t-w1 } :: M)<=N:=hi
    clear ih U ea el eo eoz b1 so A1 f1 b2 A2 f3 fset kp sx h4 ob
    refine Ga ?_
    refine zcs rfl rfl rfl gb om ?_
    refine Ga ?_
    exact ⟨_,ow1,_,i1,_,_,rfl,b3,so2,A3,ff,hs,hR⟩
 simp only [c46_6,<- hC,uF] at T
 have T0:jeQ h w s ow ro J sb bs X N (.i 1) g:=⟨_,ow1,L1,i1,_,_,rfl,b1,so,A1,f1,hi,hR⟩
 clear ih U
 refine Ga ?_
 refine Ops.callc rfl rfl eq ?_
 cases bq with
 | true=>
  refine Ga ?_
  exact T0
 | false=>
  refine Ga ?_
  exact T _
theorem te_Sleep {N:Nat} {cf:Nat} {cap:List V} (hd:17<=d) (b:WB h w s ow ro J a) (so:StOk a i) (A:ST h ow ro sb bs X L o) (hi:i+sumM L<=N) (hN:N<=900000) (hL:L.length<=2000)
  (hc : ∀ (g:H) (ow1:Nat->Nat) (a1:St) (i1:Nat),Fs h g ow ro ow1 ro (fun j=>j=sb\/bs=some j)->WB g w s ow1 ro J a1->StOk a1 i1 -> ∃ (b:Bool) (g':H),cl (d-1) (.fn cf) cap g=some (.bool b,g')/\Old g g')
  (w0:0<=wt) (w1:wt<=18446744073709551615) :
  ∃ v h',cl d (.fn 46) [.p sb 0,.p w 0,.int .u64 wt,.bool fv,.clo cf cap] h=some (v,h')/\jeQ h w s ow ro J sb bs X N v h':=by
 obtain ⟨hA,eA,oA⟩:=jnp hcl (d:=d-1) om b.W so.K.ok
 refine aT hcl ?_
 have bA:=b.old oA
 have fA:Fs h hA ow ro ow ro (fun j=>j=sb\/bs=some j):=Fs.old oA
 have AA:=A.fs (Fs.old (S:=fun _=>False) oA) (fun e=>e) (fun _ _ e=>e) fun _ _ e=>e
 obtain ⟨C,hC⟩ : ∃ C,C=c46_8:=⟨_,rfl⟩
 obtain ⟨C2,hC2⟩ : ∃ C,C=(.loop [0,1,2,3,4] (.block 3 (.seq (.block 4 c46_6) c46_7)):AC):=⟨_,rfl⟩
 simp only [c46,c46_9,<- hC,<- hC2,uF,yB]
 clear b A
 refine Ga ?_
 refine Zx (fun m e g=>∃ (L1:List SpX) (o1:List Int) (a1:St) (ow1:Nat->Nat) (i1:Nat) (sbe:Env),m=L1.length/\e=(0,.p sb 0) :: (1,.p w 0) :: (2,.int .u64 wt) :: (3,.bool fv) :: (4,.clo cf cap) :: sbe/\WB g w s ow1 ro J a1/\StOk a1 i1/\ST g ow1 ro sb bs X L1 o1/\Fs h g ow ro ow1 ro (fun j=>j=sb\/bs=some j)/\i1+sumM L1<=N/\L1.length<=2000)
  (k:=L.length) Ze ⟨L,o,a,ow,i,_,rfl,rfl,bA,so,AA,fA,hi,hL⟩ ?_
 clear bA so AA fA hi eA oA
 rintro _ _ g ⟨L1,o1,a1,ow1,i1,sbe0,rfl,rfl,b,so,A,f,hi,hL1⟩ n' ih
 show Run _ _ _ _ [(0,.p sb 0),(1,.p w 0),(2,.int .u64 wt),(3,.bool fv),(4,.clo cf cap)] _ _
 clear sbe0
 obtain ⟨v,ov,ev,es,ea,el,eo,eoz⟩:=id A.ex
 have own:=A.own
 have T : ∀ sbe,Run (cl (d-1)) fuel C2 [.block 2] ((0,.p sb 0) :: (1,.p w 0) :: (2,.int .u64 wt) :: (3,.bool fv) :: (4,.clo cf cap) :: sbe) g (Fin c46.res (jeQ h w s ow ro J sb bs X N)):=fun sbe=>by
  rw [hC2]
  exact Run.fin_monoK (te_nap hcl (d:=d-1) om b so A hi hN hL1 (fun g2 ow2 a2 i2 f2=>hc g2 ow2 a2 i2 (f.trans f2 fun _ _ e=>e)) w0 w1) fun _ _ q=>jeQ.trans q f
 cases L1 with
 | nil=>
  obtain ⟨ad,c,rfl,_⟩:=id ea
  have h0:(([]:List SpX).length:Int)=0:=rfl
  have h0' : ¬ (0:Int)<(([]:List SpX).length:Int):=by rw [h0];omega
  have T':=T
  subst hC
  clear ih T ea el eo eoz b so A f
  refine Ga ?_
  exact T' _
 | cons x M=>
  obtain ⟨bb,oo,c,cs,rr,rfl,lb,gb,h4⟩:=At4.cons ea
  have hlc:(0:Int)<(((x :: M).length:Nat):Int):=by simp
  have q0:cs[oo+(0:Int).toNat*4+0]?=some (.int .u64 x.t):=by rw [jk0 h4 om];rfl
  by_cases ht:x.t=0
  case neg=>
   have T':=T
   subst hC
   clear ih T ea el eo eoz b so A f
   refine Ga ?_
   exact T' _
  rw [jj6] at hi
  obtain ⟨g3,ow3,e3,b3,so3,A3,f3⟩:=jns hcl (d:=d-1) om b so om A
  have ff:Fs h g3 ow ro ow3 ro (fun j=>j=sb\/bs=some j):=f.trans f3 fun _ _ e=>.inl e
  subst hC
  clear T ea el eo eoz b so A f f3
  have hm:M.length<=2000:=by have:(x :: M).length<=2000:=hL1;simp at this;omega
  cases hin:x.intr with
  | true=>
   rw [hin] at e3
   clear ih
   refine Ga ?_
   exact ⟨_,ow3,M,_,_,_,rfl,b3,so3,A3,ff,by omega,hm⟩
  | false=>
   rw [hin] at e3
   refine Ga ?_
   exact ih M.length Zd _ _ ⟨M,x.ol,_,ow3,_,_,rfl,rfl,b3,so3,A3,ff,by omega,hm⟩
end
end Am.Sigs
