/- Our own library, part 17. -/
import Derived.Test.YtjpkpdlpolnehaaGreatDoorV16
import Derived.Test.YtjpkpdlpolnehaaGreatDoorV09
import Derived.Test.YtjpkpdlpolnehaaGreatDoorV15
set_option maxHeartbeats 8000000
set_option maxRecDepth 800
set_option linter.all false
namespace Am.Sigs
open Am Go
def Wi.RK (x y:Wi):Prop := ∀ k,k=0\/k=1->(x.e k).ring≠none->(y.e k).ring≠none
theorem Wi.RK.refl (x:Wi):x.RK x:=fun _ _ h=>h
theorem Wi.RK.trans {x y z:Wi} (a:x.RK y) (b:y.RK z):x.RK z:=fun k hk h=>b k hk (a k hk h)
def WsR (ws ws':Ws):Prop := ∀ (n:Nat) (x:Wi),ws[n]?=some x -> ∃ y,ws'[n]?=some y/\x.RK y
theorem WsR.refl (ws:Ws):WsR ws ws:=fun _ x h=>⟨x,h,Wi.RK.refl x⟩
theorem WsR.trans {a b c:Ws} (x:WsR a b) (y:WsR b c):WsR a c:=fun n u hu=>by
 obtain ⟨v,hv,h1⟩:=x n u hu
 obtain ⟨w,hw,h2⟩:=y n v hv
 exact ⟨w,hw,h1.trans h2⟩
theorem WsR.set {ws:Ws} {n:Nat} {x y:Wi} (hx:ws[n]?=some x) (h:x.RK y):WsR ws (ws.set n y):=fun m u hu=>by
 by_cases e:n=m
 ·subst e
  rw [hx] at hu;cases hu
  exact ⟨y,by rw [zh,zC rfl,zC (w_lt hx)],h⟩
 ·exact ⟨u,by rw [zh,zz e,hu],Wi.RK.refl u⟩
theorem WsR.push {ws:Ws} {x:Wi} : WsR ws (ws++[x]):=fun _ u hu=>⟨u,jdF hu,Wi.RK.refl u⟩
theorem NtOk.keep {ws ws':Ws} {no si:Int} (a:NtOk ws no si) (r:WsR ws ws'):NtOk ws' no si:=by
 rcases a with a | ⟨n,k,x,h1,h2,h3,h4,h5,h6⟩
 ·exact .inl a
 ·obtain ⟨y,hy,rk⟩:=r n x h4
  exact .inr ⟨n,k,y,h1,h2,h3,hy,rk 0 (.inl rfl) h5,rk 1 (.inr rfl) h6⟩
theorem jeu {x:Wi} {k:Nat} {i o:Bool} (hk:k=0\/k=1):x.RK (x.came k i o):=by
 intro j hj
 rcases hk with rfl | rfl<;>rcases hj with rfl | rfl<;>exact fun h=>h
theorem jg9 {x:Wi} {k:Nat} {q:List UInt8} (hk:k=0\/k=1):x.RK (x.setq k q):=by
 intro j hj
 rcases hk with rfl | rfl<;>rcases hj with rfl | rfl
 ·intro _;show some q≠none;simp
 ·exact fun h=>h
 ·exact fun h=>h
 ·intro _;show some q≠none;simp
theorem jiE {x:Wi} {k m:Nat} {q:List UInt8} (hk:k=0\/k=1):x.RK (x.take k m q):=(jg9 hk).trans (jeu (jbt hk))
theorem jjf {x:Wi} {k m:Nat} {q b:List UInt8} (hk:k=0\/k=1):x.RK (x.fill k m q b):=(jg9 (jbt hk)).trans (jeu (jbt hk))
theorem jll {x:Wi} {k:Nat} {e:En} (hk:k=0\/k=1) (h:e.ring=(x.e k).ring):x.RK (x.put k e):=by
 intro j hj
 rcases hk with rfl | rfl<;>rcases hj with rfl | rfl
 ·intro h1;show e.ring≠none;rw [h];exact h1
 ·exact fun h=>h
 ·exact fun h=>h
 ·intro h1;show e.ring≠none;rw [h];exact h1
theorem jkU {x:Wi} {k:Nat} (hk:k=0\/k=1):x.RK (x.doShut k):=by
 unfold Wi.doShut
 split
 ·exact Wi.RK.refl x
 ·exact (jll (e := { x.e k with shut:=true }) hk rfl).trans (jeu (jbt hk))
theorem jhf {x:Wi} {k:Nat} (hk:k=0\/k=1):x.RK (x.close k):=by
 unfold Wi.close
 exact (jeu (jbt hk)).trans (jll hk rfl)
theorem reset_rk {x:Wi} : x.RK x.doReset:=by
 unfold Wi.doReset
 split
 ·exact Wi.RK.refl x
 ·have z0:(0:Nat)=0\/(0:Nat)=1 := .inl rfl
  have z1:(1:Nat)=0\/(1:Nat)=1 := .inr rfl
  have p0:x.RK { x with reset:=true } := fun j hj=>by rcases hj with rfl | rfl<;>exact fun h=>h
  exact (((p0.trans (jg9 z0)).trans (jeu z0)).trans (jg9 z1)).trans (jeu z1)
theorem readS_r {ws:Ws} {fd many:Int} : WsR ws (jlj ws fd many).2:=by
 unfold jlj
 refine ja8 (P:=fun r:_ × Ws=>WsR ws r.2) (WsR.refl ws) fun n k x hx hk h1=>?_
 split
 ·exact WsR.refl ws
 ·repeat' split
  all_goals first | exact WsR.refl ws | exact WsR.set hx (jiE hk)
theorem writeS_r {ws:Ws} {fd:Int} {b:List UInt8} : WsR ws (jhr ws fd b).2:=by
 unfold jhr
 refine ja8 (P:=fun r:_ × Ws=>WsR ws r.2) (WsR.refl ws) fun n k x hx hk h1=>?_
 repeat' split
 all_goals first | exact WsR.refl ws | exact WsR.set hx (jjf hk)
theorem shutS_r {ws:Ws} {fd:Int} : WsR ws (jkV ws fd).2:=by
 unfold jkV
 refine ja8 (P:=fun r:_ × Ws=>WsR ws r.2) (WsR.refl ws) fun n k x hx hk h1=>?_
 split
 ·exact WsR.refl ws
 ·exact WsR.set hx (jkU hk)
theorem jgp : ∀ (L:List Int) (ws:Ws),WsR ws (jb7 ws L)
 | [],ws=>WsR.refl ws
 | m :: L,ws=>by
  refine WsR.trans ?_ (jgp L _)
  unfold jet
  split
  ·exact WsR.refl ws
  ·next x hx=>exact WsR.set hx (jhf (.inl rfl))
theorem noWait_r {ws:Ws} {n:Nat} : WsR ws (noWait ws n):=by
 unfold noWait
 split
 ·exact WsR.refl ws
 ·next x hx=>exact WsR.set hx fun j hj=>by rcases hj with rfl | rfl<;>exact fun h=>h
theorem closeS_r {ws:Ws} {fd:Int} : WsR ws (ji0 ws fd).2:=by
 unfold ji0
 exact ja8 (P:=fun r:_ × Ws=>WsR ws r.2) (WsR.refl ws) fun n k x hx hk h1=>((WsR.set hx (jhf hk)).trans (jgp _ _)).trans noWait_r
theorem putS_r {ws:Ws} {n:Int} {b:List UInt8} : WsR ws (putS ws n b).2:=by
 unfold putS
 refine ja9 (P:=fun r:_ × Ws=>WsR ws r.2) (WsR.refl ws) fun n x hx h2=>?_
 repeat' split
 all_goals first | exact WsR.refl ws | exact WsR.set hx (jjf (.inr rfl))
theorem takeS_r {ws:Ws} {n many:Int} : WsR ws (jdv ws n many).2:=by
 unfold jdv
 refine ja9 (P:=fun r:_ × Ws=>WsR ws r.2) (WsR.refl ws) fun n x hx h2=>?_
 repeat' split
 all_goals first | exact WsR.refl ws | exact WsR.set hx (jiE (.inr rfl))
theorem jiU {ws:Ws} {n:Int} : WsR ws (jbd ws n).2:=ja9 (P:=fun r:_ × Ws=>WsR ws r.2) (WsR.refl ws) fun _ _ hx _=>WsR.set hx (jkU (.inr rfl))
theorem jhK {ws:Ws} {n:Int} : WsR ws (jaM ws n).2:=ja9 (P:=fun r:_ × Ws=>WsR ws r.2) (WsR.refl ws) fun _ _ hx _=>WsR.set hx (jhf (.inr rfl))
theorem resetS_r {ws:Ws} {n:Int} : WsR ws (jcU ws n).2:=ja9 (P:=fun r:_ × Ws=>WsR ws r.2) (WsR.refl ws) fun _ _ hx _=>WsR.set hx reset_rk
theorem jlv {ws:Ws} {kind n:Int} : WsR ws (jaZ ws kind n).2:=by
 unfold jaZ
 repeat' split
 all_goals first | exact WsR.refl ws | exact WsR.push
theorem acceptS_r {ws:Ws} {fd:Int} : WsR ws (jfM ws fd).2:=by
 unfold jfM
 refine ja8 (P:=fun r:_ × Ws=>WsR ws r.2) (WsR.refl ws) fun n k x hx hk h1=>?_
 split
 ·exact WsR.refl ws
 split
 ·exact WsR.refl ws
 split
 ·exact WsR.refl ws
 split
 ·exact WsR.refl ws
 next y hy=>
 refine WsR.trans (WsR.set (y := { x with waiting:=_ }) hx fun j hj=>?_) (WsR.set hy (jll (.inl rfl) rfl))
 rcases hj with rfl | rfl<;>exact fun h=>h
theorem jk8 {ws:Ws} {n many:Int} : WsR ws (jas ws n many).2:=by
 unfold jas
 split
 ·exact WsR.refl ws
 split
 ·exact WsR.refl ws
 next x hx=>
 repeat' split
 all_goals first | exact WsR.refl ws | skip
 refine WsR.trans (WsR.set hx fun j hj=>?_) WsR.push
 rcases hj with rfl | rfl<;>exact fun h=>h
theorem jdf {ws:Ws} {sum no si:Int} (nt:NtOk ws no si):WsR ws (jaB ws sum no si):=by
 unfold jaB
 split
 ·exact WsR.refl ws
 next h0=>
 split
 ·exact WsR.refl ws
 next x hx=>
 split
 ·exact WsR.refl ws
 rcases nt with h | ⟨n,k,y,h1,h2,h3,h4,h5,h6⟩
 ·omega
 have hk:si.toNat=0\/si.toNat=1:=by omega
 split
 ·exact WsR.set hx (jiE hk)
 split
 ·exact WsR.set hx (jjf (jbt hk))
 ·exact WsR.refl ws
theorem jcC {ws:Ws} {sum no si:Int} (K:WsK ws) (nt:NtOk ws no si):WsK (jaB ws sum no si):=by
 unfold jaB
 split
 ·exact K
 next h0=>
 split
 ·exact K
 next x hx=>
 split
 ·exact K
 next q hq=>
 rcases nt with h | ⟨n,k,y,h1,h2,h3,h4,h5,h6⟩
 ·omega
 have hk:si.toNat=0\/si.toNat=1:=by omega
 split
 ·exact K.take hx hk hq
 split
 ·next e=>
  have e2:1-(1-si.toNat)=si.toNat:=by omega
  have hc:=(K.ok.ok x (zc hx)).cap0
  exact K.fill hx (jbt hk) (q:=[]) (by rw [e2,hq,e]) (by show min 1 x.cap<=x.cap-0;omega)
 ·exact K
theorem jmj {ws:Ws} {a b no si:Int} (nt:NtOk ws no si):NtOk ws (ntNo ws a b no) (ntSi ws a b si):=by
 have key : ∀ n k,(ntS ws a b).2=some (n,k)->(k=0\/k=1) /\ ∃ x,ws[n]?=some x/\x.e0.ring≠none/\x.e1.ring≠none:=by
  unfold ntS
  refine ja8 (P:=fun r:Int × Option (Nat × Nat)=>∀ n k,r.2=some (n,k)->(k=0\/k=1) /\ ∃ x,ws[n]?=some x/\x.e0.ring≠none/\x.e1.ring≠none) (fun _ _ h=>by cases h) fun n k x hx hk h1=>?_
  refine ja8 (P:=fun r:Int × Option (Nat × Nat)=>∀ n k,r.2=some (n,k)->(k=0\/k=1) /\ ∃ x,ws[n]?=some x/\x.e0.ring≠none/\x.e1.ring≠none) (fun _ _ h=>by cases h) fun m i y hy hi h2=>?_
  intro n' k' h
  split at h
  ·next hc=>
   cases h
   exact ⟨hk,x,hx,hc.2.2.1,hc.2.2.2⟩
  ·cases h
 unfold ntNo ntSi
 cases e:(ntS ws a b).2 with
 | none=>exact nt
 | some p=>
  obtain ⟨n,k⟩:=p
  obtain ⟨hk,x,hx,h1,h2⟩:=key n k e
  exact .inr ⟨n,k,x,rfl,rfl,hk,hx,h1,h2⟩
theorem jmi {ws:Ws} {sum a b:Int} : ∃ no si,NtOk ws no si/\ntW ws sum a b=jaB ws sum no si:=by
 have:=jmj (ws:=ws) (a:=a) (b:=b) (no := -1) (si:=0) (.inl rfl)
 unfold ntNo ntSi at this
 unfold ntW
 cases e:(ntS ws a b).2 with
 | none=>exact ⟨-1,0,.inl rfl,rfl⟩
 | some p=>
  obtain ⟨n,k⟩:=p
  rw [e] at this
  exact ⟨n,k,this,rfl⟩
def noI:Option (Nat × Nat)->Int
 | none=>-1
 | some p=>p.1
def siI:Option (Nat × Nat)->Int
 | none=>0
 | some p=>p.2
theorem put_clear {x:Wi} {k:Nat} {q:List UInt8} : (x.setq k []).came (1-k) false (decide (0<q.length))=x.take k q.length q:=by
 unfold Wi.take
 rw [List.drop_length]
section
variable {cl:Nat->Call} (hcl:Sem cl) {h:H} {w s:Nat} {ow:Nat->Nat} {ws:Ws} {now:Int} {tb:Tb} {no:Option (Nat × Nat)}
include hcl
theorem jjQ {d:Nat} (hd:11<=d) (a:WSt h w s ow ws now tb no) (nt:NtOk ws (noI no) (siI no)) (hok:tb.ok 1000000) :
  ∃ h',cl d (.fn 101) [.p w 0] h=some (.tup [],h')/\WSt h' w s ow (jaB ws (tb.sum 32) (noI no) (siI no)) now tb no/\To h h' ow ow:=by
 obtain ⟨l,a,rfl⟩:=a
 obtain ⟨sa,c,hw,hsl⟩:=a.wf.head
 have lw:=a.wf.lw
 suffices q : ∃ v h',cl d (.fn 101) [.p w 0] h=some (v,h')/\(v = .tup []/\WSt h' w s ow (jaB (wxs l) (tb.sum 32) (noI no) (siI no)) now tb no/\To h h' ow ow) by
  obtain ⟨_,h',e,rfl,q⟩:=q;exact ⟨h',e,q⟩
 cases no with
 | none=>
  have q1:(wc (fun i=>atS (wxs l) (i:Int)) (.slice sa l.length c) s now none)[0+291+0]?=some (.bool false):=jh1 (j:=0) om rfl
  have hS:jaB (wxs l) (tb.sum 32) (noI none) (siI none)=wxs l:=zC (by show (-1:Int)<0;omega)
  rw [hS]
  have same:WSt h w s ow (wxs l) now tb none:=⟨l,a,rfl⟩
  refine aT hcl ?_
  refine qx ?_
  exact ⟨rfl,same,To.refl _ _⟩
 | some p=>
  obtain ⟨n,k⟩:=p
  obtain ⟨hk,x,hx,hx0,hx1⟩:(k=0\/k=1) /\ ∃ x,(wxs l)[n]?=some x/\x.e0.ring≠none/\x.e1.ring≠none:=by
   rcases nt with e | ⟨n',k',x,e1,e2,hk,hx,p⟩
   ·have e:(n:Int) = -1:=e
    omega
   ·have e1:(n:Int)=n':=e1
    have e2:(k:Int)=k':=e2
    obtain rfl:n=n':=by omega
    obtain rfl:k=k':=by omega
    exact ⟨hk,x,hx,p⟩
  obtain ⟨t,ht,rfl⟩:=jha hx
  obtain ⟨q,hq⟩ : ∃ q,(t.x.e k).ring=some q:=by
   rcases hk with rfl | rfl
   ·exact zJ.1 hx0
   ·exact zJ.1 hx1
  have hS:jaB (wxs l) (tb.sum 32) (noI (some (n,k))) (siI (some (n,k)))=if tb.sum 32=0 then (wxs l).set n (t.x.take k q.length q) else if q=[] then (wxs l).set n (t.x.fill (1-k) (min 1 t.x.cap) [] [1]) else wxs l:=by
   unfold jaB
   show (if (n:Int)<0 then _ else _)=_
   rw [zz om]
   show (match (wxs l)[(n:Int).toNat]? with | none=>_ | some x=>match (x.e (k:Int).toNat).ring with | none=>_ | some q=>_)=_
   rw [zt,hx]
   simp only [zt,hq]
   rfl
  rw [hS]
  have q0:(wc (fun i=>atS (wxs l) (i:Int)) (.slice sa l.length c) s now (some (n,k)))[0+291+0]?=some (.bool true):=jh1 (j:=0) om rfl
  have q1:(wc (fun i=>atS (wxs l) (i:Int)) (.slice sa l.length c) s now (some (n,k)))[0+291+1]?=some (.i (n:Int)):=jh1 (j:=1) om rfl
  have q2:(wc (fun i=>atS (wxs l) (i:Int)) (.slice sa l.length c) s now (some (n,k)))[0+291+2]?=some (.i (k:Int)):=jh1 (j:=2) om rfl
  have q3:(wc (fun i=>atS (wxs l) (i:Int)) (.slice sa l.length c) s now (some (n,k)))[0+288]?=some (.slice sa l.length c):=jaO rfl
  have q4:(wc (fun i=>atS (wxs l) (i:Int)) (.slice sa l.length c) s now (some (n,k)))[0+289]?=some (.p s 0):=jfe rfl
  have hlt:=x_lt ht
  obtain ⟨z,rfl,z1,z2,z3⟩:=hsl (by rintro rfl;simp at hlt)
  have w2:(wps l)[0+(n:Int).toNat*1]?=some (.p t.wb 0):=by rw [show 0+(n:Int).toNat*1=n by omega];exact jc5 ht
  have X0:=a.wf.ok n t ht
  have hx0:=X0.hx
  unfold Wi.obj at hx0
  have q5:=Wi.ring_cell (x:=t.x) (r0:=t.r0) (r1:=t.r1) (wv:=t.wv) hk hq (o:=0+0+(k:Int).toNat*7+2) om
  obtain ⟨h1,e1,c1⟩:=jka hcl (d:=d-1) (h0:=h) om a.wf.hs a.wf.ls hok
  have o1:=Old.ofCh c1
  have a1:=a.old o1
  have X:=a1.wf.ok n t ht
  obtain ⟨p1,p2,p3,p4,p5,p6⟩:=X.apart hk hq
  by_cases hsum:tb.sum 32=0
  ·rw [zC hsum]
   obtain ⟨h2,e2,R2,c2⟩:=jj3 hcl (d:=d-1) om p1 p2 p3 p4
   have W1:=a1.wf.clear ht hk hq c2 R2
   have ht1:(l.set n { t with x:=t.x.setq k [] })[n]?=some { t with x:=t.x.setq k [] } := by rw [zh,zC rfl,zC (x_lt ht)]
   have X1:=W1.ok n _ ht1
   obtain ⟨h3,e3,u3⟩:=jdU hcl (d:=d-1) (k:=1-k) om X1.hx om false (decide (0<q.length))
   have W2:=W1.upd ht1 u3 (by rcases hk with rfl | rfl<;>rfl) (by rcases hk with rfl | rfl<;>rfl) (fun i hi=>by rcases hk with rfl | rfl<;>rcases hi with rfl | rfl<;>rfl)
   rw [List.set_set] at W2
   have W2:WF h3 w s ow (fun i=>atS (wxs l) (i:Int)) (l.set n { t with x:=t.x.take k q.length q }) now tb (some (n,k)):=by
    rw [<- put_clear];exact W2
   have W3:=WF.same W2 a.fds (jaq ht) (Wi.take_same hk)
   have T:To h h3 ow ow:=by
    refine To.old o1 (To.trans ⟨c2.weaken fun j hj hb=>?_,fun _ _=>rfl⟩ (X1.toU u3))
    obtain ⟨_,o2,_⟩:=X.ring k hk q hq
    have hb:j=t.r k:=hb
    subst hb;omega
   have fin:WSt h3 w s ow ((wxs l).set n (t.x.take k q.length q)) now tb (some (n,k)):=⟨_,W3,jbP⟩
   have ek:(1:Int)-(k:Int)=((1-k:Nat):Int):=by omega
   have eb:decide ((q.length:Int)>0)=decide (0<q.length):=by simp
   rw [<- ek,<- eb] at e3
   refine aT hcl ?_
   clear hok nt
   refine qx ?_
   exact ⟨rfl,fin,T⟩
  rw [zz hsum]
  have hlen : ∃ buf frm inn out,RingC h1 (t.r k) (t.b k) buf frm q.length t.x.cap inn out:=by
   obtain ⟨buf,frm,inn,out,C,_⟩:=p1;exact ⟨buf,frm,inn,out,C⟩
  obtain ⟨buf,frm,inn,out,C⟩:=hlen
  have e2:=jh7 hcl (d:=d-1) om C
  by_cases hqn:q=[]
  ·rw [zC hqn]
   subst hqn
   have ek:(1:Int)-(k:Int)=((1-k:Nat):Int):=by omega
   have ekk:1-(1-k)=k:=by omega
   have oG:Old h1 (h1.new (.cells [.int .u8 1] false)):=(Zn h1).new
   have hB:BytesAt (h1.new (.cells [.int .u8 1] false)) (some (h1.nx,0)) (.fix 1) [1] :=
    ⟨fun e=>by (cases e),zp _,fun _=>⟨h1.nx,0,_,false,rfl,by simp,jac _,fun i x hi=>by
     match i,hi with
     | 0,hi=>cases hi;rfl
     | i+1,hi=>simp at hi⟩⟩
   have aG:=a1.old oG
   have XG:=aG.wf.ok n t ht
   have hqG:(t.x.e (1-(1-k))).ring=some []:=by rw [ekk];exact hq
   obtain ⟨g1,g2,g3,g4,g5,g6⟩:=XG.apart (k:=1-(1-k)) om hqG
   obtain ⟨h3,e3,r1,r2,r3⟩:=jlW hcl (d:=d-1) (k:=1-k) om XG.hx om hqG g1 XG.lx g2 g3 g4 g5 g6 hB Zd (fun z o e _=>by
    cases e
    rw [ekk]
    have:t.b k<h1.nx:=p3
    have:t.r k<h1.nx:=p2
    exact ⟨by omega,by show h1.nx≠t.r k;omega⟩)
   have hm1:min ([1]:List UInt8).length (t.x.cap-([]:List UInt8).length)=min 1 t.x.cap:=by simp
   rw [hm1] at r1 r2
   have W:=aG.wf.fill (k:=1-k) ht om hqG r3 r1 r2
   have W2:=WF.same W a.fds (jaq ht) (Wi.fill_same om)
   have T:To h h3 ow ow:=To.old (o1.trans oG) (XG.to (k:=1-(1-k)) om hqG r3)
   have fin:WSt h3 w s ow ((wxs l).set n (t.x.fill (1-k) (min 1 t.x.cap) [] [1])) now tb (some (n,k)):=⟨_,W2,jbP⟩
   rw [<- ek] at e3
   refine aT hcl ?_
   clear hok nt
   refine qx ?_
   refine zcu (ob := .cells [.int .u8 1] false) (mk:=fun b=>.slice (some (b,0)) 1 (.fix 1)) rfl rfl ?_
   refine qx ?_
   exact ⟨rfl,fin,T⟩
  ·rw [zz hqn]
   have hpos : ¬ (q.length:Int)=0:=by have:=List.length_pos_iff.2 hqn;omega
   have fin:WSt h1 w s ow (wxs l) now tb (some (n,k)):=⟨l,a1,rfl⟩
   have T:To h h1 ow ow:=To.of_old o1
   refine aT hcl ?_
   clear hok nt
   refine qx ?_
   exact ⟨rfl,fin,T⟩
end
section
variable {h h':H} {w s:Nat} {ow:Nat->Nat} {f:Nat->Option (Nat × Nat)} {l:List WX} {ws:Ws} {now:Int} {tb tb':Tb} {no:Option (Nat × Nat)}
theorem WF.tbl (a:WF h w s ow f l now tb no) (ch:Ch (fun j=>j=s) h h') (g:h'.get s=some tb'.obj):WF h' w s ow f l now tb' no:=by
 obtain ⟨wv,p1,p2,p3⟩:=a.hw
 have ts:=a.ts
 have k : ∀ j,ow j≠0->ow j≠3->h'.get j=h.get j:=fun j h0 h3=>ch.get j (a.lt_of h0) fun e=>by
  have e:j=s:=e
  rw [e] at h3;exact h3 ts
 exact ⟨⟨wv,by rw [k w (by rw [a.tw];omega) (by rw [a.tw];omega),p1],p2.keep ch.nx fun z hz=>k z (by rw [p3 z hz];omega) (by rw [p3 z hz];omega),p3⟩,g,a.tw,a.ts,zq a.lw ch.nx,zq a.ls ch.nx,
  fun j hj=>a.top j (zx ch.nx hj),fun n t ht=>(a.ok n t ht).keep ch.nx fun j h1 _=>k j om om⟩
theorem WSt.tbl (a:WSt h w s ow ws now tb no) (ch:Ch (fun j=>j=s) h h') (g:h'.get s=some tb'.obj):WSt h' w s ow ws now tb' no/\To h h' ow ow:=by
 obtain ⟨l,a,e⟩:=a
 refine ⟨⟨l,⟨a.wf.tbl ch g,a.fds⟩,e⟩,⟨ch.weaken fun j _ hb=>?_,fun _ _=>rfl⟩⟩
 have hb:j=s:=hb
 rw [hb,a.wf.ts];omega
end
section
variable {cl:Nat->Call} (hcl:Sem cl) {h:H} {w s:Nat} {ow:Nat->Nat} {ws:Ws} {now:Int} {tb:Tb} {no:Option (Nat × Nat)}
include hcl
theorem ww_Raise {d:Nat} {sg:Int} (hd:12<=d) (a:WSt h w s ow ws now tb no) (nt:NtOk ws (noI no) (siI no)) (h0:tb.ok 1000000) (hok:(tb.raise sg).ok 1000000) :
  ∃ h',cl d (.fn 77) [.p w 0,.i sg] h=some (.i (if sig? sg then 0 else 100),h')/\WSt h' w s ow (jaB ws ((tb.raise sg).sum 32) (noI no) (siI no)) now (tb.raise sg) no/\To h h' ow ow:=by
 obtain ⟨l,b,rfl⟩:=id a
 have hn:=jbU hcl (d:=d-1) om b.wf
 obtain ⟨sa,c,hw,_⟩:=b.wf.head
 have q4:(wc (fun i=>atS (wxs l) (i:Int)) (.slice sa l.length c) s now no)[0+289]?=some (.p s 0):=jfe rfl
 have lw:=b.wf.lw
 obtain ⟨h1,e1,u1⟩:=sp_raise hcl (d:=d-1) om b.wf.hs sg h0
 obtain ⟨a1,t1⟩:=a.tbl (tb':=tb.raise sg) (u1.ch (B:=fun j=>j=s) rfl) u1.self
 obtain ⟨h2,e2,a2,t2⟩:=jjQ hcl (d:=d-1) om a1 nt hok
 have T:=To.trans t1 t2
 refine jak (aT hcl ?_)
 clear hok nt h0
 refine qx ?_
 exact ⟨rfl,a2,T⟩
end
noncomputable def noT (ws:Ws) (a b:Int) (no:Option (Nat × Nat)):Option (Nat × Nat):=match (ntS ws a b).2 with
 | none=>no
 | some p=>some p
theorem noT_no {ws:Ws} {a b:Int} {no:Option (Nat × Nat)} : noI (noT ws a b no)=ntNo ws a b (noI no):=by
 unfold noT ntNo
 cases (ntS ws a b).2<;>rfl
theorem noT_si {ws:Ws} {a b:Int} {no:Option (Nat × Nat)} : siI (noT ws a b no)=ntSi ws a b (siI no):=by
 unfold noT ntSi
 cases (ntS ws a b).2<;>rfl
section
variable {cl:Nat->Call} (hcl:Sem cl) {h:H} {w s:Nat} {ow:Nat->Nat} {ws:Ws} {now:Int} {tb:Tb} {no:Option (Nat × Nat)}
include hcl
end
structure Mono (g h:H):Prop where
 nx:h.nx=g.nx
 get : ∀ j o,j<g.nx->g.get j=some o->h.get j=some o
theorem VB.mono {g h:H} {v:V} {l:List UInt8} (m:Mono g h) (a:VB g v l):VB h v l:=by
 obtain ⟨a,c,rfl,n,f,k⟩:=a
 refine ⟨a,c,rfl,n,f,fun hl=>?_⟩
 obtain ⟨b,o,cs,ro,rfl,h1,h2,h3⟩:=k hl
 exact ⟨b,o,cs,ro,rfl,by rw [m.nx];exact h1,m.get b _ h1 h2,h3⟩
theorem VI.mono {g h:H} {v:V} {l:List Int} (m:Mono g h) (a:VI g v l):VI h v l:=by
 obtain ⟨a,c,rfl,n,f,k⟩:=a
 refine ⟨a,c,rfl,n,f,fun hl=>?_⟩
 obtain ⟨b,o,cs,ro,rfl,h1,h2,h3⟩:=k hl
 exact ⟨b,o,cs,ro,rfl,by rw [m.nx];exact h1,m.get b _ h1 h2,h3⟩
theorem Row.mono {N sz n:Nat} {g h:H} {v:V} {cs:List V} (m:Mono g h) (a:Row N g sz v n cs):Row N h sz v n cs:=by
 rcases a with a | ⟨q,h1,h2,rfl,h4,h5⟩
 ·exact .inl a
 ·exact .inr ⟨q,h1,by rw [m.nx];exact h2,rfl,m.get q _ h2 h4,h5⟩
theorem RW.mono {g h:H} {rw q:Nat} {l:List RX} {tl:List V} (m:Mono g h) (a:RW g rw q l tl):RW h rw q l tl:=by
 refine ⟨by rw [m.nx];exact a.lw,by rw [m.nx];exact a.lq,a.ne,fun hl=>⟨m.get _ _ a.lw (a.at_ hl).hw,m.get _ _ a.lq (a.at_ hl).hq,a.ne⟩,fun hl=>m.get _ _ a.lw (a.nil hl),fun r hr=>?_⟩
 obtain ⟨p1,p2⟩:=a.ok r hr
 exact ⟨fun k hk=>⟨(p1 k hk).1.mono m,fun z hz=>by rw [m.nx];exact (p1 k hk).2 z hz⟩,p2.1.mono m,fun z hz=>by rw [m.nx];exact p2.2 z hz⟩
theorem RW.re {g:H} {rw q q':Nat} {tl:List V} (a:RW g rw q [] tl) (h1:q'<g.nx) (h2:rw≠q'):RW g rw q' [] tl :=
 ⟨a.lw,h1,h2,fun h=>zI rfl h,a.nil,fun r hr=>by cases hr⟩
theorem jmn (h:H) (own:Nat->Prop) : ∀ n,∃ g:H,g.nx=h.nx/\(∀ j,j<n -> ¬ own j->g.get j=none) /\ ∀ j,n<=j\/own j->g.get j=h.get j
 | 0=>⟨h,rfl,fun j hj=>by omega,fun _ _=>rfl⟩
 | n+1=>by
  obtain ⟨g,g1,g2,g3⟩:=jmn h own n
  by_cases e:own n
  ·refine ⟨g,g1,fun j hj ho=>?_,fun j hj=>g3 j (hj.imp (fun h=>by omega) id)⟩
   rcases zu j n with h1 | h1
   ·exact g2 j h1 ho
   ·obtain rfl:j=n:=by omega
    exact zI e ho
  ·refine ⟨g.kill n,g1,fun j hj ho=>?_,fun j hj=>?_⟩
   ·by_cases ej:j=n
    ·subst ej;rw [H.get_kill,zC rfl]
    ·rw [jan ej];exact g2 j om ho
   ·have ej:j≠n:=by
     rintro rfl
     rcases hj with h1 | h1
     ·omega
     ·exact e h1
    rw [jan ej];exact g3 j (hj.imp (fun h=>by omega) id)
structure RO (h:H) (ro dat:Nat->Prop) (rw:Nat) (l:List RX) (tl:List V):Prop where
 ex : ∃ q,(l≠[]->ro q) /\ ∀ g:H,g.nx=h.nx->(∀ j,j<h.nx->ro j\/dat j->g.get j=h.get j)->RW g rw q l tl
 lt : ∀ j,ro j\/dat j->j<h.nx
 hr:ro rw
 ap : ∀ j,ro j -> ¬ dat j
theorem RO.keep {h h':H} {ro dat:Nat->Prop} {rw:Nat} {l:List RX} {tl:List V} (a:RO h ro dat rw l tl) (hx:h.nx<=h'.nx) (hk : ∀ j,ro j\/dat j->h'.get j=h.get j):RO h' ro dat rw l tl:=by
 obtain ⟨q,hq,k⟩:=a.ex
 refine ⟨⟨q,hq,fun g g1 g2=>?_⟩,fun j hj=>zq (a.lt j hj) hx,a.hr,a.ap⟩
 have w:=k ⟨h.nx,g.t⟩ rfl fun j hj ho=>(g2 j (zq hj hx) ho).trans (hk j ho)
 exact w.old ⟨by rw [g1];exact hx,fun _ _=>rfl⟩
theorem RO.call {cl:Nat->Call} (hcl:Sem cl) {d p f:Nat} {args:List V} {h:H} {ro dat:Nat->Prop} {rw:Nat} {l:List RX} {tl:List V} {P:H->V->List RX->List V->Prop} (a:RO h ro dat rw l tl) (hp:p<h.nx) (hop:h.get p≠none) (hnp : ¬ (ro p\/dat p))
  (mono : ∀ g g' v l tl,Mono g g'->P g v l tl->P g' v l tl)
  (k : ∀ g q,(∀ j,j<h.nx->ro j\/dat j->g.get j=h.get j)->g.nx=h.nx->RW g rw q l tl->(q=p\/ro q) -> ∃ v q' l' tl' g',cl d (.fn f) args g=some (v,g')/\RW g' rw q' l' tl'/\Ch (RC rw q) g g'/\(q'=q\/g.nx<=q')/\P g' v l' tl') :
  ∃ v l' tl' h',cl d (.fn f) args h=some (v,h')/\RO h' (fun j=>ro j\/(h.nx<=j/\j<h'.nx)) dat rw l' tl'/\Ch ro h h'/\P h' v l' tl':=by
 obtain ⟨q0,hq0,k0⟩:=a.ex
 obtain ⟨g,g1,g2,g3⟩:=jmn h (fun j=>ro j\/dat j) h.nx
 have w0:=k0 g g1 fun j _ ho=>g3 j (.inr ho)
 obtain ⟨q,w,hq⟩ : ∃ q,RW g rw q l tl/\(q=p\/ro q):=by
  by_cases hl:l=[]
  ·subst hl
   exact ⟨p,w0.re (by rw [g1];exact hp) (fun e=>hnp (.inl (by rw [<- e];exact a.hr))),.inl rfl⟩
  ·exact ⟨q0,w0,.inr (hq0 hl)⟩
 obtain ⟨v,q',l',tl',g',e1,e2,e3,e5,e4⟩:=k g q (fun j _ ho=>g3 j (.inr ho)) g1 w hq
 have X:Ext (fun j=>if j<h.nx/\g.get j=none then h.get j else none) g h:=by
  refine ⟨g1.symm,fun j=>?_,fun j hj=>?_⟩
  ·by_cases hj:j<h.nx
   ·by_cases ho:ro j\/dat j
    ·rw [g3 j (.inr ho)]
     cases hh:h.get j<;>simp [hh]
    ·rw [g2 j hj ho];simp [hj]
   ·rw [g3 j (.inl om)]
    cases hh:h.get j<;>simp [hj]
  ·by_cases hc:j<h.nx/\g.get j=none
   ·exact ⟨by rw [g1];exact hc.1,hc.2⟩
   ·simp [hc] at hj
 have hF:=(jd2 primsF fuel d)
 rw [hcl d] at e1 ⊢
 obtain ⟨h',q1,q2⟩:=hF.1 _ _ _ _ _ e1 _ _ X
 have hx:h.nx<=h'.nx:=by rw [q2.nx,<- g1];exact e3.nx
 have m:Mono g' h':=⟨q2.nx,fun j o _ hj=>q2.has hj⟩
 have off : ∀ j,j<h.nx -> ¬ (ro j\/dat j)->g'.get j=none:=by
  intro j hj ho
  by_cases hz:h.get j=none
  ·rw [e3.get j (by rw [g1];exact hj) (by
    rintro (rfl | rfl)
    ·rcases hq with rfl | hq
     ·exact hop hz
     ·exact ho (.inl hq)
    ·exact ho (.inl a.hr)),g2 j hj ho]
  ·exact (q2.off j (by simp [hj,g2 j hj ho,hz])).2
 have same : ∀ j,(ro j\/dat j)->h'.get j=g'.get j:=by
  intro j ho
  rw [q2.get j]
  by_cases hz:g.get j=none
  ·have:h.get j=none:=by rw [<- g3 j (.inr ho),hz]
   simp [this]
  ·simp [hz]
 refine ⟨v,l',tl',h',q1,⟨⟨q',fun hl=>?_,fun g4 n4 k4=>?_⟩,fun j hj=>?_,.inl a.hr,fun j hj hd=>?_⟩,⟨hx,fun j hj ho=>?_⟩,mono _ _ _ _ _ m e4⟩
 ·have hz:=(e2.at_ hl).hq
  rcases zu q' h.nx with h1 | h1
  ·rcases e5 with rfl | h2
   ·rcases hq with rfl | hq
    ·rw [off q' h1 hnp] at hz;cases hz
    ·exact .inl hq
   ·omega
  ·exact .inr ⟨h1,by rw [q2.nx];exact e2.lq⟩
 ·refine e2.mono ⟨by rw [n4,q2.nx],fun j o hj hg=>?_⟩
  by_cases ho:ro j\/dat j
  ·rw [k4 j (by rw [q2.nx];exact hj) (ho.imp .inl id),same j ho,hg]
  ·rcases zu j h.nx with h1 | h1
   ·rw [off j h1 ho] at hg;cases hg
   ·rw [k4 j (by rw [q2.nx];exact hj) (.inl (.inr ⟨h1,by rw [q2.nx];exact hj⟩)),q2.has hg]
 ·rcases hj with (hj | hj) | hj
  ·exact zq (a.lt j (.inl hj)) hx
  ·exact hj.2
  ·exact zq (a.lt j (.inr hj)) hx
 ·rcases hj with hj | hj
  ·exact a.ap j hj hd
  ·have:=a.lt j (.inr hd)
   omega
 ·by_cases hd:dat j
  ·have hne : ¬ RC rw q j:=by
    rintro (rfl | rfl)
    ·rcases hq with rfl | hq
     ·exact hnp (.inr hd)
     ·exact a.ap _ hq hd
    ·exact a.ap _ a.hr hd
   rw [same j (.inr hd),e3.get j (by rw [g1];exact hj) hne,g3 j (.inr (.inr hd))]
  ·have h2:=off j hj (fun h=>h.elim ho hd)
   rw [q2.get j,h2]
   have h3:=g2 j hj (fun h=>h.elim ho hd)
   simp [hj,h3]
structure St where
 ws:Ws
 now:Int
 tb:Tb
 no:Option (Nat × Nat)
abbrev St.tl (r:St):List V:=tail r.now r.tb.hd r.tb.pd (noI r.no) (siI r.no)
section
variable {h h':H} {w s:Nat} {ow:Nat->Nat} {ws:Ws} {now:Int} {tb:Tb} {no:Option (Nat × Nat)}
theorem WSt.keep (a:WSt h w s ow ws now tb no) (hx:h.nx<=h'.nx) (hk : ∀ j,ow j≠0->h'.get j=h.get j):WSt h' w s ow ws now tb no:=by
 obtain ⟨l,a,e⟩:=a
 exact ⟨l,⟨a.wf.keep hx hk,a.fds⟩,e⟩
theorem WSt.top (a:WSt h w s ow ws now tb no) {j:Nat} (hj:h.nx<=j):ow j=0:=by
 obtain ⟨l,a,e⟩:=a
 exact a.wf.top j hj
theorem WSt.lt_of (a:WSt h w s ow ws now tb no) {j:Nat} (hj:ow j≠0):j<h.nx:=by
 obtain ⟨l,a,e⟩:=a
 exact a.wf.lt_of hj
theorem WSt.lw (a:WSt h w s ow ws now tb no):w<h.nx:=by
 obtain ⟨l,a,e⟩:=a
 exact a.wf.lw
end
structure BB (h:H) (p w s rw:Nat) (ow:Nat->Nat) (ro dat:Nat->Prop) (a r:St):Prop where
 W:WSt h w s ow a.ws a.now a.tb a.no
 R : ∃ l,RO h ro dat rw l r.tl/\l.map RX.x=r.ws
 hp:h.get p=some (.cells [.p w 0,.p rw 0] false)
 lp:p<h.nx
 sep : ∀ j,ro j\/dat j->ow j=0
 op:ow p=0
 rp : ¬ (ro p\/dat p)
structure Fm (h h':H) (ow:Nat->Nat) (ro:Nat->Prop) (ow':Nat->Nat) (ro':Nat->Prop):Prop where
 ch:Ch (fun j=>ow j≠0\/ro j) h h'
 tag : ∀ j,j<h.nx->ow' j=ow j
 rtag : ∀ j,j<h.nx->(ro' j↔ro j)
theorem Fm.refl {h:H} {ow:Nat->Nat} {ro:Nat->Prop} : Fm h h ow ro ow ro:=⟨Ch.refl _ _,fun _ _=>rfl,fun _ _=>Iff.rfl⟩
theorem Fm.trans {h h1 h2:H} {a b c:Nat->Nat} {x y z:Nat->Prop} (f:Fm h h1 a x b y) (g:Fm h1 h2 b y c z):Fm h h2 a x c z :=
 ⟨f.ch.trans_new g.ch fun j hj hb=>by rw [f.tag j hj,f.rtag j hj] at hb;exact hb,
  fun j hj=>by rw [g.tag j (zq hj f.ch.nx),f.tag j hj],fun j hj=>(g.rtag j (zq hj f.ch.nx)).trans (f.rtag j hj)⟩
theorem Fm.old {h h1:H} {ow:Nat->Nat} {ro:Nat->Prop} (o:Old h h1):Fm h h1 ow ro ow ro:=⟨o.ch,fun _ _=>rfl,fun _ _=>Iff.rfl⟩
theorem Fm.to {h h1:H} {ow ow':Nat->Nat} {ro:Nat->Prop} (t:To h h1 ow ow'):Fm h h1 ow ro ow' ro:=⟨t.ch.weaken fun _ _ hb=>.inl hb,t.tag,fun _ _=>Iff.rfl⟩
section
variable {h h':H} {p w s rw:Nat} {ow ow':Nat->Nat} {ro dat:Nat->Prop} {a a' r r':St}
theorem BB.old (b:BB h p w s rw ow ro dat a r) (o:Old h h'):BB h' p w s rw ow ro dat a r:=by
 obtain ⟨l,R,e⟩:=b.R
 exact ⟨b.W.old o,⟨l,R.keep o.1 fun j hj=>o.2 j (R.lt j hj),e⟩,by rw [o.2 _ b.lp,b.hp],zq b.lp o.1,b.sep,b.op,b.rp⟩
theorem BB.off (b:BB h p w s rw ow ro dat a r) (hx:h.nx<=h'.nx) (hk : ∀ j,j<h.nx->ow j≠0\/ro j\/dat j\/j=p->h'.get j=h.get j):BB h' p w s rw ow ro dat a r:=by
 obtain ⟨l,R,e⟩:=b.R
 exact ⟨b.W.keep hx fun j hj=>hk j (b.W.lt_of hj) (.inl hj),⟨l,R.keep hx fun j hj=>hk j (R.lt j hj) (.inr (hj.imp id .inl)),e⟩,by rw [hk _ b.lp (.inr (.inr (.inr rfl))),b.hp],zq b.lp hx,b.sep,b.op,b.rp⟩
theorem BB.wc (b:BB h p w s rw ow ro dat a r) (W:WSt h' w s ow' a'.ws a'.now a'.tb a'.no) (t:To h h' ow ow'):BB h' p w s rw ow' ro dat a' r:=by
 obtain ⟨l,R,e⟩:=b.R
 refine ⟨W,⟨l,R.keep t.ch.nx fun j hj=>t.ch.get j (R.lt j hj) fun hne=>hne (b.sep j hj),e⟩,by rw [t.ch.get p b.lp fun hne=>hne b.op,b.hp],zq b.lp t.ch.nx,fun j hj=>by rw [t.tag j (R.lt j hj)];exact b.sep j hj,by rw [t.tag p b.lp];exact b.op,b.rp⟩
theorem BB.ro_lt (b:BB h p w s rw ow ro dat a r) {j:Nat} (hj:ro j\/dat j):j<h.nx:=by
 obtain ⟨l,R,e⟩:=b.R
 exact R.lt j hj
theorem BB.ap (b:BB h p w s rw ow ro dat a r) {j:Nat} (hj:dat j) : ¬ ro j:=by
 obtain ⟨l,R,e⟩:=b.R
 exact fun h=>R.ap j h hj
end
theorem handle_pd (t:Tb) (s:Int) (on:Bool):(t.handle s on).pd=jjd t.pd s on:=by
 unfold Tb.handle jjd
 by_cases h:sig? s
 ·rw [zC h]
  cases on
  ·rw [zC (show jil s/\false=false from ⟨h,rfl⟩)];rfl
  ·rw [zz (show ¬ (jil s/\true=false) from fun e=>by cases e.2)];rfl
 ·rw [zz h,zz (show ¬ (jil s/\on=false) from fun e=>h e.1)]
theorem raise_pd (t:Tb) (s:Int):(t.raise s).pd=jlk t.hd t.pd s:=by
 unfold Tb.raise jlk
 by_cases h:sig? s/\t.hd s.toNat=true
 ·rw [zC h,zC (show jil s/\t.hd s.toNat=true from h)]
  funext j
  unfold put1
  by_cases e:j=s.toNat
  ·subst e;simp
  ·simp [e]
 ·rw [zz h,zz (show ¬ (jil s/\t.hd s.toNat=true) from h)]
theorem take_pd (t:Tb):t.take.pd=ctZ t.pd 31:=by
 funext j
 unfold Tb.take ctZ
 by_cases h:1<=j/\j<=31
 ·rw [zC h];show (if 1<=j/\j<32 then 0 else t.pd j)=0;rw [zC om]
 ·rw [zz h];show (if 1<=j/\j<32 then 0 else t.pd j)=_;rw [zz om]
theorem handle_ok {t:Tb} {n:Int} (a:t.ok n) (h0:0<=n) (s:Int) (on:Bool):(t.handle s on).ok n:=by
 intro k
 rw [handle_pd]
 unfold jjd put1
 split
 ·show 0<=(if k=s.toNat then (0:Int) else t.pd k)/\(if k=s.toNat then (0:Int) else t.pd k)<=n
  split
  ·omega
  ·exact a k
 ·exact a k
theorem jj7 {t:Tb} {n:Int} (a:t.ok n) (s:Int):(t.raise s).ok (n+1):=by
 intro k
 have:=a k
 rw [raise_pd]
 unfold jlk put1
 split
 ·show 0<=(if k=s.toNat then t.pd s.toNat+1 else t.pd k)/\(if k=s.toNat then t.pd s.toNat+1 else t.pd k)<=n+1
  split
  ·next e=>subst e;omega
  ·omega
 ·omega
theorem take_ok {t:Tb} {n:Int} (a:t.ok n) (h0:0<=n):t.take.ok n:=by
 intro k
 rw [take_pd]
 unfold ctZ
 split
 ·omega
 ·exact a k
theorem Tb.ok.mono {t:Tb} {m n:Int} (a:t.ok m) (h:m<=n):t.ok n:=fun k=>⟨(a k).1,by have:=(a k).2;omega⟩
structure StOk (st:St) (i:Nat):Prop where
 K:WsK st.ws
 nt:NtOk st.ws (noI st.no) (siI st.no)
 now:0<=st.now/\st.now<=18446744073709551615
 tb:st.tb.ok i
noncomputable def doS (k a n t:Int) (D:List UInt8) (st:St):St :=
 if k=0\/k=1\/k=2\/k=3 then { st with ws:=(jaZ st.ws k n).2 }
 else if k=4 then { st with ws:=(jfM st.ws a).2 }
 else if k=5 then { st with ws:=(jlj st.ws a n).2 }
 else if k=6 then { st with ws:=(jhr st.ws a D).2 }
 else if k=7 then { st with ws:=(jkV st.ws a).2 }
 else if k=8 then { st with ws:=(ji0 st.ws a).2 }
 else if k=9 then { st with ws:=(putS st.ws a D).2 }
 else if k=10 then { st with ws:=(jdv st.ws a n).2 }
 else if k=11 then { st with ws:=(jbd st.ws a).2 }
 else if k=12 then { st with ws:=(jaM st.ws a).2 }
 else if k=13 then { st with ws:=(jcU st.ws a).2 }
 else if k=14 then { st with ws:=(jas st.ws a n).2 }
 else if k=15 then { st with now:=jaN st.now t }
 else if k=16 then { st with ws:=jaB st.ws ((st.tb.handle a (decide (0<n))).sum 32) (noI st.no) (siI st.no),tb:=st.tb.handle a (decide (0<n)) }
 else if k=17 then { st with ws:=jaB st.ws ((st.tb.raise a).sum 32) (noI st.no) (siI st.no),tb:=st.tb.raise a }
 else if k=18 then { st with ws:=jaB st.ws (st.tb.take.sum 32) (noI st.no) (siI st.no),tb:=st.tb.take }
 else if k=19 then { st with ws:=ntW st.ws (st.tb.sum 32) a n,no:=noT st.ws a n st.no }
 else st
theorem StOk.ws {st:St} {i:Nat} {ws:Ws} (o:StOk st i) (K:WsK ws) (r:WsR st.ws ws):StOk { st with ws:=ws } (i+1) :=
 ⟨K,o.nt.keep r,o.now,o.tb.mono om⟩
theorem StOk.more {st:St} {i:Nat} (o:StOk st i):StOk st (i+1):=⟨o.K,o.nt,o.now,o.tb.mono om⟩
theorem jaR {P:St->Prop} {c:Prop} [Decidable c] {a b:St} (h1:c->P a) (h2:P b):P (if c then a else b):=by
 by_cases h:c
 ·rw [zC h];exact h1 h
 ·rw [zz h];exact h2
theorem doS_ok {k a n t:Int} {D:List UInt8} {st:St} {i:Nat} (o:StOk st i) (t0:0<=t) (t1:t<=18446744073709551615):StOk (doS k a n t D st) (i+1):=by
 have K:=o.K
 unfold doS
 refine jaR (P:=fun s=>StOk s (i+1)) (fun h=>o.ws (jgV h K) jlv) ?_
 refine jaR (P:=fun s=>StOk s (i+1)) (fun _=>o.ws (jkF K) acceptS_r) ?_
 refine jaR (P:=fun s=>StOk s (i+1)) (fun _=>o.ws (readS_ok K) readS_r) ?_
 refine jaR (P:=fun s=>StOk s (i+1)) (fun _=>o.ws (writeS_ok K) writeS_r) ?_
 refine jaR (P:=fun s=>StOk s (i+1)) (fun _=>o.ws (shutS_ok K) shutS_r) ?_
 refine jaR (P:=fun s=>StOk s (i+1)) (fun _=>o.ws (closeS_ok K) closeS_r) ?_
 refine jaR (P:=fun s=>StOk s (i+1)) (fun _=>o.ws (putS_ok K) putS_r) ?_
 refine jaR (P:=fun s=>StOk s (i+1)) (fun _=>o.ws (takeS_ok K) takeS_r) ?_
 refine jaR (P:=fun s=>StOk s (i+1)) (fun _=>o.ws (jhJ K) jiU) ?_
 refine jaR (P:=fun s=>StOk s (i+1)) (fun _=>o.ws (jgJ K) jhK) ?_
 refine jaR (P:=fun s=>StOk s (i+1)) (fun _=>o.ws (resetS_ok K) resetS_r) ?_
 refine jaR (P:=fun s=>StOk s (i+1)) (fun _=>o.ws (jfC K) jk8) ?_
 refine jaR (P:=fun s=>StOk s (i+1)) (fun _=>⟨K,o.nt,?_,o.tb.mono om⟩) ?_
 ·have:=o.now
  show 0<=jaN st.now t/\jaN st.now t<=_
  unfold jaN
  split<;>omega
 refine jaR (P:=fun s=>StOk s (i+1)) (fun _=>⟨jcC K o.nt,o.nt.keep (jdf o.nt),o.now,(handle_ok o.tb om _ _).mono om⟩) ?_
 refine jaR (P:=fun s=>StOk s (i+1)) (fun _=>⟨jcC K o.nt,o.nt.keep (jdf o.nt),o.now,(jj7 o.tb _).mono om⟩) ?_
 refine jaR (P:=fun s=>StOk s (i+1)) (fun _=>⟨jcC K o.nt,o.nt.keep (jdf o.nt),o.now,(take_ok o.tb om).mono om⟩) ?_
 refine jaR (P:=fun s=>StOk s (i+1)) (fun _=>⟨?_,?_,o.now,o.tb.mono om⟩) o.more
 ·obtain ⟨no,si,h1,h2⟩:=jmi (ws:=st.ws) (sum:=st.tb.sum 32) (a:=a) (b:=n)
  show WsK (ntW _ _ _ _)
  rw [h2];exact jcC K h1
 ·show NtOk (ntW _ _ _ _) (noI (noT _ _ _ _)) (siI (noT _ _ _ _))
  rw [noT_no,noT_si]
  obtain ⟨no,si,h1,h2⟩:=jmi (ws:=st.ws) (sum:=st.tb.sum 32) (a:=a) (b:=n)
  rw [h2]
  exact (jmj o.nt).keep (jdf h1)
structure Mv where
 op:Int
 wire:Int
 n:Int
 D:List UInt8
def Mv.may (m:Mv):Prop :=
 1<=m.op/\m.op<=7/\0<=m.wire/\0<=m.n/\m.D.length<=1000/\(m.op=7->m.wire=0)/\(m.op=2\/m.op=6\/m.op=7\/m.n=0)/\(m.op=1↔0<m.D.length)
instance (m:Mv):Decidable m.may:=by unfold Mv.may;infer_instance
noncomputable def Mv.ans (m:Mv) (st:St):Int × Int :=
 if m.op=1 then (putS st.ws m.wire m.D).1
 else if m.op=2 then ((jdv st.ws m.wire m.n).1.1.length,(jdv st.ws m.wire m.n).1.2)
 else if m.op=3 then (0,(jbd st.ws m.wire).1)
 else if m.op=4 then (0,(jaM st.ws m.wire).1)
 else if m.op=5 then (0,(jcU st.ws m.wire).1)
 else if m.op=6 then (jas st.ws m.wire m.n).1
 else (0,if sig? m.n then 0 else 100)
noncomputable def Mv.go (m:Mv) (st:St):St:=doS (if m.op=7 then 17 else m.op+8) (if m.op=7 then m.n else m.wire) m.n 0 m.D st
noncomputable def mvS (m:Mv) (st:St):(Int × Int) × St:=if m.may then (m.ans st,m.go st) else ((0,120),st)
theorem mvS_ok {m:Mv} {st:St} {i:Nat} (o:StOk st i):StOk (mvS m st).2 (i+1):=by
 unfold mvS
 split
 ·exact doS_ok o om om
 ·exact o.more
theorem Mv.go_1 {m:Mv} {st:St} (h:m.op=1):m.go st = { st with ws:=(putS st.ws m.wire m.D).2 } := by simp [Mv.go,doS,h]
theorem Mv.go_2 {m:Mv} {st:St} (h:m.op=2):m.go st = { st with ws:=(jdv st.ws m.wire m.n).2 } := by simp [Mv.go,doS,h]
theorem Mv.go_3 {m:Mv} {st:St} (h:m.op=3):m.go st = { st with ws:=(jbd st.ws m.wire).2 } := by simp [Mv.go,doS,h]
theorem Mv.go_4 {m:Mv} {st:St} (h:m.op=4):m.go st = { st with ws:=(jaM st.ws m.wire).2 } := by simp [Mv.go,doS,h]
theorem Mv.go_5 {m:Mv} {st:St} (h:m.op=5):m.go st = { st with ws:=(jcU st.ws m.wire).2 } := by simp [Mv.go,doS,h]
theorem Mv.go_6 {m:Mv} {st:St} (h:m.op=6):m.go st = { st with ws:=(jas st.ws m.wire m.n).2 } := by simp [Mv.go,doS,h]
theorem Mv.go_7 {m:Mv} {st:St} (h:m.op=7):m.go st = { st with ws:=jaB st.ws ((st.tb.raise m.n).sum 32) (noI st.no) (siI st.no),tb:=st.tb.raise m.n } := by simp [Mv.go,doS,h]
structure Sp where
 ticks:Int
 intr:Bool
 order:List Int
 moves:List Mv
noncomputable def mvsS:List Mv->St->St
 | [],st=>st
 | m :: l,st=>mvsS l (mvS m st).2
noncomputable def jdt:List Sp->List Int->St->Bool × List Sp × List Int × St
 | [],o,st=>(false,[],o,st)
 | x :: l,o,st=>if x.ticks=0 then (if x.intr then (true,l,x.order,mvsS x.moves st) else jdt l x.order (mvsS x.moves st)) else (false,x :: l,o,st)
noncomputable def napS (rd:St->Bool) (forever:Bool):List Sp->Int->List Int->St->Int × List Sp × List Int × St
 | [],w,o,st=>
  if rd st then (1,[],o,st) else if forever=false/\w=0 then (2,[],o,st)
  else if forever then (4,[],o,st) else (2,[],o,{ st with now:=jaN st.now w })
 | x :: l,w,o,st=>
  if rd st then (1,x :: l,o,st) else if forever=false/\w=0 then (2,x :: l,o,st)
  else if forever=false/\w<x.ticks then (2,{ x with ticks:=x.ticks-w } :: l,o,{ st with now:=jaN st.now w })
  else if x.intr then (3,l,x.order,mvsS x.moves { st with now:=jaN st.now x.ticks })
  else napS rd forever l (w-min w x.ticks) x.order (mvsS x.moves { st with now:=jaN st.now x.ticks })
noncomputable def ja6 (rd:St->Bool) (forever:Bool) (l:List Sp) (w:Int) (o:List Int) (st:St):Int × List Sp × List Int × St :=
 match jdt l o st with
 | (true,l',o',st')=>(3,l',o',st')
 | (false,l',o',st')=>napS rd forever l' w o' st'
def jbJ (op:Int):List UInt8:=if op=1 then [119,100] else if op=2\/op=6 then [119,110] else if op=3\/op=4\/op=5 then [119] else if op=7 then [110] else []
theorem parts_len (op:Int):(jbJ op).length<=2:=by unfold jbJ;(repeat' split)<;>simp
theorem parts_w (op:Int):decide (0<=idxB 119 (jbJ op) 0)=decide (1<=op/\op<=6):=by
 unfold jbJ
 (repeat' split)<;>(refine decide_eq_decide.2 ⟨fun _=>?_,fun _=>?_⟩)<;>first | omega | decide | (exfalso;omega) | (rename_i h;exact zI h (by decide))
theorem parts_n (op:Int):decide (0<=idxB 110 (jbJ op) 0)=decide (op=2\/op=6\/op=7):=by
 unfold jbJ
 (repeat' split)<;>(refine decide_eq_decide.2 ⟨fun _=>?_,fun _=>?_⟩)<;>first | omega | decide | (exfalso;omega) | (rename_i h;exact zI h (by decide))
theorem parts_d (op:Int):decide (0<=idxB 100 (jbJ op) 0)=decide (op=1):=by
 unfold jbJ
 (repeat' split)<;>(refine decide_eq_decide.2 ⟨fun _=>?_,fun _=>?_⟩)<;>first | omega | decide | (exfalso;omega) | (rename_i h;exact zI h (by decide))
section
variable {cl:Nat->Call} (hcl:Sem cl)
include hcl
theorem jiJ {d:Nat} {h:H} {s:List UInt8} {c:UInt8} (hd:5<=d):cl d (.fn 91) [.str s,.str [c]] h=some (.bool (decide (0<=idxB c s 0)),h):=by
 have e0:cl (d-4) (.fn 122) [.str s,.int .u8 (c.toNat:Int)] h=some (.i (idxB c s 0),h):=by
  rw [jlT hcl om (p:=jb0) rfl]
  show some (V.i (idxB ((c.toNat:Int).toNat.toUInt8) s 0),h)=_
  rw [show ((c.toNat:Int).toNat.toUInt8)=c by simp]
 have e1:cl (d-3) (.fn 117) [.str s,.int .u8 (c.toNat:Int)] h=some (.i (idxB c s 0),h):=by
  refine jao (aT hcl ?_)
  refine qx ?_
  exact ⟨rfl,rfl⟩
 have e2:cl (d-2) (.fn 115) [.str s,.str [c]] h=some (.i (idxB c s 0),h):=by
  refine jao (aT hcl ?_)
  have n0 : ¬ (([c].length:Nat):Int)=0:=by simp
  have n1:(([c].length:Nat):Int)=1:=by simp
  clear e0
  repeat' (first|refine qxy ?_|(refine zsp ?_ ?_<;>intro _)|fail)
  ·next hs=>
   obtain rfl:[c]=s:=by simpa using hs
   exact ⟨by simp [idxB],rfl⟩
  ·exact ⟨rfl,rfl⟩
 have e3:cl (d-1) (.fn 109) [.str s,.str [c]] h=some (.i (idxB c s 0),h):=by
  refine jao (aT hcl ?_)
  clear e0 e1
  refine qx ?_
  exact ⟨rfl,rfl⟩
 refine jao (aT hcl ?_)
 clear e0 e1 e2
 refine qx ?_
 exact ⟨rfl,rfl⟩
theorem jju {d:Nat} {h:H} {op:Int} (hd:1<=d):cl d (.fn 58) [.i op] h=some (.str (jbJ op),h):=by
 refine jao (aT hcl ?_)
 unfold jbJ
 by_cases h1:op=1
 ·rw [zC h1]
  refine qx ?_
  exact ⟨rfl,rfl⟩
 rw [zz h1]
 by_cases h2:op=2
 ·rw [zC (.inl h2)]
  refine qx ?_
  exact ⟨rfl,rfl⟩
 by_cases h6:op=6
 ·rw [zC (.inr h6)]
  refine qx ?_
  exact ⟨rfl,rfl⟩
 rw [zz om]
 by_cases h3:op=3
 ·rw [zC (.inl h3)]
  refine qx ?_
  exact ⟨rfl,rfl⟩
 by_cases h4:op=4
 ·rw [zC (.inr (.inl h4))]
  refine qx ?_
  exact ⟨rfl,rfl⟩
 by_cases h5:op=5
 ·rw [zC (.inr (.inr h5))]
  refine qx ?_
  exact ⟨rfl,rfl⟩
 rw [zz om]
 by_cases h7:op=7
 ·rw [zC h7]
  refine qx ?_
  exact ⟨rfl,rfl⟩
 rw [zz h7]
 refine qx ?_
 exact ⟨rfl,rfl⟩
theorem jkK {d b:Nat} {h:H} {op:Int} {c:UInt8} {l:List V} {ro:Bool} (hd:6<=d) (hb:h.get b=some (.cells (.i op :: l) ro)):cl d (.fn 90) [.str [c],.p b 0] h=some (.bool (decide (0<=idxB c (jbJ op) 0)),h):=by
 have e1:=jju hcl (d:=d-1) (h:=h) (op:=op) om
 have e2:=jiJ hcl (d:=d-1) (h:=h) (s:=jbJ op) (c:=c) om
 refine jao (aT hcl ?_)
 refine qx ?_
 exact ⟨rfl,rfl⟩
theorem rm_wire {d:Nat} {h:H} {op:Int} (hd:1<=d):cl d (.fn 55) [.i op] h=some (.bool (decide (1<=op/\op<=6)),h):=by
 refine jao (aT hcl ?_)
 by_cases h1:1<=op
 ·refine qx ?_
  exact ⟨by simp [h1],rfl⟩
 ·refine qx ?_
  exact ⟨by simp [h1],rfl⟩
theorem rm_number {d:Nat} {h:H} {op:Int} (hd:1<=d):cl d (.fn 56) [.i op] h=some (.bool (decide (op=2\/op=6\/op=7)),h):=by
 refine jao (aT hcl ?_)
 by_cases h1:op=2
 ·refine qx ?_
  exact ⟨by simp [h1],rfl⟩
 by_cases h2:op=6
 ·refine qx ?_
  exact ⟨by simp [h2],rfl⟩
 ·refine qx ?_
  exact ⟨by simp [h1,h2],rfl⟩
end
theorem jlt {m:Mv} (h:m.op<1\/m.op>7\/m.wire<0\/m.n<0\/m.D.length>1000\/(m.op=7/\m.wire≠0)\/(m.op≠2/\m.op≠6/\m.op≠7/\m.n≠0)):decide m.may=false:=by
 refine zD fun c=>?_
 obtain ⟨c1,c2,c3,c4,c5,c6,c7,_⟩:=c
 omega
theorem jm6 {m:Mv} (h1 : ¬ m.op<1) (h2 : ¬ m.op>7) (h3 : ¬ m.wire<0) (h4 : ¬ m.n<0) (h6:m.op≠7\/m.wire=0) (h7:m.op=2\/m.op=6\/m.op=7\/m.n=0) :
  decide m.may=decide (m.D.length<=1000/\(m.op=1↔0<m.D.length)) :=
 decide_eq_decide.2 ⟨fun c=>⟨c.2.2.2.2.1,c.2.2.2.2.2.2.2⟩,fun c=>⟨by omega,by omega,by omega,by omega,c.1,by omega,by omega,c.2⟩⟩
abbrev mvV (m:Mv) (dv:V):List V:=[.i m.op,.i m.wire,.i m.n,dv]
theorem Ops.callc_chk {call:Call} {fuel base:Nat} {K:List Fr} {e:Env} {h h':H} {Q:Post} {ix:Nat} {dst at_:Option Nat} {ops:List Ins} {keep:List Nat} {chk:List (Nat × I × Option (Nat × Bool))} {f:FuncId} {x:Opd} {args:List Opd} {cap vs:List V} {v:V} (hx:x.ev e=some (.clo f cap)) (ha:evs e args=some vs) (hc:call (.fn f) (vs++cap) h=some (v,h')) (hk:ja0 e h' chk=true) (k:Ops call fuel base ops keep K (layv e dst v) h' Q) :
  Ops call fuel base (⟨ix,dst,.callv x args,none,at_,chk⟩ :: ops) keep K e h Q :=
 Ops.step_chk (I.run_eff rfl (by simp only [I.eff,hx,ha,hc])) hk k
section
variable {cl:Nat->Call} (hcl:Sem cl) {h:H} {m:Mv} {a:Option (Nat × Nat)} {c:Cap}
include hcl
theorem jlX {d:Nat} (hd:7<=d) : ∃ h',cl d (.fn 65) [.agg (mvV m (.slice a m.D.length c))] h=some (.bool (decide m.may),h')/\Old h h':=by
 have o:Old h (h.new (.cells (mvV m (.slice a m.D.length c)) false)):=(Zn h).new
 have g0:(h.new (.cells (mvV m (.slice a m.D.length c)) false)).get h.nx=some (.cells (mvV m (.slice a m.D.length c)) false):=jac _
 have en:=jju hcl (d:=d-1) (op:=m.op) (h:=h.new (.cells (mvV m (.slice a m.D.length c)) false)) om
 have ew:=jkK hcl (d:=d-1) (c:=119) om g0
 have eN:=jkK hcl (d:=d-1) (c:=110) om g0
 have ed:=jkK hcl (d:=d-1) (c:=100) om g0
 rw [parts_w] at ew
 rw [parts_n] at eN
 rw [parts_d] at ed
 refine jak (aT hcl ?_)
 obtain ⟨C,hC⟩ : ∃ C,C=c65_4:=⟨_,rfl⟩
 simp only [c65,<- hC,yN]
 by_cases c0:m.op<1\/m.op>7
 ·have ep:jbJ m.op=[]:=by
   unfold jbJ
   rw [zz om,zz om,zz om,zz om]
  rw [ep] at en
  refine qm ?_
  exact ⟨by rw [jlt om],o⟩
 obtain ⟨x,t,ep⟩ : ∃ x t,jbJ m.op=x :: t:=by
  unfold jbJ
  by_cases h1:m.op=1
  ·rw [zC h1];exact ⟨_,_,rfl⟩
  rw [zz h1]
  by_cases h2:m.op=2\/m.op=6
  ·rw [zC h2];exact ⟨_,_,rfl⟩
  rw [zz h2]
  by_cases h3:m.op=3\/m.op=4\/m.op=5
  ·rw [zC h3];exact ⟨_,_,rfl⟩
  rw [zz h3,zC om];exact ⟨_,_,rfl⟩
 rw [ep] at en
 have c1 : ¬ m.op<1:=by omega
 have c2 : ¬ m.op>7:=by omega
 by_cases c3:m.wire<0
 ·refine qm ?_
  exact ⟨by rw [jlt om],o⟩
 by_cases c4:m.n<0
 ·refine qm ?_
  exact ⟨by rw [jlt om],o⟩
 have fin : ∀ p:Prop,[Decidable p]->(p↔(m.op=1↔0<m.D.length)/\m.D.length<=1000)->(m.op≠7\/m.wire=0)->(m.op=2\/m.op=6\/m.op=7\/m.n=0)->V.bool (decide p)=V.bool (decide m.may):=fun p _ hp h6 h7=>by
  rw [jm6 c1 c2 c3 c4 h6 h7]
  exact congrArg V.bool (decide_eq_decide.2 ⟨fun x=>(hp.1 x).symm,fun x=>hp.2 x.symm⟩)
 have e1:(decide (m.op=1)=decide ((m.D.length:Int)>0))↔(m.op=1↔0<m.D.length):=by rw [decide_eq_decide];omega
 have tail : ∀ sb,(m.op≠7\/m.wire=0)->(m.op=2\/m.op=6\/m.op=7\/m.n=0)->Run (cl (d-1)) fuel C [] ((1,.p h.nx 0) :: (3,.clo 90 [.p h.nx 0]) :: sb) (h.new (.cells (mvV m (.slice a m.D.length c)) false)) (Fin c65.res fun v h'=>v = .bool (decide m.may)/\Old h h'):=fun sb h6 h7=>by
  rw [hC]
  clear ew eN en c0
  generalize hE:(decide (m.op=1):Bool)=b1 at ed e1
  have hfin:=fun p [Decidable p] hp=>fin p hp h6 h7
  have hmt:=jm6 c1 c2 c3 c4 h6 h7
  clear fin h6 h7
  refine qm ?_
  refine Ops.callc_chk rfl rfl ed (jaK rfl g0 rfl rfl jba) ?_
  by_cases e2:b1=decide ((m.D.length:Int)>0)
  ·refine qm ?_
   exact ⟨hfin _ ⟨fun x=>⟨e1.1 e2,by omega⟩,fun x=>by have:=x.2;omega⟩,o⟩
  ·refine qm ?_
   exact ⟨by rw [hmt];exact congrArg V.bool (zD fun x=>e2 (e1.2 x.2)).symm,o⟩
 clear c0 fin e1
 by_cases c7:m.op=7
 ·rw [zD om] at ew
  rw [zF om] at eN
  by_cases c6:m.wire=0
  ·have tl:=fun sb=>tail sb om om
   clear tail
   refine qm ?_
   refine Ops.callc rfl rfl ew ?_
   refine qm ?_
   refine Ops.callc rfl rfl eN ?_
   refine qm ?_
   exact tl _
  ·clear tail
   refine qm ?_
   refine Ops.callc rfl rfl ew ?_
   refine qm ?_
   exact ⟨by rw [jlt om],o⟩
 ·rw [zF om] at ew
  by_cases c8:m.op=2\/m.op=6\/m.op=7
  ·rw [zF c8] at eN
   have tl:=fun sb=>tail sb om om
   clear c8 tail
   refine qm ?_
   refine Ops.callc rfl rfl ew ?_
   refine qm ?_
   refine Ops.callc rfl rfl eN ?_
   refine qm ?_
   exact tl _
  rw [zD c8] at eN
  by_cases c9:m.n=0
  ·have tl:=fun sb=>tail sb om om
   clear c8 tail
   refine qm ?_
   refine Ops.callc rfl rfl ew ?_
   refine qm ?_
   refine Ops.callc rfl rfl eN ?_
   refine qm ?_
   exact tl _
  ·have hf:=jlt (m:=m) om
   clear c8 tail
   refine qm ?_
   refine Ops.callc rfl rfl ew ?_
   refine qm ?_
   refine Ops.callc rfl rfl eN ?_
   refine qm ?_
   exact ⟨by rw [hf],o⟩
end
theorem je7 (b:UInt8):je8 (jbN b)=some b:=by
 have h:b.toNat<256:=b.toNat_lt
 have h2:below (b.toNat:Int) 256=true:=by
  rcases zu b.toNat 256 with _ | _
  ·simp [below];omega
  ·omega
 simp only [jbN,je8,h2,cond_true,zt]
 congr 1
 exact UInt8.ofNat_toNat
theorem jfH : ∀ l:List UInt8,bytesOf (bts l)=some l
 | []=>rfl
 | b :: l=>by
  show (match je8 (jbN b),bytesOf (bts l) with | some b,some l=>some (b :: l) | _,_=>none)=_
  rw [je7,jfH l]
section
variable {call:Call} {fuel base:Nat} {ops:List Ins} {keep:List Nat} {K:List Fr} {e:Env} {h:H} {Q:Post} {ix:Nat} {dst at_:Option Nat}
theorem Ops.sadd {x y:Opd} {a b:List UInt8} (hx:x.ev e=some (.str a)) (hy:y.ev e=some (.str b)) (hl:a.length+b.length<=1000000) (k:Ops call fuel base ops keep K (layv e dst (.str (a++b))) h Q) :
  Ops call fuel base (⟨ix,dst,.bin .add x y,none,at_,[]⟩ :: ops) keep K e h Q:=by
 refine Ops.pure rfl ?_ k
 have h2:Nat.ble (a.length+b.length) (2 ^ 62)=true:=Nat.ble_eq_true_of_le om
 simp only [I.pure,hx,hy,binOp,jlS,h2,cond_true]
theorem Ops.ofRow {x:Opd} {v:V} {N n:Nat} {l:List UInt8} (hx:x.ev e=some v) (r:Row N h 1 v n (bts l)) (k:Ops call fuel base ops keep K (layv e dst (.str l)) h Q) :
  Ops call fuel base (⟨ix,dst,.ofBytes x,none,at_,[]⟩ :: ops) keep K e h Q:=by
 refine Ops.step (I.run_read rfl ?_) k
 rcases r with ⟨rfl,h2,rfl⟩ | ⟨q,_,_,rfl,h4,h5⟩
 ·have:l=[]:=by simpa using h2
  subst this
  simp only [I.read,hx]
 ·simp only [I.read,hx]
  have hn:n=l.length:=by simpa using h5.symm
  subst hn
  cases l with
  | nil=>rfl
  | cons a l=>
   have:((a :: l).length == 0)=false:=rfl
   rw [this,cond_false,jb3 h4 Zd,zj,zg Zd]
   show (match bytesOf (bts (a :: l)) with | some s=>some (V.str s) | none=>none)=_
   rw [jfH]
theorem Ops.mark {x:Opd} {b o n:Nat} {c:Cap} {l:List V} (hx:x.ev e=some (.slice (some (b,o)) n c)) (hb:h.get b=some (.cells l false)) (hn:Nat.ble 1 n=true) (k:Ops call fuel base ops keep K (layv e dst (.slice (some (b,o)) n c)) h Q) :
  Ops call fuel base (⟨ix,dst,.mark x,none,at_,[]⟩ :: ops) keep K e h Q:=by
 refine Ops.step (I.run_eff rfl ?_) k
 simp only [I.eff,hx,hb,hn,cond_true]
end
abbrev Zo:=@Ops.sadd
abbrev opV (k a n t:Int) (dv:V):List V:=[.i k,.i a,.i n,.int .u64 t,dv]
structure Dat (h:H) (dat:Nat->Prop) (dv:V) (D:List UInt8):Prop where
 v:VB h dv D
 z:D≠[] -> ∀ z,dv.at?=some z->dat z
 len:D.length<=300
structure Cpy (h:H) (p:Nat) (ow:Nat->Nat) (ro dat:Nat->Prop) (vd:V) (D:List UInt8):Prop where
 v:VB h vd D
 z : ∀ z,vd.at?=some z->z<h.nx/\ow z=0 /\ ¬ ro z /\ ¬ dat z/\z≠p
section
variable {h h':H} {p w s rw:Nat} {ow ow':Nat->Nat} {ro ro' dat:Nat->Prop} {a r a' r':St} {dv vd:V} {D:List UInt8}
theorem BB.keepD (b:BB h p w s rw ow ro dat a r) (f:Fm h h' ow ro ow' ro') {z:Nat} (hz:dat z):h'.get z=h.get z :=
 f.ch.get z (b.ro_lt (.inr hz)) fun e=>e.elim (fun e=>e (b.sep z (.inr hz))) (b.ap hz)
theorem Dat.keep (d:Dat h dat dv D) (b:BB h p w s rw ow ro dat a r) (f:Fm h h' ow ro ow' ro'):Dat h' dat dv D :=
 ⟨d.v.keep2 f.ch.nx fun hl z hz=>b.keepD f (d.z hl z hz),d.z,d.len⟩
theorem Cpy.keep (c:Cpy h p ow ro dat vd D) (f:Fm h h' ow ro ow' ro'):Cpy h' p ow' ro' dat vd D :=
 ⟨c.v.keep f.ch.nx fun z hz=>by
  obtain ⟨p1,p2,p3,p4,p5⟩:=c.z z hz
  exact f.ch.get z p1 fun e=>e.elim (fun e=>e p2) p3,fun z hz=>by
  obtain ⟨p1,p2,p3,p4,p5⟩:=c.z z hz
  exact ⟨zq p1 f.ch.nx,by rw [f.tag z p1];exact p2,fun e=>p3 ((f.rtag z p1).1 e),p4,p5⟩⟩
theorem Fm.two {h1 h2:H} {ow1:Nat->Nat} (o:Old h h') (t:To h' h1 ow ow1) (f:Fm h1 h2 ow1 ro ow1 ro'):Fm h h2 ow ro ow1 ro':=(Fm.old o).trans ((Fm.to t).trans f)
end
theorem VB.lt {h:H} {v:V} {l:List UInt8} (a:VB h v l) (hl:l≠[]) {z:Nat} (hz:v.at?=some z):z<h.nx:=by
 obtain ⟨a,c,rfl,n,f,g⟩:=a
 obtain ⟨b,o,cs,ro,rfl,h1,_⟩:=g hl
 cases hz;exact h1
section
variable {cl:Nat->Call} (hcl:Sem cl) {h:H} {p w s rw:Nat} {ow:Nat->Nat} {ro dat:Nat->Prop} {st:St} {a n t:Int} {dv vd:V} {D:List UInt8}
include hcl
end
section
variable {call:Call} {fuel base:Nat} {ops:List Ins} {keep:List Nat} {K:List Fr} {e:Env} {h:H} {Q:Post} {ix:Nat} {dst at_:Option Nat}
theorem Ops.ixAn {x i:Opd} {l vs:List V} {kd:IntKind} {n sz m len:Nat} (hx:x.ev e=some (.agg l)) (hi:i.ev e=some (.int kd (n:Int))) (hn:n<len) (hl:n*sz+m<=l.length) (hv:(l.drop (n*sz)).take m=vs)
  (k:Ops call fuel base ops keep K (layv e dst (.agg vs)) h Q):Ops call fuel base (⟨ix,dst,.ixA len sz (some m) x i,none,at_,[]⟩ :: ops) keep K e h Q:=by
 refine Ops.pure rfl ?_ k
 have h1:Nat.blt n len=true:=by simp [Nat.blt];omega
 have h2:Nat.ble (n*sz+m) l.length=true:=by simpa using hl
 simp only [I.pure,hx,hi]
 show (bif below (Int.ofNat n) len then _ else _)=_
 simp only [below,h1,cond_true,part]
 show (match (bif Nat.ble (n*sz+m) l.length then some (V.agg ((l.drop (n*sz)).take m)) else none) with | some v=>some v | none=>none)=_
 rw [h2];simp only [cond_true,hv]
end
section
variable {f:Nat->Option (Nat × Nat)} {wv:V} {s:Nat} {now:Int} {no:Option (Nat × Nat)}
theorem jgo {i:Nat} (hi:i<96):((jcz f).drop (i*3)).take 3=plc (f i) :=
 jm5 (jdR (i:=i) (j:=0) hi om rfl) (jdR (i:=i) (j:=1) hi om rfl) (jdR (i:=i) (j:=2) hi om rfl)
theorem jkM:((wc f wv s now no).drop 0).take 288=jcz f:=by
 unfold wc
 rw [zj,List.take_append_of_le_length (by rw [jax];omega),zg (by rw [jax];omega)]
end
section
variable {cl:Nat->Call} (hcl:Sem cl) {h:H} {w s:Nat} {ow:Nat->Nat} {f:Nat->Option (Nat × Nat)} {l:List WX} {now:Int} {tb:Tb} {no:Option (Nat × Nat)}
include hcl
theorem wf_free_1 {d L bx:Nat} {wl:List V} (hd:2<=d) (I:Nat->H->Prop) (J:H->Prop) (hw:h.get w=some (.cells (wc f (.slice none 0 (.fix 0)) s now no) false)\/h.get w=some (.cells wl false)) (hwl:wl.length=294/\(wl.drop 0).take 288=jcz f) (hbx:h.get bx=some (.cells [.p w 0] false))
  (hI : ∀ i g g',I i g->Old g g'->I i g') (hskip : ∀ i g,i<96->f i≠none->I i g->I (i+1) g)
  (hy : ∀ i g,i<96->f i=none->I i g -> ∃ (b:Bool) (g':H),cl (d-1) (.yld L) [.i (i:Int)] g=some (.bool b,g')/\(b=true->I (i+1) g')/\(b=false->J g'))
  (h0:I 0 h) : ∃ v h',cl d (.fn 92) [.yld L,.p bx 0] h=some (v,h')/\(I 96 h'\/J h'):=by
 have hw : ∃ wl,h.get w=some (.cells wl false)/\wl.length=294/\(wl.drop 0).take 288=jcz f:=by
  rcases hw with hw | hw
  ·exact ⟨_,hw,jbV,jkM⟩
  ·exact ⟨_,hw,hwl⟩
 obtain ⟨wl,hw,hl,ht⟩:=hw
 refine aT hcl ?_
 refine qx ?_
 refine zcw rfl hw om ?_
 rw [ht]
 refine qx ?_
 refine Zl (fun m e g=>∃ i:Nat,m=96-i/\i<=96/\e=[(0,.yld L),(8,.agg (jcz f)),(9,.i i)]/\I i g) (k:=96) Ze ⟨0,rfl,by omega,rfl,h0⟩ ?_
 rintro _ _ g ⟨i,rfl,hi,rfl,hIi⟩ n ih
 by_cases hlt:i<96
 case neg=>
  obtain rfl:i=96:=by omega
  have hlt' : ¬ ((96:Nat):Int)<96:=by omega
  refine qx ?_
  exact .inl hIi
 have hi1:((i+1:Nat):Int)=(i:Int)+1:=by omega
 refine qx ?_
 refine Ops.ixAn (m:=3) rfl rfl hlt (by rw [jax];omega) (jgo hlt) ?_
 refine zcu rfl rfl ?_
 refine qx ?_
 have o1:Old g ((g.new (.cells [.bool false,.i 0,.i 0] false)).set g.nx (.cells (plc (f i)) false)):=((Zn g).new).set (zp _)
 have I1:=hI _ _ _ hIi o1
 cases hf:f i with
 | some p=>
  rw [hf] at I1
  refine qm ?_
  exact ih (96-(i+1)) om _ _ ⟨i+1,rfl,by omega,by rw [hi1],hskip i _ hlt (by rw [hf];simp) I1⟩
 | none=>
  rw [hf] at I1
  obtain ⟨b,g',e1,q1,q2⟩:=hy i _ hlt hf I1
  cases b
  ·refine qm ?_
   refine Ops.yield rfl rfl e1 ?_
   refine qm ?_
   exact .inr (q2 rfl)
  ·refine qm ?_
   refine Ops.yield rfl rfl e1 ?_
   refine qm ?_
   exact ih (96-(i+1)) om _ _ ⟨i+1,rfl,by omega,by rw [hi1],q1 rfl⟩
theorem wp_free {d:Nat} (hd:1<=d):cl d (.fn 69) [.p w 0] h=some (.clo 92 [.p h.nx 0],h.new (.cells [.p w 0] false)):=by
 refine jao (aT hcl ?_)
 refine qx ?_
 refine zcu rfl rfl ?_
 refine qx ?_
 exact ⟨rfl,rfl⟩
theorem ww_Pass {d:Nat} {ws:Ws} {t:Int} (hd:2<=d) (a:WSt h w s ow ws now tb no) (n0:0<=now) (n1:now<=18446744073709551615) (t0:0<=t) (t1:t<=18446744073709551615) :
  ∃ h',cl d (.fn 23) [.p w 0,.int .u64 t] h=some (.tup [],h')/\WSt h' w s ow ws (jaN now t) tb no/\To h h' ow ow:=by
 obtain ⟨l,a,rfl⟩:=a
 have hn:=jbU hcl (d:=d-1) om a.wf
 obtain ⟨wv,hw,hr,hz⟩:=a.wf.hw
 have e0:=jkN (f:=fun i=>atS (wxs l) (i:Int)) (wv:=wv) (s:=s) (now:=now) (no:=no) (o:=0+290) rfl
 have es:jaN now t=now+min t (18446744073709551615-now):=by unfold jaN;split<;>omega
 have hlen:0+290<(wc (fun i=>atS (wxs l) (i:Int)) wv s now no).length:=by rw [jbV];omega
 refine jak (aT hcl ?_)
 refine qx ?_
 refine zcs rfl rfl rfl hw hlen ?_
 rw [jjT rfl,<- es]
 refine qx ?_
 have hne : ∀ j,ow j≠1->j≠w:=fun j hj e=>hj (by rw [e,a.wf.tw])
 refine ⟨rfl,⟨l,⟨⟨⟨wv,jab _,hr.keep (zp _) fun z hz'=>jaa (hne z (by rw [hz z hz'];omega)),hz⟩,?_,a.wf.tw,a.wf.ts,a.wf.lw,a.wf.ls,a.wf.top,fun m t ht=>(a.wf.ok m t ht).keep (zp _) fun j h1 _=>jaa (hne j om)⟩,a.fds⟩,rfl⟩,Ch.set (by show ow w≠0;rw [a.wf.tw];omega),fun _ _=>rfl⟩
 rw [jaa (hne s (by rw [a.wf.ts];omega)),a.wf.hs]
end
theorem je4 (ws:Ws) : ∀ (m n:Nat),n<=m->(jar ws m).take (jar ws n).length=jar ws n
 | 0,n,h=>by
  obtain rfl:n=0:=by omega
  simp
 | m+1,n,h=>by
  by_cases e:n=m+1
  ·subst e;simp
  ·have ih:=je4 ws m n om
   have hl:(jar ws n).length<=(jar ws m).length:=by
    have:=congrArg List.length ih
    rw [List.length_take] at this
    omega
   rw [jer,List.take_append_of_le_length hl,ih]
section
variable {cl:Nat->Call} (hcl:Sem cl) {h:H} {w s:Nat} {ow:Nat->Nat} {l:List WX} {now:Int} {tb:Tb} {no:Option (Nat × Nat)}
include hcl
theorem jfX {d k:Nat} (hd:5<=d) (hk:k=1\/k=2) (a:WW h w s ow l now tb no) (hlen:l.length<=1000) :
  ∃ v h',cl d (.fn 41) [.p w 0,.i (k:Int)] h=some (.tup [v,.bool (decide (((jar (wxs l) 96).take k).length=k)&&decide (l.length<1000))],h')/\VI h' v ((jar (wxs l) 96).take k)/\(∀ z,v.at?=some z->h.nx<=z/\z<h'.nx)/\Old h h':=by
 obtain ⟨sa,c,hw,_⟩:=a.wf.head
 have lw:=a.wf.lw
 suffices q : ∃ v2 h',cl d (.fn 41) [.p w 0,.i (k:Int)] h=some (v2,h') /\ ∃ v,v2 = .tup [v,.bool (decide (((jar (wxs l) 96).take k).length=k)&&decide (l.length<1000))]/\Row h.nx h' 1 v ((jar (wxs l) 96).take k).length (ints ((jar (wxs l) 96).take k))/\Old h h' by
  obtain ⟨_,h',e,v,rfl,r,o⟩:=q
  obtain ⟨p1,p2⟩:=VI.ofRow r
  exact ⟨v,h',e,p1,p2,o⟩
 refine aT hcl ?_
 refine qx ?_
 refine zcu (ob := .cells [.i (k:Int)] false) (mk:=fun b=>.p b 0) rfl rfl ?_
 refine qx ?_
 refine zcu (ob := .cells [.nils] false) (mk:=fun b=>.p b 0) rfl rfl ?_
 refine qx ?_
 refine zaw rfl (wp_free hcl (w:=w) om) ?_
 rw [show ((h.new (.cells [.i (k:Int)] false)).new (.cells [.nils] false)).nx=h.nx+2 from rfl,show (h.new (.cells [.i (k:Int)] false)).nx=h.nx+1 from rfl]
 refine qx ?_
 have o1:Old h (((h.new (.cells [.i (k:Int)] false)).new (.cells [.nils] false)).new (.cells [.p w 0] false)):=(Zn h).new.new.new
 have b0:(((h.new (.cells [.i (k:Int)] false)).new (.cells [.nils] false)).new (.cells [.p w 0] false)).get h.nx=some (.cells [.i (k:Int)] false):=qgt
 have b1:(((h.new (.cells [.i (k:Int)] false)).new (.cells [.nils] false)).new (.cells [.p w 0] false)).get (h.nx+1)=some (.cells [.nils] false):=qgt
 have b2:(((h.new (.cells [.i (k:Int)] false)).new (.cells [.nils] false)).new (.cells [.p w 0] false)).get (h.nx+2)=some (.cells [.p w 0] false):=qgt
 have x1:(((h.new (.cells [.i (k:Int)] false)).new (.cells [.nils] false)).new (.cells [.p w 0] false)).nx=h.nx+3:=rfl
 generalize ((h.new (.cells [.i (k:Int)] false)).new (.cells [.nils] false)).new (.cells [.p w 0] false)=H1 at o1 b0 b1 b2 x1 ⊢
 refine Run.rangeFunc_lo rfl qkp fun LO hLO=>?_
 rw [x1]
 have oL:Old h (H1.new (LO .ready none)):=o1.new
 obtain ⟨v,h',hc,hIJ⟩:=wf_free_1 hcl (d:=d-1) (L:=h.nx+3) (bx:=h.nx+2) (h:=H1.new (LO .ready none)) (f:=fun i=>atS (wxs l) (i:Int)) (s:=s) (now:=now) (no:=no) (w:=w) (wl:=wc (fun i=>atS (wxs l) (i:Int)) (.slice sa l.length c) s now no) om
  (fun i g=>(jar (wxs l) i).length<=k/\i<=96/\(∃ v,g.get (h.nx+1)=some (.cells [v] false)/\Row (h.nx+4) g 1 v (jar (wxs l) i).length (ints (jar (wxs l) i)))/\g.get h.nx=some (.cells [.i (k:Int)] false)/\g.get (h.nx+3)=some (LO .ready none)/\h.nx+4<=g.nx/\Old h g)
  (fun g=>(∃ v,g.get (h.nx+1)=some (.cells [v] false)/\Row (h.nx+4) g 1 v ((jar (wxs l) 96).take k).length (ints ((jar (wxs l) 96).take k)))/\g.get h.nx=some (.cells [.i (k:Int)] false)/\g.get (h.nx+3)=some (LO .done (some (.exit 0)))/\h.nx+4<=g.nx/\Old h g)
  (.inr (by rw [oL.2 _ lw,hw])) ⟨jbV,jkM⟩ (by rw [jad om,b2])
  (by
   rintro i g g' ⟨p0,p00,⟨v,p1,p2⟩,p3,p4,p5,p6⟩ og
   exact ⟨p0,p00,⟨v,by rw [og.2 _ om,p1],p2.keep og.1 fun z hz=>og.2 z (p2.at_ge hz).2⟩,by rw [og.2 _ om,p3],by rw [og.2 _ om,p4],zx p5 og.1,p6.trans og⟩)
  (by
   rintro i g hi hf ⟨p0,p00,p1,p2⟩
   have e:jar (wxs l) (i+1)=jar (wxs l) i:=by
    have:(atS (wxs l) (i:Int)).isNone=false:=by cases h5:atS (wxs l) (i:Int)<;>simp_all
    rw [jer,this];simp
   rw [e];exact ⟨p0,by omega,p1,p2⟩)
  (by
   rintro i g hi hf ⟨p0,p00,⟨v,p1,p2⟩,p3,p4,p5,p6⟩
   have hfi:atS (wxs l) (i:Int)=none:=hf
   have e:jar (wxs l) (i+1)=jar (wxs l) i++[(i:Int)]:=by rw [jer,hfi];rfl
   have hll:=freeL_len (wxs l) i
   obtain ⟨cp,⟨av,rfl⟩,_⟩:=p2.shape
   suffices q : ∃ v' g',cl (d-1-1) (.yld (h.nx+3)) [.i (i:Int)] g=some (v',g') /\ ∃ b:Bool,v' = .bool b/\(b=true->(jar (wxs l) (i+1)).length<=k/\i+1<=96/\(∃ v,g'.get (h.nx+1)=some (.cells [v] false)/\Row (h.nx+4) g' 1 v (jar (wxs l) (i+1)).length (ints (jar (wxs l) (i+1))))/\g'.get h.nx=some (.cells [.i (k:Int)] false)/\g'.get (h.nx+3)=some (LO .ready none)/\h.nx+4<=g'.nx/\Old h g') /\
     (b=false->(∃ v,g'.get (h.nx+1)=some (.cells [v] false)/\Row (h.nx+4) g' 1 v ((jar (wxs l) 96).take k).length (ints ((jar (wxs l) 96).take k)))/\g'.get h.nx=some (.cells [.i (k:Int)] false)/\g'.get (h.nx+3)=some (LO .done (some (.exit 0)))/\h.nx+4<=g'.nx/\Old h g') by
    obtain ⟨_,g',e,b,rfl,q⟩:=q
    exact ⟨b,g',e,q⟩
   refine yl_ hcl om hLO p4 rfl ?_
   refine qx ?_
   refine End.nil ⟨rfl,p4,?_⟩
   by_cases hck:(jar (wxs l) i).length=k
   ·have hck':((jar (wxs l) i).length:Int)=(k:Int):=by omega
    refine qx ?_
    refine End.nil ⟨⟨.busy,none,qgt⟩,false,rfl,fun e=>(by cases e),fun _=>⟨⟨_,qgt,?_⟩,qgt,jab _,by simpa using p5,?_⟩⟩
    ·rw [<- hck,je4 _ 96 i om]
     exact p2.keep Zd fun z hz=>by have:=p2.at_ge hz;rw [jaa om,jaa om]
    ·exact (p6.set om).set om
   ·have hck' : ¬ ((jar (wxs l) i).length:Int)=(k:Int):=by omega
    refine qx ?_
    have p2':Row (h.nx+4) (g.set (h.nx+3) (LO .busy none)) 1 (.slice av (jar (wxs l) i).length cp) (jar (wxs l) i).length (ints (jar (wxs l) i)):=p2.keep Zd fun z hz=>by have:=p2.at_ge hz;exact jaa om
    refine Ops.push (N:=h.nx+4) (new:=[.i (i:Int)]) rfl rfl rfl rfl om rfl rfl p2' (by simpa using p5) om om fun v' g2 row' hx' hz' hk'=>?_
    have hx':g.nx<=g2.nx:=by simpa using hx'
    have hk2 : ∀ j,j<h.nx+4->g2.get j=(g.set (h.nx+3) (LO .busy none)).get j:=fun j hj=>hk' j Zc fun e=>by have:=p2'.at_ge e;omega
    have q1:g2.get (h.nx+1)=some (.cells [.slice av (jar (wxs l) i).length cp] false):=by rw [hk2 _ om];exact qgt
    have hone:=row'.one
    refine zcs rfl rfl hone q1 Nat.zero_lt_one ?_
    refine qx ?_
    refine End.nil ⟨⟨.busy,none,by rw [jaa om,hk2 _ om,jab]⟩,true,rfl,fun _=>⟨by rw [e,zf];simp;omega,by omega,⟨v',qgt,?_⟩,?_,jab _,by simp;omega,?_⟩,fun e=>by cases e⟩
    ·rw [e,zf]
     have r2:Row (h.nx+4) g2 1 v' ((jar (wxs l) i).length+[(i:Int)].length) (ints (jar (wxs l) i++[(i:Int)])):=by simpa [ints] using row'
     exact r2.keep Zd fun z hz=>by have:=hz' z hz;simp at this;rw [jaa om,jaa om]
    ·rw [jaa om,jaa om,hk2 _ om,jaa om,p3]
    ·have p7:=p6.1
     exact ⟨by simp;omega,fun j hj=>by rw [jaa om,jaa om,hk2 _ om,jaa om,p6.2 j hj]⟩)
  ⟨by simp [jar],by omega,⟨.nils,by rw [jad om,b1],by simpa [jar] using Row.nil _ _ _⟩,by rw [jad om,b0],by rw [<- x1,jac],by simp [x1],oL⟩
 refine ⟨v,h',hc,?_⟩
 have fin : ∀ (v:V) (g:H),g.get (h.nx+1)=some (.cells [v] false)->Row (h.nx+4) g 1 v ((jar (wxs l) 96).take k).length (ints ((jar (wxs l) 96).take k))->g.get h.nx=some (.cells [.i (k:Int)] false)->h.nx+4<=g.nx->Old h g ->
   End (cl (d-1)) fuel [.seq c41_1] .normal [(0,.p w 0),(3,.p h.nx 0),(6,.p (h.nx+1) 0),(9,.clo 92 [.p (h.nx+2) 0])] (g.kill (h.nx+3)) (Fin c41.res fun v2 h'=>∃ v,v2 = .tup [v,.bool (decide (((jar (wxs l) 96).take k).length=k)&&decide (l.length<1000))]/\Row h.nx h' 1 v ((jar (wxs l) 96).take k).length (ints ((jar (wxs l) 96).take k))/\Old h h'):=by
  intro v g g1 r g0 gn og
  have hw':g.get w=some (.cells (wc (fun i=>atS (wxs l) (i:Int)) (.slice sa l.length c) s now no) false):=by rw [og.2 _ lw,hw]
  have k1:(g.kill (h.nx+3)).get (h.nx+1)=some (.cells [v] false):=by rw [jan om,g1]
  have k0:(g.kill (h.nx+3)).get h.nx=some (.cells [.i (k:Int)] false):=by rw [jan om,g0]
  have kw:(g.kill (h.nx+3)).get w=some (.cells (wc (fun i=>atS (wxs l) (i:Int)) (.slice sa l.length c) s now no) false):=by rw [jan om,hw']
  have w1:(wc (fun i=>atS (wxs l) (i:Int)) (.slice sa l.length c) s now no)[0+288]?=some (.slice sa l.length c):=jaO rfl
  have r2:Row h.nx (g.kill (h.nx+3)) 1 v ((jar (wxs l) 96).take k).length (ints ((jar (wxs l) 96).take k)):=(r.keep Zd fun z hz=>by have:=r.at_ge hz;exact jan om).weaken om
  have o2:Old h (g.kill (h.nx+3)):=⟨by simpa using og.1,fun j hj=>by rw [jan om,og.2 j hj]⟩
  obtain ⟨cp,⟨av,rfl⟩,_⟩:=r.shape
  generalize (jar (wxs l) 96).take k=fl at r2 k1 ⊢
  by_cases h1:(fl.length:Int)=(k:Int)
  ·have h1':fl.length=k:=by omega
   refine qx ?_
   have el:decide (l.length<1000)=decide ((l.length:Int)<1000):=by
    by_cases e:l.length<1000
    ·rw [zF e,zF om]
    ·rw [zD e,zD om]
   refine ⟨_,?_,r2,o2⟩
   rw [zF h1',Bool.true_and,el]
  ·have h1' : ¬ fl.length=k:=by omega
   refine qx ?_
   exact ⟨_,by rw [zD h1',Bool.false_and],r2,o2⟩
 rcases hIJ with ⟨p0,_,⟨v,p1,p2⟩,p3,p4,p5,p6⟩ | ⟨⟨v,p1,p2⟩,p3,p4,p5,p6⟩
 ·refine ⟨.normal,p4,?_⟩
  have et:(jar (wxs l) 96).take k=jar (wxs l) 96:=zg p0
  have:=fin v h' p1 (by rw [et];exact p2) p3 p5 p6
  exact zbw this
 ·refine ⟨.exit 0,p4,?_⟩
  have:=fin v h' p1 p2 p3 p5 p6
  exact zby this
end
def jmz (n:Nat):Wi:=⟨⟨0,0,some [],true,false,0,0⟩,⟨0,0,some [],true,false,0,0⟩,n,false,0,[]⟩
def jkj (bb n:Nat):Obj := .cells [.slice (some (bb,0)) n (.fix n),.i 0,.i 0,.int .u64 0,.int .u64 0,.bool true] false
def bufO (n:Nat):Obj := .cells (List.replicate n (.int .u8 0)) false
theorem jdd {h:H} {r bb n:Nat} (h1:1<=n) (h2:n<=65536) (hr:h.get r=some (jkj bb n)) (hb:h.get bb=some (bufO n)):jaw h r bb [] n:=by
 refine ⟨List.replicate n 0,0,0,0,⟨hr,?_⟩,?_⟩
 ·rw [hb];simp [bufO,bts];exact .inr rfl
 ·exact ⟨by simp,h1,zW _,h2,fun i hi=>zI hi (Nat.not_lt_zero _)⟩
def tg:Nat->Nat
 | 0=>0
 | 1=>2
 | 2=>1
 | 3=>4
 | _=>3
def jei (ow:Nat->Nat) (N L m z:Nat):Nat->Nat:=fun j=>if j=z then 2 else if N<=j/\j<N+m then 10*L+10+tg (j-N) else ow j
theorem jln {ow:Nat->Nat} {N L m z:Nat} : jei ow N L m z z=2:=zC rfl
theorem jlo {ow:Nat->Nat} {N L m z i:Nat} (h:i<m) (hz:N+i≠z):jei ow N L m z (N+i)=10*L+10+tg i:=by
 unfold jei
 rw [zz hz,zC om,show N+i-N=i by omega]
theorem jeh {ow:Nat->Nat} {N L m z j:Nat} (h:j<N\/N+m<=j) (hz:j≠z):jei ow N L m z j=ow j:=by
 unfold jei
 rw [zz hz,zz om]
theorem XOk.tag0 {h:H} {ow ow':Nat->Nat} {n:Nat} {t:WX} (a:XOk h ow n t) (hk : ∀ j,ow j≠0->ow' j=ow j):XOk h ow' n t:=by
 refine ⟨a.hx,by rw [hk _ (by rw [a.ox];omega),a.ox],a.lx,fun k h01 q hq=>?_,a.wait.1,fun hl z hz=>?_⟩
 ·obtain ⟨p1,p2,p3,p4,p5⟩:=a.ring k h01 q hq
  exact ⟨p1,by rw [hk _ om,p2],by rw [hk _ om,p3],p4,p5⟩
 ·obtain ⟨p1,p2⟩:=a.wait.2 hl z hz
  exact ⟨by rw [hk _ om,p1],p2⟩
theorem WF.push {h h':H} {w s:Nat} {ow:Nat->Nat} {f g:Nat->Option (Nat × Nat)} {l:List WX} {now:Int} {tb:Tb} {no:Option (Nat × Nat)} {m z N:Nat} {wv:V} {t:WX} (a:WF h w s ow f l now tb no)
  (hm:m=1\/m=5) (hN:N+m<=h.nx) (h0 : ∀ j,N<=j->j<N+m->ow j=0) (hx:h.nx<=z) (hz:z<h'.nx) (hk : ∀ j,ow j≠0->ow j≠2->j≠w->h'.get j=h.get j)
  (hw:h'.get w=some (.cells (wc g wv s now no) false)) (row:Row 0 h' 1 wv (l.length+1) (wps l++[.p N 0])) (hat : ∀ y,wv.at?=some y->y=z)
  (t0:t.wb=N) (t1:m=5->t.b0=N+1/\t.r0=N+2/\t.b1=N+3/\t.r1=N+4)
  (ho:h'.get N=some (t.x.obj t.r0 t.r1 t.wv)) (hwt:t.x.waiting=[]) (hwv:t.wv = .nils)
  (hr : ∀ k,k=0\/k=1 -> ∀ q,(t.x.e k).ring=some q->m=5/\jaw h' (t.r k) (t.b k) q t.x.cap) :
  WF h' w s (jei ow N l.length m z) g (l++[t]) now tb no:=by
 have hz0:ow z=0:=a.top z hx
 have keep : ∀ j,ow j≠0->jei ow N l.length m z j=ow j:=fun j hj=>jeh (by
  rcases zu j N with h1 | h1
  ·exact .inl h1
  ·rcases zu j (N+m) with h2 | h2
   ·exact zI (h0 j h1 h2) hj
   ·exact .inr h2) fun e=>hj (by rw [e,hz0])
 have nx:h.nx<=h'.nx:=by omega
 refine ⟨⟨wv,hw,?_,fun y hy=>by rw [hat y hy,jln]⟩,?_,?_,?_,zq a.lw nx,zq a.ls nx,fun j hj=>?_,fun n u hu=>?_⟩
 ·rw [zf]
  show Row 0 h' 1 wv (l.length+1) (wps (l++[t]))
  have:wps (l++[t])=wps l++[.p N 0]:=by rw [<- t0];simp
  rw [this];exact row
 ·rw [hk s (by rw [a.ts];omega) (by rw [a.ts];omega) (fun e=>by have:=a.ts;rw [e,a.tw] at this;omega),a.hs]
 ·rw [keep w (by rw [a.tw];omega),a.tw]
 ·rw [keep s (by rw [a.ts];omega),a.ts]
 ·rw [jeh om om,a.top j om]
 ·rcases zu n l.length with hn | hn
  ·rw [ze,zC hn] at hu
   have o:=(a.ok n u hu).tag0 keep
   refine o.keep nx fun j j1 j2=>?_
   have hj:ow j≠0:=by
    intro e
    rcases zu j N with h1 | h1
    ·by_cases ez:j=z
     ·omega
     ·rw [jeh (.inl h1) ez,e] at j1;omega
    ·by_cases ez:j=z
     ·rw [ez,jln] at j1;omega
     ·rcases zu j (N+m) with h2 | h2
      ·obtain ⟨i,rfl⟩ : ∃ i,j=N+i:=⟨j-N,by omega⟩
       rw [jlo om ez] at j2;omega
      ·rw [jeh (.inr h2) ez,e] at j1;omega
   refine hk j hj (fun e=>?_) fun e=>?_
   ·rw [keep j hj,e] at j1;omega
   ·rw [keep j hj,e,a.tw] at j1;omega
  ·rw [ze,zz om] at hu
   have e0:n-l.length=0:=by
    rcases Nat.eq_zero_or_pos (n-l.length) with e | e
    ·exact e
    ·rw [zd (show 1<=_ from e)] at hu;cases hu
   rw [e0] at hu
   cases hu
   obtain rfl:n=l.length:=by omega
   have tag : ∀ i,i<m->jei ow N l.length m z (N+i)=10*l.length+10+tg i:=fun i hi=>jlo hi om
   refine ⟨by rw [t0];exact ho,by rw [t0];exact tag 0 om,by rw [t0];omega,fun k hk q hq=>?_,by rw [hwt,hwv];exact VI.nil h',fun hl=>zI hwt hl⟩
   obtain ⟨r1,r2⟩:=hr k hk q hq
   obtain ⟨p1,p2,p3,p4⟩:=t1 r1
   refine ⟨r2,?_⟩
   rcases hk with rfl | rfl
   ·show jei ow N l.length m z t.r0=_/\jei ow N l.length m z t.b0=_/\t.r0<h'.nx/\t.b0<h'.nx
    rw [p1,p2]
    exact ⟨tag 2 om,tag 1 om,by omega,by omega⟩
   ·show jei ow N l.length m z t.r1=_/\jei ow N l.length m z t.b1=_/\t.r1<h'.nx/\t.b1<h'.nx
    rw [p3,p4]
    exact ⟨tag 4 om,tag 3 om,by omega,by omega⟩
theorem End.opqh {call:Call} {fuel:Nat} {K:List Fr} {x:Ex} {e:Env} {h:H} {Q:Post} (k : ∀ G,G=h->End call fuel K x e G Q):End call fuel K x e h Q:=k h rfl
section
variable {cl:Nat->Call} (hcl:Sem cl)
include hcl
theorem jga {d:Nat} {h:H} {n:Int} (hd:1<=d) (hn:n<0\/65536<n):cl d (.fn 39) [.i n] h=some (.tup [.ptr none,.i 2],h):=by
 refine jao (aT hcl ?_)
 rcases hn with hn | hn
 ·refine qx ?_
  exact ⟨rfl,rfl⟩
 ·by_cases h0:n<0
  ·exfalso;omega
  ·refine qx ?_
   exact ⟨rfl,rfl⟩
theorem jkH {d:Nat} {h:H} {n:Nat} (hd:2<=d) (h2:n<=65536) :
  ∃ h',cl d (.fn 19) [.i (n:Int)] h=some (.p h.nx 0,h')/\h'.nx=h.nx+5/\Old h h'/\h'.get h.nx=some ((jmz n).obj (h.nx+2) (h.nx+4) .nils)/\h'.get (h.nx+2)=some (jkj (h.nx+1) n)/\h'.get (h.nx+1)=some (bufO n)/\h'.get (h.nx+4)=some (jkj (h.nx+3) n)/\h'.get (h.nx+3)=some (bufO n):=by
 refine jak (aT hcl ?_)
 refine qm ?_
 refine Run.unroll (n:=99999) rfl ?_
 refine qm ?_
 refine zaw rfl (jmg hcl (n:=n) om h2) ?_
 refine qm ?_
 refine End.opqh fun G hG=>?_
 have x1:G.nx=h.nx+3:=by rw [hG];rfl
 have o1:Old h G:=by
  rw [hG]
  repeat (first | exact Zn _ | refine Old.new ?_ | refine Old.set ?_ (zp _))
 have g0:G.get h.nx=some (.cells [.i 0,.i 0,.p (h.nx+2) 0,.bool true,.bool false,.int .u64 0,.int .u64 0,.i 0,.i 0,.ptr none,.bool false,.bool false,.int .u64 0,.int .u64 0,.bool false,.i 0,.nils] false):=by
  rw [hG];exact jab _
 have g1:G.get (h.nx+1)=some (bufO n):=by
  rw [hG];rw [jaa om,jaa om,jad (Nat.lt_succ_self _)];exact jac _
 have g2:G.get (h.nx+2)=some (jkj (h.nx+1) n):=by
  rw [hG];rw [jaa om,jaa om];exact jac _
 clear hG
 refine End.unroll ?_
 refine qm ?_
 refine zaw rfl (jmg hcl (n:=n) om h2) ?_
 have g0':((G.new (.cells (List.replicate n (.int .u8 0)) false)).new (.cells [.slice (some (G.nx,0)) n (.fix n),.i 0,.i 0,.int .u64 0,.int .u64 0,.bool true] false)).get h.nx=G.get h.nx:=by
  rw [jad Zc,jad om]
 rw [g0] at g0'
 refine qm ?_
 refine End.opqh fun G2 hG2=>?_
 have x2:G2.nx=h.nx+5:=by rw [hG2];show G.nx+1+1=_;omega
 have o2:Old h G2:=by
  rw [hG2]
  repeat (first | exact o1 | refine Old.new ?_ | refine Old.set ?_ (zp _))
 have k0:G2.get h.nx=some ((jmz n).obj (h.nx+2) (h.nx+4) .nils):=by
  rw [hG2];refine (jab _).trans ?_
  have:G.nx+1=h.nx+4:=by omega
  rw [<- this];rfl
 have k1:G2.get (h.nx+1)=some (bufO n):=by
  rw [hG2];rw [jaa om,jaa om,jad Zc,jad om];exact g1
 have k2:G2.get (h.nx+2)=some (jkj (h.nx+1) n):=by
  rw [hG2];rw [jaa om,jaa om,jad Zc,jad om];exact g2
 have k3:G2.get (h.nx+3)=some (bufO n):=by
  rw [hG2,<- x1];rw [jaa om,jaa om,jad Zd];exact jac _
 have k4:G2.get (h.nx+4)=some (jkj (h.nx+3) n):=by
  have e:h.nx+4=G.nx+1:=by omega
  rw [hG2,e,<- x1];rw [jaa om,jaa om];exact jac _
 clear hG2
 refine End.unroll ?_
 refine qm ?_
 exact ⟨rfl,x2,o2,k0,k2,k1,k4,k3⟩
theorem ji9 {d:Nat} {h:H} {n:Int} (hd:2<=d) (hn:n<0\/65536<n) :
  ∃ h',cl d (.fn 19) [.i n] h=some (.p h.nx 0,h')/\h'.nx=h.nx+1/\Old h h'/\h'.get h.nx=some ((⟨⟨0,0,none,true,false,0,0⟩,⟨0,0,none,true,false,0,0⟩,0,false,0,[]⟩:Wi).obj 0 0 .nils):=by
 refine jak (aT hcl ?_)
 refine qm ?_
 refine Run.unroll (n:=99999) rfl ?_
 refine qm ?_
 refine zaw rfl (jga hcl (n:=n) om hn) ?_
 refine qm ?_
 refine End.opqh fun G hG=>?_
 have x1:G.nx=h.nx+1:=by rw [hG];rfl
 have o1:Old h G:=by
  rw [hG]
  repeat (first | exact Zn _ | refine Old.new ?_ | refine Old.set ?_ (zp _))
 have g0:G.get h.nx=some (.cells [.i 0,.i 0,.ptr none,.bool true,.bool false,.int .u64 0,.int .u64 0,.i 0,.i 0,.ptr none,.bool false,.bool false,.int .u64 0,.int .u64 0,.bool false,.i 0,.nils] false):=by
  rw [hG];exact jab _
 clear hG
 refine End.unroll ?_
 refine qm ?_
 refine zaw rfl (jga hcl (n:=n) om (by assumption)) ?_
 refine qm ?_
 refine End.opqh fun G2 hG2=>?_
 have x2:G2.nx=h.nx+1:=by rw [hG2];exact x1
 have o2:Old h G2:=by
  rw [hG2]
  repeat (first | exact o1 | refine Old.new ?_ | refine Old.set ?_ (zp _))
 have k0:G2.get h.nx=some ((⟨⟨0,0,none,true,false,0,0⟩,⟨0,0,none,true,false,0,0⟩,0,false,0,[]⟩:Wi).obj 0 0 .nils):=by
  rw [hG2];exact jab _
 clear hG2
 refine End.unroll ?_
 refine qm ?_
 exact ⟨rfl,x2,o2,k0⟩
end
def Wi.name (x:Wi) (k:Nat) (i:Nat):Wi:=x.put k { x.e k with what:=1,fd:=i }
structure Opened (h h':H) (w s N:Nat) (ow:Nat->Nat) (g:Nat->Option (Nat × Nat)) (l:List WX) (now:Int) (no:Option (Nat × Nat)) (o:Obj):Prop where
 ho:h'.get N=some o
 hw : ∃ wv z,h'.get w=some (.cells (wc g wv s now no) false)/\Row 0 h' 1 wv (l.length+1) (wps l++[.p N 0])/\(∀ y,wv.at?=some y->y=z)/\h.nx<=z/\z<h'.nx
 hk : ∀ j,j<h.nx->j≠N->j≠w->ow j≠2->h'.get j=h.get j
 nx:h.nx<=h'.nx
theorem Ops.opqh {call:Call} {fuel base:Nat} {ops:List Ins} {keep:List Nat} {K:List Fr} {e:Env} {h:H} {Q:Post} (k : ∀ G,G=h->Ops call fuel base ops keep K e G Q):Ops call fuel base ops keep K e h Q:=k h rfl
section
variable {cl:Nat->Call} (hcl:Sem cl) {h:H} {w s:Nat} {ow:Nat->Nat} {f:Nat->Option (Nat × Nat)} {l:List WX} {now:Int} {tb:Tb} {no:Option (Nat × Nat)}
include hcl
theorem xp_open1 {d N i0:Nat} {vf wv:V} {x:Wi} {r0 r1:Nat} (hd:1<=d) (a:WF h w s ow f l now tb no) (hN:h.get N=some (x.obj r0 r1 wv)) (hN0:ow N=0) (hNl:N<h.nx) (hl:l.length<1000) (vi:VI h vf [(i0:Int)]) (vz : ∀ z,vf.at?=some z->ow z=0/\z≠N) (hi:i0<96) :
  ∃ h',cl d (.fn 42) [.p w 0,.p N 0,vf] h=some (.tup [],h')/\Opened h h' w s N ow (fun j=>if j=i0 then some (l.length,0) else f j) l now no ((x.name 0 i0).obj r0 r1 wv):=by
 obtain ⟨wv0,hw,row,hz⟩:=a.hw
 obtain ⟨cp,⟨av,rfl⟩,_⟩:=row.shape
 obtain ⟨af,cf,rfl,_⟩:=id vi
 obtain ⟨b,of,cs,ro,rfl,hcs,hc0⟩:=VI.cell (l:=[(i0:Int)]) vi (i:=0) (x:=(i0:Int)) rfl
 have hNw:N≠w:=fun e=>by have:=a.tw;rw [<- e] at this;omega
 have hbN:=vz b rfl
 have hwN:w≠N:=fun e=>hNw e.symm
 have c1:(wc f (.slice av l.length cp) s now no)[0+288]?=some (.slice av l.length cp):=jaO rfl
 obtain ⟨⟨a0,b0,c0,d0,e0,f0,g0⟩,⟨a1,b1,c1',d1,e1,f1,g1⟩,cap,rs,bl,wt⟩:=x
 simp only [Wi.obj,Wi.cells,En.cells,zS,zU] at hN
 refine jak (aT hcl ?_)
 refine qm ?_
 refine Run.unroll (n:=99999) rfl ?_
 refine qm ?_
 refine Ops.opqh fun H1 hH1=>?_
 have n1:H1.nx=h.nx:=by rw [hH1];rfl
 have k1 : ∀ j,j≠N->H1.get j=h.get j:=by intro j hj;rw [hH1,jaa hj,jaa hj]
 have q1:H1.get N=some (.cells [.i 1,.i i0,En.ptr c0 r0,.bool d0,.bool e0,.int .u64 f0,.int .u64 g0,.i a1,.i b1,En.ptr c1' r1,.bool d1,.bool e1,.int .u64 f1,.int .u64 g1,.bool rs,.i bl,wv] false):=by rw [hH1];exact jab _
 clear hH1
 have hw1:H1.get w=some (.cells (wc f (.slice av l.length cp) s now no) false):=by rw [k1 w hwN,hw]
 have e3:jay (wc f (.slice av l.length cp) s now no) (0+0+(i0:Int).toNat*3) [.bool true,.i (l.length:Int),.i 0]=wc (fun j=>if j=i0 then some (l.length,0) else f j) (.slice av l.length cp) s now no:=jh0 (p:=some (l.length,0)) hi om fun j _=>rfl
 have hlen:0+0+(i0:Int).toNat*3+3<=(wc f (.slice av l.length cp) s now no).length:=by rw [jbV];omega
 refine zct (vs:=[.bool true,.i (l.length:Int),.i 0]) rfl rfl rfl rfl hw1 hlen ?_
 rw [e3]
 clear e3 hlen
 refine qm ?_
 refine End.opqh fun H2 hH2=>?_
 have n2:H2.nx=h.nx:=by rw [hH2];exact n1
 have k2 : ∀ j,j≠N->j≠w->H2.get j=h.get j:=by intro j hj hj2;rw [hH2,jaa hj2,k1 j hj]
 have q2:H2.get N=some (.cells [.i 1,.i i0,En.ptr c0 r0,.bool d0,.bool e0,.int .u64 f0,.int .u64 g0,.i a1,.i b1,En.ptr c1' r1,.bool d1,.bool e1,.int .u64 f1,.int .u64 g1,.bool rs,.i bl,wv] false):=by rw [hH2,jaa hNw,q1]
 have hw2:H2.get w=some (.cells (wc (fun j=>if j=i0 then some (l.length,0) else f j) (.slice av l.length cp) s now no) false):=by rw [hH2,jab]
 clear hH2 hw1 q1 k1
 generalize hg:(fun j=>if j=i0 then some (l.length,0) else f j)=g at hw2 ⊢
 have c2:(wc g (.slice av l.length cp) s now no)[0+288]?=some (.slice av l.length cp):=jaO rfl
 refine End.unroll ?_
 refine qx ?_
 have hzN : ∀ z,(V.slice av l.length cp).at?=some z->z≠N/\z≠w:=fun z e=>⟨fun e2=>by have:=hz z e;rw [e2,hN0] at this;omega,fun e2=>by have:=hz z e;rw [e2,a.tw] at this;omega⟩
 have row2:Row 0 H2 1 (.slice av l.length cp) l.length (wps l):=row.keep om fun z e=>k2 z (hzN z e).1 (hzN z e).2
 refine Ops.push (N:=0) (new:=[.p N 0]) rfl rfl rfl rfl om rfl rfl row2 (zW _) om om fun v' H3 row3 hx3 hz3 hk3=>?_
 have k3 : ∀ j,j<h.nx->ow j≠2->H3.get j=H2.get j:=fun j hj ho=>hk3 j om fun e=>ho (hz j e)
 have hw3:H3.get w=some (.cells (wc g (.slice av l.length cp) s now no) false):=by rw [k3 w a.lw (by rw [a.tw];omega),hw2]
 have q3:H3.get N=some (.cells [.i 1,.i i0,En.ptr c0 r0,.bool d0,.bool e0,.int .u64 f0,.int .u64 g0,.i a1,.i b1,En.ptr c1' r1,.bool d1,.bool e1,.int .u64 f1,.int .u64 g1,.bool rs,.i bl,wv] false):=by rw [k3 N hNl om,q2]
 have hlen:0+288<(wc g (.slice av l.length cp) s now no).length:=by rw [jbV];omega
 have hone:=row3.one
 refine qx ?_
 refine zcs rfl rfl hone hw3 hlen ?_
 rw [jey rfl]
 refine qx ?_
 have hzw : ∀ z,v'.at?=some z->z≠w:=fun z e=>by have:=hz3 z e;have:=a.lw;omega
 refine ⟨rfl,by rw [jaa hNw,q3];rfl,⟨v',?_⟩,fun j hj h1 h2 h3=>by rw [jaa h2,k3 j hj h3,k2 j h1 h2],by show h.nx<=H3.nx;omega⟩
 rcases id row3 with ⟨h0,_⟩ | ⟨z,_,z1,rfl,_,_⟩
 ·omega
 ·refine ⟨z,jab _,row3.keep (zp _) fun y e=>jaa (hzw y e),fun y e=>by cases e;rfl,by have:=hz3 z rfl;omega,z1⟩
end
theorem tab_push1 {ws:Ws} {x:Wi} {i0 j:Nat} (u:Uniq (ws++[x])) (w0:x.e0.what=1) (f0:x.e0.fd=i0) (w1:x.e1.what≠1):(if j=i0 then some (ws.length,0) else atS ws (j:Int))=atS (ws++[x]) (j:Int):=by
 have hL:(ws++[x])[ws.length]?=some x:=by simp
 by_cases e:j=i0
 ·subst e
  rw [zC rfl,jhj u (n:=ws.length) (k:=0) ⟨x,hL,.inl rfl,w0,f0⟩]
 ·rw [zz e]
  refine jkD fun n k=>⟨fun h=>?_,fun h=>?_⟩
  ·obtain ⟨y,hy,r⟩:=h
   exact ⟨y,jdF hy,r⟩
  ·rcases jdj h with h | ⟨_,hk,h1,h2⟩
   ·exact h
   ·rcases hk with rfl | rfl
    ·have h2:x.e0.fd=(j:Int):=h2
     omega
    ·exact zI h1 w1
theorem WW.newWire {h0 h2 h':H} {w s m r0 r1:Nat} {ow:Nat->Nat} {g:Nat->Option (Nat × Nat)} {l:List WX} {x:Wi} {now:Int} {tb:Tb} {no:Option (Nat × Nat)} (a:WW h0 w s ow l now tb no) (o1:Old h0 h2) (hm:m=1\/m=5) (hN:h0.nx+m<=h2.nx)
  (h01:m=5->r0=h0.nx+2/\r1=h0.nx+4) (p:Opened h2 h' w s h0.nx ow g l now no (x.obj r0 r1 .nils)) (hwt:x.waiting=[]) (hg : ∀ j,j<96->g j=atS (wxs l++[x]) (j:Int)) (hfd : ∀ k,k=0\/k=1->(x.e k).what=1->0<=(x.e k).fd/\(x.e k).fd<=95)
  (hr : ∀ k,k=0\/k=1 -> ∀ q,(x.e k).ring=some q->m=5/\jaw h2 (two r0 r1 k) (two (h0.nx+1) (h0.nx+3) k) q x.cap) :
  ∃ ow',WSt h' w s ow' (wxs l++[x]) now tb no/\To h0 h' ow ow':=by
 obtain ⟨wv,z,p1,p2,p3,p4,p5⟩:=p.hw
 have a2:=a.wf.old o1
 have lw:=a.wf.lw
 have h00 : ∀ j,h0.nx<=j->ow j=0:=a.wf.top
 have keep : ∀ j,h0.nx<j->j<h0.nx+m->h'.get j=h2.get j:=fun j j1 j2=>p.hk j om om om (by rw [h00 j om];omega)
 have F:=a2.push (t:=⟨x,h0.nx,r0,h0.nx+1,r1,h0.nx+3,.nils⟩) (m:=m) (z:=z) (N:=h0.nx) hm hN (fun j j1 _=>h00 j j1) p4 p5
  (fun j j1 j2 j3=>p.hk j (a2.lt_of j1) (fun e=>j1 (by rw [e];exact h00 _ (zp _))) j3 j2) p1 p2 p3 rfl (fun e=>⟨rfl,(h01 e).1,rfl,(h01 e).2⟩) p.ho hwt rfl
  (fun k hk q hq=>by
   obtain ⟨e5,R⟩:=hr k hk q hq
   obtain ⟨e0,e1⟩:=h01 e5
   refine ⟨e5,?_⟩
   subst e0 e1
   rcases hk with rfl | rfl
   ·exact R.keep (keep _ (by show h0.nx<h0.nx+2;omega) (by show h0.nx+2<_;omega)) (keep _ (by show h0.nx<h0.nx+1;omega) (by show h0.nx+1<_;omega))
   ·exact R.keep (keep _ (by show h0.nx<h0.nx+4;omega) (by show h0.nx+4<_;omega)) (keep _ (by show h0.nx<h0.nx+3;omega) (by show h0.nx+3<_;omega)))
 have ez:wxs (l++[(⟨x,h0.nx,r0,h0.nx+1,r1,h0.nx+3,.nils⟩:WX)])=wxs l++[x]:=by simp
 refine ⟨_,⟨_,⟨F.congr fun j hj=>by rw [ez];exact (hg j hj).symm,fun n k fd hf=>?_⟩,ez⟩,⟨⟨zx o1.1 p.nx,fun j hj ho=>?_⟩,fun j hj=>?_⟩⟩
 ·rw [ez] at hf
  rcases jdj hf with hf | ⟨_,hk,q1,q2⟩
  ·exact a.fds n k fd hf
  ·rw [<- q2];exact hfd k hk q1
 ·have ho:ow j=0:=Classical.not_not.1 ho
  rw [p.hk j (zq hj o1.1) om (fun e=>by rw [e,a.wf.tw] at ho;omega) om,o1.2 j hj]
 ·exact jeh (.inl hj) (by have:=o1.1;omega)
section
variable {cl:Nat->Call} (hcl:Sem cl) {h:H} {w s:Nat} {ow:Nat->Nat} {l:List WX} {now:Int} {tb:Tb} {no:Option (Nat × Nat)}
include hcl
theorem jhp {d:Nat} {n:Int} (hd:1<=d):cl d (.fn 40) [.i n] h=some (.bool (decide (1<=n/\n<=65536)),h):=by
 refine jao (aT hcl ?_)
 by_cases h1:1<=n
 ·by_cases h2:n<=65536
  ·refine qx ?_
   exact ⟨by rw [zF (show 1<=n/\n<=65536 from ⟨h1,h2⟩)];simp [h2],rfl⟩
  ·refine qx ?_
   exact ⟨by rw [zD (show ¬ (1<=n/\n<=65536) from fun e=>h2 e.2)];simp [h2],rfl⟩
 ·refine qx ?_
  exact ⟨by rw [zD (show ¬ (1<=n/\n<=65536) from fun e=>h1 e.1)],rfl⟩
theorem ji8 {d k N:Nat} {n:Int} (hd:3<=d) (a:WW h w s ow l now tb no) (hn:n<1\/65536<n):cl d (.fn 20) [.p w 0,.i n,.i (k:Int),.p N 0] h=some (.tup [.nils,.i 2],h):=by
 have h1:=jbU hcl (d:=d-1) om a.wf
 have h2:=jhp hcl (h:=h) (d:=d-1) (n:=n) om
 rw [zD om] at h2
 clear hn
 refine jao (aT hcl ?_)
 refine qx ?_
 exact ⟨rfl,rfl⟩
theorem jho {d k N:Nat} {n:Int} (hd:6<=d) (hk:k=1\/k=2) (a:WW h w s ow l now tb no) (ol:l.length<=1000) (hn1:1<=n) (hn2:n<=65536) (hb:((jar (wxs l) 96).take k).length≠k\/1000<=l.length) :
  ∃ h',cl d (.fn 20) [.p w 0,.i n,.i (k:Int),.p N 0] h=some (.tup [.nils,.i 112],h')/\Old h h':=by
 have h1:=jbU hcl (d:=d-1) om a.wf
 have h2:=jhp hcl (h:=h) (d:=d-1) (n:=n) om
 rw [zF om] at h2
 obtain ⟨v,g,e,p1,p2,old⟩:=jfX hcl (d:=d-1) (k:=k) om hk a ol
 have eb:(decide (((jar (wxs l) 96).take k).length=k)&&decide (l.length<1000))=false:=by
  rcases hb with hb | hb
  ·rw [zD hb,Bool.false_and]
  ·rw [zD (show ¬ l.length<1000 by omega),Bool.and_false]
 rw [eb] at e
 clear hb eb hk
 refine jak (aT hcl ?_)
 refine qx ?_
 exact ⟨rfl,old⟩
theorem xp_make1 {d N i0:Nat} {n:Int} {x:Wi} {r0 r1:Nat} {wv:V} (hd:6<=d) (a:WW h w s ow l now tb no) (hn1:1<=n) (hn2:n<=65536) (hf:(jar (wxs l) 96).take 1=[(i0:Int)]) (hi:i0<96) (hl:l.length<1000)
  (hN:h.get N=some (x.obj r0 r1 wv)) (hN0:ow N=0) (hNl:N<h.nx) :
  ∃ v h2 h',cl d (.fn 20) [.p w 0,.i n,.i ((1:Nat):Int),.p N 0] h=some (.tup [v,.i 0],h')/\VI h' v [(i0:Int)]/\Old h h2/\Opened h2 h' w s N ow (fun j=>if j=i0 then some (l.length,0) else atS (wxs l) (j:Int)) l now no ((x.name 0 i0).obj r0 r1 wv):=by
 have h1:=jbU hcl (d:=d-1) om a.wf
 have h2:=jhp hcl (h:=h) (d:=d-1) (n:=n) om
 rw [zF om] at h2
 obtain ⟨v,g,e,p1,p2,old⟩:=jfX hcl (d:=d-1) (k:=1) om (.inl rfl) a om
 rw [hf] at e p1
 rw [zF (show [(i0:Int)].length=1 from rfl),zF hl] at e
 have ag:=a.wf.old old
 obtain ⟨g2,e2,op⟩:=xp_open1 hcl (d:=d-1) (N:=N) (i0:=i0) (vf:=v) (wv:=wv) (x:=x) (r0:=r0) (r1:=r1) om ag (by rw [old.2 N hNl,hN]) hN0 (zq hNl old.1) hl p1 (fun z hz=>⟨a.wf.top z (p2 z hz).1,by have:=p2 z hz;omega⟩) hi
 suffices q : ∃ v2 h',cl d (.fn 20) [.p w 0,.i n,.i ((1:Nat):Int),.p N 0] h=some (v2,h')/\(v2 = .tup [v,.i 0]/\h'=g2) by
  obtain ⟨_,_,q,rfl,rfl⟩:=q
  refine ⟨v,g,_,q,p1.keep op.nx fun z hz=>?_,old,op⟩
  have:=p2 z hz
  have:=a.wf.lw
  exact op.hk z om om om (by rw [a.wf.top z om];omega)
 clear hf
 refine aT hcl ?_
 refine qx ?_
 exact ⟨rfl,rfl⟩
end
theorem freeL_two {ws:Ws} {f0:Int} {fs:List Int} (h:jar ws 96=f0 :: fs):(∃ i0:Nat,f0=i0/\i0<96) /\ ∀ f1 r,fs=f1 :: r -> ∃ i1:Nat,f1=i1/\i1<96/\f0≠f1:=by
 constructor
 ·obtain ⟨i,e,hi,_⟩:=jcX (ws:=ws) (n:=96) (f:=f0) (by rw [h];simp)
  exact ⟨i,e,hi⟩
 ·rintro f1 r rfl
  obtain ⟨i,e,hi,_⟩:=jcX (ws:=ws) (n:=96) (f:=f1) (by rw [h];simp)
  refine ⟨i,e,hi,fun e2=>?_⟩
  have nd:=jf9 ws 96
  rw [h,e2] at nd
  exact zI nd Zd
section
variable {cl:Nat->Call} (hcl:Sem cl) {h:H} {w s:Nat} {ow:Nat->Nat} {l:List WX} {now:Int} {tb:Tb} {no:Option (Nat × Nat)}
include hcl
theorem xp_mk1 {d m r0 r1:Nat} {kind n:Int} {x:Wi} {h1:H} (hd:6<=d) (hk:kind=2\/kind=3) (hn3:kind=3->n<=64) (K:WsK (wxs l)) (a:WW h w s ow l now tb no) (o1:Old h h1)
  (good:1<=n->n<=65536->(m=1\/m=5)/\(m=5->r0=h.nx+2/\r1=h.nx+4)/\h.nx+m<=h1.nx/\h1.get h.nx=some (x.obj r0 r1 .nils)/\x.waiting=[]/\(∀ i0:Nat,x.name 0 i0=newW kind n i0 0)/\(kind=2->m=5 /\ ∀ k,k=0\/k=1->jaw h1 (two (h.nx+2) (h.nx+4) k) (two (h.nx+1) (h.nx+3) k) [] n.toNat)) :
  ∃ v h' ow',cl d (.fn 20) [.p w 0,.i n,.i ((1:Nat):Int),.p h.nx 0] h1=some (.tup [v,.i (jaZ (wxs l) kind n).1.2],h')/\VI h' v (jaZ (wxs l) kind n).1.1/\WSt h' w s ow' (jaZ (wxs l) kind n).2 now tb no/\To h h' ow ow':=by
 have a1:=a.old o1
 have K':=jgV (kind:=kind) (n:=n) om K
 by_cases hn:n<1\/65536<n
 ·have e:jaZ (wxs l) kind n=(([],2),wxs l):=zC om
  rw [e]
  exact ⟨_,h1,ow,ji8 hcl om a1 hn,VI.nil h1,⟨l,a1,rfl⟩,To.of_old o1⟩
 have eS:jaZ (wxs l) kind n=_:=zz om
 have hlw:(wxs l).length=l.length:=by simp
 have ol:l.length<=1000:=by have:=K.ok.len;omega
 have many:((jar (wxs l) 96).take 1).length≠1\/1000<=l.length -> ∃ h',cl d (.fn 20) [.p w 0,.i n,.i ((1:Nat):Int),.p h.nx 0] h1=some (.tup [.nils,.i 112],h')/\Old h1 h':=fun hb=>jho hcl hd (.inl rfl) a1 ol om om hb
 cases hF:jar (wxs l) 96 with
 | nil=>
  simp only [hF] at eS;rw [eS]
  obtain ⟨h',e,o2⟩:=many (.inl (by rw [hF];simp))
  exact ⟨_,h',ow,e,VI.nil h',⟨l,a1.old o2,rfl⟩,To.of_old (o1.trans o2)⟩
 | cons f0 fs=>
  simp only [hF] at eS
  by_cases hbad:(fs=[]/\kind<2)\/1000<=(wxs l).length
  ·rw [zC hbad] at eS;rw [eS]
   obtain ⟨h',e,o2⟩:=many (hbad.imp (fun e=>by omega) fun e=>by omega)
   exact ⟨_,h',ow,e,VI.nil h',⟨l,a1.old o2,rfl⟩,To.of_old (o1.trans o2)⟩
  ·rw [zz hbad] at eS
   obtain ⟨⟨i0,rfl,l0⟩,_⟩:=freeL_two hF
   have eW : ∀ c:Int,newW kind n i0 c=newW kind n i0 0:=by
    intro c
    rcases hk with rfl | rfl<;>rfl
   have eS:jaZ (wxs l) kind n=(([(i0:Int)],0),wxs l++[newW kind n i0 0]):=by
    rw [eS,zz om,eW];rfl
   rw [eS] at K'
   obtain ⟨g0,g01,g1,g2,g3,g4,g5⟩:=good om om
   have hN0:=a.wf.top h.nx (zp _)
   obtain ⟨v,h2,h',e,p1,o2,op⟩:=xp_make1 hcl (N:=h.nx) (i0:=i0) hd a1 (n:=n) om om (by rw [hF];rfl) l0 om g2 hN0 om
   rw [g4] at op
   have hx0:(newW kind n i0 0).e0.what=1/\(newW kind n i0 0).e0.fd=i0/\(newW kind n i0 0).e1.what≠1/\(newW kind n i0 0).waiting=[]/\(newW kind n i0 0).cap=n.toNat/\(∀ q,(newW kind n i0 0).e0.ring=some q->q=[]/\kind=2) /\ ∀ q,(newW kind n i0 0).e1.ring=some q->q=[]/\kind=2:=by
    rcases hk with rfl | rfl
    ·exact ⟨rfl,rfl,by show (2:Int)≠1;omega,rfl,rfl,fun q hq=>by (have hq:some []=some q:=hq);cases hq;exact ⟨rfl,rfl⟩,fun q hq=>by (have hq:some []=some q:=hq);cases hq;exact ⟨rfl,rfl⟩⟩
    ·exact ⟨rfl,rfl,by show (0:Int)≠1;omega,rfl,rfl,fun q hq=>(by have hq:none=some q:=hq;cases hq),fun q hq=>(by have hq:none=some q:=hq;cases hq)⟩
   obtain ⟨z1,z2,z3,z5,z6,z7,z8⟩:=hx0
   generalize newW kind n i0 0=y at op eS z1 z2 z3 z5 z6 z7 z8 K'
   obtain ⟨ow',W,T⟩:=a.newWire (m:=m) (o1.trans o2) g0 (zx g1 o2.1) g01 op z5
    (fun j _=>by have:=tab_push1 (j:=j) K'.ok.uniq z1 z2 z3;rw [hlw] at this;exact this)
    (fun k hk' h1'=>by
     rcases hk' with rfl | rfl
     ·show 0<=y.e0.fd/\y.e0.fd<=95;omega
     ·exact zI h1' z3)
    (fun k hk' q hq=>by
     have eq:q=[]/\kind=2:=by
      rcases hk' with rfl | rfl
      ·exact z7 q hq
      ·exact z8 q hq
     obtain ⟨m5,R⟩:=g5 eq.2
     obtain ⟨e0,e1⟩:=g01 m5
     refine ⟨m5,?_⟩
     rw [eq.1,z6,e0,e1]
     refine (R k hk').keep (o2.2 _ ?_) (o2.2 _ ?_)<;>(rcases hk' with rfl | rfl<;>simp only [two]<;>omega))
   rw [eS]
   exact ⟨v,h',ow',e,p1,W,T⟩
end
end Am.Sigs
