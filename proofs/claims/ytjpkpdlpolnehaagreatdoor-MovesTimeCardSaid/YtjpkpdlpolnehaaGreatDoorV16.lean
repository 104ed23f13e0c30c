/- Our own library, part 16. -/
import Derived.Test.YtjpkpdlpolnehaaGreatDoorV15
set_option maxHeartbeats 8000000
set_option maxRecDepth 800
set_option linter.all false
namespace Am.Sigs
open Am Go
def pc:Option (Nat × Nat)->Nat->V
 | none,0=>.bool false
 | none,_=>.i 0
 | some _,0=>.bool true
 | some p,1=>.i (p.1:Int)
 | some p,_=>.i (p.2:Int)
def plc (p:Option (Nat × Nat)):List V:=[pc p 0,pc p 1,pc p 2]
def jcz (f:Nat->Option (Nat × Nat)):List V:=tab 288 fun j=>pc (f (j/3)) (j%3)
theorem jax (f:Nat->Option (Nat × Nat)):(jcz f).length=288:=by simp [jcz]
theorem jdR {f:Nat->Option (Nat × Nat)} {i j o:Nat} (hi:i<96) (hj:j<3) (ho:o=i*3+j):(jcz f)[o]?=some (pc (f i) j):=by
 subst ho
 unfold jcz
 rw [jdY om,show (i*3+j)/3=i by omega,show (i*3+j)%3=j by omega]
theorem fdTab_set {f g:Nat->Option (Nat × Nat)} {i o:Nat} {p:Option (Nat × Nat)} (hi:i<96) (ho:o=i*3) (hg : ∀ j,j<96->g j=if j=i then p else f j):jay (jcz f) o (plc p)=jcz g:=by
 subst ho
 show (((jcz f).set (i*3) (pc p 0)).set (i*3+1) (pc p 1)).set (i*3+1+1) (pc p 2)=_
 unfold jcz
 rw [jg1,jg1,jg1]
 refine jfg fun j hj=>?_
 rw [hg (j/3) om]
 by_cases h2:j=i*3+1+1
 ·subst h2
  rw [zC rfl,zC om,show (i*3+1+1)%3=2 by omega]
 rw [zz h2]
 by_cases h1:j=i*3+1
 ·subst h1
  rw [zC rfl,zC om,show (i*3+1)%3=1 by omega]
 rw [zz h1]
 by_cases h0:j=i*3
 ·subst h0
  rw [zC rfl,zC om,show (i*3)%3=0 by omega]
 rw [zz h0,zz om]
theorem jjg {f g:Nat->Option (Nat × Nat)} (h : ∀ j,j<96->f j=g j):jcz f=jcz g:=jfg fun j hj=>by rw [h (j/3) om]
def wc (f:Nat->Option (Nat × Nat)) (wv:V) (s:Nat) (now:Int) (no:Option (Nat × Nat)):List V:=jcz f++([wv,.p s 0,.int .u64 now]++plc no)
section
variable {f:Nat->Option (Nat × Nat)} {wv:V} {s o:Nat} {now:Int} {no:Option (Nat × Nat)}
theorem jbV:(wc f wv s now no).length=294:=by simp [wc,jax,plc]
theorem jm3 {i j:Nat} (hi:i<96) (hj:j<3) (ho:o=i*3+j):(wc f wv s now no)[o]?=some (pc (f i) j):=by
 unfold wc
 rw [ze,zC (by rw [jax];omega),jdR hi hj ho]
theorem jlQ {j:Nat} (ho:o=288+j):(wc f wv s now no)[o]?=([wv,.p s 0,.int .u64 now]++plc no)[j]?:=by
 subst ho
 unfold wc
 rw [ze,zz (by rw [jax];omega),jax,zZ]
theorem jaO (ho:o=288):(wc f wv s now no)[o]?=some wv:=jlQ (j:=0) ho
theorem jfe (ho:o=289):(wc f wv s now no)[o]?=some (.p s 0):=jlQ (j:=1) ho
theorem jkN (ho:o=290):(wc f wv s now no)[o]?=some (.int .u64 now):=jlQ (j:=2) ho
theorem jh1 {j:Nat} (hj:j<3) (ho:o=291+j):(wc f wv s now no)[o]?=some (pc no j):=by
 rw [jlQ (j:=3+j) om]
 rcases (by omega:j=0\/j=1\/j=2) with rfl | rfl | rfl<;>rfl
theorem jlZ {o:Nat} {j:Nat} {v:V} (ho:o=288+j):(wc f wv s now no).set o v=jcz f++(([wv,.p s 0,.int .u64 now]++plc no).set j v):=by
 subst ho
 unfold wc
 rw [List.set_append,zz (by rw [jax];omega),jax,zZ]
theorem jey {v:V} (ho:o=288):(wc f wv s now no).set o v=wc f v s now no:=by rw [jlZ (j:=0) ho];rfl
theorem jjT {n:Int} (ho:o=290):(wc f wv s now no).set o (.int .u64 n)=wc f wv s n no:=by rw [jlZ (j:=2) ho];rfl
theorem jeH {a b vs:List V} {o:Nat} (h:o+vs.length<=a.length):jay (a++b) o vs=jay a o vs++b:=by
 induction vs generalizing a o with
 | nil=>rfl
 | cons v r ih=>
  have h':o+(r.length+1)<=a.length:=h
  rw [jfm,jfm,List.set_append,zC om,ih Zc]
theorem jh0 {g:Nat->Option (Nat × Nat)} {i:Nat} {p:Option (Nat × Nat)} (hi:i<96) (ho:o=i*3) (hg : ∀ j,j<96->g j=if j=i then p else f j):jay (wc f wv s now no) o (plc p)=wc g wv s now no:=by
 unfold wc
 rw [jeH (by rw [jax];show o+3<=_;omega),fdTab_set hi ho hg]
end
structure WX where
 x:Wi
 wb:Nat
 r0:Nat
 b0:Nat
 r1:Nat
 b1:Nat
 wv:V
def WX.r (t:WX):Nat->Nat:=two t.r0 t.r1
def WX.b (t:WX):Nat->Nat:=two t.b0 t.b1
theorem VI.keep2 {h h':H} {v:V} {l:List Int} (a:VI h v l) (hx:h.nx<=h'.nx) (hk:l≠[] -> ∀ z,v.at?=some z->h'.get z=h.get z):VI h' v l:=by
 obtain ⟨a,c,rfl,n,f,g⟩:=a
 refine ⟨a,c,rfl,n,f,fun hl=>?_⟩
 obtain ⟨b,o,cs,ro,rfl,h1,h2,h3⟩:=g hl
 exact ⟨b,o,cs,ro,rfl,by omega,by rw [hk hl b rfl,h2],h3⟩
structure XOk (h:H) (ow:Nat->Nat) (n:Nat) (t:WX):Prop where
 hx:h.get t.wb=some (t.x.obj t.r0 t.r1 t.wv)
 ox:ow t.wb=10*n+10
 lx:t.wb<h.nx
 ring : ∀ k,k=0\/k=1 -> ∀ q,(t.x.e k).ring=some q->jaw h (t.r k) (t.b k) q t.x.cap/\ow (t.r k)=10*n+11+2*k/\ow (t.b k)=10*n+12+2*k/\t.r k<h.nx/\t.b k<h.nx
 wait:VI h t.wv t.x.waiting/\(t.x.waiting≠[] -> ∀ z,t.wv.at?=some z->ow z=10*n+15/\z<h.nx)
theorem XOk.keep {h h':H} {ow:Nat->Nat} {n:Nat} {t:WX} (a:XOk h ow n t) (hx:h.nx<=h'.nx) (hk : ∀ j,10*n+10<=ow j->ow j<=10*n+19->h'.get j=h.get j):XOk h' ow n t:=by
 refine ⟨by rw [hk _ (by rw [a.ox];omega) (by rw [a.ox];omega),a.hx],a.ox,zq a.lx hx,fun k h01 q hq=>?_,?_⟩
 ·obtain ⟨p1,p2,p3,p4,p5⟩:=a.ring k h01 q hq
  refine ⟨p1.keep (hk _ ?_ ?_) (hk _ ?_ ?_),p2,p3,zq p4 hx,zq p5 hx⟩<;>omega
 ·refine ⟨a.wait.1.keep2 hx fun hl z hz=>?_,fun hl z hz=>⟨(a.wait.2 hl z hz).1,zq (a.wait.2 hl z hz).2 hx⟩⟩
  have:=(a.wait.2 hl z hz).1
  exact hk z om om
theorem XOk.tag {h:H} {ow ow':Nat->Nat} {n:Nat} {t:WX} (a:XOk h ow n t) (hk : ∀ j,j<h.nx->ow' j=ow j):XOk h ow' n t:=by
 refine ⟨a.hx,by rw [hk _ a.lx,a.ox],a.lx,fun k h01 q hq=>?_,a.wait.1,fun hl z hz=>?_⟩
 ·obtain ⟨p1,p2,p3,p4,p5⟩:=a.ring k h01 q hq
  exact ⟨p1,by rw [hk _ p4,p2],by rw [hk _ p5,p3],p4,p5⟩
 ·obtain ⟨p1,p2⟩:=a.wait.2 hl z hz
  exact ⟨by rw [hk _ p2,p1],p2⟩
abbrev wxs (l:List WX):Ws:=l.map WX.x
abbrev wps (l:List WX):List V:=l.map fun t=>.p t.wb 0
structure WF (h:H) (w s:Nat) (ow:Nat->Nat) (f:Nat->Option (Nat × Nat)) (l:List WX) (now:Int) (t:Tb) (no:Option (Nat × Nat)):Prop where
 hw : ∃ wv,h.get w=some (.cells (wc f wv s now no) false)/\Row 0 h 1 wv l.length (wps l) /\ ∀ z,wv.at?=some z->ow z=2
 hs:h.get s=some t.obj
 tw:ow w=1
 ts:ow s=3
 lw:w<h.nx
 ls:s<h.nx
 top : ∀ j,h.nx<=j->ow j=0
 ok : ∀ n t,l[n]?=some t->XOk h ow n t
section
variable {h h':H} {w s:Nat} {ow:Nat->Nat} {f:Nat->Option (Nat × Nat)} {l:List WX} {now:Int} {t tb:Tb} {no:Option (Nat × Nat)}
theorem WF.keep (a:WF h w s ow f l now t no) (hx:h.nx<=h'.nx) (hk : ∀ j,ow j≠0->h'.get j=h.get j):WF h' w s ow f l now t no:=by
 obtain ⟨wv,p1,p2,p3⟩:=a.hw
 exact ⟨⟨wv,by rw [hk w (by rw [a.tw];omega),p1],p2.keep hx fun z hz=>hk z (by rw [p3 z hz];omega),p3⟩,by rw [hk s (by rw [a.ts];omega),a.hs],a.tw,a.ts,zq a.lw hx,zq a.ls hx,
  fun j hj=>a.top j (zx hx hj),fun n t ht=>(a.ok n t ht).keep hx fun j h1 _=>hk j om⟩
theorem WF.lt_of (a:WF h w s ow f l now t no) {j:Nat} (hj:ow j≠0):j<h.nx:=by
 rcases zu j h.nx with h1 | h1
 ·exact h1
 ·exact zI (a.top j h1) hj
theorem WF.old (a:WF h w s ow f l now t no) (o:Old h h'):WF h' w s ow f l now t no:=a.keep o.1 fun j hj=>o.2 j (a.lt_of hj)
theorem WF.congr {g:Nat->Option (Nat × Nat)} (a:WF h w s ow f l now t no) (e : ∀ j,j<96->g j=f j):WF h w s ow g l now t no:=by
 obtain ⟨wv,p1,p2,p3⟩:=a.hw
 refine ⟨⟨wv,?_,p2,p3⟩,a.hs,a.tw,a.ts,a.lw,a.ls,a.top,a.ok⟩
 rw [p1];unfold wc;rw [jjg e]
theorem WF.head (a:WF h w s ow f l now t no) : ∃ sa c,h.get w=some (.cells (wc f (.slice sa l.length c) s now no) false)/\(l≠[] -> ∃ z,sa=some (z,0)/\z<h.nx/\ow z=2/\h.get z=some (.cells (wps l) false)):=by
 obtain ⟨wv,p1,p2,p3⟩:=a.hw
 rcases p2 with ⟨h1,h2,rfl⟩ | ⟨z,h1,h2,rfl,h4,h5⟩
 ·refine ⟨none,.fix 0,by rw [p1,h1],fun hl=>zI (zm.1 h1) hl⟩
 ·exact ⟨_,_,p1,fun _=>⟨z,rfl,h2,p3 z rfl,h4⟩⟩
end
theorem jaq {l:List WX} {n:Nat} {t:WX} (h:l[n]?=some t):(wxs l)[n]?=some t.x:=by simp [h]
theorem jha {l:List WX} {n:Nat} {x:Wi} (h:(wxs l)[n]?=some x) : ∃ t,l[n]?=some t/\t.x=x:=by
 rw [List.getElem?_map] at h
 cases hr:l[n]? with
 | none=>rw [hr] at h;cases h
 | some r=>rw [hr] at h;cases h;exact ⟨r,rfl,rfl⟩
theorem x_lt {l:List WX} {n:Nat} {t:WX} (hr:l[n]?=some t):n<l.length:=by
 rcases zu n l.length with h | h
 ·exact h
 ·rw [zd h] at hr;cases hr
theorem set_wps {l:List WX} {n:Nat} {t t':WX} (ht:l[n]?=some t) (hb:t'.wb=t.wb):wps (l.set n t')=wps l:=by
 apply zR
 intro i
 rw [List.getElem?_map,List.getElem?_map,zh]
 by_cases e:n=i
 ·subst e;rw [zC rfl,zC (x_lt ht),ht];simp [hb]
 ·rw [zz e]
theorem jbP {l:List WX} {n:Nat} {t:WX} : wxs (l.set n t)=(wxs l).set n t.x:=List.map_set
section
variable {h h':H} {w s:Nat} {ow:Nat->Nat} {f:Nat->Option (Nat × Nat)} {l:List WX} {now:Int} {tb:Tb} {no:Option (Nat × Nat)}
theorem WF.turn (a:WF h w s ow f l now tb no) {n:Nat} {t t':WX} (ht:l[n]?=some t) (hx:h.nx<=h'.nx) (hk : ∀ j,ow j≠0 -> ¬ (10*n+10<=ow j/\ow j<=10*n+19)->h'.get j=h.get j) (ok:XOk h' ow n t') (hb:t'.wb=t.wb):WF h' w s ow f (l.set n t') now tb no:=by
 obtain ⟨wv,p1,p2,p3⟩:=a.hw
 refine ⟨⟨wv,by rw [hk w (by rw [a.tw];omega) (by rw [a.tw];omega),p1],?_,p3⟩,by rw [hk s (by rw [a.ts];omega) (by rw [a.ts];omega),a.hs],a.tw,a.ts,zq a.lw hx,zq a.ls hx,fun j hj=>a.top j (zx hx hj),fun m t2 ht2=>?_⟩
 ·rw [List.length_set,set_wps ht hb]
  exact p2.keep hx fun z hz=>hk z (by rw [p3 z hz];omega) (by rw [p3 z hz];omega)
 ·rw [zh] at ht2
  by_cases e:n=m
  ·subst e
   rw [zC rfl,zC (x_lt ht)] at ht2
   cases ht2
   exact ok
  ·rw [zz e] at ht2
   exact (a.ok m t2 ht2).keep hx fun j h1 h2=>hk j om om
theorem WF.step (a:WF h w s ow f l now tb no) {n:Nat} {t:WX} {x':Wi} {B:Nat->Prop} (ht:l[n]?=some t) (ch:Ch B h h') (hB : ∀ j,j<h.nx->B j->10*n+10<=ow j/\ow j<=10*n+14) (ho:h'.get t.wb=some (x'.obj t.r0 t.r1 t.wv)) (hwt:x'.waiting=t.x.waiting)
  (hr : ∀ k,k=0\/k=1 -> ∀ q',(x'.e k).ring=some q' -> ∃ q,(t.x.e k).ring=some q/\jaw h' (t.r k) (t.b k) q' x'.cap):WF h' w s ow f (l.set n { t with x:=x' }) now tb no:=by
 have k:=a.ok n t ht
 have hg : ∀ j,ow j≠0 -> ¬ (10*n+10<=ow j/\ow j<=10*n+14)->h'.get j=h.get j:=fun j hj hn=>ch.get j (a.lt_of hj) fun hb=>hn (hB j (a.lt_of hj) hb)
 refine a.turn ht ch.nx (fun j hj hn=>hg j hj fun ⟨e1,e2⟩=>hn ⟨e1,by omega⟩) ⟨ho,k.ox,zq k.lx ch.nx,fun i hi q' hq'=>?_,?_⟩ rfl
 ·obtain ⟨q,e1,e2⟩:=hr i hi q' hq'
  obtain ⟨_,p2,p3,p4,p5⟩:=k.ring i hi q e1
  exact ⟨e2,p2,p3,zq p4 ch.nx,zq p5 ch.nx⟩
 ·show VI h' t.wv x'.waiting/\(x'.waiting≠[]->_)
  rw [hwt]
  refine ⟨k.wait.1.keep2 ch.nx fun hl z hz=>?_,fun hl z hz=>⟨(k.wait.2 hl z hz).1,zq (k.wait.2 hl z hz).2 ch.nx⟩⟩
  have:=(k.wait.2 hl z hz).1
  exact hg z om om
theorem WF.upd (a:WF h w s ow f l now tb no) {n:Nat} {t:WX} {x':Wi} (ht:l[n]?=some t) (u:Upd t.wb (x'.obj t.r0 t.r1 t.wv) h h') (hwt:x'.waiting=t.x.waiting) (hc:x'.cap=t.x.cap) (hr : ∀ k,k=0\/k=1->(x'.e k).ring=(t.x.e k).ring):WF h' w s ow f (l.set n { t with x:=x' }) now tb no:=by
 have k:=a.ok n t ht
 refine a.step ht (u.ch (B:=fun j=>j=t.wb) rfl) (fun j _ e=>by rw [e,k.ox];omega) u.self hwt fun i hi q' hq'=>?_
 rw [hr i hi] at hq'
 obtain ⟨p1,p2,p3,p4,p5⟩:=k.ring i hi q' hq'
 have k2:=k.ox
 refine ⟨q',hq',?_⟩
 rw [hc]
 refine p1.keep (u.get _ fun e=>?_) (u.get _ fun e=>?_)
 ·rw [e] at p2;omega
 ·rw [e] at p3;omega
end
structure WW (h:H) (w s:Nat) (ow:Nat->Nat) (l:List WX) (now:Int) (t:Tb) (no:Option (Nat × Nat)):Prop where
 wf:WF h w s ow (fun i=>atS (wxs l) (i:Int)) l now t no
 fds : ∀ n k fd,AtW (wxs l) n k fd->0<=fd/\fd<=95
def Wi.SameFd (x y:Wi):Prop := ∀ k,k=0\/k=1->((y.e k).what=1↔(x.e k).what=1)/\((x.e k).what=1->(y.e k).fd=(x.e k).fd)
theorem Wi.SameFd.refl (x:Wi):x.SameFd x:=fun _ _=>⟨Iff.rfl,fun _=>rfl⟩
theorem Wi.SameFd.trans {x y z:Wi} (a:x.SameFd y) (b:y.SameFd z):x.SameFd z:=fun k hk=>⟨(b k hk).1.trans (a k hk).1,fun h=>by rw [(b k hk).2 ((a k hk).1.2 h),(a k hk).2 h]⟩
theorem jlP {ws:Ws} {n:Nat} {x y:Wi} (hx:ws[n]?=some x) (hs:x.SameFd y) (m k:Nat) (fd:Int):AtW (ws.set n y) m k fd↔AtW ws m k fd:=by
 unfold AtW
 rw [zh]
 by_cases e:n=m
 ·subst e
  have hlt:n<ws.length:=by
   rcases zu n ws.length with h | h
   ·exact h
   ·rw [zd h] at hx;cases hx
  rw [zC rfl,zC hlt,hx]
  constructor
  ·rintro ⟨_,e0,hk,h1,h2⟩;cases e0;exact ⟨x,rfl,hk,(hs k hk).1.1 h1,by rw [<- (hs k hk).2 ((hs k hk).1.1 h1),h2]⟩
  ·rintro ⟨_,e0,hk,h1,h2⟩;cases e0;exact ⟨y,rfl,hk,(hs k hk).1.2 h1,by rw [(hs k hk).2 h1,h2]⟩
 ·rw [zz e]
theorem ji4 {ws ws':Ws} (h : ∀ n k fd,AtW ws' n k fd↔AtW ws n k fd) (fd:Int):atS ws' fd=atS ws fd:=by
 have e:AtW ws'=AtW ws:=by funext n k fd;exact propext (h n k fd)
 unfold atS
 rw [e]
section
variable {h h':H} {w s:Nat} {ow:Nat->Nat} {l:List WX} {now:Int} {t:Tb} {no:Option (Nat × Nat)}
theorem WW.old (a:WW h w s ow l now t no) (o:Old h h'):WW h' w s ow l now t no:=⟨a.wf.old o,a.fds⟩
theorem WF.same {n:Nat} {x:Wi} {y:WX} (a:WF h' w s ow (fun i=>atS (wxs l) (i:Int)) (l.set n y) now t no) (fds : ∀ n k fd,AtW (wxs l) n k fd->0<=fd/\fd<=95) (hx:(wxs l)[n]?=some x) (hs:x.SameFd y.x):WW h' w s ow (l.set n y) now t no:=by
 have hat:=jlP hx hs
 refine ⟨a.congr fun j _=>by rw [jbP,ji4 hat],fun m k fd hm=>fds m k fd ?_⟩
 rw [jbP] at hm
 exact (hat m k fd).1 hm
end
def WSt (h:H) (w s:Nat) (ow:Nat->Nat) (ws:Ws) (now:Int) (t:Tb) (no:Option (Nat × Nat)):Prop := ∃ l,WW h w s ow l now t no/\wxs l=ws
structure To (h h':H) (ow ow':Nat->Nat):Prop where
 ch:Ch (fun j=>ow j≠0) h h'
 tag : ∀ j,j<h.nx->ow' j=ow j
theorem To.refl (h:H) (ow:Nat->Nat):To h h ow ow:=⟨Ch.refl _ _,fun _ _=>rfl⟩
theorem To.trans {h h1 h2:H} {a b c:Nat->Nat} (x:To h h1 a b) (y:To h1 h2 b c):To h h2 a c :=
 ⟨x.ch.trans_new y.ch fun j hj hb=>by rw [x.tag j hj] at hb;exact hb,fun j hj=>by rw [y.tag j (zq hj x.ch.nx),x.tag j hj]⟩
theorem To.old {h h1 h2:H} {a b:Nat->Nat} (x:Old h h1) (y:To h1 h2 a b):To h h2 a b:=To.trans ⟨x.ch,fun _ _=>rfl⟩ y
theorem To.of_old {h h1:H} {a:Nat->Nat} (x:Old h h1):To h h1 a a:=⟨x.ch,fun _ _=>rfl⟩
theorem WSt.old {h h':H} {w s:Nat} {ow:Nat->Nat} {ws:Ws} {now:Int} {t:Tb} {no:Option (Nat × Nat)} (a:WSt h w s ow ws now t no) (o:Old h h'):WSt h' w s ow ws now t no:=by
 obtain ⟨l,a,e⟩:=a;exact ⟨l,a.old o,e⟩
noncomputable def jfM (ws:Ws) (fd:Int):(Int × Int × Int) × Ws :=
 jbw ws fd ((0,0,110),ws) fun n _ x=>if x.backlog=0 then ((0,0,111),ws) else match x.waiting with
  | []=>((0,0,113),ws)
  | m :: rest=>match jar ws 96 with
   | []=>((0,0,112),ws)
   | f :: _=>match (ws.set n { x with waiting:=rest })[m.toNat]? with
    | none=>((0,0,112),ws)
    | some y=>((f,m,0),(ws.set n { x with waiting:=rest }).set m.toNat (y.put 0 { y.e 0 with what:=1,fd:=f }))
def RX.setw (r:RX) (v:V) (wt:List Int):RX := { r with x := { r.x with waiting:=wt },vw:=v }
theorem ROk.setw {h:H} {rw q:Nat} {r:RX} {v:V} {wt:List Int} (a:ROk h rw q r) (hv:VI h v wt) (hz : ∀ z,v.at?=some z->z≠q/\z≠rw/\z<h.nx):ROk h rw q (r.setw v wt) :=
 ⟨fun k hk=>by have:=a.b k hk;rcases hk with rfl | rfl<;>exact this,hv,hz⟩
section
variable {call:Call} {fuel base:Nat} {ops:List Ins} {keep:List Nat} {K:List Fr} {e:Env} {h:H} {Q:Post} {ix:Nat} {dst at_:Option Nat}
end
section
variable {cl:Nat->Call} (hcl:Sem cl)
include hcl
end
section
variable {call:Call} {fuel base:Nat} {ops:List Ins} {keep:List Nat} {K:List Fr} {e:Env} {h:H} {Q:Post} {ix:Nat} {dst:Option Nat}
theorem Ops.bslice1_at {sz b:Nat} {x:Opd} {xv:V} {zero new:List V} (hx:x.ev e=some xv) (hnew:xv.cells=new) (hl:new.length=sz) (hzl:zero.length=sz)
  (k:Ops call fuel base ops keep K (layv e dst (.slice (some (base+b,0)) 1 (.fix 1))) (h.set (base+b) (.cells new false)) Q) :
  Ops call fuel base (⟨ix,dst,.bslice sz 1 zero [(0,x)],none,some b,[]⟩ :: ops) keep K e h Q:=by
 have hf:ja4 zero [(0*sz,sz,xv)]=some new:=by
  have e1:(xv.cells.length == sz&&Nat.ble (0*sz+sz) zero.length)=true:=by simp [hnew,hl,hzl]
  simp only [ja4]
  rw [e1,cond_true,hnew,Nat.zero_mul,je0 _ _ om]
 refine Ops.make_at (ob := .cells new false) (mk:=fun b=>.slice (some (b,0)) 1 (.fix 1)) rfl ?_ k
 simp only [I.make,jaG,List.map,hx,hf]
end
theorem RW.row {h:H} {rw q:Nat} {l:List RX} {tl:List V} (w:RW h rw q l tl) : ∃ v,h.get rw=some (.cells (v :: tl) false)/\Row 0 h 20 v l.length (rows l)/\(∀ z,v.at?=some z->z=q)/\v.one=true:=by
 by_cases hl:l=[]
 ·subst hl;exact ⟨.nils,w.nil rfl,Row.nil _ _ _,fun z hz=>by (cases hz),rfl⟩
 ·have a:=w.at_ hl
  exact ⟨_,a.hw,.inr ⟨q,by omega,w.lq,rfl,a.hq,jiN l⟩,fun z hz=>by cases hz;rfl,rfl⟩
def RX.fresh (x:Wi):RX:=⟨x,.nils,.nils,.nils⟩
structure Fresh (x:Wi):Prop where
 r0:x.e0.ring.getD []=[]
 r1:x.e1.ring.getD []=[]
 wt:x.waiting=[]
theorem ROk.fresh {h:H} {rw q:Nat} {x:Wi} (f:Fresh x):ROk h rw q (RX.fresh x):=by
 refine ⟨fun k hk=>?_,by rw [show (RX.fresh x).x.waiting=[] from f.wt];exact VI.nil h,fun z hz=>by cases hz⟩
 rcases hk with rfl | rfl
 ·exact ⟨by rw [show ((RX.fresh x).x.e 0).ring.getD []=[] from f.r0];exact VB.nil h,fun z hz=>by cases hz⟩
 ·exact ⟨by rw [show ((RX.fresh x).x.e 1).ring.getD []=[] from f.r1];exact VB.nil h,fun z hz=>by cases hz⟩
theorem RW.push {h h1:H} {rw q q':Nat} {l:List RX} {tl:List V} {x:Wi} (w:RW h rw q l tl) (f:Fresh x) (hrow:h1.get q'=some (.cells (rows l++(RX.fresh x).cells) false)) (hn:h.nx<=q') (hx:q'<h1.nx)
  (hk : ∀ j,j<h.nx->j≠q->h1.get j=h.get j) :
  RW (h1.set rw (.cells (.slice (some (q',0)) (l.length+1) (.grow 20) :: tl) false)) rw q' (l++[RX.fresh x]) tl/\Ch (RC rw q) h (h1.set rw (.cells (.slice (some (q',0)) (l.length+1) (.grow 20) :: tl) false)):=by
 have lw:=w.lw
 have lq:=w.lq
 have ch:Ch (RC rw q) h (h1.set rw (.cells (.slice (some (q',0)) (l.length+1) (.grow 20) :: tl) false)) :=
  ⟨by show h.nx<=h1.nx;omega,fun j hj hn=>by rw [jaa (fun e=>hn (.inr e)),hk j hj (fun e=>hn (.inl e))]⟩
 refine ⟨⟨by show rw<h1.nx;omega,by show q'<h1.nx;omega,by omega,fun _=>⟨by rw [jab];simp,by rw [jaa om,hrow,jiO];simp [rows],by omega⟩,fun e=>by simp at e,fun s hs=>?_⟩,ch⟩
 rcases zM.1 hs with h2 | h2
 ·have a:=w.ok s h2
  have b:=a.keep ch
  refine ⟨fun k hk=>⟨(b.b k hk).1,fun z hz=>?_⟩,b.w.1,fun z hz=>?_⟩
  ·have p:=(a.b k hk).2 z hz
   exact ⟨by omega,p.2.1,by show z<h1.nx;omega⟩
  ·have p:=a.w.2 z hz
   exact ⟨by omega,p.2.1,by show z<h1.nx;omega⟩
 ·obtain rfl:s=RX.fresh x:=by simpa using h2
  exact ROk.fresh f
section
variable {cl:Nat->Call} (hcl:Sem cl)
include hcl
end
def newW (kind n f0 f1:Int):Wi :=
 if kind=0 then ⟨⟨1,f0,some [],false,false,0,0⟩,⟨1,f1,none,true,false,0,0⟩,n.toNat,false,0,[]⟩
 else if kind=1 then ⟨⟨1,f0,some [],true,false,0,0⟩,⟨1,f1,some [],true,false,0,0⟩,n.toNat,false,0,[]⟩
 else if kind=2 then ⟨⟨1,f0,some [],true,false,0,0⟩,⟨2,0,some [],true,false,0,0⟩,n.toNat,false,0,[]⟩
 else ⟨⟨1,f0,none,false,false,0,0⟩,⟨0,0,none,false,false,0,0⟩,n.toNat,false,n,[]⟩
noncomputable def jaZ (ws:Ws) (kind n:Int):(List Int × Int) × Ws :=
 if n<1\/65536<n\/(kind=3/\64<n) then (([],2),ws)
 else match jar ws 96 with
  | []=>(([],112),ws)
  | f0 :: fs=>if (fs=[]/\kind<2)\/1000<=ws.length then (([],112),ws)
   else (((f0 :: fs).take (if kind<2 then 2 else 1),0),ws++[newW kind n f0 (fs.headD 0)])
theorem Old.new {h h1:H} {o:Obj} (a:Old h h1):Old h (h1.new o):=a.trans ⟨by simp,fun _ hj=>jad hj⟩
theorem Old.set {h h1:H} {o:Obj} {b:Nat} (a:Old h h1) (hb:h.nx<=b):Old h (h1.set b o):=⟨a.1,fun j hj=>by rw [jaa om,a.2 j hj]⟩
theorem Run.opqh {call:Call} {fuel:Nat} {c:AC} {K:List Fr} {e:Env} {h:H} {Q:Post} (k : ∀ G,G=h->Run call fuel c K e G Q):Run call fuel c K e h Q:=k h rfl
section
variable {cl:Nat->Call} (hcl:Sem cl)
include hcl
end
theorem Old.ofCh {h h':H} (c:Ch (fun _=>False) h h'):Old h h':=⟨c.nx,fun j hj=>c.get j hj id⟩
theorem jdI {l:List WX} {n:Nat} {t:WX} (h:l[n]?=some t):l≠[]:=by rintro rfl;simp at h
theorem jc5 {l:List WX} {n:Nat} {t:WX} (h:l[n]?=some t):(wps l)[n]?=some (.p t.wb 0):=by simp [h]
section
variable {h h':H} {w s:Nat} {ow:Nat->Nat} {f:Nat->Option (Nat × Nat)} {l:List WX} {now:Int} {tb:Tb} {no:Option (Nat × Nat)}
theorem WF.wat (a:WF h w s ow f l now tb no) (hl:l≠[]) : ∃ z c,WAt h w (wc f (.slice (some (z,0)) l.length c) s now no) s z l.length c (wps l)/\z<h.nx/\ow z=2:=by
 obtain ⟨sa,c,p1,p2⟩:=a.head
 obtain ⟨z,rfl,p3,p4,p5⟩:=p2 hl
 exact ⟨z,c,⟨p1,jfe rfl,jaO rfl,p5⟩,p3,p4⟩
theorem WW.fdat (a:WW h w s ow l now tb no) (u:Uniq (wxs l)) {n k m:Nat} {t:WX} (hat:AtW (wxs l) n k (m:Int)) (ht:l[n]?=some t) {wv:V} : FdAt (wc (fun i=>atS (wxs l) (i:Int)) wv s now no) (wps l) l.length m n k t.wb:=by
 have hm:=a.fds n k m hat
 have e:=jhj u hat
 obtain ⟨_,_,hk⟩:=jms hat
 have c0 : ∀ j,j<3->(wc (fun i=>atS (wxs l) (i:Int)) wv s now no)[m*3+j]?=some (pc (some (n,k)) j):=fun j hj=>by
  rw [jm3 (i:=m) (j:=j) om hj rfl];show some (pc (atS (wxs l) (m:Int)) j)=_;rw [e]
 exact ⟨by omega,c0 0 om,c0 1 om,c0 2 om,x_lt ht,jc5 ht,hk⟩
end
section
variable {cl:Nat->Call} (hcl:Sem cl) {h:H} {w s:Nat} {ow:Nat->Nat} {f:Nat->Option (Nat × Nat)} {l:List WX} {now:Int} {tb:Tb} {no:Option (Nat × Nat)}
include hcl
theorem jbU {d:Nat} (hd:1<=d) (a:WF h w s ow f l now tb no):cl d (.fn 24) [.p w 0] h=some (.bool false,h):=by
 obtain ⟨sa,c,p1,_⟩:=a.head
 exact jiB hcl hd p1 (jfe rfl)
theorem jjR {d:Nat} {fd:Int} (hd:2<=d) (a:WW h w s ow l now tb no) (hno : ∀ n k,¬ AtW (wxs l) n k fd) :
  ∃ h',cl d (.fn 70) [.p w 0,.i fd] h=some (.tup [.agg [.bool false,.i 0,.i 0],.ptr none,.i 110],h')/\Old h h'/\h'.nx=h.nx+1:=by
 have o1:Old h (h.new (.cells [.bool false,.i 0,.i 0] false)):=(Zn h).new
 have hn:=jbU hcl (d:=d-1) om (a.wf.old o1)
 obtain ⟨sa,c,hw,_⟩:=(a.wf.old o1).head
 refine jak (aT hcl ?_)
 refine qo ?_
 refine zcu rfl rfl ?_
 by_cases h1:fd<0
 ·refine qx ?_
  refine zct rfl rfl rfl rfl (jac _) (zr rfl) ?_
  refine qx ?_
  refine zcf (resN rfl (jab _) (zr rfl) rfl) ?_
  exact ⟨rfl,o1.set om,rfl⟩
 by_cases h2:95<fd
 ·refine qx ?_
  refine zct rfl rfl rfl rfl (jac _) (zr rfl) ?_
  refine qx ?_
  refine zcf (resN rfl (jab _) (zr rfl) rfl) ?_
  exact ⟨rfl,o1.set om,rfl⟩
 obtain ⟨m,rfl⟩:=zw (by omega:0<=fd)
 have e:atS (wxs l) (m:Int)=none:=jhk hno
 have f2:(wc (fun i=>atS (wxs l) (i:Int)) (.slice sa l.length c) s now no)[0+0+(m:Int).toNat*3+0]?=some (.bool false):=by
  rw [jm3 (i:=m) (j:=0) om om om]
  show some (pc (atS (wxs l) (m:Int)) 0)=_;rw [e];rfl
 refine qx ?_
 refine zct rfl rfl rfl rfl (jac _) (zr rfl) ?_
 refine qx ?_
 refine zcf (resN rfl (jab _) (zr rfl) rfl) ?_
 exact ⟨rfl,o1.set om,rfl⟩
theorem ww_find {d:Nat} {fd:Int} (hd:2<=d) (a:WW h w s ow l now tb no) (u:Uniq (wxs l)) :
  ((∀ n k,¬ AtW (wxs l) n k fd) /\ ∃ h',cl d (.fn 70) [.p w 0,.i fd] h=some (.tup [.agg [.bool false,.i 0,.i 0],.ptr none,.i 110],h')/\Old h h'/\h'.nx=h.nx+1) \/
  ∃ (n k m:Nat) (t:WX),fd=m/\m<=95/\AtW (wxs l) n k fd/\l[n]?=some t/\(k=0\/k=1) /\ ∃ h',cl d (.fn 70) [.p w 0,.i fd] h=some (.tup [.agg [.bool true,.i (n:Int),.i (k:Int)],.p t.wb 0,.i 0],h')/\Old h h'/\h'.nx=h.nx+1:=by
 by_cases hex : ∃ p:Nat × Nat,AtW (wxs l) p.1 p.2 fd
 ·obtain ⟨⟨n,k⟩,hat⟩:=hex
  have hat:AtW (wxs l) n k fd:=hat
  have hm:=a.fds n k fd hat
  obtain ⟨m,rfl⟩:=zw hm.1
  obtain ⟨x,hx,hk⟩:=jms hat
  obtain ⟨t,ht,_⟩:=jha hx
  obtain ⟨z,c,A,lz,_⟩:=a.wf.wat (jdI ht)
  obtain ⟨h',e1,e2,e3⟩:=wp_find hcl hd A (a.fdat u hat ht) a.wf.lw lz
  exact .inr ⟨n,k,m,t,rfl,by omega,hat,ht,hk,h',e1,Old.ofCh e2,e3⟩
 ·have hno : ∀ n k,¬ AtW (wxs l) n k fd:=fun n k hat=>hex ⟨(n,k),hat⟩
  exact .inl ⟨hno,jjR hcl hd a hno⟩
theorem jd5 {d:Nat} {n:Int} (hd:2<=d) (a:WF h w s ow f l now tb no) :
  ((∀ x,¬ OutW (wxs l) n x)/\cl d (.fn 93) [.p w 0,.i n] h=some (.tup [.ptr none,.i 116],h)) \/
  ∃ (m:Nat) (t:WX),n=m/\l[m]?=some t/\t.x.e1.what=2/\cl d (.fn 93) [.p w 0,.i n] h=some (.tup [.p t.wb 0,.i 0],h):=by
 have hn:=jbU hcl (d:=d-1) om a
 obtain ⟨sa,c,hw,hz⟩:=a.head
 have f1:(wc f (.slice sa l.length c) s now no)[0+288]?=some (.slice sa l.length c):=jaO rfl
 by_cases h1:n<0
 ·refine .inl ⟨fun x hx=>by have:=hx.1;omega,jao (aT hcl ?_)⟩
  refine qx ?_
  exact ⟨rfl,rfl⟩
 by_cases h2:(l.length:Int)<=n
 ·refine .inl ⟨fun x hx=>?_,jao (aT hcl ?_)⟩
  ·have:=hx.2.1
   rw [zd Zc] at this;cases this
  refine qx ?_
  exact ⟨rfl,rfl⟩
 obtain ⟨m,rfl⟩:=zw (by omega:0<=n)
 have ht:l[m]?=some l[m]:=za om
 generalize l[m]=t at ht
 obtain ⟨z,rfl,lz,oz,hb⟩:=hz (jdI ht)
 have f2:(wps l)[0+(m:Int).toNat*1]?=some (.p t.wb 0):=by rw [show 0+(m:Int).toNat*1=m by omega];exact jc5 ht
 have f3:(t.x.cells t.r0 t.r1 t.wv)[0+0+(1:Int).toNat*7+0]?=some (.i t.x.e1.what):=Wi.what_cell (k:=1) (.inr rfl) rfl
 have hx:=(a.ok m t ht).hx
 unfold Wi.obj at hx
 by_cases h3:t.x.e1.what=2
 ·refine .inr ⟨m,t,rfl,ht,h3,jao (aT hcl ?_)⟩
  refine qx ?_
  exact ⟨rfl,rfl⟩
 ·refine .inl ⟨fun x hx=>?_,jao (aT hcl ?_)⟩
  ·have e:=hx.2.1
   rw [zt,jaq ht] at e
   cases e
   exact h3 hx.2.2
  refine qx ?_
  exact ⟨rfl,rfl⟩
end
section
variable {x:Wi} {k m:Nat} {q:List UInt8}
theorem Wi.take_self (hk:k=0\/k=1):((x.take k m q).e k).ring=some (q.drop m):=by
 rcases hk with rfl | rfl<;>simp [Wi.take,Wi.setq,Wi.came,Wi.put,Wi.e,En.came]
theorem Wi.take_other (hk:k=0\/k=1):((x.take k m q).e (1-k)).ring=(x.e (1-k)).ring:=by
 rcases hk with rfl | rfl<;>simp [Wi.take,Wi.setq,Wi.came,Wi.put,Wi.e,En.came]
theorem Wi.take_same (hk:k=0\/k=1):x.SameFd (x.take k m q):=by
 rintro i (rfl | rfl)<;>rcases hk with rfl | rfl<;>exact ⟨Iff.rfl,fun _=>rfl⟩
theorem Wi.take_wait (hk:k=0\/k=1):(x.take k m q).waiting=x.waiting:=by rcases hk with rfl | rfl<;>rfl
theorem Wi.take_cap (hk:k=0\/k=1):(x.take k m q).cap=x.cap:=by rcases hk with rfl | rfl<;>rfl
theorem set_same {α : Type} {l:List α} {n:Nat} {x : α} (h:l[n]?=some x):l.set n x=l:=by
 apply zR
 intro i
 rw [zh]
 by_cases e:n=i
 ·subst e
  have:n<l.length:=by
   rcases zu n l.length with h1 | h1
   ·exact h1
   ·rw [zd h1] at h;cases h
  rw [zC rfl,zC this,h]
 ·rw [zz e]
theorem jgM {i k:Nat} (hi:i=0\/i=1) (hk:k=0\/k=1) (h:i≠k):i=1-k:=by omega
end
section
variable {h h':H} {w s:Nat} {ow:Nat->Nat} {f:Nat->Option (Nat × Nat)} {l:List WX} {now:Int} {tb:Tb} {no:Option (Nat × Nat)} {n k m:Nat} {t:WX} {q:List UInt8}
theorem WF.take (a:WF h w s ow f l now tb no) (ht:l[n]?=some t) (hk:k=0\/k=1) (hq:(t.x.e k).ring=some q) (ch:Ch (fun j=>j=t.wb\/j=t.r k) h h') (ho:h'.get t.wb=some ((t.x.take k m q).obj t.r0 t.r1 t.wv)) (hR:jaw h' (t.r k) (t.b k) (q.drop m) t.x.cap) :
  WF h' w s ow f (l.set n { t with x:=t.x.take k m q }) now tb no:=by
 have X:=a.ok n t ht
 have hox:=X.ox
 obtain ⟨_,o1,_⟩:=X.ring k hk q hq
 refine a.step ht ch (fun j _ hb=>?_) ho (Wi.take_wait hk) fun i hi q' hq'=>?_
 ·rcases hb with rfl | rfl<;>omega
 ·rw [Wi.take_cap hk]
  by_cases hik:i=k
  ·subst hik
   rw [Wi.take_self hk] at hq'
   cases hq'
   exact ⟨q,hq,hR⟩
  ·obtain rfl:=jgM hi hk hik
   rw [Wi.take_other hk] at hq'
   obtain ⟨p1,p2,p3,p4,p5⟩:=X.ring _ hi q' hq'
   refine ⟨q',hq',p1.keep (ch.get _ p4 ?_) (ch.get _ p5 ?_)⟩
   ·rintro (e | e)
    ·rw [e] at p2;omega
    ·rw [e] at p2;omega
   ·rintro (e | e)
    ·rw [e] at p3;omega
    ·rw [e] at p3;omega
theorem VB.ofRow2 {v:V} {N:Nat} {b:List UInt8} (r:Row N h 1 v b.length (bts b)):VB h v b /\ ∀ z,v.at?=some z->N<=z:=by
 obtain ⟨p1,p2⟩:=VB.ofRow r
 exact ⟨p1,fun z hz=>(p2 z hz).1⟩
theorem take_len {q:List UInt8} {n:Int} : (q.take (min n (q.length:Int)).toNat).length=(min n (q.length:Int)).toNat:=by simp;omega
theorem XOk.apart (a:XOk h ow n t) (hk:k=0\/k=1) (hq:(t.x.e k).ring=some q):jaw h (t.r k) (t.b k) q t.x.cap/\t.r k<h.nx/\t.b k<h.nx/\t.r k≠t.b k/\t.wb≠t.r k/\t.wb≠t.b k:=by
 have o0:=a.ox
 obtain ⟨p1,p2,p3,p4,p5⟩:=a.ring k hk q hq
 refine ⟨p1,p4,p5,fun e=>?_,fun e=>?_,fun e=>?_⟩
 ·rw [e] at p2;omega
 ·rw [e] at o0;omega
 ·rw [e] at o0;omega
end
section
variable {cl:Nat->Call} (hcl:Sem cl) {h:H} {w s:Nat} {ow:Nat->Nat} {ws:Ws} {now:Int} {tb:Tb} {no:Option (Nat × Nat)}
include hcl
theorem ww_Take {d:Nat} {n many:Int} (hd:10<=d) (a:WSt h w s ow ws now tb no) (o:WsOk ws) :
  ∃ v h',cl d (.fn 72) [.p w 0,.i n,.i many] h=some (.tup [v,.i (jdv ws n many).1.2],h')/\VB h' v (jdv ws n many).1.1/\(∀ z,v.at?=some z->h.nx<=z)/\WSt h' w s ow (jdv ws n many).2 now tb no/\To h h' ow ow:=by
 obtain ⟨l,a,rfl⟩:=a
 rcases jd5 hcl (d:=d-1) (n:=n) om a.wf with ⟨hno,e1⟩ | ⟨m,t,rfl,ht,h2,e1⟩
 ·have hS:jdv (wxs l) n many=(([],116),wxs l):=jcv hno
  rw [hS]
  suffices q : ∃ v' h',cl d (.fn 72) [.p w 0,.i n,.i many] h=some (v',h')/\v' = .tup [.nils,.i 116]/\Old h h' by
   obtain ⟨_,h',e,rfl,q⟩:=q
   exact ⟨.nils,h',e,VB.nil _,fun z hz=>(by cases hz),⟨l,a.old q,rfl⟩,To.of_old q⟩
  refine aT hcl ?_
  refine qm ?_
  exact ⟨rfl,Zn _⟩
 have X:=a.wf.ok m t ht
 have hS:jdv (wxs l) (m:Int) many=_:=jcw (jaq ht) h2
 have hx:=X.hx
 unfold Wi.obj at hx
 by_cases hm:many<0
 ·rw [zC hm] at hS;rw [hS]
  suffices q : ∃ v' h',cl d (.fn 72) [.p w 0,.i m,.i many] h=some (v',h')/\v' = .tup [.nils,.i 2]/\Old h h' by
   obtain ⟨_,h',e,rfl,q⟩:=q
   exact ⟨.nils,h',e,VB.nil _,fun z hz=>(by cases hz),⟨l,a.old q,rfl⟩,To.of_old q⟩
  refine aT hcl ?_
  refine qm ?_
  exact ⟨rfl,Zn _⟩
 rw [zz hm] at hS
 cases hrs:t.x.reset
 case true=>
  rw [hrs,zC rfl] at hS;rw [hS]
  suffices q : ∃ v' h',cl d (.fn 72) [.p w 0,.i m,.i many] h=some (v',h')/\v' = .tup [.nils,.i 115]/\Old h h' by
   obtain ⟨_,h',e,rfl,q⟩:=q
   exact ⟨.nils,h',e,VB.nil _,fun z hz=>(by cases hz),⟨l,a.old q,rfl⟩,To.of_old q⟩
  have f1:(t.x.cells t.r0 t.r1 t.wv)[0+14]?=some (.bool true):=by rw [<- hrs];exact Wi.reset_cell rfl
  refine aT hcl ?_
  refine qm ?_
  exact ⟨rfl,Zn _⟩
 rw [hrs,zz Zd] at hS
 obtain ⟨q,hring⟩:=zJ.1 ((o.ok _ (zc (jaq ht))).out h2).2
 simp only [hring] at hS
 obtain ⟨p1,p2,p3,p4,p5,p6⟩:=X.apart (k:=1) (.inr rfl) hring
 obtain ⟨z,c,A,lz,oz⟩:=a.wf.wat (jdI ht)
 obtain ⟨v,h',e,row,hnil,r1,r2,r3⟩:=wp_Take hcl (d:=d) (t:=many) om A (x_lt ht) (jc5 ht) X.hx h2 hrs om hring p1 X.lx p2 p3 p4 p5 p6
 have W:=a.wf.take ht (k:=1) (.inr rfl) hring r3 r1 r2
 have W2:=WF.same W a.fds (jaq ht) (Wi.take_same (.inr rfl))
 have T:To h h' ow ow:=⟨r3.weaken fun j hj hb=>by
  have o1:=X.ox
  obtain ⟨_,o2,_⟩:=X.ring 1 (.inr rfl) q hring
  rcases hb with rfl | rfl
  ·omega
  ·show ow (t.r 1)≠0;omega,fun _ _=>rfl⟩
 have row:Row h.nx h' 1 v (q.take (min many (q.length:Int)).toNat).length (bts (q.take (min many (q.length:Int)).toNat)):=by rw [take_len];exact row
 obtain ⟨vb,vz⟩:=VB.ofRow2 row
 rw [hS]
 exact ⟨v,h',e,vb,vz,⟨_,W2,jbP⟩,T⟩
theorem ww_Wire {d:Nat} {fd:Int} (hd:3<=d) (a:WSt h w s ow ws now tb no) (o:WsOk ws) :
  ∃ h',cl d (.fn 43) [.p w 0,.i fd] h=some (.tup [.i (jhy ws fd).1,.i (jhy ws fd).2],h')/\Old h h':=by
 obtain ⟨l,a,rfl⟩:=a
 rcases ww_find hcl (d:=d-1) (fd:=fd) om a o.uniq with ⟨hno,h1,e1,o1,x1⟩ | ⟨n,k,m,t,rfl,hm,hat,ht,hk,h1,e1,o1,x1⟩
 ·have hS:jhy (wxs l) fd=(0,110):=withFd_no hno
  rw [hS]
  refine jak (aT hcl ?_)
  refine qm ?_
  exact ⟨rfl,o1.new.set o1.1⟩
 ·have hS:jhy (wxs l) (m:Int)=((n:Int),0):=jhx o.uniq hat (jaq ht)
  rw [hS]
  refine jak (aT hcl ?_)
  refine qm ?_
  exact ⟨rfl,o1.new.set o1.1⟩
end
section
variable {x:Wi} {k m:Nat} {q b:List UInt8}
theorem Wi.fill_self (hk:k=0\/k=1):((x.fill k m q b).e (1-k)).ring=some (q++b.take m):=by
 rcases hk with rfl | rfl<;>simp [Wi.fill,Wi.setq,Wi.came,Wi.put,Wi.e,En.came]
theorem Wi.fill_other (hk:k=0\/k=1):((x.fill k m q b).e k).ring=(x.e k).ring:=by
 rcases hk with rfl | rfl<;>simp [Wi.fill,Wi.setq,Wi.came,Wi.put,Wi.e,En.came]
theorem Wi.fill_same (hk:k=0\/k=1):x.SameFd (x.fill k m q b):=by
 rintro i (rfl | rfl)<;>rcases hk with rfl | rfl<;>exact ⟨Iff.rfl,fun _=>rfl⟩
theorem Wi.fill_wait (hk:k=0\/k=1):(x.fill k m q b).waiting=x.waiting:=by rcases hk with rfl | rfl<;>rfl
theorem Wi.fill_cap (hk:k=0\/k=1):(x.fill k m q b).cap=x.cap:=by rcases hk with rfl | rfl<;>rfl
theorem Wi.shut_same (hk:k=0\/k=1):x.SameFd (x.doShut k):=by
 unfold Wi.doShut
 split
 ·exact Wi.SameFd.refl x
 ·rintro i (rfl | rfl)<;>rcases hk with rfl | rfl<;>exact ⟨Iff.rfl,fun _=>rfl⟩
theorem Wi.shut_wait (hk:k=0\/k=1):(x.doShut k).waiting=x.waiting:=by
 unfold Wi.doShut
 split
 ·rfl
 ·rcases hk with rfl | rfl<;>rfl
theorem Wi.shut_cap (hk:k=0\/k=1):(x.doShut k).cap=x.cap:=by
 unfold Wi.doShut
 split
 ·rfl
 ·rcases hk with rfl | rfl<;>rfl
theorem Wi.shut_ring (hk:k=0\/k=1) (i:Nat) (hi:i=0\/i=1):((x.doShut k).e i).ring=(x.e i).ring:=by
 unfold Wi.doShut
 split
 ·rfl
 ·rcases hk with rfl | rfl<;>rcases hi with rfl | rfl<;>rfl
theorem Wi.close_cap (hk:k=0\/k=1):(x.close k).cap=x.cap:=by rcases hk with rfl | rfl<;>rfl
end
section
variable {h h':H} {w s:Nat} {ow:Nat->Nat} {f:Nat->Option (Nat × Nat)} {l:List WX} {now:Int} {tb:Tb} {no:Option (Nat × Nat)} {n k m:Nat} {t:WX} {q b:List UInt8}
theorem WF.fill (a:WF h w s ow f l now tb no) (ht:l[n]?=some t) (hk:k=0\/k=1) (hq:(t.x.e (1-k)).ring=some q) (ch:Ch (fun j=>j=t.wb\/j=t.r (1-k)\/j=t.b (1-k)) h h') (ho:h'.get t.wb=some ((t.x.fill k m q b).obj t.r0 t.r1 t.wv)) (hR:jaw h' (t.r (1-k)) (t.b (1-k)) (q++b.take m) t.x.cap) :
  WF h' w s ow f (l.set n { t with x:=t.x.fill k m q b }) now tb no:=by
 have X:=a.ok n t ht
 have hox:=X.ox
 have hk':1-k=0\/1-k=1:=by omega
 obtain ⟨_,o1,o2,_⟩:=X.ring _ hk' q hq
 refine a.step ht ch (fun j _ hb=>?_) ho (Wi.fill_wait hk) fun i hi q' hq'=>?_
 ·rcases hb with rfl | rfl | rfl<;>omega
 ·rw [Wi.fill_cap hk]
  by_cases hik:i=k
  ·subst hik
   rw [Wi.fill_other hk] at hq'
   obtain ⟨p1,p2,p3,p4,p5⟩:=X.ring _ hi q' hq'
   refine ⟨q',hq',p1.keep (ch.get _ p4 ?_) (ch.get _ p5 ?_)⟩
   ·rintro (e | e | e)
    ·rw [e] at p2;omega
    ·rw [e] at p2;omega
    ·rw [e] at p2;omega
   ·rintro (e | e | e)
    ·rw [e] at p3;omega
    ·rw [e] at p3;omega
    ·rw [e] at p3;omega
  ·obtain rfl:=jgM hi hk hik
   rw [Wi.fill_self hk] at hq'
   cases hq'
   exact ⟨q,hq,hR⟩
theorem XOk.to (X:XOk h ow n t) (hk:k=0\/k=1) (hq:(t.x.e k).ring=some q) (ch:Ch (fun j=>j=t.wb\/j=t.r k\/j=t.b k) h h'):To h h' ow ow :=
 ⟨ch.weaken fun j hj hb=>by
  have o1:=X.ox
  obtain ⟨_,o2,o3,_⟩:=X.ring k hk q hq
  rcases hb with rfl | rfl | rfl
  ·omega
  ·show ow (t.r k)≠0;omega
  ·show ow (t.b k)≠0;omega,fun _ _=>rfl⟩
theorem XOk.toU (X:XOk h ow n t) {ob:Obj} (u:Upd t.wb ob h h'):To h h' ow ow :=
 ⟨(u.ch (B:=fun j=>j=t.wb) rfl).weaken fun j hj hb=>by
  have o1:=X.ox
  have hb:j=t.wb:=hb
  subst hb;omega,fun _ _=>rfl⟩
end
section
variable {cl:Nat->Call} (hcl:Sem cl)
include hcl
theorem xp_close {d wb r0 r1 k:Nat} {wv:V} {h:H} {x:Wi} (hd:2<=d) (hw:h.get wb=some (x.obj r0 r1 wv)) (hk:k=0\/k=1) :
  ∃ h',cl d (.fn 97) [.p wb 0,.i (k:Int)] h=some (.tup [],h')/\Upd wb ((x.close k).obj r0 r1 wv) h h':=by
 refine jak (aT hcl ?_)
 have hsc:=Wi.shut_cell (x:=x) (r0:=r0) (r1:=r1) (wv:=wv) hk (o:=0+0+(k:Int).toNat*7+4) om
 have ek:(1:Int)-(k:Int)=((1-k:Nat):Int):=by omega
 obtain ⟨h2,e2,u2⟩:=jdU hcl (d:=d-1) (k:=1-k) om hw om (!(x.e k).shut) true
 have hw2:=u2.self
 rw [<- ek] at e2
 have es:decide ((x.e k).shut=false) = !(x.e k).shut:=by cases (x.e k).shut<;>rfl
 unfold Wi.obj at hw hw2
 refine qx ?_
 rw [es]
 refine qx ?_
 refine zcs rfl rfl rfl hw2 (by rw [Wi.cells_length];omega) ?_
 have e1:Obj.cells ((((x.came (1-k) (!(x.e k).shut) true)).cells r0 r1 wv).set (0+0+(k:Int).toNat*7+0) (.i 3)) false=(x.close k).obj r0 r1 wv:=by
  rcases hk with rfl | rfl<;>rfl
 rw [e1]
 refine qx ?_
 exact ⟨rfl,u2.trans Upd.set⟩
variable {h:H} {w s:Nat} {ow:Nat->Nat} {ws:Ws} {now:Int} {tb:Tb} {no:Option (Nat × Nat)}
theorem ww_Put {d:Nat} {n:Int} {b:List UInt8} {vb:V} (hd:10<=d) (a:WSt h w s ow ws now tb no) (o:WsOk ws) (hb:VB h vb b) (hbl:b.length<=1000) (hba : ∀ z,vb.at?=some z->ow z=0) :
  ∃ h',cl d (.fn 71) [.p w 0,.i n,vb] h=some (.tup [.i (putS ws n b).1.1,.i (putS ws n b).1.2],h')/\WSt h' w s ow (putS ws n b).2 now tb no/\To h h' ow ow:=by
 obtain ⟨l,a,rfl⟩:=a
 obtain ⟨av,cv,rfl,hB⟩:=hb
 rcases jd5 hcl (d:=d-1) (n:=n) om a.wf with ⟨hno,e1⟩ | ⟨m,t,rfl,ht,h2,e1⟩
 ·have hS:putS (wxs l) n b=((0,116),wxs l):=jcv hno
  rw [hS]
  suffices q : ∃ h',cl d (.fn 71) [.p w 0,.i n,.slice av b.length cv] h=some (.tup [.i 0,.i 116],h')/\Old h h' by
   obtain ⟨h',e,q⟩:=q
   exact ⟨h',e,⟨l,a.old q,rfl⟩,To.of_old q⟩
  refine jak (aT hcl ?_)
  refine qm ?_
  exact ⟨rfl,Zn _⟩
 have X:=a.wf.ok m t ht
 have hS:putS (wxs l) (m:Int) b=_:=jcw (jaq ht) h2
 have hx:=X.hx
 unfold Wi.obj at hx
 have f2:=Wi.reset_cell (x:=t.x) (r0:=t.r0) (r1:=t.r1) (wv:=t.wv) (o:=0+14) rfl
 have f3:(t.x.cells t.r0 t.r1 t.wv)[0+0+(1:Int).toNat*7+4]?=some (.bool t.x.e1.shut):=Wi.shut_cell (k:=1) (.inr rfl) rfl
 have f4:(t.x.cells t.r0 t.r1 t.wv)[0+0+(0:Int).toNat*7+0]?=some (.i t.x.e0.what):=Wi.what_cell (k:=0) (.inl rfl) rfl
 cases hrs:t.x.reset
 case true=>
  rw [hrs,zC rfl] at hS;rw [hS]
  suffices q : ∃ h',cl d (.fn 71) [.p w 0,.i m,.slice av b.length cv] h=some (.tup [.i 0,.i 115],h')/\Old h h' by
   obtain ⟨h',e,q⟩:=q
   exact ⟨h',e,⟨l,a.old q,rfl⟩,To.of_old q⟩
  rw [hrs] at f2
  refine jak (aT hcl ?_)
  refine qm ?_
  exact ⟨rfl,Zn _⟩
 rw [hrs,zz Zd] at hS
 rw [hrs] at f2
 cases hsh:t.x.e1.shut
 case true=>
  rw [zC (.inl hsh)] at hS;rw [hS]
  suffices q : ∃ h',cl d (.fn 71) [.p w 0,.i m,.slice av b.length cv] h=some (.tup [.i 0,.i 114],h')/\Old h h' by
   obtain ⟨h',e,q⟩:=q
   exact ⟨h',e,⟨l,a.old q,rfl⟩,To.of_old q⟩
  rw [hsh] at f3
  refine jak (aT hcl ?_)
  refine qm ?_
  exact ⟨rfl,Zn _⟩
 rw [hsh] at f3
 by_cases h3:t.x.e0.what=3
 ·rw [zC (.inr h3)] at hS;rw [hS]
  suffices q : ∃ h',cl d (.fn 71) [.p w 0,.i m,.slice av b.length cv] h=some (.tup [.i 0,.i 114],h')/\Old h h' by
   obtain ⟨h',e,q⟩:=q
   exact ⟨h',e,⟨l,a.old q,rfl⟩,To.of_old q⟩
  refine jak (aT hcl ?_)
  refine qm ?_
  exact ⟨rfl,Zn _⟩
 rw [zz (by rintro (e | e);(rw [hsh] at e;cases e);exact h3 e)] at hS
 obtain ⟨q,hring⟩:=zJ.1 ((o.ok _ (zc (jaq ht))).out h2).1
 simp only [hring] at hS
 obtain ⟨p1,p2,p3,p4,p5,p6⟩:=X.apart (k:=0) (.inl rfl) hring
 obtain ⟨z,c,A,lz,oz⟩:=a.wf.wat (jdI ht)
 have hne : ∀ z o,av=some (z,o)->b≠[]->z≠t.b0/\z≠t.r0:=fun z o e _=>by
  have h0:=hba z (by subst e;rfl)
  obtain ⟨_,o1,o2,_⟩:=X.ring 0 (.inl rfl) q hring
  exact ⟨fun e=>by have o2:ow t.b0=_:=o2;rw [e] at h0;omega,fun e=>by have o1:ow t.r0=_:=o1;rw [e] at h0;omega⟩
 obtain ⟨h',e,r1,r2,r3⟩:=wp_Put hcl (d:=d) om A (x_lt ht) (jc5 ht) X.hx h2 hrs hsh h3 hring p1 X.lx p2 p3 p4 p5 p6 hB om hne
 have W:=a.wf.fill (k:=1) ht (.inr rfl) hring r3 r1 r2
 have W2:=WF.same W a.fds (jaq ht) (Wi.fill_same (.inr rfl))
 rw [hS]
 exact ⟨h',e,⟨_,W2,jbP⟩,X.to (k:=0) (.inl rfl) hring r3⟩
theorem jiA {d:Nat} {n:Int} (hd:4<=d) (a:WSt h w s ow ws now tb no) :
  ∃ h',cl d (.fn 73) [.p w 0,.i n] h=some (.i (jbd ws n).1,h')/\WSt h' w s ow (jbd ws n).2 now tb no/\To h h' ow ow:=by
 obtain ⟨l,a,rfl⟩:=a
 rcases jd5 hcl (d:=d-1) (n:=n) om a.wf with ⟨hno,e1⟩ | ⟨m,t,rfl,ht,h2,e1⟩
 ·have hS:jbd (wxs l) n=(116,wxs l):=jcv hno
  rw [hS]
  suffices q : ∃ h',cl d (.fn 73) [.p w 0,.i n] h=some (.i 116,h')/\Old h h' by
   obtain ⟨h',e,q⟩:=q
   exact ⟨h',e,⟨l,a.old q,rfl⟩,To.of_old q⟩
  refine jak (aT hcl ?_)
  refine qm ?_
  exact ⟨rfl,Zn _⟩
 have X:=a.wf.ok m t ht
 have hS:jbd (wxs l) (m:Int)=_:=jcw (jaq ht) h2
 rw [hS]
 obtain ⟨h3,e2,u2⟩:=xp_shut hcl (d:=d-1) (k:=1) om X.hx (.inr rfl)
 have W:=a.wf.upd ht u2 (Wi.shut_wait (.inr rfl)) (Wi.shut_cap (.inr rfl)) (Wi.shut_ring (.inr rfl))
 have W2:=WF.same W a.fds (jaq ht) (Wi.shut_same (.inr rfl))
 suffices q : ∃ h',cl d (.fn 73) [.p w 0,.i m] h=some (.i 0,h')/\h'=h3 by
  obtain ⟨h',e,rfl⟩:=q
  exact ⟨h',e,⟨_,W2,jbP⟩,X.toU u2⟩
 refine jak (aT hcl ?_)
 refine qm ?_
 exact ⟨rfl,rfl⟩
end
theorem Wi.close_same {x:Wi} {k:Nat} (hk:k=0\/k=1) (h:(x.e k).what≠1):x.SameFd (x.close k):=by
 rintro i (rfl | rfl)<;>rcases hk with rfl | rfl
 ·exact ⟨⟨fun e=>zI e (by show (3:Int)≠1;omega),fun e=>zI e h⟩,fun _=>rfl⟩
 ·exact ⟨Iff.rfl,fun _=>rfl⟩
 ·exact ⟨Iff.rfl,fun _=>rfl⟩
 ·exact ⟨⟨fun e=>zI e (by show (3:Int)≠1;omega),fun e=>zI e h⟩,fun _=>rfl⟩
section
variable {h h':H} {w s:Nat} {ow:Nat->Nat} {f:Nat->Option (Nat × Nat)} {l:List WX} {now:Int} {tb:Tb} {no:Option (Nat × Nat)} {n k m:Nat} {t:WX} {q b:List UInt8}
theorem WF.place (a:WF h w s ow f l now tb no) {i o:Nat} {p:Option (Nat × Nat)} {wl:List V} (hi:i<96) (ho:o=i*3) (hl:h.get w=some (.cells wl false)):WF (h.set w (.cells (jay wl o (plc p)) false)) w s ow (fun j=>if j=i then p else f j) l now tb no:=by
 obtain ⟨wv,p1,p2,p3⟩:=a.hw
 rw [hl] at p1;cases p1
 have hne : ∀ j,ow j≠1->j≠w:=fun j hj e=>hj (by rw [e,a.tw])
 refine ⟨⟨wv,?_,p2.keep (zp _) fun z hz=>jaa (hne z (by rw [p3 z hz];omega)),p3⟩,?_,a.tw,a.ts,a.lw,a.ls,a.top,fun m t ht=>(a.ok m t ht).keep (zp _) fun j h1 _=>jaa (hne j om)⟩
 ·rw [jab,jh0 (g:=fun j=>if j=i then p else f j) hi ho fun j _=>rfl]
 ·rw [jaa (hne s (by rw [a.ts];omega)),a.hs]
theorem WF.clear (a:WF h w s ow f l now tb no) (ht:l[n]?=some t) (hk:k=0\/k=1) (hq:(t.x.e k).ring=some q) (ch:Ch (fun j=>j=t.r k) h h') (hR:jaw h' (t.r k) (t.b k) b t.x.cap) :
  WF h' w s ow f (l.set n { t with x:=t.x.setq k b }) now tb no:=by
 have X:=a.ok n t ht
 have hox:=X.ox
 obtain ⟨_,o1,_⟩:=X.ring k hk q hq
 refine a.step ht ch (fun j _ hb=>?_) ?_ ?_ fun i hi q' hq'=>?_
 ·have hb:j=t.r k:=hb
  subst hb;omega
 ·have hne:t.wb≠t.r k:=fun e=>by rw [e] at hox;omega
  rw [ch.get _ X.lx hne,X.hx]
  unfold Wi.obj
  rw [Wi.setq_cells hk hq]
 ·rcases hk with rfl | rfl<;>rfl
 ·have hc:(t.x.setq k b).cap=t.x.cap:=by rcases hk with rfl | rfl<;>rfl
  rw [hc]
  by_cases hik:i=k
  ·subst hik
   have e:((t.x.setq i b).e i).ring=some b:=by rcases hi with rfl | rfl<;>rfl
   rw [e] at hq';cases hq'
   exact ⟨q,hq,hR⟩
  ·obtain rfl:=jgM hi hk hik
   have e:((t.x.setq k b).e (1-k)).ring=(t.x.e (1-k)).ring:=by rcases hk with rfl | rfl<;>rfl
   rw [e] at hq'
   obtain ⟨p1,p2,p3,p4,p5⟩:=X.ring _ hi q' hq'
   refine ⟨q',hq',p1.keep (ch.get _ p4 fun e=>?_) (ch.get _ p5 fun e=>?_)⟩
   ·rw [e] at p2;omega
   ·rw [e] at p3;omega
end
section
variable {cl:Nat->Call} (hcl:Sem cl)
include hcl
theorem jj3 {d r bb cap:Nat} {h0:H} {q:List UInt8} (hd:8<=d) (R:jaw h0 r bb q cap) (hr:r<h0.nx) (hbb:bb<h0.nx) (hrb:r≠bb) :
  ∃ h',cl d (.fn 98) [.p r 0] h0=some (.i q.length,h')/\jaw h' r bb [] cap/\Ch (fun j=>j=r) h0 h':=by
 obtain ⟨v,h',e1,row,_,R',ch⟩:=jlb hcl (d:=d-1) (n:=(q.length:Int)) om R hr hbb hrb
 have em:(min (q.length:Int) (q.length:Int)).toNat=q.length:=by omega
 rw [em] at row R'
 rw [List.drop_length] at R'
 obtain ⟨buf,frm,inn,out,C,V⟩:=R
 have hlen:=jh7 hcl (d:=d-1) om C
 obtain ⟨c,⟨a,rfl⟩,_⟩:=row.shape
 refine jak (aT hcl ?_)
 refine qx ?_
 exact ⟨rfl,R',ch⟩
variable {h:H} {w s:Nat} {ow:Nat->Nat} {f:Nat->Option (Nat × Nat)} {ws:Ws} {now:Int} {tb:Tb} {no:Option (Nat × Nat)}
theorem jhq {d:Nat} {n:Int} (hd:4<=d) (a:WSt h w s ow ws now tb no) :
  ∃ h',cl d (.fn 74) [.p w 0,.i n] h=some (.i (jaM ws n).1,h')/\WSt h' w s ow (jaM ws n).2 now tb no/\To h h' ow ow:=by
 obtain ⟨l,a,rfl⟩:=a
 rcases jd5 hcl (d:=d-1) (n:=n) om a.wf with ⟨hno,e1⟩ | ⟨m,t,rfl,ht,h2,e1⟩
 ·have hS:jaM (wxs l) n=(116,wxs l):=jcv hno
  rw [hS]
  suffices q : ∃ h',cl d (.fn 74) [.p w 0,.i n] h=some (.i 116,h')/\Old h h' by
   obtain ⟨h',e,q⟩:=q
   exact ⟨h',e,⟨l,a.old q,rfl⟩,To.of_old q⟩
  refine jak (aT hcl ?_)
  refine qm ?_
  exact ⟨rfl,Zn _⟩
 have X:=a.wf.ok m t ht
 have hS:jaM (wxs l) (m:Int)=_:=jcw (jaq ht) h2
 rw [hS]
 obtain ⟨h3,e2,u2⟩:=xp_close hcl (d:=d-1) (k:=1) om X.hx (.inr rfl)
 have W:=a.wf.upd ht u2 (Wi.close_waiting (.inr rfl)) (Wi.close_cap (.inr rfl)) (fun k hk=>Wi.close_ring (.inr rfl) hk)
 have W2:=WF.same W a.fds (jaq ht) (Wi.close_same (.inr rfl) (by show t.x.e1.what≠1;omega))
 suffices q : ∃ h',cl d (.fn 74) [.p w 0,.i m] h=some (.i 0,h')/\h'=h3 by
  obtain ⟨h',e,rfl⟩:=q
  exact ⟨h',e,⟨_,W2,jbP⟩,X.toU u2⟩
 refine jak (aT hcl ?_)
 refine qm ?_
 exact ⟨rfl,rfl⟩
theorem jhz {d n k:Nat} {l:List WX} {t:WX} {q:List UInt8} (hd:9<=d) (a:WF h w s ow f l now tb no) (ht:l[n]?=some t) (hk:k=0\/k=1) (hq:(t.x.e k).ring=some q) :
  ∃ h1 h2,cl (d-1) (.fn 98) [.p (t.r k) 0] h=some (.i q.length,h1)/\cl (d-1) (.fn 99) [.p t.wb 0,.i (k:Int),.bool true,.bool true] h1=some (.tup [],h2) /\
   WF h2 w s ow f (l.set n { t with x:=(t.x.setq k []).came k true true }) now tb no/\To h h2 ow ow/\h2.nx=h1.nx:=by
 have X:=a.ok n t ht
 obtain ⟨p1,p2,p3,p4,p5,p6⟩:=X.apart hk hq
 obtain ⟨h1,e1,R1,c1⟩:=jj3 hcl (d:=d-1) om p1 p2 p3 p4
 have W1:=a.clear ht hk hq c1 R1
 have ht1:(l.set n { t with x:=t.x.setq k [] })[n]?=some { t with x:=t.x.setq k [] } := by rw [zh,zC rfl,zC (x_lt ht)]
 have X1:=W1.ok n _ ht1
 obtain ⟨h2,e2,u2⟩:=jdU hcl (d:=d-1) (k:=k) om X1.hx hk true true
 have W2:=W1.upd ht1 u2 (by rcases hk with rfl | rfl<;>rfl) (by rcases hk with rfl | rfl<;>rfl) (fun i hi=>by rcases hk with rfl | rfl<;>rcases hi with rfl | rfl<;>rfl)
 rw [List.set_set] at W2
 refine ⟨h1,h2,e1,e2,W2,?_,u2.nx⟩
 refine To.trans ⟨c1.weaken fun j hj hb=>?_,fun _ _=>rfl⟩ (X1.toU u2)
 obtain ⟨_,o2,_⟩:=X.ring k hk q hq
 have hb:j=t.r k:=hb
 subst hb;omega
theorem ww_Reset {d:Nat} {n:Int} (hd:10<=d) (a:WSt h w s ow ws now tb no) (o:WsOk ws) :
  ∃ h',cl d (.fn 75) [.p w 0,.i n] h=some (.i (jcU ws n).1,h')/\WSt h' w s ow (jcU ws n).2 now tb no/\To h h' ow ow:=by
 obtain ⟨l,a,rfl⟩:=a
 rcases jd5 hcl (d:=d-1) (n:=n) om a.wf with ⟨hno,e1⟩ | ⟨m,t,rfl,ht,h2,e1⟩
 ·have hS:jcU (wxs l) n=(116,wxs l):=jcv hno
  rw [hS]
  suffices q : ∃ h',cl d (.fn 75) [.p w 0,.i n] h=some (.i 116,h')/\Old h h' by
   obtain ⟨h',e,q⟩:=q
   exact ⟨h',e,⟨l,a.old q,rfl⟩,To.of_old q⟩
  refine jak (aT hcl ?_)
  refine qm ?_
  exact ⟨rfl,Zn _⟩
 have X:=a.wf.ok m t ht
 have hx:=X.hx
 have lx:=X.lx
 unfold Wi.obj at hx
 have hS:jcU (wxs l) (m:Int)=_:=jcw (jaq ht) h2
 have f2:=Wi.reset_cell (x:=t.x) (r0:=t.r0) (r1:=t.r1) (wv:=t.wv) (o:=0+14) rfl
 cases hrs:t.x.reset
 case true=>
  have e3:t.x.doReset=t.x:=by unfold Wi.doReset;rw [zC hrs]
  rw [e3,set_same (jaq ht)] at hS
  rw [hS]
  suffices q : ∃ h',cl d (.fn 75) [.p w 0,.i m] h=some (.i 0,h')/\Old h h' by
   obtain ⟨h',e,q⟩:=q
   exact ⟨h',e,⟨l,a.old q,rfl⟩,To.of_old q⟩
  rw [hrs] at f2
  refine jak (aT hcl ?_)
  refine qm ?_
  exact ⟨rfl,Zn _⟩
 rw [hrs] at f2
 rw [hS]
 obtain ⟨q0,hq0⟩:=zJ.1 ((o.ok _ (zc (jaq ht))).out h2).1
 obtain ⟨q1,hq1⟩:=zJ.1 ((o.ok _ (zc (jaq ht))).out h2).2
 have hlen:0+14<(t.x.cells t.r0 t.r1 t.wv).length:=by rw [Wi.cells_length];omega
 have u1:Upd t.wb (({ t.x with reset:=true } : Wi).obj t.r0 t.r1 t.wv) h (h.set t.wb (.cells ((t.x.cells t.r0 t.r1 t.wv).set (0+14) (.bool true)) false)):=Upd.set
 have W1:=a.wf.upd ht u1 rfl rfl (fun i hi=>by rcases hi with rfl | rfl<;>rfl)
 have T1:=X.toU u1
 generalize hg1:h.set t.wb (.cells ((t.x.cells t.r0 t.r1 t.wv).set (0+14) (.bool true)) false)=g1 at u1 W1 T1
 have ht1:(l.set m { t with x := { t.x with reset:=true } })[m]?=some { t with x := { t.x with reset:=true } } := by rw [zh,zC rfl,zC (x_lt ht)]
 obtain ⟨g2,g3,e2,e3,W3,T3,_⟩:=jhz hcl (d:=d) (k:=0) om W1 ht1 (.inl rfl) hq0
 rw [List.set_set] at W3
 have ht3:(l.set m { t with x:=(Wi.setq { t.x with reset:=true } 0 []).came 0 true true })[m]?=some { t with x:=(Wi.setq { t.x with reset:=true } 0 []).came 0 true true } := by rw [zh,zC rfl,zC (x_lt ht)]
 obtain ⟨g4,g5,e4,e5,W5,T5,_⟩:=jhz hcl (d:=d) (k:=1) om W3 ht3 (.inr rfl) hq1
 rw [List.set_set] at W5
 have hX1:=(W1.ok m _ ht1).hx
 have hX3:=(W3.ok m _ ht3).hx
 have c1:((({ t.x with reset:=true } : Wi)).cells t.r0 t.r1 t.wv)[0+0+(0:Int).toNat*7+2]?=some (.p t.r0 0):=Wi.ring_cell (r0:=t.r0) (r1:=t.r1) (wv:=t.wv) (k:=0) (.inl rfl) hq0 rfl
 have c3:(((Wi.setq { t.x with reset:=true } 0 []).came 0 true true).cells t.r0 t.r1 t.wv)[0+0+(1:Int).toNat*7+2]?=some (.p t.r1 0):=Wi.ring_cell (r0:=t.r0) (r1:=t.r1) (wv:=t.wv) (k:=1) (.inr rfl) hq1 rfl
 have hend:Wi.came (Wi.setq ((Wi.setq { t.x with reset:=true } 0 []).came 0 true true) 1 []) 1 true true=t.x.doReset:=by
  unfold Wi.doReset;rw [zz (by rw [hrs];simp)]
 rw [hend] at W5
 have W6:=WF.same W5 a.fds (jaq ht) (by
  rw [<- hend]
  rintro i (rfl | rfl)<;>exact ⟨Iff.rfl,fun _=>rfl⟩)
 suffices q : ∃ h',cl d (.fn 75) [.p w 0,.i m] h=some (.i 0,h')/\h'=g5 by
  obtain ⟨h',e,rfl⟩:=q
  exact ⟨h',e,⟨_,W6,jbP⟩,T1.trans (T3.trans T5)⟩
 clear W1 W3 W5 W6 T1 T3 T5 hS hend u1 o a X
 have e2:cl (d-1) (.fn 98) [.p t.r0 0] g1=_:=e2
 have e4:cl (d-1) (.fn 98) [.p t.r1 0] g3=_:=e4
 have hX1:g1.get t.wb=some (.cells (({ t.x with reset:=true } : Wi).cells t.r0 t.r1 t.wv) false):=hX1
 have hX3:g3.get t.wb=some (.cells (((Wi.setq { t.x with reset:=true } 0 []).came 0 true true).cells t.r0 t.r1 t.wv) false):=hX3
 refine jak (aT hcl ?_)
 refine qx ?_
 refine zcs rfl rfl rfl hx hlen ?_
 rw [hg1]
 refine qx ?_
 refine Run.unroll (n:=99999) rfl ?_
 refine qx ?_
 refine End.unroll (n:=99998) ?_
 refine qx ?_
 refine End.unroll (n:=99997) ?_
 refine qx ?_
 exact ⟨rfl,rfl⟩
end
theorem jkD {ws ws':Ws} {fd:Int} (h : ∀ n k,AtW ws' n k fd↔AtW ws n k fd):atS ws' fd=atS ws fd:=by
 have e:(fun p:Nat × Nat=>AtW ws' p.1 p.2 fd)=fun p=>AtW ws p.1 p.2 fd:=by funext p;exact propext (h p.1 p.2)
 have e2:(∃ p:Nat × Nat,AtW ws' p.1 p.2 fd) = ∃ p:Nat × Nat,AtW ws p.1 p.2 fd:=congrArg Exists e
 unfold atS
 by_cases hx : ∃ p:Nat × Nat,AtW ws p.1 p.2 fd
 ·have hx' : ∃ p:Nat × Nat,AtW ws' p.1 p.2 fd:=e2 ▸ hx
  rw [dif_pos hx,dif_pos hx']
  congr 2
 ·have hx' : ¬ ∃ p:Nat × Nat,AtW ws' p.1 p.2 fd:=e2 ▸ hx
  rw [dif_neg hx,dif_neg hx']
section
variable {h h':H} {w s:Nat} {ow:Nat->Nat} {f:Nat->Option (Nat × Nat)} {l:List WX} {now:Int} {tb:Tb} {no:Option (Nat × Nat)} {n k m:Nat} {t:WX}
def WX.noWait (t:WX):WX := { t with x := { t.x with waiting:=[] },wv := .nils }
theorem WF.noWait (a:WF h w s ow f l now tb no) (ht:l[n]?=some t):WF (h.set t.wb (t.noWait.x.obj t.r0 t.r1 .nils)) w s ow f (l.set n t.noWait) now tb no:=by
 have X:=a.ok n t ht
 have o0:=X.ox
 have hne : ∀ j,ow j≠10*n+10->j≠t.wb:=fun j hj e=>hj (by rw [e,o0])
 refine a.turn ht (zp _) (fun j _ hn=>jaa (hne j fun e=>hn om)) ⟨jab _,X.ox,X.lx,fun i hi q hq=>?_,VI.nil _,fun e=>zI rfl e⟩ rfl
 obtain ⟨p1,p2,p3,p4,p5⟩:=X.ring i hi q hq
 exact ⟨p1.keep (jaa (hne _ om)) (jaa (hne _ om)),p2,p3,p4,p5⟩
end
section
variable {cl:Nat->Call} (hcl:Sem cl) {h:H} {w s:Nat} {ow:Nat->Nat} {ws:Ws} {now:Int} {tb:Tb} {no:Option (Nat × Nat)}
include hcl
end
theorem jk4 {l:List Int} {cs:List V} {o:Nat} (hc : ∀ (i:Nat) (x:Int),l[i]?=some x->cs[o+i]?=some (.i x)) (h0:0<l.length):o+l.length<=cs.length/\(cs.drop o).take l.length=ints l:=by
 have h1:o+l.length<=cs.length:=by
  have:=hc (l.length-1) _ (za om)
  rcases zu (o+(l.length-1)) cs.length with h | h
  ·omega
  ·rw [zd h] at this;cases this
 refine ⟨h1,zR fun i=>?_⟩
 rw [zL,List.getElem?_map]
 by_cases hi:i<l.length
 ·rw [zC hi,zl,hc i _ (za hi),za hi];rfl
 ·rw [zz hi,zd om];rfl
section
variable {call:Call} {fuel base:Nat} {ops:List Ins} {keep:List Nat} {K:List Fr} {e:Env} {h:H} {Q:Post} {ix:Nat} {dst:Option Nat} {c:List (Nat × I × Option (Nat × Bool))}
end
section
variable {cl:Nat->Call} (hcl:Sem cl)
include hcl
end
def jaC (many:Int):Wi:=⟨⟨0,0,some [],true,false,0,0⟩,⟨2,0,some [],true,false,0,0⟩,many.toNat,false,0,[]⟩
def jas (ws:Ws) (n many:Int):(Int × Int) × Ws :=
 if n<0 then ((0,116),ws) else match ws[n.toNat]? with
 | none=>((0,116),ws)
 | some x=>if x.backlog=0\/x.e0.what≠1 then ((0,116),ws) else if many<1\/65536<many then ((0,2),ws)
  else if x.backlog<=x.waiting.length then ((0,113),ws) else if 1000<=ws.length then ((0,112),ws)
  else ((ws.length,0),ws.set n.toNat { x with waiting:=x.waiting++[(ws.length:Int)],e0 := { x.e0 with inn:=upu x.e0.inn } } ++ [jaC many])
section
variable {cl:Nat->Call} (hcl:Sem cl)
include hcl
end
def tail (now:Int) (hd:Nat->Bool) (ct:Nat->Int) (no si:Int):List V :=
 .int .u64 now :: (tab 32 (fun i=>.bool (hd i))++(tab 32 (fun i=>.i (ct i))++[.i no,.i si]))
section
variable {v:V} {now no si:Int} {hd:Nat->Bool} {ct:Nat->Int}
end
theorem RW.tl {h:H} {rw q:Nat} {l:List RX} {tl tl':List V} {v:V} (w:RW h rw q l tl) (hv:h.get rw=some (.cells (v :: tl) false)):RW (h.set rw (.cells (v :: tl') false)) rw q l tl':=by
 have ch:Ch (RC rw q) h (h.set rw (.cells (v :: tl') false)):=Ch.set (.inr rfl)
 refine ⟨w.lw,w.lq,w.ne,fun hl=>?_,fun hl=>?_,fun s hs=>(w.ok s hs).keep ch⟩
 ·have a:=w.at_ hl
  rw [a.hw] at hv
  cases hv
  exact ⟨by rw [jab],by rw [jaa w.ne.symm,a.hq],w.ne⟩
 ·have a:=w.nil hl
  rw [a] at hv
  cases hv
  rw [jab]
def jaN (now t:Int):Int:=if 18446744073709551615-now<t then 18446744073709551615 else now+t
section
variable {cl:Nat->Call} (hcl:Sem cl)
include hcl
end
def NtOk (ws:Ws) (no si:Int):Prop:=no = -1 \/ ∃ (n k:Nat) (x:Wi),no=n/\si=k/\(k=0\/k=1)/\ws[n]?=some x/\x.e0.ring≠none/\x.e1.ring≠none
def jaB (ws:Ws) (sum no si:Int):Ws :=
 if no<0 then ws else match ws[no.toNat]? with
 | none=>ws
 | some x=>match (x.e si.toNat).ring with
  | none=>ws
  | some q=>if sum=0 then ws.set no.toNat (x.take si.toNat q.length q)
   else if q=[] then ws.set no.toNat (x.fill (1-si.toNat) (min 1 x.cap) [] [1]) else ws
section
variable {cl:Nat->Call} (hcl:Sem cl)
include hcl
end
def put1 {α : Type} (f:Nat -> α) (s:Nat) (v : α):Nat -> α := fun i=>if i=s then v else f i
section
variable {v:V} {now no si:Int} {hd:Nat->Bool} {ct:Nat->Int}
end
def jil (s:Int):Prop:=1<=s/\s<=31
instance (s:Int):Decidable (jil s):=inferInstanceAs (Decidable (_/\_))
def jjd (ct:Nat->Int) (s:Int) (on:Bool):Nat->Int:=if jil s/\on=false then put1 ct s.toNat 0 else ct
section
variable {cl:Nat->Call} (hcl:Sem cl)
include hcl
end
def jlk (hd:Nat->Bool) (ct:Nat->Int) (s:Int):Nat->Int:=if jil s/\hd s.toNat=true then put1 ct s.toNat (ct s.toNat+1) else ct
section
variable {cl:Nat->Call} (hcl:Sem cl)
include hcl
end
section
variable {v:V} {now no si:Int} {hd:Nat->Bool} {ct:Nat->Int}
end
noncomputable def ntS (ws:Ws) (a b:Int):Int × Option (Nat × Nat) :=
 jbw ws a (110,none) fun n k x=>jbw ws b (110,none) fun m i _=>if n=m/\k≠i/\x.e0.ring≠none/\x.e1.ring≠none then (0,some (n,k)) else (111,none)
noncomputable def ntW (ws:Ws) (sum:Int) (a b:Int):Ws:=match (ntS ws a b).2 with
 | none=>ws
 | some (n,k)=>jaB ws sum n k
noncomputable def ntNo (ws:Ws) (a b no:Int):Int:=match (ntS ws a b).2 with
 | none=>no
 | some (n,_)=>n
noncomputable def ntSi (ws:Ws) (a b si:Int):Int:=match (ntS ws a b).2 with
 | none=>si
 | some (_,k)=>k
section
variable {cl:Nat->Call} (hcl:Sem cl)
include hcl
end
def ctZ (ct:Nat->Int) (n:Nat):Nat->Int:=fun i=>if 1<=i/\i<=n then 0 else ct i
section
variable {cl:Nat->Call} (hcl:Sem cl)
include hcl
end
section
variable {cl:Nat->Call} (hcl:Sem cl)
include hcl
end
def WsOne (ws:Ws):Prop := ∀ (i j:Nat) (x y:Wi) (p q:Nat) (m:Int),ws[i]?=some x->ws[j]?=some y->x.waiting[p]?=some m->y.waiting[q]?=some m->i=j/\p=q
structure WsK (ws:Ws):Prop where
 ok:WsOk ws
 one:WsOne ws
def Wi.SubFd (x y:Wi):Prop := ∀ k,k=0\/k=1->(y.e k).what=1->(x.e k).what=1/\(y.e k).fd=(x.e k).fd
theorem Wi.SubFd.refl (x:Wi):x.SubFd x:=fun _ _ h=>⟨h,rfl⟩
theorem Wi.SubFd.trans {x y z:Wi} (a:x.SubFd y) (b:y.SubFd z):x.SubFd z:=fun k hk h=>⟨(a k hk (b k hk h).1).1,by rw [(b k hk h).2,(a k hk (b k hk h).1).2]⟩
theorem w_lt {ws:Ws} {n:Nat} {x:Wi} (hr:ws[n]?=some x):n<ws.length:=by
 rcases zu n ws.length with h | h
 ·exact h
 ·rw [zd h] at hr;cases hr
theorem jm4 {ws:Ws} {n:Nat} (h:n<ws.length) : ∃ x,ws[n]?=some x:=⟨_,za h⟩
theorem jcP {ws:Ws} {n m:Nat} {y z:Wi} (h:(ws.set n y)[m]?=some z):(m=n/\z=y)\/(m≠n/\ws[m]?=some z):=by
 rw [zh] at h
 by_cases e:n=m
 ·rw [zC e] at h
  by_cases hl:n<ws.length
  ·rw [zC hl] at h;cases h;exact .inl ⟨e.symm,rfl⟩
  ·rw [zz hl] at h;cases h
 ·rw [zz e] at h;exact .inr ⟨fun h=>e h.symm,h⟩
theorem WsK.mild {ws ws':Ws} (K:WsK ws) (hl:ws'.length=ws.length)
  (h : ∀ (i:Nat) (z':Wi),ws'[i]?=some z' -> ∃ z,ws[i]?=some z/\z.SubFd z'/\WiOk z'/\(∃ c,z'.waiting=z.waiting.drop c)/\(z.e0.what=0->(∃ (j:Nat) (u:Wi),ws'[j]?=some u/\(i:Int)∈u.waiting)->z'.e0.what=0)):WsK ws':=by
 refine ⟨⟨?_,fun x hx=>?_,by rw [hl];exact K.ok.len,fun x hx=>?_⟩,?_⟩
 ·have sub : ∀ n k fd,AtW ws' n k fd->AtW ws n k fd:=by
   rintro n k fd ⟨x,hx,hk,h1,h2⟩
   obtain ⟨z,e1,e2,_⟩:=h n x hx
   exact ⟨z,e1,hk,(e2 k hk h1).1,by rw [<- (e2 k hk h1).2,h2]⟩
  exact fun n k n' k' fd a b=>K.ok.uniq n k n' k' fd (sub _ _ _ a) (sub _ _ _ b)
 ·obtain ⟨i,hi⟩:=zY.1 hx
  obtain ⟨z,_,_,e,_⟩:=h i x hi
  exact e
 ·obtain ⟨i,hi⟩:=zY.1 hx
  obtain ⟨z,e1,_,_,⟨c,e2⟩,_⟩:=h i x hi
  obtain ⟨p1,p2⟩:=K.ok.wait z (zc e1)
  refine ⟨by rw [e2,List.length_drop];omega,fun m hm=>?_⟩
  obtain ⟨y,y0,y1,y2⟩:=p2 m (by rw [e2] at hm;exact List.mem_of_mem_drop hm)
  obtain ⟨y',hy'⟩:=jm4 (ws:=ws') (n:=m.toNat) (by rw [hl];exact w_lt y1)
  obtain ⟨u,u1,_,_,_,u2⟩:=h _ _ hy'
  rw [y1] at u1;cases u1
  exact ⟨y',y0,hy',u2 y2 ⟨i,x,hi,by rw [Int.toNat_of_nonneg y0];exact hm⟩⟩
 ·intro i j x y p q m hx hy hp hq
  obtain ⟨a,a1,_,_,⟨c,a2⟩,_⟩:=h i x hx
  obtain ⟨b,b1,_,_,⟨c',b2⟩,_⟩:=h j y hy
  rw [a2,zl] at hp
  rw [b2,zl] at hq
  obtain ⟨e1,e2⟩:=K.one i j a b (c+p) (c'+q) m a1 b1 hp hq
  refine ⟨e1,?_⟩
  subst e1
  rw [hx] at hy;cases hy
  rw [a1] at b1;cases b1
  have:=a2.symm.trans b2
  have h1:=congrArg List.length this
  rw [List.length_drop,List.length_drop] at h1
  have h2:c+p<a.waiting.length:=by
   rcases zu (c+p) a.waiting.length with h | h
   ·exact h
   ·rw [zd h] at hp;cases hp
  omega
theorem WsK.set {ws:Ws} {n:Nat} {x y:Wi} (K:WsK ws) (hx:ws[n]?=some x) (hs:x.SubFd y) (hok:WiOk x->WiOk y) (hw:y.waiting=x.waiting) (h0:x.e0.what=0->y.e0.what=0):WsK (ws.set n y):=by
 refine K.mild Zd fun i z' hz=>?_
 rcases jcP hz with ⟨rfl,rfl⟩ | ⟨_,hz⟩
 ·exact ⟨x,hx,hs,hok (K.ok.ok x (zc hx)),⟨0,by rw [hw];rfl⟩,fun h _=>h0 h⟩
 ·exact ⟨z',hz,Wi.SubFd.refl _,K.ok.ok z' (zc hz),⟨0,rfl⟩,fun h _=>h⟩
theorem WsK.set_wait {ws:Ws} {n c:Nat} {x:Wi} (K:WsK ws) (hx:ws[n]?=some x):WsK (ws.set n { x with waiting:=x.waiting.drop c }):=by
 refine K.mild Zd fun i z' hz=>?_
 rcases jcP hz with ⟨rfl,rfl⟩ | ⟨_,hz⟩
 ·have:=K.ok.ok x (zc hx)
  exact ⟨x,hx,Wi.SubFd.refl _,⟨this.cap0,this.cap1,this.len,this.pair,this.out,this.bl,this.wh⟩,⟨c,rfl⟩,fun h _=>h⟩
 ·exact ⟨z',hz,Wi.SubFd.refl _,K.ok.ok z' (zc hz),⟨0,rfl⟩,fun h _=>h⟩
theorem WiOk.of {x y:Wi} (a:WiOk x) (hc:y.cap=x.cap) (hw : ∀ k,k=0\/k=1->(y.e k).writes=(x.e k).writes) (hr : ∀ k,k=0\/k=1->((y.e k).ring=none↔(x.e k).ring=none)) (hl : ∀ k,k=0\/k=1 -> ∀ q,(y.e k).ring=some q->q.length<=x.cap) (ho:y.e1.what=2->x.e1.what=2) (hb:y.backlog=x.backlog:=by rfl) (hv:WhV x->WhV y:=by exact fun h=>h):WiOk y:=by
 refine ⟨by rw [hc];exact a.cap0,by rw [hc];exact a.cap1,fun k hk q hq=>by rw [hc];exact hl k hk q hq,fun k hk=>?_,fun h2=>?_,by rw [hb];exact a.bl,hv a.wh⟩
 ·rw [hw k hk,a.pair k hk,ne_eq,ne_eq]
  refine not_congr ?_
  rcases hk with rfl | rfl
  ·exact (hr 1 (.inr rfl)).symm
  ·exact (hr 0 (.inl rfl)).symm
 ·have:=a.out (ho h2)
  exact ⟨fun e=>this.1 ((hr 0 (.inl rfl)).1 e),fun e=>this.2 ((hr 1 (.inr rfl)).1 e)⟩
theorem WiOk.nil {x:Wi} (a:WiOk x) : ∀ k,k=0\/k=1 -> ∀ q,(x.e k).ring=some q->q.length<=x.cap:=a.len
theorem jew {x:Wi} {k:Nat} {i o:Bool} (hk:k=0\/k=1):x.SubFd (x.came k i o):=by
 intro j hj
 rcases hk with rfl | rfl<;>rcases hj with rfl | rfl<;>exact fun h=>⟨h,rfl⟩
theorem jev {x:Wi} {k:Nat} {i o:Bool} (hk:k=0\/k=1) (a:WiOk x):WiOk (x.came k i o):=by
 rcases hk with rfl | rfl
 ·refine a.of rfl (fun j hj=>?_) (fun j hj=>?_) (fun j hj q hq=>?_) fun h=>h
  ·rcases hj with rfl | rfl<;>rfl
  ·rcases hj with rfl | rfl<;>exact Iff.rfl
  ·rcases hj with rfl | rfl
   ·exact a.len 0 Zd q hq
   ·exact a.len 1 Zd q hq
 ·refine a.of rfl (fun j hj=>?_) (fun j hj=>?_) (fun j hj q hq=>?_) fun h=>h
  ·rcases hj with rfl | rfl<;>rfl
  ·rcases hj with rfl | rfl<;>exact Iff.rfl
  ·rcases hj with rfl | rfl
   ·exact a.len 0 Zd q hq
   ·exact a.len 1 Zd q hq
theorem jhh {x:Wi} {k:Nat} {i o:Bool} (hk:k=0\/k=1):(x.came k i o).e0.what=x.e0.what:=by rcases hk with rfl | rfl<;>rfl
theorem jhg {x:Wi} {k:Nat} {i o:Bool} (hk:k=0\/k=1):(x.came k i o).waiting=x.waiting:=by rcases hk with rfl | rfl<;>rfl
theorem jgB {x:Wi} {k:Nat} {q:List UInt8} (hk:k=0\/k=1):x.SubFd (x.setq k q):=by
 intro j hj
 rcases hk with rfl | rfl<;>rcases hj with rfl | rfl<;>exact fun h=>⟨h,rfl⟩
theorem jgA {x:Wi} {k:Nat} {q q':List UInt8} (hk:k=0\/k=1) (hq:(x.e k).ring=some q) (hl:q'.length<=x.cap) (a:WiOk x):WiOk (x.setq k q'):=by
 rcases hk with rfl | rfl
 ·have hq:x.e0.ring=some q:=hq
  refine a.of rfl (fun j hj=>?_) (fun j hj=>?_) (fun j hj q2 hq2=>?_) fun h=>h
  ·rcases hj with rfl | rfl<;>rfl
  ·rcases hj with rfl | rfl
   ·show (some q'=none)↔x.e0.ring=none
    rw [hq];simp
   ·exact Iff.rfl
  ·rcases hj with rfl | rfl
   ·have:some q'=some q2:=hq2
    cases this;exact hl
   ·exact a.len 1 Zd q2 hq2
 ·have hq:x.e1.ring=some q:=hq
  refine a.of rfl (fun j hj=>?_) (fun j hj=>?_) (fun j hj q2 hq2=>?_) fun h=>h
  ·rcases hj with rfl | rfl<;>rfl
  ·rcases hj with rfl | rfl
   ·exact Iff.rfl
   ·show (some q'=none)↔x.e1.ring=none
    rw [hq];simp
  ·rcases hj with rfl | rfl
   ·exact a.len 0 Zd q2 hq2
   ·have:some q'=some q2:=hq2
    cases this;exact hl
theorem jkY {x:Wi} {k:Nat} {q:List UInt8} (hk:k=0\/k=1):(x.setq k q).e0.what=x.e0.what:=by rcases hk with rfl | rfl<;>rfl
theorem jkX {x:Wi} {k:Nat} {q:List UInt8} (hk:k=0\/k=1):(x.setq k q).waiting=x.waiting:=by rcases hk with rfl | rfl<;>rfl
theorem jbt {k:Nat} (hk:k=0\/k=1):1-k=0\/1-k=1:=by omega
theorem WsK.take {ws:Ws} {n k m:Nat} {x:Wi} {q:List UInt8} (K:WsK ws) (hx:ws[n]?=some x) (hk:k=0\/k=1) (hq:(x.e k).ring=some q):WsK (ws.set n (x.take k m q)):=by
 have hl:=(K.ok.ok x (zc hx)).len k hk q hq
 exact K.set hx ((jgB hk).trans (jew (jbt hk))) (fun a=>jev (jbt hk) (jgA hk hq (by rw [List.length_drop];omega) a)) (by unfold Wi.take;rw [jhg (jbt hk),jkX hk]) (by unfold Wi.take;rw [jhh (jbt hk),jkY hk];exact id)
theorem WsK.fill {ws:Ws} {n k m:Nat} {x:Wi} {q b:List UInt8} (K:WsK ws) (hx:ws[n]?=some x) (hk:k=0\/k=1) (hq:(x.e (1-k)).ring=some q) (hm:m<=x.cap-q.length):WsK (ws.set n (x.fill k m q b)):=by
 have hl:=(K.ok.ok x (zc hx)).len (1-k) (jbt hk) q hq
 exact K.set hx ((jgB (jbt hk)).trans (jew (jbt hk))) (fun a=>jev (jbt hk) (jgA (jbt hk) hq (by rw [zf,List.length_take];omega) a)) (by unfold Wi.fill;rw [jhg (jbt hk),jkX (jbt hk)]) (by unfold Wi.fill;rw [jhh (jbt hk),jkY (jbt hk)];exact id)
theorem WsK.doShut {ws:Ws} {n k:Nat} {x:Wi} (K:WsK ws) (hx:ws[n]?=some x) (hk:k=0\/k=1):WsK (ws.set n (x.doShut k)):=by
 have e:x.SubFd (x.doShut k)/\(WiOk x->WiOk (x.doShut k))/\(x.doShut k).waiting=x.waiting/\(x.e0.what=0->(x.doShut k).e0.what=0):=by
  unfold Wi.doShut
  split
  ·exact ⟨Wi.SubFd.refl x,id,rfl,id⟩
  ·have p:x.SubFd (x.put k { x.e k with shut:=true })/\(WiOk x->WiOk (x.put k { x.e k with shut:=true }))/\(x.put k { x.e k with shut:=true }).waiting=x.waiting/\(x.put k { x.e k with shut:=true }).e0.what=x.e0.what:=by
    rcases hk with rfl | rfl
    ·refine ⟨fun j hj=>by (rcases hj with rfl | rfl<;>exact fun h=>⟨h,rfl⟩),fun a=>⟨a.cap0,a.cap1,fun j hj=>?_,fun j hj=>?_,a.out,a.bl,a.wh⟩,rfl,rfl⟩
     ·have:=a.len j hj;rcases hj with rfl | rfl<;>exact this
     ·have:=a.pair j hj;rcases hj with rfl | rfl<;>exact this
    ·refine ⟨fun j hj=>by (rcases hj with rfl | rfl<;>exact fun h=>⟨h,rfl⟩),fun a=>⟨a.cap0,a.cap1,fun j hj=>?_,fun j hj=>?_,a.out,a.bl,a.wh⟩,rfl,rfl⟩
     ·have:=a.len j hj;rcases hj with rfl | rfl<;>exact this
     ·have:=a.pair j hj;rcases hj with rfl | rfl<;>exact this
   exact ⟨p.1.trans (jew (jbt hk)),fun a=>jev (jbt hk) (p.2.1 a),by rw [jhg (jbt hk),p.2.2.1],fun h=>by rw [jhh (jbt hk),p.2.2.2,h]⟩
 exact K.set hx e.1 e.2.1 e.2.2.1 e.2.2.2
theorem jfD {x:Wi} {k:Nat} (hk:k=0\/k=1):x.SubFd (x.close k)/\(WiOk x->WiOk (x.close k))/\(x.close k).waiting=x.waiting/\(x.e0.what=0->k=1->(x.close k).e0.what=0):=by
 have c1:x.SubFd (x.came (1-k) (!(x.e k).shut) true):=jew (jbt hk)
 have c2:WiOk x->WiOk (x.came (1-k) (!(x.e k).shut) true):=jev (jbt hk)
 have c3:(x.came (1-k) (!(x.e k).shut) true).waiting=x.waiting:=jhg (jbt hk)
 have c4:(x.came (1-k) (!(x.e k).shut) true).e0.what=x.e0.what:=jhh (jbt hk)
 unfold Wi.close
 generalize x.came (1-k) (!(x.e k).shut) true=y at c1 c2 c3 c4 ⊢
 have p:y.SubFd (y.put k { y.e k with what:=3 })/\(WiOk y->WiOk (y.put k { y.e k with what:=3 }))/\(y.put k { y.e k with what:=3 }).waiting=y.waiting/\(k=1->(y.put k { y.e k with what:=3 }).e0.what=y.e0.what):=by
  rcases hk with rfl | rfl
  ·refine ⟨fun j hj=>?_,fun a=>⟨a.cap0,a.cap1,fun j hj=>?_,fun j hj=>?_,a.out,a.bl,⟨⟨by show (0:Int)<=3;omega,by show (3:Int)<=3;omega⟩,a.wh.2⟩⟩,rfl,fun e=>by cases e⟩
   ·rcases hj with rfl | rfl
    ·intro h
     have h:(3:Int)=1:=h
     omega
    ·exact fun h=>⟨h,rfl⟩
   ·have:=a.len j hj;rcases hj with rfl | rfl<;>exact this
   ·have:=a.pair j hj;rcases hj with rfl | rfl<;>exact this
  ·refine ⟨fun j hj=>?_,fun a=>⟨a.cap0,a.cap1,fun j hj=>?_,fun j hj=>?_,fun h=>?_,a.bl,⟨a.wh.1,by show (0:Int)<=3;omega,by show (3:Int)<=3;omega⟩⟩,rfl,fun _=>rfl⟩
   ·rcases hj with rfl | rfl
    ·exact fun h=>⟨h,rfl⟩
    ·intro h
     have h:(3:Int)=1:=h
     omega
   ·have:=a.len j hj;rcases hj with rfl | rfl<;>exact this
   ·have:=a.pair j hj;rcases hj with rfl | rfl<;>exact this
   ·have h:(3:Int)=2:=h
    omega
 exact ⟨c1.trans p.1,fun a=>p.2.1 (c2 a),by rw [p.2.2.1,c3],fun h hk=>by rw [p.2.2.2 hk,c4,h]⟩
theorem jji {vs:Ws} {m:Int} : (jet vs m).length=vs.length /\ ∀ (i:Nat) (z':Wi),(jet vs m)[i]?=some z' -> ∃ z,vs[i]?=some z/\z.SubFd z'/\(WiOk z->WiOk z')/\z'.waiting=z.waiting/\(m.toNat≠i->z'=z):=by
 unfold jet
 split
 ·exact ⟨rfl,fun i z' h=>⟨z',h,Wi.SubFd.refl _,id,rfl,fun _=>rfl⟩⟩
 ·next x hx=>
  refine ⟨by simp,fun i z' h=>?_⟩
  rcases jcP h with ⟨rfl,rfl⟩ | ⟨hne,h⟩
  ·have c:=jfD (x:=x) (k:=0) (.inl rfl)
   exact ⟨x,hx,c.1,c.2.1,c.2.2.1,fun h=>zI rfl h⟩
  ·exact ⟨z',h,Wi.SubFd.refl _,id,rfl,fun _=>rfl⟩
theorem je6 : ∀ (L:List Int) (vs:Ws),(jb7 vs L).length=vs.length /\ ∀ (i:Nat) (z':Wi),(jb7 vs L)[i]?=some z' -> ∃ z,vs[i]?=some z/\z.SubFd z'/\(WiOk z->WiOk z')/\z'.waiting=z.waiting/\((∀ m∈L,m.toNat≠i)->z'=z)
 | [],vs=>⟨rfl,fun i z' h=>⟨z',h,Wi.SubFd.refl _,id,rfl,fun _=>rfl⟩⟩
 | m :: L,vs=>by
  obtain ⟨a1,a2⟩:=je6 L (jet vs m)
  obtain ⟨b1,b2⟩:=jji (vs:=vs) (m:=m)
  refine ⟨by rw [jb7,a1,b1],fun i z' h=>?_⟩
  obtain ⟨y,h1,s1,o1,w1,n1⟩:=a2 i z' h
  obtain ⟨z,h2,s2,o2,w2,n2⟩:=b2 i y h1
  refine ⟨z,h2,s2.trans s1,fun a=>o1 (o2 a),by rw [w1,w2],fun hn=>?_⟩
  rw [n1 fun m' hm'=>hn m' (zk _ hm'),n2 (hn m (zi ..))]
theorem WsK.close {ws:Ws} {n k:Nat} {x:Wi} (K:WsK ws) (hx:ws[n]?=some x) (hk:k=0\/k=1) (h1:(x.e k).what=1):WsK (noWait (jb7 (ws.set n (x.close k)) x.waiting) n):=by
 obtain ⟨a1,a2⟩:=je6 x.waiting (ws.set n (x.close k))
 have c:=jfD (x:=x) hk
 have hn:=w_lt hx
 obtain ⟨u,hu⟩:=jm4 (ws:=jb7 (ws.set n (x.close k)) x.waiting) (n:=n) (by rw [a1];simpa using hn)
 have e:noWait (jb7 (ws.set n (x.close k)) x.waiting) n=(jb7 (ws.set n (x.close k)) x.waiting).set n { u with waiting:=[] } := by
  unfold noWait;rw [hu]
 rw [e]
 refine K.mild (by rw [List.length_set,a1,List.length_set]) fun i z' hz=>?_
 have back : ∀ (i:Nat) (z:Wi),(ws.set n (x.close k))[i]?=some z -> ∃ y,ws[i]?=some y/\y.SubFd z/\(WiOk y->WiOk z)/\z.waiting=y.waiting/\(y.e0.what=0->z.e0.what=0):=by
  intro i z hz
  rcases jcP hz with ⟨rfl,rfl⟩ | ⟨_,hz⟩
  ·refine ⟨x,hx,c.1,c.2.1,c.2.2.1,fun h=>c.2.2.2 h ?_⟩
   rcases hk with rfl | rfl
   ·have h1:x.e0.what=1:=h1
    omega
   ·rfl
  ·exact ⟨z,hz,Wi.SubFd.refl _,id,rfl,id⟩
 rcases jcP hz with ⟨rfl,rfl⟩ | ⟨hne,hz⟩
 ·obtain ⟨z,z1,z2,z3,z4,z5⟩:=a2 _ _ hu
  obtain ⟨y,y1,y2,y3,y4,y5⟩:=back _ _ z1
  have yo:=z3 (y3 (K.ok.ok y (zc y1)))
  refine ⟨y,y1,fun j hj h=>(y2.trans z2) j hj (by rcases hj with rfl | rfl<;>exact h) |>.imp id fun e=>by (rcases hj with rfl | rfl<;>exact e),⟨yo.cap0,yo.cap1,yo.len,yo.pair,yo.out,yo.bl,yo.wh⟩,⟨y.waiting.length,by simp⟩,?_⟩
  rintro h0 ⟨j,v,hv,hm⟩
  show u.e0.what=0
  rw [z5 ?_]
  ·exact y5 h0
  rintro m hm2 rfl
  rcases jcP hv with ⟨rfl,rfl⟩ | ⟨hj,hv⟩
  ·simp at hm
  ·obtain ⟨z',z1',_,_,z4',_⟩:=a2 _ _ hv
   rcases jcP z1' with ⟨rfl,_⟩ | ⟨_,z1'⟩
   ·exact hj rfl
   rw [z4'] at hm
   have m0:0<=m:=by obtain ⟨y,y0,_⟩:=(K.ok.wait x (zc hx)).2 m hm2;exact y0
   rw [Int.toNat_of_nonneg m0] at hm
   obtain ⟨p,hp⟩:=zY.1 hm
   obtain ⟨q,hq⟩:=zY.1 hm2
   exact hj (K.one j _ z' x p q m z1' hx hp hq).1
 ·obtain ⟨z,z1,z2,z3,z4,z5⟩:=a2 _ _ hz
  obtain ⟨y,y1,y2,y3,y4,y5⟩:=back _ _ z1
  refine ⟨y,y1,y2.trans z2,z3 (y3 (K.ok.ok y (zc y1))),⟨0,by rw [z4,y4];rfl⟩,?_⟩
  rintro h0 ⟨j,v,hv,hm⟩
  rw [z5 ?_]
  ·exact y5 h0
  rintro m hm2 rfl
  rcases jcP hv with ⟨rfl,rfl⟩ | ⟨hj,hv⟩
  ·simp at hm
  ·obtain ⟨z',z1',_,_,z4',_⟩:=a2 _ _ hv
   rcases jcP z1' with ⟨rfl,_⟩ | ⟨_,z1'⟩
   ·exact hj rfl
   rw [z4'] at hm
   have m0:0<=m:=by obtain ⟨y,y0,_⟩:=(K.ok.wait x (zc hx)).2 m hm2;exact y0
   rw [Int.toNat_of_nonneg m0] at hm
   obtain ⟨p,hp⟩:=zY.1 hm
   obtain ⟨q,hq⟩:=zY.1 hm2
   exact hj (K.one j n z' x p q m z1' hx hp hq).1
theorem jlE {ws:Ws} {fd:Int} {n k:Nat} (h:atS ws fd=some (n,k)):AtW ws n k fd:=by
 unfold atS at h
 split at h
 ·next hx=>
  have:=hx.choose_spec
  rw [Option.some.inj h] at this
  exact this
 ·cases h
theorem jlD {ws:Ws} {fd:Int} (h:atS ws fd=none) : ∀ n k,¬ AtW ws n k fd:=by
 intro n k a
 unfold atS at h
 rw [dif_pos ⟨(n,k),a⟩] at h
 cases h
theorem ja8 {α : Type} {P : α -> Prop} {ws:Ws} {fd:Int} {no : α} {f:Nat->Nat->Wi -> α} (hno:P no) (h : ∀ n k x,ws[n]?=some x->(k=0\/k=1)->(x.e k).what=1->P (f n k x)):P (jbw ws fd no f):=by
 unfold jbw
 cases e:atS ws fd with
 | none=>exact hno
 | some p=>
  obtain ⟨n,k⟩:=p
  obtain ⟨x,hx,hk,h1,_⟩:=jlE e
  simp only [hx]
  exact h n k x hx hk h1
theorem ja9 {α : Type} {P : α -> Prop} {ws:Ws} {n:Int} {no : α} {f:Nat->Wi -> α} (hno:P no) (h : ∀ n x,ws[n]?=some x->x.e1.what=2->P (f n x)):P (jbT ws n no f):=by
 unfold jbT
 split
 ·split
  ·exact hno
  ·next x hx=>
   split
   ·next h2=>exact h _ _ hx h2
   ·exact hno
 ·exact hno
theorem readS_ok {ws:Ws} {fd many:Int} (K:WsK ws):WsK (jlj ws fd many).2:=by
 unfold jlj
 refine ja8 (P:=fun r:_ × Ws=>WsK r.2) K fun n k x hx hk h1=>?_
 split
 ·exact K
 ·next q hq=>
  repeat' split
  all_goals first | exact K | exact K.take hx hk hq
theorem writeS_ok {ws:Ws} {fd:Int} {b:List UInt8} (K:WsK ws):WsK (jhr ws fd b).2:=by
 unfold jhr
 refine ja8 (P:=fun r:_ × Ws=>WsK r.2) K fun n k x hx hk h1=>?_
 split
 ·exact K
 split
 ·exact K
 split
 ·exact K
 split
 ·exact K
 split
 ·exact K
 ·next q hq=>
  split
  ·exact K.fill hx hk hq (zW _)
  ·exact K.fill hx hk hq (Nat.min_le_right _ _)
theorem shutS_ok {ws:Ws} {fd:Int} (K:WsK ws):WsK (jkV ws fd).2:=by
 unfold jkV
 refine ja8 (P:=fun r:_ × Ws=>WsK r.2) K fun n k x hx hk h1=>?_
 split
 ·exact K
 ·exact K.doShut hx hk
theorem closeS_ok {ws:Ws} {fd:Int} (K:WsK ws):WsK (ji0 ws fd).2:=by
 unfold ji0
 exact ja8 (P:=fun r:_ × Ws=>WsK r.2) K fun n k x hx hk h1=>K.close hx hk h1
theorem putS_ok {ws:Ws} {n:Int} {b:List UInt8} (K:WsK ws):WsK (putS ws n b).2:=by
 unfold putS
 refine ja9 (P:=fun r:_ × Ws=>WsK r.2) K fun n x hx h2=>?_
 split
 ·exact K
 split
 ·exact K
 split
 ·exact K
 ·next q hq=>exact K.fill hx (.inr rfl) hq (Nat.min_le_right _ _)
theorem takeS_ok {ws:Ws} {n many:Int} (K:WsK ws):WsK (jdv ws n many).2:=by
 unfold jdv
 refine ja9 (P:=fun r:_ × Ws=>WsK r.2) K fun n x hx h2=>?_
 split
 ·exact K
 split
 ·exact K
 split
 ·exact K
 ·next q hq=>exact K.take hx (.inr rfl) hq
theorem jhJ {ws:Ws} {n:Int} (K:WsK ws):WsK (jbd ws n).2 :=
 ja9 (P:=fun r:_ × Ws=>WsK r.2) K fun _ _ hx _=>K.doShut hx (.inr rfl)
theorem jgJ {ws:Ws} {n:Int} (K:WsK ws):WsK (jaM ws n).2 :=
 ja9 (P:=fun r:_ × Ws=>WsK r.2) K fun _ _ hx _=>
  have c:=jfD (k:=1) (.inr rfl)
  K.set hx c.1 c.2.1 c.2.2.1 fun h=>c.2.2.2 h rfl
theorem resetS_ok {ws:Ws} {n:Int} (K:WsK ws):WsK (jcU ws n).2:=by
 unfold jcU
 refine ja9 (P:=fun r:_ × Ws=>WsK r.2) K fun n x hx h2=>?_
 have o:=K.ok.ok x (zc hx)
 obtain ⟨q0,q1⟩:=o.out h2
 obtain ⟨a,ha⟩ : ∃ a,x.e0.ring=some a:=zJ.1 q0
 obtain ⟨b,hb⟩ : ∃ b,x.e1.ring=some b:=zJ.1 q1
 have e:x.SubFd x.doReset/\(WiOk x->WiOk x.doReset)/\x.doReset.waiting=x.waiting/\x.doReset.e0.what=x.e0.what:=by
  unfold Wi.doReset
  split
  ·exact ⟨Wi.SubFd.refl x,id,rfl,rfl⟩
  ·have z0:(0:Nat)=0\/(0:Nat)=1 := .inl rfl
   have z1:(1:Nat)=0\/(1:Nat)=1 := .inr rfl
   have p0:x.SubFd { x with reset:=true } /\ (WiOk x->WiOk { x with reset:=true }):=by
    refine ⟨fun j hj=>by (rcases hj with rfl | rfl<;>exact fun h=>⟨h,rfl⟩),fun a=>⟨a.cap0,a.cap1,fun j hj=>?_,fun j hj=>?_,a.out,a.bl,a.wh⟩⟩
    ·have:=a.len j hj;rcases hj with rfl | rfl<;>exact this
    ·have:=a.pair j hj;rcases hj with rfl | rfl<;>exact this
   refine ⟨(((p0.1.trans (jgB z0)).trans (jew z0)).trans (jgB z1)).trans (jew z1),fun o=>jev z1 (jgA (q:=b) z1 hb (zW _) (jev z0 (jgA (q:=a) z0 ha (zW _) (p0.2 o)))),rfl,rfl⟩
 exact K.set hx e.1 e.2.1 e.2.2.1 fun h=>by rw [e.2.2.2,h]
theorem jdj {ws:Ws} {x:Wi} {n k:Nat} {fd:Int} (h:AtW (ws++[x]) n k fd):AtW ws n k fd\/(n=ws.length/\(k=0\/k=1)/\(x.e k).what=1/\(x.e k).fd=fd):=by
 obtain ⟨y,hy,hk,h1,h2⟩:=h
 rcases zu n ws.length with hl | hl
 ·rw [ze,zC hl] at hy
  exact .inl ⟨y,hy,hk,h1,h2⟩
 ·rw [ze,zz om] at hy
  have:n-ws.length=0:=by
   rcases Nat.eq_zero_or_pos (n-ws.length) with e | e
   ·exact e
   ·rw [zd (show 1<=_ from e)] at hy;cases hy
  rw [this] at hy
  cases hy
  exact .inr ⟨by omega,hk,h1,h2⟩
theorem jgH {ws:Ws} {x y:Wi} {n:Nat} (h:(ws++[x])[n]?=some y):ws[n]?=some y\/(n=ws.length/\y=x):=by
 rcases zu n ws.length with hl | hl
 ·rw [ze,zC hl] at h
  exact .inl h
 ·rw [ze,zz om] at h
  have:n-ws.length=0:=by
   rcases Nat.eq_zero_or_pos (n-ws.length) with e | e
   ·exact e
   ·rw [zd (show 1<=_ from e)] at h;cases h
  rw [this] at h
  cases h
  exact .inr ⟨by omega,rfl⟩
theorem jdF {ws:Ws} {x y:Wi} {n:Nat} (h:ws[n]?=some y):(ws++[x])[n]?=some y:=by rw [ze,zC (w_lt h),h]
theorem push_uniq {ws:Ws} {x:Wi} (u:Uniq ws) (hf : ∀ k,k=0\/k=1->(x.e k).what=1 -> ∀ n j,¬ AtW ws n j (x.e k).fd) (h2:x.e0.what=1->x.e1.what=1->x.e0.fd≠x.e1.fd):Uniq (ws++[x]):=by
 intro n k n' k' fd a b
 rcases jdj a with a | ⟨rfl,hk,w1,f1⟩
 ·rcases jdj b with b | ⟨rfl,hk',w1,f1⟩
  ·exact u _ _ _ _ _ a b
  ·exact zI (by rw [f1];exact a) (hf k' hk' w1 n k)
 ·rcases jdj b with b | ⟨rfl,hk',w2,f2⟩
  ·exact zI (by rw [f1];exact b) (hf k hk w1 n' k')
  ·refine ⟨rfl,?_⟩
   rcases hk with rfl | rfl<;>rcases hk' with rfl | rfl
   ·rfl
   ·exact zI (f1.trans f2.symm) (h2 w1 w2)
   ·exact zI (f2.trans f1.symm) (h2 w2 w1)
   ·rfl
theorem WsK.push {ws:Ws} {x:Wi} (K:WsK ws) (ox:WiOk x) (hw:x.waiting=[]) (hl:ws.length<1000) (hf : ∀ k,k=0\/k=1->(x.e k).what=1 -> ∀ n j,¬ AtW ws n j (x.e k).fd) (h2:x.e0.what=1->x.e1.what=1->x.e0.fd≠x.e1.fd):WsK (ws++[x]):=by
 refine ⟨⟨push_uniq K.ok.uniq hf h2,fun y hy=>?_,by rw [zf];show ws.length+1<=1000;omega,fun y hy=>?_⟩,?_⟩
 ·rcases zM.1 hy with h | h
  ·exact K.ok.ok y h
  ·obtain rfl:y=x:=by simpa using h
   exact ox
 ·rcases zM.1 hy with h | h
  ·obtain ⟨p1,p2⟩:=K.ok.wait y h
   refine ⟨p1,fun m hm=>?_⟩
   obtain ⟨z,z0,z1,z2⟩:=p2 m hm
   exact ⟨z,z0,jdF z1,z2⟩
  ·obtain rfl:y=x:=by simpa using h
   rw [hw];simp
 ·intro i j a b p q m ha hb hp hq
  rcases jgH ha with ha | ⟨rfl,rfl⟩
  ·rcases jgH hb with hb | ⟨rfl,rfl⟩
   ·exact K.one i j a b p q m ha hb hp hq
   ·rw [hw] at hq;simp at hq
  ·rw [hw] at hp;simp at hp
theorem jcX {ws:Ws} {n:Nat} {f:Int} (h:f∈jar ws n) : ∃ i:Nat,f=i/\i<n/\atS ws f=none:=by
 unfold jar at h
 obtain ⟨i,hi,rfl⟩:=List.mem_map.1 h
 obtain ⟨p1,p2⟩:=List.mem_filter.1 hi
 refine ⟨i,rfl,by simpa using p1,?_⟩
 simpa using p2
theorem jf9 (ws:Ws) (n:Nat):(jar ws n).Nodup:=by
 unfold jar
 exact (List.Pairwise.filter _ List.nodup_range).map _ fun a b (h:a≠b)=>by show (a:Int)≠(b:Int);omega
theorem jgV {ws:Ws} {kind n:Int} (hk:kind=0\/kind=1\/kind=2\/kind=3) (K:WsK ws):WsK (jaZ ws kind n).2:=by
 unfold jaZ
 split
 ·exact K
 next hb=>
 split
 ·exact K
 next f0 fs hF=>
 split
 ·exact K
 next hbad=>
 have hn:1<=n/\n<=65536:=by omega
 have hnt:1<=n.toNat/\n.toNat<=65536:=by omega
 obtain ⟨i0,e0,_,a0⟩:=jcX (ws:=ws) (n:=96) (f:=f0) (by rw [hF];simp)
 have n0:=jlD a0
 have nd:=jf9 ws 96
 rw [hF] at nd
 have h1:kind<2 -> ∃ f1,fs.headD 0=f1/\f0≠f1 /\ ∀ n k,¬ AtW ws n k f1:=by
  intro h
  cases fs with
  | nil=>exact zI (.inl ⟨rfl,h⟩) hbad
  | cons f1 r=>
   obtain ⟨i1,e1,_,a1⟩:=jcX (ws:=ws) (n:=96) (f:=f1) (by rw [hF];simp)
   refine ⟨f1,rfl,fun e=>?_,jlD a1⟩
   subst e
   exact zI nd Zd
 have hlen:ws.length<1000:=by omega
 have two1 : ∀ {x:Wi},x.e0.fd=f0->(x.e1.what=1->x.e1.fd=fs.headD 0/\kind<2) -> ∀ k,k=0\/k=1->(x.e k).what=1 -> ∀ n j,¬ AtW ws n j (x.e k).fd:=by
  intro x p0 p1 k hk h
  rcases hk with rfl | rfl
  ·show ∀ n j,¬ AtW ws n j x.e0.fd
   rw [p0];exact n0
  ·obtain ⟨q1,q2⟩:=p1 h
   obtain ⟨f1,r1,_,r2⟩:=h1 q2
   show ∀ n j,¬ AtW ws n j x.e1.fd
   rw [q1,r1];exact r2
 have mk : ∀ (x:Wi),(∀ k,k=0\/k=1 -> ∀ q,(x.e k).ring=some q->q=[])->x.cap=n.toNat->(∀ k,k=0\/k=1->((x.e k).writes=true↔(x.e (1-k)).ring≠none))->(x.e1.what=2->x.e0.ring≠none/\x.e1.ring≠none)->0<=x.backlog/\x.backlog<=64->WhV x->WiOk x:=by
  intro x p1 p2 p3 p4 p5 p6
  exact ⟨by rw [p2];exact hnt.1,by rw [p2];exact hnt.2,fun k hk q hq=>by rw [p1 k hk q hq];exact zW _,p3,p4,p5,p6⟩
 rcases hk with rfl | rfl | rfl | rfl
 ·have e:newW 0 n f0 (fs.headD 0)=⟨⟨1,f0,some [],false,false,0,0⟩,⟨1,fs.headD 0,none,true,false,0,0⟩,n.toNat,false,0,[]⟩:=rfl
  refine K.push (mk _ (fun k hk q hq=>?_) rfl (fun k hk=>?_) (fun h=>?_) ?_ ⟨⟨zH rfl,zH rfl⟩,zH rfl,zH rfl⟩) rfl hlen (two1 rfl fun _=>⟨rfl,by omega⟩) fun _ _=>?_
  ·rcases hk with rfl | rfl
   ·have:some []=some q:=hq
    cases this;rfl
   ·have:none=some q:=hq
    cases this
  ·rcases hk with rfl | rfl
   ·show (false=true↔(none:Option (List UInt8))≠none);simp
   ·show (true=true↔some ([]:List UInt8)≠none);simp
  ·have h:(1:Int)=2:=h
   omega
  ·show (0:Int)<=0/\(0:Int)<=64;omega
  ·obtain ⟨f1,r1,r0,_⟩:=h1 om
   show f0≠fs.headD 0
   rw [r1];exact r0
 ·refine K.push (mk _ (fun k hk q hq=>?_) rfl (fun k hk=>?_) (fun h=>?_) ?_ ⟨⟨zH rfl,zH rfl⟩,zH rfl,zH rfl⟩) rfl hlen (two1 rfl fun _=>⟨rfl,by omega⟩) fun _ _=>?_
  ·rcases hk with rfl | rfl
   ·have:some []=some q:=hq
    cases this;rfl
   ·have:some []=some q:=hq
    cases this;rfl
  ·rcases hk with rfl | rfl
   ·show (true=true↔some ([]:List UInt8)≠none);simp
   ·show (true=true↔some ([]:List UInt8)≠none);simp
  ·have h:(1:Int)=2:=h
   omega
  ·show (0:Int)<=0/\(0:Int)<=64;omega
  ·obtain ⟨f1,r1,r0,_⟩:=h1 om
   show f0≠fs.headD 0
   rw [r1];exact r0
 ·refine K.push (mk _ (fun k hk q hq=>?_) rfl (fun k hk=>?_) (fun h=>?_) ?_ ⟨⟨zH rfl,zH rfl⟩,zH rfl,zH rfl⟩) rfl hlen (two1 rfl fun h=>?_) fun _ h=>?_
  ·rcases hk with rfl | rfl
   ·have:some []=some q:=hq
    cases this;rfl
   ·have:some []=some q:=hq
    cases this;rfl
  ·rcases hk with rfl | rfl
   ·show (true=true↔some ([]:List UInt8)≠none);simp
   ·show (true=true↔some ([]:List UInt8)≠none);simp
  ·exact ⟨by show some []≠none;simp,by show some []≠none;simp⟩
  ·show (0:Int)<=0/\(0:Int)<=64;omega
  ·have h:(2:Int)=1:=h
   omega
  ·have h:(2:Int)=1:=h
   omega
 ·refine K.push (mk _ (fun k hk q hq=>?_) rfl (fun k hk=>?_) (fun h=>?_) ?_ ⟨⟨zH rfl,zH rfl⟩,zH rfl,zH rfl⟩) rfl hlen (two1 rfl fun h=>?_) fun _ h=>?_
  ·rcases hk with rfl | rfl
   ·have:none=some q:=hq
    cases this
   ·have:none=some q:=hq
    cases this
  ·rcases hk with rfl | rfl
   ·show (false=true↔(none:Option (List UInt8))≠none);simp
   ·show (false=true↔(none:Option (List UInt8))≠none);simp
  ·have h:(0:Int)=2:=h
   omega
  ·show 0<=n/\n<=64;omega
  ·have h:(0:Int)=1:=h
   omega
  ·have h:(0:Int)=1:=h
   omega
theorem jhm {ws:Ws} {m n k:Nat} {f fd:Int} {y:Wi} (hy:ws[m]?=some y) (h:AtW (ws.set m (y.put 0 { y.e 0 with what:=1,fd:=f })) n k fd):(n=m/\k=0/\fd=f)\/(AtW ws n k fd/\(n=m->k=1)):=by
 obtain ⟨x,hx,hk,h1,h2⟩:=h
 rcases jcP hx with ⟨rfl,rfl⟩ | ⟨hne,hx⟩
 ·rcases hk with rfl | rfl
  ·exact .inl ⟨rfl,rfl,h2.symm⟩
  ·exact .inr ⟨⟨y,hy,.inr rfl,h1,h2⟩,fun _=>rfl⟩
 ·exact .inr ⟨⟨x,hx,hk,h1,h2⟩,fun e=>zI e hne⟩
theorem WsK.seat {ws:Ws} {m:Nat} {f:Int} {y:Wi} (K:WsK ws) (hy:ws[m]?=some y) (hf : ∀ n k,¬ AtW ws n k f) (hw : ∀ (j:Nat) (u:Wi),ws[j]?=some u->(m:Int) ∉ u.waiting):WsK (ws.set m (y.put 0 { y.e 0 with what:=1,fd:=f })):=by
 have key : ∀ (i:Nat) (z':Wi),(ws.set m (y.put 0 { y.e 0 with what:=1,fd:=f }))[i]?=some z' -> ∃ z,ws[i]?=some z/\z'.waiting=z.waiting/\WiOk z'/\(i≠m->z'=z):=by
  intro i z' hz
  rcases jcP hz with ⟨rfl,rfl⟩ | ⟨hne,hz⟩
  ·have a:=K.ok.ok y (zc hy)
   refine ⟨y,hy,rfl,⟨a.cap0,a.cap1,fun j hj=>?_,fun j hj=>?_,a.out,a.bl,⟨by show (0:Int)<=1;omega,by show (1:Int)<=3;omega⟩,a.wh.2⟩,fun h=>zI rfl h⟩
   ·have:=a.len j hj;rcases hj with rfl | rfl<;>exact this
   ·have:=a.pair j hj;rcases hj with rfl | rfl<;>exact this
  ·exact ⟨z',hz,rfl,K.ok.ok z' (zc hz),fun _=>rfl⟩
 refine ⟨⟨?_,fun x hx=>?_,by rw [List.length_set];exact K.ok.len,fun x hx=>?_⟩,?_⟩
 ·intro n k n' k' fd a b
  rcases jhm hy a with ⟨h1,h2,h3⟩ | ⟨a2,_⟩
  ·rcases jhm hy b with ⟨h4,h5,_⟩ | ⟨b2,_⟩
   ·exact ⟨h1.trans h4.symm,h2.trans h5.symm⟩
   ·rw [h3] at b2;exact zI b2 (hf _ _)
  ·rcases jhm hy b with ⟨_,_,h3⟩ | ⟨b2,_⟩
   ·rw [h3] at a2;exact zI a2 (hf _ _)
   ·exact K.ok.uniq _ _ _ _ _ a2 b2
 ·obtain ⟨i,hi⟩:=zY.1 hx
  obtain ⟨_,_,_,h,_⟩:=key i x hi
  exact h
 ·obtain ⟨i,hi⟩:=zY.1 hx
  obtain ⟨z,z1,z2,_,_⟩:=key i x hi
  rw [z2]
  obtain ⟨p1,p2⟩:=K.ok.wait z (zc z1)
  refine ⟨p1,fun q hq=>?_⟩
  obtain ⟨u,u0,u1,u2⟩:=p2 q hq
  have hne:m≠q.toNat:=by
   rintro rfl
   refine hw i z z1 ?_
   rw [Int.toNat_of_nonneg u0];exact hq
  exact ⟨u,u0,by rw [zh,zz hne,u1],u2⟩
 ·intro i j a b p q v ha hb hp hq
  obtain ⟨a',a1,a2,_⟩:=key i a ha
  obtain ⟨b',b1,b2,_⟩:=key j b hb
  rw [a2] at hp
  rw [b2] at hq
  exact K.one i j a' b' p q v a1 b1 hp hq
theorem AtW_wait {ws:Ws} {n m k:Nat} {fd:Int} {x:Wi} {wt:List Int} (hx:ws[n]?=some x):AtW (ws.set n { x with waiting:=wt }) m k fd↔AtW ws m k fd:=by
 constructor
 ·rintro ⟨y,hy,hk,h1,h2⟩
  rcases jcP hy with ⟨rfl,rfl⟩ | ⟨_,hy⟩
  ·exact ⟨x,hx,hk,by rcases hk with rfl | rfl<;>exact h1,by rcases hk with rfl | rfl<;>exact h2⟩
  ·exact ⟨y,hy,hk,h1,h2⟩
 ·rintro ⟨y,hy,hk,h1,h2⟩
  by_cases e:m=n
  ·subst e
   rw [hx] at hy;cases hy
   exact ⟨_,by rw [zh,zC rfl,zC (w_lt hx)],hk,by rcases hk with rfl | rfl<;>exact h1,by rcases hk with rfl | rfl<;>exact h2⟩
  ·exact ⟨y,by rw [zh,zz (fun h=>e h.symm),hy],hk,h1,h2⟩
theorem jkF {ws:Ws} {fd:Int} (K:WsK ws):WsK (jfM ws fd).2:=by
 unfold jfM
 refine ja8 (P:=fun r:_ × Ws=>WsK r.2) K fun n k x hx hk h1=>?_
 split
 ·exact K
 split
 ·exact K
 next m rest hw=>
 split
 ·exact K
 next f fs hF=>
 split
 ·exact K
 next y hy=>
 have e:({ x with waiting:=rest } : Wi) = { x with waiting:=x.waiting.drop 1 } := by rw [hw];rfl
 have K1:=K.set_wait (c:=1) hx
 rw [<- e] at K1
 obtain ⟨i,_,_,hf⟩:=jcX (ws:=ws) (n:=96) (f:=f) (by rw [hF];simp)
 have nf:=jlD hf
 refine K1.seat hy (fun a b h=>nf a b ((AtW_wait hx).1 h)) fun j u hu hm=>?_
 have m0:0<=m:=by
  obtain ⟨z,z0,_⟩:=(K.ok.wait x (zc hx)).2 m (by rw [hw];simp)
  exact z0
 rw [Int.toNat_of_nonneg m0] at hm
 obtain ⟨q,hq⟩:=zY.1 hm
 rcases jcP hu with ⟨rfl,rfl⟩ | ⟨hne,hu⟩
 ·have:=(K.one j j x x 0 (q+1) m hx hx (by rw [hw];rfl) (by rw [hw];exact hq)).2
  omega
 ·exact hne (K.one j n u x q 0 m hu hx hq (by rw [hw];rfl)).1
theorem WsK.waits {ws:Ws} {n:Nat} {x y y2:Wi} {m:Int} (K:WsK ws) (hx:ws[n]?=some x) (hs:x.SubFd y) (hok:WiOk y) (hw:y.waiting=x.waiting++[m]) (h64:x.waiting.length<64) (h0:x.e0.what=0->y.e0.what=0)
  (m0:0<=m) (hm:ws[m.toNat]?=some y2) (hm2:y2.e0.what=0) (hno : ∀ (j:Nat) (u:Wi),ws[j]?=some u->m ∉ u.waiting):WsK (ws.set n y):=by
 have old : ∀ (p:Nat) (v:Int),y.waiting[p]?=some v->(x.waiting[p]?=some v)\/(v=m/\p=x.waiting.length):=by
  intro p v h
  rw [hw] at h
  rcases zu p x.waiting.length with hl | hl
  ·rw [ze,zC hl] at h;exact .inl h
  ·rw [ze,zz om] at h
   have:p-x.waiting.length=0:=by
    rcases Nat.eq_zero_or_pos (p-x.waiting.length) with e | e
    ·exact e
    ·rw [zd (show 1<=_ from e)] at h;cases h
   rw [this] at h;cases h
   exact .inr ⟨rfl,by omega⟩
 have tgt : ∀ (v:Int) (u:Wi),0<=v->ws[v.toNat]?=some u->u.e0.what=0 -> ∃ u':Wi,0<=v/\(ws.set n y)[v.toNat]?=some u'/\u'.e0.what=0:=by
  intro v u v0 hu hu0
  by_cases e:n=v.toNat
  ·rw [<- e,hx] at hu;cases hu
   exact ⟨y,v0,by rw [zh,zC e,zC (w_lt hx)],h0 hu0⟩
  ·exact ⟨u,v0,by rw [zh,zz e,hu],hu0⟩
 refine ⟨⟨?_,fun z hz=>?_,by rw [List.length_set];exact K.ok.len,fun z hz=>?_⟩,?_⟩
 ·have sub : ∀ i k fd,AtW (ws.set n y) i k fd->AtW ws i k fd:=by
   rintro i k fd ⟨z,hz,hk,h1,h2⟩
   rcases jcP hz with ⟨rfl,rfl⟩ | ⟨_,hz⟩
   ·exact ⟨x,hx,hk,(hs k hk h1).1,by rw [<- (hs k hk h1).2,h2]⟩
   ·exact ⟨z,hz,hk,h1,h2⟩
  exact fun a k b k' fd p q=>K.ok.uniq a k b k' fd (sub _ _ _ p) (sub _ _ _ q)
 ·rcases List.mem_or_eq_of_mem_set hz with h | rfl
  ·exact K.ok.ok z h
  ·exact hok
 ·rcases List.mem_or_eq_of_mem_set hz with h | rfl
  ·obtain ⟨p1,p2⟩:=K.ok.wait z h
   refine ⟨p1,fun v hv=>?_⟩
   obtain ⟨u,u0,u1,u2⟩:=p2 v hv
   exact tgt v u u0 u1 u2
  ·obtain ⟨p1,p2⟩:=K.ok.wait x (zc hx)
   rw [hw]
   refine ⟨by rw [zf];show _+1<=64;omega,fun v hv=>?_⟩
   rcases zM.1 hv with h | h
   ·obtain ⟨u,u0,u1,u2⟩:=p2 v h
    exact tgt v u u0 u1 u2
   ·obtain rfl:v=m:=by simpa using h
    exact tgt v y2 m0 hm hm2
 ·intro i j a b p q v ha hb hp hq
  rcases jcP ha with ⟨rfl,rfl⟩ | ⟨hi,ha2⟩
  ·rcases jcP hb with ⟨rfl,rfl⟩ | ⟨hj,hb2⟩
   ·refine ⟨rfl,?_⟩
    rcases old p v hp with h1 | ⟨rfl,h1⟩
    ·rcases old q v hq with h2 | ⟨rfl,h2⟩
     ·exact (K.one j j x x p q v hx hx h1 h2).2
     ·exact zI (zc h1) (hno j x hx)
    ·rcases old q v hq with h2 | ⟨_,h2⟩
     ·exact zI (zc h2) (hno j x hx)
     ·omega
   ·rcases old p v hp with h1 | ⟨rfl,h1⟩
    ·exact K.one _ j x b p q v hx hb2 h1 hq
    ·exact zI (zc hq) (hno j b hb2)
  ·rcases jcP hb with ⟨rfl,rfl⟩ | ⟨hj,hb2⟩
   ·rcases old q v hq with h1 | ⟨rfl,h1⟩
    ·exact K.one i _ a x p q v ha2 hx hp h1
    ·exact zI (zc hp) (hno i a ha2)
   ·exact K.one i j a b p q v ha2 hb2 hp hq
theorem jiX {many:Int} (h1:1<=many) (h2:many<=65536):WiOk (jaC many):=by
 refine ⟨by show 1<=many.toNat;omega,by show many.toNat<=65536;omega,fun k hk q hq=>?_,fun k hk=>?_,fun _=>⟨by show some []≠none;simp,by show some []≠none;simp⟩,by show (0:Int)<=0/\(0:Int)<=64;omega,⟨zH rfl,zH rfl⟩,zH rfl,zH rfl⟩
 ·rcases hk with rfl | rfl
  ·have:some []=some q:=hq
   cases this;exact zW _
  ·have:some []=some q:=hq
   cases this;exact zW _
 ·rcases hk with rfl | rfl
  ·show (true=true↔some ([]:List UInt8)≠none);simp
  ·show (true=true↔some ([]:List UInt8)≠none);simp
theorem jfC {ws:Ws} {n many:Int} (K:WsK ws):WsK (jas ws n many).2:=by
 unfold jas
 split
 ·exact K
 split
 ·exact K
 next x hx=>
 split
 ·exact K
 split
 ·exact K
 next hm=>
 split
 ·exact K
 next hbl=>
 split
 ·exact K
 next hlen=>
 have a:=K.ok.ok x (zc hx)
 have K2:WsK (ws++[jaC many]):=by
  refine K.push (jiX om om) rfl om (fun k hk h=>?_) fun h=>?_
  ·rcases hk with rfl | rfl
   ·have h:(0:Int)=1:=h
    omega
   ·have h:(2:Int)=1:=h
    omega
  ·have h:(0:Int)=1:=h
   omega
 have hn:=w_lt hx
 have hmn:(ws++[jaC many])[((ws.length:Nat):Int).toNat]?=some (jaC many):=by simp
 have K3:=K2.waits (n:=n.toNat) (x:=x) (y := { x with waiting:=x.waiting++[(ws.length:Int)],e0 := { x.e0 with inn:=upu x.e0.inn } }) (y2:=jaC many) (m:=(ws.length:Int)) (jdF hx)
  (fun j hj=>by rcases hj with rfl | rfl<;>exact fun h=>⟨h,rfl⟩) ⟨a.cap0,a.cap1,fun j hj=>by have:=a.len j hj;(rcases hj with rfl | rfl<;>exact this),fun j hj=>by have:=a.pair j hj;(rcases hj with rfl | rfl<;>exact this),a.out,a.bl,a.wh⟩ rfl
  (by have:=a.bl;omega) (fun h=>h) om hmn rfl fun j u hu hmem=>by
   rcases jgH hu with hu | ⟨_,rfl⟩
   ·obtain ⟨z,z0,z1,_⟩:=(K.ok.wait u (zc hu)).2 _ hmem
    have:=w_lt z1
    simp at this
   ·have:(ws.length:Int)∈([]:List Int):=hmem
    simp at this
 rw [List.set_append_left _ _ hn] at K3
 exact K3
end Am.Sigs
