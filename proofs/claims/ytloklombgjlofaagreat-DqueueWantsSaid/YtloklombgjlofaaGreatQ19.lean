/- Our own library, part 19. -/
import Derived.Test.YtloklombgjlofaaGreatQ18
import Derived.Test.YtloklombgjlofaaGreatQ17
import Derived.Test.YtloklombgjlofaaGreatQ16
set_option maxHeartbeats 8000000
set_option maxRecDepth 800
set_option linter.all false
namespace Am.Sigs
open Am Go
def joL (n:Nat):Wi:=⟨⟨0,0,some [],true,false,0,0⟩,⟨0,0,some [],true,false,0,0⟩,n,false,0,[]⟩
def jlZ (bb n:Nat):Obj := .cells [.slice (some (bb,0)) n (.fix n),.i 0,.i 0,.int .u64 0,.int .u64 0,.bool true] false
def bufO (n:Nat):Obj := .cells (List.replicate n (.int .u8 0)) false
theorem jee {h:H} {r bb n:Nat} (h1:1<=n) (h2:n<=65536) (hr:h.get r=some (jlZ bb n)) (hb:h.get bb=some (bufO n)):ja2 h r bb [] n:=by
 refine ⟨List.replicate n 0,0,0,0,⟨hr,?_⟩,?_⟩
 ·rw [hb];simp [bufO,bts];exact .inr rfl
 ·exact ⟨by simp,h1,Nat.zero_le _,h2,fun i hi=>absurd hi (Nat.not_lt_zero _)⟩
def tg:Nat->Nat
 | 0=>0
 | 1=>2
 | 2=>1
 | 3=>4
 | _=>3
def jf1 (ow:Nat->Nat) (N L m z:Nat):Nat->Nat:=fun j=>if j=z then 2 else if N<=j/\j<N+m then 10*L+10+tg (j-N) else ow j
theorem jns {ow:Nat->Nat} {N L m z:Nat} : jf1 ow N L m z z=2:=if_pos rfl
theorem jnt {ow:Nat->Nat} {N L m z i:Nat} (h:i<m) (hz:N+i≠z):jf1 ow N L m z (N+i)=10*L+10+tg i:=by
 unfold jf1
 rw [if_neg hz,if_pos om,show N+i-N=i by omega]
theorem jf0 {ow:Nat->Nat} {N L m z j:Nat} (h:j<N\/N+m<=j) (hz:j≠z):jf1 ow N L m z j=ow j:=by
 unfold jf1
 rw [if_neg hz,if_neg om]
theorem XOk.tag0 {h:H} {ow ow':Nat->Nat} {n:Nat} {t:WX} (a:XOk h ow n t) (hk : ∀ j,ow j≠0->ow' j=ow j):XOk h ow' n t:=by
 refine ⟨a.hx,by rw [hk _ (by rw [a.ox];omega),a.ox],a.lx,fun k h01 q hq=>?_,a.wait.1,fun hl z hz=>?_⟩
 ·obtain ⟨p1,p2,p3,p4,p5⟩:=a.ring k h01 q hq
  exact ⟨p1,by rw [hk _ om,p2],by rw [hk _ om,p3],p4,p5⟩
 ·obtain ⟨p1,p2⟩:=a.wait.2 hl z hz
  exact ⟨by rw [hk _ om,p1],p2⟩
theorem WF.push {h h':H} {w s:Nat} {ow:Nat->Nat} {f g:Nat->Option (Nat × Nat)} {l:List WX} {now:Int} {tb:Tb} {no:Option (Nat × Nat)} {m z N:Nat} {wv:V} {t:WX} (a:WF h w s ow f l now tb no)
  (hm:m=1\/m=5) (hN:N+m<=h.nx) (h0 : ∀ j,N<=j->j<N+m->ow j=0) (hx:h.nx<=z) (hz:z<h'.nx) (hk : ∀ j,ow j≠0->ow j≠2->j≠w->h'.get j=h.get j)
  (hw:h'.get w=some (.cells (wc g wv s now no) false)) (row:Row 0 h' 1 wv (l.length+1) (wps l++[.p N 0])) (hat : ∀ y,wv.at?=some y->y=z)
  (t0:t.wb=N) (t1:m=5->t.b0=N+1/\t.r0=N+2/\t.b1=N+3/\t.r1=N+4)
  (ho:h'.get N=some (t.x.obj t.r0 t.r1 t.wv)) (hwt:t.x.waiting=[]) (hwv:t.wv = .nils)
  (hr : ∀ k,k=0\/k=1 -> ∀ q,(t.x.e k).ring=some q->m=5/\ja2 h' (t.r k) (t.b k) q t.x.cap) :
  WF h' w s (jf1 ow N l.length m z) g (l++[t]) now tb no:=by
 have hz0:ow z=0:=a.top z hx
 have keep : ∀ j,ow j≠0->jf1 ow N l.length m z j=ow j:=fun j hj=>jf0 (by
  rcases zw j N with h1 | h1
  ·exact .inl h1
  ·rcases zw j (N+m) with h2 | h2
   ·exact absurd (h0 j h1 h2) hj
   ·exact .inr h2) fun e=>hj (by rw [e,hz0])
 have nx:h.nx<=h'.nx:=by omega
 refine ⟨⟨wv,hw,?_,fun y hy=>by rw [hat y hy,jns]⟩,?_,?_,?_,zq a.lw nx,zq a.ls nx,fun j hj=>?_,fun n u hu=>?_⟩
 ·rw [ze]
  show Row 0 h' 1 wv (l.length+1) (wps (l++[t]))
  have:wps (l++[t])=wps l++[.p N 0]:=by rw [<- t0];simp
  rw [this];exact row
 ·rw [hk s (by rw [a.ts];omega) (by rw [a.ts];omega) (fun e=>by have:=a.ts;rw [e,a.tw] at this;omega),a.hs]
 ·rw [keep w (by rw [a.tw];omega),a.tw]
 ·rw [keep s (by rw [a.ts];omega),a.ts]
 ·rw [jf0 om om,a.top j om]
 ·rcases zw n l.length with hn | hn
  ·rw [zd,if_pos hn] at hu
   have o:=(a.ok n u hu).tag0 keep
   refine o.keep nx fun j j1 j2=>?_
   have hj:ow j≠0:=by
    intro e
    rcases zw j N with h1 | h1
    ·by_cases ez:j=z
     ·omega
     ·rw [jf0 (.inl h1) ez,e] at j1;omega
    ·by_cases ez:j=z
     ·rw [ez,jns] at j1;omega
     ·rcases zw j (N+m) with h2 | h2
      ·obtain ⟨i,rfl⟩ : ∃ i,j=N+i:=⟨j-N,by omega⟩
       rw [jnt om ez] at j2;omega
      ·rw [jf0 (.inr h2) ez,e] at j1;omega
   refine hk j hj (fun e=>?_) fun e=>?_
   ·rw [keep j hj,e] at j1;omega
   ·rw [keep j hj,e,a.tw] at j1;omega
  ·rw [zd,if_neg om] at hu
   have e0:n-l.length=0:=by
    rcases Nat.eq_zero_or_pos (n-l.length) with e | e
    ·exact e
    ·rw [zc (show 1<=_ from e)] at hu;cases hu
   rw [e0] at hu
   cases hu
   obtain rfl:n=l.length:=by omega
   have tag : ∀ i,i<m->jf1 ow N l.length m z (N+i)=10*l.length+10+tg i:=fun i hi=>jnt hi om
   refine ⟨by rw [t0];exact ho,by rw [t0];exact tag 0 om,by rw [t0];omega,fun k hk q hq=>?_,by rw [hwt,hwv];exact VI.nil h',fun hl=>absurd hwt hl⟩
   obtain ⟨r1,r2⟩:=hr k hk q hq
   obtain ⟨p1,p2,p3,p4⟩:=t1 r1
   refine ⟨r2,?_⟩
   rcases hk with rfl | rfl
   ·show jf1 ow N l.length m z t.r0=_/\jf1 ow N l.length m z t.b0=_/\t.r0<h'.nx/\t.b0<h'.nx
    rw [p1,p2]
    exact ⟨tag 2 om,tag 1 om,by omega,by omega⟩
   ·show jf1 ow N l.length m z t.r1=_/\jf1 ow N l.length m z t.b1=_/\t.r1<h'.nx/\t.b1<h'.nx
    rw [p3,p4]
    exact ⟨tag 4 om,tag 3 om,by omega,by omega⟩
theorem End.opqh {call:Call} {fuel:Nat} {K:List Fr} {x:Ex} {e:Env} {h:H} {Q:Post} (k : ∀ G,G=h->End call fuel K x e G Q):End call fuel K x e h Q:=k h rfl
section
variable {cl:Nat->Call} (hcl:Sem cl)
include hcl
theorem jh5 {d:Nat} {h:H} {n:Int} (hd:1<=d) (hn:n<0\/65536<n):cl d (.fn F.jlb) [.i n] h=some (.tup [.ptr none,.i 2],h):=by
 refine jak (at_ hcl om rfl rfl rfl ?_)
 rcases hn with hn | hn
 ·refine qx1 ?_
  exact ⟨rfl,rfl⟩
 ·by_cases h0:n<0
  ·exfalso;omega
  ·refine qx1 ?_
   exact ⟨rfl,rfl⟩
theorem jmL {d:Nat} {h:H} {n:Nat} (hd:2<=d) (h2:n<=65536) :
  ∃ h',cl d (.fn F.jfq) [.i (n:Int)] h=some (.p h.nx 0,h')/\h'.nx=h.nx+5/\Old h h'/\h'.get h.nx=some ((joL n).obj (h.nx+2) (h.nx+4) .nils)/\h'.get (h.nx+2)=some (jlZ (h.nx+1) n)/\h'.get (h.nx+1)=some (bufO n)/\h'.get (h.nx+4)=some (jlZ (h.nx+3) n)/\h'.get (h.nx+3)=some (bufO n):=by
 refine jal (at_ hcl om rfl rfl rfl ?_)
 refine qm1 ?_
 refine Run.unroll (n:=99999) rfl ?_
 refine qm1 ?_
 refine Ops.callf rfl (jon hcl (n:=n) om h2) ?_
 refine qm1 ?_
 refine End.opqh fun G hG=>?_
 have x1:G.nx=h.nx+3:=by rw [hG];rfl
 have o1:Old h G:=by
  rw [hG]
  repeat (first | exact Old.refl _ | refine Old.new ?_ | refine Old.set ?_ (zp _))
 have g0:G.get h.nx=some (.cells [.i 0,.i 0,.p (h.nx+2) 0,.bool true,.bool false,.int .u64 0,.int .u64 0,.i 0,.i 0,.ptr none,.bool false,.bool false,.int .u64 0,.int .u64 0,.bool false,.i 0,.nils] false):=by
  rw [hG];exact jab _
 have g1:G.get (h.nx+1)=some (bufO n):=by
  rw [hG];rw [jaa om,jaa om,jad (Nat.lt_succ_self _)];exact jac _
 have g2:G.get (h.nx+2)=some (jlZ (h.nx+1) n):=by
  rw [hG];rw [jaa om,jaa om];exact jac _
 clear hG
 refine End.unroll ?_
 refine qm1 ?_
 refine Ops.callf rfl (jon hcl (n:=n) om h2) ?_
 have g0':((G.new (.cells (List.replicate n (.int .u8 0)) false)).new (.cells [.slice (some (G.nx,0)) n (.fix n),.i 0,.i 0,.int .u64 0,.int .u64 0,.bool true] false)).get h.nx=G.get h.nx:=by
  rw [jad Zc,jad om]
 rw [g0] at g0'
 refine qm1 ?_
 refine End.opqh fun G2 hG2=>?_
 have x2:G2.nx=h.nx+5:=by rw [hG2];show G.nx+1+1=_;omega
 have o2:Old h G2:=by
  rw [hG2]
  repeat (first | exact o1 | refine Old.new ?_ | refine Old.set ?_ (zp _))
 have k0:G2.get h.nx=some ((joL n).obj (h.nx+2) (h.nx+4) .nils):=by
  rw [hG2];refine (jab _).trans ?_
  have:G.nx+1=h.nx+4:=by omega
  rw [<- this];rfl
 have k1:G2.get (h.nx+1)=some (bufO n):=by
  rw [hG2];rw [jaa om,jaa om,jad Zc,jad om];exact g1
 have k2:G2.get (h.nx+2)=some (jlZ (h.nx+1) n):=by
  rw [hG2];rw [jaa om,jaa om,jad Zc,jad om];exact g2
 have k3:G2.get (h.nx+3)=some (bufO n):=by
  rw [hG2,<- x1];rw [jaa om,jaa om,jad Zd];exact jac _
 have k4:G2.get (h.nx+4)=some (jlZ (h.nx+3) n):=by
  have e:h.nx+4=G.nx+1:=by omega
  rw [hG2,e,<- x1];rw [jaa om,jaa om];exact jac _
 clear hG2
 refine End.unroll ?_
 refine qm1 ?_
 exact ⟨rfl,x2,o2,k0,k2,k1,k4,k3⟩
theorem jjT {d:Nat} {h:H} {n:Int} (hd:2<=d) (hn:n<0\/65536<n) :
  ∃ h',cl d (.fn F.jfq) [.i n] h=some (.p h.nx 0,h')/\h'.nx=h.nx+1/\Old h h'/\h'.get h.nx=some ((⟨⟨0,0,none,true,false,0,0⟩,⟨0,0,none,true,false,0,0⟩,0,false,0,[]⟩:Wi).obj 0 0 .nils):=by
 refine jal (at_ hcl om rfl rfl rfl ?_)
 refine qm1 ?_
 refine Run.unroll (n:=99999) rfl ?_
 refine qm1 ?_
 refine Ops.callf rfl (jh5 hcl (n:=n) om hn) ?_
 refine qm1 ?_
 refine End.opqh fun G hG=>?_
 have x1:G.nx=h.nx+1:=by rw [hG];rfl
 have o1:Old h G:=by
  rw [hG]
  repeat (first | exact Old.refl _ | refine Old.new ?_ | refine Old.set ?_ (zp _))
 have g0:G.get h.nx=some (.cells [.i 0,.i 0,.ptr none,.bool true,.bool false,.int .u64 0,.int .u64 0,.i 0,.i 0,.ptr none,.bool false,.bool false,.int .u64 0,.int .u64 0,.bool false,.i 0,.nils] false):=by
  rw [hG];exact jab _
 clear hG
 refine End.unroll ?_
 refine qm1 ?_
 refine Ops.callf rfl (jh5 hcl (n:=n) om (by assumption)) ?_
 refine qm1 ?_
 refine End.opqh fun G2 hG2=>?_
 have x2:G2.nx=h.nx+1:=by rw [hG2];exact x1
 have o2:Old h G2:=by
  rw [hG2]
  repeat (first | exact o1 | refine Old.new ?_ | refine Old.set ?_ (zp _))
 have k0:G2.get h.nx=some ((⟨⟨0,0,none,true,false,0,0⟩,⟨0,0,none,true,false,0,0⟩,0,false,0,[]⟩:Wi).obj 0 0 .nils):=by
  rw [hG2];exact jab _
 clear hG2
 refine End.unroll ?_
 refine qm1 ?_
 exact ⟨rfl,x2,o2,k0⟩
end
def Wi.name (x:Wi) (k:Nat) (i:Nat):Wi:=x.put k { x.e k with what:=1,fd:=i }
structure Opened (h h':H) (w s N:Nat) (ow:Nat->Nat) (g:Nat->Option (Nat × Nat)) (l:List WX) (now:Int) (no:Option (Nat × Nat)) (o:Obj):Prop where
 ho:h'.get N=some o
 hw : ∃ wv z,h'.get w=some (.cells (wc g wv s now no) false)/\Row 0 h' 1 wv (l.length+1) (wps l++[.p N 0])/\(∀ y,wv.at?=some y->y=z)/\h.nx<=z/\z<h'.nx
 hk : ∀ j,j<h.nx->j≠N->j≠w->ow j≠2->h'.get j=h.get j
 nx:h.nx<=h'.nx
theorem Ops.opqh {call:Call} {fuel base:Nat} {ops:List Ins} {keep:List Nat} {K:List Fr} {e:Env} {h:H} {Q:Post} (k : ∀ G,G=h->Ops call fuel base ops keep K e G Q):Ops call fuel base ops keep K e h Q:=k h rfl
section
variable {cl:Nat->Call} (hcl:Sem cl) {h:H} {w s:Nat} {ow:Nat->Nat} {f:Nat->Option (Nat × Nat)} {l:List WX} {now:Int} {tb:Tb} {no:Option (Nat × Nat)}
include hcl
theorem xp_open1 {d N i0:Nat} {vf wv:V} {x:Wi} {r0 r1:Nat} (hd:1<=d) (a:WF h w s ow f l now tb no) (hN:h.get N=some (x.obj r0 r1 wv)) (hN0:ow N=0) (hNl:N<h.nx) (hl:l.length<1000) (vi:VI h vf [(i0:Int)]) (vz : ∀ z,vf.at?=some z->ow z=0/\z≠N) (hi:i0<96) :
  ∃ h',cl d (.fn F.jd9) [.p w 0,.p N 0,vf] h=some (.tup [],h')/\Opened h h' w s N ow (fun j=>if j=i0 then some (l.length,0) else f j) l now no ((x.name 0 i0).obj r0 r1 wv):=by
 obtain ⟨wv0,hw,row,hz⟩:=a.hw
 obtain ⟨cp,⟨av,rfl⟩,_⟩:=row.shape
 obtain ⟨af,cf,rfl,_⟩:=id vi
 obtain ⟨b,of,cs,ro,rfl,hcs,hc0⟩:=VI.cell (l:=[(i0:Int)]) vi (i:=0) (x:=(i0:Int)) rfl
 have hNw:N≠w:=fun e=>by have:=a.tw;rw [<- e] at this;omega
 have hbN:=vz b rfl
 have hwN:w≠N:=fun e=>hNw e.symm
 have c1:(wc f (.slice av l.length cp) s now no)[0+288]?=some (.slice av l.length cp):=jbd rfl
 obtain ⟨⟨a0,b0,c0,d0,e0,f0,g0⟩,⟨a1,b1,c1',d1,e1,f1,g1⟩,cap,rs,bl,wt⟩:=x
 simp only [Wi.obj,Wi.cells,En.cells,List.cons_append,List.nil_append] at hN
 refine jal (at_ hcl om rfl rfl rfl ?_)
 refine qm1 ?_
 refine Run.unroll (n:=99999) rfl ?_
 refine qm1 ?_
 refine Ops.opqh fun H1 hH1=>?_
 have n1:H1.nx=h.nx:=by rw [hH1];rfl
 have k1 : ∀ j,j≠N->H1.get j=h.get j:=by intro j hj;rw [hH1,jaa hj,jaa hj]
 have q1:H1.get N=some (.cells [.i 1,.i i0,En.ptr c0 r0,.bool d0,.bool e0,.int .u64 f0,.int .u64 g0,.i a1,.i b1,En.ptr c1' r1,.bool d1,.bool e1,.int .u64 f1,.int .u64 g1,.bool rs,.i bl,wv] false):=by rw [hH1];exact jab _
 clear hH1
 have hw1:H1.get w=some (.cells (wc f (.slice av l.length cp) s now no) false):=by rw [k1 w hwN,hw]
 have e3:jax (wc f (.slice av l.length cp) s now no) (0+0+(i0:Int).toNat*3) [.bool true,.i (l.length:Int),.i 0]=wc (fun j=>if j=i0 then some (l.length,0) else f j) (.slice av l.length cp) s now no:=jeF (p:=some (l.length,0)) hi om fun j _=>rfl
 have hlen:0+0+(i0:Int).toNat*3+3<=(wc f (.slice av l.length cp) s now no).length:=by rw [jbz];omega
 refine Ops.storeN (vs:=[.bool true,.i (l.length:Int),.i 0]) rfl rfl rfl rfl hw1 hlen ?_
 rw [e3]
 clear e3 hlen
 refine qm1 ?_
 refine End.opqh fun H2 hH2=>?_
 have n2:H2.nx=h.nx:=by rw [hH2];exact n1
 have k2 : ∀ j,j≠N->j≠w->H2.get j=h.get j:=by intro j hj hj2;rw [hH2,jaa hj2,k1 j hj]
 have q2:H2.get N=some (.cells [.i 1,.i i0,En.ptr c0 r0,.bool d0,.bool e0,.int .u64 f0,.int .u64 g0,.i a1,.i b1,En.ptr c1' r1,.bool d1,.bool e1,.int .u64 f1,.int .u64 g1,.bool rs,.i bl,wv] false):=by rw [hH2,jaa hNw,q1]
 have hw2:H2.get w=some (.cells (wc (fun j=>if j=i0 then some (l.length,0) else f j) (.slice av l.length cp) s now no) false):=by rw [hH2,jab]
 clear hH2 hw1 q1 k1
 generalize hg:(fun j=>if j=i0 then some (l.length,0) else f j)=g at hw2 ⊢
 have c2:(wc g (.slice av l.length cp) s now no)[0+288]?=some (.slice av l.length cp):=jbd rfl
 refine End.unroll ?_
 refine qx1 ?_
 have hzN : ∀ z,(V.slice av l.length cp).at?=some z->z≠N/\z≠w:=fun z e=>⟨fun e2=>by have:=hz z e;rw [e2,hN0] at this;omega,fun e2=>by have:=hz z e;rw [e2,a.tw] at this;omega⟩
 have row2:Row 0 H2 1 (.slice av l.length cp) l.length (wps l):=row.keep om fun z e=>k2 z (hzN z e).1 (hzN z e).2
 refine Ops.push (N:=0) (new:=[.p N 0]) rfl rfl rfl rfl om rfl rfl row2 (Nat.zero_le _) om om fun v' H3 row3 hx3 hz3 hk3=>?_
 have k3 : ∀ j,j<h.nx->ow j≠2->H3.get j=H2.get j:=fun j hj ho=>hk3 j om fun e=>ho (hz j e)
 have hw3:H3.get w=some (.cells (wc g (.slice av l.length cp) s now no) false):=by rw [k3 w a.lw (by rw [a.tw];omega),hw2]
 have q3:H3.get N=some (.cells [.i 1,.i i0,En.ptr c0 r0,.bool d0,.bool e0,.int .u64 f0,.int .u64 g0,.i a1,.i b1,En.ptr c1' r1,.bool d1,.bool e1,.int .u64 f1,.int .u64 g1,.bool rs,.i bl,wv] false):=by rw [k3 N hNl om,q2]
 have hlen:0+288<(wc g (.slice av l.length cp) s now no).length:=by rw [jbz];omega
 have hone:=row3.one
 refine qx1 ?_
 refine Ops.store1 rfl rfl hone hw3 hlen ?_
 rw [jdH rfl]
 refine qx1 ?_
 have hzw : ∀ z,v'.at?=some z->z≠w:=fun z e=>by have:=hz3 z e;have:=a.lw;omega
 refine ⟨rfl,by rw [jaa hNw,q3];rfl,⟨v',?_⟩,fun j hj h1 h2 h3=>by rw [jaa h2,k3 j hj h3,k2 j h1 h2],by show h.nx<=H3.nx;omega⟩
 rcases id row3 with ⟨h0,_⟩ | ⟨z,_,z1,rfl,_,_⟩
 ·omega
 ·refine ⟨z,jab _,row3.keep (zp _) fun y e=>jaa (hzw y e),fun y e=>by cases e;rfl,by have:=hz3 z rfl;omega,z1⟩
theorem xp_open2 {d N i0 i1:Nat} {vf wv:V} {x:Wi} {r0 r1:Nat} (hd:1<=d) (a:WF h w s ow f l now tb no) (hN:h.get N=some (x.obj r0 r1 wv)) (hN0:ow N=0) (hNl:N<h.nx) (hl:l.length<1000) (vi:VI h vf [(i0:Int),(i1:Int)]) (vz : ∀ z,vf.at?=some z->ow z=0/\z≠N) (hi:i0<96) (hi1:i1<96) :
  ∃ h',cl d (.fn F.jd9) [.p w 0,.p N 0,vf] h=some (.tup [],h')/\Opened h h' w s N ow (fun j=>if j=i1 then some (l.length,1) else if j=i0 then some (l.length,0) else f j) l now no (((x.name 0 i0).name 1 i1).obj r0 r1 wv):=by
 obtain ⟨wv0,hw,row,hz⟩:=a.hw
 obtain ⟨cp,⟨av,rfl⟩,_⟩:=row.shape
 obtain ⟨af,cf,rfl,_⟩:=id vi
 obtain ⟨b,of,cs,ro,rfl,hcs,hc0⟩:=VI.cell (l:=[(i0:Int),(i1:Int)]) vi (i:=0) (x:=(i0:Int)) rfl
 obtain ⟨_,_,_,_,e0,ecs,hc1⟩:=VI.cell (l:=[(i0:Int),(i1:Int)]) vi (i:=1) (x:=(i1:Int)) rfl
 cases e0
 rw [hcs] at ecs;cases ecs
 have hNw:N≠w:=fun e=>by have:=a.tw;rw [<- e] at this;omega
 have hbN:=vz b rfl
 have hwN:w≠N:=fun e=>hNw e.symm
 have hbw:b≠w:=fun e=>by have:=a.tw;rw [<- e] at this;omega
 have c1:(wc f (.slice av l.length cp) s now no)[0+288]?=some (.slice av l.length cp):=jbd rfl
 obtain ⟨⟨a0,b0,c0,d0,e0,f0,g0⟩,⟨a1,b1,c1',d1,e1,f1,g1⟩,cap,rs,bl,wt⟩:=x
 simp only [Wi.obj,Wi.cells,En.cells,List.cons_append,List.nil_append] at hN
 refine jal (at_ hcl om rfl rfl rfl ?_)
 refine qm1 ?_
 refine Run.unroll (n:=99999) rfl ?_
 refine qm1 ?_
 refine Ops.opqh fun H1 hH1=>?_
 have n1:H1.nx=h.nx:=by rw [hH1];rfl
 have k1 : ∀ j,j≠N->H1.get j=h.get j:=by intro j hj;rw [hH1,jaa hj,jaa hj]
 have q1:H1.get N=some (.cells [.i 1,.i i0,En.ptr c0 r0,.bool d0,.bool e0,.int .u64 f0,.int .u64 g0,.i a1,.i b1,En.ptr c1' r1,.bool d1,.bool e1,.int .u64 f1,.int .u64 g1,.bool rs,.i bl,wv] false):=by rw [hH1];exact jab _
 clear hH1
 have hw1:H1.get w=some (.cells (wc f (.slice av l.length cp) s now no) false):=by rw [k1 w hwN,hw]
 have e3:jax (wc f (.slice av l.length cp) s now no) (0+0+(i0:Int).toNat*3) [.bool true,.i (l.length:Int),.i 0]=wc (fun j=>if j=i0 then some (l.length,0) else f j) (.slice av l.length cp) s now no:=jeF (p:=some (l.length,0)) hi om fun j _=>rfl
 have hlen:0+0+(i0:Int).toNat*3+3<=(wc f (.slice av l.length cp) s now no).length:=by rw [jbz];omega
 refine Ops.storeN (vs:=[.bool true,.i (l.length:Int),.i 0]) rfl rfl rfl rfl hw1 hlen ?_
 rw [e3]
 clear e3 hlen
 refine qm1 ?_
 refine End.opqh fun H2 hH2=>?_
 have n2:H2.nx=h.nx:=by rw [hH2];exact n1
 have k2 : ∀ j,j≠N->j≠w->H2.get j=h.get j:=by intro j hj hj2;rw [hH2,jaa hj2,k1 j hj]
 have q2:H2.get N=some (.cells [.i 1,.i i0,En.ptr c0 r0,.bool d0,.bool e0,.int .u64 f0,.int .u64 g0,.i a1,.i b1,En.ptr c1' r1,.bool d1,.bool e1,.int .u64 f1,.int .u64 g1,.bool rs,.i bl,wv] false):=by rw [hH2,jaa hNw,q1]
 have hw2:H2.get w=some (.cells (wc (fun j=>if j=i0 then some (l.length,0) else f j) (.slice av l.length cp) s now no) false):=by rw [hH2,jab]
 clear hH2 hw1 q1 k1
 obtain ⟨fA,hfA⟩ : ∃ fA,(fun j=>if j=i0 then some (l.length,0) else f j)=fA:=⟨_,rfl⟩
 rw [hfA] at hw2
 have c2A:(wc fA (.slice av l.length cp) s now no)[0+288]?=some (.slice av l.length cp):=jbd rfl
 have hcs2:H2.get b=some (.cells cs ro):=by rw [k2 b hbN.2 hbw,hcs]
 refine End.unroll ?_
 refine qm1 ?_
 refine Ops.opqh fun H4 hH4=>?_
 have n4:H4.nx=h.nx:=by rw [hH4];exact n2
 have k4 : ∀ j,j≠N->H4.get j=H2.get j:=by intro j hj;rw [hH4,jaa hj,jaa hj]
 have q4:H4.get N=some (.cells [.i 1,.i i0,En.ptr c0 r0,.bool d0,.bool e0,.int .u64 f0,.int .u64 g0,.i 1,.i i1,En.ptr c1' r1,.bool d1,.bool e1,.int .u64 f1,.int .u64 g1,.bool rs,.i bl,wv] false):=by rw [hH4];exact jab _
 clear hH4
 have hw4:H4.get w=some (.cells (wc fA (.slice av l.length cp) s now no) false):=by rw [k4 w hwN,hw2]
 have e3:jax (wc fA (.slice av l.length cp) s now no) (0+0+(i1:Int).toNat*3) [.bool true,.i (l.length:Int),.i 1]=wc (fun j=>if j=i1 then some (l.length,1) else fA j) (.slice av l.length cp) s now no:=jeF (p:=some (l.length,1)) hi1 om fun j _=>rfl
 have hlen:0+0+(i1:Int).toNat*3+3<=(wc fA (.slice av l.length cp) s now no).length:=by rw [jbz];omega
 refine Ops.storeN (vs:=[.bool true,.i (l.length:Int),.i 1]) rfl rfl rfl rfl hw4 hlen ?_
 rw [e3]
 clear e3 hlen
 refine qm1 ?_
 refine End.opqh fun H5 hH5=>?_
 have n5:H5.nx=h.nx:=by rw [hH5];exact n4
 have k5 : ∀ j,j≠N->j≠w->H5.get j=h.get j:=by intro j hj hj2;rw [hH5,jaa hj2,k4 j hj,k2 j hj hj2]
 have q5:H5.get N=some (.cells [.i 1,.i i0,En.ptr c0 r0,.bool d0,.bool e0,.int .u64 f0,.int .u64 g0,.i 1,.i i1,En.ptr c1' r1,.bool d1,.bool e1,.int .u64 f1,.int .u64 g1,.bool rs,.i bl,wv] false):=by rw [hH5,jaa hNw,q4]
 have hw5:H5.get w=some (.cells (wc (fun j=>if j=i1 then some (l.length,1) else fA j) (.slice av l.length cp) s now no) false):=by rw [hH5,jab]
 clear hH5 hw4 q4 k4 c2A hcs2
 have hgA:(fun j=>if j=i1 then some (l.length,1) else fA j)=fun j=>if j=i1 then some (l.length,1) else if j=i0 then some (l.length,0) else f j:=by rw [<- hfA]
 rw [hgA] at hw5
 clear hgA hfA
 generalize hg:(fun j=>if j=i1 then some (l.length,1) else if j=i0 then some (l.length,0) else f j)=g at hw5 ⊢
 have c2:(wc g (.slice av l.length cp) s now no)[0+288]?=some (.slice av l.length cp):=jbd rfl
 refine End.unroll ?_
 refine qx1 ?_
 have hzN : ∀ z,(V.slice av l.length cp).at?=some z->z≠N/\z≠w:=fun z e=>⟨fun e2=>by have:=hz z e;rw [e2,hN0] at this;omega,fun e2=>by have:=hz z e;rw [e2,a.tw] at this;omega⟩
 have row2:Row 0 H5 1 (.slice av l.length cp) l.length (wps l):=row.keep om fun z e=>k5 z (hzN z e).1 (hzN z e).2
 refine Ops.push (N:=0) (new:=[.p N 0]) rfl rfl rfl rfl om rfl rfl row2 (Nat.zero_le _) om om fun v' H3 row3 hx3 hz3 hk3=>?_
 have k3 : ∀ j,j<h.nx->ow j≠2->H3.get j=H5.get j:=fun j hj ho=>hk3 j om fun e=>ho (hz j e)
 have hw3:H3.get w=some (.cells (wc g (.slice av l.length cp) s now no) false):=by rw [k3 w a.lw (by rw [a.tw];omega),hw5]
 have q3:H3.get N=some (.cells [.i 1,.i i0,En.ptr c0 r0,.bool d0,.bool e0,.int .u64 f0,.int .u64 g0,.i 1,.i i1,En.ptr c1' r1,.bool d1,.bool e1,.int .u64 f1,.int .u64 g1,.bool rs,.i bl,wv] false):=by rw [k3 N hNl om,q5]
 have hlen:0+288<(wc g (.slice av l.length cp) s now no).length:=by rw [jbz];omega
 have hone:=row3.one
 refine qx1 ?_
 refine Ops.store1 rfl rfl hone hw3 hlen ?_
 rw [jdH rfl]
 refine qx1 ?_
 have hzw : ∀ z,v'.at?=some z->z≠w:=fun z e=>by have:=hz3 z e;have:=a.lw;omega
 refine ⟨rfl,by rw [jaa hNw,q3];rfl,⟨v',?_⟩,fun j hj h1 h2 h3=>by rw [jaa h2,k3 j hj h3,k5 j h1 h2],by show h.nx<=H3.nx;omega⟩
 rcases id row3 with ⟨h0,_⟩ | ⟨z,_,z1,rfl,_,_⟩
 ·omega
 ·refine ⟨z,jab _,row3.keep (zp _) fun y e=>jaa (hzw y e),fun y e=>by cases e;rfl,by have:=hz3 z rfl;omega,z1⟩
end
theorem tab_push1 {ws:Ws} {x:Wi} {i0 j:Nat} (u:Uniq (ws++[x])) (w0:x.e0.what=1) (f0:x.e0.fd=i0) (w1:x.e1.what≠1):(if j=i0 then some (ws.length,0) else atS ws (j:Int))=atS (ws++[x]) (j:Int):=by
 have hL:(ws++[x])[ws.length]?=some x:=by simp
 by_cases e:j=i0
 ·subst e
  rw [if_pos rfl,jd5 u (n:=ws.length) (k:=0) ⟨x,hL,.inl rfl,w0,f0⟩]
 ·rw [if_neg e]
  refine jem fun n k=>⟨fun h=>?_,fun h=>?_⟩
  ·obtain ⟨y,hy,r⟩:=h
   exact ⟨y,jef hy,r⟩
  ·rcases jd7 h with h | ⟨_,hk,h1,h2⟩
   ·exact h
   ·rcases hk with rfl | rfl
    ·have h2:x.e0.fd=(j:Int):=h2
     omega
    ·exact absurd h1 w1
theorem tab_push2 {ws:Ws} {x:Wi} {i0 i1 j:Nat} (u:Uniq (ws++[x])) (w0:x.e0.what=1) (f0:x.e0.fd=i0) (w1:x.e1.what=1) (f1:x.e1.fd=i1) (hne:i0≠i1) :
  (if j=i1 then some (ws.length,1) else if j=i0 then some (ws.length,0) else atS ws (j:Int))=atS (ws++[x]) (j:Int):=by
 have hL:(ws++[x])[ws.length]?=some x:=by simp
 by_cases e:j=i1
 ·subst e
  rw [if_pos rfl,jd5 u (n:=ws.length) (k:=1) ⟨x,hL,.inr rfl,w1,f1⟩]
 rw [if_neg e]
 by_cases e:j=i0
 ·subst e
  rw [if_pos rfl,jd5 u (n:=ws.length) (k:=0) ⟨x,hL,.inl rfl,w0,f0⟩]
 rw [if_neg e]
 refine jem fun n k=>⟨fun h=>?_,fun h=>?_⟩
 ·obtain ⟨y,hy,r⟩:=h
  exact ⟨y,jef hy,r⟩
 ·rcases jd7 h with h | ⟨_,hk,h1,h2⟩
  ·exact h
  ·rcases hk with rfl | rfl
   ·have h2:x.e0.fd=(j:Int):=h2
    omega
   ·have h2:x.e1.fd=(j:Int):=h2
    omega
theorem WW.newWire {h0 h2 h':H} {w s m r0 r1:Nat} {ow:Nat->Nat} {g:Nat->Option (Nat × Nat)} {l:List WX} {x:Wi} {now:Int} {tb:Tb} {no:Option (Nat × Nat)} (a:WW h0 w s ow l now tb no) (o1:Old h0 h2) (hm:m=1\/m=5) (hN:h0.nx+m<=h2.nx)
  (h01:m=5->r0=h0.nx+2/\r1=h0.nx+4) (p:Opened h2 h' w s h0.nx ow g l now no (x.obj r0 r1 .nils)) (hwt:x.waiting=[]) (hg : ∀ j,j<96->g j=atS (wxs l++[x]) (j:Int)) (hfd : ∀ k,k=0\/k=1->(x.e k).what=1->0<=(x.e k).fd/\(x.e k).fd<=95)
  (hr : ∀ k,k=0\/k=1 -> ∀ q,(x.e k).ring=some q->m=5/\ja2 h2 (two r0 r1 k) (two (h0.nx+1) (h0.nx+3) k) q x.cap) :
  ∃ ow',WSt h' w s ow' (wxs l++[x]) now tb no/\To h0 h' ow ow':=by
 obtain ⟨wv,z,p1,p2,p3,p4,p5⟩:=p.hw
 have a2:=a.wf.old o1
 have lw:=a.wf.lw
 have h00 : ∀ j,h0.nx<=j->ow j=0:=a.wf.top
 have keep : ∀ j,h0.nx<j->j<h0.nx+m->h'.get j=h2.get j:=fun j j1 j2=>p.hk j om om om (by rw [h00 j om];omega)
 have F:=a2.push (t:=⟨x,h0.nx,r0,h0.nx+1,r1,h0.nx+3,.nils⟩) (m:=m) (z:=z) (N:=h0.nx) hm hN (fun j j1 _=>h00 j j1) p4 p5
  (fun j j1 j2 j3=>p.hk j (a2.lt_of j1) (fun e=>j1 (by rw [e];exact h00 _ (zp _))) j3 j2) p1 p2 p3 rfl (fun e=>⟨rfl,(h01 e).1,rfl,(h01 e).2⟩) p.ho hwt rfl
  (fun k hk q hq=>by
   obtain ⟨e5,R⟩:=hr k hk q hq
   obtain ⟨e0,e1⟩:=h01 e5
   refine ⟨e5,?_⟩
   subst e0 e1
   rcases hk with rfl | rfl
   ·exact R.keep (keep _ (by show h0.nx<h0.nx+2;omega) (by show h0.nx+2<_;omega)) (keep _ (by show h0.nx<h0.nx+1;omega) (by show h0.nx+1<_;omega))
   ·exact R.keep (keep _ (by show h0.nx<h0.nx+4;omega) (by show h0.nx+4<_;omega)) (keep _ (by show h0.nx<h0.nx+3;omega) (by show h0.nx+3<_;omega)))
 have ez:wxs (l++[(⟨x,h0.nx,r0,h0.nx+1,r1,h0.nx+3,.nils⟩:WX)])=wxs l++[x]:=by simp
 refine ⟨_,⟨_,⟨F.congr fun j hj=>by rw [ez];exact (hg j hj).symm,fun n k fd hf=>?_⟩,ez⟩,⟨⟨zy o1.1 p.nx,fun j hj ho=>?_⟩,fun j hj=>?_⟩⟩
 ·rw [ez] at hf
  rcases jd7 hf with hf | ⟨_,hk,q1,q2⟩
  ·exact a.fds n k fd hf
  ·rw [<- q2];exact hfd k hk q1
 ·have ho:ow j=0:=Classical.not_not.1 ho
  rw [p.hk j (zq hj o1.1) om (fun e=>by rw [e,a.wf.tw] at ho;omega) om,o1.2 j hj]
 ·exact jf0 (.inl hj) (by have:=o1.1;omega)
section
variable {cl:Nat->Call} (hcl:Sem cl) {h:H} {w s:Nat} {ow:Nat->Nat} {l:List WX} {now:Int} {tb:Tb} {no:Option (Nat × Nat)}
include hcl
theorem jh1 {d:Nat} {n:Int} (hd:1<=d):cl d (.fn F.jhk) [.i n] h=some (.bool (decide (1<=n/\n<=65536)),h):=by
 refine jak (at_ hcl om rfl rfl rfl ?_)
 by_cases h1:1<=n
 ·by_cases h2:n<=65536
  ·refine qx1 ?_
   exact ⟨by rw [decide_eq_true (show 1<=n/\n<=65536 from ⟨h1,h2⟩)];simp [h2],rfl⟩
  ·refine qx1 ?_
   exact ⟨by rw [decide_eq_false (show ¬ (1<=n/\n<=65536) from fun e=>h2 e.2)];simp [h2],rfl⟩
 ·refine qx1 ?_
  exact ⟨by rw [decide_eq_false (show ¬ (1<=n/\n<=65536) from fun e=>h1 e.1)],rfl⟩
theorem jgp {d k N:Nat} {n:Int} (hd:3<=d) (a:WW h w s ow l now tb no) (hn:n<1\/65536<n):cl d (.fn F.jaq) [.p w 0,.i n,.i (k:Int),.p N 0] h=some (.tup [.nils,.i 2],h):=by
 have h1:=jch hcl (d:=d-1) om a.wf
 have h2:=jh1 hcl (h:=h) (d:=d-1) (n:=n) om
 rw [decide_eq_false om] at h2
 clear hn
 refine jak (at_ hcl om rfl rfl rfl ?_)
 refine qx1 ?_
 exact ⟨rfl,rfl⟩
theorem jfH {d k N:Nat} {n:Int} (hd:6<=d) (hk:k=1\/k=2) (a:WW h w s ow l now tb no) (ol:l.length<=1000) (hn1:1<=n) (hn2:n<=65536) (hb:((jat (wxs l) 96).take k).length≠k\/1000<=l.length) :
  ∃ h',cl d (.fn F.jaq) [.p w 0,.i n,.i (k:Int),.p N 0] h=some (.tup [.nils,.i 112],h')/\Old h h':=by
 have h1:=jch hcl (d:=d-1) om a.wf
 have h2:=jh1 hcl (h:=h) (d:=d-1) (n:=n) om
 rw [decide_eq_true om] at h2
 obtain ⟨v,g,e,p1,p2,old⟩:=jfo hcl (d:=d-1) (k:=k) om hk a ol
 have eb:(decide (((jat (wxs l) 96).take k).length=k)&&decide (l.length<1000))=false:=by
  rcases hb with hb | hb
  ·rw [decide_eq_false hb,Bool.false_and]
  ·rw [decide_eq_false (show ¬ l.length<1000 by omega),Bool.and_false]
 rw [eb] at e
 clear hb eb hk
 refine jal (at_ hcl om rfl rfl rfl ?_)
 refine qx1 ?_
 exact ⟨rfl,old⟩
theorem xp_make1 {d N i0:Nat} {n:Int} {x:Wi} {r0 r1:Nat} {wv:V} (hd:6<=d) (a:WW h w s ow l now tb no) (hn1:1<=n) (hn2:n<=65536) (hf:(jat (wxs l) 96).take 1=[(i0:Int)]) (hi:i0<96) (hl:l.length<1000)
  (hN:h.get N=some (x.obj r0 r1 wv)) (hN0:ow N=0) (hNl:N<h.nx) :
  ∃ v h2 h',cl d (.fn F.jaq) [.p w 0,.i n,.i ((1:Nat):Int),.p N 0] h=some (.tup [v,.i 0],h')/\VI h' v [(i0:Int)]/\Old h h2/\Opened h2 h' w s N ow (fun j=>if j=i0 then some (l.length,0) else atS (wxs l) (j:Int)) l now no ((x.name 0 i0).obj r0 r1 wv):=by
 have h1:=jch hcl (d:=d-1) om a.wf
 have h2:=jh1 hcl (h:=h) (d:=d-1) (n:=n) om
 rw [decide_eq_true om] at h2
 obtain ⟨v,g,e,p1,p2,old⟩:=jfo hcl (d:=d-1) (k:=1) om (.inl rfl) a om
 rw [hf] at e p1
 rw [decide_eq_true (show [(i0:Int)].length=1 from rfl),decide_eq_true hl] at e
 have ag:=a.wf.old old
 obtain ⟨g2,e2,op⟩:=xp_open1 hcl (d:=d-1) (N:=N) (i0:=i0) (vf:=v) (wv:=wv) (x:=x) (r0:=r0) (r1:=r1) om ag (by rw [old.2 N hNl,hN]) hN0 (zq hNl old.1) hl p1 (fun z hz=>⟨a.wf.top z (p2 z hz).1,by have:=p2 z hz;omega⟩) hi
 suffices q : ∃ v2 h',cl d (.fn F.jaq) [.p w 0,.i n,.i ((1:Nat):Int),.p N 0] h=some (v2,h')/\(v2 = .tup [v,.i 0]/\h'=g2) by
  obtain ⟨_,_,q,rfl,rfl⟩:=q
  refine ⟨v,g,_,q,p1.keep op.nx fun z hz=>?_,old,op⟩
  have:=p2 z hz
  have:=a.wf.lw
  exact op.hk z om om om (by rw [a.wf.top z om];omega)
 clear hf
 refine at_ hcl om rfl rfl rfl ?_
 refine qx1 ?_
 exact ⟨rfl,rfl⟩
theorem xp_make2 {d N i0 i1:Nat} {n:Int} {x:Wi} {r0 r1:Nat} {wv:V} (hd:6<=d) (a:WW h w s ow l now tb no) (hn1:1<=n) (hn2:n<=65536) (hf:(jat (wxs l) 96).take 2=[(i0:Int),(i1:Int)]) (hi:i0<96) (hi1:i1<96) (hl:l.length<1000)
  (hN:h.get N=some (x.obj r0 r1 wv)) (hN0:ow N=0) (hNl:N<h.nx) :
  ∃ v h2 h',cl d (.fn F.jaq) [.p w 0,.i n,.i ((2:Nat):Int),.p N 0] h=some (.tup [v,.i 0],h')/\VI h' v [(i0:Int),(i1:Int)]/\Old h h2/\Opened h2 h' w s N ow (fun j=>if j=i1 then some (l.length,1) else if j=i0 then some (l.length,0) else atS (wxs l) (j:Int)) l now no (((x.name 0 i0).name 1 i1).obj r0 r1 wv):=by
 have h1:=jch hcl (d:=d-1) om a.wf
 have h2:=jh1 hcl (h:=h) (d:=d-1) (n:=n) om
 rw [decide_eq_true om] at h2
 obtain ⟨v,g,e,p1,p2,old⟩:=jfo hcl (d:=d-1) (k:=2) om (.inr rfl) a om
 rw [hf] at e p1
 rw [decide_eq_true (show [(i0:Int),(i1:Int)].length=2 from rfl),decide_eq_true hl] at e
 have ag:=a.wf.old old
 obtain ⟨g2,e2,op⟩:=xp_open2 hcl (d:=d-1) (N:=N) (i0:=i0) (i1:=i1) (vf:=v) (wv:=wv) (x:=x) (r0:=r0) (r1:=r1) om ag (by rw [old.2 N hNl,hN]) hN0 (zq hNl old.1) hl p1 (fun z hz=>⟨a.wf.top z (p2 z hz).1,by have:=p2 z hz;omega⟩) hi hi1
 suffices q : ∃ v2 h',cl d (.fn F.jaq) [.p w 0,.i n,.i ((2:Nat):Int),.p N 0] h=some (v2,h')/\(v2 = .tup [v,.i 0]/\h'=g2) by
  obtain ⟨_,_,q,rfl,rfl⟩:=q
  refine ⟨v,g,_,q,p1.keep op.nx fun z hz=>?_,old,op⟩
  have:=p2 z hz
  have:=a.wf.lw
  exact op.hk z om om om (by rw [a.wf.top z om];omega)
 clear hf
 refine at_ hcl om rfl rfl rfl ?_
 refine qx1 ?_
 exact ⟨rfl,rfl⟩
end
theorem jj8 {ws:Ws} {f0:Int} {fs:List Int} (h:jat ws 96=f0 :: fs):(∃ i0:Nat,f0=i0/\i0<96) /\ ∀ f1 r,fs=f1 :: r -> ∃ i1:Nat,f1=i1/\i1<96/\f0≠f1:=by
 constructor
 ·obtain ⟨i,e,hi,_⟩:=jdO (ws:=ws) (n:=96) (f:=f0) (by rw [h];simp)
  exact ⟨i,e,hi⟩
 ·rintro f1 r rfl
  obtain ⟨i,e,hi,_⟩:=jdO (ws:=ws) (n:=96) (f:=f1) (by rw [h];simp)
  refine ⟨i,e,hi,fun e2=>?_⟩
  have nd:=jgQ ws 96
  rw [h,e2] at nd
  exact absurd nd Zd
section
variable {cl:Nat->Call} (hcl:Sem cl) {h:H} {w s:Nat} {ow:Nat->Nat} {l:List WX} {now:Int} {tb:Tb} {no:Option (Nat × Nat)}
include hcl
theorem joi {d m r0 r1:Nat} {kind n:Int} {x:Wi} {h1:H} (hd:6<=d) (hk:kind=0\/kind=1) (K:WsK (wxs l)) (a:WW h w s ow l now tb no) (o1:Old h h1)
  (good:1<=n->n<=65536->h.nx+5<=h1.nx/\h1.get h.nx=some (x.obj (h.nx+2) (h.nx+4) .nils)/\x.waiting=[]/\(∀ i0 i1:Nat,(x.name 0 i0).name 1 i1=newW kind n i0 i1) /\ ∀ k,k=0\/k=1->ja2 h1 (two (h.nx+2) (h.nx+4) k) (two (h.nx+1) (h.nx+3) k) [] n.toNat) :
  ∃ v h' ow',cl d (.fn F.jaq) [.p w 0,.i n,.i ((2:Nat):Int),.p h.nx 0] h1=some (.tup [v,.i (jag (wxs l) kind n).1.2],h')/\VI h' v (jag (wxs l) kind n).1.1/\WSt h' w s ow' (jag (wxs l) kind n).2 now tb no/\To h h' ow ow':=by
 have a1:=a.old o1
 have K':=jd0 (kind:=kind) (n:=n) om K
 by_cases hn:n<1\/65536<n
 ·have e:jag (wxs l) kind n=(([],2),wxs l):=if_pos om
  rw [e]
  exact ⟨_,h1,ow,jgp hcl om a1 hn,VI.nil h1,⟨l,a1,rfl⟩,To.of_old o1⟩
 have eS:jag (wxs l) kind n=_:=if_neg om
 have hlw:(wxs l).length=l.length:=by simp
 have ol:l.length<=1000:=by have:=K.ok.len;omega
 have many:((jat (wxs l) 96).take 2).length≠2\/1000<=l.length -> ∃ h',cl d (.fn F.jaq) [.p w 0,.i n,.i ((2:Nat):Int),.p h.nx 0] h1=some (.tup [.nils,.i 112],h')/\Old h1 h':=fun hb=>jfH hcl hd (.inr rfl) a1 ol om om hb
 cases hF:jat (wxs l) 96 with
 | nil=>
  simp only [hF] at eS;rw [eS]
  obtain ⟨h',e,o2⟩:=many (.inl (by rw [hF];simp))
  exact ⟨_,h',ow,e,VI.nil h',⟨l,a1.old o2,rfl⟩,To.of_old (o1.trans o2)⟩
 | cons f0 fs=>
  simp only [hF] at eS
  by_cases hbad:(fs=[]/\kind<2)\/1000<=(wxs l).length
  ·rw [if_pos hbad] at eS;rw [eS]
   obtain ⟨h',e,o2⟩:=many (hbad.imp (fun e=>by rw [hF,e.1];simp) fun e=>by omega)
   exact ⟨_,h',ow,e,VI.nil h',⟨l,a1.old o2,rfl⟩,To.of_old (o1.trans o2)⟩
  ·rw [if_neg hbad] at eS
   cases fs with
   | nil=>exact absurd (.inl ⟨rfl,by omega⟩) hbad
   | cons f1 r=>
    obtain ⟨⟨i0,rfl,l0⟩,q⟩:=jj8 hF
    obtain ⟨i1,rfl,l1,hne⟩:=q f1 r rfl
    have eS:jag (wxs l) kind n=(([(i0:Int),(i1:Int)],0),wxs l++[newW kind n i0 i1]):=by
     rw [eS,if_pos om];rfl
    rw [eS] at K'
    obtain ⟨g1,g2,g3,g4,g5⟩:=good om om
    have hN0:=a.wf.top h.nx (zp _)
    obtain ⟨v,h2,h',e,p1,o2,op⟩:=xp_make2 hcl (N:=h.nx) (i0:=i0) (i1:=i1) hd a1 (n:=n) om om (by rw [hF];rfl) l0 l1 om g2 hN0 om
    rw [g4] at op
    have hx0:(newW kind n i0 i1).e0.what=1/\(newW kind n i0 i1).e0.fd=i0/\(newW kind n i0 i1).e1.what=1/\(newW kind n i0 i1).e1.fd=i1/\(newW kind n i0 i1).waiting=[]/\(newW kind n i0 i1).cap=n.toNat/\(∀ q,(newW kind n i0 i1).e0.ring=some q->q=[]) /\ ∀ q,(newW kind n i0 i1).e1.ring=some q->q=[]:=by
     rcases hk with rfl | rfl
     ·exact ⟨rfl,rfl,rfl,rfl,rfl,rfl,fun q hq=>by (have hq:some []=some q:=hq);cases hq;rfl,fun q hq=>by (have hq:none=some q:=hq);cases hq⟩
     ·exact ⟨rfl,rfl,rfl,rfl,rfl,rfl,fun q hq=>by (have hq:some []=some q:=hq);cases hq;rfl,fun q hq=>by (have hq:some []=some q:=hq);cases hq;rfl⟩
    obtain ⟨z1,z2,z3,z4,z5,z6,z7,z8⟩:=hx0
    generalize newW kind n i0 i1=y at op eS z1 z2 z3 z4 z5 z6 z7 z8 K'
    obtain ⟨ow',W,T⟩:=a.newWire (m:=5) (o1.trans o2) (.inr rfl) (zy g1 o2.1) (fun _=>⟨rfl,rfl⟩) op z5
     (fun j _=>by have:=tab_push2 (j:=j) K'.ok.uniq z1 z2 z3 z4 om;rw [hlw] at this;exact this)
     (fun k hk' h1'=>by
      rcases hk' with rfl | rfl
      ·show 0<=y.e0.fd/\y.e0.fd<=95;omega
      ·show 0<=y.e1.fd/\y.e1.fd<=95;omega)
     (fun k hk' q hq=>by
      refine ⟨rfl,?_⟩
      have R:=g5 k hk'
      have eq:q=[]:=by
       rcases hk' with rfl | rfl
       ·exact z7 q hq
       ·exact z8 q hq
      rw [eq,z6]
      refine R.keep (o2.2 _ ?_) (o2.2 _ ?_)<;>(rcases hk' with rfl | rfl<;>simp only [two]<;>omega))
    rw [eS]
    exact ⟨v,h',ow',e,p1,W,T⟩
theorem joj {d m r0 r1:Nat} {kind n:Int} {x:Wi} {h1:H} (hd:6<=d) (hk:kind=2\/kind=3) (hn3:kind=3->n<=64) (K:WsK (wxs l)) (a:WW h w s ow l now tb no) (o1:Old h h1)
  (good:1<=n->n<=65536->(m=1\/m=5)/\(m=5->r0=h.nx+2/\r1=h.nx+4)/\h.nx+m<=h1.nx/\h1.get h.nx=some (x.obj r0 r1 .nils)/\x.waiting=[]/\(∀ i0:Nat,x.name 0 i0=newW kind n i0 0)/\(kind=2->m=5 /\ ∀ k,k=0\/k=1->ja2 h1 (two (h.nx+2) (h.nx+4) k) (two (h.nx+1) (h.nx+3) k) [] n.toNat)) :
  ∃ v h' ow',cl d (.fn F.jaq) [.p w 0,.i n,.i ((1:Nat):Int),.p h.nx 0] h1=some (.tup [v,.i (jag (wxs l) kind n).1.2],h')/\VI h' v (jag (wxs l) kind n).1.1/\WSt h' w s ow' (jag (wxs l) kind n).2 now tb no/\To h h' ow ow':=by
 have a1:=a.old o1
 have K':=jd0 (kind:=kind) (n:=n) om K
 by_cases hn:n<1\/65536<n
 ·have e:jag (wxs l) kind n=(([],2),wxs l):=if_pos om
  rw [e]
  exact ⟨_,h1,ow,jgp hcl om a1 hn,VI.nil h1,⟨l,a1,rfl⟩,To.of_old o1⟩
 have eS:jag (wxs l) kind n=_:=if_neg om
 have hlw:(wxs l).length=l.length:=by simp
 have ol:l.length<=1000:=by have:=K.ok.len;omega
 have many:((jat (wxs l) 96).take 1).length≠1\/1000<=l.length -> ∃ h',cl d (.fn F.jaq) [.p w 0,.i n,.i ((1:Nat):Int),.p h.nx 0] h1=some (.tup [.nils,.i 112],h')/\Old h1 h':=fun hb=>jfH hcl hd (.inl rfl) a1 ol om om hb
 cases hF:jat (wxs l) 96 with
 | nil=>
  simp only [hF] at eS;rw [eS]
  obtain ⟨h',e,o2⟩:=many (.inl (by rw [hF];simp))
  exact ⟨_,h',ow,e,VI.nil h',⟨l,a1.old o2,rfl⟩,To.of_old (o1.trans o2)⟩
 | cons f0 fs=>
  simp only [hF] at eS
  by_cases hbad:(fs=[]/\kind<2)\/1000<=(wxs l).length
  ·rw [if_pos hbad] at eS;rw [eS]
   obtain ⟨h',e,o2⟩:=many (hbad.imp (fun e=>by omega) fun e=>by omega)
   exact ⟨_,h',ow,e,VI.nil h',⟨l,a1.old o2,rfl⟩,To.of_old (o1.trans o2)⟩
  ·rw [if_neg hbad] at eS
   obtain ⟨⟨i0,rfl,l0⟩,_⟩:=jj8 hF
   have eW : ∀ c:Int,newW kind n i0 c=newW kind n i0 0:=by
    intro c
    rcases hk with rfl | rfl<;>rfl
   have eS:jag (wxs l) kind n=(([(i0:Int)],0),wxs l++[newW kind n i0 0]):=by
    rw [eS,if_neg om,eW];rfl
   rw [eS] at K'
   obtain ⟨g0,g01,g1,g2,g3,g4,g5⟩:=good om om
   have hN0:=a.wf.top h.nx (zp _)
   obtain ⟨v,h2,h',e,p1,o2,op⟩:=xp_make1 hcl (N:=h.nx) (i0:=i0) hd a1 (n:=n) om om (by rw [hF];rfl) l0 om g2 hN0 om
   rw [g4] at op
   have hx0:(newW kind n i0 0).e0.what=1/\(newW kind n i0 0).e0.fd=i0/\(newW kind n i0 0).e1.what≠1/\(newW kind n i0 0).waiting=[]/\(newW kind n i0 0).cap=n.toNat/\(∀ q,(newW kind n i0 0).e0.ring=some q->q=[]/\kind=2) /\ ∀ q,(newW kind n i0 0).e1.ring=some q->q=[]/\kind=2:=by
    rcases hk with rfl | rfl
    ·exact ⟨rfl,rfl,by show (2:Int)≠1;omega,rfl,rfl,fun q hq=>by (have hq:some []=some q:=hq);cases hq;exact ⟨rfl,rfl⟩,fun q hq=>by (have hq:some []=some q:=hq);cases hq;exact ⟨rfl,rfl⟩⟩
    ·exact ⟨rfl,rfl,by show (0:Int)≠1;omega,rfl,rfl,fun q hq=>(by have hq:none=some q:=hq;cases hq),fun q hq=>(by have hq:none=some q:=hq;cases hq)⟩
   obtain ⟨z1,z2,z3,z5,z6,z7,z8⟩:=hx0
   generalize newW kind n i0 0=y at op eS z1 z2 z3 z5 z6 z7 z8 K'
   obtain ⟨ow',W,T⟩:=a.newWire (m:=m) (o1.trans o2) g0 (zy g1 o2.1) g01 op z5
    (fun j _=>by have:=tab_push1 (j:=j) K'.ok.uniq z1 z2 z3;rw [hlw] at this;exact this)
    (fun k hk' h1'=>by
     rcases hk' with rfl | rfl
     ·show 0<=y.e0.fd/\y.e0.fd<=95;omega
     ·exact absurd h1' z3)
    (fun k hk' q hq=>by
     have eq:q=[]/\kind=2:=by
      rcases hk' with rfl | rfl
      ·exact z7 q hq
      ·exact z8 q hq
     obtain ⟨m5,R⟩:=g5 eq.2
     obtain ⟨e0,e1⟩:=g01 m5
     refine ⟨m5,?_⟩
     rw [eq.1,z6,e0,e1]
     refine (R k hk').keep (o2.2 _ ?_) (o2.2 _ ?_)<;>(rcases hk' with rfl | rfl<;>simp only [two]<;>omega))
   rw [eS]
   exact ⟨v,h',ow',e,p1,W,T⟩
end
theorem jhL {ws:Ws} {kind n:Int} (hk:kind<2):((jag ws kind n).1.2=0 /\ ∃ a b,(jag ws kind n).1.1=[a,b])\/((jag ws kind n).1.2≠0/\(jag ws kind n).1.1=[]):=by
 unfold jag
 split
 ·exact .inr ⟨by show (2:Int)≠0;omega,rfl⟩
 split
 ·exact .inr ⟨by show (112:Int)≠0;omega,rfl⟩
 next f0 fs hF=>
 split
 ·exact .inr ⟨by show (112:Int)≠0;omega,rfl⟩
 next hb=>
 cases fs with
 | nil=>exact absurd (.inl ⟨rfl,hk⟩) hb
 | cons f1 r=>exact .inl ⟨rfl,f0,f1,rfl⟩
theorem jek {ws:Ws} {kind n:Int} (hk : ¬ kind<2):((jag ws kind n).1.2=0/\(∃ a,(jag ws kind n).1.1=[a])/\(jag ws kind n).2.length=ws.length+1)\/((jag ws kind n).1.2≠0/\(jag ws kind n).1.1=[]):=by
 unfold jag
 split
 ·exact .inr ⟨by show (2:Int)≠0;omega,rfl⟩
 split
 ·exact .inr ⟨by show (112:Int)≠0;omega,rfl⟩
 next f0 fs hF=>
 split
 ·exact .inr ⟨by show (112:Int)≠0;omega,rfl⟩
 ·exact .inl ⟨rfl,⟨f0,rfl⟩,by simp⟩
theorem WSt.len {h:H} {w s:Nat} {ow:Nat->Nat} {ws:Ws} {now:Int} {tb:Tb} {no:Option (Nat × Nat)} (a:WSt h w s ow ws now tb no) : ∃ f av cp,h.get w=some (.cells (wc f (.slice av ws.length cp) s now no) false):=by
 obtain ⟨l,a,rfl⟩:=a
 obtain ⟨av,cp,hw,_⟩:=a.wf.head
 exact ⟨fun i=>atS (wxs l) (i:Int),av,cp,by rw [hw,List.length_map]⟩
section
variable {cl:Nat->Call} (hcl:Sem cl) {h:H} {w s:Nat} {ow:Nat->Nat} {ws:Ws} {now:Int} {tb:Tb} {no:Option (Nat × Nat)}
include hcl
theorem jgq {d:Nat} {n:Int} (hd:2<=d) :
  ∃ h1 q0 q1 r0 r1 c,cl d (.fn F.jfq) [.i n] h=some (.p h.nx 0,h1)/\Old h h1/\h.nx<h1.nx/\h1.get h.nx=some ((⟨⟨0,0,q0,true,false,0,0⟩,⟨0,0,q1,true,false,0,0⟩,c,false,0,[]⟩:Wi).obj r0 r1 .nils) /\
   (1<=n->n<=65536->h1.nx=h.nx+5/\q0=some []/\q1=some []/\r0=h.nx+2/\r1=h.nx+4/\c=n.toNat /\ ∀ k,k=0\/k=1->ja2 h1 (two (h.nx+2) (h.nx+4) k) (two (h.nx+1) (h.nx+3) k) [] n.toNat):=by
 by_cases hn:n<0\/65536<n
 ·obtain ⟨h1,e,x1,o1,g0⟩:=jjT hcl (h:=h) hd hn
  exact ⟨h1,_,_,_,_,_,e,o1,by omega,g0,fun _ _=>by omega⟩
 ·obtain ⟨m,rfl⟩:=zx (show 0<=n by omega)
  obtain ⟨h1,e,x1,o1,g0,g2,g1,g4,g3⟩:=jmL hcl (h:=h) (n:=m) hd om
  refine ⟨h1,_,_,_,_,_,e,o1,by omega,g0,fun p1 p2=>⟨x1,rfl,rfl,rfl,rfl,rfl,fun k hk=>?_⟩⟩
  rcases hk with rfl | rfl
  ·exact jee om om g2 g1
  ·exact jee om om g4 g3
theorem ww_Pair {d:Nat} {n:Int} (hd:7<=d) (K:WsK ws) (a:WSt h w s ow ws now tb no) :
  ∃ x y h' ow',cl d (.fn F.jdC) [.p w 0,.i n] h=some (.tup [.i x,.i y,.i (jag ws 1 n).1.2],h')/\((jag ws 1 n).1.2=0->(jag ws 1 n).1.1=[x,y])/\((jag ws 1 n).1.2≠0->x=0/\y=0)/\WSt h' w s ow' (jag ws 1 n).2 now tb no/\To h h' ow ow':=by
 obtain ⟨l,a,rfl⟩:=a
 obtain ⟨h1,q0,q1,r0,r1,c,e1,o1,x1,g0,good⟩:=jgq hcl (h:=h) (d:=d-1) (n:=n) om
 obtain ⟨v,h',ow',e2,p1,W,T⟩:=joi hcl (d:=d-1) (kind:=1) (n:=n) (m:=0) (r0:=0) (r1:=0) om (.inr rfl) K a o1 fun n1 n2=>by
  obtain ⟨y1,rfl,rfl,rfl,rfl,rfl,R⟩:=good n1 n2
  exact ⟨by omega,g0,rfl,fun _ _=>rfl,R⟩
 have e2:cl (d-1) (.fn F.jaq) [.p w 0,.i n,.i 2,.p h.nx 0] h1=_:=e2
 clear good
 suffices q : ∃ v h',cl d (.fn F.jdC) [.p w 0,.i n] h=some (v,h') /\ ∃ x y,v = .tup [.i x,.i y,.i (jag (wxs l) 1 n).1.2]/\((jag (wxs l) 1 n).1.2=0->(jag (wxs l) 1 n).1.1=[x,y])/\((jag (wxs l) 1 n).1.2≠0->x=0/\y=0)/\WSt h' w s ow' (jag (wxs l) 1 n).2 now tb no/\To h h' ow ow' by
  obtain ⟨_,h',e,x,y,rfl,q⟩:=q;exact ⟨x,y,h',ow',e,q⟩
 rcases jhL (ws:=wxs l) (n:=n) (kind:=1) om with ⟨m1,x,y,m2⟩ | ⟨m1,m2⟩
 ·rw [m2] at p1
  obtain ⟨af,cf,rfl,_⟩:=id p1
  obtain ⟨b,of,cs,ro,rfl,hcs,hc0⟩:=VI.cell (l:=[x,y]) p1 (i:=0) (x:=x) rfl
  obtain ⟨_,_,_,_,e0,ecs,hc1⟩:=VI.cell (l:=[x,y]) p1 (i:=1) (x:=y) rfl
  cases e0
  rw [hcs] at ecs;cases ecs
  have hc1:cs[of+(1:Int).toNat*1]?=some (.i y):=hc1
  have hc0:cs[of+(0:Int).toNat*1]?=some (.i x):=hc0
  generalize jag (wxs l) 1 n=M at m1 m2 e2 W ⊢
  obtain ⟨⟨M1,M2⟩,M3⟩:=M
  simp only at m1 m2 e2 W ⊢
  subst m1 m2
  refine at_ hcl om rfl rfl rfl ?_
  refine qx1 ?_
  exact ⟨x,y,rfl,fun _=>rfl,fun h=>absurd rfl h,W,T⟩
 ·rw [m2] at p1
  generalize jag (wxs l) 1 n=M at m1 m2 e2 W ⊢
  obtain ⟨⟨M1,M2⟩,M3⟩:=M
  simp only at m1 m2 e2 W ⊢
  refine at_ hcl om rfl rfl rfl ?_
  refine qx1 ?_
  exact ⟨0,0,rfl,fun h=>absurd h m1,fun _=>⟨rfl,rfl⟩,W,T⟩
theorem ww_Pipe {d:Nat} {n:Int} (hd:7<=d) (K:WsK ws) (a:WSt h w s ow ws now tb no) :
  ∃ x y h' ow',cl d (.fn F.jdB) [.p w 0,.i n] h=some (.tup [.i x,.i y,.i (jag ws 0 n).1.2],h')/\((jag ws 0 n).1.2=0->(jag ws 0 n).1.1=[x,y])/\((jag ws 0 n).1.2≠0->x=0/\y=0)/\WSt h' w s ow' (jag ws 0 n).2 now tb no/\To h h' ow ow':=by
 obtain ⟨l,a,rfl⟩:=a
 obtain ⟨h1,q0,q1,r0,r1,c,e1,o1,x1,g0,good⟩:=jgq hcl (h:=h) (d:=d-1) (n:=n) om
 simp only [Wi.obj,Wi.cells,En.cells,List.cons_append,List.nil_append] at g0
 have key : ∀ G:H,G=(h1.set h.nx (.cells [.i 0,.i 0,En.ptr q0 r0,.bool false,.bool false,.int .u64 0,.int .u64 0,.i 0,.i 0,En.ptr q1 r1,.bool true,.bool false,.int .u64 0,.int .u64 0,.bool false,.i 0,.nils] false)).set h.nx (.cells [.i 0,.i 0,En.ptr q0 r0,.bool false,.bool false,.int .u64 0,.int .u64 0,.i 0,.i 0,.ptr none,.bool true,.bool false,.int .u64 0,.int .u64 0,.bool false,.i 0,.nils] false) ->
   ∃ v h' ow',cl (d-1) (.fn F.jaq) [.p w 0,.i n,.i 2,.p h.nx 0] G=some (.tup [v,.i (jag (wxs l) 0 n).1.2],h')/\VI h' v (jag (wxs l) 0 n).1.1/\WSt h' w s ow' (jag (wxs l) 0 n).2 now tb no/\To h h' ow ow':=by
  intro G hG
  have oG:Old h G:=by rw [hG];exact (o1.set (zp _)).set (zp _)
  refine joi hcl (d:=d-1) (kind:=0) (n:=n) (m:=0) (r0:=0) (r1:=0) (x:=⟨⟨0,0,some [],false,false,0,0⟩,⟨0,0,none,true,false,0,0⟩,n.toNat,false,0,[]⟩) om (.inl rfl) K a oG fun n1 n2=>?_
  obtain ⟨y1,rfl,rfl,rfl,rfl,rfl,R⟩:=good n1 n2
  refine ⟨by rw [hG];exact Nat.le_of_eq y1.symm,by rw [hG];exact jab _,rfl,fun _ _=>rfl,fun k hk=>?_⟩
  refine (R k hk).keep ?_ ?_<;>(rw [hG,jaa,jaa]<;>(rcases hk with rfl | rfl<;>simp only [two]<;>omega))
 suffices q : ∃ v h',cl d (.fn F.jdB) [.p w 0,.i n] h=some (v,h') /\ ∃ x y ow',v = .tup [.i x,.i y,.i (jag (wxs l) 0 n).1.2]/\((jag (wxs l) 0 n).1.2=0->(jag (wxs l) 0 n).1.1=[x,y])/\((jag (wxs l) 0 n).1.2≠0->x=0/\y=0)/\WSt h' w s ow' (jag (wxs l) 0 n).2 now tb no/\To h h' ow ow' by
  obtain ⟨_,h',e,x,y,ow',rfl,q⟩:=q;exact ⟨x,y,h',ow',e,q⟩
 clear good
 refine at_ hcl om rfl rfl rfl ?_
 refine qs1 ?_
 refine Ops.opqh fun G hG=>?_
 obtain ⟨v,h',ow',e2,p1,W,T⟩:=key G hG
 clear hG key
 rcases jhL (ws:=wxs l) (n:=n) (kind:=0) om with ⟨m1,x,y,m2⟩ | ⟨m1,m2⟩
 ·rw [m2] at p1
  obtain ⟨af,cf,rfl,_⟩:=id p1
  obtain ⟨b,of,cs,ro,rfl,hcs,hc0⟩:=VI.cell (l:=[x,y]) p1 (i:=0) (x:=x) rfl
  obtain ⟨_,_,_,_,e0,ecs,hc1⟩:=VI.cell (l:=[x,y]) p1 (i:=1) (x:=y) rfl
  cases e0
  rw [hcs] at ecs;cases ecs
  have hc1:cs[of+(1:Int).toNat*1]?=some (.i y):=hc1
  have hc0:cs[of+(0:Int).toNat*1]?=some (.i x):=hc0
  generalize jag (wxs l) 0 n=M at m1 m2 e2 W ⊢
  obtain ⟨⟨M1,M2⟩,M3⟩:=M
  simp only at m1 m2 e2 W ⊢
  subst m1 m2
  refine qx1 ?_
  exact ⟨x,y,ow',rfl,fun _=>rfl,fun h=>absurd rfl h,W,T⟩
 ·rw [m2] at p1
  generalize jag (wxs l) 0 n=M at m1 m2 e2 W ⊢
  obtain ⟨⟨M1,M2⟩,M3⟩:=M
  simp only at m1 m2 e2 W ⊢
  refine qx1 ?_
  exact ⟨0,0,ow',rfl,fun h=>absurd h m1,fun _=>⟨rfl,rfl⟩,W,T⟩
theorem ww_Outer {d:Nat} {n:Int} (hd:7<=d) (K:WsK ws) (a:WSt h w s ow ws now tb no) :
  ∃ x y h' ow',cl d (.fn F.jdl) [.p w 0,.i n] h=some (.tup [.i x,.i y,.i (jag ws 2 n).1.2],h')/\((jag ws 2 n).1.2=0->(jag ws 2 n).1.1=[x]/\y=ws.length)/\((jag ws 2 n).1.2≠0->x=0/\y=0)/\WSt h' w s ow' (jag ws 2 n).2 now tb no/\To h h' ow ow':=by
 obtain ⟨l,a,rfl⟩:=a
 obtain ⟨h1,q0,q1,r0,r1,c,e1,o1,x1,g0,good⟩:=jgq hcl (h:=h) (d:=d-1) (n:=n) om
 simp only [Wi.obj,Wi.cells,En.cells,List.cons_append,List.nil_append] at g0
 have key : ∀ G:H,G=h1.set h.nx (.cells [.i 0,.i 0,En.ptr q0 r0,.bool true,.bool false,.int .u64 0,.int .u64 0,.i 2,.i 0,En.ptr q1 r1,.bool true,.bool false,.int .u64 0,.int .u64 0,.bool false,.i 0,.nils] false) ->
   ∃ v h' ow',cl (d-1) (.fn F.jaq) [.p w 0,.i n,.i 1,.p h.nx 0] G=some (.tup [v,.i (jag (wxs l) 2 n).1.2],h')/\VI h' v (jag (wxs l) 2 n).1.1/\WSt h' w s ow' (jag (wxs l) 2 n).2 now tb no/\To h h' ow ow':=by
  intro G hG
  have oG:Old h G:=by rw [hG];exact o1.set (zp _)
  refine joj hcl (d:=d-1) (kind:=2) (n:=n) (m:=5) (r0:=h.nx+2) (r1:=h.nx+4) (x:=⟨⟨0,0,some [],true,false,0,0⟩,⟨2,0,some [],true,false,0,0⟩,n.toNat,false,0,[]⟩) om (.inl rfl) (fun e=>by omega) K a oG fun n1 n2=>?_
  obtain ⟨y1,rfl,rfl,rfl,rfl,rfl,R⟩:=good n1 n2
  refine ⟨.inr rfl,fun _=>⟨rfl,rfl⟩,by rw [hG];exact Nat.le_of_eq y1.symm,by rw [hG];exact jab _,rfl,fun _=>rfl,fun _=>⟨rfl,fun k hk=>?_⟩⟩
  refine (R k hk).keep ?_ ?_<;>(rw [hG,jaa]<;>(rcases hk with rfl | rfl<;>simp only [two]<;>omega))
 suffices q : ∃ v h',cl d (.fn F.jdl) [.p w 0,.i n] h=some (v,h') /\ ∃ x y ow',v = .tup [.i x,.i y,.i (jag (wxs l) 2 n).1.2]/\((jag (wxs l) 2 n).1.2=0->(jag (wxs l) 2 n).1.1=[x]/\y=(wxs l).length)/\((jag (wxs l) 2 n).1.2≠0->x=0/\y=0)/\WSt h' w s ow' (jag (wxs l) 2 n).2 now tb no/\To h h' ow ow' by
  obtain ⟨_,h',e,x,y,ow',rfl,q⟩:=q;exact ⟨x,y,h',ow',e,q⟩
 clear good
 refine at_ hcl om rfl rfl rfl ?_
 refine qs1 ?_
 refine Ops.opqh fun G hG=>?_
 obtain ⟨v,h',ow',e2,p1,W,T⟩:=key G hG
 clear hG key
 rcases jek (ws:=wxs l) (n:=n) (kind:=2) om with ⟨m1,⟨x,m2⟩,m3⟩ | ⟨m1,m2⟩
 ·rw [m2] at p1
  obtain ⟨af,cf,rfl,_⟩:=id p1
  obtain ⟨b,of,cs,ro,rfl,hcs,hc0⟩:=VI.cell (l:=[x]) p1 (i:=0) (x:=x) rfl
  have hc0:cs[of+(0:Int).toNat*1]?=some (.i x):=hc0
  obtain ⟨f2,av2,cp2,hw2⟩:=W.len
  rw [m3,List.length_map] at hw2
  have c1:(wc f2 (.slice av2 (l.length+1) cp2) s now no)[0+288]?=some (.slice av2 (l.length+1) cp2):=jbd rfl
  have em:((l.length+1:Nat):Int)-1=(l.length:Int):=by omega
  have ol:=K.ok.len
  rw [List.length_map] at ol
  generalize jag (wxs l) 2 n=M at m1 m2 e2 W ⊢
  obtain ⟨⟨M1,M2⟩,M3⟩:=M
  simp only at m1 m2 e2 W ⊢
  subst m1 m2
  refine qx1 ?_
  exact ⟨x,l.length,ow',by rw [em],fun _=>⟨rfl,by simp⟩,fun h=>absurd rfl h,W,T⟩
 ·rw [m2] at p1
  generalize jag (wxs l) 2 n=M at m1 m2 e2 W ⊢
  obtain ⟨⟨M1,M2⟩,M3⟩:=M
  simp only at m1 m2 e2 W ⊢
  refine qx1 ?_
  exact ⟨0,0,ow',rfl,fun h=>absurd h m1,fun _=>⟨rfl,rfl⟩,W,T⟩
theorem ww_Listen {d:Nat} {n:Int} (hd:7<=d) (K:WsK ws) (a:WSt h w s ow ws now tb no) :
  ∃ x y h' ow',cl d (.fn F.jcN) [.p w 0,.i n] h=some (.tup [.i x,.i y,.i (jag ws 3 n).1.2],h')/\((jag ws 3 n).1.2=0->(jag ws 3 n).1.1=[x]/\y=ws.length)/\((jag ws 3 n).1.2≠0->x=0/\y=0)/\WSt h' w s ow' (jag ws 3 n).2 now tb no/\To h h' ow ow':=by
 obtain ⟨l,a,rfl⟩:=a
 have hnone:=jch hcl (d:=d-1) om a.wf
 suffices q : ∃ v h',cl d (.fn F.jcN) [.p w 0,.i n] h=some (v,h') /\ ∃ x y ow',v = .tup [.i x,.i y,.i (jag (wxs l) 3 n).1.2]/\((jag (wxs l) 3 n).1.2=0->(jag (wxs l) 3 n).1.1=[x]/\y=(wxs l).length)/\((jag (wxs l) 3 n).1.2≠0->x=0/\y=0)/\WSt h' w s ow' (jag (wxs l) 3 n).2 now tb no/\To h h' ow ow' by
  obtain ⟨_,h',e,x,y,ow',rfl,q⟩:=q;exact ⟨x,y,h',ow',e,q⟩
 refine at_ hcl om rfl rfl rfl ?_
 by_cases hn:64<n
 ·have eS:jag (wxs l) 3 n=(([],2),wxs l):=if_pos (.inr (.inr ⟨rfl,hn⟩))
  rw [eS]
  refine qx1 ?_
  exact ⟨0,0,ow,rfl,fun h=>by (have h:(2:Int)=0:=h);omega,fun _=>⟨rfl,rfl⟩,⟨l,a,rfl⟩,To.refl _ _⟩
 have key : ∀ G:H,G=h.new (.cells [.i 0,.i 0,.ptr none,.bool false,.bool false,.int .u64 0,.int .u64 0,.i 0,.i 0,.ptr none,.bool false,.bool false,.int .u64 0,.int .u64 0,.bool false,.i n,.nils] false) ->
   ∃ v h' ow',cl (d-1) (.fn F.jaq) [.p w 0,.i n,.i 1,.p h.nx 0] G=some (.tup [v,.i (jag (wxs l) 3 n).1.2],h')/\VI h' v (jag (wxs l) 3 n).1.1/\WSt h' w s ow' (jag (wxs l) 3 n).2 now tb no/\To h h' ow ow':=by
  intro G hG
  have oG:Old h G:=by rw [hG];exact (Old.refl h).new
  exact joj hcl (d:=d-1) (kind:=3) (n:=n) (m:=1) (r0:=0) (r1:=0) (x:=⟨⟨0,0,none,false,false,0,0⟩,⟨0,0,none,false,false,0,0⟩,n.toNat,false,n,[]⟩) om (.inr rfl) (fun _=>by omega) K a oG fun n1 n2=>
   ⟨.inl rfl,fun e=>by omega,by rw [hG];exact zp _,by rw [hG];exact jac _,rfl,fun _=>rfl,fun e=>by omega⟩
 refine qm1 ?_
 refine Ops.opqh fun G hG=>?_
 obtain ⟨v,h',ow',e2,p1,W,T⟩:=key G hG
 clear hG key
 rcases jek (ws:=wxs l) (n:=n) (kind:=3) om with ⟨m1,⟨x,m2⟩,m3⟩ | ⟨m1,m2⟩
 ·rw [m2] at p1
  obtain ⟨af,cf,rfl,_⟩:=id p1
  obtain ⟨b,of,cs,ro,rfl,hcs,hc0⟩:=VI.cell (l:=[x]) p1 (i:=0) (x:=x) rfl
  have hc0:cs[of+(0:Int).toNat*1]?=some (.i x):=hc0
  obtain ⟨f2,av2,cp2,hw2⟩:=W.len
  rw [m3,List.length_map] at hw2
  have c1:(wc f2 (.slice av2 (l.length+1) cp2) s now no)[0+288]?=some (.slice av2 (l.length+1) cp2):=jbd rfl
  have em:((l.length+1:Nat):Int)-1=(l.length:Int):=by omega
  have ol:=K.ok.len
  rw [List.length_map] at ol
  generalize jag (wxs l) 3 n=M at m1 m2 e2 W ⊢
  obtain ⟨⟨M1,M2⟩,M3⟩:=M
  simp only at m1 m2 e2 W ⊢
  subst m1 m2
  refine qx1 ?_
  exact ⟨x,l.length,ow',by rw [em],fun _=>⟨rfl,by simp⟩,fun h=>absurd rfl h,W,T⟩
 ·rw [m2] at p1
  generalize jag (wxs l) 3 n=M at m1 m2 e2 W ⊢
  obtain ⟨⟨M1,M2⟩,M3⟩:=M
  simp only at m1 m2 e2 W ⊢
  refine qx1 ?_
  exact ⟨0,0,ow',rfl,fun h=>absurd h m1,fun _=>⟨rfl,rfl⟩,W,T⟩
end
section
variable {h:H} {w s:Nat} {ow:Nat->Nat} {f:Nat->Option (Nat × Nat)} {l:List WX} {now:Int} {tb:Tb} {no:Option (Nat × Nat)} {n m:Nat} {t:WX}
def WX.setw (t:WX) (v:V) (wt:List Int):WX := { t with x := { t.x with waiting:=wt },wv:=v }
theorem WF.setWait (a:WF h w s ow f l now tb no) (ht:l[n]?=some t) {v:V} {wt:List Int} (hv:VI h v wt) (hz:wt≠[] -> ∀ z,v.at?=some z->ow z=10*n+15/\z<h.nx):WF (h.set t.wb ((t.setw v wt).x.obj t.r0 t.r1 v)) w s ow f (l.set n (t.setw v wt)) now tb no:=by
 have X:=a.ok n t ht
 have o0:=X.ox
 have hne : ∀ j,ow j≠10*n+10->j≠t.wb:=fun j hj e=>hj (by rw [e,o0])
 refine a.turn ht (zp _) (fun j _ hn=>jaa (hne j fun e=>hn om)) ⟨jab _,X.ox,X.lx,fun i hi q hq=>?_,hv.keep2 (zp _) fun hl z e=>jaa (hne z (by have:=(hz hl z e).1;omega)),hz⟩ rfl
 have hq:(t.x.e i).ring=some q:=by rcases hi with rfl | rfl<;>exact hq
 obtain ⟨p1,p2,p3,p4,p5⟩:=X.ring i hi q hq
 exact ⟨p1.keep (jaa (hne _ om)) (jaa (hne _ om)),p2,p3,p4,p5⟩
theorem WF.seat (a:WF h w s ow f l now tb no) (ht:l[m]?=some t) {i:Nat} : WF (h.set t.wb ((t.x.name 0 i).obj t.r0 t.r1 t.wv)) w s ow f (l.set m { t with x:=t.x.name 0 i }) now tb no :=
 a.upd ht Upd.set rfl rfl fun k hk=>by rcases hk with rfl | rfl<;>rfl
end
theorem Wi.cells_name {x:Wi} {r0 r1 i:Nat} {v:V} : ((x.cells r0 r1 v).set 0 (.i 1)).set 1 (.i (i:Int))=(x.name 0 i).cells r0 r1 v:=by
 obtain ⟨⟨a0,b0,c0,d0,e0,f0,g0⟩,⟨a1,b1,c1',d1,e1,f1,g1⟩,cap,rs,bl,wt⟩:=x
 rfl
theorem Wi.cells_wait {x:Wi} {r0 r1:Nat} {v v':V} {wt:List Int} : (x.cells r0 r1 v).set 16 v'=({ x with waiting:=wt } : Wi).cells r0 r1 v':=by
 obtain ⟨⟨a0,b0,c0,d0,e0,f0,g0⟩,⟨a1,b1,c1',d1,e1,f1,g1⟩,cap,rs,bl,wt⟩:=x
 rfl
theorem tab_seat {ws:Ws} {n m i j:Nat} {x y:Wi} {rest:List Int} (hx:ws[n]?=some x) (hy:(ws.set n { x with waiting:=rest })[m]?=some y) (h0:y.e0.what=0) (u:Uniq ((ws.set n { x with waiting:=rest }).set m (y.name 0 i))) :
  (if j=i then some (m,0) else atS ws (j:Int))=atS ((ws.set n { x with waiting:=rest }).set m (y.name 0 i)) (j:Int):=by
 by_cases e:j=i
 ·subst e
  rw [if_pos rfl,jd5 (fd:=(j:Int)) u (n:=m) (k:=0) ⟨y.name 0 j,by rw [zh,if_pos rfl,if_pos (w_lt hy)],.inl rfl,rfl,rfl⟩]
 ·rw [if_neg e]
  refine jem fun a k=>⟨fun h=>?_,fun h=>?_⟩
  ·obtain ⟨z,hz,hk,h1,h2⟩:=(jgo (wt:=rest) hx).2 h
   by_cases em:m=a
   ·subst em
    rw [hy] at hz;cases hz
    rcases hk with rfl | rfl
    ·have h1:y.e0.what=1:=h1
     omega
    ·exact ⟨y.name 0 i,by rw [zh,if_pos rfl,if_pos (w_lt hy)],.inr rfl,h1,h2⟩
   ·exact ⟨z,by rw [zh,if_neg em,hz],hk,h1,h2⟩
  ·rcases jfm hy h with ⟨_,_,h3⟩ | ⟨h2,_⟩
   ·omega
   ·exact (jgo hx).1 h2
theorem jdQ {call:Call} {fuel s1 s2 s3 b1 b2 b3:Nat} {e:Env} {h:H} {R:V->H->Prop} {v1 v2 v3:V} (h1:e.get s1=some (.ptr (some (b1,0)))) (h2:e.get s2=some (.ptr (some (b2,0)))) (h3:e.get s3=some (.ptr (some (b3,0))))
  (l1:h.get b1=some (.cells [v1] false)) (l2:h.get b2=some (.cells [v2] false)) (l3:h.get b3=some (.cells [v3] false)) (k:R (.tup [v1,v2,v3]) h):End call fuel [] .ret e h (Fin [.cell1 s1,.cell1 s2,.cell1 s3] R):=by
 refine End.fin2 (a:=v1) (b:=v2) (l:=[v3]) ?_ k
 simp only [jde,h1,h2,h3,jeW (o:=0) (v:=v1) l1 rfl,jeW (o:=0) (v:=v2) l2 rfl,jeW (o:=0) (v:=v3) l3 rfl]
section
variable {cl:Nat->Call} (hcl:Sem cl) {h:H} {w s:Nat} {ow:Nat->Nat} {ws:Ws} {now:Int} {tb:Tb} {no:Option (Nat × Nat)}
include hcl
theorem ww_Accept {d:Nat} {fd:Int} (hd:5<=d) (K:WsK ws) (a:WSt h w s ow ws now tb no) :
  ∃ h',cl d (.fn F.jcO) [.p w 0,.i fd] h=some (.tup [.i (jaw ws fd).1.1,.i (jaw ws fd).1.2.1,.i (jaw ws fd).1.2.2],h')/\WSt h' w s ow (jaw ws fd).2 now tb no/\To h h' ow ow:=by
 obtain ⟨l,a,rfl⟩:=a
 have K':=jhS (fd:=fd) K
 have lw:=a.wf.lw
 suffices q : ∃ v h',cl d (.fn F.jcO) [.p w 0,.i fd] h=some (v,h')/\v = .tup [.i (jaw (wxs l) fd).1.1,.i (jaw (wxs l) fd).1.2.1,.i (jaw (wxs l) fd).1.2.2]/\WSt h' w s ow (jaw (wxs l) fd).2 now tb no/\To h h' ow ow by
  obtain ⟨_,h',e,rfl,q⟩:=q;exact ⟨h',e,q⟩
 refine at_ hcl om rfl rfl rfl ?_
 refine qm1 ?_
 refine Ops.opqh fun G hG=>?_
 simp only [H.nx_new]
 have xG:G.nx=h.nx+4:=by rw [hG];rfl
 have oG:Old h G:=by
  rw [hG]
  repeat (first | exact Old.refl _ | refine Old.new ?_ | refine Old.set ?_ (zp _))
 have g0:G.get h.nx=some (.cells [.p w 0] false):=by rw [hG];exact qgt
 have g1:G.get (h.nx+1)=some (.cells [.i 0] false):=by rw [hG];exact qgt
 have g2:G.get (h.nx+1+1)=some (.cells [.i 0] false):=by rw [hG];exact qgt
 have g3:G.get (h.nx+1+1+1)=some (.cells [.i 0] false):=by rw [hG];exact qgt
 clear hG
 rcases jdc hcl (d:=d-1) (fd:=fd) om (a.old oG) K.ok.uniq with ⟨hno,G2,ef,oF,xF⟩ | ⟨n,k,m,t,rfl,hm,hat,ht,hk,G2,ef,oF,xF⟩
 ·have hS:jaw (wxs l) fd=((0,0,110),wxs l):=jaH hno
  rw [hS]
  have g0':=(oF.2 _ om).trans g0
  have g1':=(oF.2 _ om).trans g1
  have g2':=(oF.2 _ om).trans g2
  have g3':=(oF.2 _ om).trans g3
  refine qm1 ?_
  simp only [H.nx_new]
  refine qm1 ?_
  refine Ops.opqh fun G3 hG3=>?_
  have o3:Old h G3:=by
   rw [hG3]
   repeat (first | exact oG.trans oF | refine Old.new ?_ | refine Old.set ?_ om)
  have q4:G3.get (h.nx+1)=some (.cells [.i 0] false):=by rw [hG3];exact qgt
  have q5:G3.get (h.nx+1+1)=some (.cells [.i 0] false):=by rw [hG3];exact qgt
  have q6:G3.get (h.nx+1+1+1)=some (.cells [.i 110] false):=by rw [hG3];exact qgt
  clear hG3
  refine Ops.store1_chk rfl rfl rfl q4 Nat.zero_lt_one (jbw rfl (by rw [jaa om,q6]) rfl rfl jcm) ?_
  refine Ops.store1_chk (l:=[.i 0]) rfl rfl rfl (by rw [jaa om,q5]) Nat.zero_lt_one (jbw rfl (by rw [jaa om,jaa om,q6]) rfl rfl jcm) ?_
  refine qm1 ?_
  refine jdQ (v1 := .i 0) (v2 := .i 0) (v3 := .i 110) rfl rfl rfl qgt qgt qgt ⟨rfl,?_⟩
  have o4:Old h (((G3.set (h.nx+1) (.cells ([V.i 0].set 0 (.i 0)) false)).set (h.nx+1+1) (.cells ([V.i 0].set 0 (.i 0)) false)).set (h.nx+1+1+1) (.cells ([V.i 110].set 0 (.i 110)) false)):=((o3.set om).set om).set om
  exact ⟨⟨l,a.old o4,rfl⟩,To.of_old o4⟩
 have hx:=jam ht
 have hS:jaw (wxs l) m=_:=jaI K.ok.uniq hat hx
 have X:=a.wf.ok n t ht
 have hwb:=X.lx
 have g0':=(oF.2 _ om).trans g0
 have g1':=(oF.2 _ om).trans g1
 have g2':=(oF.2 _ om).trans g2
 have g3':=(oF.2 _ om).trans g3
 have gt:G2.get t.wb=some (.cells (t.x.cells t.r0 t.r1 t.wv) false):=by rw [oF.2 _ om,oG.2 _ hwb];exact X.hx
 have c15:(t.x.cells t.r0 t.r1 t.wv)[0+15]?=some (.i t.x.backlog):=by simp [Wi.cells,En.cells]
 have c16:(t.x.cells t.r0 t.r1 t.wv)[0+16]?=some t.wv:=by simp [Wi.cells,En.cells]
 have hvi:=X.wait.1
 obtain ⟨av,cv,hva,_⟩:=id hvi
 rw [hva] at c15 c16 gt
 by_cases hb:t.x.backlog=0
 ·rw [if_pos hb] at hS;rw [hS]
  refine qm1 ?_
  simp only [H.nx_new]
  refine qm1 ?_
  refine End.opqh fun G3 hG3=>?_
  have o3:Old h G3:=by
   rw [hG3]
   repeat (first | exact oG.trans oF | refine Old.new ?_ | refine Old.set ?_ om)
  have q4:G3.get (h.nx+1)=some (.cells [.i 0] false):=by rw [hG3];exact qgt
  have q5:G3.get (h.nx+1+1)=some (.cells [.i 0] false):=by rw [hG3];exact qgt
  have q6:G3.get (h.nx+1+1+1)=some (.cells [.i 111] false):=by rw [hG3];exact qgt
  exact jdQ rfl rfl rfl q4 q5 q6 ⟨rfl,⟨l,a.old o3,rfl⟩,To.of_old o3⟩
 rw [if_neg hb] at hS
 cases hL:t.x.waiting with
 | nil=>
  simp only [hL] at hS;rw [hS]
  have lx:(t.x.waiting.length:Int)=0:=by rw [hL];rfl
  refine qm1 ?_
  simp only [H.nx_new]
  refine qm1 ?_
  refine End.opqh fun G3 hG3=>?_
  have o3:Old h G3:=by
   rw [hG3]
   repeat (first | exact oG.trans oF | refine Old.new ?_ | refine Old.set ?_ om)
  have q4:G3.get (h.nx+1)=some (.cells [.i 0] false):=by rw [hG3];exact qgt
  have q5:G3.get (h.nx+1+1)=some (.cells [.i 0] false):=by rw [hG3];exact qgt
  have q6:G3.get (h.nx+1+1+1)=some (.cells [.i 113] false):=by rw [hG3];exact qgt
  exact jdQ rfl rfl rfl q4 q5 q6 ⟨rfl,⟨l,a.old o3,rfl⟩,To.of_old o3⟩
 | cons m0 rest=>
  simp only [hL] at hS
  have hvi2:=hvi
  rw [hva,hL] at hvi2
  have lx:t.x.waiting.length=rest.length+1:=by rw [hL];rfl
  have hwz:=X.wait.2
  rw [hL,hva] at hwz
  have hwz:=hwz Zd
  have hk64:=(K.ok.wait t.x (zb hx)).1
  obtain ⟨y0,y0a,y0b,y0c⟩:=(K.ok.wait t.x (zb hx)).2 m0 (by rw [hL];simp)
  refine qm1 ?_
  simp only [H.nx_new]
  refine qm1 ?_
  refine Ops.opqh fun G3 hG3=>?_
  have x3:G3.nx=h.nx+7:=by rw [hG3];simp only [H.nx_set,H.nx_new];omega
  have o3:Old h G3:=by
   rw [hG3]
   repeat (first | exact oG.trans oF | refine Old.new ?_ | refine Old.set ?_ om)
  have q0:G3.get h.nx=some (.cells [.p w 0] false):=by rw [hG3];exact qgt
  have q4:G3.get (h.nx+1)=some (.cells [.i 0] false):=by rw [hG3];exact qgt
  have q5:G3.get (h.nx+1+1)=some (.cells [.i 0] false):=by rw [hG3];exact qgt
  have q6:G3.get (h.nx+1+1+1)=some (.cells [.i 0] false):=by rw [hG3];exact qgt
  have q8:G3.get (G2.nx+1)=some (.cells [.p t.wb 0] false):=by rw [hG3];exact qgt
  clear hG3
  rw [show G2.nx+1=h.nx+6 by omega] at q8 ⊢
  clear g0' g1' g2' g3' gt g0 g1 g2 g3 ef oF xF oG xG
  refine Ops.callf rfl (jmM hcl (w:=w) (h:=G3) (d:=d-1) om) ?_
  refine qx1 ?_
  refine Run.rangeFunc_lo rfl qkp fun LO hLO=>?_
  have x4:(G3.new (.cells [.p w 0] false)).nx=h.nx+8:=by rw [H.nx_new,x3]
  rw [x4,x3]
  obtain ⟨H5,hH5⟩ : ∃ H5,H5=(G3.new (.cells [.p w 0] false)).new (LO .ready none):=⟨_,rfl⟩
  rw [<- hH5]
  have x5:H5.nx=h.nx+9:=by rw [hH5,H.nx_new,x4]
  have o5:Old h H5:=by rw [hH5];exact o3.new.new
  have keep5 : ∀ j,j<h.nx+7->H5.get j=G3.get j:=fun j hj=>by rw [hH5,jad om,jad om]
  have r0:H5.get h.nx=some (.cells [.p w 0] false):=by rw [keep5 _ om,q0]
  have r4:H5.get (h.nx+1)=some (.cells [.i 0] false):=by rw [keep5 _ om,q4]
  have r5:H5.get (h.nx+1+1)=some (.cells [.i 0] false):=by rw [keep5 _ om,q5]
  have r6:H5.get (h.nx+1+1+1)=some (.cells [.i 0] false):=by rw [keep5 _ om,q6]
  have r8:H5.get (h.nx+6)=some (.cells [.p t.wb 0] false):=by rw [keep5 _ om,q8]
  have r7:H5.get (h.nx+7)=some (.cells [.p w 0] false):=by rw [hH5,jad om,<- x3];exact jac _
  have rL:H5.get (h.nx+8)=some (LO .ready none):=by rw [hH5,<- x4];exact jac _
  clear hH5 keep5 q0 q4 q5 q6 q8 x4 x3 o3
  obtain ⟨sa,c,hw,hwl⟩:=a.wf.head
  obtain ⟨z,rfl,z1,z2,z3⟩:=hwl (by rintro rfl;simp at ht)
  have hbody : ∀ (i:Nat) (g:H),i<96->atS (wxs l) (i:Int)=none->jat (wxs l) i=[]->Old H5 g ->
    ∃ v' g',cl (d-1-1) (.yld (h.nx+8)) [.i (i:Int)] g=some (v',g')/\v' = .bool false /\ ∃ f:Int,g'.get (h.nx+1)=some (.cells [.i f] false)/\g'.get (h.nx+1+1)=some (.cells [.i m0] false)/\g'.get (h.nx+1+1+1)=some (.cells [.i 0] false)/\g'.get (h.nx+8)=some (LO .done (some .ret)) /\
     (jaw (wxs l) m).1=(f,m0,0)/\WSt g' w s ow (jaw (wxs l) m).2 now tb no/\To h g' ow ow:=by
   intro i g hi hf0 hfi og
   have oh:=o5.trans og
   rw [hva] at hvi
   obtain ⟨bz,oz,csz,roz,rfl,hz1,hz2⟩:=VI.cell hvi (i:=0) (x:=m0) (by rw [hL];rfl)
   refine yl_ hcl om hLO (by rw [og.2 _ om,rL]) rfl ?_
   refine qx1 ?_
   refine End.nil ⟨rfl,by rw [og.2 _ om,rL],?_⟩
   have gw:g.get w=some (.cells (wc (fun i=>atS (wxs l) (i:Int)) (.slice (some (z,0)) l.length c) s now no) false):=by rw [oh.2 _ lw,hw]
   have gt:g.get t.wb=some (.cells (t.x.cells t.r0 t.r1 (.slice (some (bz,oz)) t.x.waiting.length cv)) false):=by rw [oh.2 _ hwb,<- hva];exact X.hx
   have gb:g.get bz=some (.cells csz roz):=by rw [oh.2 _ (hwz bz rfl).2,hz1]
   have g0:=(og.2 _ om).trans r0
   have g4:=(og.2 _ om).trans r4
   have g5:=(og.2 _ om).trans r5
   have g6:=(og.2 _ om).trans r6
   have g8:=(og.2 _ om).trans r8
   have gL:=(og.2 _ om).trans rL
   have lz:=(hwz bz rfl).2
   have hvg:VI g (.slice (some (bz,oz)) (m0 :: rest).length cv) (m0 :: rest):=hvi2.keep oh.1 fun y hy=>by cases hy;exact oh.2 _ lz
   have hvl:(V.slice (some (bz,oz)) t.x.waiting.length cv) = .slice (some (bz,oz)) (m0 :: rest).length cv:=by rw [hL]
   have og1:=og.1
   have hmm:(m0 :: rest:List Int).length=rest.length+1:=rfl
   clear r0 r4 r5 r6 r8 r7 rL og hvi hvi2
   refine qs1 ?_
   refine Ops.opqh fun G6 hG6=>?_
   have x6:G6.nx=g.nx:=by rw [hG6];rfl
   have o6:Old h G6:=by rw [hG6];exact (oh.set om).set om
   have k6 : ∀ j,j<h.nx->G6.get j=g.get j:=fun j hj=>by rw [hG6,jaa om,jaa om]
   have s0:G6.get h.nx=some (.cells [.p w 0] false):=by rw [hG6];exact qgt
   have s4:G6.get (h.nx+1)=some (.cells [.i 0] false):=by rw [hG6];exact qgt
   have s5:G6.get (h.nx+1+1)=some (.cells [.i m0] false):=by rw [hG6];exact qgt
   have s6:G6.get (h.nx+1+1+1)=some (.cells [.i 0] false):=by rw [hG6];exact qgt
   have sL:G6.get (h.nx+8)=some (LO .busy none):=by rw [hG6];exact qgt
   have gt6:=(k6 _ hwb).trans gt
   have hv6:VI G6 (.slice (some (bz,oz)) t.x.waiting.length cv) t.x.waiting:=by
    rw [hvl,hL];exact hvg.keep (Nat.le_of_eq x6.symm) fun y hy=>by cases hy;exact k6 _ lz
   clear hG6 gt gb g0 g4 g5 g6 g8 gL hvg
   refine Ops.icut_l (m:=1) rfl hv6 rfl om fun v2 hv2 hz2=>?_
   rw [show t.x.waiting.drop 1=rest by rw [hL];rfl] at hv2
   have W6:=(a.wf.old o6).setWait ht hv2 fun _ y hy=>by
    have:=hz2 y hy
    cases this
    exact ⟨(hwz bz rfl).1,zq lz o6.1⟩
   have hlen6:0+16<(t.x.cells t.r0 t.r1 (.slice (some (bz,oz)) t.x.waiting.length cv)).length:=by rw [Wi.cells_length];omega
   have ecell:Obj.cells ((t.x.cells t.r0 t.r1 (.slice (some (bz,oz)) t.x.waiting.length cv)).set (0+16) v2) false=(t.setw v2 rest).x.obj t.r0 t.r1 v2:=by
    show Obj.cells ((t.x.cells t.r0 t.r1 (.slice (some (bz,oz)) t.x.waiting.length cv)).set 16 v2) false=_
    rw [Wi.cells_wait (wt:=rest)];rfl
   have hone:=hv2.one
   refine qx1 ?_
   refine Ops.store1 rfl rfl hone gt6 hlen6 ?_
   rw [ecell]
   refine Ops.opqh fun G7 hG7=>?_
   rw [<- hG7] at W6
   have T7:To h G7 ow ow:=(To.of_old o6).trans ⟨by rw [hG7];exact Ch.set (by show ow t.wb≠0;have:=X.ox;omega),fun _ _=>rfl⟩
   have k7 : ∀ j,h.nx<=j->G7.get j=G6.get j:=fun j hj=>by rw [hG7,jaa om]
   have x7:G7.nx=G6.nx:=by rw [hG7];rfl
   have s0:=(k7 _ om).trans s0
   have s4:=(k7 _ om).trans s4
   have s5:=(k7 _ om).trans s5
   have s6:=(k7 _ om).trans s6
   have sL:=(k7 _ om).trans sL
   clear hG7 k7 k6 ecell hlen6 gt6 hone hz2 hv6
   generalize hl1:l.set n (t.setw v2 rest)=l1 at W6
   have hws1:wxs l1=(wxs l).set n { t.x with waiting:=rest } := by rw [<- hl1,jbf];rfl
   obtain ⟨mm,rfl⟩:=zx y0a
   rw [zu] at y0b
   have hln1:l1.length=l.length:=by rw [<- hl1];simp
   obtain ⟨t2,ht2⟩ : ∃ t2,l1[mm]?=some t2:=⟨_,za (by have:=w_lt y0b;rw [List.length_map] at this;omega)⟩
   have hy2:=jam ht2
   rw [hws1] at hy2
   have y2:t2.x.e0.what=0:=by
    rcases jdE hy2 with ⟨e1,e2⟩ | ⟨e1,e2⟩
    ·subst e1
     rw [hx] at y0b;cases y0b
     rw [e2];exact y0c
    ·rw [y0b] at e2;cases e2;exact y0c
   have X2:=W6.ok mm t2 ht2
   have gt2:G7.get t2.wb=some (.cells (t2.x.cells t2.r0 t2.r1 t2.wv) false):=X2.hx
   obtain ⟨sa7,c7,hw7,hwl7⟩:=W6.head
   obtain ⟨z7,rfl,z71,z72,z73⟩:=hwl7 (by rintro rfl;simp at ht2)
   have w1:(wc (fun i=>atS (wxs l) (i:Int)) (.slice (some (z7,0)) l1.length c7) s now no)[0+288]?=some (.slice (some (z7,0)) l1.length c7):=jbd rfl
   have w2:(wps l1)[0+(mm:Int).toNat*1]?=some (.p t2.wb 0):=by rw [show 0+(mm:Int).toNat*1=mm by omega];exact jdq ht2
   have hm1:=x_lt ht2
   refine qs1 ?_
   refine Ops.opqh fun G8 hG8=>?_
   have x8:G8.nx=G7.nx:=by rw [hG8];rfl
   have u8:Upd t2.wb ((t2.x.name 0 i).obj t2.r0 t2.r1 t2.wv) G7 G8:=by
    refine ⟨x8,?_,fun j hj=>by rw [hG8,jaa hj,jaa hj]⟩
    rw [hG8,jab]
    show some (Obj.cells (((t2.x.cells t2.r0 t2.r1 t2.wv).set 0 (.i 1)).set 1 (.i i)) false)=_
    rw [Wi.cells_name];rfl
   have W8:=W6.upd ht2 u8 rfl rfl fun k hk=>by rcases hk with rfl | rfl<;>rfl
   have T8:To h G8 ow ow:=T7.trans ⟨(u8.ch (B:=fun j=>j=t2.wb) rfl).weaken fun j _ e=>by
    have e:j=t2.wb:=e
    show ow j≠0
    rw [e,X2.ox];omega,fun _ _=>rfl⟩
   have k8 : ∀ j,h.nx<=j->G8.get j=G7.get j:=fun j hj=>u8.get _ fun e=>by
    have:=X2.ox
    rw [<- e,a.wf.top j hj] at this;omega
   have s0:=(k8 _ om).trans s0
   have s4:=(k8 _ om).trans s4
   have s5:=(k8 _ om).trans s5
   have s6:=(k8 _ om).trans s6
   have sL:=(k8 _ om).trans sL
   have hw8:G8.get w=some (.cells (wc (fun i=>atS (wxs l) (i:Int)) (.slice (some (z7,0)) l1.length c7) s now no) false):=by
    rw [u8.get _ fun e=>by have:=X2.ox;rw [<- e,a.wf.tw] at this;omega,hw7]
   have hlen8:0+0+(i:Int).toNat*3+3<=(wc (fun i=>atS (wxs l) (i:Int)) (.slice (some (z7,0)) l1.length c7) s now no).length:=by rw [jbz];omega
   have W9:=W8.place (i:=i) (o:=0+0+(i:Int).toNat*3) (p:=some (mm,0)) hi om hw8
   clear hG8 hw7 gt2 w1 w2
   refine qs1 ?_
   refine Ops.storeN (vs:=[.bool true,.i (mm:Int),.i 0]) rfl rfl rfl rfl hw8 hlen8 ?_
   refine Ops.opqh fun G9 hG9=>?_
   have W9:WF G9 w s ow (fun j=>if j=i then some (mm,0) else atS (wxs l) (j:Int)) (l1.set mm { t2 with x:=t2.x.name 0 i }) now tb no:=by rw [hG9];exact W9
   have x9:G9.nx=G8.nx:=by rw [hG9];rfl
   have T9:To h G9 ow ow:=T8.trans ⟨by rw [hG9];exact Ch.set (by show ow w≠0;rw [a.wf.tw];omega),fun _ _=>rfl⟩
   have k9 : ∀ j,h.nx<=j->G9.get j=G8.get j:=fun j hj=>by rw [hG9,jaa om]
   have s0:=(k9 _ om).trans s0
   have s4:=(k9 _ om).trans s4
   have s5:=(k9 _ om).trans s5
   have s6:=(k9 _ om).trans s6
   have sL:=(k9 _ om).trans sL
   clear hG9 k9 hw8 hlen8
   refine qs1 ?_
   refine Ops.store1_chk (l:=[.i 0]) rfl rfl rfl s4 Nat.zero_lt_one (jbw rfl (by rw [jaa om,s5]) rfl rfl jcm) ?_
   refine qs1 ?_
   refine End.opqh fun M hM=>?_
   have kM : ∀ j,j<h.nx->M.get j=G9.get j:=fun j hj=>by rw [hM,jaa om,jaa om,jaa om]
   have xM:M.nx=G9.nx:=by rw [hM];rfl
   have v4:M.get (h.nx+1)=some (.cells [.i (i:Int)] false):=by rw [hM];exact qgt
   have v5:M.get (h.nx+1+1)=some (.cells [.i (mm:Int)] false):=by rw [hM];exact qgt
   have v6:M.get (h.nx+1+1+1)=some (.cells [.i 0] false):=by rw [hM];exact qgt
   have vL:M.get (h.nx+8)=some (LO .busy none):=by rw [hM];exact qgt
   clear hM
   have hF : ∃ fs,jat (wxs l) 96=(i:Int) :: fs:=by
    have e1:jat (wxs l) (i+1)=[(i:Int)]:=by rw [jcl,hfi,hf0];rfl
    have e2:=jdN (wxs l) 96 (i+1) om
    rw [e1] at e2
    cases hh:jat (wxs l) 96 with
    | nil=>rw [hh] at e2;simp at e2
    | cons q fs=>rw [hh] at e2;exact ⟨fs,by simpa using e2⟩
   obtain ⟨fs,hF⟩:=hF
   rw [hF] at hS
   simp only [zu] at hS
   rw [hy2] at hS
   have hS:jaw (wxs l) m=(((i:Int),(mm:Int),0),((wxs l).set n { t.x with waiting:=rest }).set mm (t2.x.name 0 i)):=hS
   rw [hS] at K' ⊢
   have uq:=K'.ok.uniq
   have W10:=(W9.congr (g:=fun j=>atS ((( wxs l).set n { t.x with waiting:=rest }).set mm (t2.x.name 0 i)) (j:Int)) fun j _=>(tab_seat (j:=j) hx hy2 y2 uq).symm).keep (h':=M.set (h.nx+8) (LO .done (some .ret))) (by show G9.nx<=M.nx;omega) fun j hj=>by
    have hj2:j<h.nx:=by
     rcases zw j h.nx with h1 | h1
     ·exact h1
     ·exact absurd (a.wf.top j h1) hj
    rw [jaa om,kM j hj2]
   have ez:wxs (l1.set mm { t2 with x:=t2.x.name 0 i })=((wxs l).set n { t.x with waiting:=rest }).set mm (t2.x.name 0 i):=by rw [jbf,hws1]
   refine End.nil ⟨⟨.busy,none,vL⟩,rfl,(i:Int),by rw [jaa om,v4],by rw [jaa om,v5],by rw [jaa om,v6],jab _,rfl,⟨_,⟨by rw [ez];exact W10,fun a' k' fd' hf=>?_⟩,ez⟩,⟨⟨by have:=T9.ch.nx;show h.nx<=M.nx;omega,fun j hj hn=>by rw [jaa om,kM j hj];exact T9.ch.get j hj hn⟩,T9.tag⟩⟩
   rw [ez] at hf
   rcases jfm hy2 hf with ⟨_,_,h3⟩ | ⟨h3,_⟩
   ·rw [h3];omega
   ·exact a.fds a' k' fd' ((jgo hx).1 h3)
  obtain ⟨v,h',hc,hIJ⟩:=jiW hcl (d:=d-1) (L:=h.nx+8) (bx:=h.nx+7) (h:=H5) (f:=fun i=>atS (wxs l) (i:Int)) (s:=s) (now:=now) (no:=no) (w:=w) (wl:=wc (fun i=>atS (wxs l) (i:Int)) (.slice (some (z,0)) l.length c) s now no) om
   (fun i g=>jat (wxs l) i=[]/\Old H5 g)
   (fun g'=>∃ f:Int,g'.get (h.nx+1)=some (.cells [.i f] false)/\g'.get (h.nx+1+1)=some (.cells [.i m0] false)/\g'.get (h.nx+1+1+1)=some (.cells [.i 0] false)/\g'.get (h.nx+8)=some (LO .done (some .ret))/\(jaw (wxs l) m).1=(f,m0,0)/\WSt g' w s ow (jaw (wxs l) m).2 now tb no/\To h g' ow ow)
   (.inr (by rw [o5.2 _ lw,hw])) ⟨jbz,jmN⟩ r7
   (fun i g g' p og=>⟨p.1,p.2.trans og⟩)
   (fun i g hi hf p=>by
    refine ⟨?_,p.2⟩
    have:(atS (wxs l) (i:Int)).isNone=false:=by cases h5:atS (wxs l) (i:Int)<;>simp_all
    rw [jcl,this,p.1];rfl)
   (fun i g hi hf p=>by
    obtain ⟨v',g',e1,rfl,e2⟩:=hbody i g hi hf p.1 p.2
    exact ⟨false,g',e1,fun e=>(by cases e),fun _=>e2⟩)
   ⟨by simp [jat],Old.refl _⟩
  refine ⟨v,h',hc,?_⟩
  rcases hIJ with ⟨p1,p2⟩ | ⟨f,p1,p2,p3,p4,p5,p6,p7⟩
  ·refine ⟨.normal,by rw [p2.2 _ om,rL];rfl,?_⟩
   rw [p1] at hS
   have hS:jaw (wxs l) m=((0,0,112),wxs l):=hS
   rw [hS]
   have oK:Old h (h'.kill (h.nx+8)):=⟨by have:=p2.1;show h.nx<=h'.nx;omega,fun j hj=>by rw [jan om,p2.2 _ om,o5.2 _ hj]⟩
   have v4:(h'.kill (h.nx+8)).get (h.nx+1)=some (.cells [.i 0] false):=by rw [jan om,p2.2 _ om,r4]
   have v5:(h'.kill (h.nx+8)).get (h.nx+1+1)=some (.cells [.i 0] false):=by rw [jan om,p2.2 _ om,r5]
   have v6:(h'.kill (h.nx+8)).get (h.nx+1+1+1)=some (.cells [.i 0] false):=by rw [jan om,p2.2 _ om,r6]
   clear hbody hwl p2
   generalize h'.kill (h.nx+8)=g at oK v4 v5 v6 ⊢
   refine qs1 ?_
   refine End.opqh fun M hM=>?_
   have oM:Old h M:=by rw [hM];exact ((oK.set om).set om).set om
   have v4:M.get (h.nx+1)=some (.cells [.i 0] false):=by rw [hM];exact qgt
   have v5:M.get (h.nx+1+1)=some (.cells [.i 0] false):=by rw [hM];exact qgt
   have v6:M.get (h.nx+1+1+1)=some (.cells [.i 112] false):=by rw [hM];exact qgt
   exact jdQ rfl rfl rfl v4 v5 v6 ⟨rfl,⟨l,a.old oM,rfl⟩,To.of_old oM⟩
  ·refine ⟨.ret,by rw [p4];rfl,?_⟩
   rw [p5]
   have v4:(h'.kill (h.nx+8)).get (h.nx+1)=some (.cells [.i f] false):=by rw [jan om,p1]
   have v5:(h'.kill (h.nx+8)).get (h.nx+1+1)=some (.cells [.i m0] false):=by rw [jan om,p2]
   have v6:(h'.kill (h.nx+8)).get (h.nx+1+1+1)=some (.cells [.i 0] false):=by rw [jan om,p3]
   obtain ⟨l',W,e'⟩:=p6
   have hlt : ∀ j,ow j≠0->j≠h.nx+8:=fun j hj e=>hj (a.wf.top j om)
   have W':WSt (h'.kill (h.nx+8)) w s ow (jaw (wxs l) m).2 now tb no:=⟨l',⟨W.wf.keep (zp _) fun j hj=>jan (hlt j hj),W.fds⟩,e'⟩
   have T':To h (h'.kill (h.nx+8)) ow ow:=⟨⟨p7.ch.nx,fun j hj hn=>by rw [jan om];exact p7.ch.get j hj hn⟩,p7.tag⟩
   clear hbody hwl
   generalize h'.kill (h.nx+8)=g at W' T' v4 v5 v6 ⊢
   refine qs1 ?_
   exact jdQ rfl rfl rfl v4 v5 v6 ⟨rfl,W',T'⟩
end
def RowZ (N:Nat) (h:H) (v:V) (l:List Int):Prop:=Row N h 1 v l.length (ints l)\/(l=[] /\ ∃ b,v = .slice (some (b,0)) 0 (.fix 0)/\N<=b/\b<h.nx)
theorem RowZ.at_ge {N:Nat} {h:H} {v:V} {l:List Int} (r:RowZ N h v l) {q:Nat} (hq:v.at?=some q):N<=q/\q<h.nx:=by
 rcases r with r | ⟨_,b,rfl,h1,h2⟩
 ·exact r.at_ge hq
 ·cases hq;exact ⟨h1,h2⟩
theorem RowZ.keep {N:Nat} {h h':H} {v:V} {l:List Int} (r:RowZ N h v l) (hx:h.nx<=h'.nx) (hg : ∀ q,v.at?=some q->h'.get q=h.get q):RowZ N h' v l:=by
 rcases r with r | ⟨h0,b,rfl,h1,h2⟩
 ·exact .inl (r.keep hx hg)
 ·exact .inr ⟨h0,b,rfl,h1,by omega⟩
theorem jkL {h:H} {b:Nat} {v:V} {l:List Int} (hv:VI h v l) (hn:l.length<=1000000) (hb:b<h.nx) :
  ∃ v' h',jbc h 1 8 (.slice (some (b,0)) 0 (.fix 0)) v=some (v',h')/\Old h h' /\ ∀ N,N<=b->RowZ N h' v' l:=by
 obtain ⟨a,cp,rfl,n,f,g⟩:=hv
 have hcond:(Nat.ble ((0+l.length)*8) (2 ^ 46)&&Nat.ble (0+l.length) (2 ^ 46))=true:=by simp only [zn,Nat.ble_eq];omega
 by_cases hl:l=[]
 ·subst hl
  have hsrc:ja3 h 1 0 (.slice a 0 cp)=some []:=by cases a<;>rfl
  refine ⟨.slice (some (b,0)) 0 (.fix 0),h,?_,Old.refl h,fun N hN=>.inr ⟨rfl,b,rfl,hN,hb⟩⟩
  simp only [jbc,lenOf,List.length_nil,hsrc]
  rfl
 ·obtain ⟨b',o,cs,ro,rfl,h1,h2,h3⟩:=g hl
  have hpos:0<l.length:=List.length_pos_iff.2 hl
  obtain ⟨p1,p2⟩:=jhN h3 hpos
  have hz:(l.length == 0)=false:=by simp;omega
  have hz1:(l.length*1 == 0)=false:=by simp;omega
  have hsrc:ja3 h 1 l.length (.slice (some (b',o)) l.length cp)=some (ints l):=by
   simp only [ja3,hz1,cond_false]
   rw [jdg h2 om,Nat.mul_one,p2]
  have hble:Nat.ble (0+l.length) 0=false:=by
   cases hb2:Nat.ble (0+l.length) 0 with
   | false=>rfl
   | true=>rw [Nat.ble_eq] at hb2;omega
  refine ⟨.slice (some (h.nx,0)) (0+l.length) (.grow 1),h.new (.cells (ints l) false),?_,(Old.refl h).new,fun N hN=>.inl (.inr ⟨h.nx,by omega,by simp,by rw [Nat.zero_add],jac _,by simp⟩)⟩
  simp only [jbc,lenOf,hsrc]
  rw [hcond]
  simp only [cond_true,hz,cond_false,hble]
  rfl
theorem append_z1 {N:Nat} {h:H} {v:V} {l:List Int} {q:Nat} {x:Int} {cap:Cap} (r:RowZ N h v l) (hN:N<=h.nx) (hn:l.length<=100000) (hq:h.get q=some (.cells [.i x] false)) (hne:v.at?≠some q) :
  ∃ v' h',jbc h 1 8 v (.slice (some (q,0)) 1 cap)=some (v',h')/\Row N h' 1 v' (l++[x]).length (ints (l++[x]))/\h.nx<=h'.nx/\v'.at?=some h.nx /\ ∀ j,j<h.nx->v.at?≠some j->h'.get j=h.get j:=by
 rcases r with r | ⟨rfl,b,rfl,h1,h2⟩
 ·obtain ⟨v',h',e1,e2,e3,e4,e5⟩:=jen (bytes:=8) (cap:=cap) r hN hq rfl rfl om om om hne
  exact ⟨v',h',e1,by rw [ze];simpa [ints] using e2,e3,e4,e5⟩
 ·have hsrc:ja3 h 1 1 (.slice (some (q,0)) 1 cap)=some [.i x]:=by
   simp only [ja3]
   rw [show ((1*1:Nat) == 0)=false from rfl,cond_false,jdg hq Zd];rfl
  refine ⟨.slice (some (h.nx,0)) 1 (.grow 1),h.new (.cells [.i x] false),?_,.inr ⟨h.nx,hN,by simp,rfl,jac _,rfl⟩,by simp,rfl,fun j hj _=>jad hj⟩
  simp only [jbc,lenOf,hsrc]
  rfl
section
variable {call:Call} {fuel base:Nat} {ops:List Ins} {keep:List Nat} {K:List Fr} {e:Env} {h:H} {Q:Post} {ix:Nat} {dst:Option Nat}
theorem Ops.app_zero {b:Nat} {x y:Opd} {v:V} {l:List Int} (hx:x.ev e=some (.slice (some (b,0)) 0 (.fix 0))) (hy:y.ev e=some v) (hv:VI h v l) (hn:l.length<=1000000) (hb:b<h.nx)
  (k : ∀ v' h',Old h h'->(∀ N,N<=b->RowZ N h' v' l)->Ops call fuel base ops keep K (layv e dst v') h' Q):Ops call fuel base (⟨ix,dst,.append 1 8 x y,none,none,[]⟩ :: ops) keep K e h Q:=by
 obtain ⟨v',h',e1,e2,e3⟩:=jkL hv hn hb
 exact Ops.step (I.run_eff rfl (by simp only [I.eff,hx,hy,e1])) (k v' h' e2 e3)
theorem Ops.app_z1 {N:Nat} {x y:Opd} {v:V} {l:List Int} {q:Nat} {n:Int} {cap:Cap} (hx:x.ev e=some v) (hy:y.ev e=some (.slice (some (q,0)) 1 cap)) (r:RowZ N h v l) (hN:N<=h.nx) (hn:l.length<=100000) (hq:h.get q=some (.cells [.i n] false)) (hne:v.at?≠some q)
  (k : ∀ v' h',Row N h' 1 v' (l++[n]).length (ints (l++[n]))->h.nx<=h'.nx->v'.at?=some h.nx->(∀ j,j<h.nx->v.at?≠some j->h'.get j=h.get j)->Ops call fuel base ops keep K (layv e dst v') h' Q):Ops call fuel base (⟨ix,dst,.append 1 8 x y,none,none,[]⟩ :: ops) keep K e h Q:=by
 obtain ⟨v',h',e1,e2,e3,e4,e5⟩:=append_z1 (cap:=cap) r hN hn hq hne
 exact Ops.step (I.run_eff rfl (by simp only [I.eff,hx,hy,e1])) (k v' h' e2 e3 e4 e5)
end
section
variable {cl:Nat->Call} (hcl:Sem cl)
include hcl
theorem sp_clone {d:Nat} {h:H} {v:V} {l:List Int} (hd:1<=d) (hv:VI h v l) (hn:l.length<=100000) : ∃ v1 h1,cl d (.fn F.jeo) [v] h=some (v1,h1)/\Old h h1/\RowZ h.nx h1 v1 l:=by
 obtain ⟨a,c,rfl,n,f,g⟩:=id hv
 refine at_ hcl om rfl rfl rfl ?_
 cases a with
 | none=>
  obtain ⟨rfl,rfl⟩:=n rfl
  refine qx1 ?_
  all_goals first | exact ⟨Old.refl h,.inl (Row.nil _ _ _)⟩ | skip
 | some p=>
  refine qm1 ?_
  refine Ops.app_zero (b:=h.nx) rfl rfl (hv.keep2 Zd fun hl z hz=>?_) om Zd fun v' h' o r=>?_
  ·obtain ⟨b',o',_,_,e0,h1,_⟩:=g hl
   cases e0
   cases hz
   exact jad h1
  refine qm1 ?_
  exact ⟨(Old.refl h).new.trans o,r _ (zp _)⟩
end
theorem WF.retag {h:H} {w s:Nat} {ow ow':Nat->Nat} {f:Nat->Option (Nat × Nat)} {l:List WX} {now:Int} {tb:Tb} {no:Option (Nat × Nat)} (a:WF h w s ow f l now tb no) (hk : ∀ j,ow j≠0->ow' j=ow j) (top : ∀ j,h.nx<=j->ow' j=0):WF h w s ow' f l now tb no:=by
 obtain ⟨wv,p1,p2,p3⟩:=a.hw
 exact ⟨⟨wv,p1,p2,fun z hz=>by rw [hk z (by rw [p3 z hz];omega),p3 z hz]⟩,a.hs,by rw [hk w (by rw [a.tw];omega),a.tw],by rw [hk s (by rw [a.ts];omega),a.ts],a.lw,a.ls,top,fun n t ht=>(a.ok n t ht).tag0 hk⟩
theorem Wi.cells_inn {x:Wi} {r0 r1:Nat} {v:V} {i:Int} : (x.cells r0 r1 v).set 5 (.int .u64 i)=({ x with e0 := { x.e0 with inn:=i } } : Wi).cells r0 r1 v:=by
 obtain ⟨⟨a0,b0,c0,d0,e0,f0,g0⟩,⟨a1,b1,c1',d1,e1,f1,g1⟩,cap,rs,bl,wt⟩:=x
 rfl
def Wi.more (x:Wi) (m:Int):Wi := { x with waiting:=x.waiting++[m],e0 := { x.e0 with inn:=upu x.e0.inn } }
theorem AtW_more {ws:Ws} {n:Nat} {x:Wi} {m:Int} {many:Int} (hx:ws[n]?=some x) (i k:Nat) (fd:Int):AtW (ws.set n (x.more m)++[jbe many]) i k fd↔AtW ws i k fd:=by
 have hs:x.SameFd (x.more m):=fun k hk=>by rcases hk with rfl | rfl<;>exact ⟨Iff.rfl,fun _=>rfl⟩
 rw [<- jiQ hx hs i k fd]
 constructor
 ·intro h
  rcases jd7 h with h | ⟨_,hk,h1,_⟩
  ·exact h
  ·rcases hk with rfl | rfl
   ·have h1:(0:Int)=1:=h1
    omega
   ·have h1:(2:Int)=1:=h1
    omega
 ·rintro ⟨y,hy,r⟩
  exact ⟨y,jef hy,r⟩
section
variable {cl:Nat->Call} (hcl:Sem cl) {h:H} {w s:Nat} {ow:Nat->Nat} {l:List WX} {now:Int} {tb:Tb} {no:Option (Nat × Nat)}
include hcl
theorem cw_mid {d m nn:Nat} {t:WX} {G:H} (hd:2<=d) (K:WsK (wxs l)) (a:WW h w s ow l now tb no) (ht:l[m]?=some t) (hwt:t.x.waiting.length<=64) (hfull:l.length<1000) (oG:Old h G) (xG:h.nx+5<=G.nx) (gN:G.get h.nx=some ((jbe nn).obj (h.nx+2) (h.nx+4) .nils))
  (R : ∀ k,k=0\/k=1->ja2 G (two (h.nx+2) (h.nx+4) k) (two (h.nx+1) (h.nx+3) k) [] nn) :
  Run (cl (d-1)) fuel c95_3 [] [(0,.p w 0),(8,.p h.nx 0),(9,.p t.wb 0)] G (Fin c95.res fun v h'=>∃ ow',v = .tup [.i (l.length:Int),.i 0]/\WSt h' w s ow' ((wxs l).set m (t.x.more (l.length:Int))++[jbe nn]) now tb no/\To h h' ow ow'):=by
 have lw:=a.wf.lw
 obtain ⟨sa,c,hw,hsl⟩:=a.wf.head
 have c1:(wc (fun i=>atS (wxs l) (i:Int)) (.slice sa l.length c) s now no)[0+288]?=some (.slice sa l.length c):=jbd rfl
 have hlt:=x_lt ht
 have X:=a.wf.ok m t ht
 have hwb:=X.lx
 have hvi:=X.wait.1
 obtain ⟨av,cv,hva,_⟩:=id hvi
 have hvi:VI G (.slice av t.x.waiting.length cv) t.x.waiting:=by
  rw [<- hva]
  exact hvi.keep2 oG.1 fun hl z hz=>oG.2 z (X.wait.2 hl z hz).2
 have gw:(G.reserve 1).get w=some (.cells (wc (fun i=>atS (wxs l) (i:Int)) (.slice sa l.length c) s now no) false):=(oG.2 _ lw).trans hw
 have gt:(G.reserve 1).get t.wb=some (.cells (t.x.cells t.r0 t.r1 (.slice av t.x.waiting.length cv)) false):=by rw [<- hva];exact (oG.2 _ hwb).trans X.hx
 have hvi1:VI (G.reserve 1) (.slice av t.x.waiting.length cv) t.x.waiting:=hvi.keep (by show G.nx<=G.nx+1;omega) fun _ _=>rfl
 obtain ⟨v1,G2,e2,o2,rz⟩:=sp_clone hcl (d:=d-1) om hvi1 om
 have x1:(G.reserve 1).nx=G.nx+1:=rfl
 have o2x:=o2.1
 refine Run.seq (Run.region ?_)
 refine qx1 ?_
 refine Ops.callf_chk rfl e2 (jbw rfl (by rw [o2.2 _ om,gw]) c1 rfl jcm) ?_
 refine Ops.bslice1_at (new:=[.i (l.length:Int)]) rfl rfl rfl rfl ?_
 refine Ops.opqh fun G3 hG3=>?_
 have x3:G3.nx=G2.nx:=by rw [hG3];rfl
 have k3 : ∀ j,j≠G.nx->G3.get j=G2.get j:=fun j hj=>by rw [hG3,jaa om]
 have b3:G3.get (G.nx+0)=some (.cells [.i (l.length:Int)] false):=by rw [hG3,jab]
 have o3:Old h G3:=⟨by have:=oG.1;omega,fun j hj=>by rw [k3 j (by have:=oG.1;omega),o2.2 j (by have:=oG.1;omega)];exact oG.2 j hj⟩
 have n3 : ∀ j,h.nx<=j->j<h.nx+5->G3.get j=G.get j:=fun j j1 j2=>by rw [k3 j om,o2.2 j om];rfl
 clear hG3
 have rz3:RowZ (G.reserve 1).nx G3 v1 t.x.waiting:=rz.keep om fun q hq=>k3 q (by have:=rz.at_ge hq;omega)
 refine Ops.app_z1 rfl rfl rz3 om om b3 (fun e=>by have:=rz.at_ge e;omega) fun v2 G4 row4 x4 at4 k4=>?_
 have o4:Old h G4:=⟨by have:=o3.1;omega,fun j hj=>by rw [k4 j (by have:=o3.1;omega) (fun e=>by have:=rz.at_ge e;have:=oG.1;omega),o3.2 j hj]⟩
 have n4 : ∀ j,h.nx<=j->j<h.nx+5->G4.get j=G.get j:=fun j j1 j2=>by rw [k4 j om (fun e=>by have:=rz.at_ge e;omega),n3 j j1 j2]
 have gt4:G4.get t.wb=some (.cells (t.x.cells t.r0 t.r1 (.slice av t.x.waiting.length cv)) false):=by rw [o4.2 _ hwb,<- hva];exact X.hx
 have hlen:0+16<(t.x.cells t.r0 t.r1 (.slice av t.x.waiting.length cv)).length:=by rw [Wi.cells_length];omega
 have ecell:Obj.cells ((t.x.cells t.r0 t.r1 (.slice av t.x.waiting.length cv)).set (0+16) v2) false=(t.setw v2 (t.x.waiting++[(l.length:Int)])).x.obj t.r0 t.r1 v2:=by
  show Obj.cells ((t.x.cells t.r0 t.r1 (.slice av t.x.waiting.length cv)).set 16 v2) false=_
  rw [Wi.cells_wait (wt:=t.x.waiting++[(l.length:Int)])];rfl
 obtain ⟨p1,p2⟩:=VI.ofRow row4
 have hone:=p1.one
 obtain ⟨ow1,how1⟩ : ∃ ow1:Nat->Nat,ow1=fun j=>if j=G3.nx then 10*m+15 else ow j:=⟨_,rfl⟩
 have hz0:ow G3.nx=0:=a.wf.top _ o3.1
 have t1:ow1 G3.nx=10*m+15:=by rw [how1];exact if_pos rfl
 have t2 : ∀ j,j≠G3.nx->ow1 j=ow j:=fun j hj=>by rw [how1];exact if_neg hj
 have z4:G3.nx<G4.nx:=by
  rcases row4 with ⟨h0,_⟩ | ⟨q,_,q1,rfl,_⟩
  ·simp at h0
  ·cases at4;exact q1
 have W4:WF G4 w s ow1 (fun i=>atS (wxs l) (i:Int)) l now tb no:=(a.wf.old o4).retag (fun j hj=>t2 j fun e=>hj (by rw [e,hz0])) fun j hj=>by rw [t2 j om];exact a.wf.top j (by have:=o4.1;omega)
 have W5:=W4.setWait ht p1 fun _ z hz=>by
  rw [at4] at hz;cases hz
  exact ⟨t1,z4⟩
 clear how1 gt gw hvi hvi1 b3 rz rz3 e2 row4
 refine qx1 ?_
 refine Ops.store1 rfl rfl hone gt4 hlen ?_
 rw [ecell]
 refine Ops.opqh fun G5 hG5=>?_
 rw [<- hG5] at W5
 have x5:G5.nx=G4.nx:=by rw [hG5];rfl
 have k5 : ∀ j,j≠t.wb->G5.get j=G4.get j:=fun j hj=>by rw [hG5,jaa hj]
 clear hG5 ecell hlen gt4 hone
 have ht5:(l.set m (t.setw v2 (t.x.waiting++[(l.length:Int)])))[m]?=some (t.setw v2 (t.x.waiting++[(l.length:Int)])):=by rw [zh,if_pos rfl,if_pos hlt]
 generalize hl5:l.set m (t.setw v2 (t.x.waiting++[(l.length:Int)]))=l5 at W5 ht5
 have len5:l5.length=l.length:=by rw [<- hl5];simp
 have X5:=W5.ok m _ ht5
 have gt5:G5.get t.wb=some (.cells ((t.setw v2 (t.x.waiting++[(l.length:Int)])).x.cells t.r0 t.r1 v2) false):=X5.hx
 have c5:((t.setw v2 (t.x.waiting++[(l.length:Int)])).x.cells t.r0 t.r1 v2)[0+0+Int.toNat 0*7+5]?=some (.int .u64 t.x.e0.inn):=rfl
 have hlen5:0+0+Int.toNat 0*7+5<((t.setw v2 (t.x.waiting++[(l.length:Int)])).x.cells t.r0 t.r1 v2).length:=by rw [Wi.cells_length];show 5<17;omega
 refine qx1 ?_
 refine Ops.store1 rfl rfl rfl gt5 hlen5 ?_
 refine Ops.opqh fun G6 hG6=>?_
 have u6:Upd t.wb ((t.x.more (l.length:Int)).obj t.r0 t.r1 v2) G5 G6:=by
  refine ⟨by rw [hG6];rfl,?_,fun j hj=>by rw [hG6,jaa hj]⟩
  rw [hG6,jab]
  show some (Obj.cells (((t.setw v2 (t.x.waiting++[(l.length:Int)])).x.cells t.r0 t.r1 v2).set 5 (.int .u64 (upu t.x.e0.inn))) false)=_
  rw [Wi.cells_inn];rfl
 clear hG6 gt5 c5 hlen5
 have W6:=W5.upd (x':=t.x.more (l.length:Int)) ht5 u6 rfl rfl fun k hk=>by rcases hk with rfl | rfl<;>rfl
 have len6:(l5.set m { t.setw v2 (t.x.waiting++[(l.length:Int)]) with x:=t.x.more (l.length:Int) }).length=l.length:=by rw [List.length_set,len5]
 have ws6:wxs (l5.set m { t.setw v2 (t.x.waiting++[(l.length:Int)]) with x:=t.x.more (l.length:Int) })=(wxs l).set m (t.x.more (l.length:Int)):=by
  rw [jbf,<- hl5,jbf,List.set_set]
 generalize l5.set m { t.setw v2 (t.x.waiting++[(l.length:Int)]) with x:=t.x.more (l.length:Int) } = l6 at W6 len6 ws6
 clear W5 ht5 hl5 len5 X5
 have x6:G6.nx=G4.nx:=by rw [u6.nx,x5]
 have k6 : ∀ j,j≠t.wb->G6.get j=G4.get j:=fun j hj=>by rw [u6.get j hj,k5 j hj]
 have n6 : ∀ j,h.nx<=j->j<h.nx+5->G6.get j=G.get j:=fun j j1 j2=>by rw [k6 j om,n4 j j1 j2]
 have o6 : ∀ j,j<h.nx->j≠t.wb->G6.get j=h.get j:=fun j j1 j2=>by rw [k6 j j2,o4.2 j j1]
 obtain ⟨wv6,hw6,row6,hz6⟩:=W6.hw
 rw [len6] at row6
 obtain ⟨cp6,⟨av6,rfl⟩,_⟩:=row6.shape
 have c6:(wc (fun i=>atS (wxs l) (i:Int)) (.slice av6 l.length cp6) s now no)[0+288]?=some (.slice av6 l.length cp6):=jbd rfl
 clear k5 k6 n4 k4 k3 n3 x5 u6
 refine qx1 ?_
 refine Ops.push (N:=0) (new:=[.p h.nx 0]) rfl rfl rfl rfl om rfl rfl row6 (Nat.zero_le _) om om fun v3 G7 row7 x7 z7 k7=>?_
 have hw7:G7.get w=some (.cells (wc (fun i=>atS (wxs l) (i:Int)) (.slice av6 l.length cp6) s now no) false):=by rw [k7 w W6.lw (fun e=>by have:=hz6 _ e;have:=W6.tw;omega),hw6]
 have hlen7:0+288<(wc (fun i=>atS (wxs l) (i:Int)) (.slice av6 l.length cp6) s now no).length:=by rw [jbz];omega
 have hone7:=row7.one
 refine qx1 ?_
 refine Ops.store1 rfl rfl hone7 hw7 hlen7 ?_
 rw [jdH rfl]
 refine Ops.opqh fun G8 hG8=>?_
 have x8:G8.nx=G7.nx:=by rw [hG8];rfl
 have hw8:G8.get w=some (.cells (wc (fun i=>atS (wxs l) (i:Int)) v3 s now no) false):=by rw [hG8,jab]
 have k8 : ∀ j,j≠w->G8.get j=G7.get j:=fun j hj=>by rw [hG8,jaa hj]
 clear hG8 hw7
 have hgo : ∃ z3,z3<G8.nx/\G6.nx<=z3/\(∀ y,v3.at?=some y->y=z3):=by
  rcases id row7 with ⟨h0,_⟩ | ⟨q,_,q1,rfl,_⟩
  ·omega
  ·exact ⟨q,by omega,z7 q rfl,fun y hy=>by cases hy;rfl⟩
 obtain ⟨z3,y1,y2,y3⟩:=hgo
 have hwz : ∀ q,v3.at?=some q->q≠w:=fun q e=>by have:=z7 q e;have:=W6.lw;omega
 have h01 : ∀ j,h.nx<=j->j<h.nx+5->ow1 j=0:=fun j j1 j2=>by rw [t2 j om];exact a.wf.top j j1
 have n8 : ∀ j,h.nx<=j->j<h.nx+5->G8.get j=G.get j:=fun j j1 j2=>by rw [k8 j om,k7 j om (fun e=>by have:=hz6 _ e;have:=h01 j j1 j2;omega),n6 j j1 j2]
 have P:=W6.push (h':=G8) (g:=fun i=>atS (wxs l) (i:Int)) (m:=5) (z:=z3) (N:=h.nx) (t:=⟨jbe nn,h.nx,h.nx+2,h.nx+1,h.nx+4,h.nx+3,.nils⟩) (.inr rfl) om h01 y2 y1
  (fun j j1 j2 j3=>by rw [k8 j j3,k7 j (W6.lt_of j1) (fun e=>j2 (hz6 _ e))]) hw8
  (by rw [len6];exact row7.keep om fun q e=>k8 q (hwz q e)) y3 rfl (fun _=>⟨rfl,rfl,rfl,rfl⟩) (by rw [n8 _ (zp _) om,gN]) rfl rfl
  (fun k hk q hq=>by
   refine ⟨rfl,?_⟩
   have hk2:=R k hk
   rcases hk with rfl | rfl
   ·have hq:some []=some q:=hq
    cases hq
    exact hk2.keep (n8 _ (by show h.nx<=h.nx+2;omega) (by show h.nx+2<h.nx+5;omega)) (n8 _ (by show h.nx<=h.nx+1;omega) (by show h.nx+1<h.nx+5;omega))
   ·have hq:some []=some q:=hq
    cases hq
    exact hk2.keep (n8 _ (by show h.nx<=h.nx+4;omega) (by show h.nx+4<h.nx+5;omega)) (n8 _ (by show h.nx<=h.nx+3;omega) (by show h.nx+3<h.nx+5;omega)))
 have ez:wxs (l6++[(⟨jbe nn,h.nx,h.nx+2,h.nx+1,h.nx+4,h.nx+3,.nils⟩:WX)])=(wxs l).set m (t.x.more (l.length:Int))++[jbe nn]:=by rw [<- ws6];simp
 have hA:=AtW_more (m:=(l.length:Int)) (many:=(nn:Int)) (jam ht)
 have hlast:((l.length+1:Nat):Int)-1=(l.length:Int):=by omega
 obtain ⟨cp7,⟨av7,rfl⟩,_⟩:=row7.shape
 have c8:(wc (fun i=>atS (wxs l) (i:Int)) (.slice av7 (l.length+1) cp7) s now no)[0+288]?=some (.slice av7 (l.length+1) cp7):=jbd rfl
 have o8 : ∀ j,j<h.nx->ow j=0->G8.get j=h.get j:=fun j j1 j2=>by
  have q1:ow1 j=0:=by rw [t2 j (by have:=o3.1;omega),j2]
  rw [k8 j (fun e=>by rw [e,a.wf.tw] at j2;omega),k7 j (by have:=o4.1;omega) (fun e=>by have:=hz6 _ e;omega),o6 j j1 (fun e=>by have:=X.ox;rw [<- e] at this;omega)]
 rw [len6] at P
 clear k7 n6 n8 row7 row6 W6
 refine qx1 ?_
 refine ⟨jf1 ow1 h.nx l.length 5 z3,by rw [hlast],⟨_,⟨P.congr fun j _=>by rw [ez,jjN hA],fun n k fd hf=>?_⟩,ez⟩,⟨by have:=oG.1;omega,fun j hj hn=>?_⟩,fun j hj=>?_⟩
 ·rw [ez] at hf
  exact a.fds n k fd ((hA n k fd).1 hf)
 ·exact o8 j hj (Classical.not_not.1 hn)
 ·rw [jf0 (.inl hj) (by have:=o4.1;omega),t2 j (by have:=o3.1;omega)]
end
end Am.Sigs
