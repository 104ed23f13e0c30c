/- Our own library, part 16. -/
import Derived.Test.YtafdknfdmlknfaaGreatH15
set_option maxHeartbeats 8000000
set_option maxRecDepth 800
set_option linter.all false
namespace Am.Sigs
open Am Go
noncomputable def jaz (ws:Ws) (fd:Int):(Int × Int × Int) × Ws :=
 jcs ws fd ((0,0,110),ws) fun n _ x=>if x.backlog=0 then ((0,0,111),ws) else match x.waiting with
  | []=>((0,0,113),ws)
  | m :: rest=>match jaw ws 96 with
   | []=>((0,0,112),ws)
   | f :: _=>match (ws.set n { x with waiting:=rest })[m.toNat]? with
    | none=>((0,0,112),ws)
    | some y=>((f,m,0),(ws.set n { x with waiting:=rest }).set m.toNat (y.put 0 { y.e 0 with what:=1,fd:=f }))
def RX.setw (r:RX) (v:V) (wt:List Int):RX := { r with x := { r.x with waiting:=wt },vw:=v }
theorem RX.setw_cells (r:RX) (v:V) (wt:List Int):(r.setw v wt).cells=r.cells.set 19 v:=by
 obtain ⟨⟨e0,e1,cap,rs,bl,w⟩,v0,v1,vw⟩:=r
 simp [RX.setw,RX.cells,En.rcells]
theorem ROk.setw {h:H} {rw q:Nat} {r:RX} {v:V} {wt:List Int} (a:ROk h rw q r) (hv:VI h v wt) (hz : ∀ z,v.at?=some z->z≠q/\z≠rw/\z<h.nx):ROk h rw q (r.setw v wt) :=
 ⟨fun k hk=>by have:=a.b k hk;rcases hk with rfl | rfl<;>exact this,hv,hz⟩
theorem RX.fd_cells {r:RX} {k:Nat} {w:Int} (hk:k=0\/k=1):(({ r with x:=r.x.put k { r.x.e k with fd:=w } } : RX)).cells=r.cells.set (k*8+1) (.i w):=by
 obtain ⟨⟨e0,e1,cap,rs,bl,wt⟩,v0,v1,vw⟩:=r
 rcases hk with rfl | rfl<;>simp [Wi.put,Wi.e,RX.cells,En.rcells]
section
variable {call:Call} {fuel base:Nat} {ops:List Ins} {keep:List Nat} {K:List Fr} {e:Env} {h:H} {Q:Post} {ix:Nat} {dst at_:Option Nat}
theorem Ops.icut_l {x lo:Opd} {v:V} {l:List Int} {m:Nat} (hx:x.ev e=some v) (hv:VI h v l) (hlo:lo.ev e=some (.i (m:Int))) (hm:m<=l.length)
  (k : ∀ v',VI h v' (l.drop m)->(∀ z,v'.at?=some z->v.at?=some z)->Ops call fuel base ops keep K (layv e dst v') h Q):Ops call fuel base (⟨ix,dst,.slice 1 x (some lo) none none,none,at_,[]⟩ :: ops) keep K e h Q:=by
 obtain ⟨a,c,rfl,n,f,g⟩:=hv
 cases a with
 | none=>
  obtain ⟨rfl,rfl⟩:=n rfl
  obtain rfl:m=0:=by simpa using hm
  refine zau (v := .nils) rfl ?_ (k .nils (VI.nil h) fun z hz=>by cases hz)
  simp only [I.pure,hx,evo,hlo]
  rfl
 | some p=>
  obtain ⟨b,o⟩:=p
  refine Ops.slice_l hx hlo hm f (k _ ⟨some (b,o+m*1),c.less m,by simp,fun e=>by (cases e),by simpa using jhC f hm,fun hl=>?_⟩ fun z hz=>hz)
  obtain ⟨b',o',cs,ro,e0,h1,h2,h3⟩:=g (by rintro rfl;simp at hl)
  cases e0
  refine ⟨b,o+m*1,cs,ro,rfl,h1,h2,fun i x hi=>?_⟩
  rw [zn] at hi
  rw [show o+m*1+i=o+(m+i) by omega]
  exact h3 _ _ hi
end
section
variable {cl:Nat->Call} (hcl:Sem cl)
include hcl
theorem rq_Accept {d rw q:Nat} {h:H} {l:List RX} {tl:List V} {fd:Int} (hd:3<=d) (w:RW h rw q l tl) (o:WsOk (l.map RX.x)) :
  ∃ l' h',cl d (.fn 30) [.p rw 0,.i fd] h=some (.tup [.i (jaz (l.map RX.x) fd).1.1,.i (jaz (l.map RX.x) fd).1.2.1,.i (jaz (l.map RX.x) fd).1.2.2],h')/\RW h' rw q l' tl/\l'.map RX.x=(jaz (l.map RX.x) fd).2/\Ch (RC rw q) h h':=by
 suffices s : ∃ v' h',cl d (.fn 30) [.p rw 0,.i fd] h=some (v',h') /\ ∃ l',v' = .tup [.i (jaz (l.map RX.x) fd).1.1,.i (jaz (l.map RX.x) fd).1.2.1,.i (jaz (l.map RX.x) fd).1.2.2]/\RW h' rw q l' tl/\l'.map RX.x=(jaz (l.map RX.x) fd).2/\Ch (RC rw q) h h' by
  obtain ⟨_,h',e,l',rfl,p⟩:=s;exact ⟨l',h',e,p⟩
 refine aT hcl ?_
 rcases jeL hcl (d:=d-1) (fd:=fd) om w o with ⟨hno,ea⟩ | ⟨n,k,r,hat,hr,hk,ea⟩
 ·have hS:jaz (l.map RX.x) fd=((0,0,110),l.map RX.x):=jaG hno
  rw [hS]
  refine Ga ?_
  exact ⟨l,rfl,w,rfl,Zy _ _⟩
 obtain ⟨hw,hq,hne⟩:=w.rat hr
 have hn:=r_lt hr
 have q1:=jjO hr
 have q2:=jlK hr
 have hS:jaz (l.map RX.x) fd=_:=jaH o.uniq hat (jbc hr)
 by_cases hbl:r.x.backlog=0
 ·rw [zG hbl] at hS;rw [hS]
  refine Ga ?_
  exact ⟨l,rfl,w,rfl,Zy _ _⟩
 rw [zF hbl] at hS
 have hvi:=(w.rok hr).w.1
 have hvz:=(w.rok hr).w.2
 have hwt:=(o.wait _ (zb (jbc hr))).2
 obtain ⟨a,c,hva,_⟩:=id hvi
 rw [hva] at q2 hvi
 cases hL:r.x.waiting with
 | nil=>
  simp only [hL] at hS;rw [hS]
  rw [hL] at q2
  have q2:(rows l)[0+(n:Int).toNat*20+19]?=some (V.slice a 0 c):=q2
  refine Ga ?_
  exact ⟨l,rfl,w,rfl,Zy _ _⟩
 | cons m rest=>
  simp only [hL] at hS
  rw [hL] at q2 hvi hwt
  have hne0 : ¬ (((m :: rest:List Int).length:Nat):Int)=0:=by simp;omega
  obtain ⟨vf,g,ef,pf,old,zf⟩:=jnB hcl (d:=d-1) om w o
  have wg:=w.old old
  obtain ⟨af,cf,rfl,_⟩:=id pf
  cases hF:jaw (l.map RX.x) 96 with
  | nil=>
   simp only [hF] at hS;rw [hS]
   rw [hF] at ef
   have ef:cl (d-1) (.fn 59) [.p rw 0] h=some (.slice af 0 cf,g):=ef
   clear hwt hvi hvz
   refine Ga ?_
   exact ⟨l,rfl,wg,rfl,old.ch⟩
  | cons f fs=>
   simp only [hF] at hS
   rw [hF] at ef pf
   have hnf : ¬ (((f :: fs:List Int).length:Nat):Int)=0:=by simp;omega
   obtain ⟨hwg,hqg,_⟩:=wg.rat hr
   have hvig:VI g (.slice a (m :: rest).length c) (m :: rest):=hvi.keep old.1 fun z hz=>old.2 z (hvz z (by rw [hva,hL];exact hz)).2.2
   obtain ⟨b,of,cs,ro,rfl,hcs,hc0⟩:=hvig.cell (i:=0) (x:=m) rfl
   obtain ⟨bf,off,csf,rof,rfl,hcsf,hcf0⟩:=pf.cell (i:=0) (x:=f) rfl
   obtain ⟨y,m0,hy,_⟩:=hwt m Zd
   obtain ⟨j,rfl⟩:=zC m0
   have hjl:j<l.length:=by
    rcases zA j l.length with h1 | h1
    ·exact h1
    ·rw [zc (by simpa using h1)] at hy;cases hy
   have hbq:bf≠q:=by have:=zf bf rfl;have:=w.lq;omega
   have hbr:bf≠rw:=by have:=zf bf rfl;have:=w.lw;omega
   have hbb:b≠q/\b≠rw:=by
    have:=hvz b (by rw [hva];rfl)
    exact ⟨this.1,this.2.1⟩
   have main : ∀ v',VI g v' rest->(∀ z,v'.at?=some z->(V.slice (some (b,of)) ((j:Int) :: rest).length c).at?=some z) -> ∃ (s:RX),
     (l.set n (r.setw v' rest))[j]?=some s/\RW (g.set q (.cells (rows (l.set n (r.setw v' rest))) false)) rw q (l.set n (r.setw v' rest)) tl:=by
    intro v' hv' hz'
    have ok':=(wg.rok hr).setw hv' fun z hz=>by
     have hzz:=hvz z (by rw [hva,hL];exact hz' z hz)
     exact ⟨hzz.1,hzz.2.1,zu hzz.2.2 old.1⟩
    exact ⟨_,za (by simpa using hjl),wg.set hr ZA ok'⟩
   clear hwt hy m0 hvi hvz w
   refine Ga ?_
   refine Ops.icut_l (m:=1) rfl hvig rfl Zd fun v' hv' hz'=>?_
   obtain ⟨s,hs,w1⟩:=main v' hv' hz'
   have hlen:0+(n:Int).toNat*20+19<(rows l).length:=by rw [ja4];omega
   refine Ga ?_
   refine zcs rfl rfl hv'.one hqg hlen ?_
   rw [je4 hr om (RX.setw_cells r v' rest) om]
   have hS1:(l.map RX.x).set n { r.x with waiting:=rest } = (l.set n (r.setw v' rest)).map RX.x:=by rw [map_set];rfl
   rw [hS1,zz,jbc hs] at hS
   simp only at hS
   rw [hS]
   have c1:Ch (RC rw q) h (g.set q (.cells (rows (l.set n (r.setw v' rest))) false)):=old.ch.trans (Ch.set (.inl rfl))
   have hcsf1:(g.set q (.cells (rows (l.set n (r.setw v' rest))) false)).get bf=some (.cells csf rof):=by rw [jaa hbq,hcsf]
   clear hw hq ea ef hS hS1 main hvig hcs hcsf hwg hqg hr hv' hz' wg old hlen o hn
   generalize g.set q (.cells (rows (l.set n (r.setw v' rest))) false)=g1 at w1 c1 hcsf1 ⊢
   generalize l.set n (r.setw v' rest)=l1 at w1 hs ⊢
   obtain ⟨hw1,hq1,_⟩:=w1.rat hs
   have hj1:=r_lt hs
   have hlen0:0+(j:Int).toNat*20+0+Int.toNat 0*8+0<(rows l1).length:=by rw [ja4];omega
   have e1:=jie (f:=0) (o:=0+(j:Int).toNat*20+0+Int.toNat 0*8+0) hs (.inl rfl) om (RX.what_cells (r:=s) (k:=0) (w:=1) (.inl rfl)) Zd
   have u2:Upd q (.cells (rows (l1.set j { s with x:=s.x.put 0 { s.x.e 0 with what:=1 } })) false) g1 (g1.set q (.cells (rows (l1.set j { s with x:=s.x.put 0 { s.x.e 0 with what:=1 } })) false)):=ZA
   have w2:=w1.set hs u2 ((w1.rok hs).put (e := { s.x.e 0 with what:=1 }) (.inl rfl) rfl)
   have c2:=c1.trans (u2.ch (.inl rfl))
   have hs2:=get_set (r':=({ s with x:=s.x.put 0 { s.x.e 0 with what:=1 } } : RX)) hs
   refine Ga ?_
   refine zcs rfl rfl rfl hq1 hlen0 ?_
   rw [e1]
   have hcsf2:(g1.set q (.cells (rows (l1.set j { s with x:=s.x.put 0 { s.x.e 0 with what:=1 } })) false)).get bf=some (.cells csf rof):=by rw [jaa hbq,hcsf1]
   have hfin:(l1.map RX.x).set j (s.x.put 0 { s.x.e 0 with what:=1,fd:=f })=((l1.set j { s with x:=s.x.put 0 { s.x.e 0 with what:=1 } }).set j { s with x:=s.x.put 0 { s.x.e 0 with what:=1,fd:=f } }).map RX.x:=by rw [set_set,map_set]
   rw [hfin]
   have hsx:({ s with x:=s.x.put 0 { s.x.e 0 with what:=1,fd:=f } } : RX)=(fun t:RX=>({ t with x:=t.x.put 0 { t.x.e 0 with fd:=f } } : RX)) ({ s with x:=s.x.put 0 { s.x.e 0 with what:=1 } } : RX):=rfl
   rw [hsx]
   clear hfin hsx e1 u2 hcsf1 hq1 hw1 hlen0 c1 w1
   generalize g1.set q (.cells (rows (l1.set j { s with x:=s.x.put 0 { s.x.e 0 with what:=1 } })) false)=g2 at w2 c2 hcsf2 ⊢
   generalize l1.set j ({ s with x:=s.x.put 0 { s.x.e 0 with what:=1 } } : RX)=l2 at w2 hs2 ⊢
   generalize ({ s with x:=s.x.put 0 { s.x.e 0 with what:=1 } } : RX)=s2 at hs2 ⊢
   clear hs hj1
   obtain ⟨hw2,hq2,_⟩:=w2.rat hs2
   have hj1:=r_lt hs2
   have hlen0:0+(j:Int).toNat*20+0+Int.toNat 0*8+1<(rows l2).length:=by rw [ja4];omega
   have e1:=jie (f:=1) (o:=0+(j:Int).toNat*20+0+Int.toNat 0*8+1) hs2 (.inl rfl) om (RX.fd_cells (r:=s2) (k:=0) (w:=f) (.inl rfl)) Zd
   have u3:Upd q (.cells (rows (l2.set j { s2 with x:=s2.x.put 0 { s2.x.e 0 with fd:=f } })) false) g2 (g2.set q (.cells (rows (l2.set j { s2 with x:=s2.x.put 0 { s2.x.e 0 with fd:=f } })) false)):=ZA
   have w3:=w2.set hs2 u3 ((w2.rok hs2).put (e := { s2.x.e 0 with fd:=f }) (.inl rfl) rfl)
   have c3:=c2.trans (u3.ch (.inl rfl))
   refine Ga ?_
   refine zcs rfl rfl rfl hq2 hlen0 ?_
   rw [e1]
   refine Ga ?_
   exact ⟨_,rfl,w3,rfl,c3⟩
end
section
variable {call:Call} {fuel base:Nat} {ops:List Ins} {keep:List Nat} {K:List Fr} {e:Env} {h:H} {Q:Post} {ix:Nat} {dst:Option Nat}
theorem Ops.bslice1_at {sz b:Nat} {x:Opd} {xv:V} {zero new:List V} (hx:x.ev e=some xv) (hnew:xv.cells=new) (hl:new.length=sz) (hzl:zero.length=sz)
  (k:Ops call fuel base ops keep K (layv e dst (.slice (some (base+b,0)) 1 (.fix 1))) (h.set (base+b) (.cells new false)) Q) :
  Ops call fuel base (⟨ix,dst,.bslice sz 1 zero [(0,x)],none,some b,[]⟩ :: ops) keep K e h Q:=by
 have hf:jaJ zero [(0*sz,sz,xv)]=some new:=by
  have e1:(xv.cells.length == sz&&Nat.ble (0*sz+sz) zero.length)=true:=by simp [hnew,hl,hzl]
  simp only [jaJ]
  rw [e1,cond_true,hnew,Nat.zero_mul,jas _ _ om]
 refine Ops.make_at (ob := .cells new false) (mk:=fun b=>.slice (some (b,0)) 1 (.fix 1)) rfl ?_ k
 simp only [I.make,jbE,List.map,hx,hf]
theorem Ops.app1 {N sz bytes n q':Nat} {s y:Opd} {sv:V} {cs new:List V} {cap:Cap} (hs:s.ev e=some sv) (hy:y.ev e=some (.slice (some (q',0)) 1 cap)) (r:Row N h sz sv n cs) (hN:N<=h.nx) (hq:h.get q'=some (.cells new false)) (hl:new.length=sz) (h1:new.all V.one=true) (hz:1<=sz)
  (hb:(n+1)*bytes<=2 ^ 46) (hn:n+1<=2 ^ 46) (hne:sv.at?≠some q')
  (k : ∀ h',Row N h' sz (.slice (some (h.nx,0)) (n+1) (.grow sz)) (n+1) (cs++new)->h.nx<h'.nx->(∀ j,j<h.nx->sv.at?≠some j->h'.get j=h.get j)->Ops call fuel base ops keep K (layv e dst (.slice (some (h.nx,0)) (n+1) (.grow sz))) h' Q) :
  Ops call fuel base (⟨ix,dst,.append sz bytes s y,none,none,[]⟩ :: ops) keep K e h Q:=by
 obtain ⟨v',h',e1,e2,e3,e4,e5⟩:=jdA (bytes:=bytes) (cap:=cap) r hN hq hl h1 hz hb hn hne
 have hv:v' = .slice (some (h.nx,0)) (n+1) (.grow sz)/\h.nx<h'.nx:=by
  rcases e2 with ⟨h0,_⟩ | ⟨b,b1,b2,b3,_⟩
  ·omega
  ·rw [b3] at e4;cases e4;exact ⟨b3,b2⟩
 obtain ⟨rfl,hlt⟩:=hv
 exact Ops.step (Zw rfl (by simp only [I.eff,hs,hy,e1])) (k h' e2 hlt e5)
theorem Ops.icut_h {x hi:Opd} {v:V} {l:List Int} {m:Nat} {at_:Option Nat} (hx:x.ev e=some v) (hv:VI h v l) (hhi:hi.ev e=some (.i (m:Int))) (hm:m<=l.length)
  (k : ∀ v',VI h v' (l.take m)->(∀ z,v'.at?=some z->v.at?=some z)->Ops call fuel base ops keep K (layv e dst v') h Q):Ops call fuel base (⟨ix,dst,.slice 1 x none (some hi) none,none,at_,[]⟩ :: ops) keep K e h Q:=by
 obtain ⟨a,c,rfl,n,f,g⟩:=hv
 have hl':(l.take m).length=m:=by simp;omega
 cases a with
 | none=>
  obtain ⟨rfl,rfl⟩:=n rfl
  obtain rfl:m=0:=by simpa using hm
  refine zau (v := .nils) rfl ?_ (k .nils (VI.nil h) fun z hz=>by cases hz)
  simp only [I.pure,hx,evo,hhi]
  rfl
 | some p=>
  obtain ⟨b,o⟩:=p
  refine Ops.slice_h hx hhi hm f (k _ ⟨some (b,o),c,by rw [hl'],fun e=>by (cases e),by rw [hl'];exact jlh f hm,fun hl=>?_⟩ fun z hz=>hz)
  obtain ⟨b',o',cs,ro,e0,h1,h2,h3⟩:=g (by rintro rfl;simp at hl)
  cases e0
  refine ⟨b,o,cs,ro,rfl,h1,h2,fun i x hi=>h3 _ _ ?_⟩
  rw [zQ] at hi
  by_cases hc:i<m
  ·rwa [zG hc] at hi
  ·rw [zF hc] at hi;cases hi
end
theorem RW.row {h:H} {rw q:Nat} {l:List RX} {tl:List V} (w:RW h rw q l tl) : ∃ v,h.get rw=some (.cells (v :: tl) false)/\Row 0 h 20 v l.length (rows l)/\(∀ z,v.at?=some z->z=q)/\v.one=true:=by
 by_cases hl:l=[]
 ·subst hl;exact ⟨.nils,w.nil rfl,Row.nil _ _ _,fun z hz=>by (cases hz),rfl⟩
 ·have a:=w.at_ hl
  exact ⟨_,a.hw,.inr ⟨q,by omega,w.lq,rfl,a.hq,ja4 l⟩,fun z hz=>by cases hz;rfl,rfl⟩
def RX.fresh (x:Wi):RX:=⟨x,.nils,.nils,.nils⟩
structure Fresh (x:Wi):Prop where
 r0:x.e0.ring.getD []=[]
 r1:x.e1.ring.getD []=[]
 wt:x.waiting=[]
theorem ROk.fresh {h:H} {rw q:Nat} {x:Wi} (f:Fresh x):ROk h rw q (RX.fresh x):=by
 refine ⟨fun k hk=>?_,by rw [show (RX.fresh x).x.waiting=[] from f.wt];exact VI.nil h,fun z hz=>by cases hz⟩
 rcases hk with rfl | rfl
 ·exact ⟨by rw [show ((RX.fresh x).x.e 0).ring.getD []=[] from f.r0];exact VB.nil h,fun z hz=>by cases hz⟩
 ·exact ⟨by rw [show ((RX.fresh x).x.e 1).ring.getD []=[] from f.r1];exact VB.nil h,fun z hz=>by cases hz⟩
theorem RW.push {h h1:H} {rw q q':Nat} {l:List RX} {tl:List V} {x:Wi} (w:RW h rw q l tl) (f:Fresh x) (hrow:h1.get q'=some (.cells (rows l++(RX.fresh x).cells) false)) (hn:h.nx<=q') (hx:q'<h1.nx)
  (hk : ∀ j,j<h.nx->j≠q->h1.get j=h.get j) :
  RW (h1.set rw (.cells (.slice (some (q',0)) (l.length+1) (.grow 20) :: tl) false)) rw q' (l++[RX.fresh x]) tl/\Ch (RC rw q) h (h1.set rw (.cells (.slice (some (q',0)) (l.length+1) (.grow 20) :: tl) false)):=by
 have lw:=w.lw
 have lq:=w.lq
 have ch:Ch (RC rw q) h (h1.set rw (.cells (.slice (some (q',0)) (l.length+1) (.grow 20) :: tl) false)) :=
  ⟨by show h.nx<=h1.nx;omega,fun j hj hn=>by rw [jaa (fun e=>hn (.inr e)),hk j hj (fun e=>hn (.inl e))]⟩
 refine ⟨⟨by show rw<h1.nx;omega,by show q'<h1.nx;omega,by omega,fun _=>⟨by rw [jab];simp,by rw [jaa om,hrow,jkN];simp [rows],by omega⟩,fun e=>by simp at e,fun s hs=>?_⟩,ch⟩
 rcases zR.1 hs with h2 | h2
 ·have a:=w.ok s h2
  have b:=a.keep ch
  refine ⟨fun k hk=>⟨(b.b k hk).1,fun z hz=>?_⟩,b.w.1,fun z hz=>?_⟩
  ·have p:=(a.b k hk).2 z hz
   exact ⟨by omega,p.2.1,by show z<h1.nx;omega⟩
  ·have p:=a.w.2 z hz
   exact ⟨by omega,p.2.1,by show z<h1.nx;omega⟩
 ·obtain rfl:s=RX.fresh x:=by simpa using h2
  exact ROk.fresh f
section
variable {cl:Nat->Call} (hcl:Sem cl)
include hcl
theorem mk_end {E:Env} {d rw q bx ends:Nat} {g:H} {l:List RX} {tl:List V} {vf:V} {fl:List Int} {x:Wi} (w:RW g rw q l tl) (f:Fresh x) (hbx:g.get bx=some (.cells (RX.fresh x).cells false)) (hl:l.length<=1000) (hf:VI g vf fl) (he:ends<=fl.length)
  (hfz : ∀ z,vf.at?=some z->z≠q/\z≠rw/\z<g.nx) :
  Run (cl (d-1)) fuel c27_2 [] ((0,.p rw 0) :: (8,.i (ends:Int)) :: (9,vf) :: (10,.p bx 0) :: E) g
   (Fin c27.res fun v h'=>∃ v' q',v = .tup [v',.i 0]/\VI h' v' (fl.take ends)/\RW h' rw q' (l++[RX.fresh x]) tl/\Ch (RC rw q) g h'/\g.nx<=q'):=by
 obtain ⟨v,hw,row,hvq,hone⟩:=w.row
 have hw1:(g.reserve 1).get rw=_:=hw
 have hbx1:(g.reserve 1).get bx=_:=hbx
 refine zab (Run.region ?_)
 refine Ga ?_
 refine zcw rfl hbx1 (by rw [RX.len];omega) ?_
 rw [zl,zh (by rw [RX.len];omega)]
 refine Ops.bslice1_at (new:=(RX.fresh x).cells) rfl rfl (RX.len _) rfl ?_
 have hG:((g.reserve 1).set (g.nx+0) (.cells (RX.fresh x).cells false)).nx=g.nx+1:=rfl
 have hGs:((g.reserve 1).set (g.nx+0) (.cells (RX.fresh x).cells false)).get (g.nx+0)=some (.cells (RX.fresh x).cells false):=jab _
 have hGo : ∀ j,j<g.nx->((g.reserve 1).set (g.nx+0) (.cells (RX.fresh x).cells false)).get j=g.get j:=fun j hj=>by rw [jaa om];rfl
 generalize (g.reserve 1).set (g.nx+0) (.cells (RX.fresh x).cells false)=G at hG hGs hGo ⊢
 have lq:=w.lq
 have lw:=w.lw
 have rowG:Row 0 G 20 v l.length (rows l):=row.keep om fun z hz=>hGo z (by have:=hvq z hz;omega)
 refine Ops.app1 (N:=0) rfl rfl rowG (Zm _) hGs (RX.len _) (RX.cells_one (r:=RX.fresh x) rfl rfl rfl) om om om (fun e=>by have:=hvq _ e;omega) fun h1 row1 hlt hk=>?_
 have hk' : ∀ j,j<g.nx->j≠q->h1.get j=g.get j:=fun j hj hn=>by rw [hk j om (fun e=>hn (hvq j e)),hGo j hj]
 have hrow:h1.get G.nx=some (.cells (rows l++(RX.fresh x).cells) false):=by
  rcases row1 with ⟨h0,_⟩ | ⟨b,_,_,e,h4,_⟩
  ·omega
  ·cases e;exact h4
 obtain ⟨w2,c2⟩:=w.push f hrow om hlt hk'
 have hw2:h1.get rw=some (.cells (v :: tl) false):=by rw [hk' rw lw w.ne,hw]
 have hf2:VI (h1.set rw (.cells (.slice (some (G.nx,0)) (l.length+1) (.grow 20) :: tl) false)) vf fl:=hf.keep (by show g.nx<=h1.nx;omega) fun z hz=>by
  have p:=hfz z hz
  rw [jaa p.2.1,hk' z p.2.2 p.1]
 refine Ga ?_
 refine zcs rfl rfl rfl hw2 Zd ?_
 refine Ga ?_
 refine Ops.icut_h rfl hf2 rfl he fun v2 hv2 _=>?_
 refine Ga ?_
 exact ⟨v2,_,rfl,hv2,w2,c2,by omega⟩
end
def newW (kind n f0 f1:Int):Wi :=
 if kind=0 then ⟨⟨1,f0,some [],false,false,0,0⟩,⟨1,f1,none,true,false,0,0⟩,n.toNat,false,0,[]⟩
 else if kind=1 then ⟨⟨1,f0,some [],true,false,0,0⟩,⟨1,f1,some [],true,false,0,0⟩,n.toNat,false,0,[]⟩
 else if kind=2 then ⟨⟨1,f0,some [],true,false,0,0⟩,⟨2,0,some [],true,false,0,0⟩,n.toNat,false,0,[]⟩
 else ⟨⟨1,f0,none,false,false,0,0⟩,⟨0,0,none,false,false,0,0⟩,n.toNat,false,n,[]⟩
theorem jeC (kind n f0 f1:Int):Fresh (newW kind n f0 f1):=by
 unfold newW;split<;>(try split)<;>(try split)<;>exact ⟨rfl,rfl,rfl⟩
noncomputable def jah (ws:Ws) (kind n:Int):(List Int × Int) × Ws :=
 if n<1\/65536<n\/(kind=3/\64<n) then (([],2),ws)
 else match jaw ws 96 with
  | []=>(([],112),ws)
  | f0 :: fs=>if (fs=[]/\kind<2)\/1000<=ws.length then (([],112),ws)
   else (((f0 :: fs).take (if kind<2 then 2 else 1),0),ws++[newW kind n f0 (fs.headD 0)])
theorem Old.new {h h1:H} {o:Obj} (a:Old h h1):Old h (h1.new o):=a.trans ⟨by simp,fun _ hj=>jac hj⟩
theorem Old.set {h h1:H} {o:Obj} {b:Nat} (a:Old h h1) (hb:h.nx<=b):Old h (h1.set b o):=⟨a.1,fun j hj=>by rw [jaa om,a.2 j hj]⟩
theorem Run.opqh {call:Call} {fuel:Nat} {c:AC} {K:List Fr} {e:Env} {h:H} {Q:Post} (k : ∀ G,G=h->Run call fuel c K e G Q):Run call fuel c K e h Q:=k h rfl
section
variable {cl:Nat->Call} (hcl:Sem cl)
include hcl
theorem jiO {d rw q:Nat} {h:H} {l:List RX} {tl:List V} {kind n:Int} (hd:3<=d) (hk:kind=0\/kind=1\/kind=2\/kind=3) (w:RW h rw q l tl) (o:WsOk (l.map RX.x)) :
  ∃ v q' l' h',cl d (.fn 27) [.p rw 0,.i kind,.i n] h=some (.tup [v,.i (jah (l.map RX.x) kind n).1.2],h')/\VI h' v (jah (l.map RX.x) kind n).1.1/\RW h' rw q' l' tl/\l'.map RX.x=(jah (l.map RX.x) kind n).2/\Ch (RC rw q) h h'/\(q'=q\/h.nx<=q'):=by
 suffices s : ∃ v' h',cl d (.fn 27) [.p rw 0,.i kind,.i n] h=some (v',h') /\ ∃ v q' l',v' = .tup [v,.i (jah (l.map RX.x) kind n).1.2]/\VI h' v (jah (l.map RX.x) kind n).1.1/\RW h' rw q' l' tl/\l'.map RX.x=(jah (l.map RX.x) kind n).2/\Ch (RC rw q) h h'/\(q'=q\/h.nx<=q') by
  obtain ⟨_,h',e,v,q',l',rfl,p⟩:=s;exact ⟨v,q',l',h',e,p⟩
 refine aT hcl ?_
 by_cases hb:n<1\/65536<n\/(kind=3/\64<n)
 ·have hS:jah (l.map RX.x) kind n=(([],2),l.map RX.x):=zG hb
  rw [hS]
  repeat' (first|refine qxy ?_|(refine zsp ?_ ?_<;>intro _)|fail)
  all_goals first | exact ⟨_,q,l,rfl,VI.nil h,w,rfl,Zy _ _,.inl rfl⟩ | (exfalso;omega)
 have hS:jah (l.map RX.x) kind n=_:=zF hb
 have hn1:1<=n:=by omega
 have hn2:n<=65536:=by omega
 have hn3 : ¬ (kind=3/\64<n):=fun e=>hb (.inr (.inr e))
 clear hb
 obtain ⟨vf,g,ef,pf,old,zf⟩:=jnB hcl (d:=d-1) om w o
 have wg:=w.old old
 obtain ⟨af,cf,rfl,_⟩:=id pf
 obtain ⟨aw,cw,hwg,_⟩:=wg.head
 have hwl:(l.map RX.x).length=l.length:=by simp
 have hol:=o.len
 rw [hwl] at hol
 obtain ⟨C,hC⟩ : ∃ C,C=c27_2:=⟨_,rfl⟩
 have hCk : ∀ (E:Env) (x:Wi) (ends bx:Nat) (G:H) (vv:V) (fl:List Int),Fresh x->RW G rw q l tl->G.get bx=some (.cells (RX.fresh x).cells false)->VI G vv fl->ends<=fl.length->(∀ z,vv.at?=some z->z≠q/\z≠rw/\z<G.nx) ->
   Run (cl (d-1)) fuel C [] ((0,.p rw 0) :: (8,.i (ends:Int)) :: (9,vv) :: (10,.p bx 0) :: E) G
   (Fin c27.res fun v h'=>∃ v' q',v = .tup [v',.i 0]/\VI h' v' (fl.take ends)/\RW h' rw q' (l++[RX.fresh x]) tl/\Ch (RC rw q) G h'/\G.nx<=q'):=by
  intro E x ends bx G vv fl f w1 hbx hv he hz
  rw [hC];exact mk_end hcl w1 f hbx hol hv he hz
 simp only [c27,c27_12,c27_11,c27_10,c27_9,c27_8,c27_4,c27_3,yB,yH,yN]
 rw [<- hC]
 clear hC
 cases hF:jaw (l.map RX.x) 96 with
 | nil=>
  simp only [hF] at hS;rw [hS]
  rw [hF] at ef
  have ef:cl (d-1) (.fn 59) [.p rw 0] h=some (.slice af 0 cf,g):=ef
  clear pf hCk w
  rcases hk with rfl | rfl | rfl | rfl
  all_goals
   repeat' (first|refine qxy ?_|(refine zsp ?_ ?_<;>intro _)|fail)
   exact ⟨_,q,l,rfl,VI.nil _,wg,rfl,old.ch,.inl rfl⟩
 | cons f0 fs=>
  simp only [hF] at hS
  rw [hF] at ef pf
  obtain ⟨bf,off,csf,rof,rfl,hcsf,hcf0⟩:=pf.cell (i:=0) (x:=f0) rfl
  have hfl:(((f0 :: fs:List Int).length:Nat):Int)=(fs.length:Int)+1:=by simp
  by_cases hbad:(fs=[]/\kind<2)\/1000<=(l.map RX.x).length
  ·rw [zG hbad] at hS;rw [hS]
   rw [hwl] at hbad
   have hfs:fs=[]->fs.length=0:=fun e=>by rw [e];rfl
   clear hCk
   rcases hk with rfl | rfl | rfl | rfl
   all_goals
    rcases hbad with ⟨h1,h2⟩ | h1
    ·first
      | (exfalso;omega)
      | skip
     all_goals
      have h3:=hfs h1
      repeat' (first|refine qxy ?_|(refine zsp ?_ ?_<;>intro _)|fail)
      all_goals first | exact ⟨_,q,l,rfl,VI.nil _,wg,rfl,old.ch,.inl rfl⟩ | (exfalso;omega)
    ·repeat' (first|refine qxy ?_|(refine zsp ?_ ?_<;>intro _)|fail)
     all_goals first | exact ⟨_,q,l,rfl,VI.nil _,wg,rfl,old.ch,.inl rfl⟩ | (exfalso;omega)
  rw [zF hbad] at hS
  rw [hwl] at hbad
  have hlen:l.length<1000:=by omega
  have hbf:=zf bf rfl
  obtain ⟨nn,rfl⟩:=zC (show 0<=n by omega)
  have lq:=w.lq
  have lw:=w.lw
  rcases hk with rfl | rfl | rfl | rfl
  ·cases fs with
   | nil=>exact zM (.inl ⟨rfl,by omega⟩) hbad
   | cons f1 fs=>
    obtain ⟨_,_,_,_,e1,e2,hcf1⟩:=pf.cell (i:=1) (x:=f1) rfl
    cases e1
    rw [hcsf] at e2;cases e2
    have hold : ∀ G:H,Old g G->RW G rw q l tl/\VI G (.slice (some (bf,off)) (f0 :: f1 :: fs).length cf) (f0 :: f1 :: fs):=fun G oG=>⟨wg.old oG,pf.keep oG.1 fun z hz=>oG.2 z (by have:=zf z hz;omega)⟩
    clear wg hF hbad w hfl
    refine qm ?_
    refine Run.unroll (n:=99999) rfl ?_
    refine qm ?_
    refine ZC ?_
    refine qm ?_
    refine ZC ?_
    refine qm ?_
    refine Run.unroll (n:=99999) rfl ?_
    refine qm ?_
    refine ZC ?_
    refine qm ?_
    refine ZC ?_
    refine qm ?_
    refine Run.opqh fun G hG=>?_
    have oG:Old g G:=by
     rw [hG]
     repeat (first | exact ZD _ | refine Old.new ?_ | refine Old.set ?_ (zr _))
    have hGn:g.nx<G.nx:=by rw [hG];simp
    have hbx:G.get g.nx=some (.cells (RX.fresh (newW 0 nn f0 f1)).cells false):=by
     rw [hG];exact jab _
    clear hG
    obtain ⟨w1,pv⟩:=hold G oG
    have hS0:jah (l.map RX.x) 0 nn=(((f0 :: f1 :: fs).take 2,0),l.map RX.x++[newW 0 nn f0 f1]):=hS
    rw [hS0]
    refine Run.fin_mono (hCk _ (newW 0 nn f0 f1) 2 g.nx G _ (f0 :: f1 :: fs) (jeC _ _ _ _) w1 hbx pv Zd fun z hz=>?_) ?_
    ·have:=zf z hz
     have:=w1.lq
     have:=lq
     have:=lw
     have:=oG.1
     omega
    ·rintro v h2 ⟨v',q',rfl,p1,p2,p3,p4⟩
     exact ⟨v',q',_,rfl,p1,p2,by rw [List.map_append];rfl,(old.ch.trans oG.ch).trans p3,.inr (by have:=old.1;have:=oG.1;omega)⟩
  ·cases fs with
   | nil=>exact zM (.inl ⟨rfl,by omega⟩) hbad
   | cons f1 fs=>
    obtain ⟨_,_,_,_,e1,e2,hcf1⟩:=pf.cell (i:=1) (x:=f1) rfl
    cases e1
    rw [hcsf] at e2;cases e2
    have hold : ∀ G:H,Old g G->RW G rw q l tl/\VI G (.slice (some (bf,off)) (f0 :: f1 :: fs).length cf) (f0 :: f1 :: fs):=fun G oG=>⟨wg.old oG,pf.keep oG.1 fun z hz=>oG.2 z (by have:=zf z hz;omega)⟩
    clear wg hF hbad w hfl
    refine qm ?_
    refine Run.unroll (n:=99999) rfl ?_
    refine qm ?_
    refine ZC ?_
    refine qm ?_
    refine ZC ?_
    refine qm ?_
    refine Run.unroll (n:=99999) rfl ?_
    refine qm ?_
    refine ZC ?_
    refine qm ?_
    refine ZC ?_
    refine qm ?_
    refine Run.opqh fun G hG=>?_
    have oG:Old g G:=by
     rw [hG]
     repeat (first | exact ZD _ | refine Old.new ?_ | refine Old.set ?_ (zr _))
    have hGn:g.nx<G.nx:=by rw [hG];simp
    have hbx:G.get g.nx=some (.cells (RX.fresh (newW 1 nn f0 f1)).cells false):=by
     rw [hG];exact jab _
    clear hG
    obtain ⟨w1,pv⟩:=hold G oG
    have hS0:jah (l.map RX.x) 1 nn=(((f0 :: f1 :: fs).take 2,0),l.map RX.x++[newW 1 nn f0 f1]):=hS
    rw [hS0]
    refine Run.fin_mono (hCk _ (newW 1 nn f0 f1) 2 g.nx G _ (f0 :: f1 :: fs) (jeC _ _ _ _) w1 hbx pv Zd fun z hz=>?_) ?_
    ·have:=zf z hz
     have:=w1.lq
     have:=lq
     have:=lw
     have:=oG.1
     omega
    ·rintro v h2 ⟨v',q',rfl,p1,p2,p3,p4⟩
     exact ⟨v',q',_,rfl,p1,p2,by rw [List.map_append];rfl,(old.ch.trans oG.ch).trans p3,.inr (by have:=old.1;have:=oG.1;omega)⟩
  ··have hold : ∀ G:H,Old g G->RW G rw q l tl/\VI G (.slice (some (bf,off)) (f0 :: fs).length cf) (f0 :: fs):=fun G oG=>⟨wg.old oG,pf.keep oG.1 fun z hz=>oG.2 z (by have:=zf z hz;omega)⟩
    clear wg hF hbad w
    refine qm ?_
    refine Run.unroll (n:=99999) rfl ?_
    refine qm ?_
    refine ZC ?_
    refine qm ?_
    refine ZC ?_
    refine qm ?_
    refine Run.unroll (n:=99999) rfl ?_
    refine qm ?_
    refine ZC ?_
    refine qm ?_
    refine Run.opqh fun G hG=>?_
    have oG:Old g G:=by
     rw [hG]
     repeat (first | exact ZD _ | refine Old.new ?_ | refine Old.set ?_ (zr _))
    have hGn:g.nx<G.nx:=by rw [hG];simp
    have hbx:G.get g.nx=some (.cells (RX.fresh (newW 2 nn f0 (fs.headD 0))).cells false):=by
     rw [hG];exact jab _
    clear hG
    obtain ⟨w1,pv⟩:=hold G oG
    have hS0:jah (l.map RX.x) 2 nn=(((f0 :: fs).take 1,0),l.map RX.x++[newW 2 nn f0 (fs.headD 0)]):=hS
    rw [hS0]
    refine Run.fin_mono (hCk _ (newW 2 nn f0 (fs.headD 0)) 1 g.nx G _ (f0 :: fs) (jeC _ _ _ _) w1 hbx pv Zd fun z hz=>?_) ?_
    ·have:=zf z hz
     have:=w1.lq
     have:=lq
     have:=lw
     have:=oG.1
     omega
    ·rintro v h2 ⟨v',q',rfl,p1,p2,p3,p4⟩
     exact ⟨v',q',_,rfl,p1,p2,by rw [List.map_append];rfl,(old.ch.trans oG.ch).trans p3,.inr (by have:=old.1;have:=oG.1;omega)⟩
  ··have hold : ∀ G:H,Old g G->RW G rw q l tl/\VI G (.slice (some (bf,off)) (f0 :: fs).length cf) (f0 :: fs):=fun G oG=>⟨wg.old oG,pf.keep oG.1 fun z hz=>oG.2 z (by have:=zf z hz;omega)⟩
    clear wg hF hbad w
    refine qm ?_
    refine Run.unroll (n:=99999) rfl ?_
    refine qm ?_
    refine ZC ?_
    refine qm ?_
    refine ZC ?_
    refine qm ?_
    refine Run.unroll (n:=99999) rfl ?_
    refine qm ?_
    refine ZC ?_
    refine qm ?_
    refine Run.opqh fun G hG=>?_
    have oG:Old g G:=by
     rw [hG]
     repeat (first | exact ZD _ | refine Old.new ?_ | refine Old.set ?_ (zr _))
    have hGn:g.nx<G.nx:=by rw [hG];simp
    have hbx:G.get g.nx=some (.cells (RX.fresh (newW 3 nn f0 (fs.headD 0))).cells false):=by
     rw [hG];exact jab _
    clear hG
    obtain ⟨w1,pv⟩:=hold G oG
    have hS0:jah (l.map RX.x) 3 nn=(((f0 :: fs).take 1,0),l.map RX.x++[newW 3 nn f0 (fs.headD 0)]):=hS
    rw [hS0]
    refine Run.fin_mono (hCk _ (newW 3 nn f0 (fs.headD 0)) 1 g.nx G _ (f0 :: fs) (jeC _ _ _ _) w1 hbx pv Zd fun z hz=>?_) ?_
    ·have:=zf z hz
     have:=w1.lq
     have:=lq
     have:=lw
     have:=oG.1
     omega
    ·rintro v h2 ⟨v',q',rfl,p1,p2,p3,p4⟩
     exact ⟨v',q',_,rfl,p1,p2,by rw [List.map_append];rfl,(old.ch.trans oG.ch).trans p3,.inr (by have:=old.1;have:=oG.1;omega)⟩
end
theorem Old.ofCh {h h':H} (c:Ch (fun _=>False) h h'):Old h h':=⟨c.nx,fun j hj=>c.get j hj id⟩
theorem jdb {l:List WX} {n:Nat} {t:WX} (h:l[n]?=some t):l≠[]:=by rintro rfl;simp at h
theorem jdC {l:List WX} {n:Nat} {t:WX} (h:l[n]?=some t):(wps l)[n]?=some (.p t.wb 0):=by simp [h]
section
variable {h h':H} {w s:Nat} {ow:Nat->Nat} {f:Nat->Option (Nat × Nat)} {l:List WX} {now:Int} {tb:Tb} {no:Option (Nat × Nat)}
theorem WF.wat (a:WF h w s ow f l now tb no) (hl:l≠[]) : ∃ z c,WAt h w (wc f (.slice (some (z,0)) l.length c) s now no) s z l.length c (wps l)/\z<h.nx/\ow z=2:=by
 obtain ⟨sa,c,p1,p2⟩:=a.head
 obtain ⟨z,rfl,p3,p4,p5⟩:=p2 hl
 exact ⟨z,c,⟨p1,jfX rfl,jbe rfl,p5⟩,p3,p4⟩
theorem WW.fdat (a:WW h w s ow l now tb no) (u:Uniq (wxs l)) {n k m:Nat} {t:WX} (hat:AtW (wxs l) n k (m:Int)) (ht:l[n]?=some t) {wv:V} : FdAt (wc (fun i=>atS (wxs l) (i:Int)) wv s now no) (wps l) l.length m n k t.wb:=by
 have hm:=a.fds n k m hat
 have e:=jdQ u hat
 obtain ⟨_,_,hk⟩:=joQ hat
 have c0 : ∀ j,j<3->(wc (fun i=>atS (wxs l) (i:Int)) wv s now no)[m*3+j]?=some (pc (some (n,k)) j):=fun j hj=>by
  rw [jpe (i:=m) (j:=j) om hj rfl];show some (pc (atS (wxs l) (m:Int)) j)=_;rw [e]
 exact ⟨by omega,c0 0 om,c0 1 om,c0 2 om,x_lt ht,jdC ht,hk⟩
end
section
variable {cl:Nat->Call} (hcl:Sem cl) {h:H} {w s:Nat} {ow:Nat->Nat} {f:Nat->Option (Nat × Nat)} {l:List WX} {now:Int} {tb:Tb} {no:Option (Nat × Nat)}
include hcl
theorem jcw {d:Nat} (hd:1<=d) (a:WF h w s ow f l now tb no):cl d (.fn 57) [.p w 0] h=some (.bool false,h):=by
 obtain ⟨sa,c,p1,_⟩:=a.head
 exact jk8 hcl hd p1 (jfX rfl)
theorem jmj {d:Nat} {fd:Int} (hd:2<=d) (a:WW h w s ow l now tb no) (hno : ∀ n k,¬ AtW (wxs l) n k fd) :
  ∃ h',cl d (.fn 50) [.p w 0,.i fd] h=some (.tup [.agg [.bool false,.i 0,.i 0],.ptr none,.i 110],h')/\Old h h'/\h'.nx=h.nx+1:=by
 have o1:Old h (h.new (.cells [.bool false,.i 0,.i 0] false)):=(ZD h).new
 have hn:=jcw hcl (d:=d-1) om (a.wf.old o1)
 obtain ⟨sa,c,hw,_⟩:=(a.wf.old o1).head
 refine jai (aT hcl ?_)
 refine qo ?_
 refine zcu rfl rfl ?_
 by_cases h1:fd<0
 ·refine Ga ?_
  refine zct rfl rfl rfl rfl (jad _) (zw rfl) ?_
  refine Ga ?_
  refine zcf (resN rfl (jab _) (zw rfl) rfl) ?_
  exact ⟨rfl,o1.set om,rfl⟩
 by_cases h2:95<fd
 ·refine Ga ?_
  refine zct rfl rfl rfl rfl (jad _) (zw rfl) ?_
  refine Ga ?_
  refine zcf (resN rfl (jab _) (zw rfl) rfl) ?_
  exact ⟨rfl,o1.set om,rfl⟩
 obtain ⟨m,rfl⟩:=zC (by omega:0<=fd)
 have e:atS (wxs l) (m:Int)=none:=jfN hno
 have f2:(wc (fun i=>atS (wxs l) (i:Int)) (.slice sa l.length c) s now no)[0+0+(m:Int).toNat*3+0]?=some (.bool false):=by
  rw [jpe (i:=m) (j:=0) om om om]
  show some (pc (atS (wxs l) (m:Int)) 0)=_;rw [e];rfl
 refine Ga ?_
 refine zct rfl rfl rfl rfl (jad _) (zw rfl) ?_
 refine Ga ?_
 refine zcf (resN rfl (jab _) (zw rfl) rfl) ?_
 exact ⟨rfl,o1.set om,rfl⟩
theorem jdu {d:Nat} {fd:Int} (hd:2<=d) (a:WW h w s ow l now tb no) (u:Uniq (wxs l)) :
  ((∀ n k,¬ AtW (wxs l) n k fd) /\ ∃ h',cl d (.fn 50) [.p w 0,.i fd] h=some (.tup [.agg [.bool false,.i 0,.i 0],.ptr none,.i 110],h')/\Old h h'/\h'.nx=h.nx+1) \/
  ∃ (n k m:Nat) (t:WX),fd=m/\m<=95/\AtW (wxs l) n k fd/\l[n]?=some t/\(k=0\/k=1) /\ ∃ h',cl d (.fn 50) [.p w 0,.i fd] h=some (.tup [.agg [.bool true,.i (n:Int),.i (k:Int)],.p t.wb 0,.i 0],h')/\Old h h'/\h'.nx=h.nx+1:=by
 by_cases hex : ∃ p:Nat × Nat,AtW (wxs l) p.1 p.2 fd
 ·obtain ⟨⟨n,k⟩,hat⟩:=hex
  have hat:AtW (wxs l) n k fd:=hat
  have hm:=a.fds n k fd hat
  obtain ⟨m,rfl⟩:=zC hm.1
  obtain ⟨x,hx,hk⟩:=joQ hat
  obtain ⟨t,ht,_⟩:=jjg hx
  obtain ⟨z,c,A,lz,_⟩:=a.wf.wat (jdb ht)
  obtain ⟨h',e1,e2,e3⟩:=jk9 hcl hd A (a.fdat u hat ht) a.wf.lw lz
  exact .inr ⟨n,k,m,t,rfl,by omega,hat,ht,hk,h',e1,Old.ofCh e2,e3⟩
 ·have hno : ∀ n k,¬ AtW (wxs l) n k fd:=fun n k hat=>hex ⟨(n,k),hat⟩
  exact .inl ⟨hno,jmj hcl hd a hno⟩
theorem jfp {d:Nat} {n:Int} (hd:2<=d) (a:WF h w s ow f l now tb no) :
  ((∀ x,¬ OutW (wxs l) n x)/\cl d (.fn 116) [.p w 0,.i n] h=some (.tup [.ptr none,.i 116],h)) \/
  ∃ (m:Nat) (t:WX),n=m/\l[m]?=some t/\t.x.e1.what=2/\cl d (.fn 116) [.p w 0,.i n] h=some (.tup [.p t.wb 0,.i 0],h):=by
 have hn:=jcw hcl (d:=d-1) om a
 obtain ⟨sa,c,hw,hz⟩:=a.head
 have f1:(wc f (.slice sa l.length c) s now no)[0+288]?=some (.slice sa l.length c):=jbe rfl
 by_cases h1:n<0
 ·refine .inl ⟨fun x hx=>by have:=hx.1;omega,jan (aT hcl ?_)⟩
  refine Ga ?_
  exact ⟨rfl,rfl⟩
 by_cases h2:(l.length:Int)<=n
 ·refine .inl ⟨fun x hx=>?_,jan (aT hcl ?_)⟩
  ·have:=hx.2.1
   rw [zc Zc] at this;cases this
  refine Ga ?_
  exact ⟨rfl,rfl⟩
 obtain ⟨m,rfl⟩:=zC (by omega:0<=n)
 have ht:l[m]?=some l[m]:=za om
 generalize l[m]=t at ht
 obtain ⟨z,rfl,lz,oz,hb⟩:=hz (jdb ht)
 have f2:(wps l)[0+(m:Int).toNat*1]?=some (.p t.wb 0):=by rw [show 0+(m:Int).toNat*1=m by omega];exact jdC ht
 have f3:(t.x.cells t.r0 t.r1 t.wv)[0+0+(1:Int).toNat*7+0]?=some (.i t.x.e1.what):=Wi.what_cell (k:=1) (.inr rfl) rfl
 have hx:=(a.ok m t ht).hx
 unfold Wi.obj at hx
 by_cases h3:t.x.e1.what=2
 ·refine .inr ⟨m,t,rfl,ht,h3,jan (aT hcl ?_)⟩
  refine Ga ?_
  exact ⟨rfl,rfl⟩
 ·refine .inl ⟨fun x hx=>?_,jan (aT hcl ?_)⟩
  ·have e:=hx.2.1
   rw [zz,jam ht] at e
   cases e
   exact h3 hx.2.2
  refine Ga ?_
  exact ⟨rfl,rfl⟩
end
section
variable {x:Wi} {k m:Nat} {q:List UInt8}
theorem Wi.take_self (hk:k=0\/k=1):((x.take k m q).e k).ring=some (q.drop m):=by
 rcases hk with rfl | rfl<;>simp [Wi.take,Wi.setq,Wi.came,Wi.put,Wi.e,En.came]
theorem Wi.take_other (hk:k=0\/k=1):((x.take k m q).e (1-k)).ring=(x.e (1-k)).ring:=by
 rcases hk with rfl | rfl<;>simp [Wi.take,Wi.setq,Wi.came,Wi.put,Wi.e,En.came]
theorem Wi.take_same (hk:k=0\/k=1):x.SameFd (x.take k m q):=by
 rintro i (rfl | rfl)<;>rcases hk with rfl | rfl<;>exact ⟨Iff.rfl,fun _=>rfl⟩
theorem Wi.take_wait (hk:k=0\/k=1):(x.take k m q).waiting=x.waiting:=by rcases hk with rfl | rfl<;>rfl
theorem Wi.take_cap (hk:k=0\/k=1):(x.take k m q).cap=x.cap:=by rcases hk with rfl | rfl<;>rfl
theorem Wi.setq_eq (hk:k=0\/k=1) (hq:(x.e k).ring=some q):x.setq k q=x:=by
 obtain ⟨⟨w0,f0,q0,wr0,s0,i0,o0⟩,⟨w1,f1,q1,wr1,s1,i1,o1⟩,cap,rs,bl,wt⟩:=x
 rcases hk with rfl | rfl<;>simp only [Wi.e] at hq<;>simp [Wi.setq,Wi.put,Wi.e,hq]
theorem Wi.take_zero (hk:k=0\/k=1) (hq:(x.e k).ring=some q):x.take k 0 q=x:=by
 unfold Wi.take
 rw [zl,Wi.setq_eq hk hq]
 exact Wi.came_ff x _
theorem jiL {α : Type} {l:List α} {n:Nat} {x : α} (h:l[n]?=some x):l.set n x=l:=by
 apply zW
 intro i
 rw [zi]
 by_cases e:n=i
 ·subst e
  have:n<l.length:=by
   rcases zA n l.length with h1 | h1
   ·exact h1
   ·rw [zc h1] at h;cases h
  rw [zG rfl,zG this,h]
 ·rw [zF e]
theorem jf8 {i k:Nat} (hi:i=0\/i=1) (hk:k=0\/k=1) (h:i≠k):i=1-k:=by omega
end
section
variable {h h':H} {w s:Nat} {ow:Nat->Nat} {f:Nat->Option (Nat × Nat)} {l:List WX} {now:Int} {tb:Tb} {no:Option (Nat × Nat)} {n k m:Nat} {t:WX} {q:List UInt8}
theorem WF.take (a:WF h w s ow f l now tb no) (ht:l[n]?=some t) (hk:k=0\/k=1) (hq:(t.x.e k).ring=some q) (ch:Ch (fun j=>j=t.wb\/j=t.r k) h h') (ho:h'.get t.wb=some ((t.x.take k m q).obj t.r0 t.r1 t.wv)) (hR:ja5 h' (t.r k) (t.b k) (q.drop m) t.x.cap) :
  WF h' w s ow f (l.set n { t with x:=t.x.take k m q }) now tb no:=by
 have X:=a.ok n t ht
 have hox:=X.ox
 obtain ⟨_,o1,_⟩:=X.ring k hk q hq
 refine a.step ht ch (fun j _ hb=>?_) ho (Wi.take_wait hk) fun i hi q' hq'=>?_
 ·rcases hb with rfl | rfl<;>omega
 ·rw [Wi.take_cap hk]
  by_cases hik:i=k
  ·subst hik
   rw [Wi.take_self hk] at hq'
   cases hq'
   exact ⟨q,hq,hR⟩
  ·obtain rfl:=jf8 hi hk hik
   rw [Wi.take_other hk] at hq'
   obtain ⟨p1,p2,p3,p4,p5⟩:=X.ring _ hi q' hq'
   refine ⟨q',hq',p1.keep (ch.get _ p4 ?_) (ch.get _ p5 ?_)⟩
   ·rintro (e | e)
    ·rw [e] at p2;omega
    ·rw [e] at p2;omega
   ·rintro (e | e)
    ·rw [e] at p3;omega
    ·rw [e] at p3;omega
theorem VB.ofRow2 {v:V} {N:Nat} {b:List UInt8} (r:Row N h 1 v b.length (bts b)):VB h v b /\ ∀ z,v.at?=some z->N<=z:=by
 obtain ⟨p1,p2⟩:=VB.ofRow r
 exact ⟨p1,fun z hz=>(p2 z hz).1⟩
theorem jl7 {q:List UInt8} {n:Int} : (q.take (min n (q.length:Int)).toNat).length=(min n (q.length:Int)).toNat:=by simp;omega
theorem XOk.apart (a:XOk h ow n t) (hk:k=0\/k=1) (hq:(t.x.e k).ring=some q):ja5 h (t.r k) (t.b k) q t.x.cap/\t.r k<h.nx/\t.b k<h.nx/\t.r k≠t.b k/\t.wb≠t.r k/\t.wb≠t.b k:=by
 have o0:=a.ox
 obtain ⟨p1,p2,p3,p4,p5⟩:=a.ring k hk q hq
 refine ⟨p1,p4,p5,fun e=>?_,fun e=>?_,fun e=>?_⟩
 ·rw [e] at p2;omega
 ·rw [e] at o0;omega
 ·rw [e] at o0;omega
end
section
variable {cl:Nat->Call} (hcl:Sem cl) {h:H} {w s:Nat} {ow:Nat->Nat} {ws:Ws} {now:Int} {tb:Tb} {no:Option (Nat × Nat)}
include hcl
theorem ww_Read {d:Nat} {fd many:Int} (hd:10<=d) (a:WSt h w s ow ws now tb no) (o:WsOk ws) :
  ∃ v h',cl d (.fn 31) [.p w 0,.i fd,.i many] h=some (.tup [v,.bool (jbU ws fd many).1.2.1,.i (jbU ws fd many).1.2.2],h')/\VB h' v (jbU ws fd many).1.1/\(∀ z,v.at?=some z->h.nx<=z)/\WSt h' w s ow (jbU ws fd many).2 now tb no/\To h h' ow ow:=by
 obtain ⟨l,a,rfl⟩:=a
 rcases jdu hcl (d:=d-1) (fd:=fd) om a o.uniq with ⟨hno,h1,e1,o1,x1⟩ | ⟨n,k,m,t,rfl,hm,hat,ht,hk,h1,e1,o1,x1⟩
 ·have hS:jbU (wxs l) fd many=(([],false,110),wxs l):=jaG hno
  rw [hS]
  suffices q : ∃ v' h',cl d (.fn 31) [.p w 0,.i fd,.i many] h=some (v',h')/\v' = .tup [.nils,.bool false,.i 110]/\Old h h' by
   obtain ⟨_,h',e,rfl,q⟩:=q
   exact ⟨.nils,h',e,VB.nil _,fun z hz=>(by cases hz),⟨l,a.old q,rfl⟩,ZE q⟩
  refine aT hcl ?_
  refine qm ?_
  exact ⟨rfl,o1.new.set o1.1⟩
 have X:=a.wf.ok n t ht
 have hS:jbU (wxs l) (m:Int) many=_:=jaH o.uniq hat (jam ht)
 cases hring:(t.x.e k).ring with
 | none=>
  simp only [hring] at hS
  rw [hS]
  suffices q : ∃ v' h',cl d (.fn 31) [.p w 0,.i m,.i many] h=some (v',h')/\v' = .tup [.nils,.bool false,.i 111]/\Old h h' by
   obtain ⟨_,h',e,rfl,q⟩:=q
   exact ⟨.nils,h',e,VB.nil _,fun z hz=>(by cases hz),⟨l,a.old q,rfl⟩,ZE q⟩
  have hx1:h1.get t.wb=some (.cells (t.x.cells t.r0 t.r1 t.wv) false):=by rw [o1.2 _ X.lx];exact X.hx
  have lx:=X.lx
  have f1:(t.x.cells t.r0 t.r1 t.wv)[0+0+(k:Int).toNat*7+2]?=some (.ptr none):=by
   rcases hk with rfl | rfl
   ·have hring:t.x.e0.ring=none:=hring
    simp [Wi.cells,En.cells,hring,En.ptr]
   ·have hring:t.x.e1.ring=none:=hring
    simp [Wi.cells,En.cells,hring,En.ptr]
  refine aT hcl ?_
  refine qm ?_
  exact ⟨rfl,o1.new.set o1.1⟩
 | some q=>
  simp only [hring] at hS
  have f2:=Wi.ring_cell (x:=t.x) (r0:=t.r0) (r1:=t.r1) (wv:=t.wv) hk hring (o:=0+0+(k:Int).toNat*7+2) om
  have hx1:h1.get t.wb=some (.cells (t.x.cells t.r0 t.r1 t.wv) false):=by rw [o1.2 _ X.lx];exact X.hx
  have lx:=X.lx
  by_cases hm1:many<1
  ·rw [zG hm1] at hS
   rw [hS]
   suffices q : ∃ v' h',cl d (.fn 31) [.p w 0,.i m,.i many] h=some (v',h')/\v' = .tup [.nils,.bool false,.i 2]/\Old h h' by
    obtain ⟨_,h',e,rfl,q⟩:=q
    exact ⟨.nils,h',e,VB.nil _,fun z hz=>(by cases hz),⟨l,a.old q,rfl⟩,ZE q⟩
   refine aT hcl ?_
   refine qm ?_
   exact ⟨rfl,o1.new.set o1.1⟩
  rw [zF hm1] at hS
  cases hrs:t.x.reset
  case true=>
   rw [hrs,zG rfl] at hS
   rw [hS]
   suffices q : ∃ v' h',cl d (.fn 31) [.p w 0,.i m,.i many] h=some (v',h')/\v' = .tup [.nils,.bool false,.i 115]/\Old h h' by
    obtain ⟨_,h',e,rfl,q⟩:=q
    exact ⟨.nils,h',e,VB.nil _,fun z hz=>(by cases hz),⟨l,a.old q,rfl⟩,ZE q⟩
   have f1:(t.x.cells t.r0 t.r1 t.wv)[0+14]?=some (.bool true):=by rw [<- hrs];exact ZB rfl
   refine aT hcl ?_
   refine qm ?_
   exact ⟨rfl,o1.new.set o1.1⟩
  rw [hrs,zF Zd] at hS
  obtain ⟨p1,p2,p3,p4,p5,p6⟩:=X.apart hk hring
  obtain ⟨z,c,A,lz,oz⟩:=a.wf.wat (jdb ht)
  obtain ⟨v,h',e,row,hnil,r1,r2,r3⟩:=wp_Read hcl (d:=d) (t:=many) om A (a.fdat o.uniq hat ht) X.hx hrs om hring p1 a.wf.lw lz X.lx p2 p3 p4 p5 p6
  have W:=a.wf.take ht hk hring r3 r1 r2
  have W2:=WF.same W a.fds (jam ht) (Wi.take_same hk)
  have T:To h h' ow ow:=⟨r3.weaken fun j hj hb=>by
   have o1:=X.ox
   obtain ⟨_,o2,_⟩:=X.ring k hk q hring
   rcases hb with rfl | rfl
   ·omega
   ·show ow (t.r k)≠0;omega,fun _ _=>rfl⟩
  have row:Row h.nx h' 1 v (q.take (min many (q.length:Int)).toNat).length (bts (q.take (min many (q.length:Int)).toNat)):=by rw [jl7];exact row
  obtain ⟨vb,vz⟩:=VB.ofRow2 row
  refine ⟨v,h',?_,?_,vz,⟨_,W2,?_⟩,T⟩
  ·rw [e,hS]
   by_cases hq:q=[]
   ·cases hsl:t.x.silent k<;>simp [hq]
   ·simp [hq]
  ·rw [hS]
   by_cases hq:q=[]
   ·subst hq
    cases hsl:t.x.silent k<;>simpa using vb
   ·rw [zG hq];exact vb
  ·rw [jbg,hS]
   by_cases hq:q=[]
   ·subst hq
    have:(wxs l).set n (t.x.take k (min many (([]:List UInt8).length:Int)).toNat [])=wxs l:=by
     rw [show (min many (([]:List UInt8).length:Int)).toNat=0 by simp;omega,Wi.take_zero hk hring]
     exact jiL (jam ht)
    rw [this]
    cases hsl:t.x.silent k<;>simp
   ·rw [zG hq]
theorem jnm {d:Nat} {n many:Int} (hd:10<=d) (a:WSt h w s ow ws now tb no) (o:WsOk ws) :
  ∃ v h',cl d (.fn 72) [.p w 0,.i n,.i many] h=some (.tup [v,.i (jcb ws n many).1.2],h')/\VB h' v (jcb ws n many).1.1/\(∀ z,v.at?=some z->h.nx<=z)/\WSt h' w s ow (jcb ws n many).2 now tb no/\To h h' ow ow:=by
 obtain ⟨l,a,rfl⟩:=a
 rcases jfp hcl (d:=d-1) (n:=n) om a.wf with ⟨hno,e1⟩ | ⟨m,t,rfl,ht,h2,e1⟩
 ·have hS:jcb (wxs l) n many=(([],116),wxs l):=jb5 hno
  rw [hS]
  suffices q : ∃ v' h',cl d (.fn 72) [.p w 0,.i n,.i many] h=some (v',h')/\v' = .tup [.nils,.i 116]/\Old h h' by
   obtain ⟨_,h',e,rfl,q⟩:=q
   exact ⟨.nils,h',e,VB.nil _,fun z hz=>(by cases hz),⟨l,a.old q,rfl⟩,ZE q⟩
  refine aT hcl ?_
  refine qm ?_
  exact ⟨rfl,ZD _⟩
 have X:=a.wf.ok m t ht
 have hS:jcb (wxs l) (m:Int) many=_:=jb6 (jam ht) h2
 have hx:=X.hx
 unfold Wi.obj at hx
 by_cases hm:many<0
 ·rw [zG hm] at hS;rw [hS]
  suffices q : ∃ v' h',cl d (.fn 72) [.p w 0,.i m,.i many] h=some (v',h')/\v' = .tup [.nils,.i 2]/\Old h h' by
   obtain ⟨_,h',e,rfl,q⟩:=q
   exact ⟨.nils,h',e,VB.nil _,fun z hz=>(by cases hz),⟨l,a.old q,rfl⟩,ZE q⟩
  refine aT hcl ?_
  refine qm ?_
  exact ⟨rfl,ZD _⟩
 rw [zF hm] at hS
 cases hrs:t.x.reset
 case true=>
  rw [hrs,zG rfl] at hS;rw [hS]
  suffices q : ∃ v' h',cl d (.fn 72) [.p w 0,.i m,.i many] h=some (v',h')/\v' = .tup [.nils,.i 115]/\Old h h' by
   obtain ⟨_,h',e,rfl,q⟩:=q
   exact ⟨.nils,h',e,VB.nil _,fun z hz=>(by cases hz),⟨l,a.old q,rfl⟩,ZE q⟩
  have f1:(t.x.cells t.r0 t.r1 t.wv)[0+14]?=some (.bool true):=by rw [<- hrs];exact ZB rfl
  refine aT hcl ?_
  refine qm ?_
  exact ⟨rfl,ZD _⟩
 rw [hrs,zF Zd] at hS
 obtain ⟨q,hring⟩:=zN.1 ((o.ok _ (zb (jam ht))).out h2).2
 simp only [hring] at hS
 obtain ⟨p1,p2,p3,p4,p5,p6⟩:=X.apart (k:=1) (.inr rfl) hring
 obtain ⟨z,c,A,lz,oz⟩:=a.wf.wat (jdb ht)
 obtain ⟨v,h',e,row,hnil,r1,r2,r3⟩:=wp_Take hcl (d:=d) (t:=many) om A (x_lt ht) (jdC ht) X.hx h2 hrs om hring p1 X.lx p2 p3 p4 p5 p6
 have W:=a.wf.take ht (k:=1) (.inr rfl) hring r3 r1 r2
 have W2:=WF.same W a.fds (jam ht) (Wi.take_same (.inr rfl))
 have T:To h h' ow ow:=⟨r3.weaken fun j hj hb=>by
  have o1:=X.ox
  obtain ⟨_,o2,_⟩:=X.ring 1 (.inr rfl) q hring
  rcases hb with rfl | rfl
  ·omega
  ·show ow (t.r 1)≠0;omega,fun _ _=>rfl⟩
 have row:Row h.nx h' 1 v (q.take (min many (q.length:Int)).toNat).length (bts (q.take (min many (q.length:Int)).toNat)):=by rw [jl7];exact row
 obtain ⟨vb,vz⟩:=VB.ofRow2 row
 rw [hS]
 exact ⟨v,h',e,vb,vz,⟨_,W2,jbg⟩,T⟩
theorem jnl {d:Nat} {fd:Int} (hd:3<=d) (a:WSt h w s ow ws now tb no) (o:WsOk ws) :
  ∃ h',cl d (.fn 91) [.p w 0,.i fd] h=some (.tup [.i (jfo ws fd).1,.i (jfo ws fd).2],h')/\Old h h':=by
 obtain ⟨l,a,rfl⟩:=a
 rcases jdu hcl (d:=d-1) (fd:=fd) om a o.uniq with ⟨hno,h1,e1,o1,x1⟩ | ⟨n,k,m,t,rfl,hm,hat,ht,hk,h1,e1,o1,x1⟩
 ·have hS:jfo (wxs l) fd=(0,110):=jaG hno
  rw [hS]
  refine jai (aT hcl ?_)
  refine qm ?_
  exact ⟨rfl,o1.new.set o1.1⟩
 ·have hS:jfo (wxs l) (m:Int)=((n:Int),0):=jaH o.uniq hat (jam ht)
  rw [hS]
  refine jai (aT hcl ?_)
  refine qm ?_
  exact ⟨rfl,o1.new.set o1.1⟩
end
section
variable {x:Wi} {k m:Nat} {q b:List UInt8}
theorem Wi.fill_self (hk:k=0\/k=1):((x.fill k m q b).e (1-k)).ring=some (q++b.take m):=by
 rcases hk with rfl | rfl<;>simp [Wi.fill,Wi.setq,Wi.came,Wi.put,Wi.e,En.came]
theorem Wi.fill_other (hk:k=0\/k=1):((x.fill k m q b).e k).ring=(x.e k).ring:=by
 rcases hk with rfl | rfl<;>simp [Wi.fill,Wi.setq,Wi.came,Wi.put,Wi.e,En.came]
theorem Wi.fill_same (hk:k=0\/k=1):x.SameFd (x.fill k m q b):=by
 rintro i (rfl | rfl)<;>rcases hk with rfl | rfl<;>exact ⟨Iff.rfl,fun _=>rfl⟩
theorem Wi.fill_wait (hk:k=0\/k=1):(x.fill k m q b).waiting=x.waiting:=by rcases hk with rfl | rfl<;>rfl
theorem Wi.fill_cap (hk:k=0\/k=1):(x.fill k m q b).cap=x.cap:=by rcases hk with rfl | rfl<;>rfl
theorem Wi.shut_same (hk:k=0\/k=1):x.SameFd (x.doShut k):=by
 unfold Wi.doShut
 split
 ·exact Wi.SameFd.refl x
 ·rintro i (rfl | rfl)<;>rcases hk with rfl | rfl<;>exact ⟨Iff.rfl,fun _=>rfl⟩
theorem Wi.shut_wait (hk:k=0\/k=1):(x.doShut k).waiting=x.waiting:=by
 unfold Wi.doShut
 split
 ·rfl
 ·rcases hk with rfl | rfl<;>rfl
theorem Wi.shut_cap (hk:k=0\/k=1):(x.doShut k).cap=x.cap:=by
 unfold Wi.doShut
 split
 ·rfl
 ·rcases hk with rfl | rfl<;>rfl
theorem Wi.shut_ring (hk:k=0\/k=1) (i:Nat) (hi:i=0\/i=1):((x.doShut k).e i).ring=(x.e i).ring:=by
 unfold Wi.doShut
 split
 ·rfl
 ·rcases hk with rfl | rfl<;>rcases hi with rfl | rfl<;>rfl
theorem Wi.close_cap (hk:k=0\/k=1):(x.close k).cap=x.cap:=by rcases hk with rfl | rfl<;>rfl
theorem Wi.close_other (hk:k=0\/k=1):((x.close k).e (1-k)).what=(x.e (1-k)).what/\((x.close k).e (1-k)).fd=(x.e (1-k)).fd:=by rcases hk with rfl | rfl<;>exact ⟨rfl,rfl⟩
theorem Wi.close_what (hk:k=0\/k=1):((x.close k).e k).what=3:=by rcases hk with rfl | rfl<;>rfl
end
section
variable {h h':H} {w s:Nat} {ow:Nat->Nat} {f:Nat->Option (Nat × Nat)} {l:List WX} {now:Int} {tb:Tb} {no:Option (Nat × Nat)} {n k m:Nat} {t:WX} {q b:List UInt8}
theorem WF.fill (a:WF h w s ow f l now tb no) (ht:l[n]?=some t) (hk:k=0\/k=1) (hq:(t.x.e (1-k)).ring=some q) (ch:Ch (fun j=>j=t.wb\/j=t.r (1-k)\/j=t.b (1-k)) h h') (ho:h'.get t.wb=some ((t.x.fill k m q b).obj t.r0 t.r1 t.wv)) (hR:ja5 h' (t.r (1-k)) (t.b (1-k)) (q++b.take m) t.x.cap) :
  WF h' w s ow f (l.set n { t with x:=t.x.fill k m q b }) now tb no:=by
 have X:=a.ok n t ht
 have hox:=X.ox
 have hk':1-k=0\/1-k=1:=by omega
 obtain ⟨_,o1,o2,_⟩:=X.ring _ hk' q hq
 refine a.step ht ch (fun j _ hb=>?_) ho (Wi.fill_wait hk) fun i hi q' hq'=>?_
 ·rcases hb with rfl | rfl | rfl<;>omega
 ·rw [Wi.fill_cap hk]
  by_cases hik:i=k
  ·subst hik
   rw [Wi.fill_other hk] at hq'
   obtain ⟨p1,p2,p3,p4,p5⟩:=X.ring _ hi q' hq'
   refine ⟨q',hq',p1.keep (ch.get _ p4 ?_) (ch.get _ p5 ?_)⟩
   ·rintro (e | e | e)
    ·rw [e] at p2;omega
    ·rw [e] at p2;omega
    ·rw [e] at p2;omega
   ·rintro (e | e | e)
    ·rw [e] at p3;omega
    ·rw [e] at p3;omega
    ·rw [e] at p3;omega
  ·obtain rfl:=jf8 hi hk hik
   rw [Wi.fill_self hk] at hq'
   cases hq'
   exact ⟨q,hq,hR⟩
theorem XOk.to (X:XOk h ow n t) (hk:k=0\/k=1) (hq:(t.x.e k).ring=some q) (ch:Ch (fun j=>j=t.wb\/j=t.r k\/j=t.b k) h h'):To h h' ow ow :=
 ⟨ch.weaken fun j hj hb=>by
  have o1:=X.ox
  obtain ⟨_,o2,o3,_⟩:=X.ring k hk q hq
  rcases hb with rfl | rfl | rfl
  ·omega
  ·show ow (t.r k)≠0;omega
  ·show ow (t.b k)≠0;omega,fun _ _=>rfl⟩
theorem XOk.toU (X:XOk h ow n t) {ob:Obj} (u:Upd t.wb ob h h'):To h h' ow ow :=
 ⟨(u.ch (B:=fun j=>j=t.wb) rfl).weaken fun j hj hb=>by
  have o1:=X.ox
  have hb:j=t.wb:=hb
  subst hb;omega,fun _ _=>rfl⟩
end
section
variable {cl:Nat->Call} (hcl:Sem cl)
include hcl
theorem ji9 {d wb r0 r1 k:Nat} {wv:V} {h:H} {x:Wi} (hd:2<=d) (hw:h.get wb=some (x.obj r0 r1 wv)) (hk:k=0\/k=1) :
  ∃ h',cl d (.fn 68) [.p wb 0,.i (k:Int)] h=some (.tup [],h')/\Upd wb ((x.close k).obj r0 r1 wv) h h':=by
 refine jai (aT hcl ?_)
 have hsc:=Wi.shut_cell (x:=x) (r0:=r0) (r1:=r1) (wv:=wv) hk (o:=0+0+(k:Int).toNat*7+4) om
 have ek:(1:Int)-(k:Int)=((1-k:Nat):Int):=by omega
 obtain ⟨h2,e2,u2⟩:=jfS hcl (d:=d-1) (k:=1-k) om hw om (!(x.e k).shut) true
 have hw2:=u2.self
 rw [<- ek] at e2
 have es:decide ((x.e k).shut=false) = !(x.e k).shut:=by cases (x.e k).shut<;>rfl
 unfold Wi.obj at hw hw2
 refine Ga ?_
 rw [es]
 refine Ga ?_
 refine zcs rfl rfl rfl hw2 (by rw [Wi.cells_length];omega) ?_
 have e1:Obj.cells ((((x.came (1-k) (!(x.e k).shut) true)).cells r0 r1 wv).set (0+0+(k:Int).toNat*7+0) (.i 3)) false=(x.close k).obj r0 r1 wv:=by
  rcases hk with rfl | rfl<;>rfl
 rw [e1]
 refine Ga ?_
 exact ⟨rfl,u2.trans ZA⟩
variable {h:H} {w s:Nat} {ow:Nat->Nat} {ws:Ws} {now:Int} {tb:Tb} {no:Option (Nat × Nat)}
theorem ww_Write {d:Nat} {fd:Int} {b:List UInt8} {vb:V} (hd:10<=d) (a:WSt h w s ow ws now tb no) (o:WsOk ws) (hb:VB h vb b) (hbl:b.length<=1000) (hba : ∀ z,vb.at?=some z->ow z=0) :
  ∃ h',cl d (.fn 33) [.p w 0,.i fd,vb] h=some (.tup [.i (jb8 ws fd b).1.1,.i (jb8 ws fd b).1.2],h')/\WSt h' w s ow (jb8 ws fd b).2 now tb no/\To h h' ow ow:=by
 obtain ⟨l,a,rfl⟩:=a
 obtain ⟨av,cv,rfl,hB⟩:=hb
 rcases jdu hcl (d:=d-1) (fd:=fd) om a o.uniq with ⟨hno,h1,e1,o1,x1⟩ | ⟨n,k,m,t,rfl,hm,hat,ht,hk,h1,e1,o1,x1⟩
 ·have hS:jb8 (wxs l) fd b=((0,110),wxs l):=jaG hno
  rw [hS]
  suffices q : ∃ h',cl d (.fn 33) [.p w 0,.i fd,.slice av b.length cv] h=some (.tup [.i 0,.i 110],h')/\Old h h' by
   obtain ⟨h',e,q⟩:=q
   exact ⟨h',e,⟨l,a.old q,rfl⟩,ZE q⟩
  refine jai (aT hcl ?_)
  refine qm ?_
  exact ⟨rfl,o1.new.set o1.1⟩
 have X:=a.wf.ok n t ht
 have hS:jb8 (wxs l) (m:Int) b=_:=jaH o.uniq hat (jam ht)
 have hx1:h1.get t.wb=some (.cells (t.x.cells t.r0 t.r1 t.wv) false):=by rw [o1.2 _ X.lx];exact X.hx
 have lx:=X.lx
 have f1:=Wi.writes_cell (x:=t.x) (r0:=t.r0) (r1:=t.r1) (wv:=t.wv) hk (o:=0+0+(k:Int).toNat*7+3) om
 have f2:=ZB (x:=t.x) (r0:=t.r0) (r1:=t.r1) (wv:=t.wv) (o:=0+14) rfl
 have f3:=Wi.shut_cell (x:=t.x) (r0:=t.r0) (r1:=t.r1) (wv:=t.wv) hk (o:=0+0+(k:Int).toNat*7+4) om
 have ek:(1:Int)-(k:Int)=((1-k:Nat):Int):=by omega
 have f4:(t.x.cells t.r0 t.r1 t.wv)[0+0+((1:Int)-(k:Int)).toNat*7+0]?=some (.i (t.x.e (1-k)).what):=Wi.what_cell om om
 cases hwr:(t.x.e k).writes
 ·rw [hwr,zG rfl] at hS;rw [hS]
  suffices q : ∃ h',cl d (.fn 33) [.p w 0,.i m,.slice av b.length cv] h=some (.tup [.i 0,.i 111],h')/\Old h h' by
   obtain ⟨h',e,q⟩:=q
   exact ⟨h',e,⟨l,a.old q,rfl⟩,ZE q⟩
  rw [hwr] at f1
  refine jai (aT hcl ?_)
  refine qm ?_
  exact ⟨rfl,o1.new.set o1.1⟩
 rw [hwr,zF Zd] at hS
 rw [hwr] at f1
 cases hrs:t.x.reset
 case true=>
  rw [hrs,zG rfl] at hS;rw [hS]
  suffices q : ∃ h',cl d (.fn 33) [.p w 0,.i m,.slice av b.length cv] h=some (.tup [.i 0,.i 115],h')/\Old h h' by
   obtain ⟨h',e,q⟩:=q
   exact ⟨h',e,⟨l,a.old q,rfl⟩,ZE q⟩
  rw [hrs] at f2
  refine jai (aT hcl ?_)
  refine qm ?_
  exact ⟨rfl,o1.new.set o1.1⟩
 rw [hrs,zF Zd] at hS
 rw [hrs] at f2
 cases hsh:(t.x.e k).shut
 case true=>
  rw [zG (.inl hsh)] at hS;rw [hS]
  suffices q : ∃ h',cl d (.fn 33) [.p w 0,.i m,.slice av b.length cv] h=some (.tup [.i 0,.i 114],h')/\Old h h' by
   obtain ⟨h',e,q⟩:=q
   exact ⟨h',e,⟨l,a.old q,rfl⟩,ZE q⟩
  rw [hsh] at f3
  refine jai (aT hcl ?_)
  refine qm ?_
  exact ⟨rfl,o1.new.set o1.1⟩
 rw [hsh] at f3
 by_cases h3:(t.x.e (1-k)).what=3
 ·rw [zG (.inr h3)] at hS;rw [hS]
  suffices q : ∃ h',cl d (.fn 33) [.p w 0,.i m,.slice av b.length cv] h=some (.tup [.i 0,.i 114],h')/\Old h h' by
   obtain ⟨h',e,q⟩:=q
   exact ⟨h',e,⟨l,a.old q,rfl⟩,ZE q⟩
  refine jai (aT hcl ?_)
  refine qm ?_
  exact ⟨rfl,o1.new.set o1.1⟩
 rw [zF (by rintro (e | e);(rw [hsh] at e;cases e);exact h3 e)] at hS
 have hk':1-k=0\/1-k=1:=by omega
 have WI:=o.ok _ (zb (jam ht))
 obtain ⟨q,hring⟩:=zN.1 ((WI.pair k hk).1 hwr)
 simp only [hring] at hS
 obtain ⟨p1,p2,p3,p4,p5,p6⟩:=X.apart hk' hring
 obtain ⟨z,c,A,lz,oz⟩:=a.wf.wat (jdb ht)
 have hne : ∀ z o,av=some (z,o)->b≠[]->z≠t.b (1-k)/\z≠t.r (1-k):=fun z o e _=>by
  have h0:=hba z (by subst e;rfl)
  obtain ⟨_,o1,o2,_⟩:=X.ring _ hk' q hring
  exact ⟨fun e=>by rw [e] at h0;omega,fun e=>by rw [e] at h0;omega⟩
 obtain ⟨h',e,r1,r2,r3⟩:=wp_Write hcl (d:=d) om A (a.fdat o.uniq hat ht) X.hx hwr hrs hsh h3 hring p1 a.wf.lw lz X.lx p2 p3 p4 p5 p6 hB om hne
 have W:=a.wf.fill ht hk hring r3 r1 r2
 have W2:=WF.same W a.fds (jam ht) (Wi.fill_same hk)
 refine ⟨h',?_,⟨_,W2,?_⟩,X.to hk' hring r3⟩
 ·rw [e,hS]
  by_cases hbn:b=[]
  ·simp [hbn]
  ·by_cases hm0:min b.length (t.x.cap-q.length)=0
   ·rw [zF hbn,zG hm0,zG ⟨hm0,hbn⟩,hm0];rfl
   ·rw [zF hbn,zF hm0,zF fun e=>hm0 e.1]
 ·rw [jbg,hS]
  by_cases hbn:b=[]
  ·rw [zG hbn]
   subst hbn
   have:(wxs l).set n (t.x.fill k (min ([]:List UInt8).length (t.x.cap-q.length)) q [])=wxs l:=by
    rw [show min ([]:List UInt8).length (t.x.cap-q.length)=0 by simp]
    have e3:t.x.fill k 0 q []=t.x:=by
     unfold Wi.fill
     rw [List.take_nil,List.append_nil,Wi.setq_eq hk' hring]
     exact Wi.came_ff t.x _
    rw [e3]
    exact jiL (jam ht)
   exact this
  ·by_cases hm0:min b.length (t.x.cap-q.length)=0
   ·rw [zF hbn,zG hm0,hm0]
   ·rw [zF hbn,zF hm0]
theorem jo0 {d:Nat} {n:Int} {b:List UInt8} {vb:V} (hd:10<=d) (a:WSt h w s ow ws now tb no) (o:WsOk ws) (hb:VB h vb b) (hbl:b.length<=1000) (hba : ∀ z,vb.at?=some z->ow z=0) :
  ∃ h',cl d (.fn 70) [.p w 0,.i n,vb] h=some (.tup [.i (putS ws n b).1.1,.i (putS ws n b).1.2],h')/\WSt h' w s ow (putS ws n b).2 now tb no/\To h h' ow ow:=by
 obtain ⟨l,a,rfl⟩:=a
 obtain ⟨av,cv,rfl,hB⟩:=hb
 rcases jfp hcl (d:=d-1) (n:=n) om a.wf with ⟨hno,e1⟩ | ⟨m,t,rfl,ht,h2,e1⟩
 ·have hS:putS (wxs l) n b=((0,116),wxs l):=jb5 hno
  rw [hS]
  suffices q : ∃ h',cl d (.fn 70) [.p w 0,.i n,.slice av b.length cv] h=some (.tup [.i 0,.i 116],h')/\Old h h' by
   obtain ⟨h',e,q⟩:=q
   exact ⟨h',e,⟨l,a.old q,rfl⟩,ZE q⟩
  refine jai (aT hcl ?_)
  refine qm ?_
  exact ⟨rfl,ZD _⟩
 have X:=a.wf.ok m t ht
 have hS:putS (wxs l) (m:Int) b=_:=jb6 (jam ht) h2
 have hx:=X.hx
 unfold Wi.obj at hx
 have f2:=ZB (x:=t.x) (r0:=t.r0) (r1:=t.r1) (wv:=t.wv) (o:=0+14) rfl
 have f3:(t.x.cells t.r0 t.r1 t.wv)[0+0+(1:Int).toNat*7+4]?=some (.bool t.x.e1.shut):=Wi.shut_cell (k:=1) (.inr rfl) rfl
 have f4:(t.x.cells t.r0 t.r1 t.wv)[0+0+(0:Int).toNat*7+0]?=some (.i t.x.e0.what):=Wi.what_cell (k:=0) (.inl rfl) rfl
 cases hrs:t.x.reset
 case true=>
  rw [hrs,zG rfl] at hS;rw [hS]
  suffices q : ∃ h',cl d (.fn 70) [.p w 0,.i m,.slice av b.length cv] h=some (.tup [.i 0,.i 115],h')/\Old h h' by
   obtain ⟨h',e,q⟩:=q
   exact ⟨h',e,⟨l,a.old q,rfl⟩,ZE q⟩
  rw [hrs] at f2
  refine jai (aT hcl ?_)
  refine qm ?_
  exact ⟨rfl,ZD _⟩
 rw [hrs,zF Zd] at hS
 rw [hrs] at f2
 cases hsh:t.x.e1.shut
 case true=>
  rw [zG (.inl hsh)] at hS;rw [hS]
  suffices q : ∃ h',cl d (.fn 70) [.p w 0,.i m,.slice av b.length cv] h=some (.tup [.i 0,.i 114],h')/\Old h h' by
   obtain ⟨h',e,q⟩:=q
   exact ⟨h',e,⟨l,a.old q,rfl⟩,ZE q⟩
  rw [hsh] at f3
  refine jai (aT hcl ?_)
  refine qm ?_
  exact ⟨rfl,ZD _⟩
 rw [hsh] at f3
 by_cases h3:t.x.e0.what=3
 ·rw [zG (.inr h3)] at hS;rw [hS]
  suffices q : ∃ h',cl d (.fn 70) [.p w 0,.i m,.slice av b.length cv] h=some (.tup [.i 0,.i 114],h')/\Old h h' by
   obtain ⟨h',e,q⟩:=q
   exact ⟨h',e,⟨l,a.old q,rfl⟩,ZE q⟩
  refine jai (aT hcl ?_)
  refine qm ?_
  exact ⟨rfl,ZD _⟩
 rw [zF (by rintro (e | e);(rw [hsh] at e;cases e);exact h3 e)] at hS
 obtain ⟨q,hring⟩:=zN.1 ((o.ok _ (zb (jam ht))).out h2).1
 simp only [hring] at hS
 obtain ⟨p1,p2,p3,p4,p5,p6⟩:=X.apart (k:=0) (.inl rfl) hring
 obtain ⟨z,c,A,lz,oz⟩:=a.wf.wat (jdb ht)
 have hne : ∀ z o,av=some (z,o)->b≠[]->z≠t.b0/\z≠t.r0:=fun z o e _=>by
  have h0:=hba z (by subst e;rfl)
  obtain ⟨_,o1,o2,_⟩:=X.ring 0 (.inl rfl) q hring
  exact ⟨fun e=>by have o2:ow t.b0=_:=o2;rw [e] at h0;omega,fun e=>by have o1:ow t.r0=_:=o1;rw [e] at h0;omega⟩
 obtain ⟨h',e,r1,r2,r3⟩:=wp_Put hcl (d:=d) om A (x_lt ht) (jdC ht) X.hx h2 hrs hsh h3 hring p1 X.lx p2 p3 p4 p5 p6 hB om hne
 have W:=a.wf.fill (k:=1) ht (.inr rfl) hring r3 r1 r2
 have W2:=WF.same W a.fds (jam ht) (Wi.fill_same (.inr rfl))
 rw [hS]
 exact ⟨h',e,⟨_,W2,jbg⟩,X.to (k:=0) (.inl rfl) hring r3⟩
theorem ww_Shut {d:Nat} {fd:Int} (hd:4<=d) (a:WSt h w s ow ws now tb no) (o:WsOk ws) :
  ∃ h',cl d (.fn 35) [.p w 0,.i fd] h=some (.i (jd5 ws fd).1,h')/\WSt h' w s ow (jd5 ws fd).2 now tb no/\To h h' ow ow:=by
 obtain ⟨l,a,rfl⟩:=a
 rcases jdu hcl (d:=d-1) (fd:=fd) om a o.uniq with ⟨hno,h1,e1,o1,x1⟩ | ⟨n,k,m,t,rfl,hm,hat,ht,hk,h1,e1,o1,x1⟩
 ·have hS:jd5 (wxs l) fd=(110,wxs l):=jaG hno
  rw [hS]
  suffices q : ∃ h',cl d (.fn 35) [.p w 0,.i fd] h=some (.i 110,h')/\Old h h' by
   obtain ⟨h',e,q⟩:=q
   exact ⟨h',e,⟨l,a.old q,rfl⟩,ZE q⟩
  refine jai (aT hcl ?_)
  refine qm ?_
  exact ⟨rfl,o1.new.set o1.1⟩
 have X:=a.wf.ok n t ht
 have hS:jd5 (wxs l) (m:Int)=_:=jaH o.uniq hat (jam ht)
 have hx1:h1.get t.wb=some (.cells (t.x.cells t.r0 t.r1 t.wv) false):=by rw [o1.2 _ X.lx];exact X.hx
 have lx:=X.lx
 cases hring:(t.x.e k).ring with
 | none=>
  rw [zG (.inl hring)] at hS;rw [hS]
  suffices q : ∃ h',cl d (.fn 35) [.p w 0,.i m] h=some (.i 111,h')/\Old h h' by
   obtain ⟨h',e,q⟩:=q
   exact ⟨h',e,⟨l,a.old q,rfl⟩,ZE q⟩
  have f1:(t.x.cells t.r0 t.r1 t.wv)[0+0+(k:Int).toNat*7+2]?=some (.ptr none):=by
   rcases hk with rfl | rfl
   ·have hring:t.x.e0.ring=none:=hring
    simp [Wi.cells,En.cells,hring,En.ptr]
   ·have hring:t.x.e1.ring=none:=hring
    simp [Wi.cells,En.cells,hring,En.ptr]
  refine jai (aT hcl ?_)
  refine qm ?_
  exact ⟨rfl,o1.new.set o1.1⟩
 | some q=>
  have f2:=Wi.ring_cell (x:=t.x) (r0:=t.r0) (r1:=t.r1) (wv:=t.wv) hk hring (o:=0+0+(k:Int).toNat*7+2) om
  have f1:=Wi.writes_cell (x:=t.x) (r0:=t.r0) (r1:=t.r1) (wv:=t.wv) hk (o:=0+0+(k:Int).toNat*7+3) om
  cases hwr:(t.x.e k).writes
  ·rw [zG (.inr hwr)] at hS;rw [hS]
   suffices q : ∃ h',cl d (.fn 35) [.p w 0,.i m] h=some (.i 111,h')/\Old h h' by
    obtain ⟨h',e,q⟩:=q
    exact ⟨h',e,⟨l,a.old q,rfl⟩,ZE q⟩
   rw [hwr] at f1
   refine jai (aT hcl ?_)
   refine qm ?_
   exact ⟨rfl,o1.new.set o1.1⟩
  ·rw [zF (by rintro (e | e);(rw [hring] at e;cases e);rw [hwr] at e;cases e)] at hS
   rw [hS]
   rw [hwr] at f1
   have o2:Old h ((h1.new (.cells [.bool false,.i 0,.i 0] false)).set h1.nx (.cells [.bool true,.i (n:Int),.i (k:Int)] false)):=o1.new.set o1.1
   have a2:=a.old o2
   have X2:=a2.wf.ok n t ht
   obtain ⟨h2,e2,u2⟩:=jni hcl (d:=d-1) om X2.hx hk
   have W:=a2.wf.upd ht u2 (Wi.shut_wait hk) (Wi.shut_cap hk) (Wi.shut_ring hk)
   have W2:=WF.same W a.fds (jam ht) (Wi.shut_same hk)
   suffices q : ∃ h',cl d (.fn 35) [.p w 0,.i m] h=some (.i 0,h')/\h'=h2 by
    obtain ⟨h',e,rfl⟩:=q
    exact ⟨h',e,⟨_,W2,jbg⟩,To.old o2 (X2.toU u2)⟩
   refine jai (aT hcl ?_)
   refine qm ?_
   exact ⟨rfl,rfl⟩
theorem jhc {d:Nat} {n:Int} (hd:4<=d) (a:WSt h w s ow ws now tb no) :
  ∃ h',cl d (.fn 74) [.p w 0,.i n] h=some (.i (ja6 ws n).1,h')/\WSt h' w s ow (ja6 ws n).2 now tb no/\To h h' ow ow:=by
 obtain ⟨l,a,rfl⟩:=a
 rcases jfp hcl (d:=d-1) (n:=n) om a.wf with ⟨hno,e1⟩ | ⟨m,t,rfl,ht,h2,e1⟩
 ·have hS:ja6 (wxs l) n=(116,wxs l):=jb5 hno
  rw [hS]
  suffices q : ∃ h',cl d (.fn 74) [.p w 0,.i n] h=some (.i 116,h')/\Old h h' by
   obtain ⟨h',e,q⟩:=q
   exact ⟨h',e,⟨l,a.old q,rfl⟩,ZE q⟩
  refine jai (aT hcl ?_)
  refine qm ?_
  exact ⟨rfl,ZD _⟩
 have X:=a.wf.ok m t ht
 have hS:ja6 (wxs l) (m:Int)=_:=jb6 (jam ht) h2
 rw [hS]
 obtain ⟨h3,e2,u2⟩:=jni hcl (d:=d-1) (k:=1) om X.hx (.inr rfl)
 have W:=a.wf.upd ht u2 (Wi.shut_wait (.inr rfl)) (Wi.shut_cap (.inr rfl)) (Wi.shut_ring (.inr rfl))
 have W2:=WF.same W a.fds (jam ht) (Wi.shut_same (.inr rfl))
 suffices q : ∃ h',cl d (.fn 74) [.p w 0,.i m] h=some (.i 0,h')/\h'=h3 by
  obtain ⟨h',e,rfl⟩:=q
  exact ⟨h',e,⟨_,W2,jbg⟩,X.toU u2⟩
 refine jai (aT hcl ?_)
 refine qm ?_
 exact ⟨rfl,rfl⟩
end
theorem Wi.close_same {x:Wi} {k:Nat} (hk:k=0\/k=1) (h:(x.e k).what≠1):x.SameFd (x.close k):=by
 rintro i (rfl | rfl)<;>rcases hk with rfl | rfl
 ·exact ⟨⟨fun e=>zM e (by show (3:Int)≠1;omega),fun e=>zM e h⟩,fun _=>rfl⟩
 ·exact ⟨Iff.rfl,fun _=>rfl⟩
 ·exact ⟨Iff.rfl,fun _=>rfl⟩
 ·exact ⟨⟨fun e=>zM e (by show (3:Int)≠1;omega),fun e=>zM e h⟩,fun _=>rfl⟩
theorem AtW_close {ws:Ws} {n k:Nat} {x:Wi} (hx:ws[n]?=some x) (hk:k=0\/k=1) (m i:Nat) (fd:Int):AtW (ws.set n (x.close k)) m i fd↔AtW ws m i fd /\ ¬ (m=n/\i=k):=by
 unfold AtW
 rw [zi]
 by_cases e:n=m
 ·subst e
  have hlt:n<ws.length:=by
   rcases zA n ws.length with h | h
   ·exact h
   ·rw [zc h] at hx;cases hx
  rw [zG rfl,zG hlt,hx]
  constructor
  ·rintro ⟨_,e0,hi,h1,h2⟩
   cases e0
   by_cases hik:i=k
   ·subst hik;rw [Wi.close_what hk] at h1;cases h1
   ·obtain rfl:=jf8 hi hk hik
    rw [(Wi.close_other hk).1] at h1
    rw [(Wi.close_other hk).2] at h2
    exact ⟨⟨x,rfl,hi,h1,h2⟩,fun e=>hik e.2⟩
  ·rintro ⟨⟨_,e0,hi,h1,h2⟩,hn⟩
   cases e0
   have hik:i≠k:=fun e=>hn ⟨rfl,e⟩
   obtain rfl:=jf8 hi hk hik
   exact ⟨_,rfl,hi,by rw [(Wi.close_other hk).1,h1],by rw [(Wi.close_other hk).2,h2]⟩
 ·rw [zF e]
  exact ⟨fun h=>⟨h,fun e2=>e e2.1.symm⟩,fun h=>h.1⟩
section
variable {h h':H} {w s:Nat} {ow:Nat->Nat} {f:Nat->Option (Nat × Nat)} {l:List WX} {now:Int} {tb:Tb} {no:Option (Nat × Nat)} {n k m:Nat} {t:WX} {q b:List UInt8}
theorem WF.place (a:WF h w s ow f l now tb no) {i o:Nat} {p:Option (Nat × Nat)} {wl:List V} (hi:i<96) (ho:o=i*3) (hl:h.get w=some (.cells wl false)):WF (h.set w (.cells (jat wl o (plc p)) false)) w s ow (fun j=>if j=i then p else f j) l now tb no:=by
 obtain ⟨wv,p1,p2,p3⟩:=a.hw
 rw [hl] at p1;cases p1
 have hne : ∀ j,ow j≠1->j≠w:=fun j hj e=>hj (by rw [e,a.tw])
 refine ⟨⟨wv,?_,p2.keep (zr _) fun z hz=>jaa (hne z (by rw [p3 z hz];omega)),p3⟩,?_,a.tw,a.ts,a.lw,a.ls,a.top,fun m t ht=>(a.ok m t ht).keep (zr _) fun j h1 _=>jaa (hne j om)⟩
 ·rw [jab,jfq (g:=fun j=>if j=i then p else f j) hi ho fun j _=>rfl]
 ·rw [jaa (hne s (by rw [a.ts];omega)),a.hs]
theorem WF.clear (a:WF h w s ow f l now tb no) (ht:l[n]?=some t) (hk:k=0\/k=1) (hq:(t.x.e k).ring=some q) (ch:Ch (fun j=>j=t.r k) h h') (hR:ja5 h' (t.r k) (t.b k) b t.x.cap) :
  WF h' w s ow f (l.set n { t with x:=t.x.setq k b }) now tb no:=by
 have X:=a.ok n t ht
 have hox:=X.ox
 obtain ⟨_,o1,_⟩:=X.ring k hk q hq
 refine a.step ht ch (fun j _ hb=>?_) ?_ ?_ fun i hi q' hq'=>?_
 ·have hb:j=t.r k:=hb
  subst hb;omega
 ·have hne:t.wb≠t.r k:=fun e=>by rw [e] at hox;omega
  rw [ch.get _ X.lx hne,X.hx]
  unfold Wi.obj
  rw [Wi.setq_cells hk hq]
 ·rcases hk with rfl | rfl<;>rfl
 ·have hc:(t.x.setq k b).cap=t.x.cap:=by rcases hk with rfl | rfl<;>rfl
  rw [hc]
  by_cases hik:i=k
  ·subst hik
   have e:((t.x.setq i b).e i).ring=some b:=by rcases hi with rfl | rfl<;>rfl
   rw [e] at hq';cases hq'
   exact ⟨q,hq,hR⟩
  ·obtain rfl:=jf8 hi hk hik
   have e:((t.x.setq k b).e (1-k)).ring=(t.x.e (1-k)).ring:=by rcases hk with rfl | rfl<;>rfl
   rw [e] at hq'
   obtain ⟨p1,p2,p3,p4,p5⟩:=X.ring _ hi q' hq'
   refine ⟨q',hq',p1.keep (ch.get _ p4 fun e=>?_) (ch.get _ p5 fun e=>?_)⟩
   ·rw [e] at p2;omega
   ·rw [e] at p3;omega
end
section
variable {cl:Nat->Call} (hcl:Sem cl)
include hcl
theorem jlG {d r bb cap:Nat} {h0:H} {q:List UInt8} (hd:8<=d) (R:ja5 h0 r bb q cap) (hr:r<h0.nx) (hbb:bb<h0.nx) (hrb:r≠bb) :
  ∃ h',cl d (.fn 118) [.p r 0] h0=some (.i q.length,h')/\ja5 h' r bb [] cap/\Ch (fun j=>j=r) h0 h':=by
 obtain ⟨v,h',e1,row,_,R',ch⟩:=jn6 hcl (d:=d-1) (n:=(q.length:Int)) om R hr hbb hrb
 have em:(min (q.length:Int) (q.length:Int)).toNat=q.length:=by omega
 rw [em] at row R'
 rw [List.drop_length] at R'
 obtain ⟨buf,frm,inn,out,C,V⟩:=R
 have hlen:=jlF hcl (d:=d-1) om C
 obtain ⟨c,⟨a,rfl⟩,_⟩:=row.shape
 refine jai (aT hcl ?_)
 refine Ga ?_
 exact ⟨rfl,R',ch⟩
variable {h:H} {w s:Nat} {ow:Nat->Nat} {f:Nat->Option (Nat × Nat)} {ws:Ws} {now:Int} {tb:Tb} {no:Option (Nat × Nat)}
theorem jg2 {d:Nat} {n:Int} (hd:4<=d) (a:WSt h w s ow ws now tb no) :
  ∃ h',cl d (.fn 76) [.p w 0,.i n] h=some (.i (ja1 ws n).1,h')/\WSt h' w s ow (ja1 ws n).2 now tb no/\To h h' ow ow:=by
 obtain ⟨l,a,rfl⟩:=a
 rcases jfp hcl (d:=d-1) (n:=n) om a.wf with ⟨hno,e1⟩ | ⟨m,t,rfl,ht,h2,e1⟩
 ·have hS:ja1 (wxs l) n=(116,wxs l):=jb5 hno
  rw [hS]
  suffices q : ∃ h',cl d (.fn 76) [.p w 0,.i n] h=some (.i 116,h')/\Old h h' by
   obtain ⟨h',e,q⟩:=q
   exact ⟨h',e,⟨l,a.old q,rfl⟩,ZE q⟩
  refine jai (aT hcl ?_)
  refine qm ?_
  exact ⟨rfl,ZD _⟩
 have X:=a.wf.ok m t ht
 have hS:ja1 (wxs l) (m:Int)=_:=jb6 (jam ht) h2
 rw [hS]
 obtain ⟨h3,e2,u2⟩:=ji9 hcl (d:=d-1) (k:=1) om X.hx (.inr rfl)
 have W:=a.wf.upd ht u2 (Wi.close_waiting (.inr rfl)) (Wi.close_cap (.inr rfl)) (fun k hk=>Wi.close_ring (.inr rfl) hk)
 have W2:=WF.same W a.fds (jam ht) (Wi.close_same (.inr rfl) (by show t.x.e1.what≠1;omega))
 suffices q : ∃ h',cl d (.fn 76) [.p w 0,.i m] h=some (.i 0,h')/\h'=h3 by
  obtain ⟨h',e,rfl⟩:=q
  exact ⟨h',e,⟨_,W2,jbg⟩,X.toU u2⟩
 refine jai (aT hcl ?_)
 refine qm ?_
 exact ⟨rfl,rfl⟩
theorem jj4 {d n k:Nat} {l:List WX} {t:WX} {q:List UInt8} (hd:9<=d) (a:WF h w s ow f l now tb no) (ht:l[n]?=some t) (hk:k=0\/k=1) (hq:(t.x.e k).ring=some q) :
  ∃ h1 h2,cl (d-1) (.fn 118) [.p (t.r k) 0] h=some (.i q.length,h1)/\cl (d-1) (.fn 113) [.p t.wb 0,.i (k:Int),.bool true,.bool true] h1=some (.tup [],h2) /\
   WF h2 w s ow f (l.set n { t with x:=(t.x.setq k []).came k true true }) now tb no/\To h h2 ow ow/\h2.nx=h1.nx:=by
 have X:=a.ok n t ht
 obtain ⟨p1,p2,p3,p4,p5,p6⟩:=X.apart hk hq
 obtain ⟨h1,e1,R1,c1⟩:=jlG hcl (d:=d-1) om p1 p2 p3 p4
 have W1:=a.clear ht hk hq c1 R1
 have ht1:(l.set n { t with x:=t.x.setq k [] })[n]?=some { t with x:=t.x.setq k [] } := by rw [zi,zG rfl,zG (x_lt ht)]
 have X1:=W1.ok n _ ht1
 obtain ⟨h2,e2,u2⟩:=jfS hcl (d:=d-1) (k:=k) om X1.hx hk true true
 have W2:=W1.upd ht1 u2 (by rcases hk with rfl | rfl<;>rfl) (by rcases hk with rfl | rfl<;>rfl) (fun i hi=>by rcases hk with rfl | rfl<;>rcases hi with rfl | rfl<;>rfl)
 rw [List.set_set] at W2
 refine ⟨h1,h2,e1,e2,W2,?_,u2.nx⟩
 refine To.trans ⟨c1.weaken fun j hj hb=>?_,fun _ _=>rfl⟩ (X1.toU u2)
 obtain ⟨_,o2,_⟩:=X.ring k hk q hq
 have hb:j=t.r k:=hb
 subst hb;omega
theorem jly {d:Nat} {n:Int} (hd:10<=d) (a:WSt h w s ow ws now tb no) (o:WsOk ws) :
  ∃ h',cl d (.fn 78) [.p w 0,.i n] h=some (.i (jbL ws n).1,h')/\WSt h' w s ow (jbL ws n).2 now tb no/\To h h' ow ow:=by
 obtain ⟨l,a,rfl⟩:=a
 rcases jfp hcl (d:=d-1) (n:=n) om a.wf with ⟨hno,e1⟩ | ⟨m,t,rfl,ht,h2,e1⟩
 ·have hS:jbL (wxs l) n=(116,wxs l):=jb5 hno
  rw [hS]
  suffices q : ∃ h',cl d (.fn 78) [.p w 0,.i n] h=some (.i 116,h')/\Old h h' by
   obtain ⟨h',e,q⟩:=q
   exact ⟨h',e,⟨l,a.old q,rfl⟩,ZE q⟩
  refine jai (aT hcl ?_)
  refine qm ?_
  exact ⟨rfl,ZD _⟩
 have X:=a.wf.ok m t ht
 have hx:=X.hx
 have lx:=X.lx
 unfold Wi.obj at hx
 have hS:jbL (wxs l) (m:Int)=_:=jb6 (jam ht) h2
 have f2:=ZB (x:=t.x) (r0:=t.r0) (r1:=t.r1) (wv:=t.wv) (o:=0+14) rfl
 cases hrs:t.x.reset
 case true=>
  have e3:t.x.doReset=t.x:=by unfold Wi.doReset;rw [zG hrs]
  rw [e3,jiL (jam ht)] at hS
  rw [hS]
  suffices q : ∃ h',cl d (.fn 78) [.p w 0,.i m] h=some (.i 0,h')/\Old h h' by
   obtain ⟨h',e,q⟩:=q
   exact ⟨h',e,⟨l,a.old q,rfl⟩,ZE q⟩
  rw [hrs] at f2
  refine jai (aT hcl ?_)
  refine qm ?_
  exact ⟨rfl,ZD _⟩
 rw [hrs] at f2
 rw [hS]
 obtain ⟨q0,hq0⟩:=zN.1 ((o.ok _ (zb (jam ht))).out h2).1
 obtain ⟨q1,hq1⟩:=zN.1 ((o.ok _ (zb (jam ht))).out h2).2
 have hlen:0+14<(t.x.cells t.r0 t.r1 t.wv).length:=by rw [Wi.cells_length];omega
 have u1:Upd t.wb (({ t.x with reset:=true } : Wi).obj t.r0 t.r1 t.wv) h (h.set t.wb (.cells ((t.x.cells t.r0 t.r1 t.wv).set (0+14) (.bool true)) false)):=ZA
 have W1:=a.wf.upd ht u1 rfl rfl (fun i hi=>by rcases hi with rfl | rfl<;>rfl)
 have T1:=X.toU u1
 generalize hg1:h.set t.wb (.cells ((t.x.cells t.r0 t.r1 t.wv).set (0+14) (.bool true)) false)=g1 at u1 W1 T1
 have ht1:(l.set m { t with x := { t.x with reset:=true } })[m]?=some { t with x := { t.x with reset:=true } } := by rw [zi,zG rfl,zG (x_lt ht)]
 obtain ⟨g2,g3,e2,e3,W3,T3,_⟩:=jj4 hcl (d:=d) (k:=0) om W1 ht1 (.inl rfl) hq0
 rw [List.set_set] at W3
 have ht3:(l.set m { t with x:=(Wi.setq { t.x with reset:=true } 0 []).came 0 true true })[m]?=some { t with x:=(Wi.setq { t.x with reset:=true } 0 []).came 0 true true } := by rw [zi,zG rfl,zG (x_lt ht)]
 obtain ⟨g4,g5,e4,e5,W5,T5,_⟩:=jj4 hcl (d:=d) (k:=1) om W3 ht3 (.inr rfl) hq1
 rw [List.set_set] at W5
 have hX1:=(W1.ok m _ ht1).hx
 have hX3:=(W3.ok m _ ht3).hx
 have c1:((({ t.x with reset:=true } : Wi)).cells t.r0 t.r1 t.wv)[0+0+(0:Int).toNat*7+2]?=some (.p t.r0 0):=Wi.ring_cell (r0:=t.r0) (r1:=t.r1) (wv:=t.wv) (k:=0) (.inl rfl) hq0 rfl
 have c3:(((Wi.setq { t.x with reset:=true } 0 []).came 0 true true).cells t.r0 t.r1 t.wv)[0+0+(1:Int).toNat*7+2]?=some (.p t.r1 0):=Wi.ring_cell (r0:=t.r0) (r1:=t.r1) (wv:=t.wv) (k:=1) (.inr rfl) hq1 rfl
 have hend:Wi.came (Wi.setq ((Wi.setq { t.x with reset:=true } 0 []).came 0 true true) 1 []) 1 true true=t.x.doReset:=by
  unfold Wi.doReset;rw [zF (by rw [hrs];simp)]
 rw [hend] at W5
 have W6:=WF.same W5 a.fds (jam ht) (by
  rw [<- hend]
  rintro i (rfl | rfl)<;>exact ⟨Iff.rfl,fun _=>rfl⟩)
 suffices q : ∃ h',cl d (.fn 78) [.p w 0,.i m] h=some (.i 0,h')/\h'=g5 by
  obtain ⟨h',e,rfl⟩:=q
  exact ⟨h',e,⟨_,W6,jbg⟩,T1.trans (T3.trans T5)⟩
 clear W1 W3 W5 W6 T1 T3 T5 hS hend u1 o a X
 have e2:cl (d-1) (.fn 118) [.p t.r0 0] g1=_:=e2
 have e4:cl (d-1) (.fn 118) [.p t.r1 0] g3=_:=e4
 have hX1:g1.get t.wb=some (.cells (({ t.x with reset:=true } : Wi).cells t.r0 t.r1 t.wv) false):=hX1
 have hX3:g3.get t.wb=some (.cells (((Wi.setq { t.x with reset:=true } 0 []).came 0 true true).cells t.r0 t.r1 t.wv) false):=hX3
 refine jai (aT hcl ?_)
 refine Ga ?_
 refine zcs rfl rfl rfl hx hlen ?_
 rw [hg1]
 refine Ga ?_
 refine Run.unroll (n:=99999) rfl ?_
 refine Ga ?_
 refine ZC (n:=99998) ?_
 refine Ga ?_
 refine ZC (n:=99997) ?_
 refine Ga ?_
 exact ⟨rfl,rfl⟩
end
theorem jeG {ws ws':Ws} {fd:Int} (h : ∀ n k,AtW ws' n k fd↔AtW ws n k fd):atS ws' fd=atS ws fd:=by
 have e:(fun p:Nat × Nat=>AtW ws' p.1 p.2 fd)=fun p=>AtW ws p.1 p.2 fd:=by funext p;exact propext (h p.1 p.2)
 have e2:(∃ p:Nat × Nat,AtW ws' p.1 p.2 fd) = ∃ p:Nat × Nat,AtW ws p.1 p.2 fd:=congrArg Exists e
 unfold atS
 by_cases hx : ∃ p:Nat × Nat,AtW ws p.1 p.2 fd
 ·have hx' : ∃ p:Nat × Nat,AtW ws' p.1 p.2 fd:=e2 ▸ hx
  rw [dif_pos hx,dif_pos hx']
  congr 2
 ·have hx' : ¬ ∃ p:Nat × Nat,AtW ws' p.1 p.2 fd:=e2 ▸ hx
  rw [dif_neg hx,dif_neg hx']
section
variable {h h':H} {w s:Nat} {ow:Nat->Nat} {f:Nat->Option (Nat × Nat)} {l:List WX} {now:Int} {tb:Tb} {no:Option (Nat × Nat)} {n k m:Nat} {t:WX}
def WX.noWait (t:WX):WX := { t with x := { t.x with waiting:=[] },wv := .nils }
theorem WF.noWait (a:WF h w s ow f l now tb no) (ht:l[n]?=some t):WF (h.set t.wb (t.noWait.x.obj t.r0 t.r1 .nils)) w s ow f (l.set n t.noWait) now tb no:=by
 have X:=a.ok n t ht
 have o0:=X.ox
 have hne : ∀ j,ow j≠10*n+10->j≠t.wb:=fun j hj e=>hj (by rw [e,o0])
 refine a.turn ht (zr _) (fun j _ hn=>jaa (hne j fun e=>hn om)) ⟨jab _,X.ox,X.lx,fun i hi q hq=>?_,VI.nil _,fun e=>zM rfl e⟩ rfl
 obtain ⟨p1,p2,p3,p4,p5⟩:=X.ring i hi q hq
 exact ⟨p1.keep (jaa (hne _ om)) (jaa (hne _ om)),p2,p3,p4,p5⟩
end
section
variable {cl:Nat->Call} (hcl:Sem cl) {h:H} {w s:Nat} {ow:Nat->Nat} {ws:Ws} {now:Int} {tb:Tb} {no:Option (Nat × Nat)}
include hcl
theorem ww_Close {d:Nat} {fd:Int} (hd:4<=d) (a:WSt h w s ow ws now tb no) (o:WsOk ws) :
  ∃ h',cl d (.fn 37) [.p w 0,.i fd] h=some (.i (jca ws fd).1,h')/\WSt h' w s ow (jca ws fd).2 now tb no/\To h h' ow ow:=by
 obtain ⟨l,a,rfl⟩:=a
 rcases jdu hcl (d:=d-1) (fd:=fd) om a o.uniq with ⟨hno,h1,e1,o1,x1⟩ | ⟨n,k,m,t,rfl,hm,hat,ht,hk,h1,e1,o1,x1⟩
 ·have hS:jca (wxs l) fd=(110,wxs l):=jaG hno
  rw [hS]
  suffices q : ∃ h',cl d (.fn 37) [.p w 0,.i fd] h=some (.i 110,h')/\Old h h' by
   obtain ⟨h',e,q⟩:=q
   exact ⟨h',e,⟨l,a.old q,rfl⟩,ZE q⟩
  refine jai (aT hcl ?_)
  refine qm ?_
  exact ⟨rfl,o1.new.set o1.1⟩
 have hS:jca (wxs l) (m:Int)=_:=jaH o.uniq hat (jam ht)
 rw [hS]
 suffices q : ∃ h',cl d (.fn 37) [.p w 0,.i m] h=some (.i 0,h')/\WSt h' w s ow (noWait (jaA ((wxs l).set n (t.x.close k)) t.x.waiting) n) now tb no/\To h h' ow ow by exact q
 clear hS
 obtain ⟨wl,ww⟩:=o.wait _ (zb (jam ht))
 have u:=o.uniq
 clear o
 have o2:Old h ((h1.new (.cells [.bool false,.i 0,.i 0] false)).set h1.nx (.cells [.bool true,.i (n:Int),.i (k:Int)] false)):=o1.new.set o1.1
 have a2:=a.old o2
 have hp2:((h1.new (.cells [.bool false,.i 0,.i 0] false)).set h1.nx (.cells [.bool true,.i (n:Int),.i (k:Int)] false)).get h1.nx=some (.cells [.bool true,.i (n:Int),.i (k:Int)] false):=jab _
 have hnx2:h1.nx<((h1.new (.cells [.bool false,.i 0,.i 0] false)).set h1.nx (.cells [.bool true,.i (n:Int),.i (k:Int)] false)).nx:=by simp
 generalize hh2:(h1.new (.cells [.bool false,.i 0,.i 0] false)).set h1.nx (.cells [.bool true,.i (n:Int),.i (k:Int)] false)=h2 at o2 a2 hp2 hnx2
 obtain ⟨sa,sc,hw2,_⟩:=a2.wf.head
 have W3:=a2.wf.place (i:=m) (o:=0+(m:Int).toNat*3) (p:=none) om om hw2
 have T3:To h2 (h2.set w (.cells (jat (wc (fun i=>atS (wxs l) (i:Int)) (.slice sa l.length sc) s now no) (0+(m:Int).toNat*3) (plc none)) false)) ow ow:=⟨Ch.set (by show ow w≠0;rw [a.wf.tw];omega),fun _ _=>rfl⟩
 have hp3:(h2.set w (.cells (jat (wc (fun i=>atS (wxs l) (i:Int)) (.slice sa l.length sc) s now no) (0+(m:Int).toNat*3) (plc none)) false)).get h1.nx=some (.cells [.bool true,.i (n:Int),.i (k:Int)] false):=by
  have:=a.wf.lw
  have:=o1.1
  rw [jaa om,hp2]
 have hlen3:0+(m:Int).toNat*3+3<=(wc (fun i=>atS (wxs l) (i:Int)) (.slice sa l.length sc) s now no).length:=by rw [jb3];omega
 generalize hh3:h2.set w (.cells (jat (wc (fun i=>atS (wxs l) (i:Int)) (.slice sa l.length sc) s now no) (0+(m:Int).toNat*3) (plc none)) false)=h3 at W3 T3 hp3
 have X3:=W3.ok n t ht
 obtain ⟨h4,e4,u4⟩:=ji9 hcl (d:=d-1) om X3.hx hk
 have W4:=W3.upd ht u4 (Wi.close_waiting hk) (Wi.close_cap hk) (fun i hi=>Wi.close_ring hk hi)
 have T4:To h h4 ow ow:=To.old o2 (T3.trans (X3.toU u4))
 have ht4:(l.set n { t with x:=t.x.close k })[n]?=some { t with x:=t.x.close k } := by rw [zi,zG rfl,zG (x_lt ht)]
 have hx4:h4.get t.wb=some (.cells ((t.x.close k).cells t.r0 t.r1 t.wv) false):=u4.self
 have hwt4:(t.x.close k).waiting=t.x.waiting:=Wi.close_waiting hk
 have hl4:wxs (l.set n { t with x:=t.x.close k })=(wxs l).set n (t.x.close k):=jbg
 rw [<- hl4]
 have hat4 : ∀ i j fd',AtW (wxs (l.set n { t with x:=t.x.close k })) i j fd'↔AtW (wxs l) i j fd' /\ ¬ (i=n/\j=k):=by
  rw [hl4];exact AtW_close (jam ht) hk
 have hlen4:(l.set n { t with x:=t.x.close k }).length=l.length:=by simp
 generalize hL:t.x.waiting=L at wl ww hwt4 ⊢
 have hy4 : ∀ j∈L,∃ y:Wi,0<=j/\(wxs (l.set n { t with x:=t.x.close k }))[j.toNat]?=some y/\y.e0.what≠1:=by
  intro j hj
  obtain ⟨y,y0,y1,y2⟩:=ww j hj
  rw [hl4,zi]
  by_cases e:n=j.toNat
  ·rw [zG e,zG (by rw [List.length_map];exact x_lt ht)]
   rw [<- e,jam ht] at y1
   cases y1
   refine ⟨_,y0,rfl,?_⟩
   have:(t.x.e 0).what=0:=y2
   rcases hk with rfl | rfl
   ·show (3:Int)≠1;omega
   ·show (((t.x.close 1).e (1-1)).what)≠1
    rw [(Wi.close_other (.inr rfl)).1];show (t.x.e 0).what≠1;omega
  ·rw [zF e]
   exact ⟨y,y0,y1,by omega⟩
 have fin : ∀ (g:H) (l':List WX),WF g w s ow (fun j=>if j=m then none else atS (wxs l) (j:Int)) l' now tb no->(∀ i j fd',AtW (wxs l') i j fd'↔AtW (wxs (l.set n { t with x:=t.x.close k })) i j fd')->WW g w s ow l' now tb no:=by
  intro g l' W hA
  refine ⟨W.congr fun j hj=>?_,fun i j fd' hf=>a.fds i j fd' ((hat4 _ _ _).1 ((hA _ _ _).1 hf)).1⟩
  by_cases e:j=m
  ·subst e
   rw [zG rfl]
   refine jfN fun i j' hf=>?_
   have h5:=(hat4 _ _ _).1 ((hA _ _ _).1 hf)
   exact h5.2 (u _ _ _ _ _ h5.1 hat)
  ·rw [zF e]
   refine jeG fun i j'=>?_
   rw [hA,hat4]
   refine ⟨fun h5=>h5.1,fun h5=>⟨h5,fun h6=>?_⟩⟩
   obtain ⟨rfl,rfl⟩:=h6
   obtain ⟨x1,q1,_,_,q2⟩:=h5
   obtain ⟨x2,q3,_,_,q4⟩:=hat
   rw [q1] at q3;cases q3
   rw [q2] at q4
   omega
 have hvi:=X3.wait.1
 rw [hL] at hvi
 obtain ⟨av,cp,hva,_⟩:=id hvi
 generalize l.set n { t with x:=t.x.close k } = l1 at W4 ht4 hlen4 hy4 fin ⊢
 generalize t.x.close k=y1 at ht4 hx4 hwt4
 rw [hva] at hx4
 clear hat4 hl4 ww hat u u4 W3 X3 T3 hL hvi a a2
 have q1:(y1.cells t.r0 t.r1 (.slice av L.length cp))[0+16]?=some (.slice av L.length cp):=by simp [Wi.cells,En.cells]
 refine jai (aT hcl ?_)
 refine qm ?_
 rw [show (h1.new (.cells [.bool false,.i 0,.i 0] false)).set h1.nx (.cells (jat [.bool false,.i 0,.i 0] 0 [.bool true,.i (n:Int),.i (k:Int)]) false)=h2 from hh2]
 refine zct rfl rfl rfl rfl hw2 hlen3 ?_
 rw [show jat (wc (fun i=>atS (wxs l) (i:Int)) (.slice sa l.length sc) s now no) (0+(m:Int).toNat*3) [.bool false,.i 0,.i 0]=jat (wc (fun i=>atS (wxs l) (i:Int)) (.slice sa l.length sc) s now no) (0+(m:Int).toNat*3) (plc none) from rfl,hh3]
 clear hw2 hlen3 hh3 hh2
 refine Ga ?_
 refine Zx (fun r e g=>∃ (i:Nat) (l2:List WX) (t2:WX),r=L.length-i/\i<=L.length/\e=[(0,.p w 0),(6,.p t.wb 0),(33,.slice av L.length cp),(34,.i L.length),(35,.i i)] /\
   WF g w s ow (fun j=>if j=m then none else atS (wxs l) (j:Int)) l2 now tb no/\l2[n]?=some t2/\t2.wv=t.wv/\t2.wb=t.wb/\t2.x.waiting=L/\jaA (wxs l2) (L.drop i)=jaA (wxs l1) L /\
   (∀ i j fd',AtW (wxs l2) i j fd'↔AtW (wxs l1) i j fd')/\(∀ j∈L,∃ y:Wi,0<=j/\(wxs l2)[j.toNat]?=some y/\y.e0.what≠1)/\To h g ow ow)
  (k:=L.length) Ze ⟨0,l1,_,rfl,by omega,rfl,W4,ht4,rfl,rfl,hwt4,rfl,fun _ _ _=>Iff.rfl,hy4,T4⟩ ?_
 clear W4 ht4 hy4 T4 q1 hx4 hwt4 e4 e1 hp3
 rintro _ _ g ⟨i,l2,t2,rfl,hi,rfl,W,ht2,hwv,hwb,hwt,hall,hA,hy,T⟩ fu ih
 have X:=W.ok n t2 ht2
 have hvi:=X.wait.1
 rw [hwt,hwv,hva] at hvi
 by_cases hlt:i<L.length
 ·have hLi:=za hlt
  have hdrop:L.drop i=L[i] :: L.drop (i+1):=List.drop_eq_getElem_cons hlt
  obtain ⟨y,y0,y1',y2⟩:=hy L[i] (List.getElem_mem hlt)
  obtain ⟨j,hj⟩:=zC y0
  rw [hj] at hLi hdrop y1'
  rw [zz] at y1'
  obtain ⟨b,of,cs,ro,rfl,hcs,hci⟩:=hvi.cell hLi
  obtain ⟨t3,ht3,rfl⟩:=jjg y1'
  have X3:=W.ok j t3 ht3
  obtain ⟨g3,e3,u3⟩:=ji9 hcl (d:=d-1) (k:=0) om X3.hx (.inl rfl)
  have W3:=W.upd ht3 u3 (Wi.close_waiting (.inl rfl)) (Wi.close_cap (.inl rfl)) (fun i hi=>Wi.close_ring (.inl rfl) hi)
  have T3:=T.trans (X3.toU u3)
  have hs3:t3.x.SameFd (t3.x.close 0):=Wi.close_same (.inl rfl) y2
  obtain ⟨sa,sc,hw3,hz3⟩:=W.head
  obtain ⟨z3,rfl,_,_,hwp⟩:=hz3 (jdb ht3)
  have c1:(wc (fun j=>if j=m then none else atS (wxs l) (j:Int)) (.slice (some (z3,0)) l2.length sc) s now no)[0+288]?=some (.slice (some (z3,0)) l2.length sc):=jbe rfl
  have c2:(wps l2)[0+(j:Int).toNat*1]?=some (.p t3.wb 0):=by rw [show 0+(j:Int).toNat*1=j by omega];exact jdC ht3
  have hj2:=x_lt ht3
  have hi1:((i+1:Nat):Int)=(i:Int)+1:=by omega
  have e3:cl (d-1) (.fn 68) [.p t3.wb 0,.i 0] g=some (.tup [],g3):=e3
  have hnext : ∃ t4,(l2.set j { t3 with x:=t3.x.close 0 })[n]?=some t4/\t4.wv=t.wv/\t4.wb=t.wb/\t4.x.waiting=L:=by
   by_cases hjn:j=n
   ·subst hjn
    rw [ht2] at ht3;cases ht3
    exact ⟨{ t2 with x:=t2.x.close 0 },by rw [zi,zG rfl,zG (x_lt ht2)],hwv,hwb,hwt⟩
   ·exact ⟨t2,by rw [zi,zF hjn,ht2],hwv,hwb,hwt⟩
  obtain ⟨t4,ht4,hwv4,hwb4,hwt4⟩:=hnext
  have hstep:jaA (wxs (l2.set j { t3 with x:=t3.x.close 0 })) (L.drop (i+1))=jaA (wxs l1) L:=by
   rw [<- hall,hdrop]
   show _=jaA (jd0 (wxs l2) (j:Int)) _
   unfold jd0
   rw [zz,y1',jbg]
  have hA3 : ∀ i j' fd',AtW (wxs (l2.set j { t3 with x:=t3.x.close 0 })) i j' fd'↔AtW (wxs l1) i j' fd':=fun i j' fd'=>by
   rw [jbg,jj0 y1' hs3,hA]
  have hy3 : ∀ j'∈L,∃ y:Wi,0<=j'/\(wxs (l2.set j { t3 with x:=t3.x.close 0 }))[j'.toNat]?=some y/\y.e0.what≠1:=by
   intro j' hj'
   obtain ⟨y,z0,z1,z2⟩:=hy j' hj'
   rw [jbg,zi]
   by_cases e:j=j'.toNat
   ·rw [zG e,zG (by rw [List.length_map];exact hj2)]
    exact ⟨_,z0,rfl,by show (3:Int)≠1;omega⟩
   ·rw [zF e];exact ⟨y,z0,z1,z2⟩
  clear hall hdrop hA hy hvi T X X3 W u3 hs3 fin y0 y2
  refine Ga ?_
  exact ih (L.length-(i+1)) om _ _ ⟨i+1,_,t4,rfl,by omega,by rw [hi1],W3,ht4,hwv4,hwb4,hwt4,hstep,hA3,hy3,T3⟩
 ·obtain rfl:i=L.length:=by omega
  rw [List.drop_length] at hall
  have hall:wxs l2=jaA (wxs l1) L:=hall
  have W5:=W.noWait ht2
  have hx2:=X.hx
  unfold Wi.obj at hx2
  rw [hwb] at hx2 W5
  have hlen:0+16<(t2.x.cells t2.r0 t2.r1 t2.wv).length:=by rw [Wi.cells_length];omega
  have eo:Obj.cells ((t2.x.cells t2.r0 t2.r1 t2.wv).set (0+16) .nils) false=t2.noWait.x.obj t2.r0 t2.r1 .nils:=by rfl
  have hsame:t2.x.SameFd t2.noWait.x:=fun _ hk=>by rcases hk with rfl | rfl<;>exact ⟨Iff.rfl,fun _=>rfl⟩
  have F2:=fin _ _ W5 fun i j fd'=>by rw [jbg,jj0 (jam ht2) hsame,hA]
  have ox:=X.ox
  rw [hwb] at ox
  clear ih hy hA fin
  refine Ga ?_
  refine zcs rfl rfl rfl hx2 hlen ?_
  rw [eo]
  refine Ga ?_
  refine ⟨rfl,⟨_,F2,?_⟩,T.trans ⟨Ch.set (by show ow t.wb≠0;omega),fun _ _=>rfl⟩⟩
  show _=noWait _ n
  unfold noWait
  rw [<- hall,jam ht2,jbg];rfl
end
end Am.Sigs
