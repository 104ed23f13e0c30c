/- Our own library, part 18. -/
import Derived.Test.YtjpkpdlpolnehaaGreatDoorV17
import Derived.Test.YtjpkpdlpolnehaaGreatDoorV16
import Derived.Test.YtjpkpdlpolnehaaGreatDoorV15
import Derived.Test.YtjpkpdlpolnehaaGreatDoorV11
set_option maxHeartbeats 8000000
set_option maxRecDepth 800
set_option linter.all false
namespace Am.Sigs
open Am Go
theorem jk1 {ws:Ws} {kind n:Int} (hk : ¬ kind<2):((jaZ ws kind n).1.2=0/\(∃ a,(jaZ ws kind n).1.1=[a])/\(jaZ ws kind n).2.length=ws.length+1)\/((jaZ ws kind n).1.2≠0/\(jaZ ws kind n).1.1=[]):=by
 unfold jaZ
 split
 ·exact .inr ⟨by show (2:Int)≠0;omega,rfl⟩
 split
 ·exact .inr ⟨by show (112:Int)≠0;omega,rfl⟩
 next f0 fs hF=>
 split
 ·exact .inr ⟨by show (112:Int)≠0;omega,rfl⟩
 ·exact .inl ⟨rfl,⟨f0,rfl⟩,by simp⟩
theorem WSt.len {h:H} {w s:Nat} {ow:Nat->Nat} {ws:Ws} {now:Int} {tb:Tb} {no:Option (Nat × Nat)} (a:WSt h w s ow ws now tb no) : ∃ f av cp,h.get w=some (.cells (wc f (.slice av ws.length cp) s now no) false):=by
 obtain ⟨l,a,rfl⟩:=a
 obtain ⟨av,cp,hw,_⟩:=a.wf.head
 exact ⟨fun i=>atS (wxs l) (i:Int),av,cp,by rw [hw,List.length_map]⟩
section
variable {cl:Nat->Call} (hcl:Sem cl) {h:H} {w s:Nat} {ow:Nat->Nat} {ws:Ws} {now:Int} {tb:Tb} {no:Option (Nat × Nat)}
include hcl
theorem xp_both_x {d:Nat} {n:Int} (hd:2<=d) :
  ∃ h1 q0 q1 r0 r1 c,cl d (.fn 19) [.i n] h=some (.p h.nx 0,h1)/\Old h h1/\h.nx<h1.nx/\h1.get h.nx=some ((⟨⟨0,0,q0,true,false,0,0⟩,⟨0,0,q1,true,false,0,0⟩,c,false,0,[]⟩:Wi).obj r0 r1 .nils) /\
   (1<=n->n<=65536->h1.nx=h.nx+5/\q0=some []/\q1=some []/\r0=h.nx+2/\r1=h.nx+4/\c=n.toNat /\ ∀ k,k=0\/k=1->jaw h1 (two (h.nx+2) (h.nx+4) k) (two (h.nx+1) (h.nx+3) k) [] n.toNat):=by
 by_cases hn:n<0\/65536<n
 ·obtain ⟨h1,e,x1,o1,g0⟩:=ji9 hcl (h:=h) hd hn
  exact ⟨h1,_,_,_,_,_,e,o1,by omega,g0,fun _ _=>by omega⟩
 ·obtain ⟨m,rfl⟩:=zw (show 0<=n by omega)
  obtain ⟨h1,e,x1,o1,g0,g2,g1,g4,g3⟩:=jkH hcl (h:=h) (n:=m) hd om
  refine ⟨h1,_,_,_,_,_,e,o1,by omega,g0,fun p1 p2=>⟨x1,rfl,rfl,rfl,rfl,rfl,fun k hk=>?_⟩⟩
  rcases hk with rfl | rfl
  ·exact jdd om om g2 g1
  ·exact jdd om om g4 g3
theorem ww_Outer {d:Nat} {n:Int} (hd:7<=d) (K:WsK ws) (a:WSt h w s ow ws now tb no) :
  ∃ x y h' ow',cl d (.fn 8) [.p w 0,.i n] h=some (.tup [.i x,.i y,.i (jaZ ws 2 n).1.2],h')/\((jaZ ws 2 n).1.2=0->(jaZ ws 2 n).1.1=[x]/\y=ws.length)/\((jaZ ws 2 n).1.2≠0->x=0/\y=0)/\WSt h' w s ow' (jaZ ws 2 n).2 now tb no/\To h h' ow ow':=by
 obtain ⟨l,a,rfl⟩:=a
 obtain ⟨h1,q0,q1,r0,r1,c,e1,o1,x1,g0,good⟩:=xp_both_x hcl (h:=h) (d:=d-1) (n:=n) om
 simp only [Wi.obj,Wi.cells,En.cells,zS,zU] at g0
 have key : ∀ G:H,G=h1.set h.nx (.cells [.i 0,.i 0,En.ptr q0 r0,.bool true,.bool false,.int .u64 0,.int .u64 0,.i 2,.i 0,En.ptr q1 r1,.bool true,.bool false,.int .u64 0,.int .u64 0,.bool false,.i 0,.nils] false) ->
   ∃ v h' ow',cl (d-1) (.fn 20) [.p w 0,.i n,.i 1,.p h.nx 0] G=some (.tup [v,.i (jaZ (wxs l) 2 n).1.2],h')/\VI h' v (jaZ (wxs l) 2 n).1.1/\WSt h' w s ow' (jaZ (wxs l) 2 n).2 now tb no/\To h h' ow ow':=by
  intro G hG
  have oG:Old h G:=by rw [hG];exact o1.set (zp _)
  refine xp_mk1 hcl (d:=d-1) (kind:=2) (n:=n) (m:=5) (r0:=h.nx+2) (r1:=h.nx+4) (x:=⟨⟨0,0,some [],true,false,0,0⟩,⟨2,0,some [],true,false,0,0⟩,n.toNat,false,0,[]⟩) om (.inl rfl) (fun e=>by omega) K a oG fun n1 n2=>?_
  obtain ⟨y1,rfl,rfl,rfl,rfl,rfl,R⟩:=good n1 n2
  refine ⟨.inr rfl,fun _=>⟨rfl,rfl⟩,by rw [hG];exact Nat.le_of_eq y1.symm,by rw [hG];exact jab _,rfl,fun _=>rfl,fun _=>⟨rfl,fun k hk=>?_⟩⟩
  refine (R k hk).keep ?_ ?_<;>(rw [hG,jaa]<;>(rcases hk with rfl | rfl<;>simp only [two]<;>omega))
 suffices q : ∃ v h',cl d (.fn 8) [.p w 0,.i n] h=some (v,h') /\ ∃ x y ow',v = .tup [.i x,.i y,.i (jaZ (wxs l) 2 n).1.2]/\((jaZ (wxs l) 2 n).1.2=0->(jaZ (wxs l) 2 n).1.1=[x]/\y=(wxs l).length)/\((jaZ (wxs l) 2 n).1.2≠0->x=0/\y=0)/\WSt h' w s ow' (jaZ (wxs l) 2 n).2 now tb no/\To h h' ow ow' by
  obtain ⟨_,h',e,x,y,ow',rfl,q⟩:=q;exact ⟨x,y,h',ow',e,q⟩
 clear good
 refine aT hcl ?_
 refine Ga ?_
 refine Ops.opqh fun G hG=>?_
 obtain ⟨v,h',ow',e2,p1,W,T⟩:=key G hG
 clear hG key
 rcases jk1 (ws:=wxs l) (n:=n) (kind:=2) om with ⟨m1,⟨x,m2⟩,m3⟩ | ⟨m1,m2⟩
 ·rw [m2] at p1
  obtain ⟨af,cf,rfl,_⟩:=id p1
  obtain ⟨b,of,cs,ro,rfl,hcs,hc0⟩:=VI.cell (l:=[x]) p1 (i:=0) (x:=x) rfl
  have hc0:cs[of+(0:Int).toNat*1]?=some (.i x):=hc0
  obtain ⟨f2,av2,cp2,hw2⟩:=W.len
  rw [m3,List.length_map] at hw2
  have c1:(wc f2 (.slice av2 (l.length+1) cp2) s now no)[0+288]?=some (.slice av2 (l.length+1) cp2):=jaO rfl
  have em:((l.length+1:Nat):Int)-1=(l.length:Int):=by omega
  have ol:=K.ok.len
  rw [List.length_map] at ol
  generalize jaZ (wxs l) 2 n=M at m1 m2 e2 W ⊢
  obtain ⟨⟨M1,M2⟩,M3⟩:=M
  simp only at m1 m2 e2 W ⊢
  subst m1 m2
  refine qx ?_
  exact ⟨x,l.length,ow',by rw [em],fun _=>⟨rfl,by simp⟩,fun h=>zI rfl h,W,T⟩
 ·rw [m2] at p1
  generalize jaZ (wxs l) 2 n=M at m1 m2 e2 W ⊢
  obtain ⟨⟨M1,M2⟩,M3⟩:=M
  simp only at m1 m2 e2 W ⊢
  refine qx ?_
  exact ⟨0,0,ow',rfl,fun h=>zI h m1,fun _=>⟨rfl,rfl⟩,W,T⟩
end
section
variable {h:H} {w s:Nat} {ow:Nat->Nat} {f:Nat->Option (Nat × Nat)} {l:List WX} {now:Int} {tb:Tb} {no:Option (Nat × Nat)} {n m:Nat} {t:WX}
def WX.setw (t:WX) (v:V) (wt:List Int):WX := { t with x := { t.x with waiting:=wt },wv:=v }
theorem WF.setWait (a:WF h w s ow f l now tb no) (ht:l[n]?=some t) {v:V} {wt:List Int} (hv:VI h v wt) (hz:wt≠[] -> ∀ z,v.at?=some z->ow z=10*n+15/\z<h.nx):WF (h.set t.wb ((t.setw v wt).x.obj t.r0 t.r1 v)) w s ow f (l.set n (t.setw v wt)) now tb no:=by
 have X:=a.ok n t ht
 have o0:=X.ox
 have hne : ∀ j,ow j≠10*n+10->j≠t.wb:=fun j hj e=>hj (by rw [e,o0])
 refine a.turn ht (zp _) (fun j _ hn=>jaa (hne j fun e=>hn om)) ⟨jab _,X.ox,X.lx,fun i hi q hq=>?_,hv.keep2 (zp _) fun hl z e=>jaa (hne z (by have:=(hz hl z e).1;omega)),hz⟩ rfl
 have hq:(t.x.e i).ring=some q:=by rcases hi with rfl | rfl<;>exact hq
 obtain ⟨p1,p2,p3,p4,p5⟩:=X.ring i hi q hq
 exact ⟨p1.keep (jaa (hne _ om)) (jaa (hne _ om)),p2,p3,p4,p5⟩
theorem WF.seat (a:WF h w s ow f l now tb no) (ht:l[m]?=some t) {i:Nat} : WF (h.set t.wb ((t.x.name 0 i).obj t.r0 t.r1 t.wv)) w s ow f (l.set m { t with x:=t.x.name 0 i }) now tb no :=
 a.upd ht Upd.set rfl rfl fun k hk=>by rcases hk with rfl | rfl<;>rfl
end
theorem Wi.cells_wait {x:Wi} {r0 r1:Nat} {v v':V} {wt:List Int} : (x.cells r0 r1 v).set 16 v'=({ x with waiting:=wt } : Wi).cells r0 r1 v':=by
 obtain ⟨⟨a0,b0,c0,d0,e0,f0,g0⟩,⟨a1,b1,c1',d1,e1,f1,g1⟩,cap,rs,bl,wt⟩:=x
 rfl
section
variable {cl:Nat->Call} (hcl:Sem cl) {h:H} {w s:Nat} {ow:Nat->Nat} {ws:Ws} {now:Int} {tb:Tb} {no:Option (Nat × Nat)}
include hcl
end
def RowZ (N:Nat) (h:H) (v:V) (l:List Int):Prop:=Row N h 1 v l.length (ints l)\/(l=[] /\ ∃ b,v = .slice (some (b,0)) 0 (.fix 0)/\N<=b/\b<h.nx)
theorem RowZ.at_ge {N:Nat} {h:H} {v:V} {l:List Int} (r:RowZ N h v l) {q:Nat} (hq:v.at?=some q):N<=q/\q<h.nx:=by
 rcases r with r | ⟨_,b,rfl,h1,h2⟩
 ·exact r.at_ge hq
 ·cases hq;exact ⟨h1,h2⟩
theorem RowZ.keep {N:Nat} {h h':H} {v:V} {l:List Int} (r:RowZ N h v l) (hx:h.nx<=h'.nx) (hg : ∀ q,v.at?=some q->h'.get q=h.get q):RowZ N h' v l:=by
 rcases r with r | ⟨h0,b,rfl,h1,h2⟩
 ·exact .inl (r.keep hx hg)
 ·exact .inr ⟨h0,b,rfl,h1,by omega⟩
theorem jjn {h:H} {b:Nat} {v:V} {l:List Int} (hv:VI h v l) (hn:l.length<=1000000) (hb:b<h.nx) :
  ∃ v' h',jav h 1 8 (.slice (some (b,0)) 0 (.fix 0)) v=some (v',h')/\Old h h' /\ ∀ N,N<=b->RowZ N h' v' l:=by
 obtain ⟨a,cp,rfl,n,f,g⟩:=hv
 have hcond:(Nat.ble ((0+l.length)*8) (2 ^ 46)&&Nat.ble (0+l.length) (2 ^ 46))=true:=by simp only [zn,zO];omega
 by_cases hl:l=[]
 ·subst hl
  have hsrc:jam h 1 0 (.slice a 0 cp)=some []:=by cases a<;>rfl
  refine ⟨.slice (some (b,0)) 0 (.fix 0),h,?_,Zn h,fun N hN=>.inr ⟨rfl,b,rfl,hN,hb⟩⟩
  simp only [jav,lenOf,List.length_nil,hsrc]
  rfl
 ·obtain ⟨b',o,cs,ro,rfl,h1,h2,h3⟩:=g hl
  have hpos:0<l.length:=List.length_pos_iff.2 hl
  obtain ⟨p1,p2⟩:=jk4 h3 hpos
  have hz:(l.length == 0)=false:=by simp;omega
  have hz1:(l.length*1 == 0)=false:=by simp;omega
  have hsrc:jam h 1 l.length (.slice (some (b',o)) l.length cp)=some (ints l):=by
   simp only [jam,hz1,cond_false]
   rw [jb3 h2 om,Nat.mul_one,p2]
  have hble:Nat.ble (0+l.length) 0=false:=by
   cases hb2:Nat.ble (0+l.length) 0 with
   | false=>rfl
   | true=>rw [zO] at hb2;omega
  refine ⟨.slice (some (h.nx,0)) (0+l.length) (.grow 1),h.new (.cells (ints l) false),?_,(Zn h).new,fun N hN=>.inl (.inr ⟨h.nx,by omega,by simp,by rw [zN],jac _,by simp⟩)⟩
  simp only [jav,lenOf,hsrc]
  rw [hcond]
  simp only [cond_true,hz,cond_false,hble]
  rfl
theorem append_z1 {N:Nat} {h:H} {v:V} {l:List Int} {q:Nat} {x:Int} {cap:Cap} (r:RowZ N h v l) (hN:N<=h.nx) (hn:l.length<=100000) (hq:h.get q=some (.cells [.i x] false)) (hne:v.at?≠some q) :
  ∃ v' h',jav h 1 8 v (.slice (some (q,0)) 1 cap)=some (v',h')/\Row N h' 1 v' (l++[x]).length (ints (l++[x]))/\h.nx<=h'.nx/\v'.at?=some h.nx /\ ∀ j,j<h.nx->v.at?≠some j->h'.get j=h.get j:=by
 rcases r with r | ⟨rfl,b,rfl,h1,h2⟩
 ·obtain ⟨v',h',e1,e2,e3,e4,e5⟩:=jgu (bytes:=8) (cap:=cap) r hN hq rfl rfl om om om hne
  exact ⟨v',h',e1,by rw [zf];simpa [ints] using e2,e3,e4,e5⟩
 ·have hsrc:jam h 1 1 (.slice (some (q,0)) 1 cap)=some [.i x]:=by
   simp only [jam]
   rw [show ((1*1:Nat) == 0)=false from rfl,cond_false,jb3 hq Zd];rfl
  refine ⟨.slice (some (h.nx,0)) 1 (.grow 1),h.new (.cells [.i x] false),?_,.inr ⟨h.nx,hN,by simp,rfl,jac _,rfl⟩,by simp,rfl,fun j hj _=>jad hj⟩
  simp only [jav,lenOf,hsrc]
  rfl
section
variable {call:Call} {fuel base:Nat} {ops:List Ins} {keep:List Nat} {K:List Fr} {e:Env} {h:H} {Q:Post} {ix:Nat} {dst:Option Nat}
theorem Ops.app_zero {b:Nat} {x y:Opd} {v:V} {l:List Int} (hx:x.ev e=some (.slice (some (b,0)) 0 (.fix 0))) (hy:y.ev e=some v) (hv:VI h v l) (hn:l.length<=1000000) (hb:b<h.nx)
  (k : ∀ v' h',Old h h'->(∀ N,N<=b->RowZ N h' v' l)->Ops call fuel base ops keep K (layv e dst v') h' Q):Ops call fuel base (⟨ix,dst,.append 1 8 x y,none,none,[]⟩ :: ops) keep K e h Q:=by
 obtain ⟨v',h',e1,e2,e3⟩:=jjn hv hn hb
 exact Ops.step (I.run_eff rfl (by simp only [I.eff,hx,hy,e1])) (k v' h' e2 e3)
theorem Ops.app_z1 {N:Nat} {x y:Opd} {v:V} {l:List Int} {q:Nat} {n:Int} {cap:Cap} (hx:x.ev e=some v) (hy:y.ev e=some (.slice (some (q,0)) 1 cap)) (r:RowZ N h v l) (hN:N<=h.nx) (hn:l.length<=100000) (hq:h.get q=some (.cells [.i n] false)) (hne:v.at?≠some q)
  (k : ∀ v' h',Row N h' 1 v' (l++[n]).length (ints (l++[n]))->h.nx<=h'.nx->v'.at?=some h.nx->(∀ j,j<h.nx->v.at?≠some j->h'.get j=h.get j)->Ops call fuel base ops keep K (layv e dst v') h' Q):Ops call fuel base (⟨ix,dst,.append 1 8 x y,none,none,[]⟩ :: ops) keep K e h Q:=by
 obtain ⟨v',h',e1,e2,e3,e4,e5⟩:=append_z1 (cap:=cap) r hN hn hq hne
 exact Ops.step (I.run_eff rfl (by simp only [I.eff,hx,hy,e1])) (k v' h' e2 e3 e4 e5)
end
section
variable {cl:Nat->Call} (hcl:Sem cl)
include hcl
theorem jj0 {d:Nat} {h:H} {v:V} {l:List Int} (hd:1<=d) (hv:VI h v l) (hn:l.length<=100000) : ∃ v1 h1,cl d (.fn 66) [v] h=some (v1,h1)/\Old h h1/\RowZ h.nx h1 v1 l:=by
 obtain ⟨a,c,rfl,n,f,g⟩:=id hv
 refine aT hcl ?_
 cases a with
 | none=>
  obtain ⟨rfl,rfl⟩:=n rfl
  refine qx ?_
  all_goals first | exact ⟨Zn h,.inl (Row.nil _ _ _)⟩ | skip
 | some p=>
  refine qm ?_
  refine Ops.app_zero (b:=h.nx) rfl rfl (hv.keep2 Zd fun hl z hz=>?_) om Zd fun v' h' o r=>?_
  ·obtain ⟨b',o',_,_,e0,h1,_⟩:=g hl
   cases e0
   cases hz
   exact jad h1
  refine qm ?_
  exact ⟨(Zn h).new.trans o,r _ (zp _)⟩
end
theorem WF.retag {h:H} {w s:Nat} {ow ow':Nat->Nat} {f:Nat->Option (Nat × Nat)} {l:List WX} {now:Int} {tb:Tb} {no:Option (Nat × Nat)} (a:WF h w s ow f l now tb no) (hk : ∀ j,ow j≠0->ow' j=ow j) (top : ∀ j,h.nx<=j->ow' j=0):WF h w s ow' f l now tb no:=by
 obtain ⟨wv,p1,p2,p3⟩:=a.hw
 exact ⟨⟨wv,p1,p2,fun z hz=>by rw [hk z (by rw [p3 z hz];omega),p3 z hz]⟩,a.hs,by rw [hk w (by rw [a.tw];omega),a.tw],by rw [hk s (by rw [a.ts];omega),a.ts],a.lw,a.ls,top,fun n t ht=>(a.ok n t ht).tag0 hk⟩
theorem Wi.cells_inn {x:Wi} {r0 r1:Nat} {v:V} {i:Int} : (x.cells r0 r1 v).set 5 (.int .u64 i)=({ x with e0 := { x.e0 with inn:=i } } : Wi).cells r0 r1 v:=by
 obtain ⟨⟨a0,b0,c0,d0,e0,f0,g0⟩,⟨a1,b1,c1',d1,e1,f1,g1⟩,cap,rs,bl,wt⟩:=x
 rfl
def Wi.more (x:Wi) (m:Int):Wi := { x with waiting:=x.waiting++[m],e0 := { x.e0 with inn:=upu x.e0.inn } }
theorem AtW_more {ws:Ws} {n:Nat} {x:Wi} {m:Int} {many:Int} (hx:ws[n]?=some x) (i k:Nat) (fd:Int):AtW (ws.set n (x.more m)++[jaC many]) i k fd↔AtW ws i k fd:=by
 have hs:x.SameFd (x.more m):=fun k hk=>by rcases hk with rfl | rfl<;>exact ⟨Iff.rfl,fun _=>rfl⟩
 rw [<- jlP hx hs i k fd]
 constructor
 ·intro h
  rcases jdj h with h | ⟨_,hk,h1,_⟩
  ·exact h
  ·rcases hk with rfl | rfl
   ·have h1:(0:Int)=1:=h1
    omega
   ·have h1:(2:Int)=1:=h1
    omega
 ·rintro ⟨y,hy,r⟩
  exact ⟨y,jdF hy,r⟩
section
variable {cl:Nat->Call} (hcl:Sem cl) {h:H} {w s:Nat} {ow:Nat->Nat} {l:List WX} {now:Int} {tb:Tb} {no:Option (Nat × Nat)}
include hcl
theorem cw_mid {d m nn:Nat} {t:WX} {G:H} (hd:2<=d) (K:WsK (wxs l)) (a:WW h w s ow l now tb no) (ht:l[m]?=some t) (hwt:t.x.waiting.length<=64) (hfull:l.length<1000) (oG:Old h G) (xG:h.nx+5<=G.nx) (gN:G.get h.nx=some ((jaC nn).obj (h.nx+2) (h.nx+4) .nils))
  (R : ∀ k,k=0\/k=1->jaw G (two (h.nx+2) (h.nx+4) k) (two (h.nx+1) (h.nx+3) k) [] nn) :
  Run (cl (d-1)) fuel c76_3 [] [(0,.p w 0),(8,.p h.nx 0),(9,.p t.wb 0)] G (Fin c76.res fun v h'=>∃ ow',v = .tup [.i (l.length:Int),.i 0]/\WSt h' w s ow' ((wxs l).set m (t.x.more (l.length:Int))++[jaC nn]) now tb no/\To h h' ow ow'):=by
 have lw:=a.wf.lw
 obtain ⟨sa,c,hw,hsl⟩:=a.wf.head
 have c1:(wc (fun i=>atS (wxs l) (i:Int)) (.slice sa l.length c) s now no)[0+288]?=some (.slice sa l.length c):=jaO rfl
 have hlt:=x_lt ht
 have X:=a.wf.ok m t ht
 have hwb:=X.lx
 have hvi:=X.wait.1
 obtain ⟨av,cv,hva,_⟩:=id hvi
 have hvi:VI G (.slice av t.x.waiting.length cv) t.x.waiting:=by
  rw [<- hva]
  exact hvi.keep2 oG.1 fun hl z hz=>oG.2 z (X.wait.2 hl z hz).2
 have gw:(G.reserve 1).get w=some (.cells (wc (fun i=>atS (wxs l) (i:Int)) (.slice sa l.length c) s now no) false):=(oG.2 _ lw).trans hw
 have gt:(G.reserve 1).get t.wb=some (.cells (t.x.cells t.r0 t.r1 (.slice av t.x.waiting.length cv)) false):=by rw [<- hva];exact (oG.2 _ hwb).trans X.hx
 have hvi1:VI (G.reserve 1) (.slice av t.x.waiting.length cv) t.x.waiting:=hvi.keep (by show G.nx<=G.nx+1;omega) fun _ _=>rfl
 obtain ⟨v1,G2,e2,o2,rz⟩:=jj0 hcl (d:=d-1) om hvi1 om
 have x1:(G.reserve 1).nx=G.nx+1:=rfl
 have o2x:=o2.1
 refine Run.seq (Run.region ?_)
 refine qx ?_
 refine Zm rfl e2 (jaK rfl (by rw [o2.2 _ om,gw]) c1 rfl jba) ?_
 refine Ops.bslice1_at (new:=[.i (l.length:Int)]) rfl rfl rfl rfl ?_
 refine Ops.opqh fun G3 hG3=>?_
 have x3:G3.nx=G2.nx:=by rw [hG3];rfl
 have k3 : ∀ j,j≠G.nx->G3.get j=G2.get j:=fun j hj=>by rw [hG3,jaa om]
 have b3:G3.get (G.nx+0)=some (.cells [.i (l.length:Int)] false):=by rw [hG3,jab]
 have o3:Old h G3:=⟨by have:=oG.1;omega,fun j hj=>by rw [k3 j (by have:=oG.1;omega),o2.2 j (by have:=oG.1;omega)];exact oG.2 j hj⟩
 have n3 : ∀ j,h.nx<=j->j<h.nx+5->G3.get j=G.get j:=fun j j1 j2=>by rw [k3 j om,o2.2 j om];rfl
 clear hG3
 have rz3:RowZ (G.reserve 1).nx G3 v1 t.x.waiting:=rz.keep om fun q hq=>k3 q (by have:=rz.at_ge hq;omega)
 refine Ops.app_z1 rfl rfl rz3 om om b3 (fun e=>by have:=rz.at_ge e;omega) fun v2 G4 row4 x4 at4 k4=>?_
 have o4:Old h G4:=⟨by have:=o3.1;omega,fun j hj=>by rw [k4 j (by have:=o3.1;omega) (fun e=>by have:=rz.at_ge e;have:=oG.1;omega),o3.2 j hj]⟩
 have n4 : ∀ j,h.nx<=j->j<h.nx+5->G4.get j=G.get j:=fun j j1 j2=>by rw [k4 j om (fun e=>by have:=rz.at_ge e;omega),n3 j j1 j2]
 have gt4:G4.get t.wb=some (.cells (t.x.cells t.r0 t.r1 (.slice av t.x.waiting.length cv)) false):=by rw [o4.2 _ hwb,<- hva];exact X.hx
 have hlen:0+16<(t.x.cells t.r0 t.r1 (.slice av t.x.waiting.length cv)).length:=by rw [Wi.cells_length];omega
 have ecell:Obj.cells ((t.x.cells t.r0 t.r1 (.slice av t.x.waiting.length cv)).set (0+16) v2) false=(t.setw v2 (t.x.waiting++[(l.length:Int)])).x.obj t.r0 t.r1 v2:=by
  show Obj.cells ((t.x.cells t.r0 t.r1 (.slice av t.x.waiting.length cv)).set 16 v2) false=_
  rw [Wi.cells_wait (wt:=t.x.waiting++[(l.length:Int)])];rfl
 obtain ⟨p1,p2⟩:=VI.ofRow row4
 have hone:=p1.one
 obtain ⟨ow1,how1⟩ : ∃ ow1:Nat->Nat,ow1=fun j=>if j=G3.nx then 10*m+15 else ow j:=⟨_,rfl⟩
 have hz0:ow G3.nx=0:=a.wf.top _ o3.1
 have t1:ow1 G3.nx=10*m+15:=by rw [how1];exact zC rfl
 have t2 : ∀ j,j≠G3.nx->ow1 j=ow j:=fun j hj=>by rw [how1];exact zz hj
 have z4:G3.nx<G4.nx:=by
  rcases row4 with ⟨h0,_⟩ | ⟨q,_,q1,rfl,_⟩
  ·simp at h0
  ·cases at4;exact q1
 have W4:WF G4 w s ow1 (fun i=>atS (wxs l) (i:Int)) l now tb no:=(a.wf.old o4).retag (fun j hj=>t2 j fun e=>hj (by rw [e,hz0])) fun j hj=>by rw [t2 j om];exact a.wf.top j (by have:=o4.1;omega)
 have W5:=W4.setWait ht p1 fun _ z hz=>by
  rw [at4] at hz;cases hz
  exact ⟨t1,z4⟩
 clear how1 gt gw hvi hvi1 b3 rz rz3 e2 row4
 refine qx ?_
 refine zcs rfl rfl hone gt4 hlen ?_
 rw [ecell]
 refine Ops.opqh fun G5 hG5=>?_
 rw [<- hG5] at W5
 have x5:G5.nx=G4.nx:=by rw [hG5];rfl
 have k5 : ∀ j,j≠t.wb->G5.get j=G4.get j:=fun j hj=>by rw [hG5,jaa hj]
 clear hG5 ecell hlen gt4 hone
 have ht5:(l.set m (t.setw v2 (t.x.waiting++[(l.length:Int)])))[m]?=some (t.setw v2 (t.x.waiting++[(l.length:Int)])):=by rw [zh,zC rfl,zC hlt]
 generalize hl5:l.set m (t.setw v2 (t.x.waiting++[(l.length:Int)]))=l5 at W5 ht5
 have len5:l5.length=l.length:=by rw [<- hl5];simp
 have X5:=W5.ok m _ ht5
 have gt5:G5.get t.wb=some (.cells ((t.setw v2 (t.x.waiting++[(l.length:Int)])).x.cells t.r0 t.r1 v2) false):=X5.hx
 have c5:((t.setw v2 (t.x.waiting++[(l.length:Int)])).x.cells t.r0 t.r1 v2)[0+0+Int.toNat 0*7+5]?=some (.int .u64 t.x.e0.inn):=rfl
 have hlen5:0+0+Int.toNat 0*7+5<((t.setw v2 (t.x.waiting++[(l.length:Int)])).x.cells t.r0 t.r1 v2).length:=by rw [Wi.cells_length];show 5<17;omega
 refine qx ?_
 refine zcs rfl rfl rfl gt5 hlen5 ?_
 refine Ops.opqh fun G6 hG6=>?_
 have u6:Upd t.wb ((t.x.more (l.length:Int)).obj t.r0 t.r1 v2) G5 G6:=by
  refine ⟨by rw [hG6];rfl,?_,fun j hj=>by rw [hG6,jaa hj]⟩
  rw [hG6,jab]
  show some (Obj.cells (((t.setw v2 (t.x.waiting++[(l.length:Int)])).x.cells t.r0 t.r1 v2).set 5 (.int .u64 (upu t.x.e0.inn))) false)=_
  rw [Wi.cells_inn];rfl
 clear hG6 gt5 c5 hlen5
 have W6:=W5.upd (x':=t.x.more (l.length:Int)) ht5 u6 rfl rfl fun k hk=>by rcases hk with rfl | rfl<;>rfl
 have len6:(l5.set m { t.setw v2 (t.x.waiting++[(l.length:Int)]) with x:=t.x.more (l.length:Int) }).length=l.length:=by rw [List.length_set,len5]
 have ws6:wxs (l5.set m { t.setw v2 (t.x.waiting++[(l.length:Int)]) with x:=t.x.more (l.length:Int) })=(wxs l).set m (t.x.more (l.length:Int)):=by
  rw [jbP,<- hl5,jbP,List.set_set]
 generalize l5.set m { t.setw v2 (t.x.waiting++[(l.length:Int)]) with x:=t.x.more (l.length:Int) } = l6 at W6 len6 ws6
 clear W5 ht5 hl5 len5 X5
 have x6:G6.nx=G4.nx:=by rw [u6.nx,x5]
 have k6 : ∀ j,j≠t.wb->G6.get j=G4.get j:=fun j hj=>by rw [u6.get j hj,k5 j hj]
 have n6 : ∀ j,h.nx<=j->j<h.nx+5->G6.get j=G.get j:=fun j j1 j2=>by rw [k6 j om,n4 j j1 j2]
 have o6 : ∀ j,j<h.nx->j≠t.wb->G6.get j=h.get j:=fun j j1 j2=>by rw [k6 j j2,o4.2 j j1]
 obtain ⟨wv6,hw6,row6,hz6⟩:=W6.hw
 rw [len6] at row6
 obtain ⟨cp6,⟨av6,rfl⟩,_⟩:=row6.shape
 have c6:(wc (fun i=>atS (wxs l) (i:Int)) (.slice av6 l.length cp6) s now no)[0+288]?=some (.slice av6 l.length cp6):=jaO rfl
 clear k5 k6 n4 k4 k3 n3 x5 u6
 refine qx ?_
 refine Ops.push (N:=0) (new:=[.p h.nx 0]) rfl rfl rfl rfl om rfl rfl row6 (zW _) om om fun v3 G7 row7 x7 z7 k7=>?_
 have hw7:G7.get w=some (.cells (wc (fun i=>atS (wxs l) (i:Int)) (.slice av6 l.length cp6) s now no) false):=by rw [k7 w W6.lw (fun e=>by have:=hz6 _ e;have:=W6.tw;omega),hw6]
 have hlen7:0+288<(wc (fun i=>atS (wxs l) (i:Int)) (.slice av6 l.length cp6) s now no).length:=by rw [jbV];omega
 have hone7:=row7.one
 refine qx ?_
 refine zcs rfl rfl hone7 hw7 hlen7 ?_
 rw [jey rfl]
 refine Ops.opqh fun G8 hG8=>?_
 have x8:G8.nx=G7.nx:=by rw [hG8];rfl
 have hw8:G8.get w=some (.cells (wc (fun i=>atS (wxs l) (i:Int)) v3 s now no) false):=by rw [hG8,jab]
 have k8 : ∀ j,j≠w->G8.get j=G7.get j:=fun j hj=>by rw [hG8,jaa hj]
 clear hG8 hw7
 have hgo : ∃ z3,z3<G8.nx/\G6.nx<=z3/\(∀ y,v3.at?=some y->y=z3):=by
  rcases id row7 with ⟨h0,_⟩ | ⟨q,_,q1,rfl,_⟩
  ·omega
  ·exact ⟨q,by omega,z7 q rfl,fun y hy=>by cases hy;rfl⟩
 obtain ⟨z3,y1,y2,y3⟩:=hgo
 have hwz : ∀ q,v3.at?=some q->q≠w:=fun q e=>by have:=z7 q e;have:=W6.lw;omega
 have h01 : ∀ j,h.nx<=j->j<h.nx+5->ow1 j=0:=fun j j1 j2=>by rw [t2 j om];exact a.wf.top j j1
 have n8 : ∀ j,h.nx<=j->j<h.nx+5->G8.get j=G.get j:=fun j j1 j2=>by rw [k8 j om,k7 j om (fun e=>by have:=hz6 _ e;have:=h01 j j1 j2;omega),n6 j j1 j2]
 have P:=W6.push (h':=G8) (g:=fun i=>atS (wxs l) (i:Int)) (m:=5) (z:=z3) (N:=h.nx) (t:=⟨jaC nn,h.nx,h.nx+2,h.nx+1,h.nx+4,h.nx+3,.nils⟩) (.inr rfl) om h01 y2 y1
  (fun j j1 j2 j3=>by rw [k8 j j3,k7 j (W6.lt_of j1) (fun e=>j2 (hz6 _ e))]) hw8
  (by rw [len6];exact row7.keep om fun q e=>k8 q (hwz q e)) y3 rfl (fun _=>⟨rfl,rfl,rfl,rfl⟩) (by rw [n8 _ (zp _) om,gN]) rfl rfl
  (fun k hk q hq=>by
   refine ⟨rfl,?_⟩
   have hk2:=R k hk
   rcases hk with rfl | rfl
   ·have hq:some []=some q:=hq
    cases hq
    exact hk2.keep (n8 _ (by show h.nx<=h.nx+2;omega) (by show h.nx+2<h.nx+5;omega)) (n8 _ (by show h.nx<=h.nx+1;omega) (by show h.nx+1<h.nx+5;omega))
   ·have hq:some []=some q:=hq
    cases hq
    exact hk2.keep (n8 _ (by show h.nx<=h.nx+4;omega) (by show h.nx+4<h.nx+5;omega)) (n8 _ (by show h.nx<=h.nx+3;omega) (by show h.nx+3<h.nx+5;omega)))
 have ez:wxs (l6++[(⟨jaC nn,h.nx,h.nx+2,h.nx+1,h.nx+4,h.nx+3,.nils⟩:WX)])=(wxs l).set m (t.x.more (l.length:Int))++[jaC nn]:=by rw [<- ws6];simp
 have hA:=AtW_more (m:=(l.length:Int)) (many:=(nn:Int)) (jaq ht)
 have hlast:((l.length+1:Nat):Int)-1=(l.length:Int):=by omega
 obtain ⟨cp7,⟨av7,rfl⟩,_⟩:=row7.shape
 have c8:(wc (fun i=>atS (wxs l) (i:Int)) (.slice av7 (l.length+1) cp7) s now no)[0+288]?=some (.slice av7 (l.length+1) cp7):=jaO rfl
 have o8 : ∀ j,j<h.nx->ow j=0->G8.get j=h.get j:=fun j j1 j2=>by
  have q1:ow1 j=0:=by rw [t2 j (by have:=o3.1;omega),j2]
  rw [k8 j (fun e=>by rw [e,a.wf.tw] at j2;omega),k7 j (by have:=o4.1;omega) (fun e=>by have:=hz6 _ e;omega),o6 j j1 (fun e=>by have:=X.ox;rw [<- e] at this;omega)]
 rw [len6] at P
 clear k7 n6 n8 row7 row6 W6
 refine qx ?_
 refine ⟨jei ow1 h.nx l.length 5 z3,by rw [hlast],⟨_,⟨P.congr fun j _=>by rw [ez,ji4 hA],fun n k fd hf=>?_⟩,ez⟩,⟨by have:=oG.1;omega,fun j hj hn=>?_⟩,fun j hj=>?_⟩
 ·rw [ez] at hf
  exact a.fds n k fd ((hA n k fd).1 hf)
 ·exact o8 j hj (Classical.not_not.1 hn)
 ·rw [jeh (.inl hj) (by have:=o4.1;omega),t2 j (by have:=o3.1;omega)]
end
section
variable {cl:Nat->Call} (hcl:Sem cl) {h:H} {w s:Nat} {ow:Nat->Nat} {l:List WX} {now:Int} {tb:Tb} {no:Option (Nat × Nat)}
include hcl
theorem cw_ok {d m nn:Nat} {t:WX} (hd:5<=d) (K:WsK (wxs l)) (a:WW h w s ow l now tb no) (ht:l[m]?=some t) (hb0:t.x.backlog≠0) (hw1:t.x.e0.what=1) (hm1:1<=nn) (hm2:nn<=65536) (hbk : ¬ t.x.backlog<=t.x.waiting.length) (hfull:l.length<1000) :
  ∃ h' ow',cl d (.fn 76) [.p w 0,.i (m:Int),.i (nn:Int)] h=some (.tup [.i (l.length:Int),.i 0],h') /\
   WSt h' w s ow' ((wxs l).set m { t.x with waiting:=t.x.waiting++[(l.length:Int)],e0 := { t.x.e0 with inn:=upu t.x.e0.inn } } ++ [jaC nn]) now tb no/\To h h' ow ow':=by
 have lw:=a.wf.lw
 have hnone:=jbU hcl (d:=d-1) om a.wf
 have hcap:=jhp hcl (h:=h) (d:=d-1) (n:=(nn:Int)) om
 rw [zF om] at hcap
 obtain ⟨sa,c,hw,hsl⟩:=a.wf.head
 have c1:(wc (fun i=>atS (wxs l) (i:Int)) (.slice sa l.length c) s now no)[0+288]?=some (.slice sa l.length c):=jaO rfl
 have hlt:=x_lt ht
 obtain ⟨z,rfl,z1,z2,z3⟩:=hsl (by rintro rfl;simp at hlt)
 have hx:=jaq ht
 have X:=a.wf.ok m t ht
 have hwb:=X.lx
 have w2:(wps l)[0+(m:Int).toNat*1]?=some (.p t.wb 0):=by rw [show 0+(m:Int).toNat*1=m by omega];exact jc5 ht
 have gt:h.get t.wb=some (.cells (t.x.cells t.r0 t.r1 t.wv) false):=X.hx
 have hvi:=X.wait.1
 obtain ⟨av,cv,hva,_⟩:=id hvi
 rw [hva] at gt hvi
 have hnw : ¬ t.x.e0.what≠1:=fun e=>e hw1
 have hl2 : ¬ 1000<=(l.length:Int):=by omega
 have hwt:=(K.ok.wait t.x (zc hx)).1
 obtain ⟨h1,e1,x1,o1,g0,g2,g1,g4,g3⟩:=jkH hcl (h:=h) (n:=nn) (d:=d-1) om hm2
 simp only [jmz,Wi.obj,Wi.cells,En.cells,zS,zU] at g0
 suffices q : ∃ v h',cl d (.fn 76) [.p w 0,.i (m:Int),.i (nn:Int)] h=some (v,h') /\ ∃ ow',v = .tup [.i (l.length:Int),.i 0]/\WSt h' w s ow' ((wxs l).set m { t.x with waiting:=t.x.waiting++[(l.length:Int)],e0 := { t.x.e0 with inn:=upu t.x.e0.inn } } ++ [jaC nn]) now tb no/\To h h' ow ow' by
  obtain ⟨_,h',e,ow',rfl,q⟩:=q;exact ⟨h',ow',e,q⟩
 refine aT hcl ?_
 obtain ⟨C,hC⟩ : ∃ C,C=c76_3:=⟨_,rfl⟩
 simp only [c76,c76_10,c76_5,c76_4,yB,yC]
 rw [<- hC]
 have gw1:h1.get w=some _:=(o1.2 _ lw).trans hw
 have gz1:h1.get z=some _:=(o1.2 _ z1).trans z3
 have gt1:h1.get t.wb=some _:=(o1.2 _ hwb).trans gt
 refine Ga ?_
 refine Run.opqh fun H1 hH1=>?_
 have xH:H1.nx=h1.nx:=by rw [hH1];rfl
 have kH : ∀ j,j≠h.nx->H1.get j=h1.get j:=fun j hj=>by rw [hH1,jaa hj]
 have oH:Old h H1:=⟨by have:=o1.1;omega,fun j hj=>by rw [kH j om,o1.2 j hj]⟩
 have gN:H1.get h.nx=some ((jaC nn).obj (h.nx+2) (h.nx+4) .nils):=by rw [hH1];exact jab _
 clear hH1 gw1 gz1 gt1
 rw [hC]
 refine cw_mid hcl om K a ht hwt hfull oH om gN fun k hk=>?_
 rcases hk with rfl | rfl
 ·exact (jdd hm1 hm2 g2 g1).keep (kH _ (by show h.nx+2≠h.nx;omega)) (kH _ (by show h.nx+1≠h.nx;omega))
 ·exact (jdd hm1 hm2 g4 g3).keep (kH _ (by show h.nx+4≠h.nx;omega)) (kH _ (by show h.nx+3≠h.nx;omega))
end
section
variable {cl:Nat->Call} (hcl:Sem cl) {h:H} {w s:Nat} {ow:Nat->Nat} {ws:Ws} {now:Int} {tb:Tb} {no:Option (Nat × Nat)}
include hcl
theorem jjS {d:Nat} {n many:Int} (hd:5<=d) (K:WsK ws) (a:WSt h w s ow ws now tb no) :
  ∃ h' ow',cl d (.fn 76) [.p w 0,.i n,.i many] h=some (.tup [.i (jas ws n many).1.1,.i (jas ws n many).1.2],h')/\WSt h' w s ow' (jas ws n many).2 now tb no/\To h h' ow ow':=by
 obtain ⟨l,a,rfl⟩:=a
 have K':=jfC (n:=n) (many:=many) K
 have lw:=a.wf.lw
 have hnone:=jbU hcl (d:=d-1) om a.wf
 have hcap:=jhp hcl (h:=h) (d:=d-1) (n:=many) om
 have hwl:(wxs l).length=l.length:=by simp
 have hol:l.length<=1000:=by have:=K.ok.len;omega
 obtain ⟨sa,c,hw,hsl⟩:=a.wf.head
 have c1:(wc (fun i=>atS (wxs l) (i:Int)) (.slice sa l.length c) s now no)[0+288]?=some (.slice sa l.length c):=jaO rfl
 suffices q : ∃ v h',cl d (.fn 76) [.p w 0,.i n,.i many] h=some (v,h') /\ ∃ ow',v = .tup [.i (jas (wxs l) n many).1.1,.i (jas (wxs l) n many).1.2]/\WSt h' w s ow' (jas (wxs l) n many).2 now tb no/\To h h' ow ow' by
  obtain ⟨_,h',e,ow',rfl,q⟩:=q;exact ⟨h',ow',e,q⟩
 by_cases hall : ∃ (m nn:Nat) (t:WX),n=m/\many=nn/\l[m]?=some t/\t.x.backlog≠0/\t.x.e0.what=1/\1<=nn/\nn<=65536 /\ ¬ t.x.backlog<=t.x.waiting.length/\l.length<1000
 ·obtain ⟨m,nn,t,rfl,rfl,ht,hb0,hw1,hm1,hm2,hbk,hfull⟩:=hall
  obtain ⟨h',ow',e,q⟩:=cw_ok hcl hd K a ht hb0 hw1 hm1 hm2 hbk hfull
  have hS:jas (wxs l) m nn=(((l.length:Int),(0:Int)),(wxs l).set m { t.x with waiting:=t.x.waiting++[(l.length:Int)],e0 := { t.x.e0 with inn:=upu t.x.e0.inn } } ++ [jaC nn]):=by
   unfold jas
   rw [zz om,zt,jaq ht]
   simp only
   rw [zz (by rintro (e | e);(exact hb0 e);exact e hw1),zz om,zz hbk,zz om,hwl]
  rw [hS]
  exact ⟨_,h',e,ow',rfl,q⟩
 refine aT hcl ?_
 have same:WSt h w s ow (wxs l) now tb no:=⟨l,a,rfl⟩
 by_cases hn:n<0
 ·have hS:jas (wxs l) n many=((0,116),wxs l):=zC hn
  rw [hS]
  refine qx ?_
  all_goals first | exact ⟨ow,rfl,same,To.refl _ _⟩ | (exfalso;omega)
 have hS:jas (wxs l) n many=_:=zz hn
 obtain ⟨m,rfl⟩:=zw (show 0<=n by omega)
 rw [zt] at hS
 by_cases hlt:m<l.length
 case neg=>
  rw [zd om] at hS
  have hS:jas (wxs l) m many=((0,116),wxs l):=hS
  rw [hS]
  refine qx ?_
  all_goals first | exact ⟨ow,rfl,same,To.refl _ _⟩ | (exfalso;omega)
 obtain ⟨t,ht⟩ : ∃ t,l[m]?=some t:=⟨_,za hlt⟩
 obtain ⟨z,rfl,z1,z2,z3⟩:=hsl (by rintro rfl;simp at hlt)
 have hx:=jaq ht
 rw [hx] at hS
 simp only at hS
 have X:=a.wf.ok m t ht
 have hwb:=X.lx
 have w2:(wps l)[0+(m:Int).toNat*1]?=some (.p t.wb 0):=by rw [show 0+(m:Int).toNat*1=m by omega];exact jc5 ht
 have gt:h.get t.wb=some (.cells (t.x.cells t.r0 t.r1 t.wv) false):=X.hx
 obtain ⟨av,cv,hva,_⟩:=id X.wait.1
 rw [hva] at gt
 by_cases hb0:t.x.backlog=0
 ·have hS:jas (wxs l) m many=((0,116),wxs l):=by rw [hS,zC (.inl hb0)]
  rw [hS]
  refine qx ?_
  all_goals first | exact ⟨ow,rfl,same,To.refl _ _⟩ | (exfalso;omega)
 by_cases hw1:t.x.e0.what=1
 case neg=>
  have hS:jas (wxs l) m many=((0,116),wxs l):=by rw [hS,zC (.inr hw1)]
  rw [hS]
  refine qx ?_
  all_goals first | exact ⟨ow,rfl,same,To.refl _ _⟩ | (exfalso;omega)
 rw [zz (by rintro (e | e);(exact hb0 e);exact e hw1)] at hS
 have hnw : ¬ t.x.e0.what≠1:=fun e=>e hw1
 by_cases hm:many<1\/65536<many
 ·have hS:jas (wxs l) m many=((0,2),wxs l):=by rw [hS,zC hm]
  rw [hS]
  rw [zD om] at hcap
  clear hm
  refine qx ?_
  all_goals first | exact ⟨ow,rfl,same,To.refl _ _⟩ | (exfalso;omega)
 rw [zz hm] at hS
 have hm1:1<=many:=by omega
 have hm2:many<=65536:=by omega
 clear hm
 rw [zF om] at hcap
 by_cases hbk:t.x.backlog<=t.x.waiting.length
 ·have hS:jas (wxs l) m many=((0,113),wxs l):=by rw [hS,zC hbk]
  rw [hS]
  refine qx ?_
  all_goals first | exact ⟨ow,rfl,same,To.refl _ _⟩ | (exfalso;omega)
 rw [zz hbk,hwl] at hS
 by_cases hfull:1000<=l.length
 ·have hS:jas (wxs l) m many=((0,112),wxs l):=by rw [hS,zC hfull]
  rw [hS]
  have hl2:(1000:Int)<=(l.length:Int):=by omega
  refine qx ?_
  all_goals first | exact ⟨ow,rfl,same,To.refl _ _⟩ | (exfalso;omega)
 rw [zz hfull] at hS
 obtain ⟨nn,rfl⟩:=zw (show 0<=many by omega)
 exact zI ⟨m,nn,t,rfl,rfl,ht,hb0,hw1,by omega,by omega,hbk,by omega⟩ hall
end
theorem mvS_no {m:Mv} {st:St} (h : ¬ m.may):mvS m st=((0,120),st):=zz h
theorem mvS_at {m:Mv} {st:St} (h:m.may):mvS m st=(m.ans st,m.go st):=zC h
theorem Mv.ans_1 {m:Mv} {st:St} (h:m.op=1):m.ans st=(putS st.ws m.wire m.D).1:=by simp [Mv.ans,h]
theorem Mv.ans_2 {m:Mv} {st:St} (h:m.op=2):m.ans st=(((jdv st.ws m.wire m.n).1.1.length:Int),(jdv st.ws m.wire m.n).1.2):=by simp [Mv.ans,h]
theorem Mv.ans_3 {m:Mv} {st:St} (h:m.op=3):m.ans st=(0,(jbd st.ws m.wire).1):=by simp [Mv.ans,h]
theorem Mv.ans_4 {m:Mv} {st:St} (h:m.op=4):m.ans st=(0,(jaM st.ws m.wire).1):=by simp [Mv.ans,h]
theorem Mv.ans_5 {m:Mv} {st:St} (h:m.op=5):m.ans st=(0,(jcU st.ws m.wire).1):=by simp [Mv.ans,h]
theorem Mv.ans_6 {m:Mv} {st:St} (h:m.op=6):m.ans st=(jas st.ws m.wire m.n).1:=by simp [Mv.ans,h]
theorem Mv.ans_7 {m:Mv} {st:St} (h:m.op=7):m.ans st=(0,if sig? m.n then 0 else 100):=by simp [Mv.ans,h]
theorem wire_12 {ws:Ws} {fd:Int} (u:Uniq ws):(jhy ws fd).2=110\/(jhy ws fd).2=0:=by
 unfold jhy jbw
 split
 ·exact .inl rfl
 ·split
  ·exact .inl rfl
  ·exact .inr rfl
section
variable {cl:Nat->Call} (hcl:Sem cl) {h:H} {m:Mv} {dv:V} {st:St} {i:Nat}
include hcl
theorem jkJ {d w s:Nat} {ow:Nat->Nat} {ws:Ws} {now:Int} {tb:Tb} {no:Option (Nat × Nat)} (hd:4<=d) (a:WSt h w s ow ws now tb no) (o:WsOk ws) : ∃ h',cl d (.fn 21) [.p w 0] h=some (.bool false,h')/\Old h h':=by
 obtain ⟨h1,e1,o1⟩:=ww_Wire hcl (d:=d-1) (fd := -1) om a o
 have hw:=wire_12 (fd := -1) o.uniq
 generalize jhy ws (-1)=x at e1 hw
 obtain ⟨x1,x2⟩:=x
 have hx : ¬ x2=1:=by rcases hw with hw | hw<;>(have hw:x2=_:=hw;omega)
 clear hw a o
 refine jak (aT hcl ?_)
 refine qx ?_
 exact ⟨by rw [zD hx],o1⟩
theorem wm_Make {d w s:Nat} {ow:Nat->Nat} (hd:13<=d) (W:WSt h w s ow st.ws st.now st.tb st.no) (so:StOk st i) (hi:i<=900000) (hv:VB h dv m.D) (hz:m.D≠[] -> ∀ z,dv.at?=some z->ow z=0) :
  ∃ h' ow',cl d (.fn 44) [.p w 0,.agg (mvV m dv)] h=some (.tup [.i (mvS m st).1.1,.i (mvS m st).1.2],h')/\WSt h' w s ow' (mvS m st).2.ws (mvS m st).2.now (mvS m st).2.tb (mvS m st).2.no/\To h h' ow ow':=by
 suffices q : ∃ v h',cl d (.fn 44) [.p w 0,.agg (mvV m dv)] h=some (v,h') /\ ∃ ow',v = .tup [.i (mvS m st).1.1,.i (mvS m st).1.2]/\WSt h' w s ow' (mvS m st).2.ws (mvS m st).2.now (mvS m st).2.tb (mvS m st).2.no/\To h h' ow ow' by
  obtain ⟨_,h',e,ow',rfl,q⟩:=q;exact ⟨h',ow',e,q⟩
 obtain ⟨a,c,rfl,hB⟩:=id hv
 have o0:Old h (h.new (.cells (mvV m (.slice a m.D.length c)) false)):=(Zn h).new
 have g0:(h.new (.cells (mvV m (.slice a m.D.length c)) false)).get h.nx=some (.cells (mvV m (.slice a m.D.length c)) false):=jac _
 have x0:h.nx<(h.new (.cells (mvV m (.slice a m.D.length c)) false)).nx:=by simp
 obtain ⟨h1,e1,o1⟩:=jkJ hcl (d:=d-1) om (W.old o0) so.K.ok
 obtain ⟨h2,e2,o2⟩:=jlX hcl (d:=d-1) (h:=h1) (m:=m) (a:=a) (c:=c) om
 have x1:=zq x0 o1.1
 have g1:h1.get h.nx=some (.cells (mvV m (.slice a m.D.length c)) false):=by rw [o1.2 _ x0,g0]
 have g2:h2.get h.nx=some (.cells (mvV m (.slice a m.D.length c)) false):=by rw [o2.2 _ x1,g1]
 have o02:Old h h2:=(o0.trans o1).trans o2
 have W2:=W.old o02
 have V2:VB h2 (.slice a m.D.length c) m.D:=hv.keep2 o02.1 fun hl z hz=>o02.2 z (hv.lt hl hz)
 have ok:=so.K.ok
 refine aT hcl ?_
 obtain ⟨C,hC⟩ : ∃ C,C=c44_7:=⟨_,rfl⟩
 simp only [c44,c44_9,c44_8,<- hC,yB,yH]
 by_cases hm:m.may
 case neg=>
  rw [mvS_no hm]
  clear so W V2 hv hB ok
  refine qm ?_
  exact ⟨ow,rfl,W2,To.of_old o02⟩
 have hm' : ¬ ¬ m.may:=fun e=>e hm
 have tail : ∀ sb,Run (cl (d-1)) fuel C [] ((0,.p w 0) :: (3,.p h.nx 0) :: sb) h2 (Fin c44.res fun v h'=>∃ ow',v = .tup [.i (mvS m st).1.1,.i (mvS m st).1.2]/\WSt h' w s ow' (mvS m st).2.ws (mvS m st).2.now (mvS m st).2.tb (mvS m st).2.no/\To h h' ow ow'):=fun sb=>by
  rw [mvS_at hm,hC]
  clear e1 e2
  have hop:m.op=1\/m.op=2\/m.op=3\/m.op=4\/m.op=5\/m.op=6\/m.op=7:=by have:=hm.1;have:=hm.2.1;omega
  rcases hop with c1 | c1 | c1 | c1 | c1 | c1 | c1
  ·rw [Mv.ans_1 c1,Mv.go_1 c1]
   obtain ⟨h3,e3,W3,t3⟩:=ww_Put hcl (d:=d-1) (n:=m.wire) om W2 ok V2 hm.2.2.2.2.1 (hz fun e=>by have h1:=hm.2.2.2.2.2.2.2.1 c1;rw [e] at h1;exact zI h1 (by decide))
   clear so W W2 V2 hv hB ok
   refine qm ?_
   exact ⟨_,rfl,W3,To.old o02 t3⟩
  ·rw [Mv.ans_2 c1,Mv.go_2 c1]
   obtain ⟨v3,h3,e3,vb3,vz3,W3,t3⟩:=ww_Take hcl (d:=d-1) (n:=m.wire) (many:=m.n) om W2 ok
   obtain ⟨a3,c3,rfl,B3⟩:=vb3
   clear so W W2 V2 hv hB ok
   refine qm ?_
   exact ⟨_,rfl,W3,To.old o02 t3⟩
  ·rw [Mv.ans_3 c1,Mv.go_3 c1]
   obtain ⟨h3,e3,W3,t3⟩:=jiA hcl (d:=d-1) (n:=m.wire) om W2
   clear so W W2 V2 hv hB ok
   refine qm ?_
   exact ⟨_,rfl,W3,To.old o02 t3⟩
  ·rw [Mv.ans_4 c1,Mv.go_4 c1]
   obtain ⟨h3,e3,W3,t3⟩:=jhq hcl (d:=d-1) (n:=m.wire) om W2
   clear so W W2 V2 hv hB ok
   refine qm ?_
   exact ⟨_,rfl,W3,To.old o02 t3⟩
  ·rw [Mv.ans_5 c1,Mv.go_5 c1]
   obtain ⟨h3,e3,W3,t3⟩:=ww_Reset hcl (d:=d-1) (n:=m.wire) om W2 ok
   clear so W W2 V2 hv hB ok
   refine qm ?_
   exact ⟨_,rfl,W3,To.old o02 t3⟩
  ·rw [Mv.ans_6 c1,Mv.go_6 c1]
   obtain ⟨h3,ow3,e3,W3,t3⟩:=jjS hcl (d:=d-1) (n:=m.wire) (many:=m.n) om so.K W2
   clear so W W2 V2 hv hB ok
   refine qm ?_
   exact ⟨_,rfl,W3,To.old o02 t3⟩
  ·rw [Mv.ans_7 c1,Mv.go_7 c1]
   obtain ⟨h3,e3,W3,t3⟩:=ww_Raise hcl (d:=d-1) (sg:=m.n) om W2 so.nt (so.tb.mono om) (Tb.ok.mono (jj7 so.tb m.n) om)
   clear so W W2 V2 hv hB ok
   refine qm ?_
   exact ⟨_,rfl,W3,To.old o02 t3⟩
 clear so W V2 hv hB ok
 refine qm ?_
 exact tail _
end
section
variable {cl:Nat->Call} (hcl:Sem cl) {h:H} {p w s rw:Nat} {ow:Nat->Nat} {ro dat:Nat->Prop} {st:St} {a n t:Int} {dv vd:V} {D:List UInt8}
include hcl
end
section
variable {cl:Nat->Call} (hcl:Sem cl) {h:H} {p w s rw:Nat} {ow:Nat->Nat} {ro dat:Nat->Prop} {st:St} {a n t:Int} {dv vd:V} {D:List UInt8}
include hcl
end
section
variable {call:Call} {fuel base:Nat} {K:List Fr} {e:Env} {h:H} {Q:Post} {ix:Nat} {dst at_:Option Nat} {ops:List Ins} {keep:List Nat}
end
section
variable {cl:Nat->Call} (hcl:Sem cl) {h:H} {p w s rw:Nat} {ow:Nat->Nat} {ro dat:Nat->Prop} {st:St} {a n t:Int} {dv vd:V} {D:List UInt8}
include hcl
end
section
variable {call:Call} {fuel base:Nat} {K:List Fr} {e:Env} {h:H} {Q:Post} {ix:Nat} {dst:Option Nat} {ops:List Ins} {keep:List Nat}
theorem Ops.copyB {x y:Opd} {B:Nat} {v:V} {l:List UInt8} (hx:x.ev e=some (.slice (some (B,0)) 0 (.fix 0))) (hy:y.ev e=some v) (hv:VB h v l) (hl:l.length<=1000000)
  (k : ∀ a c h',VB h' (.slice (some (a,0)) l.length c) l->(l≠[]->h'.get a=some (.cells (bts l) false))->Old h h'->(a=B\/(h.nx<=a/\a<h'.nx))->Ops call fuel base ops keep K (layv e dst (.slice (some (a,0)) l.length c)) h' Q) :
  Ops call fuel base (⟨ix,dst,.append 1 1 x y,none,none,[]⟩ :: ops) keep K e h Q:=by
 obtain ⟨a,cp,rfl,n,f,g⟩:=hv
 by_cases hn:l=[]
 ·subst hn
  have hsrc:jam h 1 0 (.slice a 0 cp)=some []:=by cases a<;>rfl
  refine Ops.step (v := .slice (some (B,0)) 0 (.fix 0)) (h':=h) (I.run_eff rfl ?_) (k B (.fix 0) h ⟨some (B,0),.fix 0,rfl,fun e=>(by cases e),zp _,fun e=>zI rfl e⟩ (fun e=>zI rfl e) (Zn _) (.inl rfl))
  simp only [I.eff,hx,hy,jav,lenOf,List.length_nil,hsrc]
  rfl
 ·obtain ⟨b,o,cs,ro,rfl,h1,h2,h3⟩:=g hn
  have hpos:0<l.length:=List.length_pos_iff.2 hn
  obtain ⟨p1,p2⟩:=jfF (k:=0) (m:=l.length) h3 om hpos
  rw [zj,zg (zp _)] at p2
  have hload:h.load b o (l.length*1)=some (bts l):=by
   unfold H.load
   rw [h2]
   simp only
   rw [Nat.mul_one,show Nat.ble (o+l.length) cs.length=true by rw [zO];omega]
   simp only [cond_true]
   rw [<- p2,Nat.add_zero]
  have hsrc:jam h 1 l.length (.slice (some (b,o)) l.length cp)=some (bts l):=by
   unfold jam
   simp only
   rw [hload,show (l.length*1 == 0)=false by simp;omega]
   rfl
  have ho:Old h (h.new (.cells (bts l) false)):=⟨by simp,fun j hj=>jad hj⟩
  refine Ops.step (v := .slice (some (h.nx,0)) l.length (.grow 1)) (h':=h.new (.cells (bts l) false)) (I.run_eff rfl ?_) (k h.nx (.grow 1) _ ⟨some (h.nx,0),.grow 1,rfl,fun e=>(by cases e),by simp [Cap.fits],fun _=>⟨h.nx,0,bts l,false,rfl,by simp,jac _,fun i x hi=>by rw [zN];exact jjl hi⟩⟩ (fun _=>jac _) ho (.inr ⟨zp _,by simp⟩))
  simp only [I.eff,hx,hy,jav,lenOf,hsrc]
  have c1:(Nat.ble ((0+l.length)*1) (2 ^ 46)&&Nat.ble (0+l.length) (2 ^ 46))=true:=by simp only [zn,zO];omega
  have c2:(l.length == 0)=false:=by simp;exact hn
  have c3:Nat.ble (0+l.length) 0=false:=by
   cases hb:Nat.ble (0+l.length) 0 with
   | false=>rfl
   | true=>rw [zO] at hb;omega
  rw [c1,c2,c3]
  simp only [cond_true,cond_false,Nat.zero_mul,beq_self_eq_true,zU,zN]
  rfl
end
section
variable {cl:Nat->Call} (hcl:Sem cl)
include hcl
end
def PD (h:H) (p w s rw:Nat) (ow:Nat->Nat) (ro dat:Nat->Prop) (vd:V) (st':St):Post:=fun y e g=>y = .normal/\e=[(5,vd),(6,.bool true)] /\ ∃ ow' ro',BB g p w s rw ow' ro' dat st' st'/\Fm h g ow ro ow' ro'
theorem PD.mk {call:Call} {fuel:Nat} {h g:H} {p w s rw:Nat} {ow ow':Nat->Nat} {ro ro' dat:Nat->Prop} {vd:V} {st':St} (b:BB g p w s rw ow' ro' dat st' st') (f:Fm h g ow ro ow' ro'):End call fuel [] .normal [(5,vd),(6,.bool true)] g (PD h p w s rw ow ro dat vd st') :=
 End.nil ⟨rfl,rfl,ow',ro',b,f⟩
section
variable {cl:Nat->Call} (hcl:Sem cl) {h:H} {p w s rw:Nat} {ow:Nat->Nat} {ro dat:Nat->Prop} {st:St} {a n t:Int} {dv vd:V} {D:List UInt8}
include hcl
end
section
variable {cl:Nat->Call} (hcl:Sem cl) {h:H} {p w s rw:Nat} {ow:Nat->Nat} {ro dat:Nat->Prop} {st:St} {a n t:Int} {dv vd:V} {D:List UInt8}
include hcl
end
section
variable {cl:Nat->Call} (hcl:Sem cl) {h:H} {p w s rw:Nat} {ow:Nat->Nat} {ro dat:Nat->Prop} {st:St} {a n t:Int} {dv vd:V} {D:List UInt8}
include hcl
end
section
variable {cl:Nat->Call} (hcl:Sem cl) {h:H} {p w s rw:Nat} {ow:Nat->Nat} {ro dat:Nat->Prop} {st:St} {k a n t:Int} {dv vd:V} {D:List UInt8}
include hcl
end
section
variable {cl:Nat->Call} (hcl:Sem cl)
include hcl
theorem Fin.mono {res:List RV} {R R':V->H->Prop} {x:Ex} {e:Env} {h:H} (k:Fin res R x e h) (hR : ∀ v,R v h->R' v h):Fin res R' x e h:=by
 obtain ⟨p1,l,p2,p3⟩:=k;exact ⟨p1,l,p2,hR _ p3⟩
end
theorem jfE {e:Env} {h:H} {d n:Nat} {a:Opd} {g:Option (Nat × Bool)} {r:List (Nat × I × Option (Nat × Bool))} {b o:Nat} {l:List V} {ro:Bool} {v:List V} (ha:a.ev e=some (.ptr (some (b,o)))) (hb:h.get b=some (.cells l ro)) (hn:o+n<=l.length)
  (hv:(l.drop o).take n=v) (hd:e.get d=some (.agg v)) (k:ja0 e h r=true):ja0 e h ((d,.loadN n a,g) :: r)=true:=by
 simp only [ja0,I.read,ha,jb3 hb hn,hv,hd,V.same_refl,k,Bool.and_true]
 cases wanted e g<;>rfl
section
variable {cl:Nat->Call} (hcl:Sem cl)
include hcl
end
section
variable {cl:Nat->Call} (hcl:Sem cl) {h0:H} {w s:Nat} {ow:Nat->Nat} {ws:Ws} {now:Int} {tb:Tb} {no:Option (Nat × Nat)}
include hcl
end
structure Rdy where
 op:Bool
 inn:Bool
 out:Bool
 hup:Bool
 err:Bool
 rd:Int
 wr:Int
def Rdy.cells (r:Rdy):List V:=[.bool r.op,.bool r.inn,.bool r.out,.bool r.hup,.bool r.err,.int .u64 r.rd,.int .u64 r.wr]
def Rdy.no:Rdy:=⟨false,false,false,false,false,0,0⟩
def mayAsk (ev:Int):Prop:=ev=0\/ev=1\/ev=4\/ev=5
instance (ev:Int):Decidable (mayAsk ev):=inferInstanceAs (Decidable (_\/_))
structure BX (h0 h:H) (p w s rw:Nat) (ow:Nat->Nat) (ro:Nat->Prop) (st:St) (i:Nat):Prop where
 b:BB h p w s rw ow ro (fun j=>j<h0.nx) st st
 so:StOk st i
 old:Old h0 h
 own : ∀ j,ow j≠0\/ro j->h0.nx<=j
 lp:h0.nx<=p
def st0:St:=⟨[],0,Tb.zero,none⟩
theorem atS_nil (fd:Int):atS [] fd=none:=jhk fun n k=>by rintro ⟨x,h,_⟩;simp at h
theorem jkQ:StOk st0 0 where
 K:=⟨⟨fun n k n' k' fd h=>(by obtain ⟨x,hx,_⟩:=h;simp [st0] at hx),fun x hx=>(by simp [st0] at hx),by simp [st0],fun x hx=>(by simp [st0] at hx)⟩,fun i j x y p q m hx=>by simp [st0] at hx⟩
 nt := .inl rfl
 now:=⟨Int.le_refl _,by show (0:Int)<=_;omega⟩
 tb:=fun k=>⟨Int.le_refl _,Int.le_refl _⟩
theorem Ops.build {call:Call} {fuel base:Nat} {K:List Fr} {e:Env} {h:H} {Q:Post} {ix:Nat} {dst:Option Nat} {ops:List Ins} {keep:List Nat} {at_:Option Nat} {zero l:List V} {parts:List (Nat × Nat × Opd)} {ps:List (Nat × Nat × V)}
  (he:jaG e parts=some ps) (hf:ja4 zero ps=some l) (k:Ops call fuel base ops keep K (layv e dst (.agg l)) h Q):Ops call fuel base (⟨ix,dst,.build zero parts,none,at_,[]⟩ :: ops) keep K e h Q :=
 Ops.pure rfl (by simp only [I.pure,he,hf]) k
section
variable {cl:Nat->Call} (hcl:Sem cl)
include hcl
def wc0 (s:Nat):List V:=(List.replicate 96 ([.bool false,.i 0,.i 0]:List V)).flatten++[.nils,.p s 0,.int .u64 0,.bool false,.i 0,.i 0]
omit hcl in
theorem wc0_eq (s:Nat):wc0 s=wc (fun i=>atS [] (i:Int)) .nils s 0 none:=by
 have e:(fun i:Nat=>atS [] (i:Int))=fun _=>none:=by funext i;exact atS_nil _
 rw [e]
 have:(List.replicate 96 ([.bool false,.i 0,.i 0]:List V)).flatten=jcz fun _=>none:=by
  kernel_rfl
 unfold wc0 wc
 rw [this]
 rfl
omit hcl in
theorem fillW (s:Nat):ja4 ((List.replicate 96 ([.bool false,.i 0,.i 0]:List V)).flatten++[.nils,.ptr none,.int .u64 0,.bool false,.i 0,.i 0]) [(289,1,.p s 0)]=some (wc0 s):=by kernel_rfl
set_option maxRecDepth 100000 in
theorem nw_world {d:Nat} (hd:2<=d) (h:H):cl d (.fn 7) [] h=some (.p (h.nx+1) 0,(h.new Tb.zero.obj).new (.cells (wc0 h.nx) false)):=by
 have hs:=sp_new hcl (d:=d-1) om h
 refine jao (aT hcl ?_)
 refine Run.seq (Run.region0 (Ops.mv rfl (Ops.nil qkp (End.seq (Run.seq (Run.region0 (zaw rfl hs (Ops.build rfl (fillW h.nx) (zcu rfl rfl ?_)))))))))
 refine qo ?_
 exact ⟨rfl,rfl⟩
end
def jkC (n:Int):UInt8:=UInt8.ofNat n.toNat
theorem byteI_V {n:Int} (h1:0<=n) (h2:n<=255):jbN (jkC n) = .int .u8 n:=by
 have:n.toNat<256:=by omega
 simp only [jbN,jkC,UInt8.toNat_ofNat',Nat.mod_eq_of_lt this]
 congr 1;omega
theorem jh9 {h:H} : ∀ {l:List Int} {cs:List V},jaE (jcx .u8) h l cs->cs=bts (l.map jkC)
 | [],_,e=>e
 | x :: l,_,⟨u,w,e,h1,h2⟩=>by
  obtain ⟨rfl,h3⟩:=h1
  rw [e,jh9 h2,<- byteI_V h3.1 h3.2];rfl
theorem bytes_of {h:H} {l:List Int} {u:V} {B:Nat} (r:jbL B (jcx .u8) h l [u]) : ∃ a c,u = .slice a l.length (.fix c)/\(l.length<=B->BytesAt h a (.fix c) (l.map jkC)):=by
 obtain ⟨a,c,e,h1,h2,h3⟩:=r
 cases e
 refine ⟨a,c,rfl,fun hB=>⟨fun e=>?_,by show (l.map jkC).length<=c;simpa using h2,fun hn=>?_⟩⟩
 ·obtain ⟨rfl,rfl⟩:=h3 e;exact ⟨rfl,rfl⟩
 ·obtain ⟨b,cs,q1,q2,q3,q4⟩:=h1 hB (by rintro rfl;exact hn rfl)
  refine ⟨b,0,cs,true,q1,q2,q3,fun i x hi=>?_⟩
  rw [jh9 q4,zN];exact jjl hi
theorem BytesAt.keep {h h':H} {a:Option (Nat × Nat)} {c:Cap} {l:List UInt8} (t:BytesAt h a c l) (hx:h.nx<=h'.nx) (hk : ∀ j o,j<h.nx->h.get j=some o->h'.get j=some o):BytesAt h' a c l :=
 ⟨t.none_,t.fits,fun hn=>by
  obtain ⟨b,o,cs,ro,q1,q2,q3,q4⟩:=t.at_ hn
  exact ⟨b,o,cs,ro,q1,by omega,hk _ _ q2 q3,q4⟩⟩
theorem BytesAt.lt {h:H} {a:Option (Nat × Nat)} {c:Cap} {l:List UInt8} (t:BytesAt h a c l) {N:Nat} (hN:h.nx<=N) {z o:Nat} (ha:a=some (z,o)) (hl:l≠[]):z<N:=by
 obtain ⟨b,o',cs,ro,q1,q2,_⟩:=t.at_ hl
 rw [q1] at ha;cases ha;omega
structure OpX where
 k:Int
 a:Int
 n:Int
 t:Int
 dv:V
 D:List UInt8
abbrev OpX.V (x:OpX):List V:=opV x.k x.a x.n x.t x.dv
structure OpOk (h:H) (x:OpX):Prop where
 dv : ∃ a c,x.dv = .slice a x.D.length c/\(x.D.length<=300->BytesAt h a c x.D)
 t0:0<=x.t
 t1:x.t<=18446744073709551615
theorem OpOk.keep {h h':H} {x:OpX} (o:OpOk h x) (hx:h.nx<=h'.nx) (hk : ∀ j o,j<h.nx->h.get j=some o->h'.get j=some o):OpOk h' x:=by
 obtain ⟨⟨a,c,e,g⟩,t0,t1⟩:=o
 exact ⟨⟨a,c,e,fun hl=>(g hl).keep hx hk⟩,t0,t1⟩
theorem OpOk.dat {h:H} {x:OpX} (o:OpOk h x) (hl:x.D.length<=300):Dat h (fun j=>j<h.nx) x.dv x.D:=by
 obtain ⟨⟨a,c,e,g⟩,_,_⟩:=o
 refine ⟨⟨a,c,e,g hl⟩,fun hn z hz=>?_,hl⟩
 obtain ⟨b,o,cs,ro,q1,q2,_⟩:=(g hl).at_ hn
 rw [e,q1] at hz
 cases hz;exact q2
def jm0 (h:H) (lv:V) (L:List OpX):Prop := ∃ ad c,lv = .slice ad L.length c/\(L.length<=200->(∀ x∈L,OpOk h x)/\(L≠[] -> ∃ b cs ro,ad=some (b,0)/\b<h.nx/\h.get b=some (.cells cs ro)/\cs.length=L.length*5 /\ ∀ (i:Nat) (x:OpX),L[i]?=some x->(cs.drop (i*5)).take 5=x.V))
theorem jm0.keep {h h':H} {lv:V} {L:List OpX} (o:jm0 h lv L) (hx:h.nx<=h'.nx) (hk : ∀ j o,j<h.nx->h.get j=some o->h'.get j=some o):jm0 h' lv L:=by
 obtain ⟨ad,c,e,g⟩:=o
 refine ⟨ad,c,e,fun hl=>⟨fun x hx'=>((g hl).1 x hx').keep hx hk,fun hn=>?_⟩⟩
 obtain ⟨b,cs,ro,q1,q2,q3,q4⟩:=(g hl).2 hn
 exact ⟨b,cs,ro,q1,by omega,hk _ _ q2 q3,q4⟩
theorem jfa {α : Type} {l:List α} {i:Nat} (h:i<l.length) : ∃ x,l[i]?=some x:=⟨_,za h⟩
section
variable {cl:Nat->Call} (hcl:Sem cl)
include hcl
end
def jlF (n:Nat) (v:V) (h':H):Bool:=jlz v&&(Nat.beq h'.nx n&&Nat.ble (ttop h'.t) n)
theorem flat_get : ∀ {L:List OpX} {i:Nat} {x:OpX},L[i]?=some x->(((L.map OpX.V).flatten).drop (i*5)).take 5=x.V
 | [],i,x,h=>by simp at h
 | y :: L,0,x,h=>by simp at h;subst h;rfl
 | y :: L,i+1,x,h=>by
  rw [List.map_cons,zT,show (i+1)*5=(OpX.V y).length+i*5 by show _=5+_;omega,<- List.drop_drop,List.drop_left]
  exact flat_get (by simpa using h)
structure MvX where
 m:Mv
 dv:V
abbrev MvX.V (x:MvX):List V:=mvV x.m x.dv
def MvOk (h:H) (x:MvX):Prop := ∃ a c,x.dv = .slice a x.m.D.length c/\(x.m.D.length<=1100->BytesAt h a c x.m.D)
def MvsAt (h:H) (v:V) (l:List MvX):Prop := ∃ ad c,v = .slice ad l.length c/\(l≠[] -> ∃ b cs ro,ad=some (b,0)/\b<h.nx/\h.get b=some (.cells cs ro)/\cs.length=l.length*4 /\ ∀ (i:Nat) (x:MvX),l[i]?=some x->(cs.drop (i*4)).take 4=x.V)
def jlK (B:Nat) (h:H) (v:V) (l:List MvX):Prop:=(∃ ad c,v = .slice ad l.length c)/\(l.length<=B->(∀ x∈l,MvOk h x)/\MvsAt h v l)
structure SpX where
 t:Int
 intr:Bool
 ol:List Int
 ov:V
 ml:List MvX
 mv:V
abbrev SpX.V (x:SpX):List V:=[.int .u64 x.t,.bool x.intr,x.ov,x.mv]
structure SpOk (h:H) (x:SpX):Prop where
 ov:(∃ ad c,x.ov = .slice ad x.ol.length c)/\(x.ol.length<=60->VI h x.ov x.ol)
 mv:jlK 60 h x.mv x.ml
 t0:0<=x.t
 t1:x.t<=18446744073709551615
def jlG (h:H) (v:V) (l:List SpX):Prop := ∃ ad c,v = .slice ad l.length c/\(l.length<=100->(∀ x∈l,SpOk h x)/\(l≠[] -> ∃ b cs ro,ad=some (b,0)/\b<h.nx/\h.get b=some (.cells cs ro)/\cs.length=l.length*4 /\ ∀ (i:Nat) (x:SpX),l[i]?=some x->(cs.drop (i*4)).take 4=x.V))
def sumM:List SpX->Nat
 | []=>0
 | x :: l=>x.ml.length+sumM l
theorem sumM_take {l:List SpX} : ∀ {i:Nat} {x:SpX},l[i]?=some x->sumM (l.take (i+1))=sumM (l.take i)+x.ml.length:=by
 induction l with
 | nil=>intro i x h;simp at h
 | cons y l ih=>
  intro i x h
  match i,h with
  | 0,h=>simp at h;subst h;simp [sumM]
  | i+1,h=>
   have:=ih (i:=i) (x:=x) (by simpa using h)
   simp only [List.take_succ_cons,sumM] at this ⊢
   omega
structure fewS (l:List SpX):Prop where
 len:l.length<=100
 each : ∀ x∈l,x.ml.length<=60/\x.ol.length<=60 /\ ∀ m∈x.ml,m.m.D.length<=1100
 sum:sumM l<=500
theorem jmy {cs l:List V} {i j:Nat} (h:(cs.drop (i*4)).take 4=l) (hj:j<4):cs[0+(i:Int).toNat*4+j]?=l[j]?:=by
 rw [<- h,zL,zC hj,zl]
 congr 1
 omega
section
variable {cl:Nat->Call} (hcl:Sem cl)
include hcl
theorem gs_ok {d:Nat} {h:H} {v:V} {l:List SpX} (hd:1<=d) (hl:jlG h v l) :
  ∃ r,cl d (.fn 5) [v] h=some (r,h)/\(r = .i 1\/(r = .i 0/\fewS l)):=by
 obtain ⟨ad,c,rfl,hin⟩:=hl
 suffices ∃ r h',cl d (.fn 5) [.slice ad l.length c] h=some (r,h')/\(h'=h/\(r = .i 1\/(r = .i 0/\fewS l))) by
  obtain ⟨v,h',q1,rfl,q3⟩:=this
  exact ⟨v,q1,q3⟩
 refine aT hcl ?_
 by_cases h1:100<(l.length:Int)
 ·refine qx ?_
  exact ⟨rfl,.inl rfl⟩
 obtain ⟨hok,hel⟩:=hin om
 refine qx ?_
 refine Zl (fun m e h'=>∃ (i:Nat) (n:Int),m=l.length-i/\i<=l.length/\e=[(0,.slice ad l.length c),(3,.i n),(10,.i (l.length:Int)),(11,.i (i:Int))]/\h'=h/\0<=n/\n<=4000/\(sumM (l.take i):Int)<=n/\sumM (l.take i)<=500 /\ ∀ j x,j<i->l[j]?=some x->x.ml.length<=60/\x.ol.length<=60 /\ ∀ m∈x.ml,m.m.D.length<=1100)
  (k:=l.length) Ze ⟨0,0,rfl,by omega,rfl,rfl,by omega,by omega,by simp [sumM],by simp [sumM],fun j x hj=>by omega⟩ ?_
 rintro _ _ g ⟨i,n,rfl,hi,rfl,rfl,n0,n1,n2,n3,hj⟩ n' ih
 by_cases hlt:(i:Int)<l.length
 case neg=>
  obtain rfl:i=l.length:=by omega
  rw [List.take_length] at n3
  have hf:fewS l:=⟨by omega,fun x hx=>by
   obtain ⟨j,hjl,e⟩:=List.getElem_of_mem hx
   exact hj j x om (by rw [za hjl,e]),n3⟩
  clear ih hel hok hj
  refine qx ?_
  exact ⟨rfl,.inr ⟨rfl,hf⟩⟩
 obtain ⟨x,hx⟩:=jfa (l:=l) (i:=i) om
 obtain ⟨b,cs,ro,rfl,_,hb,hcs,hc⟩:=hel (by rintro rfl;simp at hx)
 obtain ⟨⟨⟨oa,oc,eov⟩,_⟩,⟨⟨ma,mc,emv⟩,hmin⟩,_,_⟩:=hok x (zc hx)
 have h4:=hc i x hx
 have c2:cs[0+(i:Int).toNat*4+2]?=some (.slice oa x.ol.length oc):=by rw [jmy h4 om,<- eov];rfl
 have c3:cs[0+(i:Int).toNat*4+3]?=some (.slice ma x.ml.length mc):=by rw [jmy h4 om,<- emv];rfl
 have hs:=sumM_take hx
 clear hel hok hc h4
 by_cases k1:60<(x.ml.length:Int)
 ·clear ih hj
  refine qx ?_
  exact ⟨rfl,.inl rfl⟩
 by_cases k2:60<(x.ol.length:Int)
 ·clear ih hj
  refine qx ?_
  exact ⟨rfl,.inl rfl⟩
 by_cases k3:500<n+(x.ml.length:Int)+(x.ol.length:Int)
 ·clear ih hj
  refine qx ?_
  exact ⟨rfl,.inl rfl⟩
 obtain ⟨hmok,hmat⟩:=hmin om
 have hi1:(i:Int)+1=((i+1:Nat):Int):=by omega
 refine qx ?_
 refine Zl (fun m e h'=>∃ (k:Nat) (n':Int),m=x.ml.length-k/\k<=x.ml.length/\e=[(0,.slice (some (b,0)) l.length c),(3,.i n'),(4,.i (i:Int)),(10,.i (l.length:Int)),(11,.i (i:Int)),(54,.i (x.ml.length:Int)),(55,.i (k:Int))]/\h'=g/\n+(x.ml.length:Int)+(x.ol.length:Int)<=n'/\n'<=500+55*(k:Int) /\ ∀ j y,j<k->x.ml[j]?=some y->y.m.D.length<=1100)
  (k:=x.ml.length) Ze ⟨0,_,rfl,by omega,rfl,rfl,by omega,by omega,fun j y hj=>by omega⟩ ?_
 rintro _ _ _ ⟨k,n',rfl,hk,rfl,rfl,p0,p1,hjk⟩ n'' ih2
 by_cases hlt2:(k:Int)<x.ml.length
 case neg=>
  clear ih2
  have hall : ∀ m∈x.ml,m.m.D.length<=1100:=fun m hm=>by
   obtain ⟨j,hjl,e⟩:=List.getElem_of_mem hm
   exact hjk j m om (by rw [za hjl,e])
  refine qx ?_
  rw [hi1]
  refine ih (l.length-(i+1)) om _ _ ⟨i+1,n',rfl,by omega,rfl,rfl,by omega,by omega,by rw [hs];omega,by rw [hs];omega,fun j y hj' hy=>?_⟩
  by_cases e:j=i
  ·subst e
   rw [hx] at hy;cases hy
   exact ⟨by omega,by omega,hall⟩
  ·exact hj j y om hy
 obtain ⟨y,hy⟩:=jfa (l:=x.ml) (i:=k) om
 obtain ⟨ad',c',emv',hne⟩:=hmat
 obtain ⟨b2,cs2,ro2,e2,_,hb2,hcs2,hc2⟩:=hne (by intro e;rw [e] at hy;simp at hy)
 obtain ⟨da,dc,edv,_⟩:=hmok y (zc hy)
 obtain ⟨rfl,rfl⟩:ma=ad'/\mc=c':=by rw [emv] at emv';cases emv';exact ⟨rfl,rfl⟩
 subst e2
 have d3:cs2[0+(k:Int).toNat*4+3]?=some (.slice da y.m.D.length dc):=by rw [jmy (hc2 k y hy) om,<- edv];rfl
 have hk1:(k:Int)+1=((k+1:Nat):Int):=by omega
 clear hmok hne hc2
 by_cases k4:1100<(y.m.D.length:Int)
 ·clear ih ih2 hj hjk
  refine qx ?_
  exact ⟨rfl,.inl rfl⟩
 refine qx ?_
 have q1:(0:Int)<=(y.m.D.length:Int)/20/\(y.m.D.length:Int)/20<=55:=by omega
 have q2:(y.m.D.length:Int).tdiv 20=(y.m.D.length:Int)/20:=Int.tdiv_eq_ediv_of_nonneg om
 rw [q2,jd4 (n:=(y.m.D.length:Int)/20) ⟨by omega,by omega⟩,jd4 (n:=n'+(y.m.D.length:Int)/20) ⟨by omega,by omega⟩,hk1]
 refine ih2 (x.ml.length-(k+1)) om _ _ ⟨k+1,_,rfl,by omega,rfl,rfl,by omega,by omega,fun j z hj' hz=>?_⟩
 by_cases e:j=k
 ·subst e
  rw [hy] at hz;cases hz
  omega
 ·exact hjk j z om hz
end
abbrev jmx:H->Int × Int × Int × List Int × Unit->List V->Prop:=jcA (jcx .i64) (jcA (jcx .i64) (jcA (jcx .i64) (jcA (jbL 1100 (jcx .u8)) jlh)))
theorem jls {h:H} : ∀ {l:List (Int × Int × Int × List Int × Unit)} {cs:List V},jaE jmx h l cs -> ∃ L:List MvX,L.length=l.length/\cs=(L.map MvX.V).flatten /\ ∀ x∈L,MvOk h x
 | [],_,e=>⟨[],rfl,e,fun x hx=>by cases hx⟩
 | y :: l,_,⟨u,w,e,h1,h2⟩=>by
  obtain ⟨L,l1,l2,l3⟩:=jls h2
  obtain ⟨_,_,rfl,⟨rfl,_⟩,_,_,rfl,⟨rfl,_⟩,_,_,rfl,⟨rfl,_⟩,u5,w5,rfl,r5,hw⟩:=h1
  obtain rfl:w5=[]:=hw
  have ⟨ad,c,e5,_⟩:=r5
  subst e5
  obtain ⟨a,c,e6,hB⟩:=bytes_of r5
  refine ⟨⟨⟨y.1,y.2.1,y.2.2.1,y.2.2.2.1.map jkC⟩,.slice a y.2.2.2.1.length (.fix c)⟩ :: L,by simp [l1],by rw [e,l2,e6];rfl,fun x hx=>?_⟩
  rcases zX.1 hx with rfl | hx
  ·exact ⟨a,.fix c,by simp,fun hl=>hB (by simpa using hl)⟩
  ·exact l3 x hx
theorem jdQ {α : Type} {f : α -> List V} (hf : ∀ x,(f x).length=4) : ∀ L:List α,(L.map f).flatten.length=L.length*4
 | []=>rfl
 | x :: L=>by
  have:=jdQ hf L
  show (f x++(L.map f).flatten).length=_
  rw [zf,this,hf]
  simp;omega
theorem jbG {α : Type} {f : α -> List V} (hf : ∀ x,(f x).length=4) : ∀ {L:List α} {i:Nat} {x : α},L[i]?=some x->(((L.map f).flatten).drop (i*4)).take 4=f x
 | [],i,x,h=>by simp at h
 | y :: L,0,x,h=>by
  simp at h;subst h
  show ((f y++(L.map f).flatten).drop (0*4)).take 4=f y
  rw [Nat.zero_mul,zj,List.take_append_of_le_length (by rw [hf y];exact zp _),zg (by rw [hf y];exact zp _)]
 | y :: L,i+1,x,h=>by
  rw [List.map_cons,zT,show (i+1)*4=(f y).length+i*4 by rw [hf];omega,<- List.drop_drop,List.drop_left]
  exact jbG hf (by simpa using h)
theorem MvOk.keep {h h':H} {x:MvX} (o:MvOk h x) (a:Old h h'):MvOk h' x:=by
 obtain ⟨z,c,e,g⟩:=o
 exact ⟨z,c,e,fun hl=>⟨(g hl).none_,(g hl).fits,fun hn=>by
  obtain ⟨b,o,cs,ro,q1,q2,q3,q4⟩:=(g hl).at_ hn
  exact ⟨b,o,cs,ro,q1,zq q2 a.1,by rw [a.2 b q2,q3],q4⟩⟩⟩
def At4 {α : Type} (h:H) (P:Nat->Prop) (f : α -> List V) (v:V) (l:List α):Prop :=
 ∃ ad c,v = .slice ad l.length c/\(ad=none->c = .fix 0/\l=[])/\Cap.fits c l.length 4/\(l≠[] -> ∃ b o cs ro,ad=some (b,o)/\b<h.nx/\P b/\h.get b=some (.cells cs ro) /\ ∀ (i:Nat) (x : α),l[i]?=some x->(cs.drop (o+i*4)).take 4=f x)
theorem At4.keep {α : Type} {h h':H} {P P':Nat->Prop} {f : α -> List V} {v:V} {l:List α} (a:At4 h P f v l) (hx:h.nx<=h'.nx) (hk : ∀ z,z<h.nx->P z->h'.get z=h.get z/\P' z):At4 h' P' f v l:=by
 obtain ⟨ad,c,e,n,ft,g⟩:=a
 refine ⟨ad,c,e,n,ft,fun hl=>?_⟩
 obtain ⟨b,o,cs,ro,e1,e2,e3,e4,e5⟩:=g hl
 exact ⟨b,o,cs,ro,e1,zq e2 hx,(hk b e2 e3).2,by rw [(hk b e2 e3).1,e4],e5⟩
theorem jfP {cs l:List V} {k:Nat} (h:(cs.drop k).take 4=l) (hl:l.length=4):k+4<=cs.length:=by
 have:=congrArg List.length h
 rw [List.length_take,List.length_drop,hl] at this
 omega
theorem jgq {cs l:List V} {k j:Nat} (h:(cs.drop k).take 4=l) (hj:j<4):cs[k+j]?=l[j]?:=by
 rw [<- h,zL,zC hj,zl]
structure StepAt (h:H) (P Q:Nat->Prop) (x:SpX):Prop where
 ov:VI h x.ov x.ol/\(x.ol≠[] -> ∀ z,x.ov.at?=some z->P z)
 mv:At4 h P MvX.V x.mv x.ml
 dv : ∀ m∈x.ml,VB h m.dv m.m.D/\(m.m.D≠[] -> ∀ z,m.dv.at?=some z->Q z)
 t0:0<=x.t
 t1:x.t<=18446744073709551615
def jex (h:H) (P Q:Nat->Prop) (v:V) (l:List SpX):Prop:=At4 h P SpX.V v l /\ ∀ x∈l,StepAt h P Q x
theorem VI.lt {h:H} {v:V} {l:List Int} (a:VI h v l) (hl:l≠[]) {z:Nat} (hz:v.at?=some z):z<h.nx:=by
 obtain ⟨a,c,rfl,n,f,g⟩:=a
 obtain ⟨b,o,cs,ro,rfl,h1,_⟩:=g hl
 cases hz;exact h1
theorem StepAt.keep {h h':H} {P Q P' Q':Nat->Prop} {x:SpX} (a:StepAt h P Q x) (hx:h.nx<=h'.nx) (hp : ∀ z,z<h.nx->P z->h'.get z=h.get z/\P' z) (hq : ∀ z,z<h.nx->Q z->h'.get z=h.get z/\Q' z):StepAt h' P' Q' x where
 ov:=⟨a.ov.1.keep2 hx fun hl z hz=>(hp z (a.ov.1.lt hl hz) (a.ov.2 hl z hz)).1,fun hl z hz=>(hp z (a.ov.1.lt hl hz) (a.ov.2 hl z hz)).2⟩
 mv:=a.mv.keep hx hp
 dv m hm:=⟨(a.dv m hm).1.keep2 hx fun hl z hz=>(hq z ((a.dv m hm).1.lt hl hz) ((a.dv m hm).2 hl z hz)).1,fun hl z hz=>(hq z ((a.dv m hm).1.lt hl hz) ((a.dv m hm).2 hl z hz)).2⟩
 t0:=a.t0
 t1:=a.t1
theorem jex.keep {h h':H} {P Q P' Q':Nat->Prop} {v:V} {l:List SpX} (a:jex h P Q v l) (hx:h.nx<=h'.nx) (hp : ∀ z,z<h.nx->P z->h'.get z=h.get z/\P' z) (hq : ∀ z,z<h.nx->Q z->h'.get z=h.get z/\Q' z):jex h' P' Q' v l :=
 ⟨a.1.keep hx hp,fun x hx'=>(a.2 x hx').keep hx hp hq⟩
theorem StepAt.old {h h':H} {P Q:Nat->Prop} {x:SpX} (a:StepAt h P Q x) (o:Old h h'):StepAt h' P Q x:=a.keep o.1 (fun z hz hp=>⟨o.2 z hz,hp⟩) (fun z hz hp=>⟨o.2 z hz,hp⟩)
theorem jex.old {h h':H} {P Q:Nat->Prop} {v:V} {l:List SpX} (a:jex h P Q v l) (o:Old h h'):jex h' P Q v l:=a.keep o.1 (fun z hz hp=>⟨o.2 z hz,hp⟩) (fun z hz hp=>⟨o.2 z hz,hp⟩)
theorem At4.old {α : Type} {h h':H} {P:Nat->Prop} {f : α -> List V} {v:V} {l:List α} (a:At4 h P f v l) (o:Old h h'):At4 h' P f v l:=a.keep o.1 fun z hz hp=>⟨o.2 z hz,hp⟩
def SpX.sp (x:SpX):Sp:=⟨x.t,x.intr,x.ol,x.ml.map MvX.m⟩
def Sp.may (x:Sp):Prop:=x.moves.length<=50/\x.order.length<=50/\(∀ n∈x.order,0<=n/\n<=999) /\ ∀ m∈x.moves,m.may
instance (x:Sp):Decidable x.may:=by unfold Sp.may;infer_instance
def badN (n:Int):Prop:=n<0\/n>999
instance:DecidablePred badN:=fun n=>by unfold badN;infer_instance
section
variable {cl:Nat->Call} (hcl:Sem cl)
include hcl
theorem if_4 {α : Type} {d f g:Nat} {h:H} {P:Nat->Prop} {V4 : α -> List V} {bad : α -> Prop} [DecidablePred bad] {v:V} {l:List α} (hV : ∀ x,(V4 x).length=4) (hf:jbI prog.prims f=none) (hf2:jbI prog.fns f=some c60) (hd:1<=d) (a:At4 h P V4 v l) (hl:l.length<=50000)
  (k : ∀ x∈l,∀ h1,Old h h1 -> ∃ h2,cl (d-1) (.fn g) [.agg (V4 x)] h1=some (.bool (decide (bad x)),h2)/\Old h1 h2) :
  ∃ r h',cl d (.fn f) [v,.clo g []] h=some (.i r,h')/\Old h h'/\(0<=r ↔ ∃ x∈l,bad x):=by
 suffices q : ∃ w h',cl d (.fn f) [v,.clo g []] h=some (w,h') /\ ∃ r,w = .i r/\Old h h'/\(0<=r ↔ ∃ x∈l,bad x) by
  obtain ⟨_,h',e,r,rfl,q⟩:=q;exact ⟨r,h',e,q⟩
 obtain ⟨ad,c,rfl,_,_,hb⟩:=a
 refine at_ hcl om hf hf2 rfl ?_
 refine qx ?_
 refine Zl (fun m e h1=>∃ i:Nat,m=l.length-i/\i<=l.length/\e=[(0,.slice ad l.length c),(1,.clo g []),(7,.i (l.length:Int)),(8,.i (i:Int))]/\Old h h1 /\ ∀ j x,j<i->l[j]?=some x -> ¬ bad x)
  (k:=l.length) Ze ⟨0,rfl,by omega,rfl,Zn h,fun j x hj=>by omega⟩ ?_
 rintro _ _ h1 ⟨i,rfl,hi,rfl,o,hj⟩ n' ih
 by_cases hlt:(i:Int)<l.length
 case neg=>
  have hno : ¬ ∃ x∈l,bad x:=fun ⟨x,hx,hb⟩=>by
   obtain ⟨j,hjl,e⟩:=List.getElem_of_mem hx
   exact hj j x om (by rw [za hjl,e]) hb
  clear ih hb hj k
  refine qx ?_
  exact ⟨_,rfl,o,fun e=>zI e om,fun e=>zI e hno⟩
 obtain ⟨x,hx⟩:=jfa (l:=l) (i:=i) om
 obtain ⟨b,oo,cs,ro,rfl,lb,_,gb,hc⟩:=hb (by rintro rfl;simp at hx)
 have gb1:h1.get b=some (.cells cs ro):=by rw [o.2 b lb,gb]
 have h4:(cs.drop (oo+(i:Int).toNat*4)).take 4=V4 x:=by rw [zt];exact hc i x hx
 have hlen:=jfP h4 (hV x)
 have hxm:=zc hx
 obtain ⟨h2,e2,o2⟩:=k x hxm h1 o
 have hi1:(i:Int)+1=((i+1:Nat):Int):=by omega
 clear k hb
 by_cases hbad:bad x
 ·rw [zF hbad] at e2
  clear ih hj hc
  refine qx ?_
  refine zcw rfl gb1 hlen ?_
  rw [h4]
  refine Ops.callc rfl rfl e2 ?_
  refine qx ?_
  exact ⟨_,rfl,o.trans o2,fun _=>⟨x,hxm,hbad⟩,fun _=>by omega⟩
 ·rw [zD hbad] at e2
  clear hc
  refine qx ?_
  refine zcw rfl gb1 hlen ?_
  rw [h4]
  refine Ops.callc rfl rfl e2 ?_
  refine qx ?_
  rw [hi1]
  refine ih (l.length-(i+1)) om _ _ ⟨i+1,rfl,by omega,rfl,o.trans o2,fun j y hj' hy=>?_⟩
  by_cases e:j=i
  ·subst e
   rw [hx] at hy;cases hy
   exact hbad
  ·exact hj j y om hy
theorem cf_step {d g:Nat} {h:H} {P:Nat->Prop} {bad:SpX->Prop} [DecidablePred bad] {v:V} {l:List SpX} (hd:2<=d) (a:At4 h P SpX.V v l) (hl:l.length<=50000)
  (k : ∀ x∈l,∀ h1,Old h h1 -> ∃ h2,cl (d-2) (.fn g) [.agg x.V] h1=some (.bool (decide (bad x)),h2)/\Old h1 h2) :
  ∃ h',cl d (.fn 35) [v,.clo g []] h=some (.bool (decide (∃ x∈l,bad x)),h')/\Old h h':=by
 obtain ⟨r,h1,e1,o1,hr⟩:=if_4 hcl (d:=d-1) (f:=60) (fun _=>rfl) rfl rfl om a hl k
 refine jak (aT hcl ?_)
 refine qx ?_
 exact ⟨congrArg V.bool (decide_eq_decide.2 hr),o1⟩
theorem cf_move {d g:Nat} {h:H} {P:Nat->Prop} {bad:MvX->Prop} [DecidablePred bad] {v:V} {l:List MvX} (hd:2<=d) (a:At4 h P MvX.V v l) (hl:l.length<=50000)
  (k : ∀ x∈l,∀ h1,Old h h1 -> ∃ h2,cl (d-2) (.fn g) [.agg x.V] h1=some (.bool (decide (bad x)),h2)/\Old h1 h2) :
  ∃ h',cl d (.fn 63) [v,.clo g []] h=some (.bool (decide (∃ x∈l,bad x)),h')/\Old h h':=by
 obtain ⟨r,h1,e1,o1,hr⟩:=if_4 hcl (d:=d-1) (f:=89) (fun _=>rfl) rfl rfl om a hl k
 refine jak (aT hcl ?_)
 refine qx ?_
 exact ⟨congrArg V.bool (decide_eq_decide.2 hr),o1⟩
theorem wm_badN {d:Nat} {h:H} {n:Int} (hd:1<=d):cl d (.fn 61) [.i n] h=some (.bool (decide (badN n)),h):=by
 refine jao (aT hcl ?_)
 by_cases h1:n<0
 ·refine qx ?_
  exact ⟨by rw [zF (show badN n from .inl h1)],rfl⟩
 ·refine qx ?_
  exact ⟨congrArg V.bool (decide_eq_decide.2 ⟨.inr,fun e=>e.elim (fun e=>zI e h1) id⟩),rfl⟩
theorem if_1 {d:Nat} {h:H} {v:V} {l:List Int} (hd:2<=d) (a:VI h v l) (hl:l.length<=50000) :
  ∃ r,cl d (.fn 88) [v,.clo 61 []] h=some (.i r,h)/\(0<=r ↔ ∃ x∈l,badN x):=by
 suffices q : ∃ w h',cl d (.fn 88) [v,.clo 61 []] h=some (w,h') /\ ∃ r,w = .i r/\h'=h/\(0<=r ↔ ∃ x∈l,badN x) by
  obtain ⟨_,h',e,r,rfl,rfl,q⟩:=q;exact ⟨r,e,q⟩
 obtain ⟨ad,c,rfl,_,_,hb⟩:=a
 refine aT hcl ?_
 refine qx ?_
 refine Zl (fun m e h1=>∃ i:Nat,m=l.length-i/\i<=l.length/\e=[(0,.slice ad l.length c),(1,.clo 61 []),(7,.i (l.length:Int)),(8,.i (i:Int))]/\h1=h /\ ∀ j x,j<i->l[j]?=some x -> ¬ badN x)
  (k:=l.length) Ze ⟨0,rfl,by omega,rfl,rfl,fun j x hj=>by omega⟩ ?_
 rintro _ _ h1 ⟨i,rfl,hi,rfl,rfl,hj⟩ n' ih
 by_cases hlt:(i:Int)<l.length
 case neg=>
  have hno : ¬ ∃ x∈l,badN x:=fun ⟨x,hx,hb⟩=>by
   obtain ⟨j,hjl,e⟩:=List.getElem_of_mem hx
   exact hj j x om (by rw [za hjl,e]) hb
  clear ih hb hj
  refine qx ?_
  exact ⟨_,rfl,rfl,fun e=>zI e om,fun e=>zI e hno⟩
 obtain ⟨x,hx⟩:=jfa (l:=l) (i:=i) om
 obtain ⟨b,oo,cs,ro,rfl,lb,gb,hc⟩:=hb (by rintro rfl;simp at hx)
 have h4:cs[oo+(i:Int).toNat*1]?=some (.i x):=by rw [zt,Nat.mul_one];exact hc i x hx
 have hxm:=zc hx
 have e2:=wm_badN hcl (d:=d-1) (n:=x) (h:=h1) om
 have hi1:(i:Int)+1=((i+1:Nat):Int):=by omega
 clear hb hc
 by_cases hbad:badN x
 ·rw [zF hbad] at e2
  clear ih hj
  refine qx ?_
  refine Ops.callc rfl rfl e2 ?_
  refine qx ?_
  exact ⟨_,rfl,rfl,fun _=>⟨x,hxm,hbad⟩,fun _=>by omega⟩
 ·rw [zD hbad] at e2
  refine qx ?_
  refine Ops.callc rfl rfl e2 ?_
  refine qx ?_
  rw [hi1]
  refine ih (l.length-(i+1)) om _ _ ⟨i+1,rfl,by omega,rfl,rfl,fun j y hj' hy=>?_⟩
  by_cases e:j=i
  ·subst e
   rw [hx] at hy;cases hy
   exact hbad
  ·exact hj j y om hy
theorem cf_int {d:Nat} {h:H} {v:V} {l:List Int} (hd:3<=d) (a:VI h v l) (hl:l.length<=50000) :
  cl d (.fn 62) [v,.clo 61 []] h=some (.bool (decide (∃ x∈l,badN x)),h):=by
 obtain ⟨r,e1,hr⟩:=if_1 hcl (d:=d-1) om a hl
 refine jao (aT hcl ?_)
 refine qx ?_
 exact ⟨congrArg V.bool (decide_eq_decide.2 hr),rfl⟩
theorem wm_mayC {d:Nat} {h:H} {x:MvX} (hd:8<=d) (hv:VB h x.dv x.m.D) : ∃ h',cl d (.fn 64) [.agg x.V] h=some (.bool (decide (¬ x.m.may)),h')/\Old h h':=by
 obtain ⟨m,dv⟩:=x
 obtain ⟨a,c,e,_⟩:=hv
 have e:dv = .slice a m.D.length c:=e
 subst e
 have o:Old h (h.new (.cells (mvV m (.slice a m.D.length c)) false)):=(Zn h).new
 have g0:(h.new (.cells (mvV m (.slice a m.D.length c)) false)).get h.nx=some (.cells (mvV m (.slice a m.D.length c)) false):=jac _
 obtain ⟨h1,e1,o1⟩:=jlX hcl (d:=d-1) (h:=h.new (.cells (mvV m (.slice a m.D.length c)) false)) (m:=m) (a:=a) (c:=c) om
 refine jak (aT hcl ?_)
 refine qm ?_
 exact ⟨rfl,o.trans o1⟩
theorem wm_Check {d:Nat} {h:H} {P Q:Nat->Prop} {x:SpX} (hd:11<=d) (a:StepAt h P Q x) : ∃ h',cl d (.fn 37) [.agg x.V] h=some (.i (if x.sp.may then 0 else 120),h')/\Old h h':=by
 have o:Old h (h.new (.cells x.V false)):=(Zn h).new
 have g0:(h.new (.cells x.V false)).get h.nx=some (.cells x.V false):=jac _
 have x0:h.nx<(h.new (.cells x.V false)).nx:=by simp
 have a0:=a.old o
 obtain ⟨ao,co,eo,_⟩:=id a.ov.1
 obtain ⟨am,cm,em,_⟩:=id a.mv
 have q2:(x.V)[0+2]?=some (.slice ao x.ol.length co):=by rw [<- eo];rfl
 have q3:(x.V)[0+3]?=some (.slice am x.ml.length cm):=by rw [<- em];rfl
 refine jak (aT hcl ?_)
 by_cases h1:(x.ml.length:Int)>50
 ·have hm : ¬ x.sp.may:=fun e=>by have:=e.1;simp [SpX.sp] at this;omega
  clear a a0
  refine qm ?_
  exact ⟨by rw [zz hm],o⟩
 by_cases h2:(x.ol.length:Int)>50
 ·have hm : ¬ x.sp.may:=fun e=>by have:=e.2.1;simp [SpX.sp] at this;omega
  clear a a0
  refine qm ?_
  exact ⟨by rw [zz hm],o⟩
 have e1:=cf_int hcl (d:=d-1) om a0.ov.1 om
 rw [eo] at e1
 by_cases h3 : ∃ n∈x.ol,badN n
 ·have hm : ¬ x.sp.may:=fun e=>by
   obtain ⟨n,hn,hb⟩:=h3
   have:=e.2.2.1 n hn
   rcases hb with hb | hb<;>omega
  rw [zF h3] at e1
  clear a a0 h3
  refine qm ?_
  exact ⟨by rw [zz hm],o⟩
 obtain ⟨h9,e2,o2⟩:=cf_move hcl (d:=d-1) (g:=64) (bad:=fun y=>¬ y.m.may) om a0.mv om fun y hy h1 o1=>wm_mayC hcl om ((a0.old o1).dv y hy).1
 rw [em] at e2
 rw [zD h3] at e1
 by_cases h4 : ∃ y∈x.ml,¬ y.m.may
 ·have hm : ¬ x.sp.may:=fun e=>by
   obtain ⟨y,hy,hb⟩:=h4
   exact hb (e.2.2.2 y.m (List.mem_map_of_mem hy))
  rw [zF h4] at e2
  clear a a0 h3 h4
  refine qm ?_
  exact ⟨by rw [zz hm],o.trans o2⟩
 ·have hm:x.sp.may:=⟨by simp [SpX.sp];omega,by simp [SpX.sp];omega,fun n hn=>by
   have : ¬ badN n:=fun e=>h3 ⟨n,hn,e⟩
   unfold badN at this
   omega,fun m hm=>by
   obtain ⟨y,hy,rfl⟩:=List.mem_map.1 hm
   exact Decidable.byContradiction fun e=>h4 ⟨y,hy,e⟩⟩
  rw [zD h4] at e2
  clear a a0 h3 h4
  refine qm ?_
  exact ⟨by rw [zC hm],o.trans o2⟩
theorem wm_CheckC {d:Nat} {h:H} {P Q:Nat->Prop} {x:SpX} (hd:12<=d) (a:StepAt h P Q x) : ∃ h',cl d (.fn 36) [.agg x.V] h=some (.bool (decide (¬ x.sp.may)),h')/\Old h h':=by
 have o:Old h (h.new (.cells x.V false)):=(Zn h).new
 have g0:(h.new (.cells x.V false)).get h.nx=some (.cells x.V false):=jac _
 obtain ⟨h1,e1,o1⟩:=wm_Check hcl (d:=d-1) om (a.old o)
 refine jak (aT hcl ?_)
 by_cases hm:x.sp.may
 ·rw [zC hm] at e1
  refine qm ?_
  exact ⟨by simp [hm],o.trans o1⟩
 ·rw [zz hm] at e1
  refine qm ?_
  exact ⟨by simp [hm],o.trans o1⟩
theorem jlY {d:Nat} {h:H} {P Q:Nat->Prop} {v:V} {l:List SpX} (hd:15<=d) (a:jex h P Q v l) (hl:l.length<=2000) : ∃ h',cl d (.fn 16) [v] h=some (.bool (decide (∀ x∈l,x.sp.may)),h')/\Old h h':=by
 obtain ⟨h1,e1,o1⟩:=cf_step hcl (d:=d-1) (g:=36) (bad:=fun x=>¬ x.sp.may) om a.1 om fun y hy h1 o1=>wm_CheckC hcl om ((a.2 y hy).old o1)
 have he:decide (∀ x∈l,x.sp.may)=decide (¬ ∃ x∈l,¬ x.sp.may):=decide_eq_decide.2 ⟨fun e ⟨x,hx,hn⟩=>hn (e x hx),fun e x hx=>Decidable.byContradiction fun hn=>e ⟨x,hx,hn⟩⟩
 rw [he]
 obtain ⟨ad,c,rfl,_⟩:=id a.1
 have h1:(l.length:Int)<=2000:=by omega
 refine jak (aT hcl ?_)
 clear a he
 refine qx ?_
 exact ⟨rfl,o1⟩
end
theorem jj4 {h:H} : ∀ {l:List Int} {cs:List V},jaE (jcx .i64) h l cs->cs=ints l
 | [],_,e=>e
 | x :: l,_,⟨u,w,e,h1,h2⟩=>by
  obtain ⟨rfl,_⟩:=h1
  rw [e,jj4 h2];rfl
theorem ints_of {h:H} {l:List Int} {u:V} (r:jbL 60 (jcx .i64) h l [u]):(∃ ad c,u = .slice ad l.length c)/\(l.length<=60->VI h u l/\(l≠[] -> ∀ z,u.at?=some z->z<h.nx)):=by
 obtain ⟨a,c,e,h1,h2,h3⟩:=r
 cases e
 refine ⟨⟨a,_,rfl⟩,fun hB=>⟨⟨a,.fix c,rfl,fun e=>?_,h2,fun hn=>?_⟩,fun hn z hz=>?_⟩⟩
 ·obtain ⟨rfl,rfl⟩:=h3 e;exact ⟨rfl,rfl⟩
 ·obtain ⟨b,cs,q1,q2,q3,q4⟩:=h1 hB hn
  exact ⟨b,0,cs,true,q1,q2,q3,fun i x hi=>by rw [jj4 q4,zN];simp [hi]⟩
 ·obtain ⟨b,cs,rfl,q2,q3,q4⟩:=h1 hB hn
  cases hz;exact q2
theorem mvs4_of {h:H} {l:List (Int × Int × Int × List Int × Unit)} {u:V} (r:jbL 60 jmx h l [u]) : ∃ L:List MvX,L.length=l.length/\jlK 60 h u L/\(L.length<=60->At4 h (· < h.nx) MvX.V u L):=by
 obtain ⟨ad,c,e,h1,h2,h3⟩:=r
 cases e
 by_cases hl:l.length<=60
 ·by_cases hn:l=[]
  ·subst hn
   exact ⟨[],rfl,⟨⟨ad,.fix c,rfl⟩,fun _=>⟨fun x hx=>(by cases hx),ad,.fix c,rfl,fun e=>zI rfl e⟩⟩,fun _=>⟨ad,.fix c,rfl,fun e=>⟨by rw [(h3 e).1],rfl⟩,zW _,fun e=>zI rfl e⟩⟩
  ·obtain ⟨b,cs,rfl,q1,q2,q3⟩:=h1 hl hn
   obtain ⟨L,l1,rfl,l3⟩:=jls q3
   exact ⟨L,l1,⟨⟨_,.fix c,by rw [l1]⟩,fun _=>⟨l3,_,.fix c,by rw [l1],fun _=>⟨b,_,true,rfl,q1,q2,jdQ (fun _=>rfl) L,fun i x hx=>jbG (fun _=>rfl) hx⟩⟩⟩,fun _=>⟨_,.fix c,by rw [l1],fun e=>(by cases e),by show L.length<=c;omega,fun _=>⟨b,0,_,true,rfl,q1,q1,q2,fun i x hx=>by rw [zN];exact jbG (fun _=>rfl) hx⟩⟩⟩
 ·exact ⟨List.replicate l.length ⟨⟨0,0,0,[]⟩,.nils⟩,by simp,⟨⟨ad,.fix c,by simp⟩,fun hl'=>zI (by simpa using hl') hl⟩,fun hl'=>zI (by simpa using hl') hl⟩
abbrev jmu:H->Int × Bool × List Int × List (Int × Int × Int × List Int × Unit) × Unit->List V->Prop:=jcA (jcx .u64) (jcA jli (jcA (jbL 60 (jcx .i64)) (jcA (jbL 60 jmx) jlh)))
def SpIn (h:H) (x:SpX):Prop:=SpOk h x/\(x.ml.length<=60->x.ol.length<=60->(∀ m∈x.ml,m.m.D.length<=1100)->StepAt h (· < h.nx) (· < h.nx) x)
theorem jkR {h:H} : ∀ {l:List (Int × Bool × List Int × List (Int × Int × Int × List Int × Unit) × Unit)} {cs:List V},jaE jmu h l cs -> ∃ L:List SpX,L.length=l.length/\cs=(L.map SpX.V).flatten /\ ∀ x∈L,SpIn h x
 | [],_,e=>⟨[],rfl,e,fun x hx=>by cases hx⟩
 | y :: l,_,⟨u,w,e,h1,h2⟩=>by
  obtain ⟨L,l1,l2,l3⟩:=jkR h2
  obtain ⟨_,_,rfl,⟨rfl,t0,t1⟩,_,_,rfl,hb,u3,w3,rfl,r3,u4,w4,rfl,r4,hw⟩:=h1
  obtain rfl:_=_:=hb
  obtain rfl:w4=[]:=hw
  have ⟨a3,c3,e3,_⟩:=r3
  have ⟨a4,c4,e4,_⟩:=r4
  subst e3 e4
  obtain ⟨i1,i2⟩:=ints_of r3
  obtain ⟨M,m1,m2,m3⟩:=mvs4_of r4
  refine ⟨⟨y.1,y.2.1,y.2.2.1,.slice a3 y.2.2.1.length (.fix c3),M,.slice a4 y.2.2.2.1.length (.fix c4)⟩ :: L,by simp [l1],by rw [e,l2];rfl,fun x hx=>?_⟩
  rcases zX.1 hx with rfl | hx
  ·refine ⟨⟨⟨i1,fun hl=>(i2 hl).1⟩,m2,t0,t1⟩,fun hm ho hd=>⟨⟨(i2 ho).1,(i2 ho).2⟩,m3 hm,fun m hmm=>?_,t0,t1⟩⟩
   obtain ⟨a,c,e,g⟩:=(m2.2 hm).1 m hmm
   have hB:=g (hd m hmm)
   have hv:VB h m.dv m.m.D:=⟨a,c,e,hB⟩
   exact ⟨hv,fun hn z hz=>hv.lt hn hz⟩
  ·exact l3 x hx
theorem jiF : ∀ {l l':List SpX},l.map SpX.sp=l'.map SpX.sp->sumM l=sumM l'
 | [],[],_=>rfl
 | x :: l,y :: l',h=>by
  simp only [List.map_cons,List.cons.injEq] at h
  have h1:x.ml.length=y.ml.length:=by have:=congrArg (fun s=>s.moves.length) h.1;simpa [SpX.sp] using this
  show x.ml.length+sumM l=y.ml.length+sumM l'
  rw [h1,jiF h.2]
 | [],y :: l',h=>by simp at h
 | x :: l,[],h=>by simp at h
section
variable {cl:Nat->Call} (hcl:Sem cl)
include hcl
end
theorem jmh {α : Type} {f : α -> List V} (hf : ∀ x,(f x).length=4) {cs:List V} : ∀ {l:List α} {o:Nat},(∀ (i:Nat) (x : α),l[i]?=some x->(cs.drop (o+i*4)).take 4=f x)->(cs.drop o).take (l.length*4)=(l.map f).flatten
 | [],o,_=>by simp
 | x :: l,o,h=>by
  have h0:=h 0 x rfl
  rw [Nat.zero_mul,Nat.add_zero] at h0
  have ih:=jmh hf (l:=l) (o:=o+4) fun i y hi=>by
   have:=h (i+1) y (by simpa using hi)
   rw [show o+(i+1)*4=o+4+i*4 by omega] at this
   exact this
  have e:(x :: l).length*4=4+l.length*4:=by simp;omega
  rw [e,List.take_add,h0,List.map_cons,zT,List.drop_drop,ih]
theorem append4 {α : Type} {f : α -> List V} (hf : ∀ x,(f x).length=4) {h:H} {P:Nat->Prop} {bytes:Nat} {s v:V} {l:List α} (hb:bytes<=64) (hs:s = .nils \/ ∃ b,s = .slice (some (b,0)) 0 (.fix 0)) (a:At4 h P f v l) (hn:l.length<=1000000) :
  ∃ v' h',jav h 4 bytes s v=some (v',h')/\((l=[]/\v'=s/\h'=h)\/(l≠[]/\v' = .slice (some (h.nx,0)) l.length (.grow 4)/\h'=h.new (.cells (l.map f).flatten false))):=by
 obtain ⟨ad,c,rfl,_,_,g⟩:=a
 have hcond:(Nat.ble ((0+l.length)*bytes) (2 ^ 46)&&Nat.ble (0+l.length) (2 ^ 46))=true:=by
  have:(0+l.length)*bytes<=1000000*64:=Nat.mul_le_mul om hb
  simp only [zn,zO];omega
 by_cases hl:l=[]
 ·subst hl
  have hsrc:jam h 4 0 (.slice ad 0 c)=some []:=by cases ad<;>rfl
  refine ⟨s,h,?_,.inl ⟨rfl,rfl,rfl⟩⟩
  rw [List.length_nil] at hcond
  rcases hs with rfl | ⟨b,rfl⟩<;>(simp only [jav,lenOf,List.length_nil,hsrc];rw [hcond];rfl)
 ·obtain ⟨b',o,cs,ro,rfl,h1,_,h2,h3⟩:=g hl
  have hpos:0<l.length:=List.length_pos_iff.2 hl
  have p2:=jmh hf h3
  have hz:(l.length == 0)=false:=by simp;omega
  have hz1:(l.length*4 == 0)=false:=by simp;omega
  have hlast:=jfP (h3 (l.length-1) _ (za om)) (hf _)
  have hsrc:jam h 4 l.length (.slice (some (b',o)) l.length c)=some (l.map f).flatten:=by
   simp only [jam,hz1,cond_false]
   rw [jb3 h2 om,p2]
  have hble:Nat.ble (0+l.length) 0=false:=by
   cases hb2:Nat.ble (0+l.length) 0 with
   | false=>rfl
   | true=>rw [zO] at hb2;omega
  refine ⟨.slice (some (h.nx,0)) l.length (.grow 4),h.new (.cells (l.map f).flatten false),?_,.inr ⟨hl,rfl,rfl⟩⟩
  rcases hs with rfl | ⟨b,rfl⟩
  ·simp only [jav,lenOf,hsrc,hcond,hz,cond_true,cond_false]
   rfl
  ·simp only [jav,lenOf,hsrc]
   rw [hcond,hz,hble]
   simp only [cond_true,cond_false,Nat.zero_mul,beq_self_eq_true,zU,zN]
   rfl
theorem At4.nil {α : Type} {f : α -> List V} {h:H} {P:Nat->Prop} : At4 h P f .nils ([]:List α):=⟨none,.fix 0,rfl,fun _=>⟨rfl,rfl⟩,zp _,fun e=>zI rfl e⟩
theorem At4.zero {α : Type} {f : α -> List V} {h:H} {P:Nat->Prop} {b:Nat} : At4 h P f (.slice (some (b,0)) 0 (.fix 0)) ([]:List α):=⟨_,_,rfl,fun e=>(by cases e),zp _,fun e=>zI rfl e⟩
section
variable {call:Call} {fuel base:Nat} {ops:List Ins} {keep:List Nat} {K:List Fr} {e:Env} {h:H} {Q:Post} {ix:Nat} {dst:Option Nat}
theorem Ops.app4 {α : Type} {f : α -> List V} (hf : ∀ x,(f x).length=4) {P:Nat->Prop} {bytes:Nat} {x y:Opd} {s v:V} {l:List α} (hx:x.ev e=some s) (hy:y.ev e=some v) (hb:bytes<=64) (hs:s = .nils \/ ∃ b,s = .slice (some (b,0)) 0 (.fix 0)) (a:At4 h P f v l) (hn:l.length<=1000000)
  (k : ∀ v' h',((l=[]/\v'=s/\h'=h)\/(l≠[]/\v' = .slice (some (h.nx,0)) l.length (.grow 4)/\h'=h.new (.cells (l.map f).flatten false)))->Ops call fuel base ops keep K (layv e dst v') h' Q):Ops call fuel base (⟨ix,dst,.append 4 bytes x y,none,none,[]⟩ :: ops) keep K e h Q:=by
 obtain ⟨v',h',e1,e2⟩:=append4 hf hb hs a hn
 exact Ops.step (I.run_eff rfl (by simp only [I.eff,hx,hy,e1])) (k v' h' e2)
end
section
variable {cl:Nat->Call} (hcl:Sem cl)
include hcl
theorem sc_bytes {d:Nat} {h:H} {v:V} {l:List UInt8} (hd:1<=d) (hv:VB h v l) (hn:l.length<=100000) : ∃ v1 h1,cl d (.fn 68) [v] h=some (v1,h1)/\Old h h1/\VB h1 v1 l/\(∀ z,v1.at?=some z->h.nx<=z) /\ ∃ a c,v1 = .slice a l.length c:=by
 obtain ⟨a,c,rfl,n,f,g⟩:=id hv
 refine aT hcl ?_
 cases a with
 | none=>
  obtain ⟨rfl,rfl⟩:=n rfl
  refine qx ?_
  all_goals first | exact ⟨Zn h,VB.nil h,fun z hz=>(by cases hz),_,_,rfl⟩ | skip
 | some p=>
  refine qm ?_
  refine Ops.copyB (B:=h.nx) rfl rfl (hv.keep2 Zd fun hl z hz=>jad (hv.lt hl hz)) om fun a c h' hv' _ o hz=>?_
  refine qm ?_
  refine ⟨(Zn h).new.trans o,hv',fun z e=>?_,_,_,rfl⟩
  cases e
  rcases hz with rfl | hz
  ·exact zp _
  ·have:h.nx+1<=a:=hz.1
   omega
theorem sc_moves {d:Nat} {h:H} {P:Nat->Prop} {v:V} {l:List MvX} (hd:1<=d) (a:At4 h P MvX.V v l) (hn:l.length<=100000) : ∃ v1 h1,cl d (.fn 67) [v] h=some (v1,h1)/\Old h h1 /\
  ∃ ad c,v1 = .slice ad l.length c/\(ad=none->c = .fix 0/\l=[])/\Cap.fits c l.length 4/\(l≠[] -> ∃ b,ad=some (b,0)/\h.nx<=b/\b<h1.nx/\h1.get b=some (.cells (l.map MvX.V).flatten false)):=by
 obtain ⟨ad,c,rfl,n,f,g⟩:=id a
 refine aT hcl ?_
 cases ad with
 | none=>
  obtain ⟨rfl,rfl⟩:=n rfl
  refine qx ?_
  all_goals first | exact ⟨Zn h,none,.fix 0,rfl,fun _=>⟨rfl,rfl⟩,zp _,fun e=>zI rfl e⟩ | skip
 | some p=>
  refine qm ?_
  refine Ops.app4 (l:=l) (f:=MvX.V) (P:=P) (fun _=>rfl) rfl rfl om (.inr ⟨_,rfl⟩) (a.old (Zn h).new) om fun v' h' hk=>?_
  rcases hk with ⟨rfl,rfl,rfl⟩ | ⟨hl,rfl,rfl⟩
  ·refine qm ?_
   exact ⟨(Zn h).new,_,_,rfl,fun e=>(by cases e),zp _,fun e=>zI rfl e⟩
  ·refine qm ?_
   exact ⟨(Zn h).new.new,_,_,rfl,fun e=>(by cases e),rfl,fun _=>⟨_,rfl,by simp,by simp,jac _⟩⟩
end
theorem jix : ∀ {l:List MvX} {i:Nat} {m:Mv} {dv v:V},l[i]?=some ⟨m,dv⟩->((l.map MvX.V).flatten).set (i*4+3) v=((l.set i ⟨m,v⟩).map MvX.V).flatten
 | [],i,m,dv,v,h=>by simp at h
 | y :: l,0,m,dv,v,h=>by
  simp at h;subst h;rfl
 | y :: l,i+1,m,dv,v,h=>by
  have ih:=jix (l:=l) (i:=i) (m:=m) (dv:=dv) (v:=v) (by simpa using h)
  rw [List.map_cons,zT,show (i+1)*4+3=(MvX.V y).length+(i*4+3) by show _=4+_;omega,List.set_append_right _ _ (Nat.le_add_right _ _),zZ,ih]
  rfl
theorem RowZ.vi {N:Nat} {h:H} {v:V} {l:List Int} (r:RowZ N h v l):VI h v l:=by
 rcases r with r | ⟨rfl,b,rfl,h1,h2⟩
 ·rcases r with ⟨h0,_,rfl⟩ | ⟨q,h1,h2,rfl,h4,h5⟩
  ·obtain rfl:=zm.1 h0
   exact VI.nil h
  ·exact ⟨_,_,rfl,fun e=>(by cases e),rfl,fun _=>⟨q,0,_,false,rfl,h2,h4,fun i x hi=>by rw [zN];simp [hi]⟩⟩
 ·exact ⟨_,_,rfl,fun e=>(by cases e),zp _,fun e=>zI rfl e⟩
section
variable {cl:Nat->Call} (hcl:Sem cl)
include hcl
theorem wm_twin {d:Nat} {h:H} {P Q:Nat->Prop} {x:SpX} (hd:2<=d) (a:StepAt h P Q x) (h1:x.ml.length<=1000) (h2:x.ol.length<=1000) (h3 : ∀ m∈x.ml,m.m.D.length<=2000) :
  ∃ y h',cl d (.fn 38) [.agg x.V] h=some (.agg (SpX.V y),h')/\y.sp=x.sp/\StepAt h' (h.nx <= ·) (h.nx <= ·) y/\Old h h':=by
 suffices q : ∃ w h',cl d (.fn 38) [.agg x.V] h=some (w,h') /\ ∃ y,w = .agg (SpX.V y)/\y.sp=x.sp/\StepAt h' (h.nx <= ·) (h.nx <= ·) y/\Old h h' by
  obtain ⟨_,h',e,y,rfl,q⟩:=q;exact ⟨y,h',e,q⟩
 have o:Old h ((h.new (.cells x.V false)).new (.cells [.int .u64 0,.bool false,.nils,.nils] false)):=(Zn h).new.new
 have g0:((h.new (.cells x.V false)).new (.cells [.int .u64 0,.bool false,.nils,.nils] false)).get h.nx=some (.cells x.V false):=qgt
 have g0':((h.new (.cells x.V false)).new (.cells [.int .u64 0,.bool false,.nils,.nils] false)).get (h.nx+1)=some (.cells [.int .u64 0,.bool false,.nils,.nils] false):=qgt
 have x0:((h.new (.cells x.V false)).new (.cells [.int .u64 0,.bool false,.nils,.nils] false)).nx=h.nx+2:=rfl
 have a0:=a.old o
 obtain ⟨ov,h4,e4,o4,r4⟩:=jj0 hcl (d:=d-1) om a0.ov.1 om
 obtain ⟨oa,oc,rfl,_⟩:=id r4.vi
 have a4:=a0.old o4
 obtain ⟨mv,h5,e5,o5,ad,c,rfl,n5,f5,g5⟩:=sc_moves hcl (d:=d-1) om a4.mv om
 have b4:h4.get h.nx=some (.cells x.V false):=by rw [o4.2 _ om,g0]
 have b5:h5.get h.nx=some (.cells x.V false):=by rw [o5.2 _ (by have:=o4.1;omega),b4]
 have c5:h5.get (h.nx+1)=some (.cells [.int .u64 0,.bool false,.nils,.nils] false):=by rw [o5.2 _ (by have:=o4.1;omega),o4.2 _ om,g0']
 have x4:=o4.1
 have x5:=o5.1
 obtain ⟨am,cm,em,_⟩:=id a.mv
 have q3:(x.V)[0+3]?=some x.mv:=rfl
 have q2:(x.V)[0+2]?=some x.ov:=rfl
 refine aT hcl ?_
 obtain ⟨C,hC⟩ : ∃ C,C=c38_2:=⟨_,rfl⟩
 simp only [c38,c38_3,<- hC,yB]
 have T : ∀ h6:H,h6=(h5.set h.nx (.cells [.int .u64 x.t,.bool x.intr,.slice oa x.ol.length oc,x.mv] false)).set h.nx (.cells [.int .u64 x.t,.bool x.intr,.slice oa x.ol.length oc,.slice ad x.ml.length c] false)->Run (cl (d-1)) fuel C [] [(1,.p h.nx 0),(2,.p (h.nx+1) 0)] h6 (Fin c38.res fun w h'=>∃ y,w = .agg (SpX.V y)/\y.sp=x.sp/\StepAt h' (h.nx <= ·) (h.nx <= ·) y/\Old h h'):=by
  intro h6 hh
  have x6:h6.nx=h5.nx:=by rw [hh];simp
  have g6 : ∀ j,j≠h.nx->h6.get j=h5.get j:=fun j hj=>by rw [hh,jaa hj,jaa hj]
  have b6:h6.get h.nx=some (.cells [.int .u64 x.t,.bool x.intr,.slice oa x.ol.length oc,.slice ad x.ml.length c] false):=by rw [hh];exact jab _
  have r6:RowZ (h.nx+2) h6 (.slice oa x.ol.length oc) x.ol:=(r4.keep (N:=h.nx+2) om fun z hz=>by
   have:=r4.at_ge hz
   rw [g6 z om,o5.2 z this.2])
  have o6:Old h h6:=⟨by rw [x6];have:=o.1;omega,fun j hj=>by rw [g6 j om,((o.trans o4).trans o5).2 j hj]⟩
  have d6 : ∀ m∈x.ml,VB h6 m.dv m.m.D:=fun m hm=>(a.dv m hm).1.keep2 o6.1 fun hl z hz=>o6.2 z ((a.dv m hm).1.lt hl hz)
  have m6:x.ml≠[] -> ∃ b,ad=some (b,0)/\h.nx+2<=b/\b<h6.nx/\(∀ z,(V.slice oa x.ol.length oc).at?=some z->z<b)/\h6.get b=some (.cells (x.ml.map MvX.V).flatten false):=fun hn=>by
   obtain ⟨b,e1,e2,e3,e4⟩:=g5 hn
   exact ⟨b,e1,by omega,by omega,fun z hz=>by have:=(r4.at_ge hz).2;omega,by rw [g6 b om,e4]⟩
  have c6:h6.get (h.nx+1)=some (.cells [.int .u64 0,.bool false,.nils,.nils] false):=by rw [g6 _ om,c5]
  clear g6 hh a0 a4 e4 e5 b4 b5 c5 g0 g0' r4 o4 o5 o g5
  obtain ⟨b,hb2,hb3,hb4⟩ : ∃ b,h.nx+2<=b/\(∀ z,(V.slice oa x.ol.length oc).at?=some z->z<b)/\(x.ml≠[]->ad=some (b,0)/\b<h6.nx/\h6.get b=some (.cells (x.ml.map MvX.V).flatten false)):=by
   by_cases hn:x.ml=[]
   ·exact ⟨h6.nx,by omega,fun z hz=>(r6.at_ge hz).2,fun e=>zI hn e⟩
   ·obtain ⟨b,e1,e2,e3,e4,e5⟩:=m6 hn
    exact ⟨b,e2,e4,fun _=>⟨e1,e3,e5⟩⟩
  clear m6
  rw [hC]
  clear hC
  refine qx ?_
  refine Zl (fun m e g=>∃ (i:Nat) (cur:List MvX),m=x.ml.length-i/\i<=x.ml.length/\e=[(1,.p h.nx 0),(2,.p (h.nx+1) 0),(14,.i (x.ml.length:Int)),(15,.i (i:Int))]/\cur.length=x.ml.length/\cur.map MvX.m=x.ml.map MvX.m/\(∀ j,i<=j->cur[j]?=x.ml[j]?)/\(∀ j y,j<i->cur[j]?=some y->VB g y.dv y.m.D /\ ∀ z,y.dv.at?=some z->h6.nx<=z)/\(x.ml≠[]->g.get b=some (.cells (cur.map MvX.V).flatten false))/\h6.nx<=g.nx /\ ∀ j,j<h6.nx->j≠b->g.get j=h6.get j)
   (k:=x.ml.length) Ze ⟨0,x.ml,rfl,by omega,rfl,rfl,rfl,fun _ _=>rfl,fun j y hj=>by omega,fun hn=>(hb4 hn).2.2,zp _,fun _ _ _=>rfl⟩ ?_
  rintro _ _ g ⟨i,cur,rfl,hi,rfl,hcl1,hcm,hcr,hcv,hcb,hgx,hgk⟩ n' ih
  have bg:g.get h.nx=some (.cells [.int .u64 x.t,.bool x.intr,.slice oa x.ol.length oc,.slice ad x.ml.length c] false):=by rw [hgk _ om om,b6]
  have cg:g.get (h.nx+1)=some (.cells [.int .u64 0,.bool false,.nils,.nils] false):=by rw [hgk _ om om,c6]
  by_cases hlt:(i:Int)<x.ml.length
  case neg=>
   obtain rfl:i=x.ml.length:=by omega
   have hog:Old h (g.set (h.nx+1) (.cells [.int .u64 x.t,.bool x.intr,.slice oa x.ol.length oc,.slice ad x.ml.length c] false)):=⟨by simp;have:=o6.1;omega,fun j hj=>by rw [jaa om,hgk j om om,o6.2 j hj]⟩
   have hst:StepAt (g.set (h.nx+1) (.cells [.int .u64 x.t,.bool x.intr,.slice oa x.ol.length oc,.slice ad x.ml.length c] false)) (h.nx <= ·) (h.nx <= ·) ⟨x.t,x.intr,x.ol,.slice oa x.ol.length oc,cur,.slice ad x.ml.length c⟩:=by
    refine ⟨⟨?_,fun hl z hz=>by have:=(r6.at_ge hz).1;show h.nx<=z;omega⟩,?_,fun m hm=>?_,a.t0,a.t1⟩
    ·have r7:RowZ (h.nx+2) (g.set (h.nx+1) (.cells [.int .u64 x.t,.bool x.intr,.slice oa x.ol.length oc,.slice ad x.ml.length c] false)) (.slice oa x.ol.length oc) x.ol:=r6.keep Zc fun z hz=>by
      have:=r6.at_ge hz
      have:=hb3 z hz
      rw [jaa om,hgk z om om]
     exact r7.vi
    ·have hz:cur=[]↔x.ml=[]:=by rw [<- zm,hcl1,zm]
     refine ⟨ad,c,by rw [hcl1],fun e=>⟨(n5 e).1,hz.2 (n5 e).2⟩,by rw [hcl1];exact f5,fun hn=>?_⟩
     have hn':x.ml≠[]:=fun e=>hn (hz.2 e)
     obtain ⟨e1,e2,_⟩:=hb4 hn'
     exact ⟨b,0,_,false,e1,by simp;omega,by show h.nx<=b;omega,by rw [jaa om,hcb hn'],fun i y hi=>by rw [zN];exact jbG (fun _=>rfl) hi⟩
    ·obtain ⟨j,hjl,e⟩:=List.getElem_of_mem hm
     have hjl:j<cur.length:=hjl
     obtain ⟨p1,p2⟩:=hcv j m om (by rw [za hjl,e])
     exact ⟨p1.keep2 Zd fun hl z hz=>jaa (by have:=p2 z hz;omega),fun _ z hz=>by have:=p2 z hz;show h.nx<=z;omega⟩
   have hsp:SpX.sp ⟨x.t,x.intr,x.ol,.slice oa x.ol.length oc,cur,.slice ad x.ml.length c⟩=x.sp:=by
    unfold SpX.sp
    rw [hcm]
   clear ih hcr hcv hcb hgk hb4 r6 d6 b6 c6 hcm
   refine qm ?_
   exact fin_agg rfl (jab _) rfl ⟨_,rfl,hsp,hst,hog⟩
  obtain ⟨y,hy⟩:=jfa (l:=x.ml) (i:=i) om
  have hcy:cur[i]?=some y:=by rw [hcr i (zp _),hy]
  have hne:x.ml≠[]:=by intro e;rw [e] at hy;simp at hy
  have hym:=zc hy
  obtain ⟨rfl,lb,_⟩:=hb4 hne
  have gb:=hcb hne
  have hv:VB g y.dv y.m.D:=(d6 y hym).keep2 hgx fun hl z hz=>by
   have:=(a.dv y hym).1.lt hl hz
   exact hgk z om om
  obtain ⟨v1,g1,e1,o1,hv1,hz1,a1,c1,rfl⟩:=sc_bytes hcl (d:=d-1) om hv (by have:=h3 y hym;omega)
  have cs3:((cur.map MvX.V).flatten)[0+(i:Int).toNat*4+3]?=some y.dv:=by
   rw [zN,zt,jgq (jbG (fun _=>rfl) hcy) om];rfl
  have bg1:g1.get h.nx=some (.cells [.int .u64 x.t,.bool x.intr,.slice oa x.ol.length oc,.slice (some (b,0)) x.ml.length c] false):=by rw [o1.2 _ om,bg]
  have gb1:g1.get b=some (.cells (cur.map MvX.V).flatten false):=by rw [o1.2 _ om,gb]
  have hfl:((cur.map MvX.V).flatten).length=cur.length*4:=jdQ (fun _=>rfl) cur
  have hst:=jix (l:=cur) (i:=i) (m:=y.m) (dv:=y.dv) (v := .slice a1 y.m.D.length c1) hcy
  have hi1:(i:Int)+1=((i+1:Nat):Int):=by omega
  have hdm:=h3 y hym
  generalize hfc:(cur.map MvX.V).flatten=fc at gb gb1 cs3 hfl hst
  clear hb4 hcb d6 h3
  refine qx ?_
  refine Zm rfl e1 (jaK rfl bg1 rfl rfl jba) ?_
  refine qx ?_
  refine zcs (l:=fc) rfl rfl rfl gb1 om ?_
  refine qx ?_
  rw [hi1,show 0+(i:Int).toNat*4+3=i*4+3 by omega,hst]
  refine ih (x.ml.length-(i+1)) om _ _ ⟨i+1,cur.set i ⟨y.m,.slice a1 y.m.D.length c1⟩,rfl,by omega,rfl,by simp [hcl1],?_,fun j hj=>?_,fun j w hj hw=>?_,fun _=>jab _,by simp;have:=o1.1;omega,fun j hj hjb=>?_⟩
  ·rw [<- hcm]
   apply zR
   intro j
   simp only [List.getElem?_map,zh]
   by_cases e:i=j
   ·subst e
    rw [zC rfl,zC om,hcy];rfl
   ·rw [zz e]
  ·rw [List.getElem?_set_ne om,hcr j om]
  ·by_cases e:j=i
   ·subst e
    rw [List.getElem?_set_self om] at hw
    cases hw
    exact ⟨hv1.keep2 Zd fun hl z hz=>jaa (by have:=hz1 z hz;omega),fun z hz=>by have:=hz1 z hz;omega⟩
   ·rw [List.getElem?_set_ne om] at hw
    obtain ⟨p1,p2⟩:=hcv j w om hw
    exact ⟨p1.keep2 (by simp;exact o1.1) fun hl z hz=>by rw [jaa (by have:=p2 z hz;omega),o1.2 z (p1.lt hl hz)],p2⟩
  ·rw [jaa hjb,o1.2 j om,hgk j hj hjb]
 clear a0 a4
 refine qm ?_
 refine Zm rfl e4 (jaK rfl b4 q3 rfl jba) ?_
 refine qm ?_
 exact T _ rfl
end
end Am.Sigs
