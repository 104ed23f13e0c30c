/- Our own library, part 19. -/
import Derived.Test.YtafdknfdmlknfaaGreatH18
import Derived.Test.YtafdknfdmlknfaaGreatH17
set_option maxHeartbeats 8000000
set_option maxRecDepth 800
set_option linter.all false
namespace Am.Sigs
open Am Go
theorem jkn {ws:Ws} {f0:Int} {fs:List Int} (h:jaw ws 96=f0 :: fs):(∃ i0:Nat,f0=i0/\i0<96) /\ ∀ f1 r,fs=f1 :: r -> ∃ i1:Nat,f1=i1/\i1<96/\f0≠f1:=by
 constructor
 ·obtain ⟨i,e,hi,_⟩:=jeq (ws:=ws) (n:=96) (f:=f0) (by rw [h];simp)
  exact ⟨i,e,hi⟩
 ·rintro f1 r rfl
  obtain ⟨i,e,hi,_⟩:=jeq (ws:=ws) (n:=96) (f:=f1) (by rw [h];simp)
  refine ⟨i,e,hi,fun e2=>?_⟩
  have nd:=jhA ws 96
  rw [h,e2] at nd
  exact zM nd Zd
section
variable {cl:Nat->Call} (hcl:Sem cl) {h:H} {w s:Nat} {ow:Nat->Nat} {l:List WX} {now:Int} {tb:Tb} {no:Option (Nat × Nat)}
include hcl
theorem joy {d m r0 r1:Nat} {kind n:Int} {x:Wi} {h1:H} (hd:6<=d) (hk:kind=0\/kind=1) (K:WsK (wxs l)) (a:WW h w s ow l now tb no) (o1:Old h h1)
  (good:1<=n->n<=65536->h.nx+5<=h1.nx/\h1.get h.nx=some (x.obj (h.nx+2) (h.nx+4) .nils)/\x.waiting=[]/\(∀ i0 i1:Nat,(x.name 0 i0).name 1 i1=newW kind n i0 i1) /\ ∀ k,k=0\/k=1->ja5 h1 (two (h.nx+2) (h.nx+4) k) (two (h.nx+1) (h.nx+3) k) [] n.toNat) :
  ∃ v h' ow',cl d (.fn 56) [.p w 0,.i n,.i ((2:Nat):Int),.p h.nx 0] h1=some (.tup [v,.i (jah (wxs l) kind n).1.2],h')/\VI h' v (jah (wxs l) kind n).1.1/\WSt h' w s ow' (jah (wxs l) kind n).2 now tb no/\To h h' ow ow':=by
 have a1:=a.old o1
 have K':=jdL (kind:=kind) (n:=n) om K
 by_cases hn:n<1\/65536<n
 ·have e:jah (wxs l) kind n=(([],2),wxs l):=zG om
  rw [e]
  exact ⟨_,h1,ow,jha hcl om a1 hn,VI.nil h1,⟨l,a1,rfl⟩,ZE o1⟩
 have eS:jah (wxs l) kind n=_:=zF om
 have hlw:(wxs l).length=l.length:=by simp
 have ol:l.length<=1000:=by have:=K.ok.len;omega
 have many:((jaw (wxs l) 96).take 2).length≠2\/1000<=l.length -> ∃ h',cl d (.fn 56) [.p w 0,.i n,.i ((2:Nat):Int),.p h.nx 0] h1=some (.tup [.nils,.i 112],h')/\Old h1 h':=fun hb=>jg1 hcl hd (.inr rfl) a1 ol om om hb
 cases hF:jaw (wxs l) 96 with
 | nil=>
  simp only [hF] at eS;rw [eS]
  obtain ⟨h',e,o2⟩:=many (.inl (by rw [hF];simp))
  exact ⟨_,h',ow,e,VI.nil h',⟨l,a1.old o2,rfl⟩,ZE (o1.trans o2)⟩
 | cons f0 fs=>
  simp only [hF] at eS
  by_cases hbad:(fs=[]/\kind<2)\/1000<=(wxs l).length
  ·rw [zG hbad] at eS;rw [eS]
   obtain ⟨h',e,o2⟩:=many (hbad.imp (fun e=>by rw [hF,e.1];simp) fun e=>by omega)
   exact ⟨_,h',ow,e,VI.nil h',⟨l,a1.old o2,rfl⟩,ZE (o1.trans o2)⟩
  ·rw [zF hbad] at eS
   cases fs with
   | nil=>exact zM (.inl ⟨rfl,by omega⟩) hbad
   | cons f1 r=>
    obtain ⟨⟨i0,rfl,l0⟩,q⟩:=jkn hF
    obtain ⟨i1,rfl,l1,hne⟩:=q f1 r rfl
    have eS:jah (wxs l) kind n=(([(i0:Int),(i1:Int)],0),wxs l++[newW kind n i0 i1]):=by
     rw [eS,zG om];rfl
    rw [eS] at K'
    obtain ⟨g1,g2,g3,g4,g5⟩:=good om om
    have hN0:=a.wf.top h.nx (zr _)
    obtain ⟨v,h2,h',e,p1,o2,op⟩:=xp_make2 hcl (N:=h.nx) (i0:=i0) (i1:=i1) hd a1 (n:=n) om om (by rw [hF];rfl) l0 l1 om g2 hN0 om
    rw [g4] at op
    have hx0:(newW kind n i0 i1).e0.what=1/\(newW kind n i0 i1).e0.fd=i0/\(newW kind n i0 i1).e1.what=1/\(newW kind n i0 i1).e1.fd=i1/\(newW kind n i0 i1).waiting=[]/\(newW kind n i0 i1).cap=n.toNat/\(∀ q,(newW kind n i0 i1).e0.ring=some q->q=[]) /\ ∀ q,(newW kind n i0 i1).e1.ring=some q->q=[]:=by
     rcases hk with rfl | rfl
     ·exact ⟨rfl,rfl,rfl,rfl,rfl,rfl,fun q hq=>by (have hq:some []=some q:=hq);cases hq;rfl,fun q hq=>by (have hq:none=some q:=hq);cases hq⟩
     ·exact ⟨rfl,rfl,rfl,rfl,rfl,rfl,fun q hq=>by (have hq:some []=some q:=hq);cases hq;rfl,fun q hq=>by (have hq:some []=some q:=hq);cases hq;rfl⟩
    obtain ⟨z1,z2,z3,z4,z5,z6,z7,z8⟩:=hx0
    generalize newW kind n i0 i1=y at op eS z1 z2 z3 z4 z5 z6 z7 z8 K'
    obtain ⟨ow',W,T⟩:=a.newWire (m:=5) (o1.trans o2) (.inr rfl) (zE g1 o2.1) (fun _=>⟨rfl,rfl⟩) op z5
     (fun j _=>by have:=tab_push2 (j:=j) K'.ok.uniq z1 z2 z3 z4 om;rw [hlw] at this;exact this)
     (fun k hk' h1'=>by
      rcases hk' with rfl | rfl
      ·show 0<=y.e0.fd/\y.e0.fd<=95;omega
      ·show 0<=y.e1.fd/\y.e1.fd<=95;omega)
     (fun k hk' q hq=>by
      refine ⟨rfl,?_⟩
      have R:=g5 k hk'
      have eq:q=[]:=by
       rcases hk' with rfl | rfl
       ·exact z7 q hq
       ·exact z8 q hq
      rw [eq,z6]
      refine R.keep (o2.2 _ ?_) (o2.2 _ ?_)<;>(rcases hk' with rfl | rfl<;>simp only [two]<;>omega))
    rw [eS]
    exact ⟨v,h',ow',e,p1,W,T⟩
theorem joz {d m r0 r1:Nat} {kind n:Int} {x:Wi} {h1:H} (hd:6<=d) (hk:kind=2\/kind=3) (hn3:kind=3->n<=64) (K:WsK (wxs l)) (a:WW h w s ow l now tb no) (o1:Old h h1)
  (good:1<=n->n<=65536->(m=1\/m=5)/\(m=5->r0=h.nx+2/\r1=h.nx+4)/\h.nx+m<=h1.nx/\h1.get h.nx=some (x.obj r0 r1 .nils)/\x.waiting=[]/\(∀ i0:Nat,x.name 0 i0=newW kind n i0 0)/\(kind=2->m=5 /\ ∀ k,k=0\/k=1->ja5 h1 (two (h.nx+2) (h.nx+4) k) (two (h.nx+1) (h.nx+3) k) [] n.toNat)) :
  ∃ v h' ow',cl d (.fn 56) [.p w 0,.i n,.i ((1:Nat):Int),.p h.nx 0] h1=some (.tup [v,.i (jah (wxs l) kind n).1.2],h')/\VI h' v (jah (wxs l) kind n).1.1/\WSt h' w s ow' (jah (wxs l) kind n).2 now tb no/\To h h' ow ow':=by
 have a1:=a.old o1
 have K':=jdL (kind:=kind) (n:=n) om K
 by_cases hn:n<1\/65536<n
 ·have e:jah (wxs l) kind n=(([],2),wxs l):=zG om
  rw [e]
  exact ⟨_,h1,ow,jha hcl om a1 hn,VI.nil h1,⟨l,a1,rfl⟩,ZE o1⟩
 have eS:jah (wxs l) kind n=_:=zF om
 have hlw:(wxs l).length=l.length:=by simp
 have ol:l.length<=1000:=by have:=K.ok.len;omega
 have many:((jaw (wxs l) 96).take 1).length≠1\/1000<=l.length -> ∃ h',cl d (.fn 56) [.p w 0,.i n,.i ((1:Nat):Int),.p h.nx 0] h1=some (.tup [.nils,.i 112],h')/\Old h1 h':=fun hb=>jg1 hcl hd (.inl rfl) a1 ol om om hb
 cases hF:jaw (wxs l) 96 with
 | nil=>
  simp only [hF] at eS;rw [eS]
  obtain ⟨h',e,o2⟩:=many (.inl (by rw [hF];simp))
  exact ⟨_,h',ow,e,VI.nil h',⟨l,a1.old o2,rfl⟩,ZE (o1.trans o2)⟩
 | cons f0 fs=>
  simp only [hF] at eS
  by_cases hbad:(fs=[]/\kind<2)\/1000<=(wxs l).length
  ·rw [zG hbad] at eS;rw [eS]
   obtain ⟨h',e,o2⟩:=many (hbad.imp (fun e=>by omega) fun e=>by omega)
   exact ⟨_,h',ow,e,VI.nil h',⟨l,a1.old o2,rfl⟩,ZE (o1.trans o2)⟩
  ·rw [zF hbad] at eS
   obtain ⟨⟨i0,rfl,l0⟩,_⟩:=jkn hF
   have eW : ∀ c:Int,newW kind n i0 c=newW kind n i0 0:=by
    intro c
    rcases hk with rfl | rfl<;>rfl
   have eS:jah (wxs l) kind n=(([(i0:Int)],0),wxs l++[newW kind n i0 0]):=by
    rw [eS,zF om,eW];rfl
   rw [eS] at K'
   obtain ⟨g0,g01,g1,g2,g3,g4,g5⟩:=good om om
   have hN0:=a.wf.top h.nx (zr _)
   obtain ⟨v,h2,h',e,p1,o2,op⟩:=xp_make1 hcl (N:=h.nx) (i0:=i0) hd a1 (n:=n) om om (by rw [hF];rfl) l0 om g2 hN0 om
   rw [g4] at op
   have hx0:(newW kind n i0 0).e0.what=1/\(newW kind n i0 0).e0.fd=i0/\(newW kind n i0 0).e1.what≠1/\(newW kind n i0 0).waiting=[]/\(newW kind n i0 0).cap=n.toNat/\(∀ q,(newW kind n i0 0).e0.ring=some q->q=[]/\kind=2) /\ ∀ q,(newW kind n i0 0).e1.ring=some q->q=[]/\kind=2:=by
    rcases hk with rfl | rfl
    ·exact ⟨rfl,rfl,by show (2:Int)≠1;omega,rfl,rfl,fun q hq=>by (have hq:some []=some q:=hq);cases hq;exact ⟨rfl,rfl⟩,fun q hq=>by (have hq:some []=some q:=hq);cases hq;exact ⟨rfl,rfl⟩⟩
    ·exact ⟨rfl,rfl,by show (0:Int)≠1;omega,rfl,rfl,fun q hq=>(by have hq:none=some q:=hq;cases hq),fun q hq=>(by have hq:none=some q:=hq;cases hq)⟩
   obtain ⟨z1,z2,z3,z5,z6,z7,z8⟩:=hx0
   generalize newW kind n i0 0=y at op eS z1 z2 z3 z5 z6 z7 z8 K'
   obtain ⟨ow',W,T⟩:=a.newWire (m:=m) (o1.trans o2) g0 (zE g1 o2.1) g01 op z5
    (fun j _=>by have:=tab_push1 (j:=j) K'.ok.uniq z1 z2 z3;rw [hlw] at this;exact this)
    (fun k hk' h1'=>by
     rcases hk' with rfl | rfl
     ·show 0<=y.e0.fd/\y.e0.fd<=95;omega
     ·exact zM h1' z3)
    (fun k hk' q hq=>by
     have eq:q=[]/\kind=2:=by
      rcases hk' with rfl | rfl
      ·exact z7 q hq
      ·exact z8 q hq
     obtain ⟨m5,R⟩:=g5 eq.2
     obtain ⟨e0,e1⟩:=g01 m5
     refine ⟨m5,?_⟩
     rw [eq.1,z6,e0,e1]
     refine (R k hk').keep (o2.2 _ ?_) (o2.2 _ ?_)<;>(rcases hk' with rfl | rfl<;>simp only [two]<;>omega))
   rw [eS]
   exact ⟨v,h',ow',e,p1,W,T⟩
end
theorem jgj {ws:Ws} {kind n:Int} (hk:kind<2):((jah ws kind n).1.2=0 /\ ∃ a b,(jah ws kind n).1.1=[a,b])\/((jah ws kind n).1.2≠0/\(jah ws kind n).1.1=[]):=by
 unfold jah
 split
 ·exact .inr ⟨by show (2:Int)≠0;omega,rfl⟩
 split
 ·exact .inr ⟨by show (112:Int)≠0;omega,rfl⟩
 next f0 fs hF=>
 split
 ·exact .inr ⟨by show (112:Int)≠0;omega,rfl⟩
 next hb=>
 cases fs with
 | nil=>exact zM (.inl ⟨rfl,hk⟩) hb
 | cons f1 r=>exact .inl ⟨rfl,f0,f1,rfl⟩
theorem jgk {ws:Ws} {kind n:Int} (hk : ¬ kind<2):((jah ws kind n).1.2=0/\(∃ a,(jah ws kind n).1.1=[a])/\(jah ws kind n).2.length=ws.length+1)\/((jah ws kind n).1.2≠0/\(jah ws kind n).1.1=[]):=by
 unfold jah
 split
 ·exact .inr ⟨by show (2:Int)≠0;omega,rfl⟩
 split
 ·exact .inr ⟨by show (112:Int)≠0;omega,rfl⟩
 next f0 fs hF=>
 split
 ·exact .inr ⟨by show (112:Int)≠0;omega,rfl⟩
 ·exact .inl ⟨rfl,⟨f0,rfl⟩,by simp⟩
theorem WSt.len {h:H} {w s:Nat} {ow:Nat->Nat} {ws:Ws} {now:Int} {tb:Tb} {no:Option (Nat × Nat)} (a:WSt h w s ow ws now tb no) : ∃ f av cp,h.get w=some (.cells (wc f (.slice av ws.length cp) s now no) false):=by
 obtain ⟨l,a,rfl⟩:=a
 obtain ⟨av,cp,hw,_⟩:=a.wf.head
 exact ⟨fun i=>atS (wxs l) (i:Int),av,cp,by rw [hw,List.length_map]⟩
section
variable {cl:Nat->Call} (hcl:Sem cl) {h:H} {w s:Nat} {ow:Nat->Nat} {ws:Ws} {now:Int} {tb:Tb} {no:Option (Nat × Nat)}
include hcl
theorem jhb {d:Nat} {n:Int} (hd:2<=d) :
  ∃ h1 q0 q1 r0 r1 c,cl d (.fn 55) [.i n] h=some (.p h.nx 0,h1)/\Old h h1/\h.nx<h1.nx/\h1.get h.nx=some ((⟨⟨0,0,q0,true,false,0,0⟩,⟨0,0,q1,true,false,0,0⟩,c,false,0,[]⟩:Wi).obj r0 r1 .nils) /\
   (1<=n->n<=65536->h1.nx=h.nx+5/\q0=some []/\q1=some []/\r0=h.nx+2/\r1=h.nx+4/\c=n.toNat /\ ∀ k,k=0\/k=1->ja5 h1 (two (h.nx+2) (h.nx+4) k) (two (h.nx+1) (h.nx+3) k) [] n.toNat):=by
 by_cases hn:n<0\/65536<n
 ·obtain ⟨h1,e,x1,o1,g0⟩:=jk7 hcl (h:=h) hd hn
  exact ⟨h1,_,_,_,_,_,e,o1,by omega,g0,fun _ _=>by omega⟩
 ·obtain ⟨m,rfl⟩:=zC (show 0<=n by omega)
  obtain ⟨h1,e,x1,o1,g0,g2,g1,g4,g3⟩:=jnk hcl (h:=h) (n:=m) hd om
  refine ⟨h1,_,_,_,_,_,e,o1,by omega,g0,fun p1 p2=>⟨x1,rfl,rfl,rfl,rfl,rfl,fun k hk=>?_⟩⟩
  rcases hk with rfl | rfl
  ·exact je5 om om g2 g1
  ·exact je5 om om g4 g3
theorem ww_Pair {d:Nat} {n:Int} (hd:7<=d) (K:WsK ws) (a:WSt h w s ow ws now tb no) :
  ∃ x y h' ow',cl d (.fn 25) [.p w 0,.i n] h=some (.tup [.i x,.i y,.i (jah ws 1 n).1.2],h')/\((jah ws 1 n).1.2=0->(jah ws 1 n).1.1=[x,y])/\((jah ws 1 n).1.2≠0->x=0/\y=0)/\WSt h' w s ow' (jah ws 1 n).2 now tb no/\To h h' ow ow':=by
 obtain ⟨l,a,rfl⟩:=a
 obtain ⟨h1,q0,q1,r0,r1,c,e1,o1,x1,g0,good⟩:=jhb hcl (h:=h) (d:=d-1) (n:=n) om
 obtain ⟨v,h',ow',e2,p1,W,T⟩:=joy hcl (d:=d-1) (kind:=1) (n:=n) (m:=0) (r0:=0) (r1:=0) om (.inr rfl) K a o1 fun n1 n2=>by
  obtain ⟨y1,rfl,rfl,rfl,rfl,rfl,R⟩:=good n1 n2
  exact ⟨by omega,g0,rfl,fun _ _=>rfl,R⟩
 have e2:cl (d-1) (.fn 56) [.p w 0,.i n,.i 2,.p h.nx 0] h1=_:=e2
 clear good
 suffices q : ∃ v h',cl d (.fn 25) [.p w 0,.i n] h=some (v,h') /\ ∃ x y,v = .tup [.i x,.i y,.i (jah (wxs l) 1 n).1.2]/\((jah (wxs l) 1 n).1.2=0->(jah (wxs l) 1 n).1.1=[x,y])/\((jah (wxs l) 1 n).1.2≠0->x=0/\y=0)/\WSt h' w s ow' (jah (wxs l) 1 n).2 now tb no/\To h h' ow ow' by
  obtain ⟨_,h',e,x,y,rfl,q⟩:=q;exact ⟨x,y,h',ow',e,q⟩
 rcases jgj (ws:=wxs l) (n:=n) (kind:=1) om with ⟨m1,x,y,m2⟩ | ⟨m1,m2⟩
 ·rw [m2] at p1
  obtain ⟨af,cf,rfl,_⟩:=id p1
  obtain ⟨b,of,cs,ro,rfl,hcs,hc0⟩:=VI.cell (l:=[x,y]) p1 (i:=0) (x:=x) rfl
  obtain ⟨_,_,_,_,e0,ecs,hc1⟩:=VI.cell (l:=[x,y]) p1 (i:=1) (x:=y) rfl
  cases e0
  rw [hcs] at ecs;cases ecs
  have hc1:cs[of+(1:Int).toNat*1]?=some (.i y):=hc1
  have hc0:cs[of+(0:Int).toNat*1]?=some (.i x):=hc0
  generalize jah (wxs l) 1 n=M at m1 m2 e2 W ⊢
  obtain ⟨⟨M1,M2⟩,M3⟩:=M
  simp only at m1 m2 e2 W ⊢
  subst m1 m2
  refine aT hcl ?_
  refine Ga ?_
  exact ⟨x,y,rfl,fun _=>rfl,fun h=>zM rfl h,W,T⟩
 ·rw [m2] at p1
  generalize jah (wxs l) 1 n=M at m1 m2 e2 W ⊢
  obtain ⟨⟨M1,M2⟩,M3⟩:=M
  simp only at m1 m2 e2 W ⊢
  refine aT hcl ?_
  refine Ga ?_
  exact ⟨0,0,rfl,fun h=>zM h m1,fun _=>⟨rfl,rfl⟩,W,T⟩
theorem ww_Pipe {d:Nat} {n:Int} (hd:7<=d) (K:WsK ws) (a:WSt h w s ow ws now tb no) :
  ∃ x y h' ow',cl d (.fn 24) [.p w 0,.i n] h=some (.tup [.i x,.i y,.i (jah ws 0 n).1.2],h')/\((jah ws 0 n).1.2=0->(jah ws 0 n).1.1=[x,y])/\((jah ws 0 n).1.2≠0->x=0/\y=0)/\WSt h' w s ow' (jah ws 0 n).2 now tb no/\To h h' ow ow':=by
 obtain ⟨l,a,rfl⟩:=a
 obtain ⟨h1,q0,q1,r0,r1,c,e1,o1,x1,g0,good⟩:=jhb hcl (h:=h) (d:=d-1) (n:=n) om
 simp only [Wi.obj,Wi.cells,En.cells,zZ,Zi] at g0
 have key : ∀ G:H,G=(h1.set h.nx (.cells [.i 0,.i 0,En.ptr q0 r0,.bool false,.bool false,.int .u64 0,.int .u64 0,.i 0,.i 0,En.ptr q1 r1,.bool true,.bool false,.int .u64 0,.int .u64 0,.bool false,.i 0,.nils] false)).set h.nx (.cells [.i 0,.i 0,En.ptr q0 r0,.bool false,.bool false,.int .u64 0,.int .u64 0,.i 0,.i 0,.ptr none,.bool true,.bool false,.int .u64 0,.int .u64 0,.bool false,.i 0,.nils] false) ->
   ∃ v h' ow',cl (d-1) (.fn 56) [.p w 0,.i n,.i 2,.p h.nx 0] G=some (.tup [v,.i (jah (wxs l) 0 n).1.2],h')/\VI h' v (jah (wxs l) 0 n).1.1/\WSt h' w s ow' (jah (wxs l) 0 n).2 now tb no/\To h h' ow ow':=by
  intro G hG
  have oG:Old h G:=by rw [hG];exact (o1.set (zr _)).set (zr _)
  refine joy hcl (d:=d-1) (kind:=0) (n:=n) (m:=0) (r0:=0) (r1:=0) (x:=⟨⟨0,0,some [],false,false,0,0⟩,⟨0,0,none,true,false,0,0⟩,n.toNat,false,0,[]⟩) om (.inl rfl) K a oG fun n1 n2=>?_
  obtain ⟨y1,rfl,rfl,rfl,rfl,rfl,R⟩:=good n1 n2
  refine ⟨by rw [hG];exact Nat.le_of_eq y1.symm,by rw [hG];exact jab _,rfl,fun _ _=>rfl,fun k hk=>?_⟩
  refine (R k hk).keep ?_ ?_<;>(rw [hG,jaa,jaa]<;>(rcases hk with rfl | rfl<;>simp only [two]<;>omega))
 suffices q : ∃ v h',cl d (.fn 24) [.p w 0,.i n] h=some (v,h') /\ ∃ x y ow',v = .tup [.i x,.i y,.i (jah (wxs l) 0 n).1.2]/\((jah (wxs l) 0 n).1.2=0->(jah (wxs l) 0 n).1.1=[x,y])/\((jah (wxs l) 0 n).1.2≠0->x=0/\y=0)/\WSt h' w s ow' (jah (wxs l) 0 n).2 now tb no/\To h h' ow ow' by
  obtain ⟨_,h',e,x,y,ow',rfl,q⟩:=q;exact ⟨x,y,h',ow',e,q⟩
 clear good
 refine aT hcl ?_
 refine Gb ?_
 refine Ops.opqh fun G hG=>?_
 obtain ⟨v,h',ow',e2,p1,W,T⟩:=key G hG
 clear hG key
 rcases jgj (ws:=wxs l) (n:=n) (kind:=0) om with ⟨m1,x,y,m2⟩ | ⟨m1,m2⟩
 ·rw [m2] at p1
  obtain ⟨af,cf,rfl,_⟩:=id p1
  obtain ⟨b,of,cs,ro,rfl,hcs,hc0⟩:=VI.cell (l:=[x,y]) p1 (i:=0) (x:=x) rfl
  obtain ⟨_,_,_,_,e0,ecs,hc1⟩:=VI.cell (l:=[x,y]) p1 (i:=1) (x:=y) rfl
  cases e0
  rw [hcs] at ecs;cases ecs
  have hc1:cs[of+(1:Int).toNat*1]?=some (.i y):=hc1
  have hc0:cs[of+(0:Int).toNat*1]?=some (.i x):=hc0
  generalize jah (wxs l) 0 n=M at m1 m2 e2 W ⊢
  obtain ⟨⟨M1,M2⟩,M3⟩:=M
  simp only at m1 m2 e2 W ⊢
  subst m1 m2
  refine Ga ?_
  exact ⟨x,y,ow',rfl,fun _=>rfl,fun h=>zM rfl h,W,T⟩
 ·rw [m2] at p1
  generalize jah (wxs l) 0 n=M at m1 m2 e2 W ⊢
  obtain ⟨⟨M1,M2⟩,M3⟩:=M
  simp only at m1 m2 e2 W ⊢
  refine Ga ?_
  exact ⟨0,0,ow',rfl,fun h=>zM h m1,fun _=>⟨rfl,rfl⟩,W,T⟩
theorem ww_Outer {d:Nat} {n:Int} (hd:7<=d) (K:WsK ws) (a:WSt h w s ow ws now tb no) :
  ∃ x y h' ow',cl d (.fn 18) [.p w 0,.i n] h=some (.tup [.i x,.i y,.i (jah ws 2 n).1.2],h')/\((jah ws 2 n).1.2=0->(jah ws 2 n).1.1=[x]/\y=ws.length)/\((jah ws 2 n).1.2≠0->x=0/\y=0)/\WSt h' w s ow' (jah ws 2 n).2 now tb no/\To h h' ow ow':=by
 obtain ⟨l,a,rfl⟩:=a
 obtain ⟨h1,q0,q1,r0,r1,c,e1,o1,x1,g0,good⟩:=jhb hcl (h:=h) (d:=d-1) (n:=n) om
 simp only [Wi.obj,Wi.cells,En.cells,zZ,Zi] at g0
 have key : ∀ G:H,G=h1.set h.nx (.cells [.i 0,.i 0,En.ptr q0 r0,.bool true,.bool false,.int .u64 0,.int .u64 0,.i 2,.i 0,En.ptr q1 r1,.bool true,.bool false,.int .u64 0,.int .u64 0,.bool false,.i 0,.nils] false) ->
   ∃ v h' ow',cl (d-1) (.fn 56) [.p w 0,.i n,.i 1,.p h.nx 0] G=some (.tup [v,.i (jah (wxs l) 2 n).1.2],h')/\VI h' v (jah (wxs l) 2 n).1.1/\WSt h' w s ow' (jah (wxs l) 2 n).2 now tb no/\To h h' ow ow':=by
  intro G hG
  have oG:Old h G:=by rw [hG];exact o1.set (zr _)
  refine joz hcl (d:=d-1) (kind:=2) (n:=n) (m:=5) (r0:=h.nx+2) (r1:=h.nx+4) (x:=⟨⟨0,0,some [],true,false,0,0⟩,⟨2,0,some [],true,false,0,0⟩,n.toNat,false,0,[]⟩) om (.inl rfl) (fun e=>by omega) K a oG fun n1 n2=>?_
  obtain ⟨y1,rfl,rfl,rfl,rfl,rfl,R⟩:=good n1 n2
  refine ⟨.inr rfl,fun _=>⟨rfl,rfl⟩,by rw [hG];exact Nat.le_of_eq y1.symm,by rw [hG];exact jab _,rfl,fun _=>rfl,fun _=>⟨rfl,fun k hk=>?_⟩⟩
  refine (R k hk).keep ?_ ?_<;>(rw [hG,jaa]<;>(rcases hk with rfl | rfl<;>simp only [two]<;>omega))
 suffices q : ∃ v h',cl d (.fn 18) [.p w 0,.i n] h=some (v,h') /\ ∃ x y ow',v = .tup [.i x,.i y,.i (jah (wxs l) 2 n).1.2]/\((jah (wxs l) 2 n).1.2=0->(jah (wxs l) 2 n).1.1=[x]/\y=(wxs l).length)/\((jah (wxs l) 2 n).1.2≠0->x=0/\y=0)/\WSt h' w s ow' (jah (wxs l) 2 n).2 now tb no/\To h h' ow ow' by
  obtain ⟨_,h',e,x,y,ow',rfl,q⟩:=q;exact ⟨x,y,h',ow',e,q⟩
 clear good
 refine aT hcl ?_
 refine Gb ?_
 refine Ops.opqh fun G hG=>?_
 obtain ⟨v,h',ow',e2,p1,W,T⟩:=key G hG
 clear hG key
 rcases jgk (ws:=wxs l) (n:=n) (kind:=2) om with ⟨m1,⟨x,m2⟩,m3⟩ | ⟨m1,m2⟩
 ·rw [m2] at p1
  obtain ⟨af,cf,rfl,_⟩:=id p1
  obtain ⟨b,of,cs,ro,rfl,hcs,hc0⟩:=VI.cell (l:=[x]) p1 (i:=0) (x:=x) rfl
  have hc0:cs[of+(0:Int).toNat*1]?=some (.i x):=hc0
  obtain ⟨f2,av2,cp2,hw2⟩:=W.len
  rw [m3,List.length_map] at hw2
  have c1:(wc f2 (.slice av2 (l.length+1) cp2) s now no)[0+288]?=some (.slice av2 (l.length+1) cp2):=jbe rfl
  have em:((l.length+1:Nat):Int)-1=(l.length:Int):=by omega
  have ol:=K.ok.len
  rw [List.length_map] at ol
  generalize jah (wxs l) 2 n=M at m1 m2 e2 W ⊢
  obtain ⟨⟨M1,M2⟩,M3⟩:=M
  simp only at m1 m2 e2 W ⊢
  subst m1 m2
  refine Ga ?_
  exact ⟨x,l.length,ow',by rw [em],fun _=>⟨rfl,by simp⟩,fun h=>zM rfl h,W,T⟩
 ·rw [m2] at p1
  generalize jah (wxs l) 2 n=M at m1 m2 e2 W ⊢
  obtain ⟨⟨M1,M2⟩,M3⟩:=M
  simp only at m1 m2 e2 W ⊢
  refine Ga ?_
  exact ⟨0,0,ow',rfl,fun h=>zM h m1,fun _=>⟨rfl,rfl⟩,W,T⟩
theorem ww_Listen {d:Nat} {n:Int} (hd:7<=d) (K:WsK ws) (a:WSt h w s ow ws now tb no) :
  ∃ x y h' ow',cl d (.fn 26) [.p w 0,.i n] h=some (.tup [.i x,.i y,.i (jah ws 3 n).1.2],h')/\((jah ws 3 n).1.2=0->(jah ws 3 n).1.1=[x]/\y=ws.length)/\((jah ws 3 n).1.2≠0->x=0/\y=0)/\WSt h' w s ow' (jah ws 3 n).2 now tb no/\To h h' ow ow':=by
 obtain ⟨l,a,rfl⟩:=a
 have hnone:=jcw hcl (d:=d-1) om a.wf
 suffices q : ∃ v h',cl d (.fn 26) [.p w 0,.i n] h=some (v,h') /\ ∃ x y ow',v = .tup [.i x,.i y,.i (jah (wxs l) 3 n).1.2]/\((jah (wxs l) 3 n).1.2=0->(jah (wxs l) 3 n).1.1=[x]/\y=(wxs l).length)/\((jah (wxs l) 3 n).1.2≠0->x=0/\y=0)/\WSt h' w s ow' (jah (wxs l) 3 n).2 now tb no/\To h h' ow ow' by
  obtain ⟨_,h',e,x,y,ow',rfl,q⟩:=q;exact ⟨x,y,h',ow',e,q⟩
 refine aT hcl ?_
 by_cases hn:64<n
 ·have eS:jah (wxs l) 3 n=(([],2),wxs l):=zG (.inr (.inr ⟨rfl,hn⟩))
  rw [eS]
  refine Ga ?_
  exact ⟨0,0,ow,rfl,fun h=>by (have h:(2:Int)=0:=h);omega,fun _=>⟨rfl,rfl⟩,⟨l,a,rfl⟩,To.refl _ _⟩
 have key : ∀ G:H,G=h.new (.cells [.i 0,.i 0,.ptr none,.bool false,.bool false,.int .u64 0,.int .u64 0,.i 0,.i 0,.ptr none,.bool false,.bool false,.int .u64 0,.int .u64 0,.bool false,.i n,.nils] false) ->
   ∃ v h' ow',cl (d-1) (.fn 56) [.p w 0,.i n,.i 1,.p h.nx 0] G=some (.tup [v,.i (jah (wxs l) 3 n).1.2],h')/\VI h' v (jah (wxs l) 3 n).1.1/\WSt h' w s ow' (jah (wxs l) 3 n).2 now tb no/\To h h' ow ow':=by
  intro G hG
  have oG:Old h G:=by rw [hG];exact (ZD h).new
  exact joz hcl (d:=d-1) (kind:=3) (n:=n) (m:=1) (r0:=0) (r1:=0) (x:=⟨⟨0,0,none,false,false,0,0⟩,⟨0,0,none,false,false,0,0⟩,n.toNat,false,n,[]⟩) om (.inr rfl) (fun _=>by omega) K a oG fun n1 n2=>
   ⟨.inl rfl,fun e=>by omega,by rw [hG];exact zr _,by rw [hG];exact jad _,rfl,fun _=>rfl,fun e=>by omega⟩
 refine qm ?_
 refine Ops.opqh fun G hG=>?_
 obtain ⟨v,h',ow',e2,p1,W,T⟩:=key G hG
 clear hG key
 rcases jgk (ws:=wxs l) (n:=n) (kind:=3) om with ⟨m1,⟨x,m2⟩,m3⟩ | ⟨m1,m2⟩
 ·rw [m2] at p1
  obtain ⟨af,cf,rfl,_⟩:=id p1
  obtain ⟨b,of,cs,ro,rfl,hcs,hc0⟩:=VI.cell (l:=[x]) p1 (i:=0) (x:=x) rfl
  have hc0:cs[of+(0:Int).toNat*1]?=some (.i x):=hc0
  obtain ⟨f2,av2,cp2,hw2⟩:=W.len
  rw [m3,List.length_map] at hw2
  have c1:(wc f2 (.slice av2 (l.length+1) cp2) s now no)[0+288]?=some (.slice av2 (l.length+1) cp2):=jbe rfl
  have em:((l.length+1:Nat):Int)-1=(l.length:Int):=by omega
  have ol:=K.ok.len
  rw [List.length_map] at ol
  generalize jah (wxs l) 3 n=M at m1 m2 e2 W ⊢
  obtain ⟨⟨M1,M2⟩,M3⟩:=M
  simp only at m1 m2 e2 W ⊢
  subst m1 m2
  refine Ga ?_
  exact ⟨x,l.length,ow',by rw [em],fun _=>⟨rfl,by simp⟩,fun h=>zM rfl h,W,T⟩
 ·rw [m2] at p1
  generalize jah (wxs l) 3 n=M at m1 m2 e2 W ⊢
  obtain ⟨⟨M1,M2⟩,M3⟩:=M
  simp only at m1 m2 e2 W ⊢
  refine Ga ?_
  exact ⟨0,0,ow',rfl,fun h=>zM h m1,fun _=>⟨rfl,rfl⟩,W,T⟩
end
section
variable {call:Call} {fuel base:Nat} {K:List Fr} {e:Env} {h:H} {Q:Post} {ix:Nat} {dst:Option Nat} {ops:List Ins} {keep:List Nat}
theorem Ops.copyB {x y:Opd} {B:Nat} {v:V} {l:List UInt8} (hx:x.ev e=some (.slice (some (B,0)) 0 (.fix 0))) (hy:y.ev e=some v) (hv:VB h v l) (hl:l.length<=1000000)
  (k : ∀ a c h',VB h' (.slice (some (a,0)) l.length c) l->(l≠[]->h'.get a=some (.cells (bts l) false))->Old h h'->(a=B\/(h.nx<=a/\a<h'.nx))->Ops call fuel base ops keep K (layv e dst (.slice (some (a,0)) l.length c)) h' Q) :
  Ops call fuel base (⟨ix,dst,.append 1 1 x y,none,none,[]⟩ :: ops) keep K e h Q:=by
 obtain ⟨a,cp,rfl,n,f,g⟩:=hv
 by_cases hn:l=[]
 ·subst hn
  have hsrc:ja2 h 1 0 (.slice a 0 cp)=some []:=by cases a<;>rfl
  refine Ops.step (v := .slice (some (B,0)) 0 (.fix 0)) (h':=h) (Zw rfl ?_) (k B (.fix 0) h ⟨some (B,0),.fix 0,rfl,fun e=>(by cases e),zr _,fun e=>zM rfl e⟩ (fun e=>zM rfl e) (ZD _) (.inl rfl))
  simp only [I.eff,hx,hy,jaK,lenOf,List.length_nil,hsrc]
  rfl
 ·obtain ⟨b,o,cs,ro,rfl,h1,h2,h3⟩:=g hn
  have hpos:0<l.length:=List.length_pos_iff.2 hn
  obtain ⟨p1,p2⟩:=jdP (k:=0) (m:=l.length) h3 om hpos
  rw [zl,zh (zr _)] at p2
  have hload:h.load b o (l.length*1)=some (bts l):=by
   unfold H.load
   rw [h2]
   simp only
   rw [Nat.mul_one,show Nat.ble (o+l.length) cs.length=true by rw [zT];omega]
   simp only [cond_true]
   rw [<- p2,Nat.add_zero]
  have hsrc:ja2 h 1 l.length (.slice (some (b,o)) l.length cp)=some (bts l):=by
   unfold ja2
   simp only
   rw [hload,show (l.length*1 == 0)=false by simp;omega]
   rfl
  have ho:Old h (h.new (.cells (bts l) false)):=⟨by simp,fun j hj=>jac hj⟩
  refine Ops.step (v := .slice (some (h.nx,0)) l.length (.grow 1)) (h':=h.new (.cells (bts l) false)) (Zw rfl ?_) (k h.nx (.grow 1) _ ⟨some (h.nx,0),.grow 1,rfl,fun e=>(by cases e),by simp [Cap.fits],fun _=>⟨h.nx,0,bts l,false,rfl,by simp,jad _,fun i x hi=>by rw [zS];exact jjv hi⟩⟩ (fun _=>jad _) ho (.inr ⟨zr _,by simp⟩))
  simp only [I.eff,hx,hy,jaK,lenOf,hsrc]
  have c1:(Nat.ble ((0+l.length)*1) (2 ^ 46)&&Nat.ble (0+l.length) (2 ^ 46))=true:=by simp only [zq,zT];omega
  have c2:(l.length == 0)=false:=by simp;exact hn
  have c3:Nat.ble (0+l.length) 0=false:=by
   cases hb:Nat.ble (0+l.length) 0 with
   | false=>rfl
   | true=>rw [zT] at hb;omega
  rw [c1,c2,c3]
  simp only [cond_true,cond_false,Nat.zero_mul,beq_self_eq_true,Zi,zS]
  rfl
end
section
variable {cl:Nat->Call} (hcl:Sem cl)
include hcl
end
def PD (h:H) (p w s rw:Nat) (ow:Nat->Nat) (ro dat:Nat->Prop) (vd:V) (st':St):Post:=fun y e g=>y = .normal/\e=[(5,vd),(6,.bool true)] /\ ∃ ow' ro',BB g p w s rw ow' ro' dat st' st'/\Fm h g ow ro ow' ro'
theorem PD.mk {call:Call} {fuel:Nat} {h g:H} {p w s rw:Nat} {ow ow':Nat->Nat} {ro ro' dat:Nat->Prop} {vd:V} {st':St} (b:BB g p w s rw ow' ro' dat st' st') (f:Fm h g ow ro ow' ro'):End call fuel [] .normal [(5,vd),(6,.bool true)] g (PD h p w s rw ow ro dat vd st') :=
 Zv ⟨rfl,rfl,ow',ro',b,f⟩
theorem PD.mk' {call:Call} {fuel:Nat} {h g:H} {p w s rw:Nat} {ow ow':Nat->Nat} {ro ro' dat:Nat->Prop} {vd x:V} {st':St} (hx:x = .bool true) (b:BB g p w s rw ow' ro' dat st' st') (f:Fm h g ow ro ow' ro'):End call fuel [] .normal [(5,vd),(6,x)] g (PD h p w s rw ow ro dat vd st'):=by
 subst hx;exact PD.mk b f
theorem BB.rhead {h:H} {p w s rw:Nat} {ow:Nat->Nat} {ro dat:Nat->Prop} {a r:St} (b:BB h p w s rw ow ro dat a r) : ∃ x c,h.get rw=some (.cells (.slice x r.ws.length c :: r.tl) false):=by
 obtain ⟨l,R,e⟩:=b.R
 obtain ⟨q,_,k⟩:=R.ex
 obtain ⟨x,c,hw,_⟩:=(k h rfl fun _ _ _=>rfl).head
 refine ⟨x,c,?_⟩
 rw [hw,<- e,List.length_map]
def jcp (cl:Nat->Call) (d f:Nat) (h:H) (p w s rw:Nat) (ow:Nat->Nat) (ro dat:Nat->Prop) (args:List V) (st' sr':St):Prop :=
 ∃ x h' ow' ro',cl d (.fn f) args h=some (.bool x,h')/\BB h' p w s rw ow' ro' dat st' sr'/\Fm h h' ow ro ow' ro'
theorem jcp.mk {cl:Nat->Call} {d f:Nat} {h h2:H} {p w s rw:Nat} {ow ow':Nat->Nat} {ro ro' dat:Nat->Prop} {args:List V} {st' sr':St} (b:BB h2 p w s rw ow' ro' dat st' sr') (f2:Fm h h2 ow ro ow' ro')
  (q : ∃ v h',cl d (.fn f) args h=some (v,h')/\((∃ x,v = .bool x)/\h'=h2)):jcp cl d f h p w s rw ow ro dat args st' sr':=by
 obtain ⟨_,_,e,⟨x,rfl⟩,rfl⟩:=q
 exact ⟨x,_,_,_,e,b,f2⟩
def PE (h:H) (p w s rw:Nat) (ow:Nat->Nat) (ro dat:Nat->Prop) (vd:V) (st' sr':St):Post:=fun y e g=>y = .normal/\(∃ x,e=[(5,vd),(6,.bool x)]) /\ ∃ ow' ro',BB g p w s rw ow' ro' dat st' sr'/\Fm h g ow ro ow' ro'
theorem PE.mk' {call:Call} {fuel:Nat} {h g:H} {p w s rw:Nat} {ow ow':Nat->Nat} {ro ro' dat:Nat->Prop} {vd:V} {x:Bool} {st' sr':St} (b:BB g p w s rw ow' ro' dat st' sr') (f:Fm h g ow ro ow' ro'):End call fuel [] .normal [(5,vd),(6,.bool x)] g (PE h p w s rw ow ro dat vd st' sr') :=
 Zv ⟨rfl,⟨x,rfl⟩,ow',ro',b,f⟩
theorem jeE {ws:Ws} {kind n:Int} (h:(jah ws kind n).1.2=0):(jah ws kind n).1.1≠[]:=by
 by_cases hk:kind<2
 ·obtain ⟨_,a,b,e⟩ | ⟨h0,_⟩:=jgj (ws:=ws) (n:=n) hk
  ·rw [e];exact fun e=>by cases e
  ·exact zM h h0
 ·obtain ⟨_,⟨a,e⟩,_⟩ | ⟨h0,_⟩:=jgk (ws:=ws) (n:=n) hk
  ·rw [e];exact fun e=>by cases e
  ·exact zM h h0
section
variable {cl:Nat->Call} (hcl:Sem cl)
include hcl
theorem jlO {d:Nat} {h:H} {x y e f n:Int} {v:V} {l:List Int} (hd:1<=d) (hv:VI h v l) (hl:f=0->l≠[]) : ∃ b,cl d (.fn 28) [.i x,.i y,.i e,v,.i n,.i f] h=some (.bool b,h):=by
 suffices q : ∃ v' h',cl d (.fn 28) [.i x,.i y,.i e,v,.i n,.i f] h=some (v',h')/\((∃ b,v' = .bool b)/\h'=h) by
  obtain ⟨_,_,e,⟨b,rfl⟩,rfl⟩:=q;exact ⟨b,e⟩
 by_cases hf:f=0
 ·subst hf
  by_cases he:e=0
  ·subst he
   obtain ⟨a,c,rfl,_⟩:=id hv
   cases l with
   | nil=>exact zM rfl (hl rfl)
   | cons z l=>
    obtain ⟨b,o,cs,ro,rfl,hcs,h0⟩:=VI.cell (l:=z :: l) hv (i:=0) (x:=z) rfl
    have h0:cs[o+(0:Int).toNat*1]?=some (.i z):=h0
    have h00:(0:Int)<((z :: l).length:Int):=by simp only [List.length_cons];omega
    cases l with
    | nil=>
     refine aT hcl ?_
     repeat' (first|refine qxy ?_|(refine zsp ?_ ?_<;>intro _)|fail)
     all_goals exact ⟨⟨_,rfl⟩,rfl⟩
    | cons z2 l=>
     obtain ⟨b',o',cs',ro',e,hcs',h1⟩:=VI.cell (l:=z :: z2 :: l) hv (i:=1) (x:=z2) rfl
     cases e
     rw [hcs] at hcs';cases hcs'
     have h1:cs[o+(1:Int).toNat*1]?=some (.i z2):=h1
     have h01:(1:Int)<((z :: z2 :: l).length:Int):=by simp only [List.length_cons];omega
     by_cases h2:((z :: z2 :: l).length:Int)=2
     ·refine aT hcl ?_
      repeat' (first|refine qxy ?_|(refine zsp ?_ ?_<;>intro _)|fail)
      all_goals exact ⟨⟨_,rfl⟩,rfl⟩
     ·refine aT hcl ?_
      repeat' (first|refine qxy ?_|(refine zsp ?_ ?_<;>intro _)|fail)
      all_goals exact ⟨⟨_,rfl⟩,rfl⟩
  ·obtain ⟨a,c,rfl,_⟩:=id hv
   refine aT hcl ?_
   refine Ga ?_
   all_goals exact ⟨⟨_,rfl⟩,rfl⟩
 ·obtain ⟨a,c,rfl,_⟩:=id hv
  refine aT hcl ?_
  repeat' (first|refine qxy ?_|(refine zsp ?_ ?_<;>intro _)|fail)
  all_goals exact ⟨⟨_,rfl⟩,rfl⟩
end
section
variable {h:H} {w s:Nat} {ow:Nat->Nat} {f:Nat->Option (Nat × Nat)} {l:List WX} {now:Int} {tb:Tb} {no:Option (Nat × Nat)} {n m:Nat} {t:WX}
def WX.setw (t:WX) (v:V) (wt:List Int):WX := { t with x := { t.x with waiting:=wt },wv:=v }
theorem WF.setWait (a:WF h w s ow f l now tb no) (ht:l[n]?=some t) {v:V} {wt:List Int} (hv:VI h v wt) (hz:wt≠[] -> ∀ z,v.at?=some z->ow z=10*n+15/\z<h.nx):WF (h.set t.wb ((t.setw v wt).x.obj t.r0 t.r1 v)) w s ow f (l.set n (t.setw v wt)) now tb no:=by
 have X:=a.ok n t ht
 have o0:=X.ox
 have hne : ∀ j,ow j≠10*n+10->j≠t.wb:=fun j hj e=>hj (by rw [e,o0])
 refine a.turn ht (zr _) (fun j _ hn=>jaa (hne j fun e=>hn om)) ⟨jab _,X.ox,X.lx,fun i hi q hq=>?_,hv.keep2 (zr _) fun hl z e=>jaa (hne z (by have:=(hz hl z e).1;omega)),hz⟩ rfl
 have hq:(t.x.e i).ring=some q:=by rcases hi with rfl | rfl<;>exact hq
 obtain ⟨p1,p2,p3,p4,p5⟩:=X.ring i hi q hq
 exact ⟨p1.keep (jaa (hne _ om)) (jaa (hne _ om)),p2,p3,p4,p5⟩
theorem WF.seat (a:WF h w s ow f l now tb no) (ht:l[m]?=some t) {i:Nat} : WF (h.set t.wb ((t.x.name 0 i).obj t.r0 t.r1 t.wv)) w s ow f (l.set m { t with x:=t.x.name 0 i }) now tb no :=
 a.upd ht ZA rfl rfl fun k hk=>by rcases hk with rfl | rfl<;>rfl
end
theorem Wi.cells_name {x:Wi} {r0 r1 i:Nat} {v:V} : ((x.cells r0 r1 v).set 0 (.i 1)).set 1 (.i (i:Int))=(x.name 0 i).cells r0 r1 v:=by
 obtain ⟨⟨a0,b0,c0,d0,e0,f0,g0⟩,⟨a1,b1,c1',d1,e1,f1,g1⟩,cap,rs,bl,wt⟩:=x
 rfl
theorem Wi.cells_wait {x:Wi} {r0 r1:Nat} {v v':V} {wt:List Int} : (x.cells r0 r1 v).set 16 v'=({ x with waiting:=wt } : Wi).cells r0 r1 v':=by
 obtain ⟨⟨a0,b0,c0,d0,e0,f0,g0⟩,⟨a1,b1,c1',d1,e1,f1,g1⟩,cap,rs,bl,wt⟩:=x
 rfl
theorem tab_seat {ws:Ws} {n m i j:Nat} {x y:Wi} {rest:List Int} (hx:ws[n]?=some x) (hy:(ws.set n { x with waiting:=rest })[m]?=some y) (h0:y.e0.what=0) (u:Uniq ((ws.set n { x with waiting:=rest }).set m (y.name 0 i))) :
  (if j=i then some (m,0) else atS ws (j:Int))=atS ((ws.set n { x with waiting:=rest }).set m (y.name 0 i)) (j:Int):=by
 by_cases e:j=i
 ·subst e
  rw [zG rfl,jdQ (fd:=(j:Int)) u (n:=m) (k:=0) ⟨y.name 0 j,by rw [zi,zG rfl,zG (w_lt hy)],.inl rfl,rfl,rfl⟩]
 ·rw [zF e]
  refine jeG fun a k=>⟨fun h=>?_,fun h=>?_⟩
  ·obtain ⟨z,hz,hk,h1,h2⟩:=(jgZ (wt:=rest) hx).2 h
   by_cases em:m=a
   ·subst em
    rw [hy] at hz;cases hz
    rcases hk with rfl | rfl
    ·have h1:y.e0.what=1:=h1
     omega
    ·exact ⟨y.name 0 i,by rw [zi,zG rfl,zG (w_lt hy)],.inr rfl,h1,h2⟩
   ·exact ⟨z,by rw [zi,zF em,hz],hk,h1,h2⟩
  ·rcases jfR hy h with ⟨_,_,h3⟩ | ⟨h2,_⟩
   ·omega
   ·exact (jgZ hx).1 h2
theorem jet {call:Call} {fuel s1 s2 s3 b1 b2 b3:Nat} {e:Env} {h:H} {R:V->H->Prop} {v1 v2 v3:V} (h1:e.get s1=some (.ptr (some (b1,0)))) (h2:e.get s2=some (.ptr (some (b2,0)))) (h3:e.get s3=some (.ptr (some (b3,0))))
  (l1:h.get b1=some (.cells [v1] false)) (l2:h.get b2=some (.cells [v2] false)) (l3:h.get b3=some (.cells [v3] false)) (k:R (.tup [v1,v2,v3]) h):End call fuel [] .ret e h (Fin [.cell1 s1,.cell1 s2,.cell1 s3] R):=by
 refine End.fin2 (a:=v1) (b:=v2) (l:=[v3]) ?_ k
 simp only [jdv,h1,h2,h3,jcQ (o:=0) (v:=v1) l1 rfl,jcQ (o:=0) (v:=v2) l2 rfl,jcQ (o:=0) (v:=v3) l3 rfl]
section
variable {cl:Nat->Call} (hcl:Sem cl) {h:H} {w s:Nat} {ow:Nat->Nat} {ws:Ws} {now:Int} {tb:Tb} {no:Option (Nat × Nat)}
include hcl
theorem ww_Accept {d:Nat} {fd:Int} (hd:5<=d) (K:WsK ws) (a:WSt h w s ow ws now tb no) :
  ∃ h',cl d (.fn 29) [.p w 0,.i fd] h=some (.tup [.i (jaz ws fd).1.1,.i (jaz ws fd).1.2.1,.i (jaz ws fd).1.2.2],h')/\WSt h' w s ow (jaz ws fd).2 now tb no/\To h h' ow ow:=by
 obtain ⟨l,a,rfl⟩:=a
 have K':=ji7 (fd:=fd) K
 have lw:=a.wf.lw
 suffices q : ∃ v h',cl d (.fn 29) [.p w 0,.i fd] h=some (v,h')/\v = .tup [.i (jaz (wxs l) fd).1.1,.i (jaz (wxs l) fd).1.2.1,.i (jaz (wxs l) fd).1.2.2]/\WSt h' w s ow (jaz (wxs l) fd).2 now tb no/\To h h' ow ow by
  obtain ⟨_,h',e,rfl,q⟩:=q;exact ⟨h',e,q⟩
 refine aT hcl ?_
 refine qm ?_
 refine Ops.opqh fun G hG=>?_
 simp only [H.nx_new]
 have xG:G.nx=h.nx+4:=by rw [hG];rfl
 have oG:Old h G:=by
  rw [hG]
  repeat (first | exact ZD _ | refine Old.new ?_ | refine Old.set ?_ (zr _))
 have g0:G.get h.nx=some (.cells [.p w 0] false):=by rw [hG];exact qgt
 have g1:G.get (h.nx+1)=some (.cells [.i 0] false):=by rw [hG];exact qgt
 have g2:G.get (h.nx+1+1)=some (.cells [.i 0] false):=by rw [hG];exact qgt
 have g3:G.get (h.nx+1+1+1)=some (.cells [.i 0] false):=by rw [hG];exact qgt
 clear hG
 rcases jdu hcl (d:=d-1) (fd:=fd) om (a.old oG) K.ok.uniq with ⟨hno,G2,ef,oF,xF⟩ | ⟨n,k,m,t,rfl,hm,hat,ht,hk,G2,ef,oF,xF⟩
 ·have hS:jaz (wxs l) fd=((0,0,110),wxs l):=jaG hno
  rw [hS]
  have g0':=(oF.2 _ om).trans g0
  have g1':=(oF.2 _ om).trans g1
  have g2':=(oF.2 _ om).trans g2
  have g3':=(oF.2 _ om).trans g3
  refine qm ?_
  simp only [H.nx_new]
  refine qm ?_
  refine Ops.opqh fun G3 hG3=>?_
  have o3:Old h G3:=by
   rw [hG3]
   repeat (first | exact oG.trans oF | refine Old.new ?_ | refine Old.set ?_ om)
  have q4:G3.get (h.nx+1)=some (.cells [.i 0] false):=by rw [hG3];exact qgt
  have q5:G3.get (h.nx+1+1)=some (.cells [.i 0] false):=by rw [hG3];exact qgt
  have q6:G3.get (h.nx+1+1+1)=some (.cells [.i 110] false):=by rw [hG3];exact qgt
  clear hG3
  refine Ops.store1_chk rfl rfl rfl q4 zP (jaN rfl (by rw [jaa om,q6]) rfl rfl jbn) ?_
  refine Ops.store1_chk (l:=[.i 0]) rfl rfl rfl (by rw [jaa om,q5]) zP (jaN rfl (by rw [jaa om,jaa om,q6]) rfl rfl jbn) ?_
  refine qm ?_
  refine jet (v1 := .i 0) (v2 := .i 0) (v3 := .i 110) rfl rfl rfl qgt qgt qgt ⟨rfl,?_⟩
  have o4:Old h (((G3.set (h.nx+1) (.cells ([V.i 0].set 0 (.i 0)) false)).set (h.nx+1+1) (.cells ([V.i 0].set 0 (.i 0)) false)).set (h.nx+1+1+1) (.cells ([V.i 110].set 0 (.i 110)) false)):=((o3.set om).set om).set om
  exact ⟨⟨l,a.old o4,rfl⟩,ZE o4⟩
 have hx:=jam ht
 have hS:jaz (wxs l) m=_:=jaH K.ok.uniq hat hx
 have X:=a.wf.ok n t ht
 have hwb:=X.lx
 have g0':=(oF.2 _ om).trans g0
 have g1':=(oF.2 _ om).trans g1
 have g2':=(oF.2 _ om).trans g2
 have g3':=(oF.2 _ om).trans g3
 have gt:G2.get t.wb=some (.cells (t.x.cells t.r0 t.r1 t.wv) false):=by rw [oF.2 _ om,oG.2 _ hwb];exact X.hx
 have c15:(t.x.cells t.r0 t.r1 t.wv)[0+15]?=some (.i t.x.backlog):=by simp [Wi.cells,En.cells]
 have c16:(t.x.cells t.r0 t.r1 t.wv)[0+16]?=some t.wv:=by simp [Wi.cells,En.cells]
 have hvi:=X.wait.1
 obtain ⟨av,cv,hva,_⟩:=id hvi
 rw [hva] at c15 c16 gt
 by_cases hb:t.x.backlog=0
 ·rw [zG hb] at hS;rw [hS]
  refine qm ?_
  simp only [H.nx_new]
  refine qm ?_
  refine End.opqh fun G3 hG3=>?_
  have o3:Old h G3:=by
   rw [hG3]
   repeat (first | exact oG.trans oF | refine Old.new ?_ | refine Old.set ?_ om)
  have q4:G3.get (h.nx+1)=some (.cells [.i 0] false):=by rw [hG3];exact qgt
  have q5:G3.get (h.nx+1+1)=some (.cells [.i 0] false):=by rw [hG3];exact qgt
  have q6:G3.get (h.nx+1+1+1)=some (.cells [.i 111] false):=by rw [hG3];exact qgt
  exact jet rfl rfl rfl q4 q5 q6 ⟨rfl,⟨l,a.old o3,rfl⟩,ZE o3⟩
 rw [zF hb] at hS
 cases hL:t.x.waiting with
 | nil=>
  simp only [hL] at hS;rw [hS]
  have lx:(t.x.waiting.length:Int)=0:=by rw [hL];rfl
  refine qm ?_
  simp only [H.nx_new]
  refine qm ?_
  refine End.opqh fun G3 hG3=>?_
  have o3:Old h G3:=by
   rw [hG3]
   repeat (first | exact oG.trans oF | refine Old.new ?_ | refine Old.set ?_ om)
  have q4:G3.get (h.nx+1)=some (.cells [.i 0] false):=by rw [hG3];exact qgt
  have q5:G3.get (h.nx+1+1)=some (.cells [.i 0] false):=by rw [hG3];exact qgt
  have q6:G3.get (h.nx+1+1+1)=some (.cells [.i 113] false):=by rw [hG3];exact qgt
  exact jet rfl rfl rfl q4 q5 q6 ⟨rfl,⟨l,a.old o3,rfl⟩,ZE o3⟩
 | cons m0 rest=>
  simp only [hL] at hS
  have hvi2:=hvi
  rw [hva,hL] at hvi2
  have lx:t.x.waiting.length=rest.length+1:=by rw [hL];rfl
  have hwz:=X.wait.2
  rw [hL,hva] at hwz
  have hwz:=hwz Zd
  have hk64:=(K.ok.wait t.x (zb hx)).1
  obtain ⟨y0,y0a,y0b,y0c⟩:=(K.ok.wait t.x (zb hx)).2 m0 (by rw [hL];simp)
  refine qm ?_
  simp only [H.nx_new]
  refine qm ?_
  refine Ops.opqh fun G3 hG3=>?_
  have x3:G3.nx=h.nx+7:=by rw [hG3];simp only [H.nx_set,H.nx_new];omega
  have o3:Old h G3:=by
   rw [hG3]
   repeat (first | exact oG.trans oF | refine Old.new ?_ | refine Old.set ?_ om)
  have q0:G3.get h.nx=some (.cells [.p w 0] false):=by rw [hG3];exact qgt
  have q4:G3.get (h.nx+1)=some (.cells [.i 0] false):=by rw [hG3];exact qgt
  have q5:G3.get (h.nx+1+1)=some (.cells [.i 0] false):=by rw [hG3];exact qgt
  have q6:G3.get (h.nx+1+1+1)=some (.cells [.i 0] false):=by rw [hG3];exact qgt
  have q8:G3.get (G2.nx+1)=some (.cells [.p t.wb 0] false):=by rw [hG3];exact qgt
  clear hG3
  rw [show G2.nx+1=h.nx+6 by omega] at q8 ⊢
  clear g0' g1' g2' g3' gt g0 g1 g2 g3 ef oF xF oG xG
  refine zaw rfl (jno hcl (w:=w) (h:=G3) (d:=d-1) om) ?_
  refine Ga ?_
  refine Zz rfl qkp fun LO hLO=>?_
  have x4:(G3.new (.cells [.p w 0] false)).nx=h.nx+8:=by rw [H.nx_new,x3]
  rw [x4,x3]
  obtain ⟨H5,hH5⟩ : ∃ H5,H5=(G3.new (.cells [.p w 0] false)).new (LO .ready none):=⟨_,rfl⟩
  rw [<- hH5]
  have x5:H5.nx=h.nx+9:=by rw [hH5,H.nx_new,x4]
  have o5:Old h H5:=by rw [hH5];exact o3.new.new
  have keep5 : ∀ j,j<h.nx+7->H5.get j=G3.get j:=fun j hj=>by rw [hH5,jac om,jac om]
  have r0:H5.get h.nx=some (.cells [.p w 0] false):=by rw [keep5 _ om,q0]
  have r4:H5.get (h.nx+1)=some (.cells [.i 0] false):=by rw [keep5 _ om,q4]
  have r5:H5.get (h.nx+1+1)=some (.cells [.i 0] false):=by rw [keep5 _ om,q5]
  have r6:H5.get (h.nx+1+1+1)=some (.cells [.i 0] false):=by rw [keep5 _ om,q6]
  have r8:H5.get (h.nx+6)=some (.cells [.p t.wb 0] false):=by rw [keep5 _ om,q8]
  have r7:H5.get (h.nx+7)=some (.cells [.p w 0] false):=by rw [hH5,jac om,<- x3];exact jad _
  have rL:H5.get (h.nx+8)=some (LO .ready none):=by rw [hH5,<- x4];exact jad _
  clear hH5 keep5 q0 q4 q5 q6 q8 x4 x3 o3
  obtain ⟨sa,c,hw,hwl⟩:=a.wf.head
  obtain ⟨z,rfl,z1,z2,z3⟩:=hwl (by rintro rfl;simp at ht)
  have hbody : ∀ (i:Nat) (g:H),i<96->atS (wxs l) (i:Int)=none->jaw (wxs l) i=[]->Old H5 g ->
    ∃ v' g',cl (d-1-1) (.yld (h.nx+8)) [.i (i:Int)] g=some (v',g')/\v' = .bool false /\ ∃ f:Int,g'.get (h.nx+1)=some (.cells [.i f] false)/\g'.get (h.nx+1+1)=some (.cells [.i m0] false)/\g'.get (h.nx+1+1+1)=some (.cells [.i 0] false)/\g'.get (h.nx+8)=some (LO .done (some .ret)) /\
     (jaz (wxs l) m).1=(f,m0,0)/\WSt g' w s ow (jaz (wxs l) m).2 now tb no/\To h g' ow ow:=by
   intro i g hi hf0 hfi og
   have oh:=o5.trans og
   rw [hva] at hvi
   obtain ⟨bz,oz,csz,roz,rfl,hz1,hz2⟩:=VI.cell hvi (i:=0) (x:=m0) (by rw [hL];rfl)
   refine yl_ hcl om hLO (by rw [og.2 _ om,rL]) rfl ?_
   refine Ga ?_
   refine Zv ⟨rfl,by rw [og.2 _ om,rL],?_⟩
   have gw:g.get w=some (.cells (wc (fun i=>atS (wxs l) (i:Int)) (.slice (some (z,0)) l.length c) s now no) false):=by rw [oh.2 _ lw,hw]
   have gt:g.get t.wb=some (.cells (t.x.cells t.r0 t.r1 (.slice (some (bz,oz)) t.x.waiting.length cv)) false):=by rw [oh.2 _ hwb,<- hva];exact X.hx
   have gb:g.get bz=some (.cells csz roz):=by rw [oh.2 _ (hwz bz rfl).2,hz1]
   have g0:=(og.2 _ om).trans r0
   have g4:=(og.2 _ om).trans r4
   have g5:=(og.2 _ om).trans r5
   have g6:=(og.2 _ om).trans r6
   have g8:=(og.2 _ om).trans r8
   have gL:=(og.2 _ om).trans rL
   have lz:=(hwz bz rfl).2
   have hvg:VI g (.slice (some (bz,oz)) (m0 :: rest).length cv) (m0 :: rest):=hvi2.keep oh.1 fun y hy=>by cases hy;exact oh.2 _ lz
   have hvl:(V.slice (some (bz,oz)) t.x.waiting.length cv) = .slice (some (bz,oz)) (m0 :: rest).length cv:=by rw [hL]
   have og1:=og.1
   have hmm:(m0 :: rest:List Int).length=rest.length+1:=rfl
   clear r0 r4 r5 r6 r8 r7 rL og hvi hvi2
   refine Gb ?_
   refine Ops.opqh fun G6 hG6=>?_
   have x6:G6.nx=g.nx:=by rw [hG6];rfl
   have o6:Old h G6:=by rw [hG6];exact (oh.set om).set om
   have k6 : ∀ j,j<h.nx->G6.get j=g.get j:=fun j hj=>by rw [hG6,jaa om,jaa om]
   have s0:G6.get h.nx=some (.cells [.p w 0] false):=by rw [hG6];exact qgt
   have s4:G6.get (h.nx+1)=some (.cells [.i 0] false):=by rw [hG6];exact qgt
   have s5:G6.get (h.nx+1+1)=some (.cells [.i m0] false):=by rw [hG6];exact qgt
   have s6:G6.get (h.nx+1+1+1)=some (.cells [.i 0] false):=by rw [hG6];exact qgt
   have sL:G6.get (h.nx+8)=some (LO .busy none):=by rw [hG6];exact qgt
   have gt6:=(k6 _ hwb).trans gt
   have hv6:VI G6 (.slice (some (bz,oz)) t.x.waiting.length cv) t.x.waiting:=by
    rw [hvl,hL];exact hvg.keep (Nat.le_of_eq x6.symm) fun y hy=>by cases hy;exact k6 _ lz
   clear hG6 gt gb g0 g4 g5 g6 g8 gL hvg
   refine Ops.icut_l (m:=1) rfl hv6 rfl om fun v2 hv2 hz2=>?_
   rw [show t.x.waiting.drop 1=rest by rw [hL];rfl] at hv2
   have W6:=(a.wf.old o6).setWait ht hv2 fun _ y hy=>by
    have:=hz2 y hy
    cases this
    exact ⟨(hwz bz rfl).1,zu lz o6.1⟩
   have hlen6:0+16<(t.x.cells t.r0 t.r1 (.slice (some (bz,oz)) t.x.waiting.length cv)).length:=by rw [Wi.cells_length];omega
   have ecell:Obj.cells ((t.x.cells t.r0 t.r1 (.slice (some (bz,oz)) t.x.waiting.length cv)).set (0+16) v2) false=(t.setw v2 rest).x.obj t.r0 t.r1 v2:=by
    show Obj.cells ((t.x.cells t.r0 t.r1 (.slice (some (bz,oz)) t.x.waiting.length cv)).set 16 v2) false=_
    rw [Wi.cells_wait (wt:=rest)];rfl
   have hone:=hv2.one
   refine Ga ?_
   refine zcs rfl rfl hone gt6 hlen6 ?_
   rw [ecell]
   refine Ops.opqh fun G7 hG7=>?_
   rw [<- hG7] at W6
   have T7:To h G7 ow ow:=(ZE o6).trans ⟨by rw [hG7];exact Ch.set (by show ow t.wb≠0;have:=X.ox;omega),fun _ _=>rfl⟩
   have k7 : ∀ j,h.nx<=j->G7.get j=G6.get j:=fun j hj=>by rw [hG7,jaa om]
   have x7:G7.nx=G6.nx:=by rw [hG7];rfl
   have s0:=(k7 _ om).trans s0
   have s4:=(k7 _ om).trans s4
   have s5:=(k7 _ om).trans s5
   have s6:=(k7 _ om).trans s6
   have sL:=(k7 _ om).trans sL
   clear hG7 k7 k6 ecell hlen6 gt6 hone hz2 hv6
   generalize hl1:l.set n (t.setw v2 rest)=l1 at W6
   have hws1:wxs l1=(wxs l).set n { t.x with waiting:=rest } := by rw [<- hl1,jbg];rfl
   obtain ⟨mm,rfl⟩:=zC y0a
   rw [zz] at y0b
   have hln1:l1.length=l.length:=by rw [<- hl1];simp
   obtain ⟨t2,ht2⟩ : ∃ t2,l1[mm]?=some t2:=⟨_,za (by have:=w_lt y0b;rw [List.length_map] at this;omega)⟩
   have hy2:=jam ht2
   rw [hws1] at hy2
   have y2:t2.x.e0.what=0:=by
    rcases jdY hy2 with ⟨e1,e2⟩ | ⟨e1,e2⟩
    ·subst e1
     rw [hx] at y0b;cases y0b
     rw [e2];exact y0c
    ·rw [y0b] at e2;cases e2;exact y0c
   have X2:=W6.ok mm t2 ht2
   have gt2:G7.get t2.wb=some (.cells (t2.x.cells t2.r0 t2.r1 t2.wv) false):=X2.hx
   obtain ⟨sa7,c7,hw7,hwl7⟩:=W6.head
   obtain ⟨z7,rfl,z71,z72,z73⟩:=hwl7 (by rintro rfl;simp at ht2)
   have w1:(wc (fun i=>atS (wxs l) (i:Int)) (.slice (some (z7,0)) l1.length c7) s now no)[0+288]?=some (.slice (some (z7,0)) l1.length c7):=jbe rfl
   have w2:(wps l1)[0+(mm:Int).toNat*1]?=some (.p t2.wb 0):=by rw [show 0+(mm:Int).toNat*1=mm by omega];exact jdC ht2
   have hm1:=x_lt ht2
   refine Gb ?_
   refine Ops.opqh fun G8 hG8=>?_
   have x8:G8.nx=G7.nx:=by rw [hG8];rfl
   have u8:Upd t2.wb ((t2.x.name 0 i).obj t2.r0 t2.r1 t2.wv) G7 G8:=by
    refine ⟨x8,?_,fun j hj=>by rw [hG8,jaa hj,jaa hj]⟩
    rw [hG8,jab]
    show some (Obj.cells (((t2.x.cells t2.r0 t2.r1 t2.wv).set 0 (.i 1)).set 1 (.i i)) false)=_
    rw [Wi.cells_name];rfl
   have W8:=W6.upd ht2 u8 rfl rfl fun k hk=>by rcases hk with rfl | rfl<;>rfl
   have T8:To h G8 ow ow:=T7.trans ⟨(u8.ch (B:=fun j=>j=t2.wb) rfl).weaken fun j _ e=>by
    have e:j=t2.wb:=e
    show ow j≠0
    rw [e,X2.ox];omega,fun _ _=>rfl⟩
   have k8 : ∀ j,h.nx<=j->G8.get j=G7.get j:=fun j hj=>u8.get _ fun e=>by
    have:=X2.ox
    rw [<- e,a.wf.top j hj] at this;omega
   have s0:=(k8 _ om).trans s0
   have s4:=(k8 _ om).trans s4
   have s5:=(k8 _ om).trans s5
   have s6:=(k8 _ om).trans s6
   have sL:=(k8 _ om).trans sL
   have hw8:G8.get w=some (.cells (wc (fun i=>atS (wxs l) (i:Int)) (.slice (some (z7,0)) l1.length c7) s now no) false):=by
    rw [u8.get _ fun e=>by have:=X2.ox;rw [<- e,a.wf.tw] at this;omega,hw7]
   have hlen8:0+0+(i:Int).toNat*3+3<=(wc (fun i=>atS (wxs l) (i:Int)) (.slice (some (z7,0)) l1.length c7) s now no).length:=by rw [jb3];omega
   have W9:=W8.place (i:=i) (o:=0+0+(i:Int).toNat*3) (p:=some (mm,0)) hi om hw8
   clear hG8 hw7 gt2 w1 w2
   refine Gb ?_
   refine zct (vs:=[.bool true,.i (mm:Int),.i 0]) rfl rfl rfl rfl hw8 hlen8 ?_
   refine Ops.opqh fun G9 hG9=>?_
   have W9:WF G9 w s ow (fun j=>if j=i then some (mm,0) else atS (wxs l) (j:Int)) (l1.set mm { t2 with x:=t2.x.name 0 i }) now tb no:=by rw [hG9];exact W9
   have x9:G9.nx=G8.nx:=by rw [hG9];rfl
   have T9:To h G9 ow ow:=T8.trans ⟨by rw [hG9];exact Ch.set (by show ow w≠0;rw [a.wf.tw];omega),fun _ _=>rfl⟩
   have k9 : ∀ j,h.nx<=j->G9.get j=G8.get j:=fun j hj=>by rw [hG9,jaa om]
   have s0:=(k9 _ om).trans s0
   have s4:=(k9 _ om).trans s4
   have s5:=(k9 _ om).trans s5
   have s6:=(k9 _ om).trans s6
   have sL:=(k9 _ om).trans sL
   clear hG9 k9 hw8 hlen8
   refine Gb ?_
   refine Ops.store1_chk (l:=[.i 0]) rfl rfl rfl s4 zP (jaN rfl (by rw [jaa om,s5]) rfl rfl jbn) ?_
   refine Gb ?_
   refine End.opqh fun M hM=>?_
   have kM : ∀ j,j<h.nx->M.get j=G9.get j:=fun j hj=>by rw [hM,jaa om,jaa om,jaa om]
   have xM:M.nx=G9.nx:=by rw [hM];rfl
   have v4:M.get (h.nx+1)=some (.cells [.i (i:Int)] false):=by rw [hM];exact qgt
   have v5:M.get (h.nx+1+1)=some (.cells [.i (mm:Int)] false):=by rw [hM];exact qgt
   have v6:M.get (h.nx+1+1+1)=some (.cells [.i 0] false):=by rw [hM];exact qgt
   have vL:M.get (h.nx+8)=some (LO .busy none):=by rw [hM];exact qgt
   clear hM
   have hF : ∃ fs,jaw (wxs l) 96=(i:Int) :: fs:=by
    have e1:jaw (wxs l) (i+1)=[(i:Int)]:=by rw [jc3,hfi,hf0];rfl
    have e2:=jep (wxs l) 96 (i+1) om
    rw [e1] at e2
    cases hh:jaw (wxs l) 96 with
    | nil=>rw [hh] at e2;simp at e2
    | cons q fs=>rw [hh] at e2;exact ⟨fs,by simpa using e2⟩
   obtain ⟨fs,hF⟩:=hF
   rw [hF] at hS
   simp only [zz] at hS
   rw [hy2] at hS
   have hS:jaz (wxs l) m=(((i:Int),(mm:Int),0),((wxs l).set n { t.x with waiting:=rest }).set mm (t2.x.name 0 i)):=hS
   rw [hS] at K' ⊢
   have uq:=K'.ok.uniq
   have W10:=(W9.congr (g:=fun j=>atS ((( wxs l).set n { t.x with waiting:=rest }).set mm (t2.x.name 0 i)) (j:Int)) fun j _=>(tab_seat (j:=j) hx hy2 y2 uq).symm).keep (h':=M.set (h.nx+8) (LO .done (some .ret))) (by show G9.nx<=M.nx;omega) fun j hj=>by
    have hj2:j<h.nx:=by
     rcases zA j h.nx with h1 | h1
     ·exact h1
     ·exact zM (a.wf.top j h1) hj
    rw [jaa om,kM j hj2]
   have ez:wxs (l1.set mm { t2 with x:=t2.x.name 0 i })=((wxs l).set n { t.x with waiting:=rest }).set mm (t2.x.name 0 i):=by rw [jbg,hws1]
   refine Zv ⟨⟨.busy,none,vL⟩,rfl,(i:Int),by rw [jaa om,v4],by rw [jaa om,v5],by rw [jaa om,v6],jab _,rfl,⟨_,⟨by rw [ez];exact W10,fun a' k' fd' hf=>?_⟩,ez⟩,⟨⟨by have:=T9.ch.nx;show h.nx<=M.nx;omega,fun j hj hn=>by rw [jaa om,kM j hj];exact T9.ch.get j hj hn⟩,T9.tag⟩⟩
   rw [ez] at hf
   rcases jfR hy2 hf with ⟨_,_,h3⟩ | ⟨h3,_⟩
   ·rw [h3];omega
   ·exact a.fds a' k' fd' ((jgZ hx).1 h3)
  obtain ⟨v,h',hc,hIJ⟩:=jj5 hcl (d:=d-1) (L:=h.nx+8) (bx:=h.nx+7) (h:=H5) (f:=fun i=>atS (wxs l) (i:Int)) (s:=s) (now:=now) (no:=no) (w:=w) (wl:=wc (fun i=>atS (wxs l) (i:Int)) (.slice (some (z,0)) l.length c) s now no) om
   (fun i g=>jaw (wxs l) i=[]/\Old H5 g)
   (fun g'=>∃ f:Int,g'.get (h.nx+1)=some (.cells [.i f] false)/\g'.get (h.nx+1+1)=some (.cells [.i m0] false)/\g'.get (h.nx+1+1+1)=some (.cells [.i 0] false)/\g'.get (h.nx+8)=some (LO .done (some .ret))/\(jaz (wxs l) m).1=(f,m0,0)/\WSt g' w s ow (jaz (wxs l) m).2 now tb no/\To h g' ow ow)
   (.inr (by rw [o5.2 _ lw,hw])) ⟨jb3,jnr⟩ r7
   (fun i g g' p og=>⟨p.1,p.2.trans og⟩)
   (fun i g hi hf p=>by
    refine ⟨?_,p.2⟩
    have:(atS (wxs l) (i:Int)).isNone=false:=by cases h5:atS (wxs l) (i:Int)<;>simp_all
    rw [jc3,this,p.1];rfl)
   (fun i g hi hf p=>by
    obtain ⟨v',g',e1,rfl,e2⟩:=hbody i g hi hf p.1 p.2
    exact ⟨false,g',e1,fun e=>(by cases e),fun _=>e2⟩)
   ⟨by simp [jaw],ZD _⟩
  refine ⟨v,h',hc,?_⟩
  rcases hIJ with ⟨p1,p2⟩ | ⟨f,p1,p2,p3,p4,p5,p6,p7⟩
  ·refine ⟨.normal,by rw [p2.2 _ om,rL];rfl,?_⟩
   rw [p1] at hS
   have hS:jaz (wxs l) m=((0,0,112),wxs l):=hS
   rw [hS]
   have oK:Old h (h'.kill (h.nx+8)):=⟨by have:=p2.1;show h.nx<=h'.nx;omega,fun j hj=>by rw [jae om,p2.2 _ om,o5.2 _ hj]⟩
   have v4:(h'.kill (h.nx+8)).get (h.nx+1)=some (.cells [.i 0] false):=by rw [jae om,p2.2 _ om,r4]
   have v5:(h'.kill (h.nx+8)).get (h.nx+1+1)=some (.cells [.i 0] false):=by rw [jae om,p2.2 _ om,r5]
   have v6:(h'.kill (h.nx+8)).get (h.nx+1+1+1)=some (.cells [.i 0] false):=by rw [jae om,p2.2 _ om,r6]
   clear hbody hwl p2
   generalize h'.kill (h.nx+8)=g at oK v4 v5 v6 ⊢
   refine Gb ?_
   refine End.opqh fun M hM=>?_
   have oM:Old h M:=by rw [hM];exact ((oK.set om).set om).set om
   have v4:M.get (h.nx+1)=some (.cells [.i 0] false):=by rw [hM];exact qgt
   have v5:M.get (h.nx+1+1)=some (.cells [.i 0] false):=by rw [hM];exact qgt
   have v6:M.get (h.nx+1+1+1)=some (.cells [.i 112] false):=by rw [hM];exact qgt
   exact jet rfl rfl rfl v4 v5 v6 ⟨rfl,⟨l,a.old oM,rfl⟩,ZE oM⟩
  ·refine ⟨.ret,by rw [p4];rfl,?_⟩
   rw [p5]
   have v4:(h'.kill (h.nx+8)).get (h.nx+1)=some (.cells [.i f] false):=by rw [jae om,p1]
   have v5:(h'.kill (h.nx+8)).get (h.nx+1+1)=some (.cells [.i m0] false):=by rw [jae om,p2]
   have v6:(h'.kill (h.nx+8)).get (h.nx+1+1+1)=some (.cells [.i 0] false):=by rw [jae om,p3]
   obtain ⟨l',W,e'⟩:=p6
   have hlt : ∀ j,ow j≠0->j≠h.nx+8:=fun j hj e=>hj (a.wf.top j om)
   have W':WSt (h'.kill (h.nx+8)) w s ow (jaz (wxs l) m).2 now tb no:=⟨l',⟨W.wf.keep (zr _) fun j hj=>jae (hlt j hj),W.fds⟩,e'⟩
   have T':To h (h'.kill (h.nx+8)) ow ow:=⟨⟨p7.ch.nx,fun j hj hn=>by rw [jae om];exact p7.ch.get j hj hn⟩,p7.tag⟩
   clear hbody hwl
   generalize h'.kill (h.nx+8)=g at W' T' v4 v5 v6 ⊢
   refine Gb ?_
   exact jet rfl rfl rfl v4 v5 v6 ⟨rfl,W',T'⟩
end
def RowZ (N:Nat) (h:H) (v:V) (l:List Int):Prop:=Row N h 1 v l.length (ints l)\/(l=[] /\ ∃ b,v = .slice (some (b,0)) 0 (.fix 0)/\N<=b/\b<h.nx)
theorem RowZ.at_ge {N:Nat} {h:H} {v:V} {l:List Int} (r:RowZ N h v l) {q:Nat} (hq:v.at?=some q):N<=q/\q<h.nx:=by
 rcases r with r | ⟨_,b,rfl,h1,h2⟩
 ·exact r.at_ge hq
 ·cases hq;exact ⟨h1,h2⟩
theorem RowZ.keep {N:Nat} {h h':H} {v:V} {l:List Int} (r:RowZ N h v l) (hx:h.nx<=h'.nx) (hg : ∀ q,v.at?=some q->h'.get q=h.get q):RowZ N h' v l:=by
 rcases r with r | ⟨h0,b,rfl,h1,h2⟩
 ·exact .inl (r.keep hx hg)
 ·exact .inr ⟨h0,b,rfl,h1,by omega⟩
theorem jlu {h:H} {b:Nat} {v:V} {l:List Int} (hv:VI h v l) (hn:l.length<=1000000) (hb:b<h.nx) :
  ∃ v' h',jaK h 1 8 (.slice (some (b,0)) 0 (.fix 0)) v=some (v',h')/\Old h h' /\ ∀ N,N<=b->RowZ N h' v' l:=by
 obtain ⟨a,cp,rfl,n,f,g⟩:=hv
 have hcond:(Nat.ble ((0+l.length)*8) (2 ^ 46)&&Nat.ble (0+l.length) (2 ^ 46))=true:=by simp only [zq,zT];omega
 by_cases hl:l=[]
 ·subst hl
  have hsrc:ja2 h 1 0 (.slice a 0 cp)=some []:=by cases a<;>rfl
  refine ⟨.slice (some (b,0)) 0 (.fix 0),h,?_,ZD h,fun N hN=>.inr ⟨rfl,b,rfl,hN,hb⟩⟩
  simp only [jaK,lenOf,List.length_nil,hsrc]
  rfl
 ·obtain ⟨b',o,cs,ro,rfl,h1,h2,h3⟩:=g hl
  have hpos:0<l.length:=List.length_pos_iff.2 hl
  obtain ⟨p1,p2⟩:=ji0 h3 hpos
  have hz:(l.length == 0)=false:=by simp;omega
  have hz1:(l.length*1 == 0)=false:=by simp;omega
  have hsrc:ja2 h 1 l.length (.slice (some (b',o)) l.length cp)=some (ints l):=by
   simp only [ja2,hz1,cond_false]
   rw [jdc h2 om,Nat.mul_one,p2]
  have hble:Nat.ble (0+l.length) 0=false:=by
   cases hb2:Nat.ble (0+l.length) 0 with
   | false=>rfl
   | true=>rw [zT] at hb2;omega
  refine ⟨.slice (some (h.nx,0)) (0+l.length) (.grow 1),h.new (.cells (ints l) false),?_,(ZD h).new,fun N hN=>.inl (.inr ⟨h.nx,by omega,by simp,by rw [zS],jad _,by simp⟩)⟩
  simp only [jaK,lenOf,hsrc]
  rw [hcond]
  simp only [cond_true,hz,cond_false,hble]
  rfl
theorem append_z1 {N:Nat} {h:H} {v:V} {l:List Int} {q:Nat} {x:Int} {cap:Cap} (r:RowZ N h v l) (hN:N<=h.nx) (hn:l.length<=100000) (hq:h.get q=some (.cells [.i x] false)) (hne:v.at?≠some q) :
  ∃ v' h',jaK h 1 8 v (.slice (some (q,0)) 1 cap)=some (v',h')/\Row N h' 1 v' (l++[x]).length (ints (l++[x]))/\h.nx<=h'.nx/\v'.at?=some h.nx /\ ∀ j,j<h.nx->v.at?≠some j->h'.get j=h.get j:=by
 rcases r with r | ⟨rfl,b,rfl,h1,h2⟩
 ·obtain ⟨v',h',e1,e2,e3,e4,e5⟩:=jdA (bytes:=8) (cap:=cap) r hN hq rfl rfl om om om hne
  exact ⟨v',h',e1,by rw [zg];simpa [ints] using e2,e3,e4,e5⟩
 ·have hsrc:ja2 h 1 1 (.slice (some (q,0)) 1 cap)=some [.i x]:=by
   simp only [ja2]
   rw [show ((1*1:Nat) == 0)=false from rfl,cond_false,jdc hq Zd];rfl
  refine ⟨.slice (some (h.nx,0)) 1 (.grow 1),h.new (.cells [.i x] false),?_,.inr ⟨h.nx,hN,by simp,rfl,jad _,rfl⟩,by simp,rfl,fun j hj _=>jac hj⟩
  simp only [jaK,lenOf,hsrc]
  rfl
section
variable {call:Call} {fuel base:Nat} {ops:List Ins} {keep:List Nat} {K:List Fr} {e:Env} {h:H} {Q:Post} {ix:Nat} {dst:Option Nat}
theorem Ops.app_zero {b:Nat} {x y:Opd} {v:V} {l:List Int} (hx:x.ev e=some (.slice (some (b,0)) 0 (.fix 0))) (hy:y.ev e=some v) (hv:VI h v l) (hn:l.length<=1000000) (hb:b<h.nx)
  (k : ∀ v' h',Old h h'->(∀ N,N<=b->RowZ N h' v' l)->Ops call fuel base ops keep K (layv e dst v') h' Q):Ops call fuel base (⟨ix,dst,.append 1 8 x y,none,none,[]⟩ :: ops) keep K e h Q:=by
 obtain ⟨v',h',e1,e2,e3⟩:=jlu hv hn hb
 exact Ops.step (Zw rfl (by simp only [I.eff,hx,hy,e1])) (k v' h' e2 e3)
theorem Ops.app_z1 {N:Nat} {x y:Opd} {v:V} {l:List Int} {q:Nat} {n:Int} {cap:Cap} (hx:x.ev e=some v) (hy:y.ev e=some (.slice (some (q,0)) 1 cap)) (r:RowZ N h v l) (hN:N<=h.nx) (hn:l.length<=100000) (hq:h.get q=some (.cells [.i n] false)) (hne:v.at?≠some q)
  (k : ∀ v' h',Row N h' 1 v' (l++[n]).length (ints (l++[n]))->h.nx<=h'.nx->v'.at?=some h.nx->(∀ j,j<h.nx->v.at?≠some j->h'.get j=h.get j)->Ops call fuel base ops keep K (layv e dst v') h' Q):Ops call fuel base (⟨ix,dst,.append 1 8 x y,none,none,[]⟩ :: ops) keep K e h Q:=by
 obtain ⟨v',h',e1,e2,e3,e4,e5⟩:=append_z1 (cap:=cap) r hN hn hq hne
 exact Ops.step (Zw rfl (by simp only [I.eff,hx,hy,e1])) (k v' h' e2 e3 e4 e5)
end
section
variable {cl:Nat->Call} (hcl:Sem cl)
include hcl
theorem jlA {d:Nat} {h:H} {v:V} {l:List Int} (hd:1<=d) (hv:VI h v l) (hn:l.length<=100000) : ∃ v1 h1,cl d (.fn 119) [v] h=some (v1,h1)/\Old h h1/\RowZ h.nx h1 v1 l:=by
 obtain ⟨a,c,rfl,n,f,g⟩:=id hv
 refine aT hcl ?_
 cases a with
 | none=>
  obtain ⟨rfl,rfl⟩:=n rfl
  refine Ga ?_
  all_goals first | exact ⟨ZD h,.inl (Row.nil _ _ _)⟩ | skip
 | some p=>
  refine qm ?_
  refine Ops.app_zero (b:=h.nx) rfl rfl (hv.keep2 Zd fun hl z hz=>?_) om Zd fun v' h' o r=>?_
  ·obtain ⟨b',o',_,_,e0,h1,_⟩:=g hl
   cases e0
   cases hz
   exact jac h1
  refine qm ?_
  exact ⟨(ZD h).new.trans o,r _ (zr _)⟩
end
theorem WF.retag {h:H} {w s:Nat} {ow ow':Nat->Nat} {f:Nat->Option (Nat × Nat)} {l:List WX} {now:Int} {tb:Tb} {no:Option (Nat × Nat)} (a:WF h w s ow f l now tb no) (hk : ∀ j,ow j≠0->ow' j=ow j) (top : ∀ j,h.nx<=j->ow' j=0):WF h w s ow' f l now tb no:=by
 obtain ⟨wv,p1,p2,p3⟩:=a.hw
 exact ⟨⟨wv,p1,p2,fun z hz=>by rw [hk z (by rw [p3 z hz];omega),p3 z hz]⟩,a.hs,by rw [hk w (by rw [a.tw];omega),a.tw],by rw [hk s (by rw [a.ts];omega),a.ts],a.lw,a.ls,top,fun n t ht=>(a.ok n t ht).tag0 hk⟩
theorem Wi.cells_inn {x:Wi} {r0 r1:Nat} {v:V} {i:Int} : (x.cells r0 r1 v).set 5 (.int .u64 i)=({ x with e0 := { x.e0 with inn:=i } } : Wi).cells r0 r1 v:=by
 obtain ⟨⟨a0,b0,c0,d0,e0,f0,g0⟩,⟨a1,b1,c1',d1,e1,f1,g1⟩,cap,rs,bl,wt⟩:=x
 rfl
def Wi.more (x:Wi) (m:Int):Wi := { x with waiting:=x.waiting++[m],e0 := { x.e0 with inn:=upu x.e0.inn } }
theorem AtW_more {ws:Ws} {n:Nat} {x:Wi} {m:Int} {many:Int} (hx:ws[n]?=some x) (i k:Nat) (fd:Int):AtW (ws.set n (x.more m)++[jbf many]) i k fd↔AtW ws i k fd:=by
 have hs:x.SameFd (x.more m):=fun k hk=>by rcases hk with rfl | rfl<;>exact ⟨Iff.rfl,fun _=>rfl⟩
 rw [<- jj0 hx hs i k fd]
 constructor
 ·intro h
  rcases jdR h with h | ⟨_,hk,h1,_⟩
  ·exact h
  ·rcases hk with rfl | rfl
   ·have h1:(0:Int)=1:=h1
    omega
   ·have h1:(2:Int)=1:=h1
    omega
 ·rintro ⟨y,hy,r⟩
  exact ⟨y,je6 hy,r⟩
section
variable {cl:Nat->Call} (hcl:Sem cl) {h:H} {w s:Nat} {ow:Nat->Nat} {l:List WX} {now:Int} {tb:Tb} {no:Option (Nat × Nat)}
include hcl
theorem cw_mid {d m nn:Nat} {t:WX} {G:H} (hd:2<=d) (K:WsK (wxs l)) (a:WW h w s ow l now tb no) (ht:l[m]?=some t) (hwt:t.x.waiting.length<=64) (hfull:l.length<1000) (oG:Old h G) (xG:h.nx+5<=G.nx) (gN:G.get h.nx=some ((jbf nn).obj (h.nx+2) (h.nx+4) .nils))
  (R : ∀ k,k=0\/k=1->ja5 G (two (h.nx+2) (h.nx+4) k) (two (h.nx+1) (h.nx+3) k) [] nn) :
  Run (cl (d-1)) fuel c80_3 [] [(0,.p w 0),(8,.p h.nx 0),(9,.p t.wb 0)] G (Fin c80.res fun v h'=>∃ ow',v = .tup [.i (l.length:Int),.i 0]/\WSt h' w s ow' ((wxs l).set m (t.x.more (l.length:Int))++[jbf nn]) now tb no/\To h h' ow ow'):=by
 have lw:=a.wf.lw
 obtain ⟨sa,c,hw,hsl⟩:=a.wf.head
 have c1:(wc (fun i=>atS (wxs l) (i:Int)) (.slice sa l.length c) s now no)[0+288]?=some (.slice sa l.length c):=jbe rfl
 have hlt:=x_lt ht
 have X:=a.wf.ok m t ht
 have hwb:=X.lx
 have hvi:=X.wait.1
 obtain ⟨av,cv,hva,_⟩:=id hvi
 have hvi:VI G (.slice av t.x.waiting.length cv) t.x.waiting:=by
  rw [<- hva]
  exact hvi.keep2 oG.1 fun hl z hz=>oG.2 z (X.wait.2 hl z hz).2
 have gw:(G.reserve 1).get w=some (.cells (wc (fun i=>atS (wxs l) (i:Int)) (.slice sa l.length c) s now no) false):=(oG.2 _ lw).trans hw
 have gt:(G.reserve 1).get t.wb=some (.cells (t.x.cells t.r0 t.r1 (.slice av t.x.waiting.length cv)) false):=by rw [<- hva];exact (oG.2 _ hwb).trans X.hx
 have hvi1:VI (G.reserve 1) (.slice av t.x.waiting.length cv) t.x.waiting:=hvi.keep (by show G.nx<=G.nx+1;omega) fun _ _=>rfl
 obtain ⟨v1,G2,e2,o2,rz⟩:=jlA hcl (d:=d-1) om hvi1 om
 have x1:(G.reserve 1).nx=G.nx+1:=rfl
 have o2x:=o2.1
 refine zab (Run.region ?_)
 refine Ga ?_
 refine Ops.callf_chk rfl e2 (jaN rfl (by rw [o2.2 _ om,gw]) c1 rfl jbn) ?_
 refine Ops.bslice1_at (new:=[.i (l.length:Int)]) rfl rfl rfl rfl ?_
 refine Ops.opqh fun G3 hG3=>?_
 have x3:G3.nx=G2.nx:=by rw [hG3];rfl
 have k3 : ∀ j,j≠G.nx->G3.get j=G2.get j:=fun j hj=>by rw [hG3,jaa om]
 have b3:G3.get (G.nx+0)=some (.cells [.i (l.length:Int)] false):=by rw [hG3,jab]
 have o3:Old h G3:=⟨by have:=oG.1;omega,fun j hj=>by rw [k3 j (by have:=oG.1;omega),o2.2 j (by have:=oG.1;omega)];exact oG.2 j hj⟩
 have n3 : ∀ j,h.nx<=j->j<h.nx+5->G3.get j=G.get j:=fun j j1 j2=>by rw [k3 j om,o2.2 j om];rfl
 clear hG3
 have rz3:RowZ (G.reserve 1).nx G3 v1 t.x.waiting:=rz.keep om fun q hq=>k3 q (by have:=rz.at_ge hq;omega)
 refine Ops.app_z1 rfl rfl rz3 om om b3 (fun e=>by have:=rz.at_ge e;omega) fun v2 G4 row4 x4 at4 k4=>?_
 have o4:Old h G4:=⟨by have:=o3.1;omega,fun j hj=>by rw [k4 j (by have:=o3.1;omega) (fun e=>by have:=rz.at_ge e;have:=oG.1;omega),o3.2 j hj]⟩
 have n4 : ∀ j,h.nx<=j->j<h.nx+5->G4.get j=G.get j:=fun j j1 j2=>by rw [k4 j om (fun e=>by have:=rz.at_ge e;omega),n3 j j1 j2]
 have gt4:G4.get t.wb=some (.cells (t.x.cells t.r0 t.r1 (.slice av t.x.waiting.length cv)) false):=by rw [o4.2 _ hwb,<- hva];exact X.hx
 have hlen:0+16<(t.x.cells t.r0 t.r1 (.slice av t.x.waiting.length cv)).length:=by rw [Wi.cells_length];omega
 have ecell:Obj.cells ((t.x.cells t.r0 t.r1 (.slice av t.x.waiting.length cv)).set (0+16) v2) false=(t.setw v2 (t.x.waiting++[(l.length:Int)])).x.obj t.r0 t.r1 v2:=by
  show Obj.cells ((t.x.cells t.r0 t.r1 (.slice av t.x.waiting.length cv)).set 16 v2) false=_
  rw [Wi.cells_wait (wt:=t.x.waiting++[(l.length:Int)])];rfl
 obtain ⟨p1,p2⟩:=VI.ofRow row4
 have hone:=p1.one
 obtain ⟨ow1,how1⟩ : ∃ ow1:Nat->Nat,ow1=fun j=>if j=G3.nx then 10*m+15 else ow j:=⟨_,rfl⟩
 have hz0:ow G3.nx=0:=a.wf.top _ o3.1
 have t1:ow1 G3.nx=10*m+15:=by rw [how1];exact zG rfl
 have t2 : ∀ j,j≠G3.nx->ow1 j=ow j:=fun j hj=>by rw [how1];exact zF hj
 have z4:G3.nx<G4.nx:=by
  rcases row4 with ⟨h0,_⟩ | ⟨q,_,q1,rfl,_⟩
  ·simp at h0
  ·cases at4;exact q1
 have W4:WF G4 w s ow1 (fun i=>atS (wxs l) (i:Int)) l now tb no:=(a.wf.old o4).retag (fun j hj=>t2 j fun e=>hj (by rw [e,hz0])) fun j hj=>by rw [t2 j om];exact a.wf.top j (by have:=o4.1;omega)
 have W5:=W4.setWait ht p1 fun _ z hz=>by
  rw [at4] at hz;cases hz
  exact ⟨t1,z4⟩
 clear how1 gt gw hvi hvi1 b3 rz rz3 e2 row4
 refine Ga ?_
 refine zcs rfl rfl hone gt4 hlen ?_
 rw [ecell]
 refine Ops.opqh fun G5 hG5=>?_
 rw [<- hG5] at W5
 have x5:G5.nx=G4.nx:=by rw [hG5];rfl
 have k5 : ∀ j,j≠t.wb->G5.get j=G4.get j:=fun j hj=>by rw [hG5,jaa hj]
 clear hG5 ecell hlen gt4 hone
 have ht5:(l.set m (t.setw v2 (t.x.waiting++[(l.length:Int)])))[m]?=some (t.setw v2 (t.x.waiting++[(l.length:Int)])):=by rw [zi,zG rfl,zG hlt]
 generalize hl5:l.set m (t.setw v2 (t.x.waiting++[(l.length:Int)]))=l5 at W5 ht5
 have len5:l5.length=l.length:=by rw [<- hl5];simp
 have X5:=W5.ok m _ ht5
 have gt5:G5.get t.wb=some (.cells ((t.setw v2 (t.x.waiting++[(l.length:Int)])).x.cells t.r0 t.r1 v2) false):=X5.hx
 have c5:((t.setw v2 (t.x.waiting++[(l.length:Int)])).x.cells t.r0 t.r1 v2)[0+0+Int.toNat 0*7+5]?=some (.int .u64 t.x.e0.inn):=rfl
 have hlen5:0+0+Int.toNat 0*7+5<((t.setw v2 (t.x.waiting++[(l.length:Int)])).x.cells t.r0 t.r1 v2).length:=by rw [Wi.cells_length];show 5<17;omega
 refine Ga ?_
 refine zcs rfl rfl rfl gt5 hlen5 ?_
 refine Ops.opqh fun G6 hG6=>?_
 have u6:Upd t.wb ((t.x.more (l.length:Int)).obj t.r0 t.r1 v2) G5 G6:=by
  refine ⟨by rw [hG6];rfl,?_,fun j hj=>by rw [hG6,jaa hj]⟩
  rw [hG6,jab]
  show some (Obj.cells (((t.setw v2 (t.x.waiting++[(l.length:Int)])).x.cells t.r0 t.r1 v2).set 5 (.int .u64 (upu t.x.e0.inn))) false)=_
  rw [Wi.cells_inn];rfl
 clear hG6 gt5 c5 hlen5
 have W6:=W5.upd (x':=t.x.more (l.length:Int)) ht5 u6 rfl rfl fun k hk=>by rcases hk with rfl | rfl<;>rfl
 have len6:(l5.set m { t.setw v2 (t.x.waiting++[(l.length:Int)]) with x:=t.x.more (l.length:Int) }).length=l.length:=by rw [List.length_set,len5]
 have ws6:wxs (l5.set m { t.setw v2 (t.x.waiting++[(l.length:Int)]) with x:=t.x.more (l.length:Int) })=(wxs l).set m (t.x.more (l.length:Int)):=by
  rw [jbg,<- hl5,jbg,List.set_set]
 generalize l5.set m { t.setw v2 (t.x.waiting++[(l.length:Int)]) with x:=t.x.more (l.length:Int) } = l6 at W6 len6 ws6
 clear W5 ht5 hl5 len5 X5
 have x6:G6.nx=G4.nx:=by rw [u6.nx,x5]
 have k6 : ∀ j,j≠t.wb->G6.get j=G4.get j:=fun j hj=>by rw [u6.get j hj,k5 j hj]
 have n6 : ∀ j,h.nx<=j->j<h.nx+5->G6.get j=G.get j:=fun j j1 j2=>by rw [k6 j om,n4 j j1 j2]
 have o6 : ∀ j,j<h.nx->j≠t.wb->G6.get j=h.get j:=fun j j1 j2=>by rw [k6 j j2,o4.2 j j1]
 obtain ⟨wv6,hw6,row6,hz6⟩:=W6.hw
 rw [len6] at row6
 obtain ⟨cp6,⟨av6,rfl⟩,_⟩:=row6.shape
 have c6:(wc (fun i=>atS (wxs l) (i:Int)) (.slice av6 l.length cp6) s now no)[0+288]?=some (.slice av6 l.length cp6):=jbe rfl
 clear k5 k6 n4 k4 k3 n3 x5 u6
 refine Ga ?_
 refine Ops.push (N:=0) (new:=[.p h.nx 0]) rfl rfl rfl rfl om rfl rfl row6 (Zm _) om om fun v3 G7 row7 x7 z7 k7=>?_
 have hw7:G7.get w=some (.cells (wc (fun i=>atS (wxs l) (i:Int)) (.slice av6 l.length cp6) s now no) false):=by rw [k7 w W6.lw (fun e=>by have:=hz6 _ e;have:=W6.tw;omega),hw6]
 have hlen7:0+288<(wc (fun i=>atS (wxs l) (i:Int)) (.slice av6 l.length cp6) s now no).length:=by rw [jb3];omega
 have hone7:=row7.one
 refine Ga ?_
 refine zcs rfl rfl hone7 hw7 hlen7 ?_
 rw [jee rfl]
 refine Ops.opqh fun G8 hG8=>?_
 have x8:G8.nx=G7.nx:=by rw [hG8];rfl
 have hw8:G8.get w=some (.cells (wc (fun i=>atS (wxs l) (i:Int)) v3 s now no) false):=by rw [hG8,jab]
 have k8 : ∀ j,j≠w->G8.get j=G7.get j:=fun j hj=>by rw [hG8,jaa hj]
 clear hG8 hw7
 have hgo : ∃ z3,z3<G8.nx/\G6.nx<=z3/\(∀ y,v3.at?=some y->y=z3):=by
  rcases id row7 with ⟨h0,_⟩ | ⟨q,_,q1,rfl,_⟩
  ·omega
  ·exact ⟨q,by omega,z7 q rfl,fun y hy=>by cases hy;rfl⟩
 obtain ⟨z3,y1,y2,y3⟩:=hgo
 have hwz : ∀ q,v3.at?=some q->q≠w:=fun q e=>by have:=z7 q e;have:=W6.lw;omega
 have h01 : ∀ j,h.nx<=j->j<h.nx+5->ow1 j=0:=fun j j1 j2=>by rw [t2 j om];exact a.wf.top j j1
 have n8 : ∀ j,h.nx<=j->j<h.nx+5->G8.get j=G.get j:=fun j j1 j2=>by rw [k8 j om,k7 j om (fun e=>by have:=hz6 _ e;have:=h01 j j1 j2;omega),n6 j j1 j2]
 have P:=W6.push (h':=G8) (g:=fun i=>atS (wxs l) (i:Int)) (m:=5) (z:=z3) (N:=h.nx) (t:=⟨jbf nn,h.nx,h.nx+2,h.nx+1,h.nx+4,h.nx+3,.nils⟩) (.inr rfl) om h01 y2 y1
  (fun j j1 j2 j3=>by rw [k8 j j3,k7 j (W6.lt_of j1) (fun e=>j2 (hz6 _ e))]) hw8
  (by rw [len6];exact row7.keep om fun q e=>k8 q (hwz q e)) y3 rfl (fun _=>⟨rfl,rfl,rfl,rfl⟩) (by rw [n8 _ (zr _) om,gN]) rfl rfl
  (fun k hk q hq=>by
   refine ⟨rfl,?_⟩
   have hk2:=R k hk
   rcases hk with rfl | rfl
   ·have hq:some []=some q:=hq
    cases hq
    exact hk2.keep (n8 _ (by show h.nx<=h.nx+2;omega) (by show h.nx+2<h.nx+5;omega)) (n8 _ (by show h.nx<=h.nx+1;omega) (by show h.nx+1<h.nx+5;omega))
   ·have hq:some []=some q:=hq
    cases hq
    exact hk2.keep (n8 _ (by show h.nx<=h.nx+4;omega) (by show h.nx+4<h.nx+5;omega)) (n8 _ (by show h.nx<=h.nx+3;omega) (by show h.nx+3<h.nx+5;omega)))
 have ez:wxs (l6++[(⟨jbf nn,h.nx,h.nx+2,h.nx+1,h.nx+4,h.nx+3,.nils⟩:WX)])=(wxs l).set m (t.x.more (l.length:Int))++[jbf nn]:=by rw [<- ws6];simp
 have hA:=AtW_more (m:=(l.length:Int)) (many:=(nn:Int)) (jam ht)
 have hlast:((l.length+1:Nat):Int)-1=(l.length:Int):=by omega
 obtain ⟨cp7,⟨av7,rfl⟩,_⟩:=row7.shape
 have c8:(wc (fun i=>atS (wxs l) (i:Int)) (.slice av7 (l.length+1) cp7) s now no)[0+288]?=some (.slice av7 (l.length+1) cp7):=jbe rfl
 have o8 : ∀ j,j<h.nx->ow j=0->G8.get j=h.get j:=fun j j1 j2=>by
  have q1:ow1 j=0:=by rw [t2 j (by have:=o3.1;omega),j2]
  rw [k8 j (fun e=>by rw [e,a.wf.tw] at j2;omega),k7 j (by have:=o4.1;omega) (fun e=>by have:=hz6 _ e;omega),o6 j j1 (fun e=>by have:=X.ox;rw [<- e] at this;omega)]
 rw [len6] at P
 clear k7 n6 n8 row7 row6 W6
 refine Ga ?_
 refine ⟨jgg ow1 h.nx l.length 5 z3,by rw [hlast],⟨_,⟨P.congr fun j _=>by rw [ez,jk4 hA],fun n k fd hf=>?_⟩,ez⟩,⟨by have:=oG.1;omega,fun j hj hn=>?_⟩,fun j hj=>?_⟩
 ·rw [ez] at hf
  exact a.fds n k fd ((hA n k fd).1 hf)
 ·exact o8 j hj (Classical.not_not.1 hn)
 ·rw [jgf (.inl hj) (by have:=o4.1;omega),t2 j (by have:=o3.1;omega)]
end
section
variable {cl:Nat->Call} (hcl:Sem cl) {h:H} {w s:Nat} {ow:Nat->Nat} {l:List WX} {now:Int} {tb:Tb} {no:Option (Nat × Nat)}
include hcl
theorem cw_ok {d m nn:Nat} {t:WX} (hd:5<=d) (K:WsK (wxs l)) (a:WW h w s ow l now tb no) (ht:l[m]?=some t) (hb0:t.x.backlog≠0) (hw1:t.x.e0.what=1) (hm1:1<=nn) (hm2:nn<=65536) (hbk : ¬ t.x.backlog<=t.x.waiting.length) (hfull:l.length<1000) :
  ∃ h' ow',cl d (.fn 80) [.p w 0,.i (m:Int),.i (nn:Int)] h=some (.tup [.i (l.length:Int),.i 0],h') /\
   WSt h' w s ow' ((wxs l).set m { t.x with waiting:=t.x.waiting++[(l.length:Int)],e0 := { t.x.e0 with inn:=upu t.x.e0.inn } } ++ [jbf nn]) now tb no/\To h h' ow ow':=by
 have lw:=a.wf.lw
 have hnone:=jcw hcl (d:=d-1) om a.wf
 have hcap:=jij hcl (h:=h) (d:=d-1) (n:=(nn:Int)) om
 rw [zJ om] at hcap
 obtain ⟨sa,c,hw,hsl⟩:=a.wf.head
 have c1:(wc (fun i=>atS (wxs l) (i:Int)) (.slice sa l.length c) s now no)[0+288]?=some (.slice sa l.length c):=jbe rfl
 have hlt:=x_lt ht
 obtain ⟨z,rfl,z1,z2,z3⟩:=hsl (by rintro rfl;simp at hlt)
 have hx:=jam ht
 have X:=a.wf.ok m t ht
 have hwb:=X.lx
 have w2:(wps l)[0+(m:Int).toNat*1]?=some (.p t.wb 0):=by rw [show 0+(m:Int).toNat*1=m by omega];exact jdC ht
 have gt:h.get t.wb=some (.cells (t.x.cells t.r0 t.r1 t.wv) false):=X.hx
 have hvi:=X.wait.1
 obtain ⟨av,cv,hva,_⟩:=id hvi
 rw [hva] at gt hvi
 have hnw : ¬ t.x.e0.what≠1:=fun e=>e hw1
 have hl2 : ¬ 1000<=(l.length:Int):=by omega
 have hwt:=(K.ok.wait t.x (zb hx)).1
 obtain ⟨h1,e1,x1,o1,g0,g2,g1,g4,g3⟩:=jnk hcl (h:=h) (n:=nn) (d:=d-1) om hm2
 simp only [jpb,Wi.obj,Wi.cells,En.cells,zZ,Zi] at g0
 suffices q : ∃ v h',cl d (.fn 80) [.p w 0,.i (m:Int),.i (nn:Int)] h=some (v,h') /\ ∃ ow',v = .tup [.i (l.length:Int),.i 0]/\WSt h' w s ow' ((wxs l).set m { t.x with waiting:=t.x.waiting++[(l.length:Int)],e0 := { t.x.e0 with inn:=upu t.x.e0.inn } } ++ [jbf nn]) now tb no/\To h h' ow ow' by
  obtain ⟨_,h',e,ow',rfl,q⟩:=q;exact ⟨h',ow',e,q⟩
 refine aT hcl ?_
 obtain ⟨C,hC⟩ : ∃ C,C=c80_3:=⟨_,rfl⟩
 simp only [c80,c80_10,c80_5,c80_4,yB,yC]
 rw [<- hC]
 have gw1:h1.get w=some _:=(o1.2 _ lw).trans hw
 have gz1:h1.get z=some _:=(o1.2 _ z1).trans z3
 have gt1:h1.get t.wb=some _:=(o1.2 _ hwb).trans gt
 refine Gb ?_
 refine Run.opqh fun H1 hH1=>?_
 have xH:H1.nx=h1.nx:=by rw [hH1];rfl
 have kH : ∀ j,j≠h.nx->H1.get j=h1.get j:=fun j hj=>by rw [hH1,jaa hj]
 have oH:Old h H1:=⟨by have:=o1.1;omega,fun j hj=>by rw [kH j om,o1.2 j hj]⟩
 have gN:H1.get h.nx=some ((jbf nn).obj (h.nx+2) (h.nx+4) .nils):=by rw [hH1];exact jab _
 clear hH1 gw1 gz1 gt1
 rw [hC]
 refine cw_mid hcl om K a ht hwt hfull oH om gN fun k hk=>?_
 rcases hk with rfl | rfl
 ·exact (je5 hm1 hm2 g2 g1).keep (kH _ (by show h.nx+2≠h.nx;omega)) (kH _ (by show h.nx+1≠h.nx;omega))
 ·exact (je5 hm1 hm2 g4 g3).keep (kH _ (by show h.nx+4≠h.nx;omega)) (kH _ (by show h.nx+3≠h.nx;omega))
end
section
variable {cl:Nat->Call} (hcl:Sem cl) {h:H} {w s:Nat} {ow:Nat->Nat} {ws:Ws} {now:Int} {tb:Tb} {no:Option (Nat × Nat)}
include hcl
theorem jik {d:Nat} {n many:Int} (hd:5<=d) (K:WsK ws) (a:WSt h w s ow ws now tb no) :
  ∃ h' ow',cl d (.fn 80) [.p w 0,.i n,.i many] h=some (.tup [.i (jar ws n many).1.1,.i (jar ws n many).1.2],h')/\WSt h' w s ow' (jar ws n many).2 now tb no/\To h h' ow ow':=by
 obtain ⟨l,a,rfl⟩:=a
 have K':=jhL (n:=n) (many:=many) K
 have lw:=a.wf.lw
 have hnone:=jcw hcl (d:=d-1) om a.wf
 have hcap:=jij hcl (h:=h) (d:=d-1) (n:=many) om
 have hwl:(wxs l).length=l.length:=by simp
 have hol:l.length<=1000:=by have:=K.ok.len;omega
 obtain ⟨sa,c,hw,hsl⟩:=a.wf.head
 have c1:(wc (fun i=>atS (wxs l) (i:Int)) (.slice sa l.length c) s now no)[0+288]?=some (.slice sa l.length c):=jbe rfl
 suffices q : ∃ v h',cl d (.fn 80) [.p w 0,.i n,.i many] h=some (v,h') /\ ∃ ow',v = .tup [.i (jar (wxs l) n many).1.1,.i (jar (wxs l) n many).1.2]/\WSt h' w s ow' (jar (wxs l) n many).2 now tb no/\To h h' ow ow' by
  obtain ⟨_,h',e,ow',rfl,q⟩:=q;exact ⟨h',ow',e,q⟩
 by_cases hall : ∃ (m nn:Nat) (t:WX),n=m/\many=nn/\l[m]?=some t/\t.x.backlog≠0/\t.x.e0.what=1/\1<=nn/\nn<=65536 /\ ¬ t.x.backlog<=t.x.waiting.length/\l.length<1000
 ·obtain ⟨m,nn,t,rfl,rfl,ht,hb0,hw1,hm1,hm2,hbk,hfull⟩:=hall
  obtain ⟨h',ow',e,q⟩:=cw_ok hcl hd K a ht hb0 hw1 hm1 hm2 hbk hfull
  have hS:jar (wxs l) m nn=(((l.length:Int),(0:Int)),(wxs l).set m { t.x with waiting:=t.x.waiting++[(l.length:Int)],e0 := { t.x.e0 with inn:=upu t.x.e0.inn } } ++ [jbf nn]):=by
   unfold jar
   rw [zF om,zz,jam ht]
   simp only
   rw [zF (by rintro (e | e);(exact hb0 e);exact e hw1),zF om,zF hbk,zF om,hwl]
  rw [hS]
  exact ⟨_,h',e,ow',rfl,q⟩
 refine aT hcl ?_
 have same:WSt h w s ow (wxs l) now tb no:=⟨l,a,rfl⟩
 by_cases hn:n<0
 ·have hS:jar (wxs l) n many=((0,116),wxs l):=zG hn
  rw [hS]
  refine Ga ?_
  all_goals first | exact ⟨ow,rfl,same,To.refl _ _⟩ | (exfalso;omega)
 have hS:jar (wxs l) n many=_:=zF hn
 obtain ⟨m,rfl⟩:=zC (show 0<=n by omega)
 rw [zz] at hS
 by_cases hlt:m<l.length
 case neg=>
  rw [zc om] at hS
  have hS:jar (wxs l) m many=((0,116),wxs l):=hS
  rw [hS]
  refine Ga ?_
  all_goals first | exact ⟨ow,rfl,same,To.refl _ _⟩ | (exfalso;omega)
 obtain ⟨t,ht⟩ : ∃ t,l[m]?=some t:=⟨_,za hlt⟩
 obtain ⟨z,rfl,z1,z2,z3⟩:=hsl (by rintro rfl;simp at hlt)
 have hx:=jam ht
 rw [hx] at hS
 simp only at hS
 have X:=a.wf.ok m t ht
 have hwb:=X.lx
 have w2:(wps l)[0+(m:Int).toNat*1]?=some (.p t.wb 0):=by rw [show 0+(m:Int).toNat*1=m by omega];exact jdC ht
 have gt:h.get t.wb=some (.cells (t.x.cells t.r0 t.r1 t.wv) false):=X.hx
 obtain ⟨av,cv,hva,_⟩:=id X.wait.1
 rw [hva] at gt
 by_cases hb0:t.x.backlog=0
 ·have hS:jar (wxs l) m many=((0,116),wxs l):=by rw [hS,zG (.inl hb0)]
  rw [hS]
  refine Ga ?_
  all_goals first | exact ⟨ow,rfl,same,To.refl _ _⟩ | (exfalso;omega)
 by_cases hw1:t.x.e0.what=1
 case neg=>
  have hS:jar (wxs l) m many=((0,116),wxs l):=by rw [hS,zG (.inr hw1)]
  rw [hS]
  refine Ga ?_
  all_goals first | exact ⟨ow,rfl,same,To.refl _ _⟩ | (exfalso;omega)
 rw [zF (by rintro (e | e);(exact hb0 e);exact e hw1)] at hS
 have hnw : ¬ t.x.e0.what≠1:=fun e=>e hw1
 by_cases hm:many<1\/65536<many
 ·have hS:jar (wxs l) m many=((0,2),wxs l):=by rw [hS,zG hm]
  rw [hS]
  rw [zH om] at hcap
  clear hm
  refine Ga ?_
  all_goals first | exact ⟨ow,rfl,same,To.refl _ _⟩ | (exfalso;omega)
 rw [zF hm] at hS
 have hm1:1<=many:=by omega
 have hm2:many<=65536:=by omega
 clear hm
 rw [zJ om] at hcap
 by_cases hbk:t.x.backlog<=t.x.waiting.length
 ·have hS:jar (wxs l) m many=((0,113),wxs l):=by rw [hS,zG hbk]
  rw [hS]
  refine Ga ?_
  all_goals first | exact ⟨ow,rfl,same,To.refl _ _⟩ | (exfalso;omega)
 rw [zF hbk,hwl] at hS
 by_cases hfull:1000<=l.length
 ·have hS:jar (wxs l) m many=((0,112),wxs l):=by rw [hS,zG hfull]
  rw [hS]
  have hl2:(1000:Int)<=(l.length:Int):=by omega
  refine Ga ?_
  all_goals first | exact ⟨ow,rfl,same,To.refl _ _⟩ | (exfalso;omega)
 rw [zF hfull] at hS
 obtain ⟨nn,rfl⟩:=zC (show 0<=many by omega)
 exact zM ⟨m,nn,t,rfl,rfl,ht,hb0,hw1,by omega,by omega,hbk,by omega⟩ hall
end
section
variable {cl:Nat->Call} (hcl:Sem cl) {h:H} {p w s rw:Nat} {ow:Nat->Nat} {ro dat:Nat->Prop} {st sr:St} {a n t:Int} {dv vd:V} {D:List UInt8}
include hcl
theorem emo_9 {d i:Nat} (hd:15<=d) (b:BB h p w s rw ow ro dat st sr) (so:StOk st i) (sq:StOk sr i) (hi:i<=900000) (hD:Dat h dat dv D) (hC:Cpy h p ow ro dat vd D) :
  jcp cl d 39 h p w s rw ow ro dat [.p p 0,.agg (opV 9 a n t dv),vd] (doS 9 a n t D st) (doS 9 a n t D sr):=by
 have o0:Old h (h.new (.cells (opV 9 a n t dv) false)):=(ZD h).new
 have b0:=b.old o0
 have f0:=Fm.old (ow:=ow) (ro:=ro) o0
 have hD0:=hD.keep b f0
 have hC0:=hC.keep f0
 have hl300:=hD.len
 have g0:(h.new (.cells (opV 9 a n t dv) false)).get h.nx=some (.cells (opV 9 a n t dv) false):=jad _
 have x0:h.nx<(h.new (.cells (opV 9 a n t dv) false)).nx:=by simp
 have z0:ow h.nx=0:=b.W.top (zr _)
 have hp0:=b0.hp
 have lp:=b.lp
 have hok:st.tb.ok 1000000:=so.tb.mono om
 have hoq:sr.tb.ok 1000000:=sq.tb.mono om
 have hS:doS 9 a n t D st = { st with ws:=(putS st.ws a D).2 } := by simp [doS]
 have hS2:doS 9 a n t D sr = { sr with ws:=(putS sr.ws a D).2 } := by simp [doS]
 rw [hS,hS2]
 obtain ⟨h1,e1,W1,t1⟩:=jo0 hcl (d:=d-1) (n:=a) om b0.W so.K.ok hC0.v om (fun z hz=>(hC0.z z hz).2.1)
 have b1:=b0.wc (a' := { st with ws:=(putS st.ws a D).2 }) W1 t1
 have g1:=b0.off_w t1 x0 z0 g0
 have hp1:=b1.hp
 obtain ⟨v,h2,e2,b2,f2,rfl⟩:=b1.rc hcl (d:=d-1) (f:=71) (args:=[.p rw 0,.i a,dv]) (r' := { sr with ws:=(putS sr.ws a D).2 }) (P:=fun _ v=>v = .tup [.i (putS sr.ws a D).1.1,.i (putS sr.ws a D).1.2]) (fun _ _ _ _ h=>h) (fun g q l ga gn hq wR hl=>by
  have oR:WsOk (l.map RX.x):=by rw [hl];exact sq.K.ok
  obtain ⟨q1,q2⟩:=(hD0.keep b0 (Fm.to t1)).in_ b1 ga gn hq
  obtain ⟨l',g',k1,k2,k3,k4⟩:=rq_Put hcl (d:=d-1) (n:=a) om wR oR q1 om q2
  rw [hl] at k1 k3
  exact ⟨_,q,l',g',k1,k2,k3,k4,.inl rfl,rfl⟩)
 clear so sq hD hC hD0 hC0 hok hoq hl300 hS hS2
 refine jcp.mk b2 (Fm.two o0 t1 f2) (aT hcl ?_)
 repeat' (first|refine qmy ?_|(refine zsp ?_ ?_<;>intro _)|fail)
 all_goals exact ⟨⟨_,rfl⟩,rfl⟩
theorem emo_11 {d i:Nat} (hd:15<=d) (b:BB h p w s rw ow ro dat st sr) (so:StOk st i) (sq:StOk sr i) (hi:i<=900000) (hD:Dat h dat dv D) (hC:Cpy h p ow ro dat vd D) :
  jcp cl d 39 h p w s rw ow ro dat [.p p 0,.agg (opV 11 a n t dv),vd] (doS 11 a n t D st) (doS 11 a n t D sr):=by
 have o0:Old h (h.new (.cells (opV 11 a n t dv) false)):=(ZD h).new
 have b0:=b.old o0
 have f0:=Fm.old (ow:=ow) (ro:=ro) o0
 have hD0:=hD.keep b f0
 have hC0:=hC.keep f0
 have hl300:=hD.len
 have g0:(h.new (.cells (opV 11 a n t dv) false)).get h.nx=some (.cells (opV 11 a n t dv) false):=jad _
 have x0:h.nx<(h.new (.cells (opV 11 a n t dv) false)).nx:=by simp
 have z0:ow h.nx=0:=b.W.top (zr _)
 have hp0:=b0.hp
 have lp:=b.lp
 have hok:st.tb.ok 1000000:=so.tb.mono om
 have hoq:sr.tb.ok 1000000:=sq.tb.mono om
 have hS:doS 11 a n t D st = { st with ws:=(ja6 st.ws a).2 } := by simp [doS]
 have hS2:doS 11 a n t D sr = { sr with ws:=(ja6 sr.ws a).2 } := by simp [doS]
 rw [hS,hS2]
 obtain ⟨h1,e1,W1,t1⟩:=jhc hcl (d:=d-1) (n:=a) om b0.W
 have b1:=b0.wc (a' := { st with ws:=(ja6 st.ws a).2 }) W1 t1
 have g1:=b0.off_w t1 x0 z0 g0
 have hp1:=b1.hp
 obtain ⟨v,h2,e2,b2,f2,rfl⟩:=b1.rc hcl (d:=d-1) (f:=75) (args:=[.p rw 0,.i a]) (r' := { sr with ws:=(ja6 sr.ws a).2 }) (P:=fun _ v=>v = .i (ja6 sr.ws a).1) (fun _ _ _ _ h=>h) (fun g q l ga gn hq wR hl=>by
  have oR:WsOk (l.map RX.x):=by rw [hl];exact sq.K.ok
  obtain ⟨l',g',k1,k2,k3,k4⟩:=jkL hcl (d:=d-1) (n:=a) om wR
  rw [hl] at k1 k3
  exact ⟨_,q,l',g',k1,k2,k3,k4,.inl rfl,rfl⟩)
 clear so sq hD hC hD0 hC0 hok hoq hl300 hS hS2
 refine jcp.mk b2 (Fm.two o0 t1 f2) (aT hcl ?_)
 refine qm ?_
 all_goals exact ⟨⟨_,rfl⟩,rfl⟩
theorem emo_12 {d i:Nat} (hd:15<=d) (b:BB h p w s rw ow ro dat st sr) (so:StOk st i) (sq:StOk sr i) (hi:i<=900000) (hD:Dat h dat dv D) (hC:Cpy h p ow ro dat vd D) :
  jcp cl d 39 h p w s rw ow ro dat [.p p 0,.agg (opV 12 a n t dv),vd] (doS 12 a n t D st) (doS 12 a n t D sr):=by
 have o0:Old h (h.new (.cells (opV 12 a n t dv) false)):=(ZD h).new
 have b0:=b.old o0
 have f0:=Fm.old (ow:=ow) (ro:=ro) o0
 have hD0:=hD.keep b f0
 have hC0:=hC.keep f0
 have hl300:=hD.len
 have g0:(h.new (.cells (opV 12 a n t dv) false)).get h.nx=some (.cells (opV 12 a n t dv) false):=jad _
 have x0:h.nx<(h.new (.cells (opV 12 a n t dv) false)).nx:=by simp
 have z0:ow h.nx=0:=b.W.top (zr _)
 have hp0:=b0.hp
 have lp:=b.lp
 have hok:st.tb.ok 1000000:=so.tb.mono om
 have hoq:sr.tb.ok 1000000:=sq.tb.mono om
 have hS:doS 12 a n t D st = { st with ws:=(ja1 st.ws a).2 } := by simp [doS]
 have hS2:doS 12 a n t D sr = { sr with ws:=(ja1 sr.ws a).2 } := by simp [doS]
 rw [hS,hS2]
 obtain ⟨h1,e1,W1,t1⟩:=jg2 hcl (d:=d-1) (n:=a) om b0.W
 have b1:=b0.wc (a' := { st with ws:=(ja1 st.ws a).2 }) W1 t1
 have g1:=b0.off_w t1 x0 z0 g0
 have hp1:=b1.hp
 obtain ⟨v,h2,e2,b2,f2,rfl⟩:=b1.rc hcl (d:=d-1) (f:=77) (args:=[.p rw 0,.i a]) (r' := { sr with ws:=(ja1 sr.ws a).2 }) (P:=fun _ v=>v = .i (ja1 sr.ws a).1) (fun _ _ _ _ h=>h) (fun g q l ga gn hq wR hl=>by
  have oR:WsOk (l.map RX.x):=by rw [hl];exact sq.K.ok
  obtain ⟨l',g',k1,k2,k3,k4⟩:=jjD hcl (d:=d-1) (n:=a) om wR
  rw [hl] at k1 k3
  exact ⟨_,q,l',g',k1,k2,k3,k4,.inl rfl,rfl⟩)
 clear so sq hD hC hD0 hC0 hok hoq hl300 hS hS2
 refine jcp.mk b2 (Fm.two o0 t1 f2) (aT hcl ?_)
 refine qm ?_
 all_goals exact ⟨⟨_,rfl⟩,rfl⟩
theorem emo_13 {d i:Nat} (hd:15<=d) (b:BB h p w s rw ow ro dat st sr) (so:StOk st i) (sq:StOk sr i) (hi:i<=900000) (hD:Dat h dat dv D) (hC:Cpy h p ow ro dat vd D) :
  jcp cl d 39 h p w s rw ow ro dat [.p p 0,.agg (opV 13 a n t dv),vd] (doS 13 a n t D st) (doS 13 a n t D sr):=by
 have o0:Old h (h.new (.cells (opV 13 a n t dv) false)):=(ZD h).new
 have b0:=b.old o0
 have f0:=Fm.old (ow:=ow) (ro:=ro) o0
 have hD0:=hD.keep b f0
 have hC0:=hC.keep f0
 have hl300:=hD.len
 have g0:(h.new (.cells (opV 13 a n t dv) false)).get h.nx=some (.cells (opV 13 a n t dv) false):=jad _
 have x0:h.nx<(h.new (.cells (opV 13 a n t dv) false)).nx:=by simp
 have z0:ow h.nx=0:=b.W.top (zr _)
 have hp0:=b0.hp
 have lp:=b.lp
 have hok:st.tb.ok 1000000:=so.tb.mono om
 have hoq:sr.tb.ok 1000000:=sq.tb.mono om
 have hS:doS 13 a n t D st = { st with ws:=(jbL st.ws a).2 } := by simp [doS]
 have hS2:doS 13 a n t D sr = { sr with ws:=(jbL sr.ws a).2 } := by simp [doS]
 rw [hS,hS2]
 obtain ⟨h1,e1,W1,t1⟩:=jly hcl (d:=d-1) (n:=a) om b0.W so.K.ok
 have b1:=b0.wc (a' := { st with ws:=(jbL st.ws a).2 }) W1 t1
 have g1:=b0.off_w t1 x0 z0 g0
 have hp1:=b1.hp
 obtain ⟨v,h2,e2,b2,f2,rfl⟩:=b1.rc hcl (d:=d-1) (f:=79) (args:=[.p rw 0,.i a]) (r' := { sr with ws:=(jbL sr.ws a).2 }) (P:=fun _ v=>v = .i (jbL sr.ws a).1) (fun _ _ _ _ h=>h) (fun g q l ga gn hq wR hl=>by
  have oR:WsOk (l.map RX.x):=by rw [hl];exact sq.K.ok
  obtain ⟨l',g',k1,k2,k3,k4⟩:=rq_Reset hcl (d:=d-1) (n:=a) om wR oR
  rw [hl] at k1 k3
  exact ⟨_,q,l',g',k1,k2,k3,k4,.inl rfl,rfl⟩)
 clear so sq hD hC hD0 hC0 hok hoq hl300 hS hS2
 refine jcp.mk b2 (Fm.two o0 t1 f2) (aT hcl ?_)
 refine qm ?_
 all_goals exact ⟨⟨_,rfl⟩,rfl⟩
theorem emo_14 {d i:Nat} (hd:15<=d) (b:BB h p w s rw ow ro dat st sr) (so:StOk st i) (sq:StOk sr i) (hi:i<=900000) (hD:Dat h dat dv D) (hC:Cpy h p ow ro dat vd D) :
  jcp cl d 39 h p w s rw ow ro dat [.p p 0,.agg (opV 14 a n t dv),vd] (doS 14 a n t D st) (doS 14 a n t D sr):=by
 have o0:Old h (h.new (.cells (opV 14 a n t dv) false)):=(ZD h).new
 have b0:=b.old o0
 have f0:=Fm.old (ow:=ow) (ro:=ro) o0
 have hD0:=hD.keep b f0
 have hC0:=hC.keep f0
 have hl300:=hD.len
 have g0:(h.new (.cells (opV 14 a n t dv) false)).get h.nx=some (.cells (opV 14 a n t dv) false):=jad _
 have x0:h.nx<(h.new (.cells (opV 14 a n t dv) false)).nx:=by simp
 have z0:ow h.nx=0:=b.W.top (zr _)
 have hp0:=b0.hp
 have lp:=b.lp
 have hok:st.tb.ok 1000000:=so.tb.mono om
 have hoq:sr.tb.ok 1000000:=sq.tb.mono om
 have hS:doS 14 a n t D st = { st with ws:=(jar st.ws a n).2 } := by simp [doS]
 have hS2:doS 14 a n t D sr = { sr with ws:=(jar sr.ws a n).2 } := by simp [doS]
 rw [hS,hS2]
 obtain ⟨h1,ow1,e1,W1,t1⟩:=jik hcl (d:=d-1) (n:=a) (many:=n) om so.K b0.W
 have b1:=b0.wc (a' := { st with ws:=(jar st.ws a n).2 }) W1 t1
 have g1:=b0.off_w t1 x0 z0 g0
 have hp1:=b1.hp
 obtain ⟨v,h2,e2,b2,f2,rfl⟩:=b1.rc hcl (d:=d-1) (f:=81) (args:=[.p rw 0,.i a,.i n]) (r' := { sr with ws:=(jar sr.ws a n).2 }) (P:=fun _ v=>v = .tup [.i (jar sr.ws a n).1.1,.i (jar sr.ws a n).1.2]) (fun _ _ _ _ h=>h) (fun g q l ga gn hq wR hl=>by
  have oR:WsOk (l.map RX.x):=by rw [hl];exact sq.K.ok
  obtain ⟨q',l',g',k1,k2,k3,k4,k5⟩:=jmx hcl (d:=d-1) (n:=a) (many:=n) om wR oR
  rw [hl] at k1 k3
  exact ⟨_,q',l',g',k1,k2,k3,k4,k5,rfl⟩)
 clear so sq hD hC hD0 hC0 hok hoq hl300 hS hS2
 refine jcp.mk b2 (Fm.two o0 t1 f2) (aT hcl ?_)
 repeat' (first|refine qmy ?_|(refine zsp ?_ ?_<;>intro _)|fail)
 all_goals exact ⟨⟨_,rfl⟩,rfl⟩
end
end Am.Sigs
