/- Our own library, part 17. -/
import Derived.Test.YtphpefladchggaaGreatDoorV16
import Derived.Test.YtphpefladchggaaGreatDoorV15
import Derived.Test.YtphpefladchggaaGreatDoorV14
set_option maxHeartbeats 8000000
set_option maxRecDepth 800
set_option linter.all false
namespace Am.Sigs
open Am Go
theorem tab_push1{ws:Ws}{x:Wi}{i0 j:Nat}(u:Uniq (ws++[x]))(w0:x.e0.what=1)(f0:x.e0.fd=i0)(w1:x.e1.what≠1):(if j=i0 then some (ws.length,0) else atS ws (j:Int))=atS (ws++[x]) (j:Int):=by
 have hL:(ws++[x])[ws.length]?=some x:=by simp
 by_cases e:j=i0
 .subst e;rw[zD rfl,jdA u (n:=ws.length) (k:=0) ⟨x,hL,.inl rfl,w0,f0⟩]
 .rw[zC e];refine jfi fun n k=>⟨fun h=>?_,fun h=>?_⟩
  .obtain⟨y,hy,r⟩:=h;exact⟨y,jeY hy,r⟩
  .rcases jep h with h|⟨_,hk,h1,h2⟩
   .exact h
   .rcases hk with rfl|rfl
    .have h2:x.e0.fd=(j:Int):=h2;omega
    .exact zJ h1 w1
theorem tab_push2{ws:Ws}{x:Wi}{i0 i1 j:Nat}(u:Uniq (ws++[x]))(w0:x.e0.what=1)(f0:x.e0.fd=i0)(w1:x.e1.what=1)(f1:x.e1.fd=i1)(d5:i0≠i1) :
  (if j=i1 then some (ws.length,1) else if j=i0 then some (ws.length,0) else atS ws (j:Int))=atS (ws++[x]) (j:Int):=by
 have hL:(ws++[x])[ws.length]?=some x:=by simp
 by_cases e:j=i1
 .subst e;rw[zD rfl,jdA u (n:=ws.length) (k:=1) ⟨x,hL,.inr rfl,w1,f1⟩]
 rw[zC e];by_cases e:j=i0
 .subst e;rw[zD rfl,jdA u (n:=ws.length) (k:=0) ⟨x,hL,.inl rfl,w0,f0⟩]
 rw[zC e];refine jfi fun n k=>⟨fun h=>?_,fun h=>?_⟩
 .obtain⟨y,hy,r⟩:=h;exact⟨y,jeY hy,r⟩
 .rcases jep h with h|⟨_,hk,h1,h2⟩
  .exact h
  .rcases hk with rfl|rfl
   .have h2:x.e0.fd=(j:Int):=h2;omega
   .have h2:x.e1.fd=(j:Int):=h2;omega
theorem WW.newWire{h0 h2 h':H}{w s m r0 r1:Nat}{ow:Nat->Nat}{g:Nat->Option (Nat×Nat)}{l:List WX}{x:Wi}{now:Int}{tb:Tb}{no:Option (Nat×Nat)}(a:WW h0 w s ow l now tb no)(o1:Old h0 h2)(hm:m=1\/m=5)(hN:h0.nx+m<=h2.nx)
  (fH:m=5->r0=h0.nx+2/\r1=h0.nx+4) (p:Opened h2 h' w s h0.nx ow g l now no (x.obj r0 r1 .nils)) (fC:x.waiting=[]) (hg:∀j,j<96->g j=atS (wxs l++[x]) (j:Int)) (uN:∀k,k=0\/k=1->(x.e k).what=1->0<=(x.e k).fd/\(x.e k).fd<=95)
  (hr:∀k,k=0\/k=1 -> ∀q,(x.e k).ring=some q->m=5/\ja3 h2 (two r0 r1 k) (two (h0.nx+1) (h0.nx+3) k) q x.cap) :
  ∃ow',WSt h' w s ow' (wxs l++[x]) now tb no/\To h0 h' ow ow':=by
 obtain⟨wv,z,p1,p2,p3,p4,p5⟩:=p.hw;have a2:=a.wf.old o1;have lw:=a.wf.lw;have dD:∀j,h0.nx<=j->ow j=0:=a.wf.top;have keep:∀j,h0.nx<j->j<h0.nx+m->h'.get j=h2.get j:=fun j j1 j2=>p.hk j om om om (by rw[dD j om];omega);have F:=a2.push (t:=⟨x,h0.nx,r0,h0.nx+1,r1,h0.nx+3,.nils⟩) (m:=m) (z:=z) (N:=h0.nx) hm hN (fun j j1 _=>dD j j1) p4 p5
  (fun j j1 j2 j3=>p.hk j (a2.lt_of j1) (fun e=>j1 (by rw[e];exact dD _ (zq _))) j3 j2) p1 p2 p3 rfl (fun e=>⟨rfl,(fH e).1,rfl,(fH e).2⟩) p.ho fC rfl
  (fun k hk q hq=>by
   obtain⟨e5,R⟩:=hr k hk q hq;obtain⟨e0,e1⟩:=fH e5;refine⟨e5,?_⟩;subst e0 e1;rcases hk with rfl|rfl
   .exact R.keep (keep _ (by show h0.nx<h0.nx+2;omega) (by show h0.nx+2<_;omega)) (keep _ (by show h0.nx<h0.nx+1;omega) (by show h0.nx+1<_;omega))
   .exact R.keep (keep _ (by show h0.nx<h0.nx+4;omega) (by show h0.nx+4<_;omega)) (keep _ (by show h0.nx<h0.nx+3;omega) (by show h0.nx+3<_;omega)))
 have ez:wxs (l++[(⟨x,h0.nx,r0,h0.nx+1,r1,h0.nx+3,.nils⟩:WX)])=wxs l++[x]:=by simp
 refine⟨_,⟨_,⟨F.congr fun j hj=>by rw[ez];exact (hg j hj).symm,fun n k fd hf=>?_⟩,ez⟩,⟨⟨zA o1.1 p.nx,fun j hj ho=>?_⟩,fun j hj=>?_⟩⟩
 .rw[ez]at hf;rcases jep hf with hf|⟨_,hk,q1,q2⟩
  .exact a.fds n k fd hf
  .rw[<- q2];exact uN k hk q1
 .have ho:ow j=0:=Classical.not_not.1 ho;rw[p.hk j (zr hj o1.1) om (fun e=>by rw[e,a.wf.tw]at ho;omega) om,o1.2 j hj]
 .exact jgL (.inl hj) (by have:=o1.1;omega)
section
variable{cl:Nat->Call}(Z:Sem cl){h:H}{w s:Nat}{ow:Nat->Nat}{l:List WX}{now:Int}{tb:Tb}{no:Option (Nat×Nat)}
include Z
theorem jiV{d:Nat}{n:Int}(hd:1<=d):cl d (.fn 143) [.i n] h=some (.bool (decide (1<=n/\n<=65536)),h):=by
 refine jaj (aT Z ?_);by_cases h1:1<=n
 .by_cases h2:n<=65536
  .refine Ga ?_;exact⟨by rw[zG (show 1<=n/\n<=65536 from⟨h1,h2⟩)];simp[h2],rfl⟩
  .refine Ga ?_;exact⟨by rw[zE (show ¬(1<=n/\n<=65536) from fun e=>h2 e.2)];simp[h2],rfl⟩
 .refine Ga ?_;exact⟨by rw[zE (show ¬(1<=n/\n<=65536) from fun e=>h1 e.1)],rfl⟩
theorem jhI{d k N:Nat}{n:Int}(hd:3<=d)(a:WW h w s ow l now tb no)(hn:n<1\/65536<n):cl d (.fn 73) [.p w 0,.i n,.i (k:Int),.p N 0] h=some (.tup [.nils,.i 2],h):=by
 have h1:=jbK Z (d:=d-1) om a.wf;have h2:=jiV Z (h:=h) (d:=d-1) (n:=n) om;rw[zE om]at h2;clear hn;refine jaj (aT Z ?_);refine Ga ?_;exact⟨rfl,rfl⟩
theorem jhf{d k N:Nat}{n:Int}(hd:6<=d)(hk:k=1\/k=2)(a:WW h w s ow l now tb no)(ol:l.length<=1000)(jC:1<=n)(cI:n<=65536)(hb:((jav (wxs l) 96).take k).length≠k\/1000<=l.length) :
  ∃h',cl d (.fn 73) [.p w 0,.i n,.i (k:Int),.p N 0] h=some (.tup [.nils,.i 112],h')/\Old h h':=by
 have h1:=jbK Z (d:=d-1) om a.wf;have h2:=jiV Z (h:=h) (d:=d-1) (n:=n) om;rw[zG om]at h2;obtain⟨v,g,e,p1,p2,old⟩:=jg1 Z (d:=d-1) (k:=k) om hk a ol;have eb:(decide (((jav (wxs l) 96).take k).length=k)&&decide (l.length<1000))=false:=by
  rcases hb with hb|hb
  .rw[zE hb,Bool.false_and]
  .rw[zE (show ¬l.length<1000 by omega),Bool.and_false]
 rw[eb]at e;clear hb eb hk;refine jae (aT Z ?_);refine Ga ?_;exact⟨rfl,old⟩
theorem xp_make1{d N i0:Nat}{n:Int}{x:Wi}{r0 r1:Nat}{wv:V}(hd:6<=d)(a:WW h w s ow l now tb no)(jC:1<=n)(cI:n<=65536)(hf:(jav (wxs l) 96).take 1=[(i0:Int)])(hi:i0<96)(hl:l.length<1000)
  (hN:h.get N=some (x.obj r0 r1 wv)) (iI:ow N=0) (pJ:N<h.nx) :
  ∃v h2 h',cl d (.fn 73) [.p w 0,.i n,.i ((1:Nat):Int),.p N 0] h=some (.tup [v,.i 0],h')/\VI h' v [(i0:Int)]/\Old h h2/\Opened h2 h' w s N ow (fun j=>if j=i0 then some (l.length,0) else atS (wxs l) (j:Int)) l now no ((x.name 0 i0).obj r0 r1 wv):=by
 have h1:=jbK Z (d:=d-1) om a.wf;have h2:=jiV Z (h:=h) (d:=d-1) (n:=n) om;rw[zG om]at h2;obtain⟨v,g,e,p1,p2,old⟩:=jg1 Z (d:=d-1) (k:=1) om (.inl rfl) a om;rw[hf]at e p1;rw[zG (show [(i0:Int)].length=1 from rfl),zG hl]at e;have ag:=a.wf.old old;obtain⟨g2,e2,op⟩:=xp_open1 Z (d:=d-1) (N:=N) (i0:=i0) (vf:=v) (wv:=wv) (x:=x) (r0:=r0) (r1:=r1) om ag (by rw[old.2 N pJ,hN]) iI (zr pJ old.1) hl p1 (fun z hz=>⟨a.wf.top z (p2 z hz).1,by have:=p2 z hz;omega⟩) hi
 suffices q:∃v2 h',cl d (.fn 73) [.p w 0,.i n,.i ((1:Nat):Int),.p N 0] h=some (v2,h')/\(v2 = .tup [v,.i 0]/\h'=g2) by
  obtain⟨_,_,q,rfl,rfl⟩:=q;refine⟨v,g,_,q,p1.keep op.nx fun z hz=>?_,old,op⟩;have:=p2 z hz;have:=a.wf.lw;exact op.hk z om om om (by rw[a.wf.top z om];omega)
 clear hf;refine aT Z ?_;refine Ga ?_;exact⟨rfl,rfl⟩
theorem xp_make2{d N i0 i1:Nat}{n:Int}{x:Wi}{r0 r1:Nat}{wv:V}(hd:6<=d)(a:WW h w s ow l now tb no)(jC:1<=n)(cI:n<=65536)(hf:(jav (wxs l) 96).take 2=[(i0:Int),(i1:Int)])(hi:i0<96)(a8:i1<96)(hl:l.length<1000)
  (hN:h.get N=some (x.obj r0 r1 wv)) (iI:ow N=0) (pJ:N<h.nx) :
  ∃v h2 h',cl d (.fn 73) [.p w 0,.i n,.i ((2:Nat):Int),.p N 0] h=some (.tup [v,.i 0],h')/\VI h' v [(i0:Int),(i1:Int)]/\Old h h2/\Opened h2 h' w s N ow (fun j=>if j=i1 then some (l.length,1) else if j=i0 then some (l.length,0) else atS (wxs l) (j:Int)) l now no (((x.name 0 i0).name 1 i1).obj r0 r1 wv):=by
 have h1:=jbK Z (d:=d-1) om a.wf;have h2:=jiV Z (h:=h) (d:=d-1) (n:=n) om;rw[zG om]at h2;obtain⟨v,g,e,p1,p2,old⟩:=jg1 Z (d:=d-1) (k:=2) om (.inr rfl) a om;rw[hf]at e p1;rw[zG (show [(i0:Int),(i1:Int)].length=2 from rfl),zG hl]at e;have ag:=a.wf.old old;obtain⟨g2,e2,op⟩:=xp_open2 Z (d:=d-1) (N:=N) (i0:=i0) (i1:=i1) (vf:=v) (wv:=wv) (x:=x) (r0:=r0) (r1:=r1) om ag (by rw[old.2 N pJ,hN]) iI (zr pJ old.1) hl p1 (fun z hz=>⟨a.wf.top z (p2 z hz).1,by have:=p2 z hz;omega⟩) hi a8
 suffices q:∃v2 h',cl d (.fn 73) [.p w 0,.i n,.i ((2:Nat):Int),.p N 0] h=some (v2,h')/\(v2 = .tup [v,.i 0]/\h'=g2) by
  obtain⟨_,_,q,rfl,rfl⟩:=q;refine⟨v,g,_,q,p1.keep op.nx fun z hz=>?_,old,op⟩;have:=p2 z hz;have:=a.wf.lw;exact op.hk z om om om (by rw[a.wf.top z om];omega)
 clear hf;refine aT Z ?_;refine Ga ?_;exact⟨rfl,rfl⟩
end
theorem jlq{ws:Ws}{f0:Int}{fs:List Int}(h:jav ws 96=f0::fs):(∃i0:Nat,f0=i0/\i0<96)/\∀f1 r,fs=f1::r -> ∃i1:Nat,f1=i1/\i1<96/\f0≠f1:=by
 constructor
 .obtain⟨i,e,hi,_⟩:=jeI (ws:=ws) (n:=96) (f:=f0) (by rw[h];simp);exact⟨i,e,hi⟩
 .rintro f1 r rfl;obtain⟨i,e,hi,_⟩:=jeI (ws:=ws) (n:=96) (f:=f1) (by rw[h];simp);refine⟨i,e,hi,fun e2=>?_⟩;have nd:=ji0 ws 96;rw[h,e2]at nd;exact zJ nd Zd
section
variable{cl:Nat->Call}(Z:Sem cl){h:H}{w s:Nat}{ow:Nat->Nat}{l:List WX}{now:Int}{tb:Tb}{no:Option (Nat×Nat)}
include Z
theorem jpz{d m r0 r1:Nat}{kind n:Int}{x:Wi}{h1:H}(hd:6<=d)(hk:kind=0\/kind=1)(K:WsK (wxs l))(a:WW h w s ow l now tb no)(o1:Old h h1)
  (good:1<=n->n<=65536->h.nx+5<=h1.nx/\h1.get h.nx=some (x.obj (h.nx+2) (h.nx+4) .nils)/\x.waiting=[]/\(∀i0 i1:Nat,(x.name 0 i0).name 1 i1=newW kind n i0 i1)/\∀k,k=0\/k=1->ja3 h1 (two (h.nx+2) (h.nx+4) k) (two (h.nx+1) (h.nx+3) k) [] n.toNat) :
  ∃v h' ow',cl d (.fn 73) [.p w 0,.i n,.i ((2:Nat):Int),.p h.nx 0] h1=some (.tup [v,.i (jag (wxs l) kind n).1.2],h')/\VI h' v (jag (wxs l) kind n).1.1/\WSt h' w s ow' (jag (wxs l) kind n).2 now tb no/\To h h' ow ow':=by
 have a1:=a.old o1;have K':=jeh (kind:=kind) (n:=n) om K;by_cases hn:n<1\/65536<n
 .have e:jag (wxs l) kind n=(([],2),wxs l):=zD om;rw[e];exact⟨_,h1,ow,jhI Z om a1 hn,VI.nil h1,⟨l,a1,rfl⟩,ZA o1⟩
 have eS:jag (wxs l) kind n=_:=zC om;have sV:(wxs l).length=l.length:=by simp
 have ol:l.length<=1000:=by have:=K.ok.len;omega
 have many:((jav (wxs l) 96).take 2).length≠2\/1000<=l.length -> ∃h',cl d (.fn 73) [.p w 0,.i n,.i ((2:Nat):Int),.p h.nx 0] h1=some (.tup [.nils,.i 112],h')/\Old h1 h':=fun hb=>jhf Z hd (.inr rfl) a1 ol om om hb;cases hF:jav (wxs l) 96 with
 |nil=>
  simp only[hF]at eS;rw[eS];obtain⟨h',e,o2⟩:=many (.inl (by rw[hF];simp));exact⟨_,h',ow,e,VI.nil h',⟨l,a1.old o2,rfl⟩,ZA (o1.trans o2)⟩
 |cons f0 fs=>
  simp only[hF]at eS;by_cases bB:(fs=[]/\kind<2)\/1000<=(wxs l).length
  .rw[zD bB]at eS;rw[eS];obtain⟨h',e,o2⟩:=many (bB.imp (fun e=>by rw[hF,e.1];simp) fun e=>by omega);exact⟨_,h',ow,e,VI.nil h',⟨l,a1.old o2,rfl⟩,ZA (o1.trans o2)⟩
  .rw[zC bB]at eS;cases fs with
   |nil=>exact zJ (.inl ⟨rfl,by omega⟩) bB
   |cons f1 r=>
    obtain⟨⟨i0,rfl,l0⟩,q⟩:=jlq hF;obtain⟨i1,rfl,l1,d5⟩:=q f1 r rfl;have eS:jag (wxs l) kind n=(([(i0:Int),(i1:Int)],0),wxs l++[newW kind n i0 i1]):=by
     rw[eS,zD om];rfl
    rw[eS]at K';obtain⟨g1,g2,g3,g4,g5⟩:=good om om;have iI:=a.wf.top h.nx (zq _);obtain⟨v,h2,h',e,p1,o2,op⟩:=xp_make2 Z (N:=h.nx) (i0:=i0) (i1:=i1) hd a1 (n:=n) om om (by rw[hF];rfl) l0 l1 om g2 iI om;rw[g4]at op;have kC:(newW kind n i0 i1).e0.what=1/\(newW kind n i0 i1).e0.fd=i0/\(newW kind n i0 i1).e1.what=1/\(newW kind n i0 i1).e1.fd=i1/\(newW kind n i0 i1).waiting=[]/\(newW kind n i0 i1).cap=n.toNat/\(∀q,(newW kind n i0 i1).e0.ring=some q->q=[])/\∀q,(newW kind n i0 i1).e1.ring=some q->q=[]:=by
     rcases hk with rfl|rfl
     .exact⟨rfl,rfl,rfl,rfl,rfl,rfl,fun q hq=>by (have hq:some []=some q:=hq);cases hq;rfl,fun q hq=>by (have hq:none=some q:=hq);cases hq⟩
     .exact⟨rfl,rfl,rfl,rfl,rfl,rfl,fun q hq=>by (have hq:some []=some q:=hq);cases hq;rfl,fun q hq=>by (have hq:some []=some q:=hq);cases hq;rfl⟩
    obtain⟨z1,z2,z3,z4,z5,z6,z7,z8⟩:=kC;generalize newW kind n i0 i1=y at op eS z1 z2 z3 z4 z5 z6 z7 z8 K';obtain⟨ow',W,T⟩:=a.newWire (m:=5) (o1.trans o2) (.inr rfl) (zA g1 o2.1) (fun _=>⟨rfl,rfl⟩) op z5
     (fun j _=>by have:=tab_push2 (j:=j) K'.ok.uniq z1 z2 z3 z4 om;rw[sV]at this;exact this)
     (fun k w6 dH=>by
      rcases w6 with rfl|rfl
      .show 0<=y.e0.fd/\y.e0.fd<=95;omega
      .show 0<=y.e1.fd/\y.e1.fd<=95;omega)
     (fun k w6 q hq=>by
      refine⟨rfl,?_⟩;have R:=g5 k w6;have eq:q=[]:=by
       rcases w6 with rfl|rfl
       .exact z7 q hq
       .exact z8 q hq
      rw[eq,z6];refine R.keep (o2.2 _ ?_) (o2.2 _ ?_)<;>(rcases w6 with rfl|rfl<;>simp only[two]<;>omega))
    rw[eS];exact⟨v,h',ow',e,p1,W,T⟩
theorem jp0{d m r0 r1:Nat}{kind n:Int}{x:Wi}{h1:H}(hd:6<=d)(hk:kind=2\/kind=3)(eV:kind=3->n<=64)(K:WsK (wxs l))(a:WW h w s ow l now tb no)(o1:Old h h1)
  (good:1<=n->n<=65536->(m=1\/m=5)/\(m=5->r0=h.nx+2/\r1=h.nx+4)/\h.nx+m<=h1.nx/\h1.get h.nx=some (x.obj r0 r1 .nils)/\x.waiting=[]/\(∀i0:Nat,x.name 0 i0=newW kind n i0 0)/\(kind=2->m=5/\∀k,k=0\/k=1->ja3 h1 (two (h.nx+2) (h.nx+4) k) (two (h.nx+1) (h.nx+3) k) [] n.toNat)) :
  ∃v h' ow',cl d (.fn 73) [.p w 0,.i n,.i ((1:Nat):Int),.p h.nx 0] h1=some (.tup [v,.i (jag (wxs l) kind n).1.2],h')/\VI h' v (jag (wxs l) kind n).1.1/\WSt h' w s ow' (jag (wxs l) kind n).2 now tb no/\To h h' ow ow':=by
 have a1:=a.old o1;have K':=jeh (kind:=kind) (n:=n) om K;by_cases hn:n<1\/65536<n
 .have e:jag (wxs l) kind n=(([],2),wxs l):=zD om;rw[e];exact⟨_,h1,ow,jhI Z om a1 hn,VI.nil h1,⟨l,a1,rfl⟩,ZA o1⟩
 have eS:jag (wxs l) kind n=_:=zC om;have sV:(wxs l).length=l.length:=by simp
 have ol:l.length<=1000:=by have:=K.ok.len;omega
 have many:((jav (wxs l) 96).take 1).length≠1\/1000<=l.length -> ∃h',cl d (.fn 73) [.p w 0,.i n,.i ((1:Nat):Int),.p h.nx 0] h1=some (.tup [.nils,.i 112],h')/\Old h1 h':=fun hb=>jhf Z hd (.inl rfl) a1 ol om om hb;cases hF:jav (wxs l) 96 with
 |nil=>
  simp only[hF]at eS;rw[eS];obtain⟨h',e,o2⟩:=many (.inl (by rw[hF];simp));exact⟨_,h',ow,e,VI.nil h',⟨l,a1.old o2,rfl⟩,ZA (o1.trans o2)⟩
 |cons f0 fs=>
  simp only[hF]at eS;by_cases bB:(fs=[]/\kind<2)\/1000<=(wxs l).length
  .rw[zD bB]at eS;rw[eS];obtain⟨h',e,o2⟩:=many (bB.imp (fun e=>by omega) fun e=>by omega);exact⟨_,h',ow,e,VI.nil h',⟨l,a1.old o2,rfl⟩,ZA (o1.trans o2)⟩
  .rw[zC bB]at eS;obtain⟨⟨i0,rfl,l0⟩,_⟩:=jlq hF;have eW:∀c:Int,newW kind n i0 c=newW kind n i0 0:=by
    intro c;rcases hk with rfl|rfl<;>rfl
   have eS:jag (wxs l) kind n=(([(i0:Int)],0),wxs l++[newW kind n i0 0]):=by
    rw[eS,zC om,eW];rfl
   rw[eS]at K';obtain⟨g0,dZ,g1,g2,g3,g4,g5⟩:=good om om;have iI:=a.wf.top h.nx (zq _);obtain⟨v,h2,h',e,p1,o2,op⟩:=xp_make1 Z (N:=h.nx) (i0:=i0) hd a1 (n:=n) om om (by rw[hF];rfl) l0 om g2 iI om;rw[g4]at op;have kC:(newW kind n i0 0).e0.what=1/\(newW kind n i0 0).e0.fd=i0/\(newW kind n i0 0).e1.what≠1/\(newW kind n i0 0).waiting=[]/\(newW kind n i0 0).cap=n.toNat/\(∀q,(newW kind n i0 0).e0.ring=some q->q=[]/\kind=2)/\∀q,(newW kind n i0 0).e1.ring=some q->q=[]/\kind=2:=by
    rcases hk with rfl|rfl
    .exact⟨rfl,rfl,by show (2:Int)≠1;omega,rfl,rfl,fun q hq=>by (have hq:some []=some q:=hq);cases hq;exact⟨rfl,rfl⟩,fun q hq=>by (have hq:some []=some q:=hq);cases hq;exact⟨rfl,rfl⟩⟩
    .exact⟨rfl,rfl,by show (0:Int)≠1;omega,rfl,rfl,fun q hq=>(by have hq:none=some q:=hq;cases hq),fun q hq=>(by have hq:none=some q:=hq;cases hq)⟩
   obtain⟨z1,z2,z3,z5,z6,z7,z8⟩:=kC;generalize newW kind n i0 0=y at op eS z1 z2 z3 z5 z6 z7 z8 K';obtain⟨ow',W,T⟩:=a.newWire (m:=m) (o1.trans o2) g0 (zA g1 o2.1) dZ op z5
    (fun j _=>by have:=tab_push1 (j:=j) K'.ok.uniq z1 z2 z3;rw[sV]at this;exact this)
    (fun k w6 dH=>by
     rcases w6 with rfl|rfl
     .show 0<=y.e0.fd/\y.e0.fd<=95;omega
     .exact zJ dH z3)
    (fun k w6 q hq=>by
     have eq:q=[]/\kind=2:=by
      rcases w6 with rfl|rfl
      .exact z7 q hq
      .exact z8 q hq
     obtain⟨m5,R⟩:=g5 eq.2;obtain⟨e0,e1⟩:=dZ m5;refine⟨m5,?_⟩;rw[eq.1,z6,e0,e1];refine (R k w6).keep (o2.2 _ ?_) (o2.2 _ ?_)<;>(rcases w6 with rfl|rfl<;>simp only[two]<;>omega))
   rw[eS];exact⟨v,h',ow',e,p1,W,T⟩
end
theorem jjq{ws:Ws}{kind n:Int}(hk:kind<2):((jag ws kind n).1.2=0/\∃a b,(jag ws kind n).1.1=[a,b])\/((jag ws kind n).1.2≠0/\(jag ws kind n).1.1=[]):=by
 unfold jag;split
 .exact .inr ⟨by show (2:Int)≠0;omega,rfl⟩
 split
 .exact .inr ⟨by show (112:Int)≠0;omega,rfl⟩
 next f0 fs hF=>
 split
 .exact .inr ⟨by show (112:Int)≠0;omega,rfl⟩
 next hb=>
 cases fs with
 |nil=>exact zJ (.inl ⟨rfl,hk⟩) hb
 |cons f1 r=>exact .inl ⟨rfl,f0,f1,rfl⟩
theorem jfe{ws:Ws}{kind n:Int}(hk:¬kind<2):((jag ws kind n).1.2=0/\(∃a,(jag ws kind n).1.1=[a])/\(jag ws kind n).2.length=ws.length+1)\/((jag ws kind n).1.2≠0/\(jag ws kind n).1.1=[]):=by
 unfold jag;split
 .exact .inr ⟨by show (2:Int)≠0;omega,rfl⟩
 split
 .exact .inr ⟨by show (112:Int)≠0;omega,rfl⟩
 next f0 fs hF=>
 split
 .exact .inr ⟨by show (112:Int)≠0;omega,rfl⟩
 .exact .inl ⟨rfl,⟨f0,rfl⟩,by simp⟩
theorem WSt.len{h:H}{w s:Nat}{ow:Nat->Nat}{ws:Ws}{now:Int}{tb:Tb}{no:Option (Nat×Nat)}(a:WSt h w s ow ws now tb no):∃f av cp,h.get w=some (.cells (wc f (.slice av ws.length cp) s now no) false):=by
 obtain⟨l,a,rfl⟩:=a;obtain⟨av,cp,hw,_⟩:=a.wf.head;exact⟨fun i=>atS (wxs l) (i:Int),av,cp,by rw[hw,List.length_map]⟩
section
variable{cl:Nat->Call}(Z:Sem cl){h:H}{w s:Nat}{ow:Nat->Nat}{ws:Ws}{now:Int}{tb:Tb}{no:Option (Nat×Nat)}
include Z
theorem jhJ{d:Nat}{n:Int}(hd:2<=d) :
  ∃h1 q0 q1 r0 r1 c,cl d (.fn 72) [.i n] h=some (.p h.nx 0,h1)/\Old h h1/\h.nx<h1.nx/\h1.get h.nx=some ((⟨⟨0,0,q0,true,false,0,0⟩,⟨0,0,q1,true,false,0,0⟩,c,false,0,[]⟩:Wi).obj r0 r1 .nils) /\
   (1<=n->n<=65536->h1.nx=h.nx+5/\q0=some []/\q1=some []/\r0=h.nx+2/\r1=h.nx+4/\c=n.toNat/\∀k,k=0\/k=1->ja3 h1 (two (h.nx+2) (h.nx+4) k) (two (h.nx+1) (h.nx+3) k) [] n.toNat):=by
 by_cases hn:n<0\/65536<n
 .obtain⟨h1,e,x1,o1,g0⟩:=jl9 Z (h:=h) hd hn;exact⟨h1,_,_,_,_,_,e,o1,by omega,g0,fun _ _=>by omega⟩
 .obtain⟨m,rfl⟩:=zz (show 0<=n by omega);obtain⟨h1,e,x1,o1,g0,g2,g1,g4,g3⟩:=jok Z (h:=h) (n:=m) hd om;refine⟨h1,_,_,_,_,_,e,o1,by omega,g0,fun p1 p2=>⟨x1,rfl,rfl,rfl,rfl,rfl,fun k hk=>?_⟩⟩;rcases hk with rfl|rfl
  .exact jeX om om g2 g1
  .exact jeX om om g4 g3
theorem ww_Pair{d:Nat}{n:Int}(hd:7<=d)(K:WsK ws)(a:WSt h w s ow ws now tb no) :
  ∃x y h' ow',cl d (.fn 28) [.p w 0,.i n] h=some (.tup [.i x,.i y,.i (jag ws 1 n).1.2],h')/\((jag ws 1 n).1.2=0->(jag ws 1 n).1.1=[x,y])/\((jag ws 1 n).1.2≠0->x=0/\y=0)/\WSt h' w s ow' (jag ws 1 n).2 now tb no/\To h h' ow ow':=by
 obtain⟨l,a,rfl⟩:=a;obtain⟨h1,q0,q1,r0,r1,c,e1,o1,x1,g0,good⟩:=jhJ Z (h:=h) (d:=d-1) (n:=n) om;obtain⟨v,h',ow',e2,p1,W,T⟩:=jpz Z (d:=d-1) (kind:=1) (n:=n) (m:=0) (r0:=0) (r1:=0) om (.inr rfl) K a o1 fun n1 n2=>by
  obtain⟨y1,rfl,rfl,rfl,rfl,rfl,R⟩:=good n1 n2;exact⟨by omega,g0,rfl,fun _ _=>rfl,R⟩
 have e2:cl (d-1) (.fn 73) [.p w 0,.i n,.i 2,.p h.nx 0] h1=_:=e2;clear good
 suffices q:∃v h',cl d (.fn 28) [.p w 0,.i n] h=some (v,h')/\∃x y,v = .tup [.i x,.i y,.i (jag (wxs l) 1 n).1.2]/\((jag (wxs l) 1 n).1.2=0->(jag (wxs l) 1 n).1.1=[x,y])/\((jag (wxs l) 1 n).1.2≠0->x=0/\y=0)/\WSt h' w s ow' (jag (wxs l) 1 n).2 now tb no/\To h h' ow ow' by
  obtain⟨_,h',e,x,y,rfl,q⟩:=q;exact⟨x,y,h',ow',e,q⟩
 rcases jjq (ws:=wxs l) (n:=n) (kind:=1) om with⟨m1,x,y,m2⟩|⟨m1,m2⟩
 .rw[m2]at p1;obtain⟨af,cf,rfl,_⟩:=id p1;obtain⟨b,of,cs,ro,rfl,lA,aD⟩:=VI.cell (l:=[x,y]) p1 (i:=0) (x:=x) rfl;obtain⟨_,_,_,_,e0,ecs,xD⟩:=VI.cell (l:=[x,y]) p1 (i:=1) (x:=y) rfl;cases e0;rw[lA]at ecs;cases ecs;have xD:cs[of+(1:Int).toNat*1]?=some (.i y):=xD;have aD:cs[of+(0:Int).toNat*1]?=some (.i x):=aD;generalize jag (wxs l) 1 n=M at m1 m2 e2 W ⊢;obtain⟨⟨M1,M2⟩,M3⟩:=M;simp only at m1 m2 e2 W ⊢;subst m1 m2;refine aT Z ?_;refine Ga ?_;exact⟨x,y,rfl,fun _=>rfl,fun h=>zJ rfl h,W,T⟩
 .rw[m2]at p1;generalize jag (wxs l) 1 n=M at m1 m2 e2 W ⊢;obtain⟨⟨M1,M2⟩,M3⟩:=M;simp only at m1 m2 e2 W ⊢;refine aT Z ?_;refine Ga ?_;exact⟨0,0,rfl,fun h=>zJ h m1,fun _=>⟨rfl,rfl⟩,W,T⟩
theorem ww_Pipe{d:Nat}{n:Int}(hd:7<=d)(K:WsK ws)(a:WSt h w s ow ws now tb no) :
  ∃x y h' ow',cl d (.fn 27) [.p w 0,.i n] h=some (.tup [.i x,.i y,.i (jag ws 0 n).1.2],h')/\((jag ws 0 n).1.2=0->(jag ws 0 n).1.1=[x,y])/\((jag ws 0 n).1.2≠0->x=0/\y=0)/\WSt h' w s ow' (jag ws 0 n).2 now tb no/\To h h' ow ow':=by
 obtain⟨l,a,rfl⟩:=a;obtain⟨h1,q0,q1,r0,r1,c,e1,o1,x1,g0,good⟩:=jhJ Z (h:=h) (d:=d-1) (n:=n) om;simp only[Wi.obj,Wi.cells,En.cells,List.cons_append,List.nil_append]at g0;have key:∀G:H,G=(h1.set h.nx (.cells [.i 0,.i 0,En.ptr q0 r0,.bool false,.bool false,.int .u64 0,.int .u64 0,.i 0,.i 0,En.ptr q1 r1,.bool true,.bool false,.int .u64 0,.int .u64 0,.bool false,.i 0,.nils] false)).set h.nx (.cells [.i 0,.i 0,En.ptr q0 r0,.bool false,.bool false,.int .u64 0,.int .u64 0,.i 0,.i 0,.ptr none,.bool true,.bool false,.int .u64 0,.int .u64 0,.bool false,.i 0,.nils] false) ->
   ∃v h' ow',cl (d-1) (.fn 73) [.p w 0,.i n,.i 2,.p h.nx 0] G=some (.tup [v,.i (jag (wxs l) 0 n).1.2],h')/\VI h' v (jag (wxs l) 0 n).1.1/\WSt h' w s ow' (jag (wxs l) 0 n).2 now tb no/\To h h' ow ow':=by
  intro G hG;have oG:Old h G:=by rw[hG];exact (o1.set (zq _)).set (zq _)
  refine jpz Z (d:=d-1) (kind:=0) (n:=n) (m:=0) (r0:=0) (r1:=0) (x:=⟨⟨0,0,some [],false,false,0,0⟩,⟨0,0,none,true,false,0,0⟩,n.toNat,false,0,[]⟩) om (.inl rfl) K a oG fun n1 n2=>?_;obtain⟨y1,rfl,rfl,rfl,rfl,rfl,R⟩:=good n1 n2;refine⟨by rw[hG];exact Nat.le_of_eq y1.symm,by rw[hG];exact jab _,rfl,fun _ _=>rfl,fun k hk=>?_⟩;refine (R k hk).keep ?_ ?_<;>(rw[hG,jaa,jaa]<;>(rcases hk with rfl|rfl<;>simp only[two]<;>omega))
 suffices q:∃v h',cl d (.fn 27) [.p w 0,.i n] h=some (v,h')/\∃x y ow',v = .tup [.i x,.i y,.i (jag (wxs l) 0 n).1.2]/\((jag (wxs l) 0 n).1.2=0->(jag (wxs l) 0 n).1.1=[x,y])/\((jag (wxs l) 0 n).1.2≠0->x=0/\y=0)/\WSt h' w s ow' (jag (wxs l) 0 n).2 now tb no/\To h h' ow ow' by
  obtain⟨_,h',e,x,y,ow',rfl,q⟩:=q;exact⟨x,y,h',ow',e,q⟩
 clear good;refine aT Z ?_;refine Gb ?_;refine Ops.opqh fun G hG=>?_;obtain⟨v,h',ow',e2,p1,W,T⟩:=key G hG;clear hG key;rcases jjq (ws:=wxs l) (n:=n) (kind:=0) om with⟨m1,x,y,m2⟩|⟨m1,m2⟩
 .rw[m2]at p1;obtain⟨af,cf,rfl,_⟩:=id p1;obtain⟨b,of,cs,ro,rfl,lA,aD⟩:=VI.cell (l:=[x,y]) p1 (i:=0) (x:=x) rfl;obtain⟨_,_,_,_,e0,ecs,xD⟩:=VI.cell (l:=[x,y]) p1 (i:=1) (x:=y) rfl;cases e0;rw[lA]at ecs;cases ecs;have xD:cs[of+(1:Int).toNat*1]?=some (.i y):=xD;have aD:cs[of+(0:Int).toNat*1]?=some (.i x):=aD;generalize jag (wxs l) 0 n=M at m1 m2 e2 W ⊢;obtain⟨⟨M1,M2⟩,M3⟩:=M;simp only at m1 m2 e2 W ⊢;subst m1 m2;refine Ga ?_;exact⟨x,y,ow',rfl,fun _=>rfl,fun h=>zJ rfl h,W,T⟩
 .rw[m2]at p1;generalize jag (wxs l) 0 n=M at m1 m2 e2 W ⊢;obtain⟨⟨M1,M2⟩,M3⟩:=M;simp only at m1 m2 e2 W ⊢;refine Ga ?_;exact⟨0,0,ow',rfl,fun h=>zJ h m1,fun _=>⟨rfl,rfl⟩,W,T⟩
theorem ww_Outer{d:Nat}{n:Int}(hd:7<=d)(K:WsK ws)(a:WSt h w s ow ws now tb no) :
  ∃x y h' ow',cl d (.fn 29) [.p w 0,.i n] h=some (.tup [.i x,.i y,.i (jag ws 2 n).1.2],h')/\((jag ws 2 n).1.2=0->(jag ws 2 n).1.1=[x]/\y=ws.length)/\((jag ws 2 n).1.2≠0->x=0/\y=0)/\WSt h' w s ow' (jag ws 2 n).2 now tb no/\To h h' ow ow':=by
 obtain⟨l,a,rfl⟩:=a;obtain⟨h1,q0,q1,r0,r1,c,e1,o1,x1,g0,good⟩:=jhJ Z (h:=h) (d:=d-1) (n:=n) om;simp only[Wi.obj,Wi.cells,En.cells,List.cons_append,List.nil_append]at g0;have key:∀G:H,G=h1.set h.nx (.cells [.i 0,.i 0,En.ptr q0 r0,.bool true,.bool false,.int .u64 0,.int .u64 0,.i 2,.i 0,En.ptr q1 r1,.bool true,.bool false,.int .u64 0,.int .u64 0,.bool false,.i 0,.nils] false) ->
   ∃v h' ow',cl (d-1) (.fn 73) [.p w 0,.i n,.i 1,.p h.nx 0] G=some (.tup [v,.i (jag (wxs l) 2 n).1.2],h')/\VI h' v (jag (wxs l) 2 n).1.1/\WSt h' w s ow' (jag (wxs l) 2 n).2 now tb no/\To h h' ow ow':=by
  intro G hG;have oG:Old h G:=by rw[hG];exact o1.set (zq _)
  refine jp0 Z (d:=d-1) (kind:=2) (n:=n) (m:=5) (r0:=h.nx+2) (r1:=h.nx+4) (x:=⟨⟨0,0,some [],true,false,0,0⟩,⟨2,0,some [],true,false,0,0⟩,n.toNat,false,0,[]⟩) om (.inl rfl) (fun e=>by omega) K a oG fun n1 n2=>?_;obtain⟨y1,rfl,rfl,rfl,rfl,rfl,R⟩:=good n1 n2;refine⟨.inr rfl,fun _=>⟨rfl,rfl⟩,by rw[hG];exact Nat.le_of_eq y1.symm,by rw[hG];exact jab _,rfl,fun _=>rfl,fun _=>⟨rfl,fun k hk=>?_⟩⟩;refine (R k hk).keep ?_ ?_<;>(rw[hG,jaa]<;>(rcases hk with rfl|rfl<;>simp only[two]<;>omega))
 suffices q:∃v h',cl d (.fn 29) [.p w 0,.i n] h=some (v,h')/\∃x y ow',v = .tup [.i x,.i y,.i (jag (wxs l) 2 n).1.2]/\((jag (wxs l) 2 n).1.2=0->(jag (wxs l) 2 n).1.1=[x]/\y=(wxs l).length)/\((jag (wxs l) 2 n).1.2≠0->x=0/\y=0)/\WSt h' w s ow' (jag (wxs l) 2 n).2 now tb no/\To h h' ow ow' by
  obtain⟨_,h',e,x,y,ow',rfl,q⟩:=q;exact⟨x,y,h',ow',e,q⟩
 clear good;refine aT Z ?_;refine Gb ?_;refine Ops.opqh fun G hG=>?_;obtain⟨v,h',ow',e2,p1,W,T⟩:=key G hG;clear hG key;rcases jfe (ws:=wxs l) (n:=n) (kind:=2) om with⟨m1,⟨x,m2⟩,m3⟩|⟨m1,m2⟩
 .rw[m2]at p1;obtain⟨af,cf,rfl,_⟩:=id p1;obtain⟨b,of,cs,ro,rfl,lA,aD⟩:=VI.cell (l:=[x]) p1 (i:=0) (x:=x) rfl;have aD:cs[of+(0:Int).toNat*1]?=some (.i x):=aD;obtain⟨f2,aQ,qJ,qA⟩:=W.len;rw[m3,List.length_map]at qA;have c1:(wc f2 (.slice aQ (l.length+1) qJ) s now no)[0+288]?=some (.slice aQ (l.length+1) qJ):=jaR rfl;have em:((l.length+1:Nat):Int)-1=(l.length:Int):=by omega
  have ol:=K.ok.len;rw[List.length_map]at ol;generalize jag (wxs l) 2 n=M at m1 m2 e2 W ⊢;obtain⟨⟨M1,M2⟩,M3⟩:=M;simp only at m1 m2 e2 W ⊢;subst m1 m2;refine Ga ?_;exact⟨x,l.length,ow',by rw[em],fun _=>⟨rfl,by simp⟩,fun h=>zJ rfl h,W,T⟩
 .rw[m2]at p1;generalize jag (wxs l) 2 n=M at m1 m2 e2 W ⊢;obtain⟨⟨M1,M2⟩,M3⟩:=M;simp only at m1 m2 e2 W ⊢;refine Ga ?_;exact⟨0,0,ow',rfl,fun h=>zJ h m1,fun _=>⟨rfl,rfl⟩,W,T⟩
theorem ww_Listen{d:Nat}{n:Int}(hd:7<=d)(K:WsK ws)(a:WSt h w s ow ws now tb no) :
  ∃x y h' ow',cl d (.fn 30) [.p w 0,.i n] h=some (.tup [.i x,.i y,.i (jag ws 3 n).1.2],h')/\((jag ws 3 n).1.2=0->(jag ws 3 n).1.1=[x]/\y=ws.length)/\((jag ws 3 n).1.2≠0->x=0/\y=0)/\WSt h' w s ow' (jag ws 3 n).2 now tb no/\To h h' ow ow':=by
 obtain⟨l,a,rfl⟩:=a;have kN:=jbK Z (d:=d-1) om a.wf
 suffices q:∃v h',cl d (.fn 30) [.p w 0,.i n] h=some (v,h')/\∃x y ow',v = .tup [.i x,.i y,.i (jag (wxs l) 3 n).1.2]/\((jag (wxs l) 3 n).1.2=0->(jag (wxs l) 3 n).1.1=[x]/\y=(wxs l).length)/\((jag (wxs l) 3 n).1.2≠0->x=0/\y=0)/\WSt h' w s ow' (jag (wxs l) 3 n).2 now tb no/\To h h' ow ow' by
  obtain⟨_,h',e,x,y,ow',rfl,q⟩:=q;exact⟨x,y,h',ow',e,q⟩
 refine aT Z ?_;by_cases hn:64<n
 .have eS:jag (wxs l) 3 n=(([],2),wxs l):=zD (.inr (.inr ⟨rfl,hn⟩));rw[eS];refine Ga ?_;exact⟨0,0,ow,rfl,fun h=>by (have h:(2:Int)=0:=h);omega,fun _=>⟨rfl,rfl⟩,⟨l,a,rfl⟩,To.refl _ _⟩
 have key:∀G:H,G=h.new (.cells [.i 0,.i 0,.ptr none,.bool false,.bool false,.int .u64 0,.int .u64 0,.i 0,.i 0,.ptr none,.bool false,.bool false,.int .u64 0,.int .u64 0,.bool false,.i n,.nils] false) ->
   ∃v h' ow',cl (d-1) (.fn 73) [.p w 0,.i n,.i 1,.p h.nx 0] G=some (.tup [v,.i (jag (wxs l) 3 n).1.2],h')/\VI h' v (jag (wxs l) 3 n).1.1/\WSt h' w s ow' (jag (wxs l) 3 n).2 now tb no/\To h h' ow ow':=by
  intro G hG;have oG:Old h G:=by rw[hG];exact (Zz h).new
  exact jp0 Z (d:=d-1) (kind:=3) (n:=n) (m:=1) (r0:=0) (r1:=0) (x:=⟨⟨0,0,none,false,false,0,0⟩,⟨0,0,none,false,false,0,0⟩,n.toNat,false,n,[]⟩) om (.inr rfl) (fun _=>by omega) K a oG fun n1 n2=>
   ⟨.inl rfl,fun e=>by omega,by rw[hG];exact zq _,by rw[hG];exact jac _,rfl,fun _=>rfl,fun e=>by omega⟩
 refine qm ?_;refine Ops.opqh fun G hG=>?_;obtain⟨v,h',ow',e2,p1,W,T⟩:=key G hG;clear hG key;rcases jfe (ws:=wxs l) (n:=n) (kind:=3) om with⟨m1,⟨x,m2⟩,m3⟩|⟨m1,m2⟩
 .rw[m2]at p1;obtain⟨af,cf,rfl,_⟩:=id p1;obtain⟨b,of,cs,ro,rfl,lA,aD⟩:=VI.cell (l:=[x]) p1 (i:=0) (x:=x) rfl;have aD:cs[of+(0:Int).toNat*1]?=some (.i x):=aD;obtain⟨f2,aQ,qJ,qA⟩:=W.len;rw[m3,List.length_map]at qA;have c1:(wc f2 (.slice aQ (l.length+1) qJ) s now no)[0+288]?=some (.slice aQ (l.length+1) qJ):=jaR rfl;have em:((l.length+1:Nat):Int)-1=(l.length:Int):=by omega
  have ol:=K.ok.len;rw[List.length_map]at ol;generalize jag (wxs l) 3 n=M at m1 m2 e2 W ⊢;obtain⟨⟨M1,M2⟩,M3⟩:=M;simp only at m1 m2 e2 W ⊢;subst m1 m2;refine Ga ?_;exact⟨x,l.length,ow',by rw[em],fun _=>⟨rfl,by simp⟩,fun h=>zJ rfl h,W,T⟩
 .rw[m2]at p1;generalize jag (wxs l) 3 n=M at m1 m2 e2 W ⊢;obtain⟨⟨M1,M2⟩,M3⟩:=M;simp only at m1 m2 e2 W ⊢;refine Ga ?_;exact⟨0,0,ow',rfl,fun h=>zJ h m1,fun _=>⟨rfl,rfl⟩,W,T⟩
end
section
variable{h:H}{w s:Nat}{ow:Nat->Nat}{f:Nat->Option (Nat×Nat)}{l:List WX}{now:Int}{tb:Tb}{no:Option (Nat×Nat)}{n m:Nat}{t:WX}
def WX.setw(t:WX)(v:V)(wt:List Int):WX:= {t with x:= {t.x with waiting:=wt},wv:=v}
theorem WF.setWait(a:WF h w s ow f l now tb no)(ht:l[n]?=some t){v:V}{wt:List Int}(hv:VI h v wt)(hz:wt≠[] -> ∀z,v.at?=some z->ow z=10*n+15/\z<h.nx):WF (h.set t.wb ((t.setw v wt).x.obj t.r0 t.r1 v)) w s ow f (l.set n (t.setw v wt)) now tb no:=by
 have X:=a.ok n t ht;have o0:=X.ox;have d5:∀j,ow j≠10*n+10->j≠t.wb:=fun j hj e=>hj (by rw[e,o0]);refine a.turn ht (zq _) (fun j _ hn=>jaa (d5 j fun e=>hn om)) ⟨jab _,X.ox,X.lx,fun i hi q hq=>?_,hv.keep2 (zq _) fun hl z e=>jaa (d5 z (by have:=(hz hl z e).1;omega)),hz⟩ rfl;have hq:(t.x.e i).ring=some q:=by rcases hi with rfl|rfl<;>exact hq
 obtain⟨p1,p2,p3,p4,p5⟩:=X.ring i hi q hq;exact⟨p1.keep (jaa (d5 _ om)) (jaa (d5 _ om)),p2,p3,p4,p5⟩
theorem WF.seat(a:WF h w s ow f l now tb no)(ht:l[m]?=some t){i:Nat}:WF (h.set t.wb ((t.x.name 0 i).obj t.r0 t.r1 t.wv)) w s ow f (l.set m {t with x:=t.x.name 0 i}) now tb no:=
 a.upd ht Zt rfl rfl fun k hk=>by rcases hk with rfl|rfl<;>rfl
end
theorem Wi.cells_name{x:Wi}{r0 r1 i:Nat}{v:V}:((x.cells r0 r1 v).set 0 (.i 1)).set 1 (.i (i:Int))=(x.name 0 i).cells r0 r1 v:=by
 obtain⟨⟨a0,b0,c0,d0,e0,f0,g0⟩,⟨a1,b1,lH,d1,e1,f1,g1⟩,cap,rs,bl,wt⟩:=x;rfl
theorem Wi.cells_wait{x:Wi}{r0 r1:Nat}{v v':V}{wt:List Int}:(x.cells r0 r1 v).set 16 v'=({x with waiting:=wt}:Wi).cells r0 r1 v':=by
 obtain⟨⟨a0,b0,c0,d0,e0,f0,g0⟩,⟨a1,b1,lH,d1,e1,f1,g1⟩,cap,rs,bl,wt⟩:=x;rfl
theorem tab_seat{ws:Ws}{n m i j:Nat}{x y:Wi}{rest:List Int}(hx:ws[n]?=some x)(hy:(ws.set n {x with waiting:=rest})[m]?=some y)(h0:y.e0.what=0)(u:Uniq ((ws.set n {x with waiting:=rest}).set m (y.name 0 i))) :
  (if j=i then some (m,0) else atS ws (j:Int))=atS ((ws.set n {x with waiting:=rest}).set m (y.name 0 i)) (j:Int):=by
 by_cases e:j=i
 .subst e;rw[zD rfl,jdA (fd:=(j:Int)) u (n:=m) (k:=0) ⟨y.name 0 j,by rw[zi,zD rfl,zD (w_lt hy)],.inl rfl,rfl,rfl⟩]
 .rw[zC e];refine jfi fun a k=>⟨fun h=>?_,fun h=>?_⟩
  .obtain⟨z,hz,hk,h1,h2⟩:=(jhG (wt:=rest) hx).2 h;by_cases em:m=a
   .subst em;rw[hy]at hz;cases hz;rcases hk with rfl|rfl
    .have h1:y.e0.what=1:=h1;omega
    .exact⟨y.name 0 i,by rw[zi,zD rfl,zD (w_lt hy)],.inr rfl,h1,h2⟩
   .exact⟨z,by rw[zi,zC em,hz],hk,h1,h2⟩
  .rcases jgz hy h with⟨_,_,h3⟩|⟨h2,_⟩
   .omega
   .exact (jhG hx).1 h2
theorem jeL{call:Call}{fuel s1 s2 s3 b1 b2 b3:Nat}{e:Env}{h:H}{R:V->H->Prop}{v1 v2 v3:V}(h1:e.get s1=some (.ptr (some (b1,0))))(h2:e.get s2=some (.ptr (some (b2,0))))(h3:e.get s3=some (.ptr (some (b3,0))))
  (l1:h.get b1=some (.cells [v1] false)) (l2:h.get b2=some (.cells [v2] false)) (l3:h.get b3=some (.cells [v3] false)) (k:R (.tup [v1,v2,v3]) h):End call fuel [] .ret e h (Fin [.cell1 s1,.cell1 s2,.cell1 s3] R):=by
 refine End.fin2 (a:=v1) (b:=v2) (l:=[v3]) ?_ k;simp only[jdG,h1,h2,h3,jgq (o:=0) (v:=v1) l1 rfl,jgq (o:=0) (v:=v2) l2 rfl,jgq (o:=0) (v:=v3) l3 rfl]
section
variable{cl:Nat->Call}(Z:Sem cl){h:H}{w s:Nat}{ow:Nat->Nat}{ws:Ws}{now:Int}{tb:Tb}{no:Option (Nat×Nat)}
include Z
theorem ww_Accept{d:Nat}{fd:Int}(hd:5<=d)(K:WsK ws)(a:WSt h w s ow ws now tb no) :
  ∃h',cl d (.fn 33) [.p w 0,.i fd] h=some (.tup [.i (jay ws fd).1.1,.i (jay ws fd).1.2.1,.i (jay ws fd).1.2.2],h')/\WSt h' w s ow (jay ws fd).2 now tb no/\To h h' ow ow:=by
 obtain⟨l,a,rfl⟩:=a;have K':=jjx (fd:=fd) K;have lw:=a.wf.lw
 suffices q:∃v h',cl d (.fn 33) [.p w 0,.i fd] h=some (v,h')/\v = .tup [.i (jay (wxs l) fd).1.1,.i (jay (wxs l) fd).1.2.1,.i (jay (wxs l) fd).1.2.2]/\WSt h' w s ow (jay (wxs l) fd).2 now tb no/\To h h' ow ow by
  obtain⟨_,h',e,rfl,q⟩:=q;exact⟨h',e,q⟩
 refine aT Z ?_;refine qm ?_;refine Ops.opqh fun G hG=>?_;simp only[H.nx_new];have xG:G.nx=h.nx+4:=by rw[hG];rfl
 have oG:Old h G:=by
  rw[hG]
  repeat (first|exact Zz _|refine Old.new ?_|refine Old.set ?_ (zq _))
 have g0:G.get h.nx=some (.cells [.p w 0] false):=by rw[hG];exact qgt
 have g1:G.get (h.nx+1)=some (.cells [.i 0] false):=by rw[hG];exact qgt
 have g2:G.get (h.nx+1+1)=some (.cells [.i 0] false):=by rw[hG];exact qgt
 have g3:G.get (h.nx+1+1+1)=some (.cells [.i 0] false):=by rw[hG];exact qgt
 clear hG;rcases jdC Z (d:=d-1) (fd:=fd) om (a.old oG) K.ok.uniq with⟨j5,G2,ef,oF,xF⟩|⟨n,k,m,t,rfl,hm,d7,ht,hk,G2,ef,oF,xF⟩
 .have hS:jay (wxs l) fd=((0,0,110),wxs l):=jaD j5;rw[hS];have eM:=(oF.2 _ om).trans g0;have bQ:=(oF.2 _ om).trans g1;have eZ:=(oF.2 _ om).trans g2;have lS:=(oF.2 _ om).trans g3;refine qm ?_;simp only[H.nx_new];refine qm ?_;refine Ops.opqh fun G3 hG3=>?_;have o3:Old h G3:=by
   rw[hG3]
   repeat (first|exact oG.trans oF|refine Old.new ?_|refine Old.set ?_ om)
  have q4:G3.get (h.nx+1)=some (.cells [.i 0] false):=by rw[hG3];exact qgt
  have q5:G3.get (h.nx+1+1)=some (.cells [.i 0] false):=by rw[hG3];exact qgt
  have q6:G3.get (h.nx+1+1+1)=some (.cells [.i 110] false):=by rw[hG3];exact qgt
  clear hG3;refine Ops.store1_chk rfl rfl rfl q4 zM (jau rfl (by rw[jaa om,q6]) rfl rfl ja9) ?_;refine Ops.store1_chk (l:=[.i 0]) rfl rfl rfl (by rw[jaa om,q5]) zM (jau rfl (by rw[jaa om,jaa om,q6]) rfl rfl ja9) ?_;refine qm ?_;refine jeL (v1:= .i 0) (v2:= .i 0) (v3:= .i 110) rfl rfl rfl qgt qgt qgt ⟨rfl,?_⟩;have o4:Old h (((G3.set (h.nx+1) (.cells ([V.i 0].set 0 (.i 0)) false)).set (h.nx+1+1) (.cells ([V.i 0].set 0 (.i 0)) false)).set (h.nx+1+1+1) (.cells ([V.i 110].set 0 (.i 110)) false)):=((o3.set om).set om).set om;exact⟨⟨l,a.old o4,rfl⟩,ZA o4⟩
 have hx:=jak ht;have hS:jay (wxs l) m=_:=jaA K.ok.uniq d7 hx;have X:=a.wf.ok n t ht;have lG:=X.lx;have eM:=(oF.2 _ om).trans g0;have bQ:=(oF.2 _ om).trans g1;have eZ:=(oF.2 _ om).trans g2;have lS:=(oF.2 _ om).trans g3;have gt:G2.get t.wb=some (.cells (t.x.cells t.r0 t.r1 t.wv) false):=by rw[oF.2 _ om,oG.2 _ lG];exact X.hx
 have c15:(t.x.cells t.r0 t.r1 t.wv)[0+15]?=some (.i t.x.backlog):=by simp[Wi.cells,En.cells]
 have c16:(t.x.cells t.r0 t.r1 t.wv)[0+16]?=some t.wv:=by simp[Wi.cells,En.cells]
 have uA:=X.wait.1;obtain⟨av,cv,aA,_⟩:=id uA;rw[aA]at c15 c16 gt;by_cases hb:t.x.backlog=0
 .rw[zD hb]at hS;rw[hS];refine qm ?_;simp only[H.nx_new];refine qm ?_;refine End.opqh fun G3 hG3=>?_;have o3:Old h G3:=by
   rw[hG3]
   repeat (first|exact oG.trans oF|refine Old.new ?_|refine Old.set ?_ om)
  have q4:G3.get (h.nx+1)=some (.cells [.i 0] false):=by rw[hG3];exact qgt
  have q5:G3.get (h.nx+1+1)=some (.cells [.i 0] false):=by rw[hG3];exact qgt
  have q6:G3.get (h.nx+1+1+1)=some (.cells [.i 111] false):=by rw[hG3];exact qgt
  exact jeL rfl rfl rfl q4 q5 q6 ⟨rfl,⟨l,a.old o3,rfl⟩,ZA o3⟩
 rw[zC hb]at hS;cases hL:t.x.waiting with
 |nil=>
  simp only[hL]at hS;rw[hS];have lx:(t.x.waiting.length:Int)=0:=by rw[hL];rfl
  refine qm ?_;simp only[H.nx_new];refine qm ?_;refine End.opqh fun G3 hG3=>?_;have o3:Old h G3:=by
   rw[hG3]
   repeat (first|exact oG.trans oF|refine Old.new ?_|refine Old.set ?_ om)
  have q4:G3.get (h.nx+1)=some (.cells [.i 0] false):=by rw[hG3];exact qgt
  have q5:G3.get (h.nx+1+1)=some (.cells [.i 0] false):=by rw[hG3];exact qgt
  have q6:G3.get (h.nx+1+1+1)=some (.cells [.i 113] false):=by rw[hG3];exact qgt
  exact jeL rfl rfl rfl q4 q5 q6 ⟨rfl,⟨l,a.old o3,rfl⟩,ZA o3⟩
 |cons m0 rest=>
  simp only[hL]at hS;have wL:=uA;rw[aA,hL]at wL;have lx:t.x.waiting.length=rest.length+1:=by rw[hL];rfl
  have bL:=X.wait.2;rw[hL,aA]at bL;have bL:=bL Zd;have Sj:=(K.ok.wait t.x (zc hx)).1;obtain⟨y0,y0a,y0b,y0c⟩:=(K.ok.wait t.x (zc hx)).2 m0 (by rw[hL];simp);refine qm ?_;simp only[H.nx_new];refine qm ?_;refine Ops.opqh fun G3 hG3=>?_;have x3:G3.nx=h.nx+7:=by rw[hG3];simp only[H.nx_set,H.nx_new];omega
  have o3:Old h G3:=by
   rw[hG3]
   repeat (first|exact oG.trans oF|refine Old.new ?_|refine Old.set ?_ om)
  have q0:G3.get h.nx=some (.cells [.p w 0] false):=by rw[hG3];exact qgt
  have q4:G3.get (h.nx+1)=some (.cells [.i 0] false):=by rw[hG3];exact qgt
  have q5:G3.get (h.nx+1+1)=some (.cells [.i 0] false):=by rw[hG3];exact qgt
  have q6:G3.get (h.nx+1+1+1)=some (.cells [.i 0] false):=by rw[hG3];exact qgt
  have q8:G3.get (G2.nx+1)=some (.cells [.p t.wb 0] false):=by rw[hG3];exact qgt
  clear hG3;rw[show G2.nx+1=h.nx+6 by omega]at q8 ⊢;clear eM bQ eZ lS gt g0 g1 g2 g3 ef oF xF oG xG;refine zaw rfl (joo Z (w:=w) (h:=G3) (d:=d-1) om) ?_;refine Ga ?_;refine Run.rangeFunc_lo rfl qkp fun LO mD=>?_;have x4:(G3.new (.cells [.p w 0] false)).nx=h.nx+8:=by rw[H.nx_new,x3]
  rw[x4,x3];obtain⟨H5,vG⟩:∃H5,H5=(G3.new (.cells [.p w 0] false)).new (LO .ready none):=⟨_,rfl⟩
  rw[<- vG];have x5:H5.nx=h.nx+9:=by rw[vG,H.nx_new,x4]
  have o5:Old h H5:=by rw[vG];exact o3.new.new
  have keep5:∀j,j<h.nx+7->H5.get j=G3.get j:=fun j hj=>by rw[vG,jad om,jad om]
  have r0:H5.get h.nx=some (.cells [.p w 0] false):=by rw[keep5 _ om,q0]
  have r4:H5.get (h.nx+1)=some (.cells [.i 0] false):=by rw[keep5 _ om,q4]
  have r5:H5.get (h.nx+1+1)=some (.cells [.i 0] false):=by rw[keep5 _ om,q5]
  have r6:H5.get (h.nx+1+1+1)=some (.cells [.i 0] false):=by rw[keep5 _ om,q6]
  have r8:H5.get (h.nx+6)=some (.cells [.p t.wb 0] false):=by rw[keep5 _ om,q8]
  have r7:H5.get (h.nx+7)=some (.cells [.p w 0] false):=by rw[vG,jad om,<- x3];exact jac _
  have rL:H5.get (h.nx+8)=some (LO .ready none):=by rw[vG,<- x4];exact jac _
  clear vG keep5 q0 q4 q5 q6 q8 x4 x3 o3;obtain⟨sa,c,hw,jE⟩:=a.wf.head;obtain⟨z,rfl,z1,z2,z3⟩:=jE (by rintro rfl;simp at ht);have lN:∀(i:Nat) (g:H),i<96->atS (wxs l) (i:Int)=none->jav (wxs l) i=[]->Old H5 g ->
    ∃v' g',cl (d-1-1) (.yld (h.nx+8)) [.i (i:Int)] g=some (v',g')/\v' = .bool false/\∃f:Int,g'.get (h.nx+1)=some (.cells [.i f] false)/\g'.get (h.nx+1+1)=some (.cells [.i m0] false)/\g'.get (h.nx+1+1+1)=some (.cells [.i 0] false)/\g'.get (h.nx+8)=some (LO .done (some .ret)) /\
     (jay (wxs l) m).1=(f,m0,0)/\WSt g' w s ow (jay (wxs l) m).2 now tb no/\To h g' ow ow:=by
   intro i g hi cQ nV og;have oh:=o5.trans og;rw[aA]at uA;obtain⟨bz,oz,csz,roz,rfl,iC,bD⟩:=VI.cell uA (i:=0) (x:=m0) (by rw[hL];rfl);refine yl_ Z om mD (by rw[og.2 _ om,rL]) rfl ?_;refine Ga ?_;refine Zn ⟨rfl,by rw[og.2 _ om,rL],?_⟩;have gw:g.get w=some (.cells (wc (fun i=>atS (wxs l) (i:Int)) (.slice (some (z,0)) l.length c) s now no) false):=by rw[oh.2 _ lw,hw]
   have gt:g.get t.wb=some (.cells (t.x.cells t.r0 t.r1 (.slice (some (bz,oz)) t.x.waiting.length cv)) false):=by rw[oh.2 _ lG,<- aA];exact X.hx
   have gb:g.get bz=some (.cells csz roz):=by rw[oh.2 _ (bL bz rfl).2,iC]
   have g0:=(og.2 _ om).trans r0;have g4:=(og.2 _ om).trans r4;have g5:=(og.2 _ om).trans r5;have g6:=(og.2 _ om).trans r6;have g8:=(og.2 _ om).trans r8;have gL:=(og.2 _ om).trans rL;have lz:=(bL bz rfl).2;have fZ:VI g (.slice (some (bz,oz)) (m0::rest).length cv) (m0::rest):=wL.keep oh.1 fun y hy=>by cases hy;exact oh.2 _ lz
   have dQ:(V.slice (some (bz,oz)) t.x.waiting.length cv) = .slice (some (bz,oz)) (m0::rest).length cv:=by rw[hL]
   have vN:=og.1;have fG:(m0::rest:List Int).length=rest.length+1:=rfl;clear r0 r4 r5 r6 r8 r7 rL og uA wL;refine Gb ?_;refine Ops.opqh fun G6 hG6=>?_;have x6:G6.nx=g.nx:=by rw[hG6];rfl
   have o6:Old h G6:=by rw[hG6];exact (oh.set om).set om
   have k6:∀j,j<h.nx->G6.get j=g.get j:=fun j hj=>by rw[hG6,jaa om,jaa om]
   have s0:G6.get h.nx=some (.cells [.p w 0] false):=by rw[hG6];exact qgt
   have s4:G6.get (h.nx+1)=some (.cells [.i 0] false):=by rw[hG6];exact qgt
   have s5:G6.get (h.nx+1+1)=some (.cells [.i m0] false):=by rw[hG6];exact qgt
   have s6:G6.get (h.nx+1+1+1)=some (.cells [.i 0] false):=by rw[hG6];exact qgt
   have sL:G6.get (h.nx+8)=some (LO .busy none):=by rw[hG6];exact qgt
   have gZ:=(k6 _ lG).trans gt;have hZ:VI G6 (.slice (some (bz,oz)) t.x.waiting.length cv) t.x.waiting:=by
    rw[dQ,hL];exact fZ.keep (Nat.le_of_eq x6.symm) fun y hy=>by cases hy;exact k6 _ lz
   clear hG6 gt gb g0 g4 g5 g6 g8 gL fZ;refine Ops.icut_l (m:=1) rfl hZ rfl om fun v2 wA bD=>?_;rw[show t.x.waiting.drop 1=rest by rw[hL];rfl]at wA;have W6:=(a.wf.old o6).setWait ht wA fun _ y hy=>by
    have:=bD y hy;cases this;exact⟨(bL bz rfl).1,zr lz o6.1⟩
   have iZ:0+16<(t.x.cells t.r0 t.r1 (.slice (some (bz,oz)) t.x.waiting.length cv)).length:=by rw[Wi.cells_length];omega
   have ecell:Obj.cells ((t.x.cells t.r0 t.r1 (.slice (some (bz,oz)) t.x.waiting.length cv)).set (0+16) v2) false=(t.setw v2 rest).x.obj t.r0 t.r1 v2:=by
    show Obj.cells ((t.x.cells t.r0 t.r1 (.slice (some (bz,oz)) t.x.waiting.length cv)).set 16 v2) false=_;rw[Wi.cells_wait (wt:=rest)];rfl
   have m9:=wA.one;refine Ga ?_;refine zcs rfl rfl m9 gZ iZ ?_;rw[ecell];refine Ops.opqh fun G7 hG7=>?_;rw[<- hG7]at W6;have T7:To h G7 ow ow:=(ZA o6).trans ⟨by rw[hG7];exact Zs (by show ow t.wb≠0;have:=X.ox;omega),fun _ _=>rfl⟩;have k7:∀j,h.nx<=j->G7.get j=G6.get j:=fun j hj=>by rw[hG7,jaa om]
   have x7:G7.nx=G6.nx:=by rw[hG7];rfl
   have s0:=(k7 _ om).trans s0;have s4:=(k7 _ om).trans s4;have s5:=(k7 _ om).trans s5;have s6:=(k7 _ om).trans s6;have sL:=(k7 _ om).trans sL;clear hG7 k7 k6 ecell iZ gZ m9 bD hZ;generalize pI:l.set n (t.setw v2 rest)=l1 at W6;have jZ:wxs l1=(wxs l).set n {t.x with waiting:=rest}:= by rw[<- pI,jbl];rfl
   obtain⟨mm,rfl⟩:=zz y0a;rw[zw]at y0b;have Tj:l1.length=l.length:=by rw[<- pI];simp
   obtain⟨t2,qD⟩:∃t2,l1[mm]?=some t2:=⟨_,za (by have:=w_lt y0b;rw[List.length_map]at this;omega)⟩
   have sE:=jak qD;rw[jZ]at sE;have y2:t2.x.e0.what=0:=by
    rcases jex sE with⟨e1,e2⟩|⟨e1,e2⟩
    .subst e1;rw[hx]at y0b;cases y0b;rw[e2];exact y0c
    .rw[y0b]at e2;cases e2;exact y0c
   have X2:=W6.ok mm t2 qD;have Te:G7.get t2.wb=some (.cells (t2.x.cells t2.r0 t2.r1 t2.wv) false):=X2.hx;obtain⟨Uj,c7,xL,Ue⟩:=W6.head;obtain⟨z7,rfl,Vj,Wj,Xj⟩:=Ue (by rintro rfl;simp at qD);have w1:(wc (fun i=>atS (wxs l) (i:Int)) (.slice (some (z7,0)) l1.length c7) s now no)[0+288]?=some (.slice (some (z7,0)) l1.length c7):=jaR rfl;have w2:(wps l1)[0+(mm:Int).toNat*1]?=some (.p t2.wb 0):=by rw[show 0+(mm:Int).toNat*1=mm by omega];exact jda qD
   have mC:=x_lt qD;refine Gb ?_;refine Ops.opqh fun G8 hG8=>?_;have x8:G8.nx=G7.nx:=by rw[hG8];rfl
   have u8:Upd t2.wb ((t2.x.name 0 i).obj t2.r0 t2.r1 t2.wv) G7 G8:=by
    refine⟨x8,?_,fun j hj=>by rw[hG8,jaa hj,jaa hj]⟩;rw[hG8,jab];show some (Obj.cells (((t2.x.cells t2.r0 t2.r1 t2.wv).set 0 (.i 1)).set 1 (.i i)) false)=_;rw[Wi.cells_name];rfl
   have W8:=W6.upd qD u8 rfl rfl fun k hk=>by rcases hk with rfl|rfl<;>rfl
   have T8:To h G8 ow ow:=T7.trans ⟨(u8.ch (B:=fun j=>j=t2.wb) rfl).weaken fun j _ e=>by
    have e:j=t2.wb:=e;show ow j≠0;rw[e,X2.ox];omega,fun _ _=>rfl⟩
   have k8:∀j,h.nx<=j->G8.get j=G7.get j:=fun j hj=>u8.get _ fun e=>by
    have:=X2.ox;rw[<- e,a.wf.top j hj]at this;omega
   have s0:=(k8 _ om).trans s0;have s4:=(k8 _ om).trans s4;have s5:=(k8 _ om).trans s5;have s6:=(k8 _ om).trans s6;have sL:=(k8 _ om).trans sL;have eQ:G8.get w=some (.cells (wc (fun i=>atS (wxs l) (i:Int)) (.slice (some (z7,0)) l1.length c7) s now no) false):=by
    rw[u8.get _ fun e=>by have:=X2.ox;rw[<- e,a.wf.tw]at this;omega,xL]
   have kZ:0+0+(i:Int).toNat*3+3<=(wc (fun i=>atS (wxs l) (i:Int)) (.slice (some (z7,0)) l1.length c7) s now no).length:=by rw[jbv];omega
   have W9:=W8.place (i:=i) (o:=0+0+(i:Int).toNat*3) (p:=some (mm,0)) hi om eQ;clear hG8 xL Te w1 w2;refine Gb ?_;refine zct (vs:=[.bool true,.i (mm:Int),.i 0]) rfl rfl rfl rfl eQ kZ ?_;refine Ops.opqh fun G9 hG9=>?_;have W9:WF G9 w s ow (fun j=>if j=i then some (mm,0) else atS (wxs l) (j:Int)) (l1.set mm {t2 with x:=t2.x.name 0 i}) now tb no:=by rw[hG9];exact W9
   have x9:G9.nx=G8.nx:=by rw[hG9];rfl
   have T9:To h G9 ow ow:=T8.trans ⟨by rw[hG9];exact Zs (by show ow w≠0;rw[a.wf.tw];omega),fun _ _=>rfl⟩;have k9:∀j,h.nx<=j->G9.get j=G8.get j:=fun j hj=>by rw[hG9,jaa om]
   have s0:=(k9 _ om).trans s0;have s4:=(k9 _ om).trans s4;have s5:=(k9 _ om).trans s5;have s6:=(k9 _ om).trans s6;have sL:=(k9 _ om).trans sL;clear hG9 k9 eQ kZ;refine Gb ?_;refine Ops.store1_chk (l:=[.i 0]) rfl rfl rfl s4 zM (jau rfl (by rw[jaa om,s5]) rfl rfl ja9) ?_;refine Gb ?_;refine End.opqh fun M hM=>?_;have kM:∀j,j<h.nx->M.get j=G9.get j:=fun j hj=>by rw[hM,jaa om,jaa om,jaa om]
   have xM:M.nx=G9.nx:=by rw[hM];rfl
   have v4:M.get (h.nx+1)=some (.cells [.i (i:Int)] false):=by rw[hM];exact qgt
   have v5:M.get (h.nx+1+1)=some (.cells [.i (mm:Int)] false):=by rw[hM];exact qgt
   have v6:M.get (h.nx+1+1+1)=some (.cells [.i 0] false):=by rw[hM];exact qgt
   have vL:M.get (h.nx+8)=some (LO .busy none):=by rw[hM];exact qgt
   clear hM;have hF:∃fs,jav (wxs l) 96=(i:Int)::fs:=by
    have e1:jav (wxs l) (i+1)=[(i:Int)]:=by rw[jcI,nV,cQ];rfl
    have e2:=jeH (wxs l) 96 (i+1) om;rw[e1]at e2;cases hh:jav (wxs l) 96 with
    |nil=>rw[hh]at e2;simp at e2
    |cons q fs=>rw[hh]at e2;exact⟨fs,by simpa using e2⟩
   obtain⟨fs,hF⟩:=hF;rw[hF]at hS;simp only[zw]at hS;rw[sE]at hS;have hS:jay (wxs l) m=(((i:Int),(mm:Int),0),((wxs l).set n {t.x with waiting:=rest}).set mm (t2.x.name 0 i)):=hS;rw[hS]at K' ⊢;have uq:=K'.ok.uniq;have W10:=(W9.congr (g:=fun j=>atS ((( wxs l).set n {t.x with waiting:=rest}).set mm (t2.x.name 0 i)) (j:Int)) fun j _=>(tab_seat (j:=j) hx sE y2 uq).symm).keep (h':=M.set (h.nx+8) (LO .done (some .ret))) (by show G9.nx<=M.nx;omega) fun j hj=>by
    have iH:j<h.nx:=by
     rcases zx j h.nx with h1|h1
     .exact h1
     .exact zJ (a.wf.top j h1) hj
    rw[jaa om,kM j iH]
   have ez:wxs (l1.set mm {t2 with x:=t2.x.name 0 i})=((wxs l).set n {t.x with waiting:=rest}).set mm (t2.x.name 0 i):=by rw[jbl,jZ]
   refine Zn ⟨⟨.busy,none,vL⟩,rfl,(i:Int),by rw[jaa om,v4],by rw[jaa om,v5],by rw[jaa om,v6],jab _,rfl,⟨_,⟨by rw[ez];exact W10,fun a' k' fd' hf=>?_⟩,ez⟩,⟨⟨by have:=T9.ch.nx;show h.nx<=M.nx;omega,fun j hj hn=>by rw[jaa om,kM j hj];exact T9.ch.get j hj hn⟩,T9.tag⟩⟩;rw[ez]at hf;rcases jgz sE hf with⟨_,_,h3⟩|⟨h3,_⟩
   .rw[h3];omega
   .exact a.fds a' k' fd' ((jhG hx).1 h3)
  obtain⟨v,h',hc,xK⟩:=jk9 Z (d:=d-1) (L:=h.nx+8) (bx:=h.nx+7) (h:=H5) (f:=fun i=>atS (wxs l) (i:Int)) (s:=s) (now:=now) (no:=no) (w:=w) (wl:=wc (fun i=>atS (wxs l) (i:Int)) (.slice (some (z,0)) l.length c) s now no) om
   (fun i g=>jav (wxs l) i=[]/\Old H5 g)
   (fun g'=>∃f:Int,g'.get (h.nx+1)=some (.cells [.i f] false)/\g'.get (h.nx+1+1)=some (.cells [.i m0] false)/\g'.get (h.nx+1+1+1)=some (.cells [.i 0] false)/\g'.get (h.nx+8)=some (LO .done (some .ret))/\(jay (wxs l) m).1=(f,m0,0)/\WSt g' w s ow (jay (wxs l) m).2 now tb no/\To h g' ow ow)
   (.inr (by rw[o5.2 _ lw,hw])) ⟨jbv,jkA⟩ r7
   (fun i g g' p og=>⟨p.1,p.2.trans og⟩)
   (fun i g hi hf p=>by
    refine⟨?_,p.2⟩;have:(atS (wxs l) (i:Int)).isNone=false:=by cases h5:atS (wxs l) (i:Int)<;>simp_all
    rw[jcI,this,p.1];rfl)
   (fun i g hi hf p=>by
    obtain⟨v',g',e1,rfl,e2⟩:=lN i g hi hf p.1 p.2;exact⟨false,g',e1,fun e=>(by cases e),fun _=>e2⟩)
   ⟨by simp[jav],Zz _⟩
  refine⟨v,h',hc,?_⟩;rcases xK with⟨p1,p2⟩|⟨f,p1,p2,p3,p4,p5,p6,p7⟩
  .refine⟨.normal,by rw[p2.2 _ om,rL];rfl,?_⟩;rw[p1]at hS;have hS:jay (wxs l) m=((0,0,112),wxs l):=hS;rw[hS];have oK:Old h (h'.kill (h.nx+8)):=⟨by have:=p2.1;show h.nx<=h'.nx;omega,fun j hj=>by rw[jai om,p2.2 _ om,o5.2 _ hj]⟩
   have v4:(h'.kill (h.nx+8)).get (h.nx+1)=some (.cells [.i 0] false):=by rw[jai om,p2.2 _ om,r4]
   have v5:(h'.kill (h.nx+8)).get (h.nx+1+1)=some (.cells [.i 0] false):=by rw[jai om,p2.2 _ om,r5]
   have v6:(h'.kill (h.nx+8)).get (h.nx+1+1+1)=some (.cells [.i 0] false):=by rw[jai om,p2.2 _ om,r6]
   clear lN jE p2;generalize h'.kill (h.nx+8)=g at oK v4 v5 v6 ⊢;refine Gb ?_;refine End.opqh fun M hM=>?_;have oM:Old h M:=by rw[hM];exact ((oK.set om).set om).set om
   have v4:M.get (h.nx+1)=some (.cells [.i 0] false):=by rw[hM];exact qgt
   have v5:M.get (h.nx+1+1)=some (.cells [.i 0] false):=by rw[hM];exact qgt
   have v6:M.get (h.nx+1+1+1)=some (.cells [.i 112] false):=by rw[hM];exact qgt
   exact jeL rfl rfl rfl v4 v5 v6 ⟨rfl,⟨l,a.old oM,rfl⟩,ZA oM⟩
  .refine⟨.ret,by rw[p4];rfl,?_⟩;rw[p5];have v4:(h'.kill (h.nx+8)).get (h.nx+1)=some (.cells [.i f] false):=by rw[jai om,p1]
   have v5:(h'.kill (h.nx+8)).get (h.nx+1+1)=some (.cells [.i m0] false):=by rw[jai om,p2]
   have v6:(h'.kill (h.nx+8)).get (h.nx+1+1+1)=some (.cells [.i 0] false):=by rw[jai om,p3]
   obtain⟨l',W,e'⟩:=p6;have d4:∀j,ow j≠0->j≠h.nx+8:=fun j hj e=>hj (a.wf.top j om);have W':WSt (h'.kill (h.nx+8)) w s ow (jay (wxs l) m).2 now tb no:=⟨l',⟨W.wf.keep (zq _) fun j hj=>jai (d4 j hj),W.fds⟩,e'⟩
   have T':To h (h'.kill (h.nx+8)) ow ow:=⟨⟨p7.ch.nx,fun j hj hn=>by rw[jai om];exact p7.ch.get j hj hn⟩,p7.tag⟩
   clear lN jE;generalize h'.kill (h.nx+8)=g at W' T' v4 v5 v6 ⊢;refine Gb ?_;exact jeL rfl rfl rfl v4 v5 v6 ⟨rfl,W',T'⟩
end
def RowZ(N:Nat)(h:H)(v:V)(l:List Int):Prop:=Row N h 1 v l.length (ints l)\/(l=[]/\∃b,v = .slice (some (b,0)) 0 (.fix 0)/\N<=b/\b<h.nx)
theorem RowZ.at_ge{N:Nat}{h:H}{v:V}{l:List Int}(r:RowZ N h v l){q:Nat}(hq:v.at?=some q):N<=q/\q<h.nx:=by
 rcases r with r|⟨_,b,rfl,h1,h2⟩
 .exact r.at_ge hq
 .cases hq;exact⟨h1,h2⟩
theorem RowZ.keep{N:Nat}{h h':H}{v:V}{l:List Int}(r:RowZ N h v l)(hx:h.nx<=h'.nx)(hg:∀q,v.at?=some q->h'.get q=h.get q):RowZ N h' v l:=by
 rcases r with r|⟨h0,b,rfl,h1,h2⟩
 .exact .inl (r.keep hx hg)
 .exact .inr ⟨h0,b,rfl,h1,by omega⟩
theorem jms{h:H}{b:Nat}{v:V}{l:List Int}(hv:VI h v l)(hn:l.length<=1000000)(hb:b<h.nx) :
  ∃v' h',jaH h 1 8 (.slice (some (b,0)) 0 (.fix 0)) v=some (v',h')/\Old h h'/\∀N,N<=b->RowZ N h' v' l:=by
 obtain⟨a,cp,rfl,n,f,g⟩:=hv;have tC:(Nat.ble ((0+l.length)*8) (2 ^ 46)&&Nat.ble (0+l.length) (2 ^ 46))=true:=by simp only[zp,zQ];omega
 by_cases hl:l=[]
 .subst hl;have eB:jaz h 1 0 (.slice a 0 cp)=some []:=by cases a<;>rfl
  refine⟨.slice (some (b,0)) 0 (.fix 0),h,?_,Zz h,fun N hN=>.inr ⟨rfl,b,rfl,hN,hb⟩⟩;simp only[jaH,lenOf,List.length_nil,eB];rfl
 .obtain⟨b',o,cs,ro,rfl,h1,h2,h3⟩:=g hl;have pB:0<l.length:=List.length_pos_iff.2 hl;obtain⟨p1,p2⟩:=jjr h3 pB;have hz:(l.length == 0)=false:=by simp;omega
  have iC:(l.length*1 == 0)=false:=by simp;omega
  have eB:jaz h 1 l.length (.slice (some (b',o)) l.length cp)=some (ints l):=by
   simp only[jaz,iC,cond_false];rw[jcz h2 om,Nat.mul_one,p2]
  have tV:Nat.ble (0+l.length) 0=false:=by
   cases dB:Nat.ble (0+l.length) 0 with
   |false=>rfl
   |true=>rw[zQ]at dB;omega
  refine⟨.slice (some (h.nx,0)) (0+l.length) (.grow 1),h.new (.cells (ints l) false),?_,(Zz h).new,fun N hN=>.inl (.inr ⟨h.nx,by omega,by simp,by rw[zP],jac _,by simp⟩)⟩;simp only[jaH,lenOf,eB];rw[tC];simp only[cond_true,hz,cond_false,tV];rfl
theorem append_z1{N:Nat}{h:H}{v:V}{l:List Int}{q:Nat}{x:Int}{cap:Cap}(r:RowZ N h v l)(hN:N<=h.nx)(hn:l.length<=100000)(hq:h.get q=some (.cells [.i x] false))(d5:v.at?≠some q) :
  ∃v' h',jaH h 1 8 v (.slice (some (q,0)) 1 cap)=some (v',h')/\Row N h' 1 v' (l++[x]).length (ints (l++[x]))/\h.nx<=h'.nx/\v'.at?=some h.nx/\∀j,j<h.nx->v.at?≠some j->h'.get j=h.get j:=by
 rcases r with r|⟨rfl,b,rfl,h1,h2⟩
 .obtain⟨v',h',e1,e2,e3,e4,e5⟩:=jfj (bytes:=8) (cap:=cap) r hN hq rfl rfl om om om d5;exact⟨v',h',e1,by rw[zg];simpa[ints] using e2,e3,e4,e5⟩
 .have eB:jaz h 1 1 (.slice (some (q,0)) 1 cap)=some [.i x]:=by
   simp only[jaz];rw[show ((1*1:Nat) == 0)=false from rfl,cond_false,jcz hq Zd];rfl
  refine⟨.slice (some (h.nx,0)) 1 (.grow 1),h.new (.cells [.i x] false),?_,.inr ⟨h.nx,hN,by simp,rfl,jac _,rfl⟩,by simp,rfl,fun j hj _=>jad hj⟩;simp only[jaH,lenOf,eB];rfl
section
variable{call:Call}{fuel base:Nat}{ops:List Ins}{keep:List Nat}{K:List Fr}{e:Env}{h:H}{Q:Post}{ix:Nat}{dst:Option Nat}
theorem Ops.app_zero{b:Nat}{x y:Opd}{v:V}{l:List Int}(hx:x.ev e=some (.slice (some (b,0)) 0 (.fix 0)))(hy:y.ev e=some v)(hv:VI h v l)(hn:l.length<=1000000)(hb:b<h.nx)
  (k:∀v' h',Old h h'->(∀N,N<=b->RowZ N h' v' l)->Ops call fuel base ops keep K (layv e dst v') h' Q):Ops call fuel base (⟨ix,dst,.append 1 8 x y,none,none,[]⟩::ops) keep K e h Q:=by
 obtain⟨v',h',e1,e2,e3⟩:=jms hv hn hb;exact Ops.step (Zp rfl (by simp only[I.eff,hx,hy,e1])) (k v' h' e2 e3)
theorem Ops.app_z1{N:Nat}{x y:Opd}{v:V}{l:List Int}{q:Nat}{n:Int}{cap:Cap}(hx:x.ev e=some v)(hy:y.ev e=some (.slice (some (q,0)) 1 cap))(r:RowZ N h v l)(hN:N<=h.nx)(hn:l.length<=100000)(hq:h.get q=some (.cells [.i n] false))(d5:v.at?≠some q)
  (k:∀v' h',Row N h' 1 v' (l++[n]).length (ints (l++[n]))->h.nx<=h'.nx->v'.at?=some h.nx->(∀j,j<h.nx->v.at?≠some j->h'.get j=h.get j)->Ops call fuel base ops keep K (layv e dst v') h' Q):Ops call fuel base (⟨ix,dst,.append 1 8 x y,none,none,[]⟩::ops) keep K e h Q:=by
 obtain⟨v',h',e1,e2,e3,e4,e5⟩:=append_z1 (cap:=cap) r hN hn hq d5;exact Ops.step (Zp rfl (by simp only[I.eff,hx,hy,e1])) (k v' h' e2 e3 e4 e5)
end
section
variable{cl:Nat->Call}(Z:Sem cl)
include Z
theorem jmA{d:Nat}{h:H}{v:V}{l:List Int}(hd:1<=d)(hv:VI h v l)(hn:l.length<=100000):∃v1 h1,cl d (.fn 154) [v] h=some (v1,h1)/\Old h h1/\RowZ h.nx h1 v1 l:=by
 obtain⟨a,c,rfl,n,f,g⟩:=id hv;refine aT Z ?_;cases a with
 |none=>
  obtain⟨rfl,rfl⟩:=n rfl;refine Ga ?_
  all_goals first|exact⟨Zz h,.inl (Row.nil _ _ _)⟩|skip
 |some p=>
  refine qm ?_;refine Ops.app_zero (b:=h.nx) rfl rfl (hv.keep2 Zd fun hl z hz=>?_) om Zd fun v' h' o r=>?_
  .obtain⟨b',o',_,_,e0,h1,_⟩:=g hl;cases e0;cases hz;exact jad h1
  refine qm ?_;exact⟨(Zz h).new.trans o,r _ (zq _)⟩
end
theorem WF.retag{h:H}{w s:Nat}{ow ow':Nat->Nat}{f:Nat->Option (Nat×Nat)}{l:List WX}{now:Int}{tb:Tb}{no:Option (Nat×Nat)}(a:WF h w s ow f l now tb no)(hk:∀j,ow j≠0->ow' j=ow j)(top:∀j,h.nx<=j->ow' j=0):WF h w s ow' f l now tb no:=by
 obtain⟨wv,p1,p2,p3⟩:=a.hw;exact⟨⟨wv,p1,p2,fun z hz=>by rw[hk z (by rw[p3 z hz];omega),p3 z hz]⟩,a.hs,by rw[hk w (by rw[a.tw];omega),a.tw],by rw[hk s (by rw[a.ts];omega),a.ts],a.lw,a.ls,top,fun n t ht=>(a.ok n t ht).tag0 hk⟩
theorem Wi.cells_inn{x:Wi}{r0 r1:Nat}{v:V}{i:Int}:(x.cells r0 r1 v).set 5 (.int .u64 i)=({x with e0:= {x.e0 with inn:=i}}:Wi).cells r0 r1 v:=by
 obtain⟨⟨a0,b0,c0,d0,e0,f0,g0⟩,⟨a1,b1,lH,d1,e1,f1,g1⟩,cap,rs,bl,wt⟩:=x;rfl
def Wi.more(x:Wi)(m:Int):Wi:= {x with waiting:=x.waiting++[m],e0:= {x.e0 with inn:=upu x.e0.inn}}
theorem AtW_more{ws:Ws}{n:Nat}{x:Wi}{m:Int}{many:Int}(hx:ws[n]?=some x)(i k:Nat)(fd:Int):AtW (ws.set n (x.more m)++[jbk many]) i k fd↔AtW ws i k fd:=by
 have hs:x.SameFd (x.more m):=fun k hk=>by rcases hk with rfl|rfl<;>exact⟨Iff.rfl,fun _=>rfl⟩
 rw[<- jk3 hx hs i k fd];constructor
 .intro h;rcases jep h with h|⟨_,hk,h1,_⟩
  .exact h
  .rcases hk with rfl|rfl
   .have h1:(0:Int)=1:=h1;omega
   .have h1:(2:Int)=1:=h1;omega
 .rintro⟨y,hy,r⟩;exact⟨y,jeY hy,r⟩
section
variable{cl:Nat->Call}(Z:Sem cl){h:H}{w s:Nat}{ow:Nat->Nat}{l:List WX}{now:Int}{tb:Tb}{no:Option (Nat×Nat)}
include Z
theorem cw_mid{d m nn:Nat}{t:WX}{G:H}(hd:2<=d)(K:WsK (wxs l))(a:WW h w s ow l now tb no)(ht:l[m]?=some t)(fC:t.x.waiting.length<=64)(aJ:l.length<1000)(oG:Old h G)(xG:h.nx+5<=G.nx)(gN:G.get h.nx=some ((jbk nn).obj (h.nx+2) (h.nx+4) .nils))
  (R:∀k,k=0\/k=1->ja3 G (two (h.nx+2) (h.nx+4) k) (two (h.nx+1) (h.nx+3) k) [] nn) :
  Run (cl (d-1)) fuel c98_3 [] [(0,.p w 0),(8,.p h.nx 0),(9,.p t.wb 0)] G (Fin c98.res fun v h'=>∃ow',v = .tup [.i (l.length:Int),.i 0]/\WSt h' w s ow' ((wxs l).set m (t.x.more (l.length:Int))++[jbk nn]) now tb no/\To h h' ow ow'):=by
 have lw:=a.wf.lw;obtain⟨sa,c,hw,kA⟩:=a.wf.head;have c1:(wc (fun i=>atS (wxs l) (i:Int)) (.slice sa l.length c) s now no)[0+288]?=some (.slice sa l.length c):=jaR rfl;have d4:=x_lt ht;have X:=a.wf.ok m t ht;have lG:=X.lx;have uA:=X.wait.1;obtain⟨av,cv,aA,_⟩:=id uA;have uA:VI G (.slice av t.x.waiting.length cv) t.x.waiting:=by
  rw[<- aA];exact uA.keep2 oG.1 fun hl z hz=>oG.2 z (X.wait.2 hl z hz).2
 have gw:(G.reserve 1).get w=some (.cells (wc (fun i=>atS (wxs l) (i:Int)) (.slice sa l.length c) s now no) false):=(oG.2 _ lw).trans hw;have gt:(G.reserve 1).get t.wb=some (.cells (t.x.cells t.r0 t.r1 (.slice av t.x.waiting.length cv)) false):=by rw[<- aA];exact (oG.2 _ lG).trans X.hx
 have lZ:VI (G.reserve 1) (.slice av t.x.waiting.length cv) t.x.waiting:=uA.keep (by show G.nx<=G.nx+1;omega) fun _ _=>rfl;obtain⟨v1,G2,e2,o2,rz⟩:=jmA Z (d:=d-1) om lZ om;have x1:(G.reserve 1).nx=G.nx+1:=rfl;have o2x:=o2.1;refine zab (Zo ?_);refine Ga ?_;refine Zu rfl e2 (jau rfl (by rw[o2.2 _ om,gw]) c1 rfl ja9) ?_;refine Ops.bslice1_at (new:=[.i (l.length:Int)]) rfl rfl rfl rfl ?_;refine Ops.opqh fun G3 hG3=>?_;have x3:G3.nx=G2.nx:=by rw[hG3];rfl
 have k3:∀j,j≠G.nx->G3.get j=G2.get j:=fun j hj=>by rw[hG3,jaa om]
 have b3:G3.get (G.nx+0)=some (.cells [.i (l.length:Int)] false):=by rw[hG3,jab]
 have o3:Old h G3:=⟨by have:=oG.1;omega,fun j hj=>by rw[k3 j (by have:=oG.1;omega),o2.2 j (by have:=oG.1;omega)];exact oG.2 j hj⟩
 have n3:∀j,h.nx<=j->j<h.nx+5->G3.get j=G.get j:=fun j j1 j2=>by rw[k3 j om,o2.2 j om];rfl
 clear hG3;have mZ:RowZ (G.reserve 1).nx G3 v1 t.x.waiting:=rz.keep om fun q hq=>k3 q (by have:=rz.at_ge hq;omega);refine Ops.app_z1 rfl rfl mZ om om b3 (fun e=>by have:=rz.at_ge e;omega) fun v2 G4 row4 x4 at4 k4=>?_;have o4:Old h G4:=⟨by have:=o3.1;omega,fun j hj=>by rw[k4 j (by have:=o3.1;omega) (fun e=>by have:=rz.at_ge e;have:=oG.1;omega),o3.2 j hj]⟩
 have n4:∀j,h.nx<=j->j<h.nx+5->G4.get j=G.get j:=fun j j1 j2=>by rw[k4 j om (fun e=>by have:=rz.at_ge e;omega),n3 j j1 j2]
 have nZ:G4.get t.wb=some (.cells (t.x.cells t.r0 t.r1 (.slice av t.x.waiting.length cv)) false):=by rw[o4.2 _ lG,<- aA];exact X.hx
 have j4:0+16<(t.x.cells t.r0 t.r1 (.slice av t.x.waiting.length cv)).length:=by rw[Wi.cells_length];omega
 have ecell:Obj.cells ((t.x.cells t.r0 t.r1 (.slice av t.x.waiting.length cv)).set (0+16) v2) false=(t.setw v2 (t.x.waiting++[(l.length:Int)])).x.obj t.r0 t.r1 v2:=by
  show Obj.cells ((t.x.cells t.r0 t.r1 (.slice av t.x.waiting.length cv)).set 16 v2) false=_;rw[Wi.cells_wait (wt:=t.x.waiting++[(l.length:Int)])];rfl
 obtain⟨p1,p2⟩:=VI.ofRow row4;have m9:=p1.one;obtain⟨y7,uV⟩:∃y7:Nat->Nat,y7=fun j=>if j=G3.nx then 10*m+15 else ow j:=⟨_,rfl⟩
 have oV:ow G3.nx=0:=a.wf.top _ o3.1;have t1:y7 G3.nx=10*m+15:=by rw[uV];exact zD rfl
 have t2:∀j,j≠G3.nx->y7 j=ow j:=fun j hj=>by rw[uV];exact zC hj
 have z4:G3.nx<G4.nx:=by
  rcases row4 with⟨h0,_⟩|⟨q,_,q1,rfl,_⟩
  .simp at h0
  .cases at4;exact q1
 have W4:WF G4 w s y7 (fun i=>atS (wxs l) (i:Int)) l now tb no:=(a.wf.old o4).retag (fun j hj=>t2 j fun e=>hj (by rw[e,oV])) fun j hj=>by rw[t2 j om];exact a.wf.top j (by have:=o4.1;omega)
 have W5:=W4.setWait ht p1 fun _ z hz=>by
  rw[at4]at hz;cases hz;exact⟨t1,z4⟩
 clear uV gt gw uA lZ b3 rz mZ e2 row4;refine Ga ?_;refine zcs rfl rfl m9 nZ j4 ?_;rw[ecell];refine Ops.opqh fun G5 hG5=>?_;rw[<- hG5]at W5;have x5:G5.nx=G4.nx:=by rw[hG5];rfl
 have k5:∀j,j≠t.wb->G5.get j=G4.get j:=fun j hj=>by rw[hG5,jaa hj]
 clear hG5 ecell j4 nZ m9;have mS:(l.set m (t.setw v2 (t.x.waiting++[(l.length:Int)])))[m]?=some (t.setw v2 (t.x.waiting++[(l.length:Int)])):=by rw[zi,zD rfl,zD d4]
 generalize wN:l.set m (t.setw v2 (t.x.waiting++[(l.length:Int)]))=l5 at W5 mS;have oZ:l5.length=l.length:=by rw[<- wN];simp
 have X5:=W5.ok m _ mS;have pZ:G5.get t.wb=some (.cells ((t.setw v2 (t.x.waiting++[(l.length:Int)])).x.cells t.r0 t.r1 v2) false):=X5.hx;have c5:((t.setw v2 (t.x.waiting++[(l.length:Int)])).x.cells t.r0 t.r1 v2)[0+0+Int.toNat 0*7+5]?=some (.int .u64 t.x.e0.inn):=rfl;have vV:0+0+Int.toNat 0*7+5<((t.setw v2 (t.x.waiting++[(l.length:Int)])).x.cells t.r0 t.r1 v2).length:=by rw[Wi.cells_length];show 5<17;omega
 refine Ga ?_;refine zcs rfl rfl rfl pZ vV ?_;refine Ops.opqh fun G6 hG6=>?_;have u6:Upd t.wb ((t.x.more (l.length:Int)).obj t.r0 t.r1 v2) G5 G6:=by
  refine⟨by rw[hG6];rfl,?_,fun j hj=>by rw[hG6,jaa hj]⟩;rw[hG6,jab];show some (Obj.cells (((t.setw v2 (t.x.waiting++[(l.length:Int)])).x.cells t.r0 t.r1 v2).set 5 (.int .u64 (upu t.x.e0.inn))) false)=_;rw[Wi.cells_inn];rfl
 clear hG6 pZ c5 vV;have W6:=W5.upd (x':=t.x.more (l.length:Int)) mS u6 rfl rfl fun k hk=>by rcases hk with rfl|rfl<;>rfl
 have nS:(l5.set m {t.setw v2 (t.x.waiting++[(l.length:Int)]) with x:=t.x.more (l.length:Int)}).length=l.length:=by rw[List.length_set,oZ]
 have qZ:wxs (l5.set m {t.setw v2 (t.x.waiting++[(l.length:Int)]) with x:=t.x.more (l.length:Int)})=(wxs l).set m (t.x.more (l.length:Int)):=by
  rw[jbl,<- wN,jbl,List.set_set]
 generalize l5.set m {t.setw v2 (t.x.waiting++[(l.length:Int)]) with x:=t.x.more (l.length:Int)} = l6 at W6 nS qZ;clear W5 mS wN oZ X5;have x6:G6.nx=G4.nx:=by rw[u6.nx,x5]
 have k6:∀j,j≠t.wb->G6.get j=G4.get j:=fun j hj=>by rw[u6.get j hj,k5 j hj]
 have n6:∀j,h.nx<=j->j<h.nx+5->G6.get j=G.get j:=fun j j1 j2=>by rw[k6 j om,n4 j j1 j2]
 have o6:∀j,j<h.nx->j≠t.wb->G6.get j=h.get j:=fun j j1 j2=>by rw[k6 j j2,o4.2 j j1]
 obtain⟨Yj,Ve,pS,qS⟩:=W6.hw;rw[nS]at pS;obtain⟨rS,⟨sS,rfl⟩,_⟩:=pS.shape;have c6:(wc (fun i=>atS (wxs l) (i:Int)) (.slice sS l.length rS) s now no)[0+288]?=some (.slice sS l.length rS):=jaR rfl;clear k5 k6 n4 k4 k3 n3 x5 u6;refine Ga ?_;refine Ops.push (N:=0) (new:=[.p h.nx 0]) rfl rfl rfl rfl om rfl rfl pS (zY _) om om fun v3 G7 row7 x7 z7 k7=>?_;have xL:G7.get w=some (.cells (wc (fun i=>atS (wxs l) (i:Int)) (.slice sS l.length rS) s now no) false):=by rw[k7 w W6.lw (fun e=>by have:=qS _ e;have:=W6.tw;omega),Ve]
 have We:0+288<(wc (fun i=>atS (wxs l) (i:Int)) (.slice sS l.length rS) s now no).length:=by rw[jbv];omega
 have Xe:=row7.one;refine Ga ?_;refine zcs rfl rfl Xe xL We ?_;rw[je2 rfl];refine Ops.opqh fun G8 hG8=>?_;have x8:G8.nx=G7.nx:=by rw[hG8];rfl
 have eQ:G8.get w=some (.cells (wc (fun i=>atS (wxs l) (i:Int)) v3 s now no) false):=by rw[hG8,jab]
 have k8:∀j,j≠w->G8.get j=G7.get j:=fun j hj=>by rw[hG8,jaa hj]
 clear hG8 xL;have Ye:∃z3,z3<G8.nx/\G6.nx<=z3/\(∀y,v3.at?=some y->y=z3):=by
  rcases id row7 with⟨h0,_⟩|⟨q,_,q1,rfl,_⟩
  .omega
  .exact⟨q,by omega,z7 q rfl,fun y hy=>by cases hy;rfl⟩
 obtain⟨z3,y1,y2,y3⟩:=Ye;have bL:∀q,v3.at?=some q->q≠w:=fun q e=>by have:=z7 q e;have:=W6.lw;omega
 have fH:∀j,h.nx<=j->j<h.nx+5->y7 j=0:=fun j j1 j2=>by rw[t2 j om];exact a.wf.top j j1
 have n8:∀j,h.nx<=j->j<h.nx+5->G8.get j=G.get j:=fun j j1 j2=>by rw[k8 j om,k7 j om (fun e=>by have:=qS _ e;have:=fH j j1 j2;omega),n6 j j1 j2]
 have P:=W6.push (h':=G8) (g:=fun i=>atS (wxs l) (i:Int)) (m:=5) (z:=z3) (N:=h.nx) (t:=⟨jbk nn,h.nx,h.nx+2,h.nx+1,h.nx+4,h.nx+3,.nils⟩) (.inr rfl) om fH y2 y1
  (fun j j1 j2 j3=>by rw[k8 j j3,k7 j (W6.lt_of j1) (fun e=>j2 (qS _ e))]) eQ
  (by rw[nS];exact row7.keep om fun q e=>k8 q (bL q e)) y3 rfl (fun _=>⟨rfl,rfl,rfl,rfl⟩) (by rw[n8 _ (zq _) om,gN]) rfl rfl
  (fun k hk q hq=>by
   refine⟨rfl,?_⟩;have nB:=R k hk;rcases hk with rfl|rfl
   .have hq:some []=some q:=hq;cases hq;exact nB.keep (n8 _ (by show h.nx<=h.nx+2;omega) (by show h.nx+2<h.nx+5;omega)) (n8 _ (by show h.nx<=h.nx+1;omega) (by show h.nx+1<h.nx+5;omega))
   .have hq:some []=some q:=hq;cases hq;exact nB.keep (n8 _ (by show h.nx<=h.nx+4;omega) (by show h.nx+4<h.nx+5;omega)) (n8 _ (by show h.nx<=h.nx+3;omega) (by show h.nx+3<h.nx+5;omega)))
 have ez:wxs (l6++[(⟨jbk nn,h.nx,h.nx+2,h.nx+1,h.nx+4,h.nx+3,.nils⟩:WX)])=(wxs l).set m (t.x.more (l.length:Int))++[jbk nn]:=by rw[<- qZ];simp
 have hA:=AtW_more (m:=(l.length:Int)) (many:=(nn:Int)) (jak ht);have rZ:((l.length+1:Nat):Int)-1=(l.length:Int):=by omega
 obtain⟨sZ,⟨tZ,rfl⟩,_⟩:=row7.shape;have c8:(wc (fun i=>atS (wxs l) (i:Int)) (.slice tZ (l.length+1) sZ) s now no)[0+288]?=some (.slice tZ (l.length+1) sZ):=jaR rfl;have o8:∀j,j<h.nx->ow j=0->G8.get j=h.get j:=fun j j1 j2=>by
  have q1:y7 j=0:=by rw[t2 j (by have:=o3.1;omega),j2]
  rw[k8 j (fun e=>by rw[e,a.wf.tw]at j2;omega),k7 j (by have:=o4.1;omega) (fun e=>by have:=qS _ e;omega),o6 j j1 (fun e=>by have:=X.ox;rw[<- e]at this;omega)]
 rw[nS]at P;clear k7 n6 n8 row7 pS W6;refine Ga ?_;refine⟨jgM y7 h.nx l.length 5 z3,by rw[rZ],⟨_,⟨P.congr fun j _=>by rw[ez,jl3 hA],fun n k fd hf=>?_⟩,ez⟩,⟨by have:=oG.1;omega,fun j hj hn=>?_⟩,fun j hj=>?_⟩
 .rw[ez]at hf;exact a.fds n k fd ((hA n k fd).1 hf)
 .exact o8 j hj (Classical.not_not.1 hn)
 .rw[jgL (.inl hj) (by have:=o4.1;omega),t2 j (by have:=o3.1;omega)]
end
section
variable{cl:Nat->Call}(Z:Sem cl){h:H}{w s:Nat}{ow:Nat->Nat}{l:List WX}{now:Int}{tb:Tb}{no:Option (Nat×Nat)}
include Z
theorem cw_ok{d m nn:Nat}{t:WX}(hd:5<=d)(K:WsK (wxs l))(a:WW h w s ow l now tb no)(ht:l[m]?=some t)(uC:t.x.backlog≠0)(l9:t.x.e0.what=1)(mC:1<=nn)(fE:nn<=65536)(xI:¬t.x.backlog<=t.x.waiting.length)(aJ:l.length<1000) :
  ∃h' ow',cl d (.fn 98) [.p w 0,.i (m:Int),.i (nn:Int)] h=some (.tup [.i (l.length:Int),.i 0],h') /\
   WSt h' w s ow' ((wxs l).set m {t.x with waiting:=t.x.waiting++[(l.length:Int)],e0:= {t.x.e0 with inn:=upu t.x.e0.inn}} ++ [jbk nn]) now tb no/\To h h' ow ow':=by
 have lw:=a.wf.lw;have kN:=jbK Z (d:=d-1) om a.wf;have wH:=jiV Z (h:=h) (d:=d-1) (n:=(nn:Int)) om;rw[zG om]at wH;obtain⟨sa,c,hw,kA⟩:=a.wf.head;have c1:(wc (fun i=>atS (wxs l) (i:Int)) (.slice sa l.length c) s now no)[0+288]?=some (.slice sa l.length c):=jaR rfl;have d4:=x_lt ht;obtain⟨z,rfl,z1,z2,z3⟩:=kA (by rintro rfl;simp at d4);have hx:=jak ht;have X:=a.wf.ok m t ht;have lG:=X.lx;have w2:(wps l)[0+(m:Int).toNat*1]?=some (.p t.wb 0):=by rw[show 0+(m:Int).toNat*1=m by omega];exact jda ht
 have gt:h.get t.wb=some (.cells (t.x.cells t.r0 t.r1 t.wv) false):=X.hx;have uA:=X.wait.1;obtain⟨av,cv,aA,_⟩:=id uA;rw[aA]at gt uA;have uY:¬t.x.e0.what≠1:=fun e=>e l9;have eE:¬1000<=(l.length:Int):=by omega
 have fC:=(K.ok.wait t.x (zc hx)).1;obtain⟨h1,e1,x1,o1,g0,g2,g1,g4,g3⟩:=jok Z (h:=h) (n:=nn) (d:=d-1) om fE;simp only[jqj,Wi.obj,Wi.cells,En.cells,List.cons_append,List.nil_append]at g0
 suffices q:∃v h',cl d (.fn 98) [.p w 0,.i (m:Int),.i (nn:Int)] h=some (v,h')/\∃ow',v = .tup [.i (l.length:Int),.i 0]/\WSt h' w s ow' ((wxs l).set m {t.x with waiting:=t.x.waiting++[(l.length:Int)],e0:= {t.x.e0 with inn:=upu t.x.e0.inn}} ++ [jbk nn]) now tb no/\To h h' ow ow' by
  obtain⟨_,h',e,ow',rfl,q⟩:=q;exact⟨h',ow',e,q⟩
 refine aT Z ?_;obtain⟨C,hC⟩:∃C,C=c98_3:=⟨_,rfl⟩
 simp only[c98,c98_10,c98_5,c98_4,yB,yC];rw[<- hC];have Af:h1.get w=some _:=(o1.2 _ lw).trans hw;have Bf:h1.get z=some _:=(o1.2 _ z1).trans z3;have Cf:h1.get t.wb=some _:=(o1.2 _ lG).trans gt;refine Gb ?_;refine Run.opqh fun H1 hH1=>?_;have xH:H1.nx=h1.nx:=by rw[hH1];rfl
 have kH:∀j,j≠h.nx->H1.get j=h1.get j:=fun j hj=>by rw[hH1,jaa hj]
 have oH:Old h H1:=⟨by have:=o1.1;omega,fun j hj=>by rw[kH j om,o1.2 j hj]⟩
 have gN:H1.get h.nx=some ((jbk nn).obj (h.nx+2) (h.nx+4) .nils):=by rw[hH1];exact jab _
 clear hH1 Af Bf Cf;rw[hC];refine cw_mid Z om K a ht fC aJ oH om gN fun k hk=>?_;rcases hk with rfl|rfl
 .exact (jeX mC fE g2 g1).keep (kH _ (by show h.nx+2≠h.nx;omega)) (kH _ (by show h.nx+1≠h.nx;omega))
 .exact (jeX mC fE g4 g3).keep (kH _ (by show h.nx+4≠h.nx;omega)) (kH _ (by show h.nx+3≠h.nx;omega))
end
section
variable{cl:Nat->Call}(Z:Sem cl){h:H}{w s:Nat}{ow:Nat->Nat}{ws:Ws}{now:Int}{tb:Tb}{no:Option (Nat×Nat)}
include Z
theorem jiY{d:Nat}{n many:Int}(hd:5<=d)(K:WsK ws)(a:WSt h w s ow ws now tb no) :
  ∃h' ow',cl d (.fn 98) [.p w 0,.i n,.i many] h=some (.tup [.i (jar ws n many).1.1,.i (jar ws n many).1.2],h')/\WSt h' w s ow' (jar ws n many).2 now tb no/\To h h' ow ow':=by
 obtain⟨l,a,rfl⟩:=a;have K':=ji5 (n:=n) (many:=many) K;have lw:=a.wf.lw;have kN:=jbK Z (d:=d-1) om a.wf;have wH:=jiV Z (h:=h) (d:=d-1) (n:=many) om;have jE:(wxs l).length=l.length:=by simp
 have wF:l.length<=1000:=by have:=K.ok.len;omega
 obtain⟨sa,c,hw,kA⟩:=a.wf.head;have c1:(wc (fun i=>atS (wxs l) (i:Int)) (.slice sa l.length c) s now no)[0+288]?=some (.slice sa l.length c):=jaR rfl
 suffices q:∃v h',cl d (.fn 98) [.p w 0,.i n,.i many] h=some (v,h')/\∃ow',v = .tup [.i (jar (wxs l) n many).1.1,.i (jar (wxs l) n many).1.2]/\WSt h' w s ow' (jar (wxs l) n many).2 now tb no/\To h h' ow ow' by
  obtain⟨_,h',e,ow',rfl,q⟩:=q;exact⟨h',ow',e,q⟩
 by_cases wB:∃(m nn:Nat) (t:WX),n=m/\many=nn/\l[m]?=some t/\t.x.backlog≠0/\t.x.e0.what=1/\1<=nn/\nn<=65536/\¬t.x.backlog<=t.x.waiting.length/\l.length<1000
 .obtain⟨m,nn,t,rfl,rfl,ht,uC,l9,mC,fE,xI,aJ⟩:=wB;obtain⟨h',ow',e,q⟩:=cw_ok Z hd K a ht uC l9 mC fE xI aJ;have hS:jar (wxs l) m nn=(((l.length:Int),(0:Int)),(wxs l).set m {t.x with waiting:=t.x.waiting++[(l.length:Int)],e0:= {t.x.e0 with inn:=upu t.x.e0.inn}} ++ [jbk nn]):=by
   unfold jar;rw[zC om,zw,jak ht];simp only;rw[zC (by rintro (e|e);(exact uC e);exact e l9),zC om,zC xI,zC om,jE]
  rw[hS];exact⟨_,h',e,ow',rfl,q⟩
 refine aT Z ?_;have same:WSt h w s ow (wxs l) now tb no:=⟨l,a,rfl⟩
 by_cases hn:n<0
 .have hS:jar (wxs l) n many=((0,116),wxs l):=zD hn;rw[hS];refine Ga ?_
  all_goals first|exact⟨ow,rfl,same,To.refl _ _⟩|(exfalso;omega)
 have hS:jar (wxs l) n many=_:=zC hn;obtain⟨m,rfl⟩:=zz (show 0<=n by omega);rw[zw]at hS;by_cases d4:m<l.length
 case neg=>
  rw[zd om]at hS;have hS:jar (wxs l) m many=((0,116),wxs l):=hS;rw[hS];refine Ga ?_
  all_goals first|exact⟨ow,rfl,same,To.refl _ _⟩|(exfalso;omega)
 obtain⟨t,ht⟩:∃t,l[m]?=some t:=⟨_,za d4⟩
 obtain⟨z,rfl,z1,z2,z3⟩:=kA (by rintro rfl;simp at d4);have hx:=jak ht;rw[hx]at hS;simp only at hS;have X:=a.wf.ok m t ht;have lG:=X.lx;have w2:(wps l)[0+(m:Int).toNat*1]?=some (.p t.wb 0):=by rw[show 0+(m:Int).toNat*1=m by omega];exact jda ht
 have gt:h.get t.wb=some (.cells (t.x.cells t.r0 t.r1 t.wv) false):=X.hx;obtain⟨av,cv,aA,_⟩:=id X.wait.1;rw[aA]at gt;by_cases uC:t.x.backlog=0
 .have hS:jar (wxs l) m many=((0,116),wxs l):=by rw[hS,zD (.inl uC)]
  rw[hS];refine Ga ?_
  all_goals first|exact⟨ow,rfl,same,To.refl _ _⟩|(exfalso;omega)
 by_cases l9:t.x.e0.what=1
 case neg=>
  have hS:jar (wxs l) m many=((0,116),wxs l):=by rw[hS,zD (.inr l9)]
  rw[hS];refine Ga ?_
  all_goals first|exact⟨ow,rfl,same,To.refl _ _⟩|(exfalso;omega)
 rw[zC (by rintro (e|e);(exact uC e);exact e l9)]at hS;have uY:¬t.x.e0.what≠1:=fun e=>e l9;by_cases hm:many<1\/65536<many
 .have hS:jar (wxs l) m many=((0,2),wxs l):=by rw[hS,zD hm]
  rw[hS];rw[zE om]at wH;clear hm;refine Ga ?_
  all_goals first|exact⟨ow,rfl,same,To.refl _ _⟩|(exfalso;omega)
 rw[zC hm]at hS;have mC:1<=many:=by omega
 have fE:many<=65536:=by omega
 clear hm;rw[zG om]at wH;by_cases xI:t.x.backlog<=t.x.waiting.length
 .have hS:jar (wxs l) m many=((0,113),wxs l):=by rw[hS,zD xI]
  rw[hS];refine Ga ?_
  all_goals first|exact⟨ow,rfl,same,To.refl _ _⟩|(exfalso;omega)
 rw[zC xI,jE]at hS;by_cases aJ:1000<=l.length
 .have hS:jar (wxs l) m many=((0,112),wxs l):=by rw[hS,zD aJ]
  rw[hS];have eE:(1000:Int)<=(l.length:Int):=by omega
  refine Ga ?_
  all_goals first|exact⟨ow,rfl,same,To.refl _ _⟩|(exfalso;omega)
 rw[zC aJ]at hS;obtain⟨nn,rfl⟩:=zz (show 0<=many by omega);exact zJ ⟨m,nn,t,rfl,rfl,ht,uC,l9,by omega,by omega,xI,by omega⟩ wB
end
section
variable{cl:Nat->Call}(Z:Sem cl){h:H}{p w s rw:Nat}{ow:Nat->Nat}{ro dat:Nat->Prop}{st:St}{a n t:Int}{dv vd:V}{D:List UInt8}
include Z
theorem mo_9{d i:Nat}(hd:15<=d)(b:BB h p w s rw ow ro dat st st)(so:StOk st i)(hi:i<=2000)(hD:Dat h dat dv D)(hC:Cpy h p ow ro dat vd D) :
  jdB cl d 43 h p w s rw ow ro dat [.p p 0,.agg (opV 9 a n t dv),vd] (doS 9 a n t D st):=by
 have o0:Old h (h.new (.cells (opV 9 a n t dv) false)):=(Zz h).new;have b0:=b.old o0;have f0:=Fm.old (ow:=ow) (ro:=ro) o0;have bE:=hD.keep b f0;have pE:=hC.keep f0;have mA:=hD.len;have g0:(h.new (.cells (opV 9 a n t dv) false)).get h.nx=some (.cells (opV 9 a n t dv) false):=jac _;have x0:h.nx<(h.new (.cells (opV 9 a n t dv) false)).nx:=by simp
 have z0:ow h.nx=0:=b.W.top (zq _);have kE:=b0.hp;have lp:=b.lp;have m7:st.tb.ok 1000000:=so.tb.mono om;have hS:doS 9 a n t D st = {st with ws:=(putS st.ws a D).2}:= by simp[doS]
 rw[hS];obtain⟨h1,e1,W1,t1⟩:=jp1 Z (d:=d-1) (n:=a) om b0.W so.K.ok pE.v om (fun z hz=>(pE.z z hz).2.1);have b1:=b0.wc (a':= {st with ws:=(putS st.ws a D).2}) W1 t1;have g1:=b0.off_w t1 x0 z0 g0;have cC:=b1.hp;obtain⟨v,h2,e2,b2,f2,rfl⟩:=b1.rc Z (d:=d-1) (f:=89) (args:=[.p rw 0,.i a,dv]) (r':= {st with ws:=(putS st.ws a D).2}) (P:=fun _ v=>v = .tup [.i (putS st.ws a D).1.1,.i (putS st.ws a D).1.2]) (fun _ _ _ _ h=>h) (fun g q l ga gn hq wR hl=>by
  have oR:WsOk (l.map RX.x):=by rw[hl];exact so.K.ok
  obtain⟨q1,q2⟩:=(bE.keep b0 (Fm.to t1)).in_ b1 ga gn hq;obtain⟨l',g',k1,k2,k3,k4⟩:=jp9 Z (d:=d-1) (n:=a) om wR oR q1 om q2;rw[hl]at k1 k3;exact⟨_,q,l',g',k1,k2,k3,k4,.inl rfl,rfl⟩)
 clear so hD hC bE pE m7 mA hS;refine⟨h2,_,_,jaj (aT Z ?_),b2,Fm.two o0 t1 f2⟩;refine qm ?_;exact⟨by simp,rfl⟩
theorem mo_11{d i:Nat}(hd:15<=d)(b:BB h p w s rw ow ro dat st st)(so:StOk st i)(hi:i<=2000)(hD:Dat h dat dv D)(hC:Cpy h p ow ro dat vd D) :
  jdB cl d 43 h p w s rw ow ro dat [.p p 0,.agg (opV 11 a n t dv),vd] (doS 11 a n t D st):=by
 have o0:Old h (h.new (.cells (opV 11 a n t dv) false)):=(Zz h).new;have b0:=b.old o0;have f0:=Fm.old (ow:=ow) (ro:=ro) o0;have bE:=hD.keep b f0;have pE:=hC.keep f0;have mA:=hD.len;have g0:(h.new (.cells (opV 11 a n t dv) false)).get h.nx=some (.cells (opV 11 a n t dv) false):=jac _;have x0:h.nx<(h.new (.cells (opV 11 a n t dv) false)).nx:=by simp
 have z0:ow h.nx=0:=b.W.top (zq _);have kE:=b0.hp;have lp:=b.lp;have m7:st.tb.ok 1000000:=so.tb.mono om;have hS:doS 11 a n t D st = {st with ws:=(jaB st.ws a).2}:= by simp[doS]
 rw[hS];obtain⟨h1,e1,W1,t1⟩:=jhK Z (d:=d-1) (n:=a) om b0.W;have b1:=b0.wc (a':= {st with ws:=(jaB st.ws a).2}) W1 t1;have g1:=b0.off_w t1 x0 z0 g0;have cC:=b1.hp;obtain⟨v,h2,e2,b2,f2,rfl⟩:=b1.rc Z (d:=d-1) (f:=93) (args:=[.p rw 0,.i a]) (r':= {st with ws:=(jaB st.ws a).2}) (P:=fun _ v=>v = .i (jaB st.ws a).1) (fun _ _ _ _ h=>h) (fun g q l ga gn hq wR hl=>by
  have oR:WsOk (l.map RX.x):=by rw[hl];exact so.K.ok
  obtain⟨l',g',k1,k2,k3,k4⟩:=jhW Z (d:=d-1) (n:=a) om wR;rw[hl]at k1 k3;exact⟨_,q,l',g',k1,k2,k3,k4,.inl rfl,rfl⟩)
 clear so hD hC bE pE m7 mA hS;refine⟨h2,_,_,jaj (aT Z ?_),b2,Fm.two o0 t1 f2⟩;refine qm ?_;exact⟨by simp,rfl⟩
theorem mo_12{d i:Nat}(hd:15<=d)(b:BB h p w s rw ow ro dat st st)(so:StOk st i)(hi:i<=2000)(hD:Dat h dat dv D)(hC:Cpy h p ow ro dat vd D) :
  jdB cl d 43 h p w s rw ow ro dat [.p p 0,.agg (opV 12 a n t dv),vd] (doS 12 a n t D st):=by
 have o0:Old h (h.new (.cells (opV 12 a n t dv) false)):=(Zz h).new;have b0:=b.old o0;have f0:=Fm.old (ow:=ow) (ro:=ro) o0;have bE:=hD.keep b f0;have pE:=hC.keep f0;have mA:=hD.len;have g0:(h.new (.cells (opV 12 a n t dv) false)).get h.nx=some (.cells (opV 12 a n t dv) false):=jac _;have x0:h.nx<(h.new (.cells (opV 12 a n t dv) false)).nx:=by simp
 have z0:ow h.nx=0:=b.W.top (zq _);have kE:=b0.hp;have lp:=b.lp;have m7:st.tb.ok 1000000:=so.tb.mono om;have hS:doS 12 a n t D st = {st with ws:=(ja2 st.ws a).2}:= by simp[doS]
 rw[hS];obtain⟨h1,e1,W1,t1⟩:=jhg Z (d:=d-1) (n:=a) om b0.W;have b1:=b0.wc (a':= {st with ws:=(ja2 st.ws a).2}) W1 t1;have g1:=b0.off_w t1 x0 z0 g0;have cC:=b1.hp;obtain⟨v,h2,e2,b2,f2,rfl⟩:=b1.rc Z (d:=d-1) (f:=95) (args:=[.p rw 0,.i a]) (r':= {st with ws:=(ja2 st.ws a).2}) (P:=fun _ v=>v = .i (ja2 st.ws a).1) (fun _ _ _ _ h=>h) (fun g q l ga gn hq wR hl=>by
  have oR:WsOk (l.map RX.x):=by rw[hl];exact so.K.ok
  obtain⟨l',g',k1,k2,k3,k4⟩:=jhi Z (d:=d-1) (n:=a) om wR;rw[hl]at k1 k3;exact⟨_,q,l',g',k1,k2,k3,k4,.inl rfl,rfl⟩)
 clear so hD hC bE pE m7 mA hS;refine⟨h2,_,_,jaj (aT Z ?_),b2,Fm.two o0 t1 f2⟩;refine qm ?_;exact⟨by simp,rfl⟩
theorem mo_13{d i:Nat}(hd:15<=d)(b:BB h p w s rw ow ro dat st st)(so:StOk st i)(hi:i<=2000)(hD:Dat h dat dv D)(hC:Cpy h p ow ro dat vd D) :
  jdB cl d 43 h p w s rw ow ro dat [.p p 0,.agg (opV 13 a n t dv),vd] (doS 13 a n t D st):=by
 have o0:Old h (h.new (.cells (opV 13 a n t dv) false)):=(Zz h).new;have b0:=b.old o0;have f0:=Fm.old (ow:=ow) (ro:=ro) o0;have bE:=hD.keep b f0;have pE:=hC.keep f0;have mA:=hD.len;have g0:(h.new (.cells (opV 13 a n t dv) false)).get h.nx=some (.cells (opV 13 a n t dv) false):=jac _;have x0:h.nx<(h.new (.cells (opV 13 a n t dv) false)).nx:=by simp
 have z0:ow h.nx=0:=b.W.top (zq _);have kE:=b0.hp;have lp:=b.lp;have m7:st.tb.ok 1000000:=so.tb.mono om;have hS:doS 13 a n t D st = {st with ws:=(jch st.ws a).2}:= by simp[doS]
 rw[hS];obtain⟨h1,e1,W1,t1⟩:=jmv Z (d:=d-1) (n:=a) om b0.W so.K.ok;have b1:=b0.wc (a':= {st with ws:=(jch st.ws a).2}) W1 t1;have g1:=b0.off_w t1 x0 z0 g0;have cC:=b1.hp;obtain⟨v,h2,e2,b2,f2,rfl⟩:=b1.rc Z (d:=d-1) (f:=97) (args:=[.p rw 0,.i a]) (r':= {st with ws:=(jch st.ws a).2}) (P:=fun _ v=>v = .i (jch st.ws a).1) (fun _ _ _ _ h=>h) (fun g q l ga gn hq wR hl=>by
  have oR:WsOk (l.map RX.x):=by rw[hl];exact so.K.ok
  obtain⟨l',g',k1,k2,k3,k4⟩:=jmD Z (d:=d-1) (n:=a) om wR oR;rw[hl]at k1 k3;exact⟨_,q,l',g',k1,k2,k3,k4,.inl rfl,rfl⟩)
 clear so hD hC bE pE m7 mA hS;refine⟨h2,_,_,jaj (aT Z ?_),b2,Fm.two o0 t1 f2⟩;refine qm ?_;exact⟨by simp,rfl⟩
theorem mo_14{d i:Nat}(hd:15<=d)(b:BB h p w s rw ow ro dat st st)(so:StOk st i)(hi:i<=2000)(hD:Dat h dat dv D)(hC:Cpy h p ow ro dat vd D) :
  jdB cl d 43 h p w s rw ow ro dat [.p p 0,.agg (opV 14 a n t dv),vd] (doS 14 a n t D st):=by
 have o0:Old h (h.new (.cells (opV 14 a n t dv) false)):=(Zz h).new;have b0:=b.old o0;have f0:=Fm.old (ow:=ow) (ro:=ro) o0;have bE:=hD.keep b f0;have pE:=hC.keep f0;have mA:=hD.len;have g0:(h.new (.cells (opV 14 a n t dv) false)).get h.nx=some (.cells (opV 14 a n t dv) false):=jac _;have x0:h.nx<(h.new (.cells (opV 14 a n t dv) false)).nx:=by simp
 have z0:ow h.nx=0:=b.W.top (zq _);have kE:=b0.hp;have lp:=b.lp;have m7:st.tb.ok 1000000:=so.tb.mono om;have hS:doS 14 a n t D st = {st with ws:=(jar st.ws a n).2}:= by simp[doS]
 rw[hS];obtain⟨h1,y7,e1,W1,t1⟩:=jiY Z (d:=d-1) (n:=a) (many:=n) om so.K b0.W;have b1:=b0.wc (a':= {st with ws:=(jar st.ws a n).2}) W1 t1;have g1:=b0.off_w t1 x0 z0 g0;have cC:=b1.hp;obtain⟨v,h2,e2,b2,f2,rfl⟩:=b1.rc Z (d:=d-1) (f:=99) (args:=[.p rw 0,.i a,.i n]) (r':= {st with ws:=(jar st.ws a n).2}) (P:=fun _ v=>v = .tup [.i (jar st.ws a n).1.1,.i (jar st.ws a n).1.2]) (fun _ _ _ _ h=>h) (fun g q l ga gn hq wR hl=>by
  have oR:WsOk (l.map RX.x):=by rw[hl];exact so.K.ok
  obtain⟨q',l',g',k1,k2,k3,k4,k5⟩:=jjc Z (d:=d-1) (n:=a) (many:=n) om wR oR;rw[hl]at k1 k3;exact⟨_,q',l',g',k1,k2,k3,k4,k5,rfl⟩)
 clear so hD hC bE pE m7 mA hS;refine⟨h2,_,_,jaj (aT Z ?_),b2,Fm.two o0 t1 f2⟩;refine qm ?_;exact⟨by simp,rfl⟩
end
section
variable{cl:Nat->Call}(Z:Sem cl){h:H}{p w s rw:Nat}{ow:Nat->Nat}{ro dat:Nat->Prop}{st:St}{a n t:Int}{dv vd:V}{D:List UInt8}
include Z
theorem mo_15{d i:Nat}(hd:15<=d)(b:BB h p w s rw ow ro dat st st)(so:StOk st i)(hi:i<=2000)(hD:Dat h dat dv D)(hC:Cpy h p ow ro dat vd D)(t0:0<=t)(t1:t<=18446744073709551615) :
  jdB cl d 43 h p w s rw ow ro dat [.p p 0,.agg (opV 15 a n t dv),vd] (doS 15 a n t D st):=by
 have o0:Old h (h.new (.cells (opV 15 a n t dv) false)):=(Zz h).new;have b0:=b.old o0;have f0:=Fm.old (ow:=ow) (ro:=ro) o0;have bE:=hD.keep b f0;have pE:=hC.keep f0;have mA:=hD.len;have g0:(h.new (.cells (opV 15 a n t dv) false)).get h.nx=some (.cells (opV 15 a n t dv) false):=jac _;have x0:h.nx<(h.new (.cells (opV 15 a n t dv) false)).nx:=by simp
 have z0:ow h.nx=0:=b.W.top (zq _);have kE:=b0.hp;have lp:=b.lp;have m7:st.tb.ok 1000000:=so.tb.mono om;have hS:doS 15 a n t D st = {st with now:=jcw st.now t}:= by simp[doS]
 rw[hS];obtain⟨h1,e1,W1,wV⟩:=jon Z (d:=d-1) om b0.W so.now.1 so.now.2 t0 t1;have b1:=b0.wc (a':= {st with now:=jcw st.now t}) W1 wV;have g1:=b0.off_w wV x0 z0 g0;have cC:=b1.hp;obtain⟨v,h2,e2,b2,f2,rfl⟩:=b1.rc Z (d:=d-1) (f:=101) (args:=[.p rw 0,.int .u64 t]) (r':= {st with now:=jcw st.now t}) (P:=fun _ v=>v = .tup []) (fun _ _ _ _ h=>h) (fun g q l ga gn hq wR hl=>by
  have oR:WsOk (l.map RX.x):=by rw[hl];exact so.K.ok
  obtain⟨g',k1,k2,k4⟩:=jo7 Z (d:=d-1) om wR so.now.1 so.now.2 t0 t1
  skip
  exact⟨_,q,l,g',k1,k2,hl,k4,.inl rfl,rfl⟩)
 clear so hD hC bE pE m7 mA hS;refine⟨h2,_,_,jaj (aT Z ?_),b2,Fm.two o0 wV f2⟩;refine qm ?_;exact⟨by simp,rfl⟩
theorem mo_16{d i:Nat}(hd:15<=d)(b:BB h p w s rw ow ro dat st st)(so:StOk st i)(hi:i<=2000)(hD:Dat h dat dv D)(hC:Cpy h p ow ro dat vd D) :
  jdB cl d 43 h p w s rw ow ro dat [.p p 0,.agg (opV 16 a n t dv),vd] (doS 16 a n t D st):=by
 have o0:Old h (h.new (.cells (opV 16 a n t dv) false)):=(Zz h).new;have b0:=b.old o0;have f0:=Fm.old (ow:=ow) (ro:=ro) o0;have bE:=hD.keep b f0;have pE:=hC.keep f0;have mA:=hD.len;have g0:(h.new (.cells (opV 16 a n t dv) false)).get h.nx=some (.cells (opV 16 a n t dv) false):=jac _;have x0:h.nx<(h.new (.cells (opV 16 a n t dv) false)).nx:=by simp
 have z0:ow h.nx=0:=b.W.top (zq _);have kE:=b0.hp;have lp:=b.lp;have m7:st.tb.ok 1000000:=so.tb.mono om;have hS:doS 16 a n t D st = {st with ws:=jap st.ws ((st.tb.handle a (decide (0<n))).sum 32) (noI st.no) (siI st.no),tb:=st.tb.handle a (decide (0<n))}:= by simp[doS]
 rw[hS];obtain⟨h1,e1,W1,t1⟩:=ww_Handle Z (d:=d-1) (sg:=a) (on:=decide (0<n)) om b0.W so.nt (jlp m7 om _ _);have b1:=b0.wc (a':= {st with ws:=jap st.ws ((st.tb.handle a (decide (0<n))).sum 32) (noI st.no) (siI st.no),tb:=st.tb.handle a (decide (0<n))}) W1 t1;have g1:=b0.off_w t1 x0 z0 g0;have cC:=b1.hp;obtain⟨v,h2,e2,b2,f2,rfl⟩:=b1.rc Z (d:=d-1) (f:=103) (args:=[.p rw 0,.i a,.bool (decide (0<n))]) (r':= {st with ws:=jap st.ws ((st.tb.handle a (decide (0<n))).sum 32) (noI st.no) (siI st.no),tb:=st.tb.handle a (decide (0<n))}) (P:=fun _ v=>v = .i (if sig? a then 0 else 100)) (fun _ _ _ _ h=>h) (fun g q l ga gn hq wR hl=>by
  have oR:WsOk (l.map RX.x):=by rw[hl];exact so.K.ok
  obtain⟨l',g',k1,k2,k3,k4⟩:=rq_Handle Z (d:=d-1) (s:=a) (on:=decide (0<n)) om wR oR (by rw[hl];exact so.nt) m7;rw[hl,<- jiy,<- jkC]at k3;rw[<- jiy,<- handle_hd]at k2;exact⟨_,q,l',g',k1,k2,k3,k4,.inl rfl,rfl⟩)
 clear so hD hC bE pE m7 mA hS;refine⟨h2,_,_,jaj (aT Z ?_),b2,Fm.two o0 t1 f2⟩;refine qm ?_;exact⟨by simp,rfl⟩
theorem mo_17{d i:Nat}(hd:15<=d)(b:BB h p w s rw ow ro dat st st)(so:StOk st i)(hi:i<=2000)(hD:Dat h dat dv D)(hC:Cpy h p ow ro dat vd D) :
  jdB cl d 43 h p w s rw ow ro dat [.p p 0,.agg (opV 17 a n t dv),vd] (doS 17 a n t D st):=by
 have o0:Old h (h.new (.cells (opV 17 a n t dv) false)):=(Zz h).new;have b0:=b.old o0;have f0:=Fm.old (ow:=ow) (ro:=ro) o0;have bE:=hD.keep b f0;have pE:=hC.keep f0;have mA:=hD.len;have g0:(h.new (.cells (opV 17 a n t dv) false)).get h.nx=some (.cells (opV 17 a n t dv) false):=jac _;have x0:h.nx<(h.new (.cells (opV 17 a n t dv) false)).nx:=by simp
 have z0:ow h.nx=0:=b.W.top (zq _);have kE:=b0.hp;have lp:=b.lp;have m7:st.tb.ok 1000000:=so.tb.mono om;have hS:doS 17 a n t D st = {st with ws:=jap st.ws ((st.tb.raise a).sum 32) (noI st.no) (siI st.no),tb:=st.tb.raise a}:= by simp[doS]
 rw[hS];obtain⟨h1,e1,W1,t1⟩:=jmx Z (d:=d-1) (sg:=a) om b0.W so.nt m7 (Tb.ok.mono (jjP so.tb a) om);have b1:=b0.wc (a':= {st with ws:=jap st.ws ((st.tb.raise a).sum 32) (noI st.no) (siI st.no),tb:=st.tb.raise a}) W1 t1;have g1:=b0.off_w t1 x0 z0 g0;have cC:=b1.hp;obtain⟨v,h2,e2,b2,f2,rfl⟩:=b1.rc Z (d:=d-1) (f:=105) (args:=[.p rw 0,.i a]) (r':= {st with ws:=jap st.ws ((st.tb.raise a).sum 32) (noI st.no) (siI st.no),tb:=st.tb.raise a}) (P:=fun _ v=>v = .i (if sig? a then 0 else 100)) (fun _ _ _ _ h=>h) (fun g q l ga gn hq wR hl=>by
  have oR:WsOk (l.map RX.x):=by rw[hl];exact so.K.ok
  obtain⟨l',g',k1,k2,k3,k4⟩:=jmF Z (d:=d-1) (s:=a) om wR oR (by rw[hl];exact so.nt) (so.tb.mono om);rw[hl,<- jge,<- jkC]at k3;rw[<- jge,<- jmK st.tb a]at k2;exact⟨_,q,l',g',k1,k2,k3,k4,.inl rfl,rfl⟩)
 clear so hD hC bE pE m7 mA hS;refine⟨h2,_,_,jaj (aT Z ?_),b2,Fm.two o0 t1 f2⟩;refine qm ?_;exact⟨by simp,rfl⟩
theorem mo_19{d i:Nat}(hd:15<=d)(b:BB h p w s rw ow ro dat st st)(so:StOk st i)(hi:i<=2000)(hD:Dat h dat dv D)(hC:Cpy h p ow ro dat vd D) :
  jdB cl d 43 h p w s rw ow ro dat [.p p 0,.agg (opV 19 a n t dv),vd] (doS 19 a n t D st):=by
 have o0:Old h (h.new (.cells (opV 19 a n t dv) false)):=(Zz h).new;have b0:=b.old o0;have f0:=Fm.old (ow:=ow) (ro:=ro) o0;have bE:=hD.keep b f0;have pE:=hC.keep f0;have mA:=hD.len;have g0:(h.new (.cells (opV 19 a n t dv) false)).get h.nx=some (.cells (opV 19 a n t dv) false):=jac _;have x0:h.nx<(h.new (.cells (opV 19 a n t dv) false)).nx:=by simp
 have z0:ow h.nx=0:=b.W.top (zq _);have kE:=b0.hp;have lp:=b.lp;have m7:st.tb.ok 1000000:=so.tb.mono om;have hS:doS 19 a n t D st = {st with ws:=ntW st.ws (st.tb.sum 32) a n,no:=noT st.ws a n st.no}:= by simp[doS]
 rw[hS];obtain⟨h1,e1,W1,t1⟩:=ww_Notice Z (d:=d-1) (x:=a) (y:=n) om b0.W so.K.ok m7;have b1:=b0.wc (a':= {st with ws:=ntW st.ws (st.tb.sum 32) a n,no:=noT st.ws a n st.no}) W1 t1;have g1:=b0.off_w t1 x0 z0 g0;have cC:=b1.hp;obtain⟨v,h2,e2,b2,f2,rfl⟩:=b1.rc Z (d:=d-1) (f:=107) (args:=[.p rw 0,.i a,.i n]) (r':= {st with ws:=ntW st.ws (st.tb.sum 32) a n,no:=noT st.ws a n st.no}) (P:=fun _ v=>v = .i (ntS st.ws a n).1) (fun _ _ _ _ h=>h) (fun g q l ga gn hq wR hl=>by
  have oR:WsOk (l.map RX.x):=by rw[hl];exact so.K.ok
  obtain⟨l',g',k1,k2,k3,k4⟩:=jkI Z (d:=d-1) (a:=a) (b:=n) om wR oR m7;rw[hl]at k1;rw[hl,<- jkC]at k3;rw[hl,<- jpK,<- jpJ]at k2;exact⟨_,q,l',g',k1,k2,k3,k4,.inl rfl,rfl⟩)
 clear so hD hC bE pE m7 mA hS;refine⟨h2,_,_,jaj (aT Z ?_),b2,Fm.two o0 t1 f2⟩;refine qm ?_;exact⟨by simp,rfl⟩
end
theorem jgK:∀{l:List (Int×Int)} {i:Nat} {p:Int×Int},l[i]?=some p->((jat l).drop (i*2)).take 2=[.i p.1,.i p.2]
 |[],i,p,h=>by simp at h
 |x::l,0,p,h=>by
  simp at h;subst h;rfl
 |x::l,i+1,p,h=>by
  have e:jat (x::l) = .i x.1::.i x.2::jat l:=rfl;rw[e,show (i+1)*2=i*2+1+1 by omega];exact jgK (l:=l) (by simpa using h)
theorem jgJ:∀l:List (Int×Int),(jat l).length=l.length*2
 |[]=>rfl
 |x::l=>by
  have:=jgJ l;have e:jat (x::l) = .i x.1::.i x.2::jat l:=rfl;rw[e];simp;omega
section
variable{call:Call}{fuel base:Nat}{K:List Fr}{e:Env}{h:H}{Q:Post}{ix:Nat}{dst at_:Option Nat}{ops:List Ins}{keep:List Nat}
theorem Ops.neqAgg2{x y:Opd}{a b:Int}(hx:x.ev e=some (.agg [.i a,.i b]))(hy:y.ev e=some (.agg [.i a,.i b]))(k:Ops call fuel base ops keep K (layv e dst (.bool false)) h Q) :
  Ops call fuel base (⟨ix,dst,.eq (.agg [.int .i64,.int .i64]) true x y,none,at_,[]⟩::ops) keep K e h Q:=by
 refine zau rfl ?_ k;simp only[I.pure,hx,hy,eqOp,cond_true];simp[jaY,jmU]
end
section
variable{cl:Nat->Call}(Z:Sem cl){h:H}{p w s rw:Nat}{ow:Nat->Nat}{ro dat:Nat->Prop}{st:St}{a n t:Int}{dv vd:V}{D:List UInt8}
include Z
theorem mo_18{d i:Nat}(hd:15<=d)(b:BB h p w s rw ow ro dat st st)(so:StOk st i)(hi:i<=2000) :
  jdB cl d 43 h p w s rw ow ro dat [.p p 0,.agg (opV 18 a n t dv),vd] (doS 18 a n t D st):=by
 have o0:Old h (h.new (.cells (opV 18 a n t dv) false)):=(Zz h).new;have b0:=b.old o0;have g0:(h.new (.cells (opV 18 a n t dv) false)).get h.nx=some (.cells (opV 18 a n t dv) false):=jac _;have x0:h.nx<(h.new (.cells (opV 18 a n t dv) false)).nx:=by simp
 have z0:ow h.nx=0:=b.W.top (zq _);have kE:=b0.hp;have lp:=b.lp;have m7:st.tb.ok 1000000:=so.tb.mono om;have hS:doS 18 a n t D st = {st with ws:=jap st.ws (st.tb.take.sum 32) (noI st.no) (siI st.no),tb:=st.tb.take}:= by simp[doS]
 rw[hS];obtain⟨v1,h1,e1,lC,W1,t1⟩:=jiW Z (d:=d-1) om b0.W so.nt (jlG m7 om);have b1:=b0.wc (a':= {st with ws:=jap st.ws (st.tb.take.sum 32) (noI st.no) (siI st.no),tb:=st.tb.take}) W1 t1;have g1:=b0.off_w t1 x0 z0 g0;have cC:=b1.hp;obtain⟨v2,h2,e2,b2,f2,aC⟩:=b1.rc Z (d:=d-1) (f:=61) (args:=[.p rw 0]) (r':= {st with ws:=jap st.ws (st.tb.take.sum 32) (noI st.no) (siI st.no),tb:=st.tb.take})
  (P:=fun g v=>Row h1.nx g 2 v (jbm st.tb.pd 31).length (jat (jbm st.tb.pd 31))) (fun _ _ _ m r=>Row.mono m r) (fun g q l ga gn hq wR hl=>by
  have oR:WsOk (l.map RX.x):=by rw[hl];exact so.K.ok
  obtain⟨v2,l',g',k1,k0,k2,k3,k4⟩:=jjb Z (d:=d-1) om wR oR (by rw[hl];exact so.nt) m7;rw[hl,<- jhQ,<- jkC]at k3;rw[<- jhQ]at k2;rw[gn]at k0;exact⟨_,q,l',g',k1,k2,k3,k4,.inl rfl,k0⟩)
 have lA:(st.tb.cnts 32).map (fun p=>((p.1:Int),p.2))=jbm st.tb.pd 31:=ji6 (fun k=>(m7 k).1) 31;have lC:Row (h.new (.cells (opV 18 a n t dv) false)).nx h1 2 v1 (jbm st.tb.pd 31).length (jat (jbm st.tb.pd 31)):=by
  rw[jfF,lA]at lC;rw[<- lA,List.length_map];rw[lA];exact lC
 have bG:Row (h.new (.cells (opV 18 a n t dv) false)).nx h2 2 v1 (jbm st.tb.pd 31).length (jat (jbm st.tb.pd 31)):=lC.keep f2.ch.nx fun z hz=>f2.ch.get z (lC.at_ge hz).2 fun e=>e.elim (fun e=>e (b0.W.top (lC.at_ge hz).1)) fun e=>by
  have:=b0.ro_lt (.inl e);have:=(lC.at_ge hz).1;omega
 have j4:=jga st.tb.pd 31;generalize jbm st.tb.pd 31=L at bG aC j4;clear lC lA m7 so hS;obtain⟨c1,⟨a1,rfl⟩,fM⟩:=bG.shape;obtain⟨c2,⟨a2,rfl⟩,gM⟩:=aC.shape
 suffices q:∃v' h',cl d (.fn 43) [.p p 0,.agg (opV 18 a n t dv),vd] h=some (v',h')/\(v' = .bool true/\h'=h2) by
  obtain⟨_,_,e,rfl,rfl⟩:=q;exact⟨_,_,_,e,b2,Fm.two o0 t1 f2⟩
 refine aT Z ?_;clear b b0 b1 b2 f2 t1 W1 aC bG;refine qm ?_;refine Zq (fun m e g=>∃k:Nat,m=L.length-k/\k<=L.length/\g=h2/\e=[(24,.slice a1 L.length c1),(25,.slice a2 L.length c2),(267,.i (L.length:Int)),(268,.i (k:Int))])
  (k:=L.length) Ze ⟨0,rfl,by omega,rfl,rfl⟩ ?_
 rintro _ _ g ⟨k,rfl,Df,rfl,rfl⟩ n2 ih2;by_cases jM:(k:Int)<L.length
 case neg=>
  clear ih2 fM gM;refine qm ?_;exact⟨rfl,rfl⟩
 obtain⟨q1,y1,y2,y3,y4⟩:=fM k om;cases y3;obtain⟨q2,z1,z2,z3,z4⟩:=gM k om;cases z3;have gH:=za (show k<L.length by omega);generalize L[k]=pr at gH;have hg:=jgK gH;have eE:=jgJ L;have mF:(k:Int)+1=((k+1:Nat):Int):=by omega
 have bK:((jat L).drop (0+(k:Int).toNat*2)).take 2=[.i pr.1,.i pr.2]:=by rw[<- hg,zw,zP]
 clear fM gM e1 e2;refine qm ?_;refine zcw rfl y4 om ?_;rw[bK];refine qm ?_;refine zcw rfl z4 om ?_;rw[bK]
 repeat' (first|refine qmy ?_|(refine zsp ?_ ?_<;>intro _)|fail)
 .rename_i hx;simp at hx
 rw[mF];exact ih2 (L.length-(k+1)) om _ _ ⟨k+1,rfl,by omega,rfl,rfl⟩
end
theorem VB.lt{h:H}{v:V}{l:List UInt8}(a:VB h v l)(hl:l≠[]){z:Nat}(hz:v.at?=some z):z<h.nx:=by
 obtain⟨a,c,rfl,n,f,g⟩:=a;obtain⟨b,o,cs,ro,rfl,h1,_⟩:=g hl;cases hz;exact h1
section
variable{cl:Nat->Call}(Z:Sem cl){h:H}{p w s rw:Nat}{ow:Nat->Nat}{ro dat:Nat->Prop}{st:St}{a n t:Int}{dv vd:V}{D:List UInt8}
include Z
theorem mo_10{d i:Nat}(hd:15<=d)(b:BB h p w s rw ow ro dat st st)(so:StOk st i)(hi:i<=2000)(hD:Dat h dat dv D)(hC:Cpy h p ow ro dat vd D) :
  jdB cl d 43 h p w s rw ow ro dat [.p p 0,.agg (opV 10 a n t dv),vd] (doS 10 a n t D st):=by
 have o0:Old h (h.new (.cells (opV 10 a n t dv) false)):=(Zz h).new;have b0:=b.old o0;have g0:(h.new (.cells (opV 10 a n t dv) false)).get h.nx=some (.cells (opV 10 a n t dv) false):=jac _;have x0:h.nx<(h.new (.cells (opV 10 a n t dv) false)).nx:=by simp
 have z0:ow h.nx=0:=b.W.top (zq _);have kE:=b0.hp;have lp:=b.lp;have hS:doS 10 a n t D st = {st with ws:=(jct st.ws a n).2}:= by simp[doS]
 rw[hS];obtain⟨v1,h1,e1,fQ,gQ,W1,t1⟩:=jom Z (d:=d-1) (n:=a) (many:=n) om b0.W so.K.ok;have b1:=b0.wc (a':= {st with ws:=(jct st.ws a n).2}) W1 t1;have g1:=b0.off_w t1 x0 z0 g0;have cC:=b1.hp;obtain⟨v,h2,e2,b2,f2,hP⟩:=b1.rc Z (d:=d-1) (f:=91) (args:=[.p rw 0,.i a,.i n]) (r':= {st with ws:=(jct st.ws a n).2})
  (P:=fun g v=>∃v2,v = .tup [v2,.i (jct st.ws a n).1.2]/\VB g v2 (jct st.ws a n).1.1) (fun _ _ _ m ⟨v2,e,hv⟩=>⟨v2,e,hv.mono m⟩) (fun g q l ga gn hq wR hl=>by
  have oR:WsOk (l.map RX.x):=by rw[hl];exact so.K.ok
  obtain⟨v2,l',g',k1,k0,k2,k3,k4⟩:=jo6 Z (d:=d-1) (n:=a) (many:=n) om wR oR;rw[hl]at k0 k1 k3;exact⟨_,q,l',g',k1,k2,k3,k4,.inl rfl,v2,rfl,k0⟩)
 have xV:VB h2 v1 (jct st.ws a n).1.1:=fQ.keep2 f2.ch.nx fun hl z hz=>f2.ch.get z (fQ.lt hl hz) fun e=>e.elim (fun e=>e (b0.W.top (gQ z hz))) fun e=>by
  have:=b0.ro_lt (.inl e);have:=gQ z hz;omega
 obtain⟨a1,c1,rfl,B1⟩:=xV;obtain⟨v2,rfl,a2,c2,rfl,B2⟩:=hP;clear so hD hC hS;refine⟨h2,_,_,jaj (aT Z ?_),b2,Fm.two o0 t1 f2⟩;refine qm ?_;refine Ops.ofBytesAt rfl B1 (zq _) ?_;refine qm ?_;refine Ops.ofBytesAt rfl B2 (zq _) ?_
 repeat' (first|refine qmy ?_|(refine zsp ?_ ?_<;>intro _)|fail)
 .exact⟨by simp,rfl⟩
 .rename_i hx;simp at hx
theorem mo_20{d i:Nat}(hd:15<=d)(b:BB h p w s rw ow ro dat st st)(so:StOk st i) :
  jdB cl d 43 h p w s rw ow ro dat [.p p 0,.agg (opV 20 a n t dv),vd] (doS 20 a n t D st):=by
 have o0:Old h (h.new (.cells (opV 20 a n t dv) false)):=(Zz h).new;have b0:=b.old o0;have g0:(h.new (.cells (opV 20 a n t dv) false)).get h.nx=some (.cells (opV 20 a n t dv) false):=jac _;have x0:h.nx<(h.new (.cells (opV 20 a n t dv) false)).nx:=by simp
 have kE:=b0.hp;have lp:=b.lp;have hS:doS 20 a n t D st=st:=by simp[doS]
 rw[hS];obtain⟨h1,e1,o1⟩:=jol Z (d:=d-1) (fd:=a) om b0.W so.K.ok;have b1:=b0.old o1;have g1:h1.get h.nx=some (.cells (opV 20 a n t dv) false):=by rw[o1.2 _ x0,g0]
 have cC:=b1.hp;obtain⟨v,h2,e2,b2,f2,rfl⟩:=b1.rc Z (d:=d-1) (f:=109) (args:=[.p rw 0,.i a]) (r':=st)
  (P:=fun _ v=>v = .tup [.i (jfO st.ws a).1,.i (jfO st.ws a).2]) (fun _ _ _ _ h=>h) (fun g q l ga gn hq wR hl=>by
  have oR:WsOk (l.map RX.x):=by rw[hl];exact so.K.ok
  have k1:=rq_Wire Z (d:=d-1) (fd:=a) om wR oR;rw[hl]at k1;exact⟨_,q,l,g,k1,wR,hl,Zr _ _,.inl rfl,rfl⟩)
 clear so hS;refine⟨h2,_,_,jaj (aT Z ?_),b2,(Fm.old (o0.trans o1)).trans f2⟩;refine qm ?_;exact⟨by simp,rfl⟩
theorem mo_no{d:Nat}{k:Int}(hd:15<=d)(b:BB h p w s rw ow ro dat st st)(hk:k<0\/20<k) :
  jdB cl d 43 h p w s rw ow ro dat [.p p 0,.agg (opV k a n t dv),vd] (doS k a n t D st):=by
 have o0:Old h (h.new (.cells (opV k a n t dv) false)):=(Zz h).new;have b0:=b.old o0;have hS:doS k a n t D st=st:=by
  unfold doS;rw[zC om,zC om,zC om,zC om,zC om,zC om,zC om,zC om,zC om,zC om,zC om,zC om,zC om,zC om,zC om,zC om,zC om]
 rw[hS];have n9:¬k=9:=by omega
 have Ak:¬k=10:=by omega
 have Bk:¬k=11:=by omega
 have Ck:¬k=12:=by omega
 have Dk:¬k=13:=by omega
 have Ek:¬k=14:=by omega
 have Fk:¬k=15:=by omega
 have Gk:¬k=16:=by omega
 have Hk:¬k=17:=by omega
 have Jk:¬k=18:=by omega
 have Kk:¬k=19:=by omega
 have Lk:¬k=20:=by omega
 clear hS hk;refine⟨_,_,_,jaj (aT Z ?_),b0,Fm.old o0⟩;refine qm ?_;exact⟨by simp,rfl⟩
end
section
variable{call:Call}{fuel base:Nat}{K:List Fr}{e:Env}{h:H}{Q:Post}{ix:Nat}{dst:Option Nat}{ops:List Ins}{keep:List Nat}
theorem Ops.copyB{x y:Opd}{B:Nat}{v:V}{l:List UInt8}(hx:x.ev e=some (.slice (some (B,0)) 0 (.fix 0)))(hy:y.ev e=some v)(hv:VB h v l)(hl:l.length<=1000000)
  (k:∀a c h',VB h' (.slice (some (a,0)) l.length c) l->(l≠[]->h'.get a=some (.cells (bts l) false))->Old h h'->(a=B\/(h.nx<=a/\a<h'.nx))->Ops call fuel base ops keep K (layv e dst (.slice (some (a,0)) l.length c)) h' Q) :
  Ops call fuel base (⟨ix,dst,.append 1 1 x y,none,none,[]⟩::ops) keep K e h Q:=by
 obtain⟨a,cp,rfl,n,f,g⟩:=hv;by_cases hn:l=[]
 .subst hn;have eB:jaz h 1 0 (.slice a 0 cp)=some []:=by cases a<;>rfl
  refine Ops.step (v:= .slice (some (B,0)) 0 (.fix 0)) (h':=h) (Zp rfl ?_) (k B (.fix 0) h ⟨some (B,0),.fix 0,rfl,fun e=>(by cases e),zq _,fun e=>zJ rfl e⟩ (fun e=>zJ rfl e) (Zz _) (.inl rfl));simp only[I.eff,hx,hy,jaH,lenOf,List.length_nil,eB];rfl
 .obtain⟨b,o,cs,ro,rfl,h1,h2,h3⟩:=g hn;have pB:0<l.length:=List.length_pos_iff.2 hn;obtain⟨p1,p2⟩:=jen (k:=0) (m:=l.length) h3 om pB;rw[zk,zh (zq _)]at p2;have sT:h.load b o (l.length*1)=some (bts l):=by
   unfold H.load;rw[h2];simp only;rw[Nat.mul_one,show Nat.ble (o+l.length) cs.length=true by rw[zQ];omega];simp only[cond_true];rw[<- p2,Nat.add_zero]
  have eB:jaz h 1 l.length (.slice (some (b,o)) l.length cp)=some (bts l):=by
   unfold jaz;simp only;rw[sT,show (l.length*1 == 0)=false by simp;omega];rfl
  have ho:Old h (h.new (.cells (bts l) false)):=⟨by simp,fun j hj=>jad hj⟩
  refine Ops.step (v:= .slice (some (h.nx,0)) l.length (.grow 1)) (h':=h.new (.cells (bts l) false)) (Zp rfl ?_) (k h.nx (.grow 1) _ ⟨some (h.nx,0),.grow 1,rfl,fun e=>(by cases e),by simp[Cap.fits],fun _=>⟨h.nx,0,bts l,false,rfl,by simp,jac _,fun i x hi=>by rw[zP];exact jkz hi⟩⟩ (fun _=>jac _) ho (.inr ⟨zq _,by simp⟩));simp only[I.eff,hx,hy,jaH,lenOf,eB];have c1:(Nat.ble ((0+l.length)*1) (2 ^ 46)&&Nat.ble (0+l.length) (2 ^ 46))=true:=by simp only[zp,zQ];omega
  have c2:(l.length == 0)=false:=by simp;exact hn
  have c3:Nat.ble (0+l.length) 0=false:=by
   cases hb:Nat.ble (0+l.length) 0 with
   |false=>rfl
   |true=>rw[zQ]at hb;omega
  rw[c1,c2,c3];simp only[cond_true,cond_false,Nat.zero_mul,beq_self_eq_true,List.nil_append,zP];rfl
end
section
variable{cl:Nat->Call}(Z:Sem cl)
include Z
theorem jpu{d:Nat}{h:H}{f n:Int}{v:V}(hd:1<=d)(hf:f≠0):cl d (.fn 32) [.i 0,.i 0,.i f,v,.i n,.i f] h=some (.bool true,h):=by
 refine jaj (at_ Z hd rfl rfl rfl ?_);refine Ga ?_;exact⟨rfl,rfl⟩
theorem jpP{d:Nat}{h:H}{x y n:Int}{v:V}(hd:1<=d)(hv:VI h v [x,y]):cl d (.fn 32) [.i x,.i y,.i 0,v,.i n,.i 0] h=some (.bool true,h):=by
 obtain⟨a,c,rfl,_⟩:=id hv;obtain⟨b,o,cs,ro,rfl,lA,h0⟩:=VI.cell (l:=[x,y]) hv (i:=0) (x:=x) rfl;obtain⟨b',o',cs',ro',e,uZ,h1⟩:=VI.cell (l:=[x,y]) hv (i:=1) (x:=y) rfl;cases e;rw[lA]at uZ;cases uZ;have h0:cs[o+(0:Int).toNat*1]?=some (.i x):=h0;have h1:cs[o+(1:Int).toNat*1]?=some (.i y):=h1;refine jaj (at_ Z hd rfl rfl rfl ?_);refine Ga ?_;exact⟨by simp,rfl⟩
theorem jpQ{d:Nat}{h:H}{x n:Int}{v:V}(hd:1<=d)(hv:VI h v [x]):cl d (.fn 32) [.i x,.i n,.i 0,v,.i n,.i 0] h=some (.bool true,h):=by
 obtain⟨a,c,rfl,_⟩:=id hv;obtain⟨b,o,cs,ro,rfl,lA,h0⟩:=VI.cell (l:=[x]) hv (i:=0) (x:=x) rfl;have h0:cs[o+(0:Int).toNat*1]?=some (.i x):=h0;refine jaj (at_ Z hd rfl rfl rfl ?_);refine Ga ?_;exact⟨by simp,rfl⟩
end
def PD(h:H)(p w s rw:Nat)(ow:Nat->Nat)(ro dat:Nat->Prop)(vd:V)(st':St):Post:=fun y e g=>y = .normal/\e=[(5,vd),(6,.bool true)]/\∃ow' ro',BB g p w s rw ow' ro' dat st' st'/\Fm h g ow ro ow' ro'
theorem PD.mk{call:Call}{fuel:Nat}{h g:H}{p w s rw:Nat}{ow ow':Nat->Nat}{ro ro' dat:Nat->Prop}{vd:V}{st':St}(b:BB g p w s rw ow' ro' dat st' st')(f:Fm h g ow ro ow' ro'):End call fuel [] .normal [(5,vd),(6,.bool true)] g (PD h p w s rw ow ro dat vd st'):=
 Zn ⟨rfl,rfl,ow',ro',b,f⟩
theorem PD.mk'{call:Call}{fuel:Nat}{h g:H}{p w s rw:Nat}{ow ow':Nat->Nat}{ro ro' dat:Nat->Prop}{vd x:V}{st':St}(hx:x = .bool true)(b:BB g p w s rw ow' ro' dat st' st')(f:Fm h g ow ro ow' ro'):End call fuel [] .normal [(5,vd),(6,x)] g (PD h p w s rw ow ro dat vd st'):=by
 subst hx;exact PD.mk b f
theorem BB.rhead{h:H}{p w s rw:Nat}{ow:Nat->Nat}{ro dat:Nat->Prop}{a r:St}(b:BB h p w s rw ow ro dat a r):∃x c,h.get rw=some (.cells (.slice x r.ws.length c::r.tl) false):=by
 obtain⟨l,R,e⟩:=b.R;obtain⟨q,_,k⟩:=R.ex;obtain⟨x,c,hw,_⟩:=(k h rfl fun _ _ _=>rfl).head;refine⟨x,c,?_⟩;rw[hw,<- e,List.length_map]
section
variable{cl:Nat->Call}(Z:Sem cl){h:H}{p w s rw:Nat}{ow:Nat->Nat}{ro dat:Nat->Prop}{st:St}{a n t:Int}{dv vd:V}{D:List UInt8}
include Z
theorem sw_4{d i B:Nat}(hd:16<=d)(b:BB h p w s rw ow ro dat st st)(so:StOk st i)(hi:i<=2000)(hD:Dat h dat dv D)(hC:Cpy h p ow ro dat vd D)(lB:B<h.nx)(zB:ow B=0)(rB:¬ro B)(gB:h.get B=some (.cells (opV 4 a n t dv) false)) :
  Run (cl (d-1)) fuel c8_27 [] [(0,.p p 0),(3,.p B 0),(5,vd),(36,.i 4)] h (PD h p w s rw ow ro dat vd (doS 4 a n t D st)):=by
 have kE:=b.hp;have lp:=b.lp;have mA:=hD.len;have hS:doS 4 a n t D st = {st with ws:=(jay st.ws a).2}:= by simp[doS]
 rw[hS];obtain⟨h1,e1,W1,t1⟩:=ww_Accept Z (d:=d-1) (fd:=a) om so.K b.W;have b1:=b.wc (a':= {st with ws:=(jay st.ws a).2}) W1 t1;have g1:=b.off_w t1 lB zB gB;have cC:=b1.hp;obtain⟨v,h2,e2,b2,f2,rfl⟩:=b1.rc Z (d:=d-1) (f:=34) (args:=[.p rw 0,.i a]) (r':= {st with ws:=(jay st.ws a).2}) (P:=fun _ v=>v = .tup [.i (jay st.ws a).1.1,.i (jay st.ws a).1.2.1,.i (jay st.ws a).1.2.2]) (fun _ _ _ _ h=>h) (fun g q l ga gn hq wR hl=>by
  have oR:WsOk (l.map RX.x):=by rw[hl];exact so.K.ok
  obtain⟨l',g',k1,k2,k3,k4⟩:=rq_Accept Z (d:=d-1) (fd:=a) om wR oR;rw[hl]at k1 k3;exact⟨_,q,l',g',k1,k2,k3,k4,.inl rfl,rfl⟩)
 have fF:=(Fm.to (ro:=ro) t1).trans f2;clear so hD hC mA hS;refine qm ?_;exact PD.mk' Zd b2 fF
theorem sw_6{d i B:Nat}(hd:16<=d)(b:BB h p w s rw ow ro dat st st)(so:StOk st i)(hi:i<=2000)(hD:Dat h dat dv D)(hC:Cpy h p ow ro dat vd D)(lB:B<h.nx)(zB:ow B=0)(rB:¬ro B)(gB:h.get B=some (.cells (opV 6 a n t dv) false)) :
  Run (cl (d-1)) fuel c8_27 [] [(0,.p p 0),(3,.p B 0),(5,vd),(36,.i 6)] h (PD h p w s rw ow ro dat vd (doS 6 a n t D st)):=by
 have kE:=b.hp;have lp:=b.lp;have mA:=hD.len;have hS:doS 6 a n t D st = {st with ws:=(jbL st.ws a D).2}:= by simp[doS]
 rw[hS];obtain⟨h1,e1,W1,t1⟩:=ww_Write Z (d:=d-1) (fd:=a) om b.W so.K.ok hC.v om (fun z hz=>(hC.z z hz).2.1);have b1:=b.wc (a':= {st with ws:=(jbL st.ws a D).2}) W1 t1;have g1:=b.off_w t1 lB zB gB;have cC:=b1.hp;obtain⟨v,h2,e2,b2,f2,rfl⟩:=b1.rc Z (d:=d-1) (f:=38) (args:=[.p rw 0,.i a,dv]) (r':= {st with ws:=(jbL st.ws a D).2}) (P:=fun _ v=>v = .tup [.i (jbL st.ws a D).1.1,.i (jbL st.ws a D).1.2]) (fun _ _ _ _ h=>h) (fun g q l ga gn hq wR hl=>by
  have oR:WsOk (l.map RX.x):=by rw[hl];exact so.K.ok
  obtain⟨q1,q2⟩:=(hD.keep b (Fm.to t1)).in_ b1 ga gn hq;obtain⟨l',g',k1,k2,k3,k4⟩:=rq_Write Z (d:=d-1) (fd:=a) om wR oR q1 om q2;rw[hl]at k1 k3;exact⟨_,q,l',g',k1,k2,k3,k4,.inl rfl,rfl⟩)
 have fF:=(Fm.to (ro:=ro) t1).trans f2;clear so hD hC mA hS;refine qm ?_;exact PD.mk' Zd b2 fF
theorem sw_7{d i B:Nat}(hd:16<=d)(b:BB h p w s rw ow ro dat st st)(so:StOk st i)(hi:i<=2000)(hD:Dat h dat dv D)(hC:Cpy h p ow ro dat vd D)(lB:B<h.nx)(zB:ow B=0)(rB:¬ro B)(gB:h.get B=some (.cells (opV 7 a n t dv) false)) :
  Run (cl (d-1)) fuel c8_27 [] [(0,.p p 0),(3,.p B 0),(5,vd),(36,.i 7)] h (PD h p w s rw ow ro dat vd (doS 7 a n t D st)):=by
 have kE:=b.hp;have lp:=b.lp;have mA:=hD.len;have hS:doS 7 a n t D st = {st with ws:=(jeb st.ws a).2}:= by simp[doS]
 rw[hS];obtain⟨h1,e1,W1,t1⟩:=ww_Shut Z (d:=d-1) (fd:=a) om b.W so.K.ok;have b1:=b.wc (a':= {st with ws:=(jeb st.ws a).2}) W1 t1;have g1:=b.off_w t1 lB zB gB;have cC:=b1.hp;obtain⟨v,h2,e2,b2,f2,rfl⟩:=b1.rc Z (d:=d-1) (f:=40) (args:=[.p rw 0,.i a]) (r':= {st with ws:=(jeb st.ws a).2}) (P:=fun _ v=>v = .i (jeb st.ws a).1) (fun _ _ _ _ h=>h) (fun g q l ga gn hq wR hl=>by
  have oR:WsOk (l.map RX.x):=by rw[hl];exact so.K.ok
  obtain⟨l',g',k1,k2,k3,k4⟩:=rq_Shut Z (d:=d-1) (fd:=a) om wR oR;rw[hl]at k1 k3;exact⟨_,q,l',g',k1,k2,k3,k4,.inl rfl,rfl⟩)
 have fF:=(Fm.to (ro:=ro) t1).trans f2;clear so hD hC mA hS;refine qm ?_;exact PD.mk' Zd b2 fF
theorem sw_8{d i B:Nat}(hd:16<=d)(b:BB h p w s rw ow ro dat st st)(so:StOk st i)(hi:i<=2000)(hD:Dat h dat dv D)(hC:Cpy h p ow ro dat vd D)(lB:B<h.nx)(zB:ow B=0)(rB:¬ro B)(gB:h.get B=some (.cells (opV 8 a n t dv) false)) :
  Run (cl (d-1)) fuel c8_27 [] [(0,.p p 0),(3,.p B 0),(5,vd),(36,.i 8)] h (PD h p w s rw ow ro dat vd (doS 8 a n t D st)):=by
 have kE:=b.hp;have lp:=b.lp;have mA:=hD.len;have hS:doS 8 a n t D st = {st with ws:=(jc4 st.ws a).2}:= by simp[doS]
 rw[hS];obtain⟨h1,e1,W1,t1⟩:=ww_Close Z (d:=d-1) (fd:=a) om b.W so.K.ok;have b1:=b.wc (a':= {st with ws:=(jc4 st.ws a).2}) W1 t1;have g1:=b.off_w t1 lB zB gB;have cC:=b1.hp;obtain⟨v,h2,e2,b2,f2,rfl⟩:=b1.rc Z (d:=d-1) (f:=42) (args:=[.p rw 0,.i a]) (r':= {st with ws:=(jc4 st.ws a).2}) (P:=fun _ v=>v = .i (jc4 st.ws a).1) (fun _ _ _ _ h=>h) (fun g q l ga gn hq wR hl=>by
  have oR:WsOk (l.map RX.x):=by rw[hl];exact so.K.ok
  obtain⟨l',g',k1,k2,k3,k4⟩:=rq_Close Z (d:=d-1) (fd:=a) om wR oR;rw[hl]at k1 k3;exact⟨_,q,l',g',k1,k2,k3,k4,.inl rfl,rfl⟩)
 have fF:=(Fm.to (ro:=ro) t1).trans f2;clear so hD hC mA hS;refine qm ?_;exact PD.mk' Zd b2 fF
theorem sw_5{d i B:Nat}(hd:16<=d)(b:BB h p w s rw ow ro dat st st)(so:StOk st i)(hi:i<=2000)(hD:Dat h dat dv D)(hC:Cpy h p ow ro dat vd D)(lB:B<h.nx)(zB:ow B=0)(rB:¬ro B)(gB:h.get B=some (.cells (opV 5 a n t dv) false)) :
  Run (cl (d-1)) fuel c8_27 [] [(0,.p p 0),(3,.p B 0),(5,vd),(36,.i 5)] h (PD h p w s rw ow ro dat vd (doS 5 a n t D st)):=by
 have kE:=b.hp;have lp:=b.lp;have mA:=hD.len;have hS:doS 5 a n t D st = {st with ws:=(jcv st.ws a n).2}:= by simp[doS]
 rw[hS];obtain⟨v1,h1,e1,fQ,gQ,W1,t1⟩:=ww_Read Z (d:=d-1) (fd:=a) (many:=n) om b.W so.K.ok;have b1:=b.wc (a':= {st with ws:=(jcv st.ws a n).2}) W1 t1;have g1:=b.off_w t1 lB zB gB;have cC:=b1.hp;obtain⟨v,h2,e2,b2,f2,hP⟩:=b1.rc Z (d:=d-1) (f:=36) (args:=[.p rw 0,.i a,.i n]) (r':= {st with ws:=(jcv st.ws a n).2})
  (P:=fun g v=>∃v2,v = .tup [v2,.bool (jcv st.ws a n).1.2.1,.i (jcv st.ws a n).1.2.2]/\VB g v2 (jcv st.ws a n).1.1) (fun _ _ _ m ⟨v2,e,hv⟩=>⟨v2,e,hv.mono m⟩) (fun g q l ga gn hq wR hl=>by
  have oR:WsOk (l.map RX.x):=by rw[hl];exact so.K.ok
  obtain⟨v2,l',g',k1,k0,k2,k3,k4⟩:=rq_Read Z (d:=d-1) (fd:=a) (many:=n) om wR oR;rw[hl]at k0 k1 k3;exact⟨_,q,l',g',k1,k2,k3,k4,.inl rfl,v2,rfl,k0⟩)
 have xV:VB h2 v1 (jcv st.ws a n).1.1:=fQ.keep2 f2.ch.nx fun hl z hz=>f2.ch.get z (fQ.lt hl hz) fun e=>e.elim (fun e=>e (b.W.top (gQ z hz))) fun e=>by
  have:=b.ro_lt (.inl e);have:=gQ z hz;omega
 obtain⟨a1,c1,rfl,B1⟩:=xV;obtain⟨v2,rfl,a2,c2,rfl,B2⟩:=hP;have fF:=(Fm.to (ro:=ro) t1).trans f2;generalize (jcv st.ws a n).1.2.1=bb at e1 e2;clear so hD hC mA hS;cases bb
 .refine qm ?_;refine Ops.ofBytesAt rfl B1 (zq _) ?_;refine qm ?_;refine Ops.ofBytesAt rfl B2 (zq _) ?_
  repeat' (first|refine qmy ?_|(refine zsp ?_ ?_<;>intro _)|fail)
  .exact PD.mk' Zd b2 fF
  .rename_i hx;simp at hx
 .refine qm ?_;refine Ops.ofBytesAt rfl B1 (zq _) ?_;refine qm ?_;refine Ops.ofBytesAt rfl B2 (zq _) ?_
  repeat' (first|refine qmy ?_|(refine zsp ?_ ?_<;>intro _)|fail)
  .exact PD.mk' Zd b2 fF
  .rename_i hx;simp at hx
end
section
variable{cl:Nat->Call}(Z:Sem cl){h:H}{p w s rw:Nat}{ow:Nat->Nat}{ro dat:Nat->Prop}{st:St}{a n t:Int}{dv vd:V}{D:List UInt8}
include Z
theorem sw_0{d i B:Nat}(hd:16<=d)(b:BB h p w s rw ow ro dat st st)(so:StOk st i)(hi:i<=2000)(hD:Dat h dat dv D)(hC:Cpy h p ow ro dat vd D)(lB:B<h.nx)(zB:ow B=0)(rB:¬ro B)(gB:h.get B=some (.cells (opV 0 a n t dv) false)) :
  Run (cl (d-1)) fuel c8_27 [] [(0,.p p 0),(3,.p B 0),(5,vd),(36,.i 0)] h (PD h p w s rw ow ro dat vd (doS 0 a n t D st)):=by
 have kE:=b.hp;have lp:=b.lp;have mA:=hD.len;have hS:doS 0 a n t D st = {st with ws:=(jag st.ws 0 n).2}:= by simp[doS]
 rw[hS];obtain⟨x,y,h1,y7,e1,good,bad,W1,t1⟩:=ww_Pipe Z (d:=d-1) (n:=n) om so.K b.W;have b1:=b.wc (a':= {st with ws:=(jag st.ws 0 n).2}) W1 t1;have g1:=b.off_w t1 lB zB gB;have cC:=b1.hp;obtain⟨v,h2,e2,b2,f2,v2,rfl,wA⟩:=b1.rc Z (d:=d-1) (f:=31) (args:=[.p rw 0,.i 0,.i n]) (r':= {st with ws:=(jag st.ws 0 n).2})
  (P:=fun g v=>∃v2,v = .tup [v2,.i (jag st.ws 0 n).1.2]/\VI g v2 (jag st.ws 0 n).1.1) (fun _ _ _ m ⟨v2,e,hv⟩=>⟨v2,e,hv.mono m⟩) (fun g q l ga gn hq wR hl=>by
  have oR:WsOk (l.map RX.x):=by rw[hl];exact so.K.ok
  obtain⟨v2,q',l',g',k1,k0,k2,k3,k4,k5⟩:=jjJ Z (d:=d-1) (kind:=0) (n:=n) om om wR oR;rw[hl]at k0 k1 k3;exact⟨_,q',l',g',k1,k2,k3,k4,k5,v2,rfl,k0⟩)
 have fF:=(Fm.to (ro:=ro) t1).trans f2;have gH:=b2.hp;obtain⟨xs,cs,y9⟩:=b2.rhead;have wl:({st with ws:=(jag st.ws 0 n).2}:St).ws.length=(jag st.ws 0 n).2.length:=rfl;rw[wl]at y9;have q0:(V.slice xs (jag st.ws 0 n).2.length cs::({st with ws:=(jag st.ws 0 n).2}:St).tl)[0+0]?=some (V.slice xs (jag st.ws 0 n).2.length cs):=rfl;have o2v:=wA.one;have e3:cl (d-1) (.fn 32) [.i x,.i y,.i (jag st.ws 0 n).1.2,v2,.i ((jag st.ws 0 n).2.length-1),.i (jag st.ws 0 n).1.2] h2=some (.bool true,h2):=by
  by_cases hz:(jag st.ws 0 n).1.2=0
  .have gd:=good hz;rw[gd]at wA;rw[hz];exact jpP Z om wA
  .obtain⟨rfl,rfl⟩:=bad hz;exact jpu Z om hz
 have j4:(jag st.ws 0 n).2.length<=1000:=(jeh om so.K).ok.len;clear so hD hC mA hS good bad;generalize (jag st.ws 0 n).1.2=er at e1 e2 e3;refine qm ?_;exact PD.mk' rfl b2 fF
theorem sw_1{d i B:Nat}(hd:16<=d)(b:BB h p w s rw ow ro dat st st)(so:StOk st i)(hi:i<=2000)(hD:Dat h dat dv D)(hC:Cpy h p ow ro dat vd D)(lB:B<h.nx)(zB:ow B=0)(rB:¬ro B)(gB:h.get B=some (.cells (opV 1 a n t dv) false)) :
  Run (cl (d-1)) fuel c8_27 [] [(0,.p p 0),(3,.p B 0),(5,vd),(36,.i 1)] h (PD h p w s rw ow ro dat vd (doS 1 a n t D st)):=by
 have kE:=b.hp;have lp:=b.lp;have mA:=hD.len;have hS:doS 1 a n t D st = {st with ws:=(jag st.ws 1 n).2}:= by simp[doS]
 rw[hS];obtain⟨x,y,h1,y7,e1,good,bad,W1,t1⟩:=ww_Pair Z (d:=d-1) (n:=n) om so.K b.W;have b1:=b.wc (a':= {st with ws:=(jag st.ws 1 n).2}) W1 t1;have g1:=b.off_w t1 lB zB gB;have cC:=b1.hp;obtain⟨v,h2,e2,b2,f2,v2,rfl,wA⟩:=b1.rc Z (d:=d-1) (f:=31) (args:=[.p rw 0,.i 1,.i n]) (r':= {st with ws:=(jag st.ws 1 n).2})
  (P:=fun g v=>∃v2,v = .tup [v2,.i (jag st.ws 1 n).1.2]/\VI g v2 (jag st.ws 1 n).1.1) (fun _ _ _ m ⟨v2,e,hv⟩=>⟨v2,e,hv.mono m⟩) (fun g q l ga gn hq wR hl=>by
  have oR:WsOk (l.map RX.x):=by rw[hl];exact so.K.ok
  obtain⟨v2,q',l',g',k1,k0,k2,k3,k4,k5⟩:=jjJ Z (d:=d-1) (kind:=1) (n:=n) om om wR oR;rw[hl]at k0 k1 k3;exact⟨_,q',l',g',k1,k2,k3,k4,k5,v2,rfl,k0⟩)
 have fF:=(Fm.to (ro:=ro) t1).trans f2;have gH:=b2.hp;obtain⟨xs,cs,y9⟩:=b2.rhead;have wl:({st with ws:=(jag st.ws 1 n).2}:St).ws.length=(jag st.ws 1 n).2.length:=rfl;rw[wl]at y9;have q0:(V.slice xs (jag st.ws 1 n).2.length cs::({st with ws:=(jag st.ws 1 n).2}:St).tl)[0+0]?=some (V.slice xs (jag st.ws 1 n).2.length cs):=rfl;have o2v:=wA.one;have e3:cl (d-1) (.fn 32) [.i x,.i y,.i (jag st.ws 1 n).1.2,v2,.i ((jag st.ws 1 n).2.length-1),.i (jag st.ws 1 n).1.2] h2=some (.bool true,h2):=by
  by_cases hz:(jag st.ws 1 n).1.2=0
  .have gd:=good hz;rw[gd]at wA;rw[hz];exact jpP Z om wA
  .obtain⟨rfl,rfl⟩:=bad hz;exact jpu Z om hz
 have j4:(jag st.ws 1 n).2.length<=1000:=(jeh om so.K).ok.len;clear so hD hC mA hS good bad;generalize (jag st.ws 1 n).1.2=er at e1 e2 e3;refine qm ?_;exact PD.mk' rfl b2 fF
end
section
variable{cl:Nat->Call}(Z:Sem cl){h:H}{p w s rw:Nat}{ow:Nat->Nat}{ro dat:Nat->Prop}{st:St}{a n t:Int}{dv vd:V}{D:List UInt8}
include Z
theorem sw_2{d i B:Nat}(hd:16<=d)(b:BB h p w s rw ow ro dat st st)(so:StOk st i)(hi:i<=2000)(hD:Dat h dat dv D)(hC:Cpy h p ow ro dat vd D)(lB:B<h.nx)(zB:ow B=0)(rB:¬ro B)(gB:h.get B=some (.cells (opV 2 a n t dv) false)) :
  Run (cl (d-1)) fuel c8_27 [] [(0,.p p 0),(3,.p B 0),(5,vd),(36,.i 2)] h (PD h p w s rw ow ro dat vd (doS 2 a n t D st)):=by
 have kE:=b.hp;have lp:=b.lp;have mA:=hD.len;have hS:doS 2 a n t D st = {st with ws:=(jag st.ws 2 n).2}:= by simp[doS]
 rw[hS];obtain⟨x,y,h1,y7,e1,good,bad,W1,t1⟩:=ww_Outer Z (d:=d-1) (n:=n) om so.K b.W;have b1:=b.wc (a':= {st with ws:=(jag st.ws 2 n).2}) W1 t1;have g1:=b.off_w t1 lB zB gB;have cC:=b1.hp;obtain⟨v,h2,e2,b2,f2,v2,rfl,wA⟩:=b1.rc Z (d:=d-1) (f:=31) (args:=[.p rw 0,.i 2,.i n]) (r':= {st with ws:=(jag st.ws 2 n).2})
  (P:=fun g v=>∃v2,v = .tup [v2,.i (jag st.ws 2 n).1.2]/\VI g v2 (jag st.ws 2 n).1.1) (fun _ _ _ m ⟨v2,e,hv⟩=>⟨v2,e,hv.mono m⟩) (fun g q l ga gn hq wR hl=>by
  have oR:WsOk (l.map RX.x):=by rw[hl];exact so.K.ok
  obtain⟨v2,q',l',g',k1,k0,k2,k3,k4,k5⟩:=jjJ Z (d:=d-1) (kind:=2) (n:=n) om om wR oR;rw[hl]at k0 k1 k3;exact⟨_,q',l',g',k1,k2,k3,k4,k5,v2,rfl,k0⟩)
 have fF:=(Fm.to (ro:=ro) t1).trans f2;have gH:=b2.hp;obtain⟨xs,cs,y9⟩:=b2.rhead;have wl:({st with ws:=(jag st.ws 2 n).2}:St).ws.length=(jag st.ws 2 n).2.length:=rfl;rw[wl]at y9;have q0:(V.slice xs (jag st.ws 2 n).2.length cs::({st with ws:=(jag st.ws 2 n).2}:St).tl)[0+0]?=some (V.slice xs (jag st.ws 2 n).2.length cs):=rfl;have o2v:=wA.one;have e3:cl (d-1) (.fn 32) [.i x,.i y,.i (jag st.ws 2 n).1.2,v2,.i ((jag st.ws 2 n).2.length-1),.i (jag st.ws 2 n).1.2] h2=some (.bool true,h2):=by
  by_cases hz:(jag st.ws 2 n).1.2=0
  .obtain⟨gd,gl⟩:=good hz;have hm:((jag st.ws 2 n).2.length:Int)-1=(st.ws.length:Int):=by
    rcases jfe (ws:=st.ws) (n:=n) (kind:=2) om with⟨_,_,m3⟩|⟨m1,_⟩
    .omega
    .exact zJ hz m1
   rw[gd]at wA;rw[hz,hm,gl];exact jpQ Z om wA
  .obtain⟨rfl,rfl⟩:=bad hz;exact jpu Z om hz
 have j4:(jag st.ws 2 n).2.length<=1000:=(jeh om so.K).ok.len;clear so hD hC mA hS good bad;generalize (jag st.ws 2 n).1.2=er at e1 e2 e3;refine qm ?_;exact PD.mk' rfl b2 fF
theorem sw_3{d i B:Nat}(hd:16<=d)(b:BB h p w s rw ow ro dat st st)(so:StOk st i)(hi:i<=2000)(hD:Dat h dat dv D)(hC:Cpy h p ow ro dat vd D)(lB:B<h.nx)(zB:ow B=0)(rB:¬ro B)(gB:h.get B=some (.cells (opV 3 a n t dv) false)) :
  Run (cl (d-1)) fuel c8_27 [] [(0,.p p 0),(3,.p B 0),(5,vd),(36,.i 3)] h (PD h p w s rw ow ro dat vd (doS 3 a n t D st)):=by
 have kE:=b.hp;have lp:=b.lp;have mA:=hD.len;have hS:doS 3 a n t D st = {st with ws:=(jag st.ws 3 n).2}:= by simp[doS]
 rw[hS];obtain⟨x,y,h1,y7,e1,good,bad,W1,t1⟩:=ww_Listen Z (d:=d-1) (n:=n) om so.K b.W;have b1:=b.wc (a':= {st with ws:=(jag st.ws 3 n).2}) W1 t1;have g1:=b.off_w t1 lB zB gB;have cC:=b1.hp;obtain⟨v,h2,e2,b2,f2,v2,rfl,wA⟩:=b1.rc Z (d:=d-1) (f:=31) (args:=[.p rw 0,.i 3,.i n]) (r':= {st with ws:=(jag st.ws 3 n).2})
  (P:=fun g v=>∃v2,v = .tup [v2,.i (jag st.ws 3 n).1.2]/\VI g v2 (jag st.ws 3 n).1.1) (fun _ _ _ m ⟨v2,e,hv⟩=>⟨v2,e,hv.mono m⟩) (fun g q l ga gn hq wR hl=>by
  have oR:WsOk (l.map RX.x):=by rw[hl];exact so.K.ok
  obtain⟨v2,q',l',g',k1,k0,k2,k3,k4,k5⟩:=jjJ Z (d:=d-1) (kind:=3) (n:=n) om om wR oR;rw[hl]at k0 k1 k3;exact⟨_,q',l',g',k1,k2,k3,k4,k5,v2,rfl,k0⟩)
 have fF:=(Fm.to (ro:=ro) t1).trans f2;have gH:=b2.hp;obtain⟨xs,cs,y9⟩:=b2.rhead;have wl:({st with ws:=(jag st.ws 3 n).2}:St).ws.length=(jag st.ws 3 n).2.length:=rfl;rw[wl]at y9;have q0:(V.slice xs (jag st.ws 3 n).2.length cs::({st with ws:=(jag st.ws 3 n).2}:St).tl)[0+0]?=some (V.slice xs (jag st.ws 3 n).2.length cs):=rfl;have o2v:=wA.one;have e3:cl (d-1) (.fn 32) [.i x,.i y,.i (jag st.ws 3 n).1.2,v2,.i ((jag st.ws 3 n).2.length-1),.i (jag st.ws 3 n).1.2] h2=some (.bool true,h2):=by
  by_cases hz:(jag st.ws 3 n).1.2=0
  .obtain⟨gd,gl⟩:=good hz;have hm:((jag st.ws 3 n).2.length:Int)-1=(st.ws.length:Int):=by
    rcases jfe (ws:=st.ws) (n:=n) (kind:=3) om with⟨_,_,m3⟩|⟨m1,_⟩
    .omega
    .exact zJ hz m1
   rw[gd]at wA;rw[hz,hm,gl];exact jpQ Z om wA
  .obtain⟨rfl,rfl⟩:=bad hz;exact jpu Z om hz
 have j4:(jag st.ws 3 n).2.length<=1000:=(jeh om so.K).ok.len;clear so hD hC mA hS good bad;generalize (jag st.ws 3 n).1.2=er at e1 e2 e3;refine qm ?_;exact PD.mk' rfl b2 fF
end
section
variable{cl:Nat->Call}(Z:Sem cl){h:H}{p w s rw:Nat}{ow:Nat->Nat}{ro dat:Nat->Prop}{st:St}{k a n t:Int}{dv vd:V}{D:List UInt8}
include Z
theorem sw_more{d B:Nat}{st':St}(hk:k<0\/8<k)(gB:h.get B=some (.cells (opV k a n t dv) false))(m:jdB cl (d-1) 43 h p w s rw ow ro dat [.p p 0,.agg (opV k a n t dv),vd] st') :
  Run (cl (d-1)) fuel c8_27 [] [(0,.p p 0),(3,.p B 0),(5,vd),(36,.i k)] h (PD h p w s rw ow ro dat vd st'):=by
 obtain⟨h',ow',ro',e1,b',f'⟩:=m;have n0:¬k=0:=by omega
 have n1:¬k=1:=by omega
 have n2:¬k=2:=by omega
 have n3:¬k=3:=by omega
 have n4:¬k=4:=by omega
 have n5:¬k=5:=by omega
 have n6:¬k=6:=by omega
 have n7:¬k=7:=by omega
 have n8:¬k=8:=by omega
 clear hk;refine qm ?_;exact PD.mk' rfl b' f'
theorem sw_all{d i B:Nat}(hd:16<=d)(b:BB h p w s rw ow ro dat st st)(so:StOk st i)(hi:i<=2000)(hD:Dat h dat dv D)(hC:Cpy h p ow ro dat vd D)(lB:B<h.nx)(zB:ow B=0)(rB:¬ro B)(gB:h.get B=some (.cells (opV k a n t dv) false))(t0:0<=t)(t1:t<=18446744073709551615) :
  Run (cl (d-1)) fuel c8_27 [] [(0,.p p 0),(3,.p B 0),(5,vd),(36,.i k)] h (PD h p w s rw ow ro dat vd (doS k a n t D st)):=by
 by_cases k0:k=0
 .subst k0;exact sw_0 Z hd b so hi hD hC lB zB rB gB
 by_cases k1:k=1
 .subst k1;exact sw_1 Z hd b so hi hD hC lB zB rB gB
 by_cases k2:k=2
 .subst k2;exact sw_2 Z hd b so hi hD hC lB zB rB gB
 by_cases k3:k=3
 .subst k3;exact sw_3 Z hd b so hi hD hC lB zB rB gB
 by_cases k4:k=4
 .subst k4;exact sw_4 Z hd b so hi hD hC lB zB rB gB
 by_cases k5:k=5
 .subst k5;exact sw_5 Z hd b so hi hD hC lB zB rB gB
 by_cases k6:k=6
 .subst k6;exact sw_6 Z hd b so hi hD hC lB zB rB gB
 by_cases k7:k=7
 .subst k7;exact sw_7 Z hd b so hi hD hC lB zB rB gB
 by_cases k8:k=8
 .subst k8;exact sw_8 Z hd b so hi hD hC lB zB rB gB
 refine sw_more Z om gB ?_;by_cases k9:k=9
 .subst k9;exact mo_9 Z om b so hi hD hC
 by_cases k10:k=10
 .subst k10;exact mo_10 Z om b so hi hD hC
 by_cases k11:k=11
 .subst k11;exact mo_11 Z om b so hi hD hC
 by_cases k12:k=12
 .subst k12;exact mo_12 Z om b so hi hD hC
 by_cases k13:k=13
 .subst k13;exact mo_13 Z om b so hi hD hC
 by_cases k14:k=14
 .subst k14;exact mo_14 Z om b so hi hD hC
 by_cases k15:k=15
 .subst k15;exact mo_15 Z om b so hi hD hC t0 t1
 by_cases k16:k=16
 .subst k16;exact mo_16 Z om b so hi hD hC
 by_cases k17:k=17
 .subst k17;exact mo_17 Z om b so hi hD hC
 by_cases k18:k=18
 .subst k18;exact mo_18 Z om b so hi
 by_cases k19:k=19
 .subst k19;exact mo_19 Z om b so hi hD hC
 by_cases k20:k=20
 .subst k20;exact mo_20 Z om b so
 exact mo_no Z om b om
theorem jqr{d i:Nat}(hd:16<=d)(b:BB h p w s rw ow ro dat st st)(so:StOk st i)(hi:i<=2000)(hD:Dat h dat dv D)(t0:0<=t)(t1:t<=18446744073709551615) :
  ∃h' ow' ro',cl d (.fn 8) [.p p 0,.agg (opV k a n t dv)] h=some (.bool true,h')/\BB h' p w s rw ow' ro' dat (doS k a n t D st) (doS k a n t D st)/\Fm h h' ow ro ow' ro':=by
 suffices q:∃v h',cl d (.fn 8) [.p p 0,.agg (opV k a n t dv)] h=some (v,h')/\∃ow' ro',v = .bool true/\BB h' p w s rw ow' ro' dat (doS k a n t D st) (doS k a n t D st)/\Fm h h' ow ro ow' ro' by
  obtain⟨_,h',e,ow',ro',rfl,q⟩:=q;exact⟨h',ow',ro',e,q⟩
 have ol:Old h ((h.new (.cells (opV k a n t dv) false)).new (.cells [] false)):=(Zz h).new.new;have hv:=(hD.keep b (Fm.old (ow:=ow) (ro:=ro) ol)).v;have mA:=hD.len;refine aT Z ?_;obtain⟨C,hC⟩:∃C,C=c8_27:=⟨_,rfl⟩
 simp only[c8,c8_29,yB,yH];rw[<- hC];refine qm ?_;refine Ops.copyB rfl rfl hv om fun a' c' h3 vZ uJ ho hz=>?_;have ho:Old ((h.new (.cells (opV k a n t dv) false)).new (.cells [] false)) h3:=ho;have hz:a'=h.nx+1\/(h.nx+2<=a'/\a'<h3.nx):=hz;have o3:=ol.trans ho;have xo:((h.new (.cells (opV k a n t dv) false)).new (.cells [] false)).nx=h.nx+2:=rfl;have x3:=ho.1;have b3:=b.old o3;have xN:=hD.keep b (Fm.old (ow:=ow) (ro:=ro) o3);have gB:h3.get h.nx=some (.cells (opV k a n t dv) false):=by
  rw[ho.2 _ om,jad Zd,jac]
 have bI:h.nx+1<=a'/\a'<h3.nx:=by
  omega
 have lp:=b.lp;have eD:Cpy h3 p ow ro dat (.slice (some (a',0)) D.length c') D:=⟨vZ,fun z hz=>by
  cases hz;refine⟨bI.2,b.W.top om,fun e=>?_,fun e=>?_,by omega⟩
  .have:=b.ro_lt (.inl e);omega
  .have:=b.ro_lt (.inr e);omega⟩
 have yV:=sw_all Z (d:=d) (k:=k) (a:=a) (n:=n) (t:=t) hd b3 so hi xN eD (B:=h.nx) om (b.W.top (zq _)) (fun e=>by have:=b.ro_lt (.inl e);omega) gB t0 t1;rw[<- hC]at yV;clear hD xN hv so;refine qm ?_;refine Run.cut _ yV ?_;rintro _ _ g ⟨rfl,rfl,ow',ro',b',f'⟩;clear yV hC;have wZ:=eD.keep f';obtain⟨z1,z2,z3,z4,z5⟩:=wZ.z a' rfl;have gcells:D≠[]->g.get a'=some (.cells (bts D) false):=fun hn=>by
  obtain⟨y1,y2,y3,_,_⟩:=eD.z a' rfl;rw[f'.ch.get a' y1 fun e=>e.elim (fun e=>e y2) y3,uJ hn]
 have fF:=(Fm.old (ow:=ow) (ro:=ro) o3).trans f';have xg:=f'.ch.nx;clear eD wZ uJ f' b3 gB vZ;refine qm ?_;refine Zq (fun m e g2=>∃j:Nat,m=D.length-j/\j<=D.length/\e=[(5,.slice (some (a',0)) D.length c'),(6,.bool true),(275,.i (D.length:Int)),(276,.i (j:Int))] /\
   (D≠[] -> ∃cs:List V,g2.get a'=some (.cells cs false)/\cs.length=D.length/\∀i,i<D.length -> ∃x,cs[i]?=some (.int .u8 x))/\g2.nx=g.nx/\∀j,j≠a'->g2.get j=g.get j)
  (k:=D.length) Ze ⟨0,rfl,by omega,rfl,fun hn=>⟨bts D,gcells hn,by simp,fun i hi=>⟨_,jkz (za hi)⟩⟩,rfl,fun _ _=>rfl⟩ ?_
 rintro _ _ g2 ⟨j,rfl,hj,rfl,lA,wC,nB⟩ n2 ih2;by_cases d4:(j:Int)<D.length
 case neg=>
  clear ih2 lA gcells;refine qm ?_;refine⟨ow',ro',rfl,b'.off om fun i hi ho=>nB i ?_,⟨by have:=fF.ch.nx;omega,fun i hi hb=>by rw[nB i om,fF.ch.get i hi hb]⟩,fF.tag,fF.rtag⟩;rintro rfl;rcases ho with ho|ho|ho|ho
  .exact ho z2
  .exact z3 ho
  .exact z4 ho
  .exact z5 ho
 obtain⟨cs,g1,g3,g4⟩:=lA (by rintro rfl;simp at d4;omega);obtain⟨x,hx⟩:=g4 j om;have cB:cs[0+(j:Int).toNat*1]?=some (.int .u8 x):=by rw[show 0+(j:Int).toNat*1=j by omega];exact hx
 have uG:(j:Int)+1=((j+1:Nat):Int):=by omega
 clear gcells lA;refine qm ?_;refine zcs rfl rfl rfl g1 om ?_;refine qm ?_;rw[uG];refine ih2 (D.length-(j+1)) om _ _ ⟨j+1,rfl,by omega,rfl,fun _=>⟨_,jab _,by simp;exact g3,fun i hi=>?_⟩,wC,fun i hi=>by rw[jaa hi,nB i hi]⟩;rw[zi];by_cases e:0+(j:Int).toNat*1=i
 .rw[zD e,zD om];exact⟨_,rfl⟩
 .rw[zC e];exact g4 i hi
end
section
variable{cl:Nat->Call}(Z:Sem cl)
include Z
theorem wr_out{d b4 b8 b9 b10 wb cap rk ro:Nat}{g:H}{own oth:En}{wl:List V}{rst i hup:Bool}{a c:Int}(hd:3<=d)(g4:g.get b4=some jew)(g8:g.get b8=some (.cells (own.cells rk) false))(g9:g.get b9=some (.cells (oth.cells ro) false))
  (aW:g.get b10=some (.cells [.bool true,.bool i,.bool false,.bool hup,.bool rst,.int .u64 a,.int .u64 c] false)) (gx:g.get wb=some (.cells wl false)) (hx:wl[0+14]?=some (.bool rst)) (n1:b4≠b10) (n2:b8≠b10) (n3:b9≠b10) (n4:wb≠b10)
  (hR:own.writes=true -> ∃q b,oth.ring=some q/\ja3 g ro b q cap) :
  Run (cl (d-1)) fuel c49_0 [] [(4,.p b4 0),(6,.p wb 0),(8,.p b8 0),(9,.p b9 0),(10,.p b10 0)] g
   (Fin c49.res fun v' h'=>v' = .agg [.bool true,.bool i,.bool (own.writes && !own.shut&&(decide (((oth.ring.getD []).length:Int)<cap)||hup||rst)),.bool hup,.bool rst,.int .u64 a,.int .u64 c]/\Ch (fun j=>j=b4\/j=b10) g h'):=by
 obtain⟨w0,f0,q0,uI,s0,i0,o0⟩:=own;obtain⟨w1,f1,q1,mJ,s1,i1,o1⟩:=oth;simp only[En.cells]at g8 g9;cases uI
 case false=>
  refine qm ?_;exact jbj rfl (jab _) rfl ⟨rfl,(Zs (.inr rfl)).trans (Zs (.inl rfl))⟩
 obtain⟨q,b,hq,R⟩:=hR rfl;have hq:q1=some q:=hq;subst hq;simp only[En.ptr]at g9;cases s0
 case true=>
  refine qm ?_;exact jbj rfl (jab _) rfl ⟨rfl,(Zs (.inr rfl)).trans (Zs (.inl rfl))⟩
 cases hup
 case true=>
  refine qm ?_;exact jbj rfl (jab _) rfl ⟨by simp[jao],(Zs (.inr rfl)).trans (Zs (.inl rfl))⟩
 cases rst
 case true=>
  refine qm ?_;exact jbj rfl (jab _) rfl ⟨by simp[jao],(Zs (.inr rfl)).trans (Zs (.inl rfl))⟩
 obtain⟨buf,frm,inn,out,C,V⟩:=R;have Yc:=jlO Z (d:=d-1) om C V.fit V.small;have e1:decide (0<((cap-q.length:Nat):Int))=decide ((q.length:Int)<cap):=by
  have:=V.fit;by_cases h1:(q.length:Int)<cap
  .rw[zG h1,zG om]
  .rw[zE h1,zE om]
 clear C V hR;refine qm ?_;rw[e1];exact jbj rfl (jab _) rfl ⟨by simp[jao],(Zs (.inr rfl)).trans (Zs (.inl rfl))⟩
theorem Fin.mono{res:List RV}{R R':V->H->Prop}{x:Ex}{e:Env}{h:H}(k:Fin res R x e h)(hR:∀v,R v h->R' v h):Fin res R' x e h:=by
 obtain⟨p1,l,p2,p3⟩:=k;exact⟨p1,l,p2,hR _ p3⟩
theorem wr_in{d b4 b5 b8 b9 b10 r0 r1 bo k n t0:Nat}{g:H}{x:Wi}{wv:V}{hup:Bool}(hd:3<=d)(hk:k=0\/k=1)(g4:g.get b4=some jew)(g5:g.get b5=some (.cells [.bool true,.i (n:Int),.i (k:Int)] false))(g8:g.get b8=some (.cells ((x.e k).cells (two r0 r1 k)) false))(g9:g.get b9=some (.cells ((x.e (1-k)).cells (two r0 r1 (1-k))) false))
  (aW:g.get b10=some (.cells [.bool true,.bool false,.bool false,.bool hup,.bool x.reset,.int .u64 (x.e k).inn,.int .u64 (x.e k).out] false)) (gx:g.get t0=some (x.obj r0 r1 wv)) (n1:b4≠b10) (n2:b8≠b10) (n3:b9≠b10) (n4:t0≠b10)
  (Ef:hup=((x.e (1-k)).what == 3)) (hO:∀q,(x.e k).ring=some q->ja3 g (two r0 r1 k) bo q x.cap) (hR:(x.e k).writes=true -> ∃q bt,(x.e (1-k)).ring=some q/\ja3 g (two r0 r1 (1-k)) bt q x.cap/\two r0 r1 (1-k)≠b10/\bt≠b10) :
  Run (cl (d-1)) fuel c49_1 [] [(4,.p b4 0),(5,.p b5 0),(6,.p t0 0),(8,.p b8 0),(9,.p b9 0),(10,.p b10 0)] g
   (Fin c49.res fun v' h'=>v' = .agg [.bool true,.bool (x.rIn k),.bool (x.rOut k),.bool ((x.e (1-k)).what == 3),.bool x.reset,.int .u64 (x.e k).inn,.int .u64 (x.e k).out]/\Ch (fun j=>j=b4\/j=b10) g h'):=by
 refine zab (Run.cut (fun y e' g'=>y = .normal/\e'=[(4,.p b4 0),(6,.p t0 0),(8,.p b8 0),(9,.p b9 0),(10,.p b10 0)] /\
  Upd b10 (.cells [.bool true,.bool (x.rIn k),.bool false,.bool hup,.bool x.reset,.int .u64 (x.e k).inn,.int .u64 (x.e k).out] false) g g') ?_ ?_)
 case refine_2=>
  rintro _ _ g' ⟨rfl,rfl,u⟩;refine End.seq ?_;have:=wr_out Z (d:=d) (cap:=x.cap) (wl:=x.cells r0 r1 wv) hd (by rw[u.get _ n1,g4]) (by rw[u.get _ n2,g8]) (by rw[u.get _ n3,g9]) u.self (by rw[u.get _ n4,gx];rfl) (Zv rfl) n1 n2 n3 n4 fun hw=>by
   obtain⟨q,bt,q1,q2,n6,n7⟩:=hR hw;exact⟨q,bt,q1,q2.keep (u.get _ n6) (u.get _ n7)⟩
  refine Zy this fun v h' ⟨p1,p2⟩=>⟨?_,(u.ch (.inr rfl)).trans p2⟩
  rw[p1,Ef];rfl
 have oN:=jk6 Z (d:=d-1) om gx hk;have xZ:=Zv (x:=x) (r0:=r0) (r1:=r1) (wv:=wv) (o:=0+14) rfl;unfold Wi.obj at gx;have yZ:x.rIn k=match (x.e k).ring with
  |none=>false
  |some q=>!q.isEmpty||x.silent k||x.reset:=by
  unfold Wi.rIn Wi.silent;cases (x.e k).ring with
  |none=>rfl
  |some q=>simp[Bool.or_assoc]
 rw[yZ];clear yZ hR;cases w7:(x.e k).ring with
 |none=>
  have c8:((x.e k).cells (two r0 r1 k))[0+2]?=some (.ptr none):=by simp[En.cells,w7,En.ptr]
  refine qm ?_;exact Zn ⟨rfl,rfl,Zt⟩
 |some q=>
  have c8:((x.e k).cells (two r0 r1 k))[0+2]?=some (.p (two r0 r1 k) 0):=by simp[En.cells,w7,En.ptr]
  obtain⟨buf,frm,inn,out,C,V⟩:=hO q w7;have j4:=jje Z (d:=d-1) om C;clear C V hO;cases q with
  |cons y q=>
   have pB:0<(((y::q:List UInt8).length:Nat):Int):=by simp
   have eT:decide (0<(((y::q:List UInt8).length:Nat):Int))=true:=zG pB;refine qm ?_;exact Zn ⟨rfl,rfl,Zt⟩
  |nil=>
   have j4:cl (d-1) (.fn 115) [.p (two r0 r1 k) 0] g=some (.i 0,g):=j4;cases kA:x.silent k
   .rw[kA]at oN;cases hrs:x.reset
    .rw[hrs]at xZ aW;refine qm ?_;exact Zn ⟨rfl,rfl,Zt⟩
    .rw[hrs]at xZ aW;refine qm ?_;exact Zn ⟨rfl,rfl,Zt⟩
   .rw[kA]at oN;refine qm ?_;exact Zn ⟨rfl,rfl,Zt⟩
end
theorem Wi.en_cells{x:Wi}{r0 r1 k o:Nat}{wv:V}(hk:k=0\/k=1)(ho:o=k*7):((x.cells r0 r1 wv).drop o).take 7=(x.e k).cells (two r0 r1 k):=by
 subst ho;rcases hk with rfl|rfl<;>rfl
theorem En.cells_one(x:En)(r:Nat):(x.cells r).all V.one=true:=by
 obtain⟨w,f,q,wr,s,i,o⟩:=x;cases q<;>rfl
theorem jeQ{e:Env}{h:H}{d n:Nat}{a:Opd}{g:Option (Nat×Bool)}{r:List (Nat×I×Option (Nat×Bool))}{b o:Nat}{l:List V}{ro:Bool}{v:List V}(ha:a.ev e=some (.ptr (some (b,o))))(hb:h.get b=some (.cells l ro))(hn:o+n<=l.length)
  (hv:(l.drop o).take n=v) (hd:e.get d=some (.agg v)) (k:jaO e h r=true):jaO e h ((d,.loadN n a,g)::r)=true:=by
 simp only[jaO,I.read,ha,jcz hb hn,hv,hd,V.same_refl,k,Bool.and_true];cases wanted e g<;>rfl
section
variable{cl:Nat->Call}(Z:Sem cl)
include Z
end
section
variable{cl:Nat->Call}(Z:Sem cl){h0:H}{w s:Nat}{ow:Nat->Nat}{ws:Ws}{now:Int}{tb:Tb}{no:Option (Nat×Nat)}
include Z
theorem jmw{d:Nat}{fd:Int}(hd:4<=d)(a:WSt h0 w s ow ws now tb no)(o:WsOk ws) :
  ∃h',cl d (.fn 49) [.p w 0,.i fd] h0=some (.agg (jfr ws fd),h')/\Old h0 h':=by
 obtain⟨l,a,rfl⟩:=a;have oA:Old h0 (h0.new jew):=(Zz _).new;have gA0:(h0.new jew).get h0.nx=some jew:=jac _;have nA:(h0.new jew).nx=h0.nx+1:=rfl;refine jae (aT Z ?_);refine qo ?_;refine zcu (ob:=jew) rfl rfl ?_;generalize h0.new jew=hA at oA gA0 nA ⊢;rcases jdC Z (d:=d-1) (fd:=fd) om (a.old oA) o.uniq with⟨j5,h1,e1,o1,x1⟩|⟨n,k,m,t,rfl,hm,d7,ht,hk,h1,e1,o1,x1⟩
 .have hS:jfr (wxs l) fd=jlZ:=jaD j5;rw[hS];have g1:h1.get h0.nx=some jew:=by rw[o1.2 _ om,gA0]
  refine qm ?_;refine jbj rfl (jab _) rfl ⟨rfl,?_⟩;exact ((oA.trans o1).new.set om).set (zq _)
 have hS:jfr (wxs l) (m:Int)=_:=jaA o.uniq d7 (jak ht);have hS:jfr (wxs l) (m:Int)=t.x.ready k:=hS;rw[hS];have WI:=o.ok _ (zc (jak ht));have X:=a.wf.ok n t ht;have w6:1-k=0\/1-k=1:=by omega
 let h2:=(h1.new (.cells [.bool false,.i 0,.i 0] false)).set h1.nx (.cells [.bool true,.i (n:Int),.i (k:Int)] false);have n2:h2.nx=h0.nx+3:=by show h1.nx+1=_;omega
 have g2:∀j,j<h0.nx->h2.get j=h0.get j:=fun j hj=>by
  show (H.set _ _ _).get j=_;rw[jaa om,jad om,o1.2 j om,oA.2 j hj]
 have a_:h2.get h0.nx=some jew:=by
  show (H.set _ _ _).get _=_;rw[jaa om,jad om,o1.2 _ om];exact gA0
 have gp:h2.get h1.nx=some (.cells [.bool true,.i (n:Int),.i (k:Int)] false):=jab _;have y1:h1.nx=h0.nx+2:=by omega
 obtain⟨C,hC⟩:∃C,C=c49_1:=⟨_,rfl⟩
 simp only[c49_8,c49_7,c49_6,c49_5,c49_4,c49_3,yB,yF];rw[<- hC];refine qo ?_;refine zaw rfl e1 ?_;refine qo ?_;refine zcu rfl rfl ?_;refine Ga ?_;refine zct rfl rfl rfl rfl (jac _) (zu rfl) ?_;rw[show ((h1.new (.cells [.bool false,.i 0,.i 0] false)).set h1.nx (.cells (jao [.bool false,.i 0,.i 0] 0 [.bool true,.i (n:Int),.i (k:Int)]) false))=h2 from rfl]
 clear_value h2
 clear e1 o1 gA0 nA oA;have hx:=X.hx;have lx:=X.lx;have wC:h2.get t.wb=some (.cells (t.x.cells t.r0 t.r1 t.wv) false):=by rw[g2 _ lx];exact hx
 have ek:((1:Int)-(k:Int)).toNat=1-k:=by omega
 have Ff:=Wi.cells_length t.x t.r0 t.r1 t.wv;rw[y1]at gp ⊢;refine Ga ?_;refine Zo ?_;rw[n2];refine Ga ?_;refine zcw rfl wC om ?_;rw[Wi.en_cells hk om];refine Ga ?_;refine zcw rfl wC om ?_;rw[Wi.en_cells (k:=1-k) w6 om];refine Ops.make_at rfl rfl ?_;refine Ops.make_at rfl rfl ?_;refine Ops.storeN_chk rfl rfl rfl (En.cells_one _ _) (by rw[jaa om];exact jab _) (zu rfl) ?_ ?_
 .refine jau rfl (l:=[.bool true,.i (n:Int),.i (k:Int)]) (ro:=false) (by rw[jaa om,jaa om,jaa om];exact gp) rfl rfl (jeQ rfl (l:=t.x.cells t.r0 t.r1 t.wv) (ro:=false) (by rw[jaa om,jaa om,jaa om];exact wC) om (Wi.en_cells (k:=1-k) w6 om) rfl ja9)
 refine zct rfl rfl rfl (En.cells_one _ _) (by rw[jaa om];exact jab _) (zu rfl) ?_;have b_:∀(e:En) (r:Nat),jao [V.i 0,V.i 0,V.ptr none,V.bool false,V.bool false,V.int IntKind.u64 0,V.int IntKind.u64 0] 0 (e.cells r)=e.cells r:=fun e r=>jcn _ _ rfl;rw[b_,b_];generalize hh:H.set (H.set (H.set (H.set _ _ _) _ _) _ _) _ _=h3;have z3:h3.nx=h0.nx+5:=by rw[<- hh];show h2.nx+2=_;omega
 have zo:h3.get (h0.nx+3)=some (.cells ((t.x.e k).cells (two t.r0 t.r1 k)) false):=by
  rw[<- hh,jaa om];exact jab _
 have zt:h3.get (h0.nx+3+1)=some (.cells ((t.x.e (1-k)).cells (two t.r0 t.r1 (1-k))) false):=by
  rw[<- hh];exact jab _
 have g3:∀j,j<h0.nx+3->h3.get j=h2.get j:=fun j hj=>by
  rw[<- hh,jaa om,jaa om,jaa om,jaa om];rfl
 have nK:h3.get t.wb=some (.cells (t.x.cells t.r0 t.r1 t.wv) false):=by rw[g3 _ om,wC]
 have z0:h3.get h0.nx=some jew:=by rw[g3 _ om,a_]
 have Gf:h3.get (h0.nx+2)=some (.cells [.bool true,.i (n:Int),.i (k:Int)] false):=by rw[g3 _ om,gp]
 have kk:∀j,j<h0.nx->h3.get j=h0.get j:=fun j hj=>by rw[g3 _ om,g2 _ hj]
 clear hh g3 gp wC a_ g2 n2;have zo:h3.get (h0.nx+3+0)=some (.cells ((t.x.e k).cells (two t.r0 t.r1 k)) false):=zo;have i5:((t.x.e k).cells (two t.r0 t.r1 k))[0+5]?=some (.int .u64 (t.x.e k).inn):=rfl;have i6:((t.x.e k).cells (two t.r0 t.r1 k))[0+6]?=some (.int .u64 (t.x.e k).out):=rfl;have Nk:=Wi.backlog_cell (x:=t.x) (r0:=t.r0) (r1:=t.r1) (wv:=t.wv) (o:=0+15) rfl;have Hf:=Zv (x:=t.x) (r0:=t.r0) (r1:=t.r1) (wv:=t.wv) (o:=0+14) rfl;obtain⟨av,cp,aA,_⟩:=X.wait.1;have Pk:(t.x.cells t.r0 t.r1 t.wv)[0+16]?=some (.slice av t.x.waiting.length cp):=by simp[Wi.cells,En.cells,aA]
 have o3:Old h0 h3:=⟨by omega,kk⟩
 by_cases iE:0<t.x.backlog
 .have hR:t.x.ready k=[.bool true,.bool (!t.x.waiting.isEmpty),.bool false,.bool false,.bool false,.int .u64 (t.x.e k).inn,.int .u64 (t.x.e k).out]:=zD iE;rw[hR];have ew:decide (0<((t.x.waiting.length:Nat):Int)) = !t.x.waiting.isEmpty:=by cases t.x.waiting<;>simp
  clear hC Ff ek w6 y1;refine qm ?_;rw[ew];refine jbj rfl (jab _) rfl ⟨rfl,?_⟩;exact (((o3.new.set om).set om).set om)
 .have hR:t.x.ready k=[.bool true,.bool (t.x.rIn k),.bool (t.x.rOut k),.bool ((t.x.e (1-k)).what == 3),.bool t.x.reset,.int .u64 (t.x.e k).inn,.int .u64 (t.x.e k).out]:=zC iE;rw[hR];have j0:((t.x.e (1-k)).cells (two t.r0 t.r1 (1-k)))[0+0]?=some (.i (t.x.e (1-k)).what):=rfl;refine qm ?_;refine Ops.store1_chk rfl rfl rfl (by first|exact jab _|(rw[jab])) (zu rfl) ?_ ?_
  .exact jau rfl (l:=t.x.cells t.r0 t.r1 t.wv) (ro:=false) (by rw[jaa om,jaa om,jad om];exact nK) Hf rfl ja9
  refine Gb ?_;generalize hh:H.set (H.set (H.set _ _ _) _ _) _ _=h5;have y5:h5.nx=h3.nx+1:=by rw[<- hh];rfl
  have g5:∀j,j<h3.nx->h5.get j=h3.get j:=fun j hj=>by
   rw[<- hh,jaa om,jaa om,jaa om,jad hj]
  have ehup:decide ((t.x.e (1-k)).what=3)=((t.x.e (1-k)).what == 3):=rfl;have z5:h5.get h3.nx=some (.cells [.bool true,.bool false,.bool false,.bool ((t.x.e (1-k)).what == 3),.bool t.x.reset,.int .u64 (t.x.e k).inn,.int .u64 (t.x.e k).out] false):=by
   rw[<- hh,jab,<- ehup];rfl
  clear hh;have o5:Old h0 h5:=o3.trans ⟨by omega,g5⟩;have lr:∀i,i=0\/i=1 -> ∀q,(t.x.e i).ring=some q->ja3 h5 (t.r i) (t.b i) q t.x.cap/\t.r i<h0.nx/\t.b i<h0.nx:=fun i hi q hq=>by
   obtain⟨p1,_,_,p4,p5⟩:=X.ring i hi q hq;exact⟨p1.keep (o5.2 _ p4) (o5.2 _ p5),p4,p5⟩
  have q4:h5.get h0.nx=some jew:=by rw[g5 _ om,z0]
  have q5:h5.get (h0.nx+2)=some (.cells [.bool true,.i (n:Int),.i (k:Int)] false):=by rw[g5 _ om,Gf]
  have q8:h5.get (h0.nx+3+0)=some (.cells ((t.x.e k).cells (two t.r0 t.r1 k)) false):=by rw[g5 _ om,zo]
  have q9:h5.get (h0.nx+3+1)=some (.cells ((t.x.e (1-k)).cells (two t.r0 t.r1 (1-k))) false):=by rw[g5 _ om,zt]
  have qx:h5.get t.wb=some (t.x.obj t.r0 t.r1 t.wv):=by rw[g5 _ om,nK];rfl
  have Jf:=WI.pair k hk;rw[hC];refine Zy (wr_in Z (d:=d) (bo:=t.b k) (n:=n) (hup:=(t.x.e (1-k)).what == 3) om hk q4 q5 q8 q9 z5 qx om om om om rfl (fun q hq=>(lr k hk q hq).1) fun fB=>?_) fun v h' ⟨p1,p2⟩=>⟨p1,?_⟩
  .obtain⟨q,hq⟩:=zK.1 (Jf.1 fB);obtain⟨r1,r2,r3⟩:=lr (1-k) w6 q hq;exact⟨q,t.b (1-k),hq,r1,by show t.r (1-k)≠_;omega,by omega⟩
  .have Kf:=o5.1;exact⟨zA Kf p2.nx,fun j hj=>by rw[p2.get j om (by rintro (e|e)<;>omega),o5.2 j hj]⟩
end
structure Rdy where
 op:Bool
 inn:Bool
 out:Bool
 hup:Bool
 err:Bool
 rd:Int
 wr:Int
def Rdy.cells(r:Rdy):List V:=[.bool r.op,.bool r.inn,.bool r.out,.bool r.hup,.bool r.err,.int .u64 r.rd,.int .u64 r.wr]
def Rdy.no:Rdy:=⟨false,false,false,false,false,0,0⟩
def Wi.rdy(x:Wi)(k:Nat):Rdy:=
 if 0<x.backlog then⟨true,!x.waiting.isEmpty,false,false,false,(x.e k).inn,(x.e k).out⟩
 else⟨true,x.rIn k,x.rOut k,(x.e (1-k)).what == 3,x.reset,(x.e k).inn,(x.e k).out⟩
noncomputable def rdyS(ws:Ws)(fd:Int):Rdy:=jcd ws fd Rdy.no fun _ k x=>x.rdy k
theorem jjO(ws:Ws)(fd:Int):jfr ws fd=(rdyS ws fd).cells:=by
 unfold jfr rdyS jcd;split
 .rfl
 .split
  .rfl
  .show Wi.ready _ _=(Wi.rdy _ _).cells;unfold Wi.ready Wi.rdy;split<;>rfl
def mayAsk(ev:Int):Prop:=ev=0\/ev=1\/ev=4\/ev=5
instance (ev:Int):Decidable (mayAsk ev):=inferInstanceAs (Decidable (_\/_))
theorem wrap_zero{n:Nat}(hn:n<2 ^ 64)(h:IntKind.i64.wrap (n:Int)=0):n=0:=by
 have e:IntKind.wrap .i64 n=if (n:Int)%18446744073709551616>=9223372036854775808 then (n:Int)%18446744073709551616-18446744073709551616 else (n:Int)%18446744073709551616:=by
  unfold IntKind.wrap;simp[IntKind.bits,IntKind.signed]
 rw[e]at h;split at h<;>omega
structure BX(h0 h:H)(p w s rw:Nat)(ow:Nat->Nat)(ro:Nat->Prop)(st:St)(i:Nat):Prop where
 b:BB h p w s rw ow ro (fun j=>j<h0.nx) st st
 so:StOk st i
 old:Old h0 h
 own:∀j,ow j≠0\/ro j->h0.nx<=j
 lp:h0.nx<=p
theorem old_fm{h0 h h':H}{ow ow':Nat->Nat}{ro ro':Nat->Prop}(o:Old h0 h)(f:Fm h h' ow ro ow' ro')(own:∀j,ow j≠0\/ro j->h0.nx<=j):Old h0 h':=
 ⟨zA o.1 f.ch.nx,fun j hj=>by rw[f.ch.get j (zr hj o.1) fun hb=>by have:=own j hb;omega,o.2 j hj]⟩
theorem BX.fm{h0 h h':H}{p w s rw:Nat}{ow ow':Nat->Nat}{ro ro':Nat->Prop}{st st':St}{i i':Nat}(x:BX h0 h p w s rw ow ro st i)(b:BB h' p w s rw ow' ro' (fun j=>j<h0.nx) st' st')(f:Fm h h' ow ro ow' ro')(so:StOk st' i'):BX h0 h' p w s rw ow' ro' st' i':=by
 refine⟨b,so,old_fm x.old f x.own,fun j hj=>?_,x.lp⟩;rcases zx j h.nx with h1|h1
 .rw[f.tag j h1,f.rtag j h1]at hj;exact x.own j hj
 .exact zA x.old.1 h1
theorem BX.old'{h0 h h':H}{p w s rw:Nat}{ow:Nat->Nat}{ro:Nat->Prop}{st:St}{i:Nat}(x:BX h0 h p w s rw ow ro st i)(o:Old h h'):BX h0 h' p w s rw ow ro st i:=
 x.fm (x.b.old o) (Fm.old o) x.so
def st0:St:=⟨[],0,Tb.zero,none⟩
theorem atS_nil(fd:Int):atS [] fd=none:=jfh fun n k=>by rintro⟨x,h,_⟩;simp at h
theorem st0_ok:StOk st0 0 where
 K:=⟨⟨fun n k n' k' fd h=>(by obtain⟨x,hx,_⟩:=h;simp[st0]at hx),fun x hx=>(by simp[st0]at hx),by simp[st0],fun x hx=>(by simp[st0]at hx)⟩,fun i j x y p q m hx=>by simp[st0]at hx⟩
 nt:= .inl rfl
 now:=⟨Int.le_refl _,by show (0:Int)<=_;omega⟩
 tb:=fun k=>⟨Int.le_refl _,Int.le_refl _⟩
theorem Ops.build{call:Call}{fuel base:Nat}{K:List Fr}{e:Env}{h:H}{Q:Post}{ix:Nat}{dst:Option Nat}{ops:List Ins}{keep:List Nat}{at_:Option Nat}{zero l:List V}{parts:List (Nat×Nat×Opd)}{ps:List (Nat×Nat×V)}
  (he:jb2 e parts=some ps) (hf:jaF zero ps=some l) (k:Ops call fuel base ops keep K (layv e dst (.agg l)) h Q):Ops call fuel base (⟨ix,dst,.build zero parts,none,at_,[]⟩::ops) keep K e h Q:=
 zau rfl (by simp only[I.pure,he,hf]) k
section
variable{cl:Nat->Call}(Z:Sem cl)
include Z
def wc0(s:Nat):List V:=(List.replicate 96 ([.bool false,.i 0,.i 0]:List V)).flatten++[.nils,.p s 0,.int .u64 0,.bool false,.i 0,.i 0]
def rc0:List V:= .nils::tail 0 (fun _=>false) (fun _=>0) (-1) 0
omit Z in
theorem wc0_eq(s:Nat):wc0 s=wc (fun i=>atS [] (i:Int)) .nils s 0 none:=by
 have e:(fun i:Nat=>atS [] (i:Int))=fun _=>none:=by funext i;exact atS_nil _
 rw[e];have:(List.replicate 96 ([.bool false,.i 0,.i 0]:List V)).flatten=jdJ fun _=>none:=by
  kernel_rfl
 unfold wc0 wc;rw[this];rfl
omit Z in
theorem fillW(s:Nat):jaF ((List.replicate 96 ([.bool false,.i 0,.i 0]:List V)).flatten++[.nils,.ptr none,.int .u64 0,.bool false,.i 0,.i 0]) [(289,1,.p s 0)]=some (wc0 s):=by kernel_rfl
omit Z in
theorem fillR:jaF ([.nils,.int .u64 0]++List.replicate 32 (.bool false:V)++List.replicate 34 (.i 0:V)) [(66,1,.i (-1))]=some rc0:=by kernel_rfl
set_option maxRecDepth 100000 in
theorem nw_world{d:Nat}(hd:2<=d)(h:H):cl d (.fn 25) [] h=some (.p (h.nx+1) 0,(h.new Tb.zero.obj).new (.cells (wc0 h.nx) false)):=by
 have hs:=sp_new Z (d:=d-1) om h;refine jaj (aT Z ?_);refine zab (zac (Ops.mv rfl (Ops.nil qkp (End.seq (zab (zac (zaw rfl hs (Ops.build rfl (fillW h.nx) (zcu rfl rfl ?_)))))))));refine qo ?_;exact⟨rfl,rfl⟩
set_option maxRecDepth 100000 in
theorem nw_ref{d:Nat}(hd:1<=d)(h:H):cl d (.fn 26) [] h=some (.p h.nx 0,h.new (.cells rc0 false)):=by
 refine jaj (aT Z ?_);refine zab (zac (Ops.mv rfl (Ops.nil qkp (End.seq (zab (zac (Ops.build rfl fillR (zcu rfl rfl ?_))))))));refine qo ?_;exact⟨rfl,rfl⟩
theorem nw_fresh{d:Nat}(hd:3<=d)(h:H)(hf:∀j,h.nx<=j->h.get j=none):∃p w s rw ow ro h',cl d (.fn 7) [] h=some (.p p 0,h')/\BX h h' p w s rw ow ro st0 0:=by
 have e1:=nw_world Z (d:=d-1) om h;have e2:=nw_ref Z (d:=d-1) om ((h.new Tb.zero.obj).new (.cells (wc0 h.nx) false));have x1:((h.new Tb.zero.obj).new (.cells (wc0 h.nx) false)).nx=h.nx+2:=rfl;rw[x1]at e2;have o4:Old h ((((h.new Tb.zero.obj).new (.cells (wc0 h.nx) false)).new (.cells rc0 false)).new (.cells [.p (h.nx+1) 0,.p (h.nx+2) 0] false)):=(Zz h).new.new.new.new;refine⟨h.nx+3,h.nx+1,h.nx,h.nx+2,fun j=>if j=h.nx then 3 else if j=h.nx+1 then 1 else 0,fun j=>j=h.nx+2,(((h.new Tb.zero.obj).new (.cells (wc0 h.nx) false)).new (.cells rc0 false)).new (.cells [.p (h.nx+1) 0,.p (h.nx+2) 0] false),jaj (aT Z ?_),⟨⟨?_,?_,?_,?_,?_,?_,?_⟩,st0_ok,o4,?_,?_⟩⟩
 .refine qm ?_;exact⟨rfl,rfl⟩
 .refine⟨[],⟨⟨⟨.nils,?_,Row.nil _ _ _,fun z hz=>by cases hz⟩,?_,?_,?_,?_,?_,fun j hj=>?_,fun n t ht=>by simp at ht⟩,fun n k fd d7=>?_⟩,rfl⟩
  .have e:=wc0_eq h.nx;show _=some (Obj.cells (wc (fun i=>atS [] (i:Int)) .nils h.nx 0 none) false);rw[<- e];exact qgt
  .exact qgt
  .show (if h.nx+1=h.nx then 3 else if h.nx+1=h.nx+1 then 1 else 0)=1;rw[zC om,zD rfl]
  .show (if h.nx=h.nx then 3 else if h.nx=h.nx+1 then 1 else 0)=3;rw[zD rfl]
  .simp<;>omega
  .simp<;>omega
  .have hj:h.nx+4<=j:=hj;show (if j=h.nx then 3 else if j=h.nx+1 then 1 else 0)=0;rw[zC om,zC om]
  .obtain⟨x,hx,_⟩:=d7;simp at hx
 .refine⟨[],⟨⟨h.nx+3,fun e=>zJ rfl e,fun g gn gk=>⟨?_,?_,by omega,fun e=>zJ rfl e,fun _=>?_,fun r hr=>by cases hr⟩⟩,fun j hj=>?_,rfl,fun j hj hd=>?_⟩,rfl⟩
  .rw[gn];simp
  .rw[gn];simp
  .rw[gk (h.nx+2) Zd (.inl rfl)];show _=some (Obj.cells rc0 false);exact qgt
  .rcases hj with rfl|hj
   .simp
   .simp<;>omega
  .have hj:j=h.nx+2:=hj;have hd:j<h.nx:=hd;omega
 .exact qgt
 .simp
 .intro j hj;have hj:j=h.nx+2\/j<h.nx:=hj;show (if j=h.nx then 3 else if j=h.nx+1 then 1 else 0)=0;rw[zC om,zC om]
 .show (if h.nx+3=h.nx then 3 else if h.nx+3=h.nx+1 then 1 else 0)=0;rw[zC om,zC om]
 .intro hj;have hj:h.nx+3=h.nx+2\/h.nx+3<h.nx:=hj;omega
 .intro j hj;rcases hj with hj|hj
  .have hj:(if j=h.nx then 3 else if j=h.nx+1 then 1 else 0)≠0:=hj;by_cases h1:j=h.nx
   .omega
   .rw[zC h1]at hj;by_cases h2:j=h.nx+1
    .omega
    .rw[zC h2]at hj;exact zJ rfl hj
  .have hj:j=h.nx+2:=hj;omega
 .omega
end
end Am.Sigs
