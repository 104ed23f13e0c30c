/- Our own library, part 18. -/
import Derived.Test.YtafdknfdmlknfaaGreatH16
import Derived.Test.YtafdknfdmlknfaaGreatH17
import Derived.Test.YtafdknfdmlknfaaGreatH09
import Derived.Test.YtafdknfdmlknfaaGreatH14
set_option maxHeartbeats 8000000
set_option maxRecDepth 800
set_option linter.all false
namespace Am.Sigs
open Am Go
def noI:Option (Nat × Nat)->Int
 | none=>-1
 | some p=>p.1
def siI:Option (Nat × Nat)->Int
 | none=>0
 | some p=>p.2
theorem put_clear {x:Wi} {k:Nat} {q:List UInt8} : (x.setq k []).came (1-k) false (decide (0<q.length))=x.take k q.length q:=by
 unfold Wi.take
 rw [List.drop_length]
section
variable {cl:Nat->Call} (hcl:Sem cl) {h:H} {w s:Nat} {ow:Nat->Nat} {ws:Ws} {now:Int} {tb:Tb} {no:Option (Nat × Nat)}
include hcl
theorem je0 {d:Nat} (hd:11<=d) (a:WSt h w s ow ws now tb no) (nt:NtOk ws (noI no) (siI no)) (hok:tb.ok 1000000) :
  ∃ h',cl d (.fn 103) [.p w 0] h=some (.tup [],h')/\WSt h' w s ow (jao ws (tb.sum 32) (noI no) (siI no)) now tb no/\To h h' ow ow:=by
 obtain ⟨l,a,rfl⟩:=a
 obtain ⟨sa,c,hw,hsl⟩:=a.wf.head
 have lw:=a.wf.lw
 suffices q : ∃ v h',cl d (.fn 103) [.p w 0] h=some (v,h')/\(v = .tup []/\WSt h' w s ow (jao (wxs l) (tb.sum 32) (noI no) (siI no)) now tb no/\To h h' ow ow) by
  obtain ⟨_,h',e,rfl,q⟩:=q;exact ⟨h',e,q⟩
 cases no with
 | none=>
  have q1:(wc (fun i=>atS (wxs l) (i:Int)) (.slice sa l.length c) s now none)[0+291+0]?=some (.bool false):=jot (j:=0) om rfl
  have hS:jao (wxs l) (tb.sum 32) (noI none) (siI none)=wxs l:=zG (by show (-1:Int)<0;omega)
  rw [hS]
  have same:WSt h w s ow (wxs l) now tb none:=⟨l,a,rfl⟩
  refine aT hcl ?_
  refine Ga ?_
  exact ⟨rfl,same,To.refl _ _⟩
 | some p=>
  obtain ⟨n,k⟩:=p
  obtain ⟨hk,x,hx,hx0,hx1⟩:(k=0\/k=1) /\ ∃ x,(wxs l)[n]?=some x/\x.e0.ring≠none/\x.e1.ring≠none:=by
   rcases nt with e | ⟨n',k',x,e1,e2,hk,hx,p⟩
   ·have e:(n:Int) = -1:=e
    omega
   ·have e1:(n:Int)=n':=e1
    have e2:(k:Int)=k':=e2
    obtain rfl:n=n':=by omega
    obtain rfl:k=k':=by omega
    exact ⟨hk,x,hx,p⟩
  obtain ⟨t,ht,rfl⟩:=jjg hx
  obtain ⟨q,hq⟩ : ∃ q,(t.x.e k).ring=some q:=by
   rcases hk with rfl | rfl
   ·exact zN.1 hx0
   ·exact zN.1 hx1
  have hS:jao (wxs l) (tb.sum 32) (noI (some (n,k))) (siI (some (n,k)))=if tb.sum 32=0 then (wxs l).set n (t.x.take k q.length q) else if q=[] then (wxs l).set n (t.x.fill (1-k) (min 1 t.x.cap) [] [1]) else wxs l:=by
   unfold jao
   show (if (n:Int)<0 then _ else _)=_
   rw [zF om]
   show (match (wxs l)[(n:Int).toNat]? with | none=>_ | some x=>match (x.e (k:Int).toNat).ring with | none=>_ | some q=>_)=_
   rw [zz,hx]
   simp only [zz,hq]
   rfl
  rw [hS]
  have q0:(wc (fun i=>atS (wxs l) (i:Int)) (.slice sa l.length c) s now (some (n,k)))[0+291+0]?=some (.bool true):=jot (j:=0) om rfl
  have q1:(wc (fun i=>atS (wxs l) (i:Int)) (.slice sa l.length c) s now (some (n,k)))[0+291+1]?=some (.i (n:Int)):=jot (j:=1) om rfl
  have q2:(wc (fun i=>atS (wxs l) (i:Int)) (.slice sa l.length c) s now (some (n,k)))[0+291+2]?=some (.i (k:Int)):=jot (j:=2) om rfl
  have q3:(wc (fun i=>atS (wxs l) (i:Int)) (.slice sa l.length c) s now (some (n,k)))[0+288]?=some (.slice sa l.length c):=jbe rfl
  have q4:(wc (fun i=>atS (wxs l) (i:Int)) (.slice sa l.length c) s now (some (n,k)))[0+289]?=some (.p s 0):=jfX rfl
  have hlt:=x_lt ht
  obtain ⟨z,rfl,z1,z2,z3⟩:=hsl (by rintro rfl;simp at hlt)
  have w2:(wps l)[0+(n:Int).toNat*1]?=some (.p t.wb 0):=by rw [show 0+(n:Int).toNat*1=n by omega];exact jdC ht
  have X0:=a.wf.ok n t ht
  have hx0:=X0.hx
  unfold Wi.obj at hx0
  have q5:=Wi.ring_cell (x:=t.x) (r0:=t.r0) (r1:=t.r1) (wv:=t.wv) hk hq (o:=0+0+(k:Int).toNat*7+2) om
  obtain ⟨h1,e1,c1⟩:=jmr hcl (d:=d-1) (h0:=h) om a.wf.hs a.wf.ls hok
  have o1:=Old.ofCh c1
  have a1:=a.old o1
  have X:=a1.wf.ok n t ht
  obtain ⟨p1,p2,p3,p4,p5,p6⟩:=X.apart hk hq
  by_cases hsum:tb.sum 32=0
  ·rw [zG hsum]
   obtain ⟨h2,e2,R2,c2⟩:=jlG hcl (d:=d-1) om p1 p2 p3 p4
   have W1:=a1.wf.clear ht hk hq c2 R2
   have ht1:(l.set n { t with x:=t.x.setq k [] })[n]?=some { t with x:=t.x.setq k [] } := by rw [zi,zG rfl,zG (x_lt ht)]
   have X1:=W1.ok n _ ht1
   obtain ⟨h3,e3,u3⟩:=jfS hcl (d:=d-1) (k:=1-k) om X1.hx om false (decide (0<q.length))
   have W2:=W1.upd ht1 u3 (by rcases hk with rfl | rfl<;>rfl) (by rcases hk with rfl | rfl<;>rfl) (fun i hi=>by rcases hk with rfl | rfl<;>rcases hi with rfl | rfl<;>rfl)
   rw [List.set_set] at W2
   have W2:WF h3 w s ow (fun i=>atS (wxs l) (i:Int)) (l.set n { t with x:=t.x.take k q.length q }) now tb (some (n,k)):=by
    rw [<- put_clear];exact W2
   have W3:=WF.same W2 a.fds (jam ht) (Wi.take_same hk)
   have T:To h h3 ow ow:=by
    refine To.old o1 (To.trans ⟨c2.weaken fun j hj hb=>?_,fun _ _=>rfl⟩ (X1.toU u3))
    obtain ⟨_,o2,_⟩:=X.ring k hk q hq
    have hb:j=t.r k:=hb
    subst hb;omega
   have fin:WSt h3 w s ow ((wxs l).set n (t.x.take k q.length q)) now tb (some (n,k)):=⟨_,W3,jbg⟩
   have ek:(1:Int)-(k:Int)=((1-k:Nat):Int):=by omega
   have eb:decide ((q.length:Int)>0)=decide (0<q.length):=by simp
   rw [<- ek,<- eb] at e3
   refine aT hcl ?_
   clear hok nt
   refine Ga ?_
   exact ⟨rfl,fin,T⟩
  rw [zF hsum]
  have hlen : ∃ buf frm inn out,RingC h1 (t.r k) (t.b k) buf frm q.length t.x.cap inn out:=by
   obtain ⟨buf,frm,inn,out,C,_⟩:=p1;exact ⟨buf,frm,inn,out,C⟩
  obtain ⟨buf,frm,inn,out,C⟩:=hlen
  have e2:=jlF hcl (d:=d-1) om C
  by_cases hqn:q=[]
  ·rw [zG hqn]
   subst hqn
   have ek:(1:Int)-(k:Int)=((1-k:Nat):Int):=by omega
   have ekk:1-(1-k)=k:=by omega
   have oG:Old h1 (h1.new (.cells [.int .u8 1] false)):=(ZD h1).new
   have hB:BytesAt (h1.new (.cells [.int .u8 1] false)) (some (h1.nx,0)) (.fix 1) [1] :=
    ⟨fun e=>by (cases e),zr _,fun _=>⟨h1.nx,0,_,false,rfl,by simp,jad _,fun i x hi=>by
     match i,hi with
     | 0,hi=>cases hi;rfl
     | i+1,hi=>simp at hi⟩⟩
   have aG:=a1.old oG
   have XG:=aG.wf.ok n t ht
   have hqG:(t.x.e (1-(1-k))).ring=some []:=by rw [ekk];exact hq
   obtain ⟨g1,g2,g3,g4,g5,g6⟩:=XG.apart (k:=1-(1-k)) om hqG
   obtain ⟨h3,e3,r1,r2,r3⟩:=jnj hcl (d:=d-1) (k:=1-k) om XG.hx om hqG g1 XG.lx g2 g3 g4 g5 g6 hB Zd (fun z o e _=>by
    cases e
    rw [ekk]
    have:t.b k<h1.nx:=p3
    have:t.r k<h1.nx:=p2
    exact ⟨by omega,by show h1.nx≠t.r k;omega⟩)
   have hm1:min ([1]:List UInt8).length (t.x.cap-([]:List UInt8).length)=min 1 t.x.cap:=by simp
   rw [hm1] at r1 r2
   have W:=aG.wf.fill (k:=1-k) ht om hqG r3 r1 r2
   have W2:=WF.same W a.fds (jam ht) (Wi.fill_same om)
   have T:To h h3 ow ow:=To.old (o1.trans oG) (XG.to (k:=1-(1-k)) om hqG r3)
   have fin:WSt h3 w s ow ((wxs l).set n (t.x.fill (1-k) (min 1 t.x.cap) [] [1])) now tb (some (n,k)):=⟨_,W2,jbg⟩
   rw [<- ek] at e3
   refine aT hcl ?_
   clear hok nt
   refine Ga ?_
   refine zcu (ob := .cells [.int .u8 1] false) (mk:=fun b=>.slice (some (b,0)) 1 (.fix 1)) rfl rfl ?_
   refine Ga ?_
   exact ⟨rfl,fin,T⟩
  ·rw [zF hqn]
   have hpos : ¬ (q.length:Int)=0:=by have:=List.length_pos_iff.2 hqn;omega
   have fin:WSt h1 w s ow (wxs l) now tb (some (n,k)):=⟨l,a1,rfl⟩
   have T:To h h1 ow ow:=ZE o1
   refine aT hcl ?_
   clear hok nt
   refine Ga ?_
   exact ⟨rfl,fin,T⟩
end
section
variable {h h':H} {w s:Nat} {ow:Nat->Nat} {f:Nat->Option (Nat × Nat)} {l:List WX} {ws:Ws} {now:Int} {tb tb':Tb} {no:Option (Nat × Nat)}
theorem WF.tbl (a:WF h w s ow f l now tb no) (ch:Ch (fun j=>j=s) h h') (g:h'.get s=some tb'.obj):WF h' w s ow f l now tb' no:=by
 obtain ⟨wv,p1,p2,p3⟩:=a.hw
 have ts:=a.ts
 have k : ∀ j,ow j≠0->ow j≠3->h'.get j=h.get j:=fun j h0 h3=>ch.get j (a.lt_of h0) fun e=>by
  have e:j=s:=e
  rw [e] at h3;exact h3 ts
 exact ⟨⟨wv,by rw [k w (by rw [a.tw];omega) (by rw [a.tw];omega),p1],p2.keep ch.nx fun z hz=>k z (by rw [p3 z hz];omega) (by rw [p3 z hz];omega),p3⟩,g,a.tw,a.ts,zu a.lw ch.nx,zu a.ls ch.nx,
  fun j hj=>a.top j (zE ch.nx hj),fun n t ht=>(a.ok n t ht).keep ch.nx fun j h1 _=>k j om om⟩
theorem WSt.tbl (a:WSt h w s ow ws now tb no) (ch:Ch (fun j=>j=s) h h') (g:h'.get s=some tb'.obj):WSt h' w s ow ws now tb' no/\To h h' ow ow:=by
 obtain ⟨l,a,e⟩:=a
 refine ⟨⟨l,⟨a.wf.tbl ch g,a.fds⟩,e⟩,⟨ch.weaken fun j _ hb=>?_,fun _ _=>rfl⟩⟩
 have hb:j=s:=hb
 rw [hb,a.wf.ts];omega
theorem WF.noti (a:WF h w s ow f l now tb no) {o:Nat} {p:Option (Nat × Nat)} {wl:List V} (ho:o=291) (hl:h.get w=some (.cells wl false)):WF (h.set w (.cells (jat wl o (plc p)) false)) w s ow f l now tb p:=by
 obtain ⟨wv,p1,p2,p3⟩:=a.hw
 rw [p1] at hl;cases hl
 have tw:=a.tw
 have hne : ∀ j,ow j≠1->j≠w:=fun j hj e=>by rw [e] at hj;exact hj tw
 refine ⟨⟨wv,by rw [jab,wc_set_no ho],p2.keep (zr _) fun z hz=>jaa (hne z (by rw [p3 z hz];omega)),p3⟩,by rw [jaa (hne s (by rw [a.ts];omega)),a.hs],a.tw,a.ts,a.lw,a.ls,a.top,fun n t ht=>(a.ok n t ht).keep (zr _) fun j h1 _=>jaa (hne j om)⟩
theorem WSt.noti (a:WSt h w s ow ws now tb no) {o:Nat} {p:Option (Nat × Nat)} {wl:List V} (ho:o=291) (hl:h.get w=some (.cells wl false)):WSt (h.set w (.cells (jat wl o (plc p)) false)) w s ow ws now tb p/\To h (h.set w (.cells (jat wl o (plc p)) false)) ow ow:=by
 obtain ⟨l,a,e⟩:=a
 refine ⟨⟨l,⟨a.wf.noti ho hl,a.fds⟩,e⟩,⟨Ch.set ?_,fun _ _=>rfl⟩⟩
 show ow w≠0
 rw [a.wf.tw];omega
end
section
variable {cl:Nat->Call} (hcl:Sem cl) {h:H} {w s:Nat} {ow:Nat->Nat} {ws:Ws} {now:Int} {tb:Tb} {no:Option (Nat × Nat)}
include hcl
theorem ww_Handle {d:Nat} {sg:Int} {on:Bool} (hd:12<=d) (a:WSt h w s ow ws now tb no) (nt:NtOk ws (noI no) (siI no)) (hok:(tb.handle sg on).ok 1000000) :
  ∃ h',cl d (.fn 84) [.p w 0,.i sg,.bool on] h=some (.i (if sig? sg then 0 else 100),h')/\WSt h' w s ow (jao ws ((tb.handle sg on).sum 32) (noI no) (siI no)) now (tb.handle sg on) no/\To h h' ow ow:=by
 obtain ⟨l,b,rfl⟩:=id a
 have hn:=jcw hcl (d:=d-1) om b.wf
 obtain ⟨sa,c,hw,_⟩:=b.wf.head
 have q4:(wc (fun i=>atS (wxs l) (i:Int)) (.slice sa l.length c) s now no)[0+289]?=some (.p s 0):=jfX rfl
 have lw:=b.wf.lw
 obtain ⟨h1,e1,u1⟩:=sp_handle hcl (d:=d-1) om b.wf.hs sg on
 obtain ⟨a1,t1⟩:=a.tbl (tb':=tb.handle sg on) (u1.ch (B:=fun j=>j=s) rfl) u1.self
 obtain ⟨h2,e2,a2,t2⟩:=je0 hcl (d:=d-1) om a1 nt hok
 have T:=To.trans t1 t2
 refine jai (aT hcl ?_)
 clear hok nt
 refine Ga ?_
 exact ⟨rfl,a2,T⟩
theorem jlz {d:Nat} {sg:Int} (hd:12<=d) (a:WSt h w s ow ws now tb no) (nt:NtOk ws (noI no) (siI no)) (h0:tb.ok 1000000) (hok:(tb.raise sg).ok 1000000) :
  ∃ h',cl d (.fn 86) [.p w 0,.i sg] h=some (.i (if sig? sg then 0 else 100),h')/\WSt h' w s ow (jao ws ((tb.raise sg).sum 32) (noI no) (siI no)) now (tb.raise sg) no/\To h h' ow ow:=by
 obtain ⟨l,b,rfl⟩:=id a
 have hn:=jcw hcl (d:=d-1) om b.wf
 obtain ⟨sa,c,hw,_⟩:=b.wf.head
 have q4:(wc (fun i=>atS (wxs l) (i:Int)) (.slice sa l.length c) s now no)[0+289]?=some (.p s 0):=jfX rfl
 have lw:=b.wf.lw
 obtain ⟨h1,e1,u1⟩:=sp_raise hcl (d:=d-1) om b.wf.hs sg h0
 obtain ⟨a1,t1⟩:=a.tbl (tb':=tb.raise sg) (u1.ch (B:=fun j=>j=s) rfl) u1.self
 obtain ⟨h2,e2,a2,t2⟩:=je0 hcl (d:=d-1) om a1 nt hok
 have T:=To.trans t1 t2
 refine jai (aT hcl ?_)
 clear hok nt h0
 refine Ga ?_
 exact ⟨rfl,a2,T⟩
theorem jmk {d:Nat} (hd:12<=d) (a:WSt h w s ow ws now tb no) (nt:NtOk ws (noI no) (siI no)) (h0:tb.take.ok 1000000) :
  ∃ v h',cl d (.fn 49) [.p w 0] h=some (v,h')/\Row h.nx h' 2 v (tb.cnts 32).length (jaM (tb.cnts 32))/\WSt h' w s ow (jao ws (tb.take.sum 32) (noI no) (siI no)) now tb.take no/\To h h' ow ow:=by
 obtain ⟨l,b,rfl⟩:=id a
 have hn:=jcw hcl (d:=d-1) om b.wf
 obtain ⟨sa,c,hw,_⟩:=b.wf.head
 have q4:(wc (fun i=>atS (wxs l) (i:Int)) (.slice sa l.length c) s now no)[0+289]?=some (.p s 0):=jfX rfl
 have lw:=b.wf.lw
 obtain ⟨v,h1,e1,row,g1,c1⟩:=sp_take hcl (d:=d-1) om b.wf.hs b.wf.ls
 obtain ⟨a1,t1⟩:=a.tbl (tb':=tb.take) c1 g1
 obtain ⟨h2,e2,a2,t2⟩:=je0 hcl (d:=d-1) om a1 nt h0
 have T:=To.trans t1 t2
 have row2:Row h.nx h2 2 v (tb.cnts 32).length (jaM (tb.cnts 32)):=row.keep t2.ch.nx fun z hz=>t2.ch.get z (row.at_ge hz).2 fun hne=>hne (b.wf.top z (row.at_ge hz).1)
 refine aT hcl ?_
 clear h0 nt
 refine Ga ?_
 exact ⟨row2,a2,T⟩
end
noncomputable def noT (ws:Ws) (a b:Int) (no:Option (Nat × Nat)):Option (Nat × Nat):=match (ntS ws a b).2 with
 | none=>no
 | some p=>some p
theorem joI {ws:Ws} {a b:Int} {no:Option (Nat × Nat)} : noI (noT ws a b no)=ntNo ws a b (noI no):=by
 unfold noT ntNo
 cases (ntS ws a b).2<;>rfl
theorem joH {ws:Ws} {a b:Int} {no:Option (Nat × Nat)} : siI (noT ws a b no)=ntSi ws a b (siI no):=by
 unfold noT ntSi
 cases (ntS ws a b).2<;>rfl
theorem jm0 {x:Wi} {r0 r1:Nat} {v:V} {o:Nat} (ho:o=2):(x.cells r0 r1 v)[o]?=some (En.ptr x.e0.ring r0):=by subst ho;rfl
theorem jmz {x:Wi} {r0 r1:Nat} {v:V} {o:Nat} (ho:o=9):(x.cells r0 r1 v)[o]?=some (En.ptr x.e1.ring r1):=by subst ho;rfl
section
variable {cl:Nat->Call} (hcl:Sem cl) {h:H} {w s:Nat} {ow:Nat->Nat} {ws:Ws} {now:Int} {tb:Tb} {no:Option (Nat × Nat)}
include hcl
theorem ww_Notice {d:Nat} {x y:Int} (hd:12<=d) (a:WSt h w s ow ws now tb no) (o:WsOk ws) (hok:tb.ok 1000000) :
  ∃ h',cl d (.fn 89) [.p w 0,.i x,.i y] h=some (.i (ntS ws x y).1,h')/\WSt h' w s ow (ntW ws (tb.sum 32) x y) now tb (noT ws x y no)/\To h h' ow ow:=by
 obtain ⟨l,b,rfl⟩:=id a
 suffices q : ∃ v h',cl d (.fn 89) [.p w 0,.i x,.i y] h=some (v,h')/\(v = .i (ntS (wxs l) x y).1/\WSt h' w s ow (ntW (wxs l) (tb.sum 32) x y) now tb (noT (wxs l) x y no)/\To h h' ow ow) by
  obtain ⟨_,h',e,rfl,q⟩:=q;exact ⟨h',e,q⟩
 unfold ntW noT
 have keep : ∀ g,Old h g->WSt g w s ow (wxs l) now tb no/\To h g ow ow:=fun g og=>⟨a.old og,ZE og⟩
 rcases jdu hcl (d:=d-1) (fd:=x) om b o.uniq with ⟨hno,h1,e1,o1,x1⟩ | ⟨n,k,m,t,rfl,hm,hat,ht,hk,h1,e1,o1,x1⟩
 ·have hS:ntS (wxs l) x y=(110,none):=jaG hno
  rw [hS]
  have o2:Old h ((h1.new (.cells [.bool false,.i 0,.i 0] false)).set h1.nx (.cells [.bool false,.i 0,.i 0] false)):=o1.new.set o1.1
  have x2:((h1.new (.cells [.bool false,.i 0,.i 0] false)).set h1.nx (.cells [.bool false,.i 0,.i 0] false)).nx=h.nx+2:=by
   show h1.nx+1=_;omega
  have hq : ∃ (v:List V) (p:V) (e:Int) (h3:H),cl (d-1) (.fn 50) [.p w 0,.i y] ((h1.new (.cells [.bool false,.i 0,.i 0] false)).set h1.nx (.cells [.bool false,.i 0,.i 0] false))=some (.tup [.agg v,p,.i e],h3)/\v.length=3/\v.all V.one=true/\Old h h3:=by
   rcases jdu hcl (d:=d-1) (fd:=y) om (b.old o2) o.uniq with ⟨_,h3,e3,o3,_⟩ | ⟨_,_,_,_,_,_,_,_,_,h3,e3,o3,_⟩
   ·exact ⟨_,_,_,h3,e3,rfl,rfl,o2.trans o3⟩
   ·exact ⟨_,_,_,h3,e3,rfl,rfl,o2.trans o3⟩
  obtain ⟨v,p,e,h3,e3,v1,v2,o3⟩:=hq
  obtain ⟨va,vb,vc,rfl⟩ : ∃ va vb vc,v=[va,vb,vc]:=by
   match v,v1 with
   | [a,b,c],_=>exact ⟨a,b,c,rfl⟩
  refine aT hcl ?_
  clear hok
  refine qm ?_
  refine zct rfl rfl rfl v2 (jad _) (zw rfl) ?_
  refine qm ?_
  exact ⟨rfl,keep _ (o3.new.set o3.1)⟩
 have hS1:ntS (wxs l) (m:Int) y=_:=jaH o.uniq hat (jam ht)
 have o2:Old h ((h1.new (.cells [.bool false,.i 0,.i 0] false)).set h1.nx (.cells [.bool true,.i (n:Int),.i (k:Int)] false)):=o1.new.set o1.1
 have g2:((h1.new (.cells [.bool false,.i 0,.i 0] false)).set h1.nx (.cells [.bool true,.i (n:Int),.i (k:Int)] false)).get h1.nx=some (.cells [.bool true,.i (n:Int),.i (k:Int)] false):=jab _
 have x2:((h1.new (.cells [.bool false,.i 0,.i 0] false)).set h1.nx (.cells [.bool true,.i (n:Int),.i (k:Int)] false)).nx=h.nx+2:=by
  show h1.nx+1=_;omega
 rcases jdu hcl (d:=d-1) (fd:=y) om (b.old o2) o.uniq with ⟨hno,h3,e3,o3,x3⟩ | ⟨n2,k2,m2,t2,rfl,hm2,hat2,ht2,hk2,h3,e3,o3,x3⟩
 ·rw [jaG hno] at hS1
  rw [hS1]
  have o4:=o2.trans o3
  refine aT hcl ?_
  clear hok
  refine qm ?_
  exact ⟨rfl,keep _ (o4.new.set o4.1)⟩
 rw [jaH o.uniq hat2 (jam ht2)] at hS1
 have o4:=o2.trans o3
 have g3:h3.get h1.nx=some (.cells [.bool true,.i (n:Int),.i (k:Int)] false):=(o3.2 _ om).trans g2
 have X:=b.wf.ok n t ht
 have lx:=X.lx
 have hx3:h3.get t.wb=some (.cells (t.x.cells t.r0 t.r1 t.wv) false):=by rw [o4.2 _ X.lx];exact X.hx
 have q1:(t.x.cells t.r0 t.r1 t.wv)[0+0+(0:Int).toNat*7+2]?=some (En.ptr t.x.e0.ring t.r0):=jm0 rfl
 have q2:(t.x.cells t.r0 t.r1 t.wv)[0+0+(1:Int).toNat*7+2]?=some (En.ptr t.x.e1.ring t.r1):=jmz rfl
 have lh1:h1.nx<h3.nx:=by omega
 by_cases hg:n=n2/\k≠k2/\t.x.e0.ring≠none/\t.x.e1.ring≠none
 case neg=>
  rw [zF hg] at hS1
  rw [hS1]
  by_cases h1':n=n2
  case neg=>
   have h1'':(n:Int)≠(n2:Int):=by omega
   refine aT hcl ?_
   clear hok hg
   refine qm ?_
   exact ⟨rfl,keep _ (o4.new.set o4.1)⟩
  have h1'' : ¬ (n:Int)≠(n2:Int):=by omega
  by_cases h2':k=k2
  ·have h2'':(k:Int)=(k2:Int):=by omega
   refine aT hcl ?_
   clear hok hg
   refine qm ?_
   exact ⟨rfl,keep _ (o4.new.set o4.1)⟩
  have h2'' : ¬ (k:Int)=(k2:Int):=by omega
  cases hr0:t.x.e0.ring with
  | none=>
   have q1:(t.x.cells t.r0 t.r1 t.wv)[0+0+(0:Int).toNat*7+2]?=some (.ptr none):=by rw [q1];simp [En.ptr,hr0]
   refine aT hcl ?_
   clear hok hg
   refine qm ?_
   exact ⟨rfl,keep _ (o4.new.set o4.1)⟩
  | some b0=>
   have q1:(t.x.cells t.r0 t.r1 t.wv)[0+0+(0:Int).toNat*7+2]?=some (.p t.r0 0):=by rw [q1];simp [En.ptr,hr0]
   cases hr1:t.x.e1.ring with
   | none=>
    have q2:(t.x.cells t.r0 t.r1 t.wv)[0+0+(1:Int).toNat*7+2]?=some (.ptr none):=by rw [q2];simp [En.ptr,hr1]
    refine aT hcl ?_
    clear hok hg
    refine qm ?_
    exact ⟨rfl,keep _ (o4.new.set o4.1)⟩
   | some b1=>exact zM ⟨h1',h2',by rw [hr0];simp,by rw [hr1];simp⟩ hg
 rw [zG hg] at hS1
 rw [hS1]
 obtain ⟨rfl,hkk,hr0,hr1⟩:=hg
 have nt:NtOk (wxs l) (noI (some (n,k))) (siI (some (n,k))) := .inr ⟨n,k,t.x,rfl,rfl,hk,jam ht,hr0,hr1⟩
 have h1'' : ¬ (n:Int)≠(n:Int):=by omega
 have h2'' : ¬ (k:Int)=(k2:Int):=by omega
 obtain ⟨b0,hb0⟩:=zN.1 hr0
 obtain ⟨b1,hb1⟩:=zN.1 hr1
 have q1:(t.x.cells t.r0 t.r1 t.wv)[0+0+(0:Int).toNat*7+2]?=some (.p t.r0 0):=by rw [q1];simp [En.ptr,hb0]
 have q2:(t.x.cells t.r0 t.r1 t.wv)[0+0+(1:Int).toNat*7+2]?=some (.p t.r1 0):=by rw [q2];simp [En.ptr,hb1]
 have o5:Old h ((h3.new (.cells [.bool false,.i 0,.i 0] false)).set h3.nx (.cells [.bool true,.i (n:Int),.i (k2:Int)] false)):=o4.new.set o4.1
 have a5:=a.old o5
 obtain ⟨l5,b5,e5⟩:=id a5
 obtain ⟨wv,hw5,_⟩:=b5.wf.hw
 obtain ⟨a6,t6⟩:=a5.noti (p:=some (n,k)) (o:=0+291) rfl hw5
 obtain ⟨h7,e7,a7,t7⟩:=je0 hcl (d:=d-1) om a6 nt hok
 have T:=(ZE o5:To _ _ ow ow).trans (t6.trans t7)
 have fin:WSt h7 w s ow (jao (wxs l) (tb.sum 32) (n:Int) (k:Int)) now tb (some (n,k)):=a7
 refine aT hcl ?_
 clear hok nt
 refine qm ?_
 exact ⟨rfl,fin,T⟩
end
structure Mono (g h:H):Prop where
 nx:h.nx=g.nx
 get : ∀ j o,j<g.nx->g.get j=some o->h.get j=some o
theorem VB.mono {g h:H} {v:V} {l:List UInt8} (m:Mono g h) (a:VB g v l):VB h v l:=by
 obtain ⟨a,c,rfl,n,f,k⟩:=a
 refine ⟨a,c,rfl,n,f,fun hl=>?_⟩
 obtain ⟨b,o,cs,ro,rfl,h1,h2,h3⟩:=k hl
 exact ⟨b,o,cs,ro,rfl,by rw [m.nx];exact h1,m.get b _ h1 h2,h3⟩
theorem VI.mono {g h:H} {v:V} {l:List Int} (m:Mono g h) (a:VI g v l):VI h v l:=by
 obtain ⟨a,c,rfl,n,f,k⟩:=a
 refine ⟨a,c,rfl,n,f,fun hl=>?_⟩
 obtain ⟨b,o,cs,ro,rfl,h1,h2,h3⟩:=k hl
 exact ⟨b,o,cs,ro,rfl,by rw [m.nx];exact h1,m.get b _ h1 h2,h3⟩
theorem Row.mono {N sz n:Nat} {g h:H} {v:V} {cs:List V} (m:Mono g h) (a:Row N g sz v n cs):Row N h sz v n cs:=by
 rcases a with a | ⟨q,h1,h2,rfl,h4,h5⟩
 ·exact .inl a
 ·exact .inr ⟨q,h1,by rw [m.nx];exact h2,rfl,m.get q _ h2 h4,h5⟩
theorem RW.mono {g h:H} {rw q:Nat} {l:List RX} {tl:List V} (m:Mono g h) (a:RW g rw q l tl):RW h rw q l tl:=by
 refine ⟨by rw [m.nx];exact a.lw,by rw [m.nx];exact a.lq,a.ne,fun hl=>⟨m.get _ _ a.lw (a.at_ hl).hw,m.get _ _ a.lq (a.at_ hl).hq,a.ne⟩,fun hl=>m.get _ _ a.lw (a.nil hl),fun r hr=>?_⟩
 obtain ⟨p1,p2⟩:=a.ok r hr
 exact ⟨fun k hk=>⟨(p1 k hk).1.mono m,fun z hz=>by rw [m.nx];exact (p1 k hk).2 z hz⟩,p2.1.mono m,fun z hz=>by rw [m.nx];exact p2.2 z hz⟩
theorem RW.re {g:H} {rw q q':Nat} {tl:List V} (a:RW g rw q [] tl) (h1:q'<g.nx) (h2:rw≠q'):RW g rw q' [] tl :=
 ⟨a.lw,h1,h2,fun h=>zM rfl h,a.nil,fun r hr=>by cases hr⟩
theorem joL (h:H) (own:Nat->Prop) : ∀ n,∃ g:H,g.nx=h.nx/\(∀ j,j<n -> ¬ own j->g.get j=none) /\ ∀ j,n<=j\/own j->g.get j=h.get j
 | 0=>⟨h,rfl,fun j hj=>by omega,fun _ _=>rfl⟩
 | n+1=>by
  obtain ⟨g,g1,g2,g3⟩:=joL h own n
  by_cases e:own n
  ·refine ⟨g,g1,fun j hj ho=>?_,fun j hj=>g3 j (hj.imp (fun h=>by omega) id)⟩
   rcases zA j n with h1 | h1
   ·exact g2 j h1 ho
   ·obtain rfl:j=n:=by omega
    exact zM e ho
  ·refine ⟨g.kill n,g1,fun j hj ho=>?_,fun j hj=>?_⟩
   ·by_cases ej:j=n
    ·subst ej;rw [H.get_kill,zG rfl]
    ·rw [jae ej];exact g2 j om ho
   ·have ej:j≠n:=by
     rintro rfl
     rcases hj with h1 | h1
     ·omega
     ·exact e h1
    rw [jae ej];exact g3 j (hj.imp (fun h=>by omega) id)
structure RO (h:H) (ro dat:Nat->Prop) (rw:Nat) (l:List RX) (tl:List V):Prop where
 ex : ∃ q,(l≠[]->ro q) /\ ∀ g:H,g.nx=h.nx->(∀ j,j<h.nx->ro j\/dat j->g.get j=h.get j)->RW g rw q l tl
 lt : ∀ j,ro j\/dat j->j<h.nx
 hr:ro rw
 ap : ∀ j,ro j -> ¬ dat j
theorem RO.keep {h h':H} {ro dat:Nat->Prop} {rw:Nat} {l:List RX} {tl:List V} (a:RO h ro dat rw l tl) (hx:h.nx<=h'.nx) (hk : ∀ j,ro j\/dat j->h'.get j=h.get j):RO h' ro dat rw l tl:=by
 obtain ⟨q,hq,k⟩:=a.ex
 refine ⟨⟨q,hq,fun g g1 g2=>?_⟩,fun j hj=>zu (a.lt j hj) hx,a.hr,a.ap⟩
 have w:=k ⟨h.nx,g.t⟩ rfl fun j hj ho=>(g2 j (zu hj hx) ho).trans (hk j ho)
 exact w.old ⟨by rw [g1];exact hx,fun _ _=>rfl⟩
theorem RO.call {cl:Nat->Call} (hcl:Sem cl) {d p f:Nat} {args:List V} {h:H} {ro dat:Nat->Prop} {rw:Nat} {l:List RX} {tl:List V} {P:H->V->List RX->List V->Prop} (a:RO h ro dat rw l tl) (hp:p<h.nx) (hop:h.get p≠none) (hnp : ¬ (ro p\/dat p))
  (mono : ∀ g g' v l tl,Mono g g'->P g v l tl->P g' v l tl)
  (k : ∀ g q,(∀ j,j<h.nx->ro j\/dat j->g.get j=h.get j)->g.nx=h.nx->RW g rw q l tl->(q=p\/ro q) -> ∃ v q' l' tl' g',cl d (.fn f) args g=some (v,g')/\RW g' rw q' l' tl'/\Ch (RC rw q) g g'/\(q'=q\/g.nx<=q')/\P g' v l' tl') :
  ∃ v l' tl' h',cl d (.fn f) args h=some (v,h')/\RO h' (fun j=>ro j\/(h.nx<=j/\j<h'.nx)) dat rw l' tl'/\Ch ro h h'/\P h' v l' tl':=by
 obtain ⟨q0,hq0,k0⟩:=a.ex
 obtain ⟨g,g1,g2,g3⟩:=joL h (fun j=>ro j\/dat j) h.nx
 have w0:=k0 g g1 fun j _ ho=>g3 j (.inr ho)
 obtain ⟨q,w,hq⟩ : ∃ q,RW g rw q l tl/\(q=p\/ro q):=by
  by_cases hl:l=[]
  ·subst hl
   exact ⟨p,w0.re (by rw [g1];exact hp) (fun e=>hnp (.inl (by rw [<- e];exact a.hr))),.inl rfl⟩
  ·exact ⟨q0,w0,.inr (hq0 hl)⟩
 obtain ⟨v,q',l',tl',g',e1,e2,e3,e5,e4⟩:=k g q (fun j _ ho=>g3 j (.inr ho)) g1 w hq
 have X:Ext (fun j=>if j<h.nx/\g.get j=none then h.get j else none) g h:=by
  refine ⟨g1.symm,fun j=>?_,fun j hj=>?_⟩
  ·by_cases hj:j<h.nx
   ·by_cases ho:ro j\/dat j
    ·rw [g3 j (.inr ho)]
     cases hh:h.get j<;>simp [hh]
    ·rw [g2 j hj ho];simp [hj]
   ·rw [g3 j (.inl om)]
    cases hh:h.get j<;>simp [hj]
  ·by_cases hc:j<h.nx/\g.get j=none
   ·exact ⟨by rw [g1];exact hc.1,hc.2⟩
   ·simp [hc] at hj
 have hF:=(jhP primsF fuel d)
 rw [hcl d] at e1 ⊢
 obtain ⟨h',q1,q2⟩:=hF.1 _ _ _ _ _ e1 _ _ X
 have hx:h.nx<=h'.nx:=by rw [q2.nx,<- g1];exact e3.nx
 have m:Mono g' h':=⟨q2.nx,fun j o _ hj=>q2.has hj⟩
 have off : ∀ j,j<h.nx -> ¬ (ro j\/dat j)->g'.get j=none:=by
  intro j hj ho
  by_cases hz:h.get j=none
  ·rw [e3.get j (by rw [g1];exact hj) (by
    rintro (rfl | rfl)
    ·rcases hq with rfl | hq
     ·exact hop hz
     ·exact ho (.inl hq)
    ·exact ho (.inl a.hr)),g2 j hj ho]
  ·exact (q2.off j (by simp [hj,g2 j hj ho,hz])).2
 have same : ∀ j,(ro j\/dat j)->h'.get j=g'.get j:=by
  intro j ho
  rw [q2.get j]
  by_cases hz:g.get j=none
  ·have:h.get j=none:=by rw [<- g3 j (.inr ho),hz]
   simp [this]
  ·simp [hz]
 refine ⟨v,l',tl',h',q1,⟨⟨q',fun hl=>?_,fun g4 n4 k4=>?_⟩,fun j hj=>?_,.inl a.hr,fun j hj hd=>?_⟩,⟨hx,fun j hj ho=>?_⟩,mono _ _ _ _ _ m e4⟩
 ·have hz:=(e2.at_ hl).hq
  rcases zA q' h.nx with h1 | h1
  ·rcases e5 with rfl | h2
   ·rcases hq with rfl | hq
    ·rw [off q' h1 hnp] at hz;cases hz
    ·exact .inl hq
   ·omega
  ·exact .inr ⟨h1,by rw [q2.nx];exact e2.lq⟩
 ·refine e2.mono ⟨by rw [n4,q2.nx],fun j o hj hg=>?_⟩
  by_cases ho:ro j\/dat j
  ·rw [k4 j (by rw [q2.nx];exact hj) (ho.imp .inl id),same j ho,hg]
  ·rcases zA j h.nx with h1 | h1
   ·rw [off j h1 ho] at hg;cases hg
   ·rw [k4 j (by rw [q2.nx];exact hj) (.inl (.inr ⟨h1,by rw [q2.nx];exact hj⟩)),q2.has hg]
 ·rcases hj with (hj | hj) | hj
  ·exact zu (a.lt j (.inl hj)) hx
  ·exact hj.2
  ·exact zu (a.lt j (.inr hj)) hx
 ·rcases hj with hj | hj
  ·exact a.ap j hj hd
  ·have:=a.lt j (.inr hd)
   omega
 ·by_cases hd:dat j
  ·have hne : ¬ RC rw q j:=by
    rintro (rfl | rfl)
    ·rcases hq with rfl | hq
     ·exact hnp (.inr hd)
     ·exact a.ap _ hq hd
    ·exact a.ap _ a.hr hd
   rw [same j (.inr hd),e3.get j (by rw [g1];exact hj) hne,g3 j (.inr (.inr hd))]
  ·have h2:=off j hj (fun h=>h.elim ho hd)
   rw [q2.get j,h2]
   have h3:=g2 j hj (fun h=>h.elim ho hd)
   simp [hj,h3]
structure St where
 ws:Ws
 now:Int
 tb:Tb
 no:Option (Nat × Nat)
abbrev St.tl (r:St):List V:=tail r.now r.tb.hd r.tb.pd (noI r.no) (siI r.no)
section
variable {h h':H} {w s:Nat} {ow:Nat->Nat} {ws:Ws} {now:Int} {tb:Tb} {no:Option (Nat × Nat)}
theorem WSt.keep (a:WSt h w s ow ws now tb no) (hx:h.nx<=h'.nx) (hk : ∀ j,ow j≠0->h'.get j=h.get j):WSt h' w s ow ws now tb no:=by
 obtain ⟨l,a,e⟩:=a
 exact ⟨l,⟨a.wf.keep hx hk,a.fds⟩,e⟩
theorem WSt.top (a:WSt h w s ow ws now tb no) {j:Nat} (hj:h.nx<=j):ow j=0:=by
 obtain ⟨l,a,e⟩:=a
 exact a.wf.top j hj
theorem WSt.lt_of (a:WSt h w s ow ws now tb no) {j:Nat} (hj:ow j≠0):j<h.nx:=by
 obtain ⟨l,a,e⟩:=a
 exact a.wf.lt_of hj
theorem WSt.lw (a:WSt h w s ow ws now tb no):w<h.nx:=by
 obtain ⟨l,a,e⟩:=a
 exact a.wf.lw
end
structure BB (h:H) (p w s rw:Nat) (ow:Nat->Nat) (ro dat:Nat->Prop) (a r:St):Prop where
 W:WSt h w s ow a.ws a.now a.tb a.no
 R : ∃ l,RO h ro dat rw l r.tl/\l.map RX.x=r.ws
 hp:h.get p=some (.cells [.p w 0,.p rw 0] false)
 lp:p<h.nx
 sep : ∀ j,ro j\/dat j->ow j=0
 op:ow p=0
 rp : ¬ (ro p\/dat p)
structure Fm (h h':H) (ow:Nat->Nat) (ro:Nat->Prop) (ow':Nat->Nat) (ro':Nat->Prop):Prop where
 ch:Ch (fun j=>ow j≠0\/ro j) h h'
 tag : ∀ j,j<h.nx->ow' j=ow j
 rtag : ∀ j,j<h.nx->(ro' j↔ro j)
theorem Fm.refl {h:H} {ow:Nat->Nat} {ro:Nat->Prop} : Fm h h ow ro ow ro:=⟨Zy _ _,fun _ _=>rfl,fun _ _=>Iff.rfl⟩
theorem Fm.trans {h h1 h2:H} {a b c:Nat->Nat} {x y z:Nat->Prop} (f:Fm h h1 a x b y) (g:Fm h1 h2 b y c z):Fm h h2 a x c z :=
 ⟨f.ch.trans_new g.ch fun j hj hb=>by rw [f.tag j hj,f.rtag j hj] at hb;exact hb,
  fun j hj=>by rw [g.tag j (zu hj f.ch.nx),f.tag j hj],fun j hj=>(g.rtag j (zu hj f.ch.nx)).trans (f.rtag j hj)⟩
theorem Fm.old {h h1:H} {ow:Nat->Nat} {ro:Nat->Prop} (o:Old h h1):Fm h h1 ow ro ow ro:=⟨o.ch,fun _ _=>rfl,fun _ _=>Iff.rfl⟩
theorem Fm.to {h h1:H} {ow ow':Nat->Nat} {ro:Nat->Prop} (t:To h h1 ow ow'):Fm h h1 ow ro ow' ro:=⟨t.ch.weaken fun _ _ hb=>.inl hb,t.tag,fun _ _=>Iff.rfl⟩
section
variable {h h':H} {p w s rw:Nat} {ow ow':Nat->Nat} {ro dat:Nat->Prop} {a a' r r':St}
theorem BB.old (b:BB h p w s rw ow ro dat a r) (o:Old h h'):BB h' p w s rw ow ro dat a r:=by
 obtain ⟨l,R,e⟩:=b.R
 exact ⟨b.W.old o,⟨l,R.keep o.1 fun j hj=>o.2 j (R.lt j hj),e⟩,by rw [o.2 _ b.lp,b.hp],zu b.lp o.1,b.sep,b.op,b.rp⟩
theorem BB.off (b:BB h p w s rw ow ro dat a r) (hx:h.nx<=h'.nx) (hk : ∀ j,j<h.nx->ow j≠0\/ro j\/dat j\/j=p->h'.get j=h.get j):BB h' p w s rw ow ro dat a r:=by
 obtain ⟨l,R,e⟩:=b.R
 exact ⟨b.W.keep hx fun j hj=>hk j (b.W.lt_of hj) (.inl hj),⟨l,R.keep hx fun j hj=>hk j (R.lt j hj) (.inr (hj.imp id .inl)),e⟩,by rw [hk _ b.lp (.inr (.inr (.inr rfl))),b.hp],zu b.lp hx,b.sep,b.op,b.rp⟩
theorem BB.wc (b:BB h p w s rw ow ro dat a r) (W:WSt h' w s ow' a'.ws a'.now a'.tb a'.no) (t:To h h' ow ow'):BB h' p w s rw ow' ro dat a' r:=by
 obtain ⟨l,R,e⟩:=b.R
 refine ⟨W,⟨l,R.keep t.ch.nx fun j hj=>t.ch.get j (R.lt j hj) fun hne=>hne (b.sep j hj),e⟩,by rw [t.ch.get p b.lp fun hne=>hne b.op,b.hp],zu b.lp t.ch.nx,fun j hj=>by rw [t.tag j (R.lt j hj)];exact b.sep j hj,by rw [t.tag p b.lp];exact b.op,b.rp⟩
theorem BB.ro_lt (b:BB h p w s rw ow ro dat a r) {j:Nat} (hj:ro j\/dat j):j<h.nx:=by
 obtain ⟨l,R,e⟩:=b.R
 exact R.lt j hj
theorem BB.ap (b:BB h p w s rw ow ro dat a r) {j:Nat} (hj:dat j) : ¬ ro j:=by
 obtain ⟨l,R,e⟩:=b.R
 exact fun h=>R.ap j h hj
theorem BB.rcc {cl:Nat->Call} (hcl:Sem cl) {d f:Nat} {args:List V} {P:H->V->Prop} (b:BB h p w s rw ow ro dat a r)
  (mono : ∀ g g' v,Mono g g'->P g v->P g' v)
  (k : ∀ g q l,(∀ j,j<h.nx->ro j\/dat j->g.get j=h.get j)->g.nx=h.nx->(q=p\/ro q)->RW g rw q l r.tl->l.map RX.x=r.ws ->
   ∃ v q' l' g',cl d (.fn f) args g=some (v,g')/\RW g' rw q' l' r'.tl/\l'.map RX.x=r'.ws/\Ch (RC rw q) g g'/\(q'=q\/g.nx<=q')/\P g' v) :
  ∃ v h',cl d (.fn f) args h=some (v,h')/\BB h' p w s rw ow (fun j=>ro j\/(h.nx<=j/\j<h'.nx)) dat a r'/\Fm h h' ow ro ow (fun j=>ro j\/(h.nx<=j/\j<h'.nx))/\Ch ro h h'/\P h' v:=by
 obtain ⟨l,R,e⟩:=b.R
 obtain ⟨v,l',tl',h',e1,R',c1,p1,p2,p3⟩:=R.call hcl (d:=d) (f:=f) (args:=args) (P:=fun g v l' tl'=>l'.map RX.x=r'.ws/\tl'=r'.tl/\P g v) b.lp (by rw [b.hp];simp) b.rp
  (fun g g' v l' tl' m hp=>⟨hp.1,hp.2.1,mono _ _ _ m hp.2.2⟩) (fun g q ga gn w hq=>by
   obtain ⟨v,q',l',g',k1,k2,k3,k4,k5,k6⟩:=k g q l ga gn hq w e
   exact ⟨v,q',l',_,g',k1,k2,k4,k5,k3,rfl,k6⟩)
 subst p2
 refine ⟨v,h',e1,⟨b.W.keep c1.nx fun j hj=>c1.get j (b.W.lt_of hj) fun hr=>hj (b.sep j (.inl hr)),⟨l',R',p1⟩,by rw [c1.get p b.lp fun hr=>b.rp (.inl hr),b.hp],zu b.lp c1.nx,fun j hj=>?_,b.op,fun hr=>?_⟩,⟨c1.weaken fun _ _ hb=>.inr hb,fun _ _=>rfl,fun j hj=>⟨fun hr=>?_,.inl⟩⟩,c1,p3⟩
 ·rcases hj with (hj | hj) | hj
  ·exact b.sep j (.inl hj)
  ·exact b.W.top hj.1
  ·exact b.sep j (.inr hj)
 ·have:=b.lp
  rcases hr with (hr | hr) | hr
  ·exact b.rp (.inl hr)
  ·omega
  ·exact b.rp (.inr hr)
 ·rcases hr with hr | hr
  ·exact hr
  ·omega
theorem BB.rc {cl:Nat->Call} (hcl:Sem cl) {d f:Nat} {args:List V} {P:H->V->Prop} (b:BB h p w s rw ow ro dat a r)
  (mono : ∀ g g' v,Mono g g'->P g v->P g' v)
  (k : ∀ g q l,(∀ j,j<h.nx->ro j\/dat j->g.get j=h.get j)->g.nx=h.nx->(q=p\/ro q)->RW g rw q l r.tl->l.map RX.x=r.ws ->
   ∃ v q' l' g',cl d (.fn f) args g=some (v,g')/\RW g' rw q' l' r'.tl/\l'.map RX.x=r'.ws/\Ch (RC rw q) g g'/\(q'=q\/g.nx<=q')/\P g' v) :
  ∃ v h',cl d (.fn f) args h=some (v,h')/\BB h' p w s rw ow (fun j=>ro j\/(h.nx<=j/\j<h'.nx)) dat a r'/\Fm h h' ow ro ow (fun j=>ro j\/(h.nx<=j/\j<h'.nx))/\P h' v:=by
 obtain ⟨v,h',e,b',f,_,q⟩:=b.rcc hcl mono k
 exact ⟨v,h',e,b',f,q⟩
end
theorem jo4 (t:Tb) : ∀ n,t.sum (n+1)=sumC t.pd n
 | 0=>by simp [Tb.sum,sumC]
 | n+1=>by
  have ih:=jo4 t n
  rw [Tb.sum,sumC,<- ih]
  split
  ·next h=>
   rcases h with h | h
   ·omega
   ·rw [h];omega
  ·rfl
theorem jou (t:Tb):t.sum 32=sumC t.pd 31:=jo4 t 31
theorem handle_hd (t:Tb) (s:Int) (on:Bool):(t.handle s on).hd=jeo t.hd s on:=by
 unfold Tb.handle jeo
 by_cases h:sig? s
 ·rw [zG h,zG (show jdM s from h)];rfl
 ·rw [zF h,zF (show ¬ jdM s from h)]
theorem jh7 (t:Tb) (s:Int) (on:Bool):(t.handle s on).pd=jc2 t.pd s on:=by
 unfold Tb.handle jc2
 by_cases h:sig? s
 ·rw [zG h]
  cases on
  ·rw [zG (show jdM s/\false=false from ⟨h,rfl⟩)];rfl
  ·rw [zF (show ¬ (jdM s/\true=false) from fun e=>by cases e.2)];rfl
 ·rw [zF h,zF (show ¬ (jdM s/\on=false) from fun e=>h e.1)]
theorem raise_hd (t:Tb) (s:Int):(t.raise s).hd=t.hd:=by
 unfold Tb.raise;split<;>rfl
theorem jiT (t:Tb) (s:Int):(t.raise s).pd=jd6 t.hd t.pd s:=by
 unfold Tb.raise jd6
 by_cases h:sig? s/\t.hd s.toNat=true
 ·rw [zG h,zG (show jdM s/\t.hd s.toNat=true from h)]
  funext j
  unfold put1
  by_cases e:j=s.toNat
  ·subst e;simp
  ·simp [e]
 ·rw [zF h,zF (show ¬ (jdM s/\t.hd s.toNat=true) from h)]
theorem jkD (t:Tb):t.take.pd=ctZ t.pd 31:=by
 funext j
 unfold Tb.take ctZ
 by_cases h:1<=j/\j<=31
 ·rw [zG h];show (if 1<=j/\j<32 then 0 else t.pd j)=0;rw [zG om]
 ·rw [zF h];show (if 1<=j/\j<32 then 0 else t.pd j)=_;rw [zF om]
theorem jkx {t:Tb} (h : ∀ k,0<=t.pd k) : ∀ n,(t.cnts (n+1)).map (fun p=>((p.1:Int),p.2))=jcg t.pd n
 | 0=>by simp [Tb.cnts,jcg]
 | n+1=>by
  have ih:=jkx h n
  have h1:=h (n+1)
  rw [Tb.cnts,jcg,<- ih]
  by_cases h0:t.pd (n+1)=0
  ·rw [zG (.inr h0),zF om];simp
  ·rw [zF om,zG om];simp
theorem jhO : ∀ l:List (Nat × Int),jaM l=jav (l.map fun p=>((p.1:Int),p.2))
 | []=>rfl
 | p :: l=>by
  have:=jhO l
  simp only [jaM,jav,List.map_cons,Zh] at this ⊢
  rw [this];rfl
theorem jkm {t:Tb} {n:Int} (a:t.ok n) (h0:0<=n) (s:Int) (on:Bool):(t.handle s on).ok n:=by
 intro k
 rw [jh7]
 unfold jc2 put1
 split
 ·show 0<=(if k=s.toNat then (0:Int) else t.pd k)/\(if k=s.toNat then (0:Int) else t.pd k)<=n
  split
  ·omega
  ·exact a k
 ·exact a k
theorem jiU {t:Tb} {n:Int} (a:t.ok n) (s:Int):(t.raise s).ok (n+1):=by
 intro k
 have:=a k
 rw [jiT]
 unfold jd6 put1
 split
 ·show 0<=(if k=s.toNat then t.pd s.toNat+1 else t.pd k)/\(if k=s.toNat then t.pd s.toNat+1 else t.pd k)<=n+1
  split
  ·next e=>subst e;omega
  ·omega
 ·omega
theorem jnu {t:Tb} {n:Int} (a:t.ok n) (h0:0<=n):t.take.ok n:=by
 intro k
 rw [jkD]
 unfold ctZ
 split
 ·omega
 ·exact a k
theorem Tb.ok.mono {t:Tb} {m n:Int} (a:t.ok m) (h:m<=n):t.ok n:=fun k=>⟨(a k).1,by have:=(a k).2;omega⟩
structure StOk (st:St) (i:Nat):Prop where
 K:WsK st.ws
 nt:NtOk st.ws (noI st.no) (siI st.no)
 now:0<=st.now/\st.now<=18446744073709551615
 tb:st.tb.ok i
noncomputable def doS (k a n t:Int) (D:List UInt8) (st:St):St :=
 if k=0\/k=1\/k=2\/k=3 then { st with ws:=(jah st.ws k n).2 }
 else if k=4 then { st with ws:=(jaz st.ws a).2 }
 else if k=5 then { st with ws:=(jbU st.ws a n).2 }
 else if k=6 then { st with ws:=(jb8 st.ws a D).2 }
 else if k=7 then { st with ws:=(jd5 st.ws a).2 }
 else if k=8 then { st with ws:=(jca st.ws a).2 }
 else if k=9 then { st with ws:=(putS st.ws a D).2 }
 else if k=10 then { st with ws:=(jcb st.ws a n).2 }
 else if k=11 then { st with ws:=(ja6 st.ws a).2 }
 else if k=12 then { st with ws:=(ja1 st.ws a).2 }
 else if k=13 then { st with ws:=(jbL st.ws a).2 }
 else if k=14 then { st with ws:=(jar st.ws a n).2 }
 else if k=15 then { st with now:=jdJ st.now t }
 else if k=16 then { st with ws:=jao st.ws ((st.tb.handle a (decide (0<n))).sum 32) (noI st.no) (siI st.no),tb:=st.tb.handle a (decide (0<n)) }
 else if k=17 then { st with ws:=jao st.ws ((st.tb.raise a).sum 32) (noI st.no) (siI st.no),tb:=st.tb.raise a }
 else if k=18 then { st with ws:=jao st.ws (st.tb.take.sum 32) (noI st.no) (siI st.no),tb:=st.tb.take }
 else if k=19 then { st with ws:=ntW st.ws (st.tb.sum 32) a n,no:=noT st.ws a n st.no }
 else st
theorem StOk.ws {st:St} {i:Nat} {ws:Ws} (o:StOk st i) (K:WsK ws) (r:WsR st.ws ws):StOk { st with ws:=ws } (i+1) :=
 ⟨K,o.nt.keep r,o.now,o.tb.mono om⟩
theorem StOk.more {st:St} {i:Nat} (o:StOk st i):StOk st (i+1):=⟨o.K,o.nt,o.now,o.tb.mono om⟩
theorem jbD {P:St->Prop} {c:Prop} [Decidable c] {a b:St} (h1:c->P a) (h2:P b):P (if c then a else b):=by
 by_cases h:c
 ·rw [zG h];exact h1 h
 ·rw [zF h];exact h2
theorem joc {k a n t:Int} {D:List UInt8} {st:St} {i:Nat} (o:StOk st i) (t0:0<=t) (t1:t<=18446744073709551615):StOk (doS k a n t D st) (i+1):=by
 have K:=o.K
 unfold doS
 refine jbD (P:=fun s=>StOk s (i+1)) (fun h=>o.ws (jdL h K) makeS_r) ?_
 refine jbD (P:=fun s=>StOk s (i+1)) (fun _=>o.ws (ji7 K) acceptS_r) ?_
 refine jbD (P:=fun s=>StOk s (i+1)) (fun _=>o.ws (readS_ok K) readS_r) ?_
 refine jbD (P:=fun s=>StOk s (i+1)) (fun _=>o.ws (writeS_ok K) writeS_r) ?_
 refine jbD (P:=fun s=>StOk s (i+1)) (fun _=>o.ws (shutS_ok K) shutS_r) ?_
 refine jbD (P:=fun s=>StOk s (i+1)) (fun _=>o.ws (closeS_ok K) closeS_r) ?_
 refine jbD (P:=fun s=>StOk s (i+1)) (fun _=>o.ws (putS_ok K) putS_r) ?_
 refine jbD (P:=fun s=>StOk s (i+1)) (fun _=>o.ws (takeS_ok K) takeS_r) ?_
 refine jbD (P:=fun s=>StOk s (i+1)) (fun _=>o.ws (jjX K) jkX) ?_
 refine jbD (P:=fun s=>StOk s (i+1)) (fun _=>o.ws (jja K) jjY) ?_
 refine jbD (P:=fun s=>StOk s (i+1)) (fun _=>o.ws (resetS_ok K) resetS_r) ?_
 refine jbD (P:=fun s=>StOk s (i+1)) (fun _=>o.ws (jhL K) jmX) ?_
 refine jbD (P:=fun s=>StOk s (i+1)) (fun _=>⟨K,o.nt,?_,o.tb.mono om⟩) ?_
 ·have:=o.now
  show 0<=jdJ st.now t/\jdJ st.now t<=_
  unfold jdJ
  split<;>omega
 refine jbD (P:=fun s=>StOk s (i+1)) (fun _=>⟨jdK K o.nt,o.nt.keep (jeB o.nt),o.now,(jkm o.tb om _ _).mono om⟩) ?_
 refine jbD (P:=fun s=>StOk s (i+1)) (fun _=>⟨jdK K o.nt,o.nt.keep (jeB o.nt),o.now,(jiU o.tb _).mono om⟩) ?_
 refine jbD (P:=fun s=>StOk s (i+1)) (fun _=>⟨jdK K o.nt,o.nt.keep (jeB o.nt),o.now,(jnu o.tb om).mono om⟩) ?_
 refine jbD (P:=fun s=>StOk s (i+1)) (fun _=>⟨?_,?_,o.now,o.tb.mono om⟩) o.more
 ·obtain ⟨no,si,h1,h2⟩:=joF (ws:=st.ws) (sum:=st.tb.sum 32) (a:=a) (b:=n)
  show WsK (ntW _ _ _ _)
  rw [h2];exact jdK K h1
 ·show NtOk (ntW _ _ _ _) (noI (noT _ _ _ _)) (siI (noT _ _ _ _))
  rw [joI,joH]
  obtain ⟨no,si,h1,h2⟩:=joF (ws:=st.ws) (sum:=st.tb.sum 32) (a:=a) (b:=n)
  rw [h2]
  exact (joG o.nt).keep (jeB h1)
theorem jk2 (b:UInt8):jg9 (jg0 b)=some b:=by
 have h:b.toNat<256:=b.toNat_lt
 have h2:jfM (b.toNat:Int) 256=true:=by
  rcases zA b.toNat 256 with _ | _
  ·simp [jfM];omega
  ·omega
 simp only [jg0,jg9,h2,cond_true,zz]
 congr 1
 exact UInt8.ofNat_toNat
theorem jfi : ∀ l:List UInt8,bytesOf (bts l)=some l
 | []=>rfl
 | b :: l=>by
  show (match jg9 (jg0 b),bytesOf (bts l) with | some b,some l=>some (b :: l) | _,_=>none)=_
  rw [jk2,jfi l]
section
variable {call:Call} {fuel base:Nat} {ops:List Ins} {keep:List Nat} {K:List Fr} {e:Env} {h:H} {Q:Post} {ix:Nat} {dst at_:Option Nat}
theorem Ops.ofRow {x:Opd} {v:V} {N n:Nat} {l:List UInt8} (hx:x.ev e=some v) (r:Row N h 1 v n (bts l)) (k:Ops call fuel base ops keep K (layv e dst (.str l)) h Q) :
  Ops call fuel base (⟨ix,dst,.ofBytes x,none,at_,[]⟩ :: ops) keep K e h Q:=by
 refine Ops.step (I.run_read rfl ?_) k
 rcases r with ⟨rfl,h2,rfl⟩ | ⟨q,_,_,rfl,h4,h5⟩
 ·have:l=[]:=by simpa using h2
  subst this
  simp only [I.read,hx]
 ·simp only [I.read,hx]
  have hn:n=l.length:=by simpa using h5.symm
  subst hn
  cases l with
  | nil=>rfl
  | cons a l=>
   have:((a :: l).length == 0)=false:=rfl
   rw [this,cond_false,jdc h4 Zd,zl,zh Zd]
   show (match bytesOf (bts (a :: l)) with | some s=>some (V.str s) | none=>none)=_
   rw [jfi]
theorem Ops.ofBytesAt {x:Opd} {a:Option (Nat × Nat)} {c:Cap} {l:List UInt8} {m:Nat} (hx:x.ev e=some (.slice a m c)) (hl:BytesAt h a c l) (hm:m<=l.length) (k:Ops call fuel base ops keep K (layv e dst (.str (l.take m))) h Q) :
  Ops call fuel base (⟨ix,dst,.ofBytes x,none,at_,[]⟩ :: ops) keep K e h Q:=by
 refine Ops.step (I.run_read rfl ?_) k
 cases a with
 | none=>simp only [I.read,hx,(hl.none_ rfl).2,List.take_nil]
 | some a=>
  simp only [I.read,hx]
  by_cases h0:m=0
  ·subst h0;simp
  ·have:(m == 0)=false:=by simp [h0]
   rw [this,cond_false]
   obtain ⟨b,o,cs,ro,ea,_,hb,hc⟩:=hl.at_ (by rintro rfl;simp at hm;omega)
   cases ea
   obtain ⟨p1,p2⟩:=jdP (k:=0) (m:=m) hc om om
   rw [jdc hb om]
   simp only [Nat.add_zero,zl] at p2
   show (match bytesOf ((cs.drop o).take m) with | some s=>some (V.str s) | none=>none)=_
   rw [p2,jfi]
theorem Ops.mark {x:Opd} {b o n:Nat} {c:Cap} {l:List V} (hx:x.ev e=some (.slice (some (b,o)) n c)) (hb:h.get b=some (.cells l false)) (hn:Nat.ble 1 n=true) (k:Ops call fuel base ops keep K (layv e dst (.slice (some (b,o)) n c)) h Q) :
  Ops call fuel base (⟨ix,dst,.mark x,none,at_,[]⟩ :: ops) keep K e h Q:=by
 refine Ops.step (Zw rfl ?_) k
 simp only [I.eff,hx,hb,hn,cond_true]
end
abbrev opV (k a n t:Int) (dv:V):List V:=[.i k,.i a,.i n,.int .u64 t,dv]
structure Dat (h:H) (dat:Nat->Prop) (dv:V) (D:List UInt8):Prop where
 v:VB h dv D
 z:D≠[] -> ∀ z,dv.at?=some z->dat z
 len:D.length<=300
structure Cpy (h:H) (p:Nat) (ow:Nat->Nat) (ro dat:Nat->Prop) (vd:V) (D:List UInt8):Prop where
 v:VB h vd D
 z : ∀ z,vd.at?=some z->z<h.nx/\ow z=0 /\ ¬ ro z /\ ¬ dat z/\z≠p
section
variable {h h':H} {p w s rw:Nat} {ow ow':Nat->Nat} {ro ro' dat:Nat->Prop} {a r a' r':St} {dv vd:V} {D:List UInt8}
theorem BB.keepD (b:BB h p w s rw ow ro dat a r) (f:Fm h h' ow ro ow' ro') {z:Nat} (hz:dat z):h'.get z=h.get z :=
 f.ch.get z (b.ro_lt (.inr hz)) fun e=>e.elim (fun e=>e (b.sep z (.inr hz))) (b.ap hz)
theorem Dat.keep (d:Dat h dat dv D) (b:BB h p w s rw ow ro dat a r) (f:Fm h h' ow ro ow' ro'):Dat h' dat dv D :=
 ⟨d.v.keep2 f.ch.nx fun hl z hz=>b.keepD f (d.z hl z hz),d.z,d.len⟩
theorem Cpy.keep (c:Cpy h p ow ro dat vd D) (f:Fm h h' ow ro ow' ro'):Cpy h' p ow' ro' dat vd D :=
 ⟨c.v.keep f.ch.nx fun z hz=>by
  obtain ⟨p1,p2,p3,p4,p5⟩:=c.z z hz
  exact f.ch.get z p1 fun e=>e.elim (fun e=>e p2) p3,fun z hz=>by
  obtain ⟨p1,p2,p3,p4,p5⟩:=c.z z hz
  exact ⟨zu p1 f.ch.nx,by rw [f.tag z p1];exact p2,fun e=>p3 ((f.rtag z p1).1 e),p4,p5⟩⟩
theorem Dat.in_ {g:H} {q:Nat} (d:Dat h dat dv D) (b:BB h p w s rw ow ro dat a r) (ga : ∀ j,j<h.nx->ro j\/dat j->g.get j=h.get j) (gn:g.nx=h.nx) (hq:q=p\/ro q) :
  VB g dv D/\(D≠[] -> ∀ z,dv.at?=some z->z≠q/\z≠rw/\z<g.nx):=by
 refine ⟨d.v.keep2 om fun hl z hz=>ga z (b.ro_lt (.inr (d.z hl z hz))) (.inr (d.z hl z hz)),fun hl z hz=>?_⟩
 have dz:=d.z hl z hz
 refine ⟨fun e=>?_,fun e=>?_,by rw [gn];exact b.ro_lt (.inr dz)⟩
 ·rcases hq with rfl | hq
  ·exact b.rp (.inr (by rw [<- e];exact dz))
  ·exact b.ap dz (by rw [e];exact hq)
 ·obtain ⟨l,R,_⟩:=b.R
  exact b.ap dz (by rw [e];exact R.hr)
theorem BB.off_w {h1:H} (b:BB h p w s rw ow ro dat a r) (t:To h h1 ow ow') {o:Obj} {z:Nat} (hz:z<h.nx) (h0:ow z=0) (g:h.get z=some o):h1.get z=some o:=by
 rw [t.ch.get z hz fun e=>e h0,g]
theorem Fm.two {h1 h2:H} {ow1:Nat->Nat} (o:Old h h') (t:To h' h1 ow ow1) (f:Fm h1 h2 ow1 ro ow1 ro'):Fm h h2 ow ro ow1 ro':=(Fm.old o).trans ((Fm.to t).trans f)
end
theorem VB.lt {h:H} {v:V} {l:List UInt8} (a:VB h v l) (hl:l≠[]) {z:Nat} (hz:v.at?=some z):z<h.nx:=by
 obtain ⟨a,c,rfl,n,f,g⟩:=a
 obtain ⟨b,o,cs,ro,rfl,h1,_⟩:=g hl
 cases hz;exact h1
section
variable {cl:Nat->Call} (hcl:Sem cl) {h:H} {p w s rw:Nat} {ow:Nat->Nat} {ro dat:Nat->Prop} {st:St} {a n t:Int} {dv vd:V} {D:List UInt8}
include hcl
end
section
variable {call:Call} {fuel base:Nat} {ops:List Ins} {keep:List Nat} {K:List Fr} {e:Env} {h:H} {Q:Post} {ix:Nat} {dst at_:Option Nat}
theorem Ops.ixAn {x i:Opd} {l vs:List V} {kd:IntKind} {n sz m len:Nat} (hx:x.ev e=some (.agg l)) (hi:i.ev e=some (.int kd (n:Int))) (hn:n<len) (hl:n*sz+m<=l.length) (hv:(l.drop (n*sz)).take m=vs)
  (k:Ops call fuel base ops keep K (layv e dst (.agg vs)) h Q):Ops call fuel base (⟨ix,dst,.ixA len sz (some m) x i,none,at_,[]⟩ :: ops) keep K e h Q:=by
 refine zau rfl ?_ k
 have h1:Nat.blt n len=true:=by simp [Nat.blt];omega
 have h2:Nat.ble (n*sz+m) l.length=true:=by simpa using hl
 simp only [I.pure,hx,hi]
 show (bif jfM (Int.ofNat n) len then _ else _)=_
 simp only [jfM,h1,cond_true,part]
 show (match (bif Nat.ble (n*sz+m) l.length then some (V.agg ((l.drop (n*sz)).take m)) else none) with | some v=>some v | none=>none)=_
 rw [h2];simp only [cond_true,hv]
end
section
variable {f:Nat->Option (Nat × Nat)} {wv:V} {s:Nat} {now:Int} {no:Option (Nat × Nat)}
theorem jmU {i:Nat} (hi:i<96):((jeb f).drop (i*3)).take 3=plc (f i) :=
 jpg (jfG (i:=i) (j:=0) hi om rfl) (jfG (i:=i) (j:=1) hi om rfl) (jfG (i:=i) (j:=2) hi om rfl)
theorem jnr:((wc f wv s now no).drop 0).take 288=jeb f:=by
 unfold wc
 rw [zl,List.take_append_of_le_length (by rw [jaB];omega),zh (by rw [jaB];omega)]
end
section
variable {cl:Nat->Call} (hcl:Sem cl) {h:H} {w s:Nat} {ow:Nat->Nat} {f:Nat->Option (Nat × Nat)} {l:List WX} {now:Int} {tb:Tb} {no:Option (Nat × Nat)}
include hcl
theorem jj5 {d L bx:Nat} {wl:List V} (hd:2<=d) (I:Nat->H->Prop) (J:H->Prop) (hw:h.get w=some (.cells (wc f (.slice none 0 (.fix 0)) s now no) false)\/h.get w=some (.cells wl false)) (hwl:wl.length=294/\(wl.drop 0).take 288=jeb f) (hbx:h.get bx=some (.cells [.p w 0] false))
  (hI : ∀ i g g',I i g->Old g g'->I i g') (hskip : ∀ i g,i<96->f i≠none->I i g->I (i+1) g)
  (hy : ∀ i g,i<96->f i=none->I i g -> ∃ (b:Bool) (g':H),cl (d-1) (.yld L) [.i (i:Int)] g=some (.bool b,g')/\(b=true->I (i+1) g')/\(b=false->J g'))
  (h0:I 0 h) : ∃ v h',cl d (.fn 111) [.yld L,.p bx 0] h=some (v,h')/\(I 96 h'\/J h'):=by
 have hw : ∃ wl,h.get w=some (.cells wl false)/\wl.length=294/\(wl.drop 0).take 288=jeb f:=by
  rcases hw with hw | hw
  ·exact ⟨_,hw,jb3,jnr⟩
  ·exact ⟨_,hw,hwl⟩
 obtain ⟨wl,hw,hl,ht⟩:=hw
 refine aT hcl ?_
 refine Ga ?_
 refine zcw rfl hw om ?_
 rw [ht]
 refine Ga ?_
 refine Zx (fun m e g=>∃ i:Nat,m=96-i/\i<=96/\e=[(0,.yld L),(8,.agg (jeb f)),(9,.i i)]/\I i g) (k:=96) Ze ⟨0,rfl,by omega,rfl,h0⟩ ?_
 rintro _ _ g ⟨i,rfl,hi,rfl,hIi⟩ n ih
 by_cases hlt:i<96
 case neg=>
  obtain rfl:i=96:=by omega
  have hlt' : ¬ ((96:Nat):Int)<96:=by omega
  refine Ga ?_
  exact .inl hIi
 have hi1:((i+1:Nat):Int)=(i:Int)+1:=by omega
 refine Ga ?_
 refine Ops.ixAn (m:=3) rfl rfl hlt (by rw [jaB];omega) (jmU hlt) ?_
 refine zcu rfl rfl ?_
 refine Ga ?_
 have o1:Old g ((g.new (.cells [.bool false,.i 0,.i 0] false)).set g.nx (.cells (plc (f i)) false)):=((ZD g).new).set (zr _)
 have I1:=hI _ _ _ hIi o1
 cases hf:f i with
 | some p=>
  rw [hf] at I1
  refine qm ?_
  exact ih (96-(i+1)) om _ _ ⟨i+1,rfl,by omega,by rw [hi1],hskip i _ hlt (by rw [hf];simp) I1⟩
 | none=>
  rw [hf] at I1
  obtain ⟨b,g',e1,q1,q2⟩:=hy i _ hlt hf I1
  cases b
  ·refine qm ?_
   refine Ops.yield rfl rfl e1 ?_
   refine qm ?_
   exact .inr (q2 rfl)
  ·refine qm ?_
   refine Ops.yield rfl rfl e1 ?_
   refine qm ?_
   exact ih (96-(i+1)) om _ _ ⟨i+1,rfl,by omega,by rw [hi1],q1 rfl⟩
theorem jno {d:Nat} (hd:1<=d):cl d (.fn 60) [.p w 0] h=some (.clo 111 [.p h.nx 0],h.new (.cells [.p w 0] false)):=by
 refine jan (aT hcl ?_)
 refine Ga ?_
 refine zcu rfl rfl ?_
 refine Ga ?_
 exact ⟨rfl,rfl⟩
theorem jnn {d:Nat} {ws:Ws} {t:Int} (hd:2<=d) (a:WSt h w s ow ws now tb no) (n0:0<=now) (n1:now<=18446744073709551615) (t0:0<=t) (t1:t<=18446744073709551615) :
  ∃ h',cl d (.fn 82) [.p w 0,.int .u64 t] h=some (.tup [],h')/\WSt h' w s ow ws (jdJ now t) tb no/\To h h' ow ow:=by
 obtain ⟨l,a,rfl⟩:=a
 have hn:=jcw hcl (d:=d-1) om a.wf
 obtain ⟨wv,hw,hr,hz⟩:=a.wf.hw
 have e0:=wc_now (f:=fun i=>atS (wxs l) (i:Int)) (wv:=wv) (s:=s) (now:=now) (no:=no) (o:=0+290) rfl
 have es:jdJ now t=now+min t (18446744073709551615-now):=by unfold jdJ;split<;>omega
 have hlen:0+290<(wc (fun i=>atS (wxs l) (i:Int)) wv s now no).length:=by rw [jb3];omega
 refine jai (aT hcl ?_)
 refine Ga ?_
 refine zcs rfl rfl rfl hw hlen ?_
 rw [jml rfl,<- es]
 refine Ga ?_
 have hne : ∀ j,ow j≠1->j≠w:=fun j hj e=>hj (by rw [e,a.wf.tw])
 refine ⟨rfl,⟨l,⟨⟨⟨wv,jab _,hr.keep (zr _) fun z hz'=>jaa (hne z (by rw [hz z hz'];omega)),hz⟩,?_,a.wf.tw,a.wf.ts,a.wf.lw,a.wf.ls,a.wf.top,fun m t ht=>(a.wf.ok m t ht).keep (zr _) fun j h1 _=>jaa (hne j om)⟩,a.fds⟩,rfl⟩,Ch.set (by show ow w≠0;rw [a.wf.tw];omega),fun _ _=>rfl⟩
 rw [jaa (hne s (by rw [a.wf.ts];omega)),a.wf.hs]
end
theorem jep (ws:Ws) : ∀ (m n:Nat),n<=m->(jaw ws m).take (jaw ws n).length=jaw ws n
 | 0,n,h=>by
  obtain rfl:n=0:=by omega
  simp
 | m+1,n,h=>by
  by_cases e:n=m+1
  ·subst e;simp
  ·have ih:=jep ws m n om
   have hl:(jaw ws n).length<=(jaw ws m).length:=by
    have:=congrArg List.length ih
    rw [List.length_take] at this
    omega
   rw [jc3,List.take_append_of_le_length hl,ih]
section
variable {cl:Nat->Call} (hcl:Sem cl) {h:H} {w s:Nat} {ow:Nat->Nat} {l:List WX} {now:Int} {tb:Tb} {no:Option (Nat × Nat)}
include hcl
theorem jfT {d k:Nat} (hd:5<=d) (hk:k=1\/k=2) (a:WW h w s ow l now tb no) (hlen:l.length<=1000) :
  ∃ v h',cl d (.fn 107) [.p w 0,.i (k:Int)] h=some (.tup [v,.bool (decide (((jaw (wxs l) 96).take k).length=k)&&decide (l.length<1000))],h')/\VI h' v ((jaw (wxs l) 96).take k)/\(∀ z,v.at?=some z->h.nx<=z/\z<h'.nx)/\Old h h':=by
 obtain ⟨sa,c,hw,_⟩:=a.wf.head
 have lw:=a.wf.lw
 suffices q : ∃ v2 h',cl d (.fn 107) [.p w 0,.i (k:Int)] h=some (v2,h') /\ ∃ v,v2 = .tup [v,.bool (decide (((jaw (wxs l) 96).take k).length=k)&&decide (l.length<1000))]/\Row h.nx h' 1 v ((jaw (wxs l) 96).take k).length (ints ((jaw (wxs l) 96).take k))/\Old h h' by
  obtain ⟨_,h',e,v,rfl,r,o⟩:=q
  obtain ⟨p1,p2⟩:=VI.ofRow r
  exact ⟨v,h',e,p1,p2,o⟩
 refine aT hcl ?_
 refine Ga ?_
 refine zcu (ob := .cells [.i (k:Int)] false) (mk:=fun b=>.p b 0) rfl rfl ?_
 refine Ga ?_
 refine zcu (ob := .cells [.nils] false) (mk:=fun b=>.p b 0) rfl rfl ?_
 refine Ga ?_
 refine zaw rfl (jno hcl (w:=w) om) ?_
 rw [show ((h.new (.cells [.i (k:Int)] false)).new (.cells [.nils] false)).nx=h.nx+2 from rfl,show (h.new (.cells [.i (k:Int)] false)).nx=h.nx+1 from rfl]
 refine Ga ?_
 have o1:Old h (((h.new (.cells [.i (k:Int)] false)).new (.cells [.nils] false)).new (.cells [.p w 0] false)):=(ZD h).new.new.new
 have b0:(((h.new (.cells [.i (k:Int)] false)).new (.cells [.nils] false)).new (.cells [.p w 0] false)).get h.nx=some (.cells [.i (k:Int)] false):=qgt
 have b1:(((h.new (.cells [.i (k:Int)] false)).new (.cells [.nils] false)).new (.cells [.p w 0] false)).get (h.nx+1)=some (.cells [.nils] false):=qgt
 have b2:(((h.new (.cells [.i (k:Int)] false)).new (.cells [.nils] false)).new (.cells [.p w 0] false)).get (h.nx+2)=some (.cells [.p w 0] false):=qgt
 have x1:(((h.new (.cells [.i (k:Int)] false)).new (.cells [.nils] false)).new (.cells [.p w 0] false)).nx=h.nx+3:=rfl
 generalize ((h.new (.cells [.i (k:Int)] false)).new (.cells [.nils] false)).new (.cells [.p w 0] false)=H1 at o1 b0 b1 b2 x1 ⊢
 refine Zz rfl qkp fun LO hLO=>?_
 rw [x1]
 have oL:Old h (H1.new (LO .ready none)):=o1.new
 obtain ⟨v,h',hc,hIJ⟩:=jj5 hcl (d:=d-1) (L:=h.nx+3) (bx:=h.nx+2) (h:=H1.new (LO .ready none)) (f:=fun i=>atS (wxs l) (i:Int)) (s:=s) (now:=now) (no:=no) (w:=w) (wl:=wc (fun i=>atS (wxs l) (i:Int)) (.slice sa l.length c) s now no) om
  (fun i g=>(jaw (wxs l) i).length<=k/\i<=96/\(∃ v,g.get (h.nx+1)=some (.cells [v] false)/\Row (h.nx+4) g 1 v (jaw (wxs l) i).length (ints (jaw (wxs l) i)))/\g.get h.nx=some (.cells [.i (k:Int)] false)/\g.get (h.nx+3)=some (LO .ready none)/\h.nx+4<=g.nx/\Old h g)
  (fun g=>(∃ v,g.get (h.nx+1)=some (.cells [v] false)/\Row (h.nx+4) g 1 v ((jaw (wxs l) 96).take k).length (ints ((jaw (wxs l) 96).take k)))/\g.get h.nx=some (.cells [.i (k:Int)] false)/\g.get (h.nx+3)=some (LO .done (some (.exit 0)))/\h.nx+4<=g.nx/\Old h g)
  (.inr (by rw [oL.2 _ lw,hw])) ⟨jb3,jnr⟩ (by rw [jac om,b2])
  (by
   rintro i g g' ⟨p0,p00,⟨v,p1,p2⟩,p3,p4,p5,p6⟩ og
   exact ⟨p0,p00,⟨v,by rw [og.2 _ om,p1],p2.keep og.1 fun z hz=>og.2 z (p2.at_ge hz).2⟩,by rw [og.2 _ om,p3],by rw [og.2 _ om,p4],zE p5 og.1,p6.trans og⟩)
  (by
   rintro i g hi hf ⟨p0,p00,p1,p2⟩
   have e:jaw (wxs l) (i+1)=jaw (wxs l) i:=by
    have:(atS (wxs l) (i:Int)).isNone=false:=by cases h5:atS (wxs l) (i:Int)<;>simp_all
    rw [jc3,this];simp
   rw [e];exact ⟨p0,by omega,p1,p2⟩)
  (by
   rintro i g hi hf ⟨p0,p00,⟨v,p1,p2⟩,p3,p4,p5,p6⟩
   have hfi:atS (wxs l) (i:Int)=none:=hf
   have e:jaw (wxs l) (i+1)=jaw (wxs l) i++[(i:Int)]:=by rw [jc3,hfi];rfl
   have hll:=jhB (wxs l) i
   obtain ⟨cp,⟨av,rfl⟩,_⟩:=p2.shape
   suffices q : ∃ v' g',cl (d-1-1) (.yld (h.nx+3)) [.i (i:Int)] g=some (v',g') /\ ∃ b:Bool,v' = .bool b/\(b=true->(jaw (wxs l) (i+1)).length<=k/\i+1<=96/\(∃ v,g'.get (h.nx+1)=some (.cells [v] false)/\Row (h.nx+4) g' 1 v (jaw (wxs l) (i+1)).length (ints (jaw (wxs l) (i+1))))/\g'.get h.nx=some (.cells [.i (k:Int)] false)/\g'.get (h.nx+3)=some (LO .ready none)/\h.nx+4<=g'.nx/\Old h g') /\
     (b=false->(∃ v,g'.get (h.nx+1)=some (.cells [v] false)/\Row (h.nx+4) g' 1 v ((jaw (wxs l) 96).take k).length (ints ((jaw (wxs l) 96).take k)))/\g'.get h.nx=some (.cells [.i (k:Int)] false)/\g'.get (h.nx+3)=some (LO .done (some (.exit 0)))/\h.nx+4<=g'.nx/\Old h g') by
    obtain ⟨_,g',e,b,rfl,q⟩:=q
    exact ⟨b,g',e,q⟩
   refine yl_ hcl om hLO p4 rfl ?_
   refine Ga ?_
   refine Zv ⟨rfl,p4,?_⟩
   by_cases hck:(jaw (wxs l) i).length=k
   ·have hck':((jaw (wxs l) i).length:Int)=(k:Int):=by omega
    refine Ga ?_
    refine Zv ⟨⟨.busy,none,qgt⟩,false,rfl,fun e=>(by cases e),fun _=>⟨⟨_,qgt,?_⟩,qgt,jab _,by simpa using p5,?_⟩⟩
    ·rw [<- hck,jep _ 96 i om]
     exact p2.keep Zd fun z hz=>by have:=p2.at_ge hz;rw [jaa om,jaa om]
    ·exact (p6.set om).set om
   ·have hck' : ¬ ((jaw (wxs l) i).length:Int)=(k:Int):=by omega
    refine Ga ?_
    have p2':Row (h.nx+4) (g.set (h.nx+3) (LO .busy none)) 1 (.slice av (jaw (wxs l) i).length cp) (jaw (wxs l) i).length (ints (jaw (wxs l) i)):=p2.keep Zd fun z hz=>by have:=p2.at_ge hz;exact jaa om
    refine Ops.push (N:=h.nx+4) (new:=[.i (i:Int)]) rfl rfl rfl rfl om rfl rfl p2' (by simpa using p5) om om fun v' g2 row' hx' hz' hk'=>?_
    have hx':g.nx<=g2.nx:=by simpa using hx'
    have hk2 : ∀ j,j<h.nx+4->g2.get j=(g.set (h.nx+3) (LO .busy none)).get j:=fun j hj=>hk' j Zc fun e=>by have:=p2'.at_ge e;omega
    have q1:g2.get (h.nx+1)=some (.cells [.slice av (jaw (wxs l) i).length cp] false):=by rw [hk2 _ om];exact qgt
    have hone:=row'.one
    refine zcs rfl rfl hone q1 zP ?_
    refine Ga ?_
    refine Zv ⟨⟨.busy,none,by rw [jaa om,hk2 _ om,jab]⟩,true,rfl,fun _=>⟨by rw [e,zg];simp;omega,by omega,⟨v',qgt,?_⟩,?_,jab _,by simp;omega,?_⟩,fun e=>by cases e⟩
    ·rw [e,zg]
     have r2:Row (h.nx+4) g2 1 v' ((jaw (wxs l) i).length+[(i:Int)].length) (ints (jaw (wxs l) i++[(i:Int)])):=by simpa [ints] using row'
     exact r2.keep Zd fun z hz=>by have:=hz' z hz;simp at this;rw [jaa om,jaa om]
    ·rw [jaa om,jaa om,hk2 _ om,jaa om,p3]
    ·have p7:=p6.1
     exact ⟨by simp;omega,fun j hj=>by rw [jaa om,jaa om,hk2 _ om,jaa om,p6.2 j hj]⟩)
  ⟨by simp [jaw],by omega,⟨.nils,by rw [jac om,b1],by simpa [jaw] using Row.nil _ _ _⟩,by rw [jac om,b0],by rw [<- x1,jad],by simp [x1],oL⟩
 refine ⟨v,h',hc,?_⟩
 have fin : ∀ (v:V) (g:H),g.get (h.nx+1)=some (.cells [v] false)->Row (h.nx+4) g 1 v ((jaw (wxs l) 96).take k).length (ints ((jaw (wxs l) 96).take k))->g.get h.nx=some (.cells [.i (k:Int)] false)->h.nx+4<=g.nx->Old h g ->
   End (cl (d-1)) fuel [.seq c107_1] .normal [(0,.p w 0),(3,.p h.nx 0),(6,.p (h.nx+1) 0),(9,.clo 111 [.p (h.nx+2) 0])] (g.kill (h.nx+3)) (Fin c107.res fun v2 h'=>∃ v,v2 = .tup [v,.bool (decide (((jaw (wxs l) 96).take k).length=k)&&decide (l.length<1000))]/\Row h.nx h' 1 v ((jaw (wxs l) 96).take k).length (ints ((jaw (wxs l) 96).take k))/\Old h h'):=by
  intro v g g1 r g0 gn og
  have hw':g.get w=some (.cells (wc (fun i=>atS (wxs l) (i:Int)) (.slice sa l.length c) s now no) false):=by rw [og.2 _ lw,hw]
  have k1:(g.kill (h.nx+3)).get (h.nx+1)=some (.cells [v] false):=by rw [jae om,g1]
  have k0:(g.kill (h.nx+3)).get h.nx=some (.cells [.i (k:Int)] false):=by rw [jae om,g0]
  have kw:(g.kill (h.nx+3)).get w=some (.cells (wc (fun i=>atS (wxs l) (i:Int)) (.slice sa l.length c) s now no) false):=by rw [jae om,hw']
  have w1:(wc (fun i=>atS (wxs l) (i:Int)) (.slice sa l.length c) s now no)[0+288]?=some (.slice sa l.length c):=jbe rfl
  have r2:Row h.nx (g.kill (h.nx+3)) 1 v ((jaw (wxs l) 96).take k).length (ints ((jaw (wxs l) 96).take k)):=(r.keep Zd fun z hz=>by have:=r.at_ge hz;exact jae om).weaken om
  have o2:Old h (g.kill (h.nx+3)):=⟨by simpa using og.1,fun j hj=>by rw [jae om,og.2 j hj]⟩
  obtain ⟨cp,⟨av,rfl⟩,_⟩:=r.shape
  generalize (jaw (wxs l) 96).take k=fl at r2 k1 ⊢
  by_cases h1:(fl.length:Int)=(k:Int)
  ·have h1':fl.length=k:=by omega
   refine Ga ?_
   have el:decide (l.length<1000)=decide ((l.length:Int)<1000):=by
    by_cases e:l.length<1000
    ·rw [zJ e,zJ om]
    ·rw [zH e,zH om]
   refine ⟨_,?_,r2,o2⟩
   rw [zJ h1',Bool.true_and,el]
  ·have h1' : ¬ fl.length=k:=by omega
   refine Ga ?_
   exact ⟨_,by rw [zH h1',Bool.false_and],r2,o2⟩
 rcases hIJ with ⟨p0,_,⟨v,p1,p2⟩,p3,p4,p5,p6⟩ | ⟨⟨v,p1,p2⟩,p3,p4,p5,p6⟩
 ·refine ⟨.normal,p4,?_⟩
  have et:(jaw (wxs l) 96).take k=jaw (wxs l) 96:=zh p0
  have:=fin v h' p1 (by rw [et];exact p2) p3 p5 p6
  exact zbw this
 ·refine ⟨.exit 0,p4,?_⟩
  have:=fin v h' p1 p2 p3 p5 p6
  exact zby this
end
def jpb (n:Nat):Wi:=⟨⟨0,0,some [],true,false,0,0⟩,⟨0,0,some [],true,false,0,0⟩,n,false,0,[]⟩
def jm1 (bb n:Nat):Obj := .cells [.slice (some (bb,0)) n (.fix n),.i 0,.i 0,.int .u64 0,.int .u64 0,.bool true] false
def bufO (n:Nat):Obj := .cells (List.replicate n (.int .u8 0)) false
theorem je5 {h:H} {r bb n:Nat} (h1:1<=n) (h2:n<=65536) (hr:h.get r=some (jm1 bb n)) (hb:h.get bb=some (bufO n)):ja5 h r bb [] n:=by
 refine ⟨List.replicate n 0,0,0,0,⟨hr,?_⟩,?_⟩
 ·rw [hb];simp [bufO,bts];exact .inr rfl
 ·exact ⟨by simp,h1,Zm _,h2,fun i hi=>zM hi (Nat.not_lt_zero _)⟩
def tg:Nat->Nat
 | 0=>0
 | 1=>2
 | 2=>1
 | 3=>4
 | _=>3
def jgg (ow:Nat->Nat) (N L m z:Nat):Nat->Nat:=fun j=>if j=z then 2 else if N<=j/\j<N+m then 10*L+10+tg (j-N) else ow j
theorem jnF {ow:Nat->Nat} {N L m z:Nat} : jgg ow N L m z z=2:=zG rfl
theorem jnG {ow:Nat->Nat} {N L m z i:Nat} (h:i<m) (hz:N+i≠z):jgg ow N L m z (N+i)=10*L+10+tg i:=by
 unfold jgg
 rw [zF hz,zG om,show N+i-N=i by omega]
theorem jgf {ow:Nat->Nat} {N L m z j:Nat} (h:j<N\/N+m<=j) (hz:j≠z):jgg ow N L m z j=ow j:=by
 unfold jgg
 rw [zF hz,zF om]
theorem XOk.tag0 {h:H} {ow ow':Nat->Nat} {n:Nat} {t:WX} (a:XOk h ow n t) (hk : ∀ j,ow j≠0->ow' j=ow j):XOk h ow' n t:=by
 refine ⟨a.hx,by rw [hk _ (by rw [a.ox];omega),a.ox],a.lx,fun k h01 q hq=>?_,a.wait.1,fun hl z hz=>?_⟩
 ·obtain ⟨p1,p2,p3,p4,p5⟩:=a.ring k h01 q hq
  exact ⟨p1,by rw [hk _ om,p2],by rw [hk _ om,p3],p4,p5⟩
 ·obtain ⟨p1,p2⟩:=a.wait.2 hl z hz
  exact ⟨by rw [hk _ om,p1],p2⟩
theorem WF.push {h h':H} {w s:Nat} {ow:Nat->Nat} {f g:Nat->Option (Nat × Nat)} {l:List WX} {now:Int} {tb:Tb} {no:Option (Nat × Nat)} {m z N:Nat} {wv:V} {t:WX} (a:WF h w s ow f l now tb no)
  (hm:m=1\/m=5) (hN:N+m<=h.nx) (h0 : ∀ j,N<=j->j<N+m->ow j=0) (hx:h.nx<=z) (hz:z<h'.nx) (hk : ∀ j,ow j≠0->ow j≠2->j≠w->h'.get j=h.get j)
  (hw:h'.get w=some (.cells (wc g wv s now no) false)) (row:Row 0 h' 1 wv (l.length+1) (wps l++[.p N 0])) (hat : ∀ y,wv.at?=some y->y=z)
  (t0:t.wb=N) (t1:m=5->t.b0=N+1/\t.r0=N+2/\t.b1=N+3/\t.r1=N+4)
  (ho:h'.get N=some (t.x.obj t.r0 t.r1 t.wv)) (hwt:t.x.waiting=[]) (hwv:t.wv = .nils)
  (hr : ∀ k,k=0\/k=1 -> ∀ q,(t.x.e k).ring=some q->m=5/\ja5 h' (t.r k) (t.b k) q t.x.cap) :
  WF h' w s (jgg ow N l.length m z) g (l++[t]) now tb no:=by
 have hz0:ow z=0:=a.top z hx
 have keep : ∀ j,ow j≠0->jgg ow N l.length m z j=ow j:=fun j hj=>jgf (by
  rcases zA j N with h1 | h1
  ·exact .inl h1
  ·rcases zA j (N+m) with h2 | h2
   ·exact zM (h0 j h1 h2) hj
   ·exact .inr h2) fun e=>hj (by rw [e,hz0])
 have nx:h.nx<=h'.nx:=by omega
 refine ⟨⟨wv,hw,?_,fun y hy=>by rw [hat y hy,jnF]⟩,?_,?_,?_,zu a.lw nx,zu a.ls nx,fun j hj=>?_,fun n u hu=>?_⟩
 ·rw [zg]
  show Row 0 h' 1 wv (l.length+1) (wps (l++[t]))
  have:wps (l++[t])=wps l++[.p N 0]:=by rw [<- t0];simp
  rw [this];exact row
 ·rw [hk s (by rw [a.ts];omega) (by rw [a.ts];omega) (fun e=>by have:=a.ts;rw [e,a.tw] at this;omega),a.hs]
 ·rw [keep w (by rw [a.tw];omega),a.tw]
 ·rw [keep s (by rw [a.ts];omega),a.ts]
 ·rw [jgf om om,a.top j om]
 ·rcases zA n l.length with hn | hn
  ·rw [ze,zG hn] at hu
   have o:=(a.ok n u hu).tag0 keep
   refine o.keep nx fun j j1 j2=>?_
   have hj:ow j≠0:=by
    intro e
    rcases zA j N with h1 | h1
    ·by_cases ez:j=z
     ·omega
     ·rw [jgf (.inl h1) ez,e] at j1;omega
    ·by_cases ez:j=z
     ·rw [ez,jnF] at j1;omega
     ·rcases zA j (N+m) with h2 | h2
      ·obtain ⟨i,rfl⟩ : ∃ i,j=N+i:=⟨j-N,by omega⟩
       rw [jnG om ez] at j2;omega
      ·rw [jgf (.inr h2) ez,e] at j1;omega
   refine hk j hj (fun e=>?_) fun e=>?_
   ·rw [keep j hj,e] at j1;omega
   ·rw [keep j hj,e,a.tw] at j1;omega
  ·rw [ze,zF om] at hu
   have e0:n-l.length=0:=by
    rcases Nat.eq_zero_or_pos (n-l.length) with e | e
    ·exact e
    ·rw [zc (show 1<=_ from e)] at hu;cases hu
   rw [e0] at hu
   cases hu
   obtain rfl:n=l.length:=by omega
   have tag : ∀ i,i<m->jgg ow N l.length m z (N+i)=10*l.length+10+tg i:=fun i hi=>jnG hi om
   refine ⟨by rw [t0];exact ho,by rw [t0];exact tag 0 om,by rw [t0];omega,fun k hk q hq=>?_,by rw [hwt,hwv];exact VI.nil h',fun hl=>zM hwt hl⟩
   obtain ⟨r1,r2⟩:=hr k hk q hq
   obtain ⟨p1,p2,p3,p4⟩:=t1 r1
   refine ⟨r2,?_⟩
   rcases hk with rfl | rfl
   ·show jgg ow N l.length m z t.r0=_/\jgg ow N l.length m z t.b0=_/\t.r0<h'.nx/\t.b0<h'.nx
    rw [p1,p2]
    exact ⟨tag 2 om,tag 1 om,by omega,by omega⟩
   ·show jgg ow N l.length m z t.r1=_/\jgg ow N l.length m z t.b1=_/\t.r1<h'.nx/\t.b1<h'.nx
    rw [p3,p4]
    exact ⟨tag 4 om,tag 3 om,by omega,by omega⟩
theorem End.opqh {call:Call} {fuel:Nat} {K:List Fr} {x:Ex} {e:Env} {h:H} {Q:Post} (k : ∀ G,G=h->End call fuel K x e G Q):End call fuel K x e h Q:=k h rfl
section
variable {cl:Nat->Call} (hcl:Sem cl)
include hcl
theorem jiq {d:Nat} {h:H} {n:Int} (hd:1<=d) (hn:n<0\/65536<n):cl d (.fn 105) [.i n] h=some (.tup [.ptr none,.i 2],h):=by
 refine jan (aT hcl ?_)
 rcases hn with hn | hn
 ·refine Ga ?_
  exact ⟨rfl,rfl⟩
 ·by_cases h0:n<0
  ·exfalso;omega
  ·refine Ga ?_
   exact ⟨rfl,rfl⟩
theorem jnk {d:Nat} {h:H} {n:Nat} (hd:2<=d) (h2:n<=65536) :
  ∃ h',cl d (.fn 55) [.i (n:Int)] h=some (.p h.nx 0,h')/\h'.nx=h.nx+5/\Old h h'/\h'.get h.nx=some ((jpb n).obj (h.nx+2) (h.nx+4) .nils)/\h'.get (h.nx+2)=some (jm1 (h.nx+1) n)/\h'.get (h.nx+1)=some (bufO n)/\h'.get (h.nx+4)=some (jm1 (h.nx+3) n)/\h'.get (h.nx+3)=some (bufO n):=by
 refine jai (aT hcl ?_)
 refine qm ?_
 refine Run.unroll (n:=99999) rfl ?_
 refine qm ?_
 refine zaw rfl (jo8 hcl (n:=n) om h2) ?_
 refine qm ?_
 refine End.opqh fun G hG=>?_
 have x1:G.nx=h.nx+3:=by rw [hG];rfl
 have o1:Old h G:=by
  rw [hG]
  repeat (first | exact ZD _ | refine Old.new ?_ | refine Old.set ?_ (zr _))
 have g0:G.get h.nx=some (.cells [.i 0,.i 0,.p (h.nx+2) 0,.bool true,.bool false,.int .u64 0,.int .u64 0,.i 0,.i 0,.ptr none,.bool false,.bool false,.int .u64 0,.int .u64 0,.bool false,.i 0,.nils] false):=by
  rw [hG];exact jab _
 have g1:G.get (h.nx+1)=some (bufO n):=by
  rw [hG];rw [jaa om,jaa om,jac (Nat.lt_succ_self _)];exact jad _
 have g2:G.get (h.nx+2)=some (jm1 (h.nx+1) n):=by
  rw [hG];rw [jaa om,jaa om];exact jad _
 clear hG
 refine ZC ?_
 refine qm ?_
 refine zaw rfl (jo8 hcl (n:=n) om h2) ?_
 have g0':((G.new (.cells (List.replicate n (.int .u8 0)) false)).new (.cells [.slice (some (G.nx,0)) n (.fix n),.i 0,.i 0,.int .u64 0,.int .u64 0,.bool true] false)).get h.nx=G.get h.nx:=by
  rw [jac Zc,jac om]
 rw [g0] at g0'
 refine qm ?_
 refine End.opqh fun G2 hG2=>?_
 have x2:G2.nx=h.nx+5:=by rw [hG2];show G.nx+1+1=_;omega
 have o2:Old h G2:=by
  rw [hG2]
  repeat (first | exact o1 | refine Old.new ?_ | refine Old.set ?_ (zr _))
 have k0:G2.get h.nx=some ((jpb n).obj (h.nx+2) (h.nx+4) .nils):=by
  rw [hG2];refine (jab _).trans ?_
  have:G.nx+1=h.nx+4:=by omega
  rw [<- this];rfl
 have k1:G2.get (h.nx+1)=some (bufO n):=by
  rw [hG2];rw [jaa om,jaa om,jac Zc,jac om];exact g1
 have k2:G2.get (h.nx+2)=some (jm1 (h.nx+1) n):=by
  rw [hG2];rw [jaa om,jaa om,jac Zc,jac om];exact g2
 have k3:G2.get (h.nx+3)=some (bufO n):=by
  rw [hG2,<- x1];rw [jaa om,jaa om,jac Zd];exact jad _
 have k4:G2.get (h.nx+4)=some (jm1 (h.nx+3) n):=by
  have e:h.nx+4=G.nx+1:=by omega
  rw [hG2,e,<- x1];rw [jaa om,jaa om];exact jad _
 clear hG2
 refine ZC ?_
 refine qm ?_
 exact ⟨rfl,x2,o2,k0,k2,k1,k4,k3⟩
theorem jk7 {d:Nat} {h:H} {n:Int} (hd:2<=d) (hn:n<0\/65536<n) :
  ∃ h',cl d (.fn 55) [.i n] h=some (.p h.nx 0,h')/\h'.nx=h.nx+1/\Old h h'/\h'.get h.nx=some ((⟨⟨0,0,none,true,false,0,0⟩,⟨0,0,none,true,false,0,0⟩,0,false,0,[]⟩:Wi).obj 0 0 .nils):=by
 refine jai (aT hcl ?_)
 refine qm ?_
 refine Run.unroll (n:=99999) rfl ?_
 refine qm ?_
 refine zaw rfl (jiq hcl (n:=n) om hn) ?_
 refine qm ?_
 refine End.opqh fun G hG=>?_
 have x1:G.nx=h.nx+1:=by rw [hG];rfl
 have o1:Old h G:=by
  rw [hG]
  repeat (first | exact ZD _ | refine Old.new ?_ | refine Old.set ?_ (zr _))
 have g0:G.get h.nx=some (.cells [.i 0,.i 0,.ptr none,.bool true,.bool false,.int .u64 0,.int .u64 0,.i 0,.i 0,.ptr none,.bool false,.bool false,.int .u64 0,.int .u64 0,.bool false,.i 0,.nils] false):=by
  rw [hG];exact jab _
 clear hG
 refine ZC ?_
 refine qm ?_
 refine zaw rfl (jiq hcl (n:=n) om (by assumption)) ?_
 refine qm ?_
 refine End.opqh fun G2 hG2=>?_
 have x2:G2.nx=h.nx+1:=by rw [hG2];exact x1
 have o2:Old h G2:=by
  rw [hG2]
  repeat (first | exact o1 | refine Old.new ?_ | refine Old.set ?_ (zr _))
 have k0:G2.get h.nx=some ((⟨⟨0,0,none,true,false,0,0⟩,⟨0,0,none,true,false,0,0⟩,0,false,0,[]⟩:Wi).obj 0 0 .nils):=by
  rw [hG2];exact jab _
 clear hG2
 refine ZC ?_
 refine qm ?_
 exact ⟨rfl,x2,o2,k0⟩
end
def Wi.name (x:Wi) (k:Nat) (i:Nat):Wi:=x.put k { x.e k with what:=1,fd:=i }
structure Opened (h h':H) (w s N:Nat) (ow:Nat->Nat) (g:Nat->Option (Nat × Nat)) (l:List WX) (now:Int) (no:Option (Nat × Nat)) (o:Obj):Prop where
 ho:h'.get N=some o
 hw : ∃ wv z,h'.get w=some (.cells (wc g wv s now no) false)/\Row 0 h' 1 wv (l.length+1) (wps l++[.p N 0])/\(∀ y,wv.at?=some y->y=z)/\h.nx<=z/\z<h'.nx
 hk : ∀ j,j<h.nx->j≠N->j≠w->ow j≠2->h'.get j=h.get j
 nx:h.nx<=h'.nx
theorem Ops.opqh {call:Call} {fuel base:Nat} {ops:List Ins} {keep:List Nat} {K:List Fr} {e:Env} {h:H} {Q:Post} (k : ∀ G,G=h->Ops call fuel base ops keep K e G Q):Ops call fuel base ops keep K e h Q:=k h rfl
section
variable {cl:Nat->Call} (hcl:Sem cl) {h:H} {w s:Nat} {ow:Nat->Nat} {f:Nat->Option (Nat × Nat)} {l:List WX} {now:Int} {tb:Tb} {no:Option (Nat × Nat)}
include hcl
theorem xp_open1 {d N i0:Nat} {vf wv:V} {x:Wi} {r0 r1:Nat} (hd:1<=d) (a:WF h w s ow f l now tb no) (hN:h.get N=some (x.obj r0 r1 wv)) (hN0:ow N=0) (hNl:N<h.nx) (hl:l.length<1000) (vi:VI h vf [(i0:Int)]) (vz : ∀ z,vf.at?=some z->ow z=0/\z≠N) (hi:i0<96) :
  ∃ h',cl d (.fn 108) [.p w 0,.p N 0,vf] h=some (.tup [],h')/\Opened h h' w s N ow (fun j=>if j=i0 then some (l.length,0) else f j) l now no ((x.name 0 i0).obj r0 r1 wv):=by
 obtain ⟨wv0,hw,row,hz⟩:=a.hw
 obtain ⟨cp,⟨av,rfl⟩,_⟩:=row.shape
 obtain ⟨af,cf,rfl,_⟩:=id vi
 obtain ⟨b,of,cs,ro,rfl,hcs,hc0⟩:=VI.cell (l:=[(i0:Int)]) vi (i:=0) (x:=(i0:Int)) rfl
 have hNw:N≠w:=fun e=>by have:=a.tw;rw [<- e] at this;omega
 have hbN:=vz b rfl
 have hwN:w≠N:=fun e=>hNw e.symm
 have c1:(wc f (.slice av l.length cp) s now no)[0+288]?=some (.slice av l.length cp):=jbe rfl
 obtain ⟨⟨a0,b0,c0,d0,e0,f0,g0⟩,⟨a1,b1,c1',d1,e1,f1,g1⟩,cap,rs,bl,wt⟩:=x
 simp only [Wi.obj,Wi.cells,En.cells,zZ,Zi] at hN
 refine jai (aT hcl ?_)
 refine qm ?_
 refine Run.unroll (n:=99999) rfl ?_
 refine qm ?_
 refine Ops.opqh fun H1 hH1=>?_
 have n1:H1.nx=h.nx:=by rw [hH1];rfl
 have k1 : ∀ j,j≠N->H1.get j=h.get j:=by intro j hj;rw [hH1,jaa hj,jaa hj]
 have q1:H1.get N=some (.cells [.i 1,.i i0,En.ptr c0 r0,.bool d0,.bool e0,.int .u64 f0,.int .u64 g0,.i a1,.i b1,En.ptr c1' r1,.bool d1,.bool e1,.int .u64 f1,.int .u64 g1,.bool rs,.i bl,wv] false):=by rw [hH1];exact jab _
 clear hH1
 have hw1:H1.get w=some (.cells (wc f (.slice av l.length cp) s now no) false):=by rw [k1 w hwN,hw]
 have e3:jat (wc f (.slice av l.length cp) s now no) (0+0+(i0:Int).toNat*3) [.bool true,.i (l.length:Int),.i 0]=wc (fun j=>if j=i0 then some (l.length,0) else f j) (.slice av l.length cp) s now no:=jfq (p:=some (l.length,0)) hi om fun j _=>rfl
 have hlen:0+0+(i0:Int).toNat*3+3<=(wc f (.slice av l.length cp) s now no).length:=by rw [jb3];omega
 refine zct (vs:=[.bool true,.i (l.length:Int),.i 0]) rfl rfl rfl rfl hw1 hlen ?_
 rw [e3]
 clear e3 hlen
 refine qm ?_
 refine End.opqh fun H2 hH2=>?_
 have n2:H2.nx=h.nx:=by rw [hH2];exact n1
 have k2 : ∀ j,j≠N->j≠w->H2.get j=h.get j:=by intro j hj hj2;rw [hH2,jaa hj2,k1 j hj]
 have q2:H2.get N=some (.cells [.i 1,.i i0,En.ptr c0 r0,.bool d0,.bool e0,.int .u64 f0,.int .u64 g0,.i a1,.i b1,En.ptr c1' r1,.bool d1,.bool e1,.int .u64 f1,.int .u64 g1,.bool rs,.i bl,wv] false):=by rw [hH2,jaa hNw,q1]
 have hw2:H2.get w=some (.cells (wc (fun j=>if j=i0 then some (l.length,0) else f j) (.slice av l.length cp) s now no) false):=by rw [hH2,jab]
 clear hH2 hw1 q1 k1
 generalize hg:(fun j=>if j=i0 then some (l.length,0) else f j)=g at hw2 ⊢
 have c2:(wc g (.slice av l.length cp) s now no)[0+288]?=some (.slice av l.length cp):=jbe rfl
 refine ZC ?_
 refine Ga ?_
 have hzN : ∀ z,(V.slice av l.length cp).at?=some z->z≠N/\z≠w:=fun z e=>⟨fun e2=>by have:=hz z e;rw [e2,hN0] at this;omega,fun e2=>by have:=hz z e;rw [e2,a.tw] at this;omega⟩
 have row2:Row 0 H2 1 (.slice av l.length cp) l.length (wps l):=row.keep om fun z e=>k2 z (hzN z e).1 (hzN z e).2
 refine Ops.push (N:=0) (new:=[.p N 0]) rfl rfl rfl rfl om rfl rfl row2 (Zm _) om om fun v' H3 row3 hx3 hz3 hk3=>?_
 have k3 : ∀ j,j<h.nx->ow j≠2->H3.get j=H2.get j:=fun j hj ho=>hk3 j om fun e=>ho (hz j e)
 have hw3:H3.get w=some (.cells (wc g (.slice av l.length cp) s now no) false):=by rw [k3 w a.lw (by rw [a.tw];omega),hw2]
 have q3:H3.get N=some (.cells [.i 1,.i i0,En.ptr c0 r0,.bool d0,.bool e0,.int .u64 f0,.int .u64 g0,.i a1,.i b1,En.ptr c1' r1,.bool d1,.bool e1,.int .u64 f1,.int .u64 g1,.bool rs,.i bl,wv] false):=by rw [k3 N hNl om,q2]
 have hlen:0+288<(wc g (.slice av l.length cp) s now no).length:=by rw [jb3];omega
 have hone:=row3.one
 refine Ga ?_
 refine zcs rfl rfl hone hw3 hlen ?_
 rw [jee rfl]
 refine Ga ?_
 have hzw : ∀ z,v'.at?=some z->z≠w:=fun z e=>by have:=hz3 z e;have:=a.lw;omega
 refine ⟨rfl,by rw [jaa hNw,q3];rfl,⟨v',?_⟩,fun j hj h1 h2 h3=>by rw [jaa h2,k3 j hj h3,k2 j h1 h2],by show h.nx<=H3.nx;omega⟩
 rcases id row3 with ⟨h0,_⟩ | ⟨z,_,z1,rfl,_,_⟩
 ·omega
 ·refine ⟨z,jab _,row3.keep (zr _) fun y e=>jaa (hzw y e),fun y e=>by cases e;rfl,by have:=hz3 z rfl;omega,z1⟩
theorem xp_open2 {d N i0 i1:Nat} {vf wv:V} {x:Wi} {r0 r1:Nat} (hd:1<=d) (a:WF h w s ow f l now tb no) (hN:h.get N=some (x.obj r0 r1 wv)) (hN0:ow N=0) (hNl:N<h.nx) (hl:l.length<1000) (vi:VI h vf [(i0:Int),(i1:Int)]) (vz : ∀ z,vf.at?=some z->ow z=0/\z≠N) (hi:i0<96) (hi1:i1<96) :
  ∃ h',cl d (.fn 108) [.p w 0,.p N 0,vf] h=some (.tup [],h')/\Opened h h' w s N ow (fun j=>if j=i1 then some (l.length,1) else if j=i0 then some (l.length,0) else f j) l now no (((x.name 0 i0).name 1 i1).obj r0 r1 wv):=by
 obtain ⟨wv0,hw,row,hz⟩:=a.hw
 obtain ⟨cp,⟨av,rfl⟩,_⟩:=row.shape
 obtain ⟨af,cf,rfl,_⟩:=id vi
 obtain ⟨b,of,cs,ro,rfl,hcs,hc0⟩:=VI.cell (l:=[(i0:Int),(i1:Int)]) vi (i:=0) (x:=(i0:Int)) rfl
 obtain ⟨_,_,_,_,e0,ecs,hc1⟩:=VI.cell (l:=[(i0:Int),(i1:Int)]) vi (i:=1) (x:=(i1:Int)) rfl
 cases e0
 rw [hcs] at ecs;cases ecs
 have hNw:N≠w:=fun e=>by have:=a.tw;rw [<- e] at this;omega
 have hbN:=vz b rfl
 have hwN:w≠N:=fun e=>hNw e.symm
 have hbw:b≠w:=fun e=>by have:=a.tw;rw [<- e] at this;omega
 have c1:(wc f (.slice av l.length cp) s now no)[0+288]?=some (.slice av l.length cp):=jbe rfl
 obtain ⟨⟨a0,b0,c0,d0,e0,f0,g0⟩,⟨a1,b1,c1',d1,e1,f1,g1⟩,cap,rs,bl,wt⟩:=x
 simp only [Wi.obj,Wi.cells,En.cells,zZ,Zi] at hN
 refine jai (aT hcl ?_)
 refine qm ?_
 refine Run.unroll (n:=99999) rfl ?_
 refine qm ?_
 refine Ops.opqh fun H1 hH1=>?_
 have n1:H1.nx=h.nx:=by rw [hH1];rfl
 have k1 : ∀ j,j≠N->H1.get j=h.get j:=by intro j hj;rw [hH1,jaa hj,jaa hj]
 have q1:H1.get N=some (.cells [.i 1,.i i0,En.ptr c0 r0,.bool d0,.bool e0,.int .u64 f0,.int .u64 g0,.i a1,.i b1,En.ptr c1' r1,.bool d1,.bool e1,.int .u64 f1,.int .u64 g1,.bool rs,.i bl,wv] false):=by rw [hH1];exact jab _
 clear hH1
 have hw1:H1.get w=some (.cells (wc f (.slice av l.length cp) s now no) false):=by rw [k1 w hwN,hw]
 have e3:jat (wc f (.slice av l.length cp) s now no) (0+0+(i0:Int).toNat*3) [.bool true,.i (l.length:Int),.i 0]=wc (fun j=>if j=i0 then some (l.length,0) else f j) (.slice av l.length cp) s now no:=jfq (p:=some (l.length,0)) hi om fun j _=>rfl
 have hlen:0+0+(i0:Int).toNat*3+3<=(wc f (.slice av l.length cp) s now no).length:=by rw [jb3];omega
 refine zct (vs:=[.bool true,.i (l.length:Int),.i 0]) rfl rfl rfl rfl hw1 hlen ?_
 rw [e3]
 clear e3 hlen
 refine qm ?_
 refine End.opqh fun H2 hH2=>?_
 have n2:H2.nx=h.nx:=by rw [hH2];exact n1
 have k2 : ∀ j,j≠N->j≠w->H2.get j=h.get j:=by intro j hj hj2;rw [hH2,jaa hj2,k1 j hj]
 have q2:H2.get N=some (.cells [.i 1,.i i0,En.ptr c0 r0,.bool d0,.bool e0,.int .u64 f0,.int .u64 g0,.i a1,.i b1,En.ptr c1' r1,.bool d1,.bool e1,.int .u64 f1,.int .u64 g1,.bool rs,.i bl,wv] false):=by rw [hH2,jaa hNw,q1]
 have hw2:H2.get w=some (.cells (wc (fun j=>if j=i0 then some (l.length,0) else f j) (.slice av l.length cp) s now no) false):=by rw [hH2,jab]
 clear hH2 hw1 q1 k1
 obtain ⟨fA,hfA⟩ : ∃ fA,(fun j=>if j=i0 then some (l.length,0) else f j)=fA:=⟨_,rfl⟩
 rw [hfA] at hw2
 have c2A:(wc fA (.slice av l.length cp) s now no)[0+288]?=some (.slice av l.length cp):=jbe rfl
 have hcs2:H2.get b=some (.cells cs ro):=by rw [k2 b hbN.2 hbw,hcs]
 refine ZC ?_
 refine qm ?_
 refine Ops.opqh fun H4 hH4=>?_
 have n4:H4.nx=h.nx:=by rw [hH4];exact n2
 have k4 : ∀ j,j≠N->H4.get j=H2.get j:=by intro j hj;rw [hH4,jaa hj,jaa hj]
 have q4:H4.get N=some (.cells [.i 1,.i i0,En.ptr c0 r0,.bool d0,.bool e0,.int .u64 f0,.int .u64 g0,.i 1,.i i1,En.ptr c1' r1,.bool d1,.bool e1,.int .u64 f1,.int .u64 g1,.bool rs,.i bl,wv] false):=by rw [hH4];exact jab _
 clear hH4
 have hw4:H4.get w=some (.cells (wc fA (.slice av l.length cp) s now no) false):=by rw [k4 w hwN,hw2]
 have e3:jat (wc fA (.slice av l.length cp) s now no) (0+0+(i1:Int).toNat*3) [.bool true,.i (l.length:Int),.i 1]=wc (fun j=>if j=i1 then some (l.length,1) else fA j) (.slice av l.length cp) s now no:=jfq (p:=some (l.length,1)) hi1 om fun j _=>rfl
 have hlen:0+0+(i1:Int).toNat*3+3<=(wc fA (.slice av l.length cp) s now no).length:=by rw [jb3];omega
 refine zct (vs:=[.bool true,.i (l.length:Int),.i 1]) rfl rfl rfl rfl hw4 hlen ?_
 rw [e3]
 clear e3 hlen
 refine qm ?_
 refine End.opqh fun H5 hH5=>?_
 have n5:H5.nx=h.nx:=by rw [hH5];exact n4
 have k5 : ∀ j,j≠N->j≠w->H5.get j=h.get j:=by intro j hj hj2;rw [hH5,jaa hj2,k4 j hj,k2 j hj hj2]
 have q5:H5.get N=some (.cells [.i 1,.i i0,En.ptr c0 r0,.bool d0,.bool e0,.int .u64 f0,.int .u64 g0,.i 1,.i i1,En.ptr c1' r1,.bool d1,.bool e1,.int .u64 f1,.int .u64 g1,.bool rs,.i bl,wv] false):=by rw [hH5,jaa hNw,q4]
 have hw5:H5.get w=some (.cells (wc (fun j=>if j=i1 then some (l.length,1) else fA j) (.slice av l.length cp) s now no) false):=by rw [hH5,jab]
 clear hH5 hw4 q4 k4 c2A hcs2
 have hgA:(fun j=>if j=i1 then some (l.length,1) else fA j)=fun j=>if j=i1 then some (l.length,1) else if j=i0 then some (l.length,0) else f j:=by rw [<- hfA]
 rw [hgA] at hw5
 clear hgA hfA
 generalize hg:(fun j=>if j=i1 then some (l.length,1) else if j=i0 then some (l.length,0) else f j)=g at hw5 ⊢
 have c2:(wc g (.slice av l.length cp) s now no)[0+288]?=some (.slice av l.length cp):=jbe rfl
 refine ZC ?_
 refine Ga ?_
 have hzN : ∀ z,(V.slice av l.length cp).at?=some z->z≠N/\z≠w:=fun z e=>⟨fun e2=>by have:=hz z e;rw [e2,hN0] at this;omega,fun e2=>by have:=hz z e;rw [e2,a.tw] at this;omega⟩
 have row2:Row 0 H5 1 (.slice av l.length cp) l.length (wps l):=row.keep om fun z e=>k5 z (hzN z e).1 (hzN z e).2
 refine Ops.push (N:=0) (new:=[.p N 0]) rfl rfl rfl rfl om rfl rfl row2 (Zm _) om om fun v' H3 row3 hx3 hz3 hk3=>?_
 have k3 : ∀ j,j<h.nx->ow j≠2->H3.get j=H5.get j:=fun j hj ho=>hk3 j om fun e=>ho (hz j e)
 have hw3:H3.get w=some (.cells (wc g (.slice av l.length cp) s now no) false):=by rw [k3 w a.lw (by rw [a.tw];omega),hw5]
 have q3:H3.get N=some (.cells [.i 1,.i i0,En.ptr c0 r0,.bool d0,.bool e0,.int .u64 f0,.int .u64 g0,.i 1,.i i1,En.ptr c1' r1,.bool d1,.bool e1,.int .u64 f1,.int .u64 g1,.bool rs,.i bl,wv] false):=by rw [k3 N hNl om,q5]
 have hlen:0+288<(wc g (.slice av l.length cp) s now no).length:=by rw [jb3];omega
 have hone:=row3.one
 refine Ga ?_
 refine zcs rfl rfl hone hw3 hlen ?_
 rw [jee rfl]
 refine Ga ?_
 have hzw : ∀ z,v'.at?=some z->z≠w:=fun z e=>by have:=hz3 z e;have:=a.lw;omega
 refine ⟨rfl,by rw [jaa hNw,q3];rfl,⟨v',?_⟩,fun j hj h1 h2 h3=>by rw [jaa h2,k3 j hj h3,k5 j h1 h2],by show h.nx<=H3.nx;omega⟩
 rcases id row3 with ⟨h0,_⟩ | ⟨z,_,z1,rfl,_,_⟩
 ·omega
 ·refine ⟨z,jab _,row3.keep (zr _) fun y e=>jaa (hzw y e),fun y e=>by cases e;rfl,by have:=hz3 z rfl;omega,z1⟩
end
theorem tab_push1 {ws:Ws} {x:Wi} {i0 j:Nat} (u:Uniq (ws++[x])) (w0:x.e0.what=1) (f0:x.e0.fd=i0) (w1:x.e1.what≠1):(if j=i0 then some (ws.length,0) else atS ws (j:Int))=atS (ws++[x]) (j:Int):=by
 have hL:(ws++[x])[ws.length]?=some x:=by simp
 by_cases e:j=i0
 ·subst e
  rw [zG rfl,jdQ u (n:=ws.length) (k:=0) ⟨x,hL,.inl rfl,w0,f0⟩]
 ·rw [zF e]
  refine jeG fun n k=>⟨fun h=>?_,fun h=>?_⟩
  ·obtain ⟨y,hy,r⟩:=h
   exact ⟨y,je6 hy,r⟩
  ·rcases jdR h with h | ⟨_,hk,h1,h2⟩
   ·exact h
   ·rcases hk with rfl | rfl
    ·have h2:x.e0.fd=(j:Int):=h2
     omega
    ·exact zM h1 w1
theorem tab_push2 {ws:Ws} {x:Wi} {i0 i1 j:Nat} (u:Uniq (ws++[x])) (w0:x.e0.what=1) (f0:x.e0.fd=i0) (w1:x.e1.what=1) (f1:x.e1.fd=i1) (hne:i0≠i1) :
  (if j=i1 then some (ws.length,1) else if j=i0 then some (ws.length,0) else atS ws (j:Int))=atS (ws++[x]) (j:Int):=by
 have hL:(ws++[x])[ws.length]?=some x:=by simp
 by_cases e:j=i1
 ·subst e
  rw [zG rfl,jdQ u (n:=ws.length) (k:=1) ⟨x,hL,.inr rfl,w1,f1⟩]
 rw [zF e]
 by_cases e:j=i0
 ·subst e
  rw [zG rfl,jdQ u (n:=ws.length) (k:=0) ⟨x,hL,.inl rfl,w0,f0⟩]
 rw [zF e]
 refine jeG fun n k=>⟨fun h=>?_,fun h=>?_⟩
 ·obtain ⟨y,hy,r⟩:=h
  exact ⟨y,je6 hy,r⟩
 ·rcases jdR h with h | ⟨_,hk,h1,h2⟩
  ·exact h
  ·rcases hk with rfl | rfl
   ·have h2:x.e0.fd=(j:Int):=h2
    omega
   ·have h2:x.e1.fd=(j:Int):=h2
    omega
theorem WW.newWire {h0 h2 h':H} {w s m r0 r1:Nat} {ow:Nat->Nat} {g:Nat->Option (Nat × Nat)} {l:List WX} {x:Wi} {now:Int} {tb:Tb} {no:Option (Nat × Nat)} (a:WW h0 w s ow l now tb no) (o1:Old h0 h2) (hm:m=1\/m=5) (hN:h0.nx+m<=h2.nx)
  (h01:m=5->r0=h0.nx+2/\r1=h0.nx+4) (p:Opened h2 h' w s h0.nx ow g l now no (x.obj r0 r1 .nils)) (hwt:x.waiting=[]) (hg : ∀ j,j<96->g j=atS (wxs l++[x]) (j:Int)) (hfd : ∀ k,k=0\/k=1->(x.e k).what=1->0<=(x.e k).fd/\(x.e k).fd<=95)
  (hr : ∀ k,k=0\/k=1 -> ∀ q,(x.e k).ring=some q->m=5/\ja5 h2 (two r0 r1 k) (two (h0.nx+1) (h0.nx+3) k) q x.cap) :
  ∃ ow',WSt h' w s ow' (wxs l++[x]) now tb no/\To h0 h' ow ow':=by
 obtain ⟨wv,z,p1,p2,p3,p4,p5⟩:=p.hw
 have a2:=a.wf.old o1
 have lw:=a.wf.lw
 have h00 : ∀ j,h0.nx<=j->ow j=0:=a.wf.top
 have keep : ∀ j,h0.nx<j->j<h0.nx+m->h'.get j=h2.get j:=fun j j1 j2=>p.hk j om om om (by rw [h00 j om];omega)
 have F:=a2.push (t:=⟨x,h0.nx,r0,h0.nx+1,r1,h0.nx+3,.nils⟩) (m:=m) (z:=z) (N:=h0.nx) hm hN (fun j j1 _=>h00 j j1) p4 p5
  (fun j j1 j2 j3=>p.hk j (a2.lt_of j1) (fun e=>j1 (by rw [e];exact h00 _ (zr _))) j3 j2) p1 p2 p3 rfl (fun e=>⟨rfl,(h01 e).1,rfl,(h01 e).2⟩) p.ho hwt rfl
  (fun k hk q hq=>by
   obtain ⟨e5,R⟩:=hr k hk q hq
   obtain ⟨e0,e1⟩:=h01 e5
   refine ⟨e5,?_⟩
   subst e0 e1
   rcases hk with rfl | rfl
   ·exact R.keep (keep _ (by show h0.nx<h0.nx+2;omega) (by show h0.nx+2<_;omega)) (keep _ (by show h0.nx<h0.nx+1;omega) (by show h0.nx+1<_;omega))
   ·exact R.keep (keep _ (by show h0.nx<h0.nx+4;omega) (by show h0.nx+4<_;omega)) (keep _ (by show h0.nx<h0.nx+3;omega) (by show h0.nx+3<_;omega)))
 have ez:wxs (l++[(⟨x,h0.nx,r0,h0.nx+1,r1,h0.nx+3,.nils⟩:WX)])=wxs l++[x]:=by simp
 refine ⟨_,⟨_,⟨F.congr fun j hj=>by rw [ez];exact (hg j hj).symm,fun n k fd hf=>?_⟩,ez⟩,⟨⟨zE o1.1 p.nx,fun j hj ho=>?_⟩,fun j hj=>?_⟩⟩
 ·rw [ez] at hf
  rcases jdR hf with hf | ⟨_,hk,q1,q2⟩
  ·exact a.fds n k fd hf
  ·rw [<- q2];exact hfd k hk q1
 ·have ho:ow j=0:=Classical.not_not.1 ho
  rw [p.hk j (zu hj o1.1) om (fun e=>by rw [e,a.wf.tw] at ho;omega) om,o1.2 j hj]
 ·exact jgf (.inl hj) (by have:=o1.1;omega)
section
variable {cl:Nat->Call} (hcl:Sem cl) {h:H} {w s:Nat} {ow:Nat->Nat} {l:List WX} {now:Int} {tb:Tb} {no:Option (Nat × Nat)}
include hcl
theorem jij {d:Nat} {n:Int} (hd:1<=d):cl d (.fn 106) [.i n] h=some (.bool (decide (1<=n/\n<=65536)),h):=by
 refine jan (aT hcl ?_)
 by_cases h1:1<=n
 ·by_cases h2:n<=65536
  ·refine Ga ?_
   exact ⟨by rw [zJ (show 1<=n/\n<=65536 from ⟨h1,h2⟩)];simp [h2],rfl⟩
  ·refine Ga ?_
   exact ⟨by rw [zH (show ¬ (1<=n/\n<=65536) from fun e=>h2 e.2)];simp [h2],rfl⟩
 ·refine Ga ?_
  exact ⟨by rw [zH (show ¬ (1<=n/\n<=65536) from fun e=>h1 e.1)],rfl⟩
theorem jha {d k N:Nat} {n:Int} (hd:3<=d) (a:WW h w s ow l now tb no) (hn:n<1\/65536<n):cl d (.fn 56) [.p w 0,.i n,.i (k:Int),.p N 0] h=some (.tup [.nils,.i 2],h):=by
 have h1:=jcw hcl (d:=d-1) om a.wf
 have h2:=jij hcl (h:=h) (d:=d-1) (n:=n) om
 rw [zH om] at h2
 clear hn
 refine jan (aT hcl ?_)
 refine Ga ?_
 exact ⟨rfl,rfl⟩
theorem jg1 {d k N:Nat} {n:Int} (hd:6<=d) (hk:k=1\/k=2) (a:WW h w s ow l now tb no) (ol:l.length<=1000) (hn1:1<=n) (hn2:n<=65536) (hb:((jaw (wxs l) 96).take k).length≠k\/1000<=l.length) :
  ∃ h',cl d (.fn 56) [.p w 0,.i n,.i (k:Int),.p N 0] h=some (.tup [.nils,.i 112],h')/\Old h h':=by
 have h1:=jcw hcl (d:=d-1) om a.wf
 have h2:=jij hcl (h:=h) (d:=d-1) (n:=n) om
 rw [zJ om] at h2
 obtain ⟨v,g,e,p1,p2,old⟩:=jfT hcl (d:=d-1) (k:=k) om hk a ol
 have eb:(decide (((jaw (wxs l) 96).take k).length=k)&&decide (l.length<1000))=false:=by
  rcases hb with hb | hb
  ·rw [zH hb,Bool.false_and]
  ·rw [zH (show ¬ l.length<1000 by omega),Bool.and_false]
 rw [eb] at e
 clear hb eb hk
 refine jai (aT hcl ?_)
 refine Ga ?_
 exact ⟨rfl,old⟩
theorem xp_make1 {d N i0:Nat} {n:Int} {x:Wi} {r0 r1:Nat} {wv:V} (hd:6<=d) (a:WW h w s ow l now tb no) (hn1:1<=n) (hn2:n<=65536) (hf:(jaw (wxs l) 96).take 1=[(i0:Int)]) (hi:i0<96) (hl:l.length<1000)
  (hN:h.get N=some (x.obj r0 r1 wv)) (hN0:ow N=0) (hNl:N<h.nx) :
  ∃ v h2 h',cl d (.fn 56) [.p w 0,.i n,.i ((1:Nat):Int),.p N 0] h=some (.tup [v,.i 0],h')/\VI h' v [(i0:Int)]/\Old h h2/\Opened h2 h' w s N ow (fun j=>if j=i0 then some (l.length,0) else atS (wxs l) (j:Int)) l now no ((x.name 0 i0).obj r0 r1 wv):=by
 have h1:=jcw hcl (d:=d-1) om a.wf
 have h2:=jij hcl (h:=h) (d:=d-1) (n:=n) om
 rw [zJ om] at h2
 obtain ⟨v,g,e,p1,p2,old⟩:=jfT hcl (d:=d-1) (k:=1) om (.inl rfl) a om
 rw [hf] at e p1
 rw [zJ (show [(i0:Int)].length=1 from rfl),zJ hl] at e
 have ag:=a.wf.old old
 obtain ⟨g2,e2,op⟩:=xp_open1 hcl (d:=d-1) (N:=N) (i0:=i0) (vf:=v) (wv:=wv) (x:=x) (r0:=r0) (r1:=r1) om ag (by rw [old.2 N hNl,hN]) hN0 (zu hNl old.1) hl p1 (fun z hz=>⟨a.wf.top z (p2 z hz).1,by have:=p2 z hz;omega⟩) hi
 suffices q : ∃ v2 h',cl d (.fn 56) [.p w 0,.i n,.i ((1:Nat):Int),.p N 0] h=some (v2,h')/\(v2 = .tup [v,.i 0]/\h'=g2) by
  obtain ⟨_,_,q,rfl,rfl⟩:=q
  refine ⟨v,g,_,q,p1.keep op.nx fun z hz=>?_,old,op⟩
  have:=p2 z hz
  have:=a.wf.lw
  exact op.hk z om om om (by rw [a.wf.top z om];omega)
 clear hf
 refine aT hcl ?_
 refine Ga ?_
 exact ⟨rfl,rfl⟩
theorem xp_make2 {d N i0 i1:Nat} {n:Int} {x:Wi} {r0 r1:Nat} {wv:V} (hd:6<=d) (a:WW h w s ow l now tb no) (hn1:1<=n) (hn2:n<=65536) (hf:(jaw (wxs l) 96).take 2=[(i0:Int),(i1:Int)]) (hi:i0<96) (hi1:i1<96) (hl:l.length<1000)
  (hN:h.get N=some (x.obj r0 r1 wv)) (hN0:ow N=0) (hNl:N<h.nx) :
  ∃ v h2 h',cl d (.fn 56) [.p w 0,.i n,.i ((2:Nat):Int),.p N 0] h=some (.tup [v,.i 0],h')/\VI h' v [(i0:Int),(i1:Int)]/\Old h h2/\Opened h2 h' w s N ow (fun j=>if j=i1 then some (l.length,1) else if j=i0 then some (l.length,0) else atS (wxs l) (j:Int)) l now no (((x.name 0 i0).name 1 i1).obj r0 r1 wv):=by
 have h1:=jcw hcl (d:=d-1) om a.wf
 have h2:=jij hcl (h:=h) (d:=d-1) (n:=n) om
 rw [zJ om] at h2
 obtain ⟨v,g,e,p1,p2,old⟩:=jfT hcl (d:=d-1) (k:=2) om (.inr rfl) a om
 rw [hf] at e p1
 rw [zJ (show [(i0:Int),(i1:Int)].length=2 from rfl),zJ hl] at e
 have ag:=a.wf.old old
 obtain ⟨g2,e2,op⟩:=xp_open2 hcl (d:=d-1) (N:=N) (i0:=i0) (i1:=i1) (vf:=v) (wv:=wv) (x:=x) (r0:=r0) (r1:=r1) om ag (by rw [old.2 N hNl,hN]) hN0 (zu hNl old.1) hl p1 (fun z hz=>⟨a.wf.top z (p2 z hz).1,by have:=p2 z hz;omega⟩) hi hi1
 suffices q : ∃ v2 h',cl d (.fn 56) [.p w 0,.i n,.i ((2:Nat):Int),.p N 0] h=some (v2,h')/\(v2 = .tup [v,.i 0]/\h'=g2) by
  obtain ⟨_,_,q,rfl,rfl⟩:=q
  refine ⟨v,g,_,q,p1.keep op.nx fun z hz=>?_,old,op⟩
  have:=p2 z hz
  have:=a.wf.lw
  exact op.hk z om om om (by rw [a.wf.top z om];omega)
 clear hf
 refine aT hcl ?_
 refine Ga ?_
 exact ⟨rfl,rfl⟩
end
end Am.Sigs
