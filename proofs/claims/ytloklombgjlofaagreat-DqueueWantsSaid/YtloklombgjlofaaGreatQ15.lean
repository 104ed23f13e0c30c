/- Our own library, part 15. -/
import Derived.Test.YtloklombgjlofaaGreatQ14
set_option maxHeartbeats 8000000
set_option maxRecDepth 800
set_option linter.all false
namespace Am.Sigs
open Am Go
abbrev Ws:=List Wi
def AtW (ws:Ws) (n k:Nat) (fd:Int):Prop := ∃ x,ws[n]?=some x/\(k=0\/k=1)/\(x.e k).what=1/\(x.e k).fd=fd
def Uniq (ws:Ws):Prop := ∀ n k n' k' fd,AtW ws n k fd->AtW ws n' k' fd->n=n'/\k=k'
open Classical in
noncomputable def atS (ws:Ws) (fd:Int):Option (Nat × Nat):=if h : ∃ p:Nat × Nat,AtW ws p.1 p.2 fd then some h.choose else none
theorem jd5 {ws:Ws} {n k:Nat} {fd:Int} (u:Uniq ws) (h:AtW ws n k fd):atS ws fd=some (n,k):=by
 unfold atS
 have hx : ∃ p:Nat × Nat,AtW ws p.1 p.2 fd:=⟨(n,k),h⟩
 rw [dif_pos hx]
 have:=u _ _ _ _ _ hx.choose_spec h
 congr 1
 exact Prod.ext this.1 this.2
theorem jfj {ws:Ws} {fd:Int} (h : ∀ n k,¬ AtW ws n k fd):atS ws fd=none:=by
 unfold atS
 rw [dif_neg fun ⟨p,hp⟩=>h _ _ hp]
theorem jpb {l:List RX} {n k:Nat} {fd:Int} : IsAt l n k fd↔AtW (l.map RX.x) n k fd:=by
 unfold IsAt AtW
 constructor
 ·rintro ⟨r,h1,h2⟩;exact ⟨r.x,by simp [h1],h2⟩
 ·rintro ⟨x,h1,h2⟩
  rw [List.getElem?_map] at h1
  cases hr:l[n]? with
  | none=>rw [hr] at h1;cases h1
  | some r=>rw [hr] at h1;cases h1;exact ⟨r,rfl,h2⟩
theorem jo7 {ws:Ws} {n k:Nat} {fd:Int} (h:AtW ws n k fd) : ∃ x,ws[n]?=some x/\(k=0\/k=1):=by
 obtain ⟨x,h1,h2,_⟩:=h;exact ⟨x,h1,h2⟩
theorem map_set {l:List RX} {n:Nat} {r:RX} : (l.set n r).map RX.x=(l.map RX.x).set n r.x:=List.map_set
noncomputable def jcs {α : Type} (ws:Ws) (fd:Int) (no : α) (f:Nat->Nat->Wi -> α) : α := match atS ws fd with
 | none=>no
 | some (n,k)=>match ws[n]? with
  | none=>no
  | some x=>f n k x
theorem jaH {α : Type} {ws:Ws} {fd:Int} {no : α} {f:Nat->Nat->Wi -> α} (h : ∀ n k,¬ AtW ws n k fd):jcs ws fd no f=no:=by
 unfold jcs;rw [jfj h]
theorem jaI {α : Type} {ws:Ws} {fd:Int} {no : α} {f:Nat->Nat->Wi -> α} {n k:Nat} {x:Wi} (u:Uniq ws) (h:AtW ws n k fd) (hx:ws[n]?=some x):jcs ws fd no f=f n k x:=by
 unfold jcs;rw [jd5 u h];simp only [hx]
noncomputable def jbX (ws:Ws) (fd many:Int):(List UInt8 × Bool × Int) × Ws :=
 jcs ws fd (([],false,110),ws) fun n k x=>match (x.e k).ring with
  | none=>(([],false,111),ws)
  | some q=>if many<1 then (([],false,2),ws) else if x.reset then (([],false,115),ws)
   else if q≠[] then ((q.take (min many q.length).toNat,false,0),ws.set n (x.take k (min many q.length).toNat q))
   else if x.silent k then (([],true,0),ws) else (([],false,113),ws)
noncomputable def jb6 (ws:Ws) (fd:Int) (b:List UInt8):(Int × Int) × Ws :=
 jcs ws fd ((0,110),ws) fun n k x=>if (x.e k).writes=false then ((0,111),ws) else if x.reset then ((0,115),ws)
  else if (x.e k).shut=true\/(x.e (1-k)).what=3 then ((0,116-2),ws) else if b=[] then ((0,0),ws)
  else match (x.e (1-k)).ring with
   | none=>((0,111),ws)
   | some q=>if min b.length (x.cap-q.length)=0 then ((0,113),ws.set n (x.fill k 0 q b)) else (((min b.length (x.cap-q.length):Nat),0),ws.set n (x.fill k (min b.length (x.cap-q.length)) q b))
noncomputable def jdt (ws:Ws) (fd:Int):Int × Ws :=
 jcs ws fd (110,ws) fun n k x=>if (x.e k).ring=none\/(x.e k).writes=false then (111,ws) else (0,ws.set n (x.doShut k))
noncomputable def jhl (ws:Ws) (fd:Int):Int × Int:=jcs ws fd (0,110) fun n _ _=>(n,0)
def OutW (ws:Ws) (n:Int) (x:Wi):Prop:=0<=n/\ws[n.toNat]?=some x/\x.e1.what=2
def jcC {α : Type} (ws:Ws) (n:Int) (no : α) (f:Nat->Wi -> α) : α := if 0<=n then match ws[n.toNat]? with
  | none=>no
  | some x=>if x.e1.what=2 then f n.toNat x else no
 else no
theorem jb2 {α : Type} {ws:Ws} {n:Int} {no : α} {f:Nat->Wi -> α} (h : ∀ x,¬ OutW ws n x):jcC ws n no f=no:=by
 unfold jcC
 split
 ·next h0=>
  split
  ·rfl
  ·next x hx=>
   split
   ·next h2=>exact absurd ⟨h0,hx,h2⟩ (h x)
   ·rfl
 ·rfl
theorem jb3 {α : Type} {ws:Ws} {n:Nat} {no : α} {f:Nat->Wi -> α} {x:Wi} (hx:ws[n]?=some x) (h2:x.e1.what=2):jcC ws (n:Int) no f=f n x:=by
 unfold jcC
 rw [if_pos om]
 simp only [zu,hx,h2,if_true]
def putS (ws:Ws) (n:Int) (b:List UInt8):(Int × Int) × Ws :=
 jcC ws n ((0,116),ws) fun n x=>if x.reset then ((0,115),ws) else if x.e1.shut=true\/x.e0.what=3 then ((0,114),ws)
  else match x.e0.ring with
   | none=>((0,0),ws)
   | some q=>(((min b.length (x.cap-q.length):Nat),0),ws.set n (x.fill 1 (min b.length (x.cap-q.length)) q b))
def jc5 (ws:Ws) (n many:Int):(List UInt8 × Int) × Ws :=
 jcC ws n (([],116),ws) fun n x=>if many<0 then (([],2),ws) else if x.reset then (([],115),ws)
  else match x.e1.ring with
   | none=>(([],0),ws)
   | some q=>((q.take (min many q.length).toNat,0),ws.set n (x.take 1 (min many q.length).toNat q))
def jaK (ws:Ws) (n:Int):Int × Ws:=jcC ws n (116,ws) fun n x=>(0,ws.set n (x.doShut 1))
def ja5 (ws:Ws) (n:Int):Int × Ws:=jcC ws n (116,ws) fun n x=>(0,ws.set n (x.close 1))
def Wi.doReset (x:Wi):Wi:=if x.reset then x else
 let y:Wi := { x with reset:=true }
 let y:=(y.setq 0 []).came 0 true true
 (y.setq 1 []).came 1 true true
def jcd (ws:Ws) (n:Int):Int × Ws:=jcC ws n (116,ws) fun n x=>(0,ws.set n x.doReset)
abbrev WhV (x:Wi):Prop:=(0<=x.e0.what/\x.e0.what<=3)/\0<=x.e1.what/\x.e1.what<=3
structure WiOk (x:Wi):Prop where
 cap0:1<=x.cap
 cap1:x.cap<=65536
 len : ∀ k,k=0\/k=1 -> ∀ q,(x.e k).ring=some q->q.length<=x.cap
 pair : ∀ k,k=0\/k=1->((x.e k).writes=true↔(x.e (1-k)).ring≠none)
 out:x.e1.what=2->x.e0.ring≠none/\x.e1.ring≠none
 bl:0<=x.backlog/\x.backlog<=64
 wh:WhV x
structure WsOk (ws:Ws):Prop where
 uniq:Uniq ws
 ok : ∀ x∈ws,WiOk x
 len:ws.length<=1000
 wait : ∀ x∈ws,x.waiting.length<=64 /\ ∀ m∈x.waiting,∃ y:Wi,0<=m/\ws[m.toNat]?=some y/\y.e0.what=0
def jdi (ws:Ws) (m:Int):Ws:=match ws[m.toNat]? with
 | none=>ws
 | some x=>ws.set m.toNat (x.close 0)
def jaA:Ws->List Int->Ws
 | ws,[]=>ws
 | ws,m :: r=>jaA (jdi ws m) r
def noWait (ws:Ws) (n:Nat):Ws:=match ws[n]? with
 | none=>ws
 | some x=>ws.set n { x with waiting:=[] }
noncomputable def jca (ws:Ws) (fd:Int):Int × Ws :=
 jcs ws fd (110,ws) fun n k x=>(0,noWait (jaA (ws.set n (x.close k)) x.waiting) n)
theorem Wi.close_waiting {x:Wi} {k:Nat} (hk:k=0\/k=1):(x.close k).waiting=x.waiting:=by rcases hk with rfl | rfl<;>rfl
theorem Wi.close_ring {x:Wi} {k j:Nat} (hk:k=0\/k=1) (hj:j=0\/j=1):((x.close k).e j).ring=(x.e j).ring:=by rcases hk with rfl | rfl<;>rcases hj with rfl | rfl<;>rfl
theorem jaZ {l:List RX} {n:Nat} {r:RX} (hr:l[n]?=some r):(l.map RX.x)[n]?=some r.x:=by simp [hr]
theorem WsOk.wi {l:List RX} {n:Nat} {r:RX} (o:WsOk (l.map RX.x)) (hr:l[n]?=some r):WiOk r.x:=o.ok _ (zb (jaZ hr))
theorem jmP {r:RX} {k m:Nat} {b:List UInt8} {v:V} (hk:k=0\/k=1):(r.take k m b v).x=r.x.take k m b:=by rcases hk with rfl | rfl<;>rfl
theorem jl1 {r:RX} {k m:Nat} {b l:List UInt8} {v:V} (hk:k=0\/k=1):(r.fill k m b l v).x=r.x.fill k m b l:=by rcases hk with rfl | rfl<;>rfl
section
variable {cl:Nat->Call} (hcl:Sem cl)
include hcl
theorem jev {d rw q:Nat} {h:H} {l:List RX} {tl:List V} {fd:Int} (hd:1<=d) (w:RW h rw q l tl) (o:WsOk (l.map RX.x)) :
  ((∀ n k,¬ AtW (l.map RX.x) n k fd)/\cl d (.fn F.jaL) [.p rw 0,.i fd] h=some (.tup [.i (-1),.i (-1)],h)) \/
  ∃ (n k:Nat) (r:RX),AtW (l.map RX.x) n k fd/\l[n]?=some r/\(k=0\/k=1)/\cl d (.fn F.jaL) [.p rw 0,.i fd] h=some (.tup [.i (n:Int),.i (k:Int)],h):=by
 obtain ⟨n,k,e,p⟩:=rp_at hcl (fd:=fd) hd w (by simpa using o.len)
 rcases p with ⟨rfl,rfl,p⟩ | ⟨n,k,rfl,rfl,p⟩
 ·exact .inl ⟨fun n k hk=>p n k (jpb.2 hk),e⟩
 ·obtain ⟨r,hr,hk,_⟩:=id p
  exact .inr ⟨n,k,r,jpb.1 p,hr,hk,e⟩
theorem rq_Read {d rw q:Nat} {h:H} {l:List RX} {tl:List V} {fd many:Int} (hd:3<=d) (w:RW h rw q l tl) (o:WsOk (l.map RX.x)) :
  ∃ v l' h',cl d (.fn F.jbk) [.p rw 0,.i fd,.i many] h=some (.tup [v,.bool (jbX (l.map RX.x) fd many).1.2.1,.i (jbX (l.map RX.x) fd many).1.2.2],h') /\
   VB h' v (jbX (l.map RX.x) fd many).1.1/\RW h' rw q l' tl/\l'.map RX.x=(jbX (l.map RX.x) fd many).2/\Ch (RC rw q) h h':=by
 suffices s : ∃ v' h',cl d (.fn F.jbk) [.p rw 0,.i fd,.i many] h=some (v',h') /\ ∃ v l',v' = .tup [v,.bool (jbX (l.map RX.x) fd many).1.2.1,.i (jbX (l.map RX.x) fd many).1.2.2] /\
   VB h' v (jbX (l.map RX.x) fd many).1.1/\RW h' rw q l' tl/\l'.map RX.x=(jbX (l.map RX.x) fd many).2/\Ch (RC rw q) h h' by
  obtain ⟨_,h',e,v,l',rfl,p⟩:=s;exact ⟨v,l',h',e,p⟩
 refine at_ hcl om rfl rfl rfl ?_
 rcases jev hcl (d:=d-1) (fd:=fd) om w o with ⟨hno,ea⟩ | ⟨n,k,r,hat,hr,hk,ea⟩
 ·have hS:jbX (l.map RX.x) fd many=(([],false,110),l.map RX.x):=jaH hno
  rw [hS]
  refine qx1 ?_
  exact ⟨_,l,rfl,VB.nil h,w,rfl,Ch.refl _ _⟩
 obtain ⟨hw,hq,hne⟩:=w.rat hr
 have hn:=r_lt hr
 have q1:=jg9 hr hk
 have q2:=jg8 hr
 have q3:=r_b hr hk
 have ek:(1:Int)-(k:Int)=((1-k:Nat):Int):=by omega
 have hk':1-k=0\/1-k=1:=by omega
 have q4:=jhA hr hk'
 have q5:=jjl hr hk'
 rw [<- ek] at q4 q5
 have hS:jbX (l.map RX.x) fd many=_:=jaI o.uniq hat (jaZ hr)
 cases hring:(r.x.e k).ring with
 | none=>
  rw [hS]
  simp only [hring]
  rw [hring] at q1
  refine qx1 ?_
  exact ⟨_,l,rfl,VB.nil h,w,rfl,Ch.refl _ _⟩
 | some b=>
  rw [hring] at q1
  simp only [hring] at hS
  by_cases hm:many<1
  ·rw [if_pos hm] at hS;rw [hS]
   refine qx1 ?_
   exact ⟨_,l,rfl,VB.nil h,w,rfl,Ch.refl _ _⟩
  rw [if_neg hm] at hS
  cases hrs:r.x.reset
  case true=>
   rw [hrs,if_pos rfl] at hS;rw [hS]
   rw [hrs] at q2
   refine qx1 ?_
   exact ⟨_,l,rfl,VB.nil h,w,rfl,Ch.refl _ _⟩
  rw [hrs,if_neg Zd] at hS
  rw [hrs] at q2
  obtain ⟨hv,hz⟩:=(w.rok hr).b k hk
  rw [hring] at hv
  simp only [Option.getD_some] at hv
  obtain ⟨a,c,hva,_⟩:=id hv
  rw [hva] at q3
  by_cases hb:b=[]
  ·subst hb
   rw [if_neg Zd] at hS
   have q3:(rows l)[0+(n:Int).toNat*20+0+(k:Int).toNat*8+4]?=some (V.slice a 0 c):=q3
   cases hsi:r.x.silent k
   ·rw [hsi,if_neg Zd] at hS;rw [hS]
    simp only [Wi.silent,Bool.or_eq_false_iff,beq_eq_false_iff_ne] at hsi
    rw [hsi.2] at q5
    have h3:=hsi.1
    refine qx1 ?_
    exact ⟨_,l,rfl,VB.nil h,w,rfl,Ch.refl _ _⟩
   ·rw [hsi,if_pos rfl] at hS;rw [hS]
    by_cases h3:(r.x.e (1-k)).what=3
    ·refine qx1 ?_
     exact ⟨_,l,rfl,VB.nil h,w,rfl,Ch.refl _ _⟩
    ·have hsh:(r.x.e (1-k)).shut=true:=by simpa [Wi.silent,h3] using hsi
     rw [hsh] at q5
     refine qx1 ?_
     exact ⟨_,l,rfl,VB.nil h,w,rfl,Ch.refl _ _⟩
  ·rw [if_pos hb] at hS;rw [hS]
   have hpos:0<(b.length:Int):=by cases b<;>simp_all
   obtain ⟨v,v',h',e2,p1,p2,p3⟩:=jnf hcl (d:=d-1) (many:=many) om w hr hk hring om
   refine qx1 ?_
   exact ⟨v,_,rfl,p1,p2,by rw [map_set,jmP hk],p3⟩
end
theorem isOut_wx {l:List RX} {n:Int} : jjR l n ↔ ∃ x,OutW (l.map RX.x) n x:=by
 unfold jjR OutW
 constructor
 ·rintro ⟨m,r,rfl,hr,h2⟩;exact ⟨r.x,by omega,by simpa using ⟨r,hr,rfl⟩,h2⟩
 ·rintro ⟨x,h0,hx,h2⟩
  rw [List.getElem?_map] at hx
  cases hr:l[n.toNat]? with
  | none=>rw [hr] at hx;cases hx
  | some r=>rw [hr] at hx;cases hx;exact ⟨n.toNat,r,by omega,hr,h2⟩
section
variable {cl:Nat->Call} (hcl:Sem cl)
include hcl
open Classical in
theorem jg7 {d rw q:Nat} {h:H} {l:List RX} {tl:List V} {n:Int} (hd:1<=d) (w:RW h rw q l tl) :
  ((∀ x,¬ OutW (l.map RX.x) n x)/\cl d (.fn F.jaU) [.p rw 0,.i n] h=some (.bool false,h)) \/
  ∃ (m:Nat) (r:RX),n=m/\l[m]?=some r/\r.x.e1.what=2/\cl d (.fn F.jaU) [.p rw 0,.i n] h=some (.bool true,h):=by
 have e:=rp_outer hcl (n:=n) hd w
 by_cases ho:jjR l n
 ·rw [decide_eq_true ho] at e
  obtain ⟨m,r,rfl,hr,h2⟩:=ho
  exact .inr ⟨m,r,rfl,hr,h2,e⟩
 ·rw [decide_eq_false ho] at e
  exact .inl ⟨fun x hx=>ho (isOut_wx.2 ⟨x,hx⟩),e⟩
theorem rq_Write {d rw q:Nat} {h:H} {l:List RX} {tl:List V} {fd:Int} {b:List UInt8} {vb:V} (hd:3<=d) (w:RW h rw q l tl) (o:WsOk (l.map RX.x)) (hb:VB h vb b) (hbl:b.length<=1000) (hba:b≠[] -> ∀ z,vb.at?=some z->z≠q/\z≠rw/\z<h.nx) :
  ∃ l' h',cl d (.fn F.jaV) [.p rw 0,.i fd,vb] h=some (.tup [.i (jb6 (l.map RX.x) fd b).1.1,.i (jb6 (l.map RX.x) fd b).1.2],h') /\
   RW h' rw q l' tl/\l'.map RX.x=(jb6 (l.map RX.x) fd b).2/\Ch (RC rw q) h h':=by
 suffices s : ∃ v' h',cl d (.fn F.jaV) [.p rw 0,.i fd,vb] h=some (v',h') /\ ∃ l',v' = .tup [.i (jb6 (l.map RX.x) fd b).1.1,.i (jb6 (l.map RX.x) fd b).1.2] /\
   RW h' rw q l' tl/\l'.map RX.x=(jb6 (l.map RX.x) fd b).2/\Ch (RC rw q) h h' by
  obtain ⟨_,h',e,l',rfl,p⟩:=s;exact ⟨l',h',e,p⟩
 refine at_ hcl om rfl rfl rfl ?_
 rcases jev hcl (d:=d-1) (fd:=fd) om w o with ⟨hno,ea⟩ | ⟨n,k,r,hat,hr,hk,ea⟩
 ·have hS:jb6 (l.map RX.x) fd b=((0,110),l.map RX.x):=jaH hno
  rw [hS]
  refine qx1 ?_
  exact ⟨l,rfl,w,rfl,Ch.refl _ _⟩
 obtain ⟨hw,hq,hne⟩:=w.rat hr
 have hn:=r_lt hr
 have q1:=jik hr hk
 have q2:=jg8 hr
 have q3:=jjl hr hk
 have ek:(1:Int)-(k:Int)=((1-k:Nat):Int):=by omega
 have hk':1-k=0\/1-k=1:=by omega
 have q4:=jhA hr hk'
 rw [<- ek] at q4
 have hS:jb6 (l.map RX.x) fd b=_:=jaI o.uniq hat (jaZ hr)
 cases hwr:(r.x.e k).writes
 ·rw [hwr,if_pos rfl] at hS;rw [hS]
  rw [hwr] at q1
  refine qx1 ?_
  exact ⟨l,rfl,w,rfl,Ch.refl _ _⟩
 rw [hwr,if_neg Zd] at hS
 rw [hwr] at q1
 cases hrs:r.x.reset
 case true=>
  rw [hrs,if_pos rfl] at hS;rw [hS]
  rw [hrs] at q2
  refine qx1 ?_
  exact ⟨l,rfl,w,rfl,Ch.refl _ _⟩
 rw [hrs,if_neg Zd] at hS
 rw [hrs] at q2
 cases hsh:(r.x.e k).shut
 case true=>
  rw [if_pos (.inl hsh)] at hS;rw [hS]
  rw [hsh] at q3
  refine qx1 ?_
  exact ⟨l,rfl,w,rfl,Ch.refl _ _⟩
 rw [hsh] at q3
 by_cases h3:(r.x.e (1-k)).what=3
 ·rw [if_pos (.inr h3)] at hS;rw [hS]
  refine qx1 ?_
  exact ⟨l,rfl,w,rfl,Ch.refl _ _⟩
 rw [if_neg (by rintro (e | e);(rw [hsh] at e;cases e);exact h3 e)] at hS
 obtain ⟨a,c,rfl,_⟩:=id hb
 by_cases hbn:b=[]
 ·rw [if_pos hbn] at hS;rw [hS]
  subst hbn
  refine qx1 ?_
  exact ⟨l,rfl,w,rfl,Ch.refl _ _⟩
 rw [if_neg hbn] at hS
 have hpos : ¬ (b.length:Int)=0:=by have:=List.length_pos_iff.2 hbn;omega
 have hne0:=(o.wi hr).pair k hk
 cases hring:(r.x.e (1-k)).ring with
 | none=>exact absurd hring (hne0.1 hwr)
 | some b'=>
  simp only [hring] at hS
  obtain ⟨v',h',e2,p2,p3⟩:=jkf hcl (d:=d-1) (k:=k) om w hr hk hring ((o.wi hr).len _ hk' _ hring) (o.wi hr).cap1 hb hbl hba
  generalize hm:min b.length (r.x.cap-b'.length)=m at hS e2 p2
  by_cases hm0:m=0
  ·subst hm0
   rw [if_pos rfl] at hS;rw [hS]
   have e2:cl (d-1) (.fn F.jbh) _ h=some (.i 0,h'):=e2
   refine qx1 ?_
   exact ⟨_,rfl,p2,by rw [map_set,jl1 hk],p3⟩
  ·rw [if_neg hm0] at hS;rw [hS]
   have hm1 : ¬ (m:Int)=0:=by omega
   refine qx1 ?_
   exact ⟨_,rfl,p2,by rw [map_set,jl1 hk],p3⟩
theorem rq_Shut {d rw q:Nat} {h:H} {l:List RX} {tl:List V} {fd:Int} (hd:3<=d) (w:RW h rw q l tl) (o:WsOk (l.map RX.x)) :
  ∃ l' h',cl d (.fn F.jbj) [.p rw 0,.i fd] h=some (.i (jdt (l.map RX.x) fd).1,h')/\RW h' rw q l' tl/\l'.map RX.x=(jdt (l.map RX.x) fd).2/\Ch (RC rw q) h h':=by
 suffices s : ∃ v' h',cl d (.fn F.jbj) [.p rw 0,.i fd] h=some (v',h') /\ ∃ l',v' = .i (jdt (l.map RX.x) fd).1/\RW h' rw q l' tl/\l'.map RX.x=(jdt (l.map RX.x) fd).2/\Ch (RC rw q) h h' by
  obtain ⟨_,h',e,l',rfl,p⟩:=s;exact ⟨l',h',e,p⟩
 refine at_ hcl om rfl rfl rfl ?_
 rcases jev hcl (d:=d-1) (fd:=fd) om w o with ⟨hno,ea⟩ | ⟨n,k,r,hat,hr,hk,ea⟩
 ·have hS:jdt (l.map RX.x) fd=(110,l.map RX.x):=jaH hno
  rw [hS]
  refine qx1 ?_
  exact ⟨l,rfl,w,rfl,Ch.refl _ _⟩
 obtain ⟨hw,hq,hne⟩:=w.rat hr
 have hn:=r_lt hr
 have q1:=jik hr hk
 have q2:=jg9 hr hk
 have hS:jdt (l.map RX.x) fd=_:=jaI o.uniq hat (jaZ hr)
 cases hring:(r.x.e k).ring with
 | none=>
  rw [if_pos (.inl hring)] at hS;rw [hS]
  rw [hring] at q2
  refine qx1 ?_
  exact ⟨l,rfl,w,rfl,Ch.refl _ _⟩
 | some b=>
  rw [hring] at q2
  cases hwr:(r.x.e k).writes
  ·rw [if_pos (.inr hwr)] at hS;rw [hS]
   rw [hwr] at q1
   refine qx1 ?_
   exact ⟨l,rfl,w,rfl,Ch.refl _ _⟩
  ·rw [if_neg (by rintro (e | e);(rw [hring] at e;cases e);rw [hwr] at e;cases e)] at hS
   rw [hS]
   rw [hwr] at q1
   obtain ⟨h',e2,p2,p3⟩:=jnc hcl (d:=d-1) om w hr hk
   refine qx1 ?_
   exact ⟨_,rfl,p2,by rw [map_set];rfl,p3⟩
theorem rq_Wire {d rw q:Nat} {h:H} {l:List RX} {tl:List V} {fd:Int} (hd:2<=d) (w:RW h rw q l tl) (o:WsOk (l.map RX.x)) :
  cl d (.fn F.jbE) [.p rw 0,.i fd] h=some (.tup [.i (jhl (l.map RX.x) fd).1,.i (jhl (l.map RX.x) fd).2],h):=by
 refine jak (at_ hcl om rfl rfl rfl ?_)
 rcases jev hcl (d:=d-1) (fd:=fd) om w o with ⟨hno,ea⟩ | ⟨n,k,r,hat,hr,hk,ea⟩
 ·have hS:jhl (l.map RX.x) fd=(0,110):=jaH hno
  rw [hS]
  refine qx1 ?_
  exact ⟨rfl,rfl⟩
 ·have hS:jhl (l.map RX.x) fd=((n:Int),0):=jaI o.uniq hat (jaZ hr)
  rw [hS]
  refine qx1 ?_
  exact ⟨rfl,rfl⟩
theorem jke {d rw q:Nat} {h:H} {l:List RX} {tl:List V} {n:Int} (hd:3<=d) (w:RW h rw q l tl) :
  ∃ l' h',cl d (.fn F.jaJ) [.p rw 0,.i n] h=some (.i (jaK (l.map RX.x) n).1,h')/\RW h' rw q l' tl/\l'.map RX.x=(jaK (l.map RX.x) n).2/\Ch (RC rw q) h h':=by
 suffices s : ∃ v' h',cl d (.fn F.jaJ) [.p rw 0,.i n] h=some (v',h') /\ ∃ l',v' = .i (jaK (l.map RX.x) n).1/\RW h' rw q l' tl/\l'.map RX.x=(jaK (l.map RX.x) n).2/\Ch (RC rw q) h h' by
  obtain ⟨_,h',e,l',rfl,p⟩:=s;exact ⟨l',h',e,p⟩
 refine at_ hcl om rfl rfl rfl ?_
 rcases jg7 hcl (d:=d-1) (n:=n) om w with ⟨hno,ea⟩ | ⟨m,r,rfl,hr,h2,ea⟩
 ·have hS:jaK (l.map RX.x) n=(116,l.map RX.x):=jb2 hno
  rw [hS]
  refine qx1 ?_
  exact ⟨l,rfl,w,rfl,Ch.refl _ _⟩
 ·have hS:jaK (l.map RX.x) m=_:=jb3 (jaZ hr) h2
  rw [hS]
  obtain ⟨h',e2,p2,p3⟩:=jnc hcl (d:=d-1) (k:=1) om w hr (.inr rfl)
  refine qx1 ?_
  exact ⟨_,rfl,p2,by rw [map_set];rfl,p3⟩
theorem jjc {d rw q:Nat} {h:H} {l:List RX} {tl:List V} {n:Int} (hd:3<=d) (w:RW h rw q l tl) :
  ∃ l' h',cl d (.fn F.jaF) [.p rw 0,.i n] h=some (.i (ja5 (l.map RX.x) n).1,h')/\RW h' rw q l' tl/\l'.map RX.x=(ja5 (l.map RX.x) n).2/\Ch (RC rw q) h h':=by
 suffices s : ∃ v' h',cl d (.fn F.jaF) [.p rw 0,.i n] h=some (v',h') /\ ∃ l',v' = .i (ja5 (l.map RX.x) n).1/\RW h' rw q l' tl/\l'.map RX.x=(ja5 (l.map RX.x) n).2/\Ch (RC rw q) h h' by
  obtain ⟨_,h',e,l',rfl,p⟩:=s;exact ⟨l',h',e,p⟩
 refine at_ hcl om rfl rfl rfl ?_
 rcases jg7 hcl (d:=d-1) (n:=n) om w with ⟨hno,ea⟩ | ⟨m,r,rfl,hr,h2,ea⟩
 ·have hS:ja5 (l.map RX.x) n=(116,l.map RX.x):=jb2 hno
  rw [hS]
  refine qx1 ?_
  exact ⟨l,rfl,w,rfl,Ch.refl _ _⟩
 ·have hS:ja5 (l.map RX.x) m=_:=jb3 (jaZ hr) h2
  rw [hS]
  obtain ⟨h',e2,p2,p3⟩:=jif hcl (d:=d-1) (k:=1) om w hr (.inr rfl)
  refine qx1 ?_
  exact ⟨_,rfl,p2,by rw [map_set];rfl,p3⟩
theorem rq_Put {d rw q:Nat} {h:H} {l:List RX} {tl:List V} {n:Int} {b:List UInt8} {vb:V} (hd:3<=d) (w:RW h rw q l tl) (o:WsOk (l.map RX.x)) (hb:VB h vb b) (hbl:b.length<=1000) (hba:b≠[] -> ∀ z,vb.at?=some z->z≠q/\z≠rw/\z<h.nx) :
  ∃ l' h',cl d (.fn F.jbo) [.p rw 0,.i n,vb] h=some (.tup [.i (putS (l.map RX.x) n b).1.1,.i (putS (l.map RX.x) n b).1.2],h')/\RW h' rw q l' tl/\l'.map RX.x=(putS (l.map RX.x) n b).2/\Ch (RC rw q) h h':=by
 suffices s : ∃ v' h',cl d (.fn F.jbo) [.p rw 0,.i n,vb] h=some (v',h') /\ ∃ l',v' = .tup [.i (putS (l.map RX.x) n b).1.1,.i (putS (l.map RX.x) n b).1.2]/\RW h' rw q l' tl/\l'.map RX.x=(putS (l.map RX.x) n b).2/\Ch (RC rw q) h h' by
  obtain ⟨_,h',e,l',rfl,p⟩:=s;exact ⟨l',h',e,p⟩
 refine at_ hcl om rfl rfl rfl ?_
 rcases jg7 hcl (d:=d-1) (n:=n) om w with ⟨hno,ea⟩ | ⟨m,r,rfl,hr,h2,ea⟩
 ·have hS:putS (l.map RX.x) n b=((0,116),l.map RX.x):=jb2 hno
  rw [hS]
  refine qx1 ?_
  exact ⟨l,rfl,w,rfl,Ch.refl _ _⟩
 obtain ⟨hw,hq,hne⟩:=w.rat hr
 have hn:=r_lt hr
 have q2:=jg8 hr
 have q3:=jjl (k:=1) hr (.inr rfl)
 have q4:=jhA (k:=0) hr (.inl rfl)
 have hS:putS (l.map RX.x) m b=_:=jb3 (jaZ hr) h2
 cases hrs:r.x.reset
 case true=>
  rw [hrs,if_pos rfl] at hS;rw [hS]
  rw [hrs] at q2
  refine qx1 ?_
  exact ⟨l,rfl,w,rfl,Ch.refl _ _⟩
 rw [hrs,if_neg Zd] at hS
 rw [hrs] at q2
 cases hsh:r.x.e1.shut
 case true=>
  rw [if_pos (.inl hsh)] at hS;rw [hS]
  rw [show (r.x.e 1).shut=true from hsh] at q3
  refine qx1 ?_
  exact ⟨l,rfl,w,rfl,Ch.refl _ _⟩
 rw [show (r.x.e 1).shut=false from hsh] at q3
 have q4:(rows l)[0+(m:Int).toNat*20+0+((0:Nat):Int).toNat*8+0]?=some (.i r.x.e0.what):=q4
 by_cases h3:r.x.e0.what=3
 ·rw [if_pos (.inr h3)] at hS;rw [hS]
  refine qx1 ?_
  exact ⟨l,rfl,w,rfl,Ch.refl _ _⟩
 rw [if_neg (by rintro (e | e);(rw [hsh] at e;cases e);exact h3 e)] at hS
 obtain ⟨b',hring⟩:=Option.ne_none_iff_exists'.1 ((o.wi hr).out h2).1
 simp only [hring] at hS
 obtain ⟨v',h',e2,p2,p3⟩:=jkf hcl (d:=d-1) (k:=1) (b:=b') om w hr (.inr rfl) hring ((o.wi hr).len 0 (.inl rfl) _ hring) (o.wi hr).cap1 hb hbl hba
 rw [hS]
 refine qx1 ?_
 exact ⟨_,rfl,p2,by rw [map_set,jl1 (.inr rfl)],p3⟩
theorem rq_Take {d rw q:Nat} {h:H} {l:List RX} {tl:List V} {n many:Int} (hd:3<=d) (w:RW h rw q l tl) (o:WsOk (l.map RX.x)) :
  ∃ v l' h',cl d (.fn F.jbi) [.p rw 0,.i n,.i many] h=some (.tup [v,.i (jc5 (l.map RX.x) n many).1.2],h')/\VB h' v (jc5 (l.map RX.x) n many).1.1/\RW h' rw q l' tl/\l'.map RX.x=(jc5 (l.map RX.x) n many).2/\Ch (RC rw q) h h':=by
 suffices s : ∃ v' h',cl d (.fn F.jbi) [.p rw 0,.i n,.i many] h=some (v',h') /\ ∃ v l',v' = .tup [v,.i (jc5 (l.map RX.x) n many).1.2]/\VB h' v (jc5 (l.map RX.x) n many).1.1/\RW h' rw q l' tl/\l'.map RX.x=(jc5 (l.map RX.x) n many).2/\Ch (RC rw q) h h' by
  obtain ⟨_,h',e,v,l',rfl,p⟩:=s;exact ⟨v,l',h',e,p⟩
 refine at_ hcl om rfl rfl rfl ?_
 rcases jg7 hcl (d:=d-1) (n:=n) om w with ⟨hno,ea⟩ | ⟨m,r,rfl,hr,h2,ea⟩
 ·have hS:jc5 (l.map RX.x) n many=(([],116),l.map RX.x):=jb2 hno
  rw [hS]
  refine qx1 ?_
  exact ⟨_,l,rfl,VB.nil h,w,rfl,Ch.refl _ _⟩
 obtain ⟨hw,hq,hne⟩:=w.rat hr
 have hn:=r_lt hr
 have q2:=jg8 hr
 have hS:jc5 (l.map RX.x) m many=_:=jb3 (jaZ hr) h2
 by_cases hm:many<0
 ·rw [if_pos hm] at hS;rw [hS]
  refine qx1 ?_
  exact ⟨_,l,rfl,VB.nil h,w,rfl,Ch.refl _ _⟩
 rw [if_neg hm] at hS
 cases hrs:r.x.reset
 case true=>
  rw [hrs,if_pos rfl] at hS;rw [hS]
  rw [hrs] at q2
  refine qx1 ?_
  exact ⟨_,l,rfl,VB.nil h,w,rfl,Ch.refl _ _⟩
 rw [hrs,if_neg Zd] at hS
 rw [hrs] at q2
 obtain ⟨b',hring⟩:=Option.ne_none_iff_exists'.1 ((o.wi hr).out h2).2
 simp only [hring] at hS
 obtain ⟨v,v',h',e2,p1,p2,p3⟩:=jnf hcl (d:=d-1) (k:=1) (many:=many) om w hr (.inr rfl) hring om
 rw [hS]
 refine qx1 ?_
 exact ⟨v,_,rfl,p1,p2,by rw [map_set,jmP (.inr rfl)],p3⟩
end
theorem Run.unroll {call:Call} {fuel n:Nat} {live:List Nat} {body:AC} {K:List Fr} {e:Env} {h:H} {Q:Post} (hf:fuel=n+1) (k:Run call fuel body (.loop live body n :: K) (e.only live) h Q):Run call fuel (.loop live body) K e h Q:=by
 obtain ⟨x,e1,h1,hd,x2,e2,h2,ha,hq⟩:=k
 have it:iter (D call fuel body) live fuel e h=match D call fuel body (e.only live) h with
  | some (.normal,e',h')=>iter (D call fuel body) live n e' h'
  | r=>r:=by rw [hf];rfl
 cases x<;>simp only [after] at ha
 ·split at ha
  ·next x3 e3 h3 hb=>exact ⟨x3,e3,h3,by simp only [D,it,hd,hb],x2,e2,h2,ha,hq⟩
  ·cases ha
 ·exact ⟨_,e1,h1,by simp only [D,it,hd],x2,e2,h2,ha,hq⟩
 ·exact ⟨_,e1,h1,by simp only [D,it,hd],x2,e2,h2,ha,hq⟩
theorem End.unroll {call:Call} {fuel n:Nat} {live:List Nat} {body:AC} {K:List Fr} {e:Env} {h:H} {Q:Post} (k:Run call fuel body (.loop live body n :: K) (e.only live) h Q):End call fuel (.loop live body (n+1) :: K) .normal e h Q:=by
 obtain ⟨x,e1,h1,hd,x2,e2,h2,ha,hq⟩:=k
 cases x<;>simp only [after] at ha
 ·split at ha
  ·next x3 e3 h3 hb=>exact ⟨x2,e2,h2,by simp only [after,iter,hd,hb,ha],hq⟩
  ·cases ha
 ·exact ⟨x2,e2,h2,by simp only [after,iter,hd,ha],hq⟩
 ·exact ⟨x2,e2,h2,by simp only [after,iter,hd,ha],hq⟩
def RX.noWait (r:RX):RX := { r with x := { r.x with waiting:=[] },vw := .nils }
theorem RX.noWait_cells (r:RX):r.noWait.cells=r.cells.set 19 .nils:=by
 obtain ⟨⟨e0,e1,cap,rs,bl,wt⟩,v0,v1,vw⟩:=r
 simp [RX.noWait,RX.cells,En.rcells]
theorem ROk.noWait {h:H} {rw q:Nat} {r:RX} (a:ROk h rw q r):ROk h rw q r.noWait :=
 ⟨fun k hk=>by have:=a.b k hk;rcases hk with rfl | rfl<;>exact this,VI.nil h,fun z hz=>by cases hz⟩
theorem VI.cell {h:H} {l:List Int} {a:Option (Nat × Nat)} {c:Cap} {i:Nat} {x:Int} (hv:VI h (.slice a l.length c) l) (hi:l[i]?=some x) : ∃ b o cs ro,a=some (b,o)/\h.get b=some (.cells cs ro)/\cs[o+(i:Int).toNat*1]?=some (.i x):=by
 obtain ⟨a',c',e,_,_,g⟩:=hv
 cases e
 obtain ⟨b,o,cs,ro,rfl,h1,h2,h3⟩:=g (by rintro rfl;simp at hi)
 exact ⟨b,o,cs,ro,rfl,h2,by rw [show o+(i:Int).toNat*1=o+i by omega];exact h3 _ _ hi⟩
section
variable {cl:Nat->Call} (hcl:Sem cl)
include hcl
theorem rq_Close {d rw q:Nat} {h:H} {l:List RX} {tl:List V} {fd:Int} (hd:3<=d) (w:RW h rw q l tl) (o:WsOk (l.map RX.x)) :
  ∃ l' h',cl d (.fn F.jaY) [.p rw 0,.i fd] h=some (.i (jca (l.map RX.x) fd).1,h')/\RW h' rw q l' tl/\l'.map RX.x=(jca (l.map RX.x) fd).2/\Ch (RC rw q) h h':=by
 suffices s : ∃ v' h',cl d (.fn F.jaY) [.p rw 0,.i fd] h=some (v',h') /\ ∃ l',v' = .i (jca (l.map RX.x) fd).1/\RW h' rw q l' tl/\l'.map RX.x=(jca (l.map RX.x) fd).2/\Ch (RC rw q) h h' by
  obtain ⟨_,h',e,l',rfl,p⟩:=s;exact ⟨l',h',e,p⟩
 refine at_ hcl om rfl rfl rfl ?_
 rcases jev hcl (d:=d-1) (fd:=fd) om w o with ⟨hno,ea⟩ | ⟨n,k,r,hat,hr,hk,ea⟩
 ·have hS:jca (l.map RX.x) fd=(110,l.map RX.x):=jaH hno
  rw [hS]
  refine qx1 ?_
  exact ⟨l,rfl,w,rfl,Ch.refl _ _⟩
 have hS:jca (l.map RX.x) fd=_:=jaI o.uniq hat (jaZ hr)
 rw [hS]
 obtain ⟨wl,ww⟩:=o.wait _ (zb (jaZ hr))
 obtain ⟨h1,e1,w1,c1⟩:=jif hcl (d:=d-1) om w hr hk
 have hn:=r_lt hr
 have hr1:=get_set (r':=r.close k) hr
 have hx1:(l.set n (r.close k)).map RX.x=(l.map RX.x).set n (r.x.close k):=map_set
 have hv1:(r.close k).vw=r.vw:=rfl
 have hwt1:(r.close k).x.waiting=r.x.waiting:=Wi.close_waiting hk
 rw [<- hx1]
 have hlen1:(l.set n (r.close k)).length=l.length:=by simp
 generalize hL:r.x.waiting=L at wl ww hwt1 ⊢
 have hvi:=(w.rok hr).w.1
 rw [hL] at hvi
 obtain ⟨a,cp,hva,_⟩:=id hvi
 have hwlt : ∀ m∈L,∃ j:Nat,m=j/\j<l.length:=by
  intro m hm
  obtain ⟨y,m0,hy,_⟩:=ww m hm
  refine ⟨m.toNat,by omega,?_⟩
  rcases zw m.toNat l.length with h | h
  ·exact h
  ·rw [zc (by simpa using h)] at hy;cases hy
 clear hS hat ww o w
 generalize l.set n (r.close k)=l1 at w1 hr1 hx1 hlen1 ⊢
 generalize r.close k=r1 at hr1 hv1 hwt1
 refine qx1 ?_
 refine Run.loop (fun m e g=>∃ (i:Nat) (l2:List RX) (r2:RX),m=L.length-i/\i<=L.length/\e=[(0,.p rw 0),(5,.i n),(7,.i i)]/\RW g rw q l2 tl/\l2.length=l.length/\l2[n]?=some r2/\r2.vw=r.vw/\r2.x.waiting=L /\
   jaA (l2.map RX.x) (L.drop i)=jaA (l1.map RX.x) L/\Ch (RC rw q) h g)
  (k:=L.length) Ze ⟨0,l1,r1,rfl,by omega,rfl,w1,hlen1,hr1,hv1,hwt1,rfl,c1⟩ ?_
 rintro _ _ g ⟨i,l2,r2,rfl,hi,rfl,w2,hlen2,hr2,hv2,hwt2,hcl2,c2⟩ f ih
 obtain ⟨hw,hq,hne⟩:=w2.rat hr2
 have hn2:=r_lt hr2
 have q1:=jli hr2
 rw [hv2,hva] at q1
 have hvi2:=(w2.rok hr2).w.1
 rw [hv2,hva,hwt2] at hvi2
 by_cases hlt:i<L.length
 ·have hLi:=za hlt
  have hdrop:L.drop i=L[i] :: L.drop (i+1):=List.drop_eq_getElem_cons hlt
  obtain ⟨j,hj,hjl⟩:=hwlt L[i] (List.getElem_mem hlt)
  rw [hj] at hLi hdrop
  obtain ⟨b,of,cs,ro,rfl,hcs,hci⟩:=hvi2.cell hLi
  obtain ⟨r3,hr3⟩ : ∃ r3,l2[j]?=some r3:=⟨_,za om⟩
  obtain ⟨g3,e3,w3,c3⟩:=jif hcl (d:=d-1) (k:=0) om w2 hr3 (.inl rfl)
  have hi1:((i+1:Nat):Int)=(i:Int)+1:=by omega
  have e3:cl (d-1) (.fn F.jb8) [.p rw 0,.i (j:Int),.i 0] g=some (.tup [],g3):=e3
  have hnext : ∃ r4,(l2.set j (r3.close 0))[n]?=some r4/\r4.vw=r.vw/\r4.x.waiting=L:=by
   by_cases hjn:j=n
   ·subst hjn
    rw [hr2] at hr3;cases hr3
    exact ⟨_,get_set hr2,hv2,hwt2⟩
   ·exact ⟨r2,by rw [zh,if_neg hjn,hr2],hv2,hwt2⟩
  obtain ⟨r4,hr4,hv4,hwt4⟩:=hnext
  have hstep:jaA ((l2.set j (r3.close 0)).map RX.x) (L.drop (i+1))=jaA (l1.map RX.x) L:=by
   rw [<- hcl2,hdrop]
   show _=jaA (jdi (l2.map RX.x) (j:Int)) _
   unfold jdi
   rw [zu,jaZ hr3,map_set];rfl
  clear hcl2 hdrop hr1 hvi hvi2 hx1
  refine qx1 ?_
  exact ih (L.length-(i+1)) om _ _ ⟨i+1,_,r4,rfl,by omega,by rw [hi1],w3,by rw [List.length_set,hlen2],hr4,hv4,hwt4,hstep,c2.trans c3⟩
 ·obtain rfl:i=L.length:=by omega
  rw [List.drop_length] at hcl2
  have hcl2:l2.map RX.x=jaA (l1.map RX.x) L:=hcl2
  have hlen:0+(n:Int).toNat*20+19<(rows l2).length:=by rw [ja0];omega
  have u:Upd q (.cells (rows (l2.set n r2.noWait)) false) g (g.set q (.cells (rows (l2.set n r2.noWait)) false)):=Upd.set
  have w4:=w2.set hr2 u (w2.rok hr2).noWait
  clear ih
  refine qx1 ?_
  refine Ops.store1 rfl rfl rfl hq hlen ?_
  rw [jed hr2 om (RX.noWait_cells r2) om]
  refine qx1 ?_
  refine ⟨_,rfl,w4,?_,c2.trans (u.ch (.inl rfl))⟩
  show _=noWait _ n
  unfold noWait
  rw [<- hcl2,jaZ hr2,map_set];rfl
end
def RX.reset (r:RX):RX := { r with x := { r.x with reset:=true } }
theorem RX.reset_cells (r:RX):r.reset.cells=r.cells.set 17 (.bool true):=by
 obtain ⟨⟨e0,e1,cap,rs,bl,wt⟩,v0,v1,vw⟩:=r
 simp [RX.reset,RX.cells,En.rcells]
def RX.doReset (r:RX):RX:=(((r.reset.putv 0 .nils []).came 0 true true).putv 1 .nils []).came 1 true true
theorem RX.doReset_x {r:RX} (h:r.x.reset=false):r.doReset.x=r.x.doReset:=by
 unfold Wi.doReset;rw [if_neg (by simp [h])];rfl
section
variable {cl:Nat->Call} (hcl:Sem cl)
include hcl
theorem rq_Reset {d rw q:Nat} {h:H} {l:List RX} {tl:List V} {n:Int} (hd:3<=d) (w:RW h rw q l tl) (o:WsOk (l.map RX.x)) :
  ∃ l' h',cl d (.fn F.jaW) [.p rw 0,.i n] h=some (.i (jcd (l.map RX.x) n).1,h')/\RW h' rw q l' tl/\l'.map RX.x=(jcd (l.map RX.x) n).2/\Ch (RC rw q) h h':=by
 suffices s : ∃ v' h',cl d (.fn F.jaW) [.p rw 0,.i n] h=some (v',h') /\ ∃ l',v' = .i (jcd (l.map RX.x) n).1/\RW h' rw q l' tl/\l'.map RX.x=(jcd (l.map RX.x) n).2/\Ch (RC rw q) h h' by
  obtain ⟨_,h',e,l',rfl,p⟩:=s;exact ⟨l',h',e,p⟩
 refine at_ hcl om rfl rfl rfl ?_
 rcases jg7 hcl (d:=d-1) (n:=n) om w with ⟨hno,ea⟩ | ⟨m,r,rfl,hr,h2,ea⟩
 ·have hS:jcd (l.map RX.x) n=(116,l.map RX.x):=jb2 hno
  rw [hS]
  refine qx1 ?_
  exact ⟨l,rfl,w,rfl,Ch.refl _ _⟩
 have hS:jcd (l.map RX.x) m=_:=jb3 (jaZ hr) h2
 obtain ⟨hw,hq,hne⟩:=w.rat hr
 have hn:=r_lt hr
 have q2:=jg8 hr
 cases hrs:r.x.reset
 case true=>
  rw [show r.x.doReset=r.x by unfold Wi.doReset;rw [if_pos hrs]] at hS
  rw [hS]
  rw [hrs] at q2
  refine qx1 ?_
  refine ⟨l,rfl,w,?_,Ch.refl _ _⟩
  rw [<- map_set,jeb hr]
 rw [hrs] at q2
 rw [hS,<- RX.doReset_x hrs]
 obtain ⟨b0,hb0⟩:=Option.ne_none_iff_exists'.1 ((o.wi hr).out h2).1
 obtain ⟨b1,hb1⟩:=Option.ne_none_iff_exists'.1 ((o.wi hr).out h2).2
 have u1:Upd q (.cells (rows (l.set m r.reset)) false) h (h.set q (.cells (rows (l.set m r.reset)) false)):=Upd.set
 have ok1:ROk h rw q r.reset:=(w.rok hr).same rfl rfl rfl rfl rfl rfl
 have w1:=w.set hr u1 ok1
 have c1:Ch (RC rw q) h (h.set q (.cells (rows (l.set m r.reset)) false)):=u1.ch (.inl rfl)
 have hlen:0+(m:Int).toNat*20+17<(rows l).length:=by rw [ja0];omega
 have hr1:=get_set (r':=r.reset) hr
 have hs1 : ∀ s,l.set m s=(l.set m r.reset).set m s:=fun s=>set_set.symm
 rw [map_set.symm,hs1]
 unfold RX.doReset
 have hb0':(r.reset.x.e 0).ring=some b0:=hb0
 have hb1':(r.reset.x.e 1).ring=some b1:=hb1
 refine qx1 ?_
 refine Ops.store1 rfl rfl rfl hq hlen ?_
 rw [jed hr om (RX.reset_cells r) om]
 clear q2 hs1 hS ea u1 ok1 hlen hrs hb0 hb1 h2 o hw hq
 generalize h.set q (.cells (rows (l.set m r.reset)) false)=g at w1 c1 ⊢
 generalize l.set m r.reset=l1 at w1 hr1 ⊢
 generalize r.reset=r1 at hr1 hb0' hb1' ⊢
 clear hn
 have round : ∀ (k:Nat) (b:List UInt8) (g:H) (l1:List RX) (r1:RX),k=0\/k=1->RW g rw q l1 tl->l1[m]?=some r1->(r1.x.e k).ring=some b ->
   ∃ g',cl (d-1) (.fn F.jaz) [.p rw 0,.i (m:Int),.i (k:Int),.bool true,.bool true] (g.set q (.cells ((rows l1).set (0+(m:Int).toNat*20+0+(k:Int).toNat*8+4) .nils) false))=some (.tup [],g') /\
    RW g' rw q (l1.set m ((r1.putv k .nils []).came k true true)) tl/\Ch (RC rw q) g g':=by
  intro k b g l1 r1 hk w hr hb
  rw [jht hr hk om (RX.putv_cells (r:=r1) (v := .nils) (b:=[]) hk hb) om]
  have u:Upd q (.cells (rows (l1.set m (r1.putv k .nils []))) false) g (g.set q (.cells (rows (l1.set m (r1.putv k .nils []))) false)):=Upd.set
  have w2:=w.set hr u ((w.rok hr).putv hk (VB.nil g) fun z hz=>by cases hz)
  obtain ⟨g',e,w3,c⟩:=jg5 hcl (d:=d-1) (k:=k) om w2 (get_set hr) hk true true
  rw [set_set] at w3
  exact ⟨g',e,w3,(u.ch (.inl rfl)).trans c⟩
 obtain ⟨g2,e2,w2,c2⟩:=round 0 b0 g l1 r1 (.inl rfl) w1 hr1 hb0'
 have hr2:=get_set (r':=(r1.putv 0 .nils []).came 0 true true) hr1
 obtain ⟨g3,e3,w3,c3⟩:=round 1 b1 g2 _ _ (.inr rfl) w2 hr2 hb1'
 rw [set_set] at w3
 obtain ⟨hw1,hq1,_⟩:=w1.rat hr1
 obtain ⟨hw2,hq2,_⟩:=w2.rat hr2
 have hn1:=r_lt hr1
 have hn2:=r_lt hr2
 clear round
 refine qx1 ?_
 refine Run.unroll (n:=99999) rfl ?_
 refine qx1 ?_
 refine Ops.store1 rfl rfl rfl hq1 (by rw [ja0];omega) ?_
 refine qx1 ?_
 refine End.unroll ?_
 refine qx1 ?_
 refine Ops.store1 rfl rfl rfl hq2 (by rw [ja0];omega) ?_
 refine qx1 ?_
 refine End.unroll ?_
 refine qx1 ?_
 exact ⟨_,rfl,w3,rfl,(c1.trans c2).trans c3⟩
end
structure WAt (h:H) (w:Nat) (wl:List V) (s wsb wn:Nat) (wcap:Cap) (wsl:List V):Prop where
 hw:h.get w=some (.cells wl false)
 hs:wl[0+289]?=some (.p s 0)
 hws:wl[0+288]?=some (.slice (some (wsb,0)) wn wcap)
 hb:h.get wsb=some (.cells wsl false)
theorem WAt.keep {h h':H} {w:Nat} {wl:List V} {s wsb wn:Nat} {wcap:Cap} {wsl:List V} (a:WAt h w wl s wsb wn wcap wsl) (h1:h'.get w=h.get w) (h2:h'.get wsb=h.get wsb):WAt h' w wl s wsb wn wcap wsl :=
 ⟨by rw [h1,a.hw],a.hs,a.hws,by rw [h2,a.hb]⟩
structure FdAt (wl wsl:List V) (wn fd n k wb:Nat):Prop where
 small:fd<=95
 op:wl[fd*3]?=some (.bool true)
 wi:wl[fd*3+1]?=some (.i (n:Int))
 en:wl[fd*3+2]?=some (.i (k:Int))
 lt:n<wn
 at_:wsl[n]?=some (.p wb 0)
 k01:k=0\/k=1
theorem joQ {l:List V} {o:Nat} {a b c:V} (h0:l[o]?=some a) (h1:l[o+1]?=some b) (h2:l[o+2]?=some c):(l.drop o).take 3=[a,b,c]:=by
 apply List.ext_getElem?
 intro i
 rw [List.getElem?_take,zl]
 match i with
 | 0=>simpa using h0
 | 1=>simpa using h1
 | 2=>simpa using h2
 | n+3=>
  have : ¬ n+3<3:=by omega
  rw [if_neg this];rfl
theorem len_of {l:List V} {o:Nat} {a:V} (h:l[o]?=some a):o<l.length:=by
 rcases zw o l.length with h1 | h1
 ·exact h1
 ·rw [zc h1] at h;cases h
theorem resN {e:Env} {h:H} {s n b o:Nat} {l:List V} {ro:Bool} {rs:List RV} {r:List V} (hs:e.get s=some (.ptr (some (b,o)))) (hl:h.get b=some (.cells l ro)) (hn:o+n<=l.length) (hr:jde e h rs=some r) :
  jde e h (.cellN s n :: rs)=some (.agg ((l.drop o).take n) :: r):=by simp only [jde,hs,jdg hl hn,hr]
section
variable {cl:Nat->Call} (hcl:Sem cl)
include hcl
theorem jjV {d b s:Nat} {h:H} {l:List V} {ro:Bool} (hd:1<=d) (hb:h.get b=some (.cells l ro)) (hs:l[0+289]?=some (.p s 0)):cl d (.fn F.jdA) [.p b 0] h=some (.bool false,h):=by
 refine jak (at_ hcl om rfl rfl rfl ?_)
 refine qx1 ?_
 exact ⟨rfl,rfl⟩
theorem jjW {d w s wsb wn fd n k wb:Nat} {h:H} {wl wsl:List V} {wcap:Cap} (hd:2<=d) (A:WAt h w wl s wsb wn wcap wsl) (B:FdAt wl wsl wn fd n k wb) (l1:w<h.nx) (l2:wsb<h.nx) :
  ∃ h',cl d (.fn F.jbx) [.p w 0,.i (fd:Int)] h=some (.tup [.agg [.bool true,.i (n:Int),.i (k:Int)],.p wb 0,.i 0],h')/\Ch (fun _=>False) h h'/\h'.nx=h.nx+1:=by
 obtain ⟨hw,hs,hws,hb⟩:=A
 obtain ⟨f1,f2,f3,f4,f5,f6,f7⟩:=B
 refine jal (at_ hcl om rfl rfl rfl ?_)
 refine qo1 ?_
 refine Ops.make rfl rfl ?_
 have hw1:=(jad (h:=h) (o := .cells [.bool false,.i 0,.i 0] false) l1).trans hw
 have hb1:=(jad (h:=h) (o := .cells [.bool false,.i 0,.i 0] false) l2).trans hb
 have hn:=jjV hcl (d:=d-1) om hw1 hs
 have f2':wl[0+0+(fd:Int).toNat*3+0]?=some (.bool true):=by rw [show 0+0+(fd:Int).toNat*3+0=fd*3 by omega];exact f2
 have f3':wl[0+0+(fd:Int).toNat*3+1]?=some (.i (n:Int)):=by rw [show 0+0+(fd:Int).toNat*3+1=fd*3+1 by omega];exact f3
 have f6':wsl[0+(n:Int).toNat*1]?=some (.p wb 0):=by rw [show 0+(n:Int).toNat*1=n by omega];exact f6
 have h3:=joQ f2 f3 f4
 have hlen:=len_of f4
 refine qx1 ?_
 refine Ops.loadN rfl hw1 om ?_
 rw [show 0+0+(fd:Int).toNat*3=fd*3 by omega,h3]
 have f3'':wl[fd*3+1]?=some (.i (n:Int)):=f3
 refine qx1 ?_
 have hw2:((h.new (.cells [.bool false,.i 0,.i 0] false)).set h.nx (.cells (jax [.bool false,.i 0,.i 0] 0 [.bool true,.i (n:Int),.i (k:Int)]) false)).get w=some (.cells wl false):=by rw [jaa om,hw1]
 have hb2:((h.new (.cells [.bool false,.i 0,.i 0] false)).set h.nx (.cells (jax [.bool false,.i 0,.i 0] 0 [.bool true,.i (n:Int),.i (k:Int)]) false)).get wsb=some (.cells wsl false):=by rw [jaa om,hb1]
 refine Ops.storeN_chk rfl rfl rfl rfl (jac _) (zr rfl) (jbw rfl hw2 hws rfl (jbw rfl hw2 f3' rfl (jbw rfl hb2 f6' rfl jcm))) ?_
 refine qx1 ?_
 refine zcf (resN rfl (jab _) (zr rfl) rfl) ?_
 exact ⟨rfl,⟨by simp,fun j hj _=>by rw [jaa om,jad hj]⟩,rfl⟩
end
def Wi.rIn (x:Wi) (k:Nat):Bool:=match (x.e k).ring with
 | none=>false
 | some q=>!q.isEmpty||(x.e (1-k)).what == 3||(x.e (1-k)).shut||x.reset
def Wi.rOut (x:Wi) (k:Nat):Bool:=(x.e k).writes && !(x.e k).shut&&(decide ((((x.e (1-k)).ring.getD []).length:Int)<x.cap)||(x.e (1-k)).what == 3||x.reset)
def Wi.ready (x:Wi) (k:Nat):List V :=
 if 0<x.backlog then [.bool true,.bool (!x.waiting.isEmpty),.bool false,.bool false,.bool false,.int .u64 (x.e k).inn,.int .u64 (x.e k).out]
 else [.bool true,.bool (x.rIn k),.bool (x.rOut k),.bool ((x.e (1-k)).what == 3),.bool x.reset,.int .u64 (x.e k).inn,.int .u64 (x.e k).out]
def jny:List V:=[.bool false,.bool false,.bool false,.bool false,.bool false,.int .u64 0,.int .u64 0]
noncomputable def jh9 (ws:Ws) (fd:Int):List V:=jcs ws fd jny fun _ k x=>x.ready k
theorem je6 {call:Call} {fuel s n b:Nat} {e:Env} {h:H} {R:V->H->Prop} {l:List V} (hs:e.get s=some (.ptr (some (b,0)))) (hl:h.get b=some (.cells l false)) (hn:l.length=n) (k:R (.agg l) h) :
  End call fuel [] .ret e h (Fin [.cellN s n] R):=by
 refine End.fin1 (resN hs hl om rfl) ?_
 rw [zj,zg om];exact k
section
variable {cl:Nat->Call} (hcl:Sem cl)
include hcl
abbrev jfR:Obj := .cells [.bool false,.bool false,.bool false,.bool false,.bool false,.int .u64 0,.int .u64 0] false
end
section
variable {cl:Nat->Call} (hcl:Sem cl)
include hcl
end
theorem RX.cells_one {r:RX} (h0:r.v0.one=true) (h1:r.v1.one=true) (hw:r.vw.one=true):r.cells.all V.one=true:=by
 obtain ⟨⟨e0,e1,cap,rs,bl,wt⟩,v0,v1,vw⟩:=r
 simp only at h0 h1 hw
 simp only [RX.cells,En.rcells,List.cons_append,List.nil_append,List.all_cons,List.all_nil,h0,h1,hw]
 rfl
theorem Run.fin_mono {call:Call} {fuel:Nat} {c:AC} {res:List RV} {e:Env} {h:H} {R R':V->H->Prop} (k:Run call fuel c [] e h (Fin res R)) (hR : ∀ v h',R v h'->R' v h'):Run call fuel c [] e h (Fin res R'):=by
 obtain ⟨x',e',h',hd',x2,e2,h2,ha,⟨⟨p1,l,p2,p3⟩⟩⟩:=k
 exact ⟨x',e',h',hd',x2,e2,h2,ha,⟨⟨p1,l,p2,hR _ _ p3⟩⟩⟩
section
variable {cl:Nat->Call} (hcl:Sem cl)
include hcl
end
def sgc (hd:Nat->Bool) (pd:Nat->Int):List V:=tab 32 (fun k=>.bool (hd k))++tab 32 (fun k=>.i (pd k))
theorem jea (hd:Nat->Bool) (pd:Nat->Int):(sgc hd pd).length=64:=by simp [sgc]
theorem sgc_hd {hd:Nat->Bool} {pd:Nat->Int} {k o:Nat} (hk:k<32) (ho:o=k):(sgc hd pd)[o]?=some (.bool (hd k)):=by
 subst ho
 unfold sgc
 rw [zd,if_pos (by simpa using hk),jbC hk]
theorem jmV {hd:Nat->Bool} {pd:Nat->Int} {k o:Nat} (hk:k<32) (ho:o=32+k):(sgc hd pd)[o]?=some (.i (pd k)):=by
 subst ho
 unfold sgc
 rw [zd,if_neg Zd,tab_length,Nat.add_sub_cancel_left,jbC hk]
theorem jlQ {hd:Nat->Bool} {pd:Nat->Int} {k o:Nat} {t:Bool} (hk:k<32) (ho:o=k):(sgc hd pd).set o (.bool t)=sgc (fun j=>if j=k then t else hd j) pd:=by
 subst ho
 unfold sgc
 rw [List.set_append,if_pos (by simpa using hk),jdd]
 congr 1
 refine jbS fun j _=>?_
 by_cases e:j=o<;>simp [e]
theorem jfu {hd:Nat->Bool} {pd:Nat->Int} {k o:Nat} {n:Int} (ho:o=32+k):(sgc hd pd).set o (.i n)=sgc hd (fun j=>if j=k then n else pd j):=by
 subst ho
 unfold sgc
 rw [List.set_append,if_neg Zd,tab_length,Nat.add_sub_cancel_left,jdd]
 congr 1
 refine jbS fun j _=>?_
 by_cases e:j=k<;>simp [e]
abbrev sig? (s:Int):Prop:=1<=s/\s<=31
theorem sp_is {cl:Nat->Call} (hcl:Sem cl) {d:Nat} (hd:1<=d) (s:Int) (h:H):cl d (.fn F.sigs_is) [.i s] h=some (.bool (decide (sig? s)),h):=by
 refine jak (at_ hcl hd rfl rfl rfl ?_)
 repeat' (first|refine qoy ?_|refine zbf rfl (fun _=>?_) fun _=>?_|refine zbg rfl (fun _=>?_) fun _=>?_|refine zbh rfl (fun _=>?_) fun _=>?_|refine zbm rfl (fun _=>?_) fun _=>?_|refine zbn rfl (fun _=>?_) fun _=>?_)
 all_goals exact ⟨by simp [*],rfl⟩
theorem jmT {cl:Nat->Call} (hcl:Sem cl) {d:Nat} (hd:2<=d) (b:Nat) (s:Int) (h:H):cl d (.fn F.jhZ) [.p b 0,.i s] h=some (.i (if sig? s then 0 else 100),h):=by
 refine jak (at_ hcl om rfl rfl rfl ?_)
 refine qo1 ?_
 refine Ops.callf rfl (sp_is hcl om s h) ?_
 repeat' (first|refine qoy ?_|refine zbf rfl (fun _=>?_) fun _=>?_|refine zbg rfl (fun _=>?_) fun _=>?_|refine zbh rfl (fun _=>?_) fun _=>?_|refine zbm rfl (fun _=>?_) fun _=>?_|refine zbn rfl (fun _=>?_) fun _=>?_)
 all_goals exact ⟨by simp [*],rfl⟩
structure Tb where
 hd:Nat->Bool
 pd:Nat->Int
def Tb.obj (t:Tb):Obj := .cells (sgc t.hd t.pd) false
def Tb.zero:Tb:=⟨fun _=>false,fun _=>0⟩
def Tb.handle (t:Tb) (s:Int) (on:Bool):Tb :=
 if sig? s then ⟨fun j=>if j=s.toNat then on else t.hd j,if on then t.pd else fun j=>if j=s.toNat then 0 else t.pd j⟩ else t
def Tb.raise (t:Tb) (s:Int):Tb :=
 if sig? s/\t.hd s.toNat=true then ⟨t.hd,fun j=>if j=s.toNat then t.pd j+1 else t.pd j⟩ else t
theorem sp_handle {cl:Nat->Call} (hcl:Sem cl) {d b:Nat} {h:H} {t:Tb} (hd:3<=d) (hb:h.get b=some t.obj) (s:Int) (on:Bool) :
  ∃ h',cl d (.fn F.jfW) [.p b 0,.i s,.bool on] h=some (.i (if sig? s then 0 else 100),h')/\Upd b (t.handle s on).obj h h':=by
 refine jal (at_ hcl om rfl rfl rfl ?_)
 have hm:=jmT hcl (d:=d-1) om b s h
 unfold Tb.obj at hb
 by_cases hs:sig? s
 ·rw [if_pos hs] at hm ⊢
  obtain ⟨s1,s2⟩:=hs
  refine qo1 ?_
  refine Ops.callf rfl hm ?_
  refine qo1 ?_
  refine Ops.store1 rfl rfl rfl hb (by rw [jea];omega) ?_
  rw [jlQ (k:=s.toNat) om om]
  cases on
  ·refine qo1 ?_
   refine Ops.store1 rfl rfl rfl (jab _) (by rw [jea];omega) ?_
   rw [jfu (k:=s.toNat) om]
   refine qo1 ?_
   refine ⟨rfl,?_⟩
   have:(t.handle s false).obj = .cells (sgc (fun j=>if j=s.toNat then false else t.hd j) (fun j=>if j=s.toNat then 0 else t.pd j)) false:=by
    rw [Tb.handle,if_pos ⟨s1,s2⟩];rfl
   rw [this]
   exact Upd.set.trans Upd.set
  ·refine qo1 ?_
   refine ⟨rfl,?_⟩
   have:(t.handle s true).obj = .cells (sgc (fun j=>if j=s.toNat then true else t.hd j) t.pd) false:=by
    rw [Tb.handle,if_pos ⟨s1,s2⟩];rfl
   rw [this]
   exact Upd.set
 ·rw [if_neg hs] at hm ⊢
  refine qo1 ?_
  refine Ops.callf rfl hm ?_
  refine qo1 ?_
  refine ⟨rfl,?_⟩
  rw [Tb.handle,if_neg hs]
  exact Upd.refl hb
theorem sp_raise {cl:Nat->Call} (hcl:Sem cl) {d b:Nat} {h:H} {t:Tb} (hd:3<=d) (hb:h.get b=some t.obj) (s:Int) (hp : ∀ k,0<=t.pd k/\t.pd k<=1000000) :
  ∃ h',cl d (.fn F.jgx) [.p b 0,.i s] h=some (.i (if sig? s then 0 else 100),h')/\Upd b (t.raise s).obj h h':=by
 refine jal (at_ hcl om rfl rfl rfl ?_)
 have hm:=jmT hcl (d:=d-1) om b s h
 unfold Tb.obj at hb
 by_cases hs:sig? s
 ·rw [if_pos hs] at hm ⊢
  obtain ⟨s1,s2⟩:=hs
  have hp:=hp s.toNat
  refine qo1 ?_
  refine Ops.callf rfl hm ?_
  refine qo1 ?_
  refine Ops.load1 rfl hb (sgc_hd (k:=s.toNat) om om) ?_
  repeat' (first|refine qoy ?_|refine zbf rfl (fun _=>?_) fun _=>?_|refine zbg rfl (fun _=>?_) fun _=>?_|refine zbh rfl (fun _=>?_) fun _=>?_|refine zbm rfl (fun _=>?_) fun _=>?_|refine zbn rfl (fun _=>?_) fun _=>?_)
  ·refine Ops.load1 rfl hb (jmV (k:=s.toNat) om om) ?_
   refine qo1 ?_
   refine Ops.load1 rfl hb (jmV (k:=s.toNat) om om) ?_
   refine qo1 ?_
   refine Ops.store1 rfl rfl rfl hb (by rw [jea];omega) ?_
   rw [jfu (k:=s.toNat) om]
   refine qo1 ?_
   refine ⟨rfl,?_⟩
   rw [Tb.raise,if_pos ⟨⟨s1,s2⟩,by assumption⟩,show min 1 (2147483647-t.pd s.toNat)=1 by omega]
   have:(fun j=>if j=s.toNat then t.pd s.toNat+1 else t.pd j)=fun j=>if j=s.toNat then t.pd j+1 else t.pd j:=by
    funext j;by_cases e:j=s.toNat<;>simp [e]
   rw [this]
   exact Upd.set
  ·refine ⟨rfl,?_⟩
   rw [Tb.raise,if_neg (fun x=>by simp_all)]
   exact Upd.refl hb
 ·rw [if_neg hs] at hm ⊢
  refine qo1 ?_
  refine Ops.callf rfl hm ?_
  refine qo1 ?_
  refine ⟨rfl,?_⟩
  rw [Tb.raise,if_neg (fun x=>hs x.1)]
  exact Upd.refl hb
def Tb.cnt (t:Tb) (s:Int):Int:=if sig? s then t.pd s.toNat else 0
def Tb.has (t:Tb) (s:Int):Bool:=decide (sig? s)&&t.hd s.toNat
theorem sp_count {cl:Nat->Call} (hcl:Sem cl) {d b:Nat} {h:H} {t:Tb} (hd:3<=d) (hb:h.get b=some t.obj) (s:Int):cl d (.fn F.jgy) [.p b 0,.i s] h=some (.i (t.cnt s),h):=by
 refine jak (at_ hcl om rfl rfl rfl ?_)
 have hm:=jmT hcl (d:=d-1) om b s h
 unfold Tb.obj at hb
 by_cases hs:sig? s
 ·rw [if_pos hs] at hm
  obtain ⟨s1,s2⟩:=hs
  refine qo1 ?_
  refine Ops.callf rfl hm ?_
  refine qo1 ?_
  refine Ops.load1 rfl hb (jmV (k:=s.toNat) om om) ?_
  refine qo1 ?_
  exact ⟨by rw [Tb.cnt,if_pos ⟨s1,s2⟩],rfl⟩
 ·rw [if_neg hs] at hm
  refine qo1 ?_
  refine Ops.callf rfl hm ?_
  refine qo1 ?_
  exact ⟨by rw [Tb.cnt,if_neg hs],rfl⟩
theorem jlF:List.replicate 32 (V.bool false)++List.replicate 32 (V.i 0)=sgc (fun _=>false) (fun _=>0):=by
 rw [jdr,jdr];rfl
theorem sp_new {cl:Nat->Call} (hcl:Sem cl) {d:Nat} (hd:1<=d) (h:H):cl d (.fn F.sigs_New) [] h=some (.p h.nx 0,h.new Tb.zero.obj):=by
 refine jak (at_ hcl om rfl rfl rfl ?_)
 refine qo1 ?_
 refine Ops.make rfl rfl ?_
 refine qo1 ?_
 exact ⟨rfl,by rw [Tb.obj,Tb.zero,<- jlF];rfl⟩
def Tb.cnts (t:Tb):Nat->List (Nat × Int)
 | 0=>[]
 | k+1=>if k=0\/t.pd k=0 then t.cnts k else t.cnts k++[(k,t.pd k)]
theorem cnt_nat (t:Tb) {k:Nat} (hk:k<32):t.cnt (k:Int)=if k=0 then 0 else t.pd k:=by
 unfold Tb.cnt
 by_cases h0:k=0
 ·subst h0;simp
 ·rw [if_pos ⟨by omega,by omega⟩,if_neg h0];rfl
theorem jgw {cl:Nat->Call} (hcl:Sem cl) {d L c b:Nat} {t:Tb} (hd:5<=d) (I:Nat->H->Prop)
  (hc : ∀ k h,I k h->h.get c=some (.cells [.p b 0] false)/\h.get b=some t.obj)
  (hs : ∀ k h,k<32->I k h->(k=0\/t.pd k=0)->I (k+1) h)
  (hy : ∀ k h,k<32->k≠0->t.pd k≠0->I k h -> ∃ h',cl (d-1) (.yld L) [.agg [.i k,.i (t.pd k)]] h=some (.bool true,h')/\I (k+1) h')
  {h:H} (h0:I 0 h) : ∃ v h',cl d (.fn F.jcS) [.yld L,.p c 0] h=some (v,h')/\I 32 h':=by
 refine at_ hcl om rfl rfl rfl ?_
 refine qo1 ?_
 refine Run.loop (fun m e h=>∃ k:Nat,m=32-k/\k<=32/\e=[(0,.yld L),(1,.p c 0),(5,.i k)]/\I k h) (k:=32) (by decide) ⟨0,rfl,by omega,rfl,h0⟩ ?_
 rintro _ _ h ⟨k,rfl,hk,rfl,hI⟩ n ih
 obtain ⟨hc1,hb1⟩:=hc k h hI
 repeat' (first|refine qoy ?_|refine zbf rfl (fun _=>?_) fun _=>?_|refine zbg rfl (fun _=>?_) fun _=>?_|refine zbh rfl (fun _=>?_) fun _=>?_|refine zbm rfl (fun _=>?_) fun _=>?_|refine zbn rfl (fun _=>?_) fun _=>?_)
 ·refine Ops.load1 rfl hc1 rfl ?_
  refine qo1 ?_
  have hcn:=sp_count hcl (d:=d-1) om hb1 k
  rw [cnt_nat t om] at hcn
  refine Ops.callf rfl hcn ?_
  by_cases hz:k=0\/t.pd k=0
  ·have e0:(if k=0 then (0:Int) else t.pd k)=0:=by rcases hz with hz | hz<;>simp [hz]
   rw [e0]
   refine qo1 ?_
   exact ih (32-(k+1)) om _ _ ⟨k+1,rfl,by omega,rfl,hs k h om hI hz⟩
  ·have hz1:k≠0:=fun e=>hz (.inl e)
   have hz2:t.pd k≠0:=fun e=>hz (.inr e)
   rw [if_neg hz1]
   refine qo1 ?_
   obtain ⟨h2,hy1,hy2⟩:=hy k h om hz1 hz2 hI
   refine Ops.yield rfl rfl hy1 ?_
   refine qo1 ?_
   exact ih (32-(k+1)) om _ _ ⟨k+1,rfl,by omega,rfl,hy2⟩
 ·have:k=32:=by omega
  subst this
  exact hI
theorem jiZ {cl:Nat->Call} (hcl:Sem cl) {d b:Nat} {h:H} (hd:1<=d):cl d (.fn F.jfV) [.p b 0] h=some (.clo F.jcS [.p h.nx 0],h.new (.cells [.p b 0] false)):=by
 refine jak (at_ hcl om rfl rfl rfl ?_)
 refine qo1 ?_
 refine Ops.make rfl rfl ?_
 refine qo1 ?_
 exact ⟨rfl,rfl⟩
def Tb.sum (t:Tb):Nat->Int
 | 0=>0
 | k+1=>if k=0\/t.pd k=0 then t.sum k else t.sum k+t.pd k
def Tb.ok (t:Tb) (n:Int):Prop := ∀ k,0<=t.pd k/\t.pd k<=n
theorem Tb.sum_le {t:Tb} {n:Int} (ht:t.ok n) : ∀ k:Nat,0<=t.sum k/\t.sum k<=k*n
 | 0=>by simp [Tb.sum]
 | k+1=>by
  have h1:=Tb.sum_le ht k
  have h2:=ht k
  unfold Tb.sum
  have e:((k+1:Nat):Int)*n=k*n+n:=by simp [Int.add_mul]
  split<;>omega
theorem jlP {cl:Nat->Call} (hcl:Sem cl) {d b:Nat} {h0:H} {t:Tb} (hd:8<=d) (hb:h0.get b=some t.obj) (hlt:b<h0.nx) (ht:t.ok 1000000) :
  ∃ h',cl d (.fn F.jft) [.p b 0] h0=some (.i (t.sum 32),h')/\Ch (fun _=>False) h0 h':=by
 refine jal (at_ hcl om rfl rfl rfl ?_)
 refine qo1 ?_
 refine Ops.make rfl rfl ?_
 refine qo1 ?_
 refine Ops.store1 rfl rfl rfl (jac _) Zd ?_
 refine qo1 ?_
 refine Ops.callf rfl (jiZ hcl om) ?_
 refine qo1 ?_
 refine Run.rangeFunc_lo rfl qkp fun LO hLO=>?_
 obtain ⟨v,h',hc,k1,k2,k3,k4,k5,k6⟩:=jgw hcl (d:=d-1) (L:=h0.nx+2) (c:=h0.nx+1) (b:=b) (t:=t) om
  (fun k h=>h.get h0.nx=some (.cells [.i (t.sum k)] false)/\h.get (h0.nx+1)=some (.cells [.p b 0] false)/\h.get (h0.nx+2)=some (LO .ready none)/\h.get b=some t.obj/\h0.nx+3<=h.nx /\ ∀ j,j<h0.nx->h.get j=h0.get j)
  (fun k h hI=>⟨hI.2.1,hI.2.2.2.1⟩)
  (fun k h _ hI hz=>by rw [Tb.sum,if_pos hz];exact hI)
  (by
   intro k g hk hk0 hk1 ⟨g1,g2,g3,g4,g5,g6⟩
   have hs:=Tb.sum_le ht k
   have hpk:=ht k
   have hk32:(k:Int)*1000000<=32000000:=by omega
   refine jal (yl_ hcl om hLO g3 rfl ?_)
   refine qo1 ?_
   refine Ops.make rfl rfl ?_
   refine qo1 ?_
   refine Ops.storeN rfl rfl rfl rfl (jac _) Zd ?_
   refine qo1 ?_
   refine End.nil ⟨rfl,qgt,?_⟩
   refine qo1 ?_
   refine Ops.load1 rfl (l:=[.i (t.sum k)]) (ro:=false) qgt rfl ?_
   refine qo1 ?_
   refine Ops.load1 rfl (l:=[.i k,.i (t.pd k)]) (ro:=false) qgt rfl ?_
   refine qo1 ?_
   refine Ops.store1 rfl rfl rfl (l:=[.i (t.sum k)]) qgt Nat.zero_lt_one ?_
   refine qo1 ?_
   refine End.nil ⟨⟨.busy,none,qgt⟩,rfl,?_⟩
   rw [Tb.sum,if_neg om]
   refine ⟨qgt,qgt,qgt,qgt,?_,?_⟩
   ·simp;omega
   ·intro j hj
    have:=g6 j hj
    exact qgt)
  (h:=(((h0.new (.cells [.i 0] false)).set h0.nx (.cells [.i 0] false)).new (.cells [.p b 0] false)).new (LO .ready none))
  (by
   refine ⟨qgt,qgt,qgt,qgt,?_,?_⟩
   ·simp
   ·intro j hj
    exact qgt)
 refine ⟨v,h',hc,.normal,k3,?_⟩
 refine qo1 ?_
 refine Ops.load1 rfl (l:=[.i (t.sum 32)]) (ro:=false) qgt rfl ?_
 refine qo1 ?_
 refine ⟨rfl,?_,?_⟩
 ·simp;omega
 ·intro j hj _
  have:=k6 j hj
  exact qgt
abbrev ints (l:List Int):List V:=l.map V.i
def jaM:List (Nat × Int)->List V
 | []=>[]
 | p :: r=>.i p.1 :: .i p.2 :: jaM r
theorem jdU : ∀ l,(jaM l).length=l.length*2
 | []=>rfl
 | p :: r=>by simp [jaM,jdU r];omega
theorem jdV : ∀ l m,jaM (l++m)=jaM l++jaM m
 | [],m=>rfl
 | p :: r,m=>by simp [jaM,jdV r m]
theorem jfM : ∀ (l:List (Nat × Int)) (i:Nat) (p:Nat × Int),l[i]?=some p->((jaM l).drop (i*2)).take 2=[.i p.1,.i p.2]
 | [],_,_,h=>by simp at h
 | q :: r,0,p,h=>by simp at h;subst h;rfl
 | q :: r,i+1,p,h=>by
  simp only [List.getElem?_cons_succ] at h
  rw [show (i+1)*2=i*2+1+1 by omega]
  simp only [jaM,List.drop_succ_cons]
  exact jfM r i p h
theorem Tb.cnts_len (t:Tb) : ∀ k,(t.cnts k).length<=k
 | 0=>by simp [Tb.cnts]
 | k+1=>by
  have:=t.cnts_len k
  unfold Tb.cnts;split<;>simp<;>omega
theorem Tb.cnts_mem {t:Tb} : ∀ {k:Nat} {p:Nat × Int},p∈t.cnts k->1<=p.1/\p.1<k/\p.2=t.pd p.1/\p.2≠0
 | 0,p,h=>by simp [Tb.cnts] at h
 | k+1,p,h=>by
  unfold Tb.cnts at h
  split at h
  ·have:=Tb.cnts_mem h;omega
  ·next hz=>
   rcases List.mem_append.1 h with h | h
   ·have:=Tb.cnts_mem h;omega
   ·simp at h;subst h;simp;omega
theorem Tb.mem_cnts {t:Tb} : ∀ {k j:Nat},1<=j->j<k->t.pd j≠0->(j,t.pd j)∈t.cnts k
 | 0,_,_,h,_=>by omega
 | k+1,j,h1,h2,h3=>by
  unfold Tb.cnts
  by_cases e:j=k
  ·subst e
   rw [if_neg om];simp
  ·have:=Tb.mem_cnts (k:=k) h1 om h3
   split
   ·exact this
   ·exact List.mem_append_left _ this
def jeC (l:List (Nat × Int)) (pd:Nat->Int):Nat->Int:=fun j=>if l.any (fun p=>p.1 == j) then 0 else pd j
def Tb.take (t:Tb):Tb:=⟨t.hd,fun j=>if 1<=j/\j<32 then 0 else t.pd j⟩
theorem sp_take {cl:Nat->Call} (hcl:Sem cl) {d b:Nat} {h0:H} {t:Tb} (hd:8<=d) (hb:h0.get b=some t.obj) (hlt:b<h0.nx) :
  ∃ v h',cl d (.fn F.jhn) [.p b 0] h0=some (v,h')/\Row h0.nx h' 2 v (t.cnts 32).length (jaM (t.cnts 32))/\h'.get b=some t.take.obj/\Ch (fun j=>j=b) h0 h':=by
 refine at_ hcl om rfl rfl rfl ?_
 refine qo1 ?_
 refine Ops.make rfl rfl ?_
 refine qo1 ?_
 refine Ops.callf rfl (jiZ hcl om) ?_
 refine qo1 ?_
 refine Run.rangeFunc_lo rfl qkp fun LO hLO=>?_
 obtain ⟨v,h',hc,⟨sv,k1,kr⟩,k2,k3,k4,k5,k6⟩:=jgw hcl (d:=d-1) (L:=h0.nx+2) (c:=h0.nx+1) (b:=b) (t:=t) om
  (fun k h=>(∃ sv,h.get h0.nx=some (.cells [sv] false)/\Row (h0.nx+3) h 2 sv (t.cnts k).length (jaM (t.cnts k)))/\h.get (h0.nx+1)=some (.cells [.p b 0] false)/\h.get (h0.nx+2)=some (LO .ready none)/\h.get b=some t.obj/\h0.nx+3<=h.nx /\ ∀ j,j<h0.nx->h.get j=h0.get j)
  (fun k h hI=>⟨hI.2.1,hI.2.2.2.1⟩)
  (fun k h _ hI hz=>by rw [Tb.cnts,if_pos hz];exact hI)
  (by
   intro k g hk hk0 hk1 ⟨⟨sv,g1,gr⟩,g2,g3,g4,g5,g6⟩
   have hl:=t.cnts_len k
   refine jal (yl_ hcl om hLO g3 rfl ?_)
   refine qo1 ?_
   refine Ops.make rfl rfl ?_
   refine qo1 ?_
   refine Ops.storeN rfl rfl rfl rfl (jac _) Zd ?_
   refine qo1 ?_
   refine End.nil ⟨rfl,qgt,?_⟩
   refine qo1 ?_
   refine Ops.load1 rfl (l:=[sv]) (ro:=false) qgt rfl ?_
   refine qo1 ?_
   refine Ops.loadN rfl (l:=[.i k,.i (t.pd k)]) (ro:=false) qgt Zd ?_
   refine qo1 ?_
   refine Ops.push (N:=h0.nx+3) (new:=[.i k,.i (t.pd k)]) (sv:=sv) (n:=(t.cnts k).length) (cs:=jaM (t.cnts k)) rfl rfl rfl rfl om rfl rfl (gr.keep (by simp<;>omega) fun q hq=>?_) (by simp<;>omega) om om fun v' h' q1 q2 q3 q4=>?_
   ·have:=gr.at_ge hq
    exact qgt
   simp only [H.nx_set,H.nx_new] at q2 q3 q4
   have q4' : ∀ j,j<h0.nx+3->h'.get j=_:=fun j hj=>q4 j om fun hv=>by have:=(gr.at_ge hv).1;omega
   refine qo1 ?_
   refine Ops.store1 rfl rfl ?_ (l:=[sv]) (by rw [q4' _ om]<;>exact qgt) Nat.zero_lt_one ?_
   ·rcases q1 with ⟨_,_,rfl⟩ | ⟨_,_,_,rfl,_⟩<;>rfl
   refine qo1 ?_
   refine End.nil ⟨⟨.busy,none,by rw [jaa om,q4' _ om]<;>exact qgt⟩,rfl,?_⟩
   rw [Tb.cnts,if_neg om]
   refine ⟨⟨v',qgt,?_⟩,?_,qgt,?_,?_,?_⟩
   ·rw [ze,jdV]
    refine Row.keep q1 Zd fun q hq=>?_
    have:=q3 q hq
    exact qgt
   ·rw [jaa om,jaa om,q4' _ om]<;>exact qgt
   ·rw [jaa om,jaa om,q4' _ om]<;>exact qgt
   ·simp<;>omega
   ·intro j hj
    have:=g6 j hj
    rw [jaa om,jaa om,q4' _ om]<;>exact qgt)
  (h:=(((h0.new (.cells [.nils] false))).new (.cells [.p b 0] false)).new (LO .ready none))
  (by
   refine ⟨⟨.nils,qgt,Row.nil _ _ _⟩,qgt,qgt,qgt,?_,?_⟩
   ·simp
   ·intro j hj
    exact qgt)
 refine ⟨v,h',hc,.normal,k3,?_⟩
 refine qo1 ?_
 refine Ops.load1 rfl (l:=[sv]) (ro:=false) qgt rfl ?_
 have hkill : ∀ j,j≠h0.nx+2->(h'.kill (h0.nx+2)).get j=h'.get j:=fun j hj=>jan hj
 have kr0:Row (h0.nx+3) (h'.kill (h0.nx+2)) 2 sv (t.cnts 32).length (jaM (t.cnts 32)) :=
  kr.keep Zd fun q hq=>hkill q (by have:=kr.at_ge hq;omega)
 have kb:(h'.kill (h0.nx+2)).get b=some t.obj:=by rw [hkill b om,k4]
 have kq:(h'.kill (h0.nx+2)).get h0.nx=some (.cells [sv] false):=by rw [hkill _ om,k1]
 have kj : ∀ j,j<h0.nx->(h'.kill (h0.nx+2)).get j=h0.get j:=fun j hj=>by rw [hkill j om,k6 j hj]
 have knx:h0.nx+3<=(h'.kill (h0.nx+2)).nx:=k5
 show Ops _ _ h'.nx _ _ _ _ (h'.kill (h0.nx+2)) _
 generalize h'.kill (h0.nx+2)=g0 at kr0 kb kq kj knx ⊢
 clear k1 k2 k3 k4 k5 k6 hkill hc kr
 have hlen:=t.cnts_len 32
 obtain ⟨cap,hsv,hix⟩ : ∃ cap:Cap,(∃ a,sv = .slice a (t.cnts 32).length cap) /\ ∀ i,i<(t.cnts 32).length -> ∃ q,h0.nx+3<=q/\q<g0.nx/\sv = .slice (some (q,0)) (t.cnts 32).length cap/\g0.get q=some (.cells (jaM (t.cnts 32)) false):=by
  rcases kr0 with ⟨e1,_,rfl⟩ | ⟨q,e1,e2,rfl,e4,_⟩
  ·exact ⟨.fix 0,⟨none,by rw [e1]⟩,fun i hi=>by omega⟩
  ·exact ⟨.grow 2,⟨_,rfl⟩,fun i _=>⟨q,e1,e2,rfl,e4⟩⟩
 obtain ⟨a,rfl⟩:=hsv
 refine qo1 ?_
 refine Run.loop (fun m e h=>∃ i:Nat,m=(t.cnts 32).length-i/\i<=(t.cnts 32).length/\e=[(0,.p b 0),(3,.p h0.nx 0),(14,.slice a (t.cnts 32).length cap),(15,.i (t.cnts 32).length),(16,.i i)] /\
   g0.nx<=h.nx/\h.get b=some (Tb.obj ⟨t.hd,jeC ((t.cnts 32).take i) t.pd⟩) /\ ∀ j,j<g0.nx->j≠b->h.get j=g0.get j)
  (k:=(t.cnts 32).length) Ze ⟨0,rfl,by omega,rfl,zp _,by rw [kb];rfl,fun _ _ _=>rfl⟩ ?_
 rintro _ _ h ⟨i,rfl,hi,rfl,u1,u2,u3⟩ n ih
 repeat' (first|refine qoy ?_|refine zbf rfl (fun _=>?_) fun _=>?_|refine zbg rfl (fun _=>?_) fun _=>?_|refine zbh rfl (fun _=>?_) fun _=>?_|refine zbm rfl (fun _=>?_) fun _=>?_|refine zbn rfl (fun _=>?_) fun _=>?_)
 ·have hi':i<(t.cnts 32).length:=by omega
  obtain ⟨q,x1,x2,x3,x4⟩:=hix i hi'
  cases x3
  have hp:=za hi'
  generalize (t.cnts 32)[i]=p at hp
  have hmem:=Tb.cnts_mem (zb hp)
  refine Ops.ixaS rfl rfl om ?_
  have xq:h.get q=some (.cells (jaM (t.cnts 32)) false):=by rw [u3 q x2 om,x4]
  refine Ops.loadN rfl xq (by rw [jdU];omega) ?_
  have htk:List.take 2 (List.drop (0+(i:Int).toNat*2) (jaM (t.cnts 32)))=[.i p.1,.i p.2]:=by
   rw [show 0+(i:Int).toNat*2=i*2 by omega]
   exact jfM _ _ _ hp
  rw [htk]
  refine Ops.make rfl rfl ?_
  refine qo1 ?_
  refine Ops.storeN rfl rfl rfl rfl (jac _) Zd ?_
  refine qo1 ?_
  refine Ops.load1 rfl (l:=[.i p.1,.i p.2]) (ro:=false) qgt rfl ?_
  refine qo1 ?_
  have ub:h.get b=some (.cells (sgc t.hd (jeC ((t.cnts 32).take i) t.pd)) false):=u2
  refine Ops.store1 rfl rfl rfl (l:=sgc t.hd (jeC ((t.cnts 32).take i) t.pd)) qgt (by rw [jea];omega) ?_
  rw [jfu (k:=p.1) om]
  refine qo1 ?_
  refine ih ((t.cnts 32).length-(i+1)) om _ _ ⟨i+1,rfl,by omega,rfl,?_,?_,fun j hj hjb=>?_⟩
  ·simp<;>omega
  ·rw [jab]
   have e1:(fun j=>if j=p.1 then (0:Int) else jeC ((t.cnts 32).take i) t.pd j)=jeC ((t.cnts 32).take (i+1)) t.pd:=by
    funext j
    unfold jeC
    rw [List.take_add_one,hp,List.any_append]
    by_cases e2:j=p.1
    ·subst e2;simp
    ·have:(p.1 == j)=false:=by simp;omega
     rw [if_neg e2]
     simp only [Option.toList,List.any_cons,List.any_nil,this,Bool.or_false]
   rw [e1];rfl
  ·have:=u3 j hj hjb
   exact qgt
 ·have hi':i=(t.cnts 32).length:=by omega
  subst hi'
  refine Ops.load1 rfl (l:=[.slice a (t.cnts 32).length cap]) (ro:=false) (by rw [u3 _ om om,kq]) rfl ?_
  refine qo1 ?_
  refine ⟨Row.keep (Row.weaken (N:=h0.nx+3) om kr0) u1 fun q hq=>u3 q (kr0.at_ge hq).2 (by have:=kr0.at_ge hq;omega),?_,by omega,fun j hj hjb=>by rw [u3 j om hjb,kj j hj]⟩
  rw [u2]
  have e1:(Tb.obj ⟨t.hd,jeC ((t.cnts 32).take (t.cnts 32).length) t.pd⟩)=t.take.obj:=by
   have:jeC ((t.cnts 32).take (t.cnts 32).length) t.pd=fun j=>if 1<=j/\j<32 then 0 else t.pd j:=by
    funext j
    unfold jeC
    rw [List.take_length]
    by_cases e2:1<=j/\j<32
    ·rw [if_pos e2]
     by_cases e3:t.pd j=0
     ·rw [e3];simp
     ·rw [if_pos]
      rw [List.any_eq_true]
      exact ⟨_,Tb.mem_cnts e2.1 e2.2 e3,by simp⟩
    ·rw [if_neg e2,if_neg]
     rw [List.any_eq_true]
     rintro ⟨p,h1,h2⟩
     have:=Tb.cnts_mem h1
     simp at h2
     omega
   rw [this];rfl
  rw [e1]
def Old (h h':H):Prop:=h.nx<=h'.nx /\ ∀ j,j<h.nx->h'.get j=h.get j
theorem Old.refl (h:H):Old h h:=⟨zp _,fun _ _=>rfl⟩
theorem Old.trans {h h1 h2:H} (a:Old h h1) (b:Old h1 h2):Old h h2:=⟨zy a.1 b.1,fun j hj=>by rw [b.2 j (zq hj a.1),a.2 j hj]⟩
theorem Old.ch {h h':H} {B:Nat->Prop} (a:Old h h'):Ch B h h':=⟨a.1,fun j hj _=>a.2 j hj⟩
theorem RW.old {h h':H} {rw q:Nat} {l:List RX} {tl:List V} (w:RW h rw q l tl) (a:Old h h'):RW h' rw q l tl :=
 ⟨zq w.lw a.1,zq w.lq a.1,w.ne,fun hl=>⟨by rw [a.2 _ w.lw,(w.at_ hl).hw],by rw [a.2 _ w.lq,(w.at_ hl).hq],w.ne⟩,fun hl=>by rw [a.2 _ w.lw,w.nil hl],fun s hs=>(w.ok s hs).keep a.ch⟩
noncomputable def jat (ws:Ws) (n:Nat):List Int:=((List.range n).filter fun i:Nat=>(atS ws (i:Int)).isNone).map fun i:Nat=>(i:Int)
theorem jcl (ws:Ws) (n:Nat):jat ws (n+1)=jat ws n++if (atS ws (n:Int)).isNone then [(n:Int)] else []:=by
 unfold jat
 rw [List.range_succ,List.filter_append,List.map_append]
 congr 1
 by_cases h:(atS ws (n:Int)).isNone<;>simp [h]
theorem jgR (ws:Ws) (n:Nat):(jat ws n).length<=n:=by
 unfold jat
 rw [List.length_map]
 exact zy (List.length_filter_le _ _) Zd
theorem VI.ofRow {h:H} {v:V} {l:List Int} {N:Nat} (r:Row N h 1 v l.length (ints l)):VI h v l /\ ∀ z,v.at?=some z->N<=z/\z<h.nx:=by
 refine ⟨?_,fun z hz=>r.at_ge hz⟩
 rcases r with ⟨h1,h2,rfl⟩ | ⟨b,h1,h2,rfl,h4,h5⟩
 ·have:l=[]:=by simpa using h1
  subst this;exact VI.nil h
 ·exact ⟨_,_,rfl,fun e=>by (cases e),rfl,fun _=>⟨b,0,_,false,rfl,h2,h4,fun i x hi=>by rw [Nat.zero_add,List.getElem?_map,hi];rfl⟩⟩
section
variable {cl:Nat->Call} (hcl:Sem cl)
include hcl
theorem jng {d rw q:Nat} {h:H} {l:List RX} {tl:List V} (hd:2<=d) (w:RW h rw q l tl) (o:WsOk (l.map RX.x)) :
  ∃ v h',cl d (.fn F.jbg) [.p rw 0] h=some (v,h')/\VI h' v (jat (l.map RX.x) 96)/\Old h h' /\ ∀ z,v.at?=some z->h.nx<=z/\z<h'.nx:=by
 refine at_ hcl om rfl rfl rfl ?_
 refine qx1 ?_
 refine Run.loop (fun m e g=>∃ (n:Nat) (v:V),m=96-n/\n<=96/\e=[(0,.p rw 0),(3,v),(4,.i n)]/\Row h.nx g 1 v (jat (l.map RX.x) n).length (ints (jat (l.map RX.x) n))/\Old h g)
  (k:=96) Ze ⟨0,.nils,rfl,by omega,rfl,Row.nil _ _ _,Old.refl h⟩ ?_
 rintro _ _ g ⟨n,v,rfl,hn,rfl,row,old⟩ f ih
 have wg:=w.old old
 by_cases hlt:n<=95
 case neg=>
  obtain rfl:n=96:=by omega
  have hlt' : ¬ ((96:Nat):Int)<=95:=by omega
  refine qx1 ?_
  obtain ⟨p1,p2⟩:=VI.ofRow row
  exact ⟨p1,old,p2⟩
 have hn1:((n+1:Nat):Int)=(n:Int)+1:=by omega
 rcases jev hcl (d:=d-1) (fd:=(n:Int)) om wg o with ⟨hno,ea⟩ | ⟨m,k,r,hat,hr,hk,ea⟩
 ·have hs:jat (l.map RX.x) (n+1)=jat (l.map RX.x) n++[(n:Int)]:=by rw [jcl,jfj hno];rfl
  refine qx1 ?_
  refine Ops.push (N:=h.nx) (new:=[.i (n:Int)]) rfl rfl rfl rfl om rfl rfl row old.1 (by have:=jgR (l.map RX.x) n;omega) (by have:=jgR (l.map RX.x) n;omega) fun v' g' row' hx' hz' hk'=>?_
  refine qx1 ?_
  refine ih (96-(n+1)) om _ _ ⟨n+1,v',rfl,by omega,by rw [hn1],?_,zy old.1 hx',fun j hj=>?_⟩
  ·rw [hs,ze]
   simpa [ints] using row'
  ·rw [hk' j (zq hj old.1) (fun e=>by have:=row.at_ge e;omega),old.2 j hj]
 ·have hs:jat (l.map RX.x) (n+1)=jat (l.map RX.x) n:=by rw [jcl,jd5 o.uniq hat];simp
  refine qx1 ?_
  exact ih (96-(n+1)) om _ _ ⟨n+1,v,rfl,by omega,by rw [hn1],by rw [hs];exact row,old⟩
end
noncomputable def jaw (ws:Ws) (fd:Int):(Int × Int × Int) × Ws :=
 jcs ws fd ((0,0,110),ws) fun n _ x=>if x.backlog=0 then ((0,0,111),ws) else match x.waiting with
  | []=>((0,0,113),ws)
  | m :: rest=>match jat ws 96 with
   | []=>((0,0,112),ws)
   | f :: _=>match (ws.set n { x with waiting:=rest })[m.toNat]? with
    | none=>((0,0,112),ws)
    | some y=>((f,m,0),(ws.set n { x with waiting:=rest }).set m.toNat (y.put 0 { y.e 0 with what:=1,fd:=f }))
def RX.setw (r:RX) (v:V) (wt:List Int):RX := { r with x := { r.x with waiting:=wt },vw:=v }
theorem RX.setw_cells (r:RX) (v:V) (wt:List Int):(r.setw v wt).cells=r.cells.set 19 v:=by
 obtain ⟨⟨e0,e1,cap,rs,bl,w⟩,v0,v1,vw⟩:=r
 simp [RX.setw,RX.cells,En.rcells]
theorem ROk.setw {h:H} {rw q:Nat} {r:RX} {v:V} {wt:List Int} (a:ROk h rw q r) (hv:VI h v wt) (hz : ∀ z,v.at?=some z->z≠q/\z≠rw/\z<h.nx):ROk h rw q (r.setw v wt) :=
 ⟨fun k hk=>by have:=a.b k hk;rcases hk with rfl | rfl<;>exact this,hv,hz⟩
theorem RX.fd_cells {r:RX} {k:Nat} {w:Int} (hk:k=0\/k=1):(({ r with x:=r.x.put k { r.x.e k with fd:=w } } : RX)).cells=r.cells.set (k*8+1) (.i w):=by
 obtain ⟨⟨e0,e1,cap,rs,bl,wt⟩,v0,v1,vw⟩:=r
 rcases hk with rfl | rfl<;>simp [Wi.put,Wi.e,RX.cells,En.rcells]
section
variable {call:Call} {fuel base:Nat} {ops:List Ins} {keep:List Nat} {K:List Fr} {e:Env} {h:H} {Q:Post} {ix:Nat} {dst at_:Option Nat}
theorem Ops.icut_l {x lo:Opd} {v:V} {l:List Int} {m:Nat} (hx:x.ev e=some v) (hv:VI h v l) (hlo:lo.ev e=some (.i (m:Int))) (hm:m<=l.length)
  (k : ∀ v',VI h v' (l.drop m)->(∀ z,v'.at?=some z->v.at?=some z)->Ops call fuel base ops keep K (layv e dst v') h Q):Ops call fuel base (⟨ix,dst,.slice 1 x (some lo) none none,none,at_,[]⟩ :: ops) keep K e h Q:=by
 obtain ⟨a,c,rfl,n,f,g⟩:=hv
 cases a with
 | none=>
  obtain ⟨rfl,rfl⟩:=n rfl
  obtain rfl:m=0:=by simpa using hm
  refine Ops.pure (v := .nils) rfl ?_ (k .nils (VI.nil h) fun z hz=>by cases hz)
  simp only [I.pure,hx,evo,hlo]
  rfl
 | some p=>
  obtain ⟨b,o⟩:=p
  refine Ops.slice_l hx hlo hm f (k _ ⟨some (b,o+m*1),c.less m,by simp,fun e=>by (cases e),by simpa using jgT f hm,fun hl=>?_⟩ fun z hz=>hz)
  obtain ⟨b',o',cs,ro,e0,h1,h2,h3⟩:=g (by rintro rfl;simp at hl)
  cases e0
  refine ⟨b,o+m*1,cs,ro,rfl,h1,h2,fun i x hi=>?_⟩
  rw [zl] at hi
  rw [show o+m*1+i=o+(m+i) by omega]
  exact h3 _ _ hi
end
section
variable {cl:Nat->Call} (hcl:Sem cl)
include hcl
theorem rq_Accept {d rw q:Nat} {h:H} {l:List RX} {tl:List V} {fd:Int} (hd:3<=d) (w:RW h rw q l tl) (o:WsOk (l.map RX.x)) :
  ∃ l' h',cl d (.fn F.jaT) [.p rw 0,.i fd] h=some (.tup [.i (jaw (l.map RX.x) fd).1.1,.i (jaw (l.map RX.x) fd).1.2.1,.i (jaw (l.map RX.x) fd).1.2.2],h')/\RW h' rw q l' tl/\l'.map RX.x=(jaw (l.map RX.x) fd).2/\Ch (RC rw q) h h':=by
 suffices s : ∃ v' h',cl d (.fn F.jaT) [.p rw 0,.i fd] h=some (v',h') /\ ∃ l',v' = .tup [.i (jaw (l.map RX.x) fd).1.1,.i (jaw (l.map RX.x) fd).1.2.1,.i (jaw (l.map RX.x) fd).1.2.2]/\RW h' rw q l' tl/\l'.map RX.x=(jaw (l.map RX.x) fd).2/\Ch (RC rw q) h h' by
  obtain ⟨_,h',e,l',rfl,p⟩:=s;exact ⟨l',h',e,p⟩
 refine at_ hcl om rfl rfl rfl ?_
 rcases jev hcl (d:=d-1) (fd:=fd) om w o with ⟨hno,ea⟩ | ⟨n,k,r,hat,hr,hk,ea⟩
 ·have hS:jaw (l.map RX.x) fd=((0,0,110),l.map RX.x):=jaH hno
  rw [hS]
  refine qx1 ?_
  exact ⟨l,rfl,w,rfl,Ch.refl _ _⟩
 obtain ⟨hw,hq,hne⟩:=w.rat hr
 have hn:=r_lt hr
 have q1:=jjm hr
 have q2:=jli hr
 have hS:jaw (l.map RX.x) fd=_:=jaI o.uniq hat (jaZ hr)
 by_cases hbl:r.x.backlog=0
 ·rw [if_pos hbl] at hS;rw [hS]
  refine qx1 ?_
  exact ⟨l,rfl,w,rfl,Ch.refl _ _⟩
 rw [if_neg hbl] at hS
 have hvi:=(w.rok hr).w.1
 have hvz:=(w.rok hr).w.2
 have hwt:=(o.wait _ (zb (jaZ hr))).2
 obtain ⟨a,c,hva,_⟩:=id hvi
 rw [hva] at q2 hvi
 cases hL:r.x.waiting with
 | nil=>
  simp only [hL] at hS;rw [hS]
  rw [hL] at q2
  have q2:(rows l)[0+(n:Int).toNat*20+19]?=some (V.slice a 0 c):=q2
  refine qx1 ?_
  exact ⟨l,rfl,w,rfl,Ch.refl _ _⟩
 | cons m rest=>
  simp only [hL] at hS
  rw [hL] at q2 hvi hwt
  have hne0 : ¬ (((m :: rest:List Int).length:Nat):Int)=0:=by simp;omega
  obtain ⟨vf,g,ef,pf,old,zf⟩:=jng hcl (d:=d-1) om w o
  have wg:=w.old old
  obtain ⟨af,cf,rfl,_⟩:=id pf
  cases hF:jat (l.map RX.x) 96 with
  | nil=>
   simp only [hF] at hS;rw [hS]
   rw [hF] at ef
   have ef:cl (d-1) (.fn F.jbg) [.p rw 0] h=some (.slice af 0 cf,g):=ef
   clear hwt hvi hvz
   refine qx1 ?_
   exact ⟨l,rfl,wg,rfl,old.ch⟩
  | cons f fs=>
   simp only [hF] at hS
   rw [hF] at ef pf
   have hnf : ¬ (((f :: fs:List Int).length:Nat):Int)=0:=by simp;omega
   obtain ⟨hwg,hqg,_⟩:=wg.rat hr
   have hvig:VI g (.slice a (m :: rest).length c) (m :: rest):=hvi.keep old.1 fun z hz=>old.2 z (hvz z (by rw [hva,hL];exact hz)).2.2
   obtain ⟨b,of,cs,ro,rfl,hcs,hc0⟩:=hvig.cell (i:=0) (x:=m) rfl
   obtain ⟨bf,off,csf,rof,rfl,hcsf,hcf0⟩:=pf.cell (i:=0) (x:=f) rfl
   obtain ⟨y,m0,hy,_⟩:=hwt m Zd
   obtain ⟨j,rfl⟩:=zx m0
   have hjl:j<l.length:=by
    rcases zw j l.length with h1 | h1
    ·exact h1
    ·rw [zc (by simpa using h1)] at hy;cases hy
   have hbq:bf≠q:=by have:=zf bf rfl;have:=w.lq;omega
   have hbr:bf≠rw:=by have:=zf bf rfl;have:=w.lw;omega
   have hbb:b≠q/\b≠rw:=by
    have:=hvz b (by rw [hva];rfl)
    exact ⟨this.1,this.2.1⟩
   have main : ∀ v',VI g v' rest->(∀ z,v'.at?=some z->(V.slice (some (b,of)) ((j:Int) :: rest).length c).at?=some z) -> ∃ (s:RX),
     (l.set n (r.setw v' rest))[j]?=some s/\RW (g.set q (.cells (rows (l.set n (r.setw v' rest))) false)) rw q (l.set n (r.setw v' rest)) tl:=by
    intro v' hv' hz'
    have ok':=(wg.rok hr).setw hv' fun z hz=>by
     have hzz:=hvz z (by rw [hva,hL];exact hz' z hz)
     exact ⟨hzz.1,hzz.2.1,zq hzz.2.2 old.1⟩
    exact ⟨_,za (by simpa using hjl),wg.set hr Upd.set ok'⟩
   clear hwt hy m0 hvi hvz w
   refine qx1 ?_
   refine Ops.icut_l (m:=1) rfl hvig rfl Zd fun v' hv' hz'=>?_
   obtain ⟨s,hs,w1⟩:=main v' hv' hz'
   have hlen:0+(n:Int).toNat*20+19<(rows l).length:=by rw [ja0];omega
   refine qx1 ?_
   refine Ops.store1 rfl rfl hv'.one hqg hlen ?_
   rw [jed hr om (RX.setw_cells r v' rest) om]
   have hS1:(l.map RX.x).set n { r.x with waiting:=rest } = (l.set n (r.setw v' rest)).map RX.x:=by rw [map_set];rfl
   rw [hS1,zu,jaZ hs] at hS
   simp only at hS
   rw [hS]
   have c1:Ch (RC rw q) h (g.set q (.cells (rows (l.set n (r.setw v' rest))) false)):=old.ch.trans (Ch.set (.inl rfl))
   have hcsf1:(g.set q (.cells (rows (l.set n (r.setw v' rest))) false)).get bf=some (.cells csf rof):=by rw [jaa hbq,hcsf]
   clear hw hq ea ef hS hS1 main hvig hcs hcsf hwg hqg hr hv' hz' wg old hlen o hn
   generalize g.set q (.cells (rows (l.set n (r.setw v' rest))) false)=g1 at w1 c1 hcsf1 ⊢
   generalize l.set n (r.setw v' rest)=l1 at w1 hs ⊢
   obtain ⟨hw1,hq1,_⟩:=w1.rat hs
   have hj1:=r_lt hs
   have hlen0:0+(j:Int).toNat*20+0+Int.toNat 0*8+0<(rows l1).length:=by rw [ja0];omega
   have e1:=jht (f:=0) (o:=0+(j:Int).toNat*20+0+Int.toNat 0*8+0) hs (.inl rfl) om (RX.what_cells (r:=s) (k:=0) (w:=1) (.inl rfl)) Zd
   have u2:Upd q (.cells (rows (l1.set j { s with x:=s.x.put 0 { s.x.e 0 with what:=1 } })) false) g1 (g1.set q (.cells (rows (l1.set j { s with x:=s.x.put 0 { s.x.e 0 with what:=1 } })) false)):=Upd.set
   have w2:=w1.set hs u2 ((w1.rok hs).put (e := { s.x.e 0 with what:=1 }) (.inl rfl) rfl)
   have c2:=c1.trans (u2.ch (.inl rfl))
   have hs2:=get_set (r':=({ s with x:=s.x.put 0 { s.x.e 0 with what:=1 } } : RX)) hs
   refine qx1 ?_
   refine Ops.store1 rfl rfl rfl hq1 hlen0 ?_
   rw [e1]
   have hcsf2:(g1.set q (.cells (rows (l1.set j { s with x:=s.x.put 0 { s.x.e 0 with what:=1 } })) false)).get bf=some (.cells csf rof):=by rw [jaa hbq,hcsf1]
   have hfin:(l1.map RX.x).set j (s.x.put 0 { s.x.e 0 with what:=1,fd:=f })=((l1.set j { s with x:=s.x.put 0 { s.x.e 0 with what:=1 } }).set j { s with x:=s.x.put 0 { s.x.e 0 with what:=1,fd:=f } }).map RX.x:=by rw [set_set,map_set]
   rw [hfin]
   have hsx:({ s with x:=s.x.put 0 { s.x.e 0 with what:=1,fd:=f } } : RX)=(fun t:RX=>({ t with x:=t.x.put 0 { t.x.e 0 with fd:=f } } : RX)) ({ s with x:=s.x.put 0 { s.x.e 0 with what:=1 } } : RX):=rfl
   rw [hsx]
   clear hfin hsx e1 u2 hcsf1 hq1 hw1 hlen0 c1 w1
   generalize g1.set q (.cells (rows (l1.set j { s with x:=s.x.put 0 { s.x.e 0 with what:=1 } })) false)=g2 at w2 c2 hcsf2 ⊢
   generalize l1.set j ({ s with x:=s.x.put 0 { s.x.e 0 with what:=1 } } : RX)=l2 at w2 hs2 ⊢
   generalize ({ s with x:=s.x.put 0 { s.x.e 0 with what:=1 } } : RX)=s2 at hs2 ⊢
   clear hs hj1
   obtain ⟨hw2,hq2,_⟩:=w2.rat hs2
   have hj1:=r_lt hs2
   have hlen0:0+(j:Int).toNat*20+0+Int.toNat 0*8+1<(rows l2).length:=by rw [ja0];omega
   have e1:=jht (f:=1) (o:=0+(j:Int).toNat*20+0+Int.toNat 0*8+1) hs2 (.inl rfl) om (RX.fd_cells (r:=s2) (k:=0) (w:=f) (.inl rfl)) Zd
   have u3:Upd q (.cells (rows (l2.set j { s2 with x:=s2.x.put 0 { s2.x.e 0 with fd:=f } })) false) g2 (g2.set q (.cells (rows (l2.set j { s2 with x:=s2.x.put 0 { s2.x.e 0 with fd:=f } })) false)):=Upd.set
   have w3:=w2.set hs2 u3 ((w2.rok hs2).put (e := { s2.x.e 0 with fd:=f }) (.inl rfl) rfl)
   have c3:=c2.trans (u3.ch (.inl rfl))
   refine qx1 ?_
   refine Ops.store1 rfl rfl rfl hq2 hlen0 ?_
   rw [e1]
   refine qx1 ?_
   exact ⟨_,rfl,w3,rfl,c3⟩
end
section
variable {call:Call} {fuel base:Nat} {ops:List Ins} {keep:List Nat} {K:List Fr} {e:Env} {h:H} {Q:Post} {ix:Nat} {dst:Option Nat}
theorem Ops.bslice1_at {sz b:Nat} {x:Opd} {xv:V} {zero new:List V} (hx:x.ev e=some xv) (hnew:xv.cells=new) (hl:new.length=sz) (hzl:zero.length=sz)
  (k:Ops call fuel base ops keep K (layv e dst (.slice (some (base+b,0)) 1 (.fix 1))) (h.set (base+b) (.cells new false)) Q) :
  Ops call fuel base (⟨ix,dst,.bslice sz 1 zero [(0,x)],none,some b,[]⟩ :: ops) keep K e h Q:=by
 have hf:ja9 zero [(0*sz,sz,xv)]=some new:=by
  have e1:(xv.cells.length == sz&&Nat.ble (0*sz+sz) zero.length)=true:=by simp [hnew,hl,hzl]
  simp only [ja9]
  rw [e1,cond_true,hnew,Nat.zero_mul,jcT _ _ om]
 refine Ops.make_at (ob := .cells new false) (mk:=fun b=>.slice (some (b,0)) 1 (.fix 1)) rfl ?_ k
 simp only [I.make,jbv,List.map,hx,hf]
theorem Ops.app1 {N sz bytes n q':Nat} {s y:Opd} {sv:V} {cs new:List V} {cap:Cap} (hs:s.ev e=some sv) (hy:y.ev e=some (.slice (some (q',0)) 1 cap)) (r:Row N h sz sv n cs) (hN:N<=h.nx) (hq:h.get q'=some (.cells new false)) (hl:new.length=sz) (h1:new.all V.one=true) (hz:1<=sz)
  (hb:(n+1)*bytes<=2 ^ 46) (hn:n+1<=2 ^ 46) (hne:sv.at?≠some q')
  (k : ∀ h',Row N h' sz (.slice (some (h.nx,0)) (n+1) (.grow sz)) (n+1) (cs++new)->h.nx<h'.nx->(∀ j,j<h.nx->sv.at?≠some j->h'.get j=h.get j)->Ops call fuel base ops keep K (layv e dst (.slice (some (h.nx,0)) (n+1) (.grow sz))) h' Q) :
  Ops call fuel base (⟨ix,dst,.append sz bytes s y,none,none,[]⟩ :: ops) keep K e h Q:=by
 obtain ⟨v',h',e1,e2,e3,e4,e5⟩:=jen (bytes:=bytes) (cap:=cap) r hN hq hl h1 hz hb hn hne
 have hv:v' = .slice (some (h.nx,0)) (n+1) (.grow sz)/\h.nx<h'.nx:=by
  rcases e2 with ⟨h0,_⟩ | ⟨b,b1,b2,b3,_⟩
  ·omega
  ·rw [b3] at e4;cases e4;exact ⟨b3,b2⟩
 obtain ⟨rfl,hlt⟩:=hv
 exact Ops.step (I.run_eff rfl (by simp only [I.eff,hs,hy,e1])) (k h' e2 hlt e5)
theorem Ops.icut_h {x hi:Opd} {v:V} {l:List Int} {m:Nat} {at_:Option Nat} (hx:x.ev e=some v) (hv:VI h v l) (hhi:hi.ev e=some (.i (m:Int))) (hm:m<=l.length)
  (k : ∀ v',VI h v' (l.take m)->(∀ z,v'.at?=some z->v.at?=some z)->Ops call fuel base ops keep K (layv e dst v') h Q):Ops call fuel base (⟨ix,dst,.slice 1 x none (some hi) none,none,at_,[]⟩ :: ops) keep K e h Q:=by
 obtain ⟨a,c,rfl,n,f,g⟩:=hv
 have hl':(l.take m).length=m:=by simp;omega
 cases a with
 | none=>
  obtain ⟨rfl,rfl⟩:=n rfl
  obtain rfl:m=0:=by simpa using hm
  refine Ops.pure (v := .nils) rfl ?_ (k .nils (VI.nil h) fun z hz=>by cases hz)
  simp only [I.pure,hx,evo,hhi]
  rfl
 | some p=>
  obtain ⟨b,o⟩:=p
  refine Ops.slice_h hx hhi hm f (k _ ⟨some (b,o),c,by rw [hl'],fun e=>by (cases e),by rw [hl'];exact jkA f hm,fun hl=>?_⟩ fun z hz=>hz)
  obtain ⟨b',o',cs,ro,e0,h1,h2,h3⟩:=g (by rintro rfl;simp at hl)
  cases e0
  refine ⟨b,o,cs,ro,rfl,h1,h2,fun i x hi=>h3 _ _ ?_⟩
  rw [List.getElem?_take] at hi
  by_cases hc:i<m
  ·rwa [if_pos hc] at hi
  ·rw [if_neg hc] at hi;cases hi
end
theorem RW.row {h:H} {rw q:Nat} {l:List RX} {tl:List V} (w:RW h rw q l tl) : ∃ v,h.get rw=some (.cells (v :: tl) false)/\Row 0 h 20 v l.length (rows l)/\(∀ z,v.at?=some z->z=q)/\v.one=true:=by
 by_cases hl:l=[]
 ·subst hl;exact ⟨.nils,w.nil rfl,Row.nil _ _ _,fun z hz=>by (cases hz),rfl⟩
 ·have a:=w.at_ hl
  exact ⟨_,a.hw,.inr ⟨q,by omega,w.lq,rfl,a.hq,ja0 l⟩,fun z hz=>by cases hz;rfl,rfl⟩
def RX.fresh (x:Wi):RX:=⟨x,.nils,.nils,.nils⟩
structure Fresh (x:Wi):Prop where
 r0:x.e0.ring.getD []=[]
 r1:x.e1.ring.getD []=[]
 wt:x.waiting=[]
theorem ROk.fresh {h:H} {rw q:Nat} {x:Wi} (f:Fresh x):ROk h rw q (RX.fresh x):=by
 refine ⟨fun k hk=>?_,by rw [show (RX.fresh x).x.waiting=[] from f.wt];exact VI.nil h,fun z hz=>by cases hz⟩
 rcases hk with rfl | rfl
 ·exact ⟨by rw [show ((RX.fresh x).x.e 0).ring.getD []=[] from f.r0];exact VB.nil h,fun z hz=>by cases hz⟩
 ·exact ⟨by rw [show ((RX.fresh x).x.e 1).ring.getD []=[] from f.r1];exact VB.nil h,fun z hz=>by cases hz⟩
theorem RW.push {h h1:H} {rw q q':Nat} {l:List RX} {tl:List V} {x:Wi} (w:RW h rw q l tl) (f:Fresh x) (hrow:h1.get q'=some (.cells (rows l++(RX.fresh x).cells) false)) (hn:h.nx<=q') (hx:q'<h1.nx)
  (hk : ∀ j,j<h.nx->j≠q->h1.get j=h.get j) :
  RW (h1.set rw (.cells (.slice (some (q',0)) (l.length+1) (.grow 20) :: tl) false)) rw q' (l++[RX.fresh x]) tl/\Ch (RC rw q) h (h1.set rw (.cells (.slice (some (q',0)) (l.length+1) (.grow 20) :: tl) false)):=by
 have lw:=w.lw
 have lq:=w.lq
 have ch:Ch (RC rw q) h (h1.set rw (.cells (.slice (some (q',0)) (l.length+1) (.grow 20) :: tl) false)) :=
  ⟨by show h.nx<=h1.nx;omega,fun j hj hn=>by rw [jaa (fun e=>hn (.inr e)),hk j hj (fun e=>hn (.inl e))]⟩
 refine ⟨⟨by show rw<h1.nx;omega,by show q'<h1.nx;omega,by omega,fun _=>⟨by rw [jab];simp,by rw [jaa om,hrow,jkg];simp [rows],by omega⟩,fun e=>by simp at e,fun s hs=>?_⟩,ch⟩
 rcases List.mem_append.1 hs with h2 | h2
 ·have a:=w.ok s h2
  have b:=a.keep ch
  refine ⟨fun k hk=>⟨(b.b k hk).1,fun z hz=>?_⟩,b.w.1,fun z hz=>?_⟩
  ·have p:=(a.b k hk).2 z hz
   exact ⟨by omega,p.2.1,by show z<h1.nx;omega⟩
  ·have p:=a.w.2 z hz
   exact ⟨by omega,p.2.1,by show z<h1.nx;omega⟩
 ·obtain rfl:s=RX.fresh x:=by simpa using h2
  exact ROk.fresh f
section
variable {cl:Nat->Call} (hcl:Sem cl)
include hcl
theorem mk_end {E:Env} {d rw q bx ends:Nat} {g:H} {l:List RX} {tl:List V} {vf:V} {fl:List Int} {x:Wi} (w:RW g rw q l tl) (f:Fresh x) (hbx:g.get bx=some (.cells (RX.fresh x).cells false)) (hl:l.length<=1000) (hf:VI g vf fl) (he:ends<=fl.length)
  (hfz : ∀ z,vf.at?=some z->z≠q/\z≠rw/\z<g.nx) :
  Run (cl (d-1)) fuel c45_2 [] ((0,.p rw 0) :: (8,.i (ends:Int)) :: (9,vf) :: (10,.p bx 0) :: E) g
   (Fin c45.res fun v h'=>∃ v' q',v = .tup [v',.i 0]/\VI h' v' (fl.take ends)/\RW h' rw q' (l++[RX.fresh x]) tl/\Ch (RC rw q) g h'/\g.nx<=q'):=by
 obtain ⟨v,hw,row,hvq,hone⟩:=w.row
 have hw1:(g.reserve 1).get rw=_:=hw
 have hbx1:(g.reserve 1).get bx=_:=hbx
 refine Run.seq (Run.region ?_)
 refine qx1 ?_
 refine Ops.loadN rfl hbx1 (by rw [RX.len];omega) ?_
 rw [zj,zg (by rw [RX.len];omega)]
 refine Ops.bslice1_at (new:=(RX.fresh x).cells) rfl rfl (RX.len _) rfl ?_
 have hG:((g.reserve 1).set (g.nx+0) (.cells (RX.fresh x).cells false)).nx=g.nx+1:=rfl
 have hGs:((g.reserve 1).set (g.nx+0) (.cells (RX.fresh x).cells false)).get (g.nx+0)=some (.cells (RX.fresh x).cells false):=jab _
 have hGo : ∀ j,j<g.nx->((g.reserve 1).set (g.nx+0) (.cells (RX.fresh x).cells false)).get j=g.get j:=fun j hj=>by rw [jaa om];rfl
 generalize (g.reserve 1).set (g.nx+0) (.cells (RX.fresh x).cells false)=G at hG hGs hGo ⊢
 have lq:=w.lq
 have lw:=w.lw
 have rowG:Row 0 G 20 v l.length (rows l):=row.keep om fun z hz=>hGo z (by have:=hvq z hz;omega)
 refine Ops.app1 (N:=0) rfl rfl rowG (Nat.zero_le _) hGs (RX.len _) (RX.cells_one (r:=RX.fresh x) rfl rfl rfl) om om om (fun e=>by have:=hvq _ e;omega) fun h1 row1 hlt hk=>?_
 have hk' : ∀ j,j<g.nx->j≠q->h1.get j=g.get j:=fun j hj hn=>by rw [hk j om (fun e=>hn (hvq j e)),hGo j hj]
 have hrow:h1.get G.nx=some (.cells (rows l++(RX.fresh x).cells) false):=by
  rcases row1 with ⟨h0,_⟩ | ⟨b,_,_,e,h4,_⟩
  ·omega
  ·cases e;exact h4
 obtain ⟨w2,c2⟩:=w.push f hrow om hlt hk'
 have hw2:h1.get rw=some (.cells (v :: tl) false):=by rw [hk' rw lw w.ne,hw]
 have hf2:VI (h1.set rw (.cells (.slice (some (G.nx,0)) (l.length+1) (.grow 20) :: tl) false)) vf fl:=hf.keep (by show g.nx<=h1.nx;omega) fun z hz=>by
  have p:=hfz z hz
  rw [jaa p.2.1,hk' z p.2.2 p.1]
 refine qx1 ?_
 refine Ops.store1 rfl rfl rfl hw2 Zd ?_
 refine qx1 ?_
 refine Ops.icut_h rfl hf2 rfl he fun v2 hv2 _=>?_
 refine qx1 ?_
 exact ⟨v2,_,rfl,hv2,w2,c2,by omega⟩
end
end Am.Sigs
