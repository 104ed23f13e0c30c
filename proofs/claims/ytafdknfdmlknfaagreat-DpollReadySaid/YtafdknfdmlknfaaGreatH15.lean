/- Our own library, part 15. -/
import Derived.Test.YtafdknfdmlknfaaGreatH14
set_option maxHeartbeats 8000000
set_option maxRecDepth 800
set_option linter.all false
namespace Am.Sigs
open Am Go
abbrev Ws:=List Wi
def AtW (ws:Ws) (n k:Nat) (fd:Int):Prop := ∃ x,ws[n]?=some x/\(k=0\/k=1)/\(x.e k).what=1/\(x.e k).fd=fd
def Uniq (ws:Ws):Prop := ∀ n k n' k' fd,AtW ws n k fd->AtW ws n' k' fd->n=n'/\k=k'
open Classical in
noncomputable def atS (ws:Ws) (fd:Int):Option (Nat × Nat):=if h : ∃ p:Nat × Nat,AtW ws p.1 p.2 fd then some h.choose else none
theorem jdQ {ws:Ws} {n k:Nat} {fd:Int} (u:Uniq ws) (h:AtW ws n k fd):atS ws fd=some (n,k):=by
 unfold atS
 have hx : ∃ p:Nat × Nat,AtW ws p.1 p.2 fd:=⟨(n,k),h⟩
 rw [dif_pos hx]
 have:=u _ _ _ _ _ hx.choose_spec h
 congr 1
 exact Prod.ext this.1 this.2
theorem jfN {ws:Ws} {fd:Int} (h : ∀ n k,¬ AtW ws n k fd):atS ws fd=none:=by
 unfold atS
 rw [dif_neg fun ⟨p,hp⟩=>h _ _ hp]
theorem jpm {l:List RX} {n k:Nat} {fd:Int} : IsAt l n k fd↔AtW (l.map RX.x) n k fd:=by
 unfold IsAt AtW
 constructor
 ·rintro ⟨r,h1,h2⟩;exact ⟨r.x,by simp [h1],h2⟩
 ·rintro ⟨x,h1,h2⟩
  rw [List.getElem?_map] at h1
  cases hr:l[n]? with
  | none=>rw [hr] at h1;cases h1
  | some r=>rw [hr] at h1;cases h1;exact ⟨r,rfl,h2⟩
theorem joQ {ws:Ws} {n k:Nat} {fd:Int} (h:AtW ws n k fd) : ∃ x,ws[n]?=some x/\(k=0\/k=1):=by
 obtain ⟨x,h1,h2,_⟩:=h;exact ⟨x,h1,h2⟩
theorem map_set {l:List RX} {n:Nat} {r:RX} : (l.set n r).map RX.x=(l.map RX.x).set n r.x:=List.map_set
noncomputable def jcs {α : Type} (ws:Ws) (fd:Int) (no : α) (f:Nat->Nat->Wi -> α) : α := match atS ws fd with
 | none=>no
 | some (n,k)=>match ws[n]? with
  | none=>no
  | some x=>f n k x
theorem jaG {α : Type} {ws:Ws} {fd:Int} {no : α} {f:Nat->Nat->Wi -> α} (h : ∀ n k,¬ AtW ws n k fd):jcs ws fd no f=no:=by
 unfold jcs;rw [jfN h]
theorem jaH {α : Type} {ws:Ws} {fd:Int} {no : α} {f:Nat->Nat->Wi -> α} {n k:Nat} {x:Wi} (u:Uniq ws) (h:AtW ws n k fd) (hx:ws[n]?=some x):jcs ws fd no f=f n k x:=by
 unfold jcs;rw [jdQ u h];simp only [hx]
noncomputable def jbU (ws:Ws) (fd many:Int):(List UInt8 × Bool × Int) × Ws :=
 jcs ws fd (([],false,110),ws) fun n k x=>match (x.e k).ring with
  | none=>(([],false,111),ws)
  | some q=>if many<1 then (([],false,2),ws) else if x.reset then (([],false,115),ws)
   else if q≠[] then ((q.take (min many q.length).toNat,false,0),ws.set n (x.take k (min many q.length).toNat q))
   else if x.silent k then (([],true,0),ws) else (([],false,113),ws)
noncomputable def jb8 (ws:Ws) (fd:Int) (b:List UInt8):(Int × Int) × Ws :=
 jcs ws fd ((0,110),ws) fun n k x=>if (x.e k).writes=false then ((0,111),ws) else if x.reset then ((0,115),ws)
  else if (x.e k).shut=true\/(x.e (1-k)).what=3 then ((0,116-2),ws) else if b=[] then ((0,0),ws)
  else match (x.e (1-k)).ring with
   | none=>((0,111),ws)
   | some q=>if min b.length (x.cap-q.length)=0 then ((0,113),ws.set n (x.fill k 0 q b)) else (((min b.length (x.cap-q.length):Nat),0),ws.set n (x.fill k (min b.length (x.cap-q.length)) q b))
noncomputable def jd5 (ws:Ws) (fd:Int):Int × Ws :=
 jcs ws fd (110,ws) fun n k x=>if (x.e k).ring=none\/(x.e k).writes=false then (111,ws) else (0,ws.set n (x.doShut k))
noncomputable def jfo (ws:Ws) (fd:Int):Int × Int:=jcs ws fd (0,110) fun n _ _=>(n,0)
def OutW (ws:Ws) (n:Int) (x:Wi):Prop:=0<=n/\ws[n.toNat]?=some x/\x.e1.what=2
def jcV {α : Type} (ws:Ws) (n:Int) (no : α) (f:Nat->Wi -> α) : α := if 0<=n then match ws[n.toNat]? with
  | none=>no
  | some x=>if x.e1.what=2 then f n.toNat x else no
 else no
theorem jb5 {α : Type} {ws:Ws} {n:Int} {no : α} {f:Nat->Wi -> α} (h : ∀ x,¬ OutW ws n x):jcV ws n no f=no:=by
 unfold jcV
 split
 ·next h0=>
  split
  ·rfl
  ·next x hx=>
   split
   ·next h2=>exact zM ⟨h0,hx,h2⟩ (h x)
   ·rfl
 ·rfl
theorem jb6 {α : Type} {ws:Ws} {n:Nat} {no : α} {f:Nat->Wi -> α} {x:Wi} (hx:ws[n]?=some x) (h2:x.e1.what=2):jcV ws (n:Int) no f=f n x:=by
 unfold jcV
 rw [zG om]
 simp only [zz,hx,h2,if_true]
def putS (ws:Ws) (n:Int) (b:List UInt8):(Int × Int) × Ws :=
 jcV ws n ((0,116),ws) fun n x=>if x.reset then ((0,115),ws) else if x.e1.shut=true\/x.e0.what=3 then ((0,114),ws)
  else match x.e0.ring with
   | none=>((0,0),ws)
   | some q=>(((min b.length (x.cap-q.length):Nat),0),ws.set n (x.fill 1 (min b.length (x.cap-q.length)) q b))
def jcb (ws:Ws) (n many:Int):(List UInt8 × Int) × Ws :=
 jcV ws n (([],116),ws) fun n x=>if many<0 then (([],2),ws) else if x.reset then (([],115),ws)
  else match x.e1.ring with
   | none=>(([],0),ws)
   | some q=>((q.take (min many q.length).toNat,0),ws.set n (x.take 1 (min many q.length).toNat q))
def ja6 (ws:Ws) (n:Int):Int × Ws:=jcV ws n (116,ws) fun n x=>(0,ws.set n (x.doShut 1))
def ja1 (ws:Ws) (n:Int):Int × Ws:=jcV ws n (116,ws) fun n x=>(0,ws.set n (x.close 1))
def Wi.doReset (x:Wi):Wi:=if x.reset then x else
 let y:Wi := { x with reset:=true }
 let y:=(y.setq 0 []).came 0 true true
 (y.setq 1 []).came 1 true true
def jbL (ws:Ws) (n:Int):Int × Ws:=jcV ws n (116,ws) fun n x=>(0,ws.set n x.doReset)
abbrev WhV (x:Wi):Prop:=(0<=x.e0.what/\x.e0.what<=3)/\0<=x.e1.what/\x.e1.what<=3
structure WiOk (x:Wi):Prop where
 cap0:1<=x.cap
 cap1:x.cap<=65536
 len : ∀ k,k=0\/k=1 -> ∀ q,(x.e k).ring=some q->q.length<=x.cap
 pair : ∀ k,k=0\/k=1->((x.e k).writes=true↔(x.e (1-k)).ring≠none)
 out:x.e1.what=2->x.e0.ring≠none/\x.e1.ring≠none
 bl:0<=x.backlog/\x.backlog<=64
 wh:WhV x
structure WsOk (ws:Ws):Prop where
 uniq:Uniq ws
 ok : ∀ x∈ws,WiOk x
 len:ws.length<=1000
 wait : ∀ x∈ws,x.waiting.length<=64 /\ ∀ m∈x.waiting,∃ y:Wi,0<=m/\ws[m.toNat]?=some y/\y.e0.what=0
def jd0 (ws:Ws) (m:Int):Ws:=match ws[m.toNat]? with
 | none=>ws
 | some x=>ws.set m.toNat (x.close 0)
def jaA:Ws->List Int->Ws
 | ws,[]=>ws
 | ws,m :: r=>jaA (jd0 ws m) r
def noWait (ws:Ws) (n:Nat):Ws:=match ws[n]? with
 | none=>ws
 | some x=>ws.set n { x with waiting:=[] }
noncomputable def jca (ws:Ws) (fd:Int):Int × Ws :=
 jcs ws fd (110,ws) fun n k x=>(0,noWait (jaA (ws.set n (x.close k)) x.waiting) n)
theorem Wi.close_waiting {x:Wi} {k:Nat} (hk:k=0\/k=1):(x.close k).waiting=x.waiting:=by rcases hk with rfl | rfl<;>rfl
theorem Wi.close_ring {x:Wi} {k j:Nat} (hk:k=0\/k=1) (hj:j=0\/j=1):((x.close k).e j).ring=(x.e j).ring:=by rcases hk with rfl | rfl<;>rcases hj with rfl | rfl<;>rfl
theorem jbc {l:List RX} {n:Nat} {r:RX} (hr:l[n]?=some r):(l.map RX.x)[n]?=some r.x:=by simp [hr]
theorem WsOk.wi {l:List RX} {n:Nat} {r:RX} (o:WsOk (l.map RX.x)) (hr:l[n]?=some r):WiOk r.x:=o.ok _ (zb (jbc hr))
theorem jnt {r:RX} {k m:Nat} {b:List UInt8} {v:V} (hk:k=0\/k=1):(r.take k m b v).x=r.x.take k m b:=by rcases hk with rfl | rfl<;>rfl
theorem jlU {r:RX} {k m:Nat} {b l:List UInt8} {v:V} (hk:k=0\/k=1):(r.fill k m b l v).x=r.x.fill k m b l:=by rcases hk with rfl | rfl<;>rfl
section
variable {cl:Nat->Call} (hcl:Sem cl)
include hcl
theorem jeL {d rw q:Nat} {h:H} {l:List RX} {tl:List V} {fd:Int} (hd:1<=d) (w:RW h rw q l tl) (o:WsOk (l.map RX.x)) :
  ((∀ n k,¬ AtW (l.map RX.x) n k fd)/\cl d (.fn 61) [.p rw 0,.i fd] h=some (.tup [.i (-1),.i (-1)],h)) \/
  ∃ (n k:Nat) (r:RX),AtW (l.map RX.x) n k fd/\l[n]?=some r/\(k=0\/k=1)/\cl d (.fn 61) [.p rw 0,.i fd] h=some (.tup [.i (n:Int),.i (k:Int)],h):=by
 obtain ⟨n,k,e,p⟩:=rp_at hcl (fd:=fd) hd w (by simpa using o.len)
 rcases p with ⟨rfl,rfl,p⟩ | ⟨n,k,rfl,rfl,p⟩
 ·exact .inl ⟨fun n k hk=>p n k (jpm.2 hk),e⟩
 ·obtain ⟨r,hr,hk,_⟩:=id p
  exact .inr ⟨n,k,r,jpm.1 p,hr,hk,e⟩
theorem rq_Read {d rw q:Nat} {h:H} {l:List RX} {tl:List V} {fd many:Int} (hd:3<=d) (w:RW h rw q l tl) (o:WsOk (l.map RX.x)) :
  ∃ v l' h',cl d (.fn 32) [.p rw 0,.i fd,.i many] h=some (.tup [v,.bool (jbU (l.map RX.x) fd many).1.2.1,.i (jbU (l.map RX.x) fd many).1.2.2],h') /\
   VB h' v (jbU (l.map RX.x) fd many).1.1/\RW h' rw q l' tl/\l'.map RX.x=(jbU (l.map RX.x) fd many).2/\Ch (RC rw q) h h':=by
 suffices s : ∃ v' h',cl d (.fn 32) [.p rw 0,.i fd,.i many] h=some (v',h') /\ ∃ v l',v' = .tup [v,.bool (jbU (l.map RX.x) fd many).1.2.1,.i (jbU (l.map RX.x) fd many).1.2.2] /\
   VB h' v (jbU (l.map RX.x) fd many).1.1/\RW h' rw q l' tl/\l'.map RX.x=(jbU (l.map RX.x) fd many).2/\Ch (RC rw q) h h' by
  obtain ⟨_,h',e,v,l',rfl,p⟩:=s;exact ⟨v,l',h',e,p⟩
 refine aT hcl ?_
 rcases jeL hcl (d:=d-1) (fd:=fd) om w o with ⟨hno,ea⟩ | ⟨n,k,r,hat,hr,hk,ea⟩
 ·have hS:jbU (l.map RX.x) fd many=(([],false,110),l.map RX.x):=jaG hno
  rw [hS]
  refine Ga ?_
  exact ⟨_,l,rfl,VB.nil h,w,rfl,Zy _ _⟩
 obtain ⟨hw,hq,hne⟩:=w.rat hr
 have hn:=r_lt hr
 have q1:=jhr hr hk
 have q2:=jhq hr
 have q3:=r_b hr hk
 have ek:(1:Int)-(k:Int)=((1-k:Nat):Int):=by omega
 have hk':1-k=0\/1-k=1:=by omega
 have q4:=jiu hr hk'
 have q5:=jjN hr hk'
 rw [<- ek] at q4 q5
 have hS:jbU (l.map RX.x) fd many=_:=jaH o.uniq hat (jbc hr)
 cases hring:(r.x.e k).ring with
 | none=>
  rw [hS]
  simp only [hring]
  rw [hring] at q1
  refine Ga ?_
  exact ⟨_,l,rfl,VB.nil h,w,rfl,Zy _ _⟩
 | some b=>
  rw [hring] at q1
  simp only [hring] at hS
  by_cases hm:many<1
  ·rw [zG hm] at hS;rw [hS]
   refine Ga ?_
   exact ⟨_,l,rfl,VB.nil h,w,rfl,Zy _ _⟩
  rw [zF hm] at hS
  cases hrs:r.x.reset
  case true=>
   rw [hrs,zG rfl] at hS;rw [hS]
   rw [hrs] at q2
   refine Ga ?_
   exact ⟨_,l,rfl,VB.nil h,w,rfl,Zy _ _⟩
  rw [hrs,zF Zd] at hS
  rw [hrs] at q2
  obtain ⟨hv,hz⟩:=(w.rok hr).b k hk
  rw [hring] at hv
  simp only [Option.getD_some] at hv
  obtain ⟨a,c,hva,_⟩:=id hv
  rw [hva] at q3
  by_cases hb:b=[]
  ·subst hb
   rw [zF Zd] at hS
   have q3:(rows l)[0+(n:Int).toNat*20+0+(k:Int).toNat*8+4]?=some (V.slice a 0 c):=q3
   cases hsi:r.x.silent k
   ·rw [hsi,zF Zd] at hS;rw [hS]
    simp only [Wi.silent,Bool.or_eq_false_iff,beq_eq_false_iff_ne] at hsi
    rw [hsi.2] at q5
    have h3:=hsi.1
    refine Ga ?_
    exact ⟨_,l,rfl,VB.nil h,w,rfl,Zy _ _⟩
   ·rw [hsi,zG rfl] at hS;rw [hS]
    by_cases h3:(r.x.e (1-k)).what=3
    ·refine Ga ?_
     exact ⟨_,l,rfl,VB.nil h,w,rfl,Zy _ _⟩
    ·have hsh:(r.x.e (1-k)).shut=true:=by simpa [Wi.silent,h3] using hsi
     rw [hsh] at q5
     refine Ga ?_
     exact ⟨_,l,rfl,VB.nil h,w,rfl,Zy _ _⟩
  ·rw [zG hb] at hS;rw [hS]
   have hpos:0<(b.length:Int):=by cases b<;>simp_all
   obtain ⟨v,v',h',e2,p1,p2,p3⟩:=jnA hcl (d:=d-1) (many:=many) om w hr hk hring om
   refine Ga ?_
   exact ⟨v,_,rfl,p1,p2,by rw [map_set,jnt hk],p3⟩
end
theorem isOut_wx {l:List RX} {n:Int} : jk5 l n ↔ ∃ x,OutW (l.map RX.x) n x:=by
 unfold jk5 OutW
 constructor
 ·rintro ⟨m,r,rfl,hr,h2⟩;exact ⟨r.x,by omega,by simpa using ⟨r,hr,rfl⟩,h2⟩
 ·rintro ⟨x,h0,hx,h2⟩
  rw [List.getElem?_map] at hx
  cases hr:l[n.toNat]? with
  | none=>rw [hr] at hx;cases hx
  | some r=>rw [hr] at hx;cases hx;exact ⟨n.toNat,r,by omega,hr,h2⟩
section
variable {cl:Nat->Call} (hcl:Sem cl)
include hcl
open Classical in
theorem jho {d rw q:Nat} {h:H} {l:List RX} {tl:List V} {n:Int} (hd:1<=d) (w:RW h rw q l tl) :
  ((∀ x,¬ OutW (l.map RX.x) n x)/\cl d (.fn 117) [.p rw 0,.i n] h=some (.bool false,h)) \/
  ∃ (m:Nat) (r:RX),n=m/\l[m]?=some r/\r.x.e1.what=2/\cl d (.fn 117) [.p rw 0,.i n] h=some (.bool true,h):=by
 have e:=rp_outer hcl (n:=n) hd w
 by_cases ho:jk5 l n
 ·rw [zJ ho] at e
  obtain ⟨m,r,rfl,hr,h2⟩:=ho
  exact .inr ⟨m,r,rfl,hr,h2,e⟩
 ·rw [zH ho] at e
  exact .inl ⟨fun x hx=>ho (isOut_wx.2 ⟨x,hx⟩),e⟩
theorem rq_Write {d rw q:Nat} {h:H} {l:List RX} {tl:List V} {fd:Int} {b:List UInt8} {vb:V} (hd:3<=d) (w:RW h rw q l tl) (o:WsOk (l.map RX.x)) (hb:VB h vb b) (hbl:b.length<=1000) (hba:b≠[] -> ∀ z,vb.at?=some z->z≠q/\z≠rw/\z<h.nx) :
  ∃ l' h',cl d (.fn 34) [.p rw 0,.i fd,vb] h=some (.tup [.i (jb8 (l.map RX.x) fd b).1.1,.i (jb8 (l.map RX.x) fd b).1.2],h') /\
   RW h' rw q l' tl/\l'.map RX.x=(jb8 (l.map RX.x) fd b).2/\Ch (RC rw q) h h':=by
 suffices s : ∃ v' h',cl d (.fn 34) [.p rw 0,.i fd,vb] h=some (v',h') /\ ∃ l',v' = .tup [.i (jb8 (l.map RX.x) fd b).1.1,.i (jb8 (l.map RX.x) fd b).1.2] /\
   RW h' rw q l' tl/\l'.map RX.x=(jb8 (l.map RX.x) fd b).2/\Ch (RC rw q) h h' by
  obtain ⟨_,h',e,l',rfl,p⟩:=s;exact ⟨l',h',e,p⟩
 refine aT hcl ?_
 rcases jeL hcl (d:=d-1) (fd:=fd) om w o with ⟨hno,ea⟩ | ⟨n,k,r,hat,hr,hk,ea⟩
 ·have hS:jb8 (l.map RX.x) fd b=((0,110),l.map RX.x):=jaG hno
  rw [hS]
  refine Ga ?_
  exact ⟨l,rfl,w,rfl,Zy _ _⟩
 obtain ⟨hw,hq,hne⟩:=w.rat hr
 have hn:=r_lt hr
 have q1:=jiV hr hk
 have q2:=jhq hr
 have q3:=jjN hr hk
 have ek:(1:Int)-(k:Int)=((1-k:Nat):Int):=by omega
 have hk':1-k=0\/1-k=1:=by omega
 have q4:=jiu hr hk'
 rw [<- ek] at q4
 have hS:jb8 (l.map RX.x) fd b=_:=jaH o.uniq hat (jbc hr)
 cases hwr:(r.x.e k).writes
 ·rw [hwr,zG rfl] at hS;rw [hS]
  rw [hwr] at q1
  refine Ga ?_
  exact ⟨l,rfl,w,rfl,Zy _ _⟩
 rw [hwr,zF Zd] at hS
 rw [hwr] at q1
 cases hrs:r.x.reset
 case true=>
  rw [hrs,zG rfl] at hS;rw [hS]
  rw [hrs] at q2
  refine Ga ?_
  exact ⟨l,rfl,w,rfl,Zy _ _⟩
 rw [hrs,zF Zd] at hS
 rw [hrs] at q2
 cases hsh:(r.x.e k).shut
 case true=>
  rw [zG (.inl hsh)] at hS;rw [hS]
  rw [hsh] at q3
  refine Ga ?_
  exact ⟨l,rfl,w,rfl,Zy _ _⟩
 rw [hsh] at q3
 by_cases h3:(r.x.e (1-k)).what=3
 ·rw [zG (.inr h3)] at hS;rw [hS]
  refine Ga ?_
  exact ⟨l,rfl,w,rfl,Zy _ _⟩
 rw [zF (by rintro (e | e);(rw [hsh] at e;cases e);exact h3 e)] at hS
 obtain ⟨a,c,rfl,_⟩:=id hb
 by_cases hbn:b=[]
 ·rw [zG hbn] at hS;rw [hS]
  subst hbn
  refine Ga ?_
  exact ⟨l,rfl,w,rfl,Zy _ _⟩
 rw [zF hbn] at hS
 have hpos : ¬ (b.length:Int)=0:=by have:=List.length_pos_iff.2 hbn;omega
 have hne0:=(o.wi hr).pair k hk
 cases hring:(r.x.e (1-k)).ring with
 | none=>exact zM hring (hne0.1 hwr)
 | some b'=>
  simp only [hring] at hS
  obtain ⟨v',h',e2,p2,p3⟩:=jkM hcl (d:=d-1) (k:=k) om w hr hk hring ((o.wi hr).len _ hk' _ hring) (o.wi hr).cap1 hb hbl hba
  generalize hm:min b.length (r.x.cap-b'.length)=m at hS e2 p2
  by_cases hm0:m=0
  ·subst hm0
   rw [zG rfl] at hS;rw [hS]
   have e2:cl (d-1) (.fn 65) _ h=some (.i 0,h'):=e2
   refine Ga ?_
   exact ⟨_,rfl,p2,by rw [map_set,jlU hk],p3⟩
  ·rw [zF hm0] at hS;rw [hS]
   have hm1 : ¬ (m:Int)=0:=by omega
   refine Ga ?_
   exact ⟨_,rfl,p2,by rw [map_set,jlU hk],p3⟩
theorem rq_Shut {d rw q:Nat} {h:H} {l:List RX} {tl:List V} {fd:Int} (hd:3<=d) (w:RW h rw q l tl) (o:WsOk (l.map RX.x)) :
  ∃ l' h',cl d (.fn 36) [.p rw 0,.i fd] h=some (.i (jd5 (l.map RX.x) fd).1,h')/\RW h' rw q l' tl/\l'.map RX.x=(jd5 (l.map RX.x) fd).2/\Ch (RC rw q) h h':=by
 suffices s : ∃ v' h',cl d (.fn 36) [.p rw 0,.i fd] h=some (v',h') /\ ∃ l',v' = .i (jd5 (l.map RX.x) fd).1/\RW h' rw q l' tl/\l'.map RX.x=(jd5 (l.map RX.x) fd).2/\Ch (RC rw q) h h' by
  obtain ⟨_,h',e,l',rfl,p⟩:=s;exact ⟨l',h',e,p⟩
 refine aT hcl ?_
 rcases jeL hcl (d:=d-1) (fd:=fd) om w o with ⟨hno,ea⟩ | ⟨n,k,r,hat,hr,hk,ea⟩
 ·have hS:jd5 (l.map RX.x) fd=(110,l.map RX.x):=jaG hno
  rw [hS]
  refine Ga ?_
  exact ⟨l,rfl,w,rfl,Zy _ _⟩
 obtain ⟨hw,hq,hne⟩:=w.rat hr
 have hn:=r_lt hr
 have q1:=jiV hr hk
 have q2:=jhr hr hk
 have hS:jd5 (l.map RX.x) fd=_:=jaH o.uniq hat (jbc hr)
 cases hring:(r.x.e k).ring with
 | none=>
  rw [zG (.inl hring)] at hS;rw [hS]
  rw [hring] at q2
  refine Ga ?_
  exact ⟨l,rfl,w,rfl,Zy _ _⟩
 | some b=>
  rw [hring] at q2
  cases hwr:(r.x.e k).writes
  ·rw [zG (.inr hwr)] at hS;rw [hS]
   rw [hwr] at q1
   refine Ga ?_
   exact ⟨l,rfl,w,rfl,Zy _ _⟩
  ·rw [zF (by rintro (e | e);(rw [hring] at e;cases e);rw [hwr] at e;cases e)] at hS
   rw [hS]
   rw [hwr] at q1
   obtain ⟨h',e2,p2,p3⟩:=jn7 hcl (d:=d-1) om w hr hk
   refine Ga ?_
   exact ⟨_,rfl,p2,by rw [map_set];rfl,p3⟩
theorem rq_Wire {d rw q:Nat} {h:H} {l:List RX} {tl:List V} {fd:Int} (hd:2<=d) (w:RW h rw q l tl) (o:WsOk (l.map RX.x)) :
  cl d (.fn 92) [.p rw 0,.i fd] h=some (.tup [.i (jfo (l.map RX.x) fd).1,.i (jfo (l.map RX.x) fd).2],h):=by
 refine jan (aT hcl ?_)
 rcases jeL hcl (d:=d-1) (fd:=fd) om w o with ⟨hno,ea⟩ | ⟨n,k,r,hat,hr,hk,ea⟩
 ·have hS:jfo (l.map RX.x) fd=(0,110):=jaG hno
  rw [hS]
  refine Ga ?_
  exact ⟨rfl,rfl⟩
 ·have hS:jfo (l.map RX.x) fd=((n:Int),0):=jaH o.uniq hat (jbc hr)
  rw [hS]
  refine Ga ?_
  exact ⟨rfl,rfl⟩
theorem jkL {d rw q:Nat} {h:H} {l:List RX} {tl:List V} {n:Int} (hd:3<=d) (w:RW h rw q l tl) :
  ∃ l' h',cl d (.fn 75) [.p rw 0,.i n] h=some (.i (ja6 (l.map RX.x) n).1,h')/\RW h' rw q l' tl/\l'.map RX.x=(ja6 (l.map RX.x) n).2/\Ch (RC rw q) h h':=by
 suffices s : ∃ v' h',cl d (.fn 75) [.p rw 0,.i n] h=some (v',h') /\ ∃ l',v' = .i (ja6 (l.map RX.x) n).1/\RW h' rw q l' tl/\l'.map RX.x=(ja6 (l.map RX.x) n).2/\Ch (RC rw q) h h' by
  obtain ⟨_,h',e,l',rfl,p⟩:=s;exact ⟨l',h',e,p⟩
 refine aT hcl ?_
 rcases jho hcl (d:=d-1) (n:=n) om w with ⟨hno,ea⟩ | ⟨m,r,rfl,hr,h2,ea⟩
 ·have hS:ja6 (l.map RX.x) n=(116,l.map RX.x):=jb5 hno
  rw [hS]
  refine Ga ?_
  exact ⟨l,rfl,w,rfl,Zy _ _⟩
 ·have hS:ja6 (l.map RX.x) m=_:=jb6 (jbc hr) h2
  rw [hS]
  obtain ⟨h',e2,p2,p3⟩:=jn7 hcl (d:=d-1) (k:=1) om w hr (.inr rfl)
  refine Ga ?_
  exact ⟨_,rfl,p2,by rw [map_set];rfl,p3⟩
theorem jjD {d rw q:Nat} {h:H} {l:List RX} {tl:List V} {n:Int} (hd:3<=d) (w:RW h rw q l tl) :
  ∃ l' h',cl d (.fn 77) [.p rw 0,.i n] h=some (.i (ja1 (l.map RX.x) n).1,h')/\RW h' rw q l' tl/\l'.map RX.x=(ja1 (l.map RX.x) n).2/\Ch (RC rw q) h h':=by
 suffices s : ∃ v' h',cl d (.fn 77) [.p rw 0,.i n] h=some (v',h') /\ ∃ l',v' = .i (ja1 (l.map RX.x) n).1/\RW h' rw q l' tl/\l'.map RX.x=(ja1 (l.map RX.x) n).2/\Ch (RC rw q) h h' by
  obtain ⟨_,h',e,l',rfl,p⟩:=s;exact ⟨l',h',e,p⟩
 refine aT hcl ?_
 rcases jho hcl (d:=d-1) (n:=n) om w with ⟨hno,ea⟩ | ⟨m,r,rfl,hr,h2,ea⟩
 ·have hS:ja1 (l.map RX.x) n=(116,l.map RX.x):=jb5 hno
  rw [hS]
  refine Ga ?_
  exact ⟨l,rfl,w,rfl,Zy _ _⟩
 ·have hS:ja1 (l.map RX.x) m=_:=jb6 (jbc hr) h2
  rw [hS]
  obtain ⟨h',e2,p2,p3⟩:=jiP hcl (d:=d-1) (k:=1) om w hr (.inr rfl)
  refine Ga ?_
  exact ⟨_,rfl,p2,by rw [map_set];rfl,p3⟩
theorem rq_Put {d rw q:Nat} {h:H} {l:List RX} {tl:List V} {n:Int} {b:List UInt8} {vb:V} (hd:3<=d) (w:RW h rw q l tl) (o:WsOk (l.map RX.x)) (hb:VB h vb b) (hbl:b.length<=1000) (hba:b≠[] -> ∀ z,vb.at?=some z->z≠q/\z≠rw/\z<h.nx) :
  ∃ l' h',cl d (.fn 71) [.p rw 0,.i n,vb] h=some (.tup [.i (putS (l.map RX.x) n b).1.1,.i (putS (l.map RX.x) n b).1.2],h')/\RW h' rw q l' tl/\l'.map RX.x=(putS (l.map RX.x) n b).2/\Ch (RC rw q) h h':=by
 suffices s : ∃ v' h',cl d (.fn 71) [.p rw 0,.i n,vb] h=some (v',h') /\ ∃ l',v' = .tup [.i (putS (l.map RX.x) n b).1.1,.i (putS (l.map RX.x) n b).1.2]/\RW h' rw q l' tl/\l'.map RX.x=(putS (l.map RX.x) n b).2/\Ch (RC rw q) h h' by
  obtain ⟨_,h',e,l',rfl,p⟩:=s;exact ⟨l',h',e,p⟩
 refine aT hcl ?_
 rcases jho hcl (d:=d-1) (n:=n) om w with ⟨hno,ea⟩ | ⟨m,r,rfl,hr,h2,ea⟩
 ·have hS:putS (l.map RX.x) n b=((0,116),l.map RX.x):=jb5 hno
  rw [hS]
  refine Ga ?_
  exact ⟨l,rfl,w,rfl,Zy _ _⟩
 obtain ⟨hw,hq,hne⟩:=w.rat hr
 have hn:=r_lt hr
 have q2:=jhq hr
 have q3:=jjN (k:=1) hr (.inr rfl)
 have q4:=jiu (k:=0) hr (.inl rfl)
 have hS:putS (l.map RX.x) m b=_:=jb6 (jbc hr) h2
 cases hrs:r.x.reset
 case true=>
  rw [hrs,zG rfl] at hS;rw [hS]
  rw [hrs] at q2
  refine Ga ?_
  exact ⟨l,rfl,w,rfl,Zy _ _⟩
 rw [hrs,zF Zd] at hS
 rw [hrs] at q2
 cases hsh:r.x.e1.shut
 case true=>
  rw [zG (.inl hsh)] at hS;rw [hS]
  rw [show (r.x.e 1).shut=true from hsh] at q3
  refine Ga ?_
  exact ⟨l,rfl,w,rfl,Zy _ _⟩
 rw [show (r.x.e 1).shut=false from hsh] at q3
 have q4:(rows l)[0+(m:Int).toNat*20+0+((0:Nat):Int).toNat*8+0]?=some (.i r.x.e0.what):=q4
 by_cases h3:r.x.e0.what=3
 ·rw [zG (.inr h3)] at hS;rw [hS]
  refine Ga ?_
  exact ⟨l,rfl,w,rfl,Zy _ _⟩
 rw [zF (by rintro (e | e);(rw [hsh] at e;cases e);exact h3 e)] at hS
 obtain ⟨b',hring⟩:=zN.1 ((o.wi hr).out h2).1
 simp only [hring] at hS
 obtain ⟨v',h',e2,p2,p3⟩:=jkM hcl (d:=d-1) (k:=1) (b:=b') om w hr (.inr rfl) hring ((o.wi hr).len 0 (.inl rfl) _ hring) (o.wi hr).cap1 hb hbl hba
 rw [hS]
 refine Ga ?_
 exact ⟨_,rfl,p2,by rw [map_set,jlU (.inr rfl)],p3⟩
theorem rq_Take {d rw q:Nat} {h:H} {l:List RX} {tl:List V} {n many:Int} (hd:3<=d) (w:RW h rw q l tl) (o:WsOk (l.map RX.x)) :
  ∃ v l' h',cl d (.fn 73) [.p rw 0,.i n,.i many] h=some (.tup [v,.i (jcb (l.map RX.x) n many).1.2],h')/\VB h' v (jcb (l.map RX.x) n many).1.1/\RW h' rw q l' tl/\l'.map RX.x=(jcb (l.map RX.x) n many).2/\Ch (RC rw q) h h':=by
 suffices s : ∃ v' h',cl d (.fn 73) [.p rw 0,.i n,.i many] h=some (v',h') /\ ∃ v l',v' = .tup [v,.i (jcb (l.map RX.x) n many).1.2]/\VB h' v (jcb (l.map RX.x) n many).1.1/\RW h' rw q l' tl/\l'.map RX.x=(jcb (l.map RX.x) n many).2/\Ch (RC rw q) h h' by
  obtain ⟨_,h',e,v,l',rfl,p⟩:=s;exact ⟨v,l',h',e,p⟩
 refine aT hcl ?_
 rcases jho hcl (d:=d-1) (n:=n) om w with ⟨hno,ea⟩ | ⟨m,r,rfl,hr,h2,ea⟩
 ·have hS:jcb (l.map RX.x) n many=(([],116),l.map RX.x):=jb5 hno
  rw [hS]
  refine Ga ?_
  exact ⟨_,l,rfl,VB.nil h,w,rfl,Zy _ _⟩
 obtain ⟨hw,hq,hne⟩:=w.rat hr
 have hn:=r_lt hr
 have q2:=jhq hr
 have hS:jcb (l.map RX.x) m many=_:=jb6 (jbc hr) h2
 by_cases hm:many<0
 ·rw [zG hm] at hS;rw [hS]
  refine Ga ?_
  exact ⟨_,l,rfl,VB.nil h,w,rfl,Zy _ _⟩
 rw [zF hm] at hS
 cases hrs:r.x.reset
 case true=>
  rw [hrs,zG rfl] at hS;rw [hS]
  rw [hrs] at q2
  refine Ga ?_
  exact ⟨_,l,rfl,VB.nil h,w,rfl,Zy _ _⟩
 rw [hrs,zF Zd] at hS
 rw [hrs] at q2
 obtain ⟨b',hring⟩:=zN.1 ((o.wi hr).out h2).2
 simp only [hring] at hS
 obtain ⟨v,v',h',e2,p1,p2,p3⟩:=jnA hcl (d:=d-1) (k:=1) (many:=many) om w hr (.inr rfl) hring om
 rw [hS]
 refine Ga ?_
 exact ⟨v,_,rfl,p1,p2,by rw [map_set,jnt (.inr rfl)],p3⟩
end
theorem Run.unroll {call:Call} {fuel n:Nat} {live:List Nat} {body:AC} {K:List Fr} {e:Env} {h:H} {Q:Post} (hf:fuel=n+1) (k:Run call fuel body (.loop live body n :: K) (e.only live) h Q):Run call fuel (.loop live body) K e h Q:=by
 obtain ⟨x,e1,h1,hd,x2,e2,h2,ha,hq⟩:=k
 have it:iter (D call fuel body) live fuel e h=match D call fuel body (e.only live) h with
  | some (.normal,e',h')=>iter (D call fuel body) live n e' h'
  | r=>r:=by rw [hf];rfl
 cases x<;>simp only [after] at ha
 ·split at ha
  ·next x3 e3 h3 hb=>exact ⟨x3,e3,h3,by simp only [D,it,hd,hb],x2,e2,h2,ha,hq⟩
  ·cases ha
 ·exact ⟨_,e1,h1,by simp only [D,it,hd],x2,e2,h2,ha,hq⟩
 ·exact ⟨_,e1,h1,by simp only [D,it,hd],x2,e2,h2,ha,hq⟩
theorem End.unroll {call:Call} {fuel n:Nat} {live:List Nat} {body:AC} {K:List Fr} {e:Env} {h:H} {Q:Post} (k:Run call fuel body (.loop live body n :: K) (e.only live) h Q):End call fuel (.loop live body (n+1) :: K) .normal e h Q:=by
 obtain ⟨x,e1,h1,hd,x2,e2,h2,ha,hq⟩:=k
 cases x<;>simp only [after] at ha
 ·split at ha
  ·next x3 e3 h3 hb=>exact ⟨x2,e2,h2,by simp only [after,iter,hd,hb,ha],hq⟩
  ·cases ha
 ·exact ⟨x2,e2,h2,by simp only [after,iter,hd,ha],hq⟩
 ·exact ⟨x2,e2,h2,by simp only [after,iter,hd,ha],hq⟩
def RX.noWait (r:RX):RX := { r with x := { r.x with waiting:=[] },vw := .nils }
theorem RX.noWait_cells (r:RX):r.noWait.cells=r.cells.set 19 .nils:=by
 obtain ⟨⟨e0,e1,cap,rs,bl,wt⟩,v0,v1,vw⟩:=r
 simp [RX.noWait,RX.cells,En.rcells]
theorem ROk.noWait {h:H} {rw q:Nat} {r:RX} (a:ROk h rw q r):ROk h rw q r.noWait :=
 ⟨fun k hk=>by have:=a.b k hk;rcases hk with rfl | rfl<;>exact this,VI.nil h,fun z hz=>by cases hz⟩
theorem VI.cell {h:H} {l:List Int} {a:Option (Nat × Nat)} {c:Cap} {i:Nat} {x:Int} (hv:VI h (.slice a l.length c) l) (hi:l[i]?=some x) : ∃ b o cs ro,a=some (b,o)/\h.get b=some (.cells cs ro)/\cs[o+(i:Int).toNat*1]?=some (.i x):=by
 obtain ⟨a',c',e,_,_,g⟩:=hv
 cases e
 obtain ⟨b,o,cs,ro,rfl,h1,h2,h3⟩:=g (by rintro rfl;simp at hi)
 exact ⟨b,o,cs,ro,rfl,h2,by rw [show o+(i:Int).toNat*1=o+i by omega];exact h3 _ _ hi⟩
section
variable {cl:Nat->Call} (hcl:Sem cl)
include hcl
theorem rq_Close {d rw q:Nat} {h:H} {l:List RX} {tl:List V} {fd:Int} (hd:3<=d) (w:RW h rw q l tl) (o:WsOk (l.map RX.x)) :
  ∃ l' h',cl d (.fn 38) [.p rw 0,.i fd] h=some (.i (jca (l.map RX.x) fd).1,h')/\RW h' rw q l' tl/\l'.map RX.x=(jca (l.map RX.x) fd).2/\Ch (RC rw q) h h':=by
 suffices s : ∃ v' h',cl d (.fn 38) [.p rw 0,.i fd] h=some (v',h') /\ ∃ l',v' = .i (jca (l.map RX.x) fd).1/\RW h' rw q l' tl/\l'.map RX.x=(jca (l.map RX.x) fd).2/\Ch (RC rw q) h h' by
  obtain ⟨_,h',e,l',rfl,p⟩:=s;exact ⟨l',h',e,p⟩
 refine aT hcl ?_
 rcases jeL hcl (d:=d-1) (fd:=fd) om w o with ⟨hno,ea⟩ | ⟨n,k,r,hat,hr,hk,ea⟩
 ·have hS:jca (l.map RX.x) fd=(110,l.map RX.x):=jaG hno
  rw [hS]
  refine Ga ?_
  exact ⟨l,rfl,w,rfl,Zy _ _⟩
 have hS:jca (l.map RX.x) fd=_:=jaH o.uniq hat (jbc hr)
 rw [hS]
 obtain ⟨wl,ww⟩:=o.wait _ (zb (jbc hr))
 obtain ⟨h1,e1,w1,c1⟩:=jiP hcl (d:=d-1) om w hr hk
 have hn:=r_lt hr
 have hr1:=get_set (r':=r.close k) hr
 have hx1:(l.set n (r.close k)).map RX.x=(l.map RX.x).set n (r.x.close k):=map_set
 have hv1:(r.close k).vw=r.vw:=rfl
 have hwt1:(r.close k).x.waiting=r.x.waiting:=Wi.close_waiting hk
 rw [<- hx1]
 have hlen1:(l.set n (r.close k)).length=l.length:=by simp
 generalize hL:r.x.waiting=L at wl ww hwt1 ⊢
 have hvi:=(w.rok hr).w.1
 rw [hL] at hvi
 obtain ⟨a,cp,hva,_⟩:=id hvi
 have hwlt : ∀ m∈L,∃ j:Nat,m=j/\j<l.length:=by
  intro m hm
  obtain ⟨y,m0,hy,_⟩:=ww m hm
  refine ⟨m.toNat,by omega,?_⟩
  rcases zA m.toNat l.length with h | h
  ·exact h
  ·rw [zc (by simpa using h)] at hy;cases hy
 clear hS hat ww o w
 generalize l.set n (r.close k)=l1 at w1 hr1 hx1 hlen1 ⊢
 generalize r.close k=r1 at hr1 hv1 hwt1
 refine Ga ?_
 refine Zx (fun m e g=>∃ (i:Nat) (l2:List RX) (r2:RX),m=L.length-i/\i<=L.length/\e=[(0,.p rw 0),(5,.i n),(7,.i i)]/\RW g rw q l2 tl/\l2.length=l.length/\l2[n]?=some r2/\r2.vw=r.vw/\r2.x.waiting=L /\
   jaA (l2.map RX.x) (L.drop i)=jaA (l1.map RX.x) L/\Ch (RC rw q) h g)
  (k:=L.length) Ze ⟨0,l1,r1,rfl,by omega,rfl,w1,hlen1,hr1,hv1,hwt1,rfl,c1⟩ ?_
 rintro _ _ g ⟨i,l2,r2,rfl,hi,rfl,w2,hlen2,hr2,hv2,hwt2,hcl2,c2⟩ f ih
 obtain ⟨hw,hq,hne⟩:=w2.rat hr2
 have hn2:=r_lt hr2
 have q1:=jlK hr2
 rw [hv2,hva] at q1
 have hvi2:=(w2.rok hr2).w.1
 rw [hv2,hva,hwt2] at hvi2
 by_cases hlt:i<L.length
 ·have hLi:=za hlt
  have hdrop:L.drop i=L[i] :: L.drop (i+1):=List.drop_eq_getElem_cons hlt
  obtain ⟨j,hj,hjl⟩:=hwlt L[i] (List.getElem_mem hlt)
  rw [hj] at hLi hdrop
  obtain ⟨b,of,cs,ro,rfl,hcs,hci⟩:=hvi2.cell hLi
  obtain ⟨r3,hr3⟩ : ∃ r3,l2[j]?=some r3:=⟨_,za om⟩
  obtain ⟨g3,e3,w3,c3⟩:=jiP hcl (d:=d-1) (k:=0) om w2 hr3 (.inl rfl)
  have hi1:((i+1:Nat):Int)=(i:Int)+1:=by omega
  have e3:cl (d-1) (.fn 69) [.p rw 0,.i (j:Int),.i 0] g=some (.tup [],g3):=e3
  have hnext : ∃ r4,(l2.set j (r3.close 0))[n]?=some r4/\r4.vw=r.vw/\r4.x.waiting=L:=by
   by_cases hjn:j=n
   ·subst hjn
    rw [hr2] at hr3;cases hr3
    exact ⟨_,get_set hr2,hv2,hwt2⟩
   ·exact ⟨r2,by rw [zi,zF hjn,hr2],hv2,hwt2⟩
  obtain ⟨r4,hr4,hv4,hwt4⟩:=hnext
  have hstep:jaA ((l2.set j (r3.close 0)).map RX.x) (L.drop (i+1))=jaA (l1.map RX.x) L:=by
   rw [<- hcl2,hdrop]
   show _=jaA (jd0 (l2.map RX.x) (j:Int)) _
   unfold jd0
   rw [zz,jbc hr3,map_set];rfl
  clear hcl2 hdrop hr1 hvi hvi2 hx1
  refine Ga ?_
  exact ih (L.length-(i+1)) om _ _ ⟨i+1,_,r4,rfl,by omega,by rw [hi1],w3,by rw [List.length_set,hlen2],hr4,hv4,hwt4,hstep,c2.trans c3⟩
 ·obtain rfl:i=L.length:=by omega
  rw [List.drop_length] at hcl2
  have hcl2:l2.map RX.x=jaA (l1.map RX.x) L:=hcl2
  have hlen:0+(n:Int).toNat*20+19<(rows l2).length:=by rw [ja4];omega
  have u:Upd q (.cells (rows (l2.set n r2.noWait)) false) g (g.set q (.cells (rows (l2.set n r2.noWait)) false)):=ZA
  have w4:=w2.set hr2 u (w2.rok hr2).noWait
  clear ih
  refine Ga ?_
  refine zcs rfl rfl rfl hq hlen ?_
  rw [je4 hr2 om (RX.noWait_cells r2) om]
  refine Ga ?_
  refine ⟨_,rfl,w4,?_,c2.trans (u.ch (.inl rfl))⟩
  show _=noWait _ n
  unfold noWait
  rw [<- hcl2,jbc hr2,map_set];rfl
end
abbrev ZC:=@End.unroll
def RX.reset (r:RX):RX := { r with x := { r.x with reset:=true } }
theorem RX.reset_cells (r:RX):r.reset.cells=r.cells.set 17 (.bool true):=by
 obtain ⟨⟨e0,e1,cap,rs,bl,wt⟩,v0,v1,vw⟩:=r
 simp [RX.reset,RX.cells,En.rcells]
def RX.doReset (r:RX):RX:=(((r.reset.putv 0 .nils []).came 0 true true).putv 1 .nils []).came 1 true true
theorem RX.doReset_x {r:RX} (h:r.x.reset=false):r.doReset.x=r.x.doReset:=by
 unfold Wi.doReset;rw [zF (by simp [h])];rfl
section
variable {cl:Nat->Call} (hcl:Sem cl)
include hcl
theorem rq_Reset {d rw q:Nat} {h:H} {l:List RX} {tl:List V} {n:Int} (hd:3<=d) (w:RW h rw q l tl) (o:WsOk (l.map RX.x)) :
  ∃ l' h',cl d (.fn 79) [.p rw 0,.i n] h=some (.i (jbL (l.map RX.x) n).1,h')/\RW h' rw q l' tl/\l'.map RX.x=(jbL (l.map RX.x) n).2/\Ch (RC rw q) h h':=by
 suffices s : ∃ v' h',cl d (.fn 79) [.p rw 0,.i n] h=some (v',h') /\ ∃ l',v' = .i (jbL (l.map RX.x) n).1/\RW h' rw q l' tl/\l'.map RX.x=(jbL (l.map RX.x) n).2/\Ch (RC rw q) h h' by
  obtain ⟨_,h',e,l',rfl,p⟩:=s;exact ⟨l',h',e,p⟩
 refine aT hcl ?_
 rcases jho hcl (d:=d-1) (n:=n) om w with ⟨hno,ea⟩ | ⟨m,r,rfl,hr,h2,ea⟩
 ·have hS:jbL (l.map RX.x) n=(116,l.map RX.x):=jb5 hno
  rw [hS]
  refine Ga ?_
  exact ⟨l,rfl,w,rfl,Zy _ _⟩
 have hS:jbL (l.map RX.x) m=_:=jb6 (jbc hr) h2
 obtain ⟨hw,hq,hne⟩:=w.rat hr
 have hn:=r_lt hr
 have q2:=jhq hr
 cases hrs:r.x.reset
 case true=>
  rw [show r.x.doReset=r.x by unfold Wi.doReset;rw [zG hrs]] at hS
  rw [hS]
  rw [hrs] at q2
  refine Ga ?_
  refine ⟨l,rfl,w,?_,Zy _ _⟩
  rw [<- map_set,je2 hr]
 rw [hrs] at q2
 rw [hS,<- RX.doReset_x hrs]
 obtain ⟨b0,hb0⟩:=zN.1 ((o.wi hr).out h2).1
 obtain ⟨b1,hb1⟩:=zN.1 ((o.wi hr).out h2).2
 have u1:Upd q (.cells (rows (l.set m r.reset)) false) h (h.set q (.cells (rows (l.set m r.reset)) false)):=ZA
 have ok1:ROk h rw q r.reset:=(w.rok hr).same rfl rfl rfl rfl rfl rfl
 have w1:=w.set hr u1 ok1
 have c1:Ch (RC rw q) h (h.set q (.cells (rows (l.set m r.reset)) false)):=u1.ch (.inl rfl)
 have hlen:0+(m:Int).toNat*20+17<(rows l).length:=by rw [ja4];omega
 have hr1:=get_set (r':=r.reset) hr
 have hs1 : ∀ s,l.set m s=(l.set m r.reset).set m s:=fun s=>set_set.symm
 rw [map_set.symm,hs1]
 unfold RX.doReset
 have hb0':(r.reset.x.e 0).ring=some b0:=hb0
 have hb1':(r.reset.x.e 1).ring=some b1:=hb1
 refine Ga ?_
 refine zcs rfl rfl rfl hq hlen ?_
 rw [je4 hr om (RX.reset_cells r) om]
 clear q2 hs1 hS ea u1 ok1 hlen hrs hb0 hb1 h2 o hw hq
 generalize h.set q (.cells (rows (l.set m r.reset)) false)=g at w1 c1 ⊢
 generalize l.set m r.reset=l1 at w1 hr1 ⊢
 generalize r.reset=r1 at hr1 hb0' hb1' ⊢
 clear hn
 have round : ∀ (k:Nat) (b:List UInt8) (g:H) (l1:List RX) (r1:RX),k=0\/k=1->RW g rw q l1 tl->l1[m]?=some r1->(r1.x.e k).ring=some b ->
   ∃ g',cl (d-1) (.fn 114) [.p rw 0,.i (m:Int),.i (k:Int),.bool true,.bool true] (g.set q (.cells ((rows l1).set (0+(m:Int).toNat*20+0+(k:Int).toNat*8+4) .nils) false))=some (.tup [],g') /\
    RW g' rw q (l1.set m ((r1.putv k .nils []).came k true true)) tl/\Ch (RC rw q) g g':=by
  intro k b g l1 r1 hk w hr hb
  rw [jie hr hk om (RX.putv_cells (r:=r1) (v := .nils) (b:=[]) hk hb) om]
  have u:Upd q (.cells (rows (l1.set m (r1.putv k .nils []))) false) g (g.set q (.cells (rows (l1.set m (r1.putv k .nils []))) false)):=ZA
  have w2:=w.set hr u ((w.rok hr).putv hk (VB.nil g) fun z hz=>by cases hz)
  obtain ⟨g',e,w3,c⟩:=jhm hcl (d:=d-1) (k:=k) om w2 (get_set hr) hk true true
  rw [set_set] at w3
  exact ⟨g',e,w3,(u.ch (.inl rfl)).trans c⟩
 obtain ⟨g2,e2,w2,c2⟩:=round 0 b0 g l1 r1 (.inl rfl) w1 hr1 hb0'
 have hr2:=get_set (r':=(r1.putv 0 .nils []).came 0 true true) hr1
 obtain ⟨g3,e3,w3,c3⟩:=round 1 b1 g2 _ _ (.inr rfl) w2 hr2 hb1'
 rw [set_set] at w3
 obtain ⟨hw1,hq1,_⟩:=w1.rat hr1
 obtain ⟨hw2,hq2,_⟩:=w2.rat hr2
 have hn1:=r_lt hr1
 have hn2:=r_lt hr2
 clear round
 refine Ga ?_
 refine Run.unroll (n:=99999) rfl ?_
 refine Ga ?_
 refine zcs rfl rfl rfl hq1 (by rw [ja4];omega) ?_
 refine Ga ?_
 refine ZC ?_
 refine Ga ?_
 refine zcs rfl rfl rfl hq2 (by rw [ja4];omega) ?_
 refine Ga ?_
 refine ZC ?_
 refine Ga ?_
 exact ⟨_,rfl,w3,rfl,(c1.trans c2).trans c3⟩
end
structure WAt (h:H) (w:Nat) (wl:List V) (s wsb wn:Nat) (wcap:Cap) (wsl:List V):Prop where
 hw:h.get w=some (.cells wl false)
 hs:wl[0+289]?=some (.p s 0)
 hws:wl[0+288]?=some (.slice (some (wsb,0)) wn wcap)
 hb:h.get wsb=some (.cells wsl false)
theorem WAt.keep {h h':H} {w:Nat} {wl:List V} {s wsb wn:Nat} {wcap:Cap} {wsl:List V} (a:WAt h w wl s wsb wn wcap wsl) (h1:h'.get w=h.get w) (h2:h'.get wsb=h.get wsb):WAt h' w wl s wsb wn wcap wsl :=
 ⟨by rw [h1,a.hw],a.hs,a.hws,by rw [h2,a.hb]⟩
structure FdAt (wl wsl:List V) (wn fd n k wb:Nat):Prop where
 small:fd<=95
 op:wl[fd*3]?=some (.bool true)
 wi:wl[fd*3+1]?=some (.i (n:Int))
 en:wl[fd*3+2]?=some (.i (k:Int))
 lt:n<wn
 at_:wsl[n]?=some (.p wb 0)
 k01:k=0\/k=1
theorem jpg {l:List V} {o:Nat} {a b c:V} (h0:l[o]?=some a) (h1:l[o+1]?=some b) (h2:l[o+2]?=some c):(l.drop o).take 3=[a,b,c]:=by
 apply zW
 intro i
 rw [zQ,zn]
 match i with
 | 0=>simpa using h0
 | 1=>simpa using h1
 | 2=>simpa using h2
 | n+3=>
  have : ¬ n+3<3:=by omega
  rw [zF this];rfl
theorem len_of {l:List V} {o:Nat} {a:V} (h:l[o]?=some a):o<l.length:=by
 rcases zA o l.length with h1 | h1
 ·exact h1
 ·rw [zc h1] at h;cases h
theorem resN {e:Env} {h:H} {s n b o:Nat} {l:List V} {ro:Bool} {rs:List RV} {r:List V} (hs:e.get s=some (.ptr (some (b,o)))) (hl:h.get b=some (.cells l ro)) (hn:o+n<=l.length) (hr:jdv e h rs=some r) :
  jdv e h (.cellN s n :: rs)=some (.agg ((l.drop o).take n) :: r):=by simp only [jdv,hs,jdc hl hn,hr]
section
variable {cl:Nat->Call} (hcl:Sem cl)
include hcl
theorem jk8 {d b s:Nat} {h:H} {l:List V} {ro:Bool} (hd:1<=d) (hb:h.get b=some (.cells l ro)) (hs:l[0+289]?=some (.p s 0)):cl d (.fn 57) [.p b 0] h=some (.bool false,h):=by
 refine jan (aT hcl ?_)
 refine Ga ?_
 exact ⟨rfl,rfl⟩
theorem jk9 {d w s wsb wn fd n k wb:Nat} {h:H} {wl wsl:List V} {wcap:Cap} (hd:2<=d) (A:WAt h w wl s wsb wn wcap wsl) (B:FdAt wl wsl wn fd n k wb) (l1:w<h.nx) (l2:wsb<h.nx) :
  ∃ h',cl d (.fn 50) [.p w 0,.i (fd:Int)] h=some (.tup [.agg [.bool true,.i (n:Int),.i (k:Int)],.p wb 0,.i 0],h')/\Ch (fun _=>False) h h'/\h'.nx=h.nx+1:=by
 obtain ⟨hw,hs,hws,hb⟩:=A
 obtain ⟨f1,f2,f3,f4,f5,f6,f7⟩:=B
 refine jai (aT hcl ?_)
 refine qo ?_
 refine zcu rfl rfl ?_
 have hw1:=(jac (h:=h) (o := .cells [.bool false,.i 0,.i 0] false) l1).trans hw
 have hb1:=(jac (h:=h) (o := .cells [.bool false,.i 0,.i 0] false) l2).trans hb
 have hn:=jk8 hcl (d:=d-1) om hw1 hs
 have f2':wl[0+0+(fd:Int).toNat*3+0]?=some (.bool true):=by rw [show 0+0+(fd:Int).toNat*3+0=fd*3 by omega];exact f2
 have f3':wl[0+0+(fd:Int).toNat*3+1]?=some (.i (n:Int)):=by rw [show 0+0+(fd:Int).toNat*3+1=fd*3+1 by omega];exact f3
 have f6':wsl[0+(n:Int).toNat*1]?=some (.p wb 0):=by rw [show 0+(n:Int).toNat*1=n by omega];exact f6
 have h3:=jpg f2 f3 f4
 have hlen:=len_of f4
 refine Ga ?_
 refine zcw rfl hw1 om ?_
 rw [show 0+0+(fd:Int).toNat*3=fd*3 by omega,h3]
 have f3'':wl[fd*3+1]?=some (.i (n:Int)):=f3
 refine Ga ?_
 have hw2:((h.new (.cells [.bool false,.i 0,.i 0] false)).set h.nx (.cells (jat [.bool false,.i 0,.i 0] 0 [.bool true,.i (n:Int),.i (k:Int)]) false)).get w=some (.cells wl false):=by rw [jaa om,hw1]
 have hb2:((h.new (.cells [.bool false,.i 0,.i 0] false)).set h.nx (.cells (jat [.bool false,.i 0,.i 0] 0 [.bool true,.i (n:Int),.i (k:Int)]) false)).get wsb=some (.cells wsl false):=by rw [jaa om,hb1]
 refine Ops.storeN_chk rfl rfl rfl rfl (jad _) (zw rfl) (jaN rfl hw2 hws rfl (jaN rfl hw2 f3' rfl (jaN rfl hb2 f6' rfl jbn))) ?_
 refine Ga ?_
 refine zcf (resN rfl (jab _) (zw rfl) rfl) ?_
 exact ⟨rfl,⟨by simp,fun j hj _=>by rw [jaa om,jac hj]⟩,rfl⟩
end
def Wi.rIn (x:Wi) (k:Nat):Bool:=match (x.e k).ring with
 | none=>false
 | some q=>!q.isEmpty||(x.e (1-k)).what == 3||(x.e (1-k)).shut||x.reset
def Wi.rOut (x:Wi) (k:Nat):Bool:=(x.e k).writes && !(x.e k).shut&&(decide ((((x.e (1-k)).ring.getD []).length:Int)<x.cap)||(x.e (1-k)).what == 3||x.reset)
def Wi.ready (x:Wi) (k:Nat):List V :=
 if 0<x.backlog then [.bool true,.bool (!x.waiting.isEmpty),.bool false,.bool false,.bool false,.int .u64 (x.e k).inn,.int .u64 (x.e k).out]
 else [.bool true,.bool (x.rIn k),.bool (x.rOut k),.bool ((x.e (1-k)).what == 3),.bool x.reset,.int .u64 (x.e k).inn,.int .u64 (x.e k).out]
def jnK:List V:=[.bool false,.bool false,.bool false,.bool false,.bool false,.int .u64 0,.int .u64 0]
noncomputable def jit (ws:Ws) (fd:Int):List V:=jcs ws fd jnK fun _ k x=>x.ready k
theorem jcN {call:Call} {fuel s n b:Nat} {e:Env} {h:H} {R:V->H->Prop} {l:List V} (hs:e.get s=some (.ptr (some (b,0)))) (hl:h.get b=some (.cells l false)) (hn:l.length=n) (k:R (.agg l) h) :
  End call fuel [] .ret e h (Fin [.cellN s n] R):=by
 refine End.fin1 (resN hs hl om rfl) ?_
 rw [zl,zh om];exact k
section
variable {cl:Nat->Call} (hcl:Sem cl)
include hcl
abbrev jgB:Obj := .cells [.bool false,.bool false,.bool false,.bool false,.bool false,.int .u64 0,.int .u64 0] false
end
section
variable {cl:Nat->Call} (hcl:Sem cl)
include hcl
end
theorem RX.cells_one {r:RX} (h0:r.v0.one=true) (h1:r.v1.one=true) (hw:r.vw.one=true):r.cells.all V.one=true:=by
 obtain ⟨⟨e0,e1,cap,rs,bl,wt⟩,v0,v1,vw⟩:=r
 simp only at h0 h1 hw
 simp only [RX.cells,En.rcells,zZ,Zi,List.all_cons,List.all_nil,h0,h1,hw]
 rfl
theorem Run.fin_mono {call:Call} {fuel:Nat} {c:AC} {res:List RV} {e:Env} {h:H} {R R':V->H->Prop} (k:Run call fuel c [] e h (Fin res R)) (hR : ∀ v h',R v h'->R' v h'):Run call fuel c [] e h (Fin res R'):=by
 obtain ⟨x',e',h',hd',x2,e2,h2,ha,⟨⟨p1,l,p2,p3⟩⟩⟩:=k
 exact ⟨x',e',h',hd',x2,e2,h2,ha,⟨⟨p1,l,p2,hR _ _ p3⟩⟩⟩
section
variable {cl:Nat->Call} (hcl:Sem cl)
include hcl
end
def sgc (hd:Nat->Bool) (pd:Nat->Int):List V:=tab 32 (fun k=>.bool (hd k))++tab 32 (fun k=>.i (pd k))
theorem je1 (hd:Nat->Bool) (pd:Nat->Int):(sgc hd pd).length=64:=by simp [sgc]
theorem sgc_hd {hd:Nat->Bool} {pd:Nat->Int} {k o:Nat} (hk:k<32) (ho:o=k):(sgc hd pd)[o]?=some (.bool (hd k)):=by
 subst ho
 unfold sgc
 rw [ze,zG (by simpa using hk),jcy hk]
theorem jn1 {hd:Nat->Bool} {pd:Nat->Int} {k o:Nat} (hk:k<32) (ho:o=32+k):(sgc hd pd)[o]?=some (.i (pd k)):=by
 subst ho
 unfold sgc
 rw [ze,zF Zd,tab_length,Zp,jcy hk]
theorem jms {hd:Nat->Bool} {pd:Nat->Int} {k o:Nat} {t:Bool} (hk:k<32) (ho:o=k):(sgc hd pd).set o (.bool t)=sgc (fun j=>if j=k then t else hd j) pd:=by
 subst ho
 unfold sgc
 rw [zX,zG (by simpa using hk),jef]
 congr 1
 refine jc9 fun j _=>?_
 by_cases e:j=o<;>simp [e]
theorem jfZ {hd:Nat->Bool} {pd:Nat->Int} {k o:Nat} {n:Int} (ho:o=32+k):(sgc hd pd).set o (.i n)=sgc hd (fun j=>if j=k then n else pd j):=by
 subst ho
 unfold sgc
 rw [zX,zF Zd,tab_length,Zp,jef]
 congr 1
 refine jc9 fun j _=>?_
 by_cases e:j=k<;>simp [e]
abbrev sig? (s:Int):Prop:=1<=s/\s<=31
theorem sp_is {cl:Nat->Call} (hcl:Sem cl) {d:Nat} (hd:1<=d) (s:Int) (h:H):cl d (.fn 147) [.i s] h=some (.bool (decide (sig? s)),h):=by
 refine jan (at_ hcl hd rfl rfl rfl ?_)
 repeat' (first|refine qoy ?_|(refine zsp ?_ ?_<;>intro _)|fail)
 all_goals exact ⟨by simp [*],rfl⟩
theorem jnz {cl:Nat->Call} (hcl:Sem cl) {d:Nat} (hd:2<=d) (b:Nat) (s:Int) (h:H):cl d (.fn 137) [.p b 0,.i s] h=some (.i (if sig? s then 0 else 100),h):=by
 refine jan (aT hcl ?_)
 refine qo ?_
 refine zaw rfl (sp_is hcl om s h) ?_
 repeat' (first|refine qoy ?_|(refine zsp ?_ ?_<;>intro _)|fail)
 all_goals exact ⟨by simp [*],rfl⟩
structure Tb where
 hd:Nat->Bool
 pd:Nat->Int
def Tb.obj (t:Tb):Obj := .cells (sgc t.hd t.pd) false
def Tb.zero:Tb:=⟨fun _=>false,fun _=>0⟩
def Tb.handle (t:Tb) (s:Int) (on:Bool):Tb :=
 if sig? s then ⟨fun j=>if j=s.toNat then on else t.hd j,if on then t.pd else fun j=>if j=s.toNat then 0 else t.pd j⟩ else t
def Tb.raise (t:Tb) (s:Int):Tb :=
 if sig? s/\t.hd s.toNat=true then ⟨t.hd,fun j=>if j=s.toNat then t.pd j+1 else t.pd j⟩ else t
theorem sp_handle {cl:Nat->Call} (hcl:Sem cl) {d b:Nat} {h:H} {t:Tb} (hd:3<=d) (hb:h.get b=some t.obj) (s:Int) (on:Bool) :
  ∃ h',cl d (.fn 120) [.p b 0,.i s,.bool on] h=some (.i (if sig? s then 0 else 100),h')/\Upd b (t.handle s on).obj h h':=by
 refine jai (aT hcl ?_)
 have hm:=jnz hcl (d:=d-1) om b s h
 unfold Tb.obj at hb
 by_cases hs:sig? s
 ·rw [zG hs] at hm ⊢
  obtain ⟨s1,s2⟩:=hs
  refine qo ?_
  refine zaw rfl hm ?_
  refine qo ?_
  refine zcs rfl rfl rfl hb (by rw [je1];omega) ?_
  rw [jms (k:=s.toNat) om om]
  cases on
  ·refine qo ?_
   refine zcs rfl rfl rfl (jab _) (by rw [je1];omega) ?_
   rw [jfZ (k:=s.toNat) om]
   refine qo ?_
   refine ⟨rfl,?_⟩
   have:(t.handle s false).obj = .cells (sgc (fun j=>if j=s.toNat then false else t.hd j) (fun j=>if j=s.toNat then 0 else t.pd j)) false:=by
    rw [Tb.handle,zG ⟨s1,s2⟩];rfl
   rw [this]
   exact Upd.set.trans ZA
  ·refine qo ?_
   refine ⟨rfl,?_⟩
   have:(t.handle s true).obj = .cells (sgc (fun j=>if j=s.toNat then true else t.hd j) t.pd) false:=by
    rw [Tb.handle,zG ⟨s1,s2⟩];rfl
   rw [this]
   exact ZA
 ·rw [zF hs] at hm ⊢
  refine qo ?_
  refine zaw rfl hm ?_
  refine qo ?_
  refine ⟨rfl,?_⟩
  rw [Tb.handle,zF hs]
  exact Upd.refl hb
theorem sp_raise {cl:Nat->Call} (hcl:Sem cl) {d b:Nat} {h:H} {t:Tb} (hd:3<=d) (hb:h.get b=some t.obj) (s:Int) (hp : ∀ k,0<=t.pd k/\t.pd k<=1000000) :
  ∃ h',cl d (.fn 122) [.p b 0,.i s] h=some (.i (if sig? s then 0 else 100),h')/\Upd b (t.raise s).obj h h':=by
 refine jai (aT hcl ?_)
 have hm:=jnz hcl (d:=d-1) om b s h
 unfold Tb.obj at hb
 by_cases hs:sig? s
 ·rw [zG hs] at hm ⊢
  obtain ⟨s1,s2⟩:=hs
  have hp:=hp s.toNat
  refine qo ?_
  refine zaw rfl hm ?_
  refine qo ?_
  refine zav rfl hb (sgc_hd (k:=s.toNat) om om) ?_
  repeat' (first|refine qoy ?_|(refine zsp ?_ ?_<;>intro _)|fail)
  ·refine zav rfl hb (jn1 (k:=s.toNat) om om) ?_
   refine qo ?_
   refine zav rfl hb (jn1 (k:=s.toNat) om om) ?_
   refine qo ?_
   refine zcs rfl rfl rfl hb (by rw [je1];omega) ?_
   rw [jfZ (k:=s.toNat) om]
   refine qo ?_
   refine ⟨rfl,?_⟩
   rw [Tb.raise,zG ⟨⟨s1,s2⟩,by assumption⟩,show min 1 (2147483647-t.pd s.toNat)=1 by omega]
   have:(fun j=>if j=s.toNat then t.pd s.toNat+1 else t.pd j)=fun j=>if j=s.toNat then t.pd j+1 else t.pd j:=by
    funext j;by_cases e:j=s.toNat<;>simp [e]
   rw [this]
   exact ZA
  ·refine ⟨rfl,?_⟩
   rw [Tb.raise,zF (fun x=>by simp_all)]
   exact Upd.refl hb
 ·rw [zF hs] at hm ⊢
  refine qo ?_
  refine zaw rfl hm ?_
  refine qo ?_
  refine ⟨rfl,?_⟩
  rw [Tb.raise,zF (fun x=>hs x.1)]
  exact Upd.refl hb
def Tb.cnt (t:Tb) (s:Int):Int:=if sig? s then t.pd s.toNat else 0
def Tb.has (t:Tb) (s:Int):Bool:=decide (sig? s)&&t.hd s.toNat
theorem sp_count {cl:Nat->Call} (hcl:Sem cl) {d b:Nat} {h:H} {t:Tb} (hd:3<=d) (hb:h.get b=some t.obj) (s:Int):cl d (.fn 145) [.p b 0,.i s] h=some (.i (t.cnt s),h):=by
 refine jan (aT hcl ?_)
 have hm:=jnz hcl (d:=d-1) om b s h
 unfold Tb.obj at hb
 by_cases hs:sig? s
 ·rw [zG hs] at hm
  obtain ⟨s1,s2⟩:=hs
  refine qo ?_
  refine zaw rfl hm ?_
  refine qo ?_
  refine zav rfl hb (jn1 (k:=s.toNat) om om) ?_
  refine qo ?_
  exact ⟨by rw [Tb.cnt,zG ⟨s1,s2⟩],rfl⟩
 ·rw [zF hs] at hm
  refine qo ?_
  refine zaw rfl hm ?_
  refine qo ?_
  exact ⟨by rw [Tb.cnt,zF hs],rfl⟩
theorem jmi:List.replicate 32 (V.bool false)++List.replicate 32 (V.i 0)=sgc (fun _=>false) (fun _=>0):=by
 rw [jfr,jfr];rfl
theorem sp_new {cl:Nat->Call} (hcl:Sem cl) {d:Nat} (hd:1<=d) (h:H):cl d (.fn 54) [] h=some (.p h.nx 0,h.new Tb.zero.obj):=by
 refine jan (aT hcl ?_)
 refine qo ?_
 refine zcu rfl rfl ?_
 refine qo ?_
 exact ⟨rfl,by rw [Tb.obj,Tb.zero,<- jmi];rfl⟩
def Tb.cnts (t:Tb):Nat->List (Nat × Int)
 | 0=>[]
 | k+1=>if k=0\/t.pd k=0 then t.cnts k else t.cnts k++[(k,t.pd k)]
theorem cnt_nat (t:Tb) {k:Nat} (hk:k<32):t.cnt (k:Int)=if k=0 then 0 else t.pd k:=by
 unfold Tb.cnt
 by_cases h0:k=0
 ·subst h0;simp
 ·rw [zG ⟨by omega,by omega⟩,zF h0];rfl
theorem jhh {cl:Nat->Call} (hcl:Sem cl) {d L c b:Nat} {t:Tb} (hd:5<=d) (I:Nat->H->Prop)
  (hc : ∀ k h,I k h->h.get c=some (.cells [.p b 0] false)/\h.get b=some t.obj)
  (hs : ∀ k h,k<32->I k h->(k=0\/t.pd k=0)->I (k+1) h)
  (hy : ∀ k h,k<32->k≠0->t.pd k≠0->I k h -> ∃ h',cl (d-1) (.yld L) [.agg [.i k,.i (t.pd k)]] h=some (.bool true,h')/\I (k+1) h')
  {h:H} (h0:I 0 h) : ∃ v h',cl d (.fn 144) [.yld L,.p c 0] h=some (v,h')/\I 32 h':=by
 refine aT hcl ?_
 refine qo ?_
 refine Zx (fun m e h=>∃ k:Nat,m=32-k/\k<=32/\e=[(0,.yld L),(1,.p c 0),(5,.i k)]/\I k h) (k:=32) (by decide) ⟨0,rfl,by omega,rfl,h0⟩ ?_
 rintro _ _ h ⟨k,rfl,hk,rfl,hI⟩ n ih
 obtain ⟨hc1,hb1⟩:=hc k h hI
 repeat' (first|refine qoy ?_|(refine zsp ?_ ?_<;>intro _)|fail)
 ·refine zav rfl hc1 rfl ?_
  refine qo ?_
  have hcn:=sp_count hcl (d:=d-1) om hb1 k
  rw [cnt_nat t om] at hcn
  refine zaw rfl hcn ?_
  by_cases hz:k=0\/t.pd k=0
  ·have e0:(if k=0 then (0:Int) else t.pd k)=0:=by rcases hz with hz | hz<;>simp [hz]
   rw [e0]
   refine qo ?_
   exact ih (32-(k+1)) om _ _ ⟨k+1,rfl,by omega,rfl,hs k h om hI hz⟩
  ·have hz1:k≠0:=fun e=>hz (.inl e)
   have hz2:t.pd k≠0:=fun e=>hz (.inr e)
   rw [zF hz1]
   refine qo ?_
   obtain ⟨h2,hy1,hy2⟩:=hy k h om hz1 hz2 hI
   refine Ops.yield rfl rfl hy1 ?_
   refine qo ?_
   exact ih (32-(k+1)) om _ _ ⟨k+1,rfl,by omega,rfl,hy2⟩
 ·have:k=32:=by omega
  subst this
  exact hI
theorem jj9 {cl:Nat->Call} (hcl:Sem cl) {d b:Nat} {h:H} (hd:1<=d):cl d (.fn 133) [.p b 0] h=some (.clo 144 [.p h.nx 0],h.new (.cells [.p b 0] false)):=by
 refine jan (aT hcl ?_)
 refine qo ?_
 refine zcu rfl rfl ?_
 refine qo ?_
 exact ⟨rfl,rfl⟩
def Tb.sum (t:Tb):Nat->Int
 | 0=>0
 | k+1=>if k=0\/t.pd k=0 then t.sum k else t.sum k+t.pd k
def Tb.ok (t:Tb) (n:Int):Prop := ∀ k,0<=t.pd k/\t.pd k<=n
theorem Tb.sum_le {t:Tb} {n:Int} (ht:t.ok n) : ∀ k:Nat,0<=t.sum k/\t.sum k<=k*n
 | 0=>by simp [Tb.sum]
 | k+1=>by
  have h1:=Tb.sum_le ht k
  have h2:=ht k
  unfold Tb.sum
  have e:((k+1:Nat):Int)*n=k*n+n:=by simp [Int.add_mul]
  split<;>omega
theorem jmr {cl:Nat->Call} (hcl:Sem cl) {d b:Nat} {h0:H} {t:Tb} (hd:8<=d) (hb:h0.get b=some t.obj) (hlt:b<h0.nx) (ht:t.ok 1000000) :
  ∃ h',cl d (.fn 134) [.p b 0] h0=some (.i (t.sum 32),h')/\Ch (fun _=>False) h0 h':=by
 refine jai (aT hcl ?_)
 refine qo ?_
 refine zcu rfl rfl ?_
 refine qo ?_
 refine zcs rfl rfl rfl (jad _) Zd ?_
 refine qo ?_
 refine zaw rfl (jj9 hcl om) ?_
 refine qo ?_
 refine Zz rfl qkp fun LO hLO=>?_
 obtain ⟨v,h',hc,k1,k2,k3,k4,k5,k6⟩:=jhh hcl (d:=d-1) (L:=h0.nx+2) (c:=h0.nx+1) (b:=b) (t:=t) om
  (fun k h=>h.get h0.nx=some (.cells [.i (t.sum k)] false)/\h.get (h0.nx+1)=some (.cells [.p b 0] false)/\h.get (h0.nx+2)=some (LO .ready none)/\h.get b=some t.obj/\h0.nx+3<=h.nx /\ ∀ j,j<h0.nx->h.get j=h0.get j)
  (fun k h hI=>⟨hI.2.1,hI.2.2.2.1⟩)
  (fun k h _ hI hz=>by rw [Tb.sum,zG hz];exact hI)
  (by
   intro k g hk hk0 hk1 ⟨g1,g2,g3,g4,g5,g6⟩
   have hs:=Tb.sum_le ht k
   have hpk:=ht k
   have hk32:(k:Int)*1000000<=32000000:=by omega
   refine jai (yl_ hcl om hLO g3 rfl ?_)
   refine qo ?_
   refine zcu rfl rfl ?_
   refine qo ?_
   refine zct rfl rfl rfl rfl (jad _) Zd ?_
   refine qo ?_
   refine Zv ⟨rfl,qgt,?_⟩
   refine qo ?_
   refine zav rfl (l:=[.i (t.sum k)]) (ro:=false) qgt rfl ?_
   refine qo ?_
   refine zav rfl (l:=[.i k,.i (t.pd k)]) (ro:=false) qgt rfl ?_
   refine qo ?_
   refine zcs rfl rfl rfl (l:=[.i (t.sum k)]) qgt zP ?_
   refine qo ?_
   refine Zv ⟨⟨.busy,none,qgt⟩,rfl,?_⟩
   rw [Tb.sum,zF om]
   refine ⟨qgt,qgt,qgt,qgt,?_,?_⟩
   ·simp;omega
   ·intro j hj
    have:=g6 j hj
    exact qgt)
  (h:=(((h0.new (.cells [.i 0] false)).set h0.nx (.cells [.i 0] false)).new (.cells [.p b 0] false)).new (LO .ready none))
  (by
   refine ⟨qgt,qgt,qgt,qgt,?_,?_⟩
   ·simp
   ·intro j hj
    exact qgt)
 refine ⟨v,h',hc,.normal,k3,?_⟩
 refine qo ?_
 refine zav rfl (l:=[.i (t.sum 32)]) (ro:=false) qgt rfl ?_
 refine qo ?_
 refine ⟨rfl,?_,?_⟩
 ·simp;omega
 ·intro j hj _
  have:=k6 j hj
  exact qgt
abbrev ints (l:List Int):List V:=l.map V.i
def jaM:List (Nat × Int)->List V
 | []=>[]
 | p :: r=>.i p.1 :: .i p.2 :: jaM r
theorem jew : ∀ l,(jaM l).length=l.length*2
 | []=>rfl
 | p :: r=>by simp [jaM,jew r];omega
theorem jex : ∀ l m,jaM (l++m)=jaM l++jaM m
 | [],m=>rfl
 | p :: r,m=>by simp [jaM,jex r m]
theorem jg6 : ∀ (l:List (Nat × Int)) (i:Nat) (p:Nat × Int),l[i]?=some p->((jaM l).drop (i*2)).take 2=[.i p.1,.i p.2]
 | [],_,_,h=>by simp at h
 | q :: r,0,p,h=>by simp at h;subst h;rfl
 | q :: r,i+1,p,h=>by
  simp only [List.getElem?_cons_succ] at h
  rw [show (i+1)*2=i*2+1+1 by omega]
  simp only [jaM,List.drop_succ_cons]
  exact jg6 r i p h
theorem Tb.cnts_len (t:Tb) : ∀ k,(t.cnts k).length<=k
 | 0=>by simp [Tb.cnts]
 | k+1=>by
  have:=t.cnts_len k
  unfold Tb.cnts;split<;>simp<;>omega
theorem Tb.cnts_mem {t:Tb} : ∀ {k:Nat} {p:Nat × Int},p∈t.cnts k->1<=p.1/\p.1<k/\p.2=t.pd p.1/\p.2≠0
 | 0,p,h=>by simp [Tb.cnts] at h
 | k+1,p,h=>by
  unfold Tb.cnts at h
  split at h
  ·have:=Tb.cnts_mem h;omega
  ·next hz=>
   rcases zR.1 h with h | h
   ·have:=Tb.cnts_mem h;omega
   ·simp at h;subst h;simp;omega
theorem Tb.mem_cnts {t:Tb} : ∀ {k j:Nat},1<=j->j<k->t.pd j≠0->(j,t.pd j)∈t.cnts k
 | 0,_,_,h,_=>by omega
 | k+1,j,h1,h2,h3=>by
  unfold Tb.cnts
  by_cases e:j=k
  ·subst e
   rw [zF om];simp
  ·have:=Tb.mem_cnts (k:=k) h1 om h3
   split
   ·exact this
   ·exact List.mem_append_left _ this
def jfk (l:List (Nat × Int)) (pd:Nat->Int):Nat->Int:=fun j=>if l.any (fun p=>p.1 == j) then 0 else pd j
def Tb.take (t:Tb):Tb:=⟨t.hd,fun j=>if 1<=j/\j<32 then 0 else t.pd j⟩
theorem sp_take {cl:Nat->Call} (hcl:Sem cl) {d b:Nat} {h0:H} {t:Tb} (hd:8<=d) (hb:h0.get b=some t.obj) (hlt:b<h0.nx) :
  ∃ v h',cl d (.fn 102) [.p b 0] h0=some (v,h')/\Row h0.nx h' 2 v (t.cnts 32).length (jaM (t.cnts 32))/\h'.get b=some t.take.obj/\Ch (fun j=>j=b) h0 h':=by
 refine aT hcl ?_
 refine qo ?_
 refine zcu rfl rfl ?_
 refine qo ?_
 refine zaw rfl (jj9 hcl om) ?_
 refine qo ?_
 refine Zz rfl qkp fun LO hLO=>?_
 obtain ⟨v,h',hc,⟨sv,k1,kr⟩,k2,k3,k4,k5,k6⟩:=jhh hcl (d:=d-1) (L:=h0.nx+2) (c:=h0.nx+1) (b:=b) (t:=t) om
  (fun k h=>(∃ sv,h.get h0.nx=some (.cells [sv] false)/\Row (h0.nx+3) h 2 sv (t.cnts k).length (jaM (t.cnts k)))/\h.get (h0.nx+1)=some (.cells [.p b 0] false)/\h.get (h0.nx+2)=some (LO .ready none)/\h.get b=some t.obj/\h0.nx+3<=h.nx /\ ∀ j,j<h0.nx->h.get j=h0.get j)
  (fun k h hI=>⟨hI.2.1,hI.2.2.2.1⟩)
  (fun k h _ hI hz=>by rw [Tb.cnts,zG hz];exact hI)
  (by
   intro k g hk hk0 hk1 ⟨⟨sv,g1,gr⟩,g2,g3,g4,g5,g6⟩
   have hl:=t.cnts_len k
   refine jai (yl_ hcl om hLO g3 rfl ?_)
   refine qo ?_
   refine zcu rfl rfl ?_
   refine qo ?_
   refine zct rfl rfl rfl rfl (jad _) Zd ?_
   refine qo ?_
   refine Zv ⟨rfl,qgt,?_⟩
   refine qo ?_
   refine zav rfl (l:=[sv]) (ro:=false) qgt rfl ?_
   refine qo ?_
   refine zcw rfl (l:=[.i k,.i (t.pd k)]) (ro:=false) qgt Zd ?_
   refine qo ?_
   refine Ops.push (N:=h0.nx+3) (new:=[.i k,.i (t.pd k)]) (sv:=sv) (n:=(t.cnts k).length) (cs:=jaM (t.cnts k)) rfl rfl rfl rfl om rfl rfl (gr.keep (by simp<;>omega) fun q hq=>?_) (by simp<;>omega) om om fun v' h' q1 q2 q3 q4=>?_
   ·have:=gr.at_ge hq
    exact qgt
   simp only [H.nx_set,H.nx_new] at q2 q3 q4
   have q4' : ∀ j,j<h0.nx+3->h'.get j=_:=fun j hj=>q4 j om fun hv=>by have:=(gr.at_ge hv).1;omega
   refine qo ?_
   refine zcs rfl rfl ?_ (l:=[sv]) (by rw [q4' _ om]<;>exact qgt) zP ?_
   ·rcases q1 with ⟨_,_,rfl⟩ | ⟨_,_,_,rfl,_⟩<;>rfl
   refine qo ?_
   refine Zv ⟨⟨.busy,none,by rw [jaa om,q4' _ om]<;>exact qgt⟩,rfl,?_⟩
   rw [Tb.cnts,zF om]
   refine ⟨⟨v',qgt,?_⟩,?_,qgt,?_,?_,?_⟩
   ·rw [zg,jex]
    refine Row.keep q1 Zd fun q hq=>?_
    have:=q3 q hq
    exact qgt
   ·rw [jaa om,jaa om,q4' _ om]<;>exact qgt
   ·rw [jaa om,jaa om,q4' _ om]<;>exact qgt
   ·simp<;>omega
   ·intro j hj
    have:=g6 j hj
    rw [jaa om,jaa om,q4' _ om]<;>exact qgt)
  (h:=(((h0.new (.cells [.nils] false))).new (.cells [.p b 0] false)).new (LO .ready none))
  (by
   refine ⟨⟨.nils,qgt,Row.nil _ _ _⟩,qgt,qgt,qgt,?_,?_⟩
   ·simp
   ·intro j hj
    exact qgt)
 refine ⟨v,h',hc,.normal,k3,?_⟩
 refine qo ?_
 refine zav rfl (l:=[sv]) (ro:=false) qgt rfl ?_
 have hkill : ∀ j,j≠h0.nx+2->(h'.kill (h0.nx+2)).get j=h'.get j:=fun j hj=>jae hj
 have kr0:Row (h0.nx+3) (h'.kill (h0.nx+2)) 2 sv (t.cnts 32).length (jaM (t.cnts 32)) :=
  kr.keep Zd fun q hq=>hkill q (by have:=kr.at_ge hq;omega)
 have kb:(h'.kill (h0.nx+2)).get b=some t.obj:=by rw [hkill b om,k4]
 have kq:(h'.kill (h0.nx+2)).get h0.nx=some (.cells [sv] false):=by rw [hkill _ om,k1]
 have kj : ∀ j,j<h0.nx->(h'.kill (h0.nx+2)).get j=h0.get j:=fun j hj=>by rw [hkill j om,k6 j hj]
 have knx:h0.nx+3<=(h'.kill (h0.nx+2)).nx:=k5
 show Ops _ _ h'.nx _ _ _ _ (h'.kill (h0.nx+2)) _
 generalize h'.kill (h0.nx+2)=g0 at kr0 kb kq kj knx ⊢
 clear k1 k2 k3 k4 k5 k6 hkill hc kr
 have hlen:=t.cnts_len 32
 obtain ⟨cap,hsv,hix⟩ : ∃ cap:Cap,(∃ a,sv = .slice a (t.cnts 32).length cap) /\ ∀ i,i<(t.cnts 32).length -> ∃ q,h0.nx+3<=q/\q<g0.nx/\sv = .slice (some (q,0)) (t.cnts 32).length cap/\g0.get q=some (.cells (jaM (t.cnts 32)) false):=by
  rcases kr0 with ⟨e1,_,rfl⟩ | ⟨q,e1,e2,rfl,e4,_⟩
  ·exact ⟨.fix 0,⟨none,by rw [e1]⟩,fun i hi=>by omega⟩
  ·exact ⟨.grow 2,⟨_,rfl⟩,fun i _=>⟨q,e1,e2,rfl,e4⟩⟩
 obtain ⟨a,rfl⟩:=hsv
 refine qo ?_
 refine Zx (fun m e h=>∃ i:Nat,m=(t.cnts 32).length-i/\i<=(t.cnts 32).length/\e=[(0,.p b 0),(3,.p h0.nx 0),(14,.slice a (t.cnts 32).length cap),(15,.i (t.cnts 32).length),(16,.i i)] /\
   g0.nx<=h.nx/\h.get b=some (Tb.obj ⟨t.hd,jfk ((t.cnts 32).take i) t.pd⟩) /\ ∀ j,j<g0.nx->j≠b->h.get j=g0.get j)
  (k:=(t.cnts 32).length) Ze ⟨0,rfl,by omega,rfl,zr _,by rw [kb];rfl,fun _ _ _=>rfl⟩ ?_
 rintro _ _ h ⟨i,rfl,hi,rfl,u1,u2,u3⟩ n ih
 repeat' (first|refine qoy ?_|(refine zsp ?_ ?_<;>intro _)|fail)
 ·have hi':i<(t.cnts 32).length:=by omega
  obtain ⟨q,x1,x2,x3,x4⟩:=hix i hi'
  cases x3
  have hp:=za hi'
  generalize (t.cnts 32)[i]=p at hp
  have hmem:=Tb.cnts_mem (zb hp)
  refine Ops.ixaS rfl rfl om ?_
  have xq:h.get q=some (.cells (jaM (t.cnts 32)) false):=by rw [u3 q x2 om,x4]
  refine zcw rfl xq (by rw [jew];omega) ?_
  have htk:List.take 2 (List.drop (0+(i:Int).toNat*2) (jaM (t.cnts 32)))=[.i p.1,.i p.2]:=by
   rw [show 0+(i:Int).toNat*2=i*2 by omega]
   exact jg6 _ _ _ hp
  rw [htk]
  refine zcu rfl rfl ?_
  refine qo ?_
  refine zct rfl rfl rfl rfl (jad _) Zd ?_
  refine qo ?_
  refine zav rfl (l:=[.i p.1,.i p.2]) (ro:=false) qgt rfl ?_
  refine qo ?_
  have ub:h.get b=some (.cells (sgc t.hd (jfk ((t.cnts 32).take i) t.pd)) false):=u2
  refine zcs rfl rfl rfl (l:=sgc t.hd (jfk ((t.cnts 32).take i) t.pd)) qgt (by rw [je1];omega) ?_
  rw [jfZ (k:=p.1) om]
  refine qo ?_
  refine ih ((t.cnts 32).length-(i+1)) om _ _ ⟨i+1,rfl,by omega,rfl,?_,?_,fun j hj hjb=>?_⟩
  ·simp<;>omega
  ·rw [jab]
   have e1:(fun j=>if j=p.1 then (0:Int) else jfk ((t.cnts 32).take i) t.pd j)=jfk ((t.cnts 32).take (i+1)) t.pd:=by
    funext j
    unfold jfk
    rw [List.take_add_one,hp,List.any_append]
    by_cases e2:j=p.1
    ·subst e2;simp
    ·have:(p.1 == j)=false:=by simp;omega
     rw [zF e2]
     simp only [Option.toList,List.any_cons,List.any_nil,this,Bool.or_false]
   rw [e1];rfl
  ·have:=u3 j hj hjb
   exact qgt
 ·have hi':i=(t.cnts 32).length:=by omega
  subst hi'
  refine zav rfl (l:=[.slice a (t.cnts 32).length cap]) (ro:=false) (by rw [u3 _ om om,kq]) rfl ?_
  refine qo ?_
  refine ⟨Row.keep (Row.weaken (N:=h0.nx+3) om kr0) u1 fun q hq=>u3 q (kr0.at_ge hq).2 (by have:=kr0.at_ge hq;omega),?_,by omega,fun j hj hjb=>by rw [u3 j om hjb,kj j hj]⟩
  rw [u2]
  have e1:(Tb.obj ⟨t.hd,jfk ((t.cnts 32).take (t.cnts 32).length) t.pd⟩)=t.take.obj:=by
   have:jfk ((t.cnts 32).take (t.cnts 32).length) t.pd=fun j=>if 1<=j/\j<32 then 0 else t.pd j:=by
    funext j
    unfold jfk
    rw [List.take_length]
    by_cases e2:1<=j/\j<32
    ·rw [zG e2]
     by_cases e3:t.pd j=0
     ·rw [e3];simp
     ·rw [zG]
      rw [List.any_eq_true]
      exact ⟨_,Tb.mem_cnts e2.1 e2.2 e3,by simp⟩
    ·rw [zF e2,zF]
     rw [List.any_eq_true]
     rintro ⟨p,h1,h2⟩
     have:=Tb.cnts_mem h1
     simp at h2
     omega
   rw [this];rfl
  rw [e1]
def Old (h h':H):Prop:=h.nx<=h'.nx /\ ∀ j,j<h.nx->h'.get j=h.get j
theorem Old.refl (h:H):Old h h:=⟨zr _,fun _ _=>rfl⟩
theorem Old.trans {h h1 h2:H} (a:Old h h1) (b:Old h1 h2):Old h h2:=⟨zE a.1 b.1,fun j hj=>by rw [b.2 j (zu hj a.1),a.2 j hj]⟩
theorem Old.ch {h h':H} {B:Nat->Prop} (a:Old h h'):Ch B h h':=⟨a.1,fun j hj _=>a.2 j hj⟩
theorem RW.old {h h':H} {rw q:Nat} {l:List RX} {tl:List V} (w:RW h rw q l tl) (a:Old h h'):RW h' rw q l tl :=
 ⟨zu w.lw a.1,zu w.lq a.1,w.ne,fun hl=>⟨by rw [a.2 _ w.lw,(w.at_ hl).hw],by rw [a.2 _ w.lq,(w.at_ hl).hq],w.ne⟩,fun hl=>by rw [a.2 _ w.lw,w.nil hl],fun s hs=>(w.ok s hs).keep a.ch⟩
noncomputable def jaw (ws:Ws) (n:Nat):List Int:=((List.range n).filter fun i:Nat=>(atS ws (i:Int)).isNone).map fun i:Nat=>(i:Int)
theorem jc3 (ws:Ws) (n:Nat):jaw ws (n+1)=jaw ws n++if (atS ws (n:Int)).isNone then [(n:Int)] else []:=by
 unfold jaw
 rw [List.range_succ,List.filter_append,List.map_append]
 congr 1
 by_cases h:(atS ws (n:Int)).isNone<;>simp [h]
theorem jhB (ws:Ws) (n:Nat):(jaw ws n).length<=n:=by
 unfold jaw
 rw [List.length_map]
 exact zE (List.length_filter_le _ _) Zd
theorem VI.ofRow {h:H} {v:V} {l:List Int} {N:Nat} (r:Row N h 1 v l.length (ints l)):VI h v l /\ ∀ z,v.at?=some z->N<=z/\z<h.nx:=by
 refine ⟨?_,fun z hz=>r.at_ge hz⟩
 rcases r with ⟨h1,h2,rfl⟩ | ⟨b,h1,h2,rfl,h4,h5⟩
 ·have:l=[]:=by simpa using h1
  subst this;exact VI.nil h
 ·exact ⟨_,_,rfl,fun e=>by (cases e),rfl,fun _=>⟨b,0,_,false,rfl,h2,h4,fun i x hi=>by rw [zS,List.getElem?_map,hi];rfl⟩⟩
section
variable {cl:Nat->Call} (hcl:Sem cl)
include hcl
theorem jnB {d rw q:Nat} {h:H} {l:List RX} {tl:List V} (hd:2<=d) (w:RW h rw q l tl) (o:WsOk (l.map RX.x)) :
  ∃ v h',cl d (.fn 59) [.p rw 0] h=some (v,h')/\VI h' v (jaw (l.map RX.x) 96)/\Old h h' /\ ∀ z,v.at?=some z->h.nx<=z/\z<h'.nx:=by
 refine aT hcl ?_
 refine Ga ?_
 refine Zx (fun m e g=>∃ (n:Nat) (v:V),m=96-n/\n<=96/\e=[(0,.p rw 0),(3,v),(4,.i n)]/\Row h.nx g 1 v (jaw (l.map RX.x) n).length (ints (jaw (l.map RX.x) n))/\Old h g)
  (k:=96) Ze ⟨0,.nils,rfl,by omega,rfl,Row.nil _ _ _,Old.refl h⟩ ?_
 rintro _ _ g ⟨n,v,rfl,hn,rfl,row,old⟩ f ih
 have wg:=w.old old
 by_cases hlt:n<=95
 case neg=>
  obtain rfl:n=96:=by omega
  have hlt' : ¬ ((96:Nat):Int)<=95:=by omega
  refine Ga ?_
  obtain ⟨p1,p2⟩:=VI.ofRow row
  exact ⟨p1,old,p2⟩
 have hn1:((n+1:Nat):Int)=(n:Int)+1:=by omega
 rcases jeL hcl (d:=d-1) (fd:=(n:Int)) om wg o with ⟨hno,ea⟩ | ⟨m,k,r,hat,hr,hk,ea⟩
 ·have hs:jaw (l.map RX.x) (n+1)=jaw (l.map RX.x) n++[(n:Int)]:=by rw [jc3,jfN hno];rfl
  refine Ga ?_
  refine Ops.push (N:=h.nx) (new:=[.i (n:Int)]) rfl rfl rfl rfl om rfl rfl row old.1 (by have:=jhB (l.map RX.x) n;omega) (by have:=jhB (l.map RX.x) n;omega) fun v' g' row' hx' hz' hk'=>?_
  refine Ga ?_
  refine ih (96-(n+1)) om _ _ ⟨n+1,v',rfl,by omega,by rw [hn1],?_,zE old.1 hx',fun j hj=>?_⟩
  ·rw [hs,zg]
   simpa [ints] using row'
  ·rw [hk' j (zu hj old.1) (fun e=>by have:=row.at_ge e;omega),old.2 j hj]
 ·have hs:jaw (l.map RX.x) (n+1)=jaw (l.map RX.x) n:=by rw [jc3,jdQ o.uniq hat];simp
  refine Ga ?_
  exact ih (96-(n+1)) om _ _ ⟨n+1,v,rfl,by omega,by rw [hn1],by rw [hs];exact row,old⟩
end
abbrev ZD:=@Old.refl
theorem Wi.take_silent {x:Wi} {k m:Nat} {q:List UInt8} (hk:k=0\/k=1):(x.take k m q).silent k=x.silent k:=by
 rcases hk with rfl | rfl<;>simp [Wi.take,Wi.setq,Wi.came,Wi.put,Wi.e,En.came,Wi.silent]
section
variable {cl:Nat->Call} (hcl:Sem cl)
include hcl
theorem jl1 {d w s wsb wn n wb r0 r1:Nat} {h:H} {wl wsl:List V} {wcap:Cap} {x:Wi} {wv:V} (hd:2<=d) (A:WAt h w wl s wsb wn wcap wsl) (hn:n<wn) (hat:wsl[n]?=some (.p wb 0)) (hx:h.get wb=some (x.obj r0 r1 wv)) (h2:x.e1.what=2) :
  cl d (.fn 116) [.p w 0,.i (n:Int)] h=some (.tup [.p wb 0,.i 0],h):=by
 obtain ⟨hw,hs,hws,hb⟩:=A
 refine jan (aT hcl ?_)
 have hno:=jk8 hcl (d:=d-1) om hw hs
 have f1:wsl[0+(n:Int).toNat*1]?=some (.p wb 0):=by rw [show 0+(n:Int).toNat*1=n by omega];exact hat
 have f2:(x.cells r0 r1 wv)[0+0+(1:Int).toNat*7+0]?=some (.i 2):=by rw [<- h2];exact Wi.what_cell (k:=1) (.inr rfl) rfl
 unfold Wi.obj at hx
 refine Ga ?_
 exact ⟨rfl,rfl⟩
theorem wp_Put {d w s wsb wn n wb r0 r1 b:Nat} {h0:H} {wl wsl:List V} {wcap:Cap} {x:Wi} {wv:V} {q l:List UInt8} {a:Option (Nat × Nat)} {c:Cap} (hd:8<=d) (A:WAt h0 w wl s wsb wn wcap wsl) (hn:n<wn) (hat:wsl[n]?=some (.p wb 0)) (hx:h0.get wb=some (x.obj r0 r1 wv))
  (h2:x.e1.what=2) (hr:x.reset=false) (hs1:x.e1.shut=false) (h3:x.e0.what≠3) (hq:x.e0.ring=some q) (R:ja5 h0 r0 b q x.cap) (l1:wb<h0.nx) (l2:r0<h0.nx) (l3:b<h0.nx) (n1:r0≠b) (n2:wb≠r0) (n3:wb≠b) (hl:BytesAt h0 a c l) (hll:l.length<=1000000000)
  (hne : ∀ z o,a=some (z,o)->l≠[]->z≠b/\z≠r0) :
  ∃ h',cl d (.fn 70) [.p w 0,.i (n:Int),.slice a l.length c] h0=some (.tup [.i ((min l.length (x.cap-q.length):Nat):Int),.i 0],h')/\h'.get wb=some ((x.fill 1 (min l.length (x.cap-q.length)) q l).obj r0 r1 wv) /\
   ja5 h' r0 b (q++l.take (min l.length (x.cap-q.length))) x.cap/\Ch (fun j=>j=wb\/j=r0\/j=b) h0 h':=by
 have ho:=jl1 hcl (d:=d-1) om A hn hat hx h2
 obtain ⟨h1,e1,p1,p2,p3⟩:=jnj hcl (d:=d-1) (k:=1) om hx (.inr rfl) hq R l1 l2 l3 n1 n2 n3 hl hll hne
 have f1:(x.cells r0 r1 wv)[0+14]?=some (.bool false):=by rw [<- hr];exact ZB rfl
 have f2:(x.cells r0 r1 wv)[0+0+(1:Int).toNat*7+4]?=some (.bool false):=by rw [<- hs1];exact Wi.shut_cell (k:=1) (.inr rfl) rfl
 have f3:(x.cells r0 r1 wv)[0+0+(0:Int).toNat*7+0]?=some (.i x.e0.what):=Wi.what_cell (k:=0) (.inl rfl) rfl
 unfold Wi.obj at hx
 refine jai (aT hcl ?_)
 refine Ga ?_
 exact ⟨rfl,p1,p2,p3⟩
theorem wp_Take {d w s wsb wn n wb r0 r1 b:Nat} {h0:H} {wl wsl:List V} {wcap:Cap} {x:Wi} {wv:V} {q:List UInt8} {t:Int} (hd:9<=d) (A:WAt h0 w wl s wsb wn wcap wsl) (hn:n<wn) (hat:wsl[n]?=some (.p wb 0)) (hx:h0.get wb=some (x.obj r0 r1 wv))
  (h2:x.e1.what=2) (hr:x.reset=false) (ht:0<=t) (hq:x.e1.ring=some q) (R:ja5 h0 r1 b q x.cap) (l1:wb<h0.nx) (l2:r1<h0.nx) (l3:b<h0.nx) (n1:r1≠b) (n2:wb≠r1) (n3:wb≠b) :
  ∃ v h',cl d (.fn 72) [.p w 0,.i (n:Int),.i t] h0=some (.tup [v,.i 0],h')/\Row h0.nx h' 1 v (min t q.length).toNat (bts (q.take (min t q.length).toNat))/\((min t q.length).toNat=0->v = .nils)/\h'.get wb=some ((x.take 1 (min t q.length).toNat q).obj r0 r1 wv) /\
   ja5 h' r1 b (q.drop (min t q.length).toNat) x.cap/\Ch (fun j=>j=wb\/j=r1) h0 h':=by
 have ho:=jl1 hcl (d:=d-1) om A hn hat hx h2
 obtain ⟨v,h1,e1,row,hnil,p1,p2,p3⟩:=jnh hcl (d:=d-1) (k:=1) (n:=t) om hx (.inr rfl) hq R l1 l2 l3 n1 n2 n3
 have f1:(x.cells r0 r1 wv)[0+14]?=some (.bool false):=by rw [<- hr];exact ZB rfl
 unfold Wi.obj at hx
 suffices ∃ v2 h',cl d (.fn 72) [.p w 0,.i (n:Int),.i t] h0=some (v2,h')/\v2 = .tup [v,.i 0]/\h'=h1 by
  obtain ⟨v2,h',q1,q2,q3⟩:=this
  subst q2 q3
  exact ⟨v,h',q1,row,hnil,p1,p2,p3⟩
 refine aT hcl ?_
 refine Ga ?_
 exact ⟨rfl,rfl⟩
theorem wp_Read {d w s wsb wn fd n k wb r0 r1 b:Nat} {h0:H} {wl wsl:List V} {wcap:Cap} {x:Wi} {wv:V} {q:List UInt8} {t:Int} (hd:9<=d) (A:WAt h0 w wl s wsb wn wcap wsl) (B:FdAt wl wsl wn fd n k wb) (hx:h0.get wb=some (x.obj r0 r1 wv))
  (hr:x.reset=false) (ht:1<=t) (hq:(x.e k).ring=some q) (R:ja5 h0 (two r0 r1 k) b q x.cap) (lw:w<h0.nx) (lb:wsb<h0.nx) (l1:wb<h0.nx) (l2:two r0 r1 k<h0.nx) (l3:b<h0.nx) (n1:two r0 r1 k≠b) (n2:wb≠two r0 r1 k) (n3:wb≠b) :
  ∃ v h',cl d (.fn 31) [.p w 0,.i (fd:Int),.i t] h0=some (.tup [v,.bool (decide (q=[])&&x.silent k),.i (if q=[]/\x.silent k=false then 113 else 0)],h') /\
   Row h0.nx h' 1 v (min t q.length).toNat (bts (q.take (min t q.length).toNat))/\((min t q.length).toNat=0->v = .nils)/\h'.get wb=some ((x.take k (min t q.length).toNat q).obj r0 r1 wv) /\
   ja5 h' (two r0 r1 k) b (q.drop (min t q.length).toNat) x.cap/\Ch (fun j=>j=wb\/j=two r0 r1 k) h0 h':=by
 obtain ⟨h1,e1,c1,x1⟩:=jk9 hcl (d:=d-1) om A B lw lb
 have hk:=B.k01
 let h2:=(h1.new (.cells [.bool false,.i 0,.i 0] false)).set h1.nx (.cells [.bool true,.i (n:Int),.i (k:Int)] false)
 have g2 : ∀ j,j<h0.nx->h2.get j=h0.get j:=fun j hj=>by
  show (H.set _ _ _).get j=_
  rw [jaa om,jac om,c1.get j hj id]
 have y2:h2.nx=h0.nx+2:=by show h1.nx+1=_;omega
 have hx2:h2.get wb=some (x.obj r0 r1 wv):=by rw [g2 wb l1,hx]
 have R2:=R.keep (g2 _ l2) (g2 _ l3)
 obtain ⟨v,h3,e3,row,hnil,p1,p2,p3⟩:=jnh hcl (d:=d-1) (k:=k) (n:=t) om hx2 hk hq R2 om om om n1 n2 n3
 have hsil:=jj2 hcl (d:=d-1) om p1 hk
 rw [Wi.take_silent hk] at hsil
 have f1:(x.cells r0 r1 wv)[0+14]?=some (.bool false):=by rw [<- hr];exact ZB rfl
 have f2:=Wi.ring_cell (x:=x) (r0:=r0) (r1:=r1) (wv:=wv) hk hq (o:=0+0+(k:Int).toNat*7+2) om
 have hp3:h3.get h1.nx=some (.cells [.bool true,.i (n:Int),.i (k:Int)] false):=by
  rw [p3.get h1.nx om om];exact jab _
 have fin:Row h0.nx h3 1 v (min t q.length).toNat (bts (q.take (min t q.length).toNat))/\((min t q.length).toNat=0->v = .nils)/\h3.get wb=some ((x.take k (min t q.length).toNat q).obj r0 r1 wv) /\
   ja5 h3 (two r0 r1 k) b (q.drop (min t q.length).toNat) x.cap/\Ch (fun j=>j=wb\/j=two r0 r1 k) h0 h3 :=
  ⟨row.weaken om,hnil,p1,p2,by have:=p3.nx;omega,fun j hj hn=>by rw [p3.get j om hn,g2 j hj]⟩
 suffices ∃ v2 h',cl d (.fn 31) [.p w 0,.i (fd:Int),.i t] h0=some (v2,h')/\v2 = .tup [v,.bool (decide (q=[])&&x.silent k),.i (if q=[]/\x.silent k=false then 113 else 0)]/\h'=h3 by
  obtain ⟨v2,h',q1,q2,q3⟩:=this
  subst q2 q3
  exact ⟨v,h',q1,fin⟩
 clear fin p2
 obtain ⟨c,⟨a,rfl⟩,hrow⟩:=row.shape
 unfold Wi.obj at hx2
 have hq0:q=[]↔(min t (q.length:Int)).toNat=0:=by
  rw [<- zp];omega
 refine aT hcl ?_
 refine qo ?_
 refine zaw rfl e1 ?_
 refine qo ?_
 refine zcu rfl rfl ?_
 refine Ga ?_
 refine zct rfl rfl rfl rfl (jad _) (zw rfl) ?_
 have gp:h2.get h1.nx=some (.cells [.bool true,.i (n:Int),.i (k:Int)] false):=jab _
 rw [show ((h1.new (.cells [.bool false,.i 0,.i 0] false)).set h1.nx (.cells (jat [.bool false,.i 0,.i 0] 0 [.bool true,.i (n:Int),.i (k:Int)]) false))=h2 from rfl]
 clear_value h2
 by_cases hq1:q=[]
 ·have hm:(min t (q.length:Int)).toNat=0:=hq0.1 hq1
  have hv:=hnil hm
  rw [hm] at e3 hv
  rw [hm,hv]
  cases hsl:x.silent k
  ·rw [hsl] at hsil
   refine Ga ?_
   exact ⟨by simp [hq1,hsl],rfl⟩
  ·rw [hsl] at hsil
   refine Ga ?_
   exact ⟨by simp [hq1,hsl],rfl⟩
 ·have hm : ¬ (min t (q.length:Int)).toNat=0:=fun e=>hq1 (hq0.2 e)
  refine Ga ?_
  exact ⟨by simp [hq1],rfl⟩
end
theorem Wi.came_ff (x:Wi) (k:Nat):x.came k false false=x:=by
 match k with
 | 0=>simp [Wi.came,Wi.put,Wi.e,En.came]
 | n+1=>simp [Wi.came,Wi.put,Wi.e,En.came]
theorem Wi.fill_zero {x:Wi} {r0 r1 k:Nat} {wv:V} {q l:List UInt8} (hk:k=0\/k=1) (hq:(x.e (1-k)).ring=some q):(x.fill k 0 q l).obj r0 r1 wv=x.obj r0 r1 wv:=by
 unfold Wi.fill Wi.obj
 rw [show decide (0<0)=false from rfl,Wi.came_ff,Wi.setq_cells om hq]
section
variable {cl:Nat->Call} (hcl:Sem cl)
include hcl
theorem wp_Write {d w s wsb wn fd n k wb r0 r1 b:Nat} {h0:H} {wl wsl:List V} {wcap:Cap} {x:Wi} {wv:V} {q l:List UInt8} {a:Option (Nat × Nat)} {c:Cap} (hd:9<=d) (A:WAt h0 w wl s wsb wn wcap wsl) (B:FdAt wl wsl wn fd n k wb) (hx:h0.get wb=some (x.obj r0 r1 wv))
  (hwr:(x.e k).writes=true) (hr:x.reset=false) (hsh:(x.e k).shut=false) (h3:(x.e (1-k)).what≠3) (hq:(x.e (1-k)).ring=some q) (R:ja5 h0 (two r0 r1 (1-k)) b q x.cap) (lw:w<h0.nx) (lb:wsb<h0.nx) (l1:wb<h0.nx) (l2:two r0 r1 (1-k)<h0.nx) (l3:b<h0.nx)
  (n1:two r0 r1 (1-k)≠b) (n2:wb≠two r0 r1 (1-k)) (n3:wb≠b) (hl:BytesAt h0 a c l) (hll:l.length<=1000000000) (hne : ∀ z o,a=some (z,o)->l≠[]->z≠b/\z≠two r0 r1 (1-k)) :
  ∃ h',cl d (.fn 33) [.p w 0,.i (fd:Int),.slice a l.length c] h0=some (.tup [.i ((min l.length (x.cap-q.length):Nat):Int),.i (if min l.length (x.cap-q.length)=0/\l≠[] then 113 else 0)],h') /\
   h'.get wb=some ((x.fill k (min l.length (x.cap-q.length)) q l).obj r0 r1 wv)/\ja5 h' (two r0 r1 (1-k)) b (q++l.take (min l.length (x.cap-q.length))) x.cap/\Ch (fun j=>j=wb\/j=two r0 r1 (1-k)\/j=b) h0 h':=by
 obtain ⟨h1,e1,c1,x1⟩:=jk9 hcl (d:=d-1) om A B lw lb
 have hk:=B.k01
 let h2:=(h1.new (.cells [.bool false,.i 0,.i 0] false)).set h1.nx (.cells [.bool true,.i (n:Int),.i (k:Int)] false)
 have g2 : ∀ j,j<h0.nx->h2.get j=h0.get j:=fun j hj=>by
  show (H.set _ _ _).get j=_
  rw [jaa om,jac om,c1.get j hj id]
 have y2:h2.nx=h0.nx+2:=by show h1.nx+1=_;omega
 have hx2:h2.get wb=some (x.obj r0 r1 wv):=by rw [g2 wb l1,hx]
 have R2:=R.keep (g2 _ l2) (g2 _ l3)
 have hl2:BytesAt h2 a c l:=⟨hl.none_,hl.fits,fun hn=>by
  obtain ⟨z,o,cs,ro,q1,q2,q3,q4⟩:=hl.at_ hn
  exact ⟨z,o,cs,ro,q1,by omega,by rw [g2 z q2,q3],q4⟩⟩
 obtain ⟨h3',e3,p1,p2,p3⟩:=jnj hcl (d:=d-1) (k:=k) om hx2 hk hq R2 om om om n1 n2 n3 hl2 hll hne
 have f1:(x.cells r0 r1 wv)[0+14]?=some (.bool false):=by rw [<- hr];exact ZB rfl
 have f2:(x.cells r0 r1 wv)[0+0+(k:Int).toNat*7+3]?=some (.bool true):=by rw [<- hwr];exact Wi.writes_cell hk om
 have f3:(x.cells r0 r1 wv)[0+0+(k:Int).toNat*7+4]?=some (.bool false):=by rw [<- hsh];exact Wi.shut_cell hk om
 have f4:(x.cells r0 r1 wv)[0+0+((1:Int)-(k:Int)).toNat*7+0]?=some (.i (x.e (1-k)).what):=Wi.what_cell om om
 have gp:h2.get h1.nx=some (.cells [.bool true,.i (n:Int),.i (k:Int)] false):=jab _
 have hp3:h3'.get h1.nx=some (.cells [.bool true,.i (n:Int),.i (k:Int)] false):=by
  rw [p3.get h1.nx om (by
   rintro (e | e | e)<;>omega)];exact gp
 generalize hm:min l.length (x.cap-q.length)=m at e3 p1 p2 ⊢
 unfold Wi.obj at hx2
 refine jai (aT hcl ?_)
 refine qo ?_
 refine zaw rfl e1 ?_
 refine qo ?_
 refine zcu rfl rfl ?_
 refine Ga ?_
 refine zct rfl rfl rfl rfl (jad _) (zw rfl) ?_
 rw [show ((h1.new (.cells [.bool false,.i 0,.i 0] false)).set h1.nx (.cells (jat [.bool false,.i 0,.i 0] 0 [.bool true,.i (n:Int),.i (k:Int)]) false))=h2 from rfl]
 clear_value h2
 by_cases hl0:l=[]
 ·have hm0:m=0:=by rw [<- hm,hl0];simp
  have hlen0:(l.length:Int)=0:=by rw [hl0];rfl
  refine Ga ?_
  refine ⟨by simp [hm0,hl0],?_,?_,by omega,fun j hj _=>g2 j hj⟩
  ·rw [hm0,Wi.fill_zero hk hq,Wi.obj,hx2]
  ·rw [hm0];simpa using R2
 ·have hlen0 : ¬ (l.length:Int)=0:=by
   have:l.length≠0:=fun e=>hl0 (zp.1 e)
   omega
  have fin:h3'.get wb=some ((x.fill k m q l).obj r0 r1 wv)/\ja5 h3' (two r0 r1 (1-k)) b (q++l.take m) x.cap/\Ch (fun j=>j=wb\/j=two r0 r1 (1-k)\/j=b) h0 h3' :=
   ⟨p1,p2,by have:=p3.nx;omega,fun j hj hn=>by rw [p3.get j om hn,g2 j hj]⟩
  by_cases hm0:m=0
  ·refine Ga ?_
   exact ⟨by simp [hm0,hl0],fin⟩
  ·refine Ga ?_
   exact ⟨by simp [hm0],fin⟩
end
def pc:Option (Nat × Nat)->Nat->V
 | none,0=>.bool false
 | none,_=>.i 0
 | some _,0=>.bool true
 | some p,1=>.i (p.1:Int)
 | some p,_=>.i (p.2:Int)
def plc (p:Option (Nat × Nat)):List V:=[pc p 0,pc p 1,pc p 2]
def jeb (f:Nat->Option (Nat × Nat)):List V:=tab 288 fun j=>pc (f (j/3)) (j%3)
theorem jaB (f:Nat->Option (Nat × Nat)):(jeb f).length=288:=by simp [jeb]
theorem jfG {f:Nat->Option (Nat × Nat)} {i j o:Nat} (hi:i<96) (hj:j<3) (ho:o=i*3+j):(jeb f)[o]?=some (pc (f i) j):=by
 subst ho
 unfold jeb
 rw [jcy om,show (i*3+j)/3=i by omega,show (i*3+j)%3=j by omega]
theorem fdTab_set {f g:Nat->Option (Nat × Nat)} {i o:Nat} {p:Option (Nat × Nat)} (hi:i<96) (ho:o=i*3) (hg : ∀ j,j<96->g j=if j=i then p else f j):jat (jeb f) o (plc p)=jeb g:=by
 subst ho
 show (((jeb f).set (i*3) (pc p 0)).set (i*3+1) (pc p 1)).set (i*3+1+1) (pc p 2)=_
 unfold jeb
 rw [jef,jef,jef]
 refine jc9 fun j hj=>?_
 rw [hg (j/3) om]
 by_cases h2:j=i*3+1+1
 ·subst h2
  rw [zG rfl,zG om,show (i*3+1+1)%3=2 by omega]
 rw [zF h2]
 by_cases h1:j=i*3+1
 ·subst h1
  rw [zG rfl,zG om,show (i*3+1)%3=1 by omega]
 rw [zF h1]
 by_cases h0:j=i*3
 ·subst h0
  rw [zG rfl,zG om,show (i*3)%3=0 by omega]
 rw [zF h0,zF om]
theorem jll {f g:Nat->Option (Nat × Nat)} (h : ∀ j,j<96->f j=g j):jeb f=jeb g:=jc9 fun j hj=>by rw [h (j/3) om]
def wc (f:Nat->Option (Nat × Nat)) (wv:V) (s:Nat) (now:Int) (no:Option (Nat × Nat)):List V:=jeb f++([wv,.p s 0,.int .u64 now]++plc no)
section
variable {f:Nat->Option (Nat × Nat)} {wv:V} {s o:Nat} {now:Int} {no:Option (Nat × Nat)}
theorem jb3:(wc f wv s now no).length=294:=by simp [wc,jaB,plc]
theorem jpe {i j:Nat} (hi:i<96) (hj:j<3) (ho:o=i*3+j):(wc f wv s now no)[o]?=some (pc (f i) j):=by
 unfold wc
 rw [ze,zG (by rw [jaB];omega),jfG hi hj ho]
theorem jos {j:Nat} (ho:o=288+j):(wc f wv s now no)[o]?=([wv,.p s 0,.int .u64 now]++plc no)[j]?:=by
 subst ho
 unfold wc
 rw [ze,zF (by rw [jaB];omega),jaB,Zp]
theorem jbe (ho:o=288):(wc f wv s now no)[o]?=some wv:=jos (j:=0) ho
theorem jfX (ho:o=289):(wc f wv s now no)[o]?=some (.p s 0):=jos (j:=1) ho
theorem wc_now (ho:o=290):(wc f wv s now no)[o]?=some (.int .u64 now):=jos (j:=2) ho
theorem jot {j:Nat} (hj:j<3) (ho:o=291+j):(wc f wv s now no)[o]?=some (pc no j):=by
 rw [jos (j:=3+j) om]
 rcases (by omega:j=0\/j=1\/j=2) with rfl | rfl | rfl<;>rfl
theorem jo2 {o:Nat} {j:Nat} {v:V} (ho:o=288+j):(wc f wv s now no).set o v=jeb f++(([wv,.p s 0,.int .u64 now]++plc no).set j v):=by
 subst ho
 unfold wc
 rw [zX,zF (by rw [jaB];omega),jaB,Zp]
theorem jee {v:V} (ho:o=288):(wc f wv s now no).set o v=wc f v s now no:=by rw [jo2 (j:=0) ho];rfl
theorem jml {n:Int} (ho:o=290):(wc f wv s now no).set o (.int .u64 n)=wc f wv s n no:=by rw [jo2 (j:=2) ho];rfl
theorem jgH {a b vs:List V} {o:Nat} (h:o+vs.length<=a.length):jat (a++b) o vs=jat a o vs++b:=by
 induction vs generalizing a o with
 | nil=>rfl
 | cons v r ih=>
  have h':o+(r.length+1)<=a.length:=h
  rw [jdF,jdF,zX,zG om,ih Zc]
theorem jgI {a b vs:List V} {o:Nat} (h:a.length<=o):jat (a++b) o vs=a++jat b (o-a.length) vs:=by
 induction vs generalizing b o with
 | nil=>rfl
 | cons v r ih=>
  rw [jdF,jdF,zX,zF om,ih om,show o+1-a.length=o-a.length+1 by omega]
theorem jfq {g:Nat->Option (Nat × Nat)} {i:Nat} {p:Option (Nat × Nat)} (hi:i<96) (ho:o=i*3) (hg : ∀ j,j<96->g j=if j=i then p else f j):jat (wc f wv s now no) o (plc p)=wc g wv s now no:=by
 unfold wc
 rw [jgH (by rw [jaB];show o+3<=_;omega),fdTab_set hi ho hg]
theorem wc_set_no {p:Option (Nat × Nat)} (ho:o=291):jat (wc f wv s now no) o (plc p)=wc f wv s now p:=by
 subst ho
 unfold wc
 rw [jgI (by rw [jaB];omega),jaB]
 rfl
end
structure WX where
 x:Wi
 wb:Nat
 r0:Nat
 b0:Nat
 r1:Nat
 b1:Nat
 wv:V
def WX.r (t:WX):Nat->Nat:=two t.r0 t.r1
def WX.b (t:WX):Nat->Nat:=two t.b0 t.b1
theorem VI.keep2 {h h':H} {v:V} {l:List Int} (a:VI h v l) (hx:h.nx<=h'.nx) (hk:l≠[] -> ∀ z,v.at?=some z->h'.get z=h.get z):VI h' v l:=by
 obtain ⟨a,c,rfl,n,f,g⟩:=a
 refine ⟨a,c,rfl,n,f,fun hl=>?_⟩
 obtain ⟨b,o,cs,ro,rfl,h1,h2,h3⟩:=g hl
 exact ⟨b,o,cs,ro,rfl,by omega,by rw [hk hl b rfl,h2],h3⟩
structure XOk (h:H) (ow:Nat->Nat) (n:Nat) (t:WX):Prop where
 hx:h.get t.wb=some (t.x.obj t.r0 t.r1 t.wv)
 ox:ow t.wb=10*n+10
 lx:t.wb<h.nx
 ring : ∀ k,k=0\/k=1 -> ∀ q,(t.x.e k).ring=some q->ja5 h (t.r k) (t.b k) q t.x.cap/\ow (t.r k)=10*n+11+2*k/\ow (t.b k)=10*n+12+2*k/\t.r k<h.nx/\t.b k<h.nx
 wait:VI h t.wv t.x.waiting/\(t.x.waiting≠[] -> ∀ z,t.wv.at?=some z->ow z=10*n+15/\z<h.nx)
theorem XOk.keep {h h':H} {ow:Nat->Nat} {n:Nat} {t:WX} (a:XOk h ow n t) (hx:h.nx<=h'.nx) (hk : ∀ j,10*n+10<=ow j->ow j<=10*n+19->h'.get j=h.get j):XOk h' ow n t:=by
 refine ⟨by rw [hk _ (by rw [a.ox];omega) (by rw [a.ox];omega),a.hx],a.ox,zu a.lx hx,fun k h01 q hq=>?_,?_⟩
 ·obtain ⟨p1,p2,p3,p4,p5⟩:=a.ring k h01 q hq
  refine ⟨p1.keep (hk _ ?_ ?_) (hk _ ?_ ?_),p2,p3,zu p4 hx,zu p5 hx⟩<;>omega
 ·refine ⟨a.wait.1.keep2 hx fun hl z hz=>?_,fun hl z hz=>⟨(a.wait.2 hl z hz).1,zu (a.wait.2 hl z hz).2 hx⟩⟩
  have:=(a.wait.2 hl z hz).1
  exact hk z om om
theorem XOk.tag {h:H} {ow ow':Nat->Nat} {n:Nat} {t:WX} (a:XOk h ow n t) (hk : ∀ j,j<h.nx->ow' j=ow j):XOk h ow' n t:=by
 refine ⟨a.hx,by rw [hk _ a.lx,a.ox],a.lx,fun k h01 q hq=>?_,a.wait.1,fun hl z hz=>?_⟩
 ·obtain ⟨p1,p2,p3,p4,p5⟩:=a.ring k h01 q hq
  exact ⟨p1,by rw [hk _ p4,p2],by rw [hk _ p5,p3],p4,p5⟩
 ·obtain ⟨p1,p2⟩:=a.wait.2 hl z hz
  exact ⟨by rw [hk _ p2,p1],p2⟩
abbrev wxs (l:List WX):Ws:=l.map WX.x
abbrev wps (l:List WX):List V:=l.map fun t=>.p t.wb 0
structure WF (h:H) (w s:Nat) (ow:Nat->Nat) (f:Nat->Option (Nat × Nat)) (l:List WX) (now:Int) (t:Tb) (no:Option (Nat × Nat)):Prop where
 hw : ∃ wv,h.get w=some (.cells (wc f wv s now no) false)/\Row 0 h 1 wv l.length (wps l) /\ ∀ z,wv.at?=some z->ow z=2
 hs:h.get s=some t.obj
 tw:ow w=1
 ts:ow s=3
 lw:w<h.nx
 ls:s<h.nx
 top : ∀ j,h.nx<=j->ow j=0
 ok : ∀ n t,l[n]?=some t->XOk h ow n t
section
variable {h h':H} {w s:Nat} {ow:Nat->Nat} {f:Nat->Option (Nat × Nat)} {l:List WX} {now:Int} {t tb:Tb} {no:Option (Nat × Nat)}
theorem WF.keep (a:WF h w s ow f l now t no) (hx:h.nx<=h'.nx) (hk : ∀ j,ow j≠0->h'.get j=h.get j):WF h' w s ow f l now t no:=by
 obtain ⟨wv,p1,p2,p3⟩:=a.hw
 exact ⟨⟨wv,by rw [hk w (by rw [a.tw];omega),p1],p2.keep hx fun z hz=>hk z (by rw [p3 z hz];omega),p3⟩,by rw [hk s (by rw [a.ts];omega),a.hs],a.tw,a.ts,zu a.lw hx,zu a.ls hx,
  fun j hj=>a.top j (zE hx hj),fun n t ht=>(a.ok n t ht).keep hx fun j h1 _=>hk j om⟩
theorem WF.lt_of (a:WF h w s ow f l now t no) {j:Nat} (hj:ow j≠0):j<h.nx:=by
 rcases zA j h.nx with h1 | h1
 ·exact h1
 ·exact zM (a.top j h1) hj
theorem WF.old (a:WF h w s ow f l now t no) (o:Old h h'):WF h' w s ow f l now t no:=a.keep o.1 fun j hj=>o.2 j (a.lt_of hj)
theorem WF.congr {g:Nat->Option (Nat × Nat)} (a:WF h w s ow f l now t no) (e : ∀ j,j<96->g j=f j):WF h w s ow g l now t no:=by
 obtain ⟨wv,p1,p2,p3⟩:=a.hw
 refine ⟨⟨wv,?_,p2,p3⟩,a.hs,a.tw,a.ts,a.lw,a.ls,a.top,a.ok⟩
 rw [p1];unfold wc;rw [jll e]
theorem WF.head (a:WF h w s ow f l now t no) : ∃ sa c,h.get w=some (.cells (wc f (.slice sa l.length c) s now no) false)/\(l≠[] -> ∃ z,sa=some (z,0)/\z<h.nx/\ow z=2/\h.get z=some (.cells (wps l) false)):=by
 obtain ⟨wv,p1,p2,p3⟩:=a.hw
 rcases p2 with ⟨h1,h2,rfl⟩ | ⟨z,h1,h2,rfl,h4,h5⟩
 ·refine ⟨none,.fix 0,by rw [p1,h1],fun hl=>zM (zp.1 h1) hl⟩
 ·exact ⟨_,_,p1,fun _=>⟨z,rfl,h2,p3 z rfl,h4⟩⟩
end
theorem jam {l:List WX} {n:Nat} {t:WX} (h:l[n]?=some t):(wxs l)[n]?=some t.x:=by simp [h]
theorem jjg {l:List WX} {n:Nat} {x:Wi} (h:(wxs l)[n]?=some x) : ∃ t,l[n]?=some t/\t.x=x:=by
 rw [List.getElem?_map] at h
 cases hr:l[n]? with
 | none=>rw [hr] at h;cases h
 | some r=>rw [hr] at h;cases h;exact ⟨r,rfl,rfl⟩
theorem x_lt {l:List WX} {n:Nat} {t:WX} (hr:l[n]?=some t):n<l.length:=by
 rcases zA n l.length with h | h
 ·exact h
 ·rw [zc h] at hr;cases hr
theorem set_wps {l:List WX} {n:Nat} {t t':WX} (ht:l[n]?=some t) (hb:t'.wb=t.wb):wps (l.set n t')=wps l:=by
 apply zW
 intro i
 rw [List.getElem?_map,List.getElem?_map,zi]
 by_cases e:n=i
 ·subst e;rw [zG rfl,zG (x_lt ht),ht];simp [hb]
 ·rw [zF e]
theorem jbg {l:List WX} {n:Nat} {t:WX} : wxs (l.set n t)=(wxs l).set n t.x:=List.map_set
section
variable {h h':H} {w s:Nat} {ow:Nat->Nat} {f:Nat->Option (Nat × Nat)} {l:List WX} {now:Int} {tb:Tb} {no:Option (Nat × Nat)}
theorem WF.turn (a:WF h w s ow f l now tb no) {n:Nat} {t t':WX} (ht:l[n]?=some t) (hx:h.nx<=h'.nx) (hk : ∀ j,ow j≠0 -> ¬ (10*n+10<=ow j/\ow j<=10*n+19)->h'.get j=h.get j) (ok:XOk h' ow n t') (hb:t'.wb=t.wb):WF h' w s ow f (l.set n t') now tb no:=by
 obtain ⟨wv,p1,p2,p3⟩:=a.hw
 refine ⟨⟨wv,by rw [hk w (by rw [a.tw];omega) (by rw [a.tw];omega),p1],?_,p3⟩,by rw [hk s (by rw [a.ts];omega) (by rw [a.ts];omega),a.hs],a.tw,a.ts,zu a.lw hx,zu a.ls hx,fun j hj=>a.top j (zE hx hj),fun m t2 ht2=>?_⟩
 ·rw [List.length_set,set_wps ht hb]
  exact p2.keep hx fun z hz=>hk z (by rw [p3 z hz];omega) (by rw [p3 z hz];omega)
 ·rw [zi] at ht2
  by_cases e:n=m
  ·subst e
   rw [zG rfl,zG (x_lt ht)] at ht2
   cases ht2
   exact ok
  ·rw [zF e] at ht2
   exact (a.ok m t2 ht2).keep hx fun j h1 h2=>hk j om om
theorem WF.step (a:WF h w s ow f l now tb no) {n:Nat} {t:WX} {x':Wi} {B:Nat->Prop} (ht:l[n]?=some t) (ch:Ch B h h') (hB : ∀ j,j<h.nx->B j->10*n+10<=ow j/\ow j<=10*n+14) (ho:h'.get t.wb=some (x'.obj t.r0 t.r1 t.wv)) (hwt:x'.waiting=t.x.waiting)
  (hr : ∀ k,k=0\/k=1 -> ∀ q',(x'.e k).ring=some q' -> ∃ q,(t.x.e k).ring=some q/\ja5 h' (t.r k) (t.b k) q' x'.cap):WF h' w s ow f (l.set n { t with x:=x' }) now tb no:=by
 have k:=a.ok n t ht
 have hg : ∀ j,ow j≠0 -> ¬ (10*n+10<=ow j/\ow j<=10*n+14)->h'.get j=h.get j:=fun j hj hn=>ch.get j (a.lt_of hj) fun hb=>hn (hB j (a.lt_of hj) hb)
 refine a.turn ht ch.nx (fun j hj hn=>hg j hj fun ⟨e1,e2⟩=>hn ⟨e1,by omega⟩) ⟨ho,k.ox,zu k.lx ch.nx,fun i hi q' hq'=>?_,?_⟩ rfl
 ·obtain ⟨q,e1,e2⟩:=hr i hi q' hq'
  obtain ⟨_,p2,p3,p4,p5⟩:=k.ring i hi q e1
  exact ⟨e2,p2,p3,zu p4 ch.nx,zu p5 ch.nx⟩
 ·show VI h' t.wv x'.waiting/\(x'.waiting≠[]->_)
  rw [hwt]
  refine ⟨k.wait.1.keep2 ch.nx fun hl z hz=>?_,fun hl z hz=>⟨(k.wait.2 hl z hz).1,zu (k.wait.2 hl z hz).2 ch.nx⟩⟩
  have:=(k.wait.2 hl z hz).1
  exact hg z om om
theorem WF.upd (a:WF h w s ow f l now tb no) {n:Nat} {t:WX} {x':Wi} (ht:l[n]?=some t) (u:Upd t.wb (x'.obj t.r0 t.r1 t.wv) h h') (hwt:x'.waiting=t.x.waiting) (hc:x'.cap=t.x.cap) (hr : ∀ k,k=0\/k=1->(x'.e k).ring=(t.x.e k).ring):WF h' w s ow f (l.set n { t with x:=x' }) now tb no:=by
 have k:=a.ok n t ht
 refine a.step ht (u.ch (B:=fun j=>j=t.wb) rfl) (fun j _ e=>by rw [e,k.ox];omega) u.self hwt fun i hi q' hq'=>?_
 rw [hr i hi] at hq'
 obtain ⟨p1,p2,p3,p4,p5⟩:=k.ring i hi q' hq'
 have k2:=k.ox
 refine ⟨q',hq',?_⟩
 rw [hc]
 refine p1.keep (u.get _ fun e=>?_) (u.get _ fun e=>?_)
 ·rw [e] at p2;omega
 ·rw [e] at p3;omega
end
structure WW (h:H) (w s:Nat) (ow:Nat->Nat) (l:List WX) (now:Int) (t:Tb) (no:Option (Nat × Nat)):Prop where
 wf:WF h w s ow (fun i=>atS (wxs l) (i:Int)) l now t no
 fds : ∀ n k fd,AtW (wxs l) n k fd->0<=fd/\fd<=95
def Wi.SameFd (x y:Wi):Prop := ∀ k,k=0\/k=1->((y.e k).what=1↔(x.e k).what=1)/\((x.e k).what=1->(y.e k).fd=(x.e k).fd)
theorem Wi.SameFd.refl (x:Wi):x.SameFd x:=fun _ _=>⟨Iff.rfl,fun _=>rfl⟩
theorem Wi.SameFd.trans {x y z:Wi} (a:x.SameFd y) (b:y.SameFd z):x.SameFd z:=fun k hk=>⟨(b k hk).1.trans (a k hk).1,fun h=>by rw [(b k hk).2 ((a k hk).1.2 h),(a k hk).2 h]⟩
theorem jj0 {ws:Ws} {n:Nat} {x y:Wi} (hx:ws[n]?=some x) (hs:x.SameFd y) (m k:Nat) (fd:Int):AtW (ws.set n y) m k fd↔AtW ws m k fd:=by
 unfold AtW
 rw [zi]
 by_cases e:n=m
 ·subst e
  have hlt:n<ws.length:=by
   rcases zA n ws.length with h | h
   ·exact h
   ·rw [zc h] at hx;cases hx
  rw [zG rfl,zG hlt,hx]
  constructor
  ·rintro ⟨_,e0,hk,h1,h2⟩;cases e0;exact ⟨x,rfl,hk,(hs k hk).1.1 h1,by rw [<- (hs k hk).2 ((hs k hk).1.1 h1),h2]⟩
  ·rintro ⟨_,e0,hk,h1,h2⟩;cases e0;exact ⟨y,rfl,hk,(hs k hk).1.2 h1,by rw [(hs k hk).2 h1,h2]⟩
 ·rw [zF e]
theorem jk4 {ws ws':Ws} (h : ∀ n k fd,AtW ws' n k fd↔AtW ws n k fd) (fd:Int):atS ws' fd=atS ws fd:=by
 have e:AtW ws'=AtW ws:=by funext n k fd;exact propext (h n k fd)
 unfold atS
 rw [e]
section
variable {h h':H} {w s:Nat} {ow:Nat->Nat} {l:List WX} {now:Int} {t:Tb} {no:Option (Nat × Nat)}
theorem WW.old (a:WW h w s ow l now t no) (o:Old h h'):WW h' w s ow l now t no:=⟨a.wf.old o,a.fds⟩
theorem WF.same {n:Nat} {x:Wi} {y:WX} (a:WF h' w s ow (fun i=>atS (wxs l) (i:Int)) (l.set n y) now t no) (fds : ∀ n k fd,AtW (wxs l) n k fd->0<=fd/\fd<=95) (hx:(wxs l)[n]?=some x) (hs:x.SameFd y.x):WW h' w s ow (l.set n y) now t no:=by
 have hat:=jj0 hx hs
 refine ⟨a.congr fun j _=>by rw [jbg,jk4 hat],fun m k fd hm=>fds m k fd ?_⟩
 rw [jbg] at hm
 exact (hat m k fd).1 hm
end
def WSt (h:H) (w s:Nat) (ow:Nat->Nat) (ws:Ws) (now:Int) (t:Tb) (no:Option (Nat × Nat)):Prop := ∃ l,WW h w s ow l now t no/\wxs l=ws
structure To (h h':H) (ow ow':Nat->Nat):Prop where
 ch:Ch (fun j=>ow j≠0) h h'
 tag : ∀ j,j<h.nx->ow' j=ow j
theorem To.refl (h:H) (ow:Nat->Nat):To h h ow ow:=⟨Zy _ _,fun _ _=>rfl⟩
theorem To.trans {h h1 h2:H} {a b c:Nat->Nat} (x:To h h1 a b) (y:To h1 h2 b c):To h h2 a c :=
 ⟨x.ch.trans_new y.ch fun j hj hb=>by rw [x.tag j hj] at hb;exact hb,fun j hj=>by rw [y.tag j (zu hj x.ch.nx),x.tag j hj]⟩
theorem To.old {h h1 h2:H} {a b:Nat->Nat} (x:Old h h1) (y:To h1 h2 a b):To h h2 a b:=To.trans ⟨x.ch,fun _ _=>rfl⟩ y
theorem To.of_old {h h1:H} {a:Nat->Nat} (x:Old h h1):To h h1 a a:=⟨x.ch,fun _ _=>rfl⟩
theorem WSt.old {h h':H} {w s:Nat} {ow:Nat->Nat} {ws:Ws} {now:Int} {t:Tb} {no:Option (Nat × Nat)} (a:WSt h w s ow ws now t no) (o:Old h h'):WSt h' w s ow ws now t no:=by
 obtain ⟨l,a,e⟩:=a;exact ⟨l,a.old o,e⟩
abbrev ZE:=@To.of_old
end Am.Sigs
