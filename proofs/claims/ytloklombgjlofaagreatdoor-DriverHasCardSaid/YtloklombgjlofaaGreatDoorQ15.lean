/- Our own library, part 15. -/
import Derived.Test.YtloklombgjlofaaGreatDoorQ14
import Derived.Test.YtloklombgjlofaaGreatDoorQ09
set_option maxHeartbeats 8000000
set_option maxRecDepth 800
set_option linter.all false
namespace Am.Sigs
open Am Go
def WsOne (ws:Ws):Prop := ∀ (i j:Nat) (x y:Wi) (p q:Nat) (m:Int),ws[i]?=some x->ws[j]?=some y->x.waiting[p]?=some m->y.waiting[q]?=some m->i=j/\p=q
structure WsK (ws:Ws):Prop where
 ok:WsOk ws
 one:WsOne ws
def Wi.SubFd (x y:Wi):Prop := ∀ k,k=0\/k=1->(y.e k).what=1->(x.e k).what=1/\(y.e k).fd=(x.e k).fd
theorem Wi.SubFd.refl (x:Wi):x.SubFd x:=fun _ _ h=>⟨h,rfl⟩
theorem Wi.SubFd.trans {x y z:Wi} (a:x.SubFd y) (b:y.SubFd z):x.SubFd z:=fun k hk h=>⟨(a k hk (b k hk h).1).1,by rw [(b k hk h).2,(a k hk (b k hk h).1).2]⟩
theorem w_lt {ws:Ws} {n:Nat} {x:Wi} (hr:ws[n]?=some x):n<ws.length:=by
 rcases zu n ws.length with h | h
 ·exact h
 ·rw [zc h] at hr;cases hr
theorem w_get {ws:Ws} {n:Nat} (h:n<ws.length) : ∃ x,ws[n]?=some x:=⟨_,za h⟩
theorem w_set {ws:Ws} {n m:Nat} {y z:Wi} (h:(ws.set n y)[m]?=some z):(m=n/\z=y)\/(m≠n/\ws[m]?=some z):=by
 rw [zg] at h
 by_cases e:n=m
 ·rw [if_pos e] at h
  by_cases hl:n<ws.length
  ·rw [if_pos hl] at h;cases h;exact .inl ⟨e.symm,rfl⟩
  ·rw [if_neg hl] at h;cases h
 ·rw [if_neg e] at h;exact .inr ⟨fun h=>e h.symm,h⟩
theorem WsK.mild {ws ws':Ws} (K:WsK ws) (hl:ws'.length=ws.length)
  (h : ∀ (i:Nat) (z':Wi),ws'[i]?=some z' -> ∃ z,ws[i]?=some z/\z.SubFd z'/\WiOk z'/\(∃ c,z'.waiting=z.waiting.drop c)/\(z.e0.what=0->(∃ (j:Nat) (u:Wi),ws'[j]?=some u/\(i:Int)∈u.waiting)->z'.e0.what=0)):WsK ws':=by
 refine ⟨⟨?_,fun x hx=>?_,by rw [hl];exact K.ok.len,fun x hx=>?_⟩,?_⟩
 ·have sub : ∀ n k fd,AtW ws' n k fd->AtW ws n k fd:=by
   rintro n k fd ⟨x,hx,hk,h1,h2⟩
   obtain ⟨z,e1,e2,_⟩:=h n x hx
   exact ⟨z,e1,hk,(e2 k hk h1).1,by rw [<- (e2 k hk h1).2,h2]⟩
  exact fun n k n' k' fd a b=>K.ok.uniq n k n' k' fd (sub _ _ _ a) (sub _ _ _ b)
 ·obtain ⟨i,hi⟩:=List.mem_iff_getElem?.1 hx
  obtain ⟨z,_,_,e,_⟩:=h i x hi
  exact e
 ·obtain ⟨i,hi⟩:=List.mem_iff_getElem?.1 hx
  obtain ⟨z,e1,_,_,⟨c,e2⟩,_⟩:=h i x hi
  obtain ⟨p1,p2⟩:=K.ok.wait z (zb e1)
  refine ⟨by rw [e2,List.length_drop];omega,fun m hm=>?_⟩
  obtain ⟨y,y0,y1,y2⟩:=p2 m (by rw [e2] at hm;exact List.mem_of_mem_drop hm)
  obtain ⟨y',hy'⟩:=w_get (ws:=ws') (n:=m.toNat) (by rw [hl];exact w_lt y1)
  obtain ⟨u,u1,_,_,_,u2⟩:=h _ _ hy'
  rw [y1] at u1;cases u1
  exact ⟨y',y0,hy',u2 y2 ⟨i,x,hi,by rw [Int.toNat_of_nonneg y0];exact hm⟩⟩
 ·intro i j x y p q m hx hy hp hq
  obtain ⟨a,a1,_,_,⟨c,a2⟩,_⟩:=h i x hx
  obtain ⟨b,b1,_,_,⟨c',b2⟩,_⟩:=h j y hy
  rw [a2,zk] at hp
  rw [b2,zk] at hq
  obtain ⟨e1,e2⟩:=K.one i j a b (c+p) (c'+q) m a1 b1 hp hq
  refine ⟨e1,?_⟩
  subst e1
  rw [hx] at hy;cases hy
  rw [a1] at b1;cases b1
  have:=a2.symm.trans b2
  have h1:=congrArg List.length this
  rw [List.length_drop,List.length_drop] at h1
  have h2:c+p<a.waiting.length:=by
   rcases zu (c+p) a.waiting.length with h | h
   ·exact h
   ·rw [zc h] at hp;cases hp
  omega
theorem WsK.set {ws:Ws} {n:Nat} {x y:Wi} (K:WsK ws) (hx:ws[n]?=some x) (hs:x.SubFd y) (hok:WiOk x->WiOk y) (hw:y.waiting=x.waiting) (h0:x.e0.what=0->y.e0.what=0):WsK (ws.set n y):=by
 refine K.mild Zd fun i z' hz=>?_
 rcases w_set hz with ⟨rfl,rfl⟩ | ⟨_,hz⟩
 ·exact ⟨x,hx,hs,hok (K.ok.ok x (zb hx)),⟨0,by rw [hw];rfl⟩,fun h _=>h0 h⟩
 ·exact ⟨z',hz,Wi.SubFd.refl _,K.ok.ok z' (zb hz),⟨0,rfl⟩,fun h _=>h⟩
theorem WiOk.of {x y:Wi} (a:WiOk x) (hc:y.cap=x.cap) (hw : ∀ k,k=0\/k=1->(y.e k).writes=(x.e k).writes) (hr : ∀ k,k=0\/k=1->((y.e k).ring=none↔(x.e k).ring=none)) (hl : ∀ k,k=0\/k=1 -> ∀ q,(y.e k).ring=some q->q.length<=x.cap) (ho:y.e1.what=2->x.e1.what=2) (hb:y.backlog=x.backlog:=by rfl) (hv:WhV x->WhV y:=by exact fun h=>h):WiOk y:=by
 refine ⟨by rw [hc];exact a.cap0,by rw [hc];exact a.cap1,fun k hk q hq=>by rw [hc];exact hl k hk q hq,fun k hk=>?_,fun h2=>?_,by rw [hb];exact a.bl,hv a.wh⟩
 ·rw [hw k hk,a.pair k hk,ne_eq,ne_eq]
  refine not_congr ?_
  rcases hk with rfl | rfl
  ·exact (hr 1 (.inr rfl)).symm
  ·exact (hr 0 (.inl rfl)).symm
 ·have:=a.out (ho h2)
  exact ⟨fun e=>this.1 ((hr 0 (.inl rfl)).1 e),fun e=>this.2 ((hr 1 (.inr rfl)).1 e)⟩
theorem WiOk.nil {x:Wi} (a:WiOk x) : ∀ k,k=0\/k=1 -> ∀ q,(x.e k).ring=some q->q.length<=x.cap:=a.len
theorem jj6 {x:Wi} {k:Nat} {i o:Bool} (hk:k=0\/k=1):x.SubFd (x.came k i o):=by
 intro j hj
 rcases hk with rfl | rfl<;>rcases hj with rfl | rfl<;>exact fun h=>⟨h,rfl⟩
theorem jj5 {x:Wi} {k:Nat} {i o:Bool} (hk:k=0\/k=1) (a:WiOk x):WiOk (x.came k i o):=by
 rcases hk with rfl | rfl
 ·refine a.of rfl (fun j hj=>?_) (fun j hj=>?_) (fun j hj q hq=>?_) fun h=>h
  ·rcases hj with rfl | rfl<;>rfl
  ·rcases hj with rfl | rfl<;>exact Iff.rfl
  ·rcases hj with rfl | rfl
   ·exact a.len 0 Zd q hq
   ·exact a.len 1 Zd q hq
 ·refine a.of rfl (fun j hj=>?_) (fun j hj=>?_) (fun j hj q hq=>?_) fun h=>h
  ·rcases hj with rfl | rfl<;>rfl
  ·rcases hj with rfl | rfl<;>exact Iff.rfl
  ·rcases hj with rfl | rfl
   ·exact a.len 0 Zd q hq
   ·exact a.len 1 Zd q hq
theorem jj4 {x:Wi} {k:Nat} {i o:Bool} (hk:k=0\/k=1):(x.came k i o).e0.what=x.e0.what:=by rcases hk with rfl | rfl<;>rfl
theorem jj3 {x:Wi} {k:Nat} {i o:Bool} (hk:k=0\/k=1):(x.came k i o).waiting=x.waiting:=by rcases hk with rfl | rfl<;>rfl
theorem jiK {x:Wi} {k:Nat} {q:List UInt8} (hk:k=0\/k=1):x.SubFd (x.setq k q):=by
 intro j hj
 rcases hk with rfl | rfl<;>rcases hj with rfl | rfl<;>exact fun h=>⟨h,rfl⟩
theorem jiJ {x:Wi} {k:Nat} {q q':List UInt8} (hk:k=0\/k=1) (hq:(x.e k).ring=some q) (hl:q'.length<=x.cap) (a:WiOk x):WiOk (x.setq k q'):=by
 rcases hk with rfl | rfl
 ·have hq:x.e0.ring=some q:=hq
  refine a.of rfl (fun j hj=>?_) (fun j hj=>?_) (fun j hj q2 hq2=>?_) fun h=>h
  ·rcases hj with rfl | rfl<;>rfl
  ·rcases hj with rfl | rfl
   ·show (some q'=none)↔x.e0.ring=none
    rw [hq];simp
   ·exact Iff.rfl
  ·rcases hj with rfl | rfl
   ·have:some q'=some q2:=hq2
    cases this;exact hl
   ·exact a.len 1 Zd q2 hq2
 ·have hq:x.e1.ring=some q:=hq
  refine a.of rfl (fun j hj=>?_) (fun j hj=>?_) (fun j hj q2 hq2=>?_) fun h=>h
  ·rcases hj with rfl | rfl<;>rfl
  ·rcases hj with rfl | rfl
   ·exact Iff.rfl
   ·show (some q'=none)↔x.e1.ring=none
    rw [hq];simp
  ·rcases hj with rfl | rfl
   ·exact a.len 0 Zd q2 hq2
   ·have:some q'=some q2:=hq2
    cases this;exact hl
theorem jiI {x:Wi} {k:Nat} {q:List UInt8} (hk:k=0\/k=1):(x.setq k q).e0.what=x.e0.what:=by rcases hk with rfl | rfl<;>rfl
theorem jiH {x:Wi} {k:Nat} {q:List UInt8} (hk:k=0\/k=1):(x.setq k q).waiting=x.waiting:=by rcases hk with rfl | rfl<;>rfl
theorem jc5 {k:Nat} (hk:k=0\/k=1):1-k=0\/1-k=1:=by omega
theorem WsK.take {ws:Ws} {n k m:Nat} {x:Wi} {q:List UInt8} (K:WsK ws) (hx:ws[n]?=some x) (hk:k=0\/k=1) (hq:(x.e k).ring=some q):WsK (ws.set n (x.take k m q)):=by
 have hl:=(K.ok.ok x (zb hx)).len k hk q hq
 exact K.set hx ((jiK hk).trans (jj6 (jc5 hk))) (fun a=>jj5 (jc5 hk) (jiJ hk hq (by rw [List.length_drop];omega) a)) (by unfold Wi.take;rw [jj3 (jc5 hk),jiH hk]) (by unfold Wi.take;rw [jj4 (jc5 hk),jiI hk];exact id)
theorem WsK.fill {ws:Ws} {n k m:Nat} {x:Wi} {q b:List UInt8} (K:WsK ws) (hx:ws[n]?=some x) (hk:k=0\/k=1) (hq:(x.e (1-k)).ring=some q) (hm:m<=x.cap-q.length):WsK (ws.set n (x.fill k m q b)):=by
 have hl:=(K.ok.ok x (zb hx)).len (1-k) (jc5 hk) q hq
 exact K.set hx ((jiK (jc5 hk)).trans (jj6 (jc5 hk))) (fun a=>jj5 (jc5 hk) (jiJ (jc5 hk) hq (by rw [ze,List.length_take];omega) a)) (by unfold Wi.fill;rw [jj3 (jc5 hk),jiH (jc5 hk)]) (by unfold Wi.fill;rw [jj4 (jc5 hk),jiI (jc5 hk)];exact id)
theorem atS_at {ws:Ws} {fd:Int} {n k:Nat} (h:atS ws fd=some (n,k)):AtW ws n k fd:=by
 unfold atS at h
 split at h
 ·next hx=>
  have:=hx.choose_spec
  rw [Option.some.inj h] at this
  exact this
 ·cases h
theorem jjA {ws:Ws} {fd:Int} (h:atS ws fd=none) : ∀ n k,¬ AtW ws n k fd:=by
 intro n k a
 unfold atS at h
 rw [dif_pos ⟨(n,k),a⟩] at h
 cases h
theorem jc2 {ws:Ws} {x:Wi} {n k:Nat} {fd:Int} (h:AtW (ws++[x]) n k fd):AtW ws n k fd\/(n=ws.length/\(k=0\/k=1)/\(x.e k).what=1/\(x.e k).fd=fd):=by
 obtain ⟨y,hy,hk,h1,h2⟩:=h
 rcases zu n ws.length with hl | hl
 ·rw [zd,if_pos hl] at hy
  exact .inl ⟨y,hy,hk,h1,h2⟩
 ·rw [zd,if_neg om] at hy
  have:n-ws.length=0:=by
   rcases Nat.eq_zero_or_pos (n-ws.length) with e | e
   ·exact e
   ·rw [zc (show 1<=_ from e)] at hy;cases hy
  rw [this] at hy
  cases hy
  exact .inr ⟨by omega,hk,h1,h2⟩
theorem jhl {ws:Ws} {x y:Wi} {n:Nat} (h:(ws++[x])[n]?=some y):ws[n]?=some y\/(n=ws.length/\y=x):=by
 rcases zu n ws.length with hl | hl
 ·rw [zd,if_pos hl] at h
  exact .inl h
 ·rw [zd,if_neg om] at h
  have:n-ws.length=0:=by
   rcases Nat.eq_zero_or_pos (n-ws.length) with e | e
   ·exact e
   ·rw [zc (show 1<=_ from e)] at h;cases h
  rw [this] at h
  cases h
  exact .inr ⟨by omega,rfl⟩
theorem jeH {ws:Ws} {x y:Wi} {n:Nat} (h:ws[n]?=some y):(ws++[x])[n]?=some y:=by rw [zd,if_pos (w_lt h),h]
theorem push_uniq {ws:Ws} {x:Wi} (u:Uniq ws) (hf : ∀ k,k=0\/k=1->(x.e k).what=1 -> ∀ n j,¬ AtW ws n j (x.e k).fd) (h2:x.e0.what=1->x.e1.what=1->x.e0.fd≠x.e1.fd):Uniq (ws++[x]):=by
 intro n k n' k' fd a b
 rcases jc2 a with a | ⟨rfl,hk,w1,f1⟩
 ·rcases jc2 b with b | ⟨rfl,hk',w1,f1⟩
  ·exact u _ _ _ _ _ a b
  ·exact absurd (by rw [f1];exact a) (hf k' hk' w1 n k)
 ·rcases jc2 b with b | ⟨rfl,hk',w2,f2⟩
  ·exact absurd (by rw [f1];exact b) (hf k hk w1 n' k')
  ·refine ⟨rfl,?_⟩
   rcases hk with rfl | rfl<;>rcases hk' with rfl | rfl
   ·rfl
   ·exact absurd (f1.trans f2.symm) (h2 w1 w2)
   ·exact absurd (f2.trans f1.symm) (h2 w2 w1)
   ·rfl
theorem WsK.push {ws:Ws} {x:Wi} (K:WsK ws) (ox:WiOk x) (hw:x.waiting=[]) (hl:ws.length<1000) (hf : ∀ k,k=0\/k=1->(x.e k).what=1 -> ∀ n j,¬ AtW ws n j (x.e k).fd) (h2:x.e0.what=1->x.e1.what=1->x.e0.fd≠x.e1.fd):WsK (ws++[x]):=by
 refine ⟨⟨push_uniq K.ok.uniq hf h2,fun y hy=>?_,by rw [ze];show ws.length+1<=1000;omega,fun y hy=>?_⟩,?_⟩
 ·rcases List.mem_append.1 hy with h | h
  ·exact K.ok.ok y h
  ·obtain rfl:y=x:=by simpa using h
   exact ox
 ·rcases List.mem_append.1 hy with h | h
  ·obtain ⟨p1,p2⟩:=K.ok.wait y h
   refine ⟨p1,fun m hm=>?_⟩
   obtain ⟨z,z0,z1,z2⟩:=p2 m hm
   exact ⟨z,z0,jeH z1,z2⟩
  ·obtain rfl:y=x:=by simpa using h
   rw [hw];simp
 ·intro i j a b p q m ha hb hp hq
  rcases jhl ha with ha | ⟨rfl,rfl⟩
  ·rcases jhl hb with hb | ⟨rfl,rfl⟩
   ·exact K.one i j a b p q m ha hb hp hq
   ·rw [hw] at hq;simp at hq
  ·rw [hw] at hp;simp at hp
theorem jcs {ws:Ws} {n:Nat} {f:Int} (h:f∈jan ws n) : ∃ i:Nat,f=i/\i<n/\atS ws f=none:=by
 unfold jan at h
 obtain ⟨i,hi,rfl⟩:=List.mem_map.1 h
 obtain ⟨p1,p2⟩:=List.mem_filter.1 hi
 refine ⟨i,rfl,by simpa using p1,?_⟩
 simpa using p2
theorem jdL (ws:Ws) (n:Nat):(jan ws n).Nodup:=by
 unfold jan
 exact (List.Pairwise.filter _ List.nodup_range).map _ fun a b (h:a≠b)=>by show (a:Int)≠(b:Int);omega
theorem jh0 {ws:Ws} {kind n:Int} (hk:kind=0\/kind=1\/kind=2\/kind=3) (K:WsK ws):WsK (jaS ws kind n).2:=by
 unfold jaS
 split
 ·exact K
 next hb=>
 split
 ·exact K
 next f0 fs hF=>
 split
 ·exact K
 next hbad=>
 have hn:1<=n/\n<=65536:=by omega
 have hnt:1<=n.toNat/\n.toNat<=65536:=by omega
 obtain ⟨i0,e0,_,a0⟩:=jcs (ws:=ws) (n:=96) (f:=f0) (by rw [hF];simp)
 have n0:=jjA a0
 have nd:=jdL ws 96
 rw [hF] at nd
 have h1:kind<2 -> ∃ f1,fs.headD 0=f1/\f0≠f1 /\ ∀ n k,¬ AtW ws n k f1:=by
  intro h
  cases fs with
  | nil=>exact absurd (.inl ⟨rfl,h⟩) hbad
  | cons f1 r=>
   obtain ⟨i1,e1,_,a1⟩:=jcs (ws:=ws) (n:=96) (f:=f1) (by rw [hF];simp)
   refine ⟨f1,rfl,fun e=>?_,jjA a1⟩
   subst e
   exact absurd nd Zd
 have hlen:ws.length<1000:=by omega
 have two1 : ∀ {x:Wi},x.e0.fd=f0->(x.e1.what=1->x.e1.fd=fs.headD 0/\kind<2) -> ∀ k,k=0\/k=1->(x.e k).what=1 -> ∀ n j,¬ AtW ws n j (x.e k).fd:=by
  intro x p0 p1 k hk h
  rcases hk with rfl | rfl
  ·show ∀ n j,¬ AtW ws n j x.e0.fd
   rw [p0];exact n0
  ·obtain ⟨q1,q2⟩:=p1 h
   obtain ⟨f1,r1,_,r2⟩:=h1 q2
   show ∀ n j,¬ AtW ws n j x.e1.fd
   rw [q1,r1];exact r2
 have mk : ∀ (x:Wi),(∀ k,k=0\/k=1 -> ∀ q,(x.e k).ring=some q->q=[])->x.cap=n.toNat->(∀ k,k=0\/k=1->((x.e k).writes=true↔(x.e (1-k)).ring≠none))->(x.e1.what=2->x.e0.ring≠none/\x.e1.ring≠none)->0<=x.backlog/\x.backlog<=64->WhV x->WiOk x:=by
  intro x p1 p2 p3 p4 p5 p6
  exact ⟨by rw [p2];exact hnt.1,by rw [p2];exact hnt.2,fun k hk q hq=>by rw [p1 k hk q hq];exact Nat.zero_le _,p3,p4,p5,p6⟩
 rcases hk with rfl | rfl | rfl | rfl
 ·have e:newW 0 n f0 (fs.headD 0)=⟨⟨1,f0,some [],false,false,0,0⟩,⟨1,fs.headD 0,none,true,false,0,0⟩,n.toNat,false,0,[]⟩:=rfl
  refine K.push (mk _ (fun k hk q hq=>?_) rfl (fun k hk=>?_) (fun h=>?_) ?_ ⟨⟨of_decide_eq_true rfl,of_decide_eq_true rfl⟩,of_decide_eq_true rfl,of_decide_eq_true rfl⟩) rfl hlen (two1 rfl fun _=>⟨rfl,by omega⟩) fun _ _=>?_
  ·rcases hk with rfl | rfl
   ·have:some []=some q:=hq
    cases this;rfl
   ·have:none=some q:=hq
    cases this
  ·rcases hk with rfl | rfl
   ·show (false=true↔(none:Option (List UInt8))≠none);simp
   ·show (true=true↔some ([]:List UInt8)≠none);simp
  ·have h:(1:Int)=2:=h
   omega
  ·show (0:Int)<=0/\(0:Int)<=64;omega
  ·obtain ⟨f1,r1,r0,_⟩:=h1 om
   show f0≠fs.headD 0
   rw [r1];exact r0
 ·refine K.push (mk _ (fun k hk q hq=>?_) rfl (fun k hk=>?_) (fun h=>?_) ?_ ⟨⟨of_decide_eq_true rfl,of_decide_eq_true rfl⟩,of_decide_eq_true rfl,of_decide_eq_true rfl⟩) rfl hlen (two1 rfl fun _=>⟨rfl,by omega⟩) fun _ _=>?_
  ·rcases hk with rfl | rfl
   ·have:some []=some q:=hq
    cases this;rfl
   ·have:some []=some q:=hq
    cases this;rfl
  ·rcases hk with rfl | rfl
   ·show (true=true↔some ([]:List UInt8)≠none);simp
   ·show (true=true↔some ([]:List UInt8)≠none);simp
  ·have h:(1:Int)=2:=h
   omega
  ·show (0:Int)<=0/\(0:Int)<=64;omega
  ·obtain ⟨f1,r1,r0,_⟩:=h1 om
   show f0≠fs.headD 0
   rw [r1];exact r0
 ·refine K.push (mk _ (fun k hk q hq=>?_) rfl (fun k hk=>?_) (fun h=>?_) ?_ ⟨⟨of_decide_eq_true rfl,of_decide_eq_true rfl⟩,of_decide_eq_true rfl,of_decide_eq_true rfl⟩) rfl hlen (two1 rfl fun h=>?_) fun _ h=>?_
  ·rcases hk with rfl | rfl
   ·have:some []=some q:=hq
    cases this;rfl
   ·have:some []=some q:=hq
    cases this;rfl
  ·rcases hk with rfl | rfl
   ·show (true=true↔some ([]:List UInt8)≠none);simp
   ·show (true=true↔some ([]:List UInt8)≠none);simp
  ·exact ⟨by show some []≠none;simp,by show some []≠none;simp⟩
  ·show (0:Int)<=0/\(0:Int)<=64;omega
  ·have h:(2:Int)=1:=h
   omega
  ·have h:(2:Int)=1:=h
   omega
 ·refine K.push (mk _ (fun k hk q hq=>?_) rfl (fun k hk=>?_) (fun h=>?_) ?_ ⟨⟨of_decide_eq_true rfl,of_decide_eq_true rfl⟩,of_decide_eq_true rfl,of_decide_eq_true rfl⟩) rfl hlen (two1 rfl fun h=>?_) fun _ h=>?_
  ·rcases hk with rfl | rfl
   ·have:none=some q:=hq
    cases this
   ·have:none=some q:=hq
    cases this
  ·rcases hk with rfl | rfl
   ·show (false=true↔(none:Option (List UInt8))≠none);simp
   ·show (false=true↔(none:Option (List UInt8))≠none);simp
  ·have h:(0:Int)=2:=h
   omega
  ·show 0<=n/\n<=64;omega
  ·have h:(0:Int)=1:=h
   omega
  ·have h:(0:Int)=1:=h
   omega
def Wi.RK (x y:Wi):Prop := ∀ k,k=0\/k=1->(x.e k).ring≠none->(y.e k).ring≠none
theorem Wi.RK.refl (x:Wi):x.RK x:=fun _ _ h=>h
theorem Wi.RK.trans {x y z:Wi} (a:x.RK y) (b:y.RK z):x.RK z:=fun k hk h=>b k hk (a k hk h)
def WsR (ws ws':Ws):Prop := ∀ (n:Nat) (x:Wi),ws[n]?=some x -> ∃ y,ws'[n]?=some y/\x.RK y
theorem WsR.refl (ws:Ws):WsR ws ws:=fun _ x h=>⟨x,h,Wi.RK.refl x⟩
theorem WsR.trans {a b c:Ws} (x:WsR a b) (y:WsR b c):WsR a c:=fun n u hu=>by
 obtain ⟨v,hv,h1⟩:=x n u hu
 obtain ⟨w,hw,h2⟩:=y n v hv
 exact ⟨w,hw,h1.trans h2⟩
theorem WsR.set {ws:Ws} {n:Nat} {x y:Wi} (hx:ws[n]?=some x) (h:x.RK y):WsR ws (ws.set n y):=fun m u hu=>by
 by_cases e:n=m
 ·subst e
  rw [hx] at hu;cases hu
  exact ⟨y,by rw [zg,if_pos rfl,if_pos (w_lt hx)],h⟩
 ·exact ⟨u,by rw [zg,if_neg e,hu],Wi.RK.refl u⟩
theorem WsR.push {ws:Ws} {x:Wi} : WsR ws (ws++[x]):=fun _ u hu=>⟨u,jeH hu,Wi.RK.refl u⟩
theorem NtOk.keep {ws ws':Ws} {no si:Int} (a:NtOk ws no si) (r:WsR ws ws'):NtOk ws' no si:=by
 rcases a with a | ⟨n,k,x,h1,h2,h3,h4,h5,h6⟩
 ·exact .inl a
 ·obtain ⟨y,hy,rk⟩:=r n x h4
  exact .inr ⟨n,k,y,h1,h2,h3,hy,rk 0 (.inl rfl) h5,rk 1 (.inr rfl) h6⟩
def noI:Option (Nat × Nat)->Int
 | none=>-1
 | some p=>p.1
def siI:Option (Nat × Nat)->Int
 | none=>0
 | some p=>p.2
section
variable {cl:Nat->Call} (hcl:Sem cl) {h:H} {w s:Nat} {ow:Nat->Nat} {ws:Ws} {now:Int} {tb:Tb} {no:Option (Nat × Nat)}
include hcl
end
section
variable {h h':H} {w s:Nat} {ow:Nat->Nat} {f:Nat->Option (Nat × Nat)} {l:List WX} {ws:Ws} {now:Int} {tb tb':Tb} {no:Option (Nat × Nat)}
theorem WF.tbl (a:WF h w s ow f l now tb no) (ch:Ch (fun j=>j=s) h h') (g:h'.get s=some tb'.obj):WF h' w s ow f l now tb' no:=by
 obtain ⟨wv,p1,p2,p3⟩:=a.hw
 have ts:=a.ts
 have k : ∀ j,ow j≠0->ow j≠3->h'.get j=h.get j:=fun j h0 h3=>ch.get j (a.lt_of h0) fun e=>by
  have e:j=s:=e
  rw [e] at h3;exact h3 ts
 exact ⟨⟨wv,by rw [k w (by rw [a.tw];omega) (by rw [a.tw];omega),p1],p2.keep ch.nx fun z hz=>k z (by rw [p3 z hz];omega) (by rw [p3 z hz];omega),p3⟩,g,a.tw,a.ts,zp a.lw ch.nx,zp a.ls ch.nx,
  fun j hj=>a.top j (zx ch.nx hj),fun n t ht=>(a.ok n t ht).keep ch.nx fun j h1 _=>k j om om⟩
theorem WSt.tbl (a:WSt h w s ow ws now tb no) (ch:Ch (fun j=>j=s) h h') (g:h'.get s=some tb'.obj):WSt h' w s ow ws now tb' no/\To h h' ow ow:=by
 obtain ⟨l,a,e⟩:=a
 refine ⟨⟨l,⟨a.wf.tbl ch g,a.fds⟩,e⟩,⟨ch.weaken fun j _ hb=>?_,fun _ _=>rfl⟩⟩
 have hb:j=s:=hb
 rw [hb,a.wf.ts];omega
end
section
variable {cl:Nat->Call} (hcl:Sem cl) {h:H} {w s:Nat} {ow:Nat->Nat} {ws:Ws} {now:Int} {tb:Tb} {no:Option (Nat × Nat)}
include hcl
end
section
variable {cl:Nat->Call} (hcl:Sem cl) {h:H} {w s:Nat} {ow:Nat->Nat} {ws:Ws} {now:Int} {tb:Tb} {no:Option (Nat × Nat)}
include hcl
end
structure Mono (g h:H):Prop where
 nx:h.nx=g.nx
 get : ∀ j o,j<g.nx->g.get j=some o->h.get j=some o
theorem VB.mono {g h:H} {v:V} {l:List UInt8} (m:Mono g h) (a:VB g v l):VB h v l:=by
 obtain ⟨a,c,rfl,n,f,k⟩:=a
 refine ⟨a,c,rfl,n,f,fun hl=>?_⟩
 obtain ⟨b,o,cs,ro,rfl,h1,h2,h3⟩:=k hl
 exact ⟨b,o,cs,ro,rfl,by rw [m.nx];exact h1,m.get b _ h1 h2,h3⟩
theorem VI.mono {g h:H} {v:V} {l:List Int} (m:Mono g h) (a:VI g v l):VI h v l:=by
 obtain ⟨a,c,rfl,n,f,k⟩:=a
 refine ⟨a,c,rfl,n,f,fun hl=>?_⟩
 obtain ⟨b,o,cs,ro,rfl,h1,h2,h3⟩:=k hl
 exact ⟨b,o,cs,ro,rfl,by rw [m.nx];exact h1,m.get b _ h1 h2,h3⟩
theorem Row.mono {N sz n:Nat} {g h:H} {v:V} {cs:List V} (m:Mono g h) (a:Row N g sz v n cs):Row N h sz v n cs:=by
 rcases a with a | ⟨q,h1,h2,rfl,h4,h5⟩
 ·exact .inl a
 ·exact .inr ⟨q,h1,by rw [m.nx];exact h2,rfl,m.get q _ h2 h4,h5⟩
theorem RW.mono {g h:H} {rw q:Nat} {l:List RX} {tl:List V} (m:Mono g h) (a:RW g rw q l tl):RW h rw q l tl:=by
 refine ⟨by rw [m.nx];exact a.lw,by rw [m.nx];exact a.lq,a.ne,fun hl=>⟨m.get _ _ a.lw (a.at_ hl).hw,m.get _ _ a.lq (a.at_ hl).hq,a.ne⟩,fun hl=>m.get _ _ a.lw (a.nil hl),fun r hr=>?_⟩
 obtain ⟨p1,p2⟩:=a.ok r hr
 exact ⟨fun k hk=>⟨(p1 k hk).1.mono m,fun z hz=>by rw [m.nx];exact (p1 k hk).2 z hz⟩,p2.1.mono m,fun z hz=>by rw [m.nx];exact p2.2 z hz⟩
theorem RW.re {g:H} {rw q q':Nat} {tl:List V} (a:RW g rw q [] tl) (h1:q'<g.nx) (h2:rw≠q'):RW g rw q' [] tl :=
 ⟨a.lw,h1,h2,fun h=>absurd rfl h,a.nil,fun r hr=>by cases hr⟩
theorem jjR (h:H) (own:Nat->Prop) : ∀ n,∃ g:H,g.nx=h.nx/\(∀ j,j<n -> ¬ own j->g.get j=none) /\ ∀ j,n<=j\/own j->g.get j=h.get j
 | 0=>⟨h,rfl,fun j hj=>by omega,fun _ _=>rfl⟩
 | n+1=>by
  obtain ⟨g,g1,g2,g3⟩:=jjR h own n
  by_cases e:own n
  ·refine ⟨g,g1,fun j hj ho=>?_,fun j hj=>g3 j (hj.imp (fun h=>by omega) id)⟩
   rcases zu j n with h1 | h1
   ·exact g2 j h1 ho
   ·obtain rfl:j=n:=by omega
    exact absurd e ho
  ·refine ⟨g.kill n,g1,fun j hj ho=>?_,fun j hj=>?_⟩
   ·by_cases ej:j=n
    ·subst ej;rw [H.get_kill,if_pos rfl]
    ·rw [ja4 ej];exact g2 j om ho
   ·have ej:j≠n:=by
     rintro rfl
     rcases hj with h1 | h1
     ·omega
     ·exact e h1
    rw [ja4 ej];exact g3 j (hj.imp (fun h=>by omega) id)
structure RO (h:H) (ro dat:Nat->Prop) (rw:Nat) (l:List RX) (tl:List V):Prop where
 ex : ∃ q,(l≠[]->ro q) /\ ∀ g:H,g.nx=h.nx->(∀ j,j<h.nx->ro j\/dat j->g.get j=h.get j)->RW g rw q l tl
 lt : ∀ j,ro j\/dat j->j<h.nx
 hr:ro rw
 ap : ∀ j,ro j -> ¬ dat j
theorem RO.keep {h h':H} {ro dat:Nat->Prop} {rw:Nat} {l:List RX} {tl:List V} (a:RO h ro dat rw l tl) (hx:h.nx<=h'.nx) (hk : ∀ j,ro j\/dat j->h'.get j=h.get j):RO h' ro dat rw l tl:=by
 obtain ⟨q,hq,k⟩:=a.ex
 refine ⟨⟨q,hq,fun g g1 g2=>?_⟩,fun j hj=>zp (a.lt j hj) hx,a.hr,a.ap⟩
 have w:=k ⟨h.nx,g.t⟩ rfl fun j hj ho=>(g2 j (zp hj hx) ho).trans (hk j ho)
 exact w.old ⟨by rw [g1];exact hx,fun _ _=>rfl⟩
theorem RO.call {cl:Nat->Call} (hcl:Sem cl) {d p f:Nat} {args:List V} {h:H} {ro dat:Nat->Prop} {rw:Nat} {l:List RX} {tl:List V} {P:H->V->List RX->List V->Prop} (a:RO h ro dat rw l tl) (hp:p<h.nx) (hop:h.get p≠none) (hnp : ¬ (ro p\/dat p))
  (mono : ∀ g g' v l tl,Mono g g'->P g v l tl->P g' v l tl)
  (k : ∀ g q,(∀ j,j<h.nx->ro j\/dat j->g.get j=h.get j)->g.nx=h.nx->RW g rw q l tl->(q=p\/ro q) -> ∃ v q' l' tl' g',cl d (.fn f) args g=some (v,g')/\RW g' rw q' l' tl'/\Ch (RC rw q) g g'/\(q'=q\/g.nx<=q')/\P g' v l' tl') :
  ∃ v l' tl' h',cl d (.fn f) args h=some (v,h')/\RO h' (fun j=>ro j\/(h.nx<=j/\j<h'.nx)) dat rw l' tl'/\Ch ro h h'/\P h' v l' tl':=by
 obtain ⟨q0,hq0,k0⟩:=a.ex
 obtain ⟨g,g1,g2,g3⟩:=jjR h (fun j=>ro j\/dat j) h.nx
 have w0:=k0 g g1 fun j _ ho=>g3 j (.inr ho)
 obtain ⟨q,w,hq⟩ : ∃ q,RW g rw q l tl/\(q=p\/ro q):=by
  by_cases hl:l=[]
  ·subst hl
   exact ⟨p,w0.re (by rw [g1];exact hp) (fun e=>hnp (.inl (by rw [<- e];exact a.hr))),.inl rfl⟩
  ·exact ⟨q0,w0,.inr (hq0 hl)⟩
 obtain ⟨v,q',l',tl',g',e1,e2,e3,e5,e4⟩:=k g q (fun j _ ho=>g3 j (.inr ho)) g1 w hq
 have X:Ext (fun j=>if j<h.nx/\g.get j=none then h.get j else none) g h:=by
  refine ⟨g1.symm,fun j=>?_,fun j hj=>?_⟩
  ·by_cases hj:j<h.nx
   ·by_cases ho:ro j\/dat j
    ·rw [g3 j (.inr ho)]
     cases hh:h.get j<;>simp [hh]
    ·rw [g2 j hj ho];simp [hj]
   ·rw [g3 j (.inl om)]
    cases hh:h.get j<;>simp [hj]
  ·by_cases hc:j<h.nx/\g.get j=none
   ·exact ⟨by rw [g1];exact hc.1,hc.2⟩
   ·simp [hc] at hj
 have hF:=(jdU primsF fuel d)
 rw [hcl d] at e1 ⊢
 obtain ⟨h',q1,q2⟩:=hF.1 _ _ _ _ _ e1 _ _ X
 have hx:h.nx<=h'.nx:=by rw [q2.nx,<- g1];exact e3.nx
 have m:Mono g' h':=⟨q2.nx,fun j o _ hj=>q2.has hj⟩
 have off : ∀ j,j<h.nx -> ¬ (ro j\/dat j)->g'.get j=none:=by
  intro j hj ho
  by_cases hz:h.get j=none
  ·rw [e3.get j (by rw [g1];exact hj) (by
    rintro (rfl | rfl)
    ·rcases hq with rfl | hq
     ·exact hop hz
     ·exact ho (.inl hq)
    ·exact ho (.inl a.hr)),g2 j hj ho]
  ·exact (q2.off j (by simp [hj,g2 j hj ho,hz])).2
 have same : ∀ j,(ro j\/dat j)->h'.get j=g'.get j:=by
  intro j ho
  rw [q2.get j]
  by_cases hz:g.get j=none
  ·have:h.get j=none:=by rw [<- g3 j (.inr ho),hz]
   simp [this]
  ·simp [hz]
 refine ⟨v,l',tl',h',q1,⟨⟨q',fun hl=>?_,fun g4 n4 k4=>?_⟩,fun j hj=>?_,.inl a.hr,fun j hj hd=>?_⟩,⟨hx,fun j hj ho=>?_⟩,mono _ _ _ _ _ m e4⟩
 ·have hz:=(e2.at_ hl).hq
  rcases zu q' h.nx with h1 | h1
  ·rcases e5 with rfl | h2
   ·rcases hq with rfl | hq
    ·rw [off q' h1 hnp] at hz;cases hz
    ·exact .inl hq
   ·omega
  ·exact .inr ⟨h1,by rw [q2.nx];exact e2.lq⟩
 ·refine e2.mono ⟨by rw [n4,q2.nx],fun j o hj hg=>?_⟩
  by_cases ho:ro j\/dat j
  ·rw [k4 j (by rw [q2.nx];exact hj) (ho.imp .inl id),same j ho,hg]
  ·rcases zu j h.nx with h1 | h1
   ·rw [off j h1 ho] at hg;cases hg
   ·rw [k4 j (by rw [q2.nx];exact hj) (.inl (.inr ⟨h1,by rw [q2.nx];exact hj⟩)),q2.has hg]
 ·rcases hj with (hj | hj) | hj
  ·exact zp (a.lt j (.inl hj)) hx
  ·exact hj.2
  ·exact zp (a.lt j (.inr hj)) hx
 ·rcases hj with hj | hj
  ·exact a.ap j hj hd
  ·have:=a.lt j (.inr hd)
   omega
 ·by_cases hd:dat j
  ·have hne : ¬ RC rw q j:=by
    rintro (rfl | rfl)
    ·rcases hq with rfl | hq
     ·exact hnp (.inr hd)
     ·exact a.ap _ hq hd
    ·exact a.ap _ a.hr hd
   rw [same j (.inr hd),e3.get j (by rw [g1];exact hj) hne,g3 j (.inr (.inr hd))]
  ·have h2:=off j hj (fun h=>h.elim ho hd)
   rw [q2.get j,h2]
   have h3:=g2 j hj (fun h=>h.elim ho hd)
   simp [hj,h3]
structure St where
 ws:Ws
 now:Int
 tb:Tb
 no:Option (Nat × Nat)
abbrev St.tl (r:St):List V:=tail r.now r.tb.hd r.tb.pd (noI r.no) (siI r.no)
section
variable {h h':H} {w s:Nat} {ow:Nat->Nat} {ws:Ws} {now:Int} {tb:Tb} {no:Option (Nat × Nat)}
theorem WSt.keep (a:WSt h w s ow ws now tb no) (hx:h.nx<=h'.nx) (hk : ∀ j,ow j≠0->h'.get j=h.get j):WSt h' w s ow ws now tb no:=by
 obtain ⟨l,a,e⟩:=a
 exact ⟨l,⟨a.wf.keep hx hk,a.fds⟩,e⟩
theorem WSt.top (a:WSt h w s ow ws now tb no) {j:Nat} (hj:h.nx<=j):ow j=0:=by
 obtain ⟨l,a,e⟩:=a
 exact a.wf.top j hj
theorem WSt.lt_of (a:WSt h w s ow ws now tb no) {j:Nat} (hj:ow j≠0):j<h.nx:=by
 obtain ⟨l,a,e⟩:=a
 exact a.wf.lt_of hj
theorem WSt.lw (a:WSt h w s ow ws now tb no):w<h.nx:=by
 obtain ⟨l,a,e⟩:=a
 exact a.wf.lw
end
structure BB (h:H) (p w s rw:Nat) (ow:Nat->Nat) (ro dat:Nat->Prop) (a r:St):Prop where
 W:WSt h w s ow a.ws a.now a.tb a.no
 R : ∃ l,RO h ro dat rw l r.tl/\l.map RX.x=r.ws
 hp:h.get p=some (.cells [.p w 0,.p rw 0] false)
 lp:p<h.nx
 sep : ∀ j,ro j\/dat j->ow j=0
 op:ow p=0
 rp : ¬ (ro p\/dat p)
structure Fm (h h':H) (ow:Nat->Nat) (ro:Nat->Prop) (ow':Nat->Nat) (ro':Nat->Prop):Prop where
 ch:Ch (fun j=>ow j≠0\/ro j) h h'
 tag : ∀ j,j<h.nx->ow' j=ow j
 rtag : ∀ j,j<h.nx->(ro' j↔ro j)
theorem Fm.refl {h:H} {ow:Nat->Nat} {ro:Nat->Prop} : Fm h h ow ro ow ro:=⟨Ch.refl _ _,fun _ _=>rfl,fun _ _=>Iff.rfl⟩
theorem Fm.trans {h h1 h2:H} {a b c:Nat->Nat} {x y z:Nat->Prop} (f:Fm h h1 a x b y) (g:Fm h1 h2 b y c z):Fm h h2 a x c z :=
 ⟨f.ch.trans_new g.ch fun j hj hb=>by rw [f.tag j hj,f.rtag j hj] at hb;exact hb,
  fun j hj=>by rw [g.tag j (zp hj f.ch.nx),f.tag j hj],fun j hj=>(g.rtag j (zp hj f.ch.nx)).trans (f.rtag j hj)⟩
theorem Fm.old {h h1:H} {ow:Nat->Nat} {ro:Nat->Prop} (o:Old h h1):Fm h h1 ow ro ow ro:=⟨o.ch,fun _ _=>rfl,fun _ _=>Iff.rfl⟩
theorem Fm.to {h h1:H} {ow ow':Nat->Nat} {ro:Nat->Prop} (t:To h h1 ow ow'):Fm h h1 ow ro ow' ro:=⟨t.ch.weaken fun _ _ hb=>.inl hb,t.tag,fun _ _=>Iff.rfl⟩
section
variable {h h':H} {p w s rw:Nat} {ow ow':Nat->Nat} {ro dat:Nat->Prop} {a a' r r':St}
theorem BB.old (b:BB h p w s rw ow ro dat a r) (o:Old h h'):BB h' p w s rw ow ro dat a r:=by
 obtain ⟨l,R,e⟩:=b.R
 exact ⟨b.W.old o,⟨l,R.keep o.1 fun j hj=>o.2 j (R.lt j hj),e⟩,by rw [o.2 _ b.lp,b.hp],zp b.lp o.1,b.sep,b.op,b.rp⟩
theorem BB.off (b:BB h p w s rw ow ro dat a r) (hx:h.nx<=h'.nx) (hk : ∀ j,j<h.nx->ow j≠0\/ro j\/dat j\/j=p->h'.get j=h.get j):BB h' p w s rw ow ro dat a r:=by
 obtain ⟨l,R,e⟩:=b.R
 exact ⟨b.W.keep hx fun j hj=>hk j (b.W.lt_of hj) (.inl hj),⟨l,R.keep hx fun j hj=>hk j (R.lt j hj) (.inr (hj.imp id .inl)),e⟩,by rw [hk _ b.lp (.inr (.inr (.inr rfl))),b.hp],zp b.lp hx,b.sep,b.op,b.rp⟩
theorem BB.wc (b:BB h p w s rw ow ro dat a r) (W:WSt h' w s ow' a'.ws a'.now a'.tb a'.no) (t:To h h' ow ow'):BB h' p w s rw ow' ro dat a' r:=by
 obtain ⟨l,R,e⟩:=b.R
 refine ⟨W,⟨l,R.keep t.ch.nx fun j hj=>t.ch.get j (R.lt j hj) fun hne=>hne (b.sep j hj),e⟩,by rw [t.ch.get p b.lp fun hne=>hne b.op,b.hp],zp b.lp t.ch.nx,fun j hj=>by rw [t.tag j (R.lt j hj)];exact b.sep j hj,by rw [t.tag p b.lp];exact b.op,b.rp⟩
theorem BB.ro_lt (b:BB h p w s rw ow ro dat a r) {j:Nat} (hj:ro j\/dat j):j<h.nx:=by
 obtain ⟨l,R,e⟩:=b.R
 exact R.lt j hj
theorem BB.ap (b:BB h p w s rw ow ro dat a r) {j:Nat} (hj:dat j) : ¬ ro j:=by
 obtain ⟨l,R,e⟩:=b.R
 exact fun h=>R.ap j h hj
end
theorem Tb.ok.mono {t:Tb} {m n:Int} (a:t.ok m) (h:m<=n):t.ok n:=fun k=>⟨(a k).1,by have:=(a k).2;omega⟩
structure StOk (st:St) (i:Nat):Prop where
 K:WsK st.ws
 nt:NtOk st.ws (noI st.no) (siI st.no)
 now:0<=st.now/\st.now<=18446744073709551615
 tb:st.tb.ok i
theorem StOk.ws {st:St} {i:Nat} {ws:Ws} (o:StOk st i) (K:WsK ws) (r:WsR st.ws ws):StOk { st with ws:=ws } (i+1) :=
 ⟨K,o.nt.keep r,o.now,o.tb.mono om⟩
theorem jgj (b:UInt8):jcX (jdZ b)=some b:=by
 have h:b.toNat<256:=b.toNat_lt
 have h2:jbS (b.toNat:Int) 256=true:=by
  rcases zu b.toNat 256 with _ | _
  ·simp [jbS];omega
  ·omega
 simp only [jdZ,jcX,h2,cond_true,Int.toNat_natCast]
 congr 1
 exact UInt8.ofNat_toNat
theorem jdW : ∀ l:List UInt8,bytesOf (bts l)=some l
 | []=>rfl
 | b :: l=>by
  show (match jcX (jdZ b),bytesOf (bts l) with | some b,some l=>some (b :: l) | _,_=>none)=_
  rw [jgj,jdW l]
section
variable {call:Call} {fuel base:Nat} {ops:List Ins} {keep:List Nat} {K:List Fr} {e:Env} {h:H} {Q:Post} {ix:Nat} {dst at_:Option Nat}
theorem Ops.ofRow {x:Opd} {v:V} {N n:Nat} {l:List UInt8} (hx:x.ev e=some v) (r:Row N h 1 v n (bts l)) (k:Ops call fuel base ops keep K (layv e dst (.str l)) h Q) :
  Ops call fuel base (⟨ix,dst,.ofBytes x,none,at_,[]⟩ :: ops) keep K e h Q:=by
 refine Ops.step (I.run_read rfl ?_) k
 rcases r with ⟨rfl,h2,rfl⟩ | ⟨q,_,_,rfl,h4,h5⟩
 ·have:l=[]:=by simpa using h2
  subst this
  simp only [I.read,hx]
 ·simp only [I.read,hx]
  have hn:n=l.length:=by simpa using h5.symm
  subst hn
  cases l with
  | nil=>rfl
  | cons a l=>
   have:((a :: l).length == 0)=false:=rfl
   rw [this,cond_false,jdB h4 Zd,zi,zf Zd]
   show (match bytesOf (bts (a :: l)) with | some s=>some (V.str s) | none=>none)=_
   rw [jdW]
theorem Ops.mark {x:Opd} {b o n:Nat} {c:Cap} {l:List V} (hx:x.ev e=some (.slice (some (b,o)) n c)) (hb:h.get b=some (.cells l false)) (hn:Nat.ble 1 n=true) (k:Ops call fuel base ops keep K (layv e dst (.slice (some (b,o)) n c)) h Q) :
  Ops call fuel base (⟨ix,dst,.mark x,none,at_,[]⟩ :: ops) keep K e h Q:=by
 refine Ops.step (I.run_eff rfl ?_) k
 simp only [I.eff,hx,hb,hn,cond_true]
end
abbrev opV (k a n t:Int) (dv:V):List V:=[.i k,.i a,.i n,.int .u64 t,dv]
structure Dat (h:H) (dat:Nat->Prop) (dv:V) (D:List UInt8):Prop where
 v:VB h dv D
 z:D≠[] -> ∀ z,dv.at?=some z->dat z
 len:D.length<=300
structure Cpy (h:H) (p:Nat) (ow:Nat->Nat) (ro dat:Nat->Prop) (vd:V) (D:List UInt8):Prop where
 v:VB h vd D
 z : ∀ z,vd.at?=some z->z<h.nx/\ow z=0 /\ ¬ ro z /\ ¬ dat z/\z≠p
section
variable {h h':H} {p w s rw:Nat} {ow ow':Nat->Nat} {ro ro' dat:Nat->Prop} {a r a' r':St} {dv vd:V} {D:List UInt8}
theorem BB.keepD (b:BB h p w s rw ow ro dat a r) (f:Fm h h' ow ro ow' ro') {z:Nat} (hz:dat z):h'.get z=h.get z :=
 f.ch.get z (b.ro_lt (.inr hz)) fun e=>e.elim (fun e=>e (b.sep z (.inr hz))) (b.ap hz)
theorem Dat.keep (d:Dat h dat dv D) (b:BB h p w s rw ow ro dat a r) (f:Fm h h' ow ro ow' ro'):Dat h' dat dv D :=
 ⟨d.v.keep2 f.ch.nx fun hl z hz=>b.keepD f (d.z hl z hz),d.z,d.len⟩
theorem Cpy.keep (c:Cpy h p ow ro dat vd D) (f:Fm h h' ow ro ow' ro'):Cpy h' p ow' ro' dat vd D :=
 ⟨c.v.keep f.ch.nx fun z hz=>by
  obtain ⟨p1,p2,p3,p4,p5⟩:=c.z z hz
  exact f.ch.get z p1 fun e=>e.elim (fun e=>e p2) p3,fun z hz=>by
  obtain ⟨p1,p2,p3,p4,p5⟩:=c.z z hz
  exact ⟨zp p1 f.ch.nx,by rw [f.tag z p1];exact p2,fun e=>p3 ((f.rtag z p1).1 e),p4,p5⟩⟩
theorem Fm.two {h1 h2:H} {ow1:Nat->Nat} (o:Old h h') (t:To h' h1 ow ow1) (f:Fm h1 h2 ow1 ro ow1 ro'):Fm h h2 ow ro ow1 ro':=(Fm.old o).trans ((Fm.to t).trans f)
end
section
variable {call:Call} {fuel base:Nat} {ops:List Ins} {keep:List Nat} {K:List Fr} {e:Env} {h:H} {Q:Post} {ix:Nat} {dst at_:Option Nat}
theorem Ops.ixAn {x i:Opd} {l vs:List V} {kd:IntKind} {n sz m len:Nat} (hx:x.ev e=some (.agg l)) (hi:i.ev e=some (.int kd (n:Int))) (hn:n<len) (hl:n*sz+m<=l.length) (hv:(l.drop (n*sz)).take m=vs)
  (k:Ops call fuel base ops keep K (layv e dst (.agg vs)) h Q):Ops call fuel base (⟨ix,dst,.ixA len sz (some m) x i,none,at_,[]⟩ :: ops) keep K e h Q:=by
 refine Ops.pure rfl ?_ k
 have h1:Nat.blt n len=true:=by simp [Nat.blt];omega
 have h2:Nat.ble (n*sz+m) l.length=true:=by simpa using hl
 simp only [I.pure,hx,hi]
 show (bif jbS (Int.ofNat n) len then _ else _)=_
 simp only [jbS,h1,cond_true,part]
 show (match (bif Nat.ble (n*sz+m) l.length then some (V.agg ((l.drop (n*sz)).take m)) else none) with | some v=>some v | none=>none)=_
 rw [h2];simp only [cond_true,hv]
end
section
variable {f:Nat->Option (Nat × Nat)} {wv:V} {s:Nat} {now:Int} {no:Option (Nat × Nat)}
theorem jix {i:Nat} (hi:i<96):((jbF f).drop (i*3)).take 3=plc (f i) :=
 jkp (jcu (i:=i) (j:=0) hi om rfl) (jcu (i:=i) (j:=1) hi om rfl) (jcu (i:=i) (j:=2) hi om rfl)
theorem jjK:((wc f wv s now no).drop 0).take 288=jbF f:=by
 unfold wc
 rw [zi,List.take_append_of_le_length (by rw [jax];omega),zf (by rw [jax];omega)]
end
section
variable {cl:Nat->Call} (hcl:Sem cl) {h:H} {w s:Nat} {ow:Nat->Nat} {f:Nat->Option (Nat × Nat)} {l:List WX} {now:Int} {tb:Tb} {no:Option (Nat × Nat)}
include hcl
theorem wf_free_1 {d L bx:Nat} {wl:List V} (hd:2<=d) (I:Nat->H->Prop) (J:H->Prop) (hw:h.get w=some (.cells (wc f (.slice none 0 (.fix 0)) s now no) false)\/h.get w=some (.cells wl false)) (hwl:wl.length=294/\(wl.drop 0).take 288=jbF f) (hbx:h.get bx=some (.cells [.p w 0] false))
  (hI : ∀ i g g',I i g->Old g g'->I i g') (hskip : ∀ i g,i<96->f i≠none->I i g->I (i+1) g)
  (hy : ∀ i g,i<96->f i=none->I i g -> ∃ (b:Bool) (g':H),cl (d-1) (.yld L) [.i (i:Int)] g=some (.bool b,g')/\(b=true->I (i+1) g')/\(b=false->J g'))
  (h0:I 0 h) : ∃ v h',cl d (.fn F.jaI) [.yld L,.p bx 0] h=some (v,h')/\(I 96 h'\/J h'):=by
 have hw : ∃ wl,h.get w=some (.cells wl false)/\wl.length=294/\(wl.drop 0).take 288=jbF f:=by
  rcases hw with hw | hw
  ·exact ⟨_,hw,jbG,jjK⟩
  ·exact ⟨_,hw,hwl⟩
 obtain ⟨wl,hw,hl,ht⟩:=hw
 refine at_ hcl om rfl rfl rfl ?_
 refine qx1 ?_
 refine Ops.loadN rfl hw om ?_
 rw [ht]
 refine qx1 ?_
 refine Run.loop (fun m e g=>∃ i:Nat,m=96-i/\i<=96/\e=[(0,.yld L),(8,.agg (jbF f)),(9,.i i)]/\I i g) (k:=96) (by show _<100000;omega) ⟨0,rfl,by omega,rfl,h0⟩ ?_
 rintro _ _ g ⟨i,rfl,hi,rfl,hIi⟩ n ih
 by_cases hlt:i<96
 case neg=>
  obtain rfl:i=96:=by omega
  have hlt' : ¬ ((96:Nat):Int)<96:=by omega
  refine qx1 ?_
  exact .inl hIi
 have hi1:((i+1:Nat):Int)=(i:Int)+1:=by omega
 refine qx1 ?_
 refine Ops.ixAn (m:=3) rfl rfl hlt (by rw [jax];omega) (jix hlt) ?_
 refine Ops.make rfl rfl ?_
 refine qx1 ?_
 have o1:Old g ((g.new (.cells [.bool false,.i 0,.i 0] false)).set g.nx (.cells (plc (f i)) false)):=((Old.refl g).new).set (zn _)
 have I1:=hI _ _ _ hIi o1
 cases hf:f i with
 | some p=>
  rw [hf] at I1
  refine qm1 ?_
  exact ih (96-(i+1)) om _ _ ⟨i+1,rfl,by omega,by rw [hi1],hskip i _ hlt (by rw [hf];simp) I1⟩
 | none=>
  rw [hf] at I1
  obtain ⟨b,g',e1,q1,q2⟩:=hy i _ hlt hf I1
  cases b
  ·refine qm1 ?_
   refine Ops.yield rfl rfl e1 ?_
   refine qm1 ?_
   exact .inr (q2 rfl)
  ·refine qm1 ?_
   refine Ops.yield rfl rfl e1 ?_
   refine qm1 ?_
   exact ih (96-(i+1)) om _ _ ⟨i+1,rfl,by omega,by rw [hi1],q1 rfl⟩
theorem wp_free {d:Nat} (hd:1<=d):cl d (.fn F.jdb) [.p w 0] h=some (.clo F.jaI [.p h.nx 0],h.new (.cells [.p w 0] false)):=by
 refine jar (at_ hcl om rfl rfl rfl ?_)
 refine qx1 ?_
 refine Ops.make rfl rfl ?_
 refine qx1 ?_
 exact ⟨rfl,rfl⟩
end
theorem jcU (ws:Ws) : ∀ (m n:Nat),n<=m->(jan ws m).take (jan ws n).length=jan ws n
 | 0,n,h=>by
  obtain rfl:n=0:=by omega
  simp
 | m+1,n,h=>by
  by_cases e:n=m+1
  ·subst e;simp
  ·have ih:=jcU ws m n om
   have hl:(jan ws n).length<=(jan ws m).length:=by
    have:=congrArg List.length ih
    rw [List.length_take] at this
    omega
   rw [jcK,List.take_append_of_le_length hl,ih]
section
variable {cl:Nat->Call} (hcl:Sem cl) {h:H} {w s:Nat} {ow:Nat->Nat} {l:List WX} {now:Int} {tb:Tb} {no:Option (Nat × Nat)}
include hcl
theorem jen {d k:Nat} (hd:5<=d) (hk:k=1\/k=2) (a:WW h w s ow l now tb no) (hlen:l.length<=1000) :
  ∃ v h',cl d (.fn F.jbk) [.p w 0,.i (k:Int)] h=some (.tup [v,.bool (decide (((jan (wxs l) 96).take k).length=k)&&decide (l.length<1000))],h')/\VI h' v ((jan (wxs l) 96).take k)/\(∀ z,v.at?=some z->h.nx<=z/\z<h'.nx)/\Old h h':=by
 obtain ⟨sa,c,hw,_⟩:=a.wf.head
 have lw:=a.wf.lw
 suffices q : ∃ v2 h',cl d (.fn F.jbk) [.p w 0,.i (k:Int)] h=some (v2,h') /\ ∃ v,v2 = .tup [v,.bool (decide (((jan (wxs l) 96).take k).length=k)&&decide (l.length<1000))]/\Row h.nx h' 1 v ((jan (wxs l) 96).take k).length (ints ((jan (wxs l) 96).take k))/\Old h h' by
  obtain ⟨_,h',e,v,rfl,r,o⟩:=q
  obtain ⟨p1,p2⟩:=VI.ofRow r
  exact ⟨v,h',e,p1,p2,o⟩
 refine at_ hcl om rfl rfl rfl ?_
 refine qx1 ?_
 refine Ops.make (ob := .cells [.i (k:Int)] false) (mk:=fun b=>.p b 0) rfl rfl ?_
 refine qx1 ?_
 refine Ops.make (ob := .cells [.nils] false) (mk:=fun b=>.p b 0) rfl rfl ?_
 refine qx1 ?_
 refine Ops.callf rfl (wp_free hcl (w:=w) om) ?_
 rw [show ((h.new (.cells [.i (k:Int)] false)).new (.cells [.nils] false)).nx=h.nx+2 from rfl,show (h.new (.cells [.i (k:Int)] false)).nx=h.nx+1 from rfl]
 refine qx1 ?_
 have o1:Old h (((h.new (.cells [.i (k:Int)] false)).new (.cells [.nils] false)).new (.cells [.p w 0] false)):=(Old.refl h).new.new.new
 have b0:(((h.new (.cells [.i (k:Int)] false)).new (.cells [.nils] false)).new (.cells [.p w 0] false)).get h.nx=some (.cells [.i (k:Int)] false):=qgt
 have b1:(((h.new (.cells [.i (k:Int)] false)).new (.cells [.nils] false)).new (.cells [.p w 0] false)).get (h.nx+1)=some (.cells [.nils] false):=qgt
 have b2:(((h.new (.cells [.i (k:Int)] false)).new (.cells [.nils] false)).new (.cells [.p w 0] false)).get (h.nx+2)=some (.cells [.p w 0] false):=qgt
 have x1:(((h.new (.cells [.i (k:Int)] false)).new (.cells [.nils] false)).new (.cells [.p w 0] false)).nx=h.nx+3:=rfl
 generalize ((h.new (.cells [.i (k:Int)] false)).new (.cells [.nils] false)).new (.cells [.p w 0] false)=H1 at o1 b0 b1 b2 x1 ⊢
 refine Run.rangeFunc_lo rfl qkp fun LO hLO=>?_
 rw [x1]
 have oL:Old h (H1.new (LO .ready none)):=o1.new
 obtain ⟨v,h',hc,hIJ⟩:=wf_free_1 hcl (d:=d-1) (L:=h.nx+3) (bx:=h.nx+2) (h:=H1.new (LO .ready none)) (f:=fun i=>atS (wxs l) (i:Int)) (s:=s) (now:=now) (no:=no) (w:=w) (wl:=wc (fun i=>atS (wxs l) (i:Int)) (.slice sa l.length c) s now no) om
  (fun i g=>(jan (wxs l) i).length<=k/\i<=96/\(∃ v,g.get (h.nx+1)=some (.cells [v] false)/\Row (h.nx+4) g 1 v (jan (wxs l) i).length (ints (jan (wxs l) i)))/\g.get h.nx=some (.cells [.i (k:Int)] false)/\g.get (h.nx+3)=some (LO .ready none)/\h.nx+4<=g.nx/\Old h g)
  (fun g=>(∃ v,g.get (h.nx+1)=some (.cells [v] false)/\Row (h.nx+4) g 1 v ((jan (wxs l) 96).take k).length (ints ((jan (wxs l) 96).take k)))/\g.get h.nx=some (.cells [.i (k:Int)] false)/\g.get (h.nx+3)=some (LO .done (some (.exit 0)))/\h.nx+4<=g.nx/\Old h g)
  (.inr (by rw [oL.2 _ lw,hw])) ⟨jbG,jjK⟩ (by rw [jad om,b2])
  (by
   rintro i g g' ⟨p0,p00,⟨v,p1,p2⟩,p3,p4,p5,p6⟩ og
   exact ⟨p0,p00,⟨v,by rw [og.2 _ om,p1],p2.keep og.1 fun z hz=>og.2 z (p2.at_ge hz).2⟩,by rw [og.2 _ om,p3],by rw [og.2 _ om,p4],zx p5 og.1,p6.trans og⟩)
  (by
   rintro i g hi hf ⟨p0,p00,p1,p2⟩
   have e:jan (wxs l) (i+1)=jan (wxs l) i:=by
    have:(atS (wxs l) (i:Int)).isNone=false:=by cases h5:atS (wxs l) (i:Int)<;>simp_all
    rw [jcK,this];simp
   rw [e];exact ⟨p0,by omega,p1,p2⟩)
  (by
   rintro i g hi hf ⟨p0,p00,⟨v,p1,p2⟩,p3,p4,p5,p6⟩
   have hfi:atS (wxs l) (i:Int)=none:=hf
   have e:jan (wxs l) (i+1)=jan (wxs l) i++[(i:Int)]:=by rw [jcK,hfi];rfl
   have hll:=freeL_len (wxs l) i
   obtain ⟨cp,⟨av,rfl⟩,_⟩:=p2.shape
   suffices q : ∃ v' g',cl (d-1-1) (.yld (h.nx+3)) [.i (i:Int)] g=some (v',g') /\ ∃ b:Bool,v' = .bool b/\(b=true->(jan (wxs l) (i+1)).length<=k/\i+1<=96/\(∃ v,g'.get (h.nx+1)=some (.cells [v] false)/\Row (h.nx+4) g' 1 v (jan (wxs l) (i+1)).length (ints (jan (wxs l) (i+1))))/\g'.get h.nx=some (.cells [.i (k:Int)] false)/\g'.get (h.nx+3)=some (LO .ready none)/\h.nx+4<=g'.nx/\Old h g') /\
     (b=false->(∃ v,g'.get (h.nx+1)=some (.cells [v] false)/\Row (h.nx+4) g' 1 v ((jan (wxs l) 96).take k).length (ints ((jan (wxs l) 96).take k)))/\g'.get h.nx=some (.cells [.i (k:Int)] false)/\g'.get (h.nx+3)=some (LO .done (some (.exit 0)))/\h.nx+4<=g'.nx/\Old h g') by
    obtain ⟨_,g',e,b,rfl,q⟩:=q
    exact ⟨b,g',e,q⟩
   refine yl_ hcl om hLO p4 rfl ?_
   refine qx1 ?_
   refine End.nil ⟨rfl,p4,?_⟩
   by_cases hck:(jan (wxs l) i).length=k
   ·have hck':((jan (wxs l) i).length:Int)=(k:Int):=by omega
    refine qx1 ?_
    refine End.nil ⟨⟨.busy,none,qgt⟩,false,rfl,fun e=>(by cases e),fun _=>⟨⟨_,qgt,?_⟩,qgt,jab _,by simpa using p5,?_⟩⟩
    ·rw [<- hck,jcU _ 96 i om]
     exact p2.keep Zd fun z hz=>by have:=p2.at_ge hz;rw [jaa om,jaa om]
    ·exact (p6.set om).set om
   ·have hck' : ¬ ((jan (wxs l) i).length:Int)=(k:Int):=by omega
    refine qx1 ?_
    have p2':Row (h.nx+4) (g.set (h.nx+3) (LO .busy none)) 1 (.slice av (jan (wxs l) i).length cp) (jan (wxs l) i).length (ints (jan (wxs l) i)):=p2.keep Zd fun z hz=>by have:=p2.at_ge hz;exact jaa om
    refine Ops.push (N:=h.nx+4) (new:=[.i (i:Int)]) rfl rfl rfl rfl om rfl rfl p2' (by simpa using p5) om om fun v' g2 row' hx' hz' hk'=>?_
    have hx':g.nx<=g2.nx:=by simpa using hx'
    have hk2 : ∀ j,j<h.nx+4->g2.get j=(g.set (h.nx+3) (LO .busy none)).get j:=fun j hj=>hk' j Zc fun e=>by have:=p2'.at_ge e;omega
    have q1:g2.get (h.nx+1)=some (.cells [.slice av (jan (wxs l) i).length cp] false):=by rw [hk2 _ om];exact qgt
    have hone:=row'.one
    refine Ops.store1 rfl rfl hone q1 Nat.zero_lt_one ?_
    refine qx1 ?_
    refine End.nil ⟨⟨.busy,none,by rw [jaa om,hk2 _ om,jab]⟩,true,rfl,fun _=>⟨by rw [e,ze];simp;omega,by omega,⟨v',qgt,?_⟩,?_,jab _,by simp;omega,?_⟩,fun e=>by cases e⟩
    ·rw [e,ze]
     have r2:Row (h.nx+4) g2 1 v' ((jan (wxs l) i).length+[(i:Int)].length) (ints (jan (wxs l) i++[(i:Int)])):=by simpa [ints] using row'
     exact r2.keep Zd fun z hz=>by have:=hz' z hz;simp at this;rw [jaa om,jaa om]
    ·rw [jaa om,jaa om,hk2 _ om,jaa om,p3]
    ·have p7:=p6.1
     exact ⟨by simp;omega,fun j hj=>by rw [jaa om,jaa om,hk2 _ om,jaa om,p6.2 j hj]⟩)
  ⟨by simp [jan],by omega,⟨.nils,by rw [jad om,b1],by simpa [jan] using Row.nil _ _ _⟩,by rw [jad om,b0],by rw [<- x1,jae],by simp [x1],oL⟩
 refine ⟨v,h',hc,?_⟩
 have fin : ∀ (v:V) (g:H),g.get (h.nx+1)=some (.cells [v] false)->Row (h.nx+4) g 1 v ((jan (wxs l) 96).take k).length (ints ((jan (wxs l) 96).take k))->g.get h.nx=some (.cells [.i (k:Int)] false)->h.nx+4<=g.nx->Old h g ->
   End (cl (d-1)) fuel [.seq c27_1] .normal [(0,.p w 0),(3,.p h.nx 0),(6,.p (h.nx+1) 0),(9,.clo F.jaI [.p (h.nx+2) 0])] (g.kill (h.nx+3)) (Fin c27.res fun v2 h'=>∃ v,v2 = .tup [v,.bool (decide (((jan (wxs l) 96).take k).length=k)&&decide (l.length<1000))]/\Row h.nx h' 1 v ((jan (wxs l) 96).take k).length (ints ((jan (wxs l) 96).take k))/\Old h h'):=by
  intro v g g1 r g0 gn og
  have hw':g.get w=some (.cells (wc (fun i=>atS (wxs l) (i:Int)) (.slice sa l.length c) s now no) false):=by rw [og.2 _ lw,hw]
  have k1:(g.kill (h.nx+3)).get (h.nx+1)=some (.cells [v] false):=by rw [ja4 om,g1]
  have k0:(g.kill (h.nx+3)).get h.nx=some (.cells [.i (k:Int)] false):=by rw [ja4 om,g0]
  have kw:(g.kill (h.nx+3)).get w=some (.cells (wc (fun i=>atS (wxs l) (i:Int)) (.slice sa l.length c) s now no) false):=by rw [ja4 om,hw']
  have w1:(wc (fun i=>atS (wxs l) (i:Int)) (.slice sa l.length c) s now no)[0+288]?=some (.slice sa l.length c):=jcc rfl
  have r2:Row h.nx (g.kill (h.nx+3)) 1 v ((jan (wxs l) 96).take k).length (ints ((jan (wxs l) 96).take k)):=(r.keep Zd fun z hz=>by have:=r.at_ge hz;exact ja4 om).weaken om
  have o2:Old h (g.kill (h.nx+3)):=⟨by simpa using og.1,fun j hj=>by rw [ja4 om,og.2 j hj]⟩
  obtain ⟨cp,⟨av,rfl⟩,_⟩:=r.shape
  generalize (jan (wxs l) 96).take k=fl at r2 k1 ⊢
  by_cases h1:(fl.length:Int)=(k:Int)
  ·have h1':fl.length=k:=by omega
   refine qx1 ?_
   have el:decide (l.length<1000)=decide ((l.length:Int)<1000):=by
    by_cases e:l.length<1000
    ·rw [decide_eq_true e,decide_eq_true om]
    ·rw [decide_eq_false e,decide_eq_false om]
   refine ⟨_,?_,r2,o2⟩
   rw [decide_eq_true h1',Bool.true_and,el]
  ·have h1' : ¬ fl.length=k:=by omega
   refine qx1 ?_
   exact ⟨_,by rw [decide_eq_false h1',Bool.false_and],r2,o2⟩
 rcases hIJ with ⟨p0,_,⟨v,p1,p2⟩,p3,p4,p5,p6⟩ | ⟨⟨v,p1,p2⟩,p3,p4,p5,p6⟩
 ·refine ⟨.normal,p4,?_⟩
  have et:(jan (wxs l) 96).take k=jan (wxs l) 96:=zf p0
  have:=fin v h' p1 (by rw [et];exact p2) p3 p5 p6
  exact zbw this
 ·refine ⟨.exit 0,p4,?_⟩
  have:=fin v h' p1 p2 p3 p5 p6
  exact zby this
end
def jkz (n:Nat):Wi:=⟨⟨0,0,some [],true,false,0,0⟩,⟨0,0,some [],true,false,0,0⟩,n,false,0,[]⟩
def jhP (bb n:Nat):Obj := .cells [.slice (some (bb,0)) n (.fix n),.i 0,.i 0,.int .u64 0,.int .u64 0,.bool true] false
def bufO (n:Nat):Obj := .cells (List.replicate n (.int .u8 0)) false
theorem jes {h:H} {r bb n:Nat} (h1:1<=n) (h2:n<=65536) (hr:h.get r=some (jhP bb n)) (hb:h.get bb=some (bufO n)):jaG h r bb [] n:=by
 refine ⟨List.replicate n 0,0,0,0,⟨hr,?_⟩,?_⟩
 ·rw [hb];simp [bufO,bts];exact .inr rfl
 ·exact ⟨by simp,h1,Nat.zero_le _,h2,fun i hi=>absurd hi (Nat.not_lt_zero _)⟩
def tg:Nat->Nat
 | 0=>0
 | 1=>2
 | 2=>1
 | 3=>4
 | _=>3
def jdf (ow:Nat->Nat) (N L m z:Nat):Nat->Nat:=fun j=>if j=z then 2 else if N<=j/\j<N+m then 10*L+10+tg (j-N) else ow j
theorem jjb {ow:Nat->Nat} {N L m z:Nat} : jdf ow N L m z z=2:=if_pos rfl
theorem jjc {ow:Nat->Nat} {N L m z i:Nat} (h:i<m) (hz:N+i≠z):jdf ow N L m z (N+i)=10*L+10+tg i:=by
 unfold jdf
 rw [if_neg hz,if_pos om,show N+i-N=i by omega]
theorem jd9 {ow:Nat->Nat} {N L m z j:Nat} (h:j<N\/N+m<=j) (hz:j≠z):jdf ow N L m z j=ow j:=by
 unfold jdf
 rw [if_neg hz,if_neg om]
theorem XOk.tag0 {h:H} {ow ow':Nat->Nat} {n:Nat} {t:WX} (a:XOk h ow n t) (hk : ∀ j,ow j≠0->ow' j=ow j):XOk h ow' n t:=by
 refine ⟨a.hx,by rw [hk _ (by rw [a.ox];omega),a.ox],a.lx,fun k h01 q hq=>?_,a.wait.1,fun hl z hz=>?_⟩
 ·obtain ⟨p1,p2,p3,p4,p5⟩:=a.ring k h01 q hq
  exact ⟨p1,by rw [hk _ om,p2],by rw [hk _ om,p3],p4,p5⟩
 ·obtain ⟨p1,p2⟩:=a.wait.2 hl z hz
  exact ⟨by rw [hk _ om,p1],p2⟩
theorem WF.push {h h':H} {w s:Nat} {ow:Nat->Nat} {f g:Nat->Option (Nat × Nat)} {l:List WX} {now:Int} {tb:Tb} {no:Option (Nat × Nat)} {m z N:Nat} {wv:V} {t:WX} (a:WF h w s ow f l now tb no)
  (hm:m=1\/m=5) (hN:N+m<=h.nx) (h0 : ∀ j,N<=j->j<N+m->ow j=0) (hx:h.nx<=z) (hz:z<h'.nx) (hk : ∀ j,ow j≠0->ow j≠2->j≠w->h'.get j=h.get j)
  (hw:h'.get w=some (.cells (wc g wv s now no) false)) (row:Row 0 h' 1 wv (l.length+1) (wps l++[.p N 0])) (hat : ∀ y,wv.at?=some y->y=z)
  (t0:t.wb=N) (t1:m=5->t.b0=N+1/\t.r0=N+2/\t.b1=N+3/\t.r1=N+4)
  (ho:h'.get N=some (t.x.obj t.r0 t.r1 t.wv)) (hwt:t.x.waiting=[]) (hwv:t.wv = .nils)
  (hr : ∀ k,k=0\/k=1 -> ∀ q,(t.x.e k).ring=some q->m=5/\jaG h' (t.r k) (t.b k) q t.x.cap) :
  WF h' w s (jdf ow N l.length m z) g (l++[t]) now tb no:=by
 have hz0:ow z=0:=a.top z hx
 have keep : ∀ j,ow j≠0->jdf ow N l.length m z j=ow j:=fun j hj=>jd9 (by
  rcases zu j N with h1 | h1
  ·exact .inl h1
  ·rcases zu j (N+m) with h2 | h2
   ·exact absurd (h0 j h1 h2) hj
   ·exact .inr h2) fun e=>hj (by rw [e,hz0])
 have nx:h.nx<=h'.nx:=by omega
 refine ⟨⟨wv,hw,?_,fun y hy=>by rw [hat y hy,jjb]⟩,?_,?_,?_,zp a.lw nx,zp a.ls nx,fun j hj=>?_,fun n u hu=>?_⟩
 ·rw [ze]
  show Row 0 h' 1 wv (l.length+1) (wps (l++[t]))
  have:wps (l++[t])=wps l++[.p N 0]:=by rw [<- t0];simp
  rw [this];exact row
 ·rw [hk s (by rw [a.ts];omega) (by rw [a.ts];omega) (fun e=>by have:=a.ts;rw [e,a.tw] at this;omega),a.hs]
 ·rw [keep w (by rw [a.tw];omega),a.tw]
 ·rw [keep s (by rw [a.ts];omega),a.ts]
 ·rw [jd9 om om,a.top j om]
 ·rcases zu n l.length with hn | hn
  ·rw [zd,if_pos hn] at hu
   have o:=(a.ok n u hu).tag0 keep
   refine o.keep nx fun j j1 j2=>?_
   have hj:ow j≠0:=by
    intro e
    rcases zu j N with h1 | h1
    ·by_cases ez:j=z
     ·omega
     ·rw [jd9 (.inl h1) ez,e] at j1;omega
    ·by_cases ez:j=z
     ·rw [ez,jjb] at j1;omega
     ·rcases zu j (N+m) with h2 | h2
      ·obtain ⟨i,rfl⟩ : ∃ i,j=N+i:=⟨j-N,by omega⟩
       rw [jjc om ez] at j2;omega
      ·rw [jd9 (.inr h2) ez,e] at j1;omega
   refine hk j hj (fun e=>?_) fun e=>?_
   ·rw [keep j hj,e] at j1;omega
   ·rw [keep j hj,e,a.tw] at j1;omega
  ·rw [zd,if_neg om] at hu
   have e0:n-l.length=0:=by
    rcases Nat.eq_zero_or_pos (n-l.length) with e | e
    ·exact e
    ·rw [zc (show 1<=_ from e)] at hu;cases hu
   rw [e0] at hu
   cases hu
   obtain rfl:n=l.length:=by omega
   have tag : ∀ i,i<m->jdf ow N l.length m z (N+i)=10*l.length+10+tg i:=fun i hi=>jjc hi om
   refine ⟨by rw [t0];exact ho,by rw [t0];exact tag 0 om,by rw [t0];omega,fun k hk q hq=>?_,by rw [hwt,hwv];exact VI.nil h',fun hl=>absurd hwt hl⟩
   obtain ⟨r1,r2⟩:=hr k hk q hq
   obtain ⟨p1,p2,p3,p4⟩:=t1 r1
   refine ⟨r2,?_⟩
   rcases hk with rfl | rfl
   ·show jdf ow N l.length m z t.r0=_/\jdf ow N l.length m z t.b0=_/\t.r0<h'.nx/\t.b0<h'.nx
    rw [p1,p2]
    exact ⟨tag 2 om,tag 1 om,by omega,by omega⟩
   ·show jdf ow N l.length m z t.r1=_/\jdf ow N l.length m z t.b1=_/\t.r1<h'.nx/\t.b1<h'.nx
    rw [p3,p4]
    exact ⟨tag 4 om,tag 3 om,by omega,by omega⟩
theorem End.opqh {call:Call} {fuel:Nat} {K:List Fr} {x:Ex} {e:Env} {h:H} {Q:Post} (k : ∀ G,G=h->End call fuel K x e G Q):End call fuel K x e h Q:=k h rfl
section
variable {cl:Nat->Call} (hcl:Sem cl)
include hcl
theorem jer {d:Nat} {h:H} {n:Int} (hd:1<=d) (hn:n<0\/65536<n):cl d (.fn F.jhc) [.i n] h=some (.tup [.ptr none,.i 2],h):=by
 refine jar (at_ hcl om rfl rfl rfl ?_)
 rcases hn with hn | hn
 ·refine qx1 ?_
  exact ⟨rfl,rfl⟩
 ·by_cases h0:n<0
  ·exfalso;omega
  ·refine qx1 ?_
   exact ⟨rfl,rfl⟩
theorem xp_both {d:Nat} {h:H} {n:Nat} (hd:2<=d) (h2:n<=65536) :
  ∃ h',cl d (.fn F.jc4) [.i (n:Int)] h=some (.p h.nx 0,h')/\h'.nx=h.nx+5/\Old h h'/\h'.get h.nx=some ((jkz n).obj (h.nx+2) (h.nx+4) .nils)/\h'.get (h.nx+2)=some (jhP (h.nx+1) n)/\h'.get (h.nx+1)=some (bufO n)/\h'.get (h.nx+4)=some (jhP (h.nx+3) n)/\h'.get (h.nx+3)=some (bufO n):=by
 refine jbp (at_ hcl om rfl rfl rfl ?_)
 refine qm1 ?_
 refine Run.unroll (n:=99999) rfl ?_
 refine qm1 ?_
 refine Ops.callf rfl (jjM hcl (n:=n) om h2) ?_
 refine qm1 ?_
 refine End.opqh fun G hG=>?_
 have x1:G.nx=h.nx+3:=by rw [hG];rfl
 have o1:Old h G:=by
  rw [hG]
  repeat (first | exact Old.refl _ | refine Old.new ?_ | refine Old.set ?_ (zn _))
 have g0:G.get h.nx=some (.cells [.i 0,.i 0,.p (h.nx+2) 0,.bool true,.bool false,.int .u64 0,.int .u64 0,.i 0,.i 0,.ptr none,.bool false,.bool false,.int .u64 0,.int .u64 0,.bool false,.i 0,.nils] false):=by
  rw [hG];exact jab _
 have g1:G.get (h.nx+1)=some (bufO n):=by
  rw [hG];rw [jaa om,jaa om,jad (Nat.lt_succ_self _)];exact jae _
 have g2:G.get (h.nx+2)=some (jhP (h.nx+1) n):=by
  rw [hG];rw [jaa om,jaa om];exact jae _
 clear hG
 refine End.unroll ?_
 refine qm1 ?_
 refine Ops.callf rfl (jjM hcl (n:=n) om h2) ?_
 have g0':((G.new (.cells (List.replicate n (.int .u8 0)) false)).new (.cells [.slice (some (G.nx,0)) n (.fix n),.i 0,.i 0,.int .u64 0,.int .u64 0,.bool true] false)).get h.nx=G.get h.nx:=by
  rw [jad Zc,jad om]
 rw [g0] at g0'
 refine qm1 ?_
 refine End.opqh fun G2 hG2=>?_
 have x2:G2.nx=h.nx+5:=by rw [hG2];show G.nx+1+1=_;omega
 have o2:Old h G2:=by
  rw [hG2]
  repeat (first | exact o1 | refine Old.new ?_ | refine Old.set ?_ (zn _))
 have k0:G2.get h.nx=some ((jkz n).obj (h.nx+2) (h.nx+4) .nils):=by
  rw [hG2];refine (jab _).trans ?_
  have:G.nx+1=h.nx+4:=by omega
  rw [<- this];rfl
 have k1:G2.get (h.nx+1)=some (bufO n):=by
  rw [hG2];rw [jaa om,jaa om,jad Zc,jad om];exact g1
 have k2:G2.get (h.nx+2)=some (jhP (h.nx+1) n):=by
  rw [hG2];rw [jaa om,jaa om,jad Zc,jad om];exact g2
 have k3:G2.get (h.nx+3)=some (bufO n):=by
  rw [hG2,<- x1];rw [jaa om,jaa om,jad Zd];exact jae _
 have k4:G2.get (h.nx+4)=some (jhP (h.nx+3) n):=by
  have e:h.nx+4=G.nx+1:=by omega
  rw [hG2,e,<- x1];rw [jaa om,jaa om];exact jae _
 clear hG2
 refine End.unroll ?_
 refine qm1 ?_
 exact ⟨rfl,x2,o2,k0,k2,k1,k4,k3⟩
theorem jgp {d:Nat} {h:H} {n:Int} (hd:2<=d) (hn:n<0\/65536<n) :
  ∃ h',cl d (.fn F.jc4) [.i n] h=some (.p h.nx 0,h')/\h'.nx=h.nx+1/\Old h h'/\h'.get h.nx=some ((⟨⟨0,0,none,true,false,0,0⟩,⟨0,0,none,true,false,0,0⟩,0,false,0,[]⟩:Wi).obj 0 0 .nils):=by
 refine jbp (at_ hcl om rfl rfl rfl ?_)
 refine qm1 ?_
 refine Run.unroll (n:=99999) rfl ?_
 refine qm1 ?_
 refine Ops.callf rfl (jer hcl (n:=n) om hn) ?_
 refine qm1 ?_
 refine End.opqh fun G hG=>?_
 have x1:G.nx=h.nx+1:=by rw [hG];rfl
 have o1:Old h G:=by
  rw [hG]
  repeat (first | exact Old.refl _ | refine Old.new ?_ | refine Old.set ?_ (zn _))
 have g0:G.get h.nx=some (.cells [.i 0,.i 0,.ptr none,.bool true,.bool false,.int .u64 0,.int .u64 0,.i 0,.i 0,.ptr none,.bool false,.bool false,.int .u64 0,.int .u64 0,.bool false,.i 0,.nils] false):=by
  rw [hG];exact jab _
 clear hG
 refine End.unroll ?_
 refine qm1 ?_
 refine Ops.callf rfl (jer hcl (n:=n) om (by assumption)) ?_
 refine qm1 ?_
 refine End.opqh fun G2 hG2=>?_
 have x2:G2.nx=h.nx+1:=by rw [hG2];exact x1
 have o2:Old h G2:=by
  rw [hG2]
  repeat (first | exact o1 | refine Old.new ?_ | refine Old.set ?_ (zn _))
 have k0:G2.get h.nx=some ((⟨⟨0,0,none,true,false,0,0⟩,⟨0,0,none,true,false,0,0⟩,0,false,0,[]⟩:Wi).obj 0 0 .nils):=by
  rw [hG2];exact jab _
 clear hG2
 refine End.unroll ?_
 refine qm1 ?_
 exact ⟨rfl,x2,o2,k0⟩
end
def Wi.name (x:Wi) (k:Nat) (i:Nat):Wi:=x.put k { x.e k with what:=1,fd:=i }
structure Opened (h h':H) (w s N:Nat) (ow:Nat->Nat) (g:Nat->Option (Nat × Nat)) (l:List WX) (now:Int) (no:Option (Nat × Nat)) (o:Obj):Prop where
 ho:h'.get N=some o
 hw : ∃ wv z,h'.get w=some (.cells (wc g wv s now no) false)/\Row 0 h' 1 wv (l.length+1) (wps l++[.p N 0])/\(∀ y,wv.at?=some y->y=z)/\h.nx<=z/\z<h'.nx
 hk : ∀ j,j<h.nx->j≠N->j≠w->ow j≠2->h'.get j=h.get j
 nx:h.nx<=h'.nx
theorem Ops.opqh {call:Call} {fuel base:Nat} {ops:List Ins} {keep:List Nat} {K:List Fr} {e:Env} {h:H} {Q:Post} (k : ∀ G,G=h->Ops call fuel base ops keep K e G Q):Ops call fuel base ops keep K e h Q:=k h rfl
section
variable {cl:Nat->Call} (hcl:Sem cl) {h:H} {w s:Nat} {ow:Nat->Nat} {f:Nat->Option (Nat × Nat)} {l:List WX} {now:Int} {tb:Tb} {no:Option (Nat × Nat)}
include hcl
theorem xp_open2 {d N i0 i1:Nat} {vf wv:V} {x:Wi} {r0 r1:Nat} (hd:1<=d) (a:WF h w s ow f l now tb no) (hN:h.get N=some (x.obj r0 r1 wv)) (hN0:ow N=0) (hNl:N<h.nx) (hl:l.length<1000) (vi:VI h vf [(i0:Int),(i1:Int)]) (vz : ∀ z,vf.at?=some z->ow z=0/\z≠N) (hi:i0<96) (hi1:i1<96) :
  ∃ h',cl d (.fn F.jda) [.p w 0,.p N 0,vf] h=some (.tup [],h')/\Opened h h' w s N ow (fun j=>if j=i1 then some (l.length,1) else if j=i0 then some (l.length,0) else f j) l now no (((x.name 0 i0).name 1 i1).obj r0 r1 wv):=by
 obtain ⟨wv0,hw,row,hz⟩:=a.hw
 obtain ⟨cp,⟨av,rfl⟩,_⟩:=row.shape
 obtain ⟨af,cf,rfl,_⟩:=id vi
 obtain ⟨b,of,cs,ro,rfl,hcs,hc0⟩:=VI.cell (l:=[(i0:Int),(i1:Int)]) vi (i:=0) (x:=(i0:Int)) rfl
 obtain ⟨_,_,_,_,e0,ecs,hc1⟩:=VI.cell (l:=[(i0:Int),(i1:Int)]) vi (i:=1) (x:=(i1:Int)) rfl
 cases e0
 rw [hcs] at ecs;cases ecs
 have hNw:N≠w:=fun e=>by have:=a.tw;rw [<- e] at this;omega
 have hbN:=vz b rfl
 have hwN:w≠N:=fun e=>hNw e.symm
 have hbw:b≠w:=fun e=>by have:=a.tw;rw [<- e] at this;omega
 have c1:(wc f (.slice av l.length cp) s now no)[0+288]?=some (.slice av l.length cp):=jcc rfl
 obtain ⟨⟨a0,b0,c0,d0,e0,f0,g0⟩,⟨a1,b1,c1',d1,e1,f1,g1⟩,cap,rs,bl,wt⟩:=x
 simp only [Wi.obj,Wi.cells,En.cells,List.cons_append,List.nil_append] at hN
 refine jbp (at_ hcl om rfl rfl rfl ?_)
 refine qm1 ?_
 refine Run.unroll (n:=99999) rfl ?_
 refine qm1 ?_
 refine Ops.opqh fun H1 hH1=>?_
 have n1:H1.nx=h.nx:=by rw [hH1];rfl
 have k1 : ∀ j,j≠N->H1.get j=h.get j:=by intro j hj;rw [hH1,jaa hj,jaa hj]
 have q1:H1.get N=some (.cells [.i 1,.i i0,En.ptr c0 r0,.bool d0,.bool e0,.int .u64 f0,.int .u64 g0,.i a1,.i b1,En.ptr c1' r1,.bool d1,.bool e1,.int .u64 f1,.int .u64 g1,.bool rs,.i bl,wv] false):=by rw [hH1];exact jab _
 clear hH1
 have hw1:H1.get w=some (.cells (wc f (.slice av l.length cp) s now no) false):=by rw [k1 w hwN,hw]
 have e3:ja2 (wc f (.slice av l.length cp) s now no) (0+0+(i0:Int).toNat*3) [.bool true,.i (l.length:Int),.i 0]=wc (fun j=>if j=i0 then some (l.length,0) else f j) (.slice av l.length cp) s now no:=jdv (p:=some (l.length,0)) hi om fun j _=>rfl
 have hlen:0+0+(i0:Int).toNat*3+3<=(wc f (.slice av l.length cp) s now no).length:=by rw [jbG];omega
 refine Ops.storeN (vs:=[.bool true,.i (l.length:Int),.i 0]) rfl rfl rfl rfl hw1 hlen ?_
 rw [e3]
 clear e3 hlen
 refine qm1 ?_
 refine End.opqh fun H2 hH2=>?_
 have n2:H2.nx=h.nx:=by rw [hH2];exact n1
 have k2 : ∀ j,j≠N->j≠w->H2.get j=h.get j:=by intro j hj hj2;rw [hH2,jaa hj2,k1 j hj]
 have q2:H2.get N=some (.cells [.i 1,.i i0,En.ptr c0 r0,.bool d0,.bool e0,.int .u64 f0,.int .u64 g0,.i a1,.i b1,En.ptr c1' r1,.bool d1,.bool e1,.int .u64 f1,.int .u64 g1,.bool rs,.i bl,wv] false):=by rw [hH2,jaa hNw,q1]
 have hw2:H2.get w=some (.cells (wc (fun j=>if j=i0 then some (l.length,0) else f j) (.slice av l.length cp) s now no) false):=by rw [hH2,jab]
 clear hH2 hw1 q1 k1
 obtain ⟨fA,hfA⟩ : ∃ fA,(fun j=>if j=i0 then some (l.length,0) else f j)=fA:=⟨_,rfl⟩
 rw [hfA] at hw2
 have c2A:(wc fA (.slice av l.length cp) s now no)[0+288]?=some (.slice av l.length cp):=jcc rfl
 have hcs2:H2.get b=some (.cells cs ro):=by rw [k2 b hbN.2 hbw,hcs]
 refine End.unroll ?_
 refine qm1 ?_
 refine Ops.opqh fun H4 hH4=>?_
 have n4:H4.nx=h.nx:=by rw [hH4];exact n2
 have k4 : ∀ j,j≠N->H4.get j=H2.get j:=by intro j hj;rw [hH4,jaa hj,jaa hj]
 have q4:H4.get N=some (.cells [.i 1,.i i0,En.ptr c0 r0,.bool d0,.bool e0,.int .u64 f0,.int .u64 g0,.i 1,.i i1,En.ptr c1' r1,.bool d1,.bool e1,.int .u64 f1,.int .u64 g1,.bool rs,.i bl,wv] false):=by rw [hH4];exact jab _
 clear hH4
 have hw4:H4.get w=some (.cells (wc fA (.slice av l.length cp) s now no) false):=by rw [k4 w hwN,hw2]
 have e3:ja2 (wc fA (.slice av l.length cp) s now no) (0+0+(i1:Int).toNat*3) [.bool true,.i (l.length:Int),.i 1]=wc (fun j=>if j=i1 then some (l.length,1) else fA j) (.slice av l.length cp) s now no:=jdv (p:=some (l.length,1)) hi1 om fun j _=>rfl
 have hlen:0+0+(i1:Int).toNat*3+3<=(wc fA (.slice av l.length cp) s now no).length:=by rw [jbG];omega
 refine Ops.storeN (vs:=[.bool true,.i (l.length:Int),.i 1]) rfl rfl rfl rfl hw4 hlen ?_
 rw [e3]
 clear e3 hlen
 refine qm1 ?_
 refine End.opqh fun H5 hH5=>?_
 have n5:H5.nx=h.nx:=by rw [hH5];exact n4
 have k5 : ∀ j,j≠N->j≠w->H5.get j=h.get j:=by intro j hj hj2;rw [hH5,jaa hj2,k4 j hj,k2 j hj hj2]
 have q5:H5.get N=some (.cells [.i 1,.i i0,En.ptr c0 r0,.bool d0,.bool e0,.int .u64 f0,.int .u64 g0,.i 1,.i i1,En.ptr c1' r1,.bool d1,.bool e1,.int .u64 f1,.int .u64 g1,.bool rs,.i bl,wv] false):=by rw [hH5,jaa hNw,q4]
 have hw5:H5.get w=some (.cells (wc (fun j=>if j=i1 then some (l.length,1) else fA j) (.slice av l.length cp) s now no) false):=by rw [hH5,jab]
 clear hH5 hw4 q4 k4 c2A hcs2
 have hgA:(fun j=>if j=i1 then some (l.length,1) else fA j)=fun j=>if j=i1 then some (l.length,1) else if j=i0 then some (l.length,0) else f j:=by rw [<- hfA]
 rw [hgA] at hw5
 clear hgA hfA
 generalize hg:(fun j=>if j=i1 then some (l.length,1) else if j=i0 then some (l.length,0) else f j)=g at hw5 ⊢
 have c2:(wc g (.slice av l.length cp) s now no)[0+288]?=some (.slice av l.length cp):=jcc rfl
 refine End.unroll ?_
 refine qx1 ?_
 have hzN : ∀ z,(V.slice av l.length cp).at?=some z->z≠N/\z≠w:=fun z e=>⟨fun e2=>by have:=hz z e;rw [e2,hN0] at this;omega,fun e2=>by have:=hz z e;rw [e2,a.tw] at this;omega⟩
 have row2:Row 0 H5 1 (.slice av l.length cp) l.length (wps l):=row.keep om fun z e=>k5 z (hzN z e).1 (hzN z e).2
 refine Ops.push (N:=0) (new:=[.p N 0]) rfl rfl rfl rfl om rfl rfl row2 (Nat.zero_le _) om om fun v' H3 row3 hx3 hz3 hk3=>?_
 have k3 : ∀ j,j<h.nx->ow j≠2->H3.get j=H5.get j:=fun j hj ho=>hk3 j om fun e=>ho (hz j e)
 have hw3:H3.get w=some (.cells (wc g (.slice av l.length cp) s now no) false):=by rw [k3 w a.lw (by rw [a.tw];omega),hw5]
 have q3:H3.get N=some (.cells [.i 1,.i i0,En.ptr c0 r0,.bool d0,.bool e0,.int .u64 f0,.int .u64 g0,.i 1,.i i1,En.ptr c1' r1,.bool d1,.bool e1,.int .u64 f1,.int .u64 g1,.bool rs,.i bl,wv] false):=by rw [k3 N hNl om,q5]
 have hlen:0+288<(wc g (.slice av l.length cp) s now no).length:=by rw [jbG];omega
 have hone:=row3.one
 refine qx1 ?_
 refine Ops.store1 rfl rfl hone hw3 hlen ?_
 rw [jfz rfl]
 refine qx1 ?_
 have hzw : ∀ z,v'.at?=some z->z≠w:=fun z e=>by have:=hz3 z e;have:=a.lw;omega
 refine ⟨rfl,by rw [jaa hNw,q3];rfl,⟨v',?_⟩,fun j hj h1 h2 h3=>by rw [jaa h2,k3 j hj h3,k5 j h1 h2],by show h.nx<=H3.nx;omega⟩
 rcases id row3 with ⟨h0,_⟩ | ⟨z,_,z1,rfl,_,_⟩
 ·omega
 ·refine ⟨z,jab _,row3.keep (zn _) fun y e=>jaa (hzw y e),fun y e=>by cases e;rfl,by have:=hz3 z rfl;omega,z1⟩
end
theorem tab_push2 {ws:Ws} {x:Wi} {i0 i1 j:Nat} (u:Uniq (ws++[x])) (w0:x.e0.what=1) (f0:x.e0.fd=i0) (w1:x.e1.what=1) (f1:x.e1.fd=i1) (hne:i0≠i1) :
  (if j=i1 then some (ws.length,1) else if j=i0 then some (ws.length,0) else atS ws (j:Int))=atS (ws++[x]) (j:Int):=by
 have hL:(ws++[x])[ws.length]?=some x:=by simp
 by_cases e:j=i1
 ·subst e
  rw [if_pos rfl,jdr u (n:=ws.length) (k:=1) ⟨x,hL,.inr rfl,w1,f1⟩]
 rw [if_neg e]
 by_cases e:j=i0
 ·subst e
  rw [if_pos rfl,jdr u (n:=ws.length) (k:=0) ⟨x,hL,.inl rfl,w0,f0⟩]
 rw [if_neg e]
 refine ji6 fun n k=>⟨fun h=>?_,fun h=>?_⟩
 ·obtain ⟨y,hy,r⟩:=h
  exact ⟨y,jeH hy,r⟩
 ·rcases jc2 h with h | ⟨_,hk,h1,h2⟩
  ·exact h
  ·rcases hk with rfl | rfl
   ·have h2:x.e0.fd=(j:Int):=h2
    omega
   ·have h2:x.e1.fd=(j:Int):=h2
    omega
theorem WW.newWire {h0 h2 h':H} {w s m r0 r1:Nat} {ow:Nat->Nat} {g:Nat->Option (Nat × Nat)} {l:List WX} {x:Wi} {now:Int} {tb:Tb} {no:Option (Nat × Nat)} (a:WW h0 w s ow l now tb no) (o1:Old h0 h2) (hm:m=1\/m=5) (hN:h0.nx+m<=h2.nx)
  (h01:m=5->r0=h0.nx+2/\r1=h0.nx+4) (p:Opened h2 h' w s h0.nx ow g l now no (x.obj r0 r1 .nils)) (hwt:x.waiting=[]) (hg : ∀ j,j<96->g j=atS (wxs l++[x]) (j:Int)) (hfd : ∀ k,k=0\/k=1->(x.e k).what=1->0<=(x.e k).fd/\(x.e k).fd<=95)
  (hr : ∀ k,k=0\/k=1 -> ∀ q,(x.e k).ring=some q->m=5/\jaG h2 (two r0 r1 k) (two (h0.nx+1) (h0.nx+3) k) q x.cap) :
  ∃ ow',WSt h' w s ow' (wxs l++[x]) now tb no/\To h0 h' ow ow':=by
 obtain ⟨wv,z,p1,p2,p3,p4,p5⟩:=p.hw
 have a2:=a.wf.old o1
 have lw:=a.wf.lw
 have h00 : ∀ j,h0.nx<=j->ow j=0:=a.wf.top
 have keep : ∀ j,h0.nx<j->j<h0.nx+m->h'.get j=h2.get j:=fun j j1 j2=>p.hk j om om om (by rw [h00 j om];omega)
 have F:=a2.push (t:=⟨x,h0.nx,r0,h0.nx+1,r1,h0.nx+3,.nils⟩) (m:=m) (z:=z) (N:=h0.nx) hm hN (fun j j1 _=>h00 j j1) p4 p5
  (fun j j1 j2 j3=>p.hk j (a2.lt_of j1) (fun e=>j1 (by rw [e];exact h00 _ (zn _))) j3 j2) p1 p2 p3 rfl (fun e=>⟨rfl,(h01 e).1,rfl,(h01 e).2⟩) p.ho hwt rfl
  (fun k hk q hq=>by
   obtain ⟨e5,R⟩:=hr k hk q hq
   obtain ⟨e0,e1⟩:=h01 e5
   refine ⟨e5,?_⟩
   subst e0 e1
   rcases hk with rfl | rfl
   ·exact R.keep (keep _ (by show h0.nx<h0.nx+2;omega) (by show h0.nx+2<_;omega)) (keep _ (by show h0.nx<h0.nx+1;omega) (by show h0.nx+1<_;omega))
   ·exact R.keep (keep _ (by show h0.nx<h0.nx+4;omega) (by show h0.nx+4<_;omega)) (keep _ (by show h0.nx<h0.nx+3;omega) (by show h0.nx+3<_;omega)))
 have ez:wxs (l++[(⟨x,h0.nx,r0,h0.nx+1,r1,h0.nx+3,.nils⟩:WX)])=wxs l++[x]:=by simp
 refine ⟨_,⟨_,⟨F.congr fun j hj=>by rw [ez];exact (hg j hj).symm,fun n k fd hf=>?_⟩,ez⟩,⟨⟨zx o1.1 p.nx,fun j hj ho=>?_⟩,fun j hj=>?_⟩⟩
 ·rw [ez] at hf
  rcases jc2 hf with hf | ⟨_,hk,q1,q2⟩
  ·exact a.fds n k fd hf
  ·rw [<- q2];exact hfd k hk q1
 ·have ho:ow j=0:=Classical.not_not.1 ho
  rw [p.hk j (zp hj o1.1) om (fun e=>by rw [e,a.wf.tw] at ho;omega) om,o1.2 j hj]
 ·exact jd9 (.inl hj) (by have:=o1.1;omega)
section
variable {cl:Nat->Call} (hcl:Sem cl) {h:H} {w s:Nat} {ow:Nat->Nat} {l:List WX} {now:Int} {tb:Tb} {no:Option (Nat × Nat)}
include hcl
theorem jiB {d:Nat} {n:Int} (hd:1<=d):cl d (.fn F.jed) [.i n] h=some (.bool (decide (1<=n/\n<=65536)),h):=by
 refine jar (at_ hcl om rfl rfl rfl ?_)
 by_cases h1:1<=n
 ·by_cases h2:n<=65536
  ·refine qx1 ?_
   exact ⟨by rw [decide_eq_true (show 1<=n/\n<=65536 from ⟨h1,h2⟩)];simp [h2],rfl⟩
  ·refine qx1 ?_
   exact ⟨by rw [decide_eq_false (show ¬ (1<=n/\n<=65536) from fun e=>h2 e.2)];simp [h2],rfl⟩
 ·refine qx1 ?_
  exact ⟨by rw [decide_eq_false (show ¬ (1<=n/\n<=65536) from fun e=>h1 e.1)],rfl⟩
theorem jgo {d k N:Nat} {n:Int} (hd:3<=d) (a:WW h w s ow l now tb no) (hn:n<1\/65536<n):cl d (.fn F.jav) [.p w 0,.i n,.i (k:Int),.p N 0] h=some (.tup [.nils,.i 2],h):=by
 have h1:=jeB hcl (d:=d-1) om a.wf
 have h2:=jiB hcl (h:=h) (d:=d-1) (n:=n) om
 rw [decide_eq_false om] at h2
 clear hn
 refine jar (at_ hcl om rfl rfl rfl ?_)
 refine qx1 ?_
 exact ⟨rfl,rfl⟩
theorem jfw {d k N:Nat} {n:Int} (hd:6<=d) (hk:k=1\/k=2) (a:WW h w s ow l now tb no) (ol:l.length<=1000) (hn1:1<=n) (hn2:n<=65536) (hb:((jan (wxs l) 96).take k).length≠k\/1000<=l.length) :
  ∃ h',cl d (.fn F.jav) [.p w 0,.i n,.i (k:Int),.p N 0] h=some (.tup [.nils,.i 112],h')/\Old h h':=by
 have h1:=jeB hcl (d:=d-1) om a.wf
 have h2:=jiB hcl (h:=h) (d:=d-1) (n:=n) om
 rw [decide_eq_true om] at h2
 obtain ⟨v,g,e,p1,p2,old⟩:=jen hcl (d:=d-1) (k:=k) om hk a ol
 have eb:(decide (((jan (wxs l) 96).take k).length=k)&&decide (l.length<1000))=false:=by
  rcases hb with hb | hb
  ·rw [decide_eq_false hb,Bool.false_and]
  ·rw [decide_eq_false (show ¬ l.length<1000 by omega),Bool.and_false]
 rw [eb] at e
 clear hb eb hk
 refine jbp (at_ hcl om rfl rfl rfl ?_)
 refine qx1 ?_
 exact ⟨rfl,old⟩
theorem xp_make2 {d N i0 i1:Nat} {n:Int} {x:Wi} {r0 r1:Nat} {wv:V} (hd:6<=d) (a:WW h w s ow l now tb no) (hn1:1<=n) (hn2:n<=65536) (hf:(jan (wxs l) 96).take 2=[(i0:Int),(i1:Int)]) (hi:i0<96) (hi1:i1<96) (hl:l.length<1000)
  (hN:h.get N=some (x.obj r0 r1 wv)) (hN0:ow N=0) (hNl:N<h.nx) :
  ∃ v h2 h',cl d (.fn F.jav) [.p w 0,.i n,.i ((2:Nat):Int),.p N 0] h=some (.tup [v,.i 0],h')/\VI h' v [(i0:Int),(i1:Int)]/\Old h h2/\Opened h2 h' w s N ow (fun j=>if j=i1 then some (l.length,1) else if j=i0 then some (l.length,0) else atS (wxs l) (j:Int)) l now no (((x.name 0 i0).name 1 i1).obj r0 r1 wv):=by
 have h1:=jeB hcl (d:=d-1) om a.wf
 have h2:=jiB hcl (h:=h) (d:=d-1) (n:=n) om
 rw [decide_eq_true om] at h2
 obtain ⟨v,g,e,p1,p2,old⟩:=jen hcl (d:=d-1) (k:=2) om (.inr rfl) a om
 rw [hf] at e p1
 rw [decide_eq_true (show [(i0:Int),(i1:Int)].length=2 from rfl),decide_eq_true hl] at e
 have ag:=a.wf.old old
 obtain ⟨g2,e2,op⟩:=xp_open2 hcl (d:=d-1) (N:=N) (i0:=i0) (i1:=i1) (vf:=v) (wv:=wv) (x:=x) (r0:=r0) (r1:=r1) om ag (by rw [old.2 N hNl,hN]) hN0 (zp hNl old.1) hl p1 (fun z hz=>⟨a.wf.top z (p2 z hz).1,by have:=p2 z hz;omega⟩) hi hi1
 suffices q : ∃ v2 h',cl d (.fn F.jav) [.p w 0,.i n,.i ((2:Nat):Int),.p N 0] h=some (v2,h')/\(v2 = .tup [v,.i 0]/\h'=g2) by
  obtain ⟨_,_,q,rfl,rfl⟩:=q
  refine ⟨v,g,_,q,p1.keep op.nx fun z hz=>?_,old,op⟩
  have:=p2 z hz
  have:=a.wf.lw
  exact op.hk z om om om (by rw [a.wf.top z om];omega)
 clear hf
 refine at_ hcl om rfl rfl rfl ?_
 refine qx1 ?_
 exact ⟨rfl,rfl⟩
end
theorem freeL_two {ws:Ws} {f0:Int} {fs:List Int} (h:jan ws 96=f0 :: fs):(∃ i0:Nat,f0=i0/\i0<96) /\ ∀ f1 r,fs=f1 :: r -> ∃ i1:Nat,f1=i1/\i1<96/\f0≠f1:=by
 constructor
 ·obtain ⟨i,e,hi,_⟩:=jcs (ws:=ws) (n:=96) (f:=f0) (by rw [h];simp)
  exact ⟨i,e,hi⟩
 ·rintro f1 r rfl
  obtain ⟨i,e,hi,_⟩:=jcs (ws:=ws) (n:=96) (f:=f1) (by rw [h];simp)
  refine ⟨i,e,hi,fun e2=>?_⟩
  have nd:=jdL ws 96
  rw [h,e2] at nd
  exact absurd nd Zd
section
variable {cl:Nat->Call} (hcl:Sem cl) {h:H} {w s:Nat} {ow:Nat->Nat} {l:List WX} {now:Int} {tb:Tb} {no:Option (Nat × Nat)}
include hcl
theorem xp_mk2 {d m r0 r1:Nat} {kind n:Int} {x:Wi} {h1:H} (hd:6<=d) (hk:kind=0\/kind=1) (K:WsK (wxs l)) (a:WW h w s ow l now tb no) (o1:Old h h1)
  (good:1<=n->n<=65536->h.nx+5<=h1.nx/\h1.get h.nx=some (x.obj (h.nx+2) (h.nx+4) .nils)/\x.waiting=[]/\(∀ i0 i1:Nat,(x.name 0 i0).name 1 i1=newW kind n i0 i1) /\ ∀ k,k=0\/k=1->jaG h1 (two (h.nx+2) (h.nx+4) k) (two (h.nx+1) (h.nx+3) k) [] n.toNat) :
  ∃ v h' ow',cl d (.fn F.jav) [.p w 0,.i n,.i ((2:Nat):Int),.p h.nx 0] h1=some (.tup [v,.i (jaS (wxs l) kind n).1.2],h')/\VI h' v (jaS (wxs l) kind n).1.1/\WSt h' w s ow' (jaS (wxs l) kind n).2 now tb no/\To h h' ow ow':=by
 have a1:=a.old o1
 have K':=jh0 (kind:=kind) (n:=n) om K
 by_cases hn:n<1\/65536<n
 ·have e:jaS (wxs l) kind n=(([],2),wxs l):=if_pos om
  rw [e]
  exact ⟨_,h1,ow,jgo hcl om a1 hn,VI.nil h1,⟨l,a1,rfl⟩,To.of_old o1⟩
 have eS:jaS (wxs l) kind n=_:=if_neg om
 have hlw:(wxs l).length=l.length:=by simp
 have ol:l.length<=1000:=by have:=K.ok.len;omega
 have many:((jan (wxs l) 96).take 2).length≠2\/1000<=l.length -> ∃ h',cl d (.fn F.jav) [.p w 0,.i n,.i ((2:Nat):Int),.p h.nx 0] h1=some (.tup [.nils,.i 112],h')/\Old h1 h':=fun hb=>jfw hcl hd (.inr rfl) a1 ol om om hb
 cases hF:jan (wxs l) 96 with
 | nil=>
  simp only [hF] at eS;rw [eS]
  obtain ⟨h',e,o2⟩:=many (.inl (by rw [hF];simp))
  exact ⟨_,h',ow,e,VI.nil h',⟨l,a1.old o2,rfl⟩,To.of_old (o1.trans o2)⟩
 | cons f0 fs=>
  simp only [hF] at eS
  by_cases hbad:(fs=[]/\kind<2)\/1000<=(wxs l).length
  ·rw [if_pos hbad] at eS;rw [eS]
   obtain ⟨h',e,o2⟩:=many (hbad.imp (fun e=>by rw [hF,e.1];simp) fun e=>by omega)
   exact ⟨_,h',ow,e,VI.nil h',⟨l,a1.old o2,rfl⟩,To.of_old (o1.trans o2)⟩
  ·rw [if_neg hbad] at eS
   cases fs with
   | nil=>exact absurd (.inl ⟨rfl,by omega⟩) hbad
   | cons f1 r=>
    obtain ⟨⟨i0,rfl,l0⟩,q⟩:=freeL_two hF
    obtain ⟨i1,rfl,l1,hne⟩:=q f1 r rfl
    have eS:jaS (wxs l) kind n=(([(i0:Int),(i1:Int)],0),wxs l++[newW kind n i0 i1]):=by
     rw [eS,if_pos om];rfl
    rw [eS] at K'
    obtain ⟨g1,g2,g3,g4,g5⟩:=good om om
    have hN0:=a.wf.top h.nx (zn _)
    obtain ⟨v,h2,h',e,p1,o2,op⟩:=xp_make2 hcl (N:=h.nx) (i0:=i0) (i1:=i1) hd a1 (n:=n) om om (by rw [hF];rfl) l0 l1 om g2 hN0 om
    rw [g4] at op
    have hx0:(newW kind n i0 i1).e0.what=1/\(newW kind n i0 i1).e0.fd=i0/\(newW kind n i0 i1).e1.what=1/\(newW kind n i0 i1).e1.fd=i1/\(newW kind n i0 i1).waiting=[]/\(newW kind n i0 i1).cap=n.toNat/\(∀ q,(newW kind n i0 i1).e0.ring=some q->q=[]) /\ ∀ q,(newW kind n i0 i1).e1.ring=some q->q=[]:=by
     rcases hk with rfl | rfl
     ·exact ⟨rfl,rfl,rfl,rfl,rfl,rfl,fun q hq=>by (have hq:some []=some q:=hq);cases hq;rfl,fun q hq=>by (have hq:none=some q:=hq);cases hq⟩
     ·exact ⟨rfl,rfl,rfl,rfl,rfl,rfl,fun q hq=>by (have hq:some []=some q:=hq);cases hq;rfl,fun q hq=>by (have hq:some []=some q:=hq);cases hq;rfl⟩
    obtain ⟨z1,z2,z3,z4,z5,z6,z7,z8⟩:=hx0
    generalize newW kind n i0 i1=y at op eS z1 z2 z3 z4 z5 z6 z7 z8 K'
    obtain ⟨ow',W,T⟩:=a.newWire (m:=5) (o1.trans o2) (.inr rfl) (zx g1 o2.1) (fun _=>⟨rfl,rfl⟩) op z5
     (fun j _=>by have:=tab_push2 (j:=j) K'.ok.uniq z1 z2 z3 z4 om;rw [hlw] at this;exact this)
     (fun k hk' h1'=>by
      rcases hk' with rfl | rfl
      ·show 0<=y.e0.fd/\y.e0.fd<=95;omega
      ·show 0<=y.e1.fd/\y.e1.fd<=95;omega)
     (fun k hk' q hq=>by
      refine ⟨rfl,?_⟩
      have R:=g5 k hk'
      have eq:q=[]:=by
       rcases hk' with rfl | rfl
       ·exact z7 q hq
       ·exact z8 q hq
      rw [eq,z6]
      refine R.keep (o2.2 _ ?_) (o2.2 _ ?_)<;>(rcases hk' with rfl | rfl<;>simp only [two]<;>omega))
    rw [eS]
    exact ⟨v,h',ow',e,p1,W,T⟩
end
theorem jip {ws:Ws} {kind n:Int} (hk:kind<2):((jaS ws kind n).1.2=0 /\ ∃ a b,(jaS ws kind n).1.1=[a,b])\/((jaS ws kind n).1.2≠0/\(jaS ws kind n).1.1=[]):=by
 unfold jaS
 split
 ·exact .inr ⟨by show (2:Int)≠0;omega,rfl⟩
 split
 ·exact .inr ⟨by show (112:Int)≠0;omega,rfl⟩
 next f0 fs hF=>
 split
 ·exact .inr ⟨by show (112:Int)≠0;omega,rfl⟩
 next hb=>
 cases fs with
 | nil=>exact absurd (.inl ⟨rfl,hk⟩) hb
 | cons f1 r=>exact .inl ⟨rfl,f0,f1,rfl⟩
theorem WSt.len {h:H} {w s:Nat} {ow:Nat->Nat} {ws:Ws} {now:Int} {tb:Tb} {no:Option (Nat × Nat)} (a:WSt h w s ow ws now tb no) : ∃ f av cp,h.get w=some (.cells (wc f (.slice av ws.length cp) s now no) false):=by
 obtain ⟨l,a,rfl⟩:=a
 obtain ⟨av,cp,hw,_⟩:=a.wf.head
 exact ⟨fun i=>atS (wxs l) (i:Int),av,cp,by rw [hw,List.length_map]⟩
section
variable {cl:Nat->Call} (hcl:Sem cl) {h:H} {w s:Nat} {ow:Nat->Nat} {ws:Ws} {now:Int} {tb:Tb} {no:Option (Nat × Nat)}
include hcl
theorem xp_both_x {d:Nat} {n:Int} (hd:2<=d) :
  ∃ h1 q0 q1 r0 r1 c,cl d (.fn F.jc4) [.i n] h=some (.p h.nx 0,h1)/\Old h h1/\h.nx<h1.nx/\h1.get h.nx=some ((⟨⟨0,0,q0,true,false,0,0⟩,⟨0,0,q1,true,false,0,0⟩,c,false,0,[]⟩:Wi).obj r0 r1 .nils) /\
   (1<=n->n<=65536->h1.nx=h.nx+5/\q0=some []/\q1=some []/\r0=h.nx+2/\r1=h.nx+4/\c=n.toNat /\ ∀ k,k=0\/k=1->jaG h1 (two (h.nx+2) (h.nx+4) k) (two (h.nx+1) (h.nx+3) k) [] n.toNat):=by
 by_cases hn:n<0\/65536<n
 ·obtain ⟨h1,e,x1,o1,g0⟩:=jgp hcl (h:=h) hd hn
  exact ⟨h1,_,_,_,_,_,e,o1,by omega,g0,fun _ _=>by omega⟩
 ·obtain ⟨m,rfl⟩:=zw (show 0<=n by omega)
  obtain ⟨h1,e,x1,o1,g0,g2,g1,g4,g3⟩:=xp_both hcl (h:=h) (n:=m) hd om
  refine ⟨h1,_,_,_,_,_,e,o1,by omega,g0,fun p1 p2=>⟨x1,rfl,rfl,rfl,rfl,rfl,fun k hk=>?_⟩⟩
  rcases hk with rfl | rfl
  ·exact jes om om g2 g1
  ·exact jes om om g4 g3
theorem ww_Pair {d:Nat} {n:Int} (hd:7<=d) (K:WsK ws) (a:WSt h w s ow ws now tb no) :
  ∃ x y h' ow',cl d (.fn F.jbC) [.p w 0,.i n] h=some (.tup [.i x,.i y,.i (jaS ws 1 n).1.2],h')/\((jaS ws 1 n).1.2=0->(jaS ws 1 n).1.1=[x,y])/\((jaS ws 1 n).1.2≠0->x=0/\y=0)/\WSt h' w s ow' (jaS ws 1 n).2 now tb no/\To h h' ow ow':=by
 obtain ⟨l,a,rfl⟩:=a
 obtain ⟨h1,q0,q1,r0,r1,c,e1,o1,x1,g0,good⟩:=xp_both_x hcl (h:=h) (d:=d-1) (n:=n) om
 obtain ⟨v,h',ow',e2,p1,W,T⟩:=xp_mk2 hcl (d:=d-1) (kind:=1) (n:=n) (m:=0) (r0:=0) (r1:=0) om (.inr rfl) K a o1 fun n1 n2=>by
  obtain ⟨y1,rfl,rfl,rfl,rfl,rfl,R⟩:=good n1 n2
  exact ⟨by omega,g0,rfl,fun _ _=>rfl,R⟩
 have e2:cl (d-1) (.fn F.jav) [.p w 0,.i n,.i 2,.p h.nx 0] h1=_:=e2
 clear good
 suffices q : ∃ v h',cl d (.fn F.jbC) [.p w 0,.i n] h=some (v,h') /\ ∃ x y,v = .tup [.i x,.i y,.i (jaS (wxs l) 1 n).1.2]/\((jaS (wxs l) 1 n).1.2=0->(jaS (wxs l) 1 n).1.1=[x,y])/\((jaS (wxs l) 1 n).1.2≠0->x=0/\y=0)/\WSt h' w s ow' (jaS (wxs l) 1 n).2 now tb no/\To h h' ow ow' by
  obtain ⟨_,h',e,x,y,rfl,q⟩:=q;exact ⟨x,y,h',ow',e,q⟩
 rcases jip (ws:=wxs l) (n:=n) (kind:=1) om with ⟨m1,x,y,m2⟩ | ⟨m1,m2⟩
 ·rw [m2] at p1
  obtain ⟨af,cf,rfl,_⟩:=id p1
  obtain ⟨b,of,cs,ro,rfl,hcs,hc0⟩:=VI.cell (l:=[x,y]) p1 (i:=0) (x:=x) rfl
  obtain ⟨_,_,_,_,e0,ecs,hc1⟩:=VI.cell (l:=[x,y]) p1 (i:=1) (x:=y) rfl
  cases e0
  rw [hcs] at ecs;cases ecs
  have hc1:cs[of+(1:Int).toNat*1]?=some (.i y):=hc1
  have hc0:cs[of+(0:Int).toNat*1]?=some (.i x):=hc0
  generalize jaS (wxs l) 1 n=M at m1 m2 e2 W ⊢
  obtain ⟨⟨M1,M2⟩,M3⟩:=M
  simp only at m1 m2 e2 W ⊢
  subst m1 m2
  refine at_ hcl om rfl rfl rfl ?_
  refine qx1 ?_
  exact ⟨x,y,rfl,fun _=>rfl,fun h=>absurd rfl h,W,T⟩
 ·rw [m2] at p1
  generalize jaS (wxs l) 1 n=M at m1 m2 e2 W ⊢
  obtain ⟨⟨M1,M2⟩,M3⟩:=M
  simp only at m1 m2 e2 W ⊢
  refine at_ hcl om rfl rfl rfl ?_
  refine qx1 ?_
  exact ⟨0,0,rfl,fun h=>absurd h m1,fun _=>⟨rfl,rfl⟩,W,T⟩
end
section
variable {h:H} {w s:Nat} {ow:Nat->Nat} {f:Nat->Option (Nat × Nat)} {l:List WX} {now:Int} {tb:Tb} {no:Option (Nat × Nat)} {n m:Nat} {t:WX}
end
section
variable {cl:Nat->Call} (hcl:Sem cl) {h:H} {w s:Nat} {ow:Nat->Nat} {ws:Ws} {now:Int} {tb:Tb} {no:Option (Nat × Nat)}
include hcl
end
def RowZ (N:Nat) (h:H) (v:V) (l:List Int):Prop:=Row N h 1 v l.length (ints l)\/(l=[] /\ ∃ b,v = .slice (some (b,0)) 0 (.fix 0)/\N<=b/\b<h.nx)
theorem RowZ.at_ge {N:Nat} {h:H} {v:V} {l:List Int} (r:RowZ N h v l) {q:Nat} (hq:v.at?=some q):N<=q/\q<h.nx:=by
 rcases r with r | ⟨_,b,rfl,h1,h2⟩
 ·exact r.at_ge hq
 ·cases hq;exact ⟨h1,h2⟩
theorem RowZ.keep {N:Nat} {h h':H} {v:V} {l:List Int} (r:RowZ N h v l) (hx:h.nx<=h'.nx) (hg : ∀ q,v.at?=some q->h'.get q=h.get q):RowZ N h' v l:=by
 rcases r with r | ⟨h0,b,rfl,h1,h2⟩
 ·exact .inl (r.keep hx hg)
 ·exact .inr ⟨h0,b,rfl,h1,by omega⟩
section
variable {call:Call} {fuel base:Nat} {ops:List Ins} {keep:List Nat} {K:List Fr} {e:Env} {h:H} {Q:Post} {ix:Nat} {dst:Option Nat}
end
section
variable {cl:Nat->Call} (hcl:Sem cl)
include hcl
end
section
variable {cl:Nat->Call} (hcl:Sem cl) {h:H} {w s:Nat} {ow:Nat->Nat} {l:List WX} {now:Int} {tb:Tb} {no:Option (Nat × Nat)}
include hcl
end
section
variable {cl:Nat->Call} (hcl:Sem cl) {h:H} {w s:Nat} {ow:Nat->Nat} {l:List WX} {now:Int} {tb:Tb} {no:Option (Nat × Nat)}
include hcl
end
section
variable {cl:Nat->Call} (hcl:Sem cl) {h:H} {w s:Nat} {ow:Nat->Nat} {ws:Ws} {now:Int} {tb:Tb} {no:Option (Nat × Nat)}
include hcl
end
section
variable {cl:Nat->Call} (hcl:Sem cl) {h:H} {p w s rw:Nat} {ow:Nat->Nat} {ro dat:Nat->Prop} {st:St} {a n t:Int} {dv vd:V} {D:List UInt8}
include hcl
end
section
variable {cl:Nat->Call} (hcl:Sem cl) {h:H} {p w s rw:Nat} {ow:Nat->Nat} {ro dat:Nat->Prop} {st:St} {a n t:Int} {dv vd:V} {D:List UInt8}
include hcl
end
section
variable {call:Call} {fuel base:Nat} {K:List Fr} {e:Env} {h:H} {Q:Post} {ix:Nat} {dst at_:Option Nat} {ops:List Ins} {keep:List Nat}
end
section
variable {cl:Nat->Call} (hcl:Sem cl) {h:H} {p w s rw:Nat} {ow:Nat->Nat} {ro dat:Nat->Prop} {st:St} {a n t:Int} {dv vd:V} {D:List UInt8}
include hcl
end
theorem VB.lt {h:H} {v:V} {l:List UInt8} (a:VB h v l) (hl:l≠[]) {z:Nat} (hz:v.at?=some z):z<h.nx:=by
 obtain ⟨a,c,rfl,n,f,g⟩:=a
 obtain ⟨b,o,cs,ro,rfl,h1,_⟩:=g hl
 cases hz;exact h1
section
variable {cl:Nat->Call} (hcl:Sem cl) {h:H} {p w s rw:Nat} {ow:Nat->Nat} {ro dat:Nat->Prop} {st:St} {a n t:Int} {dv vd:V} {D:List UInt8}
include hcl
end
section
variable {call:Call} {fuel base:Nat} {K:List Fr} {e:Env} {h:H} {Q:Post} {ix:Nat} {dst:Option Nat} {ops:List Ins} {keep:List Nat}
end
section
variable {cl:Nat->Call} (hcl:Sem cl)
include hcl
end
def PD (h:H) (p w s rw:Nat) (ow:Nat->Nat) (ro dat:Nat->Prop) (vd:V) (st':St):Post:=fun y e g=>y = .normal/\e=[(5,vd),(6,.bool true)] /\ ∃ ow' ro',BB g p w s rw ow' ro' dat st' st'/\Fm h g ow ro ow' ro'
theorem PD.mk {call:Call} {fuel:Nat} {h g:H} {p w s rw:Nat} {ow ow':Nat->Nat} {ro ro' dat:Nat->Prop} {vd:V} {st':St} (b:BB g p w s rw ow' ro' dat st' st') (f:Fm h g ow ro ow' ro'):End call fuel [] .normal [(5,vd),(6,.bool true)] g (PD h p w s rw ow ro dat vd st') :=
 End.nil ⟨rfl,rfl,ow',ro',b,f⟩
section
variable {cl:Nat->Call} (hcl:Sem cl) {h:H} {p w s rw:Nat} {ow:Nat->Nat} {ro dat:Nat->Prop} {st:St} {a n t:Int} {dv vd:V} {D:List UInt8}
include hcl
end
section
variable {cl:Nat->Call} (hcl:Sem cl) {h:H} {p w s rw:Nat} {ow:Nat->Nat} {ro dat:Nat->Prop} {st:St} {a n t:Int} {dv vd:V} {D:List UInt8}
include hcl
end
section
variable {cl:Nat->Call} (hcl:Sem cl) {h:H} {p w s rw:Nat} {ow:Nat->Nat} {ro dat:Nat->Prop} {st:St} {a n t:Int} {dv vd:V} {D:List UInt8}
include hcl
end
section
variable {cl:Nat->Call} (hcl:Sem cl) {h:H} {p w s rw:Nat} {ow:Nat->Nat} {ro dat:Nat->Prop} {st:St} {k a n t:Int} {dv vd:V} {D:List UInt8}
include hcl
end
structure Rdy where
 op:Bool
 inn:Bool
 out:Bool
 hup:Bool
 err:Bool
 rd:Int
 wr:Int
def Rdy.cells (r:Rdy):List V:=[.bool r.op,.bool r.inn,.bool r.out,.bool r.hup,.bool r.err,.int .u64 r.rd,.int .u64 r.wr]
def Rdy.no:Rdy:=⟨false,false,false,false,false,0,0⟩
def Wi.rdy (x:Wi) (k:Nat):Rdy :=
 if 0<x.backlog then ⟨true,!x.waiting.isEmpty,false,false,false,(x.e k).inn,(x.e k).out⟩
 else ⟨true,x.rIn k,x.rOut k,(x.e (1-k)).what == 3,x.reset,(x.e k).inn,(x.e k).out⟩
noncomputable def rdyS (ws:Ws) (fd:Int):Rdy:=jcP ws fd Rdy.no fun _ k x=>x.rdy k
theorem jiQ (ws:Ws) (fd:Int):jew ws fd=(rdyS ws fd).cells:=by
 unfold jew rdyS jcP
 split
 ·rfl
 ·split
  ·rfl
  ·show Wi.ready _ _=(Wi.rdy _ _).cells
   unfold Wi.ready Wi.rdy
   split<;>rfl
def mayAsk (ev:Int):Prop:=ev=0\/ev=1\/ev=4\/ev=5
instance (ev:Int):Decidable (mayAsk ev):=inferInstanceAs (Decidable (_\/_))
structure BX (h0 h:H) (p w s rw:Nat) (ow:Nat->Nat) (ro:Nat->Prop) (st:St) (i:Nat):Prop where
 b:BB h p w s rw ow ro (fun j=>j<h0.nx) st st
 so:StOk st i
 old:Old h0 h
 own : ∀ j,ow j≠0\/ro j->h0.nx<=j
 lp:h0.nx<=p
def st0:St:=⟨[],0,Tb.zero,none⟩
theorem atS_nil (fd:Int):atS [] fd=none:=jds fun n k=>by rintro ⟨x,h,_⟩;simp at h
theorem st0_ok:StOk st0 0 where
 K:=⟨⟨fun n k n' k' fd h=>(by obtain ⟨x,hx,_⟩:=h;simp [st0] at hx),fun x hx=>(by simp [st0] at hx),by simp [st0],fun x hx=>(by simp [st0] at hx)⟩,fun i j x y p q m hx=>by simp [st0] at hx⟩
 nt := .inl rfl
 now:=⟨Int.le_refl _,by show (0:Int)<=_;omega⟩
 tb:=fun k=>⟨Int.le_refl _,Int.le_refl _⟩
theorem Ops.build {call:Call} {fuel base:Nat} {K:List Fr} {e:Env} {h:H} {Q:Post} {ix:Nat} {dst:Option Nat} {ops:List Ins} {keep:List Nat} {at_:Option Nat} {zero l:List V} {parts:List (Nat × Nat × Opd)} {ps:List (Nat × Nat × V)}
  (he:ja8 e parts=some ps) (hf:ja0 zero ps=some l) (k:Ops call fuel base ops keep K (layv e dst (.agg l)) h Q):Ops call fuel base (⟨ix,dst,.build zero parts,none,at_,[]⟩ :: ops) keep K e h Q :=
 Ops.pure rfl (by simp only [I.pure,he,hf]) k
section
variable {cl:Nat->Call} (hcl:Sem cl)
include hcl
def wc0 (s:Nat):List V:=(List.replicate 96 ([.bool false,.i 0,.i 0]:List V)).flatten++[.nils,.p s 0,.int .u64 0,.bool false,.i 0,.i 0]
omit hcl in
theorem wc0_eq (s:Nat):wc0 s=wc (fun i=>atS [] (i:Int)) .nils s 0 none:=by
 have e:(fun i:Nat=>atS [] (i:Int))=fun _=>none:=by funext i;exact atS_nil _
 rw [e]
 have:(List.replicate 96 ([.bool false,.i 0,.i 0]:List V)).flatten=jbF fun _=>none:=by
  kernel_rfl
 unfold wc0 wc
 rw [this]
 rfl
omit hcl in
theorem fillW (s:Nat):ja0 ((List.replicate 96 ([.bool false,.i 0,.i 0]:List V)).flatten++[.nils,.ptr none,.int .u64 0,.bool false,.i 0,.i 0]) [(289,1,.p s 0)]=some (wc0 s):=by kernel_rfl
set_option maxRecDepth 100000 in
theorem nw_world {d:Nat} (hd:2<=d) (h:H):cl d (.fn F.jfy) [] h=some (.p (h.nx+1) 0,(h.new Tb.zero.obj).new (.cells (wc0 h.nx) false)):=by
 have hs:=sp_new hcl (d:=d-1) om h
 refine jar (at_ hcl om rfl rfl rfl ?_)
 refine Run.seq (Run.region0 (Ops.mv rfl (Ops.nil qkp (End.seq (Run.seq (Run.region0 (Ops.callf rfl hs (Ops.build rfl (fillW h.nx) (Ops.make rfl rfl ?_)))))))))
 refine qo1 ?_
 exact ⟨rfl,rfl⟩
end
abbrev ddc (w:Nat) (kv:V) (L:Nat) (room:Int):List V:=[.p w 0,kv,.p L 0,.i room,.i (-1),.i (-1)]
section
variable {cl:Nat->Call} (hcl:Sem cl) {d D L w s:Nat} {kv:V} {h:H} {ow:Nat->Nat} {ws:Ws} {now:Int} {tb:Tb} {no:Option (Nat × Nat)} {k room fd n:Int} {f:Nat->Int}
include hcl
theorem dq_none (hd:1<=d) (hD:h.get D=some (.cells (ddc w kv L room) false)):cl d (.fn F.jcy) [.p D 0] h=some (.bool false,h):=by
 have h0:(ddc w kv L room)[0+0]?=some (.p w 0):=rfl
 refine jar (at_ hcl om rfl rfl rfl ?_)
 refine qx1 ?_
 exact ⟨rfl,rfl⟩
theorem dq_open (hd:5<=d) (a:WSt h w s ow ws now tb no) (o:WsOk ws) (hD:h.get D=some (.cells (ddc w kv L room) false)) :
  ∃ h',cl d (.fn F.jcx) [.p D 0,.i fd] h=some (.bool (rdyS ws fd).op,h')/\Old h h':=by
 obtain ⟨h1,e1,o1⟩:=jgW hcl (d:=d-1) (fd:=fd) om a o
 rw [jiQ] at e1
 have q0:(ddc w kv L room)[0+0]?=some (.p w 0):=rfl
 generalize rdyS ws fd=r at e1
 obtain ⟨op,_,_,_,_,_,_⟩:=r
 replace e1:cl (d-1) (.fn F.jaP) [.p w 0,.i fd] h=some (.agg [.bool op,_,_,_,_,_,_],h1):=e1
 clear a o
 refine jbp (at_ hcl om rfl rfl rfl ?_)
 refine qx1 ?_
 exact ⟨rfl,o1⟩
set_option maxRecDepth 100000 in
theorem cg_New (hd:1<=d):cl d (.fn F.ji1) [] h=some (.p h.nx 0,h.new (.cells (lc fun _=>0) false)):=by
 have hb:ja0 (List.replicate 192 (.i 0:V)++[.bool false]) [(192,1,.bool true)]=some (lc fun _=>0):=by kernel_rfl
 refine jar (at_ hcl om rfl rfl rfl ?_)
 refine Run.seq (Run.region0 (Ops.mv rfl (Ops.nil qkp (End.seq (Run.seq (Run.region0 (Ops.build rfl hb ?_)))))))
 refine qm1 ?_
 exact ⟨rfl,rfl⟩
theorem ep_New (hd:1<=d):cl d (.fn F.epl_New) [.p w 0,.i 96] h=some (.tup [.p (h.nx+1) 0,.i 0],(h.new (.map [] 0)).new (.cells [.p w 0,.i 96,.map (some h.nx)] false)):=by
 refine jar (at_ hcl om rfl rfl rfl ?_)
 refine qm1 ?_
 exact ⟨rfl,rfl⟩
theorem kq_New (hd:1<=d):cl d (.fn F.kqu_New) [.p w 0] h=some (.tup [.p (h.nx+1) 0,.i 0],(h.new (.map [] 0)).new (.cells [.p w 0,.map (some h.nx)] false)):=by
 refine jar (at_ hcl om rfl rfl rfl ?_)
 refine qm1 ?_
 exact ⟨rfl,rfl⟩
theorem dq_New (hd:2<=d) (hk:k=3\/k=4) (r0:1<=room) (r1:room<=256) :
  ∃ D L kv h',cl d (.fn F.je7) [.p w 0,.i k,.i room] h=some (.tup [.p D 0,.i 0],h')/\Old h h'/\h'.get D=some (.cells (ddc w kv L room) false)/\h'.get L=some (.cells (lc fun _=>0) false)/\D≠L/\h.nx<=D/\h.nx<=L/\D<h'.nx/\L<h'.nx:=by
 have e1:=cg_New hcl (d:=d-1) (h:=h) om
 have r0' : ¬ room<1:=by omega
 have r1' : ¬ 256<room:=by omega
 suffices q : ∃ v h',cl d (.fn F.je7) [.p w 0,.i k,.i room] h=some (v,h') /\ ∃ D L kv,v = .tup [.p D 0,.i 0]/\Old h h'/\h'.get D=some (.cells (ddc w kv L room) false)/\h'.get L=some (.cells (lc fun _=>0) false)/\D≠L/\h.nx<=D/\h.nx<=L/\D<h'.nx/\L<h'.nx by
  obtain ⟨_,h',e,D,L,kv,rfl,q⟩:=q;exact ⟨D,L,kv,h',e,q⟩
 obtain ⟨l0,hl0⟩ : ∃ l0,l0=lc fun _=>0:=⟨_,rfl⟩
 rw [<- hl0] at e1 ⊢
 clear hl0
 rcases hk with rfl | rfl
 ·have e2:=ep_New hcl (d:=d-1) (w:=w) (h:=(h.new (.cells l0 false)).new (.cells [.p w 0,.nili,.p h.nx 0,.i room,.i (-1),.i (-1)] false)) om
  have x:((h.new (.cells l0 false)).new (.cells [.p w 0,.nili,.p h.nx 0,.i room,.i (-1),.i (-1)] false)).nx=h.nx+2:=rfl
  rw [x] at e2
  refine at_ hcl om rfl rfl rfl ?_
  refine qm1 ?_
  refine ⟨h.nx+1,h.nx,_,rfl,?_,jab _,?_,by omega,by omega,zn _,?_,?_⟩
  ·exact (Old.refl h).new.new.new.new.new.set (Nat.le_succ _)
  ·exact qgt
  ·show h.nx+1<h.nx+5;omega
  ·show h.nx<h.nx+5;omega
 ·have e2:=kq_New hcl (d:=d-1) (w:=w) (h:=(h.new (.cells l0 false)).new (.cells [.p w 0,.nili,.p h.nx 0,.i room,.i (-1),.i (-1)] false)) om
  have x:((h.new (.cells l0 false)).new (.cells [.p w 0,.nili,.p h.nx 0,.i room,.i (-1),.i (-1)] false)).nx=h.nx+2:=rfl
  rw [x] at e2
  refine at_ hcl om rfl rfl rfl ?_
  refine qm1 ?_
  refine ⟨h.nx+1,h.nx,_,rfl,?_,jab _,?_,by omega,by omega,zn _,?_,?_⟩
  ·exact (Old.refl h).new.new.new.new.new.set (Nat.le_succ _)
  ·exact qgt
  ·show h.nx+1<h.nx+5;omega
  ·show h.nx<h.nx+5;omega
end
end Am.Sigs
