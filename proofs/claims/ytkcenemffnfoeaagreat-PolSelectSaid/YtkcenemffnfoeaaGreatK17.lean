/- Our own library, part 17: an abstract machine, sound for the model, and what the functions do over it. No condition. -/
import Derived.Test.YtkcenemffnfoeaaGreatK16
import Derived.Test.YtkcenemffnfoeaaGreatK09
import Derived.Test.YtkcenemffnfoeaaGreatK15
import Derived.Test.YtkcenemffnfoeaaGreatK13
set_option maxHeartbeats 8000000
set_option linter.all false
namespace Am.Sigs
open Am Go
def WsOne (ws:Ws):Prop := ∀ (i j:Nat) (x y:Wi) (p q:Nat) (m:Int),ws[i]?=some x->ws[j]?=some y->x.waiting[p]?=some m->y.waiting[q]?=some m->i=j/\p=q
structure WsK (ws:Ws):Prop where
 ok:WsOk ws
 one:WsOne ws
def Wi.SubFd (x y:Wi):Prop := ∀ k,k=0\/k=1->(y.e k).what=1->(x.e k).what=1/\(y.e k).fd=(x.e k).fd
theorem Wi.SubFd.refl (x:Wi):x.SubFd x:=fun _ _ h=>⟨h,rfl⟩
theorem Wi.SubFd.trans {x y z:Wi} (a:x.SubFd y) (b:y.SubFd z):x.SubFd z:=fun k hk h=>⟨(a k hk (b k hk h).1).1,by rw [(b k hk h).2,(a k hk (b k hk h).1).2]⟩
theorem w_lt {ws:Ws} {n:Nat} {x:Wi} (hr:ws[n]?=some x):n<ws.length:=by
 rcases Nat.lt_or_ge n ws.length with h | h
 ·exact h
 ·rw [List.getElem?_eq_none h] at hr;cases hr
theorem joe {ws:Ws} {n:Nat} (h:n<ws.length) : ∃ x,ws[n]?=some x:=⟨_,List.getElem?_eq_getElem h⟩
theorem jc0 {ws:Ws} {n m:Nat} {y z:Wi} (h:(ws.set n y)[m]?=some z):(m=n/\z=y)\/(m≠n/\ws[m]?=some z):=by
 rw [List.getElem?_set] at h
 by_cases e:n=m
 ·rw [if_pos e] at h
  by_cases hl:n<ws.length
  ·rw [if_pos hl] at h;cases h;exact .inl ⟨e.symm,rfl⟩
  ·rw [if_neg hl] at h;cases h
 ·rw [if_neg e] at h;exact .inr ⟨fun h=>e h.symm,h⟩
theorem WsK.mild {ws ws':Ws} (K:WsK ws) (hl:ws'.length=ws.length)
  (h : ∀ (i:Nat) (z':Wi),ws'[i]?=some z' -> ∃ z,ws[i]?=some z/\z.SubFd z'/\WiOk z'/\(∃ c,z'.waiting=z.waiting.drop c)/\(z.e0.what=0->(∃ (j:Nat) (u:Wi),ws'[j]?=some u/\(i:Int)∈u.waiting)->z'.e0.what=0)):WsK ws':=by
 refine ⟨⟨?_,fun x hx=>?_,by rw [hl];exact K.ok.len,fun x hx=>?_⟩,?_⟩
 ·have sub : ∀ n k fd,AtW ws' n k fd->AtW ws n k fd:=by
   rintro n k fd ⟨x,hx,hk,h1,h2⟩
   obtain ⟨z,e1,e2,_⟩:=h n x hx
   exact ⟨z,e1,hk,(e2 k hk h1).1,by rw [<- (e2 k hk h1).2,h2]⟩
  exact fun n k n' k' fd a b=>K.ok.uniq n k n' k' fd (sub _ _ _ a) (sub _ _ _ b)
 ·obtain ⟨i,hi⟩:=List.mem_iff_getElem?.1 hx
  obtain ⟨z,_,_,e,_⟩:=h i x hi
  exact e
 ·obtain ⟨i,hi⟩:=List.mem_iff_getElem?.1 hx
  obtain ⟨z,e1,_,_,⟨c,e2⟩,_⟩:=h i x hi
  obtain ⟨p1,p2⟩:=K.ok.wait z (List.mem_of_getElem? e1)
  refine ⟨by rw [e2,List.length_drop];omega,fun m hm=>?_⟩
  obtain ⟨y,y0,y1,y2⟩:=p2 m (by rw [e2] at hm;exact List.mem_of_mem_drop hm)
  obtain ⟨y',hy'⟩:=joe (ws:=ws') (n:=m.toNat) (by rw [hl];exact w_lt y1)
  obtain ⟨u,u1,_,_,_,u2⟩:=h _ _ hy'
  rw [y1] at u1;cases u1
  exact ⟨y',y0,hy',u2 y2 ⟨i,x,hi,by rw [Int.toNat_of_nonneg y0];exact hm⟩⟩
 ·intro i j x y p q m hx hy hp hq
  obtain ⟨a,a1,_,_,⟨c,a2⟩,_⟩:=h i x hx
  obtain ⟨b,b1,_,_,⟨c',b2⟩,_⟩:=h j y hy
  rw [a2,List.getElem?_drop] at hp
  rw [b2,List.getElem?_drop] at hq
  obtain ⟨e1,e2⟩:=K.one i j a b (c+p) (c'+q) m a1 b1 hp hq
  refine ⟨e1,?_⟩
  subst e1
  rw [hx] at hy;cases hy
  rw [a1] at b1;cases b1
  have:=a2.symm.trans b2
  have h1:=congrArg List.length this
  rw [List.length_drop,List.length_drop] at h1
  have h2:c+p<a.waiting.length:=by
   rcases Nat.lt_or_ge (c+p) a.waiting.length with h | h
   ·exact h
   ·rw [List.getElem?_eq_none h] at hp;cases hp
  omega
theorem WsK.set {ws:Ws} {n:Nat} {x y:Wi} (K:WsK ws) (hx:ws[n]?=some x) (hs:x.SubFd y) (hok:WiOk x->WiOk y) (hw:y.waiting=x.waiting) (h0:x.e0.what=0->y.e0.what=0):WsK (ws.set n y):=by
 refine K.mild (by simp) fun i z' hz=>?_
 rcases jc0 hz with ⟨rfl,rfl⟩ | ⟨_,hz⟩
 ·exact ⟨x,hx,hs,hok (K.ok.ok x (List.mem_of_getElem? hx)),⟨0,by rw [hw];rfl⟩,fun h _=>h0 h⟩
 ·exact ⟨z',hz,Wi.SubFd.refl _,K.ok.ok z' (List.mem_of_getElem? hz),⟨0,rfl⟩,fun h _=>h⟩
theorem WsK.set_wait {ws:Ws} {n c:Nat} {x:Wi} (K:WsK ws) (hx:ws[n]?=some x):WsK (ws.set n { x with waiting:=x.waiting.drop c }):=by
 refine K.mild (by simp) fun i z' hz=>?_
 rcases jc0 hz with ⟨rfl,rfl⟩ | ⟨_,hz⟩
 ·have:=K.ok.ok x (List.mem_of_getElem? hx)
  exact ⟨x,hx,Wi.SubFd.refl _,⟨this.cap0,this.cap1,this.len,this.pair,this.out,this.bl⟩,⟨c,rfl⟩,fun h _=>h⟩
 ·exact ⟨z',hz,Wi.SubFd.refl _,K.ok.ok z' (List.mem_of_getElem? hz),⟨0,rfl⟩,fun h _=>h⟩
theorem WiOk.of {x y:Wi} (a:WiOk x) (hc:y.cap=x.cap) (hw : ∀ k,k=0\/k=1->(y.e k).writes=(x.e k).writes) (hr : ∀ k,k=0\/k=1->((y.e k).ring=none↔(x.e k).ring=none)) (hl : ∀ k,k=0\/k=1 -> ∀ q,(y.e k).ring=some q->q.length<=x.cap) (ho:y.e1.what=2->x.e1.what=2) (hb:y.backlog=x.backlog:=by rfl):WiOk y:=by
 refine ⟨by rw [hc];exact a.cap0,by rw [hc];exact a.cap1,fun k hk q hq=>by rw [hc];exact hl k hk q hq,fun k hk=>?_,fun h2=>?_,by rw [hb];exact a.bl⟩
 ·rw [hw k hk,a.pair k hk,ne_eq,ne_eq]
  refine not_congr ?_
  rcases hk with rfl | rfl
  ·exact (hr 1 (.inr rfl)).symm
  ·exact (hr 0 (.inl rfl)).symm
 ·have:=a.out (ho h2)
  exact ⟨fun e=>this.1 ((hr 0 (.inl rfl)).1 e),fun e=>this.2 ((hr 1 (.inr rfl)).1 e)⟩
theorem WiOk.nil {x:Wi} (a:WiOk x) : ∀ k,k=0\/k=1 -> ∀ q,(x.e k).ring=some q->q.length<=x.cap:=a.len
theorem jfQ {x:Wi} {k:Nat} {i o:Bool} (hk:k=0\/k=1):x.SubFd (x.came k i o):=by
 intro j hj
 rcases hk with rfl | rfl<;>rcases hj with rfl | rfl<;>exact fun h=>⟨h,rfl⟩
theorem jfP {x:Wi} {k:Nat} {i o:Bool} (hk:k=0\/k=1) (a:WiOk x):WiOk (x.came k i o):=by
 rcases hk with rfl | rfl
 ·refine a.of rfl (fun j hj=>?_) (fun j hj=>?_) (fun j hj q hq=>?_) fun h=>h
  ·rcases hj with rfl | rfl<;>rfl
  ·rcases hj with rfl | rfl<;>exact Iff.rfl
  ·rcases hj with rfl | rfl
   ·exact a.len 0 (by simp) q hq
   ·exact a.len 1 (by simp) q hq
 ·refine a.of rfl (fun j hj=>?_) (fun j hj=>?_) (fun j hj q hq=>?_) fun h=>h
  ·rcases hj with rfl | rfl<;>rfl
  ·rcases hj with rfl | rfl<;>exact Iff.rfl
  ·rcases hj with rfl | rfl
   ·exact a.len 0 (by simp) q hq
   ·exact a.len 1 (by simp) q hq
theorem jiO {x:Wi} {k:Nat} {i o:Bool} (hk:k=0\/k=1):(x.came k i o).e0.what=x.e0.what:=by rcases hk with rfl | rfl<;>rfl
theorem jiN {x:Wi} {k:Nat} {i o:Bool} (hk:k=0\/k=1):(x.came k i o).waiting=x.waiting:=by rcases hk with rfl | rfl<;>rfl
theorem jik {x:Wi} {k:Nat} {q:List UInt8} (hk:k=0\/k=1):x.SubFd (x.setq k q):=by
 intro j hj
 rcases hk with rfl | rfl<;>rcases hj with rfl | rfl<;>exact fun h=>⟨h,rfl⟩
theorem jij {x:Wi} {k:Nat} {q q':List UInt8} (hk:k=0\/k=1) (hq:(x.e k).ring=some q) (hl:q'.length<=x.cap) (a:WiOk x):WiOk (x.setq k q'):=by
 rcases hk with rfl | rfl
 ·have hq:x.e0.ring=some q:=hq
  refine a.of rfl (fun j hj=>?_) (fun j hj=>?_) (fun j hj q2 hq2=>?_) fun h=>h
  ·rcases hj with rfl | rfl<;>rfl
  ·rcases hj with rfl | rfl
   ·show (some q'=none)↔x.e0.ring=none
    rw [hq];simp
   ·exact Iff.rfl
  ·rcases hj with rfl | rfl
   ·have:some q'=some q2:=hq2
    cases this;exact hl
   ·exact a.len 1 (by simp) q2 hq2
 ·have hq:x.e1.ring=some q:=hq
  refine a.of rfl (fun j hj=>?_) (fun j hj=>?_) (fun j hj q2 hq2=>?_) fun h=>h
  ·rcases hj with rfl | rfl<;>rfl
  ·rcases hj with rfl | rfl
   ·exact Iff.rfl
   ·show (some q'=none)↔x.e1.ring=none
    rw [hq];simp
  ·rcases hj with rfl | rfl
   ·exact a.len 0 (by simp) q2 hq2
   ·have:some q'=some q2:=hq2
    cases this;exact hl
theorem jmH {x:Wi} {k:Nat} {q:List UInt8} (hk:k=0\/k=1):(x.setq k q).e0.what=x.e0.what:=by rcases hk with rfl | rfl<;>rfl
theorem jmG {x:Wi} {k:Nat} {q:List UInt8} (hk:k=0\/k=1):(x.setq k q).waiting=x.waiting:=by rcases hk with rfl | rfl<;>rfl
theorem jbZ {k:Nat} (hk:k=0\/k=1):1-k=0\/1-k=1:=by omega
theorem WsK.take {ws:Ws} {n k m:Nat} {x:Wi} {q:List UInt8} (K:WsK ws) (hx:ws[n]?=some x) (hk:k=0\/k=1) (hq:(x.e k).ring=some q):WsK (ws.set n (x.take k m q)):=by
 have hl:=(K.ok.ok x (List.mem_of_getElem? hx)).len k hk q hq
 exact K.set hx ((jik hk).trans (jfQ (jbZ hk))) (fun a=>jfP (jbZ hk) (jij hk hq (by rw [List.length_drop];omega) a)) (by unfold Wi.take;rw [jiN (jbZ hk),jmG hk]) (by unfold Wi.take;rw [jiO (jbZ hk),jmH hk];exact id)
theorem WsK.fill {ws:Ws} {n k m:Nat} {x:Wi} {q b:List UInt8} (K:WsK ws) (hx:ws[n]?=some x) (hk:k=0\/k=1) (hq:(x.e (1-k)).ring=some q) (hm:m<=x.cap-q.length):WsK (ws.set n (x.fill k m q b)):=by
 have hl:=(K.ok.ok x (List.mem_of_getElem? hx)).len (1-k) (jbZ hk) q hq
 exact K.set hx ((jik (jbZ hk)).trans (jfQ (jbZ hk))) (fun a=>jfP (jbZ hk) (jij (jbZ hk) hq (by rw [List.length_append,List.length_take];omega) a)) (by unfold Wi.fill;rw [jiN (jbZ hk),jmG (jbZ hk)]) (by unfold Wi.fill;rw [jiO (jbZ hk),jmH (jbZ hk)];exact id)
theorem WsK.doShut {ws:Ws} {n k:Nat} {x:Wi} (K:WsK ws) (hx:ws[n]?=some x) (hk:k=0\/k=1):WsK (ws.set n (x.doShut k)):=by
 have e:x.SubFd (x.doShut k)/\(WiOk x->WiOk (x.doShut k))/\(x.doShut k).waiting=x.waiting/\(x.e0.what=0->(x.doShut k).e0.what=0):=by
  unfold Wi.doShut
  split
  ·exact ⟨Wi.SubFd.refl x,id,rfl,id⟩
  ·have p:x.SubFd (x.put k { x.e k with shut:=true })/\(WiOk x->WiOk (x.put k { x.e k with shut:=true }))/\(x.put k { x.e k with shut:=true }).waiting=x.waiting/\(x.put k { x.e k with shut:=true }).e0.what=x.e0.what:=by
    rcases hk with rfl | rfl
    ·refine ⟨fun j hj=>by (rcases hj with rfl | rfl<;>exact fun h=>⟨h,rfl⟩),fun a=>⟨a.cap0,a.cap1,fun j hj=>?_,fun j hj=>?_,a.out,a.bl⟩,rfl,rfl⟩
     ·have:=a.len j hj;rcases hj with rfl | rfl<;>exact this
     ·have:=a.pair j hj;rcases hj with rfl | rfl<;>exact this
    ·refine ⟨fun j hj=>by (rcases hj with rfl | rfl<;>exact fun h=>⟨h,rfl⟩),fun a=>⟨a.cap0,a.cap1,fun j hj=>?_,fun j hj=>?_,a.out,a.bl⟩,rfl,rfl⟩
     ·have:=a.len j hj;rcases hj with rfl | rfl<;>exact this
     ·have:=a.pair j hj;rcases hj with rfl | rfl<;>exact this
   exact ⟨p.1.trans (jfQ (jbZ hk)),fun a=>jfP (jbZ hk) (p.2.1 a),by rw [jiN (jbZ hk),p.2.2.1],fun h=>by rw [jiO (jbZ hk),p.2.2.2,h]⟩
 exact K.set hx e.1 e.2.1 e.2.2.1 e.2.2.2
theorem jhj {x:Wi} {k:Nat} (hk:k=0\/k=1):x.SubFd (x.close k)/\(WiOk x->WiOk (x.close k))/\(x.close k).waiting=x.waiting/\(x.e0.what=0->k=1->(x.close k).e0.what=0):=by
 have c1:x.SubFd (x.came (1-k) (!(x.e k).shut) true):=jfQ (jbZ hk)
 have c2:WiOk x->WiOk (x.came (1-k) (!(x.e k).shut) true):=jfP (jbZ hk)
 have c3:(x.came (1-k) (!(x.e k).shut) true).waiting=x.waiting:=jiN (jbZ hk)
 have c4:(x.came (1-k) (!(x.e k).shut) true).e0.what=x.e0.what:=jiO (jbZ hk)
 unfold Wi.close
 generalize x.came (1-k) (!(x.e k).shut) true=y at c1 c2 c3 c4 ⊢
 have p:y.SubFd (y.put k { y.e k with what:=3 })/\(WiOk y->WiOk (y.put k { y.e k with what:=3 }))/\(y.put k { y.e k with what:=3 }).waiting=y.waiting/\(k=1->(y.put k { y.e k with what:=3 }).e0.what=y.e0.what):=by
  rcases hk with rfl | rfl
  ·refine ⟨fun j hj=>?_,fun a=>⟨a.cap0,a.cap1,fun j hj=>?_,fun j hj=>?_,a.out,a.bl⟩,rfl,fun e=>by cases e⟩
   ·rcases hj with rfl | rfl
    ·intro h
     have h:(3:Int)=1:=h
     omega
    ·exact fun h=>⟨h,rfl⟩
   ·have:=a.len j hj;rcases hj with rfl | rfl<;>exact this
   ·have:=a.pair j hj;rcases hj with rfl | rfl<;>exact this
  ·refine ⟨fun j hj=>?_,fun a=>⟨a.cap0,a.cap1,fun j hj=>?_,fun j hj=>?_,fun h=>?_,a.bl⟩,rfl,fun _=>rfl⟩
   ·rcases hj with rfl | rfl
    ·exact fun h=>⟨h,rfl⟩
    ·intro h
     have h:(3:Int)=1:=h
     omega
   ·have:=a.len j hj;rcases hj with rfl | rfl<;>exact this
   ·have:=a.pair j hj;rcases hj with rfl | rfl<;>exact this
   ·have h:(3:Int)=2:=h
    omega
 exact ⟨c1.trans p.1,fun a=>p.2.1 (c2 a),by rw [p.2.2.1,c3],fun h hk=>by rw [p.2.2.2 hk,c4,h]⟩
theorem jkH {vs:Ws} {m:Int} : (jcn vs m).length=vs.length /\ ∀ (i:Nat) (z':Wi),(jcn vs m)[i]?=some z' -> ∃ z,vs[i]?=some z/\z.SubFd z'/\(WiOk z->WiOk z')/\z'.waiting=z.waiting/\(m.toNat≠i->z'=z):=by
 unfold jcn
 split
 ·exact ⟨rfl,fun i z' h=>⟨z',h,Wi.SubFd.refl _,id,rfl,fun _=>rfl⟩⟩
 ·next x hx=>
  refine ⟨by simp,fun i z' h=>?_⟩
  rcases jc0 h with ⟨rfl,rfl⟩ | ⟨hne,h⟩
  ·have c:=jhj (x:=x) (k:=0) (.inl rfl)
   exact ⟨x,hx,c.1,c.2.1,c.2.2.1,fun h=>absurd rfl h⟩
  ·exact ⟨z',h,Wi.SubFd.refl _,id,rfl,fun _=>rfl⟩
theorem jfZ : ∀ (L:List Int) (vs:Ws),(jaD vs L).length=vs.length /\ ∀ (i:Nat) (z':Wi),(jaD vs L)[i]?=some z' -> ∃ z,vs[i]?=some z/\z.SubFd z'/\(WiOk z->WiOk z')/\z'.waiting=z.waiting/\((∀ m∈L,m.toNat≠i)->z'=z)
 | [],vs=>⟨rfl,fun i z' h=>⟨z',h,Wi.SubFd.refl _,id,rfl,fun _=>rfl⟩⟩
 | m :: L,vs=>by
  obtain ⟨a1,a2⟩:=jfZ L (jcn vs m)
  obtain ⟨b1,b2⟩:=jkH (vs:=vs) (m:=m)
  refine ⟨by rw [jaD,a1,b1],fun i z' h=>?_⟩
  obtain ⟨y,h1,s1,o1,w1,n1⟩:=a2 i z' h
  obtain ⟨z,h2,s2,o2,w2,n2⟩:=b2 i y h1
  refine ⟨z,h2,s2.trans s1,fun a=>o1 (o2 a),by rw [w1,w2],fun hn=>?_⟩
  rw [n1 fun m' hm'=>hn m' (List.mem_cons_of_mem _ hm'),n2 (hn m (List.mem_cons_self ..))]
theorem WsK.close {ws:Ws} {n k:Nat} {x:Wi} (K:WsK ws) (hx:ws[n]?=some x) (hk:k=0\/k=1) (h1:(x.e k).what=1):WsK (noWait (jaD (ws.set n (x.close k)) x.waiting) n):=by
 obtain ⟨a1,a2⟩:=jfZ x.waiting (ws.set n (x.close k))
 have c:=jhj (x:=x) hk
 have hn:=w_lt hx
 obtain ⟨u,hu⟩:=joe (ws:=jaD (ws.set n (x.close k)) x.waiting) (n:=n) (by rw [a1];simpa using hn)
 have e:noWait (jaD (ws.set n (x.close k)) x.waiting) n=(jaD (ws.set n (x.close k)) x.waiting).set n { u with waiting:=[] } := by
  unfold noWait;rw [hu]
 rw [e]
 refine K.mild (by rw [List.length_set,a1,List.length_set]) fun i z' hz=>?_
 have back : ∀ (i:Nat) (z:Wi),(ws.set n (x.close k))[i]?=some z -> ∃ y,ws[i]?=some y/\y.SubFd z/\(WiOk y->WiOk z)/\z.waiting=y.waiting/\(y.e0.what=0->z.e0.what=0):=by
  intro i z hz
  rcases jc0 hz with ⟨rfl,rfl⟩ | ⟨_,hz⟩
  ·refine ⟨x,hx,c.1,c.2.1,c.2.2.1,fun h=>c.2.2.2 h ?_⟩
   rcases hk with rfl | rfl
   ·have h1:x.e0.what=1:=h1
    omega
   ·rfl
  ·exact ⟨z,hz,Wi.SubFd.refl _,id,rfl,id⟩
 rcases jc0 hz with ⟨rfl,rfl⟩ | ⟨hne,hz⟩
 ·obtain ⟨z,z1,z2,z3,z4,z5⟩:=a2 _ _ hu
  obtain ⟨y,y1,y2,y3,y4,y5⟩:=back _ _ z1
  have yo:=z3 (y3 (K.ok.ok y (List.mem_of_getElem? y1)))
  refine ⟨y,y1,fun j hj h=>(y2.trans z2) j hj (by rcases hj with rfl | rfl<;>exact h) |>.imp id fun e=>by (rcases hj with rfl | rfl<;>exact e),⟨yo.cap0,yo.cap1,yo.len,yo.pair,yo.out,yo.bl⟩,⟨y.waiting.length,by simp⟩,?_⟩
  rintro h0 ⟨j,v,hv,hm⟩
  show u.e0.what=0
  rw [z5 ?_]
  ·exact y5 h0
  rintro m hm2 rfl
  rcases jc0 hv with ⟨rfl,rfl⟩ | ⟨hj,hv⟩
  ·simp at hm
  ·obtain ⟨z',z1',_,_,z4',_⟩:=a2 _ _ hv
   rcases jc0 z1' with ⟨rfl,_⟩ | ⟨_,z1'⟩
   ·exact hj rfl
   rw [z4'] at hm
   have m0:0<=m:=by obtain ⟨y,y0,_⟩:=(K.ok.wait x (List.mem_of_getElem? hx)).2 m hm2;exact y0
   rw [Int.toNat_of_nonneg m0] at hm
   obtain ⟨p,hp⟩:=List.mem_iff_getElem?.1 hm
   obtain ⟨q,hq⟩:=List.mem_iff_getElem?.1 hm2
   exact hj (K.one j _ z' x p q m z1' hx hp hq).1
 ·obtain ⟨z,z1,z2,z3,z4,z5⟩:=a2 _ _ hz
  obtain ⟨y,y1,y2,y3,y4,y5⟩:=back _ _ z1
  refine ⟨y,y1,y2.trans z2,z3 (y3 (K.ok.ok y (List.mem_of_getElem? y1))),⟨0,by rw [z4,y4];rfl⟩,?_⟩
  rintro h0 ⟨j,v,hv,hm⟩
  rw [z5 ?_]
  ·exact y5 h0
  rintro m hm2 rfl
  rcases jc0 hv with ⟨rfl,rfl⟩ | ⟨hj,hv⟩
  ·simp at hm
  ·obtain ⟨z',z1',_,_,z4',_⟩:=a2 _ _ hv
   rcases jc0 z1' with ⟨rfl,_⟩ | ⟨_,z1'⟩
   ·exact hj rfl
   rw [z4'] at hm
   have m0:0<=m:=by obtain ⟨y,y0,_⟩:=(K.ok.wait x (List.mem_of_getElem? hx)).2 m hm2;exact y0
   rw [Int.toNat_of_nonneg m0] at hm
   obtain ⟨p,hp⟩:=List.mem_iff_getElem?.1 hm
   obtain ⟨q,hq⟩:=List.mem_iff_getElem?.1 hm2
   exact hj (K.one j n z' x p q m z1' hx hp hq).1
end Am.Sigs
namespace Am.Sigs
open Am Go
theorem atS_at {ws:Ws} {fd:Int} {n k:Nat} (h:atS ws fd=some (n,k)):AtW ws n k fd:=by
 unfold atS at h
 split at h
 ·next hx=>
  have:=hx.choose_spec
  rw [Option.some.inj h] at this
  exact this
 ·cases h
theorem jhW {ws:Ws} {fd:Int} (h:atS ws fd=none) : ∀ n k,¬ AtW ws n k fd:=by
 intro n k a
 unfold atS at h
 rw [dif_pos ⟨(n,k),a⟩] at h
 cases h
theorem jaB {α : Type} {P : α -> Prop} {ws:Ws} {fd:Int} {no : α} {f:Nat->Nat->Wi -> α} (hno:P no) (h : ∀ n k x,ws[n]?=some x->(k=0\/k=1)->(x.e k).what=1->P (f n k x)):P (jcq ws fd no f):=by
 unfold jcq
 cases e:atS ws fd with
 | none=>exact hno
 | some p=>
  obtain ⟨n,k⟩:=p
  obtain ⟨x,hx,hk,h1,_⟩:=atS_at e
  simp only [hx]
  exact h n k x hx hk h1
theorem jaA {α : Type} {P : α -> Prop} {ws:Ws} {n:Int} {no : α} {f:Nat->Wi -> α} (hno:P no) (h : ∀ n x,ws[n]?=some x->x.e1.what=2->P (f n x)):P (jc7 ws n no f):=by
 unfold jc7
 split
 ·split
  ·exact hno
  ·next x hx=>
   split
   ·next h2=>exact h _ _ hx h2
   ·exact hno
 ·exact hno
theorem jiv {ws:Ws} {fd many:Int} (K:WsK ws):WsK (jaP ws fd many).2:=by
 unfold jaP
 refine jaB (P:=fun r:_ × Ws=>WsK r.2) K fun n k x hx hk h1=>?_
 split
 ·exact K
 ·next q hq=>
  repeat' split
  all_goals first | exact K | exact K.take hx hk hq
theorem jg4 {ws:Ws} {fd:Int} {b:List UInt8} (K:WsK ws):WsK (jav ws fd b).2:=by
 unfold jav
 refine jaB (P:=fun r:_ × Ws=>WsK r.2) K fun n k x hx hk h1=>?_
 split
 ·exact K
 split
 ·exact K
 split
 ·exact K
 split
 ·exact K
 split
 ·exact K
 ·next q hq=>
  split
  ·exact K.fill hx hk hq (Nat.zero_le _)
  ·exact K.fill hx hk hq (Nat.min_le_right _ _)
theorem shutS_ok {ws:Ws} {fd:Int} (K:WsK ws):WsK (jcY ws fd).2:=by
 unfold jcY
 refine jaB (P:=fun r:_ × Ws=>WsK r.2) K fun n k x hx hk h1=>?_
 split
 ·exact K
 ·exact K.doShut hx hk
theorem closeS_ok {ws:Ws} {fd:Int} (K:WsK ws):WsK (jbS ws fd).2:=by
 unfold jbS
 exact jaB (P:=fun r:_ × Ws=>WsK r.2) K fun n k x hx hk h1=>K.close hx hk h1
theorem putS_ok {ws:Ws} {n:Int} {b:List UInt8} (K:WsK ws):WsK (putS ws n b).2:=by
 unfold putS
 refine jaA (P:=fun r:_ × Ws=>WsK r.2) K fun n x hx h2=>?_
 split
 ·exact K
 split
 ·exact K
 split
 ·exact K
 ·next q hq=>exact K.fill hx (.inr rfl) hq (Nat.min_le_right _ _)
theorem takeS_ok {ws:Ws} {n many:Int} (K:WsK ws):WsK (jcs ws n many).2:=by
 unfold jcs
 refine jaA (P:=fun r:_ × Ws=>WsK r.2) K fun n x hx h2=>?_
 split
 ·exact K
 split
 ·exact K
 split
 ·exact K
 ·next q hq=>exact K.take hx (.inr rfl) hq
theorem jj9 {ws:Ws} {n:Int} (K:WsK ws):WsK (jaJ ws n).2 :=
 jaA (P:=fun r:_ × Ws=>WsK r.2) K fun _ _ hx _=>K.doShut hx (.inr rfl)
theorem ji6 {ws:Ws} {n:Int} (K:WsK ws):WsK (ja7 ws n).2 :=
 jaA (P:=fun r:_ × Ws=>WsK r.2) K fun _ _ hx _=>
  have c:=jhj (k:=1) (.inr rfl)
  K.set hx c.1 c.2.1 c.2.2.1 fun h=>c.2.2.2 h rfl
theorem resetS_ok {ws:Ws} {n:Int} (K:WsK ws):WsK (jcc ws n).2:=by
 unfold jcc
 refine jaA (P:=fun r:_ × Ws=>WsK r.2) K fun n x hx h2=>?_
 have o:=K.ok.ok x (List.mem_of_getElem? hx)
 obtain ⟨q0,q1⟩:=o.out h2
 obtain ⟨a,ha⟩ : ∃ a,x.e0.ring=some a:=Option.ne_none_iff_exists'.1 q0
 obtain ⟨b,hb⟩ : ∃ b,x.e1.ring=some b:=Option.ne_none_iff_exists'.1 q1
 have e:x.SubFd x.doReset/\(WiOk x->WiOk x.doReset)/\x.doReset.waiting=x.waiting/\x.doReset.e0.what=x.e0.what:=by
  unfold Wi.doReset
  split
  ·exact ⟨Wi.SubFd.refl x,id,rfl,rfl⟩
  ·have z0:(0:Nat)=0\/(0:Nat)=1 := .inl rfl
   have z1:(1:Nat)=0\/(1:Nat)=1 := .inr rfl
   have p0:x.SubFd { x with reset:=true } /\ (WiOk x->WiOk { x with reset:=true }):=by
    refine ⟨fun j hj=>by (rcases hj with rfl | rfl<;>exact fun h=>⟨h,rfl⟩),fun a=>⟨a.cap0,a.cap1,fun j hj=>?_,fun j hj=>?_,a.out,a.bl⟩⟩
    ·have:=a.len j hj;rcases hj with rfl | rfl<;>exact this
    ·have:=a.pair j hj;rcases hj with rfl | rfl<;>exact this
   refine ⟨(((p0.1.trans (jik z0)).trans (jfQ z0)).trans (jik z1)).trans (jfQ z1),fun o=>jfP z1 (jij (q:=b) z1 hb (Nat.zero_le _) (jfP z0 (jij (q:=a) z0 ha (Nat.zero_le _) (p0.2 o)))),rfl,rfl⟩
 exact K.set hx e.1 e.2.1 e.2.2.1 fun h=>by rw [e.2.2.2,h]
theorem jdB {ws:Ws} {x:Wi} {n k:Nat} {fd:Int} (h:AtW (ws++[x]) n k fd):AtW ws n k fd\/(n=ws.length/\(k=0\/k=1)/\(x.e k).what=1/\(x.e k).fd=fd):=by
 obtain ⟨y,hy,hk,h1,h2⟩:=h
 rcases Nat.lt_or_ge n ws.length with hl | hl
 ·rw [List.getElem?_append,if_pos hl] at hy
  exact .inl ⟨y,hy,hk,h1,h2⟩
 ·rw [List.getElem?_append,if_neg om] at hy
  have:n-ws.length=0:=by
   rcases Nat.eq_zero_or_pos (n-ws.length) with e | e
   ·exact e
   ·rw [List.getElem?_eq_none (show 1<=_ from e)] at hy;cases hy
  rw [this] at hy
  cases hy
  exact .inr ⟨by omega,hk,h1,h2⟩
theorem jiz {ws:Ws} {x y:Wi} {n:Nat} (h:(ws++[x])[n]?=some y):ws[n]?=some y\/(n=ws.length/\y=x):=by
 rcases Nat.lt_or_ge n ws.length with hl | hl
 ·rw [List.getElem?_append,if_pos hl] at h
  exact .inl h
 ·rw [List.getElem?_append,if_neg om] at h
  have:n-ws.length=0:=by
   rcases Nat.eq_zero_or_pos (n-ws.length) with e | e
   ·exact e
   ·rw [List.getElem?_eq_none (show 1<=_ from e)] at h;cases h
  rw [this] at h
  cases h
  exact .inr ⟨by omega,rfl⟩
theorem jem {ws:Ws} {x y:Wi} {n:Nat} (h:ws[n]?=some y):(ws++[x])[n]?=some y:=by rw [List.getElem?_append,if_pos (w_lt h),h]
theorem push_uniq {ws:Ws} {x:Wi} (u:Uniq ws) (hf : ∀ k,k=0\/k=1->(x.e k).what=1 -> ∀ n j,¬ AtW ws n j (x.e k).fd) (h2:x.e0.what=1->x.e1.what=1->x.e0.fd≠x.e1.fd):Uniq (ws++[x]):=by
 intro n k n' k' fd a b
 rcases jdB a with a | ⟨rfl,hk,w1,f1⟩
 ·rcases jdB b with b | ⟨rfl,hk',w1,f1⟩
  ·exact u _ _ _ _ _ a b
  ·exact absurd (by rw [f1];exact a) (hf k' hk' w1 n k)
 ·rcases jdB b with b | ⟨rfl,hk',w2,f2⟩
  ·exact absurd (by rw [f1];exact b) (hf k hk w1 n' k')
  ·refine ⟨rfl,?_⟩
   rcases hk with rfl | rfl<;>rcases hk' with rfl | rfl
   ·rfl
   ·exact absurd (f1.trans f2.symm) (h2 w1 w2)
   ·exact absurd (f2.trans f1.symm) (h2 w2 w1)
   ·rfl
theorem WsK.push {ws:Ws} {x:Wi} (K:WsK ws) (ox:WiOk x) (hw:x.waiting=[]) (hl:ws.length<1000) (hf : ∀ k,k=0\/k=1->(x.e k).what=1 -> ∀ n j,¬ AtW ws n j (x.e k).fd) (h2:x.e0.what=1->x.e1.what=1->x.e0.fd≠x.e1.fd):WsK (ws++[x]):=by
 refine ⟨⟨push_uniq K.ok.uniq hf h2,fun y hy=>?_,by rw [List.length_append];show ws.length+1<=1000;omega,fun y hy=>?_⟩,?_⟩
 ·rcases List.mem_append.1 hy with h | h
  ·exact K.ok.ok y h
  ·obtain rfl:y=x:=by simpa using h
   exact ox
 ·rcases List.mem_append.1 hy with h | h
  ·obtain ⟨p1,p2⟩:=K.ok.wait y h
   refine ⟨p1,fun m hm=>?_⟩
   obtain ⟨z,z0,z1,z2⟩:=p2 m hm
   exact ⟨z,z0,jem z1,z2⟩
  ·obtain rfl:y=x:=by simpa using h
   rw [hw];simp
 ·intro i j a b p q m ha hb hp hq
  rcases jiz ha with ha | ⟨rfl,rfl⟩
  ·rcases jiz hb with hb | ⟨rfl,rfl⟩
   ·exact K.one i j a b p q m ha hb hp hq
   ·rw [hw] at hq;simp at hq
  ·rw [hw] at hp;simp at hp
theorem jcw {ws:Ws} {n:Nat} {f:Int} (h:f∈jax ws n) : ∃ i:Nat,f=i/\i<n/\atS ws f=none:=by
 unfold jax at h
 obtain ⟨i,hi,rfl⟩:=List.mem_map.1 h
 obtain ⟨p1,p2⟩:=List.mem_filter.1 hi
 refine ⟨i,rfl,by simpa using p1,?_⟩
 simpa using p2
theorem jha (ws:Ws) (n:Nat):(jax ws n).Nodup:=by
 unfold jax
 exact (List.Pairwise.filter _ List.nodup_range).map _ fun a b (h:a≠b)=>by show (a:Int)≠(b:Int);omega
theorem jd3 {ws:Ws} {kind n:Int} (hk:kind=0\/kind=1\/kind=2\/kind=3) (K:WsK ws):WsK (jah ws kind n).2:=by
 unfold jah
 split
 ·exact K
 next hb=>
 split
 ·exact K
 next f0 fs hF=>
 split
 ·exact K
 next hbad=>
 have hn:1<=n/\n<=65536:=by omega
 have hnt:1<=n.toNat/\n.toNat<=65536:=by omega
 obtain ⟨i0,e0,_,a0⟩:=jcw (ws:=ws) (n:=96) (f:=f0) (by rw [hF];simp)
 have n0:=jhW a0
 have nd:=jha ws 96
 rw [hF] at nd
 have h1:kind<2 -> ∃ f1,fs.headD 0=f1/\f0≠f1 /\ ∀ n k,¬ AtW ws n k f1:=by
  intro h
  cases fs with
  | nil=>exact absurd (.inl ⟨rfl,h⟩) hbad
  | cons f1 r=>
   obtain ⟨i1,e1,_,a1⟩:=jcw (ws:=ws) (n:=96) (f:=f1) (by rw [hF];simp)
   refine ⟨f1,rfl,fun e=>?_,jhW a1⟩
   subst e
   exact absurd nd (by simp)
 have hlen:ws.length<1000:=by omega
 have two1 : ∀ {x:Wi},x.e0.fd=f0->(x.e1.what=1->x.e1.fd=fs.headD 0/\kind<2) -> ∀ k,k=0\/k=1->(x.e k).what=1 -> ∀ n j,¬ AtW ws n j (x.e k).fd:=by
  intro x p0 p1 k hk h
  rcases hk with rfl | rfl
  ·show ∀ n j,¬ AtW ws n j x.e0.fd
   rw [p0];exact n0
  ·obtain ⟨q1,q2⟩:=p1 h
   obtain ⟨f1,r1,_,r2⟩:=h1 q2
   show ∀ n j,¬ AtW ws n j x.e1.fd
   rw [q1,r1];exact r2
 have mk : ∀ (x:Wi),(∀ k,k=0\/k=1 -> ∀ q,(x.e k).ring=some q->q=[])->x.cap=n.toNat->(∀ k,k=0\/k=1->((x.e k).writes=true↔(x.e (1-k)).ring≠none))->(x.e1.what=2->x.e0.ring≠none/\x.e1.ring≠none)->0<=x.backlog/\x.backlog<=64->WiOk x:=by
  intro x p1 p2 p3 p4 p5
  exact ⟨by rw [p2];exact hnt.1,by rw [p2];exact hnt.2,fun k hk q hq=>by rw [p1 k hk q hq];exact Nat.zero_le _,p3,p4,p5⟩
 rcases hk with rfl | rfl | rfl | rfl
 ·have e:newW 0 n f0 (fs.headD 0)=⟨⟨1,f0,some [],false,false,0,0⟩,⟨1,fs.headD 0,none,true,false,0,0⟩,n.toNat,false,0,[]⟩:=rfl
  refine K.push (mk _ (fun k hk q hq=>?_) rfl (fun k hk=>?_) (fun h=>?_) ?_) rfl hlen (two1 rfl fun _=>⟨rfl,by omega⟩) fun _ _=>?_
  ·rcases hk with rfl | rfl
   ·have:some []=some q:=hq
    cases this;rfl
   ·have:none=some q:=hq
    cases this
  ·rcases hk with rfl | rfl
   ·show (false=true↔(none:Option (List UInt8))≠none);simp
   ·show (true=true↔some ([]:List UInt8)≠none);simp
  ·have h:(1:Int)=2:=h
   omega
  ·show (0:Int)<=0/\(0:Int)<=64;omega
  ·obtain ⟨f1,r1,r0,_⟩:=h1 om
   show f0≠fs.headD 0
   rw [r1];exact r0
 ·refine K.push (mk _ (fun k hk q hq=>?_) rfl (fun k hk=>?_) (fun h=>?_) ?_) rfl hlen (two1 rfl fun _=>⟨rfl,by omega⟩) fun _ _=>?_
  ·rcases hk with rfl | rfl
   ·have:some []=some q:=hq
    cases this;rfl
   ·have:some []=some q:=hq
    cases this;rfl
  ·rcases hk with rfl | rfl
   ·show (true=true↔some ([]:List UInt8)≠none);simp
   ·show (true=true↔some ([]:List UInt8)≠none);simp
  ·have h:(1:Int)=2:=h
   omega
  ·show (0:Int)<=0/\(0:Int)<=64;omega
  ·obtain ⟨f1,r1,r0,_⟩:=h1 om
   show f0≠fs.headD 0
   rw [r1];exact r0
 ·refine K.push (mk _ (fun k hk q hq=>?_) rfl (fun k hk=>?_) (fun h=>?_) ?_) rfl hlen (two1 rfl fun h=>?_) fun _ h=>?_
  ·rcases hk with rfl | rfl
   ·have:some []=some q:=hq
    cases this;rfl
   ·have:some []=some q:=hq
    cases this;rfl
  ·rcases hk with rfl | rfl
   ·show (true=true↔some ([]:List UInt8)≠none);simp
   ·show (true=true↔some ([]:List UInt8)≠none);simp
  ·exact ⟨by show some []≠none;simp,by show some []≠none;simp⟩
  ·show (0:Int)<=0/\(0:Int)<=64;omega
  ·have h:(2:Int)=1:=h
   omega
  ·have h:(2:Int)=1:=h
   omega
 ·refine K.push (mk _ (fun k hk q hq=>?_) rfl (fun k hk=>?_) (fun h=>?_) ?_) rfl hlen (two1 rfl fun h=>?_) fun _ h=>?_
  ·rcases hk with rfl | rfl
   ·have:none=some q:=hq
    cases this
   ·have:none=some q:=hq
    cases this
  ·rcases hk with rfl | rfl
   ·show (false=true↔(none:Option (List UInt8))≠none);simp
   ·show (false=true↔(none:Option (List UInt8))≠none);simp
  ·have h:(0:Int)=2:=h
   omega
  ·show 0<=n/\n<=64;omega
  ·have h:(0:Int)=1:=h
   omega
  ·have h:(0:Int)=1:=h
   omega
theorem jfu {ws:Ws} {m n k:Nat} {f fd:Int} {y:Wi} (hy:ws[m]?=some y) (h:AtW (ws.set m (y.put 0 { y.e 0 with what:=1,fd:=f })) n k fd):(n=m/\k=0/\fd=f)\/(AtW ws n k fd/\(n=m->k=1)):=by
 obtain ⟨x,hx,hk,h1,h2⟩:=h
 rcases jc0 hx with ⟨rfl,rfl⟩ | ⟨hne,hx⟩
 ·rcases hk with rfl | rfl
  ·exact .inl ⟨rfl,rfl,h2.symm⟩
  ·exact .inr ⟨⟨y,hy,.inr rfl,h1,h2⟩,fun _=>rfl⟩
 ·exact .inr ⟨⟨x,hx,hk,h1,h2⟩,fun e=>absurd e hne⟩
theorem WsK.seat {ws:Ws} {m:Nat} {f:Int} {y:Wi} (K:WsK ws) (hy:ws[m]?=some y) (hf : ∀ n k,¬ AtW ws n k f) (hw : ∀ (j:Nat) (u:Wi),ws[j]?=some u->(m:Int) ∉ u.waiting):WsK (ws.set m (y.put 0 { y.e 0 with what:=1,fd:=f })):=by
 have key : ∀ (i:Nat) (z':Wi),(ws.set m (y.put 0 { y.e 0 with what:=1,fd:=f }))[i]?=some z' -> ∃ z,ws[i]?=some z/\z'.waiting=z.waiting/\WiOk z'/\(i≠m->z'=z):=by
  intro i z' hz
  rcases jc0 hz with ⟨rfl,rfl⟩ | ⟨hne,hz⟩
  ·have a:=K.ok.ok y (List.mem_of_getElem? hy)
   refine ⟨y,hy,rfl,⟨a.cap0,a.cap1,fun j hj=>?_,fun j hj=>?_,a.out,a.bl⟩,fun h=>absurd rfl h⟩
   ·have:=a.len j hj;rcases hj with rfl | rfl<;>exact this
   ·have:=a.pair j hj;rcases hj with rfl | rfl<;>exact this
  ·exact ⟨z',hz,rfl,K.ok.ok z' (List.mem_of_getElem? hz),fun _=>rfl⟩
 refine ⟨⟨?_,fun x hx=>?_,by rw [List.length_set];exact K.ok.len,fun x hx=>?_⟩,?_⟩
 ·intro n k n' k' fd a b
  rcases jfu hy a with ⟨h1,h2,h3⟩ | ⟨a2,_⟩
  ·rcases jfu hy b with ⟨h4,h5,_⟩ | ⟨b2,_⟩
   ·exact ⟨h1.trans h4.symm,h2.trans h5.symm⟩
   ·rw [h3] at b2;exact absurd b2 (hf _ _)
  ·rcases jfu hy b with ⟨_,_,h3⟩ | ⟨b2,_⟩
   ·rw [h3] at a2;exact absurd a2 (hf _ _)
   ·exact K.ok.uniq _ _ _ _ _ a2 b2
 ·obtain ⟨i,hi⟩:=List.mem_iff_getElem?.1 hx
  obtain ⟨_,_,_,h,_⟩:=key i x hi
  exact h
 ·obtain ⟨i,hi⟩:=List.mem_iff_getElem?.1 hx
  obtain ⟨z,z1,z2,_,_⟩:=key i x hi
  rw [z2]
  obtain ⟨p1,p2⟩:=K.ok.wait z (List.mem_of_getElem? z1)
  refine ⟨p1,fun q hq=>?_⟩
  obtain ⟨u,u0,u1,u2⟩:=p2 q hq
  have hne:m≠q.toNat:=by
   rintro rfl
   refine hw i z z1 ?_
   rw [Int.toNat_of_nonneg u0];exact hq
  exact ⟨u,u0,by rw [List.getElem?_set,if_neg hne,u1],u2⟩
 ·intro i j a b p q v ha hb hp hq
  obtain ⟨a',a1,a2,_⟩:=key i a ha
  obtain ⟨b',b1,b2,_⟩:=key j b hb
  rw [a2] at hp
  rw [b2] at hq
  exact K.one i j a' b' p q v a1 b1 hp hq
theorem jgz {ws:Ws} {n m k:Nat} {fd:Int} {x:Wi} {wt:List Int} (hx:ws[n]?=some x):AtW (ws.set n { x with waiting:=wt }) m k fd↔AtW ws m k fd:=by
 constructor
 ·rintro ⟨y,hy,hk,h1,h2⟩
  rcases jc0 hy with ⟨rfl,rfl⟩ | ⟨_,hy⟩
  ·exact ⟨x,hx,hk,by rcases hk with rfl | rfl<;>exact h1,by rcases hk with rfl | rfl<;>exact h2⟩
  ·exact ⟨y,hy,hk,h1,h2⟩
 ·rintro ⟨y,hy,hk,h1,h2⟩
  by_cases e:m=n
  ·subst e
   rw [hx] at hy;cases hy
   exact ⟨_,by rw [List.getElem?_set,if_pos rfl,if_pos (w_lt hx)],hk,by rcases hk with rfl | rfl<;>exact h1,by rcases hk with rfl | rfl<;>exact h2⟩
  ·exact ⟨y,by rw [List.getElem?_set,if_neg (fun h=>e h.symm),hy],hk,h1,h2⟩
theorem jfT {ws:Ws} {fd:Int} (K:WsK ws):WsK (jaq ws fd).2:=by
 unfold jaq
 refine jaB (P:=fun r:_ × Ws=>WsK r.2) K fun n k x hx hk h1=>?_
 split
 ·exact K
 split
 ·exact K
 next m rest hw=>
 split
 ·exact K
 next f fs hF=>
 split
 ·exact K
 next y hy=>
 have e:({ x with waiting:=rest } : Wi) = { x with waiting:=x.waiting.drop 1 } := by rw [hw];rfl
 have K1:=K.set_wait (c:=1) hx
 rw [<- e] at K1
 obtain ⟨i,_,_,hf⟩:=jcw (ws:=ws) (n:=96) (f:=f) (by rw [hF];simp)
 have nf:=jhW hf
 refine K1.seat hy (fun a b h=>nf a b ((jgz hx).1 h)) fun j u hu hm=>?_
 have m0:0<=m:=by
  obtain ⟨z,z0,_⟩:=(K.ok.wait x (List.mem_of_getElem? hx)).2 m (by rw [hw];simp)
  exact z0
 rw [Int.toNat_of_nonneg m0] at hm
 obtain ⟨q,hq⟩:=List.mem_iff_getElem?.1 hm
 rcases jc0 hu with ⟨rfl,rfl⟩ | ⟨hne,hu⟩
 ·have:=(K.one j j x x 0 (q+1) m hx hx (by rw [hw];rfl) (by rw [hw];exact hq)).2
  omega
 ·exact hne (K.one j n u x q 0 m hu hx hq (by rw [hw];rfl)).1
theorem WsK.waits {ws:Ws} {n:Nat} {x y y2:Wi} {m:Int} (K:WsK ws) (hx:ws[n]?=some x) (hs:x.SubFd y) (hok:WiOk y) (hw:y.waiting=x.waiting++[m]) (h64:x.waiting.length<64) (h0:x.e0.what=0->y.e0.what=0)
  (m0:0<=m) (hm:ws[m.toNat]?=some y2) (hm2:y2.e0.what=0) (hno : ∀ (j:Nat) (u:Wi),ws[j]?=some u->m ∉ u.waiting):WsK (ws.set n y):=by
 have old : ∀ (p:Nat) (v:Int),y.waiting[p]?=some v->(x.waiting[p]?=some v)\/(v=m/\p=x.waiting.length):=by
  intro p v h
  rw [hw] at h
  rcases Nat.lt_or_ge p x.waiting.length with hl | hl
  ·rw [List.getElem?_append,if_pos hl] at h;exact .inl h
  ·rw [List.getElem?_append,if_neg om] at h
   have:p-x.waiting.length=0:=by
    rcases Nat.eq_zero_or_pos (p-x.waiting.length) with e | e
    ·exact e
    ·rw [List.getElem?_eq_none (show 1<=_ from e)] at h;cases h
   rw [this] at h;cases h
   exact .inr ⟨rfl,by omega⟩
 have tgt : ∀ (v:Int) (u:Wi),0<=v->ws[v.toNat]?=some u->u.e0.what=0 -> ∃ u':Wi,0<=v/\(ws.set n y)[v.toNat]?=some u'/\u'.e0.what=0:=by
  intro v u v0 hu hu0
  by_cases e:n=v.toNat
  ·rw [<- e,hx] at hu;cases hu
   exact ⟨y,v0,by rw [List.getElem?_set,if_pos e,if_pos (w_lt hx)],h0 hu0⟩
  ·exact ⟨u,v0,by rw [List.getElem?_set,if_neg e,hu],hu0⟩
 refine ⟨⟨?_,fun z hz=>?_,by rw [List.length_set];exact K.ok.len,fun z hz=>?_⟩,?_⟩
 ·have sub : ∀ i k fd,AtW (ws.set n y) i k fd->AtW ws i k fd:=by
   rintro i k fd ⟨z,hz,hk,h1,h2⟩
   rcases jc0 hz with ⟨rfl,rfl⟩ | ⟨_,hz⟩
   ·exact ⟨x,hx,hk,(hs k hk h1).1,by rw [<- (hs k hk h1).2,h2]⟩
   ·exact ⟨z,hz,hk,h1,h2⟩
  exact fun a k b k' fd p q=>K.ok.uniq a k b k' fd (sub _ _ _ p) (sub _ _ _ q)
 ·rcases List.mem_or_eq_of_mem_set hz with h | rfl
  ·exact K.ok.ok z h
  ·exact hok
 ·rcases List.mem_or_eq_of_mem_set hz with h | rfl
  ·obtain ⟨p1,p2⟩:=K.ok.wait z h
   refine ⟨p1,fun v hv=>?_⟩
   obtain ⟨u,u0,u1,u2⟩:=p2 v hv
   exact tgt v u u0 u1 u2
  ·obtain ⟨p1,p2⟩:=K.ok.wait x (List.mem_of_getElem? hx)
   rw [hw]
   refine ⟨by rw [List.length_append];show _+1<=64;omega,fun v hv=>?_⟩
   rcases List.mem_append.1 hv with h | h
   ·obtain ⟨u,u0,u1,u2⟩:=p2 v h
    exact tgt v u u0 u1 u2
   ·obtain rfl:v=m:=by simpa using h
    exact tgt v y2 m0 hm hm2
 ·intro i j a b p q v ha hb hp hq
  rcases jc0 ha with ⟨rfl,rfl⟩ | ⟨hi,ha2⟩
  ·rcases jc0 hb with ⟨rfl,rfl⟩ | ⟨hj,hb2⟩
   ·refine ⟨rfl,?_⟩
    rcases old p v hp with h1 | ⟨rfl,h1⟩
    ·rcases old q v hq with h2 | ⟨rfl,h2⟩
     ·exact (K.one j j x x p q v hx hx h1 h2).2
     ·exact absurd (List.mem_of_getElem? h1) (hno j x hx)
    ·rcases old q v hq with h2 | ⟨_,h2⟩
     ·exact absurd (List.mem_of_getElem? h2) (hno j x hx)
     ·omega
   ·rcases old p v hp with h1 | ⟨rfl,h1⟩
    ·exact K.one _ j x b p q v hx hb2 h1 hq
    ·exact absurd (List.mem_of_getElem? hq) (hno j b hb2)
  ·rcases jc0 hb with ⟨rfl,rfl⟩ | ⟨hj,hb2⟩
   ·rcases old q v hq with h1 | ⟨rfl,h1⟩
    ·exact K.one i _ a x p q v ha2 hx hp h1
    ·exact absurd (List.mem_of_getElem? hp) (hno i a ha2)
   ·exact K.one i j a b p q v ha2 hb2 hp hq
theorem jk2 {many:Int} (h1:1<=many) (h2:many<=65536):WiOk (jbj many):=by
 refine ⟨by show 1<=many.toNat;omega,by show many.toNat<=65536;omega,fun k hk q hq=>?_,fun k hk=>?_,fun _=>⟨by show some []≠none;simp,by show some []≠none;simp⟩,by show (0:Int)<=0/\(0:Int)<=64;omega⟩
 ·rcases hk with rfl | rfl
  ·have:some []=some q:=hq
   cases this;exact Nat.zero_le _
  ·have:some []=some q:=hq
   cases this;exact Nat.zero_le _
 ·rcases hk with rfl | rfl
  ·show (true=true↔some ([]:List UInt8)≠none);simp
  ·show (true=true↔some ([]:List UInt8)≠none);simp
theorem jhh {ws:Ws} {n many:Int} (K:WsK ws):WsK (jau ws n many).2:=by
 unfold jau
 split
 ·exact K
 split
 ·exact K
 next x hx=>
 split
 ·exact K
 split
 ·exact K
 next hm=>
 split
 ·exact K
 next hbl=>
 split
 ·exact K
 next hlen=>
 have a:=K.ok.ok x (List.mem_of_getElem? hx)
 have K2:WsK (ws++[jbj many]):=by
  refine K.push (jk2 om om) rfl om (fun k hk h=>?_) fun h=>?_
  ·rcases hk with rfl | rfl
   ·have h:(0:Int)=1:=h
    omega
   ·have h:(2:Int)=1:=h
    omega
  ·have h:(0:Int)=1:=h
   omega
 have hn:=w_lt hx
 have hmn:(ws++[jbj many])[((ws.length:Nat):Int).toNat]?=some (jbj many):=by simp
 have K3:=K2.waits (n:=n.toNat) (x:=x) (y := { x with waiting:=x.waiting++[(ws.length:Int)],e0 := { x.e0 with inn:=upu x.e0.inn } }) (y2:=jbj many) (m:=(ws.length:Int)) (jem hx)
  (fun j hj=>by rcases hj with rfl | rfl<;>exact fun h=>⟨h,rfl⟩) ⟨a.cap0,a.cap1,fun j hj=>by have:=a.len j hj;(rcases hj with rfl | rfl<;>exact this),fun j hj=>by have:=a.pair j hj;(rcases hj with rfl | rfl<;>exact this),a.out,a.bl⟩ rfl
  (by have:=a.bl;omega) (fun h=>h) om hmn rfl fun j u hu hmem=>by
   rcases jiz hu with hu | ⟨_,rfl⟩
   ·obtain ⟨z,z0,z1,_⟩:=(K.ok.wait u (List.mem_of_getElem? hu)).2 _ hmem
    have:=w_lt z1
    simp at this
   ·have:(ws.length:Int)∈([]:List Int):=hmem
    simp at this
 rw [List.set_append_left _ _ hn] at K3
 exact K3
end Am.Sigs
namespace Am.Sigs
open Am Go
def Wi.RK (x y:Wi):Prop := ∀ k,k=0\/k=1->(x.e k).ring≠none->(y.e k).ring≠none
theorem Wi.RK.refl (x:Wi):x.RK x:=fun _ _ h=>h
theorem Wi.RK.trans {x y z:Wi} (a:x.RK y) (b:y.RK z):x.RK z:=fun k hk h=>b k hk (a k hk h)
def WsR (ws ws':Ws):Prop := ∀ (n:Nat) (x:Wi),ws[n]?=some x -> ∃ y,ws'[n]?=some y/\x.RK y
theorem WsR.refl (ws:Ws):WsR ws ws:=fun _ x h=>⟨x,h,Wi.RK.refl x⟩
theorem WsR.trans {a b c:Ws} (x:WsR a b) (y:WsR b c):WsR a c:=fun n u hu=>by
 obtain ⟨v,hv,h1⟩:=x n u hu
 obtain ⟨w,hw,h2⟩:=y n v hv
 exact ⟨w,hw,h1.trans h2⟩
theorem WsR.set {ws:Ws} {n:Nat} {x y:Wi} (hx:ws[n]?=some x) (h:x.RK y):WsR ws (ws.set n y):=fun m u hu=>by
 by_cases e:n=m
 ·subst e
  rw [hx] at hu;cases hu
  exact ⟨y,by rw [List.getElem?_set,if_pos rfl,if_pos (w_lt hx)],h⟩
 ·exact ⟨u,by rw [List.getElem?_set,if_neg e,hu],Wi.RK.refl u⟩
theorem WsR.push {ws:Ws} {x:Wi} : WsR ws (ws++[x]):=fun _ u hu=>⟨u,jem hu,Wi.RK.refl u⟩
theorem NtOk.keep {ws ws':Ws} {no si:Int} (a:NtOk ws no si) (r:WsR ws ws'):NtOk ws' no si:=by
 rcases a with a | ⟨n,k,x,h1,h2,h3,h4,h5,h6⟩
 ·exact .inl a
 ·obtain ⟨y,hy,rk⟩:=r n x h4
  exact .inr ⟨n,k,y,h1,h2,h3,hy,rk 0 (.inl rfl) h5,rk 1 (.inr rfl) h6⟩
theorem jfO {x:Wi} {k:Nat} {i o:Bool} (hk:k=0\/k=1):x.RK (x.came k i o):=by
 intro j hj
 rcases hk with rfl | rfl<;>rcases hj with rfl | rfl<;>exact fun h=>h
theorem jii {x:Wi} {k:Nat} {q:List UInt8} (hk:k=0\/k=1):x.RK (x.setq k q):=by
 intro j hj
 rcases hk with rfl | rfl<;>rcases hj with rfl | rfl
 ·intro _;show some q≠none;simp
 ·exact fun h=>h
 ·exact fun h=>h
 ·intro _;show some q≠none;simp
theorem jkg {x:Wi} {k m:Nat} {q:List UInt8} (hk:k=0\/k=1):x.RK (x.take k m q):=(jii hk).trans (jfO (jbZ hk))
theorem jkB {x:Wi} {k m:Nat} {q b:List UInt8} (hk:k=0\/k=1):x.RK (x.fill k m q b):=(jii (jbZ hk)).trans (jfO (jbZ hk))
theorem jmQ {x:Wi} {k:Nat} {e:En} (hk:k=0\/k=1) (h:e.ring=(x.e k).ring):x.RK (x.put k e):=by
 intro j hj
 rcases hk with rfl | rfl<;>rcases hj with rfl | rfl
 ·intro h1;show e.ring≠none;rw [h];exact h1
 ·exact fun h=>h
 ·exact fun h=>h
 ·intro h1;show e.ring≠none;rw [h];exact h1
theorem jmD {x:Wi} {k:Nat} (hk:k=0\/k=1):x.RK (x.doShut k):=by
 unfold Wi.doShut
 split
 ·exact Wi.RK.refl x
 ·exact (jmQ (e := { x.e k with shut:=true }) hk rfl).trans (jfO (jbZ hk))
theorem jiL {x:Wi} {k:Nat} (hk:k=0\/k=1):x.RK (x.close k):=by
 unfold Wi.close
 exact (jfO (jbZ hk)).trans (jmQ hk rfl)
theorem reset_rk {x:Wi} : x.RK x.doReset:=by
 unfold Wi.doReset
 split
 ·exact Wi.RK.refl x
 ·have z0:(0:Nat)=0\/(0:Nat)=1 := .inl rfl
  have z1:(1:Nat)=0\/(1:Nat)=1 := .inr rfl
  have p0:x.RK { x with reset:=true } := fun j hj=>by rcases hj with rfl | rfl<;>exact fun h=>h
  exact (((p0.trans (jii z0)).trans (jfO z0)).trans (jii z1)).trans (jfO z1)
theorem readS_r {ws:Ws} {fd many:Int} : WsR ws (jaP ws fd many).2:=by
 unfold jaP
 refine jaB (P:=fun r:_ × Ws=>WsR ws r.2) (WsR.refl ws) fun n k x hx hk h1=>?_
 split
 ·exact WsR.refl ws
 ·repeat' split
  all_goals first | exact WsR.refl ws | exact WsR.set hx (jkg hk)
theorem writeS_r {ws:Ws} {fd:Int} {b:List UInt8} : WsR ws (jav ws fd b).2:=by
 unfold jav
 refine jaB (P:=fun r:_ × Ws=>WsR ws r.2) (WsR.refl ws) fun n k x hx hk h1=>?_
 repeat' split
 all_goals first | exact WsR.refl ws | exact WsR.set hx (jkB hk)
theorem shutS_r {ws:Ws} {fd:Int} : WsR ws (jcY ws fd).2:=by
 unfold jcY
 refine jaB (P:=fun r:_ × Ws=>WsR ws r.2) (WsR.refl ws) fun n k x hx hk h1=>?_
 split
 ·exact WsR.refl ws
 ·exact WsR.set hx (jmD hk)
theorem jhV : ∀ (L:List Int) (ws:Ws),WsR ws (jaD ws L)
 | [],ws=>WsR.refl ws
 | m :: L,ws=>by
  refine WsR.trans ?_ (jhV L _)
  unfold jcn
  split
  ·exact WsR.refl ws
  ·next x hx=>exact WsR.set hx (jiL (.inl rfl))
theorem noWait_r {ws:Ws} {n:Nat} : WsR ws (noWait ws n):=by
 unfold noWait
 split
 ·exact WsR.refl ws
 ·next x hx=>exact WsR.set hx fun j hj=>by rcases hj with rfl | rfl<;>exact fun h=>h
theorem closeS_r {ws:Ws} {fd:Int} : WsR ws (jbS ws fd).2:=by
 unfold jbS
 exact jaB (P:=fun r:_ × Ws=>WsR ws r.2) (WsR.refl ws) fun n k x hx hk h1=>((WsR.set hx (jiL hk)).trans (jhV _ _)).trans noWait_r
theorem putS_r {ws:Ws} {n:Int} {b:List UInt8} : WsR ws (putS ws n b).2:=by
 unfold putS
 refine jaA (P:=fun r:_ × Ws=>WsR ws r.2) (WsR.refl ws) fun n x hx h2=>?_
 repeat' split
 all_goals first | exact WsR.refl ws | exact WsR.set hx (jkB (.inr rfl))
theorem takeS_r {ws:Ws} {n many:Int} : WsR ws (jcs ws n many).2:=by
 unfold jcs
 refine jaA (P:=fun r:_ × Ws=>WsR ws r.2) (WsR.refl ws) fun n x hx h2=>?_
 repeat' split
 all_goals first | exact WsR.refl ws | exact WsR.set hx (jkg (.inr rfl))
theorem jky {ws:Ws} {n:Int} : WsR ws (jaJ ws n).2:=jaA (P:=fun r:_ × Ws=>WsR ws r.2) (WsR.refl ws) fun _ _ hx _=>WsR.set hx (jmD (.inr rfl))
theorem jjA {ws:Ws} {n:Int} : WsR ws (ja7 ws n).2:=jaA (P:=fun r:_ × Ws=>WsR ws r.2) (WsR.refl ws) fun _ _ hx _=>WsR.set hx (jiL (.inr rfl))
theorem resetS_r {ws:Ws} {n:Int} : WsR ws (jcc ws n).2:=jaA (P:=fun r:_ × Ws=>WsR ws r.2) (WsR.refl ws) fun _ _ hx _=>WsR.set hx reset_rk
theorem makeS_r {ws:Ws} {kind n:Int} : WsR ws (jah ws kind n).2:=by
 unfold jah
 repeat' split
 all_goals first | exact WsR.refl ws | exact WsR.push
theorem acceptS_r {ws:Ws} {fd:Int} : WsR ws (jaq ws fd).2:=by
 unfold jaq
 refine jaB (P:=fun r:_ × Ws=>WsR ws r.2) (WsR.refl ws) fun n k x hx hk h1=>?_
 split
 ·exact WsR.refl ws
 split
 ·exact WsR.refl ws
 split
 ·exact WsR.refl ws
 split
 ·exact WsR.refl ws
 next y hy=>
 refine WsR.trans (WsR.set (y := { x with waiting:=_ }) hx fun j hj=>?_) (WsR.set hy (jmQ (.inl rfl) rfl))
 rcases hj with rfl | rfl<;>exact fun h=>h
theorem jmp {ws:Ws} {n many:Int} : WsR ws (jau ws n many).2:=by
 unfold jau
 split
 ·exact WsR.refl ws
 split
 ·exact WsR.refl ws
 next x hx=>
 repeat' split
 all_goals first | exact WsR.refl ws | skip
 refine WsR.trans (WsR.set hx fun j hj=>?_) WsR.push
 rcases hj with rfl | rfl<;>exact fun h=>h
theorem jeq {ws:Ws} {sum no si:Int} (nt:NtOk ws no si):WsR ws (jao ws sum no si):=by
 unfold jao
 split
 ·exact WsR.refl ws
 next h0=>
 split
 ·exact WsR.refl ws
 next x hx=>
 split
 ·exact WsR.refl ws
 rcases nt with h | ⟨n,k,y,h1,h2,h3,h4,h5,h6⟩
 ·omega
 have hk:si.toNat=0\/si.toNat=1:=by omega
 split
 ·exact WsR.set hx (jkg hk)
 split
 ·exact WsR.set hx (jkB (jbZ hk))
 ·exact WsR.refl ws
theorem jd2 {ws:Ws} {sum no si:Int} (K:WsK ws) (nt:NtOk ws no si):WsK (jao ws sum no si):=by
 unfold jao
 split
 ·exact K
 next h0=>
 split
 ·exact K
 next x hx=>
 split
 ·exact K
 next q hq=>
 rcases nt with h | ⟨n,k,y,h1,h2,h3,h4,h5,h6⟩
 ·omega
 have hk:si.toNat=0\/si.toNat=1:=by omega
 split
 ·exact K.take hx hk hq
 split
 ·next e=>
  have e2:1-(1-si.toNat)=si.toNat:=by omega
  have hc:=(K.ok.ok x (List.mem_of_getElem? hx)).cap0
  exact K.fill hx (jbZ hk) (q:=[]) (by rw [e2,hq,e]) (by show min 1 x.cap<=x.cap-0;omega)
 ·exact K
theorem jnC {ws:Ws} {a b no si:Int} (nt:NtOk ws no si):NtOk ws (ntNo ws a b no) (ntSi ws a b si):=by
 have key : ∀ n k,(ntS ws a b).2=some (n,k)->(k=0\/k=1) /\ ∃ x,ws[n]?=some x/\x.e0.ring≠none/\x.e1.ring≠none:=by
  unfold ntS
  refine jaB (P:=fun r:Int × Option (Nat × Nat)=>∀ n k,r.2=some (n,k)->(k=0\/k=1) /\ ∃ x,ws[n]?=some x/\x.e0.ring≠none/\x.e1.ring≠none) (fun _ _ h=>by cases h) fun n k x hx hk h1=>?_
  refine jaB (P:=fun r:Int × Option (Nat × Nat)=>∀ n k,r.2=some (n,k)->(k=0\/k=1) /\ ∃ x,ws[n]?=some x/\x.e0.ring≠none/\x.e1.ring≠none) (fun _ _ h=>by cases h) fun m i y hy hi h2=>?_
  intro n' k' h
  split at h
  ·next hc=>
   cases h
   exact ⟨hk,x,hx,hc.2.2.1,hc.2.2.2⟩
  ·cases h
 unfold ntNo ntSi
 cases e:(ntS ws a b).2 with
 | none=>exact nt
 | some p=>
  obtain ⟨n,k⟩:=p
  obtain ⟨hk,x,hx,h1,h2⟩:=key n k e
  exact .inr ⟨n,k,x,rfl,rfl,hk,hx,h1,h2⟩
theorem jmX {ws:Ws} {sum a b:Int} : ∃ no si,NtOk ws no si/\ntW ws sum a b=jao ws sum no si:=by
 have:=jnC (ws:=ws) (a:=a) (b:=b) (no := -1) (si:=0) (.inl rfl)
 unfold ntNo ntSi at this
 unfold ntW
 cases e:(ntS ws a b).2 with
 | none=>exact ⟨-1,0,.inl rfl,rfl⟩
 | some p=>
  obtain ⟨n,k⟩:=p
  rw [e] at this
  exact ⟨n,k,this,rfl⟩
end Am.Sigs
namespace Am.Sigs
open Am Go
def noI:Option (Nat × Nat)->Int
 | none=>-1
 | some p=>p.1
def siI:Option (Nat × Nat)->Int
 | none=>0
 | some p=>p.2
theorem put_clear {x:Wi} {k:Nat} {q:List UInt8} : (x.setq k []).came (1-k) false (decide (0<q.length))=x.take k q.length q:=by
 unfold Wi.take
 rw [List.drop_length]
section
variable {cl:Nat->Call} (hcl:Sem cl) {h:H} {w s:Nat} {ow:Nat->Nat} {ws:Ws} {now:Int} {tb:Tb} {no:Option (Nat × Nat)}
include hcl
theorem jef {d:Nat} (hd:11<=d) (a:WSt h w s ow ws now tb no) (nt:NtOk ws (noI no) (siI no)) (hok:tb.ok 1000000) :
  ∃ h',cl d (.fn F.jc6) [.p w 0] h=some (.tup [],h')/\WSt h' w s ow (jao ws (tb.sum 32) (noI no) (siI no)) now tb no/\To h h' ow ow:=by
 obtain ⟨l,a,rfl⟩:=a
 obtain ⟨sa,c,hw,hsl⟩:=a.wf.head
 have lw:=a.wf.lw
 suffices q : ∃ v h',cl d (.fn F.jc6) [.p w 0] h=some (v,h')/\(v = .tup []/\WSt h' w s ow (jao (wxs l) (tb.sum 32) (noI no) (siI no)) now tb no/\To h h' ow ow) by
  obtain ⟨_,h',e,rfl,q⟩:=q;exact ⟨h',e,q⟩
 cases no with
 | none=>
  have q1:(wc (fun i=>atS (wxs l) (i:Int)) (.slice sa l.length c) s now none)[0+291+0]?=some (.bool false):=jns (j:=0) om rfl
  have hS:jao (wxs l) (tb.sum 32) (noI none) (siI none)=wxs l:=if_pos (by show (-1:Int)<0;omega)
  rw [hS]
  have same:WSt h w s ow (wxs l) now tb none:=⟨l,a,rfl⟩
  refine at_ hcl om rfl rfl rfl ?_
  refine qx1 ?_
  exact ⟨rfl,same,To.refl _ _⟩
 | some p=>
  obtain ⟨n,k⟩:=p
  obtain ⟨hk,x,hx,hx0,hx1⟩:(k=0\/k=1) /\ ∃ x,(wxs l)[n]?=some x/\x.e0.ring≠none/\x.e1.ring≠none:=by
   rcases nt with e | ⟨n',k',x,e1,e2,hk,hx,p⟩
   ·have e:(n:Int) = -1:=e
    omega
   ·have e1:(n:Int)=n':=e1
    have e2:(k:Int)=k':=e2
    obtain rfl:n=n':=by omega
    obtain rfl:k=k':=by omega
    exact ⟨hk,x,hx,p⟩
  obtain ⟨t,ht,rfl⟩:=jiD hx
  obtain ⟨q,hq⟩ : ∃ q,(t.x.e k).ring=some q:=by
   rcases hk with rfl | rfl
   ·exact Option.ne_none_iff_exists'.1 hx0
   ·exact Option.ne_none_iff_exists'.1 hx1
  have hS:jao (wxs l) (tb.sum 32) (noI (some (n,k))) (siI (some (n,k)))=if tb.sum 32=0 then (wxs l).set n (t.x.take k q.length q) else if q=[] then (wxs l).set n (t.x.fill (1-k) (min 1 t.x.cap) [] [1]) else wxs l:=by
   unfold jao
   show (if (n:Int)<0 then _ else _)=_
   rw [if_neg om]
   show (match (wxs l)[(n:Int).toNat]? with | none=>_ | some x=>match (x.e (k:Int).toNat).ring with | none=>_ | some q=>_)=_
   rw [Int.toNat_natCast,hx]
   simp only [Int.toNat_natCast,hq]
   rfl
  rw [hS]
  have q0:(wc (fun i=>atS (wxs l) (i:Int)) (.slice sa l.length c) s now (some (n,k)))[0+291+0]?=some (.bool true):=jns (j:=0) om rfl
  have q1:(wc (fun i=>atS (wxs l) (i:Int)) (.slice sa l.length c) s now (some (n,k)))[0+291+1]?=some (.i (n:Int)):=jns (j:=1) om rfl
  have q2:(wc (fun i=>atS (wxs l) (i:Int)) (.slice sa l.length c) s now (some (n,k)))[0+291+2]?=some (.i (k:Int)):=jns (j:=2) om rfl
  have q3:(wc (fun i=>atS (wxs l) (i:Int)) (.slice sa l.length c) s now (some (n,k)))[0+288]?=some (.slice sa l.length c):=jbi rfl
  have q4:(wc (fun i=>atS (wxs l) (i:Int)) (.slice sa l.length c) s now (some (n,k)))[0+289]?=some (.p s 0):=jf3 rfl
  have hlt:=x_lt ht
  obtain ⟨z,rfl,z1,z2,z3⟩:=hsl (by rintro rfl;simp at hlt)
  have w2:(wps l)[0+(n:Int).toNat*1]?=some (.p t.wb 0):=by rw [show 0+(n:Int).toNat*1=n by omega];exact jds ht
  have X0:=a.wf.ok n t ht
  have hx0:=X0.hx
  unfold Wi.obj at hx0
  have q5:=Wi.ring_cell (x:=t.x) (r0:=t.r0) (r1:=t.r1) (wv:=t.wv) hk hq (o:=0+0+(k:Int).toNat*7+2) om
  obtain ⟨h1,e1,c1⟩:=jlE hcl (d:=d-1) (h0:=h) om a.wf.hs a.wf.ls hok
  have o1:=Old.ofCh c1
  have a1:=a.old o1
  have X:=a1.wf.ok n t ht
  obtain ⟨p1,p2,p3,p4,p5,p6⟩:=X.apart hk hq
  by_cases hsum:tb.sum 32=0
  ·rw [if_pos hsum]
   obtain ⟨h2,e2,R2,c2⟩:=jlf hcl (d:=d-1) om p1 p2 p3 p4
   have W1:=a1.wf.clear ht hk hq c2 R2
   have ht1:(l.set n { t with x:=t.x.setq k [] })[n]?=some { t with x:=t.x.setq k [] } := by rw [List.getElem?_set,if_pos rfl,if_pos (x_lt ht)]
   have X1:=W1.ok n _ ht1
   obtain ⟨h3,e3,u3⟩:=jfv hcl (d:=d-1) (k:=1-k) om X1.hx om false (decide (0<q.length))
   have W2:=W1.upd ht1 u3 (by rcases hk with rfl | rfl<;>rfl) (by rcases hk with rfl | rfl<;>rfl) (fun i hi=>by rcases hk with rfl | rfl<;>rcases hi with rfl | rfl<;>rfl)
   rw [List.set_set] at W2
   have W2:WF h3 w s ow (fun i=>atS (wxs l) (i:Int)) (l.set n { t with x:=t.x.take k q.length q }) now tb (some (n,k)):=by
    rw [<- put_clear];exact W2
   have W3:=WF.same W2 a.fds (jal ht) (Wi.take_same hk)
   have T:To h h3 ow ow:=by
    refine To.old o1 (To.trans ⟨c2.weaken fun j hj hb=>?_,fun _ _=>rfl⟩ (X1.toU u3))
    obtain ⟨_,o2,_⟩:=X.ring k hk q hq
    have hb:j=t.r k:=hb
    subst hb;omega
   have fin:WSt h3 w s ow ((wxs l).set n (t.x.take k q.length q)) now tb (some (n,k)):=⟨_,W3,jbk⟩
   have ek:(1:Int)-(k:Int)=((1-k:Nat):Int):=by omega
   have eb:decide ((q.length:Int)>0)=decide (0<q.length):=by simp
   rw [<- ek,<- eb] at e3
   refine at_ hcl om rfl rfl rfl ?_
   clear hok nt
   refine qx1 ?_
   exact ⟨rfl,fin,T⟩
  rw [if_neg hsum]
  have hlen : ∃ buf frm inn out,RingC h1 (t.r k) (t.b k) buf frm q.length t.x.cap inn out:=by
   obtain ⟨buf,frm,inn,out,C,_⟩:=p1;exact ⟨buf,frm,inn,out,C⟩
  obtain ⟨buf,frm,inn,out,C⟩:=hlen
  have e2:=jle hcl (d:=d-1) om C
  by_cases hqn:q=[]
  ·rw [if_pos hqn]
   subst hqn
   have ek:(1:Int)-(k:Int)=((1-k:Nat):Int):=by omega
   have ekk:1-(1-k)=k:=by omega
   have oG:Old h1 (h1.new (.cells [.int .u8 1] false)):=(Old.refl h1).new
   have hB:BytesAt (h1.new (.cells [.int .u8 1] false)) (some (h1.nx,0)) (.fix 1) [1] :=
    ⟨fun e=>by (cases e),Nat.le_refl _,fun _=>⟨h1.nx,0,_,false,rfl,by simp,jad _,fun i x hi=>by
     match i,hi with
     | 0,hi=>cases hi;rfl
     | i+1,hi=>simp at hi⟩⟩
   have aG:=a1.old oG
   have XG:=aG.wf.ok n t ht
   have hqG:(t.x.e (1-(1-k))).ring=some []:=by rw [ekk];exact hq
   obtain ⟨g1,g2,g3,g4,g5,g6⟩:=XG.apart (k:=1-(1-k)) om hqG
   obtain ⟨h3,e3,r1,r2,r3⟩:=jm1 hcl (d:=d-1) (k:=1-k) om XG.hx om hqG g1 XG.lx g2 g3 g4 g5 g6 hB (by simp) (fun z o e _=>by
    cases e
    rw [ekk]
    have:t.b k<h1.nx:=p3
    have:t.r k<h1.nx:=p2
    exact ⟨by omega,by show h1.nx≠t.r k;omega⟩)
   have hm1:min ([1]:List UInt8).length (t.x.cap-([]:List UInt8).length)=min 1 t.x.cap:=by simp
   rw [hm1] at r1 r2
   have W:=aG.wf.fill (k:=1-k) ht om hqG r3 r1 r2
   have W2:=WF.same W a.fds (jal ht) (Wi.fill_same om)
   have T:To h h3 ow ow:=To.old (o1.trans oG) (XG.to (k:=1-(1-k)) om hqG r3)
   have fin:WSt h3 w s ow ((wxs l).set n (t.x.fill (1-k) (min 1 t.x.cap) [] [1])) now tb (some (n,k)):=⟨_,W2,jbk⟩
   rw [<- ek] at e3
   refine at_ hcl om rfl rfl rfl ?_
   clear hok nt
   refine qx1 ?_
   refine Ops.make (ob := .cells [.int .u8 1] false) (mk:=fun b=>.slice (some (b,0)) 1 (.fix 1)) rfl rfl ?_
   refine qx1 ?_
   exact ⟨rfl,fin,T⟩
  ·rw [if_neg hqn]
   have hpos : ¬ (q.length:Int)=0:=by have:=List.length_pos_iff.2 hqn;omega
   have fin:WSt h1 w s ow (wxs l) now tb (some (n,k)):=⟨l,a1,rfl⟩
   have T:To h h1 ow ow:=To.of_old o1
   refine at_ hcl om rfl rfl rfl ?_
   clear hok nt
   refine qx1 ?_
   exact ⟨rfl,fin,T⟩
end
end Am.Sigs
namespace Am.Sigs
open Am Go
section
variable {h h':H} {w s:Nat} {ow:Nat->Nat} {f:Nat->Option (Nat × Nat)} {l:List WX} {ws:Ws} {now:Int} {tb tb':Tb} {no:Option (Nat × Nat)}
theorem WF.tbl (a:WF h w s ow f l now tb no) (ch:Ch (fun j=>j=s) h h') (g:h'.get s=some tb'.obj):WF h' w s ow f l now tb' no:=by
 obtain ⟨wv,p1,p2,p3⟩:=a.hw
 have ts:=a.ts
 have k : ∀ j,ow j≠0->ow j≠3->h'.get j=h.get j:=fun j h0 h3=>ch.get j (a.lt_of h0) fun e=>by
  have e:j=s:=e
  rw [e] at h3;exact h3 ts
 exact ⟨⟨wv,by rw [k w (by rw [a.tw];omega) (by rw [a.tw];omega),p1],p2.keep ch.nx fun z hz=>k z (by rw [p3 z hz];omega) (by rw [p3 z hz];omega),p3⟩,g,a.tw,a.ts,Nat.lt_of_lt_of_le a.lw ch.nx,Nat.lt_of_lt_of_le a.ls ch.nx,
  fun j hj=>a.top j (Nat.le_trans ch.nx hj),fun n t ht=>(a.ok n t ht).keep ch.nx fun j h1 _=>k j om om⟩
theorem WSt.tbl (a:WSt h w s ow ws now tb no) (ch:Ch (fun j=>j=s) h h') (g:h'.get s=some tb'.obj):WSt h' w s ow ws now tb' no/\To h h' ow ow:=by
 obtain ⟨l,a,e⟩:=a
 refine ⟨⟨l,⟨a.wf.tbl ch g,a.fds⟩,e⟩,⟨ch.weaken fun j _ hb=>?_,fun _ _=>rfl⟩⟩
 have hb:j=s:=hb
 rw [hb,a.wf.ts];omega
theorem WF.noti (a:WF h w s ow f l now tb no) {o:Nat} {p:Option (Nat × Nat)} {wl:List V} (ho:o=291) (hl:h.get w=some (.cells wl false)):WF (h.set w (.cells (jar wl o (plc p)) false)) w s ow f l now tb p:=by
 obtain ⟨wv,p1,p2,p3⟩:=a.hw
 rw [p1] at hl;cases hl
 have tw:=a.tw
 have hne : ∀ j,ow j≠1->j≠w:=fun j hj e=>by rw [e] at hj;exact hj tw
 refine ⟨⟨wv,by rw [jab,wc_set_no ho],p2.keep (Nat.le_refl _) fun z hz=>jaa (hne z (by rw [p3 z hz];omega)),p3⟩,by rw [jaa (hne s (by rw [a.ts];omega)),a.hs],a.tw,a.ts,a.lw,a.ls,a.top,fun n t ht=>(a.ok n t ht).keep (Nat.le_refl _) fun j h1 _=>jaa (hne j om)⟩
theorem WSt.noti (a:WSt h w s ow ws now tb no) {o:Nat} {p:Option (Nat × Nat)} {wl:List V} (ho:o=291) (hl:h.get w=some (.cells wl false)):WSt (h.set w (.cells (jar wl o (plc p)) false)) w s ow ws now tb p/\To h (h.set w (.cells (jar wl o (plc p)) false)) ow ow:=by
 obtain ⟨l,a,e⟩:=a
 refine ⟨⟨l,⟨a.wf.noti ho hl,a.fds⟩,e⟩,⟨Ch.set ?_,fun _ _=>rfl⟩⟩
 show ow w≠0
 rw [a.wf.tw];omega
end
section
variable {cl:Nat->Call} (hcl:Sem cl) {h:H} {w s:Nat} {ow:Nat->Nat} {ws:Ws} {now:Int} {tb:Tb} {no:Option (Nat × Nat)}
include hcl
theorem ww_Handle {d:Nat} {sg:Int} {on:Bool} (hd:12<=d) (a:WSt h w s ow ws now tb no) (nt:NtOk ws (noI no) (siI no)) (hok:(tb.handle sg on).ok 1000000) :
  ∃ h',cl d (.fn F.jeN) [.p w 0,.i sg,.bool on] h=some (.i (if sig? sg then 0 else 100),h')/\WSt h' w s ow (jao ws ((tb.handle sg on).sum 32) (noI no) (siI no)) now (tb.handle sg on) no/\To h h' ow ow:=by
 obtain ⟨l,b,rfl⟩:=id a
 have hn:=jbY hcl (d:=d-1) om b.wf
 obtain ⟨sa,c,hw,_⟩:=b.wf.head
 have q4:(wc (fun i=>atS (wxs l) (i:Int)) (.slice sa l.length c) s now no)[0+289]?=some (.p s 0):=jf3 rfl
 have lw:=b.wf.lw
 obtain ⟨h1,e1,u1⟩:=sp_handle hcl (d:=d-1) om b.wf.hs sg on
 obtain ⟨a1,t1⟩:=a.tbl (tb':=tb.handle sg on) (u1.ch (B:=fun j=>j=s) rfl) u1.self
 obtain ⟨h2,e2,a2,t2⟩:=jef hcl (d:=d-1) om a1 nt hok
 have T:=To.trans t1 t2
 refine jak (at_ hcl om rfl rfl rfl ?_)
 clear hok nt
 refine qx1 ?_
 exact ⟨rfl,a2,T⟩
theorem ww_Raise {d:Nat} {sg:Int} (hd:12<=d) (a:WSt h w s ow ws now tb no) (nt:NtOk ws (noI no) (siI no)) (h0:tb.ok 1000000) (hok:(tb.raise sg).ok 1000000) :
  ∃ h',cl d (.fn F.jfz) [.p w 0,.i sg] h=some (.i (if sig? sg then 0 else 100),h')/\WSt h' w s ow (jao ws ((tb.raise sg).sum 32) (noI no) (siI no)) now (tb.raise sg) no/\To h h' ow ow:=by
 obtain ⟨l,b,rfl⟩:=id a
 have hn:=jbY hcl (d:=d-1) om b.wf
 obtain ⟨sa,c,hw,_⟩:=b.wf.head
 have q4:(wc (fun i=>atS (wxs l) (i:Int)) (.slice sa l.length c) s now no)[0+289]?=some (.p s 0):=jf3 rfl
 have lw:=b.wf.lw
 obtain ⟨h1,e1,u1⟩:=sp_raise hcl (d:=d-1) om b.wf.hs sg h0
 obtain ⟨a1,t1⟩:=a.tbl (tb':=tb.raise sg) (u1.ch (B:=fun j=>j=s) rfl) u1.self
 obtain ⟨h2,e2,a2,t2⟩:=jef hcl (d:=d-1) om a1 nt hok
 have T:=To.trans t1 t2
 refine jak (at_ hcl om rfl rfl rfl ?_)
 clear hok nt h0
 refine qx1 ?_
 exact ⟨rfl,a2,T⟩
theorem jl6 {d:Nat} (hd:12<=d) (a:WSt h w s ow ws now tb no) (nt:NtOk ws (noI no) (siI no)) (h0:tb.take.ok 1000000) :
  ∃ v h',cl d (.fn F.je9) [.p w 0] h=some (v,h')/\Row h.nx h' 2 v (tb.cnts 32).length (jaU (tb.cnts 32))/\WSt h' w s ow (jao ws (tb.take.sum 32) (noI no) (siI no)) now tb.take no/\To h h' ow ow:=by
 obtain ⟨l,b,rfl⟩:=id a
 have hn:=jbY hcl (d:=d-1) om b.wf
 obtain ⟨sa,c,hw,_⟩:=b.wf.head
 have q4:(wc (fun i=>atS (wxs l) (i:Int)) (.slice sa l.length c) s now no)[0+289]?=some (.p s 0):=jf3 rfl
 have lw:=b.wf.lw
 obtain ⟨v,h1,e1,row,g1,c1⟩:=sp_take hcl (d:=d-1) om b.wf.hs b.wf.ls
 obtain ⟨a1,t1⟩:=a.tbl (tb':=tb.take) c1 g1
 obtain ⟨h2,e2,a2,t2⟩:=jef hcl (d:=d-1) om a1 nt h0
 have T:=To.trans t1 t2
 have row2:Row h.nx h2 2 v (tb.cnts 32).length (jaU (tb.cnts 32)):=row.keep t2.ch.nx fun z hz=>t2.ch.get z (row.at_ge hz).2 fun hne=>hne (b.wf.top z (row.at_ge hz).1)
 refine at_ hcl om rfl rfl rfl ?_
 clear h0 nt
 refine qx1 ?_
 exact ⟨row2,a2,T⟩
end
noncomputable def noT (ws:Ws) (a b:Int) (no:Option (Nat × Nat)):Option (Nat × Nat):=match (ntS ws a b).2 with
 | none=>no
 | some p=>some p
theorem jnF {ws:Ws} {a b:Int} {no:Option (Nat × Nat)} : noI (noT ws a b no)=ntNo ws a b (noI no):=by
 unfold noT ntNo
 cases (ntS ws a b).2<;>rfl
theorem jnE {ws:Ws} {a b:Int} {no:Option (Nat × Nat)} : siI (noT ws a b no)=ntSi ws a b (siI no):=by
 unfold noT ntSi
 cases (ntS ws a b).2<;>rfl
theorem jlN {x:Wi} {r0 r1:Nat} {v:V} {o:Nat} (ho:o=2):(x.cells r0 r1 v)[o]?=some (En.ptr x.e0.ring r0):=by subst ho;rfl
theorem jlM {x:Wi} {r0 r1:Nat} {v:V} {o:Nat} (ho:o=9):(x.cells r0 r1 v)[o]?=some (En.ptr x.e1.ring r1):=by subst ho;rfl
section
variable {cl:Nat->Call} (hcl:Sem cl) {h:H} {w s:Nat} {ow:Nat->Nat} {ws:Ws} {now:Int} {tb:Tb} {no:Option (Nat × Nat)}
include hcl
theorem ww_Notice {d:Nat} {x y:Int} (hd:12<=d) (a:WSt h w s ow ws now tb no) (o:WsOk ws) (hok:tb.ok 1000000) :
  ∃ h',cl d (.fn F.jcI) [.p w 0,.i x,.i y] h=some (.i (ntS ws x y).1,h')/\WSt h' w s ow (ntW ws (tb.sum 32) x y) now tb (noT ws x y no)/\To h h' ow ow:=by
 obtain ⟨l,b,rfl⟩:=id a
 suffices q : ∃ v h',cl d (.fn F.jcI) [.p w 0,.i x,.i y] h=some (v,h')/\(v = .i (ntS (wxs l) x y).1/\WSt h' w s ow (ntW (wxs l) (tb.sum 32) x y) now tb (noT (wxs l) x y no)/\To h h' ow ow) by
  obtain ⟨_,h',e,rfl,q⟩:=q;exact ⟨h',e,q⟩
 unfold ntW noT
 have keep : ∀ g,Old h g->WSt g w s ow (wxs l) now tb no/\To h g ow ow:=fun g og=>⟨a.old og,To.of_old og⟩
 rcases jcV hcl (d:=d-1) (fd:=x) om b o.uniq with ⟨hno,h1,e1,o1,x1⟩ | ⟨n,k,m,t,rfl,hm,hat,ht,hk,h1,e1,o1,x1⟩
 ·have hS:ntS (wxs l) x y=(110,none):=ja0 hno
  rw [hS]
  have o2:Old h ((h1.new (.cells [.bool false,.i 0,.i 0] false)).set h1.nx (.cells [.bool false,.i 0,.i 0] false)):=o1.new.set o1.1
  have x2:((h1.new (.cells [.bool false,.i 0,.i 0] false)).set h1.nx (.cells [.bool false,.i 0,.i 0] false)).nx=h.nx+2:=by
   show h1.nx+1=_;omega
  have hq : ∃ (v:List V) (p:V) (e:Int) (h3:H),cl (d-1) (.fn F.jb4) [.p w 0,.i y] ((h1.new (.cells [.bool false,.i 0,.i 0] false)).set h1.nx (.cells [.bool false,.i 0,.i 0] false))=some (.tup [.agg v,p,.i e],h3)/\v.length=3/\v.all V.one=true/\Old h h3:=by
   rcases jcV hcl (d:=d-1) (fd:=y) om (b.old o2) o.uniq with ⟨_,h3,e3,o3,_⟩ | ⟨_,_,_,_,_,_,_,_,_,h3,e3,o3,_⟩
   ·exact ⟨_,_,_,h3,e3,rfl,rfl,o2.trans o3⟩
   ·exact ⟨_,_,_,h3,e3,rfl,rfl,o2.trans o3⟩
  obtain ⟨v,p,e,h3,e3,v1,v2,o3⟩:=hq
  obtain ⟨va,vb,vc,rfl⟩ : ∃ va vb vc,v=[va,vb,vc]:=by
   match v,v1 with
   | [a,b,c],_=>exact ⟨a,b,c,rfl⟩
  refine at_ hcl om rfl rfl rfl ?_
  clear hok
  refine qm1 ?_
  refine Ops.storeN rfl rfl rfl v2 (jad _) (Nat.le_of_ble_eq_true rfl) ?_
  refine qm1 ?_
  exact ⟨rfl,keep _ (o3.new.set o3.1)⟩
 have hS1:ntS (wxs l) (m:Int) y=_:=jaz o.uniq hat (jal ht)
 have o2:Old h ((h1.new (.cells [.bool false,.i 0,.i 0] false)).set h1.nx (.cells [.bool true,.i (n:Int),.i (k:Int)] false)):=o1.new.set o1.1
 have g2:((h1.new (.cells [.bool false,.i 0,.i 0] false)).set h1.nx (.cells [.bool true,.i (n:Int),.i (k:Int)] false)).get h1.nx=some (.cells [.bool true,.i (n:Int),.i (k:Int)] false):=jab _
 have x2:((h1.new (.cells [.bool false,.i 0,.i 0] false)).set h1.nx (.cells [.bool true,.i (n:Int),.i (k:Int)] false)).nx=h.nx+2:=by
  show h1.nx+1=_;omega
 rcases jcV hcl (d:=d-1) (fd:=y) om (b.old o2) o.uniq with ⟨hno,h3,e3,o3,x3⟩ | ⟨n2,k2,m2,t2,rfl,hm2,hat2,ht2,hk2,h3,e3,o3,x3⟩
 ·rw [ja0 hno] at hS1
  rw [hS1]
  have o4:=o2.trans o3
  refine at_ hcl om rfl rfl rfl ?_
  clear hok
  refine qm1 ?_
  exact ⟨rfl,keep _ (o4.new.set o4.1)⟩
 rw [jaz o.uniq hat2 (jal ht2)] at hS1
 have o4:=o2.trans o3
 have g3:h3.get h1.nx=some (.cells [.bool true,.i (n:Int),.i (k:Int)] false):=(o3.2 _ om).trans g2
 have X:=b.wf.ok n t ht
 have lx:=X.lx
 have hx3:h3.get t.wb=some (.cells (t.x.cells t.r0 t.r1 t.wv) false):=by rw [o4.2 _ X.lx];exact X.hx
 have q1:(t.x.cells t.r0 t.r1 t.wv)[0+0+(0:Int).toNat*7+2]?=some (En.ptr t.x.e0.ring t.r0):=jlN rfl
 have q2:(t.x.cells t.r0 t.r1 t.wv)[0+0+(1:Int).toNat*7+2]?=some (En.ptr t.x.e1.ring t.r1):=jlM rfl
 have lh1:h1.nx<h3.nx:=by omega
 by_cases hg:n=n2/\k≠k2/\t.x.e0.ring≠none/\t.x.e1.ring≠none
 case neg=>
  rw [if_neg hg] at hS1
  rw [hS1]
  by_cases h1':n=n2
  case neg=>
   have h1'':(n:Int)≠(n2:Int):=by omega
   refine at_ hcl om rfl rfl rfl ?_
   clear hok hg
   refine qm1 ?_
   exact ⟨rfl,keep _ (o4.new.set o4.1)⟩
  have h1'' : ¬ (n:Int)≠(n2:Int):=by omega
  by_cases h2':k=k2
  ·have h2'':(k:Int)=(k2:Int):=by omega
   refine at_ hcl om rfl rfl rfl ?_
   clear hok hg
   refine qm1 ?_
   exact ⟨rfl,keep _ (o4.new.set o4.1)⟩
  have h2'' : ¬ (k:Int)=(k2:Int):=by omega
  cases hr0:t.x.e0.ring with
  | none=>
   have q1:(t.x.cells t.r0 t.r1 t.wv)[0+0+(0:Int).toNat*7+2]?=some (.ptr none):=by rw [q1];simp [En.ptr,hr0]
   refine at_ hcl om rfl rfl rfl ?_
   clear hok hg
   refine qm1 ?_
   exact ⟨rfl,keep _ (o4.new.set o4.1)⟩
  | some b0=>
   have q1:(t.x.cells t.r0 t.r1 t.wv)[0+0+(0:Int).toNat*7+2]?=some (.p t.r0 0):=by rw [q1];simp [En.ptr,hr0]
   cases hr1:t.x.e1.ring with
   | none=>
    have q2:(t.x.cells t.r0 t.r1 t.wv)[0+0+(1:Int).toNat*7+2]?=some (.ptr none):=by rw [q2];simp [En.ptr,hr1]
    refine at_ hcl om rfl rfl rfl ?_
    clear hok hg
    refine qm1 ?_
    exact ⟨rfl,keep _ (o4.new.set o4.1)⟩
   | some b1=>exact absurd ⟨h1',h2',by rw [hr0];simp,by rw [hr1];simp⟩ hg
 rw [if_pos hg] at hS1
 rw [hS1]
 obtain ⟨rfl,hkk,hr0,hr1⟩:=hg
 have nt:NtOk (wxs l) (noI (some (n,k))) (siI (some (n,k))) := .inr ⟨n,k,t.x,rfl,rfl,hk,jal ht,hr0,hr1⟩
 have h1'' : ¬ (n:Int)≠(n:Int):=by omega
 have h2'' : ¬ (k:Int)=(k2:Int):=by omega
 obtain ⟨b0,hb0⟩:=Option.ne_none_iff_exists'.1 hr0
 obtain ⟨b1,hb1⟩:=Option.ne_none_iff_exists'.1 hr1
 have q1:(t.x.cells t.r0 t.r1 t.wv)[0+0+(0:Int).toNat*7+2]?=some (.p t.r0 0):=by rw [q1];simp [En.ptr,hb0]
 have q2:(t.x.cells t.r0 t.r1 t.wv)[0+0+(1:Int).toNat*7+2]?=some (.p t.r1 0):=by rw [q2];simp [En.ptr,hb1]
 have o5:Old h ((h3.new (.cells [.bool false,.i 0,.i 0] false)).set h3.nx (.cells [.bool true,.i (n:Int),.i (k2:Int)] false)):=o4.new.set o4.1
 have a5:=a.old o5
 obtain ⟨l5,b5,e5⟩:=id a5
 obtain ⟨wv,hw5,_⟩:=b5.wf.hw
 obtain ⟨a6,t6⟩:=a5.noti (p:=some (n,k)) (o:=0+291) rfl hw5
 obtain ⟨h7,e7,a7,t7⟩:=jef hcl (d:=d-1) om a6 nt hok
 have T:=(To.of_old o5:To _ _ ow ow).trans (t6.trans t7)
 have fin:WSt h7 w s ow (jao (wxs l) (tb.sum 32) (n:Int) (k:Int)) now tb (some (n,k)):=a7
 refine at_ hcl om rfl rfl rfl ?_
 clear hok nt
 refine qm1 ?_
 exact ⟨rfl,fin,T⟩
end
end Am.Sigs
namespace Am.Sigs
open Am Go
structure Mono (g h:H):Prop where
 nx:h.nx=g.nx
 get : ∀ j o,j<g.nx->g.get j=some o->h.get j=some o
theorem VB.mono {g h:H} {v:V} {l:List UInt8} (m:Mono g h) (a:VB g v l):VB h v l:=by
 obtain ⟨a,c,rfl,n,f,k⟩:=a
 refine ⟨a,c,rfl,n,f,fun hl=>?_⟩
 obtain ⟨b,o,cs,ro,rfl,h1,h2,h3⟩:=k hl
 exact ⟨b,o,cs,ro,rfl,by rw [m.nx];exact h1,m.get b _ h1 h2,h3⟩
theorem VI.mono {g h:H} {v:V} {l:List Int} (m:Mono g h) (a:VI g v l):VI h v l:=by
 obtain ⟨a,c,rfl,n,f,k⟩:=a
 refine ⟨a,c,rfl,n,f,fun hl=>?_⟩
 obtain ⟨b,o,cs,ro,rfl,h1,h2,h3⟩:=k hl
 exact ⟨b,o,cs,ro,rfl,by rw [m.nx];exact h1,m.get b _ h1 h2,h3⟩
theorem Row.mono {N sz n:Nat} {g h:H} {v:V} {cs:List V} (m:Mono g h) (a:Row N g sz v n cs):Row N h sz v n cs:=by
 rcases a with a | ⟨q,h1,h2,rfl,h4,h5⟩
 ·exact .inl a
 ·exact .inr ⟨q,h1,by rw [m.nx];exact h2,rfl,m.get q _ h2 h4,h5⟩
theorem RW.mono {g h:H} {rw q:Nat} {l:List RX} {tl:List V} (m:Mono g h) (a:RW g rw q l tl):RW h rw q l tl:=by
 refine ⟨by rw [m.nx];exact a.lw,by rw [m.nx];exact a.lq,a.ne,fun hl=>⟨m.get _ _ a.lw (a.at_ hl).hw,m.get _ _ a.lq (a.at_ hl).hq,a.ne⟩,fun hl=>m.get _ _ a.lw (a.nil hl),fun r hr=>?_⟩
 obtain ⟨p1,p2⟩:=a.ok r hr
 exact ⟨fun k hk=>⟨(p1 k hk).1.mono m,fun z hz=>by rw [m.nx];exact (p1 k hk).2 z hz⟩,p2.1.mono m,fun z hz=>by rw [m.nx];exact p2.2 z hz⟩
theorem RW.re {g:H} {rw q q':Nat} {tl:List V} (a:RW g rw q [] tl) (h1:q'<g.nx) (h2:rw≠q'):RW g rw q' [] tl :=
 ⟨a.lw,h1,h2,fun h=>absurd rfl h,a.nil,fun r hr=>by cases hr⟩
theorem jnK (h:H) (own:Nat->Prop) : ∀ n,∃ g:H,g.nx=h.nx/\(∀ j,j<n -> ¬ own j->g.get j=none) /\ ∀ j,n<=j\/own j->g.get j=h.get j
 | 0=>⟨h,rfl,fun j hj=>by omega,fun _ _=>rfl⟩
 | n+1=>by
  obtain ⟨g,g1,g2,g3⟩:=jnK h own n
  by_cases e:own n
  ·refine ⟨g,g1,fun j hj ho=>?_,fun j hj=>g3 j (hj.imp (fun h=>by omega) id)⟩
   rcases Nat.lt_or_ge j n with h1 | h1
   ·exact g2 j h1 ho
   ·obtain rfl:j=n:=by omega
    exact absurd e ho
  ·refine ⟨g.kill n,g1,fun j hj ho=>?_,fun j hj=>?_⟩
   ·by_cases ej:j=n
    ·subst ej;rw [H.get_kill,if_pos rfl]
    ·rw [jaf ej];exact g2 j om ho
   ·have ej:j≠n:=by
     rintro rfl
     rcases hj with h1 | h1
     ·omega
     ·exact e h1
    rw [jaf ej];exact g3 j (hj.imp (fun h=>by omega) id)
structure RO (h:H) (ro dat:Nat->Prop) (rw:Nat) (l:List RX) (tl:List V):Prop where
 ex : ∃ q,(l≠[]->ro q) /\ ∀ g:H,g.nx=h.nx->(∀ j,j<h.nx->ro j\/dat j->g.get j=h.get j)->RW g rw q l tl
 lt : ∀ j,ro j\/dat j->j<h.nx
 hr:ro rw
 ap : ∀ j,ro j -> ¬ dat j
theorem RO.keep {h h':H} {ro dat:Nat->Prop} {rw:Nat} {l:List RX} {tl:List V} (a:RO h ro dat rw l tl) (hx:h.nx<=h'.nx) (hk : ∀ j,ro j\/dat j->h'.get j=h.get j):RO h' ro dat rw l tl:=by
 obtain ⟨q,hq,k⟩:=a.ex
 refine ⟨⟨q,hq,fun g g1 g2=>?_⟩,fun j hj=>Nat.lt_of_lt_of_le (a.lt j hj) hx,a.hr,a.ap⟩
 have w:=k ⟨h.nx,g.t⟩ rfl fun j hj ho=>(g2 j (Nat.lt_of_lt_of_le hj hx) ho).trans (hk j ho)
 exact w.old ⟨by rw [g1];exact hx,fun _ _=>rfl⟩
theorem RO.call {cl:Nat->Call} (hcl:Sem cl) {d p f:Nat} {args:List V} {h:H} {ro dat:Nat->Prop} {rw:Nat} {l:List RX} {tl:List V} {P:H->V->List RX->List V->Prop} (a:RO h ro dat rw l tl) (hp:p<h.nx) (hop:h.get p≠none) (hnp : ¬ (ro p\/dat p))
  (mono : ∀ g g' v l tl,Mono g g'->P g v l tl->P g' v l tl)
  (k : ∀ g q,(∀ j,j<h.nx->ro j\/dat j->g.get j=h.get j)->g.nx=h.nx->RW g rw q l tl->(q=p\/ro q) -> ∃ v q' l' tl' g',cl d (.fn f) args g=some (v,g')/\RW g' rw q' l' tl'/\Ch (RC rw q) g g'/\(q'=q\/g.nx<=q')/\P g' v l' tl') :
  ∃ v l' tl' h',cl d (.fn f) args h=some (v,h')/\RO h' (fun j=>ro j\/(h.nx<=j/\j<h'.nx)) dat rw l' tl'/\Ch ro h h'/\P h' v l' tl':=by
 obtain ⟨q0,hq0,k0⟩:=a.ex
 obtain ⟨g,g1,g2,g3⟩:=jnK h (fun j=>ro j\/dat j) h.nx
 have w0:=k0 g g1 fun j _ ho=>g3 j (.inr ho)
 obtain ⟨q,w,hq⟩ : ∃ q,RW g rw q l tl/\(q=p\/ro q):=by
  by_cases hl:l=[]
  ·subst hl
   exact ⟨p,w0.re (by rw [g1];exact hp) (fun e=>hnp (.inl (by rw [<- e];exact a.hr))),.inl rfl⟩
  ·exact ⟨q0,w0,.inr (hq0 hl)⟩
 obtain ⟨v,q',l',tl',g',e1,e2,e3,e5,e4⟩:=k g q (fun j _ ho=>g3 j (.inr ho)) g1 w hq
 have X:Ext (fun j=>if j<h.nx/\g.get j=none then h.get j else none) g h:=by
  refine ⟨g1.symm,fun j=>?_,fun j hj=>?_⟩
  ·by_cases hj:j<h.nx
   ·by_cases ho:ro j\/dat j
    ·rw [g3 j (.inr ho)]
     cases hh:h.get j<;>simp [hh]
    ·rw [g2 j hj ho];simp [hj]
   ·rw [g3 j (.inl om)]
    cases hh:h.get j<;>simp [hj]
  ·by_cases hc:j<h.nx/\g.get j=none
   ·exact ⟨by rw [g1];exact hc.1,hc.2⟩
   ·simp [hc] at hj
 have hF:=(jhm primsF fuel d)
 rw [hcl d] at e1 ⊢
 obtain ⟨h',q1,q2⟩:=hF.1 _ _ _ _ _ e1 _ _ X
 have hx:h.nx<=h'.nx:=by rw [q2.nx,<- g1];exact e3.nx
 have m:Mono g' h':=⟨q2.nx,fun j o _ hj=>q2.has hj⟩
 have off : ∀ j,j<h.nx -> ¬ (ro j\/dat j)->g'.get j=none:=by
  intro j hj ho
  by_cases hz:h.get j=none
  ·rw [e3.get j (by rw [g1];exact hj) (by
    rintro (rfl | rfl)
    ·rcases hq with rfl | hq
     ·exact hop hz
     ·exact ho (.inl hq)
    ·exact ho (.inl a.hr)),g2 j hj ho]
  ·exact (q2.off j (by simp [hj,g2 j hj ho,hz])).2
 have same : ∀ j,(ro j\/dat j)->h'.get j=g'.get j:=by
  intro j ho
  rw [q2.get j]
  by_cases hz:g.get j=none
  ·have:h.get j=none:=by rw [<- g3 j (.inr ho),hz]
   simp [this]
  ·simp [hz]
 refine ⟨v,l',tl',h',q1,⟨⟨q',fun hl=>?_,fun g4 n4 k4=>?_⟩,fun j hj=>?_,.inl a.hr,fun j hj hd=>?_⟩,⟨hx,fun j hj ho=>?_⟩,mono _ _ _ _ _ m e4⟩
 ·have hz:=(e2.at_ hl).hq
  rcases Nat.lt_or_ge q' h.nx with h1 | h1
  ·rcases e5 with rfl | h2
   ·rcases hq with rfl | hq
    ·rw [off q' h1 hnp] at hz;cases hz
    ·exact .inl hq
   ·omega
  ·exact .inr ⟨h1,by rw [q2.nx];exact e2.lq⟩
 ·refine e2.mono ⟨by rw [n4,q2.nx],fun j o hj hg=>?_⟩
  by_cases ho:ro j\/dat j
  ·rw [k4 j (by rw [q2.nx];exact hj) (ho.imp .inl id),same j ho,hg]
  ·rcases Nat.lt_or_ge j h.nx with h1 | h1
   ·rw [off j h1 ho] at hg;cases hg
   ·rw [k4 j (by rw [q2.nx];exact hj) (.inl (.inr ⟨h1,by rw [q2.nx];exact hj⟩)),q2.has hg]
 ·rcases hj with (hj | hj) | hj
  ·exact Nat.lt_of_lt_of_le (a.lt j (.inl hj)) hx
  ·exact hj.2
  ·exact Nat.lt_of_lt_of_le (a.lt j (.inr hj)) hx
 ·rcases hj with hj | hj
  ·exact a.ap j hj hd
  ·have:=a.lt j (.inr hd)
   omega
 ·by_cases hd:dat j
  ·have hne : ¬ RC rw q j:=by
    rintro (rfl | rfl)
    ·rcases hq with rfl | hq
     ·exact hnp (.inr hd)
     ·exact a.ap _ hq hd
    ·exact a.ap _ a.hr hd
   rw [same j (.inr hd),e3.get j (by rw [g1];exact hj) hne,g3 j (.inr (.inr hd))]
  ·have h2:=off j hj (fun h=>h.elim ho hd)
   rw [q2.get j,h2]
   have h3:=g2 j hj (fun h=>h.elim ho hd)
   simp [hj,h3]
end Am.Sigs
namespace Am.Sigs
open Am Go
structure St where
 ws:Ws
 now:Int
 tb:Tb
 no:Option (Nat × Nat)
abbrev St.tl (r:St):List V:=tail r.now r.tb.hd r.tb.pd (noI r.no) (siI r.no)
section
variable {h h':H} {w s:Nat} {ow:Nat->Nat} {ws:Ws} {now:Int} {tb:Tb} {no:Option (Nat × Nat)}
theorem WSt.keep (a:WSt h w s ow ws now tb no) (hx:h.nx<=h'.nx) (hk : ∀ j,ow j≠0->h'.get j=h.get j):WSt h' w s ow ws now tb no:=by
 obtain ⟨l,a,e⟩:=a
 exact ⟨l,⟨a.wf.keep hx hk,a.fds⟩,e⟩
theorem WSt.top (a:WSt h w s ow ws now tb no) {j:Nat} (hj:h.nx<=j):ow j=0:=by
 obtain ⟨l,a,e⟩:=a
 exact a.wf.top j hj
theorem WSt.lt_of (a:WSt h w s ow ws now tb no) {j:Nat} (hj:ow j≠0):j<h.nx:=by
 obtain ⟨l,a,e⟩:=a
 exact a.wf.lt_of hj
theorem WSt.lw (a:WSt h w s ow ws now tb no):w<h.nx:=by
 obtain ⟨l,a,e⟩:=a
 exact a.wf.lw
end
structure BB (h:H) (p w s rw:Nat) (ow:Nat->Nat) (ro dat:Nat->Prop) (a r:St):Prop where
 W:WSt h w s ow a.ws a.now a.tb a.no
 R : ∃ l,RO h ro dat rw l r.tl/\l.map RX.x=r.ws
 hp:h.get p=some (.cells [.p w 0,.p rw 0] false)
 lp:p<h.nx
 sep : ∀ j,ro j\/dat j->ow j=0
 op:ow p=0
 rp : ¬ (ro p\/dat p)
structure Fm (h h':H) (ow:Nat->Nat) (ro:Nat->Prop) (ow':Nat->Nat) (ro':Nat->Prop):Prop where
 ch:Ch (fun j=>ow j≠0\/ro j) h h'
 tag : ∀ j,j<h.nx->ow' j=ow j
 rtag : ∀ j,j<h.nx->(ro' j↔ro j)
theorem Fm.refl {h:H} {ow:Nat->Nat} {ro:Nat->Prop} : Fm h h ow ro ow ro:=⟨Ch.refl _ _,fun _ _=>rfl,fun _ _=>Iff.rfl⟩
theorem Fm.trans {h h1 h2:H} {a b c:Nat->Nat} {x y z:Nat->Prop} (f:Fm h h1 a x b y) (g:Fm h1 h2 b y c z):Fm h h2 a x c z :=
 ⟨f.ch.trans_new g.ch fun j hj hb=>by rw [f.tag j hj,f.rtag j hj] at hb;exact hb,
  fun j hj=>by rw [g.tag j (Nat.lt_of_lt_of_le hj f.ch.nx),f.tag j hj],fun j hj=>(g.rtag j (Nat.lt_of_lt_of_le hj f.ch.nx)).trans (f.rtag j hj)⟩
theorem Fm.old {h h1:H} {ow:Nat->Nat} {ro:Nat->Prop} (o:Old h h1):Fm h h1 ow ro ow ro:=⟨o.ch,fun _ _=>rfl,fun _ _=>Iff.rfl⟩
theorem Fm.to {h h1:H} {ow ow':Nat->Nat} {ro:Nat->Prop} (t:To h h1 ow ow'):Fm h h1 ow ro ow' ro:=⟨t.ch.weaken fun _ _ hb=>.inl hb,t.tag,fun _ _=>Iff.rfl⟩
section
variable {h h':H} {p w s rw:Nat} {ow ow':Nat->Nat} {ro dat:Nat->Prop} {a a' r r':St}
theorem BB.old (b:BB h p w s rw ow ro dat a r) (o:Old h h'):BB h' p w s rw ow ro dat a r:=by
 obtain ⟨l,R,e⟩:=b.R
 exact ⟨b.W.old o,⟨l,R.keep o.1 fun j hj=>o.2 j (R.lt j hj),e⟩,by rw [o.2 _ b.lp,b.hp],Nat.lt_of_lt_of_le b.lp o.1,b.sep,b.op,b.rp⟩
theorem BB.off (b:BB h p w s rw ow ro dat a r) (hx:h.nx<=h'.nx) (hk : ∀ j,j<h.nx->ow j≠0\/ro j\/dat j\/j=p->h'.get j=h.get j):BB h' p w s rw ow ro dat a r:=by
 obtain ⟨l,R,e⟩:=b.R
 exact ⟨b.W.keep hx fun j hj=>hk j (b.W.lt_of hj) (.inl hj),⟨l,R.keep hx fun j hj=>hk j (R.lt j hj) (.inr (hj.imp id .inl)),e⟩,by rw [hk _ b.lp (.inr (.inr (.inr rfl))),b.hp],Nat.lt_of_lt_of_le b.lp hx,b.sep,b.op,b.rp⟩
theorem BB.wc (b:BB h p w s rw ow ro dat a r) (W:WSt h' w s ow' a'.ws a'.now a'.tb a'.no) (t:To h h' ow ow'):BB h' p w s rw ow' ro dat a' r:=by
 obtain ⟨l,R,e⟩:=b.R
 refine ⟨W,⟨l,R.keep t.ch.nx fun j hj=>t.ch.get j (R.lt j hj) fun hne=>hne (b.sep j hj),e⟩,by rw [t.ch.get p b.lp fun hne=>hne b.op,b.hp],Nat.lt_of_lt_of_le b.lp t.ch.nx,fun j hj=>by rw [t.tag j (R.lt j hj)];exact b.sep j hj,by rw [t.tag p b.lp];exact b.op,b.rp⟩
theorem BB.ro_lt (b:BB h p w s rw ow ro dat a r) {j:Nat} (hj:ro j\/dat j):j<h.nx:=by
 obtain ⟨l,R,e⟩:=b.R
 exact R.lt j hj
theorem BB.ap (b:BB h p w s rw ow ro dat a r) {j:Nat} (hj:dat j) : ¬ ro j:=by
 obtain ⟨l,R,e⟩:=b.R
 exact fun h=>R.ap j h hj
theorem BB.rcc {cl:Nat->Call} (hcl:Sem cl) {d f:Nat} {args:List V} {P:H->V->Prop} (b:BB h p w s rw ow ro dat a r)
  (mono : ∀ g g' v,Mono g g'->P g v->P g' v)
  (k : ∀ g q l,(∀ j,j<h.nx->ro j\/dat j->g.get j=h.get j)->g.nx=h.nx->(q=p\/ro q)->RW g rw q l r.tl->l.map RX.x=r.ws ->
   ∃ v q' l' g',cl d (.fn f) args g=some (v,g')/\RW g' rw q' l' r'.tl/\l'.map RX.x=r'.ws/\Ch (RC rw q) g g'/\(q'=q\/g.nx<=q')/\P g' v) :
  ∃ v h',cl d (.fn f) args h=some (v,h')/\BB h' p w s rw ow (fun j=>ro j\/(h.nx<=j/\j<h'.nx)) dat a r'/\Fm h h' ow ro ow (fun j=>ro j\/(h.nx<=j/\j<h'.nx))/\Ch ro h h'/\P h' v:=by
 obtain ⟨l,R,e⟩:=b.R
 obtain ⟨v,l',tl',h',e1,R',c1,p1,p2,p3⟩:=R.call hcl (d:=d) (f:=f) (args:=args) (P:=fun g v l' tl'=>l'.map RX.x=r'.ws/\tl'=r'.tl/\P g v) b.lp (by rw [b.hp];simp) b.rp
  (fun g g' v l' tl' m hp=>⟨hp.1,hp.2.1,mono _ _ _ m hp.2.2⟩) (fun g q ga gn w hq=>by
   obtain ⟨v,q',l',g',k1,k2,k3,k4,k5,k6⟩:=k g q l ga gn hq w e
   exact ⟨v,q',l',_,g',k1,k2,k4,k5,k3,rfl,k6⟩)
 subst p2
 refine ⟨v,h',e1,⟨b.W.keep c1.nx fun j hj=>c1.get j (b.W.lt_of hj) fun hr=>hj (b.sep j (.inl hr)),⟨l',R',p1⟩,by rw [c1.get p b.lp fun hr=>b.rp (.inl hr),b.hp],Nat.lt_of_lt_of_le b.lp c1.nx,fun j hj=>?_,b.op,fun hr=>?_⟩,⟨c1.weaken fun _ _ hb=>.inr hb,fun _ _=>rfl,fun j hj=>⟨fun hr=>?_,.inl⟩⟩,c1,p3⟩
 ·rcases hj with (hj | hj) | hj
  ·exact b.sep j (.inl hj)
  ·exact b.W.top hj.1
  ·exact b.sep j (.inr hj)
 ·have:=b.lp
  rcases hr with (hr | hr) | hr
  ·exact b.rp (.inl hr)
  ·omega
  ·exact b.rp (.inr hr)
 ·rcases hr with hr | hr
  ·exact hr
  ·omega
theorem BB.rc {cl:Nat->Call} (hcl:Sem cl) {d f:Nat} {args:List V} {P:H->V->Prop} (b:BB h p w s rw ow ro dat a r)
  (mono : ∀ g g' v,Mono g g'->P g v->P g' v)
  (k : ∀ g q l,(∀ j,j<h.nx->ro j\/dat j->g.get j=h.get j)->g.nx=h.nx->(q=p\/ro q)->RW g rw q l r.tl->l.map RX.x=r.ws ->
   ∃ v q' l' g',cl d (.fn f) args g=some (v,g')/\RW g' rw q' l' r'.tl/\l'.map RX.x=r'.ws/\Ch (RC rw q) g g'/\(q'=q\/g.nx<=q')/\P g' v) :
  ∃ v h',cl d (.fn f) args h=some (v,h')/\BB h' p w s rw ow (fun j=>ro j\/(h.nx<=j/\j<h'.nx)) dat a r'/\Fm h h' ow ro ow (fun j=>ro j\/(h.nx<=j/\j<h'.nx))/\P h' v:=by
 obtain ⟨v,h',e,b',f,_,q⟩:=b.rcc hcl mono k
 exact ⟨v,h',e,b',f,q⟩
end
theorem jn5 (t:Tb) : ∀ n,t.sum (n+1)=sumC t.pd n
 | 0=>by simp [Tb.sum,sumC]
 | n+1=>by
  have ih:=jn5 t n
  rw [Tb.sum,sumC,<- ih]
  split
  ·next h=>
   rcases h with h | h
   ·omega
   ·rw [h];omega
  ·rfl
theorem jnt (t:Tb):t.sum 32=sumC t.pd 31:=jn5 t 31
theorem handle_hd (t:Tb) (s:Int) (on:Bool):(t.handle s on).hd=jdX t.hd s on:=by
 unfold Tb.handle jdX
 by_cases h:sig? s
 ·rw [if_pos h,if_pos (show jd4 s from h)];rfl
 ·rw [if_neg h,if_neg (show ¬ jd4 s from h)]
theorem jgX (t:Tb) (s:Int) (on:Bool):(t.handle s on).pd=jcl t.pd s on:=by
 unfold Tb.handle jcl
 by_cases h:sig? s
 ·rw [if_pos h]
  cases on
  ·rw [if_pos (show jd4 s/\false=false from ⟨h,rfl⟩)];rfl
  ·rw [if_neg (show ¬ (jd4 s/\true=false) from fun e=>by cases e.2)];rfl
 ·rw [if_neg h,if_neg (show ¬ (jd4 s/\on=false) from fun e=>h e.1)]
theorem raise_hd (t:Tb) (s:Int):(t.raise s).hd=t.hd:=by
 unfold Tb.raise;split<;>rfl
theorem jiw (t:Tb) (s:Int):(t.raise s).pd=jdn t.hd t.pd s:=by
 unfold Tb.raise jdn
 by_cases h:sig? s/\t.hd s.toNat=true
 ·rw [if_pos h,if_pos (show jd4 s/\t.hd s.toNat=true from h)]
  funext j
  unfold put1
  by_cases e:j=s.toNat
  ·subst e;simp
  ·simp [e]
 ·rw [if_neg h,if_neg (show ¬ (jd4 s/\t.hd s.toNat=true) from h)]
theorem jki (t:Tb):t.take.pd=ctZ t.pd 31:=by
 funext j
 unfold Tb.take ctZ
 by_cases h:1<=j/\j<=31
 ·rw [if_pos h];show (if 1<=j/\j<32 then 0 else t.pd j)=0;rw [if_pos om]
 ·rw [if_neg h];show (if 1<=j/\j<32 then 0 else t.pd j)=_;rw [if_neg om]
theorem jjR {t:Tb} (h : ∀ k,0<=t.pd k) : ∀ n,(t.cnts (n+1)).map (fun p=>((p.1:Int),p.2))=jce t.pd n
 | 0=>by simp [Tb.cnts,jce]
 | n+1=>by
  have ih:=jjR h n
  have h1:=h (n+1)
  rw [Tb.cnts,jce,<- ih]
  by_cases h0:t.pd (n+1)=0
  ·rw [if_pos (.inr h0),if_neg om];simp
  ·rw [if_neg om,if_pos om];simp
theorem jhl : ∀ l:List (Nat × Int),jaU l=jbw (l.map fun p=>((p.1:Int),p.2))
 | []=>rfl
 | p :: l=>by
  have:=jhl l
  simp only [jaU,jbw,List.map_cons,List.flatten_cons] at this ⊢
  rw [this];rfl
theorem jjM {t:Tb} {n:Int} (a:t.ok n) (h0:0<=n) (s:Int) (on:Bool):(t.handle s on).ok n:=by
 intro k
 rw [jgX]
 unfold jcl put1
 split
 ·show 0<=(if k=s.toNat then (0:Int) else t.pd k)/\(if k=s.toNat then (0:Int) else t.pd k)<=n
  split
  ·omega
  ·exact a k
 ·exact a k
theorem jli {t:Tb} {n:Int} (a:t.ok n) (s:Int):(t.raise s).ok (n+1):=by
 intro k
 have:=a k
 rw [jiw]
 unfold jdn put1
 split
 ·show 0<=(if k=s.toNat then t.pd s.toNat+1 else t.pd k)/\(if k=s.toNat then t.pd s.toNat+1 else t.pd k)<=n+1
  split
  ·next e=>subst e;omega
  ·omega
 ·omega
theorem jm8 {t:Tb} {n:Int} (a:t.ok n) (h0:0<=n):t.take.ok n:=by
 intro k
 rw [jki]
 unfold ctZ
 split
 ·omega
 ·exact a k
theorem Tb.ok.mono {t:Tb} {m n:Int} (a:t.ok m) (h:m<=n):t.ok n:=fun k=>⟨(a k).1,by have:=(a k).2;omega⟩
structure StOk (st:St) (i:Nat):Prop where
 K:WsK st.ws
 nt:NtOk st.ws (noI st.no) (siI st.no)
 now:0<=st.now/\st.now<=18446744073709551615
 tb:st.tb.ok i
noncomputable def doS (k a n t:Int) (D:List UInt8) (st:St):St :=
 if k=0\/k=1\/k=2\/k=3 then { st with ws:=(jah st.ws k n).2 }
 else if k=4 then { st with ws:=(jaq st.ws a).2 }
 else if k=5 then { st with ws:=(jaP st.ws a n).2 }
 else if k=6 then { st with ws:=(jav st.ws a D).2 }
 else if k=7 then { st with ws:=(jcY st.ws a).2 }
 else if k=8 then { st with ws:=(jbS st.ws a).2 }
 else if k=9 then { st with ws:=(putS st.ws a D).2 }
 else if k=10 then { st with ws:=(jcs st.ws a n).2 }
 else if k=11 then { st with ws:=(jaJ st.ws a).2 }
 else if k=12 then { st with ws:=(ja7 st.ws a).2 }
 else if k=13 then { st with ws:=(jcc st.ws a).2 }
 else if k=14 then { st with ws:=(jau st.ws a n).2 }
 else if k=15 then { st with now:=jgq st.now t }
 else if k=16 then { st with ws:=jao st.ws ((st.tb.handle a (decide (0<n))).sum 32) (noI st.no) (siI st.no),tb:=st.tb.handle a (decide (0<n)) }
 else if k=17 then { st with ws:=jao st.ws ((st.tb.raise a).sum 32) (noI st.no) (siI st.no),tb:=st.tb.raise a }
 else if k=18 then { st with ws:=jao st.ws (st.tb.take.sum 32) (noI st.no) (siI st.no),tb:=st.tb.take }
 else if k=19 then { st with ws:=ntW st.ws (st.tb.sum 32) a n,no:=noT st.ws a n st.no }
 else st
theorem StOk.ws {st:St} {i:Nat} {ws:Ws} (o:StOk st i) (K:WsK ws) (r:WsR st.ws ws):StOk { st with ws:=ws } (i+1) :=
 ⟨K,o.nt.keep r,o.now,o.tb.mono om⟩
theorem StOk.more {st:St} {i:Nat} (o:StOk st i):StOk st (i+1):=⟨o.K,o.nt,o.now,o.tb.mono om⟩
theorem ja3 {P:St->Prop} {c:Prop} [Decidable c] {a b:St} (h1:c->P a) (h2:P b):P (if c then a else b):=by
 by_cases h:c
 ·rw [if_pos h];exact h1 h
 ·rw [if_neg h];exact h2
theorem doS_ok {k a n t:Int} {D:List UInt8} {st:St} {i:Nat} (o:StOk st i) (t0:0<=t) (t1:t<=18446744073709551615):StOk (doS k a n t D st) (i+1):=by
 have K:=o.K
 unfold doS
 refine ja3 (P:=fun s=>StOk s (i+1)) (fun h=>o.ws (jd3 h K) makeS_r) ?_
 refine ja3 (P:=fun s=>StOk s (i+1)) (fun _=>o.ws (jfT K) acceptS_r) ?_
 refine ja3 (P:=fun s=>StOk s (i+1)) (fun _=>o.ws (jiv K) readS_r) ?_
 refine ja3 (P:=fun s=>StOk s (i+1)) (fun _=>o.ws (jg4 K) writeS_r) ?_
 refine ja3 (P:=fun s=>StOk s (i+1)) (fun _=>o.ws (shutS_ok K) shutS_r) ?_
 refine ja3 (P:=fun s=>StOk s (i+1)) (fun _=>o.ws (closeS_ok K) closeS_r) ?_
 refine ja3 (P:=fun s=>StOk s (i+1)) (fun _=>o.ws (putS_ok K) putS_r) ?_
 refine ja3 (P:=fun s=>StOk s (i+1)) (fun _=>o.ws (takeS_ok K) takeS_r) ?_
 refine ja3 (P:=fun s=>StOk s (i+1)) (fun _=>o.ws (jj9 K) jky) ?_
 refine ja3 (P:=fun s=>StOk s (i+1)) (fun _=>o.ws (ji6 K) jjA) ?_
 refine ja3 (P:=fun s=>StOk s (i+1)) (fun _=>o.ws (resetS_ok K) resetS_r) ?_
 refine ja3 (P:=fun s=>StOk s (i+1)) (fun _=>o.ws (jhh K) jmp) ?_
 refine ja3 (P:=fun s=>StOk s (i+1)) (fun _=>⟨K,o.nt,?_,o.tb.mono om⟩) ?_
 ·have:=o.now
  show 0<=jgq st.now t/\jgq st.now t<=_
  unfold jgq
  split<;>omega
 refine ja3 (P:=fun s=>StOk s (i+1)) (fun _=>⟨jd2 K o.nt,o.nt.keep (jeq o.nt),o.now,(jjM o.tb om _ _).mono om⟩) ?_
 refine ja3 (P:=fun s=>StOk s (i+1)) (fun _=>⟨jd2 K o.nt,o.nt.keep (jeq o.nt),o.now,(jli o.tb _).mono om⟩) ?_
 refine ja3 (P:=fun s=>StOk s (i+1)) (fun _=>⟨jd2 K o.nt,o.nt.keep (jeq o.nt),o.now,(jm8 o.tb om).mono om⟩) ?_
 refine ja3 (P:=fun s=>StOk s (i+1)) (fun _=>⟨?_,?_,o.now,o.tb.mono om⟩) o.more
 ·obtain ⟨no,si,h1,h2⟩:=jmX (ws:=st.ws) (sum:=st.tb.sum 32) (a:=a) (b:=n)
  show WsK (ntW _ _ _ _)
  rw [h2];exact jd2 K h1
 ·show NtOk (ntW _ _ _ _) (noI (noT _ _ _ _)) (siI (noT _ _ _ _))
  rw [jnF,jnE]
  obtain ⟨no,si,h1,h2⟩:=jmX (ws:=st.ws) (sum:=st.tb.sum 32) (a:=a) (b:=n)
  rw [h2]
  exact (jnC o.nt).keep (jeq h1)
end Am.Sigs
namespace Am.Sigs
open Am Go
structure Rdy where
 op:Bool
 inn:Bool
 out:Bool
 hup:Bool
 err:Bool
 rd:Int
 wr:Int
def Rdy.cells (r:Rdy):List V:=[.bool r.op,.bool r.inn,.bool r.out,.bool r.hup,.bool r.err,.int .u64 r.rd,.int .u64 r.wr]
def Rdy.no:Rdy:=⟨false,false,false,false,false,0,0⟩
def Wi.rdy (x:Wi) (k:Nat):Rdy :=
 if 0<x.backlog then ⟨true,!x.waiting.isEmpty,false,false,false,(x.e k).inn,(x.e k).out⟩
 else ⟨true,x.rIn k,x.rOut k,(x.e (1-k)).what == 3,x.reset,(x.e k).inn,(x.e k).out⟩
noncomputable def rdyS (ws:Ws) (fd:Int):Rdy:=jcq ws fd Rdy.no fun _ k x=>x.rdy k
theorem jeF (ws:Ws) (fd:Int):je3 ws fd=(rdyS ws fd).cells:=by
 unfold je3 rdyS jcq
 split
 ·rfl
 ·split
  ·rfl
  ·show Wi.ready _ _=(Wi.rdy _ _).cells
   unfold Wi.ready Wi.rdy
   split<;>rfl
def jfh (ev:Int):Prop:=ev=0\/ev=1\/ev=4\/ev=5
instance (ev:Int):Decidable (jfh ev):=inferInstanceAs (Decidable (_\/_))
def b2i (b:Bool) (n:Int):Int:=if b then n else 0
def jdo (r:Rdy) (fd ev:Int):Int :=
 if fd<0 then 0 else if r.op=false then 32 else b2i r.hup 16+b2i (r.inn&&decide (ev=1\/ev=5)) 1+b2i (r.out&&decide (ev=4\/ev=5)) 4+b2i r.err 8
theorem ji3 (r:Rdy) (fd ev:Int):0<=jdo r fd ev/\jdo r fd ev<=63:=by
 unfold jdo b2i
 repeat' split
 all_goals omega
theorem wrap_zero {n:Nat} (hn:n<2 ^ 64) (h:IntKind.i64.wrap (n:Int)=0):n=0:=by
 have e:IntKind.wrap .i64 n=if (n:Int)%18446744073709551616>=9223372036854775808 then (n:Int)%18446744073709551616-18446744073709551616 else (n:Int)%18446744073709551616:=by
  unfold IntKind.wrap
  simp [IntKind.bits,IntKind.signed]
 rw [e] at h
 split at h<;>omega
theorem jmu (x:BitVec 64) (h:x &&& ~~~(5#64)=0#64):x=0#64\/x=1#64\/x=4#64\/x=5#64:=by
 have h5:x &&& 5#64=x:=by
  apply BitVec.eq_of_getElem_eq
  intro i hi
  have:=congrArg (fun y:BitVec 64=>y[i]) h
  simp only [BitVec.getElem_and,BitVec.getElem_not,BitVec.getElem_zero] at this ⊢
  revert this
  cases x[i]<;>cases (5#64)[i]<;>simp
 have hle:x.toNat<=5:=by
  have e:(x &&& 5#64).toNat=x.toNat:=by rw [h5]
  rw [BitVec.toNat_and] at e
  have:=Nat.and_le_right (n:=x.toNat) (m:=(5#64).toNat)
  rw [e] at this
  exact this
 have hx:x=BitVec.ofNat 64 x.toNat:=by simp
 generalize x.toNat=n at hle hx
 subst hx
 rcases (by omega:n=0\/n=1\/n=2\/n=3\/n=4\/n=5) with rfl | rfl | rfl | rfl | rfl | rfl
 ·exact .inl rfl
 ·exact .inr (.inl rfl)
 ·exact absurd h (by decide)
 ·exact absurd h (by decide)
 ·exact .inr (.inr (.inl rfl))
 ·exact .inr (.inr (.inr rfl))
theorem jlp {ev:Int} (h0 : -9223372036854775808<=ev) (h1:ev<=9223372036854775807):(IntKind.i64.wrap (BitVec.ofInt 64 ev &&& ~~~(BitVec.ofInt 64 5)).toNat=0)↔jfh ev:=by
 constructor
 ·intro h
  have h2:=wrap_zero (BitVec.isLt _) h
  have h3:BitVec.ofInt 64 ev &&& ~~~(5#64)=0#64:=BitVec.eq_of_toNat_eq (by simpa using h2)
  have hi:(BitVec.ofInt 64 ev).toInt=ev:=by
   rw [BitVec.toInt_ofInt]
   unfold Int.bmod
   simp
   split<;>omega
  have key : ∀ n:Int,BitVec.ofInt 64 ev=BitVec.ofInt 64 n->(BitVec.ofInt 64 n).toInt=n->ev=n:=fun n e e2=>by rw [<- hi,e,e2]
  rcases jmu _ h3 with e | e | e | e
  ·exact .inl (key 0 e rfl)
  ·exact .inr (.inl (key 1 e rfl))
  ·exact .inr (.inr (.inl (key 4 e rfl)))
  ·exact .inr (.inr (.inr (key 5 e rfl)))
 ·rintro (rfl | rfl | rfl | rfl)<;>rfl
end Am.Sigs
namespace Am.Sigs
open Am Go
theorem jjU (b:UInt8):jgb (jfp b)=some b:=by
 have h:b.toNat<256:=b.toNat_lt
 have h2:jfS (b.toNat:Int) 256=true:=by
  rcases Nat.lt_or_ge b.toNat 256 with _ | _
  ·simp [jfS];omega
  ·omega
 simp only [jfp,jgb,h2,cond_true,Int.toNat_natCast]
 congr 1
 exact UInt8.ofNat_toNat
theorem jeJ : ∀ l:List UInt8,jdA (bts l)=some l
 | []=>rfl
 | b :: l=>by
  show (match jgb (jfp b),jdA (bts l) with | some b,some l=>some (b :: l) | _,_=>none)=_
  rw [jjU,jeJ l]
section
variable {call:Call} {fuel base:Nat} {ops:List Ins} {keep:List Nat} {K:List Fr} {e:Env} {h:H} {Q:Post} {ix:Nat} {dst at_:Option Nat}
theorem Ops.ofRow {x:Opd} {v:V} {N n:Nat} {l:List UInt8} (hx:x.ev e=some v) (r:Row N h 1 v n (bts l)) (k:Ops call fuel base ops keep K (layv e dst (.str l)) h Q) :
  Ops call fuel base (⟨ix,dst,.ofBytes x,none,at_,[]⟩ :: ops) keep K e h Q:=by
 refine Ops.step (I.run_read rfl ?_) k
 rcases r with ⟨rfl,h2,rfl⟩ | ⟨q,_,_,rfl,h4,h5⟩
 ·have:l=[]:=by simpa using h2
  subst this
  simp only [I.read,hx]
 ·simp only [I.read,hx]
  have hn:n=l.length:=by simpa using h5.symm
  subst hn
  cases l with
  | nil=>rfl
  | cons a l=>
   have:((a :: l).length == 0)=false:=rfl
   rw [this,cond_false,jcD h4 (by simp),List.drop_zero,List.take_of_length_le (by simp)]
   show (match jdA (bts (a :: l)) with | some s=>some (V.str s) | none=>none)=_
   rw [jeJ]
theorem Ops.ofBytesAt {x:Opd} {a:Option (Nat × Nat)} {c:Cap} {l:List UInt8} {m:Nat} (hx:x.ev e=some (.slice a m c)) (hl:BytesAt h a c l) (hm:m<=l.length) (k:Ops call fuel base ops keep K (layv e dst (.str (l.take m))) h Q) :
  Ops call fuel base (⟨ix,dst,.ofBytes x,none,at_,[]⟩ :: ops) keep K e h Q:=by
 refine Ops.step (I.run_read rfl ?_) k
 cases a with
 | none=>simp only [I.read,hx,(hl.none_ rfl).2,List.take_nil]
 | some a=>
  simp only [I.read,hx]
  by_cases h0:m=0
  ·subst h0;simp
  ·have:(m == 0)=false:=by simp [h0]
   rw [this,cond_false]
   obtain ⟨b,o,cs,ro,ea,_,hb,hc⟩:=hl.at_ (by rintro rfl;simp at hm;omega)
   cases ea
   obtain ⟨p1,p2⟩:=jd9 (k:=0) (m:=m) hc om om
   rw [jcD hb om]
   simp only [Nat.add_zero,List.drop_zero] at p2
   show (match jdA ((cs.drop o).take m) with | some s=>some (V.str s) | none=>none)=_
   rw [p2,jeJ]
theorem Ops.mark {x:Opd} {b o n:Nat} {c:Cap} {l:List V} (hx:x.ev e=some (.slice (some (b,o)) n c)) (hb:h.get b=some (.cells l false)) (hn:Nat.ble 1 n=true) (k:Ops call fuel base ops keep K (layv e dst (.slice (some (b,o)) n c)) h Q) :
  Ops call fuel base (⟨ix,dst,.mark x,none,at_,[]⟩ :: ops) keep K e h Q:=by
 refine Ops.step (I.run_eff rfl ?_) k
 simp only [I.eff,hx,hb,hn,cond_true]
end
end Am.Sigs
