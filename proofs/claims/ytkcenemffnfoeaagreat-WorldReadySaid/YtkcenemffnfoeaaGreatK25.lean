/- Our own library, part 25: an abstract machine, sound for the model, and what the functions do over it. No condition. -/
import Derived.Test.YtkcenemffnfoeaaGreatK17
import Derived.Test.YtkcenemffnfoeaaGreatK20
set_option maxHeartbeats 8000000
set_option linter.all false
namespace Am.Sigs
open Am Go
def upI (i:Nat) (n:Int):Int:=if i=0 then n else (n+i)%18446744073709551616
theorem jn2 (n:Int):upu n=(n+1)%18446744073709551616:=by
 simp [upu,IntKind.wrap,IntKind.bits,IntKind.signed]
theorem jm6 (i j:Nat) (n:Int):upI j (upI i n)=upI (i+j) n:=by
 unfold upI
 repeat' split
 all_goals omega
theorem jn3 {i:Nat} {n:Int} (h0:1<=i) (h1:i<=100000):upI i n≠n:=by
 unfold upI
 rw [if_neg om]
 omega
def Rs (b k:Nat) (x y:Wi):Prop:=(x.e k).what=1/\(y.e k).fd=(x.e k).fd/\(∃ i,i<=b/\(y.e k).inn=upI i (x.e k).inn/\((y.rdy k).inn=true->(x.rdy k).inn=true\/1<=i)) /\ ∃ o,o<=b/\(y.e k).out=upI o (x.e k).out/\((y.rdy k).out=true->(x.rdy k).out=true\/1<=o)
theorem Rs.trans {a b k:Nat} {x y z:Wi} (p:Rs a k x y) (q:Rs b k y z):Rs (a+b) k x z:=by
 obtain ⟨p1,p2,⟨i,p3,p4,p5⟩,o,p6,p7,p8⟩:=p
 obtain ⟨q1,q2,⟨i',q3,q4,q5⟩,o',q6,q7,q8⟩:=q
 refine ⟨p1,by rw [q2,p2],⟨i+i',by omega,by rw [q4,p4,jm6],fun h=>?_⟩,o+o',by omega,by rw [q7,p7,jm6],fun h=>?_⟩
 ·rcases q5 h with h | h
  ·rcases p5 h with h | h
   ·exact .inl h
   ·exact .inr om
  ·exact .inr om
 ·rcases q8 h with h | h
  ·rcases p8 h with h | h
   ·exact .inl h
   ·exact .inr om
  ·exact .inr om
theorem Rs.refl {b k:Nat} {x:Wi} (h:(x.e k).what=1):Rs b k x x:=⟨h,rfl,⟨0,by omega,rfl,.inl⟩,0,by omega,rfl,.inl⟩
theorem Rs.one {k:Nat} {x y:Wi} (h1:(x.e k).what=1) (h2:(y.e k).fd=(x.e k).fd) (h3:((y.e k).inn=(x.e k).inn/\((y.rdy k).inn=true->(x.rdy k).inn=true))\/(y.e k).inn=upu (x.e k).inn)
  (h4:((y.e k).out=(x.e k).out/\((y.rdy k).out=true->(x.rdy k).out=true))\/(y.e k).out=upu (x.e k).out):Rs 1 k x y:=by
 refine ⟨h1,h2,?_,?_⟩
 ·rcases h3 with ⟨a,b⟩ | a
  ·exact ⟨0,by omega,a,fun h=>.inl (b h)⟩
  ·exact ⟨1,by omega,by rw [a,jn2];rfl,fun _=>.inr om⟩
 ·rcases h4 with ⟨a,b⟩ | a
  ·exact ⟨0,by omega,a,fun h=>.inl (b h)⟩
  ·exact ⟨1,by omega,by rw [a,jn2];rfl,fun _=>.inr om⟩
def Wi.Ri (b:Nat) (x y:Wi):Prop := ∀ k,k=0\/k=1->(y.e k).what=1->Rs b k x y
theorem Wi.Ri.refl (b:Nat) (x:Wi):x.Ri b x:=fun _ _ h=>Rs.refl h
theorem Wi.Ri.trans {a b:Nat} {x y z:Wi} (p:x.Ri a y) (q:y.Ri b z):x.Ri (a+b) z:=fun k hk h=>(p k hk (q k hk h).1).trans (q k hk h)
theorem Wi.Ri.mono {a b:Nat} {x y:Wi} (p:x.Ri a y) (h:a<=b):x.Ri b y:=fun k hk hw=>by
 obtain ⟨p1,p2,⟨i,p3,p4⟩,o,p6,p7⟩:=p k hk hw
 exact ⟨p1,p2,⟨i,by omega,p4⟩,o,by omega,p7⟩
theorem take_ri {x:Wi} {k m:Nat} {q:List UInt8} (hk:k=0\/k=1) (hq:(x.e k).ring=some q):x.Ri 1 (x.take k m q):=by
 intro j hj hw
 obtain ⟨⟨w0,f0,q0,wr0,s0,i0,o0⟩,⟨w1,f1,q1,wr1,s1,i1,o1⟩,cap,rs,bl,wt⟩:=x
 rcases hk with rfl | rfl<;>rcases hj with rfl | rfl<;>simp only [Wi.e,Wi.take,Wi.setq,Wi.came,Wi.put,En.came,Nat.sub_zero,Nat.sub_self,Bool.false_and,Bool.true_and,Bool.false_eq_true,if_false] at hq hw ⊢ <;> subst hq
 ·refine Rs.one hw rfl (.inl ⟨rfl,?_⟩) (.inl ⟨rfl,?_⟩)
  ·unfold Wi.rdy Wi.rIn
   by_cases hb:0<bl<;>simp [hb,Wi.e]
   cases q<;>simp
  ·unfold Wi.rdy Wi.rOut
   by_cases hb:0<bl<;>simp [hb,Wi.e]
 ·refine Rs.one hw rfl (.inl ⟨rfl,?_⟩) ?_
  ·unfold Wi.rdy Wi.rIn
   by_cases hb:0<bl<;>simp [hb,Wi.e]
  ·by_cases hm:0<m
   ·cases wr1
    ·refine .inl ⟨by simp [Wi.e],?_⟩
     unfold Wi.rdy Wi.rOut
     by_cases hb:0<bl<;>simp [hb,Wi.e]
    ·exact .inr (by simp [Wi.e,hm])
   ·refine .inl ⟨by simp [Wi.e,hm],?_⟩
    unfold Wi.rdy Wi.rOut
    obtain rfl:m=0:=by omega
    by_cases hb:0<bl<;>simp [hb,Wi.e]
 ·refine Rs.one hw rfl (.inl ⟨rfl,?_⟩) ?_
  ·unfold Wi.rdy Wi.rIn
   by_cases hb:0<bl<;>simp [hb,Wi.e]
  ·by_cases hm:0<m
   ·cases wr0
    ·refine .inl ⟨by simp [Wi.e],?_⟩
     unfold Wi.rdy Wi.rOut
     by_cases hb:0<bl<;>simp [hb,Wi.e]
    ·exact .inr (by simp [Wi.e,hm])
   ·refine .inl ⟨by simp [Wi.e,hm],?_⟩
    unfold Wi.rdy Wi.rOut
    obtain rfl:m=0:=by omega
    by_cases hb:0<bl<;>simp [hb,Wi.e]
 ·refine Rs.one hw rfl (.inl ⟨rfl,?_⟩) (.inl ⟨rfl,?_⟩)
  ·unfold Wi.rdy Wi.rIn
   by_cases hb:0<bl<;>simp [hb,Wi.e]
   cases q<;>simp
  ·unfold Wi.rdy Wi.rOut
   by_cases hb:0<bl<;>simp [hb,Wi.e]
theorem fill_ri {x:Wi} {k m:Nat} {q l:List UInt8} (hk:k=0\/k=1) (hq:(x.e (1-k)).ring=some q):x.Ri 1 (x.fill k m q l):=by
 intro j hj hw
 obtain ⟨⟨w0,f0,q0,wr0,s0,i0,o0⟩,⟨w1,f1,q1,wr1,s1,i1,o1⟩,cap,rs,bl,wt⟩:=x
 rcases hk with rfl | rfl<;>rcases hj with rfl | rfl<;>simp only [Wi.e,Wi.fill,Wi.setq,Wi.came,Wi.put,En.came,Nat.sub_zero,Nat.sub_self,Bool.false_and,Bool.true_and,Bool.false_eq_true,if_false] at hq hw ⊢ <;> subst hq
 ·refine Rs.one hw rfl (.inl ⟨rfl,?_⟩) (.inl ⟨rfl,?_⟩)
  ·unfold Wi.rdy Wi.rIn
   by_cases hb:0<bl<;>simp [hb,Wi.e]
  ·unfold Wi.rdy Wi.rOut
   by_cases hb:0<bl<;>simp [hb,Wi.e]
   intro a b h
   refine ⟨⟨a,b⟩,?_⟩
   rcases h with (h | h) | h
   ·exact .inl (.inl om)
   ·exact .inl (.inr h)
   ·exact .inr h
 ·refine Rs.one hw rfl ?_ (.inl ⟨rfl,?_⟩)
  ·by_cases hm:0<m
   ·exact .inr (by simp [Wi.e,hm])
   ·refine .inl ⟨by simp [Wi.e,hm],?_⟩
    unfold Wi.rdy Wi.rIn
    obtain rfl:m=0:=by omega
    by_cases hb:0<bl<;>simp [hb,Wi.e]
  ·unfold Wi.rdy Wi.rOut
   by_cases hb:0<bl<;>simp [hb,Wi.e]
 ·refine Rs.one hw rfl ?_ (.inl ⟨rfl,?_⟩)
  ·by_cases hm:0<m
   ·exact .inr (by simp [Wi.e,hm])
   ·refine .inl ⟨by simp [Wi.e,hm],?_⟩
    unfold Wi.rdy Wi.rIn
    obtain rfl:m=0:=by omega
    by_cases hb:0<bl<;>simp [hb,Wi.e]
  ·unfold Wi.rdy Wi.rOut
   by_cases hb:0<bl<;>simp [hb,Wi.e]
 ·refine Rs.one hw rfl (.inl ⟨rfl,?_⟩) (.inl ⟨rfl,?_⟩)
  ·unfold Wi.rdy Wi.rIn
   by_cases hb:0<bl<;>simp [hb,Wi.e]
  ·unfold Wi.rdy Wi.rOut
   by_cases hb:0<bl<;>simp [hb,Wi.e]
   intro a b h
   refine ⟨⟨a,b⟩,?_⟩
   rcases h with (h | h) | h
   ·exact .inl (.inl om)
   ·exact .inl (.inr h)
   ·exact .inr h
theorem shut_ri {x:Wi} {k:Nat} (hk:k=0\/k=1):x.Ri 1 (x.doShut k):=by
 unfold Wi.doShut
 split
 ·exact Wi.Ri.refl 1 x
 next hs=>
 intro j hj hw
 obtain ⟨⟨w0,f0,q0,wr0,s0,i0,o0⟩,⟨w1,f1,q1,wr1,s1,i1,o1⟩,cap,rs,bl,wt⟩:=x
 rcases hk with rfl | rfl<;>rcases hj with rfl | rfl<;>simp only [Wi.e,Nat.zero_add,Wi.came,Wi.put,En.came,Nat.sub_zero,Nat.sub_self,Bool.false_and,Bool.true_and,Bool.false_eq_true,if_false] at hw ⊢
 ·refine Rs.one hw rfl (.inl ⟨rfl,?_⟩) (.inl ⟨rfl,?_⟩)
  ·unfold Wi.rdy Wi.rIn
   by_cases hb:0<bl<;>simp [hb,Wi.e]
  ·unfold Wi.rdy Wi.rOut
   by_cases hb:0<bl<;>simp [hb,Wi.e]
 ·refine Rs.one hw rfl ?_ (.inl ⟨rfl,?_⟩)
  ·cases q1
   ·refine .inl ⟨rfl,?_⟩
    unfold Wi.rdy Wi.rIn
    by_cases hb:0<bl<;>simp [hb,Wi.e]
   ·exact .inr rfl
  ·unfold Wi.rdy Wi.rOut
   by_cases hb:0<bl<;>simp [hb,Wi.e]
 ·refine Rs.one hw rfl ?_ (.inl ⟨rfl,?_⟩)
  ·cases q0
   ·refine .inl ⟨rfl,?_⟩
    unfold Wi.rdy Wi.rIn
    by_cases hb:0<bl<;>simp [hb,Wi.e]
   ·exact .inr rfl
  ·unfold Wi.rdy Wi.rOut
   by_cases hb:0<bl<;>simp [hb,Wi.e]
 ·refine Rs.one hw rfl (.inl ⟨rfl,?_⟩) (.inl ⟨rfl,?_⟩)
  ·unfold Wi.rdy Wi.rIn
   by_cases hb:0<bl<;>simp [hb,Wi.e]
  ·unfold Wi.rdy Wi.rOut
   by_cases hb:0<bl<;>simp [hb,Wi.e]
theorem close_ri {x:Wi} {k:Nat} (hk:k=0\/k=1):x.Ri 1 (x.close k):=by
 intro j hj hw
 obtain ⟨⟨w0,f0,q0,wr0,s0,i0,o0⟩,⟨w1,f1,q1,wr1,s1,i1,o1⟩,cap,rs,bl,wt⟩:=x
 rcases hk with rfl | rfl<;>rcases hj with rfl | rfl<;>simp only [Wi.e,Wi.close,Wi.came,Wi.put,En.came,Nat.sub_zero,Nat.sub_self,Bool.false_and,Bool.true_and,Bool.false_eq_true,if_false] at hw ⊢
 ·cases hw
 ·refine Rs.one hw rfl ?_ ?_
  ·cases q1
   ·refine .inl ⟨by simp [Wi.e],?_⟩
    unfold Wi.rdy Wi.rIn
    by_cases hb:0<bl<;>simp [hb,Wi.e]
   ·cases s0
    ·exact .inr rfl
    ·refine .inl ⟨rfl,?_⟩
     unfold Wi.rdy Wi.rIn
     by_cases hb:0<bl<;>simp [hb,Wi.e]
  ·cases wr1
   ·refine .inl ⟨rfl,?_⟩
    unfold Wi.rdy Wi.rOut
    by_cases hb:0<bl<;>simp [hb,Wi.e]
   ·exact .inr rfl
 ·refine Rs.one hw rfl ?_ ?_
  ·cases q0
   ·refine .inl ⟨by simp [Wi.e],?_⟩
    unfold Wi.rdy Wi.rIn
    by_cases hb:0<bl<;>simp [hb,Wi.e]
   ·cases s1
    ·exact .inr rfl
    ·refine .inl ⟨rfl,?_⟩
     unfold Wi.rdy Wi.rIn
     by_cases hb:0<bl<;>simp [hb,Wi.e]
  ·cases wr0
   ·refine .inl ⟨rfl,?_⟩
    unfold Wi.rdy Wi.rOut
    by_cases hb:0<bl<;>simp [hb,Wi.e]
   ·exact .inr rfl
 ·cases hw
theorem reset_ri {x:Wi} : x.Ri 1 x.doReset:=by
 unfold Wi.doReset
 split
 ·exact Wi.Ri.refl 1 x
 intro j hj hw
 obtain ⟨⟨w0,f0,q0,wr0,s0,i0,o0⟩,⟨w1,f1,q1,wr1,s1,i1,o1⟩,cap,rs,bl,wt⟩:=x
 rcases hj with rfl | rfl<;>simp only [Wi.e,Wi.setq,Option.isSome_some,if_true,Wi.came,Wi.put,En.came,Nat.sub_zero,Nat.sub_self,Bool.false_and,Bool.true_and,Bool.false_eq_true,if_false] at hw ⊢
 ·refine Rs.one hw rfl (.inr rfl) ?_
  cases wr0
  ·refine .inl ⟨rfl,?_⟩
   unfold Wi.rdy Wi.rOut
   by_cases hb:0<bl<;>simp [hb,Wi.e]
  ·exact .inr rfl
 ·refine Rs.one hw rfl (.inr rfl) ?_
  cases wr1
  ·refine .inl ⟨rfl,?_⟩
   unfold Wi.rdy Wi.rOut
   by_cases hb:0<bl<;>simp [hb,Wi.e]
  ·exact .inr rfl
def Ls (x:Wi):Prop:=0<x.backlog->x.e1.what=0/\x.e0.ring=none/\x.e0.writes=false
def Wi.Rj (b:Nat) (x y:Wi):Prop:=x.Ri b y/\(Ls x->Ls y)
theorem Wi.Rj.refl (b:Nat) (x:Wi):x.Rj b x:=⟨Wi.Ri.refl b x,id⟩
theorem Wi.Rj.trans {a b:Nat} {x y z:Wi} (p:x.Rj a y) (q:y.Rj b z):x.Rj (a+b) z:=⟨p.1.trans q.1,fun h=>q.2 (p.2 h)⟩
theorem jkh {x:Wi} {k m:Nat} {q:List UInt8} (hk:k=0\/k=1) (hq:(x.e k).ring=some q):x.Rj 1 (x.take k m q):=by
 refine ⟨take_ri hk hq,fun h=>?_⟩
 obtain ⟨⟨w0,f0,q0,wr0,s0,i0,o0⟩,⟨w1,f1,q1,wr1,s1,i1,o1⟩,cap,rs,bl,wt⟩:=x
 rcases hk with rfl | rfl
 ·intro hb
  have:=(h hb).2.1
  have hq:q0=some q:=hq
  have this:q0=none:=this
  rw [hq] at this;cases this
 ·exact fun hb=>h hb
theorem jkC {x:Wi} {k m:Nat} {q l:List UInt8} (hk:k=0\/k=1) (hq:(x.e (1-k)).ring=some q):x.Rj 1 (x.fill k m q l):=by
 refine ⟨fill_ri hk hq,fun h=>?_⟩
 obtain ⟨⟨w0,f0,q0,wr0,s0,i0,o0⟩,⟨w1,f1,q1,wr1,s1,i1,o1⟩,cap,rs,bl,wt⟩:=x
 rcases hk with rfl | rfl
 ·exact fun hb=>h hb
 ·intro hb
  have:=(h hb).2.1
  have hq:q0=some q:=hq
  have this:q0=none:=this
  rw [hq] at this;cases this
theorem jmE {x:Wi} {k:Nat} (hk:k=0\/k=1):x.Rj 1 (x.doShut k):=by
 refine ⟨shut_ri hk,fun h=>?_⟩
 unfold Wi.doShut
 split
 ·exact h
 obtain ⟨⟨w0,f0,q0,wr0,s0,i0,o0⟩,⟨w1,f1,q1,wr1,s1,i1,o1⟩,cap,rs,bl,wt⟩:=x
 rcases hk with rfl | rfl<;>exact fun hb=>h hb
theorem jiM {x:Wi} {k:Nat} (hk:k=0\/k=1) (h1:k=1->x.e1.what≠0):x.Rj 1 (x.close k):=by
 refine ⟨close_ri hk,fun h=>?_⟩
 obtain ⟨⟨w0,f0,q0,wr0,s0,i0,o0⟩,⟨w1,f1,q1,wr1,s1,i1,o1⟩,cap,rs,bl,wt⟩:=x
 rcases hk with rfl | rfl
 ·exact fun hb=>h hb
 ·exact fun hb=>absurd (h hb).1 (h1 rfl)
theorem reset_rj {x:Wi} (h2:x.e1.what=2):x.Rj 1 x.doReset:=by
 refine ⟨reset_ri,fun h=>?_⟩
 unfold Wi.doReset
 split
 ·exact h
 obtain ⟨⟨w0,f0,q0,wr0,s0,i0,o0⟩,⟨w1,f1,q1,wr1,s1,i1,o1⟩,cap,rs,bl,wt⟩:=x
 intro hb
 have:=(h hb).1
 have h2:w1=2:=h2
 have this:w1=0:=this
 omega
def WsRi (b:Nat) (ws ws':Ws):Prop := ∀ (n:Nat) (y:Wi),ws'[n]?=some y -> ∃ x,ws[n]?=some x/\x.Rj b y
theorem WsRi.refl (b:Nat) (ws:Ws):WsRi b ws ws:=fun _ x h=>⟨x,h,Wi.Rj.refl b x⟩
theorem WsRi.trans {a b:Nat} {u v w:Ws} (p:WsRi a u v) (q:WsRi b v w):WsRi (a+b) u w:=fun n z hz=>by
 obtain ⟨y,hy,h2⟩:=q n z hz
 obtain ⟨x,hx,h1⟩:=p n y hy
 exact ⟨x,hx,h1.trans h2⟩
theorem WsRi.set {b:Nat} {ws:Ws} {n:Nat} {x y:Wi} (hx:ws[n]?=some x) (h:x.Rj b y):WsRi b ws (ws.set n y):=fun m u hu=>by
 rcases jc0 hu with ⟨rfl,rfl⟩ | ⟨_,h2⟩
 ·exact ⟨x,hx,h⟩
 ·exact ⟨u,h2,Wi.Rj.refl b u⟩
theorem WsRi.mono {a b:Nat} {u v:Ws} (p:WsRi a u v) (h:a<=b):WsRi b u v:=fun n y hy=>by
 obtain ⟨x,hx,h1⟩:=p n y hy
 exact ⟨x,hx,h1.1.mono h,h1.2⟩
def WsL (ws:Ws):Prop := ∀ x∈ws,Ls x
structure Up (b:Nat) (ws ws':Ws):Prop where
 up : ∀ (n:Nat) (y:Wi) (k:Nat),ws'[n]?=some y->(k=0\/k=1)->(y.e k).what=1->(∀ a c,¬ AtW ws a c (y.e k).fd) \/ ∃ x,ws[n]?=some x/\Rs b k x y
 ls:WsL ws'
theorem WsRi.toUp {b:Nat} {ws ws':Ws} (r:WsRi b ws ws') (hb:b<=100) (l:WsL ws):Up 100 ws ws':=by
 replace r:=r.mono hb
 refine ⟨fun n y k hy hk hw=>?_,fun y hy=>?_⟩
 ·obtain ⟨x,hx,h1,_⟩:=r n y hy
  exact .inr ⟨x,hx,h1 k hk hw⟩
 ·obtain ⟨i,hi⟩:=List.mem_iff_getElem?.1 hy
  obtain ⟨x,hx,_,h2⟩:=r i y hi
  exact h2 (l x (List.mem_of_getElem? hx))
theorem jiu {ws:Ws} {fd many:Int} : WsRi 1 ws (jaP ws fd many).2:=by
 unfold jaP
 refine jaB (P:=fun r:_ × Ws=>WsRi 1 ws r.2) (WsRi.refl 1 ws) fun n k x hx hk h1=>?_
 split
 ·exact WsRi.refl 1 ws
 next q hq=>
  repeat' split
  all_goals first | exact WsRi.refl 1 ws | exact WsRi.set hx (jkh hk hq)
theorem jg3 {ws:Ws} {fd:Int} {b:List UInt8} : WsRi 1 ws (jav ws fd b).2:=by
 unfold jav
 refine jaB (P:=fun r:_ × Ws=>WsRi 1 ws r.2) (WsRi.refl 1 ws) fun n k x hx hk h1=>?_
 repeat' split
 all_goals first | exact WsRi.refl 1 ws | exact WsRi.set hx (jkC hk (by assumption))
theorem shutS_ri {ws:Ws} {fd:Int} : WsRi 1 ws (jcY ws fd).2:=by
 unfold jcY
 refine jaB (P:=fun r:_ × Ws=>WsRi 1 ws r.2) (WsRi.refl 1 ws) fun n k x hx hk h1=>?_
 split
 ·exact WsRi.refl 1 ws
 ·exact WsRi.set hx (jmE hk)
theorem jhk : ∀ (L:List Int) (ws:Ws),WsRi L.length ws (jaD ws L)
 | [],ws=>WsRi.refl 0 ws
 | m :: L,ws=>by
  have h:=jhk L (jcn ws m)
  have h0:WsRi 1 ws (jcn ws m):=by
   unfold jcn
   split
   ·exact WsRi.refl 1 ws
   ·next x hx=>exact WsRi.set hx (jiM (.inl rfl) fun e=>by cases e)
  exact (h0.trans h).mono (by simp;omega)
theorem noWait_ri {ws:Ws} {n:Nat} : WsRi 1 ws (noWait ws n):=by
 unfold noWait
 split
 ·exact WsRi.refl 1 ws
 next x hx=>
 refine WsRi.set hx ⟨fun j hj hw=>?_,fun h=>h⟩
 have e0:(({ x with waiting:=[] } : Wi).e j)=x.e j:=by rcases hj with rfl | rfl<;>rfl
 rw [e0] at hw
 refine Rs.one hw (by rw [e0]) (.inl ⟨by rw [e0],?_⟩) (.inl ⟨by rw [e0],?_⟩)
 ·unfold Wi.rdy
  split
  ·exact fun h=>by cases h
  ·rcases hj with rfl | rfl<;>exact fun h=>h
 ·unfold Wi.rdy
  split
  ·exact fun h=>by cases h
  ·rcases hj with rfl | rfl<;>exact fun h=>h
theorem closeS_ri {ws:Ws} {fd:Int} (o:WsOk ws):WsRi 66 ws (jbS ws fd).2:=by
 unfold jbS
 refine jaB (P:=fun r:_ × Ws=>WsRi 66 ws r.2) (WsRi.refl 66 ws) fun n k x hx hk h1=>?_
 have hl:=(o.wait x (List.mem_of_getElem? hx)).1
 refine (((WsRi.set hx (jiM hk ?_)).trans (jhk _ _)).trans noWait_ri).mono om
 rintro rfl
 have h1:x.e1.what=1:=h1
 omega
theorem putS_ri {ws:Ws} {n:Int} {b:List UInt8} : WsRi 1 ws (putS ws n b).2:=by
 unfold putS
 refine jaA (P:=fun r:_ × Ws=>WsRi 1 ws r.2) (WsRi.refl 1 ws) fun n x hx h2=>?_
 repeat' split
 all_goals first | exact WsRi.refl 1 ws | exact WsRi.set hx (jkC (.inr rfl) (by assumption))
theorem takeS_ri {ws:Ws} {n many:Int} : WsRi 1 ws (jcs ws n many).2:=by
 unfold jcs
 refine jaA (P:=fun r:_ × Ws=>WsRi 1 ws r.2) (WsRi.refl 1 ws) fun n x hx h2=>?_
 repeat' split
 all_goals first | exact WsRi.refl 1 ws | exact WsRi.set hx (jkh (.inr rfl) (by assumption))
theorem jj8 {ws:Ws} {n:Int} : WsRi 1 ws (jaJ ws n).2:=jaA (P:=fun r:_ × Ws=>WsRi 1 ws r.2) (WsRi.refl 1 ws) fun _ _ hx _=>WsRi.set hx (jmE (.inr rfl))
theorem ji5 {ws:Ws} {n:Int} : WsRi 1 ws (ja7 ws n).2:=jaA (P:=fun r:_ × Ws=>WsRi 1 ws r.2) (WsRi.refl 1 ws) fun _ _ hx h2=>WsRi.set hx (jiM (.inr rfl) fun _=>by rw [h2];decide)
theorem resetS_ri {ws:Ws} {n:Int} : WsRi 1 ws (jcc ws n).2:=jaA (P:=fun r:_ × Ws=>WsRi 1 ws r.2) (WsRi.refl 1 ws) fun _ _ hx h2=>WsRi.set hx (reset_rj h2)
theorem jd1 {ws:Ws} {sum no si:Int} (nt:NtOk ws no si):WsRi 1 ws (jao ws sum no si):=by
 unfold jao
 split
 ·exact WsRi.refl 1 ws
 next h0=>
 split
 ·exact WsRi.refl 1 ws
 next x hx=>
 split
 ·exact WsRi.refl 1 ws
 next q hq=>
 rcases nt with h | ⟨n,k,y,h1,h2,h3,h4,h5,h6⟩
 ·omega
 have hk:si.toNat=0\/si.toNat=1:=by omega
 split
 ·exact WsRi.set hx (jkh hk hq)
 split
 ·next e=>
  have e2:1-(1-si.toNat)=si.toNat:=by omega
  exact WsRi.set hx (jkC (jbZ hk) (by rw [e2,hq,e]))
 ·exact WsRi.refl 1 ws
theorem ntW_ri {ws:Ws} {sum a b:Int} : WsRi 1 ws (ntW ws sum a b):=by
 obtain ⟨no,si,h1,h2⟩:=jmX (ws:=ws) (sum:=sum) (a:=a) (b:=b)
 rw [h2]
 exact jd1 h1
theorem Up.refl {ws:Ws} (l:WsL ws):Up 100 ws ws:=(WsRi.refl 1 ws).toUp om l
theorem jmR {ws:Ws} {x y:Wi} {n:Nat} (h:(ws++[x])[n]?=some y):ws[n]?=some y\/y=x:=by
 rw [List.getElem?_append] at h
 split at h
 ·exact .inl h
 ·right
  rcases (by omega:n-ws.length=0\/n-ws.length≠0) with e | e
  ·rw [e] at h;simpa using h.symm
  ·rw [List.getElem?_eq_none (by simp;omega)] at h;cases h
theorem makeS_up {ws:Ws} {kind n:Int} (hk:kind=0\/kind=1\/kind=2\/kind=3) (l:WsL ws):Up 100 ws (jah ws kind n).2:=by
 unfold jah
 split
 ·exact Up.refl l
 split
 ·exact Up.refl l
 next f0 fs hF=>
 split
 ·exact Up.refl l
 next hbad=>
 obtain ⟨i0,e0,_,a0⟩:=jcw (ws:=ws) (n:=96) (f:=f0) (by rw [hF];simp)
 have n0:=jhW a0
 have h1:kind<2 -> ∀ n k,¬ AtW ws n k (fs.headD 0):=by
  intro h
  cases fs with
  | nil=>exact absurd (.inl ⟨rfl,h⟩) hbad
  | cons f1 r=>
   obtain ⟨i1,e1,_,a1⟩:=jcw (ws:=ws) (n:=96) (f:=f1) (by rw [hF];simp)
   exact jhW a1
 refine ⟨fun m y k hy hk' hw=>?_,fun y hy=>?_⟩
 ·rcases jmR hy with hy | rfl
  ·exact .inr ⟨y,hy,Rs.refl hw⟩
  ·left
   rcases hk with rfl | rfl | rfl | rfl<;>rcases hk' with rfl | rfl
   ·exact n0
   ·exact h1 om
   ·exact n0
   ·exact h1 om
   ·exact n0
   ·cases hw
   ·exact n0
   ·cases hw
 ·rcases List.mem_append.1 hy with hy | hy
  ·exact l y hy
  ·obtain rfl:y=_:=by simpa using hy
   rcases hk with rfl | rfl | rfl | rfl
   ·exact fun h=>by cases h
   ·exact fun h=>by cases h
   ·exact fun h=>by cases h
   ·exact fun _=>⟨rfl,rfl,rfl⟩
theorem Rs.mono {a b k:Nat} {x y:Wi} (p:Rs a k x y) (h:a<=b):Rs b k x y:=by
 obtain ⟨p1,p2,⟨i,p3,p4⟩,o,p6,p7⟩:=p
 exact ⟨p1,p2,⟨i,by omega,p4⟩,o,by omega,p7⟩
theorem put0_rs {y:Wi} {f:Int} (h0:y.e0.what=0) (h1:(y.e 1).what=1):Rs 1 1 y (y.put 0 { y.e 0 with what:=1,fd:=f }):=by
 obtain ⟨⟨w0,f0,q0,wr0,s0,i0,o0⟩,⟨w1,f1,q1,wr1,s1,i1,o1⟩,cap,rs,bl,wt⟩:=y
 obtain rfl:w0=0:=h0
 refine Rs.one h1 rfl (.inl ⟨rfl,?_⟩) (.inl ⟨rfl,?_⟩)
 ·unfold Wi.rdy Wi.rIn
  by_cases hb:0<bl<;>simp [hb,Wi.e,Wi.put]
 ·unfold Wi.rdy Wi.rOut
  by_cases hb:0<bl<;>simp [hb,Wi.e,Wi.put]
theorem jhX {ws:Ws} {fd:Int} (o:WsOk ws) (l:WsL ws):Up 100 ws (jaq ws fd).2:=by
 unfold jaq
 refine jaB (P:=fun r:_ × Ws=>Up 100 ws r.2) (Up.refl l) fun n k x hx hk h1=>?_
 split
 ·exact Up.refl l
 next hb=>
 split
 ·exact Up.refl l
 next m rest hw=>
 split
 ·exact Up.refl l
 next f fs hF=>
 split
 ·exact Up.refl l
 next y hy=>
 obtain ⟨i0,e0,_,a0⟩:=jcw (ws:=ws) (n:=96) (f:=f) (by rw [hF];simp)
 have n0:=jhW a0
 obtain ⟨_,hwt⟩:=o.wait x (List.mem_of_getElem? hx)
 obtain ⟨z,z0,z1,z2⟩:=hwt m (by rw [hw];simp)
 have x2 : ∀ j,j=0\/j=1->(x.e j).what=1->Rs 1 j x { x with waiting:=rest } := by
  intro j hj h1
  have e0:(({ x with waiting:=rest } : Wi).e j)=x.e j:=by rcases hj with rfl | rfl<;>rfl
  refine Rs.one h1 (by rw [e0]) (.inl ⟨by rw [e0],?_⟩) (.inl ⟨by rw [e0],?_⟩)
  ·unfold Wi.rdy
   rw [hw]
   by_cases hp:0<x.backlog
   ·rw [if_pos hp,if_pos hp];exact fun _=>rfl
   ·rw [if_neg hp,if_neg hp];rcases hj with rfl | rfl<;>exact fun h=>h
  ·unfold Wi.rdy
   by_cases hp:0<x.backlog
   ·rw [if_pos hp,if_pos hp];exact fun h=>h
   ·rw [if_neg hp,if_neg hp];rcases hj with rfl | rfl<;>exact fun h=>h
 have two : ∀ (N:Nat) (u:Wi),(ws.set n { x with waiting:=rest })[N]?=some u -> ∃ u0,ws[N]?=some u0/\(∀ j,j=0\/j=1->(u.e j).what=1->Rs 1 j u0 u)/\(Ls u0->Ls u)/\u.e0.what=u0.e0.what:=by
  intro N u hu
  rcases jc0 hu with ⟨rfl,rfl⟩ | ⟨_,h2⟩
  ·exact ⟨x,hx,fun j hj hw'=>x2 j hj (by rcases hj with rfl | rfl<;>exact hw'),fun h=>h,rfl⟩
  ·exact ⟨u,h2,fun j _ hw'=>Rs.refl hw',id,rfl⟩
 refine ⟨fun N y' k' hy' hk' hw'=>?_,fun y' hm=>?_⟩
 ·rcases jc0 hy' with ⟨rfl,rfl⟩ | ⟨_,h2⟩
  ·rcases hk' with rfl | rfl
   ·exact .inl n0
   ·obtain ⟨u0,q1,q2,_,q4⟩:=two _ _ hy
    rw [z1] at q1;cases q1
    have hy1:(y.e 1).what=1:=hw'
    exact .inr ⟨z,z1,((q2 1 (.inr rfl) hy1).trans (put0_rs (by rw [q4,z2]) hy1)).mono om⟩
  ·obtain ⟨u0,q1,q2,_,_⟩:=two _ _ h2
   exact .inr ⟨u0,q1,(q2 k' hk' hw').mono om⟩
 ·obtain ⟨N,hN⟩:=List.mem_iff_getElem?.1 hm
  rcases jc0 hN with ⟨rfl,rfl⟩ | ⟨_,h2⟩
  ·obtain ⟨u0,q1,_,q3,_⟩:=two _ _ hy
   exact fun hb=>q3 (l _ (List.mem_of_getElem? q1)) hb
  ·obtain ⟨u0,q1,_,q3,_⟩:=two _ _ h2
   exact q3 (l _ (List.mem_of_getElem? q1))
theorem jkF {ws:Ws} {n many:Int} (o:WsOk ws) (l:WsL ws):Up 100 ws (jau ws n many).2:=by
 unfold jau
 split
 ·exact Up.refl l
 split
 ·exact Up.refl l
 next x hx=>
 split
 ·exact Up.refl l
 next hbad=>
 split
 ·exact Up.refl l
 split
 ·exact Up.refl l
 split
 ·exact Up.refl l
 have hbl:0<x.backlog:=by
  have:=(o.ok x (List.mem_of_getElem? hx)).bl
  omega
 have hL:=l x (List.mem_of_getElem? hx) hbl
 have x2 : ∀ j,j=0\/j=1->(x.e j).what=1->Rs 1 j x { x with waiting:=x.waiting++[(ws.length:Int)],e0 := { x.e0 with inn:=upu x.e0.inn } } := by
  intro j hj h1
  rcases hj with rfl | rfl
  ·refine Rs.one h1 rfl (.inr rfl) (.inl ⟨rfl,?_⟩)
   unfold Wi.rdy
   rw [if_pos hbl,if_pos hbl];exact fun h=>h
  ·have h1:x.e1.what=1:=h1
   omega
 refine ⟨fun N y' k' hy' hk' hw'=>?_,fun y' hm=>?_⟩
 ·rcases jmR hy' with h2 | rfl
  ·rcases jc0 h2 with ⟨rfl,rfl⟩ | ⟨_,h2⟩
   ·exact .inr ⟨x,hx,(x2 k' hk' (by rcases hk' with rfl | rfl<;>exact hw')).mono om⟩
   ·exact .inr ⟨y',h2,Rs.refl hw'⟩
  ·rcases hk' with rfl | rfl<;>cases hw'
 ·rcases List.mem_append.1 hm with hm | hm
  ·obtain ⟨N,hN⟩:=List.mem_iff_getElem?.1 hm
   rcases jc0 hN with ⟨rfl,rfl⟩ | ⟨_,h2⟩
   ·exact fun _=>hL
   ·exact l _ (List.mem_of_getElem? h2)
  ·obtain rfl:y'=_:=by simpa using hm
   exact fun h=>by cases h
theorem doS_up {k a n t:Int} {D:List UInt8} {st:St} {i:Nat} (o:StOk st i) (l:WsL st.ws):Up 100 st.ws (doS k a n t D st).ws:=by
 have K:=o.K.ok
 have z : ∀ {b:Nat} {w:Ws},WsRi b st.ws w->b<=100->Up 100 st.ws w:=fun r h=>r.toUp h l
 unfold doS
 refine ja3 (P:=fun s=>Up 100 st.ws s.ws) (fun h=>makeS_up h l) ?_
 refine ja3 (P:=fun s=>Up 100 st.ws s.ws) (fun _=>jhX K l) ?_
 refine ja3 (P:=fun s=>Up 100 st.ws s.ws) (fun _=>z jiu om) ?_
 refine ja3 (P:=fun s=>Up 100 st.ws s.ws) (fun _=>z jg3 om) ?_
 refine ja3 (P:=fun s=>Up 100 st.ws s.ws) (fun _=>z shutS_ri om) ?_
 refine ja3 (P:=fun s=>Up 100 st.ws s.ws) (fun _=>z (closeS_ri K) om) ?_
 refine ja3 (P:=fun s=>Up 100 st.ws s.ws) (fun _=>z putS_ri om) ?_
 refine ja3 (P:=fun s=>Up 100 st.ws s.ws) (fun _=>z takeS_ri om) ?_
 refine ja3 (P:=fun s=>Up 100 st.ws s.ws) (fun _=>z jj8 om) ?_
 refine ja3 (P:=fun s=>Up 100 st.ws s.ws) (fun _=>z ji5 om) ?_
 refine ja3 (P:=fun s=>Up 100 st.ws s.ws) (fun _=>z resetS_ri om) ?_
 refine ja3 (P:=fun s=>Up 100 st.ws s.ws) (fun _=>jkF K l) ?_
 refine ja3 (P:=fun s=>Up 100 st.ws s.ws) (fun _=>Up.refl l) ?_
 refine ja3 (P:=fun s=>Up 100 st.ws s.ws) (fun _=>z (jd1 o.nt) om) ?_
 refine ja3 (P:=fun s=>Up 100 st.ws s.ws) (fun _=>z (jd1 o.nt) om) ?_
 refine ja3 (P:=fun s=>Up 100 st.ws s.ws) (fun _=>z (jd1 o.nt) om) ?_
 refine ja3 (P:=fun s=>Up 100 st.ws s.ws) (fun _=>z ntW_ri om) (Up.refl l)
theorem Up.rise {ws ws':Ws} (u:Up 100 ws ws') (u1:Uniq ws) (u2:Uniq ws') {fd:Int} (h1:(rdyS ws fd).op=true) (h2:(rdyS ws' fd).op=true) :
  ((rdyS ws' fd).inn=true->(rdyS ws fd).inn=false->(rdyS ws' fd).rd≠(rdyS ws fd).rd)/\((rdyS ws' fd).out=true->(rdyS ws fd).out=false->(rdyS ws' fd).wr≠(rdyS ws fd).wr):=by
 have key : ∀ {v:Ws},Uniq v->(rdyS v fd).op=true -> ∃ n k x,AtW v n k fd/\v[n]?=some x/\rdyS v fd=x.rdy k:=by
  intro v uv hv
  unfold rdyS at hv
  by_cases h : ∃ n k,AtW v n k fd
  ·obtain ⟨n,k,h⟩:=h
   obtain ⟨x,hx,_⟩:=id h
   exact ⟨n,k,x,h,hx,jaz uv h hx⟩
  ·rw [ja0 fun n k hh=>h ⟨n,k,hh⟩] at hv;cases hv
 obtain ⟨n,k,x,a1,hx,e1⟩:=key u1 h1
 obtain ⟨m,j,y,a2,hy,e2⟩:=key u2 h2
 obtain ⟨y',hy',hj,hw,hf⟩:=id a2
 rw [hy] at hy';cases hy'
 rcases u.up m y j hy hj hw with h | ⟨x',hx',r⟩
 ·exact absurd a1 (by rw [<- hf];exact h n k)
 obtain ⟨r1,r2,⟨i,r3,r4,r5⟩,o,r6,r7,r8⟩:=r
 obtain ⟨rfl,rfl⟩:=u1 n k m j fd a1 ⟨x',hx',hj,r1,by rw [<- r2,hf]⟩
 rw [hx] at hx';cases hx'
 have rd : ∀ z:Wi,(z.rdy k).rd=(z.e k).inn/\(z.rdy k).wr=(z.e k).out:=fun z=>by unfold Wi.rdy;split<;>exact ⟨rfl,rfl⟩
 rw [e1,e2,(rd x).1,(rd x).2,(rd y).1,(rd y).2,r4,r7]
 refine ⟨fun p q=>?_,fun p q=>?_⟩
 ·rcases r5 p with h | h
  ·rw [q] at h;cases h
  ·exact jn3 h om
 ·rcases r8 p with h | h
  ·rw [q] at h;cases h
  ·exact jn3 h om
end Am.Sigs
namespace Am.Sigs
open Am Go
structure Sm (k:Nat) (x y:Wi):Prop where
 what:(y.e k).what=(x.e k).what
 fd:(y.e k).fd=(x.e k).fd
 ring:(y.e k).ring=(x.e k).ring
 reset:y.reset=x.reset
 silent:y.silent k=x.silent k
 bl:y.backlog=x.backlog
 wt:y.waiting=x.waiting
theorem Sm.refl (k:Nat) (x:Wi):Sm k x x:=⟨rfl,rfl,rfl,rfl,rfl,rfl,rfl⟩
theorem fill_sm {x:Wi} {k m:Nat} {q l:List UInt8} (hk:k=0\/k=1):Sm k x (x.fill k m q l):=by
 rcases hk with rfl | rfl<;>exact ⟨rfl,rfl,rfl,rfl,rfl,rfl,rfl⟩
structure Sa (k:Nat) (x y:Wi):Prop where
 what:(y.e k).what=(x.e k).what
 fd:(y.e k).fd=(x.e k).fd
 bl:y.backlog=x.backlog
 wt:y.waiting=x.waiting
theorem take_sa {x:Wi} {k m:Nat} {q:List UInt8} (hk:k=0\/k=1):Sa k x (x.take k m q):=by
 rcases hk with rfl | rfl<;>exact ⟨rfl,rfl,rfl,rfl⟩
theorem jn6 {ws:Ws} {n k:Nat} {x y:Wi} {fd:Int} (hx:ws[n]?=some x) (hk:k=0\/k=1) (h1:(y.e k).what=1) (h2:(y.e k).fd=fd):AtW (ws.set n y) n k fd/\(ws.set n y)[n]?=some y:=by
 have:(ws.set n y)[n]?=some y:=by rw [List.getElem?_set,if_pos rfl,if_pos (w_lt hx)]
 exact ⟨⟨y,this,hk,h1,h2⟩,this⟩
theorem writeS_at {ws:Ws} {n k:Nat} {x:Wi} {fd:Int} {b:List UInt8} (u:Uniq ws) (a:AtW ws n k fd) (hx:ws[n]?=some x) : ∃ y,AtW (jav ws fd b).2 n k fd/\(jav ws fd b).2[n]?=some y/\Sm k x y:=by
 obtain ⟨x',hx',hk,h1,h2⟩:=id a
 rw [hx] at hx';cases hx'
 unfold jav
 rw [jaz u a hx]
 have same : ∃ y,AtW ws n k fd/\ws[n]?=some y/\Sm k x y:=⟨x,a,hx,Sm.refl k x⟩
 have fl : ∀ m q,∃ y,AtW (ws.set n (x.fill k m q b)) n k fd/\(ws.set n (x.fill k m q b))[n]?=some y/\Sm k x y:=fun m q=>by
  have s:=fill_sm (x:=x) (m:=m) (q:=q) (l:=b) hk
  obtain ⟨q1,q2⟩:=jn6 (y:=x.fill k m q b) (fd:=fd) hx hk (by rw [s.what,h1]) (by rw [s.fd,h2])
  exact ⟨_,q1,q2,s⟩
 repeat' split
 all_goals first | exact same | exact fl _ _
theorem readS_at {ws:Ws} {n k:Nat} {x:Wi} {fd many:Int} (u:Uniq ws) (a:AtW ws n k fd) (hx:ws[n]?=some x) : ∃ y,AtW (jaP ws fd many).2 n k fd/\(jaP ws fd many).2[n]?=some y/\Sa k x y:=by
 obtain ⟨x',hx',hk,h1,h2⟩:=id a
 rw [hx] at hx';cases hx'
 unfold jaP
 rw [jaz u a hx]
 have same : ∃ y,AtW ws n k fd/\ws[n]?=some y/\Sa k x y:=⟨x,a,hx,rfl,rfl,rfl,rfl⟩
 have fl : ∀ m q,∃ y,AtW (ws.set n (x.take k m q)) n k fd/\(ws.set n (x.take k m q))[n]?=some y/\Sa k x y:=fun m q=>by
  have s:=take_sa (x:=x) (m:=m) (q:=q) hk
  obtain ⟨q1,q2⟩:=jn6 (y:=x.take k m q) (fd:=fd) hx hk (by rw [s.what,h1]) (by rw [s.fd,h2])
  exact ⟨_,q1,q2,s⟩
 repeat' split
 all_goals first | exact same | exact fl _ _
theorem jnD {ws ws':Ws} {b:Nat} {fd:Int} (r:WsRi b ws ws') (h : ∀ n k,¬ AtW ws n k fd) : ∀ n k,¬ AtW ws' n k fd:=by
 rintro n k ⟨y,hy,hk,h1,h2⟩
 obtain ⟨x,hx,i,_⟩:=r n y hy
 obtain ⟨p1,p2,_⟩:=i k hk h1
 exact h n k ⟨x,hx,hk,p1,by rw [<- p2,h2]⟩
theorem ready_law {ws:Ws} (K:WsK ws) (l:WsL ws) (fd:Int) :
  (((jaP (jav ws fd [1]).2 fd 1).1.2.2=0\/(jaP (jav ws fd [1]).2 fd 1).1.2.2=115\/(jaq (jaP (jav ws fd [1]).2 fd 1).2 fd).1.2.2=0\/(jaq (jaP (jav ws fd [1]).2 fd 1).2 fd).1.2.2=112)↔(rdyS ws fd).inn=true) /\
  ((jav ws fd [1]).1.2=113->(rdyS ws fd).out=false)/\((jav ws fd [1]).1.2=0->(rdyS ws fd).out=true):=by
 have K1:WsK (jav ws fd [1]).2:=jg4 K
 have K2:WsK (jaP (jav ws fd [1]).2 fd 1).2:=jiv K1
 by_cases h : ∃ n k,AtW ws n k fd
 case neg=>
  have h0 : ∀ n k,¬ AtW ws n k fd:=fun n k a=>h ⟨n,k,a⟩
  have h1:=jnD (jg3 (ws:=ws) (fd:=fd) (b:=[1])) h0
  have h2:=jnD (jiu (ws:=(jav ws fd [1]).2) (fd:=fd) (many:=1)) h1
  have e1:jav ws fd [1]=_:=ja0 h0
  have e2:jaP (jav ws fd [1]).2 fd 1=_:=ja0 h1
  have e3:jaq (jaP (jav ws fd [1]).2 fd 1).2 fd=_:=ja0 h2
  have e4:rdyS ws fd=_:=ja0 h0
  rw [e3,e4]
  have e2':=congrArg (fun r=>r.1.2.2) e2
  have e1':=congrArg (fun r=>r.1.2) e1
  dsimp only at e1' e2'
  rw [e1',e2']
  simp [Rdy.no]
 obtain ⟨n,k,a⟩:=h
 obtain ⟨x,hx,hk,h1,h2⟩:=id a
 obtain ⟨y,a1,hy,s1⟩:=writeS_at (b:=[1]) K.ok.uniq a hx
 obtain ⟨z,a2,hz,s2⟩:=readS_at (many:=1) K1.ok.uniq a1 hy
 have e4:rdyS ws fd=x.rdy k:=jaz K.ok.uniq a hx
 have e3:jaq (jaP (jav ws fd [1]).2 fd 1).2 fd=_:=jaz K2.ok.uniq a2 hz
 have e2:jaP (jav ws fd [1]).2 fd 1=_:=jaz K1.ok.uniq a1 hy
 have e1:jav ws fd [1]=_:=jaz K.ok.uniq a hx
 have hxm:=List.mem_of_getElem? hx
 have b0:=(K.ok.ok x hxm).bl
 rw [e4]
 by_cases hb:0<x.backlog
 ·
  obtain ⟨q1,q2,q3⟩:=l x hxm hb
  have hk0:k=0:=by
   rcases hk with rfl | rfl
   ·rfl
   ·have h1:x.e1.what=1:=h1
    omega
  subst hk0
  have w1:(jav ws fd [1]).1.2=111:=by
   rw [e1,if_pos (show (x.e 0).writes=false from q3)]
  have r1:(jaP (jav ws fd [1]).2 fd 1).1.2.2=111:=by
   rw [e2,s1.ring,show (x.e 0).ring=none from q2]
  have r4:(x.rdy 0).inn = !x.waiting.isEmpty/\(x.rdy 0).out=false:=by
   unfold Wi.rdy;rw [if_pos hb];exact ⟨rfl,rfl⟩
  have zb:z.backlog=x.backlog:=by rw [s2.bl,s1.bl]
  have zw:z.waiting=x.waiting:=by rw [s2.wt,s1.wt]
  have g1:(jaq (jaP (jav ws fd [1]).2 fd 1).2 fd).1.2.2=0\/(jaq (jaP (jav ws fd [1]).2 fd 1).2 fd).1.2.2=112↔x.waiting.isEmpty=false:=by
   rw [e3,if_neg om,zw]
   cases hw:x.waiting with
   | nil=>simp
   | cons m rest=>
    simp only [List.isEmpty_cons]
    refine ⟨fun _=>trivial,fun _=>?_⟩
    split
    ·exact .inr rfl
    ·split
     ·exact .inr rfl
     ·exact .inl rfl
  rw [w1,r1,r4.1,r4.2]
  refine ⟨⟨fun h=>?_,fun h=>.inr (.inr (g1.2 (by simpa using h)))⟩,fun h=>by omega,fun h=>by omega⟩
  rcases h with h | h | h
  ·omega
  ·omega
  ·rw [g1.1 h];rfl
 have hb0:x.backlog=0:=by omega
 have g1:(jaq (jaP (jav ws fd [1]).2 fd 1).2 fd).1.2.2=111:=by
  rw [e3,if_pos (by rw [s2.bl,s1.bl,hb0])]
 have rr:(x.rdy k).inn=x.rIn k/\(x.rdy k).out=x.rOut k:=by unfold Wi.rdy;rw [if_neg hb];exact ⟨rfl,rfl⟩
 rw [g1,rr.1,rr.2]
 refine ⟨?_,?_⟩
 ·rw [e2,s1.ring,s1.reset,s1.silent]
  unfold Wi.rIn
  cases hq:(x.e k).ring with
  | none=>simp
  | some q=>
   simp only
   rw [if_neg om]
   by_cases hr:x.reset=true
   ·simp [hr]
   ·rw [if_neg hr]
    by_cases hn:q=[]
    ·subst hn
     rw [if_neg (by simp)]
     have es:x.silent k=((x.e (1-k)).what == 3||(x.e (1-k)).shut):=rfl
     rw [es]
     cases (x.e (1-k)).what == 3<;>cases (x.e (1-k)).shut<;>simp [hr]
    ·rw [if_pos hn]
     have:q.isEmpty=false:=by cases q;exact absurd rfl hn;rfl
     simp [this]
 ·rw [e1]
  unfold Wi.rOut
  by_cases hw:(x.e k).writes=false
  ·rw [if_pos hw,hw];simp
  rw [if_neg hw]
  have hw:(x.e k).writes=true:=by simpa using hw
  by_cases hr:x.reset=true
  ·rw [if_pos hr];simp
  rw [if_neg hr]
  by_cases hs:(x.e k).shut=true\/(x.e (1-k)).what=3
  ·rw [if_pos hs];simp
  rw [if_neg hs,if_neg (by simp)]
  cases hq:(x.e (1-k)).ring with
  | none=>simp
  | some q=>
   simp only [Option.getD_some,List.length_singleton]
   have hsh:(x.e k).shut=false:=by
    cases h:(x.e k).shut
    ·rfl
    ·exact absurd (.inl h) hs
   have hwh:((x.e (1-k)).what == 3)=false:=by
    rw [beq_eq_false_iff_ne];exact fun h=>hs (.inr h)
   by_cases hm:min 1 (x.cap-q.length)=0
   ·rw [if_pos hm,hw,hsh,hwh]
    simp [hr]
    omega
   ·rw [if_neg hm,hw,hsh,hwh]
    simp [hr]
    omega
end Am.Sigs
namespace Am.Sigs
open Am Go
def stw0:WsL st0.ws:=fun x hx=>by cases hx
theorem fdsL_mem {ws:Ws} {n:Nat} {f:Int} (h:f∈fdsL ws n) : ∃ m:Nat,f=(m:Int)/\m<n:=by
 unfold fdsL at h
 obtain ⟨m,hm,rfl⟩:=List.mem_map.1 h
 exact ⟨m,rfl,List.mem_range.1 (List.mem_filter.1 hm).1⟩
theorem jni {ws:Ws} {n i:Nat} {f:Int} (h:(fdsL ws n)[i]?=some f) : ∃ m:Nat,f=(m:Int)/\m<n:=fdsL_mem (List.mem_of_getElem? h)
def jmw (ws:Ws) (F:List Int) (cs:List V):Prop:=cs.length=672 /\ ∀ m:Nat,(m:Int)∈F->m<96 -> ∀ k,k<7->cs[m*7+k]?=(rdyS ws (m:Int)).cells[k]?
theorem jmw.put {ws:Ws} {F:List Int} {cs:List V} (a:jmw ws F cs) {m:Nat} (hm:m<96):jmw ws (F++[(m:Int)]) (jar cs (m*7) (rdyS ws (m:Int)).cells):=by
 have hl:(rdyS ws (m:Int)).cells.length=7:=rfl
 refine ⟨by rw [jdu,a.1],fun m' hm' h96 k hk=>?_⟩
 rw [jdl _ _ _ _ (by rw [hl,a.1];omega)]
 by_cases e:m'=m
 ·subst e
  rw [if_pos (by rw [hl];omega),show m'*7+k-m'*7=k by omega]
 ·rw [if_neg (by rw [hl];omega)]
  rcases List.mem_append.1 hm' with h | h
  ·exact a.2 m' h h96 k hk
  ·have:(m':Int)=m:=by simpa using h
   omega
section
variable {cl:Nat->Call} (hcl:Sem cl)
include hcl
theorem rise_ok {d b6 b12 m:Nat} {fd:Int} {h:H} {K:List Fr} {Q:Post} {cs:List V} {A B:Rdy} (hfd:fd=(m:Int)) (hm:m<96)
  (k6:Kc h b6 cs false) (hA : ∀ k,k<7->cs[m*7+k]?=A.cells[k]?) (k12:Kc h b12 B.cells false)
  (rise:A.op=true->B.op=true->(B.inn=true->A.inn=false->B.rd≠A.rd)/\(B.out=true->A.out=false->B.wr≠A.wr))
  {l0 l1 l2 l3 l4 l5 l6 l7:V}
  (k : ∀ x,End (cl d) fuel K .normal [(0,l0),(3,l1),(4,l2),(6,.p b6 0),(37,l3),(38,l4),(72,l5),(73,l6),(74,l7),(150,x)] h Q) :
  Run (cl d) fuel c3_8 K [(0,l0),(3,l1),(4,l2),(6,.p b6 0),(11,.i fd),(12,.p b12 0),(37,l3),(38,l4),(72,l5),(73,l6),(74,l7)] h Q:=by
 subst hfd
 obtain ⟨a0,a1,a2,a3,a4,a5,a6⟩:=A
 obtain ⟨c0,c1,c2,c3,c4,c5,c6⟩:=B
 have hI : ∀ k,k<7->cs[0+(m:Int).toNat*7+k]?=(Rdy.cells ⟨a0,a1,a2,a3,a4,a5,a6⟩)[k]?:=fun k hk=>by rw [Int.toNat_natCast,Nat.zero_add];exact hA k hk
 have i0:_=some (V.bool a0):=hI 0 om
 have i1:_=some (V.bool a1):=hI 1 om
 have i2:_=some (V.bool a2):=hI 2 om
 have i5:_=some (V.int .u64 a5):=hI 5 om
 have i6:_=some (V.int .u64 a6):=hI 6 om
 have ok:=Old.refl h
 clear hI hA
 dsimp only at rise
 cases a0
 ·clear rise
  refine qz1 ?_
  exact k _
 cases c0
 ·clear rise
  refine qz1 ?_
  exact k _
 obtain ⟨r1,r2⟩:=rise rfl rfl
 clear rise
 by_cases h5:c5>=a5
 case neg=>
  clear r1 r2
  refine qz1 ?_
  exact k _
 by_cases h6:c6>=a6
 case neg=>
  clear r1 r2
  refine qz1 ?_
  exact k _
 cases c1
 case false=>
  clear r1
  cases c2
  ·clear r2
   refine qz1 ?_
   exact k _
  cases a2
  case true=>
   clear r2
   refine qz1 ?_
   exact k _
  have r2:=r2 rfl rfl
  refine qz1 ?_
  exact k _
 cases a1
 case true=>
  clear r1
  cases c2
  ·clear r2
   refine qz1 ?_
   exact k _
  cases a2
  case true=>
   clear r2
   refine qz1 ?_
   exact k _
  have r2:=r2 rfl rfl
  refine qz1 ?_
  exact k _
 have r1:=r1 rfl rfl
 cases c2
 ·clear r2
  refine qz1 ?_
  exact k _
 cases a2
 case true=>
  clear r2
  refine qz1 ?_
  exact k _
 have r2:=r2 rfl rfl
 refine qz1 ?_
 exact k _
end
end Am.Sigs
namespace Am.Sigs
open Am Go
theorem _root_.Am.Kc.to {h h':H} {ow ow':Nat->Nat} {b:Nat} {l:List V} {ro:Bool} (k:Kc h b l ro) (t:To h h' ow ow') (hb:ow b=0):Kc h' b l ro :=
 ⟨Nat.lt_of_lt_of_le k.lt t.ch.nx,by rw [t.ch.get b k.lt fun e=>e hb,k.at_]⟩
section
variable {call:Call} {fuel base:Nat} {K:List Fr} {e:Env} {h h' h0:H} {Q:Post} {ops:List Ins} {keep:List Nat}
theorem Ops.mkN {x:Opd} {vs zero:List V} {d i1 i2 n:Nat} (hz:zero.length=n) (hl:vs.length=n) (ho:vs.all V.one=true) (hx:x.ev ((d,.p h.nx 0) :: e)=some (.agg vs))
  (kk : ∀ H5,Old h H5->Kc H5 h.nx vs false->H5.nx=h.nx+1->Ops call fuel base ops keep K (layv ((d,.p h.nx 0) :: e) none .undef) H5 Q) :
  Ops call fuel base (⟨i1,some d,.alloc n zero,none,none,[]⟩ :: ⟨i2,none,.store n (.t d) x,none,none,[]⟩ :: ops) keep K e h Q:=by
 refine Ops.make rfl rfl ?_
 refine Ops.storeN (b:=h.nx) (o:=0) (l:=zero) (by simp [layv,Opd.ev,Env.get]) hx hl ho (jad _) om ?_
 rw [jan vs zero om]
 exact kk _ ((Old.refl h).new.set (Nat.le_refl _)) ⟨Nat.lt_succ_self _,jab _⟩ rfl
end
section
variable {cl:Nat->Call} (hcl:Sem cl)
include hcl
theorem last_chk {d b16:Nat} {h:H} {K:List Fr} {Q:Post} {E U G:Int} {i0 i1 i2 i3 i4:Bool} {i5 i6:Int} (k16:Kc h b16 (Rdy.cells ⟨i0,i1,i2,i3,i4,i5,i6⟩) false) (h1:(U=0\/U=115\/G=0\/G=112)↔i1=true) (h2:E=113->i2=false) (h3:E=0->i2=true)
  {l0 l1 l2 l3 l4:V} (k : ∀ x,End (cl d) fuel K .normal [(3,l0),(4,l1),(157,l2),(158,l3),(159,l4),(233,x)] h Q) :
  Run (cl d) fuel c3_1 K [(3,l0),(4,l1),(16,.p b16 0),(18,.i E),(21,.i U),(24,.i G),(157,l2),(158,l3),(159,l4)] h Q:=by
 have ok:=Old.refl h
 by_cases c1:U=0
 ·have hi:=h1.1 (.inl c1)
  subst hi
  clear h1
  by_cases hE:E=113
  ·have ho:=h2 hE
   subst ho
   clear h3
   refine qz1 ?_
   exact k _
  by_cases hE0:E=0
  ·have ho:=h3 hE0
   subst ho
   clear h2
   refine qz1 ?_
   exact k _
  clear h2 h3
  refine qz1 ?_
  exact k _
 by_cases c2:U=115
 ·have hi:=h1.1 (.inr (.inl c2))
  subst hi
  clear h1
  by_cases hE:E=113
  ·have ho:=h2 hE
   subst ho
   clear h3
   refine qz1 ?_
   exact k _
  by_cases hE0:E=0
  ·have ho:=h3 hE0
   subst ho
   clear h2
   refine qz1 ?_
   exact k _
  clear h2 h3
  refine qz1 ?_
  exact k _
 by_cases c3:G=0
 ·have hi:=h1.1 (.inr (.inr (.inl c3)))
  subst hi
  clear h1
  by_cases hE:E=113
  ·have ho:=h2 hE
   subst ho
   clear h3
   refine qz1 ?_
   exact k _
  by_cases hE0:E=0
  ·have ho:=h3 hE0
   subst ho
   clear h2
   refine qz1 ?_
   exact k _
  clear h2 h3
  refine qz1 ?_
  exact k _
 by_cases c4:G=112
 ·have hi:=h1.1 (.inr (.inr (.inr c4)))
  subst hi
  clear h1
  have hn : ¬ (decide (G=112)≠true):=by simp [c4]
  by_cases hE:E=113
  ·have ho:=h2 hE
   subst ho
   clear h3
   refine qz1 ?_
   exact k _
  by_cases hE0:E=0
  ·have ho:=h3 hE0
   subst ho
   clear h2
   refine qz1 ?_
   exact k _
  clear h2 h3
  refine qz1 ?_
  exact k _
 have hi:i1=false:=by
  cases i1
  ·rfl
  ·rcases h1.2 rfl with h | h | h | h
   ·exact absurd h c1
   ·exact absurd h c2
   ·exact absurd h c3
   ·exact absurd h c4
 subst hi
 clear h1
 have hn : ¬ (decide (G=112)≠false):=by simp [c4]
 by_cases hE:E=113
 ·have ho:=h2 hE
  subst ho
  clear h3
  refine qz1 ?_
  exact k _
 by_cases hE0:E=0
 ·have ho:=h3 hE0
  subst ho
  clear h2
  refine qz1 ?_
  exact k _
 clear h2 h3
 refine qz1 ?_
 exact k _
theorem last_ok {d p w s rw:Nat} {h:H} {ow:Nat->Nat} {ws:Ws} {now:Int} {tb:Tb} {no:Option (Nat × Nat)} (hd:16<=d) (a:WSt h w s ow ws now tb no) (K:WsK ws) (l:WsL ws) (kp:Kc h p [.p w 0,.p rw 0] false) (hop:ow p=0) {l0 l37 l38 l39:V} :
  Run (cl d) fuel c3_19 [] [(0,l0),(3,.bool true),(4,.p p 0),(37,l37),(38,l38),(39,l39)] h (Fin c3.res fun v _=>v = .bool true):=by
 obtain ⟨fv,h1,e1,row,o1⟩:=jnz hcl (d:=d) om a
 have of:=Old.refl h
 obtain ⟨cp,⟨ad,rfl⟩,hix⟩:=row.shape
 have hlen:=jex ws 96
 generalize fdsL ws 96=F at *
 refine qz1 ?_
 have hown : ∀ q,h.nx<=q->ow q=0:=fun q hq=>a.top hq
 replace a:=a.old o1
 replace kp:=kp.old o1
 clear e1 of
 refine Run.loop (fun m e g=>∃ (i:Nat) (ws:Ws),m=F.length-i/\i<=F.length/\e=[(3,.bool true),(4,.p p 0),(157,.slice ad F.length cp),(158,.i (F.length:Int)),(159,.i (i:Int))]/\WSt g w s ow ws now tb no/\WsK ws/\WsL ws/\To h1 g ow ow)
  (k:=F.length) (by show _<100000;omega) ⟨0,ws,rfl,by omega,rfl,a,K,l,To.refl _ _⟩ ?_
 clear a K l ws row
 rintro _ _ g ⟨i,ws,rfl,hi,rfl,a,K,l,to⟩ n2 ih
 by_cases hlt:(i:Int)<F.length
 case neg=>
  clear ih hix
  refine qz1 ?_
  rfl
 obtain ⟨q,y1,y2,y3,y4⟩:=hix i om
 cases y3
 obtain ⟨f,hf⟩:=jkb (l:=F) (i:=i) om
 have kq:=(Kc.mk (ro:=false) y2 y4).to to (hown q y1)
 have kpg:=kp.to to hop
 have hc:(ints F)[0+(i:Int).toNat*1]?=some (.i f):=by rw [show 0+(i:Int).toNat*1=i by omega];simp [hf]
 have hi1:(i:Int)+1=((i+1:Nat):Int):=by omega
 have law:=ready_law K l f
 have K1:WsK (jav ws f [1]).2:=jg4 K
 have K2:WsK (jaP (jav ws f [1]).2 f 1).2:=jiv K1
 have l1:WsL (jav ws f [1]).2:=(jg3.toUp om l).ls
 have l2:WsL (jaP (jav ws f [1]).2 f 1).2:=(jiu.toUp om l1).ls
 have l3:WsL (jaq (jaP (jav ws f [1]).2 f 1).2 f).2:=(jhX K2.ok l2).ls
 have K3:WsK (jaq (jaP (jav ws f [1]).2 f 1).2 f).2:=jfT K2
 obtain ⟨g2,e2,o2⟩:=jeg hcl (d:=d) (fd:=f) om a K.ok
 rw [jeF] at e2
 have og:=Old.refl g
 clear hix hf y4 kp
 refine qz1 ?_
 refine Ops.mkN rfl rfl rfl rfl fun g3 o3 k3 x3=>?_
 have hw3 : ∀ b,g.nx<=b->ow b=0:=fun b hb=>a.top hb
 replace o3:=o2.trans o3
 replace a:=a.old o3
 replace kq:=kq.old o3
 replace kpg:=kpg.old o3
 replace to:=to.trans (To.of_old o3)
 have oz:=o2.1
 clear og e2 o2 o3
 have og:=Old.refl g3
 refine qz1 ?_
 refine Ops.make (ob := .cells [.int .u8 1] false) (mk:=fun b=>.slice (some (b,0)) 1 (.fix 1)) rfl rfl ?_
 have o4:Old g3 (g3.new (.cells [.int .u8 1] false)):=(Old.refl g3).new
 have vb:VB (g3.new (.cells [.int .u8 1] false)) (.slice (some (g3.nx,0)) 1 (.fix 1)) [1]:=⟨some (g3.nx,0),.fix 1,rfl,⟨fun e=>(by cases e),(by simp [Cap.fits]),fun _=>⟨g3.nx,0,_,false,rfl,by simp,jad _,fun i x hi=>by
  match i,hi with
  | 0,hi=>cases hi;rfl⟩⟩⟩
 obtain ⟨g5,e5,a5,t5⟩:=jkS hcl (d:=d) (fd:=f) (b:=[1]) om (a.old o4) K.ok vb (by simp) (fun z hz=>by cases hz;exact hw3 _ om)
 obtain ⟨rv,g6,e6,_,_,a6,t6⟩:=jm3 hcl (d:=d) (fd:=f) (many:=1) om a5 K1.ok
 obtain ⟨g7,e7,a7,t7⟩:=jja hcl (d:=d) (fd:=f) om K2 a6
 have kp5:=(kpg.old o4).to t5 hop
 have kp6:=kp5.to t6 hop
 have kp7:=kp6.to t7 hop
 have k16:=((((k3.old o4).to t5 (hw3 _ oz)).to t6 (hw3 _ oz)).to t7 (hw3 _ oz))
 have to7:=(((to.trans (To.of_old o4)).trans t5).trans t6).trans t7
 have of5:=Old.refl g5
 have of6:=Old.refl g6
 obtain ⟨C,hC⟩ : ∃ C,C=c3_1:=⟨_,rfl⟩
 simp only [c3_4,c3_3,c3_2,<- hC]
 generalize g3.new (.cells [.int .u8 1] false)=g4 at *
 have of4:=Old.refl g4
 have kp4:=kpg.old o4
 clear a a5 a6 K K1 K2 l l1 l2 t5 t6 t7 kpg k3 to og kq vb hw3 oz
 generalize (jav ws f [1]).1.2=E at *
 generalize (jav ws f [1]).1.1=E1 at *
 generalize (jaP (jav ws f [1]).2 f 1).1.2.2=U at *
 generalize (jaP (jav ws f [1]).2 f 1).1.2.1=U1 at *
 generalize jaq (jaP (jav ws f [1]).2 f 1).2 f=AA at *
 obtain ⟨⟨A1,A2,G⟩,ws3⟩:=AA
 dsimp only at *
 refine qz1 ?_
 rw [hC]
 obtain ⟨law1,law2,law3⟩:=law
 generalize rdyS ws f=r at *
 obtain ⟨i0,i1,i2,i3,i4,i5,i6⟩:=r
 refine last_chk hcl k16 law1 law2 law3 fun x=>?_
 refine qz1 ?_
 rw [hi1]
 exact ih (F.length-(i+1)) om _ _ ⟨i+1,ws3,rfl,by omega,rfl,a7,K3,l3,to7⟩
end
end Am.Sigs
namespace Am.Sigs
open Am Go
theorem _root_.Am.Kc.off {h h':H} {B:Nat->Prop} {b:Nat} {l:List V} {ro:Bool} (k:Kc h b l ro) (t:Ch B h h') (hb : ¬ B b):Kc h' b l ro :=
 ⟨Nat.lt_of_lt_of_le k.lt t.nx,by rw [t.get b k.lt hb,k.at_]⟩
section
variable {cl:Nat->Call} (hcl:Sem cl)
include hcl
theorem was_ok {d p w s rw b6:Nat} {h:H} {ow:Nat->Nat} {ws:Ws} {now:Int} {tb:Tb} {no:Option (Nat × Nat)} {Z:List V} (hd:16<=d) (a:WSt h w s ow ws now tb no) (o:WsOk ws) (kp:Kc h p [.p w 0,.p rw 0] false) (hp6:p≠b6) (k6:Kc h b6 Z false) (hZ:Z.length=672) (h6:ow b6=0)
  {K:List Fr} {Q:Post} {l0 l1 l3 l4 l5:V}
  (k : ∀ G cs x1 x2 x3 x4,Ch (fun j=>j=b6) h G->jmw ws (fdsL ws 96) cs->Kc G b6 cs false->Run (cl d) fuel c3_15 K [(0,l0),(3,l1),(4,.p p 0),(5,l5),(6,.p b6 0),(37,l3),(38,l4),(45,x1),(46,x2),(47,x3),(48,x4)] G Q) :
  Run (cl d) fuel c3_16 K [(0,l0),(3,l1),(4,.p p 0),(5,l5),(6,.p b6 0),(37,l3),(38,l4)] h Q:=by
 have hl0:=k6.lt
 obtain ⟨fv,h1,e1,row,o1⟩:=jnz hcl (d:=d) om a
 have of:=Old.refl h
 obtain ⟨cp,⟨ad,rfl⟩,hix⟩:=row.shape
 have hlen:=jex ws 96
 have hmem:=fun (i:Nat) (f:Int) (h:(fdsL ws 96)[i]?=some f)=>jni h
 generalize fdsL ws 96=F at *
 obtain ⟨C,hC⟩ : ∃ C,C=c3_15:=⟨_,rfl⟩
 rw [<- hC] at k
 simp only [c3_16,<- hC]
 refine qz1 ?_
 have hw : ∀ b,h.nx<=b->ow b=0:=fun b hb=>a.top hb
 replace a:=a.old o1
 replace kp:=kp.old o1
 replace k6:=k6.old o1
 clear e1 of hC
 have hl6:=k6.lt
 refine Run.loop (fun m e g=>∃ (i:Nat) (cs:List V),m=F.length-i/\i<=F.length/\e=[(0,l0),(3,l1),(4,.p p 0),(5,l5),(6,.p b6 0),(37,l3),(38,l4),(45,.slice ad F.length cp),(46,.i (F.length:Int)),(47,.i (i:Int))]/\Ch (fun j=>j=b6) h1 g/\Kc g b6 cs false/\jmw ws (F.take i) cs)
  (k:=F.length) (by show _<100000;omega) ⟨0,Z,rfl,by omega,rfl,Ch.refl _ _,k6,hZ,fun m hm=>by simp at hm⟩ ?_
 clear row k6 hZ Z
 rintro _ _ g ⟨i,cs,rfl,hi,rfl,ch,k6,wa⟩ n2 ih
 by_cases hlt:(i:Int)<F.length
 case neg=>
  obtain rfl:i=F.length:=by omega
  rw [List.take_length] at wa
  have k2:=fun x1 x2 x3 x4=>k g cs x1 x2 x3 x4 (o1.ch.trans ch) wa k6
  clear ih hix k hmem
  refine qz1 ?_
  exact k2 _ _ _ _
 clear k
 obtain ⟨q,y1,y2,y3,y4⟩:=hix i om
 cases y3
 obtain ⟨f,hf⟩:=jkb (l:=F) (i:=i) om
 obtain ⟨m,rfl,hm⟩:=hmem i f hf
 have hq6:q≠b6:=by omega
 have kq:=(Kc.mk (ro:=false) y2 y4).off ch hq6
 have kpg:=kp.off ch hp6
 have hc:(ints F)[0+(i:Int).toNat*1]?=some (.i (m:Int)):=by rw [show 0+(i:Int).toNat*1=i by omega];simp [hf]
 have hi1:(i:Int)+1=((i+1:Nat):Int):=by omega
 have ag:WSt g w s ow ws now tb no:=a.keep ch.nx fun j hj=>ch.get j (a.lt_of hj) (fun e=>hj (by rw [e,h6]))
 obtain ⟨g2,e2,o2⟩:=jeg hcl (d:=d) (fd:=(m:Int)) om ag o
 rw [jeF] at e2
 have wa2:=wa.put (m:=m) hm
 have ht:F.take (i+1)=F.take i++[(m:Int)]:=by rw [List.take_add_one,hf];rfl
 rw [<- ht] at wa2
 have k62:=k6.old o2
 have og:=Old.refl g
 have z0:(0:Int)<=(m:Int)/\(m:Int)<((96:Nat):Int):=by omega
 have hcl6:=wa.1
 have e6:0+(m:Int).toNat*7=m*7:=by omega
 clear hix hf y4 kp hmem wa ht
 refine qz1 ?_
 refine Ops.storeN (b:=b6) (o:=0+(m:Int).toNat*7) (l:=cs) (vs:=(rdyS ws (m:Int)).cells) rfl rfl rfl rfl k62.at_ om ?_
 rw [e6]
 refine qz1 ?_
 rw [hi1]
 refine ih (F.length-(i+1)) om _ _ ⟨i+1,_,rfl,by omega,rfl,(ch.trans o2.ch).trans (Ch.set rfl),⟨k62.lt,jab _⟩,wa2⟩
theorem rest_ok {d i n p w s rw b6 b:Nat} {h0 G:H} {ow:Nat->Nat} {ro:Nat->Prop} {st:St} {x:OpX} {cs cl':List V} {ro':Bool} {c:Cap} (hd:17<=d) (bx:BX h0 G p w s rw ow ro st i) (hi:i<=200) (hin:i<n) (hx:OpOk h0 x) (hl:x.D.length<=300) (l:WsL st.ws)
  (k6:Kc G b6 cs false) (wa:jmw st.ws (fdsL st.ws 96) cs) (h6:ow b6=0) (h6r : ¬ ro b6) (kb:Kc h0 b cl' ro') (hcn:cl'.length=n*5) (h5:(cl'.drop (0+(i:Int).toNat*5)).take 5=x.V)
  {K:List Fr} {Q:Post} {l3 l4 x1 x2 x3 x4:V}
  (k : ∀ g ow' ro'' y6 y1 y2 y3 y4,BX h0 g p w s rw ow' ro'' (doS x.k x.a x.n x.t x.D st) (i+1)->WsL (doS x.k x.a x.n x.t x.D st).ws->End (cl d) fuel K .normal [(0,.slice (some (b,0)) n c),(3,.bool true),(4,.p p 0),(6,y6),(37,l3),(38,l4),(72,y1),(73,y2),(74,y3),(75,y4)] g Q) :
  Run (cl d) fuel c3_15 K [(0,.slice (some (b,0)) n c),(3,.bool true),(4,.p p 0),(5,.i (i:Int)),(6,.p b6 0),(37,l3),(38,l4),(45,x1),(46,x2),(47,x3),(48,x4)] G Q:=by
 obtain ⟨lr,R,er⟩:=bx.b.R
 obtain ⟨q0,_,k0⟩:=R.ex
 have wr:=k0 G rfl fun _ _ _=>rfl
 obtain ⟨fv,g1,e1,row,o1⟩:=rq_Fds hcl (d:=d) om wr (by rw [er];exact bx.so.K.ok)
 rw [er] at row
 have kp:Kc G p [.p w 0,.p rw 0] false:=⟨bx.b.lp,bx.b.hp⟩
 have bx1:=bx.old' o1
 obtain ⟨g2,ow2,ro2,e2,bx2,f2⟩:=joj hcl (d:=d) om bx1 hi hx hl
 have up:=doS_up (k:=x.k) (a:=x.a) (n:=x.n) (t:=x.t) (D:=x.D) bx.so l
 have u1:=bx.so.K.ok.uniq
 have u2:=bx2.so.K.ok.uniq
 have off : ∀ j,G.nx<=j -> ¬ (ow j≠0\/ro j):=fun j hj hh=>by
  rcases hh with hh | hh
  ·exact hh (bx.b.W.top hj)
  ·have:=bx.b.ro_lt (.inl hh);omega
 have k62:=(k6.old o1).off f2.ch (fun hh=>hh.elim (fun e=>e h6) h6r)
 have row2:Row G.nx g2 1 fv (fdsL st.ws 96).length (ints (fdsL st.ws 96)):=row.keep f2.ch.nx fun q hq=>by
  obtain ⟨q1,q2⟩:=row.at_ge hq
  rw [f2.ch.get q q2 (off q q1)]
 have kbG:=(kb.old bx.old).old o1
 obtain ⟨cp,⟨ad,rfl⟩,hix⟩:=row2.shape
 have hlen:=jex st.ws 96
 have hmem:=fun (i:Nat) (f:Int) (h:(fdsL st.ws 96)[i]?=some f)=>jni h
 have of:=Old.refl G
 have of1:=Old.refl g1
 have kp1:=kp.old o1
 have hi0:0<=(i:Int)/\(i:Int)<(n:Int):=by omega
 obtain ⟨C,hC⟩ : ∃ C,C=c3_8:=⟨_,rfl⟩
 clear bx R k0 wr row kb hx off bx1
 refine qz1 ?_
 refine Ops.loadN rfl kbG.at_ om ?_
 rw [h5]
 refine qz1 ?_
 have l2:=up.ls
 have rise:=fun (fd:Int) h1 h2=>up.rise (fd:=fd) u1 u2 h1 h2
 have W2:=bx2.b.W
 have K2:=bx2.so.K
 have kp2:Kc g2 p [.p w 0,.p rw 0] false:=⟨bx2.b.lp,bx2.b.hp⟩
 generalize hst:doS x.k x.a x.n x.t x.D st=st' at *
 have hF:=fun (m:Nat) (h:(m:Int)∈fdsL st.ws 96) h96=>wa.2 m h h96
 generalize fdsL st.ws 96=F at *
 clear e1 e2 up u1 u2 of of1 kp kp1 row2 k6 wa h5 hl hcn kbG f2 o1 er hst
 refine Run.loop (fun m e g=>∃ (j:Nat),m=F.length-j/\j<=F.length/\e=[(0,.slice (some (b,0)) n c),(3,.bool true),(4,.p p 0),(6,.p b6 0),(37,l3),(38,l4),(72,.slice ad F.length cp),(73,.i (F.length:Int)),(74,.i (j:Int))]/\Old g2 g)
  (k:=F.length) (by show _<100000;omega) ⟨0,rfl,by omega,rfl,Old.refl _⟩ ?_
 rintro _ _ g ⟨j,rfl,hj,rfl,og⟩ n2 ih
 by_cases hlt:(j:Int)<F.length
 case neg=>
  have k3:=fun y6 y1 y2 y3 y4=>k g ow2 ro2 y6 y1 y2 y3 y4 (bx2.old' og) l2
  clear ih hix k hmem hF rise
  refine qz1 ?_
  exact k3 _ _ _ _ _
 clear k bx2
 obtain ⟨q,y1,y2,y3,y4⟩:=hix j om
 cases y3
 obtain ⟨f,hf⟩:=jkb (l:=F) (i:=j) om
 obtain ⟨m,rfl,hm⟩:=hmem j f hf
 have kq:=(Kc.mk (ro:=false) y2 y4).old og
 have kpg:=kp2.old og
 have hc:(ints F)[0+(j:Int).toNat*1]?=some (.i (m:Int)):=by rw [show 0+(j:Int).toNat*1=j by omega];simp [hf]
 have hj1:(j:Int)+1=((j+1:Nat):Int):=by omega
 obtain ⟨g3,e3,o3⟩:=jeg hcl (d:=d) (fd:=(m:Int)) om (W2.old og) K2.ok
 rw [jeF] at e3
 have hA:=hF m (List.mem_of_getElem? hf) hm
 have rise:=rise (m:Int)
 have o0:=Old.refl g
 clear hix hf y4 kp2 hmem hF
 simp only [c3_10,c3_9,<- hC]
 refine qz1 ?_
 refine Ops.mkN rfl rfl rfl rfl fun g4 o4 k12 x4=>?_
 clear e3
 refine qz1 ?_
 rw [hC]
 have o6:=og.trans (o3.trans o4)
 refine rise_ok hcl rfl hm (k62.old o6) hA k12 rise fun x=>?_
 clear rise
 refine qz1 ?_
 rw [hj1]
 exact ih (F.length-(j+1)) om _ _ ⟨j+1,rfl,by omega,rfl,o6⟩
theorem round_ok {d i n p w s rw b:Nat} {h0 G:H} {ow:Nat->Nat} {ro:Nat->Prop} {st:St} {x:OpX} {cl':List V} {ro':Bool} {c:Cap} (hd:17<=d) (bx:BX h0 G p w s rw ow ro st i) (hi:i<=200) (hin:i<n) (hx:OpOk h0 x) (hl:x.D.length<=300) (l:WsL st.ws)
  (kb:Kc h0 b cl' ro') (hcn:cl'.length=n*5) (h5:(cl'.drop (0+(i:Int).toNat*5)).take 5=x.V)
  {K:List Fr} {Q:Post} {l3 l39:V}
  (k : ∀ g ow' ro'' y6 y1 y2 y3 y4,BX h0 g p w s rw ow' ro'' (doS x.k x.a x.n x.t x.D st) (i+1)->WsL (doS x.k x.a x.n x.t x.D st).ws->End (cl d) fuel K .normal [(0,.slice (some (b,0)) n c),(3,.bool true),(4,.p p 0),(6,y6),(37,l3),(38,.i (i:Int)),(72,y1),(73,y2),(74,y3),(75,y4)] g Q) :
  Run (cl d) fuel c3_17 K [(0,.slice (some (b,0)) n c),(3,.bool true),(4,.p p 0),(37,l3),(38,.i (i:Int)),(39,l39)] G Q:=by
 obtain ⟨C,hC⟩ : ∃ C,C=c3_16:=⟨_,rfl⟩
 obtain ⟨Z,hZ⟩ : ∃ Z,Z=(List.replicate 96 ([.bool false,.bool false,.bool false,.bool false,.bool false,.int .u64 0,.int .u64 0]:List V)).flatten:=⟨_,rfl⟩
 have hZl:Z.length=672:=by rw [hZ];kernel_rfl
 simp only [c3_17,<- hC,<- hZ]
 refine qz1 ?_
 refine Ops.make (ob := .cells Z false) (mk:=fun b=>.p b 0) rfl rfl ?_
 have oG:Old G (G.new (.cells Z false)):=(Old.refl G).new
 have k6:Kc (G.new (.cells Z false)) G.nx Z false:=⟨by simp,jad _⟩
 have kp:Kc (G.new (.cells Z false)) p [.p w 0,.p rw 0] false:=Kc.old ⟨bx.b.lp,bx.b.hp⟩ oG
 have hpn:p≠G.nx:=by have:=bx.b.lp;omega
 have h6:=bx.b.W.top (Nat.le_refl G.nx)
 have h6r : ¬ ro G.nx:=fun hh=>by have:=bx.b.ro_lt (.inl hh);omega
 have bx1:=bx.old' oG
 have W:=bx1.b.W
 have o:=bx1.so.K.ok
 change Ops _ _ _ _ _ _ _ (G.new (.cells Z false)) _
 generalize hG1:G.new (.cells Z false)=G1 at *
 refine qz1 ?_
 rw [hC]
 refine was_ok hcl om W o kp hpn k6 hZl h6 fun G2 cs x1 x2 x3 x4 ch wa k62=>?_
 have b2:BX h0 G2 p w s rw ow ro st i:=⟨bx1.b.off ch.nx fun j hj ho=>ch.get j hj fun e=>by
   have e:j=G.nx:=e
   subst e
   rcases ho with ho | ho | ho | ho
   ·exact ho h6
   ·exact h6r ho
   ·have:=bx.old.1
    have ho:G.nx<h0.nx:=ho
    omega
   ·exact hpn ho.symm,bx1.so,⟨Nat.le_trans bx1.old.1 ch.nx,fun j hj=>by
   rw [ch.get j (Nat.lt_of_lt_of_le hj bx1.old.1) (fun e=>by have e:j=G.nx:=e;have:=bx.old.1;omega),bx1.old.2 j hj]⟩,bx1.own,bx1.lp⟩
 exact rest_ok hcl hd b2 hi hin hx hl l k62 wa h6 h6r kb hcn h5 k
end
end Am.Sigs
namespace Am.Sigs
open Am Go
section
variable {cl:Nat->Call} (hcl:Sem cl)
theorem jkN:ran (jbE prog fuel 30 (.fn F.jdS) [] ⟨201,.lf⟩) (jiT 239)=true:=by kernel_rfl
include hcl
theorem jib {h0:H} (hnx:h0.nx=201) (hwf : ∀ b,201<=b->h0.get b=none) {l:List (Int × Int × Int × Int × List Int × Unit)} {u1:V} (rl:jc3 200 jmW h0 l [u1]) :
  ∃ h',cl 31 (.fn F.jbK) [u1] h0=some (.bool true,h'):=by
 suffices q : ∃ v h',cl 31 (.fn F.jbK) [u1] h0=some (v,h')/\v = .bool true by
  obtain ⟨_,h',e,rfl⟩:=q;exact ⟨h',e⟩
 obtain ⟨h1,ea,x1,wf1,k1⟩:=jjW hcl jkN hnx hwf om
 obtain ⟨L,_,hL0⟩:=jlm rl
 have hL:=hL0.keep (h':=h1) om fun j o _ hj=>k1 j o hj
 obtain ⟨gv,eg,hg⟩:=joi hcl (d:=30) om hL
 clear rl hL0 k1 hwf
 refine at_ hcl om rfl rfl rfl ?_
 rcases hg with rfl | ⟨rfl,hfew⟩
 ·clear hL
  refine qz1 ?_
  rfl
 obtain ⟨p,w,s,rw,ow,ro,h2,e2,b2⟩:=jln hcl (d:=30) om h1 (by rw [x1];exact wf1)
 obtain ⟨ad,c,rfl,hin⟩:=hL
 obtain ⟨hok,hel⟩:=hin hfew.1
 have hfl:=hfew.1
 clear wf1
 refine qz1 ?_
 refine Run.loop (fun m e g=>∃ (i:Nat) (ow:Nat->Nat) (ro:Nat->Prop),m=L.length-i/\i<=L.length/\e=[(0,.slice ad L.length c),(3,.bool true),(4,.p p 0),(37,.i (L.length:Int)),(38,.i (i:Int))]/\BX h1 g p w s rw ow ro (runS (L.take i) st0) i/\WsL (runS (L.take i) st0).ws)
  (k:=L.length) (by show _<100000;omega) ⟨0,ow,ro,rfl,by omega,rfl,b2,stw0⟩ ?_
 clear b2 e2 eg ea ow ro h2
 rintro _ _ g ⟨i,ow,ro,rfl,hi,rfl,bx,wl⟩ n2 ih
 by_cases hlt:(i:Int)<L.length
 case neg=>
  obtain ⟨C,hC⟩ : ∃ C,C=c3_19:=⟨_,rfl⟩
  rw [<- hC]
  have a:=bx.b.W
  have K:=bx.so.K
  have kp:Kc g p [.p w 0,.p rw 0] false:=⟨bx.b.lp,bx.b.hp⟩
  have hop:=bx.b.op
  clear ih hel hok bx
  refine qz1 ?_
  rw [hC]
  exact last_ok hcl (d:=31-1) om a K wl kp hop
 obtain ⟨x,hx⟩:=jkb (l:=L) (i:=i) om
 have hxm:=List.mem_of_getElem? hx
 obtain ⟨b,cs,ro',rfl,lb,hb,hlen,hc⟩:=hel (by rintro rfl;simp at hx)
 have h5:(cs.drop (0+(i:Int).toNat*5)).take 5=x.V:=by rw [Nat.zero_add,Int.toNat_natCast];exact hc i x hx
 have hi1:(i:Int)+1=((i+1:Nat):Int):=by omega
 have r:=jjj hx st0
 obtain ⟨C,hC⟩ : ∃ C,C=c3_17:=⟨_,rfl⟩
 rw [<- hC]
 have hxo:=hok x hxm
 have hxl:=hfew.2 x hxm
 clear hel hok hc hx hfew
 refine qz1 ?_
 rw [hC]
 refine round_ok hcl (d:=31-1) om bx om om hxo hxl wl ⟨lb,hb⟩ hlen h5 fun g' ow' ro'' y6 y1 y2 y3 y4 bx2 wl2=>?_
 rw [<- r] at bx2 wl2
 clear bx wl r
 refine qz1 ?_
 rw [hi1]
 exact ih (L.length-(i+1)) om _ _ ⟨i+1,ow',ro'',rfl,by omega,rfl,bx2,wl2⟩
end
end Am.Sigs
