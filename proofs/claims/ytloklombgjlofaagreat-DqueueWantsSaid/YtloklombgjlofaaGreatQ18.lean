/- Our own library, part 18. -/
import Derived.Test.YtloklombgjlofaaGreatQ17
import Derived.Test.YtloklombgjlofaaGreatQ09
import Derived.Test.YtloklombgjlofaaGreatQ14
import Derived.Test.YtloklombgjlofaaGreatQ16
set_option maxHeartbeats 8000000
set_option maxRecDepth 800
set_option linter.all false
namespace Am.Sigs
open Am Go
theorem atS_at {ws:Ws} {fd:Int} {n k:Nat} (h:atS ws fd=some (n,k)):AtW ws n k fd:=by
 unfold atS at h
 split at h
 ·next hx=>
  have:=hx.choose_spec
  rw [Option.some.inj h] at this
  exact this
 ·cases h
theorem jnR {ws:Ws} {fd:Int} (h:atS ws fd=none) : ∀ n k,¬ AtW ws n k fd:=by
 intro n k a
 unfold atS at h
 rw [dif_pos ⟨(n,k),a⟩] at h
 cases h
theorem jbm {α : Type} {P : α -> Prop} {ws:Ws} {fd:Int} {no : α} {f:Nat->Nat->Wi -> α} (hno:P no) (h : ∀ n k x,ws[n]?=some x->(k=0\/k=1)->(x.e k).what=1->P (f n k x)):P (jcs ws fd no f):=by
 unfold jcs
 cases e:atS ws fd with
 | none=>exact hno
 | some p=>
  obtain ⟨n,k⟩:=p
  obtain ⟨x,hx,hk,h1,_⟩:=atS_at e
  simp only [hx]
  exact h n k x hx hk h1
theorem jbn {α : Type} {P : α -> Prop} {ws:Ws} {n:Int} {no : α} {f:Nat->Wi -> α} (hno:P no) (h : ∀ n x,ws[n]?=some x->x.e1.what=2->P (f n x)):P (jcC ws n no f):=by
 unfold jcC
 split
 ·split
  ·exact hno
  ·next x hx=>
   split
   ·next h2=>exact h _ _ hx h2
   ·exact hno
 ·exact hno
theorem readS_ok {ws:Ws} {fd many:Int} (K:WsK ws):WsK (jbX ws fd many).2:=by
 unfold jbX
 refine jbm (P:=fun r:_ × Ws=>WsK r.2) K fun n k x hx hk h1=>?_
 split
 ·exact K
 ·next q hq=>
  repeat' split
  all_goals first | exact K | exact K.take hx hk hq
theorem writeS_ok {ws:Ws} {fd:Int} {b:List UInt8} (K:WsK ws):WsK (jb6 ws fd b).2:=by
 unfold jb6
 refine jbm (P:=fun r:_ × Ws=>WsK r.2) K fun n k x hx hk h1=>?_
 split
 ·exact K
 split
 ·exact K
 split
 ·exact K
 split
 ·exact K
 split
 ·exact K
 ·next q hq=>
  split
  ·exact K.fill hx hk hq (Nat.zero_le _)
  ·exact K.fill hx hk hq (Nat.min_le_right _ _)
theorem shutS_ok {ws:Ws} {fd:Int} (K:WsK ws):WsK (jdt ws fd).2:=by
 unfold jdt
 refine jbm (P:=fun r:_ × Ws=>WsK r.2) K fun n k x hx hk h1=>?_
 split
 ·exact K
 ·exact K.doShut hx hk
theorem closeS_ok {ws:Ws} {fd:Int} (K:WsK ws):WsK (jca ws fd).2:=by
 unfold jca
 exact jbm (P:=fun r:_ × Ws=>WsK r.2) K fun n k x hx hk h1=>K.close hx hk h1
theorem putS_ok {ws:Ws} {n:Int} {b:List UInt8} (K:WsK ws):WsK (putS ws n b).2:=by
 unfold putS
 refine jbn (P:=fun r:_ × Ws=>WsK r.2) K fun n x hx h2=>?_
 split
 ·exact K
 split
 ·exact K
 split
 ·exact K
 ·next q hq=>exact K.fill hx (.inr rfl) hq (Nat.min_le_right _ _)
theorem takeS_ok {ws:Ws} {n many:Int} (K:WsK ws):WsK (jc5 ws n many).2:=by
 unfold jc5
 refine jbn (P:=fun r:_ × Ws=>WsK r.2) K fun n x hx h2=>?_
 split
 ·exact K
 split
 ·exact K
 split
 ·exact K
 ·next q hq=>exact K.take hx (.inr rfl) hq
theorem jjs {ws:Ws} {n:Int} (K:WsK ws):WsK (jaK ws n).2 :=
 jbn (P:=fun r:_ × Ws=>WsK r.2) K fun _ _ hx _=>K.doShut hx (.inr rfl)
theorem jio {ws:Ws} {n:Int} (K:WsK ws):WsK (ja5 ws n).2 :=
 jbn (P:=fun r:_ × Ws=>WsK r.2) K fun _ _ hx _=>
  have c:=jha (k:=1) (.inr rfl)
  K.set hx c.1 c.2.1 c.2.2.1 fun h=>c.2.2.2 h rfl
theorem resetS_ok {ws:Ws} {n:Int} (K:WsK ws):WsK (jcd ws n).2:=by
 unfold jcd
 refine jbn (P:=fun r:_ × Ws=>WsK r.2) K fun n x hx h2=>?_
 have o:=K.ok.ok x (zb hx)
 obtain ⟨q0,q1⟩:=o.out h2
 obtain ⟨a,ha⟩ : ∃ a,x.e0.ring=some a:=Option.ne_none_iff_exists'.1 q0
 obtain ⟨b,hb⟩ : ∃ b,x.e1.ring=some b:=Option.ne_none_iff_exists'.1 q1
 have e:x.SubFd x.doReset/\(WiOk x->WiOk x.doReset)/\x.doReset.waiting=x.waiting/\x.doReset.e0.what=x.e0.what:=by
  unfold Wi.doReset
  split
  ·exact ⟨Wi.SubFd.refl x,id,rfl,rfl⟩
  ·have z0:(0:Nat)=0\/(0:Nat)=1 := .inl rfl
   have z1:(1:Nat)=0\/(1:Nat)=1 := .inr rfl
   have p0:x.SubFd { x with reset:=true } /\ (WiOk x->WiOk { x with reset:=true }):=by
    refine ⟨fun j hj=>by (rcases hj with rfl | rfl<;>exact fun h=>⟨h,rfl⟩),fun a=>⟨a.cap0,a.cap1,fun j hj=>?_,fun j hj=>?_,a.out,a.bl,a.wh⟩⟩
    ·have:=a.len j hj;rcases hj with rfl | rfl<;>exact this
    ·have:=a.pair j hj;rcases hj with rfl | rfl<;>exact this
   refine ⟨(((p0.1.trans (jic z0)).trans (jfG z0)).trans (jic z1)).trans (jfG z1),fun o=>jfF z1 (jib (q:=b) z1 hb (Nat.zero_le _) (jfF z0 (jib (q:=a) z0 ha (Nat.zero_le _) (p0.2 o)))),rfl,rfl⟩
 exact K.set hx e.1 e.2.1 e.2.2.1 fun h=>by rw [e.2.2.2,h]
theorem jd7 {ws:Ws} {x:Wi} {n k:Nat} {fd:Int} (h:AtW (ws++[x]) n k fd):AtW ws n k fd\/(n=ws.length/\(k=0\/k=1)/\(x.e k).what=1/\(x.e k).fd=fd):=by
 obtain ⟨y,hy,hk,h1,h2⟩:=h
 rcases zw n ws.length with hl | hl
 ·rw [zd,if_pos hl] at hy
  exact .inl ⟨y,hy,hk,h1,h2⟩
 ·rw [zd,if_neg om] at hy
  have:n-ws.length=0:=by
   rcases Nat.eq_zero_or_pos (n-ws.length) with e | e
   ·exact e
   ·rw [zc (show 1<=_ from e)] at hy;cases hy
  rw [this] at hy
  cases hy
  exact .inr ⟨by omega,hk,h1,h2⟩
theorem jim {ws:Ws} {x y:Wi} {n:Nat} (h:(ws++[x])[n]?=some y):ws[n]?=some y\/(n=ws.length/\y=x):=by
 rcases zw n ws.length with hl | hl
 ·rw [zd,if_pos hl] at h
  exact .inl h
 ·rw [zd,if_neg om] at h
  have:n-ws.length=0:=by
   rcases Nat.eq_zero_or_pos (n-ws.length) with e | e
   ·exact e
   ·rw [zc (show 1<=_ from e)] at h;cases h
  rw [this] at h
  cases h
  exact .inr ⟨by omega,rfl⟩
theorem jef {ws:Ws} {x y:Wi} {n:Nat} (h:ws[n]?=some y):(ws++[x])[n]?=some y:=by rw [zd,if_pos (w_lt h),h]
theorem push_uniq {ws:Ws} {x:Wi} (u:Uniq ws) (hf : ∀ k,k=0\/k=1->(x.e k).what=1 -> ∀ n j,¬ AtW ws n j (x.e k).fd) (h2:x.e0.what=1->x.e1.what=1->x.e0.fd≠x.e1.fd):Uniq (ws++[x]):=by
 intro n k n' k' fd a b
 rcases jd7 a with a | ⟨rfl,hk,w1,f1⟩
 ·rcases jd7 b with b | ⟨rfl,hk',w1,f1⟩
  ·exact u _ _ _ _ _ a b
  ·exact absurd (by rw [f1];exact a) (hf k' hk' w1 n k)
 ·rcases jd7 b with b | ⟨rfl,hk',w2,f2⟩
  ·exact absurd (by rw [f1];exact b) (hf k hk w1 n' k')
  ·refine ⟨rfl,?_⟩
   rcases hk with rfl | rfl<;>rcases hk' with rfl | rfl
   ·rfl
   ·exact absurd (f1.trans f2.symm) (h2 w1 w2)
   ·exact absurd (f2.trans f1.symm) (h2 w2 w1)
   ·rfl
theorem WsK.push {ws:Ws} {x:Wi} (K:WsK ws) (ox:WiOk x) (hw:x.waiting=[]) (hl:ws.length<1000) (hf : ∀ k,k=0\/k=1->(x.e k).what=1 -> ∀ n j,¬ AtW ws n j (x.e k).fd) (h2:x.e0.what=1->x.e1.what=1->x.e0.fd≠x.e1.fd):WsK (ws++[x]):=by
 refine ⟨⟨push_uniq K.ok.uniq hf h2,fun y hy=>?_,by rw [ze];show ws.length+1<=1000;omega,fun y hy=>?_⟩,?_⟩
 ·rcases List.mem_append.1 hy with h | h
  ·exact K.ok.ok y h
  ·obtain rfl:y=x:=by simpa using h
   exact ox
 ·rcases List.mem_append.1 hy with h | h
  ·obtain ⟨p1,p2⟩:=K.ok.wait y h
   refine ⟨p1,fun m hm=>?_⟩
   obtain ⟨z,z0,z1,z2⟩:=p2 m hm
   exact ⟨z,z0,jef z1,z2⟩
  ·obtain rfl:y=x:=by simpa using h
   rw [hw];simp
 ·intro i j a b p q m ha hb hp hq
  rcases jim ha with ha | ⟨rfl,rfl⟩
  ·rcases jim hb with hb | ⟨rfl,rfl⟩
   ·exact K.one i j a b p q m ha hb hp hq
   ·rw [hw] at hq;simp at hq
  ·rw [hw] at hp;simp at hp
theorem jdO {ws:Ws} {n:Nat} {f:Int} (h:f∈jat ws n) : ∃ i:Nat,f=i/\i<n/\atS ws f=none:=by
 unfold jat at h
 obtain ⟨i,hi,rfl⟩:=List.mem_map.1 h
 obtain ⟨p1,p2⟩:=List.mem_filter.1 hi
 refine ⟨i,rfl,by simpa using p1,?_⟩
 simpa using p2
theorem jgQ (ws:Ws) (n:Nat):(jat ws n).Nodup:=by
 unfold jat
 exact (List.Pairwise.filter _ List.nodup_range).map _ fun a b (h:a≠b)=>by show (a:Int)≠(b:Int);omega
theorem jd0 {ws:Ws} {kind n:Int} (hk:kind=0\/kind=1\/kind=2\/kind=3) (K:WsK ws):WsK (jag ws kind n).2:=by
 unfold jag
 split
 ·exact K
 next hb=>
 split
 ·exact K
 next f0 fs hF=>
 split
 ·exact K
 next hbad=>
 have hn:1<=n/\n<=65536:=by omega
 have hnt:1<=n.toNat/\n.toNat<=65536:=by omega
 obtain ⟨i0,e0,_,a0⟩:=jdO (ws:=ws) (n:=96) (f:=f0) (by rw [hF];simp)
 have n0:=jnR a0
 have nd:=jgQ ws 96
 rw [hF] at nd
 have h1:kind<2 -> ∃ f1,fs.headD 0=f1/\f0≠f1 /\ ∀ n k,¬ AtW ws n k f1:=by
  intro h
  cases fs with
  | nil=>exact absurd (.inl ⟨rfl,h⟩) hbad
  | cons f1 r=>
   obtain ⟨i1,e1,_,a1⟩:=jdO (ws:=ws) (n:=96) (f:=f1) (by rw [hF];simp)
   refine ⟨f1,rfl,fun e=>?_,jnR a1⟩
   subst e
   exact absurd nd Zd
 have hlen:ws.length<1000:=by omega
 have two1 : ∀ {x:Wi},x.e0.fd=f0->(x.e1.what=1->x.e1.fd=fs.headD 0/\kind<2) -> ∀ k,k=0\/k=1->(x.e k).what=1 -> ∀ n j,¬ AtW ws n j (x.e k).fd:=by
  intro x p0 p1 k hk h
  rcases hk with rfl | rfl
  ·show ∀ n j,¬ AtW ws n j x.e0.fd
   rw [p0];exact n0
  ·obtain ⟨q1,q2⟩:=p1 h
   obtain ⟨f1,r1,_,r2⟩:=h1 q2
   show ∀ n j,¬ AtW ws n j x.e1.fd
   rw [q1,r1];exact r2
 have mk : ∀ (x:Wi),(∀ k,k=0\/k=1 -> ∀ q,(x.e k).ring=some q->q=[])->x.cap=n.toNat->(∀ k,k=0\/k=1->((x.e k).writes=true↔(x.e (1-k)).ring≠none))->(x.e1.what=2->x.e0.ring≠none/\x.e1.ring≠none)->0<=x.backlog/\x.backlog<=64->WhV x->WiOk x:=by
  intro x p1 p2 p3 p4 p5 p6
  exact ⟨by rw [p2];exact hnt.1,by rw [p2];exact hnt.2,fun k hk q hq=>by rw [p1 k hk q hq];exact Nat.zero_le _,p3,p4,p5,p6⟩
 rcases hk with rfl | rfl | rfl | rfl
 ·have e:newW 0 n f0 (fs.headD 0)=⟨⟨1,f0,some [],false,false,0,0⟩,⟨1,fs.headD 0,none,true,false,0,0⟩,n.toNat,false,0,[]⟩:=rfl
  refine K.push (mk _ (fun k hk q hq=>?_) rfl (fun k hk=>?_) (fun h=>?_) ?_ ⟨⟨of_decide_eq_true rfl,of_decide_eq_true rfl⟩,of_decide_eq_true rfl,of_decide_eq_true rfl⟩) rfl hlen (two1 rfl fun _=>⟨rfl,by omega⟩) fun _ _=>?_
  ·rcases hk with rfl | rfl
   ·have:some []=some q:=hq
    cases this;rfl
   ·have:none=some q:=hq
    cases this
  ·rcases hk with rfl | rfl
   ·show (false=true↔(none:Option (List UInt8))≠none);simp
   ·show (true=true↔some ([]:List UInt8)≠none);simp
  ·have h:(1:Int)=2:=h
   omega
  ·show (0:Int)<=0/\(0:Int)<=64;omega
  ·obtain ⟨f1,r1,r0,_⟩:=h1 om
   show f0≠fs.headD 0
   rw [r1];exact r0
 ·refine K.push (mk _ (fun k hk q hq=>?_) rfl (fun k hk=>?_) (fun h=>?_) ?_ ⟨⟨of_decide_eq_true rfl,of_decide_eq_true rfl⟩,of_decide_eq_true rfl,of_decide_eq_true rfl⟩) rfl hlen (two1 rfl fun _=>⟨rfl,by omega⟩) fun _ _=>?_
  ·rcases hk with rfl | rfl
   ·have:some []=some q:=hq
    cases this;rfl
   ·have:some []=some q:=hq
    cases this;rfl
  ·rcases hk with rfl | rfl
   ·show (true=true↔some ([]:List UInt8)≠none);simp
   ·show (true=true↔some ([]:List UInt8)≠none);simp
  ·have h:(1:Int)=2:=h
   omega
  ·show (0:Int)<=0/\(0:Int)<=64;omega
  ·obtain ⟨f1,r1,r0,_⟩:=h1 om
   show f0≠fs.headD 0
   rw [r1];exact r0
 ·refine K.push (mk _ (fun k hk q hq=>?_) rfl (fun k hk=>?_) (fun h=>?_) ?_ ⟨⟨of_decide_eq_true rfl,of_decide_eq_true rfl⟩,of_decide_eq_true rfl,of_decide_eq_true rfl⟩) rfl hlen (two1 rfl fun h=>?_) fun _ h=>?_
  ·rcases hk with rfl | rfl
   ·have:some []=some q:=hq
    cases this;rfl
   ·have:some []=some q:=hq
    cases this;rfl
  ·rcases hk with rfl | rfl
   ·show (true=true↔some ([]:List UInt8)≠none);simp
   ·show (true=true↔some ([]:List UInt8)≠none);simp
  ·exact ⟨by show some []≠none;simp,by show some []≠none;simp⟩
  ·show (0:Int)<=0/\(0:Int)<=64;omega
  ·have h:(2:Int)=1:=h
   omega
  ·have h:(2:Int)=1:=h
   omega
 ·refine K.push (mk _ (fun k hk q hq=>?_) rfl (fun k hk=>?_) (fun h=>?_) ?_ ⟨⟨of_decide_eq_true rfl,of_decide_eq_true rfl⟩,of_decide_eq_true rfl,of_decide_eq_true rfl⟩) rfl hlen (two1 rfl fun h=>?_) fun _ h=>?_
  ·rcases hk with rfl | rfl
   ·have:none=some q:=hq
    cases this
   ·have:none=some q:=hq
    cases this
  ·rcases hk with rfl | rfl
   ·show (false=true↔(none:Option (List UInt8))≠none);simp
   ·show (false=true↔(none:Option (List UInt8))≠none);simp
  ·have h:(0:Int)=2:=h
   omega
  ·show 0<=n/\n<=64;omega
  ·have h:(0:Int)=1:=h
   omega
  ·have h:(0:Int)=1:=h
   omega
theorem jfm {ws:Ws} {m n k:Nat} {f fd:Int} {y:Wi} (hy:ws[m]?=some y) (h:AtW (ws.set m (y.put 0 { y.e 0 with what:=1,fd:=f })) n k fd):(n=m/\k=0/\fd=f)\/(AtW ws n k fd/\(n=m->k=1)):=by
 obtain ⟨x,hx,hk,h1,h2⟩:=h
 rcases jdE hx with ⟨rfl,rfl⟩ | ⟨hne,hx⟩
 ·rcases hk with rfl | rfl
  ·exact .inl ⟨rfl,rfl,h2.symm⟩
  ·exact .inr ⟨⟨y,hy,.inr rfl,h1,h2⟩,fun _=>rfl⟩
 ·exact .inr ⟨⟨x,hx,hk,h1,h2⟩,fun e=>absurd e hne⟩
theorem WsK.seat {ws:Ws} {m:Nat} {f:Int} {y:Wi} (K:WsK ws) (hy:ws[m]?=some y) (hf : ∀ n k,¬ AtW ws n k f) (hw : ∀ (j:Nat) (u:Wi),ws[j]?=some u->(m:Int) ∉ u.waiting):WsK (ws.set m (y.put 0 { y.e 0 with what:=1,fd:=f })):=by
 have key : ∀ (i:Nat) (z':Wi),(ws.set m (y.put 0 { y.e 0 with what:=1,fd:=f }))[i]?=some z' -> ∃ z,ws[i]?=some z/\z'.waiting=z.waiting/\WiOk z'/\(i≠m->z'=z):=by
  intro i z' hz
  rcases jdE hz with ⟨rfl,rfl⟩ | ⟨hne,hz⟩
  ·have a:=K.ok.ok y (zb hy)
   refine ⟨y,hy,rfl,⟨a.cap0,a.cap1,fun j hj=>?_,fun j hj=>?_,a.out,a.bl,⟨by show (0:Int)<=1;omega,by show (1:Int)<=3;omega⟩,a.wh.2⟩,fun h=>absurd rfl h⟩
   ·have:=a.len j hj;rcases hj with rfl | rfl<;>exact this
   ·have:=a.pair j hj;rcases hj with rfl | rfl<;>exact this
  ·exact ⟨z',hz,rfl,K.ok.ok z' (zb hz),fun _=>rfl⟩
 refine ⟨⟨?_,fun x hx=>?_,by rw [List.length_set];exact K.ok.len,fun x hx=>?_⟩,?_⟩
 ·intro n k n' k' fd a b
  rcases jfm hy a with ⟨h1,h2,h3⟩ | ⟨a2,_⟩
  ·rcases jfm hy b with ⟨h4,h5,_⟩ | ⟨b2,_⟩
   ·exact ⟨h1.trans h4.symm,h2.trans h5.symm⟩
   ·rw [h3] at b2;exact absurd b2 (hf _ _)
  ·rcases jfm hy b with ⟨_,_,h3⟩ | ⟨b2,_⟩
   ·rw [h3] at a2;exact absurd a2 (hf _ _)
   ·exact K.ok.uniq _ _ _ _ _ a2 b2
 ·obtain ⟨i,hi⟩:=List.mem_iff_getElem?.1 hx
  obtain ⟨_,_,_,h,_⟩:=key i x hi
  exact h
 ·obtain ⟨i,hi⟩:=List.mem_iff_getElem?.1 hx
  obtain ⟨z,z1,z2,_,_⟩:=key i x hi
  rw [z2]
  obtain ⟨p1,p2⟩:=K.ok.wait z (zb z1)
  refine ⟨p1,fun q hq=>?_⟩
  obtain ⟨u,u0,u1,u2⟩:=p2 q hq
  have hne:m≠q.toNat:=by
   rintro rfl
   refine hw i z z1 ?_
   rw [Int.toNat_of_nonneg u0];exact hq
  exact ⟨u,u0,by rw [zh,if_neg hne,u1],u2⟩
 ·intro i j a b p q v ha hb hp hq
  obtain ⟨a',a1,a2,_⟩:=key i a ha
  obtain ⟨b',b1,b2,_⟩:=key j b hb
  rw [a2] at hp
  rw [b2] at hq
  exact K.one i j a' b' p q v a1 b1 hp hq
theorem jgo {ws:Ws} {n m k:Nat} {fd:Int} {x:Wi} {wt:List Int} (hx:ws[n]?=some x):AtW (ws.set n { x with waiting:=wt }) m k fd↔AtW ws m k fd:=by
 constructor
 ·rintro ⟨y,hy,hk,h1,h2⟩
  rcases jdE hy with ⟨rfl,rfl⟩ | ⟨_,hy⟩
  ·exact ⟨x,hx,hk,by rcases hk with rfl | rfl<;>exact h1,by rcases hk with rfl | rfl<;>exact h2⟩
  ·exact ⟨y,hy,hk,h1,h2⟩
 ·rintro ⟨y,hy,hk,h1,h2⟩
  by_cases e:m=n
  ·subst e
   rw [hx] at hy;cases hy
   exact ⟨_,by rw [zh,if_pos rfl,if_pos (w_lt hx)],hk,by rcases hk with rfl | rfl<;>exact h1,by rcases hk with rfl | rfl<;>exact h2⟩
  ·exact ⟨y,by rw [zh,if_neg (fun h=>e h.symm),hy],hk,h1,h2⟩
theorem jhS {ws:Ws} {fd:Int} (K:WsK ws):WsK (jaw ws fd).2:=by
 unfold jaw
 refine jbm (P:=fun r:_ × Ws=>WsK r.2) K fun n k x hx hk h1=>?_
 split
 ·exact K
 split
 ·exact K
 next m rest hw=>
 split
 ·exact K
 next f fs hF=>
 split
 ·exact K
 next y hy=>
 have e:({ x with waiting:=rest } : Wi) = { x with waiting:=x.waiting.drop 1 } := by rw [hw];rfl
 have K1:=K.set_wait (c:=1) hx
 rw [<- e] at K1
 obtain ⟨i,_,_,hf⟩:=jdO (ws:=ws) (n:=96) (f:=f) (by rw [hF];simp)
 have nf:=jnR hf
 refine K1.seat hy (fun a b h=>nf a b ((jgo hx).1 h)) fun j u hu hm=>?_
 have m0:0<=m:=by
  obtain ⟨z,z0,_⟩:=(K.ok.wait x (zb hx)).2 m (by rw [hw];simp)
  exact z0
 rw [Int.toNat_of_nonneg m0] at hm
 obtain ⟨q,hq⟩:=List.mem_iff_getElem?.1 hm
 rcases jdE hu with ⟨rfl,rfl⟩ | ⟨hne,hu⟩
 ·have:=(K.one j j x x 0 (q+1) m hx hx (by rw [hw];rfl) (by rw [hw];exact hq)).2
  omega
 ·exact hne (K.one j n u x q 0 m hu hx hq (by rw [hw];rfl)).1
theorem WsK.waits {ws:Ws} {n:Nat} {x y y2:Wi} {m:Int} (K:WsK ws) (hx:ws[n]?=some x) (hs:x.SubFd y) (hok:WiOk y) (hw:y.waiting=x.waiting++[m]) (h64:x.waiting.length<64) (h0:x.e0.what=0->y.e0.what=0)
  (m0:0<=m) (hm:ws[m.toNat]?=some y2) (hm2:y2.e0.what=0) (hno : ∀ (j:Nat) (u:Wi),ws[j]?=some u->m ∉ u.waiting):WsK (ws.set n y):=by
 have old : ∀ (p:Nat) (v:Int),y.waiting[p]?=some v->(x.waiting[p]?=some v)\/(v=m/\p=x.waiting.length):=by
  intro p v h
  rw [hw] at h
  rcases zw p x.waiting.length with hl | hl
  ·rw [zd,if_pos hl] at h;exact .inl h
  ·rw [zd,if_neg om] at h
   have:p-x.waiting.length=0:=by
    rcases Nat.eq_zero_or_pos (p-x.waiting.length) with e | e
    ·exact e
    ·rw [zc (show 1<=_ from e)] at h;cases h
   rw [this] at h;cases h
   exact .inr ⟨rfl,by omega⟩
 have tgt : ∀ (v:Int) (u:Wi),0<=v->ws[v.toNat]?=some u->u.e0.what=0 -> ∃ u':Wi,0<=v/\(ws.set n y)[v.toNat]?=some u'/\u'.e0.what=0:=by
  intro v u v0 hu hu0
  by_cases e:n=v.toNat
  ·rw [<- e,hx] at hu;cases hu
   exact ⟨y,v0,by rw [zh,if_pos e,if_pos (w_lt hx)],h0 hu0⟩
  ·exact ⟨u,v0,by rw [zh,if_neg e,hu],hu0⟩
 refine ⟨⟨?_,fun z hz=>?_,by rw [List.length_set];exact K.ok.len,fun z hz=>?_⟩,?_⟩
 ·have sub : ∀ i k fd,AtW (ws.set n y) i k fd->AtW ws i k fd:=by
   rintro i k fd ⟨z,hz,hk,h1,h2⟩
   rcases jdE hz with ⟨rfl,rfl⟩ | ⟨_,hz⟩
   ·exact ⟨x,hx,hk,(hs k hk h1).1,by rw [<- (hs k hk h1).2,h2]⟩
   ·exact ⟨z,hz,hk,h1,h2⟩
  exact fun a k b k' fd p q=>K.ok.uniq a k b k' fd (sub _ _ _ p) (sub _ _ _ q)
 ·rcases List.mem_or_eq_of_mem_set hz with h | rfl
  ·exact K.ok.ok z h
  ·exact hok
 ·rcases List.mem_or_eq_of_mem_set hz with h | rfl
  ·obtain ⟨p1,p2⟩:=K.ok.wait z h
   refine ⟨p1,fun v hv=>?_⟩
   obtain ⟨u,u0,u1,u2⟩:=p2 v hv
   exact tgt v u u0 u1 u2
  ·obtain ⟨p1,p2⟩:=K.ok.wait x (zb hx)
   rw [hw]
   refine ⟨by rw [ze];show _+1<=64;omega,fun v hv=>?_⟩
   rcases List.mem_append.1 hv with h | h
   ·obtain ⟨u,u0,u1,u2⟩:=p2 v h
    exact tgt v u u0 u1 u2
   ·obtain rfl:v=m:=by simpa using h
    exact tgt v y2 m0 hm hm2
 ·intro i j a b p q v ha hb hp hq
  rcases jdE ha with ⟨rfl,rfl⟩ | ⟨hi,ha2⟩
  ·rcases jdE hb with ⟨rfl,rfl⟩ | ⟨hj,hb2⟩
   ·refine ⟨rfl,?_⟩
    rcases old p v hp with h1 | ⟨rfl,h1⟩
    ·rcases old q v hq with h2 | ⟨rfl,h2⟩
     ·exact (K.one j j x x p q v hx hx h1 h2).2
     ·exact absurd (zb h1) (hno j x hx)
    ·rcases old q v hq with h2 | ⟨_,h2⟩
     ·exact absurd (zb h2) (hno j x hx)
     ·omega
   ·rcases old p v hp with h1 | ⟨rfl,h1⟩
    ·exact K.one _ j x b p q v hx hb2 h1 hq
    ·exact absurd (zb hq) (hno j b hb2)
  ·rcases jdE hb with ⟨rfl,rfl⟩ | ⟨hj,hb2⟩
   ·rcases old q v hq with h1 | ⟨rfl,h1⟩
    ·exact K.one i _ a x p q v ha2 hx hp h1
    ·exact absurd (zb hp) (hno i a ha2)
   ·exact K.one i j a b p q v ha2 hb2 hp hq
theorem jko {many:Int} (h1:1<=many) (h2:many<=65536):WiOk (jbe many):=by
 refine ⟨by show 1<=many.toNat;omega,by show many.toNat<=65536;omega,fun k hk q hq=>?_,fun k hk=>?_,fun _=>⟨by show some []≠none;simp,by show some []≠none;simp⟩,by show (0:Int)<=0/\(0:Int)<=64;omega,⟨of_decide_eq_true rfl,of_decide_eq_true rfl⟩,of_decide_eq_true rfl,of_decide_eq_true rfl⟩
 ·rcases hk with rfl | rfl
  ·have:some []=some q:=hq
   cases this;exact Nat.zero_le _
  ·have:some []=some q:=hq
   cases this;exact Nat.zero_le _
 ·rcases hk with rfl | rfl
  ·show (true=true↔some ([]:List UInt8)≠none);simp
  ·show (true=true↔some ([]:List UInt8)≠none);simp
theorem jgZ {ws:Ws} {n many:Int} (K:WsK ws):WsK (jas ws n many).2:=by
 unfold jas
 split
 ·exact K
 split
 ·exact K
 next x hx=>
 split
 ·exact K
 split
 ·exact K
 next hm=>
 split
 ·exact K
 next hbl=>
 split
 ·exact K
 next hlen=>
 have a:=K.ok.ok x (zb hx)
 have K2:WsK (ws++[jbe many]):=by
  refine K.push (jko om om) rfl om (fun k hk h=>?_) fun h=>?_
  ·rcases hk with rfl | rfl
   ·have h:(0:Int)=1:=h
    omega
   ·have h:(2:Int)=1:=h
    omega
  ·have h:(0:Int)=1:=h
   omega
 have hn:=w_lt hx
 have hmn:(ws++[jbe many])[((ws.length:Nat):Int).toNat]?=some (jbe many):=by simp
 have K3:=K2.waits (n:=n.toNat) (x:=x) (y := { x with waiting:=x.waiting++[(ws.length:Int)],e0 := { x.e0 with inn:=upu x.e0.inn } }) (y2:=jbe many) (m:=(ws.length:Int)) (jef hx)
  (fun j hj=>by rcases hj with rfl | rfl<;>exact fun h=>⟨h,rfl⟩) ⟨a.cap0,a.cap1,fun j hj=>by have:=a.len j hj;(rcases hj with rfl | rfl<;>exact this),fun j hj=>by have:=a.pair j hj;(rcases hj with rfl | rfl<;>exact this),a.out,a.bl,a.wh⟩ rfl
  (by have:=a.bl;omega) (fun h=>h) om hmn rfl fun j u hu hmem=>by
   rcases jim hu with hu | ⟨_,rfl⟩
   ·obtain ⟨z,z0,z1,_⟩:=(K.ok.wait u (zb hu)).2 _ hmem
    have:=w_lt z1
    simp at this
   ·have:(ws.length:Int)∈([]:List Int):=hmem
    simp at this
 rw [List.set_append_left _ _ hn] at K3
 exact K3
def Wi.RK (x y:Wi):Prop := ∀ k,k=0\/k=1->(x.e k).ring≠none->(y.e k).ring≠none
theorem Wi.RK.refl (x:Wi):x.RK x:=fun _ _ h=>h
theorem Wi.RK.trans {x y z:Wi} (a:x.RK y) (b:y.RK z):x.RK z:=fun k hk h=>b k hk (a k hk h)
def WsR (ws ws':Ws):Prop := ∀ (n:Nat) (x:Wi),ws[n]?=some x -> ∃ y,ws'[n]?=some y/\x.RK y
theorem WsR.refl (ws:Ws):WsR ws ws:=fun _ x h=>⟨x,h,Wi.RK.refl x⟩
theorem WsR.trans {a b c:Ws} (x:WsR a b) (y:WsR b c):WsR a c:=fun n u hu=>by
 obtain ⟨v,hv,h1⟩:=x n u hu
 obtain ⟨w,hw,h2⟩:=y n v hv
 exact ⟨w,hw,h1.trans h2⟩
theorem WsR.set {ws:Ws} {n:Nat} {x y:Wi} (hx:ws[n]?=some x) (h:x.RK y):WsR ws (ws.set n y):=fun m u hu=>by
 by_cases e:n=m
 ·subst e
  rw [hx] at hu;cases hu
  exact ⟨y,by rw [zh,if_pos rfl,if_pos (w_lt hx)],h⟩
 ·exact ⟨u,by rw [zh,if_neg e,hu],Wi.RK.refl u⟩
theorem WsR.push {ws:Ws} {x:Wi} : WsR ws (ws++[x]):=fun _ u hu=>⟨u,jef hu,Wi.RK.refl u⟩
theorem NtOk.keep {ws ws':Ws} {no si:Int} (a:NtOk ws no si) (r:WsR ws ws'):NtOk ws' no si:=by
 rcases a with a | ⟨n,k,x,h1,h2,h3,h4,h5,h6⟩
 ·exact .inl a
 ·obtain ⟨y,hy,rk⟩:=r n x h4
  exact .inr ⟨n,k,y,h1,h2,h3,hy,rk 0 (.inl rfl) h5,rk 1 (.inr rfl) h6⟩
theorem jfE {x:Wi} {k:Nat} {i o:Bool} (hk:k=0\/k=1):x.RK (x.came k i o):=by
 intro j hj
 rcases hk with rfl | rfl<;>rcases hj with rfl | rfl<;>exact fun h=>h
theorem jia {x:Wi} {k:Nat} {q:List UInt8} (hk:k=0\/k=1):x.RK (x.setq k q):=by
 intro j hj
 rcases hk with rfl | rfl<;>rcases hj with rfl | rfl
 ·intro _;show some q≠none;simp
 ·exact fun h=>h
 ·exact fun h=>h
 ·intro _;show some q≠none;simp
theorem jjY {x:Wi} {k m:Nat} {q:List UInt8} (hk:k=0\/k=1):x.RK (x.take k m q):=(jia hk).trans (jfE (jcb hk))
theorem jkC {x:Wi} {k m:Nat} {q b:List UInt8} (hk:k=0\/k=1):x.RK (x.fill k m q b):=(jia (jcb hk)).trans (jfE (jcb hk))
theorem jnj {x:Wi} {k:Nat} {e:En} (hk:k=0\/k=1) (h:e.ring=(x.e k).ring):x.RK (x.put k e):=by
 intro j hj
 rcases hk with rfl | rfl<;>rcases hj with rfl | rfl
 ·intro h1;show e.ring≠none;rw [h];exact h1
 ·exact fun h=>h
 ·exact fun h=>h
 ·intro h1;show e.ring≠none;rw [h];exact h1
theorem jmU {x:Wi} {k:Nat} (hk:k=0\/k=1):x.RK (x.doShut k):=by
 unfold Wi.doShut
 split
 ·exact Wi.RK.refl x
 ·exact (jnj (e := { x.e k with shut:=true }) hk rfl).trans (jfE (jcb hk))
theorem jiG {x:Wi} {k:Nat} (hk:k=0\/k=1):x.RK (x.close k):=by
 unfold Wi.close
 exact (jfE (jcb hk)).trans (jnj hk rfl)
theorem reset_rk {x:Wi} : x.RK x.doReset:=by
 unfold Wi.doReset
 split
 ·exact Wi.RK.refl x
 ·have z0:(0:Nat)=0\/(0:Nat)=1 := .inl rfl
  have z1:(1:Nat)=0\/(1:Nat)=1 := .inr rfl
  have p0:x.RK { x with reset:=true } := fun j hj=>by rcases hj with rfl | rfl<;>exact fun h=>h
  exact (((p0.trans (jia z0)).trans (jfE z0)).trans (jia z1)).trans (jfE z1)
theorem readS_r {ws:Ws} {fd many:Int} : WsR ws (jbX ws fd many).2:=by
 unfold jbX
 refine jbm (P:=fun r:_ × Ws=>WsR ws r.2) (WsR.refl ws) fun n k x hx hk h1=>?_
 split
 ·exact WsR.refl ws
 ·repeat' split
  all_goals first | exact WsR.refl ws | exact WsR.set hx (jjY hk)
theorem writeS_r {ws:Ws} {fd:Int} {b:List UInt8} : WsR ws (jb6 ws fd b).2:=by
 unfold jb6
 refine jbm (P:=fun r:_ × Ws=>WsR ws r.2) (WsR.refl ws) fun n k x hx hk h1=>?_
 repeat' split
 all_goals first | exact WsR.refl ws | exact WsR.set hx (jkC hk)
theorem shutS_r {ws:Ws} {fd:Int} : WsR ws (jdt ws fd).2:=by
 unfold jdt
 refine jbm (P:=fun r:_ × Ws=>WsR ws r.2) (WsR.refl ws) fun n k x hx hk h1=>?_
 split
 ·exact WsR.refl ws
 ·exact WsR.set hx (jmU hk)
theorem jhP : ∀ (L:List Int) (ws:Ws),WsR ws (jaA ws L)
 | [],ws=>WsR.refl ws
 | m :: L,ws=>by
  refine WsR.trans ?_ (jhP L _)
  unfold jdi
  split
  ·exact WsR.refl ws
  ·next x hx=>exact WsR.set hx (jiG (.inl rfl))
theorem noWait_r {ws:Ws} {n:Nat} : WsR ws (noWait ws n):=by
 unfold noWait
 split
 ·exact WsR.refl ws
 ·next x hx=>exact WsR.set hx fun j hj=>by rcases hj with rfl | rfl<;>exact fun h=>h
theorem closeS_r {ws:Ws} {fd:Int} : WsR ws (jca ws fd).2:=by
 unfold jca
 exact jbm (P:=fun r:_ × Ws=>WsR ws r.2) (WsR.refl ws) fun n k x hx hk h1=>((WsR.set hx (jiG hk)).trans (jhP _ _)).trans noWait_r
theorem putS_r {ws:Ws} {n:Int} {b:List UInt8} : WsR ws (putS ws n b).2:=by
 unfold putS
 refine jbn (P:=fun r:_ × Ws=>WsR ws r.2) (WsR.refl ws) fun n x hx h2=>?_
 repeat' split
 all_goals first | exact WsR.refl ws | exact WsR.set hx (jkC (.inr rfl))
theorem takeS_r {ws:Ws} {n many:Int} : WsR ws (jc5 ws n many).2:=by
 unfold jc5
 refine jbn (P:=fun r:_ × Ws=>WsR ws r.2) (WsR.refl ws) fun n x hx h2=>?_
 repeat' split
 all_goals first | exact WsR.refl ws | exact WsR.set hx (jjY (.inr rfl))
theorem jkm {ws:Ws} {n:Int} : WsR ws (jaK ws n).2:=jbn (P:=fun r:_ × Ws=>WsR ws r.2) (WsR.refl ws) fun _ _ hx _=>WsR.set hx (jmU (.inr rfl))
theorem jjt {ws:Ws} {n:Int} : WsR ws (ja5 ws n).2:=jbn (P:=fun r:_ × Ws=>WsR ws r.2) (WsR.refl ws) fun _ _ hx _=>WsR.set hx (jiG (.inr rfl))
theorem resetS_r {ws:Ws} {n:Int} : WsR ws (jcd ws n).2:=jbn (P:=fun r:_ × Ws=>WsR ws r.2) (WsR.refl ws) fun _ _ hx _=>WsR.set hx reset_rk
theorem makeS_r {ws:Ws} {kind n:Int} : WsR ws (jag ws kind n).2:=by
 unfold jag
 repeat' split
 all_goals first | exact WsR.refl ws | exact WsR.push
theorem acceptS_r {ws:Ws} {fd:Int} : WsR ws (jaw ws fd).2:=by
 unfold jaw
 refine jbm (P:=fun r:_ × Ws=>WsR ws r.2) (WsR.refl ws) fun n k x hx hk h1=>?_
 split
 ·exact WsR.refl ws
 split
 ·exact WsR.refl ws
 split
 ·exact WsR.refl ws
 split
 ·exact WsR.refl ws
 next y hy=>
 refine WsR.trans (WsR.set (y := { x with waiting:=_ }) hx fun j hj=>?_) (WsR.set hy (jnj (.inl rfl) rfl))
 rcases hj with rfl | rfl<;>exact fun h=>h
theorem jm9 {ws:Ws} {n many:Int} : WsR ws (jas ws n many).2:=by
 unfold jas
 split
 ·exact WsR.refl ws
 split
 ·exact WsR.refl ws
 next x hx=>
 repeat' split
 all_goals first | exact WsR.refl ws | skip
 refine WsR.trans (WsR.set hx fun j hj=>?_) WsR.push
 rcases hj with rfl | rfl<;>exact fun h=>h
theorem jeh {ws:Ws} {sum no si:Int} (nt:NtOk ws no si):WsR ws (jar ws sum no si):=by
 unfold jar
 split
 ·exact WsR.refl ws
 next h0=>
 split
 ·exact WsR.refl ws
 next x hx=>
 split
 ·exact WsR.refl ws
 rcases nt with h | ⟨n,k,y,h1,h2,h3,h4,h5,h6⟩
 ·omega
 have hk:si.toNat=0\/si.toNat=1:=by omega
 split
 ·exact WsR.set hx (jjY hk)
 split
 ·exact WsR.set hx (jkC (jcb hk))
 ·exact WsR.refl ws
theorem jdy {ws:Ws} {sum no si:Int} (K:WsK ws) (nt:NtOk ws no si):WsK (jar ws sum no si):=by
 unfold jar
 split
 ·exact K
 next h0=>
 split
 ·exact K
 next x hx=>
 split
 ·exact K
 next q hq=>
 rcases nt with h | ⟨n,k,y,h1,h2,h3,h4,h5,h6⟩
 ·omega
 have hk:si.toNat=0\/si.toNat=1:=by omega
 split
 ·exact K.take hx hk hq
 split
 ·next e=>
  have e2:1-(1-si.toNat)=si.toNat:=by omega
  have hc:=(K.ok.ok x (zb hx)).cap0
  exact K.fill hx (jcb hk) (q:=[]) (by rw [e2,hq,e]) (by show min 1 x.cap<=x.cap-0;omega)
 ·exact K
theorem jou {ws:Ws} {a b no si:Int} (nt:NtOk ws no si):NtOk ws (ntNo ws a b no) (ntSi ws a b si):=by
 have key : ∀ n k,(ntS ws a b).2=some (n,k)->(k=0\/k=1) /\ ∃ x,ws[n]?=some x/\x.e0.ring≠none/\x.e1.ring≠none:=by
  unfold ntS
  refine jbm (P:=fun r:Int × Option (Nat × Nat)=>∀ n k,r.2=some (n,k)->(k=0\/k=1) /\ ∃ x,ws[n]?=some x/\x.e0.ring≠none/\x.e1.ring≠none) (fun _ _ h=>by cases h) fun n k x hx hk h1=>?_
  refine jbm (P:=fun r:Int × Option (Nat × Nat)=>∀ n k,r.2=some (n,k)->(k=0\/k=1) /\ ∃ x,ws[n]?=some x/\x.e0.ring≠none/\x.e1.ring≠none) (fun _ _ h=>by cases h) fun m i y hy hi h2=>?_
  intro n' k' h
  split at h
  ·next hc=>
   cases h
   exact ⟨hk,x,hx,hc.2.2.1,hc.2.2.2⟩
  ·cases h
 unfold ntNo ntSi
 cases e:(ntS ws a b).2 with
 | none=>exact nt
 | some p=>
  obtain ⟨n,k⟩:=p
  obtain ⟨hk,x,hx,h1,h2⟩:=key n k e
  exact .inr ⟨n,k,x,rfl,rfl,hk,hx,h1,h2⟩
theorem jot {ws:Ws} {sum a b:Int} : ∃ no si,NtOk ws no si/\ntW ws sum a b=jar ws sum no si:=by
 have:=jou (ws:=ws) (a:=a) (b:=b) (no := -1) (si:=0) (.inl rfl)
 unfold ntNo ntSi at this
 unfold ntW
 cases e:(ntS ws a b).2 with
 | none=>exact ⟨-1,0,.inl rfl,rfl⟩
 | some p=>
  obtain ⟨n,k⟩:=p
  rw [e] at this
  exact ⟨n,k,this,rfl⟩
def noI:Option (Nat × Nat)->Int
 | none=>-1
 | some p=>p.1
def siI:Option (Nat × Nat)->Int
 | none=>0
 | some p=>p.2
theorem put_clear {x:Wi} {k:Nat} {q:List UInt8} : (x.setq k []).came (1-k) false (decide (0<q.length))=x.take k q.length q:=by
 unfold Wi.take
 rw [List.drop_length]
section
variable {cl:Nat->Call} (hcl:Sem cl) {h:H} {w s:Nat} {ow:Nat->Nat} {ws:Ws} {now:Int} {tb:Tb} {no:Option (Nat × Nat)}
include hcl
theorem jdY {d:Nat} (hd:11<=d) (a:WSt h w s ow ws now tb no) (nt:NtOk ws (noI no) (siI no)) (hok:tb.ok 1000000) :
  ∃ h',cl d (.fn F.jcB) [.p w 0] h=some (.tup [],h')/\WSt h' w s ow (jar ws (tb.sum 32) (noI no) (siI no)) now tb no/\To h h' ow ow:=by
 obtain ⟨l,a,rfl⟩:=a
 obtain ⟨sa,c,hw,hsl⟩:=a.wf.head
 have lw:=a.wf.lw
 suffices q : ∃ v h',cl d (.fn F.jcB) [.p w 0] h=some (v,h')/\(v = .tup []/\WSt h' w s ow (jar (wxs l) (tb.sum 32) (noI no) (siI no)) now tb no/\To h h' ow ow) by
  obtain ⟨_,h',e,rfl,q⟩:=q;exact ⟨h',e,q⟩
 cases no with
 | none=>
  have q1:(wc (fun i=>atS (wxs l) (i:Int)) (.slice sa l.length c) s now none)[0+291+0]?=some (.bool false):=job (j:=0) om rfl
  have hS:jar (wxs l) (tb.sum 32) (noI none) (siI none)=wxs l:=if_pos (by show (-1:Int)<0;omega)
  rw [hS]
  have same:WSt h w s ow (wxs l) now tb none:=⟨l,a,rfl⟩
  refine at_ hcl om rfl rfl rfl ?_
  refine qx1 ?_
  exact ⟨rfl,same,To.refl _ _⟩
 | some p=>
  obtain ⟨n,k⟩:=p
  obtain ⟨hk,x,hx,hx0,hx1⟩:(k=0\/k=1) /\ ∃ x,(wxs l)[n]?=some x/\x.e0.ring≠none/\x.e1.ring≠none:=by
   rcases nt with e | ⟨n',k',x,e1,e2,hk,hx,p⟩
   ·have e:(n:Int) = -1:=e
    omega
   ·have e1:(n:Int)=n':=e1
    have e2:(k:Int)=k':=e2
    obtain rfl:n=n':=by omega
    obtain rfl:k=k':=by omega
    exact ⟨hk,x,hx,p⟩
  obtain ⟨t,ht,rfl⟩:=jiB hx
  obtain ⟨q,hq⟩ : ∃ q,(t.x.e k).ring=some q:=by
   rcases hk with rfl | rfl
   ·exact Option.ne_none_iff_exists'.1 hx0
   ·exact Option.ne_none_iff_exists'.1 hx1
  have hS:jar (wxs l) (tb.sum 32) (noI (some (n,k))) (siI (some (n,k)))=if tb.sum 32=0 then (wxs l).set n (t.x.take k q.length q) else if q=[] then (wxs l).set n (t.x.fill (1-k) (min 1 t.x.cap) [] [1]) else wxs l:=by
   unfold jar
   show (if (n:Int)<0 then _ else _)=_
   rw [if_neg om]
   show (match (wxs l)[(n:Int).toNat]? with | none=>_ | some x=>match (x.e (k:Int).toNat).ring with | none=>_ | some q=>_)=_
   rw [zu,hx]
   simp only [zu,hq]
   rfl
  rw [hS]
  have q0:(wc (fun i=>atS (wxs l) (i:Int)) (.slice sa l.length c) s now (some (n,k)))[0+291+0]?=some (.bool true):=job (j:=0) om rfl
  have q1:(wc (fun i=>atS (wxs l) (i:Int)) (.slice sa l.length c) s now (some (n,k)))[0+291+1]?=some (.i (n:Int)):=job (j:=1) om rfl
  have q2:(wc (fun i=>atS (wxs l) (i:Int)) (.slice sa l.length c) s now (some (n,k)))[0+291+2]?=some (.i (k:Int)):=job (j:=2) om rfl
  have q3:(wc (fun i=>atS (wxs l) (i:Int)) (.slice sa l.length c) s now (some (n,k)))[0+288]?=some (.slice sa l.length c):=jbd rfl
  have q4:(wc (fun i=>atS (wxs l) (i:Int)) (.slice sa l.length c) s now (some (n,k)))[0+289]?=some (.p s 0):=jfs rfl
  have hlt:=x_lt ht
  obtain ⟨z,rfl,z1,z2,z3⟩:=hsl (by rintro rfl;simp at hlt)
  have w2:(wps l)[0+(n:Int).toNat*1]?=some (.p t.wb 0):=by rw [show 0+(n:Int).toNat*1=n by omega];exact jdq ht
  have X0:=a.wf.ok n t ht
  have hx0:=X0.hx
  unfold Wi.obj at hx0
  have q5:=Wi.ring_cell (x:=t.x) (r0:=t.r0) (r1:=t.r1) (wv:=t.wv) hk hq (o:=0+0+(k:Int).toNat*7+2) om
  obtain ⟨h1,e1,c1⟩:=jlP hcl (d:=d-1) (h0:=h) om a.wf.hs a.wf.ls hok
  have o1:=Old.ofCh c1
  have a1:=a.old o1
  have X:=a1.wf.ok n t ht
  obtain ⟨p1,p2,p3,p4,p5,p6⟩:=X.apart hk hq
  by_cases hsum:tb.sum 32=0
  ·rw [if_pos hsum]
   obtain ⟨h2,e2,R2,c2⟩:=jla hcl (d:=d-1) om p1 p2 p3 p4
   have W1:=a1.wf.clear ht hk hq c2 R2
   have ht1:(l.set n { t with x:=t.x.setq k [] })[n]?=some { t with x:=t.x.setq k [] } := by rw [zh,if_pos rfl,if_pos (x_lt ht)]
   have X1:=W1.ok n _ ht1
   obtain ⟨h3,e3,u3⟩:=jfn hcl (d:=d-1) (k:=1-k) om X1.hx om false (decide (0<q.length))
   have W2:=W1.upd ht1 u3 (by rcases hk with rfl | rfl<;>rfl) (by rcases hk with rfl | rfl<;>rfl) (fun i hi=>by rcases hk with rfl | rfl<;>rcases hi with rfl | rfl<;>rfl)
   rw [List.set_set] at W2
   have W2:WF h3 w s ow (fun i=>atS (wxs l) (i:Int)) (l.set n { t with x:=t.x.take k q.length q }) now tb (some (n,k)):=by
    rw [<- put_clear];exact W2
   have W3:=WF.same W2 a.fds (jam ht) (Wi.take_same hk)
   have T:To h h3 ow ow:=by
    refine To.old o1 (To.trans ⟨c2.weaken fun j hj hb=>?_,fun _ _=>rfl⟩ (X1.toU u3))
    obtain ⟨_,o2,_⟩:=X.ring k hk q hq
    have hb:j=t.r k:=hb
    subst hb;omega
   have fin:WSt h3 w s ow ((wxs l).set n (t.x.take k q.length q)) now tb (some (n,k)):=⟨_,W3,jbf⟩
   have ek:(1:Int)-(k:Int)=((1-k:Nat):Int):=by omega
   have eb:decide ((q.length:Int)>0)=decide (0<q.length):=by simp
   rw [<- ek,<- eb] at e3
   refine at_ hcl om rfl rfl rfl ?_
   clear hok nt
   refine qx1 ?_
   exact ⟨rfl,fin,T⟩
  rw [if_neg hsum]
  have hlen : ∃ buf frm inn out,RingC h1 (t.r k) (t.b k) buf frm q.length t.x.cap inn out:=by
   obtain ⟨buf,frm,inn,out,C,_⟩:=p1;exact ⟨buf,frm,inn,out,C⟩
  obtain ⟨buf,frm,inn,out,C⟩:=hlen
  have e2:=jkZ hcl (d:=d-1) om C
  by_cases hqn:q=[]
  ·rw [if_pos hqn]
   subst hqn
   have ek:(1:Int)-(k:Int)=((1-k:Nat):Int):=by omega
   have ekk:1-(1-k)=k:=by omega
   have oG:Old h1 (h1.new (.cells [.int .u8 1] false)):=(Old.refl h1).new
   have hB:BytesAt (h1.new (.cells [.int .u8 1] false)) (some (h1.nx,0)) (.fix 1) [1] :=
    ⟨fun e=>by (cases e),zp _,fun _=>⟨h1.nx,0,_,false,rfl,by simp,jac _,fun i x hi=>by
     match i,hi with
     | 0,hi=>cases hi;rfl
     | i+1,hi=>simp at hi⟩⟩
   have aG:=a1.old oG
   have XG:=aG.wf.ok n t ht
   have hqG:(t.x.e (1-(1-k))).ring=some []:=by rw [ekk];exact hq
   obtain ⟨g1,g2,g3,g4,g5,g6⟩:=XG.apart (k:=1-(1-k)) om hqG
   obtain ⟨h3,e3,r1,r2,r3⟩:=jmK hcl (d:=d-1) (k:=1-k) om XG.hx om hqG g1 XG.lx g2 g3 g4 g5 g6 hB Zd (fun z o e _=>by
    cases e
    rw [ekk]
    have:t.b k<h1.nx:=p3
    have:t.r k<h1.nx:=p2
    exact ⟨by omega,by show h1.nx≠t.r k;omega⟩)
   have hm1:min ([1]:List UInt8).length (t.x.cap-([]:List UInt8).length)=min 1 t.x.cap:=by simp
   rw [hm1] at r1 r2
   have W:=aG.wf.fill (k:=1-k) ht om hqG r3 r1 r2
   have W2:=WF.same W a.fds (jam ht) (Wi.fill_same om)
   have T:To h h3 ow ow:=To.old (o1.trans oG) (XG.to (k:=1-(1-k)) om hqG r3)
   have fin:WSt h3 w s ow ((wxs l).set n (t.x.fill (1-k) (min 1 t.x.cap) [] [1])) now tb (some (n,k)):=⟨_,W2,jbf⟩
   rw [<- ek] at e3
   refine at_ hcl om rfl rfl rfl ?_
   clear hok nt
   refine qx1 ?_
   refine Ops.make (ob := .cells [.int .u8 1] false) (mk:=fun b=>.slice (some (b,0)) 1 (.fix 1)) rfl rfl ?_
   refine qx1 ?_
   exact ⟨rfl,fin,T⟩
  ·rw [if_neg hqn]
   have hpos : ¬ (q.length:Int)=0:=by have:=List.length_pos_iff.2 hqn;omega
   have fin:WSt h1 w s ow (wxs l) now tb (some (n,k)):=⟨l,a1,rfl⟩
   have T:To h h1 ow ow:=To.of_old o1
   refine at_ hcl om rfl rfl rfl ?_
   clear hok nt
   refine qx1 ?_
   exact ⟨rfl,fin,T⟩
end
section
variable {h h':H} {w s:Nat} {ow:Nat->Nat} {f:Nat->Option (Nat × Nat)} {l:List WX} {ws:Ws} {now:Int} {tb tb':Tb} {no:Option (Nat × Nat)}
theorem WF.tbl (a:WF h w s ow f l now tb no) (ch:Ch (fun j=>j=s) h h') (g:h'.get s=some tb'.obj):WF h' w s ow f l now tb' no:=by
 obtain ⟨wv,p1,p2,p3⟩:=a.hw
 have ts:=a.ts
 have k : ∀ j,ow j≠0->ow j≠3->h'.get j=h.get j:=fun j h0 h3=>ch.get j (a.lt_of h0) fun e=>by
  have e:j=s:=e
  rw [e] at h3;exact h3 ts
 exact ⟨⟨wv,by rw [k w (by rw [a.tw];omega) (by rw [a.tw];omega),p1],p2.keep ch.nx fun z hz=>k z (by rw [p3 z hz];omega) (by rw [p3 z hz];omega),p3⟩,g,a.tw,a.ts,zq a.lw ch.nx,zq a.ls ch.nx,
  fun j hj=>a.top j (zy ch.nx hj),fun n t ht=>(a.ok n t ht).keep ch.nx fun j h1 _=>k j om om⟩
theorem WSt.tbl (a:WSt h w s ow ws now tb no) (ch:Ch (fun j=>j=s) h h') (g:h'.get s=some tb'.obj):WSt h' w s ow ws now tb' no/\To h h' ow ow:=by
 obtain ⟨l,a,e⟩:=a
 refine ⟨⟨l,⟨a.wf.tbl ch g,a.fds⟩,e⟩,⟨ch.weaken fun j _ hb=>?_,fun _ _=>rfl⟩⟩
 have hb:j=s:=hb
 rw [hb,a.wf.ts];omega
theorem WF.noti (a:WF h w s ow f l now tb no) {o:Nat} {p:Option (Nat × Nat)} {wl:List V} (ho:o=291) (hl:h.get w=some (.cells wl false)):WF (h.set w (.cells (jax wl o (plc p)) false)) w s ow f l now tb p:=by
 obtain ⟨wv,p1,p2,p3⟩:=a.hw
 rw [p1] at hl;cases hl
 have tw:=a.tw
 have hne : ∀ j,ow j≠1->j≠w:=fun j hj e=>by rw [e] at hj;exact hj tw
 refine ⟨⟨wv,by rw [jab,wc_set_no ho],p2.keep (zp _) fun z hz=>jaa (hne z (by rw [p3 z hz];omega)),p3⟩,by rw [jaa (hne s (by rw [a.ts];omega)),a.hs],a.tw,a.ts,a.lw,a.ls,a.top,fun n t ht=>(a.ok n t ht).keep (zp _) fun j h1 _=>jaa (hne j om)⟩
theorem WSt.noti (a:WSt h w s ow ws now tb no) {o:Nat} {p:Option (Nat × Nat)} {wl:List V} (ho:o=291) (hl:h.get w=some (.cells wl false)):WSt (h.set w (.cells (jax wl o (plc p)) false)) w s ow ws now tb p/\To h (h.set w (.cells (jax wl o (plc p)) false)) ow ow:=by
 obtain ⟨l,a,e⟩:=a
 refine ⟨⟨l,⟨a.wf.noti ho hl,a.fds⟩,e⟩,⟨Ch.set ?_,fun _ _=>rfl⟩⟩
 show ow w≠0
 rw [a.wf.tw];omega
end
section
variable {cl:Nat->Call} (hcl:Sem cl) {h:H} {w s:Nat} {ow:Nat->Nat} {ws:Ws} {now:Int} {tb:Tb} {no:Option (Nat × Nat)}
include hcl
theorem ww_Handle {d:Nat} {sg:Int} {on:Bool} (hd:12<=d) (a:WSt h w s ow ws now tb no) (nt:NtOk ws (noI no) (siI no)) (hok:(tb.handle sg on).ok 1000000) :
  ∃ h',cl d (.fn F.jeD) [.p w 0,.i sg,.bool on] h=some (.i (if sig? sg then 0 else 100),h')/\WSt h' w s ow (jar ws ((tb.handle sg on).sum 32) (noI no) (siI no)) now (tb.handle sg on) no/\To h h' ow ow:=by
 obtain ⟨l,b,rfl⟩:=id a
 have hn:=jch hcl (d:=d-1) om b.wf
 obtain ⟨sa,c,hw,_⟩:=b.wf.head
 have q4:(wc (fun i=>atS (wxs l) (i:Int)) (.slice sa l.length c) s now no)[0+289]?=some (.p s 0):=jfs rfl
 have lw:=b.wf.lw
 obtain ⟨h1,e1,u1⟩:=sp_handle hcl (d:=d-1) om b.wf.hs sg on
 obtain ⟨a1,t1⟩:=a.tbl (tb':=tb.handle sg on) (u1.ch (B:=fun j=>j=s) rfl) u1.self
 obtain ⟨h2,e2,a2,t2⟩:=jdY hcl (d:=d-1) om a1 nt hok
 have T:=To.trans t1 t2
 refine jal (at_ hcl om rfl rfl rfl ?_)
 clear hok nt
 refine qx1 ?_
 exact ⟨rfl,a2,T⟩
theorem ww_Raise {d:Nat} {sg:Int} (hd:12<=d) (a:WSt h w s ow ws now tb no) (nt:NtOk ws (noI no) (siI no)) (h0:tb.ok 1000000) (hok:(tb.raise sg).ok 1000000) :
  ∃ h',cl d (.fn F.jfr) [.p w 0,.i sg] h=some (.i (if sig? sg then 0 else 100),h')/\WSt h' w s ow (jar ws ((tb.raise sg).sum 32) (noI no) (siI no)) now (tb.raise sg) no/\To h h' ow ow:=by
 obtain ⟨l,b,rfl⟩:=id a
 have hn:=jch hcl (d:=d-1) om b.wf
 obtain ⟨sa,c,hw,_⟩:=b.wf.head
 have q4:(wc (fun i=>atS (wxs l) (i:Int)) (.slice sa l.length c) s now no)[0+289]?=some (.p s 0):=jfs rfl
 have lw:=b.wf.lw
 obtain ⟨h1,e1,u1⟩:=sp_raise hcl (d:=d-1) om b.wf.hs sg h0
 obtain ⟨a1,t1⟩:=a.tbl (tb':=tb.raise sg) (u1.ch (B:=fun j=>j=s) rfl) u1.self
 obtain ⟨h2,e2,a2,t2⟩:=jdY hcl (d:=d-1) om a1 nt hok
 have T:=To.trans t1 t2
 refine jal (at_ hcl om rfl rfl rfl ?_)
 clear hok nt h0
 refine qx1 ?_
 exact ⟨rfl,a2,T⟩
theorem jlH {d:Nat} (hd:12<=d) (a:WSt h w s ow ws now tb no) (nt:NtOk ws (noI no) (siI no)) (h0:tb.take.ok 1000000) :
  ∃ v h',cl d (.fn F.je0) [.p w 0] h=some (v,h')/\Row h.nx h' 2 v (tb.cnts 32).length (jaM (tb.cnts 32))/\WSt h' w s ow (jar ws (tb.take.sum 32) (noI no) (siI no)) now tb.take no/\To h h' ow ow:=by
 obtain ⟨l,b,rfl⟩:=id a
 have hn:=jch hcl (d:=d-1) om b.wf
 obtain ⟨sa,c,hw,_⟩:=b.wf.head
 have q4:(wc (fun i=>atS (wxs l) (i:Int)) (.slice sa l.length c) s now no)[0+289]?=some (.p s 0):=jfs rfl
 have lw:=b.wf.lw
 obtain ⟨v,h1,e1,row,g1,c1⟩:=sp_take hcl (d:=d-1) om b.wf.hs b.wf.ls
 obtain ⟨a1,t1⟩:=a.tbl (tb':=tb.take) c1 g1
 obtain ⟨h2,e2,a2,t2⟩:=jdY hcl (d:=d-1) om a1 nt h0
 have T:=To.trans t1 t2
 have row2:Row h.nx h2 2 v (tb.cnts 32).length (jaM (tb.cnts 32)):=row.keep t2.ch.nx fun z hz=>t2.ch.get z (row.at_ge hz).2 fun hne=>hne (b.wf.top z (row.at_ge hz).1)
 refine at_ hcl om rfl rfl rfl ?_
 clear h0 nt
 refine qx1 ?_
 exact ⟨row2,a2,T⟩
end
noncomputable def noT (ws:Ws) (a b:Int) (no:Option (Nat × Nat)):Option (Nat × Nat):=match (ntS ws a b).2 with
 | none=>no
 | some p=>some p
theorem jow {ws:Ws} {a b:Int} {no:Option (Nat × Nat)} : noI (noT ws a b no)=ntNo ws a b (noI no):=by
 unfold noT ntNo
 cases (ntS ws a b).2<;>rfl
theorem jov {ws:Ws} {a b:Int} {no:Option (Nat × Nat)} : siI (noT ws a b no)=ntSi ws a b (siI no):=by
 unfold noT ntSi
 cases (ntS ws a b).2<;>rfl
theorem jlY {x:Wi} {r0 r1:Nat} {v:V} {o:Nat} (ho:o=2):(x.cells r0 r1 v)[o]?=some (En.ptr x.e0.ring r0):=by subst ho;rfl
theorem jlX {x:Wi} {r0 r1:Nat} {v:V} {o:Nat} (ho:o=9):(x.cells r0 r1 v)[o]?=some (En.ptr x.e1.ring r1):=by subst ho;rfl
section
variable {cl:Nat->Call} (hcl:Sem cl) {h:H} {w s:Nat} {ow:Nat->Nat} {ws:Ws} {now:Int} {tb:Tb} {no:Option (Nat × Nat)}
include hcl
theorem ww_Notice {d:Nat} {x y:Int} (hd:12<=d) (a:WSt h w s ow ws now tb no) (o:WsOk ws) (hok:tb.ok 1000000) :
  ∃ h',cl d (.fn F.jcM) [.p w 0,.i x,.i y] h=some (.i (ntS ws x y).1,h')/\WSt h' w s ow (ntW ws (tb.sum 32) x y) now tb (noT ws x y no)/\To h h' ow ow:=by
 obtain ⟨l,b,rfl⟩:=id a
 suffices q : ∃ v h',cl d (.fn F.jcM) [.p w 0,.i x,.i y] h=some (v,h')/\(v = .i (ntS (wxs l) x y).1/\WSt h' w s ow (ntW (wxs l) (tb.sum 32) x y) now tb (noT (wxs l) x y no)/\To h h' ow ow) by
  obtain ⟨_,h',e,rfl,q⟩:=q;exact ⟨h',e,q⟩
 unfold ntW noT
 have keep : ∀ g,Old h g->WSt g w s ow (wxs l) now tb no/\To h g ow ow:=fun g og=>⟨a.old og,To.of_old og⟩
 rcases jdc hcl (d:=d-1) (fd:=x) om b o.uniq with ⟨hno,h1,e1,o1,x1⟩ | ⟨n,k,m,t,rfl,hm,hat,ht,hk,h1,e1,o1,x1⟩
 ·have hS:ntS (wxs l) x y=(110,none):=jaH hno
  rw [hS]
  have o2:Old h ((h1.new (.cells [.bool false,.i 0,.i 0] false)).set h1.nx (.cells [.bool false,.i 0,.i 0] false)):=o1.new.set o1.1
  have x2:((h1.new (.cells [.bool false,.i 0,.i 0] false)).set h1.nx (.cells [.bool false,.i 0,.i 0] false)).nx=h.nx+2:=by
   show h1.nx+1=_;omega
  have hq : ∃ (v:List V) (p:V) (e:Int) (h3:H),cl (d-1) (.fn F.jbx) [.p w 0,.i y] ((h1.new (.cells [.bool false,.i 0,.i 0] false)).set h1.nx (.cells [.bool false,.i 0,.i 0] false))=some (.tup [.agg v,p,.i e],h3)/\v.length=3/\v.all V.one=true/\Old h h3:=by
   rcases jdc hcl (d:=d-1) (fd:=y) om (b.old o2) o.uniq with ⟨_,h3,e3,o3,_⟩ | ⟨_,_,_,_,_,_,_,_,_,h3,e3,o3,_⟩
   ·exact ⟨_,_,_,h3,e3,rfl,rfl,o2.trans o3⟩
   ·exact ⟨_,_,_,h3,e3,rfl,rfl,o2.trans o3⟩
  obtain ⟨v,p,e,h3,e3,v1,v2,o3⟩:=hq
  obtain ⟨va,vb,vc,rfl⟩ : ∃ va vb vc,v=[va,vb,vc]:=by
   match v,v1 with
   | [a,b,c],_=>exact ⟨a,b,c,rfl⟩
  refine at_ hcl om rfl rfl rfl ?_
  clear hok
  refine qm1 ?_
  refine Ops.storeN rfl rfl rfl v2 (jac _) (zr rfl) ?_
  refine qm1 ?_
  exact ⟨rfl,keep _ (o3.new.set o3.1)⟩
 have hS1:ntS (wxs l) (m:Int) y=_:=jaI o.uniq hat (jam ht)
 have o2:Old h ((h1.new (.cells [.bool false,.i 0,.i 0] false)).set h1.nx (.cells [.bool true,.i (n:Int),.i (k:Int)] false)):=o1.new.set o1.1
 have g2:((h1.new (.cells [.bool false,.i 0,.i 0] false)).set h1.nx (.cells [.bool true,.i (n:Int),.i (k:Int)] false)).get h1.nx=some (.cells [.bool true,.i (n:Int),.i (k:Int)] false):=jab _
 have x2:((h1.new (.cells [.bool false,.i 0,.i 0] false)).set h1.nx (.cells [.bool true,.i (n:Int),.i (k:Int)] false)).nx=h.nx+2:=by
  show h1.nx+1=_;omega
 rcases jdc hcl (d:=d-1) (fd:=y) om (b.old o2) o.uniq with ⟨hno,h3,e3,o3,x3⟩ | ⟨n2,k2,m2,t2,rfl,hm2,hat2,ht2,hk2,h3,e3,o3,x3⟩
 ·rw [jaH hno] at hS1
  rw [hS1]
  have o4:=o2.trans o3
  refine at_ hcl om rfl rfl rfl ?_
  clear hok
  refine qm1 ?_
  exact ⟨rfl,keep _ (o4.new.set o4.1)⟩
 rw [jaI o.uniq hat2 (jam ht2)] at hS1
 have o4:=o2.trans o3
 have g3:h3.get h1.nx=some (.cells [.bool true,.i (n:Int),.i (k:Int)] false):=(o3.2 _ om).trans g2
 have X:=b.wf.ok n t ht
 have lx:=X.lx
 have hx3:h3.get t.wb=some (.cells (t.x.cells t.r0 t.r1 t.wv) false):=by rw [o4.2 _ X.lx];exact X.hx
 have q1:(t.x.cells t.r0 t.r1 t.wv)[0+0+(0:Int).toNat*7+2]?=some (En.ptr t.x.e0.ring t.r0):=jlY rfl
 have q2:(t.x.cells t.r0 t.r1 t.wv)[0+0+(1:Int).toNat*7+2]?=some (En.ptr t.x.e1.ring t.r1):=jlX rfl
 have lh1:h1.nx<h3.nx:=by omega
 by_cases hg:n=n2/\k≠k2/\t.x.e0.ring≠none/\t.x.e1.ring≠none
 case neg=>
  rw [if_neg hg] at hS1
  rw [hS1]
  by_cases h1':n=n2
  case neg=>
   have h1'':(n:Int)≠(n2:Int):=by omega
   refine at_ hcl om rfl rfl rfl ?_
   clear hok hg
   refine qm1 ?_
   exact ⟨rfl,keep _ (o4.new.set o4.1)⟩
  have h1'' : ¬ (n:Int)≠(n2:Int):=by omega
  by_cases h2':k=k2
  ·have h2'':(k:Int)=(k2:Int):=by omega
   refine at_ hcl om rfl rfl rfl ?_
   clear hok hg
   refine qm1 ?_
   exact ⟨rfl,keep _ (o4.new.set o4.1)⟩
  have h2'' : ¬ (k:Int)=(k2:Int):=by omega
  cases hr0:t.x.e0.ring with
  | none=>
   have q1:(t.x.cells t.r0 t.r1 t.wv)[0+0+(0:Int).toNat*7+2]?=some (.ptr none):=by rw [q1];simp [En.ptr,hr0]
   refine at_ hcl om rfl rfl rfl ?_
   clear hok hg
   refine qm1 ?_
   exact ⟨rfl,keep _ (o4.new.set o4.1)⟩
  | some b0=>
   have q1:(t.x.cells t.r0 t.r1 t.wv)[0+0+(0:Int).toNat*7+2]?=some (.p t.r0 0):=by rw [q1];simp [En.ptr,hr0]
   cases hr1:t.x.e1.ring with
   | none=>
    have q2:(t.x.cells t.r0 t.r1 t.wv)[0+0+(1:Int).toNat*7+2]?=some (.ptr none):=by rw [q2];simp [En.ptr,hr1]
    refine at_ hcl om rfl rfl rfl ?_
    clear hok hg
    refine qm1 ?_
    exact ⟨rfl,keep _ (o4.new.set o4.1)⟩
   | some b1=>exact absurd ⟨h1',h2',by rw [hr0];simp,by rw [hr1];simp⟩ hg
 rw [if_pos hg] at hS1
 rw [hS1]
 obtain ⟨rfl,hkk,hr0,hr1⟩:=hg
 have nt:NtOk (wxs l) (noI (some (n,k))) (siI (some (n,k))) := .inr ⟨n,k,t.x,rfl,rfl,hk,jam ht,hr0,hr1⟩
 have h1'' : ¬ (n:Int)≠(n:Int):=by omega
 have h2'' : ¬ (k:Int)=(k2:Int):=by omega
 obtain ⟨b0,hb0⟩:=Option.ne_none_iff_exists'.1 hr0
 obtain ⟨b1,hb1⟩:=Option.ne_none_iff_exists'.1 hr1
 have q1:(t.x.cells t.r0 t.r1 t.wv)[0+0+(0:Int).toNat*7+2]?=some (.p t.r0 0):=by rw [q1];simp [En.ptr,hb0]
 have q2:(t.x.cells t.r0 t.r1 t.wv)[0+0+(1:Int).toNat*7+2]?=some (.p t.r1 0):=by rw [q2];simp [En.ptr,hb1]
 have o5:Old h ((h3.new (.cells [.bool false,.i 0,.i 0] false)).set h3.nx (.cells [.bool true,.i (n:Int),.i (k2:Int)] false)):=o4.new.set o4.1
 have a5:=a.old o5
 obtain ⟨l5,b5,e5⟩:=id a5
 obtain ⟨wv,hw5,_⟩:=b5.wf.hw
 obtain ⟨a6,t6⟩:=a5.noti (p:=some (n,k)) (o:=0+291) rfl hw5
 obtain ⟨h7,e7,a7,t7⟩:=jdY hcl (d:=d-1) om a6 nt hok
 have T:=(To.of_old o5:To _ _ ow ow).trans (t6.trans t7)
 have fin:WSt h7 w s ow (jar (wxs l) (tb.sum 32) (n:Int) (k:Int)) now tb (some (n,k)):=a7
 refine at_ hcl om rfl rfl rfl ?_
 clear hok nt
 refine qm1 ?_
 exact ⟨rfl,fin,T⟩
end
structure Mono (g h:H):Prop where
 nx:h.nx=g.nx
 get : ∀ j o,j<g.nx->g.get j=some o->h.get j=some o
theorem VB.mono {g h:H} {v:V} {l:List UInt8} (m:Mono g h) (a:VB g v l):VB h v l:=by
 obtain ⟨a,c,rfl,n,f,k⟩:=a
 refine ⟨a,c,rfl,n,f,fun hl=>?_⟩
 obtain ⟨b,o,cs,ro,rfl,h1,h2,h3⟩:=k hl
 exact ⟨b,o,cs,ro,rfl,by rw [m.nx];exact h1,m.get b _ h1 h2,h3⟩
theorem VI.mono {g h:H} {v:V} {l:List Int} (m:Mono g h) (a:VI g v l):VI h v l:=by
 obtain ⟨a,c,rfl,n,f,k⟩:=a
 refine ⟨a,c,rfl,n,f,fun hl=>?_⟩
 obtain ⟨b,o,cs,ro,rfl,h1,h2,h3⟩:=k hl
 exact ⟨b,o,cs,ro,rfl,by rw [m.nx];exact h1,m.get b _ h1 h2,h3⟩
theorem Row.mono {N sz n:Nat} {g h:H} {v:V} {cs:List V} (m:Mono g h) (a:Row N g sz v n cs):Row N h sz v n cs:=by
 rcases a with a | ⟨q,h1,h2,rfl,h4,h5⟩
 ·exact .inl a
 ·exact .inr ⟨q,h1,by rw [m.nx];exact h2,rfl,m.get q _ h2 h4,h5⟩
theorem RW.mono {g h:H} {rw q:Nat} {l:List RX} {tl:List V} (m:Mono g h) (a:RW g rw q l tl):RW h rw q l tl:=by
 refine ⟨by rw [m.nx];exact a.lw,by rw [m.nx];exact a.lq,a.ne,fun hl=>⟨m.get _ _ a.lw (a.at_ hl).hw,m.get _ _ a.lq (a.at_ hl).hq,a.ne⟩,fun hl=>m.get _ _ a.lw (a.nil hl),fun r hr=>?_⟩
 obtain ⟨p1,p2⟩:=a.ok r hr
 exact ⟨fun k hk=>⟨(p1 k hk).1.mono m,fun z hz=>by rw [m.nx];exact (p1 k hk).2 z hz⟩,p2.1.mono m,fun z hz=>by rw [m.nx];exact p2.2 z hz⟩
theorem RW.re {g:H} {rw q q':Nat} {tl:List V} (a:RW g rw q [] tl) (h1:q'<g.nx) (h2:rw≠q'):RW g rw q' [] tl :=
 ⟨a.lw,h1,h2,fun h=>absurd rfl h,a.nil,fun r hr=>by cases hr⟩
theorem jo3 (h:H) (own:Nat->Prop) : ∀ n,∃ g:H,g.nx=h.nx/\(∀ j,j<n -> ¬ own j->g.get j=none) /\ ∀ j,n<=j\/own j->g.get j=h.get j
 | 0=>⟨h,rfl,fun j hj=>by omega,fun _ _=>rfl⟩
 | n+1=>by
  obtain ⟨g,g1,g2,g3⟩:=jo3 h own n
  by_cases e:own n
  ·refine ⟨g,g1,fun j hj ho=>?_,fun j hj=>g3 j (hj.imp (fun h=>by omega) id)⟩
   rcases zw j n with h1 | h1
   ·exact g2 j h1 ho
   ·obtain rfl:j=n:=by omega
    exact absurd e ho
  ·refine ⟨g.kill n,g1,fun j hj ho=>?_,fun j hj=>?_⟩
   ·by_cases ej:j=n
    ·subst ej;rw [H.get_kill,if_pos rfl]
    ·rw [jan ej];exact g2 j om ho
   ·have ej:j≠n:=by
     rintro rfl
     rcases hj with h1 | h1
     ·omega
     ·exact e h1
    rw [jan ej];exact g3 j (hj.imp (fun h=>by omega) id)
structure RO (h:H) (ro dat:Nat->Prop) (rw:Nat) (l:List RX) (tl:List V):Prop where
 ex : ∃ q,(l≠[]->ro q) /\ ∀ g:H,g.nx=h.nx->(∀ j,j<h.nx->ro j\/dat j->g.get j=h.get j)->RW g rw q l tl
 lt : ∀ j,ro j\/dat j->j<h.nx
 hr:ro rw
 ap : ∀ j,ro j -> ¬ dat j
theorem RO.keep {h h':H} {ro dat:Nat->Prop} {rw:Nat} {l:List RX} {tl:List V} (a:RO h ro dat rw l tl) (hx:h.nx<=h'.nx) (hk : ∀ j,ro j\/dat j->h'.get j=h.get j):RO h' ro dat rw l tl:=by
 obtain ⟨q,hq,k⟩:=a.ex
 refine ⟨⟨q,hq,fun g g1 g2=>?_⟩,fun j hj=>zq (a.lt j hj) hx,a.hr,a.ap⟩
 have w:=k ⟨h.nx,g.t⟩ rfl fun j hj ho=>(g2 j (zq hj hx) ho).trans (hk j ho)
 exact w.old ⟨by rw [g1];exact hx,fun _ _=>rfl⟩
theorem RO.call {cl:Nat->Call} (hcl:Sem cl) {d p f:Nat} {args:List V} {h:H} {ro dat:Nat->Prop} {rw:Nat} {l:List RX} {tl:List V} {P:H->V->List RX->List V->Prop} (a:RO h ro dat rw l tl) (hp:p<h.nx) (hop:h.get p≠none) (hnp : ¬ (ro p\/dat p))
  (mono : ∀ g g' v l tl,Mono g g'->P g v l tl->P g' v l tl)
  (k : ∀ g q,(∀ j,j<h.nx->ro j\/dat j->g.get j=h.get j)->g.nx=h.nx->RW g rw q l tl->(q=p\/ro q) -> ∃ v q' l' tl' g',cl d (.fn f) args g=some (v,g')/\RW g' rw q' l' tl'/\Ch (RC rw q) g g'/\(q'=q\/g.nx<=q')/\P g' v l' tl') :
  ∃ v l' tl' h',cl d (.fn f) args h=some (v,h')/\RO h' (fun j=>ro j\/(h.nx<=j/\j<h'.nx)) dat rw l' tl'/\Ch ro h h'/\P h' v l' tl':=by
 obtain ⟨q0,hq0,k0⟩:=a.ex
 obtain ⟨g,g1,g2,g3⟩:=jo3 h (fun j=>ro j\/dat j) h.nx
 have w0:=k0 g g1 fun j _ ho=>g3 j (.inr ho)
 obtain ⟨q,w,hq⟩ : ∃ q,RW g rw q l tl/\(q=p\/ro q):=by
  by_cases hl:l=[]
  ·subst hl
   exact ⟨p,w0.re (by rw [g1];exact hp) (fun e=>hnp (.inl (by rw [<- e];exact a.hr))),.inl rfl⟩
  ·exact ⟨q0,w0,.inr (hq0 hl)⟩
 obtain ⟨v,q',l',tl',g',e1,e2,e3,e5,e4⟩:=k g q (fun j _ ho=>g3 j (.inr ho)) g1 w hq
 have X:Ext (fun j=>if j<h.nx/\g.get j=none then h.get j else none) g h:=by
  refine ⟨g1.symm,fun j=>?_,fun j hj=>?_⟩
  ·by_cases hj:j<h.nx
   ·by_cases ho:ro j\/dat j
    ·rw [g3 j (.inr ho)]
     cases hh:h.get j<;>simp [hh]
    ·rw [g2 j hj ho];simp [hj]
   ·rw [g3 j (.inl om)]
    cases hh:h.get j<;>simp [hj]
  ·by_cases hc:j<h.nx/\g.get j=none
   ·exact ⟨by rw [g1];exact hc.1,hc.2⟩
   ·simp [hc] at hj
 have hF:=(jhd primsF fuel d)
 rw [hcl d] at e1 ⊢
 obtain ⟨h',q1,q2⟩:=hF.1 _ _ _ _ _ e1 _ _ X
 have hx:h.nx<=h'.nx:=by rw [q2.nx,<- g1];exact e3.nx
 have m:Mono g' h':=⟨q2.nx,fun j o _ hj=>q2.has hj⟩
 have off : ∀ j,j<h.nx -> ¬ (ro j\/dat j)->g'.get j=none:=by
  intro j hj ho
  by_cases hz:h.get j=none
  ·rw [e3.get j (by rw [g1];exact hj) (by
    rintro (rfl | rfl)
    ·rcases hq with rfl | hq
     ·exact hop hz
     ·exact ho (.inl hq)
    ·exact ho (.inl a.hr)),g2 j hj ho]
  ·exact (q2.off j (by simp [hj,g2 j hj ho,hz])).2
 have same : ∀ j,(ro j\/dat j)->h'.get j=g'.get j:=by
  intro j ho
  rw [q2.get j]
  by_cases hz:g.get j=none
  ·have:h.get j=none:=by rw [<- g3 j (.inr ho),hz]
   simp [this]
  ·simp [hz]
 refine ⟨v,l',tl',h',q1,⟨⟨q',fun hl=>?_,fun g4 n4 k4=>?_⟩,fun j hj=>?_,.inl a.hr,fun j hj hd=>?_⟩,⟨hx,fun j hj ho=>?_⟩,mono _ _ _ _ _ m e4⟩
 ·have hz:=(e2.at_ hl).hq
  rcases zw q' h.nx with h1 | h1
  ·rcases e5 with rfl | h2
   ·rcases hq with rfl | hq
    ·rw [off q' h1 hnp] at hz;cases hz
    ·exact .inl hq
   ·omega
  ·exact .inr ⟨h1,by rw [q2.nx];exact e2.lq⟩
 ·refine e2.mono ⟨by rw [n4,q2.nx],fun j o hj hg=>?_⟩
  by_cases ho:ro j\/dat j
  ·rw [k4 j (by rw [q2.nx];exact hj) (ho.imp .inl id),same j ho,hg]
  ·rcases zw j h.nx with h1 | h1
   ·rw [off j h1 ho] at hg;cases hg
   ·rw [k4 j (by rw [q2.nx];exact hj) (.inl (.inr ⟨h1,by rw [q2.nx];exact hj⟩)),q2.has hg]
 ·rcases hj with (hj | hj) | hj
  ·exact zq (a.lt j (.inl hj)) hx
  ·exact hj.2
  ·exact zq (a.lt j (.inr hj)) hx
 ·rcases hj with hj | hj
  ·exact a.ap j hj hd
  ·have:=a.lt j (.inr hd)
   omega
 ·by_cases hd:dat j
  ·have hne : ¬ RC rw q j:=by
    rintro (rfl | rfl)
    ·rcases hq with rfl | hq
     ·exact hnp (.inr hd)
     ·exact a.ap _ hq hd
    ·exact a.ap _ a.hr hd
   rw [same j (.inr hd),e3.get j (by rw [g1];exact hj) hne,g3 j (.inr (.inr hd))]
  ·have h2:=off j hj (fun h=>h.elim ho hd)
   rw [q2.get j,h2]
   have h3:=g2 j hj (fun h=>h.elim ho hd)
   simp [hj,h3]
structure St where
 ws:Ws
 now:Int
 tb:Tb
 no:Option (Nat × Nat)
abbrev St.tl (r:St):List V:=tail r.now r.tb.hd r.tb.pd (noI r.no) (siI r.no)
section
variable {h h':H} {w s:Nat} {ow:Nat->Nat} {ws:Ws} {now:Int} {tb:Tb} {no:Option (Nat × Nat)}
theorem WSt.keep (a:WSt h w s ow ws now tb no) (hx:h.nx<=h'.nx) (hk : ∀ j,ow j≠0->h'.get j=h.get j):WSt h' w s ow ws now tb no:=by
 obtain ⟨l,a,e⟩:=a
 exact ⟨l,⟨a.wf.keep hx hk,a.fds⟩,e⟩
theorem WSt.top (a:WSt h w s ow ws now tb no) {j:Nat} (hj:h.nx<=j):ow j=0:=by
 obtain ⟨l,a,e⟩:=a
 exact a.wf.top j hj
theorem WSt.lt_of (a:WSt h w s ow ws now tb no) {j:Nat} (hj:ow j≠0):j<h.nx:=by
 obtain ⟨l,a,e⟩:=a
 exact a.wf.lt_of hj
theorem WSt.lw (a:WSt h w s ow ws now tb no):w<h.nx:=by
 obtain ⟨l,a,e⟩:=a
 exact a.wf.lw
end
structure BB (h:H) (p w s rw:Nat) (ow:Nat->Nat) (ro dat:Nat->Prop) (a r:St):Prop where
 W:WSt h w s ow a.ws a.now a.tb a.no
 R : ∃ l,RO h ro dat rw l r.tl/\l.map RX.x=r.ws
 hp:h.get p=some (.cells [.p w 0,.p rw 0] false)
 lp:p<h.nx
 sep : ∀ j,ro j\/dat j->ow j=0
 op:ow p=0
 rp : ¬ (ro p\/dat p)
structure Fm (h h':H) (ow:Nat->Nat) (ro:Nat->Prop) (ow':Nat->Nat) (ro':Nat->Prop):Prop where
 ch:Ch (fun j=>ow j≠0\/ro j) h h'
 tag : ∀ j,j<h.nx->ow' j=ow j
 rtag : ∀ j,j<h.nx->(ro' j↔ro j)
theorem Fm.refl {h:H} {ow:Nat->Nat} {ro:Nat->Prop} : Fm h h ow ro ow ro:=⟨Ch.refl _ _,fun _ _=>rfl,fun _ _=>Iff.rfl⟩
theorem Fm.trans {h h1 h2:H} {a b c:Nat->Nat} {x y z:Nat->Prop} (f:Fm h h1 a x b y) (g:Fm h1 h2 b y c z):Fm h h2 a x c z :=
 ⟨f.ch.trans_new g.ch fun j hj hb=>by rw [f.tag j hj,f.rtag j hj] at hb;exact hb,
  fun j hj=>by rw [g.tag j (zq hj f.ch.nx),f.tag j hj],fun j hj=>(g.rtag j (zq hj f.ch.nx)).trans (f.rtag j hj)⟩
theorem Fm.old {h h1:H} {ow:Nat->Nat} {ro:Nat->Prop} (o:Old h h1):Fm h h1 ow ro ow ro:=⟨o.ch,fun _ _=>rfl,fun _ _=>Iff.rfl⟩
theorem Fm.to {h h1:H} {ow ow':Nat->Nat} {ro:Nat->Prop} (t:To h h1 ow ow'):Fm h h1 ow ro ow' ro:=⟨t.ch.weaken fun _ _ hb=>.inl hb,t.tag,fun _ _=>Iff.rfl⟩
section
variable {h h':H} {p w s rw:Nat} {ow ow':Nat->Nat} {ro dat:Nat->Prop} {a a' r r':St}
theorem BB.old (b:BB h p w s rw ow ro dat a r) (o:Old h h'):BB h' p w s rw ow ro dat a r:=by
 obtain ⟨l,R,e⟩:=b.R
 exact ⟨b.W.old o,⟨l,R.keep o.1 fun j hj=>o.2 j (R.lt j hj),e⟩,by rw [o.2 _ b.lp,b.hp],zq b.lp o.1,b.sep,b.op,b.rp⟩
theorem BB.off (b:BB h p w s rw ow ro dat a r) (hx:h.nx<=h'.nx) (hk : ∀ j,j<h.nx->ow j≠0\/ro j\/dat j\/j=p->h'.get j=h.get j):BB h' p w s rw ow ro dat a r:=by
 obtain ⟨l,R,e⟩:=b.R
 exact ⟨b.W.keep hx fun j hj=>hk j (b.W.lt_of hj) (.inl hj),⟨l,R.keep hx fun j hj=>hk j (R.lt j hj) (.inr (hj.imp id .inl)),e⟩,by rw [hk _ b.lp (.inr (.inr (.inr rfl))),b.hp],zq b.lp hx,b.sep,b.op,b.rp⟩
theorem BB.wc (b:BB h p w s rw ow ro dat a r) (W:WSt h' w s ow' a'.ws a'.now a'.tb a'.no) (t:To h h' ow ow'):BB h' p w s rw ow' ro dat a' r:=by
 obtain ⟨l,R,e⟩:=b.R
 refine ⟨W,⟨l,R.keep t.ch.nx fun j hj=>t.ch.get j (R.lt j hj) fun hne=>hne (b.sep j hj),e⟩,by rw [t.ch.get p b.lp fun hne=>hne b.op,b.hp],zq b.lp t.ch.nx,fun j hj=>by rw [t.tag j (R.lt j hj)];exact b.sep j hj,by rw [t.tag p b.lp];exact b.op,b.rp⟩
theorem BB.ro_lt (b:BB h p w s rw ow ro dat a r) {j:Nat} (hj:ro j\/dat j):j<h.nx:=by
 obtain ⟨l,R,e⟩:=b.R
 exact R.lt j hj
theorem BB.ap (b:BB h p w s rw ow ro dat a r) {j:Nat} (hj:dat j) : ¬ ro j:=by
 obtain ⟨l,R,e⟩:=b.R
 exact fun h=>R.ap j h hj
theorem BB.rcc {cl:Nat->Call} (hcl:Sem cl) {d f:Nat} {args:List V} {P:H->V->Prop} (b:BB h p w s rw ow ro dat a r)
  (mono : ∀ g g' v,Mono g g'->P g v->P g' v)
  (k : ∀ g q l,(∀ j,j<h.nx->ro j\/dat j->g.get j=h.get j)->g.nx=h.nx->(q=p\/ro q)->RW g rw q l r.tl->l.map RX.x=r.ws ->
   ∃ v q' l' g',cl d (.fn f) args g=some (v,g')/\RW g' rw q' l' r'.tl/\l'.map RX.x=r'.ws/\Ch (RC rw q) g g'/\(q'=q\/g.nx<=q')/\P g' v) :
  ∃ v h',cl d (.fn f) args h=some (v,h')/\BB h' p w s rw ow (fun j=>ro j\/(h.nx<=j/\j<h'.nx)) dat a r'/\Fm h h' ow ro ow (fun j=>ro j\/(h.nx<=j/\j<h'.nx))/\Ch ro h h'/\P h' v:=by
 obtain ⟨l,R,e⟩:=b.R
 obtain ⟨v,l',tl',h',e1,R',c1,p1,p2,p3⟩:=R.call hcl (d:=d) (f:=f) (args:=args) (P:=fun g v l' tl'=>l'.map RX.x=r'.ws/\tl'=r'.tl/\P g v) b.lp (by rw [b.hp];simp) b.rp
  (fun g g' v l' tl' m hp=>⟨hp.1,hp.2.1,mono _ _ _ m hp.2.2⟩) (fun g q ga gn w hq=>by
   obtain ⟨v,q',l',g',k1,k2,k3,k4,k5,k6⟩:=k g q l ga gn hq w e
   exact ⟨v,q',l',_,g',k1,k2,k4,k5,k3,rfl,k6⟩)
 subst p2
 refine ⟨v,h',e1,⟨b.W.keep c1.nx fun j hj=>c1.get j (b.W.lt_of hj) fun hr=>hj (b.sep j (.inl hr)),⟨l',R',p1⟩,by rw [c1.get p b.lp fun hr=>b.rp (.inl hr),b.hp],zq b.lp c1.nx,fun j hj=>?_,b.op,fun hr=>?_⟩,⟨c1.weaken fun _ _ hb=>.inr hb,fun _ _=>rfl,fun j hj=>⟨fun hr=>?_,.inl⟩⟩,c1,p3⟩
 ·rcases hj with (hj | hj) | hj
  ·exact b.sep j (.inl hj)
  ·exact b.W.top hj.1
  ·exact b.sep j (.inr hj)
 ·have:=b.lp
  rcases hr with (hr | hr) | hr
  ·exact b.rp (.inl hr)
  ·omega
  ·exact b.rp (.inr hr)
 ·rcases hr with hr | hr
  ·exact hr
  ·omega
theorem BB.rc {cl:Nat->Call} (hcl:Sem cl) {d f:Nat} {args:List V} {P:H->V->Prop} (b:BB h p w s rw ow ro dat a r)
  (mono : ∀ g g' v,Mono g g'->P g v->P g' v)
  (k : ∀ g q l,(∀ j,j<h.nx->ro j\/dat j->g.get j=h.get j)->g.nx=h.nx->(q=p\/ro q)->RW g rw q l r.tl->l.map RX.x=r.ws ->
   ∃ v q' l' g',cl d (.fn f) args g=some (v,g')/\RW g' rw q' l' r'.tl/\l'.map RX.x=r'.ws/\Ch (RC rw q) g g'/\(q'=q\/g.nx<=q')/\P g' v) :
  ∃ v h',cl d (.fn f) args h=some (v,h')/\BB h' p w s rw ow (fun j=>ro j\/(h.nx<=j/\j<h'.nx)) dat a r'/\Fm h h' ow ro ow (fun j=>ro j\/(h.nx<=j/\j<h'.nx))/\P h' v:=by
 obtain ⟨v,h',e,b',f,_,q⟩:=b.rcc hcl mono k
 exact ⟨v,h',e,b',f,q⟩
end
theorem jol (t:Tb) : ∀ n,t.sum (n+1)=sumC t.pd n
 | 0=>by simp [Tb.sum,sumC]
 | n+1=>by
  have ih:=jol t n
  rw [Tb.sum,sumC,<- ih]
  split
  ·next h=>
   rcases h with h | h
   ·omega
   ·rw [h];omega
  ·rfl
theorem joc (t:Tb):t.sum 32=sumC t.pd 31:=jol t 31
theorem handle_hd (t:Tb) (s:Int) (on:Bool):(t.handle s on).hd=jdM t.hd s on:=by
 unfold Tb.handle jdM
 by_cases h:sig? s
 ·rw [if_pos h,if_pos (show jd1 s from h)];rfl
 ·rw [if_neg h,if_neg (show ¬ jd1 s from h)]
theorem jgJ (t:Tb) (s:Int) (on:Bool):(t.handle s on).pd=jck t.pd s on:=by
 unfold Tb.handle jck
 by_cases h:sig? s
 ·rw [if_pos h]
  cases on
  ·rw [if_pos (show jd1 s/\false=false from ⟨h,rfl⟩)];rfl
  ·rw [if_neg (show ¬ (jd1 s/\true=false) from fun e=>by cases e.2)];rfl
 ·rw [if_neg h,if_neg (show ¬ (jd1 s/\on=false) from fun e=>h e.1)]
theorem raise_hd (t:Tb) (s:Int):(t.raise s).hd=t.hd:=by
 unfold Tb.raise;split<;>rfl
theorem jij (t:Tb) (s:Int):(t.raise s).pd=jdm t.hd t.pd s:=by
 unfold Tb.raise jdm
 by_cases h:sig? s/\t.hd s.toNat=true
 ·rw [if_pos h,if_pos (show jd1 s/\t.hd s.toNat=true from h)]
  funext j
  unfold put1
  by_cases e:j=s.toNat
  ·subst e;simp
  ·simp [e]
 ·rw [if_neg h,if_neg (show ¬ (jd1 s/\t.hd s.toNat=true) from h)]
theorem jjZ (t:Tb):t.take.pd=ctZ t.pd 31:=by
 funext j
 unfold Tb.take ctZ
 by_cases h:1<=j/\j<=31
 ·rw [if_pos h];show (if 1<=j/\j<32 then 0 else t.pd j)=0;rw [if_pos om]
 ·rw [if_neg h];show (if 1<=j/\j<32 then 0 else t.pd j)=_;rw [if_neg om]
theorem jjG {t:Tb} (h : ∀ k,0<=t.pd k) : ∀ n,(t.cnts (n+1)).map (fun p=>((p.1:Int),p.2))=jcc t.pd n
 | 0=>by simp [Tb.cnts,jcc]
 | n+1=>by
  have ih:=jjG h n
  have h1:=h (n+1)
  rw [Tb.cnts,jcc,<- ih]
  by_cases h0:t.pd (n+1)=0
  ·rw [if_pos (.inr h0),if_neg om];simp
  ·rw [if_neg om,if_pos om];simp
theorem jhc : ∀ l:List (Nat × Int),jaM l=jce (l.map fun p=>((p.1:Int),p.2))
 | []=>rfl
 | p :: l=>by
  have:=jhc l
  simp only [jaM,jce,List.map_cons,List.flatten_cons] at this ⊢
  rw [this];rfl
theorem jj7 {t:Tb} {n:Int} (a:t.ok n) (h0:0<=n) (s:Int) (on:Bool):(t.handle s on).ok n:=by
 intro k
 rw [jgJ]
 unfold jck put1
 split
 ·show 0<=(if k=s.toNat then (0:Int) else t.pd k)/\(if k=s.toNat then (0:Int) else t.pd k)<=n
  split
  ·omega
  ·exact a k
 ·exact a k
theorem jlh {t:Tb} {n:Int} (a:t.ok n) (s:Int):(t.raise s).ok (n+1):=by
 intro k
 have:=a k
 rw [jij]
 unfold jdm put1
 split
 ·show 0<=(if k=s.toNat then t.pd s.toNat+1 else t.pd k)/\(if k=s.toNat then t.pd s.toNat+1 else t.pd k)<=n+1
  split
  ·next e=>subst e;omega
  ·omega
 ·omega
theorem jmQ {t:Tb} {n:Int} (a:t.ok n) (h0:0<=n):t.take.ok n:=by
 intro k
 rw [jjZ]
 unfold ctZ
 split
 ·omega
 ·exact a k
theorem Tb.ok.mono {t:Tb} {m n:Int} (a:t.ok m) (h:m<=n):t.ok n:=fun k=>⟨(a k).1,by have:=(a k).2;omega⟩
structure StOk (st:St) (i:Nat):Prop where
 K:WsK st.ws
 nt:NtOk st.ws (noI st.no) (siI st.no)
 now:0<=st.now/\st.now<=18446744073709551615
 tb:st.tb.ok i
noncomputable def doS (k a n t:Int) (D:List UInt8) (st:St):St :=
 if k=0\/k=1\/k=2\/k=3 then { st with ws:=(jag st.ws k n).2 }
 else if k=4 then { st with ws:=(jaw st.ws a).2 }
 else if k=5 then { st with ws:=(jbX st.ws a n).2 }
 else if k=6 then { st with ws:=(jb6 st.ws a D).2 }
 else if k=7 then { st with ws:=(jdt st.ws a).2 }
 else if k=8 then { st with ws:=(jca st.ws a).2 }
 else if k=9 then { st with ws:=(putS st.ws a D).2 }
 else if k=10 then { st with ws:=(jc5 st.ws a n).2 }
 else if k=11 then { st with ws:=(jaK st.ws a).2 }
 else if k=12 then { st with ws:=(ja5 st.ws a).2 }
 else if k=13 then { st with ws:=(jcd st.ws a).2 }
 else if k=14 then { st with ws:=(jas st.ws a n).2 }
 else if k=15 then { st with now:=jgc st.now t }
 else if k=16 then { st with ws:=jar st.ws ((st.tb.handle a (decide (0<n))).sum 32) (noI st.no) (siI st.no),tb:=st.tb.handle a (decide (0<n)) }
 else if k=17 then { st with ws:=jar st.ws ((st.tb.raise a).sum 32) (noI st.no) (siI st.no),tb:=st.tb.raise a }
 else if k=18 then { st with ws:=jar st.ws (st.tb.take.sum 32) (noI st.no) (siI st.no),tb:=st.tb.take }
 else if k=19 then { st with ws:=ntW st.ws (st.tb.sum 32) a n,no:=noT st.ws a n st.no }
 else st
theorem StOk.ws {st:St} {i:Nat} {ws:Ws} (o:StOk st i) (K:WsK ws) (r:WsR st.ws ws):StOk { st with ws:=ws } (i+1) :=
 ⟨K,o.nt.keep r,o.now,o.tb.mono om⟩
theorem StOk.more {st:St} {i:Nat} (o:StOk st i):StOk st (i+1):=⟨o.K,o.nt,o.now,o.tb.mono om⟩
theorem jbA {P:St->Prop} {c:Prop} [Decidable c] {a b:St} (h1:c->P a) (h2:P b):P (if c then a else b):=by
 by_cases h:c
 ·rw [if_pos h];exact h1 h
 ·rw [if_neg h];exact h2
theorem doS_ok {k a n t:Int} {D:List UInt8} {st:St} {i:Nat} (o:StOk st i) (t0:0<=t) (t1:t<=18446744073709551615):StOk (doS k a n t D st) (i+1):=by
 have K:=o.K
 unfold doS
 refine jbA (P:=fun s=>StOk s (i+1)) (fun h=>o.ws (jd0 h K) makeS_r) ?_
 refine jbA (P:=fun s=>StOk s (i+1)) (fun _=>o.ws (jhS K) acceptS_r) ?_
 refine jbA (P:=fun s=>StOk s (i+1)) (fun _=>o.ws (readS_ok K) readS_r) ?_
 refine jbA (P:=fun s=>StOk s (i+1)) (fun _=>o.ws (writeS_ok K) writeS_r) ?_
 refine jbA (P:=fun s=>StOk s (i+1)) (fun _=>o.ws (shutS_ok K) shutS_r) ?_
 refine jbA (P:=fun s=>StOk s (i+1)) (fun _=>o.ws (closeS_ok K) closeS_r) ?_
 refine jbA (P:=fun s=>StOk s (i+1)) (fun _=>o.ws (putS_ok K) putS_r) ?_
 refine jbA (P:=fun s=>StOk s (i+1)) (fun _=>o.ws (takeS_ok K) takeS_r) ?_
 refine jbA (P:=fun s=>StOk s (i+1)) (fun _=>o.ws (jjs K) jkm) ?_
 refine jbA (P:=fun s=>StOk s (i+1)) (fun _=>o.ws (jio K) jjt) ?_
 refine jbA (P:=fun s=>StOk s (i+1)) (fun _=>o.ws (resetS_ok K) resetS_r) ?_
 refine jbA (P:=fun s=>StOk s (i+1)) (fun _=>o.ws (jgZ K) jm9) ?_
 refine jbA (P:=fun s=>StOk s (i+1)) (fun _=>⟨K,o.nt,?_,o.tb.mono om⟩) ?_
 ·have:=o.now
  show 0<=jgc st.now t/\jgc st.now t<=_
  unfold jgc
  split<;>omega
 refine jbA (P:=fun s=>StOk s (i+1)) (fun _=>⟨jdy K o.nt,o.nt.keep (jeh o.nt),o.now,(jj7 o.tb om _ _).mono om⟩) ?_
 refine jbA (P:=fun s=>StOk s (i+1)) (fun _=>⟨jdy K o.nt,o.nt.keep (jeh o.nt),o.now,(jlh o.tb _).mono om⟩) ?_
 refine jbA (P:=fun s=>StOk s (i+1)) (fun _=>⟨jdy K o.nt,o.nt.keep (jeh o.nt),o.now,(jmQ o.tb om).mono om⟩) ?_
 refine jbA (P:=fun s=>StOk s (i+1)) (fun _=>⟨?_,?_,o.now,o.tb.mono om⟩) o.more
 ·obtain ⟨no,si,h1,h2⟩:=jot (ws:=st.ws) (sum:=st.tb.sum 32) (a:=a) (b:=n)
  show WsK (ntW _ _ _ _)
  rw [h2];exact jdy K h1
 ·show NtOk (ntW _ _ _ _) (noI (noT _ _ _ _)) (siI (noT _ _ _ _))
  rw [jow,jov]
  obtain ⟨no,si,h1,h2⟩:=jot (ws:=st.ws) (sum:=st.tb.sum 32) (a:=a) (b:=n)
  rw [h2]
  exact (jou o.nt).keep (jeh h1)
theorem jjM (b:UInt8):jfP (jfh b)=some b:=by
 have h:b.toNat<256:=b.toNat_lt
 have h2:jeu (b.toNat:Int) 256=true:=by
  rcases zw b.toNat 256 with _ | _
  ·simp [jeu];omega
  ·omega
 simp only [jfh,jfP,h2,cond_true,zu]
 congr 1
 exact UInt8.ofNat_toNat
theorem jeA : ∀ l:List UInt8,bytesOf (bts l)=some l
 | []=>rfl
 | b :: l=>by
  show (match jfP (jfh b),bytesOf (bts l) with | some b,some l=>some (b :: l) | _,_=>none)=_
  rw [jjM,jeA l]
section
variable {call:Call} {fuel base:Nat} {ops:List Ins} {keep:List Nat} {K:List Fr} {e:Env} {h:H} {Q:Post} {ix:Nat} {dst at_:Option Nat}
theorem Ops.ofRow {x:Opd} {v:V} {N n:Nat} {l:List UInt8} (hx:x.ev e=some v) (r:Row N h 1 v n (bts l)) (k:Ops call fuel base ops keep K (layv e dst (.str l)) h Q) :
  Ops call fuel base (⟨ix,dst,.ofBytes x,none,at_,[]⟩ :: ops) keep K e h Q:=by
 refine Ops.step (I.run_read rfl ?_) k
 rcases r with ⟨rfl,h2,rfl⟩ | ⟨q,_,_,rfl,h4,h5⟩
 ·have:l=[]:=by simpa using h2
  subst this
  simp only [I.read,hx]
 ·simp only [I.read,hx]
  have hn:n=l.length:=by simpa using h5.symm
  subst hn
  cases l with
  | nil=>rfl
  | cons a l=>
   have:((a :: l).length == 0)=false:=rfl
   rw [this,cond_false,jdg h4 Zd,zj,zg Zd]
   show (match bytesOf (bts (a :: l)) with | some s=>some (V.str s) | none=>none)=_
   rw [jeA]
theorem Ops.ofBytesAt {x:Opd} {a:Option (Nat × Nat)} {c:Cap} {l:List UInt8} {m:Nat} (hx:x.ev e=some (.slice a m c)) (hl:BytesAt h a c l) (hm:m<=l.length) (k:Ops call fuel base ops keep K (layv e dst (.str (l.take m))) h Q) :
  Ops call fuel base (⟨ix,dst,.ofBytes x,none,at_,[]⟩ :: ops) keep K e h Q:=by
 refine Ops.step (I.run_read rfl ?_) k
 cases a with
 | none=>simp only [I.read,hx,(hl.none_ rfl).2,List.take_nil]
 | some a=>
  simp only [I.read,hx]
  by_cases h0:m=0
  ·subst h0;simp
  ·have:(m == 0)=false:=by simp [h0]
   rw [this,cond_false]
   obtain ⟨b,o,cs,ro,ea,_,hb,hc⟩:=hl.at_ (by rintro rfl;simp at hm;omega)
   cases ea
   obtain ⟨p1,p2⟩:=jd4 (k:=0) (m:=m) hc om om
   rw [jdg hb om]
   simp only [Nat.add_zero,zj] at p2
   show (match bytesOf ((cs.drop o).take m) with | some s=>some (V.str s) | none=>none)=_
   rw [p2,jeA]
theorem Ops.mark {x:Opd} {b o n:Nat} {c:Cap} {l:List V} (hx:x.ev e=some (.slice (some (b,o)) n c)) (hb:h.get b=some (.cells l false)) (hn:Nat.ble 1 n=true) (k:Ops call fuel base ops keep K (layv e dst (.slice (some (b,o)) n c)) h Q) :
  Ops call fuel base (⟨ix,dst,.mark x,none,at_,[]⟩ :: ops) keep K e h Q:=by
 refine Ops.step (I.run_eff rfl ?_) k
 simp only [I.eff,hx,hb,hn,cond_true]
end
abbrev opV (k a n t:Int) (dv:V):List V:=[.i k,.i a,.i n,.int .u64 t,dv]
structure Dat (h:H) (dat:Nat->Prop) (dv:V) (D:List UInt8):Prop where
 v:VB h dv D
 z:D≠[] -> ∀ z,dv.at?=some z->dat z
 len:D.length<=300
structure Cpy (h:H) (p:Nat) (ow:Nat->Nat) (ro dat:Nat->Prop) (vd:V) (D:List UInt8):Prop where
 v:VB h vd D
 z : ∀ z,vd.at?=some z->z<h.nx/\ow z=0 /\ ¬ ro z /\ ¬ dat z/\z≠p
section
variable {h h':H} {p w s rw:Nat} {ow ow':Nat->Nat} {ro ro' dat:Nat->Prop} {a r a' r':St} {dv vd:V} {D:List UInt8}
theorem BB.keepD (b:BB h p w s rw ow ro dat a r) (f:Fm h h' ow ro ow' ro') {z:Nat} (hz:dat z):h'.get z=h.get z :=
 f.ch.get z (b.ro_lt (.inr hz)) fun e=>e.elim (fun e=>e (b.sep z (.inr hz))) (b.ap hz)
theorem Dat.keep (d:Dat h dat dv D) (b:BB h p w s rw ow ro dat a r) (f:Fm h h' ow ro ow' ro'):Dat h' dat dv D :=
 ⟨d.v.keep2 f.ch.nx fun hl z hz=>b.keepD f (d.z hl z hz),d.z,d.len⟩
theorem Cpy.keep (c:Cpy h p ow ro dat vd D) (f:Fm h h' ow ro ow' ro'):Cpy h' p ow' ro' dat vd D :=
 ⟨c.v.keep f.ch.nx fun z hz=>by
  obtain ⟨p1,p2,p3,p4,p5⟩:=c.z z hz
  exact f.ch.get z p1 fun e=>e.elim (fun e=>e p2) p3,fun z hz=>by
  obtain ⟨p1,p2,p3,p4,p5⟩:=c.z z hz
  exact ⟨zq p1 f.ch.nx,by rw [f.tag z p1];exact p2,fun e=>p3 ((f.rtag z p1).1 e),p4,p5⟩⟩
theorem Dat.in_ {g:H} {q:Nat} (d:Dat h dat dv D) (b:BB h p w s rw ow ro dat a r) (ga : ∀ j,j<h.nx->ro j\/dat j->g.get j=h.get j) (gn:g.nx=h.nx) (hq:q=p\/ro q) :
  VB g dv D/\(D≠[] -> ∀ z,dv.at?=some z->z≠q/\z≠rw/\z<g.nx):=by
 refine ⟨d.v.keep2 om fun hl z hz=>ga z (b.ro_lt (.inr (d.z hl z hz))) (.inr (d.z hl z hz)),fun hl z hz=>?_⟩
 have dz:=d.z hl z hz
 refine ⟨fun e=>?_,fun e=>?_,by rw [gn];exact b.ro_lt (.inr dz)⟩
 ·rcases hq with rfl | hq
  ·exact b.rp (.inr (by rw [<- e];exact dz))
  ·exact b.ap dz (by rw [e];exact hq)
 ·obtain ⟨l,R,_⟩:=b.R
  exact b.ap dz (by rw [e];exact R.hr)
theorem BB.off_w {h1:H} (b:BB h p w s rw ow ro dat a r) (t:To h h1 ow ow') {o:Obj} {z:Nat} (hz:z<h.nx) (h0:ow z=0) (g:h.get z=some o):h1.get z=some o:=by
 rw [t.ch.get z hz fun e=>e h0,g]
theorem Fm.two {h1 h2:H} {ow1:Nat->Nat} (o:Old h h') (t:To h' h1 ow ow1) (f:Fm h1 h2 ow1 ro ow1 ro'):Fm h h2 ow ro ow1 ro':=(Fm.old o).trans ((Fm.to t).trans f)
end
def jdb (cl:Nat->Call) (d f:Nat) (h:H) (p w s rw:Nat) (ow:Nat->Nat) (ro dat:Nat->Prop) (args:List V) (st':St):Prop :=
 ∃ h' ow' ro',cl d (.fn f) args h=some (.bool true,h')/\BB h' p w s rw ow' ro' dat st' st'/\Fm h h' ow ro ow' ro'
section
variable {call:Call} {fuel base:Nat} {ops:List Ins} {keep:List Nat} {K:List Fr} {e:Env} {h:H} {Q:Post} {ix:Nat} {dst at_:Option Nat}
theorem Ops.ixAn {x i:Opd} {l vs:List V} {kd:IntKind} {n sz m len:Nat} (hx:x.ev e=some (.agg l)) (hi:i.ev e=some (.int kd (n:Int))) (hn:n<len) (hl:n*sz+m<=l.length) (hv:(l.drop (n*sz)).take m=vs)
  (k:Ops call fuel base ops keep K (layv e dst (.agg vs)) h Q):Ops call fuel base (⟨ix,dst,.ixA len sz (some m) x i,none,at_,[]⟩ :: ops) keep K e h Q:=by
 refine Ops.pure rfl ?_ k
 have h1:Nat.blt n len=true:=by simp [Nat.blt];omega
 have h2:Nat.ble (n*sz+m) l.length=true:=by simpa using hl
 simp only [I.pure,hx,hi]
 show (bif jeu (Int.ofNat n) len then _ else _)=_
 simp only [jeu,h1,cond_true,part]
 show (match (bif Nat.ble (n*sz+m) l.length then some (V.agg ((l.drop (n*sz)).take m)) else none) with | some v=>some v | none=>none)=_
 rw [h2];simp only [cond_true,hv]
end
section
variable {f:Nat->Option (Nat × Nat)} {wv:V} {s:Nat} {now:Int} {no:Option (Nat × Nat)}
theorem jm5 {i:Nat} (hi:i<96):((jdF f).drop (i*3)).take 3=plc (f i) :=
 joQ (jeY (i:=i) (j:=0) hi om rfl) (jeY (i:=i) (j:=1) hi om rfl) (jeY (i:=i) (j:=2) hi om rfl)
theorem jmN:((wc f wv s now no).drop 0).take 288=jdF f:=by
 unfold wc
 rw [zj,List.take_append_of_le_length (by rw [jaB];omega),zg (by rw [jaB];omega)]
end
section
variable {cl:Nat->Call} (hcl:Sem cl) {h:H} {w s:Nat} {ow:Nat->Nat} {f:Nat->Option (Nat × Nat)} {l:List WX} {now:Int} {tb:Tb} {no:Option (Nat × Nat)}
include hcl
theorem jiW {d L bx:Nat} {wl:List V} (hd:2<=d) (I:Nat->H->Prop) (J:H->Prop) (hw:h.get w=some (.cells (wc f (.slice none 0 (.fix 0)) s now no) false)\/h.get w=some (.cells wl false)) (hwl:wl.length=294/\(wl.drop 0).take 288=jdF f) (hbx:h.get bx=some (.cells [.p w 0] false))
  (hI : ∀ i g g',I i g->Old g g'->I i g') (hskip : ∀ i g,i<96->f i≠none->I i g->I (i+1) g)
  (hy : ∀ i g,i<96->f i=none->I i g -> ∃ (b:Bool) (g':H),cl (d-1) (.yld L) [.i (i:Int)] g=some (.bool b,g')/\(b=true->I (i+1) g')/\(b=false->J g'))
  (h0:I 0 h) : ∃ v h',cl d (.fn F.jbR) [.yld L,.p bx 0] h=some (v,h')/\(I 96 h'\/J h'):=by
 have hw : ∃ wl,h.get w=some (.cells wl false)/\wl.length=294/\(wl.drop 0).take 288=jdF f:=by
  rcases hw with hw | hw
  ·exact ⟨_,hw,jbz,jmN⟩
  ·exact ⟨_,hw,hwl⟩
 obtain ⟨wl,hw,hl,ht⟩:=hw
 refine at_ hcl om rfl rfl rfl ?_
 refine qx1 ?_
 refine Ops.loadN rfl hw om ?_
 rw [ht]
 refine qx1 ?_
 refine Run.loop (fun m e g=>∃ i:Nat,m=96-i/\i<=96/\e=[(0,.yld L),(8,.agg (jdF f)),(9,.i i)]/\I i g) (k:=96) Ze ⟨0,rfl,by omega,rfl,h0⟩ ?_
 rintro _ _ g ⟨i,rfl,hi,rfl,hIi⟩ n ih
 by_cases hlt:i<96
 case neg=>
  obtain rfl:i=96:=by omega
  have hlt' : ¬ ((96:Nat):Int)<96:=by omega
  refine qx1 ?_
  exact .inl hIi
 have hi1:((i+1:Nat):Int)=(i:Int)+1:=by omega
 refine qx1 ?_
 refine Ops.ixAn (m:=3) rfl rfl hlt (by rw [jaB];omega) (jm5 hlt) ?_
 refine Ops.make rfl rfl ?_
 refine qx1 ?_
 have o1:Old g ((g.new (.cells [.bool false,.i 0,.i 0] false)).set g.nx (.cells (plc (f i)) false)):=((Old.refl g).new).set (zp _)
 have I1:=hI _ _ _ hIi o1
 cases hf:f i with
 | some p=>
  rw [hf] at I1
  refine qm1 ?_
  exact ih (96-(i+1)) om _ _ ⟨i+1,rfl,by omega,by rw [hi1],hskip i _ hlt (by rw [hf];simp) I1⟩
 | none=>
  rw [hf] at I1
  obtain ⟨b,g',e1,q1,q2⟩:=hy i _ hlt hf I1
  cases b
  ·refine qm1 ?_
   refine Ops.yield rfl rfl e1 ?_
   refine qm1 ?_
   exact .inr (q2 rfl)
  ·refine qm1 ?_
   refine Ops.yield rfl rfl e1 ?_
   refine qm1 ?_
   exact ih (96-(i+1)) om _ _ ⟨i+1,rfl,by omega,by rw [hi1],q1 rfl⟩
theorem jmM {d:Nat} (hd:1<=d):cl d (.fn F.jfS) [.p w 0] h=some (.clo F.jbR [.p h.nx 0],h.new (.cells [.p w 0] false)):=by
 refine jak (at_ hcl om rfl rfl rfl ?_)
 refine qx1 ?_
 refine Ops.make rfl rfl ?_
 refine qx1 ?_
 exact ⟨rfl,rfl⟩
theorem ww_Pass {d:Nat} {ws:Ws} {t:Int} (hd:2<=d) (a:WSt h w s ow ws now tb no) (n0:0<=now) (n1:now<=18446744073709551615) (t0:0<=t) (t1:t<=18446744073709551615) :
  ∃ h',cl d (.fn F.jfU) [.p w 0,.int .u64 t] h=some (.tup [],h')/\WSt h' w s ow ws (jgc now t) tb no/\To h h' ow ow:=by
 obtain ⟨l,a,rfl⟩:=a
 have hn:=jch hcl (d:=d-1) om a.wf
 obtain ⟨wv,hw,hr,hz⟩:=a.wf.hw
 have e0:=wc_now (f:=fun i=>atS (wxs l) (i:Int)) (wv:=wv) (s:=s) (now:=now) (no:=no) (o:=0+290) rfl
 have es:jgc now t=now+min t (18446744073709551615-now):=by unfold jgc;split<;>omega
 have hlen:0+290<(wc (fun i=>atS (wxs l) (i:Int)) wv s now no).length:=by rw [jbz];omega
 refine jal (at_ hcl om rfl rfl rfl ?_)
 refine qx1 ?_
 refine Ops.store1 rfl rfl rfl hw hlen ?_
 rw [jlJ rfl,<- es]
 refine qx1 ?_
 have hne : ∀ j,ow j≠1->j≠w:=fun j hj e=>hj (by rw [e,a.wf.tw])
 refine ⟨rfl,⟨l,⟨⟨⟨wv,jab _,hr.keep (zp _) fun z hz'=>jaa (hne z (by rw [hz z hz'];omega)),hz⟩,?_,a.wf.tw,a.wf.ts,a.wf.lw,a.wf.ls,a.wf.top,fun m t ht=>(a.wf.ok m t ht).keep (zp _) fun j h1 _=>jaa (hne j om)⟩,a.fds⟩,rfl⟩,Ch.set (by show ow w≠0;rw [a.wf.tw];omega),fun _ _=>rfl⟩
 rw [jaa (hne s (by rw [a.wf.ts];omega)),a.wf.hs]
end
theorem jdN (ws:Ws) : ∀ (m n:Nat),n<=m->(jat ws m).take (jat ws n).length=jat ws n
 | 0,n,h=>by
  obtain rfl:n=0:=by omega
  simp
 | m+1,n,h=>by
  by_cases e:n=m+1
  ·subst e;simp
  ·have ih:=jdN ws m n om
   have hl:(jat ws n).length<=(jat ws m).length:=by
    have:=congrArg List.length ih
    rw [List.length_take] at this
    omega
   rw [jcl,List.take_append_of_le_length hl,ih]
section
variable {cl:Nat->Call} (hcl:Sem cl) {h:H} {w s:Nat} {ow:Nat->Nat} {l:List WX} {now:Int} {tb:Tb} {no:Option (Nat × Nat)}
include hcl
theorem jfo {d k:Nat} (hd:5<=d) (hk:k=1\/k=2) (a:WW h w s ow l now tb no) (hlen:l.length<=1000) :
  ∃ v h',cl d (.fn F.jcA) [.p w 0,.i (k:Int)] h=some (.tup [v,.bool (decide (((jat (wxs l) 96).take k).length=k)&&decide (l.length<1000))],h')/\VI h' v ((jat (wxs l) 96).take k)/\(∀ z,v.at?=some z->h.nx<=z/\z<h'.nx)/\Old h h':=by
 obtain ⟨sa,c,hw,_⟩:=a.wf.head
 have lw:=a.wf.lw
 suffices q : ∃ v2 h',cl d (.fn F.jcA) [.p w 0,.i (k:Int)] h=some (v2,h') /\ ∃ v,v2 = .tup [v,.bool (decide (((jat (wxs l) 96).take k).length=k)&&decide (l.length<1000))]/\Row h.nx h' 1 v ((jat (wxs l) 96).take k).length (ints ((jat (wxs l) 96).take k))/\Old h h' by
  obtain ⟨_,h',e,v,rfl,r,o⟩:=q
  obtain ⟨p1,p2⟩:=VI.ofRow r
  exact ⟨v,h',e,p1,p2,o⟩
 refine at_ hcl om rfl rfl rfl ?_
 refine qx1 ?_
 refine Ops.make (ob := .cells [.i (k:Int)] false) (mk:=fun b=>.p b 0) rfl rfl ?_
 refine qx1 ?_
 refine Ops.make (ob := .cells [.nils] false) (mk:=fun b=>.p b 0) rfl rfl ?_
 refine qx1 ?_
 refine Ops.callf rfl (jmM hcl (w:=w) om) ?_
 rw [show ((h.new (.cells [.i (k:Int)] false)).new (.cells [.nils] false)).nx=h.nx+2 from rfl,show (h.new (.cells [.i (k:Int)] false)).nx=h.nx+1 from rfl]
 refine qx1 ?_
 have o1:Old h (((h.new (.cells [.i (k:Int)] false)).new (.cells [.nils] false)).new (.cells [.p w 0] false)):=(Old.refl h).new.new.new
 have b0:(((h.new (.cells [.i (k:Int)] false)).new (.cells [.nils] false)).new (.cells [.p w 0] false)).get h.nx=some (.cells [.i (k:Int)] false):=qgt
 have b1:(((h.new (.cells [.i (k:Int)] false)).new (.cells [.nils] false)).new (.cells [.p w 0] false)).get (h.nx+1)=some (.cells [.nils] false):=qgt
 have b2:(((h.new (.cells [.i (k:Int)] false)).new (.cells [.nils] false)).new (.cells [.p w 0] false)).get (h.nx+2)=some (.cells [.p w 0] false):=qgt
 have x1:(((h.new (.cells [.i (k:Int)] false)).new (.cells [.nils] false)).new (.cells [.p w 0] false)).nx=h.nx+3:=rfl
 generalize ((h.new (.cells [.i (k:Int)] false)).new (.cells [.nils] false)).new (.cells [.p w 0] false)=H1 at o1 b0 b1 b2 x1 ⊢
 refine Run.rangeFunc_lo rfl qkp fun LO hLO=>?_
 rw [x1]
 have oL:Old h (H1.new (LO .ready none)):=o1.new
 obtain ⟨v,h',hc,hIJ⟩:=jiW hcl (d:=d-1) (L:=h.nx+3) (bx:=h.nx+2) (h:=H1.new (LO .ready none)) (f:=fun i=>atS (wxs l) (i:Int)) (s:=s) (now:=now) (no:=no) (w:=w) (wl:=wc (fun i=>atS (wxs l) (i:Int)) (.slice sa l.length c) s now no) om
  (fun i g=>(jat (wxs l) i).length<=k/\i<=96/\(∃ v,g.get (h.nx+1)=some (.cells [v] false)/\Row (h.nx+4) g 1 v (jat (wxs l) i).length (ints (jat (wxs l) i)))/\g.get h.nx=some (.cells [.i (k:Int)] false)/\g.get (h.nx+3)=some (LO .ready none)/\h.nx+4<=g.nx/\Old h g)
  (fun g=>(∃ v,g.get (h.nx+1)=some (.cells [v] false)/\Row (h.nx+4) g 1 v ((jat (wxs l) 96).take k).length (ints ((jat (wxs l) 96).take k)))/\g.get h.nx=some (.cells [.i (k:Int)] false)/\g.get (h.nx+3)=some (LO .done (some (.exit 0)))/\h.nx+4<=g.nx/\Old h g)
  (.inr (by rw [oL.2 _ lw,hw])) ⟨jbz,jmN⟩ (by rw [jad om,b2])
  (by
   rintro i g g' ⟨p0,p00,⟨v,p1,p2⟩,p3,p4,p5,p6⟩ og
   exact ⟨p0,p00,⟨v,by rw [og.2 _ om,p1],p2.keep og.1 fun z hz=>og.2 z (p2.at_ge hz).2⟩,by rw [og.2 _ om,p3],by rw [og.2 _ om,p4],zy p5 og.1,p6.trans og⟩)
  (by
   rintro i g hi hf ⟨p0,p00,p1,p2⟩
   have e:jat (wxs l) (i+1)=jat (wxs l) i:=by
    have:(atS (wxs l) (i:Int)).isNone=false:=by cases h5:atS (wxs l) (i:Int)<;>simp_all
    rw [jcl,this];simp
   rw [e];exact ⟨p0,by omega,p1,p2⟩)
  (by
   rintro i g hi hf ⟨p0,p00,⟨v,p1,p2⟩,p3,p4,p5,p6⟩
   have hfi:atS (wxs l) (i:Int)=none:=hf
   have e:jat (wxs l) (i+1)=jat (wxs l) i++[(i:Int)]:=by rw [jcl,hfi];rfl
   have hll:=jgR (wxs l) i
   obtain ⟨cp,⟨av,rfl⟩,_⟩:=p2.shape
   suffices q : ∃ v' g',cl (d-1-1) (.yld (h.nx+3)) [.i (i:Int)] g=some (v',g') /\ ∃ b:Bool,v' = .bool b/\(b=true->(jat (wxs l) (i+1)).length<=k/\i+1<=96/\(∃ v,g'.get (h.nx+1)=some (.cells [v] false)/\Row (h.nx+4) g' 1 v (jat (wxs l) (i+1)).length (ints (jat (wxs l) (i+1))))/\g'.get h.nx=some (.cells [.i (k:Int)] false)/\g'.get (h.nx+3)=some (LO .ready none)/\h.nx+4<=g'.nx/\Old h g') /\
     (b=false->(∃ v,g'.get (h.nx+1)=some (.cells [v] false)/\Row (h.nx+4) g' 1 v ((jat (wxs l) 96).take k).length (ints ((jat (wxs l) 96).take k)))/\g'.get h.nx=some (.cells [.i (k:Int)] false)/\g'.get (h.nx+3)=some (LO .done (some (.exit 0)))/\h.nx+4<=g'.nx/\Old h g') by
    obtain ⟨_,g',e,b,rfl,q⟩:=q
    exact ⟨b,g',e,q⟩
   refine yl_ hcl om hLO p4 rfl ?_
   refine qx1 ?_
   refine End.nil ⟨rfl,p4,?_⟩
   by_cases hck:(jat (wxs l) i).length=k
   ·have hck':((jat (wxs l) i).length:Int)=(k:Int):=by omega
    refine qx1 ?_
    refine End.nil ⟨⟨.busy,none,qgt⟩,false,rfl,fun e=>(by cases e),fun _=>⟨⟨_,qgt,?_⟩,qgt,jab _,by simpa using p5,?_⟩⟩
    ·rw [<- hck,jdN _ 96 i om]
     exact p2.keep Zd fun z hz=>by have:=p2.at_ge hz;rw [jaa om,jaa om]
    ·exact (p6.set om).set om
   ·have hck' : ¬ ((jat (wxs l) i).length:Int)=(k:Int):=by omega
    refine qx1 ?_
    have p2':Row (h.nx+4) (g.set (h.nx+3) (LO .busy none)) 1 (.slice av (jat (wxs l) i).length cp) (jat (wxs l) i).length (ints (jat (wxs l) i)):=p2.keep Zd fun z hz=>by have:=p2.at_ge hz;exact jaa om
    refine Ops.push (N:=h.nx+4) (new:=[.i (i:Int)]) rfl rfl rfl rfl om rfl rfl p2' (by simpa using p5) om om fun v' g2 row' hx' hz' hk'=>?_
    have hx':g.nx<=g2.nx:=by simpa using hx'
    have hk2 : ∀ j,j<h.nx+4->g2.get j=(g.set (h.nx+3) (LO .busy none)).get j:=fun j hj=>hk' j Zc fun e=>by have:=p2'.at_ge e;omega
    have q1:g2.get (h.nx+1)=some (.cells [.slice av (jat (wxs l) i).length cp] false):=by rw [hk2 _ om];exact qgt
    have hone:=row'.one
    refine Ops.store1 rfl rfl hone q1 Nat.zero_lt_one ?_
    refine qx1 ?_
    refine End.nil ⟨⟨.busy,none,by rw [jaa om,hk2 _ om,jab]⟩,true,rfl,fun _=>⟨by rw [e,ze];simp;omega,by omega,⟨v',qgt,?_⟩,?_,jab _,by simp;omega,?_⟩,fun e=>by cases e⟩
    ·rw [e,ze]
     have r2:Row (h.nx+4) g2 1 v' ((jat (wxs l) i).length+[(i:Int)].length) (ints (jat (wxs l) i++[(i:Int)])):=by simpa [ints] using row'
     exact r2.keep Zd fun z hz=>by have:=hz' z hz;simp at this;rw [jaa om,jaa om]
    ·rw [jaa om,jaa om,hk2 _ om,jaa om,p3]
    ·have p7:=p6.1
     exact ⟨by simp;omega,fun j hj=>by rw [jaa om,jaa om,hk2 _ om,jaa om,p6.2 j hj]⟩)
  ⟨by simp [jat],by omega,⟨.nils,by rw [jad om,b1],by simpa [jat] using Row.nil _ _ _⟩,by rw [jad om,b0],by rw [<- x1,jac],by simp [x1],oL⟩
 refine ⟨v,h',hc,?_⟩
 have fin : ∀ (v:V) (g:H),g.get (h.nx+1)=some (.cells [v] false)->Row (h.nx+4) g 1 v ((jat (wxs l) 96).take k).length (ints ((jat (wxs l) 96).take k))->g.get h.nx=some (.cells [.i (k:Int)] false)->h.nx+4<=g.nx->Old h g ->
   End (cl (d-1)) fuel [.seq c70_1] .normal [(0,.p w 0),(3,.p h.nx 0),(6,.p (h.nx+1) 0),(9,.clo F.jbR [.p (h.nx+2) 0])] (g.kill (h.nx+3)) (Fin c70.res fun v2 h'=>∃ v,v2 = .tup [v,.bool (decide (((jat (wxs l) 96).take k).length=k)&&decide (l.length<1000))]/\Row h.nx h' 1 v ((jat (wxs l) 96).take k).length (ints ((jat (wxs l) 96).take k))/\Old h h'):=by
  intro v g g1 r g0 gn og
  have hw':g.get w=some (.cells (wc (fun i=>atS (wxs l) (i:Int)) (.slice sa l.length c) s now no) false):=by rw [og.2 _ lw,hw]
  have k1:(g.kill (h.nx+3)).get (h.nx+1)=some (.cells [v] false):=by rw [jan om,g1]
  have k0:(g.kill (h.nx+3)).get h.nx=some (.cells [.i (k:Int)] false):=by rw [jan om,g0]
  have kw:(g.kill (h.nx+3)).get w=some (.cells (wc (fun i=>atS (wxs l) (i:Int)) (.slice sa l.length c) s now no) false):=by rw [jan om,hw']
  have w1:(wc (fun i=>atS (wxs l) (i:Int)) (.slice sa l.length c) s now no)[0+288]?=some (.slice sa l.length c):=jbd rfl
  have r2:Row h.nx (g.kill (h.nx+3)) 1 v ((jat (wxs l) 96).take k).length (ints ((jat (wxs l) 96).take k)):=(r.keep Zd fun z hz=>by have:=r.at_ge hz;exact jan om).weaken om
  have o2:Old h (g.kill (h.nx+3)):=⟨by simpa using og.1,fun j hj=>by rw [jan om,og.2 j hj]⟩
  obtain ⟨cp,⟨av,rfl⟩,_⟩:=r.shape
  generalize (jat (wxs l) 96).take k=fl at r2 k1 ⊢
  by_cases h1:(fl.length:Int)=(k:Int)
  ·have h1':fl.length=k:=by omega
   refine qx1 ?_
   have el:decide (l.length<1000)=decide ((l.length:Int)<1000):=by
    by_cases e:l.length<1000
    ·rw [decide_eq_true e,decide_eq_true om]
    ·rw [decide_eq_false e,decide_eq_false om]
   refine ⟨_,?_,r2,o2⟩
   rw [decide_eq_true h1',Bool.true_and,el]
  ·have h1' : ¬ fl.length=k:=by omega
   refine qx1 ?_
   exact ⟨_,by rw [decide_eq_false h1',Bool.false_and],r2,o2⟩
 rcases hIJ with ⟨p0,_,⟨v,p1,p2⟩,p3,p4,p5,p6⟩ | ⟨⟨v,p1,p2⟩,p3,p4,p5,p6⟩
 ·refine ⟨.normal,p4,?_⟩
  have et:(jat (wxs l) 96).take k=jat (wxs l) 96:=zg p0
  have:=fin v h' p1 (by rw [et];exact p2) p3 p5 p6
  exact zbw this
 ·refine ⟨.exit 0,p4,?_⟩
  have:=fin v h' p1 p2 p3 p5 p6
  exact zby this
end
end Am.Sigs
