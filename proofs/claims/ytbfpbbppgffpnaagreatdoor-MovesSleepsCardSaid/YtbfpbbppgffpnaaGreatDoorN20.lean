/- Our own library, part 20. -/
import Derived.Test.YtbfpbbppgffpnaaGreatDoorN19
import Derived.Test.YtbfpbbppgffpnaaGreatDoorN09
import Derived.Test.YtbfpbbppgffpnaaGreatDoorN16
import Derived.Test.YtbfpbbppgffpnaaGreatDoorN17
import Derived.Test.YtbfpbbppgffpnaaGreatDoorN14
import Derived.Test.YtbfpbbppgffpnaaGreatDoorN18
set_option maxHeartbeats 8000000
set_option linter.all false
namespace Am.Sigs
open Am Go
theorem jog {ws:Ws} {fd:Int} {n k:Nat} (h:atS ws fd=some (n,k)):AtW ws n k fd:=by
 unfold atS at h
 split at h
 ·next hx=>
  have:=hx.choose_spec
  rw [Option.some.inj h] at this
  exact this
 ·cases h
theorem jof {ws:Ws} {fd:Int} (h:atS ws fd=none) : ∀ n k,¬ AtW ws n k fd:=by
 intro n k a
 unfold atS at h
 rw [dif_pos ⟨(n,k),a⟩] at h
 cases h
theorem jbq {α : Type} {P : α -> Prop} {ws:Ws} {fd:Int} {no : α} {f:Nat->Nat->Wi -> α} (hno:P no) (h : ∀ n k x,ws[n]?=some x->(k=0\/k=1)->(x.e k).what=1->P (f n k x)):P (jbU ws fd no f):=by
 unfold jbU
 cases e:atS ws fd with
 | none=>exact hno
 | some p=>
  obtain ⟨n,k⟩:=p
  obtain ⟨x,hx,hk,h1,_⟩:=jog e
  simp only [hx]
  exact h n k x hx hk h1
theorem jbt {α : Type} {P : α -> Prop} {ws:Ws} {n:Int} {no : α} {f:Nat->Wi -> α} (hno:P no) (h : ∀ n x,ws[n]?=some x->x.e1.what=2->P (f n x)):P (jcV ws n no f):=by
 unfold jcV
 split
 ·split
  ·exact hno
  ·next x hx=>
   split
   ·next h2=>exact h _ _ hx h2
   ·exact hno
 ·exact hno
theorem readS_ok {ws:Ws} {fd many:Int} (K:WsK ws):WsK (jcm ws fd many).2:=by
 unfold jcm
 refine jbq (P:=fun r:_ × Ws=>WsK r.2) K fun n k x hx hk h1=>?_
 split
 ·exact K
 ·next q hq=>
  repeat' split
  all_goals first | exact K | exact K.take hx hk hq
theorem writeS_ok {ws:Ws} {fd:Int} {b:List UInt8} (K:WsK ws):WsK (jbE ws fd b).2:=by
 unfold jbE
 refine jbq (P:=fun r:_ × Ws=>WsK r.2) K fun n k x hx hk h1=>?_
 split
 ·exact K
 split
 ·exact K
 split
 ·exact K
 split
 ·exact K
 split
 ·exact K
 ·next q hq=>
  split
  ·exact K.fill hx hk hq (Nat.zero_le _)
  ·exact K.fill hx hk hq (Nat.min_le_right _ _)
theorem shutS_ok {ws:Ws} {fd:Int} (K:WsK ws):WsK (jdN ws fd).2:=by
 unfold jdN
 refine jbq (P:=fun r:_ × Ws=>WsK r.2) K fun n k x hx hk h1=>?_
 split
 ·exact K
 ·exact K.doShut hx hk
theorem closeS_ok {ws:Ws} {fd:Int} (K:WsK ws):WsK (jcu ws fd).2:=by
 unfold jcu
 exact jbq (P:=fun r:_ × Ws=>WsK r.2) K fun n k x hx hk h1=>K.close hx hk h1
theorem putS_ok {ws:Ws} {n:Int} {b:List UInt8} (K:WsK ws):WsK (putS ws n b).2:=by
 unfold putS
 refine jbt (P:=fun r:_ × Ws=>WsK r.2) K fun n x hx h2=>?_
 split
 ·exact K
 split
 ·exact K
 split
 ·exact K
 ·next q hq=>exact K.fill hx (.inr rfl) hq (Nat.min_le_right _ _)
theorem takeS_ok {ws:Ws} {n many:Int} (K:WsK ws):WsK (jci ws n many).2:=by
 unfold jci
 refine jbt (P:=fun r:_ × Ws=>WsK r.2) K fun n x hx h2=>?_
 split
 ·exact K
 split
 ·exact K
 split
 ·exact K
 ·next q hq=>exact K.take hx (.inr rfl) hq
theorem jkx {ws:Ws} {n:Int} (K:WsK ws):WsK (ja8 ws n).2 :=
 jbt (P:=fun r:_ × Ws=>WsK r.2) K fun _ _ hx _=>K.doShut hx (.inr rfl)
theorem jj9 {ws:Ws} {n:Int} (K:WsK ws):WsK (jaz ws n).2 :=
 jbt (P:=fun r:_ × Ws=>WsK r.2) K fun _ _ hx _=>
  have c:=jig (k:=1) (.inr rfl)
  K.set hx c.1 c.2.1 c.2.2.1 fun h=>c.2.2.2 h rfl
theorem resetS_ok {ws:Ws} {n:Int} (K:WsK ws):WsK (jbX ws n).2:=by
 unfold jbX
 refine jbt (P:=fun r:_ × Ws=>WsK r.2) K fun n x hx h2=>?_
 have o:=K.ok.ok x (zc hx)
 obtain ⟨q0,q1⟩:=o.out h2
 obtain ⟨a,ha⟩ : ∃ a,x.e0.ring=some a:=Option.ne_none_iff_exists'.1 q0
 obtain ⟨b,hb⟩ : ∃ b,x.e1.ring=some b:=Option.ne_none_iff_exists'.1 q1
 have e:x.SubFd x.doReset/\(WiOk x->WiOk x.doReset)/\x.doReset.waiting=x.waiting/\x.doReset.e0.what=x.e0.what:=by
  unfold Wi.doReset
  split
  ·exact ⟨Wi.SubFd.refl x,id,rfl,rfl⟩
  ·have z0:(0:Nat)=0\/(0:Nat)=1 := .inl rfl
   have z1:(1:Nat)=0\/(1:Nat)=1 := .inr rfl
   have p0:x.SubFd { x with reset:=true } /\ (WiOk x->WiOk { x with reset:=true }):=by
    refine ⟨fun j hj=>by (rcases hj with rfl | rfl<;>exact fun h=>⟨h,rfl⟩),fun a=>⟨a.cap0,a.cap1,fun j hj=>?_,fun j hj=>?_,a.out,a.bl,a.wh⟩⟩
    ·have:=a.len j hj;rcases hj with rfl | rfl<;>exact this
    ·have:=a.pair j hj;rcases hj with rfl | rfl<;>exact this
   refine ⟨(((p0.1.trans (jjv z0)).trans (jgD z0)).trans (jjv z1)).trans (jgD z1),fun o=>jgC z1 (jju (q:=b) z1 hb (Nat.zero_le _) (jgC z0 (jju (q:=a) z0 ha (Nat.zero_le _) (p0.2 o)))),rfl,rfl⟩
 exact K.set hx e.1 e.2.1 e.2.2.1 fun h=>by rw [e.2.2.2,h]
theorem jdZ {ws:Ws} {x:Wi} {n k:Nat} {fd:Int} (h:AtW (ws++[x]) n k fd):AtW ws n k fd\/(n=ws.length/\(k=0\/k=1)/\(x.e k).what=1/\(x.e k).fd=fd):=by
 obtain ⟨y,hy,hk,h1,h2⟩:=h
 rcases zx n ws.length with hl | hl
 ·rw [ze,if_pos hl] at hy
  exact .inl ⟨y,hy,hk,h1,h2⟩
 ·rw [ze,if_neg om] at hy
  have:n-ws.length=0:=by
   rcases Nat.eq_zero_or_pos (n-ws.length) with e | e
   ·exact e
   ·rw [zd (show 1<=_ from e)] at hy;cases hy
  rw [this] at hy
  cases hy
  exact .inr ⟨by omega,hk,h1,h2⟩
theorem jj7 {ws:Ws} {x y:Wi} {n:Nat} (h:(ws++[x])[n]?=some y):ws[n]?=some y\/(n=ws.length/\y=x):=by
 rcases zx n ws.length with hl | hl
 ·rw [ze,if_pos hl] at h
  exact .inl h
 ·rw [ze,if_neg om] at h
  have:n-ws.length=0:=by
   rcases Nat.eq_zero_or_pos (n-ws.length) with e | e
   ·exact e
   ·rw [zd (show 1<=_ from e)] at h;cases h
  rw [this] at h
  cases h
  exact .inr ⟨by omega,rfl⟩
theorem jeG {ws:Ws} {x y:Wi} {n:Nat} (h:ws[n]?=some y):(ws++[x])[n]?=some y:=by rw [ze,if_pos (w_lt h),h]
theorem push_uniq {ws:Ws} {x:Wi} (u:Uniq ws) (hf : ∀ k,k=0\/k=1->(x.e k).what=1 -> ∀ n j,¬ AtW ws n j (x.e k).fd) (h2:x.e0.what=1->x.e1.what=1->x.e0.fd≠x.e1.fd):Uniq (ws++[x]):=by
 intro n k n' k' fd a b
 rcases jdZ a with a | ⟨rfl,hk,w1,f1⟩
 ·rcases jdZ b with b | ⟨rfl,hk',w1,f1⟩
  ·exact u _ _ _ _ _ a b
  ·exact absurd (by rw [f1];exact a) (hf k' hk' w1 n k)
 ·rcases jdZ b with b | ⟨rfl,hk',w2,f2⟩
  ·exact absurd (by rw [f1];exact b) (hf k hk w1 n' k')
  ·refine ⟨rfl,?_⟩
   rcases hk with rfl | rfl<;>rcases hk' with rfl | rfl
   ·rfl
   ·exact absurd (f1.trans f2.symm) (h2 w1 w2)
   ·exact absurd (f2.trans f1.symm) (h2 w2 w1)
   ·rfl
theorem WsK.push {ws:Ws} {x:Wi} (K:WsK ws) (ox:WiOk x) (hw:x.waiting=[]) (hl:ws.length<1000) (hf : ∀ k,k=0\/k=1->(x.e k).what=1 -> ∀ n j,¬ AtW ws n j (x.e k).fd) (h2:x.e0.what=1->x.e1.what=1->x.e0.fd≠x.e1.fd):WsK (ws++[x]):=by
 refine ⟨⟨push_uniq K.ok.uniq hf h2,fun y hy=>?_,by rw [zg];show ws.length+1<=1000;omega,fun y hy=>?_⟩,?_⟩
 ·rcases List.mem_append.1 hy with h | h
  ·exact K.ok.ok y h
  ·obtain rfl:y=x:=by simpa using h
   exact ox
 ·rcases List.mem_append.1 hy with h | h
  ·obtain ⟨p1,p2⟩:=K.ok.wait y h
   refine ⟨p1,fun m hm=>?_⟩
   obtain ⟨z,z0,z1,z2⟩:=p2 m hm
   exact ⟨z,z0,jeG z1,z2⟩
  ·obtain rfl:y=x:=by simpa using h
   rw [hw];simp
 ·intro i j a b p q m ha hb hp hq
  rcases jj7 ha with ha | ⟨rfl,rfl⟩
  ·rcases jj7 hb with hb | ⟨rfl,rfl⟩
   ·exact K.one i j a b p q m ha hb hp hq
   ·rw [hw] at hq;simp at hq
  ·rw [hw] at hp;simp at hp
theorem jez {ws:Ws} {n:Nat} {f:Int} (h:f∈jau ws n) : ∃ i:Nat,f=i/\i<n/\atS ws f=none:=by
 unfold jau at h
 obtain ⟨i,hi,rfl⟩:=List.mem_map.1 h
 obtain ⟨p1,p2⟩:=List.mem_filter.1 hi
 refine ⟨i,rfl,by simpa using p1,?_⟩
 simpa using p2
theorem jia (ws:Ws) (n:Nat):(jau ws n).Nodup:=by
 unfold jau
 exact (List.Pairwise.filter _ List.nodup_range).map _ fun a b (h:a≠b)=>by show (a:Int)≠(b:Int);omega
theorem jdT {ws:Ws} {kind n:Int} (hk:kind=0\/kind=1\/kind=2\/kind=3) (K:WsK ws):WsK (jaf ws kind n).2:=by
 unfold jaf
 split
 ·exact K
 next hb=>
 split
 ·exact K
 next f0 fs hF=>
 split
 ·exact K
 next hbad=>
 have hn:1<=n/\n<=65536:=by omega
 have hnt:1<=n.toNat/\n.toNat<=65536:=by omega
 obtain ⟨i0,e0,_,a0⟩:=jez (ws:=ws) (n:=96) (f:=f0) (by rw [hF];simp)
 have n0:=jof a0
 have nd:=jia ws 96
 rw [hF] at nd
 have h1:kind<2 -> ∃ f1,fs.headD 0=f1/\f0≠f1 /\ ∀ n k,¬ AtW ws n k f1:=by
  intro h
  cases fs with
  | nil=>exact absurd (.inl ⟨rfl,h⟩) hbad
  | cons f1 r=>
   obtain ⟨i1,e1,_,a1⟩:=jez (ws:=ws) (n:=96) (f:=f1) (by rw [hF];simp)
   refine ⟨f1,rfl,fun e=>?_,jof a1⟩
   subst e
   exact absurd nd Zd
 have hlen:ws.length<1000:=by omega
 have two1 : ∀ {x:Wi},x.e0.fd=f0->(x.e1.what=1->x.e1.fd=fs.headD 0/\kind<2) -> ∀ k,k=0\/k=1->(x.e k).what=1 -> ∀ n j,¬ AtW ws n j (x.e k).fd:=by
  intro x p0 p1 k hk h
  rcases hk with rfl | rfl
  ·show ∀ n j,¬ AtW ws n j x.e0.fd
   rw [p0];exact n0
  ·obtain ⟨q1,q2⟩:=p1 h
   obtain ⟨f1,r1,_,r2⟩:=h1 q2
   show ∀ n j,¬ AtW ws n j x.e1.fd
   rw [q1,r1];exact r2
 have mk : ∀ (x:Wi),(∀ k,k=0\/k=1 -> ∀ q,(x.e k).ring=some q->q=[])->x.cap=n.toNat->(∀ k,k=0\/k=1->((x.e k).writes=true↔(x.e (1-k)).ring≠none))->(x.e1.what=2->x.e0.ring≠none/\x.e1.ring≠none)->0<=x.backlog/\x.backlog<=64->WhV x->WiOk x:=by
  intro x p1 p2 p3 p4 p5 p6
  exact ⟨by rw [p2];exact hnt.1,by rw [p2];exact hnt.2,fun k hk q hq=>by rw [p1 k hk q hq];exact Nat.zero_le _,p3,p4,p5,p6⟩
 rcases hk with rfl | rfl | rfl | rfl
 ·have e:newW 0 n f0 (fs.headD 0)=⟨⟨1,f0,some [],false,false,0,0⟩,⟨1,fs.headD 0,none,true,false,0,0⟩,n.toNat,false,0,[]⟩:=rfl
  refine K.push (mk _ (fun k hk q hq=>?_) rfl (fun k hk=>?_) (fun h=>?_) ?_ ⟨⟨of_decide_eq_true rfl,of_decide_eq_true rfl⟩,of_decide_eq_true rfl,of_decide_eq_true rfl⟩) rfl hlen (two1 rfl fun _=>⟨rfl,by omega⟩) fun _ _=>?_
  ·rcases hk with rfl | rfl
   ·have:some []=some q:=hq
    cases this;rfl
   ·have:none=some q:=hq
    cases this
  ·rcases hk with rfl | rfl
   ·show (false=true↔(none:Option (List UInt8))≠none);simp
   ·show (true=true↔some ([]:List UInt8)≠none);simp
  ·have h:(1:Int)=2:=h
   omega
  ·show (0:Int)<=0/\(0:Int)<=64;omega
  ·obtain ⟨f1,r1,r0,_⟩:=h1 om
   show f0≠fs.headD 0
   rw [r1];exact r0
 ·refine K.push (mk _ (fun k hk q hq=>?_) rfl (fun k hk=>?_) (fun h=>?_) ?_ ⟨⟨of_decide_eq_true rfl,of_decide_eq_true rfl⟩,of_decide_eq_true rfl,of_decide_eq_true rfl⟩) rfl hlen (two1 rfl fun _=>⟨rfl,by omega⟩) fun _ _=>?_
  ·rcases hk with rfl | rfl
   ·have:some []=some q:=hq
    cases this;rfl
   ·have:some []=some q:=hq
    cases this;rfl
  ·rcases hk with rfl | rfl
   ·show (true=true↔some ([]:List UInt8)≠none);simp
   ·show (true=true↔some ([]:List UInt8)≠none);simp
  ·have h:(1:Int)=2:=h
   omega
  ·show (0:Int)<=0/\(0:Int)<=64;omega
  ·obtain ⟨f1,r1,r0,_⟩:=h1 om
   show f0≠fs.headD 0
   rw [r1];exact r0
 ·refine K.push (mk _ (fun k hk q hq=>?_) rfl (fun k hk=>?_) (fun h=>?_) ?_ ⟨⟨of_decide_eq_true rfl,of_decide_eq_true rfl⟩,of_decide_eq_true rfl,of_decide_eq_true rfl⟩) rfl hlen (two1 rfl fun h=>?_) fun _ h=>?_
  ·rcases hk with rfl | rfl
   ·have:some []=some q:=hq
    cases this;rfl
   ·have:some []=some q:=hq
    cases this;rfl
  ·rcases hk with rfl | rfl
   ·show (true=true↔some ([]:List UInt8)≠none);simp
   ·show (true=true↔some ([]:List UInt8)≠none);simp
  ·exact ⟨by show some []≠none;simp,by show some []≠none;simp⟩
  ·show (0:Int)<=0/\(0:Int)<=64;omega
  ·have h:(2:Int)=1:=h
   omega
  ·have h:(2:Int)=1:=h
   omega
 ·refine K.push (mk _ (fun k hk q hq=>?_) rfl (fun k hk=>?_) (fun h=>?_) ?_ ⟨⟨of_decide_eq_true rfl,of_decide_eq_true rfl⟩,of_decide_eq_true rfl,of_decide_eq_true rfl⟩) rfl hlen (two1 rfl fun h=>?_) fun _ h=>?_
  ·rcases hk with rfl | rfl
   ·have:none=some q:=hq
    cases this
   ·have:none=some q:=hq
    cases this
  ·rcases hk with rfl | rfl
   ·show (false=true↔(none:Option (List UInt8))≠none);simp
   ·show (false=true↔(none:Option (List UInt8))≠none);simp
  ·have h:(0:Int)=2:=h
   omega
  ·show 0<=n/\n<=64;omega
  ·have h:(0:Int)=1:=h
   omega
  ·have h:(0:Int)=1:=h
   omega
theorem jgh {ws:Ws} {m n k:Nat} {f fd:Int} {y:Wi} (hy:ws[m]?=some y) (h:AtW (ws.set m (y.put 0 { y.e 0 with what:=1,fd:=f })) n k fd):(n=m/\k=0/\fd=f)\/(AtW ws n k fd/\(n=m->k=1)):=by
 obtain ⟨x,hx,hk,h1,h2⟩:=h
 rcases jeh hx with ⟨rfl,rfl⟩ | ⟨hne,hx⟩
 ·rcases hk with rfl | rfl
  ·exact .inl ⟨rfl,rfl,h2.symm⟩
  ·exact .inr ⟨⟨y,hy,.inr rfl,h1,h2⟩,fun _=>rfl⟩
 ·exact .inr ⟨⟨x,hx,hk,h1,h2⟩,fun e=>absurd e hne⟩
theorem WsK.seat {ws:Ws} {m:Nat} {f:Int} {y:Wi} (K:WsK ws) (hy:ws[m]?=some y) (hf : ∀ n k,¬ AtW ws n k f) (hw : ∀ (j:Nat) (u:Wi),ws[j]?=some u->(m:Int) ∉ u.waiting):WsK (ws.set m (y.put 0 { y.e 0 with what:=1,fd:=f })):=by
 have key : ∀ (i:Nat) (z':Wi),(ws.set m (y.put 0 { y.e 0 with what:=1,fd:=f }))[i]?=some z' -> ∃ z,ws[i]?=some z/\z'.waiting=z.waiting/\WiOk z'/\(i≠m->z'=z):=by
  intro i z' hz
  rcases jeh hz with ⟨rfl,rfl⟩ | ⟨hne,hz⟩
  ·have a:=K.ok.ok y (zc hy)
   refine ⟨y,hy,rfl,⟨a.cap0,a.cap1,fun j hj=>?_,fun j hj=>?_,a.out,a.bl,⟨by show (0:Int)<=1;omega,by show (1:Int)<=3;omega⟩,a.wh.2⟩,fun h=>absurd rfl h⟩
   ·have:=a.len j hj;rcases hj with rfl | rfl<;>exact this
   ·have:=a.pair j hj;rcases hj with rfl | rfl<;>exact this
  ·exact ⟨z',hz,rfl,K.ok.ok z' (zc hz),fun _=>rfl⟩
 refine ⟨⟨?_,fun x hx=>?_,by rw [List.length_set];exact K.ok.len,fun x hx=>?_⟩,?_⟩
 ·intro n k n' k' fd a b
  rcases jgh hy a with ⟨h1,h2,h3⟩ | ⟨a2,_⟩
  ·rcases jgh hy b with ⟨h4,h5,_⟩ | ⟨b2,_⟩
   ·exact ⟨h1.trans h4.symm,h2.trans h5.symm⟩
   ·rw [h3] at b2;exact absurd b2 (hf _ _)
  ·rcases jgh hy b with ⟨_,_,h3⟩ | ⟨b2,_⟩
   ·rw [h3] at a2;exact absurd a2 (hf _ _)
   ·exact K.ok.uniq _ _ _ _ _ a2 b2
 ·obtain ⟨i,hi⟩:=List.mem_iff_getElem?.1 hx
  obtain ⟨_,_,_,h,_⟩:=key i x hi
  exact h
 ·obtain ⟨i,hi⟩:=List.mem_iff_getElem?.1 hx
  obtain ⟨z,z1,z2,_,_⟩:=key i x hi
  rw [z2]
  obtain ⟨p1,p2⟩:=K.ok.wait z (zc z1)
  refine ⟨p1,fun q hq=>?_⟩
  obtain ⟨u,u0,u1,u2⟩:=p2 q hq
  have hne:m≠q.toNat:=by
   rintro rfl
   refine hw i z z1 ?_
   rw [Int.toNat_of_nonneg u0];exact hq
  exact ⟨u,u0,by rw [zi,if_neg hne,u1],u2⟩
 ·intro i j a b p q v ha hb hp hq
  obtain ⟨a',a1,a2,_⟩:=key i a ha
  obtain ⟨b',b1,b2,_⟩:=key j b hb
  rw [a2] at hp
  rw [b2] at hq
  exact K.one i j a' b' p q v a1 b1 hp hq
theorem jhr {ws:Ws} {n m k:Nat} {fd:Int} {x:Wi} {wt:List Int} (hx:ws[n]?=some x):AtW (ws.set n { x with waiting:=wt }) m k fd↔AtW ws m k fd:=by
 constructor
 ·rintro ⟨y,hy,hk,h1,h2⟩
  rcases jeh hy with ⟨rfl,rfl⟩ | ⟨_,hy⟩
  ·exact ⟨x,hx,hk,by rcases hk with rfl | rfl<;>exact h1,by rcases hk with rfl | rfl<;>exact h2⟩
  ·exact ⟨y,hy,hk,h1,h2⟩
 ·rintro ⟨y,hy,hk,h1,h2⟩
  by_cases e:m=n
  ·subst e
   rw [hx] at hy;cases hy
   exact ⟨_,by rw [zi,if_pos rfl,if_pos (w_lt hx)],hk,by rcases hk with rfl | rfl<;>exact h1,by rcases hk with rfl | rfl<;>exact h2⟩
  ·exact ⟨y,by rw [zi,if_neg (fun h=>e h.symm),hy],hk,h1,h2⟩
theorem jjd {ws:Ws} {fd:Int} (K:WsK ws):WsK (jaw ws fd).2:=by
 unfold jaw
 refine jbq (P:=fun r:_ × Ws=>WsK r.2) K fun n k x hx hk h1=>?_
 split
 ·exact K
 split
 ·exact K
 next m rest hw=>
 split
 ·exact K
 next f fs hF=>
 split
 ·exact K
 next y hy=>
 have e:({ x with waiting:=rest } : Wi) = { x with waiting:=x.waiting.drop 1 } := by rw [hw];rfl
 have K1:=K.set_wait (c:=1) hx
 rw [<- e] at K1
 obtain ⟨i,_,_,hf⟩:=jez (ws:=ws) (n:=96) (f:=f) (by rw [hF];simp)
 have nf:=jof hf
 refine K1.seat hy (fun a b h=>nf a b ((jhr hx).1 h)) fun j u hu hm=>?_
 have m0:0<=m:=by
  obtain ⟨z,z0,_⟩:=(K.ok.wait x (zc hx)).2 m (by rw [hw];simp)
  exact z0
 rw [Int.toNat_of_nonneg m0] at hm
 obtain ⟨q,hq⟩:=List.mem_iff_getElem?.1 hm
 rcases jeh hu with ⟨rfl,rfl⟩ | ⟨hne,hu⟩
 ·have:=(K.one j j x x 0 (q+1) m hx hx (by rw [hw];rfl) (by rw [hw];exact hq)).2
  omega
 ·exact hne (K.one j n u x q 0 m hu hx hq (by rw [hw];rfl)).1
theorem WsK.waits {ws:Ws} {n:Nat} {x y y2:Wi} {m:Int} (K:WsK ws) (hx:ws[n]?=some x) (hs:x.SubFd y) (hok:WiOk y) (hw:y.waiting=x.waiting++[m]) (h64:x.waiting.length<64) (h0:x.e0.what=0->y.e0.what=0)
  (m0:0<=m) (hm:ws[m.toNat]?=some y2) (hm2:y2.e0.what=0) (hno : ∀ (j:Nat) (u:Wi),ws[j]?=some u->m ∉ u.waiting):WsK (ws.set n y):=by
 have old : ∀ (p:Nat) (v:Int),y.waiting[p]?=some v->(x.waiting[p]?=some v)\/(v=m/\p=x.waiting.length):=by
  intro p v h
  rw [hw] at h
  rcases zx p x.waiting.length with hl | hl
  ·rw [ze,if_pos hl] at h;exact .inl h
  ·rw [ze,if_neg om] at h
   have:p-x.waiting.length=0:=by
    rcases Nat.eq_zero_or_pos (p-x.waiting.length) with e | e
    ·exact e
    ·rw [zd (show 1<=_ from e)] at h;cases h
   rw [this] at h;cases h
   exact .inr ⟨rfl,by omega⟩
 have tgt : ∀ (v:Int) (u:Wi),0<=v->ws[v.toNat]?=some u->u.e0.what=0 -> ∃ u':Wi,0<=v/\(ws.set n y)[v.toNat]?=some u'/\u'.e0.what=0:=by
  intro v u v0 hu hu0
  by_cases e:n=v.toNat
  ·rw [<- e,hx] at hu;cases hu
   exact ⟨y,v0,by rw [zi,if_pos e,if_pos (w_lt hx)],h0 hu0⟩
  ·exact ⟨u,v0,by rw [zi,if_neg e,hu],hu0⟩
 refine ⟨⟨?_,fun z hz=>?_,by rw [List.length_set];exact K.ok.len,fun z hz=>?_⟩,?_⟩
 ·have sub : ∀ i k fd,AtW (ws.set n y) i k fd->AtW ws i k fd:=by
   rintro i k fd ⟨z,hz,hk,h1,h2⟩
   rcases jeh hz with ⟨rfl,rfl⟩ | ⟨_,hz⟩
   ·exact ⟨x,hx,hk,(hs k hk h1).1,by rw [<- (hs k hk h1).2,h2]⟩
   ·exact ⟨z,hz,hk,h1,h2⟩
  exact fun a k b k' fd p q=>K.ok.uniq a k b k' fd (sub _ _ _ p) (sub _ _ _ q)
 ·rcases List.mem_or_eq_of_mem_set hz with h | rfl
  ·exact K.ok.ok z h
  ·exact hok
 ·rcases List.mem_or_eq_of_mem_set hz with h | rfl
  ·obtain ⟨p1,p2⟩:=K.ok.wait z h
   refine ⟨p1,fun v hv=>?_⟩
   obtain ⟨u,u0,u1,u2⟩:=p2 v hv
   exact tgt v u u0 u1 u2
  ·obtain ⟨p1,p2⟩:=K.ok.wait x (zc hx)
   rw [hw]
   refine ⟨by rw [zg];show _+1<=64;omega,fun v hv=>?_⟩
   rcases List.mem_append.1 hv with h | h
   ·obtain ⟨u,u0,u1,u2⟩:=p2 v h
    exact tgt v u u0 u1 u2
   ·obtain rfl:v=m:=by simpa using h
    exact tgt v y2 m0 hm hm2
 ·intro i j a b p q v ha hb hp hq
  rcases jeh ha with ⟨rfl,rfl⟩ | ⟨hi,ha2⟩
  ·rcases jeh hb with ⟨rfl,rfl⟩ | ⟨hj,hb2⟩
   ·refine ⟨rfl,?_⟩
    rcases old p v hp with h1 | ⟨rfl,h1⟩
    ·rcases old q v hq with h2 | ⟨rfl,h2⟩
     ·exact (K.one j j x x p q v hx hx h1 h2).2
     ·exact absurd (zc h1) (hno j x hx)
    ·rcases old q v hq with h2 | ⟨_,h2⟩
     ·exact absurd (zc h2) (hno j x hx)
     ·omega
   ·rcases old p v hp with h1 | ⟨rfl,h1⟩
    ·exact K.one _ j x b p q v hx hb2 h1 hq
    ·exact absurd (zc hq) (hno j b hb2)
  ·rcases jeh hb with ⟨rfl,rfl⟩ | ⟨hj,hb2⟩
   ·rcases old q v hq with h1 | ⟨rfl,h1⟩
    ·exact K.one i _ a x p q v ha2 hx hp h1
    ·exact absurd (zc hp) (hno i a ha2)
   ·exact K.one i j a b p q v ha2 hb2 hp hq
theorem jlu {many:Int} (h1:1<=many) (h2:many<=65536):WiOk (jbi many):=by
 refine ⟨by show 1<=many.toNat;omega,by show many.toNat<=65536;omega,fun k hk q hq=>?_,fun k hk=>?_,fun _=>⟨by show some []≠none;simp,by show some []≠none;simp⟩,by show (0:Int)<=0/\(0:Int)<=64;omega,⟨of_decide_eq_true rfl,of_decide_eq_true rfl⟩,of_decide_eq_true rfl,of_decide_eq_true rfl⟩
 ·rcases hk with rfl | rfl
  ·have:some []=some q:=hq
   cases this;exact Nat.zero_le _
  ·have:some []=some q:=hq
   cases this;exact Nat.zero_le _
 ·rcases hk with rfl | rfl
  ·show (true=true↔some ([]:List UInt8)≠none);simp
  ·show (true=true↔some ([]:List UInt8)≠none);simp
theorem jif {ws:Ws} {n many:Int} (K:WsK ws):WsK (jar ws n many).2:=by
 unfold jar
 split
 ·exact K
 split
 ·exact K
 next x hx=>
 split
 ·exact K
 split
 ·exact K
 next hm=>
 split
 ·exact K
 next hbl=>
 split
 ·exact K
 next hlen=>
 have a:=K.ok.ok x (zc hx)
 have K2:WsK (ws++[jbi many]):=by
  refine K.push (jlu om om) rfl om (fun k hk h=>?_) fun h=>?_
  ·rcases hk with rfl | rfl
   ·have h:(0:Int)=1:=h
    omega
   ·have h:(2:Int)=1:=h
    omega
  ·have h:(0:Int)=1:=h
   omega
 have hn:=w_lt hx
 have hmn:(ws++[jbi many])[((ws.length:Nat):Int).toNat]?=some (jbi many):=by simp
 have K3:=K2.waits (n:=n.toNat) (x:=x) (y := { x with waiting:=x.waiting++[(ws.length:Int)],e0 := { x.e0 with inn:=upu x.e0.inn } }) (y2:=jbi many) (m:=(ws.length:Int)) (jeG hx)
  (fun j hj=>by rcases hj with rfl | rfl<;>exact fun h=>⟨h,rfl⟩) ⟨a.cap0,a.cap1,fun j hj=>by have:=a.len j hj;(rcases hj with rfl | rfl<;>exact this),fun j hj=>by have:=a.pair j hj;(rcases hj with rfl | rfl<;>exact this),a.out,a.bl,a.wh⟩ rfl
  (by have:=a.bl;omega) (fun h=>h) om hmn rfl fun j u hu hmem=>by
   rcases jj7 hu with hu | ⟨_,rfl⟩
   ·obtain ⟨z,z0,z1,_⟩:=(K.ok.wait u (zc hu)).2 _ hmem
    have:=w_lt z1
    simp at this
   ·have:(ws.length:Int)∈([]:List Int):=hmem
    simp at this
 rw [List.set_append_left _ _ hn] at K3
 exact K3
def Wi.RK (x y:Wi):Prop := ∀ k,k=0\/k=1->(x.e k).ring≠none->(y.e k).ring≠none
theorem Wi.RK.refl (x:Wi):x.RK x:=fun _ _ h=>h
theorem Wi.RK.trans {x y z:Wi} (a:x.RK y) (b:y.RK z):x.RK z:=fun k hk h=>b k hk (a k hk h)
def WsR (ws ws':Ws):Prop := ∀ (n:Nat) (x:Wi),ws[n]?=some x -> ∃ y,ws'[n]?=some y/\x.RK y
theorem WsR.refl (ws:Ws):WsR ws ws:=fun _ x h=>⟨x,h,Wi.RK.refl x⟩
theorem WsR.trans {a b c:Ws} (x:WsR a b) (y:WsR b c):WsR a c:=fun n u hu=>by
 obtain ⟨v,hv,h1⟩:=x n u hu
 obtain ⟨w,hw,h2⟩:=y n v hv
 exact ⟨w,hw,h1.trans h2⟩
theorem WsR.set {ws:Ws} {n:Nat} {x y:Wi} (hx:ws[n]?=some x) (h:x.RK y):WsR ws (ws.set n y):=fun m u hu=>by
 by_cases e:n=m
 ·subst e
  rw [hx] at hu;cases hu
  exact ⟨y,by rw [zi,if_pos rfl,if_pos (w_lt hx)],h⟩
 ·exact ⟨u,by rw [zi,if_neg e,hu],Wi.RK.refl u⟩
theorem WsR.push {ws:Ws} {x:Wi} : WsR ws (ws++[x]):=fun _ u hu=>⟨u,jeG hu,Wi.RK.refl u⟩
theorem NtOk.keep {ws ws':Ws} {no si:Int} (a:NtOk ws no si) (r:WsR ws ws'):NtOk ws' no si:=by
 rcases a with a | ⟨n,k,x,h1,h2,h3,h4,h5,h6⟩
 ·exact .inl a
 ·obtain ⟨y,hy,rk⟩:=r n x h4
  exact .inr ⟨n,k,y,h1,h2,h3,hy,rk 0 (.inl rfl) h5,rk 1 (.inr rfl) h6⟩
theorem jgB {x:Wi} {k:Nat} {i o:Bool} (hk:k=0\/k=1):x.RK (x.came k i o):=by
 intro j hj
 rcases hk with rfl | rfl<;>rcases hj with rfl | rfl<;>exact fun h=>h
theorem jjt {x:Wi} {k:Nat} {q:List UInt8} (hk:k=0\/k=1):x.RK (x.setq k q):=by
 intro j hj
 rcases hk with rfl | rfl<;>rcases hj with rfl | rfl
 ·intro _;show some q≠none;simp
 ·exact fun h=>h
 ·exact fun h=>h
 ·intro _;show some q≠none;simp
theorem jkZ {x:Wi} {k m:Nat} {q:List UInt8} (hk:k=0\/k=1):x.RK (x.take k m q):=(jjt hk).trans (jgB (jcv hk))
theorem jl1 {x:Wi} {k m:Nat} {q b:List UInt8} (hk:k=0\/k=1):x.RK (x.fill k m q b):=(jjt (jcv hk)).trans (jgB (jcv hk))
theorem jnK {x:Wi} {k:Nat} {e:En} (hk:k=0\/k=1) (h:e.ring=(x.e k).ring):x.RK (x.put k e):=by
 intro j hj
 rcases hk with rfl | rfl<;>rcases hj with rfl | rfl
 ·intro h1;show e.ring≠none;rw [h];exact h1
 ·exact fun h=>h
 ·exact fun h=>h
 ·intro h1;show e.ring≠none;rw [h];exact h1
theorem jn1 {x:Wi} {k:Nat} (hk:k=0\/k=1):x.RK (x.doShut k):=by
 unfold Wi.doShut
 split
 ·exact Wi.RK.refl x
 ·exact (jnK (e := { x.e k with shut:=true }) hk rfl).trans (jgB (jcv hk))
theorem jjM {x:Wi} {k:Nat} (hk:k=0\/k=1):x.RK (x.close k):=by
 unfold Wi.close
 exact (jgB (jcv hk)).trans (jnK hk rfl)
theorem reset_rk {x:Wi} : x.RK x.doReset:=by
 unfold Wi.doReset
 split
 ·exact Wi.RK.refl x
 ·have z0:(0:Nat)=0\/(0:Nat)=1 := .inl rfl
  have z1:(1:Nat)=0\/(1:Nat)=1 := .inr rfl
  have p0:x.RK { x with reset:=true } := fun j hj=>by rcases hj with rfl | rfl<;>exact fun h=>h
  exact (((p0.trans (jjt z0)).trans (jgB z0)).trans (jjt z1)).trans (jgB z1)
theorem readS_r {ws:Ws} {fd many:Int} : WsR ws (jcm ws fd many).2:=by
 unfold jcm
 refine jbq (P:=fun r:_ × Ws=>WsR ws r.2) (WsR.refl ws) fun n k x hx hk h1=>?_
 split
 ·exact WsR.refl ws
 ·repeat' split
  all_goals first | exact WsR.refl ws | exact WsR.set hx (jkZ hk)
theorem writeS_r {ws:Ws} {fd:Int} {b:List UInt8} : WsR ws (jbE ws fd b).2:=by
 unfold jbE
 refine jbq (P:=fun r:_ × Ws=>WsR ws r.2) (WsR.refl ws) fun n k x hx hk h1=>?_
 repeat' split
 all_goals first | exact WsR.refl ws | exact WsR.set hx (jl1 hk)
theorem shutS_r {ws:Ws} {fd:Int} : WsR ws (jdN ws fd).2:=by
 unfold jdN
 refine jbq (P:=fun r:_ × Ws=>WsR ws r.2) (WsR.refl ws) fun n k x hx hk h1=>?_
 split
 ·exact WsR.refl ws
 ·exact WsR.set hx (jn1 hk)
theorem jja : ∀ (L:List Int) (ws:Ws),WsR ws (jaB ws L)
 | [],ws=>WsR.refl ws
 | m :: L,ws=>by
  refine WsR.trans ?_ (jja L _)
  unfold jd7
  split
  ·exact WsR.refl ws
  ·next x hx=>exact WsR.set hx (jjM (.inl rfl))
theorem noWait_r {ws:Ws} {n:Nat} : WsR ws (noWait ws n):=by
 unfold noWait
 split
 ·exact WsR.refl ws
 ·next x hx=>exact WsR.set hx fun j hj=>by rcases hj with rfl | rfl<;>exact fun h=>h
theorem closeS_r {ws:Ws} {fd:Int} : WsR ws (jcu ws fd).2:=by
 unfold jcu
 exact jbq (P:=fun r:_ × Ws=>WsR ws r.2) (WsR.refl ws) fun n k x hx hk h1=>((WsR.set hx (jjM hk)).trans (jja _ _)).trans noWait_r
theorem putS_r {ws:Ws} {n:Int} {b:List UInt8} : WsR ws (putS ws n b).2:=by
 unfold putS
 refine jbt (P:=fun r:_ × Ws=>WsR ws r.2) (WsR.refl ws) fun n x hx h2=>?_
 repeat' split
 all_goals first | exact WsR.refl ws | exact WsR.set hx (jl1 (.inr rfl))
theorem takeS_r {ws:Ws} {n many:Int} : WsR ws (jci ws n many).2:=by
 unfold jci
 refine jbt (P:=fun r:_ × Ws=>WsR ws r.2) (WsR.refl ws) fun n x hx h2=>?_
 repeat' split
 all_goals first | exact WsR.refl ws | exact WsR.set hx (jkZ (.inr rfl))
theorem jlq {ws:Ws} {n:Int} : WsR ws (ja8 ws n).2:=jbt (P:=fun r:_ × Ws=>WsR ws r.2) (WsR.refl ws) fun _ _ hx _=>WsR.set hx (jn1 (.inr rfl))
theorem jky {ws:Ws} {n:Int} : WsR ws (jaz ws n).2:=jbt (P:=fun r:_ × Ws=>WsR ws r.2) (WsR.refl ws) fun _ _ hx _=>WsR.set hx (jjM (.inr rfl))
theorem resetS_r {ws:Ws} {n:Int} : WsR ws (jbX ws n).2:=jbt (P:=fun r:_ × Ws=>WsR ws r.2) (WsR.refl ws) fun _ _ hx _=>WsR.set hx reset_rk
theorem makeS_r {ws:Ws} {kind n:Int} : WsR ws (jaf ws kind n).2:=by
 unfold jaf
 repeat' split
 all_goals first | exact WsR.refl ws | exact WsR.push
theorem acceptS_r {ws:Ws} {fd:Int} : WsR ws (jaw ws fd).2:=by
 unfold jaw
 refine jbq (P:=fun r:_ × Ws=>WsR ws r.2) (WsR.refl ws) fun n k x hx hk h1=>?_
 split
 ·exact WsR.refl ws
 split
 ·exact WsR.refl ws
 split
 ·exact WsR.refl ws
 split
 ·exact WsR.refl ws
 next y hy=>
 refine WsR.trans (WsR.set (y := { x with waiting:=_ }) hx fun j hj=>?_) (WsR.set hy (jnK (.inl rfl) rfl))
 rcases hj with rfl | rfl<;>exact fun h=>h
theorem jnd {ws:Ws} {n many:Int} : WsR ws (jar ws n many).2:=by
 unfold jar
 split
 ·exact WsR.refl ws
 split
 ·exact WsR.refl ws
 next x hx=>
 repeat' split
 all_goals first | exact WsR.refl ws | skip
 refine WsR.trans (WsR.set hx fun j hj=>?_) WsR.push
 rcases hj with rfl | rfl<;>exact fun h=>h
theorem jeI {ws:Ws} {sum no si:Int} (nt:NtOk ws no si):WsR ws (jap ws sum no si):=by
 unfold jap
 split
 ·exact WsR.refl ws
 next h0=>
 split
 ·exact WsR.refl ws
 next x hx=>
 split
 ·exact WsR.refl ws
 rcases nt with h | ⟨n,k,y,h1,h2,h3,h4,h5,h6⟩
 ·omega
 have hk:si.toNat=0\/si.toNat=1:=by omega
 split
 ·exact WsR.set hx (jkZ hk)
 split
 ·exact WsR.set hx (jl1 (jcv hk))
 ·exact WsR.refl ws
theorem jdS {ws:Ws} {sum no si:Int} (K:WsK ws) (nt:NtOk ws no si):WsK (jap ws sum no si):=by
 unfold jap
 split
 ·exact K
 next h0=>
 split
 ·exact K
 next x hx=>
 split
 ·exact K
 next q hq=>
 rcases nt with h | ⟨n,k,y,h1,h2,h3,h4,h5,h6⟩
 ·omega
 have hk:si.toNat=0\/si.toNat=1:=by omega
 split
 ·exact K.take hx hk hq
 split
 ·next e=>
  have e2:1-(1-si.toNat)=si.toNat:=by omega
  have hc:=(K.ok.ok x (zc hx)).cap0
  exact K.fill hx (jcv hk) (q:=[]) (by rw [e2,hq,e]) (by show min 1 x.cap<=x.cap-0;omega)
 ·exact K
theorem joC {ws:Ws} {a b no si:Int} (nt:NtOk ws no si):NtOk ws (ntNo ws a b no) (ntSi ws a b si):=by
 have key : ∀ n k,(ntS ws a b).2=some (n,k)->(k=0\/k=1) /\ ∃ x,ws[n]?=some x/\x.e0.ring≠none/\x.e1.ring≠none:=by
  unfold ntS
  refine jbq (P:=fun r:Int × Option (Nat × Nat)=>∀ n k,r.2=some (n,k)->(k=0\/k=1) /\ ∃ x,ws[n]?=some x/\x.e0.ring≠none/\x.e1.ring≠none) (fun _ _ h=>by cases h) fun n k x hx hk h1=>?_
  refine jbq (P:=fun r:Int × Option (Nat × Nat)=>∀ n k,r.2=some (n,k)->(k=0\/k=1) /\ ∃ x,ws[n]?=some x/\x.e0.ring≠none/\x.e1.ring≠none) (fun _ _ h=>by cases h) fun m i y hy hi h2=>?_
  intro n' k' h
  split at h
  ·next hc=>
   cases h
   exact ⟨hk,x,hx,hc.2.2.1,hc.2.2.2⟩
  ·cases h
 unfold ntNo ntSi
 cases e:(ntS ws a b).2 with
 | none=>exact nt
 | some p=>
  obtain ⟨n,k⟩:=p
  obtain ⟨hk,x,hx,h1,h2⟩:=key n k e
  exact .inr ⟨n,k,x,rfl,rfl,hk,hx,h1,h2⟩
theorem joB {ws:Ws} {sum a b:Int} : ∃ no si,NtOk ws no si/\ntW ws sum a b=jap ws sum no si:=by
 have:=joC (ws:=ws) (a:=a) (b:=b) (no := -1) (si:=0) (.inl rfl)
 unfold ntNo ntSi at this
 unfold ntW
 cases e:(ntS ws a b).2 with
 | none=>exact ⟨-1,0,.inl rfl,rfl⟩
 | some p=>
  obtain ⟨n,k⟩:=p
  rw [e] at this
  exact ⟨n,k,this,rfl⟩
def noI:Option (Nat × Nat)->Int
 | none=>-1
 | some p=>p.1
def siI:Option (Nat × Nat)->Int
 | none=>0
 | some p=>p.2
theorem put_clear {x:Wi} {k:Nat} {q:List UInt8} : (x.setq k []).came (1-k) false (decide (0<q.length))=x.take k q.length q:=by
 unfold Wi.take
 rw [List.drop_length]
section
variable {cl:Nat->Call} (hcl:Sem cl) {h:H} {w s:Nat} {ow:Nat->Nat} {ws:Ws} {now:Int} {tb:Tb} {no:Option (Nat × Nat)}
include hcl
theorem jeA {d:Nat} (hd:11<=d) (a:WSt h w s ow ws now tb no) (nt:NtOk ws (noI no) (siI no)) (hok:tb.ok 1000000) :
  ∃ h',cl d (.fn F.jcU) [.p w 0] h=some (.tup [],h')/\WSt h' w s ow (jap ws (tb.sum 32) (noI no) (siI no)) now tb no/\To h h' ow ow:=by
 obtain ⟨l,a,rfl⟩:=a
 obtain ⟨sa,c,hw,hsl⟩:=a.wf.head
 have lw:=a.wf.lw
 suffices q : ∃ v h',cl d (.fn F.jcU) [.p w 0] h=some (v,h')/\(v = .tup []/\WSt h' w s ow (jap (wxs l) (tb.sum 32) (noI no) (siI no)) now tb no/\To h h' ow ow) by
  obtain ⟨_,h',e,rfl,q⟩:=q;exact ⟨h',e,q⟩
 cases no with
 | none=>
  have q1:(wc (fun i=>atS (wxs l) (i:Int)) (.slice sa l.length c) s now none)[0+291+0]?=some (.bool false):=jkb (j:=0) om rfl
  have hS:jap (wxs l) (tb.sum 32) (noI none) (siI none)=wxs l:=if_pos (by show (-1:Int)<0;omega)
  rw [hS]
  have same:WSt h w s ow (wxs l) now tb none:=⟨l,a,rfl⟩
  refine at_ hcl om rfl rfl rfl ?_
  refine qx1 ?_
  exact ⟨rfl,same,To.refl _ _⟩
 | some p=>
  obtain ⟨n,k⟩:=p
  obtain ⟨hk,x,hx,hx0,hx1⟩:(k=0\/k=1) /\ ∃ x,(wxs l)[n]?=some x/\x.e0.ring≠none/\x.e1.ring≠none:=by
   rcases nt with e | ⟨n',k',x,e1,e2,hk,hx,p⟩
   ·have e:(n:Int) = -1:=e
    omega
   ·have e1:(n:Int)=n':=e1
    have e2:(k:Int)=k':=e2
    obtain rfl:n=n':=by omega
    obtain rfl:k=k':=by omega
    exact ⟨hk,x,hx,p⟩
  obtain ⟨t,ht,rfl⟩:=jhn hx
  obtain ⟨q,hq⟩ : ∃ q,(t.x.e k).ring=some q:=by
   rcases hk with rfl | rfl
   ·exact Option.ne_none_iff_exists'.1 hx0
   ·exact Option.ne_none_iff_exists'.1 hx1
  have hS:jap (wxs l) (tb.sum 32) (noI (some (n,k))) (siI (some (n,k)))=if tb.sum 32=0 then (wxs l).set n (t.x.take k q.length q) else if q=[] then (wxs l).set n (t.x.fill (1-k) (min 1 t.x.cap) [] [1]) else wxs l:=by
   unfold jap
   show (if (n:Int)<0 then _ else _)=_
   rw [if_neg om]
   show (match (wxs l)[(n:Int).toNat]? with | none=>_ | some x=>match (x.e (k:Int).toNat).ring with | none=>_ | some q=>_)=_
   rw [zw,hx]
   simp only [zw,hq]
   rfl
  rw [hS]
  have q0:(wc (fun i=>atS (wxs l) (i:Int)) (.slice sa l.length c) s now (some (n,k)))[0+291+0]?=some (.bool true):=jkb (j:=0) om rfl
  have q1:(wc (fun i=>atS (wxs l) (i:Int)) (.slice sa l.length c) s now (some (n,k)))[0+291+1]?=some (.i (n:Int)):=jkb (j:=1) om rfl
  have q2:(wc (fun i=>atS (wxs l) (i:Int)) (.slice sa l.length c) s now (some (n,k)))[0+291+2]?=some (.i (k:Int)):=jkb (j:=2) om rfl
  have q3:(wc (fun i=>atS (wxs l) (i:Int)) (.slice sa l.length c) s now (some (n,k)))[0+288]?=some (.slice sa l.length c):=jaO rfl
  have q4:(wc (fun i=>atS (wxs l) (i:Int)) (.slice sa l.length c) s now (some (n,k)))[0+289]?=some (.p s 0):=jdL rfl
  have hlt:=x_lt ht
  obtain ⟨z,rfl,z1,z2,z3⟩:=hsl (by rintro rfl;simp at hlt)
  have w2:(wps l)[0+(n:Int).toNat*1]?=some (.p t.wb 0):=by rw [show 0+(n:Int).toNat*1=n by omega];exact jcS ht
  have X0:=a.wf.ok n t ht
  have hx0:=X0.hx
  unfold Wi.obj at hx0
  have q5:=Wi.ring_cell (x:=t.x) (r0:=t.r0) (r1:=t.r1) (wv:=t.wv) hk hq (o:=0+0+(k:Int).toNat*7+2) om
  obtain ⟨h1,e1,c1⟩:=jiG hcl (d:=d-1) (h0:=h) om a.wf.hs a.wf.ls hok
  have o1:=Old.ofCh c1
  have a1:=a.old o1
  have X:=a1.wf.ok n t ht
  obtain ⟨p1,p2,p3,p4,p5,p6⟩:=X.apart hk hq
  by_cases hsum:tb.sum 32=0
  ·rw [if_pos hsum]
   obtain ⟨h2,e2,R2,c2⟩:=jlW hcl (d:=d-1) om p1 p2 p3 p4
   have W1:=a1.wf.clear ht hk hq c2 R2
   have ht1:(l.set n { t with x:=t.x.setq k [] })[n]?=some { t with x:=t.x.setq k [] } := by rw [zi,if_pos rfl,if_pos (x_lt ht)]
   have X1:=W1.ok n _ ht1
   obtain ⟨h3,e3,u3⟩:=jgj hcl (d:=d-1) (k:=1-k) om X1.hx om false (decide (0<q.length))
   have W2:=W1.upd ht1 u3 (by rcases hk with rfl | rfl<;>rfl) (by rcases hk with rfl | rfl<;>rfl) (fun i hi=>by rcases hk with rfl | rfl<;>rcases hi with rfl | rfl<;>rfl)
   rw [List.set_set] at W2
   have W2:WF h3 w s ow (fun i=>atS (wxs l) (i:Int)) (l.set n { t with x:=t.x.take k q.length q }) now tb (some (n,k)):=by
    rw [<- put_clear];exact W2
   have W3:=WF.same W2 a.fds (jaj ht) (Wi.take_same hk)
   have T:To h h3 ow ow:=by
    refine To.old o1 (To.trans ⟨c2.weaken fun j hj hb=>?_,fun _ _=>rfl⟩ (X1.toU u3))
    obtain ⟨_,o2,_⟩:=X.ring k hk q hq
    have hb:j=t.r k:=hb
    subst hb;omega
   have fin:WSt h3 w s ow ((wxs l).set n (t.x.take k q.length q)) now tb (some (n,k)):=⟨_,W3,jbj⟩
   have ek:(1:Int)-(k:Int)=((1-k:Nat):Int):=by omega
   have eb:decide ((q.length:Int)>0)=decide (0<q.length):=by simp
   rw [<- ek,<- eb] at e3
   refine at_ hcl om rfl rfl rfl ?_
   clear hok nt
   refine qx1 ?_
   exact ⟨rfl,fin,T⟩
  rw [if_neg hsum]
  have hlen : ∃ buf frm inn out,RingC h1 (t.r k) (t.b k) buf frm q.length t.x.cap inn out:=by
   obtain ⟨buf,frm,inn,out,C,_⟩:=p1;exact ⟨buf,frm,inn,out,C⟩
  obtain ⟨buf,frm,inn,out,C⟩:=hlen
  have e2:=jiL hcl (d:=d-1) om C
  by_cases hqn:q=[]
  ·rw [if_pos hqn]
   subst hqn
   have ek:(1:Int)-(k:Int)=((1-k:Nat):Int):=by omega
   have ekk:1-(1-k)=k:=by omega
   have oG:Old h1 (h1.new (.cells [.int .u8 1] false)):=(Old.refl h1).new
   have hB:BytesAt (h1.new (.cells [.int .u8 1] false)) (some (h1.nx,0)) (.fix 1) [1] :=
    ⟨fun e=>by (cases e),zq _,fun _=>⟨h1.nx,0,_,false,rfl,by simp,jac _,fun i x hi=>by
     match i,hi with
     | 0,hi=>cases hi;rfl
     | i+1,hi=>simp at hi⟩⟩
   have aG:=a1.old oG
   have XG:=aG.wf.ok n t ht
   have hqG:(t.x.e (1-(1-k))).ring=some []:=by rw [ekk];exact hq
   obtain ⟨g1,g2,g3,g4,g5,g6⟩:=XG.apart (k:=1-(1-k)) om hqG
   obtain ⟨h3,e3,r1,r2,r3⟩:=jnm hcl (d:=d-1) (k:=1-k) om XG.hx om hqG g1 XG.lx g2 g3 g4 g5 g6 hB Zd (fun z o e _=>by
    cases e
    rw [ekk]
    have:t.b k<h1.nx:=p3
    have:t.r k<h1.nx:=p2
    exact ⟨by omega,by show h1.nx≠t.r k;omega⟩)
   have hm1:min ([1]:List UInt8).length (t.x.cap-([]:List UInt8).length)=min 1 t.x.cap:=by simp
   rw [hm1] at r1 r2
   have W:=aG.wf.fill (k:=1-k) ht om hqG r3 r1 r2
   have W2:=WF.same W a.fds (jaj ht) (Wi.fill_same om)
   have T:To h h3 ow ow:=To.old (o1.trans oG) (XG.to (k:=1-(1-k)) om hqG r3)
   have fin:WSt h3 w s ow ((wxs l).set n (t.x.fill (1-k) (min 1 t.x.cap) [] [1])) now tb (some (n,k)):=⟨_,W2,jbj⟩
   rw [<- ek] at e3
   refine at_ hcl om rfl rfl rfl ?_
   clear hok nt
   refine qx1 ?_
   refine Ops.make (ob := .cells [.int .u8 1] false) (mk:=fun b=>.slice (some (b,0)) 1 (.fix 1)) rfl rfl ?_
   refine qx1 ?_
   exact ⟨rfl,fin,T⟩
  ·rw [if_neg hqn]
   have hpos : ¬ (q.length:Int)=0:=by have:=List.length_pos_iff.2 hqn;omega
   have fin:WSt h1 w s ow (wxs l) now tb (some (n,k)):=⟨l,a1,rfl⟩
   have T:To h h1 ow ow:=To.of_old o1
   refine at_ hcl om rfl rfl rfl ?_
   clear hok nt
   refine qx1 ?_
   exact ⟨rfl,fin,T⟩
end
section
variable {h h':H} {w s:Nat} {ow:Nat->Nat} {f:Nat->Option (Nat × Nat)} {l:List WX} {ws:Ws} {now:Int} {tb tb':Tb} {no:Option (Nat × Nat)}
theorem WF.tbl (a:WF h w s ow f l now tb no) (ch:Ch (fun j=>j=s) h h') (g:h'.get s=some tb'.obj):WF h' w s ow f l now tb' no:=by
 obtain ⟨wv,p1,p2,p3⟩:=a.hw
 have ts:=a.ts
 have k : ∀ j,ow j≠0->ow j≠3->h'.get j=h.get j:=fun j h0 h3=>ch.get j (a.lt_of h0) fun e=>by
  have e:j=s:=e
  rw [e] at h3;exact h3 ts
 exact ⟨⟨wv,by rw [k w (by rw [a.tw];omega) (by rw [a.tw];omega),p1],p2.keep ch.nx fun z hz=>k z (by rw [p3 z hz];omega) (by rw [p3 z hz];omega),p3⟩,g,a.tw,a.ts,zr a.lw ch.nx,zr a.ls ch.nx,
  fun j hj=>a.top j (zA ch.nx hj),fun n t ht=>(a.ok n t ht).keep ch.nx fun j h1 _=>k j om om⟩
theorem WSt.tbl (a:WSt h w s ow ws now tb no) (ch:Ch (fun j=>j=s) h h') (g:h'.get s=some tb'.obj):WSt h' w s ow ws now tb' no/\To h h' ow ow:=by
 obtain ⟨l,a,e⟩:=a
 refine ⟨⟨l,⟨a.wf.tbl ch g,a.fds⟩,e⟩,⟨ch.weaken fun j _ hb=>?_,fun _ _=>rfl⟩⟩
 have hb:j=s:=hb
 rw [hb,a.wf.ts];omega
theorem WF.noti (a:WF h w s ow f l now tb no) {o:Nat} {p:Option (Nat × Nat)} {wl:List V} (ho:o=291) (hl:h.get w=some (.cells wl false)):WF (h.set w (.cells (jao wl o (plc p)) false)) w s ow f l now tb p:=by
 obtain ⟨wv,p1,p2,p3⟩:=a.hw
 rw [p1] at hl;cases hl
 have tw:=a.tw
 have hne : ∀ j,ow j≠1->j≠w:=fun j hj e=>by rw [e] at hj;exact hj tw
 refine ⟨⟨wv,by rw [jab,wc_set_no ho],p2.keep (zq _) fun z hz=>jaa (hne z (by rw [p3 z hz];omega)),p3⟩,by rw [jaa (hne s (by rw [a.ts];omega)),a.hs],a.tw,a.ts,a.lw,a.ls,a.top,fun n t ht=>(a.ok n t ht).keep (zq _) fun j h1 _=>jaa (hne j om)⟩
theorem WSt.noti (a:WSt h w s ow ws now tb no) {o:Nat} {p:Option (Nat × Nat)} {wl:List V} (ho:o=291) (hl:h.get w=some (.cells wl false)):WSt (h.set w (.cells (jao wl o (plc p)) false)) w s ow ws now tb p/\To h (h.set w (.cells (jao wl o (plc p)) false)) ow ow:=by
 obtain ⟨l,a,e⟩:=a
 refine ⟨⟨l,⟨a.wf.noti ho hl,a.fds⟩,e⟩,⟨Ch.set ?_,fun _ _=>rfl⟩⟩
 show ow w≠0
 rw [a.wf.tw];omega
end
section
variable {cl:Nat->Call} (hcl:Sem cl) {h:H} {w s:Nat} {ow:Nat->Nat} {ws:Ws} {now:Int} {tb:Tb} {no:Option (Nat × Nat)}
include hcl
theorem ww_Handle {d:Nat} {sg:Int} {on:Bool} (hd:12<=d) (a:WSt h w s ow ws now tb no) (nt:NtOk ws (noI no) (siI no)) (hok:(tb.handle sg on).ok 1000000) :
  ∃ h',cl d (.fn F.jf0) [.p w 0,.i sg,.bool on] h=some (.i (if sig? sg then 0 else 100),h')/\WSt h' w s ow (jap ws ((tb.handle sg on).sum 32) (noI no) (siI no)) now (tb.handle sg on) no/\To h h' ow ow:=by
 obtain ⟨l,b,rfl⟩:=id a
 have hn:=jbC hcl (d:=d-1) om b.wf
 obtain ⟨sa,c,hw,_⟩:=b.wf.head
 have q4:(wc (fun i=>atS (wxs l) (i:Int)) (.slice sa l.length c) s now no)[0+289]?=some (.p s 0):=jdL rfl
 have lw:=b.wf.lw
 obtain ⟨h1,e1,u1⟩:=sp_handle hcl (d:=d-1) om b.wf.hs sg on
 obtain ⟨a1,t1⟩:=a.tbl (tb':=tb.handle sg on) (u1.ch (B:=fun j=>j=s) rfl) u1.self
 obtain ⟨h2,e2,a2,t2⟩:=jeA hcl (d:=d-1) om a1 nt hok
 have T:=To.trans t1 t2
 refine jag (at_ hcl om rfl rfl rfl ?_)
 clear hok nt
 refine qx1 ?_
 exact ⟨rfl,a2,T⟩
theorem jlF {d:Nat} {sg:Int} (hd:12<=d) (a:WSt h w s ow ws now tb no) (nt:NtOk ws (noI no) (siI no)) (h0:tb.ok 1000000) (hok:(tb.raise sg).ok 1000000) :
  ∃ h',cl d (.fn F.jgo) [.p w 0,.i sg] h=some (.i (if sig? sg then 0 else 100),h')/\WSt h' w s ow (jap ws ((tb.raise sg).sum 32) (noI no) (siI no)) now (tb.raise sg) no/\To h h' ow ow:=by
 obtain ⟨l,b,rfl⟩:=id a
 have hn:=jbC hcl (d:=d-1) om b.wf
 obtain ⟨sa,c,hw,_⟩:=b.wf.head
 have q4:(wc (fun i=>atS (wxs l) (i:Int)) (.slice sa l.length c) s now no)[0+289]?=some (.p s 0):=jdL rfl
 have lw:=b.wf.lw
 obtain ⟨h1,e1,u1⟩:=sp_raise hcl (d:=d-1) om b.wf.hs sg h0
 obtain ⟨a1,t1⟩:=a.tbl (tb':=tb.raise sg) (u1.ch (B:=fun j=>j=s) rfl) u1.self
 obtain ⟨h2,e2,a2,t2⟩:=jeA hcl (d:=d-1) om a1 nt hok
 have T:=To.trans t1 t2
 refine jag (at_ hcl om rfl rfl rfl ?_)
 clear hok nt h0
 refine qx1 ?_
 exact ⟨rfl,a2,T⟩
theorem jmw {d:Nat} (hd:12<=d) (a:WSt h w s ow ws now tb no) (nt:NtOk ws (noI no) (siI no)) (h0:tb.take.ok 1000000) :
  ∃ v h',cl d (.fn F.jfg) [.p w 0] h=some (v,h')/\Row h.nx h' 2 v (tb.cnts 32).length (jaQ (tb.cnts 32))/\WSt h' w s ow (jap ws (tb.take.sum 32) (noI no) (siI no)) now tb.take no/\To h h' ow ow:=by
 obtain ⟨l,b,rfl⟩:=id a
 have hn:=jbC hcl (d:=d-1) om b.wf
 obtain ⟨sa,c,hw,_⟩:=b.wf.head
 have q4:(wc (fun i=>atS (wxs l) (i:Int)) (.slice sa l.length c) s now no)[0+289]?=some (.p s 0):=jdL rfl
 have lw:=b.wf.lw
 obtain ⟨v,h1,e1,row,g1,c1⟩:=sp_take hcl (d:=d-1) om b.wf.hs b.wf.ls
 obtain ⟨a1,t1⟩:=a.tbl (tb':=tb.take) c1 g1
 obtain ⟨h2,e2,a2,t2⟩:=jeA hcl (d:=d-1) om a1 nt h0
 have T:=To.trans t1 t2
 have row2:Row h.nx h2 2 v (tb.cnts 32).length (jaQ (tb.cnts 32)):=row.keep t2.ch.nx fun z hz=>t2.ch.get z (row.at_ge hz).2 fun hne=>hne (b.wf.top z (row.at_ge hz).1)
 refine at_ hcl om rfl rfl rfl ?_
 clear h0 nt
 refine qx1 ?_
 exact ⟨row2,a2,T⟩
end
noncomputable def noT (ws:Ws) (a b:Int) (no:Option (Nat × Nat)):Option (Nat × Nat):=match (ntS ws a b).2 with
 | none=>no
 | some p=>some p
theorem joE {ws:Ws} {a b:Int} {no:Option (Nat × Nat)} : noI (noT ws a b no)=ntNo ws a b (noI no):=by
 unfold noT ntNo
 cases (ntS ws a b).2<;>rfl
theorem joD {ws:Ws} {a b:Int} {no:Option (Nat × Nat)} : siI (noT ws a b no)=ntSi ws a b (siI no):=by
 unfold noT ntSi
 cases (ntS ws a b).2<;>rfl
theorem jmF {x:Wi} {r0 r1:Nat} {v:V} {o:Nat} (ho:o=2):(x.cells r0 r1 v)[o]?=some (En.ptr x.e0.ring r0):=by subst ho;rfl
theorem jmE {x:Wi} {r0 r1:Nat} {v:V} {o:Nat} (ho:o=9):(x.cells r0 r1 v)[o]?=some (En.ptr x.e1.ring r1):=by subst ho;rfl
section
variable {cl:Nat->Call} (hcl:Sem cl) {h:H} {w s:Nat} {ow:Nat->Nat} {ws:Ws} {now:Int} {tb:Tb} {no:Option (Nat × Nat)}
include hcl
theorem ww_Notice {d:Nat} {x y:Int} (hd:12<=d) (a:WSt h w s ow ws now tb no) (o:WsOk ws) (hok:tb.ok 1000000) :
  ∃ h',cl d (.fn F.jdk) [.p w 0,.i x,.i y] h=some (.i (ntS ws x y).1,h')/\WSt h' w s ow (ntW ws (tb.sum 32) x y) now tb (noT ws x y no)/\To h h' ow ow:=by
 obtain ⟨l,b,rfl⟩:=id a
 suffices q : ∃ v h',cl d (.fn F.jdk) [.p w 0,.i x,.i y] h=some (v,h')/\(v = .i (ntS (wxs l) x y).1/\WSt h' w s ow (ntW (wxs l) (tb.sum 32) x y) now tb (noT (wxs l) x y no)/\To h h' ow ow) by
  obtain ⟨_,h',e,rfl,q⟩:=q;exact ⟨h',e,q⟩
 unfold ntW noT
 have keep : ∀ g,Old h g->WSt g w s ow (wxs l) now tb no/\To h g ow ow:=fun g og=>⟨a.old og,To.of_old og⟩
 rcases jd0 hcl (d:=d-1) (fd:=x) om b o.uniq with ⟨hno,h1,e1,o1,x1⟩ | ⟨n,k,m,t,rfl,hm,hat,ht,hk,h1,e1,o1,x1⟩
 ·have hS:ntS (wxs l) x y=(110,none):=jaA hno
  rw [hS]
  have o2:Old h ((h1.new (.cells [.bool false,.i 0,.i 0] false)).set h1.nx (.cells [.bool false,.i 0,.i 0] false)):=o1.new.set o1.1
  have x2:((h1.new (.cells [.bool false,.i 0,.i 0] false)).set h1.nx (.cells [.bool false,.i 0,.i 0] false)).nx=h.nx+2:=by
   show h1.nx+1=_;omega
  have hq : ∃ (v:List V) (p:V) (e:Int) (h3:H),cl (d-1) (.fn F.jb7) [.p w 0,.i y] ((h1.new (.cells [.bool false,.i 0,.i 0] false)).set h1.nx (.cells [.bool false,.i 0,.i 0] false))=some (.tup [.agg v,p,.i e],h3)/\v.length=3/\v.all V.one=true/\Old h h3:=by
   rcases jd0 hcl (d:=d-1) (fd:=y) om (b.old o2) o.uniq with ⟨_,h3,e3,o3,_⟩ | ⟨_,_,_,_,_,_,_,_,_,h3,e3,o3,_⟩
   ·exact ⟨_,_,_,h3,e3,rfl,rfl,o2.trans o3⟩
   ·exact ⟨_,_,_,h3,e3,rfl,rfl,o2.trans o3⟩
  obtain ⟨v,p,e,h3,e3,v1,v2,o3⟩:=hq
  obtain ⟨va,vb,vc,rfl⟩ : ∃ va vb vc,v=[va,vb,vc]:=by
   match v,v1 with
   | [a,b,c],_=>exact ⟨a,b,c,rfl⟩
  refine at_ hcl om rfl rfl rfl ?_
  clear hok
  refine qm1 ?_
  refine Ops.storeN rfl rfl rfl v2 (jac _) (zu rfl) ?_
  refine qm1 ?_
  exact ⟨rfl,keep _ (o3.new.set o3.1)⟩
 have hS1:ntS (wxs l) (m:Int) y=_:=ja7 o.uniq hat (jaj ht)
 have o2:Old h ((h1.new (.cells [.bool false,.i 0,.i 0] false)).set h1.nx (.cells [.bool true,.i (n:Int),.i (k:Int)] false)):=o1.new.set o1.1
 have g2:((h1.new (.cells [.bool false,.i 0,.i 0] false)).set h1.nx (.cells [.bool true,.i (n:Int),.i (k:Int)] false)).get h1.nx=some (.cells [.bool true,.i (n:Int),.i (k:Int)] false):=jab _
 have x2:((h1.new (.cells [.bool false,.i 0,.i 0] false)).set h1.nx (.cells [.bool true,.i (n:Int),.i (k:Int)] false)).nx=h.nx+2:=by
  show h1.nx+1=_;omega
 rcases jd0 hcl (d:=d-1) (fd:=y) om (b.old o2) o.uniq with ⟨hno,h3,e3,o3,x3⟩ | ⟨n2,k2,m2,t2,rfl,hm2,hat2,ht2,hk2,h3,e3,o3,x3⟩
 ·rw [jaA hno] at hS1
  rw [hS1]
  have o4:=o2.trans o3
  refine at_ hcl om rfl rfl rfl ?_
  clear hok
  refine qm1 ?_
  exact ⟨rfl,keep _ (o4.new.set o4.1)⟩
 rw [ja7 o.uniq hat2 (jaj ht2)] at hS1
 have o4:=o2.trans o3
 have g3:h3.get h1.nx=some (.cells [.bool true,.i (n:Int),.i (k:Int)] false):=(o3.2 _ om).trans g2
 have X:=b.wf.ok n t ht
 have lx:=X.lx
 have hx3:h3.get t.wb=some (.cells (t.x.cells t.r0 t.r1 t.wv) false):=by rw [o4.2 _ X.lx];exact X.hx
 have q1:(t.x.cells t.r0 t.r1 t.wv)[0+0+(0:Int).toNat*7+2]?=some (En.ptr t.x.e0.ring t.r0):=jmF rfl
 have q2:(t.x.cells t.r0 t.r1 t.wv)[0+0+(1:Int).toNat*7+2]?=some (En.ptr t.x.e1.ring t.r1):=jmE rfl
 have lh1:h1.nx<h3.nx:=by omega
 by_cases hg:n=n2/\k≠k2/\t.x.e0.ring≠none/\t.x.e1.ring≠none
 case neg=>
  rw [if_neg hg] at hS1
  rw [hS1]
  by_cases h1':n=n2
  case neg=>
   have h1'':(n:Int)≠(n2:Int):=by omega
   refine at_ hcl om rfl rfl rfl ?_
   clear hok hg
   refine qm1 ?_
   exact ⟨rfl,keep _ (o4.new.set o4.1)⟩
  have h1'' : ¬ (n:Int)≠(n2:Int):=by omega
  by_cases h2':k=k2
  ·have h2'':(k:Int)=(k2:Int):=by omega
   refine at_ hcl om rfl rfl rfl ?_
   clear hok hg
   refine qm1 ?_
   exact ⟨rfl,keep _ (o4.new.set o4.1)⟩
  have h2'' : ¬ (k:Int)=(k2:Int):=by omega
  cases hr0:t.x.e0.ring with
  | none=>
   have q1:(t.x.cells t.r0 t.r1 t.wv)[0+0+(0:Int).toNat*7+2]?=some (.ptr none):=by rw [q1];simp [En.ptr,hr0]
   refine at_ hcl om rfl rfl rfl ?_
   clear hok hg
   refine qm1 ?_
   exact ⟨rfl,keep _ (o4.new.set o4.1)⟩
  | some b0=>
   have q1:(t.x.cells t.r0 t.r1 t.wv)[0+0+(0:Int).toNat*7+2]?=some (.p t.r0 0):=by rw [q1];simp [En.ptr,hr0]
   cases hr1:t.x.e1.ring with
   | none=>
    have q2:(t.x.cells t.r0 t.r1 t.wv)[0+0+(1:Int).toNat*7+2]?=some (.ptr none):=by rw [q2];simp [En.ptr,hr1]
    refine at_ hcl om rfl rfl rfl ?_
    clear hok hg
    refine qm1 ?_
    exact ⟨rfl,keep _ (o4.new.set o4.1)⟩
   | some b1=>exact absurd ⟨h1',h2',by rw [hr0];simp,by rw [hr1];simp⟩ hg
 rw [if_pos hg] at hS1
 rw [hS1]
 obtain ⟨rfl,hkk,hr0,hr1⟩:=hg
 have nt:NtOk (wxs l) (noI (some (n,k))) (siI (some (n,k))) := .inr ⟨n,k,t.x,rfl,rfl,hk,jaj ht,hr0,hr1⟩
 have h1'' : ¬ (n:Int)≠(n:Int):=by omega
 have h2'' : ¬ (k:Int)=(k2:Int):=by omega
 obtain ⟨b0,hb0⟩:=Option.ne_none_iff_exists'.1 hr0
 obtain ⟨b1,hb1⟩:=Option.ne_none_iff_exists'.1 hr1
 have q1:(t.x.cells t.r0 t.r1 t.wv)[0+0+(0:Int).toNat*7+2]?=some (.p t.r0 0):=by rw [q1];simp [En.ptr,hb0]
 have q2:(t.x.cells t.r0 t.r1 t.wv)[0+0+(1:Int).toNat*7+2]?=some (.p t.r1 0):=by rw [q2];simp [En.ptr,hb1]
 have o5:Old h ((h3.new (.cells [.bool false,.i 0,.i 0] false)).set h3.nx (.cells [.bool true,.i (n:Int),.i (k2:Int)] false)):=o4.new.set o4.1
 have a5:=a.old o5
 obtain ⟨l5,b5,e5⟩:=id a5
 obtain ⟨wv,hw5,_⟩:=b5.wf.hw
 obtain ⟨a6,t6⟩:=a5.noti (p:=some (n,k)) (o:=0+291) rfl hw5
 obtain ⟨h7,e7,a7,t7⟩:=jeA hcl (d:=d-1) om a6 nt hok
 have T:=(To.of_old o5:To _ _ ow ow).trans (t6.trans t7)
 have fin:WSt h7 w s ow (jap (wxs l) (tb.sum 32) (n:Int) (k:Int)) now tb (some (n,k)):=a7
 refine at_ hcl om rfl rfl rfl ?_
 clear hok nt
 refine qm1 ?_
 exact ⟨rfl,fin,T⟩
end
structure Mono (g h:H):Prop where
 nx:h.nx=g.nx
 get : ∀ j o,j<g.nx->g.get j=some o->h.get j=some o
theorem VB.mono {g h:H} {v:V} {l:List UInt8} (m:Mono g h) (a:VB g v l):VB h v l:=by
 obtain ⟨a,c,rfl,n,f,k⟩:=a
 refine ⟨a,c,rfl,n,f,fun hl=>?_⟩
 obtain ⟨b,o,cs,ro,rfl,h1,h2,h3⟩:=k hl
 exact ⟨b,o,cs,ro,rfl,by rw [m.nx];exact h1,m.get b _ h1 h2,h3⟩
theorem VI.mono {g h:H} {v:V} {l:List Int} (m:Mono g h) (a:VI g v l):VI h v l:=by
 obtain ⟨a,c,rfl,n,f,k⟩:=a
 refine ⟨a,c,rfl,n,f,fun hl=>?_⟩
 obtain ⟨b,o,cs,ro,rfl,h1,h2,h3⟩:=k hl
 exact ⟨b,o,cs,ro,rfl,by rw [m.nx];exact h1,m.get b _ h1 h2,h3⟩
theorem Row.mono {N sz n:Nat} {g h:H} {v:V} {cs:List V} (m:Mono g h) (a:Row N g sz v n cs):Row N h sz v n cs:=by
 rcases a with a | ⟨q,h1,h2,rfl,h4,h5⟩
 ·exact .inl a
 ·exact .inr ⟨q,h1,by rw [m.nx];exact h2,rfl,m.get q _ h2 h4,h5⟩
theorem RW.mono {g h:H} {rw q:Nat} {l:List RX} {tl:List V} (m:Mono g h) (a:RW g rw q l tl):RW h rw q l tl:=by
 refine ⟨by rw [m.nx];exact a.lw,by rw [m.nx];exact a.lq,a.ne,fun hl=>⟨m.get _ _ a.lw (a.at_ hl).hw,m.get _ _ a.lq (a.at_ hl).hq,a.ne⟩,fun hl=>m.get _ _ a.lw (a.nil hl),fun r hr=>?_⟩
 obtain ⟨p1,p2⟩:=a.ok r hr
 exact ⟨fun k hk=>⟨(p1 k hk).1.mono m,fun z hz=>by rw [m.nx];exact (p1 k hk).2 z hz⟩,p2.1.mono m,fun z hz=>by rw [m.nx];exact p2.2 z hz⟩
theorem RW.re {g:H} {rw q q':Nat} {tl:List V} (a:RW g rw q [] tl) (h1:q'<g.nx) (h2:rw≠q'):RW g rw q' [] tl :=
 ⟨a.lw,h1,h2,fun h=>absurd rfl h,a.nil,fun r hr=>by cases hr⟩
theorem joO (h:H) (own:Nat->Prop) : ∀ n,∃ g:H,g.nx=h.nx/\(∀ j,j<n -> ¬ own j->g.get j=none) /\ ∀ j,n<=j\/own j->g.get j=h.get j
 | 0=>⟨h,rfl,fun j hj=>by omega,fun _ _=>rfl⟩
 | n+1=>by
  obtain ⟨g,g1,g2,g3⟩:=joO h own n
  by_cases e:own n
  ·refine ⟨g,g1,fun j hj ho=>?_,fun j hj=>g3 j (hj.imp (fun h=>by omega) id)⟩
   rcases zx j n with h1 | h1
   ·exact g2 j h1 ho
   ·obtain rfl:j=n:=by omega
    exact absurd e ho
  ·refine ⟨g.kill n,g1,fun j hj ho=>?_,fun j hj=>?_⟩
   ·by_cases ej:j=n
    ·subst ej;rw [H.get_kill,if_pos rfl]
    ·rw [jak ej];exact g2 j om ho
   ·have ej:j≠n:=by
     rintro rfl
     rcases hj with h1 | h1
     ·omega
     ·exact e h1
    rw [jak ej];exact g3 j (hj.imp (fun h=>by omega) id)
structure RO (h:H) (ro dat:Nat->Prop) (rw:Nat) (l:List RX) (tl:List V):Prop where
 ex : ∃ q,(l≠[]->ro q) /\ ∀ g:H,g.nx=h.nx->(∀ j,j<h.nx->ro j\/dat j->g.get j=h.get j)->RW g rw q l tl
 lt : ∀ j,ro j\/dat j->j<h.nx
 hr:ro rw
 ap : ∀ j,ro j -> ¬ dat j
theorem RO.keep {h h':H} {ro dat:Nat->Prop} {rw:Nat} {l:List RX} {tl:List V} (a:RO h ro dat rw l tl) (hx:h.nx<=h'.nx) (hk : ∀ j,ro j\/dat j->h'.get j=h.get j):RO h' ro dat rw l tl:=by
 obtain ⟨q,hq,k⟩:=a.ex
 refine ⟨⟨q,hq,fun g g1 g2=>?_⟩,fun j hj=>zr (a.lt j hj) hx,a.hr,a.ap⟩
 have w:=k ⟨h.nx,g.t⟩ rfl fun j hj ho=>(g2 j (zr hj hx) ho).trans (hk j ho)
 exact w.old ⟨by rw [g1];exact hx,fun _ _=>rfl⟩
theorem RO.call {cl:Nat->Call} (hcl:Sem cl) {d p f:Nat} {args:List V} {h:H} {ro dat:Nat->Prop} {rw:Nat} {l:List RX} {tl:List V} {P:H->V->List RX->List V->Prop} (a:RO h ro dat rw l tl) (hp:p<h.nx) (hop:h.get p≠none) (hnp : ¬ (ro p\/dat p))
  (mono : ∀ g g' v l tl,Mono g g'->P g v l tl->P g' v l tl)
  (k : ∀ g q,(∀ j,j<h.nx->ro j\/dat j->g.get j=h.get j)->g.nx=h.nx->RW g rw q l tl->(q=p\/ro q) -> ∃ v q' l' tl' g',cl d (.fn f) args g=some (v,g')/\RW g' rw q' l' tl'/\Ch (RC rw q) g g'/\(q'=q\/g.nx<=q')/\P g' v l' tl') :
  ∃ v l' tl' h',cl d (.fn f) args h=some (v,h')/\RO h' (fun j=>ro j\/(h.nx<=j/\j<h'.nx)) dat rw l' tl'/\Ch ro h h'/\P h' v l' tl':=by
 obtain ⟨q0,hq0,k0⟩:=a.ex
 obtain ⟨g,g1,g2,g3⟩:=joO h (fun j=>ro j\/dat j) h.nx
 have w0:=k0 g g1 fun j _ ho=>g3 j (.inr ho)
 obtain ⟨q,w,hq⟩ : ∃ q,RW g rw q l tl/\(q=p\/ro q):=by
  by_cases hl:l=[]
  ·subst hl
   exact ⟨p,w0.re (by rw [g1];exact hp) (fun e=>hnp (.inl (by rw [<- e];exact a.hr))),.inl rfl⟩
  ·exact ⟨q0,w0,.inr (hq0 hl)⟩
 obtain ⟨v,q',l',tl',g',e1,e2,e3,e5,e4⟩:=k g q (fun j _ ho=>g3 j (.inr ho)) g1 w hq
 have X:Ext (fun j=>if j<h.nx/\g.get j=none then h.get j else none) g h:=by
  refine ⟨g1.symm,fun j=>?_,fun j hj=>?_⟩
  ·by_cases hj:j<h.nx
   ·by_cases ho:ro j\/dat j
    ·rw [g3 j (.inr ho)]
     cases hh:h.get j<;>simp [hh]
    ·rw [g2 j hj ho];simp [hj]
   ·rw [g3 j (.inl om)]
    cases hh:h.get j<;>simp [hj]
  ·by_cases hc:j<h.nx/\g.get j=none
   ·exact ⟨by rw [g1];exact hc.1,hc.2⟩
   ·simp [hc] at hj
 have hF:=(jjP primsF fuel d)
 rw [hcl d] at e1 ⊢
 obtain ⟨h',q1,q2⟩:=hF.1 _ _ _ _ _ e1 _ _ X
 have hx:h.nx<=h'.nx:=by rw [q2.nx,<- g1];exact e3.nx
 have m:Mono g' h':=⟨q2.nx,fun j o _ hj=>q2.has hj⟩
 have off : ∀ j,j<h.nx -> ¬ (ro j\/dat j)->g'.get j=none:=by
  intro j hj ho
  by_cases hz:h.get j=none
  ·rw [e3.get j (by rw [g1];exact hj) (by
    rintro (rfl | rfl)
    ·rcases hq with rfl | hq
     ·exact hop hz
     ·exact ho (.inl hq)
    ·exact ho (.inl a.hr)),g2 j hj ho]
  ·exact (q2.off j (by simp [hj,g2 j hj ho,hz])).2
 have same : ∀ j,(ro j\/dat j)->h'.get j=g'.get j:=by
  intro j ho
  rw [q2.get j]
  by_cases hz:g.get j=none
  ·have:h.get j=none:=by rw [<- g3 j (.inr ho),hz]
   simp [this]
  ·simp [hz]
 refine ⟨v,l',tl',h',q1,⟨⟨q',fun hl=>?_,fun g4 n4 k4=>?_⟩,fun j hj=>?_,.inl a.hr,fun j hj hd=>?_⟩,⟨hx,fun j hj ho=>?_⟩,mono _ _ _ _ _ m e4⟩
 ·have hz:=(e2.at_ hl).hq
  rcases zx q' h.nx with h1 | h1
  ·rcases e5 with rfl | h2
   ·rcases hq with rfl | hq
    ·rw [off q' h1 hnp] at hz;cases hz
    ·exact .inl hq
   ·omega
  ·exact .inr ⟨h1,by rw [q2.nx];exact e2.lq⟩
 ·refine e2.mono ⟨by rw [n4,q2.nx],fun j o hj hg=>?_⟩
  by_cases ho:ro j\/dat j
  ·rw [k4 j (by rw [q2.nx];exact hj) (ho.imp .inl id),same j ho,hg]
  ·rcases zx j h.nx with h1 | h1
   ·rw [off j h1 ho] at hg;cases hg
   ·rw [k4 j (by rw [q2.nx];exact hj) (.inl (.inr ⟨h1,by rw [q2.nx];exact hj⟩)),q2.has hg]
 ·rcases hj with (hj | hj) | hj
  ·exact zr (a.lt j (.inl hj)) hx
  ·exact hj.2
  ·exact zr (a.lt j (.inr hj)) hx
 ·rcases hj with hj | hj
  ·exact a.ap j hj hd
  ·have:=a.lt j (.inr hd)
   omega
 ·by_cases hd:dat j
  ·have hne : ¬ RC rw q j:=by
    rintro (rfl | rfl)
    ·rcases hq with rfl | hq
     ·exact hnp (.inr hd)
     ·exact a.ap _ hq hd
    ·exact a.ap _ a.hr hd
   rw [same j (.inr hd),e3.get j (by rw [g1];exact hj) hne,g3 j (.inr (.inr hd))]
  ·have h2:=off j hj (fun h=>h.elim ho hd)
   rw [q2.get j,h2]
   have h3:=g2 j hj (fun h=>h.elim ho hd)
   simp [hj,h3]
structure St where
 ws:Ws
 now:Int
 tb:Tb
 no:Option (Nat × Nat)
abbrev St.tl (r:St):List V:=tail r.now r.tb.hd r.tb.pd (noI r.no) (siI r.no)
section
variable {h h':H} {w s:Nat} {ow:Nat->Nat} {ws:Ws} {now:Int} {tb:Tb} {no:Option (Nat × Nat)}
theorem WSt.keep (a:WSt h w s ow ws now tb no) (hx:h.nx<=h'.nx) (hk : ∀ j,ow j≠0->h'.get j=h.get j):WSt h' w s ow ws now tb no:=by
 obtain ⟨l,a,e⟩:=a
 exact ⟨l,⟨a.wf.keep hx hk,a.fds⟩,e⟩
theorem WSt.top (a:WSt h w s ow ws now tb no) {j:Nat} (hj:h.nx<=j):ow j=0:=by
 obtain ⟨l,a,e⟩:=a
 exact a.wf.top j hj
theorem WSt.lt_of (a:WSt h w s ow ws now tb no) {j:Nat} (hj:ow j≠0):j<h.nx:=by
 obtain ⟨l,a,e⟩:=a
 exact a.wf.lt_of hj
theorem WSt.lw (a:WSt h w s ow ws now tb no):w<h.nx:=by
 obtain ⟨l,a,e⟩:=a
 exact a.wf.lw
end
structure BB (h:H) (p w s rw:Nat) (ow:Nat->Nat) (ro dat:Nat->Prop) (a r:St):Prop where
 W:WSt h w s ow a.ws a.now a.tb a.no
 R : ∃ l,RO h ro dat rw l r.tl/\l.map RX.x=r.ws
 hp:h.get p=some (.cells [.p w 0,.p rw 0] false)
 lp:p<h.nx
 sep : ∀ j,ro j\/dat j->ow j=0
 op:ow p=0
 rp : ¬ (ro p\/dat p)
structure Fm (h h':H) (ow:Nat->Nat) (ro:Nat->Prop) (ow':Nat->Nat) (ro':Nat->Prop):Prop where
 ch:Ch (fun j=>ow j≠0\/ro j) h h'
 tag : ∀ j,j<h.nx->ow' j=ow j
 rtag : ∀ j,j<h.nx->(ro' j↔ro j)
theorem Fm.refl {h:H} {ow:Nat->Nat} {ro:Nat->Prop} : Fm h h ow ro ow ro:=⟨Ch.refl _ _,fun _ _=>rfl,fun _ _=>Iff.rfl⟩
theorem Fm.trans {h h1 h2:H} {a b c:Nat->Nat} {x y z:Nat->Prop} (f:Fm h h1 a x b y) (g:Fm h1 h2 b y c z):Fm h h2 a x c z :=
 ⟨f.ch.trans_new g.ch fun j hj hb=>by rw [f.tag j hj,f.rtag j hj] at hb;exact hb,
  fun j hj=>by rw [g.tag j (zr hj f.ch.nx),f.tag j hj],fun j hj=>(g.rtag j (zr hj f.ch.nx)).trans (f.rtag j hj)⟩
theorem Fm.old {h h1:H} {ow:Nat->Nat} {ro:Nat->Prop} (o:Old h h1):Fm h h1 ow ro ow ro:=⟨o.ch,fun _ _=>rfl,fun _ _=>Iff.rfl⟩
theorem Fm.to {h h1:H} {ow ow':Nat->Nat} {ro:Nat->Prop} (t:To h h1 ow ow'):Fm h h1 ow ro ow' ro:=⟨t.ch.weaken fun _ _ hb=>.inl hb,t.tag,fun _ _=>Iff.rfl⟩
section
variable {h h':H} {p w s rw:Nat} {ow ow':Nat->Nat} {ro dat:Nat->Prop} {a a' r r':St}
theorem BB.old (b:BB h p w s rw ow ro dat a r) (o:Old h h'):BB h' p w s rw ow ro dat a r:=by
 obtain ⟨l,R,e⟩:=b.R
 exact ⟨b.W.old o,⟨l,R.keep o.1 fun j hj=>o.2 j (R.lt j hj),e⟩,by rw [o.2 _ b.lp,b.hp],zr b.lp o.1,b.sep,b.op,b.rp⟩
theorem BB.off (b:BB h p w s rw ow ro dat a r) (hx:h.nx<=h'.nx) (hk : ∀ j,j<h.nx->ow j≠0\/ro j\/dat j\/j=p->h'.get j=h.get j):BB h' p w s rw ow ro dat a r:=by
 obtain ⟨l,R,e⟩:=b.R
 exact ⟨b.W.keep hx fun j hj=>hk j (b.W.lt_of hj) (.inl hj),⟨l,R.keep hx fun j hj=>hk j (R.lt j hj) (.inr (hj.imp id .inl)),e⟩,by rw [hk _ b.lp (.inr (.inr (.inr rfl))),b.hp],zr b.lp hx,b.sep,b.op,b.rp⟩
theorem BB.wc (b:BB h p w s rw ow ro dat a r) (W:WSt h' w s ow' a'.ws a'.now a'.tb a'.no) (t:To h h' ow ow'):BB h' p w s rw ow' ro dat a' r:=by
 obtain ⟨l,R,e⟩:=b.R
 refine ⟨W,⟨l,R.keep t.ch.nx fun j hj=>t.ch.get j (R.lt j hj) fun hne=>hne (b.sep j hj),e⟩,by rw [t.ch.get p b.lp fun hne=>hne b.op,b.hp],zr b.lp t.ch.nx,fun j hj=>by rw [t.tag j (R.lt j hj)];exact b.sep j hj,by rw [t.tag p b.lp];exact b.op,b.rp⟩
theorem BB.ro_lt (b:BB h p w s rw ow ro dat a r) {j:Nat} (hj:ro j\/dat j):j<h.nx:=by
 obtain ⟨l,R,e⟩:=b.R
 exact R.lt j hj
theorem BB.ap (b:BB h p w s rw ow ro dat a r) {j:Nat} (hj:dat j) : ¬ ro j:=by
 obtain ⟨l,R,e⟩:=b.R
 exact fun h=>R.ap j h hj
theorem BB.rcc {cl:Nat->Call} (hcl:Sem cl) {d f:Nat} {args:List V} {P:H->V->Prop} (b:BB h p w s rw ow ro dat a r)
  (mono : ∀ g g' v,Mono g g'->P g v->P g' v)
  (k : ∀ g q l,(∀ j,j<h.nx->ro j\/dat j->g.get j=h.get j)->g.nx=h.nx->(q=p\/ro q)->RW g rw q l r.tl->l.map RX.x=r.ws ->
   ∃ v q' l' g',cl d (.fn f) args g=some (v,g')/\RW g' rw q' l' r'.tl/\l'.map RX.x=r'.ws/\Ch (RC rw q) g g'/\(q'=q\/g.nx<=q')/\P g' v) :
  ∃ v h',cl d (.fn f) args h=some (v,h')/\BB h' p w s rw ow (fun j=>ro j\/(h.nx<=j/\j<h'.nx)) dat a r'/\Fm h h' ow ro ow (fun j=>ro j\/(h.nx<=j/\j<h'.nx))/\Ch ro h h'/\P h' v:=by
 obtain ⟨l,R,e⟩:=b.R
 obtain ⟨v,l',tl',h',e1,R',c1,p1,p2,p3⟩:=R.call hcl (d:=d) (f:=f) (args:=args) (P:=fun g v l' tl'=>l'.map RX.x=r'.ws/\tl'=r'.tl/\P g v) b.lp (by rw [b.hp];simp) b.rp
  (fun g g' v l' tl' m hp=>⟨hp.1,hp.2.1,mono _ _ _ m hp.2.2⟩) (fun g q ga gn w hq=>by
   obtain ⟨v,q',l',g',k1,k2,k3,k4,k5,k6⟩:=k g q l ga gn hq w e
   exact ⟨v,q',l',_,g',k1,k2,k4,k5,k3,rfl,k6⟩)
 subst p2
 refine ⟨v,h',e1,⟨b.W.keep c1.nx fun j hj=>c1.get j (b.W.lt_of hj) fun hr=>hj (b.sep j (.inl hr)),⟨l',R',p1⟩,by rw [c1.get p b.lp fun hr=>b.rp (.inl hr),b.hp],zr b.lp c1.nx,fun j hj=>?_,b.op,fun hr=>?_⟩,⟨c1.weaken fun _ _ hb=>.inr hb,fun _ _=>rfl,fun j hj=>⟨fun hr=>?_,.inl⟩⟩,c1,p3⟩
 ·rcases hj with (hj | hj) | hj
  ·exact b.sep j (.inl hj)
  ·exact b.W.top hj.1
  ·exact b.sep j (.inr hj)
 ·have:=b.lp
  rcases hr with (hr | hr) | hr
  ·exact b.rp (.inl hr)
  ·omega
  ·exact b.rp (.inr hr)
 ·rcases hr with hr | hr
  ·exact hr
  ·omega
theorem BB.rc {cl:Nat->Call} (hcl:Sem cl) {d f:Nat} {args:List V} {P:H->V->Prop} (b:BB h p w s rw ow ro dat a r)
  (mono : ∀ g g' v,Mono g g'->P g v->P g' v)
  (k : ∀ g q l,(∀ j,j<h.nx->ro j\/dat j->g.get j=h.get j)->g.nx=h.nx->(q=p\/ro q)->RW g rw q l r.tl->l.map RX.x=r.ws ->
   ∃ v q' l' g',cl d (.fn f) args g=some (v,g')/\RW g' rw q' l' r'.tl/\l'.map RX.x=r'.ws/\Ch (RC rw q) g g'/\(q'=q\/g.nx<=q')/\P g' v) :
  ∃ v h',cl d (.fn f) args h=some (v,h')/\BB h' p w s rw ow (fun j=>ro j\/(h.nx<=j/\j<h'.nx)) dat a r'/\Fm h h' ow ro ow (fun j=>ro j\/(h.nx<=j/\j<h'.nx))/\P h' v:=by
 obtain ⟨v,h',e,b',f,_,q⟩:=b.rcc hcl mono k
 exact ⟨v,h',e,b',f,q⟩
end
theorem jo2 (t:Tb) : ∀ n,t.sum (n+1)=sumC t.pd n
 | 0=>by simp [Tb.sum,sumC]
 | n+1=>by
  have ih:=jo2 t n
  rw [Tb.sum,sumC,<- ih]
  split
  ·next h=>
   rcases h with h | h
   ·omega
   ·rw [h];omega
  ·rfl
theorem jm1 (t:Tb):t.sum 32=sumC t.pd 31:=jo2 t 31
theorem handle_hd (t:Tb) (s:Int) (on:Bool):(t.handle s on).hd=jex t.hd s on:=by
 unfold Tb.handle jex
 by_cases h:sig? s
 ·rw [if_pos h,if_pos (show jdU s from h)];rfl
 ·rw [if_neg h,if_neg (show ¬ jdU s from h)]
theorem jhY (t:Tb) (s:Int) (on:Bool):(t.handle s on).pd=jc6 t.pd s on:=by
 unfold Tb.handle jc6
 by_cases h:sig? s
 ·rw [if_pos h]
  cases on
  ·rw [if_pos (show jdU s/\false=false from ⟨h,rfl⟩)];rfl
  ·rw [if_neg (show ¬ (jdU s/\true=false) from fun e=>by cases e.2)];rfl
 ·rw [if_neg h,if_neg (show ¬ (jdU s/\on=false) from fun e=>h e.1)]
theorem jma (t:Tb) (s:Int):(t.raise s).hd=t.hd:=by
 unfold Tb.raise;split<;>rfl
theorem jfH (t:Tb) (s:Int):(t.raise s).pd=jdG t.hd t.pd s:=by
 unfold Tb.raise jdG
 by_cases h:sig? s/\t.hd s.toNat=true
 ·rw [if_pos h,if_pos (show jdU s/\t.hd s.toNat=true from h)]
  funext j
  unfold put1
  by_cases e:j=s.toNat
  ·subst e;simp
  ·simp [e]
 ·rw [if_neg h,if_neg (show ¬ (jdU s/\t.hd s.toNat=true) from h)]
theorem jla (t:Tb):t.take.pd=ctZ t.pd 31:=by
 funext j
 unfold Tb.take ctZ
 by_cases h:1<=j/\j<=31
 ·rw [if_pos h];show (if 1<=j/\j<32 then 0 else t.pd j)=0;rw [if_pos om]
 ·rw [if_neg h];show (if 1<=j/\j<32 then 0 else t.pd j)=_;rw [if_neg om]
theorem jkO {t:Tb} (h : ∀ k,0<=t.pd k) : ∀ n,(t.cnts (n+1)).map (fun p=>((p.1:Int),p.2))=jcw t.pd n
 | 0=>by simp [Tb.cnts,jcw]
 | n+1=>by
  have ih:=jkO h n
  have h1:=h (n+1)
  rw [Tb.cnts,jcw,<- ih]
  by_cases h0:t.pd (n+1)=0
  ·rw [if_pos (.inr h0),if_neg om];simp
  ·rw [if_neg om,if_pos om];simp
theorem jih : ∀ l:List (Nat × Int),jaQ l=jcz (l.map fun p=>((p.1:Int),p.2))
 | []=>rfl
 | p :: l=>by
  have:=jih l
  simp only [jaQ,jcz,List.map_cons,List.flatten_cons] at this ⊢
  rw [this];rfl
theorem jkF {t:Tb} {n:Int} (a:t.ok n) (h0:0<=n) (s:Int) (on:Bool):(t.handle s on).ok n:=by
 intro k
 rw [jhY]
 unfold jc6 put1
 split
 ·show 0<=(if k=s.toNat then (0:Int) else t.pd k)/\(if k=s.toNat then (0:Int) else t.pd k)<=n
  split
  ·omega
  ·exact a k
 ·exact a k
theorem jj4 {t:Tb} {n:Int} (a:t.ok n) (s:Int):(t.raise s).ok (n+1):=by
 intro k
 have:=a k
 rw [jfH]
 unfold jdG put1
 split
 ·show 0<=(if k=s.toNat then t.pd s.toNat+1 else t.pd k)/\(if k=s.toNat then t.pd s.toNat+1 else t.pd k)<=n+1
  split
  ·next e=>subst e;omega
  ·omega
 ·omega
theorem jnw {t:Tb} {n:Int} (a:t.ok n) (h0:0<=n):t.take.ok n:=by
 intro k
 rw [jla]
 unfold ctZ
 split
 ·omega
 ·exact a k
theorem Tb.ok.mono {t:Tb} {m n:Int} (a:t.ok m) (h:m<=n):t.ok n:=fun k=>⟨(a k).1,by have:=(a k).2;omega⟩
structure StOk (st:St) (i:Nat):Prop where
 K:WsK st.ws
 nt:NtOk st.ws (noI st.no) (siI st.no)
 now:0<=st.now/\st.now<=18446744073709551615
 tb:st.tb.ok i
noncomputable def doS (k a n t:Int) (D:List UInt8) (st:St):St :=
 if k=0\/k=1\/k=2\/k=3 then { st with ws:=(jaf st.ws k n).2 }
 else if k=4 then { st with ws:=(jaw st.ws a).2 }
 else if k=5 then { st with ws:=(jcm st.ws a n).2 }
 else if k=6 then { st with ws:=(jbE st.ws a D).2 }
 else if k=7 then { st with ws:=(jdN st.ws a).2 }
 else if k=8 then { st with ws:=(jcu st.ws a).2 }
 else if k=9 then { st with ws:=(putS st.ws a D).2 }
 else if k=10 then { st with ws:=(jci st.ws a n).2 }
 else if k=11 then { st with ws:=(ja8 st.ws a).2 }
 else if k=12 then { st with ws:=(jaz st.ws a).2 }
 else if k=13 then { st with ws:=(jbX st.ws a).2 }
 else if k=14 then { st with ws:=(jar st.ws a n).2 }
 else if k=15 then { st with now:=jcn st.now t }
 else if k=16 then { st with ws:=jap st.ws ((st.tb.handle a (decide (0<n))).sum 32) (noI st.no) (siI st.no),tb:=st.tb.handle a (decide (0<n)) }
 else if k=17 then { st with ws:=jap st.ws ((st.tb.raise a).sum 32) (noI st.no) (siI st.no),tb:=st.tb.raise a }
 else if k=18 then { st with ws:=jap st.ws (st.tb.take.sum 32) (noI st.no) (siI st.no),tb:=st.tb.take }
 else if k=19 then { st with ws:=ntW st.ws (st.tb.sum 32) a n,no:=noT st.ws a n st.no }
 else st
theorem StOk.ws {st:St} {i:Nat} {ws:Ws} (o:StOk st i) (K:WsK ws) (r:WsR st.ws ws):StOk { st with ws:=ws } (i+1) :=
 ⟨K,o.nt.keep r,o.now,o.tb.mono om⟩
theorem StOk.more {st:St} {i:Nat} (o:StOk st i):StOk st (i+1):=⟨o.K,o.nt,o.now,o.tb.mono om⟩
theorem jbK {P:St->Prop} {c:Prop} [Decidable c] {a b:St} (h1:c->P a) (h2:P b):P (if c then a else b):=by
 by_cases h:c
 ·rw [if_pos h];exact h1 h
 ·rw [if_neg h];exact h2
theorem joP {k a n t:Int} {D:List UInt8} {st:St} {i:Nat} (o:StOk st i) (t0:0<=t) (t1:t<=18446744073709551615):StOk (doS k a n t D st) (i+1):=by
 have K:=o.K
 unfold doS
 refine jbK (P:=fun s=>StOk s (i+1)) (fun h=>o.ws (jdT h K) makeS_r) ?_
 refine jbK (P:=fun s=>StOk s (i+1)) (fun _=>o.ws (jjd K) acceptS_r) ?_
 refine jbK (P:=fun s=>StOk s (i+1)) (fun _=>o.ws (readS_ok K) readS_r) ?_
 refine jbK (P:=fun s=>StOk s (i+1)) (fun _=>o.ws (writeS_ok K) writeS_r) ?_
 refine jbK (P:=fun s=>StOk s (i+1)) (fun _=>o.ws (shutS_ok K) shutS_r) ?_
 refine jbK (P:=fun s=>StOk s (i+1)) (fun _=>o.ws (closeS_ok K) closeS_r) ?_
 refine jbK (P:=fun s=>StOk s (i+1)) (fun _=>o.ws (putS_ok K) putS_r) ?_
 refine jbK (P:=fun s=>StOk s (i+1)) (fun _=>o.ws (takeS_ok K) takeS_r) ?_
 refine jbK (P:=fun s=>StOk s (i+1)) (fun _=>o.ws (jkx K) jlq) ?_
 refine jbK (P:=fun s=>StOk s (i+1)) (fun _=>o.ws (jj9 K) jky) ?_
 refine jbK (P:=fun s=>StOk s (i+1)) (fun _=>o.ws (resetS_ok K) resetS_r) ?_
 refine jbK (P:=fun s=>StOk s (i+1)) (fun _=>o.ws (jif K) jnd) ?_
 refine jbK (P:=fun s=>StOk s (i+1)) (fun _=>⟨K,o.nt,?_,o.tb.mono om⟩) ?_
 ·have:=o.now
  show 0<=jcn st.now t/\jcn st.now t<=_
  unfold jcn
  split<;>omega
 refine jbK (P:=fun s=>StOk s (i+1)) (fun _=>⟨jdS K o.nt,o.nt.keep (jeI o.nt),o.now,(jkF o.tb om _ _).mono om⟩) ?_
 refine jbK (P:=fun s=>StOk s (i+1)) (fun _=>⟨jdS K o.nt,o.nt.keep (jeI o.nt),o.now,(jj4 o.tb _).mono om⟩) ?_
 refine jbK (P:=fun s=>StOk s (i+1)) (fun _=>⟨jdS K o.nt,o.nt.keep (jeI o.nt),o.now,(jnw o.tb om).mono om⟩) ?_
 refine jbK (P:=fun s=>StOk s (i+1)) (fun _=>⟨?_,?_,o.now,o.tb.mono om⟩) o.more
 ·obtain ⟨no,si,h1,h2⟩:=joB (ws:=st.ws) (sum:=st.tb.sum 32) (a:=a) (b:=n)
  show WsK (ntW _ _ _ _)
  rw [h2];exact jdS K h1
 ·show NtOk (ntW _ _ _ _) (noI (noT _ _ _ _)) (siI (noT _ _ _ _))
  rw [joE,joD]
  obtain ⟨no,si,h1,h2⟩:=joB (ws:=st.ws) (sum:=st.tb.sum 32) (a:=a) (b:=n)
  rw [h2]
  exact (joC o.nt).keep (jeI h1)
structure Mv where
 op:Int
 wire:Int
 n:Int
 D:List UInt8
def Mv.may (m:Mv):Prop :=
 1<=m.op/\m.op<=7/\0<=m.wire/\0<=m.n/\m.D.length<=1000/\(m.op=7->m.wire=0)/\(m.op=2\/m.op=6\/m.op=7\/m.n=0)/\(m.op=1↔0<m.D.length)
instance (m:Mv):Decidable m.may:=by unfold Mv.may;infer_instance
noncomputable def Mv.ans (m:Mv) (st:St):Int × Int :=
 if m.op=1 then (putS st.ws m.wire m.D).1
 else if m.op=2 then ((jci st.ws m.wire m.n).1.1.length,(jci st.ws m.wire m.n).1.2)
 else if m.op=3 then (0,(ja8 st.ws m.wire).1)
 else if m.op=4 then (0,(jaz st.ws m.wire).1)
 else if m.op=5 then (0,(jbX st.ws m.wire).1)
 else if m.op=6 then (jar st.ws m.wire m.n).1
 else (0,if sig? m.n then 0 else 100)
noncomputable def Mv.go (m:Mv) (st:St):St:=doS (if m.op=7 then 17 else m.op+8) (if m.op=7 then m.n else m.wire) m.n 0 m.D st
noncomputable def mvS (m:Mv) (st:St):(Int × Int) × St:=if m.may then (m.ans st,m.go st) else ((0,120),st)
theorem joG {m:Mv} {st:St} {i:Nat} (o:StOk st i):StOk (mvS m st).2 (i+1):=by
 unfold mvS
 split
 ·exact joP o om om
 ·exact o.more
theorem Mv.go_1 {m:Mv} {st:St} (h:m.op=1):m.go st = { st with ws:=(putS st.ws m.wire m.D).2 } := by simp [Mv.go,doS,h]
theorem Mv.go_2 {m:Mv} {st:St} (h:m.op=2):m.go st = { st with ws:=(jci st.ws m.wire m.n).2 } := by simp [Mv.go,doS,h]
theorem Mv.go_3 {m:Mv} {st:St} (h:m.op=3):m.go st = { st with ws:=(ja8 st.ws m.wire).2 } := by simp [Mv.go,doS,h]
theorem Mv.go_4 {m:Mv} {st:St} (h:m.op=4):m.go st = { st with ws:=(jaz st.ws m.wire).2 } := by simp [Mv.go,doS,h]
theorem Mv.go_5 {m:Mv} {st:St} (h:m.op=5):m.go st = { st with ws:=(jbX st.ws m.wire).2 } := by simp [Mv.go,doS,h]
theorem Mv.go_6 {m:Mv} {st:St} (h:m.op=6):m.go st = { st with ws:=(jar st.ws m.wire m.n).2 } := by simp [Mv.go,doS,h]
theorem Mv.go_7 {m:Mv} {st:St} (h:m.op=7):m.go st = { st with ws:=jap st.ws ((st.tb.raise m.n).sum 32) (noI st.no) (siI st.no),tb:=st.tb.raise m.n } := by simp [Mv.go,doS,h]
structure Sp where
 ticks:Int
 intr:Bool
 order:List Int
 moves:List Mv
noncomputable def mvsS:List Mv->St->St
 | [],st=>st
 | m :: l,st=>mvsS l (mvS m st).2
noncomputable def jgi:List Sp->List Int->St->Bool × List Sp × List Int × St
 | [],o,st=>(false,[],o,st)
 | x :: l,o,st=>if x.ticks=0 then (if x.intr then (true,l,x.order,mvsS x.moves st) else jgi l x.order (mvsS x.moves st)) else (false,x :: l,o,st)
noncomputable def napS (rd:St->Bool) (forever:Bool):List Sp->Int->List Int->St->Int × List Sp × List Int × St
 | [],w,o,st=>
  if rd st then (1,[],o,st) else if forever=false/\w=0 then (2,[],o,st)
  else if forever then (4,[],o,st) else (2,[],o,{ st with now:=jcn st.now w })
 | x :: l,w,o,st=>
  if rd st then (1,x :: l,o,st) else if forever=false/\w=0 then (2,x :: l,o,st)
  else if forever=false/\w<x.ticks then (2,{ x with ticks:=x.ticks-w } :: l,o,{ st with now:=jcn st.now w })
  else if x.intr then (3,l,x.order,mvsS x.moves { st with now:=jcn st.now x.ticks })
  else napS rd forever l (w-min w x.ticks) x.order (mvsS x.moves { st with now:=jcn st.now x.ticks })
noncomputable def jbO (rd:St->Bool) (forever:Bool) (l:List Sp) (w:Int) (o:List Int) (st:St):Int × List Sp × List Int × St :=
 match jgi l o st with
 | (true,l',o',st')=>(3,l',o',st')
 | (false,l',o',st')=>napS rd forever l' w o' st'
theorem jgQ (b:UInt8):jgR (jcP b)=some b:=by
 have h:b.toNat<256:=b.toNat_lt
 have h2:jgE (b.toNat:Int) 256=true:=by
  rcases zx b.toNat 256 with _ | _
  ·simp [jgE];omega
  ·omega
 simp only [jcP,jgR,h2,cond_true,zw]
 congr 1
 exact UInt8.ofNat_toNat
theorem jfw : ∀ l:List UInt8,bytesOf (bts l)=some l
 | []=>rfl
 | b :: l=>by
  show (match jgR (jcP b),bytesOf (bts l) with | some b,some l=>some (b :: l) | _,_=>none)=_
  rw [jgQ,jfw l]
section
variable {call:Call} {fuel base:Nat} {ops:List Ins} {keep:List Nat} {K:List Fr} {e:Env} {h:H} {Q:Post} {ix:Nat} {dst at_:Option Nat}
theorem Ops.sadd {x y:Opd} {a b:List UInt8} (hx:x.ev e=some (.str a)) (hy:y.ev e=some (.str b)) (hl:a.length+b.length<=1000000) (k:Ops call fuel base ops keep K (layv e dst (.str (a++b))) h Q) :
  Ops call fuel base (⟨ix,dst,.bin .add x y,none,at_,[]⟩ :: ops) keep K e h Q:=by
 refine Ops.pure rfl ?_ k
 have h2:Nat.ble (a.length+b.length) (2 ^ 62)=true:=Nat.ble_eq_true_of_le om
 simp only [I.pure,hx,hy,binOp,jop,h2,cond_true]
theorem Ops.ofRow {x:Opd} {v:V} {N n:Nat} {l:List UInt8} (hx:x.ev e=some v) (r:Row N h 1 v n (bts l)) (k:Ops call fuel base ops keep K (layv e dst (.str l)) h Q) :
  Ops call fuel base (⟨ix,dst,.ofBytes x,none,at_,[]⟩ :: ops) keep K e h Q:=by
 refine Ops.step (I.run_read rfl ?_) k
 rcases r with ⟨rfl,h2,rfl⟩ | ⟨q,_,_,rfl,h4,h5⟩
 ·have:l=[]:=by simpa using h2
  subst this
  simp only [I.read,hx]
 ·simp only [I.read,hx]
  have hn:n=l.length:=by simpa using h5.symm
  subst hn
  cases l with
  | nil=>rfl
  | cons a l=>
   have:((a :: l).length == 0)=false:=rfl
   rw [this,cond_false,jcp h4 Zd,zk,zh Zd]
   show (match bytesOf (bts (a :: l)) with | some s=>some (V.str s) | none=>none)=_
   rw [jfw]
theorem Ops.ofBytesAt {x:Opd} {a:Option (Nat × Nat)} {c:Cap} {l:List UInt8} {m:Nat} (hx:x.ev e=some (.slice a m c)) (hl:BytesAt h a c l) (hm:m<=l.length) (k:Ops call fuel base ops keep K (layv e dst (.str (l.take m))) h Q) :
  Ops call fuel base (⟨ix,dst,.ofBytes x,none,at_,[]⟩ :: ops) keep K e h Q:=by
 refine Ops.step (I.run_read rfl ?_) k
 cases a with
 | none=>simp only [I.read,hx,(hl.none_ rfl).2,List.take_nil]
 | some a=>
  simp only [I.read,hx]
  by_cases h0:m=0
  ·subst h0;simp
  ·have:(m == 0)=false:=by simp [h0]
   rw [this,cond_false]
   obtain ⟨b,o,cs,ro,ea,_,hb,hc⟩:=hl.at_ (by rintro rfl;simp at hm;omega)
   cases ea
   obtain ⟨p1,p2⟩:=jdY (k:=0) (m:=m) hc om om
   rw [jcp hb om]
   simp only [Nat.add_zero,zk] at p2
   show (match bytesOf ((cs.drop o).take m) with | some s=>some (V.str s) | none=>none)=_
   rw [p2,jfw]
theorem Ops.mark {x:Opd} {b o n:Nat} {c:Cap} {l:List V} (hx:x.ev e=some (.slice (some (b,o)) n c)) (hb:h.get b=some (.cells l false)) (hn:Nat.ble 1 n=true) (k:Ops call fuel base ops keep K (layv e dst (.slice (some (b,o)) n c)) h Q) :
  Ops call fuel base (⟨ix,dst,.mark x,none,at_,[]⟩ :: ops) keep K e h Q:=by
 refine Ops.step (I.run_eff rfl ?_) k
 simp only [I.eff,hx,hb,hn,cond_true]
end
theorem joc {u:Nat} (h:u<10):dec u=[UInt8.ofNat (48+u)]:=by
 rw [jkN om,Lib.decDigits,dif_pos h]
theorem joQ {u:Nat} (h : ¬ u<10) (hu:u<18446744073709551616):dec u=dec (u/10)++[UInt8.ofNat (48+u%10)]:=by
 rw [jkN hu,jkN om,Lib.decDigits,dif_neg h]
theorem jjK {u:Nat} : ∀ {m:Nat},u<10 ^ (m+1)->u<18446744073709551616->(dec u).length<=m+1:=by
 intro m
 induction m generalizing u with
 | zero=>intro h _;rw [joc (by simpa using h)];simp
 | succ m ih=>
  intro h h2
  by_cases h3:u<10
  ·rw [joc h3];simp
  ·rw [joQ h3 h2,zg]
   have:=ih (u:=u/10) (by rw [Nat.pow_succ] at h;omega) om
   simp;omega
section
variable {call:Call} {fuel base:Nat} {ops:List Ins} {keep:List Nat} {K:List Fr} {e:Env} {h:H} {Q:Post}
theorem Ops.str1 {i1 i2 d1 d2:Nat} {x:Opd} {n:Int} {b:UInt8} (hx:x.ev e=some (.int .u8 n)) (hb:n=(b.toNat:Int))
  (k:Ops call fuel base ops keep K (layv (layv e (some d1) (.slice (some (h.nx,0)) 1 (.fix 1))) (some d2) (.str [b])) (h.new (.cells [jcP b] false)) Q) :
  Ops call fuel base (⟨i1,some d1,.bslice 1 1 [.int .u8 0] [(0,x)],none,none,[]⟩ :: ⟨i2,some d2,.ofBytes (.t d1),none,none,[]⟩ :: ops) keep K e h Q:=by
 subst hb
 refine Ops.make (ob := .cells [jcP b] false) (mk:=fun b=>.slice (some (b,0)) 1 (.fix 1)) rfl ?_ ?_
 ·simp only [I.make,jb1,List.map,hx];rfl
 ·refine Ops.step (v := .str [b]) (h':=h.new (.cells [jcP b] false)) (I.run_read rfl ?_) k
  have he:(Opd.t d1).ev (layv e (some d1) (.slice (some (h.nx,0)) 1 (.fix 1)))=some (.slice (some (h.nx,0)) 1 (.fix 1)):=by
   show (layv e (some d1) _).get d1=_
   rw [jb6];simp
  simp only [I.read,he]
  have:((1:Nat) == 0)=false:=rfl
  rw [this,cond_false,jcp (jac _) Zd]
  simp [bytesOf,jgQ]
end
theorem jo1 {m:Nat} (h:m<10):IntKind.u8.wrap (48+(m:Int))=((UInt8.ofNat (48+m)).toNat:Int):=by
 rw [UInt8.toNat_ofNat',IntKind.wrap_u8]
 omega
section
variable {cl:Nat->Call} (hcl:Sem cl)
include hcl
theorem jiH {d f u:Nat} {h:H} (hf:jdg prog.prims f=none) (hf2:jdg prog.fns f=some c125) (hd:1<=d) (hu:u<18446744073709551616) :
  ∃ h',cl d (.fn f) [.int .u64 (u:Int)] h=some (.str (dec u),h')/\Old h h':=by
 refine jag (at_ hcl om hf hf2 rfl ?_)
 refine qx1 ?_
 refine Run.loop (fun m e g=>∃ (n:Nat) (s:List UInt8),n<10 ^ (m+1)/\m+s.length<=19/\n<18446744073709551616/\dec u=dec n++s/\e=[(0,.int .u64 (n:Int)),(3,.str s)]/\Old h g)
  (k:=19) Ze ⟨u,[],by omega,by simp,hu,by simp,rfl,Old.refl h⟩ ?_
 rintro m _ g ⟨n,s,hm,hsl,hn,hs,rfl,old⟩ f ih
 by_cases hlt:n<10
 ·have hlt' : ¬ (9:Int)<(n:Int):=by omega
  refine qx1 ?_
  refine Ops.str1 (b:=UInt8.ofNat (48+n)) rfl (jo1 hlt) ?_
  refine qx1 ?_
  refine Ops.sadd rfl rfl Zc ?_
  refine qx1 ?_
  exact ⟨by rw [hs,joc hlt],old.trans ⟨by simp,fun _ hj=>jad hj⟩⟩
 ·have hlt':(9:Int)<(n:Int):=by omega
  have hm0:m≠0:=by rintro rfl;simp at hm;omega
  have e1:IntKind.u8.wrap (IntKind.u64.wrap (48+(n:Int).tmod 10))=((UInt8.ofNat (48+n%10)).toNat:Int):=by
   have:(n:Int).tmod 10=((n%10:Nat):Int):=(Int.ofNat_tmod n 10).symm
   rw [this,IntKind.wrap_u64,<- jo1 (m:=n%10) om]
   congr 1;omega
  refine qx1 ?_
  refine Ops.str1 (b:=UInt8.ofNat (48+n%10)) rfl e1 ?_
  refine qx1 ?_
  refine Ops.sadd rfl rfl Zc ?_
  refine qx1 ?_
  refine ih (m-1) om _ _ ⟨n/10,[UInt8.ofNat (48+n%10)]++s,?_,by simp;omega,by omega,by rw [hs,joQ hlt hn,List.append_assoc],?_,old.trans ⟨by simp,fun _ hj=>jad hj⟩⟩
  ·rw [show m-1+1=m by omega];rw [Nat.pow_succ] at hm;omega
  ·have:(n:Int).tdiv 10=((n/10:Nat):Int):=(Int.ofNat_tdiv n 10).symm
   rw [this,IntKind.wrap_u64,Int.emod_eq_of_lt om om]
theorem jkg {d u:Nat} {h:H} (hd:1<=d) (hu:u<18446744073709551616) :
  ∃ h',cl d (.fn F.jel) [.int .u64 (u:Int)] h=some (.str (dec u),h')/\Old h h':=jiH hcl rfl rfl hd hu
theorem jbG {d u:Nat} {h:H} (hd:2<=d) (hu:u<9223372036854775808) :
  ∃ h',cl d (.fn F.jcy) [.i (u:Int)] h=some (.str (dec u),h')/\Old h h':=by
 obtain ⟨h1,e1,o1⟩:=jkg hcl (d:=d-1) (u:=u) (h:=h) om om
 have e0:IntKind.u64.wrap (u:Int)=(u:Int):=by rw [IntKind.wrap_u64,Int.emod_eq_of_lt om om]
 refine jag (at_ hcl om rfl rfl rfl ?_)
 refine qx1 ?_
 rw [e0]
 refine qx1 ?_
 exact ⟨rfl,o1⟩
end
abbrev hexT:List UInt8:=[48,49,50,51,52,53,54,55,56,57,97,98,99,100,101,102]
def hx (n:Nat):UInt8:=hexT.getD n 0
def hexS (l:List UInt8):List UInt8:=(l.map fun b=>[hx (b.toNat/16),hx (b.toNat%16)]).flatten
theorem jgb (l:List UInt8):(hexS l).length=2*l.length:=by
 induction l with
 | nil=>rfl
 | cons a l ih=>simp only [hexS,List.map_cons,List.flatten_cons,zg] at ih ⊢;rw [ih];simp;omega
theorem jhX {l:List UInt8} {i:Nat} {b:UInt8} (h:l[i]?=some b):hexS (l.take (i+1))=hexS (l.take i)++[hx (b.toNat/16),hx (b.toNat%16)]:=by
 rw [List.take_add_one,h]
 simp [hexS]
theorem jmj {n:Nat} (h:n<16):hexT[n]?=some (hx n):=by
 match n,h with
 | 0,_=>rfl | 1,_=>rfl | 2,_=>rfl | 3,_=>rfl | 4,_=>rfl | 5,_=>rfl | 6,_=>rfl | 7,_=>rfl
 | 8,_=>rfl | 9,_=>rfl | 10,_=>rfl | 11,_=>rfl | 12,_=>rfl | 13,_=>rfl | 14,_=>rfl | 15,_=>rfl
 | n+16,h=>exact absurd h om
section
variable {call:Call} {fuel base:Nat} {K:List Fr} {e:Env} {h:H} {Q:Post} {ix:Nat} {dst at_:Option Nat} {ops:List Ins} {keep:List Nat}
theorem Ops.ixHex {x i:Opd} {s:List UInt8} {k:IntKind} {n:Nat} {b:UInt8} (hx:x.ev e=some (.str s)) (hi:i.ev e=some (.int k (n:Int))) (hs:s[n]?=some b) (kk:Ops call fuel base ops keep K (layv e dst (.int .u8 (b.toNat:Int))) h Q) :
  Ops call fuel base (⟨ix,dst,.ixStr x i,none,at_,[]⟩ :: ops) keep K e h Q:=by
 refine Ops.pure rfl ?_ kk
 simp only [I.pure,hx,hi]
 have hlt:n<s.length:=by
  rcases zx n s.length with h | h
  ·exact h
  ·rw [zd h] at hs;cases hs
 have hb:jgE (n:Int) s.length=true:=jdJ.2 ⟨by omega,by omega⟩
 rw [hb]
 simp only [cond_true,zw,hs,jcP]
theorem Ops.bslice2_at {b:Nat} {x y:Opd} {xv yv z0 z1:V} (hx:x.ev e=some xv) (hy:y.ev e=some yv) (h1:xv.cells=[xv]) (h2:yv.cells=[yv])
  (k:Ops call fuel base ops keep K (layv e dst (.slice (some (base+b,0)) 2 (.fix 2))) (h.set (base+b) (.cells [xv,yv] false)) Q) :
  Ops call fuel base (⟨ix,dst,.bslice 1 2 [z0,z1] [(0,x),(1,y)],none,some b,[]⟩ :: ops) keep K e h Q:=by
 refine Ops.make_at (ob := .cells [xv,yv] false) (mk:=fun b=>.slice (some (b,0)) 2 (.fix 2)) rfl ?_ k
 have hf:jaU [z0,z1] [(0,1,xv),(1,1,yv)]=some [xv,yv]:=by
  simp [jaU,h1,h2,jao];rfl
 simp only [I.make,jb1,List.map,hx,hy,Nat.zero_mul,Nat.one_mul,hf]
end
section
variable {cl:Nat->Call} (hcl:Sem cl)
include hcl
theorem sp_hex {d N:Nat} {l:List UInt8} {v:V} {h:H} (hd:1<=d) (r:Row N h 1 v l.length (bts l)) (hl:l.length<=90000) :
  ∃ h',cl d (.fn F.world_hex) [v] h=some (.str (hexS l),h')/\Old h h':=by
 obtain ⟨a,c,rfl,hq⟩ : ∃ a c,v = .slice a l.length c/\(l≠[] -> ∃ q,a=some (q,0)/\q<h.nx/\h.get q=some (.cells (bts l) false)):=by
  rcases r with ⟨h2,e⟩ | ⟨q,h1,h2,rfl,h4,h5⟩
  ·rw [h2,e.2];exact ⟨none,.fix 0,rfl,fun h=>absurd (zn.1 h2) h⟩
  ·exact ⟨_,_,rfl,fun _=>⟨q,rfl,h2,h4⟩⟩
 refine jag (at_ hcl om rfl rfl rfl ?_)
 refine qx1 ?_
 refine Run.loop (fun m e g=>∃ (i:Nat) (v:V),m=l.length-i/\i<=l.length/\e=[(3,v),(6,.slice a l.length c),(7,.i (l.length:Int)),(8,.i (i:Int))]/\Row h.nx g 1 v (2*i) (bts (hexS (l.take i)))/\Old h g)
  (k:=l.length) Ze ⟨0,.nils,by omega,by omega,rfl,Row.nil _ _ _,Old.refl h⟩ ?_
 rintro _ _ g ⟨i,v,rfl,hi,rfl,row,old⟩ f ih
 by_cases hlt:i<l.length
 case neg=>
  obtain rfl:i=l.length:=by omega
  rw [List.take_length] at row
  refine qx1 ?_
  refine Ops.ofRow rfl row ?_
  refine qx1 ?_
  exact ⟨rfl,old⟩
 obtain ⟨q,rfl,hq1,hq2⟩:=hq (by rintro rfl;simp at hlt)
 have hq3:g.get q=some (.cells (bts l) false):=by rw [old.2 q hq1,hq2]
 obtain ⟨b,hb⟩ : ∃ b,l[i]?=some b:=⟨_,za hlt⟩
 have hb2:(bts l)[0+i*1]?=some (jcP b):=by rw [Nat.zero_add,Nat.mul_one];simp [bts,hb]
 unfold jcP at hb2
 refine qx1 ?_
 refine Run.region ?_
 refine qx1 ?_
 have e1:(b.toNat:Int).fdiv (2 ^ (Int.toNat 4).min IntKind.u8.bits)=((b.toNat/16:Nat):Int):=by
  show (b.toNat:Int).fdiv 16=_
  rw [Int.fdiv_eq_ediv_of_nonneg _ om];omega
 rw [e1]
 have hb256:=b.toNat_lt
 refine Ops.ixHex (n:=b.toNat/16) rfl rfl (jmj om) ?_
 refine qx1 ?_
 have e2:IntKind.u8.wrap ((BitVec.ofInt IntKind.u8.bits (b.toNat:Int) &&& BitVec.ofInt IntKind.u8.bits 15).toNat:Int)=((b.toNat%16:Nat):Int):=by
  have q1:(BitVec.ofInt IntKind.u8.bits (b.toNat:Int)).toNat=b.toNat:=by
   show (BitVec.ofInt 8 (b.toNat:Int)).toNat=b.toNat
   rw [BitVec.toNat_ofInt];omega
  have q2:(BitVec.ofInt IntKind.u8.bits 15).toNat=15:=rfl
  rw [BitVec.toNat_and,q1,q2,show (15:Nat)=2 ^ 4-1 from rfl,Nat.and_two_pow_sub_one_eq_mod,IntKind.wrap_u8]
  omega
 rw [e2]
 refine Ops.ixHex (n:=b.toNat%16) rfl rfl (jmj om) ?_
 refine Ops.bslice2_at (xv:=jcP (hx (b.toNat/16))) (yv:=jcP (hx (b.toNat%16))) rfl rfl rfl rfl ?_
 have row2:Row h.nx ((g.reserve 1).set (g.nx+0) (.cells [jcP (hx (b.toNat/16)),jcP (hx (b.toNat%16))] false)) 1 v (2*i) (bts (hexS (l.take i))):=by
  refine row.keep Zd fun z hz=>?_
  have:=(row.at_ge hz).2
  rw [jaa om,H.get_reserve]
 refine Ops.appendN (sb:=g.nx+0) (so:=0) (m:=2) (new:=[jcP (hx (b.toNat/16)),jcP (hx (b.toNat%16))]) rfl rfl row2 ?_ om (jab ..) Zd rfl rfl om om om fun v' h' r2 z1 z2 z3=>?_
 ·have:=old.1;simp;omega
 refine qx1 ?_
 refine ih (l.length-(i+1)) om _ _ ⟨i+1,v',rfl,by omega,rfl,?_,?_⟩
 ·rw [jhX hb,show 2*(i+1)=2*i+2 by omega]
  simpa [bts] using r2
 ·refine ⟨by have:=old.1;rw [z1];simp;omega,fun j hj=>?_⟩
  rw [z3 j (by have:=old.1;simp;omega) fun e=>by have:=(row.at_ge e).1;omega]
  have:=old.1
  rw [jaa om,H.get_reserve,old.2 j hj]
end
end Am.Sigs
