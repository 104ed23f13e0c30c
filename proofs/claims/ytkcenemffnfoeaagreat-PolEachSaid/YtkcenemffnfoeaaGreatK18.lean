/- Our own library, part 18: an abstract machine, sound for the model, and what the functions do over it. No condition. -/
import Derived.Test.YtkcenemffnfoeaaGreatK17
set_option maxHeartbeats 8000000
namespace Am.Sigs
open Am Go
def put1 {α : Type} (f:Nat -> α) (s:Nat) (v : α):Nat -> α := fun i=>if i=s then v else f i
section
variable {v:V} {now no si:Int} {hd:Nat->Bool} {ct:Nat->Int}
theorem jjg {i o:Nat} {b:Bool} (hi:i<32) (ho:o=2+i):(v :: tail now hd ct no si).set o (.bool b)=v :: tail now (put1 hd i b) ct no si:=by
 subst ho
 rw [show 2+i=i+1+1 by omega]
 show v :: V.int .u64 now :: ((tab 32 (fun i=>V.bool (hd i))++_).set i (.bool b))=_
 rw [List.set_append,if_pos (by simpa using hi),jed]
 unfold tail
 rw [jcO (g:=fun j=>V.bool (put1 hd i b j)) (fun k _=>by unfold put1;split<;>rfl)]
theorem jf1 {i o:Nat} {b:Int} (hi:i<32) (ho:o=34+i):(v :: tail now hd ct no si).set o (.i b)=v :: tail now hd (put1 ct i b) no si:=by
 subst ho
 rw [show 34+i=(32+i)+1+1 by omega]
 show v :: V.int .u64 now :: ((tab 32 (fun i=>V.bool (hd i))++(tab 32 (fun i=>V.i (ct i))++[V.i no,V.i si])).set (32+i) (.i b))=_
 rw [List.set_append,if_neg (by simp),tab_length,Nat.add_sub_cancel_left,List.set_append,if_pos (by simpa using hi),jed]
 unfold tail
 rw [jcO (n:=32) (f:=fun j=>if j=i then V.i b else V.i (ct j)) (g:=fun j=>V.i (put1 ct i b j)) (fun k _=>by unfold put1;split<;>rfl)]
end
def jde (s:Int):Prop:=1<=s/\s<=31
instance (s:Int):Decidable (jde s):=inferInstanceAs (Decidable (_/\_))
def jd4 (hd:Nat->Bool) (s:Int) (on:Bool):Nat->Bool:=if jde s then put1 hd s.toNat on else hd
def jcc (ct:Nat->Int) (s:Int) (on:Bool):Nat->Int:=if jde s/\on=false then put1 ct s.toNat 0 else ct
section
variable {cl:Nat->Call} (hcl:Sem cl)
include hcl
theorem rq_Handle {d rw q:Nat} {h:H} {l:List RX} {now no si s:Int} {on:Bool} {hdl:Nat->Bool} {ct:Nat->Int} (hd:4<=d) (w:RW h rw q l (tail now hdl ct no si)) (o:WsOk (l.map RX.x)) (hnt:NtOk (l.map RX.x) no si) (hc : ∀ i,0<=ct i/\ct i<=1000000) :
  ∃ l' h',cl d (.fn F.jaQ) [.p rw 0,.i s,.bool on] h=some (.i (if jde s then 0 else 100),h')/\RW h' rw q l' (tail now (jd4 hdl s on) (jcc ct s on) no si)/\l'.map RX.x=jao (l.map RX.x) (sumC (jcc ct s on) 31) no si/\Ch (RC rw q) h h':=by
 suffices k : ∃ v' h',cl d (.fn F.jaQ) [.p rw 0,.i s,.bool on] h=some (v',h') /\ ∃ l',v' = .i (if jde s then 0 else 100)/\RW h' rw q l' (tail now (jd4 hdl s on) (jcc ct s on) no si)/\l'.map RX.x=jao (l.map RX.x) (sumC (jcc ct s on) 31) no si/\Ch (RC rw q) h h' by
  obtain ⟨_,h',e,l',rfl,p⟩:=k;exact ⟨l',h',e,p⟩
 refine at_ hcl (by omega) rfl rfl rfl ?_
 by_cases hs:jde s
 case neg=>
  rw [if_neg hs,show jd4 hdl s on=hdl by unfold jd4;rw [if_neg hs],show jcc ct s on=ct by unfold jcc;rw [if_neg (fun e=>hs e.1)]]
  obtain ⟨l',h',e,p⟩:=jbJ hcl (d:=d-1) (by omega) w o hnt hc
  have hs':s<1\/(¬ s<1/\31<s):=by unfold jde at hs;omega
  clear hs
  rcases hs' with hs' | ⟨hs1,hs'⟩
  ·repeat' (first|refine zaa rfl ?_|refine zaw rfl ‹_› ?_|refine zad (by repeat' constructor) ?_|refine zbc rfl ‹_› ?_|refine zaf rfl rfl ?_|refine zaq rfl ‹_› rfl ?_|apply zab|apply zac|refine zbk rfl rfl ?_|apply zbq|apply zae|refine zcc rfl ?_|apply zbu)
   exact ⟨l',rfl,p⟩
  ·repeat' (first|refine zaa rfl ?_|refine zaw rfl ‹_› ?_|refine zad (by repeat' constructor) ?_|refine zbb rfl ‹_› ?_|refine zaf rfl rfl ?_|refine zaj rfl rfl ?_|refine zar rfl ‹_› rfl ?_|apply zab|apply zac|refine zbi rfl ‹_› ?_|apply zbq|apply zae|refine zcc rfl ?_|apply zbu)
   exact ⟨l',rfl,p⟩
 rw [if_pos hs]
 obtain ⟨s1,s2⟩:=id hs
 obtain ⟨m,rfl⟩:=Int.eq_ofNat_of_zero_le (show 0<=s by omega)
 obtain ⟨a,c,hw,_⟩:=w.head
 have hlen : ∀ {hd2:Nat->Bool} {o:Nat},o<68->o<(V.slice a l.length c :: tail now hd2 ct no si).length:=fun ho=>by simp [jcv];omega
 rw [show jd4 hdl (m:Int) on=put1 hdl m on by unfold jd4;rw [if_pos hs,Int.toNat_natCast]]
 have w1:=w.tl (tl':=tail now (put1 hdl m on) ct no si) hw
 have c1:Ch (RC rw q) h (h.set rw (.cells (V.slice a l.length c :: tail now (put1 hdl m on) ct no si) false)):=Ch.set (.inr rfl)
 cases on
 ·rw [show jcc ct (m:Int) false=put1 ct m 0 by unfold jcc;rw [if_pos ⟨hs,rfl⟩,Int.toNat_natCast]]
  have w2:=w1.tl (tl':=tail now (put1 hdl m false) (put1 ct m 0) no si) (jaa _)
  have c2:=c1.trans (Ch.set (B:=RC rw q) (ob := .cells (V.slice a l.length c :: tail now (put1 hdl m false) (put1 ct m 0) no si) false) (.inr rfl))
  have hc0 : ∀ i,0<=put1 ct m 0 i/\put1 ct m 0 i<=1000000:=fun i=>by
   unfold put1
   by_cases e:i=m
   ·rw [if_pos e];omega
   ·rw [if_neg e];exact hc i
  obtain ⟨l',h',e,p1,p2,p3⟩:=jbJ hcl (d:=d-1) (by omega) w2 o hnt hc0
  repeat' (first|refine zaa rfl ?_|refine zad (by repeat' constructor) ?_|refine zbb rfl (by omega) ?_|refine zaf rfl rfl ?_|refine zaj rfl rfl ?_|refine zar rfl (by omega) rfl ?_|refine zau rfl rfl ?_|refine zax rfl rfl (by omega) ?_|apply zab|apply zac|refine zbj rfl (by omega) ?_|apply zbp|apply zae)
  refine Ops.store1 rfl rfl rfl hw (hlen (by omega)) ?_
  rw [jjg (i:=m) (by omega) (by omega)]
  repeat' (first|refine zaa rfl ?_|refine zad (by repeat' constructor) ?_|refine zao rfl ?_|refine zau rfl rfl ?_|refine zax rfl rfl (by omega) ?_|apply zab|apply zac|refine zbk rfl rfl ?_|apply zae)
  refine Ops.store1 rfl rfl rfl (jaa _) (hlen (by omega)) ?_
  rw [jf1 (i:=m) (by omega) (by omega)]
  repeat' (first|refine zaa rfl ?_|refine zaw rfl ‹_› ?_|refine zad (by repeat' constructor) ?_|apply zab|apply zac|apply zbq|apply zae|refine zcc rfl ?_)
  exact ⟨l',rfl,p1,p2,c2.trans p3⟩
 ·rw [show jcc ct (m:Int) true=ct by unfold jcc;rw [if_neg (fun e=>by cases e.2)]]
  obtain ⟨l',h',e,p1,p2,p3⟩:=jbJ hcl (d:=d-1) (by omega) w1 o hnt hc
  repeat' (first|refine zaa rfl ?_|refine zad (by repeat' constructor) ?_|refine zbb rfl (by omega) ?_|refine zaf rfl rfl ?_|refine zaj rfl rfl ?_|refine zar rfl (by omega) rfl ?_|refine zau rfl rfl ?_|refine zax rfl rfl (by omega) ?_|apply zab|apply zac|refine zbj rfl (by omega) ?_|apply zbp|apply zae)
  refine Ops.store1 rfl rfl rfl hw (hlen (by omega)) ?_
  rw [jjg (i:=m) (by omega) (by omega)]
  repeat' (first|refine zaa rfl ?_|refine zaw rfl ‹_› ?_|refine zad (by repeat' constructor) ?_|refine zao rfl ?_|apply zab|apply zac|refine zbl rfl rfl ?_|apply zbp|apply zbq|apply zae|refine zcc rfl ?_)
  exact ⟨l',rfl,p1,p2,c1.trans p3⟩
end
end Am.Sigs
namespace Am.Sigs
open Am Go
def jcR (hd:Nat->Bool) (ct:Nat->Int) (s:Int):Nat->Int:=if jde s/\hd s.toNat=true then put1 ct s.toNat (ct s.toNat+1) else ct
section
variable {cl:Nat->Call} (hcl:Sem cl)
include hcl
theorem rq_Raise {d rw q:Nat} {h:H} {l:List RX} {now no si s:Int} {hdl:Nat->Bool} {ct:Nat->Int} (hd:4<=d) (w:RW h rw q l (tail now hdl ct no si)) (o:WsOk (l.map RX.x)) (hnt:NtOk (l.map RX.x) no si) (hc : ∀ i,0<=ct i/\ct i<=999999) :
  ∃ l' h',cl d (.fn F.jaW) [.p rw 0,.i s] h=some (.i (if jde s then 0 else 100),h')/\RW h' rw q l' (tail now hdl (jcR hdl ct s) no si)/\l'.map RX.x=jao (l.map RX.x) (sumC (jcR hdl ct s) 31) no si/\Ch (RC rw q) h h':=by
 suffices k : ∃ v' h',cl d (.fn F.jaW) [.p rw 0,.i s] h=some (v',h') /\ ∃ l',v' = .i (if jde s then 0 else 100)/\RW h' rw q l' (tail now hdl (jcR hdl ct s) no si)/\l'.map RX.x=jao (l.map RX.x) (sumC (jcR hdl ct s) 31) no si/\Ch (RC rw q) h h' by
  obtain ⟨_,h',e,l',rfl,p⟩:=k;exact ⟨l',h',e,p⟩
 refine at_ hcl (by omega) rfl rfl rfl ?_
 have hc0 : ∀ i,0<=ct i/\ct i<=1000000:=fun i=>⟨(hc i).1,by have:=(hc i).2;omega⟩
 by_cases hs:jde s
 case neg=>
  rw [if_neg hs,show jcR hdl ct s=ct by unfold jcR;rw [if_neg (fun e=>hs e.1)]]
  obtain ⟨l',h',e,p⟩:=jbJ hcl (d:=d-1) (by omega) w o hnt hc0
  have hs':s<1\/(¬ s<1/\31<s):=by unfold jde at hs;omega
  clear hs
  rcases hs' with hs' | ⟨hs1,hs'⟩
  ·repeat' (first|refine zaa rfl ?_|refine zaw rfl ‹_› ?_|refine zad (by repeat' constructor) ?_|refine zbc rfl ‹_› ?_|refine zaf rfl rfl ?_|refine zaq rfl ‹_› rfl ?_|apply zab|apply zac|refine zbk rfl rfl ?_|apply zbq|apply zae|refine zcc rfl ?_|apply zbu)
   exact ⟨l',rfl,p⟩
  ·repeat' (first|refine zaa rfl ?_|refine zaw rfl ‹_› ?_|refine zad (by repeat' constructor) ?_|refine zbb rfl ‹_› ?_|refine zaf rfl rfl ?_|refine zaj rfl rfl ?_|refine zar rfl ‹_› rfl ?_|apply zab|apply zac|refine zbi rfl ‹_› ?_|apply zbq|apply zae|refine zcc rfl ?_|apply zbu)
   exact ⟨l',rfl,p⟩
 rw [if_pos hs]
 obtain ⟨s1,s2⟩:=id hs
 obtain ⟨m,rfl⟩:=Int.eq_ofNat_of_zero_le (show 0<=s by omega)
 obtain ⟨a,c,hw,_⟩:=w.head
 have q1:(V.slice a l.length c :: tail now hdl ct no si)[0+2+(m:Int).toNat*1]?=some (.bool (hdl m)):=t_hd (by omega) (by omega)
 have q2:(V.slice a l.length c :: tail now hdl ct no si)[0+34+(m:Int).toNat*1]?=some (.i (ct m)):=t_ct (by omega) (by omega)
 have hlen:0+34+(m:Int).toNat*1<(V.slice a l.length c :: tail now hdl ct no si).length:=by simp [jcv];omega
 have hcm:=hc m
 cases hh:hdl m
 ·rw [show jcR hdl ct (m:Int)=ct by unfold jcR;rw [if_neg (fun e=>by rw [Int.toNat_natCast,hh] at e;cases e.2)]]
  rw [hh] at q1
  obtain ⟨l',h',e,p⟩:=jbJ hcl (d:=d-1) (by omega) w o hnt hc0
  repeat' (first|refine zaa rfl ?_|refine zav rfl ‹_› ‹_› ?_|refine zaw rfl ‹_› ?_|refine zad (by repeat' constructor) ?_|refine zbb rfl (by omega) ?_|refine zaf rfl rfl ?_|refine zaj rfl rfl ?_|refine zar rfl (by omega) rfl ?_|refine zau rfl rfl ?_|refine zax rfl rfl (by omega) ?_|apply zab|apply zac|refine zbj rfl (by first|omega|exact fun h=>h rfl) ?_|refine zbl rfl rfl ?_|apply zbp|apply zbq|apply zae|refine zcc rfl ?_)
  exact ⟨l',rfl,p⟩
 ·rw [show jcR hdl ct (m:Int)=put1 ct m (ct m+1) by unfold jcR;rw [if_pos ⟨hs,by rw [Int.toNat_natCast];exact hh⟩,Int.toNat_natCast]]
  rw [hh] at q1
  have w1:=w.tl (tl':=tail now hdl (put1 ct m (ct m+1)) no si) hw
  have c1:Ch (RC rw q) h (h.set rw (.cells (V.slice a l.length c :: tail now hdl (put1 ct m (ct m+1)) no si) false)):=Ch.set (.inr rfl)
  have hc1 : ∀ i,0<=put1 ct m (ct m+1) i/\put1 ct m (ct m+1) i<=1000000:=fun i=>by
   unfold put1
   by_cases e:i=m
   ·rw [if_pos e];omega
   ·rw [if_neg e];exact hc0 i
  obtain ⟨l',h',e,p1,p2,p3⟩:=jbJ hcl (d:=d-1) (by omega) w1 o hnt hc1
  repeat' (first|refine zaa rfl ?_|refine zav rfl ‹_› ‹_› ?_|refine zad (by repeat' constructor) ?_|refine zbb rfl (by omega) ?_|refine zaf rfl rfl ?_|refine zal rfl rfl ⟨by omega,by omega⟩ ?_|refine zaj rfl rfl ?_|refine zar rfl (by omega) rfl ?_|refine zau rfl rfl ?_|refine zax rfl rfl (by omega) ?_|apply zab|apply zac|refine zbj rfl (by first|omega|exact fun h=>h rfl) ?_|refine zbk rfl rfl ?_|apply zbp|apply zae)
  refine Ops.store1 rfl rfl rfl hw hlen ?_
  rw [jf1 (i:=m) (by omega) (by omega)]
  repeat' (first|refine zaa rfl ?_|refine zaw rfl ‹_› ?_|refine zad (by repeat' constructor) ?_|apply zab|apply zac|apply zbq|apply zae|refine zcc rfl ?_)
  exact ⟨l',rfl,p1,p2,c1.trans p3⟩
end
end Am.Sigs
namespace Am.Sigs
open Am Go
section
variable {v:V} {now no si:Int} {hd:Nat->Bool} {ct:Nat->Int}
theorem t_set_no {o:Nat} {b:Int} (ho:o=66):(v :: tail now hd ct no si).set o (.i b)=v :: tail now hd ct b si:=by
 subst ho
 show v :: V.int .u64 now :: ((tab 32 (fun i=>V.bool (hd i))++(tab 32 (fun i=>V.i (ct i))++[V.i no,V.i si])).set 64 (.i b))=_
 rw [List.set_append,if_neg (by simp),tab_length,List.set_append,if_neg (by simp),tab_length];rfl
theorem t_set_si {o:Nat} {b:Int} (ho:o=67):(v :: tail now hd ct no si).set o (.i b)=v :: tail now hd ct no b:=by
 subst ho
 show v :: V.int .u64 now :: ((tab 32 (fun i=>V.bool (hd i))++(tab 32 (fun i=>V.i (ct i))++[V.i no,V.i si])).set 65 (.i b))=_
 rw [List.set_append,if_neg (by simp),tab_length,List.set_append,if_neg (by simp),tab_length];rfl
end
noncomputable def ntS (ws:Ws) (a b:Int):Int × Option (Nat × Nat) :=
 jcg ws a (110,none) fun n k x=>jcg ws b (110,none) fun m i _=>if n=m/\k≠i/\x.e0.ring≠none/\x.e1.ring≠none then (0,some (n,k)) else (111,none)
noncomputable def ntW (ws:Ws) (sum:Int) (a b:Int):Ws:=match (ntS ws a b).2 with
 | none=>ws
 | some (n,k)=>jao ws sum n k
noncomputable def ntNo (ws:Ws) (a b no:Int):Int:=match (ntS ws a b).2 with
 | none=>no
 | some (n,_)=>n
noncomputable def ntSi (ws:Ws) (a b si:Int):Int:=match (ntS ws a b).2 with
 | none=>si
 | some (_,k)=>k
section
variable {cl:Nat->Call} (hcl:Sem cl)
include hcl
theorem jhA {d rw q:Nat} {h:H} {l:List RX} {now no si a b:Int} {hdl:Nat->Bool} {ct:Nat->Int} (hd:4<=d) (w:RW h rw q l (tail now hdl ct no si)) (o:WsOk (l.map RX.x)) (hc : ∀ i,0<=ct i/\ct i<=1000000) :
  ∃ l' h',cl d (.fn F.jaE) [.p rw 0,.i a,.i b] h=some (.i (ntS (l.map RX.x) a b).1,h')/\RW h' rw q l' (tail now hdl ct (ntNo (l.map RX.x) a b no) (ntSi (l.map RX.x) a b si))/\l'.map RX.x=ntW (l.map RX.x) (sumC ct 31) a b/\Ch (RC rw q) h h':=by
 suffices k : ∃ v' h',cl d (.fn F.jaE) [.p rw 0,.i a,.i b] h=some (v',h') /\ ∃ l',v' = .i (ntS (l.map RX.x) a b).1/\RW h' rw q l' (tail now hdl ct (ntNo (l.map RX.x) a b no) (ntSi (l.map RX.x) a b si))/\l'.map RX.x=ntW (l.map RX.x) (sumC ct 31) a b/\Ch (RC rw q) h h' by
  obtain ⟨_,h',e,l',rfl,p⟩:=k;exact ⟨l',h',e,p⟩
 refine at_ hcl (by omega) rfl rfl rfl ?_
 unfold ntNo ntSi ntW
 rcases jdw hcl (d:=d-1) (fd:=a) (by omega) w o with ⟨hno,ea⟩ | ⟨n,k,r,hat,hr,hk,ea⟩
 ·have hS:ntS (l.map RX.x) a b=(110,none):=ja9 hno
  rw [hS]
  rcases jdw hcl (d:=d-1) (fd:=b) (by omega) w o with ⟨_,eb⟩ | ⟨_,_,_,_,_,_,eb⟩
  ·repeat' (first|refine zaa rfl ?_|refine zaw rfl ‹_› ?_|refine zad (by repeat' constructor) ?_|refine zbc rfl (by omega) ?_|refine zaf rfl rfl ?_|refine zaq rfl (by omega) rfl ?_|refine zau rfl rfl ?_|apply zab|apply zac|refine zbk rfl rfl ?_|apply zbq|apply zae|refine zcc rfl ?_|apply zbu)
   exact ⟨l,rfl,w,rfl,Ch.refl _ _⟩
  ·repeat' (first|refine zaa rfl ?_|refine zaw rfl ‹_› ?_|refine zad (by repeat' constructor) ?_|refine zbc rfl (by omega) ?_|refine zaf rfl rfl ?_|refine zaq rfl (by omega) rfl ?_|refine zau rfl rfl ?_|apply zab|apply zac|refine zbk rfl rfl ?_|apply zbq|apply zae|refine zcc rfl ?_|apply zbu)
   exact ⟨l,rfl,w,rfl,Ch.refl _ _⟩
 have hS1:ntS (l.map RX.x) a b=_:=jaA o.uniq hat (jaS hr)
 rcases jdw hcl (d:=d-1) (fd:=b) (by omega) w o with ⟨hno,eb⟩ | ⟨m,i,r2,hat2,hr2,hk2,eb⟩
 ·rw [ja9 hno] at hS1
  rw [hS1]
  repeat' (first|refine zaa rfl ?_|refine zaw rfl ‹_› ?_|refine zad (by repeat' constructor) ?_|refine zbb rfl (by omega) ?_|refine zaf rfl rfl ?_|refine zar rfl (by omega) rfl ?_|refine zau rfl rfl ?_|apply zab|apply zac|refine zbi rfl (by omega) ?_|apply zbq|apply zae|refine zcc rfl ?_|apply zbu)
  exact ⟨l,rfl,w,rfl,Ch.refl _ _⟩
 rw [jaA o.uniq hat2 (jaS hr2)] at hS1
 obtain ⟨hw,hq,hne⟩:=w.rat hr
 have hn:=r_lt hr
 have q1:=jfO (k:=0) hr (.inl rfl)
 have q2:=jfO (k:=1) hr (.inr rfl)
 have q1:(rows l)[0+(n:Int).toNat*20+0+((0:Nat):Int).toNat*8+2]?=some (.bool r.x.e0.ring.isSome):=q1
 have q2:(rows l)[0+(n:Int).toNat*20+0+((1:Nat):Int).toNat*8+2]?=some (.bool r.x.e1.ring.isSome):=q2
 by_cases hg:n=m/\k≠i/\r.x.e0.ring≠none/\r.x.e1.ring≠none
 case neg=>
  rw [if_neg hg] at hS1
  rw [hS1]
  by_cases h1:n=m
  case neg=>
   have h1':(n:Int)≠(m:Int):=by omega
   repeat' (first|refine zaa rfl ?_|refine zaw rfl ‹_› ?_|refine zad (by repeat' constructor) ?_|refine zbb rfl (by first|assumption|omega) ?_|refine zbc rfl ‹_› ?_|refine zbe rfl rfl ?_|refine zaf rfl rfl ?_|refine zah rfl rfl ?_|refine zaq rfl ‹_› rfl ?_|refine zar rfl (by first|assumption|omega) rfl ?_|refine zas rfl rfl rfl ?_|refine zau rfl rfl ?_|apply zab|apply zac|refine zbj rfl (by first|assumption|omega) ?_|refine zbk rfl rfl ?_|apply zbp|apply zbq|apply zae|refine zcc rfl ?_|apply zbu)
   exact ⟨l,rfl,w,rfl,Ch.refl _ _⟩
  have h1' : ¬ (n:Int)≠(m:Int):=by omega
  by_cases h2:k=i
  ·have h2':(k:Int)=(i:Int):=by omega
   repeat' (first|refine zaa rfl ?_|refine zaw rfl ‹_› ?_|refine zad (by repeat' constructor) ?_|refine zbb rfl (by first|assumption|omega) ?_|refine zbc rfl ‹_› ?_|refine zbe rfl rfl ?_|refine zaf rfl rfl ?_|refine zag rfl rfl ?_|refine zah rfl rfl ?_|refine zaq rfl ‹_› rfl ?_|refine zar rfl (by first|assumption|omega) rfl ?_|refine zas rfl rfl rfl ?_|refine zau rfl rfl ?_|apply zab|apply zac|refine zbj rfl (by first|assumption|omega) ?_|refine zbk rfl rfl ?_|apply zbp|apply zbq|apply zae|refine zcc rfl ?_|apply zbu)
   exact ⟨l,rfl,w,rfl,Ch.refl _ _⟩
  have h2' : ¬ (k:Int)=(i:Int):=by omega
  cases h3:r.x.e0.ring with
  | none=>
   rw [h3] at q1
   repeat' (first|refine zaa rfl ?_|refine zav rfl ‹_› (by first|assumption|rfl) ?_|refine zaw rfl ‹_› ?_|refine zad (by repeat' constructor) ?_|refine zbb rfl (by first|assumption|omega) ?_|refine zbe rfl rfl ?_|refine zaf rfl rfl ?_|refine zag rfl rfl ?_|refine zah rfl rfl ?_|refine zar rfl (by first|assumption|omega) rfl ?_|refine zas rfl rfl rfl ?_|refine zao rfl ?_|refine zau rfl rfl ?_|refine zay rfl rfl (by omega) ?_|apply zab|apply zac|refine zbj rfl (by first|assumption|omega) ?_|refine zbk rfl rfl ?_|apply zbp|apply zbq|apply zae|refine zcc rfl ?_|apply zbu)
   exact ⟨l,rfl,w,rfl,Ch.refl _ _⟩
  | some b0=>
   rw [h3] at q1
   cases h4:r.x.e1.ring with
   | none=>
    rw [h4] at q2
    repeat' (first|refine zaa rfl ?_|refine zav rfl ‹_› (by first|assumption|rfl) ?_|refine zaw rfl ‹_› ?_|refine zad (by repeat' constructor) ?_|refine zbb rfl (by first|assumption|omega) ?_|refine zbd rfl rfl ?_|refine zaf rfl rfl ?_|refine zag rfl rfl ?_|refine zah rfl rfl ?_|refine zar rfl (by first|assumption|omega) rfl ?_|refine zat rfl rfl rfl ?_|refine zao rfl ?_|refine zau rfl rfl ?_|refine zay rfl rfl (by omega) ?_|apply zab|apply zac|refine zbj rfl (by omega) ?_|refine zbk rfl rfl ?_|apply zbp|apply zbq|apply zae|refine zcc rfl ?_|apply zbu)
    exact ⟨l,rfl,w,rfl,Ch.refl _ _⟩
   | some b1=>exact absurd ⟨h1,h2,by rw [h3];simp,by rw [h4];simp⟩ hg
 rw [if_pos hg] at hS1
 rw [hS1]
 obtain ⟨rfl,g2,g3,g4⟩:=hg
 have h1' : ¬ (n:Int)≠(n:Int):=by omega
 have h2' : ¬ (k:Int)=(i:Int):=by omega
 obtain ⟨b0,h3⟩:=Option.ne_none_iff_exists'.1 g3
 obtain ⟨b1,h4⟩:=Option.ne_none_iff_exists'.1 g4
 rw [h3] at q1
 rw [h4] at q2
 have w1:=w.tl (tl':=tail now hdl ct (n:Int) si) hw
 have w2:=w1.tl (tl':=tail now hdl ct (n:Int) (k:Int)) (jaa _)
 have c2:Ch (RC rw q) h _:=(Ch.set (.inr rfl)).trans (Ch.set (b:=rw) (h:=h.set rw (.cells (.slice (some (q,0)) l.length (.grow 20) :: tail now hdl ct (n:Int) si) false)) (ob := .cells (.slice (some (q,0)) l.length (.grow 20) :: tail now hdl ct (n:Int) (k:Int)) false) (.inr rfl))
 obtain ⟨l',h',e,p1,p2,p3⟩:=jbJ hcl (d:=d-1) (by omega) w2 o (.inr ⟨n,k,r.x,rfl,rfl,hk,jaS hr,g3,g4⟩) hc
 have hlen : ∀ {n2:Int} {o:Nat},o<68->o<(V.slice (some (q,0)) l.length (.grow 20) :: tail now hdl ct n2 si).length:=fun ho=>by simp [jcv];omega
 repeat' (first|refine zaa rfl ?_|refine zav rfl ‹_› (by first|assumption|rfl) ?_|refine zaw rfl ‹_› ?_|refine zad (by repeat' constructor) ?_|refine zbb rfl (by first|assumption|omega) ?_|refine zbd rfl rfl ?_|refine zaf rfl rfl ?_|refine zag rfl rfl ?_|refine zah rfl rfl ?_|refine zar rfl (by first|assumption|omega) rfl ?_|refine zat rfl rfl rfl ?_|refine zao rfl ?_|refine zau rfl rfl ?_|refine zay rfl rfl (by omega) ?_|apply zab|apply zac|refine zbj rfl (by omega) ?_|refine zbl rfl rfl ?_|apply zbp|apply zae)
 refine Ops.store1 rfl rfl rfl hw (hlen (by omega)) ?_
 rw [t_set_no (by omega)]
 repeat' (first|refine zaa rfl ?_|refine zad (by repeat' constructor) ?_|refine zau rfl rfl ?_|apply zab|apply zac|apply zae)
 refine Ops.store1 rfl rfl rfl (jaa _) (hlen (by omega)) ?_
 rw [t_set_si (by omega)]
 repeat' (first|refine zaa rfl ?_|refine zaw rfl ‹_› ?_|refine zad (by repeat' constructor) ?_|apply zab|apply zac|apply zbq|apply zae|refine zcc rfl ?_)
 exact ⟨l',rfl,p1,p2,c2.trans p3⟩
end
end Am.Sigs
namespace Am.Sigs
open Am Go
def ctZ (ct:Nat->Int) (n:Nat):Nat->Int:=fun i=>if 1<=i/\i<=n then 0 else ct i
theorem ctZ_zero (ct:Nat->Int):ctZ ct 0=ct:=by
 funext i;unfold ctZ;rw [if_neg (by omega)]
theorem jjy (ct:Nat->Int) (n:Nat):put1 (ctZ ct n) (n+1) 0=ctZ ct (n+1):=by
 funext i;unfold ctZ put1
 by_cases h:i=n+1
 ·rw [if_pos h,if_pos (by omega)]
 ·rw [if_neg h]
  show (if 1<=i/\i<=n then 0 else ct i)=_
  by_cases h2:1<=i/\i<=n
  ·rw [if_pos h2,if_pos (by omega)]
  ·rw [if_neg h2,if_neg (by omega)]
theorem ctZ_gt (ct:Nat->Int) (n:Nat):ctZ ct n (n+1)=ct (n+1):=by
 unfold ctZ;rw [if_neg (by omega)]
def jbU (ct:Nat->Int):Nat->List (Int × Int)
 | 0=>[]
 | n+1=>jbU ct n++if 0<ct (n+1) then [(((n+1:Nat):Int),ct (n+1))] else []
theorem jfI (ct:Nat->Int) : ∀ n,(jbU ct n).length<=n
 | 0=>Nat.le_refl _
 | n+1=>by
  have:=jfI ct n
  simp only [jbU,List.length_append]
  split<;>simp<;>omega
def jb5 (l:List (Int × Int)):List V:=(l.map fun p=>[V.i p.1,V.i p.2]).flatten
section
variable {cl:Nat->Call} (hcl:Sem cl)
include hcl
theorem jjH {d rw q:Nat} {h:H} {l:List RX} {now no si:Int} {hdl:Nat->Bool} {ct:Nat->Int} (hd:4<=d) (w:RW h rw q l (tail now hdl ct no si)) (o:WsOk (l.map RX.x)) (hnt:NtOk (l.map RX.x) no si) (hc : ∀ i,0<=ct i/\ct i<=1000000) :
  ∃ v l' h',cl d (.fn F.jaN) [.p rw 0] h=some (v,h')/\Row h.nx h' 2 v (jbU ct 31).length (jb5 (jbU ct 31))/\RW h' rw q l' (tail now hdl (ctZ ct 31) no si)/\l'.map RX.x=jao (l.map RX.x) (sumC (ctZ ct 31) 31) no si/\Ch (RC rw q) h h':=by
 suffices k : ∃ v h',cl d (.fn F.jaN) [.p rw 0] h=some (v,h') /\ ∃ l',Row h.nx h' 2 v (jbU ct 31).length (jb5 (jbU ct 31))/\RW h' rw q l' (tail now hdl (ctZ ct 31) no si)/\l'.map RX.x=jao (l.map RX.x) (sumC (ctZ ct 31) 31) no si/\Ch (RC rw q) h h' by
  obtain ⟨v,h',e,l',p⟩:=k;exact ⟨v,l',h',e,p⟩
 refine at_ hcl (by omega) rfl rfl rfl ?_
 obtain ⟨a,c,hw,_⟩:=w.head
 repeat' (first|refine zaa rfl ?_|refine zad (by repeat' constructor) ?_|apply zab|apply zac|apply zbo|apply zae)
 refine Run.loop (fun m e g=>∃ (s:Nat) (v:V),m=31-s/\s<=31/\e=[(0,.p rw 0),(3,v),(4,.i ((s+1:Nat):Int))]/\Row h.nx g 2 v (jbU ct s).length (jb5 (jbU ct s))/\Old (h.set rw (.cells (V.slice a l.length c :: tail now hdl (ctZ ct s) no si) false)) g)
  (k:=31) (by show _<100000;omega) ⟨0,.nils,rfl,by omega,rfl,Row.nil _ _ _,?_⟩ ?_
 ·rw [ctZ_zero]
  refine ⟨Nat.le_refl _,fun j hj=>?_⟩
  by_cases e:j=rw
  ·subst e;rw [jaa,hw]
  ·rw [jab e]
 rintro _ _ g ⟨s,v,rfl,hs,rfl,row,old⟩ f ih
 have w1:=w.tl (tl':=tail now hdl (ctZ ct s) no si) hw
 have wg:=w1.old old
 have onx:h.nx<=g.nx:=old.1
 have hwg:g.get rw=some (.cells (V.slice a l.length c :: tail now hdl (ctZ ct s) no si) false):=by
  rw [old.2 rw w.lw,jaa]
 by_cases hlt:s<31
 case neg=>
  obtain rfl:s=31:=by omega
  have hcond : ¬ ((31+1:Nat):Int)<=31:=by omega
  have hc0 : ∀ i,0<=ctZ ct 31 i/\ctZ ct 31 i<=1000000:=fun i=>by
   unfold ctZ
   by_cases e:1<=i/\i<=31
   ·rw [if_pos e];omega
   ·rw [if_neg e];exact hc i
  obtain ⟨l',h',e,p1,p2,p3⟩:=jbJ hcl (d:=d-1) (by omega) wg o hnt hc0
  have c1:Ch (RC rw q) h (h.set rw (.cells (V.slice a l.length c :: tail now hdl (ctZ ct 31) no si) false)):=Ch.set (.inr rfl)
  repeat' (first|refine zaa rfl ?_|refine zaw rfl ‹_› ?_|refine zad (by repeat' constructor) ?_|refine zai rfl rfl ?_|apply zab|apply zac|refine zbj rfl ‹_› ?_|apply zbq|apply zbr|apply zae|refine zcc rfl ?_|apply zbv|apply zby|apply zcb)
  refine ⟨l',row.keep p3.nx fun z hz=>p3.get z (row.at_ge hz).2 fun e=>?_,p1,p2,(c1.trans old.ch).trans p3⟩
  have:=(row.at_ge hz).1
  have:=w.lw
  have:=w.lq
  rcases e with e | e<;>omega
 have q1:(V.slice a l.length c :: tail now hdl (ctZ ct s) no si)[0+34+(((s+1:Nat):Int)).toNat*1]?=some (.i (ct (s+1))):=by
  rw [<- ctZ_gt ct s];exact t_ct (by omega) (by omega)
 have hlen:0+34+(((s+1:Nat):Int)).toNat*1<(V.slice a l.length c :: tail now hdl (ctZ ct s) no si).length:=by simp [jcv];omega
 have hcond:((s+1:Nat):Int)<=31:=by omega
 have hs1:((s+1+1:Nat):Int)=((s+1:Nat):Int)+1:=by omega
 have hb2:=hc (s+1)
 have hsl:=jfI ct s
 by_cases hpos:0<ct (s+1)
 ·have hpos':ct (s+1)>0:=hpos
  have hL:jbU ct (s+1)=jbU ct s++[(((s+1:Nat):Int),ct (s+1))]:=by simp only [jbU,if_pos hpos]
  repeat' (first|refine zaa rfl ?_|refine zav rfl ‹_› ‹_› ?_|refine zad (by repeat' constructor) ?_|refine zai rfl rfl ?_|refine zaj rfl rfl ?_|refine zau rfl rfl ?_|refine zax rfl rfl (by omega) ?_|apply zab|apply zac|refine zbi rfl ‹_› ?_|apply zbo|apply zbp|apply zae)
  refine Ops.push (N:=h.nx) (new:=[.i ((s+1:Nat):Int),.i (ct (s+1))]) rfl rfl rfl rfl (by omega) rfl rfl row onx (by omega) (by omega) fun v' g' row' hx' hz' hk'=>?_
  have hwg':g'.get rw=some (.cells (V.slice a l.length c :: tail now hdl (ctZ ct s) no si) false):=by
   rw [hk' rw (Nat.lt_of_lt_of_le w.lw onx) (fun e=>by have:=row.at_ge e;have:=w.lw;omega),hwg]
  repeat' (first|refine zaa rfl ?_|refine zad (by repeat' constructor) ?_|refine zau rfl rfl ?_|refine zax rfl rfl (by omega) ?_|apply zac|apply zae)
  refine Ops.store1 rfl rfl rfl hwg' hlen ?_
  rw [jf1 (i:=s+1) (by omega) (by omega),jjy]
  repeat' (first|refine zaa rfl ?_|refine zad (by repeat' constructor) ?_|refine zal rfl rfl ⟨by omega,by omega⟩ ?_|apply zac|apply zae|apply zbw)
  refine ih (31-(s+1)) (by omega) _ _ ⟨s+1,v',rfl,by omega,by rw [hs1],?_,?_,?_⟩
  ·rw [hL,List.length_append]
   have:jb5 (jbU ct s++[(((s+1:Nat):Int),ct (s+1))])=jb5 (jbU ct s)++[.i ((s+1:Nat):Int),.i (ct (s+1))]:=by simp [jb5]
   rw [this]
   refine Row.keep row' (by simp) fun z hz=>jab ?_
   have:=hz' z hz
   have:=w.lw
   omega
  ·show h.nx<=g'.nx
   omega
  ·intro j hj
   have hj':j<h.nx:=hj
   by_cases e:j=rw
   ·subst e;rw [jaa,jaa]
   ·rw [jab e,jab e,hk' j (by omega) (fun e=>by have:=row.at_ge e;omega),old.2 j hj,jab e]
 ·have hpos' : ¬ ct (s+1)>0:=hpos
  have hL:jbU ct (s+1)=jbU ct s:=by simp only [jbU,if_neg hpos,List.append_nil]
  repeat' (first|refine zaa rfl ?_|refine zav rfl ‹_› ‹_› ?_|refine zad (by repeat' constructor) ?_|refine zai rfl rfl ?_|refine zaj rfl rfl ?_|refine zau rfl rfl ?_|refine zax rfl rfl (by omega) ?_|apply zab|apply zac|refine zbi rfl ‹_› ?_|refine zbj rfl ‹_› ?_|apply zbo|apply zbp|apply zae)
  refine Ops.store1 rfl rfl rfl hwg hlen ?_
  rw [jf1 (i:=s+1) (by omega) (by omega),jjy]
  repeat' (first|refine zaa rfl ?_|refine zad (by repeat' constructor) ?_|refine zal rfl rfl ⟨by omega,by omega⟩ ?_|apply zac|apply zae|apply zbw)
  refine ih (31-(s+1)) (by omega) _ _ ⟨s+1,v,rfl,by omega,by rw [hs1],?_,?_,?_⟩
  ·rw [hL]
   refine Row.keep row (by simp) fun z hz=>jab ?_
   have:=row.at_ge hz
   have:=w.lw
   omega
  ·exact onx
  ·intro j hj
   by_cases e:j=rw
   ·subst e;rw [jaa,jaa]
   ·rw [jab e,jab e,old.2 j hj,jab e]
end
end Am.Sigs
namespace Am.Sigs
open Am Go
section
variable {cl:Nat->Call} (hcl:Sem cl)
include hcl
end
end Am.Sigs
namespace Am.Sigs
open Am Go
def WsOne (ws:Ws):Prop := ∀ (i j:Nat) (x y:Wi) (p q:Nat) (m:Int),ws[i]?=some x->ws[j]?=some y->x.waiting[p]?=some m->y.waiting[q]?=some m->i=j/\p=q
structure WsK (ws:Ws):Prop where
 ok:WsOk ws
 one:WsOne ws
def Wi.SubFd (x y:Wi):Prop := ∀ k,k=0\/k=1->(y.e k).what=1->(x.e k).what=1/\(y.e k).fd=(x.e k).fd
theorem Wi.SubFd.refl (x:Wi):x.SubFd x:=fun _ _ h=>⟨h,rfl⟩
theorem Wi.SubFd.trans {x y z:Wi} (a:x.SubFd y) (b:y.SubFd z):x.SubFd z:=fun k hk h=>⟨(a k hk (b k hk h).1).1,by rw [(b k hk h).2,(a k hk (b k hk h).1).2]⟩
theorem w_lt {ws:Ws} {n:Nat} {x:Wi} (hr:ws[n]?=some x):n<ws.length:=by
 rcases Nat.lt_or_ge n ws.length with h | h
 ·exact h
 ·rw [List.getElem?_eq_none h] at hr;cases hr
theorem jlG {ws:Ws} {n:Nat} (h:n<ws.length) : ∃ x,ws[n]?=some x:=⟨_,List.getElem?_eq_getElem h⟩
theorem jdr {ws:Ws} {n m:Nat} {y z:Wi} (h:(ws.set n y)[m]?=some z):(m=n/\z=y)\/(m≠n/\ws[m]?=some z):=by
 rw [List.getElem?_set] at h
 by_cases e:n=m
 ·rw [if_pos e] at h
  by_cases hl:n<ws.length
  ·rw [if_pos hl] at h;cases h;exact .inl ⟨e.symm,rfl⟩
  ·rw [if_neg hl] at h;cases h
 ·rw [if_neg e] at h;exact .inr ⟨fun h=>e h.symm,h⟩
theorem WsK.mild {ws ws':Ws} (K:WsK ws) (hl:ws'.length=ws.length)
  (h : ∀ (i:Nat) (z':Wi),ws'[i]?=some z' -> ∃ z,ws[i]?=some z/\z.SubFd z'/\WiOk z'/\(∃ c,z'.waiting=z.waiting.drop c)/\(z.e0.what=0->(∃ (j:Nat) (u:Wi),ws'[j]?=some u/\(i:Int)∈u.waiting)->z'.e0.what=0)):WsK ws':=by
 refine ⟨⟨?_,fun x hx=>?_,by rw [hl];exact K.ok.len,fun x hx=>?_⟩,?_⟩
 ·have sub : ∀ n k fd,AtW ws' n k fd->AtW ws n k fd:=by
   rintro n k fd ⟨x,hx,hk,h1,h2⟩
   obtain ⟨z,e1,e2,_⟩:=h n x hx
   exact ⟨z,e1,hk,(e2 k hk h1).1,by rw [<- (e2 k hk h1).2,h2]⟩
  exact fun n k n' k' fd a b=>K.ok.uniq n k n' k' fd (sub _ _ _ a) (sub _ _ _ b)
 ·obtain ⟨i,hi⟩:=List.mem_iff_getElem?.1 hx
  obtain ⟨z,_,_,e,_⟩:=h i x hi
  exact e
 ·obtain ⟨i,hi⟩:=List.mem_iff_getElem?.1 hx
  obtain ⟨z,e1,_,_,⟨c,e2⟩,_⟩:=h i x hi
  obtain ⟨p1,p2⟩:=K.ok.wait z (List.mem_of_getElem? e1)
  refine ⟨by rw [e2,List.length_drop];omega,fun m hm=>?_⟩
  obtain ⟨y,y0,y1,y2⟩:=p2 m (by rw [e2] at hm;exact List.mem_of_mem_drop hm)
  obtain ⟨y',hy'⟩:=jlG (ws:=ws') (n:=m.toNat) (by rw [hl];exact w_lt y1)
  obtain ⟨u,u1,_,_,_,u2⟩:=h _ _ hy'
  rw [y1] at u1;cases u1
  exact ⟨y',y0,hy',u2 y2 ⟨i,x,hi,by rw [Int.toNat_of_nonneg y0];exact hm⟩⟩
 ·intro i j x y p q m hx hy hp hq
  obtain ⟨a,a1,_,_,⟨c,a2⟩,_⟩:=h i x hx
  obtain ⟨b,b1,_,_,⟨c',b2⟩,_⟩:=h j y hy
  rw [a2,List.getElem?_drop] at hp
  rw [b2,List.getElem?_drop] at hq
  obtain ⟨e1,e2⟩:=K.one i j a b (c+p) (c'+q) m a1 b1 hp hq
  refine ⟨e1,?_⟩
  subst e1
  rw [hx] at hy;cases hy
  rw [a1] at b1;cases b1
  have:=a2.symm.trans b2
  have h1:=congrArg List.length this
  rw [List.length_drop,List.length_drop] at h1
  have h2:c+p<a.waiting.length:=by
   rcases Nat.lt_or_ge (c+p) a.waiting.length with h | h
   ·exact h
   ·rw [List.getElem?_eq_none h] at hp;cases hp
  omega
theorem WsK.set {ws:Ws} {n:Nat} {x y:Wi} (K:WsK ws) (hx:ws[n]?=some x) (hs:x.SubFd y) (hok:WiOk x->WiOk y) (hw:y.waiting=x.waiting) (h0:x.e0.what=0->y.e0.what=0):WsK (ws.set n y):=by
 refine K.mild (by simp) fun i z' hz=>?_
 rcases jdr hz with ⟨rfl,rfl⟩ | ⟨_,hz⟩
 ·exact ⟨x,hx,hs,hok (K.ok.ok x (List.mem_of_getElem? hx)),⟨0,by rw [hw];rfl⟩,fun h _=>h0 h⟩
 ·exact ⟨z',hz,Wi.SubFd.refl _,K.ok.ok z' (List.mem_of_getElem? hz),⟨0,rfl⟩,fun h _=>h⟩
theorem WsK.set_wait {ws:Ws} {n c:Nat} {x:Wi} (K:WsK ws) (hx:ws[n]?=some x):WsK (ws.set n { x with waiting:=x.waiting.drop c }):=by
 refine K.mild (by simp) fun i z' hz=>?_
 rcases jdr hz with ⟨rfl,rfl⟩ | ⟨_,hz⟩
 ·have:=K.ok.ok x (List.mem_of_getElem? hx)
  exact ⟨x,hx,Wi.SubFd.refl _,⟨this.cap0,this.cap1,this.len,this.pair,this.out,this.bl⟩,⟨c,rfl⟩,fun h _=>h⟩
 ·exact ⟨z',hz,Wi.SubFd.refl _,K.ok.ok z' (List.mem_of_getElem? hz),⟨0,rfl⟩,fun h _=>h⟩
theorem WiOk.of {x y:Wi} (a:WiOk x) (hc:y.cap=x.cap) (hw : ∀ k,k=0\/k=1->(y.e k).writes=(x.e k).writes) (hr : ∀ k,k=0\/k=1->((y.e k).ring=none↔(x.e k).ring=none)) (hl : ∀ k,k=0\/k=1 -> ∀ q,(y.e k).ring=some q->q.length<=x.cap) (ho:y.e1.what=2->x.e1.what=2) (hb:y.backlog=x.backlog:=by rfl):WiOk y:=by
 refine ⟨by rw [hc];exact a.cap0,by rw [hc];exact a.cap1,fun k hk q hq=>by rw [hc];exact hl k hk q hq,fun k hk=>?_,fun h2=>?_,by rw [hb];exact a.bl⟩
 ·rw [hw k hk,a.pair k hk,ne_eq,ne_eq]
  refine not_congr ?_
  rcases hk with rfl | rfl
  ·exact (hr 1 (.inr rfl)).symm
  ·exact (hr 0 (.inl rfl)).symm
 ·have:=a.out (ho h2)
  exact ⟨fun e=>this.1 ((hr 0 (.inl rfl)).1 e),fun e=>this.2 ((hr 1 (.inr rfl)).1 e)⟩
theorem WiOk.nil {x:Wi} (a:WiOk x) : ∀ k,k=0\/k=1 -> ∀ q,(x.e k).ring=some q->q.length<=x.cap:=a.len
theorem jfc {x:Wi} {k:Nat} {i o:Bool} (hk:k=0\/k=1):x.SubFd (x.came k i o):=by
 intro j hj
 rcases hk with rfl | rfl<;>rcases hj with rfl | rfl<;>exact fun h=>⟨h,rfl⟩
theorem jfb {x:Wi} {k:Nat} {i o:Bool} (hk:k=0\/k=1) (a:WiOk x):WiOk (x.came k i o):=by
 rcases hk with rfl | rfl
 ·refine a.of rfl (fun j hj=>?_) (fun j hj=>?_) (fun j hj q hq=>?_) fun h=>h
  ·rcases hj with rfl | rfl<;>rfl
  ·rcases hj with rfl | rfl<;>exact Iff.rfl
  ·rcases hj with rfl | rfl
   ·exact a.len 0 (by simp) q hq
   ·exact a.len 1 (by simp) q hq
 ·refine a.of rfl (fun j hj=>?_) (fun j hj=>?_) (fun j hj q hq=>?_) fun h=>h
  ·rcases hj with rfl | rfl<;>rfl
  ·rcases hj with rfl | rfl<;>exact Iff.rfl
  ·rcases hj with rfl | rfl
   ·exact a.len 0 (by simp) q hq
   ·exact a.len 1 (by simp) q hq
theorem jhu {x:Wi} {k:Nat} {i o:Bool} (hk:k=0\/k=1):(x.came k i o).e0.what=x.e0.what:=by rcases hk with rfl | rfl<;>rfl
theorem jht {x:Wi} {k:Nat} {i o:Bool} (hk:k=0\/k=1):(x.came k i o).waiting=x.waiting:=by rcases hk with rfl | rfl<;>rfl
theorem jgT {x:Wi} {k:Nat} {q:List UInt8} (hk:k=0\/k=1):x.SubFd (x.setq k q):=by
 intro j hj
 rcases hk with rfl | rfl<;>rcases hj with rfl | rfl<;>exact fun h=>⟨h,rfl⟩
theorem jgS {x:Wi} {k:Nat} {q q':List UInt8} (hk:k=0\/k=1) (hq:(x.e k).ring=some q) (hl:q'.length<=x.cap) (a:WiOk x):WiOk (x.setq k q'):=by
 rcases hk with rfl | rfl
 ·have hq:x.e0.ring=some q:=hq
  refine a.of rfl (fun j hj=>?_) (fun j hj=>?_) (fun j hj q2 hq2=>?_) fun h=>h
  ·rcases hj with rfl | rfl<;>rfl
  ·rcases hj with rfl | rfl
   ·show (some q'=none)↔x.e0.ring=none
    rw [hq];simp
   ·exact Iff.rfl
  ·rcases hj with rfl | rfl
   ·have:some q'=some q2:=hq2
    cases this;exact hl
   ·exact a.len 1 (by simp) q2 hq2
 ·have hq:x.e1.ring=some q:=hq
  refine a.of rfl (fun j hj=>?_) (fun j hj=>?_) (fun j hj q2 hq2=>?_) fun h=>h
  ·rcases hj with rfl | rfl<;>rfl
  ·rcases hj with rfl | rfl
   ·exact Iff.rfl
   ·show (some q'=none)↔x.e1.ring=none
    rw [hq];simp
  ·rcases hj with rfl | rfl
   ·exact a.len 0 (by simp) q2 hq2
   ·have:some q'=some q2:=hq2
    cases this;exact hl
theorem jkA {x:Wi} {k:Nat} {q:List UInt8} (hk:k=0\/k=1):(x.setq k q).e0.what=x.e0.what:=by rcases hk with rfl | rfl<;>rfl
theorem jk9 {x:Wi} {k:Nat} {q:List UInt8} (hk:k=0\/k=1):(x.setq k q).waiting=x.waiting:=by rcases hk with rfl | rfl<;>rfl
theorem jbT {k:Nat} (_hk:k=0\/k=1):1-k=0\/1-k=1:=by omega
theorem WsK.take {ws:Ws} {n k m:Nat} {x:Wi} {q:List UInt8} (K:WsK ws) (hx:ws[n]?=some x) (hk:k=0\/k=1) (hq:(x.e k).ring=some q):WsK (ws.set n (x.take k m q)):=by
 have hl:=(K.ok.ok x (List.mem_of_getElem? hx)).len k hk q hq
 exact K.set hx ((jgT hk).trans (jfc (jbT hk))) (fun a=>jfb (jbT hk) (jgS hk hq (by rw [List.length_drop];omega) a)) (by unfold Wi.take;rw [jht (jbT hk),jk9 hk]) (by unfold Wi.take;rw [jhu (jbT hk),jkA hk];exact id)
theorem WsK.fill {ws:Ws} {n k m:Nat} {x:Wi} {q b:List UInt8} (K:WsK ws) (hx:ws[n]?=some x) (hk:k=0\/k=1) (hq:(x.e (1-k)).ring=some q) (hm:m<=x.cap-q.length):WsK (ws.set n (x.fill k m q b)):=by
 have hl:=(K.ok.ok x (List.mem_of_getElem? hx)).len (1-k) (jbT hk) q hq
 exact K.set hx ((jgT (jbT hk)).trans (jfc (jbT hk))) (fun a=>jfb (jbT hk) (jgS (jbT hk) hq (by rw [List.length_append,List.length_take];omega) a)) (by unfold Wi.fill;rw [jht (jbT hk),jk9 (jbT hk)]) (by unfold Wi.fill;rw [jhu (jbT hk),jkA (jbT hk)];exact id)
theorem WsK.doShut {ws:Ws} {n k:Nat} {x:Wi} (K:WsK ws) (hx:ws[n]?=some x) (hk:k=0\/k=1):WsK (ws.set n (x.doShut k)):=by
 have e:x.SubFd (x.doShut k)/\(WiOk x->WiOk (x.doShut k))/\(x.doShut k).waiting=x.waiting/\(x.e0.what=0->(x.doShut k).e0.what=0):=by
  unfold Wi.doShut
  split
  ·exact ⟨Wi.SubFd.refl x,id,rfl,id⟩
  ·have p:x.SubFd (x.put k { x.e k with shut:=true })/\(WiOk x->WiOk (x.put k { x.e k with shut:=true }))/\(x.put k { x.e k with shut:=true }).waiting=x.waiting/\(x.put k { x.e k with shut:=true }).e0.what=x.e0.what:=by
    rcases hk with rfl | rfl
    ·refine ⟨fun j hj=>by (rcases hj with rfl | rfl<;>exact fun h=>⟨h,rfl⟩),fun a=>⟨a.cap0,a.cap1,fun j hj=>?_,fun j hj=>?_,a.out,a.bl⟩,rfl,rfl⟩
     ·have:=a.len j hj;rcases hj with rfl | rfl<;>exact this
     ·have:=a.pair j hj;rcases hj with rfl | rfl<;>exact this
    ·refine ⟨fun j hj=>by (rcases hj with rfl | rfl<;>exact fun h=>⟨h,rfl⟩),fun a=>⟨a.cap0,a.cap1,fun j hj=>?_,fun j hj=>?_,a.out,a.bl⟩,rfl,rfl⟩
     ·have:=a.len j hj;rcases hj with rfl | rfl<;>exact this
     ·have:=a.pair j hj;rcases hj with rfl | rfl<;>exact this
   exact ⟨p.1.trans (jfc (jbT hk)),fun a=>jfb (jbT hk) (p.2.1 a),by rw [jht (jbT hk),p.2.2.1],fun h=>by rw [jhu (jbT hk),p.2.2.2,h]⟩
 exact K.set hx e.1 e.2.1 e.2.2.1 e.2.2.2
theorem jgg {x:Wi} {k:Nat} (hk:k=0\/k=1):x.SubFd (x.close k)/\(WiOk x->WiOk (x.close k))/\(x.close k).waiting=x.waiting/\(x.e0.what=0->k=1->(x.close k).e0.what=0):=by
 have c1:x.SubFd (x.came (1-k) (!(x.e k).shut) true):=jfc (jbT hk)
 have c2:WiOk x->WiOk (x.came (1-k) (!(x.e k).shut) true):=jfb (jbT hk)
 have c3:(x.came (1-k) (!(x.e k).shut) true).waiting=x.waiting:=jht (jbT hk)
 have c4:(x.came (1-k) (!(x.e k).shut) true).e0.what=x.e0.what:=jhu (jbT hk)
 unfold Wi.close
 generalize x.came (1-k) (!(x.e k).shut) true=y at c1 c2 c3 c4 ⊢
 have p:y.SubFd (y.put k { y.e k with what:=3 })/\(WiOk y->WiOk (y.put k { y.e k with what:=3 }))/\(y.put k { y.e k with what:=3 }).waiting=y.waiting/\(k=1->(y.put k { y.e k with what:=3 }).e0.what=y.e0.what):=by
  rcases hk with rfl | rfl
  ·refine ⟨fun j hj=>?_,fun a=>⟨a.cap0,a.cap1,fun j hj=>?_,fun j hj=>?_,a.out,a.bl⟩,rfl,fun e=>by cases e⟩
   ·rcases hj with rfl | rfl
    ·intro h
     have h:(3:Int)=1:=h
     omega
    ·exact fun h=>⟨h,rfl⟩
   ·have:=a.len j hj;rcases hj with rfl | rfl<;>exact this
   ·have:=a.pair j hj;rcases hj with rfl | rfl<;>exact this
  ·refine ⟨fun j hj=>?_,fun a=>⟨a.cap0,a.cap1,fun j hj=>?_,fun j hj=>?_,fun h=>?_,a.bl⟩,rfl,fun _=>rfl⟩
   ·rcases hj with rfl | rfl
    ·exact fun h=>⟨h,rfl⟩
    ·intro h
     have h:(3:Int)=1:=h
     omega
   ·have:=a.len j hj;rcases hj with rfl | rfl<;>exact this
   ·have:=a.pair j hj;rcases hj with rfl | rfl<;>exact this
   ·have h:(3:Int)=2:=h
    omega
 exact ⟨c1.trans p.1,fun a=>p.2.1 (c2 a),by rw [p.2.2.1,c3],fun h hk=>by rw [p.2.2.2 hk,c4,h]⟩
theorem jiS {vs:Ws} {m:Int} : (jcK vs m).length=vs.length /\ ∀ (i:Nat) (z':Wi),(jcK vs m)[i]?=some z' -> ∃ z,vs[i]?=some z/\z.SubFd z'/\(WiOk z->WiOk z')/\z'.waiting=z.waiting/\(m.toNat≠i->z'=z):=by
 unfold jcK
 split
 ·exact ⟨rfl,fun i z' h=>⟨z',h,Wi.SubFd.refl _,id,rfl,fun _=>rfl⟩⟩
 ·next x hx=>
  refine ⟨by simp,fun i z' h=>?_⟩
  rcases jdr h with ⟨rfl,rfl⟩ | ⟨hne,h⟩
  ·have c:=jgg (x:=x) (k:=0) (.inl rfl)
   exact ⟨x,hx,c.1,c.2.1,c.2.2.1,fun h=>absurd rfl h⟩
  ·exact ⟨z',h,Wi.SubFd.refl _,id,rfl,fun _=>rfl⟩
theorem jfk : ∀ (L:List Int) (vs:Ws),(ja7 vs L).length=vs.length /\ ∀ (i:Nat) (z':Wi),(ja7 vs L)[i]?=some z' -> ∃ z,vs[i]?=some z/\z.SubFd z'/\(WiOk z->WiOk z')/\z'.waiting=z.waiting/\((∀ m∈L,m.toNat≠i)->z'=z)
 | [],vs=>⟨rfl,fun i z' h=>⟨z',h,Wi.SubFd.refl _,id,rfl,fun _=>rfl⟩⟩
 | m :: L,vs=>by
  obtain ⟨a1,a2⟩:=jfk L (jcK vs m)
  obtain ⟨b1,b2⟩:=jiS (vs:=vs) (m:=m)
  refine ⟨by rw [ja7,a1,b1],fun i z' h=>?_⟩
  obtain ⟨y,h1,s1,o1,w1,n1⟩:=a2 i z' h
  obtain ⟨z,h2,s2,o2,w2,n2⟩:=b2 i y h1
  refine ⟨z,h2,s2.trans s1,fun a=>o1 (o2 a),by rw [w1,w2],fun hn=>?_⟩
  rw [n1 fun m' hm'=>hn m' (List.mem_cons_of_mem _ hm'),n2 (hn m (List.mem_cons_self ..))]
theorem WsK.close {ws:Ws} {n k:Nat} {x:Wi} (K:WsK ws) (hx:ws[n]?=some x) (hk:k=0\/k=1) (h1:(x.e k).what=1):WsK (noWait (ja7 (ws.set n (x.close k)) x.waiting) n):=by
 obtain ⟨a1,a2⟩:=jfk x.waiting (ws.set n (x.close k))
 have c:=jgg (x:=x) hk
 have hn:=w_lt hx
 obtain ⟨u,hu⟩:=jlG (ws:=ja7 (ws.set n (x.close k)) x.waiting) (n:=n) (by rw [a1];simpa using hn)
 have e:noWait (ja7 (ws.set n (x.close k)) x.waiting) n=(ja7 (ws.set n (x.close k)) x.waiting).set n { u with waiting:=[] } := by
  unfold noWait;rw [hu]
 rw [e]
 refine K.mild (by rw [List.length_set,a1,List.length_set]) fun i z' hz=>?_
 have back : ∀ (i:Nat) (z:Wi),(ws.set n (x.close k))[i]?=some z -> ∃ y,ws[i]?=some y/\y.SubFd z/\(WiOk y->WiOk z)/\z.waiting=y.waiting/\(y.e0.what=0->z.e0.what=0):=by
  intro i z hz
  rcases jdr hz with ⟨rfl,rfl⟩ | ⟨_,hz⟩
  ·refine ⟨x,hx,c.1,c.2.1,c.2.2.1,fun h=>c.2.2.2 h ?_⟩
   rcases hk with rfl | rfl
   ·have h1:x.e0.what=1:=h1
    omega
   ·rfl
  ·exact ⟨z,hz,Wi.SubFd.refl _,id,rfl,id⟩
 rcases jdr hz with ⟨rfl,rfl⟩ | ⟨hne,hz⟩
 ·obtain ⟨z,z1,z2,z3,z4,z5⟩:=a2 _ _ hu
  obtain ⟨y,y1,y2,y3,y4,y5⟩:=back _ _ z1
  have yo:=z3 (y3 (K.ok.ok y (List.mem_of_getElem? y1)))
  refine ⟨y,y1,fun j hj h=>(y2.trans z2) j hj (by rcases hj with rfl | rfl<;>exact h) |>.imp id fun e=>by (rcases hj with rfl | rfl<;>exact e),⟨yo.cap0,yo.cap1,yo.len,yo.pair,yo.out,yo.bl⟩,⟨y.waiting.length,by simp⟩,?_⟩
  rintro h0 ⟨j,v,hv,hm⟩
  show u.e0.what=0
  rw [z5 ?_]
  ·exact y5 h0
  rintro m hm2 rfl
  rcases jdr hv with ⟨rfl,rfl⟩ | ⟨hj,hv⟩
  ·simp at hm
  ·obtain ⟨z',z1',_,_,z4',_⟩:=a2 _ _ hv
   rcases jdr z1' with ⟨rfl,_⟩ | ⟨_,z1'⟩
   ·exact hj rfl
   rw [z4'] at hm
   have m0:0<=m:=by obtain ⟨y,y0,_⟩:=(K.ok.wait x (List.mem_of_getElem? hx)).2 m hm2;exact y0
   rw [Int.toNat_of_nonneg m0] at hm
   obtain ⟨p,hp⟩:=List.mem_iff_getElem?.1 hm
   obtain ⟨q,hq⟩:=List.mem_iff_getElem?.1 hm2
   exact hj (K.one j _ z' x p q m z1' hx hp hq).1
 ·obtain ⟨z,z1,z2,z3,z4,z5⟩:=a2 _ _ hz
  obtain ⟨y,y1,y2,y3,y4,y5⟩:=back _ _ z1
  refine ⟨y,y1,y2.trans z2,z3 (y3 (K.ok.ok y (List.mem_of_getElem? y1))),⟨0,by rw [z4,y4];rfl⟩,?_⟩
  rintro h0 ⟨j,v,hv,hm⟩
  rw [z5 ?_]
  ·exact y5 h0
  rintro m hm2 rfl
  rcases jdr hv with ⟨rfl,rfl⟩ | ⟨hj,hv⟩
  ·simp at hm
  ·obtain ⟨z',z1',_,_,z4',_⟩:=a2 _ _ hv
   rcases jdr z1' with ⟨rfl,_⟩ | ⟨_,z1'⟩
   ·exact hj rfl
   rw [z4'] at hm
   have m0:0<=m:=by obtain ⟨y,y0,_⟩:=(K.ok.wait x (List.mem_of_getElem? hx)).2 m hm2;exact y0
   rw [Int.toNat_of_nonneg m0] at hm
   obtain ⟨p,hp⟩:=List.mem_iff_getElem?.1 hm
   obtain ⟨q,hq⟩:=List.mem_iff_getElem?.1 hm2
   exact hj (K.one j n z' x p q m z1' hx hp hq).1
end Am.Sigs
namespace Am.Sigs
open Am Go
theorem atS_at {ws:Ws} {fd:Int} {n k:Nat} (h:atS ws fd=some (n,k)):AtW ws n k fd:=by
 unfold atS at h
 split at h
 ·next hx=>
  have:=hx.choose_spec
  rw [Option.some.inj h] at this
  exact this
 ·cases h
theorem jlb {ws:Ws} {fd:Int} (h:atS ws fd=none) : ∀ n k,¬ AtW ws n k fd:=by
 intro n k a
 unfold atS at h
 rw [dif_pos ⟨(n,k),a⟩] at h
 cases h
theorem jbk {α : Type} {P : α -> Prop} {ws:Ws} {fd:Int} {no : α} {f:Nat->Nat->Wi -> α} (hno:P no) (h : ∀ n k x,ws[n]?=some x->(k=0\/k=1)->(x.e k).what=1->P (f n k x)):P (jcg ws fd no f):=by
 unfold jcg
 cases e:atS ws fd with
 | none=>exact hno
 | some p=>
  obtain ⟨n,k⟩:=p
  obtain ⟨x,hx,hk,h1,_⟩:=atS_at e
  simp only [hx]
  exact h n k x hx hk h1
theorem jbm {α : Type} {P : α -> Prop} {ws:Ws} {n:Int} {no : α} {f:Nat->Wi -> α} (hno:P no) (h : ∀ n x,ws[n]?=some x->x.e1.what=2->P (f n x)):P (jcu ws n no f):=by
 unfold jcu
 split
 ·split
  ·exact hno
  ·next x hx=>
   split
   ·next h2=>exact h _ _ hx h2
   ·exact hno
 ·exact hno
theorem readS_ok {ws:Ws} {fd many:Int} (K:WsK ws):WsK (jbP ws fd many).2:=by
 unfold jbP
 refine jbk (P:=fun r:_ × Ws=>WsK r.2) K fun n k x hx hk h1=>?_
 split
 ·exact K
 ·next q hq=>
  repeat' split
  all_goals first | exact K | exact K.take hx hk hq
theorem writeS_ok {ws:Ws} {fd:Int} {b:List UInt8} (K:WsK ws):WsK (jb1 ws fd b).2:=by
 unfold jb1
 refine jbk (P:=fun r:_ × Ws=>WsK r.2) K fun n k x hx hk h1=>?_
 split
 ·exact K
 split
 ·exact K
 split
 ·exact K
 split
 ·exact K
 split
 ·exact K
 ·next q hq=>
  split
  ·exact K.fill hx hk hq (Nat.zero_le _)
  ·exact K.fill hx hk hq (Nat.min_le_right _ _)
theorem shutS_ok {ws:Ws} {fd:Int} (K:WsK ws):WsK (jcW ws fd).2:=by
 unfold jcW
 refine jbk (P:=fun r:_ × Ws=>WsK r.2) K fun n k x hx hk h1=>?_
 split
 ·exact K
 ·exact K.doShut hx hk
theorem closeS_ok {ws:Ws} {fd:Int} (K:WsK ws):WsK (jbR ws fd).2:=by
 unfold jbR
 exact jbk (P:=fun r:_ × Ws=>WsK r.2) K fun n k x hx hk h1=>K.close hx hk h1
theorem putS_ok {ws:Ws} {n:Int} {b:List UInt8} (K:WsK ws):WsK (putS ws n b).2:=by
 unfold putS
 refine jbm (P:=fun r:_ × Ws=>WsK r.2) K fun n x hx h2=>?_
 split
 ·exact K
 split
 ·exact K
 split
 ·exact K
 ·next q hq=>exact K.fill hx (.inr rfl) hq (Nat.min_le_right _ _)
theorem takeS_ok {ws:Ws} {n many:Int} (K:WsK ws):WsK (jco ws n many).2:=by
 unfold jco
 refine jbm (P:=fun r:_ × Ws=>WsK r.2) K fun n x hx h2=>?_
 split
 ·exact K
 split
 ·exact K
 split
 ·exact K
 ·next q hq=>exact K.take hx (.inr rfl) hq
theorem jhS {ws:Ws} {n:Int} (K:WsK ws):WsK (jaJ ws n).2 :=
 jbm (P:=fun r:_ × Ws=>WsK r.2) K fun _ _ hx _=>K.doShut hx (.inr rfl)
theorem jhh {ws:Ws} {n:Int} (K:WsK ws):WsK (ja3 ws n).2 :=
 jbm (P:=fun r:_ × Ws=>WsK r.2) K fun _ _ hx _=>
  have c:=jgg (k:=1) (.inr rfl)
  K.set hx c.1 c.2.1 c.2.2.1 fun h=>c.2.2.2 h rfl
theorem resetS_ok {ws:Ws} {n:Int} (K:WsK ws):WsK (jbV ws n).2:=by
 unfold jbV
 refine jbm (P:=fun r:_ × Ws=>WsK r.2) K fun n x hx h2=>?_
 have o:=K.ok.ok x (List.mem_of_getElem? hx)
 obtain ⟨q0,q1⟩:=o.out h2
 obtain ⟨a,ha⟩ : ∃ a,x.e0.ring=some a:=Option.ne_none_iff_exists'.1 q0
 obtain ⟨b,hb⟩ : ∃ b,x.e1.ring=some b:=Option.ne_none_iff_exists'.1 q1
 have e:x.SubFd x.doReset/\(WiOk x->WiOk x.doReset)/\x.doReset.waiting=x.waiting/\x.doReset.e0.what=x.e0.what:=by
  unfold Wi.doReset
  split
  ·exact ⟨Wi.SubFd.refl x,id,rfl,rfl⟩
  ·have z0:(0:Nat)=0\/(0:Nat)=1 := .inl rfl
   have z1:(1:Nat)=0\/(1:Nat)=1 := .inr rfl
   have p0:x.SubFd { x with reset:=true } /\ (WiOk x->WiOk { x with reset:=true }):=by
    refine ⟨fun j hj=>by (rcases hj with rfl | rfl<;>exact fun h=>⟨h,rfl⟩),fun a=>⟨a.cap0,a.cap1,fun j hj=>?_,fun j hj=>?_,a.out,a.bl⟩⟩
    ·have:=a.len j hj;rcases hj with rfl | rfl<;>exact this
    ·have:=a.pair j hj;rcases hj with rfl | rfl<;>exact this
   refine ⟨(((p0.1.trans (jgT z0)).trans (jfc z0)).trans (jgT z1)).trans (jfc z1),fun o=>jfb z1 (jgS (q:=b) z1 hb (Nat.zero_le _) (jfb z0 (jgS (q:=a) z0 ha (Nat.zero_le _) (p0.2 o)))),rfl,rfl⟩
 exact K.set hx e.1 e.2.1 e.2.2.1 fun h=>by rw [e.2.2.2,h]
theorem jdk {ws:Ws} {x:Wi} {n k:Nat} {fd:Int} (h:AtW (ws++[x]) n k fd):AtW ws n k fd\/(n=ws.length/\(k=0\/k=1)/\(x.e k).what=1/\(x.e k).fd=fd):=by
 obtain ⟨y,hy,hk,h1,h2⟩:=h
 rcases Nat.lt_or_ge n ws.length with hl | hl
 ·rw [List.getElem?_append,if_pos hl] at hy
  exact .inl ⟨y,hy,hk,h1,h2⟩
 ·rw [List.getElem?_append,if_neg (by omega)] at hy
  have:n-ws.length=0:=by
   rcases Nat.eq_zero_or_pos (n-ws.length) with e | e
   ·exact e
   ·rw [List.getElem?_eq_none (show 1<=_ from e)] at hy;cases hy
  rw [this] at hy
  cases hy
  exact .inr ⟨by omega,hk,h1,h2⟩
theorem jhf {ws:Ws} {x y:Wi} {n:Nat} (h:(ws++[x])[n]?=some y):ws[n]?=some y\/(n=ws.length/\y=x):=by
 rcases Nat.lt_or_ge n ws.length with hl | hl
 ·rw [List.getElem?_append,if_pos hl] at h
  exact .inl h
 ·rw [List.getElem?_append,if_neg (by omega)] at h
  have:n-ws.length=0:=by
   rcases Nat.eq_zero_or_pos (n-ws.length) with e | e
   ·exact e
   ·rw [List.getElem?_eq_none (show 1<=_ from e)] at h;cases h
  rw [this] at h
  cases h
  exact .inr ⟨by omega,rfl⟩
theorem jdK {ws:Ws} {x y:Wi} {n:Nat} (h:ws[n]?=some y):(ws++[x])[n]?=some y:=by rw [List.getElem?_append,if_pos (w_lt h),h]
theorem push_uniq {ws:Ws} {x:Wi} (u:Uniq ws) (hf : ∀ k,k=0\/k=1->(x.e k).what=1 -> ∀ n j,¬ AtW ws n j (x.e k).fd) (h2:x.e0.what=1->x.e1.what=1->x.e0.fd≠x.e1.fd):Uniq (ws++[x]):=by
 intro n k n' k' fd a b
 rcases jdk a with a | ⟨rfl,hk,w1,f1⟩
 ·rcases jdk b with b | ⟨rfl,hk',w1,f1⟩
  ·exact u _ _ _ _ _ a b
  ·exact absurd (by rw [f1];exact a) (hf k' hk' w1 n k)
 ·rcases jdk b with b | ⟨rfl,hk',w2,f2⟩
  ·exact absurd (by rw [f1];exact b) (hf k hk w1 n' k')
  ·refine ⟨rfl,?_⟩
   rcases hk with rfl | rfl<;>rcases hk' with rfl | rfl
   ·rfl
   ·exact absurd (f1.trans f2.symm) (h2 w1 w2)
   ·exact absurd (f2.trans f1.symm) (h2 w2 w1)
   ·rfl
theorem WsK.push {ws:Ws} {x:Wi} (K:WsK ws) (ox:WiOk x) (hw:x.waiting=[]) (hl:ws.length<1000) (hf : ∀ k,k=0\/k=1->(x.e k).what=1 -> ∀ n j,¬ AtW ws n j (x.e k).fd) (h2:x.e0.what=1->x.e1.what=1->x.e0.fd≠x.e1.fd):WsK (ws++[x]):=by
 refine ⟨⟨push_uniq K.ok.uniq hf h2,fun y hy=>?_,by rw [List.length_append];show ws.length+1<=1000;omega,fun y hy=>?_⟩,?_⟩
 ·rcases List.mem_append.1 hy with h | h
  ·exact K.ok.ok y h
  ·obtain rfl:y=x:=by simpa using h
   exact ox
 ·rcases List.mem_append.1 hy with h | h
  ·obtain ⟨p1,p2⟩:=K.ok.wait y h
   refine ⟨p1,fun m hm=>?_⟩
   obtain ⟨z,z0,z1,z2⟩:=p2 m hm
   exact ⟨z,z0,jdK z1,z2⟩
  ·obtain rfl:y=x:=by simpa using h
   rw [hw];simp
 ·intro i j a b p q m ha hb hp hq
  rcases jhf ha with ha | ⟨rfl,rfl⟩
  ·rcases jhf hb with hb | ⟨rfl,rfl⟩
   ·exact K.one i j a b p q m ha hb hp hq
   ·rw [hw] at hq;simp at hq
  ·rw [hw] at hp;simp at hp
theorem jd6 {ws:Ws} {n:Nat} {f:Int} (h:f∈jau ws n) : ∃ i:Nat,f=i/\i<n/\atS ws f=none:=by
 unfold jau at h
 obtain ⟨i,hi,rfl⟩:=List.mem_map.1 h
 obtain ⟨p1,p2⟩:=List.mem_filter.1 hi
 refine ⟨i,rfl,by simpa using p1,?_⟩
 simpa using p2
theorem jfZ (ws:Ws) (n:Nat):(jau ws n).Nodup:=by
 unfold jau
 exact (List.Pairwise.filter _ List.nodup_range).map _ fun a b (h:a≠b)=>by show (a:Int)≠(b:Int);omega
theorem jdd {ws:Ws} {kind n:Int} (hk:kind=0\/kind=1\/kind=2\/kind=3) (K:WsK ws):WsK (jag ws kind n).2:=by
 unfold jag
 split
 ·exact K
 next hb=>
 split
 ·exact K
 next f0 fs hF=>
 split
 ·exact K
 next hbad=>
 have hn:1<=n/\n<=65536:=by omega
 have hnt:1<=n.toNat/\n.toNat<=65536:=by omega
 obtain ⟨i0,e0,_,a0⟩:=jd6 (ws:=ws) (n:=96) (f:=f0) (by rw [hF];simp)
 have n0:=jlb a0
 have nd:=jfZ ws 96
 rw [hF] at nd
 have h1:kind<2 -> ∃ f1,fs.headD 0=f1/\f0≠f1 /\ ∀ n k,¬ AtW ws n k f1:=by
  intro h
  cases fs with
  | nil=>exact absurd (.inl ⟨rfl,h⟩) hbad
  | cons f1 r=>
   obtain ⟨i1,e1,_,a1⟩:=jd6 (ws:=ws) (n:=96) (f:=f1) (by rw [hF];simp)
   refine ⟨f1,rfl,fun e=>?_,jlb a1⟩
   subst e
   exact absurd nd (by simp)
 have hlen:ws.length<1000:=by omega
 have two1 : ∀ {x:Wi},x.e0.fd=f0->(x.e1.what=1->x.e1.fd=fs.headD 0/\kind<2) -> ∀ k,k=0\/k=1->(x.e k).what=1 -> ∀ n j,¬ AtW ws n j (x.e k).fd:=by
  intro x p0 p1 k hk h
  rcases hk with rfl | rfl
  ·show ∀ n j,¬ AtW ws n j x.e0.fd
   rw [p0];exact n0
  ·obtain ⟨q1,q2⟩:=p1 h
   obtain ⟨f1,r1,_,r2⟩:=h1 q2
   show ∀ n j,¬ AtW ws n j x.e1.fd
   rw [q1,r1];exact r2
 have mk : ∀ (x:Wi),(∀ k,k=0\/k=1 -> ∀ q,(x.e k).ring=some q->q=[])->x.cap=n.toNat->(∀ k,k=0\/k=1->((x.e k).writes=true↔(x.e (1-k)).ring≠none))->(x.e1.what=2->x.e0.ring≠none/\x.e1.ring≠none)->0<=x.backlog/\x.backlog<=64->WiOk x:=by
  intro x p1 p2 p3 p4 p5
  exact ⟨by rw [p2];exact hnt.1,by rw [p2];exact hnt.2,fun k hk q hq=>by rw [p1 k hk q hq];exact Nat.zero_le _,p3,p4,p5⟩
 rcases hk with rfl | rfl | rfl | rfl
 ·have e:newW 0 n f0 (fs.headD 0)=⟨⟨1,f0,some [],false,false,0,0⟩,⟨1,fs.headD 0,none,true,false,0,0⟩,n.toNat,false,0,[]⟩:=rfl
  refine K.push (mk _ (fun k hk q hq=>?_) rfl (fun k hk=>?_) (fun h=>?_) ?_) rfl hlen (two1 rfl fun _=>⟨rfl,by omega⟩) fun _ _=>?_
  ·rcases hk with rfl | rfl
   ·have:some []=some q:=hq
    cases this;rfl
   ·have:none=some q:=hq
    cases this
  ·rcases hk with rfl | rfl
   ·show (false=true↔(none:Option (List UInt8))≠none);simp
   ·show (true=true↔some ([]:List UInt8)≠none);simp
  ·have h:(1:Int)=2:=h
   omega
  ·show (0:Int)<=0/\(0:Int)<=64;omega
  ·obtain ⟨f1,r1,r0,_⟩:=h1 (by omega)
   show f0≠fs.headD 0
   rw [r1];exact r0
 ·refine K.push (mk _ (fun k hk q hq=>?_) rfl (fun k hk=>?_) (fun h=>?_) ?_) rfl hlen (two1 rfl fun _=>⟨rfl,by omega⟩) fun _ _=>?_
  ·rcases hk with rfl | rfl
   ·have:some []=some q:=hq
    cases this;rfl
   ·have:some []=some q:=hq
    cases this;rfl
  ·rcases hk with rfl | rfl
   ·show (true=true↔some ([]:List UInt8)≠none);simp
   ·show (true=true↔some ([]:List UInt8)≠none);simp
  ·have h:(1:Int)=2:=h
   omega
  ·show (0:Int)<=0/\(0:Int)<=64;omega
  ·obtain ⟨f1,r1,r0,_⟩:=h1 (by omega)
   show f0≠fs.headD 0
   rw [r1];exact r0
 ·refine K.push (mk _ (fun k hk q hq=>?_) rfl (fun k hk=>?_) (fun h=>?_) ?_) rfl hlen (two1 rfl fun h=>?_) fun _ h=>?_
  ·rcases hk with rfl | rfl
   ·have:some []=some q:=hq
    cases this;rfl
   ·have:some []=some q:=hq
    cases this;rfl
  ·rcases hk with rfl | rfl
   ·show (true=true↔some ([]:List UInt8)≠none);simp
   ·show (true=true↔some ([]:List UInt8)≠none);simp
  ·exact ⟨by show some []≠none;simp,by show some []≠none;simp⟩
  ·show (0:Int)<=0/\(0:Int)<=64;omega
  ·have h:(2:Int)=1:=h
   omega
  ·have h:(2:Int)=1:=h
   omega
 ·refine K.push (mk _ (fun k hk q hq=>?_) rfl (fun k hk=>?_) (fun h=>?_) ?_) rfl hlen (two1 rfl fun h=>?_) fun _ h=>?_
  ·rcases hk with rfl | rfl
   ·have:none=some q:=hq
    cases this
   ·have:none=some q:=hq
    cases this
  ·rcases hk with rfl | rfl
   ·show (false=true↔(none:Option (List UInt8))≠none);simp
   ·show (false=true↔(none:Option (List UInt8))≠none);simp
  ·have h:(0:Int)=2:=h
   omega
  ·show 0<=n/\n<=64;omega
  ·have h:(0:Int)=1:=h
   omega
  ·have h:(0:Int)=1:=h
   omega
theorem jeC {ws:Ws} {m n k:Nat} {f fd:Int} {y:Wi} (hy:ws[m]?=some y) (h:AtW (ws.set m (y.put 0 { y.e 0 with what:=1,fd:=f })) n k fd):(n=m/\k=0/\fd=f)\/(AtW ws n k fd/\(n=m->k=1)):=by
 obtain ⟨x,hx,hk,h1,h2⟩:=h
 rcases jdr hx with ⟨rfl,rfl⟩ | ⟨hne,hx⟩
 ·rcases hk with rfl | rfl
  ·exact .inl ⟨rfl,rfl,h2.symm⟩
  ·exact .inr ⟨⟨y,hy,.inr rfl,h1,h2⟩,fun _=>rfl⟩
 ·exact .inr ⟨⟨x,hx,hk,h1,h2⟩,fun e=>absurd e hne⟩
theorem WsK.seat {ws:Ws} {m:Nat} {f:Int} {y:Wi} (K:WsK ws) (hy:ws[m]?=some y) (hf : ∀ n k,¬ AtW ws n k f) (hw : ∀ (j:Nat) (u:Wi),ws[j]?=some u->(m:Int) ∉ u.waiting):WsK (ws.set m (y.put 0 { y.e 0 with what:=1,fd:=f })):=by
 have key : ∀ (i:Nat) (z':Wi),(ws.set m (y.put 0 { y.e 0 with what:=1,fd:=f }))[i]?=some z' -> ∃ z,ws[i]?=some z/\z'.waiting=z.waiting/\WiOk z'/\(i≠m->z'=z):=by
  intro i z' hz
  rcases jdr hz with ⟨rfl,rfl⟩ | ⟨hne,hz⟩
  ·have a:=K.ok.ok y (List.mem_of_getElem? hy)
   refine ⟨y,hy,rfl,⟨a.cap0,a.cap1,fun j hj=>?_,fun j hj=>?_,a.out,a.bl⟩,fun h=>absurd rfl h⟩
   ·have:=a.len j hj;rcases hj with rfl | rfl<;>exact this
   ·have:=a.pair j hj;rcases hj with rfl | rfl<;>exact this
  ·exact ⟨z',hz,rfl,K.ok.ok z' (List.mem_of_getElem? hz),fun _=>rfl⟩
 refine ⟨⟨?_,fun x hx=>?_,by rw [List.length_set];exact K.ok.len,fun x hx=>?_⟩,?_⟩
 ·intro n k n' k' fd a b
  rcases jeC hy a with ⟨h1,h2,h3⟩ | ⟨a2,_⟩
  ·rcases jeC hy b with ⟨h4,h5,_⟩ | ⟨b2,_⟩
   ·exact ⟨h1.trans h4.symm,h2.trans h5.symm⟩
   ·rw [h3] at b2;exact absurd b2 (hf _ _)
  ·rcases jeC hy b with ⟨_,_,h3⟩ | ⟨b2,_⟩
   ·rw [h3] at a2;exact absurd a2 (hf _ _)
   ·exact K.ok.uniq _ _ _ _ _ a2 b2
 ·obtain ⟨i,hi⟩:=List.mem_iff_getElem?.1 hx
  obtain ⟨_,_,_,h,_⟩:=key i x hi
  exact h
 ·obtain ⟨i,hi⟩:=List.mem_iff_getElem?.1 hx
  obtain ⟨z,z1,z2,_,_⟩:=key i x hi
  rw [z2]
  obtain ⟨p1,p2⟩:=K.ok.wait z (List.mem_of_getElem? z1)
  refine ⟨p1,fun q hq=>?_⟩
  obtain ⟨u,u0,u1,u2⟩:=p2 q hq
  have hne:m≠q.toNat:=by
   rintro rfl
   refine hw i z z1 ?_
   rw [Int.toNat_of_nonneg u0];exact hq
  exact ⟨u,u0,by rw [List.getElem?_set,if_neg hne,u1],u2⟩
 ·intro i j a b p q v ha hb hp hq
  obtain ⟨a',a1,a2,_⟩:=key i a ha
  obtain ⟨b',b1,b2,_⟩:=key j b hb
  rw [a2] at hp
  rw [b2] at hq
  exact K.one i j a' b' p q v a1 b1 hp hq
theorem jf7 {ws:Ws} {n m k:Nat} {fd:Int} {x:Wi} {wt:List Int} (hx:ws[n]?=some x):AtW (ws.set n { x with waiting:=wt }) m k fd↔AtW ws m k fd:=by
 constructor
 ·rintro ⟨y,hy,hk,h1,h2⟩
  rcases jdr hy with ⟨rfl,rfl⟩ | ⟨_,hy⟩
  ·exact ⟨x,hx,hk,by rcases hk with rfl | rfl<;>exact h1,by rcases hk with rfl | rfl<;>exact h2⟩
  ·exact ⟨y,hy,hk,h1,h2⟩
 ·rintro ⟨y,hy,hk,h1,h2⟩
  by_cases e:m=n
  ·subst e
   rw [hx] at hy;cases hy
   exact ⟨_,by rw [List.getElem?_set,if_pos rfl,if_pos (w_lt hx)],hk,by rcases hk with rfl | rfl<;>exact h1,by rcases hk with rfl | rfl<;>exact h2⟩
  ·exact ⟨y,by rw [List.getElem?_set,if_neg (fun h=>e h.symm),hy],hk,h1,h2⟩
theorem jgK {ws:Ws} {fd:Int} (K:WsK ws):WsK (jaw ws fd).2:=by
 unfold jaw
 refine jbk (P:=fun r:_ × Ws=>WsK r.2) K fun n k x hx hk h1=>?_
 split
 ·exact K
 split
 ·exact K
 next m rest hw=>
 split
 ·exact K
 next f fs hF=>
 split
 ·exact K
 next y hy=>
 have e:({ x with waiting:=rest } : Wi) = { x with waiting:=x.waiting.drop 1 } := by rw [hw];rfl
 have K1:=K.set_wait (c:=1) hx
 rw [<- e] at K1
 obtain ⟨i,_,_,hf⟩:=jd6 (ws:=ws) (n:=96) (f:=f) (by rw [hF];simp)
 have nf:=jlb hf
 refine K1.seat hy (fun a b h=>nf a b ((jf7 hx).1 h)) fun j u hu hm=>?_
 have m0:0<=m:=by
  obtain ⟨z,z0,_⟩:=(K.ok.wait x (List.mem_of_getElem? hx)).2 m (by rw [hw];simp)
  exact z0
 rw [Int.toNat_of_nonneg m0] at hm
 obtain ⟨q,hq⟩:=List.mem_iff_getElem?.1 hm
 rcases jdr hu with ⟨rfl,rfl⟩ | ⟨hne,hu⟩
 ·have:=(K.one j j x x 0 (q+1) m hx hx (by rw [hw];rfl) (by rw [hw];exact hq)).2
  omega
 ·exact hne (K.one j n u x q 0 m hu hx hq (by rw [hw];rfl)).1
theorem WsK.waits {ws:Ws} {n:Nat} {x y y2:Wi} {m:Int} (K:WsK ws) (hx:ws[n]?=some x) (hs:x.SubFd y) (hok:WiOk y) (hw:y.waiting=x.waiting++[m]) (h64:x.waiting.length<64) (h0:x.e0.what=0->y.e0.what=0)
  (m0:0<=m) (hm:ws[m.toNat]?=some y2) (hm2:y2.e0.what=0) (hno : ∀ (j:Nat) (u:Wi),ws[j]?=some u->m ∉ u.waiting):WsK (ws.set n y):=by
 have old : ∀ (p:Nat) (v:Int),y.waiting[p]?=some v->(x.waiting[p]?=some v)\/(v=m/\p=x.waiting.length):=by
  intro p v h
  rw [hw] at h
  rcases Nat.lt_or_ge p x.waiting.length with hl | hl
  ·rw [List.getElem?_append,if_pos hl] at h;exact .inl h
  ·rw [List.getElem?_append,if_neg (by omega)] at h
   have:p-x.waiting.length=0:=by
    rcases Nat.eq_zero_or_pos (p-x.waiting.length) with e | e
    ·exact e
    ·rw [List.getElem?_eq_none (show 1<=_ from e)] at h;cases h
   rw [this] at h;cases h
   exact .inr ⟨rfl,by omega⟩
 have tgt : ∀ (v:Int) (u:Wi),0<=v->ws[v.toNat]?=some u->u.e0.what=0 -> ∃ u':Wi,0<=v/\(ws.set n y)[v.toNat]?=some u'/\u'.e0.what=0:=by
  intro v u v0 hu hu0
  by_cases e:n=v.toNat
  ·rw [<- e,hx] at hu;cases hu
   exact ⟨y,v0,by rw [List.getElem?_set,if_pos e,if_pos (w_lt hx)],h0 hu0⟩
  ·exact ⟨u,v0,by rw [List.getElem?_set,if_neg e,hu],hu0⟩
 refine ⟨⟨?_,fun z hz=>?_,by rw [List.length_set];exact K.ok.len,fun z hz=>?_⟩,?_⟩
 ·have sub : ∀ i k fd,AtW (ws.set n y) i k fd->AtW ws i k fd:=by
   rintro i k fd ⟨z,hz,hk,h1,h2⟩
   rcases jdr hz with ⟨rfl,rfl⟩ | ⟨_,hz⟩
   ·exact ⟨x,hx,hk,(hs k hk h1).1,by rw [<- (hs k hk h1).2,h2]⟩
   ·exact ⟨z,hz,hk,h1,h2⟩
  exact fun a k b k' fd p q=>K.ok.uniq a k b k' fd (sub _ _ _ p) (sub _ _ _ q)
 ·rcases List.mem_or_eq_of_mem_set hz with h | rfl
  ·exact K.ok.ok z h
  ·exact hok
 ·rcases List.mem_or_eq_of_mem_set hz with h | rfl
  ·obtain ⟨p1,p2⟩:=K.ok.wait z h
   refine ⟨p1,fun v hv=>?_⟩
   obtain ⟨u,u0,u1,u2⟩:=p2 v hv
   exact tgt v u u0 u1 u2
  ·obtain ⟨p1,p2⟩:=K.ok.wait x (List.mem_of_getElem? hx)
   rw [hw]
   refine ⟨by rw [List.length_append];show _+1<=64;omega,fun v hv=>?_⟩
   rcases List.mem_append.1 hv with h | h
   ·obtain ⟨u,u0,u1,u2⟩:=p2 v h
    exact tgt v u u0 u1 u2
   ·obtain rfl:v=m:=by simpa using h
    exact tgt v y2 m0 hm hm2
 ·intro i j a b p q v ha hb hp hq
  rcases jdr ha with ⟨rfl,rfl⟩ | ⟨hi,ha2⟩
  ·rcases jdr hb with ⟨rfl,rfl⟩ | ⟨hj,hb2⟩
   ·refine ⟨rfl,?_⟩
    rcases old p v hp with h1 | ⟨rfl,h1⟩
    ·rcases old q v hq with h2 | ⟨rfl,h2⟩
     ·exact (K.one j j x x p q v hx hx h1 h2).2
     ·exact absurd (List.mem_of_getElem? h1) (hno j x hx)
    ·rcases old q v hq with h2 | ⟨_,h2⟩
     ·exact absurd (List.mem_of_getElem? h2) (hno j x hx)
     ·omega
   ·rcases old p v hp with h1 | ⟨rfl,h1⟩
    ·exact K.one _ j x b p q v hx hb2 h1 hq
    ·exact absurd (List.mem_of_getElem? hq) (hno j b hb2)
  ·rcases jdr hb with ⟨rfl,rfl⟩ | ⟨hj,hb2⟩
   ·rcases old q v hq with h1 | ⟨rfl,h1⟩
    ·exact K.one i _ a x p q v ha2 hx hp h1
    ·exact absurd (List.mem_of_getElem? hp) (hno i a ha2)
   ·exact K.one i j a b p q v ha2 hb2 hp hq
theorem jiH {many:Int} (h1:1<=many) (h2:many<=65536):WiOk (jba many):=by
 refine ⟨by show 1<=many.toNat;omega,by show many.toNat<=65536;omega,fun k hk q hq=>?_,fun k hk=>?_,fun _=>⟨by show some []≠none;simp,by show some []≠none;simp⟩,by show (0:Int)<=0/\(0:Int)<=64;omega⟩
 ·rcases hk with rfl | rfl
  ·have:some []=some q:=hq
   cases this;exact Nat.zero_le _
  ·have:some []=some q:=hq
   cases this;exact Nat.zero_le _
 ·rcases hk with rfl | rfl
  ·show (true=true↔some ([]:List UInt8)≠none);simp
  ·show (true=true↔some ([]:List UInt8)≠none);simp
theorem jgf {ws:Ws} {n many:Int} (K:WsK ws):WsK (jar ws n many).2:=by
 unfold jar
 split
 ·exact K
 split
 ·exact K
 next x hx=>
 split
 ·exact K
 split
 ·exact K
 next hm=>
 split
 ·exact K
 next hbl=>
 split
 ·exact K
 next hlen=>
 have a:=K.ok.ok x (List.mem_of_getElem? hx)
 have K2:WsK (ws++[jba many]):=by
  refine K.push (jiH (by omega) (by omega)) rfl (by omega) (fun k hk h=>?_) fun h=>?_
  ·rcases hk with rfl | rfl
   ·have h:(0:Int)=1:=h
    omega
   ·have h:(2:Int)=1:=h
    omega
  ·have h:(0:Int)=1:=h
   omega
 have hn:=w_lt hx
 have hmn:(ws++[jba many])[((ws.length:Nat):Int).toNat]?=some (jba many):=by simp
 have K3:=K2.waits (n:=n.toNat) (x:=x) (y := { x with waiting:=x.waiting++[(ws.length:Int)],e0 := { x.e0 with inn:=upu x.e0.inn } }) (y2:=jba many) (m:=(ws.length:Int)) (jdK hx)
  (fun j hj=>by rcases hj with rfl | rfl<;>exact fun h=>⟨h,rfl⟩) ⟨a.cap0,a.cap1,fun j hj=>by have:=a.len j hj;(rcases hj with rfl | rfl<;>exact this),fun j hj=>by have:=a.pair j hj;(rcases hj with rfl | rfl<;>exact this),a.out,a.bl⟩ rfl
  (by have:=a.bl;omega) (fun h=>h) (by omega) hmn rfl fun j u hu hmem=>by
   rcases jhf hu with hu | ⟨_,rfl⟩
   ·obtain ⟨z,z0,z1,_⟩:=(K.ok.wait u (List.mem_of_getElem? hu)).2 _ hmem
    have:=w_lt z1
    simp at this
   ·have:(ws.length:Int)∈([]:List Int):=hmem
    simp at this
 rw [List.set_append_left _ _ hn] at K3
 exact K3
end Am.Sigs
namespace Am.Sigs
open Am Go
def Wi.RK (x y:Wi):Prop := ∀ k,k=0\/k=1->(x.e k).ring≠none->(y.e k).ring≠none
theorem Wi.RK.refl (x:Wi):x.RK x:=fun _ _ h=>h
theorem Wi.RK.trans {x y z:Wi} (a:x.RK y) (b:y.RK z):x.RK z:=fun k hk h=>b k hk (a k hk h)
def WsR (ws ws':Ws):Prop := ∀ (n:Nat) (x:Wi),ws[n]?=some x -> ∃ y,ws'[n]?=some y/\x.RK y
theorem WsR.refl (ws:Ws):WsR ws ws:=fun _ x h=>⟨x,h,Wi.RK.refl x⟩
theorem WsR.trans {a b c:Ws} (x:WsR a b) (y:WsR b c):WsR a c:=fun n u hu=>by
 obtain ⟨v,hv,h1⟩:=x n u hu
 obtain ⟨w,hw,h2⟩:=y n v hv
 exact ⟨w,hw,h1.trans h2⟩
theorem WsR.set {ws:Ws} {n:Nat} {x y:Wi} (hx:ws[n]?=some x) (h:x.RK y):WsR ws (ws.set n y):=fun m u hu=>by
 by_cases e:n=m
 ·subst e
  rw [hx] at hu;cases hu
  exact ⟨y,by rw [List.getElem?_set,if_pos rfl,if_pos (w_lt hx)],h⟩
 ·exact ⟨u,by rw [List.getElem?_set,if_neg e,hu],Wi.RK.refl u⟩
theorem WsR.push {ws:Ws} {x:Wi} : WsR ws (ws++[x]):=fun _ u hu=>⟨u,jdK hu,Wi.RK.refl u⟩
theorem NtOk.keep {ws ws':Ws} {no si:Int} (a:NtOk ws no si) (r:WsR ws ws'):NtOk ws' no si:=by
 rcases a with a | ⟨n,k,x,h1,h2,h3,h4,h5,h6⟩
 ·exact .inl a
 ·obtain ⟨y,hy,rk⟩:=r n x h4
  exact .inr ⟨n,k,y,h1,h2,h3,hy,rk 0 (.inl rfl) h5,rk 1 (.inr rfl) h6⟩
theorem jfa {x:Wi} {k:Nat} {i o:Bool} (hk:k=0\/k=1):x.RK (x.came k i o):=by
 intro j hj
 rcases hk with rfl | rfl<;>rcases hj with rfl | rfl<;>exact fun h=>h
theorem jgR {x:Wi} {k:Nat} {q:List UInt8} (hk:k=0\/k=1):x.RK (x.setq k q):=by
 intro j hj
 rcases hk with rfl | rfl<;>rcases hj with rfl | rfl
 ·intro _;show some q≠none;simp
 ·exact fun h=>h
 ·exact fun h=>h
 ·intro _;show some q≠none;simp
theorem jix {x:Wi} {k m:Nat} {q:List UInt8} (hk:k=0\/k=1):x.RK (x.take k m q):=(jgR hk).trans (jfa (jbT hk))
theorem jiP {x:Wi} {k m:Nat} {q b:List UInt8} (hk:k=0\/k=1):x.RK (x.fill k m q b):=(jgR (jbT hk)).trans (jfa (jbT hk))
theorem jkL {x:Wi} {k:Nat} {e:En} (hk:k=0\/k=1) (h:e.ring=(x.e k).ring):x.RK (x.put k e):=by
 intro j hj
 rcases hk with rfl | rfl<;>rcases hj with rfl | rfl
 ·intro h1;show e.ring≠none;rw [h];exact h1
 ·exact fun h=>h
 ·exact fun h=>h
 ·intro h1;show e.ring≠none;rw [h];exact h1
theorem jk7 {x:Wi} {k:Nat} (hk:k=0\/k=1):x.RK (x.doShut k):=by
 unfold Wi.doShut
 split
 ·exact Wi.RK.refl x
 ·exact (jkL (e := { x.e k with shut:=true }) hk rfl).trans (jfa (jbT hk))
theorem jhs {x:Wi} {k:Nat} (hk:k=0\/k=1):x.RK (x.close k):=by
 unfold Wi.close
 exact (jfa (jbT hk)).trans (jkL hk rfl)
theorem reset_rk {x:Wi} : x.RK x.doReset:=by
 unfold Wi.doReset
 split
 ·exact Wi.RK.refl x
 ·have z0:(0:Nat)=0\/(0:Nat)=1 := .inl rfl
  have z1:(1:Nat)=0\/(1:Nat)=1 := .inr rfl
  have p0:x.RK { x with reset:=true } := fun j hj=>by rcases hj with rfl | rfl<;>exact fun h=>h
  exact (((p0.trans (jgR z0)).trans (jfa z0)).trans (jgR z1)).trans (jfa z1)
theorem readS_r {ws:Ws} {fd many:Int} : WsR ws (jbP ws fd many).2:=by
 unfold jbP
 refine jbk (P:=fun r:_ × Ws=>WsR ws r.2) (WsR.refl ws) fun n k x hx hk h1=>?_
 split
 ·exact WsR.refl ws
 ·repeat' split
  all_goals first | exact WsR.refl ws | exact WsR.set hx (jix hk)
theorem writeS_r {ws:Ws} {fd:Int} {b:List UInt8} : WsR ws (jb1 ws fd b).2:=by
 unfold jb1
 refine jbk (P:=fun r:_ × Ws=>WsR ws r.2) (WsR.refl ws) fun n k x hx hk h1=>?_
 repeat' split
 all_goals first | exact WsR.refl ws | exact WsR.set hx (jiP hk)
theorem shutS_r {ws:Ws} {fd:Int} : WsR ws (jcW ws fd).2:=by
 unfold jcW
 refine jbk (P:=fun r:_ × Ws=>WsR ws r.2) (WsR.refl ws) fun n k x hx hk h1=>?_
 split
 ·exact WsR.refl ws
 ·exact WsR.set hx (jk7 hk)
theorem jgJ : ∀ (L:List Int) (ws:Ws),WsR ws (ja7 ws L)
 | [],ws=>WsR.refl ws
 | m :: L,ws=>by
  refine WsR.trans ?_ (jgJ L _)
  unfold jcK
  split
  ·exact WsR.refl ws
  ·next x hx=>exact WsR.set hx (jhs (.inl rfl))
theorem noWait_r {ws:Ws} {n:Nat} : WsR ws (noWait ws n):=by
 unfold noWait
 split
 ·exact WsR.refl ws
 ·next x hx=>exact WsR.set hx fun j hj=>by rcases hj with rfl | rfl<;>exact fun h=>h
theorem closeS_r {ws:Ws} {fd:Int} : WsR ws (jbR ws fd).2:=by
 unfold jbR
 exact jbk (P:=fun r:_ × Ws=>WsR ws r.2) (WsR.refl ws) fun n k x hx hk h1=>((WsR.set hx (jhs hk)).trans (jgJ _ _)).trans noWait_r
theorem putS_r {ws:Ws} {n:Int} {b:List UInt8} : WsR ws (putS ws n b).2:=by
 unfold putS
 refine jbm (P:=fun r:_ × Ws=>WsR ws r.2) (WsR.refl ws) fun n x hx h2=>?_
 repeat' split
 all_goals first | exact WsR.refl ws | exact WsR.set hx (jiP (.inr rfl))
theorem takeS_r {ws:Ws} {n many:Int} : WsR ws (jco ws n many).2:=by
 unfold jco
 refine jbm (P:=fun r:_ × Ws=>WsR ws r.2) (WsR.refl ws) fun n x hx h2=>?_
 repeat' split
 all_goals first | exact WsR.refl ws | exact WsR.set hx (jix (.inr rfl))
theorem jiD {ws:Ws} {n:Int} : WsR ws (jaJ ws n).2:=jbm (P:=fun r:_ × Ws=>WsR ws r.2) (WsR.refl ws) fun _ _ hx _=>WsR.set hx (jk7 (.inr rfl))
theorem jhT {ws:Ws} {n:Int} : WsR ws (ja3 ws n).2:=jbm (P:=fun r:_ × Ws=>WsR ws r.2) (WsR.refl ws) fun _ _ hx _=>WsR.set hx (jhs (.inr rfl))
theorem resetS_r {ws:Ws} {n:Int} : WsR ws (jbV ws n).2:=jbm (P:=fun r:_ × Ws=>WsR ws r.2) (WsR.refl ws) fun _ _ hx _=>WsR.set hx reset_rk
theorem makeS_r {ws:Ws} {kind n:Int} : WsR ws (jag ws kind n).2:=by
 unfold jag
 repeat' split
 all_goals first | exact WsR.refl ws | exact WsR.push
theorem acceptS_r {ws:Ws} {fd:Int} : WsR ws (jaw ws fd).2:=by
 unfold jaw
 refine jbk (P:=fun r:_ × Ws=>WsR ws r.2) (WsR.refl ws) fun n k x hx hk h1=>?_
 split
 ·exact WsR.refl ws
 split
 ·exact WsR.refl ws
 split
 ·exact WsR.refl ws
 split
 ·exact WsR.refl ws
 next y hy=>
 refine WsR.trans (WsR.set (y := { x with waiting:=_ }) hx fun j hj=>?_) (WsR.set hy (jkL (.inl rfl) rfl))
 rcases hj with rfl | rfl<;>exact fun h=>h
theorem jkn {ws:Ws} {n many:Int} : WsR ws (jar ws n many).2:=by
 unfold jar
 split
 ·exact WsR.refl ws
 split
 ·exact WsR.refl ws
 next x hx=>
 repeat' split
 all_goals first | exact WsR.refl ws | skip
 refine WsR.trans (WsR.set hx fun j hj=>?_) WsR.push
 rcases hj with rfl | rfl<;>exact fun h=>h
theorem jdO {ws:Ws} {sum no si:Int} (nt:NtOk ws no si):WsR ws (jao ws sum no si):=by
 unfold jao
 split
 ·exact WsR.refl ws
 next h0=>
 split
 ·exact WsR.refl ws
 next x hx=>
 split
 ·exact WsR.refl ws
 rcases nt with h | ⟨n,k,y,h1,h2,h3,h4,h5,h6⟩
 ·omega
 have hk:si.toNat=0\/si.toNat=1:=by omega
 split
 ·exact WsR.set hx (jix hk)
 split
 ·exact WsR.set hx (jiP (jbT hk))
 ·exact WsR.refl ws
theorem jdc {ws:Ws} {sum no si:Int} (K:WsK ws) (nt:NtOk ws no si):WsK (jao ws sum no si):=by
 unfold jao
 split
 ·exact K
 next h0=>
 split
 ·exact K
 next x hx=>
 split
 ·exact K
 next q hq=>
 rcases nt with h | ⟨n,k,y,h1,h2,h3,h4,h5,h6⟩
 ·omega
 have hk:si.toNat=0\/si.toNat=1:=by omega
 split
 ·exact K.take hx hk hq
 split
 ·next e=>
  have e2:1-(1-si.toNat)=si.toNat:=by omega
  have hc:=(K.ok.ok x (List.mem_of_getElem? hx)).cap0
  exact K.fill hx (jbT hk) (q:=[]) (by rw [e2,hq,e]) (by show min 1 x.cap<=x.cap-0;omega)
 ·exact K
theorem jlx {ws:Ws} {a b no si:Int} (nt:NtOk ws no si):NtOk ws (ntNo ws a b no) (ntSi ws a b si):=by
 have key : ∀ n k,(ntS ws a b).2=some (n,k)->(k=0\/k=1) /\ ∃ x,ws[n]?=some x/\x.e0.ring≠none/\x.e1.ring≠none:=by
  unfold ntS
  refine jbk (P:=fun r:Int × Option (Nat × Nat)=>∀ n k,r.2=some (n,k)->(k=0\/k=1) /\ ∃ x,ws[n]?=some x/\x.e0.ring≠none/\x.e1.ring≠none) (fun _ _ h=>by cases h) fun n k x hx hk h1=>?_
  refine jbk (P:=fun r:Int × Option (Nat × Nat)=>∀ n k,r.2=some (n,k)->(k=0\/k=1) /\ ∃ x,ws[n]?=some x/\x.e0.ring≠none/\x.e1.ring≠none) (fun _ _ h=>by cases h) fun m i y hy hi h2=>?_
  intro n' k' h
  split at h
  ·next hc=>
   cases h
   exact ⟨hk,x,hx,hc.2.2.1,hc.2.2.2⟩
  ·cases h
 unfold ntNo ntSi
 cases e:(ntS ws a b).2 with
 | none=>exact nt
 | some p=>
  obtain ⟨n,k⟩:=p
  obtain ⟨hk,x,hx,h1,h2⟩:=key n k e
  exact .inr ⟨n,k,x,rfl,rfl,hk,hx,h1,h2⟩
theorem jlw {ws:Ws} {sum a b:Int} : ∃ no si,NtOk ws no si/\ntW ws sum a b=jao ws sum no si:=by
 have:=jlx (ws:=ws) (a:=a) (b:=b) (no := -1) (si:=0) (.inl rfl)
 unfold ntNo ntSi at this
 unfold ntW
 cases e:(ntS ws a b).2 with
 | none=>exact ⟨-1,0,.inl rfl,rfl⟩
 | some p=>
  obtain ⟨n,k⟩:=p
  rw [e] at this
  exact ⟨n,k,this,rfl⟩
end Am.Sigs
namespace Am.Sigs
open Am Go
def noI:Option (Nat × Nat)->Int
 | none=>-1
 | some p=>p.1
def siI:Option (Nat × Nat)->Int
 | none=>0
 | some p=>p.2
theorem put_clear {x:Wi} {k:Nat} {q:List UInt8} : (x.setq k []).came (1-k) false (decide (0<q.length))=x.take k q.length q:=by
 unfold Wi.take
 rw [List.drop_length]
section
variable {cl:Nat->Call} (hcl:Sem cl) {h:H} {w s:Nat} {ow:Nat->Nat} {ws:Ws} {now:Int} {tb:Tb} {no:Option (Nat × Nat)}
include hcl
theorem jdD {d:Nat} (hd:11<=d) (a:WSt h w s ow ws now tb no) (nt:NtOk ws (noI no) (siI no)) (hok:tb.ok 1000000) :
  ∃ h',cl d (.fn F.jct) [.p w 0] h=some (.tup [],h')/\WSt h' w s ow (jao ws (tb.sum 32) (noI no) (siI no)) now tb no/\To h h' ow ow:=by
 obtain ⟨l,a,rfl⟩:=a
 obtain ⟨sa,c,hw,hsl⟩:=a.wf.head
 have lw:=a.wf.lw
 suffices q : ∃ v h',cl d (.fn F.jct) [.p w 0] h=some (v,h')/\(v = .tup []/\WSt h' w s ow (jao (wxs l) (tb.sum 32) (noI no) (siI no)) now tb no/\To h h' ow ow) by
  obtain ⟨_,h',e,rfl,q⟩:=q;exact ⟨h',e,q⟩
 cases no with
 | none=>
  have q1:(wc (fun i=>atS (wxs l) (i:Int)) (.slice sa l.length c) s now none)[0+291+0]?=some (.bool false):=jlk (j:=0) (by omega) rfl
  have hS:jao (wxs l) (tb.sum 32) (noI none) (siI none)=wxs l:=if_pos (by show (-1:Int)<0;omega)
  rw [hS]
  have same:WSt h w s ow (wxs l) now tb none:=⟨l,a,rfl⟩
  refine at_ hcl (by omega) rfl rfl rfl ?_
  repeat' (first|refine zaa rfl ?_|refine zav rfl ‹_› ‹_› ?_|refine zad (by repeat' constructor) ?_|refine zao rfl ?_|refine zau rfl rfl ?_|apply zab|apply zac|refine zbk rfl rfl ?_|apply zbq|apply zae|apply zbu|refine zcd rfl ?_)
  exact ⟨rfl,same,To.refl _ _⟩
 | some p=>
  obtain ⟨n,k⟩:=p
  obtain ⟨hk,x,hx,hx0,hx1⟩:(k=0\/k=1) /\ ∃ x,(wxs l)[n]?=some x/\x.e0.ring≠none/\x.e1.ring≠none:=by
   rcases nt with e | ⟨n',k',x,e1,e2,hk,hx,p⟩
   ·have e:(n:Int) = -1:=e
    omega
   ·have e1:(n:Int)=n':=e1
    have e2:(k:Int)=k':=e2
    obtain rfl:n=n':=by omega
    obtain rfl:k=k':=by omega
    exact ⟨hk,x,hx,p⟩
  obtain ⟨t,ht,rfl⟩:=jho hx
  obtain ⟨q,hq⟩ : ∃ q,(t.x.e k).ring=some q:=by
   rcases hk with rfl | rfl
   ·exact Option.ne_none_iff_exists'.1 hx0
   ·exact Option.ne_none_iff_exists'.1 hx1
  have hS:jao (wxs l) (tb.sum 32) (noI (some (n,k))) (siI (some (n,k)))=if tb.sum 32=0 then (wxs l).set n (t.x.take k q.length q) else if q=[] then (wxs l).set n (t.x.fill (1-k) (min 1 t.x.cap) [] [1]) else wxs l:=by
   unfold jao
   show (if (n:Int)<0 then _ else _)=_
   rw [if_neg (by omega)]
   show (match (wxs l)[(n:Int).toNat]? with | none=>_ | some x=>match (x.e (k:Int).toNat).ring with | none=>_ | some q=>_)=_
   rw [Int.toNat_natCast,hx]
   simp only [Int.toNat_natCast,hq]
   rfl
  rw [hS]
  have q0:(wc (fun i=>atS (wxs l) (i:Int)) (.slice sa l.length c) s now (some (n,k)))[0+291+0]?=some (.bool true):=jlk (j:=0) (by omega) rfl
  have q1:(wc (fun i=>atS (wxs l) (i:Int)) (.slice sa l.length c) s now (some (n,k)))[0+291+1]?=some (.i (n:Int)):=jlk (j:=1) (by omega) rfl
  have q2:(wc (fun i=>atS (wxs l) (i:Int)) (.slice sa l.length c) s now (some (n,k)))[0+291+2]?=some (.i (k:Int)):=jlk (j:=2) (by omega) rfl
  have q3:(wc (fun i=>atS (wxs l) (i:Int)) (.slice sa l.length c) s now (some (n,k)))[0+288]?=some (.slice sa l.length c):=jaZ rfl
  have q4:(wc (fun i=>atS (wxs l) (i:Int)) (.slice sa l.length c) s now (some (n,k)))[0+289]?=some (.p s 0):=jeJ rfl
  have hlt:=x_lt ht
  obtain ⟨z,rfl,z1,z2,z3⟩:=hsl (by rintro rfl;simp at hlt)
  have w2:(wps l)[0+(n:Int).toNat*1]?=some (.p t.wb 0):=by rw [show 0+(n:Int).toNat*1=n by omega];exact jcV ht
  have X0:=a.wf.ok n t ht
  have hx0:=X0.hx
  unfold Wi.obj at hx0
  have q5:=Wi.ring_cell (x:=t.x) (r0:=t.r0) (r1:=t.r1) (wv:=t.wv) hk hq (o:=0+0+(k:Int).toNat*7+2) (by omega)
  obtain ⟨h1,e1,c1⟩:=jjD hcl (d:=d-1) (h0:=h) (by omega) a.wf.hs a.wf.ls hok
  have o1:=Old.ofCh c1
  have a1:=a.old o1
  have X:=a1.wf.ok n t ht
  obtain ⟨p1,p2,p3,p4,p5,p6⟩:=X.apart hk hq
  by_cases hsum:tb.sum 32=0
  ·rw [if_pos hsum]
   obtain ⟨h2,e2,R2,c2⟩:=jjl hcl (d:=d-1) (by omega) p1 p2 p3 p4
   have W1:=a1.wf.clear ht hk hq c2 R2
   have ht1:(l.set n { t with x:=t.x.setq k [] })[n]?=some { t with x:=t.x.setq k [] } := by rw [List.getElem?_set,if_pos rfl,if_pos (x_lt ht)]
   have X1:=W1.ok n _ ht1
   obtain ⟨h3,e3,u3⟩:=jeD hcl (d:=d-1) (k:=1-k) (by omega) X1.hx (by omega) false (decide (0<q.length))
   have W2:=W1.upd ht1 u3 (by rcases hk with rfl | rfl<;>rfl) (by rcases hk with rfl | rfl<;>rfl) (fun i hi=>by rcases hk with rfl | rfl<;>rcases hi with rfl | rfl<;>rfl)
   rw [List.set_set] at W2
   have W2:WF h3 w s ow (fun i=>atS (wxs l) (i:Int)) (l.set n { t with x:=t.x.take k q.length q }) now tb (some (n,k)):=by
    rw [<- put_clear];exact W2
   have W3:=WF.same W2 a.fds (jak ht) (Wi.take_same hk)
   have T:To h h3 ow ow:=by
    refine To.old o1 (To.trans ⟨c2.weaken fun j hj hb=>?_,fun _ _=>rfl⟩ (X1.toU u3))
    obtain ⟨_,o2,_⟩:=X.ring k hk q hq
    have hb:j=t.r k:=hb
    subst hb;omega
   have fin:WSt h3 w s ow ((wxs l).set n (t.x.take k q.length q)) now tb (some (n,k)):=⟨_,W3,jbb⟩
   have ek:(1:Int)-(k:Int)=((1-k:Nat):Int):=by omega
   have eb:decide ((q.length:Int)>0)=decide (0<q.length):=by simp
   rw [<- ek,<- eb] at e3
   refine at_ hcl (by omega) rfl rfl rfl ?_
   clear hok nt
   repeat' (first|refine zaa rfl ?_|refine zav rfl ‹_› ‹_› ?_|refine zaw rfl ‹_› ?_|refine zad (by repeat' constructor) ?_|refine zag rfl rfl ?_|refine zaj rfl rfl ?_|refine zam rfl rfl ⟨by omega,by omega⟩ ?_|refine zao rfl ?_|refine zau rfl rfl ?_|refine zax rfl rfl (by omega) ?_|refine zay rfl rfl (by omega) ?_|apply zab|apply zac|refine zbi rfl ‹_› ?_|refine zbl rfl rfl ?_|apply zbo|apply zbp|apply zae|apply zbw|refine zce rfl ?_)
   exact ⟨rfl,fin,T⟩
  rw [if_neg hsum]
  have hlen : ∃ buf frm inn out,RingC h1 (t.r k) (t.b k) buf frm q.length t.x.cap inn out:=by
   obtain ⟨buf,frm,inn,out,C,_⟩:=p1;exact ⟨buf,frm,inn,out,C⟩
  obtain ⟨buf,frm,inn,out,C⟩:=hlen
  have e2:=jjk hcl (d:=d-1) (by omega) C
  by_cases hqn:q=[]
  ·rw [if_pos hqn]
   subst hqn
   have ek:(1:Int)-(k:Int)=((1-k:Nat):Int):=by omega
   have ekk:1-(1-k)=k:=by omega
   have oG:Old h1 (h1.new (.cells [.int .u8 1] false)):=(Old.refl h1).new
   have hB:BytesAt (h1.new (.cells [.int .u8 1] false)) (some (h1.nx,0)) (.fix 1) [1] :=
    ⟨fun e=>by (cases e),Nat.le_refl _,fun _=>⟨h1.nx,0,_,false,rfl,by simp,jad _,fun i x hi=>by
     match i,hi with
     | 0,hi=>cases hi;rfl
     | i+1,hi=>simp at hi⟩⟩
   have aG:=a1.old oG
   have XG:=aG.wf.ok n t ht
   have hqG:(t.x.e (1-(1-k))).ring=some []:=by rw [ekk];exact hq
   obtain ⟨g1,g2,g3,g4,g5,g6⟩:=XG.apart (k:=1-(1-k)) (by omega) hqG
   obtain ⟨h3,e3,r1,r2,r3⟩:=jky hcl (d:=d-1) (k:=1-k) (by omega) XG.hx (by omega) hqG g1 XG.lx g2 g3 g4 g5 g6 hB (by simp) (fun z o e _=>by
    cases e
    rw [ekk]
    have:t.b k<h1.nx:=p3
    have:t.r k<h1.nx:=p2
    exact ⟨by omega,by show h1.nx≠t.r k;omega⟩)
   have hm1:min ([1]:List UInt8).length (t.x.cap-([]:List UInt8).length)=min 1 t.x.cap:=by simp
   rw [hm1] at r1 r2
   have W:=aG.wf.fill (k:=1-k) ht (by omega) hqG r3 r1 r2
   have W2:=WF.same W a.fds (jak ht) (Wi.fill_same (by omega))
   have T:To h h3 ow ow:=To.old (o1.trans oG) (XG.to (k:=1-(1-k)) (by omega) hqG r3)
   have fin:WSt h3 w s ow ((wxs l).set n (t.x.fill (1-k) (min 1 t.x.cap) [] [1])) now tb (some (n,k)):=⟨_,W2,jbb⟩
   rw [<- ek] at e3
   refine at_ hcl (by omega) rfl rfl rfl ?_
   clear hok nt
   repeat' (first|refine zaa rfl ?_|refine zav rfl ‹_› ‹_› ?_|refine zaw rfl ‹_› ?_|refine zad (by repeat' constructor) ?_|refine zag rfl rfl ?_|refine zam rfl rfl ⟨by omega,by omega⟩ ?_|refine zao rfl ?_|refine zau rfl rfl ?_|refine zax rfl rfl (by omega) ?_|refine zay rfl rfl (by omega) ?_|apply zab|apply zac|refine zbj rfl ‹_› ?_|refine zbk rfl rfl ?_|refine zbl rfl rfl ?_|apply zbo|apply zbp|apply zae)
   refine Ops.make (ob := .cells [.int .u8 1] false) (mk:=fun b=>.slice (some (b,0)) 1 (.fix 1)) rfl rfl ?_
   repeat' (first|refine zaw rfl ‹_› ?_|refine zad (by repeat' constructor) ?_|apply zbw|refine zce rfl ?_)
   exact ⟨rfl,fin,T⟩
  ·rw [if_neg hqn]
   have hpos : ¬ (q.length:Int)=0:=by have:=List.length_pos_iff.2 hqn;omega
   have fin:WSt h1 w s ow (wxs l) now tb (some (n,k)):=⟨l,a1,rfl⟩
   have T:To h h1 ow ow:=To.of_old o1
   refine at_ hcl (by omega) rfl rfl rfl ?_
   clear hok nt
   repeat' (first|refine zaa rfl ?_|refine zav rfl ‹_› ‹_› ?_|refine zaw rfl ‹_› ?_|refine zad (by repeat' constructor) ?_|refine zag rfl rfl ?_|refine zao rfl ?_|refine zau rfl rfl ?_|refine zax rfl rfl (by omega) ?_|refine zay rfl rfl (by omega) ?_|apply zab|apply zac|refine zbj rfl ‹_› ?_|refine zbl rfl rfl ?_|apply zbo|apply zbp|apply zae|apply zbw|refine zce rfl ?_)
   exact ⟨rfl,fin,T⟩
end
end Am.Sigs
