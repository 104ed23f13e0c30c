/- Our own library, part 15: an abstract machine, sound for the model, and what the functions do over it. No condition. -/
import Derived.Test.YtkcenemffnfoeaaGreatK14
set_option maxHeartbeats 8000000
namespace Am.Sigs
open Am Go
def Wi.rIn (x:Wi) (k:Nat):Bool:=match (x.e k).ring with
 | none=>false
 | some q=>!q.isEmpty||(x.e (1-k)).what == 3||(x.e (1-k)).shut||x.reset
def Wi.rOut (x:Wi) (k:Nat):Bool:=(x.e k).writes && !(x.e k).shut&&(decide ((((x.e (1-k)).ring.getD []).length:Int)<x.cap)||(x.e (1-k)).what == 3||x.reset)
def Wi.ready (x:Wi) (k:Nat):List V :=
 if 0<x.backlog then [.bool true,.bool (!x.waiting.isEmpty),.bool false,.bool false,.bool false,.int .u64 (x.e k).inn,.int .u64 (x.e k).out]
 else [.bool true,.bool (x.rIn k),.bool (x.rOut k),.bool ((x.e (1-k)).what == 3),.bool x.reset,.int .u64 (x.e k).inn,.int .u64 (x.e k).out]
def jiG:List V:=[.bool false,.bool false,.bool false,.bool false,.bool false,.int .u64 0,.int .u64 0]
noncomputable def jdX (ws:Ws) (fd:Int):List V:=jcg ws fd jiG fun _ k x=>x.ready k
theorem jhD : ∀ {l:List RX} {n o:Nat} {r:RX},l[n]?=some r->o=n*20->((rows l).drop o).take 20=r.cells
 | [],_,_,_,h,_=>by simp at h
 | a :: l,0,o,r,h,ho=>by
  simp at h;subst h;subst ho
  rw [jcP,Nat.zero_mul,List.drop_zero,List.take_append_of_le_length (by rw [RX.len];omega),List.take_of_length_le (by rw [RX.len];omega)]
 | a :: l,n+1,o,r,h,ho=>by
  subst ho
  rw [jcP,show (n+1)*20=a.cells.length+n*20 by rw [RX.len];omega,<- List.drop_drop,List.drop_left]
  exact jhD (by simpa using h) rfl
theorem jbh {call:Call} {fuel s n b:Nat} {e:Env} {h:H} {R:V->H->Prop} {l:List V} (hs:e.get s=some (.ptr (some (b,0)))) (hl:h.get b=some (.cells l false)) (hn:l.length=n) (k:R (.agg l) h) :
  End call fuel [] .ret e h (Fin [.cellN s n] R):=by
 refine End.fin1 (resN hs hl (by omega) rfl) ?_
 rw [List.drop_zero,List.take_of_length_le (by omega)];exact k
section
variable {cl:Nat->Call} (hcl:Sem cl)
include hcl
abbrev jdq:Obj := .cells [.bool false,.bool false,.bool false,.bool false,.bool false,.int .u64 0,.int .u64 0] false
theorem rd_out {d b4 b7 b8 k n0 n1:Nat} {g:H} {x:Wi} {a0 a1:Option (Nat × Nat)} {c0 c1:Cap} {vw:V} {i:Bool} (hk:k=0\/k=1) (g7:g.get b7=some (.cells (RX.cells ⟨x,.slice a0 n0 c0,.slice a1 n1 c1,vw⟩) false))
  (g8:g.get b8=some (.cells [.bool true,.bool i,.bool false,.bool ((x.e (1-k)).what == 3),.bool x.reset,.int .u64 (x.e k).inn,.int .u64 (x.e k).out] false)) (g4:g.get b4=some jdq) (h48:b4≠b8) (_h47:b4≠b7) (_h78:b7≠b8)
  (hn0:n0=(x.e0.ring.getD []).length) (hn1:n1=(x.e1.ring.getD []).length) :
  Run (cl (d-1)) fuel c67_0 [] [(4,.p b4 0),(6,.i (k:Int)),(7,.p b7 0),(8,.p b8 0),(9,.bool ((x.e (1-k)).what == 3))] g
   (Fin c67.res fun v' h'=>v' = .agg [.bool true,.bool i,.bool (x.rOut k),.bool ((x.e (1-k)).what == 3),.bool x.reset,.int .u64 (x.e k).inn,.int .u64 (x.e k).out]/\Ch (fun j=>j=b4\/j=b8) g h'):=by
 have _:=hcl
 obtain ⟨⟨w0,f0,q0,wr0,s0,i0,o0⟩,⟨w1,f1,q1,wr1,s1,i1,o1⟩,cap,rs,bl,wt⟩:=x
 simp only [RX.cells,En.rcells,List.cons_append,List.nil_append] at g7
 simp only at hn0 hn1
 subst hn0 hn1
 rcases hk with rfl | rfl
 ·simp only [Wi.e,Nat.sub_zero] at g8 ⊢
  simp only [Wi.rOut,Wi.e,Nat.sub_zero]
  generalize (w1 == 3)=gone at g8 ⊢
  cases wr0
  case false=>
   repeat' (first|refine zaa rfl ?_|refine zav rfl (by repeat first|assumption|exact jaa _|refine zzn (by omega) ?_) rfl ?_|refine zcs rfl rfl rfl (by repeat first|assumption|exact jaa _|refine zzn (by omega) ?_) (Nat.le_of_ble_eq_true rfl) ?_|refine zct rfl rfl rfl rfl (by repeat first|assumption|exact jaa _|refine zzn ‹_› ?_) (Nat.le_of_ble_eq_true rfl) ?_|refine zcw rfl (by repeat first|assumption|exact jaa _|refine zzn (by omega) ?_) (Nat.le_of_ble_eq_true rfl) ?_|refine zad (by repeat' constructor) ?_|refine zcv rfl ?_|refine zbe rfl rfl ?_|refine zat rfl rfl rfl ?_|refine zau rfl rfl ?_|apply zab|apply zac|apply zbq|apply zae)
   exact jbh rfl (jaa _) rfl ⟨rfl,(Ch.set (.inr rfl)).trans (Ch.set (.inl rfl))⟩
  cases s0
  case true=>
   repeat' (first|refine zaa rfl ?_|refine zav rfl (by repeat first|assumption|exact jaa _|refine zzn (by omega) ?_) rfl ?_|refine zcs rfl rfl rfl (by repeat first|assumption|exact jaa _|refine zzn (by omega) ?_) (Nat.le_of_ble_eq_true rfl) ?_|refine zct rfl rfl rfl rfl (by repeat first|assumption|exact jaa _|refine zzn ‹_› ?_) (Nat.le_of_ble_eq_true rfl) ?_|refine zcw rfl (by repeat first|assumption|exact jaa _|refine zzn (by omega) ?_) (Nat.le_of_ble_eq_true rfl) ?_|refine zad (by repeat' constructor) ?_|refine zcv rfl ?_|refine zbd rfl rfl ?_|refine zbe rfl rfl ?_|refine zas rfl rfl rfl ?_|refine zat rfl rfl rfl ?_|refine zao rfl ?_|refine zau rfl rfl ?_|apply zab|apply zac|apply zbq|apply zae)
   exact jbh rfl (jaa _) rfl ⟨rfl,(Ch.set (.inr rfl)).trans (Ch.set (.inl rfl))⟩
  by_cases hlt:(((q1.getD []).length:Int)<cap)
  ·repeat' (first|refine zaa rfl ?_|refine zav rfl (by repeat first|assumption|exact jaa _|refine zzn (by omega) ?_) rfl ?_|refine zcs rfl rfl rfl (by repeat first|assumption|exact jaa _|refine zzn (by omega) ?_) (Nat.le_of_ble_eq_true rfl) ?_|refine zct rfl rfl rfl rfl (by repeat first|assumption|exact jaa _|refine zzn ‹_› ?_) (Nat.le_of_ble_eq_true rfl) ?_|refine zcw rfl (by repeat first|assumption|exact jaa _|refine zzn (by omega) ?_) (Nat.le_of_ble_eq_true rfl) ?_|refine zad (by repeat' constructor) ?_|refine zbc rfl ‹_› ?_|refine zbd rfl rfl ?_|refine zbe rfl rfl ?_|refine zaf rfl rfl ?_|refine zam rfl rfl ⟨by omega,by omega⟩ ?_|refine zaq rfl ‹_› rfl ?_|refine zas rfl rfl rfl ?_|refine zao rfl ?_|refine zau rfl rfl ?_|apply zab|apply zac|apply zbq|apply zae)
   exact jbh rfl (jaa _) rfl ⟨by simp [jas,hlt],(Ch.set (.inr rfl)).trans (Ch.set (.inl rfl))⟩
  cases gone
  case true=>
   repeat' (first|refine zaa rfl ?_|refine zav rfl (by repeat first|assumption|exact jaa _|refine zzn (by omega) ?_) rfl ?_|refine zcs rfl rfl rfl (by repeat first|assumption|exact jaa _|refine zzn (by omega) ?_) (Nat.le_of_ble_eq_true rfl) ?_|refine zct rfl rfl rfl rfl (by repeat first|assumption|exact jaa _|refine zzn ‹_› ?_) (Nat.le_of_ble_eq_true rfl) ?_|refine zcw rfl (by repeat first|assumption|exact jaa _|refine zzn (by omega) ?_) (Nat.le_of_ble_eq_true rfl) ?_|refine zad (by repeat' constructor) ?_|refine zbb rfl ‹_› ?_|refine zbd rfl rfl ?_|refine zbe rfl rfl ?_|refine zaf rfl rfl ?_|refine zam rfl rfl ⟨by omega,by omega⟩ ?_|refine zar rfl ‹_› rfl ?_|refine zas rfl rfl rfl ?_|refine zao rfl ?_|refine zau rfl rfl ?_|apply zab|apply zac|apply zbq|apply zae)
   exact jbh rfl (jaa _) rfl ⟨by simp [jas],(Ch.set (.inr rfl)).trans (Ch.set (.inl rfl))⟩
  cases rs
  ·repeat' (first|refine zaa rfl ?_|refine zav rfl (by repeat first|assumption|exact jaa _|refine zzn (by omega) ?_) rfl ?_|refine zcs rfl rfl rfl (by repeat first|assumption|exact jaa _|refine zzn (by omega) ?_) (Nat.le_of_ble_eq_true rfl) ?_|refine zct rfl rfl rfl rfl (by repeat first|assumption|exact jaa _|refine zzn ‹_› ?_) (Nat.le_of_ble_eq_true rfl) ?_|refine zcw rfl (by repeat first|assumption|exact jaa _|refine zzn (by omega) ?_) (Nat.le_of_ble_eq_true rfl) ?_|refine zad (by repeat' constructor) ?_|refine zbb rfl ‹_› ?_|refine zbd rfl rfl ?_|refine zaf rfl rfl ?_|refine zam rfl rfl ⟨by omega,by omega⟩ ?_|refine zar rfl ‹_› rfl ?_|refine zas rfl rfl rfl ?_|refine zat rfl rfl rfl ?_|refine zao rfl ?_|refine zau rfl rfl ?_|apply zab|apply zac|apply zbq|apply zae)
   exact jbh rfl (jaa _) rfl ⟨by simp [jas,hlt],(Ch.set (.inr rfl)).trans (Ch.set (.inl rfl))⟩
  ·repeat' (first|refine zaa rfl ?_|refine zav rfl (by repeat first|assumption|exact jaa _|refine zzn (by omega) ?_) rfl ?_|refine zcs rfl rfl rfl (by repeat first|assumption|exact jaa _|refine zzn (by omega) ?_) (Nat.le_of_ble_eq_true rfl) ?_|refine zct rfl rfl rfl rfl (by repeat first|assumption|exact jaa _|refine zzn ‹_› ?_) (Nat.le_of_ble_eq_true rfl) ?_|refine zcw rfl (by repeat first|assumption|exact jaa _|refine zzn (by omega) ?_) (Nat.le_of_ble_eq_true rfl) ?_|refine zad (by repeat' constructor) ?_|refine zbb rfl ‹_› ?_|refine zbd rfl rfl ?_|refine zaf rfl rfl ?_|refine zam rfl rfl ⟨by omega,by omega⟩ ?_|refine zar rfl ‹_› rfl ?_|refine zas rfl rfl rfl ?_|refine zat rfl rfl rfl ?_|refine zao rfl ?_|refine zau rfl rfl ?_|apply zab|apply zac|apply zbq|apply zae)
   exact jbh rfl (jaa _) rfl ⟨by simp [jas],(Ch.set (.inr rfl)).trans (Ch.set (.inl rfl))⟩
 ·simp only [Wi.e,Nat.sub_self] at g8 ⊢
  simp only [Wi.rOut,Wi.e,Nat.sub_self]
  generalize (w0 == 3)=gone at g8 ⊢
  cases wr1
  case false=>
   repeat' (first|refine zaa rfl ?_|refine zav rfl (by repeat first|assumption|exact jaa _|refine zzn (by omega) ?_) rfl ?_|refine zcs rfl rfl rfl (by repeat first|assumption|exact jaa _|refine zzn (by omega) ?_) (Nat.le_of_ble_eq_true rfl) ?_|refine zct rfl rfl rfl rfl (by repeat first|assumption|exact jaa _|refine zzn ‹_› ?_) (Nat.le_of_ble_eq_true rfl) ?_|refine zcw rfl (by repeat first|assumption|exact jaa _|refine zzn (by omega) ?_) (Nat.le_of_ble_eq_true rfl) ?_|refine zad (by repeat' constructor) ?_|refine zcv rfl ?_|refine zbe rfl rfl ?_|refine zat rfl rfl rfl ?_|refine zau rfl rfl ?_|apply zab|apply zac|apply zbq|apply zae)
   exact jbh rfl (jaa _) rfl ⟨rfl,(Ch.set (.inr rfl)).trans (Ch.set (.inl rfl))⟩
  cases s1
  case true=>
   repeat' (first|refine zaa rfl ?_|refine zav rfl (by repeat first|assumption|exact jaa _|refine zzn (by omega) ?_) rfl ?_|refine zcs rfl rfl rfl (by repeat first|assumption|exact jaa _|refine zzn (by omega) ?_) (Nat.le_of_ble_eq_true rfl) ?_|refine zct rfl rfl rfl rfl (by repeat first|assumption|exact jaa _|refine zzn ‹_› ?_) (Nat.le_of_ble_eq_true rfl) ?_|refine zcw rfl (by repeat first|assumption|exact jaa _|refine zzn (by omega) ?_) (Nat.le_of_ble_eq_true rfl) ?_|refine zad (by repeat' constructor) ?_|refine zcv rfl ?_|refine zbd rfl rfl ?_|refine zbe rfl rfl ?_|refine zas rfl rfl rfl ?_|refine zat rfl rfl rfl ?_|refine zao rfl ?_|refine zau rfl rfl ?_|apply zab|apply zac|apply zbq|apply zae)
   exact jbh rfl (jaa _) rfl ⟨rfl,(Ch.set (.inr rfl)).trans (Ch.set (.inl rfl))⟩
  by_cases hlt:(((q0.getD []).length:Int)<cap)
  ·repeat' (first|refine zaa rfl ?_|refine zav rfl (by repeat first|assumption|exact jaa _|refine zzn (by omega) ?_) rfl ?_|refine zcs rfl rfl rfl (by repeat first|assumption|exact jaa _|refine zzn (by omega) ?_) (Nat.le_of_ble_eq_true rfl) ?_|refine zct rfl rfl rfl rfl (by repeat first|assumption|exact jaa _|refine zzn ‹_› ?_) (Nat.le_of_ble_eq_true rfl) ?_|refine zcw rfl (by repeat first|assumption|exact jaa _|refine zzn (by omega) ?_) (Nat.le_of_ble_eq_true rfl) ?_|refine zad (by repeat' constructor) ?_|refine zbc rfl ‹_› ?_|refine zbd rfl rfl ?_|refine zbe rfl rfl ?_|refine zaf rfl rfl ?_|refine zam rfl rfl ⟨by omega,by omega⟩ ?_|refine zaq rfl ‹_› rfl ?_|refine zas rfl rfl rfl ?_|refine zao rfl ?_|refine zau rfl rfl ?_|apply zab|apply zac|apply zbq|apply zae)
   exact jbh rfl (jaa _) rfl ⟨by simp [jas,hlt],(Ch.set (.inr rfl)).trans (Ch.set (.inl rfl))⟩
  cases gone
  case true=>
   repeat' (first|refine zaa rfl ?_|refine zav rfl (by repeat first|assumption|exact jaa _|refine zzn (by omega) ?_) rfl ?_|refine zcs rfl rfl rfl (by repeat first|assumption|exact jaa _|refine zzn (by omega) ?_) (Nat.le_of_ble_eq_true rfl) ?_|refine zct rfl rfl rfl rfl (by repeat first|assumption|exact jaa _|refine zzn ‹_› ?_) (Nat.le_of_ble_eq_true rfl) ?_|refine zcw rfl (by repeat first|assumption|exact jaa _|refine zzn (by omega) ?_) (Nat.le_of_ble_eq_true rfl) ?_|refine zad (by repeat' constructor) ?_|refine zbb rfl ‹_› ?_|refine zbd rfl rfl ?_|refine zbe rfl rfl ?_|refine zaf rfl rfl ?_|refine zam rfl rfl ⟨by omega,by omega⟩ ?_|refine zar rfl ‹_› rfl ?_|refine zas rfl rfl rfl ?_|refine zao rfl ?_|refine zau rfl rfl ?_|apply zab|apply zac|apply zbq|apply zae)
   exact jbh rfl (jaa _) rfl ⟨by simp [jas],(Ch.set (.inr rfl)).trans (Ch.set (.inl rfl))⟩
  cases rs
  ·repeat' (first|refine zaa rfl ?_|refine zav rfl (by repeat first|assumption|exact jaa _|refine zzn (by omega) ?_) rfl ?_|refine zcs rfl rfl rfl (by repeat first|assumption|exact jaa _|refine zzn (by omega) ?_) (Nat.le_of_ble_eq_true rfl) ?_|refine zct rfl rfl rfl rfl (by repeat first|assumption|exact jaa _|refine zzn ‹_› ?_) (Nat.le_of_ble_eq_true rfl) ?_|refine zcw rfl (by repeat first|assumption|exact jaa _|refine zzn (by omega) ?_) (Nat.le_of_ble_eq_true rfl) ?_|refine zad (by repeat' constructor) ?_|refine zbb rfl ‹_› ?_|refine zbd rfl rfl ?_|refine zaf rfl rfl ?_|refine zam rfl rfl ⟨by omega,by omega⟩ ?_|refine zar rfl ‹_› rfl ?_|refine zas rfl rfl rfl ?_|refine zat rfl rfl rfl ?_|refine zao rfl ?_|refine zau rfl rfl ?_|apply zab|apply zac|apply zbq|apply zae)
   exact jbh rfl (jaa _) rfl ⟨by simp [jas,hlt],(Ch.set (.inr rfl)).trans (Ch.set (.inl rfl))⟩
  ·repeat' (first|refine zaa rfl ?_|refine zav rfl (by repeat first|assumption|exact jaa _|refine zzn (by omega) ?_) rfl ?_|refine zcs rfl rfl rfl (by repeat first|assumption|exact jaa _|refine zzn (by omega) ?_) (Nat.le_of_ble_eq_true rfl) ?_|refine zct rfl rfl rfl rfl (by repeat first|assumption|exact jaa _|refine zzn ‹_› ?_) (Nat.le_of_ble_eq_true rfl) ?_|refine zcw rfl (by repeat first|assumption|exact jaa _|refine zzn (by omega) ?_) (Nat.le_of_ble_eq_true rfl) ?_|refine zad (by repeat' constructor) ?_|refine zbb rfl ‹_› ?_|refine zbd rfl rfl ?_|refine zaf rfl rfl ?_|refine zam rfl rfl ⟨by omega,by omega⟩ ?_|refine zar rfl ‹_› rfl ?_|refine zas rfl rfl rfl ?_|refine zat rfl rfl rfl ?_|refine zao rfl ?_|refine zau rfl rfl ?_|apply zab|apply zac|apply zbq|apply zae)
   exact jbh rfl (jaa _) rfl ⟨by simp [jas],(Ch.set (.inr rfl)).trans (Ch.set (.inl rfl))⟩
end
end Am.Sigs
namespace Am.Sigs
open Am Go
section
variable {cl:Nat->Call} (hcl:Sem cl)
include hcl
theorem rd_in {d b4 b7 b8 k n0 n1:Nat} {g:H} {x:Wi} {a0 a1:Option (Nat × Nat)} {c0 c1:Cap} {vw:V} (hk:k=0\/k=1) (g7:g.get b7=some (.cells (RX.cells ⟨x,.slice a0 n0 c0,.slice a1 n1 c1,vw⟩) false))
  (g8:g.get b8=some (.cells [.bool true,.bool false,.bool false,.bool ((x.e (1-k)).what == 3),.bool x.reset,.int .u64 (x.e k).inn,.int .u64 (x.e k).out] false)) (g4:g.get b4=some jdq) (h48:b4≠b8) (h47:b4≠b7) (h78:b7≠b8)
  (hn0:n0=(x.e0.ring.getD []).length) (hn1:n1=(x.e1.ring.getD []).length) :
  Run (cl (d-1)) fuel c67_1 [] [(4,.p b4 0),(6,.i (k:Int)),(7,.p b7 0),(8,.p b8 0),(9,.bool ((x.e (1-k)).what == 3))] g
   (Fin c67.res fun v' h'=>v' = .agg [.bool true,.bool (x.rIn k),.bool (x.rOut k),.bool ((x.e (1-k)).what == 3),.bool x.reset,.int .u64 (x.e k).inn,.int .u64 (x.e k).out]/\Ch (fun j=>j=b4\/j=b8) g h'):=by
 refine Run.seq (Run.cut (fun y e' g'=>y = .normal/\e'=[(4,.p b4 0),(6,.i (k:Int)),(7,.p b7 0),(8,.p b8 0),(9,.bool ((x.e (1-k)).what == 3))] /\
  Upd b8 (.cells [.bool true,.bool (x.rIn k),.bool false,.bool ((x.e (1-k)).what == 3),.bool x.reset,.int .u64 (x.e k).inn,.int .u64 (x.e k).out] false) g g') ?_ ?_)
 case refine_2=>
  rintro _ _ g' ⟨rfl,rfl,u⟩
  refine End.seq ?_
  have:=rd_out hcl (d:=d) hk (by rw [u.get _ h78,g7]) u.self (by rw [u.get _ h48,g4]) h48 h47 h78 hn0 hn1
  obtain ⟨x',e',h',hd',x2,e2,h2,ha,⟨⟨p1,l,p2,p3,p4⟩⟩⟩:=this
  exact ⟨x',e',h',hd',x2,e2,h2,ha,⟨⟨p1,l,p2,p3,(u.ch (.inr rfl)).trans p4⟩⟩⟩
 obtain ⟨⟨w0,f0,q0,wr0,s0,i0,o0⟩,⟨w1,f1,q1,wr1,s1,i1,o1⟩,cap,rs,bl,wt⟩:=x
 simp only [RX.cells,En.rcells,List.cons_append,List.nil_append] at g7
 simp only at hn0 hn1
 subst hn0 hn1
 rcases hk with rfl | rfl
 ·simp only [Wi.e,Nat.sub_zero] at g8 ⊢
  simp only [Wi.rIn,Wi.e,Nat.sub_zero]
  generalize (w1 == 3)=gone at g8 ⊢
  cases q0 with
  | none=>
   repeat' (first|refine zaa rfl ?_|refine zav rfl ‹_› rfl ?_|refine zcs rfl rfl rfl ‹_› (Nat.le_of_ble_eq_true rfl) ?_|refine zad (by repeat' constructor) ?_|refine zcv rfl ?_|refine zbe rfl rfl ?_|refine zat rfl rfl rfl ?_|refine zau rfl rfl ?_|apply zac)
   exact End.nil ⟨rfl,rfl,Upd.set⟩
  | some b=>
   simp only [Option.getD_some] at g7
   cases b with
   | cons y b=>
    have hpos:0<(((y :: b:List UInt8).length:Nat):Int):=by simp
    repeat' (first|refine zaa rfl ?_|refine zav rfl ‹_› rfl ?_|refine zcs rfl rfl rfl ‹_› (Nat.le_of_ble_eq_true rfl) ?_|refine zad (by repeat' constructor) ?_|refine zbc rfl ‹_› ?_|refine zbd rfl rfl ?_|refine zbe rfl rfl ?_|refine zaj rfl rfl ?_|refine zaq rfl ‹_› rfl ?_|refine zas rfl rfl rfl ?_|refine zau rfl rfl ?_|apply zac)
    exact End.nil ⟨rfl,rfl,Upd.set⟩
   | nil=>
    simp only [List.isEmpty_nil,Bool.not_true,Bool.false_or]
    have hz : ¬ 0<((([]:List UInt8).length:Nat):Int):=by simp
    cases gone
    case true=>
     repeat' (first|refine zaa rfl ?_|refine zav rfl ‹_› rfl ?_|refine zcs rfl rfl rfl ‹_› (Nat.le_of_ble_eq_true rfl) ?_|refine zad (by repeat' constructor) ?_|refine zbb rfl ‹_› ?_|refine zbd rfl rfl ?_|refine zbe rfl rfl ?_|refine zaj rfl rfl ?_|refine zar rfl ‹_› rfl ?_|refine zas rfl rfl rfl ?_|refine zau rfl rfl ?_|apply zac)
     exact End.nil ⟨rfl,rfl,Upd.set⟩
    cases s1
    case true=>
     repeat' (first|refine zaa rfl ?_|refine zav rfl ‹_› rfl ?_|refine zcs rfl rfl rfl ‹_› (Nat.le_of_ble_eq_true rfl) ?_|refine zad (by repeat' constructor) ?_|refine zbb rfl ‹_› ?_|refine zbd rfl rfl ?_|refine zbe rfl rfl ?_|refine zaj rfl rfl ?_|refine zam rfl rfl ⟨by omega,by omega⟩ ?_|refine zar rfl ‹_› rfl ?_|refine zas rfl rfl rfl ?_|refine zau rfl rfl ?_|apply zac)
     exact End.nil ⟨rfl,rfl,Upd.set⟩
    cases rs
    ·repeat' (first|refine zaa rfl ?_|refine zav rfl ‹_› rfl ?_|refine zcs rfl rfl rfl ‹_› (Nat.le_of_ble_eq_true rfl) ?_|refine zad (by repeat' constructor) ?_|refine zbb rfl ‹_› ?_|refine zbd rfl rfl ?_|refine zaj rfl rfl ?_|refine zam rfl rfl ⟨by omega,by omega⟩ ?_|refine zar rfl ‹_› rfl ?_|refine zas rfl rfl rfl ?_|refine zau rfl rfl ?_|apply zac)
     exact End.nil ⟨rfl,rfl,Upd.set⟩
    ·repeat' (first|refine zaa rfl ?_|refine zav rfl ‹_› rfl ?_|refine zcs rfl rfl rfl ‹_› (Nat.le_of_ble_eq_true rfl) ?_|refine zad (by repeat' constructor) ?_|refine zbb rfl ‹_› ?_|refine zbd rfl rfl ?_|refine zaj rfl rfl ?_|refine zam rfl rfl ⟨by omega,by omega⟩ ?_|refine zar rfl ‹_› rfl ?_|refine zas rfl rfl rfl ?_|refine zau rfl rfl ?_|apply zac)
     exact End.nil ⟨rfl,rfl,Upd.set⟩
 ·simp only [Wi.e,Nat.sub_self] at g8 ⊢
  simp only [Wi.rIn,Wi.e,Nat.sub_self]
  generalize (w0 == 3)=gone at g8 ⊢
  cases q1 with
  | none=>
   repeat' (first|refine zaa rfl ?_|refine zav rfl ‹_› rfl ?_|refine zcs rfl rfl rfl ‹_› (Nat.le_of_ble_eq_true rfl) ?_|refine zad (by repeat' constructor) ?_|refine zcv rfl ?_|refine zbe rfl rfl ?_|refine zat rfl rfl rfl ?_|refine zau rfl rfl ?_|apply zac)
   exact End.nil ⟨rfl,rfl,Upd.set⟩
  | some b=>
   simp only [Option.getD_some] at g7
   cases b with
   | cons y b=>
    have hpos:0<(((y :: b:List UInt8).length:Nat):Int):=by simp
    repeat' (first|refine zaa rfl ?_|refine zav rfl ‹_› rfl ?_|refine zcs rfl rfl rfl ‹_› (Nat.le_of_ble_eq_true rfl) ?_|refine zad (by repeat' constructor) ?_|refine zbc rfl ‹_› ?_|refine zbd rfl rfl ?_|refine zbe rfl rfl ?_|refine zaj rfl rfl ?_|refine zaq rfl ‹_› rfl ?_|refine zas rfl rfl rfl ?_|refine zau rfl rfl ?_|apply zac)
    exact End.nil ⟨rfl,rfl,Upd.set⟩
   | nil=>
    simp only [List.isEmpty_nil,Bool.not_true,Bool.false_or]
    have hz : ¬ 0<((([]:List UInt8).length:Nat):Int):=by simp
    cases gone
    case true=>
     repeat' (first|refine zaa rfl ?_|refine zav rfl ‹_› rfl ?_|refine zcs rfl rfl rfl ‹_› (Nat.le_of_ble_eq_true rfl) ?_|refine zad (by repeat' constructor) ?_|refine zbb rfl ‹_› ?_|refine zbd rfl rfl ?_|refine zbe rfl rfl ?_|refine zaj rfl rfl ?_|refine zar rfl ‹_› rfl ?_|refine zas rfl rfl rfl ?_|refine zau rfl rfl ?_|apply zac)
     exact End.nil ⟨rfl,rfl,Upd.set⟩
    cases s0
    case true=>
     repeat' (first|refine zaa rfl ?_|refine zav rfl ‹_› rfl ?_|refine zcs rfl rfl rfl ‹_› (Nat.le_of_ble_eq_true rfl) ?_|refine zad (by repeat' constructor) ?_|refine zbb rfl ‹_› ?_|refine zbd rfl rfl ?_|refine zbe rfl rfl ?_|refine zaj rfl rfl ?_|refine zam rfl rfl ⟨by omega,by omega⟩ ?_|refine zar rfl ‹_› rfl ?_|refine zas rfl rfl rfl ?_|refine zau rfl rfl ?_|apply zac)
     exact End.nil ⟨rfl,rfl,Upd.set⟩
    cases rs
    ·repeat' (first|refine zaa rfl ?_|refine zav rfl ‹_› rfl ?_|refine zcs rfl rfl rfl ‹_› (Nat.le_of_ble_eq_true rfl) ?_|refine zad (by repeat' constructor) ?_|refine zbb rfl ‹_› ?_|refine zbd rfl rfl ?_|refine zaj rfl rfl ?_|refine zam rfl rfl ⟨by omega,by omega⟩ ?_|refine zar rfl ‹_› rfl ?_|refine zas rfl rfl rfl ?_|refine zau rfl rfl ?_|apply zac)
     exact End.nil ⟨rfl,rfl,Upd.set⟩
    ·repeat' (first|refine zaa rfl ?_|refine zav rfl ‹_› rfl ?_|refine zcs rfl rfl rfl ‹_› (Nat.le_of_ble_eq_true rfl) ?_|refine zad (by repeat' constructor) ?_|refine zbb rfl ‹_› ?_|refine zbd rfl rfl ?_|refine zaj rfl rfl ?_|refine zam rfl rfl ⟨by omega,by omega⟩ ?_|refine zar rfl ‹_› rfl ?_|refine zas rfl rfl rfl ?_|refine zau rfl rfl ?_|apply zac)
     exact End.nil ⟨rfl,rfl,Upd.set⟩
end
end Am.Sigs
namespace Am.Sigs
open Am Go
theorem RX.cells_one {r:RX} (h0:r.v0.one=true) (h1:r.v1.one=true) (hw:r.vw.one=true):r.cells.all V.one=true:=by
 obtain ⟨⟨e0,e1,cap,rs,bl,wt⟩,v0,v1,vw⟩:=r
 simp only at h0 h1 hw
 simp only [RX.cells,En.rcells,List.cons_append,List.nil_append,List.all_cons,List.all_nil,h0,h1,hw]
 rfl
theorem Run.fin_mono {call:Call} {fuel:Nat} {c:AC} {res:List RV} {e:Env} {h:H} {R R':V->H->Prop} (k:Run call fuel c [] e h (Fin res R)) (hR : ∀ v h',R v h'->R' v h'):Run call fuel c [] e h (Fin res R'):=by
 obtain ⟨x',e',h',hd',x2,e2,h2,ha,⟨⟨p1,l,p2,p3⟩⟩⟩:=k
 exact ⟨x',e',h',hd',x2,e2,h2,ha,⟨⟨p1,l,p2,hR _ _ p3⟩⟩⟩
section
variable {cl:Nat->Call} (hcl:Sem cl)
include hcl
theorem rd_main {d k:Nat} {g h:H} {x:Wi} {a0 a1 aw:Option (Nat × Nat)} {c0 c1 cw:Cap} (hk:k=0\/k=1) (hnx:g.nx=h.nx+2) (g7:g.get (h.nx+1)=some (.cells (RX.cells ⟨x,.slice a0 (x.e0.ring.getD []).length c0,.slice a1 (x.e1.ring.getD []).length c1,.slice aw x.waiting.length cw⟩) false))
  (g4:g.get h.nx=some jdq) (hold : ∀ j,j<h.nx->g.get j=h.get j) :
  Run (cl (d-1)) fuel c67_5 [] [(4,.p h.nx 0),(6,.i (k:Int)),(7,.p (h.nx+1) 0)] g (Fin c67.res fun v' h'=>v' = .agg (x.ready k)/\Ch (fun _=>False) h h'):=by
 simp only [c67_5,c67_4,c67_2]
 obtain ⟨C,hC⟩ : ∃ C,C=c67_1:=⟨_,rfl⟩
 rw [<- hC]
 have hin:=fun (b8:Nat) (g':H)=>rd_in hcl (d:=d) (b4:=h.nx) (b7:=h.nx+1) (b8:=b8) (g:=g') (x:=x) (a0:=a0) (a1:=a1) (c0:=c0) (c1:=c1) (n0:=(x.e0.ring.getD []).length) (n1:=(x.e1.ring.getD []).length) (vw := .slice aw x.waiting.length cw) hk
 have g7':=g7
 have ch : ∀ b (o1 o2 o3:Obj),b=g.nx->Ch (fun _=>False) h ((((g.reserve 1).set b o1).set b o2).set h.nx o3):=by
  rintro b o1 o2 o3 rfl
  refine ⟨by simp [H.reserve];omega,fun j hj _=>?_⟩
  rw [jab (by omega),jab (by omega),jab (by omega)]
  exact hold j hj
 obtain ⟨⟨w0,f0,q0,wr0,s0,i0,o0⟩,⟨w1,f1,q1,wr1,s1,i1,o1⟩,cap,rs,bl,wt⟩:=x
 simp only [RX.cells,En.rcells,List.cons_append,List.nil_append] at g7
 have g7:(g.reserve 1).get (h.nx+1)=_:=g7
 have g4:(g.reserve 1).get h.nx=_:=g4
 have hlt7:h.nx+1≠g.nx+0:=by omega
 have hlt4:h.nx≠g.nx+0:=by omega
 rcases hk with rfl | rfl
 ·refine Run.seq (Run.region ?_)
  by_cases hbl:0<bl
  ·repeat' (first|refine zaa rfl ?_|refine zav rfl ‹_› rfl ?_|refine zau rfl rfl ?_)
   refine Ops.make_at rfl rfl ?_
   repeat' (first|refine zav rfl (by repeat first|assumption|exact jaa _|refine zzn ‹_› ?_) rfl ?_|refine zcs rfl rfl rfl (by repeat first|assumption|exact jaa _|refine zzn (by omega) ?_) (Nat.le_of_ble_eq_true rfl) ?_|refine zct rfl rfl rfl rfl (by repeat first|assumption|exact jaa _|refine zzn ‹_› ?_) (Nat.le_of_ble_eq_true rfl) ?_|refine zcw rfl (by repeat first|assumption|exact jaa _|refine zzn (by omega) ?_) (Nat.le_of_ble_eq_true rfl) ?_|refine zad (by repeat' constructor) ?_|refine zaj rfl rfl ?_|refine zau rfl rfl ?_|apply zab|apply zac|refine zbi rfl ‹_› ?_|apply zbq|apply zae|apply zbu)
   refine jbh rfl (jaa _) rfl ⟨?_,by simp [H.reserve];omega,fun j hj _=>?_⟩
   ·have hwt:decide (0<(wt.length:Int)) = !wt.isEmpty:=by cases wt<;>simp
    unfold Wi.ready
    rw [if_pos hbl,<- hwt];rfl
   ·rw [jab (by omega),jab (by omega),jab (by omega),jab (by omega)]
    exact hold j hj
  ·repeat' (first|refine zaa rfl ?_|refine zav rfl ‹_› rfl ?_|refine zau rfl rfl ?_)
   refine Ops.make_at rfl rfl ?_
   repeat' (first|refine zaa rfl ?_|refine zav rfl (by repeat first|assumption|exact jaa _|refine zzn ‹_› ?_) rfl ?_|refine zcs rfl rfl rfl (by repeat first|assumption|exact jaa _|refine zzn (by omega) ?_) (Nat.le_of_ble_eq_true rfl) ?_|refine zct rfl rfl rfl rfl (by repeat first|assumption|exact jaa _|refine zzn (by omega) ?_) (Nat.le_of_ble_eq_true rfl) ?_|refine zad (by repeat' constructor) ?_|refine zag rfl rfl ?_|refine zaj rfl rfl ?_|refine zam rfl rfl ⟨by omega,by omega⟩ ?_|refine zau rfl rfl ?_|apply zab|apply zac|refine zbj rfl ‹_› ?_|apply zbp|apply zae)
   have hw3:decide (w1=3)=(w1 == 3):=by rw [Bool.eq_iff_iff];simp
   rw [hw3,hC]
   refine Run.fin_mono (hin (g.nx+0) _ ?_ ?_ ?_ (by omega) (by omega) (by omega) rfl rfl) ?_
   ·rw [jab hlt7,jab hlt7,jab hlt7,jab hlt7];exact g7'
   ·exact jaa _
   ·rw [jab hlt4,jab hlt4,jab hlt4,jab hlt4];exact g4
   ·rintro v h2 ⟨p3,p4⟩
    refine ⟨?_,by have:=p4.nx;simp [H.reserve] at this;omega,fun j hj _=>?_⟩
    ·rw [p3];unfold Wi.ready;rw [if_neg hbl]
    ·rw [p4.get j (by simp [H.reserve];omega) (by omega),jab (by omega),jab (by omega),jab (by omega),jab (by omega)]
     exact hold j hj
 ·refine Run.seq (Run.region ?_)
  by_cases hbl:0<bl
  ·repeat' (first|refine zaa rfl ?_|refine zav rfl ‹_› rfl ?_|refine zau rfl rfl ?_)
   refine Ops.make_at rfl rfl ?_
   repeat' (first|refine zav rfl (by repeat first|assumption|exact jaa _|refine zzn ‹_› ?_) rfl ?_|refine zcs rfl rfl rfl (by repeat first|assumption|exact jaa _|refine zzn (by omega) ?_) (Nat.le_of_ble_eq_true rfl) ?_|refine zct rfl rfl rfl rfl (by repeat first|assumption|exact jaa _|refine zzn ‹_› ?_) (Nat.le_of_ble_eq_true rfl) ?_|refine zcw rfl (by repeat first|assumption|exact jaa _|refine zzn (by omega) ?_) (Nat.le_of_ble_eq_true rfl) ?_|refine zad (by repeat' constructor) ?_|refine zaj rfl rfl ?_|refine zau rfl rfl ?_|apply zab|apply zac|refine zbi rfl ‹_› ?_|apply zbq|apply zae|apply zbu)
   refine jbh rfl (jaa _) rfl ⟨?_,by simp [H.reserve];omega,fun j hj _=>?_⟩
   ·have hwt:decide (0<(wt.length:Int)) = !wt.isEmpty:=by cases wt<;>simp
    unfold Wi.ready
    rw [if_pos hbl,<- hwt];rfl
   ·rw [jab (by omega),jab (by omega),jab (by omega),jab (by omega)]
    exact hold j hj
  ·repeat' (first|refine zaa rfl ?_|refine zav rfl ‹_› rfl ?_|refine zau rfl rfl ?_)
   refine Ops.make_at rfl rfl ?_
   repeat' (first|refine zaa rfl ?_|refine zav rfl (by repeat first|assumption|exact jaa _|refine zzn ‹_› ?_) rfl ?_|refine zcs rfl rfl rfl (by repeat first|assumption|exact jaa _|refine zzn (by omega) ?_) (Nat.le_of_ble_eq_true rfl) ?_|refine zct rfl rfl rfl rfl (by repeat first|assumption|exact jaa _|refine zzn (by omega) ?_) (Nat.le_of_ble_eq_true rfl) ?_|refine zad (by repeat' constructor) ?_|refine zag rfl rfl ?_|refine zaj rfl rfl ?_|refine zam rfl rfl ⟨by omega,by omega⟩ ?_|refine zau rfl rfl ?_|apply zab|apply zac|refine zbj rfl ‹_› ?_|apply zbp|apply zae)
   have hw3:decide (w0=3)=(w0 == 3):=by rw [Bool.eq_iff_iff];simp
   rw [hw3,hC]
   refine Run.fin_mono (hin (g.nx+0) _ ?_ ?_ ?_ (by omega) (by omega) (by omega) rfl rfl) ?_
   ·rw [jab hlt7,jab hlt7,jab hlt7,jab hlt7];exact g7'
   ·exact jaa _
   ·rw [jab hlt4,jab hlt4,jab hlt4,jab hlt4];exact g4
   ·rintro v h2 ⟨p3,p4⟩
    refine ⟨?_,by have:=p4.nx;simp [H.reserve] at this;omega,fun j hj _=>?_⟩
    ·rw [p3];unfold Wi.ready;rw [if_neg hbl]
    ·rw [p4.get j (by simp [H.reserve];omega) (by omega),jab (by omega),jab (by omega),jab (by omega),jab (by omega)]
     exact hold j hj
theorem rq_Ready {d rw q:Nat} {h:H} {l:List RX} {tl:List V} {fd:Int} (hd:3<=d) (w:RW h rw q l tl) (o:WsOk (l.map RX.x)) :
  ∃ h',cl d (.fn F.ja6) [.p rw 0,.i fd] h=some (.agg (jdX (l.map RX.x) fd),h')/\Ch (fun _=>False) h h':=by
 suffices s : ∃ v' h',cl d (.fn F.ja6) [.p rw 0,.i fd] h=some (v',h')/\v' = .agg (jdX (l.map RX.x) fd)/\Ch (fun _=>False) h h' by
  obtain ⟨_,h',e,rfl,p⟩:=s;exact ⟨h',e,p⟩
 refine at_ hcl (by omega) rfl rfl rfl ?_
 obtain ⟨C,hC⟩ : ∃ C,C=c67_5:=⟨_,rfl⟩
 simp only [c67,c67_8,c67_7,c67_6]
 rw [<- hC]
 have l1:=w.lw
 have l2:=w.lq
 have w0:RW (h.new jdq) rw q l tl:=by
  have c0':Ch (RC rw q) h (h.new jdq):=Ch.new
  exact ⟨by simp;omega,by simp;omega,w.ne,fun hl=>⟨by rw [jac l1,(w.at_ hl).hw],by rw [jac l2,(w.at_ hl).hq],w.ne⟩,fun hl=>by rw [jac l1,w.nil hl],fun s hs=>(w.ok s hs).keep c0'⟩
 rcases jdw hcl (d:=d-1) (fd:=fd) (by omega) w0 o with ⟨hno,ea⟩ | ⟨n,k,r,hat,hr,hk,ea⟩
 ·have hS:jdX (l.map RX.x) fd=jiG:=ja9 hno
  rw [hS]
  repeat' (first|refine zaa rfl ?_|refine zaw rfl ‹_› ?_|refine zct rfl rfl rfl rfl (jaa _) (Nat.le_of_ble_eq_true rfl) ?_|refine zad (by repeat' constructor) ?_|refine zaf rfl rfl ?_|refine zau rfl rfl ?_|refine zcu rfl rfl ?_|apply zab|apply zac|refine zbi rfl (by omega) ?_|apply zbq|apply zae|apply zbu)
  exact jbh rfl (jaa _) rfl ⟨rfl,⟨by simp,fun j hj _=>by rw [jab (by omega),jac hj]⟩⟩
 have hS:jdX (l.map RX.x) fd=r.x.ready k:=jaA o.uniq hat (jaS hr)
 rw [hS]
 obtain ⟨hw,hq,hne⟩:=w0.rat hr
 have hn:=r_lt hr
 obtain ⟨v0ok,_⟩:=(w0.rok hr).b 0 (.inl rfl)
 obtain ⟨v1ok,_⟩:=(w0.rok hr).b 1 (.inr rfl)
 obtain ⟨vwok,_⟩:=(w0.rok hr).w
 have hone:=RX.cells_one (r:=r) v0ok.one v1ok.one vwok.one
 obtain ⟨a0,c0,e0,_⟩:=v0ok
 obtain ⟨a1,c1,e1,_⟩:=v1ok
 obtain ⟨aw,cw,ew,_⟩:=vwok
 have hrt:=jhD (o:=0+(n:Int).toNat*20) hr (by omega)
 repeat' (first|refine zaa rfl ?_|refine zav rfl ‹_› rfl ?_|refine zaw rfl ‹_› ?_|refine zad (by repeat' constructor) ?_|refine zaf rfl rfl ?_|refine zau rfl rfl ?_|refine zay rfl rfl (by omega) ?_|refine zcu rfl rfl ?_|apply zab|apply zac|refine zbj rfl (by omega) ?_|apply zbp|apply zae)
 refine Ops.loadN rfl hq (by rw [jax];omega) ?_
 rw [hrt]
 repeat' (first|refine zcu rfl rfl ?_)
 refine Ops.storeN rfl rfl (RX.len r) hone (jad _) (by decide) ?_
 rw [jcB _ _ (by rw [RX.len];rfl)]
 obtain ⟨x,v0,v1,vw⟩:=r
 simp only [RX.v] at e0 e1 ew
 subst e0 e1 ew
 have hw7:((h.new jdq).new (.cells [.i 0,.i 0,.bool false,.bool false,.nils,.bool false,.int .u64 0,.int .u64 0,.i 0,.i 0,.bool false,.bool false,.nils,.bool false,.int .u64 0,.int .u64 0,.i 0,.bool false,.i 0,.nils] false)).nx=h.nx+2:=by simp
 refine Ops.nil (by repeat (first|(apply Kept.cons;exact rfl)|apply Kept.nil|(apply Kept.miss;exact rfl))) (End.seq ?_)
 rw [hC]
 exact rd_main hcl hk hw7 (jaa _) (by rw [jab (by simp),jac (by simp),jad]) (fun j hj=>by rw [jab (by simp;omega),jac (by simp;omega),jac hj])
end
end Am.Sigs
namespace Am.Sigs
open Am Go
def sgc (hd:Nat->Bool) (pd:Nat->Int):List V:=tab 32 (fun k=>.bool (hd k))++tab 32 (fun k=>.i (pd k))
theorem jdE (hd:Nat->Bool) (pd:Nat->Int):(sgc hd pd).length=64:=by simp [sgc]
theorem sgc_hd {hd:Nat->Bool} {pd:Nat->Int} {k o:Nat} (hk:k<32) (ho:o=k):(sgc hd pd)[o]?=some (.bool (hd k)):=by
 subst ho
 unfold sgc
 rw [List.getElem?_append,if_pos (by simpa using hk),jcN hk]
theorem jk8 {hd:Nat->Bool} {pd:Nat->Int} {k o:Nat} (hk:k<32) (ho:o=32+k):(sgc hd pd)[o]?=some (.i (pd k)):=by
 subst ho
 unfold sgc
 rw [List.getElem?_append,if_neg (by simp),tab_length,Nat.add_sub_cancel_left,jcN hk]
theorem jjE {hd:Nat->Bool} {pd:Nat->Int} {k o:Nat} {t:Bool} (hk:k<32) (ho:o=k):(sgc hd pd).set o (.bool t)=sgc (fun j=>if j=k then t else hd j) pd:=by
 subst ho
 unfold sgc
 rw [List.set_append,if_pos (by simpa using hk),jed]
 congr 1
 refine jcO fun j _=>?_
 by_cases e:j=o<;>simp [e]
theorem jeL {hd:Nat->Bool} {pd:Nat->Int} {k o:Nat} {n:Int} (ho:o=32+k):(sgc hd pd).set o (.i n)=sgc hd (fun j=>if j=k then n else pd j):=by
 subst ho
 unfold sgc
 rw [List.set_append,if_neg (by simp),tab_length,Nat.add_sub_cancel_left,jed]
 congr 1
 refine jcO fun j _=>?_
 by_cases e:j=k<;>simp [e]
abbrev sig? (s:Int):Prop:=1<=s/\s<=31
theorem sp_is {cl:Nat->Call} (hcl:Sem cl) {d:Nat} (hd:1<=d) (s:Int) (h:H):cl d (.fn F.sigs_is) [.i s] h=some (.bool (decide (sig? s)),h):=by
 refine jaq (at_ hcl hd rfl rfl rfl ?_)
 repeat' (first|refine zaa rfl ?_|refine zad (by repeat' constructor) ?_|refine zaz rfl ‹_› ?_|refine zba rfl ‹_› ?_|refine zbf rfl (fun _=>?_) fun _=>?_|refine zai rfl rfl ?_|refine zak rfl rfl ?_|refine zaq rfl ‹_› rfl ?_|refine zar rfl ‹_› rfl ?_|apply zab|apply zac|apply zbq|apply zae|refine zcc rfl ?_)
 all_goals exact ⟨by simp [*],rfl⟩
theorem jk6 {cl:Nat->Call} (hcl:Sem cl) {d:Nat} (hd:2<=d) (b:Nat) (s:Int) (h:H):cl d (.fn F.jgQ) [.p b 0,.i s] h=some (.i (if sig? s then 0 else 100),h):=by
 refine jaq (at_ hcl (by omega) rfl rfl rfl ?_)
 repeat' (first|refine zaa rfl ?_|refine zad (by repeat' constructor) ?_|refine zau rfl rfl ?_|apply zab|apply zac|refine zbl rfl rfl ?_|apply zbo|apply zae)
 refine Ops.callf rfl (sp_is hcl (by omega) s h) ?_
 repeat' (first|refine zaa rfl ?_|refine zad (by repeat' constructor) ?_|refine zan rfl ?_|apply zab|apply zac|refine zbm rfl (fun _=>?_) fun _=>?_|apply zbp|apply zbq|apply zae|apply zbw|refine zcc rfl ?_|apply zbu|apply zbx)
 all_goals exact ⟨by simp [*],rfl⟩
structure Tb where
 hd:Nat->Bool
 pd:Nat->Int
def Tb.obj (t:Tb):Obj := .cells (sgc t.hd t.pd) false
def Tb.zero:Tb:=⟨fun _=>false,fun _=>0⟩
def Tb.handle (t:Tb) (s:Int) (on:Bool):Tb :=
 if sig? s then ⟨fun j=>if j=s.toNat then on else t.hd j,if on then t.pd else fun j=>if j=s.toNat then 0 else t.pd j⟩ else t
def Tb.raise (t:Tb) (s:Int):Tb :=
 if sig? s/\t.hd s.toNat=true then ⟨t.hd,fun j=>if j=s.toNat then t.pd j+1 else t.pd j⟩ else t
theorem sp_handle {cl:Nat->Call} (hcl:Sem cl) {d b:Nat} {h:H} {t:Tb} (hd:3<=d) (hb:h.get b=some t.obj) (s:Int) (on:Bool) :
  ∃ h',cl d (.fn F.jfs) [.p b 0,.i s,.bool on] h=some (.i (if sig? s then 0 else 100),h')/\Upd b (t.handle s on).obj h h':=by
 refine jal (at_ hcl (by omega) rfl rfl rfl ?_)
 have hm:=jk6 hcl (d:=d-1) (by omega) b s h
 unfold Tb.obj at hb
 by_cases hs:sig? s
 ·rw [if_pos hs] at hm ⊢
  obtain ⟨s1,s2⟩:=hs
  repeat' (first|refine zaa rfl ?_|refine zad (by repeat' constructor) ?_|apply zab|apply zac|apply zae)
  refine Ops.callf rfl hm ?_
  repeat' (first|refine zaa rfl ?_|refine zad (by repeat' constructor) ?_|refine zah rfl rfl ?_|refine zau rfl rfl ?_|refine zax rfl rfl (by omega) ?_|apply zab|apply zac|refine zbj rfl (by omega) ?_|apply zbp|apply zae)
  refine Ops.store1 rfl rfl rfl hb (by rw [jdE];omega) ?_
  rw [jjE (k:=s.toNat) (by omega) (by omega)]
  cases on
  ·repeat' (first|refine zaa rfl ?_|refine zad (by repeat' constructor) ?_|refine zao rfl ?_|refine zau rfl rfl ?_|refine zax rfl rfl (by omega) ?_|apply zab|apply zac|refine zbk rfl rfl ?_|apply zae)
   refine Ops.store1 rfl rfl rfl (jaa _) (by rw [jdE];omega) ?_
   rw [jeL (k:=s.toNat) (by omega)]
   repeat' (first|refine zaa rfl ?_|refine zad (by repeat' constructor) ?_|apply zab|apply zac|apply zbq|apply zae|refine zcc rfl ?_)
   refine ⟨rfl,?_⟩
   have:(t.handle s false).obj = .cells (sgc (fun j=>if j=s.toNat then false else t.hd j) (fun j=>if j=s.toNat then 0 else t.pd j)) false:=by
    rw [Tb.handle,if_pos ⟨s1,s2⟩];rfl
   rw [this]
   exact Upd.set.trans Upd.set
  ·repeat' (first|refine zaa rfl ?_|refine zad (by repeat' constructor) ?_|refine zao rfl ?_|apply zab|apply zac|refine zbl rfl rfl ?_|apply zbp|apply zbq|apply zae|refine zcc rfl ?_)
   refine ⟨rfl,?_⟩
   have:(t.handle s true).obj = .cells (sgc (fun j=>if j=s.toNat then true else t.hd j) t.pd) false:=by
    rw [Tb.handle,if_pos ⟨s1,s2⟩];rfl
   rw [this]
   exact Upd.set
 ·rw [if_neg hs] at hm ⊢
  repeat' (first|refine zaa rfl ?_|refine zad (by repeat' constructor) ?_|apply zab|apply zac|apply zae)
  refine Ops.callf rfl hm ?_
  repeat' (first|refine zaa rfl ?_|refine zad (by repeat' constructor) ?_|refine zah rfl rfl ?_|apply zab|apply zac|refine zbi rfl (by omega) ?_|apply zbq|apply zae|refine zcc rfl ?_|apply zbu)
  refine ⟨rfl,?_⟩
  rw [Tb.handle,if_neg hs]
  exact Upd.refl hb
theorem sp_raise {cl:Nat->Call} (hcl:Sem cl) {d b:Nat} {h:H} {t:Tb} (hd:3<=d) (hb:h.get b=some t.obj) (s:Int) (hp : ∀ k,0<=t.pd k/\t.pd k<=1000000) :
  ∃ h',cl d (.fn F.jfG) [.p b 0,.i s] h=some (.i (if sig? s then 0 else 100),h')/\Upd b (t.raise s).obj h h':=by
 refine jal (at_ hcl (by omega) rfl rfl rfl ?_)
 have hm:=jk6 hcl (d:=d-1) (by omega) b s h
 unfold Tb.obj at hb
 by_cases hs:sig? s
 ·rw [if_pos hs] at hm ⊢
  obtain ⟨s1,s2⟩:=hs
  have hp:=hp s.toNat
  repeat' (first|refine zaa rfl ?_|refine zad (by repeat' constructor) ?_|apply zab|apply zac|apply zae)
  refine Ops.callf rfl hm ?_
  repeat' (first|refine zaa rfl ?_|refine zad (by repeat' constructor) ?_|refine zah rfl rfl ?_|refine zau rfl rfl ?_|refine zax rfl rfl (by omega) ?_|apply zab|apply zac|refine zbj rfl (by omega) ?_|apply zbp|apply zae)
  refine Ops.load1 rfl hb (sgc_hd (k:=s.toNat) (by omega) (by omega)) ?_
  repeat' (first|refine zaa rfl ?_|refine zad (by repeat' constructor) ?_|refine zau rfl rfl ?_|refine zax rfl rfl (by omega) ?_|apply zab|apply zac|refine zbn rfl (fun _=>?_) fun _=>?_|apply zbp|apply zbq|apply zae|refine zcc rfl ?_)
  ·refine Ops.load1 rfl hb (jk8 (k:=s.toNat) (by omega) (by omega)) ?_
   repeat' (first|refine zaa rfl ?_|refine zau rfl rfl ?_|refine zax rfl rfl (by omega) ?_)
   refine Ops.load1 rfl hb (jk8 (k:=s.toNat) (by omega) (by omega)) ?_
   repeat' (first|refine zal rfl rfl ⟨by omega,by omega⟩ ?_|refine zam rfl rfl ⟨by omega,by omega⟩ ?_|refine zcr rfl rfl ?_|refine zau rfl rfl ?_|refine zax rfl rfl (by omega) ?_)
   refine Ops.store1 rfl rfl rfl hb (by rw [jdE];omega) ?_
   rw [jeL (k:=s.toNat) (by omega)]
   repeat' (first|refine zaa rfl ?_|refine zad (by repeat' constructor) ?_|apply zab|apply zac|apply zbq|apply zae|refine zcc rfl ?_)
   refine ⟨rfl,?_⟩
   rw [Tb.raise,if_pos ⟨⟨s1,s2⟩,by assumption⟩,show min 1 (2147483647-t.pd s.toNat)=1 by omega]
   have:(fun j=>if j=s.toNat then t.pd s.toNat+1 else t.pd j)=fun j=>if j=s.toNat then t.pd j+1 else t.pd j:=by
    funext j;by_cases e:j=s.toNat<;>simp [e]
   rw [this]
   exact Upd.set
  ·refine ⟨rfl,?_⟩
   rw [Tb.raise,if_neg (fun x=>by simp_all)]
   exact Upd.refl hb
 ·rw [if_neg hs] at hm ⊢
  repeat' (first|refine zaa rfl ?_|refine zad (by repeat' constructor) ?_|apply zab|apply zac|apply zae)
  refine Ops.callf rfl hm ?_
  repeat' (first|refine zaa rfl ?_|refine zad (by repeat' constructor) ?_|refine zah rfl rfl ?_|apply zab|apply zac|refine zbi rfl (by omega) ?_|apply zbq|apply zae|refine zcc rfl ?_|apply zbu)
  refine ⟨rfl,?_⟩
  rw [Tb.raise,if_neg (fun x=>hs x.1)]
  exact Upd.refl hb
def Tb.cnt (t:Tb) (s:Int):Int:=if sig? s then t.pd s.toNat else 0
def Tb.has (t:Tb) (s:Int):Bool:=decide (sig? s)&&t.hd s.toNat
theorem sp_count {cl:Nat->Call} (hcl:Sem cl) {d b:Nat} {h:H} {t:Tb} (hd:3<=d) (hb:h.get b=some t.obj) (s:Int):cl d (.fn F.jfH) [.p b 0,.i s] h=some (.i (t.cnt s),h):=by
 refine jaq (at_ hcl (by omega) rfl rfl rfl ?_)
 have hm:=jk6 hcl (d:=d-1) (by omega) b s h
 unfold Tb.obj at hb
 by_cases hs:sig? s
 ·rw [if_pos hs] at hm
  obtain ⟨s1,s2⟩:=hs
  repeat' (first|refine zaa rfl ?_|refine zad (by repeat' constructor) ?_|apply zab|apply zac|apply zae)
  refine Ops.callf rfl hm ?_
  repeat' (first|refine zaa rfl ?_|refine zad (by repeat' constructor) ?_|refine zah rfl rfl ?_|refine zau rfl rfl ?_|refine zax rfl rfl (by omega) ?_|apply zab|apply zac|refine zbj rfl (by omega) ?_|apply zbp|apply zae)
  refine Ops.load1 rfl hb (jk8 (k:=s.toNat) (by omega) (by omega)) ?_
  repeat' (first|refine zaa rfl ?_|refine zad (by repeat' constructor) ?_|apply zbq|apply zae|refine zcc rfl ?_)
  exact ⟨by rw [Tb.cnt,if_pos ⟨s1,s2⟩],rfl⟩
 ·rw [if_neg hs] at hm
  repeat' (first|refine zaa rfl ?_|refine zad (by repeat' constructor) ?_|apply zab|apply zac|apply zae)
  refine Ops.callf rfl hm ?_
  repeat' (first|refine zaa rfl ?_|refine zad (by repeat' constructor) ?_|refine zah rfl rfl ?_|apply zab|apply zac|refine zbi rfl (by omega) ?_|apply zbq|apply zae|refine zcc rfl ?_|apply zbu)
  exact ⟨by rw [Tb.cnt,if_neg hs],rfl⟩
theorem jj3:List.replicate 32 (V.bool false)++List.replicate 32 (V.i 0)=sgc (fun _=>false) (fun _=>0):=by
 rw [jer,jer];rfl
theorem sp_new {cl:Nat->Call} (hcl:Sem cl) {d:Nat} (hd:1<=d) (h:H):cl d (.fn F.sigs_New) [] h=some (.p h.nx 0,h.new Tb.zero.obj):=by
 refine jaq (at_ hcl (by omega) rfl rfl rfl ?_)
 repeat' (first|refine zaa rfl ?_|refine zad (by repeat' constructor) ?_|refine zau rfl rfl ?_|apply zab|apply zac|apply zae)
 refine Ops.make rfl rfl ?_
 repeat' (first|refine zaa rfl ?_|refine zad (by repeat' constructor) ?_|apply zbq|apply zae|refine zcc rfl ?_)
 exact ⟨rfl,by rw [Tb.obj,Tb.zero,<- jj3];rfl⟩
def Tb.cnts (t:Tb):Nat->List (Nat × Int)
 | 0=>[]
 | k+1=>if k=0\/t.pd k=0 then t.cnts k else t.cnts k++[(k,t.pd k)]
theorem cnt_nat (t:Tb) {k:Nat} (hk:k<32):t.cnt (k:Int)=if k=0 then 0 else t.pd k:=by
 unfold Tb.cnt
 by_cases h0:k=0
 ·subst h0;simp
 ·rw [if_pos ⟨by omega,by omega⟩,if_neg h0];rfl
theorem jfF {cl:Nat->Call} (hcl:Sem cl) {d L c b:Nat} {t:Tb} (hd:5<=d) (I:Nat->H->Prop)
  (hc : ∀ k h,I k h->h.get c=some (.cells [.p b 0] false)/\h.get b=some t.obj)
  (hs : ∀ k h,k<32->I k h->(k=0\/t.pd k=0)->I (k+1) h)
  (hy : ∀ k h,k<32->k≠0->t.pd k≠0->I k h -> ∃ h',cl (d-1) (.yld L) [.agg [.i k,.i (t.pd k)]] h=some (.bool true,h')/\I (k+1) h')
  {h:H} (h0:I 0 h) : ∃ v h',cl d (.fn F.jcA) [.yld L,.p c 0] h=some (v,h')/\I 32 h':=by
 refine at_ hcl (by omega) rfl rfl rfl ?_
 repeat' (first|refine zaa rfl ?_|refine zad (by repeat' constructor) ?_|apply zab|apply zac|apply zbo|apply zbs|apply zbt|apply zae)
 refine Run.loop (fun m e h=>∃ k:Nat,m=32-k/\k<=32/\e=[(0,.yld L),(1,.p c 0),(5,.i k)]/\I k h) (k:=32) (by decide) ⟨0,rfl,by omega,rfl,h0⟩ ?_
 rintro _ _ h ⟨k,rfl,hk,rfl,hI⟩ n ih
 obtain ⟨hc1,hb1⟩:=hc k h hI
 repeat' (first|refine zaa rfl ?_|refine zad (by repeat' constructor) ?_|refine zaf rfl rfl ?_|apply zab|apply zac|refine zbm rfl (fun _=>?_) fun _=>?_|apply zbo|apply zbp|apply zbr|apply zae|apply zbv|apply zby|apply zcb|refine zce rfl ?_)
 ·refine Ops.load1 rfl hc1 rfl ?_
  repeat' (first|refine zaa rfl ?_)
  have hcn:=sp_count hcl (d:=d-1) (by omega) hb1 k
  rw [cnt_nat t (by omega)] at hcn
  refine Ops.callf rfl hcn ?_
  by_cases hz:k=0\/t.pd k=0
  ·have e0:(if k=0 then (0:Int) else t.pd k)=0:=by rcases hz with hz | hz<;>simp [hz]
   rw [e0]
   repeat' (first|refine zaa rfl ?_|refine zad (by repeat' constructor) ?_|refine zag rfl rfl ?_|refine zal rfl rfl ⟨by omega,by omega⟩ ?_|apply zab|apply zac|refine zbi rfl (by omega) ?_|apply zbr|apply zae|apply zbv|apply zby)
   exact ih (32-(k+1)) (by omega) _ _ ⟨k+1,rfl,by omega,rfl,hs k h (by omega) hI hz⟩
  ·have hz1:k≠0:=fun e=>hz (.inl e)
   have hz2:t.pd k≠0:=fun e=>hz (.inr e)
   rw [if_neg hz1]
   repeat' (first|refine zaa rfl ?_|refine zad (by repeat' constructor) ?_|refine zag rfl rfl ?_|refine zau rfl rfl ?_|apply zab|apply zac|refine zbj rfl ‹_› ?_|apply zbp|apply zae)
   obtain ⟨h2,hy1,hy2⟩:=hy k h (by omega) hz1 hz2 hI
   refine Ops.yield rfl rfl hy1 ?_
   repeat' (first|refine zaa rfl ?_|refine zad (by repeat' constructor) ?_|refine zal rfl rfl ⟨by omega,by omega⟩ ?_|refine zao rfl ?_|apply zac|refine zbl rfl rfl ?_|apply zbp|apply zae|apply zbw)
   exact ih (32-(k+1)) (by omega) _ _ ⟨k+1,rfl,by omega,rfl,hy2⟩
 ·have:k=32:=by omega
  subst this
  exact hI
theorem jh9 {cl:Nat->Call} (hcl:Sem cl) {d b:Nat} {h:H} (hd:1<=d):cl d (.fn F.jfr) [.p b 0] h=some (.clo F.jcA [.p h.nx 0],h.new (.cells [.p b 0] false)):=by
 refine jaq (at_ hcl (by omega) rfl rfl rfl ?_)
 repeat' (first|apply zab|apply zac)
 refine Ops.make rfl rfl ?_
 repeat' (first|refine zaa rfl ?_|refine zad (by repeat' constructor) ?_|refine zau rfl rfl ?_|apply zab|apply zac|apply zbq|apply zae|refine zcc rfl ?_)
 exact ⟨rfl,rfl⟩
def Tb.sum (t:Tb):Nat->Int
 | 0=>0
 | k+1=>if k=0\/t.pd k=0 then t.sum k else t.sum k+t.pd k
def Tb.ok (t:Tb) (n:Int):Prop := ∀ k,0<=t.pd k/\t.pd k<=n
theorem Tb.sum_le {t:Tb} {n:Int} (ht:t.ok n) : ∀ k:Nat,0<=t.sum k/\t.sum k<=k*n
 | 0=>by simp [Tb.sum]
 | k+1=>by
  have h1:=Tb.sum_le ht k
  have h2:=ht k
  unfold Tb.sum
  have e:((k+1:Nat):Int)*n=k*n+n:=by simp [Int.add_mul]
  split<;>omega
theorem jjD {cl:Nat->Call} (hcl:Sem cl) {d b:Nat} {h0:H} {t:Tb} (hd:8<=d) (hb:h0.get b=some t.obj) (hlt:b<h0.nx) (ht:t.ok 1000000) :
  ∃ h',cl d (.fn F.jeK) [.p b 0] h0=some (.i (t.sum 32),h')/\Ch (fun _=>False) h0 h':=by
 refine jal (at_ hcl (by omega) rfl rfl rfl ?_)
 repeat' (first|refine zaa rfl ?_|refine zad (by repeat' constructor) ?_|apply zab|apply zac|apply zae)
 refine Ops.make rfl rfl ?_
 skip
 refine Ops.store1 rfl rfl rfl (jad _) (by simp) ?_
 repeat' (first|refine zaa rfl ?_|refine zad (by repeat' constructor) ?_|apply zab|apply zac|apply zae)
 refine Ops.callf rfl (jh9 hcl (by omega)) ?_
 repeat' (first|refine zad (by repeat' constructor) ?_|apply zbo|apply zae)
 refine Run.rangeFunc_lo rfl (by repeat (first|(apply Kept.cons;exact rfl)|apply Kept.nil|(apply Kept.miss;exact rfl))) fun LO hLO=>?_
 obtain ⟨v,h',hc,k1,k2,k3,k4,k5,k6⟩:=jfF hcl (d:=d-1) (L:=h0.nx+2) (c:=h0.nx+1) (b:=b) (t:=t) (by omega)
  (fun k h=>h.get h0.nx=some (.cells [.i (t.sum k)] false)/\h.get (h0.nx+1)=some (.cells [.p b 0] false)/\h.get (h0.nx+2)=some (LO .ready none)/\h.get b=some t.obj/\h0.nx+3<=h.nx /\ ∀ j,j<h0.nx->h.get j=h0.get j)
  (fun k h hI=>⟨hI.2.1,hI.2.2.2.1⟩)
  (fun k h _ hI hz=>by rw [Tb.sum,if_pos hz];exact hI)
  (by
   intro k g hk hk0 hk1 ⟨g1,g2,g3,g4,g5,g6⟩
   have hs:=Tb.sum_le ht k
   have hpk:=ht k
   have hk32:(k:Int)*1000000<=32000000:=by omega
   refine jal (yl_ hcl (by omega) hLO g3 rfl ?_)
   repeat' (first|apply zac)
   refine Ops.make rfl rfl ?_
   skip
   refine Ops.storeN rfl rfl rfl rfl (jad _) (by simp) ?_
   repeat' (first|refine zad (by repeat' constructor) ?_)
   refine End.nil ⟨rfl,(by simp only [H.get_set,H.get_new];(repeat (first | rw [if_pos trivial] | rw [if_pos (by omega)] | rw [if_neg (by omega)]))<;>first | assumption | rfl),?_⟩
   repeat' (first|apply zac|apply zbo)
   refine Ops.load1 rfl (l:=[.i (t.sum k)]) (ro:=false) (by simp only [H.get_set,H.get_new];(repeat (first | rw [if_pos trivial] | rw [if_pos (by omega)] | rw [if_neg (by omega)]))<;>first | assumption | rfl) rfl ?_
   repeat' (first|refine zau rfl rfl ?_)
   refine Ops.load1 rfl (l:=[.i k,.i (t.pd k)]) (ro:=false) (by simp only [H.get_set,H.get_new];(repeat (first | rw [if_pos trivial] | rw [if_pos (by omega)] | rw [if_neg (by omega)]))<;>first | assumption | rfl) rfl ?_
   repeat' (first|refine zal rfl rfl ⟨by omega,by omega⟩ ?_)
   refine Ops.store1 rfl rfl rfl (l:=[.i (t.sum k)]) (by simp only [H.get_set,H.get_new];(repeat (first | rw [if_pos trivial] | rw [if_pos (by omega)] | rw [if_neg (by omega)]))<;>first | assumption | rfl) Nat.zero_lt_one ?_
   repeat' (first|refine zad (by repeat' constructor) ?_|apply zbw)
   refine End.nil ⟨⟨.busy,none,(by simp only [H.get_set,H.get_new];(repeat (first | rw [if_pos trivial] | rw [if_pos (by omega)] | rw [if_neg (by omega)]))<;>first | assumption | rfl)⟩,rfl,?_⟩
   rw [Tb.sum,if_neg (by omega)]
   refine ⟨(by simp only [H.get_set,H.get_new];(repeat (first | rw [if_pos trivial] | rw [if_pos (by omega)] | rw [if_neg (by omega)]))<;>first | assumption | rfl),(by simp only [H.get_set,H.get_new];(repeat (first | rw [if_pos trivial] | rw [if_pos (by omega)] | rw [if_neg (by omega)]))<;>first | assumption | rfl),(by simp only [H.get_set,H.get_new];(repeat (first | rw [if_pos trivial] | rw [if_pos (by omega)] | rw [if_neg (by omega)]))<;>first | assumption | rfl),(by simp only [H.get_set,H.get_new];(repeat (first | rw [if_pos trivial] | rw [if_pos (by omega)] | rw [if_neg (by omega)]))<;>first | assumption | rfl),?_,?_⟩
   ·simp;omega
   ·intro j hj
    have:=g6 j hj
    exact (by simp only [H.get_set,H.get_new];(repeat (first | rw [if_pos trivial] | rw [if_pos (by omega)] | rw [if_neg (by omega)]))<;>first | assumption | rfl))
  (h:=(((h0.new (.cells [.i 0] false)).set h0.nx (.cells [.i 0] false)).new (.cells [.p b 0] false)).new (LO .ready none))
  (by
   refine ⟨(by simp only [H.get_set,H.get_new,H.nx_set,H.nx_new];(repeat (first | rw [if_pos trivial] | rw [if_pos (by omega)] | rw [if_neg (by omega)]))<;>first | assumption | rfl),(by simp only [H.get_set,H.get_new,H.nx_set,H.nx_new];(repeat (first | rw [if_pos trivial] | rw [if_pos (by omega)] | rw [if_neg (by omega)]))<;>first | assumption | rfl),(by simp only [H.get_set,H.get_new,H.nx_set,H.nx_new];(repeat (first | rw [if_pos trivial] | rw [if_pos (by omega)] | rw [if_neg (by omega)]))<;>first | assumption | rfl),(by simp only [H.get_set,H.get_new,H.nx_set,H.nx_new];(repeat (first | rw [if_pos trivial] | rw [if_pos (by omega)] | rw [if_neg (by omega)]))<;>first | assumption | rfl),?_,?_⟩
   ·simp
   ·intro j hj
    exact (by simp only [H.get_set,H.get_new,H.nx_set,H.nx_new];(repeat (first | rw [if_pos trivial] | rw [if_pos (by omega)] | rw [if_neg (by omega)]))<;>first | assumption | rfl))
 refine ⟨v,h',hc,.normal,k3,?_⟩
 repeat' (first|apply zab|apply zac|apply zae|apply zbw)
 refine Ops.load1 rfl (l:=[.i (t.sum 32)]) (ro:=false) (by simp only [H.get_kill,H.nx_set,H.nx_new];(repeat (first | rw [if_pos trivial] | rw [if_pos (by omega)] | rw [if_neg (by omega)]))<;>first | assumption | rfl) rfl ?_
 repeat' (first|refine zaa rfl ?_|refine zad (by repeat' constructor) ?_|apply zbq|apply zae|refine zcc rfl ?_)
 refine ⟨rfl,?_,?_⟩
 ·simp;omega
 ·intro j hj _
  have:=k6 j hj
  exact (by simp only [H.get_kill,H.nx_set,H.nx_new];(repeat (first | rw [if_pos trivial] | rw [if_pos (by omega)] | rw [if_neg (by omega)]))<;>first | assumption | rfl)
end Am.Sigs
namespace Am.Sigs
open Am Go
abbrev ints (l:List Int):List V:=l.map V.i
def jaL:List (Nat × Int)->List V
 | []=>[]
 | p :: r=>.i p.1 :: .i p.2 :: jaL r
theorem jdA : ∀ l,(jaL l).length=l.length*2
 | []=>rfl
 | p :: r=>by simp [jaL,jdA r];omega
theorem jdB : ∀ l m,jaL (l++m)=jaL l++jaL m
 | [],m=>rfl
 | p :: r,m=>by simp [jaL,jdB r m]
theorem jfj : ∀ (l:List (Nat × Int)) (i:Nat) (p:Nat × Int),l[i]?=some p->((jaL l).drop (i*2)).take 2=[.i p.1,.i p.2]
 | [],_,_,h=>by simp at h
 | q :: r,0,p,h=>by simp at h;subst h;rfl
 | q :: r,i+1,p,h=>by
  simp only [List.getElem?_cons_succ] at h
  rw [show (i+1)*2=i*2+1+1 by omega]
  simp only [jaL,List.drop_succ_cons]
  exact jfj r i p h
theorem Tb.cnts_len (t:Tb) : ∀ k,(t.cnts k).length<=k
 | 0=>by simp [Tb.cnts]
 | k+1=>by
  have:=t.cnts_len k
  unfold Tb.cnts;split<;>simp<;>omega
theorem Tb.cnts_mem {t:Tb} : ∀ {k:Nat} {p:Nat × Int},p∈t.cnts k->1<=p.1/\p.1<k/\p.2=t.pd p.1/\p.2≠0
 | 0,p,h=>by simp [Tb.cnts] at h
 | k+1,p,h=>by
  unfold Tb.cnts at h
  split at h
  ·have:=Tb.cnts_mem h;omega
  ·next hz=>
   rcases List.mem_append.1 h with h | h
   ·have:=Tb.cnts_mem h;omega
   ·simp at h;subst h;simp;omega
theorem Tb.mem_cnts {t:Tb} : ∀ {k j:Nat},1<=j->j<k->t.pd j≠0->(j,t.pd j)∈t.cnts k
 | 0,_,_,h,_=>by omega
 | k+1,j,h1,h2,h3=>by
  unfold Tb.cnts
  by_cases e:j=k
  ·subst e
   rw [if_neg (by omega)];simp
  ·have:=Tb.mem_cnts (k:=k) h1 (by omega) h3
   split
   ·exact this
   ·exact List.mem_append_left _ this
def jen (l:List (Nat × Int)) (pd:Nat->Int):Nat->Int:=fun j=>if l.any (fun p=>p.1 == j) then 0 else pd j
def Tb.take (t:Tb):Tb:=⟨t.hd,fun j=>if 1<=j/\j<32 then 0 else t.pd j⟩
theorem sp_take {cl:Nat->Call} (hcl:Sem cl) {d b:Nat} {h0:H} {t:Tb} (hd:8<=d) (hb:h0.get b=some t.obj) (hlt:b<h0.nx) :
  ∃ v h',cl d (.fn F.jgu) [.p b 0] h0=some (v,h')/\Row h0.nx h' 2 v (t.cnts 32).length (jaL (t.cnts 32))/\h'.get b=some t.take.obj/\Ch (fun j=>j=b) h0 h':=by
 refine at_ hcl (by omega) rfl rfl rfl ?_
 repeat' (first|refine zaa rfl ?_|refine zad (by repeat' constructor) ?_|apply zab|apply zac|apply zae)
 refine Ops.make rfl rfl ?_
 repeat' (first|refine zaa rfl ?_|refine zad (by repeat' constructor) ?_|apply zab|apply zac|apply zae)
 refine Ops.callf rfl (jh9 hcl (by omega)) ?_
 repeat' (first|refine zad (by repeat' constructor) ?_|apply zbo|apply zae)
 refine Run.rangeFunc_lo rfl (by repeat (first|(apply Kept.cons;exact rfl)|apply Kept.nil|(apply Kept.miss;exact rfl))) fun LO hLO=>?_
 obtain ⟨v,h',hc,⟨sv,k1,kr⟩,k2,k3,k4,k5,k6⟩:=jfF hcl (d:=d-1) (L:=h0.nx+2) (c:=h0.nx+1) (b:=b) (t:=t) (by omega)
  (fun k h=>(∃ sv,h.get h0.nx=some (.cells [sv] false)/\Row (h0.nx+3) h 2 sv (t.cnts k).length (jaL (t.cnts k)))/\h.get (h0.nx+1)=some (.cells [.p b 0] false)/\h.get (h0.nx+2)=some (LO .ready none)/\h.get b=some t.obj/\h0.nx+3<=h.nx /\ ∀ j,j<h0.nx->h.get j=h0.get j)
  (fun k h hI=>⟨hI.2.1,hI.2.2.2.1⟩)
  (fun k h _ hI hz=>by rw [Tb.cnts,if_pos hz];exact hI)
  (by
   intro k g hk hk0 hk1 ⟨⟨sv,g1,gr⟩,g2,g3,g4,g5,g6⟩
   have hl:=t.cnts_len k
   refine jal (yl_ hcl (by omega) hLO g3 rfl ?_)
   repeat' (first|apply zac)
   refine Ops.make rfl rfl ?_
   skip
   refine Ops.storeN rfl rfl rfl rfl (jad _) (by simp) ?_
   repeat' (first|refine zad (by repeat' constructor) ?_)
   refine End.nil ⟨rfl,(by simp only [H.get_set,H.get_new];(repeat (first | rw [if_pos trivial] | rw [if_pos (by omega)] | rw [if_neg (by omega)]))<;>first | assumption | rfl),?_⟩
   repeat' (first|apply zac|apply zbo)
   refine Ops.load1 rfl (l:=[sv]) (ro:=false) (by simp only [H.get_set,H.get_new];(repeat (first | rw [if_pos trivial] | rw [if_pos (by omega)] | rw [if_neg (by omega)]))<;>first | assumption | rfl) rfl ?_
   skip
   refine Ops.loadN rfl (l:=[.i k,.i (t.pd k)]) (ro:=false) (by simp only [H.get_set,H.get_new];(repeat (first | rw [if_pos trivial] | rw [if_pos (by omega)] | rw [if_neg (by omega)]))<;>first | assumption | rfl) (by simp) ?_
   skip
   refine Ops.push (N:=h0.nx+3) (new:=[.i k,.i (t.pd k)]) (sv:=sv) (n:=(t.cnts k).length) (cs:=jaL (t.cnts k)) rfl rfl rfl rfl (by omega) rfl rfl (gr.keep (by simp<;>omega) fun q hq=>?_) (by simp<;>omega) (by omega) (by omega) fun v' h' q1 q2 q3 q4=>?_
   ·have:=gr.at_ge hq
    exact (by simp only [H.get_set,H.get_new];(repeat (first | rw [if_pos trivial] | rw [if_pos (by omega)] | rw [if_neg (by omega)]))<;>first | assumption | rfl)
   simp only [H.nx_set,H.nx_new] at q2 q3 q4
   have q4' : ∀ j,j<h0.nx+3->h'.get j=_:=fun j hj=>q4 j (by omega) fun hv=>by have:=(gr.at_ge hv).1;omega
   skip
   refine Ops.store1 rfl rfl ?_ (l:=[sv]) (by rw [q4' _ (by omega)]<;>exact (by simp only [H.get_set,H.get_new];(repeat (first | rw [if_pos trivial] | rw [if_pos (by omega)] | rw [if_neg (by omega)]))<;>first | assumption | rfl)) Nat.zero_lt_one ?_
   ·rcases q1 with ⟨_,_,rfl⟩ | ⟨_,_,_,rfl,_⟩<;>rfl
   repeat' (first|refine zad (by repeat' constructor) ?_|apply zbw)
   refine End.nil ⟨⟨.busy,none,by rw [jab (by omega),q4' _ (by omega)]<;>exact (by simp only [H.get_set,H.get_new];(repeat (first | rw [if_pos trivial] | rw [if_pos (by omega)] | rw [if_neg (by omega)]))<;>first | assumption | rfl)⟩,rfl,?_⟩
   rw [Tb.cnts,if_neg (by omega)]
   refine ⟨⟨v',(by simp only [H.get_set];(repeat (first | rw [if_pos trivial] | rw [if_pos (by omega)] | rw [if_neg (by omega)]))<;>first | assumption | rfl),?_⟩,?_,(by simp only [H.get_set];(repeat (first | rw [if_pos trivial] | rw [if_pos (by omega)] | rw [if_neg (by omega)]))<;>first | assumption | rfl),?_,?_,?_⟩
   ·rw [List.length_append,jdB]
    refine Row.keep q1 (by simp) fun q hq=>?_
    have:=q3 q hq
    exact (by simp only [H.get_set];(repeat (first | rw [if_pos trivial] | rw [if_pos (by omega)] | rw [if_neg (by omega)]))<;>first | assumption | rfl)
   ·rw [jab (by omega),jab (by omega),q4' _ (by omega)]<;>exact (by simp only [H.get_set,H.get_new];(repeat (first | rw [if_pos trivial] | rw [if_pos (by omega)] | rw [if_neg (by omega)]))<;>first | assumption | rfl)
   ·rw [jab (by omega),jab (by omega),q4' _ (by omega)]<;>exact (by simp only [H.get_set,H.get_new];(repeat (first | rw [if_pos trivial] | rw [if_pos (by omega)] | rw [if_neg (by omega)]))<;>first | assumption | rfl)
   ·simp<;>omega
   ·intro j hj
    have:=g6 j hj
    rw [jab (by omega),jab (by omega),q4' _ (by omega)]<;>exact (by simp only [H.get_set,H.get_new];(repeat (first | rw [if_pos trivial] | rw [if_pos (by omega)] | rw [if_neg (by omega)]))<;>first | assumption | rfl))
  (h:=(((h0.new (.cells [.nils] false))).new (.cells [.p b 0] false)).new (LO .ready none))
  (by
   refine ⟨⟨.nils,(by simp only [H.get_new,H.nx_new];(repeat (first | rw [if_pos trivial] | rw [if_pos (by omega)] | rw [if_neg (by omega)]))<;>first | assumption | rfl),Row.nil _ _ _⟩,(by simp only [H.get_new,H.nx_new];(repeat (first | rw [if_pos trivial] | rw [if_pos (by omega)] | rw [if_neg (by omega)]))<;>first | assumption | rfl),(by simp only [H.get_new,H.nx_new];(repeat (first | rw [if_pos trivial] | rw [if_pos (by omega)] | rw [if_neg (by omega)]))<;>first | assumption | rfl),(by simp only [H.get_new,H.nx_new];(repeat (first | rw [if_pos trivial] | rw [if_pos (by omega)] | rw [if_neg (by omega)]))<;>first | assumption | rfl),?_,?_⟩
   ·simp
   ·intro j hj
    exact (by simp only [H.get_new,H.nx_new];(repeat (first | rw [if_pos trivial] | rw [if_pos (by omega)] | rw [if_neg (by omega)]))<;>first | assumption | rfl))
 refine ⟨v,h',hc,.normal,k3,?_⟩
 repeat' (first|apply zab|apply zac|apply zae|apply zbw)
 refine Ops.load1 rfl (l:=[sv]) (ro:=false) (by simp only [H.get_kill,H.nx_new];(repeat (first | rw [if_pos trivial] | rw [if_pos (by omega)] | rw [if_neg (by omega)]))<;>first | assumption | rfl) rfl ?_
 have hkill : ∀ j,j≠h0.nx+2->(h'.kill (h0.nx+2)).get j=h'.get j:=fun j hj=>jaj hj
 have kr0:Row (h0.nx+3) (h'.kill (h0.nx+2)) 2 sv (t.cnts 32).length (jaL (t.cnts 32)) :=
  kr.keep (by simp) fun q hq=>hkill q (by have:=kr.at_ge hq;omega)
 have kb:(h'.kill (h0.nx+2)).get b=some t.obj:=by rw [hkill b (by omega),k4]
 have kq:(h'.kill (h0.nx+2)).get h0.nx=some (.cells [sv] false):=by rw [hkill _ (by omega),k1]
 have kj : ∀ j,j<h0.nx->(h'.kill (h0.nx+2)).get j=h0.get j:=fun j hj=>by rw [hkill j (by omega),k6 j hj]
 have knx:h0.nx+3<=(h'.kill (h0.nx+2)).nx:=k5
 show Ops _ _ h'.nx _ _ _ _ (h'.kill (h0.nx+2)) _
 generalize h'.kill (h0.nx+2)=g0 at kr0 kb kq kj knx ⊢
 clear k1 k2 k3 k4 k5 k6 hkill hc kr
 have hlen:=t.cnts_len 32
 obtain ⟨cap,hsv,hix⟩ : ∃ cap:Cap,(∃ a,sv = .slice a (t.cnts 32).length cap) /\ ∀ i,i<(t.cnts 32).length -> ∃ q,h0.nx+3<=q/\q<g0.nx/\sv = .slice (some (q,0)) (t.cnts 32).length cap/\g0.get q=some (.cells (jaL (t.cnts 32)) false):=by
  rcases kr0 with ⟨e1,_,rfl⟩ | ⟨q,e1,e2,rfl,e4,_⟩
  ·exact ⟨.fix 0,⟨none,by rw [e1]⟩,fun i hi=>by omega⟩
  ·exact ⟨.grow 2,⟨_,rfl⟩,fun i _=>⟨q,e1,e2,rfl,e4⟩⟩
 obtain ⟨a,rfl⟩:=hsv
 repeat' (first|refine zaa rfl ?_|refine zad (by repeat' constructor) ?_|refine zau rfl rfl ?_|apply zbo|apply zae)
 refine Run.loop (fun m e h=>∃ i:Nat,m=(t.cnts 32).length-i/\i<=(t.cnts 32).length/\e=[(0,.p b 0),(3,.p h0.nx 0),(14,.slice a (t.cnts 32).length cap),(15,.i (t.cnts 32).length),(16,.i i)] /\
   g0.nx<=h.nx/\h.get b=some (Tb.obj ⟨t.hd,jen ((t.cnts 32).take i) t.pd⟩) /\ ∀ j,j<g0.nx->j≠b->h.get j=g0.get j)
  (k:=(t.cnts 32).length) (by show _<100000;omega) ⟨0,rfl,by omega,rfl,Nat.le_refl _,by rw [kb];rfl,fun _ _ _=>rfl⟩ ?_
 rintro _ _ h ⟨i,rfl,hi,rfl,u1,u2,u3⟩ n ih
 repeat' (first|refine zad (by repeat' constructor) ?_|refine zaf rfl rfl ?_|apply zab|apply zac|refine zbm rfl (fun _=>?_) fun _=>?_|apply zbo|apply zbp|apply zbr|apply zae|apply zbv|apply zby|apply zcb)
 ·have hi':i<(t.cnts 32).length:=by omega
  obtain ⟨q,x1,x2,x3,x4⟩:=hix i hi'
  cases x3
  have hp:=List.getElem?_eq_getElem hi'
  generalize (t.cnts 32)[i]=p at hp
  have hmem:=Tb.cnts_mem (List.mem_of_getElem? hp)
  refine Ops.ixaS rfl rfl (by omega) ?_
  have xq:h.get q=some (.cells (jaL (t.cnts 32)) false):=by rw [u3 q x2 (by omega),x4]
  refine Ops.loadN rfl xq (by rw [jdA];omega) ?_
  have htk:List.take 2 (List.drop (0+(i:Int).toNat*2) (jaL (t.cnts 32)))=[.i p.1,.i p.2]:=by
   rw [show 0+(i:Int).toNat*2=i*2 by omega]
   exact jfj _ _ _ hp
  rw [htk]
  refine Ops.make rfl rfl ?_
  skip
  refine Ops.storeN rfl rfl rfl rfl (jad _) (by simp) ?_
  repeat' (first|refine zaa rfl ?_|refine zad (by repeat' constructor) ?_|refine zau rfl rfl ?_|apply zac|apply zae)
  refine Ops.load1 rfl (l:=[.i p.1,.i p.2]) (ro:=false) (by simp only [H.get_set,H.get_new];(repeat (first | rw [if_pos trivial] | rw [if_pos (by omega)] | rw [if_neg (by omega)]))<;>first | assumption | rfl) rfl ?_
  repeat' (first|refine zau rfl rfl ?_|refine zax rfl rfl (by omega) ?_)
  have ub:h.get b=some (.cells (sgc t.hd (jen ((t.cnts 32).take i) t.pd)) false):=u2
  refine Ops.store1 rfl rfl rfl (l:=sgc t.hd (jen ((t.cnts 32).take i) t.pd)) (by simp only [H.get_set,H.get_new];(repeat (first | rw [if_pos trivial] | rw [if_pos (by omega)] | rw [if_neg (by omega)]))<;>first | assumption | rfl) (by rw [jdE];omega) ?_
  rw [jeL (k:=p.1) (by omega)]
  repeat' (first|refine zaa rfl ?_|refine zad (by repeat' constructor) ?_|refine zal rfl rfl ⟨by omega,by omega⟩ ?_|apply zac|apply zae|apply zbw)
  refine ih ((t.cnts 32).length-(i+1)) (by omega) _ _ ⟨i+1,rfl,by omega,rfl,?_,?_,fun j hj hjb=>?_⟩
  ·simp<;>omega
  ·rw [jaa]
   have e1:(fun j=>if j=p.1 then (0:Int) else jen ((t.cnts 32).take i) t.pd j)=jen ((t.cnts 32).take (i+1)) t.pd:=by
    funext j
    unfold jen
    rw [List.take_add_one,hp,List.any_append]
    by_cases e2:j=p.1
    ·subst e2;simp
    ·have:(p.1 == j)=false:=by simp;omega
     rw [if_neg e2]
     simp only [Option.toList,List.any_cons,List.any_nil,this,Bool.or_false]
   rw [e1];rfl
  ·have:=u3 j hj hjb
   exact (by simp only [H.get_set,H.get_new];(repeat (first | rw [if_pos trivial] | rw [if_pos (by omega)] | rw [if_neg (by omega)]))<;>first | assumption | rfl)
 ·have hi':i=(t.cnts 32).length:=by omega
  subst hi'
  refine Ops.load1 rfl (l:=[.slice a (t.cnts 32).length cap]) (ro:=false) (by rw [u3 _ (by omega) (by omega),kq]) rfl ?_
  repeat' (first|refine zaa rfl ?_|refine zad (by repeat' constructor) ?_|apply zbq|apply zae|refine zcc rfl ?_)
  refine ⟨Row.keep (Row.weaken (N:=h0.nx+3) (by omega) kr0) u1 fun q hq=>u3 q (kr0.at_ge hq).2 (by have:=kr0.at_ge hq;omega),?_,by omega,fun j hj hjb=>by rw [u3 j (by omega) hjb,kj j hj]⟩
  rw [u2]
  have e1:(Tb.obj ⟨t.hd,jen ((t.cnts 32).take (t.cnts 32).length) t.pd⟩)=t.take.obj:=by
   have:jen ((t.cnts 32).take (t.cnts 32).length) t.pd=fun j=>if 1<=j/\j<32 then 0 else t.pd j:=by
    funext j
    unfold jen
    rw [List.take_length]
    by_cases e2:1<=j/\j<32
    ·rw [if_pos e2]
     by_cases e3:t.pd j=0
     ·rw [e3];simp
     ·rw [if_pos]
      rw [List.any_eq_true]
      exact ⟨_,Tb.mem_cnts e2.1 e2.2 e3,by simp⟩
    ·rw [if_neg e2,if_neg]
     rw [List.any_eq_true]
     rintro ⟨p,h1,h2⟩
     have:=Tb.cnts_mem h1
     simp at h2
     omega
   rw [this];rfl
  rw [e1]
end Am.Sigs
namespace Am.Sigs
open Am Go
def Old (h h':H):Prop:=h.nx<=h'.nx /\ ∀ j,j<h.nx->h'.get j=h.get j
theorem Old.refl (h:H):Old h h:=⟨Nat.le_refl _,fun _ _=>rfl⟩
theorem Old.trans {h h1 h2:H} (a:Old h h1) (b:Old h1 h2):Old h h2:=⟨Nat.le_trans a.1 b.1,fun j hj=>by rw [b.2 j (Nat.lt_of_lt_of_le hj a.1),a.2 j hj]⟩
theorem Old.ch {h h':H} {B:Nat->Prop} (a:Old h h'):Ch B h h':=⟨a.1,fun j hj _=>a.2 j hj⟩
theorem RW.old {h h':H} {rw q:Nat} {l:List RX} {tl:List V} (w:RW h rw q l tl) (a:Old h h'):RW h' rw q l tl :=
 ⟨Nat.lt_of_lt_of_le w.lw a.1,Nat.lt_of_lt_of_le w.lq a.1,w.ne,fun hl=>⟨by rw [a.2 _ w.lw,(w.at_ hl).hw],by rw [a.2 _ w.lq,(w.at_ hl).hq],w.ne⟩,fun hl=>by rw [a.2 _ w.lw,w.nil hl],fun s hs=>(w.ok s hs).keep a.ch⟩
noncomputable def jau (ws:Ws) (n:Nat):List Int:=((List.range n).filter fun i:Nat=>(atS ws (i:Int)).isNone).map fun i:Nat=>(i:Int)
theorem jcd (ws:Ws) (n:Nat):jau ws (n+1)=jau ws n++if (atS ws (n:Int)).isNone then [(n:Int)] else []:=by
 unfold jau
 rw [List.range_succ,List.filter_append,List.map_append]
 congr 1
 by_cases h:(atS ws (n:Int)).isNone<;>simp [h]
theorem jga (ws:Ws) (n:Nat):(jau ws n).length<=n:=by
 unfold jau
 rw [List.length_map]
 exact Nat.le_trans (List.length_filter_le _ _) (by simp)
theorem VI.ofRow {h:H} {v:V} {l:List Int} {N:Nat} (r:Row N h 1 v l.length (ints l)):VI h v l /\ ∀ z,v.at?=some z->N<=z/\z<h.nx:=by
 refine ⟨?_,fun z hz=>r.at_ge hz⟩
 rcases r with ⟨h1,h2,rfl⟩ | ⟨b,h1,h2,rfl,h4,h5⟩
 ·have:l=[]:=by simpa using h1
  subst this;exact VI.nil h
 ·exact ⟨_,_,rfl,fun e=>by (cases e),rfl,fun _=>⟨b,0,_,false,rfl,h2,h4,fun i x hi=>by rw [Nat.zero_add,List.getElem?_map,hi];rfl⟩⟩
section
variable {cl:Nat->Call} (hcl:Sem cl)
include hcl
theorem jkH {d rw q:Nat} {h:H} {l:List RX} {tl:List V} (hd:2<=d) (w:RW h rw q l tl) (o:WsOk (l.map RX.x)) :
  ∃ v h',cl d (.fn F.jbc) [.p rw 0] h=some (v,h')/\VI h' v (jau (l.map RX.x) 96)/\Old h h' /\ ∀ z,v.at?=some z->h.nx<=z/\z<h'.nx:=by
 refine at_ hcl (by omega) rfl rfl rfl ?_
 repeat' (first|refine zaa rfl ?_|refine zad (by repeat' constructor) ?_|apply zab|apply zac|apply zbo|apply zae)
 refine Run.loop (fun m e g=>∃ (n:Nat) (v:V),m=96-n/\n<=96/\e=[(0,.p rw 0),(3,v),(4,.i n)]/\Row h.nx g 1 v (jau (l.map RX.x) n).length (ints (jau (l.map RX.x) n))/\Old h g)
  (k:=96) (by show _<100000;omega) ⟨0,.nils,rfl,by omega,rfl,Row.nil _ _ _,Old.refl h⟩ ?_
 rintro _ _ g ⟨n,v,rfl,hn,rfl,row,old⟩ f ih
 have wg:=w.old old
 by_cases hlt:n<=95
 case neg=>
  obtain rfl:n=96:=by omega
  have hlt' : ¬ ((96:Nat):Int)<=95:=by omega
  repeat' (first|refine zaa rfl ?_|refine zad (by repeat' constructor) ?_|refine zai rfl rfl ?_|apply zab|apply zac|refine zbj rfl ‹_› ?_|apply zbq|apply zbr|apply zae|refine zcc rfl ?_|apply zbv|apply zby|apply zcb)
  obtain ⟨p1,p2⟩:=VI.ofRow row
  exact ⟨p1,old,p2⟩
 have hn1:((n+1:Nat):Int)=(n:Int)+1:=by omega
 rcases jdw hcl (d:=d-1) (fd:=(n:Int)) (by omega) wg o with ⟨hno,ea⟩ | ⟨m,k,r,hat,hr,hk,ea⟩
 ·have hs:jau (l.map RX.x) (n+1)=jau (l.map RX.x) n++[(n:Int)]:=by rw [jcd,jeA hno];rfl
  repeat' (first|refine zaa rfl ?_|refine zaw rfl ‹_› ?_|refine zad (by repeat' constructor) ?_|refine zaf rfl rfl ?_|refine zai rfl rfl ?_|refine zau rfl rfl ?_|apply zab|apply zac|refine zbi rfl (by omega) ?_|apply zbo|apply zbp|apply zae)
  refine Ops.push (N:=h.nx) (new:=[.i (n:Int)]) rfl rfl rfl rfl (by omega) rfl rfl row old.1 (by have:=jga (l.map RX.x) n;omega) (by have:=jga (l.map RX.x) n;omega) fun v' g' row' hx' hz' hk'=>?_
  repeat' (first|refine zaa rfl ?_|refine zad (by repeat' constructor) ?_|refine zal rfl rfl ⟨by omega,by omega⟩ ?_|apply zac|apply zae|apply zbw)
  refine ih (96-(n+1)) (by omega) _ _ ⟨n+1,v',rfl,by omega,by rw [hn1],?_,Nat.le_trans old.1 hx',fun j hj=>?_⟩
  ·rw [hs,List.length_append]
   simpa [ints] using row'
  ·rw [hk' j (Nat.lt_of_lt_of_le hj old.1) (fun e=>by have:=row.at_ge e;omega),old.2 j hj]
 ·have hs:jau (l.map RX.x) (n+1)=jau (l.map RX.x) n:=by rw [jcd,jdj o.uniq hat];simp
  repeat' (first|refine zaa rfl ?_|refine zaw rfl ‹_› ?_|refine zad (by repeat' constructor) ?_|refine zaf rfl rfl ?_|refine zal rfl rfl ⟨by omega,by omega⟩ ?_|refine zai rfl rfl ?_|refine zau rfl rfl ?_|apply zab|apply zac|refine zbi rfl (by omega) ?_|refine zbj rfl (by omega) ?_|apply zbo|apply zbp|apply zae|apply zbw)
  exact ih (96-(n+1)) (by omega) _ _ ⟨n+1,v,rfl,by omega,by rw [hn1],by rw [hs];exact row,old⟩
end
end Am.Sigs
namespace Am.Sigs
open Am Go
theorem Wi.take_silent {x:Wi} {k m:Nat} {q:List UInt8} (hk:k=0\/k=1):(x.take k m q).silent k=x.silent k:=by
 rcases hk with rfl | rfl<;>simp [Wi.take,Wi.setq,Wi.came,Wi.put,Wi.e,En.came,Wi.silent]
section
variable {cl:Nat->Call} (hcl:Sem cl)
include hcl
theorem jjd {d w s wsb wn n wb r0 r1:Nat} {h:H} {wl wsl:List V} {wcap:Cap} {x:Wi} {wv:V} (hd:2<=d) (A:WAt h w wl s wsb wn wcap wsl) (hn:n<wn) (hat:wsl[n]?=some (.p wb 0)) (hx:h.get wb=some (x.obj r0 r1 wv)) (h2:x.e1.what=2) :
  cl d (.fn F.jbX) [.p w 0,.i (n:Int)] h=some (.tup [.p wb 0,.i 0],h):=by
 obtain ⟨hw,hs,hws,hb⟩:=A
 refine jaq (at_ hcl (by omega) rfl rfl rfl ?_)
 have hno:=jiu hcl (d:=d-1) (by omega) hw hs
 have f1:wsl[0+(n:Int).toNat*1]?=some (.p wb 0):=by rw [show 0+(n:Int).toNat*1=n by omega];exact hat
 have f2:(x.cells r0 r1 wv)[0+0+(1:Int).toNat*7+0]?=some (.i 2):=by rw [<- h2];exact Wi.what_cell (k:=1) (.inr rfl) rfl
 unfold Wi.obj at hx
 repeat' (first|refine zaa rfl ?_|refine zav rfl ‹_› ‹_› ?_|refine zaw rfl ‹_› ?_|refine zad (by repeat' constructor) ?_|refine zbb rfl (by omega) ?_|refine zaf rfl rfl ?_|refine zah rfl rfl ?_|refine zak rfl rfl ?_|refine zar rfl (by omega) rfl ?_|refine zau rfl rfl ?_|refine zay rfl rfl (by omega) ?_|apply zab|apply zac|refine zbj rfl (by first|omega|exact fun h=>h rfl) ?_|refine zbl rfl rfl ?_|apply zbo|apply zbp|apply zbq|apply zae|apply zbw|refine zcf rfl ?_)
 exact ⟨rfl,rfl⟩
theorem wp_Put {d w s wsb wn n wb r0 r1 b:Nat} {h0:H} {wl wsl:List V} {wcap:Cap} {x:Wi} {wv:V} {q l:List UInt8} {a:Option (Nat × Nat)} {c:Cap} (hd:8<=d) (A:WAt h0 w wl s wsb wn wcap wsl) (hn:n<wn) (hat:wsl[n]?=some (.p wb 0)) (hx:h0.get wb=some (x.obj r0 r1 wv))
  (h2:x.e1.what=2) (hr:x.reset=false) (hs1:x.e1.shut=false) (h3:x.e0.what≠3) (hq:x.e0.ring=some q) (R:ja0 h0 r0 b q x.cap) (l1:wb<h0.nx) (l2:r0<h0.nx) (l3:b<h0.nx) (n1:r0≠b) (n2:wb≠r0) (n3:wb≠b) (hl:BytesAt h0 a c l) (hll:l.length<=1000000000)
  (hne : ∀ z o,a=some (z,o)->l≠[]->z≠b/\z≠r0) :
  ∃ h',cl d (.fn F.jbp) [.p w 0,.i (n:Int),.slice a l.length c] h0=some (.tup [.i ((min l.length (x.cap-q.length):Nat):Int),.i 0],h')/\h'.get wb=some ((x.fill 1 (min l.length (x.cap-q.length)) q l).obj r0 r1 wv) /\
   ja0 h' r0 b (q++l.take (min l.length (x.cap-q.length))) x.cap/\Ch (fun j=>j=wb\/j=r0\/j=b) h0 h':=by
 have ho:=jjd hcl (d:=d-1) (by omega) A hn hat hx h2
 obtain ⟨h1,e1,p1,p2,p3⟩:=jky hcl (d:=d-1) (k:=1) (by omega) hx (.inr rfl) hq R l1 l2 l3 n1 n2 n3 hl hll hne
 have f1:(x.cells r0 r1 wv)[0+14]?=some (.bool false):=by rw [<- hr];exact Wi.reset_cell rfl
 have f2:(x.cells r0 r1 wv)[0+0+(1:Int).toNat*7+4]?=some (.bool false):=by rw [<- hs1];exact Wi.shut_cell (k:=1) (.inr rfl) rfl
 have f3:(x.cells r0 r1 wv)[0+0+(0:Int).toNat*7+0]?=some (.i x.e0.what):=Wi.what_cell (k:=0) (.inl rfl) rfl
 unfold Wi.obj at hx
 refine jal (at_ hcl (by omega) rfl rfl rfl ?_)
 repeat' (first|refine zaa rfl ?_|refine zav rfl ‹_› ‹_› ?_|refine zaw rfl ‹_› ?_|refine zad (by repeat' constructor) ?_|refine zbd rfl rfl ?_|refine zag rfl rfl ?_|refine zah rfl rfl ?_|refine zat rfl rfl rfl ?_|refine zau rfl rfl ?_|apply zab|apply zac|refine zbj rfl (by first|assumption|omega) ?_|refine zbl rfl rfl ?_|apply zbo|apply zbp|apply zbq|apply zae|apply zbw|refine zcf rfl ?_)
 exact ⟨rfl,p1,p2,p3⟩
theorem wp_Take {d w s wsb wn n wb r0 r1 b:Nat} {h0:H} {wl wsl:List V} {wcap:Cap} {x:Wi} {wv:V} {q:List UInt8} {t:Int} (hd:9<=d) (A:WAt h0 w wl s wsb wn wcap wsl) (hn:n<wn) (hat:wsl[n]?=some (.p wb 0)) (hx:h0.get wb=some (x.obj r0 r1 wv))
  (h2:x.e1.what=2) (hr:x.reset=false) (ht:0<=t) (hq:x.e1.ring=some q) (R:ja0 h0 r1 b q x.cap) (l1:wb<h0.nx) (l2:r1<h0.nx) (l3:b<h0.nx) (n1:r1≠b) (n2:wb≠r1) (n3:wb≠b) :
  ∃ v h',cl d (.fn F.jbj) [.p w 0,.i (n:Int),.i t] h0=some (.tup [v,.i 0],h')/\Row h0.nx h' 1 v (min t q.length).toNat (bts (q.take (min t q.length).toNat))/\((min t q.length).toNat=0->v = .nils)/\h'.get wb=some ((x.take 1 (min t q.length).toNat q).obj r0 r1 wv) /\
   ja0 h' r1 b (q.drop (min t q.length).toNat) x.cap/\Ch (fun j=>j=wb\/j=r1) h0 h':=by
 have ho:=jjd hcl (d:=d-1) (by omega) A hn hat hx h2
 obtain ⟨v,h1,e1,row,hnil,p1,p2,p3⟩:=jkw hcl (d:=d-1) (k:=1) (n:=t) (by omega) hx (.inr rfl) hq R l1 l2 l3 n1 n2 n3
 have f1:(x.cells r0 r1 wv)[0+14]?=some (.bool false):=by rw [<- hr];exact Wi.reset_cell rfl
 unfold Wi.obj at hx
 suffices ∃ v2 h',cl d (.fn F.jbj) [.p w 0,.i (n:Int),.i t] h0=some (v2,h')/\v2 = .tup [v,.i 0]/\h'=h1 by
  obtain ⟨v2,h',q1,q2,q3⟩:=this
  subst q2 q3
  exact ⟨v,h',q1,row,hnil,p1,p2,p3⟩
 refine at_ hcl (by omega) rfl rfl rfl ?_
 repeat' (first|refine zaa rfl ?_|refine zav rfl ‹_› ‹_› ?_|refine zaw rfl ‹_› ?_|refine zad (by repeat' constructor) ?_|refine zaf rfl rfl ?_|refine zah rfl rfl ?_|refine zau rfl rfl ?_|apply zab|apply zac|refine zbj rfl (by first|assumption|omega) ?_|refine zbl rfl rfl ?_|apply zbo|apply zbp|apply zbq|apply zae|apply zbw|refine zcf rfl ?_)
 exact ⟨rfl,rfl⟩
theorem wp_Read {d w s wsb wn fd n k wb r0 r1 b:Nat} {h0:H} {wl wsl:List V} {wcap:Cap} {x:Wi} {wv:V} {q:List UInt8} {t:Int} (hd:9<=d) (A:WAt h0 w wl s wsb wn wcap wsl) (B:FdAt wl wsl wn fd n k wb) (hx:h0.get wb=some (x.obj r0 r1 wv))
  (hr:x.reset=false) (ht:1<=t) (hq:(x.e k).ring=some q) (R:ja0 h0 (two r0 r1 k) b q x.cap) (lw:w<h0.nx) (lb:wsb<h0.nx) (l1:wb<h0.nx) (l2:two r0 r1 k<h0.nx) (l3:b<h0.nx) (n1:two r0 r1 k≠b) (n2:wb≠two r0 r1 k) (n3:wb≠b) :
  ∃ v h',cl d (.fn F.jaM) [.p w 0,.i (fd:Int),.i t] h0=some (.tup [v,.bool (decide (q=[])&&x.silent k),.i (if q=[]/\x.silent k=false then 113 else 0)],h') /\
   Row h0.nx h' 1 v (min t q.length).toNat (bts (q.take (min t q.length).toNat))/\((min t q.length).toNat=0->v = .nils)/\h'.get wb=some ((x.take k (min t q.length).toNat q).obj r0 r1 wv) /\
   ja0 h' (two r0 r1 k) b (q.drop (min t q.length).toNat) x.cap/\Ch (fun j=>j=wb\/j=two r0 r1 k) h0 h':=by
 obtain ⟨h1,e1,c1,x1⟩:=jiv hcl (d:=d-1) (by omega) A B lw lb
 have hk:=B.k01
 let h2:=(h1.new (.cells [.bool false,.i 0,.i 0] false)).set h1.nx (.cells [.bool true,.i (n:Int),.i (k:Int)] false)
 have g2 : ∀ j,j<h0.nx->h2.get j=h0.get j:=fun j hj=>by
  show (H.set _ _ _).get j=_
  rw [jab (by omega),jac (by omega),c1.get j hj id]
 have y2:h2.nx=h0.nx+2:=by show h1.nx+1=_;omega
 have hx2:h2.get wb=some (x.obj r0 r1 wv):=by rw [g2 wb l1,hx]
 have R2:=R.keep (g2 _ l2) (g2 _ l3)
 obtain ⟨v,h3,e3,row,hnil,p1,p2,p3⟩:=jkw hcl (d:=d-1) (k:=k) (n:=t) (by omega) hx2 hk hq R2 (by omega) (by omega) (by omega) n1 n2 n3
 have hsil:=jh2 hcl (d:=d-1) (by omega) p1 hk
 rw [Wi.take_silent hk] at hsil
 have f1:(x.cells r0 r1 wv)[0+14]?=some (.bool false):=by rw [<- hr];exact Wi.reset_cell rfl
 have f2:=Wi.ring_cell (x:=x) (r0:=r0) (r1:=r1) (wv:=wv) hk hq (o:=0+0+(k:Int).toNat*7+2) (by omega)
 have hp3:h3.get h1.nx=some (.cells [.bool true,.i (n:Int),.i (k:Int)] false):=by
  rw [p3.get h1.nx (by omega) (by omega)];exact jaa _
 have fin:Row h0.nx h3 1 v (min t q.length).toNat (bts (q.take (min t q.length).toNat))/\((min t q.length).toNat=0->v = .nils)/\h3.get wb=some ((x.take k (min t q.length).toNat q).obj r0 r1 wv) /\
   ja0 h3 (two r0 r1 k) b (q.drop (min t q.length).toNat) x.cap/\Ch (fun j=>j=wb\/j=two r0 r1 k) h0 h3 :=
  ⟨row.weaken (by omega),hnil,p1,p2,by have:=p3.nx;omega,fun j hj hn=>by rw [p3.get j (by omega) hn,g2 j hj]⟩
 suffices ∃ v2 h',cl d (.fn F.jaM) [.p w 0,.i (fd:Int),.i t] h0=some (v2,h')/\v2 = .tup [v,.bool (decide (q=[])&&x.silent k),.i (if q=[]/\x.silent k=false then 113 else 0)]/\h'=h3 by
  obtain ⟨v2,h',q1,q2,q3⟩:=this
  subst q2 q3
  exact ⟨v,h',q1,fin⟩
 clear fin p2
 obtain ⟨c,⟨a,rfl⟩,hrow⟩:=row.shape
 unfold Wi.obj at hx2
 have hq0:q=[]↔(min t (q.length:Int)).toNat=0:=by
  rw [<- List.length_eq_zero_iff];omega
 refine at_ hcl (by omega) rfl rfl rfl ?_
 repeat' (first|refine zaa rfl ?_|refine zad (by repeat' constructor) ?_|apply zab|apply zac|apply zae)
 refine Ops.callf rfl e1 ?_
 repeat' (first|refine zaa rfl ?_|refine zau rfl rfl ?_)
 refine Ops.make rfl rfl ?_
 skip
 refine Ops.storeN rfl rfl rfl rfl (jad _) (Nat.le_of_ble_eq_true rfl) ?_
 have gp:h2.get h1.nx=some (.cells [.bool true,.i (n:Int),.i (k:Int)] false):=jaa _
 rw [show ((h1.new (.cells [.bool false,.i 0,.i 0] false)).set h1.nx (.cells (jas [.bool false,.i 0,.i 0] 0 [.bool true,.i (n:Int),.i (k:Int)]) false))=h2 from rfl]
 clear_value h2
 by_cases hq1:q=[]
 ·have hm:(min t (q.length:Int)).toNat=0:=hq0.1 hq1
  have hv:=hnil hm
  rw [hm] at e3 hv
  rw [hm,hv]
  cases hsl:x.silent k
  ·rw [hsl] at hsil
   repeat' (first|refine zaa rfl ?_|refine zav rfl ‹_› (by first|assumption|rfl) ?_|refine zaw rfl ‹_› ?_|refine zad (by repeat' constructor) ?_|refine zaf rfl rfl ?_|refine zah rfl rfl ?_|refine zaj rfl rfl ?_|refine zau rfl rfl ?_|refine zax rfl rfl (by omega) ?_|apply zab|apply zac|refine zbj rfl (by first|assumption|omega) ?_|refine zbl rfl rfl ?_|apply zbo|apply zbp|apply zbq|apply zae|apply zbw|refine zcf rfl ?_)
   exact ⟨by simp [hq1],rfl⟩
  ·rw [hsl] at hsil
   repeat' (first|refine zaa rfl ?_|refine zav rfl ‹_› (by first|assumption|rfl) ?_|refine zaw rfl ‹_› ?_|refine zad (by repeat' constructor) ?_|refine zaf rfl rfl ?_|refine zah rfl rfl ?_|refine zaj rfl rfl ?_|refine zau rfl rfl ?_|refine zax rfl rfl (by omega) ?_|apply zab|apply zac|refine zbj rfl (by first|assumption|omega) ?_|refine zbk rfl rfl ?_|refine zbl rfl rfl ?_|apply zbo|apply zbp|apply zbq|apply zae|apply zbw|apply zbu|refine zcf rfl ?_)
   exact ⟨by simp [hq1],rfl⟩
 ·have hm : ¬ (min t (q.length:Int)).toNat=0:=fun e=>hq1 (hq0.2 e)
  repeat' (first|refine zaa rfl ?_|refine zav rfl ‹_› (by first|assumption|rfl) ?_|refine zaw rfl ‹_› ?_|refine zad (by repeat' constructor) ?_|refine zaf rfl rfl ?_|refine zah rfl rfl ?_|refine zaj rfl rfl ?_|refine zau rfl rfl ?_|refine zax rfl rfl (by omega) ?_|apply zab|apply zac|refine zbi rfl (by first|assumption|omega) ?_|refine zbj rfl (by first|assumption|omega) ?_|refine zbl rfl rfl ?_|apply zbo|apply zbp|apply zbq|apply zae|apply zbw|apply zbu|refine zcf rfl ?_)
  exact ⟨by simp [hq1],rfl⟩
end
end Am.Sigs
namespace Am.Sigs
open Am Go
theorem Wi.came_ff (x:Wi) (k:Nat):x.came k false false=x:=by
 match k with
 | 0=>simp [Wi.came,Wi.put,Wi.e,En.came]
 | n+1=>simp [Wi.came,Wi.put,Wi.e,En.came]
theorem Wi.fill_zero {x:Wi} {r0 r1 k:Nat} {wv:V} {q l:List UInt8} (_hk:k=0\/k=1) (hq:(x.e (1-k)).ring=some q):(x.fill k 0 q l).obj r0 r1 wv=x.obj r0 r1 wv:=by
 unfold Wi.fill Wi.obj
 rw [show decide (0<0)=false from rfl,Wi.came_ff,Wi.setq_cells (by omega) hq]
section
variable {cl:Nat->Call} (hcl:Sem cl)
include hcl
theorem wp_Write {d w s wsb wn fd n k wb r0 r1 b:Nat} {h0:H} {wl wsl:List V} {wcap:Cap} {x:Wi} {wv:V} {q l:List UInt8} {a:Option (Nat × Nat)} {c:Cap} (hd:9<=d) (A:WAt h0 w wl s wsb wn wcap wsl) (B:FdAt wl wsl wn fd n k wb) (hx:h0.get wb=some (x.obj r0 r1 wv))
  (hwr:(x.e k).writes=true) (hr:x.reset=false) (hsh:(x.e k).shut=false) (h3:(x.e (1-k)).what≠3) (hq:(x.e (1-k)).ring=some q) (R:ja0 h0 (two r0 r1 (1-k)) b q x.cap) (lw:w<h0.nx) (lb:wsb<h0.nx) (l1:wb<h0.nx) (l2:two r0 r1 (1-k)<h0.nx) (l3:b<h0.nx)
  (n1:two r0 r1 (1-k)≠b) (n2:wb≠two r0 r1 (1-k)) (n3:wb≠b) (hl:BytesAt h0 a c l) (hll:l.length<=1000000000) (hne : ∀ z o,a=some (z,o)->l≠[]->z≠b/\z≠two r0 r1 (1-k)) :
  ∃ h',cl d (.fn F.jaD) [.p w 0,.i (fd:Int),.slice a l.length c] h0=some (.tup [.i ((min l.length (x.cap-q.length):Nat):Int),.i (if min l.length (x.cap-q.length)=0/\l≠[] then 113 else 0)],h') /\
   h'.get wb=some ((x.fill k (min l.length (x.cap-q.length)) q l).obj r0 r1 wv)/\ja0 h' (two r0 r1 (1-k)) b (q++l.take (min l.length (x.cap-q.length))) x.cap/\Ch (fun j=>j=wb\/j=two r0 r1 (1-k)\/j=b) h0 h':=by
 obtain ⟨h1,e1,c1,x1⟩:=jiv hcl (d:=d-1) (by omega) A B lw lb
 have hk:=B.k01
 let h2:=(h1.new (.cells [.bool false,.i 0,.i 0] false)).set h1.nx (.cells [.bool true,.i (n:Int),.i (k:Int)] false)
 have g2 : ∀ j,j<h0.nx->h2.get j=h0.get j:=fun j hj=>by
  show (H.set _ _ _).get j=_
  rw [jab (by omega),jac (by omega),c1.get j hj id]
 have y2:h2.nx=h0.nx+2:=by show h1.nx+1=_;omega
 have hx2:h2.get wb=some (x.obj r0 r1 wv):=by rw [g2 wb l1,hx]
 have R2:=R.keep (g2 _ l2) (g2 _ l3)
 have hl2:BytesAt h2 a c l:=⟨hl.none_,hl.fits,fun hn=>by
  obtain ⟨z,o,cs,ro,q1,q2,q3,q4⟩:=hl.at_ hn
  exact ⟨z,o,cs,ro,q1,by omega,by rw [g2 z q2,q3],q4⟩⟩
 obtain ⟨h3',e3,p1,p2,p3⟩:=jky hcl (d:=d-1) (k:=k) (by omega) hx2 hk hq R2 (by omega) (by omega) (by omega) n1 n2 n3 hl2 hll hne
 have f1:(x.cells r0 r1 wv)[0+14]?=some (.bool false):=by rw [<- hr];exact Wi.reset_cell rfl
 have f2:(x.cells r0 r1 wv)[0+0+(k:Int).toNat*7+3]?=some (.bool true):=by rw [<- hwr];exact Wi.writes_cell hk (by omega)
 have f3:(x.cells r0 r1 wv)[0+0+(k:Int).toNat*7+4]?=some (.bool false):=by rw [<- hsh];exact Wi.shut_cell hk (by omega)
 have f4:(x.cells r0 r1 wv)[0+0+((1:Int)-(k:Int)).toNat*7+0]?=some (.i (x.e (1-k)).what):=Wi.what_cell (by omega) (by omega)
 have gp:h2.get h1.nx=some (.cells [.bool true,.i (n:Int),.i (k:Int)] false):=jaa _
 have hp3:h3'.get h1.nx=some (.cells [.bool true,.i (n:Int),.i (k:Int)] false):=by
  rw [p3.get h1.nx (by omega) (by
   rintro (e | e | e)<;>omega)];exact gp
 generalize hm:min l.length (x.cap-q.length)=m at e3 p1 p2 ⊢
 unfold Wi.obj at hx2
 refine jal (at_ hcl (by omega) rfl rfl rfl ?_)
 repeat' (first|refine zaa rfl ?_|refine zad (by repeat' constructor) ?_|apply zab|apply zac|apply zae)
 refine Ops.callf rfl e1 ?_
 repeat' (first|refine zaa rfl ?_|refine zau rfl rfl ?_)
 refine Ops.make rfl rfl ?_
 skip
 refine Ops.storeN rfl rfl rfl rfl (jad _) (Nat.le_of_ble_eq_true rfl) ?_
 rw [show ((h1.new (.cells [.bool false,.i 0,.i 0] false)).set h1.nx (.cells (jas [.bool false,.i 0,.i 0] 0 [.bool true,.i (n:Int),.i (k:Int)]) false))=h2 from rfl]
 clear_value h2
 by_cases hl0:l=[]
 ·have hm0:m=0:=by rw [<- hm,hl0];simp
  have hlen0:(l.length:Int)=0:=by rw [hl0];rfl
  repeat' (first|refine zaa rfl ?_|refine zav rfl ‹_› (by first|assumption|rfl) ?_|refine zad (by repeat' constructor) ?_|refine zbd rfl rfl ?_|refine zag rfl rfl ?_|refine zah rfl rfl ?_|refine zam rfl rfl ⟨by omega,by omega⟩ ?_|refine zat rfl rfl rfl ?_|refine zao rfl ?_|refine zau rfl rfl ?_|refine zax rfl rfl (by omega) ?_|apply zab|apply zac|refine zbi rfl ‹_› ?_|refine zbj rfl (by first|assumption|omega) ?_|refine zbl rfl rfl ?_|apply zbo|apply zbq|apply zae|apply zbu|apply zbx|refine zcf rfl ?_)
  refine ⟨by simp [hm0,hl0],?_,?_,by omega,fun j hj _=>g2 j hj⟩
  ·rw [hm0,Wi.fill_zero hk hq,Wi.obj,hx2]
  ·rw [hm0];simpa using R2
 ·have hlen0 : ¬ (l.length:Int)=0:=by
   have:l.length≠0:=fun e=>hl0 (List.length_eq_zero_iff.1 e)
   omega
  have fin:h3'.get wb=some ((x.fill k m q l).obj r0 r1 wv)/\ja0 h3' (two r0 r1 (1-k)) b (q++l.take m) x.cap/\Ch (fun j=>j=wb\/j=two r0 r1 (1-k)\/j=b) h0 h3' :=
   ⟨p1,p2,by have:=p3.nx;omega,fun j hj hn=>by rw [p3.get j (by omega) hn,g2 j hj]⟩
  by_cases hm0:m=0
  ·repeat' (first|refine zaa rfl ?_|refine zav rfl ‹_› (by first|assumption|rfl) ?_|refine zaw rfl ‹_› ?_|refine zad (by repeat' constructor) ?_|refine zbd rfl rfl ?_|refine zag rfl rfl ?_|refine zah rfl rfl ?_|refine zam rfl rfl ⟨by omega,by omega⟩ ?_|refine zat rfl rfl rfl ?_|refine zao rfl ?_|refine zau rfl rfl ?_|refine zax rfl rfl (by omega) ?_|apply zab|apply zac|refine zbi rfl (by first|assumption|omega) ?_|refine zbj rfl (by first|assumption|omega) ?_|refine zbl rfl rfl ?_|apply zbo|apply zbp|apply zbq|apply zae|apply zbw|apply zbu|refine zcf rfl ?_)
   exact ⟨by simp [hm0,hl0],fin⟩
  ·repeat' (first|refine zaa rfl ?_|refine zav rfl ‹_› (by first|assumption|rfl) ?_|refine zaw rfl ‹_› ?_|refine zad (by repeat' constructor) ?_|refine zbd rfl rfl ?_|refine zag rfl rfl ?_|refine zah rfl rfl ?_|refine zam rfl rfl ⟨by omega,by omega⟩ ?_|refine zat rfl rfl rfl ?_|refine zao rfl ?_|refine zau rfl rfl ?_|refine zax rfl rfl (by omega) ?_|apply zab|apply zac|refine zbj rfl (by first|assumption|omega) ?_|refine zbl rfl rfl ?_|apply zbo|apply zbp|apply zbq|apply zae|apply zbw|refine zcf rfl ?_)
   exact ⟨by simp [hm0],fin⟩
end
end Am.Sigs
