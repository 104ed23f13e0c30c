/- Our own library, part 22: an abstract machine, sound for the model, and what the functions do over it. No condition. -/
import Derived.Test.YtkcenemffnfoeaaGreatK21
set_option maxHeartbeats 8000000
namespace Am.Sigs
open Am Go
section
variable {cl:Nat->Call} (hcl:Sem cl) {h0:H} {w s:Nat} {ow:Nat->Nat} {ws:Ws} {now:Int} {tb:Tb} {no:Option (Nat × Nat)}
include hcl
theorem ww_Ready {d:Nat} {fd:Int} (hd:4<=d) (a:WSt h0 w s ow ws now tb no) (o:WsOk ws) :
  ∃ h',cl d (.fn F.jeH) [.p w 0,.i fd] h0=some (.agg (jdX ws fd),h')/\Old h0 h':=by
 obtain ⟨l,a,rfl⟩:=a
 have oA:Old h0 (h0.new jdq):=(Old.refl _).new
 have gA0:(h0.new jdq).get h0.nx=some jdq:=jad _
 have nA:(h0.new jdq).nx=h0.nx+1:=rfl
 refine jal (at_ hcl (by omega) rfl rfl rfl ?_)
 repeat' (first|apply zab|apply zac)
 refine Ops.make (ob:=jdq) rfl rfl ?_
 generalize h0.new jdq=hA at oA gA0 nA ⊢
 rcases jcH hcl (d:=d-1) (fd:=fd) (by omega) (a.old oA) o.uniq with ⟨hno,h1,e1,o1,x1⟩ | ⟨n,k,m,t,rfl,hm,hat,ht,hk,h1,e1,o1,x1⟩
 ·have hS:jdX (wxs l) fd=jiG:=ja9 hno
  rw [hS]
  have g1:h1.get h0.nx=some jdq:=by rw [o1.2 _ (by omega),gA0]
  repeat' (first|refine zaa rfl ?_|refine zaw rfl ‹_› ?_|refine zct rfl rfl rfl rfl (by repeat first|assumption|exact jaa _|refine zzn (by omega) ?_) (Nat.le_of_ble_eq_true rfl) ?_|refine zad (by repeat' constructor) ?_|refine zah rfl rfl ?_|refine zau rfl rfl ?_|refine zcu rfl rfl ?_|apply zab|apply zac|refine zbi rfl (by omega) ?_|apply zbq|apply zae|apply zbu)
  refine jbh rfl (jaa _) rfl ⟨rfl,?_⟩
  exact ((oA.trans o1).new.set (by omega)).set (Nat.le_refl _)
 have hS:jdX (wxs l) (m:Int)=_:=jaA o.uniq hat (jak ht)
 have hS:jdX (wxs l) (m:Int)=t.x.ready k:=hS
 rw [hS]
 have WI:=o.ok _ (List.mem_of_getElem? (jak ht))
 have X:=a.wf.ok n t ht
 have hk':1-k=0\/1-k=1:=by omega
 let h2:=(h1.new (.cells [.bool false,.i 0,.i 0] false)).set h1.nx (.cells [.bool true,.i (n:Int),.i (k:Int)] false)
 have n2:h2.nx=h0.nx+3:=by show h1.nx+1=_;omega
 have g2 : ∀ j,j<h0.nx->h2.get j=h0.get j:=fun j hj=>by
  show (H.set _ _ _).get j=_
  rw [jab (by omega),jac (by omega),o1.2 j (by omega),oA.2 j hj]
 have g20:h2.get h0.nx=some jdq:=by
  show (H.set _ _ _).get _=_
  rw [jab (by omega),jac (by omega),o1.2 _ (by omega)];exact gA0
 have gp:h2.get h1.nx=some (.cells [.bool true,.i (n:Int),.i (k:Int)] false):=jaa _
 have y1:h1.nx=h0.nx+2:=by omega
 obtain ⟨C,hC⟩ : ∃ C,C=c13_1:=⟨_,rfl⟩
 simp only [c13_8,c13_7,c13_6,c13_5,c13_4,c13_3]
 rw [<- hC]
 repeat' (first|refine zaa rfl ?_|refine zad (by repeat' constructor) ?_|apply zab|apply zac|apply zae)
 refine Ops.callf rfl e1 ?_
 repeat' (first|refine zaa rfl ?_|refine zau rfl rfl ?_)
 refine Ops.make rfl rfl ?_
 skip
 refine Ops.storeN rfl rfl rfl rfl (jad _) (Nat.le_of_ble_eq_true rfl) ?_
 rw [show ((h1.new (.cells [.bool false,.i 0,.i 0] false)).set h1.nx (.cells (jas [.bool false,.i 0,.i 0] 0 [.bool true,.i (n:Int),.i (k:Int)]) false))=h2 from rfl]
 clear_value h2
 clear e1 o1 gA0 nA oA
 have hx:=X.hx
 have lx:=X.lx
 have hx2:h2.get t.wb=some (.cells (t.x.cells t.r0 t.r1 t.wv) false):=by rw [g2 _ lx];exact hx
 have ek:((1:Int)-(k:Int)).toNat=1-k:=by omega
 have hcl17:=Wi.cells_length t.x t.r0 t.r1 t.wv
 rw [y1] at gp ⊢
 repeat' (first|refine zaa rfl ?_|refine zad (by repeat' constructor) ?_|refine zah rfl rfl ?_|apply zab|apply zac|refine zbj rfl (by omega) ?_|apply zbp|apply zae)
 refine Run.region ?_
 rw [n2]
 repeat' (first|refine zaa rfl ?_|refine zav rfl ‹_› rfl ?_|refine zau rfl rfl ?_|refine zax rfl rfl (by omega) ?_)
 refine Ops.loadN rfl hx2 (by omega) ?_
 rw [Wi.en_cells hk (by omega)]
 repeat' (first|refine zaa rfl ?_|refine zav rfl ‹_› rfl ?_|refine zam rfl rfl ⟨by omega,by omega⟩ ?_|refine zau rfl rfl ?_|refine zax rfl rfl (by omega) ?_)
 refine Ops.loadN rfl hx2 (by omega) ?_
 rw [Wi.en_cells (k:=1-k) hk' (by omega)]
 refine Ops.make_at rfl rfl ?_
 refine Ops.make_at rfl rfl ?_
 refine Ops.storeN_chk rfl rfl rfl (En.cells_one _ _) (by rw [jab (by omega)];exact jaa _) (Nat.le_of_ble_eq_true rfl) ?_ ?_
 ·refine jb9 rfl (l:=[.bool true,.i (n:Int),.i (k:Int)]) (ro:=false) (by rw [jab (by omega),jab (by omega),jab (by omega)];exact gp) rfl rfl (chk_loadN rfl (l:=t.x.cells t.r0 t.r1 t.wv) (ro:=false) (by rw [jab (by omega),jab (by omega),jab (by omega)];exact hx2) (by omega) (Wi.en_cells (k:=1-k) hk' (by omega)) rfl jc1)
 refine Ops.storeN rfl rfl rfl (En.cells_one _ _) (by rw [jab (by omega)];exact jaa _) (Nat.le_of_ble_eq_true rfl) ?_
 have ow7 : ∀ (e:En) (r:Nat),jas [V.i 0,V.i 0,V.ptr none,V.bool false,V.bool false,V.int IntKind.u64 0,V.int IntKind.u64 0] 0 (e.cells r)=e.cells r:=fun e r=>jcB _ _ rfl
 rw [ow7,ow7]
 generalize hh:H.set (H.set (H.set (H.set _ _ _) _ _) _ _) _ _=h3
 have z3:h3.nx=h0.nx+5:=by rw [<- hh];show h2.nx+2=_;omega
 have zo:h3.get (h0.nx+3)=some (.cells ((t.x.e k).cells (two t.r0 t.r1 k)) false):=by
  rw [<- hh,jab (by omega)];exact jaa _
 have zt:h3.get (h0.nx+3+1)=some (.cells ((t.x.e (1-k)).cells (two t.r0 t.r1 (1-k))) false):=by
  rw [<- hh];exact jaa _
 have g3 : ∀ j,j<h0.nx+3->h3.get j=h2.get j:=fun j hj=>by
  rw [<- hh,jab (by omega),jab (by omega),jab (by omega),jab (by omega)];rfl
 have hx3:h3.get t.wb=some (.cells (t.x.cells t.r0 t.r1 t.wv) false):=by rw [g3 _ (by omega),hx2]
 have z0:h3.get h0.nx=some jdq:=by rw [g3 _ (by omega),g20]
 have gp3:h3.get (h0.nx+2)=some (.cells [.bool true,.i (n:Int),.i (k:Int)] false):=by rw [g3 _ (by omega),gp]
 have kk : ∀ j,j<h0.nx->h3.get j=h0.get j:=fun j hj=>by rw [g3 _ (by omega),g2 _ hj]
 clear hh g3 gp hx2 g20 g2 n2
 have zo:h3.get (h0.nx+3+0)=some (.cells ((t.x.e k).cells (two t.r0 t.r1 k)) false):=zo
 have i5:((t.x.e k).cells (two t.r0 t.r1 k))[0+5]?=some (.int .u64 (t.x.e k).inn):=rfl
 have i6:((t.x.e k).cells (two t.r0 t.r1 k))[0+6]?=some (.int .u64 (t.x.e k).out):=rfl
 have f15:=Wi.backlog_cell (x:=t.x) (r0:=t.r0) (r1:=t.r1) (wv:=t.wv) (o:=0+15) rfl
 have f14:=Wi.reset_cell (x:=t.x) (r0:=t.r0) (r1:=t.r1) (wv:=t.wv) (o:=0+14) rfl
 obtain ⟨av,cp,hva,_⟩:=X.wait.1
 have f16:(t.x.cells t.r0 t.r1 t.wv)[0+16]?=some (.slice av t.x.waiting.length cp):=by simp [Wi.cells,En.cells,hva]
 have o3:Old h0 h3:=⟨by omega,kk⟩
 by_cases hbl:0<t.x.backlog
 ·have hR:t.x.ready k=[.bool true,.bool (!t.x.waiting.isEmpty),.bool false,.bool false,.bool false,.int .u64 (t.x.e k).inn,.int .u64 (t.x.e k).out]:=if_pos hbl
  rw [hR]
  have ew:decide (0<((t.x.waiting.length:Nat):Int)) = !t.x.waiting.isEmpty:=by cases t.x.waiting<;>simp
  clear hC hcl17 ek hk' y1
  repeat' (first|refine zaa rfl ?_|refine zav rfl (by repeat first|assumption|exact jaa _|refine zzn (by omega) ?_) ‹_› ?_|refine zcs rfl rfl rfl (by repeat first|assumption|exact jaa _|refine zzn (by omega) ?_) (Nat.le_of_ble_eq_true rfl) ?_|refine zct rfl rfl rfl rfl (by repeat first|assumption|exact jaa _|refine zzn (by omega) ?_) (Nat.le_of_ble_eq_true rfl) ?_|refine zcw rfl (by repeat first|assumption|exact jaa _|refine zzn (by omega) ?_) (Nat.le_of_ble_eq_true rfl) ?_|refine zad (by repeat' constructor) ?_|refine zaj rfl rfl ?_|refine zau rfl rfl ?_|refine zcu rfl rfl ?_|apply zab|apply zac|refine zbi rfl ‹_› ?_|apply zbq|apply zae|apply zbu)
  rw [ew]
  refine jbh rfl (jaa _) rfl ⟨rfl,?_⟩
  exact (((o3.new.set (by omega)).set (by omega)).set (by omega))
 ·have hR:t.x.ready k=[.bool true,.bool (t.x.rIn k),.bool (t.x.rOut k),.bool ((t.x.e (1-k)).what == 3),.bool t.x.reset,.int .u64 (t.x.e k).inn,.int .u64 (t.x.e k).out]:=if_neg hbl
  rw [hR]
  have j0:((t.x.e (1-k)).cells (two t.r0 t.r1 (1-k)))[0+0]?=some (.i (t.x.e (1-k)).what):=rfl
  repeat' (first|refine zaa rfl ?_|refine zav rfl (by repeat first|assumption|exact jaa _|refine zzn (by omega) ?_) ‹_› ?_|refine zct rfl rfl rfl rfl (by repeat first|assumption|exact jaa _|refine zzn (by omega) ?_) (Nat.le_of_ble_eq_true rfl) ?_|refine zad (by repeat' constructor) ?_|refine zag rfl rfl ?_|refine zaj rfl rfl ?_|refine zau rfl rfl ?_|refine zcu rfl rfl ?_|apply zab|apply zac|refine zbj rfl ‹_› ?_|apply zbp|apply zae)
  refine Ops.store1_chk rfl rfl rfl (by first | exact jaa _ | (rw [jaa])) (Nat.le_of_ble_eq_true rfl) ?_ ?_
  ·exact jb9 rfl (l:=t.x.cells t.r0 t.r1 t.wv) (ro:=false) (by rw [jab (by omega),jab (by omega),jac (by omega)];exact hx3) f14 rfl jc1
  repeat' (first|refine zcs rfl rfl rfl (by repeat first|assumption|exact jaa _) (Nat.le_of_ble_eq_true rfl) ?_|refine zad (by repeat' constructor) ?_|refine zau rfl rfl ?_|apply zae)
  generalize hh:H.set (H.set (H.set _ _ _) _ _) _ _=h5
  have y5:h5.nx=h3.nx+1:=by rw [<- hh];rfl
  have g5 : ∀ j,j<h3.nx->h5.get j=h3.get j:=fun j hj=>by
   rw [<- hh,jab (by omega),jab (by omega),jab (by omega),jac hj]
  have ehup:decide ((t.x.e (1-k)).what=3)=((t.x.e (1-k)).what == 3):=rfl
  have z5:h5.get h3.nx=some (.cells [.bool true,.bool false,.bool false,.bool ((t.x.e (1-k)).what == 3),.bool t.x.reset,.int .u64 (t.x.e k).inn,.int .u64 (t.x.e k).out] false):=by
   rw [<- hh,jaa,<- ehup];rfl
  clear hh
  have o5:Old h0 h5:=o3.trans ⟨by omega,g5⟩
  have lr : ∀ i,i=0\/i=1 -> ∀ q,(t.x.e i).ring=some q->ja0 h5 (t.r i) (t.b i) q t.x.cap/\t.r i<h0.nx/\t.b i<h0.nx:=fun i hi q hq=>by
   obtain ⟨p1,_,_,p4,p5⟩:=X.ring i hi q hq
   exact ⟨p1.keep (o5.2 _ p4) (o5.2 _ p5),p4,p5⟩
  have q4:h5.get h0.nx=some jdq:=by rw [g5 _ (by omega),z0]
  have q5:h5.get (h0.nx+2)=some (.cells [.bool true,.i (n:Int),.i (k:Int)] false):=by rw [g5 _ (by omega),gp3]
  have q8:h5.get (h0.nx+3+0)=some (.cells ((t.x.e k).cells (two t.r0 t.r1 k)) false):=by rw [g5 _ (by omega),zo]
  have q9:h5.get (h0.nx+3+1)=some (.cells ((t.x.e (1-k)).cells (two t.r0 t.r1 (1-k))) false):=by rw [g5 _ (by omega),zt]
  have qx:h5.get t.wb=some (t.x.obj t.r0 t.r1 t.wv):=by rw [g5 _ (by omega),hx3];rfl
  have hpair:=WI.pair k hk
  rw [hC]
  refine Run.fin_mono (wr_in hcl (d:=d) (bo:=t.b k) (n:=n) (hup:=(t.x.e (1-k)).what == 3) (by omega) hk q4 q5 q8 q9 z5 qx (by omega) (by omega) (by omega) (by omega) rfl (fun q hq=>(lr k hk q hq).1) fun hwr=>?_) fun v h' ⟨p1,p2⟩=>⟨p1,?_⟩
  ·obtain ⟨q,hq⟩:=Option.ne_none_iff_exists'.1 (hpair.1 hwr)
   obtain ⟨r1,r2,r3⟩:=lr (1-k) hk' q hq
   exact ⟨q,t.b (1-k),hq,r1,by show t.r (1-k)≠_;omega,by omega⟩
  ·have hn5:=o5.1
   exact ⟨Nat.le_trans hn5 p2.nx,fun j hj=>by rw [p2.get j (by omega) (by rintro (e | e)<;>omega),o5.2 j hj]⟩
end
end Am.Sigs
namespace Am.Sigs
open Am Go
structure Rdy where
 op:Bool
 inn:Bool
 out:Bool
 hup:Bool
 err:Bool
 rd:Int
 wr:Int
def Rdy.cells (r:Rdy):List V:=[.bool r.op,.bool r.inn,.bool r.out,.bool r.hup,.bool r.err,.int .u64 r.rd,.int .u64 r.wr]
def Rdy.no:Rdy:=⟨false,false,false,false,false,0,0⟩
def Wi.rdy (x:Wi) (k:Nat):Rdy :=
 if 0<x.backlog then ⟨true,!x.waiting.isEmpty,false,false,false,(x.e k).inn,(x.e k).out⟩
 else ⟨true,x.rIn k,x.rOut k,(x.e (1-k)).what == 3,x.reset,(x.e k).inn,(x.e k).out⟩
noncomputable def rdyS (ws:Ws) (fd:Int):Rdy:=jcg ws fd Rdy.no fun _ k x=>x.rdy k
theorem jkK (ws:Ws) (fd:Int):jdX ws fd=(rdyS ws fd).cells:=by
 unfold jdX rdyS jcg
 split
 ·rfl
 ·split
  ·rfl
  ·show Wi.ready _ _=(Wi.rdy _ _).cells
   unfold Wi.ready Wi.rdy
   split<;>rfl
def jfU (ev:Int):Prop:=ev=0\/ev=1\/ev=4\/ev=5
instance (ev:Int):Decidable (jfU ev):=inferInstanceAs (Decidable (_\/_))
def b2i (b:Bool) (n:Int):Int:=if b then n else 0
def jeh (r:Rdy) (fd ev:Int):Int :=
 if fd<0 then 0 else if r.op=false then 32 else b2i r.hup 16+b2i (r.inn&&decide (ev=1\/ev=5)) 1+b2i (r.out&&decide (ev=4\/ev=5)) 4+b2i r.err 8
theorem jjr (r:Rdy) (fd ev:Int):0<=jeh r fd ev/\jeh r fd ev<=63:=by
 unfold jeh b2i
 repeat' split
 all_goals omega
theorem wrap_zero {n:Nat} (hn:n<2 ^ 64) (h:IntKind.i64.wrap (n:Int)=0):n=0:=by
 have e:IntKind.wrap .i64 n=if (n:Int)%18446744073709551616>=9223372036854775808 then (n:Int)%18446744073709551616-18446744073709551616 else (n:Int)%18446744073709551616:=by
  unfold IntKind.wrap
  simp [IntKind.bits,IntKind.signed]
 rw [e] at h
 split at h<;>omega
theorem jks (x:BitVec 64) (h:x &&& ~~~(5#64)=0#64):x=0#64\/x=1#64\/x=4#64\/x=5#64:=by
 have h5:x &&& 5#64=x:=by
  apply BitVec.eq_of_getElem_eq
  intro i hi
  have:=congrArg (fun y:BitVec 64=>y[i]) h
  simp only [BitVec.getElem_and,BitVec.getElem_not,BitVec.getElem_zero] at this ⊢
  revert this
  cases x[i]<;>cases (5#64)[i]<;>simp
 have hle:x.toNat<=5:=by
  have e:(x &&& 5#64).toNat=x.toNat:=by rw [h5]
  rw [BitVec.toNat_and] at e
  have:=Nat.and_le_right (n:=x.toNat) (m:=(5#64).toNat)
  rw [e] at this
  exact this
 have hx:x=BitVec.ofNat 64 x.toNat:=by simp
 generalize x.toNat=n at hle hx
 subst hx
 rcases (by omega:n=0\/n=1\/n=2\/n=3\/n=4\/n=5) with rfl | rfl | rfl | rfl | rfl | rfl
 ·exact .inl rfl
 ·exact .inr (.inl rfl)
 ·exact absurd h (by decide)
 ·exact absurd h (by decide)
 ·exact .inr (.inr (.inl rfl))
 ·exact .inr (.inr (.inr rfl))
theorem jju {ev:Int} (h0 : -9223372036854775808<=ev) (h1:ev<=9223372036854775807):(IntKind.i64.wrap (BitVec.ofInt 64 ev &&& ~~~(BitVec.ofInt 64 5)).toNat=0)↔jfU ev:=by
 constructor
 ·intro h
  have h2:=wrap_zero (BitVec.isLt _) h
  have h3:BitVec.ofInt 64 ev &&& ~~~(5#64)=0#64:=BitVec.eq_of_toNat_eq (by simpa using h2)
  have hi:(BitVec.ofInt 64 ev).toInt=ev:=by
   rw [BitVec.toInt_ofInt]
   unfold Int.bmod
   simp
   split<;>omega
  have key : ∀ n:Int,BitVec.ofInt 64 ev=BitVec.ofInt 64 n->(BitVec.ofInt 64 n).toInt=n->ev=n:=fun n e e2=>by rw [<- hi,e,e2]
  rcases jks _ h3 with e | e | e | e
  ·exact .inl (key 0 e rfl)
  ·exact .inr (.inl (key 1 e rfl))
  ·exact .inr (.inr (.inl (key 4 e rfl)))
  ·exact .inr (.inr (.inr (key 5 e rfl)))
 ·rintro (rfl | rfl | rfl | rfl)<;>rfl
end Am.Sigs
namespace Am.Sigs
open Am Go
structure BX (h0 h:H) (p w s rw:Nat) (ow:Nat->Nat) (ro:Nat->Prop) (st:St) (i:Nat):Prop where
 b:BB h p w s rw ow ro (fun j=>j<h0.nx) st st
 so:StOk st i
 old:Old h0 h
 own : ∀ j,ow j≠0\/ro j->h0.nx<=j
 lp:h0.nx<=p
theorem old_fm {h0 h h':H} {ow ow':Nat->Nat} {ro ro':Nat->Prop} (o:Old h0 h) (f:Fm h h' ow ro ow' ro') (own : ∀ j,ow j≠0\/ro j->h0.nx<=j):Old h0 h' :=
 ⟨Nat.le_trans o.1 f.ch.nx,fun j hj=>by rw [f.ch.get j (Nat.lt_of_lt_of_le hj o.1) fun hb=>by have:=own j hb;omega,o.2 j hj]⟩
theorem BX.fm {h0 h h':H} {p w s rw:Nat} {ow ow':Nat->Nat} {ro ro':Nat->Prop} {st st':St} {i i':Nat} (x:BX h0 h p w s rw ow ro st i) (b:BB h' p w s rw ow' ro' (fun j=>j<h0.nx) st' st') (f:Fm h h' ow ro ow' ro') (so:StOk st' i'):BX h0 h' p w s rw ow' ro' st' i':=by
 refine ⟨b,so,old_fm x.old f x.own,fun j hj=>?_,x.lp⟩
 rcases Nat.lt_or_ge j h.nx with h1 | h1
 ·rw [f.tag j h1,f.rtag j h1] at hj
  exact x.own j hj
 ·exact Nat.le_trans x.old.1 h1
def st0:St:=⟨[],0,Tb.zero,none⟩
theorem atS_nil (fd:Int):atS [] fd=none:=jeA fun n k=>by rintro ⟨x,h,_⟩;simp at h
theorem st0_ok:StOk st0 0 where
 K:=⟨⟨fun n k n' k' fd h=>(by obtain ⟨x,hx,_⟩:=h;simp [st0] at hx),fun x hx=>(by simp [st0] at hx),by simp [st0],fun x hx=>(by simp [st0] at hx)⟩,fun i j x y p q m hx=>by simp [st0] at hx⟩
 nt := .inl rfl
 now:=⟨Int.le_refl _,by show (0:Int)<=_;omega⟩
 tb:=fun k=>⟨Int.le_refl _,Int.le_refl _⟩
theorem Ops.build {call:Call} {fuel base:Nat} {K:List Fr} {e:Env} {h:H} {Q:Post} {ix:Nat} {dst:Option Nat} {ops:List Ins} {keep:List Nat} {at_:Option Nat} {zero l:List V} {parts:List (Nat × Nat × Opd)} {ps:List (Nat × Nat × V)}
  (he:jbE e parts=some ps) (hf:jbl zero ps=some l) (k:Ops call fuel base ops keep K (layv e dst (.agg l)) h Q):Ops call fuel base (⟨ix,dst,.build zero parts,none,at_,[]⟩ :: ops) keep K e h Q :=
 Ops.pure rfl (by simp only [I.pure,he,hf]) k
section
variable {cl:Nat->Call} (hcl:Sem cl)
include hcl
def wc0 (s:Nat):List V:=(List.replicate 96 ([.bool false,.i 0,.i 0]:List V)).flatten++[.nils,.p s 0,.int .u64 0,.bool false,.i 0,.i 0]
def rc0:List V := .nils :: tail 0 (fun _=>false) (fun _=>0) (-1) 0
omit hcl in
theorem wc0_eq (s:Nat):wc0 s=wc (fun i=>atS [] (i:Int)) .nils s 0 none:=by
 have e:(fun i:Nat=>atS [] (i:Int))=fun _=>none:=by funext i;exact atS_nil _
 rw [e]
 have:(List.replicate 96 ([.bool false,.i 0,.i 0]:List V)).flatten=jds fun _=>none:=by
  kernel_rfl
 unfold wc0 wc
 rw [this]
 rfl
omit hcl in
theorem fillW (s:Nat):jbl ((List.replicate 96 ([.bool false,.i 0,.i 0]:List V)).flatten++[.nils,.ptr none,.int .u64 0,.bool false,.i 0,.i 0]) [(289,1,.p s 0)]=some (wc0 s):=by kernel_rfl
omit hcl in
theorem fillR:jbl ([.nils,.int .u64 0]++List.replicate 32 (.bool false:V)++List.replicate 34 (.i 0:V)) [(66,1,.i (-1))]=some rc0:=by kernel_rfl
set_option maxRecDepth 100000 in
theorem nw_world {d:Nat} (hd:2<=d) (h:H):cl d (.fn F.world_New) [] h=some (.p (h.nx+1) 0,(h.new Tb.zero.obj).new (.cells (wc0 h.nx) false)):=by
 have hs:=sp_new hcl (d:=d-1) (by omega) h
 refine jaq (at_ hcl (by omega) rfl rfl rfl ?_)
 refine Run.seq (Run.region0 (Ops.mv rfl (Ops.nil (by repeat (first|(apply Kept.cons;exact rfl)|apply Kept.nil|(apply Kept.miss;exact rfl))) (End.seq (Run.seq (Run.region0 (Ops.callf rfl hs (Ops.build rfl (fillW h.nx) (Ops.make rfl rfl ?_)))))))))
 repeat' (first|refine zaa rfl ?_|refine zad (by repeat' constructor) ?_|apply zbq|apply zae|refine zcc rfl ?_)
 exact ⟨rfl,rfl⟩
set_option maxRecDepth 100000 in
theorem nw_ref {d:Nat} (hd:1<=d) (h:H):cl d (.fn F.jeg) [] h=some (.p h.nx 0,h.new (.cells rc0 false)):=by
 refine jaq (at_ hcl (by omega) rfl rfl rfl ?_)
 refine Run.seq (Run.region0 (Ops.mv rfl (Ops.nil (by repeat (first|(apply Kept.cons;exact rfl)|apply Kept.nil|(apply Kept.miss;exact rfl))) (End.seq (Run.seq (Run.region0 (Ops.build rfl fillR (Ops.make rfl rfl ?_))))))))
 repeat' (first|refine zaa rfl ?_|refine zad (by repeat' constructor) ?_|apply zbq|apply zae|refine zcc rfl ?_)
 exact ⟨rfl,rfl⟩
theorem nw_fresh {d:Nat} (hd:3<=d) (h:H) (_hf : ∀ j,h.nx<=j->h.get j=none) : ∃ p w s rw ow ro h',cl d (.fn F.jdz) [] h=some (.p p 0,h')/\BX h h' p w s rw ow ro st0 0:=by
 have e1:=nw_world hcl (d:=d-1) (by omega) h
 have e2:=nw_ref hcl (d:=d-1) (by omega) ((h.new Tb.zero.obj).new (.cells (wc0 h.nx) false))
 have x1:((h.new Tb.zero.obj).new (.cells (wc0 h.nx) false)).nx=h.nx+2:=rfl
 rw [x1] at e2
 have o4:Old h ((((h.new Tb.zero.obj).new (.cells (wc0 h.nx) false)).new (.cells rc0 false)).new (.cells [.p (h.nx+1) 0,.p (h.nx+2) 0] false)):=(Old.refl h).new.new.new.new
 refine ⟨h.nx+3,h.nx+1,h.nx,h.nx+2,fun j=>if j=h.nx then 3 else if j=h.nx+1 then 1 else 0,fun j=>j=h.nx+2,(((h.new Tb.zero.obj).new (.cells (wc0 h.nx) false)).new (.cells rc0 false)).new (.cells [.p (h.nx+1) 0,.p (h.nx+2) 0] false),jaq (at_ hcl (by omega) rfl rfl rfl ?_),⟨⟨?_,?_,?_,?_,?_,?_,?_⟩,st0_ok,o4,?_,?_⟩⟩
 ·repeat' (first|refine zaa rfl ?_|refine zaw rfl ‹_› ?_|refine zad (by repeat' constructor) ?_|refine zau rfl rfl ?_|refine zcu rfl rfl ?_|apply zab|apply zac|apply zbq|apply zae|refine zcc rfl ?_)
  exact ⟨rfl,rfl⟩
 ·refine ⟨[],⟨⟨⟨.nils,?_,Row.nil _ _ _,fun z hz=>by cases hz⟩,?_,?_,?_,?_,?_,fun j hj=>?_,fun n t ht=>by simp at ht⟩,fun n k fd hat=>?_⟩,rfl⟩
  ·have e:=wc0_eq h.nx
   show _=some (Obj.cells (wc (fun i=>atS [] (i:Int)) .nils h.nx 0 none) false)
   rw [<- e]
   exact (by simp only [H.get_new,H.nx_new];(repeat (first | rw [if_pos trivial] | rw [if_pos (by omega)] | rw [if_neg (by omega)]))<;>first | assumption | rfl)
  ·exact (by simp only [H.get_new,H.nx_new];(repeat (first | rw [if_pos trivial] | rw [if_pos (by omega)] | rw [if_neg (by omega)]))<;>first | assumption | rfl)
  ·show (if h.nx+1=h.nx then 3 else if h.nx+1=h.nx+1 then 1 else 0)=1
   rw [if_neg (by omega),if_pos rfl]
  ·show (if h.nx=h.nx then 3 else if h.nx=h.nx+1 then 1 else 0)=3
   rw [if_pos rfl]
  ·simp<;>omega
  ·simp<;>omega
  ·have hj:h.nx+4<=j:=hj
   show (if j=h.nx then 3 else if j=h.nx+1 then 1 else 0)=0
   rw [if_neg (by omega),if_neg (by omega)]
  ·obtain ⟨x,hx,_⟩:=hat;simp at hx
 ·refine ⟨[],⟨⟨h.nx+3,fun e=>absurd rfl e,fun g gn gk=>⟨?_,?_,by omega,fun e=>absurd rfl e,fun _=>?_,fun r hr=>by cases hr⟩⟩,fun j hj=>?_,rfl,fun j hj hd=>?_⟩,rfl⟩
  ·rw [gn];simp
  ·rw [gn];simp
  ·rw [gk (h.nx+2) (by simp) (.inl rfl)]
   show _=some (Obj.cells rc0 false)
   exact (by simp only [H.get_new,H.nx_new];(repeat (first | rw [if_pos trivial] | rw [if_pos (by omega)] | rw [if_neg (by omega)]))<;>first | assumption | rfl)
  ·rcases hj with rfl | hj
   ·simp
   ·simp<;>omega
  ·have hj:j=h.nx+2:=hj
   have hd:j<h.nx:=hd
   omega
 ·exact (by simp only [H.get_new,H.nx_new];(repeat (first | rw [if_pos trivial] | rw [if_pos (by omega)] | rw [if_neg (by omega)]))<;>first | assumption | rfl)
 ·simp
 ·intro j hj
  have hj:j=h.nx+2\/j<h.nx:=hj
  show (if j=h.nx then 3 else if j=h.nx+1 then 1 else 0)=0
  rw [if_neg (by omega),if_neg (by omega)]
 ·show (if h.nx+3=h.nx then 3 else if h.nx+3=h.nx+1 then 1 else 0)=0
  rw [if_neg (by omega),if_neg (by omega)]
 ·intro hj
  have hj:h.nx+3=h.nx+2\/h.nx+3<h.nx:=hj
  omega
 ·intro j hj
  rcases hj with hj | hj
  ·have hj:(if j=h.nx then 3 else if j=h.nx+1 then 1 else 0)≠0:=hj
   by_cases h1:j=h.nx
   ·omega
   ·rw [if_neg h1] at hj
    by_cases h2:j=h.nx+1
    ·omega
    ·rw [if_neg h2] at hj;exact absurd rfl hj
  ·have hj:j=h.nx+2:=hj
   omega
 ·omega
end
end Am.Sigs
namespace Am
open Go
def jd0 (k:IntKind) (_:H) (n:Int) (vs:List V):Prop:=vs=[.int k n]/\k.min<=n/\n<=k.max
def repBool (_:H) (b:Bool) (vs:List V):Prop:=vs=[.bool b]
def repStr (_:H) (s:List UInt8) (vs:List V):Prop:=vs=[.str s]/\s.length<=2 ^ 63
def jkJ (_:H) (_:Unit) (vs:List V):Prop:=vs=[]
def jd1 {α β : Type} (a:H -> α -> List V->Prop) (b:H -> β -> List V->Prop) (h:H) (x : α × β) (vs:List V):Prop := ∃ u w,vs=u++w/\a h x.1 u/\b h x.2 w
def jbr {α : Type} (rep:H -> α -> List V->Prop) (h:H):List α -> List V->Prop
 | [],vs=>vs=[]
 | x :: l,vs=>∃ u w,vs=u++w/\rep h x u/\jbr rep h l w
theorem jbr.length {α : Type} {rep:H -> α -> List V->Prop} {h:H} {sz:Nat} (hl : ∀ {x vs},rep h x vs->vs.length=sz) : ∀ {l:List α} {vs:List V},jbr rep h l vs->vs.length=l.length*sz
 | [],_,e=>by rw [show _=[] from e];simp
 | x :: l,_,⟨u,w,e,h1,h2⟩=>by rw [e,List.length_append,hl h1,jbr.length hl h2];simp [Nat.add_mul];omega
theorem jbr.mono {α : Type} {rep rep':H -> α -> List V->Prop} {h h':H} (hk : ∀ {x vs},rep h x vs->rep' h' x vs) : ∀ {l:List α} {vs:List V},jbr rep h l vs->jbr rep' h' l vs
 | [],_,e=>e
 | _ :: _,_,⟨u,w,e,h1,h2⟩=>⟨u,w,e,hk h1,jbr.mono hk h2⟩
theorem jbr.snoc {α : Type} {rep:H -> α -> List V->Prop} {h:H} : ∀ {l:List α} {vs ws:List V} {x : α},jbr rep h l vs->rep h x ws->jbr rep h (l++[x]) (vs++ws)
 | [],_,ws,x,e,h1=>by rw [show _=[] from e];exact ⟨ws,[],by simp,h1,rfl⟩
 | _ :: _,_,ws,x,⟨u,w,e,h2,h3⟩,h1=>⟨u,w++ws,by rw [e,List.append_assoc],h2,jbr.snoc h3 h1⟩
theorem jbr.get {α : Type} {rep:H -> α -> List V->Prop} {h:H} {sz:Nat} (hl : ∀ {x vs},rep h x vs->vs.length=sz) : ∀ {l:List α} {vs:List V} {i:Nat} {x : α},jbr rep h l vs->l[i]?=some x->rep h x ((vs.drop (i*sz)).take sz)
 | [],_,i,x,_,hi=>by simp at hi
 | y :: l,_,0,x,⟨u,w,e,h1,h2⟩,hi=>by
  simp at hi;subst hi;subst e
  rw [Nat.zero_mul,List.drop_zero,List.take_append_of_le_length (by rw [hl h1];exact Nat.le_refl _),List.take_of_length_le (by rw [hl h1];exact Nat.le_refl _)];exact h1
 | y :: l,_,i+1,x,⟨u,w,e,h1,h2⟩,hi=>by
  subst e
  have:(i+1)*sz=u.length+i*sz:=by rw [hl h1,Nat.add_mul];omega
  rw [this,<- List.drop_drop,List.drop_left]
  exact jbr.get hl h2 (by simpa using hi)
def jcD {α : Type} (B:Nat) (a:H -> α -> List V->Prop) (h:H) (l:List α) (vs:List V):Prop :=
 ∃ (ad:Option (Nat × Nat)) (c:Nat),vs=[.slice ad l.length (.fix c)]/\(l.length<=B->l≠[] -> ∃ b cs,ad=some (b,0)/\b<h.nx/\h.get b=some (.cells cs true)/\jbr a h l cs)/\l.length<=c/\(ad=none->c=0/\l=[])
end Am
namespace Am.Sigs
open Am Go
def jkr (n:Int):UInt8:=UInt8.ofNat n.toNat
theorem byteI_V {n:Int} (h1:0<=n) (h2:n<=255):jfe (jkr n) = .int .u8 n:=by
 have:n.toNat<256:=by omega
 simp only [jfe,jkr,UInt8.toNat_ofNat',Nat.mod_eq_of_lt this]
 congr 1;omega
theorem jhF {h:H} : ∀ {l:List Int} {cs:List V},jbr (jd0 .u8) h l cs->cs=bts (l.map jkr)
 | [],_,e=>e
 | x :: l,_,⟨u,w,e,h1,h2⟩=>by
  obtain ⟨rfl,h3⟩:=h1
  rw [e,jhF h2,<- byteI_V h3.1 h3.2];rfl
theorem bytes_of {h:H} {l:List Int} {u:V} {B:Nat} (r:jcD B (jd0 .u8) h l [u]) : ∃ a c,u = .slice a l.length (.fix c)/\(l.length<=B->BytesAt h a (.fix c) (l.map jkr)):=by
 obtain ⟨a,c,e,h1,h2,h3⟩:=r
 cases e
 refine ⟨a,c,rfl,fun hB=>⟨fun e=>?_,by show (l.map jkr).length<=c;simpa using h2,fun hn=>?_⟩⟩
 ·obtain ⟨rfl,rfl⟩:=h3 e;exact ⟨rfl,rfl⟩
 ·obtain ⟨b,cs,q1,q2,q3,q4⟩:=h1 hB (by rintro rfl;exact hn rfl)
  refine ⟨b,0,cs,true,q1,q2,q3,fun i x hi=>?_⟩
  rw [jhF q4,Nat.zero_add];exact jhw hi
theorem BytesAt.keep {h h':H} {a:Option (Nat × Nat)} {c:Cap} {l:List UInt8} (t:BytesAt h a c l) (hx:h.nx<=h'.nx) (hk : ∀ j o,j<h.nx->h.get j=some o->h'.get j=some o):BytesAt h' a c l :=
 ⟨t.none_,t.fits,fun hn=>by
  obtain ⟨b,o,cs,ro,q1,q2,q3,q4⟩:=t.at_ hn
  exact ⟨b,o,cs,ro,q1,by omega,hk _ _ q2 q3,q4⟩⟩
theorem BytesAt.lt {h:H} {a:Option (Nat × Nat)} {c:Cap} {l:List UInt8} (t:BytesAt h a c l) {N:Nat} (hN:h.nx<=N) {z o:Nat} (ha:a=some (z,o)) (hl:l≠[]):z<N:=by
 obtain ⟨b,o',cs,ro,q1,q2,_⟩:=t.at_ hl
 rw [q1] at ha;cases ha;omega
end Am.Sigs
namespace Am.Sigs
open Am Go
structure OpX where
 k:Int
 a:Int
 n:Int
 t:Int
 dv:V
 D:List UInt8
abbrev OpX.V (x:OpX):List V:=opV x.k x.a x.n x.t x.dv
structure OpOk (h:H) (x:OpX):Prop where
 dv : ∃ a c,x.dv = .slice a x.D.length c/\(x.D.length<=300->BytesAt h a c x.D)
 t0:0<=x.t
 t1:x.t<=18446744073709551615
theorem OpOk.keep {h h':H} {x:OpX} (o:OpOk h x) (hx:h.nx<=h'.nx) (hk : ∀ j o,j<h.nx->h.get j=some o->h'.get j=some o):OpOk h' x:=by
 obtain ⟨⟨a,c,e,g⟩,t0,t1⟩:=o
 exact ⟨⟨a,c,e,fun hl=>(g hl).keep hx hk⟩,t0,t1⟩
theorem OpOk.dat {h:H} {x:OpX} (o:OpOk h x) (hl:x.D.length<=300):Dat h (fun j=>j<h.nx) x.dv x.D:=by
 obtain ⟨⟨a,c,e,g⟩,_,_⟩:=o
 refine ⟨⟨a,c,e,g hl⟩,fun hn z hz=>?_,hl⟩
 obtain ⟨b,o,cs,ro,q1,q2,_⟩:=(g hl).at_ hn
 rw [e,q1] at hz
 cases hz;exact q2
def jku (h:H) (lv:V) (L:List OpX):Prop := ∃ ad c,lv = .slice ad L.length c/\(L.length<=200->(∀ x∈L,OpOk h x)/\(L≠[] -> ∃ b cs ro,ad=some (b,0)/\b<h.nx/\h.get b=some (.cells cs ro)/\cs.length=L.length*5 /\ ∀ (i:Nat) (x:OpX),L[i]?=some x->(cs.drop (i*5)).take 5=x.V))
theorem jku.keep {h h':H} {lv:V} {L:List OpX} (o:jku h lv L) (hx:h.nx<=h'.nx) (hk : ∀ j o,j<h.nx->h.get j=some o->h'.get j=some o):jku h' lv L:=by
 obtain ⟨ad,c,e,g⟩:=o
 refine ⟨ad,c,e,fun hl=>⟨fun x hx'=>((g hl).1 x hx').keep hx hk,fun hn=>?_⟩⟩
 obtain ⟨b,cs,ro,q1,q2,q3,q4⟩:=(g hl).2 hn
 exact ⟨b,cs,ro,q1,by omega,hk _ _ q2 q3,q4⟩
def fewL (L:List OpX):Prop:=L.length<=200 /\ ∀ x∈L,x.D.length<=300
theorem jl8 {α : Type} {l:List α} {i:Nat} (h:i<l.length) : ∃ x,l[i]?=some x:=⟨_,List.getElem?_eq_getElem h⟩
section
variable {cl:Nat->Call} (hcl:Sem cl)
include hcl
theorem gr_ok {d:Nat} {h:H} {lv:V} {L:List OpX} (hd:1<=d) (hL:jku h lv L) :
  ∃ v,cl d (.fn F.jck) [lv] h=some (v,h)/\(v = .i 1\/(v = .i 0/\fewL L)):=by
 obtain ⟨ad,c,rfl,hin⟩:=hL
 suffices ∃ v h',cl d (.fn F.jck) [.slice ad L.length c] h=some (v,h')/\(h'=h/\(v = .i 1\/(v = .i 0/\fewL L))) by
  obtain ⟨v,h',q1,rfl,q3⟩:=this
  exact ⟨v,q1,q3⟩
 refine at_ hcl (by omega) rfl rfl rfl ?_
 by_cases h1:200<(L.length:Int)
 ·repeat' (first|refine zaa rfl ?_|refine zad (by repeat' constructor) ?_|refine zaj rfl rfl ?_|refine zau rfl rfl ?_|apply zab|apply zac|refine zbi rfl ‹_› ?_|apply zbq|apply zae|refine zcc rfl ?_|apply zbu)
  exact ⟨rfl,.inl rfl⟩
 obtain ⟨hok,hel⟩:=hin (by omega)
 repeat' (first|refine zaa rfl ?_|refine zad (by repeat' constructor) ?_|refine zaj rfl rfl ?_|refine zau rfl rfl ?_|apply zab|apply zac|refine zbj rfl ‹_› ?_|apply zbo|apply zbp|apply zae)
 refine Run.loop (fun m e h'=>∃ i:Nat,m=L.length-i/\i<=L.length/\e=[(0,.slice ad L.length c),(8,.i (L.length:Int)),(9,.i (i:Int))]/\h'=h /\ ∀ j x,j<i->L[j]?=some x->x.D.length<=300) (k:=L.length) (by show _<100000;omega) ⟨0,rfl,by omega,rfl,rfl,fun j x hj=>by omega⟩ ?_
 rintro _ _ _ ⟨i,rfl,hi,rfl,rfl,hj⟩ n' ih
 by_cases hlt:(i:Int)<L.length
 case neg=>
  have hf:fewL L:=⟨by omega,fun x hx=>by
   obtain ⟨j,hjl,e⟩:=List.getElem_of_mem hx
   exact hj j x (by omega) (by rw [List.getElem?_eq_getElem hjl,e])⟩
  clear ih hel hok hj
  repeat' (first|refine zaa rfl ?_|refine zad (by repeat' constructor) ?_|refine zaf rfl rfl ?_|apply zab|apply zac|refine zbj rfl ‹_› ?_|apply zbq|apply zbr|apply zae|refine zcc rfl ?_|apply zbv|apply zby|apply zcb)
  exact ⟨rfl,.inr ⟨rfl,hf⟩⟩
 obtain ⟨x,hx⟩:=jl8 (l:=L) (i:=i) (by omega)
 obtain ⟨b,cs,ro,rfl,_,hb,hcl',hc⟩:=hel (by rintro rfl;simp at hx)
 obtain ⟨⟨da,dc,edv,_⟩,_,_⟩:=hok x (List.mem_of_getElem? hx)
 have h5:=hc i x hx
 have hc':cs[0+(i:Int).toNat*5+4]?=some (.slice da x.D.length dc):=by
  have:((cs.drop (i*5)).take 5)[4]?=some x.dv:=by rw [h5];rfl
  rw [List.getElem?_take,if_pos (by omega),List.getElem?_drop] at this
  rw [show 0+(i:Int).toNat*5+4=i*5+4 by omega,this,edv]
 clear hel hok hc h5
 by_cases hd3:300<(x.D.length:Int)
 ·clear ih hj
  repeat' (first|refine zaa rfl ?_|refine zav rfl ‹_› ‹_› ?_|refine zad (by repeat' constructor) ?_|refine zaf rfl rfl ?_|refine zaj rfl rfl ?_|refine zau rfl rfl ?_|refine zay rfl rfl (by omega) ?_|apply zab|apply zac|refine zbi rfl ‹_› ?_|apply zbo|apply zbp|apply zbq|apply zae|refine zcc rfl ?_|apply zbu|apply zbx|apply zca)
  exact ⟨rfl,.inl rfl⟩
 ·have hi1:(i:Int)+1=((i+1:Nat):Int):=by omega
  repeat' (first|refine zaa rfl ?_|refine zav rfl ‹_› ‹_› ?_|refine zad (by repeat' constructor) ?_|refine zaf rfl rfl ?_|refine zal rfl rfl ⟨by omega,by omega⟩ ?_|refine zaj rfl rfl ?_|refine zau rfl rfl ?_|refine zay rfl rfl (by omega) ?_|apply zab|apply zac|refine zbi rfl ‹_› ?_|refine zbj rfl ‹_› ?_|apply zbo|apply zbp|apply zae|apply zbw)
  rw [hi1]
  refine ih (L.length-(i+1)) (by omega) _ _ ⟨i+1,rfl,by omega,rfl,rfl,fun j y hj' hy=>?_⟩
  by_cases e:j=i
  ·subst e
   rw [hx] at hy;cases hy
   omega
  ·exact hj j y (by omega) hy
theorem bx_do {d i p w s rw:Nat} {h0 h:H} {ow:Nat->Nat} {ro:Nat->Prop} {st:St} {x:OpX} (hd:16<=d) (b:BX h0 h p w s rw ow ro st i) (hi:i<=200) (hx:OpOk h0 x) (hl:x.D.length<=300) :
  ∃ h' ow' ro',cl d (.fn F.jbt) [.p p 0,.agg x.V] h=some (.bool true,h')/\BX h0 h' p w s rw ow' ro' (doS x.k x.a x.n x.t x.D st) (i+1)/\Fm h h' ow ro ow' ro':=by
 have hD:Dat h (fun j=>j<h0.nx) x.dv x.D:=by
  have:=hx.dat hl
  exact ⟨this.v.keep2 b.old.1 fun hn z hz=>b.old.2 z (this.z hn z hz),this.z,hl⟩
 obtain ⟨h',ow',ro',e,b',f⟩:=do_ok hcl (k:=x.k) (a:=x.a) (n:=x.n) (t:=x.t) hd b.b b.so hi hD hx.t0 hx.t1
 exact ⟨h',ow',ro',e,b.fm b' f (doS_ok b.so hx.t0 hx.t1),f⟩
theorem bx_ready {d i p w s rw:Nat} {h0 h:H} {ow:Nat->Nat} {ro:Nat->Prop} {st:St} {fd:Int} (hd:3<=d) (b:BX h0 h p w s rw ow ro st i) :
  ∃ h' ro',cl d (.fn F.ja6) [.p rw 0,.i fd] h=some (.agg (rdyS st.ws fd).cells,h')/\BX h0 h' p w s rw ow ro' st i/\Fm h h' ow ro ow ro' /\ ∀ j o,j<h.nx->h.get j=some o->h'.get j=some o:=by
 obtain ⟨v,h',e,b',f,cr,rfl,hk⟩:=b.b.rcc hcl (d:=d) (f:=F.ja6) (args:=[.p rw 0,.i fd]) (r':=st)
  (P:=fun g v=>v = .agg (rdyS st.ws fd).cells/\(h.nx<=g.nx /\ ∀ j o,j<h.nx->ro j\/j<h0.nx->h.get j=some o->g.get j=some o))
  (fun g g' v m hp=>⟨hp.1,by rw [m.nx];exact hp.2.1,fun j o hj ho hg=>m.get j o (Nat.lt_of_lt_of_le hj hp.2.1) (hp.2.2 j o hj ho hg)⟩) (fun g q l ga gn hq wR hl=>by
  have oR:WsOk (l.map RX.x):=by rw [hl];exact b.so.K.ok
  obtain ⟨g',k1,k2⟩:=rq_Ready hcl (d:=d) (fd:=fd) hd wR oR
  rw [hl,jkK] at k1
  have ok2:=Old.ofCh k2
  exact ⟨_,q,l,g',k1,wR.old ok2,hl,k2.weaken (fun _ _ h=>h.elim),.inl rfl,rfl,by rw [<- gn];exact ok2.1,fun j o hj ho hg=>by rw [ok2.2 j (by omega),ga j hj ho,hg]⟩)
 refine ⟨h',_,e,b.fm b' f b.so,f,fun j o hj hg=>?_⟩
 by_cases hr:ro j\/j<h0.nx
 ·exact hk.2 j o hj hr hg
 ·rw [cr.get j hj fun e=>hr (.inl e),hg]
end
end Am.Sigs
namespace Am.Sigs
open Am Go
def VP (h:H) (v:V) (l:List (Int × Int)):Prop := ∃ a c,v = .slice a l.length c/\(l≠[] -> ∃ b o cs ro,a=some (b,o)/\b<h.nx/\h.get b=some (.cells cs ro)/\o+l.length*2<=cs.length /\ ∀ (i:Nat) (p:Int × Int),l[i]?=some p->(cs.drop (o+i*2)).take 2=[.i p.1,.i p.2])
theorem VP.keep {h h':H} {v:V} {l:List (Int × Int)} (a:VP h v l) (o:Old h h'):VP h' v l:=by
 obtain ⟨a,c,rfl,g⟩:=a
 refine ⟨a,c,rfl,fun hl=>?_⟩
 obtain ⟨b,o',cs,ro,rfl,h1,h2,h3⟩:=g hl
 exact ⟨b,o',cs,ro,rfl,Nat.lt_of_lt_of_le h1 o.1,by rw [o.2 _ h1,h2],h3⟩
theorem VP.get {h:H} {a:Option (Nat × Nat)} {c:Cap} {l:List (Int × Int)} (v:VP h (.slice a l.length c) l) {i:Nat} {p:Int × Int} (hi:l[i]?=some p) :
  ∃ b o cs ro,a=some (b,o)/\b<h.nx/\h.get b=some (.cells cs ro)/\o+i*2+2<=cs.length/\(cs.drop (o+i*2)).take 2=[.i p.1,.i p.2]:=by
 obtain ⟨a',c',e,g⟩:=v
 cases e
 have hl:l≠[]:=by rintro rfl;simp at hi
 have hlt:i<l.length:=by
  rcases Nat.lt_or_ge i l.length with h | h
  ·exact h
  ·rw [List.getElem?_eq_none h] at hi;cases hi
 obtain ⟨b,o,cs,ro,rfl,h1,h2,h3,h4⟩:=g hl
 exact ⟨b,o,cs,ro,rfl,h1,h2,by omega,h4 i p hi⟩
def jlp (l:List (Int × Int)):Prop := ∀ p∈l,(-9223372036854775808<=p.1/\p.1<=9223372036854775807)/\(-9223372036854775808<=p.2/\p.2<=9223372036854775807)
def mayP (l:List (Int × Int)):Prop:=l.length<=96 /\ ∀ p∈l,jfU p.2
instance (l:List (Int × Int)):Decidable (mayP l):=inferInstanceAs (Decidable (_/\_))
section
variable {cl:Nat->Call} (hcl:Sem cl) {h:H} {w s:Nat} {ow:Nat->Nat} {ws:Ws} {now:Int} {tb:Tb} {no:Option (Nat × Nat)}
include hcl
theorem pl_may {d:Nat} {v:V} {l:List (Int × Int)} (hd:1<=d) (hv:VP h v l) (hf:jlp l) (hl:l.length<=100000) :
  ∃ h',cl d (.fn F.pol_may) [.p w 0,v] h=some (.i (if mayP l then 0 else 2),h')/\Old h h':=by
 obtain ⟨a,c,rfl,_⟩:=id hv
 refine jal (at_ hcl (by omega) rfl rfl rfl ?_)
 by_cases h96:96<l.length
 ·have hn : ¬ mayP l:=fun e=>by have:=e.1;omega
  have h96':(96:Int)<(l.length:Int):=by omega
  rw [if_neg hn]
  clear hn hf
  repeat' (first|refine zaa rfl ?_|refine zad (by repeat' constructor) ?_|refine zaj rfl rfl ?_|refine zau rfl rfl ?_|apply zab|apply zac|refine zbi rfl ‹_› ?_|refine zbl rfl rfl ?_|apply zbp|apply zbq|apply zae|refine zcc rfl ?_|apply zbu)
  exact ⟨rfl,Old.refl _⟩
 have h96' : ¬ (96:Int)<(l.length:Int):=by omega
 repeat' (first|refine zaa rfl ?_|refine zad (by repeat' constructor) ?_|refine zaj rfl rfl ?_|refine zau rfl rfl ?_|apply zab|apply zac|refine zbj rfl ‹_› ?_|refine zbl rfl rfl ?_|apply zbo|apply zbp|apply zae)
 refine Run.loop (fun m e g=>∃ i:Nat,m=l.length-i/\i<=l.length/\e=[(12,.slice a l.length c),(13,.i (l.length:Int)),(14,.i (i:Int))]/\Old h g /\ ∀ j p,j<i->l[j]?=some p->jfU p.2)
  (k:=l.length) (by show _<100000;omega) ⟨0,rfl,by omega,rfl,Old.refl _,fun j p hj=>by omega⟩ ?_
 rintro _ _ g ⟨i,rfl,hi,rfl,og,hall⟩ n2 ih
 by_cases hlt:(i:Int)<l.length
 case neg=>
  have hm:mayP l:=⟨by omega,fun p hp=>by
   obtain ⟨j,hj,e⟩:=List.getElem_of_mem hp
   exact hall j p (by omega) (by rw [List.getElem?_eq_getElem hj,e])⟩
  rw [if_pos hm]
  clear ih hall hf hm
  repeat' (first|refine zaa rfl ?_|refine zad (by repeat' constructor) ?_|refine zaf rfl rfl ?_|apply zab|apply zac|refine zbj rfl ‹_› ?_|apply zbq|apply zbr|apply zae|refine zcc rfl ?_|apply zbv|apply zby|apply zcb)
  exact ⟨rfl,og⟩
 have hp:=List.getElem?_eq_getElem (show i<l.length by omega)
 have hpm:=List.mem_of_getElem? hp
 generalize l[i]=p at hp hpm
 obtain ⟨b,o,cs,ro,rfl,hb,hcs,ho,hg⟩:=(hv.keep og).get hp
 have hfp:=hf p hpm
 have hg':(cs.drop (o+(i:Int).toNat*2)).take 2=[.i p.1,.i p.2]:=by rw [Int.toNat_natCast];exact hg
 have hi1:(i:Int)+1=((i+1:Nat):Int):=by omega
 by_cases hm:jfU p.2
 ·have hz:=(jju hfp.2.1 hfp.2.2).2 hm
  clear hf
  repeat' (first|refine zad (by repeat' constructor) ?_|refine zaf rfl rfl ?_|refine zay rfl rfl (by omega) ?_|apply zab|apply zac|refine zbi rfl ‹_› ?_|apply zbo|apply zbp|apply zae)
  refine Ops.loadN rfl hcs (by omega) ?_
  rw [hg']
  repeat' (first|refine zaa rfl ?_|refine zav rfl (by repeat first|assumption|exact jaa _) rfl ?_|refine zct rfl rfl rfl rfl (by repeat first|assumption|exact jaa _) (Nat.le_of_ble_eq_true rfl) ?_|refine zad (by repeat' constructor) ?_|refine zah rfl rfl ?_|refine zal rfl rfl ⟨by omega,by omega⟩ ?_|refine zau rfl rfl ?_|refine zcu rfl rfl ?_|apply zab|apply zac|refine zbm rfl (fun _=>?_) fun _=>?_|apply zbp|apply zbq|apply zae|apply zbw|refine zcc rfl ?_|apply zbu|apply zbx|apply zca)
  ·rename_i hx
   exact absurd hz hx
  rw [hi1]
  refine ih (l.length-(i+1)) (by omega) _ _ ⟨i+1,rfl,by omega,rfl,og.new.set og.1,fun j q hj hq=>?_⟩
  rcases Nat.lt_or_ge j i with h1 | h1
  ·exact hall j q h1 hq
  ·obtain rfl:j=i:=by omega
   rw [hp] at hq;cases hq;exact hm
 ·have hz : ¬ IntKind.i64.wrap (BitVec.ofInt 64 p.2 &&& ~~~(BitVec.ofInt 64 5)).toNat=0:=fun e=>hm ((jju hfp.2.1 hfp.2.2).1 e)
  have hn : ¬ mayP l:=fun e=>hm (e.2 p hpm)
  rw [if_neg hn]
  clear hf hn ih hall
  repeat' (first|refine zad (by repeat' constructor) ?_|refine zaf rfl rfl ?_|refine zay rfl rfl (by omega) ?_|apply zab|apply zac|refine zbi rfl ‹_› ?_|apply zbo|apply zbp|apply zae)
  refine Ops.loadN rfl hcs (by omega) ?_
  rw [hg']
  repeat' (first|refine zaa rfl ?_|refine zav rfl (by repeat first|assumption|exact jaa _) rfl ?_|refine zct rfl rfl rfl rfl (by repeat first|assumption|exact jaa _) (Nat.le_of_ble_eq_true rfl) ?_|refine zad (by repeat' constructor) ?_|refine zah rfl rfl ?_|refine zau rfl rfl ?_|refine zcu rfl rfl ?_|apply zab|apply zac|refine zbi rfl ‹_› ?_|apply zbq|apply zae|refine zcc rfl ?_|apply zbu|apply zbx|apply zca)
  exact ⟨rfl,og.new.set og.1⟩
end
end Am.Sigs
namespace Am.Sigs
open Am Go
def jiW (n:Nat) (v:V) (h':H):Bool:=jkS v&&(Nat.beq h'.nx n&&Nat.ble (ttop h'.t) n)
theorem alive_gen {cl:Nat->Call} (hcl:Sem cl) {f:Nat} {h0:H} {n n':Nat} (run:ran (jbF prog fuel 30 (.fn f) [] ⟨n,.lf⟩) (jiW n')=true) (hnx:h0.nx=n) (hwf : ∀ b,n<=b->h0.get b=none) (hn:n<=n') :
  ∃ h1,cl 30 (.fn f) [] h0=some (.bool true,h1)/\h1.nx=n'/\(∀ j,n'<=j->h1.get j=none) /\ ∀ j o,h0.get j=some o->h1.get j=some o:=by
 obtain ⟨v1,e1,ra,pa⟩:=ran_ex run
 unfold jiW at pa
 simp only [Bool.and_eq_true,Nat.beq_eq,Nat.ble_eq] at pa
 obtain ⟨p1,p2,p3⟩:=pa
 obtain rfl:=isTrue_eq p1
 have hX:Ext h0.get ⟨n,.lf⟩ h0:=by have:=ext_all (h:=h0) (by rw [hnx];exact hwf);rwa [hnx] at this
 obtain ⟨h1,qa,xa⟩:=same_in hcl ra hX
 refine ⟨h1,qa,by rw [xa.nx];exact p2,fun j hj=>?_,fun j o hj=>ext_kept xa hj⟩
 rw [xa.get,hwf j (by omega),show e1.get j=none from jiK _ _ (by omega)];rfl
abbrev jlm:H->Int × Int × Int × Int × List Int × Unit->List V->Prop:=jd1 (jd0 .i64) (jd1 (jd0 .i64) (jd1 (jd0 .i64) (jd1 (jd0 .u64) (jd1 (jcD 300 (jd0 .u8)) jkJ))))
theorem jiF {h:H} {x:Int × Int × Int × Int × List Int × Unit} {vs:List V} (r:jlm h x vs) : ∃ u,vs=[.i x.1,.i x.2.1,.i x.2.2.1,.int .u64 x.2.2.2.1,u]/\jcD 300 (jd0 .u8) h x.2.2.2.2.1 [u]/\0<=x.2.2.2.1/\x.2.2.2.1<=18446744073709551615:=by
 obtain ⟨_,_,rfl,⟨rfl,_⟩,_,_,rfl,⟨rfl,_⟩,_,_,rfl,⟨rfl,_⟩,_,_,rfl,⟨rfl,ht⟩,u,w,rfl,r5,hw⟩:=r
 obtain rfl:w=[]:=hw
 have ⟨ad,c,e,h1⟩:=r5
 subst e
 exact ⟨_,rfl,⟨ad,c,rfl,h1⟩,ht.1,ht.2⟩
theorem jkP {h:H} : ∀ {l:List (Int × Int × Int × Int × List Int × Unit)} {cs:List V},jbr jlm h l cs -> ∃ L:List OpX,L.length=l.length/\cs=(L.map OpX.V).flatten /\ ∀ x∈L,OpOk h x
 | [],_,e=>⟨[],rfl,e,fun x hx=>by cases hx⟩
 | y :: l,_,⟨u,w,e,h1,h2⟩=>by
  obtain ⟨L,l1,l2,l3⟩:=jkP h2
  obtain ⟨v,e1,r,t0,t1⟩:=jiF h1
  obtain ⟨a,c,rfl,hB⟩:=bytes_of r
  refine ⟨⟨y.1,y.2.1,y.2.2.1,y.2.2.2.1,.slice a y.2.2.2.2.1.length (.fix c),y.2.2.2.2.1.map jkr⟩ :: L,by simp [l1],by rw [e,e1,l2];rfl,fun x hx=>?_⟩
  rcases List.mem_cons.1 hx with rfl | hx
  ·exact ⟨⟨a,.fix c,by simp,fun hl=>hB (by simpa using hl)⟩,t0,t1⟩
  ·exact l3 x hx
theorem jjv : ∀ L:List OpX,(L.map OpX.V).flatten.length=L.length*5
 | []=>rfl
 | x :: L=>by
  have:=jjv L
  have h5:(OpX.V x).length=5:=rfl
  show (OpX.V x++(L.map OpX.V).flatten).length=_
  rw [List.length_append,this,h5]
  simp;omega
theorem flat_get : ∀ {L:List OpX} {i:Nat} {x:OpX},L[i]?=some x->(((L.map OpX.V).flatten).drop (i*5)).take 5=x.V
 | [],i,x,h=>by simp at h
 | y :: L,0,x,h=>by simp at h;subst h;rfl
 | y :: L,i+1,x,h=>by
  rw [List.map_cons,List.flatten_cons,show (i+1)*5=(OpX.V y).length+i*5 by show _=5+_;omega,<- List.drop_drop,List.drop_left]
  exact flat_get (by simpa using h)
theorem opsIn_of {h:H} {l:List (Int × Int × Int × Int × List Int × Unit)} {u:V} (r:jcD 200 jlm h l [u]) : ∃ L:List OpX,L.length=l.length/\jku h u L:=by
 obtain ⟨ad,c,e,h1,h2,h3⟩:=r
 cases e
 by_cases hl:l.length<=200
 ·by_cases hn:l=[]
  ·subst hn
   exact ⟨[],rfl,ad,.fix c,rfl,fun _=>⟨fun x hx=>(by cases hx),fun e=>absurd rfl e⟩⟩
  ·obtain ⟨b,cs,rfl,q1,q2,q3⟩:=h1 hl hn
   obtain ⟨L,l1,rfl,l3⟩:=jkP q3
   exact ⟨L,l1,_,.fix c,by rw [l1],fun _=>⟨l3,fun _=>⟨b,_,true,rfl,q1,q2,jjv L,fun i x hx=>flat_get hx⟩⟩⟩
 ·exact ⟨List.replicate l.length ⟨0,0,0,0,.nils,[]⟩,by simp,ad,.fix c,by simp,fun hl'=>absurd (by simpa using hl') hl⟩
abbrev jld:H->Int × Int × Unit->List V->Prop:=jd1 (jd0 .i64) (jd1 (jd0 .i64) jkJ)
theorem jlc {h:H} : ∀ {l:List (Int × Int × Unit)} {cs:List V},jbr jld h l cs->cs=jb5 (l.map fun x=>(x.1,x.2.1))/\jlp (l.map fun x=>(x.1,x.2.1))
 | [],_,e=>⟨e,fun p hp=>by cases hp⟩
 | y :: l,_,⟨u,w,e,h1,h2⟩=>by
  obtain ⟨l1,l2⟩:=jlc h2
  obtain ⟨_,_,rfl,⟨rfl,f1⟩,_,_,rfl,⟨rfl,f2⟩,hn⟩:=h1
  obtain rfl:_=[]:=hn
  refine ⟨by rw [e,l1];rfl,fun p hp=>?_⟩
  rcases List.mem_cons.1 hp with rfl | hp
  ·exact ⟨f1,f2⟩
  ·exact l2 p hp
theorem asks_of {h:H} {B:Nat} {l:List (Int × Int × Unit)} {u:V} (r:jcD B jld h l [u]) : ∃ (x:List (Int × Int)) (ad:Option (Nat × Nat)) (c:Nat),x.length=l.length/\u = .slice ad x.length (.fix c)/\x.length<=c /\
  (x.length<=B->jlp x/\(x≠[] -> ∃ b,ad=some (b,0)/\b<h.nx/\h.get b=some (.cells (jb5 x) true))):=by
 obtain ⟨ad,c,e,h1,h2,h3⟩:=r
 cases e
 refine ⟨l.map fun x=>(x.1,x.2.1),ad,c,by simp,by simp,by simpa using h2,fun hl=>?_⟩
 by_cases hn:l=[]
 ·subst hn
  exact ⟨fun p hp=>(by cases hp),fun e=>absurd rfl e⟩
 ·obtain ⟨b,cs,rfl,q1,q2,q3⟩:=h1 (by simpa using hl) hn
  obtain ⟨rfl,hf⟩:=jlc q3
  exact ⟨hf,fun _=>⟨b,rfl,q1,q2⟩⟩
end Am.Sigs
namespace Am.Sigs
open Am Go
noncomputable def jjo (ws:Ws):Nat->List V
 | 0=>[]
 | n+1=>jjo ws n++(rdyS ws (n:Int)).cells
noncomputable def runS (L:List OpX) (st:St):St:=L.foldl (fun st x=>doS x.k x.a x.n x.t x.D st) st
theorem runS_take {L:List OpX} {i:Nat} {x:OpX} (hx:L[i]?=some x) (st:St):runS (L.take (i+1)) st=doS x.k x.a x.n x.t x.D (runS (L.take i) st):=by
 unfold runS
 rw [List.take_add_one,hx]
 simp
section
variable {cl:Nat->Call} (hcl:Sem cl)
include hcl
theorem bt_ok {d f:Nat} {h:H} {lv:V} {L:List OpX} (hf:jcT prog.prims f=none) (hf2:jcT prog.fns f=some c20) (hd:17<=d) (hL:jku h lv L) (hwf : ∀ j,h.nx<=j->h.get j=none) :
  ∃ v h',cl d (.fn f) [lv] h=some (v,h')/\(v = .tup [.ptr none,.nils,.bool false]/\h'=h \/
   fewL L /\ ∃ p w s rw ow ro ov,v = .tup [.p p 0,ov,.bool true]/\BX h h' p w s rw ow ro (runS L st0) L.length/\Row h.nx h' 7 ov 96 (jjo (runS L st0).ws 96) /\ ∀ q,ov.at?=some q->ow q=0 /\ ¬ ro q/\q≠p):=by
 obtain ⟨gv,eg,hg⟩:=gr_ok hcl (d:=d-1) (by omega) hL
 refine at_ hcl (by omega) hf hf2 rfl ?_
 rcases hg with rfl | ⟨rfl,hfew⟩
 ·repeat' (first|refine zaa rfl ?_|refine zaw rfl ‹_› ?_|refine zad (by repeat' constructor) ?_|refine zaj rfl rfl ?_|apply zab|apply zac|refine zbi rfl (by omega) ?_|apply zbq|apply zae|apply zbu|refine zcf rfl ?_)
  exact .inl ⟨rfl,rfl⟩
 obtain ⟨p,w,s,rw,ow,ro,h1,e1,b1⟩:=nw_fresh hcl (d:=d-1) (by omega) h hwf
 obtain ⟨ad,c,rfl,hin⟩:=hL
 obtain ⟨hok,hel⟩:=hin hfew.1
 have hfl:=hfew.1
 repeat' (first|refine zaa rfl ?_|refine zaw rfl ‹_› ?_|refine zad (by repeat' constructor) ?_|refine zaj rfl rfl ?_|apply zab|apply zac|refine zbj rfl (by omega) ?_|apply zbo|apply zbp|apply zae)
 refine Run.loop (fun m e g=>∃ (i:Nat) (ow:Nat->Nat) (ro:Nat->Prop),m=L.length-i/\i<=L.length/\e=[(0,.slice ad L.length c),(5,.p p 0),(6,.i (i:Int))]/\BX h g p w s rw ow ro (runS (L.take i) st0) i)
  (k:=L.length) (by show _<100000;omega) ⟨0,ow,ro,rfl,by omega,rfl,b1⟩ ?_
 clear b1 e1 ow ro h1
 rintro _ _ g ⟨i,ow,ro,rfl,hi,rfl,bx⟩ n2 ih
 by_cases hlt:(i:Int)<L.length
 case pos=>
  obtain ⟨x,hx⟩:=jl8 (l:=L) (i:=i) (by omega)
  have hxm:=List.mem_of_getElem? hx
  obtain ⟨b,cs,ro',rfl,lb,hb,hlen,hc⟩:=hel (by rintro rfl;simp at hx)
  have hbg:g.get b=some (.cells cs ro'):=by rw [bx.old.2 b lb,hb]
  have h5:(cs.drop (0+(i:Int).toNat*5)).take 5=x.V:=by rw [Nat.zero_add,Int.toNat_natCast];exact hc i x hx
  obtain ⟨g2,ow2,ro2,e2,bx2,_⟩:=bx_do hcl (d:=d-1) (by omega) bx (by omega) (hok x hxm) (hfew.2 x hxm)
  have hi1:(i:Int)+1=((i+1:Nat):Int):=by omega
  rw [<- runS_take hx] at bx2
  clear hok hel hfew bx hc
  repeat' (first|refine zaa rfl ?_|refine zad (by repeat' constructor) ?_|refine zaf rfl rfl ?_|refine zau rfl rfl ?_|refine zay rfl rfl (by omega) ?_|apply zab|apply zac|refine zbi rfl ‹_› ?_|apply zbo|apply zbp|apply zae)
  refine Ops.loadN rfl hbg (by omega) ?_
  rw [h5]
  repeat' (first|refine zaa rfl ?_|refine zaw rfl ‹_› ?_|refine zad (by repeat' constructor) ?_|refine zal rfl rfl ⟨by omega,by omega⟩ ?_|refine zao rfl ?_|apply zab|apply zac|refine zbl rfl rfl ?_|apply zbp|apply zae|apply zbw)
  rw [hi1]
  exact ih (L.length-(i+1)) (by omega) _ _ ⟨i+1,ow2,ro2,rfl,by omega,rfl,bx2⟩
 obtain rfl:i=L.length:=by omega
 rw [List.take_length] at bx
 generalize runS L st0=st at bx ⊢
 clear ih hel hok
 have lp:=bx.lp
 repeat' (first|refine zaa rfl ?_|refine zad (by repeat' constructor) ?_|refine zaf rfl rfl ?_|refine zau rfl rfl ?_|apply zab|apply zac|refine zbj rfl ‹_› ?_|apply zbo|apply zbr|apply zae|apply zbv|apply zby|apply zcb)
 refine Run.loop (fun m e g=>∃ (i:Nat) (ow:Nat->Nat) (ro:Nat->Prop) (ov:V),m=96-i/\i<=96/\e=[(5,.p p 0),(8,ov),(9,.i (i:Int))]/\BX h g p w s rw ow ro st L.length/\Row h.nx g 7 ov i (jjo st.ws i) /\ ∀ q,ov.at?=some q->ow q=0 /\ ¬ ro q/\q≠p)
  (k:=96) (by show _<100000;omega) ⟨0,ow,ro,.nils,rfl,by omega,rfl,bx,Row.nil _ _ _,fun q hq=>by cases hq⟩ ?_
 clear bx ow ro
 rintro _ _ g ⟨i,ow,ro,ov,rfl,hi,rfl,bx,row,hown⟩ n2 ih
 by_cases hlt:i<96
 case neg=>
  obtain rfl:i=96:=by omega
  have hlt' : ¬ ((96:Nat):Int)<=95:=by omega
  clear ih
  repeat' (first|refine zaa rfl ?_|refine zad (by repeat' constructor) ?_|refine zai rfl rfl ?_|apply zab|apply zac|refine zbj rfl ‹_› ?_|apply zbq|apply zbr|apply zae|apply zbv|apply zby|apply zcb|refine zcf rfl ?_)
  exact .inr ⟨hfew,p,w,s,rw,ow,ro,ov,rfl,bx,row,hown⟩
 have hlt':(i:Int)<=95:=by omega
 have hi1:(i:Int)+1=((i+1:Nat):Int):=by omega
 have hp:=bx.b.hp
 obtain ⟨g2,ro2,e2,bx2,f2,k2⟩:=bx_ready hcl (d:=d-1) (fd:=(i:Int)) (by omega) bx
 have row2:Row h.nx g2 7 ov i (jjo st.ws i):=by
  rcases row with r | ⟨q,h1,h2,e,h4,h5⟩
  ·exact .inl r
  ·exact .inr ⟨q,h1,Nat.lt_of_lt_of_le h2 f2.ch.nx,e,k2 _ _ h2 h4,h5⟩
 have hlt2 : ∀ q,ov.at?=some q->h.nx<=q/\q<g.nx:=fun q hq=>row.at_ge hq
 clear hfew row k2
 repeat' (first|refine zaa rfl ?_|refine zav rfl ‹_› rfl ?_|refine zaw rfl ‹_› ?_|refine zad (by repeat' constructor) ?_|refine zai rfl rfl ?_|refine zau rfl rfl ?_|apply zab|apply zac|refine zbi rfl ‹_› ?_|apply zbo|apply zbp|apply zae)
 refine Ops.push (N:=h.nx) (new:=(rdyS st.ws (i:Int)).cells) rfl rfl rfl rfl (by omega) rfl rfl row2 bx2.old.1 (by omega) (by omega) fun v' g3 row' hx' hz' hk'=>?_
 repeat' (first|refine zaa rfl ?_|refine zad (by repeat' constructor) ?_|refine zal rfl rfl ⟨by omega,by omega⟩ ?_|apply zac|apply zae|apply zbw)
 rw [hi1]
 have b3:BB g3 p w s rw ow ro2 (fun j=>j<h.nx) st st:=bx2.b.off hx' fun j hj ho=>hk' j hj fun e=>by
  obtain ⟨q1,q2,q3⟩:=hown j e
  obtain ⟨q4,q5⟩:=hlt2 j e
  rcases ho with ho | ho | ho | ho
  ·exact ho q1
  ·exact q2 ((f2.rtag j q5).1 ho)
  ·have ho:j<h.nx:=ho
   omega
  ·exact q3 ho
 have old3:Old h g3:=⟨Nat.le_trans bx2.old.1 hx',fun j hj=>by rw [hk' j (Nat.lt_of_lt_of_le hj bx2.old.1) fun e=>by have:=hlt2 j e;omega,bx2.old.2 j hj]⟩
 refine ih (96-(i+1)) (by omega) _ _ ⟨i+1,ow,ro2,v',rfl,by omega,rfl,⟨b3,bx2.so,old3,bx2.own,bx2.lp⟩,row',fun q hq=>?_⟩
 have hq1:=hz' q hq
 exact ⟨bx2.b.W.top hq1,fun e=>by have:=bx2.b.ro_lt (.inl e);omega,fun e=>by have:=bx2.b.lp;omega⟩
end
end Am.Sigs
namespace Am.Sigs
open Am Go
section
variable {cl:Nat->Call} (hcl:Sem cl) {h:H} {w s:Nat} {ow:Nat->Nat} {ws:Ws} {now:Int} {tb:Tb} {no:Option (Nat × Nat)}
include hcl
theorem pl_is {d:Nat} {fd ev:Int} (hd:6<=d) (a:WSt h w s ow ws now tb no) (o:WsOk ws) (hm:jfU ev) :
  ∃ h',cl d (.fn F.pol_is) [.p w 0,.agg [.i fd,.i ev]] h=some (.i (jeh (rdyS ws fd) fd ev),h')/\Old h h':=by
 have o0:Old h (h.new (.cells [.i fd,.i ev] false)):=(Old.refl h).new
 have g0:(h.new (.cells [.i fd,.i ev] false)).get h.nx=some (.cells [.i fd,.i ev] false):=jad _
 have x0:(h.new (.cells [.i fd,.i ev] false)).nx=h.nx+1:=rfl
 obtain ⟨h1,e1,o1⟩:=ww_Ready hcl (d:=d-1) (fd:=fd) (by omega) (a.old o0) o
 rw [jkK] at e1
 generalize rdyS ws fd=r at e1 ⊢
 obtain ⟨op,inn,out,hup,err,rd,wr⟩:=r
 simp only [Rdy.cells] at e1
 have g1:h1.get h.nx=some (.cells [.i fd,.i ev] false):=by rw [o1.2 _ (by omega),g0]
 have x1:=o1.1
 have oE : ∀ c:List V,Old h ((h1.new (.cells [.bool false,.bool false,.bool false,.bool false,.bool false,.int .u64 0,.int .u64 0] false)).set h1.nx (.cells c false)):=fun c=>(o0.trans o1).new.set (by omega)
 refine jal (at_ hcl (by omega) rfl rfl rfl ?_)
 clear a o
 by_cases hfd:fd<0
 ·have hp:jeh ⟨op,inn,out,hup,err,rd,wr⟩ fd ev=0:=if_pos hfd
  rw [hp]
  clear hm
  repeat' (first|refine zaa rfl ?_|refine zav rfl (by repeat first|assumption|exact jaa _|refine zzn (by omega) ?_) rfl ?_|refine zaw rfl ‹_› ?_|refine zct rfl rfl rfl rfl (by repeat first|assumption|exact jaa _|refine zzn (by omega) ?_) (Nat.le_of_ble_eq_true rfl) ?_|refine zad (by repeat' constructor) ?_|refine zaf rfl rfl ?_|refine zau rfl rfl ?_|refine zcu rfl rfl ?_|apply zab|apply zac|refine zbi rfl ‹_› ?_|apply zbo|apply zbq|apply zbr|apply zae|refine zcc rfl ?_|apply zbu|apply zbv|apply zby|apply zbx)
  exact ⟨rfl,oE _⟩
 cases op
 ·have hp:jeh ⟨false,inn,out,hup,err,rd,wr⟩ fd ev=32:=by unfold jeh;rw [if_neg hfd];rfl
  rw [hp]
  clear hm
  repeat' (first|refine zaa rfl ?_|refine zav rfl (by repeat first|assumption|exact jaa _|refine zzn (by omega) ?_) rfl ?_|refine zaw rfl ‹_› ?_|refine zct rfl rfl rfl rfl (by repeat first|assumption|exact jaa _|refine zzn (by omega) ?_) (Nat.le_of_ble_eq_true rfl) ?_|refine zad (by repeat' constructor) ?_|refine zaf rfl rfl ?_|refine zao rfl ?_|refine zau rfl rfl ?_|refine zcu rfl rfl ?_|apply zab|apply zac|refine zbj rfl ‹_› ?_|refine zbk rfl rfl ?_|apply zbo|apply zbp|apply zbq|apply zbr|apply zae|refine zcc rfl ?_|apply zbu|apply zbv|apply zby|refine zbz rfl ?_|apply zbx)
  exact ⟨rfl,oE _⟩
 have hp:jeh ⟨true,inn,out,hup,err,rd,wr⟩ fd ev=b2i hup 16+b2i (inn&&decide (ev=1\/ev=5)) 1+b2i (out&&decide (ev=4\/ev=5)) 4+b2i err 8:=by
  unfold jeh;rw [if_neg hfd];rfl
 rw [hp]
 clear hp
 cases hup<;>cases inn<;>cases out<;>cases err<;>rcases hm with rfl | rfl | rfl | rfl
 all_goals
  repeat' (first|refine zaa rfl ?_|refine zav rfl (by repeat first|assumption|exact jaa _|refine zzn (by omega) ?_) rfl ?_|refine zaw rfl ‹_› ?_|refine zct rfl rfl rfl rfl (by repeat first|assumption|exact jaa _|refine zzn (by omega) ?_) (Nat.le_of_ble_eq_true rfl) ?_|refine zad (by repeat' constructor) ?_|refine zaf rfl rfl ?_|refine zao rfl ?_|refine zau rfl rfl ?_|refine zcu rfl rfl ?_|apply zab|apply zac|refine zbj rfl ‹_› ?_|refine zbk rfl rfl ?_|refine zbl rfl rfl ?_|apply zbo|apply zbp|apply zbq|apply zbr|apply zae|apply zbw|refine zcc rfl ?_|apply zbv|apply zby|refine zbz rfl ?_)
  exact ⟨rfl,oE _⟩
theorem pl_told_1 {d L c2 c3:Nat} {v:V} {l:List (Int × Int)} (hd:8<=d) (o:WsOk ws) (hm : ∀ p∈l,jfU p.2) (hl:l.length<=1000) (I:Nat->H->Prop) (J:H->Prop)
  (hW : ∀ i g,I i g->WSt g w s ow ws now tb no/\VP g v l/\g.get c3=some (.cells [v] false)/\g.get c2=some (.cells [.p w 0] false)/\c2<g.nx)
  (hI : ∀ i g g',I i g->Old g g'->I i g')
  (hy : ∀ i g p,l[i]?=some p->I i g -> ∃ (b:Bool) (g':H),cl (d-1) (.yld L) [.i (jeh (rdyS ws p.1) p.1 p.2)] g=some (.bool b,g')/\(b=true->I (i+1) g')/\(b=false->J g'))
  (h0:I 0 h) : ∃ v' h',cl d (.fn F.jeO) [.yld L,.p c3 0,.p c2 0] h=some (v',h')/\(I l.length h'\/J h'):=by
 obtain ⟨_,hv,hc3,_⟩:=hW _ _ h0
 obtain ⟨a,c,rfl,_⟩:=id hv
 refine at_ hcl (by omega) rfl rfl rfl ?_
 repeat' (first|refine zaa rfl ?_|refine zav rfl ‹_› rfl ?_|refine zad (by repeat' constructor) ?_|refine zau rfl rfl ?_|apply zab|apply zac|apply zbo|apply zae)
 refine Run.loop (fun m e g=>∃ i:Nat,m=l.length-i/\i<=l.length/\e=[(0,.yld L),(2,.p c2 0),(6,.slice a l.length c),(7,.i (l.length:Int)),(8,.i (i:Int))]/\I i g)
  (k:=l.length) (by show _<100000;omega) ⟨0,rfl,by omega,rfl,h0⟩ ?_
 clear hc3
 rintro _ _ g ⟨i,rfl,hi,rfl,hIi⟩ n2 ih
 by_cases hlt:(i:Int)<l.length
 case neg=>
  obtain rfl:i=l.length:=by omega
  clear ih hI hy hW hm
  repeat' (first|refine zad (by repeat' constructor) ?_|refine zaf rfl rfl ?_|apply zab|apply zac|refine zbj rfl ‹_› ?_|apply zbr|apply zae|apply zbv|apply zby|apply zcb|refine zce rfl ?_)
  exact .inl hIi
 have hp:=List.getElem?_eq_getElem (show i<l.length by omega)
 have hpm:=List.mem_of_getElem? hp
 generalize l[i]=p at hp hpm
 obtain ⟨_,hv1,_⟩:=hW _ _ hIi
 obtain ⟨b,o',cs,ro,rfl,hb,hcs,ho,hg⟩:=hv1.get hp
 have hg':(cs.drop (o'+(i:Int).toNat*2)).take 2=[.i p.1,.i p.2]:=by rw [Int.toNat_natCast];exact hg
 have hi1:(i:Int)+1=((i+1:Nat):Int):=by omega
 have o1:Old g ((g.new (.cells [.i 0,.i 0] false)).set g.nx (.cells [.i p.1,.i p.2] false)):=(Old.refl g).new.set (Nat.le_refl _)
 have I1:=hI _ _ _ hIi o1
 obtain ⟨W1,_,_,hc2,lc2⟩:=hW _ _ I1
 obtain ⟨g2,e2,o2⟩:=pl_is hcl (d:=d-1) (fd:=p.1) (ev:=p.2) (by omega) W1 o (hm p hpm)
 obtain ⟨b',g',e3,q1,q2⟩:=hy i g2 p hp (hI _ _ _ I1 o2)
 clear hW hI hy hm
 repeat' (first|refine zad (by repeat' constructor) ?_|refine zaf rfl rfl ?_|refine zay rfl rfl (by omega) ?_|apply zab|apply zac|refine zbi rfl ‹_› ?_|apply zbo|apply zbp|apply zae)
 refine Ops.loadN rfl hcs (by omega) ?_
 rw [hg']
 cases b'
 ·repeat' (first|refine zaa rfl ?_|refine zav rfl (by repeat first|assumption|exact jaa _) rfl ?_|refine zaw rfl ‹_› ?_|refine zct rfl rfl rfl rfl (by repeat first|assumption|exact jaa _) (Nat.le_of_ble_eq_true rfl) ?_|refine zcw rfl (by repeat first|assumption|exact jaa _) (Nat.le_of_ble_eq_true rfl) ?_|refine zad (by repeat' constructor) ?_|refine zcu rfl rfl ?_|apply zab|apply zac|apply zae)
  refine Ops.yield rfl rfl e3 ?_
  repeat' (first|refine zad (by repeat' constructor) ?_|refine zao rfl ?_|refine zbk rfl rfl ?_|apply zbq|apply zae|apply zbu|apply zbx|apply zca|refine zcd rfl ?_)
  exact .inr (q2 rfl)
 ·repeat' (first|refine zaa rfl ?_|refine zav rfl (by repeat first|assumption|exact jaa _) rfl ?_|refine zaw rfl ‹_› ?_|refine zct rfl rfl rfl rfl (by repeat first|assumption|exact jaa _) (Nat.le_of_ble_eq_true rfl) ?_|refine zcw rfl (by repeat first|assumption|exact jaa _) (Nat.le_of_ble_eq_true rfl) ?_|refine zad (by repeat' constructor) ?_|refine zcu rfl rfl ?_|apply zab|apply zac|apply zae)
  refine Ops.yield rfl rfl e3 ?_
  repeat' (first|refine zaa rfl ?_|refine zad (by repeat' constructor) ?_|refine zal rfl rfl ⟨by omega,by omega⟩ ?_|refine zao rfl ?_|apply zac|refine zbl rfl rfl ?_|apply zbp|apply zae|apply zbw)
  rw [hi1]
  exact ih (l.length-(i+1)) (by omega) _ _ ⟨i+1,rfl,by omega,rfl,q1 rfl⟩
end
end Am.Sigs
namespace Am.Sigs
open Am Go
noncomputable def polL (ws:Ws) (l:List (Int × Int)):List Int:=l.map fun p=>jeh (rdyS ws p.1) p.1 p.2
theorem polL_len (ws:Ws) (l:List (Int × Int)):(polL ws l).length=l.length:=by simp [polL]
def cntP:List Int->Int
 | []=>0
 | x :: l=>min x 1+cntP l
theorem jik (x:Int) : ∀ l,cntP (l++[x])=cntP l+min x 1
 | []=>by simp [cntP]
 | y :: l=>by rw [List.cons_append,cntP,jik x l,cntP];omega
theorem cntP_le {l:List Int} (h : ∀ x∈l,0<=x):0<=cntP l/\cntP l<=l.length:=by
 induction l with
 | nil=>simp [cntP]
 | cons x l ih=>
  have h1:=h x (by simp)
  have h2:=ih fun y hy=>h y (by simp [hy])
  rw [cntP,List.length_cons];omega
theorem polL_nn (ws:Ws) (l:List (Int × Int)) : ∀ x∈polL ws l,0<=x:=by
 intro x hx
 obtain ⟨p,_,rfl⟩:=List.mem_map.1 hx
 exact (jjr _ _ _).1
theorem polL_take {ws:Ws} {l:List (Int × Int)} {i:Nat} {p:Int × Int} (hp:l[i]?=some p):polL ws (l.take (i+1))=polL ws (l.take i)++[jeh (rdyS ws p.1) p.1 p.2]:=by
 unfold polL
 rw [List.take_add_one,hp];simp
section
variable {cl:Nat->Call} (hcl:Sem cl) {h:H} {w s:Nat} {ow:Nat->Nat} {ws:Ws} {now:Int} {tb:Tb} {no:Option (Nat × Nat)}
include hcl
theorem pl_told {d n:Nat} {a:Option (Nat × Nat)} {c:Cap} (hd:1<=d):cl d (.fn F.pol_told) [.p w 0,.slice a n c] h=some (.clo F.jeO [.p (h.nx+1) 0,.p h.nx 0],(h.new (.cells [.p w 0] false)).new (.cells [.slice a n c] false)):=by
 refine jaq (at_ hcl (by omega) rfl rfl rfl ?_)
 repeat' (first|refine zaa rfl ?_|refine zad (by repeat' constructor) ?_|refine zau rfl rfl ?_|refine zcu rfl rfl ?_|apply zab|apply zac|apply zbq|apply zae|refine zcc rfl ?_)
 exact ⟨rfl,rfl⟩
theorem jkM {d:Nat} {v:V} {l:List (Int × Int)} (hd:10<=d) (a:WSt h w s ow ws now tb no) (o:WsOk ws) (hv:VP h v l) (hf:jlp l) (hl:l.length<=1000) :
  ∃ v' h',cl d (.fn F.pol_Poll) [.p w 0,v] h=some (v',h')/\Old h h'/\((¬ mayP l/\v' = .tup [.nils,.i 0,.i 2])\/(mayP l /\ ∃ ov,v' = .tup [ov,.i (cntP (polL ws l)),.i 0]/\Row h.nx h' 1 ov l.length (ints (polL ws l)))):=by
 obtain ⟨h1,e1,o1⟩:=pl_may hcl (d:=d-1) (w:=w) (by omega) hv hf (by omega)
 by_cases hm:mayP l
 case neg=>
  rw [if_neg hm] at e1
  refine at_ hcl (by omega) rfl rfl rfl ?_
  clear hf
  repeat' (first|refine zaa rfl ?_|refine zaw rfl ‹_› ?_|refine zad (by repeat' constructor) ?_|refine zah rfl rfl ?_|apply zab|apply zac|refine zbi rfl (by omega) ?_|apply zbq|apply zae|apply zbu|refine zcf rfl ?_)
  exact ⟨o1,.inl ⟨hm,rfl⟩⟩
 rw [if_pos hm] at e1
 obtain ⟨av,cv,rfl,_⟩:=id hv
 refine at_ hcl (by omega) rfl rfl rfl ?_
 clear hf
 repeat' (first|refine zaa rfl ?_|refine zaw rfl ‹_› ?_|refine zcs rfl rfl rfl (jaa _) (Nat.le_of_ble_eq_true rfl) ?_|refine zad (by repeat' constructor) ?_|refine zah rfl rfl ?_|refine zcu rfl rfl ?_|apply zab|apply zac|refine zbj rfl (by omega) ?_|apply zbp|apply zae)
 refine Ops.callf rfl (pl_told hcl (w:=w) (by omega)) ?_
 repeat' (first|refine zad (by repeat' constructor) ?_|apply zbo|apply zae)
 have oH:Old h1 ((((h1.new (.cells [.nils] false)).new (.cells [.i 0] false)).set (h1.nx+1) (.cells [.i 0] false)).new (.cells [.p w 0] false)):=((Old.refl h1).new.new.set (by omega)).new
 have oH:Old h1 (((((h1.new (.cells [.nils] false)).new (.cells [.i 0] false)).set (h1.nx+1) (.cells [.i 0] false)).new (.cells [.p w 0] false)).new (.cells [.slice av l.length cv] false)):=oH.new
 have b0:(((((h1.new (.cells [.nils] false)).new (.cells [.i 0] false)).set (h1.nx+1) (.cells [.i 0] false)).new (.cells [.p w 0] false)).new (.cells [.slice av l.length cv] false)).get h1.nx=some (.cells [.nils] false):=(by simp only [H.get_set,H.get_new,H.nx_set,H.nx_new];(repeat (first | rw [if_pos trivial] | rw [if_pos (by omega)] | rw [if_neg (by omega)]))<;>first | assumption | rfl)
 have b1:(((((h1.new (.cells [.nils] false)).new (.cells [.i 0] false)).set (h1.nx+1) (.cells [.i 0] false)).new (.cells [.p w 0] false)).new (.cells [.slice av l.length cv] false)).get (h1.nx+1)=some (.cells [.i 0] false):=(by simp only [H.get_set,H.get_new,H.nx_set,H.nx_new];(repeat (first | rw [if_pos trivial] | rw [if_pos (by omega)] | rw [if_neg (by omega)]))<;>first | assumption | rfl)
 have b2:(((((h1.new (.cells [.nils] false)).new (.cells [.i 0] false)).set (h1.nx+1) (.cells [.i 0] false)).new (.cells [.p w 0] false)).new (.cells [.slice av l.length cv] false)).get (h1.nx+2)=some (.cells [.p w 0] false):=(by simp only [H.get_set,H.get_new,H.nx_set,H.nx_new];(repeat (first | rw [if_pos trivial] | rw [if_pos (by omega)] | rw [if_neg (by omega)]))<;>first | assumption | rfl)
 have b3:(((((h1.new (.cells [.nils] false)).new (.cells [.i 0] false)).set (h1.nx+1) (.cells [.i 0] false)).new (.cells [.p w 0] false)).new (.cells [.slice av l.length cv] false)).get (h1.nx+3)=some (.cells [.slice av l.length cv] false):=(by simp only [H.get_set,H.get_new,H.nx_set,H.nx_new];(repeat (first | rw [if_pos trivial] | rw [if_pos (by omega)] | rw [if_neg (by omega)]))<;>first | assumption | rfl)
 have x1:(((((h1.new (.cells [.nils] false)).new (.cells [.i 0] false)).set (h1.nx+1) (.cells [.i 0] false)).new (.cells [.p w 0] false)).new (.cells [.slice av l.length cv] false)).nx=h1.nx+4:=rfl
 change Run (cl (d-1)) fuel _ _ [(8,.p h1.nx 0),(9,.p (h1.nx+1) 0),(19,.clo F.jeO [.p (h1.nx+3) 0,.p (h1.nx+2) 0])] (((((h1.new (.cells [.nils] false)).new (.cells [.i 0] false)).set (h1.nx+1) (.cells [.i 0] false)).new (.cells [.p w 0] false)).new (.cells [.slice av l.length cv] false)) _
 generalize ((((h1.new (.cells [.nils] false)).new (.cells [.i 0] false)).set (h1.nx+1) (.cells [.i 0] false)).new (.cells [.p w 0] false)).new (.cells [.slice av l.length cv] false)=H1 at oH b0 b1 b2 b3 x1 ⊢
 have hx1:=o1.1
 refine Run.rangeFunc_lo rfl (by repeat (first|(apply Kept.cons;exact rfl)|apply Kept.nil|(apply Kept.miss;exact rfl))) fun LO hLO=>?_
 rw [x1]
 have oL:Old h1 (H1.new (LO .ready none)):=oH.new
 obtain ⟨v',h',hc,hIJ⟩:=pl_told_1 hcl (d:=d-1) (L:=h1.nx+4) (c2:=h1.nx+2) (c3:=h1.nx+3) (h:=H1.new (LO .ready none)) (v := .slice av l.length cv) (l:=l) (w:=w) (s:=s) (ow:=ow) (ws:=ws) (now:=now) (tb:=tb) (no:=no) (by omega) o hm.2 hl
  (fun i g=>i<=l.length/\(∃ sv,g.get h1.nx=some (.cells [sv] false)/\Row (h1.nx+5) g 1 sv i (ints (polL ws (l.take i))))/\g.get (h1.nx+1)=some (.cells [.i (cntP (polL ws (l.take i)))] false)/\g.get (h1.nx+2)=some (.cells [.p w 0] false)/\g.get (h1.nx+3)=some (.cells [.slice av l.length cv] false)/\g.get (h1.nx+4)=some (LO .ready none)/\h1.nx+5<=g.nx/\Old h1 g)
  (fun _=>False)
  (fun i g ⟨_,_,_,p2,p3,_,p5,p6⟩=>⟨(a.old o1).old p6,(hv.keep o1).keep p6,p3,p2,by omega⟩)
  (by
   rintro i g g' ⟨p00,⟨sv,p0,pr⟩,p1,p2,p3,p4,p5,p6⟩ og
   exact ⟨p00,⟨sv,by rw [og.2 _ (by omega),p0],pr.keep og.1 fun z hz=>og.2 z (pr.at_ge hz).2⟩,by rw [og.2 _ (by omega),p1],by rw [og.2 _ (by omega),p2],by rw [og.2 _ (by omega),p3],by rw [og.2 _ (by omega),p4],Nat.le_trans p5 og.1,p6.trans og⟩)
  (by
   rintro i g p hp ⟨p00,⟨sv,p0,pr⟩,p1,p2,p3,p4,p5,p6⟩
   have hlt:i<l.length:=by
    rcases Nat.lt_or_ge i l.length with h | h
    ·exact h
    ·rw [List.getElem?_eq_none h] at hp;cases hp
   have et:=polL_take (ws:=ws) hp
   have hcn:=cntP_le (polL_nn ws (l.take i))
   rw [polL_len,List.length_take] at hcn
   have hx:=jjr (rdyS ws p.1) p.1 p.2
   rw [et]
   generalize polL ws (l.take i)=pl at p1 pr hcn ⊢
   generalize jeh (rdyS ws p.1) p.1 p.2=px at hx ⊢
   have ec:=jik px pl
   have p2x:g.get (h1.nx+2)=some (.cells [.p w 0] false):=p2
   refine ⟨true,?_⟩
   suffices q : ∃ v' g',cl (d-1-1) (.yld (h1.nx+4)) [.i px] g=some (v',g')/\(v' = .bool true/\(i+1<=l.length/\(∃ sv,g'.get h1.nx=some (.cells [sv] false)/\Row (h1.nx+5) g' 1 sv (i+1) (ints (pl++[px])))/\g'.get (h1.nx+1)=some (.cells [.i (cntP (pl++[px]))] false)/\g'.get (h1.nx+2)=some (.cells [.p w 0] false)/\g'.get (h1.nx+3)=some (.cells [.slice av l.length cv] false)/\g'.get (h1.nx+4)=some (LO .ready none)/\h1.nx+5<=g'.nx/\Old h1 g')) by
    obtain ⟨_,g',e,rfl,q⟩:=q
    exact ⟨g',e,fun _=>q,fun e=>by cases e⟩
   obtain ⟨cp,⟨asv,rfl⟩,_⟩:=pr.shape
   refine yl_ hcl (by omega) hLO p4 rfl ?_
   clear a hv hm o hp p2 et
   repeat' (first|refine zaa rfl ?_|refine zad (by repeat' constructor) ?_|apply zac)
   refine End.nil ⟨rfl,p4,?_⟩
   have pr2:Row (h1.nx+5) (g.set (h1.nx+4) (LO .busy none)) 1 (.slice asv i cp) i (ints pl):=pr.keep (by simp) fun z hz=>by have:=pr.at_ge hz;exact jab (by omega)
   repeat' (first|refine zaa rfl ?_|refine zav rfl (by repeat first|assumption|refine zzn (by omega) ?_) rfl ?_|apply zab|apply zac|apply zbo)
   refine Ops.push (N:=h1.nx+5) (new:=[.i px]) rfl rfl rfl rfl (by omega) rfl rfl pr2 (by simpa using p5) (by omega) (by omega) fun v2 g2 row' hx' hz' hk'=>?_
   have hx':g.nx<=g2.nx:=by simpa using hx'
   have hk2 : ∀ j,j<h1.nx+5->g2.get j=(g.set (h1.nx+4) (LO .busy none)).get j:=fun j hj=>hk' j (by simp;omega) fun e=>by have:=pr2.at_ge e;omega
   have q0:g2.get h1.nx=some (.cells [.slice asv i cp] false):=by rw [hk2 _ (by omega),jab (by omega),p0]
   have q1:g2.get (h1.nx+1)=some (.cells [.i (cntP pl)] false):=by rw [hk2 _ (by omega),jab (by omega),p1]
   have hone:=row'.one
   refine Ops.store1 rfl rfl hone q0 Nat.zero_lt_one ?_
   repeat' (first|refine zaa rfl ?_|refine zav rfl (by repeat first|assumption|refine zzn (by omega) ?_) rfl ?_|refine zad (by repeat' constructor) ?_|refine zal rfl rfl ⟨by omega,by omega⟩ ?_|refine zcr rfl rfl ?_|apply zac|apply zae)
   refine Ops.store1 (l:=[.i (cntP pl)]) rfl rfl rfl (by rw [jab (by omega),q1]) Nat.zero_lt_one ?_
   repeat' (first|refine zad (by repeat' constructor) ?_|apply zbw)
   refine End.nil ⟨⟨.busy,none,by rw [jab (by omega),jab (by omega),hk2 _ (by omega),jaa]⟩,rfl,by omega,⟨v2,?_,?_⟩,?_,?_,?_,jaa _,by simp;omega,?_⟩
   ·rw [jab (by omega),jab (by omega)];exact jaa _
   ·have r2:Row (h1.nx+5) g2 1 v2 (i+1) (ints (pl++[px])):=by simpa [ints] using row'
    exact r2.keep (by simp) fun z hz=>by have:=hz' z hz;simp at this;rw [jab (by omega),jab (by omega),jab (by omega)]
   ·rw [jab (by omega),ec];exact jaa _
   ·rw [jab (by omega),jab (by omega),jab (by omega),hk2 _ (by omega),jab (by omega),p2x]
   ·rw [jab (by omega),jab (by omega),jab (by omega),hk2 _ (by omega),jab (by omega),p3]
   ·have p7:=p6.1
    exact ⟨by simp;omega,fun j hj=>by rw [jab (by omega),jab (by omega),jab (by omega),hk2 _ (by omega),jab (by omega),p6.2 j hj]⟩)
  ⟨by omega,⟨.nils,by rw [jac (by omega),b0],by simpa [polL] using Row.nil _ _ _⟩,by rw [jac (by omega),b1];simp [polL,cntP],by rw [jac (by omega),b2],by rw [jac (by omega),b3],by rw [<- x1,jad],by simp [x1],oL⟩
 refine hIJ.elim ?_ fun hF=>hF.elim
 rintro ⟨p00,⟨sv,p0,pr⟩,p1,p2,p3,p4,p5,p6⟩
 rw [List.take_length] at p1 pr
 refine ⟨v',h',hc,.normal,p4,?_⟩
 have k0:(h'.kill (h1.nx+4)).get h1.nx=some (.cells [sv] false):=by rw [jaj (by omega),p0]
 have k1:(h'.kill (h1.nx+4)).get (h1.nx+1)=some (.cells [.i (cntP (polL ws l))] false):=by rw [jaj (by omega),p1]
 have o9:Old h (h'.kill (h1.nx+4)):=⟨by have:=p6.1;show h.nx<=h'.nx;omega,fun j hj=>by rw [jaj (by omega),p6.2 j (by omega),o1.2 j hj]⟩
 have r9:Row h.nx (h'.kill (h1.nx+4)) 1 sv l.length (ints (polL ws l)):=by
  rcases pr with r | ⟨q,q1,q2,e,q4,q5⟩
  ·exact .inl r
  ·exact .inr ⟨q,by omega,q2,e,by rw [jaj (by omega),q4],q5⟩
 obtain ⟨cp,⟨asv,rfl⟩,_⟩:=pr.shape
 clear a hv o hLO
 repeat' (first|refine zaa rfl ?_|refine zav rfl ‹_› rfl ?_|refine zad (by repeat' constructor) ?_|apply zab|apply zac|apply zbq|apply zae|apply zbw|refine zcf rfl ?_)
 exact ⟨o9,.inr ⟨hm,_,rfl,r9⟩⟩
end
end Am.Sigs
namespace Am.Sigs
open Am Go
theorem vp_of {h:H} {x:List (Int × Int)} {ad:Option (Nat × Nat)} {c:Cap} (hx:x≠[] -> ∃ b ro,ad=some (b,0)/\b<h.nx/\h.get b=some (.cells (jb5 x) ro)):VP h (.slice ad x.length c) x:=by
 refine ⟨ad,c,rfl,fun hn=>?_⟩
 obtain ⟨b,ro,rfl,h1,h2⟩:=hx hn
 exact ⟨b,0,_,ro,rfl,h1,h2,by rw [jdL];omega,fun i p hp=>by rw [Nat.zero_add];exact jdM hp⟩
theorem mayP_one {x:List (Int × Int)} {i:Nat} {p:Int × Int} (hm:mayP x) (hp:x[i]?=some p):mayP [p] :=
 ⟨by simp,fun q hq=>by
  obtain rfl:q=p:=by simpa using hq
  exact hm.2 q (List.mem_of_getElem? hp)⟩
section
variable {cl:Nat->Call} (hcl:Sem cl)
theorem jiX:ran (jbF prog fuel 30 (.fn F.jdy) [] ⟨202,.lf⟩) (jiW 300)=true:=by kernel_rfl
include hcl
theorem jka {h0:H} (hnx:h0.nx=202) (hwf : ∀ b,202<=b->h0.get b=none) {l:List (Int × Int × Int × Int × List Int × Unit)} {u1:V} (rl:jcD 200 jlm h0 l [u1]) {x0:List (Int × Int × Unit)} {u2:V} (rx:jcD 50 jld h0 x0 [u2]) :
  ∃ h',cl 31 (.fn F.jbN) [u1,u2] h0=some (.bool true,h'):=by
 suffices q : ∃ v h',cl 31 (.fn F.jbN) [u1,u2] h0=some (v,h')/\v = .bool true by
  obtain ⟨_,h',e,rfl⟩:=q;exact ⟨h',e⟩
 obtain ⟨h1,ea,x1,wf1,k1⟩:=alive_gen hcl jiX hnx hwf (by omega)
 obtain ⟨L,_,hL0⟩:=opsIn_of rl
 have hL:=hL0.keep (h':=h1) (by omega) fun j o _ hj=>k1 j o hj
 obtain ⟨x,ad,c,_,rfl,hc,hx⟩:=asks_of rx
 refine at_ hcl (by omega) rfl rfl rfl ?_
 by_cases h50:50<x.length
 ·have h50':(x.length:Int)>50:=by omega
  clear hL0 hL hx rl rx
  repeat' (first|refine zaa rfl ?_|refine zaw rfl ‹_› ?_|refine zad (by repeat' constructor) ?_|refine zbc rfl ‹_› ?_|refine zaj rfl rfl ?_|refine zaq rfl ‹_› rfl ?_|refine zau rfl rfl ?_|apply zab|apply zac|refine zbk rfl rfl ?_|apply zbq|apply zae|refine zcc rfl ?_|apply zbu)
  rfl
 have h50' : ¬ (x.length:Int)>50:=by omega
 obtain ⟨hf,hxb⟩:=hx (by omega)
 obtain ⟨bv,h2,eb,hb⟩:=bt_ok hcl (d:=30) (f:=F.jdx) rfl rfl (by omega) hL (by rw [x1];exact wf1)
 rcases hb with ⟨rfl,rfl⟩ | ⟨_,p,w,s,rw,ow,ro,ov,rfl,bx,_,_⟩
 ·clear hL0 hL hx rl rx hf
  repeat' (first|refine zaa rfl ?_|refine zaw rfl ‹_› ?_|refine zad (by repeat' constructor) ?_|refine zbb rfl ‹_› ?_|refine zaj rfl rfl ?_|refine zar rfl ‹_› rfl ?_|refine zao rfl ?_|refine zau rfl rfl ?_|apply zab|apply zac|refine zbk rfl rfl ?_|refine zbl rfl rfl ?_|apply zbp|apply zbq|apply zae|refine zcc rfl ?_|apply zbu)
  rfl
 have W:=bx.b.W
 have hp:=bx.b.hp
 have o:=bx.so.K.ok
 have hxb2:x≠[] -> ∃ b ro,ad=some (b,0)/\b<h2.nx/\h2.get b=some (.cells (jb5 x) ro):=fun hn=>by
  obtain ⟨b,q1,q2,q3⟩:=hxb hn
  exact ⟨b,true,q1,by have:=bx.old.1;omega,by rw [bx.old.2 b (by omega),k1 _ _ q3]⟩
 have hv:=vp_of (c := .fix c) hxb2
 obtain ⟨pv,h3,ep,o3,hpv⟩:=jkM hcl (d:=30) (by omega) W o hv hf (by omega)
 rcases hpv with ⟨hm,rfl⟩ | ⟨hm,av,rfl,row⟩
 ·clear hL0 hL hx rl rx hf
  repeat' (first|refine zaa rfl ?_|refine zav rfl ‹_› rfl ?_|refine zaw rfl ‹_› ?_|refine zad (by repeat' constructor) ?_|refine zbb rfl ‹_› ?_|refine zbd rfl rfl ?_|refine zag rfl rfl ?_|refine zah rfl rfl ?_|refine zaj rfl rfl ?_|refine zar rfl ‹_› rfl ?_|refine zas rfl rfl rfl ?_|refine zao rfl ?_|refine zau rfl rfl ?_|apply zab|apply zac|refine zbi rfl (by omega) ?_|refine zbl rfl rfl ?_|apply zbp|apply zbq|apply zae|refine zcc rfl ?_|apply zbu)
  rfl
 have hp3:=o3.2 p bx.b.lp
 rw [hp] at hp3
 obtain ⟨ca,⟨aa,rfl⟩,hix⟩:=row.shape
 clear hL0 hL hx rl rx
 repeat' (first|refine zaa rfl ?_|refine zav rfl ‹_› rfl ?_|refine zaw rfl ‹_› ?_|refine zad (by repeat' constructor) ?_|refine zbb rfl ‹_› ?_|refine zah rfl rfl ?_|refine zaj rfl rfl ?_|refine zar rfl ‹_› rfl ?_|refine zao rfl ?_|refine zau rfl rfl ?_|apply zab|apply zac|refine zbj rfl (by omega) ?_|refine zbl rfl rfl ?_|apply zbo|apply zbp|apply zae)
 refine Run.loop (fun m e g=>∃ i:Nat,m=x.length-i/\i<=x.length/\e=[(1,.slice ad x.length (.fix c)),(5,.bool true),(6,.p p 0),(9,.slice aa x.length ca),(12,.i (i:Int))]/\Old h3 g)
  (k:=x.length) (by show _<100000;omega) ⟨0,rfl,by omega,rfl,Old.refl _⟩ ?_
 rintro _ _ g ⟨i,rfl,hi,rfl,og⟩ n2 ih
 by_cases hlt:(i:Int)<x.length
 case neg=>
  clear ih hix hf
  repeat' (first|refine zaa rfl ?_|refine zad (by repeat' constructor) ?_|refine zaf rfl rfl ?_|refine zau rfl rfl ?_|apply zab|apply zac|refine zbj rfl ‹_› ?_|apply zbq|apply zbr|apply zae|refine zcc rfl ?_|apply zbv|apply zby|apply zcb)
  rfl
 obtain ⟨q,hq⟩:=jl8 (l:=x) (i:=i) (by omega)
 have hqm:=List.mem_of_getElem? hq
 obtain ⟨b,ro',rfl,lb,hb⟩:=hxb2 (by rintro rfl;simp at hq)
 have hlp:=jdL x
 have hbg:g.get b=some (.cells (jb5 x) ro'):=by rw [og.2 _ (by have:=o3.1;omega),o3.2 _ lb,hb]
 have hv1:VP g (.slice (some (b,0+i*2)) 1 (.fix (c-i))) [q]:=by
  refine ⟨_,.fix (c-i),rfl,fun _=>⟨b,0+i*2,_,ro',rfl,by have:=o3.1;have:=og.1;omega,hbg,by show 0+i*2+1*2<=_;omega,fun j r hj=>?_⟩⟩
  match j,hj with
  | 0,hj=>cases hj;rw [show 0+i*2+0*2=i*2 by omega];exact jdM hq
  | j+1,hj=>simp at hj
 have Wg:=(W.old o3).old og
 obtain ⟨pv,g2,ep2,o4,hpv⟩:=jkM hcl (d:=30) (by omega) Wg o hv1 (fun r hr=>by
  have e:r=q:=by simpa using hr
  rw [e];exact hf q hqm) (by simp)
 rcases hpv with ⟨hn,_⟩ | ⟨_,bv,rfl,row2⟩
 ·exact absurd (mayP_one hm hq) hn
 obtain ⟨qa,y1,y2,y3,y4⟩:=hix i (by omega)
 cases y3
 have hga:g2.get qa=some (.cells (ints (polL (runS L st0).ws x)) false):=by rw [o4.2 _ (by have:=og.1;omega),og.2 _ y2,y4]
 have hca:(ints (polL (runS L st0).ws x))[0+(i:Int).toNat*1]?=some (.i (jeh (rdyS (runS L st0).ws q.1) q.1 q.2)):=by
  rw [show 0+(i:Int).toNat*1=i by omega]
  simp [polL,hq]
 rcases row2 with ⟨hz,_⟩ | ⟨qb,z1,z2,rfl,z4,_⟩
 ·simp at hz
 have hcb:(ints (polL (runS L st0).ws [q]))[0+(0:Int).toNat*1]?=some (.i (jeh (rdyS (runS L st0).ws q.1) q.1 q.2)):=by simp [polL]
 have hi1:(i:Int)+1=((i+1:Nat):Int):=by omega
 have hpg:g.get p=some (.cells [.p w 0,.p rw 0] false):=by rw [og.2 _ (by have:=o3.1;have:=bx.b.lp;omega),hp3]
 clear hf hix row Wg W o hv hv1 bx hxb2 hxb
 repeat' (first|refine zaa rfl ?_|refine zav rfl ‹_› rfl ?_|refine zad (by repeat' constructor) ?_|refine zaf rfl rfl ?_|refine zal rfl rfl ⟨by omega,by omega⟩ ?_|refine zau rfl rfl ?_|apply zab|apply zac|refine zbi rfl ‹_› ?_|apply zbo|apply zbp|apply zae)
 refine Ops.slice_b (l:=i) (r:=i+1) rfl rfl (by rw [hi1];rfl) (by omega) (by omega) hc ?_
 rw [show i+1-i=1 by omega]
 repeat' (first|refine zaa rfl ?_|refine zav rfl ‹_› ‹_› ?_|refine zaw rfl ‹_› ?_|refine zad (by repeat' constructor) ?_|refine zbb rfl (by first|omega|exact fun h=>h rfl) ?_|refine zah rfl rfl ?_|refine zal rfl rfl ⟨by omega,by omega⟩ ?_|refine zar rfl (by first|omega|exact fun h=>h rfl) rfl ?_|refine zau rfl rfl ?_|refine zay rfl rfl (by omega) ?_|apply zab|apply zac|refine zbj rfl (by omega) ?_|apply zbp|apply zae|apply zbw)
 rw [hi1]
 exact ih (x.length-(i+1)) (by omega) _ _ ⟨i+1,rfl,by omega,rfl,og.trans o4⟩
end
end Am.Sigs
