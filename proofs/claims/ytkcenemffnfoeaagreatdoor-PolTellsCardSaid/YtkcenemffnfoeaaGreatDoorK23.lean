/- Our own library, part 23: an abstract machine, sound for the model, and what the functions do over it. No condition. -/
import Derived.Test.YtkcenemffnfoeaaGreatDoorK22
import Derived.Test.YtkcenemffnfoeaaGreatDoorK20
import Derived.Test.YtkcenemffnfoeaaGreatDoorK11
import Derived.Test.YtkcenemffnfoeaaGreatDoorK17
import Derived.Test.YtkcenemffnfoeaaGreatDoorK14
import Derived.Test.YtkcenemffnfoeaaGreatDoorK18
set_option maxHeartbeats 8000000
set_option linter.all false
namespace Am.Sigs
open Am Go
structure Rdy where
 op:Bool
 inn:Bool
 out:Bool
 hup:Bool
 err:Bool
 rd:Int
 wr:Int
def Rdy.cells (r:Rdy):List V:=[.bool r.op,.bool r.inn,.bool r.out,.bool r.hup,.bool r.err,.int .u64 r.rd,.int .u64 r.wr]
def Rdy.no:Rdy:=⟨false,false,false,false,false,0,0⟩
def Wi.rdy (x:Wi) (k:Nat):Rdy :=
 if 0<x.backlog then ⟨true,!x.waiting.isEmpty,false,false,false,(x.e k).inn,(x.e k).out⟩
 else ⟨true,x.rIn k,x.rOut k,(x.e (1-k)).what == 3,x.reset,(x.e k).inn,(x.e k).out⟩
noncomputable def rdyS (ws:Ws) (fd:Int):Rdy:=jbV ws fd Rdy.no fun _ k x=>x.rdy k
theorem jiv (ws:Ws) (fd:Int):je6 ws fd=(rdyS ws fd).cells:=by
 unfold je6 rdyS jbV
 split
 ·rfl
 ·split
  ·rfl
  ·show Wi.ready _ _=(Wi.rdy _ _).cells
   unfold Wi.ready Wi.rdy
   split<;>rfl
def jda (ev:Int):Prop:=ev=0\/ev=1\/ev=4\/ev=5
instance (ev:Int):Decidable (jda ev):=inferInstanceAs (Decidable (_\/_))
def b2i (b:Bool) (n:Int):Int:=if b then n else 0
def jc1 (r:Rdy) (fd ev:Int):Int :=
 if fd<0 then 0 else if r.op=false then 32 else b2i r.hup 16+b2i (r.inn&&decide (ev=1\/ev=5)) 1+b2i (r.out&&decide (ev=4\/ev=5)) 4+b2i r.err 8
theorem jep (r:Rdy) (fd ev:Int):0<=jc1 r fd ev/\jc1 r fd ev<=63:=by
 unfold jc1 b2i
 repeat' split
 all_goals omega
theorem wrap_zero {n:Nat} (hn:n<2 ^ 64) (h:IntKind.i64.wrap (n:Int)=0):n=0:=by
 have e:IntKind.wrap .i64 n=if (n:Int)%18446744073709551616>=9223372036854775808 then (n:Int)%18446744073709551616-18446744073709551616 else (n:Int)%18446744073709551616:=by
  unfold IntKind.wrap
  simp [IntKind.bits,IntKind.signed]
 rw [e] at h
 split at h<;>omega
theorem jmw (x:BitVec 64) (h:x &&& ~~~(5#64)=0#64):x=0#64\/x=1#64\/x=4#64\/x=5#64:=by
 have h5:x &&& 5#64=x:=by
  apply BitVec.eq_of_getElem_eq
  intro i hi
  have:=congrArg (fun y:BitVec 64=>y[i]) h
  simp only [BitVec.getElem_and,BitVec.getElem_not,BitVec.getElem_zero] at this ⊢
  revert this
  cases x[i]<;>cases (5#64)[i]<;>simp
 have hle:x.toNat<=5:=by
  have e:(x &&& 5#64).toNat=x.toNat:=by rw [h5]
  rw [BitVec.toNat_and] at e
  have:=Nat.and_le_right (n:=x.toNat) (m:=(5#64).toNat)
  rw [e] at this
  exact this
 have hx:x=BitVec.ofNat 64 x.toNat:=by simp
 generalize x.toNat=n at hle hx
 subst hx
 rcases (by omega:n=0\/n=1\/n=2\/n=3\/n=4\/n=5) with rfl | rfl | rfl | rfl | rfl | rfl
 ·exact .inl rfl
 ·exact .inr (.inl rfl)
 ·exact absurd h (by decide)
 ·exact absurd h (by decide)
 ·exact .inr (.inr (.inl rfl))
 ·exact .inr (.inr (.inr rfl))
theorem jls {ev:Int} (h0 : -9223372036854775808<=ev) (h1:ev<=9223372036854775807):(IntKind.i64.wrap (BitVec.ofInt 64 ev &&& ~~~(BitVec.ofInt 64 5)).toNat=0)↔jda ev:=by
 constructor
 ·intro h
  have h2:=wrap_zero (BitVec.isLt _) h
  have h3:BitVec.ofInt 64 ev &&& ~~~(5#64)=0#64:=BitVec.eq_of_toNat_eq (by simpa using h2)
  have hi:(BitVec.ofInt 64 ev).toInt=ev:=by
   rw [BitVec.toInt_ofInt]
   unfold Int.bmod
   simp
   split<;>omega
  have key : ∀ n:Int,BitVec.ofInt 64 ev=BitVec.ofInt 64 n->(BitVec.ofInt 64 n).toInt=n->ev=n:=fun n e e2=>by rw [<- hi,e,e2]
  rcases jmw _ h3 with e | e | e | e
  ·exact .inl (key 0 e rfl)
  ·exact .inr (.inl (key 1 e rfl))
  ·exact .inr (.inr (.inl (key 4 e rfl)))
  ·exact .inr (.inr (.inr (key 5 e rfl)))
 ·rintro (rfl | rfl | rfl | rfl)<;>rfl
end Am.Sigs
namespace Am.Sigs
open Am Go
structure BX (h0 h:H) (p w s rw:Nat) (ow:Nat->Nat) (ro:Nat->Prop) (st:St) (i:Nat):Prop where
 b:BB h p w s rw ow ro (fun j=>j<h0.nx) st st
 so:StOk st i
 old:Old h0 h
 own : ∀ j,ow j≠0\/ro j->h0.nx<=j
 lp:h0.nx<=p
theorem old_fm {h0 h h':H} {ow ow':Nat->Nat} {ro ro':Nat->Prop} (o:Old h0 h) (f:Fm h h' ow ro ow' ro') (own : ∀ j,ow j≠0\/ro j->h0.nx<=j):Old h0 h' :=
 ⟨Nat.le_trans o.1 f.ch.nx,fun j hj=>by rw [f.ch.get j (Nat.lt_of_lt_of_le hj o.1) fun hb=>by have:=own j hb;omega,o.2 j hj]⟩
theorem BX.fm {h0 h h':H} {p w s rw:Nat} {ow ow':Nat->Nat} {ro ro':Nat->Prop} {st st':St} {i i':Nat} (x:BX h0 h p w s rw ow ro st i) (b:BB h' p w s rw ow' ro' (fun j=>j<h0.nx) st' st') (f:Fm h h' ow ro ow' ro') (so:StOk st' i'):BX h0 h' p w s rw ow' ro' st' i':=by
 refine ⟨b,so,old_fm x.old f x.own,fun j hj=>?_,x.lp⟩
 rcases Nat.lt_or_ge j h.nx with h1 | h1
 ·rw [f.tag j h1,f.rtag j h1] at hj
  exact x.own j hj
 ·exact Nat.le_trans x.old.1 h1
def st0:St:=⟨[],0,Tb.zero,none⟩
theorem atS_nil (fd:Int):atS [] fd=none:=jez fun n k=>by rintro ⟨x,h,_⟩;simp at h
theorem st0_ok:StOk st0 0 where
 K:=⟨⟨fun n k n' k' fd h=>(by obtain ⟨x,hx,_⟩:=h;simp [st0] at hx),fun x hx=>(by simp [st0] at hx),by simp [st0],fun x hx=>(by simp [st0] at hx)⟩,fun i j x y p q m hx=>by simp [st0] at hx⟩
 nt := .inl rfl
 now:=⟨Int.le_refl _,by show (0:Int)<=_;omega⟩
 tb:=fun k=>⟨Int.le_refl _,Int.le_refl _⟩
theorem Ops.build {call:Call} {fuel base:Nat} {K:List Fr} {e:Env} {h:H} {Q:Post} {ix:Nat} {dst:Option Nat} {ops:List Ins} {keep:List Nat} {at_:Option Nat} {zero l:List V} {parts:List (Nat × Nat × Opd)} {ps:List (Nat × Nat × V)}
  (he:jb0 e parts=some ps) (hf:jaY zero ps=some l) (k:Ops call fuel base ops keep K (layv e dst (.agg l)) h Q):Ops call fuel base (⟨ix,dst,.build zero parts,none,at_,[]⟩ :: ops) keep K e h Q :=
 Ops.pure rfl (by simp only [I.pure,he,hf]) k
section
variable {cl:Nat->Call} (hcl:Sem cl)
include hcl
def wc0 (s:Nat):List V:=(List.replicate 96 ([.bool false,.i 0,.i 0]:List V)).flatten++[.nils,.p s 0,.int .u64 0,.bool false,.i 0,.i 0]
def rc0:List V := .nils :: tail 0 (fun _=>false) (fun _=>0) (-1) 0
omit hcl in
theorem wc0_eq (s:Nat):wc0 s=wc (fun i=>atS [] (i:Int)) .nils s 0 none:=by
 have e:(fun i:Nat=>atS [] (i:Int))=fun _=>none:=by funext i;exact atS_nil _
 rw [e]
 have:(List.replicate 96 ([.bool false,.i 0,.i 0]:List V)).flatten=jdk fun _=>none:=by
  kernel_rfl
 unfold wc0 wc
 rw [this]
 rfl
omit hcl in
theorem fillW (s:Nat):jaY ((List.replicate 96 ([.bool false,.i 0,.i 0]:List V)).flatten++[.nils,.ptr none,.int .u64 0,.bool false,.i 0,.i 0]) [(289,1,.p s 0)]=some (wc0 s):=by kernel_rfl
omit hcl in
theorem fillR:jaY ([.nils,.int .u64 0]++List.replicate 32 (.bool false:V)++List.replicate 34 (.i 0:V)) [(66,1,.i (-1))]=some rc0:=by kernel_rfl
set_option maxRecDepth 100000 in
theorem nw_world {d:Nat} (hd:2<=d) (h:H):cl d (.fn F.world_New) [] h=some (.p (h.nx+1) 0,(h.new Tb.zero.obj).new (.cells (wc0 h.nx) false)):=by
 have hs:=sp_new hcl (d:=d-1) om h
 refine jar (at_ hcl om rfl rfl rfl ?_)
 refine Run.seq (Run.region0 (Ops.mv rfl (Ops.nil qkp (End.seq (Run.seq (Run.region0 (Ops.callf rfl hs (Ops.build rfl (fillW h.nx) (Ops.make rfl rfl ?_)))))))))
 refine qo1 ?_
 exact ⟨rfl,rfl⟩
set_option maxRecDepth 100000 in
theorem nw_ref {d:Nat} (hd:1<=d) (h:H):cl d (.fn F.jeH) [] h=some (.p h.nx 0,h.new (.cells rc0 false)):=by
 refine jar (at_ hcl om rfl rfl rfl ?_)
 refine Run.seq (Run.region0 (Ops.mv rfl (Ops.nil qkp (End.seq (Run.seq (Run.region0 (Ops.build rfl fillR (Ops.make rfl rfl ?_))))))))
 refine qo1 ?_
 exact ⟨rfl,rfl⟩
theorem nw_fresh {d:Nat} (hd:3<=d) (h:H) (hf : ∀ j,h.nx<=j->h.get j=none) : ∃ p w s rw ow ro h',cl d (.fn F.jdR) [] h=some (.p p 0,h')/\BX h h' p w s rw ow ro st0 0:=by
 have e1:=nw_world hcl (d:=d-1) om h
 have e2:=nw_ref hcl (d:=d-1) om ((h.new Tb.zero.obj).new (.cells (wc0 h.nx) false))
 have x1:((h.new Tb.zero.obj).new (.cells (wc0 h.nx) false)).nx=h.nx+2:=rfl
 rw [x1] at e2
 have o4:Old h ((((h.new Tb.zero.obj).new (.cells (wc0 h.nx) false)).new (.cells rc0 false)).new (.cells [.p (h.nx+1) 0,.p (h.nx+2) 0] false)):=(Old.refl h).new.new.new.new
 refine ⟨h.nx+3,h.nx+1,h.nx,h.nx+2,fun j=>if j=h.nx then 3 else if j=h.nx+1 then 1 else 0,fun j=>j=h.nx+2,(((h.new Tb.zero.obj).new (.cells (wc0 h.nx) false)).new (.cells rc0 false)).new (.cells [.p (h.nx+1) 0,.p (h.nx+2) 0] false),jar (at_ hcl om rfl rfl rfl ?_),⟨⟨?_,?_,?_,?_,?_,?_,?_⟩,st0_ok,o4,?_,?_⟩⟩
 ·refine qm1 ?_
  exact ⟨rfl,rfl⟩
 ·refine ⟨[],⟨⟨⟨.nils,?_,Row.nil _ _ _,fun z hz=>by cases hz⟩,?_,?_,?_,?_,?_,fun j hj=>?_,fun n t ht=>by simp at ht⟩,fun n k fd hat=>?_⟩,rfl⟩
  ·have e:=wc0_eq h.nx
   show _=some (Obj.cells (wc (fun i=>atS [] (i:Int)) .nils h.nx 0 none) false)
   rw [<- e]
   exact qgt
  ·exact qgt
  ·show (if h.nx+1=h.nx then 3 else if h.nx+1=h.nx+1 then 1 else 0)=1
   rw [if_neg om,if_pos rfl]
  ·show (if h.nx=h.nx then 3 else if h.nx=h.nx+1 then 1 else 0)=3
   rw [if_pos rfl]
  ·simp<;>omega
  ·simp<;>omega
  ·have hj:h.nx+4<=j:=hj
   show (if j=h.nx then 3 else if j=h.nx+1 then 1 else 0)=0
   rw [if_neg om,if_neg om]
  ·obtain ⟨x,hx,_⟩:=hat;simp at hx
 ·refine ⟨[],⟨⟨h.nx+3,fun e=>absurd rfl e,fun g gn gk=>⟨?_,?_,by omega,fun e=>absurd rfl e,fun _=>?_,fun r hr=>by cases hr⟩⟩,fun j hj=>?_,rfl,fun j hj hd=>?_⟩,rfl⟩
  ·rw [gn];simp
  ·rw [gn];simp
  ·rw [gk (h.nx+2) (by simp) (.inl rfl)]
   show _=some (Obj.cells rc0 false)
   exact qgt
  ·rcases hj with rfl | hj
   ·simp
   ·simp<;>omega
  ·have hj:j=h.nx+2:=hj
   have hd:j<h.nx:=hd
   omega
 ·exact qgt
 ·simp
 ·intro j hj
  have hj:j=h.nx+2\/j<h.nx:=hj
  show (if j=h.nx then 3 else if j=h.nx+1 then 1 else 0)=0
  rw [if_neg om,if_neg om]
 ·show (if h.nx+3=h.nx then 3 else if h.nx+3=h.nx+1 then 1 else 0)=0
  rw [if_neg om,if_neg om]
 ·intro hj
  have hj:h.nx+3=h.nx+2\/h.nx+3<h.nx:=hj
  omega
 ·intro j hj
  rcases hj with hj | hj
  ·have hj:(if j=h.nx then 3 else if j=h.nx+1 then 1 else 0)≠0:=hj
   by_cases h1:j=h.nx
   ·omega
   ·rw [if_neg h1] at hj
    by_cases h2:j=h.nx+1
    ·omega
    ·rw [if_neg h2] at hj;exact absurd rfl hj
  ·have hj:j=h.nx+2:=hj
   omega
 ·omega
end
end Am.Sigs
namespace Am.Sigs
open Am Go
def jmv (n:Int):UInt8:=UInt8.ofNat n.toNat
theorem byteI_V {n:Int} (h1:0<=n) (h2:n<=255):jc6 (jmv n) = .int .u8 n:=by
 have:n.toNat<256:=by omega
 simp only [jc6,jmv,UInt8.toNat_ofNat',Nat.mod_eq_of_lt this]
 congr 1;omega
theorem jjh {h:H} : ∀ {l:List Int} {cs:List V},jb1 (jdS .u8) h l cs->cs=bts (l.map jmv)
 | [],_,e=>e
 | x :: l,_,⟨u,w,e,h1,h2⟩=>by
  obtain ⟨rfl,h3⟩:=h1
  rw [e,jjh h2,<- byteI_V h3.1 h3.2];rfl
theorem bytes_of {h:H} {l:List Int} {u:V} {B:Nat} (r:jcZ B (jdS .u8) h l [u]) : ∃ a c,u = .slice a l.length (.fix c)/\(l.length<=B->BytesAt h a (.fix c) (l.map jmv)):=by
 obtain ⟨a,c,e,h1,h2,h3⟩:=r
 cases e
 refine ⟨a,c,rfl,fun hB=>⟨fun e=>?_,by show (l.map jmv).length<=c;simpa using h2,fun hn=>?_⟩⟩
 ·obtain ⟨rfl,rfl⟩:=h3 e;exact ⟨rfl,rfl⟩
 ·obtain ⟨b,cs,q1,q2,q3,q4⟩:=h1 hB (by rintro rfl;exact hn rfl)
  refine ⟨b,0,cs,true,q1,q2,q3,fun i x hi=>?_⟩
  rw [jjh q4,Nat.zero_add];exact jiL hi
theorem BytesAt.keep {h h':H} {a:Option (Nat × Nat)} {c:Cap} {l:List UInt8} (t:BytesAt h a c l) (hx:h.nx<=h'.nx) (hk : ∀ j o,j<h.nx->h.get j=some o->h'.get j=some o):BytesAt h' a c l :=
 ⟨t.none_,t.fits,fun hn=>by
  obtain ⟨b,o,cs,ro,q1,q2,q3,q4⟩:=t.at_ hn
  exact ⟨b,o,cs,ro,q1,by omega,hk _ _ q2 q3,q4⟩⟩
theorem BytesAt.lt {h:H} {a:Option (Nat × Nat)} {c:Cap} {l:List UInt8} (t:BytesAt h a c l) {N:Nat} (hN:h.nx<=N) {z o:Nat} (ha:a=some (z,o)) (hl:l≠[]):z<N:=by
 obtain ⟨b,o',cs,ro,q1,q2,_⟩:=t.at_ hl
 rw [q1] at ha;cases ha;omega
end Am.Sigs
namespace Am.Sigs
open Am Go
structure OpX where
 k:Int
 a:Int
 n:Int
 t:Int
 dv:V
 D:List UInt8
abbrev OpX.V (x:OpX):List V:=opV x.k x.a x.n x.t x.dv
structure OpOk (h:H) (x:OpX):Prop where
 dv : ∃ a c,x.dv = .slice a x.D.length c/\(x.D.length<=300->BytesAt h a c x.D)
 t0:0<=x.t
 t1:x.t<=18446744073709551615
theorem OpOk.keep {h h':H} {x:OpX} (o:OpOk h x) (hx:h.nx<=h'.nx) (hk : ∀ j o,j<h.nx->h.get j=some o->h'.get j=some o):OpOk h' x:=by
 obtain ⟨⟨a,c,e,g⟩,t0,t1⟩:=o
 exact ⟨⟨a,c,e,fun hl=>(g hl).keep hx hk⟩,t0,t1⟩
theorem OpOk.dat {h:H} {x:OpX} (o:OpOk h x) (hl:x.D.length<=300):Dat h (fun j=>j<h.nx) x.dv x.D:=by
 obtain ⟨⟨a,c,e,g⟩,_,_⟩:=o
 refine ⟨⟨a,c,e,g hl⟩,fun hn z hz=>?_,hl⟩
 obtain ⟨b,o,cs,ro,q1,q2,_⟩:=(g hl).at_ hn
 rw [e,q1] at hz
 cases hz;exact q2
def jmz (h:H) (lv:V) (L:List OpX):Prop := ∃ ad c,lv = .slice ad L.length c/\(L.length<=200->(∀ x∈L,OpOk h x)/\(L≠[] -> ∃ b cs ro,ad=some (b,0)/\b<h.nx/\h.get b=some (.cells cs ro)/\cs.length=L.length*5 /\ ∀ (i:Nat) (x:OpX),L[i]?=some x->(cs.drop (i*5)).take 5=x.V))
theorem jmz.keep {h h':H} {lv:V} {L:List OpX} (o:jmz h lv L) (hx:h.nx<=h'.nx) (hk : ∀ j o,j<h.nx->h.get j=some o->h'.get j=some o):jmz h' lv L:=by
 obtain ⟨ad,c,e,g⟩:=o
 refine ⟨ad,c,e,fun hl=>⟨fun x hx'=>((g hl).1 x hx').keep hx hk,fun hn=>?_⟩⟩
 obtain ⟨b,cs,ro,q1,q2,q3,q4⟩:=(g hl).2 hn
 exact ⟨b,cs,ro,q1,by omega,hk _ _ q2 q3,q4⟩
def fewL (L:List OpX):Prop:=L.length<=200 /\ ∀ x∈L,x.D.length<=300
theorem jka {α : Type} {l:List α} {i:Nat} (h:i<l.length) : ∃ x,l[i]?=some x:=⟨_,List.getElem?_eq_getElem h⟩
section
variable {cl:Nat->Call} (hcl:Sem cl)
include hcl
theorem gr_ok {d:Nat} {h:H} {lv:V} {L:List OpX} (hd:1<=d) (hL:jmz h lv L) :
  ∃ v,cl d (.fn F.jcz) [lv] h=some (v,h)/\(v = .i 1\/(v = .i 0/\fewL L)):=by
 obtain ⟨ad,c,rfl,hin⟩:=hL
 suffices ∃ v h',cl d (.fn F.jcz) [.slice ad L.length c] h=some (v,h')/\(h'=h/\(v = .i 1\/(v = .i 0/\fewL L))) by
  obtain ⟨v,h',q1,rfl,q3⟩:=this
  exact ⟨v,q1,q3⟩
 refine at_ hcl om rfl rfl rfl ?_
 by_cases h1:200<(L.length:Int)
 ·refine qx1 ?_
  exact ⟨rfl,.inl rfl⟩
 obtain ⟨hok,hel⟩:=hin om
 refine qx1 ?_
 refine Run.loop (fun m e h'=>∃ i:Nat,m=L.length-i/\i<=L.length/\e=[(0,.slice ad L.length c),(8,.i (L.length:Int)),(9,.i (i:Int))]/\h'=h /\ ∀ j x,j<i->L[j]?=some x->x.D.length<=300) (k:=L.length) (by show _<100000;omega) ⟨0,rfl,by omega,rfl,rfl,fun j x hj=>by omega⟩ ?_
 rintro _ _ _ ⟨i,rfl,hi,rfl,rfl,hj⟩ n' ih
 by_cases hlt:(i:Int)<L.length
 case neg=>
  have hf:fewL L:=⟨by omega,fun x hx=>by
   obtain ⟨j,hjl,e⟩:=List.getElem_of_mem hx
   exact hj j x om (by rw [List.getElem?_eq_getElem hjl,e])⟩
  clear ih hel hok hj
  refine qx1 ?_
  exact ⟨rfl,.inr ⟨rfl,hf⟩⟩
 obtain ⟨x,hx⟩:=jka (l:=L) (i:=i) om
 obtain ⟨b,cs,ro,rfl,_,hb,hcl',hc⟩:=hel (by rintro rfl;simp at hx)
 obtain ⟨⟨da,dc,edv,_⟩,_,_⟩:=hok x (List.mem_of_getElem? hx)
 have h5:=hc i x hx
 have hc':cs[0+(i:Int).toNat*5+4]?=some (.slice da x.D.length dc):=by
  have:((cs.drop (i*5)).take 5)[4]?=some x.dv:=by rw [h5];rfl
  rw [List.getElem?_take,if_pos om,List.getElem?_drop] at this
  rw [show 0+(i:Int).toNat*5+4=i*5+4 by omega,this,edv]
 clear hel hok hc h5
 by_cases hd3:300<(x.D.length:Int)
 ·clear ih hj
  refine qx1 ?_
  exact ⟨rfl,.inl rfl⟩
 ·have hi1:(i:Int)+1=((i+1:Nat):Int):=by omega
  refine qx1 ?_
  rw [hi1]
  refine ih (L.length-(i+1)) om _ _ ⟨i+1,rfl,by omega,rfl,rfl,fun j y hj' hy=>?_⟩
  by_cases e:j=i
  ·subst e
   rw [hx] at hy;cases hy
   omega
  ·exact hj j y om hy
theorem bx_do {d i p w s rw:Nat} {h0 h:H} {ow:Nat->Nat} {ro:Nat->Prop} {st:St} {x:OpX} (hd:16<=d) (b:BX h0 h p w s rw ow ro st i) (hi:i<=200) (hx:OpOk h0 x) (hl:x.D.length<=300) :
  ∃ h' ow' ro',cl d (.fn F.jb4) [.p p 0,.agg x.V] h=some (.bool true,h')/\BX h0 h' p w s rw ow' ro' (doS x.k x.a x.n x.t x.D st) (i+1)/\Fm h h' ow ro ow' ro':=by
 have hD:Dat h (fun j=>j<h0.nx) x.dv x.D:=by
  have:=hx.dat hl
  exact ⟨this.v.keep2 b.old.1 fun hn z hz=>b.old.2 z (this.z hn z hz),this.z,hl⟩
 obtain ⟨h',ow',ro',e,b',f⟩:=do_ok hcl (k:=x.k) (a:=x.a) (n:=x.n) (t:=x.t) hd b.b b.so hi hD hx.t0 hx.t1
 exact ⟨h',ow',ro',e,b.fm b' f (doS_ok b.so hx.t0 hx.t1),f⟩
theorem bx_ready {d i p w s rw:Nat} {h0 h:H} {ow:Nat->Nat} {ro:Nat->Prop} {st:St} {fd:Int} (hd:3<=d) (b:BX h0 h p w s rw ow ro st i) :
  ∃ h' ro',cl d (.fn F.jaA) [.p rw 0,.i fd] h=some (.agg (rdyS st.ws fd).cells,h')/\BX h0 h' p w s rw ow ro' st i/\Fm h h' ow ro ow ro' /\ ∀ j o,j<h.nx->h.get j=some o->h'.get j=some o:=by
 obtain ⟨v,h',e,b',f,cr,rfl,hk⟩:=b.b.rcc hcl (d:=d) (f:=F.jaA) (args:=[.p rw 0,.i fd]) (r':=st)
  (P:=fun g v=>v = .agg (rdyS st.ws fd).cells/\(h.nx<=g.nx /\ ∀ j o,j<h.nx->ro j\/j<h0.nx->h.get j=some o->g.get j=some o))
  (fun g g' v m hp=>⟨hp.1,by rw [m.nx];exact hp.2.1,fun j o hj ho hg=>m.get j o (Nat.lt_of_lt_of_le hj hp.2.1) (hp.2.2 j o hj ho hg)⟩) (fun g q l ga gn hq wR hl=>by
  have oR:WsOk (l.map RX.x):=by rw [hl];exact b.so.K.ok
  obtain ⟨g',k1,k2⟩:=jlk hcl (d:=d) (fd:=fd) hd wR oR
  rw [hl,jiv] at k1
  have ok2:=Old.ofCh k2
  exact ⟨_,q,l,g',k1,wR.old ok2,hl,k2.weaken (fun _ _ h=>h.elim),.inl rfl,rfl,by rw [<- gn];exact ok2.1,fun j o hj ho hg=>by rw [ok2.2 j om,ga j hj ho,hg]⟩)
 refine ⟨h',_,e,b.fm b' f b.so,f,fun j o hj hg=>?_⟩
 by_cases hr:ro j\/j<h0.nx
 ·exact hk.2 j o hj hr hg
 ·rw [cr.get j hj fun e=>hr (.inl e),hg]
end
end Am.Sigs
namespace Am.Sigs
open Am Go
abbrev jnv:H->Int × Int × Int × Int × List Int × Unit->List V->Prop:=jdT (jdS .i64) (jdT (jdS .i64) (jdT (jdS .i64) (jdT (jdS .u64) (jdT (jcZ 300 (jdS .u8)) jmP))))
theorem jkD {h:H} {x:Int × Int × Int × Int × List Int × Unit} {vs:List V} (r:jnv h x vs) : ∃ u,vs=[.i x.1,.i x.2.1,.i x.2.2.1,.int .u64 x.2.2.2.1,u]/\jcZ 300 (jdS .u8) h x.2.2.2.2.1 [u]/\0<=x.2.2.2.1/\x.2.2.2.1<=18446744073709551615:=by
 obtain ⟨_,_,rfl,⟨rfl,_⟩,_,_,rfl,⟨rfl,_⟩,_,_,rfl,⟨rfl,_⟩,_,_,rfl,⟨rfl,ht⟩,u,w,rfl,r5,hw⟩:=r
 obtain rfl:w=[]:=hw
 have ⟨ad,c,e,h1⟩:=r5
 subst e
 exact ⟨_,rfl,⟨ad,c,rfl,h1⟩,ht.1,ht.2⟩
theorem jmU {h:H} : ∀ {l:List (Int × Int × Int × Int × List Int × Unit)} {cs:List V},jb1 jnv h l cs -> ∃ L:List OpX,L.length=l.length/\cs=(L.map OpX.V).flatten /\ ∀ x∈L,OpOk h x
 | [],_,e=>⟨[],rfl,e,fun x hx=>by cases hx⟩
 | y :: l,_,⟨u,w,e,h1,h2⟩=>by
  obtain ⟨L,l1,l2,l3⟩:=jmU h2
  obtain ⟨v,e1,r,t0,t1⟩:=jkD h1
  obtain ⟨a,c,rfl,hB⟩:=bytes_of r
  refine ⟨⟨y.1,y.2.1,y.2.2.1,y.2.2.2.1,.slice a y.2.2.2.2.1.length (.fix c),y.2.2.2.2.1.map jmv⟩ :: L,by simp [l1],by rw [e,e1,l2];rfl,fun x hx=>?_⟩
  rcases List.mem_cons.1 hx with rfl | hx
  ·exact ⟨⟨a,.fix c,by simp,fun hl=>hB (by simpa using hl)⟩,t0,t1⟩
  ·exact l3 x hx
theorem jlv : ∀ L:List OpX,(L.map OpX.V).flatten.length=L.length*5
 | []=>rfl
 | x :: L=>by
  have:=jlv L
  have h5:(OpX.V x).length=5:=rfl
  show (OpX.V x++(L.map OpX.V).flatten).length=_
  rw [List.length_append,this,h5]
  simp;omega
theorem flat_get : ∀ {L:List OpX} {i:Nat} {x:OpX},L[i]?=some x->(((L.map OpX.V).flatten).drop (i*5)).take 5=x.V
 | [],i,x,h=>by simp at h
 | y :: L,0,x,h=>by simp at h;subst h;rfl
 | y :: L,i+1,x,h=>by
  rw [List.map_cons,List.flatten_cons,show (i+1)*5=(OpX.V y).length+i*5 by show _=5+_;omega,<- List.drop_drop,List.drop_left]
  exact flat_get (by simpa using h)
theorem opsIn_of {h:H} {l:List (Int × Int × Int × Int × List Int × Unit)} {u:V} (r:jcZ 200 jnv h l [u]) : ∃ L:List OpX,L.length=l.length/\jmz h u L:=by
 obtain ⟨ad,c,e,h1,h2,h3⟩:=r
 cases e
 by_cases hl:l.length<=200
 ·by_cases hn:l=[]
  ·subst hn
   exact ⟨[],rfl,ad,.fix c,rfl,fun _=>⟨fun x hx=>(by cases hx),fun e=>absurd rfl e⟩⟩
  ·obtain ⟨b,cs,rfl,q1,q2,q3⟩:=h1 hl hn
   obtain ⟨L,l1,rfl,l3⟩:=jmU q3
   exact ⟨L,l1,_,.fix c,by rw [l1],fun _=>⟨l3,fun _=>⟨b,_,true,rfl,q1,q2,jlv L,fun i x hx=>flat_get hx⟩⟩⟩
 ·exact ⟨List.replicate l.length ⟨0,0,0,0,.nils,[]⟩,by simp,ad,.fix c,by simp,fun hl'=>absurd (by simpa using hl') hl⟩
end Am.Sigs
namespace Am.Sigs
open Am Go
def VP (h:H) (v:V) (l:List (Int × Int)):Prop := ∃ a c,v = .slice a l.length c/\(l≠[] -> ∃ b o cs ro,a=some (b,o)/\b<h.nx/\h.get b=some (.cells cs ro)/\o+l.length*2<=cs.length /\ ∀ (i:Nat) (p:Int × Int),l[i]?=some p->(cs.drop (o+i*2)).take 2=[.i p.1,.i p.2])
theorem VP.keep {h h':H} {v:V} {l:List (Int × Int)} (a:VP h v l) (o:Old h h'):VP h' v l:=by
 obtain ⟨a,c,rfl,g⟩:=a
 refine ⟨a,c,rfl,fun hl=>?_⟩
 obtain ⟨b,o',cs,ro,rfl,h1,h2,h3⟩:=g hl
 exact ⟨b,o',cs,ro,rfl,Nat.lt_of_lt_of_le h1 o.1,by rw [o.2 _ h1,h2],h3⟩
theorem VP.get {h:H} {a:Option (Nat × Nat)} {c:Cap} {l:List (Int × Int)} (v:VP h (.slice a l.length c) l) {i:Nat} {p:Int × Int} (hi:l[i]?=some p) :
  ∃ b o cs ro,a=some (b,o)/\b<h.nx/\h.get b=some (.cells cs ro)/\o+i*2+2<=cs.length/\(cs.drop (o+i*2)).take 2=[.i p.1,.i p.2]:=by
 obtain ⟨a',c',e,g⟩:=v
 cases e
 have hl:l≠[]:=by rintro rfl;simp at hi
 have hlt:i<l.length:=by
  rcases Nat.lt_or_ge i l.length with h | h
  ·exact h
  ·rw [List.getElem?_eq_none h] at hi;cases hi
 obtain ⟨b,o,cs,ro,rfl,h1,h2,h3,h4⟩:=g hl
 exact ⟨b,o,cs,ro,rfl,h1,h2,by omega,h4 i p hi⟩
def jmn (l:List (Int × Int)):Prop := ∀ p∈l,(-9223372036854775808<=p.1/\p.1<=9223372036854775807)/\(-9223372036854775808<=p.2/\p.2<=9223372036854775807)
def mayP (l:List (Int × Int)):Prop:=l.length<=96 /\ ∀ p∈l,jda p.2
instance (l:List (Int × Int)):Decidable (mayP l):=inferInstanceAs (Decidable (_/\_))
section
variable {cl:Nat->Call} (hcl:Sem cl) {h:H} {w s:Nat} {ow:Nat->Nat} {ws:Ws} {now:Int} {tb:Tb} {no:Option (Nat × Nat)}
include hcl
theorem jn9 {d:Nat} {v:V} {l:List (Int × Int)} (hd:1<=d) (hv:VP h v l) (hf:jmn l) (hl:l.length<=100000) :
  ∃ h',cl d (.fn F.pol_may) [.p w 0,v] h=some (.i (if mayP l then 0 else 2),h')/\Old h h':=by
 obtain ⟨a,c,rfl,_⟩:=id hv
 refine jak (at_ hcl om rfl rfl rfl ?_)
 by_cases h96:96<l.length
 ·have hn : ¬ mayP l:=fun e=>by have:=e.1;omega
  have h96':(96:Int)<(l.length:Int):=by omega
  rw [if_neg hn]
  clear hn hf
  refine qx1 ?_
  exact ⟨rfl,Old.refl _⟩
 have h96' : ¬ (96:Int)<(l.length:Int):=by omega
 refine qx1 ?_
 refine Run.loop (fun m e g=>∃ i:Nat,m=l.length-i/\i<=l.length/\e=[(12,.slice a l.length c),(13,.i (l.length:Int)),(14,.i (i:Int))]/\Old h g /\ ∀ j p,j<i->l[j]?=some p->jda p.2)
  (k:=l.length) (by show _<100000;omega) ⟨0,rfl,by omega,rfl,Old.refl _,fun j p hj=>by omega⟩ ?_
 rintro _ _ g ⟨i,rfl,hi,rfl,og,hall⟩ n2 ih
 by_cases hlt:(i:Int)<l.length
 case neg=>
  have hm:mayP l:=⟨by omega,fun p hp=>by
   obtain ⟨j,hj,e⟩:=List.getElem_of_mem hp
   exact hall j p om (by rw [List.getElem?_eq_getElem hj,e])⟩
  rw [if_pos hm]
  clear ih hall hf hm
  refine qx1 ?_
  exact ⟨rfl,og⟩
 have hp:=List.getElem?_eq_getElem (show i<l.length by omega)
 have hpm:=List.mem_of_getElem? hp
 generalize l[i]=p at hp hpm
 obtain ⟨b,o,cs,ro,rfl,hb,hcs,ho,hg⟩:=(hv.keep og).get hp
 have hfp:=hf p hpm
 have hg':(cs.drop (o+(i:Int).toNat*2)).take 2=[.i p.1,.i p.2]:=by rw [Int.toNat_natCast];exact hg
 have hi1:(i:Int)+1=((i+1:Nat):Int):=by omega
 by_cases hm:jda p.2
 ·have hz:=(jls hfp.2.1 hfp.2.2).2 hm
  clear hf
  refine qx1 ?_
  refine Ops.loadN rfl hcs om ?_
  rw [hg']
  repeat' (first|refine qmy ?_|refine zbf rfl (fun _=>?_) fun _=>?_|refine zbg rfl (fun _=>?_) fun _=>?_|refine zbh rfl (fun _=>?_) fun _=>?_|refine zbm rfl (fun _=>?_) fun _=>?_|refine zbn rfl (fun _=>?_) fun _=>?_)
  ·rename_i hx
   exact absurd hz hx
  rw [hi1]
  refine ih (l.length-(i+1)) om _ _ ⟨i+1,rfl,by omega,rfl,og.new.set og.1,fun j q hj hq=>?_⟩
  rcases Nat.lt_or_ge j i with h1 | h1
  ·exact hall j q h1 hq
  ·obtain rfl:j=i:=by omega
   rw [hp] at hq;cases hq;exact hm
 ·have hz : ¬ IntKind.i64.wrap (BitVec.ofInt 64 p.2 &&& ~~~(BitVec.ofInt 64 5)).toNat=0:=fun e=>hm ((jls hfp.2.1 hfp.2.2).1 e)
  have hn : ¬ mayP l:=fun e=>hm (e.2 p hpm)
  rw [if_neg hn]
  clear hf hn ih hall
  refine qx1 ?_
  refine Ops.loadN rfl hcs om ?_
  rw [hg']
  refine qm1 ?_
  exact ⟨rfl,og.new.set og.1⟩
end
end Am.Sigs
namespace Am.Sigs
open Am Go
abbrev jno:H->Int × Int × Unit->List V->Prop:=jdT (jdS .i64) (jdT (jdS .i64) jmP)
theorem jnn {h:H} : ∀ {l:List (Int × Int × Unit)} {cs:List V},jb1 jno h l cs->cs=jaX (l.map fun x=>(x.1,x.2.1))/\jmn (l.map fun x=>(x.1,x.2.1))
 | [],_,e=>⟨e,fun p hp=>by cases hp⟩
 | y :: l,_,⟨u,w,e,h1,h2⟩=>by
  obtain ⟨l1,l2⟩:=jnn h2
  obtain ⟨_,_,rfl,⟨rfl,f1⟩,_,_,rfl,⟨rfl,f2⟩,hn⟩:=h1
  obtain rfl:_=[]:=hn
  refine ⟨by rw [e,l1];rfl,fun p hp=>?_⟩
  rcases List.mem_cons.1 hp with rfl | hp
  ·exact ⟨f1,f2⟩
  ·exact l2 p hp
theorem asks_of {h:H} {B:Nat} {l:List (Int × Int × Unit)} {u:V} (r:jcZ B jno h l [u]) : ∃ (x:List (Int × Int)) (ad:Option (Nat × Nat)) (c:Nat),x.length=l.length/\u = .slice ad x.length (.fix c)/\x.length<=c /\
  (x.length<=B->jmn x/\(x≠[] -> ∃ b,ad=some (b,0)/\b<h.nx/\h.get b=some (.cells (jaX x) true))):=by
 obtain ⟨ad,c,e,h1,h2,h3⟩:=r
 cases e
 refine ⟨l.map fun x=>(x.1,x.2.1),ad,c,by simp,by simp,by simpa using h2,fun hl=>?_⟩
 by_cases hn:l=[]
 ·subst hn
  exact ⟨fun p hp=>(by cases hp),fun e=>absurd rfl e⟩
 ·obtain ⟨b,cs,rfl,q1,q2,q3⟩:=h1 (by simpa using hl) hn
  obtain ⟨rfl,hf⟩:=jnn q3
  exact ⟨hf,fun _=>⟨b,rfl,q1,q2⟩⟩
theorem jnV {h:H} {x:List (Int × Int)} {ad:Option (Nat × Nat)} {c:Cap} (hx:x≠[] -> ∃ b ro,ad=some (b,0)/\b<h.nx/\h.get b=some (.cells (jaX x) ro)):VP h (.slice ad x.length c) x:=by
 refine ⟨ad,c,rfl,fun hn=>?_⟩
 obtain ⟨b,ro,rfl,h1,h2⟩:=hx hn
 exact ⟨b,0,_,ro,rfl,h1,h2,by rw [jfF];omega,fun i p hp=>by rw [Nat.zero_add];exact jeq hp⟩
end Am.Sigs
namespace Am.Sigs
open Am Go
section
variable {cl:Nat->Call} (hcl:Sem cl) {h:H} {w s:Nat} {ow:Nat->Nat} {ws:Ws} {now:Int} {tb:Tb} {no:Option (Nat × Nat)}
include hcl
theorem pl_is {d:Nat} {fd ev:Int} (hd:6<=d) (a:WSt h w s ow ws now tb no) (o:WsOk ws) (hm:jda ev) :
  ∃ h',cl d (.fn F.pol_is) [.p w 0,.agg [.i fd,.i ev]] h=some (.i (jc1 (rdyS ws fd) fd ev),h')/\Old h h':=by
 have o0:Old h (h.new (.cells [.i fd,.i ev] false)):=(Old.refl h).new
 have g0:(h.new (.cells [.i fd,.i ev] false)).get h.nx=some (.cells [.i fd,.i ev] false):=jac _
 have x0:(h.new (.cells [.i fd,.i ev] false)).nx=h.nx+1:=rfl
 obtain ⟨h1,e1,o1⟩:=jkZ hcl (d:=d-1) (fd:=fd) om (a.old o0) o
 rw [jiv] at e1
 generalize rdyS ws fd=r at e1 ⊢
 obtain ⟨op,inn,out,hup,err,rd,wr⟩:=r
 simp only [Rdy.cells] at e1
 have g1:h1.get h.nx=some (.cells [.i fd,.i ev] false):=by rw [o1.2 _ om,g0]
 have x1:=o1.1
 have oE : ∀ c:List V,Old h ((h1.new (.cells [.bool false,.bool false,.bool false,.bool false,.bool false,.int .u64 0,.int .u64 0] false)).set h1.nx (.cells c false)):=fun c=>(o0.trans o1).new.set om
 refine jak (at_ hcl om rfl rfl rfl ?_)
 clear a o
 by_cases hfd:fd<0
 ·have hp:jc1 ⟨op,inn,out,hup,err,rd,wr⟩ fd ev=0:=if_pos hfd
  rw [hp]
  clear hm
  refine qm1 ?_
  exact ⟨rfl,oE _⟩
 cases op
 ·have hp:jc1 ⟨false,inn,out,hup,err,rd,wr⟩ fd ev=32:=by unfold jc1;rw [if_neg hfd];rfl
  rw [hp]
  clear hm
  refine qm1 ?_
  exact ⟨rfl,oE _⟩
 have hp:jc1 ⟨true,inn,out,hup,err,rd,wr⟩ fd ev=b2i hup 16+b2i (inn&&decide (ev=1\/ev=5)) 1+b2i (out&&decide (ev=4\/ev=5)) 4+b2i err 8:=by
  unfold jc1;rw [if_neg hfd];rfl
 rw [hp]
 clear hp
 cases hup<;>cases inn<;>cases out<;>cases err<;>rcases hm with rfl | rfl | rfl | rfl
 all_goals
  repeat' (first|refine qmy ?_|refine zbf rfl (fun _=>?_) fun _=>?_|refine zbg rfl (fun _=>?_) fun _=>?_|refine zbh rfl (fun _=>?_) fun _=>?_|refine zbm rfl (fun _=>?_) fun _=>?_|refine zbn rfl (fun _=>?_) fun _=>?_)
  exact ⟨rfl,oE _⟩
theorem jj1 {d L c2 c3:Nat} {v:V} {l:List (Int × Int)} (hd:8<=d) (o:WsOk ws) (hm : ∀ p∈l,jda p.2) (hl:l.length<=1000) (I:Nat->H->Prop) (J:H->Prop)
  (hW : ∀ i g,I i g->WSt g w s ow ws now tb no/\VP g v l/\g.get c3=some (.cells [v] false)/\g.get c2=some (.cells [.p w 0] false)/\c2<g.nx)
  (hI : ∀ i g g',I i g->Old g g'->I i g')
  (hy : ∀ i g p,l[i]?=some p->I i g -> ∃ (b:Bool) (g':H),cl (d-1) (.yld L) [.i (jc1 (rdyS ws p.1) p.1 p.2)] g=some (.bool b,g')/\(b=true->I (i+1) g')/\(b=false->J g'))
  (h0:I 0 h) : ∃ v' h',cl d (.fn F.jeo) [.yld L,.p c3 0,.p c2 0] h=some (v',h')/\(I l.length h'\/J h'):=by
 obtain ⟨_,hv,hc3,_⟩:=hW _ _ h0
 obtain ⟨a,c,rfl,_⟩:=id hv
 refine at_ hcl om rfl rfl rfl ?_
 refine qx1 ?_
 refine Run.loop (fun m e g=>∃ i:Nat,m=l.length-i/\i<=l.length/\e=[(0,.yld L),(2,.p c2 0),(6,.slice a l.length c),(7,.i (l.length:Int)),(8,.i (i:Int))]/\I i g)
  (k:=l.length) (by show _<100000;omega) ⟨0,rfl,by omega,rfl,h0⟩ ?_
 clear hc3
 rintro _ _ g ⟨i,rfl,hi,rfl,hIi⟩ n2 ih
 by_cases hlt:(i:Int)<l.length
 case neg=>
  obtain rfl:i=l.length:=by omega
  clear ih hI hy hW hm
  refine qx1 ?_
  exact .inl hIi
 have hp:=List.getElem?_eq_getElem (show i<l.length by omega)
 have hpm:=List.mem_of_getElem? hp
 generalize l[i]=p at hp hpm
 obtain ⟨_,hv1,_⟩:=hW _ _ hIi
 obtain ⟨b,o',cs,ro,rfl,hb,hcs,ho,hg⟩:=hv1.get hp
 have hg':(cs.drop (o'+(i:Int).toNat*2)).take 2=[.i p.1,.i p.2]:=by rw [Int.toNat_natCast];exact hg
 have hi1:(i:Int)+1=((i+1:Nat):Int):=by omega
 have o1:Old g ((g.new (.cells [.i 0,.i 0] false)).set g.nx (.cells [.i p.1,.i p.2] false)):=(Old.refl g).new.set (Nat.le_refl _)
 have I1:=hI _ _ _ hIi o1
 obtain ⟨W1,_,_,hc2,lc2⟩:=hW _ _ I1
 obtain ⟨g2,e2,o2⟩:=pl_is hcl (d:=d-1) (fd:=p.1) (ev:=p.2) om W1 o (hm p hpm)
 obtain ⟨b',g',e3,q1,q2⟩:=hy i g2 p hp (hI _ _ _ I1 o2)
 clear hW hI hy hm
 refine qx1 ?_
 refine Ops.loadN rfl hcs om ?_
 rw [hg']
 cases b'
 ·refine qm1 ?_
  refine Ops.yield rfl rfl e3 ?_
  refine qm1 ?_
  exact .inr (q2 rfl)
 ·refine qm1 ?_
  refine Ops.yield rfl rfl e3 ?_
  refine qm1 ?_
  rw [hi1]
  exact ih (l.length-(i+1)) om _ _ ⟨i+1,rfl,by omega,rfl,q1 rfl⟩
end
end Am.Sigs
namespace Am.Sigs
open Am Go
noncomputable def polL (ws:Ws) (l:List (Int × Int)):List Int:=l.map fun p=>jc1 (rdyS ws p.1) p.1 p.2
theorem jgy (ws:Ws) (l:List (Int × Int)):(polL ws l).length=l.length:=by simp [polL]
def cntP:List Int->Int
 | []=>0
 | x :: l=>min x 1+cntP l
theorem jfu (x:Int) : ∀ l,cntP (l++[x])=cntP l+min x 1
 | []=>by simp [cntP]
 | y :: l=>by rw [List.cons_append,cntP,jfu x l,cntP];omega
theorem jiF {l:List Int} (h : ∀ x∈l,0<=x):0<=cntP l/\cntP l<=l.length:=by
 induction l with
 | nil=>simp [cntP]
 | cons x l ih=>
  have h1:=h x (by simp)
  have h2:=ih fun y hy=>h y (by simp [hy])
  rw [cntP,List.length_cons];omega
theorem jkA (ws:Ws) (l:List (Int × Int)) : ∀ x∈polL ws l,0<=x:=by
 intro x hx
 obtain ⟨p,_,rfl⟩:=List.mem_map.1 hx
 exact (jep _ _ _).1
theorem jj0 {ws:Ws} {l:List (Int × Int)} {i:Nat} {p:Int × Int} (hp:l[i]?=some p):polL ws (l.take (i+1))=polL ws (l.take i)++[jc1 (rdyS ws p.1) p.1 p.2]:=by
 unfold polL
 rw [List.take_add_one,hp];simp
section
variable {cl:Nat->Call} (hcl:Sem cl) {h:H} {w s:Nat} {ow:Nat->Nat} {ws:Ws} {now:Int} {tb:Tb} {no:Option (Nat × Nat)}
include hcl
theorem jmR {d n:Nat} {a:Option (Nat × Nat)} {c:Cap} (hd:1<=d):cl d (.fn F.pol_told) [.p w 0,.slice a n c] h=some (.clo F.jeo [.p (h.nx+1) 0,.p h.nx 0],(h.new (.cells [.p w 0] false)).new (.cells [.slice a n c] false)):=by
 refine jar (at_ hcl om rfl rfl rfl ?_)
 refine qm1 ?_
 exact ⟨rfl,rfl⟩
theorem pl_poll {d:Nat} {v:V} {l:List (Int × Int)} (hd:10<=d) (a:WSt h w s ow ws now tb no) (o:WsOk ws) (hv:VP h v l) (hf:jmn l) (hl:l.length<=1000) :
  ∃ v' h',cl d (.fn F.pol_Poll) [.p w 0,v] h=some (v',h')/\Old h h'/\((¬ mayP l/\v' = .tup [.nils,.i 0,.i 2])\/(mayP l /\ ∃ ov,v' = .tup [ov,.i (cntP (polL ws l)),.i 0]/\Row h.nx h' 1 ov l.length (ints (polL ws l)))):=by
 obtain ⟨h1,e1,o1⟩:=jn9 hcl (d:=d-1) (w:=w) om hv hf om
 by_cases hm:mayP l
 case neg=>
  rw [if_neg hm] at e1
  refine at_ hcl om rfl rfl rfl ?_
  clear hf
  refine qx1 ?_
  exact ⟨o1,.inl ⟨hm,rfl⟩⟩
 rw [if_pos hm] at e1
 obtain ⟨av,cv,rfl,_⟩:=id hv
 refine at_ hcl om rfl rfl rfl ?_
 clear hf
 refine qm1 ?_
 refine Ops.callf rfl (jmR hcl (w:=w) om) ?_
 refine qx1 ?_
 have oH:Old h1 ((((h1.new (.cells [.nils] false)).new (.cells [.i 0] false)).set (h1.nx+1) (.cells [.i 0] false)).new (.cells [.p w 0] false)):=((Old.refl h1).new.new.set om).new
 have oH:Old h1 (((((h1.new (.cells [.nils] false)).new (.cells [.i 0] false)).set (h1.nx+1) (.cells [.i 0] false)).new (.cells [.p w 0] false)).new (.cells [.slice av l.length cv] false)):=oH.new
 have b0:(((((h1.new (.cells [.nils] false)).new (.cells [.i 0] false)).set (h1.nx+1) (.cells [.i 0] false)).new (.cells [.p w 0] false)).new (.cells [.slice av l.length cv] false)).get h1.nx=some (.cells [.nils] false):=qgt
 have b1:(((((h1.new (.cells [.nils] false)).new (.cells [.i 0] false)).set (h1.nx+1) (.cells [.i 0] false)).new (.cells [.p w 0] false)).new (.cells [.slice av l.length cv] false)).get (h1.nx+1)=some (.cells [.i 0] false):=qgt
 have b2:(((((h1.new (.cells [.nils] false)).new (.cells [.i 0] false)).set (h1.nx+1) (.cells [.i 0] false)).new (.cells [.p w 0] false)).new (.cells [.slice av l.length cv] false)).get (h1.nx+2)=some (.cells [.p w 0] false):=qgt
 have b3:(((((h1.new (.cells [.nils] false)).new (.cells [.i 0] false)).set (h1.nx+1) (.cells [.i 0] false)).new (.cells [.p w 0] false)).new (.cells [.slice av l.length cv] false)).get (h1.nx+3)=some (.cells [.slice av l.length cv] false):=qgt
 have x1:(((((h1.new (.cells [.nils] false)).new (.cells [.i 0] false)).set (h1.nx+1) (.cells [.i 0] false)).new (.cells [.p w 0] false)).new (.cells [.slice av l.length cv] false)).nx=h1.nx+4:=rfl
 change Run (cl (d-1)) fuel _ _ [(8,.p h1.nx 0),(9,.p (h1.nx+1) 0),(19,.clo F.jeo [.p (h1.nx+3) 0,.p (h1.nx+2) 0])] (((((h1.new (.cells [.nils] false)).new (.cells [.i 0] false)).set (h1.nx+1) (.cells [.i 0] false)).new (.cells [.p w 0] false)).new (.cells [.slice av l.length cv] false)) _
 generalize ((((h1.new (.cells [.nils] false)).new (.cells [.i 0] false)).set (h1.nx+1) (.cells [.i 0] false)).new (.cells [.p w 0] false)).new (.cells [.slice av l.length cv] false)=H1 at oH b0 b1 b2 b3 x1 ⊢
 have hx1:=o1.1
 refine Run.rangeFunc_lo rfl qkp fun LO hLO=>?_
 rw [x1]
 have oL:Old h1 (H1.new (LO .ready none)):=oH.new
 obtain ⟨v',h',hc,hIJ⟩:=jj1 hcl (d:=d-1) (L:=h1.nx+4) (c2:=h1.nx+2) (c3:=h1.nx+3) (h:=H1.new (LO .ready none)) (v := .slice av l.length cv) (l:=l) (w:=w) (s:=s) (ow:=ow) (ws:=ws) (now:=now) (tb:=tb) (no:=no) om o hm.2 hl
  (fun i g=>i<=l.length/\(∃ sv,g.get h1.nx=some (.cells [sv] false)/\Row (h1.nx+5) g 1 sv i (ints (polL ws (l.take i))))/\g.get (h1.nx+1)=some (.cells [.i (cntP (polL ws (l.take i)))] false)/\g.get (h1.nx+2)=some (.cells [.p w 0] false)/\g.get (h1.nx+3)=some (.cells [.slice av l.length cv] false)/\g.get (h1.nx+4)=some (LO .ready none)/\h1.nx+5<=g.nx/\Old h1 g)
  (fun _=>False)
  (fun i g ⟨_,_,_,p2,p3,_,p5,p6⟩=>⟨(a.old o1).old p6,(hv.keep o1).keep p6,p3,p2,by omega⟩)
  (by
   rintro i g g' ⟨p00,⟨sv,p0,pr⟩,p1,p2,p3,p4,p5,p6⟩ og
   exact ⟨p00,⟨sv,by rw [og.2 _ om,p0],pr.keep og.1 fun z hz=>og.2 z (pr.at_ge hz).2⟩,by rw [og.2 _ om,p1],by rw [og.2 _ om,p2],by rw [og.2 _ om,p3],by rw [og.2 _ om,p4],Nat.le_trans p5 og.1,p6.trans og⟩)
  (by
   rintro i g p hp ⟨p00,⟨sv,p0,pr⟩,p1,p2,p3,p4,p5,p6⟩
   have hlt:i<l.length:=by
    rcases Nat.lt_or_ge i l.length with h | h
    ·exact h
    ·rw [List.getElem?_eq_none h] at hp;cases hp
   have et:=jj0 (ws:=ws) hp
   have hcn:=jiF (jkA ws (l.take i))
   rw [jgy,List.length_take] at hcn
   have hx:=jep (rdyS ws p.1) p.1 p.2
   rw [et]
   generalize polL ws (l.take i)=pl at p1 pr hcn ⊢
   generalize jc1 (rdyS ws p.1) p.1 p.2=px at hx ⊢
   have ec:=jfu px pl
   have p2x:g.get (h1.nx+2)=some (.cells [.p w 0] false):=p2
   refine ⟨true,?_⟩
   suffices q : ∃ v' g',cl (d-1-1) (.yld (h1.nx+4)) [.i px] g=some (v',g')/\(v' = .bool true/\(i+1<=l.length/\(∃ sv,g'.get h1.nx=some (.cells [sv] false)/\Row (h1.nx+5) g' 1 sv (i+1) (ints (pl++[px])))/\g'.get (h1.nx+1)=some (.cells [.i (cntP (pl++[px]))] false)/\g'.get (h1.nx+2)=some (.cells [.p w 0] false)/\g'.get (h1.nx+3)=some (.cells [.slice av l.length cv] false)/\g'.get (h1.nx+4)=some (LO .ready none)/\h1.nx+5<=g'.nx/\Old h1 g')) by
    obtain ⟨_,g',e,rfl,q⟩:=q
    exact ⟨g',e,fun _=>q,fun e=>by cases e⟩
   obtain ⟨cp,⟨asv,rfl⟩,_⟩:=pr.shape
   refine yl_ hcl om hLO p4 rfl ?_
   clear a hv hm o hp p2 et
   refine qx1 ?_
   refine End.nil ⟨rfl,p4,?_⟩
   have pr2:Row (h1.nx+5) (g.set (h1.nx+4) (LO .busy none)) 1 (.slice asv i cp) i (ints pl):=pr.keep (by simp) fun z hz=>by have:=pr.at_ge hz;exact jaa om
   refine qx1 ?_
   refine Ops.push (N:=h1.nx+5) (new:=[.i px]) rfl rfl rfl rfl om rfl rfl pr2 (by simpa using p5) om om fun v2 g2 row' hx' hz' hk'=>?_
   have hx':g.nx<=g2.nx:=by simpa using hx'
   have hk2 : ∀ j,j<h1.nx+5->g2.get j=(g.set (h1.nx+4) (LO .busy none)).get j:=fun j hj=>hk' j (by simp;omega) fun e=>by have:=pr2.at_ge e;omega
   have q0:g2.get h1.nx=some (.cells [.slice asv i cp] false):=by rw [hk2 _ om,jaa om,p0]
   have q1:g2.get (h1.nx+1)=some (.cells [.i (cntP pl)] false):=by rw [hk2 _ om,jaa om,p1]
   have hone:=row'.one
   refine Ops.store1 rfl rfl hone q0 Nat.zero_lt_one ?_
   refine qx1 ?_
   refine Ops.store1 (l:=[.i (cntP pl)]) rfl rfl rfl (by rw [jaa om,q1]) Nat.zero_lt_one ?_
   refine qx1 ?_
   refine End.nil ⟨⟨.busy,none,by rw [jaa om,jaa om,hk2 _ om,jab]⟩,rfl,by omega,⟨v2,?_,?_⟩,?_,?_,?_,jab _,by simp;omega,?_⟩
   ·rw [jaa om,jaa om];exact jab _
   ·have r2:Row (h1.nx+5) g2 1 v2 (i+1) (ints (pl++[px])):=by simpa [ints] using row'
    exact r2.keep (by simp) fun z hz=>by have:=hz' z hz;simp at this;rw [jaa om,jaa om,jaa om]
   ·rw [jaa om,ec];exact jab _
   ·rw [jaa om,jaa om,jaa om,hk2 _ om,jaa om,p2x]
   ·rw [jaa om,jaa om,jaa om,hk2 _ om,jaa om,p3]
   ·have p7:=p6.1
    exact ⟨by simp;omega,fun j hj=>by rw [jaa om,jaa om,jaa om,hk2 _ om,jaa om,p6.2 j hj]⟩)
  ⟨by omega,⟨.nils,by rw [jad om,b0],by simpa [polL] using Row.nil _ _ _⟩,by rw [jad om,b1];simp [polL,cntP],by rw [jad om,b2],by rw [jad om,b3],by rw [<- x1,jac],by simp [x1],oL⟩
 refine hIJ.elim ?_ fun hF=>hF.elim
 rintro ⟨p00,⟨sv,p0,pr⟩,p1,p2,p3,p4,p5,p6⟩
 rw [List.take_length] at p1 pr
 refine ⟨v',h',hc,.normal,p4,?_⟩
 have k0:(h'.kill (h1.nx+4)).get h1.nx=some (.cells [sv] false):=by rw [jai om,p0]
 have k1:(h'.kill (h1.nx+4)).get (h1.nx+1)=some (.cells [.i (cntP (polL ws l))] false):=by rw [jai om,p1]
 have o9:Old h (h'.kill (h1.nx+4)):=⟨by have:=p6.1;show h.nx<=h'.nx;omega,fun j hj=>by rw [jai om,p6.2 j om,o1.2 j hj]⟩
 have r9:Row h.nx (h'.kill (h1.nx+4)) 1 sv l.length (ints (polL ws l)):=by
  rcases pr with r | ⟨q,q1,q2,e,q4,q5⟩
  ·exact .inl r
  ·exact .inr ⟨q,by omega,q2,e,by rw [jai om,q4],q5⟩
 obtain ⟨cp,⟨asv,rfl⟩,_⟩:=pr.shape
 clear a hv o hLO
 refine qx1 ?_
 exact ⟨o9,.inr ⟨hm,_,rfl,r9⟩⟩
end
end Am.Sigs
namespace Am.Sigs
open Am Go
noncomputable def jc7 (ws:Ws):Nat->List V
 | 0=>[]
 | n+1=>jc7 ws n++(rdyS ws (n:Int)).cells
theorem jfB (ws:Ws) : ∀ n,(jc7 ws n).length=n*7
 | 0=>rfl
 | n+1=>by
  have:=jfB ws n
  simp [jc7,Rdy.cells];omega
theorem jhO (ws:Ws) : ∀ {n i:Nat},i<n->((jc7 ws n).drop (i*7)).take 7=(rdyS ws (i:Int)).cells
 | n+1,i,h=>by
  have hl:=jfB ws n
  rcases Nat.lt_or_ge i n with h1 | h1
  ·rw [jc7,List.drop_append_of_le_length om,List.take_append_of_le_length (by rw [List.length_drop];omega)]
   exact jhO ws h1
  ·obtain rfl:i=n:=by omega
   rw [jc7,show i*7=(jc7 ws i).length by omega,List.drop_left]
   rfl
noncomputable def runS (L:List OpX) (st:St):St:=L.foldl (fun st x=>doS x.k x.a x.n x.t x.D st) st
theorem runS_take {L:List OpX} {i:Nat} {x:OpX} (hx:L[i]?=some x) (st:St):runS (L.take (i+1)) st=doS x.k x.a x.n x.t x.D (runS (L.take i) st):=by
 unfold runS
 rw [List.take_add_one,hx]
 simp
section
variable {cl:Nat->Call} (hcl:Sem cl)
include hcl
theorem bt_ok {d f:Nat} {h:H} {lv:V} {L:List OpX} (hf:jdp prog.prims f=none) (hf2:jdp prog.fns f=some c5) (hd:17<=d) (hL:jmz h lv L) (hwf : ∀ j,h.nx<=j->h.get j=none) :
  ∃ v h',cl d (.fn f) [lv] h=some (v,h')/\(v = .tup [.ptr none,.nils,.bool false]/\h'=h \/
   fewL L /\ ∃ p w s rw ow ro ov,v = .tup [.p p 0,ov,.bool true]/\BX h h' p w s rw ow ro (runS L st0) L.length/\Row h.nx h' 7 ov 96 (jc7 (runS L st0).ws 96) /\ ∀ q,ov.at?=some q->ow q=0 /\ ¬ ro q/\q≠p):=by
 obtain ⟨gv,eg,hg⟩:=gr_ok hcl (d:=d-1) om hL
 refine at_ hcl om hf hf2 rfl ?_
 rcases hg with rfl | ⟨rfl,hfew⟩
 ·refine qx1 ?_
  exact .inl ⟨rfl,rfl⟩
 obtain ⟨p,w,s,rw,ow,ro,h1,e1,b1⟩:=nw_fresh hcl (d:=d-1) om h hwf
 obtain ⟨ad,c,rfl,hin⟩:=hL
 obtain ⟨hok,hel⟩:=hin hfew.1
 have hfl:=hfew.1
 refine qx1 ?_
 refine Run.loop (fun m e g=>∃ (i:Nat) (ow:Nat->Nat) (ro:Nat->Prop),m=L.length-i/\i<=L.length/\e=[(0,.slice ad L.length c),(5,.p p 0),(6,.i (i:Int))]/\BX h g p w s rw ow ro (runS (L.take i) st0) i)
  (k:=L.length) (by show _<100000;omega) ⟨0,ow,ro,rfl,by omega,rfl,b1⟩ ?_
 clear b1 e1 ow ro h1
 rintro _ _ g ⟨i,ow,ro,rfl,hi,rfl,bx⟩ n2 ih
 by_cases hlt:(i:Int)<L.length
 case pos=>
  obtain ⟨x,hx⟩:=jka (l:=L) (i:=i) om
  have hxm:=List.mem_of_getElem? hx
  obtain ⟨b,cs,ro',rfl,lb,hb,hlen,hc⟩:=hel (by rintro rfl;simp at hx)
  have hbg:g.get b=some (.cells cs ro'):=by rw [bx.old.2 b lb,hb]
  have h5:(cs.drop (0+(i:Int).toNat*5)).take 5=x.V:=by rw [Nat.zero_add,Int.toNat_natCast];exact hc i x hx
  obtain ⟨g2,ow2,ro2,e2,bx2,_⟩:=bx_do hcl (d:=d-1) om bx om (hok x hxm) (hfew.2 x hxm)
  have hi1:(i:Int)+1=((i+1:Nat):Int):=by omega
  rw [<- runS_take hx] at bx2
  clear hok hel hfew bx hc
  refine qx1 ?_
  refine Ops.loadN rfl hbg om ?_
  rw [h5]
  refine qx1 ?_
  rw [hi1]
  exact ih (L.length-(i+1)) om _ _ ⟨i+1,ow2,ro2,rfl,by omega,rfl,bx2⟩
 obtain rfl:i=L.length:=by omega
 rw [List.take_length] at bx
 generalize runS L st0=st at bx ⊢
 clear ih hel hok
 have lp:=bx.lp
 refine qx1 ?_
 refine Run.loop (fun m e g=>∃ (i:Nat) (ow:Nat->Nat) (ro:Nat->Prop) (ov:V),m=96-i/\i<=96/\e=[(5,.p p 0),(8,ov),(9,.i (i:Int))]/\BX h g p w s rw ow ro st L.length/\Row h.nx g 7 ov i (jc7 st.ws i) /\ ∀ q,ov.at?=some q->ow q=0 /\ ¬ ro q/\q≠p)
  (k:=96) (by show _<100000;omega) ⟨0,ow,ro,.nils,rfl,by omega,rfl,bx,Row.nil _ _ _,fun q hq=>by cases hq⟩ ?_
 clear bx ow ro
 rintro _ _ g ⟨i,ow,ro,ov,rfl,hi,rfl,bx,row,hown⟩ n2 ih
 by_cases hlt:i<96
 case neg=>
  obtain rfl:i=96:=by omega
  have hlt' : ¬ ((96:Nat):Int)<=95:=by omega
  clear ih
  refine qx1 ?_
  exact .inr ⟨hfew,p,w,s,rw,ow,ro,ov,rfl,bx,row,hown⟩
 have hlt':(i:Int)<=95:=by omega
 have hi1:(i:Int)+1=((i+1:Nat):Int):=by omega
 have hp:=bx.b.hp
 obtain ⟨g2,ro2,e2,bx2,f2,k2⟩:=bx_ready hcl (d:=d-1) (fd:=(i:Int)) om bx
 have row2:Row h.nx g2 7 ov i (jc7 st.ws i):=by
  rcases row with r | ⟨q,h1,h2,e,h4,h5⟩
  ·exact .inl r
  ·exact .inr ⟨q,h1,Nat.lt_of_lt_of_le h2 f2.ch.nx,e,k2 _ _ h2 h4,h5⟩
 have hlt2 : ∀ q,ov.at?=some q->h.nx<=q/\q<g.nx:=fun q hq=>row.at_ge hq
 clear hfew row k2
 refine qx1 ?_
 refine Ops.push (N:=h.nx) (new:=(rdyS st.ws (i:Int)).cells) rfl rfl rfl rfl om rfl rfl row2 bx2.old.1 om om fun v' g3 row' hx' hz' hk'=>?_
 refine qx1 ?_
 rw [hi1]
 have b3:BB g3 p w s rw ow ro2 (fun j=>j<h.nx) st st:=bx2.b.off hx' fun j hj ho=>hk' j hj fun e=>by
  obtain ⟨q1,q2,q3⟩:=hown j e
  obtain ⟨q4,q5⟩:=hlt2 j e
  rcases ho with ho | ho | ho | ho
  ·exact ho q1
  ·exact q2 ((f2.rtag j q5).1 ho)
  ·have ho:j<h.nx:=ho
   omega
  ·exact q3 ho
 have old3:Old h g3:=⟨Nat.le_trans bx2.old.1 hx',fun j hj=>by rw [hk' j (Nat.lt_of_lt_of_le hj bx2.old.1) fun e=>by have:=hlt2 j e;omega,bx2.old.2 j hj]⟩
 refine ih (96-(i+1)) om _ _ ⟨i+1,ow,ro2,v',rfl,by omega,rfl,⟨b3,bx2.so,old3,bx2.own,bx2.lp⟩,row',fun q hq=>?_⟩
 have hq1:=hz' q hq
 exact ⟨bx2.b.W.top hq1,fun e=>by have:=bx2.b.ro_lt (.inl e);omega,fun e=>by have:=bx2.b.lp;omega⟩
end
end Am.Sigs
namespace Am.Sigs
open Am Go
section
variable {cl:Nat->Call} (hcl:Sem cl) {h:H} {w s:Nat} {ow:Nat->Nat} {ws:Ws} {now:Int} {tb:Tb} {no:Option (Nat × Nat)}
include hcl
theorem ri_0 {d b:Nat} {r:Rdy} {n:Int} {sb:Env} (hg:h.get b=some (.cells r.cells false)) (h0:0<=n) (h1:n<=100) :
  Run (cl d) fuel c26_0 [] ((5,.p b 0) :: (7,.i n) :: sb) h (Fin c26.res fun v h'=>v = .i (n+b2i r.hup 16)/\h'=h):=by
 obtain ⟨op,inn,out,hup,err,rd,wr⟩:=r
 simp only [Rdy.cells] at hg
 cases hup
 ·refine qx1 ?_
  exact ⟨by simp [b2i],rfl⟩
 ·refine qx1 ?_
  exact ⟨rfl,rfl⟩
theorem ri_1 {d b:Nat} {r:Rdy} {n:Int} {sb:Env} (hg:h.get b=some (.cells r.cells false)) (h0:0<=n) (h1:n<=50) :
  Run (cl d) fuel c26_1 [] ((5,.p b 0) :: (7,.i n) :: sb) h (Fin c26.res fun v h'=>v = .i (n+b2i r.err 8+b2i r.hup 16)/\h'=h):=by
 have T0:=fun sb=>ri_0 (sb:=sb) hcl (d:=d) (n:=n) hg h0 om
 have T1:=fun sb=>ri_0 (sb:=sb) hcl (d:=d) (n:=n+8) hg om om
 obtain ⟨C,hC⟩ : ∃ C,C=c26_0:=⟨_,rfl⟩
 simp only [c26_1,<- hC]
 rw [<- hC] at T0 T1
 obtain ⟨op,inn,out,hup,err,rd,wr⟩:=r
 simp only [Rdy.cells] at hg
 cases err
 ·refine qx1 ?_
  exact Run.fin_mono (T0 _) fun v h' ⟨a,b⟩=>⟨by rw [a];simp [b2i],b⟩
 ·refine qx1 ?_
  exact Run.fin_mono (T1 _) fun v h' ⟨a,b⟩=>⟨by rw [a];rfl,b⟩
theorem ri_2 {d b:Nat} {r:Rdy} {n ev:Int} {sb:Env} (hm:jda ev) (hg:h.get b=some (.cells r.cells false)) (h0:0<=n) (h1:n<=20) :
  Run (cl d) fuel c26_2 [] ((1,.i ev) :: (5,.p b 0) :: (7,.i n) :: sb) h (Fin c26.res fun v h'=>v = .i (n+b2i (r.out&&decide (ev=4\/ev=5)) 4+b2i r.err 8+b2i r.hup 16)/\h'=h):=by
 have T0:=fun sb=>ri_1 (sb:=sb) hcl (d:=d) (n:=n) hg h0 om
 have T1:=fun sb=>ri_1 (sb:=sb) hcl (d:=d) (n:=n+4) hg om om
 obtain ⟨C,hC⟩ : ∃ C,C=c26_1:=⟨_,rfl⟩
 simp only [c26_2,<- hC]
 rw [<- hC] at T0 T1
 obtain ⟨op,inn,out,hup,err,rd,wr⟩:=r
 simp only [Rdy.cells] at hg
 cases out
 ·clear hm
  refine qx1 ?_
  exact Run.fin_mono (T0 _) fun v h' ⟨a,b⟩=>⟨by rw [a];simp [b2i],b⟩
 ·by_cases h4:ev>=4
  ·have e4:ev=4\/ev=5:=by rcases hm with h | h | h | h<;>omega
   rw [decide_eq_true e4]
   clear hm e4
   refine qx1 ?_
   exact Run.fin_mono (T1 _) fun v h' ⟨a,b⟩=>⟨by rw [a];rfl,b⟩
  ·have e4 : ¬ (ev=4\/ev=5):=by omega
   rw [decide_eq_false e4]
   clear hm e4
   refine qx1 ?_
   exact Run.fin_mono (T0 _) fun v h' ⟨a,b⟩=>⟨by rw [a];simp [b2i],b⟩
theorem rq_Is {d:Nat} {r:Rdy} {fd ev:Int} (hd:1<=d) (hm:jda ev) :
  ∃ h',cl d (.fn F.jfe) [.i fd,.i ev,.agg r.cells] h=some (.i (jc1 r fd ev),h')/\h'=h.new (.cells r.cells false):=by
 have hg:=jac (h:=h) (.cells r.cells false)
 have T0:=fun sb=>ri_2 (sb:=sb) hcl (d:=d-1) (n:=0) hm hg om om
 have T1:=fun sb=>ri_2 (sb:=sb) hcl (d:=d-1) (n:=1) hm hg om om
 obtain ⟨C,hC⟩ : ∃ C,C=c26_2:=⟨_,rfl⟩
 refine jak (at_ hcl om rfl rfl rfl ?_)
 simp only [c26,c26_5,c26_4,c26_3,<- hC]
 rw [<- hC] at T0 T1
 unfold jc1
 refine qx1 ?_
 refine Ops.make (ob := .cells r.cells false) (mk:=fun b=>.p b 0) rfl rfl ?_
 generalize h.new (.cells r.cells false)=h1 at hg T0 T1 ⊢
 by_cases hf:fd<0
 ·rw [if_pos hf]
  clear hm
  refine qx1 ?_
  exact ⟨rfl,rfl⟩
 rw [if_neg hf]
 obtain ⟨op,inn,out,hup,err,rd,wr⟩:=r
 simp only [Rdy.cells] at hg
 cases op
 ·rw [if_pos rfl]
  clear hm
  refine qx1 ?_
  exact ⟨rfl,rfl⟩
 rw [if_neg (by simp)]
 cases inn
 ·clear hm
  refine qx1 ?_
  exact Run.fin_mono (T0 _) fun v h' ⟨a,b⟩=>⟨by rw [a];congr 1;simp [b2i];omega,b⟩
 ·by_cases h1:ev=1
  ·clear hm
   have e1:ev=1\/ev=5 := .inl h1
   rw [decide_eq_true e1]
   clear e1
   refine qx1 ?_
   exact Run.fin_mono (T1 _) fun v h' ⟨a,b⟩=>⟨by rw [a];congr 1;simp [b2i];omega,b⟩
  ·by_cases h5:ev=5
   ·clear hm
    have e1:ev=1\/ev=5 := .inr h5
    rw [decide_eq_true e1]
    clear e1
    refine qx1 ?_
    exact Run.fin_mono (T1 _) fun v h' ⟨a,b⟩=>⟨by rw [a];congr 1;simp [b2i];omega,b⟩
   ·clear hm
    have e1 : ¬ (ev=1\/ev=5):=by omega
    rw [decide_eq_false e1]
    clear e1
    refine qx1 ?_
    exact Run.fin_mono (T0 _) fun v h' ⟨a,b⟩=>⟨by rw [a];congr 1;simp [b2i];omega,b⟩
end
end Am.Sigs
namespace Am
open Go Am.Sigs
structure Hd (p:Prop):Prop where
 g:p
structure Kc (h:H) (b:Nat) (l:List V) (ro:Bool):Prop where
 lt:b<h.nx
 at_:h.get b=some (.cells l ro)
theorem Kc.old {h h':H} {b:Nat} {l:List V} {ro:Bool} (k:Kc h b l ro) (o:Old h h'):Kc h' b l ro :=
 ⟨Nat.lt_of_lt_of_le k.lt o.1,by rw [o.2 _ k.lt,k.at_]⟩
section
variable {call:Call} {fuel base:Nat} {K:List Fr} {e:Env} {h h' h0:H} {Q:Post} {ix:Nat} {dst:Option Nat} {ops:List Ins} {keep:List Nat} {at_:Option Nat} {c:List (Nat × I × Option (Nat × Bool))}
end
end Am
namespace Am.Sigs
open Am Go
theorem rdyS_no {ws:Ws} {fd:Int} (h : ∀ n k,¬ AtW ws n k fd):rdyS ws fd=Rdy.no:=ja5 h
theorem jfp {l:List Int} {i o:Nat} {x:Int} (h:l[i]?=some x) (ho:o=i):(ints l)[o]?=some (.i x):=by subst ho;simp [h]
section
variable {cl:Nat->Call} (hcl:Sem cl) {h:H} {ws:Ws}
include hcl
def PM (h:H) (iv fv ev:V) (c:Int) (i:Nat) (cs:List V):Post:=fun x e g'=>x = .normal /\ ∃ ov sb,e=(0,iv) :: (1,fv) :: (2,ev) :: (9,ov) :: (10,.i c) :: (11,.i (i:Int)) :: sb/\Row h.nx g' 1 ov (i+1) cs/\Old h g'
theorem pb_2 {d i qf qe n bx:Nat} {iv ov:V} {cf ce:Cap} {c fd e:Int} {r:Rdy} {lf le:List V} {cs:List V} {g:H} {sb:Env} (hd:1<=d) (hm:jda e) (og:Old h g) (row:Row h.nx g 1 ov i cs) (gf:g.get qf=some (.cells lf false)) (ge:g.get qe=some (.cells le false)) (qfd:lf[0+(i:Int).toNat*1]?=some (.i fd)) (qev:le[0+(i:Int).toNat*1]?=some (.i e))
  (hin:i<n) (hi:i<=1000) (hc:0<=c/\c<=1000) (gb:g.get bx=some (.cells r.cells false)) :
  Run (cl d) fuel c7_2 [] ((0,iv) :: (1,.slice (some (qf,0)) n cf) :: (2,.slice (some (qe,0)) n ce) :: (9,ov) :: (10,.i c) :: (11,.i (i:Int)) :: (12,.p bx 0) :: sb) g (PM h iv (.slice (some (qf,0)) n cf) (.slice (some (qe,0)) n ce) (c+min (jc1 r fd e) 1) i (cs++[.i (jc1 r fd e)])):=by
 obtain ⟨g1,e1,o1⟩:=rq_Is hcl (d:=d) (r:=r) (fd:=fd) (ev:=e) (h:=g) hd hm
 have o1:Old g g1:=by rw [o1];exact (Old.refl g).new
 have hb:=jep r fd e
 generalize jc1 r fd e=y at e1 hb ⊢
 have hlen:r.cells.length=7:=rfl
 have row1:=row.keep o1.1 fun z hz=>o1.2 z (row.at_ge hz).2
 have og1:=og.trans o1
 refine qx1 ?_
 refine Ops.loadN rfl gb (by rw [hlen];decide) ?_
 rw [show (r.cells.drop 0).take 7=r.cells from rfl]
 refine qx1 ?_
 refine Ops.push (N:=h.nx) (new:=[.i y]) rfl rfl rfl rfl om rfl rfl row1 og1.1 om om fun v' g2 row' hx' hz' hk'=>?_
 have og2:Old h g2:=⟨Nat.le_trans og1.1 hx',fun j hj=>by rw [hk' j (Nat.lt_of_lt_of_le hj og1.1) (fun e=>by have:=(row1.at_ge e).1;omega),og1.2 j hj]⟩
 by_cases hy:y>0
 ·have hmin:min y 1=1:=by omega
  rw [hmin]
  refine qx1 ?_
  exact End.nil ⟨rfl,v',_,rfl,row',og2⟩
 ·have hmin:min y 1=0:=by omega
  rw [hmin,Int.add_zero]
  refine qx1 ?_
  exact End.nil ⟨rfl,v',_,rfl,row',og2⟩
theorem pb_4 {d i qf qe qi n:Nat} {ov:V} {ci cf ce:Cap} {c fd e:Int} {lf le:List V} {cs:List V} {g:H} {sb:Env} (hd:1<=d) (fds : ∀ n k fd,AtW ws n k fd->0<=fd/\fd<=95) (hm:jda e) (og:Old h g) (row:Row h.nx g 1 ov i cs) (gf:g.get qf=some (.cells lf false)) (ge:g.get qe=some (.cells le false)) (gi:g.get qi=some (.cells (jc7 ws 96) false)) (lt:qf<g.nx/\qe<g.nx/\qi<g.nx) (qfd:lf[0+(i:Int).toNat*1]?=some (.i fd)) (qev:le[0+(i:Int).toNat*1]?=some (.i e))
  (hin:i<n) (hi:i<=1000) (hc:0<=c/\c<=1000) :
  Run (cl d) fuel c7_4 [] ((0,.slice (some (qi,0)) 96 ci) :: (1,.slice (some (qf,0)) n cf) :: (2,.slice (some (qe,0)) n ce) :: (9,ov) :: (10,.i c) :: (11,.i (i:Int)) :: sb) g (PM h (.slice (some (qi,0)) 96 ci) (.slice (some (qf,0)) n cf) (.slice (some (qe,0)) n ce) (c+min (jc1 (rdyS ws fd) fd e) 1) i (cs++[.i (jc1 (rdyS ws fd) fd e)])):=by
 have hrl:(jc7 ws 96).length=672:=jfB ws 96
 have hrg : ∀ f:Nat,f<96->((jc7 ws 96).drop (f*7)).take 7=(rdyS ws (f:Int)).cells:=fun f hf=>jhO ws hf
 generalize jc7 ws 96=rr at hrl hrg gi
 obtain ⟨C,hC⟩ : ∃ C,C=c7_2:=⟨_,rfl⟩
 simp only [c7_4,c7_3,<- hC]
 have o1:Old g ((g.new (.cells Rdy.no.cells false)).set g.nx (.cells Rdy.no.cells false)):=(Old.refl g).new.set (Nat.le_refl _)
 have b1:((g.new (.cells Rdy.no.cells false)).set g.nx (.cells Rdy.no.cells false)).get g.nx=some (.cells Rdy.no.cells false):=jab _
 have x1:((g.new (.cells Rdy.no.cells false)).set g.nx (.cells Rdy.no.cells false)).nx=g.nx+1:=rfl
 refine zab (Run.region0 (Ops.build rfl (l:=Rdy.no.cells) rfl (Ops.make (ob := .cells Rdy.no.cells false) (mk:=fun b=>.p b 0) rfl rfl ?_)))
 refine Ops.storeN rfl rfl rfl rfl (jac _) (by decide) ?_
 rw [show jaq Rdy.no.cells 0 Rdy.no.cells=Rdy.no.cells from rfl]
 generalize (g.new (.cells Rdy.no.cells false)).set g.nx (.cells Rdy.no.cells false)=g1 at o1 b1 x1 ⊢
 have key : ∀ g2 sb,Old g g2->g2.get g.nx=some (.cells (rdyS ws fd).cells false)->Run (cl d) fuel C [] ((0,.slice (some (qi,0)) 96 ci) :: (1,.slice (some (qf,0)) n cf) :: (2,.slice (some (qe,0)) n ce) :: (9,ov) :: (10,.i c) :: (11,.i (i:Int)) :: (12,.p g.nx 0) :: sb) g2 (PM h (.slice (some (qi,0)) 96 ci) (.slice (some (qf,0)) n cf) (.slice (some (qe,0)) n ce) (c+min (jc1 (rdyS ws fd) fd e) 1) i (cs++[.i (jc1 (rdyS ws fd) fd e)])):=fun g2 sb o2 b2=>by
  rw [hC]
  exact pb_2 hcl hd hm (og.trans o2) (row.keep o2.1 fun z hz=>o2.2 z (row.at_ge hz).2) (by rw [o2.2 _ lt.1,gf]) (by rw [o2.2 _ lt.2.1,ge]) qfd qev hin hi hc b2
 have gf1:g1.get qf=some (.cells lf false):=by rw [o1.2 _ lt.1,gf]
 have gi1:g1.get qi=some (.cells rr false):=by rw [o1.2 _ lt.2.2,gi]
 have nor : ¬ (0<=fd/\fd<=95)->rdyS ws fd=Rdy.no:=fun hn=>rdyS_no fun n k hk=>hn (fds n k fd hk)
 clear hm fds gf ge gi
 by_cases h0:fd>=0
 case neg=>
  have T:=fun sb=>key g1 sb o1 (by rw [nor om];exact b1)
  clear key nor
  refine qx1 ?_
  exact T _
 by_cases h1:fd<(96:Nat)
 case neg=>
  have T:=fun sb=>key g1 sb o1 (by rw [nor om];exact b1)
  clear key nor
  refine qx1 ?_
  exact T _
 obtain ⟨f,rfl⟩:=Int.eq_ofNat_of_zero_le h0
 have hrg:=hrg f om
 clear nor
 refine qx1 ?_
 refine Ops.loadN rfl gi1 (by rw [hrl];omega) ?_
 rw [show 0+(f:Int).toNat*7=f*7 by omega,hrg]
 refine Ops.storeN rfl rfl rfl rfl b1 (by decide) ?_
 rw [show jaq Rdy.no.cells 0 (rdyS ws (f:Int)).cells=(rdyS ws (f:Int)).cells from rfl]
 refine qx1 ?_
 exact key _ _ (o1.set (Nat.le_refl _)) (jab _)
theorem rq14_Poll {d N1 N2 N3:Nat} {iv fv ev:V} {l:List (Int × Int)} (hd:2<=d) (fds : ∀ n k fd,AtW ws n k fd->0<=fd/\fd<=95) (ri:Row N1 h 7 iv 96 (jc7 ws 96)) (rf:Row N2 h 1 fv l.length (ints (l.map Prod.fst))) (re:Row N3 h 1 ev l.length (ints (l.map Prod.snd))) (hl:l.length<=1000) :
  ∃ v' h',cl d (.fn F.je3) [iv,fv,ev] h=some (v',h')/\Old h h'/\((¬ mayP l/\v' = .tup [.nils,.i 0,.i 2])\/(mayP l /\ ∃ ov,v' = .tup [ov,.i (cntP (polL ws l)),.i 0]/\Row h.nx h' 1 ov l.length (ints (polL ws l)))):=by
 obtain ⟨cf,⟨af,rfl⟩,hf⟩:=rf.shape
 obtain ⟨ce,⟨ae,rfl⟩,he⟩:=re.shape
 obtain ⟨ci,⟨ai,rfl⟩,hi⟩:=ri.shape
 obtain ⟨qi,_,li,ei,gi⟩:=hi 0 om
 cases ei
 replace gi:=Hd.mk gi
 clear rf re ri hi
 refine at_ hcl om rfl rfl rfl ?_
 obtain ⟨C,hC⟩ : ∃ C,C=c7_4:=⟨_,rfl⟩
 simp only [c7,c7_8,c7_7,c7_6,c7_5,<- hC]
 by_cases h96:(l.length:Int)>96
 ·have hm : ¬ mayP l:=fun e=>by have:=e.1;omega
  clear hf he
  refine qx1 ?_
  exact ⟨Old.refl h,.inl ⟨hm,rfl⟩⟩
 refine qx1 ?_
 refine Run.loop (fun m e g=>∃ (i:Nat) (ov:V),m=l.length-i/\i<=l.length/\(∀ (j:Nat) (p:Int × Int),j<i->l[j]?=some p->jda p.2)/\e=[(0,.slice (some (qi,0)) 96 ci),(1,.slice af l.length cf),(2,.slice ae l.length ce),(9,ov),(10,.i (cntP (polL ws (l.take i)))),(11,.i (i:Int))]/\Row h.nx g 1 ov i (ints (polL ws (l.take i)))/\Old h g)
  (k:=l.length) (by show _<100000;omega) ⟨0,.nils,rfl,by omega,fun j p hj=>by omega,rfl,Row.nil _ _ _,Old.refl h⟩ ?_
 rintro _ _ g ⟨i,ov,rfl,hil,hmay,rfl,row,og⟩ n2 ih
 by_cases hlt:(i:Int)<(l.length:Int)
 case neg=>
  obtain rfl:i=l.length:=by omega
  have hm:mayP l:=⟨by omega,fun p hp=>by
   obtain ⟨j,hj⟩:=List.mem_iff_getElem?.1 hp
   refine hmay j p ?_ hj
   rcases Nat.lt_or_ge j l.length with hh | hh
   ·exact hh
   ·rw [List.getElem?_eq_none hh] at hj;cases hj⟩
  rw [List.take_length] at row ⊢
  clear ih hf he hmay
  refine qx1 ?_
  exact ⟨og,.inr ⟨hm,ov,rfl,row⟩⟩
 obtain ⟨⟨fd,e⟩,hp⟩:=jka (l:=l) (i:=i) om
 obtain ⟨qf,_,lf,ef,gf⟩:=hf i om
 obtain ⟨qe,_,le,ee,ge⟩:=he i om
 cases ef
 cases ee
 have gf':g.get qf=some (.cells (ints (l.map Prod.fst)) false):=by rw [og.2 _ lf,gf]
 have ge':g.get qe=some (.cells (ints (l.map Prod.snd)) false):=by rw [og.2 _ le,ge]
 have qfd:(ints (l.map Prod.fst))[0+(i:Int).toNat*1]?=some (.i fd):=jfp (i:=i) (by simp [hp]) om
 have qev:(ints (l.map Prod.snd))[0+(i:Int).toNat*1]?=some (.i e):=jfp (i:=i) (by simp [hp]) om
 by_cases hm:jda e
 case neg=>
  have hn : ¬ mayP l:=fun a=>hm (a.2 _ (List.mem_of_getElem? hp))
  have e0:e≠0:=fun x=>hm (.inl x)
  have e1:e≠1:=fun x=>hm (.inr (.inl x))
  have e4:e≠4:=fun x=>hm (.inr (.inr (.inl x)))
  have e5:e≠5:=fun x=>hm (.inr (.inr (.inr x)))
  clear ih hf he hmay hm
  refine qx1 ?_
  exact ⟨og,.inl ⟨hn,rfl⟩⟩
 have ht:l.take (i+1)=l.take i++[(fd,e)]:=by rw [List.take_add_one,hp];rfl
 have hcs:cntP (polL ws (l.take (i+1)))=cntP (polL ws (l.take i))+min (jc1 (rdyS ws fd) fd e) 1:=by
  rw [ht];unfold polL;rw [List.map_append,List.map_cons,List.map_nil,jfu]
 have hir:ints (polL ws (l.take (i+1)))=ints (polL ws (l.take i))++[.i (jc1 (rdyS ws fd) fd e)]:=by
  rw [ht];simp [polL]
 have hb:=jep (rdyS ws fd) fd e
 have hcl2:=jiF (l:=polL ws (l.take i)) (fun x hx=>by
  obtain ⟨p,_,rfl⟩:=List.mem_map.1 hx
  exact (jep _ _ _).1)
 rw [jgy,List.length_take] at hcl2
 have hmay2 : ∀ (j:Nat) (p:Int × Int),j<i+1->l[j]?=some p->jda p.2:=fun j p hj hp'=>by
  by_cases e:j=i
  ·subst e;rw [hp] at hp';cases hp';exact hm
  ·exact hmay j p om hp'
 have hi1:(i:Int)+1=((i+1:Nat):Int):=by omega
 have orow : ∀ z,ov.at?=some z->h.nx<=z/\z<g.nx:=fun z hz=>row.at_ge hz
 have L:=og.1
 have T:=fun sb=>pb_4 (sb:=sb) hcl (d:=d-1) (ci:=ci) (cf:=cf) (ce:=ce) (c:=cntP (polL ws (l.take i))) (n:=l.length) om fds hm og row gf' ge' (by rw [og.2 _ li];exact gi.g) ⟨by omega,by omega,by omega⟩ qfd qev om om om
 rw [<- hcs,<- hir] at T
 rw [<- hC] at T
 clear hf he hmay
 rcases hm with rfl | rfl | rfl | rfl
 all_goals
  repeat' (first|refine qxy ?_|refine zbf rfl (fun _=>?_) fun _=>?_|refine zbg rfl (fun _=>?_) fun _=>?_|refine zbh rfl (fun _=>?_) fun _=>?_|refine zbm rfl (fun _=>?_) fun _=>?_|refine zbn rfl (fun _=>?_) fun _=>?_)
  refine Run.cut _ (T _) ?_
  rintro _ _ g' ⟨rfl,ov',sb',rfl,row',og'⟩
  repeat' (first|refine qxy ?_|refine zbf rfl (fun _=>?_) fun _=>?_|refine zbg rfl (fun _=>?_) fun _=>?_|refine zbh rfl (fun _=>?_) fun _=>?_|refine zbm rfl (fun _=>?_) fun _=>?_|refine zbn rfl (fun _=>?_) fun _=>?_)
  rw [hi1]
  exact ih (l.length-(i+1)) om _ _ ⟨i+1,ov',rfl,by omega,hmay2,rfl,row',og'⟩
end
end Am.Sigs
namespace Am.Sigs
open Am Go
theorem jl0 : ∀ a b:List Int,cntP (a++b)=cntP a+cntP b
 | [],b=>by simp [cntP]
 | x :: a,b=>by rw [List.cons_append,cntP,jl0 a b,cntP];omega
theorem cntP_take {l:List Int} (h : ∀ x∈l,0<=x) (n:Nat):cntP (l.take n)<=cntP l:=by
 have e:=jl0 (l.take n) (l.drop n)
 rw [List.take_append_drop] at e
 have:=(jiF (l:=l.drop n) fun x hx=>h x (List.mem_of_mem_drop hx)).1
 omega
theorem jme (ws:Ws) (l:List (Int × Int)) (i:Nat):polL ws (l.take i)=(polL ws l).take i:=by
 unfold polL;rw [List.map_take]
section
variable {cl:Nat->Call} (hcl:Sem cl) {h:H} {w s:Nat} {ow:Nat->Nat} {ws:Ws} {now:Int} {tb:Tb} {no:Option (Nat × Nat)}
include hcl
theorem pl_holds {d:Nat} {v:V} {l:List (Int × Int)} (hd:10<=d) (a:WSt h w s ow ws now tb no) (o:WsOk ws) (hv:VP h v l) (hf:jmn l) (hl:l.length<=1000) :
  ∃ h',cl d (.fn F.jgT) [.p w 0,v] h=some (.bool (if mayP l then decide (0<cntP (polL ws l)) else true),h')/\Old h h':=by
 suffices q : ∃ v' h',cl d (.fn F.jgT) [.p w 0,v] h=some (v',h')/\(v' = .bool (if mayP l then decide (0<cntP (polL ws l)) else true)/\Old h h') by
  obtain ⟨_,h',e,rfl,q⟩:=q;exact ⟨h',e,q⟩
 obtain ⟨h1,e1,o1⟩:=jn9 hcl (d:=d-1) (w:=w) om hv hf om
 by_cases hm:mayP l
 case neg=>
  rw [if_neg hm] at e1 ⊢
  refine at_ hcl om rfl rfl rfl ?_
  clear hf
  refine qx1 ?_
  exact ⟨rfl,o1⟩
 rw [if_pos hm] at e1 ⊢
 obtain ⟨av,cv,rfl,_⟩:=id hv
 refine at_ hcl om rfl rfl rfl ?_
 clear hf
 refine qm1 ?_
 refine Ops.callf rfl (jmR hcl (w:=w) om) ?_
 refine qx1 ?_
 have oH:Old h1 ((((h1.new (.cells [.bool false] false)).set h1.nx (.cells [.bool false] false)).new (.cells [.p w 0] false)).new (.cells [.slice av l.length cv] false)):=((Old.refl h1).new.set (Nat.le_refl _)).new.new
 have b0:((((h1.new (.cells [.bool false] false)).set h1.nx (.cells [.bool false] false)).new (.cells [.p w 0] false)).new (.cells [.slice av l.length cv] false)).get h1.nx=some (.cells [.bool false] false):=qgt
 have b2:((((h1.new (.cells [.bool false] false)).set h1.nx (.cells [.bool false] false)).new (.cells [.p w 0] false)).new (.cells [.slice av l.length cv] false)).get (h1.nx+1)=some (.cells [.p w 0] false):=qgt
 have b3:((((h1.new (.cells [.bool false] false)).set h1.nx (.cells [.bool false] false)).new (.cells [.p w 0] false)).new (.cells [.slice av l.length cv] false)).get (h1.nx+2)=some (.cells [.slice av l.length cv] false):=qgt
 have x1:((((h1.new (.cells [.bool false] false)).set h1.nx (.cells [.bool false] false)).new (.cells [.p w 0] false)).new (.cells [.slice av l.length cv] false)).nx=h1.nx+3:=rfl
 change Run (cl (d-1)) fuel _ _ [(5,.p h1.nx 0),(13,.clo F.jeo [.p (h1.nx+2) 0,.p (h1.nx+1) 0])] ((((h1.new (.cells [.bool false] false)).set h1.nx (.cells [.bool false] false)).new (.cells [.p w 0] false)).new (.cells [.slice av l.length cv] false)) _
 generalize (((h1.new (.cells [.bool false] false)).set h1.nx (.cells [.bool false] false)).new (.cells [.p w 0] false)).new (.cells [.slice av l.length cv] false)=H1 at oH b0 b2 b3 x1 ⊢
 have hx1:=o1.1
 refine Run.rangeFunc_lo rfl qkp fun LO hLO=>?_
 rw [x1]
 have oL:Old h1 (H1.new (LO .ready none)):=oH.new
 obtain ⟨v',h',hc,hIJ⟩:=jj1 hcl (d:=d-1) (L:=h1.nx+3) (c2:=h1.nx+1) (c3:=h1.nx+2) (h:=H1.new (LO .ready none)) (v := .slice av l.length cv) (l:=l) (w:=w) (s:=s) (ow:=ow) (ws:=ws) (now:=now) (tb:=tb) (no:=no) om o hm.2 hl
  (fun i g=>cntP (polL ws (l.take i))=0/\g.get h1.nx=some (.cells [.bool false] false)/\g.get (h1.nx+1)=some (.cells [.p w 0] false)/\g.get (h1.nx+2)=some (.cells [.slice av l.length cv] false)/\g.get (h1.nx+3)=some (LO .ready none)/\h1.nx+4<=g.nx/\Old h1 g)
  (fun g=>0<cntP (polL ws l)/\g.get h1.nx=some (.cells [.bool true] false)/\g.get (h1.nx+3)=some (LO .done (some (.exit 0)))/\h1.nx+4<=g.nx/\Old h1 g)
  (fun i g ⟨_,_,p2,p3,_,p5,p6⟩=>⟨(a.old o1).old p6,(hv.keep o1).keep p6,p3,p2,by omega⟩)
  (by
   rintro i g g' ⟨p00,p0,p2,p3,p4,p5,p6⟩ og
   exact ⟨p00,by rw [og.2 _ om,p0],by rw [og.2 _ om,p2],by rw [og.2 _ om,p3],by rw [og.2 _ om,p4],Nat.le_trans p5 og.1,p6.trans og⟩)
  (by
   rintro i g p hp ⟨p00,p0,p2,p3,p4,p5,p6⟩
   have et:=jj0 (ws:=ws) hp
   have hx:=jep (rdyS ws p.1) p.1 p.2
   have ec:=jfu (jc1 (rdyS ws p.1) p.1 p.2) (polL ws (l.take i))
   rw [<- et] at ec
   have hle:=cntP_take (jkA ws l) (i+1)
   rw [<- jme] at hle
   generalize jc1 (rdyS ws p.1) p.1 p.2=px at hx ec ⊢
   suffices q : ∃ v' g',cl (d-1-1) (.yld (h1.nx+3)) [.i px] g=some (v',g') /\ ∃ b:Bool,v' = .bool b/\(b=true->cntP (polL ws (l.take (i+1)))=0/\g'.get h1.nx=some (.cells [.bool false] false)/\g'.get (h1.nx+1)=some (.cells [.p w 0] false)/\g'.get (h1.nx+2)=some (.cells [.slice av l.length cv] false)/\g'.get (h1.nx+3)=some (LO .ready none)/\h1.nx+4<=g'.nx/\Old h1 g') /\
     (b=false->0<cntP (polL ws l)/\g'.get h1.nx=some (.cells [.bool true] false)/\g'.get (h1.nx+3)=some (LO .done (some (.exit 0)))/\h1.nx+4<=g'.nx/\Old h1 g') by
    obtain ⟨_,g',e,b,rfl,q⟩:=q
    exact ⟨b,g',e,q⟩
   refine yl_ hcl om hLO p4 rfl ?_
   clear a hv hm o hp et
   refine qx1 ?_
   refine End.nil ⟨rfl,p4,?_⟩
   by_cases hz:px=0
   ·refine qx1 ?_
    refine End.nil ⟨⟨.busy,none,qgt⟩,true,rfl,fun _=>⟨by omega,?_,?_,?_,jab _,by simpa using p5,(p6.set om).set om⟩,fun e=>by cases e⟩
    ·rw [jaa om,jaa om,p0]
    ·rw [jaa om,jaa om,p2]
    ·rw [jaa om,jaa om,p3]
   ·refine qx1 ?_
    refine Ops.store1 (l:=[.bool false]) rfl rfl rfl (by rw [jaa om,p0]) Nat.zero_lt_one ?_
    refine qx1 ?_
    refine End.nil ⟨⟨.busy,none,by rw [jaa om,jab]⟩,false,rfl,fun e=>(by cases e),fun _=>⟨by omega,?_,jab _,by simpa using p5,((p6.set om).set om).set om⟩⟩
    rw [jaa om];exact jab _)
  ⟨by simp [polL,cntP],by rw [jad om,b0],by rw [jad om,b2],by rw [jad om,b3],by rw [<- x1,jac],by simp [x1],oL⟩
 clear a hv o
 rcases hIJ with ⟨p00,p0,p2,p3,p4,p5,p6⟩ | ⟨p00,p0,p4,p5,p6⟩
 ·rw [List.take_length] at p00
  rw [decide_eq_false om]
  have k0:(h'.kill (h1.nx+3)).get h1.nx=some (.cells [.bool false] false):=by rw [jai om,p0]
  have o9:Old h (h'.kill (h1.nx+3)):=⟨by have:=p6.1;show h.nx<=h'.nx;omega,fun j hj=>by rw [jai om,p6.2 j om,o1.2 j hj]⟩
  refine ⟨v',h',hc,.normal,p4,?_⟩
  clear hLO
  refine qx1 ?_
  exact ⟨rfl,o9⟩
 ·rw [decide_eq_true p00]
  have k0:(h'.kill (h1.nx+3)).get h1.nx=some (.cells [.bool true] false):=by rw [jai om,p0]
  have o9:Old h (h'.kill (h1.nx+3)):=⟨by have:=p6.1;show h.nx<=h'.nx;omega,fun j hj=>by rw [jai om,p6.2 j om,o1.2 j hj]⟩
  refine ⟨v',h',hc,.exit 0,p4,?_⟩
  clear hLO
  refine qx1 ?_
  exact ⟨rfl,o9⟩
end
end Am.Sigs
namespace Am.Sigs
open Am Go
theorem jnh {u:Nat} (h:u<10):dec u=[UInt8.ofNat (48+u)]:=by
 rw [jjR om,Lib.decDigits,dif_pos h]
theorem jnJ {u:Nat} (h : ¬ u<10) (hu:u<18446744073709551616):dec u=dec (u/10)++[UInt8.ofNat (48+u%10)]:=by
 rw [jjR hu,jjR om,Lib.decDigits,dif_neg h]
theorem jni {u:Nat} : ∀ {m:Nat},u<10 ^ (m+1)->u<18446744073709551616->(dec u).length<=m+1:=by
 intro m
 induction m generalizing u with
 | zero=>intro h _;rw [jnh (by simpa using h)];simp
 | succ m ih=>
  intro h h2
  by_cases h3:u<10
  ·rw [jnh h3];simp
  ·rw [jnJ h3 h2,List.length_append]
   have:=ih (u:=u/10) (by rw [Nat.pow_succ] at h;omega) om
   simp;omega
section
variable {call:Call} {fuel base:Nat} {ops:List Ins} {keep:List Nat} {K:List Fr} {e:Env} {h:H} {Q:Post}
theorem Ops.str1 {i1 i2 d1 d2:Nat} {x:Opd} {n:Int} {b:UInt8} (hx:x.ev e=some (.int .u8 n)) (hb:n=(b.toNat:Int))
  (k:Ops call fuel base ops keep K (layv (layv e (some d1) (.slice (some (h.nx,0)) 1 (.fix 1))) (some d2) (.str [b])) (h.new (.cells [jc6 b] false)) Q) :
  Ops call fuel base (⟨i1,some d1,.bslice 1 1 [.int .u8 0] [(0,x)],none,none,[]⟩ :: ⟨i2,some d2,.ofBytes (.t d1),none,none,[]⟩ :: ops) keep K e h Q:=by
 subst hb
 refine Ops.make (ob := .cells [jc6 b] false) (mk:=fun b=>.slice (some (b,0)) 1 (.fix 1)) rfl ?_ ?_
 ·simp only [I.make,jb0,List.map,hx];rfl
 ·refine Ops.step (v := .str [b]) (h':=h.new (.cells [jc6 b] false)) (I.run_read rfl ?_) k
  have he:(Opd.t d1).ev (layv e (some d1) (.slice (some (h.nx,0)) 1 (.fix 1)))=some (.slice (some (h.nx,0)) 1 (.fix 1)):=by
   show (layv e (some d1) _).get d1=_
   rw [jb5];simp
  simp only [I.read,he]
  have:((1:Nat) == 0)=false:=rfl
  rw [this,cond_false,jcq (jac _) (by simp)]
  simp [jdo,jgc]
end
theorem jn2 {m:Nat} (h:m<10):IntKind.u8.wrap (48+(m:Int))=((UInt8.ofNat (48+m)).toNat:Int):=by
 rw [UInt8.toNat_ofNat',IntKind.wrap_u8]
 omega
section
variable {cl:Nat->Call} (hcl:Sem cl)
include hcl
theorem jjc {d u:Nat} {h:H} (hd:1<=d) (hu:u<18446744073709551616) :
  ∃ h',cl d (.fn F.jdM) [.int .u64 (u:Int)] h=some (.str (dec u),h')/\Old h h':=by
 refine jak (at_ hcl om rfl rfl rfl ?_)
 refine qx1 ?_
 refine Run.loop (fun m e g=>∃ (n:Nat) (s:List UInt8),n<10 ^ (m+1)/\m+s.length<=19/\n<18446744073709551616/\dec u=dec n++s/\e=[(0,.int .u64 (n:Int)),(3,.str s)]/\Old h g)
  (k:=19) (by show _<100000;omega) ⟨u,[],by omega,by simp,hu,by simp,rfl,Old.refl h⟩ ?_
 rintro m _ g ⟨n,s,hm,hsl,hn,hs,rfl,old⟩ f ih
 by_cases hlt:n<10
 ·have hlt' : ¬ (9:Int)<(n:Int):=by omega
  refine qx1 ?_
  refine Ops.str1 (b:=UInt8.ofNat (48+n)) rfl (jn2 hlt) ?_
  refine qx1 ?_
  refine Ops.sadd rfl rfl (by simp;omega) ?_
  refine qx1 ?_
  exact ⟨by rw [hs,jnh hlt],old.trans ⟨by simp,fun _ hj=>jad hj⟩⟩
 ·have hlt':(9:Int)<(n:Int):=by omega
  have hm0:m≠0:=by rintro rfl;simp at hm;omega
  have e1:IntKind.u8.wrap (IntKind.u64.wrap (48+(n:Int).tmod 10))=((UInt8.ofNat (48+n%10)).toNat:Int):=by
   have:(n:Int).tmod 10=((n%10:Nat):Int):=(Int.ofNat_tmod n 10).symm
   rw [this,IntKind.wrap_u64,<- jn2 (m:=n%10) om]
   congr 1;omega
  refine qx1 ?_
  refine Ops.str1 (b:=UInt8.ofNat (48+n%10)) rfl e1 ?_
  refine qx1 ?_
  refine Ops.sadd rfl rfl (by simp;omega) ?_
  refine qx1 ?_
  refine ih (m-1) om _ _ ⟨n/10,[UInt8.ofNat (48+n%10)]++s,?_,by simp;omega,by omega,by rw [hs,jnJ hlt hn,List.append_assoc],?_,old.trans ⟨by simp,fun _ hj=>jad hj⟩⟩
  ·rw [show m-1+1=m by omega];rw [Nat.pow_succ] at hm;omega
  ·have:(n:Int).tdiv 10=((n/10:Nat):Int):=(Int.ofNat_tdiv n 10).symm
   rw [this,IntKind.wrap_u64,Int.emod_eq_of_lt om om]
theorem jbG {d u:Nat} {h:H} (hd:2<=d) (hu:u<9223372036854775808) :
  ∃ h',cl d (.fn F.jci) [.i (u:Int)] h=some (.str (dec u),h')/\Old h h':=by
 obtain ⟨h1,e1,o1⟩:=jjc hcl (d:=d-1) (u:=u) (h:=h) om om
 have e0:IntKind.u64.wrap (u:Int)=(u:Int):=by rw [IntKind.wrap_u64,Int.emod_eq_of_lt om om]
 refine jak (at_ hcl om rfl rfl rfl ?_)
 refine qx1 ?_
 rw [e0]
 refine qx1 ?_
 exact ⟨rfl,o1⟩
end
end Am.Sigs
namespace Am.Sigs
open Am Go
abbrev hexT:List UInt8:=[48,49,50,51,52,53,54,55,56,57,97,98,99,100,101,102]
def hx (n:Nat):UInt8:=hexT.getD n 0
def hexS (l:List UInt8):List UInt8:=(l.map fun b=>[hx (b.toNat/16),hx (b.toNat%16)]).flatten
theorem jiA (l:List UInt8):(hexS l).length=2*l.length:=by
 induction l with
 | nil=>rfl
 | cons a l ih=>simp only [hexS,List.map_cons,List.flatten_cons,List.length_append] at ih ⊢;rw [ih];simp;omega
theorem jjJ {l:List UInt8} {i:Nat} {b:UInt8} (h:l[i]?=some b):hexS (l.take (i+1))=hexS (l.take i)++[hx (b.toNat/16),hx (b.toNat%16)]:=by
 rw [List.take_add_one,h]
 simp [hexS]
theorem jlu {n:Nat} (h:n<16):hexT[n]?=some (hx n):=by
 match n,h with
 | 0,_=>rfl | 1,_=>rfl | 2,_=>rfl | 3,_=>rfl | 4,_=>rfl | 5,_=>rfl | 6,_=>rfl | 7,_=>rfl
 | 8,_=>rfl | 9,_=>rfl | 10,_=>rfl | 11,_=>rfl | 12,_=>rfl | 13,_=>rfl | 14,_=>rfl | 15,_=>rfl
 | n+16,h=>exact absurd h om
section
variable {call:Call} {fuel base:Nat} {K:List Fr} {e:Env} {h:H} {Q:Post} {ix:Nat} {dst at_:Option Nat} {ops:List Ins} {keep:List Nat}
theorem Ops.ixHex {x i:Opd} {s:List UInt8} {k:IntKind} {n:Nat} {b:UInt8} (hx:x.ev e=some (.str s)) (hi:i.ev e=some (.int k (n:Int))) (hs:s[n]?=some b) (kk:Ops call fuel base ops keep K (layv e dst (.int .u8 (b.toNat:Int))) h Q) :
  Ops call fuel base (⟨ix,dst,.ixStr x i,none,at_,[]⟩ :: ops) keep K e h Q:=by
 refine Ops.pure rfl ?_ kk
 simp only [I.pure,hx,hi]
 have hlt:n<s.length:=by
  rcases Nat.lt_or_ge n s.length with h | h
  ·exact h
  ·rw [List.getElem?_eq_none h] at hs;cases hs
 have hb:jfT (n:Int) s.length=true:=jdy.2 ⟨by omega,by omega⟩
 rw [hb]
 simp only [cond_true,Int.toNat_natCast,hs,jc6]
theorem Ops.bslice2_at {b:Nat} {x y:Opd} {xv yv z0 z1:V} (hx:x.ev e=some xv) (hy:y.ev e=some yv) (h1:xv.cells=[xv]) (h2:yv.cells=[yv])
  (k:Ops call fuel base ops keep K (layv e dst (.slice (some (base+b,0)) 2 (.fix 2))) (h.set (base+b) (.cells [xv,yv] false)) Q) :
  Ops call fuel base (⟨ix,dst,.bslice 1 2 [z0,z1] [(0,x),(1,y)],none,some b,[]⟩ :: ops) keep K e h Q:=by
 refine Ops.make_at (ob := .cells [xv,yv] false) (mk:=fun b=>.slice (some (b,0)) 2 (.fix 2)) rfl ?_ k
 have hf:jaY [z0,z1] [(0,1,xv),(1,1,yv)]=some [xv,yv]:=by
  simp [jaY,h1,h2,jaq];rfl
 simp only [I.make,jb0,List.map,hx,hy,Nat.zero_mul,Nat.one_mul,hf]
end
section
variable {cl:Nat->Call} (hcl:Sem cl)
include hcl
theorem sp_hex {d N:Nat} {l:List UInt8} {v:V} {h:H} (hd:1<=d) (r:Row N h 1 v l.length (bts l)) (hl:l.length<=90000) :
  ∃ h',cl d (.fn F.world_hex) [v] h=some (.str (hexS l),h')/\Old h h':=by
 obtain ⟨a,c,rfl,hq⟩ : ∃ a c,v = .slice a l.length c/\(l≠[] -> ∃ q,a=some (q,0)/\q<h.nx/\h.get q=some (.cells (bts l) false)):=by
  rcases r with ⟨h2,e⟩ | ⟨q,h1,h2,rfl,h4,h5⟩
  ·rw [h2,e.2];exact ⟨none,.fix 0,rfl,fun h=>absurd (List.length_eq_zero_iff.1 h2) h⟩
  ·exact ⟨_,_,rfl,fun _=>⟨q,rfl,h2,h4⟩⟩
 refine jak (at_ hcl om rfl rfl rfl ?_)
 refine qx1 ?_
 refine Run.loop (fun m e g=>∃ (i:Nat) (v:V),m=l.length-i/\i<=l.length/\e=[(3,v),(6,.slice a l.length c),(7,.i (l.length:Int)),(8,.i (i:Int))]/\Row h.nx g 1 v (2*i) (bts (hexS (l.take i)))/\Old h g)
  (k:=l.length) (by show _<100000;omega) ⟨0,.nils,by omega,by omega,rfl,Row.nil _ _ _,Old.refl h⟩ ?_
 rintro _ _ g ⟨i,v,rfl,hi,rfl,row,old⟩ f ih
 by_cases hlt:i<l.length
 case neg=>
  obtain rfl:i=l.length:=by omega
  rw [List.take_length] at row
  refine qx1 ?_
  refine Ops.ofRow rfl row ?_
  refine qx1 ?_
  exact ⟨rfl,old⟩
 obtain ⟨q,rfl,hq1,hq2⟩:=hq (by rintro rfl;simp at hlt)
 have hq3:g.get q=some (.cells (bts l) false):=by rw [old.2 q hq1,hq2]
 obtain ⟨b,hb⟩ : ∃ b,l[i]?=some b:=⟨_,List.getElem?_eq_getElem hlt⟩
 have hb2:(bts l)[0+i*1]?=some (jc6 b):=by rw [Nat.zero_add,Nat.mul_one];simp [bts,hb]
 unfold jc6 at hb2
 refine qx1 ?_
 refine Run.region ?_
 refine qx1 ?_
 have e1:(b.toNat:Int).fdiv (2 ^ (Int.toNat 4).min IntKind.u8.bits)=((b.toNat/16:Nat):Int):=by
  show (b.toNat:Int).fdiv 16=_
  rw [Int.fdiv_eq_ediv_of_nonneg _ om];omega
 rw [e1]
 have hb256:=b.toNat_lt
 refine Ops.ixHex (n:=b.toNat/16) rfl rfl (jlu om) ?_
 refine qx1 ?_
 have e2:IntKind.u8.wrap ((BitVec.ofInt IntKind.u8.bits (b.toNat:Int) &&& BitVec.ofInt IntKind.u8.bits 15).toNat:Int)=((b.toNat%16:Nat):Int):=by
  have q1:(BitVec.ofInt IntKind.u8.bits (b.toNat:Int)).toNat=b.toNat:=by
   show (BitVec.ofInt 8 (b.toNat:Int)).toNat=b.toNat
   rw [BitVec.toNat_ofInt];omega
  have q2:(BitVec.ofInt IntKind.u8.bits 15).toNat=15:=rfl
  rw [BitVec.toNat_and,q1,q2,show (15:Nat)=2 ^ 4-1 from rfl,Nat.and_two_pow_sub_one_eq_mod,IntKind.wrap_u8]
  omega
 rw [e2]
 refine Ops.ixHex (n:=b.toNat%16) rfl rfl (jlu om) ?_
 refine Ops.bslice2_at (xv:=jc6 (hx (b.toNat/16))) (yv:=jc6 (hx (b.toNat%16))) rfl rfl rfl rfl ?_
 have row2:Row h.nx ((g.reserve 1).set (g.nx+0) (.cells [jc6 (hx (b.toNat/16)),jc6 (hx (b.toNat%16))] false)) 1 v (2*i) (bts (hexS (l.take i))):=by
  refine row.keep (by simp) fun z hz=>?_
  have:=(row.at_ge hz).2
  rw [jaa om,H.get_reserve]
 refine Ops.appendN (sb:=g.nx+0) (so:=0) (m:=2) (new:=[jc6 (hx (b.toNat/16)),jc6 (hx (b.toNat%16))]) rfl rfl row2 ?_ om (jab ..) (by simp) rfl rfl om om om fun v' h' r2 z1 z2 z3=>?_
 ·have:=old.1;simp;omega
 refine qx1 ?_
 refine ih (l.length-(i+1)) om _ _ ⟨i+1,v',rfl,by omega,rfl,?_,?_⟩
 ·rw [jjJ hb,show 2*(i+1)=2*i+2 by omega]
  simpa [bts] using r2
 ·refine ⟨by have:=old.1;rw [z1];simp;omega,fun j hj=>?_⟩
  rw [z3 j (by have:=old.1;simp;omega) fun e=>by have:=(row.at_ge e).1;omega]
  have:=old.1
  rw [jaa om,H.get_reserve,old.2 j hj]
end
end Am.Sigs
namespace Am.Sigs
open Am Go
def Pw (h:H):Prop:=0<h.nx /\ ∃ l ro,h.get 0=some (.cells l ro)/\jju 20 1 l=true
theorem Pw.old {h h':H} (p:Pw h) (o:Old h h'):Pw h':=⟨Nat.lt_of_lt_of_le p.1 o.1,by obtain ⟨l,ro,h1,h2⟩:=p.2;exact ⟨l,ro,by rw [o.2 0 p.1,h1],h2⟩⟩
theorem Pw.ch {h h':H} {B:Nat->Prop} (p:Pw h) (c:Ch B h h') (h0 : ¬ B 0):Pw h':=⟨Nat.lt_of_lt_of_le p.1 c.nx,by obtain ⟨l,ro,h1,h2⟩:=p.2;exact ⟨l,ro,by rw [c.get 0 p.1 h0,h1],h2⟩⟩
theorem jhS {h:H} {u:Nat} (p:Pw h):jcp 0 u h=some (.str (dec u),h):=by
 obtain ⟨_,l,ro,h1,h2⟩:=p
 unfold jcp
 cases Nat.blt u 100 with
 | true=>rfl
 | false=>simp only [cond_false,h1,h2,cond_true]
def jeJ:Int->List UInt8
 | 0=>[110,111,110,101]
 | 1=>[105,110]
 | 2=>[111,117,116]
 | _=>[99,108,111,115,101,100]
theorem jj9 (i:Int):(jeJ i).length<=6:=by unfold jeJ;split<;>simp
def jh7 (r:Option (List UInt8)) (cap:Nat):List UInt8:=match r with
 | none=>[45]
 | some b=>hexS b++[47]++dec cap
def jby (what:Int) (shut:Bool) (r:Option (List UInt8)) (cap:Nat):List (List UInt8):=jeJ what :: ((if shut then [[115,104,117,116]] else [])++[jh7 r cap])
section
variable {cl:Nat->Call} (hcl:Sem cl)
include hcl
theorem jcG {d u:Nat} {h:H} (hd:1<=d) (hu:u<9223372036854775808) (p:Pw h):cl d (.fn F.jiY) [.i (u:Int)] h=some (.str (dec u),h):=by
 rw [jnO hcl hd (p:=jj4 0) rfl]
 have h1:Nat.ble u 9223372036854775807=true:=Nat.ble_eq_true_of_le om
 show (bif Nat.ble u 9223372036854775807 then jcp 0 u h else none)=_
 rw [h1,cond_true,jhS p]
theorem w_FmtU {d u:Nat} {h:H} (hd:1<=d) (hu:u<18446744073709551616) (p:Pw h):cl d (.fn F.jeV) [.int .u64 (u:Int),.i 10] h=some (.str (dec u),h):=by
 rw [jnO hcl hd (p:=jj5 0) rfl]
 have h1:Nat.ble u 18446744073709551615=true:=Nat.ble_eq_true_of_le om
 show (bif Nat.ble u 18446744073709551615 then jcp 0 u h else none)=_
 rw [h1,cond_true,jhS p]
theorem w_Join {d b o n:Nat} {c:Cap} {h:H} {l:List V} {ro:Bool} {xs:List (List UInt8)} {s:List UInt8} (hd:1<=d) (hg:h.get b=some (.cells l ro)) (hx:(l.drop o).take n=xs.map V.str) (hn:xs.length=n) (hs:(Lib.join xs s).length<=100000000) (hn2:n<=1000000) :
  cl d (.fn F.jfV) [.slice (some (b,o)) n c,.str s] h=some (.str (Lib.join xs s),h):=by
 rw [jnO hcl hd (p:=ji3) rfl]
 have h1:(Nat.beq xs.length n&&(Nat.ble n 140737488355328&&Nat.ble (Lib.join xs s).length 140737488355328))=true:=by
  rw [show Nat.beq xs.length n=true by rw [hn];exact Nat.beq_refl n,Nat.ble_eq_true_of_le om,Nat.ble_eq_true_of_le om];rfl
 simp only [ji3]
 rw [hg]
 dsimp only
 rw [hx,jle]
 dsimp only
 rw [h1,cond_true]
end
end Am.Sigs
namespace Am.Sigs
open Am Go
theorem join2 (a b s:List UInt8):Lib.join [a,b] s=a++s++b:=by simp [Lib.join,List.intercalate]
theorem join3 (a b c s:List UInt8):Lib.join [a,b,c] s=a++s++b++s++c:=by simp [Lib.join,List.intercalate]
section
variable {call:Call} {fuel base:Nat} {K:List Fr} {e:Env} {h:H} {Q:Post} {ix:Nat} {dst at_:Option Nat} {ops:List Ins} {keep:List Nat}
theorem Ops.digit {x y:Opd} {n:Nat} (hx':x.ev e=some (.i (n:Int))) (hy:y.ev e=some (.i ((n:Int)+1))) (hn:n<16) (k:Ops call fuel base ops keep K (layv e dst (.str [hx n])) h Q) :
  Ops call fuel base (⟨ix,dst,.sliceS (.c (.str hexT)) (some x) (some y),none,at_,[]⟩ :: ops) keep K e h Q:=by
 refine Ops.pure rfl ?_ k
 have hh:(Opd.c (.str hexT)).ev e=some (.str hexT):=rfl
 simp only [I.pure,evo,hx',hy,hh]
 match n,hn with
 | 0,_=>rfl | 1,_=>rfl | 2,_=>rfl | 3,_=>rfl | 4,_=>rfl | 5,_=>rfl | 6,_=>rfl | 7,_=>rfl
 | 8,_=>rfl | 9,_=>rfl | 10,_=>rfl | 11,_=>rfl | 12,_=>rfl | 13,_=>rfl | 14,_=>rfl | 15,_=>rfl
 | n+16,h=>exact absurd h om
end
section
variable {cl:Nat->Call} (hcl:Sem cl)
include hcl
abbrev endC (what fd:Int) (rs wr:Bool) (v:V) (shut:Bool) (inn out:Int):List V:=[.i what,.i fd,.bool rs,.bool wr,v,.bool shut,.int .u64 inn,.int .u64 out]
theorem jmH {d cap b:Nat} {what fd inn out:Int} {ring:Option (List UInt8)} {wr shut:Bool} {sb:Env} {v:V} {s:List UInt8} {h:H} (hsb:sb=[]\/sb=[(15,.bool false)]) (hd:2<=d) (hg:h.get b=some (.cells (endC what fd ring.isSome wr v shut inn out) false)) (hbn:b<h.nx) (hb:VB h v (ring.getD [])) (hvn : ∀ z,v.at?=some z->z<h.nx) (hl:(ring.getD []).length<=90000)
  (hc:cap<9223372036854775808) (hs:s.length<=100) :
  Run (cl d) fuel c83_5 [] ([(1,.i (cap:Int)),(2,.p b 0),(5,.str s)]++sb) h (Fin c83.res fun x h'=>x = .str (s++[32]++jh7 ring cap)/\Old h h'):=by
 rcases hsb with rfl | rfl
 all_goals
  dsimp only [List.append_nil,List.cons_append,List.nil_append]
  cases ring with
  | none=>
   dsimp only [Option.isSome_none] at hg
   repeat' (first|refine qxy ?_|refine zbf rfl (fun _=>?_) fun _=>?_|refine zbg rfl (fun _=>?_) fun _=>?_|refine zbh rfl (fun _=>?_) fun _=>?_|refine zbm rfl (fun _=>?_) fun _=>?_|refine zbn rfl (fun _=>?_) fun _=>?_)
   refine Ops.sadd rfl rfl (by simp;omega) ?_
   repeat' (first|refine qxy ?_|refine zbf rfl (fun _=>?_) fun _=>?_|refine zbg rfl (fun _=>?_) fun _=>?_|refine zbh rfl (fun _=>?_) fun _=>?_|refine zbm rfl (fun _=>?_) fun _=>?_|refine zbn rfl (fun _=>?_) fun _=>?_)
   exact ⟨by simp [jh7],Old.refl h⟩
  | some l=>
   dsimp only [Option.isSome_some,Option.getD_some] at hg hb hl
   obtain ⟨a,c,rfl,hn,hf,hxx⟩:=hb
   repeat' (first|refine qxy ?_|refine zbf rfl (fun _=>?_) fun _=>?_|refine zbg rfl (fun _=>?_) fun _=>?_|refine zbh rfl (fun _=>?_) fun _=>?_|refine zbm rfl (fun _=>?_) fun _=>?_|refine zbn rfl (fun _=>?_) fun _=>?_)
   refine Ops.sadd rfl rfl (by simp;omega) ?_
   repeat' (first|refine qxy ?_|refine zbf rfl (fun _=>?_) fun _=>?_|refine zbg rfl (fun _=>?_) fun _=>?_|refine zbh rfl (fun _=>?_) fun _=>?_|refine zbm rfl (fun _=>?_) fun _=>?_|refine zbn rfl (fun _=>?_) fun _=>?_)
   refine Run.loop (fun m e g=>∃ (i:Nat),m=l.length-i/\i<=l.length/\e=[(1,.i (cap:Int)),(2,.p b 0),(5,.str (s++[32]++hexS (l.take i))),(6,.i (i:Int))]/\Old h g)
    (k:=l.length) (by show _<100000;omega) ⟨0,by omega,by omega,by simp [hexS],Old.refl h⟩ ?_
   rintro _ _ g ⟨i,rfl,hi,rfl,old⟩ f ih
   have g1:g.get b=_:=(old.2 b hbn).trans hg
   by_cases hlt:i<l.length
   case neg=>
    obtain rfl:i=l.length:=by omega
    rw [List.take_length]
    obtain ⟨h1,e1,o1⟩:=jbG hcl (d:=d) (u:=cap) (h:=g) hd hc
    have:=jiA l
    repeat' (first|refine qxy ?_|refine zbf rfl (fun _=>?_) fun _=>?_|refine zbg rfl (fun _=>?_) fun _=>?_|refine zbh rfl (fun _=>?_) fun _=>?_|refine zbm rfl (fun _=>?_) fun _=>?_|refine zbn rfl (fun _=>?_) fun _=>?_)
    refine Ops.sadd rfl rfl (by simp;omega) ?_
    repeat' (first|refine qxy ?_|refine zbf rfl (fun _=>?_) fun _=>?_|refine zbg rfl (fun _=>?_) fun _=>?_|refine zbh rfl (fun _=>?_) fun _=>?_|refine zbm rfl (fun _=>?_) fun _=>?_|refine zbn rfl (fun _=>?_) fun _=>?_)
    refine Ops.sadd rfl rfl (by have:=jni (u:=cap) (m:=19) om om;simp;omega) ?_
    repeat' (first|refine qxy ?_|refine zbf rfl (fun _=>?_) fun _=>?_|refine zbg rfl (fun _=>?_) fun _=>?_|refine zbh rfl (fun _=>?_) fun _=>?_|refine zbm rfl (fun _=>?_) fun _=>?_|refine zbn rfl (fun _=>?_) fun _=>?_)
    exact ⟨by simp [jh7],old.trans o1⟩
   obtain ⟨q,o,cs,ro,rfl,q1,q2,q3⟩:=hxx (by rintro rfl;simp at hlt)
   have g2:g.get q=some (.cells cs ro):=by rw [old.2 q (hvn q rfl),q2]
   obtain ⟨y,hy⟩ : ∃ y,l[i]?=some y:=⟨_,List.getElem?_eq_getElem hlt⟩
   have hy256:=y.toNat_lt
   have q4:cs[o+i*1]?=some (.int .u8 (y.toNat:Int)):=by rw [Nat.mul_one];exact q3 i y hy
   have g3:(g.reserve 1).get b=_:=(H.get_reserve ..).trans g1
   have g4:(g.reserve 1).get q=some (.cells cs ro):=(H.get_reserve ..).trans g2
   repeat' (first|refine qxy ?_|refine zbf rfl (fun _=>?_) fun _=>?_|refine zbg rfl (fun _=>?_) fun _=>?_|refine zbh rfl (fun _=>?_) fun _=>?_|refine zbm rfl (fun _=>?_) fun _=>?_|refine zbn rfl (fun _=>?_) fun _=>?_)
   refine Run.region ?_
   repeat' (first|refine qxy ?_|refine zbf rfl (fun _=>?_) fun _=>?_|refine zbg rfl (fun _=>?_) fun _=>?_|refine zbh rfl (fun _=>?_) fun _=>?_|refine zbm rfl (fun _=>?_) fun _=>?_|refine zbn rfl (fun _=>?_) fun _=>?_)
   have e1:IntKind.u8.wrap ((y.toNat:Int).tdiv 16)=((y.toNat/16:Nat):Int):=by
    rw [show (y.toNat:Int).tdiv 16=((y.toNat/16:Nat):Int) from (Int.ofNat_tdiv _ 16).symm,IntKind.wrap_u8];omega
   have e2:(y.toNat:Int).tmod 16=((y.toNat%16:Nat):Int):=(Int.ofNat_tmod _ 16).symm
   rw [e1,e2]
   refine Ops.bslice2_at (xv := .int .u8 ((y.toNat/16:Nat):Int)) (yv := .int .u8 ((y.toNat%16:Nat):Int)) rfl rfl rfl rfl ?_
   have g5:((g.reserve 1).set (g.nx+0) (.cells [.int .u8 ((y.toNat/16:Nat):Int),.int .u8 ((y.toNat%16:Nat):Int)] false)).get (g.nx+0)=some (.cells [.int .u8 ((y.toNat/16:Nat):Int),.int .u8 ((y.toNat%16:Nat):Int)] false):=jab ..
   have o2:Old g ((g.reserve 1).set (g.nx+0) (.cells [.int .u8 ((y.toNat/16:Nat):Int),.int .u8 ((y.toNat%16:Nat):Int)] false)):=⟨by simp,fun j hj=>by rw [jaa om,H.get_reserve]⟩
   generalize (g.reserve 1).set (g.nx+0) (.cells [.int .u8 ((y.toNat/16:Nat):Int),.int .u8 ((y.toNat%16:Nat):Int)] false)=g6 at g5 o2 ⊢
   repeat' (first|refine qxy ?_|refine zbf rfl (fun _=>?_) fun _=>?_|refine zbg rfl (fun _=>?_) fun _=>?_|refine zbh rfl (fun _=>?_) fun _=>?_|refine zbm rfl (fun _=>?_) fun _=>?_|refine zbn rfl (fun _=>?_) fun _=>?_)
   have hlen:=jiA (l.take i)
   have hlt2:(l.take i).length<=90000:=by simp;omega
   refine Run.loop (fun m e g'=>∃ (j:Nat),m=2-j/\j<=2/\e=[(1,.i (cap:Int)),(2,.p b 0),(5,.str (s++[32]++hexS (l.take i)++([hx (y.toNat/16),hx (y.toNat%16)].take j))),(6,.i (i:Int)),(44,.slice (some (g.nx+0,0)) 2 (.fix 2)),(45,.i 2),(46,.i (j:Int))]/\g'=g6)
    (k:=2) (by show _<100000;omega) ⟨0,by omega,by omega,by simp,rfl⟩ ?_
   rintro _ _ g' ⟨j,rfl,hj,rfl,rfl⟩ f2 ih2
   by_cases hj2:j<2
   case neg=>
    obtain rfl:j=2:=by omega
    repeat' (first|refine qxy ?_|refine zbf rfl (fun _=>?_) fun _=>?_|refine zbg rfl (fun _=>?_) fun _=>?_|refine zbh rfl (fun _=>?_) fun _=>?_|refine zbm rfl (fun _=>?_) fun _=>?_|refine zbn rfl (fun _=>?_) fun _=>?_)
    refine ih (l.length-(i+1)) om _ _ ⟨i+1,rfl,by omega,?_,old.trans o2⟩
    rw [jjJ hy,List.append_assoc (s++[32])];rfl
   have key : ∃ z:Nat,z<16/\[V.int .u8 ((y.toNat/16:Nat):Int),.int .u8 ((y.toNat%16:Nat):Int)][0+j*1]?=some (.int .u8 (z:Int))/\[hx (y.toNat/16),hx (y.toNat%16)].take (j+1)=[hx (y.toNat/16),hx (y.toNat%16)].take j++[hx z]:=by
    match j,hj2 with
    | 0,_=>exact ⟨y.toNat/16,by omega,rfl,rfl⟩
    | 1,_=>exact ⟨y.toNat%16,by omega,rfl,rfl⟩
   obtain ⟨z,hz,z1,z2⟩:=key
   have e3:IntKind.i64.wrap (z:Int)=(z:Int):=by rw [IntKind.wrap_i64];omega
   repeat' (first|refine qxy ?_|refine zbf rfl (fun _=>?_) fun _=>?_|refine zbg rfl (fun _=>?_) fun _=>?_|refine zbh rfl (fun _=>?_) fun _=>?_|refine zbm rfl (fun _=>?_) fun _=>?_|refine zbn rfl (fun _=>?_) fun _=>?_)
   rw [e3]
   refine Ops.digit rfl rfl hz ?_
   repeat' (first|refine qxy ?_|refine zbf rfl (fun _=>?_) fun _=>?_|refine zbg rfl (fun _=>?_) fun _=>?_|refine zbh rfl (fun _=>?_) fun _=>?_|refine zbm rfl (fun _=>?_) fun _=>?_|refine zbn rfl (fun _=>?_) fun _=>?_)
   have hj3:([hx (y.toNat/16),hx (y.toNat%16)].take j).length<=2:=by simp;omega
   refine Ops.sadd rfl rfl (by simp at hj3 hlen hlt2 ⊢;omega) ?_
   repeat' (first|refine qxy ?_|refine zbf rfl (fun _=>?_) fun _=>?_|refine zbg rfl (fun _=>?_) fun _=>?_|refine zbh rfl (fun _=>?_) fun _=>?_|refine zbm rfl (fun _=>?_) fun _=>?_|refine zbn rfl (fun _=>?_) fun _=>?_)
   refine ih2 (2-(j+1)) om _ _ ⟨j+1,rfl,by omega,?_,rfl⟩
   rw [z2,<- List.append_assoc];rfl
omit hcl in
theorem jke {what:Int} {shut:Bool} {r:Option (List UInt8)} {cap:Nat} : Lib.join (jby what shut r cap) [32]=jeJ what++(if shut then [32,115,104,117,116] else [])++[32]++jh7 r cap:=by
 unfold jby
 cases shut with
 | true=>simp [join3]
 | false=>simp [join2]
theorem jn6 {d cap:Nat} {e:En} {v:V} {h:H} (hd:3<=d) (hw:0<=e.what/\e.what<=3) (hb:VB h v (e.ring.getD [])) (hvn : ∀ z,v.at?=some z->z<h.nx) (hl:(e.ring.getD []).length<=90000) (hc:cap<9223372036854775808) :
  ∃ h',cl d (.fn F.jeG) [.agg (e.rcells v),.i (cap:Int)] h=some (.str (Lib.join (jby e.what e.shut e.ring cap) [32]),h')/\Old h h':=by
 rw [jke]
 obtain ⟨what,fd,ring,writes,shut,inn,out⟩:=e
 dsimp only at hw hb hl ⊢
 obtain ⟨w,rfl⟩ : ∃ w:Nat,what=(w:Int):=⟨what.toNat,by omega⟩
 have hw4:w<4:=by omega
 have hnm:[V.str [110,111,110,101],.str [105,110],.str [111,117,116],.str [99,108,111,115,101,100]][0+w*1]?=some (.str (jeJ (w:Int))):=by
  match w,hw4 with
  | 0,_=>rfl | 1,_=>rfl | 2,_=>rfl | 3,_=>rfl
 have hnl:=jj9 (w:Int)
 refine jak (at_ hcl om rfl rfl rfl ?_)
 unfold En.rcells
 dsimp only
 refine qx1 ?_
 refine Ops.make (ob := .cells (endC w fd ring.isSome writes v shut inn out) false) rfl rfl ?_
 have g0:(h.new (.cells (endC w fd ring.isSome writes v shut inn out) false)).get h.nx=some (.cells (endC w fd ring.isSome writes v shut inn out) false):=jac _
 have l1:h.nx<(h.new (.cells (endC w fd ring.isSome writes v shut inn out) false)).nx:=by simp
 have o1:Old h (h.new (.cells (endC w fd ring.isSome writes v shut inn out) false)):=⟨by simp,fun _ hj=>jad hj⟩
 generalize h.new (.cells (endC w fd ring.isSome writes v shut inn out) false)=h1 at g0 l1 o1 ⊢
 refine qx1 ?_
 refine Ops.make (ob := .cells [V.str [110,111,110,101],.str [105,110],.str [111,117,116],.str [99,108,111,115,101,100]] false) rfl rfl ?_
 have g2:=jac (h:=h1) (.cells [V.str [110,111,110,101],.str [105,110],.str [111,117,116],.str [99,108,111,115,101,100]] false)
 have g3:(h1.new (.cells [V.str [110,111,110,101],.str [105,110],.str [111,117,116],.str [99,108,111,115,101,100]] false)).get h.nx=_:=(jad l1).trans g0
 have o2:Old h1 (h1.new (.cells [V.str [110,111,110,101],.str [105,110],.str [111,117,116],.str [99,108,111,115,101,100]] false)):=⟨by simp,fun _ hj=>jad hj⟩
 generalize h1.new (.cells [V.str [110,111,110,101],.str [105,110],.str [111,117,116],.str [99,108,111,115,101,100]] false)=h2 at g2 g3 o2 ⊢
 have o3:=o1.trans o2
 have hb2:VB h2 v (ring.getD []):=hb.keep o3.1 fun z hz=>o3.2 z (hvn z hz)
 obtain ⟨C,hC⟩ : ∃ C,C=c83_5:=⟨_,rfl⟩
 simp only [c83_6,<- hC]
 cases shut with
 | true=>
  refine qx1 ?_
  refine Ops.sadd rfl rfl (by simp;omega) ?_
  refine qx1 ?_
  rw [hC]
  exact Run.fin_mono (jmH hcl (d:=d-1) (s:=jeJ (w:Int)++[32,115,104,117,116]) (sb:=[]) (.inl rfl) om g3 (Nat.lt_of_lt_of_le l1 o2.1) hb2 (fun z hz=>Nat.lt_of_lt_of_le (hvn z hz) o3.1) hl hc (by simp;omega)) fun x h' ⟨p,q⟩=>⟨by simp [p],o3.trans q⟩
 | false=>
  refine qx1 ?_
  rw [hC]
  exact Run.fin_mono (jmH hcl (d:=d-1) (s:=jeJ (w:Int)) (sb:=[(15,.bool false)]) (.inr rfl) om g3 (Nat.lt_of_lt_of_le l1 o2.1) hb2 (fun z hz=>Nat.lt_of_lt_of_le (hvn z hz) o3.1) hl hc om) fun x h' ⟨p,q⟩=>⟨by simp [p],o3.trans q⟩
end
end Am.Sigs
