/- Our own library, part 20: an abstract machine, sound for the model, and what the functions do over it. No condition. -/
import Derived.Test.YtkcenemffnfoeaaGreatK19
import Derived.Test.YtkcenemffnfoeaaGreatK17
import Derived.Test.YtkcenemffnfoeaaGreatK10
import Derived.Test.YtkcenemffnfoeaaGreatK13
import Derived.Test.YtkcenemffnfoeaaGreatK15
import Derived.Test.YtkcenemffnfoeaaGreatK14
set_option maxHeartbeats 8000000
set_option linter.all false
namespace Am.Sigs
open Am Go
structure Rdy where
 op:Bool
 inn:Bool
 out:Bool
 hup:Bool
 err:Bool
 rd:Int
 wr:Int
def Rdy.cells (r:Rdy):List V:=[.bool r.op,.bool r.inn,.bool r.out,.bool r.hup,.bool r.err,.int .u64 r.rd,.int .u64 r.wr]
def Rdy.no:Rdy:=⟨false,false,false,false,false,0,0⟩
def Wi.rdy (x:Wi) (k:Nat):Rdy :=
 if 0<x.backlog then ⟨true,!x.waiting.isEmpty,false,false,false,(x.e k).inn,(x.e k).out⟩
 else ⟨true,x.rIn k,x.rOut k,(x.e (1-k)).what == 3,x.reset,(x.e k).inn,(x.e k).out⟩
noncomputable def rdyS (ws:Ws) (fd:Int):Rdy:=jcv ws fd Rdy.no fun _ k x=>x.rdy k
theorem jiB (ws:Ws) (fd:Int):jeG ws fd=(rdyS ws fd).cells:=by
 unfold jeG rdyS jcv
 split
 ·rfl
 ·split
  ·rfl
  ·show Wi.ready _ _=(Wi.rdy _ _).cells
   unfold Wi.ready Wi.rdy
   split<;>rfl
def jhm (ev:Int):Prop:=ev=0\/ev=1\/ev=4\/ev=5
instance (ev:Int):Decidable (jhm ev):=inferInstanceAs (Decidable (_\/_))
def b2i (b:Bool) (n:Int):Int:=if b then n else 0
def jeR (r:Rdy) (fd ev:Int):Int :=
 if fd<0 then 0 else if r.op=false then 32 else b2i r.hup 16+b2i (r.inn&&decide (ev=1\/ev=5)) 1+b2i (r.out&&decide (ev=4\/ev=5)) 4+b2i r.err 8
theorem jiK (r:Rdy) (fd ev:Int):0<=jeR r fd ev/\jeR r fd ev<=63:=by
 unfold jeR b2i
 repeat' split
 all_goals omega
theorem wrap_zero {n:Nat} (hn:n<2 ^ 64) (h:IntKind.i64.wrap (n:Int)=0):n=0:=by
 have e:IntKind.wrap .i64 n=if (n:Int)%18446744073709551616>=9223372036854775808 then (n:Int)%18446744073709551616-18446744073709551616 else (n:Int)%18446744073709551616:=by
  unfold IntKind.wrap
  simp [IntKind.bits,IntKind.signed]
 rw [e] at h
 split at h<;>omega
theorem jmQ (x:BitVec 64) (h:x &&& ~~~(5#64)=0#64):x=0#64\/x=1#64\/x=4#64\/x=5#64:=by
 have h5:x &&& 5#64=x:=by
  apply BitVec.eq_of_getElem_eq
  intro i hi
  have:=congrArg (fun y:BitVec 64=>y[i]) h
  simp only [BitVec.getElem_and,BitVec.getElem_not,BitVec.getElem_zero] at this ⊢
  revert this
  cases x[i]<;>cases (5#64)[i]<;>simp
 have hle:x.toNat<=5:=by
  have e:(x &&& 5#64).toNat=x.toNat:=by rw [h5]
  rw [BitVec.toNat_and] at e
  have:=Nat.and_le_right (n:=x.toNat) (m:=(5#64).toNat)
  rw [e] at this
  exact this
 have hx:x=BitVec.ofNat 64 x.toNat:=by simp
 generalize x.toNat=n at hle hx
 subst hx
 rcases (by omega:n=0\/n=1\/n=2\/n=3\/n=4\/n=5) with rfl | rfl | rfl | rfl | rfl | rfl
 ·exact .inl rfl
 ·exact .inr (.inl rfl)
 ·exact absurd h (by decide)
 ·exact absurd h (by decide)
 ·exact .inr (.inr (.inl rfl))
 ·exact .inr (.inr (.inr rfl))
theorem jlH {ev:Int} (h0 : -9223372036854775808<=ev) (h1:ev<=9223372036854775807):(IntKind.i64.wrap (BitVec.ofInt 64 ev &&& ~~~(BitVec.ofInt 64 5)).toNat=0)↔jhm ev:=by
 constructor
 ·intro h
  have h2:=wrap_zero (BitVec.isLt _) h
  have h3:BitVec.ofInt 64 ev &&& ~~~(5#64)=0#64:=BitVec.eq_of_toNat_eq (by simpa using h2)
  have hi:(BitVec.ofInt 64 ev).toInt=ev:=by
   rw [BitVec.toInt_ofInt]
   unfold Int.bmod
   simp
   split<;>omega
  have key : ∀ n:Int,BitVec.ofInt 64 ev=BitVec.ofInt 64 n->(BitVec.ofInt 64 n).toInt=n->ev=n:=fun n e e2=>by rw [<- hi,e,e2]
  rcases jmQ _ h3 with e | e | e | e
  ·exact .inl (key 0 e rfl)
  ·exact .inr (.inl (key 1 e rfl))
  ·exact .inr (.inr (.inl (key 4 e rfl)))
  ·exact .inr (.inr (.inr (key 5 e rfl)))
 ·rintro (rfl | rfl | rfl | rfl)<;>rfl
end Am.Sigs
namespace Am.Sigs
open Am Go
structure BX (h0 h:H) (p w s rw:Nat) (ow:Nat->Nat) (ro:Nat->Prop) (st:St) (i:Nat):Prop where
 b:BB h p w s rw ow ro (fun j=>j<h0.nx) st st
 so:StOk st i
 old:Old h0 h
 own : ∀ j,ow j≠0\/ro j->h0.nx<=j
 lp:h0.nx<=p
theorem old_fm {h0 h h':H} {ow ow':Nat->Nat} {ro ro':Nat->Prop} (o:Old h0 h) (f:Fm h h' ow ro ow' ro') (own : ∀ j,ow j≠0\/ro j->h0.nx<=j):Old h0 h' :=
 ⟨Nat.le_trans o.1 f.ch.nx,fun j hj=>by rw [f.ch.get j (Nat.lt_of_lt_of_le hj o.1) fun hb=>by have:=own j hb;omega,o.2 j hj]⟩
theorem BX.fm {h0 h h':H} {p w s rw:Nat} {ow ow':Nat->Nat} {ro ro':Nat->Prop} {st st':St} {i i':Nat} (x:BX h0 h p w s rw ow ro st i) (b:BB h' p w s rw ow' ro' (fun j=>j<h0.nx) st' st') (f:Fm h h' ow ro ow' ro') (so:StOk st' i'):BX h0 h' p w s rw ow' ro' st' i':=by
 refine ⟨b,so,old_fm x.old f x.own,fun j hj=>?_,x.lp⟩
 rcases Nat.lt_or_ge j h.nx with h1 | h1
 ·rw [f.tag j h1,f.rtag j h1] at hj
  exact x.own j hj
 ·exact Nat.le_trans x.old.1 h1
def st0:St:=⟨[],0,Tb.zero,none⟩
theorem atS_nil (fd:Int):atS [] fd=none:=jf2 fun n k=>by rintro ⟨x,h,_⟩;simp at h
theorem st0_ok:StOk st0 0 where
 K:=⟨⟨fun n k n' k' fd h=>(by obtain ⟨x,hx,_⟩:=h;simp [st0] at hx),fun x hx=>(by simp [st0] at hx),by simp [st0],fun x hx=>(by simp [st0] at hx)⟩,fun i j x y p q m hx=>by simp [st0] at hx⟩
 nt := .inl rfl
 now:=⟨Int.le_refl _,by show (0:Int)<=_;omega⟩
 tb:=fun k=>⟨Int.le_refl _,Int.le_refl _⟩
theorem Ops.build {call:Call} {fuel base:Nat} {K:List Fr} {e:Env} {h:H} {Q:Post} {ix:Nat} {dst:Option Nat} {ops:List Ins} {keep:List Nat} {at_:Option Nat} {zero l:List V} {parts:List (Nat × Nat × Opd)} {ps:List (Nat × Nat × V)}
  (he:jbO e parts=some ps) (hf:jbs zero ps=some l) (k:Ops call fuel base ops keep K (layv e dst (.agg l)) h Q):Ops call fuel base (⟨ix,dst,.build zero parts,none,at_,[]⟩ :: ops) keep K e h Q :=
 Ops.pure rfl (by simp only [I.pure,he,hf]) k
section
variable {cl:Nat->Call} (hcl:Sem cl)
include hcl
def wc0 (s:Nat):List V:=(List.replicate 96 ([.bool false,.i 0,.i 0]:List V)).flatten++[.nils,.p s 0,.int .u64 0,.bool false,.i 0,.i 0]
def rc0:List V := .nils :: tail 0 (fun _=>false) (fun _=>0) (-1) 0
omit hcl in
theorem wc0_eq (s:Nat):wc0 s=wc (fun i=>atS [] (i:Int)) .nils s 0 none:=by
 have e:(fun i:Nat=>atS [] (i:Int))=fun _=>none:=by funext i;exact atS_nil _
 rw [e]
 have:(List.replicate 96 ([.bool false,.i 0,.i 0]:List V)).flatten=jdQ fun _=>none:=by
  kernel_rfl
 unfold wc0 wc
 rw [this]
 rfl
omit hcl in
theorem fillW (s:Nat):jbs ((List.replicate 96 ([.bool false,.i 0,.i 0]:List V)).flatten++[.nils,.ptr none,.int .u64 0,.bool false,.i 0,.i 0]) [(289,1,.p s 0)]=some (wc0 s):=by kernel_rfl
omit hcl in
theorem fillR:jbs ([.nils,.int .u64 0]++List.replicate 32 (.bool false:V)++List.replicate 34 (.i 0:V)) [(66,1,.i (-1))]=some rc0:=by kernel_rfl
set_option maxRecDepth 100000 in
theorem nw_world {d:Nat} (hd:2<=d) (h:H):cl d (.fn F.world_New) [] h=some (.p (h.nx+1) 0,(h.new Tb.zero.obj).new (.cells (wc0 h.nx) false)):=by
 have hs:=sp_new hcl (d:=d-1) om h
 refine jao (at_ hcl om rfl rfl rfl ?_)
 refine Run.seq (Run.region0 (Ops.mv rfl (Ops.nil qkp (End.seq (Run.seq (Run.region0 (Ops.callf rfl hs (Ops.build rfl (fillW h.nx) (Ops.make rfl rfl ?_)))))))))
 refine qo1 ?_
 exact ⟨rfl,rfl⟩
set_option maxRecDepth 100000 in
theorem nw_ref {d:Nat} (hd:1<=d) (h:H):cl d (.fn F.jeQ) [] h=some (.p h.nx 0,h.new (.cells rc0 false)):=by
 refine jao (at_ hcl om rfl rfl rfl ?_)
 refine Run.seq (Run.region0 (Ops.mv rfl (Ops.nil qkp (End.seq (Run.seq (Run.region0 (Ops.build rfl fillR (Ops.make rfl rfl ?_))))))))
 refine qo1 ?_
 exact ⟨rfl,rfl⟩
theorem nw_fresh {d:Nat} (hd:3<=d) (h:H) (hf : ∀ j,h.nx<=j->h.get j=none) : ∃ p w s rw ow ro h',cl d (.fn F.jec) [] h=some (.p p 0,h')/\BX h h' p w s rw ow ro st0 0:=by
 have e1:=nw_world hcl (d:=d-1) om h
 have e2:=nw_ref hcl (d:=d-1) om ((h.new Tb.zero.obj).new (.cells (wc0 h.nx) false))
 have x1:((h.new Tb.zero.obj).new (.cells (wc0 h.nx) false)).nx=h.nx+2:=rfl
 rw [x1] at e2
 have o4:Old h ((((h.new Tb.zero.obj).new (.cells (wc0 h.nx) false)).new (.cells rc0 false)).new (.cells [.p (h.nx+1) 0,.p (h.nx+2) 0] false)):=(Old.refl h).new.new.new.new
 refine ⟨h.nx+3,h.nx+1,h.nx,h.nx+2,fun j=>if j=h.nx then 3 else if j=h.nx+1 then 1 else 0,fun j=>j=h.nx+2,(((h.new Tb.zero.obj).new (.cells (wc0 h.nx) false)).new (.cells rc0 false)).new (.cells [.p (h.nx+1) 0,.p (h.nx+2) 0] false),jao (at_ hcl om rfl rfl rfl ?_),⟨⟨?_,?_,?_,?_,?_,?_,?_⟩,st0_ok,o4,?_,?_⟩⟩
 ·refine qm1 ?_
  exact ⟨rfl,rfl⟩
 ·refine ⟨[],⟨⟨⟨.nils,?_,Row.nil _ _ _,fun z hz=>by cases hz⟩,?_,?_,?_,?_,?_,fun j hj=>?_,fun n t ht=>by simp at ht⟩,fun n k fd hat=>?_⟩,rfl⟩
  ·have e:=wc0_eq h.nx
   show _=some (Obj.cells (wc (fun i=>atS [] (i:Int)) .nils h.nx 0 none) false)
   rw [<- e]
   exact qgt
  ·exact qgt
  ·show (if h.nx+1=h.nx then 3 else if h.nx+1=h.nx+1 then 1 else 0)=1
   rw [if_neg om,if_pos rfl]
  ·show (if h.nx=h.nx then 3 else if h.nx=h.nx+1 then 1 else 0)=3
   rw [if_pos rfl]
  ·simp<;>omega
  ·simp<;>omega
  ·have hj:h.nx+4<=j:=hj
   show (if j=h.nx then 3 else if j=h.nx+1 then 1 else 0)=0
   rw [if_neg om,if_neg om]
  ·obtain ⟨x,hx,_⟩:=hat;simp at hx
 ·refine ⟨[],⟨⟨h.nx+3,fun e=>absurd rfl e,fun g gn gk=>⟨?_,?_,by omega,fun e=>absurd rfl e,fun _=>?_,fun r hr=>by cases hr⟩⟩,fun j hj=>?_,rfl,fun j hj hd=>?_⟩,rfl⟩
  ·rw [gn];simp
  ·rw [gn];simp
  ·rw [gk (h.nx+2) (by simp) (.inl rfl)]
   show _=some (Obj.cells rc0 false)
   exact qgt
  ·rcases hj with rfl | hj
   ·simp
   ·simp<;>omega
  ·have hj:j=h.nx+2:=hj
   have hd:j<h.nx:=hd
   omega
 ·exact qgt
 ·simp
 ·intro j hj
  have hj:j=h.nx+2\/j<h.nx:=hj
  show (if j=h.nx then 3 else if j=h.nx+1 then 1 else 0)=0
  rw [if_neg om,if_neg om]
 ·show (if h.nx+3=h.nx then 3 else if h.nx+3=h.nx+1 then 1 else 0)=0
  rw [if_neg om,if_neg om]
 ·intro hj
  have hj:h.nx+3=h.nx+2\/h.nx+3<h.nx:=hj
  omega
 ·intro j hj
  rcases hj with hj | hj
  ·have hj:(if j=h.nx then 3 else if j=h.nx+1 then 1 else 0)≠0:=hj
   by_cases h1:j=h.nx
   ·omega
   ·rw [if_neg h1] at hj
    by_cases h2:j=h.nx+1
    ·omega
    ·rw [if_neg h2] at hj;exact absurd rfl hj
  ·have hj:j=h.nx+2:=hj
   omega
 ·omega
end
end Am.Sigs
namespace Am
open Go
def jdd (k:IntKind) (_:H) (n:Int) (vs:List V):Prop:=vs=[.int k n]/\k.min<=n/\n<=k.max
def repBool (_:H) (b:Bool) (vs:List V):Prop:=vs=[.bool b]
def repStr (_:H) (s:List UInt8) (vs:List V):Prop:=vs=[.str s]/\s.length<=2 ^ 63
def jlA (_:H) (_:Unit) (vs:List V):Prop:=vs=[]
def jcM {α β : Type} (a:H -> α -> List V->Prop) (b:H -> β -> List V->Prop) (h:H) (x : α × β) (vs:List V):Prop := ∃ u w,vs=u++w/\a h x.1 u/\b h x.2 w
def jbz {α : Type} (rep:H -> α -> List V->Prop) (h:H):List α -> List V->Prop
 | [],vs=>vs=[]
 | x :: l,vs=>∃ u w,vs=u++w/\rep h x u/\jbz rep h l w
theorem jbz.length {α : Type} {rep:H -> α -> List V->Prop} {h:H} {sz:Nat} (hl : ∀ {x vs},rep h x vs->vs.length=sz) : ∀ {l:List α} {vs:List V},jbz rep h l vs->vs.length=l.length*sz
 | [],_,e=>by rw [show _=[] from e];simp
 | x :: l,_,⟨u,w,e,h1,h2⟩=>by rw [e,List.length_append,hl h1,jbz.length hl h2];simp [Nat.add_mul];omega
theorem jbz.mono {α : Type} {rep rep':H -> α -> List V->Prop} {h h':H} (hk : ∀ {x vs},rep h x vs->rep' h' x vs) : ∀ {l:List α} {vs:List V},jbz rep h l vs->jbz rep' h' l vs
 | [],_,e=>e
 | _ :: _,_,⟨u,w,e,h1,h2⟩=>⟨u,w,e,hk h1,jbz.mono hk h2⟩
theorem jbz.snoc {α : Type} {rep:H -> α -> List V->Prop} {h:H} : ∀ {l:List α} {vs ws:List V} {x : α},jbz rep h l vs->rep h x ws->jbz rep h (l++[x]) (vs++ws)
 | [],_,ws,x,e,h1=>by rw [show _=[] from e];exact ⟨ws,[],by simp,h1,rfl⟩
 | _ :: _,_,ws,x,⟨u,w,e,h2,h3⟩,h1=>⟨u,w++ws,by rw [e,List.append_assoc],h2,jbz.snoc h3 h1⟩
theorem jbz.get {α : Type} {rep:H -> α -> List V->Prop} {h:H} {sz:Nat} (hl : ∀ {x vs},rep h x vs->vs.length=sz) : ∀ {l:List α} {vs:List V} {i:Nat} {x : α},jbz rep h l vs->l[i]?=some x->rep h x ((vs.drop (i*sz)).take sz)
 | [],_,i,x,_,hi=>by simp at hi
 | y :: l,_,0,x,⟨u,w,e,h1,h2⟩,hi=>by
  simp at hi;subst hi;subst e
  rw [Nat.zero_mul,List.drop_zero,List.take_append_of_le_length (by rw [hl h1];exact Nat.le_refl _),List.take_of_length_le (by rw [hl h1];exact Nat.le_refl _)];exact h1
 | y :: l,_,i+1,x,⟨u,w,e,h1,h2⟩,hi=>by
  subst e
  have:(i+1)*sz=u.length+i*sz:=by rw [hl h1,Nat.add_mul];omega
  rw [this,<- List.drop_drop,List.drop_left]
  exact jbz.get hl h2 (by simpa using hi)
def jbI {α : Type} (B:Nat) (a:H -> α -> List V->Prop) (h:H) (l:List α) (vs:List V):Prop :=
 ∃ (ad:Option (Nat × Nat)) (c:Nat),vs=[.slice ad l.length (.fix c)]/\(l.length<=B->l≠[] -> ∃ b cs,ad=some (b,0)/\b<h.nx/\h.get b=some (.cells cs true)/\jbz a h l cs)/\l.length<=c/\(ad=none->c=0/\l=[])
end Am
namespace Am.Sigs
open Am Go
def jkv (n:Int):UInt8:=UInt8.ofNat n.toNat
theorem byteI_V {n:Int} (h1:0<=n) (h2:n<=255):jf1 (jkv n) = .int .u8 n:=by
 have:n.toNat<256:=by omega
 simp only [jf1,jkv,UInt8.toNat_ofNat',Nat.mod_eq_of_lt this]
 congr 1;omega
theorem jj8 {h:H} : ∀ {l:List Int} {cs:List V},jbz (jdd .u8) h l cs->cs=bts (l.map jkv)
 | [],_,e=>e
 | x :: l,_,⟨u,w,e,h1,h2⟩=>by
  obtain ⟨rfl,h3⟩:=h1
  rw [e,jj8 h2,<- byteI_V h3.1 h3.2];rfl
theorem jjh {h:H} {l:List Int} {u:V} {B:Nat} (r:jbI B (jdd .u8) h l [u]) : ∃ a c,u = .slice a l.length (.fix c)/\(l.length<=B->BytesAt h a (.fix c) (l.map jkv)):=by
 obtain ⟨a,c,e,h1,h2,h3⟩:=r
 cases e
 refine ⟨a,c,rfl,fun hB=>⟨fun e=>?_,by show (l.map jkv).length<=c;simpa using h2,fun hn=>?_⟩⟩
 ·obtain ⟨rfl,rfl⟩:=h3 e;exact ⟨rfl,rfl⟩
 ·obtain ⟨b,cs,q1,q2,q3,q4⟩:=h1 hB (by rintro rfl;exact hn rfl)
  refine ⟨b,0,cs,true,q1,q2,q3,fun i x hi=>?_⟩
  rw [jj8 q4,Nat.zero_add];exact jjj hi
theorem BytesAt.keep {h h':H} {a:Option (Nat × Nat)} {c:Cap} {l:List UInt8} (t:BytesAt h a c l) (hx:h.nx<=h'.nx) (hk : ∀ j o,j<h.nx->h.get j=some o->h'.get j=some o):BytesAt h' a c l :=
 ⟨t.none_,t.fits,fun hn=>by
  obtain ⟨b,o,cs,ro,q1,q2,q3,q4⟩:=t.at_ hn
  exact ⟨b,o,cs,ro,q1,by omega,hk _ _ q2 q3,q4⟩⟩
theorem BytesAt.lt {h:H} {a:Option (Nat × Nat)} {c:Cap} {l:List UInt8} (t:BytesAt h a c l) {N:Nat} (hN:h.nx<=N) {z o:Nat} (ha:a=some (z,o)) (hl:l≠[]):z<N:=by
 obtain ⟨b,o',cs,ro,q1,q2,_⟩:=t.at_ hl
 rw [q1] at ha;cases ha;omega
end Am.Sigs
namespace Am.Sigs
open Am Go
structure OpX where
 k:Int
 a:Int
 n:Int
 t:Int
 dv:V
 D:List UInt8
abbrev OpX.V (x:OpX):List V:=opV x.k x.a x.n x.t x.dv
structure OpOk (h:H) (x:OpX):Prop where
 dv : ∃ a c,x.dv = .slice a x.D.length c/\(x.D.length<=300->BytesAt h a c x.D)
 t0:0<=x.t
 t1:x.t<=18446744073709551615
theorem OpOk.keep {h h':H} {x:OpX} (o:OpOk h x) (hx:h.nx<=h'.nx) (hk : ∀ j o,j<h.nx->h.get j=some o->h'.get j=some o):OpOk h' x:=by
 obtain ⟨⟨a,c,e,g⟩,t0,t1⟩:=o
 exact ⟨⟨a,c,e,fun hl=>(g hl).keep hx hk⟩,t0,t1⟩
theorem OpOk.dat {h:H} {x:OpX} (o:OpOk h x) (hl:x.D.length<=300):Dat h (fun j=>j<h.nx) x.dv x.D:=by
 obtain ⟨⟨a,c,e,g⟩,_,_⟩:=o
 refine ⟨⟨a,c,e,g hl⟩,fun hn z hz=>?_,hl⟩
 obtain ⟨b,o,cs,ro,q1,q2,_⟩:=(g hl).at_ hn
 rw [e,q1] at hz
 cases hz;exact q2
def jmS (h:H) (lv:V) (L:List OpX):Prop := ∃ ad c,lv = .slice ad L.length c/\(L.length<=200->(∀ x∈L,OpOk h x)/\(L≠[] -> ∃ b cs ro,ad=some (b,0)/\b<h.nx/\h.get b=some (.cells cs ro)/\cs.length=L.length*5 /\ ∀ (i:Nat) (x:OpX),L[i]?=some x->(cs.drop (i*5)).take 5=x.V))
theorem jmS.keep {h h':H} {lv:V} {L:List OpX} (o:jmS h lv L) (hx:h.nx<=h'.nx) (hk : ∀ j o,j<h.nx->h.get j=some o->h'.get j=some o):jmS h' lv L:=by
 obtain ⟨ad,c,e,g⟩:=o
 refine ⟨ad,c,e,fun hl=>⟨fun x hx'=>((g hl).1 x hx').keep hx hk,fun hn=>?_⟩⟩
 obtain ⟨b,cs,ro,q1,q2,q3,q4⟩:=(g hl).2 hn
 exact ⟨b,cs,ro,q1,by omega,hk _ _ q2 q3,q4⟩
def fewL (L:List OpX):Prop:=L.length<=200 /\ ∀ x∈L,x.D.length<=300
theorem jos {α : Type} {l:List α} {i:Nat} (h:i<l.length) : ∃ x,l[i]?=some x:=⟨_,List.getElem?_eq_getElem h⟩
section
variable {cl:Nat->Call} (hcl:Sem cl)
include hcl
theorem gr_ok {d:Nat} {h:H} {lv:V} {L:List OpX} (hd:1<=d) (hL:jmS h lv L) :
  ∃ v,cl d (.fn F.jc3) [lv] h=some (v,h)/\(v = .i 1\/(v = .i 0/\fewL L)):=by
 obtain ⟨ad,c,rfl,hin⟩:=hL
 suffices ∃ v h',cl d (.fn F.jc3) [.slice ad L.length c] h=some (v,h')/\(h'=h/\(v = .i 1\/(v = .i 0/\fewL L))) by
  obtain ⟨v,h',q1,rfl,q3⟩:=this
  exact ⟨v,q1,q3⟩
 refine at_ hcl om rfl rfl rfl ?_
 by_cases h1:200<(L.length:Int)
 ·refine qx1 ?_
  exact ⟨rfl,.inl rfl⟩
 obtain ⟨hok,hel⟩:=hin om
 refine qx1 ?_
 refine Run.loop (fun m e h'=>∃ i:Nat,m=L.length-i/\i<=L.length/\e=[(0,.slice ad L.length c),(8,.i (L.length:Int)),(9,.i (i:Int))]/\h'=h /\ ∀ j x,j<i->L[j]?=some x->x.D.length<=300) (k:=L.length) (by show _<100000;omega) ⟨0,rfl,by omega,rfl,rfl,fun j x hj=>by omega⟩ ?_
 rintro _ _ _ ⟨i,rfl,hi,rfl,rfl,hj⟩ n' ih
 by_cases hlt:(i:Int)<L.length
 case neg=>
  have hf:fewL L:=⟨by omega,fun x hx=>by
   obtain ⟨j,hjl,e⟩:=List.getElem_of_mem hx
   exact hj j x om (by rw [List.getElem?_eq_getElem hjl,e])⟩
  clear ih hel hok hj
  refine qx1 ?_
  exact ⟨rfl,.inr ⟨rfl,hf⟩⟩
 obtain ⟨x,hx⟩:=jos (l:=L) (i:=i) om
 obtain ⟨b,cs,ro,rfl,_,hb,hcl',hc⟩:=hel (by rintro rfl;simp at hx)
 obtain ⟨⟨da,dc,edv,_⟩,_,_⟩:=hok x (List.mem_of_getElem? hx)
 have h5:=hc i x hx
 have hc':cs[0+(i:Int).toNat*5+4]?=some (.slice da x.D.length dc):=by
  have:((cs.drop (i*5)).take 5)[4]?=some x.dv:=by rw [h5];rfl
  rw [List.getElem?_take,if_pos om,List.getElem?_drop] at this
  rw [show 0+(i:Int).toNat*5+4=i*5+4 by omega,this,edv]
 clear hel hok hc h5
 by_cases hd3:300<(x.D.length:Int)
 ·clear ih hj
  refine qx1 ?_
  exact ⟨rfl,.inl rfl⟩
 ·have hi1:(i:Int)+1=((i+1:Nat):Int):=by omega
  refine qx1 ?_
  rw [hi1]
  refine ih (L.length-(i+1)) om _ _ ⟨i+1,rfl,by omega,rfl,rfl,fun j y hj' hy=>?_⟩
  by_cases e:j=i
  ·subst e
   rw [hx] at hy;cases hy
   omega
  ·exact hj j y om hy
theorem bx_do {d i p w s rw:Nat} {h0 h:H} {ow:Nat->Nat} {ro:Nat->Prop} {st:St} {x:OpX} (hd:16<=d) (b:BX h0 h p w s rw ow ro st i) (hi:i<=200) (hx:OpOk h0 x) (hl:x.D.length<=300) :
  ∃ h' ow' ro',cl d (.fn F.jb1) [.p p 0,.agg x.V] h=some (.bool true,h')/\BX h0 h' p w s rw ow' ro' (doS x.k x.a x.n x.t x.D st) (i+1)/\Fm h h' ow ro ow' ro':=by
 have hD:Dat h (fun j=>j<h0.nx) x.dv x.D:=by
  have:=hx.dat hl
  exact ⟨this.v.keep2 b.old.1 fun hn z hz=>b.old.2 z (this.z hn z hz),this.z,hl⟩
 obtain ⟨h',ow',ro',e,b',f⟩:=do_ok hcl (k:=x.k) (a:=x.a) (n:=x.n) (t:=x.t) hd b.b b.so hi hD hx.t0 hx.t1
 exact ⟨h',ow',ro',e,b.fm b' f (doS_ok b.so hx.t0 hx.t1),f⟩
theorem bx_ready {d i p w s rw:Nat} {h0 h:H} {ow:Nat->Nat} {ro:Nat->Prop} {st:St} {fd:Int} (hd:3<=d) (b:BX h0 h p w s rw ow ro st i) :
  ∃ h' ro',cl d (.fn F.ja8) [.p rw 0,.i fd] h=some (.agg (rdyS st.ws fd).cells,h')/\BX h0 h' p w s rw ow ro' st i/\Fm h h' ow ro ow ro' /\ ∀ j o,j<h.nx->h.get j=some o->h'.get j=some o:=by
 obtain ⟨v,h',e,b',f,cr,rfl,hk⟩:=b.b.rcc hcl (d:=d) (f:=F.ja8) (args:=[.p rw 0,.i fd]) (r':=st)
  (P:=fun g v=>v = .agg (rdyS st.ws fd).cells/\(h.nx<=g.nx /\ ∀ j o,j<h.nx->ro j\/j<h0.nx->h.get j=some o->g.get j=some o))
  (fun g g' v m hp=>⟨hp.1,by rw [m.nx];exact hp.2.1,fun j o hj ho hg=>m.get j o (Nat.lt_of_lt_of_le hj hp.2.1) (hp.2.2 j o hj ho hg)⟩) (fun g q l ga gn hq wR hl=>by
  have oR:WsOk (l.map RX.x):=by rw [hl];exact b.so.K.ok
  obtain ⟨g',k1,k2⟩:=rq_Ready hcl (d:=d) (fd:=fd) hd wR oR
  rw [hl,jiB] at k1
  have ok2:=Old.ofCh k2
  exact ⟨_,q,l,g',k1,wR.old ok2,hl,k2.weaken (fun _ _ h=>h.elim),.inl rfl,rfl,by rw [<- gn];exact ok2.1,fun j o hj ho hg=>by rw [ok2.2 j om,ga j hj ho,hg]⟩)
 refine ⟨h',_,e,b.fm b' f b.so,f,fun j o hj hg=>?_⟩
 by_cases hr:ro j\/j<h0.nx
 ·exact hk.2 j o hj hr hg
 ·rw [cr.get j hj fun e=>hr (.inl e),hg]
end
end Am.Sigs
namespace Am.Sigs
open Am Go
def VP (h:H) (v:V) (l:List (Int × Int)):Prop := ∃ a c,v = .slice a l.length c/\(l≠[] -> ∃ b o cs ro,a=some (b,o)/\b<h.nx/\h.get b=some (.cells cs ro)/\o+l.length*2<=cs.length /\ ∀ (i:Nat) (p:Int × Int),l[i]?=some p->(cs.drop (o+i*2)).take 2=[.i p.1,.i p.2])
theorem VP.keep {h h':H} {v:V} {l:List (Int × Int)} (a:VP h v l) (o:Old h h'):VP h' v l:=by
 obtain ⟨a,c,rfl,g⟩:=a
 refine ⟨a,c,rfl,fun hl=>?_⟩
 obtain ⟨b,o',cs,ro,rfl,h1,h2,h3⟩:=g hl
 exact ⟨b,o',cs,ro,rfl,Nat.lt_of_lt_of_le h1 o.1,by rw [o.2 _ h1,h2],h3⟩
theorem VP.get {h:H} {a:Option (Nat × Nat)} {c:Cap} {l:List (Int × Int)} (v:VP h (.slice a l.length c) l) {i:Nat} {p:Int × Int} (hi:l[i]?=some p) :
  ∃ b o cs ro,a=some (b,o)/\b<h.nx/\h.get b=some (.cells cs ro)/\o+i*2+2<=cs.length/\(cs.drop (o+i*2)).take 2=[.i p.1,.i p.2]:=by
 obtain ⟨a',c',e,g⟩:=v
 cases e
 have hl:l≠[]:=by rintro rfl;simp at hi
 have hlt:i<l.length:=by
  rcases Nat.lt_or_ge i l.length with h | h
  ·exact h
  ·rw [List.getElem?_eq_none h] at hi;cases hi
 obtain ⟨b,o,cs,ro,rfl,h1,h2,h3,h4⟩:=g hl
 exact ⟨b,o,cs,ro,rfl,h1,h2,by omega,h4 i p hi⟩
def jmE (l:List (Int × Int)):Prop := ∀ p∈l,(-9223372036854775808<=p.1/\p.1<=9223372036854775807)/\(-9223372036854775808<=p.2/\p.2<=9223372036854775807)
def mayP (l:List (Int × Int)):Prop:=l.length<=96 /\ ∀ p∈l,jhm p.2
instance (l:List (Int × Int)):Decidable (mayP l):=inferInstanceAs (Decidable (_/\_))
section
variable {cl:Nat->Call} (hcl:Sem cl) {h:H} {w s:Nat} {ow:Nat->Nat} {ws:Ws} {now:Int} {tb:Tb} {no:Option (Nat × Nat)}
include hcl
theorem job {d:Nat} {v:V} {l:List (Int × Int)} (hd:1<=d) (hv:VP h v l) (hf:jmE l) (hl:l.length<=100000) :
  ∃ h',cl d (.fn F.pol_may) [.p w 0,v] h=some (.i (if mayP l then 0 else 2),h')/\Old h h':=by
 obtain ⟨a,c,rfl,_⟩:=id hv
 refine jak (at_ hcl om rfl rfl rfl ?_)
 by_cases h96:96<l.length
 ·have hn : ¬ mayP l:=fun e=>by have:=e.1;omega
  have h96':(96:Int)<(l.length:Int):=by omega
  rw [if_neg hn]
  clear hn hf
  refine qx1 ?_
  exact ⟨rfl,Old.refl _⟩
 have h96' : ¬ (96:Int)<(l.length:Int):=by omega
 refine qx1 ?_
 refine Run.loop (fun m e g=>∃ i:Nat,m=l.length-i/\i<=l.length/\e=[(12,.slice a l.length c),(13,.i (l.length:Int)),(14,.i (i:Int))]/\Old h g /\ ∀ j p,j<i->l[j]?=some p->jhm p.2)
  (k:=l.length) (by show _<100000;omega) ⟨0,rfl,by omega,rfl,Old.refl _,fun j p hj=>by omega⟩ ?_
 rintro _ _ g ⟨i,rfl,hi,rfl,og,hall⟩ n2 ih
 by_cases hlt:(i:Int)<l.length
 case neg=>
  have hm:mayP l:=⟨by omega,fun p hp=>by
   obtain ⟨j,hj,e⟩:=List.getElem_of_mem hp
   exact hall j p om (by rw [List.getElem?_eq_getElem hj,e])⟩
  rw [if_pos hm]
  clear ih hall hf hm
  refine qx1 ?_
  exact ⟨rfl,og⟩
 have hp:=List.getElem?_eq_getElem (show i<l.length by omega)
 have hpm:=List.mem_of_getElem? hp
 generalize l[i]=p at hp hpm
 obtain ⟨b,o,cs,ro,rfl,hb,hcs,ho,hg⟩:=(hv.keep og).get hp
 have hfp:=hf p hpm
 have hg':(cs.drop (o+(i:Int).toNat*2)).take 2=[.i p.1,.i p.2]:=by rw [Int.toNat_natCast];exact hg
 have hi1:(i:Int)+1=((i+1:Nat):Int):=by omega
 by_cases hm:jhm p.2
 ·have hz:=(jlH hfp.2.1 hfp.2.2).2 hm
  clear hf
  refine qx1 ?_
  refine Ops.loadN rfl hcs om ?_
  rw [hg']
  repeat' (first|refine qmy ?_|refine zbf rfl (fun _=>?_) fun _=>?_|refine zbg rfl (fun _=>?_) fun _=>?_|refine zbh rfl (fun _=>?_) fun _=>?_|refine zbm rfl (fun _=>?_) fun _=>?_|refine zbn rfl (fun _=>?_) fun _=>?_)
  ·rename_i hx
   exact absurd hz hx
  rw [hi1]
  refine ih (l.length-(i+1)) om _ _ ⟨i+1,rfl,by omega,rfl,og.new.set og.1,fun j q hj hq=>?_⟩
  rcases Nat.lt_or_ge j i with h1 | h1
  ·exact hall j q h1 hq
  ·obtain rfl:j=i:=by omega
   rw [hp] at hq;cases hq;exact hm
 ·have hz : ¬ IntKind.i64.wrap (BitVec.ofInt 64 p.2 &&& ~~~(BitVec.ofInt 64 5)).toNat=0:=fun e=>hm ((jlH hfp.2.1 hfp.2.2).1 e)
  have hn : ¬ mayP l:=fun e=>hm (e.2 p hpm)
  rw [if_neg hn]
  clear hf hn ih hall
  refine qx1 ?_
  refine Ops.loadN rfl hcs om ?_
  rw [hg']
  refine qm1 ?_
  exact ⟨rfl,og.new.set og.1⟩
end
end Am.Sigs
namespace Am.Sigs
open Am Go
def jhC (n:Nat) (v:V) (h':H):Bool:=jn2 v&&(Nat.beq h'.nx n&&Nat.ble (ttop h'.t) n)
theorem jhB {cl:Nat->Call} (hcl:Sem cl) {f:Nat} {h0:H} {n n':Nat} (run:ran (jbA prog fuel 30 (.fn f) [] ⟨n,.lf⟩) (jhC n')=true) (hnx:h0.nx=n) (hwf : ∀ b,n<=b->h0.get b=none) (hn:n<=n') :
  ∃ h1,cl 30 (.fn f) [] h0=some (.bool true,h1)/\h1.nx=n'/\(∀ j,n'<=j->h1.get j=none) /\ ∀ j o,h0.get j=some o->h1.get j=some o:=by
 obtain ⟨v1,e1,ra,pa⟩:=ran_ex run
 unfold jhC at pa
 simp only [Bool.and_eq_true,Nat.beq_eq,Nat.ble_eq] at pa
 obtain ⟨p1,p2,p3⟩:=pa
 obtain rfl:=isTrue_eq p1
 have hX:Ext h0.get ⟨n,.lf⟩ h0:=by have:=ext_all (h:=h0) (by rw [hnx];exact hwf);rwa [hnx] at this
 obtain ⟨h1,qa,xa⟩:=same_in hcl ra hX
 refine ⟨h1,qa,by rw [xa.nx];exact p2,fun j hj=>?_,fun j o hj=>ext_kept xa hj⟩
 rw [xa.get,hwf j om,show e1.get j=none from jlb _ _ om];rfl
abbrev jm6:H->Int × Int × Int × Int × List Int × Unit->List V->Prop:=jcM (jdd .i64) (jcM (jdd .i64) (jcM (jdd .i64) (jcM (jdd .u64) (jcM (jbI 300 (jdd .u8)) jlA))))
theorem jkW {h:H} {x:Int × Int × Int × Int × List Int × Unit} {vs:List V} (r:jm6 h x vs) : ∃ u,vs=[.i x.1,.i x.2.1,.i x.2.2.1,.int .u64 x.2.2.2.1,u]/\jbI 300 (jdd .u8) h x.2.2.2.2.1 [u]/\0<=x.2.2.2.1/\x.2.2.2.1<=18446744073709551615:=by
 obtain ⟨_,_,rfl,⟨rfl,_⟩,_,_,rfl,⟨rfl,_⟩,_,_,rfl,⟨rfl,_⟩,_,_,rfl,⟨rfl,ht⟩,u,w,rfl,r5,hw⟩:=r
 obtain rfl:w=[]:=hw
 have ⟨ad,c,e,h1⟩:=r5
 subst e
 exact ⟨_,rfl,⟨ad,c,rfl,h1⟩,ht.1,ht.2⟩
theorem jnx {h:H} : ∀ {l:List (Int × Int × Int × Int × List Int × Unit)} {cs:List V},jbz jm6 h l cs -> ∃ L:List OpX,L.length=l.length/\cs=(L.map OpX.V).flatten /\ ∀ x∈L,OpOk h x
 | [],_,e=>⟨[],rfl,e,fun x hx=>by cases hx⟩
 | y :: l,_,⟨u,w,e,h1,h2⟩=>by
  obtain ⟨L,l1,l2,l3⟩:=jnx h2
  obtain ⟨v,e1,r,t0,t1⟩:=jkW h1
  obtain ⟨a,c,rfl,hB⟩:=jjh r
  refine ⟨⟨y.1,y.2.1,y.2.2.1,y.2.2.2.1,.slice a y.2.2.2.2.1.length (.fix c),y.2.2.2.2.1.map jkv⟩ :: L,by simp [l1],by rw [e,e1,l2];rfl,fun x hx=>?_⟩
  rcases List.mem_cons.1 hx with rfl | hx
  ·exact ⟨⟨a,.fix c,by simp,fun hl=>hB (by simpa using hl)⟩,t0,t1⟩
  ·exact l3 x hx
theorem jlK : ∀ L:List OpX,(L.map OpX.V).flatten.length=L.length*5
 | []=>rfl
 | x :: L=>by
  have:=jlK L
  have h5:(OpX.V x).length=5:=rfl
  show (OpX.V x++(L.map OpX.V).flatten).length=_
  rw [List.length_append,this,h5]
  simp;omega
theorem flat_get : ∀ {L:List OpX} {i:Nat} {x:OpX},L[i]?=some x->(((L.map OpX.V).flatten).drop (i*5)).take 5=x.V
 | [],i,x,h=>by simp at h
 | y :: L,0,x,h=>by simp at h;subst h;rfl
 | y :: L,i+1,x,h=>by
  rw [List.map_cons,List.flatten_cons,show (i+1)*5=(OpX.V y).length+i*5 by show _=5+_;omega,<- List.drop_drop,List.drop_left]
  exact flat_get (by simpa using h)
theorem jiO {h:H} {l:List (Int × Int × Int × Int × List Int × Unit)} {u:V} (r:jbI 200 jm6 h l [u]) : ∃ L:List OpX,L.length=l.length/\jmS h u L:=by
 obtain ⟨ad,c,e,h1,h2,h3⟩:=r
 cases e
 by_cases hl:l.length<=200
 ·by_cases hn:l=[]
  ·subst hn
   exact ⟨[],rfl,ad,.fix c,rfl,fun _=>⟨fun x hx=>(by cases hx),fun e=>absurd rfl e⟩⟩
  ·obtain ⟨b,cs,rfl,q1,q2,q3⟩:=h1 hl hn
   obtain ⟨L,l1,rfl,l3⟩:=jnx q3
   exact ⟨L,l1,_,.fix c,by rw [l1],fun _=>⟨l3,fun _=>⟨b,_,true,rfl,q1,q2,jlK L,fun i x hx=>flat_get hx⟩⟩⟩
 ·exact ⟨List.replicate l.length ⟨0,0,0,0,.nils,[]⟩,by simp,ad,.fix c,by simp,fun hl'=>absurd (by simpa using hl') hl⟩
abbrev jlP:H->Int × Int × Unit->List V->Prop:=jcM (jdd .i64) (jcM (jdd .i64) jlA)
theorem jnG {h:H} : ∀ {l:List (Int × Int × Unit)} {cs:List V},jbz jlP h l cs->cs=jaA (l.map fun x=>(x.1,x.2.1))/\jmE (l.map fun x=>(x.1,x.2.1))
 | [],_,e=>⟨e,fun p hp=>by cases hp⟩
 | y :: l,_,⟨u,w,e,h1,h2⟩=>by
  obtain ⟨l1,l2⟩:=jnG h2
  obtain ⟨_,_,rfl,⟨rfl,f1⟩,_,_,rfl,⟨rfl,f2⟩,hn⟩:=h1
  obtain rfl:_=[]:=hn
  refine ⟨by rw [e,l1];rfl,fun p hp=>?_⟩
  rcases List.mem_cons.1 hp with rfl | hp
  ·exact ⟨f1,f2⟩
  ·exact l2 p hp
theorem jnF {h:H} {B:Nat} {l:List (Int × Int × Unit)} {u:V} (r:jbI B jlP h l [u]) : ∃ (x:List (Int × Int)) (ad:Option (Nat × Nat)) (c:Nat),x.length=l.length/\u = .slice ad x.length (.fix c)/\x.length<=c /\
  (x.length<=B->jmE x/\(x≠[] -> ∃ b,ad=some (b,0)/\b<h.nx/\h.get b=some (.cells (jaA x) true))):=by
 obtain ⟨ad,c,e,h1,h2,h3⟩:=r
 cases e
 refine ⟨l.map fun x=>(x.1,x.2.1),ad,c,by simp,by simp,by simpa using h2,fun hl=>?_⟩
 by_cases hn:l=[]
 ·subst hn
  exact ⟨fun p hp=>(by cases hp),fun e=>absurd rfl e⟩
 ·obtain ⟨b,cs,rfl,q1,q2,q3⟩:=h1 (by simpa using hl) hn
  obtain ⟨rfl,hf⟩:=jnG q3
  exact ⟨hf,fun _=>⟨b,rfl,q1,q2⟩⟩
end Am.Sigs
namespace Am.Sigs
open Am Go
noncomputable def jlB (ws:Ws):Nat->List V
 | 0=>[]
 | n+1=>jlB ws n++(rdyS ws (n:Int)).cells
noncomputable def runS (L:List OpX) (st:St):St:=L.foldl (fun st x=>doS x.k x.a x.n x.t x.D st) st
theorem runS_take {L:List OpX} {i:Nat} {x:OpX} (hx:L[i]?=some x) (st:St):runS (L.take (i+1)) st=doS x.k x.a x.n x.t x.D (runS (L.take i) st):=by
 unfold runS
 rw [List.take_add_one,hx]
 simp
section
variable {cl:Nat->Call} (hcl:Sem cl)
include hcl
theorem jox {d f:Nat} {h:H} {lv:V} {L:List OpX} (hf:jdy prog.prims f=none) (hf2:jdy prog.fns f=some c20) (hd:17<=d) (hL:jmS h lv L) (hwf : ∀ j,h.nx<=j->h.get j=none) :
  ∃ v h',cl d (.fn f) [lv] h=some (v,h')/\(v = .tup [.ptr none,.nils,.bool false]/\h'=h \/
   fewL L /\ ∃ p w s rw ow ro ov,v = .tup [.p p 0,ov,.bool true]/\BX h h' p w s rw ow ro (runS L st0) L.length/\Row h.nx h' 7 ov 96 (jlB (runS L st0).ws 96) /\ ∀ q,ov.at?=some q->ow q=0 /\ ¬ ro q/\q≠p):=by
 obtain ⟨gv,eg,hg⟩:=gr_ok hcl (d:=d-1) om hL
 refine at_ hcl om hf hf2 rfl ?_
 rcases hg with rfl | ⟨rfl,hfew⟩
 ·refine qx1 ?_
  exact .inl ⟨rfl,rfl⟩
 obtain ⟨p,w,s,rw,ow,ro,h1,e1,b1⟩:=nw_fresh hcl (d:=d-1) om h hwf
 obtain ⟨ad,c,rfl,hin⟩:=hL
 obtain ⟨hok,hel⟩:=hin hfew.1
 have hfl:=hfew.1
 refine qx1 ?_
 refine Run.loop (fun m e g=>∃ (i:Nat) (ow:Nat->Nat) (ro:Nat->Prop),m=L.length-i/\i<=L.length/\e=[(0,.slice ad L.length c),(5,.p p 0),(6,.i (i:Int))]/\BX h g p w s rw ow ro (runS (L.take i) st0) i)
  (k:=L.length) (by show _<100000;omega) ⟨0,ow,ro,rfl,by omega,rfl,b1⟩ ?_
 clear b1 e1 ow ro h1
 rintro _ _ g ⟨i,ow,ro,rfl,hi,rfl,bx⟩ n2 ih
 by_cases hlt:(i:Int)<L.length
 case pos=>
  obtain ⟨x,hx⟩:=jos (l:=L) (i:=i) om
  have hxm:=List.mem_of_getElem? hx
  obtain ⟨b,cs,ro',rfl,lb,hb,hlen,hc⟩:=hel (by rintro rfl;simp at hx)
  have hbg:g.get b=some (.cells cs ro'):=by rw [bx.old.2 b lb,hb]
  have h5:(cs.drop (0+(i:Int).toNat*5)).take 5=x.V:=by rw [Nat.zero_add,Int.toNat_natCast];exact hc i x hx
  obtain ⟨g2,ow2,ro2,e2,bx2,_⟩:=bx_do hcl (d:=d-1) om bx om (hok x hxm) (hfew.2 x hxm)
  have hi1:(i:Int)+1=((i+1:Nat):Int):=by omega
  rw [<- runS_take hx] at bx2
  clear hok hel hfew bx hc
  refine qx1 ?_
  refine Ops.loadN rfl hbg om ?_
  rw [h5]
  refine qx1 ?_
  rw [hi1]
  exact ih (L.length-(i+1)) om _ _ ⟨i+1,ow2,ro2,rfl,by omega,rfl,bx2⟩
 obtain rfl:i=L.length:=by omega
 rw [List.take_length] at bx
 generalize runS L st0=st at bx ⊢
 clear ih hel hok
 have lp:=bx.lp
 refine qx1 ?_
 refine Run.loop (fun m e g=>∃ (i:Nat) (ow:Nat->Nat) (ro:Nat->Prop) (ov:V),m=96-i/\i<=96/\e=[(5,.p p 0),(8,ov),(9,.i (i:Int))]/\BX h g p w s rw ow ro st L.length/\Row h.nx g 7 ov i (jlB st.ws i) /\ ∀ q,ov.at?=some q->ow q=0 /\ ¬ ro q/\q≠p)
  (k:=96) (by show _<100000;omega) ⟨0,ow,ro,.nils,rfl,by omega,rfl,bx,Row.nil _ _ _,fun q hq=>by cases hq⟩ ?_
 clear bx ow ro
 rintro _ _ g ⟨i,ow,ro,ov,rfl,hi,rfl,bx,row,hown⟩ n2 ih
 by_cases hlt:i<96
 case neg=>
  obtain rfl:i=96:=by omega
  have hlt' : ¬ ((96:Nat):Int)<=95:=by omega
  clear ih
  refine qx1 ?_
  exact .inr ⟨hfew,p,w,s,rw,ow,ro,ov,rfl,bx,row,hown⟩
 have hlt':(i:Int)<=95:=by omega
 have hi1:(i:Int)+1=((i+1:Nat):Int):=by omega
 have hp:=bx.b.hp
 obtain ⟨g2,ro2,e2,bx2,f2,k2⟩:=bx_ready hcl (d:=d-1) (fd:=(i:Int)) om bx
 have row2:Row h.nx g2 7 ov i (jlB st.ws i):=by
  rcases row with r | ⟨q,h1,h2,e,h4,h5⟩
  ·exact .inl r
  ·exact .inr ⟨q,h1,Nat.lt_of_lt_of_le h2 f2.ch.nx,e,k2 _ _ h2 h4,h5⟩
 have hlt2 : ∀ q,ov.at?=some q->h.nx<=q/\q<g.nx:=fun q hq=>row.at_ge hq
 clear hfew row k2
 refine qx1 ?_
 refine Ops.push (N:=h.nx) (new:=(rdyS st.ws (i:Int)).cells) rfl rfl rfl rfl om rfl rfl row2 bx2.old.1 om om fun v' g3 row' hx' hz' hk'=>?_
 refine qx1 ?_
 rw [hi1]
 have b3:BB g3 p w s rw ow ro2 (fun j=>j<h.nx) st st:=bx2.b.off hx' fun j hj ho=>hk' j hj fun e=>by
  obtain ⟨q1,q2,q3⟩:=hown j e
  obtain ⟨q4,q5⟩:=hlt2 j e
  rcases ho with ho | ho | ho | ho
  ·exact ho q1
  ·exact q2 ((f2.rtag j q5).1 ho)
  ·have ho:j<h.nx:=ho
   omega
  ·exact q3 ho
 have old3:Old h g3:=⟨Nat.le_trans bx2.old.1 hx',fun j hj=>by rw [hk' j (Nat.lt_of_lt_of_le hj bx2.old.1) fun e=>by have:=hlt2 j e;omega,bx2.old.2 j hj]⟩
 refine ih (96-(i+1)) om _ _ ⟨i+1,ow,ro2,v',rfl,by omega,rfl,⟨b3,bx2.so,old3,bx2.own,bx2.lp⟩,row',fun q hq=>?_⟩
 have hq1:=hz' q hq
 exact ⟨bx2.b.W.top hq1,fun e=>by have:=bx2.b.ro_lt (.inl e);omega,fun e=>by have:=bx2.b.lp;omega⟩
end
end Am.Sigs
namespace Am.Sigs
open Am Go
section
variable {cl:Nat->Call} (hcl:Sem cl) {h:H} {w s:Nat} {ow:Nat->Nat} {ws:Ws} {now:Int} {tb:Tb} {no:Option (Nat × Nat)}
include hcl
theorem pl_is {d:Nat} {fd ev:Int} (hd:6<=d) (a:WSt h w s ow ws now tb no) (o:WsOk ws) (hm:jhm ev) :
  ∃ h',cl d (.fn F.pol_is) [.p w 0,.agg [.i fd,.i ev]] h=some (.i (jeR (rdyS ws fd) fd ev),h')/\Old h h':=by
 have o0:Old h (h.new (.cells [.i fd,.i ev] false)):=(Old.refl h).new
 have g0:(h.new (.cells [.i fd,.i ev] false)).get h.nx=some (.cells [.i fd,.i ev] false):=jad _
 have x0:(h.new (.cells [.i fd,.i ev] false)).nx=h.nx+1:=rfl
 obtain ⟨h1,e1,o1⟩:=jir hcl (d:=d-1) (fd:=fd) om (a.old o0) o
 rw [jiB] at e1
 generalize rdyS ws fd=r at e1 ⊢
 obtain ⟨op,inn,out,hup,err,rd,wr⟩:=r
 simp only [Rdy.cells] at e1
 have g1:h1.get h.nx=some (.cells [.i fd,.i ev] false):=by rw [o1.2 _ om,g0]
 have x1:=o1.1
 have oE : ∀ c:List V,Old h ((h1.new (.cells [.bool false,.bool false,.bool false,.bool false,.bool false,.int .u64 0,.int .u64 0] false)).set h1.nx (.cells c false)):=fun c=>(o0.trans o1).new.set om
 refine jak (at_ hcl om rfl rfl rfl ?_)
 clear a o
 by_cases hfd:fd<0
 ·have hp:jeR ⟨op,inn,out,hup,err,rd,wr⟩ fd ev=0:=if_pos hfd
  rw [hp]
  clear hm
  refine qm1 ?_
  exact ⟨rfl,oE _⟩
 cases op
 ·have hp:jeR ⟨false,inn,out,hup,err,rd,wr⟩ fd ev=32:=by unfold jeR;rw [if_neg hfd];rfl
  rw [hp]
  clear hm
  refine qm1 ?_
  exact ⟨rfl,oE _⟩
 have hp:jeR ⟨true,inn,out,hup,err,rd,wr⟩ fd ev=b2i hup 16+b2i (inn&&decide (ev=1\/ev=5)) 1+b2i (out&&decide (ev=4\/ev=5)) 4+b2i err 8:=by
  unfold jeR;rw [if_neg hfd];rfl
 rw [hp]
 clear hp
 cases hup<;>cases inn<;>cases out<;>cases err<;>rcases hm with rfl | rfl | rfl | rfl
 all_goals
  repeat' (first|refine qmy ?_|refine zbf rfl (fun _=>?_) fun _=>?_|refine zbg rfl (fun _=>?_) fun _=>?_|refine zbh rfl (fun _=>?_) fun _=>?_|refine zbm rfl (fun _=>?_) fun _=>?_|refine zbn rfl (fun _=>?_) fun _=>?_)
  exact ⟨rfl,oE _⟩
theorem jjQ {d L c2 c3:Nat} {v:V} {l:List (Int × Int)} (hd:8<=d) (o:WsOk ws) (hm : ∀ p∈l,jhm p.2) (hl:l.length<=1000) (I:Nat->H->Prop) (J:H->Prop)
  (hW : ∀ i g,I i g->WSt g w s ow ws now tb no/\VP g v l/\g.get c3=some (.cells [v] false)/\g.get c2=some (.cells [.p w 0] false)/\c2<g.nx)
  (hI : ∀ i g g',I i g->Old g g'->I i g')
  (hy : ∀ i g p,l[i]?=some p->I i g -> ∃ (b:Bool) (g':H),cl (d-1) (.yld L) [.i (jeR (rdyS ws p.1) p.1 p.2)] g=some (.bool b,g')/\(b=true->I (i+1) g')/\(b=false->J g'))
  (h0:I 0 h) : ∃ v' h',cl d (.fn F.je2) [.yld L,.p c3 0,.p c2 0] h=some (v',h')/\(I l.length h'\/J h'):=by
 obtain ⟨_,hv,hc3,_⟩:=hW _ _ h0
 obtain ⟨a,c,rfl,_⟩:=id hv
 refine at_ hcl om rfl rfl rfl ?_
 refine qx1 ?_
 refine Run.loop (fun m e g=>∃ i:Nat,m=l.length-i/\i<=l.length/\e=[(0,.yld L),(2,.p c2 0),(6,.slice a l.length c),(7,.i (l.length:Int)),(8,.i (i:Int))]/\I i g)
  (k:=l.length) (by show _<100000;omega) ⟨0,rfl,by omega,rfl,h0⟩ ?_
 clear hc3
 rintro _ _ g ⟨i,rfl,hi,rfl,hIi⟩ n2 ih
 by_cases hlt:(i:Int)<l.length
 case neg=>
  obtain rfl:i=l.length:=by omega
  clear ih hI hy hW hm
  refine qx1 ?_
  exact .inl hIi
 have hp:=List.getElem?_eq_getElem (show i<l.length by omega)
 have hpm:=List.mem_of_getElem? hp
 generalize l[i]=p at hp hpm
 obtain ⟨_,hv1,_⟩:=hW _ _ hIi
 obtain ⟨b,o',cs,ro,rfl,hb,hcs,ho,hg⟩:=hv1.get hp
 have hg':(cs.drop (o'+(i:Int).toNat*2)).take 2=[.i p.1,.i p.2]:=by rw [Int.toNat_natCast];exact hg
 have hi1:(i:Int)+1=((i+1:Nat):Int):=by omega
 have o1:Old g ((g.new (.cells [.i 0,.i 0] false)).set g.nx (.cells [.i p.1,.i p.2] false)):=(Old.refl g).new.set (Nat.le_refl _)
 have I1:=hI _ _ _ hIi o1
 obtain ⟨W1,_,_,hc2,lc2⟩:=hW _ _ I1
 obtain ⟨g2,e2,o2⟩:=pl_is hcl (d:=d-1) (fd:=p.1) (ev:=p.2) om W1 o (hm p hpm)
 obtain ⟨b',g',e3,q1,q2⟩:=hy i g2 p hp (hI _ _ _ I1 o2)
 clear hW hI hy hm
 refine qx1 ?_
 refine Ops.loadN rfl hcs om ?_
 rw [hg']
 cases b'
 ·refine qm1 ?_
  refine Ops.yield rfl rfl e3 ?_
  refine qm1 ?_
  exact .inr (q2 rfl)
 ·refine qm1 ?_
  refine Ops.yield rfl rfl e3 ?_
  refine qm1 ?_
  rw [hi1]
  exact ih (l.length-(i+1)) om _ _ ⟨i+1,rfl,by omega,rfl,q1 rfl⟩
end
end Am.Sigs
namespace Am.Sigs
open Am Go
noncomputable def polL (ws:Ws) (l:List (Int × Int)):List Int:=l.map fun p=>jeR (rdyS ws p.1) p.1 p.2
theorem jde (ws:Ws) (l:List (Int × Int)):(polL ws l).length=l.length:=by simp [polL]
def cntP:List Int->Int
 | []=>0
 | x :: l=>min x 1+cntP l
theorem jh2 (x:Int) : ∀ l,cntP (l++[x])=cntP l+min x 1
 | []=>by simp [cntP]
 | y :: l=>by rw [List.cons_append,cntP,jh2 x l,cntP];omega
theorem jjc {l:List Int} (h : ∀ x∈l,0<=x):0<=cntP l/\cntP l<=l.length:=by
 induction l with
 | nil=>simp [cntP]
 | cons x l ih=>
  have h1:=h x (by simp)
  have h2:=ih fun y hy=>h y (by simp [hy])
  rw [cntP,List.length_cons];omega
theorem jiI (ws:Ws) (l:List (Int × Int)) : ∀ x∈polL ws l,0<=x:=by
 intro x hx
 obtain ⟨p,_,rfl⟩:=List.mem_map.1 hx
 exact (jiK _ _ _).1
theorem jjM {ws:Ws} {l:List (Int × Int)} {i:Nat} {p:Int × Int} (hp:l[i]?=some p):polL ws (l.take (i+1))=polL ws (l.take i)++[jeR (rdyS ws p.1) p.1 p.2]:=by
 unfold polL
 rw [List.take_add_one,hp];simp
section
variable {cl:Nat->Call} (hcl:Sem cl) {h:H} {w s:Nat} {ow:Nat->Nat} {ws:Ws} {now:Int} {tb:Tb} {no:Option (Nat × Nat)}
include hcl
theorem jnu {d n:Nat} {a:Option (Nat × Nat)} {c:Cap} (hd:1<=d):cl d (.fn F.pol_told) [.p w 0,.slice a n c] h=some (.clo F.je2 [.p (h.nx+1) 0,.p h.nx 0],(h.new (.cells [.p w 0] false)).new (.cells [.slice a n c] false)):=by
 refine jao (at_ hcl om rfl rfl rfl ?_)
 refine qm1 ?_
 exact ⟨rfl,rfl⟩
theorem jiL {d:Nat} {v:V} {l:List (Int × Int)} (hd:10<=d) (a:WSt h w s ow ws now tb no) (o:WsOk ws) (hv:VP h v l) (hf:jmE l) (hl:l.length<=1000) :
  ∃ v' h',cl d (.fn F.jiH) [.p w 0,v] h=some (v',h')/\Old h h'/\((¬ mayP l/\v' = .tup [.nils,.i 0,.i 2])\/(mayP l /\ ∃ ov,v' = .tup [ov,.i (cntP (polL ws l)),.i 0]/\Row h.nx h' 1 ov l.length (ints (polL ws l)))):=by
 obtain ⟨h1,e1,o1⟩:=job hcl (d:=d-1) (w:=w) om hv hf om
 by_cases hm:mayP l
 case neg=>
  rw [if_neg hm] at e1
  refine at_ hcl om rfl rfl rfl ?_
  clear hf
  refine qx1 ?_
  exact ⟨o1,.inl ⟨hm,rfl⟩⟩
 rw [if_pos hm] at e1
 obtain ⟨av,cv,rfl,_⟩:=id hv
 refine at_ hcl om rfl rfl rfl ?_
 clear hf
 refine qm1 ?_
 refine Ops.callf rfl (jnu hcl (w:=w) om) ?_
 refine qx1 ?_
 have oH:Old h1 ((((h1.new (.cells [.nils] false)).new (.cells [.i 0] false)).set (h1.nx+1) (.cells [.i 0] false)).new (.cells [.p w 0] false)):=((Old.refl h1).new.new.set om).new
 have oH:Old h1 (((((h1.new (.cells [.nils] false)).new (.cells [.i 0] false)).set (h1.nx+1) (.cells [.i 0] false)).new (.cells [.p w 0] false)).new (.cells [.slice av l.length cv] false)):=oH.new
 have b0:(((((h1.new (.cells [.nils] false)).new (.cells [.i 0] false)).set (h1.nx+1) (.cells [.i 0] false)).new (.cells [.p w 0] false)).new (.cells [.slice av l.length cv] false)).get h1.nx=some (.cells [.nils] false):=qgt
 have b1:(((((h1.new (.cells [.nils] false)).new (.cells [.i 0] false)).set (h1.nx+1) (.cells [.i 0] false)).new (.cells [.p w 0] false)).new (.cells [.slice av l.length cv] false)).get (h1.nx+1)=some (.cells [.i 0] false):=qgt
 have b2:(((((h1.new (.cells [.nils] false)).new (.cells [.i 0] false)).set (h1.nx+1) (.cells [.i 0] false)).new (.cells [.p w 0] false)).new (.cells [.slice av l.length cv] false)).get (h1.nx+2)=some (.cells [.p w 0] false):=qgt
 have b3:(((((h1.new (.cells [.nils] false)).new (.cells [.i 0] false)).set (h1.nx+1) (.cells [.i 0] false)).new (.cells [.p w 0] false)).new (.cells [.slice av l.length cv] false)).get (h1.nx+3)=some (.cells [.slice av l.length cv] false):=qgt
 have x1:(((((h1.new (.cells [.nils] false)).new (.cells [.i 0] false)).set (h1.nx+1) (.cells [.i 0] false)).new (.cells [.p w 0] false)).new (.cells [.slice av l.length cv] false)).nx=h1.nx+4:=rfl
 change Run (cl (d-1)) fuel _ _ [(8,.p h1.nx 0),(9,.p (h1.nx+1) 0),(19,.clo F.je2 [.p (h1.nx+3) 0,.p (h1.nx+2) 0])] (((((h1.new (.cells [.nils] false)).new (.cells [.i 0] false)).set (h1.nx+1) (.cells [.i 0] false)).new (.cells [.p w 0] false)).new (.cells [.slice av l.length cv] false)) _
 generalize ((((h1.new (.cells [.nils] false)).new (.cells [.i 0] false)).set (h1.nx+1) (.cells [.i 0] false)).new (.cells [.p w 0] false)).new (.cells [.slice av l.length cv] false)=H1 at oH b0 b1 b2 b3 x1 ⊢
 have hx1:=o1.1
 refine Run.rangeFunc_lo rfl qkp fun LO hLO=>?_
 rw [x1]
 have oL:Old h1 (H1.new (LO .ready none)):=oH.new
 obtain ⟨v',h',hc,hIJ⟩:=jjQ hcl (d:=d-1) (L:=h1.nx+4) (c2:=h1.nx+2) (c3:=h1.nx+3) (h:=H1.new (LO .ready none)) (v := .slice av l.length cv) (l:=l) (w:=w) (s:=s) (ow:=ow) (ws:=ws) (now:=now) (tb:=tb) (no:=no) om o hm.2 hl
  (fun i g=>i<=l.length/\(∃ sv,g.get h1.nx=some (.cells [sv] false)/\Row (h1.nx+5) g 1 sv i (ints (polL ws (l.take i))))/\g.get (h1.nx+1)=some (.cells [.i (cntP (polL ws (l.take i)))] false)/\g.get (h1.nx+2)=some (.cells [.p w 0] false)/\g.get (h1.nx+3)=some (.cells [.slice av l.length cv] false)/\g.get (h1.nx+4)=some (LO .ready none)/\h1.nx+5<=g.nx/\Old h1 g)
  (fun _=>False)
  (fun i g ⟨_,_,_,p2,p3,_,p5,p6⟩=>⟨(a.old o1).old p6,(hv.keep o1).keep p6,p3,p2,by omega⟩)
  (by
   rintro i g g' ⟨p00,⟨sv,p0,pr⟩,p1,p2,p3,p4,p5,p6⟩ og
   exact ⟨p00,⟨sv,by rw [og.2 _ om,p0],pr.keep og.1 fun z hz=>og.2 z (pr.at_ge hz).2⟩,by rw [og.2 _ om,p1],by rw [og.2 _ om,p2],by rw [og.2 _ om,p3],by rw [og.2 _ om,p4],Nat.le_trans p5 og.1,p6.trans og⟩)
  (by
   rintro i g p hp ⟨p00,⟨sv,p0,pr⟩,p1,p2,p3,p4,p5,p6⟩
   have hlt:i<l.length:=by
    rcases Nat.lt_or_ge i l.length with h | h
    ·exact h
    ·rw [List.getElem?_eq_none h] at hp;cases hp
   have et:=jjM (ws:=ws) hp
   have hcn:=jjc (jiI ws (l.take i))
   rw [jde,List.length_take] at hcn
   have hx:=jiK (rdyS ws p.1) p.1 p.2
   rw [et]
   generalize polL ws (l.take i)=pl at p1 pr hcn ⊢
   generalize jeR (rdyS ws p.1) p.1 p.2=px at hx ⊢
   have ec:=jh2 px pl
   have p2x:g.get (h1.nx+2)=some (.cells [.p w 0] false):=p2
   refine ⟨true,?_⟩
   suffices q : ∃ v' g',cl (d-1-1) (.yld (h1.nx+4)) [.i px] g=some (v',g')/\(v' = .bool true/\(i+1<=l.length/\(∃ sv,g'.get h1.nx=some (.cells [sv] false)/\Row (h1.nx+5) g' 1 sv (i+1) (ints (pl++[px])))/\g'.get (h1.nx+1)=some (.cells [.i (cntP (pl++[px]))] false)/\g'.get (h1.nx+2)=some (.cells [.p w 0] false)/\g'.get (h1.nx+3)=some (.cells [.slice av l.length cv] false)/\g'.get (h1.nx+4)=some (LO .ready none)/\h1.nx+5<=g'.nx/\Old h1 g')) by
    obtain ⟨_,g',e,rfl,q⟩:=q
    exact ⟨g',e,fun _=>q,fun e=>by cases e⟩
   obtain ⟨cp,⟨asv,rfl⟩,_⟩:=pr.shape
   refine yl_ hcl om hLO p4 rfl ?_
   clear a hv hm o hp p2 et
   refine qx1 ?_
   refine End.nil ⟨rfl,p4,?_⟩
   have pr2:Row (h1.nx+5) (g.set (h1.nx+4) (LO .busy none)) 1 (.slice asv i cp) i (ints pl):=pr.keep (by simp) fun z hz=>by have:=pr.at_ge hz;exact jaa om
   refine qx1 ?_
   refine Ops.push (N:=h1.nx+5) (new:=[.i px]) rfl rfl rfl rfl om rfl rfl pr2 (by simpa using p5) om om fun v2 g2 row' hx' hz' hk'=>?_
   have hx':g.nx<=g2.nx:=by simpa using hx'
   have hk2 : ∀ j,j<h1.nx+5->g2.get j=(g.set (h1.nx+4) (LO .busy none)).get j:=fun j hj=>hk' j (by simp;omega) fun e=>by have:=pr2.at_ge e;omega
   have q0:g2.get h1.nx=some (.cells [.slice asv i cp] false):=by rw [hk2 _ om,jaa om,p0]
   have q1:g2.get (h1.nx+1)=some (.cells [.i (cntP pl)] false):=by rw [hk2 _ om,jaa om,p1]
   have hone:=row'.one
   refine Ops.store1 rfl rfl hone q0 Nat.zero_lt_one ?_
   refine qx1 ?_
   refine Ops.store1 (l:=[.i (cntP pl)]) rfl rfl rfl (by rw [jaa om,q1]) Nat.zero_lt_one ?_
   refine qx1 ?_
   refine End.nil ⟨⟨.busy,none,by rw [jaa om,jaa om,hk2 _ om,jab]⟩,rfl,by omega,⟨v2,?_,?_⟩,?_,?_,?_,jab _,by simp;omega,?_⟩
   ·rw [jaa om,jaa om];exact jab _
   ·have r2:Row (h1.nx+5) g2 1 v2 (i+1) (ints (pl++[px])):=by simpa [ints] using row'
    exact r2.keep (by simp) fun z hz=>by have:=hz' z hz;simp at this;rw [jaa om,jaa om,jaa om]
   ·rw [jaa om,ec];exact jab _
   ·rw [jaa om,jaa om,jaa om,hk2 _ om,jaa om,p2x]
   ·rw [jaa om,jaa om,jaa om,hk2 _ om,jaa om,p3]
   ·have p7:=p6.1
    exact ⟨by simp;omega,fun j hj=>by rw [jaa om,jaa om,jaa om,hk2 _ om,jaa om,p6.2 j hj]⟩)
  ⟨by omega,⟨.nils,by rw [jac om,b0],by simpa [polL] using Row.nil _ _ _⟩,by rw [jac om,b1];simp [polL,cntP],by rw [jac om,b2],by rw [jac om,b3],by rw [<- x1,jad],by simp [x1],oL⟩
 refine hIJ.elim ?_ fun hF=>hF.elim
 rintro ⟨p00,⟨sv,p0,pr⟩,p1,p2,p3,p4,p5,p6⟩
 rw [List.take_length] at p1 pr
 refine ⟨v',h',hc,.normal,p4,?_⟩
 have k0:(h'.kill (h1.nx+4)).get h1.nx=some (.cells [sv] false):=by rw [jaf om,p0]
 have k1:(h'.kill (h1.nx+4)).get (h1.nx+1)=some (.cells [.i (cntP (polL ws l))] false):=by rw [jaf om,p1]
 have o9:Old h (h'.kill (h1.nx+4)):=⟨by have:=p6.1;show h.nx<=h'.nx;omega,fun j hj=>by rw [jaf om,p6.2 j om,o1.2 j hj]⟩
 have r9:Row h.nx (h'.kill (h1.nx+4)) 1 sv l.length (ints (polL ws l)):=by
  rcases pr with r | ⟨q,q1,q2,e,q4,q5⟩
  ·exact .inl r
  ·exact .inr ⟨q,by omega,q2,e,by rw [jaf om,q4],q5⟩
 obtain ⟨cp,⟨asv,rfl⟩,_⟩:=pr.shape
 clear a hv o hLO
 refine qx1 ?_
 exact ⟨o9,.inr ⟨hm,_,rfl,r9⟩⟩
end
end Am.Sigs
namespace Am.Sigs
open Am Go
theorem jo3 {h:H} {x:List (Int × Int)} {ad:Option (Nat × Nat)} {c:Cap} (hx:x≠[] -> ∃ b ro,ad=some (b,0)/\b<h.nx/\h.get b=some (.cells (jaA x) ro)):VP h (.slice ad x.length c) x:=by
 refine ⟨ad,c,rfl,fun hn=>?_⟩
 obtain ⟨b,ro,rfl,h1,h2⟩:=hx hn
 exact ⟨b,0,_,ro,rfl,h1,h2,by rw [jfK];omega,fun i p hp=>by rw [Nat.zero_add];exact jfL hp⟩
section
variable {cl:Nat->Call} (hcl:Sem cl)
include hcl
end
end Am.Sigs
namespace Am.Sigs
open Am Go
theorem jjd : ∀ a b:List Int,cntP (a++b)=cntP a+cntP b
 | [],b=>by simp [cntP]
 | x :: a,b=>by rw [List.cons_append,cntP,jjd a b,cntP];omega
theorem cntP_take {l:List Int} (h : ∀ x∈l,0<=x) (n:Nat):cntP (l.take n)<=cntP l:=by
 have e:=jjd (l.take n) (l.drop n)
 rw [List.take_append_drop] at e
 have:=(jjc (l:=l.drop n) fun x hx=>h x (List.mem_of_mem_drop hx)).1
 omega
theorem jm3 (ws:Ws) (l:List (Int × Int)) (i:Nat):polL ws (l.take i)=(polL ws l).take i:=by
 unfold polL;rw [List.map_take]
section
variable {cl:Nat->Call} (hcl:Sem cl) {h:H} {w s:Nat} {ow:Nat->Nat} {ws:Ws} {now:Int} {tb:Tb} {no:Option (Nat × Nat)}
include hcl
theorem pl_holds {d:Nat} {v:V} {l:List (Int × Int)} (hd:10<=d) (a:WSt h w s ow ws now tb no) (o:WsOk ws) (hv:VP h v l) (hf:jmE l) (hl:l.length<=1000) :
  ∃ h',cl d (.fn F.jjL) [.p w 0,v] h=some (.bool (if mayP l then decide (0<cntP (polL ws l)) else true),h')/\Old h h':=by
 suffices q : ∃ v' h',cl d (.fn F.jjL) [.p w 0,v] h=some (v',h')/\(v' = .bool (if mayP l then decide (0<cntP (polL ws l)) else true)/\Old h h') by
  obtain ⟨_,h',e,rfl,q⟩:=q;exact ⟨h',e,q⟩
 obtain ⟨h1,e1,o1⟩:=job hcl (d:=d-1) (w:=w) om hv hf om
 by_cases hm:mayP l
 case neg=>
  rw [if_neg hm] at e1 ⊢
  refine at_ hcl om rfl rfl rfl ?_
  clear hf
  refine qx1 ?_
  exact ⟨rfl,o1⟩
 rw [if_pos hm] at e1 ⊢
 obtain ⟨av,cv,rfl,_⟩:=id hv
 refine at_ hcl om rfl rfl rfl ?_
 clear hf
 refine qm1 ?_
 refine Ops.callf rfl (jnu hcl (w:=w) om) ?_
 refine qx1 ?_
 have oH:Old h1 ((((h1.new (.cells [.bool false] false)).set h1.nx (.cells [.bool false] false)).new (.cells [.p w 0] false)).new (.cells [.slice av l.length cv] false)):=((Old.refl h1).new.set (Nat.le_refl _)).new.new
 have b0:((((h1.new (.cells [.bool false] false)).set h1.nx (.cells [.bool false] false)).new (.cells [.p w 0] false)).new (.cells [.slice av l.length cv] false)).get h1.nx=some (.cells [.bool false] false):=qgt
 have b2:((((h1.new (.cells [.bool false] false)).set h1.nx (.cells [.bool false] false)).new (.cells [.p w 0] false)).new (.cells [.slice av l.length cv] false)).get (h1.nx+1)=some (.cells [.p w 0] false):=qgt
 have b3:((((h1.new (.cells [.bool false] false)).set h1.nx (.cells [.bool false] false)).new (.cells [.p w 0] false)).new (.cells [.slice av l.length cv] false)).get (h1.nx+2)=some (.cells [.slice av l.length cv] false):=qgt
 have x1:((((h1.new (.cells [.bool false] false)).set h1.nx (.cells [.bool false] false)).new (.cells [.p w 0] false)).new (.cells [.slice av l.length cv] false)).nx=h1.nx+3:=rfl
 change Run (cl (d-1)) fuel _ _ [(5,.p h1.nx 0),(13,.clo F.je2 [.p (h1.nx+2) 0,.p (h1.nx+1) 0])] ((((h1.new (.cells [.bool false] false)).set h1.nx (.cells [.bool false] false)).new (.cells [.p w 0] false)).new (.cells [.slice av l.length cv] false)) _
 generalize (((h1.new (.cells [.bool false] false)).set h1.nx (.cells [.bool false] false)).new (.cells [.p w 0] false)).new (.cells [.slice av l.length cv] false)=H1 at oH b0 b2 b3 x1 ⊢
 have hx1:=o1.1
 refine Run.rangeFunc_lo rfl qkp fun LO hLO=>?_
 rw [x1]
 have oL:Old h1 (H1.new (LO .ready none)):=oH.new
 obtain ⟨v',h',hc,hIJ⟩:=jjQ hcl (d:=d-1) (L:=h1.nx+3) (c2:=h1.nx+1) (c3:=h1.nx+2) (h:=H1.new (LO .ready none)) (v := .slice av l.length cv) (l:=l) (w:=w) (s:=s) (ow:=ow) (ws:=ws) (now:=now) (tb:=tb) (no:=no) om o hm.2 hl
  (fun i g=>cntP (polL ws (l.take i))=0/\g.get h1.nx=some (.cells [.bool false] false)/\g.get (h1.nx+1)=some (.cells [.p w 0] false)/\g.get (h1.nx+2)=some (.cells [.slice av l.length cv] false)/\g.get (h1.nx+3)=some (LO .ready none)/\h1.nx+4<=g.nx/\Old h1 g)
  (fun g=>0<cntP (polL ws l)/\g.get h1.nx=some (.cells [.bool true] false)/\g.get (h1.nx+3)=some (LO .done (some (.exit 0)))/\h1.nx+4<=g.nx/\Old h1 g)
  (fun i g ⟨_,_,p2,p3,_,p5,p6⟩=>⟨(a.old o1).old p6,(hv.keep o1).keep p6,p3,p2,by omega⟩)
  (by
   rintro i g g' ⟨p00,p0,p2,p3,p4,p5,p6⟩ og
   exact ⟨p00,by rw [og.2 _ om,p0],by rw [og.2 _ om,p2],by rw [og.2 _ om,p3],by rw [og.2 _ om,p4],Nat.le_trans p5 og.1,p6.trans og⟩)
  (by
   rintro i g p hp ⟨p00,p0,p2,p3,p4,p5,p6⟩
   have et:=jjM (ws:=ws) hp
   have hx:=jiK (rdyS ws p.1) p.1 p.2
   have ec:=jh2 (jeR (rdyS ws p.1) p.1 p.2) (polL ws (l.take i))
   rw [<- et] at ec
   have hle:=cntP_take (jiI ws l) (i+1)
   rw [<- jm3] at hle
   generalize jeR (rdyS ws p.1) p.1 p.2=px at hx ec ⊢
   suffices q : ∃ v' g',cl (d-1-1) (.yld (h1.nx+3)) [.i px] g=some (v',g') /\ ∃ b:Bool,v' = .bool b/\(b=true->cntP (polL ws (l.take (i+1)))=0/\g'.get h1.nx=some (.cells [.bool false] false)/\g'.get (h1.nx+1)=some (.cells [.p w 0] false)/\g'.get (h1.nx+2)=some (.cells [.slice av l.length cv] false)/\g'.get (h1.nx+3)=some (LO .ready none)/\h1.nx+4<=g'.nx/\Old h1 g') /\
     (b=false->0<cntP (polL ws l)/\g'.get h1.nx=some (.cells [.bool true] false)/\g'.get (h1.nx+3)=some (LO .done (some (.exit 0)))/\h1.nx+4<=g'.nx/\Old h1 g') by
    obtain ⟨_,g',e,b,rfl,q⟩:=q
    exact ⟨b,g',e,q⟩
   refine yl_ hcl om hLO p4 rfl ?_
   clear a hv hm o hp et
   refine qx1 ?_
   refine End.nil ⟨rfl,p4,?_⟩
   by_cases hz:px=0
   ·refine qx1 ?_
    refine End.nil ⟨⟨.busy,none,qgt⟩,true,rfl,fun _=>⟨by omega,?_,?_,?_,jab _,by simpa using p5,(p6.set om).set om⟩,fun e=>by cases e⟩
    ·rw [jaa om,jaa om,p0]
    ·rw [jaa om,jaa om,p2]
    ·rw [jaa om,jaa om,p3]
   ·refine qx1 ?_
    refine Ops.store1 (l:=[.bool false]) rfl rfl rfl (by rw [jaa om,p0]) Nat.zero_lt_one ?_
    refine qx1 ?_
    refine End.nil ⟨⟨.busy,none,by rw [jaa om,jab]⟩,false,rfl,fun e=>(by cases e),fun _=>⟨by omega,?_,jab _,by simpa using p5,((p6.set om).set om).set om⟩⟩
    rw [jaa om];exact jab _)
  ⟨by simp [polL,cntP],by rw [jac om,b0],by rw [jac om,b2],by rw [jac om,b3],by rw [<- x1,jad],by simp [x1],oL⟩
 clear a hv o
 rcases hIJ with ⟨p00,p0,p2,p3,p4,p5,p6⟩ | ⟨p00,p0,p4,p5,p6⟩
 ·rw [List.take_length] at p00
  rw [decide_eq_false om]
  have k0:(h'.kill (h1.nx+3)).get h1.nx=some (.cells [.bool false] false):=by rw [jaf om,p0]
  have o9:Old h (h'.kill (h1.nx+3)):=⟨by have:=p6.1;show h.nx<=h'.nx;omega,fun j hj=>by rw [jaf om,p6.2 j om,o1.2 j hj]⟩
  refine ⟨v',h',hc,.normal,p4,?_⟩
  clear hLO
  refine qx1 ?_
  exact ⟨rfl,o9⟩
 ·rw [decide_eq_true p00]
  have k0:(h'.kill (h1.nx+3)).get h1.nx=some (.cells [.bool true] false):=by rw [jaf om,p0]
  have o9:Old h (h'.kill (h1.nx+3)):=⟨by have:=p6.1;show h.nx<=h'.nx;omega,fun j hj=>by rw [jaf om,p6.2 j om,o1.2 j hj]⟩
  refine ⟨v',h',hc,.exit 0,p4,?_⟩
  clear hLO
  refine qx1 ?_
  exact ⟨rfl,o9⟩
end
end Am.Sigs
namespace Am.Sigs
open Am Go
theorem jhj : ∀ {l:List (Int × Int)} {cs:List V} {o:Nat},o+l.length*2<=cs.length->(∀ (i:Nat) (p:Int × Int),l[i]?=some p->(cs.drop (o+i*2)).take 2=[.i p.1,.i p.2])->(cs.drop o).take (l.length*2)=jaA l
 | [],_,_,_,_=>by simp [jaA]
 | p :: l,cs,o,hl,h=>by
  have h0:=h 0 p rfl
  rw [Nat.zero_mul,Nat.add_zero] at h0
  have ih:=jhj (l:=l) (cs:=cs) (o:=o+2) (by simp at hl;omega) fun i q hq=>by
   have:=h (i+1) q (by simpa using hq)
   rw [show o+2+i*2=o+(i+1)*2 by omega];exact this
  rw [show (p :: l).length*2=2+l.length*2 by simp;omega,List.take_add,h0,List.drop_drop,ih]
  rfl
theorem jnV {h:H} {v:V} {l:List (Int × Int)} {N:Nat} (r:Row N h 2 v l.length (jaA l)):VP h v l:=by
 rcases r with ⟨h1,h2,rfl⟩ | ⟨b,h1,h2,rfl,h4,h5⟩
 ·have:l=[]:=by simpa using h1
  subst this
  exact ⟨none,.fix 0,rfl,fun e=>absurd rfl e⟩
 ·exact jo3 fun _=>⟨b,false,rfl,h2,h4⟩
theorem jjT : ∀ l:List (Int × Int),(jaA l).all V.one=true
 | []=>rfl
 | p :: l=>by
  have e:jaA (p :: l) = .i p.1 :: .i p.2 :: jaA l:=rfl
  rw [e,List.all_cons,List.all_cons,jjT l];rfl
theorem pairs_app (a b:List (Int × Int)):jaA (a++b)=jaA a++jaA b:=by simp [jaA]
section
variable {call:Call} {fuel base:Nat} {K:List Fr} {e:Env} {h:H} {Q:Post} {ix:Nat} {dst:Option Nat} {ops:List Ins} {keep:List Nat}
theorem Ops.appP {N:Nat} {x y:Opd} {sv v:V} {q l:List (Int × Int)} (hx:x.ev e=some sv) (hy:y.ev e=some v) (r:Row N h 2 sv q.length (jaA q)) (hN:N<=h.nx) (hv:VP h v l) (hn:q.length+l.length<=100000)
  (k : ∀ v' h',Row N h' 2 v' (q++l).length (jaA (q++l))->h.nx<=h'.nx->(∀ j,j<h.nx->sv.at?≠some j->h'.get j=h.get j)->Ops call fuel base ops keep K (layv e dst v') h' Q) :
  Ops call fuel base (⟨ix,dst,.append 2 16 x y,none,none,[]⟩ :: ops) keep K e h Q:=by
 obtain ⟨a,cp,rfl,g⟩:=hv
 by_cases hl:l=[]
 ·subst hl
  have hsrc:ja2 h 2 0 (.slice a 0 cp)=some []:=by cases a<;>rfl
  refine Ops.step (v:=sv) (h':=h) (I.run_eff rfl ?_) (k sv h (by simpa using r) (Nat.le_refl _) fun _ _ _=>rfl)
  obtain ⟨cap,⟨sa,rfl⟩,_⟩:=r.shape
  simp only [I.eff,hx,hy,jbf,lenOf,List.length_nil,hsrc]
  have hcond:(Nat.ble ((q.length+0)*16) (2 ^ 46)&&Nat.ble (q.length+0) (2 ^ 46))=true:=by simp only [Bool.and_eq_true,Nat.ble_eq];omega
  rw [hcond];rfl
 ·obtain ⟨b,o,cs,ro,rfl,h1,h2,h3,h4⟩:=g hl
  have hpos:0<l.length:=List.length_pos_iff.2 hl
  refine Ops.appendN (N:=N) (new:=jaA l) hx hy r hN hpos h2 h3 (jhj h3 h4) (jjT l) om om om fun v' h' row hx' _ hk=>k v' h' ?_ om hk
  rw [List.length_append,pairs_app];exact row
end
theorem jlI {x y:List (Int × Int)} (h1:x.length<=48) (h2:y.length<=48):mayP (x++y)↔mayP x/\mayP y:=by
 constructor
 ·intro h
  exact ⟨⟨by omega,fun p hp=>h.2 p (by simp [hp])⟩,⟨by omega,fun p hp=>h.2 p (by simp [hp])⟩⟩
 ·rintro ⟨a,b⟩
  refine ⟨by simp;omega,fun p hp=>?_⟩
  rcases List.mem_append.1 hp with hp | hp
  ·exact a.2 p hp
  ·exact b.2 p hp
theorem jlE (ws:Ws) (x y:List (Int × Int)):polL ws (x++y)=polL ws x++polL ws y:=by simp [polL]
section
variable {cl:Nat->Call} (hcl:Sem cl)
theorem jlq:ran (jbA prog fuel 30 (.fn F.jeb) [] ⟨203,.lf⟩) (jhC 301)=true:=by kernel_rfl
include hcl
theorem jo4 {d N M:Nat} {h:H} {a b:V} {l:List Int} (hd:1<=d) (r1:Row N h 1 a l.length (ints l)) (r2:Row M h 1 b l.length (ints l)) (hl:l.length<=10000):cl d (.fn F.jeE) [a,b] h=some (.bool true,h):=by
 obtain ⟨ca,⟨aa,rfl⟩,ia⟩:=r1.shape
 obtain ⟨cb,⟨ab,rfl⟩,ib⟩:=r2.shape
 refine jao (at_ hcl om rfl rfl rfl ?_)
 refine qx1 ?_
 refine Run.loop (fun m e g=>∃ i:Nat,m=l.length-i/\i<=l.length/\e=[(0,.slice aa l.length ca),(1,.slice ab l.length cb),(5,.i (i:Int))]/\g=h) (k:=l.length) (by show _<100000;omega) ⟨0,rfl,by omega,rfl,rfl⟩ ?_
 rintro _ _ _ ⟨i,rfl,hi,rfl,rfl⟩ n2 ih
 by_cases hlt:(i:Int)<l.length
 case neg=>
  clear ih ia ib
  refine qx1 ?_
  exact ⟨rfl,rfl⟩
 obtain ⟨q1,_,_,y3,y4⟩:=ia i om
 cases y3
 obtain ⟨q2,_,_,z3,z4⟩:=ib i om
 cases z3
 obtain ⟨x,hx⟩:=jos (l:=l) (i:=i) om
 have hc:(ints l)[0+(i:Int).toNat*1]?=some (.i x):=by rw [show 0+(i:Int).toNat*1=i by omega];simp [hx]
 have hi1:(i:Int)+1=((i+1:Nat):Int):=by omega
 clear ia ib
 refine qx1 ?_
 rw [hi1]
 exact ih (l.length-(i+1)) om _ _ ⟨i+1,rfl,by omega,rfl,rfl⟩
theorem jkT {h0:H} (hnx:h0.nx=203) (hwf : ∀ b,203<=b->h0.get b=none) {l:List (Int × Int × Int × Int × List Int × Unit)} {u1:V} (rl:jbI 200 jm6 h0 l [u1]) {x0:List (Int × Int × Unit)} {u2:V} (rx:jbI 48 jlP h0 x0 [u2]) {y0:List (Int × Int × Unit)} {u3:V} (ry:jbI 48 jlP h0 y0 [u3]) :
  ∃ h',cl 31 (.fn F.jbV) [u1,u2,u3] h0=some (.bool true,h'):=by
 suffices q : ∃ v h',cl 31 (.fn F.jbV) [u1,u2,u3] h0=some (v,h')/\v = .bool true by
  obtain ⟨_,h',e,rfl⟩:=q;exact ⟨h',e⟩
 obtain ⟨h1,ea,x1,wf1,k1⟩:=jhB hcl jlq hnx hwf om
 obtain ⟨L,_,hL0⟩:=jiO rl
 have hL:=hL0.keep (h':=h1) om fun j o _ hj=>k1 j o hj
 obtain ⟨x,ad,c,_,rfl,hc,hx⟩:=jnF rx
 obtain ⟨y,ay,cy,_,rfl,hcy,hy⟩:=jnF ry
 refine at_ hcl om rfl rfl rfl ?_
 by_cases h48:48<x.length
 ·have h48':(x.length:Int)>48:=by omega
  clear hL0 hL hx rl rx hy ry
  refine qx1 ?_
  rfl
 have h48' : ¬ (x.length:Int)>48:=by omega
 by_cases g48:48<y.length
 ·have g48':(y.length:Int)>48:=by omega
  clear hL0 hL hx rl rx hy ry
  refine qx1 ?_
  rfl
 have g48' : ¬ (y.length:Int)>48:=by omega
 obtain ⟨hf,hxb⟩:=hx om
 obtain ⟨hg,hyb⟩:=hy om
 obtain ⟨bv,h2,eb,hb⟩:=jox hcl (d:=30) (f:=F.jea) rfl rfl om hL (by rw [x1];exact wf1)
 rcases hb with ⟨rfl,rfl⟩ | ⟨_,p,w,s,rw,ow,ro,ov,rfl,bx,_,_⟩
 ·clear hL0 hL hx rl rx hf hy ry hg
  refine qx1 ?_
  rfl
 have W:=bx.b.W
 have hp:=bx.b.hp
 have lp:=bx.b.lp
 have o:=bx.so.K.ok
 have mv : ∀ {z:List (Int × Int)} {a:Option (Nat × Nat)} {c:Nat},(z≠[] -> ∃ b,a=some (b,0)/\b<h0.nx/\h0.get b=some (.cells (jaA z) true))->VP h2 (.slice a z.length (.fix c)) z:=fun hz=>jo3 fun hn=>by
  obtain ⟨b,q1,q2,q3⟩:=hz hn
  exact ⟨b,true,q1,by have:=bx.old.1;omega,by rw [bx.old.2 b om,k1 _ _ q3]⟩
 have hv:=mv (c:=c) hxb
 have hw:=mv (c:=cy) hyb
 have hfa:jmE (x++y):=fun p hp=>by
  rcases List.mem_append.1 hp with hp | hp
  ·exact hf p hp
  ·exact hg p hp
 obtain ⟨pv,h3,ep,o3,hpv⟩:=jiL hcl (d:=30) om W o hv hf om
 have hw3:=hw.keep o3
 have W3:=W.old o3
 obtain ⟨pw,h4,eq,o4,hpw⟩:=jiL hcl (d:=30) om W3 o hw3 hg om
 have W4:=W3.old o4
 have hv4:=(hv.keep o3).keep o4
 have hw4:=hw3.keep o4
 have hp3:=o3.2 p lp
 rw [hp] at hp3
 have hp4:=o4.2 p (Nat.lt_of_lt_of_le lp o3.1)
 rw [hp3] at hp4
 clear hL0 hL hx rl rx hy ry hxb hyb mv hwf wf1 k1 hf hg
 have main : ∀ (av:V) (g:H),Row h4.nx g 2 av (x++y).length (jaA (x++y))->Old h4 g ->
   ∃ (v5 v6:V) (h5 h6:H),cl 30 (.fn F.jiH) [.p w 0,av] g=some (v5,h5)/\cl 30 (.fn F.jiH) [.p w 0,av] h5=some (v6,h6)/\Old g h5/\Old h5 h6 /\
    ((¬ mayP (x++y)/\v5 = .tup [.nils,.i 0,.i 2]/\v6 = .tup [.nils,.i 0,.i 2])\/(mayP (x++y) /\ ∃ c5 c6,v5 = .tup [c5,.i (cntP (polL (runS L st0).ws (x++y))),.i 0]/\v6 = .tup [c6,.i (cntP (polL (runS L st0).ws (x++y))),.i 0] /\
     Row g.nx h6 1 c5 (x++y).length (ints (polL (runS L st0).ws (x++y)))/\Row h5.nx h6 1 c6 (x++y).length (ints (polL (runS L st0).ws (x++y))))):=by
  intro av g row og
  have Wg:=W4.old og
  have va:=jnV row
  obtain ⟨v5,h5,e5,o5,hp5⟩:=jiL hcl (d:=30) om Wg o va hfa (by simp;omega)
  obtain ⟨v6,h6,e6,o6,hp6⟩:=jiL hcl (d:=30) om (Wg.old o5) o (va.keep o5) hfa (by simp;omega)
  refine ⟨v5,v6,h5,h6,e5,e6,o5,o6,?_⟩
  rcases hp5 with ⟨m5,r5⟩ | ⟨m5,c5,r5,w5⟩<;>rcases hp6 with ⟨m6,r6⟩ | ⟨m6,c6,r6,w6⟩
  ·exact .inl ⟨m5,r5,r6⟩
  ·exact absurd m6 m5
  ·exact absurd m5 m6
  ·exact .inr ⟨m5,c5,c6,r5,r6,w5.keep o6.1 fun z hz=>o6.2 z (w5.at_ge hz).2,w6⟩
 have hcx:=jjc (jiI (runS L st0).ws x)
 have hcy:=jjc (jiI (runS L st0).ws y)
 rw [jde] at hcx hcy
 have hca:=jjd (polL (runS L st0).ws x) (polL (runS L st0).ws y)
 rw [<- jlE] at hca
 by_cases hm:mayP x/\mayP y
 case neg=>
  have hn : ¬ mayP (x++y):=fun e=>hm ((jlI om om).1 e)
  have hev : ∃ (a1:V) (n1 e1:Int) (a2:V) (n2 e2:Int),pv = .tup [a1,.i n1,.i e1]/\pw = .tup [a2,.i n2,.i e2]/\(e1≠0\/(e1=0/\e2≠0)):=by
   rcases hpv with ⟨m1,rfl⟩ | ⟨m1,a1,rfl,_⟩<;>rcases hpw with ⟨m2,rfl⟩ | ⟨m2,a2,rfl,_⟩
   ·exact ⟨_,_,_,_,_,_,rfl,rfl,.inl om⟩
   ·exact ⟨_,_,_,_,_,_,rfl,rfl,.inl om⟩
   ·exact ⟨_,_,_,_,_,_,rfl,rfl,.inr ⟨rfl,by omega⟩⟩
   ·exact absurd ⟨m1,m2⟩ hm
  obtain ⟨a1,n1,e1,a2,n2,e2,rfl,rfl,he⟩:=hev
  clear hpv hpw hm hfa hv hw hw3 W W3 W4 o
  rcases he with he | ⟨rfl,he⟩
  all_goals
   repeat' (first|refine qxy ?_|refine zbf rfl (fun _=>?_) fun _=>?_|refine zbg rfl (fun _=>?_) fun _=>?_|refine zbh rfl (fun _=>?_) fun _=>?_|refine zbm rfl (fun _=>?_) fun _=>?_|refine zbn rfl (fun _=>?_) fun _=>?_)
   refine Ops.appP (N:=h4.nx) (q:=[]) rfl rfl (Row.nil _ _ _) (Nat.le_refl _) hv4 (by simp;omega) fun v7 g7 r7 x7 k7=>?_
   have o7:Old h4 g7:=⟨x7,fun j hj=>k7 j hj (by intro e;cases e)⟩
   repeat' (first|refine qxy ?_|refine zbf rfl (fun _=>?_) fun _=>?_|refine zbg rfl (fun _=>?_) fun _=>?_|refine zbh rfl (fun _=>?_) fun _=>?_|refine zbm rfl (fun _=>?_) fun _=>?_|refine zbn rfl (fun _=>?_) fun _=>?_)
   refine Ops.appP (N:=h4.nx) rfl rfl r7 x7 (hw4.keep o7) (by simp;omega) fun v8 g8 r8 x8 k8=>?_
   have o8:Old h4 g8:=⟨Nat.le_trans x7 x8,fun j hj=>by rw [k8 j (Nat.lt_of_lt_of_le hj x7) (fun e=>by have:=r7.at_ge e;omega),o7.2 j hj]⟩
   have r8:Row h4.nx g8 2 v8 (x++y).length (jaA (x++y)):=by simpa using r8
   obtain ⟨v5,v6,h5,h6,e5,e6,o5,o6,hh⟩:=main v8 g8 r8 o8
   have hp8:g8.get p=some (.cells [.p w 0,.p rw 0] false):=by rw [o8.2 _ (by have:=o3.1;have:=o4.1;omega),hp4]
   have hp5:h5.get p=some (.cells [.p w 0,.p rw 0] false):=by rw [o5.2 _ (by have:=o3.1;have:=o4.1;have:=o8.1;omega),hp8]
   rcases hh with ⟨_,rfl,rfl⟩ | ⟨hy,_⟩
   ·clear main
    repeat' (first|refine qxy ?_|refine zbf rfl (fun _=>?_) fun _=>?_|refine zbg rfl (fun _=>?_) fun _=>?_|refine zbh rfl (fun _=>?_) fun _=>?_|refine zbm rfl (fun _=>?_) fun _=>?_|refine zbn rfl (fun _=>?_) fun _=>?_)
    rfl
   ·exact absurd hy hn
 have hmy:mayP (x++y):=(jlI om om).2 hm
 rcases hpv with ⟨m1,_⟩ | ⟨_,a1,rfl,w1⟩
 ·exact absurd hm.1 m1
 rcases hpw with ⟨m2,_⟩ | ⟨_,a2,rfl,w2⟩
 ·exact absurd hm.2 m2
 have w14:Row h2.nx h4 1 a1 (polL (runS L st0).ws x).length (ints (polL (runS L st0).ws x)):=by
  rw [jde];exact w1.keep o4.1 fun z hz=>o4.2 z (w1.at_ge hz).2
 have w24:Row h3.nx h4 1 a2 (polL (runS L st0).ws y).length (ints (polL (runS L st0).ws y)):=by rw [jde];exact w2
 clear hm hv hw hw3 W W3 w1 w2
 refine qx1 ?_
 refine Ops.appP (N:=h4.nx) (q:=[]) rfl rfl (Row.nil _ _ _) (Nat.le_refl _) hv4 (by simp;omega) fun v7 g7 r7 x7 k7=>?_
 have o7:Old h4 g7:=⟨x7,fun j hj=>k7 j hj (by intro e;cases e)⟩
 refine qx1 ?_
 refine Ops.appP (N:=h4.nx) rfl rfl r7 x7 (hw4.keep o7) (by simp;omega) fun v8 g8 r8 x8 k8=>?_
 have o8:Old h4 g8:=⟨Nat.le_trans x7 x8,fun j hj=>by rw [k8 j (Nat.lt_of_lt_of_le hj x7) (fun e=>by have:=r7.at_ge e;omega),o7.2 j hj]⟩
 have r8:Row h4.nx g8 2 v8 (x++y).length (jaA (x++y)):=by simpa using r8
 obtain ⟨v5,v6,h5,h6,e5,e6,o5,o6,hh⟩:=main v8 g8 r8 o8
 have hp8:g8.get p=some (.cells [.p w 0,.p rw 0] false):=by rw [o8.2 _ (by have:=o3.1;have:=o4.1;omega),hp4]
 have hp5:h5.get p=some (.cells [.p w 0,.p rw 0] false):=by rw [o5.2 _ (by have:=o3.1;have:=o4.1;have:=o8.1;omega),hp8]
 have hp6:h6.get p=some (.cells [.p w 0,.p rw 0] false):=by rw [o6.2 _ (by have:=o3.1;have:=o4.1;have:=o8.1;have:=o5.1;omega),hp5]
 rcases hh with ⟨hn,_⟩ | ⟨_,c5,c6,rfl,rfl,wc5,wc6⟩
 ·exact absurd hmy hn
 have o46:Old h4 h6:=o8.trans (o5.trans o6)
 have w16:=w14.keep (h':=h6) o46.1 fun z hz=>o46.2 z (w14.at_ge hz).2
 have w26:=w24.keep (h':=h6) o46.1 fun z hz=>o46.2 z (w24.at_ge hz).2
 have va6:VP h6 v8 (x++y):=((jnV r8).keep o5).keep o6
 have W6:=W4.old o46
 clear main hv4 hw4 W4 r7 w14 w24
 refine qx1 ?_
 refine Ops.appI (N:=h6.nx) (q:=[]) rfl rfl (Row.nil _ _ _) (Nat.le_refl _) (VI.ofRow w16).1 (by simp [jde];omega) (fun _ _ _=>rfl) fun v9 g9 r9 x9 k9=>?_
 have o9:Old h6 g9:=⟨x9,fun j hj=>k9 j hj (by intro e;cases e)⟩
 have w29:=w26.keep (h':=g9) o9.1 fun z hz=>o9.2 z (w26.at_ge hz).2
 refine qx1 ?_
 refine Ops.appI (N:=h6.nx) rfl rfl r9 x9 (VI.ofRow w29).1 (by simp [jde];omega) (fun _ _ _=>rfl) fun vA gA rA xA kA=>?_
 have oA:Old h6 gA:=⟨Nat.le_trans x9 xA,fun j hj=>by rw [kA j (Nat.lt_of_lt_of_le hj x9) (fun e=>by have:=r9.at_ge e;omega),o9.2 j hj]⟩
 have rA:Row h6.nx gA 1 vA (polL (runS L st0).ws (x++y)).length (ints (polL (runS L st0).ws (x++y))):=by rw [jlE];simpa using rA
 rw [<- jde (runS L st0).ws] at wc5 wc6
 have w5A:=wc5.keep (h':=gA) oA.1 fun z hz=>oA.2 z (wc5.at_ge hz).2
 have w6A:=wc6.keep (h':=gA) oA.1 fun z hz=>oA.2 z (wc6.at_ge hz).2
 have hlen:(polL (runS L st0).ws (x++y)).length<=10000:=by rw [jde];simp;omega
 have t5:=jo4 hcl (d:=30) om w5A rA hlen
 have t6:=jo4 hcl (d:=30) om w6A rA hlen
 obtain ⟨hB,eB,oB⟩:=pl_holds hcl (d:=30) (h:=gA) om (W6.old oA) o (va6.keep oA) hfa (by simp;omega)
 rw [if_pos hmy] at eB
 have hpA:gA.get p=some (.cells [.p w 0,.p rw 0] false):=by rw [oA.2 _ (by have:=o3.1;have:=o4.1;have:=o46.1;omega),hp6]
 clear W6 o va6 w16 w26 w29 r9 wc5 wc6 w5A w6A rA hfa hmy
 generalize cntP (polL (runS L st0).ws (x++y))=ck at *
 generalize cntP (polL (runS L st0).ws x)=cx at *
 generalize cntP (polL (runS L st0).ws y)=cy at *
 refine qx1 ?_
 all_goals simp
end
end Am.Sigs
namespace Am.Sigs
open Am Go
def mk (f:Nat->Bool):Nat->Nat
 | 0=>0
 | n+1=>mk f n+if f n then 2 ^ n else 0
theorem jeF (f:Nat->Bool) : ∀ n,mk f n<2 ^ n
 | 0=>by simp [mk]
 | n+1=>by
  have:=jeF f n
  rw [mk,Nat.pow_succ]
  split<;>omega
theorem jcO (f:Nat->Bool) : ∀ n i,(mk f n).testBit i=(decide (i<n)&&f i)
 | 0,i=>by simp [mk]
 | n+1,i=>by
  have ih:=jcO f n i
  have hlt:=jeF f n
  rw [mk]
  by_cases hf:f n=true
  ·rw [if_pos hf,Nat.add_comm]
   by_cases hi:i=n
   ·subst hi
    rw [Nat.testBit_two_pow_add_eq,ih]
    simp [hf]
   ·by_cases h2:i<n
    ·rw [Nat.testBit_two_pow_add_gt h2,ih]
     simp [h2,show i<n+1 by omega]
    ·have:2 ^ n+mk f n<2 ^ i:=by
      have h3:2 ^ (n+1)<=2 ^ i:=Nat.pow_le_pow_right om om
      rw [Nat.pow_succ] at h3
      omega
     rw [Nat.testBit_lt_two_pow this]
     simp [show ¬ i<n+1 by omega]
  ·rw [if_neg hf,Nat.add_zero,ih]
   by_cases hi:i=n
   ·subst hi;simp [hf]
   ·by_cases h2:i<n
    ·simp [h2,show i<n+1 by omega]
    ·simp [h2,show ¬ i<n+1 by omega]
theorem jjX {f:Nat->Bool} {n m:Nat} (hm:m<2 ^ n) (h : ∀ i,i<n->m.testBit i=f i):m=mk f n:=by
 apply Nat.eq_of_testBit_eq
 intro i
 rw [jcO]
 by_cases hi:i<n
 ·rw [h i hi];simp [hi]
 ·rw [Nat.testBit_lt_two_pow (Nat.lt_of_lt_of_le hm (Nat.pow_le_pow_right om om))];simp [hi]
theorem jdf {f g:Nat->Bool} {n:Nat} (h : ∀ i,i<n->f i=g i):mk f n=mk g n :=
 jjX (jeF f n) fun i hi=>by rw [jcO,h i hi];simp [hi]
theorem jju {n:Nat} (h:n<4294967296):IntKind.u32.wrap (n:Int)=(n:Int):=by
 have:IntKind.u32.wrap (n:Int)=(n:Int)%4294967296:=by simp [IntKind.wrap,IntKind.bits,IntKind.signed]
 rw [this];omega
theorem bv32 {n:Nat} (h:n<4294967296):(BitVec.ofInt 32 (n:Int)).toNat=n:=by
 simp [BitVec.ofInt];omega
theorem or32 (f g:Nat->Bool):IntKind.u32.wrap ((BitVec.ofInt 32 ((mk f 32:Nat):Int) ||| BitVec.ofInt 32 ((mk g 32:Nat):Int)).toNat:Int)=((mk (fun i=>f i||g i) 32:Nat):Int):=by
 have h1:=jeF f 32
 have h2:=jeF g 32
 have e:(BitVec.ofInt 32 ((mk f 32:Nat):Int) ||| BitVec.ofInt 32 ((mk g 32:Nat):Int)).toNat=mk (fun i=>f i||g i) 32:=by
  rw [BitVec.toNat_or,bv32 h1,bv32 h2]
  refine jjX (Nat.or_lt_two_pow h1 h2) fun i hi=>?_
  rw [Nat.testBit_or,jcO,jcO];simp [hi]
 rw [e,jju (jeF _ 32)]
theorem jlQ (f g:Nat->Bool):IntKind.u32.wrap ((BitVec.ofInt 32 ((mk f 32:Nat):Int) &&& ~~~(BitVec.ofInt 32 ((mk g 32:Nat):Int))).toNat:Int)=((mk (fun i=>f i && !g i) 32:Nat):Int):=by
 have h1:=jeF f 32
 have h2:=jeF g 32
 have e:(BitVec.ofInt 32 ((mk f 32:Nat):Int) &&& ~~~(BitVec.ofInt 32 ((mk g 32:Nat):Int))).toNat=mk (fun i=>f i && !g i) 32:=by
  refine jjX (BitVec.isLt _) fun i hi=>?_
  rw [<- BitVec.getLsbD,BitVec.getLsbD_and,BitVec.getLsbD_not]
  rw [BitVec.getLsbD,BitVec.getLsbD,bv32 h1,bv32 h2,jcO,jcO]
  simp [hi]
 rw [e,jju (jeF _ 32)]
theorem jo8 (f:Nat->Bool) {k:Nat} (hk:k<32):IntKind.u32.wrap ((BitVec.ofInt 32 (((mk f 32:Nat):Int).fdiv (2 ^ (Nat.min k 32))) &&& BitVec.ofInt 32 1).toNat:Int)=if f k then 1 else 0:=by
 have h1:=jeF f 32
 have e0:((mk f 32:Nat):Int).fdiv (2 ^ (Nat.min k 32))=((mk f 32/2 ^ k:Nat):Int):=by
  rw [show Nat.min k 32=k from Nat.min_eq_left om,Int.fdiv_eq_ediv_of_nonneg _ (by exact Int.le_of_lt (Int.pow_pos om))]
  simp
 have h2:mk f 32/2 ^ k<4294967296:=Nat.lt_of_le_of_lt (Nat.div_le_self _ _) h1
 rw [e0]
 have e:(BitVec.ofInt 32 ((mk f 32/2 ^ k:Nat):Int) &&& BitVec.ofInt 32 1).toNat=(mk f 32/2 ^ k)%2:=by
  rw [BitVec.toNat_and,bv32 h2]
  show (mk f 32/2 ^ k) &&& 1=_
  exact Nat.and_one_is_mod _
 rw [e,jju om]
 have h3:=jcO f 32 k
 rw [Nat.testBit_eq_decide_div_mod_eq] at h3
 simp only [hk,decide_true,Bool.true_and] at h3
 rw [<- h3]
 by_cases h4:mk f 32/2 ^ k%2=1
 ·simp [h4]
 ·have:mk f 32/2 ^ k%2=0:=by omega
  simp [this]
theorem shl32 {k:Nat} (hk:k<32):IntKind.u32.wrap (1*2 ^ (Nat.min k 32))=((mk (fun i=>decide (i=k)) 32:Nat):Int):=by
 have e:mk (fun i=>decide (i=k)) 32=2 ^ k:=by
  refine (jjX (Nat.pow_lt_pow_right om hk) fun i hi=>?_).symm
  rw [Nat.testBit_two_pow]
  by_cases h:k=i
  ·subst h;simp
  ·rw [decide_eq_false h,decide_eq_false (fun e=>h e.symm)]
 rw [e,show Nat.min k 32=k from Nat.min_eq_left om]
 have h2:2 ^ k<2 ^ 32:=Nat.pow_lt_pow_right om hk
 have:=jju (n:=2 ^ k) h2
 rw [<- this]
 congr 1
 simp
def setV (f:Nat->Bool):List V:=[.int .u32 ((mk f 32:Nat):Int),.int .u32 ((mk (fun i=>f (i+32)) 32:Nat):Int)]
theorem jaX {f g:Nat->Bool} (h : ∀ i,i<64->f i=g i):setV f=setV g:=by
 unfold setV
 rw [jdf (f:=f) (g:=g) fun i hi=>h i om,jdf (f:=fun i=>f (i+32)) (g:=fun i=>g (i+32)) fun i hi=>h (i+32) om]
theorem joi {f g:Nat->Bool} {n:Nat} (h:mk f n=mk g n) : ∀ i,i<n->f i=g i:=fun i hi=>by
 have h1:=jcO f n i
 have h2:=jcO g n i
 rw [h,h2] at h1
 simpa [hi] using h1.symm
theorem setV_inj {f g:Nat->Bool} (h:setV f=setV g) : ∀ i,i<64->f i=g i:=by
 unfold setV at h
 simp only [List.cons.injEq,V.int.injEq,true_and,and_true,Int.natCast_inj] at h
 intro i hi
 by_cases h1:i<32
 ·exact joi h.1 i h1
 ·have:=joi h.2 (i-32) om
  rw [show i-32+32=i by omega] at this
  exact this
theorem jnz : ∀ n,mk (fun _=>false) n=0
 | 0=>rfl
 | n+1=>by rw [mk,jnz n];rfl
theorem jfh:setV (fun _=>false)=[.int .u32 0,.int .u32 0]:=by unfold setV;rw [jnz];rfl
def fitS (fd:Int):Prop:=0<=fd/\fd<64
instance (fd:Int):Decidable (fitS fd):=inferInstanceAs (Decidable (_/\_))
section
variable {call:Call} {fuel base:Nat} {K:List Fr} {e:Env} {h:H} {Q:Post} {ix:Nat} {dst at_:Option Nat} {ops:List Ins} {keep:List Nat}
theorem Ops.shl32 {x y:Opd} {a b:Int} (hx:x.ev e=some (.int .u32 a)) (hy:y.ev e=some (.i b)) (hb:0<=b) (k:Ops call fuel base ops keep K (layv e dst (.int .u32 (IntKind.u32.wrap (a*2 ^ (Nat.min b.toNat 32))))) h Q) :
  Ops call fuel base (⟨ix,dst,.bin .shl x y,none,at_,[]⟩ :: ops) keep K e h Q:=by
 refine Ops.pure rfl ?_ k
 simp only [I.pure,hx,hy]
 have:decide (b<0)=false:=decide_eq_false om
 simp only [binOp,jbT,Bool.true_or,cond_true,jdl,this,cond_false]
 rfl
end
section
variable {cl:Nat->Call} (hcl:Sem cl)
include hcl
theorem jld {d:Nat} {fd:Int} {h:H} (hd:1<=d):cl d (.fn F.jmF) [.i fd] h=some (.bool (decide (fitS fd)),h):=by
 refine jao (at_ hcl om rfl rfl rfl ?_)
 unfold fitS
 by_cases h1:0<=fd
 ·by_cases h2:fd<64
  ·refine qx1 ?_
   exact ⟨by simp [h1,h2],rfl⟩
  ·refine qx1 ?_
   exact ⟨by simp [h1,h2],rfl⟩
 ·refine qx1 ?_
  exact ⟨by simp [h1],rfl⟩
theorem jn8 {d:Nat} {f:Nat->Bool} {fd:Int} {h:H} (hd:2<=d):cl d (.fn F.jiZ) [.agg (setV f),.i fd] h=some (.bool (decide (fitS fd)&&f fd.toNat),h.new (.cells (setV f) false)):=by
 have e1:=jld hcl (d:=d-1) (fd:=fd) (h:=h.new (.cells (setV f) false)) om
 refine jao (at_ hcl om rfl rfl rfl ?_)
 by_cases hf:fitS fd
 case neg=>
  rw [decide_eq_false hf] at e1 ⊢
  refine qm1 ?_
  exact ⟨rfl,rfl⟩
 rw [decide_eq_true hf] at e1 ⊢
 obtain ⟨m,rfl⟩:=Int.eq_ofNat_of_zero_le hf.1
 have h2:=hf.2
 by_cases h32:m<32
 ·have hq:IntKind.i64.wrap ((m:Int).tdiv 32)=0:=by
   rw [Int.tdiv_eq_ediv_of_nonneg om,show (m:Int)/32=0 by omega];rfl
  have hr:(m:Int).tmod 32=(m:Int):=by rw [Int.tmod_eq_emod_of_nonneg om];omega
  clear hf
  refine qm1 ?_
  rw [hq]
  refine qm1 ?_
  refine ⟨?_,rfl⟩
  rw [hr,Int.toNat_natCast,Bool.true_and]
  have hb:(IntKind.u32.wrap ↑(BitVec.ofInt IntKind.u32.bits (((mk f 32:Nat):Int).fdiv (2 ^ (m.min IntKind.u32.bits))) &&& BitVec.ofInt IntKind.u32.bits 1).toNat:Int)=if f m then 1 else 0:=jo8 f h32
  rw [hb]
  cases f m<;>rfl
 ·obtain ⟨k,rfl⟩ : ∃ k,m=k+32:=⟨m-32,by omega⟩
  have hk:k<32:=by omega
  have hq:IntKind.i64.wrap (((k+32:Nat):Int).tdiv 32)=1:=by
   rw [Int.tdiv_eq_ediv_of_nonneg om,show ((k+32:Nat):Int)/32=1 by omega];rfl
  have hr:((k+32:Nat):Int).tmod 32=(k:Int):=by rw [Int.tmod_eq_emod_of_nonneg om];omega
  clear hf
  refine qm1 ?_
  rw [hq]
  refine qm1 ?_
  refine ⟨?_,rfl⟩
  rw [hr,Int.toNat_natCast,Int.toNat_natCast,Bool.true_and]
  have hb:(IntKind.u32.wrap ↑(BitVec.ofInt IntKind.u32.bits (((mk (fun i=>f (i+32)) 32:Nat):Int).fdiv (2 ^ (k.min IntKind.u32.bits))) &&& BitVec.ofInt IntKind.u32.bits 1).toNat:Int)=if f (k+32) then 1 else 0:=jo8 (fun i=>f (i+32)) hk
  rw [hb]
  cases f (k+32)<;>rfl
end
attribute [irreducible] mk
end Am.Sigs
namespace Am.Sigs
open Am Go
def addS (f:Nat->Bool) (k:Nat):Nat->Bool:=fun i=>f i||decide (i=k)
def delS (f:Nat->Bool) (k:Nat):Nat->Bool:=fun i=>f i && !decide (i=k)
def orS (f g:Nat->Bool):Nat->Bool:=fun i=>f i||g i
def jke (f g:Nat->Bool):Nat->Bool:=fun i=>f i && !g i
def noS:Nat->Bool:=fun _=>false
theorem add_lo (f:Nat->Bool) {k:Nat} (hk:k<32):setV (addS f k)=[.int .u32 ((mk (fun i=>f i||decide (i=k)) 32:Nat):Int),.int .u32 ((mk (fun i=>f (i+32)) 32:Nat):Int)]:=by
 unfold setV addS
 rw [jdf (f:=fun i=>f (i+32)||decide (i+32=k)) (g:=fun i=>f (i+32)) fun i _=>by rw [decide_eq_false om,Bool.or_false]]
theorem add_hi (f:Nat->Bool) {k:Nat} : setV (addS f (k+32))=[.int .u32 ((mk f 32:Nat):Int),.int .u32 ((mk (fun i=>f (i+32)||decide (i=k)) 32:Nat):Int)]:=by
 unfold setV addS
 rw [jdf (f:=fun i=>f i||decide (i=k+32)) (g:=f) fun i hi=>by rw [decide_eq_false om,Bool.or_false],
  jdf (f:=fun i=>f (i+32)||decide (i+32=k+32)) (g:=fun i=>f (i+32)||decide (i=k)) fun i _=>by simp]
theorem del_lo (f:Nat->Bool) {k:Nat} (hk:k<32):setV (delS f k)=[.int .u32 ((mk (fun i=>f i && !decide (i=k)) 32:Nat):Int),.int .u32 ((mk (fun i=>f (i+32)) 32:Nat):Int)]:=by
 unfold setV delS
 rw [jdf (f:=fun i=>f (i+32) && !decide (i+32=k)) (g:=fun i=>f (i+32)) fun i _=>by rw [decide_eq_false om];simp]
theorem del_hi (f:Nat->Bool) {k:Nat} : setV (delS f (k+32))=[.int .u32 ((mk f 32:Nat):Int),.int .u32 ((mk (fun i=>f (i+32) && !decide (i=k)) 32:Nat):Int)]:=by
 unfold setV delS
 rw [jdf (f:=fun i=>f i && !decide (i=k+32)) (g:=f) fun i hi=>by rw [decide_eq_false om];simp,
  jdf (f:=fun i=>f (i+32) && !decide (i+32=k+32)) (g:=fun i=>f (i+32) && !decide (i=k)) fun i _=>by simp]
section
variable {cl:Nat->Call} (hcl:Sem cl) {f g:Nat->Bool} {fd:Int} {h:H}
include hcl
theorem jkj {d:Nat} (hd:1<=d) : ∃ h',cl d (.fn F.jkn) [.agg (setV f),.agg (setV g)] h=some (.agg (setV (orS f g)),h')/\Old h h':=by
 refine jak (at_ hcl om rfl rfl rfl ?_)
 have e1:=or32 f g
 have e2:=or32 (fun i=>f (i+32)) (fun i=>g (i+32))
 have e3:[V.int .u32 (IntKind.u32.wrap ((BitVec.ofInt 32 ((mk f 32:Nat):Int) ||| BitVec.ofInt 32 ((mk g 32:Nat):Int)).toNat:Int)),V.int .u32 (IntKind.u32.wrap ((BitVec.ofInt 32 ((mk (fun i=>f (i+32)) 32:Nat):Int) ||| BitVec.ofInt 32 ((mk (fun i=>g (i+32)) 32:Nat):Int)).toNat:Int))]=setV (orS f g):=by
  unfold setV orS;rw [e1,e2]
 refine qm1 ?_
 refine jaD (l:=setV (orS f g)) rfl ((jab _).trans (by rw [<- e3];rfl)) rfl ⟨rfl,?_⟩
 exact (Old.refl h).new.new.new.set (by simp<;>omega)
theorem jn7 {d:Nat} (hd:1<=d) : ∃ h',cl d (.fn F.jhV) [.agg (setV f),.agg (setV g)] h=some (.agg (setV (jke f g)),h')/\Old h h':=by
 refine jak (at_ hcl om rfl rfl rfl ?_)
 have e1:=jlQ f g
 have e2:=jlQ (fun i=>f (i+32)) (fun i=>g (i+32))
 have e3:[V.int .u32 (IntKind.u32.wrap ((BitVec.ofInt 32 ((mk f 32:Nat):Int) &&& ~~~(BitVec.ofInt 32 ((mk g 32:Nat):Int))).toNat:Int)),V.int .u32 (IntKind.u32.wrap ((BitVec.ofInt 32 ((mk (fun i=>f (i+32)) 32:Nat):Int) &&& ~~~(BitVec.ofInt 32 ((mk (fun i=>g (i+32)) 32:Nat):Int))).toNat:Int))]=setV (jke f g):=by
  unfold setV jke;rw [e1,e2]
 refine qm1 ?_
 refine jaD (l:=setV (jke f g)) rfl ((jab _).trans (by rw [<- e3];rfl)) rfl ⟨rfl,?_⟩
 exact (Old.refl h).new.new.new.set (by simp<;>omega)
def jlY (f:Nat->Bool) (fd:Int):Nat->Bool:=if fitS fd then addS f fd.toNat else noS
theorem jlc {d:Nat} (hd:2<=d) : ∃ h',cl d (.fn F.jdm) [.agg (setV f),.i fd] h=some (.tup [.agg (setV (jlY f fd)),.i (if fitS fd then 0 else 10)],h')/\Old h h':=by
 have e0:=fun G=>jld hcl (d:=d-1) (fd:=fd) (h:=G) om
 refine jak (at_ hcl om rfl rfl rfl ?_)
 unfold jlY
 by_cases hf:fitS fd
 case neg=>
  rw [if_neg hf,if_neg hf]
  have e0:=e0 ((h.new (.cells (setV f) false)).new (.cells [.int .u32 0,.int .u32 0] false))
  rw [decide_eq_false hf] at e0
  refine qm1 ?_
  refine zcf (resN rfl (jab _) (Nat.le_of_ble_eq_true rfl) rfl) ⟨?_,(Old.refl h).new.new.set (by simp)⟩
  unfold noS;rw [jfh];rfl
 rw [if_pos hf,if_pos hf]
 have e0:=e0 ((h.new (.cells (setV f) false)).new (.cells [.int .u32 0,.int .u32 0] false))
 rw [decide_eq_true hf] at e0
 obtain ⟨m,rfl⟩:=Int.eq_ofNat_of_zero_le hf.1
 have h2:=hf.2
 rw [Int.toNat_natCast]
 by_cases h32:m<32
 ·have hq:IntKind.i64.wrap ((m:Int).tdiv 32)=0:=by
   rw [Int.tdiv_eq_ediv_of_nonneg om,show (m:Int)/32=0 by omega];rfl
  have hr:(m:Int).tmod 32=(m:Int):=by rw [Int.tmod_eq_emod_of_nonneg om];omega
  have e1:=or32 f (fun i=>decide (i=m))
  rw [<- shl32 h32] at e1
  clear hf
  refine qm1 ?_
  rw [hq]
  refine qm1 ?_
  rw [hr,Int.toNat_natCast]
  have e2:(setV f).set (0+Int.toNat 0*1) (V.int .u32 (IntKind.u32.wrap ((BitVec.ofInt IntKind.u32.bits ((mk f 32:Nat):Int) ||| BitVec.ofInt IntKind.u32.bits (IntKind.u32.wrap (1*2 ^ m.min IntKind.u32.bits))).toNat:Int)))=setV (addS f m):=by
   rw [add_lo f h32]
   show [V.int .u32 (IntKind.u32.wrap ((BitVec.ofInt 32 ((mk f 32:Nat):Int) ||| BitVec.ofInt 32 (IntKind.u32.wrap (1*2 ^ m.min 32))).toNat:Int)),_]=_
   rw [e1]
  rw [e2]
  have e3:List.take 2 (List.drop 0 (setV (addS f m)))=setV (addS f m):=rfl
  rw [e3]
  refine Ops.storeN (vs:=setV (addS f m)) (l:=[.int .u32 0,.int .u32 0]) (b:=h.nx+1) rfl rfl rfl rfl qgt (Nat.le_of_ble_eq_true rfl) ?_
  rw [jan (setV (addS f m)) [.int .u32 0,.int .u32 0] rfl]
  refine qm1 ?_
  refine zcf (resN rfl (jab _) (Nat.le_of_ble_eq_true rfl) rfl) ⟨rfl,?_⟩
  exact ((Old.refl h).new.new.set (Nat.le_refl _)).set om
 ·obtain ⟨k,rfl⟩ : ∃ k,m=k+32:=⟨m-32,by omega⟩
  have hk:k<32:=by omega
  have hq:IntKind.i64.wrap (((k+32:Nat):Int).tdiv 32)=1:=by
   rw [Int.tdiv_eq_ediv_of_nonneg om,show ((k+32:Nat):Int)/32=1 by omega];rfl
  have hr:((k+32:Nat):Int).tmod 32=(k:Int):=by rw [Int.tmod_eq_emod_of_nonneg om];omega
  have e1:=or32 (fun i=>f (i+32)) (fun i=>decide (i=k))
  rw [<- shl32 hk] at e1
  clear hf
  refine qm1 ?_
  rw [hq]
  refine qm1 ?_
  rw [hr,Int.toNat_natCast]
  have e2:(setV f).set (0+Int.toNat 1*1) (V.int .u32 (IntKind.u32.wrap ((BitVec.ofInt IntKind.u32.bits ((mk (fun i=>f (i+32)) 32:Nat):Int) ||| BitVec.ofInt IntKind.u32.bits (IntKind.u32.wrap (1*2 ^ k.min IntKind.u32.bits))).toNat:Int)))=setV (addS f (k+32)):=by
   rw [add_hi f]
   show [_,V.int .u32 (IntKind.u32.wrap ((BitVec.ofInt 32 ((mk (fun i=>f (i+32)) 32:Nat):Int) ||| BitVec.ofInt 32 (IntKind.u32.wrap (1*2 ^ k.min 32))).toNat:Int))]=_
   rw [e1]
  rw [e2]
  have e3:List.take 2 (List.drop 0 (setV (addS f (k+32))))=setV (addS f (k+32)):=rfl
  rw [e3]
  refine Ops.storeN (vs:=setV (addS f (k+32))) (l:=[.int .u32 0,.int .u32 0]) (b:=h.nx+1) rfl rfl rfl rfl qgt (Nat.le_of_ble_eq_true rfl) ?_
  rw [jan (setV (addS f (k+32))) [.int .u32 0,.int .u32 0] rfl]
  refine qm1 ?_
  refine zcf (resN rfl (jab _) (Nat.le_of_ble_eq_true rfl) rfl) ⟨rfl,?_⟩
  exact ((Old.refl h).new.new.set (Nat.le_refl _)).set om
theorem jmD {d m:Nat} (hd:2<=d) (hm:m<64) : ∃ h',cl d (.fn F.jfT) [.agg (setV f),.i (m:Int)] h=some (.agg (setV (delS f m)),h')/\Old h h':=by
 have e0:=jld hcl (d:=d-1) (fd:=(m:Int)) (h:=(h.new (.cells (setV f) false)).new (.cells [.int .u32 0,.int .u32 0] false)) om
 refine jak (at_ hcl om rfl rfl rfl ?_)
 rw [decide_eq_true (show fitS (m:Int) from ⟨by omega,by omega⟩)] at e0
 by_cases h32:m<32
 ·have hq:IntKind.i64.wrap ((m:Int).tdiv 32)=0:=by
   rw [Int.tdiv_eq_ediv_of_nonneg om,show (m:Int)/32=0 by omega];rfl
  have hr:(m:Int).tmod 32=(m:Int):=by rw [Int.tmod_eq_emod_of_nonneg om];omega
  have e1:=jlQ f (fun i=>decide (i=m))
  rw [<- shl32 h32] at e1
  refine qm1 ?_
  rw [hq]
  refine qm1 ?_
  rw [hr,Int.toNat_natCast]
  have e2:(setV f).set (0+Int.toNat 0*1) (V.int .u32 (IntKind.u32.wrap ((BitVec.ofInt IntKind.u32.bits ((mk f 32:Nat):Int) &&& ~~~BitVec.ofInt IntKind.u32.bits (IntKind.u32.wrap (1*2 ^ m.min IntKind.u32.bits))).toNat:Int)))=setV (delS f m):=by
   rw [del_lo f h32]
   show [V.int .u32 (IntKind.u32.wrap ((BitVec.ofInt 32 ((mk f 32:Nat):Int) &&& ~~~BitVec.ofInt 32 (IntKind.u32.wrap (1*2 ^ m.min 32))).toNat:Int)),_]=_
   rw [e1]
  rw [e2]
  refine qm1 ?_
  have e3:List.take 2 (List.drop 0 (setV (delS f m)))=setV (delS f m):=rfl
  rw [e3]
  refine Ops.storeN (vs:=setV (delS f m)) (l:=[.int .u32 0,.int .u32 0]) (b:=h.nx+1) rfl rfl rfl rfl qgt (Nat.le_of_ble_eq_true rfl) ?_
  rw [jan (setV (delS f m)) [.int .u32 0,.int .u32 0] rfl]
  refine qm1 ?_
  refine jaD (l:=setV (delS f m)) rfl (jab _) rfl ⟨rfl,?_⟩
  exact ((Old.refl h).new.new.set (Nat.le_refl _)).set om
 ·obtain ⟨k,rfl⟩ : ∃ k,m=k+32:=⟨m-32,by omega⟩
  have hk:k<32:=by omega
  have hq:IntKind.i64.wrap (((k+32:Nat):Int).tdiv 32)=1:=by
   rw [Int.tdiv_eq_ediv_of_nonneg om,show ((k+32:Nat):Int)/32=1 by omega];rfl
  have hr:((k+32:Nat):Int).tmod 32=(k:Int):=by rw [Int.tmod_eq_emod_of_nonneg om];omega
  have e1:=jlQ (fun i=>f (i+32)) (fun i=>decide (i=k))
  rw [<- shl32 hk] at e1
  refine qm1 ?_
  rw [hq]
  refine qm1 ?_
  rw [hr,Int.toNat_natCast]
  have e2:(setV f).set (0+Int.toNat 1*1) (V.int .u32 (IntKind.u32.wrap ((BitVec.ofInt IntKind.u32.bits ((mk (fun i=>f (i+32)) 32:Nat):Int) &&& ~~~BitVec.ofInt IntKind.u32.bits (IntKind.u32.wrap (1*2 ^ k.min IntKind.u32.bits))).toNat:Int)))=setV (delS f (k+32)):=by
   rw [del_hi f]
   show [_,V.int .u32 (IntKind.u32.wrap ((BitVec.ofInt 32 ((mk (fun i=>f (i+32)) 32:Nat):Int) &&& ~~~BitVec.ofInt 32 (IntKind.u32.wrap (1*2 ^ k.min 32))).toNat:Int))]=_
   rw [e1]
  rw [e2]
  refine qm1 ?_
  have e3:List.take 2 (List.drop 0 (setV (delS f (k+32))))=setV (delS f (k+32)):=rfl
  rw [e3]
  refine Ops.storeN (vs:=setV (delS f (k+32))) (l:=[.int .u32 0,.int .u32 0]) (b:=h.nx+1) rfl rfl rfl rfl qgt (Nat.le_of_ble_eq_true rfl) ?_
  rw [jan (setV (delS f (k+32))) [.int .u32 0,.int .u32 0] rfl]
  refine qm1 ?_
  refine jaD (l:=setV (delS f (k+32))) rfl (jab _) rfl ⟨rfl,?_⟩
  exact ((Old.refl h).new.new.set (Nat.le_refl _)).set om
end
end Am.Sigs
