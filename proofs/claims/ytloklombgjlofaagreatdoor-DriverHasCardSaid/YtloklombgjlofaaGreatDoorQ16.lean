/- Our own library, part 16. -/
import Derived.Test.YtloklombgjlofaaGreatDoorQ15
import Derived.Test.YtloklombgjlofaaGreatDoorQ01
import Derived.Test.YtloklombgjlofaaGreatDoorQ11
set_option maxHeartbeats 8000000
set_option maxRecDepth 800
set_option linter.all false
namespace Am.Sigs
open Am Go
instance (fd:Int):Decidable (inFd fd):=inferInstanceAs (Decidable (_/\_))
def dcc (w:Nat) (k:Int) (f:Nat->Int):List V := .p w 0 :: .i k :: (tab 96 (fun i=>V.i (f i))++[.i 0])
section
variable {w i o:Nat} {k v:Int} {f:Nat->Int}
theorem dcc_n (ho:o=98):(dcc w k f)[o]?=some (.i 0):=by
 subst ho
 show (tab 96 (fun i=>V.i (f i))++[V.i 0])[96]?=_
 rw [List.getElem?_append_right Zd]
 simp
theorem dcc_len:(dcc w k f).length=99:=by simp [dcc]
theorem dcc_set (hi:i<96) (ho:o=2+i):(dcc w k f).set o (.i v)=dcc w k (put1 f i v):=by
 subst ho
 rw [show 2+i=i+1+1 by omega]
 show V.p w 0 :: V.i k :: ((tab 96 (fun i=>V.i (f i))++[V.i 0]).set i (.i v))=_
 rw [List.set_append,if_pos (by simpa using hi),jdw]
 unfold dcc
 rw [jce (g:=fun j=>V.i (put1 f i v j)) (fun k _=>by unfold put1;split<;>rfl)]
end
section
variable {cl:Nat->Call} (hcl:Sem cl) {d D E L w s:Nat} {kv:V} {h:H} {ow:Nat->Nat} {ws:Ws} {now:Int} {tb:Tb} {no:Option (Nat × Nat)} {k room fd n:Int} {f:Nat->Int}
include hcl
theorem pd_none (hd:1<=d) (hD:h.get D=some (.cells (dcc w k f) false)):cl d (.fn F.jcO) [.p D 0] h=some (.bool false,h):=by
 have h0:(dcc w k f)[0+0]?=some (.p w 0):=rfl
 refine jar (at_ hcl om rfl rfl rfl ?_)
 refine qx1 ?_
 exact ⟨rfl,rfl⟩
theorem pd_known (hd:1<=d) (hf:inFd fd):cl d (.fn F.jdS) [.i fd] h=some (.bool true,h):=by
 obtain ⟨f0,f1⟩:=hf
 refine jar (at_ hcl om rfl rfl rfl ?_)
 refine qx1 ?_
 exact ⟨by rw [decide_eq_true f1],rfl⟩
theorem jig (hd:1<=d) (hf : ¬ inFd fd):cl d (.fn F.jdS) [.i fd] h=some (.bool false,h):=by
 unfold inFd at hf
 refine jar (at_ hcl om rfl rfl rfl ?_)
 by_cases f0:0<=fd
 ·have f1 : ¬ fd<=95:=by omega
  refine qx1 ?_
  exact ⟨by rw [decide_eq_false f1],rfl⟩
 ·refine qx1 ?_
  exact ⟨rfl,rfl⟩
theorem pd_may (hd:5<=d) (a:WSt h w s ow ws now tb no) (o:WsOk ws) (op:(rdyS ws fd).op=true) (hD:h.get D=some (.cells (dcc w k f) false)) (lD:D<h.nx) :
  ∃ h',cl d (.fn F.jdh) [.p D 0,.i fd] h=some (.i (if k=1/\64<=fd then 190 else 0),h')/\Old h h':=by
 obtain ⟨h1,e1,o1⟩:=jgW hcl (d:=d-1) (fd:=fd) om a o
 rw [jiQ] at e1
 have hD1:h1.get D=some (.cells (dcc w k f) false):=by rw [o1.2 D lD,hD]
 have q0:(dcc w k f)[0+0]?=some (.p w 0):=rfl
 have q1:(dcc w k f)[0+1]?=some (.i k):=rfl
 generalize rdyS ws fd=r at e1 op
 obtain ⟨op',_,_,_,_,_,_⟩:=r
 obtain rfl:op'=true:=op
 replace e1:cl (d-1) (.fn F.jaP) [.p w 0,.i fd] h=some (.agg [.bool true,_,_,_,_,_,_],h1):=e1
 clear a o
 refine jbp (at_ hcl om rfl rfl rfl ?_)
 by_cases h1:k=1
 ·by_cases h2:64<=fd
  ·rw [if_pos ⟨h1,h2⟩]
   refine qx1 ?_
   exact ⟨rfl,o1⟩
  ·rw [if_neg (fun e=>h2 e.2)]
   refine qx1 ?_
   exact ⟨rfl,o1⟩
 ·rw [if_neg (fun e=>h1 e.1)]
  refine qx1 ?_
  exact ⟨rfl,o1⟩
theorem pd_Set (hd:6<=d) (hn:n=2\/n=34) (a:WSt h w s ow ws now tb no) (o:WsOk ws) (op:inFd fd->(rdyS ws fd).op=true) (hD:h.get D=some (.cells (dcc w k f) false)) (lD:D<h.nx) :
  ∃ h' f',cl d (.fn F.jbE) [.p D 0,.i fd,.i n] h=some (.i (if inFd fd then (if k=1/\64<=fd then 190 else if n=2 then 0 else 191) else 2),h')/\Ch (fun j=>j=D) h h'/\h'.get D=some (.cells (dcc w k f') false):=by
 suffices q : ∃ v h',cl d (.fn F.jbE) [.p D 0,.i fd,.i n] h=some (v,h')/\v = .i (if inFd fd then (if k=1/\64<=fd then 190 else if n=2 then 0 else 191) else 2)/\Ch (fun j=>j=D) h h' /\ ∃ f',h'.get D=some (.cells (dcc w k f') false) by
  obtain ⟨_,h',e,rfl,c,f',q⟩:=q;exact ⟨h',f',e,c,q⟩
 have e1:=pd_none hcl (d:=d-1) om hD
 by_cases hf:inFd fd
 case neg=>
  have e2:=jig hcl (d:=d-1) (h:=h) om hf
  rw [if_neg hf]
  refine at_ hcl om rfl rfl rfl ?_
  clear hn a o op hf
  refine qx1 ?_
  exact ⟨rfl,Ch.refl _ _,_,hD⟩
 have e2:=pd_known hcl (d:=d-1) (h:=h) om hf
 obtain ⟨h1,e3,o1⟩:=pd_may hcl (d:=d-1) (fd:=fd) om a o (op hf) hD lD
 have hD1:h1.get D=some (.cells (dcc w k f) false):=by rw [o1.2 D lD,hD]
 rw [if_pos hf]
 obtain ⟨f0,f1⟩:=id hf
 have q98:(dcc w k f)[0+98]?=some (.i 0):=dcc_n rfl
 have ne : ¬ fd+1=0:=by omega
 have hl:0+2+fd.toNat*1<(dcc w k f).length:=by rw [dcc_len];omega
 have hs:=dcc_set (w:=w) (k:=k) (f:=f) (i:=fd.toNat) (o:=0+2+fd.toNat*1) (v:=n) om om
 clear hf a o op
 refine at_ hcl om rfl rfl rfl ?_
 by_cases hm:k=1/\64<=fd
 ·rw [if_pos hm] at e3 ⊢
  clear hm hs hl
  rcases hn with rfl | rfl
  all_goals
   repeat' (first|refine qxy ?_|refine zbf rfl (fun _=>?_) fun _=>?_|refine zbg rfl (fun _=>?_) fun _=>?_|refine zbh rfl (fun _=>?_) fun _=>?_|refine zbm rfl (fun _=>?_) fun _=>?_|refine zbn rfl (fun _=>?_) fun _=>?_)
   exact ⟨rfl,o1.ch,_,hD1⟩
 ·rw [if_neg hm] at e3 ⊢
  clear hm
  rcases hn with rfl | rfl
  ·have ke:V.i 0=V.i (if (2:Int)=2 then 0 else 191)/\Ch (fun j=>j=D) h (h1.set D (.cells (dcc w k (put1 f fd.toNat 2)) false)) /\ ∃ f',(h1.set D (.cells (dcc w k (put1 f fd.toNat 2)) false)).get D=some (.cells (dcc w k f') false) :=
    ⟨rfl,o1.ch.trans (Ch.set rfl),_,jab _⟩
   rw [<- hs] at ke
   generalize dcc w k f=W at hD hD1 q98 hl hs ke
   refine qx1 ?_
   refine Ops.store1 rfl rfl rfl hD1 hl ?_
   refine qx1 ?_
   obtain ⟨k1,k2,f',k3⟩:=ke
   exact ⟨k1,k2,f',k3⟩
  ·refine qx1 ?_
   exact ⟨rfl,o1.ch,_,hD1⟩
end
def pwS (n:Nat):Ws:=(List.range n).map fun i=>newW 1 1 ((2*i:Nat):Int) ((2*i+1:Nat):Int)
theorem jiS {i n k:Nat} {fd:Int} : AtW (pwS i) n k fd↔n<i/\((k=0/\fd=((2*n:Nat):Int))\/(k=1/\fd=((2*n+1:Nat):Int))):=by
 unfold AtW pwS
 simp only [List.getElem?_map]
 constructor
 ·rintro ⟨x,hx,hk,h1,h2⟩
  by_cases hn:n<i
  ·rw [List.getElem?_range hn] at hx
   cases hx
   refine ⟨hn,?_⟩
   rcases hk with rfl | rfl
   ·exact .inl ⟨rfl,h2.symm⟩
   ·exact .inr ⟨rfl,h2.symm⟩
  ·rw [zc Zc] at hx;cases hx
 ·rintro ⟨hn,h⟩
  rw [List.getElem?_range hn]
  refine ⟨_,rfl,?_⟩
  rcases h with ⟨rfl,rfl⟩ | ⟨rfl,rfl⟩
  ·exact ⟨.inl rfl,rfl,rfl⟩
  ·exact ⟨.inr rfl,rfl,rfl⟩
theorem jhj {i j:Nat} : (atS (pwS i) (j:Int)).isNone=decide (2*i<=j):=by
 by_cases h:2*i<=j
 ·rw [decide_eq_true h,jds fun n k a=>by
   obtain ⟨hn,h1 | h1⟩:=jiS.1 a
   ·have:=h1.2;omega
   ·have:=h1.2;omega]
  rfl
 ·rw [decide_eq_false h]
  cases e:atS (pwS i) (j:Int) with
  | some p=>rfl
  | none=>
   have q:=jjA e
   rcases Nat.mod_two_eq_zero_or_one j with m | m
   ·exact absurd (jiS.2 ⟨show j/2<i by omega,.inl ⟨rfl,by omega⟩⟩) (q (j/2) 0)
   ·exact absurd (jiS.2 ⟨show j/2<i by omega,.inr ⟨rfl,by omega⟩⟩) (q (j/2) 1)
theorem jhU : ∀ i,i<48->(List.range 96).filter (fun j=>decide (2*i<=j))=List.range' (2*i) (96-2*i):=by decide +kernel
theorem pwS_free {i:Nat} (hi:i<48):jan (pwS i) 96=(List.range' (2*i) (96-2*i)).map fun j:Nat=>(j:Int):=by
 unfold jan
 rw [<- jhU i hi]
 congr 1
 apply List.filter_congr
 intro j _
 exact jhj
theorem jhk {i:Nat} (hi:i<48):jaS (pwS i) 1 1=(([((2*i:Nat):Int),((2*i+1:Nat):Int)],0),pwS (i+1)):=by
 unfold jaS
 rw [if_neg om,pwS_free hi]
 obtain ⟨m,hm⟩ : ∃ m,96-2*i=m+1+1:=⟨94-2*i,by omega⟩
 rw [hm,List.range'_succ,List.range'_succ]
 have hl:(pwS i).length=i:=by simp [pwS]
 simp only [List.map_cons]
 rw [if_neg (by rintro (⟨h,_⟩ | h);· cases h
                ·omega)]
 have e:pwS (i+1)=pwS i++[newW 1 1 ((2*i:Nat):Int) ((2*i+1:Nat):Int)]:=by
  unfold pwS
  rw [List.range_succ,List.map_append];rfl
 rw [e]
 rfl
theorem jiR : ∀ i,i<=48->WsK (pwS i)
 | 0,_=>st0_ok.K
 | i+1,h=>by
  have:=jh0 (n:=1) (.inr (.inl rfl)) (jiR i om)
  rw [jhk om] at this
  exact this
theorem jhi {fd:Int} (h0:0<=fd) (h1:fd<=95):(rdyS (pwS 48) fd).op=true:=by
 obtain ⟨j,rfl⟩:=zw h0
 have hn:(atS (pwS 48) (j:Int)).isNone=false:=by rw [jhj,decide_eq_false om]
 unfold rdyS jcP
 cases e:atS (pwS 48) (j:Int) with
 | none=>rw [e] at hn;cases hn
 | some p=>
  obtain ⟨n,k⟩:=p
  obtain ⟨x,hx,_⟩:=atS_at e
  dsimp only
  rw [hx]
  unfold Wi.rdy
  dsimp only
  split<;>rfl
section
variable {cl:Nat->Call} (hcl:Sem cl)
include hcl
theorem nw_alone {d:Nat} (hd:2<=d) (h:H) (hf : ∀ j,h.nx<=j->h.get j=none) : ∃ w s ow h',cl d (.fn F.jfy) [] h=some (.p w 0,h')/\WSt h' w s ow [] 0 Tb.zero none/\Old h h' /\ ∀ j,j<h.nx->ow j=0:=by
 have e1:=nw_world hcl (d:=d) hd h
 refine ⟨h.nx+1,h.nx,fun j=>if j=h.nx then 3 else if j=h.nx+1 then 1 else 0,_,e1,⟨[],⟨⟨⟨.nils,?_,Row.nil _ _ _,fun z hz=>by cases hz⟩,?_,?_,?_,?_,?_,fun j hj=>?_,fun n t ht=>by simp at ht⟩,fun n k fd hat=>?_⟩,rfl⟩,(Old.refl h).new.new,fun j hj=>?_⟩
 ·have e:=wc0_eq h.nx
  show _=some (Obj.cells (wc (fun i=>atS [] (i:Int)) .nils h.nx 0 none) false)
  rw [<- e]
  exact qgt
 ·exact qgt
 ·show (if h.nx+1=h.nx then 3 else if h.nx+1=h.nx+1 then 1 else 0)=1
  rw [if_neg om,if_pos rfl]
 ·show (if h.nx=h.nx then 3 else if h.nx=h.nx+1 then 1 else 0)=3
  rw [if_pos rfl]
 ·simp<;>omega
 ·simp<;>omega
 ·have hj:h.nx+2<=j:=hj
  show (if j=h.nx then 3 else if j=h.nx+1 then 1 else 0)=0
  rw [if_neg om,if_neg om]
 ·obtain ⟨x,hx,_⟩:=hat;simp at hx
 ·show (if j=h.nx then 3 else if j=h.nx+1 then 1 else 0)=0
  rw [if_neg om,if_neg om]
end
end Am.Sigs
namespace Am
open Go
noncomputable def jjt (n:Nat) (f:Nat->Option V):Option V:=Nat.rec (f 0) (fun k _=>f (Nat.succ k)) n
theorem jfT (n:Nat) (f:Nat->Option V):jjt n f=f n:=by cases n<;>rfl
noncomputable def jbR (k:IntKind) (n:Int):Option V:=Int.rec (fun m=>jjt m fun m=>some (.int k (.ofNat m))) (fun m=>jjt m fun m=>some (.int k (.negSucc m))) n
theorem jaF (k:IntKind) (n:Int):jbR k n=some (.int k n):=by
 cases n with
 | ofNat m=>unfold jbR;exact jfT m _
 | negSucc m=>unfold jbR;exact jfT m _
noncomputable def maxN:IntKind->Nat
 | .i8=>127 | .i16=>32767 | .i32=>2147483647 | .i64=>9223372036854775807
 | .u8=>255 | .u16=>65535 | .u32=>4294967295 | .u64=>18446744073709551615
noncomputable def minN:IntKind->Nat
 | .i8=>128 | .i16=>32768 | .i32=>2147483648 | .i64=>9223372036854775808
 | _=>0
noncomputable def jdu (k:IntKind) (n:Int):Int:=Int.rec (fun m=>bif Nat.ble m (maxN k) then n else k.wrap n) (fun m=>bif Nat.blt m (minN k) then n else k.wrap n) n
theorem jaT (k:IntKind) (n:Int):jdu k n=k.wrap n:=by
 cases n with
 | ofNat m=>
  show (bif Nat.ble m (maxN k) then (Int.ofNat m) else k.wrap (Int.ofNat m))=_
  cases e:Nat.ble m (maxN k)
  ·rfl
  ·have h:=zq e
   have h0:Int.ofNat m=(m:Int):=rfl
   cases k<;>simp only [maxN] at h<;>simp only [cond_true,IntKind.wrap,IntKind.bits,IntKind.signed,h0]<;>(try simp only [Bool.false_and,Bool.true_and,decide_eq_true_eq,Bool.false_eq_true,if_false])<;>(first | omega | (split<;>omega))
 | negSucc m=>
  show (bif Nat.blt m (minN k) then (Int.negSucc m) else k.wrap (Int.negSucc m))=_
  cases e:Nat.blt m (minN k)
  ·rfl
  ·have h:m<minN k:=zq e
   have h0:Int.negSucc m = -(m:Int)-1:=by omega
   cases k<;>simp only [minN] at h<;>(try omega)<;>simp only [cond_true,IntKind.wrap,IntKind.bits,IntKind.signed,h0]<;>(try simp only [Bool.true_and,decide_eq_true_eq])<;>(split<;>omega)
noncomputable def ltF:Int->Int->Bool
 | .ofNat a,.ofNat b=>Nat.blt a b
 | .ofNat _,.negSucc _=>false
 | .negSucc _,.ofNat _=>true
 | .negSucc a,.negSucc b=>Nat.blt b a
theorem jj7 (a b:Nat):Nat.blt a b=decide (a<b):=by
 by_cases h:a<b
 ·rw [decide_eq_true h];exact Nat.ble_eq_true_of_le h
 ·rw [decide_eq_false h]
  cases e:Nat.blt a b
  ·rfl
  ·exact absurd (zq e) h
theorem jh1 (a b:Int):ltF a b=decide (a<b):=by
 cases a with
 | ofNat a=>cases b with
  | ofNat b=>simp only [ltF,jj7];exact decide_eq_decide.2 (show a<b↔((a:Nat):Int)<((b:Nat):Int) by omega)
  | negSucc b=>simp only [ltF];symm;rw [decide_eq_false_iff_not];show ¬ ((a:Nat):Int)<Int.negSucc b;omega
 | negSucc a=>cases b with
  | ofNat b=>simp only [ltF];symm;rw [decide_eq_true_eq];show Int.negSucc a<((b:Nat):Int);omega
  | negSucc b=>simp only [ltF,jj7];exact decide_eq_decide.2 om
noncomputable def eqF:Int->Int->Bool
 | .ofNat a,.ofNat b=>Nat.beq a b
 | .negSucc a,.negSucc b=>Nat.beq a b
 | _,_=>false
theorem jh5 (a b:Int):eqF a b=(a == b):=by
 cases a with
 | ofNat a=>cases b with
  | ofNat b=>
   simp only [eqF]
   by_cases h:a=b
   ·subst h;simp
   ·have h2:(Int.ofNat a == Int.ofNat b)=false:=by rw [beq_eq_false_iff_ne];intro e;exact h (by injection e)
    rw [h2]
    cases e:Nat.beq a b
    ·rfl
    ·exact absurd (Nat.eq_of_beq_eq_true e) h
  | negSucc b=>simp only [eqF];symm;rw [beq_eq_false_iff_ne];intro e;cases e
 | negSucc a=>cases b with
  | ofNat b=>simp only [eqF];symm;rw [beq_eq_false_iff_ne];intro e;cases e
  | negSucc b=>
   simp only [eqF]
   by_cases h:a=b
   ·subst h;simp
   ·have h2:(Int.negSucc a == Int.negSucc b)=false:=by rw [beq_eq_false_iff_ne];intro e;exact h (by injection e)
    rw [h2]
    cases e:Nat.beq a b
    ·rfl
    ·exact absurd (Nat.eq_of_beq_eq_true e) h
noncomputable def subF:Int->Int->Int
 | .ofNat a,.ofNat b=>bif Nat.ble b a then .ofNat (Nat.sub a b) else Int.sub (.ofNat a) (.ofNat b)
 | a,b=>Int.sub a b
theorem subF_eq (a b:Int):subF a b=a-b:=by
 cases a with
 | ofNat a=>cases b with
  | ofNat b=>
   show (bif Nat.ble b a then Int.ofNat (Nat.sub a b) else Int.sub (.ofNat a) (.ofNat b))=_
   cases e:Nat.ble b a
   ·rfl
   ·have h:=zq e
    show ((a-b:Nat):Int)=(a:Int)-(b:Int)
    omega
  | negSucc _=>rfl
 | negSucc _=>rfl
noncomputable def ikN:IntKind->Nat
 | .i8=>0 | .i16=>1 | .i32=>2 | .i64=>3 | .u8=>4 | .u16=>5 | .u32=>6 | .u64=>7
noncomputable def ikEq (a b:IntKind):Bool:=Nat.beq (ikN a) (ikN b)
theorem ikEq_eq (a b:IntKind):ikEq a b=(a == b):=by cases a<;>cases b<;>rfl
noncomputable def i_add (k:IntKind) (a b:Int):Option V:=jbR k (jdu k (Int.add a b))
noncomputable def i_sub (k:IntKind) (a b:Int):Option V:=jbR k (jdu k (subF a b))
noncomputable def i_mul (k:IntKind) (a b:Int):Option V:=jbR k (jdu k (Int.mul a b))
noncomputable def i_eql (_:IntKind) (a b:Int):Option V:=some (.bool (eqF a b))
noncomputable def i_neq (_:IntKind) (a b:Int):Option V:=some (.bool !(eqF a b))
noncomputable def i_lss (_:IntKind) (a b:Int):Option V:=some (.bool (ltF a b))
noncomputable def i_gtr (_:IntKind) (a b:Int):Option V:=some (.bool (ltF b a))
noncomputable def i_leq (_:IntKind) (a b:Int):Option V:=some (.bool !(ltF b a))
noncomputable def i_geq (_:IntKind) (a b:Int):Option V:=some (.bool !(ltF a b))
noncomputable def jkd (k:IntKind) (a b:Int):Option V:=bif eqF b 0 then none else jbR k (jdu k (a.tdiv b))
noncomputable def jkc (k:IntKind) (a b:Int):Option V:=bif eqF b 0 then none else jbR k (a.tmod b)
noncomputable def toF (k:IntKind):Int->Nat
 | .ofNat a=>Nat.mod a (Nat.pow 2 k.bits)
 | .negSucc a=>Nat.sub (Nat.pow 2 k.bits) (Nat.succ (Nat.mod a (Nat.pow 2 k.bits)))
theorem jcQ (k:IntKind) (a:Int):toF k a=(BitVec.ofInt k.bits a).toNat:=by
 have hp:0<2 ^ k.bits:=Nat.pow_pos (by decide)
 rw [BitVec.toNat_ofInt]
 cases a with
 | ofNat a=>show a%2 ^ k.bits=_;rfl
 | negSucc a=>
  show 2 ^ k.bits-Nat.succ (a%2 ^ k.bits)=_
  have h1:a%2 ^ k.bits<2 ^ k.bits:=Nat.mod_lt _ hp
  have h2:=Nat.div_add_mod a (2 ^ k.bits)
  have h3:Int.negSucc a = -(a:Int)-1:=by omega
  have h4:(Int.negSucc a)%((2 ^ k.bits:Nat):Int)=((2 ^ k.bits-Nat.succ (a%2 ^ k.bits):Nat):Int):=by
   have e:Int.negSucc a=((2 ^ k.bits-Nat.succ (a%2 ^ k.bits):Nat):Int)+((2 ^ k.bits:Nat):Int)*(-((a/2 ^ k.bits:Nat):Int)-1):=by
    rw [h3,Int.mul_sub,Int.mul_neg,Int.mul_one]
    have h5:(a:Int)=((2 ^ k.bits:Nat):Int)*((a/2 ^ k.bits:Nat):Int)+((a%2 ^ k.bits:Nat):Int):=by exact_mod_cast h2.symm
    omega
   rw [e,Int.add_mul_emod_self_left]
   exact Int.emod_eq_of_lt om om
  rw [h4];rfl
noncomputable def i_and (k:IntKind) (a b:Int):Option V:=jbR k (jdu k (.ofNat (Nat.land (toF k a) (toF k b))))
noncomputable def i_or (k:IntKind) (a b:Int):Option V:=jbR k (jdu k (.ofNat (Nat.lor (toF k a) (toF k b))))
noncomputable def i_xor (k:IntKind) (a b:Int):Option V:=jbR k (jdu k (.ofNat (Nat.xor (toF k a) (toF k b))))
noncomputable def i_andNot (k:IntKind) (a b:Int):Option V:=jbR k (jdu k (.ofNat (Nat.land (toF k a) (Nat.sub (Nat.sub (Nat.pow 2 k.bits) 1) (toF k b)))))
noncomputable def minF (a b:Nat):Nat:=bif Nat.ble a b then a else b
noncomputable def jkw (k:IntKind) (a b:Int):Option V:=Int.rec (fun b=>jbR k (jdu k (Int.mul a (.ofNat (Nat.pow 2 (minF b k.bits)))))) (fun _=>none) b
noncomputable def jkv (k:IntKind) (a b:Int):Option V:=Int.rec (fun b=>Int.rec (fun a=>jbR k (.ofNat (Nat.div a (Nat.pow 2 (minF b k.bits))))) (fun a=>jbR k (Int.fdiv (.negSucc a) (2 ^ (Nat.min b k.bits)))) a) (fun _=>none) b
noncomputable def jh4 (op:BinOp):IntKind->Int->Int->Option V :=
 match op with
 | .add=>i_add
 | .sub=>i_sub
 | .mul=>i_mul
 | .quo=>jkd
 | .rem=>jkc
 | .and=>i_and
 | .or=>i_or
 | .xor=>i_xor
 | .andNot=>i_andNot
 | .eql=>i_eql
 | .neq=>i_neq
 | .lss=>i_lss
 | .leq=>i_leq
 | .gtr=>i_gtr
 | .geq=>i_geq
 | .shl=>jkw
 | .shr=>jkv
theorem je2 (a b:Int):(!decide (b<a))=decide (a<=b):=by by_cases h:b<a<;>simp [h]<;>omega
theorem jjg (a b:Nat):minF a b=Nat.min a b:=by
 unfold minF
 cases e:Nat.ble a b
 ·have : ¬ a<=b:=fun h=>by rw [Nat.ble_eq_true_of_le h] at e;cases e
  simp only [cond_false];exact (Nat.min_eq_right om).symm
 ·exact (Nat.min_eq_left (zq e)).symm
theorem intOpF_eq (op:BinOp) (k:IntKind) (a b:Int):jh4 op k a b=jaO op k a b:=by
 cases op
 case add=>exact (jaF _ _).trans (by rw [jaT];rfl)
 case sub=>exact (jaF _ _).trans (by rw [jaT,subF_eq];rfl)
 case mul=>exact (jaF _ _).trans (by rw [jaT];rfl)
 case quo=>show jkd k a b=_;unfold jkd;rw [jh5,jaF,jaT];rfl
 case rem=>show jkc k a b=_;unfold jkc;rw [jh5,jaF];rfl
 case and=>exact (jaF _ _).trans (by rw [jaT,jcQ,jcQ];simp only [jaO,BitVec.toNat_and];rfl)
 case or=>exact (jaF _ _).trans (by rw [jaT,jcQ,jcQ];simp only [jaO,BitVec.toNat_or];rfl)
 case xor=>exact (jaF _ _).trans (by rw [jaT,jcQ,jcQ];simp only [jaO,BitVec.toNat_xor];rfl)
 case andNot=>exact (jaF _ _).trans (by rw [jaT,jcQ,jcQ];simp only [jaO,BitVec.toNat_and,BitVec.toNat_not];rfl)
 case shl=>
  cases b with
  | negSucc b=>simp [jh4,jkw,jaO]
  | ofNat b=>
   refine (jaF _ _).trans ?_
   have h1:decide ((Int.ofNat b)<0)=false:=by simp
   simp only [jaO,h1,cond_false,jaT,jjg]
   congr 3
 case shr=>
  cases b with
  | negSucc b=>simp [jh4,jkv,jaO]
  | ofNat b=>
   have h1:decide ((Int.ofNat b)<0)=false:=by simp
   simp only [jaO,h1,cond_false]
   cases a with
   | negSucc a=>exact jaF _ _
   | ofNat a=>
    show jbR k (.ofNat (Nat.div a (Nat.pow 2 (minF b k.bits))))=_
    rw [jaF,jjg]
    congr 2
    have h2:((2:Int) ^ (Nat.min b k.bits))=((2 ^ (Nat.min b k.bits):Nat):Int):=(Int.natCast_pow 2 _).symm
    have h3:Int.fdiv (Int.ofNat a) ((2 ^ (Nat.min b k.bits):Nat):Int)=((a/2 ^ (Nat.min b k.bits):Nat):Int):=Int.ofNat_fdiv a _ |>.symm
    show _=Int.fdiv (Int.ofNat a) (2 ^ (Nat.min b k.bits))
    rw [h2,h3];rfl
 case eql=>show some _=some _;rw [jh5]
 case neq=>show some (V.bool !(eqF a b))=_;rw [jh5];rfl
 case lss=>show some (V.bool (ltF a b))=_;rw [jh1];rfl
 case gtr=>show some (V.bool (ltF b a))=_;rw [jh1];rfl
 case leq=>show some (V.bool !(ltF b a))=_;rw [jh1,je2];rfl
 case geq=>show some (V.bool !(ltF a b))=_;rw [jh1,je2];rfl
noncomputable def jj8 (op:BinOp):V->V->Option V
 | .int k a,.int k' b=>bif jaL op||ikEq k k' then jh4 op k a b else none
 | .str a,.str b=>jjH op a b
 | _,_=>none
theorem binOpF_eq (op:BinOp) (a b:V):jj8 op a b=binOp op a b:=by
 cases a<;>cases b<;>first | rfl | (simp only [jj8,binOp,ikEq_eq,intOpF_eq])
noncomputable def getF (e:Env) (s:Nat):Option V:=List.rec (motive:=fun _=>Option V) none (fun p _ ih=>bif Nat.beq p.1 s then some p.2 else ih) e
theorem jfg : ∀ (e:Env) (s:Nat),getF e s=e.get s
 | [],_=>rfl
 | (k,v) :: r,s=>by
  show (bif Nat.beq k s then some v else getF r s)=_
  rw [jfg r s];rfl
noncomputable def evF (x:Opd) (e:Env):Option V:=Opd.rec (fun s=>getF e s) (fun v=>some v) x
theorem jap (x:Opd) (e:Env):evF x e=x.ev e:=by
 cases x
 ·exact jfg _ _
 ·rfl
noncomputable def evsF (e:Env):List Opd->Option (List V)
 | []=>some []
 | x :: r=>match evF x e,evsF e r with
  | some v,some l=>some (v :: l)
  | _,_=>none
theorem jbK (e:Env) : ∀ l,evsF e l=evs e l
 | []=>rfl
 | x :: r=>by simp only [evsF,evs,jap,jbK e r];rfl
theorem jka (a b:Nat):Nat.beq a b=(a == b):=by
 by_cases h:a=b
 ·subst h;simp
 ·rw [show (a == b)=false by simpa using h]
  cases e:Nat.beq a b
  ·rfl
  ·exact absurd (Nat.eq_of_beq_eq_true e) h
noncomputable def fin1 (o:Option V) (h:H):Option (V × H):=Option.rec none (fun v=>some (v,h)) o
noncomputable def finA (o:Option (Obj × (Nat->V))) (h:H) (at_:Option Nat):Option (V × H):=match o with
 | some (ob,mk)=>match at_ with
  | none=>some (mk h.nx,h.new ob)
  | some b=>some (mk b,h.set b ob)
 | none=>none
theorem jaq (o:Option V) (h:H):fin1 o h=(match o with | some v=>some (v,h) | none=>none):=by cases o<;>rfl
noncomputable def jkr (x:Opd) (e:Env):Option V :=
 match evF x e with
  | some v=>some (v)
  | none=>none
noncomputable def jiT (c:Opd) (a:Opd) (b:Opd) (e:Env):Option V :=
 match evF c e with
  | some (.bool true)=>match evF a e with
   | some v=>some (v)
   | none=>none
  | some (.bool false)=>match evF b e with
   | some v=>some (v)
   | none=>none
  | _=>none
noncomputable def jhs (zero:List V) (parts:List (Nat × Nat × Opd)) (e:Env):Option V :=
 match ja8 e parts with
  | some ps=>match ja0 zero ps with
   | some l=>some (.agg l)
   | none=>none
  | none=>none
noncomputable def jhn (x:Opd) (e:Env):Option V :=
 match evF x e with
  | some (.ptr (some a))=>some (.ptr (some a))
  | some (.clo f c)=>some (.clo f c)
  | some (.yld l)=>some (.yld l)
  | some (.iface t v)=>some (.iface t v)
  | _=>none
noncomputable def jiU (name:String) (x:Opd) (e:Env):Option V :=
 match evF x e with
  | some (.iface t v)=>some (.bm name t v)
  | _=>none
noncomputable def jfE (name:String) (tbl:List (TypeId × FuncId)) (x:Opd) (e:Env):Option V :=
 match evF x e with
  | some (.bm n t v)=>bif n == name&&tbl.any (fun p=>p.1 == t) then some (.bm n t v) else none
  | _=>none
noncomputable def jjO (op:BinOp) (x:Opd) (y:Opd) (e:Env):Option V :=
 match evF x e,evF y e with
  | some a,some b=>match jj8 op a b with
   | some v=>some (v)
   | none=>none
  | _,_=>none
noncomputable def jks (k:EK) (neg:Bool) (x:Opd) (y:Opd) (e:Env):Option V :=
 match evF x e,evF y e with
  | some a,some b=>match eqOp k a b with
   | some r=>some (.bool (bif neg then !r else r))
   | none=>none
  | _,_=>none
noncomputable def jkq (op:UnOp) (x:Opd) (e:Env):Option V :=
 match evF x e with
  | some a=>match unOp op a with
   | some v=>some (v)
   | none=>none
  | none=>none
noncomputable def je0 (k:IntKind) (x:Opd) (e:Env):Option V :=
 match evF x e with
  | some (.int _ n)=>some (.int k (jdu k n))
  | _=>none
noncomputable def jif (x:Opd) (e:Env):Option V :=
 match evF x e with
  | some (.str s)=>some (.str s)
  | _=>none
noncomputable def jey (t:TypeId) (x:Opd) (e:Env):Option V :=
 match evF x e with
  | some v=>some (.iface t v)
  | none=>none
noncomputable def jho (f:FuncId) (cap:List Opd) (e:Env):Option V :=
 match evsF e cap with
  | some l=>some (.clo f l)
  | none=>none
noncomputable def jfD (x:Opd) (lo:Option Opd) (hi:Option Opd) (e:Env):Option V :=
 match evF x e,evo e lo,evo e hi with
  | some (.str s),some lo,some hi=>match jbm s.length s.length lo hi none with
   | some (l,r,_)=>some (.str ((s.take r).drop l))
   | none=>none
  | _,_,_=>none
noncomputable def jhm (sz:Nat) (x:Opd) (lo:Option Opd) (hi:Option Opd) (mx:Option Opd) (e:Env):Option V :=
 match evF x e,evo e lo,evo e hi,evo e mx with
  | some (.slice a len cap),some lo,some hi,some mx=>match jbm len (cap.room len) lo hi mx with
   | some (l,r,m)=>
    match a with
    | none=>some (.slice none 0 (.fix 0))
    | some (b,o)=>match cap,mx with
     | .grow q,none=>bif Nat.beq q sz then some (.slice (some (b,o+l*sz)) (r-l) (.grow q)) else none
     | _,_=>some (.slice (some (b,o+l*sz)) (r-l) (.fix (m-l)))
   | none=>none
  | _,_,_,_=>none
noncomputable def pf_sliceA (n:Nat) (sz:Nat) (x:Opd) (lo:Option Opd) (hi:Option Opd) (mx:Option Opd) (e:Env):Option V :=
 match evF x e,evo e lo,evo e hi,evo e mx with
  | some (.ptr (some (b,o))),some lo,some hi,some mx=>match jbm n n lo hi mx with
   | some (l,r,m)=>some (.slice (some (b,o+l*sz)) (r-l) (.fix (m-l)))
   | none=>none
  | _,_,_,_=>none
noncomputable def jhr (off:Nat) (x:Opd) (e:Env):Option V :=
 match evF x e with
  | some (.ptr (some (b,o)))=>some (.ptr (some (b,o+off)))
  | _=>none
noncomputable def jhq (off:Nat) (n:Option Nat) (x:Opd) (e:Env):Option V :=
 match evF x e with
  | some (.agg l)=>match part l off n with
   | some v=>some (v)
   | none=>none
  | _=>none
noncomputable def jja (len:Nat) (sz:Nat) (x:Opd) (i:Opd) (e:Env):Option V :=
 match evF x e,evF i e with
  | some (.ptr (some (b,o))),some (.int _ n)=>bif jbS n len then some (.ptr (some (b,o+n.toNat*sz))) else none
  | _,_=>none
noncomputable def jiZ (sz:Nat) (x:Opd) (i:Opd) (e:Env):Option V :=
 match evF x e,evF i e with
  | some (.slice (some (b,o)) len _),some (.int _ n)=>bif jbS n len then some (.ptr (some (b,o+n.toNat*sz))) else none
  | _,_=>none
noncomputable def jjN (len:Nat) (sz:Nat) (n:Option Nat) (x:Opd) (i:Opd) (e:Env):Option V :=
 match evF x e,evF i e with
  | some (.agg l),some (.int _ k)=>bif jbS k len then
    match part l (k.toNat*sz) n with
    | some v=>some (v)
    | none=>none
   else none
  | _,_=>none
noncomputable def jhp (x:Opd) (i:Opd) (e:Env):Option V :=
 match evF x e,evF i e with
  | some (.str s),some (.int _ n)=>bif jbS n s.length then
    match s[n.toNat]? with
    | some b=>some (jdZ b)
    | none=>none
   else none
  | _,_=>none
noncomputable def jie (t:TypeId) (zero:V) (ok:Bool) (x:Opd) (e:Env):Option V :=
 match evF x e with
  | some (.iface u v)=>bif Nat.beq u t then some (if ok then .tup [v,.bool true] else v) else if ok then some (.tup [zero,.bool false]) else none
  | some .nili=>if ok then some (.tup [zero,.bool false]) else none
  | _=>none
noncomputable def jiX (x:Opd) (e:Env):Option V :=
 match evF x e with
  | some (.str s)=>some (.int .i64 s.length)
  | _=>none
noncomputable def jiY (x:Opd) (e:Env):Option V :=
 match evF x e with
  | some (.slice _ n _)=>some (.int .i64 n)
  | _=>none
noncomputable def jez (x:Opd) (i:Nat) (e:Env):Option V :=
 match evF x e with
  | some (.tup l)=>match l[i]? with
   | some v=>some (v)
   | none=>none
  | _=>none
noncomputable def jiV (xs:List Opd) (e:Env):Option V :=
 match evsF e xs with
  | some (a :: r)=>match jfi minV a r with
   | some v=>some (v)
   | none=>none
  | _=>none
noncomputable def jiW (xs:List Opd) (e:Env):Option V :=
 match evsF e xs with
  | some (a :: r)=>match jfi maxV a r with
   | some v=>some (v)
   | none=>none
  | _=>none
noncomputable def jhe (a:Opd) (e:Env) (h:H):Option V :=
 match evF a e with
  | some (.ptr (some (b,o)))=>match h.load1 b o with
   | some v=>some (v)
   | none=>none
  | _=>none
noncomputable def jhd (n:Nat) (a:Opd) (e:Env) (h:H):Option V :=
 match evF a e with
  | some (.ptr (some (b,o)))=>match h.load b o n with
   | some l=>some (.agg l)
   | none=>none
  | _=>none
noncomputable def jet (x:Opd) (e:Env) (h:H):Option V :=
 match evF x e with
  | some (.slice none _ _)=>some (.str [])
  | some (.slice (some (b,o)) n _)=>bif n == 0 then some (.str []) else
   match h.load b o n with
   | some l=>match bytesOf l with
    | some s=>some (.str s)
    | none=>none
   | none=>none
  | _=>none
noncomputable def jf4 (ks:KS) (zero:V) (ok:Bool) (m:Opd) (k:Opd) (e:Env) (h:H):Option V :=
 match evF m e,evF k e with
  | some (.map none),some k=>match jct ks k [] with
   | some _=>some (if ok then .tup [zero,.bool false] else zero)
   | none=>none
  | some (.map (some r)),some k=>match h.map? r with
   | some (es,_)=>match jct ks k es with
    | some (some (_,v,_))=>some (if ok then .tup [v,.bool true] else v)
    | some none=>some (if ok then .tup [zero,.bool false] else zero)
    | none=>none
   | none=>none
  | _,_=>none
noncomputable def rf_lenM (x:Opd) (e:Env) (h:H):Option V :=
 match evF x e with
  | some (.map none)=>some (.int .i64 0)
  | some (.map (some r))=>match h.map? r with
   | some (es,_)=>some (.int .i64 es.length)
   | none=>none
  | _=>none
noncomputable def jhf (x:Opd) (e:Env) (h:H):Option V :=
 match evF x e with
  | some (.ptr (some (b,0)))=>match h.get b with
   | some (.iter (some r) _ seen last)=>match h.map? r,seen.getLast? with
    | some (es,c),some st=>bif Nat.beq c last then
      match es.find? (fun x=>Nat.beq x.2.2 st) with
      | some (k,v,_)=>some (.tup [k,v])
      | none=>none
     else none
    | _,_=>none
   | _=>none
  | _=>none
noncomputable def jhx (_x0:Nat) (zero:List V) (_e:Env):Option (Obj × (Nat->V)) :=
 some (.cells zero false,fun b=>.ptr (some (b,0)))
noncomputable def jjP (_x0:Nat) (x:Opd) (e:Env):Option (Obj × (Nat->V)) :=
 match evF x e with
  | some v=>some (.cells v.cells false,fun b=>.ptr (some (b,0)))
  | none=>none
noncomputable def jfK (sz:Nat) (len:Nat) (zero:List V) (parts:List (Nat × Opd)) (e:Env):Option (Obj × (Nat->V)) :=
 match ja8 e (parts.map fun p=>(p.1*sz,sz,p.2)) with
  | some ps=>match ja0 zero ps with
   | some l=>some (.cells l false,fun b=>.slice (some (b,0)) len (.fix len))
   | none=>none
  | none=>none
noncomputable def jik (x:Opd) (e:Env):Option (Obj × (Nat->V)) :=
 match evF x e with
  | some (.str s)=>bif Nat.ble s.length (2 ^ 46) then some (.cells (s.map jdZ) false,fun b=>.slice (some (b,0)) s.length (.grow 1)) else none
  | _=>none
noncomputable def jhw  (_e:Env):Option (Obj × (Nat->V)) :=
 some (.map [] 0,fun b=>.map (some b))
noncomputable def je3 (_x0:Nat) (bytes:Nat) (zero:List V) (len:Opd) (cap:Opd) (e:Env):Option (Obj × (Nat->V)) :=
 match len.ev e,cap.ev e with
  | some (.int _ (.ofNat l)),some (.int _ (.ofNat c))=>
   bif Nat.ble l c&&Nat.ble (c*bytes) (2 ^ 46)&&Nat.ble c (2 ^ 46) then some (.cells (List.replicate c zero).flatten false,fun b=>.slice (some (b,0)) l (.fix c)) else none
  | _,_=>none
noncomputable def jh7 (n:Nat) (a:Opd) (x:Opd) (_call:Call) (e:Env) (h:H):Option (V × H) :=
 match evF a e,evF x e with
  | some (.ptr (some (b,o))),some v=>
   bif Nat.beq v.cells.length n then
    match h.store b o v.cells with
    | some h'=>some (.undef,h')
    | none=>none
   else none
  | _,_=>none
noncomputable def jjw (ks:KS) (m:Opd) (k:Opd) (v:Opd) (_call:Call) (e:Env) (h:H):Option (V × H) :=
 match evF m e,evF k e,evF v e with
  | some (.map (some r)),some k,some v=>match h.map? r with
   | some (es,c)=>match jct ks k es with
    | some (some (i,_,born))=>some (.undef,h.set r (.map (es.set i (k,v,born)) c))
    | some none=>some (.undef,h.set r (.map (es++[(k,v,c)]) (c+1)))
    | none=>none
   | none=>none
  | _,_,_=>none
noncomputable def ef_mentry (ks:KS) (zero:V) (m:Opd) (k:Opd) (_call:Call) (e:Env) (h:H):Option (V × H) :=
 match evF m e,evF k e with
  | some (.map (some r)),some k=>match h.map? r with
   | some (es,c)=>match jct ks k es with
    | some (some (i,v,born))=>some (.tup [v,.int .i64 born],h.set r (.map (es.set i (k,v,born)) c))
    | some none=>some (.tup [zero,.int .i64 c],h.set r (.map (es++[(k,zero,c)]) (c+1)))
    | none=>none
   | none=>none
  | _,_=>none
noncomputable def ji0 (m:Opd) (s:Opd) (v:Opd) (_call:Call) (e:Env) (h:H):Option (V × H) :=
 match evF m e,evF s e,evF v e with
  | some (.map (some r)),some (.int _ st),some v=>match h.map? r with
   | some (es,c)=>match es.findIdx? (fun x=>(x.2.2:Int) == st) with
    | some i=>match es[i]? with
     | some x=>some (.undef,h.set r (.map (es.set i (x.1,v,x.2.2)) c))
     | none=>none
    | none=>none
   | none=>none
  | _,_,_=>none
noncomputable def jjx (ks:KS) (m:Opd) (k:Opd) (_call:Call) (e:Env) (h:H):Option (V × H) :=
 match evF m e,evF k e with
  | some (.map none),some k=>match jct ks k [] with
   | some _=>some (.undef,h)
   | none=>none
  | some (.map (some r)),some k=>match h.map? r with
   | some (es,c)=>match jct ks k es with
    | some (some (i,_,_))=>some (.undef,h.set r (.map (es.eraseIdx i) c))
    | some none=>some (.undef,h)
    | none=>none
   | none=>none
  | _,_=>none
noncomputable def jh8 (str:Bool) (x:Opd) (_call:Call) (e:Env) (h:H):Option (V × H) :=
 match str,evF x e with
  | true,some (.str s)=>some (.ptr (some (h.nx,0)),h.new (.siter s 0))
  | false,some (.map none)=>some (.ptr (some (h.nx,0)),h.new (.iter none 0 [] 0))
  | false,some (.map (some r))=>match h.map? r with
   | some (_,c)=>some (.ptr (some (h.nx,0)),h.new (.iter (some r) c [] c))
   | none=>none
  | _,_=>none
noncomputable def jjv (str:Bool) (x:Opd) (_call:Call) (e:Env) (h:H):Option (V × H) :=
 match evF x e with
  | some (.ptr (some (b,0)))=>match str,h.get b with
   | true,some (.siter s pos)=>match s[pos]? with
    | none=>some (.tup [.bool false],h)
    | some c=>bif Nat.blt c.toNat 128 then some (.tup [.bool true,.i pos,.int .i32 c.toNat],h.set b (.siter s (pos+1))) else none
   | false,some (.iter none _ _ _)=>some (.tup [.bool false],h)
   | false,some (.iter (some r) since seen last)=>match h.map? r with
    | some (es,c)=>bif je9 seen last es then none else
     match jiF seen es with
     | []=>some (.tup [.bool false],h)
     | [(k,v,born)]=>bif Nat.blt born since then some (.tup [.bool true,k,v],h.set b (.iter (some r) since (seen++[born]) c)) else none
     | _=>none
    | none=>none
   | _,_=>none
  | _=>none
noncomputable def jj0 (f:FuncId) (args:List Opd) (call:Call) (e:Env) (h:H):Option (V × H) :=
 match evsF e args with
  | some l=>call (.fn f) l h
  | none=>none
noncomputable def jh9 (x:Opd) (args:List Opd) (call:Call) (e:Env) (h:H):Option (V × H) :=
 match evF x e,evsF e args with
  | some (.clo f cap),some l=>call (.fn f) (l++cap) h
  | some (.yld r),some l=>call (.yld r) l h
  | _,_=>none
noncomputable def jhA (ms:MT) (x:Opd) (args:List Opd) (call:Call) (e:Env) (h:H):Option (V × H) :=
 match evF x e,evsF e args with
  | some (.clo f cap),some l=>call (.fn f) (l++cap) h
  | some (.yld r),some l=>call (.yld r) l h
  | some (.bm n t v),some l=>match ms.find? (fun p=>p.1 == n) with
   | some (_,tbl)=>match tbl.find? (fun p=>p.1 == t) with
    | some (_,f)=>call (.fn f) (v :: l) h
    | none=>none
   | none=>none
  | _,_=>none
noncomputable def jfW (tbl:List (TypeId × FuncId)) (x:Opd) (args:List Opd) (call:Call) (e:Env) (h:H):Option (V × H) :=
 match evF x e,evsF e args with
  | some (.iface t v),some l=>match tbl.find? (fun p=>p.1 == t) with
   | some (_,f)=>call (.fn f) (v :: l) h
   | none=>none
  | _,_=>none
noncomputable def jfX (sz:Nat) (bytes:Nat) (x:Opd) (y:Opd) (_call:Call) (e:Env) (h:H):Option (V × H) :=
 match evF x e,evF y e with
  | some a,some b=>jbq h sz bytes a b
  | _,_=>none
noncomputable def jjz (sz:Nat) (x:Opd) (y:Opd) (_call:Call) (e:Env) (h:H):Option (V × H) :=
 match evF x e,evF y e with
  | some a,some b=>jgf h sz a b
  | _,_=>none
noncomputable def jjy (x:Opd) (_call:Call) (e:Env) (h:H):Option (V × H) :=
 match evF x e with
  | some (.slice (some (b,o)) n c)=>match h.get b with
   | some (.cells _ false)=>bif Nat.ble 1 n then some (.slice (some (b,o)) n c,h) else none
   | _=>none
  | _=>none
abbrev RunT:=Call->Env->H->Option Nat->Option (V × H)
noncomputable def jkf (q0:Opd):RunT:=fun _ e h _=>fin1 (jkr q0 e) h
noncomputable def jg7 (q0:Opd) (q1:Opd) (q2:Opd):RunT:=fun _ e h _=>fin1 (jiT q0 q1 q2 e) h
noncomputable def jff (q0:Nat) (q1:List V):RunT:=fun _ e h a=>finA (jhx q0 q1 e) h a
noncomputable def jjp (q0:Nat) (q1:Opd):RunT:=fun _ e h a=>finA (jjP q0 q1 e) h a
noncomputable def jfe (q0:List V) (q1:List (Nat × Nat × Opd)):RunT:=fun _ e h _=>fin1 (jhs q0 q1 e) h
noncomputable def jdJ (q0:Nat) (q1:Nat) (q2:List V) (q3:List (Nat × Opd)):RunT:=fun _ e h a=>finA (jfK q0 q1 q2 q3 e) h a
noncomputable def jeX (q0:Opd):RunT:=fun _ e h _=>fin1 (jhe q0 e h) h
noncomputable def jeW (q0:Nat) (q1:Opd):RunT:=fun _ e h _=>fin1 (jhd q0 q1 e h) h
noncomputable def jeQ (q0:Nat) (q1:Opd) (q2:Opd):RunT:=fun call e h _=>jh7 q0 q1 q2 call e h
noncomputable def jeT (q0:Opd):RunT:=fun _ e h _=>fin1 (jhn q0 e) h
noncomputable def jgA (q0:String) (q1:Opd):RunT:=fun _ e h _=>fin1 (jiU q0 q1 e) h
noncomputable def jdG (q0:String) (q1:List (TypeId × FuncId)) (q2:Opd):RunT:=fun _ e h _=>fin1 (jfE q0 q1 q2 e) h
noncomputable def jjq (q0:BinOp) (q1:Opd) (q2:Opd):RunT:=fun _ e h _=>fin1 (jjO q0 q1 q2 e) h
noncomputable def jkg (q0:EK) (q1:Bool) (q2:Opd) (q3:Opd):RunT:=fun _ e h _=>fin1 (jks q0 q1 q2 q3 e) h
noncomputable def jke (q0:UnOp) (q1:Opd):RunT:=fun _ e h _=>fin1 (jkq q0 q1 e) h
noncomputable def jcJ (q0:IntKind) (q1:Opd):RunT:=fun _ e h _=>fin1 (je0 q0 q1 e) h
noncomputable def jiv (q0:Opd):RunT:=fun _ e h _=>fin1 (jif q0 e) h
noncomputable def jis (q0:Opd):RunT:=fun _ e h a=>finA (jik q0 e) h a
noncomputable def jcF (q0:Opd):RunT:=fun _ e h _=>fin1 (jet q0 e h) h
noncomputable def jgE (q0:Opd):RunT:=fun call e h _=>jjy q0 call e h
noncomputable def jgJ  : RunT:=fun _ _ _ _=>none
noncomputable def jcH (q0:TypeId) (q1:Opd):RunT:=fun _ e h _=>fin1 (jey q0 q1 e) h
noncomputable def jeV (q0:FuncId) (q1:List Opd):RunT:=fun _ e h _=>fin1 (jho q0 q1 e) h
noncomputable def jeU  : RunT:=fun _ e h a=>finA (jhw  e) h a
noncomputable def jcG (q0:Nat) (q1:Nat) (q2:List V) (q3:Opd) (q4:Opd):RunT:=fun _ e h a=>finA (je3 q0 q1 q2 q3 q4 e) h a
noncomputable def jdF (q0:Opd) (q1:Option Opd) (q2:Option Opd):RunT:=fun _ e h _=>fin1 (jfD q0 q1 q2 e) h
noncomputable def jeR (q0:Nat) (q1:Opd) (q2:Option Opd) (q3:Option Opd) (q4:Option Opd):RunT:=fun _ e h _=>fin1 (jhm q0 q1 q2 q3 q4 e) h
noncomputable def go_sliceA (q0:Nat) (q1:Nat) (q2:Opd) (q3:Option Opd) (q4:Option Opd) (q5:Option Opd):RunT:=fun _ e h _=>fin1 (pf_sliceA q0 q1 q2 q3 q4 q5 e) h
noncomputable def jfa (q0:Nat) (q1:Opd):RunT:=fun _ e h _=>fin1 (jhr q0 q1 e) h
noncomputable def jeZ (q0:Nat) (q1:Option Nat) (q2:Opd):RunT:=fun _ e h _=>fin1 (jhq q0 q1 q2 e) h
noncomputable def jgI (q0:Nat) (q1:Nat) (q2:Opd) (q3:Opd):RunT:=fun _ e h _=>fin1 (jja q0 q1 q2 q3 e) h
noncomputable def jgH (q0:Nat) (q1:Opd) (q2:Opd):RunT:=fun _ e h _=>fin1 (jiZ q0 q1 q2 e) h
noncomputable def jjo (q0:Nat) (q1:Nat) (q2:Option Nat) (q3:Opd) (q4:Opd):RunT:=fun _ e h _=>fin1 (jjN q0 q1 q2 q3 q4 e) h
noncomputable def jeY (q0:Opd) (q1:Opd):RunT:=fun _ e h _=>fin1 (jhp q0 q1 e) h
noncomputable def jdH (q0:KS) (q1:V) (q2:Bool) (q3:Opd) (q4:Opd):RunT:=fun _ e h _=>fin1 (jf4 q0 q1 q2 q3 q4 e h) h
noncomputable def jg9 (q0:KS) (q1:Opd) (q2:Opd) (q3:Opd):RunT:=fun call e h _=>jjw q0 q1 q2 q3 call e h
noncomputable def go_mentry (q0:KS) (q1:V) (q2:Opd) (q3:Opd):RunT:=fun call e h _=>ef_mentry q0 q1 q2 q3 call e h
noncomputable def jiu (q0:Opd) (q1:Opd) (q2:Opd):RunT:=fun call e h _=>ji0 q0 q1 q2 call e h
noncomputable def jgC (q0:KS) (q1:Opd) (q2:Opd):RunT:=fun call e h _=>jjx q0 q1 q2 call e h
noncomputable def jeS (q0:Bool) (q1:Opd):RunT:=fun call e h _=>jh8 q0 q1 call e h
noncomputable def jg8 (q0:Bool) (q1:Opd):RunT:=fun call e h _=>jjv q0 q1 call e h
noncomputable def jfb (q0:Opd):RunT:=fun _ e h _=>fin1 (jhf q0 e h) h
noncomputable def jit (q0:TypeId) (q1:V) (q2:Bool) (q3:Opd):RunT:=fun _ e h _=>fin1 (jie q0 q1 q2 q3 e) h
noncomputable def jcI (q0:Opd) (q1:Nat):RunT:=fun _ e h _=>fin1 (jez q0 q1 e) h
noncomputable def jgL (q0:FuncId) (q1:List Opd):RunT:=fun call e h _=>jj0 q0 q1 call e h
noncomputable def jfc (q0:Opd) (q1:List Opd):RunT:=fun call e h _=>jh9 q0 q1 call e h
noncomputable def jfd (q0:MT) (q1:Opd) (q2:List Opd):RunT:=fun call e h _=>jhA q0 q1 q2 call e h
noncomputable def jdI (q0:List (TypeId × FuncId)) (q1:Opd) (q2:List Opd):RunT:=fun call e h _=>jfW q0 q1 q2 call e h
noncomputable def jgF (q0:Opd):RunT:=fun _ e h _=>fin1 (jiX q0 e) h
noncomputable def jgG (q0:Opd):RunT:=fun _ e h _=>fin1 (jiY q0 e) h
noncomputable def go_lenM (q0:Opd):RunT:=fun _ e h _=>fin1 (rf_lenM q0 e h) h
noncomputable def jdK (q0:Nat) (q1:Nat) (q2:Opd) (q3:Opd):RunT:=fun call e h _=>jfX q0 q1 q2 q3 call e h
noncomputable def jgK (q0:Nat) (q1:Opd) (q2:Opd):RunT:=fun call e h _=>jjz q0 q1 q2 call e h
noncomputable def jgB (q0:List Opd):RunT:=fun _ e h _=>fin1 (jiV q0 e) h
noncomputable def jgD (q0:List Opd):RunT:=fun _ e h _=>fin1 (jiW q0 e) h
noncomputable def runF (i:I):RunT :=
 I.rec (motive:=fun _=>RunT) jkf jg7 jff jjp jfe jdJ jeX jeW jeQ jeT jgA jdG jjq jkg jke jcJ jcF jgE jgJ jcH jeV jeU jcG jdF jeR jfa jeZ jgI jgH jjo jeY jdH jg9 jgC jeS jg8 jfb jcI jgL jfc jfd jdI jgF jgG jdK jgK jgB jgD i
theorem runF_eq (i:I) (call:Call) (e:Env) (h:H) (a:Option Nat):runF i call e h a=i.run call e h a:=by
 cases i
 case mv q0=>
  show jkf q0 call e h a=_
  simp only [jkf,jkr,I.run,I.cls,I.pure,jaq,jap]<;>rfl
 case pick q0 q1 q2=>
  show jg7 q0 q1 q2 call e h a=_
  simp only [jg7,jiT,I.run,I.cls,I.pure,jaq,jap]<;>rfl
 case alloc q0 q1=>
  show jff q0 q1 call e h a=_
  simp only [jff,jhx,I.run,I.cls,I.make,finA]<;>rfl
 case box q0 q1=>
  show jjp q0 q1 call e h a=_
  simp only [jjp,jjP,I.run,I.cls,I.make,finA,jap]<;>rfl
 case build q0 q1=>
  show jfe q0 q1 call e h a=_
  simp only [jfe,jhs,I.run,I.cls,I.pure,jaq]<;>rfl
 case bslice q0 q1 q2 q3=>
  show jdJ q0 q1 q2 q3 call e h a=_
  simp only [jdJ,jfK,I.run,I.cls,I.make,finA]<;>rfl
 case load1 q0=>
  show jeX q0 call e h a=_
  simp only [jeX,jhe,I.run,I.cls,I.read,jaq,jap]<;>rfl
 case loadN q0 q1=>
  show jeW q0 q1 call e h a=_
  simp only [jeW,jhd,I.run,I.cls,I.read,jaq,jap]<;>rfl
 case store q0 q1 q2=>
  show jeQ q0 q1 q2 call e h a=_
  simp only [jeQ,jh7,I.run,I.cls,I.eff,jap,jka]<;>rfl
 case nilck q0=>
  show jeT q0 call e h a=_
  simp only [jeT,jhn,I.run,I.cls,I.pure,jaq,jap]<;>rfl
 case mkBm q0 q1=>
  show jgA q0 q1 call e h a=_
  simp only [jgA,jiU,I.run,I.cls,I.pure,jaq,jap]<;>rfl
 case nilckB q0 q1 q2=>
  show jdG q0 q1 q2 call e h a=_
  simp only [jdG,jfE,I.run,I.cls,I.pure,jaq,jap]<;>rfl
 case bin q0 q1 q2=>
  show jjq q0 q1 q2 call e h a=_
  simp only [jjq,jjO,I.run,I.cls,I.pure,jaq,jap,binOpF_eq]<;>rfl
 case eq q0 q1 q2 q3=>
  show jkg q0 q1 q2 q3 call e h a=_
  simp only [jkg,jks,I.run,I.cls,I.pure,jaq,jap]<;>rfl
 case un q0 q1=>
  show jke q0 q1 call e h a=_
  simp only [jke,jkq,I.run,I.cls,I.pure,jaq,jap]<;>rfl
 case convInt q0 q1=>
  show jcJ q0 q1 call e h a=_
  simp only [jcJ,je0,I.run,I.cls,I.pure,jaq,jap,jaT]<;>rfl
 case ofBytes q0=>
  show jcF q0 call e h a=_
  simp only [jcF,jet,I.run,I.cls,I.read,jaq,jap]<;>rfl
 case mark q0=>
  show jgE q0 call e h a=_
  simp only [jgE,jjy,I.run,I.cls,I.eff,jap]<;>rfl
 case fail =>
  show jgJ  call e h a=_
  simp only [jgJ,I.run,I.cls,I.pure]<;>rfl
 case mkIface q0 q1=>
  show jcH q0 q1 call e h a=_
  simp only [jcH,jey,I.run,I.cls,I.pure,jaq,jap]<;>rfl
 case mkClo q0 q1=>
  show jeV q0 q1 call e h a=_
  simp only [jeV,jho,I.run,I.cls,I.pure,jaq,jbK]<;>rfl
 case mkMap =>
  show jeU  call e h a=_
  simp only [jeU,jhw,I.run,I.cls,I.make,finA]<;>rfl
 case mkSlice q0 q1 q2 q3 q4=>
  show jcG q0 q1 q2 q3 q4 call e h a=_
  simp only [jcG,je3,I.run,I.cls,I.make,finA]<;>rfl
 case sliceS q0 q1 q2=>
  show jdF q0 q1 q2 call e h a=_
  simp only [jdF,jfD,I.run,I.cls,I.pure,jaq,jap]<;>rfl
 case slice q0 q1 q2 q3 q4=>
  show jeR q0 q1 q2 q3 q4 call e h a=_
  simp only [jeR,jhm,I.run,I.cls,I.pure,jaq,jap]<;>rfl
 case faddr q0 q1=>
  show jfa q0 q1 call e h a=_
  simp only [jfa,jhr,I.run,I.cls,I.pure,jaq,jap]<;>rfl
 case field q0 q1 q2=>
  show jeZ q0 q1 q2 call e h a=_
  simp only [jeZ,jhq,I.run,I.cls,I.pure,jaq,jap]<;>rfl
 case ixaA q0 q1 q2 q3=>
  show jgI q0 q1 q2 q3 call e h a=_
  simp only [jgI,jja,I.run,I.cls,I.pure,jaq,jap]<;>rfl
 case ixaS q0 q1 q2=>
  show jgH q0 q1 q2 call e h a=_
  simp only [jgH,jiZ,I.run,I.cls,I.pure,jaq,jap]<;>rfl
 case ixA q0 q1 q2 q3 q4=>
  show jjo q0 q1 q2 q3 q4 call e h a=_
  simp only [jjo,jjN,I.run,I.cls,I.pure,jaq,jap]<;>rfl
 case ixStr q0 q1=>
  show jeY q0 q1 call e h a=_
  simp only [jeY,jhp,I.run,I.cls,I.pure,jaq,jap]<;>rfl
 case lookup q0 q1 q2 q3 q4=>
  show jdH q0 q1 q2 q3 q4 call e h a=_
  simp only [jdH,jf4,I.run,I.cls,I.read,jaq,jap]<;>rfl
 case mput q0 q1 q2 q3=>
  show jg9 q0 q1 q2 q3 call e h a=_
  simp only [jg9,jjw,I.run,I.cls,I.eff,jap]<;>rfl
 case mdel q0 q1 q2=>
  show jgC q0 q1 q2 call e h a=_
  simp only [jgC,jjx,I.run,I.cls,I.eff,jap]<;>rfl
 case range q0 q1=>
  show jeS q0 q1 call e h a=_
  simp only [jeS,jh8,I.run,I.cls,I.eff,jap]<;>rfl
 case next q0 q1=>
  show jg8 q0 q1 call e h a=_
  simp only [jg8,jjv,I.run,I.cls,I.eff,jap]<;>rfl
 case entry q0=>
  show jfb q0 call e h a=_
  simp only [jfb,jhf,I.run,I.cls,I.read,jaq,jap]<;>rfl
 case extract q0 q1=>
  show jcI q0 q1 call e h a=_
  simp only [jcI,jez,I.run,I.cls,I.pure,jaq,jap]<;>rfl
 case call q0 q1=>
  show jgL q0 q1 call e h a=_
  simp only [jgL,jj0,I.run,I.cls,I.eff,jbK]<;>rfl
 case callv q0 q1=>
  show jfc q0 q1 call e h a=_
  simp only [jfc,jh9,I.run,I.cls,I.eff,jap,jbK]<;>rfl
 case callb q0 q1 q2=>
  show jfd q0 q1 q2 call e h a=_
  simp only [jfd,jhA,I.run,I.cls,I.eff,jap,jbK]<;>rfl
 case invoke q0 q1 q2=>
  show jdI q0 q1 q2 call e h a=_
  simp only [jdI,jfW,I.run,I.cls,I.eff,jap,jbK]<;>rfl
 case lenS q0=>
  show jgF q0 call e h a=_
  simp only [jgF,jiX,I.run,I.cls,I.pure,jaq,jap]<;>rfl
 case lenL q0=>
  show jgG q0 call e h a=_
  simp only [jgG,jiY,I.run,I.cls,I.pure,jaq,jap]<;>rfl
 case append q0 q1 q2 q3=>
  show jdK q0 q1 q2 q3 call e h a=_
  simp only [jdK,jfX,I.run,I.cls,I.eff,jap]<;>rfl
 case copy q0 q1 q2=>
  show jgK q0 q1 q2 call e h a=_
  simp only [jgK,jjz,I.run,I.cls,I.eff,jap]<;>rfl
 case minI q0=>
  show jgB q0 call e h a=_
  simp only [jgB,jiV,I.run,I.cls,I.pure,jaq,jbK]<;>rfl
 case maxI q0=>
  show jgD q0 call e h a=_
  simp only [jgD,jiW,I.run,I.cls,I.pure,jaq,jbK]<;>rfl
noncomputable def jfH (e:Env):List Nat->Env
 | []=>[]
 | s :: r=>match getF e s with
  | some v=>(s,v) :: jfH e r
  | none=>jfH e r
theorem jdo (e:Env) : ∀ l,jfH e l=e.only l
 | []=>rfl
 | s :: r=>by simp only [jfH,Env.only,jfg,jdo e r];rfl
noncomputable def jjX (e:Env):Option (Nat × Bool)->Bool
 | none=>true
 | some (j,want)=>match getF e j with
  | some (.bool b)=>b == want
  | _=>false
theorem wantF_eq (e:Env) (g:Option (Nat × Bool)):jjX e g=wanted e g:=by
 cases g with
 | none=>rfl
 | some g=>obtain ⟨j,w⟩:=g;simp only [jjX,wanted,jfg];rfl
noncomputable def jkt (s:Ins) (e:Env) (k:Env->H->Option (Env × H)) (o:Option (V × H)):Option (Env × H):=match o with
 | some (v,h')=>match s.chk with
  | []=>k (layv e s.dst v) h'
  | c=>bif ja1 e h' c then k (layv e s.dst v) h' else none
 | none=>none
noncomputable def opF (s:Ins) (call:Call) (base:Nat) (e:Env) (h:H) (k:Env->H->Option (Env × H)):Option (Env × H) :=
 bif jjX e s.guard then jkt s e k (runF s.i call e h (s.at_.map (base + ·))) else k (layv e s.dst .undef) h
noncomputable def jd3 (l:List Ins):Call->Nat->Env->H->Option (Env × H) :=
 List.rec (motive:=fun _=>Call->Nat->Env->H->Option (Env × H)) (fun _ _ e h=>some (e,h)) (fun s _ ih call base e h=>opF s call base e h (ih call base)) l
theorem jeq : ∀ (l:List Ins) (call:Call) (base:Nat) (e:Env) (h:H),jd3 l call base e h=jam call base l e h
 | [],_,_,_,_=>rfl
 | s :: r,call,base,e,h=>by
  show opF s call base e h (jd3 r call base)=_
  have ih:jd3 r call base=jam call base r:=by funext e h;exact jeq r call base e h
  rw [ih]
  have hd:jam call base (s :: r) e h=(bif wanted e s.guard then
   match s.i.run call e h (s.at_.map (base + ·)) with
   | some (v,h')=>bif ja1 e h' s.chk then jam call base r (layv e s.dst v) h' else none
   | none=>none
  else jam call base r (layv e s.dst .undef) h):=rfl
  rw [hd]
  unfold opF
  rw [wantF_eq,runF_eq]
  generalize wanted e s.guard=g
  cases g
  ·rfl
  ·simp only [cond_true]
   unfold jkt
   cases I.run call e h (Option.map (fun x=>base+x) s.at_) s.i with
   | none=>rfl
   | some q=>
    obtain ⟨v,h'⟩:=q
    simp only
    cases s.chk with
    | nil=>simp [ja1]
    | cons _ _=>rfl
abbrev DT:=Call->Nat->Env->H->Res
noncomputable def jkb (keep:List Nat) (o:Option (Env × H)):Res:=match o with
 | some (e',h')=>some (.normal,jfH e' keep,h')
 | none=>none
noncomputable def jjI (r:Res) (k:Env->H->Res):Res:=match r with
 | some (.normal,e',h')=>k e' h'
 | r=>r
noncomputable def jji (c:Option V) (a b:Env->H->Res) (e:Env) (h:H):Res:=match c with
 | some (.bool true)=>a e h
 | some (.bool false)=>b e h
 | _=>none
noncomputable def jg6 (id:Nat) (r:Res):Res:=match r with
 | some (.exit id',e',h')=>bif Nat.beq id' id then some (.normal,e',h') else some (.exit id',e',h')
 | r=>r
noncomputable def jjj (body:Env->H->Res) (live:List Nat) (n:Nat):Env->H->Res :=
 Nat.rec (motive:=fun _=>Env->H->Res) (fun _ _=>none) (fun _ ih e h=>jjI (body (jfH e live) h) ih) n
theorem jh3 (body:Env->H->Res) (live:List Nat) : ∀ (n:Nat) (e:Env) (h:H),jjj body live n e h=iter body live n e h
 | 0,_,_=>rfl
 | n+1,e,h=>by
  show jjI (body (jfH e live) h) (jjj body live n)=_
  have ih:jjj body live n=iter body live n:=by funext e h;exact jh3 body live n e h
  rw [ih,jdo];rfl
noncomputable def jg5 (f:Option V) (params live:List Nat) (assign body:AC) (call:Call) (e:Env) (h:H):Res :=
  match f with
  | some (.clo g cap)=>
   match call (.fn g) (.yld h.nx :: cap) (h.new (.loop .ready none params (jfH e live) assign body)) with
   | some (_,h')=>
    match h'.get h.nx with
    | some (.loop st pend _ _ _ _)=>
     match st with
     | .busy=>none
     | _=>match pend with
      | none=>some (.normal,e,h'.kill h.nx)
      | some ex=>some (ex,e,h'.kill h.nx)
    | _=>none
   | none=>none
  | _=>none
noncomputable def DF (c:AC):DT:=AC.rec (motive:=fun _=>DT)
 (fun _ _ e h=>some (.normal,e,h))
 (fun res ops keep call _ e h=>jkb keep (jd3 ops call h.nx e (h.reserve res)))
 (fun _ _ iha ihb call fuel e h=>jjI (iha call fuel e h) (ihb call fuel))
 (fun c _ _ iha ihb call fuel e h=>jji (evF c e) (iha call fuel) (ihb call fuel) e h)
 (fun id _ ih call fuel e h=>jg6 id (ih call fuel e h))
 (fun live _ ih call fuel e h=>jjj (ih call fuel) live fuel e h)
 (fun f params live assign body _ _ call _ e h=>jg5 (evF f e) params live assign body call e h)
 (fun id _ _ e h=>some (.exit id,e,h))
 (fun _ _ e h=>some (.ret,e,h))
 (fun _ ih=>ih)
 (fun _ _ _ e h=>some (.normal,e,h)) c
theorem jfu : ∀ (c:AC) (call:Call) (fuel:Nat) (e:Env) (h:H),DF c call fuel e h=D call fuel c e h
 | .skip,_,_,_,_=>rfl
 | .label _,_,_,_,_=>rfl
 | .exit _,_,_,_,_=>rfl
 | .ret,_,_,_,_=>rfl
 | .scope a,call,fuel,e,h=>jfu a call fuel e h
 | .region res ops keep,call,fuel,e,h=>by
  show jkb keep (jd3 ops call h.nx e (h.reserve res))=_
  rw [jeq];simp only [D,jkb,jdo]
  cases jam call h.nx ops e (h.reserve res)<;>rfl
 | .seq a b,call,fuel,e,h=>by
  show jjI (DF a call fuel e h) (DF b call fuel)=_
  have ih:DF b call fuel=D call fuel b:=by funext e h;exact jfu b call fuel e h
  rw [ih,jfu a];rfl
 | .cond c a b,call,fuel,e,h=>by
  show jji (evF c e) (DF a call fuel) (DF b call fuel) e h=_
  simp only [jji,D,jap,jfu a,jfu b];rfl
 | .block id a,call,fuel,e,h=>by
  show jg6 id (DF a call fuel e h)=_
  rw [jfu a];simp only [jg6,D,jka];rfl
 | .loop live a,call,fuel,e,h=>by
  show jjj (DF a call fuel) live fuel e h=_
  have ih:DF a call fuel=D call fuel a:=by funext e h;exact jfu a call fuel e h
  rw [ih,jh3];rfl
 | .rangeFunc f params live assign body,call,fuel,e,h=>by
  show jg5 (evF f e) params live assign body call e h=_
  simp only [jg5,D,jap,jdo];rfl
noncomputable def jiN (call:Call) (fuel:Nat) (fn:AFn) (args:List V) (h:H):Option (V × H) :=
 bif Nat.beq args.length fn.np then
  match DF fn.body call fuel (Env.ofArgs args 0) h with
  | some (.exit _,_,_)=>none
  | some (_,e,h')=>match jb0 e h' fn.res with
   | some l=>some (jb6 l,h')
   | none=>none
  | none=>none
 else none
theorem runFnF_eq (call:Call) (fuel:Nat) (fn:AFn) (args:List V) (h:H):jiN call fuel fn args h=jd4 call fuel fn args h:=by
 simp only [jiN,jd4,jfu,jka];rfl
noncomputable def jd2 (call:Call) (fuel:Nat) (l:Nat) (args:List V) (h:H):Option (V × H) :=
 match h.get l with
 | some (.loop _ _ params env assign body)=>
  match jbw env params args with
  | none=>none
  | some e0=>
   match DF assign call fuel e0 h with
   | some (.normal,e1,h1)=>
    match h1.get l with
    | some (.loop .ready p ps en a b)=>
     match DF body call fuel e1 (h1.set l (.loop .busy p ps en a b)) with
     | some (ex,_,h3)=>
      match h3.get l with
      | some (.loop _ _ ps' en' a' b')=>
       match ex with
       | .normal=>some (.bool true,h3.set l (.loop .ready none ps' en' a' b'))
       | ex=>some (.bool false,h3.set l (.loop .done (some ex) ps' en' a' b'))
      | _=>none
     | none=>none
    | _=>none
   | _=>none
 | _=>none
theorem jf2 (call:Call) (fuel:Nat) (l:Nat) (args:List V) (h:H):jd2 call fuel l args h=jbg call fuel l args h:=by
 simp only [jd2,jbg,jfu];rfl
noncomputable def jgl {α : Type} (l:List (Nat × α)) (s:Nat):Option α := List.rec (motive:=fun _=>Option α) none (fun p _ ih=>bif Nat.beq p.1 s then some p.2 else ih) l
theorem jgk {α : Type} : ∀ (l:List (Nat × α)) (s:Nat),jgl l s=jbA l s
 | [],_=>rfl
 | (k,v) :: r,s=>by
  show (bif Nat.beq k s then some v else jgl r s)=_
  rw [jgk r s];rfl
noncomputable def jki (call:Call) (fuel:Nat) (fns:List (FuncId × AFn)) (f:FuncId) (args:List V) (h:H) (p:Option Prim):Option (V × H):=match p with
 | some p=>p args h
 | none=>match jgl fns f with
  | some fn=>jiN call fuel fn args h
  | none=>none
noncomputable def jky (P:Prog) (fuel:Nat) (call:Call) (t:Tgt) (args:List V) (h:H):Option (V × H) :=
 Tgt.rec (fun f=>jki call fuel P.fns f args h (jgl P.prims f)) (fun l=>jd2 call fuel l args h) t
noncomputable def jkj (P:Prog) (fuel:Nat) (n:Nat):Call:=Nat.rec (motive:=fun _=>Call) (fun _ _ _=>none) (fun _ ih=>jky P fuel ih) n
theorem jhC (P:Prog) (fuel:Nat) : ∀ n,jkj P fuel n=ja6 P fuel n
 | 0=>rfl
 | n+1=>by
  show jky P fuel (jkj P fuel n)=_
  rw [jhC P fuel n]
  funext t args h
  cases t with
  | fn f=>
   show jki (ja6 P fuel n) fuel P.fns f args h (jgl P.prims f)=_
   simp only [jki,jgk,runFnF_eq,ja6];rfl
  | yld l=>exact jf2 _ _ _ _ _
end Am
namespace Am.Sigs
open Am Go
theorem BytesAt.keep {h h':H} {a:Option (Nat × Nat)} {c:Cap} {l:List UInt8} (t:BytesAt h a c l) (hx:h.nx<=h'.nx) (hk : ∀ j o,j<h.nx->h.get j=some o->h'.get j=some o):BytesAt h' a c l :=
 ⟨t.none_,t.fits,fun hn=>by
  obtain ⟨b,o,cs,ro,q1,q2,q3,q4⟩:=t.at_ hn
  exact ⟨b,o,cs,ro,q1,by omega,hk _ _ q2 q3,q4⟩⟩
theorem BytesAt.lt {h:H} {a:Option (Nat × Nat)} {c:Cap} {l:List UInt8} (t:BytesAt h a c l) {N:Nat} (hN:h.nx<=N) {z o:Nat} (ha:a=some (z,o)) (hl:l≠[]):z<N:=by
 obtain ⟨b,o',cs,ro,q1,q2,_⟩:=t.at_ hl
 rw [q1] at ha;cases ha;omega
structure OpX where
 k:Int
 a:Int
 n:Int
 t:Int
 dv:V
 D:List UInt8
abbrev OpX.V (x:OpX):List V:=opV x.k x.a x.n x.t x.dv
structure OpOk (h:H) (x:OpX):Prop where
 dv : ∃ a c,x.dv = .slice a x.D.length c/\(x.D.length<=300->BytesAt h a c x.D)
 t0:0<=x.t
 t1:x.t<=18446744073709551615
theorem OpOk.keep {h h':H} {x:OpX} (o:OpOk h x) (hx:h.nx<=h'.nx) (hk : ∀ j o,j<h.nx->h.get j=some o->h'.get j=some o):OpOk h' x:=by
 obtain ⟨⟨a,c,e,g⟩,t0,t1⟩:=o
 exact ⟨⟨a,c,e,fun hl=>(g hl).keep hx hk⟩,t0,t1⟩
theorem OpOk.dat {h:H} {x:OpX} (o:OpOk h x) (hl:x.D.length<=300):Dat h (fun j=>j<h.nx) x.dv x.D:=by
 obtain ⟨⟨a,c,e,g⟩,_,_⟩:=o
 refine ⟨⟨a,c,e,g hl⟩,fun hn z hz=>?_,hl⟩
 obtain ⟨b,o,cs,ro,q1,q2,_⟩:=(g hl).at_ hn
 rw [e,q1] at hz
 cases hz;exact q2
def jkk (h:H) (lv:V) (L:List OpX):Prop := ∃ ad c,lv = .slice ad L.length c/\(L.length<=200->(∀ x∈L,OpOk h x)/\(L≠[] -> ∃ b cs ro,ad=some (b,0)/\b<h.nx/\h.get b=some (.cells cs ro)/\cs.length=L.length*5 /\ ∀ (i:Nat) (x:OpX),L[i]?=some x->(cs.drop (i*5)).take 5=x.V))
theorem jkk.keep {h h':H} {lv:V} {L:List OpX} (o:jkk h lv L) (hx:h.nx<=h'.nx) (hk : ∀ j o,j<h.nx->h.get j=some o->h'.get j=some o):jkk h' lv L:=by
 obtain ⟨ad,c,e,g⟩:=o
 refine ⟨ad,c,e,fun hl=>⟨fun x hx'=>((g hl).1 x hx').keep hx hk,fun hn=>?_⟩⟩
 obtain ⟨b,cs,ro,q1,q2,q3,q4⟩:=(g hl).2 hn
 exact ⟨b,cs,ro,q1,by omega,hk _ _ q2 q3,q4⟩
section
variable {cl:Nat->Call} (hcl:Sem cl)
include hcl
end
def jfs (n:Nat) (v:V) (h':H):Bool:=jjk v&&(Nat.beq h'.nx n&&Nat.ble (ttop h'.t) n)
theorem flat_get : ∀ {L:List OpX} {i:Nat} {x:OpX},L[i]?=some x->(((L.map OpX.V).flatten).drop (i*5)).take 5=x.V
 | [],i,x,h=>by simp at h
 | y :: L,0,x,h=>by simp at h;subst h;rfl
 | y :: L,i+1,x,h=>by
  rw [List.map_cons,List.flatten_cons,show (i+1)*5=(OpX.V y).length+i*5 by show _=5+_;omega,<- List.drop_drop,List.drop_left]
  exact flat_get (by simpa using h)
theorem Ops.invkZ {call:Call} {fuel base:Nat} {K:List Fr} {e:Env} {h h':H} {Q:Post} {ix:Nat} {dst:Option Nat} {ops:List Ins} {keep:List Nat} {at_:Option Nat} {tbl:List (TypeId × FuncId)} {x:Opd} {args:List Opd} {t t' f:Nat} {v r:V} {vs:List V}
  (hx:x.ev e=some (.iface t v)) (ha:evs e args=some vs) (hf:tbl.find? (fun p=>p.1 == t)=some (t',f)) (hc:call (.fn f) (v :: vs) h=some (r,h')) (k:Ops call fuel base ops keep K (layv e dst r) h' Q) :
  Ops call fuel base (⟨ix,dst,.invoke tbl x args,none,at_,[]⟩ :: ops) keep K e h Q :=
 Ops.step (I.run_eff rfl (by simp only [I.eff,hx,ha,hf,hc])) k
theorem may_2:mayW 2=true:=by decide +kernel
theorem may_34:mayW 34=true:=by decide +kernel
inductive DV (h:H) (w:Nat) (k room:Int) (N E:Nat):Prop
 | p (hk:k=1\/k=2) (D:Nat) (gE:h.get E=some (.cells [.iface 59 (.p D 0),.i k] false)) (gD : ∃ f,h.get D=some (.cells (dcc w k f) false)) (nD:N<=D) (lD:D<h.nx) (lE:E<h.nx) (ed:E≠D)
 | q (hk:k=3\/k=4) (D L:Nat) (kv:V) (gE:h.get E=some (.cells [.iface 62 (.p D 0),.i k] false)) (gD:h.get D=some (.cells (ddc w kv L room) false)) (gL : ∃ f,h.get L=some (.cells (lc f) false)) (nD:N<=D) (nL:N<=L) (lD:D<h.nx) (lL:L<h.nx) (lE:E<h.nx) (ed:E≠D) (el:E≠L) (dl:D≠L)
theorem DV.E {h:H} {w N E:Nat} {k room:Int} (a:DV h w k room N E) : ∃ fv,h.get E=some (.cells [fv,.i k] false):=by
 cases a with
 | p _ _ gE=>exact ⟨_,gE⟩
 | q _ _ _ _ gE=>exact ⟨_,gE⟩
def setE (k fd n:Int):Int:=if inFd fd then (if k=1/\64<=fd then 190 else if k<=2/\n=34 then 191 else 0) else 2
def jkh (k:Int):Int:=if k=1 then 0 else if k=2 then 2 else if k=3 then 11 else 15
section
variable {cl:Nat->Call} (hcl:Sem cl) {d D E L w s:Nat} {kv:V} {h:H} {ow:Nat->Nat} {ws:Ws} {now:Int} {tb:Tb} {no:Option (Nat × Nat)} {k room fd n:Int} {f:Nat->Int}
include hcl
theorem dq_SetX (hd:6<=d) (hn:n=2\/n=34) (a:WSt h w s ow ws now tb no) (o:WsOk ws) (op:inFd fd->(rdyS ws fd).op=true) (hD:h.get D=some (.cells (ddc w kv L room) false)) (hL:h.get L=some (.cells (lc f) false)) (lD:D<h.nx) (lL:L<h.nx) :
  ∃ h' f',cl d (.fn F.jb1) [.p D 0,.i fd,.i n] h=some (.i (if inFd fd then 0 else 2),h')/\Ch (fun j=>j=L) h h'/\h'.get L=some (.cells (lc f') false):=by
 suffices q : ∃ v h',cl d (.fn F.jb1) [.p D 0,.i fd,.i n] h=some (v,h')/\v = .i (if inFd fd then 0 else 2)/\Ch (fun j=>j=L) h h' /\ ∃ f',h'.get L=some (.cells (lc f') false) by
  obtain ⟨_,h',e,rfl,c,f',q⟩:=q;exact ⟨h',f',e,c,q⟩
 have e1:=dq_none hcl (d:=d-1) om hD
 have e3:=jjT hcl (d:=d-1) (h:=h) (n:=n) om
 have hm:mayW n=true:=by
  rcases hn with rfl | rfl
  ·exact may_2
  ·exact may_34
 have n0 : ¬ n=0:=by omega
 rw [hm] at e3
 by_cases hf:inFd fd
 case neg=>
  rw [if_neg hf]
  unfold inFd at hf
  have hf' : ¬ (0<=fd/\fd<=95):=hf
  refine at_ hcl om rfl rfl rfl ?_
  by_cases f0:fd<0
  ·clear a o hf hf' op hn
   refine qx1 ?_
   exact ⟨rfl,Ch.refl _ _,_,hL⟩
  ·have f1:95<fd:=by omega
   clear a o hf hf' op hn
   refine qx1 ?_
   exact ⟨rfl,Ch.refl _ _,_,hL⟩
 rw [if_pos hf]
 obtain ⟨f0,f1⟩:=id hf
 have f0' : ¬ fd<0:=by omega
 have f1' : ¬ 95<fd:=by omega
 have q2:(ddc w kv L room)[0+2]?=some (.p L 0):=rfl
 have q4:(ddc w kv L room)[0+4]?=some (.i (-1)):=rfl
 have ne : ¬ fd = -1:=by omega
 obtain ⟨h1,e5,o1⟩:=dq_open hcl (d:=d-1) (fd:=fd) om a o hD
 rw [op hf] at e5
 have hD1:h1.get D=some (.cells (ddc w kv L room) false):=by rw [o1.2 D lD,hD]
 have hL1:h1.get L=some (.cells (lc f) false):=by rw [o1.2 L lL,hL]
 have e4:=cg_Want hcl (d:=d-1) om hL1 hf hm
 refine at_ hcl om rfl rfl rfl ?_
 clear a o op hn hf
 refine qx1 ?_
 exact ⟨rfl,o1.ch.trans (Ch.set rfl),_,jab _⟩
theorem jgP {fv:V} (hd:1<=d) (hk:k≠0) (hE:h.get E=some (.cells [fv,.i k] false)):cl d (.fn F.jcv) [.p E 0] h=some (.bool false,h):=by
 have h0:[fv,V.i k][0+1]?=some (.i k):=rfl
 refine jar (at_ hcl om rfl rfl rfl ?_)
 refine qx1 ?_
 exact ⟨by rw [decide_eq_false hk],rfl⟩
theorem dv_Kind {fv:V} (hd:2<=d) (hk:k≠0) (hE:h.get E=some (.cells [fv,.i k] false)):cl d (.fn F.jcw) [.p E 0] h=some (.i k,h):=by
 have e1:=jgP hcl (d:=d-1) om hk hE
 have h0:[fv,V.i k][0+1]?=some (.i k):=rfl
 refine jar (at_ hcl om rfl rfl rfl ?_)
 refine qx1 ?_
 exact ⟨rfl,rfl⟩
theorem jdQ {fv:V} (hd:3<=d) (hk:1<=k/\k<=4) (hE:h.get E=some (.cells [fv,.i k] false)) (h0:h.get 0=some (.cells jai true)):cl d (.fn F.jaj) [.p E 0] h=some (.i (jkh k),h):=by
 have e1:=dv_Kind hcl (d:=d-1) om om hE
 have e2:cl (d-1) (.fn F.jfk) [.i k] h=some (.i (jkh k),h):=by
  have e3:cl (d-2) (.fn F.jiw) [.i k] h=some (.bool true,h):=by
   obtain ⟨k0,k1⟩:=hk
   refine jar (at_ hcl om rfl rfl rfl ?_)
   refine qx1 ?_
   exact ⟨by rw [decide_eq_true k1],rfl⟩
  have hv:jai[0+(k-1).toNat*1]?=some (.i (jkh k)):=by
   obtain ⟨k0,k1⟩:=hk
   have:k=1\/k=2\/k=3\/k=4:=by omega
   rcases this with rfl | rfl | rfl | rfl<;>rfl
  obtain ⟨k0,k1⟩:=hk
  refine jar (at_ hcl om rfl rfl rfl ?_)
  refine qx1 ?_
  exact ⟨rfl,rfl⟩
 clear hk
 refine jar (at_ hcl om rfl rfl rfl ?_)
 refine qx1 ?_
 exact ⟨rfl,rfl⟩
theorem jjS {N:Nat} (hd:8<=d) (hn:n=2\/n=34) (W:WSt h w s ow ws now tb no) (o:WsOk ws) (op:inFd fd->(rdyS ws fd).op=true) (a:DV h w k room N E) (tN : ∀ j,N<=j->ow j=0) :
  ∃ h',cl d (.fn F.jcN) [.p E 0,.i fd,.i n] h=some (.i (setE k fd n),h')/\DV h' w k room N E/\WSt h' w s ow ws now tb no/\Ch (fun j=>N<=j) h h':=by
 rcases a with ⟨hk,D,gE,⟨f,gD⟩,nD,lD,lE,ed⟩ | ⟨hk,D,L,kv,gE,gD,⟨f,gL⟩,nD,nL,lD,lL,lE,ed,el,dl⟩
 ·have e1:=jgP hcl (d:=d-1) om om gE
  obtain ⟨h',f',e2,c,q⟩:=pd_Set hcl (d:=d-1) (fd:=fd) om hn W o op gD lD
  have hr:(if inFd fd then (if k=1/\64<=fd then 190 else if n=2 then 0 else 191) else 2:Int)=setE k fd n:=by
   unfold setE
   by_cases hf:inFd fd
   ·rw [if_pos hf,if_pos hf]
    by_cases hm:k=1/\64<=fd
    ·rw [if_pos hm,if_pos hm]
    ·rw [if_neg hm,if_neg hm]
     rcases hn with rfl | rfl
     ·rw [if_pos rfl,if_neg om]
     ·rw [if_neg om,if_pos ⟨by omega,rfl⟩]
   ·rw [if_neg hf,if_neg hf]
  rw [hr] at e2
  have kE:h'.get E=some (.cells [.iface 59 (.p D 0),.i k] false):=by rw [c.get _ lE ed,gE]
  have h0:[V.iface 59 (.p D 0),V.i k][0+0]?=some (.iface 59 (.p D 0)):=rfl
  have K:DV h' w k room N E := .p hk D kE ⟨f',q⟩ nD (zp lD c.nx) (zp lE c.nx) ed
  have W':WSt h' w s ow ws now tb no:=W.keep c.nx fun j hj=>c.get j (W.lt_of hj) fun e=>hj (by rw [e];exact tN _ nD)
  have C:=c.weaken (B':=fun j=>N<=j) fun j _ e=>by rw [e];exact nD
  clear hn W o op hk c tN
  refine jbp (at_ hcl om rfl rfl rfl ?_)
  refine qx1 ?_
  refine Ops.invkZ rfl rfl rfl e2 ?_
  refine qx1 ?_
  exact ⟨rfl,K,W',C⟩
 ·have e1:=jgP hcl (d:=d-1) om om gE
  obtain ⟨h',f',e2,c,q⟩:=dq_SetX hcl (d:=d-1) (fd:=fd) om hn W o op gD gL lD lL
  have hr:(if inFd fd then 0 else 2:Int)=setE k fd n:=by
   unfold setE
   by_cases hf:inFd fd
   ·rw [if_pos hf,if_pos hf,if_neg om,if_neg om]
   ·rw [if_neg hf,if_neg hf]
  rw [hr] at e2
  have kE:h'.get E=some (.cells [.iface 62 (.p D 0),.i k] false):=by rw [c.get _ lE el,gE]
  have kD:h'.get D=some (.cells (ddc w kv L room) false):=by rw [c.get _ lD dl,gD]
  have h0:[V.iface 62 (.p D 0),V.i k][0+0]?=some (.iface 62 (.p D 0)):=rfl
  have K:DV h' w k room N E := .q hk D L kv kE kD ⟨f',q⟩ nD nL (zp lD c.nx) (zp lL c.nx) (zp lE c.nx) ed el dl
  have W':WSt h' w s ow ws now tb no:=W.keep c.nx fun j hj=>c.get j (W.lt_of hj) fun e=>hj (by rw [e];exact tN _ nL)
  have C:=c.weaken (B':=fun j=>N<=j) fun j _ e=>by rw [e];exact nL
  clear hn W o op hk c tN
  refine jbp (at_ hcl om rfl rfl rfl ?_)
  refine qx1 ?_
  refine Ops.invkZ rfl rfl rfl e2 ?_
  refine qx1 ?_
  exact ⟨rfl,K,W',C⟩
theorem pd_New (hd:1<=d) (hk:k=1\/k=2):cl d (.fn F.dpoll_New) [.p w 0,.i k] h=some (.tup [.p h.nx 0,.i 0],h.new (.cells (dcc w k fun _=>0) false)):=by
 have hb:ja0 ([.ptr none]++List.replicate 98 (.i 0:V)) [(0,1,.p w 0),(1,1,.i k)]=some (dcc w k fun _=>0):=by
  have:List.replicate 98 (.i 0:V) = .i 0 :: (tab 96 (fun _=>.i 0)++[.i 0]):=by kernel_rfl
  rw [this];rfl
 refine jar (at_ hcl om rfl rfl rfl ?_)
 obtain ⟨C,hC⟩ : ∃ C,C=c20_2:=⟨_,rfl⟩
 simp only [c20,<- hC,yC]
 rcases hk with rfl | rfl
 all_goals
  repeat' (first|refine qxy ?_|refine zbf rfl (fun _=>?_) fun _=>?_|refine zbg rfl (fun _=>?_) fun _=>?_|refine zbh rfl (fun _=>?_) fun _=>?_|refine zbm rfl (fun _=>?_) fun _=>?_|refine zbn rfl (fun _=>?_) fun _=>?_)
  subst hC
  refine Run.seq (Run.region0 (Ops.mv rfl (Ops.mv rfl (Ops.build rfl hb ?_))))
  repeat' (first|refine qmy ?_|refine zbf rfl (fun _=>?_) fun _=>?_|refine zbg rfl (fun _=>?_) fun _=>?_|refine zbh rfl (fun _=>?_) fun _=>?_|refine zbm rfl (fun _=>?_) fun _=>?_|refine zbn rfl (fun _=>?_) fun _=>?_)
  exact ⟨rfl,rfl⟩
theorem dv_New_no (hd:1<=d) (hk : ¬ ((1<=k/\k<=4)/\1<=room/\room<=256)):cl d (.fn F.jcM) [.p w 0,.i k,.i room] h=some (.tup [.ptr none,.i 2],h):=by
 refine jar (at_ hcl om rfl rfl rfl ?_)
 by_cases k0:k<1
 ·clear hk
  refine qx1 ?_
  exact ⟨rfl,rfl⟩
 by_cases k1:4<k
 ·clear hk
  refine qx1 ?_
  exact ⟨rfl,rfl⟩
 by_cases r0:room<1
 ·clear hk
  refine qx1 ?_
  exact ⟨rfl,rfl⟩
 ·have r1:256<room:=by omega
  clear hk
  refine qx1 ?_
  exact ⟨rfl,rfl⟩
theorem dv_New (hd:3<=d) (hk:1<=k/\k<=4) (r0:1<=room) (r1:room<=256) :
  ∃ E h',cl d (.fn F.jcM) [.p w 0,.i k,.i room] h=some (.tup [.p E 0,.i 0],h')/\DV h' w k room h.nx E/\Old h h':=by
 suffices q : ∃ v h',cl d (.fn F.jcM) [.p w 0,.i k,.i room] h=some (v,h') /\ ∃ E,v = .tup [.p E 0,.i 0]/\DV h' w k room h.nx E/\Old h h' by
  obtain ⟨_,h',e,E,rfl,q⟩:=q;exact ⟨E,h',e,q⟩
 have r0' : ¬ room<1:=by omega
 have r1' : ¬ 256<room:=by omega
 obtain ⟨k0,k1⟩:=hk
 have k0' : ¬ k<1:=by omega
 have k1' : ¬ 4<k:=by omega
 by_cases hp:k=1\/k=2
 ·have e1:=pd_New hcl (d:=d-1) (w:=w) (h:=h) om hp
  have gD:(h.new (.cells (dcc w k fun _=>0) false)).get h.nx=some (.cells (dcc w k fun _=>0) false):=jae _
  have o1:Old h (h.new (.cells (dcc w k fun _=>0) false)):=(Old.refl h).new
  have n1:(h.new (.cells (dcc w k fun _=>0) false)).nx=h.nx+1:=rfl
  generalize h.new (.cells (dcc w k fun _=>0) false)=G at e1 gD o1 n1
  have K:DV (G.new (.cells [.iface 59 (.p h.nx 0),.i k] false)) w k room h.nx G.nx := .p hp h.nx (jae _) ⟨_,by rw [jad om,gD]⟩ (zn _) (by show h.nx<G.nx+1;omega) (Nat.lt_succ_self _) om
  have O:Old h (G.new (.cells [.iface 59 (.p h.nx 0),.i k] false)):=o1.new
  refine at_ hcl om rfl rfl rfl ?_
  clear k0 k1
  by_cases h1:k=1
  ·clear hp
   refine qm1 ?_
   exact ⟨_,rfl,K,O⟩
  ·have h2:k=2:=by omega
   clear hp
   refine qm1 ?_
   exact ⟨_,rfl,K,O⟩
 ·have hq:k=3\/k=4:=by omega
  obtain ⟨D,L,kv,G,e1,o1,gD,gL,dl,nD,nL,lD,lL⟩:=dq_New hcl (d:=d-1) (w:=w) (h:=h) om hq r0 r1
  have K:DV (G.new (.cells [.iface 62 (.p D 0),.i k] false)) w k room h.nx G.nx := .q hq D L kv (jae _) (by rw [jad lD,gD]) ⟨_,by rw [jad lL,gL]⟩ nD nL (Nat.lt_succ_of_lt lD) (Nat.lt_succ_of_lt lL) (Nat.lt_succ_self _) om om dl
  have O:Old h (G.new (.cells [.iface 62 (.p D 0),.i k] false)):=o1.new
  have h1 : ¬ k=1:=by omega
  have h2 : ¬ k=2:=by omega
  refine at_ hcl om rfl rfl rfl ?_
  clear k0 k1 hp hq gL gD
  refine qm1 ?_
  exact ⟨_,rfl,K,O⟩
omit hcl in
theorem alive21F:ran (jkj prog fuel 59 (.fn F.jbb) [] ⟨1,.lf⟩) (jfs 1218)=true:=by kernel_rfl
omit hcl in
theorem ran_viaH {f g:Call} (e:f=g) {t:Tgt} {a:List V} {h:H} {P:V->H->Bool} (p:ran (f t a h) P=true):ran (g t a h) P=true:=e ▸ p
omit hcl in
theorem alive21:ran (ja6 prog fuel 59 (.fn F.jbb) [] ⟨1,.lf⟩) (jfs 1218)=true:=ran_viaH (jhC prog fuel 59) alive21F
theorem ji8 {f d:Nat} {h0:H} {n n':Nat} (run:ran (ja6 prog fuel d (.fn f) [] ⟨n,.lf⟩) (jfs n')=true) (hnx:h0.nx=n) (hwf : ∀ b,n<=b->h0.get b=none) (hn:n<=n') :
  ∃ h1,cl d (.fn f) [] h0=some (.bool true,h1)/\h1.nx=n'/\(∀ j,n'<=j->h1.get j=none) /\ ∀ j o,h0.get j=some o->h1.get j=some o:=by
 obtain ⟨v1,e1,ra,pa⟩:=ran_ex run
 unfold jfs at pa
 simp only [zm,Nat.beq_eq,Nat.ble_eq] at pa
 obtain ⟨p1,p2,p3⟩:=pa
 obtain rfl:=isTrue_eq p1
 have hX:Ext h0.get ⟨n,.lf⟩ h0:=by have:=ext_all (h:=h0) (by rw [hnx];exact hwf);rwa [hnx] at this
 obtain ⟨h1,qa,xa⟩:=same_in hcl ra hX
 refine ⟨h1,qa,by rw [xa.nx];exact p2,fun j hj=>?_,fun j o hj=>ext_kept xa hj⟩
 rw [xa.get,hwf j om,show e1.get j=none from jgM _ _ om];rfl
abbrev jkx:V->H->Prop:=fun v _=>v = .bool true
theorem dh_0 {a b:Int} {x y:Bool} (hc:(a=0/\x=true/\b=191/\y=false)\/(a=190/\x=false/\b=190/\y=false)\/(a=0/\x=true/\b=0/\y=true)) :
  Run (cl d) fuel c3_0 [] [(7,.bool true),(12,.i a),(13,.bool x),(14,.i b),(15,.bool y)] h (Fin c3.res jkx):=by
 rcases hc with ⟨rfl,rfl,rfl,rfl⟩ | ⟨rfl,rfl,rfl,rfl⟩ | ⟨rfl,rfl,rfl,rfl⟩
 all_goals
  repeat' (first|refine qxy ?_|refine zbf rfl (fun _=>?_) fun _=>?_|refine zbg rfl (fun _=>?_) fun _=>?_|refine zbh rfl (fun _=>?_) fun _=>?_|refine zbm rfl (fun _=>?_) fun _=>?_|refine zbn rfl (fun _=>?_) fun _=>?_)
  rfl
theorem dh_rest {sbe:Env} (hd:8<=d) (W:WSt h w s ow (pwS 48) now tb no) (h0:h.get 0=some (.cells jai true)) (n0:0<h.nx) :
  Run (cl d) fuel c3_8 [] ((0,.i k) :: (1,.i room) :: (2,.i fd) :: (7,.bool true) :: (8,.p w 0) :: sbe) h (Fin c3.res jkx):=by
 by_cases hk:(1<=k/\k<=4)/\1<=room/\room<=256
 case neg=>
  have e1:=dv_New_no hcl (d:=d) (w:=w) (h:=h) om hk
  clear hk W
  refine qx1 ?_
  rfl
 obtain ⟨hk,r0,r1⟩:=hk
 obtain ⟨E,h1,e1,a1,o1⟩:=dv_New hcl (d:=d) (w:=w) (h:=h) om hk r0 r1
 have ok:=(jiR 48 (zn _)).ok
 have tN : ∀ j,h.nx<=j->ow j=0:=fun j hj=>W.top hj
 obtain ⟨h2,e2,a2,W2,c2⟩:=jjS hcl (d:=d) (fd:=fd) (n:=2) hd (.inl rfl) (W.old o1) ok (fun hf=>jhi hf.1 hf.2) a1 tN
 obtain ⟨h3,e3,a3,W3,c3⟩:=jjS hcl (d:=d) (fd:=fd) (n:=34) hd (.inr rfl) W2 ok (fun hf=>jhi hf.1 hf.2) a2 tN
 have g2:h2.get 0=some (.cells jai true):=by rw [c2.get 0 (by have:=o1.1;omega) om,o1.2 0 n0,h0]
 have g3:h3.get 0=some (.cells jai true):=by rw [c3.get 0 (by have:=o1.1;have:=c2.nx;omega) om,g2]
 obtain ⟨fv2,q2⟩:=a2.E
 obtain ⟨fv3,q3⟩:=a3.E
 have f2:=jdQ hcl (d:=d) om hk q2 g2
 have f3:=jdQ hcl (d:=d) om hk q3 g3
 clear a1 a2 a3 W W2 W3 c2 c3 o1 tN ok q2 q3 g2 g3 h0 r0 r1
 obtain ⟨C0,hC0⟩ : ∃ C,C=c3_0:=⟨_,rfl⟩
 have T:=fun {a b:Int} {x y:Bool}=>dh_0 hcl (d:=d) (h:=h3) (a:=a) (b:=b) (x:=x) (y:=y)
 rw [<- hC0] at T
 simp only [c3_8,c3_6,c3_4,c3_3,c3_1,<- hC0,yB,yC,yH]
 clear hC0
 by_cases hf:inFd fd
 case neg=>
  have x2:setE k fd 2=2:=by unfold setE;rw [if_neg hf]
  rw [x2] at e2
  unfold inFd at hf
  by_cases f0:fd<0
  ·clear hf hk e3 f2 f3 T
   refine qx1 ?_
   rfl
  ·have f1:95<fd:=by omega
   clear hf hk e3 f2 f3 T
   refine qx1 ?_
   rfl
 obtain ⟨f0,f1⟩:=id hf
 have f0' : ¬ fd<0:=by omega
 have f1' : ¬ 95<fd:=by omega
 have hk4:k=1\/k=2\/k=3\/k=4:=by omega
 clear hk
 rcases hk4 with rfl | rfl | rfl | rfl
 ·by_cases hb:fd<64
  ·have x2:setE 1 fd 2=0:=by unfold setE;rw [if_pos hf,if_neg om,if_neg om]
   have x3:setE 1 fd 34=191:=by unfold setE;rw [if_pos hf,if_neg om,if_pos ⟨by omega,rfl⟩]
   have T:=T (a:=0) (b:=191) (x:=true) (y:=false) (.inl ⟨rfl,rfl,rfl,rfl⟩)
   rw [x2] at e2
   rw [x3] at e3
   replace f2:cl d (.fn F.jaj) [.p E 0] h2=some (.i 0,h2):=f2
   replace f3:cl d (.fn F.jaj) [.p E 0] h3=some (.i 0,h3):=f3
   clear hf f0 f1 x2 x3
   refine qx1 ?_
   rw [decide_eq_true hb]
   exact T
  ·have x2:setE 1 fd 2=190:=by unfold setE;rw [if_pos hf,if_pos ⟨rfl,by omega⟩]
   have x3:setE 1 fd 34=190:=by unfold setE;rw [if_pos hf,if_pos ⟨rfl,by omega⟩]
   have T:=T (a:=190) (b:=190) (x:=false) (y:=false) (.inr (.inl ⟨rfl,rfl,rfl,rfl⟩))
   rw [x2] at e2
   rw [x3] at e3
   replace f2:cl d (.fn F.jaj) [.p E 0] h2=some (.i 0,h2):=f2
   replace f3:cl d (.fn F.jaj) [.p E 0] h3=some (.i 0,h3):=f3
   clear hf f0 f1 x2 x3
   refine qx1 ?_
   rw [decide_eq_false hb]
   exact T
 ·have x2:setE 2 fd 2=0:=by unfold setE;rw [if_pos hf,if_neg om,if_neg om]
  have x3:setE 2 fd 34=191:=by unfold setE;rw [if_pos hf,if_neg om,if_pos ⟨by omega,rfl⟩]
  have T:=T (a:=0) (b:=191) (x:=true) (y:=false) (.inl ⟨rfl,rfl,rfl,rfl⟩)
  rw [x2] at e2
  rw [x3] at e3
  replace f2:cl d (.fn F.jaj) [.p E 0] h2=some (.i 2,h2):=f2
  replace f3:cl d (.fn F.jaj) [.p E 0] h3=some (.i 2,h3):=f3
  clear hf f0 f1 x2 x3
  refine qx1 ?_
  exact T
 ·have x2:setE 3 fd 2=0:=by unfold setE;rw [if_pos hf,if_neg om,if_neg om]
  have x3:setE 3 fd 34=0:=by unfold setE;rw [if_pos hf,if_neg om,if_neg om]
  have T:=T (a:=0) (b:=0) (x:=true) (y:=true) (.inr (.inr ⟨rfl,rfl,rfl,rfl⟩))
  rw [x2] at e2
  rw [x3] at e3
  replace f2:cl d (.fn F.jaj) [.p E 0] h2=some (.i 11,h2):=f2
  replace f3:cl d (.fn F.jaj) [.p E 0] h3=some (.i 11,h3):=f3
  clear hf f0 f1 x2 x3
  refine qx1 ?_
  exact T
 ·have x2:setE 4 fd 2=0:=by unfold setE;rw [if_pos hf,if_neg om,if_neg om]
  have x3:setE 4 fd 34=0:=by unfold setE;rw [if_pos hf,if_neg om,if_neg om]
  have T:=T (a:=0) (b:=0) (x:=true) (y:=true) (.inr (.inr ⟨rfl,rfl,rfl,rfl⟩))
  rw [x2] at e2
  rw [x3] at e3
  replace f2:cl d (.fn F.jaj) [.p E 0] h2=some (.i 15,h2):=f2
  replace f3:cl d (.fn F.jaj) [.p E 0] h3=some (.i 15,h3):=f3
  clear hf f0 f1 x2 x3
  refine qx1 ?_
  exact T
theorem jgd {h0:H} (hnx:h0.nx=1) (hwf : ∀ b,1<=b->h0.get b=none) (l0:h0.get 0=some (.cells jai true)) {x0:Int} {u0:V} (r0:jhh .i64 h0 x0 [u0]) {x1:Int} {u1:V} (r1:jhh .i64 h0 x1 [u1]) {x2:Int} {u2:V} (r2:jhh .i64 h0 x2 [u2]) :
  ∃ h',cl 60 (.fn F.jaC) [u0,u1,u2] h0=some (.bool true,h'):=by
 suffices q : ∃ v h',cl 60 (.fn F.jaC) [u0,u1,u2] h0=some (v,h')/\v = .bool true by
  obtain ⟨_,h',e,rfl⟩:=q;exact ⟨h',e⟩
 obtain ⟨⟨⟩,_⟩:=r0
 obtain ⟨⟨⟩,_⟩:=r1
 obtain ⟨⟨⟩,_⟩:=r2
 obtain ⟨h1,ea,n1,wf1,k1⟩:=ji8 hcl alive21 hnx hwf om
 obtain ⟨w,s,ow,h2,e2,W2,o2,t2⟩:=nw_alone hcl (d:=59) om h1 (by rw [n1];exact wf1)
 have g2:h2.get 0=some (.cells jai true):=by rw [o2.2 0 om,k1 _ _ l0]
 have l2:0<h2.nx:=by have:=o2.1;omega
 have t0:ow 0=0:=t2 0 om
 clear hwf wf1 k1 o2 t2
 refine at_ hcl om rfl rfl rfl ?_
 obtain ⟨C8,hC8⟩ : ∃ C,C=c3_8:=⟨_,rfl⟩
 simp only [c3,c3_10,c3_9,<- hC8,uF,yB]
 refine qx1 ?_
 refine Run.loop (fun m e g=>∃ (i:Nat) (ow:Nat->Nat),m=48-i/\i<=48/\e=[(0,.i x0),(1,.i x1),(2,.i x2),(7,.bool true),(8,.p w 0),(9,.i (i:Int))]/\WSt g w s ow (pwS i) 0 Tb.zero none/\g.get 0=some (.cells jai true)/\0<g.nx/\ow 0=0)
  (k:=48) (by show _<100000;omega) ⟨0,ow,rfl,by omega,rfl,W2,g2,l2,t0⟩ ?_
 clear W2 g2 l2 t0 e2 ea
 rintro _ _ g ⟨i,ow,rfl,hi,rfl,W,g0,l0',t0⟩ n ih
 by_cases hlt:(i:Int)<48
 case neg=>
  obtain rfl:i=48:=by omega
  have T:=dh_rest hcl (d:=59) (k:=x0) (room:=x1) (fd:=x2) (sbe:=[(9,.i ((48:Nat):Int)),(19,.bool (decide (((48:Nat):Int)<48)))]) om W g0 l0'
  rw [<- hC8] at T
  clear ih W hC8
  refine qx1 ?_
  exact T
 obtain ⟨x,y,g',ow',e3,_,_,W3,t3⟩:=ww_Pair hcl (d:=59) (n:=1) om (jiR i om) W
 rw [jhk om] at e3 W3
 have g3:g'.get 0=some (.cells jai true):=by rw [t3.ch.get 0 l0' (by intro e;exact e t0),g0]
 have l3:0<g'.nx:=zp l0' t3.ch.nx
 have t3':ow' 0=0:=by rw [t3.tag 0 l0',t0]
 have hi1:(i:Int)+1=((i+1:Nat):Int):=by omega
 clear W t3 hC8
 refine qx1 ?_
 rw [hi1]
 exact ih (48-(i+1)) om _ _ ⟨i+1,ow',rfl,by omega,rfl,W3,g3,l3,t3'⟩
end
end Am.Sigs
