/- Our own library, part 10. -/
import Derived.Orders
import Derived.Test.YtccoogikjelcbaaGreatDoorM09
import Derived.Test.YtccoogikjelcbaaGreatDoorM06
set_option maxHeartbeats 8000000
set_option maxRecDepth 800
set_option linter.all false
namespace Am
open Go
theorem jgB {α : Type} (n:Nat) (k:Nat -> α):jnb n k=k n:=by cases n<;>rfl
def jnn (full:List Oper) (S:Nat->Prop):Prop := ∀ i o,full[i]?=some o->S i -> ∀ e∈jbI o,S e
def joi (full:List Oper) (L:List Nat):Prop := ∀ i o,full[i]?=some o -> ∀ j,Nat.testBit (L.getD i 0) j=true -> ∀ S,jnn full S->(∀ e∈jbI o,S e)->S j
theorem jhN (L:List Nat) : ∀ (es:List Nat) (a j:Nat),Nat.testBit (es.foldl (fun s e=>s ||| 2 ^ e ||| L.getD e 0) a) j=true->Nat.testBit a j=true \/ ∃ e∈es,j=e\/Nat.testBit (L.getD e 0) j=true
 | [],a,j,h=>.inl h
 | e :: es,a,j,h=>by
  rcases jhN L es _ j h with h1 | ⟨e',h1,h2⟩
  ·simp only [Nat.testBit_or,Bool.or_eq_true,Nat.testBit_two_pow,zq] at h1
   rcases h1 with (h1 | h1) | h1
   ·exact .inl h1
   ·exact .inr ⟨e,zh ..,.inl h1.symm⟩
   ·exact .inr ⟨e,zh ..,.inr h1⟩
  ·exact .inr ⟨e',zj _ h1,h2⟩
theorem jmr (full:List Oper) : ∀ (r:List Oper) (acc:List Nat) (pre:List Oper),full=pre++r->pre.length=acc.length->joi full acc.reverse->joi full (befL r acc)
 | [],acc,pre,_,_,h=>by unfold befL;exact h
 | o :: r,acc,pre,he,hl,h=>by
  unfold befL
  simp only [jgB]
  refine jmr full r _ (pre++[o]) (by simp [he]) (by simp [hl]) ?_
  intro i o' hi j hj S hS hE
  rw [List.reverse_cons] at hj
  by_cases hlt:i<acc.length
  ·refine h i o' hi j ?_ S hS hE
   rw [List.getD_eq_getElem?_getD] at hj ⊢
   rw [List.getElem?_append_left (by simpa using hlt)] at hj
   exact hj
  ·rw [List.getD_eq_getElem?_getD,List.getElem?_append_right (by simpa using Nat.le_of_not_lt hlt)] at hj
   by_cases heq:i=acc.length
   ·subst heq
    have ho:o'=o:=by
     rw [he,List.getElem?_append_right om,hl] at hi
     simpa using hi.symm
    subst ho
    simp only [List.length_reverse,Nat.sub_self,List.getElem?_cons_zero,Option.getD_some] at hj
    rcases jhN _ _ _ _ hj with h1 | ⟨e,h1,h2 | h2⟩
    ·simp at h1
    ·subst h2;exact hE _ h1
    ·have hSe:=hE e h1
     have hlt':e<acc.length:=by
      rcases zr e acc.length with h3 | h3
      ·exact h3
      ·rw [List.getD_eq_getElem?_getD,zc (by simpa using h3)] at h2
       simp at h2
     have hle:acc.length<=full.length:=by rw [he];simp;omega
     obtain ⟨oe,hoe⟩ : ∃ oe,full[e]?=some oe:=⟨_,za om⟩
     exact h e oe hoe j h2 S hS (hS e oe hoe hSe)
   ·have:i-acc.reverse.length=(i-acc.length-1)+1:=by simp;omega
    rw [this] at hj
    simp at hj
theorem bef_ok (full:List Oper):joi full (befL full []):=by
 refine jmr full full [] [] rfl rfl ?_
 intro i o _ j hj
 simp at hj
def OrdL (ops:Array Oper):(Nat->Prop)->List Ins->Prop
 | _,[]=>True
 | done,s :: r=>(∀ o,ops[s.ix]?=some o -> ∀ e∈jbI o,done e)/\OrdL ops (fun j=>done j\/j=s.ix) r
theorem OrdL.mono {ops:Array Oper} : ∀ {l:List Ins} {d d':Nat->Prop},(∀ j,d j->d' j)->OrdL ops d l->OrdL ops d' l
 | [],_,_,_,_=>trivial
 | _ :: _,_,_,hm,h=>⟨fun o ho e he=>hm _ (h.1 o ho e he),h.2.mono fun j hj=>hj.imp (hm j) id⟩
theorem OrdL.drop {ops:Array Oper} {b:Ins} {post:List Ins} : ∀ {pre:List Ins} {d:Nat->Prop},OrdL ops d (pre++b :: post)->OrdL ops (fun j=>d j\/j=b.ix) (pre++post)
 | [],_,h=>h.2
 | a :: pre,d,h=>by
  refine ⟨fun o ho e he=>.inl (h.1 o ho e he),(OrdL.drop h.2).mono ?_⟩
  rintro j ((h1 | h1) | h1)
  ·exact .inl (.inl h1)
  ·exact .inr h1
  ·exact .inl (.inr h1)
theorem jnm (d k j:Nat):Nat.testBit (d ||| 2 ^ k) j=true↔(Nat.testBit d j=true\/j=k):=by
 rw [Nat.testBit_or,Nat.testBit_two_pow,Bool.or_eq_true,zq]
 exact or_congr Iff.rfl eq_comm
theorem jdV {ops:Array Oper} : ∀ {l:List Ins} {d:Nat},jh0 ops l d=true->OrdL ops (fun j=>Nat.testBit d j=true) l/\(∀ s∈l,Nat.testBit d s.ix=false)/\l.Pairwise (fun a b=>a.ix≠b.ix) /\
  ∀ i,i<ops.size->Nat.testBit d i=true \/ ∃ s∈l,s.ix=i
 | [],d,h=>by
  simp only [jh0,nbeq,zq] at h
  refine ⟨trivial,fun s hs=>by simp at hs,List.Pairwise.nil,fun i hi=>.inl ?_⟩
  rw [h,Nat.testBit_two_pow_sub_one];simpa using hi
 | s :: r,d,h=>by
  simp only [jh0,jgB,zm,Bool.not_eq_true'] at h
  obtain ⟨⟨h1,h2⟩,h3⟩:=h
  obtain ⟨q1,q2,q3,q4⟩:=jdV h3
  have bit:=jnm d s.ix
  refine ⟨⟨fun o ho e he=>?_,q1.mono fun j hj=>(bit j).1 hj⟩,fun a ha=>?_,List.pairwise_cons.2 ⟨fun a ha e0=>?_,q3⟩,fun i hi=>?_⟩
  ·rw [ho] at h2
   exact zC.1 h2 e he
  ·rcases zE.1 ha with rfl | ha
   ·exact h1
   ·have:=q2 a ha
    cases hb:Nat.testBit d a.ix with
    | false=>rfl
    | true=>rw [(bit _).2 (.inl hb)] at this;cases this
  ·have:=q2 a ha
   rw [(bit _).2 (.inr e0.symm)] at this;cases this
  ·rcases q4 i hi with h4 | ⟨a,ha,he⟩
   ·rcases (bit i).1 h4 with h5 | h5
    ·exact .inl h5
    ·exact .inr ⟨s,zh ..,h5.symm⟩
   ·exact .inr ⟨a,zj _ ha,he⟩
theorem je0 {res:Nat} : ∀ {l:List Ins} {d:Nat},atsM res l d=true->(∀ s∈l,s.i.cls = .A -> ∃ k,s.at_=some k)/\(∀ s∈l,∀ k,s.at_=some k->k<res/\Nat.testBit d k=false) /\
  l.Pairwise (fun a b=>∀ k,a.at_=some k->b.at_≠some k)
 | [],d,_=>⟨fun s hs=>by simp at hs,fun s hs=>by simp at hs,List.Pairwise.nil⟩
 | s :: r,d,h=>by
  unfold atsM at h
  split at h
  ·next k hc hk=>
   simp only [jgB,zm,Bool.not_eq_true'] at h
   obtain ⟨⟨h1,h2⟩,h3⟩:=h
   obtain ⟨q1,q2,q3⟩:=je0 h3
   have bit:=jnm d k
   refine ⟨fun a ha=>?_,fun a ha k' hk'=>?_,List.pairwise_cons.2 ⟨fun a ha k' hk' hk2=>?_,q3⟩⟩
   ·rcases zE.1 ha with rfl | ha
    ·exact fun _=>⟨k,hk⟩
    ·exact q1 a ha
   ·rcases zE.1 ha with rfl | ha
    ·rw [hk] at hk';cases hk'
     exact ⟨by simp [Nat.blt] at h1;omega,h2⟩
    ·obtain ⟨g1,g2⟩:=q2 a ha k' hk'
     refine ⟨g1,?_⟩
     cases hb:Nat.testBit d k' with
     | false=>rfl
     | true=>rw [(bit _).2 (.inl hb)] at g2;cases g2
   ·rw [hk] at hk';cases hk'
    have:=(q2 a ha k hk2).2
    rw [(bit _).2 (.inr rfl)] at this;cases this
  ·cases h
  ·next hk hc=>
   obtain ⟨q1,q2,q3⟩:=je0 h
   refine ⟨fun a ha hA=>?_,fun a ha k' hk'=>?_,List.pairwise_cons.2 ⟨fun a ha k' hk'=>?_,q3⟩⟩
   ·rcases zE.1 ha with rfl | ha
    ·exact (hc hA).elim
    ·exact q1 a ha hA
   ·rcases zE.1 ha with rfl | ha
    ·rw [hk] at hk';cases hk'
    ·exact q2 a ha k' hk'
   ·rw [hk] at hk';cases hk'
  ·cases h
def Rel2 (bef:List Nat) (a b:Ins):Prop:=Keep a b/\(Nat.testBit (bef.getD b.ix 0) a.ix=false->Free a b)
theorem jbo {l:List Nat} {d:Nat} (h:(!l.contains d)=true):d ∉ l:=by
 intro hm
 simp at h
 exact h hm
theorem jjr {a b:Ins} (h:ssaM a b=true):Off b.dst a:=by
 intro s hs
 unfold ssaM at h
 rw [hs] at h
 simp only [zm] at h
 exact ⟨jbo h.1.1,jbo h.1.2,by simpa using h.2⟩
theorem okM_ok {a:Ins} (h:okM a=true):Ok1 a:=by
 unfold okM at h
 simp only [zm,Bool.or_eq_true,beq_iff_eq,bne_iff_ne,ne_eq] at h
 refine ⟨fun hn=>?_,fun hr d hd=>?_⟩
 ·rcases h.1 with h1 | h1
  ·exact zw h1 hn
  ·simpa using h1
 ·rcases h.2 with h1 | h1
  ·exact zw hr h1
  ·rw [hd] at h1;exact jbo h1
theorem jkF {a b:Ins} (h:ssaM a b=true) (h2:jnZ a b=true):Free a b:=by
 unfold jnZ at h2
 simp only [zm] at h2
 refine ⟨jjr h,fun d hd=>?_,fun hne=>?_⟩
 ·have:=h2.1
  rw [hd] at this
  exact jbo this
 ·have:=h2.2
  have key:(a.i.cls = .E->b.i.cls = .A)/\(a.i.cls = .A->b.i.cls = .A):=by
   constructor<;>intro ha<;>rw [ha] at this<;>cases hb:b.i.cls<;>rw [hb] at this hne<;>first | rfl | exact zw rfl hne | cases this
  refine ⟨key.1,key.2,fun ha hb=>?_⟩
  rw [ha,hb] at this
  dsimp only at this
  split at this
  ·next d hd=>
   obtain ⟨c,hc,h4⟩:=List.any_eq_true.1 this
   simp only [zm,nbeq,zq,beq_iff_eq] at h4
   obtain ⟨⟨rfl,h5⟩,h6⟩:=h4
   refine ⟨_,hd,?_⟩
   rw [<- sameR_eq h5,<- h6]
   exact hc
  ·cases this
theorem jdU {bef:List Nat} : ∀ {l:List Ins},jj8 bef l=true->(∀ a∈l,Ok1 a)/\l.Pairwise (Rel2 bef)
 | [],_=>⟨fun s hs=>by simp at hs,List.Pairwise.nil⟩
 | a :: r,h=>by
  simp only [jj8,zm,zC,Bool.or_eq_true,bne_iff_ne,ne_eq] at h
  obtain ⟨⟨h1,h2⟩,h3⟩:=h
  obtain ⟨q1,q2⟩:=jdU h3
  refine ⟨fun b hb=>?_,List.pairwise_cons.2 ⟨fun b hb=>⟨fun hR s hs=>?_,fun hbit=>?_⟩,q2⟩⟩
  ·rcases zE.1 hb with rfl | hb
   ·exact okM_ok h1
   ·exact q1 b hb
  ·rcases h2 b hb with h4 | h4
   ·exact zw hR h4.2
   ·have:=jjr h4.1 s hs
    exact ⟨this.1,this.2.2⟩
  ·rcases h2 b hb with h4 | h4
   ·rw [hbit] at h4;cases h4.1
   ·rcases h4.2 with h5 | h5
    ·rw [hbit] at h5;cases h5
    ·exact jkF h4.1 h5
end Am
namespace Am
open Go
def L (listed:Array Bool) (j:Nat):Prop:=listed.getD j false=true
theorem joL {listed:Array Bool} {i:Nat} (hi:i<listed.size) (j:Nat):L (listed.setIfInBounds i true) j↔(L listed j\/j=i):=by
 unfold L
 rw [Array.getD_eq_getD_getElem?,Array.getD_eq_getD_getElem?]
 by_cases e:i=j
 ·subst e;simp [hi]
 ·rw [Array.getElem?_setIfInBounds_ne e]
  constructor
  ·exact .inl
  ·rintro (h | h)
   ·exact h
   ·exact zw h.symm e
theorem jeT {ops:Array Oper} {listed:Array Bool} (hs:listed.size=ops.size) (i:Nat):i∈Region.ready .any ops listed↔i<ops.size /\ ¬ L listed i /\ ∃ o,ops[i]?=some o /\ ∀ e∈jbI o,L listed e:=by
 unfold Region.ready
 rw [List.mem_filter,List.mem_range]
 constructor
 ·rintro ⟨h1,h2⟩
  simp only [zm,Bool.not_eq_true'] at h2
  refine ⟨h1,?_,?_⟩
  ·unfold L
   rw [Array.getD_eq_getD_getElem?] at h2 ⊢
   have:listed[i]?=some listed[i]:=Array.getElem?_eq_getElem om
   rw [this] at h2 ⊢
   simp at h2 ⊢
   exact h2.1
  ·have ho:ops[i]?=some ops[i]:=Array.getElem?_eq_getElem h1
   refine ⟨ops[i],ho,fun e he=>?_⟩
   have h3:=h2.2
   rw [ho] at h3
   simp only [Option.map_some,Option.getD_some] at h3
   rw [Array.all_eq_true_iff_forall_mem] at h3
   unfold jbI at he
   obtain ⟨x,hx,hxe⟩:=List.mem_filterMap.1 he
   have:=h3 x (by simpa using hx)
   split at hxe
   ·next hb=>
    cases hxe
    rw [hb] at this
    simpa [L] using this
   ·cases hxe
 ·rintro ⟨h1,h2,o,ho,h3⟩
  refine ⟨h1,?_⟩
  simp only [zm,Bool.not_eq_true']
  refine ⟨?_,?_⟩
  ·unfold L at h2
   rw [Array.getD_eq_getD_getElem?] at h2 ⊢
   have:listed[i]?=some listed[i]:=Array.getElem?_eq_getElem om
   rw [this] at h2 ⊢
   simpa using h2
  ·rw [ho]
   simp only [Option.map_some,Option.getD_some]
   rw [Array.all_eq_true_iff_forall_mem]
   intro x hx
   cases hb:Region.binds .any x with
   | false=>rfl
   | true=>
    have:=h3 x.on (by
     unfold jbI
     exact List.mem_filterMap.2 ⟨x,by simpa using hx,by rw [zg hb]⟩)
    unfold L at this
    rw [this];rfl
theorem go_succ (ops:Array Oper) (fuel T:Nat) (listed:Array Bool):Region.linearise.go .any ops (fuel+1) T listed [] =
  match (Region.ready .any ops listed)[T%(Region.ready .any ops listed).length]? with
  | some i=>i :: Region.linearise.go .any ops fuel (T/(Region.ready .any ops listed).length) (listed.setIfInBounds i true) []
  | none=>[]:=by
 simp only [Region.linearise.go]
 change (match (Region.ready .any ops listed)[T%(Region.ready .any ops listed).length]? with
   | some i=>Region.linearise.go .any ops fuel (T/(Region.ready .any ops listed).length) (listed.setIfInBounds i true) [i]
   | none=>[].reverse)=_
 split
 ·rw [linearise_go_acc];rfl
 ·rfl
structure Good (P:Program) (C:Cx) (nt:Nat) (ops:Array Oper) (res:Nat) (listed:Array Bool) (r:List Ins):Prop where
 size:listed.size=ops.size
 closed:jnn ops.toList (L listed)
 ord:OrdL ops (L listed) r
 all : ∀ i,i<ops.size->L listed i \/ ∃ s∈r,s.ix=i
 left : ∀ s∈r,¬ L listed s.ix
 ok : ∀ s∈r,Ok1 s
 rel:r.Pairwise (Rel2 (befL ops.toList []))
 ixs:r.Pairwise fun a b=>a.ix≠b.ix
 ats:r.Pairwise fun a b=>∀ k,a.at_=some k->b.at_≠some k
 ins : ∀ s∈r,insM P C nt ops s=true/\jlY ops s=true/\(s.i.cls = .A -> ∃ k,s.at_=some k) /\ ∀ k,s.at_=some k->k<res
section
variable {P:Program} {C:Cx} {nt res:Nat} {ops:Array Oper} {listed:Array Bool}
theorem Good.drop {pre post:List Ins} {b:Ins} (g:Good P C nt ops res listed (pre++b :: post)) {o:Oper} (ho:ops[b.ix]?=some o) (he : ∀ e∈jbI o,L listed e) :
  Good P C nt ops res (listed.setIfInBounds b.ix true) (pre++post):=by
 have hlt:b.ix<listed.size:=by
  rw [g.size]
  rcases zr b.ix ops.size with h | h
  ·exact h
  ·rw [zD h] at ho;cases ho
 have hset:=joL (listed:=listed) hlt
 have hsub:(pre++post).Sublist (pre++b :: post):=List.Sublist.append (List.Sublist.refl _) (List.sublist_cons_self _ _)
 have hmem : ∀ s∈pre++post,s∈pre++b :: post:=fun s hs=>hsub.subset hs
 have hne : ∀ s∈pre++post,s.ix≠b.ix:=by
  intro s hs
  have h1:=List.pairwise_append.1 g.ixs
  rcases zy.1 hs with hs | hs
  ·exact h1.2.2 s hs b (zh ..)
  ·exact ((List.pairwise_cons.1 h1.2.1).1 s hs).symm
 refine ⟨by simp [g.size],?_,g.ord.drop.mono fun j hj=>(hset j).2 hj,?_,fun s hs hl=>?_,fun s hs=>g.ok s (hmem s hs),g.rel.sublist hsub,g.ixs.sublist hsub,g.ats.sublist hsub,fun s hs=>g.ins s (hmem s hs)⟩
 ·intro i o' hi hl e hE
  rcases (hset i).1 hl with h1 | h1
  ·exact (hset e).2 (.inl (g.closed i o' hi h1 e hE))
  ·subst h1
   have:o'=o:=by
    rw [Array.getElem?_toList] at hi
    rw [ho] at hi;exact (Option.some.inj hi).symm
   subst this
   exact (hset e).2 (.inl (he e hE))
 ·intro i hi
  rcases g.all i hi with h1 | ⟨s,hs,h1⟩
  ·exact .inl ((hset i).2 (.inl h1))
  ·rcases zy.1 hs with hs | hs
   ·exact .inr ⟨s,List.mem_append_left _ hs,h1⟩
   ·rcases zE.1 hs with rfl | hs
    ·exact .inl ((hset i).2 (.inr h1.symm))
    ·exact .inr ⟨s,List.mem_append_right _ hs,h1⟩
 ·rcases (hset s.ix).1 hl with h1 | h1
  ·exact g.left s (hmem s hs) h1
  ·exact hne s hs h1
theorem ext_get {h h':H} (x:Ext (fun _=>none) h h') (j:Nat):h'.get j=h.get j:=by rw [x.get];simp
theorem Step.congr {N:Nat} {m m':Mp} {h h' h2:H} {w w':World} (a:Step P C N m h w m' h2 w') (x:Ext (fun _=>none) h' h2):Step P C N m h w m' h' w':=by
 have hg:=ext_get x
 refine ⟨a.mono,a.old,⟨fun b o hb=>a.rel.obj b o (by rw [hg];exact hb),fun b b' o o' l l' hb hb'=>a.rel.inj b b' o o' l l' (by rw [hg];exact hb) (by rw [hg];exact hb'),fun b l hb=>?_⟩,?_,?_,a.size,?_,a.loops,a.os,a.tape,a.output⟩
 ·have:=a.rel.dom b l hb;rw [x.nx] at this;exact this
 ·rw [<- x.nx];exact a.nx
 ·intro b hb e;rw [<- hg];exact a.dead b hb e
 ·intro β hβ hn
  obtain ⟨h1,h2'⟩:=a.frame β hβ hn
  refine ⟨h1,?_⟩
  rintro ⟨b,o,l,q1,q2,q3,q4⟩
  exact h2' ⟨b,o,l,by rw [hg];exact q1,q2,q3,q4⟩
theorem ext_trans {a b c:H} (x:Ext (fun _=>none) a b) (y:Ext (fun _=>none) b c):Ext (fun _=>none) a c :=
 ⟨y.nx.trans x.nx,fun j=>by rw [y.get,x.get];simp,fun j hj=>zw rfl hj⟩
theorem jml {call:Am.Call} (hT:TOk P C) (hC:jcv P C call) (hF:jcn call) {base:Nat} : ∀ (fuel T:Nat) (listed:Array Bool) (r:List Ins) (e e' ef:Env) (h h' hf:H) (m:Mp) (w:World) (t:Array Value),
  r.length=fuel->Good P C nt ops res listed r->(∀ s∈r,∀ k,s.at_=some k->m (base+k)=none/\h.get (base+k)=none) ->
  (∀ i o d,L listed i->ops[i]?=some o->o.dst=some d->e.get d≠none)->GOk C m->HRel P C m h w->ERel m e t->nt<=t.size->base+res<=h.nx ->
  jag call base r e h=some (ef,hf)->(∀ s,ef.get s=e'.get s)->Ext (fun _=>none) h' hf ->
  ∀ fn ro k ds cs,∃ m' w' t',Step P C base m h w m' h' w'/\ERel m' e' t'/\t'.size=t.size /\
   Steps P (lone (Fm fn ro t (.inRegion ops (Region.linearise.go .any ops fuel T listed []) :: k) ds) cs w) (lone (Fm fn ro t' (.inRegion ops [] :: k) ds) cs w')
 | 0,T,listed,r,e,e',ef,h,h',hf,m,w,t,hl,g,hat,hk,hG,hR,he,hnt,hb,hr,hee,hx,fn,ro,kk,ds,cs=>by
  have hr0:r=[]:=zl.1 hl
  subst hr0
  cases hr
  refine ⟨m,w,t,(Step.refl base hR).congr hx,fun s v hs=>he s v (by rw [hee];exact hs),rfl,?_⟩
  have:Region.linearise.go .any ops 0 T listed []=[]:=rfl
  rw [this]
  exact Steps.refl _ _
 | fuel+1,T,listed,r,e,e',ef,h,h',hf,m,w,t,hl,g,hat,hk,hG,hR,he,hnt,hb,hr,hee,hx,fn,ro,kk,ds,cs=>by
  obtain ⟨s0,r0,rfl⟩ : ∃ s0 r0,r=s0 :: r0:=by
   cases r with
   | nil=>cases hl
   | cons a b=>exact ⟨a,b,rfl⟩
  have hne:Region.ready .any ops listed≠[]:=by
   obtain ⟨o,ho,_⟩:=jch (g.ins s0 (zh ..)).1
   have hlt:s0.ix<ops.size:=by
    rcases zr s0.ix ops.size with h1 | h1
    ·exact h1
    ·rw [zD h1] at ho;cases ho
   have:=(jeT g.size s0.ix).2 ⟨hlt,g.left s0 (zh ..),o,ho,fun e hE=>g.ord.1 o ho e hE⟩
   intro e0;rw [e0] at this;cases this
  have hpos:0<(Region.ready .any ops listed).length:=List.length_pos_iff.2 hne
  have hlt:=Nat.mod_lt T hpos
  have hget:=za hlt
  have hmem:=List.getElem_mem hlt
  generalize (Region.ready .any ops listed)[T%(Region.ready .any ops listed).length]=i at hget hmem
  obtain ⟨hi,hnl,o,ho,hE⟩:=(jeT g.size i).1 hmem
  rw [go_succ,hget]
  dsimp only
  obtain ⟨b,hbm,hbi⟩:=(g.all i hi).resolve_left hnl
  subst hbi
  obtain ⟨pre,post,hsplit⟩:=List.append_of_mem hbm
  rw [hsplit] at g hat hr hl
  have gI:=g.ins b Zb
  have hpre : ∀ a∈pre,a∈pre++b :: post:=fun a ha=>List.mem_append_left _ ha
  have hrel:=List.pairwise_append.1 g.rel
  have hfree : ∀ a∈pre,Free a b:=by
   intro a ha
   refine (hrel.2.2 a ha b (zh ..)).2 ?_
   cases hbit:Nat.testBit ((befL ops.toList []).getD b.ix 0) a.ix with
   | false=>rfl
   | true=>
    have:=bef_ok ops.toList b.ix o (by rw [Array.getElem?_toList];exact ho) a.ix hbit (L listed) g.closed hE
    exact zw this (g.left a (hpre a ha))
  have hats:=List.pairwise_append.1 g.ats
  obtain ⟨v,h1,hone,e2,h2,hr2,he2,hx2⟩:=comm hF hr hfree (fun a ha=>g.ok a (hpre a ha)) (hrel.1.imp fun h9=>h9.1)
   (fun k hk'=>⟨(hat b Zb k hk').2,by have:=gI.2.2.2 k hk';omega,fun a ha e0=>hats.2.2 a ha b (zh ..) k e0 hk'⟩) gI.2.2.1
  have hguard : ∀ q c,b.guard=some (q,c)->e.get q≠none:=by
   intro q c hq
   obtain ⟨o',ho',hd',hlt',hgm,_⟩:=jch gI.1
   rw [ho] at ho';cases ho'
   have hge:=gI.2.1
   unfold jlY at hge
   rw [ho] at hge
   dsimp only at hge
   unfold jfn at hgm
   rw [hq] at hgm
   split at hgm
   ·next e0 e1=>cases e0
   ·next s1 b1 j b2 e0 e1=>
    cases e0
    rw [e1] at hge
    dsimp only at hge
    simp only [zm] at hgm
    have hgm2:=hgm.2
    split at hgm2
    ·next oj hoj=>
     exact hk j oj _ (hE j (by simpa using hge)) hoj (by simpa using hgm2)
    ·cases hgm2
   ·cases hgm
  obtain ⟨m1,w1,x,hs1,he1,hold,hst⟩:=jh2 (N:=base) hT hC hG hR he om hnt gI.1 hguard (base:=base)
   (fun k hk'=>⟨Nat.le_add_right _ _,by have:=gI.2.2.2 k hk';omega,hat b Zb k hk'⟩) hone fn ro (Region.linearise.go .any ops fuel (T/(Region.ready .any ops listed).length) (listed.setIfInBounds b.ix true) []) kk ds cs
  have hdrop:=g.drop ho hE
  obtain ⟨m2,w2,t2,q1,q2,q3,q4⟩:=jml hT hC hF fuel (T/(Region.ready .any ops listed).length) (listed.setIfInBounds b.ix true) (pre++post) (layv e b.dst v) e' e2 h1 h' h2 m1 w1 (putT t b.dst x)
   (by simp at hl ⊢;omega) hdrop (fun s hs k hk'=>by
    have hs':s∈pre++b :: post:=by
     rcases zy.1 hs with h9 | h9
     ·exact List.mem_append_left _ h9
     ·exact List.mem_append_right _ (zj _ h9)
    obtain ⟨a1,a2⟩:=hat s hs' k hk'
    have hkr:=(g.ins s hs').2.2.2 k hk'
    refine hold (base+k) om a1 a2 ?_
    intro e0
    cases hb2:b.at_ with
    | none=>rw [hb2] at e0;cases e0
    | some k2=>
     rw [hb2] at e0
     simp only [Option.map_some,Option.some.injEq] at e0
     have hk2:k2=k:=by omega
     subst hk2
     rcases zy.1 hs with h9 | h9
     ·exact hats.2.2 s h9 b (zh ..) _ hk' hb2
     ·exact (List.pairwise_cons.1 hats.2.1).1 s h9 _ hb2 hk')
   (fun i o' d hL hi' hd=>by
    rw [jaJ]
    split
    ·simp
    ·next hne'=>
     rcases (joL (by rw [g.size];exact hi) i).1 hL with h9 | h9
     ·exact hk i o' d h9 hi' hd
     ·subst h9
      obtain ⟨o2,ho2,hd2,_⟩:=jch gI.1
      rw [ho2] at hi';cases hi'
      rw [<- hd2] at hd
      exact zw hd hne')
   (hG.mono hs1.mono) hs1.rel he1 (by rw [jcK];exact hnt) (zu hb hs1.nx) hr2 (fun s=>(he2 s).trans (hee s)) (ext_trans hx hx2) fn ro kk ds cs
  exact ⟨m2,w2,t2,hs1.trans q1,q2,q3.trans (jcK ..),hst.trans q4⟩
theorem seqM_cons {s:Ins} {r:List Ins} {n:Nat} (h:seqM (s :: r) n=true):s.ix=n/\s.at_=none/\s.chk=[]/\seqM r (n+1)=true:=by
 simp only [seqM,zm,nbeq,zq] at h
 exact ⟨h.1.1.1,by simpa using h.1.1.2,by simpa using h.1.2,h.2⟩
theorem jne {call:Am.Call} (hT:TOk P C) (hC:jcv P C call) {base N:Nat} : ∀ (l:List Ins) (n:Nat) (e e':Env) (h h':H) (m:Mp) (w:World) (t:Array Value),
  seqM l n=true->(∀ s∈l,insM P C nt ops s=true/\jlX ops s=true)->(∀ i o d,i<n->ops[i]?=some o->o.dst=some d->e.get d≠none)->GOk C m->HRel P C m h w->ERel m e t->nt<=t.size->N<=h.nx ->
  jag call base l e h=some (e',h') ->
  ∀ fn ro k ds cs,∃ m' w' t',Step P C N m h w m' h' w'/\ERel m' e' t'/\t'.size=t.size /\
   Steps P (lone (Fm fn ro t (.inRegion ops (List.range' n l.length) :: k) ds) cs w) (lone (Fm fn ro t' (.inRegion ops [] :: k) ds) cs w')
 | [],n,e,e',h,h',m,w,t,_,_,_,hG,hR,he,_,_,hr,fn,ro,kk,ds,cs=>by
  cases hr
  exact ⟨m,w,t,Step.refl N hR,he,rfl,Steps.refl _ _⟩
 | s :: r,n,e,e',h,h',m,w,t,hq,hi,hk,hG,hR,he,hnt,hN,hr,fn,ro,kk,ds,cs=>by
  obtain ⟨rfl,hat,hchk,hq'⟩:=seqM_cons hq
  obtain ⟨gI,gG⟩:=hi s (zh ..)
  obtain ⟨o,ho,hdst,_,hgm,_⟩:=jch gI
  have hguard : ∀ q c,s.guard=some (q,c)->e.get q≠none:=by
   intro q c hq
   unfold jlX at gG
   rw [ho] at gG
   dsimp only at gG
   unfold jfn at hgm
   rw [hq] at hgm
   split at hgm
   ·next e0 e1=>cases e0
   ·next s1 b1 j b2 e0 e1=>
    cases e0
    rw [e1] at gG
    dsimp only at gG
    simp only [zm] at hgm
    have hgm2:=hgm.2
    split at hgm2
    ·next oj hoj=>
     exact hk j oj _ (by simp [Nat.blt] at gG;omega) hoj (by simpa using hgm2)
    ·cases hgm2
   ·cases hgm
  have key : ∃ v h1,One call base s e h v h1/\jag call base r (layv e s.dst v) h1=some (e',h'):=by
   simp only [jag] at hr
   revert hr
   cases hw:wanted e s.guard with
   | false=>exact fun hr=>⟨.undef,h,.inl ⟨hw,rfl,rfl⟩,hr⟩
   | true=>
    dsimp only [cond_true]
    intro hr
    split at hr
    ·next v h1 h1r=>
     rw [hchk] at hr
     exact ⟨v,h1,.inr ⟨hw,h1r⟩,hr⟩
    ·cases hr
  obtain ⟨v,h1,hone,hr'⟩:=key
  obtain ⟨m1,w1,x,hs1,he1,_,hst⟩:=jh2 (base:=base) hT hC hG hR he hN hnt gI hguard (fun k hk'=>by rw [hat] at hk';cases hk') hone fn ro (List.range' (s.ix+1) r.length) kk ds cs
  obtain ⟨m2,w2,t2,q1,q2,q3,q4⟩:=jne hT hC r (s.ix+1) _ e' h1 h' m1 w1 (putT t s.dst x) hq' (fun a ha=>hi a (zj _ ha)) (fun i o' d hL hi' hd=>by
    rw [jaJ]
    split
    ·simp
    ·next hne'=>
     by_cases h9:i<s.ix
     ·exact hk i o' d h9 hi' hd
     ·have:i=s.ix:=by omega
      subst this
      rw [ho] at hi';cases hi'
      rw [<- hdst] at hd
      exact zw hd hne') (hG.mono hs1.mono) hs1.rel he1 (by rw [jcK];exact hnt) (zu hN hs1.nx) hr' fn ro kk ds cs
  refine ⟨m2,w2,t2,hs1.trans q1,q2,q3.trans (jcK ..),?_⟩
  rw [List.length_cons,List.range'_succ]
  exact hst.trans q4
theorem HRel.keep {m:Mp} {h:H} {w w':World} (hR:HRel P C m h w) (hw:w'.heap=w.heap) (n:Nat):HRel P C m (h.reserve n) w' :=
 ⟨fun b o hb=>by rw [hw];exact hR.obj b o hb,fun b b' o o' l l' hb hb'=>hR.inj b b' o o' l l' hb hb',fun b l hb=>by have:=hR.dom b l hb;simp;omega⟩
theorem Step.keep {N:Nat} {m:Mp} {h:H} {w w':World} (hR:HRel P C m h w) (hw:w'.heap=w.heap) (h1:w'.os=w.os) (h2:w'.tape=w.tape) (h3:w'.output=w.output) (n:Nat):Step P C N m h w m (h.reserve n) w' :=
 ⟨Mono.refl _,fun _ _ e=>e,hR.keep hw n,by simp,fun _ _ e=>e,by rw [hw];exact zn _,fun β _ hn=>⟨by rw [hw],hn⟩,fun β L hL=>⟨L,by rw [hw];exact hL⟩,h1,h2,h3⟩
theorem jhp {call:Am.Call} (hT:TOk P C) (hC:jcv P C call) (hF:jcn call) (hmix:P.follows .mixedOrders=true) {N:Nat} {m:Mp} {h h':H} {w:World} {e e':Env} {t:Array Value} {draw:Bool} {l:List Ins}
  (hM:ji6 P C nt ops draw res l=true) (hG:GOk C m) (hR:HRel P C m h w) (he:ERel m e t) (hnt:nt<=t.size) (hN:N<=h.nx) (hr:jag call h.nx l e (h.reserve res)=some (e',h')) (fn:FuncId) (id:Nat) :
  ∀ ro k ds cs,∃ m' w' t',Step P C N m h w m' h' w'/\ERel m' e' t'/\t'.size=t.size /\
   Steps P (lone (Fm fn ro t (.code (.region id ops draw) :: k) ds) cs w) (lone (Fm fn ro t' k ds) cs w'):=by
 intro ro kk ds cs
 unfold ji6 at hM
 simp only [zm,nbeq,zq,zC] at hM
 obtain ⟨⟨hI,hlen⟩,hM⟩:=hM
 cases draw with
 | false=>
  simp only [cond_false,zm,nbeq,zq,zC] at hM
  obtain ⟨⟨hS,rfl⟩,hGd⟩:=hM
  obtain ⟨m2,w2,t2,q1,q2,q3,q4⟩:=jne (N:=N) hT hC l 0 e e' (h.reserve 0) h' m w t hS (fun s hs=>⟨hI s hs,hGd s hs⟩) (fun i o d hi=>by omega) hG (hR.keep rfl 0) he hnt (by simpa using hN) hr fn ro kk ds cs
  refine ⟨m2,w2,t2,(Step.keep hR rfl rfl rfl rfl 0).trans q1,q2,q3,?_⟩
  refine .head st_region ?_
  rw [<- hlen,List.range_eq_range']
  exact q4.trans (.one jcC)
 | true=>
  simp only [cond_true,zm,zC] at hM
  obtain ⟨⟨⟨hO,hP⟩,hA⟩,hGd⟩:=hM
  obtain ⟨o1,o2,o3,o4⟩:=jdV hO
  obtain ⟨p1,p2⟩:=jdU hP
  obtain ⟨a1,a2,a3⟩:=je0 hA
  have hL : ∀ j,¬ L (Array.replicate ops.size false) j:=by
   intro j hj
   unfold L at hj
   rw [Array.getD_eq_getD_getElem?] at hj
   by_cases hlt:j<ops.size<;>simp [hlt] at hj
  have g:Good P C nt ops res (Array.replicate ops.size false) l:=by
   refine ⟨by simp,fun i o _ hl=>zw hl (hL i),o1.mono fun j hj=>by simp at hj,fun i hi=>.inr ((o4 i hi).resolve_left Zb),fun s _=>hL _,p1,p2,o3,a3,fun s hs=>⟨hI s hs,hGd s hs,a1 s hs,fun k hk=>(a2 s hs k hk).1⟩⟩
  have hw:({ w with drawn:=w.drawn+1 } : World).heap=w.heap:=rfl
  have hnone : ∀ b,h.nx<=b->m b=none/\h.get b=none:=by
   intro b hb
   have hm:m b=none:=by
    cases e0:m b with
    | none=>rfl
    | some l=>have:=hR.dom _ _ e0;omega
   refine ⟨hm,?_⟩
   cases e0:h.get b with
   | none=>rfl
   | some o1=>obtain ⟨l,_,e1,_⟩:=hR.obj _ _ e0;rw [hm] at e1;cases e1
  obtain ⟨m2,w2,t2,q1,q2,q3,q4⟩:=jml (res:=res) (base:=h.nx) hT hC hF ops.size (w.tape w.drawn (.order fn id)) (Array.replicate ops.size false) l e e' e' (h.reserve res) h' h' m { w with drawn:=w.drawn+1 } t hlen g
   (fun s hs k hk=>by rw [H.get_reserve];exact hnone _ (Nat.le_add_right _ _)) (fun i o d hl=>zw hl (hL i)) hG (hR.keep hw res) he hnt Zb hr (fun _=>rfl) (Ext.refl h') fn ro kk ds cs
  refine ⟨m2,w2,t2,(Step.keep hR hw rfl rfl rfl res).trans (q1.weaken hN),q2,q3,?_⟩
  refine .head je5 ?_
  have hsch:Region.schedule (P.follows .mixedOrders) ops (w.tape w.drawn (.order fn id))=Region.linearise.go .any ops ops.size (w.tape w.drawn (.order fn id)) (Array.replicate ops.size false) []:=by
   rw [hmix];simp [Region.schedule,Region.linearise]
  rw [hsch]
  exact q4.trans (.one jcC)
end
end Am
namespace Am
open Go
section
variable {P:Program} {C:Cx} {N:Nat} {m:Mp} {h h':H} {w:World}
theorem jb3 {l:Nat} {L:Loop} (hb:w.heap[l]?=some (.loop L)):(Instr.getLoop l).run P w = .ok L w:=by
 simp [Instr.getLoop,getObj,Sem.run,hb]
theorem jc0 {l:Nat} {L:Loop} (hb:w.heap[l]?=some (.loop L)) (o:Go.Obj):(setObj l o).run P w = .ok () { w with heap:=w.heap.setIfInBounds l o } := by
 simp [setObj,Sem.run,hb]
theorem step_junk {co:Go.Obj} {w':World} (hr:HRel P C m h w) (hw:w'.heap=w.heap.push co) (hs:WSame w w'):Step P C N m h w m h w' /\ ¬ jc8 m h w.heap.size:=by
 have hget' : ∀ j,j<w.heap.size->w'.heap[j]?=w.heap[j]?:=by
  intro j hj
  rw [hw,Array.getElem?_push,zb om]
 refine ⟨⟨Mono.refl _,fun _ _ e=>e,⟨?_,hr.inj,?_⟩,zn _,fun _ _ e=>e,by rw [hw];simp,?_,?_,hs.os,hs.tape,hs.output⟩,?_⟩
 ·intro b o hb
  obtain ⟨l,co',h1,h2,h3⟩:=hr.obj b o hb
  exact ⟨l,co',h1,by rw [hget' _ (hr.lt hb h1)];exact h2,h3⟩
 ·intro b l hb
  exact hr.dom b l hb
 ·intro β hβ hno
  exact ⟨hget' β hβ,hno⟩
 ·intro β L hL
  have : β < w.heap.size:=by
   rcases zr β w.heap.size with hlt | hge
   ·exact hlt
   ·rw [zD hge] at hL;cases hL
  exact ⟨L,by rw [hget' β this];exact hL⟩
 ·rintro ⟨b,o,l,h1,_,h3,h4⟩
  have:=hr.lt h1 h3
  omega
def Mk (m:Mp) (h:H) (w:World) (ms:List Nat):Prop:=ms.Nodup /\ ∀ r∈ms,w.heap[r]?=some (.deferred (some [])) /\ ¬ jc8 m h r
theorem Mk.nil (m:Mp) (h:H) (w:World):Mk m h w []:=⟨List.nodup_nil,fun r hr=>by simp at hr⟩
theorem ja8 {α : Type} {a:Array α} {i:Nat} {x : α} (hx:a[i]?=some x):i<a.size:=by
 rcases zr i a.size with hlt | hge
 ·exact hlt
 ·rw [zD hge] at hx;cases hx
theorem Mk.step {m':Mp} {w':World} {ms:List Nat} (k:Mk m h w ms) (s:Step P C N m h w m' h' w'):Mk m' h' w' ms :=
 ⟨k.1,fun r hr=>by
  obtain ⟨h1,h2⟩:=k.2 r hr
  obtain ⟨h3,h4⟩:=s.frame r (ja8 h1) h2
  exact ⟨h3.trans h1,h4⟩⟩
theorem Mk.append {ms ms':List Nat} (a:Mk m h w ms) (b:Mk m h w ms') {n:Nat} (ha : ∀ r∈ms,r<n) (hb : ∀ r∈ms',n<=r):Mk m h w (ms'++ms) :=
 ⟨List.nodup_append.2 ⟨b.1,a.1,fun x hx y hy e=>by have:=ha y hy;have:=hb x hx;omega⟩,fun r hr=>by
  rcases zy.1 hr with h1 | h1
  ·exact b.2 r h1
  ·exact a.2 r h1⟩
def RoOk (w:World) (ro:Option Nat):Prop := ∀ l,ro=some l -> ∃ L,w.heap[l]?=some (.loop L)
theorem RoOk.step {m':Mp} {w':World} {ro:Option Nat} (k:RoOk w ro) (s:Step P C N m h w m' h' w'):RoOk w' ro:=fun l hl=>by
 obtain ⟨L,h1⟩:=k l hl
 exact s.loops l L h1
theorem jfV {s:Nat} {v:V} : ∀ {l:List Nat} {e:Env},(e.only l).get s=some v->e.get s=some v
 | [],e,h=>by simp [Env.only,Env.get] at h
 | a :: r,e,h=>by
  unfold Env.only at h
  split at h
  ·next u hu=>
   rw [jbH] at h
   split at h
   ·next e0=>subst e0;cases h;exact hu
   ·exact jfV h
  ·exact jfV h
theorem ERel.only {e:Env} {t:Array Value} (he:ERel m e t) (l:List Nat):ERel m (e.only l) t:=fun s v hs=>he s v (jfV hs)
theorem jkW {fn:FuncId} {ro:Option Nat} {t:Array Value} {params:Array Tmp} {assign body:Code} {e:Env} {ca cb:AC} {nt:Nat} (hR:HRel P C m h w) (hN:N<=h.nx) (hro:RoOk w ro) (he:ERel m e t) (hnt:nt<=t.size)
  (hps:params.toList.all (Nat.blt · nt)=true) (ha:jbb P C nt ca assign=true) (hb:jbb P C nt cb body=true) :
  ∃ m' w' l ms,(Instr.enterLoop fn t params assign body ro).run P w = .ok (l,ms.map jdv) w'/\Step P C N m h w m' (h.new (.loop .ready none params.toList e ca cb)) w' /\
   (∃ loc,m' h.nx=some loc/\loc.β = l)/\Mk m' (h.new (.loop .ready none params.toList e ca cb)) w' ms/\(∀ r∈ms,w.heap.size<=r)/\(∀ l',ro=some l'->ms=[]):=by
 have tail : ∀ (w1:World) (d:Nat),HRel P C m h w1 -> ∃ m' w',(newObj (.loop { state := .ready,pending:=none,fn,tmps:=t,params,assign,body,defers:=d })).run P w1 = .ok w1.heap.size w' /\
   Step P C N m h w1 m' (h.new (.loop .ready none params.toList e ca cb)) w'/\(∃ loc,m' h.nx=some loc/\loc.β = w1.heap.size):=by
  intro w1 d hR1
  have hid:m h.nx=none:=by
   cases e0:m h.nx with
   | none=>rfl
   | some l=>have:=hR1.dom _ _ e0;omega
  have hge:h.get h.nx=none:=by
   cases e0:h.get h.nx with
   | none=>rfl
   | some o1=>obtain ⟨l,_,e1,_⟩:=hR1.obj _ _ e0;rw [hid] at e1;cases e1
  refine ⟨m.add h.nx ⟨w1.heap.size,0,0⟩,{ w1 with heap:=w1.heap.push _ },rfl,jcB hR1 hN hid hge (fun j=>H.get_new h j _) Zb Zb rfl ⟨rfl,rfl,rfl⟩ ?_,⟨_,zJ _ _,rfl⟩⟩
  exact ⟨_,nt,rfl,rfl,rfl,rfl,he.mono (Mp.add_mono hid),hnt,hps,ha,hb⟩
 cases ro with
 | some l'=>
  obtain ⟨L,hL⟩:=hro l' rfl
  obtain ⟨m',w',h1,h2,h3⟩:=tail w L.defers hR
  refine ⟨m',w',w.heap.size,[],?_,h2,h3,Mk.nil _ _ _,fun r hr=>by simp at hr,fun _ _=>rfl⟩
  simp only [Instr.enterLoop,zF,jb3 hL,zG,zH,h1]
  rfl
 | none=>
  obtain ⟨j1,j2⟩:=step_junk (N:=N) (co := .deferred (some [])) (w' := { w with heap:=w.heap.push (.deferred (some [])) }) hR rfl ⟨rfl,rfl,rfl⟩
  obtain ⟨m',w',h1,h2,h3⟩:=tail { w with heap:=w.heap.push (.deferred (some [])) } w.heap.size j1.rel
  have hk:Mk m h { w with heap:=w.heap.push (.deferred (some [])) } [w.heap.size]:=⟨by simp,fun r hr=>by
   have:r=w.heap.size:=by simpa using hr
   subst this
   exact ⟨by simp,j2⟩⟩
  refine ⟨m',w',_,[w.heap.size],?_,j1.trans h2,h3,hk.step h2,fun r hr=>by simp at hr;omega,fun l' hl=>by cases hl⟩
  rw [run_newObj] at h1
  cases h1
  simp only [Instr.enterLoop,zF,run_newObj,zG,zH]
  rfl
theorem jcN (hR:HRel P C m h w) {b:Nat} {st:LoopState} {pd:Option Ex} {ps:List Nat} {en:Env} {ca cb:AC} (hb:h.get b=some (.loop st pd ps en ca cb)) :
  ∃ loc L nt,m b=some loc/\w.heap[loc.β]?=some (.loop L)/\L.state=st/\jfS pd L.pending/\L.params.toList=ps/\ERel m en L.tmps/\nt<=L.tmps.size/\ps.all (Nat.blt · nt)=true/\jbb P C nt ca L.assign=true/\jbb P C nt cb L.body=true:=by
 obtain ⟨loc,co,h1,h2,L,nt,rfl,h3⟩:=hR.obj b _ hb
 exact ⟨loc,L,nt,h1,h2,h3⟩
theorem jdJ (hR:HRel P C m h w) {b:Nat} {st st':LoopState} {pd pd':Option Ex} {ps:List Nat} {en:Env} {ca cb:AC} (hb:h.get b=some (.loop st pd ps en ca cb)) {loc:Loc} (hl:m b=some loc) {L:Loop} (hL:w.heap[loc.β]?=some (.loop L))
  {pend:Option Code} (hp:jfS pd' pend):Step P C N m h w m (h.set b (.loop st' pd' ps en ca cb)) { w with heap:=w.heap.setIfInBounds loc.β (.loop { L with state:=st',pending:=pend }) } := by
 obtain ⟨loc',L',nt,h1,h2,h3,h4,h5,h6,h7,h8,h9,h10⟩:=jcN hR hb
 rw [hl] at h1;cases h1
 rw [hL] at h2;cases h2
 have hlt:=ja8 hL
 refine jdB hR hb rfl rfl hl hL (fun j=>H.get_set h b j _) rfl Zb (co' := .loop { L with state:=st',pending:=pend }) (by simp [hlt]) (fun j hj=>by simp [Array.getElem?_setIfInBounds_ne (Ne.symm hj)]) ⟨rfl,rfl,rfl⟩ ?_ (fun L0 e0=>⟨_,rfl⟩)
 exact ⟨_,nt,rfl,rfl,hp,h5,h6,h7,h8,h9,h10⟩
end
end Am
namespace Am
open Go
def Ends (ex:Ex) (k k':List Item):Prop :=
 match ex with
 | .normal=>k'=k
 | .exit id=>∃ k'',k' = .code (.exit id) :: k''/\exitTo id k''=exitTo id k
 | .ret=>∃ k'',k' = .code .ret :: k''
def Out (P:Program) (C:Cx) (N:Nat) (fn:FuncId) (ro:Option Nat) (m:Mp) (h:H) (w:World) (t:Array Value) (todo:List Item) (ex:Ex) (e':Env) (h':H):Prop :=
 ∀ k ds cs,∃ m' w' t' ms k',Step P C N m h w m' h' w'/\ERel m' e' t'/\t'.size=t.size/\Mk m' h' w' ms/\(∀ r∈ms,w.heap.size<=r)/\(∀ l,ro=some l->ms=[]) /\
  Ends ex k k'/\Steps P (lone (Fm fn ro t (todo++k) ds) cs w) (lone (Fm fn ro t' k' (ms.map jdv++ds)) cs w')
def jjV (P:Program) (C:Cx) (nt:Nat) (body:Env->H->Res) (c:Code):Prop := ∀ N fn ro m h w t e ex e' h',body e h=some (ex,e',h')->GOk C m->HRel P C m h w->ERel m e t->nt<=t.size->N<=h.nx->RoOk w ro ->
 Out P C N fn ro m h w t [.code c] ex e' h'
section
variable {P:Program} {C:Cx} {N:Nat} {fn:FuncId} {ro:Option Nat} {m:Mp} {h h' h1:H} {w:World} {t:Array Value} {todo todo':List Item} {ex:Ex} {e e' e1:Env}
theorem Out.same (hR:HRel P C m h w) (he:ERel m e t) (hs : ∀ k ds cs,∃ k',Ends ex k k'/\Steps P (lone (Fm fn ro t (todo++k) ds) cs w) (lone (Fm fn ro t k' ds) cs w)):Out P C N fn ro m h w t todo ex e h :=
 fun k ds cs=>let ⟨k',h1,h2⟩:=hs k ds cs;⟨m,w,t,[],k',Step.refl N hR,he,rfl,Mk.nil _ _ _,fun r hr=>by simp at hr,fun _ _=>rfl,h1,h2⟩
theorem Out.pre (hs : ∀ k ds cs,step P (lone (Fm fn ro t (todo++k) ds) cs w) = .next (lone (Fm fn ro t (todo'++k) ds) cs w)) (o:Out P C N fn ro m h w t todo' ex e' h'):Out P C N fn ro m h w t todo ex e' h':=by
 intro k ds cs
 obtain ⟨m',w',t',ms,k',q1,q2,q3,q4,q5,q6,h1,h2⟩:=o k ds cs
 exact ⟨m',w',t',ms,k',q1,q2,q3,q4,q5,q6,h1,.head (hs k ds cs) h2⟩
theorem Out.then (o:Out P C N fn ro m h w t todo .normal e1 h1) (hG:GOk C m) (hro:RoOk w ro)
  (o2 : ∀ m1 w1 t1,GOk C m1->HRel P C m1 h1 w1->ERel m1 e1 t1->t1.size=t.size->h.nx<=h1.nx->RoOk w1 ro->Out P C N fn ro m1 h1 w1 t1 todo' ex e' h'):Out P C N fn ro m h w t (todo++todo') ex e' h':=by
 intro k ds cs
 obtain ⟨m1,w1,t1,ms1,k1,q1,q2,q3,q4,q5,q6,h2,h3⟩:=o (todo'++k) ds cs
 have:k1=todo'++k:=h2
 subst this
 obtain ⟨m2,w2,t2,ms2,k2,r1,r2,r3,r4,r5,r6,h4,h5⟩:=o2 m1 w1 t1 (hG.mono q1.mono) q1.rel q2 q3 q1.nx (hro.step q1) k (ms1.map jdv++ds) cs
 refine ⟨m2,w2,t2,ms2++ms1,k2,q1.trans r1,r2,r3.trans q3,(q4.step r1).append r4 (fun r hr=>ja8 (q4.2 r hr).1) r5,fun r hr=>?_,fun l hl=>by rw [q6 l hl,r6 l hl];rfl,h4,?_⟩
 ·rcases zy.1 hr with hr | hr
  ·exact zu q1.size (r5 r hr)
  ·exact q5 r hr
 ·rw [List.append_assoc,List.map_append,List.append_assoc]
  exact h3.trans h5
theorem Out.leaves (o:Out P C N fn ro m h w t todo ex e' h') (hne:ex ≠ .normal) (hk : ∀ id k,ex = .exit id->exitTo id (todo'++k)=exitTo id k):Out P C N fn ro m h w t (todo++todo') ex e' h':=by
 intro k ds cs
 obtain ⟨m1,w1,t1,ms1,k1,q1,q2,q3,q4,q5,q6,h2,h3⟩:=o (todo'++k) ds cs
 rw [List.append_assoc]
 refine ⟨m1,w1,t1,ms1,k1,q1,q2,q3,q4,q5,q6,?_,h3⟩
 cases ex with
 | normal=>exact zw rfl hne
 | exit id=>
  obtain ⟨k2,h4,h5⟩:=h2
  exact ⟨k2,h4,h5.trans (hk id k rfl)⟩
 | ret=>exact h2
theorem iter_ok {nt:Nat} {body:Env->H->Res} {c:Code} {live:List Nat} (hB:jjV P C nt body c) : ∀ n,jjV P C nt (iter body live n) (.loop c):=by
 have key : ∀ n N fn ro m h w t e ex e' h',iter body live n e h=some (ex,e',h')->GOk C m->HRel P C m h w->ERel m e t->nt<=t.size->N<=h.nx->RoOk w ro->Out P C N fn ro m h w t [.code c,.inLoop c] ex e' h':=by
  intro n
  induction n with
  | zero=>intro N fn ro m h w t e ex e' h' hr;cases hr
  | succ n ih=>
   intro N fn ro m h w t e ex e' h' hr hG hR he hnt hN hro
   simp only [iter] at hr
   split at hr
   ·next e1 h1 hb=>
    have o1:=hB N fn ro m h w t _ _ _ _ hb hG hR (he.only live) hnt hN hro
    refine o1.then hG hro fun m1 w1 t1 g1 r1 b1 z1 x1 y1=>?_
    exact Out.pre (todo':=[.code c,.inLoop c]) (fun k ds cs=>st_inLoop) (ih N fn ro m1 h1 w1 t1 _ _ _ _ hr g1 r1 b1 om om y1)
   ·next hb=>
    have hne:ex ≠ .normal:=fun e0=>hb e' h' (by rw [hr,e0])
    exact (hB N fn ro m h w t _ _ _ _ hr hG hR (he.only live) hnt hN hro).leaves (todo':=[.inLoop c]) hne fun id k _=>rfl
 intro n N fn ro m h w t e ex e' h' hr hG hR he hnt hN hro
 exact Out.pre (fun k ds cs=>st_loop) (key n N fn ro m h w t e ex e' h' hr hG hR he hnt hN hro)
theorem jcD {f:Operand} {ps:Array Tmp} {a b:Code} {l:Nat} {mk:List Deferred} {w1:World} {k:List Item} {ds:List Deferred} {cs:List Frame} (hl:(Instr.enterLoop fn t ps a b ro).run P w = .ok (l,mk) w1) {x:Value} {w2:World}
  (hr:(do let d<-resolve (evT t) { callee := .value f,args := #[.const (.func (.yield l) #[] #[])],argTypes := #[] } 0;invoke d.target d.args:Sem Next).run P w1 = .ok (.value x) w2) :
  step P (lone (Fm fn ro t (.code (.rangeFunc f ps a b) :: k) ds) cs w) = .next (lone (Fm fn ro t (.endRangeFunc l :: k) (mk++ds)) cs w2):=by
 refine step_lone_go ?_
 have he:=jgE fn ro t (.inRangeFunc l :: k) (mk++ds)
 simp only [Fm] at he
 simp [stepG,stepG.exec,Fm,Sem.runT_eq,hl,stepG.apply,he] at hr ⊢
 simp [hr,Frame.finish]
theorem jhr {call:Am.Call} (hC:jcv P C call) {nt fuel:Nat} {f:Opd} {f':Operand} {ps:List Nat} {ps':Array Tmp} {live:List Nat} {ca cb:AC} {a b:Code} (hf:opdM C f f'=true) (hps:ps=ps'.toList) (hpn:ps.all (Nat.blt · nt)=true)
  (ha:jbb P C nt ca a=true) (hb:jbb P C nt cb b=true):jjV P C nt (D call fuel (.rangeFunc f ps live ca cb)) (.rangeFunc f' ps' a b):=by
 intro N fn ro m h w t e ex e' h' hr hG hR he hnt hN hro k ds cs
 subst hps
 simp only [D] at hr
 split at hr
 ·next g cap hfe=>
  split at hr
  ·next v h2 hc=>
   obtain ⟨m1,w1,l,ms,q1,q2,⟨loc,q3,q3'⟩,q4,q5,q6⟩:=jkW (fn:=fn) (ro:=ro) (e:=e.only live) hR (zn h.nx) hro (he.only live) hnt hpn ha hb
   subst q3'
   obtain ⟨xs,hfx,hcap⟩:=jab (t:=t) hG he hf hfe
   have hargs:jah m1 (.yld h.nx :: cap) (#[Value.func (.yield loc.β) #[] #[]]++xs).toList:=by
    rw [Array.toList_append]
    exact ⟨_,_,rfl,⟨loc,q3,rfl⟩,hcap.mono q2.mono⟩
   obtain ⟨m2,w2,x,r1,r2,r3⟩:=hC _ _ _ _ _ hc m1 w1 _ q2.rel (hG.mono q2.mono) hargs (Fm fn ro t (.inRangeFunc loc.β :: k) (ms.map jdv++ds)) cs
   have hres:(do let d<-resolve (evT t) { callee := .value f',args := #[.const (.func (.yield loc.β) #[] #[])],argTypes := #[] } 0;invoke d.target d.args:Sem Next).run P w1=(callFunc g (#[Value.func (.yield loc.β) #[] #[]]++xs)).run P w1:=by
    simp only [zF,resolve,hfx,Deferred.ofValue,zH,zG,invoke]
    simp [evT]
   split at hr
   ·next st pd p1 en1 a1 b1 hl2=>
    obtain ⟨loc2,L,nt2,s1,s2,s3,s4,s5,s6,s7,s8,s9,s10⟩:=jcN r1.rel hl2
    have:loc2=loc:=by rw [r1.mono _ _ q3] at s1;cases s1;rfl
    subst this
    have key:st ≠ .busy/\e'=e/\h'=h2.kill h.nx/\ex=pd.getD .normal:=by
     split at hr
     ·cases hr
     ·next hst=>
      refine ⟨fun e0=>hst e0,?_⟩
      split at hr<;>cases hr<;>exact ⟨rfl,rfl,rfl⟩
    obtain ⟨hst,rfl,rfl,hex⟩:=key
    have hlt:=ja8 s2
    have u1:=jdJ (N:=h.nx) (st' := .exhausted) r1.rel hl2 (r1.mono _ _ q3) s2 s4
    have u2:=jhj (N:=h.nx) (b:=h.nx) u1.rel
    have u3:=u2.congr (h':=h2.kill h.nx) ⟨rfl,fun j=>by rw [H.get_kill,H.get_set,H.get_kill];by_cases e0:j=h.nx<;>simp [e0],fun j hj=>zw rfl hj⟩
    have hend:(Instr.endLoop loc2.β).run P w2 = .ok L.pending { w2 with heap:=w2.heap.setIfInBounds loc2.β (.loop { L with state := .exhausted,pending:=L.pending }) } := by
     have hb2:(L.state == LoopState.busy)=false:=by
      cases hs:(L.state == LoopState.busy) with
      | false=>rfl
      | true=>exact zw ((beq_iff_eq.1 hs).symm.trans s3).symm hst
     simp only [Instr.endLoop,zF,jb3 s2,zG,hb2]
     simp [jc0 s2]
    have tot:=(r1.weaken (N':=h.nx) Zb).trans (u1.trans u3)
    have tot2:=q2.trans tot
    have go:Steps P (lone (Fm fn ro t ([.code (.rangeFunc f' ps' a b)]++k) ds) cs w) (lone (Fm fn ro t (.endRangeFunc loc2.β :: k) (ms.map jdv++ds)) cs w2):=by
     rcases r3 with r3 | ⟨r3,r4⟩
     ·exact .one (jcD q1 (hres.trans r3))
     ·refine .head (jhk q1 (hres.trans r3)) ?_
      rw [jeL] at r4
      exact r4
    refine ⟨m2,_,t,ms,(L.pending.map Item.code).toList++k,tot2.weaken hN,he.mono tot2.mono,rfl,q4.step tot,q5,q6,?_,go.trans (.one (ji2 hend))⟩
    subst hex
    cases pd with
    | none=>rw [show L.pending=none from s4];rfl
    | some x=>
     cases x with
     | normal=>exact s4.elim
     | exit id=>rw [show L.pending=some (.exit id) from s4];exact ⟨k,rfl,rfl⟩
     | ret=>rw [show L.pending=some .ret from s4];exact ⟨k,rfl⟩
   ·cases hr
  ·cases hr
 ·cases hr
theorem D_ok {call:Am.Call} (hT:TOk P C) (hC:jcv P C call) (hF:jcn call) (hmix:P.follows .mixedOrders=true) {nt fuel:Nat} : ∀ (c:AC) (c':Code),jbb P C nt c c'=true->jjV P C nt (D call fuel c) c'
 | .skip,c',hM=>by
  cases c'<;>simp [jbb] at hM
  intro N fn ro m h w t e ex e' h' hr hG hR he hnt hN hro
  cases hr
  exact Out.same hR he fun k ds cs=>⟨k,rfl,.one st_skip⟩
 | .label l,c',hM=>by
  cases c'<;>simp [jbb] at hM
  intro N fn ro m h w t e ex e' h' hr hG hR he hnt hN hro
  cases hr
  exact Out.same hR he fun k ds cs=>⟨k,rfl,.one st_label⟩
 | .exit id,c',hM=>by
  cases c'<;>simp [jbb] at hM
  intro N fn ro m h w t e ex e' h' hr hG hR he hnt hN hro
  cases hr;subst hM
  exact Out.same hR he fun k ds cs=>⟨_,⟨k,rfl,rfl⟩,.refl _ _⟩
 | .ret,c',hM=>by
  cases c'<;>simp [jbb] at hM
  intro N fn ro m h w t e ex e' h' hr hG hR he hnt hN hro
  cases hr
  exact Out.same hR he fun k ds cs=>⟨_,⟨k,rfl⟩,.refl _ _⟩
 | .scope b,c',hM=>by
  cases c'<;>simp [jbb] at hM
  next b'=>
  intro N fn ro m h w t e ex e' h' hr hG hR he hnt hN hro
  have o:=D_ok hT hC hF hmix b b' hM N fn ro m h w t e ex e' h' hr hG hR he hnt hN hro
  refine Out.pre (todo':=[.code b',.inScope b']) (fun k ds cs=>st_scope) ?_
  by_cases hne:ex = .normal
  ·subst hne
   exact o.then hG hro fun m1 w1 t1 g1 r1 b1 z1 x1 y1=>Out.same r1 b1 fun k ds cs=>⟨k,rfl,.one jky⟩
  ·exact o.leaves (todo':=[.inScope b']) hne fun id k _=>rfl
 | .region res ops keep,c',hM=>by
  cases c'<;>simp [jbb] at hM
  next id ops' draw=>
  intro N fn ro m h w t e ex e' h' hr hG hR he hnt hN hro
  simp only [D] at hr
  split at hr
  ·next e1 h1 hb=>
   cases hr
   intro k ds cs
   obtain ⟨m',w',t',q1,q2,q3,q4⟩:=jhp hT hC hF hmix hM hG hR he hnt hN hb fn id ro k ds cs
   exact ⟨m',w',t',[],k,q1,q2.only keep,q3,Mk.nil _ _ _,fun r hr=>by simp at hr,fun _ _=>rfl,rfl,q4⟩
  ·cases hr
 | .seq a b,c',hM=>by
  cases c'<;>simp [jbb] at hM
  next a' b'=>
  intro N fn ro m h w t e ex e' h' hr hG hR he hnt hN hro
  refine Out.pre (todo':=[.code a',.code b']) (fun k ds cs=>st_seq) ?_
  simp only [D] at hr
  split at hr
  ·next e1 h1 hb=>
   have o:=D_ok hT hC hF hmix a a' hM.1 N fn ro m h w t e _ _ _ hb hG hR he hnt hN hro
   exact o.then hG hro fun m1 w1 t1 g1 r1 b1 z1 x1 y1=>D_ok hT hC hF hmix b b' hM.2 N fn ro m1 h1 w1 t1 _ _ _ _ hr g1 r1 b1 om om y1
  ·next hb=>
   have hne:ex ≠ .normal:=fun e0=>hb e' h' (by rw [hr,e0])
   exact (D_ok hT hC hF hmix a a' hM.1 N fn ro m h w t e _ _ _ hr hG hR he hnt hN hro).leaves (todo':=[.code b']) hne fun id k _=>rfl
 | .cond c a b,c',hM=>by
  cases c'<;>simp [jbb] at hM
  next c' a' b'=>
  intro N fn ro m h w t e ex e' h' hr hG hR he hnt hN hro
  simp only [D] at hr
  split at hr
  ·next hc=>
   refine Out.pre (todo':=[.code a']) (fun k ds cs=>?_) (D_ok hT hC hF hmix a a' hM.1.2 N fn ro m h w t e _ _ _ hr hG hR he hnt hN hro)
   exact jlB (b:=true) (jab (t:=t) hG he hM.1.1 hc)
  ·next hc=>
   refine Out.pre (todo':=[.code b']) (fun k ds cs=>?_) (D_ok hT hC hF hmix b b' hM.2 N fn ro m h w t e _ _ _ hr hG hR he hnt hN hro)
   exact jlB (b:=false) (jab (t:=t) hG he hM.1.1 hc)
  ·cases hr
 | .block id b,c',hM=>by
  cases c'<;>simp [jbb] at hM
  next id' b'=>
  obtain ⟨rfl,hM⟩:=hM
  intro N fn ro m h w t e ex e' h' hr hG hR he hnt hN hro
  refine Out.pre (todo':=[.code b',.inBlock id]) (fun k ds cs=>st_block) ?_
  simp only [D] at hr
  split at hr
  ·next id2 e1 h1 hb=>
   have o:=D_ok hT hC hF hmix b b' hM N fn ro m h w t e _ _ _ hb hG hR he hnt hN hro
   cases hi:(id2 == id) with
   | true=>
    rw [hi] at hr
    cases hr
    have:=beq_iff_eq.1 hi
    subst this
    intro k ds cs
    obtain ⟨m1,w1,t1,ms1,k1,q1,q2,q3,q4,q5,q6,⟨k2,rfl,h4⟩,h5⟩:=o (.inBlock id2 :: k) ds cs
    refine ⟨m1,w1,t1,ms1,k,q1,q2,q3,q4,q5,q6,rfl,?_⟩
    exact Steps.trans h5 (.one (st_exit (h4.trans (by simp [exitTo]))))
   | false=>
    rw [hi] at hr
    cases hr
    refine o.leaves (todo':=[.inBlock id]) Zb fun id3 k e3=>?_
    cases e3
    have:(id == id2)=false:=by
     rw [<- hi,Bool.beq_comm]
    simp [exitTo,this]
  ·next hb=>
   have o:=D_ok hT hC hF hmix b b' hM N fn ro m h w t e _ _ _ hr hG hR he hnt hN hro
   cases ex with
   | normal=>exact o.then hG hro fun m1 w1 t1 g1 r1 b1 z1 x1 y1=>Out.same r1 b1 fun k ds cs=>⟨k,rfl,.one jkz⟩
   | exit id2=>exact zw hr (hb id2 e' h')
   | ret=>exact o.leaves (todo':=[.inBlock id]) Zb fun id3 k e3=>by cases e3
 | .loop live b,c',hM=>by
  cases c'<;>simp [jbb] at hM
  next b'=>exact iter_ok (D_ok hT hC hF hmix b b' hM) fuel
 | .rangeFunc f ps live a b,c',hM=>by
  cases c'<;>simp only [jbb,zB] at hM
  next f' ps' a' b'=>
  simp only [zm,beq_iff_eq] at hM
  obtain ⟨⟨⟨⟨h1,h2⟩,h3⟩,h4⟩,h5⟩:=hM
  exact jhr hC h1 h2 h3 h4 h5
end
end Am
namespace Am
open Go
section
variable {P:Program} {C:Cx} {m:Mp} {h h':H} {w:World} {t:Array Value} {e:Env}
theorem res_one (hT:TOk P C) (hR:HRel P C m h w) (he:ERel m e t) {r:RV} {r':ResultVar} {v:V} (hM:rvM C [r] [r']=true) (hr:rvOf e h r=some v) :
  ∃ x,(match r' with
   | .tmp s=>(pure (t.getD s undef):Sem Value)
   | .cell a ty=>do loadVar ty (<- asAddr (t.getD a undef))).run P w = .ok x w/\VRel m v x:=by
 cases r with
 | tmp s=>
  cases r' with
  | cell a ty=>simp [rvM] at hM
  | tmp s'=>
   simp [rvM] at hM
   subst hM
   exact ⟨_,rfl,he.getD hr⟩
 | cell1 s=>
  cases r' with
  | tmp s'=>simp [rvM] at hM
  | cell a ty=>
   simp only [rvM,zm,nbeq,zq] at hM
   obtain ⟨⟨rfl,hp⟩,_⟩:=hM
   simp only [rvOf] at hr
   split at hr
   ·next b o hs=>
    have hx:=he.getD hs
    obtain ⟨loc,hl,hx⟩:=hx
    obtain ⟨x,h1,h2⟩:=jh9 hR hr hl
    refine ⟨x,?_,h2⟩
    simp only [hx,asAddr,zF,zH,zG,loadVar,jda hT hp]
    simpa using h1
   ·cases hr
 | cellN s n=>
  cases r' with
  | tmp s'=>simp [rvM] at hM
  | cell a ty=>
   simp only [rvM,zm,nbeq,zq] at hM
   obtain ⟨⟨rfl,hp⟩,_⟩:=hM
   obtain ⟨p1,p2⟩:=jcZ hT hp w
   simp only [rvOf] at hr
   split at hr
   ·next b o hs=>
    have hx:=he.getD hs
    obtain ⟨loc,hl,hx⟩:=hx
    split at hr
    ·next l hll=>
     cases hr
     obtain ⟨xs,h1,h2⟩:=jgl (P:=P) hR hll hl
     refine ⟨.agg xs,?_,xs,rfl,h2⟩
     simp only [hx,asAddr,zF,zH,zG,loadVar,p1,p2,if_true,h1]
    ·cases hr
   ·cases hr
theorem jcG {α : Type} (f : α -> Sem Value) : ∀ (l:List α) (vs:List V),l.length=vs.length->(∀ (i:Nat) a v,l[i]?=some a->vs[i]?=some v -> ∃ x,(f a).run P w = .ok x w/\VRel m v x) ->
  ∃ xs,(l.mapM f).run P w = .ok xs w/\jah m vs xs
 | [],[],_,_=>⟨[],by simp,rfl⟩
 | [],_ :: _,hl,_=>by simp at hl
 | _ :: _,[],hl,_=>by simp at hl
 | a :: l,v :: vs,hl,H=>by
  obtain ⟨x,h1,h2⟩:=H 0 a v rfl rfl
  obtain ⟨xs,h3,h4⟩:=jcG f l vs (by simpa using hl) (fun i a v ha hv=>H (i+1) a v (by simpa using ha) (by simpa using hv))
  exact ⟨x :: xs,by simp [List.mapM_cons,h1,h3],x,xs,rfl,h2,h4⟩
theorem jho : ∀ {l:List RV} {vs:List V},jbR e h l=some vs->l.length=vs.length /\ ∀ (i:Nat) r v,l[i]?=some r->vs[i]?=some v->rvOf e h r=some v
 | [],vs,hr=>by cases hr;exact ⟨rfl,fun i r v hi=>by simp at hi⟩
 | r :: rs,vs,hr=>by
  rw [jeS] at hr
  split at hr
  ·next v l h1 h2=>
   cases hr
   obtain ⟨q1,q2⟩:=jho h2
   refine ⟨by simp [q1],fun i r' v' hi hv=>?_⟩
   cases i with
   | zero=>simp at hi hv;subst hi hv;exact h1
   | succ i=>exact q2 i r' v' (by simpa using hi) (by simpa using hv)
  ·cases hr
theorem jlC : ∀ {l:List RV} {l':List ResultVar},rvM C l l'=true->l.length=l'.length /\ ∀ (i:Nat) r r',l[i]?=some r->l'[i]?=some r'->rvM C [r] [r']=true
 | [],l',hM=>by
  cases l' with
  | nil=>exact ⟨rfl,fun i r r' hi=>by simp at hi⟩
  | cons _ _=>simp [rvM] at hM
 | r :: rs,l',hM=>by
  cases l' with
  | nil=>cases r<;>simp [rvM] at hM
  | cons r' rs'=>
   have key:rvM C [r] [r']=true/\rvM C rs rs'=true:=by
    cases r<;>cases r'<;>simp_all [rvM]
   obtain ⟨q1,q2⟩:=jlC key.2
   refine ⟨by simp [q1],fun i a a' hi hi'=>?_⟩
   cases i with
   | zero=>simp at hi hi';subst hi hi';exact key.1
   | succ i=>exact q2 i a a' (by simpa using hi) (by simpa using hi')
theorem jiC {vs:List V} {xs:List Value} (hv:jah m vs xs):VRel m (jbx vs) (if h:xs.toArray.size=1 then xs.toArray[0] else .tuple xs.toArray):=by
 have hl:=hv.length
 match vs,hv with
 | [],hv=>
  have:xs=[]:=hv
  subst this
  exact ⟨#[],rfl,rfl⟩
 | [v],⟨x,s,e1,h2,h3⟩=>
  have:s=[]:=h3
  subst this
  subst e1
  exact h2
 | v :: u :: r,hv=>
  have hne : ¬ xs.toArray.size=1:=by simp at hl ⊢;omega
  rw [dif_neg hne]
  exact ⟨xs.toArray,rfl,hv⟩
theorem ji4 (hT:TOk P C) (hR:HRel P C m h w) (he:ERel m e t) {fn:Func} {l:List RV} {vs:List V} (hM:rvM C l fn.results.toList=true) (hr:jbR e h l=some vs) :
  ∃ x,(results fn t).run P w = .ok x w/\VRel m (jbx vs) x:=by
 obtain ⟨q1,q2⟩:=jho hr
 obtain ⟨p1,p2⟩:=jlC hM
 unfold results
 have key:=jcG (P:=P) (m:=m) (w:=w) (fun r':ResultVar=>match r' with
   | .tmp s=>(pure (t.getD s undef):Sem Value)
   | .cell a ty=>do loadVar ty (<- asAddr (t.getD a undef))) fn.results.toList vs (p1.symm.trans q1) (fun i r' v hi hv=>by
  obtain ⟨r,hr'⟩ : ∃ r,l[i]?=some r:=by
   have:i<l.length:=by
    rw [q1]
    rcases zr i vs.length with h9 | h9
    ·exact h9
    ·rw [zc h9] at hv;cases hv
   exact ⟨_,za this⟩
  exact res_one hT hR he (p2 i r r' hr' hi) (q2 i r v hr' hv))
 obtain ⟨xs,k1,k2⟩:=key
 refine ⟨_,?_,jiC k2⟩
 rw [zF,Array.mapM_eq_mapM_toList,Sem.run_map]
 refine Eq.trans (congrArg (fun r=>Result.andThen (Result.andThen r _) _) k1) ?_
 rfl
theorem args_rel {vs:List V} {xs:Array Value} (hv:jah m vs xs.toList) (n:Nat):ERel m (Env.ofArgs vs 0) (xs++Array.replicate n undef):=by
 have key : ∀ (vs:List V) (k s:Nat) (v:V),(Env.ofArgs vs k).get s=some v -> ∃ i,s=k+i/\vs[i]?=some v:=by
  intro vs
  induction vs with
  | nil=>intro k s v hs;simp [Env.ofArgs,Env.get] at hs
  | cons a r ih=>
   intro k s v hs
   simp only [Env.ofArgs,jbH] at hs
   split at hs
   ·next e0=>cases hs;exact ⟨0,by omega,rfl⟩
   ·obtain ⟨i,h1,h2⟩:=ih _ _ _ hs
    exact ⟨i+1,by omega,by simpa using h2⟩
 intro s v hs
 obtain ⟨i,h1,h2⟩:=key vs 0 s v hs
 obtain ⟨x,h3,h4⟩:=hv.get h2
 refine ⟨x,?_,h4⟩
 have:s=i:=by omega
 subst this
 have hlt:=ja8 (by simpa using h3:xs[s]?=some x)
 rw [Array.getElem?_append_left hlt]
 simpa using h3
theorem Step.tweak {N:Nat} {m0:Mp} {h0:H} {w0:World} (s:Step P C N m0 h0 w0 m h w) {r:Nat} (hr:w0.heap.size<=r) {ds:Option (List Deferred)} (h1:w.heap[r]?=some (.deferred ds)) (ds':Option (List Deferred)) :
  Step P C N m0 h0 w0 m h { w with heap:=w.heap.setIfInBounds r (.deferred ds') } := by
 have hoth : ∀ j,j≠r->({ w with heap:=w.heap.setIfInBounds r (.deferred ds') } : World).heap[j]?=w.heap[j]?:=fun j hj=>by simp [Array.getElem?_setIfInBounds_ne (Ne.symm hj)]
 refine ⟨s.mono,s.old,⟨?_,s.rel.inj,?_⟩,s.nx,s.dead,by simpa using s.size,?_,?_,s.os,s.tape,s.output⟩
 ·intro b o hb
  obtain ⟨l,co,g1,g2,g3⟩:=s.rel.obj b o hb
  refine ⟨l,co,g1,?_,g3⟩
  rw [hoth]
  ·exact g2
  ·intro e0
   rw [e0,h1] at g2
   cases g2
   cases o with
   | cells vs ro=>obtain ⟨c,el,lo,hi,e1,_⟩:=g3;cases e1
   | map es clock=>obtain ⟨ces,e1,_⟩:=g3;cases e1
   | loop st pd ps en a b=>obtain ⟨L,nt,e1,_⟩:=g3;cases e1
   | iter mp s sn la=>obtain ⟨_,mp',e1,_⟩:=g3;cases e1
   | siter s p=>obtain ⟨_,e1⟩:=g3;cases e1
 ·intro b l hb
  exact s.rel.dom b l hb
 ·intro β hβ hno
  obtain ⟨q1,q2⟩:=s.frame β hβ hno
  exact ⟨by rw [hoth _ om];exact q1,q2⟩
 ·intro β L hL
  have:=ja8 hL
  obtain ⟨L',q1⟩:=s.loops β L hL
  exact ⟨L',by rw [hoth _ om];exact q1⟩
theorem jeO {N:Nat} {m0:Mp} {h0:H} {w0:World} {fn:FuncId} {t:Array Value} {todo:List Item} : ∀ (ms:List Nat) (w:World),Step P C N m0 h0 w0 m h w->Mk m h w ms->(∀ r∈ms,w0.heap.size<=r) ->
  ∃ w',Step P C N m0 h0 w0 m h w' /\ ∀ cs,Steps P (lone { Fm fn none t todo (ms.map jdv) with mode := .returning } cs w) (lone { Fm fn none t todo [] with mode := .returning } cs w')
 | [],w,s,_,_=>⟨w,s,fun cs=>.refl _ _⟩
 | r :: ms,w,s,hk,hf=>by
  obtain ⟨h1,h2⟩:=hk.2 r (zh ..)
  have hrun:(Instr.takeDeferred r).run P w = .ok [] { w with heap:=w.heap.setIfInBounds r (.deferred none) } := by
   simp [Instr.takeDeferred,getObj,setObj,Sem.run,h1]
  have hs:=s.tweak (hf r (zh ..)) h1 none
  have hnd:=List.nodup_cons.1 hk.1
  have hk':Mk m h { w with heap:=w.heap.setIfInBounds r (.deferred none) } ms:=⟨hnd.2,fun r' hr'=>by
   obtain ⟨g1,g2⟩:=hk.2 r' (zj _ hr')
   refine ⟨?_,g2⟩
   have hne:r≠r':=fun e0=>hnd.1 (e0 ▸ hr')
   simp [Array.getElem?_setIfInBounds_ne hne,g1]⟩
  obtain ⟨w',q1,q2⟩:=jeO ms _ hs hk' (fun r' hr'=>hf r' (zj _ hr'))
  exact ⟨w',q1,fun cs=>.head (st_unmark hrun) (q2 cs)⟩
def jjU (P:Program) (C:Cx) (N:Nat) (m:Mp) (h:H) (w:World) (f:FuncId) (xs:Array Value) (v:V) (h':H):Prop :=
 ∀ cs,∃ m' w' x fr,Step P C N m h w m' h' w'/\VRel m' v x/\Steps P (lone (Frame.enter P f xs .normal) cs w) (lone fr cs w')/\fr.fn=f/\fr.leaving P w' (.returned x)
theorem jjt {call:Am.Call} (hT:TOk P C) (hC:jcv P C call) (hF:jcn call) (hmix:P.follows .mixedOrders=true) {fuel:Nat} {f:FuncId} {a:AFn} (hM:fnM P C f a=true) {args:List V} {xs:Array Value} {v:V}
  (hr:jcW call fuel a args h=some (v,h')) (hR:HRel P C m h w) (hG:GOk C m) (hx:jah m args xs.toList):jjU P C h.nx m h w f xs v h'/\(callFunc f xs).run P w = .ok (.enter f xs) w:=by
 unfold fnM at hM
 split at hM
 ·next fn hfn=>
  split at hM
  ·next c hbody=>
   simp only [zm,Bool.not_eq_true',nbeq,zq,zA] at hM
   obtain ⟨⟨⟨⟨hname,hnt⟩,hnp⟩,hrv⟩,hcode⟩:=hM
   simp only [jcW] at hr
   revert hr
   cases hlen:(args.length == a.np) with
   | false=>intro hr;cases hr
   | true=>
   dsimp only [cond_true]
   intro hr
   have hlen':=beq_iff_eq.1 hlen
   have hxl:xs.size=a.np:=by
    have:=hx.length
    simp at this;omega
   have hcall:(callFunc f xs).run P w = .ok (.enter f xs) w:=by
    have hname' : ¬ fn.name = "runtime.NumGoroutine" := by simpa using hname
    simp [callFunc,hfn,hbody,hname']
   refine ⟨fun cs=>?_,hcall⟩
   have hent:Frame.enter P f xs .normal=Fm f none (xs++Array.replicate (fn.ntmps-xs.size) undef) [.code c] []:=by
    simp [Frame.enter,Fm,hfn,hbody]
   have hsz:(xs++Array.replicate (fn.ntmps-xs.size) undef).size=fn.ntmps:=by simp;omega
   split at hr
   ·cases hr
   ·next ex e1 h1 hne hd=>
    split at hr
    ·next l hl=>
     cases hr
     have o:=D_ok hT hC hF hmix _ _ hcode h.nx f none m h w _ _ _ _ _ hd hG hR (args_rel hx (fn.ntmps-xs.size)) (by rw [hsz];omega) (zn _) (fun l hl=>by cases hl)
     obtain ⟨m1,w1,t1,ms,k1,q1,q2,q3,q4,q5,q6,e0,s0⟩:=o [] [] cs
     have hk1:k1=[] \/ ∃ k2,k1 = .code .ret :: k2:=by
      cases ex with
      | normal=>exact .inl e0
      | exit id=>exact zw rfl (hne id)
      | ret=>exact .inr e0
     rw [List.append_nil,List.append_nil] at s0
     obtain ⟨w2,u1,u2⟩:=jeO (fn:=f) (t:=t1) (todo:=k1) ms w1 q1 q4 q5
     obtain ⟨x,r1,r2⟩:=ji4 hT u1.rel q2 hrv hl
     refine ⟨m1,w2,x,{ Fm f none t1 k1 [] with mode := .returning },u1,r2,?_,rfl,rfl,rfl,rfl,fn,hfn,r1⟩
     rw [hent]
     exact s0.trans (.head (st_ret hk1) (u2 cs))
    ·cases hr
   ·cases hr
  ·cases hM
 ·cases hM
end
end Am
namespace Am
open Go
theorem jmc (s:Nat) (v:V) : ∀ (e:Env) (j:Nat),(e.put s v).get j=if s=j then some v else e.get j
 | [],j=>by simp [Env.put,jbH,Env.get]
 | (k,u) :: r,j=>by
  simp only [Env.put,nbeq,jbX]
  by_cases e0:k=s
  ·subst e0
   rw [zg rfl,jbH,jbH]
   by_cases e1:k=j<;>simp [e1]
  ·rw [zb e0,jbH,jbH,jmc s v r j]
   by_cases e1:k=j
   ·subst e1;rw [zg rfl,zb (Ne.symm e0),zg rfl]
   ·rw [zb e1,zb e1]
section
variable {P:Program} {C:Cx} {m:Mp} {h h':H} {w:World} {v:V}
theorem jdO : ∀ {ps:List Nat} {vs:List V} {xs:List Value} {e e0:Env} {t:Array Value},jc2 e ps vs=some e0->jah m vs xs->ERel m e t->(∀ p∈ps,p<t.size) ->
  ps.length=xs.length/\ERel m e0 ((ps.zip xs).foldl (fun t p=>t.setIfInBounds p.1 p.2) t)/\((ps.zip xs).foldl (fun t p=>t.setIfInBounds p.1 p.2) t).size=t.size
 | [],[],xs,e,e0,t,hp,hv,he,_=>by
  have:xs=[]:=hv
  subst this
  cases hp
  exact ⟨rfl,he,rfl⟩
 | [],_ :: _,_,_,_,_,hp,_,_,_=>by simp [jc2] at hp
 | _ :: _,[],_,_,_,_,hp,_,_,_=>by simp [jc2] at hp
 | p :: ps,u :: vs,xs,e,e0,t,hp,hv,he,hlt=>by
  obtain ⟨x,s,rfl,h1,h2⟩:=hv
  simp only [jc2] at hp
  have he':ERel m (e.put p u) (t.setIfInBounds p x):=by
   intro j y hj
   rw [jmc] at hj
   have:=hlt p (zh ..)
   split at hj
   ·next e1=>subst e1;cases hj;exact ⟨x,by simp [this],h1⟩
   ·next e1=>
    obtain ⟨z,g1,g2⟩:=he j y hj
    exact ⟨z,by simp [Array.getElem?_setIfInBounds_ne e1,g1],g2⟩
  obtain ⟨q1,q2,q3⟩:=jdO hp h2 he' (fun q hq=>by simpa using hlt q (zj _ hq))
  exact ⟨by simp [q1],by simpa using q2,by simpa using q3⟩
theorem ji3 {call:Am.Call} (hT:TOk P C) (hC:jcv P C call) (hF:jcn call) (hmix:P.follows .mixedOrders=true) {fuel l:Nat} {args:List V} {xs:Array Value} (hr:jbE call fuel l args h=some (v,h')) (hR:HRel P C m h w) (hG:GOk C m)
  (hx:jah m args xs.toList) : ∀ c cs,∃ m' w' x,Step P C h.nx m h w m' h' w'/\VRel m' v x/\Does P m c cs (.yld l) xs w w' x:=by
 intro c cs
 simp only [jbE] at hr
 split at hr
 ·next st pd ps env a b hl=>
  obtain ⟨loc,L,nt,s1,s2,s3,s4,s5,s6,s7,s8,s9,s10⟩:=jcN hR hl
  split at hr
  ·cases hr
  ·next e0 he0=>
   have hps : ∀ p∈ps,p<L.tmps.size:=fun p hp=>by
    have:=zC.1 s8 p hp
    simp [Nat.blt] at this;omega
   obtain ⟨p1,p2,p3⟩:=jdO he0 hx s6 hps
   rw [<- s5] at p1 p2 p3
   have hyield:(Instr.yield loc.β xs).run P w = .ok (.round loc.β L.fn ((L.params.toList.zip xs.toList).foldl (fun t p=>t.setIfInBounds p.1 p.2) L.tmps) L.assign L.body) w:=by
    have hsz : ¬ (xs.size≠L.params.size):=by simp at p1;omega
    have hz:(L.params.zip xs).foldl (fun (t:Array Value) (p:Nat × Value)=>t.setIfInBounds p.1 p.2) L.tmps=(L.params.toList.zip xs.toList).foldl (fun t p=>t.setIfInBounds p.1 p.2) L.tmps:=by
     rw [<- Array.foldl_toList,Array.toList_zip]
    simp only [Instr.yield,zF,jb3 s2,zG,hsz]
    exact congrArg (fun z=>Result.ok (Next.round loc.β L.fn z L.assign L.body) w) hz
   generalize ht0:(L.params.toList.zip xs.toList).foldl (fun t p=>t.setIfInBounds p.1 p.2) L.tmps=t0 at p2 p3 hyield
   split at hr
   ·next e1 h1 ha=>
    have o1:=D_ok hT hC hF hmix _ _ s9 h.nx L.fn (some loc.β) m h w t0 e0 _ _ _ ha hG hR p2 om (zn _) (fun l' hl'=>by cases hl';exact ⟨L,s2⟩)
    obtain ⟨m1,w1,t1,ms1,k1,q1,q2,q3,q4,q5,q6,g1,g2⟩:=o1 [.beginRound,.code L.body] [] (c :: cs)
    have:k1=[.beginRound,.code L.body]:=g1
    subst this
    have hms1:=q6 _ rfl
    subst hms1
    split at hr
    ·next pd1 ps1 en1 a1 b1 hl1=>
     obtain ⟨loc1,L1,nt1,u1,u2,u3,u4,u5,u6,u7,u8,u9,u10⟩:=jcN q1.rel hl1
     have:loc1=loc:=by rw [q1.mono _ _ s1] at u1;cases u1;rfl
     subst this
     have hb1:=jdJ (N:=h.nx) (st' := .busy) q1.rel hl1 u1 u2 u4
     have hbegin:(Instr.beginRound loc1.β).run P w1 = .ok () { w1 with heap:=w1.heap.setIfInBounds loc1.β (.loop { L1 with state := .busy,pending:=L1.pending }) } := by
      simp only [Instr.beginRound,zF,jb3 u2,zG,jc0 u2,u3]
      rfl
     generalize hw2:({ w1 with heap:=w1.heap.setIfInBounds loc1.β (.loop { L1 with state := .busy,pending:=L1.pending }) } : World)=w2 at hb1 hbegin
     split at hr
     ·next ex e3 h3 hb=>
      have hro2:RoOk w2 (some loc1.β):=RoOk.step (fun l' hl'=>by cases hl';exact ⟨L1,u2⟩) hb1
      have o2:=D_ok hT hC hF hmix _ _ s10 h.nx L.fn (some loc1.β) m1 _ w2 t1 e1 _ _ _ hb (hG.mono q1.mono) hb1.rel q2 om (by simpa using q1.nx) hro2
      obtain ⟨m3,w3,t3,ms3,k3,r1,r2,r3,r4,r5,r6,g3,g4⟩:=o2 [] [] (c :: cs)
      have hms3:=r6 _ rfl
      subst hms3
      split at hr
      ·next st3 pd3 ps3 en3 a3 b3 hl3=>
       obtain ⟨loc3,L3,nt3,v1,v2,v3,v4,v5,v6,v7,v8,v9,v10⟩:=jcN r1.rel hl3
       have:loc3=loc1:=by rw [r1.mono _ _ u1] at v1;cases v1;rfl
       subst this
       have fin : ∀ (st':LoopState) (pd':Option Ex) (jump:Option Code) (bv:Bool),h'=h3.set l (.loop st' pd' ps3 en3 a3 b3)->v = .bool bv->jfS pd' jump->st'=(if jump.isNone then .ready else .done)->bv=jump.isNone ->
         (∀ k',Ends ex [] k'->(jump=none/\k'=[])\/(jump=some .ret /\ ∃ k2,k' = .code .ret :: k2)\/(∃ id k2,jump=some (.exit id)/\k' = .code (.exit id) :: k2/\exitTo id k2=none)) ->
         ∃ m' w' x,Step P C h.nx m h w m' h' w'/\VRel m' v x/\Does P m c cs (.yld l) xs w w' x:=by
        intro st' pd' jump bv e1' e2' e3' e4' e5' hk
        have hs3:=jdJ (N:=h.nx) (st':=st') r1.rel hl3 v1 v2 e3'
        have hend:(Instr.endRound loc3.β jump).run P w3 = .ok (.bool jump.isNone) { w3 with heap:=w3.heap.setIfInBounds loc3.β (.loop { L3 with state:=st',pending:=jump }) } := by
         subst e4'
         simp only [Instr.endRound,zF,jb3 v2,zG,jc0 v2,zH]
        refine ⟨m3,_,.bool bv,(q1.trans (hb1.trans r1)).trans (by rw [e1'];exact hs3),by rw [e2'];rfl,loc3,L.fn,t0,L.assign,L.body,s1,hyield,?_⟩
        refine Steps.trans g2 (.head (jfP hbegin) (Steps.trans g4 (.one ?_)))
        rw [e5']
        exact jfO (hk k3 g3) hend
       split at hr
       ·cases hr
        exact fin .ready none none true rfl rfl rfl rfl rfl fun k' hk'=>.inl ⟨rfl,hk'⟩
       ·next hex=>
        cases hr
        cases ex with
        | normal=>exact zw rfl (hex)
        | exit id=>
         refine fin .done (some (.exit id)) (some (.exit id)) false rfl rfl rfl rfl rfl fun k' hk'=>?_
         obtain ⟨k2,g1,g2⟩:=hk'
         exact .inr (.inr ⟨id,k2,rfl,g1,g2⟩)
        | ret=>exact fin .done (some .ret) (some .ret) false rfl rfl rfl rfl rfl fun k' hk'=>.inr (.inl ⟨rfl,hk'⟩)
      ·cases hr
     ·cases hr
    ·cases hr
   ·cases hr
 ·cases hr
def jbg (P:Program) (C:Cx) (R:Prog):Prop := ∀ f p,jaL R.prims f=some p -> ∀ args h v h',p args h=some (v,h') -> ∀ m w (xs:Array Value),HRel P C m h w->GOk C m->jah m args xs.toList ->
  ∀ c cs,∃ m' w' x,Step P C h.nx m h w m' h' w'/\VRel m' v x/\Does P m c cs (.fn f) xs w w' x
structure ProgOk (P:Program) (C:Cx) (R:Prog):Prop where
 types:TOk P C
 mixed:P.follows .mixedOrders=true
 fns : ∀ f a,jaL R.fns f=some a->fnM P C f a=true
 primF:jbh R
 primOk:jbg P C R
theorem jjQ {R:Prog} (hP:ProgOk P C R) (fuel:Nat) : ∀ n,jcv P C (ja9 R fuel n)
 | 0=>fun tgt args h v h' hr=>by simp [ja9] at hr
 | n+1=>by
  have ih:=jjQ hP fuel n
  have hF:=jbY hP.primF fuel n
  intro tgt args h v h' hr m w xs hR hG hx
  cases tgt with
  | fn f=>
   simp only [ja9] at hr
   split at hr
   ·next p hp=>exact hP.primOk f p hp _ _ _ _ hr m w xs hR hG hx
   ·split at hr
    ·next a ha=>
     obtain ⟨q0,q6⟩:=jjt hP.types ih hF.1 hP.mixed (hP.fns f a ha) hr hR hG hx
     intro c cs
     obtain ⟨m',w',x,fr,q1,q2,q3,q4,q5⟩:=q0 (c :: cs)
     exact ⟨m',w',x,q1,q2,.inr ⟨q6,q3.trans (.one (step_leave_returned q5))⟩⟩
    ·cases hr
  | yld l=>
   simp only [ja9] at hr
   exact ji3 hP.types ih hF.1 hP.mixed hr hR hG hx
theorem jgF {R:Prog} (hP:ProgOk P C R) {fuel n:Nat} {f:FuncId} {a:AFn} (ha:jaL R.fns f=some a) (hp:jaL R.prims f=none) {args:List V} {xs:Array Value} (hr:ja9 R fuel (n+1) (.fn f) args h=some (v,h')) (hR:HRel P C m h w) (hG:GOk C m) (hx:jah m args xs.toList) :
  jjU P C h.nx m h w f xs v h':=by
 simp only [ja9,hp,ha] at hr
 exact (jjt hP.types (jjQ hP fuel n) (jbY hP.primF fuel n).1 hP.mixed (hP.fns f a ha) hr hR hG hx).1
theorem jjU.calls {N:Nat} {f:FuncId} {xs:Array Value} (hf:jjU P C N m h w f xs v h') {Rl:Ending->World->Prop} (hR : ∀ m' w' x,Step P C N m h w m' h' w'->VRel m' v x->Rl (.returned x) w'):Calls P f xs w Rl:=by
 intro cs
 obtain ⟨m',w',x,fr,q1,q2,q3,q4,q5⟩:=hf cs
 exact ⟨.returned x,w',fr,hR m' w' x q1 q2,q3,q4,q5⟩
end
end Am
namespace Am
open Go
inductive Fr where
 | seq (b:AC)
 | block (id:Nat)
 | loop (live:List Nat) (body:AC) (n:Nat)
 deriving Inhabited
def after (call:Call) (fuel:Nat):List Fr->Ex->Env->H->Res
 | [],x,e,h=>some (x,e,h)
 | .seq b :: K,.normal,e,h=>match D call fuel b e h with
  | some (x,e',h')=>after call fuel K x e' h'
  | none=>none
 | .seq _ :: K,x,e,h=>after call fuel K x e h
 | .block id :: K,.exit id',e,h=>if id'=id then after call fuel K .normal e h else after call fuel K (.exit id') e h
 | .block _ :: K,x,e,h=>after call fuel K x e h
 | .loop live body n :: K,.normal,e,h=>match iter (D call fuel body) live n e h with
  | some (x,e',h')=>after call fuel K x e' h'
  | none=>none
 | .loop _ _ _ :: K,x,e,h=>after call fuel K x e h
abbrev Post:=Ex->Env->H->Prop
structure End (call:Call) (fuel:Nat) (K:List Fr) (x:Ex) (e:Env) (h:H) (Q:Post):Prop where
 out : ∃ x' e' h',after call fuel K x e h=some (x',e',h')/\Q x' e' h'
structure Run (call:Call) (fuel:Nat) (c:AC) (K:List Fr) (e:Env) (h:H) (Q:Post):Prop where
 out : ∃ x e' h',D call fuel c e h=some (x,e',h')/\End call fuel K x e' h' Q
structure Ops (call:Call) (fuel base:Nat) (ops:List Ins) (keep:List Nat) (K:List Fr) (e:Env) (h:H) (Q:Post):Prop where
 out : ∃ e' h',jag call base ops e h=some (e',h')/\End call fuel K .normal (e'.only keep) h' Q
inductive Kept (e:Env):List Nat->Env->Prop where
 | nil:Kept e [] []
 | cons {s:Nat} {v:V} {r:List Nat} {t:Env} (h:e.get s=some v) (k:Kept e r t):Kept e (s :: r) ((s,v) :: t)
 | miss {s:Nat} {r:List Nat} {t:Env} (h:e.get s=none) (k:Kept e r t):Kept e (s :: r) t
theorem Kept.eq {e:Env} : ∀ {l:List Nat} {t:Env},Kept e l t->e.only l=t
 | _,_,.nil=>rfl
 | _,_,.cons h k=>by simp only [Env.only,h,k.eq]
 | _,_,.miss h k=>by simp only [Env.only,h,k.eq]
section
variable {call:Call} {fuel base:Nat} {K:List Fr} {e e':Env} {h h':H} {Q:Post}
theorem Run.skip (k:End call fuel K .normal e h Q):Run call fuel .skip K e h Q:=⟨_,_,_,rfl,k⟩
theorem Run.label {l:Nat} (k:End call fuel K .normal e h Q):Run call fuel (.label l) K e h Q:=⟨_,_,_,rfl,k⟩
theorem Run.exit {id:Nat} (k:End call fuel K (.exit id) e h Q):Run call fuel (.exit id) K e h Q:=⟨_,_,_,rfl,k⟩
theorem Run.ret (k:End call fuel K .ret e h Q):Run call fuel .ret K e h Q:=⟨_,_,_,rfl,k⟩
theorem Run.scope {c:AC} (k:Run call fuel c K e h Q):Run call fuel (.scope c) K e h Q:=⟨k.out⟩
theorem Run.seq {a b:AC} (k:Run call fuel a (.seq b :: K) e h Q):Run call fuel (.seq a b) K e h Q:=by
 obtain ⟨x,e1,h1,hd,x2,e2,h2,ha,hq⟩:=k
 cases x<;>simp only [after] at ha
 ·split at ha
  ·next x3 e3 h3 hb=>exact ⟨x3,e3,h3,by simp only [D,hd,hb],x2,e2,h2,ha,hq⟩
  ·cases ha
 ·exact ⟨_,e1,h1,by simp only [D,hd],x2,e2,h2,ha,hq⟩
 ·exact ⟨_,e1,h1,by simp only [D,hd],x2,e2,h2,ha,hq⟩
theorem End.seq {b:AC} (k:Run call fuel b K e h Q):End call fuel (.seq b :: K) .normal e h Q:=by
 obtain ⟨x,e1,h1,hd,x2,e2,h2,ha,hq⟩:=k
 exact ⟨x2,e2,h2,by simp only [after,hd,ha],hq⟩
theorem End.seq_exit {b:AC} {id:Nat} (k:End call fuel K (.exit id) e h Q):End call fuel (.seq b :: K) (.exit id) e h Q:=⟨k.out⟩
theorem End.seq_ret {b:AC} (k:End call fuel K .ret e h Q):End call fuel (.seq b :: K) .ret e h Q:=⟨k.out⟩
theorem Run.block {id:Nat} {a:AC} (k:Run call fuel a (.block id :: K) e h Q):Run call fuel (.block id a) K e h Q:=by
 obtain ⟨x,e1,h1,hd,x2,e2,h2,ha,hq⟩:=k
 cases x<;>simp only [after] at ha
 ·exact ⟨_,e1,h1,by simp only [D,hd],x2,e2,h2,ha,hq⟩
 ·next id'=>
  split at ha
  ·next e0=>subst e0;exact ⟨.normal,e1,h1,by simp [D,hd],x2,e2,h2,ha,hq⟩
  ·next e0=>
   have e1':(id' == id)=false:=by simpa using e0
   exact ⟨.exit id',e1,h1,by simp only [D,hd,e1',cond_false],x2,e2,h2,ha,hq⟩
 ·exact ⟨_,e1,h1,by simp only [D,hd],x2,e2,h2,ha,hq⟩
theorem End.block {id:Nat} (k:End call fuel K .normal e h Q):End call fuel (.block id :: K) .normal e h Q:=⟨k.out⟩
theorem End.block_ret {id:Nat} (k:End call fuel K .ret e h Q):End call fuel (.block id :: K) .ret e h Q:=⟨k.out⟩
theorem End.block_exit {id:Nat} (k:End call fuel K .normal e h Q):End call fuel (.block id :: K) (.exit id) e h Q:=by
 obtain ⟨x2,e2,h2,ha,hq⟩:=k
 exact ⟨x2,e2,h2,by simp only [after,zg,ha],hq⟩
theorem End.block_exit' {id id':Nat} (hne:Nat.beq id' id=false) (k:End call fuel K (.exit id') e h Q):End call fuel (.block id :: K) (.exit id') e h Q:=by
 obtain ⟨x2,e2,h2,ha,hq⟩:=k
 have:id'≠id:=by rintro rfl;simp at hne
 exact ⟨x2,e2,h2,by simp only [after,zb this,ha],hq⟩
theorem End.loop_exit {live:List Nat} {body:AC} {n id:Nat} (k:End call fuel K (.exit id) e h Q):End call fuel (.loop live body n :: K) (.exit id) e h Q:=⟨k.out⟩
theorem End.loop_ret {live:List Nat} {body:AC} {n:Nat} (k:End call fuel K .ret e h Q):End call fuel (.loop live body n :: K) .ret e h Q:=⟨k.out⟩
theorem End.nil {x:Ex} (k:Q x e h):End call fuel [] x e h Q:=⟨_,_,_,rfl,k⟩
theorem Run.cond_true {c:Opd} {a b:AC} (hc:c.ev e=some (.bool true)) (k:Run call fuel a K e h Q):Run call fuel (.cond c a b) K e h Q:=by
 obtain ⟨x,e1,h1,hd,q⟩:=k;exact ⟨x,e1,h1,by simp only [D,hc,hd],q⟩
theorem Run.cond_false {c:Opd} {a b:AC} (hc:c.ev e=some (.bool false)) (k:Run call fuel b K e h Q):Run call fuel (.cond c a b) K e h Q:=by
 obtain ⟨x,e1,h1,hd,q⟩:=k;exact ⟨x,e1,h1,by simp only [D,hc,hd],q⟩
theorem Run.cond {c:Opd} {a b:AC} {t:Bool} (hc:c.ev e=some (.bool t)) (ka:t=true->Run call fuel a K e h Q) (kb:t=false->Run call fuel b K e h Q):Run call fuel (.cond c a b) K e h Q:=by
 cases t
 ·exact Run.cond_false hc (kb rfl)
 ·exact Run.cond_true hc (ka rfl)
theorem Run.region {res:Nat} {ops:List Ins} {keep:List Nat} (k:Ops call fuel h.nx ops keep K e (h.reserve res) Q):Run call fuel (.region res ops keep) K e h Q:=by
 obtain ⟨e1,h1,hr,q⟩:=k
 exact ⟨.normal,e1.only keep,h1,by simp only [D,hr],q⟩
theorem Run.region0 {ops:List Ins} {keep:List Nat} (k:Ops call fuel h.nx ops keep K e h Q):Run call fuel (.region 0 ops keep) K e h Q:=Run.region k
theorem Ops.nil {keep:List Nat} (hk:Kept e keep e') (k:End call fuel K .normal e' h Q):Ops call fuel base [] keep K e h Q:=⟨e,h,rfl,by rw [hk.eq];exact k⟩
theorem Ops.step {ix:Nat} {dst:Option Nat} {i:I} {at_:Option Nat} {ops:List Ins} {keep:List Nat} {v:V}
  (hr:i.run call e h (at_.map (base + ·))=some (v,h')) (k:Ops call fuel base ops keep K (layv e dst v) h' Q) :
  Ops call fuel base (⟨ix,dst,i,none,at_,[]⟩ :: ops) keep K e h Q:=by
 obtain ⟨e1,h1,hr1,q⟩:=k
 exact ⟨e1,h1,by simp only [jag,wanted,cond_true,hr,jaB,hr1],q⟩
theorem Ops.guard {ix:Nat} {dst:Option Nat} {i:I} {g:Nat × Bool} {at_:Option Nat} {c:List (Nat × I × Option (Nat × Bool))} {ops:List Ins} {keep:List Nat} {t:Bool}
  (hg:e.get g.1=some (.bool t)) (k:t=g.2->Ops call fuel base (⟨ix,dst,i,none,at_,c⟩ :: ops) keep K e h Q) (k':t = !g.2->Ops call fuel base ops keep K (layv e dst .undef) h Q) :
  Ops call fuel base (⟨ix,dst,i,some g,at_,c⟩ :: ops) keep K e h Q:=by
 obtain ⟨j,w⟩:=g
 by_cases e0:t=w
 ·subst e0
  obtain ⟨e1,h1,hr1,q⟩:=k rfl
  refine ⟨e1,h1,?_,q⟩
  simp only [jag,wanted] at hr1 ⊢
  simpa only [hg,beq_self_eq_true] using hr1
 ·have e2:t = !w:=by cases t<;>cases w<;>simp_all
  obtain ⟨e1,h1,hr1,q⟩:=k' e2
  refine ⟨e1,h1,?_,q⟩
  have e3:(t == w)=false:=by simpa using e0
  simpa only [jag,wanted,hg,e3,cond_false] using hr1
theorem Ops.on {ix:Nat} {dst:Option Nat} {i:I} {j:Nat} {w:Bool} {at_:Option Nat} {c:List (Nat × I × Option (Nat × Bool))} {ops:List Ins} {keep:List Nat}
  (hg:e.get j=some (.bool w)) (k:Ops call fuel base (⟨ix,dst,i,none,at_,c⟩ :: ops) keep K e h Q) :
  Ops call fuel base (⟨ix,dst,i,some (j,w),at_,c⟩ :: ops) keep K e h Q :=
 Ops.guard (t:=w) hg (fun _=>k) (fun h=>by cases w<;>cases h)
theorem Ops.off {ix:Nat} {dst:Option Nat} {i:I} {j:Nat} {w:Bool} {at_:Option Nat} {c:List (Nat × I × Option (Nat × Bool))} {ops:List Ins} {keep:List Nat}
  (hg:e.get j=some (.bool (!w))) (k:Ops call fuel base ops keep K (layv e dst .undef) h Q) :
  Ops call fuel base (⟨ix,dst,i,some (j,w),at_,c⟩ :: ops) keep K e h Q :=
 Ops.guard (t := !w) hg (fun h=>by cases w<;>cases h) (fun _=>k)
theorem I.run_pure {i:I} {a:Option Nat} {v:V} (hc:i.cls = .P) (hp:i.pure e=some v):i.run call e h a=some (v,h):=by simp only [I.run,hc,hp]
theorem I.run_read {i:I} {a:Option Nat} {v:V} (hc:i.cls = .R) (hp:i.read e h=some v):i.run call e h a=some (v,h):=by simp only [I.run,hc,hp]
theorem I.run_make {i:I} {o:Obj} {mk:Nat->V} (hc:i.cls = .A) (hp:i.make e=some (o,mk)):i.run call e h none=some (mk h.nx,h.new o):=by simp only [I.run,hc,hp]
theorem I.run_eff {i:I} {a:Option Nat} {v:V} (hc:i.cls = .E) (hp:i.eff call e h=some (v,h')):i.run call e h a=some (v,h'):=by simp only [I.run,hc,hp]
theorem Run.loop {live:List Nat} {body:AC} (I:Nat->Env->H->Prop) {k:Nat} (hk:k<fuel) (h0:I k e h)
  (step : ∀ k e h,I k e h -> ∀ n,(∀ k'<k,∀ e' h',I k' e' h'->End call fuel (.loop live body n :: K) .normal e' h' Q)->Run call fuel body (.loop live body n :: K) (e.only live) h Q) :
  Run call fuel (.loop live body) K e h Q:=by
 have go : ∀ n k e h,k<n->I k e h->End call fuel (.loop live body n :: K) .normal e h Q:=by
  intro n
  induction n with
  | zero=>intro k e h hk;omega
  | succ n ih=>
   intro k e h hk hi
   obtain ⟨x,e1,h1,hd,x2,e2,h2,ha,hq⟩:=step k e h hi n fun k' hk' e' h' hi'=>ih k' e' h' om hi'
   refine ⟨x2,e2,h2,?_,hq⟩
   cases x<;>simp only [after] at ha
   ·split at ha
    ·next x3 e3 h3 hb=>simp only [after,iter,hd,hb,ha]
    ·cases ha
   ·simp only [after,iter,hd,ha]
   ·simp only [after,iter,hd,ha]
 obtain ⟨x2,e2,h2,ha,hq⟩:=go fuel k e h hk h0
 simp only [after] at ha
 split at ha
 ·next x3 e3 h3 hb=>exact ⟨x3,e3,h3,by simp only [D,hb],x2,e2,h2,ha,hq⟩
 ·cases ha
theorem runFn_of {fn:AFn} {args:List V} {R:V->H->Prop} (hl:(args.length == fn.np)=true)
  (k:Run call fuel fn.body [] (Env.ofArgs args 0) h fun x e' h'=>(∀ id,x ≠ .exit id) /\ ∃ l,jbR e' h' fn.res=some l/\R (jbx l) h') :
  ∃ v h',jcW call fuel fn args h=some (v,h')/\R v h':=by
 obtain ⟨x,e1,h1,hd,x2,e2,h2,ha,hx,l,hq,hR⟩:=k
 simp only [after] at ha
 cases ha
 refine ⟨jbx l,h1,?_,hR⟩
 simp only [jcW,hl,cond_true,hd]
 cases x with
 | exit id=>exact zw rfl (hx id)
 | normal=>simp only [hq]
 | ret=>simp only [hq]
end
theorem callN_of {P:Prog} {fuel n f:Nat} {fn:AFn} {args:List V} {h:H} {R:V->H->Prop} (hp:jaL P.prims f=none) (hf:jaL P.fns f=some fn)
  (k : ∃ v h',jcW (ja9 P fuel n) fuel fn args h=some (v,h')/\R v h') : ∃ v h',ja9 P fuel (n+1) (.fn f) args h=some (v,h')/\R v h':=by
 simpa only [ja9,hp,hf] using k
end Am
namespace Am
open Go
def tab (n:Nat) (f:Nat->V):List V:=(List.range n).map f
@[simp] theorem tab_length (n:Nat) (f:Nat->V):(tab n f).length=n:=by simp [tab]
theorem jhl (vs l:List V) (h:vs.length=l.length):jca l 0 vs=vs:=by
 apply List.ext_getElem?
 intro j
 rw [jcU _ _ _ _ om]
 by_cases h1:j<vs.length
 ·rw [zg om];simp
 ·rw [zb om,zc om,zc om]
section
variable {h h' h'':H} {b o n:Nat} {l vs:List V} {ro:Bool} {v:V}
theorem load1_of (hb:h.get b=some (.cells l ro)) (hv:l[o]?=some v):h.load1 b o=some v:=by simp only [H.load1,hb,hv]
theorem jlR (hb:h.get b=some (.cells l ro)) (hn:o+n<=l.length):h.load b o n=some ((l.drop o).take n):=by
 simp only [H.load,hb,zt,zA,hn,if_true]
theorem jjq (hb:h.get b=some (.cells l false)) (hn:o+vs.length<=l.length) (ho:vs.all V.one=true):h.store b o vs=some (h.set b (.cells (jca l o vs) false)):=by
 simp only [H.store,hb,zt,zm,zA,hn,ho,and_self,if_true]
theorem jhI (o:Obj):(h.set b o).get b=some o:=by rw [H.get_set,zg rfl]
theorem jdp {j:Nat} {o:Obj} (hne:j≠b):(h.set b o).get j=h.get j:=by rw [H.get_set,zb hne]
theorem jbG (o:Obj):(h.new o).get h.nx=some o:=by rw [H.get_new,zg rfl]
theorem jaZ {j:Nat} {o:Obj} (hlt:j<h.nx):(h.new o).get j=h.get j:=by rw [H.get_new,zb om]
theorem zzn {j:Nat} {o:Obj} {x:Option Obj} (hne:j≠b) (k:h.get j=x):(h.set b o).get j=x:=(jdp hne).trans k
theorem zzl {j:Nat} {o:Obj} {x:Option Obj} (hlt:j<h.nx) (k:h.get j=x):(h.new o).get j=x:=(jaZ hlt).trans k
theorem jes {j:Nat} (hne:j≠b):(h.kill b).get j=h.get j:=by rw [H.get_kill,zb hne]
structure Ch (B:Nat->Prop) (h h':H):Prop where
 nx:h.nx<=h'.nx
 get : ∀ j,j<h.nx -> ¬ B j->h'.get j=h.get j
theorem Ch.refl (B:Nat->Prop) (h:H):Ch B h h:=⟨zn _,fun _ _ _=>rfl⟩
theorem Ch.trans {B:Nat->Prop} (a:Ch B h h') (c:Ch B h' h''):Ch B h h'' :=
 ⟨zu a.nx c.nx,fun j hj hn=>by rw [c.get j (zo hj a.nx) hn,a.get j hj hn]⟩
theorem Ch.weaken {B B':Nat->Prop} (a:Ch B h h') (hB : ∀ j,j<h.nx->B j->B' j):Ch B' h h':=⟨a.nx,fun j hj hn=>a.get j hj fun hb=>hn (hB j hj hb)⟩
theorem Ch.set {B:Nat->Prop} {ob:Obj} (hB:B b):Ch B h (h.set b ob):=⟨zn _,fun j _ hn=>jdp fun e=>hn (e ▸ hB)⟩
theorem Ch.new {B:Nat->Prop} {ob:Obj} : Ch B h (h.new ob):=⟨by simp,fun j hj _=>jaZ hj⟩
theorem Ch.kill {B:Nat->Prop} (hB:B b):Ch B h (h.kill b):=⟨zn _,fun j _ hn=>jes fun e=>hn (e ▸ hB)⟩
end
end Am
namespace Am
open Go
section
variable {call:Call} {fuel base:Nat} {K:List Fr} {e e':Env} {h h':H} {Q:Post} {ix:Nat} {dst:Option Nat} {ops:List Ins} {keep:List Nat} {at_:Option Nat} {j:Nat}
 {c:List (Nat × I × Option (Nat × Bool))}
theorem Ops.pure {i:I} {v:V} (hc:i.cls = .P) (hp:i.pure e=some v) (k:Ops call fuel base ops keep K (layv e dst v) h Q) :
  Ops call fuel base (⟨ix,dst,i,none,at_,[]⟩ :: ops) keep K e h Q:=Ops.step (I.run_pure hc hp) k
theorem Ops.mv {x:Opd} {v:V} (hx:x.ev e=some v) (k:Ops call fuel base ops keep K (layv e dst v) h Q) :
  Ops call fuel base (⟨ix,dst,.mv x,none,at_,[]⟩ :: ops) keep K e h Q:=Ops.pure rfl (by simp only [I.pure,hx]) k
theorem Ops.eql {x y:Opd} {kd:IntKind} {a b:Int} (hx:x.ev e=some (.int kd a)) (hy:y.ev e=some (.int kd b)) (k:Ops call fuel base ops keep K (layv e dst (.bool (decide (a=b)))) h Q) :
  Ops call fuel base (⟨ix,dst,.bin .eql x y,none,at_,[]⟩ :: ops) keep K e h Q:=by
 refine Ops.pure rfl ?_ k
 simp only [I.pure,hx,hy,binOp,jbe,jbi,beq_self_eq_true,Bool.or_true,cond_true]
 congr 2
theorem Ops.neq {x y:Opd} {kd:IntKind} {a b:Int} (hx:x.ev e=some (.int kd a)) (hy:y.ev e=some (.int kd b)) (k:Ops call fuel base ops keep K (layv e dst (.bool (decide (a≠b)))) h Q) :
  Ops call fuel base (⟨ix,dst,.bin .neq x y,none,at_,[]⟩ :: ops) keep K e h Q:=by
 refine Ops.pure rfl ?_ k
 simp only [I.pure,hx,hy,binOp,jbe,jbi,beq_self_eq_true,Bool.or_true,cond_true]
 congr 2
 by_cases e0:a=b<;>simp [e0]
theorem Ops.lss {x y:Opd} {kd:IntKind} {a b:Int} (hx:x.ev e=some (.int kd a)) (hy:y.ev e=some (.int kd b)) (k:Ops call fuel base ops keep K (layv e dst (.bool (decide (a<b)))) h Q) :
  Ops call fuel base (⟨ix,dst,.bin .lss x y,none,at_,[]⟩ :: ops) keep K e h Q:=by
 refine Ops.pure rfl ?_ k
 simp only [I.pure,hx,hy,binOp,jbe,jbi,beq_self_eq_true,Bool.or_true,cond_true]
theorem Ops.leq {x y:Opd} {kd:IntKind} {a b:Int} (hx:x.ev e=some (.int kd a)) (hy:y.ev e=some (.int kd b)) (k:Ops call fuel base ops keep K (layv e dst (.bool (decide (a<=b)))) h Q) :
  Ops call fuel base (⟨ix,dst,.bin .leq x y,none,at_,[]⟩ :: ops) keep K e h Q:=by
 refine Ops.pure rfl ?_ k
 simp only [I.pure,hx,hy,binOp,jbe,jbi,beq_self_eq_true,Bool.or_true,cond_true]
theorem Ops.gtr {x y:Opd} {kd:IntKind} {a b:Int} (hx:x.ev e=some (.int kd a)) (hy:y.ev e=some (.int kd b)) (k:Ops call fuel base ops keep K (layv e dst (.bool (decide (b<a)))) h Q) :
  Ops call fuel base (⟨ix,dst,.bin .gtr x y,none,at_,[]⟩ :: ops) keep K e h Q:=by
 refine Ops.pure rfl ?_ k
 simp only [I.pure,hx,hy,binOp,jbe,jbi,beq_self_eq_true,Bool.or_true,cond_true]
theorem Ops.geq {x y:Opd} {kd:IntKind} {a b:Int} (hx:x.ev e=some (.int kd a)) (hy:y.ev e=some (.int kd b)) (k:Ops call fuel base ops keep K (layv e dst (.bool (decide (b<=a)))) h Q) :
  Ops call fuel base (⟨ix,dst,.bin .geq x y,none,at_,[]⟩ :: ops) keep K e h Q:=by
 refine Ops.pure rfl ?_ k
 simp only [I.pure,hx,hy,binOp,jbe,jbi,beq_self_eq_true,Bool.or_true,cond_true]
abbrev fits (n:Int):Prop := -9223372036854775808<=n/\n<=9223372036854775807
theorem jgN {n:Int} (hn:fits n):IntKind.wrap .i64 n=n:=by
 obtain ⟨h1,h2⟩:=hn
 have e:IntKind.wrap .i64 n=if n%18446744073709551616>=9223372036854775808 then n%18446744073709551616-18446744073709551616 else n%18446744073709551616:=by
  unfold IntKind.wrap
  by_cases h:n%18446744073709551616>=9223372036854775808<;>simp [IntKind.bits,IntKind.signed,h]
 rw [e]
 split<;>omega
theorem Ops.add {x y:Opd} {a b:Int} (hx:x.ev e=some (.int .i64 a)) (hy:y.ev e=some (.int .i64 b)) (hf:fits (a+b)) (k:Ops call fuel base ops keep K (layv e dst (.i (a+b))) h Q) :
  Ops call fuel base (⟨ix,dst,.bin .add x y,none,at_,[]⟩ :: ops) keep K e h Q:=by
 refine Ops.pure rfl ?_ k
 simp only [I.pure,hx,hy,binOp,jbe,jbi,beq_self_eq_true,Bool.or_true,cond_true,jgN hf]
theorem Ops.sub {x y:Opd} {a b:Int} (hx:x.ev e=some (.int .i64 a)) (hy:y.ev e=some (.int .i64 b)) (hf:fits (a-b)) (k:Ops call fuel base ops keep K (layv e dst (.i (a-b))) h Q) :
  Ops call fuel base (⟨ix,dst,.bin .sub x y,none,at_,[]⟩ :: ops) keep K e h Q:=by
 refine Ops.pure rfl ?_ k
 simp only [I.pure,hx,hy,binOp,jbe,jbi,beq_self_eq_true,Bool.or_true,cond_true,jgN hf]
theorem jjo {n:Int} (h0:0<=n) (h1:n<=18446744073709551615):IntKind.wrap .u64 n=n:=by
 have e:IntKind.wrap .u64 n=n%18446744073709551616:=by simp [IntKind.wrap,IntKind.bits,IntKind.signed]
 rw [e];omega
theorem Ops.addu {x y:Opd} {a b:Int} (hx:x.ev e=some (.int .u64 a)) (hy:y.ev e=some (.int .u64 b)) (hf:0<=a+b/\a+b<=18446744073709551615) (k:Ops call fuel base ops keep K (layv e dst (.int .u64 (a+b))) h Q) :
  Ops call fuel base (⟨ix,dst,.bin .add x y,none,at_,[]⟩ :: ops) keep K e h Q:=by
 refine Ops.pure rfl ?_ k
 simp only [I.pure,hx,hy,binOp,jbe,jbi,beq_self_eq_true,Bool.or_true,cond_true,jjo hf.1 hf.2]
theorem Ops.subu {x y:Opd} {a b:Int} (hx:x.ev e=some (.int .u64 a)) (hy:y.ev e=some (.int .u64 b)) (hf:0<=a-b/\a-b<=18446744073709551615) (k:Ops call fuel base ops keep K (layv e dst (.int .u64 (a-b))) h Q) :
  Ops call fuel base (⟨ix,dst,.bin .sub x y,none,at_,[]⟩ :: ops) keep K e h Q:=by
 refine Ops.pure rfl ?_ k
 simp only [I.pure,hx,hy,binOp,jbe,jbi,beq_self_eq_true,Bool.or_true,cond_true,jjo hf.1 hf.2]
theorem Ops.min2 {x y:Opd} {kd:IntKind} {a b:Int} (hx:x.ev e=some (.int kd a)) (hy:y.ev e=some (.int kd b)) (k:Ops call fuel base ops keep K (layv e dst (.int kd (min a b))) h Q) :
  Ops call fuel base (⟨ix,dst,.minI [x,y],none,at_,[]⟩ :: ops) keep K e h Q:=by
 refine Ops.pure rfl ?_ k
 have:(if b<a then b else a)=min a b:=by omega
 simp only [I.pure,evs,hx,hy,jgC,minV,beq_self_eq_true,cond_true,this]
theorem Ops.not {p:Prop} {dp:Decidable p} {x:Opd} (hx:x.ev e=some (.bool (@decide p dp))) (k:Ops call fuel base ops keep K (layv e dst (.bool (decide (¬ p)))) h Q) :
  Ops call fuel base (⟨ix,dst,.un .not x,none,at_,[]⟩ :: ops) keep K e h Q:=by
 refine Ops.pure rfl ?_ k
 simp only [I.pure,hx,unOp]
 by_cases hp:p<;>simp [hp]
theorem Ops.not_b {t:Bool} {x:Opd} (hx:x.ev e=some (.bool t)) (k:Ops call fuel base ops keep K (layv e dst (.bool (decide (t=false)))) h Q) :
  Ops call fuel base (⟨ix,dst,.un .not x,none,at_,[]⟩ :: ops) keep K e h Q:=by
 refine Ops.pure rfl ?_ k
 simp only [I.pure,hx,unOp]
 cases t<;>simp
theorem Ops.ixaA {x i:Opd} {len sz b o:Nat} {kd:IntKind} {n:Int} (hx:x.ev e=some (.ptr (some (b,o)))) (hi:i.ev e=some (.int kd n)) (hn:0<=n/\n<len)
  (k:Ops call fuel base ops keep K (layv e dst (.ptr (some (b,o+n.toNat*sz)))) h Q):Ops call fuel base (⟨ix,dst,.ixaA len sz x i,none,at_,[]⟩ :: ops) keep K e h Q:=by
 refine Ops.pure rfl ?_ k
 obtain ⟨m,rfl⟩:=Int.eq_ofNat_of_zero_le hn.1
 have:Nat.blt m len=true:=by simp [Nat.blt];omega
 simp only [I.pure,hx,hi]
 simp only [below,this,cond_true]
theorem Ops.ixaS {x i:Opd} {sz b o len:Nat} {cap:Cap} {kd:IntKind} {n:Int} (hx:x.ev e=some (.slice (some (b,o)) len cap)) (hi:i.ev e=some (.int kd n)) (hn:0<=n/\n<len)
  (k:Ops call fuel base ops keep K (layv e dst (.ptr (some (b,o+n.toNat*sz)))) h Q):Ops call fuel base (⟨ix,dst,.ixaS sz x i,none,at_,[]⟩ :: ops) keep K e h Q:=by
 refine Ops.pure rfl ?_ k
 obtain ⟨m,rfl⟩:=Int.eq_ofNat_of_zero_le hn.1
 have:Nat.blt m len=true:=by simp [Nat.blt];omega
 simp only [I.pure,hx,hi]
 simp only [below,this,cond_true]
theorem Ops.load1 {a:Opd} {b o:Nat} {l:List V} {ro:Bool} {v:V} (ha:a.ev e=some (.ptr (some (b,o)))) (hb:h.get b=some (.cells l ro)) (hv:l[o]?=some v)
  (k:Ops call fuel base ops keep K (layv e dst v) h Q):Ops call fuel base (⟨ix,dst,.load1 a,none,at_,[]⟩ :: ops) keep K e h Q :=
 Ops.step (I.run_read rfl (by simp only [I.read,ha,load1_of hb hv])) k
theorem Ops.loadN {a:Opd} {b o n:Nat} {l:List V} {ro:Bool} (ha:a.ev e=some (.ptr (some (b,o)))) (hb:h.get b=some (.cells l ro)) (hn:o+n<=l.length)
  (k:Ops call fuel base ops keep K (layv e dst (.agg ((l.drop o).take n))) h Q):Ops call fuel base (⟨ix,dst,.loadN n a,none,at_,[]⟩ :: ops) keep K e h Q :=
 Ops.step (I.run_read rfl (by simp only [I.read,ha,jlR hb hn])) k
theorem Ops.store1 {a x:Opd} {b o:Nat} {l:List V} {v:V} (ha:a.ev e=some (.ptr (some (b,o)))) (hx:x.ev e=some v) (h1:v.one=true) (hb:h.get b=some (.cells l false)) (hn:o<l.length)
  (k:Ops call fuel base ops keep K (layv e dst .undef) (h.set b (.cells (l.set o v) false)) Q):Ops call fuel base (⟨ix,dst,.store 1 a x,none,at_,[]⟩ :: ops) keep K e h Q:=by
 have hc:v.cells=[v]:=by cases v<;>first | rfl | (simp [V.one] at h1)
 refine Ops.step (I.run_eff rfl ?_) k
 have hs:=jjq (o:=o) (vs:=[v]) hb (by simp only [List.length_singleton];omega) (by simp [h1])
 simp only [I.eff,ha,hx,hc,hs]
 rfl
theorem Ops.storeN {a x:Opd} {b o n:Nat} {l vs:List V} (ha:a.ev e=some (.ptr (some (b,o)))) (hx:x.ev e=some (.agg vs)) (hl:vs.length=n) (h1:vs.all V.one=true) (hb:h.get b=some (.cells l false)) (hn:o+n<=l.length)
  (k:Ops call fuel base ops keep K (layv e dst .undef) (h.set b (.cells (jca l o vs) false)) Q):Ops call fuel base (⟨ix,dst,.store n a x,none,at_,[]⟩ :: ops) keep K e h Q:=by
 subst hl
 refine Ops.step (I.run_eff rfl ?_) k
 simp only [I.eff,ha,hx,V.cells,jjq hb hn h1,beq_self_eq_true,cond_true]
theorem Ops.callf {f:FuncId} {args:List Opd} {vs:List V} {v:V} (ha:evs e args=some vs) (hc:call (.fn f) vs h=some (v,h')) (k:Ops call fuel base ops keep K (layv e dst v) h' Q) :
  Ops call fuel base (⟨ix,dst,.call f args,none,at_,[]⟩ :: ops) keep K e h Q :=
 Ops.step (I.run_eff rfl (by simp only [I.eff,ha,hc])) k
theorem Ops.yield {l:Nat} {x:Opd} {args:List Opd} {vs:List V} {v:V} (hx:x.ev e=some (.yld l)) (ha:evs e args=some vs) (hc:call (.yld l) vs h=some (v,h')) (k:Ops call fuel base ops keep K (layv e dst v) h' Q) :
  Ops call fuel base (⟨ix,dst,.callv x args,none,at_,[]⟩ :: ops) keep K e h Q :=
 Ops.step (I.run_eff rfl (by simp only [I.eff,hx,ha,hc])) k
theorem Ops.make {i:I} {ob:Obj} {mk:Nat->V} (hc:i.cls = .A) (hm:i.make e=some (ob,mk)) (k:Ops call fuel base ops keep K (layv e dst (mk h.nx)) (h.new ob) Q) :
  Ops call fuel base (⟨ix,dst,i,none,none,[]⟩ :: ops) keep K e h Q:=Ops.step (I.run_make hc hm) k
theorem Ops.eqb {x y:Opd} {a b:Bool} (hx:x.ev e=some (.bool a)) (hy:y.ev e=some (.bool b)) (k:Ops call fuel base ops keep K (layv e dst (.bool (decide (a=b)))) h Q) :
  Ops call fuel base (⟨ix,dst,.eq .bool false x y,none,at_,[]⟩ :: ops) keep K e h Q:=by
 refine Ops.pure rfl ?_ k
 simp only [I.pure,hx,hy,eqOp,cond_false]
 cases a<;>cases b<;>rfl
theorem Ops.neb {x y:Opd} {a b:Bool} (hx:x.ev e=some (.bool a)) (hy:y.ev e=some (.bool b)) (k:Ops call fuel base ops keep K (layv e dst (.bool (decide (a≠b)))) h Q) :
  Ops call fuel base (⟨ix,dst,.eq .bool true x y,none,at_,[]⟩ :: ops) keep K e h Q:=by
 refine Ops.pure rfl ?_ k
 simp only [I.pure,hx,hy,eqOp,cond_true]
 cases a<;>cases b<;>rfl
theorem tagA {o:List Ins} (k:Ops call fuel base o keep K e h Q):Ops call fuel base o keep K e h Q:=k
theorem tagG {i:I} {g:Nat × Bool} (k:Ops call fuel base (⟨ix,dst,i,some g,at_,c⟩ :: ops) keep K e h Q):Ops call fuel base (⟨ix,dst,i,some g,at_,c⟩ :: ops) keep K e h Q:=k
theorem tagB {op:BinOp} {x y:Opd} (k:Ops call fuel base (⟨ix,dst,.bin op x y,none,at_,[]⟩ :: ops) keep K e h Q):Ops call fuel base (⟨ix,dst,.bin op x y,none,at_,[]⟩ :: ops) keep K e h Q:=k
theorem tagP {x a b:Opd} (k:Ops call fuel base (⟨ix,dst,.pick x a b,none,at_,[]⟩ :: ops) keep K e h Q):Ops call fuel base (⟨ix,dst,.pick x a b,none,at_,[]⟩ :: ops) keep K e h Q:=k
theorem tagR {a:AC} (k:Run call fuel a K e h Q):Run call fuel a K e h Q:=k
theorem tagC {x:Opd} {a b:AC} (k:Run call fuel (.cond x a b) K e h Q):Run call fuel (.cond x a b) K e h Q:=k
theorem tagE {x:Ex} (k:End call fuel K x e h Q):End call fuel K x e h Q:=k
theorem Ops.off_u {i:I} {w:Bool} (hg:e.get j=some (.tup [])) (k:Ops call fuel base ops keep K (layv e dst .undef) h Q) :
  Ops call fuel base (⟨ix,dst,i,some (j,w),at_,c⟩ :: ops) keep K e h Q:=by
 obtain ⟨e1,h1,hr1,q⟩:=k
 refine ⟨e1,h1,?_,q⟩
 simp only [jag,wanted,hg,cond_false,hr1]
theorem Ops.on_p {p:Prop} {dp:Decidable p} {i:I} (hg:e.get j=some (.bool (@decide p dp))) (hp:p) (k:Ops call fuel base (⟨ix,dst,i,none,at_,c⟩ :: ops) keep K e h Q) :
  Ops call fuel base (⟨ix,dst,i,some (j,true),at_,c⟩ :: ops) keep K e h Q:=Ops.on (by rw [hg,decide_eq_true hp]) k
theorem Ops.off_p {p:Prop} {dp:Decidable p} {i:I} (hg:e.get j=some (.bool (@decide p dp))) (hp : ¬ p) (k:Ops call fuel base ops keep K (layv e dst .undef) h Q) :
  Ops call fuel base (⟨ix,dst,i,some (j,true),at_,c⟩ :: ops) keep K e h Q:=Ops.off (by rw [hg,decide_eq_false hp];rfl) k
theorem Ops.on_n {p:Prop} {dp:Decidable p} {i:I} (hg:e.get j=some (.bool (@decide p dp))) (hp : ¬ p) (k:Ops call fuel base (⟨ix,dst,i,none,at_,c⟩ :: ops) keep K e h Q) :
  Ops call fuel base (⟨ix,dst,i,some (j,false),at_,c⟩ :: ops) keep K e h Q:=Ops.on (by rw [hg,decide_eq_false hp]) k
theorem Ops.off_n {p:Prop} {dp:Decidable p} {i:I} (hg:e.get j=some (.bool (@decide p dp))) (hp:p) (k:Ops call fuel base ops keep K (layv e dst .undef) h Q) :
  Ops call fuel base (⟨ix,dst,i,some (j,false),at_,c⟩ :: ops) keep K e h Q:=Ops.off (by rw [hg,decide_eq_true hp];rfl) k
theorem Ops.guard_p {p:Prop} {dp:Decidable p} {i:I} (hg:e.get j=some (.bool (@decide p dp))) (k:p->Ops call fuel base (⟨ix,dst,i,none,at_,c⟩ :: ops) keep K e h Q) (k' : ¬ p->Ops call fuel base ops keep K (layv e dst .undef) h Q) :
  Ops call fuel base (⟨ix,dst,i,some (j,true),at_,c⟩ :: ops) keep K e h Q:=by
 by_cases hp:p
 ·exact Ops.on_p hg hp (k hp)
 ·exact Ops.off_p hg hp (k' hp)
theorem Ops.guard_n {p:Prop} {dp:Decidable p} {i:I} (hg:e.get j=some (.bool (@decide p dp))) (k : ¬ p->Ops call fuel base (⟨ix,dst,i,none,at_,c⟩ :: ops) keep K e h Q) (k':p->Ops call fuel base ops keep K (layv e dst .undef) h Q) :
  Ops call fuel base (⟨ix,dst,i,some (j,false),at_,c⟩ :: ops) keep K e h Q:=by
 by_cases hp:p
 ·exact Ops.off_n hg hp (k' hp)
 ·exact Ops.on_n hg hp (k hp)
theorem Ops.on_b {t:Bool} {i:I} {w:Bool} (hg:e.get j=some (.bool t)) (hp:t=w) (k:Ops call fuel base (⟨ix,dst,i,none,at_,c⟩ :: ops) keep K e h Q) :
  Ops call fuel base (⟨ix,dst,i,some (j,w),at_,c⟩ :: ops) keep K e h Q:=Ops.on (by rw [hg,hp]) k
theorem Ops.off_b {t:Bool} {i:I} {w:Bool} (hg:e.get j=some (.bool t)) (hp:t = !w) (k:Ops call fuel base ops keep K (layv e dst .undef) h Q) :
  Ops call fuel base (⟨ix,dst,i,some (j,w),at_,c⟩ :: ops) keep K e h Q:=Ops.off (by rw [hg,hp]) k
theorem Ops.pick_p {p:Prop} {dp:Decidable p} {x a b:Opd} {v:V} (hx:x.ev e=some (.bool (@decide p dp))) (hp:p) (hv:a.ev e=some v) (k:Ops call fuel base ops keep K (layv e dst v) h Q) :
  Ops call fuel base (⟨ix,dst,.pick x a b,none,at_,[]⟩ :: ops) keep K e h Q:=Ops.pure rfl (by simp only [I.pure,hx,decide_eq_true hp,hv]) k
theorem Ops.pick_n {p:Prop} {dp:Decidable p} {x a b:Opd} {v:V} (hx:x.ev e=some (.bool (@decide p dp))) (hp : ¬ p) (hv:b.ev e=some v) (k:Ops call fuel base ops keep K (layv e dst v) h Q) :
  Ops call fuel base (⟨ix,dst,.pick x a b,none,at_,[]⟩ :: ops) keep K e h Q:=Ops.pure rfl (by simp only [I.pure,hx,decide_eq_false hp,hv]) k
theorem Ops.pick_t {t:Bool} {x a b:Opd} {v:V} (hx:x.ev e=some (.bool t)) (hp:t=true) (hv:a.ev e=some v) (k:Ops call fuel base ops keep K (layv e dst v) h Q) :
  Ops call fuel base (⟨ix,dst,.pick x a b,none,at_,[]⟩ :: ops) keep K e h Q:=Ops.pure rfl (by simp only [I.pure,hx,hp,hv]) k
theorem Ops.pick_f {t:Bool} {x a b:Opd} {v:V} (hx:x.ev e=some (.bool t)) (hp:t=false) (hv:b.ev e=some v) (k:Ops call fuel base ops keep K (layv e dst v) h Q) :
  Ops call fuel base (⟨ix,dst,.pick x a b,none,at_,[]⟩ :: ops) keep K e h Q:=Ops.pure rfl (by simp only [I.pure,hx,hp,hv]) k
theorem Ops.pick_id {t:Bool} {x:Opd} (hx:x.ev e=some (.bool t)) (k:Ops call fuel base ops keep K (layv e dst (.bool t)) h Q) :
  Ops call fuel base (⟨ix,dst,.pick x (.c (.bool true)) (.c (.bool false)),none,at_,[]⟩ :: ops) keep K e h Q:=by
 refine Ops.pure rfl ?_ k
 have hp:I.pure e (.pick x (.c (.bool true)) (.c (.bool false)))=some (.bool t):=by
  simp only [I.pure,hx];cases t<;>rfl
 exact hp
theorem Run.cond_p {p:Prop} {dp:Decidable p} {x:Opd} {a b:AC} (hx:x.ev e=some (.bool (@decide p dp))) (hp:p) (k:Run call fuel a K e h Q):Run call fuel (.cond x a b) K e h Q:=Run.cond_true (by rw [hx,decide_eq_true hp]) k
theorem Run.cond_n {p:Prop} {dp:Decidable p} {x:Opd} {a b:AC} (hx:x.ev e=some (.bool (@decide p dp))) (hp : ¬ p) (k:Run call fuel b K e h Q):Run call fuel (.cond x a b) K e h Q:=Run.cond_false (by rw [hx,decide_eq_false hp]) k
theorem Run.cond_pn {p:Prop} {dp:Decidable p} {x:Opd} {a b:AC} (hx:x.ev e=some (.bool (@decide p dp))) (k:p->Run call fuel a K e h Q) (k' : ¬ p->Run call fuel b K e h Q):Run call fuel (.cond x a b) K e h Q:=by
 by_cases hp:p
 ·exact Run.cond_p hx hp (k hp)
 ·exact Run.cond_n hx hp (k' hp)
theorem Run.cond_t {t:Bool} {x:Opd} {a b:AC} (hx:x.ev e=some (.bool t)) (hp:t=true) (k:Run call fuel a K e h Q):Run call fuel (.cond x a b) K e h Q:=Run.cond_true (by rw [hx,hp]) k
theorem Run.cond_f {t:Bool} {x:Opd} {a b:AC} (hx:x.ev e=some (.bool t)) (hp:t=false) (k:Run call fuel b K e h Q):Run call fuel (.cond x a b) K e h Q:=Run.cond_false (by rw [hx,hp]) k
end
theorem Run.rangeFunc {call:Call} {fuel:Nat} {K:List Fr} {e e1:Env} {h h':H} {Q:Post} {f:Opd} {g:FuncId} {cap:List V} {ps live ps':List Nat} {assign body a' b':AC} {v:V} {st:LoopState} {en':Env}
  (hf:f.ev e=some (.clo g cap)) (hk:Kept e live e1) (hc:call (.fn g) (.yld h.nx :: cap) (h.new (.loop .ready none ps e1 assign body))=some (v,h'))
  (hl:h'.get h.nx=some (.loop st none ps' en' a' b')) (hst:st ≠ .busy) (k:End call fuel K .normal e (h'.kill h.nx) Q):Run call fuel (.rangeFunc f ps live assign body) K e h Q:=by
 refine ⟨.normal,e,h'.kill h.nx,?_,k⟩
 cases st<;>first | (exact zw rfl hst) | simp only [D,hf,hk.eq,hc,hl]
def Ex.st:Ex->LoopState
 | .normal=>.ready
 | _=>.done
def Ex.pend:Ex->Option Ex
 | .normal=>none
 | x=>some x
structure Upd (b:Nat) (o:Obj) (h h':H):Prop where
 nx:h'.nx=h.nx
 self:h'.get b=some o
 get : ∀ j,j≠b->h'.get j=h.get j
theorem Upd.refl {b:Nat} {o:Obj} {h:H} (hb:h.get b=some o):Upd b o h h:=⟨rfl,hb,fun _ _=>rfl⟩
theorem Upd.set {b:Nat} {o:Obj} {h:H} : Upd b o h (h.set b o):=⟨rfl,jhI o,fun _ hj=>jdp hj⟩
theorem Upd.trans {b:Nat} {o o':Obj} {h h' h'':H} (a:Upd b o h h') (c:Upd b o' h' h''):Upd b o' h h'' :=
 ⟨by rw [c.nx,a.nx],c.self,fun j hj=>by rw [c.get j hj,a.get j hj]⟩
structure Fin (res:List RV) (R:V->H->Prop) (x:Ex) (e:Env) (h:H):Prop where
 out:(∀ id,x ≠ .exit id) /\ ∃ l,jbR e h res=some l/\R (jbx l) h
theorem End.fin0 {call:Call} {fuel:Nat} {res:List RV} {e:Env} {h:H} {R:V->H->Prop} (hl:jbR e h res=some []) (k:R (.tup []) h) :
  End call fuel [] .ret e h (Fin res R):=End.nil ⟨(fun _ hx=>by cases hx),_,hl,k⟩
theorem End.fin1 {call:Call} {fuel:Nat} {res:List RV} {e:Env} {h:H} {v:V} {R:V->H->Prop} (hl:jbR e h res=some [v]) (k:R v h) :
  End call fuel [] .ret e h (Fin res R):=End.nil ⟨(fun _ hx=>by cases hx),_,hl,k⟩
theorem End.fin2 {call:Call} {fuel:Nat} {res:List RV} {e:Env} {h:H} {a b:V} {l:List V} {R:V->H->Prop} (hl:jbR e h res=some (a :: b :: l)) (k:R (.tup (a :: b :: l)) h) :
  End call fuel [] .ret e h (Fin res R):=End.nil ⟨(fun _ hx=>by cases hx),_,hl,k⟩
theorem End.fin0n {call:Call} {fuel:Nat} {res:List RV} {e:Env} {h:H} {R:V->H->Prop} (hl:jbR e h res=some []) (k:R (.tup []) h) :
  End call fuel [] .normal e h (Fin res R):=End.nil ⟨(fun _ hx=>by cases hx),_,hl,k⟩
theorem End.fin {call:Call} {fuel:Nat} {res:List RV} {e:Env} {h:H} {l:List V} {R:V->H->Prop} (hl:jbR e h res=some l) (k:R (jbx l) h) :
  End call fuel [] .ret e h fun _ e' h'=>(∀ id,Ex.ret ≠ .exit id) /\ ∃ l,jbR e' h' res=some l/\R (jbx l) h':=End.nil ⟨(fun _ hx=>by cases hx),l,hl,k⟩
theorem jjR {P:Prog} {fuel d f:Nat} {fn:AFn} {args:List V} {h:H} {R:V->H->Prop} (hd:0<d) (hp:jaL P.prims f=none) (hf:jaL P.fns f=some fn) (hl:(args.length == fn.np)=true)
  (k:Run (ja9 P fuel (d-1)) fuel fn.body [] (Env.ofArgs args 0) h (Fin fn.res R)) :
  ∃ v h',ja9 P fuel d (.fn f) args h=some (v,h')/\R v h':=by
 obtain ⟨d,rfl⟩ : ∃ d',d=d'+1:=⟨d-1,by omega⟩
 obtain ⟨⟨x,e',h',h1,⟨⟨x',e2,h2,h3,⟨h4⟩⟩⟩⟩⟩:=k
 exact callN_of hp hf (runFn_of hl ⟨x,e',h',h1,⟨x',e2,h2,h3,h4⟩⟩)
theorem Run.cut {call:Call} {fuel:Nat} {K:List Fr} {e:Env} {h:H} {Q:Post} {c:AC} (M:Post) (k:Run call fuel c [] e h M) (k' : ∀ x e' h',M x e' h'->End call fuel K x e' h' Q):Run call fuel c K e h Q:=by
 obtain ⟨x,e1,h1,hd,x2,e2,h2,ha,hm⟩:=k
 simp only [after] at ha
 cases ha
 exact ⟨x,e1,h1,hd,k' _ _ _ hm⟩
abbrev zaa := @Ops.mv
abbrev zab := @Run.seq
abbrev zac := @Run.region0
abbrev zad := @Ops.nil
abbrev zae := @End.seq
abbrev zaf := @Ops.lss
abbrev zag := @Ops.eql
abbrev zah := @Ops.neq
abbrev zai := @Ops.leq
abbrev zaj := @Ops.gtr
abbrev zak := @Ops.geq
abbrev zal := @Ops.add
abbrev zam := @Ops.sub
abbrev zan := @Ops.not
abbrev zao := @Ops.not_b
abbrev zap := @Ops.pick_id
abbrev zaq := @Ops.pick_p
abbrev zar := @Ops.pick_n
abbrev zas := @Ops.pick_t
abbrev zat := @Ops.pick_f
abbrev zau := @Ops.pure
abbrev zav := @Ops.load1
abbrev zaw := @Ops.callf
abbrev zax := @Ops.ixaA
abbrev zay := @Ops.ixaS
abbrev zaz := @Ops.on_p
abbrev zba := @Ops.off_p
abbrev zbb := @Ops.on_n
abbrev zbc := @Ops.off_n
abbrev zbd := @Ops.on_b
abbrev zbe := @Ops.off_b
abbrev zbf := @Ops.guard_p
abbrev zbg := @Ops.guard_n
abbrev zbh := @Ops.guard
abbrev zbi := @Run.cond_p
abbrev zbj := @Run.cond_n
abbrev zbk := @Run.cond_t
abbrev zbl := @Run.cond_f
abbrev zbm := @Run.cond_pn
abbrev zbn := @Run.cond
abbrev zbo := @Run.block
abbrev zbp := @Run.skip
abbrev zbq := @Run.ret
abbrev zbr := @Run.exit
abbrev zbs := @Run.scope
abbrev zbt := @Run.label
abbrev zbu := @End.seq_ret
abbrev zbv := @End.seq_exit
abbrev zbw := @End.block
abbrev zbx := @End.block_ret
abbrev zby := @End.block_exit
abbrev zbz := @End.block_exit'
abbrev zca := @End.loop_ret
abbrev zcb := @End.loop_exit
abbrev zcc := @End.fin1
abbrev zcd := @End.fin0
abbrev zce := @End.fin0n
abbrev zcf := @End.fin2
abbrev zcg := @tagA
abbrev zch := @tagG
abbrev zci := @tagB
abbrev zcj := @tagP
abbrev zck := @tagR
abbrev zcl := @tagC
abbrev zcm := @tagE
abbrev zcn := @Ops.eqb
abbrev zco := @Ops.neb
abbrev zcp := @Ops.addu
abbrev zcq := @Ops.subu
abbrev zcr := @Ops.min2
abbrev zcs := @Ops.store1
abbrev zct := @Ops.storeN
abbrev zcu := @Ops.make
abbrev zcv := @Ops.off_u
abbrev zcw := @Ops.loadN
structure Hid (R:Prop):Prop where
 g:R
theorem zsp {P A B:Prop} (r:A) (s:B) (k:Hid A->Hid B->P:=by intro h1_ h2_;first|exact zbf rfl h1_.g h2_.g|exact zbg rfl h1_.g h2_.g|exact zbh rfl h1_.g h2_.g|exact zbm rfl h1_.g h2_.g|exact zbn rfl h1_.g h2_.g):P:=k ⟨r⟩ ⟨s⟩
end Am
namespace Am
open Go
def Row (N:Nat) (h:H) (sz:Nat) (v:V) (n:Nat) (cs:List V):Prop :=
 (n=0/\cs=[]/\v = .nils) \/ ∃ q,N<=q/\q<h.nx/\v = .slice (some (q,0)) n (.grow sz)/\h.get q=some (.cells cs false)/\cs.length=n*sz
theorem Row.nil (N:Nat) (h:H) (sz:Nat):Row N h sz .nils 0 [] := .inl ⟨rfl,rfl,rfl⟩
def V.at?:V->Option Nat
 | .slice (some a) _ _=>some a.1
 | _=>none
theorem Row.keep {N sz n:Nat} {h h':H} {v:V} {cs:List V} (r:Row N h sz v n cs) (hx:h.nx<=h'.nx) (hg : ∀ q,v.at?=some q->h'.get q=h.get q):Row N h' sz v n cs:=by
 rcases r with r | ⟨q,h1,h2,rfl,h4,h5⟩
 ·exact .inl r
 ·exact .inr ⟨q,h1,by omega,rfl,by rw [hg q rfl,h4],h5⟩
theorem Row.at_ge {N sz n:Nat} {h:H} {v:V} {cs:List V} (r:Row N h sz v n cs) {q:Nat} (hq:v.at?=some q):N<=q/\q<h.nx:=by
 rcases r with ⟨_,_,rfl⟩ | ⟨q',h1,h2,rfl,h4,h5⟩
 ·cases hq
 ·cases hq;exact ⟨h1,h2⟩
theorem Row.weaken {N N' sz n:Nat} {h:H} {v:V} {cs:List V} (hN:N'<=N) (r:Row N h sz v n cs):Row N' h sz v n cs:=by
 rcases r with r | ⟨q,h1,h2⟩
 ·exact .inl r
 ·exact .inr ⟨q,by omega,h2⟩
theorem jle {N sz bytes n q':Nat} {h:H} {v:V} {cs new:List V} {cap:Cap} (r:Row N h sz v n cs) (hN:N<=h.nx) (hq:h.get q'=some (.cells new false)) (hl:new.length=sz) (h1:new.all V.one=true) (hz:1<=sz)
  (hb:(n+1)*bytes<=2 ^ 46) (hn:n+1<=2 ^ 46) (hne:v.at?≠some q') :
  ∃ v' h',jb8 h sz bytes v (.slice (some (q',0)) 1 cap)=some (v',h')/\Row N h' sz v' (n+1) (cs++new)/\h.nx<=h'.nx/\v'.at?=some h.nx /\ ∀ j,j<h.nx->v.at?≠some j->h'.get j=h.get j:=by
 have hsrc:jaT h sz 1 (.slice (some (q',0)) 1 cap)=some new:=by
  have:(1*sz == 0)=false:=by simp;omega
  simp only [jaT,this,cond_false]
  rw [jlR hq om,zi,zf om]
 have hcond:(Nat.ble ((n+1)*bytes) (2 ^ 46)&&Nat.ble (n+1) (2 ^ 46))=true:=by simp only [zm,zA];exact ⟨hb,hn⟩
 have h10:((1:Nat) == 0)=false:=rfl
 rcases r with ⟨rfl,rfl,rfl⟩ | ⟨q,hq1,hq2,rfl,hq4,hq5⟩
 ·refine ⟨.slice (some (h.nx,0)) 1 (.grow sz),h.new (.cells new false),?_,.inr ⟨h.nx,hN,by simp,rfl,by rw [jbG];rfl,by simp [hl]⟩,by simp,rfl,fun j hj _=>jaZ hj⟩
  simp only [jb8,lenOf,hsrc]
  rw [hcond]
  simp only [cond_true,h10,cond_false,jbt]
 ·have hg:(Nat.beq sz sz&&Nat.ble (0+n*sz) cs.length&&new.all V.one)=true:=by
   simp only [zm,zA,h1,and_true]
   exact ⟨Nat.beq_refl _,by omega⟩
  have htk:(cs.drop 0).take (n*sz)=cs:=by rw [zi,zf om]
  refine ⟨.slice (some (h.nx,0)) (n+1) (.grow sz),(h.kill q).new (.cells (cs++new) false),?_,.inr ⟨h.nx,hN,by simp,rfl,?_,?_⟩,by simp,rfl,?_⟩
  ·simp only [jb8,lenOf,hsrc]
   rw [hcond]
   simp only [cond_true,h10,cond_false,hq4]
   rw [hg]
   simp only [cond_true,jbt,htk]
   rfl
  ·exact jbG (h:=h.kill q) _
  ·simp [hq5,hl,Nat.add_mul]
  ·intro j hj hv
   have hjq:j≠q:=fun e=>hv (by subst e;rfl)
   rw [jaZ (by simpa using hj),jes hjq]
section
variable {call:Call} {fuel base:Nat} {K:List Fr} {e:Env} {h:H} {Q:Post} {i1 i2 d1 d2:Nat} {ops:List Ins} {keep:List Nat}
theorem Ops.push {N sz bytes n:Nat} {x s:Opd} {xv sv:V} {zero cs new:List V} (hx:x.ev e=some xv) (hnew:xv.cells=new) (hl:new.length=sz) (h1:new.all V.one=true) (hz:1<=sz) (hzl:zero.length=sz)
  (hs:s.ev (layv e (some d1) (.slice (some (h.nx,0)) 1 (.fix 1)))=some sv) (r:Row N h sz sv n cs) (hN:N<=h.nx) (hb:(n+1)*bytes<=2 ^ 46) (hn:n+1<=2 ^ 46)
  (k : ∀ v' h',Row N h' sz v' (n+1) (cs++new)->h.nx<=h'.nx->(∀ q,v'.at?=some q->h.nx<=q)->(∀ j,j<h.nx->sv.at?≠some j->h'.get j=h.get j) ->
   Ops call fuel base ops keep K (layv (layv e (some d1) (.slice (some (h.nx,0)) 1 (.fix 1))) (some d2) v') h' Q) :
  Ops call fuel base (⟨i1,some d1,.bslice sz 1 zero [(0,x)],none,none,[]⟩ :: ⟨i2,some d2,.append sz bytes s (.t d1),none,none,[]⟩ :: ops) keep K e h Q:=by
 have hf:jaH zero [(0*sz,sz,xv)]=some new:=by
  have e1:(xv.cells.length == sz&&Nat.ble (0*sz+sz) zero.length)=true:=by simp [hnew,hl,hzl]
  simp only [jaH]
  rw [e1,cond_true,hnew,Nat.zero_mul,jhl _ _ om]
 refine Ops.make (ob := .cells new false) (mk:=fun b=>.slice (some (b,0)) 1 (.fix 1)) rfl ?_ ?_
 ·simp only [I.make,jaR,List.map,hx,hf]
 ·have r':Row N (h.new (.cells new false)) sz sv n cs:=r.keep Zb fun q hq=>jaZ (r.at_ge hq).2
  obtain ⟨v',h',e1,e2,e3,e4,e5⟩:=jle (bytes:=bytes) (cap := .fix 1) r' Za (jbG _) hl h1 hz hb hn (fun hq=>by have:=(r.at_ge hq).2;omega)
  refine Ops.step (h':=h') (v:=v') (I.run_eff rfl ?_) (k v' h' e2 (by simp at e3;omega) (fun q hq=>?_) (fun j hj hv=>?_))
  ·have h2:(Opd.t d1).ev (layv e (some d1) (.slice (some (h.nx,0)) 1 (.fix 1)))=some (.slice (some (h.nx,0)) 1 (.fix 1)):=by
    simp [Opd.ev,layv,Env.get]
   simp only [I.eff,hs,h2,e1]
  ·rw [e4] at hq;cases hq;simp
  ·rw [e5 j Za hv,jaZ hj]
end
end Am
