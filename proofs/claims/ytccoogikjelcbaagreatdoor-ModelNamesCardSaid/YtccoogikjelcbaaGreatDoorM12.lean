/- Our own library, part 12. -/
import Derived.Shelf.Strings.OnBuilder
import Derived.Test.YtccoogikjelcbaaGreatDoorM11
set_option maxHeartbeats 8000000
set_option maxRecDepth 800
set_option linter.all false
namespace Am
open Go Go.Proofs Go.Shelf Go.RowKit
section
variable {P:Program} {C:Cx} {m:Mp} {h:H} {w w':World}
theorem jld (hR:HRel P C m h w) (hb:Below w.heap.size w w'):Step P C h.nx m h w m h w' :=
 ⟨Mono.refl _,fun _ _ e=>e,⟨fun b o hg=>let ⟨l,co,h1,h2,h3⟩:=hR.obj b o hg;⟨l,co,h1,by rw [hb.block _ (ja8 h2)];exact h2,h3⟩,hR.inj,hR.dom⟩,
  zn _,fun _ _ e=>e,hb.size,fun β hβ hn=>⟨hb.block β hβ,hn⟩,fun β L e=>⟨L,by rw [hb.block _ (ja8 e)];exact e⟩,hb.os,hb.tape,hb.output⟩
theorem jdR {f:FuncId} {p:Prim} (he : ∀ args w,(callFunc f args).run P w = .ok (.enter f args) w)
  (hp : ∀ args h v h',p args h=some (v,h') -> ∀ m w (xs:Array Value),HRel P C m h w->GOk C m->jah m args xs.toList->h'=h /\ ∃ x,VRel m v x/\Calls P f xs w fun e w'=>e = .returned x/\Below w.heap.size w w') :
  jby P C f p:=by
 intro args h v h' hr m w xs hR hG hx c cs
 obtain ⟨rfl,x,hv,hc⟩:=hp args h v h' hr m w xs hR hG hx
 obtain ⟨e,w',fr,⟨rfl,hb⟩,hs,_,hl⟩:=hc (c :: cs)
 exact ⟨m,w',x,jld hR hb,hv,.inr ⟨he xs w,Steps.trans hs (.one (step_leave_returned hl))⟩⟩
end
def strs:List V->Option (List (List UInt8))
 | []=>some []
 | .str s :: r=>match strs r with
  | some l=>some (s :: l)
  | none=>none
 | _=>none
theorem jjp : ∀ {l:List V} {xs:List (List UInt8)},strs l=some xs -> ∀ {j:Nat} {s:List UInt8},xs[j]?=some s->l[j]?=some (.str s)
 | [],xs,h,j,s,e=>by cases h;simp at e
 | v :: r,xs,h,j,s,e=>by
  cases v with
  | str u=>
   simp only [strs] at h
   split at h
   ·next l hl=>
    cases h
    cases j with
    | zero=>simp at e;subst e;rfl
    | succ j=>simp at e ⊢;exact jjp hl e
   ·cases h
  | _=>simp [strs] at h
def jiE:Prim
 | [.slice none 0 _,.str _],h=>some (.str [],h)
 | [.slice (some (b,o)) n _,.str s],h=>
  match h.get b with
  | some (.cells l _)=>
   match strs ((l.drop o).take n) with
   | some xs=>bif Nat.beq xs.length n&&(Nat.ble n 140737488355328&&Nat.ble (Lib.join xs s).length 140737488355328) then some (.str (Lib.join xs s),h) else none
   | none=>none
  | _=>none
 | _,_=>none
theorem jjI {X:Nat->Option Obj} {h h2:H} (x:Ext X h h2) {b:Nat} {o:Obj} (e:h.get b=some o):h2.get b=some o:=by rw [x.get,e];rfl
theorem pJoin_F:jgJ jiE:=by
 intro args h v h' hr
 unfold jiE at hr
 split at hr
 ·cases hr;exact ⟨zn _,fun X h2 x=>⟨h2,rfl,x⟩⟩
 ·split at hr
  ·next l ro hg=>
   split at hr
   ·next xs hs=>
    revert hr
    cases hc:(Nat.beq xs.length _&&(Nat.ble _ 140737488355328&&Nat.ble (Lib.join xs _).length 140737488355328)) with
    | false=>intro hr;cases hr
    | true=>
     intro hr
     cases hr
     refine ⟨zn _,fun X h2 x=>⟨h2,?_,x⟩⟩
     simp only [jiE,jjI x hg,hs,hc,cond_true]
   ·cases hr
  ·cases hr
 ·cases hr
theorem pJoin_ok {P:Program} {C:Cx} {ρ : Ren} (L:Lays.n156 P ρ) (X:Builder.Extra P ρ):jby P C (ρ.f 156) jiE:=by
 refine jdR (enters_of L.f156 (by kernel_rfl) rfl) ?_
 intro args h v h' hr m w xs hR hG hx
 have key0 : ∀ (a:Option Addr) (c:Nat) (sep:ByteArray),Calls P (ρ.f 156) #[.slice a 0 c,.string sep] w fun e w'=>e = .returned (.string ⟨#[]⟩)/\Below w.heap.size w w':=fun a c sep=>
  (Any.strings_Join_none L X a c sep w).mono fun e w' ⟨h1,h2⟩=>⟨h1,h2 ▸ Below.refl _ _⟩
 unfold jiE at hr
 split at hr
 ·cases hr
  obtain ⟨x1,r1,e1,h1,x2,r2,e2,h2,e3⟩:=hx
  obtain rfl:r2=[]:=e3
  subst e2
  obtain ⟨-,-,rfl⟩:=h1
  obtain rfl:x2=_:=h2
  obtain ⟨l⟩:=xs
  obtain rfl:l=_:=e1
  exact ⟨rfl,_,rfl,key0 none 0 _⟩
 ·next b o n c s=>
  split at hr
  ·next l ro hg=>
   split at hr
   ·next ys hs=>
    revert hr
    cases hc:(Nat.beq ys.length n&&(Nat.ble n 140737488355328&&Nat.ble (Lib.join ys s).length 140737488355328)) with
    | false=>intro hr;cases hr
    | true=>
     intro hr
     cases hr
     simp only [zm,zA] at hc
     obtain ⟨hc1,hc2,hc3⟩:=hc
     have hn:ys.length=n:=Nat.eq_of_beq_eq_true hc1
     obtain ⟨x1,r1,e1,⟨lc,ad,c',k1,rfl,k2,k3,-,-⟩,x2,r2,e2,h2,e3⟩:=hx
     obtain rfl:r2=[]:=e3
     subst e2
     obtain rfl:x2=_:=h2
     obtain ⟨l'⟩:=xs
     obtain rfl:l'=_:=e1
     by_cases h0:n=0
     ·subst h0
      have:ys=[]:=zl.1 hn
      subst this
      exact ⟨rfl,_,rfl,key0 _ _ _⟩
     ·obtain rfl:=k3 om
      obtain ⟨l2,co,q1,q2,ce,elem,lo,hi,q3,q4,q5,q6,q7⟩:=hR.obj _ _ hg
      rw [k1] at q1;cases q1
      subst q3
      refine ⟨rfl,.string ⟨⟨Lib.join ys s⟩⟩,rfl,?_⟩
      have hm:(ys.map fun y=>(⟨⟨y⟩⟩:ByteArray)).map (fun x=>x.data.toList)=ys:=by
       rw [List.map_map];exact List.map_id'' (fun _=>rfl) _
      have hj:=Any.strings_Join L X lc.β (lc.d+o) c' (ys.map fun y=>(⟨⟨y⟩⟩:ByteArray)) ⟨⟨s⟩⟩ w (fun j x hx=>?_) (ja8 q2) (by simpa [hn] using hc2) (by simpa [hn] using k2) (by rw [hm];exact hc3)
      ·rw [hm] at hj
       have hl:(ys.map fun y=>(⟨⟨y⟩⟩:ByteArray)).length=n:=by simpa using hn
       rw [hl] at hj
       exact hj
      ·rw [List.getElem?_map] at hx
       cases hy:ys[j]? with
       | none=>rw [hy] at hx;cases hx
       | some y=>
        rw [hy] at hx
        cases hx
        have hv:=jjp hs hy
        have hlt:j<n:=by
         have:=(List.getElem?_eq_some_iff.1 hy).1
         omega
        rw [List.getElem?_take_of_lt hlt,zk] at hv
        obtain ⟨x,q8,q9⟩:=q6 _ _ hv
        obtain rfl:x=_:=q9
        rw [jbz q2,<- q8,Nat.add_assoc]
   ·cases hr
  ·cases hr
 ·cases hr
end Am
