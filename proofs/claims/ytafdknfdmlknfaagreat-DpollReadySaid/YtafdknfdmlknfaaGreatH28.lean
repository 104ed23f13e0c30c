/- Our own library, part 28. -/
import Derived.OpenShut
import Derived.Test.YtafdknfdmlknfaaGreatH27
set_option maxHeartbeats 8000000
set_option maxRecDepth 800
set_option linter.all false
namespace Am
open Go Go.ChangeShapes Go.WideShapes Go.ChangeAt Go.RowKit
structure Fl (P:Program) (t:TypeId) where
 f:DataW Unit->Option (List V)
 ok : ∀ {W:World} {fuel:Nat} {cs:List Value} {d:DataW Unit} {p:List MemPlace} {l:List V} (m:Mp),DataW.trod (fun _=>()) P W 0 (fun _=>true) false fuel t cs=some (d,p)->f d=some l->jap m l cs
section
variable {P:Program} {t e:TypeId}
def Fl.int (k:IntKind) (ht:P.underlying t=some (.int k)):Fl P t where
 f:=fun
  | .lit (.int k' n)=>some [.int k' n]
  | _=>none
 ok:=by
  intro W fuel cs d p l m h hl
  obtain ⟨n,rfl,hx,_⟩:=DataW.trod_int ht h
  cases hx;cases hl
  exact ⟨_,_,rfl,rfl,rfl⟩
def Fl.str (ht:P.underlying t=some .string):Fl P t where
 f:=fun
  | .lit (.string s)=>some [.str s]
  | _=>none
 ok:=by
  intro W fuel cs d p l m h hl
  obtain ⟨⟨⟨s⟩⟩,rfl,hx,_⟩:=DataW.trod_string ht h
  cases hx;cases hl
  exact ⟨_,_,rfl,rfl,rfl⟩
theorem ro0 {C:Cx} {W:World} (n:Nat):RoMem P C m0 ⟨n,.lf⟩ W :=
 ⟨⟨fun b o hb=>(by cases hb),fun b b' o o' l l' hb=>(by cases hb),fun b l hb=>(by cases hb)⟩,fun b o hb=>(by cases hb),fun b _=>rfl⟩
theorem jfh {W:World} {r:Reach} {b0:Nat} {v:Value} (ht:P.underlying t=some (.slice e)) (h:Value.okWide P W r b0 t v):v.cells.toList=[v]:=by
 obtain ⟨a,n,c,rfl⟩:=okWide_slice ht h;rfl
theorem cells_int {W:World} {r:Reach} {b0:Nat} {v:Value} {k:IntKind} (ht:P.underlying t=some (.int k)) (h:Value.okWide P W r b0 t v):v.cells.toList=[v]:=by
 obtain ⟨n,rfl⟩:=okWide_int ht h;rfl
theorem Rd.arg {α : Type} (a:Rd P t α) (h1:a.sz=1) {D:Type} {enc:TypeId × Value->D} {C:Cx} {m:Mp} {h:H} {W:World} {v:Value} {d:DataW D} {p:List MemPlace} (r:RoMem P C m h W) (hv:v.cells.toList=[v])
  (hd:DataW.Trod enc P W 0 (fun _=>true) true t v d p) : ∃ x u m' h',RoMem P C m' h' W/\More m h m' h'/\h'.nx=h.nx+a.bnd/\a.rep h' x [u]/\VRel m' u v:=by
 obtain ⟨fuel,hf⟩:=hd
 rw [hv] at hf
 obtain ⟨x,vs,m',h',q1,q2,q3,q4,q5⟩:=a.read r hf
 have:=a.len q4
 rw [h1] at this
 match vs,this with
 | [u],_=>
  obtain ⟨y,s,e,k1,k2⟩:=q5
  cases e
  exact ⟨x,u,m',h',q1,q2,q3,q4,k1⟩
theorem Rd.args {α : Type} (a:Rd P t α) {D:Type} {enc:TypeId × Value->D} {C:Cx} {m:Mp} {h:H} {W:World} {v:Value} {d:DataW D} {p:List MemPlace} {fs:Array Field} {r0:Reach} {b0:Nat} (r:RoMem P C m h W) (ht:P.underlying t=some (.struct fs))
  (hval:Value.okWide P W r0 b0 t v) (hd:DataW.Trod enc P W 0 (fun _=>true) true t v d p) : ∃ x vs m' h',RoMem P C m' h' W/\More m h m' h'/\h'.nx=h.nx+a.bnd/\a.rep h' x vs/\VRel m' (.agg vs) v:=by
 obtain ⟨cs,rfl,_⟩:=okWide_struct ht hval
 obtain ⟨fuel,hf⟩:=hd
 obtain ⟨x,vs,m',h',q1,q2,q3,q4,q5⟩:=a.read r hf
 exact ⟨x,vs,m',h',q1,q2,q3,q4,cs,rfl,q5⟩
end
theorem args_nil {D:Type} {enc:TypeId × Value->D} {P:Program} {W:World} {b:Nat} {sp:Nat->Bool} {hd:Bool} {vs:List Value} {ds:List (DataW D)} {ps:List MemPlace} (h:DataW.TrodAll enc P W b sp hd [] vs ds ps):vs=[]/\ds=[]/\ps=[]:=by
 cases vs<;>cases ds<;>simp_all [DataW.TrodAll]
theorem jfP {D:Type} {enc:TypeId × Value->D} {P:Program} {W:World} {b:Nat} {sp:Nat->Bool} {hd:Bool} {t:TypeId} {ts:List TypeId} {vs:List Value} {ds:List (DataW D)} {ps:List MemPlace}
  (h:DataW.TrodAll enc P W b sp hd (t :: ts) vs ds ps) : ∃ v vs' d ds' p q,vs=v :: vs'/\ds=d :: ds'/\ps=p++q/\DataW.Trod enc P W b sp hd t v d p/\DataW.TrodAll enc P W b sp hd ts vs' ds' q:=by
 cases vs with
 | nil=>simp [DataW.TrodAll] at h
 | cons v vs=>
  cases ds with
  | nil=>simp [DataW.TrodAll] at h
  | cons d ds=>
   obtain ⟨p,q,h1,h2,h3⟩:=h
   exact ⟨v,vs,d,ds,p,q,rfl,rfl,h3,h1,h2⟩
theorem jjx {D:Type} {enc:TypeId × Value->D} {P:Program} {W:World} {b:Nat} {sp:Nat->Bool} {hd:Bool} {t:TypeId} {ts:List TypeId} {v:Value} {vs:List Value} {d:DataW D} {ds:List (DataW D)} {p q:List MemPlace}
  (h1:DataW.Trod enc P W b sp hd t v d p) (h2:DataW.TrodAll enc P W b sp hd ts vs ds q):DataW.TrodAll enc P W b sp hd (t :: ts) (v :: vs) (d :: ds) (p++q):=⟨p,q,h1,h2,rfl⟩
end Am
