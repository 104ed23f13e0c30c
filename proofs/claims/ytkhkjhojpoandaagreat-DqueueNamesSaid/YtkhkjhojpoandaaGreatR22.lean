/- Our own library, part 22. -/
import Derived.OpenShut
import Derived.Test.YtkhkjhojpoandaaGreatR21
set_option maxHeartbeats 8000000
set_option maxRecDepth 800
set_option linter.all false
namespace Am
open Go Go.ChangeShapes Go.WideShapes Go.ChangeAt Go.RowKit
structure Fl (P:Program) (t:TypeId) where
 f:DataW Unit->Option (List V)
 ok : ∀ {W:World} {fuel:Nat} {cs:List Value} {d:DataW Unit} {p:List MemPlace} {l:List V} (m:Mp),DataW.trod (fun _=>()) P W 0 (fun _=>true) false fuel t cs=some (d,p)->f d=some l->jae m l cs
section
variable {P:Program} {t e:TypeId}
def Fl.int (k:IntKind) (ht:P.underlying t=some (.int k)):Fl P t where
 f:=fun
  | .lit (.int k' n)=>some [.int k' n]
  | _=>none
 ok:=by
  intro W fuel cs d p l m h hl
  obtain ⟨n,rfl,hx,_⟩:=DataW.trod_int ht h
  cases hx;cases hl
  exact ⟨_,_,rfl,rfl,rfl⟩
def Fl.str (ht:P.underlying t=some .string):Fl P t where
 f:=fun
  | .lit (.string s)=>some [.str s]
  | _=>none
 ok:=by
  intro W fuel cs d p l m h hl
  obtain ⟨⟨⟨s⟩⟩,rfl,hx,_⟩:=DataW.trod_string ht h
  cases hx;cases hl
  exact ⟨_,_,rfl,rfl,rfl⟩
theorem trod_ifc {ms:Array (String × TypeId)} {W:World} {fuel:Nat} {cs:List Value} {x:DataW Unit × List MemPlace} (ht:P.underlying t=some (.interface ms)) (h:DataW.trod (fun _=>()) P W 0 (fun _=>true) false fuel t cs=some x) :
  (cs=[.nilIface]/\x=(.nil,[])) \/ ∃ u v nm y,cs=[.iface u v]/\x.1 = .iface nm y:=by
 cases fuel with
 | zero=>simp [DataW.trod] at h
 | succ n=>
  unfold DataW.trod at h
  rw [ht] at h
  split at h<;>simp_all
  split at h
  ·simp_all
  ·simp only [Option.map_eq_some_iff] at h
   obtain ⟨y,_,rfl⟩:=h
   exact ⟨_,_,rfl⟩
  ·cases h
def Fl.ifc {ms:Array (String × TypeId)} (ht:P.underlying t=some (.interface ms)):Fl P t where
 f:=fun
  | .iface _ _=>some [.ifc]
  | .nil=>some [.nili]
  | _=>none
 ok:=by
  intro W fuel cs d p l m h hl
  rcases trod_ifc ht h with ⟨rfl,hx⟩ | ⟨u,v,nm,y,rfl,hx⟩
  ·cases hx;cases hl
   exact ⟨_,_,rfl,rfl,rfl⟩
  ·obtain rfl:d=_:=hx
   cases hl
   exact ⟨_,_,rfl,⟨_,_,rfl⟩,rfl⟩
theorem ro0 {C:Cx} {W:World} (n:Nat):RoMem P C m0 ⟨n,.lf⟩ W :=
 ⟨⟨fun b o hb=>(by cases hb),fun b b' o o' l l' hb=>(by cases hb),fun b l hb=>(by cases hb)⟩,fun b o hb=>(by cases hb),fun b _=>rfl⟩
theorem Rd.args {α : Type} (a:Rd P t α) {D:Type} {enc:TypeId × Value->D} {C:Cx} {m:Mp} {h:H} {W:World} {v:Value} {d:DataW D} {p:List MemPlace} {fs:Array Field} {r0:Reach} {b0:Nat} (r:RoMem P C m h W) (ht:P.underlying t=some (.struct fs))
  (hval:Value.okWide P W r0 b0 t v) (hd:DataW.Trod enc P W 0 (fun _=>true) true t v d p) : ∃ x vs m' h',RoMem P C m' h' W/\More m h m' h'/\h'.nx=h.nx+a.bnd/\a.rep h' x vs/\VRel m' (.agg vs) v:=by
 obtain ⟨cs,rfl,_⟩:=okWide_struct ht hval
 obtain ⟨fuel,hf⟩:=hd
 obtain ⟨x,vs,m',h',q1,q2,q3,q4,q5⟩:=a.read r hf
 exact ⟨x,vs,m',h',q1,q2,q3,q4,cs,rfl,q5⟩
end
theorem args_nil {D:Type} {enc:TypeId × Value->D} {P:Program} {W:World} {b:Nat} {sp:Nat->Bool} {hd:Bool} {vs:List Value} {ds:List (DataW D)} {ps:List MemPlace} (h:DataW.TrodAll enc P W b sp hd [] vs ds ps):vs=[]/\ds=[]/\ps=[]:=by
 cases vs<;>cases ds<;>simp_all [DataW.TrodAll]
end Am
