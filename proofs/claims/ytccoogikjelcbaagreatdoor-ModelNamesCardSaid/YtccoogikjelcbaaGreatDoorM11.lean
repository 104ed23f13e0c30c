/- Our own library, part 11. -/
import Derived.Laws.Externs
import Derived.Test.YtccoogikjelcbaaGreatDoorM10
set_option maxHeartbeats 8000000
set_option maxRecDepth 800
set_option linter.all false
namespace Am
open Go
def idxB (c:UInt8):List UInt8->Nat->Int
 | [],_=>-1
 | x :: r,n=>bif x == c then (n:Int) else idxB c r (n+1)
def jb0:Prim
 | [.str s,.int .u8 c],h=>some (.i (idxB c.toNat.toUInt8 s 0),h)
 | _,_=>none
theorem jhF (c:UInt8) (s:List UInt8) : ∀ (t pre:List UInt8),s=pre++t->(match (List.range' pre.length t.length).find? (fun i=>s[i]! == c) with
  | some i=>((i:Nat):Int)
  | none=>-1)=idxB c t pre.length
 | [],pre,_=>by simp [idxB]
 | x :: t,pre,e=>by
  have h1:s[pre.length]! = x:=by subst e;simp
  rw [List.length_cons,List.range'_succ,List.find?_cons,h1]
  unfold idxB
  cases hx:(x == c)
  ·simp only [cond_false]
   have ih:=jhF c s t (pre++[x]) (by rw [e];simp)
   simpa using ih
  ·simp only [cond_true]
structure Ext1 (P:Program) (f:FuncId) (e:Array Value->Sem Value):Prop where
 out : ∃ fn,P.funcs[f]?=some fn/\(fn.name == "runtime.NumGoroutine")=false/\fn.body.isNone=true/\Extern.findNext fn=none/\Extern.find fn=some e
theorem Ext1.run {P:Program} {f:FuncId} {e:Array Value->Sem Value} (x:Ext1 P f e) (args:Array Value) (w:World):(callFunc f args).run P w=((e args).run P w).andThen fun v w'=>.ok (.value v) w':=by
 obtain ⟨fn,h1,h2,h3,h4,h5⟩:=x
 exact run_callFunc_extern h1 h2 h3 h4 h5 args w
def jby (P:Program) (C:Cx) (f:FuncId) (p:Prim):Prop := ∀ args h v h',p args h=some (v,h') -> ∀ m w (xs:Array Value),HRel P C m h w->GOk C m->jah m args xs.toList ->
  ∀ c cs,∃ m' w' x,Step P C h.nx m h w m' h' w'/\VRel m' v x/\Does P m c cs (.fn f) xs w w' x
def jgJ (p:Prim):Prop := ∀ args h v h',p args h=some (v,h')->h.nx<=h'.nx /\ ∀ X h2,Ext X h h2 -> ∃ h2',p args h2=some (v,h2')/\Ext X h' h2'
theorem jhz:jgJ jb0:=by
 intro args h v h' hr
 unfold jb0 at hr
 split at hr
 ·cases hr;exact ⟨zn _,fun X h2 x=>⟨h2,rfl,x⟩⟩
 ·cases hr
theorem jhE (b c:Value):Extern.BytealgIndexByte.indexByte #[b,c]=(do
  let b<-Extern.Bytes.bytesOf b
  let c<-Extern.Bytes.asByte c
  match (List.range b.size).find? fun i=>b[i]! == c with
  | some i=>pure (goInt i)
  | none=>pure (goInt (-1))):=rfl
theorem jfT {P:Program} {C:Cx} {f:FuncId} (x:Ext1 P f Extern.BytealgIndexByte.indexByte):jby P C f jb0:=by
 intro args h v h' hr m w xs hR hG hx
 unfold jb0 at hr
 split at hr
 ·rename_i h0 s c
  cases hr
  obtain ⟨x1,r1,e1,h1,x2,r2,e2,h2,e3⟩:=hx
  obtain rfl:r2=[]:=e3
  subst e2
  obtain rfl:x1 = .string ⟨⟨s⟩⟩:=h1
  obtain rfl:x2 = .int .u8 c:=h2
  obtain ⟨l⟩:=xs
  obtain rfl:l=_:=e1
  refine fun _ _=>⟨m,w,_,Step.refl _ hR,rfl,.inl ?_⟩
  rw [x.run]
  have key:=jhF c.toNat.toUInt8 s s [] rfl
  have e4:List.range s.length=List.range' 0 s.length:=by rw [List.range_eq_range']
  simp only [List.length_nil] at key
  rw [jhE]
  simp only [Extern.Bytes.bytesOf,Extern.Bytes.asByte,zF,zH,zG]
  have e5:(ByteArray.mk ⟨s⟩).size=s.length:=rfl
  have e6:(fun i:Nat=>(ByteArray.mk ⟨s⟩)[i]! == c.toNat.toUInt8)=(fun i:Nat=>s[i]! == c.toNat.toUInt8):=by
   funext i
   have:(ByteArray.mk ⟨s⟩)[i]! = s[i]! := by
    by_cases hi:i<s.length
    ·rw [getElem!_pos (ByteArray.mk ⟨s⟩) i hi,getElem!_pos s i hi];rfl
    ·rw [getElem!_neg (ByteArray.mk ⟨s⟩) i hi,getElem!_neg s i hi]
   rw [this]
  rw [e5,e6,e4]
  generalize (List.range' 0 s.length).find? _=o at key ⊢
  cases o with
  | none=>simp only at key ⊢;rw [<- key];rfl
  | some i=>simp only at key ⊢;rw [<- key];rfl
 ·cases hr
theorem jbh.of {R:Prog} (h : ∀ q∈R.prims,jgJ q.2):jbh R:=by
 intro f p hp
 exact h (f,p) (jbM hp)
theorem jbg.of {P:Program} {C:Cx} {R:Prog} (h : ∀ q∈R.prims,jby P C q.1 q.2):jbg P C R:=by
 intro f p hp
 exact h (f,p) (jbM hp)
end Am
