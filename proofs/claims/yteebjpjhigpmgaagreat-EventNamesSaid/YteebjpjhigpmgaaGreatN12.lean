/- Our own library, part 12. -/
import Derived.Laws.Externs
import Derived.Test.YteebjpjhigpmgaaGreatN10
set_option maxHeartbeats 8000000
set_option maxRecDepth 800
set_option linter.all false
namespace Am
open Go
structure Ext1 (P:Program) (f:FuncId) (e:Array Value->Sem Value):Prop where
 out : ∃ fn,P.funcs[f]?=some fn/\(fn.name == "runtime.NumGoroutine")=false/\fn.body.isNone=true/\Extern.findNext fn=none/\Extern.find fn=some e
theorem Ext1.run {P:Program} {f:FuncId} {e:Array Value->Sem Value} (x:Ext1 P f e) (args:Array Value) (w:World):(callFunc f args).run P w=((e args).run P w).andThen fun v w'=>.ok (.value v) w':=by
 obtain ⟨fn,h1,h2,h3,h4,h5⟩:=x
 exact run_callFunc_extern h1 h2 h3 h4 h5 args w
def jfy (P:Program) (C:Cx) (f:FuncId) (p:Prim):Prop := ∀ args h v h',p args h=some (v,h') -> ∀ m w (xs:Array Value),HRel P C m h w->GOk C m->jae m args xs.toList ->
  ∀ c cs,∃ m' w' x,Step P C h.nx m h w m' h' w'/\VRel m' v x/\Does P m c cs (.fn f) xs w w' x
def jfL (p:Prim):Prop := ∀ args h v h',p args h=some (v,h')->h.nx<=h'.nx /\ ∀ X h2,Ext X h h2 -> ∃ h2',p args h2=some (v,h2')/\Ext X h' h2'
end Am
