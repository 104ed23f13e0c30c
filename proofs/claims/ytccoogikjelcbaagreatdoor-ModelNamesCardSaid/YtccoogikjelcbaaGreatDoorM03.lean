/- Our own library, part 3. -/
import Derived.Laws.StructEq
import Derived.Calls
import Derived.Test.YtccoogikjelcbaaGreatDoorM02
set_option maxHeartbeats 8000000
set_option maxRecDepth 800
set_option linter.all false
abbrev zI:=@Go.run_underlying
abbrev zG:=@Go.Result.andThen_ok
abbrev zF:=@Go.Sem.run_bind
namespace Am
open Go
def evT (t:Array Value):Operand->Value
 | .tmp s=>t.getD s undef
 | .const v=>v
 | .global g=>.pointer (some ⟨g,0,none⟩)
 | .func f=>.func (.func f) #[] #[]
def TOk (P:Program) (C:Cx):Prop := ∀ t i,C.T.at_ t=some i->jiz P t i=true
def GOk (C:Cx) (m:Mp):Prop := ∀ g,C.gl.any (Nat.beq g)=true -> ∃ l,m g=some l/\l.β = g/\l.d=0
theorem GOk.mono {C:Cx} {m m':Mp} (hm:Mono m m') (h:GOk C m):GOk C m' :=
 fun g hg=>let ⟨l,h1,h2⟩:=h g hg;⟨l,hm _ _ h1,h2⟩
theorem jbM {α : Type} : ∀ {l:List (Nat × α)} {k:Nat} {v : α},jaL l k=some v->(k,v)∈l
 | [],_,_,h=>by simp [jaL] at h
 | (a,b) :: r,k,v,h=>by
  simp only [jaL,nbeq,jbX] at h
  split at h
  ·next e=>subst e;cases h;exact zh ..
  ·exact zj _ (jbM h)
theorem TOk.of_check {P:Program} {C:Cx} (h:jfN P C.T=true):TOk P C:=by
 intro t i e
 have:=zC.1 h _ (jbM e)
 exact this
structure Facts (P:Program) (t:TypeId) (i:TI) (info:TypeInfo) (d:TypeDesc):Prop where
 hinfo:P.info? t=some info
 und:P.underlying t=some d
 ud:jaf i.u d=true
 size:info.size=i.size
 bytes:info.bytes=i.bytes
 zero : ∀ z,i.zero=some z -> ∃ zv,info.zero=some zv/\jau z zv=true/\z.cells.length=info.size
 eqs:i.eqs=true->P.stoodInHeld t=false/\P.eqGuardType P.depth t=false
theorem TOk.facts {P:Program} {C:Cx} (hT:TOk P C) {t:TypeId} {i:TI} (h:C.T.at_ t=some i) : ∃ info d,Facts P t i info d:=by
 have hc:=hT t i h
 unfold jiz at hc
 split at hc
 ·next info d e1 e2=>
  simp only [zm,nbeq,zq,Bool.or_eq_true,Bool.not_eq_true'] at hc
  obtain ⟨⟨⟨⟨h1,h2⟩,h3⟩,h4⟩,h5⟩:=hc
  refine ⟨info,d,e1,e2,h1,h2.symm,h3.symm,?_,?_⟩
  ·intro z hz
   rw [hz] at h4
   split at h4
   ·next heq=>cases heq
   ·next z' zv hz' hzv=>cases hz';simp at h4;exact ⟨zv,hzv,h4.1,h4.2⟩
   ·cases h4
  ·intro he;rw [he] at h5;simpa using h5
 ·cases hc
section
variable {P:Program} {C:Cx} (hT:TOk P C)
include hT
theorem jam {t:TypeId} {n:Nat} (h:jaz C t n=true) (w:World):(Go.sizeOf t).run P w = .ok n w:=by
 unfold jaz at h
 split at h
 ·next i e=>
  obtain ⟨info,d,F⟩:=hT.facts e
  have hn:=jb7.1 h
  simp [Go.sizeOf,typeInfo,F.hinfo,F.size,hn]
 ·cases h
theorem jey {t:TypeId} {n:Nat} (h:jez C t n=true) : ∃ info,P.info? t=some info/\info.bytes=n:=by
 unfold jez at h
 split at h
 ·next i e=>obtain ⟨info,d,F⟩:=hT.facts e;exact ⟨info,F.hinfo,F.bytes.trans (jb7.1 h)⟩
 ·cases h
theorem ja5 {t:TypeId} {f:UD->Bool} (h:isU C t f=true) : ∃ u d,f u=true/\P.underlying t=some d/\jaf u d=true:=by
 unfold isU at h
 split at h
 ·next i e=>obtain ⟨info,d,F⟩:=hT.facts e;exact ⟨i.u,d,h,F.und,F.ud⟩
 ·cases h
theorem ja6 {t:TypeId} {i:TI} (e:C.T.at_ t=some i) (w:World):(isAgg t).run P w = .ok (jbF i.u) w:=by
 obtain ⟨info,d,F⟩:=hT.facts e
 have hu:=F.ud
 simp only [isAgg,zF,zI F.und,zG]
 cases hi:i.u<;>rw [hi] at hu<;>cases d<;>simp_all [jaf,jbF]
theorem jda {t:TypeId} (h:jc3 C t none=true) (w:World):(isAgg t).run P w = .ok false w:=by
 unfold jc3 at h
 split at h
 ·next i e=>rw [ja6 hT e];simp at h;rw [h]
 ·cases h
theorem jcZ {t:TypeId} {n:Nat} (h:jc3 C t (some n)=true) (w:World):(isAgg t).run P w = .ok true w/\(Go.sizeOf t).run P w = .ok n w:=by
 unfold jc3 at h
 split at h
 ·next i e=>
  simp only [zm] at h
  refine ⟨by rw [ja6 hT e,h.1],?_⟩
  exact jam hT (by unfold jaz;rw [e];exact h.2) w
 ·cases h
theorem zeroM_run {t:TypeId} {z:V} (h:jmx C t z=true) (m:Mp) : ∃ zv,(∀ w,(zeroValue t).run P w = .ok zv w)/\VRel m z zv:=by
 unfold jmx at h
 split at h
 ·next i e=>
  split at h
  ·next y ey=>
   obtain ⟨info,d,F⟩:=hT.facts e
   obtain ⟨zv,h1,h2,_⟩:=F.zero y ey
   rw [<- V.same_eq h]
   exact ⟨zv,fun w=>by simp [zeroValue,typeInfo,F.hinfo,h1],jbj m h2⟩
  ·cases h
 ·cases h
theorem jbN {t:TypeId} {z:List V} (h:jb1 C t z=true) (m:Mp) : ∃ zv,(∀ w,(zeroValue t).run P w = .ok zv w)/\jah m z zv.cells.toList:=by
 unfold jb1 at h
 split at h
 ·next i e=>
  split at h
  ·next y ey=>
   obtain ⟨info,d,F⟩:=hT.facts e
   obtain ⟨zv,h1,h2,_⟩:=F.zero y ey
   rw [<- V.sames_eq h]
   exact ⟨zv,fun w=>by simp [zeroValue,typeInfo,F.hinfo,h1],(jbj m h2).cells⟩
  ·cases h
 ·cases h
end
theorem ERel.getD {m:Mp} {e:Env} {t:Array Value} (he:ERel m e t) {s:Nat} {v:V} (h:e.get s=some v):VRel m v (t.getD s undef):=by
 obtain ⟨x,h1,h2⟩:=he s v h
 have:t.getD s undef=x:=by
  rw [Array.getD_eq_getD_getElem?,h1];rfl
 rw [this];exact h2
theorem jab {C:Cx} {m:Mp} {e:Env} {t:Array Value} (hG:GOk C m) (he:ERel m e t) {x:Opd} {y:Operand} {v:V} (hM:opdM C x y=true) (hx:x.ev e=some v) :
  VRel m v (evT t y):=by
 cases x with
 | t s=>
  cases y with
  | tmp s'=>
   simp only [opdM] at hM
   have:=jb7.1 hM
   subst this
   exact he.getD hx
  | _=>simp [opdM] at hM
 | c u=>
  simp only [Opd.ev,Option.some.injEq] at hx
  subst hx
  cases y with
  | tmp s'=>unfold opdM at hM;split at hM<;>simp_all
  | const z=>
   have:jau u z=true:=by unfold opdM at hM;split at hM<;>simp_all
   exact jbj m this
  | global g=>
   have : ∃ b o,u = .ptr (some (b,o))/\b=g/\o=0/\C.gl.any (Nat.beq g)=true:=by
    unfold opdM at hM
    split at hM
    ·next h1 h2=>cases h2
    ·next b o g' h1 h2=>
     cases h1;cases h2
     simp only [zm,nbeq,zq] at hM
     exact ⟨b,o,rfl,hM.1.1,hM.1.2,hM.2⟩
    ·next h1 h2=>cases h2
    ·next h1 h2=>cases h2
    ·cases hM
   obtain ⟨b,o,rfl,rfl,rfl,hg⟩:=this
   obtain ⟨l,h1,h2,h3⟩:=hG _ hg
   exact ⟨l,h1,by simp [evT,h2,h3]⟩
  | func f=>
   have:u = .clo f []:=by
    unfold opdM at hM
    split at hM
    ·next h1 h2=>cases h2
    ·next h1 h2=>cases h2
    ·next f' g h1 h2=>cases h1;cases h2;rw [jb7.1 hM]
    ·next h1 h2=>cases h2
    ·cases hM
   subst this
   exact ⟨#[],rfl,rfl⟩
theorem jbL {C:Cx} {m:Mp} {e:Env} {t:Array Value} (hG:GOk C m) (he:ERel m e t) : ∀ {xs:List Opd} {ys:List Operand} {vs:List V},ja1 C xs ys=true->evs e xs=some vs ->
  jah m vs (ys.map (evT t))
 | [],ys,vs,hM,hx=>by
  cases ys with
  | nil=>simp [evs] at hx;subst hx;rfl
  | cons _ _=>simp [ja1] at hM
 | x :: xs,ys,vs,hM,hx=>by
  cases ys with
  | nil=>simp [ja1] at hM
  | cons y ys=>
   simp only [ja1,zm] at hM
   simp only [evs] at hx
   split at hx
   ·next v l h1 h2=>
    cases hx
    exact ⟨_,_,rfl,jab hG he hM.1 h1,jbL hG he hM.2 h2⟩
   ·cases hx
theorem jkG {C:Cx} {m:Mp} {e:Env} {t:Array Value} (hG:GOk C m) (he:ERel m e t) {x:Option Opd} {y:Option Operand} {v:Option V} (hM:opdO C x y=true) (hx:evo e x=some v) :
  (v=none/\y.map (evT t)=none) \/ ∃ u z,v=some u/\y.map (evT t)=some z/\VRel m u z:=by
 cases x with
 | none=>
  cases y with
  | none=>simp [evo] at hx;subst hx;exact .inl ⟨rfl,rfl⟩
  | some _=>simp [opdO] at hM
 | some a=>
  cases y with
  | none=>simp [opdO] at hM
  | some b=>
   simp only [opdO] at hM
   simp only [evo] at hx
   split at hx
   ·next u hu=>cases hx;exact .inr ⟨u,_,rfl,rfl,jab hG he hM hu⟩
   ·cases hx
end Am
