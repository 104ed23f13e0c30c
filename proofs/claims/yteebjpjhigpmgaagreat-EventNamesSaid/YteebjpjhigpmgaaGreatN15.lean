/- Our own library, part 15. -/
import Derived.KernelRfl
import Derived.Test.YteebjpjhigpmgaaGreatN11
import Derived.Test.YteebjpjhigpmgaaGreatN10
import Derived.Test.YteebjpjhigpmgaaGreatN14
set_option maxHeartbeats 8000000
set_option maxRecDepth 800
set_option linter.all false
namespace Am.Sigs
open Am Go
abbrev fuel:Nat:=100000
def Sem (cl:Nat->Call):Prop:=(∀ d,cl d=jau prog fuel d) \/ ∀ d,cl d=jau jba fuel d
theorem primT {f:Nat} (h:jaJ prog.prims f=none):jaJ jba.prims f=none:=by
 unfold prog at h
 simp only [jaJ] at h
 revert h
 generalize Nat.beq _ f=b
 cases b with
 | true=>intro h;cases h
 | false=>exact fun h=>h
theorem at_ {cl:Nat->Call} (hcl:Sem cl) {d f:Nat} {fn:AFn} {args:List V} {h:H} {R:V->H->Prop} (hd:0<d) (hp:jaJ prog.prims f=none) (hf:jaJ prog.fns f=some fn) (hl:(args.length == fn.np)=true)
  (k:Run (cl (d-1)) fuel fn.body [] (Env.ofArgs args 0) h (Fin fn.res R)) : ∃ v h',cl d (.fn f) args h=some (v,h')/\R v h':=by
 rcases hcl with hcl | hcl
 ·rw [hcl d];rw [hcl (d-1)] at k;exact jew hd hp hf hl k
 ·rw [hcl d];rw [hcl (d-1)] at k;exact jew hd (primT hp) hf hl k
theorem aT {cl:Nat->Call} (hcl:Sem cl) {d f:Nat} {fn:AFn} {args:List V} {h:H} {R:V->H->Prop} (k:Run (cl (d-1)) fuel fn.body [] (Env.ofArgs args 0) h (Fin fn.res R)) (hd:0<d:=by omega) (hp:jaJ prog.prims f=none:=by exact rfl) (hf:jaJ prog.fns f=some fn:=by exact rfl) (hl:(args.length==fn.np)=true:=by exact rfl):∃ v h',cl d (.fn f) args h=some (v,h') /\ R v h':=at_ hcl hd hp hf hl k
theorem same_in {cl:Nat->Call} (hcl : ∀ d,cl d=jau prog fuel d) {d:Nat} {t:Tgt} {args:List V} {h h' h2:H} {v:V} {X:Nat->Option Obj} (hr:jau prog fuel d t args h=some (v,h')) (x:Ext X h h2) : ∃ h2',cl d t args h2=some (v,h2')/\Ext X h' h2':=by
 rw [hcl d];exact (jbZ primsF fuel d).1 _ _ _ _ _ hr _ _ x
theorem ext_all {h:H} (hwf : ∀ j,h.nx<=j->h.get j=none):Ext h.get ⟨h.nx,.lf⟩ h :=
 ⟨rfl,fun j=>by simp [H.get,T.get],fun j hj=>⟨by
  rcases zr j h.nx with h1 | h1
  ·exact h1
  ·exact zq (hwf j h1) hj,rfl⟩⟩
def ran (r:Option (V × H)) (p:V->H->Bool):Bool:=match r with
 | some (v,h')=>p v h'
 | none=>false
theorem ran_ex {r:Option (V × H)} {p:V->H->Bool} (hr:ran r p=true) : ∃ v h',r=some (v,h')/\p v h'=true:=by
 cases r with
 | none=>cases hr
 | some x=>exact ⟨x.1,x.2,rfl,hr⟩
def jfn:V->Bool
 | .bool b=>b
 | _=>false
theorem isTrue_eq {v:V} (h:jfn v=true):v = .bool true:=by
 cases v<;>simp_all [jfn]
def isS:Option Obj->Nat
 | some _=>1
 | none=>0
def up:Nat->Nat
 | 0=>0
 | n+1=>2*n+3
set_option maxRecDepth 100000 in
theorem namesE:ran (jau prog fuel 60 (.fn 3) [] ⟨0,.lf⟩) (fun v _=>jfn v)=true:=by kernel_rfl
theorem jdn {cl:Nat->Call} (hcl : ∀ d,cl d=jau prog fuel d) {h0:H} (hnx:h0.nx=0) (hwf : ∀ b,0<=b->h0.get b=none) :
  ∃ h',cl 60 (.fn 3) [] h0=some (.bool true,h'):=by
 obtain ⟨v,e,r,p⟩:=ran_ex namesE
 obtain rfl:=isTrue_eq p
 have hX:Ext h0.get ⟨0,.lf⟩ h0:=by have:=ext_all (h:=h0) (by rw [hnx];exact hwf);rwa [hnx] at this
 obtain ⟨h',q,_⟩:=same_in hcl r hX
 exact ⟨h',q⟩
end Am.Sigs
