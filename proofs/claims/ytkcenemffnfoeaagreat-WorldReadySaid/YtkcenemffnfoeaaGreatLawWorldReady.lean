/- 'WorldReady': for every input the call returns true, and the input reads as it did. No condition. -/
import Derived.Test.YtkcenemffnfoeaaGreatRows
import Derived.Test.YtkcenemffnfoeaaGreatK25
import Derived.Test.YtkcenemffnfoeaaGreatK22
set_option maxHeartbeats 8000000
set_option linter.all false
namespace Go.Proofs.YtkcenemffnfoeaaGreat
open Go.ChangeShapes Go.WideShapes Go.ChangeAt Go.RowKit
theorem jgg:Am.jic Tryz.prog Am.Sigs.cx.T=true:=by kernel_rfl
theorem jhw:(Am.Sigs.prog.fns.all fun p=>Am.fnM Tryz.prog Am.Sigs.cx p.1 p.2)=true:=by kernel_rfl
set_option maxRecDepth 100000 in
theorem jhZ:Am.ProgOk Tryz.prog Am.Sigs.cx Am.Sigs.prog where
 types:=Am.TOk.of_check jgg
 mixed:=Tryz.checked.mixed
 fns:=fun f a h=>List.all_eq_true.1 jhw _ (Am.jfr h)
 primF:=fun f p h=>by cases h
 primOk:=fun f p h=>by cases h
theorem jhv:ownKnob Tryz.prog.godebug=none:=by kernel_rfl
theorem jg9:laidOutB Tryz.prog=true:=by kernel_rfl
theorem jia:Am.Sigs.cx.gl=[]:=rfl
noncomputable def jcW:Am.Rd Tryz.prog 3 Int:=Am.Rd.int .i64 (t:=3) Tryz.underlying3 (by kernel_rfl)
noncomputable def jg8:Am.Rd Tryz.prog 27 Int:=Am.Rd.int .u64 (t:=27) Tryz.underlying27 (by kernel_rfl)
noncomputable def jhu:Am.Rd Tryz.prog 5 Int:=Am.Rd.int .u8 (t:=5) Tryz.underlying5 (by kernel_rfl)
noncomputable def jf0:Am.Rd Tryz.prog 39 (List Int):=Am.Rd.slice 300 jhu (t:=39) Tryz.underlying39 (by kernel_rfl) (by decide)
noncomputable def jeO:Am.Rd Tryz.prog 41 (Int × (Int × (Int × (Int × ((List Int) × Unit))))):=Am.Rd.st (t:=41) Tryz.underlying41 (Am.RdF.cons jcW rfl (Am.RdF.cons jcW rfl (Am.RdF.cons jcW rfl (Am.RdF.cons jg8 rfl (Am.RdF.cons jf0 rfl Am.RdF.nil))))) (by kernel_rfl)
noncomputable def jf1:Am.Rd Tryz.prog 22 (List (Int × (Int × (Int × (Int × ((List Int) × Unit)))))):=Am.Rd.slice 200 jeO (t:=22) Tryz.underlying22 (by kernel_rfl) (by decide)
set_option maxRecDepth 100000 in
theorem jf2 (os:Os) (started:os.Started) (H:Type) (enc:TypeId × Value->H) :
  ReturnsInHanded {} Tryz.checked os 3 .any (Rows.worldReadySpec.pre6 enc Tryz.prog Tryz.f3 Rows.worldReadyRow.domain false) (Rows.worldReadySpec.post enc Tryz.prog Tryz.f3 false true false false):=by
 refine returnsInHanded_of_change (C:=Tryz.checked) jhv started (by kernel_rfl) Tryz.func3
  (ChangeSpec.witness6 (enc:=enc) (C:=Tryz.checked) false ⟨#[],#[.slice none 0 0],[]⟩ 8 (by kernel_rfl) (by kernel_rfl) (by kernel_rfl) (by kernel_rfl)) ?_
 intro W base args ds gs before hval0 hW hcnd _
 have hval : ∀ (j:Nat) t v,Tryz.f3.params[j]?=some t->args[j]?=some v->Value.okWide Tryz.prog W .any base t v:=hval0
 have hW':=hW
 obtain ⟨p,q,hA0,hV,rfl,hfz,hnd⟩:=hW
 have hA:DataW.TrodAll enc Tryz.prog W 0 (fun _=>true) true Tryz.f3.params.toList args.toList ds p:=hA0
 rw [Tryz.params3] at hA hval
 obtain ⟨v0,vs0,d0,ds0,p0,q0,ha,rfl,rfl,h0,hA1⟩:=Am.jfs hA
 obtain ⟨rfl,rfl,rfl⟩:=Am.jl0 hA1
 obtain rfl:args = #[v0]:=by cases args;simp_all
 obtain ⟨rfl,rfl⟩:=trodVars_none hV
 have hlt:=hW'.lt
 have r0:=Am.ro0 (P:=Tryz.prog) (C:=Am.Sigs.cx) (W:=W) 0
 have r0':=r0
 obtain ⟨x0,u0,m1,e1,r1,w0,n0,k0,y0⟩:=jf1.arg rfl r0' (Am.jd8 Tryz.underlying22 (hval 0 22 v0 rfl rfl)) h0
 have hnx:e1.nx=201:=by rw [n0];rfl
 obtain ⟨h',hr⟩:=Am.Sigs.jib (cl:=Am.jbE Am.Sigs.prog Am.Sigs.fuel) (fun _=>rfl) hnx (fun b hb=>r1.wf b (by rw [hnx];exact hb)) k0
 refine (Am.jnl (n:=30) (xs := #[v0]) (a:=Am.Sigs.c3) jhZ (by rfl) (by rfl) hr r1.rel (fun g hg=>by rw [jia] at hg;cases hg) ⟨_,_,rfl,y0,rfl⟩).calls fun m' w' x hs hx=>?_
 obtain rfl:x = .bool true:=hx
 exact ⟨_,rfl,Am.jog hs r1.noOwned hW' (fun _ _ _=>trodAll_mk1 (shut_bool (t:=4) (by kernel_rfl) true))
  (Am.jiS (Below.trod jg9 (by kernel_rfl) (of_decide_eq_true (by kernel_rfl)) h0 (Am.jfq hs r1.noOwned) (fun x hx=>hlt x (by simp [hx]))) trodAll_mk0) rfl⟩
theorem worldReady_holds:Rows.WorldReadySaid :=
 OpenClaim.holds_of_wide 3 Tryz.f3 rfl rfl rfl rfl rfl rfl rfl ⟨rfl,rfl,rfl,rfl,rfl⟩ rfl rfl rfl rfl rfl (by kernel_rfl) Tryz.func3 (by kernel_rfl)
  (of_decide_eq_true (by kernel_rfl)) (by unfold Func.isWrapper;first | (rw [if_pos (by decide +kernel)];kernel_rfl) | (rw [if_neg (by decide +kernel)];exact ⟨rfl,rfl⟩))
  (fun os started H enc _=>jf2 os started H enc)
end Go.Proofs.YtkcenemffnfoeaaGreat
