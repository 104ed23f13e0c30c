/- 'DqueueNames': for every input the call returns true, and the input reads as it did. No condition. -/
import Derived.Test.YtkhkjhojpoandaaGreatRows
import Derived.ProofKit
import Derived.Test.YtkhkjhojpoandaaGreatR14
import Derived.Test.YtkhkjhojpoandaaGreatR15
import Derived.Test.YtkhkjhojpoandaaGreatR20
import Derived.Test.YtkhkjhojpoandaaGreatR22
set_option maxHeartbeats 8000000
set_option maxRecDepth 800
set_option linter.all false
namespace Go.Proofs.YtkhkjhojpoandaaGreat
open Go.ChangeShapes Go.WideShapes Go.ChangeAt Go.RowKit
theorem jcz:Am.jdY Tryz.prog Am.Sigs.cx.T=true:=by kernel_rfl
theorem jds:(Am.Sigs.prog.fns.all fun p=>Am.fnM Tryz.prog Am.Sigs.cx p.1 p.2)=true:=by kernel_rfl
set_option maxRecDepth 100000 in
theorem jd6:Am.ProgOk Tryz.prog Am.Sigs.cx Am.Sigs.prog := {
 types:=Am.TOk.of_check jcz,
 mixed:=Tryz.checked.mixed,
 fns:=fun _ _ h=>List.all_eq_true.1 jds _ (Am.jbo h),
 primF:=Am.Sigs.primsF,
 primOk:=Am.Sigs.primsOk }
theorem jdr:ownKnob Tryz.prog.godebug=none:=by kernel_rfl
theorem jd7:Am.Sigs.cx.gl=[]:=rfl
set_option maxRecDepth 100000 in
theorem jce (os:Os) (started:os.Started) (H:Type) (enc:TypeId × Value->H) :
  ReturnsInHanded {} Tryz.checked os 3 .any (Rows.dqueueNamesSpec.pre6 enc Tryz.prog Tryz.f3 Rows.dqueueNamesRow.domain false) (Rows.dqueueNamesSpec.post enc Tryz.prog Tryz.f3 false true false false):=by
 refine returnsInHanded_of_change (C:=Tryz.checked) jdr started (by kernel_rfl) Tryz.func3
  (ChangeSpec.witness6 (enc:=enc) (C:=Tryz.checked) false ⟨#[],#[],[]⟩ 8 (by kernel_rfl) (by kernel_rfl) (by kernel_rfl) (by kernel_rfl)) ?_
 intro W base args ds gs before hval0 hW hcnd _
 have hval : ∀ (j:Nat) t v,Tryz.f3.params[j]?=some t->args[j]?=some v->Value.okWide Tryz.prog W .any base t v:=hval0
 have hW':=hW
 obtain ⟨p,q,hA0,hV,rfl,hfz,hnd⟩:=hW
 have hA:DataW.TrodAll enc Tryz.prog W 0 (fun _=>true) true Tryz.f3.params.toList args.toList ds p:=hA0
 rw [Tryz.params3] at hA hval
 obtain ⟨ha,rfl,rfl⟩:=Am.args_nil hA
 obtain rfl:args = #[]:=by cases args;simp_all
 obtain ⟨rfl,rfl⟩:=trodVars_none hV
 have hlt:=hW'.lt
 have r0:=Am.ro0 (P:=Tryz.prog) (C:=Am.Sigs.cx) (W:=W) 0
 have r0':=r0
 obtain ⟨m0,e0,r0,hnx,hG⟩ : ∃ m0 e0,Am.RoMem Tryz.prog Am.Sigs.cx m0 e0 W/\e0.nx=0/\Am.GOk Am.Sigs.cx m0:=by
  exact ⟨_,_,r0',rfl,fun g hg=>by rw [jd7] at hg;cases hg⟩
 obtain ⟨h',hr⟩:=Am.Sigs.jd8 (cl:=Am.jaw Am.Sigs.prog Am.Sigs.fuel) (fun _=>rfl) hnx (fun b hb=>r0.wf b (by rw [hnx];exact hb))
 refine (Am.jgc (n:=59) (xs := #[]) (a:=Am.Sigs.c3) jd6 (by rfl) (by rfl) hr r0.rel hG rfl).calls fun m' w' x hs hx=>?_
 obtain rfl:x = .bool true:=hx
 exact ⟨_,rfl,Am.post1 hs r0.noOwned hW' (fun _ _ _=>trodAll_mk1 (shut_bool (t:=4) (by kernel_rfl) true))
  trodAll_mk0 rfl⟩
theorem dqueueNames_holds:Rows.DqueueNamesSaid :=
 OpenClaim.holds_of_wide 3 Tryz.f3 rfl rfl rfl rfl rfl rfl rfl ⟨rfl,rfl,rfl,rfl,rfl⟩ rfl rfl rfl rfl rfl (by kernel_rfl) Tryz.func3 (by kernel_rfl)
  (of_decide_eq_true (by kernel_rfl)) (by unfold Func.isWrapper;first | (rw [if_pos (by decide +kernel)];kernel_rfl) | (rw [if_neg (by decide +kernel)];exact ⟨rfl,rfl⟩))
  (fun os started H enc _=>jce os started H enc)
end Go.Proofs.YtkhkjhojpoandaaGreat
