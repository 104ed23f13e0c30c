/- 'DpollForgets': for every input the call returns true, and the input reads as it did. No condition. -/
import Derived.Test.YtfjmannliblijaaGreatRows
import Derived.ProofKit
import Derived.Test.YtfjmannliblijaaGreatG22
import Derived.Test.YtfjmannliblijaaGreatG23
import Derived.Test.YtfjmannliblijaaGreatG25
set_option maxHeartbeats 8000000
set_option linter.all false
namespace Go.Proofs.YtfjmannliblijaaGreat
open Go.ChangeShapes Go.WideShapes Go.ChangeAt Go.RowKit
theorem jfg:Am.jkn Tryz.prog Am.Sigs.cx.T=true:=by kernel_rfl
theorem jgf:(Am.Sigs.prog.fns.all fun p=>Am.fnM Tryz.prog Am.Sigs.cx p.1 p.2)=true:=by kernel_rfl
set_option maxRecDepth 100000 in
theorem jgU:Am.ProgOk Tryz.prog Am.Sigs.cx Am.Sigs.prog := {
 types:=Am.TOk.of_check jfg,
 mixed:=Tryz.checked.mixed,
 fns:=fun f a h=>List.all_eq_true.1 jgf _ (Am.jdZ h),
 primF:=Am.Sigs.primsF,
 primOk:=Am.Sigs.primsOk }
theorem jge:ownKnob Tryz.prog.godebug=none:=by kernel_rfl
theorem jbD:laidOutB Tryz.prog=true:=by kernel_rfl
theorem jgV:Am.Sigs.cx.gl=[]:=rfl
noncomputable def jaN:Am.Rd Tryz.prog 3 Int:=Am.Rd.int .i64 (t:=3) Tryz.underlying3 (by kernel_rfl)
noncomputable def jfB:Am.Rd Tryz.prog 31 Int:=Am.Rd.int .u64 (t:=31) Tryz.underlying31 (by kernel_rfl)
noncomputable def jdA:Am.Rd Tryz.prog 5 Int:=Am.Rd.int .u8 (t:=5) Tryz.underlying5 (by kernel_rfl)
noncomputable def je8:Am.Rd Tryz.prog 32 (List Int):=Am.Rd.slice 300 jdA (t:=32) Tryz.underlying32 (by kernel_rfl) (by decide)
noncomputable def jes:Am.Rd Tryz.prog 34 (Int × (Int × (Int × (Int × ((List Int) × Unit))))):=Am.Rd.st (t:=34) Tryz.underlying34 (Am.RdF.cons jaN rfl (Am.RdF.cons jaN rfl (Am.RdF.cons jaN rfl (Am.RdF.cons jfB rfl (Am.RdF.cons je8 rfl Am.RdF.nil))))) (by kernel_rfl)
noncomputable def jcI:Am.Rd Tryz.prog 22 (List (Int × (Int × (Int × (Int × ((List Int) × Unit)))))):=Am.Rd.slice 200 jes (t:=22) Tryz.underlying22 (by kernel_rfl) (by decide)
set_option maxRecDepth 100000 in
theorem je9 (os:Os) (started:os.Started) (H:Type) (enc:TypeId × Value->H) :
  ReturnsInHanded {} Tryz.checked os 4 .any (Rows.dpollForgetsSpec.pre6 enc Tryz.prog Tryz.f4 Rows.dpollForgetsRow.domain false) (Rows.dpollForgetsSpec.post enc Tryz.prog Tryz.f4 false true false false):=by
 refine returnsInHanded_of_change (C:=Tryz.checked) jge started (by kernel_rfl) Tryz.func4
  (ChangeSpec.witness6 (enc:=enc) (C:=Tryz.checked) false ⟨#[],#[.slice none 0 0,.int .i64 0,.int .i64 0,.int .u8 0],[]⟩ 8 (by kernel_rfl) (by kernel_rfl) (by kernel_rfl) (by kernel_rfl)) ?_
 intro W base args ds gs before hval0 hW hcnd _
 have hval : ∀ (j:Nat) t v,Tryz.f4.params[j]?=some t->args[j]?=some v->Value.okWide Tryz.prog W .any base t v:=hval0
 have hW':=hW
 obtain ⟨p,q,hA0,hV,rfl,hfz,hnd⟩:=hW
 have hA:DataW.TrodAll enc Tryz.prog W 0 (fun _=>true) true Tryz.f4.params.toList args.toList ds p:=hA0
 rw [Tryz.params4] at hA hval
 obtain ⟨v0,vs0,d0,ds0,p0,q0,ha,rfl,rfl,h0,hA1⟩:=Am.jfl hA
 obtain ⟨v1,vs1,d1,ds1,p1,q1,rfl,rfl,rfl,h1,hA2⟩:=Am.jfl hA1
 obtain ⟨v2,vs2,d2,ds2,p2,q2,rfl,rfl,rfl,h2,hA3⟩:=Am.jfl hA2
 obtain ⟨v3,vs3,d3,ds3,p3,q3,rfl,rfl,rfl,h3,hA4⟩:=Am.jfl hA3
 obtain ⟨rfl,rfl,rfl⟩:=Am.args_nil hA4
 obtain rfl:args = #[v0,v1,v2,v3]:=by cases args;simp_all
 obtain ⟨rfl,rfl⟩:=trodVars_none hV
 have hlt:=hW'.lt
 have r0:=Am.ro0 (P:=Tryz.prog) (C:=Am.Sigs.cx) (W:=W) 0
 have r0':=r0
 obtain ⟨x0,u0,m1,e1,r1,w0,n0,k0,y0⟩:=jcI.arg rfl r0' (Am.jkc Tryz.underlying22 (hval 0 22 v0 rfl rfl)) h0
 obtain ⟨x1,u1,m2,e2,r2,w1,n1,k1,y1⟩:=jaN.arg rfl r1 (Am.jhc Tryz.underlying3 (hval 1 3 v1 rfl rfl)) h1
 obtain ⟨x2,u2,m3,e3,r3,w2,n2,k2,y2⟩:=jaN.arg rfl r2 (Am.jhc Tryz.underlying3 (hval 2 3 v2 rfl rfl)) h2
 obtain ⟨x3,u3,m4,e4,r4,w3,n3,k3,y3⟩:=jdA.arg rfl r3 (Am.jhc Tryz.underlying5 (hval 3 5 v3 rfl rfl)) h3
 have hnx:e4.nx=201:=by rw [n3,n2,n1,n0];rfl
 obtain ⟨h',hr⟩:=Am.Sigs.jgW (cl:=Am.jbE Am.Sigs.prog Am.Sigs.fuel) (fun _=>rfl) hnx (fun b hb=>r4.wf b (by rw [hnx];exact hb)) (jcI.keep ((w1.trans w2).trans w3).nx ((w1.trans w2).trans w3).get k0) (jaN.keep (w2.trans w3).nx (w2.trans w3).get k1) (jaN.keep w3.nx w3.get k2) k3
 refine (Am.call_fn (n:=30) (xs := #[v0,v1,v2,v3]) (a:=Am.Sigs.c4) jgU (by rfl) (by rfl) hr r4.rel (fun g hg=>by rw [jgV] at hg;cases hg) ⟨_,_,rfl,(y0.mono ((w1.trans w2).trans w3).mono),⟨_,_,rfl,(y1.mono (w2.trans w3).mono),⟨_,_,rfl,(y2.mono w3.mono),⟨_,_,rfl,y3,rfl⟩⟩⟩⟩).calls fun m' w' x hs hx=>?_
 obtain rfl:x = .bool true:=hx
 exact ⟨_,rfl,Am.post1 hs r4.noOwned hW' (fun _ _ _=>trodAll_mk1 (shut_bool (t:=4) (by kernel_rfl) true))
  (Am.ji0 (Below.trod jbD (by kernel_rfl) (of_decide_eq_true (by kernel_rfl)) h0 (Am.jfi hs r4.noOwned) (fun x hx=>hlt x (by simp [hx]))) (Am.ji0 (Below.trod jbD (by kernel_rfl) (of_decide_eq_true (by kernel_rfl)) h1 (Am.jfi hs r4.noOwned) (fun x hx=>hlt x (by simp [hx]))) (Am.ji0 (Below.trod jbD (by kernel_rfl) (of_decide_eq_true (by kernel_rfl)) h2 (Am.jfi hs r4.noOwned) (fun x hx=>hlt x (by simp [hx]))) (Am.ji0 (Below.trod jbD (by kernel_rfl) (of_decide_eq_true (by kernel_rfl)) h3 (Am.jfi hs r4.noOwned) (fun x hx=>hlt x (by simp [hx]))) trodAll_mk0)))) rfl⟩
theorem dpollForgets_holds:Rows.DpollForgetsSaid :=
 OpenClaim.holds_of_wide 4 Tryz.f4 rfl rfl rfl rfl rfl rfl rfl ⟨rfl,rfl,rfl,rfl,rfl⟩ rfl rfl rfl rfl rfl (by kernel_rfl) Tryz.func4 (by kernel_rfl)
  (of_decide_eq_true (by kernel_rfl)) (by unfold Func.isWrapper;first | (rw [if_pos (by decide +kernel)];kernel_rfl) | (rw [if_neg (by decide +kernel)];exact ⟨rfl,rfl⟩))
  (fun os started H enc _=>je9 os started H enc)
end Go.Proofs.YtfjmannliblijaaGreat
