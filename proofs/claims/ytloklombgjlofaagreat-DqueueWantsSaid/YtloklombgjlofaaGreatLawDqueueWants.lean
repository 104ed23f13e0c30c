/- 'DqueueWants': for every input the call returns true, and the input reads as it did. No condition. -/
import Derived.Test.YtloklombgjlofaaGreatRows
import Derived.ProofKit
import Derived.Test.YtloklombgjlofaaGreatQ21
import Derived.Test.YtloklombgjlofaaGreatQ22
import Derived.Test.YtloklombgjlofaaGreatQ24
set_option maxHeartbeats 8000000
set_option maxRecDepth 800
set_option linter.all false
namespace Go.Proofs.YtloklombgjlofaaGreat
open Go.ChangeShapes Go.WideShapes Go.ChangeAt Go.RowKit
theorem jfC:Am.jkT Tryz.prog Am.Sigs.cx.T=true:=by kernel_rfl
theorem jgY:(Am.Sigs.prog.fns.all fun p=>Am.fnM Tryz.prog Am.Sigs.cx p.1 p.2)=true:=by kernel_rfl
set_option maxRecDepth 100000 in
theorem jhx:Am.ProgOk Tryz.prog Am.Sigs.cx Am.Sigs.prog := {
 types:=Am.TOk.of_check jfC,
 mixed:=Tryz.checked.mixed,
 fns:=fun f a h=>List.all_eq_true.1 jgY _ (Am.jdX h),
 primF:=Am.Sigs.primsF,
 primOk:=Am.Sigs.primsOk }
theorem jgX:ownKnob Tryz.prog.godebug=none:=by kernel_rfl
theorem jbM:laidOutB Tryz.prog=true:=by kernel_rfl
theorem jhy:Am.Sigs.cx.gl=[]:=rfl
noncomputable def jao:Am.Rd Tryz.prog 3 Int:=Am.Rd.int .i64 (t:=3) Tryz.underlying3 (by kernel_rfl)
noncomputable def jcK:Am.Rd Tryz.prog 23 (Int × (Int × Unit)):=Am.Rd.st (t:=23) Tryz.underlying23 (Am.RdF.cons jao rfl (Am.RdF.cons jao rfl Am.RdF.nil)) (by kernel_rfl)
noncomputable def jb1:Am.Rd Tryz.prog 26 Int:=Am.Rd.int .u64 (t:=26) Tryz.underlying26 (by kernel_rfl)
noncomputable def jcJ:Am.Rd Tryz.prog 5 Int:=Am.Rd.int .u8 (t:=5) Tryz.underlying5 (by kernel_rfl)
noncomputable def jfd:Am.Rd Tryz.prog 27 (List Int):=Am.Rd.slice 300 jcJ (t:=27) Tryz.underlying27 (by kernel_rfl) (by decide)
noncomputable def je9:Am.Rd Tryz.prog 29 (Int × (Int × (Int × (Int × ((List Int) × Unit))))):=Am.Rd.st (t:=29) Tryz.underlying29 (Am.RdF.cons jao rfl (Am.RdF.cons jao rfl (Am.RdF.cons jao rfl (Am.RdF.cons jb1 rfl (Am.RdF.cons jfd rfl Am.RdF.nil))))) (by kernel_rfl)
noncomputable def jcZ:Am.Rd Tryz.prog 24 (List (Int × (Int × (Int × (Int × ((List Int) × Unit)))))):=Am.Rd.slice 200 je9 (t:=24) Tryz.underlying24 (by kernel_rfl) (by decide)
noncomputable def jfc:Am.Rd Tryz.prog 27 (List Int):=Am.Rd.slice 300 jcJ (t:=27) Tryz.underlying27 (by kernel_rfl) (by decide)
noncomputable def je8:Am.Rd Tryz.prog 29 (Int × (Int × (Int × (Int × ((List Int) × Unit))))):=Am.Rd.st (t:=29) Tryz.underlying29 (Am.RdF.cons jao rfl (Am.RdF.cons jao rfl (Am.RdF.cons jao rfl (Am.RdF.cons jb1 rfl (Am.RdF.cons jfc rfl Am.RdF.nil))))) (by kernel_rfl)
noncomputable def jdT:Am.Rd Tryz.prog 4 Bool:=Am.Rd.bool (t:=4) Tryz.underlying4 (by kernel_rfl)
noncomputable def jes:Am.Rd Tryz.prog 31 (Int × ((Int × (Int × (Int × (Int × ((List Int) × Unit))))) × (Int × (Int × (Int × (Bool × Unit)))))):=Am.Rd.st (t:=31) Tryz.underlying31 (Am.RdF.cons jao rfl (Am.RdF.cons je8 rfl (Am.RdF.cons jao rfl (Am.RdF.cons jao rfl (Am.RdF.cons jb1 rfl (Am.RdF.cons jdT rfl Am.RdF.nil)))))) (by kernel_rfl)
noncomputable def jcY:Am.Rd Tryz.prog 25 (List (Int × ((Int × (Int × (Int × (Int × ((List Int) × Unit))))) × (Int × (Int × (Int × (Bool × Unit))))))):=Am.Rd.slice 100 jes (t:=25) Tryz.underlying25 (by kernel_rfl) (by decide)
noncomputable def jfb:Am.Rd Tryz.prog 27 (List Int):=Am.Rd.slice 300 jcJ (t:=27) Tryz.underlying27 (by kernel_rfl) (by decide)
noncomputable def jet:Am.Rd Tryz.prog 29 (Int × (Int × (Int × (Int × ((List Int) × Unit))))):=Am.Rd.st (t:=29) Tryz.underlying29 (Am.RdF.cons jao rfl (Am.RdF.cons jao rfl (Am.RdF.cons jao rfl (Am.RdF.cons jb1 rfl (Am.RdF.cons jfb rfl Am.RdF.nil))))) (by kernel_rfl)
noncomputable def jer:Am.Rd Tryz.prog 31 (Int × ((Int × (Int × (Int × (Int × ((List Int) × Unit))))) × (Int × (Int × (Int × (Bool × Unit)))))):=Am.Rd.st (t:=31) Tryz.underlying31 (Am.RdF.cons jao rfl (Am.RdF.cons jet rfl (Am.RdF.cons jao rfl (Am.RdF.cons jao rfl (Am.RdF.cons jb1 rfl (Am.RdF.cons jdT rfl Am.RdF.nil)))))) (by kernel_rfl)
set_option maxRecDepth 100000 in
theorem jfe (os:Os) (started:os.Started) (H:Type) (enc:TypeId × Value->H) :
  ReturnsInHanded {} Tryz.checked os 3 .any (Rows.dqueueWantsSpec.pre6 enc Tryz.prog Tryz.f3 Rows.dqueueWantsRow.domain false) (Rows.dqueueWantsSpec.post enc Tryz.prog Tryz.f3 false true false false):=by
 refine returnsInHanded_of_change (C:=Tryz.checked) jgX started (by kernel_rfl) Tryz.func3
  (ChangeSpec.witness6 (enc:=enc) (C:=Tryz.checked) false ⟨#[],#[.agg #[.int .i64 0,.int .i64 0],.slice none 0 0,.slice none 0 0,.agg #[.int .i64 0,.int .i64 0,.int .i64 0,.int .i64 0,.int .u64 0,.slice none 0 0,.int .i64 0,.int .i64 0,.int .u64 0,.bool false]],[]⟩ 8 (by kernel_rfl) (by kernel_rfl) (by kernel_rfl) (by kernel_rfl)) ?_
 intro W base args ds gs before hval0 hW hcnd _
 have hval : ∀ (j:Nat) t v,Tryz.f3.params[j]?=some t->args[j]?=some v->Value.okWide Tryz.prog W .any base t v:=hval0
 have hW':=hW
 obtain ⟨p,q,hA0,hV,rfl,hfz,hnd⟩:=hW
 have hA:DataW.TrodAll enc Tryz.prog W 0 (fun _=>true) true Tryz.f3.params.toList args.toList ds p:=hA0
 rw [Tryz.params3] at hA hval
 obtain ⟨v0,vs0,d0,ds0,p0,q0,ha,rfl,rfl,h0,hA1⟩:=Am.jfk hA
 obtain ⟨v1,vs1,d1,ds1,p1,q1,rfl,rfl,rfl,h1,hA2⟩:=Am.jfk hA1
 obtain ⟨v2,vs2,d2,ds2,p2,q2,rfl,rfl,rfl,h2,hA3⟩:=Am.jfk hA2
 obtain ⟨v3,vs3,d3,ds3,p3,q3,rfl,rfl,rfl,h3,hA4⟩:=Am.jfk hA3
 obtain ⟨rfl,rfl,rfl⟩:=Am.args_nil hA4
 obtain rfl:args = #[v0,v1,v2,v3]:=by cases args;simp_all
 obtain ⟨rfl,rfl⟩:=trodVars_none hV
 have hlt:=hW'.lt
 have r0:=Am.ro0 (P:=Tryz.prog) (C:=Am.Sigs.cx) (W:=W) 0
 have r0':=r0
 obtain ⟨x0,u0,m1,e1,r1,w0,n0,k0,y0⟩:=jcK.args r0' Tryz.underlying23 (hval 0 23 v0 rfl rfl) h0
 obtain ⟨x1,u1,m2,e2,r2,w1,n1,k1,y1⟩:=jcZ.arg rfl r1 (Am.jhb Tryz.underlying24 (hval 1 24 v1 rfl rfl)) h1
 obtain ⟨x2,u2,m3,e3,r3,w2,n2,k2,y2⟩:=jcY.arg rfl r2 (Am.jhb Tryz.underlying25 (hval 2 25 v2 rfl rfl)) h2
 obtain ⟨x3,u3,m4,e4,r4,w3,n3,k3,y3⟩:=jer.args r3 Tryz.underlying31 (hval 3 31 v3 rfl rfl) h3
 have hnx:e4.nx=303:=by rw [n3,n2,n1,n0];rfl
 obtain ⟨h',hr⟩:=Am.Sigs.jhz (cl:=Am.jb5 Am.Sigs.prog Am.Sigs.fuel) (fun _=>rfl) hnx (fun b hb=>r4.wf b (by rw [hnx];exact hb)) (jcK.keep ((w1.trans w2).trans w3).nx ((w1.trans w2).trans w3).get k0) (jcZ.keep (w2.trans w3).nx (w2.trans w3).get k1) (jcY.keep w3.nx w3.get k2) k3
 refine (Am.call_fn (n:=59) (xs := #[v0,v1,v2,v3]) (a:=Am.Sigs.c3) jhx (by rfl) (by rfl) hr r4.rel (fun g hg=>by rw [jhy] at hg;cases hg) ⟨_,_,rfl,(y0.mono ((w1.trans w2).trans w3).mono),⟨_,_,rfl,(y1.mono (w2.trans w3).mono),⟨_,_,rfl,(y2.mono w3.mono),⟨_,_,rfl,y3,rfl⟩⟩⟩⟩).calls fun m' w' x hs hx=>?_
 obtain rfl:x = .bool true:=hx
 exact ⟨_,rfl,Am.post1 hs r4.noOwned hW' (fun _ _ _=>trodAll_mk1 (shut_bool (t:=4) (by kernel_rfl) true))
  (Am.jiL (Below.trod jbM (by kernel_rfl) (of_decide_eq_true (by kernel_rfl)) h0 (Am.jfi hs r4.noOwned) (fun x hx=>hlt x (by simp [hx]))) (Am.jiL (Below.trod jbM (by kernel_rfl) (of_decide_eq_true (by kernel_rfl)) h1 (Am.jfi hs r4.noOwned) (fun x hx=>hlt x (by simp [hx]))) (Am.jiL (Below.trod jbM (by kernel_rfl) (of_decide_eq_true (by kernel_rfl)) h2 (Am.jfi hs r4.noOwned) (fun x hx=>hlt x (by simp [hx]))) (Am.jiL (Below.trod jbM (by kernel_rfl) (of_decide_eq_true (by kernel_rfl)) h3 (Am.jfi hs r4.noOwned) (fun x hx=>hlt x (by simp [hx]))) trodAll_mk0)))) rfl⟩
theorem dqueueWants_holds:Rows.DqueueWantsSaid :=
 OpenClaim.holds_of_wide 3 Tryz.f3 rfl rfl rfl rfl rfl rfl rfl ⟨rfl,rfl,rfl,rfl,rfl⟩ rfl rfl rfl rfl rfl (by kernel_rfl) Tryz.func3 (by kernel_rfl)
  (of_decide_eq_true (by kernel_rfl)) (by unfold Func.isWrapper;first | (rw [if_pos (by decide +kernel)];kernel_rfl) | (rw [if_neg (by decide +kernel)];exact ⟨rfl,rfl⟩))
  (fun os started H enc _=>jfe os started H enc)
end Go.Proofs.YtloklombgjlofaaGreat
