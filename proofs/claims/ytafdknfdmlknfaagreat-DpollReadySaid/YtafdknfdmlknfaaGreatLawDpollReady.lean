/- 'DpollReady': for every input the call returns true, and the input reads as it did. No condition. -/
import Derived.Test.YtafdknfdmlknfaaGreatRows
import Derived.ProofKit
import Derived.Test.YtafdknfdmlknfaaGreatH25
import Derived.Test.YtafdknfdmlknfaaGreatH26
import Derived.Test.YtafdknfdmlknfaaGreatH28
set_option maxHeartbeats 8000000
set_option maxRecDepth 800
set_option linter.all false
namespace Go.Proofs.YtafdknfdmlknfaaGreat
open Go.ChangeShapes Go.WideShapes Go.ChangeAt Go.RowKit
theorem jgP:Am.jl5 Tryz.prog Am.Sigs.cx.T=true:=by kernel_rfl
theorem jii:(Am.Sigs.prog.fns.all fun p=>Am.fnM Tryz.prog Am.Sigs.cx p.1 p.2)=true:=by kernel_rfl
set_option maxRecDepth 100000 in
theorem jjk:Am.ProgOk Tryz.prog Am.Sigs.cx Am.Sigs.prog := {
 types:=Am.TOk.of_check jgP,
 mixed:=Tryz.checked.mixed,
 fns:=fun _ _ h=>List.all_eq_true.1 jii _ (Am.jez h),
 primF:=Am.Sigs.primsF,
 primOk:=Am.Sigs.primsOk }
theorem jih:ownKnob Tryz.prog.godebug=none:=by kernel_rfl
theorem jco:laidOutB Tryz.prog=true:=by kernel_rfl
theorem jjl:Am.Sigs.cx.gl=[]:=rfl
noncomputable def jau:Am.Rd Tryz.prog 3 Int:=Am.Rd.int .i64 (t:=3) Tryz.underlying3 (by kernel_rfl)
noncomputable def jcn:Am.Rd Tryz.prog 31 Int:=Am.Rd.int .u64 (t:=31) Tryz.underlying31 (by kernel_rfl)
noncomputable def jdz:Am.Rd Tryz.prog 5 Int:=Am.Rd.int .u8 (t:=5) Tryz.underlying5 (by kernel_rfl)
noncomputable def jgu:Am.Rd Tryz.prog 32 (List Int):=Am.Rd.slice 300 jdz (t:=32) Tryz.underlying32 (by kernel_rfl) (by decide)
noncomputable def jfJ:Am.Rd Tryz.prog 34 (Int × (Int × (Int × (Int × ((List Int) × Unit))))):=Am.Rd.st (t:=34) Tryz.underlying34 (Am.RdF.cons jau rfl (Am.RdF.cons jau rfl (Am.RdF.cons jau rfl (Am.RdF.cons jcn rfl (Am.RdF.cons jgu rfl Am.RdF.nil))))) (by kernel_rfl)
noncomputable def jd9:Am.Rd Tryz.prog 22 (List (Int × (Int × (Int × (Int × ((List Int) × Unit)))))):=Am.Rd.slice 200 jfJ (t:=22) Tryz.underlying22 (by kernel_rfl) (by decide)
noncomputable def jeP:Am.Rd Tryz.prog 4 Bool:=Am.Rd.bool (t:=4) Tryz.underlying4 (by kernel_rfl)
noncomputable def jgq:Am.Rd Tryz.prog 68 (List Int):=Am.Rd.slice 60 jau (t:=68) Tryz.underlying68 (by kernel_rfl) (by decide)
noncomputable def jgt:Am.Rd Tryz.prog 32 (List Int):=Am.Rd.slice 1100 jdz (t:=32) Tryz.underlying32 (by kernel_rfl) (by decide)
noncomputable def jfI:Am.Rd Tryz.prog 66 (Int × (Int × (Int × ((List Int) × Unit)))):=Am.Rd.st (t:=66) Tryz.underlying66 (Am.RdF.cons jau rfl (Am.RdF.cons jau rfl (Am.RdF.cons jau rfl (Am.RdF.cons jgt rfl Am.RdF.nil)))) (by kernel_rfl)
noncomputable def jgr:Am.Rd Tryz.prog 67 (List (Int × (Int × (Int × ((List Int) × Unit))))):=Am.Rd.slice 60 jfI (t:=67) Tryz.underlying67 (by kernel_rfl) (by decide)
noncomputable def jfe:Am.Rd Tryz.prog 70 (Int × (Bool × ((List Int) × ((List (Int × (Int × (Int × ((List Int) × Unit))))) × Unit)))):=Am.Rd.st (t:=70) Tryz.underlying70 (Am.RdF.cons jcn rfl (Am.RdF.cons jeP rfl (Am.RdF.cons jgq rfl (Am.RdF.cons jgr rfl Am.RdF.nil)))) (by kernel_rfl)
noncomputable def jd8:Am.Rd Tryz.prog 23 (List (Int × (Bool × ((List Int) × ((List (Int × (Int × (Int × ((List Int) × Unit))))) × Unit))))):=Am.Rd.slice 2000 jfe (t:=23) Tryz.underlying23 (by kernel_rfl) (by decide)
noncomputable def jgs:Am.Rd Tryz.prog 32 (List Int):=Am.Rd.slice 300 jdz (t:=32) Tryz.underlying32 (by kernel_rfl) (by decide)
noncomputable def jfg:Am.Rd Tryz.prog 34 (Int × (Int × (Int × (Int × ((List Int) × Unit))))):=Am.Rd.st (t:=34) Tryz.underlying34 (Am.RdF.cons jau rfl (Am.RdF.cons jau rfl (Am.RdF.cons jau rfl (Am.RdF.cons jcn rfl (Am.RdF.cons jgs rfl Am.RdF.nil))))) (by kernel_rfl)
noncomputable def jff:Am.Rd Tryz.prog 47 (Int × (Int × (Int × (Int × (Bool × ((Int × (Int × (Int × (Int × ((List Int) × Unit))))) × Unit)))))):=Am.Rd.st (t:=47) Tryz.underlying47 (Am.RdF.cons jau rfl (Am.RdF.cons jau rfl (Am.RdF.cons jau rfl (Am.RdF.cons jcn rfl (Am.RdF.cons jeP rfl (Am.RdF.cons jfg rfl Am.RdF.nil)))))) (by kernel_rfl)
noncomputable def jgv:Am.Rd Tryz.prog 24 (List (Int × (Int × (Int × (Int × (Bool × ((Int × (Int × (Int × (Int × ((List Int) × Unit))))) × Unit))))))):=Am.Rd.slice 60 jff (t:=24) Tryz.underlying24 (by kernel_rfl) (by decide)
set_option maxRecDepth 100000 in
theorem jgw (os:Os) (started:os.Started) (H:Type) (enc:TypeId × Value->H) :
  ReturnsInHanded {} Tryz.checked os 3 .any (Rows.dpollReadySpec.pre6 enc Tryz.prog Tryz.f3 Rows.dpollReadyRow.domain false) (Rows.dpollReadySpec.post enc Tryz.prog Tryz.f3 false true false false):=by
 refine returnsInHanded_of_change (C:=Tryz.checked) jih started (by kernel_rfl) Tryz.func3
  (ChangeSpec.witness6 (enc:=enc) (C:=Tryz.checked) false ⟨#[],#[.slice none 0 0,.slice none 0 0,.int .i64 0,.slice none 0 0],[]⟩ 8 (by kernel_rfl) (by kernel_rfl) (by kernel_rfl) (by kernel_rfl)) ?_
 intro W base args ds gs before hval0 hW hcnd _
 have hval : ∀ (j:Nat) t v,Tryz.f3.params[j]?=some t->args[j]?=some v->Value.okWide Tryz.prog W .any base t v:=hval0
 have hW':=hW
 obtain ⟨p,q,hA0,hV,rfl,hfz,hnd⟩:=hW
 have hA:DataW.TrodAll enc Tryz.prog W 0 (fun _=>true) true Tryz.f3.params.toList args.toList ds p:=hA0
 rw [Tryz.params3] at hA hval
 obtain ⟨v0,vs0,d0,ds0,p0,q0,ha,rfl,rfl,h0,hA1⟩:=Am.jfP hA
 obtain ⟨v1,vs1,d1,ds1,p1,q1,rfl,rfl,rfl,h1,hA2⟩:=Am.jfP hA1
 obtain ⟨v2,vs2,d2,ds2,p2,q2,rfl,rfl,rfl,h2,hA3⟩:=Am.jfP hA2
 obtain ⟨v3,vs3,d3,ds3,p3,q3,rfl,rfl,rfl,h3,hA4⟩:=Am.jfP hA3
 obtain ⟨rfl,rfl,rfl⟩:=Am.args_nil hA4
 obtain rfl:args = #[v0,v1,v2,v3]:=by cases args;simp_all
 obtain ⟨rfl,rfl⟩:=trodVars_none hV
 have hlt:=hW'.lt
 have r0:=Am.ro0 (P:=Tryz.prog) (C:=Am.Sigs.cx) (W:=W) 0
 have r0':=r0
 obtain ⟨x0,u0,m1,e1,r1,w0,n0,k0,y0⟩:=jd9.arg rfl r0' (Am.jfh Tryz.underlying22 (hval 0 22 v0 rfl rfl)) h0
 obtain ⟨x1,u1,m2,e2,r2,w1,n1,k1,y1⟩:=jd8.arg rfl r1 (Am.jfh Tryz.underlying23 (hval 1 23 v1 rfl rfl)) h1
 obtain ⟨x2,u2,m3,e3,r3,w2,n2,k2,y2⟩:=jau.arg rfl r2 (Am.cells_int Tryz.underlying3 (hval 2 3 v2 rfl rfl)) h2
 obtain ⟨x3,u3,m4,e4,r4,w3,n3,k3,y3⟩:=jgv.arg rfl r3 (Am.jfh Tryz.underlying24 (hval 3 24 v3 rfl rfl)) h3
 have hnx:e4.nx=124263:=by rw [n3,n2,n1,n0];rfl
 obtain ⟨h',hr⟩:=Am.Sigs.jjm (cl:=Am.jbF Am.Sigs.prog Am.Sigs.fuel) (fun _=>rfl) hnx (fun b hb=>r4.wf b (by rw [hnx];exact hb)) (jd9.keep ((w1.trans w2).trans w3).nx ((w1.trans w2).trans w3).get k0) (jd8.keep (w2.trans w3).nx (w2.trans w3).get k1) (jau.keep w3.nx w3.get k2) k3
 refine (Am.call_fn (n:=30) (xs := #[v0,v1,v2,v3]) (a:=Am.Sigs.c3) jjk (by rfl) (by rfl) hr r4.rel (fun g hg=>by rw [jjl] at hg;cases hg) ⟨_,_,rfl,(y0.mono ((w1.trans w2).trans w3).mono),⟨_,_,rfl,(y1.mono (w2.trans w3).mono),⟨_,_,rfl,(y2.mono w3.mono),⟨_,_,rfl,y3,rfl⟩⟩⟩⟩).calls fun m' w' x hs hx=>?_
 obtain rfl:x = .bool true:=hx
 exact ⟨_,rfl,Am.post1 hs r4.noOwned hW' (fun _ _ _=>trodAll_mk1 (shut_bool (t:=4) (by kernel_rfl) true))
  (Am.jjx (Below.trod jco (by kernel_rfl) (of_decide_eq_true (by kernel_rfl)) h0 (Am.jfL hs r4.noOwned) (fun x hx=>hlt x (by simp [hx]))) (Am.jjx (Below.trod jco (by kernel_rfl) (of_decide_eq_true (by kernel_rfl)) h1 (Am.jfL hs r4.noOwned) (fun x hx=>hlt x (by simp [hx]))) (Am.jjx (Below.trod jco (by kernel_rfl) (of_decide_eq_true (by kernel_rfl)) h2 (Am.jfL hs r4.noOwned) (fun x hx=>hlt x (by simp [hx]))) (Am.jjx (Below.trod jco (by kernel_rfl) (of_decide_eq_true (by kernel_rfl)) h3 (Am.jfL hs r4.noOwned) (fun x hx=>hlt x (by simp [hx]))) trodAll_mk0)))) rfl⟩
theorem dpollReady_holds:Rows.DpollReadySaid :=
 OpenClaim.holds_of_wide 3 Tryz.f3 rfl rfl rfl rfl rfl rfl rfl ⟨rfl,rfl,rfl,rfl,rfl⟩ rfl rfl rfl rfl rfl (by kernel_rfl) Tryz.func3 (by kernel_rfl)
  (of_decide_eq_true (by kernel_rfl)) (by unfold Func.isWrapper;first | (rw [if_pos (by decide +kernel)];kernel_rfl) | (rw [if_neg (by decide +kernel)];exact ⟨rfl,rfl⟩))
  (fun os started H enc _=>jgw os started H enc)
end Go.Proofs.YtafdknfdmlknfaaGreat
