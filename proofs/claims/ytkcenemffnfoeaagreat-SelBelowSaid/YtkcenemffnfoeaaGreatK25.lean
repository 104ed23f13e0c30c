/- Our own library, part 25: an abstract machine, sound for the model, and what the functions do over it. No condition. -/
import Derived.Test.YtkcenemffnfoeaaGreatRows
import Derived.Test.YtkcenemffnfoeaaGreatK24
import Derived.Test.YtkcenemffnfoeaaGreatK20
import Derived.Test.YtkcenemffnfoeaaGreatK22
set_option maxHeartbeats 8000000
set_option linter.all false
namespace Go.Proofs.YtkcenemffnfoeaaGreat
open Go.ChangeShapes Go.WideShapes Go.ChangeAt Go.RowKit
theorem jhQ:Am.jg2 Tryz.prog Am.Sigs.cx.T=true:=by kernel_rfl
theorem jjP:(Am.Sigs.prog.fns.all fun p=>Am.fnM Tryz.prog Am.Sigs.cx p.1 p.2)=true:=by kernel_rfl
set_option maxRecDepth 100000 in
theorem jkR:Am.ProgOk Tryz.prog Am.Sigs.cx Am.Sigs.prog where
 types:=Am.TOk.of_check jhQ
 mixed:=Tryz.checked.mixed
 fns:=fun f a h=>List.all_eq_true.1 jjP _ (Am.jer h)
 primF:=fun f p h=>by cases h
 primOk:=fun f p h=>by cases h
theorem jjO:ownKnob Tryz.prog.godebug=none:=by kernel_rfl
theorem jd8:laidOutB Tryz.prog=true:=by kernel_rfl
theorem jkS:Am.Sigs.cx.gl=[]:=rfl
noncomputable def jbF:Am.Rd Tryz.prog 3 Int:=Am.Rd.int .i64 (t:=3) Tryz.underlying3 (by kernel_rfl)
noncomputable def jiJ:Am.Rd Tryz.prog 27 Int:=Am.Rd.int .u64 (t:=27) Tryz.underlying27 (by kernel_rfl)
noncomputable def jjN:Am.Rd Tryz.prog 5 Int:=Am.Rd.int .u8 (t:=5) Tryz.underlying5 (by kernel_rfl)
noncomputable def jhf:Am.Rd Tryz.prog 39 (List Int):=Am.Rd.slice 300 jjN (t:=39) Tryz.underlying39 (by kernel_rfl) (by decide)
noncomputable def jgy:Am.Rd Tryz.prog 41 (Int × (Int × (Int × (Int × ((List Int) × Unit))))):=Am.Rd.st (t:=41) Tryz.underlying41 (Am.RdF.cons jbF rfl (Am.RdF.cons jbF rfl (Am.RdF.cons jbF rfl (Am.RdF.cons jiJ rfl (Am.RdF.cons jhf rfl Am.RdF.nil))))) (by kernel_rfl)
noncomputable def jee:Am.Rd Tryz.prog 22 (List (Int × (Int × (Int × (Int × ((List Int) × Unit)))))):=Am.Rd.slice 200 jgy (t:=22) Tryz.underlying22 (by kernel_rfl) (by decide)
noncomputable def jgx:Am.Rd Tryz.prog 80 (Int × (Int × Unit)):=Am.Rd.st (t:=80) Tryz.underlying80 (Am.RdF.cons jbF rfl (Am.RdF.cons jbF rfl Am.RdF.nil)) (by kernel_rfl)
noncomputable def jed:Am.Rd Tryz.prog 50 (List (Int × (Int × Unit))):=Am.Rd.slice 48 jgx (t:=50) Tryz.underlying50 (by kernel_rfl) (by decide)
noncomputable def jgw:Am.Rd Tryz.prog 80 (Int × (Int × Unit)):=Am.Rd.st (t:=80) Tryz.underlying80 (Am.RdF.cons jbF rfl (Am.RdF.cons jbF rfl Am.RdF.nil)) (by kernel_rfl)
noncomputable def jhe:Am.Rd Tryz.prog 50 (List (Int × (Int × Unit))):=Am.Rd.slice 48 jgw (t:=50) Tryz.underlying50 (by kernel_rfl) (by decide)
set_option maxRecDepth 100000 in
theorem jhg (os:Os) (started:os.Started) (H:Type) (enc:TypeId × Value->H) :
  ReturnsInHanded {} Tryz.checked os 5 .any (Rows.polJoinsSpec.pre6 enc Tryz.prog Tryz.f5 Rows.polJoinsRow.domain false) (Rows.polJoinsSpec.post enc Tryz.prog Tryz.f5 false true false false):=by
 refine returnsInHanded_of_change (C:=Tryz.checked) jjO started (by kernel_rfl) Tryz.func5
  (ChangeSpec.witness6 (enc:=enc) (C:=Tryz.checked) false ⟨#[],#[.slice none 0 0,.slice none 0 0,.slice none 0 0],[]⟩ 8 (by kernel_rfl) (by kernel_rfl) (by kernel_rfl) (by kernel_rfl)) ?_
 intro W base args ds gs before hval0 hW hcnd _
 have hval : ∀ (j:Nat) t v,Tryz.f5.params[j]?=some t->args[j]?=some v->Value.okWide Tryz.prog W .any base t v:=hval0
 have hW':=hW
 obtain ⟨p,q,hA0,hV,rfl,hfz,hnd⟩:=hW
 have hA:DataW.TrodAll enc Tryz.prog W 0 (fun _=>true) true Tryz.f5.params.toList args.toList ds p:=hA0
 rw [Tryz.params5] at hA hval
 obtain ⟨v0,vs0,d0,ds0,p0,q0,ha,rfl,rfl,h0,hA1⟩:=Am.jc5 hA
 obtain ⟨v1,vs1,d1,ds1,p1,q1,rfl,rfl,rfl,h1,hA2⟩:=Am.jc5 hA1
 obtain ⟨v2,vs2,d2,ds2,p2,q2,rfl,rfl,rfl,h2,hA3⟩:=Am.jc5 hA2
 obtain ⟨rfl,rfl,rfl⟩:=Am.jjl hA3
 obtain rfl:args = #[v0,v1,v2]:=by cases args;simp_all
 obtain ⟨rfl,rfl⟩:=trodVars_none hV
 have hlt:=hW'.lt
 have r0:=Am.ro0 (P:=Tryz.prog) (C:=Am.Sigs.cx) (W:=W) 0
 have r0':=r0
 obtain ⟨x0,u0,m1,e1,r1,w0,n0,k0,y0⟩:=jee.arg rfl r0' (Am.jcR Tryz.underlying22 (hval 0 22 v0 rfl rfl)) h0
 obtain ⟨x1,u1,m2,e2,r2,w1,n1,k1,y1⟩:=jed.arg rfl r1 (Am.jcR Tryz.underlying50 (hval 1 50 v1 rfl rfl)) h1
 obtain ⟨x2,u2,m3,e3,r3,w2,n2,k2,y2⟩:=jhe.arg rfl r2 (Am.jcR Tryz.underlying50 (hval 2 50 v2 rfl rfl)) h2
 have hnx:e3.nx=203:=by rw [n2,n1,n0];rfl
 obtain ⟨h',hr⟩:=Am.Sigs.jkT (cl:=Am.jbA Am.Sigs.prog Am.Sigs.fuel) (fun _=>rfl) hnx (fun b hb=>r3.wf b (by rw [hnx];exact hb)) (jee.keep (w1.trans w2).nx (w1.trans w2).get k0) (jed.keep w2.nx w2.get k1) k2
 refine (Am.jlm (n:=30) (xs := #[v0,v1,v2]) (a:=Am.Sigs.c5) jkR (by rfl) (by rfl) hr r3.rel (fun g hg=>by rw [jkS] at hg;cases hg) ⟨_,_,rfl,(y0.mono (w1.trans w2).mono),⟨_,_,rfl,(y1.mono w2.mono),⟨_,_,rfl,y2,rfl⟩⟩⟩).calls fun m' w' x hs hx=>?_
 obtain rfl:x = .bool true:=hx
 exact ⟨_,rfl,Am.jov hs r3.noOwned hW' (fun _ _ _=>trodAll_mk1 (shut_bool (t:=4) (by kernel_rfl) true))
  (Am.jes (Below.trod jd8 (by kernel_rfl) (of_decide_eq_true (by kernel_rfl)) h0 (Am.jcC hs r3.noOwned) (fun x hx=>hlt x (by simp [hx]))) (Am.jes (Below.trod jd8 (by kernel_rfl) (of_decide_eq_true (by kernel_rfl)) h1 (Am.jcC hs r3.noOwned) (fun x hx=>hlt x (by simp [hx]))) (Am.jes (Below.trod jd8 (by kernel_rfl) (of_decide_eq_true (by kernel_rfl)) h2 (Am.jcC hs r3.noOwned) (fun x hx=>hlt x (by simp [hx]))) trodAll_mk0))) rfl⟩
theorem polJoins_holds:Rows.PolJoinsSaid :=
 OpenClaim.holds_of_wide 5 Tryz.f5 rfl rfl rfl rfl rfl rfl rfl ⟨rfl,rfl,rfl,rfl,rfl⟩ rfl rfl rfl rfl rfl (by kernel_rfl) Tryz.func5 (by kernel_rfl)
  (of_decide_eq_true (by kernel_rfl)) (by unfold Func.isWrapper;first | (rw [if_pos (by decide +kernel)];kernel_rfl) | (rw [if_neg (by decide +kernel)];exact ⟨rfl,rfl⟩))
  (fun os started H enc _=>jhg os started H enc)
end Go.Proofs.YtkcenemffnfoeaaGreat
namespace Go.Proofs.YtkcenemffnfoeaaGreat
open Go.ChangeShapes Go.WideShapes Go.ChangeAt Go.RowKit
theorem jhJ:Am.jg2 Tryz.prog Am.Sigs.cx.T=true:=by kernel_rfl
theorem jj2:(Am.Sigs.prog.fns.all fun p=>Am.fnM Tryz.prog Am.Sigs.cx p.1 p.2)=true:=by kernel_rfl
set_option maxRecDepth 100000 in
theorem jkD:Am.ProgOk Tryz.prog Am.Sigs.cx Am.Sigs.prog where
 types:=Am.TOk.of_check jhJ
 mixed:=Tryz.checked.mixed
 fns:=fun f a h=>List.all_eq_true.1 jj2 _ (Am.jer h)
 primF:=fun f p h=>by cases h
 primOk:=fun f p h=>by cases h
theorem jj1:ownKnob Tryz.prog.godebug=none:=by kernel_rfl
theorem jfj:laidOutB Tryz.prog=true:=by kernel_rfl
theorem jkE:Am.Sigs.cx.gl=[]:=rfl
noncomputable def jdb:Am.Rd Tryz.prog 3 Int:=Am.Rd.int .i64 (t:=3) Tryz.underlying3 (by kernel_rfl)
noncomputable def ji3:Am.Rd Tryz.prog 27 Int:=Am.Rd.int .u64 (t:=27) Tryz.underlying27 (by kernel_rfl)
noncomputable def jdW:Am.Rd Tryz.prog 5 Int:=Am.Rd.int .u8 (t:=5) Tryz.underlying5 (by kernel_rfl)
noncomputable def jgV:Am.Rd Tryz.prog 39 (List Int):=Am.Rd.slice 300 jdW (t:=39) Tryz.underlying39 (by kernel_rfl) (by decide)
noncomputable def jgt:Am.Rd Tryz.prog 41 (Int × (Int × (Int × (Int × ((List Int) × Unit))))):=Am.Rd.st (t:=41) Tryz.underlying41 (Am.RdF.cons jdb rfl (Am.RdF.cons jdb rfl (Am.RdF.cons jdb rfl (Am.RdF.cons ji3 rfl (Am.RdF.cons jgV rfl Am.RdF.nil))))) (by kernel_rfl)
noncomputable def jdX:Am.Rd Tryz.prog 22 (List (Int × (Int × (Int × (Int × ((List Int) × Unit)))))):=Am.Rd.slice 200 jgt (t:=22) Tryz.underlying22 (by kernel_rfl) (by decide)
noncomputable def jgU:Am.Rd Tryz.prog 39 (List Int):=Am.Rd.slice 200 jdW (t:=39) Tryz.underlying39 (by kernel_rfl) (by decide)
noncomputable def jgT:Am.Rd Tryz.prog 39 (List Int):=Am.Rd.slice 200 jdW (t:=39) Tryz.underlying39 (by kernel_rfl) (by decide)
noncomputable def jgs:Am.Rd Tryz.prog 61 (Int × ((List Int) × ((List Int) × Unit))):=Am.Rd.st (t:=61) Tryz.underlying61 (Am.RdF.cons jdb rfl (Am.RdF.cons jgU rfl (Am.RdF.cons jgT rfl Am.RdF.nil))) (by kernel_rfl)
set_option maxRecDepth 100000 in
theorem jgW (os:Os) (started:os.Started) (H:Type) (enc:TypeId × Value->H) :
  ReturnsInHanded {} Tryz.checked os 6 .any (Rows.selBelowSpec.pre6 enc Tryz.prog Tryz.f6 Rows.selBelowRow.domain false) (Rows.selBelowSpec.post enc Tryz.prog Tryz.f6 false true false false):=by
 refine returnsInHanded_of_change (C:=Tryz.checked) jj1 started (by kernel_rfl) Tryz.func6
  (ChangeSpec.witness6 (enc:=enc) (C:=Tryz.checked) false ⟨#[],#[.slice none 0 0,.agg #[.int .i64 0,.slice none 0 0,.slice none 0 0]],[]⟩ 8 (by kernel_rfl) (by kernel_rfl) (by kernel_rfl) (by kernel_rfl)) ?_
 intro W base args ds gs before hval0 hW hcnd _
 have hval : ∀ (j:Nat) t v,Tryz.f6.params[j]?=some t->args[j]?=some v->Value.okWide Tryz.prog W .any base t v:=hval0
 have hW':=hW
 obtain ⟨p,q,hA0,hV,rfl,hfz,hnd⟩:=hW
 have hA:DataW.TrodAll enc Tryz.prog W 0 (fun _=>true) true Tryz.f6.params.toList args.toList ds p:=hA0
 rw [Tryz.params6] at hA hval
 obtain ⟨v0,vs0,d0,ds0,p0,q0,ha,rfl,rfl,h0,hA1⟩:=Am.jc5 hA
 obtain ⟨v1,vs1,d1,ds1,p1,q1,rfl,rfl,rfl,h1,hA2⟩:=Am.jc5 hA1
 obtain ⟨rfl,rfl,rfl⟩:=Am.jjl hA2
 obtain rfl:args = #[v0,v1]:=by cases args;simp_all
 obtain ⟨rfl,rfl⟩:=trodVars_none hV
 have hlt:=hW'.lt
 have r0:=Am.ro0 (P:=Tryz.prog) (C:=Am.Sigs.cx) (W:=W) 0
 have r0':=r0
 obtain ⟨x0,u0,m1,e1,r1,w0,n0,k0,y0⟩:=jdX.arg rfl r0' (Am.jcR Tryz.underlying22 (hval 0 22 v0 rfl rfl)) h0
 obtain ⟨x1,u1,m2,e2,r2,w1,n1,k1,y1⟩:=jgs.args r1 Tryz.underlying61 (hval 1 61 v1 rfl rfl) h1
 have hnx:e2.nx=203:=by rw [n1,n0];rfl
 obtain ⟨h',hr⟩:=Am.Sigs.jkF (cl:=Am.jbA Am.Sigs.prog Am.Sigs.fuel) (fun _=>rfl) hnx (fun b hb=>r2.wf b (by rw [hnx];exact hb)) (jdX.keep w1.nx w1.get k0) k1
 refine (Am.jlm (n:=30) (xs := #[v0,v1]) (a:=Am.Sigs.c6) jkD (by rfl) (by rfl) hr r2.rel (fun g hg=>by rw [jkE] at hg;cases hg) ⟨_,_,rfl,(y0.mono w1.mono),⟨_,_,rfl,y1,rfl⟩⟩).calls fun m' w' x hs hx=>?_
 obtain rfl:x = .bool true:=hx
 exact ⟨_,rfl,Am.jov hs r2.noOwned hW' (fun _ _ _=>trodAll_mk1 (shut_bool (t:=4) (by kernel_rfl) true))
  (Am.jes (Below.trod jfj (by kernel_rfl) (of_decide_eq_true (by kernel_rfl)) h0 (Am.jcC hs r2.noOwned) (fun x hx=>hlt x (by simp [hx]))) (Am.jes (Below.trod jfj (by kernel_rfl) (of_decide_eq_true (by kernel_rfl)) h1 (Am.jcC hs r2.noOwned) (fun x hx=>hlt x (by simp [hx]))) trodAll_mk0)) rfl⟩
theorem selBelow_holds:Rows.SelBelowSaid :=
 OpenClaim.holds_of_wide 6 Tryz.f6 rfl rfl rfl rfl rfl rfl rfl ⟨rfl,rfl,rfl,rfl,rfl⟩ rfl rfl rfl rfl rfl (by kernel_rfl) Tryz.func6 (by kernel_rfl)
  (of_decide_eq_true (by kernel_rfl)) (by unfold Func.isWrapper;first | (rw [if_pos (by decide +kernel)];kernel_rfl) | (rw [if_neg (by decide +kernel)];exact ⟨rfl,rfl⟩))
  (fun os started H enc _=>jgW os started H enc)
end Go.Proofs.YtkcenemffnfoeaaGreat
namespace Go.Proofs.YtkcenemffnfoeaaGreat
open Go.ChangeShapes Go.WideShapes Go.ChangeAt Go.RowKit
theorem jhI:Am.jg2 Tryz.prog Am.Sigs.cx.T=true:=by kernel_rfl
theorem jj0:(Am.Sigs.prog.fns.all fun p=>Am.fnM Tryz.prog Am.Sigs.cx p.1 p.2)=true:=by kernel_rfl
set_option maxRecDepth 100000 in
theorem jkA:Am.ProgOk Tryz.prog Am.Sigs.cx Am.Sigs.prog where
 types:=Am.TOk.of_check jhI
 mixed:=Tryz.checked.mixed
 fns:=fun f a h=>List.all_eq_true.1 jj0 _ (Am.jer h)
 primF:=fun f p h=>by cases h
 primOk:=fun f p h=>by cases h
theorem jjz:ownKnob Tryz.prog.godebug=none:=by kernel_rfl
theorem jd4:laidOutB Tryz.prog=true:=by kernel_rfl
theorem jkB:Am.Sigs.cx.gl=[]:=rfl
noncomputable def jcy:Am.Rd Tryz.prog 3 Int:=Am.Rd.int .i64 (t:=3) Tryz.underlying3 (by kernel_rfl)
noncomputable def ji1:Am.Rd Tryz.prog 27 Int:=Am.Rd.int .u64 (t:=27) Tryz.underlying27 (by kernel_rfl)
noncomputable def jcx:Am.Rd Tryz.prog 5 Int:=Am.Rd.int .u8 (t:=5) Tryz.underlying5 (by kernel_rfl)
noncomputable def jgQ:Am.Rd Tryz.prog 39 (List Int):=Am.Rd.slice 300 jcx (t:=39) Tryz.underlying39 (by kernel_rfl) (by decide)
noncomputable def jgr:Am.Rd Tryz.prog 41 (Int × (Int × (Int × (Int × ((List Int) × Unit))))):=Am.Rd.st (t:=41) Tryz.underlying41 (Am.RdF.cons jcy rfl (Am.RdF.cons jcy rfl (Am.RdF.cons jcy rfl (Am.RdF.cons ji1 rfl (Am.RdF.cons jgQ rfl Am.RdF.nil))))) (by kernel_rfl)
noncomputable def jdV:Am.Rd Tryz.prog 22 (List (Int × (Int × (Int × (Int × ((List Int) × Unit)))))):=Am.Rd.slice 200 jgr (t:=22) Tryz.underlying22 (by kernel_rfl) (by decide)
noncomputable def jgP:Am.Rd Tryz.prog 39 (List Int):=Am.Rd.slice 200 jcx (t:=39) Tryz.underlying39 (by kernel_rfl) (by decide)
noncomputable def jgO:Am.Rd Tryz.prog 39 (List Int):=Am.Rd.slice 200 jcx (t:=39) Tryz.underlying39 (by kernel_rfl) (by decide)
noncomputable def jdN:Am.Rd Tryz.prog 61 (Int × ((List Int) × ((List Int) × Unit))):=Am.Rd.st (t:=61) Tryz.underlying61 (Am.RdF.cons jcy rfl (Am.RdF.cons jgP rfl (Am.RdF.cons jgO rfl Am.RdF.nil))) (by kernel_rfl)
noncomputable def jgN:Am.Rd Tryz.prog 39 (List Int):=Am.Rd.slice 200 jcx (t:=39) Tryz.underlying39 (by kernel_rfl) (by decide)
noncomputable def jgM:Am.Rd Tryz.prog 39 (List Int):=Am.Rd.slice 200 jcx (t:=39) Tryz.underlying39 (by kernel_rfl) (by decide)
noncomputable def jfE:Am.Rd Tryz.prog 61 (Int × ((List Int) × ((List Int) × Unit))):=Am.Rd.st (t:=61) Tryz.underlying61 (Am.RdF.cons jcy rfl (Am.RdF.cons jgN rfl (Am.RdF.cons jgM rfl Am.RdF.nil))) (by kernel_rfl)
set_option maxRecDepth 100000 in
theorem jgR (os:Os) (started:os.Started) (H:Type) (enc:TypeId × Value->H) :
  ReturnsInHanded {} Tryz.checked os 7 .any (Rows.selPartsSpec.pre6 enc Tryz.prog Tryz.f7 Rows.selPartsRow.domain false) (Rows.selPartsSpec.post enc Tryz.prog Tryz.f7 false true false false):=by
 refine returnsInHanded_of_change (C:=Tryz.checked) jjz started (by kernel_rfl) Tryz.func7
  (ChangeSpec.witness6 (enc:=enc) (C:=Tryz.checked) false ⟨#[],#[.slice none 0 0,.agg #[.int .i64 0,.slice none 0 0,.slice none 0 0],.agg #[.int .i64 0,.slice none 0 0,.slice none 0 0]],[]⟩ 8 (by kernel_rfl) (by kernel_rfl) (by kernel_rfl) (by kernel_rfl)) ?_
 intro W base args ds gs before hval0 hW hcnd _
 have hval : ∀ (j:Nat) t v,Tryz.f7.params[j]?=some t->args[j]?=some v->Value.okWide Tryz.prog W .any base t v:=hval0
 have hW':=hW
 obtain ⟨p,q,hA0,hV,rfl,hfz,hnd⟩:=hW
 have hA:DataW.TrodAll enc Tryz.prog W 0 (fun _=>true) true Tryz.f7.params.toList args.toList ds p:=hA0
 rw [Tryz.params7] at hA hval
 obtain ⟨v0,vs0,d0,ds0,p0,q0,ha,rfl,rfl,h0,hA1⟩:=Am.jc5 hA
 obtain ⟨v1,vs1,d1,ds1,p1,q1,rfl,rfl,rfl,h1,hA2⟩:=Am.jc5 hA1
 obtain ⟨v2,vs2,d2,ds2,p2,q2,rfl,rfl,rfl,h2,hA3⟩:=Am.jc5 hA2
 obtain ⟨rfl,rfl,rfl⟩:=Am.jjl hA3
 obtain rfl:args = #[v0,v1,v2]:=by cases args;simp_all
 obtain ⟨rfl,rfl⟩:=trodVars_none hV
 have hlt:=hW'.lt
 have r0:=Am.ro0 (P:=Tryz.prog) (C:=Am.Sigs.cx) (W:=W) 0
 have r0':=r0
 obtain ⟨x0,u0,m1,e1,r1,w0,n0,k0,y0⟩:=jdV.arg rfl r0' (Am.jcR Tryz.underlying22 (hval 0 22 v0 rfl rfl)) h0
 obtain ⟨x1,u1,m2,e2,r2,w1,n1,k1,y1⟩:=jdN.args r1 Tryz.underlying61 (hval 1 61 v1 rfl rfl) h1
 obtain ⟨x2,u2,m3,e3,r3,w2,n2,k2,y2⟩:=jfE.args r2 Tryz.underlying61 (hval 2 61 v2 rfl rfl) h2
 have hnx:e3.nx=205:=by rw [n2,n1,n0];rfl
 obtain ⟨h',hr⟩:=Am.Sigs.jkC (cl:=Am.jbA Am.Sigs.prog Am.Sigs.fuel) (fun _=>rfl) hnx (fun b hb=>r3.wf b (by rw [hnx];exact hb)) (jdV.keep (w1.trans w2).nx (w1.trans w2).get k0) (jdN.keep w2.nx w2.get k1) k2
 refine (Am.jlm (n:=30) (xs := #[v0,v1,v2]) (a:=Am.Sigs.c7) jkA (by rfl) (by rfl) hr r3.rel (fun g hg=>by rw [jkB] at hg;cases hg) ⟨_,_,rfl,(y0.mono (w1.trans w2).mono),⟨_,_,rfl,(y1.mono w2.mono),⟨_,_,rfl,y2,rfl⟩⟩⟩).calls fun m' w' x hs hx=>?_
 obtain rfl:x = .bool true:=hx
 exact ⟨_,rfl,Am.jov hs r3.noOwned hW' (fun _ _ _=>trodAll_mk1 (shut_bool (t:=4) (by kernel_rfl) true))
  (Am.jes (Below.trod jd4 (by kernel_rfl) (of_decide_eq_true (by kernel_rfl)) h0 (Am.jcC hs r3.noOwned) (fun x hx=>hlt x (by simp [hx]))) (Am.jes (Below.trod jd4 (by kernel_rfl) (of_decide_eq_true (by kernel_rfl)) h1 (Am.jcC hs r3.noOwned) (fun x hx=>hlt x (by simp [hx]))) (Am.jes (Below.trod jd4 (by kernel_rfl) (of_decide_eq_true (by kernel_rfl)) h2 (Am.jcC hs r3.noOwned) (fun x hx=>hlt x (by simp [hx]))) trodAll_mk0))) rfl⟩
theorem selParts_holds:Rows.SelPartsSaid :=
 OpenClaim.holds_of_wide 7 Tryz.f7 rfl rfl rfl rfl rfl rfl rfl ⟨rfl,rfl,rfl,rfl,rfl⟩ rfl rfl rfl rfl rfl (by kernel_rfl) Tryz.func7 (by kernel_rfl)
  (of_decide_eq_true (by kernel_rfl)) (by unfold Func.isWrapper;first | (rw [if_pos (by decide +kernel)];kernel_rfl) | (rw [if_neg (by decide +kernel)];exact ⟨rfl,rfl⟩))
  (fun os started H enc _=>jgR os started H enc)
end Go.Proofs.YtkcenemffnfoeaaGreat
