/- 'ModelIdeal':for every input the call returns true, and the input reads as it did. The listed variables read as the text lays them. -/
import Derived.Test.YtphpefladchggaaGreatDoorRows
import Derived.Test.YtphpefladchggaaGreatDoorCards
import Derived.Test.YtphpefladchggaaGreatDoorTie
import Derived.ProofKit
import Derived.LaidMore
import Derived.SevenTiedAt
import Derived.Test.YtphpefladchggaaGreatDoorV20
import Derived.Test.YtphpefladchggaaGreatDoorV21
import Derived.Test.YtphpefladchggaaGreatDoorV23
set_option maxHeartbeats 8000000
set_option maxRecDepth 800
set_option linter.all false
namespace Go.Proofs.YtphpefladchggaaGreatDoor
open Go.ChangeShapes Go.WideShapes Go.ChangeAt Go.RowKit
theorem jh3:Am.jm3 Tryz.prog Am.Sigs.cx.T=true:=by kernel_rfl
theorem jiQ:(Am.Sigs.prog.fns.all fun p=>Am.fnM Tryz.prog Am.Sigs.cx p.1 p.2)=true:=by kernel_rfl
set_option maxRecDepth 100000 in
theorem jkc:Am.ProgOk Tryz.prog Am.Sigs.cx Am.Sigs.prog:= {
 types:=Am.TOk.of_check jh3,
 mixed:=Tryz.checked.mixed,
 fns:=fun _ _ h=>List.all_eq_true.1 jiQ _ (Am.jeR h),
 primF:=Am.Sigs.primsF,
 primOk:=Am.Sigs.primsOk}
theorem jiO:ownKnob Tryz.prog.godebug=none:=by kernel_rfl
theorem jeE:laidOutB Tryz.prog=true:=by kernel_rfl
theorem jkd:Am.Sigs.cx.gl=[0,2,3]:=rfl
noncomputable def ja0:Am.Rd Tryz.prog 3 Int:=Am.Rd.int .i64 (t:=3) Tryz.underlying3 (by kernel_rfl)
noncomputable def jcy:Am.Rd Tryz.prog 33 Int:=Am.Rd.int .u64 (t:=33) Tryz.underlying33 (by kernel_rfl)
noncomputable def jdH:Am.Rd Tryz.prog 5 Int:=Am.Rd.int .u8 (t:=5) Tryz.underlying5 (by kernel_rfl)
noncomputable def jgU:Am.Rd Tryz.prog 34 (List Int):=Am.Rd.slice 300 jdH (t:=34) Tryz.underlying34 (by kernel_rfl) (by decide)
noncomputable def jgo:Am.Rd Tryz.prog 36 (Int×(Int×(Int×(Int×((List Int)×Unit))))):=Am.Rd.st (t:=36) Tryz.underlying36 (Am.RdF.cons ja0 rfl (Am.RdF.cons ja0 rfl (Am.RdF.cons ja0 rfl (Am.RdF.cons jcy rfl (Am.RdF.cons jgU rfl Am.RdF.nil))))) (by kernel_rfl)
noncomputable def jdW:Am.Rd Tryz.prog 22 (List (Int×(Int×(Int×(Int×((List Int)×Unit)))))):=Am.Rd.slice 200 jgo (t:=22) Tryz.underlying22 (by kernel_rfl) (by decide)
noncomputable def jfs:Am.Rd Tryz.prog 4 Bool:=Am.Rd.bool (t:=4) Tryz.underlying4 (by kernel_rfl)
noncomputable def jgR:Am.Rd Tryz.prog 73 (List Int):=Am.Rd.slice 60 ja0 (t:=73) Tryz.underlying73 (by kernel_rfl) (by decide)
noncomputable def jgT:Am.Rd Tryz.prog 34 (List Int):=Am.Rd.slice 1100 jdH (t:=34) Tryz.underlying34 (by kernel_rfl) (by decide)
noncomputable def jgn:Am.Rd Tryz.prog 81 (Int×(Int×(Int×((List Int)×Unit)))):=Am.Rd.st (t:=81) Tryz.underlying81 (Am.RdF.cons ja0 rfl (Am.RdF.cons ja0 rfl (Am.RdF.cons ja0 rfl (Am.RdF.cons jgT rfl Am.RdF.nil)))) (by kernel_rfl)
noncomputable def jgQ:Am.Rd Tryz.prog 77 (List (Int×(Int×(Int×((List Int)×Unit))))):=Am.Rd.slice 60 jgn (t:=77) Tryz.underlying77 (by kernel_rfl) (by decide)
noncomputable def jfA:Am.Rd Tryz.prog 79 (Int×(Bool×((List Int)×((List (Int×(Int×(Int×((List Int)×Unit)))))×Unit)))):=Am.Rd.st (t:=79) Tryz.underlying79 (Am.RdF.cons jcy rfl (Am.RdF.cons jfs rfl (Am.RdF.cons jgR rfl (Am.RdF.cons jgQ rfl Am.RdF.nil)))) (by kernel_rfl)
noncomputable def jgW:Am.Rd Tryz.prog 23 (List (Int×(Bool×((List Int)×((List (Int×(Int×(Int×((List Int)×Unit)))))×Unit))))):=Am.Rd.slice 100 jfA (t:=23) Tryz.underlying23 (by kernel_rfl) (by decide)
noncomputable def jgS:Am.Rd Tryz.prog 34 (List Int):=Am.Rd.slice 300 jdH (t:=34) Tryz.underlying34 (by kernel_rfl) (by decide)
noncomputable def jfC:Am.Rd Tryz.prog 36 (Int×(Int×(Int×(Int×((List Int)×Unit))))):=Am.Rd.st (t:=36) Tryz.underlying36 (Am.RdF.cons ja0 rfl (Am.RdF.cons ja0 rfl (Am.RdF.cons ja0 rfl (Am.RdF.cons jcy rfl (Am.RdF.cons jgS rfl Am.RdF.nil))))) (by kernel_rfl)
noncomputable def jfB:Am.Rd Tryz.prog 56 (Int×((Int×(Int×(Int×(Int×((List Int)×Unit)))))×(Int×(Int×(Int×(Bool×Unit)))))):=Am.Rd.st (t:=56) Tryz.underlying56 (Am.RdF.cons ja0 rfl (Am.RdF.cons jfC rfl (Am.RdF.cons ja0 rfl (Am.RdF.cons ja0 rfl (Am.RdF.cons jcy rfl (Am.RdF.cons jfs rfl Am.RdF.nil)))))) (by kernel_rfl)
noncomputable def jgV:Am.Rd Tryz.prog 24 (List (Int×((Int×(Int×(Int×(Int×((List Int)×Unit)))))×(Int×(Int×(Int×(Bool×Unit))))))):=Am.Rd.slice 100 jfB (t:=24) Tryz.underlying24 (by kernel_rfl) (by decide)
noncomputable def jfD:Am.Rd Tryz.prog 26 ((List (Int×(Bool×((List Int)×((List (Int×(Int×(Int×((List Int)×Unit)))))×Unit)))))×((List (Int×((Int×(Int×(Int×(Int×((List Int)×Unit)))))×(Int×(Int×(Int×(Bool×Unit)))))))×Unit)):=Am.Rd.st (t:=26) Tryz.underlying26 (Am.RdF.cons jgW rfl (Am.RdF.cons jgV rfl Am.RdF.nil)) (by kernel_rfl)
theorem jiP(os:Os)(args:Array Value):laidMetH Tryz.prog Rows.modelIdealRow.laid ((World.doorLaid Tryz.prog 400 os).forCall (fun _ _=>0) ⟨#[],args,[]⟩).memory:=
 laidMetH_of_parts3 (fuel:=8) (laidMet_of_run' 8 (by kernel_rfl) (by kernel_rfl)) (by kernel_rfl) (by kernel_rfl)
theorem jkg:Tryz.prog.globalNamed "math/bits.deBruijn32tab" = some 2:=by kernel_rfl
theorem jkb:(Tryz.prog.globals[2]?).map (·.type)=some 255:=by kernel_rfl
theorem jkj:(Am.Fl.arr (t:=255) 32 1 (Am.Fl.int .u8 (t:=5) Tryz.underlying5) Tryz.underlying255 (by kernel_rfl) (by kernel_rfl)).f Rows.laid_math_bits_deBruijn32tab=some Am.Sigs.jbi:=by kernel_rfl
theorem jkf:Tryz.prog.globalNamed "math/bits.deBruijn64tab" = some 3:=by kernel_rfl
theorem jka:(Tryz.prog.globals[3]?).map (·.type)=some 256:=by kernel_rfl
theorem jki:(Am.Fl.arr (t:=256) 64 1 (Am.Fl.int .u8 (t:=5) Tryz.underlying5) Tryz.underlying256 (by kernel_rfl) (by kernel_rfl)).f Rows.laid_math_bits_deBruijn64tab=some Am.Sigs.jbh:=by kernel_rfl
theorem jke:Tryz.prog.globalNamed "internal/strconv.uint64pow10" = some 0:=by kernel_rfl
theorem jjZ:(Tryz.prog.globals[0]?).map (·.type)=some 247:=by kernel_rfl
theorem jkh:(Am.Fl.arr (t:=247) 20 1 (Am.Fl.int .u64 (t:=33) Tryz.underlying33) Tryz.underlying247 (by kernel_rfl) (by kernel_rfl)).f Rows.laid_internal_strconv_uint64pow10=some Am.Sigs.jaI:=by kernel_rfl
set_option maxRecDepth 100000 in
theorem jgX(os:Os)(started:os.Started)(H:Type)(enc:TypeId×Value->H) :
  ReturnsInHanded {} Tryz.checked os 3 .any (fun w args=>(Rows.modelIdealSpec.pre enc Tryz.prog Tryz.f3 Rows.modelIdealRow.domain false w args/\laidMetH Tryz.prog Rows.modelIdealRow.laid w)/\sizedMet enc Tryz.prog Tryz.f3 (OpenSpec.ofChange Rows.modelIdealSpec) false w args)
   (Rows.modelIdealSpec.post enc Tryz.prog Tryz.f3 false true false false):=by
 refine returnsInHanded_of_change_and (C:=Tryz.checked) (X:=fun w _=>laidMetH Tryz.prog Rows.modelIdealRow.laid w) (fun _ _ _ hh h=>h.of_heap hh) jiO started (by kernel_rfl) Tryz.func3
  (ChangeSpec.witness_shaped (enc:=enc) (C:=Tryz.checked) (os:=os) (X:=fun w _=>laidMetH Tryz.prog Rows.modelIdealRow.laid w) false (World.doorLaid Tryz.prog 400 os) #[.slice none 0 0,.agg #[.slice none 0 0,.slice none 0 0]] 8 rfl (World.shaped_of_RefB (by kernel_rfl) (by kernel_rfl)) (by kernel_rfl) (by kernel_rfl) (by kernel_rfl) (jiP os _)) ?_
 intro W base args ds gs before hval0 hW _ _ hL _;have hval:∀(j:Nat) t v,Tryz.f3.params[j]?=some t->args[j]?=some v->Value.okWide Tryz.prog W .any base t v:=hval0;have hW':=hW;obtain⟨p,q,hA0,hV,rfl,hfz,hnd⟩:=hW;have hA:DataW.TrodAll enc Tryz.prog W 0 (fun _=>true) true Tryz.f3.params.toList args.toList ds p:=hA0;rw[Tryz.params3]at hA hval;obtain⟨v0,vs0,d0,ds0,p0,q0,ha,rfl,rfl,h0,hA1⟩:=Am.jl4 hA;obtain⟨v1,vs1,d1,ds1,p1,q1,rfl,rfl,rfl,h1,hA2⟩:=Am.jl4 hA1;obtain⟨rfl,rfl,rfl⟩:=Am.args_nil hA2;obtain rfl:args = #[v0,v1]:=by cases args;simp_all
 obtain⟨rfl,rfl⟩:=trodVars_none hV;have hlt:=hW'.lt;have r0:=Am.ro0 (P:=Tryz.prog) (C:=Am.Sigs.cx) (W:=W) 4;rw[MakeChecks.laidMetH_plain _ _ _ (by kernel_rfl)]at hL;obtain⟨ps,⟨g0,t0,cs0,f0,pp0,qq0,hg0,ht0,hv0,hd0,⟨g1,t1,cs1,f1,pp1,qq1,hg1,ht1,hv1,hd1,⟨g2,t2,cs2,f2,pp2,qq2,hg2,ht2,hv2,hd2,_,_⟩,_⟩,_⟩,_,_⟩:=hL;obtain rfl:=Option.some.inj (jkg.symm.trans hg0);obtain rfl:=Option.some.inj (jkb.symm.trans ht0);have s0:=r0.var (g:=2) (by rfl) (by decide) (Am.Fl.arr (t:=255) 32 1 (Am.Fl.int .u8 (t:=5) Tryz.underlying5) Tryz.underlying255 (by kernel_rfl) (by kernel_rfl)) hg0 hv0 hd0 jkj;obtain rfl:=Option.some.inj (jkf.symm.trans hg1);obtain rfl:=Option.some.inj (jka.symm.trans ht1);have s1:=s0.var (g:=3) (by rfl) (by decide) (Am.Fl.arr (t:=256) 64 1 (Am.Fl.int .u8 (t:=5) Tryz.underlying5) Tryz.underlying256 (by kernel_rfl) (by kernel_rfl)) hg1 hv1 hd1 jki;obtain rfl:=Option.some.inj (jke.symm.trans hg2);obtain rfl:=Option.some.inj (jjZ.symm.trans ht2);have s2:=s1.var (g:=0) (by rfl) (by decide) (Am.Fl.arr (t:=247) 20 1 (Am.Fl.int .u64 (t:=33) Tryz.underlying33) Tryz.underlying247 (by kernel_rfl) (by kernel_rfl)) hg2 hv2 hd2 jkh;have r0':=s2;obtain⟨x0,u0,m1,e1,r1,w0,n0,k0,y0⟩:=jdW.arg rfl r0' (Am.jmn Tryz.underlying22 (hval 0 22 v0 rfl rfl)) h0;obtain⟨x1,u1,m2,e2,r2,w1,n1,k1,y1⟩:=jfD.args r1 Tryz.underlying26 (hval 1 26 v1 rfl rfl) h1;have hnx:e2.nx=6507:=by rw[n1,n0];rfl
 have l0:e2.get 2=some (.cells Am.Sigs.jbi true):=by rw[(w0.trans w1).get 2 (by decide)];rfl
 have l1:e2.get 3=some (.cells Am.Sigs.jbh true):=by rw[(w0.trans w1).get 3 (by decide)];rfl
 have l2:e2.get 0=some (.cells Am.Sigs.jaI true):=by rw[(w0.trans w1).get 0 (by decide)];rfl
 obtain⟨h',hr⟩:=Am.Sigs.jkk (cl:=Am.jcl Am.Sigs.prog Am.Sigs.fuel) (fun _=>rfl) hnx (fun b hb=>r2.wf b (by rw[hnx];exact hb)) l0 l1 l2 (jdW.keep w1.nx w1.get k0) k1;have hG:Am.GOk Am.Sigs.cx m2:=by
  intro g hg;rw[jkd]at hg;have hg2:g=0\/g=2\/g=3:=by simp[Am.nbeq]at hg;omega
  rcases hg2 with rfl|rfl|rfl
  .exact⟨_,(w0.trans w1).mono _ _ (by rfl),rfl,rfl⟩
  .exact⟨_,(w0.trans w1).mono _ _ (by rfl),rfl,rfl⟩
  .exact⟨_,(w0.trans w1).mono _ _ (by rfl),rfl,rfl⟩
 refine (Am.call_fn (n:=30) (xs:= #[v0,v1]) (a:=Am.Sigs.c3) jkc (by kernel_rfl) (by kernel_rfl) hr r2.rel hG ⟨_,_,rfl,(y0.mono w1.mono),⟨_,_,rfl,y1,rfl⟩⟩).calls fun m' w' x hs hx=>?_;obtain rfl:x = .bool true:=hx;exact⟨_,rfl,Am.post1 hs r2.noOwned hW' (fun _ _ _=>trodAll_mk1 (shut_bool (t:=4) (by kernel_rfl) true))
  (Am.jpg (Below.trod jeE (by kernel_rfl) (of_decide_eq_true (by kernel_rfl)) h0 (Am.jk1 hs r2.noOwned) (fun x hx=>hlt x (by simp[hx]))) (Am.jpg (Below.trod jeE (by kernel_rfl) (of_decide_eq_true (by kernel_rfl)) h1 (Am.jk1 hs r2.noOwned) (fun x hx=>hlt x (by simp[hx]))) trodAll_mk0)) rfl⟩
theorem jiN:Rows.ModelIdealSaid:=
 OpenClaim.holds_of_wide 3 Tryz.f3 rfl rfl rfl rfl rfl rfl rfl ⟨rfl,rfl,rfl,rfl,rfl⟩ rfl rfl rfl rfl rfl (by kernel_rfl) Tryz.func3 (by kernel_rfl)
  (of_decide_eq_true (by kernel_rfl)) (by unfold Func.isWrapper;first|(rw[if_pos (by decide +kernel)];kernel_rfl)|(rw[if_neg (by decide +kernel)];exact⟨rfl,rfl⟩))
  (fun os started H enc _=>jgX os started H enc)
theorem modelIdeal_holds:Rows.ModelIdealCardSaid:=
 Claim7.holds_tied_plain_at .later [] [.data,.data,.data] true (true,"f000af8e30fa8f5c8e4349c2071c127d4cbb9e9cb797b7919dce560c4ce4c040") false
  jiN (fun _ h=>by cases h) (by kernel_rfl) (fun _ h=>by cases h) modelIdeal_row_tie rfl ⟨rfl,rfl⟩ (by kernel_rfl) rfl
  (fun f fn hf hfn=>by
   obtain rfl:f=3:=Option.some.inj ((show Tryz.prog.funcNamed "roundhouse/roundhouselaw29.ModelIdeal" = some 3 by kernel_rfl).symm.trans hf) |>.symm
   obtain rfl:fn=Tryz.f3:=(Option.some.inj (Tryz.func3.symm.trans hfn)).symm;exact⟨by kernel_rfl,fun j t ht=>by
    rw[Tryz.params3]at ht
    match j,ht with
    |0,ht=>cases ht;exact (show Tryz.prog.wantsStandIn 22=false by kernel_rfl)
    |1,ht=>cases ht;exact (show Tryz.prog.wantsStandIn 26=false by kernel_rfl)
    |k+2,ht=>simp at ht⟩)
  (by kernel_rfl)
end Go.Proofs.YtphpefladchggaaGreatDoor
