/- 'MovesMakes': for every input the call returns true, and the input reads as it did. The listed variables read as the text lays them. -/
import Derived.Test.YtbfpbbppgffpnaaGreatDoorRows
import Derived.Test.YtbfpbbppgffpnaaGreatDoorCards
import Derived.Test.YtbfpbbppgffpnaaGreatDoorTie
import Derived.ProofKit
import Derived.LaidMore
import Derived.SevenTiedAt
import Derived.Test.YtbfpbbppgffpnaaGreatDoorM24
import Derived.Test.YtbfpbbppgffpnaaGreatDoorM25
import Derived.Test.YtbfpbbppgffpnaaGreatDoorM27
set_option maxHeartbeats 8000000
set_option linter.all false
namespace Go.Proofs.YtbfpbbppgffpnaaGreatDoor
open Go.ChangeShapes Go.WideShapes Go.ChangeAt Go.RowKit
theorem jgj:Am.jk1 Tryz.prog Am.Sigs.cx.T=true:=by kernel_rfl
theorem jhv:(Am.Sigs.prog.fns.all fun p=>Am.fnM Tryz.prog Am.Sigs.cx p.1 p.2)=true:=by kernel_rfl
set_option maxRecDepth 100000 in
theorem jiu:Am.ProgOk Tryz.prog Am.Sigs.cx Am.Sigs.prog := {
 types:=Am.TOk.of_check jgj,
 mixed:=Tryz.checked.mixed,
 fns:=fun f a h=>List.all_eq_true.1 jhv _ (Am.jec h),
 primF:=Am.Sigs.primsF,
 primOk:=Am.Sigs.primsOk }
theorem jht:ownKnob Tryz.prog.godebug=none:=by kernel_rfl
theorem jdR:laidOutB Tryz.prog=true:=by kernel_rfl
theorem jiv:Am.Sigs.cx.gl=[1,2,3]:=rfl
noncomputable def jb6:Am.Rd Tryz.prog 3 Int:=Am.Rd.int .i64 (t:=3) Tryz.underlying3 (by kernel_rfl)
noncomputable def jgP:Am.Rd Tryz.prog 26 Int:=Am.Rd.int .u64 (t:=26) Tryz.underlying26 (by kernel_rfl)
noncomputable def jey:Am.Rd Tryz.prog 5 Int:=Am.Rd.int .u8 (t:=5) Tryz.underlying5 (by kernel_rfl)
noncomputable def jfB:Am.Rd Tryz.prog 34 (List Int):=Am.Rd.slice 300 jey (t:=34) Tryz.underlying34 (by kernel_rfl) (by decide)
noncomputable def jfe:Am.Rd Tryz.prog 36 (Int × (Int × (Int × (Int × ((List Int) × Unit))))):=Am.Rd.st (t:=36) Tryz.underlying36 (Am.RdF.cons jb6 rfl (Am.RdF.cons jb6 rfl (Am.RdF.cons jb6 rfl (Am.RdF.cons jgP rfl (Am.RdF.cons jfB rfl Am.RdF.nil))))) (by kernel_rfl)
noncomputable def jds:Am.Rd Tryz.prog 22 (List (Int × (Int × (Int × (Int × ((List Int) × Unit)))))):=Am.Rd.slice 200 jfe (t:=22) Tryz.underlying22 (by kernel_rfl) (by decide)
noncomputable def jfA:Am.Rd Tryz.prog 34 (List Int):=Am.Rd.slice 1100 jey (t:=34) Tryz.underlying34 (by kernel_rfl) (by decide)
noncomputable def jfd:Am.Rd Tryz.prog 45 (Int × (Int × (Int × ((List Int) × Unit)))):=Am.Rd.st (t:=45) Tryz.underlying45 (Am.RdF.cons jb6 rfl (Am.RdF.cons jb6 rfl (Am.RdF.cons jb6 rfl (Am.RdF.cons jfA rfl Am.RdF.nil)))) (by kernel_rfl)
noncomputable def jfC:Am.Rd Tryz.prog 23 (List (Int × (Int × (Int × ((List Int) × Unit))))):=Am.Rd.slice 50 jfd (t:=23) Tryz.underlying23 (by kernel_rfl) (by decide)
theorem jhu (os:Os) (args:Array Value):laidMetH Tryz.prog Rows.movesMakesRow.laid ((World.doorLaid Tryz.prog 400 os).forCall (fun _ _=>0) ⟨#[],args,[]⟩).memory :=
 laidMetH_of_parts3 (fuel:=8) (laidMet_of_run' 8 (by kernel_rfl) (by kernel_rfl)) (by kernel_rfl) (by kernel_rfl)
theorem jiy:Tryz.prog.globalNamed "math/bits.deBruijn32tab" = some 2:=by kernel_rfl
theorem jit:(Tryz.prog.globals[2]?).map (·.type)=some 229:=by kernel_rfl
theorem ji1:(Am.Fl.arr (t:=229) 32 1 (Am.Fl.int .u8 (t:=5) Tryz.underlying5) Tryz.underlying229 (by kernel_rfl) (by kernel_rfl)).f Rows.laid_math_bits_deBruijn32tab=some Am.Sigs.jba:=by kernel_rfl
theorem jix:Tryz.prog.globalNamed "math/bits.deBruijn64tab" = some 3:=by kernel_rfl
theorem jis:(Tryz.prog.globals[3]?).map (·.type)=some 230:=by kernel_rfl
theorem ji0:(Am.Fl.arr (t:=230) 64 1 (Am.Fl.int .u8 (t:=5) Tryz.underlying5) Tryz.underlying230 (by kernel_rfl) (by kernel_rfl)).f Rows.laid_math_bits_deBruijn64tab=some Am.Sigs.jaZ:=by kernel_rfl
theorem jiw:Tryz.prog.globalNamed "internal/strconv.uint64pow10" = some 1:=by kernel_rfl
theorem jir:(Tryz.prog.globals[1]?).map (·.type)=some 220:=by kernel_rfl
theorem jiz:(Am.Fl.arr (t:=220) 20 1 (Am.Fl.int .u64 (t:=26) Tryz.underlying26) Tryz.underlying220 (by kernel_rfl) (by kernel_rfl)).f Rows.laid_internal_strconv_uint64pow10=some Am.Sigs.jaB:=by kernel_rfl
set_option maxRecDepth 100000 in
theorem jfD (os:Os) (started:os.Started) (H:Type) (enc:TypeId × Value->H) :
  ReturnsInHanded {} Tryz.checked os 3 .any (fun w args=>(Rows.movesMakesSpec.pre enc Tryz.prog Tryz.f3 Rows.movesMakesRow.domain false w args/\laidMetH Tryz.prog Rows.movesMakesRow.laid w)/\sizedMet enc Tryz.prog Tryz.f3 (OpenSpec.ofChange Rows.movesMakesSpec) false w args)
   (Rows.movesMakesSpec.post enc Tryz.prog Tryz.f3 false true false false):=by
 refine returnsInHanded_of_change_and (C:=Tryz.checked) (X:=fun w _=>laidMetH Tryz.prog Rows.movesMakesRow.laid w) (fun _ _ _ hh h=>h.of_heap hh) jht started (by kernel_rfl) Tryz.func3
  (ChangeSpec.witness_shaped (enc:=enc) (C:=Tryz.checked) (os:=os) (X:=fun w _=>laidMetH Tryz.prog Rows.movesMakesRow.laid w) false (World.doorLaid Tryz.prog 400 os) #[.slice none 0 0,.slice none 0 0] 8 rfl (World.shaped_of_RefB (by kernel_rfl) (by kernel_rfl)) (by kernel_rfl) (by kernel_rfl) (by kernel_rfl) (jhu os _)) ?_
 intro W base args ds gs before hval0 hW _ _ hL _
 have hval : ∀ (j:Nat) t v,Tryz.f3.params[j]?=some t->args[j]?=some v->Value.okWide Tryz.prog W .any base t v:=hval0
 have hW':=hW
 obtain ⟨p,q,hA0,hV,rfl,hfz,hnd⟩:=hW
 have hA:DataW.TrodAll enc Tryz.prog W 0 (fun _=>true) true Tryz.f3.params.toList args.toList ds p:=hA0
 rw [Tryz.params3] at hA hval
 obtain ⟨v0,vs0,d0,ds0,p0,q0,ha,rfl,rfl,h0,hA1⟩:=Am.jjG hA
 obtain ⟨v1,vs1,d1,ds1,p1,q1,rfl,rfl,rfl,h1,hA2⟩:=Am.jjG hA1
 obtain ⟨rfl,rfl,rfl⟩:=Am.args_nil hA2
 obtain rfl:args = #[v0,v1]:=by cases args;simp_all
 obtain ⟨rfl,rfl⟩:=trodVars_none hV
 have hlt:=hW'.lt
 have r0:=Am.ro0 (P:=Tryz.prog) (C:=Am.Sigs.cx) (W:=W) 4
 rw [MakeChecks.laidMetH_plain _ _ _ (by kernel_rfl)] at hL
 obtain ⟨ps,⟨g0,t0,cs0,f0,pp0,qq0,hg0,ht0,hv0,hd0,⟨g1,t1,cs1,f1,pp1,qq1,hg1,ht1,hv1,hd1,⟨g2,t2,cs2,f2,pp2,qq2,hg2,ht2,hv2,hd2,_,_⟩,_⟩,_⟩,_,_⟩:=hL
 obtain rfl:=Option.some.inj (jiy.symm.trans hg0)
 obtain rfl:=Option.some.inj (jit.symm.trans ht0)
 have s0:=r0.var (g:=2) (by rfl) (by decide) (Am.Fl.arr (t:=229) 32 1 (Am.Fl.int .u8 (t:=5) Tryz.underlying5) Tryz.underlying229 (by kernel_rfl) (by kernel_rfl)) hg0 hv0 hd0 ji1
 obtain rfl:=Option.some.inj (jix.symm.trans hg1)
 obtain rfl:=Option.some.inj (jis.symm.trans ht1)
 have s1:=s0.var (g:=3) (by rfl) (by decide) (Am.Fl.arr (t:=230) 64 1 (Am.Fl.int .u8 (t:=5) Tryz.underlying5) Tryz.underlying230 (by kernel_rfl) (by kernel_rfl)) hg1 hv1 hd1 ji0
 obtain rfl:=Option.some.inj (jiw.symm.trans hg2)
 obtain rfl:=Option.some.inj (jir.symm.trans ht2)
 have s2:=s1.var (g:=1) (by rfl) (by decide) (Am.Fl.arr (t:=220) 20 1 (Am.Fl.int .u64 (t:=26) Tryz.underlying26) Tryz.underlying220 (by kernel_rfl) (by kernel_rfl)) hg2 hv2 hd2 jiz
 have r0':=s2
 obtain ⟨x0,u0,m1,e1,r1,w0,n0,k0,y0⟩:=jds.arg rfl r0' (Am.jhb Tryz.underlying22 (hval 0 22 v0 rfl rfl)) h0
 obtain ⟨x1,u1,m2,e2,r2,w1,n1,k1,y1⟩:=jfC.arg rfl r1 (Am.jhb Tryz.underlying23 (hval 1 23 v1 rfl rfl)) h1
 have hnx:e2.nx=256:=by rw [n1,n0];rfl
 have l0:e2.get 2=some (.cells Am.Sigs.jba true):=by rw [(w0.trans w1).get 2 (by decide)];rfl
 have l1:e2.get 3=some (.cells Am.Sigs.jaZ true):=by rw [(w0.trans w1).get 3 (by decide)];rfl
 have l2:e2.get 1=some (.cells Am.Sigs.jaB true):=by rw [(w0.trans w1).get 1 (by decide)];rfl
 obtain ⟨h',hr⟩:=Am.Sigs.ji2 (cl:=Am.jbS Am.Sigs.prog Am.Sigs.fuel) (fun _=>rfl) hnx (fun b hb=>r2.wf b (by rw [hnx];exact hb)) l0 l1 l2 (jds.keep w1.nx w1.get k0) k1
 have hG:Am.GOk Am.Sigs.cx m2:=by
  intro g hg
  rw [jiv] at hg
  have hg2:g=1\/g=2\/g=3:=by simp [Am.nbeq] at hg;omega
  rcases hg2 with rfl | rfl | rfl
  ·exact ⟨_,(w0.trans w1).mono _ _ (by rfl),rfl,rfl⟩
  ·exact ⟨_,(w0.trans w1).mono _ _ (by rfl),rfl,rfl⟩
  ·exact ⟨_,(w0.trans w1).mono _ _ (by rfl),rfl,rfl⟩
 refine (Am.call_fn (n:=30) (xs := #[v0,v1]) (a:=Am.Sigs.c3) jiu (by rfl) (by rfl) hr r2.rel hG ⟨_,_,rfl,(y0.mono w1.mono),⟨_,_,rfl,y1,rfl⟩⟩).calls fun m' w' x hs hx=>?_
 obtain rfl:x = .bool true:=hx
 exact ⟨_,rfl,Am.post1 hs r2.noOwned hW' (fun _ _ _=>trodAll_mk1 (shut_bool (t:=4) (by kernel_rfl) true))
  (Am.jmA (Below.trod jdR (by kernel_rfl) (of_decide_eq_true (by kernel_rfl)) h0 (Am.jiI hs r2.noOwned) (fun x hx=>hlt x (by simp [hx]))) (Am.jmA (Below.trod jdR (by kernel_rfl) (of_decide_eq_true (by kernel_rfl)) h1 (Am.jiI hs r2.noOwned) (fun x hx=>hlt x (by simp [hx]))) trodAll_mk0)) rfl⟩
theorem jhs:Rows.MovesMakesSaid :=
 OpenClaim.holds_of_wide 3 Tryz.f3 rfl rfl rfl rfl rfl rfl rfl ⟨rfl,rfl,rfl,rfl,rfl⟩ rfl rfl rfl rfl rfl (by kernel_rfl) Tryz.func3 (by kernel_rfl)
  (of_decide_eq_true (by kernel_rfl)) (by unfold Func.isWrapper;first | (rw [if_pos (by decide +kernel)];kernel_rfl) | (rw [if_neg (by decide +kernel)];exact ⟨rfl,rfl⟩))
  (fun os started H enc _=>jfD os started H enc)
theorem movesMakes_holds:Rows.MovesMakesCardSaid :=
 Claim7.holds_tied_plain_at .later [] [.data,.data,.data] true (true,"c3c98b5ceae12e64bb3207d44579e7cbee6eca7d0a263e949aab289c1a267c91") false
  jhs (fun _ h=>by cases h) (by kernel_rfl) (fun _ h=>by cases h) movesMakes_row_tie rfl ⟨rfl,rfl⟩ (by kernel_rfl) rfl
  (fun f fn hf hfn=>by
   obtain rfl:f=3:=Option.some.inj ((show Tryz.prog.funcNamed "roundhouse/roundhouselaw12.MovesMakes" = some 3 by kernel_rfl).symm.trans hf) |>.symm
   obtain rfl:fn=Tryz.f3:=(Option.some.inj (Tryz.func3.symm.trans hfn)).symm
   exact ⟨by kernel_rfl,fun j t ht=>by
    rw [Tryz.params3] at ht
    match j,ht with
    | 0,ht=>cases ht;exact (show Tryz.prog.wantsStandIn 22=false by kernel_rfl)
    | 1,ht=>cases ht;exact (show Tryz.prog.wantsStandIn 23=false by kernel_rfl)
    | k+2,ht=>simp at ht⟩)
  (by kernel_rfl)
end Go.Proofs.YtbfpbbppgffpnaaGreatDoor
