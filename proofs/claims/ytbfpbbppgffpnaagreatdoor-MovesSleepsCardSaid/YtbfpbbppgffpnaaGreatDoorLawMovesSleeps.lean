/- 'MovesSleeps': for every input the call returns true, and the input reads as it did. The listed variables read as the text lays them. -/
import Derived.Test.YtbfpbbppgffpnaaGreatDoorRows
import Derived.Test.YtbfpbbppgffpnaaGreatDoorCards
import Derived.Test.YtbfpbbppgffpnaaGreatDoorTie
import Derived.ProofKit
import Derived.LaidMore
import Derived.SevenTiedAt
import Derived.Test.YtbfpbbppgffpnaaGreatDoorN26
import Derived.Test.YtbfpbbppgffpnaaGreatDoorN27
import Derived.Test.YtbfpbbppgffpnaaGreatDoorN29
set_option maxHeartbeats 8000000
set_option linter.all false
namespace Go.Proofs.YtbfpbbppgffpnaaGreatDoor
open Go.ChangeShapes Go.WideShapes Go.ChangeAt Go.RowKit
theorem jg7:Am.jlK Tryz.prog Am.Sigs.cx.T=true:=by kernel_rfl
theorem jhU:(Am.Sigs.prog.fns.all fun p=>Am.fnM Tryz.prog Am.Sigs.cx p.1 p.2)=true:=by kernel_rfl
set_option maxRecDepth 100000 in
theorem ji1:Am.ProgOk Tryz.prog Am.Sigs.cx Am.Sigs.prog := {
 types:=Am.TOk.of_check jg7,
 mixed:=Tryz.checked.mixed,
 fns:=fun f a h=>List.all_eq_true.1 jhU _ (Am.je8 h),
 primF:=Am.Sigs.primsF,
 primOk:=Am.Sigs.primsOk }
theorem jhS:ownKnob Tryz.prog.godebug=none:=by kernel_rfl
theorem jcM:laidOutB Tryz.prog=true:=by kernel_rfl
theorem ji2:Am.Sigs.cx.gl=[1,2,3]:=rfl
noncomputable def jaM:Am.Rd Tryz.prog 3 Int:=Am.Rd.int .i64 (t:=3) Tryz.underlying3 (by kernel_rfl)
noncomputable def jcL:Am.Rd Tryz.prog 26 Int:=Am.Rd.int .u64 (t:=26) Tryz.underlying26 (by kernel_rfl)
noncomputable def jeu:Am.Rd Tryz.prog 5 Int:=Am.Rd.int .u8 (t:=5) Tryz.underlying5 (by kernel_rfl)
noncomputable def jfT:Am.Rd Tryz.prog 34 (List Int):=Am.Rd.slice 300 jeu (t:=34) Tryz.underlying34 (by kernel_rfl) (by decide)
noncomputable def jft:Am.Rd Tryz.prog 36 (Int × (Int × (Int × (Int × ((List Int) × Unit))))):=Am.Rd.st (t:=36) Tryz.underlying36 (Am.RdF.cons jaM rfl (Am.RdF.cons jaM rfl (Am.RdF.cons jaM rfl (Am.RdF.cons jcL rfl (Am.RdF.cons jfT rfl Am.RdF.nil))))) (by kernel_rfl)
noncomputable def jdv:Am.Rd Tryz.prog 22 (List (Int × (Int × (Int × (Int × ((List Int) × Unit)))))):=Am.Rd.slice 200 jft (t:=22) Tryz.underlying22 (by kernel_rfl) (by decide)
noncomputable def jev:Am.Rd Tryz.prog 4 Bool:=Am.Rd.bool (t:=4) Tryz.underlying4 (by kernel_rfl)
noncomputable def jfU:Am.Rd Tryz.prog 27 (List Int):=Am.Rd.slice 60 jaM (t:=27) Tryz.underlying27 (by kernel_rfl) (by decide)
noncomputable def jfS:Am.Rd Tryz.prog 34 (List Int):=Am.Rd.slice 1100 jeu (t:=34) Tryz.underlying34 (by kernel_rfl) (by decide)
noncomputable def jfs:Am.Rd Tryz.prog 45 (Int × (Int × (Int × ((List Int) × Unit)))):=Am.Rd.st (t:=45) Tryz.underlying45 (Am.RdF.cons jaM rfl (Am.RdF.cons jaM rfl (Am.RdF.cons jaM rfl (Am.RdF.cons jfS rfl Am.RdF.nil)))) (by kernel_rfl)
noncomputable def jfV:Am.Rd Tryz.prog 23 (List (Int × (Int × (Int × ((List Int) × Unit))))):=Am.Rd.slice 60 jfs (t:=23) Tryz.underlying23 (by kernel_rfl) (by decide)
noncomputable def jeY:Am.Rd Tryz.prog 29 (Int × (Bool × ((List Int) × ((List (Int × (Int × (Int × ((List Int) × Unit))))) × Unit)))):=Am.Rd.st (t:=29) Tryz.underlying29 (Am.RdF.cons jcL rfl (Am.RdF.cons jev rfl (Am.RdF.cons jfU rfl (Am.RdF.cons jfV rfl Am.RdF.nil)))) (by kernel_rfl)
noncomputable def jdu:Am.Rd Tryz.prog 30 (List (Int × (Bool × ((List Int) × ((List (Int × (Int × (Int × ((List Int) × Unit))))) × Unit))))):=Am.Rd.slice 100 jeY (t:=30) Tryz.underlying30 (by kernel_rfl) (by decide)
noncomputable def jeX:Am.Rd Tryz.prog 58 (Int × (Bool × (Int × Unit))):=Am.Rd.st (t:=58) Tryz.underlying58 (Am.RdF.cons jcL rfl (Am.RdF.cons jev rfl (Am.RdF.cons jaM rfl Am.RdF.nil))) (by kernel_rfl)
noncomputable def jfR:Am.Rd Tryz.prog 50 (List (Int × (Bool × (Int × Unit)))):=Am.Rd.slice 30 jeX (t:=50) Tryz.underlying50 (by kernel_rfl) (by decide)
theorem jhT (os:Os) (args:Array Value):laidMetH Tryz.prog Rows.movesSleepsRow.laid ((World.doorLaid Tryz.prog 400 os).forCall (fun _ _=>0) ⟨#[],args,[]⟩).memory :=
 laidMetH_of_parts3 (fuel:=8) (laidMet_of_run' 8 (by kernel_rfl) (by kernel_rfl)) (by kernel_rfl) (by kernel_rfl)
theorem ji5:Tryz.prog.globalNamed "math/bits.deBruijn32tab" = some 2:=by kernel_rfl
theorem ji0:(Tryz.prog.globals[2]?).map (·.type)=some 229:=by kernel_rfl
theorem ji8:(Am.Fl.arr (t:=229) 32 1 (Am.Fl.int .u8 (t:=5) Tryz.underlying5) Tryz.underlying229 (by kernel_rfl) (by kernel_rfl)).f Rows.laid_math_bits_deBruijn32tab=some Am.Sigs.jbf:=by kernel_rfl
theorem ji4:Tryz.prog.globalNamed "math/bits.deBruijn64tab" = some 3:=by kernel_rfl
theorem jiz:(Tryz.prog.globals[3]?).map (·.type)=some 230:=by kernel_rfl
theorem ji7:(Am.Fl.arr (t:=230) 64 1 (Am.Fl.int .u8 (t:=5) Tryz.underlying5) Tryz.underlying230 (by kernel_rfl) (by kernel_rfl)).f Rows.laid_math_bits_deBruijn64tab=some Am.Sigs.jbe:=by kernel_rfl
theorem ji3:Tryz.prog.globalNamed "internal/strconv.uint64pow10" = some 1:=by kernel_rfl
theorem jiy:(Tryz.prog.globals[1]?).map (·.type)=some 220:=by kernel_rfl
theorem ji6:(Am.Fl.arr (t:=220) 20 1 (Am.Fl.int .u64 (t:=26) Tryz.underlying26) Tryz.underlying220 (by kernel_rfl) (by kernel_rfl)).f Rows.laid_internal_strconv_uint64pow10=some Am.Sigs.jaD:=by kernel_rfl
set_option maxRecDepth 100000 in
theorem jfW (os:Os) (started:os.Started) (H:Type) (enc:TypeId × Value->H) :
  ReturnsInHanded {} Tryz.checked os 4 .any (fun w args=>(Rows.movesSleepsSpec.pre enc Tryz.prog Tryz.f4 Rows.movesSleepsRow.domain false w args/\laidMetH Tryz.prog Rows.movesSleepsRow.laid w)/\sizedMet enc Tryz.prog Tryz.f4 (OpenSpec.ofChange Rows.movesSleepsSpec) false w args)
   (Rows.movesSleepsSpec.post enc Tryz.prog Tryz.f4 false true false false):=by
 refine returnsInHanded_of_change_and (C:=Tryz.checked) (X:=fun w _=>laidMetH Tryz.prog Rows.movesSleepsRow.laid w) (fun _ _ _ hh h=>h.of_heap hh) jhS started (by kernel_rfl) Tryz.func4
  (ChangeSpec.witness_shaped (enc:=enc) (C:=Tryz.checked) (os:=os) (X:=fun w _=>laidMetH Tryz.prog Rows.movesSleepsRow.laid w) false (World.doorLaid Tryz.prog 400 os) #[.slice none 0 0,.slice none 0 0,.slice none 0 0] 8 rfl (World.shaped_of_RefB (by kernel_rfl) (by kernel_rfl)) (by kernel_rfl) (by kernel_rfl) (by kernel_rfl) (jhT os _)) ?_
 intro W base args ds gs before hval0 hW _ _ hL _
 have hval : ∀ (j:Nat) t v,Tryz.f4.params[j]?=some t->args[j]?=some v->Value.okWide Tryz.prog W .any base t v:=hval0
 have hW':=hW
 obtain ⟨p,q,hA0,hV,rfl,hfz,hnd⟩:=hW
 have hA:DataW.TrodAll enc Tryz.prog W 0 (fun _=>true) true Tryz.f4.params.toList args.toList ds p:=hA0
 rw [Tryz.params4] at hA hval
 obtain ⟨v0,vs0,d0,ds0,p0,q0,ha,rfl,rfl,h0,hA1⟩:=Am.jim hA
 obtain ⟨v1,vs1,d1,ds1,p1,q1,rfl,rfl,rfl,h1,hA2⟩:=Am.jim hA1
 obtain ⟨v2,vs2,d2,ds2,p2,q2,rfl,rfl,rfl,h2,hA3⟩:=Am.jim hA2
 obtain ⟨rfl,rfl,rfl⟩:=Am.args_nil hA3
 obtain rfl:args = #[v0,v1,v2]:=by cases args;simp_all
 obtain ⟨rfl,rfl⟩:=trodVars_none hV
 have hlt:=hW'.lt
 have r0:=Am.ro0 (P:=Tryz.prog) (C:=Am.Sigs.cx) (W:=W) 4
 rw [MakeChecks.laidMetH_plain _ _ _ (by kernel_rfl)] at hL
 obtain ⟨ps,⟨g0,t0,cs0,f0,pp0,qq0,hg0,ht0,hv0,hd0,⟨g1,t1,cs1,f1,pp1,qq1,hg1,ht1,hv1,hd1,⟨g2,t2,cs2,f2,pp2,qq2,hg2,ht2,hv2,hd2,_,_⟩,_⟩,_⟩,_,_⟩:=hL
 obtain rfl:=Option.some.inj (ji5.symm.trans hg0)
 obtain rfl:=Option.some.inj (ji0.symm.trans ht0)
 have s0:=r0.var (g:=2) (by rfl) (by decide) (Am.Fl.arr (t:=229) 32 1 (Am.Fl.int .u8 (t:=5) Tryz.underlying5) Tryz.underlying229 (by kernel_rfl) (by kernel_rfl)) hg0 hv0 hd0 ji8
 obtain rfl:=Option.some.inj (ji4.symm.trans hg1)
 obtain rfl:=Option.some.inj (jiz.symm.trans ht1)
 have s1:=s0.var (g:=3) (by rfl) (by decide) (Am.Fl.arr (t:=230) 64 1 (Am.Fl.int .u8 (t:=5) Tryz.underlying5) Tryz.underlying230 (by kernel_rfl) (by kernel_rfl)) hg1 hv1 hd1 ji7
 obtain rfl:=Option.some.inj (ji3.symm.trans hg2)
 obtain rfl:=Option.some.inj (jiy.symm.trans ht2)
 have s2:=s1.var (g:=1) (by rfl) (by decide) (Am.Fl.arr (t:=220) 20 1 (Am.Fl.int .u64 (t:=26) Tryz.underlying26) Tryz.underlying220 (by kernel_rfl) (by kernel_rfl)) hg2 hv2 hd2 ji6
 have r0':=s2
 obtain ⟨x0,u0,m1,e1,r1,w0,n0,k0,y0⟩:=jdv.arg rfl r0' (Am.jfv Tryz.underlying22 (hval 0 22 v0 rfl rfl)) h0
 obtain ⟨x1,u1,m2,e2,r2,w1,n1,k1,y1⟩:=jdu.arg rfl r1 (Am.jfv Tryz.underlying30 (hval 1 30 v1 rfl rfl)) h1
 obtain ⟨x2,u2,m3,e3,r3,w2,n2,k2,y2⟩:=jfR.arg rfl r2 (Am.jfv Tryz.underlying50 (hval 2 50 v2 rfl rfl)) h2
 have hnx:e3.nx=6407:=by rw [n2,n1,n0];rfl
 have l0:e3.get 2=some (.cells Am.Sigs.jbf true):=by rw [((w0.trans w1).trans w2).get 2 (by decide)];rfl
 have l1:e3.get 3=some (.cells Am.Sigs.jbe true):=by rw [((w0.trans w1).trans w2).get 3 (by decide)];rfl
 have l2:e3.get 1=some (.cells Am.Sigs.jaD true):=by rw [((w0.trans w1).trans w2).get 1 (by decide)];rfl
 obtain ⟨h',hr⟩:=Am.Sigs.ji9 (cl:=Am.jcb Am.Sigs.prog Am.Sigs.fuel) (fun _=>rfl) hnx (fun b hb=>r3.wf b (by rw [hnx];exact hb)) l0 l1 l2 (jdv.keep (w1.trans w2).nx (w1.trans w2).get k0) (jdu.keep w2.nx w2.get k1) k2
 have hG:Am.GOk Am.Sigs.cx m3:=by
  intro g hg
  rw [ji2] at hg
  have hg2:g=1\/g=2\/g=3:=by simp [Am.nbeq] at hg;omega
  rcases hg2 with rfl | rfl | rfl
  ·exact ⟨_,((w0.trans w1).trans w2).mono _ _ (by rfl),rfl,rfl⟩
  ·exact ⟨_,((w0.trans w1).trans w2).mono _ _ (by rfl),rfl,rfl⟩
  ·exact ⟨_,((w0.trans w1).trans w2).mono _ _ (by rfl),rfl,rfl⟩
 refine (Am.call_fn (n:=30) (xs := #[v0,v1,v2]) (a:=Am.Sigs.c4) ji1 (by rfl) (by rfl) hr r3.rel hG ⟨_,_,rfl,(y0.mono (w1.trans w2).mono),⟨_,_,rfl,(y1.mono w2.mono),⟨_,_,rfl,y2,rfl⟩⟩⟩).calls fun m' w' x hs hx=>?_
 obtain rfl:x = .bool true:=hx
 exact ⟨_,rfl,Am.post1 hs r3.noOwned hW' (fun _ _ _=>trodAll_mk1 (shut_bool (t:=4) (by kernel_rfl) true))
  (Am.jl9 (Below.trod jcM (by kernel_rfl) (of_decide_eq_true (by kernel_rfl)) h0 (Am.jhp hs r3.noOwned) (fun x hx=>hlt x (by simp [hx]))) (Am.jl9 (Below.trod jcM (by kernel_rfl) (of_decide_eq_true (by kernel_rfl)) h1 (Am.jhp hs r3.noOwned) (fun x hx=>hlt x (by simp [hx]))) (Am.jl9 (Below.trod jcM (by kernel_rfl) (of_decide_eq_true (by kernel_rfl)) h2 (Am.jhp hs r3.noOwned) (fun x hx=>hlt x (by simp [hx]))) trodAll_mk0))) rfl⟩
theorem jhR:Rows.MovesSleepsSaid :=
 OpenClaim.holds_of_wide 4 Tryz.f4 rfl rfl rfl rfl rfl rfl rfl ⟨rfl,rfl,rfl,rfl,rfl⟩ rfl rfl rfl rfl rfl (by kernel_rfl) Tryz.func4 (by kernel_rfl)
  (of_decide_eq_true (by kernel_rfl)) (by unfold Func.isWrapper;first | (rw [if_pos (by decide +kernel)];kernel_rfl) | (rw [if_neg (by decide +kernel)];exact ⟨rfl,rfl⟩))
  (fun os started H enc _=>jfW os started H enc)
theorem movesSleeps_holds:Rows.MovesSleepsCardSaid :=
 Claim7.holds_tied_plain_at .later [] [.data,.data,.data] true (true,"c3c98b5ceae12e64bb3207d44579e7cbee6eca7d0a263e949aab289c1a267c91") false
  jhR (fun _ h=>by cases h) (by kernel_rfl) (fun _ h=>by cases h) movesSleeps_row_tie rfl ⟨rfl,rfl⟩ (by kernel_rfl) rfl
  (fun f fn hf hfn=>by
   obtain rfl:f=4:=Option.some.inj ((show Tryz.prog.funcNamed "roundhouse/roundhouselaw12.MovesSleeps" = some 4 by kernel_rfl).symm.trans hf) |>.symm
   obtain rfl:fn=Tryz.f4:=(Option.some.inj (Tryz.func4.symm.trans hfn)).symm
   exact ⟨by kernel_rfl,fun j t ht=>by
    rw [Tryz.params4] at ht
    match j,ht with
    | 0,ht=>cases ht;exact (show Tryz.prog.wantsStandIn 22=false by kernel_rfl)
    | 1,ht=>cases ht;exact (show Tryz.prog.wantsStandIn 30=false by kernel_rfl)
    | 2,ht=>cases ht;exact (show Tryz.prog.wantsStandIn 50=false by kernel_rfl)
    | k+3,ht=>simp at ht⟩)
  (by kernel_rfl)
end Go.Proofs.YtbfpbbppgffpnaaGreatDoor
