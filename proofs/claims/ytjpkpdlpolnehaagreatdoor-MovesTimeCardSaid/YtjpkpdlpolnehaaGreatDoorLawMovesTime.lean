/- 'MovesTime': for every input the call returns true, and the input reads as it did. The listed variables read as the text lays them. -/
import Derived.Test.YtjpkpdlpolnehaaGreatDoorRows
import Derived.Test.YtjpkpdlpolnehaaGreatDoorCards
import Derived.Test.YtjpkpdlpolnehaaGreatDoorTie
import Derived.ProofKit
import Derived.LaidMore
import Derived.SevenTiedAt
import Derived.Test.YtjpkpdlpolnehaaGreatDoorV21
import Derived.Test.YtjpkpdlpolnehaaGreatDoorV22
import Derived.Test.YtjpkpdlpolnehaaGreatDoorV23
import Derived.Test.YtjpkpdlpolnehaaGreatDoorV25
set_option maxHeartbeats 8000000
set_option maxRecDepth 800
set_option linter.all false
namespace Go.Proofs.YtjpkpdlpolnehaaGreatDoor
open Go.ChangeShapes Go.WideShapes Go.ChangeAt Go.RowKit
theorem jf5:Am.jg0 Tryz.prog Am.Sigs.cx.T=true:=by kernel_rfl
theorem jgT:(Am.Sigs.prog.fns.all fun p=>Am.fnM Tryz.prog Am.Sigs.cx p.1 p.2)=true:=by kernel_rfl
set_option maxRecDepth 100000 in
theorem jhV:Am.ProgOk Tryz.prog Am.Sigs.cx Am.Sigs.prog := {
 types:=Am.TOk.of_check jf5,
 mixed:=Tryz.checked.mixed,
 fns:=fun _ _ h=>List.all_eq_true.1 jgT _ (Am.jc2 h),
 primF:=Am.Sigs.primsF,
 primOk:=Am.Sigs.primsOk }
theorem jgR:ownKnob Tryz.prog.godebug=none:=by kernel_rfl
theorem jcr:laidOutB Tryz.prog=true:=by kernel_rfl
theorem jhW:Am.Sigs.cx.gl=[0,1,3,4]:=rfl
noncomputable def jb5:Am.Rd Tryz.prog 23 Int:=Am.Rd.int .u64 (t:=23) Tryz.underlying23 (by kernel_rfl)
noncomputable def jgQ:Am.Rd Tryz.prog 4 Bool:=Am.Rd.bool (t:=4) Tryz.underlying4 (by kernel_rfl)
noncomputable def jbM:Am.Rd Tryz.prog 3 Int:=Am.Rd.int .i64 (t:=3) Tryz.underlying3 (by kernel_rfl)
noncomputable def jeN:Am.Rd Tryz.prog 37 (List Int):=Am.Rd.slice 60 jbM (t:=37) Tryz.underlying37 (by kernel_rfl) (by decide)
noncomputable def jgP:Am.Rd Tryz.prog 5 Int:=Am.Rd.int .u8 (t:=5) Tryz.underlying5 (by kernel_rfl)
noncomputable def jeL:Am.Rd Tryz.prog 48 (List Int):=Am.Rd.slice 1100 jgP (t:=48) Tryz.underlying48 (by kernel_rfl) (by decide)
noncomputable def jem:Am.Rd Tryz.prog 50 (Int × (Int × (Int × ((List Int) × Unit)))):=Am.Rd.st (t:=50) Tryz.underlying50 (Am.RdF.cons jbM rfl (Am.RdF.cons jbM rfl (Am.RdF.cons jbM rfl (Am.RdF.cons jeL rfl Am.RdF.nil)))) (by kernel_rfl)
noncomputable def jeM:Am.Rd Tryz.prog 38 (List (Int × (Int × (Int × ((List Int) × Unit))))):=Am.Rd.slice 60 jem (t:=38) Tryz.underlying38 (by kernel_rfl) (by decide)
noncomputable def jen:Am.Rd Tryz.prog 40 (Int × (Bool × ((List Int) × ((List (Int × (Int × (Int × ((List Int) × Unit))))) × Unit)))):=Am.Rd.st (t:=40) Tryz.underlying40 (Am.RdF.cons jb5 rfl (Am.RdF.cons jgQ rfl (Am.RdF.cons jeN rfl (Am.RdF.cons jeM rfl Am.RdF.nil)))) (by kernel_rfl)
noncomputable def jcK:Am.Rd Tryz.prog 22 (List (Int × (Bool × ((List Int) × ((List (Int × (Int × (Int × ((List Int) × Unit))))) × Unit))))):=Am.Rd.slice 2000 jen (t:=22) Tryz.underlying22 (by kernel_rfl) (by decide)
theorem jgS (os:Os) (args:Array Value):laidMetH Tryz.prog Rows.movesTimeRow.laid ((World.doorLaid Tryz.prog 400 os).forCall (fun _ _=>0) ⟨#[],args,[]⟩).memory :=
 laidMetH_of_parts3 (fuel:=8) (laidMet_of_run' 8 (by kernel_rfl) (by kernel_rfl)) (by kernel_rfl) (by kernel_rfl)
theorem jia:Tryz.prog.globalNamed "math/bits.deBruijn32tab" = some 3:=by kernel_rfl
theorem jhU:(Tryz.prog.globals[3]?).map (·.type)=some 166:=by kernel_rfl
theorem jie:(Am.Fl.arr (t:=166) 32 1 (Am.Fl.int .u8 (t:=5) Tryz.underlying5) Tryz.underlying166 (by kernel_rfl) (by kernel_rfl)).f Rows.laid_math_bits_deBruijn32tab=some Am.Sigs.ja3:=by kernel_rfl
theorem jhZ:Tryz.prog.globalNamed "math/bits.deBruijn64tab" = some 4:=by kernel_rfl
theorem jhT:(Tryz.prog.globals[4]?).map (·.type)=some 167:=by kernel_rfl
theorem jid:(Am.Fl.arr (t:=167) 64 1 (Am.Fl.int .u8 (t:=5) Tryz.underlying5) Tryz.underlying167 (by kernel_rfl) (by kernel_rfl)).f Rows.laid_math_bits_deBruijn64tab=some Am.Sigs.ja2:=by kernel_rfl
theorem jhY:Tryz.prog.globalNamed "internal/strconv.uint64pow10" = some 1:=by kernel_rfl
theorem jhS:(Tryz.prog.globals[1]?).map (·.type)=some 153:=by kernel_rfl
theorem jic:(Am.Fl.arr (t:=153) 20 1 (Am.Fl.int .u64 (t:=23) Tryz.underlying23) Tryz.underlying153 (by kernel_rfl) (by kernel_rfl)).f Rows.laid_internal_strconv_uint64pow10=some Am.Sigs.jaj:=by kernel_rfl
theorem jhX:Tryz.prog.globalNamed "roundhouse/moves.words" = some 0:=by kernel_rfl
theorem jhR:(Tryz.prog.globals[0]?).map (·.type)=some 111:=by kernel_rfl
theorem jib:(Am.Fl.arr (t:=111) 8 1 (Am.Fl.str (t:=9) Tryz.underlying9) Tryz.underlying111 (by kernel_rfl) (by kernel_rfl)).f Rows.laid_roundhouse_moves_words=some Am.Sigs.jal:=by kernel_rfl
set_option maxRecDepth 100000 in
theorem jeO (os:Os) (started:os.Started) (H:Type) (enc:TypeId × Value->H) :
  ReturnsInHanded {} Tryz.checked os 3 .any (fun w args=>(Rows.movesTimeSpec.pre enc Tryz.prog Tryz.f3 Rows.movesTimeRow.domain false w args/\laidMetH Tryz.prog Rows.movesTimeRow.laid w)/\sizedMet enc Tryz.prog Tryz.f3 (OpenSpec.ofChange Rows.movesTimeSpec) false w args)
   (Rows.movesTimeSpec.post enc Tryz.prog Tryz.f3 false true false false):=by
 refine returnsInHanded_of_change_and (C:=Tryz.checked) (X:=fun w _=>laidMetH Tryz.prog Rows.movesTimeRow.laid w) (fun _ _ _ hh h=>h.of_heap hh) jgR started (by kernel_rfl) Tryz.func3
  (ChangeSpec.witness_shaped (enc:=enc) (C:=Tryz.checked) (os:=os) (X:=fun w _=>laidMetH Tryz.prog Rows.movesTimeRow.laid w) false (World.doorLaid Tryz.prog 400 os) #[.slice none 0 0,.int .u64 0,.int .u64 0] 8 rfl (World.shaped_of_RefB (by kernel_rfl) (by kernel_rfl)) (by kernel_rfl) (by kernel_rfl) (by kernel_rfl) (jgS os _)) ?_
 intro W base args ds gs before hval0 hW _ _ hL _
 have hval : ∀ (j:Nat) t v,Tryz.f3.params[j]?=some t->args[j]?=some v->Value.okWide Tryz.prog W .any base t v:=hval0
 have hW':=hW
 obtain ⟨p,q,hA0,hV,rfl,hfz,hnd⟩:=hW
 have hA:DataW.TrodAll enc Tryz.prog W 0 (fun _=>true) true Tryz.f3.params.toList args.toList ds p:=hA0
 rw [Tryz.params3] at hA hval
 obtain ⟨v0,vs0,d0,ds0,p0,q0,ha,rfl,rfl,h0,hA1⟩:=Am.jfL hA
 obtain ⟨v1,vs1,d1,ds1,p1,q1,rfl,rfl,rfl,h1,hA2⟩:=Am.jfL hA1
 obtain ⟨v2,vs2,d2,ds2,p2,q2,rfl,rfl,rfl,h2,hA3⟩:=Am.jfL hA2
 obtain ⟨rfl,rfl,rfl⟩:=Am.args_nil hA3
 obtain rfl:args = #[v0,v1,v2]:=by cases args;simp_all
 obtain ⟨rfl,rfl⟩:=trodVars_none hV
 have hlt:=hW'.lt
 have r0:=Am.ro0 (P:=Tryz.prog) (C:=Am.Sigs.cx) (W:=W) 5
 rw [MakeChecks.laidMetH_plain _ _ _ (by kernel_rfl)] at hL
 obtain ⟨ps,⟨g0,t0,cs0,f0,pp0,qq0,hg0,ht0,hv0,hd0,⟨g1,t1,cs1,f1,pp1,qq1,hg1,ht1,hv1,hd1,⟨g2,t2,cs2,f2,pp2,qq2,hg2,ht2,hv2,hd2,⟨g3,t3,cs3,f3,pp3,qq3,hg3,ht3,hv3,hd3,_,_⟩,_⟩,_⟩,_⟩,_,_⟩:=hL
 obtain rfl:=Option.some.inj (jia.symm.trans hg0)
 obtain rfl:=Option.some.inj (jhU.symm.trans ht0)
 have s0:=r0.var (g:=3) (by rfl) (by decide) (Am.Fl.arr (t:=166) 32 1 (Am.Fl.int .u8 (t:=5) Tryz.underlying5) Tryz.underlying166 (by kernel_rfl) (by kernel_rfl)) hg0 hv0 hd0 jie
 obtain rfl:=Option.some.inj (jhZ.symm.trans hg1)
 obtain rfl:=Option.some.inj (jhT.symm.trans ht1)
 have s1:=s0.var (g:=4) (by rfl) (by decide) (Am.Fl.arr (t:=167) 64 1 (Am.Fl.int .u8 (t:=5) Tryz.underlying5) Tryz.underlying167 (by kernel_rfl) (by kernel_rfl)) hg1 hv1 hd1 jid
 obtain rfl:=Option.some.inj (jhY.symm.trans hg2)
 obtain rfl:=Option.some.inj (jhS.symm.trans ht2)
 have s2:=s1.var (g:=1) (by rfl) (by decide) (Am.Fl.arr (t:=153) 20 1 (Am.Fl.int .u64 (t:=23) Tryz.underlying23) Tryz.underlying153 (by kernel_rfl) (by kernel_rfl)) hg2 hv2 hd2 jic
 obtain rfl:=Option.some.inj (jhX.symm.trans hg3)
 obtain rfl:=Option.some.inj (jhR.symm.trans ht3)
 have s3:=s2.var (g:=0) (by rfl) (by decide) (Am.Fl.arr (t:=111) 8 1 (Am.Fl.str (t:=9) Tryz.underlying9) Tryz.underlying111 (by kernel_rfl) (by kernel_rfl)) hg3 hv3 hd3 jib
 have r0':=s3
 obtain ⟨x0,u0,m1,e1,r1,w0,n0,k0,y0⟩:=jcK.arg rfl r0' (Am.jjj Tryz.underlying22 (hval 0 22 v0 rfl rfl)) h0
 obtain ⟨x1,u1,m2,e2,r2,w1,n1,k1,y1⟩:=jb5.arg rfl r1 (Am.ji2 Tryz.underlying23 (hval 1 23 v1 rfl rfl)) h1
 obtain ⟨x2,u2,m3,e3,r3,w2,n2,k2,y2⟩:=jb5.arg rfl r2 (Am.ji2 Tryz.underlying23 (hval 2 23 v2 rfl rfl)) h2
 have hnx:e3.nx=124006:=by rw [n2,n1,n0];rfl
 have l0:e3.get 3=some (.cells Am.Sigs.ja3 true):=by rw [((w0.trans w1).trans w2).get 3 (by decide)];rfl
 have l1:e3.get 4=some (.cells Am.Sigs.ja2 true):=by rw [((w0.trans w1).trans w2).get 4 (by decide)];rfl
 have l2:e3.get 1=some (.cells Am.Sigs.jaj true):=by rw [((w0.trans w1).trans w2).get 1 (by decide)];rfl
 have l3:e3.get 0=some (.cells Am.Sigs.jal true):=by rw [((w0.trans w1).trans w2).get 0 (by decide)];rfl
 obtain ⟨h',hr⟩:=Am.Sigs.jif (cl:=Am.jaL Am.Sigs.prog Am.Sigs.fuel) (fun _=>rfl) hnx (fun b hb=>r3.wf b (by rw [hnx];exact hb)) l0 l1 l2 l3 (jcK.keep (w1.trans w2).nx (w1.trans w2).get k0) (jb5.keep w2.nx w2.get k1) k2
 have hG:Am.GOk Am.Sigs.cx m3:=by
  intro g hg
  rw [jhW] at hg
  have hg2:g=0\/g=1\/g=3\/g=4:=by simp [Am.nbeq] at hg;omega
  rcases hg2 with rfl | rfl | rfl | rfl
  ·exact ⟨_,((w0.trans w1).trans w2).mono _ _ (by rfl),rfl,rfl⟩
  ·exact ⟨_,((w0.trans w1).trans w2).mono _ _ (by rfl),rfl,rfl⟩
  ·exact ⟨_,((w0.trans w1).trans w2).mono _ _ (by rfl),rfl,rfl⟩
  ·exact ⟨_,((w0.trans w1).trans w2).mono _ _ (by rfl),rfl,rfl⟩
 refine (Am.jlA (n:=30) (xs := #[v0,v1,v2]) (a:=Am.Sigs.c3) jhV (by rfl) (by rfl) hr r3.rel hG ⟨_,_,rfl,(y0.mono (w1.trans w2).mono),⟨_,_,rfl,(y1.mono w2.mono),⟨_,_,rfl,y2,rfl⟩⟩⟩).calls fun m' w' x hs hx=>?_
 obtain rfl:x = .bool true:=hx
 exact ⟨_,rfl,Am.post1 hs r3.noOwned hW' (fun _ _ _=>trodAll_mk1 (shut_bool (t:=4) (by kernel_rfl) true))
  (Am.jjm (Below.trod jcr (by kernel_rfl) (of_decide_eq_true (by kernel_rfl)) h0 (Am.jeX hs r3.noOwned) (fun x hx=>hlt x (by simp [hx]))) (Am.jjm (Below.trod jcr (by kernel_rfl) (of_decide_eq_true (by kernel_rfl)) h1 (Am.jeX hs r3.noOwned) (fun x hx=>hlt x (by simp [hx]))) (Am.jjm (Below.trod jcr (by kernel_rfl) (of_decide_eq_true (by kernel_rfl)) h2 (Am.jeX hs r3.noOwned) (fun x hx=>hlt x (by simp [hx]))) trodAll_mk0))) rfl⟩
theorem jgO:Rows.MovesTimeSaid :=
 OpenClaim.holds_of_wide 3 Tryz.f3 rfl rfl rfl rfl rfl rfl rfl ⟨rfl,rfl,rfl,rfl,rfl⟩ rfl rfl rfl rfl rfl (by kernel_rfl) Tryz.func3 (by kernel_rfl)
  (of_decide_eq_true (by kernel_rfl)) (by unfold Func.isWrapper;first | (rw [if_pos (by decide +kernel)];kernel_rfl) | (rw [if_neg (by decide +kernel)];exact ⟨rfl,rfl⟩))
  (fun os started H enc _=>jeO os started H enc)
theorem movesTime_holds:Rows.MovesTimeCardSaid :=
 Claim7.holds_tied_plain_at .later [] [.data,.data,.data,.data] true (true,"e3c4623b7c3ea397e70d20fbee18043a6e927f3e613525adbde0732efa0548f3") false
  jgO (fun _ h=>by cases h) (by kernel_rfl) (fun _ h=>by cases h) movesTime_row_tie rfl ⟨rfl,rfl⟩ (by kernel_rfl) rfl
  (fun f fn hf hfn=>by
   obtain rfl:f=3:=Option.some.inj ((show Tryz.prog.funcNamed "roundhouse/roundhouselaw12.MovesTime" = some 3 by kernel_rfl).symm.trans hf) |>.symm
   obtain rfl:fn=Tryz.f3:=(Option.some.inj (Tryz.func3.symm.trans hfn)).symm
   exact ⟨by kernel_rfl,fun j t ht=>by
    rw [Tryz.params3] at ht
    match j,ht with
    | 0,ht=>cases ht;exact (show Tryz.prog.wantsStandIn 22=false by kernel_rfl)
    | 1,ht=>cases ht;exact (show Tryz.prog.wantsStandIn 23=false by kernel_rfl)
    | 2,ht=>cases ht;exact (show Tryz.prog.wantsStandIn 23=false by kernel_rfl)
    | k+3,ht=>simp at ht⟩)
  (by kernel_rfl)
end Go.Proofs.YtjpkpdlpolnehaaGreatDoor
