/- 'ModelNames': for every input the call returns true, and the input reads as it did. The listed variables read as the text lays them. -/
import Derived.Test.YtccoogikjelcbaaGreatDoorRows
import Derived.Test.YtccoogikjelcbaaGreatDoorCards
import Derived.Test.YtccoogikjelcbaaGreatDoorTie
import Derived.ProofKit
import Derived.LaidMore
import Derived.Lay
import Derived.SevenTiedAt
import Derived.Test.YtccoogikjelcbaaGreatDoorM23
import Derived.Test.YtccoogikjelcbaaGreatDoorM24
import Derived.Test.YtccoogikjelcbaaGreatDoorM30
import Derived.Test.YtccoogikjelcbaaGreatDoorM32
set_option maxHeartbeats 8000000
set_option maxRecDepth 800
set_option linter.all false
namespace Go.Proofs.YtccoogikjelcbaaGreatDoor
open Go.ChangeShapes Go.WideShapes Go.ChangeAt Go.RowKit
theorem jd8:Am.jfN Tryz.prog Am.Sigs.cx.T=true:=by kernel_rfl
theorem jeF:(Am.Sigs.prog.fns.all fun p=>Am.fnM Tryz.prog Am.Sigs.cx p.1 p.2)=true:=by kernel_rfl
set_option maxRecDepth 100000 in
theorem jfZ:Am.ProgOk Tryz.prog Am.Sigs.cx Am.Sigs.prog := {
 types:=Am.TOk.of_check jd8,
 mixed:=Tryz.checked.mixed,
 fns:=fun _ _ h=>List.all_eq_true.1 jeF _ (Am.jbM h),
 primF:=Am.Sigs.primsF,
 primOk:=Am.Sigs.primsOk }
theorem je9:ownKnob Tryz.prog.godebug=none:=by kernel_rfl
theorem jdX:laidOutB Tryz.prog=true:=by kernel_rfl
theorem jgb:Am.Sigs.cx.gl=[0,2,3]:=rfl
theorem jeA (os:Os) (args:Array Value):laidMetH Tryz.prog Rows.modelNamesRow.laid ((World.laidAll Tryz.prog os Rows.modelNamesRow.laid).forCall (fun _ _=>0) ⟨#[],args,[]⟩).memory :=
 (MakeChecks.laidMetH_plain _ _ _ (by kernel_rfl)).mpr (laidMet_laidAll _ (by kernel_rfl) (by kernel_rfl))
theorem jge:Tryz.prog.globalNamed "math/bits.deBruijn32tab" = some 2:=by kernel_rfl
theorem jfY:(Tryz.prog.globals[2]?).map (·.type)=some 410:=by kernel_rfl
theorem jgh:(Am.Fl.arr (t:=410) 32 1 (Am.Fl.int .u8 (t:=5) Tryz.underlying5) Tryz.underlying410 (by kernel_rfl) (by kernel_rfl)).f Rows.laid_math_bits_deBruijn32tab=some Am.Sigs.ja4:=by kernel_rfl
theorem jgd:Tryz.prog.globalNamed "math/bits.deBruijn64tab" = some 3:=by kernel_rfl
theorem jfX:(Tryz.prog.globals[3]?).map (·.type)=some 411:=by kernel_rfl
theorem jgg:(Am.Fl.arr (t:=411) 64 1 (Am.Fl.int .u8 (t:=5) Tryz.underlying5) Tryz.underlying411 (by kernel_rfl) (by kernel_rfl)).f Rows.laid_math_bits_deBruijn64tab=some Am.Sigs.ja3:=by kernel_rfl
theorem jgc:Tryz.prog.globalNamed "internal/strconv.uint64pow10" = some 0:=by kernel_rfl
theorem jfW:(Tryz.prog.globals[0]?).map (·.type)=some 362:=by kernel_rfl
theorem jgf:(Am.Fl.arr (t:=362) 20 1 (Am.Fl.int .u64 (t:=41) Tryz.underlying41) Tryz.underlying362 (by kernel_rfl) (by kernel_rfl)).f Rows.laid_internal_strconv_uint64pow10=some Am.Sigs.jaw:=by kernel_rfl
set_option maxRecDepth 100000 in
theorem jdc (os:Os) (started:os.Started) (H:Type) (enc:TypeId × Value->H) :
  ReturnsInHanded {} Tryz.checked os 3 .any (fun w args=>(Rows.modelNamesSpec.pre enc Tryz.prog Tryz.f3 Rows.modelNamesRow.domain false w args/\laidMetH Tryz.prog Rows.modelNamesRow.laid w)/\sizedMet enc Tryz.prog Tryz.f3 (OpenSpec.ofChange Rows.modelNamesSpec) false w args)
   (Rows.modelNamesSpec.post enc Tryz.prog Tryz.f3 false true false false):=by
 refine returnsInHanded_of_change_and (C:=Tryz.checked) (X:=fun w _=>laidMetH Tryz.prog Rows.modelNamesRow.laid w) (fun _ _ _ hh h=>h.of_heap hh) je9 started (by kernel_rfl) Tryz.func3
  (ChangeSpec.witness_shaped (enc:=enc) (C:=Tryz.checked) (os:=os) (X:=fun w _=>laidMetH Tryz.prog Rows.modelNamesRow.laid w) false (World.laidAll Tryz.prog os Rows.modelNamesRow.laid) #[] 8 (World.laidAll_os _ _ _) (World.shaped_of_ZipB (by kernel_rfl) (by kernel_rfl)) (by kernel_rfl) (by kernel_rfl) (by kernel_rfl) (jeA os _)) ?_
 intro W base args ds gs before hval0 hW _ _ hL _
 have hval : ∀ (j:Nat) t v,Tryz.f3.params[j]?=some t->args[j]?=some v->Value.okWide Tryz.prog W .any base t v:=hval0
 have hW':=hW
 obtain ⟨p,q,hA0,hV,rfl,hfz,hnd⟩:=hW
 have hA:DataW.TrodAll enc Tryz.prog W 0 (fun _=>true) true Tryz.f3.params.toList args.toList ds p:=hA0
 rw [Tryz.params3] at hA hval
 obtain ⟨ha,rfl,rfl⟩:=Am.args_nil hA
 obtain rfl:args = #[]:=by cases args;simp_all
 obtain ⟨rfl,rfl⟩:=trodVars_none hV
 have hlt:=hW'.lt
 have r0:=Am.ro0 (P:=Tryz.prog) (C:=Am.Sigs.cx) (W:=W) 4
 rw [MakeChecks.laidMetH_plain _ _ _ (by kernel_rfl)] at hL
 obtain ⟨ps,⟨g0,t0,cs0,f0,pp0,qq0,hg0,ht0,hv0,hd0,⟨g1,t1,cs1,f1,pp1,qq1,hg1,ht1,hv1,hd1,⟨g2,t2,cs2,f2,pp2,qq2,hg2,ht2,hv2,hd2,_,_⟩,_⟩,_⟩,_,_⟩:=hL
 obtain rfl:=Option.some.inj (jge.symm.trans hg0)
 obtain rfl:=Option.some.inj (jfY.symm.trans ht0)
 have s0:=r0.var (g:=2) (by rfl) (by decide) (Am.Fl.arr (t:=410) 32 1 (Am.Fl.int .u8 (t:=5) Tryz.underlying5) Tryz.underlying410 (by kernel_rfl) (by kernel_rfl)) hg0 hv0 hd0 jgh
 obtain rfl:=Option.some.inj (jgd.symm.trans hg1)
 obtain rfl:=Option.some.inj (jfX.symm.trans ht1)
 have s1:=s0.var (g:=3) (by rfl) (by decide) (Am.Fl.arr (t:=411) 64 1 (Am.Fl.int .u8 (t:=5) Tryz.underlying5) Tryz.underlying411 (by kernel_rfl) (by kernel_rfl)) hg1 hv1 hd1 jgg
 obtain rfl:=Option.some.inj (jgc.symm.trans hg2)
 obtain rfl:=Option.some.inj (jfW.symm.trans ht2)
 have s2:=s1.var (g:=0) (by rfl) (by decide) (Am.Fl.arr (t:=362) 20 1 (Am.Fl.int .u64 (t:=41) Tryz.underlying41) Tryz.underlying362 (by kernel_rfl) (by kernel_rfl)) hg2 hv2 hd2 jgf
 have r0':=s2
 obtain ⟨m0,e0,r0,hnx,l0,l1,l2,hG⟩ : ∃ m0 e0,Am.RoMem Tryz.prog Am.Sigs.cx m0 e0 W/\e0.nx=4/\e0.get 2=some (.cells Am.Sigs.ja4 true)/\e0.get 3=some (.cells Am.Sigs.ja3 true)/\e0.get 0=some (.cells Am.Sigs.jaw true)/\Am.GOk Am.Sigs.cx m0:=by
  refine ⟨_,_,r0',rfl,rfl,rfl,rfl,?_⟩
  intro g hg
  rw [jgb] at hg
  have hg2:g=0\/g=2\/g=3:=by simp [Am.nbeq] at hg;omega
  rcases hg2 with rfl | rfl | rfl
  ·exact ⟨_,by rfl,rfl,rfl⟩
  ·exact ⟨_,by rfl,rfl,rfl⟩
  ·exact ⟨_,by rfl,rfl,rfl⟩
 obtain ⟨h',hr⟩:=Am.Sigs.jgi (cl:=Am.ja9 Am.Sigs.prog Am.Sigs.fuel) (fun _=>rfl) hnx (fun b hb=>r0.wf b (by rw [hnx];exact hb)) l0 l1 l2
 refine (Am.jgF (n:=59) (xs := #[]) (a:=Am.Sigs.c3) jfZ (by kernel_rfl) (by kernel_rfl) hr r0.rel hG rfl).calls fun m' w' x hs hx=>?_
 obtain rfl:x = .bool true:=hx
 exact ⟨_,rfl,Am.post1 hs r0.noOwned hW' (fun _ _ _=>trodAll_mk1 (shut_bool (t:=4) (by kernel_rfl) true))
  trodAll_mk0 rfl⟩
set_option maxRecDepth 100000 in
theorem jbT:Tryz.prog.closure 3=[3,5,4,6,7,33,34,76,24,52,94,141,95,96,142,143,189,144,190,145,146,191,193,192,228,253,275,286,276,277,278,287,53,97,147,148,69,22,9,35,23,49,36,77,37,47,78,79,132,178,80,50,10,51,25,11,54,98,99,149,150,151,26,55,100,101,102,152,194,56,81,92,136,137,186,75,131,177,139,82,133,187,127,174,221,138,140,188,84,57,103,27,58,59,104,60,105,106,153,107,62,109,63,110,154,116,195,159,199,235,234,229,202,196,155,197,231,230,108,156,160,198,232,203,236,255,279,256,280,254,233,200,162,201,163,61,28,29,64,111,157,39,112,113,114,115,158,15,65,117,161,30,66,118,119,120,121,122,164,204,237,67,123,165,205,238,206,207,166,208,239,240,257,281,282,209,241,210,211,243,259,283,242,258,167,212,213,245,244,260,214,246,261,247,262,284,289,288,263,248,264,168,215,249,265,225,83,266,267,268,71,125,173,169,170,217,216,218,171,172,219,220,251,252,269,226,270,40,271,250,272,273,274,285,185,227,31,68,32,70,124,72,126,73,128,175,222,176,223,129,130,74,19,48,93,20,21,8,12,38,13,14,42,44,89,45,90,41,85,134,86,135,179,224,180,181,182,183,184,87,43,88,46,91,16,17,18]:=by kernel_rfl
theorem jeE:Rows.modelNamesRow.inPlace=Tryz.prog.inPlace 3:=by unfold Program.inPlace;rw [jbT];kernel_rfl
theorem jcq:Rows.modelNamesRow.unfollowed=Tryz.prog.unfollowed 3:=by unfold Program.unfollowed;rw [jbT];kernel_rfl
theorem jeD:Rows.modelNamesRow.recurses=Tryz.prog.recurses 3:=by unfold Program.recurses;rw [<- jcq];rfl
theorem jeC:Rows.modelNamesRow.named=Tryz.prog.varsNamed 3:=by unfold Program.varsNamed;rw [jbT];kernel_rfl
theorem jga:mapsRowed Tryz.prog=true:=by kernel_rfl
theorem jeB:Rows.modelNamesRow.plainKeys=Tryz.prog.plainKeys:=by kernel_rfl
theorem jdd:joinedFacts Tryz.prog 3 Tryz.f3 Rows.modelNamesSpec Rows.modelNamesRow=true:=by
 unfold joinedFacts
 rw [<- jeE,<- jcq,<- jeD,<- jeC,jga,jdX,<- jeB]
 kernel_rfl
theorem jd9:false=Tryz.prog.looks []:=by kernel_rfl
theorem jdY:false=Rows.modelNamesRow.goesBy Tryz.prog:=by kernel_rfl
theorem je7:Rows.modelNamesRow.wfByText (OpenSpec.ofChange Rows.modelNamesSpec)=true:=by kernel_rfl
theorem je8:Rows.ModelNamesSaid :=
 OpenClaim.holds_of_wide 3 Tryz.f3 rfl rfl rfl rfl rfl rfl rfl ⟨rfl,rfl,rfl,rfl,rfl⟩ rfl rfl rfl rfl rfl (by kernel_rfl) Tryz.func3 jdd
  (of_decide_eq_true (by kernel_rfl)) (by unfold Func.isWrapper;first | (rw [if_pos (by decide +kernel)];kernel_rfl) | (rw [if_neg (by decide +kernel)];exact ⟨rfl,rfl⟩))
  (fun os started H enc _=>jdc os started H enc)
theorem modelNames_holds:Rows.ModelNamesCardSaid :=
 Claim7.holds_tied_plain_at .later [] [.data,.data,.data] true (true,"3f9afc0903af5b60d0ef628a61fbe3e5a0eeeb0a30e980978914b77bd5c2b180") false
  je8 (fun _ h=>by cases h) je7 (fun _ h=>by cases h) modelNames_row_tie rfl ⟨rfl,rfl⟩ (by kernel_rfl) rfl
  (fun f fn hf hfn=>by
   obtain rfl:f=3:=Option.some.inj ((show Tryz.prog.funcNamed "roundhouse/roundhouselaw29.ModelNames" = some 3 by kernel_rfl).symm.trans hf) |>.symm
   obtain rfl:fn=Tryz.f3:=(Option.some.inj (Tryz.func3.symm.trans hfn)).symm
   exact ⟨jd9,fun j t ht=>by
    rw [Tryz.params3] at ht
    match j,ht with
    | k+0,ht=>simp at ht⟩)
  jdY
end Go.Proofs.YtccoogikjelcbaaGreatDoor
