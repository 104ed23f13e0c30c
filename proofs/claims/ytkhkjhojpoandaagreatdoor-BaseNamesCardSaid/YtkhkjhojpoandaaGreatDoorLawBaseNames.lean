/- 'BaseNames': for every input the call returns true, and the input reads as it did. The listed variables read as the text lays them. -/
import Derived.Test.YtkhkjhojpoandaaGreatDoorRows
import Derived.Test.YtkhkjhojpoandaaGreatDoorCards
import Derived.Test.YtkhkjhojpoandaaGreatDoorTie
import Derived.ProofKit
import Derived.LaidMore
import Derived.Lay
import Derived.SevenTiedAt
import Derived.Test.YtkhkjhojpoandaaGreatDoorW26
import Derived.Test.YtkhkjhojpoandaaGreatDoorW27
import Derived.Test.YtkhkjhojpoandaaGreatDoorW33
import Derived.Test.YtkhkjhojpoandaaGreatDoorW35
set_option maxHeartbeats 8000000
set_option maxRecDepth 800
set_option linter.all false
namespace Go.Proofs.YtkhkjhojpoandaaGreatDoor
open Go.ChangeShapes Go.WideShapes Go.ChangeAt Go.RowKit
theorem jf1:Am.jgE Tryz.prog Am.Sigs.cx.T=true:=by kernel_rfl
theorem jh1:(Am.Sigs.prog.fns.all fun p=>Am.fnM Tryz.prog Am.Sigs.cx p.1 p.2)=true:=by kernel_rfl
set_option maxRecDepth 100000 in
theorem jj7:Am.ProgOk Tryz.prog Am.Sigs.cx Am.Sigs.prog := {
 types:=Am.TOk.of_check jf1,
 mixed:=Tryz.checked.mixed,
 fns:=fun _ _ h=>List.all_eq_true.1 jh1 _ (Am.jbX h),
 primF:=Am.Sigs.primsF,
 primOk:=Am.Sigs.primsOk }
theorem jhv:ownKnob Tryz.prog.godebug=none:=by kernel_rfl
theorem jfL:laidOutB Tryz.prog=true:=by kernel_rfl
theorem jj9:Am.Sigs.cx.gl=[1,2,3]:=rfl
theorem jhw (os:Os) (args:Array Value):laidMetH Tryz.prog Rows.baseNamesRow.laid ((World.laidAll Tryz.prog os Rows.baseNamesRow.laid).forCall (fun _ _=>0) ⟨#[],args,[]⟩).memory :=
 (MakeChecks.laidMetH_plain _ _ _ (by kernel_rfl)).mpr (laidMet_laidAll _ (by kernel_rfl) (by kernel_rfl))
theorem jjC:Tryz.prog.globalNamed "math/bits.deBruijn32tab" = some 2:=by kernel_rfl
theorem jj6:(Tryz.prog.globals[2]?).map (·.type)=some 401:=by kernel_rfl
theorem jjF:(Am.Fl.arr (t:=401) 32 1 (Am.Fl.int .u8 (t:=5) Tryz.underlying5) Tryz.underlying401 (by kernel_rfl) (by kernel_rfl)).f Rows.laid_math_bits_deBruijn32tab=some Am.Sigs.ja6:=by kernel_rfl
theorem jjB:Tryz.prog.globalNamed "math/bits.deBruijn64tab" = some 3:=by kernel_rfl
theorem jj5:(Tryz.prog.globals[3]?).map (·.type)=some 402:=by kernel_rfl
theorem jjE:(Am.Fl.arr (t:=402) 64 1 (Am.Fl.int .u8 (t:=5) Tryz.underlying5) Tryz.underlying402 (by kernel_rfl) (by kernel_rfl)).f Rows.laid_math_bits_deBruijn64tab=some Am.Sigs.ja5:=by kernel_rfl
theorem jjA:Tryz.prog.globalNamed "internal/strconv.uint64pow10" = some 1:=by kernel_rfl
theorem jj4:(Tryz.prog.globals[1]?).map (·.type)=some 397:=by kernel_rfl
theorem jjD:(Am.Fl.arr (t:=397) 20 1 (Am.Fl.int .u64 (t:=24) Tryz.underlying24) Tryz.underlying397 (by kernel_rfl) (by kernel_rfl)).f Rows.laid_internal_strconv_uint64pow10=some Am.Sigs.jax:=by kernel_rfl
set_option maxRecDepth 100000 in
theorem jex (os:Os) (started:os.Started) (H:Type) (enc:TypeId × Value->H) :
  ReturnsInHanded {} Tryz.checked os 3 .any (fun w args=>(Rows.baseNamesSpec.pre enc Tryz.prog Tryz.f3 Rows.baseNamesRow.domain false w args/\laidMetH Tryz.prog Rows.baseNamesRow.laid w)/\sizedMet enc Tryz.prog Tryz.f3 (OpenSpec.ofChange Rows.baseNamesSpec) false w args)
   (Rows.baseNamesSpec.post enc Tryz.prog Tryz.f3 false true false false):=by
 refine returnsInHanded_of_change_and (C:=Tryz.checked) (X:=fun w _=>laidMetH Tryz.prog Rows.baseNamesRow.laid w) (fun _ _ _ hh h=>h.of_heap hh) jhv started (by kernel_rfl) Tryz.func3
  (ChangeSpec.witness_shaped (enc:=enc) (C:=Tryz.checked) (os:=os) (X:=fun w _=>laidMetH Tryz.prog Rows.baseNamesRow.laid w) false (World.laidAll Tryz.prog os Rows.baseNamesRow.laid) #[] 8 (World.laidAll_os _ _ _) (World.shaped_of_ZipB (by kernel_rfl) (by kernel_rfl)) (by kernel_rfl) (by kernel_rfl) (by kernel_rfl) (jhw os _)) ?_
 intro W base args ds gs before hval0 hW _ _ hL _
 have hval : ∀ (j:Nat) t v,Tryz.f3.params[j]?=some t->args[j]?=some v->Value.okWide Tryz.prog W .any base t v:=hval0
 have hW':=hW
 obtain ⟨p,q,hA0,hV,rfl,hfz,hnd⟩:=hW
 have hA:DataW.TrodAll enc Tryz.prog W 0 (fun _=>true) true Tryz.f3.params.toList args.toList ds p:=hA0
 rw [Tryz.params3] at hA hval
 obtain ⟨ha,rfl,rfl⟩:=Am.args_nil hA
 obtain rfl:args = #[]:=by cases args;simp_all
 obtain ⟨rfl,rfl⟩:=trodVars_none hV
 have hlt:=hW'.lt
 have r0:=Am.ro0 (P:=Tryz.prog) (C:=Am.Sigs.cx) (W:=W) 4
 rw [MakeChecks.laidMetH_plain _ _ _ (by kernel_rfl)] at hL
 obtain ⟨ps,⟨g0,t0,cs0,f0,pp0,qq0,hg0,ht0,hv0,hd0,⟨g1,t1,cs1,f1,pp1,qq1,hg1,ht1,hv1,hd1,⟨g2,t2,cs2,f2,pp2,qq2,hg2,ht2,hv2,hd2,_,_⟩,_⟩,_⟩,_,_⟩:=hL
 obtain rfl:=Option.some.inj (jjC.symm.trans hg0)
 obtain rfl:=Option.some.inj (jj6.symm.trans ht0)
 have s0:=r0.var (g:=2) (by rfl) (by decide) (Am.Fl.arr (t:=401) 32 1 (Am.Fl.int .u8 (t:=5) Tryz.underlying5) Tryz.underlying401 (by kernel_rfl) (by kernel_rfl)) hg0 hv0 hd0 jjF
 obtain rfl:=Option.some.inj (jjB.symm.trans hg1)
 obtain rfl:=Option.some.inj (jj5.symm.trans ht1)
 have s1:=s0.var (g:=3) (by rfl) (by decide) (Am.Fl.arr (t:=402) 64 1 (Am.Fl.int .u8 (t:=5) Tryz.underlying5) Tryz.underlying402 (by kernel_rfl) (by kernel_rfl)) hg1 hv1 hd1 jjE
 obtain rfl:=Option.some.inj (jjA.symm.trans hg2)
 obtain rfl:=Option.some.inj (jj4.symm.trans ht2)
 have s2:=s1.var (g:=1) (by rfl) (by decide) (Am.Fl.arr (t:=397) 20 1 (Am.Fl.int .u64 (t:=24) Tryz.underlying24) Tryz.underlying397 (by kernel_rfl) (by kernel_rfl)) hg2 hv2 hd2 jjD
 have r0':=s2
 obtain ⟨m0,e0,r0,hnx,l0,l1,l2,hG⟩ : ∃ m0 e0,Am.RoMem Tryz.prog Am.Sigs.cx m0 e0 W/\e0.nx=4/\e0.get 2=some (.cells Am.Sigs.ja6 true)/\e0.get 3=some (.cells Am.Sigs.ja5 true)/\e0.get 1=some (.cells Am.Sigs.jax true)/\Am.GOk Am.Sigs.cx m0:=by
  refine ⟨_,_,r0',rfl,rfl,rfl,rfl,?_⟩
  intro g hg
  rw [jj9] at hg
  have hg2:g=1\/g=2\/g=3:=by simp [Am.nbeq] at hg;omega
  rcases hg2 with rfl | rfl | rfl
  ·exact ⟨_,by rfl,rfl,rfl⟩
  ·exact ⟨_,by rfl,rfl,rfl⟩
  ·exact ⟨_,by rfl,rfl,rfl⟩
 obtain ⟨h',hr⟩:=Am.Sigs.jjG (cl:=Am.jaD Am.Sigs.prog Am.Sigs.fuel) (fun _=>rfl) hnx (fun b hb=>r0.wf b (by rw [hnx];exact hb)) l0 l1 l2
 refine (Am.jhr (n:=59) (xs := #[]) (a:=Am.Sigs.c3) jj7 (by kernel_rfl) (by kernel_rfl) hr r0.rel hG rfl).calls fun m' w' x hs hx=>?_
 obtain rfl:x = .bool true:=hx
 exact ⟨_,rfl,Am.post1 hs r0.noOwned hW' (fun _ _ _=>trodAll_mk1 (shut_bool (t:=4) (by kernel_rfl) true))
  trodAll_mk0 rfl⟩
set_option maxRecDepth 100000 in
theorem jc8:Tryz.prog.closure 3=[3,4,14,36,5,18,65,37,66,50,102,49,97,99,100,118,184,101,20,67,68,69,117,119,70,71,51,72,73,120,166,205,106,167,207,233,104,121,74,122,185,75,107,168,206,76,123,77,124,78,125,22,53,79,126,80,127,186,128,187,129,130,131,132,133,134,135,105,136,137,33,138,139,140,94,158,196,227,52,103,165,203,204,141,188,225,142,189,143,144,190,145,21,146,147,148,15,38,81,149,82,83,150,151,191,152,192,153,154,193,195,194,226,249,259,268,260,261,262,269,39,84,155,35,16,6,40,85,86,87,7,19,46,47,48,98,164,12,23,9,26,60,27,61,62,113,63,41,88,42,89,114,95,182,159,198,231,230,222,201,170,115,183,224,223,64,116,160,197,228,202,232,251,263,252,264,250,229,199,162,200,163,28,11,17,43,90,156,157,91,92,93,45,44,96,161,8,24,54,55,56,57,58,108,169,208,25,59,109,171,209,172,173,110,174,210,211,234,253,254,175,212,176,177,214,236,255,213,235,111,178,179,216,215,237,180,217,238,218,239,256,266,265,240,219,241,112,181,220,242,243,257,267,270,271,272,276,275,277,273,274,278,279,280,281,244,245,221,246,247,248,258,13,34,10,29,30,32,31]:=by kernel_rfl
theorem jh0:Rows.baseNamesRow.inPlace=Tryz.prog.inPlace 3:=by unfold Program.inPlace;rw [jc8];kernel_rfl
theorem jdv:Rows.baseNamesRow.unfollowed=Tryz.prog.unfollowed 3:=by unfold Program.unfollowed;rw [jc8];kernel_rfl
theorem jhz:Rows.baseNamesRow.recurses=Tryz.prog.recurses 3:=by unfold Program.recurses;rw [<- jdv];rfl
theorem jhy:Rows.baseNamesRow.named=Tryz.prog.varsNamed 3:=by unfold Program.varsNamed;rw [jc8];kernel_rfl
theorem jj8:mapsRowed Tryz.prog=true:=by kernel_rfl
theorem jhx:Rows.baseNamesRow.plainKeys=Tryz.prog.plainKeys:=by kernel_rfl
theorem jey:joinedFacts Tryz.prog 3 Tryz.f3 Rows.baseNamesSpec Rows.baseNamesRow=true:=by
 unfold joinedFacts
 rw [<- jh0,<- jdv,<- jhz,<- jhy,jj8,jfL,<- jhx]
 kernel_rfl
theorem jf2:false=Tryz.prog.looks []:=by kernel_rfl
theorem jfM:false=Rows.baseNamesRow.goesBy Tryz.prog:=by kernel_rfl
theorem jht:Rows.baseNamesRow.wfByText (OpenSpec.ofChange Rows.baseNamesSpec)=true:=by kernel_rfl
theorem jhu:Rows.BaseNamesSaid :=
 OpenClaim.holds_of_wide 3 Tryz.f3 rfl rfl rfl rfl rfl rfl rfl ⟨rfl,rfl,rfl,rfl,rfl⟩ rfl rfl rfl rfl rfl (by kernel_rfl) Tryz.func3 jey
  (of_decide_eq_true (by kernel_rfl)) (by unfold Func.isWrapper;first | (rw [if_pos (by decide +kernel)];kernel_rfl) | (rw [if_neg (by decide +kernel)];exact ⟨rfl,rfl⟩))
  (fun os started H enc _=>jex os started H enc)
theorem baseNames_holds:Rows.BaseNamesCardSaid :=
 Claim7.holds_tied_plain_at .later [] [.data,.data,.data] true (true,"b7dfa5f9001ea9b3ed6a0939100cd96e64b4e3d9cce3d950870ccbc40d92cc21") false
  jhu (fun _ h=>by cases h) jht (fun _ h=>by cases h) baseNames_row_tie rfl ⟨rfl,rfl⟩ (by kernel_rfl) rfl
  (fun f fn hf hfn=>by
   obtain rfl:f=3:=Option.some.inj ((show Tryz.prog.funcNamed "roundhouse/roundhouselaw24.BaseNames" = some 3 by kernel_rfl).symm.trans hf) |>.symm
   obtain rfl:fn=Tryz.f3:=(Option.some.inj (Tryz.func3.symm.trans hfn)).symm
   exact ⟨jf2,fun j t ht=>by
    rw [Tryz.params3] at ht
    match j,ht with
    | k+0,ht=>simp at ht⟩)
  jfM
end Go.Proofs.YtkhkjhojpoandaaGreatDoor
