/- 'MovesNames': for every input the call returns true, and the input reads as it did. The listed variables read as the text lays them. -/
import Derived.Test.YtfajaihbhmbpnaaGreatDoorRows
import Derived.Test.YtfajaihbhmbpnaaGreatDoorCards
import Derived.Test.YtfajaihbhmbpnaaGreatDoorTie
import Derived.ProofKit
import Derived.LaidMore
import Derived.Lay
import Derived.SevenTiedAt
import Derived.Test.YtfajaihbhmbpnaaGreatDoorZ16
import Derived.Test.YtfajaihbhmbpnaaGreatDoorZ17
import Derived.Test.YtfajaihbhmbpnaaGreatDoorZ18
import Derived.Test.YtfajaihbhmbpnaaGreatDoorZ20
set_option maxHeartbeats 8000000
set_option maxRecDepth 800
set_option linter.all false
namespace Go.Proofs.YtfajaihbhmbpnaaGreatDoor
open Go.ChangeShapes Go.WideShapes Go.ChangeAt Go.RowKit
theorem jcs:Am.jdf Tryz.prog Am.Sigs.cx.T=true:=by kernel_rfl
theorem jcP:(Am.Sigs.prog.fns.all fun p=>Am.fnM Tryz.prog Am.Sigs.cx p.1 p.2)=true:=by kernel_rfl
set_option maxRecDepth 100000 in
theorem jdw:Am.ProgOk Tryz.prog Am.Sigs.cx Am.Sigs.prog := {
 types:=Am.TOk.of_check jcs,
 mixed:=Tryz.checked.mixed,
 fns:=fun _ _ h=>List.all_eq_true.1 jcP _ (Am.jbf h),
 primF:=Am.Sigs.primsF,
 primOk:=Am.Sigs.primsOk }
theorem jcN:ownKnob Tryz.prog.godebug=none:=by kernel_rfl
theorem jdx:Am.Sigs.cx.gl=[0,2,3,4]:=rfl
theorem jcO (os:Os) (args:Array Value):laidMetH Tryz.prog Rows.movesNamesRow.laid ((World.laidAll Tryz.prog os Rows.movesNamesRow.laid).forCall (fun _ _=>0) ⟨#[],args,[]⟩).memory :=
 (MakeChecks.laidMetH_plain _ _ _ (by kernel_rfl)).mpr (laidMet_laidAll _ (by kernel_rfl) (by kernel_rfl))
theorem jd1:Tryz.prog.globalNamed "internal/strconv.uint64pow10" = some 2:=by kernel_rfl
theorem jdv:(Tryz.prog.globals[2]?).map (·.type)=some 187:=by kernel_rfl
theorem jd5:(Am.Fl.arr (t:=187) 20 1 (Am.Fl.int .u64 (t:=26) Tryz.underlying26) Tryz.underlying187 (by kernel_rfl) (by kernel_rfl)).f Rows.laid_internal_strconv_uint64pow10=some Am.Sigs.jaf:=by kernel_rfl
theorem jd0:Tryz.prog.globalNamed "strconv.ErrRange" = some 4:=by kernel_rfl
theorem jdu:(Tryz.prog.globals[4]?).map (·.type)=some 67:=by kernel_rfl
theorem jd4:(Am.Fl.ifc (t:=67) Tryz.underlying67).f Rows.laid_strconv_ErrRange=some Am.Sigs.jal:=by kernel_rfl
theorem jdz:Tryz.prog.globalNamed "strconv.ErrSyntax" = some 3:=by kernel_rfl
theorem jdt:(Tryz.prog.globals[3]?).map (·.type)=some 67:=by kernel_rfl
theorem jd3:(Am.Fl.ifc (t:=67) Tryz.underlying67).f Rows.laid_strconv_ErrSyntax=some Am.Sigs.jak:=by kernel_rfl
theorem jdy:Tryz.prog.globalNamed "roundhouse/moves.words" = some 0:=by kernel_rfl
theorem jds:(Tryz.prog.globals[0]?).map (·.type)=some 106:=by kernel_rfl
theorem jd2:(Am.Fl.arr (t:=106) 8 1 (Am.Fl.str (t:=9) Tryz.underlying9) Tryz.underlying106 (by kernel_rfl) (by kernel_rfl)).f Rows.laid_roundhouse_moves_words=some Am.Sigs.jag:=by kernel_rfl
set_option maxRecDepth 100000 in
theorem jcb (os:Os) (started:os.Started) (H:Type) (enc:TypeId × Value->H) :
  ReturnsInHanded {} Tryz.checked os 5 .any (fun w args=>(Rows.movesNamesSpec.pre enc Tryz.prog Tryz.f5 Rows.movesNamesRow.domain false w args/\laidMetH Tryz.prog Rows.movesNamesRow.laid w)/\sizedMet enc Tryz.prog Tryz.f5 (OpenSpec.ofChange Rows.movesNamesSpec) false w args)
   (Rows.movesNamesSpec.post enc Tryz.prog Tryz.f5 false true false false):=by
 refine returnsInHanded_of_change_and (C:=Tryz.checked) (X:=fun w _=>laidMetH Tryz.prog Rows.movesNamesRow.laid w) (fun _ _ _ hh h=>h.of_heap hh) jcN started (by kernel_rfl) Tryz.func5
  (ChangeSpec.witness_shaped (enc:=enc) (C:=Tryz.checked) (os:=os) (X:=fun w _=>laidMetH Tryz.prog Rows.movesNamesRow.laid w) false (World.laidAll Tryz.prog os Rows.movesNamesRow.laid) #[] 8 (World.laidAll_os _ _ _) (World.shaped_of_ZipB (by kernel_rfl) (by kernel_rfl)) (by kernel_rfl) (by kernel_rfl) (by kernel_rfl) (jcO os _)) ?_
 intro W base args ds gs before hval0 hW _ _ hL _
 have hval : ∀ (j:Nat) t v,Tryz.f5.params[j]?=some t->args[j]?=some v->Value.okWide Tryz.prog W .any base t v:=hval0
 have hW':=hW
 obtain ⟨p,q,hA0,hV,rfl,hfz,hnd⟩:=hW
 have hA:DataW.TrodAll enc Tryz.prog W 0 (fun _=>true) true Tryz.f5.params.toList args.toList ds p:=hA0
 rw [Tryz.params5] at hA hval
 obtain ⟨ha,rfl,rfl⟩:=Am.args_nil hA
 obtain rfl:args = #[]:=by cases args;simp_all
 obtain ⟨rfl,rfl⟩:=trodVars_none hV
 have hlt:=hW'.lt
 have r0:=Am.ro0 (P:=Tryz.prog) (C:=Am.Sigs.cx) (W:=W) 9
 rw [MakeChecks.laidMetH_plain _ _ _ (by kernel_rfl)] at hL
 obtain ⟨ps,⟨g0,t0,cs0,f0,pp0,qq0,hg0,ht0,hv0,hd0,⟨g1,t1,cs1,f1,pp1,qq1,hg1,ht1,hv1,hd1,⟨g2,t2,cs2,f2,pp2,qq2,hg2,ht2,hv2,hd2,⟨g3,t3,cs3,f3,pp3,qq3,hg3,ht3,hv3,hd3,⟨g4,t4,cs4,f4,pp4,qq4,hg4,ht4,hv4,hd4,⟨g5,t5,cs5,f5,pp5,qq5,hg5,ht5,hv5,hd5,⟨g6,t6,cs6,f6,pp6,qq6,hg6,ht6,hv6,hd6,⟨g7,t7,cs7,f7,pp7,qq7,hg7,ht7,hv7,hd7,_,_⟩,_⟩,_⟩,_⟩,_⟩,_⟩,_⟩,_⟩,_,_⟩:=hL
 obtain rfl:=Option.some.inj (jd1.symm.trans hg2)
 obtain rfl:=Option.some.inj (jdv.symm.trans ht2)
 have s2:=r0.var (g:=2) (by rfl) (by decide) (Am.Fl.arr (t:=187) 20 1 (Am.Fl.int .u64 (t:=26) Tryz.underlying26) Tryz.underlying187 (by kernel_rfl) (by kernel_rfl)) hg2 hv2 hd2 jd5
 obtain rfl:=Option.some.inj (jd0.symm.trans hg4)
 obtain rfl:=Option.some.inj (jdu.symm.trans ht4)
 have s4:=s2.var (g:=4) (by rfl) (by decide) (Am.Fl.ifc (t:=67) Tryz.underlying67) hg4 hv4 hd4 jd4
 obtain rfl:=Option.some.inj (jdz.symm.trans hg5)
 obtain rfl:=Option.some.inj (jdt.symm.trans ht5)
 have s5:=s4.var (g:=3) (by rfl) (by decide) (Am.Fl.ifc (t:=67) Tryz.underlying67) hg5 hv5 hd5 jd3
 obtain rfl:=Option.some.inj (jdy.symm.trans hg6)
 obtain rfl:=Option.some.inj (jds.symm.trans ht6)
 have s6:=s5.var (g:=0) (by rfl) (by decide) (Am.Fl.arr (t:=106) 8 1 (Am.Fl.str (t:=9) Tryz.underlying9) Tryz.underlying106 (by kernel_rfl) (by kernel_rfl)) hg6 hv6 hd6 jd2
 have r0':=s6
 obtain ⟨m0,e0,r0,hnx,l2,l4,l5,l6,hG⟩ : ∃ m0 e0,Am.RoMem Tryz.prog Am.Sigs.cx m0 e0 W/\e0.nx=9/\e0.get 2=some (.cells Am.Sigs.jaf true)/\e0.get 4=some (.cells Am.Sigs.jal true)/\e0.get 3=some (.cells Am.Sigs.jak true)/\e0.get 0=some (.cells Am.Sigs.jag true)/\Am.GOk Am.Sigs.cx m0:=by
  refine ⟨_,_,r0',rfl,rfl,rfl,rfl,rfl,?_⟩
  intro g hg
  rw [jdx] at hg
  have hg2:g=0\/g=2\/g=3\/g=4:=by simp [Am.nbeq] at hg;omega
  rcases hg2 with rfl | rfl | rfl | rfl
  ·exact ⟨_,by rfl,rfl,rfl⟩
  ·exact ⟨_,by rfl,rfl,rfl⟩
  ·exact ⟨_,by rfl,rfl,rfl⟩
  ·exact ⟨_,by rfl,rfl,rfl⟩
 obtain ⟨h',hr⟩:=Am.Sigs.jd6 (cl:=Am.jax Am.Sigs.prog Am.Sigs.fuel) (fun _=>rfl) hnx (fun b hb=>r0.wf b (by rw [hnx];exact hb)) l2 l4 l5 l6
 refine (Am.jgo (n:=59) (xs := #[]) (a:=Am.Sigs.c5) jdw (by rfl) (by rfl) hr r0.rel hG rfl).calls fun m' w' x hs hx=>?_
 obtain rfl:x = .bool true:=hx
 exact ⟨_,rfl,Am.post1 hs r0.noOwned hW' (fun _ _ _=>trodAll_mk1 (shut_bool (t:=4) (by kernel_rfl) true))
  trodAll_mk0 rfl⟩
theorem jcM:Rows.MovesNamesSaid :=
 OpenClaim.holds_of_wide 5 Tryz.f5 rfl rfl rfl rfl rfl rfl rfl ⟨rfl,rfl,rfl,rfl,rfl⟩ rfl rfl rfl rfl rfl (by kernel_rfl) Tryz.func5 (by kernel_rfl)
  (of_decide_eq_true (by kernel_rfl)) (by unfold Func.isWrapper;first | (rw [if_pos (by decide +kernel)];kernel_rfl) | (rw [if_neg (by decide +kernel)];exact ⟨rfl,rfl⟩))
  (fun os started H enc _=>jcb os started H enc)
theorem movesNames_holds:Rows.MovesNamesCardSaid :=
 Claim7.holds_tied_plain_at .later [] [.data,.data,.data,.data,.sentinel,.sentinel,.data,.pinned] true (true,"f0beb2d4d7c0aec0dd569b675466671d0dc80b2328ee7849b731a1a46b4392bb") true
  jcM (fun _ h=>by cases h) (by kernel_rfl) (fun _ h=>by cases h) movesNames_row_tie rfl ⟨rfl,rfl⟩ (by kernel_rfl) rfl
  (fun f fn hf hfn=>by
   obtain rfl:f=5:=Option.some.inj ((show Tryz.prog.funcNamed "roundhouse/roundhouselaw12.MovesNames" = some 5 by kernel_rfl).symm.trans hf) |>.symm
   obtain rfl:fn=Tryz.f5:=(Option.some.inj (Tryz.func5.symm.trans hfn)).symm
   exact ⟨by kernel_rfl,fun j t ht=>by
    rw [Tryz.params5] at ht
    match j,ht with
    | k+0,ht=>simp at ht⟩)
  (by kernel_rfl)
end Go.Proofs.YtfajaihbhmbpnaaGreatDoor
