/- 'MovesTexts': for every input the call returns true, and the input reads as it did. The listed variables read as the text lays them. -/
import Derived.Test.YtfajaihbhmbpnaaGreatDoorRows
import Derived.Test.YtfajaihbhmbpnaaGreatDoorCards
import Derived.Test.YtfajaihbhmbpnaaGreatDoorTie
import Derived.ProofKit
import Derived.LaidMore
import Derived.Lay
import Derived.SevenTiedAt
import Derived.Test.YtfajaihbhmbpnaaGreatDoorY21
import Derived.Test.YtfajaihbhmbpnaaGreatDoorY22
import Derived.Test.YtfajaihbhmbpnaaGreatDoorY23
import Derived.Test.YtfajaihbhmbpnaaGreatDoorY25
set_option maxHeartbeats 8000000
set_option maxRecDepth 800
set_option linter.all false
namespace Go.Proofs.YtfajaihbhmbpnaaGreatDoor
open Go.ChangeShapes Go.WideShapes Go.ChangeAt Go.RowKit
theorem jeh:Am.jfH Tryz.prog Am.Sigs.cx.T=true:=by kernel_rfl
theorem jfp:(Am.Sigs.prog.fns.all fun p=>Am.fnM Tryz.prog Am.Sigs.cx p.1 p.2)=true:=by kernel_rfl
set_option maxRecDepth 100000 in
theorem jgh:Am.ProgOk Tryz.prog Am.Sigs.cx Am.Sigs.prog := {
 types:=Am.TOk.of_check jeh,
 mixed:=Tryz.checked.mixed,
 fns:=fun _ _ h=>List.all_eq_true.1 jfp _ (Am.jbW h),
 primF:=Am.Sigs.primsF,
 primOk:=Am.Sigs.primsOk }
theorem jfn:ownKnob Tryz.prog.godebug=none:=by kernel_rfl
theorem jc1:laidOutB Tryz.prog=true:=by kernel_rfl
theorem jgi:Am.Sigs.cx.gl=[0,2,3,4]:=rfl
noncomputable def jeT:Am.Rd Tryz.prog 26 Int:=Am.Rd.int .u64 (t:=26) Tryz.underlying26 (by kernel_rfl)
noncomputable def jfm:Am.Rd Tryz.prog 4 Bool:=Am.Rd.bool (t:=4) Tryz.underlying4 (by kernel_rfl)
noncomputable def jbm:Am.Rd Tryz.prog 3 Int:=Am.Rd.int .i64 (t:=3) Tryz.underlying3 (by kernel_rfl)
noncomputable def jdE:Am.Rd Tryz.prog 27 (List Int):=Am.Rd.slice 60 jbm (t:=27) Tryz.underlying27 (by kernel_rfl) (by decide)
noncomputable def jfl:Am.Rd Tryz.prog 5 Int:=Am.Rd.int .u8 (t:=5) Tryz.underlying5 (by kernel_rfl)
noncomputable def jdC:Am.Rd Tryz.prog 44 (List Int):=Am.Rd.slice 1100 jfl (t:=44) Tryz.underlying44 (by kernel_rfl) (by decide)
noncomputable def jdt:Am.Rd Tryz.prog 46 (Int × (Int × (Int × ((List Int) × Unit)))):=Am.Rd.st (t:=46) Tryz.underlying46 (Am.RdF.cons jbm rfl (Am.RdF.cons jbm rfl (Am.RdF.cons jbm rfl (Am.RdF.cons jdC rfl Am.RdF.nil)))) (by kernel_rfl)
noncomputable def jdD:Am.Rd Tryz.prog 28 (List (Int × (Int × (Int × ((List Int) × Unit))))):=Am.Rd.slice 60 jdt (t:=28) Tryz.underlying28 (by kernel_rfl) (by decide)
noncomputable def jdu:Am.Rd Tryz.prog 30 (Int × (Bool × ((List Int) × ((List (Int × (Int × (Int × ((List Int) × Unit))))) × Unit)))):=Am.Rd.st (t:=30) Tryz.underlying30 (Am.RdF.cons jeT rfl (Am.RdF.cons jfm rfl (Am.RdF.cons jdE rfl (Am.RdF.cons jdD rfl Am.RdF.nil)))) (by kernel_rfl)
noncomputable def jbT:Am.Rd Tryz.prog 22 (List (Int × (Bool × ((List Int) × ((List (Int × (Int × (Int × ((List Int) × Unit))))) × Unit))))):=Am.Rd.slice 2000 jdu (t:=22) Tryz.underlying22 (by kernel_rfl) (by decide)
noncomputable def jfk:Am.Rd Tryz.prog 9 (List UInt8):=Am.Rd.str (t:=9) Tryz.underlying9 (by kernel_rfl)
theorem jfo (os:Os) (args:Array Value):laidMetH Tryz.prog Rows.movesTextsRow.laid ((World.laidAll Tryz.prog os Rows.movesTextsRow.laid).forCall (fun _ _=>0) ⟨#[],args,[]⟩).memory :=
 (MakeChecks.laidMetH_plain _ _ _ (by kernel_rfl)).mpr (laidMet_laidAll _ (by kernel_rfl) (by kernel_rfl))
theorem jgm:Tryz.prog.globalNamed "internal/strconv.uint64pow10" = some 2:=by kernel_rfl
theorem jgg:(Tryz.prog.globals[2]?).map (·.type)=some 187:=by kernel_rfl
theorem jgq:(Am.Fl.arr (t:=187) 20 1 (Am.Fl.int .u64 (t:=26) Tryz.underlying26) Tryz.underlying187 (by kernel_rfl) (by kernel_rfl)).f Rows.laid_internal_strconv_uint64pow10=some Am.Sigs.jar:=by kernel_rfl
theorem jgl:Tryz.prog.globalNamed "strconv.ErrRange" = some 4:=by kernel_rfl
theorem jgf:(Tryz.prog.globals[4]?).map (·.type)=some 67:=by kernel_rfl
theorem jgp:(Am.Fl.ifc (t:=67) Tryz.underlying67).f Rows.laid_strconv_ErrRange=some Am.Sigs.jaO:=by kernel_rfl
theorem jgk:Tryz.prog.globalNamed "strconv.ErrSyntax" = some 3:=by kernel_rfl
theorem jge:(Tryz.prog.globals[3]?).map (·.type)=some 67:=by kernel_rfl
theorem jgo:(Am.Fl.ifc (t:=67) Tryz.underlying67).f Rows.laid_strconv_ErrSyntax=some Am.Sigs.jaF:=by kernel_rfl
theorem jgj:Tryz.prog.globalNamed "roundhouse/moves.words" = some 0:=by kernel_rfl
theorem jgd:(Tryz.prog.globals[0]?).map (·.type)=some 106:=by kernel_rfl
theorem jgn:(Am.Fl.arr (t:=106) 8 1 (Am.Fl.str (t:=9) Tryz.underlying9) Tryz.underlying106 (by kernel_rfl) (by kernel_rfl)).f Rows.laid_roundhouse_moves_words=some Am.Sigs.jay:=by kernel_rfl
set_option maxRecDepth 100000 in
theorem jdF (os:Os) (started:os.Started) (H:Type) (enc:TypeId × Value->H) :
  ReturnsInHanded {} Tryz.checked os 3 .any (fun w args=>(Rows.movesTextsSpec.pre enc Tryz.prog Tryz.f3 Rows.movesTextsRow.domain false w args/\laidMetH Tryz.prog Rows.movesTextsRow.laid w)/\sizedMet enc Tryz.prog Tryz.f3 (OpenSpec.ofChange Rows.movesTextsSpec) false w args)
   (Rows.movesTextsSpec.post enc Tryz.prog Tryz.f3 false true false false):=by
 refine returnsInHanded_of_change_and (C:=Tryz.checked) (X:=fun w _=>laidMetH Tryz.prog Rows.movesTextsRow.laid w) (fun _ _ _ hh h=>h.of_heap hh) jfn started (by kernel_rfl) Tryz.func3
  (ChangeSpec.witness_shaped (enc:=enc) (C:=Tryz.checked) (os:=os) (X:=fun w _=>laidMetH Tryz.prog Rows.movesTextsRow.laid w) false (World.laidAll Tryz.prog os Rows.movesTextsRow.laid) #[.slice none 0 0,.string ⟨⟨[]⟩⟩] 8 (World.laidAll_os _ _ _) (World.shaped_of_ZipB (by kernel_rfl) (by kernel_rfl)) (by kernel_rfl) (by kernel_rfl) (by kernel_rfl) (jfo os _)) ?_
 intro W base args ds gs before hval0 hW _ _ hL _
 have hval : ∀ (j:Nat) t v,Tryz.f3.params[j]?=some t->args[j]?=some v->Value.okWide Tryz.prog W .any base t v:=hval0
 have hW':=hW
 obtain ⟨p,q,hA0,hV,rfl,hfz,hnd⟩:=hW
 have hA:DataW.TrodAll enc Tryz.prog W 0 (fun _=>true) true Tryz.f3.params.toList args.toList ds p:=hA0
 rw [Tryz.params3] at hA hval
 obtain ⟨v0,vs0,d0,ds0,p0,q0,ha,rfl,rfl,h0,hA1⟩:=Am.jhD hA
 obtain ⟨v1,vs1,d1,ds1,p1,q1,rfl,rfl,rfl,h1,hA2⟩:=Am.jhD hA1
 obtain ⟨rfl,rfl,rfl⟩:=Am.args_nil hA2
 obtain rfl:args = #[v0,v1]:=by cases args;simp_all
 obtain ⟨rfl,rfl⟩:=trodVars_none hV
 have hlt:=hW'.lt
 have r0:=Am.ro0 (P:=Tryz.prog) (C:=Am.Sigs.cx) (W:=W) 9
 rw [MakeChecks.laidMetH_plain _ _ _ (by kernel_rfl)] at hL
 obtain ⟨ps,⟨g0,t0,cs0,f0,pp0,qq0,hg0,ht0,hv0,hd0,⟨g1,t1,cs1,f1,pp1,qq1,hg1,ht1,hv1,hd1,⟨g2,t2,cs2,f2,pp2,qq2,hg2,ht2,hv2,hd2,⟨g3,t3,cs3,f3,pp3,qq3,hg3,ht3,hv3,hd3,⟨g4,t4,cs4,f4,pp4,qq4,hg4,ht4,hv4,hd4,⟨g5,t5,cs5,f5,pp5,qq5,hg5,ht5,hv5,hd5,⟨g6,t6,cs6,f6,pp6,qq6,hg6,ht6,hv6,hd6,⟨g7,t7,cs7,f7,pp7,qq7,hg7,ht7,hv7,hd7,_,_⟩,_⟩,_⟩,_⟩,_⟩,_⟩,_⟩,_⟩,_,_⟩:=hL
 obtain rfl:=Option.some.inj (jgm.symm.trans hg2)
 obtain rfl:=Option.some.inj (jgg.symm.trans ht2)
 have s2:=r0.var (g:=2) (by rfl) (by decide) (Am.Fl.arr (t:=187) 20 1 (Am.Fl.int .u64 (t:=26) Tryz.underlying26) Tryz.underlying187 (by kernel_rfl) (by kernel_rfl)) hg2 hv2 hd2 jgq
 obtain rfl:=Option.some.inj (jgl.symm.trans hg4)
 obtain rfl:=Option.some.inj (jgf.symm.trans ht4)
 have s4:=s2.var (g:=4) (by rfl) (by decide) (Am.Fl.ifc (t:=67) Tryz.underlying67) hg4 hv4 hd4 jgp
 obtain rfl:=Option.some.inj (jgk.symm.trans hg5)
 obtain rfl:=Option.some.inj (jge.symm.trans ht5)
 have s5:=s4.var (g:=3) (by rfl) (by decide) (Am.Fl.ifc (t:=67) Tryz.underlying67) hg5 hv5 hd5 jgo
 obtain rfl:=Option.some.inj (jgj.symm.trans hg6)
 obtain rfl:=Option.some.inj (jgd.symm.trans ht6)
 have s6:=s5.var (g:=0) (by rfl) (by decide) (Am.Fl.arr (t:=106) 8 1 (Am.Fl.str (t:=9) Tryz.underlying9) Tryz.underlying106 (by kernel_rfl) (by kernel_rfl)) hg6 hv6 hd6 jgn
 have r0':=s6
 obtain ⟨x0,u0,m1,e1,r1,w0,n0,k0,y0⟩:=jbT.arg rfl r0' (Am.jio Tryz.underlying22 (hval 0 22 v0 rfl rfl)) h0
 obtain ⟨x1,u1,m2,e2,r2,w1,n1,k1,y1⟩:=jfk.arg rfl r1 (Am.cells_str Tryz.underlying9 (hval 1 9 v1 rfl rfl)) h1
 have hnx:e2.nx=124010:=by rw [n1,n0];rfl
 have l2:e2.get 2=some (.cells Am.Sigs.jar true):=by rw [(w0.trans w1).get 2 (by decide)];rfl
 have l4:e2.get 4=some (.cells Am.Sigs.jaO true):=by rw [(w0.trans w1).get 4 (by decide)];rfl
 have l5:e2.get 3=some (.cells Am.Sigs.jaF true):=by rw [(w0.trans w1).get 3 (by decide)];rfl
 have l6:e2.get 0=some (.cells Am.Sigs.jay true):=by rw [(w0.trans w1).get 0 (by decide)];rfl
 obtain ⟨h',hr⟩:=Am.Sigs.jgr (cl:=Am.ja0 Am.Sigs.prog Am.Sigs.fuel) (fun _=>rfl) hnx (fun b hb=>r2.wf b (by rw [hnx];exact hb)) l2 l4 l5 l6 (jbT.keep w1.nx w1.get k0) k1
 have hG:Am.GOk Am.Sigs.cx m2:=by
  intro g hg
  rw [jgi] at hg
  have hg2:g=0\/g=2\/g=3\/g=4:=by simp [Am.nbeq] at hg;omega
  rcases hg2 with rfl | rfl | rfl | rfl
  ·exact ⟨_,(w0.trans w1).mono _ _ (by rfl),rfl,rfl⟩
  ·exact ⟨_,(w0.trans w1).mono _ _ (by rfl),rfl,rfl⟩
  ·exact ⟨_,(w0.trans w1).mono _ _ (by rfl),rfl,rfl⟩
  ·exact ⟨_,(w0.trans w1).mono _ _ (by rfl),rfl,rfl⟩
 refine (Am.jkx (n:=30) (xs := #[v0,v1]) (a:=Am.Sigs.c3) jgh (by rfl) (by rfl) hr r2.rel hG ⟨_,_,rfl,(y0.mono w1.mono),⟨_,_,rfl,y1,rfl⟩⟩).calls fun m' w' x hs hx=>?_
 obtain rfl:x = .bool true:=hx
 exact ⟨_,rfl,Am.post1 hs r2.noOwned hW' (fun _ _ _=>trodAll_mk1 (shut_bool (t:=4) (by kernel_rfl) true))
  (Am.jk0 (Below.trod jc1 (by kernel_rfl) (of_decide_eq_true (by kernel_rfl)) h0 (Am.jgG hs r2.noOwned) (fun x hx=>hlt x (by simp [hx]))) (Am.jk0 (Below.trod jc1 (by kernel_rfl) (of_decide_eq_true (by kernel_rfl)) h1 (Am.jgG hs r2.noOwned) (fun x hx=>hlt x (by simp [hx]))) trodAll_mk0)) rfl⟩
theorem jfj:Rows.MovesTextsSaid :=
 OpenClaim.holds_of_wide 3 Tryz.f3 rfl rfl rfl rfl rfl rfl rfl ⟨rfl,rfl,rfl,rfl,rfl⟩ rfl rfl rfl rfl rfl (by kernel_rfl) Tryz.func3 (by kernel_rfl)
  (of_decide_eq_true (by kernel_rfl)) (by unfold Func.isWrapper;first | (rw [if_pos (by decide +kernel)];kernel_rfl) | (rw [if_neg (by decide +kernel)];exact ⟨rfl,rfl⟩))
  (fun os started H enc _=>jdF os started H enc)
theorem movesTexts_holds:Rows.MovesTextsCardSaid :=
 Claim7.holds_tied_plain_at .later [] [.data,.data,.data,.data,.sentinel,.sentinel,.data,.pinned] true (true,"f0beb2d4d7c0aec0dd569b675466671d0dc80b2328ee7849b731a1a46b4392bb") true
  jfj (fun _ h=>by cases h) (by kernel_rfl) (fun _ h=>by cases h) movesTexts_row_tie rfl ⟨rfl,rfl⟩ (by kernel_rfl) rfl
  (fun f fn hf hfn=>by
   obtain rfl:f=3:=Option.some.inj ((show Tryz.prog.funcNamed "roundhouse/roundhouselaw12.MovesTexts" = some 3 by kernel_rfl).symm.trans hf) |>.symm
   obtain rfl:fn=Tryz.f3:=(Option.some.inj (Tryz.func3.symm.trans hfn)).symm
   exact ⟨by kernel_rfl,fun j t ht=>by
    rw [Tryz.params3] at ht
    match j,ht with
    | 0,ht=>cases ht;exact (show Tryz.prog.wantsStandIn 22=false by kernel_rfl)
    | 1,ht=>cases ht;exact (show Tryz.prog.wantsStandIn 9=false by kernel_rfl)
    | k+2,ht=>simp at ht⟩)
  (by kernel_rfl)
end Go.Proofs.YtfajaihbhmbpnaaGreatDoor
