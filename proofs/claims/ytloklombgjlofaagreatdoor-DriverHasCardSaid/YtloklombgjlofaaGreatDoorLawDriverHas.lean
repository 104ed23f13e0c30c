/- 'DriverHas': for every input the call returns true, and the input reads as it did. The listed variables read as the text lays them. -/
import Derived.Test.YtloklombgjlofaaGreatDoorRows
import Derived.Test.YtloklombgjlofaaGreatDoorCards
import Derived.Test.YtloklombgjlofaaGreatDoorTie
import Derived.ProofKit
import Derived.LaidMore
import Derived.SevenTiedAt
import Derived.Test.YtloklombgjlofaaGreatDoorQ16
import Derived.Test.YtloklombgjlofaaGreatDoorQ17
import Derived.Test.YtloklombgjlofaaGreatDoorQ19
set_option maxHeartbeats 8000000
set_option maxRecDepth 800
set_option linter.all false
namespace Go.Proofs.YtloklombgjlofaaGreatDoor
open Go.ChangeShapes Go.WideShapes Go.ChangeAt Go.RowKit
theorem jdR:Am.jgY Tryz.prog Am.Sigs.cx.T=true:=by kernel_rfl
theorem jfp:(Am.Sigs.prog.fns.all fun p=>Am.fnM Tryz.prog Am.Sigs.cx p.1 p.2)=true:=by kernel_rfl
set_option maxRecDepth 100000 in
theorem jfZ:Am.ProgOk Tryz.prog Am.Sigs.cx Am.Sigs.prog := {
 types:=Am.TOk.of_check jdR,
 mixed:=Tryz.checked.mixed,
 fns:=fun _ _ h=>List.all_eq_true.1 jfp _ (Am.jbN h),
 primF:=Am.Sigs.primsF,
 primOk:=Am.Sigs.primsOk }
theorem jfn:ownKnob Tryz.prog.godebug=none:=by kernel_rfl
theorem jby:laidOutB Tryz.prog=true:=by kernel_rfl
theorem jga:Am.Sigs.cx.gl=[0]:=rfl
noncomputable def jaN:Am.Rd Tryz.prog 3 Int:=Am.Rd.int .i64 (t:=3) Tryz.underlying3 (by kernel_rfl)
theorem jfo (os:Os) (args:Array Value):laidMetH Tryz.prog Rows.driverHasRow.laid ((World.doorLaid Tryz.prog 400 os).forCall (fun _ _=>0) ⟨#[],args,[]⟩).memory :=
 laidMetH_of_parts3 (fuel:=8) (laidMet_of_run' 8 (by kernel_rfl) (by kernel_rfl)) (by kernel_rfl) (by kernel_rfl)
theorem jgb:Tryz.prog.globalNamed "roundhouse/flag.has" = some 0:=by kernel_rfl
theorem jfY:(Tryz.prog.globals[0]?).map (·.type)=some 107:=by kernel_rfl
theorem jgc:(Am.Fl.arr (t:=107) 4 1 (Am.Fl.int .i64 (t:=3) Tryz.underlying3) Tryz.underlying107 (by kernel_rfl) (by kernel_rfl)).f Rows.laid_roundhouse_flag_has=some Am.Sigs.jai:=by kernel_rfl
set_option maxRecDepth 100000 in
theorem jdg (os:Os) (started:os.Started) (H:Type) (enc:TypeId × Value->H) :
  ReturnsInHanded {} Tryz.checked os 3 .any (fun w args=>(Rows.driverHasSpec.pre enc Tryz.prog Tryz.f3 Rows.driverHasRow.domain false w args/\laidMetH Tryz.prog Rows.driverHasRow.laid w)/\sizedMet enc Tryz.prog Tryz.f3 (OpenSpec.ofChange Rows.driverHasSpec) false w args)
   (Rows.driverHasSpec.post enc Tryz.prog Tryz.f3 false true false false):=by
 refine returnsInHanded_of_change_and (C:=Tryz.checked) (X:=fun w _=>laidMetH Tryz.prog Rows.driverHasRow.laid w) (fun _ _ _ hh h=>h.of_heap hh) jfn started (by kernel_rfl) Tryz.func3
  (ChangeSpec.witness_shaped (enc:=enc) (C:=Tryz.checked) (os:=os) (X:=fun w _=>laidMetH Tryz.prog Rows.driverHasRow.laid w) false (World.doorLaid Tryz.prog 400 os) #[.int .i64 0,.int .i64 0,.int .i64 0] 8 rfl (World.shaped_of_RefB (by kernel_rfl) (by kernel_rfl)) (by kernel_rfl) (by kernel_rfl) (by kernel_rfl) (jfo os _)) ?_
 intro W base args ds gs before hval0 hW _ _ hL _
 have hval : ∀ (j:Nat) t v,Tryz.f3.params[j]?=some t->args[j]?=some v->Value.okWide Tryz.prog W .any base t v:=hval0
 have hW':=hW
 obtain ⟨p,q,hA0,hV,rfl,hfz,hnd⟩:=hW
 have hA:DataW.TrodAll enc Tryz.prog W 0 (fun _=>true) true Tryz.f3.params.toList args.toList ds p:=hA0
 rw [Tryz.params3] at hA hval
 obtain ⟨v0,vs0,d0,ds0,p0,q0,ha,rfl,rfl,h0,hA1⟩:=Am.jeb hA
 obtain ⟨v1,vs1,d1,ds1,p1,q1,rfl,rfl,rfl,h1,hA2⟩:=Am.jeb hA1
 obtain ⟨v2,vs2,d2,ds2,p2,q2,rfl,rfl,rfl,h2,hA3⟩:=Am.jeb hA2
 obtain ⟨rfl,rfl,rfl⟩:=Am.args_nil hA3
 obtain rfl:args = #[v0,v1,v2]:=by cases args;simp_all
 obtain ⟨rfl,rfl⟩:=trodVars_none hV
 have hlt:=hW'.lt
 have r0:=Am.ro0 (P:=Tryz.prog) (C:=Am.Sigs.cx) (W:=W) 1
 rw [MakeChecks.laidMetH_plain _ _ _ (by kernel_rfl)] at hL
 obtain ⟨ps,⟨g0,t0,cs0,f0,pp0,qq0,hg0,ht0,hv0,hd0,_,_⟩,_,_⟩:=hL
 obtain rfl:=Option.some.inj (jgb.symm.trans hg0)
 obtain rfl:=Option.some.inj (jfY.symm.trans ht0)
 have s0:=r0.var (g:=0) (by rfl) (by decide) (Am.Fl.arr (t:=107) 4 1 (Am.Fl.int .i64 (t:=3) Tryz.underlying3) Tryz.underlying107 (by kernel_rfl) (by kernel_rfl)) hg0 hv0 hd0 jgc
 have r0':=s0
 obtain ⟨x0,u0,m1,e1,r1,w0,n0,k0,y0⟩:=jaN.arg rfl r0' (Am.jdT Tryz.underlying3 (hval 0 3 v0 rfl rfl)) h0
 obtain ⟨x1,u1,m2,e2,r2,w1,n1,k1,y1⟩:=jaN.arg rfl r1 (Am.jdT Tryz.underlying3 (hval 1 3 v1 rfl rfl)) h1
 obtain ⟨x2,u2,m3,e3,r3,w2,n2,k2,y2⟩:=jaN.arg rfl r2 (Am.jdT Tryz.underlying3 (hval 2 3 v2 rfl rfl)) h2
 have hnx:e3.nx=1:=by rw [n2,n1,n0];rfl
 have l0:e3.get 0=some (.cells Am.Sigs.jai true):=by rw [((w0.trans w1).trans w2).get 0 (by decide)];rfl
 obtain ⟨h',hr⟩:=Am.Sigs.jgd (cl:=Am.ja6 Am.Sigs.prog Am.Sigs.fuel) (fun _=>rfl) hnx (fun b hb=>r3.wf b (by rw [hnx];exact hb)) l0 (jaN.keep (w1.trans w2).nx (w1.trans w2).get k0) (jaN.keep w2.nx w2.get k1) k2
 have hG:Am.GOk Am.Sigs.cx m3:=by
  intro g hg
  rw [jga] at hg
  have hg2:g=0:=by simp [Am.nbeq] at hg;omega
  rcases hg2 with rfl
  ·exact ⟨_,((w0.trans w1).trans w2).mono _ _ (by rfl),rfl,rfl⟩
 refine (Am.call_fn (n:=59) (xs := #[v0,v1,v2]) (a:=Am.Sigs.c3) jfZ (by rfl) (by rfl) hr r3.rel hG ⟨_,_,rfl,(y0.mono (w1.trans w2).mono),⟨_,_,rfl,(y1.mono w2.mono),⟨_,_,rfl,y2,rfl⟩⟩⟩).calls fun m' w' x hs hx=>?_
 obtain rfl:x = .bool true:=hx
 exact ⟨_,rfl,Am.post1 hs r3.noOwned hW' (fun _ _ _=>trodAll_mk1 (shut_bool (t:=4) (by kernel_rfl) true))
  (Am.jgS (Below.trod jby (by kernel_rfl) (of_decide_eq_true (by kernel_rfl)) h0 (Am.jdq hs r3.noOwned) (fun x hx=>hlt x (by simp [hx]))) (Am.jgS (Below.trod jby (by kernel_rfl) (of_decide_eq_true (by kernel_rfl)) h1 (Am.jdq hs r3.noOwned) (fun x hx=>hlt x (by simp [hx]))) (Am.jgS (Below.trod jby (by kernel_rfl) (of_decide_eq_true (by kernel_rfl)) h2 (Am.jdq hs r3.noOwned) (fun x hx=>hlt x (by simp [hx]))) trodAll_mk0))) rfl⟩
theorem jfm:Rows.DriverHasSaid :=
 OpenClaim.holds_of_wide 3 Tryz.f3 rfl rfl rfl rfl rfl rfl rfl ⟨rfl,rfl,rfl,rfl,rfl⟩ rfl rfl rfl rfl rfl (by kernel_rfl) Tryz.func3 (by kernel_rfl)
  (of_decide_eq_true (by kernel_rfl)) (by unfold Func.isWrapper;first | (rw [if_pos (by decide +kernel)];kernel_rfl) | (rw [if_neg (by decide +kernel)];exact ⟨rfl,rfl⟩))
  (fun os started H enc _=>jdg os started H enc)
theorem driverHas_holds:Rows.DriverHasCardSaid :=
 Claim7.holds_tied_plain_at .later [] [.data] true (true,"31d6c86a1ab9c1a50355cc49b627131c49c626ffb48da0f2521347d05b14c85a") false
  jfm (fun _ h=>by cases h) (by kernel_rfl) (fun _ h=>by cases h) driverHas_row_tie rfl ⟨rfl,rfl⟩ (by kernel_rfl) rfl
  (fun f fn hf hfn=>by
   obtain rfl:f=3:=Option.some.inj ((show Tryz.prog.funcNamed "roundhouse/roundhouselaw21.DriverHas" = some 3 by kernel_rfl).symm.trans hf) |>.symm
   obtain rfl:fn=Tryz.f3:=(Option.some.inj (Tryz.func3.symm.trans hfn)).symm
   exact ⟨by kernel_rfl,fun j t ht=>by
    rw [Tryz.params3] at ht
    match j,ht with
    | 0,ht=>cases ht;exact (show Tryz.prog.wantsStandIn 3=false by kernel_rfl)
    | 1,ht=>cases ht;exact (show Tryz.prog.wantsStandIn 3=false by kernel_rfl)
    | 2,ht=>cases ht;exact (show Tryz.prog.wantsStandIn 3=false by kernel_rfl)
    | k+3,ht=>simp at ht⟩)
  (by kernel_rfl)
end Go.Proofs.YtloklombgjlofaaGreatDoor
