/- 'SelTells': for every input the call returns true, and the input reads as it did. The listed variables read as the text lays them. -/
import Derived.Test.YtkcenemffnfoeaaGreatDoorRows
import Derived.Test.YtkcenemffnfoeaaGreatDoorCards
import Derived.Test.YtkcenemffnfoeaaGreatDoorTie
import Derived.ProofKit
import Derived.LaidMore
import Derived.SevenTiedAt
import Derived.Test.YtkcenemffnfoeaaGreatDoorR26
import Derived.Test.YtkcenemffnfoeaaGreatDoorR27
import Derived.Test.YtkcenemffnfoeaaGreatDoorR29
set_option maxHeartbeats 8000000
set_option linter.all false
namespace Go.Proofs.YtkcenemffnfoeaaGreatDoor
open Go.ChangeShapes Go.WideShapes Go.ChangeAt Go.RowKit
theorem jh1:Am.jkU Tryz.prog Am.Sigs.cx.T=true:=by kernel_rfl
theorem jjh:(Am.Sigs.prog.fns.all fun p=>Am.fnM Tryz.prog Am.Sigs.cx p.1 p.2)=true:=by kernel_rfl
set_option maxRecDepth 100000 in
theorem jkn:Am.ProgOk Tryz.prog Am.Sigs.cx Am.Sigs.prog := {
 types:=Am.TOk.of_check jh1,
 mixed:=Tryz.checked.mixed,
 fns:=fun f a h=>List.all_eq_true.1 jjh _ (Am.jeo h),
 primF:=Am.Sigs.primsF,
 primOk:=Am.Sigs.primsOk }
theorem jjf:ownKnob Tryz.prog.godebug=none:=by kernel_rfl
theorem jfi:laidOutB Tryz.prog=true:=by kernel_rfl
theorem jko:Am.Sigs.cx.gl=[0,2,3]:=rfl
noncomputable def jcY:Am.Rd Tryz.prog 3 Int:=Am.Rd.int .i64 (t:=3) Tryz.underlying3 (by kernel_rfl)
noncomputable def jir:Am.Rd Tryz.prog 65 Int:=Am.Rd.int .u64 (t:=65) Tryz.underlying65 (by kernel_rfl)
noncomputable def jdW:Am.Rd Tryz.prog 5 Int:=Am.Rd.int .u8 (t:=5) Tryz.underlying5 (by kernel_rfl)
noncomputable def jgK:Am.Rd Tryz.prog 43 (List Int):=Am.Rd.slice 300 jdW (t:=43) Tryz.underlying43 (by kernel_rfl) (by decide)
noncomputable def jgp:Am.Rd Tryz.prog 67 (Int × (Int × (Int × (Int × ((List Int) × Unit))))):=Am.Rd.st (t:=67) Tryz.underlying67 (Am.RdF.cons jcY rfl (Am.RdF.cons jcY rfl (Am.RdF.cons jcY rfl (Am.RdF.cons jir rfl (Am.RdF.cons jgK rfl Am.RdF.nil))))) (by kernel_rfl)
noncomputable def jdX:Am.Rd Tryz.prog 22 (List (Int × (Int × (Int × (Int × ((List Int) × Unit)))))):=Am.Rd.slice 200 jgp (t:=22) Tryz.underlying22 (by kernel_rfl) (by decide)
noncomputable def jgJ:Am.Rd Tryz.prog 43 (List Int):=Am.Rd.slice 200 jdW (t:=43) Tryz.underlying43 (by kernel_rfl) (by decide)
noncomputable def jgI:Am.Rd Tryz.prog 43 (List Int):=Am.Rd.slice 200 jdW (t:=43) Tryz.underlying43 (by kernel_rfl) (by decide)
noncomputable def jgq:Am.Rd Tryz.prog 45 (Int × ((List Int) × ((List Int) × Unit))):=Am.Rd.st (t:=45) Tryz.underlying45 (Am.RdF.cons jcY rfl (Am.RdF.cons jgJ rfl (Am.RdF.cons jgI rfl Am.RdF.nil))) (by kernel_rfl)
theorem jjg (os:Os) (args:Array Value):laidMetH Tryz.prog Rows.selTellsRow.laid ((World.doorLaid Tryz.prog 400 os).forCall (fun _ _=>0) ⟨#[],args,[]⟩).memory :=
 laidMetH_of_parts3 (fuel:=8) (laidMet_of_run' 8 (by kernel_rfl) (by kernel_rfl)) (by kernel_rfl) (by kernel_rfl)
theorem jkr:Tryz.prog.globalNamed "math/bits.deBruijn32tab" = some 2:=by kernel_rfl
theorem jkm:(Tryz.prog.globals[2]?).map (·.type)=some 220:=by kernel_rfl
theorem jku:(Am.Fl.arr (t:=220) 32 1 (Am.Fl.int .u8 (t:=5) Tryz.underlying5) Tryz.underlying220 (by kernel_rfl) (by kernel_rfl)).f Rows.laid_math_bits_deBruijn32tab=some Am.Sigs.jbg:=by kernel_rfl
theorem jkq:Tryz.prog.globalNamed "math/bits.deBruijn64tab" = some 3:=by kernel_rfl
theorem jkl:(Tryz.prog.globals[3]?).map (·.type)=some 221:=by kernel_rfl
theorem jkt:(Am.Fl.arr (t:=221) 64 1 (Am.Fl.int .u8 (t:=5) Tryz.underlying5) Tryz.underlying221 (by kernel_rfl) (by kernel_rfl)).f Rows.laid_math_bits_deBruijn64tab=some Am.Sigs.jbf:=by kernel_rfl
theorem jkp:Tryz.prog.globalNamed "internal/strconv.uint64pow10" = some 0:=by kernel_rfl
theorem jkk:(Tryz.prog.globals[0]?).map (·.type)=some 214:=by kernel_rfl
theorem jks:(Am.Fl.arr (t:=214) 20 1 (Am.Fl.int .u64 (t:=65) Tryz.underlying65) Tryz.underlying214 (by kernel_rfl) (by kernel_rfl)).f Rows.laid_internal_strconv_uint64pow10=some Am.Sigs.jaE:=by kernel_rfl
set_option maxRecDepth 100000 in
theorem jgL (os:Os) (started:os.Started) (H:Type) (enc:TypeId × Value->H) :
  ReturnsInHanded {} Tryz.checked os 4 .any (fun w args=>(Rows.selTellsSpec.pre enc Tryz.prog Tryz.f4 Rows.selTellsRow.domain false w args/\laidMetH Tryz.prog Rows.selTellsRow.laid w)/\sizedMet enc Tryz.prog Tryz.f4 (OpenSpec.ofChange Rows.selTellsSpec) false w args)
   (Rows.selTellsSpec.post enc Tryz.prog Tryz.f4 false true false false):=by
 refine returnsInHanded_of_change_and (C:=Tryz.checked) (X:=fun w _=>laidMetH Tryz.prog Rows.selTellsRow.laid w) (fun _ _ _ hh h=>h.of_heap hh) jjf started (by kernel_rfl) Tryz.func4
  (ChangeSpec.witness_shaped (enc:=enc) (C:=Tryz.checked) (os:=os) (X:=fun w _=>laidMetH Tryz.prog Rows.selTellsRow.laid w) false (World.doorLaid Tryz.prog 400 os) #[.slice none 0 0,.agg #[.int .i64 0,.slice none 0 0,.slice none 0 0]] 8 rfl (World.shaped_of_RefB (by kernel_rfl) (by kernel_rfl)) (by kernel_rfl) (by kernel_rfl) (by kernel_rfl) (jjg os _)) ?_
 intro W base args ds gs before hval0 hW _ _ hL _
 have hval : ∀ (j:Nat) t v,Tryz.f4.params[j]?=some t->args[j]?=some v->Value.okWide Tryz.prog W .any base t v:=hval0
 have hW':=hW
 obtain ⟨p,q,hA0,hV,rfl,hfz,hnd⟩:=hW
 have hA:DataW.TrodAll enc Tryz.prog W 0 (fun _=>true) true Tryz.f4.params.toList args.toList ds p:=hA0
 rw [Tryz.params4] at hA hval
 obtain ⟨v0,vs0,d0,ds0,p0,q0,ha,rfl,rfl,h0,hA1⟩:=Am.jjT hA
 obtain ⟨v1,vs1,d1,ds1,p1,q1,rfl,rfl,rfl,h1,hA2⟩:=Am.jjT hA1
 obtain ⟨rfl,rfl,rfl⟩:=Am.args_nil hA2
 obtain rfl:args = #[v0,v1]:=by cases args;simp_all
 obtain ⟨rfl,rfl⟩:=trodVars_none hV
 have hlt:=hW'.lt
 have r0:=Am.ro0 (P:=Tryz.prog) (C:=Am.Sigs.cx) (W:=W) 4
 rw [MakeChecks.laidMetH_plain _ _ _ (by kernel_rfl)] at hL
 obtain ⟨ps,⟨g0,t0,cs0,f0,pp0,qq0,hg0,ht0,hv0,hd0,⟨g1,t1,cs1,f1,pp1,qq1,hg1,ht1,hv1,hd1,⟨g2,t2,cs2,f2,pp2,qq2,hg2,ht2,hv2,hd2,_,_⟩,_⟩,_⟩,_,_⟩:=hL
 obtain rfl:=Option.some.inj (jkr.symm.trans hg0)
 obtain rfl:=Option.some.inj (jkm.symm.trans ht0)
 have s0:=r0.var (g:=2) (by rfl) (by decide) (Am.Fl.arr (t:=220) 32 1 (Am.Fl.int .u8 (t:=5) Tryz.underlying5) Tryz.underlying220 (by kernel_rfl) (by kernel_rfl)) hg0 hv0 hd0 jku
 obtain rfl:=Option.some.inj (jkq.symm.trans hg1)
 obtain rfl:=Option.some.inj (jkl.symm.trans ht1)
 have s1:=s0.var (g:=3) (by rfl) (by decide) (Am.Fl.arr (t:=221) 64 1 (Am.Fl.int .u8 (t:=5) Tryz.underlying5) Tryz.underlying221 (by kernel_rfl) (by kernel_rfl)) hg1 hv1 hd1 jkt
 obtain rfl:=Option.some.inj (jkp.symm.trans hg2)
 obtain rfl:=Option.some.inj (jkk.symm.trans ht2)
 have s2:=s1.var (g:=0) (by rfl) (by decide) (Am.Fl.arr (t:=214) 20 1 (Am.Fl.int .u64 (t:=65) Tryz.underlying65) Tryz.underlying214 (by kernel_rfl) (by kernel_rfl)) hg2 hv2 hd2 jks
 have r0':=s2
 obtain ⟨x0,u0,m1,e1,r1,w0,n0,k0,y0⟩:=jdX.arg rfl r0' (Am.jkL Tryz.underlying22 (hval 0 22 v0 rfl rfl)) h0
 obtain ⟨x1,u1,m2,e2,r2,w1,n1,k1,y1⟩:=jgq.args r1 Tryz.underlying45 (hval 1 45 v1 rfl rfl) h1
 have hnx:e2.nx=207:=by rw [n1,n0];rfl
 have l0:e2.get 2=some (.cells Am.Sigs.jbg true):=by rw [(w0.trans w1).get 2 (by decide)];rfl
 have l1:e2.get 3=some (.cells Am.Sigs.jbf true):=by rw [(w0.trans w1).get 3 (by decide)];rfl
 have l2:e2.get 0=some (.cells Am.Sigs.jaE true):=by rw [(w0.trans w1).get 0 (by decide)];rfl
 obtain ⟨h',hr⟩:=Am.Sigs.jkv (cl:=Am.jbU Am.Sigs.prog Am.Sigs.fuel) (fun _=>rfl) hnx (fun b hb=>r2.wf b (by rw [hnx];exact hb)) l0 l1 l2 (jdX.keep w1.nx w1.get k0) k1
 have hG:Am.GOk Am.Sigs.cx m2:=by
  intro g hg
  rw [jko] at hg
  have hg2:g=0\/g=2\/g=3:=by simp [Am.nbeq] at hg;omega
  rcases hg2 with rfl | rfl | rfl
  ·exact ⟨_,(w0.trans w1).mono _ _ (by rfl),rfl,rfl⟩
  ·exact ⟨_,(w0.trans w1).mono _ _ (by rfl),rfl,rfl⟩
  ·exact ⟨_,(w0.trans w1).mono _ _ (by rfl),rfl,rfl⟩
 refine (Am.call_fn (n:=30) (xs := #[v0,v1]) (a:=Am.Sigs.c4) jkn (by rfl) (by rfl) hr r2.rel hG ⟨_,_,rfl,(y0.mono w1.mono),⟨_,_,rfl,y1,rfl⟩⟩).calls fun m' w' x hs hx=>?_
 obtain rfl:x = .bool true:=hx
 exact ⟨_,rfl,Am.post1 hs r2.noOwned hW' (fun _ _ _=>trodAll_mk1 (shut_bool (t:=4) (by kernel_rfl) true))
  (Am.jnl (Below.trod jfi (by kernel_rfl) (of_decide_eq_true (by kernel_rfl)) h0 (Am.jiP hs r2.noOwned) (fun x hx=>hlt x (by simp [hx]))) (Am.jnl (Below.trod jfi (by kernel_rfl) (of_decide_eq_true (by kernel_rfl)) h1 (Am.jiP hs r2.noOwned) (fun x hx=>hlt x (by simp [hx]))) trodAll_mk0)) rfl⟩
theorem jje:Rows.SelTellsSaid :=
 OpenClaim.holds_of_wide 4 Tryz.f4 rfl rfl rfl rfl rfl rfl rfl ⟨rfl,rfl,rfl,rfl,rfl⟩ rfl rfl rfl rfl rfl (by kernel_rfl) Tryz.func4 (by kernel_rfl)
  (of_decide_eq_true (by kernel_rfl)) (by unfold Func.isWrapper;first | (rw [if_pos (by decide +kernel)];kernel_rfl) | (rw [if_neg (by decide +kernel)];exact ⟨rfl,rfl⟩))
  (fun os started H enc _=>jgL os started H enc)
theorem selTells_holds:Rows.SelTellsCardSaid :=
 Claim7.holds_tied_plain_at .later [] [.data,.data,.data] true (true,"b26854de0f91787dceb878ae1061e103dc6b326a6d0d3f7a0f7bcc5221b2d16d") false
  jje (fun _ h=>by cases h) (by kernel_rfl) (fun _ h=>by cases h) selTells_row_tie rfl ⟨rfl,rfl⟩ (by kernel_rfl) rfl
  (fun f fn hf hfn=>by
   obtain rfl:f=4:=Option.some.inj ((show Tryz.prog.funcNamed "roundhouse/roundhouselaw13.SelTells" = some 4 by kernel_rfl).symm.trans hf) |>.symm
   obtain rfl:fn=Tryz.f4:=(Option.some.inj (Tryz.func4.symm.trans hfn)).symm
   exact ⟨by kernel_rfl,fun j t ht=>by
    rw [Tryz.params4] at ht
    match j,ht with
    | 0,ht=>cases ht;exact (show Tryz.prog.wantsStandIn 22=false by kernel_rfl)
    | 1,ht=>cases ht;exact (show Tryz.prog.wantsStandIn 45=false by kernel_rfl)
    | k+2,ht=>simp at ht⟩)
  (by kernel_rfl)
end Go.Proofs.YtkcenemffnfoeaaGreatDoor
