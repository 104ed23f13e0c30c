/- 'PolTells': for every input the call returns true, and the input reads as it did. The listed variables read as the text lays them. -/
import Derived.Test.YtkcenemffnfoeaaGreatDoorRows
import Derived.Test.YtkcenemffnfoeaaGreatDoorCards
import Derived.Test.YtkcenemffnfoeaaGreatDoorTie
import Derived.ProofKit
import Derived.LaidMore
import Derived.SevenTiedAt
import Derived.Test.YtkcenemffnfoeaaGreatDoorK25
import Derived.Test.YtkcenemffnfoeaaGreatDoorK26
import Derived.Test.YtkcenemffnfoeaaGreatDoorK28
set_option maxHeartbeats 8000000
set_option linter.all false
namespace Go.Proofs.YtkcenemffnfoeaaGreatDoor
open Go.ChangeShapes Go.WideShapes Go.ChangeAt Go.RowKit
theorem jh9:Am.jlb Tryz.prog Am.Sigs.cx.T=true:=by kernel_rfl
theorem jjz:(Am.Sigs.prog.fns.all fun p=>Am.fnM Tryz.prog Am.Sigs.cx p.1 p.2)=true:=by kernel_rfl
set_option maxRecDepth 100000 in
theorem jk1:Am.ProgOk Tryz.prog Am.Sigs.cx Am.Sigs.prog := {
 types:=Am.TOk.of_check jh9,
 mixed:=Tryz.checked.mixed,
 fns:=fun f a h=>List.all_eq_true.1 jjz _ (Am.jef h),
 primF:=Am.Sigs.primsF,
 primOk:=Am.Sigs.primsOk }
theorem jjx:ownKnob Tryz.prog.godebug=none:=by kernel_rfl
theorem jfj:laidOutB Tryz.prog=true:=by kernel_rfl
theorem jk2:Am.Sigs.cx.gl=[0,2,3]:=rfl
noncomputable def jc0:Am.Rd Tryz.prog 3 Int:=Am.Rd.int .i64 (t:=3) Tryz.underlying3 (by kernel_rfl)
noncomputable def ji0:Am.Rd Tryz.prog 65 Int:=Am.Rd.int .u64 (t:=65) Tryz.underlying65 (by kernel_rfl)
noncomputable def jjw:Am.Rd Tryz.prog 5 Int:=Am.Rd.int .u8 (t:=5) Tryz.underlying5 (by kernel_rfl)
noncomputable def jgU:Am.Rd Tryz.prog 43 (List Int):=Am.Rd.slice 300 jjw (t:=43) Tryz.underlying43 (by kernel_rfl) (by decide)
noncomputable def jgp:Am.Rd Tryz.prog 67 (Int × (Int × (Int × (Int × ((List Int) × Unit))))):=Am.Rd.st (t:=67) Tryz.underlying67 (Am.RdF.cons jc0 rfl (Am.RdF.cons jc0 rfl (Am.RdF.cons jc0 rfl (Am.RdF.cons ji0 rfl (Am.RdF.cons jgU rfl Am.RdF.nil))))) (by kernel_rfl)
noncomputable def jdU:Am.Rd Tryz.prog 22 (List (Int × (Int × (Int × (Int × ((List Int) × Unit)))))):=Am.Rd.slice 200 jgp (t:=22) Tryz.underlying22 (by kernel_rfl) (by decide)
noncomputable def jgq:Am.Rd Tryz.prog 30 (Int × (Int × Unit)):=Am.Rd.st (t:=30) Tryz.underlying30 (Am.RdF.cons jc0 rfl (Am.RdF.cons jc0 rfl Am.RdF.nil)) (by kernel_rfl)
noncomputable def jgV:Am.Rd Tryz.prog 23 (List (Int × (Int × Unit))):=Am.Rd.slice 120 jgq (t:=23) Tryz.underlying23 (by kernel_rfl) (by decide)
theorem jjy (os:Os) (args:Array Value):laidMetH Tryz.prog Rows.polTellsRow.laid ((World.doorLaid Tryz.prog 400 os).forCall (fun _ _=>0) ⟨#[],args,[]⟩).memory :=
 laidMetH_of_parts3 (fuel:=8) (laidMet_of_run' 8 (by kernel_rfl) (by kernel_rfl)) (by kernel_rfl) (by kernel_rfl)
theorem jk5:Tryz.prog.globalNamed "math/bits.deBruijn32tab" = some 2:=by kernel_rfl
theorem jk0:(Tryz.prog.globals[2]?).map (·.type)=some 220:=by kernel_rfl
theorem jk8:(Am.Fl.arr (t:=220) 32 1 (Am.Fl.int .u8 (t:=5) Tryz.underlying5) Tryz.underlying220 (by kernel_rfl) (by kernel_rfl)).f Rows.laid_math_bits_deBruijn32tab=some Am.Sigs.jbh:=by kernel_rfl
theorem jk4:Tryz.prog.globalNamed "math/bits.deBruijn64tab" = some 3:=by kernel_rfl
theorem jkz:(Tryz.prog.globals[3]?).map (·.type)=some 221:=by kernel_rfl
theorem jk7:(Am.Fl.arr (t:=221) 64 1 (Am.Fl.int .u8 (t:=5) Tryz.underlying5) Tryz.underlying221 (by kernel_rfl) (by kernel_rfl)).f Rows.laid_math_bits_deBruijn64tab=some Am.Sigs.jbg:=by kernel_rfl
theorem jk3:Tryz.prog.globalNamed "internal/strconv.uint64pow10" = some 0:=by kernel_rfl
theorem jky:(Tryz.prog.globals[0]?).map (·.type)=some 214:=by kernel_rfl
theorem jk6:(Am.Fl.arr (t:=214) 20 1 (Am.Fl.int .u64 (t:=65) Tryz.underlying65) Tryz.underlying214 (by kernel_rfl) (by kernel_rfl)).f Rows.laid_internal_strconv_uint64pow10=some Am.Sigs.jaC:=by kernel_rfl
set_option maxRecDepth 100000 in
theorem jgW (os:Os) (started:os.Started) (H:Type) (enc:TypeId × Value->H) :
  ReturnsInHanded {} Tryz.checked os 3 .any (fun w args=>(Rows.polTellsSpec.pre enc Tryz.prog Tryz.f3 Rows.polTellsRow.domain false w args/\laidMetH Tryz.prog Rows.polTellsRow.laid w)/\sizedMet enc Tryz.prog Tryz.f3 (OpenSpec.ofChange Rows.polTellsSpec) false w args)
   (Rows.polTellsSpec.post enc Tryz.prog Tryz.f3 false true false false):=by
 refine returnsInHanded_of_change_and (C:=Tryz.checked) (X:=fun w _=>laidMetH Tryz.prog Rows.polTellsRow.laid w) (fun _ _ _ hh h=>h.of_heap hh) jjx started (by kernel_rfl) Tryz.func3
  (ChangeSpec.witness_shaped (enc:=enc) (C:=Tryz.checked) (os:=os) (X:=fun w _=>laidMetH Tryz.prog Rows.polTellsRow.laid w) false (World.doorLaid Tryz.prog 400 os) #[.slice none 0 0,.slice none 0 0] 8 rfl (World.shaped_of_RefB (by kernel_rfl) (by kernel_rfl)) (by kernel_rfl) (by kernel_rfl) (by kernel_rfl) (jjy os _)) ?_
 intro W base args ds gs before hval0 hW _ _ hL _
 have hval : ∀ (j:Nat) t v,Tryz.f3.params[j]?=some t->args[j]?=some v->Value.okWide Tryz.prog W .any base t v:=hval0
 have hW':=hW
 obtain ⟨p,q,hA0,hV,rfl,hfz,hnd⟩:=hW
 have hA:DataW.TrodAll enc Tryz.prog W 0 (fun _=>true) true Tryz.f3.params.toList args.toList ds p:=hA0
 rw [Tryz.params3] at hA hval
 obtain ⟨v0,vs0,d0,ds0,p0,q0,ha,rfl,rfl,h0,hA1⟩:=Am.jjW hA
 obtain ⟨v1,vs1,d1,ds1,p1,q1,rfl,rfl,rfl,h1,hA2⟩:=Am.jjW hA1
 obtain ⟨rfl,rfl,rfl⟩:=Am.args_nil hA2
 obtain rfl:args = #[v0,v1]:=by cases args;simp_all
 obtain ⟨rfl,rfl⟩:=trodVars_none hV
 have hlt:=hW'.lt
 have r0:=Am.ro0 (P:=Tryz.prog) (C:=Am.Sigs.cx) (W:=W) 4
 rw [MakeChecks.laidMetH_plain _ _ _ (by kernel_rfl)] at hL
 obtain ⟨ps,⟨g0,t0,cs0,f0,pp0,qq0,hg0,ht0,hv0,hd0,⟨g1,t1,cs1,f1,pp1,qq1,hg1,ht1,hv1,hd1,⟨g2,t2,cs2,f2,pp2,qq2,hg2,ht2,hv2,hd2,_,_⟩,_⟩,_⟩,_,_⟩:=hL
 obtain rfl:=Option.some.inj (jk5.symm.trans hg0)
 obtain rfl:=Option.some.inj (jk0.symm.trans ht0)
 have s0:=r0.var (g:=2) (by rfl) (by decide) (Am.Fl.arr (t:=220) 32 1 (Am.Fl.int .u8 (t:=5) Tryz.underlying5) Tryz.underlying220 (by kernel_rfl) (by kernel_rfl)) hg0 hv0 hd0 jk8
 obtain rfl:=Option.some.inj (jk4.symm.trans hg1)
 obtain rfl:=Option.some.inj (jkz.symm.trans ht1)
 have s1:=s0.var (g:=3) (by rfl) (by decide) (Am.Fl.arr (t:=221) 64 1 (Am.Fl.int .u8 (t:=5) Tryz.underlying5) Tryz.underlying221 (by kernel_rfl) (by kernel_rfl)) hg1 hv1 hd1 jk7
 obtain rfl:=Option.some.inj (jk3.symm.trans hg2)
 obtain rfl:=Option.some.inj (jky.symm.trans ht2)
 have s2:=s1.var (g:=0) (by rfl) (by decide) (Am.Fl.arr (t:=214) 20 1 (Am.Fl.int .u64 (t:=65) Tryz.underlying65) Tryz.underlying214 (by kernel_rfl) (by kernel_rfl)) hg2 hv2 hd2 jk6
 have r0':=s2
 obtain ⟨x0,u0,m1,e1,r1,w0,n0,k0,y0⟩:=jdU.arg rfl r0' (Am.jhp Tryz.underlying22 (hval 0 22 v0 rfl rfl)) h0
 obtain ⟨x1,u1,m2,e2,r2,w1,n1,k1,y1⟩:=jgV.arg rfl r1 (Am.jhp Tryz.underlying23 (hval 1 23 v1 rfl rfl)) h1
 have hnx:e2.nx=206:=by rw [n1,n0];rfl
 have l0:e2.get 2=some (.cells Am.Sigs.jbh true):=by rw [(w0.trans w1).get 2 (by decide)];rfl
 have l1:e2.get 3=some (.cells Am.Sigs.jbg true):=by rw [(w0.trans w1).get 3 (by decide)];rfl
 have l2:e2.get 0=some (.cells Am.Sigs.jaC true):=by rw [(w0.trans w1).get 0 (by decide)];rfl
 obtain ⟨h',hr⟩:=Am.Sigs.jk9 (cl:=Am.jbU Am.Sigs.prog Am.Sigs.fuel) (fun _=>rfl) hnx (fun b hb=>r2.wf b (by rw [hnx];exact hb)) l0 l1 l2 (jdU.keep w1.nx w1.get k0) k1
 have hG:Am.GOk Am.Sigs.cx m2:=by
  intro g hg
  rw [jk2] at hg
  have hg2:g=0\/g=2\/g=3:=by simp [Am.nbeq] at hg;omega
  rcases hg2 with rfl | rfl | rfl
  ·exact ⟨_,(w0.trans w1).mono _ _ (by rfl),rfl,rfl⟩
  ·exact ⟨_,(w0.trans w1).mono _ _ (by rfl),rfl,rfl⟩
  ·exact ⟨_,(w0.trans w1).mono _ _ (by rfl),rfl,rfl⟩
 refine (Am.call_fn (n:=30) (xs := #[v0,v1]) (a:=Am.Sigs.c3) jk1 (by rfl) (by rfl) hr r2.rel hG ⟨_,_,rfl,(y0.mono w1.mono),⟨_,_,rfl,y1,rfl⟩⟩).calls fun m' w' x hs hx=>?_
 obtain rfl:x = .bool true:=hx
 exact ⟨_,rfl,Am.post1 hs r2.noOwned hW' (fun _ _ _=>trodAll_mk1 (shut_bool (t:=4) (by kernel_rfl) true))
  (Am.jnp (Below.trod jfj (by kernel_rfl) (of_decide_eq_true (by kernel_rfl)) h0 (Am.jiM hs r2.noOwned) (fun x hx=>hlt x (by simp [hx]))) (Am.jnp (Below.trod jfj (by kernel_rfl) (of_decide_eq_true (by kernel_rfl)) h1 (Am.jiM hs r2.noOwned) (fun x hx=>hlt x (by simp [hx]))) trodAll_mk0)) rfl⟩
theorem jjv:Rows.PolTellsSaid :=
 OpenClaim.holds_of_wide 3 Tryz.f3 rfl rfl rfl rfl rfl rfl rfl ⟨rfl,rfl,rfl,rfl,rfl⟩ rfl rfl rfl rfl rfl (by kernel_rfl) Tryz.func3 (by kernel_rfl)
  (of_decide_eq_true (by kernel_rfl)) (by unfold Func.isWrapper;first | (rw [if_pos (by decide +kernel)];kernel_rfl) | (rw [if_neg (by decide +kernel)];exact ⟨rfl,rfl⟩))
  (fun os started H enc _=>jgW os started H enc)
theorem polTells_holds:Rows.PolTellsCardSaid :=
 Claim7.holds_tied_plain_at .later [] [.data,.data,.data] true (true,"b26854de0f91787dceb878ae1061e103dc6b326a6d0d3f7a0f7bcc5221b2d16d") false
  jjv (fun _ h=>by cases h) (by kernel_rfl) (fun _ h=>by cases h) polTells_row_tie rfl ⟨rfl,rfl⟩ (by kernel_rfl) rfl
  (fun f fn hf hfn=>by
   obtain rfl:f=3:=Option.some.inj ((show Tryz.prog.funcNamed "roundhouse/roundhouselaw14.PolTells" = some 3 by kernel_rfl).symm.trans hf) |>.symm
   obtain rfl:fn=Tryz.f3:=(Option.some.inj (Tryz.func3.symm.trans hfn)).symm
   exact ⟨by kernel_rfl,fun j t ht=>by
    rw [Tryz.params3] at ht
    match j,ht with
    | 0,ht=>cases ht;exact (show Tryz.prog.wantsStandIn 22=false by kernel_rfl)
    | 1,ht=>cases ht;exact (show Tryz.prog.wantsStandIn 23=false by kernel_rfl)
    | k+2,ht=>simp at ht⟩)
  (by kernel_rfl)
end Go.Proofs.YtkcenemffnfoeaaGreatDoor
