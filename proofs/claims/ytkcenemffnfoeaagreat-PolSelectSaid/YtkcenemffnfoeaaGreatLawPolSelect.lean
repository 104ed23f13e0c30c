/- 'PolSelect': for every input the call returns true, and the input reads as it did. No condition. -/
import Derived.Test.YtkcenemffnfoeaaGreatRows
import Derived.Test.YtkcenemffnfoeaaGreatK24
import Derived.Test.YtkcenemffnfoeaaGreatK22
set_option maxHeartbeats 8000000
set_option linter.all false
namespace Go.Proofs.YtkcenemffnfoeaaGreat
open Go.ChangeShapes Go.WideShapes Go.ChangeAt Go.RowKit
theorem jgN:Am.jic Tryz.prog Am.Sigs.cx.T=true:=by kernel_rfl
theorem ji1:(Am.Sigs.prog.fns.all fun p=>Am.fnM Tryz.prog Am.Sigs.cx p.1 p.2)=true:=by kernel_rfl
set_option maxRecDepth 100000 in
theorem jj3:Am.ProgOk Tryz.prog Am.Sigs.cx Am.Sigs.prog where
 types:=Am.TOk.of_check jgN
 mixed:=Tryz.checked.mixed
 fns:=fun f a h=>List.all_eq_true.1 ji1 _ (Am.jfr h)
 primF:=fun f p h=>by cases h
 primOk:=fun f p h=>by cases h
theorem ji0:ownKnob Tryz.prog.godebug=none:=by kernel_rfl
theorem jdb:laidOutB Tryz.prog=true:=by kernel_rfl
theorem jj4:Am.Sigs.cx.gl=[]:=rfl
noncomputable def jd0:Am.Rd Tryz.prog 3 Int:=Am.Rd.int .i64 (t:=3) Tryz.underlying3 (by kernel_rfl)
noncomputable def jh6:Am.Rd Tryz.prog 27 Int:=Am.Rd.int .u64 (t:=27) Tryz.underlying27 (by kernel_rfl)
noncomputable def jdz:Am.Rd Tryz.prog 5 Int:=Am.Rd.int .u8 (t:=5) Tryz.underlying5 (by kernel_rfl)
noncomputable def jgo:Am.Rd Tryz.prog 39 (List Int):=Am.Rd.slice 300 jdz (t:=39) Tryz.underlying39 (by kernel_rfl) (by decide)
noncomputable def jfA:Am.Rd Tryz.prog 41 (Int × (Int × (Int × (Int × ((List Int) × Unit))))):=Am.Rd.st (t:=41) Tryz.underlying41 (Am.RdF.cons jd0 rfl (Am.RdF.cons jd0 rfl (Am.RdF.cons jd0 rfl (Am.RdF.cons jh6 rfl (Am.RdF.cons jgo rfl Am.RdF.nil))))) (by kernel_rfl)
noncomputable def jdK:Am.Rd Tryz.prog 22 (List (Int × (Int × (Int × (Int × ((List Int) × Unit)))))):=Am.Rd.slice 200 jfA (t:=22) Tryz.underlying22 (by kernel_rfl) (by decide)
noncomputable def jdJ:Am.Rd Tryz.prog 39 (List Int):=Am.Rd.slice 60 jdz (t:=39) Tryz.underlying39 (by kernel_rfl) (by decide)
noncomputable def jgn:Am.Rd Tryz.prog 39 (List Int):=Am.Rd.slice 100 jdz (t:=39) Tryz.underlying39 (by kernel_rfl) (by decide)
set_option maxRecDepth 100000 in
theorem jgp (os:Os) (started:os.Started) (H:Type) (enc:TypeId × Value->H) :
  ReturnsInHanded {} Tryz.checked os 8 .any (Rows.polSelectSpec.pre6 enc Tryz.prog Tryz.f8 Rows.polSelectRow.domain false) (Rows.polSelectSpec.post enc Tryz.prog Tryz.f8 false true false false):=by
 refine returnsInHanded_of_change (C:=Tryz.checked) ji0 started (by kernel_rfl) Tryz.func8
  (ChangeSpec.witness6 (enc:=enc) (C:=Tryz.checked) false ⟨#[],#[.slice none 0 0,.slice none 0 0,.slice none 0 0],[]⟩ 8 (by kernel_rfl) (by kernel_rfl) (by kernel_rfl) (by kernel_rfl)) ?_
 intro W base args ds gs before hval0 hW hcnd _
 have hval : ∀ (j:Nat) t v,Tryz.f8.params[j]?=some t->args[j]?=some v->Value.okWide Tryz.prog W .any base t v:=hval0
 have hW':=hW
 obtain ⟨p,q,hA0,hV,rfl,hfz,hnd⟩:=hW
 have hA:DataW.TrodAll enc Tryz.prog W 0 (fun _=>true) true Tryz.f8.params.toList args.toList ds p:=hA0
 rw [Tryz.params8] at hA hval
 obtain ⟨v0,vs0,d0,ds0,p0,q0,ha,rfl,rfl,h0,hA1⟩:=Am.jfs hA
 obtain ⟨v1,vs1,d1,ds1,p1,q1,rfl,rfl,rfl,h1,hA2⟩:=Am.jfs hA1
 obtain ⟨v2,vs2,d2,ds2,p2,q2,rfl,rfl,rfl,h2,hA3⟩:=Am.jfs hA2
 obtain ⟨rfl,rfl,rfl⟩:=Am.jl0 hA3
 obtain rfl:args = #[v0,v1,v2]:=by cases args;simp_all
 obtain ⟨rfl,rfl⟩:=trodVars_none hV
 have hlt:=hW'.lt
 have r0:=Am.ro0 (P:=Tryz.prog) (C:=Am.Sigs.cx) (W:=W) 0
 have r0':=r0
 obtain ⟨x0,u0,m1,e1,r1,w0,n0,k0,y0⟩:=jdK.arg rfl r0' (Am.jd8 Tryz.underlying22 (hval 0 22 v0 rfl rfl)) h0
 obtain ⟨x1,u1,m2,e2,r2,w1,n1,k1,y1⟩:=jdJ.arg rfl r1 (Am.jd8 Tryz.underlying39 (hval 1 39 v1 rfl rfl)) h1
 obtain ⟨x2,u2,m3,e3,r3,w2,n2,k2,y2⟩:=jgn.arg rfl r2 (Am.jd8 Tryz.underlying39 (hval 2 39 v2 rfl rfl)) h2
 have hnx:e3.nx=203:=by rw [n2,n1,n0];rfl
 obtain ⟨h',hr⟩:=Am.Sigs.jj5 (cl:=Am.jbE Am.Sigs.prog Am.Sigs.fuel) (fun _=>rfl) hnx (fun b hb=>r3.wf b (by rw [hnx];exact hb)) (jdK.keep (w1.trans w2).nx (w1.trans w2).get k0) (jdJ.keep w2.nx w2.get k1) k2
 refine (Am.jnl (n:=30) (xs := #[v0,v1,v2]) (a:=Am.Sigs.c8) jj3 (by rfl) (by rfl) hr r3.rel (fun g hg=>by rw [jj4] at hg;cases hg) ⟨_,_,rfl,(y0.mono (w1.trans w2).mono),⟨_,_,rfl,(y1.mono w2.mono),⟨_,_,rfl,y2,rfl⟩⟩⟩).calls fun m' w' x hs hx=>?_
 obtain rfl:x = .bool true:=hx
 exact ⟨_,rfl,Am.jog hs r3.noOwned hW' (fun _ _ _=>trodAll_mk1 (shut_bool (t:=4) (by kernel_rfl) true))
  (Am.jiS (Below.trod jdb (by kernel_rfl) (of_decide_eq_true (by kernel_rfl)) h0 (Am.jfq hs r3.noOwned) (fun x hx=>hlt x (by simp [hx]))) (Am.jiS (Below.trod jdb (by kernel_rfl) (of_decide_eq_true (by kernel_rfl)) h1 (Am.jfq hs r3.noOwned) (fun x hx=>hlt x (by simp [hx]))) (Am.jiS (Below.trod jdb (by kernel_rfl) (of_decide_eq_true (by kernel_rfl)) h2 (Am.jfq hs r3.noOwned) (fun x hx=>hlt x (by simp [hx]))) trodAll_mk0))) rfl⟩
theorem polSelect_holds:Rows.PolSelectSaid :=
 OpenClaim.holds_of_wide 8 Tryz.f8 rfl rfl rfl rfl rfl rfl rfl ⟨rfl,rfl,rfl,rfl,rfl⟩ rfl rfl rfl rfl rfl (by kernel_rfl) Tryz.func8 (by kernel_rfl)
  (of_decide_eq_true (by kernel_rfl)) (by unfold Func.isWrapper;first | (rw [if_pos (by decide +kernel)];kernel_rfl) | (rw [if_neg (by decide +kernel)];exact ⟨rfl,rfl⟩))
  (fun os started H enc _=>jgp os started H enc)
end Go.Proofs.YtkcenemffnfoeaaGreat
