/- Our own library, part 18. -/
import Derived.Test.YtfajaihbhmbpnaaGreatDoorChecked
import Derived.WalkKit
import Derived.BigCall
import Derived.Deep.MidRow
import Derived.Deep.WholeRow
import Derived.Test.YtfajaihbhmbpnaaGreatDoorZ17
import Derived.Test.YtfajaihbhmbpnaaGreatDoorZ14
set_option maxHeartbeats 8000000
set_option maxRecDepth 800
set_option linter.all false
namespace Go.Proofs
open Go.Shelf Go.RowKit
set_option linter.unusedVariables false
theorem jcn {P:Program} {ops:Array Oper} {rest:List Oper} {op:Oper} {a:Act} {w:World} {Q:Exit->Act->World->Prop} (hgd:op.guard=none) (ty:TypeId) (x y:Operand) (ho:op.op = .store ty x y) (c c':Array Value)
  (hx:a.eval x = .pointer (some ⟨w.heap.size,0,none⟩)) (hy:a.eval y = .agg c') (hi:(P.info? ty).map (·.size)=some c'.size) (hs:c.size=c'.size) (h1:c'.all (·.oneCell')=true)
  (h:wpList P ops Q rest (a.put op.dst undef) (w.alloc (.cells c' ty))):wpList P ops Q (op :: rest) a (w.alloc (.cells c ty)) :=
 wpList_plain hgd fun _ hK=>by
  unfold Oper.wp execOp
  simp only [ho,hx,hy,Instr.storeAt,Instr.sureAddr,zF,zH,zG,run_storeVar_new w ty c c' hi hs h1]
  exact hK _ _ h
section
variable {m:Am.Mp} {h:Am.H} {w:World}
theorem jcZ {a:Option (Nat × Nat)} {i:Nat} {t:List UInt8} (e:Am.jc8 Am.Sigs.jaJ 100000 28 32 h a i=some t) : ∃ b o l s h1,a=some (b,o)/\h.load b (o+i*4) 4=some l/\Am.jax Am.Sigs.jaJ 100000 28 (.fn 32) [.agg l] h=some (.str s,h1)/\Am.jbs h h1 h.nx=true/\t=s++[10]/\l.all Am.V.one=true:=by
 unfold Am.jc8 at e
 split at e
 ·cases e
 ·next b o=>
  split at e
  ·cases e
  ·next l hl=>
   cases ho:l.all Am.V.one with
   | false=>rw [ho] at e;cases e
   | true=>
   rw [ho] at e
   simp only [cond_true] at e
   split at e
   ·next s h1 hc=>
    cases hk:Am.jbs h h1 h.nx with
    | false=>rw [hk] at e;cases e
    | true=>
     rw [hk] at e
     cases e
     exact ⟨b,o,l,s,h1,rfl,hl,hc,hk,rfl,ho⟩
   ·cases e
theorem jcX {a:Option (Nat × Nat)} : ∀ {n:Nat} {s:List UInt8},Am.jaX Am.Sigs.jaJ 100000 28 32 h a n=some s -> ∀ k,k<=n -> ∃ s',Am.jaX Am.Sigs.jaJ 100000 28 32 h a k=some s'/\s'.length<=s.length
 | 0,s,e,k,hk=>by
  obtain rfl:k=0:=by omega
  exact ⟨s,e,zn _⟩
 | n+1,s,e,k,hk=>by
  by_cases hn:k=n+1
  ·subst hn;exact ⟨s,e,zn _⟩
  ·unfold Am.jaX at e
   split at e
   ·cases e
   ·next s1 h1=>
    split at e
    ·cases e
    ·cases e
     obtain ⟨s',e',hl⟩:=jcX h1 k (by omega)
     exact ⟨s',e',by simp;omega⟩
theorem jcY {a:Option (Nat × Nat)} {n:Nat} {s:List UInt8} (e:Am.jaX Am.Sigs.jaJ 100000 28 32 h a (n+1)=some s) : ∃ s' t,Am.jaX Am.Sigs.jaJ 100000 28 32 h a n=some s'/\Am.jc8 Am.Sigs.jaJ 100000 28 32 h a n=some t/\s=s'++t:=by
 unfold Am.jaX at e
 split at e
 ·cases e
 ·next s1 h1=>
  split at e
  ·cases e
  ·next t h2=>cases e;exact ⟨s1,t,h1,h2,rfl⟩
set_option maxRecDepth 100000 in
theorem jfl (hP:Am.ProgOk Tryz.prog Am.Sigs.cx Am.Sigs.jaJ) (hR:Am.HRel Tryz.prog Am.Sigs.cx m h w) (hG:Am.GOk Am.Sigs.cx m) {A:Option Addr} {n c':Nat} {a:Option (Nat × Nat)} {c:Am.Cap} {h1:Am.H} {s:List UInt8} (hx:Am.VRel m (.slice a n c) (.slice A n c')) (hnc:n<=c')
  (hall:Am.jax Am.Sigs.jaJ 100000 28 (.fn 30) [.slice a n c] h.filt=some (.bool true,h1)) (hk:Am.jbs h.filt h1 h.nx=true) (hs:Am.jaX Am.Sigs.jaJ 100000 28 32 h.filt a n=some s) (hl:s.length<=140737488355328) (hn:n<9223372036854775807) :
  Calls Tryz.prog 9 #[.slice A n c'] w fun e w'=>e = .returned (.tuple #[.string ⟨s.toArray⟩,.int .i64 0])/\Am.Step Tryz.prog Am.Sigs.cx h.nx m h w m h w':=by
 have L:=Tryz.laysJoin
 have X:=Tryz.joinX
 have mixed:=L.mixed
 have t22:=Tryz.underlying22;have a22:=Tryz.isAgg22;have z22:=Tryz.sizeOf22;have v22:=Tryz.zeroValue22
 have t83:=Tryz.underlying65;have a83:=Tryz.isAgg65;have z83:=Tryz.sizeOf65;have v83:=Tryz.zeroValue65
 have t40:=Tryz.underlying30;have a40:=Tryz.isAgg30;have z40:=Tryz.sizeOf30;have v40:=Tryz.zeroValue30
 have t3:=Tryz.underlying3;have a3:=Tryz.isAgg3;have z3:=Tryz.sizeOf3;have v3:=Tryz.zeroValue3
 have t4:=Tryz.underlying4;have a4:=Tryz.isAgg4;have z4:=Tryz.sizeOf4;have v4:=Tryz.zeroValue4
 have t9:=Tryz.underlying9;have a9:=Tryz.isAgg9;have z9:=Tryz.sizeOf9;have v9:=Tryz.zeroValue9
 have hA:Calls Tryz.prog 30 #[.slice A n c'] w fun e w'=>e = .returned (.bool true)/\Am.Step Tryz.prog Am.Sigs.cx h.nx m h w m h w' :=
  Am.jcd hP (by rfl) (by rfl) hall hk hR hG ⟨_,_,rfl,hx,rfl⟩ (fun m' y hy=>hy)
 have e16 : ∀ args w,(callFunc 30 args).run Tryz.prog w = .ok (.enter 30 args) w:=enters_of Tryz.func30 (by kernel_rfl) rfl
 have e32 : ∀ args w,(callFunc 31 args).run Tryz.prog w = .ok (.enter 31 args) w:=enters_of Tryz.func31 (by kernel_rfl) rfl
 have e33 : ∀ args w,(callFunc 32 args).run Tryz.prog w = .ok (.enter 32 args) w:=enters_of Tryz.func32 (by kernel_rfl) rfl
 have e34 : ∀ args w,(callFunc 33 args).run Tryz.prog w = .ok (.enter 33 args) w:=enters_of Tryz.func33 (by kernel_rfl) rfl
 go_enter Tryz.func9,Tryz.ntmps9
 go_wp2_with (go_at_call 30;refine hA.mono ?_;rintro e w1 ⟨rfl,S1⟩)
 have B0:Lib.IsBuilder 65 5 w1.heap.size w1.heap.size (Lib.byteCells []) (w1.alloc (.cells #[.pointer none,.slice none 0 0] 65)):=Lib.fresh_isBuilder 65 5 w1
 have S2:Am.Step Tryz.prog Am.Sigs.cx h.nx m h w m h (w1.alloc (.cells #[.pointer none,.slice none 0 0] 65)):=S1.below hR ((Below.refl w1.heap.size w1).alloc (zn _) _) S1.size
 have HB0:=Any.hidU B0
 have HS2:=Any.hidU S2
 have HR:=Any.hidU hR
 have HS:=Any.hidU hs
 have HX:=Any.hidU hx
 have HP:=Any.hidU hP
 have HG:=Any.hidU hG
 clear B0 S2 hs hx hP hG hall hk
 go_loopw [12] (fun i wr=>∃ k s',k<=n/\i = .int .i64 (k:Int)/\Hid (Am.jaX Am.Sigs.jaJ 100000 28 32 h.filt a k=some s')/\Hid (Lib.IsBuilder 65 5 w1.heap.size w1.heap.size (Lib.byteCells s') wr)/\Hid (Am.Step Tryz.prog Am.Sigs.cx h.nx m h w m h wr)) (fun i _=>n-(intOf i).toNat)
 case atStart=>exact ⟨0,[],Nat.zero_le _,rfl,Any.hidU rfl,HB0,HS2⟩
 case round=>
  obtain ⟨k,s',hk,rfl,HN,HB,HW⟩:=hrel
  have hBw:w1.heap.size<=wr.heap.size:=HB.out.elim (fun q=>Nat.le_of_lt q.lt) (fun q=>Nat.le_of_lt q.lt)
  by_cases hlt:k<n
  ·obtain ⟨s2,hN2,hL2⟩:=jcX HS.out (k+1) (by omega)
   obtain ⟨s3,t3',hN3,hpt,rfl⟩:=jcY hN2
   have hN1:=HN.out
   rw [hN3] at hN1;cases hN1
   obtain ⟨b,o,l,sx,h2,rfl,hld,hcl,hk2,rfl,hal⟩:=jcZ hpt
   obtain ⟨lc,ad,c2,q1,q2,q3,q4,-,-⟩:=HX.out
   injection q2 with qa qb qc
   subst qa qc
   obtain rfl:=q4 (by omega)
   obtain ⟨hl4,hce⟩:=Am.jf7 HW.out.rel hld q1
   obtain ⟨u0,u1,u2,u3,rfl⟩ : ∃ u0 u1 u2 u3,l=[u0,u1,u2,u3]:=by
    match l,hl4 with
    | [u0,u1,u2,u3],_=>exact ⟨_,_,_,_,rfl⟩
   obtain ⟨x0,c0,r0⟩:=hce 0 u0 rfl
   obtain ⟨x1,c1,r1⟩:=hce 1 u1 rfl
   obtain ⟨x2,c2',r2⟩:=hce 2 u2 rfl
   obtain ⟨x3,c3,r3⟩:=hce 3 u3 rfl
   clear hce
   have hld0:=Any.hidU hld
   clear hld
   rw [show lc.d+(o+k*4+0)=lc.d+o+k*4 by omega] at c0
   rw [show lc.d+(o+k*4+1)=lc.d+o+k*4+1 by omega] at c1
   rw [show lc.d+(o+k*4+2)=lc.d+o+k*4+2 by omega] at c2'
   rw [show lc.d+(o+k*4+3)=lc.d+o+k*4+3 by omega] at c3
   have hone:(#[x0,x1,x2,x3]:Array Value).all (·.oneCell')=true:=by
    simp only [List.all_cons,List.all_nil,Bool.and_true,zm] at hal
    simp [<- r0.one,<- r1.one,<- r2.one,<- r3.one,hal.1,hal.2.1,hal.2.2.1,hal.2.2.2]
   have hi40:(Tryz.prog.info? 30).map (·.size)=some (#[x0,x1,x2,x3]:Array Value).size:=by kernel_rfl
   have d0:(wr.alloc (.cells #[x0,x1,x2,x3] 30)).cell? ⟨wr.heap.size,0,none⟩=some x0:=by rw [Lib.cell_of_heap (heap_alloc_last wr _)];rfl
   have d1:(wr.alloc (.cells #[x0,x1,x2,x3] 30)).cell? ⟨wr.heap.size,1,none⟩=some x1:=by rw [Lib.cell_of_heap (heap_alloc_last wr _)];rfl
   have d2:(wr.alloc (.cells #[x0,x1,x2,x3] 30)).cell? ⟨wr.heap.size,2,none⟩=some x2:=by rw [Lib.cell_of_heap (heap_alloc_last wr _)];rfl
   have d3:(wr.alloc (.cells #[x0,x1,x2,x3] 30)).cell? ⟨wr.heap.size,3,none⟩=some x3:=by rw [Lib.cell_of_heap (heap_alloc_last wr _)];rfl
   go_wp2_with (refine jcn rfl 30 _ _ rfl _ #[x0,x1,x2,x3] rfl rfl hi40 rfl hone ?_)
   have S3:Am.Step Tryz.prog Am.Sigs.cx h.nx m h w m h (wr.alloc (.cells #[x0,x1,x2,x3] 30)):=HW.out.below hR ((Below.refl w1.heap.size wr).alloc hBw _) S1.size
   have hOw : ∀ β,w1.heap.size <= β -> ¬ Am.jct m h β := fun β hβ e=>by
    obtain ⟨b',o',l',g1,_,g3,g4⟩:=e
    have:=hR.lt g1 g3
    have:=S1.size
    omega
   have B3:Lib.IsBuilder 65 5 w1.heap.size w1.heap.size (Lib.byteCells s') (wr.alloc (.cells #[x0,x1,x2,x3] 30)):=Am.Step.builder (Am.jcg HW.out.rel ((Below.refl wr.heap.size wr).alloc (zn _) _)) hOw HB.out
   have cL:Calls Tryz.prog 32 #[.agg #[x0,x1,x2,x3]] (wr.alloc (.cells #[x0,x1,x2,x3] 30)) fun e w'=>e = .returned (.string ⟨⟨sx⟩⟩)/\Am.Step Tryz.prog Am.Sigs.cx h.nx m h (wr.alloc (.cells #[x0,x1,x2,x3] 30)) m h w' :=
    Am.jcd HP.out (by rfl) (by rfl) hcl hk2 S3.rel HG.out ⟨_,_,rfl,⟨#[x0,x1,x2,x3],rfl,_,_,rfl,r0,_,_,rfl,r1,_,_,rfl,r2,_,_,rfl,r3,rfl⟩,rfl⟩ (fun m' y hy=>hy)
   refine cL.mono ?_
   rintro e w3 ⟨rfl,S4⟩
   have B4:=Am.Step.builder S4 hOw B3
   have HS4:=Any.hidU S4
   have HS3:=Any.hidU S3
   have HB4:=Any.hidU B4
   clear S4 S3 B4 B3 cL d0 d1 d2 d3 c0 c1 c2' c3 hone
   have hsz:s'.length+(sx.length+1)<=140737488355328:=by
    have:=hL2
    simp only [ze,List.length_cons,List.length_nil] at this
    omega
   have hcont:Lib.byteCells s'++Lib.strCells ((⟨⟨sx⟩⟩:ByteArray)++⟨#[10]⟩)=Lib.byteCells (s'++(sx++[10])):=by
    rw [Lib.strCells_eq,Lib.byteCells_append]
    congr 2
   have hBw3:w1.heap.size<=w3.heap.size:=HB4.out.elim (fun q=>Nat.le_of_lt q.lt) (fun q=>Nat.le_of_lt q.lt)
   have HC:=Any.hidU hcont
   have HN2:=Any.hidU hN2
   clear hcont hN2 hL2 hN3 hpt
   go_wp2_with fail
   all_goals
    refine (Any.Builder_WriteString (P:=Tryz.prog) (ρ := Tryz.laysJoin_ren) { L with } X w1.heap.size w1.heap.size _ _ w3 HB4.out ?_ hBw3).mono ?_
    ·rw [Lib.byteCells_length,Lib.size_eq]
     show s'.length+(sx++[10]).length<=_
     rw [ze]
     exact hsz
    rintro e w4 ⟨rfl,b4,bb⟩
    rw [HC.out] at b4
    have B5:=Any.hidU (Or.inr b4:Lib.IsBuilder 65 5 w1.heap.size w1.heap.size (Lib.byteCells (s'++(sx++[10]))) w4)
    have S5:=Any.hidU ((HS3.out.trans HS4.out).below hR bb S1.size)
    clear b4 bb
    go_wp2
    exact ⟨⟨k+1,s'++(sx++[10]),by omega,by go_num,HN2,B5,S5⟩,by simp [intOf];omega⟩
  ·obtain rfl:k=n:=by omega
   have hss:s'=s:=by
    have h1:=HN.out
    have h2:=HS.out
    rw [h2] at h1;cases h1;rfl
   subst hss
   go_wp2_with (go_at_call 33;refine (Any.Builder_String_any (P:=Tryz.prog) (ρ := Tryz.laysJoin_ren) { L with } X w1.heap.size w1.heap.size s' _ HB.out hBw).mono ?_;rintro e W2 ⟨rfl,b2⟩)
   go_ret2
   exact ⟨rfl,HW.out.below hR b2 S1.size⟩
theorem jec {a:Option (Nat × Nat)} : ∀ {n:Nat} {s:List UInt8},Am.jaX Am.Sigs.jaJ 100000 28 32 h a n=some s->n<=s.length
 | 0,_,_=>Nat.zero_le _
 | n+1,s,e=>by
  obtain ⟨s',t,e1,e2,rfl⟩:=jcY e
  obtain ⟨_,_,_,sx,_,_,_,_,_,rfl,_⟩:=jcZ e2
  have:=jec e1
  simp only [ze,List.length_cons,List.length_nil]
  omega
set_option maxRecDepth 100000 in
theorem text_no (hP:Am.ProgOk Tryz.prog Am.Sigs.cx Am.Sigs.jaJ) (hR:Am.HRel Tryz.prog Am.Sigs.cx m h w) (hG:Am.GOk Am.Sigs.cx m) {x:Value} {a:Option (Nat × Nat)} {n:Nat} {c:Am.Cap} {h1:Am.H} (hx:Am.VRel m (.slice a n c) x)
  (hall:Am.jax Am.Sigs.jaJ 100000 28 (.fn 30) [.slice a n c] h.filt=some (.bool false,h1)) (hk:Am.jbs h.filt h1 h.nx=true) :
  Calls Tryz.prog 9 #[x] w fun e w'=>e = .returned (.tuple #[.string ⟨#[]⟩,.int .i64 120])/\Am.Step Tryz.prog Am.Sigs.cx h.nx m h w m h w':=by
 have L:=Tryz.laysJoin
 have mixed:=L.mixed
 have t3:=Tryz.underlying3;have a3:=Tryz.isAgg3;have z3:=Tryz.sizeOf3;have v3:=Tryz.zeroValue3
 have t4:=Tryz.underlying4;have a4:=Tryz.isAgg4;have z4:=Tryz.sizeOf4;have v4:=Tryz.zeroValue4
 have t9:=Tryz.underlying9;have a9:=Tryz.isAgg9;have z9:=Tryz.sizeOf9;have v9:=Tryz.zeroValue9
 have hA:Calls Tryz.prog 30 #[x] w fun e w'=>e = .returned (.bool false)/\Am.Step Tryz.prog Am.Sigs.cx h.nx m h w m h w' :=
  Am.jcd hP (by rfl) (by rfl) hall hk hR hG ⟨_,_,rfl,hx,rfl⟩ (fun m' y hy=>hy)
 have e16 : ∀ args w,(callFunc 30 args).run Tryz.prog w = .ok (.enter 30 args) w:=enters_of Tryz.func30 (by kernel_rfl) rfl
 go_enter Tryz.func9,Tryz.ntmps9
 go_wp2_with (go_at_call 30;refine hA.mono ?_;rintro e w1 ⟨rfl,S1⟩)
 go_ret2
 exact ⟨rfl,S1⟩
theorem text_ok (hP:Am.ProgOk Tryz.prog Am.Sigs.cx Am.Sigs.jaJ):Am.ja5 Tryz.prog Am.Sigs.cx 9 (Am.jda Am.Sigs.jaJ 100000 28 32 30 120):=by
 refine Am.jeD (enters_of Tryz.func9 (by kernel_rfl) rfl) ?_
 intro args h v h' hr m w xs hR hG hx
 unfold Am.jda at hr
 split at hr
 ·next a n c=>
  obtain ⟨x,r,e,hx1,e2⟩:=hx
  obtain rfl:r=[]:=e2
  obtain ⟨l⟩:=xs
  obtain rfl:l=[x]:=e
  split at hr
  ·next ok h1 hall=>
   cases hk:Am.jbs h.filt h1 h.nx with
   | false=>rw [hk] at hr;cases hr
   | true=>
    rw [hk] at hr
    simp only [cond_true] at hr
    cases ok with
    | false=>
     simp only [cond_false] at hr
     cases hr
     refine ⟨rfl,(text_no hP hR hG hx1 hall hk).mono fun e w' q=>⟨_,q.1,⟨_,rfl,_,_,rfl,rfl,_,_,rfl,rfl,rfl⟩,q.2⟩⟩
    | true=>
     simp only [cond_true] at hr
     split at hr
     ·next s hs=>
      cases hl:Nat.ble s.length 140737488355328 with
      | false=>rw [hl] at hr;cases hr
      | true=>
       rw [hl] at hr
       cases hr
       rw [zz] at hl
       have hn:=jec hs
       obtain ⟨A,c',rfl,hnc⟩ : ∃ A c',x = .slice A n c'/\n<=c':=by
        cases a with
        | none=>obtain ⟨rfl,_,rfl⟩:=hx1;exact ⟨_,_,rfl,zn _⟩
        | some a=>obtain ⟨_,ad,c',_,rfl,h3,_⟩:=hx1;exact ⟨_,_,rfl,h3⟩
       refine ⟨rfl,(jfl hP hR hG hx1 hnc hall hk hs hl (by omega)).mono fun e w' q=>⟨_,q.1,⟨_,rfl,_,_,rfl,rfl,_,_,rfl,rfl,rfl⟩,q.2⟩⟩
     ·cases hr
  ·cases hr
 ·cases hr
end
theorem Am.Sigs.typesT:Am.jdf Tryz.prog Am.Sigs.cx.T=true:=by kernel_rfl
theorem Am.Sigs.fnsT:(Am.Sigs.jaJ.fns.all fun p=>Am.fnM Tryz.prog Am.Sigs.cx p.1 p.2)=true:=by kernel_rfl
set_option maxRecDepth 100000 in
theorem Am.Sigs.progT_ok:Am.ProgOk Tryz.prog Am.Sigs.cx Am.Sigs.jaJ := {
 types:=Am.TOk.of_check Am.Sigs.typesT,
 mixed:=Tryz.checked.mixed,
 fns:=fun _ _ h=>zB.1 Am.Sigs.fnsT _ (Am.jbf h),
 primF:=Am.Sigs.jeZ,
 primOk:=Am.Sigs.primsOkT }
theorem Am.Sigs.primsOk:Am.jbe Tryz.prog Am.Sigs.cx Am.Sigs.prog:=Am.jbe.cons (text_ok Am.Sigs.progT_ok) Am.Sigs.primsOkT rfl
end Go.Proofs
