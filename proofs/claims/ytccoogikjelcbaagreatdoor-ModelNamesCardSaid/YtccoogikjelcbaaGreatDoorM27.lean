/- Our own library, part 27. -/
import Derived.Test.YtccoogikjelcbaaGreatDoorChecked
import Derived.WalkKit
import Derived.BigCall
import Derived.Deep.MidRow
import Derived.Deep.WholeRow
import Derived.Test.YtccoogikjelcbaaGreatDoorM14
import Derived.Test.YtccoogikjelcbaaGreatDoorM25
import Derived.Test.YtccoogikjelcbaaGreatDoorM26
set_option maxHeartbeats 8000000
set_option maxRecDepth 800
set_option linter.all false
namespace Go.Proofs
open Go.Shelf Go.RowKit
set_option linter.unusedVariables false
open Go.ChangeMaps (setBlock)
section
theorem jlf {n:Int} (h0:0<=n) (h1:n<=127):(bits BinOp.andNot IntKind.i64 n 64 != 0) = !(decide (n=0)||decide (n=64)):=by
 have : ∀ k:Fin 128,(bits BinOp.andNot IntKind.i64 (k.val:Int) 64 != 0) = !(decide ((k.val:Int)=0)||decide ((k.val:Int)=64)):=by decide +kernel
 have h:=this ⟨n.toNat,by omega⟩
 rw [show ((⟨n.toNat,by omega⟩:Fin 128).val:Int)=n by simp;omega] at h
 exact h
end
section
variable {m:Am.Mp} {h:Am.H} {w:World}
set_option maxRecDepth 100000 in
theorem added_no (hP:Am.ProgOk Tryz.prog Am.Sigs.cx Am.Sigs.jaG) (hR:Am.HRel Tryz.prog Am.Sigs.cx m h w) (hG:Am.GOk Am.Sigs.cx m) {x:Value} {p:Am.V} {h1:Am.H} (hx:Am.VRel m p x)
  (hn:Am.ja9 Am.Sigs.jaG 100000 28 (.fn 105) [p] h.frzP=some (.bool true,h1)) (hk:Am.hasM h1 h.t.maps=true) :
  Calls Tryz.prog 121 #[x] w fun e w'=>e = .returned (.int .i64 0)/\Am.Step Tryz.prog Am.Sigs.cx h.nx m h w m h w':=by
 have mixed:=Tryz.checked.mixed
 have t3:=Tryz.underlying3;have a3:=Tryz.isAgg3;have z3:=Tryz.sizeOf3;have v3:=Tryz.zeroValue3
 have t4:=Tryz.underlying4;have a4:=Tryz.isAgg4;have z4:=Tryz.sizeOf4;have v4:=Tryz.zeroValue4
 have hA:Calls Tryz.prog 105 #[x] w fun e w'=>e = .returned (.bool true)/\Am.Step Tryz.prog Am.Sigs.cx h.nx m h w m h w' :=
  Am.jei hP (by rfl) (by rfl) hn hk hR hG ⟨_,_,rfl,hx,rfl⟩ (fun m' y hy=>hy)
 have e28 : ∀ args w,(callFunc 105 args).run Tryz.prog w = .ok (.enter 105 args) w:=enters_of Tryz.func105 (by kernel_rfl) rfl
 go_enter Tryz.func121,Tryz.ntmps121
 go_wp2_with (go_at_call 105;refine hA.mono ?_;rintro e w1 ⟨rfl,S1⟩)
 go_ret
 exact ⟨rfl,S1⟩
set_option maxRecDepth 100000 in
theorem added_yes (hP:Am.ProgOk Tryz.prog Am.Sigs.cx Am.Sigs.jaG) (hR:Am.HRel Tryz.prog Am.Sigs.cx m h w) (hG:Am.GOk Am.Sigs.cx m) {l lm:Am.Loc} {b o mb ck c:Nat} {es:List (Am.V × Am.V × Nat)} {h1:Am.H} (hb:m b=some l) (hmb:m mb=some lm)
  (hn:Am.ja9 Am.Sigs.jaG 100000 28 (.fn 105) [.ptr (some (b,o))] h.frzP=some (.bool false,h1)) (hk:Am.hasM h1 h.t.maps=true)
  (hl:h.load b (o+2) 1=some [.map (some mb)]) (hmp:h.get mb=some (.map es ck)) (hc:Am.cntK Am.Sigs.jaG 100000 28 107 h (.ptr (some (b,o))) es=some c) (hg:Am.jdi ck es=true) (hle:es.length<=1000000) :
  Calls Tryz.prog 121 #[.pointer (some ⟨l.β,l.d+o,none⟩)] w fun e w'=>e = .returned (.int .i64 (c:Int))/\Am.Step Tryz.prog Am.Sigs.cx h.nx m h w m h w':=by
 have mixed:=Tryz.checked.mixed
 have t3:=Tryz.underlying3;have a3:=Tryz.isAgg3;have z3:=Tryz.sizeOf3;have v3:=Tryz.zeroValue3
 have t4:=Tryz.underlying4;have a4:=Tryz.isAgg4;have z4:=Tryz.sizeOf4;have v4:=Tryz.zeroValue4
 have hA:Calls Tryz.prog 105 #[.pointer (some ⟨l.β,l.d+o,none⟩)] w fun e w'=>e = .returned (.bool false)/\Am.Step Tryz.prog Am.Sigs.cx h.nx m h w m h w' :=
  Am.jei hP (by rfl) (by rfl) hn hk hR hG ⟨_,_,rfl,⟨l,hb,rfl⟩,rfl⟩ (fun m' y hy=>hy)
 have e28 : ∀ args w,(callFunc 105 args).run Tryz.prog w = .ok (.enter 105 args) w:=enters_of Tryz.func105 (by kernel_rfl) rfl
 go_enter Tryz.func121,Tryz.ntmps121
 have hcell : ∀ w1,Am.Step Tryz.prog Am.Sigs.cx h.nx m h w m h w1->w1.cell? ⟨l.β,l.d+o+2,none⟩=some (.map (some lm.β)) /\ ∃ ces,w1.heap[lm.β]?=some (.map ces ck)/\Am.jad m es ces.toList:=by
  intro w1 S1
  obtain ⟨_,hce⟩:=Am.jdw S1.rel hl hb
  obtain ⟨xx,c1,l9,q1,q2⟩:=hce 0 _ rfl
  rw [hmb] at q1;cases q1
  subst q2
  refine ⟨by rw [show l.d+o+2=l.d+(o+2+0) by omega];exact c1,?_⟩
  obtain ⟨l',co,r1,r2,ces,rfl,r4⟩:=S1.rel.obj _ _ hmp
  rw [hmb] at r1;cases r1
  exact ⟨ces,r2,r4⟩
 have tr : ∀ (w1:World) (S1:Am.Step Tryz.prog Am.Sigs.cx h.nx m h w m h w1),True:=fun _ _=>trivial
 go_wp2_with (first | (go_at_call 105;refine hA.mono ?_;rintro e w1 ⟨rfl,S1⟩;obtain ⟨hcl,ces,hblk,hent⟩:=hcell w1 S1) | (at_range;refine jbZ rfl _ _ _ _ rfl Tryz.underlying153 _ _ _ rfl hblk ?_) | go_in)
 go_frame
 obtain ⟨hc0,hadd⟩:=Am.jhU hc
 have hwf : ∀ β,w1.heap.size <= β -> ¬ Am.jc8 m h β := fun β hβ e=>by
  obtain ⟨b',o',l',g1,_,g3,g4⟩:=e
  have:=hR.lt g1 g3
  have:=S1.size
  omega
 have HR:=Any.hidU hR
 have HP:=Any.hidU hP
 have HG:=Any.hidU hG
 have HI:=Any.hidU (heap_alloc_last w1 (.mapIter (some lm.β) ck #[] ck))
 have hlm:lm.β < w1.heap.size:=by
  rcases zr lm.β w1.heap.size with q | q
  ·exact q
  ·rw [zD q] at hblk;cases hblk
 have HM:=Any.hidU ((Below.heap_alloc w1 (.mapIter (some lm.β) ck #[] ck) lm.β hlm).trans hblk)
 have HE:=Any.hidU hent
 have HS:=Any.hidU (S1.below hR ((Below.refl w1.heap.size w1).alloc (zn _) (.mapIter (some lm.β) ck #[] ck)) S1.size)
 have HA:=Any.hidU hadd
 have HB:=Any.hidU (Am.jcQ hent hg)
 clear hP hG hblk hent hadd hc hk hn hA tr hcell e28 hcl
 have HPD:=Any.hidU (show ∀ w2 j,Am.Step Tryz.prog Am.Sigs.cx h.nx m h w m h w2->(∃ e∈es,e.1 = .int .i64 j) -> ∃ k:Int,0<=k/\k<=127/\Am.je1 Am.Sigs.jaG 100000 28 107 h (.ptr (some (b,o))) (.int .i64 j)=some (!(decide (k=0)||decide (k=64))) /\
   Calls Tryz.prog 107 #[.pointer (some ⟨l.β,l.d+o,none⟩),.int .i64 j] w2 fun e w'=>e = .returned (.int .i64 k)/\Am.Step Tryz.prog Am.Sigs.cx h.nx m h w2 m h w' from fun w2 j S2 ⟨e,he,hj⟩=>by
  obtain ⟨bb,hbb⟩:=HA.out e he
  rw [hj] at hbb
  obtain ⟨k,h2,hcall,hk,k0,k1,rfl⟩:=Am.jlg hbb
  exact ⟨k,k0,k1,hbb,Am.jei HP.out (by rfl) (by rfl) hcall hk S2.rel HG.out ⟨_,_,rfl,⟨l,hb,rfl⟩,_,_,rfl,rfl,rfl⟩ (fun m' y hy=>hy)⟩)
 have e11 : ∀ args w,(callFunc 107 args).run Tryz.prog w = .ok (.enter 107 args) w:=enters_of Tryz.func107 (by kernel_rfl) rfl
 go_loopw [3] (fun i wr=>∃ n ces seen,i = .int .i64 ((n:Nat):Int)/\n+Am.cntL Am.Sigs.jaG 100000 28 107 h (.ptr (some (b,o))) seen es=c/\Hid (wr.heap[lm.β]?=some (.map ces ck))/\Hid (Am.jad m es ces.toList)/\Hid (wr.heap[w1.heap.size]?=some (.mapIter (some lm.β) ck seen ck))/\Hid (Am.Step Tryz.prog Am.Sigs.cx h.nx m h w m h wr)) (fun _ wr=>wr.rangeLeft lm.β w1.heap.size)
 case atStart=>exact ⟨0,ces,#[],rfl,by rw [hc0];omega,HM,HE,HI,HS⟩
 case round=>
  obtain ⟨n,ces2,seen,rfl,hcn,HM,HE,HI,HS⟩:=hrel
  have hn2:n<=1000000:=by
   have := @Am.jmn Am.Sigs.jaG 100000 28 107 h (.ptr (some (b,o))) #[] es
   omega
  have HG2:=Any.hidU (Am.jcQ HE.out hg)
  go_wp2_with (first
   | (at_next;refine jcd (Value.int .i64) rfl _ rfl w1.heap.size lm.β ck ck seen ces2 ck rfl HI.out HM.out (fun x hx=>(HG2.out.1 x hx).1) (zn _) HG2.out.2.1 (fun x hx=>(HG2.out.1 x hx).2.elim fun j hj=>⟨j,hj.1⟩) (fun hz=>?_) (fun j val e w2 he hw2 hen=>?_))
   | (go_at_call 107;have S2:=Any.hidU (HS.out.below hR hw2.out.1 S1.size);obtain ⟨ee,hee,heb,j',hej,hej2⟩:=HG2.out.2.2.2 e (Array.mem_filter.1 (Array.mem_toList_iff.1 he.out.1)).1.val;have hjj:j'=j:=(by have:=hej2.symm.trans he.out.2;cases this;rfl);subst hjj;obtain ⟨k,hk0,hk1,hadd,hcl2⟩:=HPD.out w2 j' S2.out ⟨ee,hee,hej⟩;refine hcl2.mono ?_;rintro e4 w4 ⟨rfl,S4⟩;have HS4:=Any.hidU S4;have HAD:=Any.hidU hadd;have HEE:=Any.hidU (And.intro hee (And.intro heb hej));clear hcl2 hadd S4 hee heb hej hej2))
  ·go_ret
   refine ⟨?_,HS.out⟩
   have hz2:Am.cntL Am.Sigs.jaG 100000 28 107 h (.ptr (some (b,o))) seen es=0:=Am.jhT fun e he=>jeb hz.out (by
    rw [Am.jaj HE.out]
    exact List.mem_map.2 ⟨e,he,rfl⟩)
   rw [show c=n by omega]
   rfl
  all_goals
   rename_i hq
   rw [jlf hk0 hk1] at hq
   have hs:seen.contains e.born=false:=by
    have:=(Array.mem_filter.1 (Array.mem_toList_iff.1 he.out.1)).2
    simpa using this
   have hnd:(es.map (·.2.2)).Nodup:=by
    rw [<- Am.jaj HE.out]
    exact HG2.out.2.1
   have hpush:=Am.jhS (p := .ptr (some (b,o))) (by rw [HEE.out.2.2];exact HAD.out) (by rw [HEE.out.2.1];exact hs) HEE.out.1 hnd
   rw [hq,HEE.out.2.1] at hpush
   obtain ⟨l',co,r1,r2,ces4,rfl,r4⟩:=HS4.out.rel.obj _ _ hmp
   rw [hmb] at r1;cases r1
   have hlr:w1.heap.size<w2.heap.size:=by
    rcases zr w1.heap.size w2.heap.size with q | q
    ·exact q
    ·have:=hw2.out.2.2.1
     rw [zD q] at this;cases this
   have hr4:=(HS4.out.frame w1.heap.size hlr (hwf _ (zn _))).1.trans hw2.out.2.2.1
   have hbb:ces4.toList.map (·.born)=ces2.toList.map (·.born):=(Am.jaj r4).trans (Am.jaj HE.out).symm
   have hms:w4.rangeLeft lm.β w1.heap.size<wr.rangeLeft lm.β w1.heap.size:=by
    simp only [World.rangeLeft,HM.out,HI.out,r2,hr4]
    exact jiK hbb he.out.1
   simp only [cond_true,cond_false] at hpush
   first
    | exact ⟨⟨n+1,ces4,seen.push e.born,rfl,by omega,r2,r4,hr4,S2.out.trans HS4.out⟩,hms⟩
    | exact ⟨⟨n,ces4,seen.push e.born,rfl,by omega,r2,r4,hr4,S2.out.trans HS4.out⟩,hms⟩
theorem jgm {h:Am.H} {b o:Nat} {v:Am.V} (e:h.load1 b o=some v):h.load b o 1=some [v]:=by
 unfold Am.H.load1 at e
 unfold Am.H.load
 split at e
 ·next l ro hg=>
  have hlt:o<l.length:=(List.getElem?_eq_some_iff.1 e).1
  have:Nat.ble (o+1) l.length=true:=by rw [zA];omega
  rw [this]
  simp only [cond_true]
  rw [List.take_one,List.head?_drop,e]
  rfl
 ·cases e
theorem add_ok (hP:Am.ProgOk Tryz.prog Am.Sigs.cx Am.Sigs.jaG):Am.jby Tryz.prog Am.Sigs.cx 121 (Am.pAdd Am.Sigs.jaG 100000 28 107 105 2):=by
 refine Am.jiA (enters_of Tryz.func121 (by kernel_rfl) rfl) ?_
 intro args h v h' hr m w xs hR hG hx
 unfold Am.pAdd at hr
 split at hr
 ·next p=>
  obtain ⟨x,r,e,hx1,e2⟩:=hx
  obtain rfl:r=[]:=e2
  obtain ⟨l⟩:=xs
  obtain rfl:l=[x]:=e
  split at hr
  ·next bad h1 hn=>
   cases hk:Am.hasM h1 h.t.maps with
   | false=>rw [hk] at hr;cases hr
   | true=>
    rw [hk] at hr
    simp only [cond_true] at hr
    cases bad with
    | true=>
     simp only [cond_true] at hr
     cases hr
     exact ⟨rfl,(added_no hP hR hG hx1 hn hk).mono fun e w' q=>⟨_,q.1,rfl,q.2⟩⟩
    | false=>
     simp only [cond_false] at hr
     split at hr
     ·next b o=>
      split at hr
      ·next mb hl=>
       split at hr
       ·next es ck he=>
        split at hr
        ·next c hc=>
         cases hgl:Am.jdi ck es&&Nat.ble es.length 1000000 with
         | false=>rw [hgl] at hc;cases hc
         | true=>
          rw [hgl] at hc
          simp only [cond_true] at hc
          rw [zm,zA] at hgl
          cases hr
          obtain ⟨l,hb,rfl⟩:=hx1
          have hmb : ∃ lm,m mb=some lm:=by
           obtain ⟨l',co,r1,_⟩:=hR.obj _ _ he
           exact ⟨l',r1⟩
          obtain ⟨lm,hmb⟩:=hmb
          exact ⟨rfl,(added_yes hP hR hG hb hmb hn hk (jgm hl) he hc hgl.1 hgl.2).mono fun e w' q=>⟨_,q.1,rfl,q.2⟩⟩
        ·cases hr
       ·cases hr
      ·cases hr
     ·cases hr
  ·cases hr
 ·cases hr
end
end Go.Proofs
