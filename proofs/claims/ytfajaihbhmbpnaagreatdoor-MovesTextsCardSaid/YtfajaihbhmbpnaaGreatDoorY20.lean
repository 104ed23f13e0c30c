/- Our own library, part 20. -/
import Derived.Test.YtfajaihbhmbpnaaGreatDoorY19
import Derived.Test.YtfajaihbhmbpnaaGreatDoorY18
import Derived.Test.YtfajaihbhmbpnaaGreatDoorY17
set_option maxHeartbeats 8000000
set_option maxRecDepth 800
set_option linter.all false
namespace Am.Sigs
open Am Go
structure PI (h1:H) (cb R2 R3 R4 Lp:Nat) (lo:Obj) (s1:List UInt8) (n:Nat) (XL:List SpX) (g:H):Prop where
 ch:Ch (fun j=>j=cb\/j=R2\/j=R3\/j=R4\/j=Lp) h1 g
 cb_:g.get cb=some (.cells [.str s1] false)
 R2_ : ∃ sv,g.get R2=some (.cells [sv] false)/\Row h1.nx g 4 sv XL.length (XL.map SpX.V).flatten
 R3_:g.get R3=some (.cells [.i (n:Int)] false)
 R4_:g.get R4=some (.cells [.i 0] false)
 L_:g.get Lp=some lo
 st : ∀ x∈XL,StepAt g (h1.nx <= ·) (h1.nx <= ·) x
structure PX (h0 h1:H) (cb R2 R3 R4 Lp:Nat):Prop where
 gv:Gv h0
 o:Old h0 h1
 c1:h0.nx<=cb
 c2:cb<h1.nx
 a1:h0.nx<=R2
 a2:R2<h1.nx
 b1:h0.nx<=R3
 b2:R3<h1.nx
 d1:h0.nx<=R4
 d2:R4<h1.nx
 l1:h0.nx<=Lp
 l2:Lp<h1.nx
 ne:cb≠R2/\cb≠R3/\cb≠R4/\cb≠Lp/\R2≠R3/\R2≠R4/\R2≠Lp/\R3≠R4/\R3≠Lp/\R4≠Lp
def PJ (h1:H) (cb R2 R3 R4 Lp:Nat) (lo:Obj) (n:Nat) (g:H):Prop:=Ch (fun j=>j=cb\/j=R2\/j=R3\/j=R4\/j=Lp) h1 g/\g.get R2=some (.cells [.nils] false)/\g.get R3=some (.cells [.i (n:Int)] false)/\g.get R4=some (.cells [.i 121] false)/\g.get Lp=some lo
section
variable {h0 h1 g g':H} {cb R2 R3 R4 Lp:Nat} {s1:List UInt8} {n:Nat} {lo:Obj} {XL:List SpX}
theorem PX.old0 (x:PX h0 h1 cb R2 R3 R4 Lp) (c:Ch (fun j=>j=cb\/j=R2\/j=R3\/j=R4\/j=Lp) h1 g):Old h0 g :=
 ⟨zu x.o.1 c.nx,fun j hj=>by
  rw [c.get j (zo hj x.o.1) (by have:=x.c1;have:=x.a1;have:=x.b1;have:=x.d1;have:=x.l1;omega),x.o.2 j hj]⟩
theorem PI.keep (a:PI h1 cb R2 R3 R4 Lp lo s1 n XL g) (x:PX h0 h1 cb R2 R3 R4 Lp) (o:Old g g'):PI h1 cb R2 R3 R4 Lp lo s1 n XL g':=by
 have hn:=a.ch.nx
 refine ⟨a.ch.trans o.ch,by rw [o.2 cb (zo x.c2 hn),a.cb_],?_,by rw [o.2 R3 (zo x.b2 hn),a.R3_],by rw [o.2 R4 (zo x.d2 hn),a.R4_],by rw [o.2 Lp (zo x.l2 hn),a.L_],fun y hy=>(a.st y hy).old o⟩
 obtain ⟨sv,e1,e2⟩:=a.R2_
 exact ⟨sv,by rw [o.2 R2 (zo x.a2 hn),e1],e2.keep o.1 fun z hz=>o.2 z (e2.at_ge hz).2⟩
end
section
variable {cl:Nat->Call} (hcl:Sem cl) {d:Nat} {h0 h1 g:H} {cb R2 R3 R4 Lp:Nat} {s1 one:List UInt8} {n:Nat} {XL:List SpX} {LO:LoopState->Option Ex->Obj}
include hcl
theorem jiB {t:List UInt8} {full:Bool} (ht:one=if full then t++[10] else t) (ht2:full=false->10 ∉ t) (hl:LF t) (hd:16<=d)
  (hLO:LO=(fun st pd=>.loop st pd [10] [(2,.p R2 0),(3,.p R3 0),(4,.p R4 0)] (.region 0 [.mk4 0 (some 5) (.mv (.t 10)) none] [2,3,4,5]) (.block 1 (.seq (.region 0 [.mk4 0 (some 11) (.load1 (.t 3)) none,.mk4 1 (some 12) (.bin .add (.t 11) (.c (.i 1))) none,.mk4 2 none (.store 1 (.t 3) (.t 12)) none] [2,3,4,5]) c11_2)))) (x:PX h0 h1 cb R2 R3 R4 Lp) (a:PI h1 cb R2 R3 R4 Lp (LO .ready none) s1 n XL g) (hn:n<=50000) (hXL:XL.length<=50000) :
  ∃ g',(full=true/\n+1<=2000 /\ ∃ y,jba t=some y.sp/\cl d (.yld Lp) [.str one] g=some (.bool true,g')/\PI h1 cb R2 R3 R4 Lp (LO .ready none) s1 (n+1) (XL++[y]) g')\/((full=false\/jba t=none\/2000<n+1)/\cl d (.yld Lp) [.str one] g=some (.bool false,g')/\PJ h1 cb R2 R3 R4 Lp (LO .done (some .ret)) (n+1) g'):=by
 obtain ⟨n1,n2,n3,n4,n5,n6,n7,n8,n9,n10⟩:=x.ne
 have hc2:=x.c2;have ha2:=x.a2;have hb2:=x.b2;have hd2:=x.d2;have hl2:=x.l2
 have hgn:=a.ch.nx
 have hx3:(n:Int)+1=((n+1:Nat):Int):=by omega
 have A2:PI h1 cb R2 R3 R4 Lp (LO .busy none) s1 (n+1) XL ((g.set Lp (LO .busy none)).set R3 (.cells [.i ((n+1:Nat):Int)] false)):=by
  obtain ⟨sv,e1,e2⟩:=a.R2_
  refine ⟨(a.ch.trans (Ch.set (.inr (.inr (.inr (.inr rfl)))))).trans (Ch.set (.inr (.inr (.inl rfl)))),by rw [jaa n2,jaa n4,a.cb_],⟨sv,by rw [jaa n5,jaa n7,e1],e2.keep Zd fun z hz=>by have:=(e2.at_ge hz).1;rw [jaa om,jaa om]⟩,jab _,by rw [jaa (Ne.symm n8),jaa n10,a.R4_],by rw [jaa (Ne.symm n9)];exact jab _,fun y hy=>(a.st y hy).keep Zd (fun z _ hz=>⟨by rw [jaa om,jaa om],hz⟩) fun z _ hz=>⟨by rw [jaa om,jaa om],hz⟩⟩
 have gR3:(g.set Lp (LO .busy none)).get R3=some (.cells [.i (n:Int)] false):=by rw [jaa n9,a.R3_]
 have gv2:=x.gv.old (x.old0 A2.ch)
 have hgn2:g.nx=((g.set Lp (LO .busy none)).set R3 (.cells [.i ((n+1:Nat):Int)] false)).nx:=rfl
 have B0 : ∀ {V':V} {R:V->H->Prop},(Run (cl (d-1)) fuel c11_2 [.block 1] [(2,.p R2 0),(3,.p R3 0),(4,.p R4 0),(5,.str one)] ((g.set Lp (LO .busy none)).set R3 (.cells [.i ((n+1:Nat):Int)] false)) fun ex _ h3=>(∃ st3 pd3,h3.get Lp=some (LO st3 pd3))/\R (.bool ex.goes) (h3.set Lp (LO ex.st ex.pend))) -> ∃ v' g',cl d (.yld Lp) [.str one] g=some (v',g')/\R v' g':=by
  intro V' R k
  have aL:=a.L_
  clear A2 gv2
  refine yl_ hcl om hLO aL rfl ?_
  obtain ⟨C2,hC2⟩ : ∃ C,C=c11_2:=⟨_,rfl⟩
  rw [<- hC2] at k ⊢
  refine qx ?_
  refine End.nil ⟨rfl,aL,?_⟩
  refine Ga ?_
  rw [hx3]
  exact k
 generalize (g.set Lp (LO .busy none)).set R3 (.cells [.i ((n+1:Nat):Int)] false)=G at A2 gR3 gv2 hgn2 B0
 have eT:cl (d-1) (.fn 38) [.str one,.str [10]] G=some (.str t,G):=by
  cases full with
  | true=>rw [ht];exact ts_t hcl om (by have:=hl.1;omega)
  | false=>rw [show one=t from ht];exact ts_f hcl om (by have:=hl.1;omega) (ht2 rfl)
 obtain ⟨v,g1,e1,xs,b,rfl,o1,hl4,h14,hy,hno⟩:=rd_read hcl (d:=d-1) (h:=G) (s:=t) gv2 om hl
 have o2:Old G ((g1.new (.cells [.int .u64 0,.bool false,.nils,.nils] false)).set g1.nx (.cells xs false)):=o1.new.set o1.1
 have gm2:((g1.new (.cells [.int .u64 0,.bool false,.nils,.nils] false)).set g1.nx (.cells xs false)).get g1.nx=some (.cells xs false):=jab _
 have hset:jal ([.int .u64 0,.bool false,.nils,.nils]:List V) 0 xs=xs:=by
  match xs,hl4 with
  | [p,q,r,s],_=>rfl
 have A3:=A2.keep x o2
 have hy2:b=true -> ∃ y:SpX,xs=y.V/\StepAt ((g1.new (.cells [.int .u64 0,.bool false,.nils,.nils] false)).set g1.nx (.cells xs false)) (fun z=>G.nx<=z) (fun z=>G.nx<=z) y/\SpFit y.sp/\jaD y.sp=t:=fun hb=>by
  obtain ⟨y,k1,k2,k3,k4⟩:=hy hb
  exact ⟨y,k1,k2.old ⟨by simp,fun j hj=>by rw [jaa om,jaj hj]⟩,k3,k4⟩
 have hm2:g1.nx<((g1.new (.cells [.int .u64 0,.bool false,.nils,.nils] false)).set g1.nx (.cells xs false)).nx:=by simp
 have hn2:=o2.1
 have eS:cl (d-1) (.fn 39) [.str one,.str [10]] ((g1.new (.cells [.int .u64 0,.bool false,.nils,.nils] false)).set g1.nx (.cells xs false))=some (.bool full,(g1.new (.cells [.int .u64 0,.bool false,.nils,.nils] false)).set g1.nx (.cells xs false)):=by
  cases full with
  | true=>rw [ht];exact hs_t hcl om (by have:=hl.1;omega)
  | false=>rw [show one=t from ht];exact hs_f hcl om (by have:=hl.1;omega) (ht2 rfl)
 clear hy
 obtain ⟨C1,hC1⟩ : ∃ C,C=c11_1:=⟨_,rfl⟩
 obtain ⟨Hq,hHq⟩ : ∃ H',H'=(g1.new (.cells [.int .u64 0,.bool false,.nils,.nils] false)).set g1.nx (.cells xs false):=⟨_,rfl⟩
 rw [<- hHq] at o2 gm2 A3 hy2 hm2 eS hn2
 have B1 : ∀ {R:V->H->Prop},(Run (cl (d-1)) fuel C1 [.block 1] [(2,.p R2 0),(3,.p R3 0),(4,.p R4 0),(5,.str one),(6,.p g1.nx 0),(7,.bool b)] Hq fun ex _ h3=>(∃ st3 pd3,h3.get Lp=some (LO st3 pd3))/\R (.bool ex.goes) (h3.set Lp (LO ex.st ex.pend))) -> ∃ v' g',cl d (.yld Lp) [.str one] g=some (v',g')/\R v' g':=by
  intro R k
  refine B0 (V' := .nils) ?_
  simp only [c11_2,<- hC1,yH]
  clear A2 A3 hy2 B0 hno
  refine qx ?_
  refine zcu (ob := .cells [.int .u64 0,.bool false,.nils,.nils] false) (mk:=fun b=>.p b 0) rfl rfl ?_
  refine zct (n:=4) (o:=0) (vs:=xs) rfl rfl hl4 h14 (jac _) Zd ?_
  rw [hset,<- hHq]
  refine qx ?_
  exact k
 clear B0 eT e1 hset A2 hHq o1 o2 gR3
 obtain ⟨sv,gR2,row⟩:=id A3.R2_
 have gR3:=A3.R3_
 have gR4:=A3.R4_
 have gL:=A3.L_
 have FJ:PJ h1 cb R2 R3 R4 Lp (LO .done (some .ret)) (n+1) ((((Hq.set R2 (.cells [.nils] false)).set R3 (.cells [.i ((n+1:Nat):Int)] false)).set R4 (.cells [.i 121] false)).set Lp (LO .done (some .ret))) :=
  ⟨(((A3.ch.trans (Ch.set (.inr (.inl rfl)))).trans (Ch.set (.inr (.inr (.inl rfl))))).trans (Ch.set (.inr (.inr (.inr (.inl rfl)))))).trans (Ch.set (.inr (.inr (.inr (.inr rfl))))),
   by rw [jaa n7,jaa n6,jaa n5];exact jab _,by rw [jaa n9,jaa n8];exact jab _,by rw [jaa n10];exact jab _,jab _⟩
 have Fin:(full=false\/jba t=none\/2000<n+1)->(∃ v' g',cl d (.yld Lp) [.str one] g=some (v',g')/\(v' = .bool false/\PJ h1 cb R2 R3 R4 Lp (LO .done (some .ret)) (n+1) g')) -> ∃ g',(full=true/\n+1<=2000 /\ ∃ y,jba t=some y.sp/\cl d (.yld Lp) [.str one] g=some (.bool true,g')/\PI h1 cb R2 R3 R4 Lp (LO .ready none) s1 (n+1) (XL++[y]) g')\/((full=false\/jba t=none\/2000<n+1)/\cl d (.yld Lp) [.str one] g=some (.bool false,g')/\PJ h1 cb R2 R3 R4 Lp (LO .done (some .ret)) (n+1) g'):=by
  rintro hw ⟨v',g',e,rfl,k⟩
  exact ⟨g',.inr ⟨hw,e,k⟩⟩
 cases b with
 | false=>
  refine Fin (.inr (.inl (je5 (hno rfl)))) ?_
  clear row hy2 A3
  refine B1 ?_
  subst hC1
  refine qx ?_
  refine Ops.store1_chk rfl rfl rfl gR2 Zd (jfb rfl (by rw [jaa (Ne.symm n5),gR3]) rfl rfl) ?_
  rw [show ([sv]:List V).set 0 .nils=[.nils] from rfl]
  refine zcs (l:=[.i ((n+1:Nat):Int)]) rfl rfl rfl (by rw [jaa (Ne.symm n5),gR3]) Zd ?_
  rw [show ([.i ((n+1:Nat):Int)]:List V).set 0 (.i ((n+1:Nat):Int))=[.i ((n+1:Nat):Int)] from rfl]
  refine zcs (l:=[.i 0]) rfl rfl rfl (by rw [jaa (Ne.symm n8),jaa (Ne.symm n6),gR4]) Zd ?_
  rw [show ([.i 0]:List V).set 0 (.i 121)=[.i 121] from rfl]
  refine qx ?_
  refine End.nil ⟨⟨_,_,by rw [jaa (Ne.symm n10),jaa (Ne.symm n9),jaa (Ne.symm n7)];exact gL⟩,rfl,?_⟩
  exact FJ
 | true=>
  obtain ⟨y,rfl,hA,hfit,hls⟩:=hy2 rfl
  have hso:jba t=some y.sp:=by rw [<- hls];exact je6 hfit
  by_cases hgt:(2000:Int)<((n+1:Nat):Int)
  ·refine Fin (.inr (.inr om)) ?_
   clear row hy2 A3 hA
   refine B1 ?_
   subst hC1
   refine qx ?_
   refine Ops.store1_chk rfl rfl rfl gR2 Zd (jfb rfl (by rw [jaa (Ne.symm n5),gR3]) rfl rfl) ?_
   rw [show ([sv]:List V).set 0 .nils=[.nils] from rfl]
   refine zcs (l:=[.i ((n+1:Nat):Int)]) rfl rfl rfl (by rw [jaa (Ne.symm n5),gR3]) Zd ?_
   rw [show ([.i ((n+1:Nat):Int)]:List V).set 0 (.i ((n+1:Nat):Int))=[.i ((n+1:Nat):Int)] from rfl]
   refine zcs (l:=[.i 0]) rfl rfl rfl (by rw [jaa (Ne.symm n8),jaa (Ne.symm n6),gR4]) Zd ?_
   rw [show ([.i 0]:List V).set 0 (.i 121)=[.i 121] from rfl]
   refine qx ?_
   refine End.nil ⟨⟨_,_,by rw [jaa (Ne.symm n10),jaa (Ne.symm n9),jaa (Ne.symm n7)];exact gL⟩,rfl,?_⟩
   exact FJ
  cases full with
  | false=>
   refine Fin (.inl rfl) ?_
   clear row hy2 A3 hA
   refine B1 ?_
   subst hC1
   refine qx ?_
   refine Ops.store1_chk rfl rfl rfl gR2 Zd (jfb rfl (by rw [jaa (Ne.symm n5),gR3]) rfl rfl) ?_
   rw [show ([sv]:List V).set 0 .nils=[.nils] from rfl]
   refine zcs (l:=[.i ((n+1:Nat):Int)]) rfl rfl rfl (by rw [jaa (Ne.symm n5),gR3]) Zd ?_
   rw [show ([.i ((n+1:Nat):Int)]:List V).set 0 (.i ((n+1:Nat):Int))=[.i ((n+1:Nat):Int)] from rfl]
   refine zcs (l:=[.i 0]) rfl rfl rfl (by rw [jaa (Ne.symm n8),jaa (Ne.symm n6),gR4]) Zd ?_
   rw [show ([.i 0]:List V).set 0 (.i 121)=[.i 121] from rfl]
   refine qx ?_
   refine End.nil ⟨⟨_,_,by rw [jaa (Ne.symm n10),jaa (Ne.symm n9),jaa (Ne.symm n7)];exact gL⟩,rfl,?_⟩
   exact FJ
  | true=>
   suffices w : ∃ v' g',cl d (.yld Lp) [.str one] g=some (v',g')/\(v' = .bool true/\PI h1 cb R2 R3 R4 Lp (LO .ready none) s1 (n+1) (XL++[y]) g') by
    obtain ⟨v',g',e,rfl,k⟩:=w
    exact ⟨g',.inl ⟨rfl,by omega,y,hso,e,k⟩⟩
   have hss : ∀ x∈XL,(∃ a c,x.ov = .slice a x.ol.length c) /\ ∃ a c,x.mv = .slice a x.ml.length c:=fun x hx=>by
    have A:=A3.st x hx
    obtain ⟨a,c,e,_⟩:=id A.ov.1
    obtain ⟨a',c',e',_⟩:=id A.mv
    exact ⟨⟨a,c,e⟩,a',c',e'⟩
   clear Fin FJ hno hy2
   refine B1 ?_
   subst hC1
   refine qx ?_
   refine zcw rfl gm2 Zd ?_
   rw [show ((y.V).drop 0).take 4=y.V from rfl]
   refine Ops.push (N:=h1.nx) (n:=XL.length) (new:=y.V) rfl rfl rfl h14 om rfl rfl row om om om fun w g3 row3 hx4 hz4 hk4=>?_
   have hw1:w.one=true:=by rcases row3 with ⟨e,_⟩ | ⟨_,_,_,rfl,_⟩<;>first | rfl | (omega)
   have hlt : ∀ j,j<h1.nx->g3.get j=Hq.get j:=fun j hj=>hk4 j om fun e=>by have:=(row.at_ge e).1;omega
   have gR23:g3.get R2=some (.cells [sv] false):=by rw [hlt R2 ha2,gR2]
   refine qx ?_
   refine zcs rfl rfl hw1 gR23 Zd ?_
   rw [show ([sv]:List V).set 0 w=[w] from rfl]
   refine qx ?_
   refine End.nil ⟨⟨_,_,by rw [jaa (Ne.symm n7),hlt Lp hl2,gL]⟩,rfl,?_⟩
   have gf : ∀ j,j≠R2->j≠Lp->((g3.set R2 (.cells [w] false)).set Lp (LO .ready none)).get j=g3.get j:=fun j e1 e2=>by rw [jaa e2,jaa e1]
   have hr:((XL++[y]).map SpX.V).flatten=(XL.map SpX.V).flatten++y.V:=by simp
   show PI h1 cb R2 R3 R4 Lp (LO .ready none) s1 (n+1) (XL++[y]) ((g3.set R2 (.cells [w] false)).set Lp (LO .ready none))
   refine ⟨?_,by rw [gf cb n1 n4,hlt cb hc2,A3.cb_],⟨w,by rw [jaa n7];exact jab _,?_⟩,by rw [gf R3 (Ne.symm n5) n9,hlt R3 hb2,gR3],by rw [gf R4 (Ne.symm n6) n10,hlt R4 hd2,gR4],jab _,fun z hz=>?_⟩
   ·have c1:Ch (fun j=>j=cb\/j=R2\/j=R3\/j=R4\/j=Lp) h1 g3:=⟨by omega,fun j hj hn=>by rw [hlt j hj,A3.ch.get j hj hn]⟩
    exact (c1.trans (Ch.set (.inr (.inl rfl)))).trans (Ch.set (.inr (.inr (.inr (.inr rfl)))))
   ·rw [hr,show (XL++[y]).length=XL.length+1 by simp]
    exact row3.keep Zd fun z hz=>by have:=(row3.at_ge hz).1;exact gf z om om
   ·have hAz:StepAt Hq (h1.nx <= ·) (h1.nx <= ·) z:=by
     rcases zF.1 hz with hz | hz
     ·exact A3.st z hz
     ·obtain rfl:=List.mem_singleton.1 hz
      exact hA.keep (zn _) (fun j _ hj=>⟨rfl,by omega⟩) fun j _ hj=>⟨rfl,by omega⟩
    have hB:=hAz.ne row hss
    have hkk : ∀ j,j<Hq.nx->(h1.nx<=j/\sv.at?≠some j)->((g3.set R2 (.cells [w] false)).set Lp (LO .ready none)).get j=Hq.get j/\h1.nx<=j:=fun j hj hj2=>⟨by rw [gf j om om,hk4 j hj hj2.2],hj2.1⟩
    exact hB.keep (by simpa using hx4) hkk hkk
end
noncomputable def parR (n:Nat):List (List UInt8)->Nat × List Sp
 | []=>(0,[])
 | l :: r=>match r with
  | []=>if l=[] then (0,[]) else (n+1,[])
  | _ :: _=>match jba l with
   | none=>(n+1,[])
   | some x=>if 2000<n+1 then (n+1,[]) else match parR (n+1) r with
    | (0,xs)=>(0,x :: xs)
    | (k+1,_)=>(k+1,[])
def parU (XL:List Sp):Nat × List Sp->Nat × List Sp
 | (0,xs)=>(0,XL++xs)
 | (k+1,_)=>(k+1,[])
theorem jdo (n:Nat):parR n (jae 10 [])=(0,[]):=by simp [jae,parR]
theorem jeH {n:Nat} {s:List UInt8} (h0:s≠[]) (hc:(10:UInt8) ∉ s):parR n (jae 10 s)=(n+1,[]):=by
 rw [jb6 hc,parR]
 simp [h0]
theorem jeI {n:Nat} {w r:List UInt8} (hw:(10:UInt8) ∉ w):parR n (jae 10 (w++10 :: r))=(match jba w with
   | none=>(n+1,[])
   | some x=>if 2000<n+1 then (n+1,[]) else parU [x] (parR (n+1) (jae 10 r))):=by
 rw [jbq hw]
 cases hs:jae 10 r with
 | nil=>exact zC hs (jcq 10 r)
 | cons a l=>
  rw [parR]
  cases jba w with
  | none=>rfl
  | some x=>
   simp only
   split
   ·rfl
   ·rcases parR (n+1) (a :: l) with ⟨k,xs⟩
    cases k<;>rfl
theorem parR_err : ∀ (l:List (List UInt8)) (n k:Nat) (xs:List Sp),parR n l=(k+1,xs)->xs=[]
 | [],n,k,xs,h=>by simp [parR] at h
 | l :: r,n,k,xs,h=>by
  cases r with
  | nil=>
   rw [parR] at h
   split at h
   ·simp at h
   ·simp at h;exact h.2
  | cons a t=>
   rw [parR] at h
   cases hs:jba l with
   | none=>rw [hs] at h;simp at h;exact h.2
   | some x=>
    rw [hs] at h
    simp only at h
    split at h
    ·simp at h;exact h.2
    ·cases hp:parR (n+1) (a :: t) with
     | mk k' ys=>
      rw [hp] at h
      cases k' with
      | zero=>simp at h
      | succ k'=>simp at h;exact h.2
theorem jiF {n:Nat} {l:List (List UInt8)} : parU [] (parR n l)=parR n l:=by
 cases h:parR n l with
 | mk k xs=>
  cases k with
  | zero=>rfl
  | succ k=>rw [parR_err l n k xs h];rfl
theorem jkK (A B:List Sp) (p:Nat × List Sp):parU A (parU B p)=parU (A++B) p:=by
 rcases p with ⟨k,xs⟩
 cases k with
 | zero=>simp [parU]
 | succ k=>rfl
theorem PI.cut {h0 h1 g:H} {cb R2 R3 R4 Lp:Nat} {s1 s2:List UInt8} {n:Nat} {lo:Obj} {XL:List SpX} (a:PI h1 cb R2 R3 R4 Lp lo s1 n XL g) (x:PX h0 h1 cb R2 R3 R4 Lp):PI h1 cb R2 R3 R4 Lp lo s2 n XL (g.set cb (.cells [.str s2] false)):=by
 obtain ⟨n1,n2,n3,n4,n5,n6,n7,n8,n9,n10⟩:=x.ne
 have hc:=x.c2
 obtain ⟨sv,e1,e2⟩:=a.R2_
 exact ⟨a.ch.trans (Ch.set (.inl rfl)),jab _,⟨sv,by rw [jaa (Ne.symm n1),e1],e2.keep Zd fun z hz=>by have:=(e2.at_ge hz).1;exact jaa om⟩,by rw [jaa (Ne.symm n2),a.R3_],by rw [jaa (Ne.symm n3),a.R4_],by rw [jaa (Ne.symm n4),a.L_],fun y hy=>(a.st y hy).keep Zd (fun z _ hz=>⟨jaa om,hz⟩) fun z _ hz=>⟨jaa om,hz⟩⟩
theorem fin3 {call:Call} {fuel:Nat} {h:H} {a b c:Nat} {u v w:V} {r1 r2 r3:Bool} {R:V->H->Prop} {e:Env} (e1:e.get 2=some (.p a 0)) (e2:e.get 3=some (.p b 0)) (e3:e.get 4=some (.p c 0)) (h1:h.get a=some (.cells [u] r1)) (h2:h.get b=some (.cells [v] r2)) (h3:h.get c=some (.cells [w] r3)) (k:R (.tup [u,v,w]) h) :
  End call fuel [] .ret e h (Fin [.cell1 2,.cell1 3,.cell1 4] R):=by
 refine End.fin2 (a:=u) (b:=v) (l:=[w]) ?_ k
 have k1:h.load1 a 0=some u:=by simp only [H.load1,h1];rfl
 have k2:h.load1 b 0=some v:=by simp only [H.load1,h2];rfl
 have k3:h.load1 c 0=some w:=by simp only [H.load1,h3];rfl
 simp only [jcb,e1,e2,e3,k1,k2,k3]
def TF (s:List UInt8):Prop:=s.length<=40000000/\(jae 10 s).length<=19000 /\ ∀ t∈jae 10 s,LF t
theorem TF.of {s:List UInt8} (h:s.length<=12000):TF s :=
 ⟨by omega,by rw [jaG];have:=jc7 10 s;omega,fun t ht=>LF.of (by have:=jbr ht;omega)⟩
theorem TF.tail {w r:List UInt8} (h:TF (w++10 :: r)) (hw:(10:UInt8) ∉ w):TF r:=by
 obtain ⟨h1,h2,h3⟩:=h
 rw [jbq hw] at h2 h3
 exact ⟨by simp at h1;omega,by simp at h2;omega,fun t ht=>h3 t (zj _ ht)⟩
section
variable {cl:Nat->Call} (hcl:Sem cl) {d:Nat} {h0 h1 h g:H} {cb R2 R3 R4 Lp:Nat} {s:List UInt8} {LO:LoopState->Option Ex->Obj}
include hcl
theorem st_ib {c:UInt8} (hd:3<=d):cl d (.fn 72) [.str s,.int .u8 (c.toNat:Int)] h=some (.i (idxB c s 0),h):=by
 have e0:cl (d-2) (.fn 126) [.str s,.int .u8 (c.toNat:Int)] h=some (.i (idxB c s 0),h):=by
  rw [jfT hcl om (p:=jaH) rfl]
  show some (V.i (idxB ((c.toNat:Int).toNat.toUInt8) s 0),h)=_
  rw [show ((c.toNat:Int).toNat.toUInt8)=c by simp]
 have e1:cl (d-1) (.fn 102) [.str s,.int .u8 (c.toNat:Int)] h=some (.i (idxB c s 0),h):=by
  refine jam (aT hcl ?_)
  refine qx ?_
  exact ⟨rfl,rfl⟩
 refine jam (aT hcl ?_)
 clear e0
 refine qx ?_
 exact ⟨rfl,rfl⟩
theorem ps_lines (hd:17<=d)
  (hLO:LO=(fun st pd=>.loop st pd [10] [(2,.p R2 0),(3,.p R3 0),(4,.p R4 0)] (.region 0 [.mk4 0 (some 5) (.mv (.t 10)) none] [2,3,4,5]) (.block 1 (.seq (.region 0 [.mk4 0 (some 11) (.load1 (.t 3)) none,.mk4 1 (some 12) (.bin .add (.t 11) (.c (.i 1))) none,.mk4 2 none (.store 1 (.t 3) (.t 12)) none] [2,3,4,5]) c11_2)))) (x:PX h0 h1 cb R2 R3 R4 Lp) (a:PI h1 cb R2 R3 R4 Lp (LO .ready none) s 0 [] g) (hs:TF s) :
  ∃ v g',cl d (.fn 71) [.yld Lp,.p cb 0] g=some (v,g')/\((∃ n XL,parR 0 (jae 10 s)=(0,XL.map SpX.sp)/\PI h1 cb R2 R3 R4 Lp (LO .ready none) [] n XL g')\/(∃ k,parR 0 (jae 10 s)=(k+1,[])/\PJ h1 cb R2 R3 R4 Lp (LO .done (some .ret)) (k+1) g')):=by
 refine aT hcl ?_
 generalize hR:parR 0 (jae 10 s)=R
 obtain ⟨C2,hC2⟩ : ∃ C,C=c71_2:=⟨_,rfl⟩
 simp only [c71,c71_3,<- hC2,yB,yF]
 refine qx ?_
 refine zW (fun j e g=>∃ (s1:List UInt8) (n:Nat) (XL:List SpX) (sbe:Env),j=(jae 10 s1).length/\(jae 10 s1).length+n<=20000/\TF s1/\XL.length=n/\e=(0,.yld Lp) :: (1,.p cb 0) :: sbe/\PI h1 cb R2 R3 R4 Lp (LO .ready none) s1 n XL g/\parU (XL.map SpX.sp) (parR n (jae 10 s1))=R)
  (k:=(jae 10 s).length) (by show _<100000;have:=hs.2.1;omega) ⟨s,0,[],[],rfl,by have:=hs.2.1;omega,hs,rfl,rfl,a,by rw [<- hR];exact jiF⟩ ?_
 clear a hR hs
 rintro _ _ g ⟨s1,n,XL,sbe,rfl,hsl,htf,hXL,rfl,a,hR⟩ f ih
 have gc:=a.cb_
 have eI:=st_ib hcl (d:=d-1) (h:=g) (s:=s1) (c:=10) om
 have eI:cl (d-1) (.fn 72) [.str s1,.int .u8 10] g=some (.i (idxB 10 s1 0),g):=eI
 by_cases h0:s1=[]
 ·subst h0
  rw [jdo] at hR
  have hR':(0,XL.map SpX.sp)=R:=by rw [<- hR];simp [parU]
  subst hR'
  have h1 : ¬ (0:Int)<((([]:List UInt8).length:Nat):Int):=by simp
  clear ih eI
  refine qx ?_
  exact .inl ⟨n,XL,rfl,a⟩
 have hp:(0:Int)<((s1.length:Nat):Int):=by have:=List.length_pos_iff.2 h0;omega
 by_cases hz:cntB 10 s1=0
 ·have hnot:=jdy hz
  rw [jeH h0 hnot] at hR
  have hR':(n+1,[])=R:=hR
  subst hR'
  have hm1:idxB 10 s1 0 = -1:=by rw [jes,zt hnot]
  rw [hm1] at eI
  obtain ⟨g',⟨hf,_⟩ | ⟨_,e5,j⟩⟩:=jiB hcl (d:=d-1) (one:=s1) (t:=s1) (full:=false) rfl (fun _=>hnot) (htf.2.2 s1 (by rw [jb6 hnot];simp)) om hLO x (a.cut x (s2:=[])) om om
  ·cases hf
  clear ih a
  subst hC2
  refine Ga ?_
  refine Ops.yield rfl rfl e5 ?_
  refine qx ?_
  exact .inr ⟨n,rfl,j⟩
 obtain ⟨w,r,rfl,hw,hi,hc⟩:=jcC (Nat.pos_of_ne_zero hz)
 rw [hi] at eI
 rw [jeI hw] at hR
 have hlw:(w++10 :: r).length=w.length+r.length+1:=by simp;omega
 have ht:(w++10 :: r).take (w.length+1)=w++[10]:=by
  rw [show w++10 :: r=(w++[10])++r by simp,List.take_left' Zd]
 have hdr:(w++10 :: r).drop (w.length+1)=r:=by
  rw [<- List.drop_drop,List.drop_left' rfl];rfl
 have hx1:((w.length:Nat):Int)+1=((w.length+1:Nat):Int):=by omega
 have hge:(0:Int)<=((w.length:Nat):Int):=by omega
 rw [jbq hw,List.length_cons] at hsl ih
 have hlf:=htf.2.2 w (by rw [jbq hw];simp)
 have htr:=htf.tail hw
 have hlw8:=htf.1
 rw [hlw] at hlw8
 obtain ⟨g',hor⟩:=jiB hcl (d:=d-1) (one:=w++[10]) (t:=w) (full:=true) rfl (fun e=>by cases e) hlf om hLO x (a.cut x (s2:=r)) om om
 rcases hor with ⟨_,hle,y,hy,e5,i⟩ | ⟨hbad,e5,j⟩
 ·rw [hy] at hR
  simp only at hR
  rw [zt om,jkK] at hR
  subst hC2
  clear a
  refine qx ?_
  rw [hx1]
  refine Ops.strTo rfl rfl (by rw [hlw];omega) ?_
  refine qx ?_
  rw [hx1]
  refine Ops.strFrom rfl rfl (by rw [hlw];omega) ?_
  rw [ht,hdr]
  refine Ga ?_
  refine Ops.yield rfl rfl e5 ?_
  refine qx ?_
  exact ih (jae 10 r).length om _ _ ⟨r,n+1,XL++[y],_,rfl,by omega,htr,by simp [hXL],rfl,i,by rw [List.map_append];exact hR⟩
 ·have hR':(n+1,[])=R:=by
   rw [<- hR]
   rcases hbad with h | h | h
   ·cases h
   ·rw [h];rfl
   ·cases hso:jba w with
    | none=>rfl
    | some x=>simp only;rw [zw h];rfl
  subst hR'
  clear ih a
  subst hC2
  refine qx ?_
  rw [hx1]
  refine Ops.strTo rfl rfl (by rw [hlw];omega) ?_
  refine qx ?_
  rw [hx1]
  refine Ops.strFrom rfl rfl (by rw [hlw];omega) ?_
  rw [ht,hdr]
  refine Ga ?_
  refine Ops.yield rfl rfl e5 ?_
  refine qx ?_
  exact .inr ⟨n,rfl,j⟩
theorem ps_Parse (gv:Gv h) (hd:19<=d) (hs:TF s) :
  ∃ v h',cl d (.fn 11) [.str s] h=some (v,h')/\Old h h'/\((∃ XL sv,parR 0 (jae 10 s)=(0,XL.map SpX.sp)/\v = .tup [sv,.i 0,.i 0]/\jbF h' (h.nx <= ·) (h.nx <= ·) sv XL)\/(∃ k:Nat,parR 0 (jae 10 s)=(k+1,[])/\v = .tup [.nils,.i ((k+1:Nat):Int),.i 121])):=by
 have eL : ∀ G:H,cl (d-1) (.fn 36) [.str s] G=some (.clo 71 [.p G.nx 0],G.new (.cells [.str s] false)):=fun G=>by
  refine jam (aT hcl ?_)
  refine Run.seq (zac ?_)
  refine zcu (ob := .cells [.str s] false) (mk:=fun b=>.p b 0) rfl rfl ?_
  refine qx ?_
  exact ⟨rfl,rfl⟩
 have o1:Old h (((h.new (.cells [.nils] false)).new (.cells [.i 0] false)).new (.cells [.i 0] false)):=(zX h).new.new.new
 have g1:(((h.new (.cells [.nils] false)).new (.cells [.i 0] false)).new (.cells [.i 0] false)).get h.nx=some (.cells [.nils] false):=qgt
 have g2:(((h.new (.cells [.nils] false)).new (.cells [.i 0] false)).new (.cells [.i 0] false)).get (h.nx+1)=some (.cells [.i 0] false):=qgt
 have g3:(((h.new (.cells [.nils] false)).new (.cells [.i 0] false)).new (.cells [.i 0] false)).get (h.nx+2)=some (.cells [.i 0] false):=qgt
 have hn:(((h.new (.cells [.nils] false)).new (.cells [.i 0] false)).new (.cells [.i 0] false)).nx=h.nx+3:=rfl
 refine aT hcl ?_
 obtain ⟨C4,hC4⟩ : ∃ C,C=c11_4:=⟨_,rfl⟩
 simp only [c11,<- hC4,yB]
 refine Run.seq (zac ?_)
 refine zcu (ob := .cells [.nils] false) (mk:=fun b=>.p b 0) rfl rfl ?_
 refine zcu (ob := .cells [.i 0] false) (mk:=fun b=>.p b 0) rfl rfl ?_
 refine zcu (ob := .cells [.i 0] false) (mk:=fun b=>.p b 0) rfl rfl ?_
 rw [show ((h.new (.cells [.nils] false)).new (.cells [.i 0] false)).nx=h.nx+2 from rfl,show (h.new (.cells [.nils] false)).nx=h.nx+1 from rfl]
 generalize ((h.new (.cells [.nils] false)).new (.cells [.i 0] false)).new (.cells [.i 0] false)=G at o1 g1 g2 g3 hn ⊢
 refine qx ?_
 subst hC4
 have eG:=eL G
 have o2:Old G (G.new (.cells [.str s] false)):=(zX G).new
 have gc:=jac (h:=G) (.cells [.str s] false)
 have hn2:(G.new (.cells [.str s] false)).nx=G.nx+1:=rfl
 clear eL
 refine Gb ?_
 generalize G.new (.cells [.str s] false)=G2 at o2 gc hn2 ⊢
 refine Run.block ?_
 refine Run.rangeFunc_lo rfl qkp fun LO hLO=>?_
 have o3:Old G2 (G2.new (LO .ready none)):=(zX G2).new
 have px:PX h (G2.new (LO .ready none)) G.nx h.nx (h.nx+1) (h.nx+2) G2.nx:=⟨gv,(o1.trans o2).trans o3,by omega,by simp;omega,by omega,by simp;omega,by omega,by simp;omega,by omega,by simp;omega,by omega,by simp,by omega⟩
 have o23:=o2.trans o3
 have pi:PI (G2.new (LO .ready none)) G.nx h.nx (h.nx+1) (h.nx+2) G2.nx (LO .ready none) s 0 [] (G2.new (LO .ready none)) :=
  ⟨Ch.refl _ _,by rw [o3.2 _ om,gc],⟨.nils,by rw [o23.2 _ om,g1],Row.nil _ _ _⟩,by rw [o23.2 _ om,g2];rfl,by rw [o23.2 _ om,g3],jac _,fun y hy=>by cases hy⟩
 obtain ⟨v,g',ec,hor⟩:=ps_lines hcl (d:=d-1) om hLO px pi hs
 refine ⟨v,g',ec,?_⟩
 rcases hor with ⟨n,XL,hM,i⟩ | ⟨k,hM,ch,j1,j2,j3,jL⟩
 ·refine ⟨.normal,i.L_,?_⟩
  have hch:=i.ch.nx
  simp only [H.nx_new] at hch
  have ok:Old h (g'.kill G2.nx):=⟨(px.old0 i.ch).1,fun j hj=>by rw [jak om,(px.old0 i.ch).2 j hj]⟩
  obtain ⟨sv,i2,row⟩:=i.R2_
  have k2:(g'.kill G2.nx).get h.nx=some (.cells [sv] false):=by rw [jak om,i2]
  have k3:(g'.kill G2.nx).get (h.nx+1)=some (.cells [.i (n:Int)] false):=by rw [jak om,i.R3_]
  have k4:(g'.kill G2.nx).get (h.nx+2)=some (.cells [.i 0] false):=by rw [jak om,i.R4_]
  have hsv1:sv.one=true:=by rcases row with ⟨_,_,rfl⟩ | ⟨_,_,_,rfl,_⟩<;>rfl
  have hN : ∀ z,(G2.new (LO .ready none)).nx<=z->h.nx+3<=z/\z≠G2.nx:=fun z hz=>by simp only [H.nx_new] at hz;omega
  have hkk : ∀ z,z<g'.nx->(G2.new (LO .ready none)).nx<=z->(((g'.kill G2.nx).set h.nx (.cells [sv] false)).set (h.nx+1) (.cells [.i 0] false)).get z=g'.get z/\h.nx<=z:=fun z _ hz=>by
   have:=hN z hz
   exact ⟨by rw [jaa om,jaa om,jak this.2],by omega⟩
  have hkk2 : ∀ z,z<g'.nx->(G2.new (LO .ready none)).nx<=z->((((g'.kill G2.nx).set h.nx (.cells [sv] false)).set (h.nx+1) (.cells [.i 0] false)).set (h.nx+2) (.cells [.i 0] false)).get z=g'.get z/\h.nx<=z:=fun z h1 hz=>by
   have:=hN z hz
   exact ⟨by rw [jaa om];exact (hkk z h1 hz).1,by omega⟩
  have hA:jbF ((((g'.kill G2.nx).set h.nx (.cells [sv] false)).set (h.nx+1) (.cells [.i 0] false)).set (h.nx+2) (.cells [.i 0] false)) (h.nx <= ·) (h.nx <= ·) sv XL:=by
   refine jbF.keep (h:=g') (P:=fun z=>(G2.new (LO .ready none)).nx<=z) (Q:=fun z=>(G2.new (LO .ready none)).nx<=z) ⟨At4.of_row (fun _=>rfl) row,i.st⟩ Zd hkk2 hkk2
  clear hkk hkk2 row
  refine qx ?_
  refine zcs rfl rfl hsv1 k2 Zd ?_
  rw [show ([sv]:List V).set 0 sv=[sv] from rfl]
  refine zcs (l:=[.i (n:Int)]) rfl rfl rfl (by rw [jaa om,k3]) Zd ?_
  rw [show ([.i (n:Int)]:List V).set 0 (.i 0)=[.i 0] from rfl]
  refine zcs (l:=[.i 0]) rfl rfl rfl (by rw [jaa om,jaa om,k4]) Zd ?_
  rw [show ([.i 0]:List V).set 0 (.i 0)=[.i 0] from rfl]
  refine qx ?_
  exact fin3 (u:=sv) (v := .i 0) (w := .i 0) rfl rfl rfl (by rw [jaa om,jaa om];exact jab _) (by rw [jaa om];exact jab _) (jab _) ⟨((ok.set (zn _)).set om).set om,.inl ⟨XL,sv,hM,rfl,hA⟩⟩
 ·refine ⟨.ret,jL,?_⟩
  have hch:=ch.nx
  simp only [H.nx_new] at hch
  have ok:Old h (g'.kill G2.nx):=⟨(px.old0 ch).1,fun j hj=>by rw [jak om,(px.old0 ch).2 j hj]⟩
  refine qx ?_
  exact fin3 rfl rfl rfl (by rw [jak om,j1]) (by rw [jak om,j2]) (by rw [jak om,j3]) ⟨ok,.inr ⟨k,hM,rfl⟩⟩
end
theorem jdL (c:UInt8) : ∀ l,jae c (l++[c])=jae c l++[[]]
 | []=>by simp [jae]
 | x :: r=>by
  have ih:=jdL c r
  rw [zL,jae,jae,ih]
  by_cases hx:x=c
  ·rw [zw hx,zw hx];rfl
  ·rw [zt hx,zt hx]
   cases hs:jae c r with
   | nil=>exact zC hs (jcq c r)
   | cons w ws=>rfl
theorem jfw {c x:UInt8} (hx:x≠c) : ∀ l,∃ d w,jae c l=d++[w]/\jae c (l++[x])=d++[w++[x]]
 | []=>⟨[],[],rfl,by simp [jae,hx]⟩
 | y :: r=>by
  obtain ⟨d,w,e1,e2⟩:=jfw hx r
  rw [zL,jae,jae,e1,e2]
  by_cases hy:y=c
  ·rw [zw hy,zw hy];exact ⟨[] :: d,w,rfl,rfl⟩
  ·rw [zt hy,zt hy]
   cases d with
   | nil=>exact ⟨[],y :: w,rfl,rfl⟩
   | cons a d=>exact ⟨(y :: a) :: d,w,rfl,rfl⟩
section
variable {cl:Nat->Call} (hcl:Sem cl) {d:Nat} {h:H}
include hcl
theorem rq_words {s:List UInt8} (hd:1<=d) (hs:s.length<=12000) : ∃ v h',cl d (.fn 79) [.str s] h=some (v,h')/\Old h h'/\SR h.nx h' v (jae 32 s):=by
 suffices q : ∃ v h',cl d (.fn 79) [.str s] h=some (v,h')/\(Old h h'/\SR h.nx h' v (jae 32 s)) by exact q
 refine aT hcl ?_
 obtain ⟨C2,hC2⟩ : ∃ C,C=c79_2:=⟨_,rfl⟩
 simp only [c79,c79_3,<- hC2,yB]
 refine qx ?_
 refine zcu (ob := .cells [.str []] false) (mk:=fun b=>.slice (some (b,0)) 1 (.fix 1)) rfl rfl ?_
 have hg0:=jac (h:=h) (.cells [.str []] false)
 have old0:=(zX h).new (o := .cells [.str []] false)
 have hn0:(h.new (.cells [.str []] false)).nx=h.nx+1:=rfl
 generalize h.new (.cells [.str []] false)=G at hg0 old0 hn0 ⊢
 refine qx ?_
 refine zW (fun m e k=>∃ (i:Nat) (sv:V),m=s.length-i/\i<=s.length/\e=[(0,.str s),(3,sv),(4,.i (i:Int))]/\SR h.nx k sv (jae 32 (s.take i))/\Old h k)
  (k:=s.length) Ze ⟨0,.slice (some (h.nx,0)) 1 (.fix 1),by omega,by omega,rfl,⟨h.nx,.fix 1,zn _,by omega,rfl,.inr rfl,hg0⟩,old0⟩ ?_
 clear hg0 old0 hn0
 rintro _ _ k ⟨i,sv,rfl,hi,rfl,sr,old⟩ f ih
 rw [hC2] at ih ⊢
 clear hC2
 obtain ⟨C0,hC0⟩ : ∃ C,C=c79_0:=⟨_,rfl⟩
 simp only [c79_2,c79_1,<- hC0,yF,yJ] at ih ⊢
 have hlen:(jae 32 (s.take i)).length<=12001:=by
  rw [jaG];have:=jc7 32 (s.take i);have:=List.length_take_le i s;rw [List.length_take] at *;omega
 by_cases hlt:i<s.length
 case neg=>
  obtain rfl:i=s.length:=by omega
  rw [List.take_length] at sr
  clear ih
  refine qx ?_
  exact ⟨old,sr⟩
 obtain ⟨x,hx⟩ : ∃ x,s[i]?=some x:=⟨_,za hlt⟩
 have ht:s.take (i+1)=s.take i++[x]:=by rw [List.take_add_one,hx];rfl
 have hi1:(i:Int)+1=((i+1:Nat):Int):=by omega
 by_cases hc:x=32
 ·have hc1:((x.toNat:Nat):Int)=32:=by rw [hc];rfl
  have hL:jae 32 (s.take (i+1))=jae 32 (s.take i)++[[]]:=by rw [ht,hc,jdL]
  refine qx ?_
  refine zY rfl rfl hx ?_
  refine qx ?_
  refine Ops.strP rfl rfl old sr om fun v2 k2 sr2 old2 _ _=>?_
  refine qx ?_
  rw [hi1]
  rw [<- hL] at sr2
  exact ih (s.length-(i+1)) om _ _ ⟨i+1,v2,rfl,by omega,rfl,sr2,old2⟩
 ·have hc1 : ¬ ((x.toNat:Nat):Int)=32:=fun e=>hc (UInt8.toNat.inj (by have e2:(32:UInt8).toNat=32:=rfl;omega))
  obtain ⟨D,w,e1,e2⟩:=jfw hc (s.take i)
  rw [<- ht] at e2
  rw [e1] at hlen sr
  obtain ⟨q,cc,q1,q2,rfl,q3,q4⟩:=sr
  have hl1:(D++[w]).length=D.length+1:=by simp
  have hl2:((D.length+1:Nat):Int)-1=(D.length:Int):=by omega
  have hq:(strs (D++[w]))[0+(D.length:Int).toNat*1]?=some (.str w):=by simp
  have hw:w.length<=12000:=by
   have:w∈jae 32 (s.take i):=by rw [e1];simp
   have:=jbr this
   rw [List.length_take] at this
   omega
  have hm:(s.take (i+1)).drop i=[x]:=by
   rw [ht,List.drop_left' (by rw [List.length_take];omega)]
  have hset:(strs (D++[w])).set (0+(D.length:Int).toNat*1) (.str (w++[x]))=strs (D++[w++[x]]):=by simp
  rw [hl1] at q3 ⊢
  refine qx ?_
  refine zY rfl rfl hx ?_
  refine qx ?_
  rw [hC0] at ih ⊢
  clear hC0
  refine qx ?_
  rw [hl2]
  refine qx ?_
  rw [hi1]
  refine Ops.strMid rfl rfl rfl om om ?_
  rw [hm]
  refine qx ?_
  refine Ops.sadd rfl rfl Zc ?_
  refine qx ?_
  refine zcs rfl rfl rfl q4 Zd ?_
  rw [hset]
  refine qx ?_
  rw [hi1]
  exact ih (s.length-(i+1)) om _ _ ⟨i+1,.slice (some (q,0)) (D.length+1) cc,rfl,by omega,rfl,⟨q,cc,q1,by simpa using q2,by rw [e2,ze];rfl,by rw [e2];simpa using q3,by rw [e2];exact jab _⟩,old.set q1⟩
end
section
variable {cl:Nat->Call} (hcl:Sem cl) {d:Nat} {h:H}
include hcl
theorem ji3 {s:List UInt8} (hd:1<=d) (hs:s.length<=20000):cl d (.fn 80) [.str s] h=some (.int .u64 (valN s 0:Int),h):=by
 refine jam (aT hcl ?_)
 obtain ⟨C2,hC2⟩ : ∃ C,C=c80_3:=⟨_,rfl⟩
 simp only [c80,c80_4,<- hC2,yB]
 generalize hR:valN s 0=R
 refine qx ?_
 refine zW (fun m e k=>∃ (i n:Nat),m=s.length-i/\i<=s.length/\n<=18446744073709551615/\e=[(0,.str s),(3,.int .u64 (n:Int)),(4,.i (i:Int))]/\k=h/\valN (s.drop i) n=R)
  (k:=s.length) Ze ⟨0,0,by omega,by omega,by omega,rfl,rfl,hR⟩ ?_
 clear hR
 rintro _ _ k ⟨i,n,rfl,hi,hn,rfl,rfl,hR⟩ f ih
 rw [hC2] at ih ⊢
 clear hC2
 obtain ⟨C1,hC1⟩ : ∃ C,C=c80_1:=⟨_,rfl⟩
 simp only [c80_3,c80_2,<- hC1,uF,yF] at ih ⊢
 by_cases hlt:i<s.length
 case neg=>
  obtain rfl:i=s.length:=by omega
  rw [List.drop_length,valN] at hR
  subst hR
  clear ih
  refine qx ?_
  exact ⟨rfl,rfl⟩
 obtain ⟨c,hcs⟩ : ∃ c,s[i]?=some c:=⟨_,za hlt⟩
 have hdr:s.drop i=c :: s.drop (i+1):=by
  rw [List.drop_eq_getElem_cons hlt]
  congr 1
  rw [za hlt] at hcs
  exact Option.some.inj hcs
 have hi1:(i:Int)+1=((i+1:Nat):Int):=by omega
 have hc8:=c.toNat_lt
 rw [hdr,valN] at hR
 by_cases h1:c.toNat<48
 ·have h1':((c.toNat:Nat):Int)<48:=by omega
  rw [zw (.inl h1)] at hR
  subst hR
  clear ih
  refine qx ?_
  refine zY rfl rfl hcs ?_
  refine qx ?_
  exact ⟨rfl,rfl⟩
 have h1' : ¬ ((c.toNat:Nat):Int)<48:=by omega
 by_cases h2:57<c.toNat
 ·have h2':((c.toNat:Nat):Int)>57:=by omega
  rw [zw (.inr (.inl h2))] at hR
  subst hR
  clear ih
  refine qx ?_
  refine zY rfl rfl hcs ?_
  refine qx ?_
  refine zY rfl rfl hcs ?_
  refine qx ?_
  exact ⟨rfl,rfl⟩
 have h2' : ¬ ((c.toNat:Nat):Int)>57:=by omega
 by_cases h3:n>1844674407370955161
 ·have h3':((n:Nat):Int)>1844674407370955161:=by omega
  rw [zw (.inr (.inr h3))] at hR
  subst hR
  clear ih
  refine qx ?_
  refine zY rfl rfl hcs ?_
  refine qx ?_
  refine zY rfl rfl hcs ?_
  refine qx ?_
  exact ⟨rfl,rfl⟩
 have h3' : ¬ ((n:Nat):Int)>1844674407370955161:=by omega
 rw [zt om] at hR
 have w1:IntKind.u8.wrap ((c.toNat:Int)-48)=((c.toNat-48:Nat):Int):=by rw [IntKind.wrap_u8];omega
 have w2:IntKind.u64.wrap ((c.toNat-48:Nat):Int)=((c.toNat-48:Nat):Int):=by rw [IntKind.wrap_u64];omega
 have w3:IntKind.u64.wrap (10*(n:Int))=((10*n:Nat):Int):=by rw [IntKind.wrap_u64];omega
 have K : ¬ (n=1844674407370955161/\c.toNat-48>5)->((10*n:Nat):Int)+((c.toNat-48:Nat):Int)=((10*n+(c.toNat-48):Nat):Int)/\10*n+(c.toNat-48)<=18446744073709551615:=fun h=>by omega
 obtain ⟨C0,hC0⟩ : ∃ C,C=c80_0:=⟨_,rfl⟩
 rw [hC1] at ih ⊢
 clear hC1
 simp only [c80_1,<- hC0,uF] at ih ⊢
 refine qx ?_
 refine zY rfl rfl hcs ?_
 refine qx ?_
 refine zY rfl rfl hcs ?_
 refine qx ?_
 refine zY rfl rfl hcs ?_
 refine qx ?_
 rw [w1,w2]
 rw [hC0] at ih ⊢
 clear hC0 w1 w2 hdr
 by_cases h4:n=1844674407370955161
 ·have h4':((n:Nat):Int)=1844674407370955161:=by omega
  by_cases h5:c.toNat-48>5
  ·have h5':((c.toNat-48:Nat):Int)>5:=by omega
   rw [zw ⟨h4,h5⟩] at hR
   subst hR
   clear ih
   refine qx ?_
   exact ⟨rfl,rfl⟩
  ·have h5' : ¬ ((c.toNat-48:Nat):Int)>5:=by omega
   rw [zt (fun e=>h5 e.2)] at hR
   obtain ⟨w4,hle⟩:=K fun e=>h5 e.2
   refine qx ?_
   rw [w3,w4,hi1]
   exact ih (s.length-(i+1)) om _ _ ⟨i+1,_,rfl,by omega,hle,rfl,rfl,hR⟩
 ·have h4' : ¬ ((n:Nat):Int)=1844674407370955161:=by omega
  rw [zt (fun e=>h4 e.1)] at hR
  obtain ⟨w4,hle⟩:=K fun e=>h4 e.1
  refine qx ?_
  rw [w3,w4,hi1]
  exact ih (s.length-(i+1)) om _ _ ⟨i+1,_,rfl,by omega,hle,rfl,rfl,hR⟩
theorem jfP {s:List UInt8} (hd:2<=d) (hs:s.length<=20000):cl d (.fn 81) [.str s] h=some (.i (ja1 s),h):=by
 have e1:=ji3 hcl (d:=d-1) (h:=h) om hs
 have hle:=jhI s 0 om
 refine jam (aT hcl ?_)
 unfold ja1
 by_cases h1:valN s 0>9223372036854775807
 ·have h1':((valN s 0:Nat):Int)>9223372036854775807:=by omega
  rw [zw h1]
  refine qx ?_
  exact ⟨rfl,rfl⟩
 ·have h1' : ¬ ((valN s 0:Nat):Int)>9223372036854775807:=by omega
  rw [zt h1]
  have w:IntKind.i64.wrap ((valN s 0:Nat):Int)=((valN s 0:Nat):Int):=by rw [IntKind.wrap_i64];omega
  refine qx ?_
  exact ⟨by rw [w],rfl⟩
theorem jgU {c:UInt8} (hd:1<=d):cl d (.fn 109) [.int .u8 (c.toNat:Int)] h=some (.int .u8 (nibV c:Int),h):=by
 have hc8:=c.toNat_lt
 refine jam (aT hcl ?_)
 unfold nibV
 by_cases h1:48<=c.toNat
 ·have h1':((c.toNat:Nat):Int)>=48:=by omega
  by_cases h2:c.toNat<=57
  ·have h2':((c.toNat:Nat):Int)<=57:=by omega
   rw [zw ⟨h1,h2⟩]
   have w:IntKind.u8.wrap ((c.toNat:Int)-48)=((c.toNat-48:Nat):Int):=by rw [IntKind.wrap_u8];omega
   refine qx ?_
   exact ⟨by rw [w],rfl⟩
  ·have h2' : ¬ ((c.toNat:Nat):Int)<=57:=by omega
   rw [zt om]
   by_cases h3:97<=c.toNat
   ·have h3':((c.toNat:Nat):Int)>=97:=by omega
    by_cases h4:c.toNat<=102
    ·have h4':((c.toNat:Nat):Int)<=102:=by omega
     rw [zw ⟨h3,h4⟩]
     have w:IntKind.u8.wrap (IntKind.u8.wrap ((c.toNat:Int)-97)+10)=((c.toNat-87:Nat):Int):=by rw [IntKind.wrap_u8,IntKind.wrap_u8];omega
     refine qx ?_
     exact ⟨by rw [w],rfl⟩
    ·have h4' : ¬ ((c.toNat:Nat):Int)<=102:=by omega
     rw [zt om]
     refine qx ?_
     exact ⟨rfl,rfl⟩
   ·have h3' : ¬ ((c.toNat:Nat):Int)>=97:=by omega
    rw [zt om]
    refine qx ?_
    exact ⟨rfl,rfl⟩
 ·have h1' : ¬ ((c.toNat:Nat):Int)>=48:=by omega
  have h3' : ¬ ((c.toNat:Nat):Int)>=97:=by omega
  rw [zt om,zt om]
  refine qx ?_
  exact ⟨rfl,rfl⟩
end
def MdP (h:H) (r:List (List UInt8)) (v:V) (h':H):Prop :=
 ∃ xs k,v = .tup [.agg xs,.i k]/\Old h h'/\xs.length=4/\xs.all V.one=true /\
  (mdR r=none->k=0) /\ ∀ m t,mdR r=some (m,t)->k=((r.length-t.length:Nat):Int) /\ ∃ dv,xs=mvV m dv/\VB h' dv m.D /\ ∀ z,dv.at?=some z->h.nx<=z
structure MW (h:H) (q R B:Nat) (ws:List (List UInt8)) (m:List V) (g:H):Prop where
 o:Old h g
 q2:q<h.nx
 hq:h.get q=some (.cells (strs ws) false)
 r1:h.nx<=R
 r2:R<g.nx
 b1:h.nx<=B
 b2:B<g.nx
 ne:R≠B
 R_:g.get R=some (.cells [.i 0,.i 0,.i 0,.nils] false)
 B_:g.get B=some (.cells m false)
section
variable {h g g':H} {q R B:Nat} {ws:List (List UInt8)} {m m':List V}
theorem MW.q_ (a:MW h q R B ws m g):g.get q=some (.cells (strs ws) false):=by rw [a.o.2 _ a.q2,a.hq]
theorem MW.keep (a:MW h q R B ws m g) (o:Old g g'):MW h q R B ws m g' :=
 ⟨a.o.trans o,a.q2,a.hq,a.r1,zo a.r2 o.1,a.b1,zo a.b2 o.1,a.ne,by rw [o.2 _ a.r2,a.R_],by rw [o.2 _ a.b2,a.B_]⟩
theorem MW.set (a:MW h q R B ws m g):MW h q R B ws m' (g.set B (.cells m' false)) :=
 ⟨a.o.set a.b1,a.q2,a.hq,a.r1,a.r2,a.b1,a.b2,a.ne,by rw [jaa a.ne,a.R_],jab _⟩
end
theorem jdS {call:Call} {fuel:Nat} {h:H} {X:Nat} {xs:List V} {v:V} {ro:Bool} {R:V->H->Prop} {sb:Env} (hX:h.get X=some (.cells xs ro)) (hl:xs.length=4) (k:R (.tup [.agg xs,v]) h) :
  End call fuel [] .ret ((2,.p X 0) :: (3,v) :: sb) h (Fin [.cellN 2 4,.tmp 3] R):=by
 refine End.fin2 (a := .agg xs) (b:=v) (l:=[]) ?_ k
 have h1:h.load X 0 4=some xs:=by rw [jby hX om,zi,zf om]
 have h2:Env.get ((2,V.p X 0) :: (3,v) :: sb) 2=some (.p X 0):=rfl
 have h3:Env.get ((2,V.p X 0) :: (3,v) :: sb) 3=some v:=rfl
 simp only [jcb,h1,h2,h3]
theorem jcR {ws r:List (List UInt8)} {o n:Nat} {a:List UInt8} (hw:ws.drop o=r) (ha:r[n]?=some a):(strs ws)[o+(n:Int).toNat*1]?=some (.str a):=by
 rw [Nat.mul_one,zq,List.getElem?_map,<- zk,hw,ha];rfl
theorem nibS_drop {w:List UInt8} {i:Nat} {a b:UInt8} (ha:w[i]?=some a) (hb:w[i+1]?=some b):w.drop i=a :: b :: w.drop (i+2):=by
 obtain ⟨h1,e1⟩:=List.getElem?_eq_some_iff.1 ha
 obtain ⟨h2,e2⟩:=List.getElem?_eq_some_iff.1 hb
 rw [List.drop_eq_getElem_cons h1,List.drop_eq_getElem_cons h2,e1,e2]
def opN (w:List UInt8):Nat->Int
 | 0=>0
 | k+1=>if w=jax ((k+1:Nat):Int) then ((k+1:Nat):Int) else opN w k
theorem opN_7 (w:List UInt8):opN w 7=opW w:=rfl
section
variable {cl:Nat->Call} (hcl:Sem cl) {d:Nat} {h g:H} {q o R B n:Nat} {c:Cap} {ws r:List (List UInt8)} {op wire nn:Int} {sb:Env}
include hcl
theorem md_E (hd:3<=d) (a:MW h q R B ws [.i op,.i wire,.i nn,.nils] g) (hw:ws.drop o=r) (hl : ∀ a∈ws,a.length<=20000) (hr:r.length<=20000) (hn:n<=r.length)
  (hp:mdR r=some (⟨op,wire,nn,(mdD op (r.drop n)).1⟩,(mdD op (r.drop n)).2)) :
  Run (cl d) fuel c82_7 [] ((0,.slice (some (q,o)) r.length c) :: (2,.p R 0) :: (4,.p B 0) :: (6,.i (n:Int)) :: sb) g (Fin c82.res fun v h'=>MdP h r v h'):=by
 have gq:=a.q_
 have gB:=a.B_
 have gR:=a.R_
 have ne:=a.ne
 have x1:=a.r1
 have x2:=a.b1
 have F : ∀ (g':H) (dv:V) (k:Nat) (D:List UInt8) (t:List (List UInt8)),Old h g'->mdD op (r.drop n)=(D,t)->k=r.length-t.length->VB (g'.set R (.cells [.i op,.i wire,.i nn,dv] false)) dv D->dv.one=true->(∀ z,dv.at?=some z->h.nx<=z)->MdP h r (.tup [.agg [.i op,.i wire,.i nn,dv],.i (k:Int)]) (g'.set R (.cells [.i op,.i wire,.i nn,dv] false)):=by
  intro g' dv k D t o hD hk hv h1 hz
  refine ⟨_,_,rfl,o.set x1,rfl,by simp only [List.all_cons,List.all_nil,h1];rfl,fun e=>(by rw [hp] at e;cases e),fun m' t' e=>?_⟩
  rw [hp,hD] at e
  cases e
  exact ⟨by rw [hk],dv,rfl,hv,hz⟩
 have hv0 : ∀ g':H,VB g' .nils []:=fun g'=>⟨none,.fix 0,rfl,fun _=>⟨rfl,rfl⟩,zO _,fun e=>zC rfl e⟩
 have hlen:(r.drop n).length=r.length-n:=List.length_drop
 by_cases h1:op=1
 case neg=>
  have F1:=F g .nils n [] (r.drop n) a.o (by unfold mdD;rw [zt h1]) om (hv0 _) rfl (fun z e=>by cases e)
  clear F hp a
  simp only [c82_7,c82_5,yB]
  refine qx ?_
  refine zcw rfl gB Zd ?_
  refine qx ?_
  refine zct (vs:=[.i op,.i wire,.i nn,.nils]) rfl rfl rfl rfl gR Zd ?_
  rw [show jal ([.i 0,.i 0,.i 0,.nils]:List V) 0 [.i op,.i wire,.i nn,.nils]=[.i op,.i wire,.i nn,.nils] from rfl]
  refine qx ?_
  exact jdS (jab _) rfl F1
 by_cases h2:n<r.length
 case neg=>
  have F1:=F g .nils n [] [] a.o (by unfold mdD;rw [zw h1,List.drop_eq_nil_of_le om]) Zc (hv0 _) rfl (fun z e=>by cases e)
  clear F hp a
  simp only [c82_7,c82_5,yB]
  refine qx ?_
  refine zcw rfl gB Zd ?_
  refine qx ?_
  refine zct (vs:=[.i op,.i wire,.i nn,.nils]) rfl rfl rfl rfl gR Zd ?_
  rw [show jal ([.i 0,.i 0,.i 0,.nils]:List V) 0 [.i op,.i wire,.i nn,.nils]=[.i op,.i wire,.i nn,.nils] from rfl]
  refine qx ?_
  exact jdS (jab _) rfl F1
 obtain ⟨w,hwn⟩ : ∃ w,r[n]?=some w:=⟨_,za h2⟩
 have hdn:r.drop n=w :: r.drop (n+1):=by
  obtain ⟨k1,k2⟩:=List.getElem?_eq_some_iff.1 hwn
  rw [List.drop_eq_getElem_cons k1,k2]
 have hwa:=jcR hw hwn
 have hlw:w.length<=20000:=hl w (by rw [<- hw] at hwn;exact List.mem_of_mem_drop (zb hwn))
 have F1:=fun g' dv o=>F g' dv (n+1) (nibS w) (r.drop (n+1)) o (by unfold mdD;rw [zw h1,hdn]) (by rw [List.length_drop];omega)
 have hn1:(n:Int)+1=((n+1:Nat):Int):=by omega
 clear F hp hv0
 obtain ⟨C4,hC4⟩ : ∃ C,C=c82_3:=⟨_,rfl⟩
 simp only [c82_7,c82_5,c82_4,<- hC4,yB,yF]
 refine qx ?_
 refine zW (fun j e k=>∃ (i:Nat) (dv:V) (out:List UInt8),j=w.length-i/\i<=w.length/\out.length<=i/\e=[(0,.slice (some (q,o)) r.length c),(2,.p R 0),(4,.p B 0),(6,.i (n:Int)),(9,.i (i:Int))]/\MW h q R B ws [.i op,.i wire,.i nn,dv] k/\Row g.nx k 1 dv out.length (bts out)/\g.nx<=k.nx/\out++nibS (w.drop i)=nibS w)
  (k:=w.length) Ze ⟨0,.nils,[],by omega,by omega,zn _,rfl,a,Row.nil _ _ _,zn _,rfl⟩ ?_
 have y1:=a.r2
 have y2:=a.b2
 clear a gq gB gR
 rintro _ _ k ⟨i,dv,out,rfl,hi,hout,rfl,a,row,hx,hnib⟩ f ih
 have gq:=a.q_
 have gB:=a.B_
 have gR:=a.R_
 have hone:dv.one=true:=by
  rcases row with ⟨_,_,rfl⟩ | ⟨_,_,_,rfl,_⟩<;>rfl
 have hi1:(i:Int)+1=((i+1:Nat):Int):=by omega
 have hi2:(i:Int)+2=((i+2:Nat):Int):=by omega
 by_cases hlt:i+1<w.length
 case neg=>
  have hlt' : ¬ (i:Int)+1<((w.length:Nat):Int):=by omega
  have hend:nibS (w.drop i)=[]:=by
   have:(w.drop i).length<=1:=by rw [List.length_drop];omega
   match w.drop i,this with
   | [],_=>rfl
   | [_],_=>rfl
  rw [hend,List.append_nil] at hnib
  subst hnib
  have row2:Row g.nx (k.set R (.cells [.i op,.i wire,.i nn,dv] false)) 1 dv (nibS w).length (bts (nibS w)):=row.keep Zd fun z hz=>jaa fun e=>by have:=(row.at_ge hz).1;omega
  have F2:=F1 k dv a.o (VB.ofRow row2).1 hone fun z hz=>by have:=((VB.ofRow row2).2 z hz).1;have:=a.o.1;omega
  have hall:([.i op,.i wire,.i nn,dv]:List V).all V.one=true:=by simp only [List.all_cons,List.all_nil,hone];rfl
  clear ih F1 a
  refine qx ?_
  refine zcw rfl gB Zd ?_
  refine qx ?_
  refine zct (vs:=[.i op,.i wire,.i nn,dv]) rfl rfl rfl hall gR Zd ?_
  rw [show jal ([.i 0,.i 0,.i 0,.nils]:List V) 0 [.i op,.i wire,.i nn,dv]=[.i op,.i wire,.i nn,dv] from rfl]
  refine qx ?_
  rw [hn1]
  exact jdS (jab _) rfl F2
 have hlt':(i:Int)+1<((w.length:Nat):Int):=by omega
 obtain ⟨x,hx1⟩ : ∃ x,w[i]?=some x:=⟨_,za om⟩
 obtain ⟨y,hy1⟩ : ∃ y,w[i+1]?=some y:=⟨_,za om⟩
 have hdr:=nibS_drop hx1 hy1
 rw [hdr,nibS] at hnib
 have ex:=jgU hcl (d:=d) (h:=k) (c:=x) om
 have ey:=jgU hcl (d:=d) (h:=k) (c:=y) om
 generalize nibV x=nx at ex hnib
 generalize nibV y=ny at ey hnib
 obtain ⟨C1,hC1⟩ : ∃ C,C=c82_1:=⟨_,rfl⟩
 obtain ⟨C0,hC0⟩ : ∃ C,C=c82_0:=⟨_,rfl⟩
 rw [hC4] at ih ⊢
 simp only [c82_3,c82_2,<- hC1,yF] at ih ⊢
 clear hC4 hdr F1
 refine qx ?_
 refine zY rfl rfl hx1 ?_
 refine qx ?_
 rw [hi1]
 refine zY rfl rfl hy1 ?_
 refine qx ?_
 rw [hC1] at ih ⊢
 simp only [c82_1,<- hC0,yH] at ih ⊢
 clear hC1
 have N1 : ¬ (nx<16/\ny<16)->out++nibS (w.drop (i+2))=nibS w:=fun e=>by rw [zt e] at hnib;exact hnib
 by_cases hnx:nx<16
 case neg=>
  have hnx' : ¬ (nx:Int)<16:=by omega
  have A8:=ih (w.length-(i+2)) om _ k ⟨i+2,dv,out,rfl,by omega,by omega,rfl,a,row,hx,N1 fun e=>hnx e.1⟩
  clear ih a
  refine qx ?_
  rw [hi2]
  rw [hC0] at A8 ⊢
  exact A8
 have hnx':(nx:Int)<16:=by omega
 by_cases hny:ny<16
 case neg=>
  have hny' : ¬ (ny:Int)<16:=by omega
  have A8:=ih (w.length-(i+2)) om _ k ⟨i+2,dv,out,rfl,by omega,by omega,rfl,a,row,hx,N1 fun e=>hny e.2⟩
  clear ih a
  refine qx ?_
  rw [hi2]
  rw [hC0] at A8 ⊢
  exact A8
 have hny':(ny:Int)<16:=by omega
 clear N1
 rw [zw ⟨hnx,hny⟩] at hnib
 have q3:([.i op,.i wire,.i nn,dv]:List V)[0+3]?=some dv:=rfl
 rw [hC0] at ih ⊢
 clear hC0
 have w1:IntKind.u8.wrap (16*(nx:Int))=((16*nx:Nat):Int):=by rw [IntKind.wrap_u8];omega
 have w2:((16*nx:Nat):Int)+(ny:Int)=((UInt8.ofNat (16*nx+ny)).toNat:Int):=by simp;omega
 have w3:IntKind.u8.wrap ((UInt8.ofNat (16*nx+ny)).toNat:Int)=((UInt8.ofNat (16*nx+ny)).toNat:Int):=by have:=(UInt8.ofNat (16*nx+ny)).toNat_lt;rw [IntKind.wrap_u8];omega
 refine qx ?_
 rw [w1,w2,w3]
 refine Ops.push (N:=g.nx) (new:=[.int .u8 ((UInt8.ofNat (16*nx+ny)).toNat:Int)]) rfl rfl rfl rfl om rfl rfl row hx om om fun v2 g2 row' hx' hz' hk'=>?_
 have hb:bts out++[V.int .u8 ((UInt8.ofNat (16*nx+ny)).toNat:Int)]=bts (out++[UInt8.ofNat (16*nx+ny)]):=by simp [bts,jbw]
 rw [hb] at row'
 have hlo:(out++[UInt8.ofNat (16*nx+ny)]).length=out.length+1:=by simp
 have hk2 : ∀ j,j<g.nx->g2.get j=k.get j:=fun j hj=>hk' j om fun e=>by have:=(row.at_ge e).1;omega
 have a2:MW h q R B ws [.i op,.i wire,.i nn,dv] g2:=⟨a.o.trans' hx' fun j hj=>hk2 j (by have:=a.q2;omega),a.q2,a.hq,a.r1,by omega,a.b1,by omega,a.ne,by rw [hk2 _ y1,gR],by rw [hk2 _ y2,gB]⟩
 have a3:MW h q R B ws [.i op,.i wire,.i nn,v2] (g2.set B (.cells [.i op,.i wire,.i nn,v2] false)):=a2.set
 have hv1:v2.one=true:=by rcases row' with ⟨e,_⟩ | ⟨_,_,_,rfl,_⟩<;>first | rfl | (omega)
 have gB2:=a2.B_
 refine qx ?_
 refine zcs rfl rfl hv1 gB2 Zd ?_
 rw [show ([.i op,.i wire,.i nn,dv]:List V).set (0+3) v2=[.i op,.i wire,.i nn,v2] from rfl]
 refine qx ?_
 rw [hi2]
 exact ih (w.length-(i+2)) om _ _ ⟨i+2,v2,out++[UInt8.ofNat (16*nx+ny)],rfl,by omega,by omega,rfl,a3,by rw [hlo];exact row'.keep Zd fun z hz=>jaa fun e=>by have:=(row'.at_ge hz).1;omega,by simpa using zu hx hx',by rw [List.append_assoc];exact hnib⟩
theorem md_N (hd:4<=d) (a:MW h q R B ws [.i op,.i wire,.i 0,.nils] g) (hw:ws.drop o=r) (hl : ∀ a∈ws,a.length<=20000) (hr:r.length<=20000) (hn:n<=r.length)
  (hp:mdR r=some (⟨op,wire,(mdN op (r.drop n)).1,(mdD op (mdN op (r.drop n)).2).1⟩,(mdD op (mdN op (r.drop n)).2).2)) :
  Run (cl d) fuel c82_8 [] ((0,.slice (some (q,o)) r.length c) :: (2,.p R 0) :: (4,.p B 0) :: (6,.i (n:Int)) :: (8,.bool (decide (op=2\/op=6\/op=7))) :: sb) g (Fin c82.res fun v h'=>MdP h r v h'):=by
 obtain ⟨C7,hC7⟩ : ∃ C,C=c82_7:=⟨_,rfl⟩
 have gq:=a.q_
 have gB:=a.B_
 have N:mdN op (r.drop n)=(0,r.drop n) -> ∀ sb,Run (cl d) fuel C7 [] ((0,.slice (some (q,o)) r.length c) :: (2,.p R 0) :: (4,.p B 0) :: (6,.i (n:Int)) :: sb) g (Fin c82.res fun v h'=>MdP h r v h'):=fun e sb=>by
  rw [e] at hp
  rw [hC7]
  exact md_E hcl om a hw hl hr hn hp
 by_cases h1:op=2\/op=6\/op=7
 case neg=>
  have N:=N (by unfold mdN;rw [zt h1])
  rw [zx h1]
  clear a hp
  simp only [c82_8,<- hC7,yC]
  refine qx ?_
  exact N _
 rw [zA h1]
 by_cases h2:n<r.length
 case neg=>
  have N:=N (by unfold mdN;rw [zw h1,List.drop_eq_nil_of_le om])
  clear a hp
  simp only [c82_8,<- hC7,yC]
  refine qx ?_
  exact N _
 obtain ⟨w,hwn⟩ : ∃ w,r[n]?=some w:=⟨_,za h2⟩
 have hdn:r.drop n=w :: r.drop (n+1):=by
  obtain ⟨k1,k2⟩:=List.getElem?_eq_some_iff.1 hwn
  rw [List.drop_eq_getElem_cons k1,k2]
 have hwa:=jcR hw hwn
 have hlw:w.length<=20000:=hl w (by rw [<- hw] at hwn;exact List.mem_of_mem_drop (zb hwn))
 have es:=jfP hcl (d:=d) (h:=g) om hlw
 have hn1:(n:Int)+1=((n+1:Nat):Int):=by omega
 have hN:mdN op (r.drop n)=(ja1 w,r.drop (n+1)):=by unfold mdN;rw [zw h1,hdn]
 rw [hN] at hp
 have T:=fun sb=>md_E hcl (d:=d) (sb:=sb) (c:=c) (n:=n+1) (nn:=ja1 w) om (a.set (m':=[.i op,.i wire,.i (ja1 w),.nils])) hw hl hr om hp
 rw [<- hC7] at T
 clear a hp N hN
 simp only [c82_8,c82_6,<- hC7,yA,yC]
 refine Ga ?_
 rw [hn1]
 exact T _
theorem md_W (hd:4<=d) (a:MW h q R B ws [.i op,.i 0,.i 0,.nils] g) (hw:ws.drop o=r) (hl : ∀ a∈ws,a.length<=20000) (hr:r.length<=20000) (hn:n<=r.length)
  (hp:mdR r=some (⟨op,(mdW op (r.drop n)).1,(mdN op (mdW op (r.drop n)).2).1,(mdD op (mdN op (mdW op (r.drop n)).2).2).1⟩,(mdD op (mdN op (mdW op (r.drop n)).2).2).2)) :
  Run (cl d) fuel c82_10 [] ((0,.slice (some (q,o)) r.length c) :: (2,.p R 0) :: (4,.p B 0) :: (6,.i (n:Int)) :: (7,.bool (decide (1<=op/\op<=6))) :: sb) g (Fin c82.res fun v h'=>MdP h r v h'):=by
 obtain ⟨C8,hC8⟩ : ∃ C,C=c82_8:=⟨_,rfl⟩
 have gq:=a.q_
 have gB:=a.B_
 have q0:([.i op,.i 0,.i 0,.nils]:List V)[0+0]?=some (.i op):=rfl
 have en:=fun g=>jeC hcl (d:=d) (h:=g) (op:=op) om
 have N:mdW op (r.drop n)=(0,r.drop n) -> ∀ sb,Run (cl d) fuel C8 [] ((0,.slice (some (q,o)) r.length c) :: (2,.p R 0) :: (4,.p B 0) :: (6,.i (n:Int)) :: (8,.bool (decide (op=2\/op=6\/op=7))) :: sb) g (Fin c82.res fun v h'=>MdP h r v h'):=fun e sb=>by
  rw [e] at hp
  rw [hC8]
  exact md_N hcl om a hw hl hr hn hp
 by_cases h1:1<=op/\op<=6
 case neg=>
  have N:=N (by unfold mdW;rw [zt h1])
  rw [zx h1]
  have en:=en g
  clear a hp
  simp only [c82_10,<- hC8,yC]
  refine qx ?_
  exact N _
 rw [zA h1]
 by_cases h2:n<r.length
 case neg=>
  have N:=N (by unfold mdW;rw [zw h1,List.drop_eq_nil_of_le om])
  have en:=en g
  clear a hp
  simp only [c82_10,<- hC8,yC]
  refine qx ?_
  exact N _
 obtain ⟨w,hwn⟩ : ∃ w,r[n]?=some w:=⟨_,za h2⟩
 have hdn:r.drop n=w :: r.drop (n+1):=by
  obtain ⟨k1,k2⟩:=List.getElem?_eq_some_iff.1 hwn
  rw [List.drop_eq_getElem_cons k1,k2]
 have hwa:=jcR hw hwn
 have hlw:w.length<=20000:=hl w (by rw [<- hw] at hwn;exact List.mem_of_mem_drop (zb hwn))
 have es:=jfP hcl (d:=d) (h:=g) om hlw
 have hn1:(n:Int)+1=((n+1:Nat):Int):=by omega
 have hN:mdW op (r.drop n)=(ja1 w,r.drop (n+1)):=by unfold mdW;rw [zw h1,hdn]
 rw [hN] at hp
 have T:=fun sb=>md_N hcl (d:=d) (sb:=sb) (c:=c) (n:=n+1) (wire:=ja1 w) om (a.set (m':=[.i op,.i (ja1 w),.i 0,.nils])) hw hl hr om hp
 rw [<- hC8] at T
 have gB2:(g.set B (.cells [.i op,.i (ja1 w),.i 0,.nils] false)).get B=some (.cells [.i op,.i (ja1 w),.i 0,.nils] false):=jab _
 have q2:([.i op,.i (ja1 w),.i 0,.nils]:List V)[0+0]?=some (.i op):=rfl
 have en:=en (g.set B (.cells [.i op,.i (ja1 w),.i 0,.nils] false))
 clear a hp N hN
 simp only [c82_10,c82_9,<- hC8,yA,yC]
 refine Ga ?_
 rw [hn1]
 exact T _
theorem rq_move (hd:5<=d) (hq:h.get q=some (.cells (strs ws) false)) (hq2:q<h.nx) (hw:ws.drop o=r) (hl : ∀ a∈ws,a.length<=20000) (hr:r.length<=20000) (hr0:r≠[]) :
  ∃ v h',cl d (.fn 82) [.slice (some (q,o)) r.length c] h=some (v,h')/\MdP h r v h':=by
 obtain ⟨w,rt,hrw⟩ : ∃ w rt,r=w :: rt:=by
  cases r with
  | nil=>exact zC rfl hr0
  | cons w rt=>exact ⟨w,rt,rfl⟩
 have hwa:=jcR (n:=0) hw (by rw [hrw];rfl:r[0]?=some w)
 have hwa:(strs ws)[o+(0:Int).toNat*1]?=some (.str w):=hwa
 have hln:0<r.length:=List.length_pos_iff.2 hr0
 have a0:MW h q h.nx (h.nx+1) ws [.i 0,.i 0,.i 0,.nils] ((h.new (.cells [.i 0,.i 0,.i 0,.nils] false)).new (.cells [.i 0,.i 0,.i 0,.nils] false)) :=
  ⟨(zX h).new.new,hq2,hq,zn _,by simp;omega,by omega,by simp,by omega,qgt,qgt⟩
 refine aT hcl ?_
 obtain ⟨C13,hC13⟩ : ∃ C,C=c82_13:=⟨_,rfl⟩
 obtain ⟨C12,hC12⟩ : ∃ C,C=c82_12:=⟨_,rfl⟩
 simp only [c82,c82_14,<- hC13,<- hC12,yB,yN]
 refine Run.seq (zac ?_)
 refine zcu (ob := .cells [.i 0,.i 0,.i 0,.nils] false) (mk:=fun b=>.p b 0) rfl rfl ?_
 refine qx ?_
 refine zcu (ob := .cells [.i 0,.i 0,.i 0,.nils] false) (mk:=fun b=>.p b 0) rfl rfl ?_
 rw [show (h.new (.cells [.i 0,.i 0,.i 0,.nils] false)).nx=h.nx+1 from rfl]
 generalize (h.new (.cells [.i 0,.i 0,.i 0,.nils] false)).new (.cells [.i 0,.i 0,.i 0,.nils] false)=G at a0 ⊢
 refine zct (vs:=[.i 0,.i 0,.i 0,.nils]) rfl rfl rfl rfl a0.B_ Zd ?_
 rw [show jal ([.i 0,.i 0,.i 0,.nils]:List V) 0 [.i 0,.i 0,.i 0,.nils]=[.i 0,.i 0,.i 0,.nils] from rfl]
 have a1:MW h q h.nx (h.nx+1) ws [.i (opN w 0),.i 0,.i 0,.nils] (G.set (h.nx+1) (.cells [.i 0,.i 0,.i 0,.nils] false)):=a0.set
 generalize G.set (h.nx+1) (.cells [.i 0,.i 0,.i 0,.nils] false)=G2 at a1 ⊢
 clear a0
 refine qx ?_
 refine zW (fun j e k=>∃ n:Nat,j=7-n/\n<=7/\e=[(0,.slice (some (q,o)) r.length c),(2,.p h.nx 0),(4,.p (h.nx+1) 0),(5,.i ((n+1:Nat):Int))]/\MW h q h.nx (h.nx+1) ws [.i (opN w n),.i 0,.i 0,.nils] k)
  (k:=7) Ze ⟨0,by omega,by omega,rfl,a1⟩ ?_
 clear a1
 rintro _ _ k ⟨n,rfl,hn7,rfl,a⟩ f ih
 have gq:=a.q_
 have gB:=a.B_
 have gR:=a.R_
 have q0:([.i (opN w n),.i 0,.i 0,.nils]:List V)[0+0]?=some (.i (opN w n)):=rfl
 rw [hC12] at ih ⊢
 simp only [c82_12,c82_11,yA,yH] at ih ⊢
 clear hC12
 by_cases hlt:n<7
 case neg=>
  obtain rfl:n=7:=by omega
  rw [opN_7] at a gB q0
  have e8 : ¬ ((7+1:Nat):Int)<=7:=by decide
  clear ih
  refine qx ?_
  rw [hC13]
  by_cases h0:opW w=0
  ·have hno:mdR r=none:=by rw [hrw,mdR,zw h0]
   have F:MdP h r (.tup [.agg [.i (opW w),.i 0,.i 0,.nils],.i 0]) (k.set h.nx (.cells [.i (opW w),.i 0,.i 0,.nils] false)) :=
    ⟨_,_,rfl,a.o.set (zn _),rfl,rfl,fun _=>rfl,fun m t e=>by rw [hno] at e;cases e⟩
   clear a
   simp only [c82_13,yB]
   refine qx ?_
   refine zcw rfl gB Zd ?_
   refine zct (vs:=[.i (opW w),.i 0,.i 0,.nils]) rfl rfl rfl rfl gR Zd ?_
   rw [show jal ([.i 0,.i 0,.i 0,.nils]:List V) 0 [.i (opW w),.i 0,.i 0,.nils]=[.i (opW w),.i 0,.i 0,.nils] from rfl]
   refine qx ?_
   exact jdS (jab _) rfl F
  ·have ew:=jhV hcl (d:=d-1) (h:=k) (op:=opW w) om
   have hp:mdR r=some (⟨opW w,(mdW (opW w) (r.drop 1)).1,(mdN (opW w) (mdW (opW w) (r.drop 1)).2).1,(mdD (opW w) (mdN (opW w) (mdW (opW w) (r.drop 1)).2).2).1⟩,(mdD (opW w) (mdN (opW w) (mdW (opW w) (r.drop 1)).2).2).2):=by
    rw [hrw,mdR,zt h0];rfl
   have T:=fun sb=>md_W hcl (d:=d-1) (sb:=sb) (c:=c) (n:=1) om a hw hl hr om hp
   obtain ⟨C10,hC10⟩ : ∃ C,C=c82_10:=⟨_,rfl⟩
   rw [<- hC10] at T
   clear a hp
   simp only [c82_13,<- hC10,yB]
   refine qx ?_
   exact T _
 have hle:((n+1:Nat):Int)<=7:=by omega
 have hn1:((n+1:Nat):Int)+1=((n+1+1:Nat):Int):=by omega
 obtain ⟨k1,e1,o1⟩:=jkj hcl (d:=d-1) (h:=k) (op:=((n+1:Nat):Int)) om
 have a1:=a.keep o1
 have gq1:=a1.q_
 have gB1:=a1.B_
 by_cases he:w=jax ((n+1:Nat):Int)
 ·have hb:(w == jax ((n+1:Nat):Int))=true:=by simpa using he
  have a2:MW h q h.nx (h.nx+1) ws [.i (opN w (n+1)),.i 0,.i 0,.nils] (k1.set (h.nx+1) (.cells [.i ((n+1:Nat):Int),.i 0,.i 0,.nils] false)):=by
   rw [opN,zw he];exact a1.set
  clear a a1 gR
  refine qx ?_
  refine Ops.callf_chk rfl e1 (jfb rfl gq1 hwa rfl) ?_
  refine Ga ?_
  rw [hn1]
  exact ih (7-(n+1)) om _ _ ⟨n+1,rfl,by omega,rfl,a2⟩
 ·have hb:(w == jax ((n+1:Nat):Int))=false:=by simpa using he
  have a2:MW h q h.nx (h.nx+1) ws [.i (opN w (n+1)),.i 0,.i 0,.nils] k1:=by
   rw [opN,zt he];exact a1
  clear a a1 gR
  refine qx ?_
  refine Ops.callf_chk rfl e1 (jfb rfl gq1 hwa rfl) ?_
  refine Ga ?_
  rw [hn1]
  exact ih (7-(n+1)) om _ _ ⟨n+1,rfl,by omega,rfl,a2⟩
end
end Am.Sigs
namespace Am.Sigs.F
abbrev jf7:Nat:=9
end Am.Sigs.F
namespace Am.Sigs
open Am Go
def jcE (l:List Sp):List UInt8:=(l.map fun x=>jaD x++[10]).flatten
section
variable {h:H} {P Q:Nat->Prop}
theorem jb7 {b:Nat} {cs:List V} {ro:Bool} (e:h.get b=some (.cells cs ro)):h.filt.get b=some (.cells cs ro):=by
 rw [H.get_filt,e];rfl
theorem VI.filt {v:V} {l:List Int} (a:VI h v l):VI h.filt v l:=by
 obtain ⟨ad,c,e,n,f,g⟩:=a
 refine ⟨ad,c,e,n,f,fun hl=>?_⟩
 obtain ⟨b,o,cs,ro,q1,q2,q3,q4⟩:=g hl
 exact ⟨b,o,cs,ro,q1,q2,jb7 q3,q4⟩
theorem VB.filt {v:V} {l:List UInt8} (a:VB h v l):VB h.filt v l:=by
 obtain ⟨ad,c,e,n,f,g⟩:=a
 refine ⟨ad,c,e,n,f,fun hl=>?_⟩
 obtain ⟨b,o,cs,ro,q1,q2,q3,q4⟩:=g hl
 exact ⟨b,o,cs,ro,q1,q2,jb7 q3,q4⟩
theorem At4.filt {α : Type} {f : α -> List V} {v:V} {l:List α} (a:At4 h P f v l):At4 h.filt P f v l:=by
 obtain ⟨ad,c,e,n,ft,g⟩:=a
 refine ⟨ad,c,e,n,ft,fun hl=>?_⟩
 obtain ⟨b,o,cs,ro,q1,q2,q3,q4,q5⟩:=g hl
 exact ⟨b,o,cs,ro,q1,q2,q3,jb7 q4,q5⟩
theorem StepAt.filt {x:SpX} (a:StepAt h P Q x):StepAt h.filt P Q x :=
 ⟨⟨a.ov.1.filt,a.ov.2⟩,a.mv.filt,fun m hm=>⟨(a.dv m hm).1.filt,(a.dv m hm).2⟩,a.t0,a.t1⟩
theorem jbF.filt {v:V} {l:List SpX} (a:jbF h P Q v l):jbF h.filt P Q v l:=⟨a.1.filt,fun x hx=>(a.2 x hx).filt⟩
theorem jfC {g:Nat} (a:jaR g h=true):jaR g h.filt=true:=by
 unfold jaR at a ⊢
 rw [H.get_filt]
 split at a
 ·next e=>rw [e];exact a
 ·cases a
theorem Gv.filt (a:Gv h):Gv h.filt:=by
 obtain ⟨l,ro,e1,e2⟩:=a.pw.2
 obtain ⟨ro',e3⟩:=a.wd
 exact ⟨⟨a.pw.1,l,ro,jb7 e1,e2⟩,a.lS,a.lR,a.lW,jfC a.eS,jfC a.eR,ro',jb7 e3⟩
theorem jhw {k:H} (o:Old h.filt k):jbL h.filt k h.nx=true :=
 jgz fun b ob hb e=>by
  refine ⟨?_,by rw [o.2 b hb,e]⟩
  rw [H.get_filt] at e
  exact (jaA.1 e).2
theorem SpX.ones {x:SpX} (A:StepAt h P Q x):(x.V).all V.one=true:=by
 obtain ⟨a,c,e,_⟩:=id A.ov.1
 obtain ⟨a',c',e',_⟩:=id A.mv
 simp only [SpX.V,e,e'];rfl
theorem je1 : ∀ {l:List Sp},(∀ x∈l,SpFit x)->(jcE l).length<=l.length*200001
 | [],_=>zn _
 | x :: l,f=>by
  have h1:=jdx (f x Zd)
  have h2:=je1 (l:=l) fun y hy=>f y (zj _ hy)
  unfold jcE at h2 ⊢
  simp only [List.map_cons,zM,ze,List.length_cons,List.length_nil]
  omega
theorem jfv {l:List Sp} {i:Nat} {x:Sp} (hx:l[i]?=some x):jcE (l.take (i+1))=jcE (l.take i)++(jaD x++[10]):=by
 rw [List.take_add_one,hx]
 simp [jcE]
theorem jiD {ad:Option (Nat × Nat)} {c:Cap} {l:List SpX} (gv:Gv h) (A:jbF h P Q (.slice ad l.length c) l) (f : ∀ x∈l,SpFit x.sp) : ∀ n,n<=l.length->jbz jaT fuel 28 32 h.filt ad n=some (jcE ((l.map SpX.sp).take n))
 | 0,_=>rfl
 | n+1,hn=>by
  have ih:=jiD gv A f n om
  obtain ⟨x,hx⟩:=jdb (l:=l) (i:=n) om
  have hm:=zb hx
  obtain ⟨ad',c',e,_,_,g⟩:=id A.1
  cases e
  obtain ⟨b,o,cs,ro,rfl,q1,_,q3,q4⟩:=g (by intro e;rw [e] at hx;simp at hx)
  have q5:=q4 n x hx
  have hl:=je2 q5 rfl
  obtain ⟨h1,e1,o1⟩:=jjI (cl:=ja0 jaT fuel) (.inr fun _=>rfl) (d:=28) gv.filt om (A.2 x hm).filt (f x hm)
  have hk:jbL h.filt h1 h.filt.nx=true:=jhw o1
  rw [jbz,ih]
  have hx':(l.map SpX.sp)[n]?=some x.sp:=by rw [List.getElem?_map,hx];rfl
  simp only [jdN,jby (jb7 q3) hl,q5,SpX.ones (A.2 x hm),cond_true,e1,hk,jfv hx']
theorem text_eq {v:V} {l:List SpX} (gv:Gv h) (A:jbF h P Q v l) (hl:l.length<=2000) (f:(∀ x∈l,x.sp.may) -> ∀ x∈l,SpFit x.sp) :
  jcM jaT fuel 28 32 30 120 [v] h=some (if ∀ x∈l,x.sp.may then .tup [.str (jcE (l.map SpX.sp)),.i 0] else .tup [.str [],.i 120],h):=by
 obtain ⟨h1,e1,o1⟩:=wm_all (cl:=ja0 jaT fuel) (.inr fun _=>rfl) (d:=28) om A.filt hl
 have hk:jbL h.filt h1 h.nx=true:=jhw o1
 obtain ⟨ad,c,rfl,_⟩:=id A.1
 by_cases hm : ∀ x∈l,x.sp.may
 ·have hp:=jiD gv A (f hm) l.length (zn _)
  rw [show (l.map SpX.sp).take l.length=l.map SpX.sp from zf Zd] at hp
  have hle:=je1 (l:=l.map SpX.sp) fun x hx=>by
   obtain ⟨y,hy,rfl⟩:=List.mem_map.1 hx
   exact f hm y hy
  rw [List.length_map] at hle
  have hb:Nat.ble (jcE (l.map SpX.sp)).length 140737488355328=true:=Nat.ble_eq_true_of_le om
  rw [zA hm] at e1
  rw [zw hm]
  simp only [jcM,e1,hk,cond_true,hp,hb]
 ·rw [zx hm] at e1
  rw [zt hm]
  simp only [jcM,e1,hk,cond_true,cond_false]
theorem tx_Text {cl:Nat->Call} (hclP : ∀ d,cl d=ja0 prog fuel d) {d:Nat} {v:V} {l:List SpX} (hd:1<=d) (gv:Gv h) (A:jbF h P Q v l) (hl:l.length<=2000) (f:(∀ x∈l,x.sp.may) -> ∀ x∈l,SpFit x.sp) :
  cl d (.fn F.jf7) [v] h=some (if ∀ x∈l,x.sp.may then .tup [.str (jcE (l.map SpX.sp)),.i 0] else .tup [.str [],.i 120],h):=by
 have hp:cl d (.fn F.jf7) [v] h=jcM jaT fuel 28 32 30 120 [v] h:=by
  rw [hclP d]
  cases d with
  | zero=>omega
  | succ d=>rfl
 rw [hp,text_eq gv A hl f]
end
def LnP (h0:H) (b:Nat) (j:Int) (s:List UInt8):Post:=fun x e h'=>x = .normal/\(∃ sb,e=(1,.p b 0) :: (3,.str s) :: (5,.i j) :: sb)/\Old h0 h'
theorem LnP.mono {h0 h1:H} {b:Nat} {j:Int} {s:List UInt8} (o:Old h0 h1) {x:Ex} {e:Env} {h':H} (q:LnP h1 b j s x e h'):LnP h0 b j s x e h':=⟨q.1,q.2.1,o.trans q.2.2⟩
theorem Run.post {call:Call} {fuel:Nat} {c:AC} {K:List Fr} {e:Env} {h:H} {Q Q':Post} (k:Run call fuel c K e h Q) (hQ : ∀ x e h,Q x e h->Q' x e h):Run call fuel c K e h Q':=by
 obtain ⟨x',e',h',hd',x2,e2,h2,ha,q⟩:=k
 exact ⟨x',e',h',hd',x2,e2,h2,ha,hQ _ _ _ q⟩
section
variable {cl:Nat->Call} (hcl:Sem cl) {d b mb:Nat} {j:Int} {s:List UInt8} {m:Mv} {dv:V} {h:H} {sb:Env}
include hcl
theorem ln_b (hg:h.get mb=some (.cells (mvV m dv) false)) (lmb:mb<h.nx) (hb:VB h dv m.D) (hl:m.D.length<=1100) (hs:s.length<=300000) :
  Run (cl d) fuel c35_5 [] ((1,.p b 0) :: (3,.str s) :: (5,.i j) :: (6,.p mb 0) :: sb) h (LnP h b j (s++(if m.op=1 then [32] else [])++hexS m.D)):=by
 have q0:(mvV m dv)[0+0]?=some (.i m.op):=rfl
 by_cases h1:m.op=1
 ·rw [zw h1]
  have T:=jkM hcl (d:=d) (b:=b) (j:=j) (s:=s++[32]) hg lmb hb hl Zc
  obtain ⟨C,hC⟩ : ∃ C,C=c35_3:=⟨_,rfl⟩
  simp only [c35_5,<- hC,yH]
  rw [<- hC] at T
  clear hb
  refine qx ?_
  refine Ops.sadd rfl rfl Zc ?_
  refine qx ?_
  exact T
 ·rw [zt h1,List.append_nil]
  have T:=jkM hcl (d:=d) (b:=b) (j:=j) (s:=s) hg lmb hb hl om
  obtain ⟨C,hC⟩ : ∃ C,C=c35_3:=⟨_,rfl⟩
  simp only [c35_5,<- hC,yH]
  rw [<- hC] at T
  clear hb
  refine qx ?_
  exact T
theorem ln_n (hd:1<=d) (hg:h.get mb=some (.cells (mvV m dv) false)) (lmb:mb<h.nx) (hb:VB h dv m.D) (hl:m.D.length<=1100) (hs:s.length<=299900) :
  Run (cl d) fuel c35_7 [] ((1,.p b 0) :: (3,.str s) :: (5,.i j) :: (6,.p mb 0) :: sb) h (LnP h b j (s++(if m.op=2\/m.op=6\/m.op=7 then [32]++numU m.n else [])++(if m.op=1 then [32] else [])++hexS m.D)):=by
 have q0:(mvV m dv)[0+0]?=some (.i m.op):=rfl
 have q2:(mvV m dv)[0+2]?=some (.i m.n):=rfl
 have e1:=jeC hcl (d:=d) (op:=m.op) (h:=h) hd
 obtain ⟨C,hC⟩ : ∃ C,C=c35_5:=⟨_,rfl⟩
 by_cases h1:m.op=2\/m.op=6\/m.op=7
 ·rw [zw h1]
  rw [zA h1] at e1
  obtain ⟨u,eu,hu,en⟩:=jfG m.n
  obtain ⟨h2,e2,o2⟩:=jdw hcl (d:=d) (u:=u) (h:=h) hd hu
  have hnl:=jcA m.n
  rw [<- en] at e2
  have T:=fun sb=>ln_b hcl (d:=d) (b:=b) (j:=j) (s:=s++[32]++numU m.n) (sb:=sb) (m:=m) (dv:=dv) (h:=h2) (by rw [o2.2 mb lmb,hg]) (zo lmb o2.1) (hb.keep2 o2.1 fun hl z hz=>o2.2 z (hb.lt hl hz)) hl Zc
  simp only [c35_7,c35_4,<- hC,yC,yI]
  rw [<- hC] at T
  clear hb h1
  refine qx ?_
  refine Ops.sadd rfl rfl Zc ?_
  refine qx ?_
  rw [eu]
  refine qx ?_
  refine Ops.sadd rfl rfl Zc ?_
  refine qx ?_
  refine Run.post (T _) fun x e h' q=>LnP.mono o2 ?_
  simpa only [List.append_assoc] using q
 ·rw [zt h1]
  rw [zx h1] at e1
  have T:=fun sb=>ln_b hcl (d:=d) (b:=b) (j:=j) (s:=s) (sb:=sb) (m:=m) (dv:=dv) (h:=h) hg lmb hb hl om
  simp only [c35_7,<- hC,yC]
  rw [<- hC] at T
  clear hb h1
  refine qx ?_
  refine Run.post (T _) fun x e h' q=>?_
  simpa only [List.append_assoc,List.nil_append] using q
theorem ln_w (hd:1<=d) (hg:h.get mb=some (.cells (mvV m dv) false)) (lmb:mb<h.nx) (hb:VB h dv m.D) (hl:m.D.length<=1100) (hs:s.length<=299800) :
  Run (cl d) fuel c35_8 [] ((1,.p b 0) :: (3,.str s) :: (5,.i j) :: (6,.p mb 0) :: sb) h (LnP h b j (s++(if 1<=m.op/\m.op<=6 then [32]++numU m.wire else [])++(if m.op=2\/m.op=6\/m.op=7 then [32]++numU m.n else [])++(if m.op=1 then [32] else [])++hexS m.D)):=by
 have q0:(mvV m dv)[0+0]?=some (.i m.op):=rfl
 have q2:(mvV m dv)[0+1]?=some (.i m.wire):=rfl
 have e1:=jhV hcl (d:=d) (op:=m.op) (h:=h) hd
 obtain ⟨C,hC⟩ : ∃ C,C=c35_7:=⟨_,rfl⟩
 by_cases h1:1<=m.op/\m.op<=6
 ·rw [zw h1]
  rw [zA h1] at e1
  obtain ⟨u,eu,hu,en⟩:=jfG m.wire
  obtain ⟨h2,e2,o2⟩:=jdw hcl (d:=d) (u:=u) (h:=h) hd hu
  have hnl:=jcA m.wire
  rw [<- en] at e2
  have T:=fun sb=>ln_n hcl (d:=d) (b:=b) (j:=j) (s:=s++[32]++numU m.wire) (sb:=sb) (m:=m) (dv:=dv) (h:=h2) hd (by rw [o2.2 mb lmb,hg]) (zo lmb o2.1) (hb.keep2 o2.1 fun hl z hz=>o2.2 z (hb.lt hl hz)) hl Zc
  simp only [c35_8,c35_6,<- hC,yC,yI]
  rw [<- hC] at T
  clear hb h1
  refine qx ?_
  refine Ops.sadd rfl rfl Zc ?_
  refine qx ?_
  rw [eu]
  refine qx ?_
  refine Ops.sadd rfl rfl Zc ?_
  refine qx ?_
  refine Run.post (T _) fun x e h' q=>LnP.mono o2 ?_
  simpa only [List.append_assoc] using q
 ·rw [zt h1]
  rw [zx h1] at e1
  have T:=fun sb=>ln_n hcl (d:=d) (b:=b) (j:=j) (s:=s) (sb:=sb) (m:=m) (dv:=dv) (h:=h) hd hg lmb hb hl om
  simp only [c35_8,<- hC,yC]
  rw [<- hC] at T
  clear hb h1
  refine qx ?_
  refine Run.post (T _) fun x e h' q=>?_
  simpa only [List.append_assoc,List.nil_append] using q
theorem ln_m {P Q:Nat->Prop} {x:SpX} {k:Nat} {y:MvX} (hd:1<=d) (hg:h.get b=some (.cells x.V false)) (lb:b<h.nx) (A:StepAt h P Q x) (hy:x.ml[k]?=some y) (hl:y.m.D.length<=1100) (hs:s.length<=299700) :
  Run (cl d) fuel c35_10 [] ((1,.p b 0) :: (3,.str s) :: (5,.i (k:Int)) :: sb) h (LnP h b k (s++mvT y.m)):=by
 obtain ⟨ad,c,em,_,_,g⟩:=id A.mv
 obtain ⟨bb,oo,cs,rr,rfl,lbb,_,gb,hc⟩:=g (by intro e;rw [e] at hy;simp at hy)
 have h4:(cs.drop (oo+(k:Int).toNat*4)).take 4=y.V:=by rw [zq];exact hc k y hy
 have hlen:=je2 h4 rfl
 have q3:(x.V)[0+3]?=some (.slice (some (bb,oo)) x.ml.length c):=by rw [<- em];rfl
 have hkl:k<x.ml.length:=by
  rcases zr k x.ml.length with h | h
  ·exact h
  ·rw [zc h] at hy;cases hy
 obtain ⟨vy,zy⟩:=A.dv y (zb hy)
 obtain ⟨m,dv⟩:=y
 obtain ⟨da,dc,e,_⟩:=id vy
 have e:dv = .slice da m.D.length dc:=e
 subst e
 have o1:Old h ((h.new (.cells [.i 0,.i 0,.i 0,.nils] false)).set h.nx (.cells (mvV m (.slice da m.D.length dc)) false)):=(zX h).new.set (zn _)
 have g1:((h.new (.cells [.i 0,.i 0,.i 0,.nils] false)).set h.nx (.cells (mvV m (.slice da m.D.length dc)) false)).get h.nx=some (.cells (mvV m (.slice da m.D.length dc)) false):=jab _
 have n1:h.nx<((h.new (.cells [.i 0,.i 0,.i 0,.nils] false)).set h.nx (.cells (mvV m (.slice da m.D.length dc)) false)).nx:=by simp
 generalize hG:(h.new (.cells [.i 0,.i 0,.i 0,.nils] false)).set h.nx (.cells (mvV m (.slice da m.D.length dc)) false)=G at o1 g1 n1
 obtain ⟨h2,e2,o2⟩:=jkj hcl (d:=d) (op:=m.op) (h:=G) hd
 have hwl:=jex m.op
 have T:=fun sb=>ln_w hcl (d:=d) (b:=b) (j:=(k:Int)) (s:=s++[32]++jax m.op) (sb:=sb) (m:=m) (dv := .slice da m.D.length dc) (h:=h2) hd (by rw [o2.2 _ n1,g1]) (zo n1 o2.1) (vy.keep2 (o1.trans o2).1 fun hl z hz=>(o1.trans o2).2 z (vy.lt hl hz)) hl Zc
 have q0:(mvV m (.slice da m.D.length dc))[0+0]?=some (.i m.op):=rfl
 obtain ⟨C,hC⟩ : ∃ C,C=c35_8:=⟨_,rfl⟩
 simp only [c35_10,c35_9,<- hC,yB,yH]
 rw [<- hC] at T
 clear A g hc vy zy
 refine qx ?_
 refine zcw rfl gb hlen ?_
 rw [h4]
 refine zcu (ob := .cells [.i 0,.i 0,.i 0,.nils] false) (mk:=fun b=>.p b 0) rfl rfl ?_
 refine zct (n:=4) (o:=0) (vs:=mvV m (.slice da m.D.length dc)) rfl rfl rfl rfl (jac _) Zd ?_
 rw [show jal ([.i 0,.i 0,.i 0,.nils]:List V) 0 (mvV m (.slice da m.D.length dc))=mvV m (.slice da m.D.length dc) from rfl,hG]
 refine qx ?_
 refine Ops.sadd rfl rfl Zc ?_
 refine qx ?_
 refine Ops.sadd rfl rfl Zc ?_
 refine qx ?_
 refine Run.post (T _) fun x e h' q=>LnP.mono (o1.trans o2) ?_
 unfold mvT
 simpa only [List.append_assoc] using q
end
def Sp.few (x:Sp):Prop:=x.moves.length<=60/\x.order.length<=60 /\ ∀ m∈x.moves,m.D.length<=1100
section
variable {cl:Nat->Call} (hcl:Sem cl) {d:Nat} {h:H}
include hcl
theorem jfR {P Q:Nat->Prop} {x:SpX} (hd:2<=d) (A:StepAt h P Q x) (hf:x.sp.few) : ∃ h',cl d (.fn 35) [.agg x.V] h=some (.str (jaD x.sp),h')/\Old h h':=by
 have hml:x.ml.length<=60:=by have:=hf.1;simpa [SpX.sp] using this
 have hol:x.ol.length<=60:=hf.2.1
 have hdl : ∀ y∈x.ml,y.m.D.length<=1100:=fun y hy=>hf.2.2 y.m (List.mem_map_of_mem hy)
 have o0:Old h (h.new (.cells x.V false)):=(zX h).new
 have g0:(h.new (.cells x.V false)).get h.nx=some (.cells x.V false):=jac _
 have n0:h.nx<(h.new (.cells x.V false)).nx:=by simp
 generalize hG:h.new (.cells x.V false)=G at o0 g0 n0
 obtain ⟨u,eu⟩ : ∃ u:Nat,x.t=(u:Int):=⟨x.t.toNat,by have:=A.t0;omega⟩
 have hu:u<18446744073709551616:=by have:=A.t1;omega
 have q0:(x.V)[0+0]?=some (.int .u64 (u:Int)):=by rw [<- eu];rfl
 have q1:(x.V)[0+1]?=some (.bool x.intr):=rfl
 obtain ⟨ao,co,eo,_,_,go⟩:=id A.ov.1
 obtain ⟨am,cm,em,_⟩:=id A.mv
 have q2:(x.V)[0+2]?=some (.slice ao x.ol.length co):=by rw [<- eo];rfl
 have q3:(x.V)[0+3]?=some (.slice am x.ml.length cm):=by rw [<- em];rfl
 obtain ⟨h1,e1,o1⟩:=jdw hcl (d:=d-1) (u:=u) (h:=G) om hu
 have hdu:=jc6 (u:=u) (m:=19) om hu
 have g1:h1.get h.nx=some (.cells x.V false):=by rw [o1.2 _ n0,g0]
 have n1:h.nx<h1.nx:=zo n0 o1.1
 have A1:=A.old (o0.trans o1)
 have hln:jaD x.sp=[115,116,101,112,32]++dec u++(if x.intr then [32,105,110,116,114] else [])++ordN x.ol x.ol.length++movN (x.ml.map MvX.m) x.ml.length:=by
  unfold jaD
  rw [show x.sp.ticks.toNat=u by show x.t.toNat=u;omega,show x.sp.moves.length=x.ml.length by simp [SpX.sp]]
  rfl
 obtain ⟨C10,hC10⟩ : ∃ C,C=c35_10:=⟨_,rfl⟩
 have T : ∀ (s:List UInt8) (sb:Env),s=[115,116,101,112,32]++dec u++(if x.intr then [32,105,110,116,114] else [])->Run (cl (d-1)) fuel c35_16 [] ((1,.p h.nx 0) :: (3,.str s) :: sb) h1 (Fin c35.res fun v h'=>v = .str (jaD x.sp)/\Old h h'):=by
  intro s sb hs
  have hsl:s.length<=30:=by
   rw [hs]
   cases x.intr<;>simp<;>omega
  rw [hln,<- hs]
  clear hs hln e1 q0 hG
  simp only [c35_16,c35_11,<- hC10,uF,yB]
  refine qx ?_
  refine zW (fun m e g=>∃ i:Nat,m=x.ol.length-i/\i<=x.ol.length/\e=[(1,.p h.nx 0),(3,.str (s++ordN x.ol i)),(4,.i (i:Int))]/\Old h1 g)
   (k:=x.ol.length) Ze ⟨0,rfl,by omega,by simp [ordN],zX _⟩ ?_
  rintro _ _ g ⟨i,rfl,hi,rfl,og⟩ n' ih
  have gx:g.get h.nx=some (.cells x.V false):=by rw [og.2 _ n1,g1]
  have hoL:=jga x.ol i
  by_cases hlt:(i:Int)<x.ol.length
  case pos=>
   obtain ⟨n,hn⟩:=jdb (l:=x.ol) (i:=i) om
   obtain ⟨b,oo,cs,rr,rfl,lb,gb,hc⟩:=go (by intro e;rw [e] at hn;simp at hn)
   have gb1:g.get b=some (.cells cs rr):=by rw [og.2 b (zo lb (o0.trans o1).1),(o0.trans o1).2 b lb,gb]
   have h4:cs[oo+(i:Int).toNat*1]?=some (.i n):=by rw [zq,Nat.mul_one];exact hc i n hn
   obtain ⟨un,eun,hun,enu⟩:=jfG n
   obtain ⟨g2,e2,o2⟩:=jdw hcl (d:=d-1) (u:=un) (h:=g) om hun
   have hnl:=jcA n
   rw [<- enu] at e2
   have hi1:(i:Int)+1=((i+1:Nat):Int):=by omega
   have hoS:ordN x.ol (i+1)=ordN x.ol i++(if i=0 then [32,111,114,100,101,114,32] else [44])++numU n:=by rw [ordN,hn];rfl
   clear go A A1 hc hdl
   by_cases hz:i=0
   ·have hz':(i:Int)=0:=by omega
    rw [zw hz] at hoS
    refine qx ?_
    refine Ops.sadd rfl rfl Zc ?_
    refine qx ?_
    rw [eun]
    refine qx ?_
    refine Ops.sadd rfl rfl Zc ?_
    refine qx ?_
    rw [hi1]
    exact ih (x.ol.length-(i+1)) om _ _ ⟨i+1,rfl,by omega,by rw [hoS];simp only [List.append_assoc],og.trans o2⟩
   ·have hz' : ¬ (i:Int)=0:=by omega
    rw [zt hz] at hoS
    refine qx ?_
    refine Ops.sadd rfl rfl Zc ?_
    refine qx ?_
    rw [eun]
    refine qx ?_
    refine Ops.sadd rfl rfl Zc ?_
    refine qx ?_
    rw [hi1]
    exact ih (x.ol.length-(i+1)) om _ _ ⟨i+1,rfl,by omega,by rw [hoS];simp only [List.append_assoc],og.trans o2⟩
  obtain rfl:i=x.ol.length:=by omega
  clear ih go
  refine qx ?_
  refine zW (fun m e g'=>∃ i:Nat,m=x.ml.length-i/\i<=x.ml.length/\e=[(1,.p h.nx 0),(3,.str (s++ordN x.ol x.ol.length++movN (x.ml.map MvX.m) i)),(5,.i (i:Int))]/\Old h1 g')
   (k:=x.ml.length) Ze ⟨0,rfl,by omega,by simp [movN],og⟩ ?_
  clear og gx
  rintro _ _ g' ⟨i,rfl,hi,rfl,og⟩ n2 ih
  have gx:g'.get h.nx=some (.cells x.V false):=by rw [og.2 _ n1,g1]
  have hmL:=jgs (l:=x.ml.map MvX.m) (fun m hm=>by obtain ⟨y,hy,rfl⟩:=List.mem_map.1 hm;exact hdl y hy) i
  by_cases hlt:(i:Int)<x.ml.length
  case neg=>
   obtain rfl:i=x.ml.length:=by omega
   have oF:=(o0.trans o1).trans og
   clear ih A A1 hdl
   refine qx ?_
   exact ⟨rfl,oF⟩
  obtain ⟨y,hy⟩:=jdb (l:=x.ml) (i:=i) om
  have T:=fun sb=>ln_m hcl (d:=d-1) (b:=h.nx) (s:=s++ordN x.ol x.ol.length++movN (x.ml.map MvX.m) i) (sb:=sb) (k:=i) om gx (zo n1 og.1) (A1.old og) hy (hdl y (zb hy)) (by simp only [ze];omega)
  rw [<- hC10] at T
  have hi1:(i:Int)+1=((i+1:Nat):Int):=by omega
  have hmS:movN (x.ml.map MvX.m) (i+1)=movN (x.ml.map MvX.m) i++mvT y.m:=by rw [movN,List.getElem?_map,hy];rfl
  clear A A1 hdl
  refine qx ?_
  refine Run.cut _ (T _) ?_
  rintro _ _ g2 ⟨rfl,⟨sb2,rfl⟩,o2⟩
  refine qx ?_
  rw [hi1]
  exact ih (x.ml.length-(i+1)) om _ _ ⟨i+1,rfl,by omega,by rw [hmS];simp only [List.append_assoc],og.trans o2⟩
 obtain ⟨C,hC⟩ : ∃ C,C=c35_16:=⟨_,rfl⟩
 rw [<- hC] at T
 refine ja5 (aT hcl ?_)
 simp only [c35,c35_18,c35_17,<- hC,yB,yH]
 clear A A1 hln hdl go
 refine Run.seq (zac (zcu (ob := .cells x.V false) (mk:=fun b=>.p b 0) rfl rfl ?_))
 rw [hG]
 refine qx ?_
 refine Ops.sadd rfl rfl Zc ?_
 repeat' (first|refine qxy ?_|(refine zsp ?_ ?_<;>intro _)|fail)
 ·next hin=>
  rw [hin] at T
  refine Ops.sadd rfl rfl Zc ?_
  refine qx ?_
  exact T _ _ rfl
 ·next hin=>
  rw [hin] at T
  exact T ([115,116,101,112,32]++dec u) _ Zd
end
structure QS (h:H) (R X q:Nat) (ws:List (List UInt8)) (cs:List V) (g:H):Prop where
 o:Old h g
 r1:h.nx<=R
 r2:R<g.nx
 x1:h.nx<=X
 x2:X<g.nx
 q1:h.nx<=q
 q2:q<g.nx
 ne:R≠X/\R≠q/\X≠q
 R_:g.get R=some (.cells [.int .u64 0,.bool false,.nils,.nils] false)
 X_:g.get X=some (.cells cs false)
 q_:g.get q=some (.cells (strs ws) false)
section
variable {h g g':H} {R X q:Nat} {ws:List (List UInt8)} {cs cs':List V}
theorem QS.keep2 {M:Nat} (a:QS h R X q ws cs g) (hx:g.nx<=g'.nx) (hk : ∀ j,j<M->g'.get j=g.get j) (m1:R<M) (m2:X<M) (m3:q<M) (m4:h.nx<=M):QS h R X q ws cs g' :=
 ⟨a.o.trans' hx fun j hj=>hk j om,a.r1,zo a.r2 hx,a.x1,zo a.x2 hx,a.q1,zo a.q2 hx,a.ne,by rw [hk _ m1,a.R_],by rw [hk _ m2,a.X_],by rw [hk _ m3,a.q_]⟩
theorem QS.keep (a:QS h R X q ws cs g) (o:Old g g'):QS h R X q ws cs g':=a.keep2 o.1 o.2 a.r2 a.x2 a.q2 a.o.1
theorem QS.set (a:QS h R X q ws cs g):QS h R X q ws cs' (g.set X (.cells cs' false)) :=
 ⟨a.o.set a.x1,a.r1,a.r2,a.x1,a.x2,a.q1,a.q2,a.ne,by rw [jaa a.ne.1,a.R_],jab _,by rw [jaa (Ne.symm a.ne.2.2),a.q_]⟩
end
def acTl:AC->AC
 | .seq _ b=>b
 | c=>c
theorem jgS (s:List UInt8):ja1 s<9223372036854775808:=by
 unfold ja1;split<;>omega
theorem mdR_small {l t:List (List UInt8)} {m:Mv} (h:mdR l=some (m,t)):m.wire<9223372036854775808/\m.n<9223372036854775808:=by
 cases l with
 | nil=>cases h
 | cons w r=>
  rw [mdR] at h
  split at h
  ·cases h
  ·cases h
   refine ⟨?_,?_⟩
   ·show (mdW _ _).1<_
    unfold mdW;split
    ·split
     ·exact jgS _
     ·exact (by decide:(0:Int)<9223372036854775808)
    ·exact (by decide:(0:Int)<9223372036854775808)
   ·show (mdN _ _).1<_
    unfold mdN;split
    ·split
     ·exact jgS _
     ·exact (by decide:(0:Int)<9223372036854775808)
    ·exact (by decide:(0:Int)<9223372036854775808)
theorem mdR_suf {l t:List (List UInt8)} {m:Mv} (h:mdR l=some (m,t)):t=l.drop (l.length-t.length):=by
 have key:t <:+ l:=by
  cases l with
  | nil=>cases h
  | cons w r=>
   rw [mdR] at h
   split at h
   ·cases h
   ·cases h
    have h1:(mdW (opW w) r).2 <:+ r:=by
     unfold mdW;(repeat' split)<;>first | exact List.suffix_refl _ | exact List.suffix_cons _ _
    have h2 : ∀ r:List (List UInt8),(mdN (opW w) r).2 <:+ r:=fun r=>by
     unfold mdN;(repeat' split)<;>first | exact List.suffix_refl _ | exact List.suffix_cons _ _
    have h3 : ∀ r:List (List UInt8),(mdD (opW w) r).2 <:+ r:=fun r=>by
     unfold mdD;(repeat' split)<;>first | exact List.suffix_refl _ | exact List.suffix_cons _ _
    exact (((h3 _).trans (h2 _)).trans h1).trans (List.suffix_cons _ _)
 exact List.suffix_iff_eq_drop.1 key
theorem jf9 : ∀ {f:Nat} {l:List (List UInt8)} {M:List Mv},mdsR f l=some M -> ∀ m∈M,m.wire<9223372036854775808/\m.n<9223372036854775808
 | f,[],M,h=>by
  have:M=[]:=by cases f<;>(cases h;rfl)
  subst this
  intro m hm;cases hm
 | 0,_ :: _,M,h=>by cases h
 | f+1,w :: r,M,h=>by
  rw [mdsR] at h
  cases hm:mdR (w :: r) with
  | none=>rw [hm] at h;cases h
  | some x=>
   obtain ⟨m,t⟩:=x
   rw [hm] at h
   simp only at h
   cases hl:mdsR f t with
   | none=>rw [hl] at h;cases h
   | some l=>
    rw [hl] at h
    cases h
    intro y hy
    rcases zP.1 hy with rfl | hy
    ·exact mdR_small hm
    ·exact jf9 hl y hy
theorem jiK {s:List UInt8} (h:qwW (jae 32 s)=none) : ∀ x,SpFit x->jaD x≠s:=fun x f e=>by
 rw [<- e,jfS f] at h;cases h
section
variable {cl:Nat->Call} (hcl:Sem cl) {d:Nat} {h g:H} {R X q at_:Nat} {c:Cap} {s:List UInt8} {ws r:List (List UInt8)} {t:Int} {iv:Bool} {ov:V} {ol:List Int} {sb:Env}
include hcl
theorem rq_fin {y:SpX} {l:V} (hd:5<=d) (a:QS h R X q ws y.V g) (A:StepAt g (fun z=>h.nx<=z/\z≠R) (fun z=>h.nx<=z/\z≠R) y) (hp:qwW (jae 32 s)=some y.sp) (hm : ∀ m∈y.sp.moves,m.wire<9223372036854775808/\m.n<9223372036854775808) :
  Run (cl d) fuel (acTl (acTl c40_11)) [] ((0,.str s) :: (2,.p R 0) :: (4,l) :: (5,.p X 0) :: sb) g (Fin c40.res fun v h'=>RdP h s v h'):=by
 have hV1:=SpX.ones A
 have hset:jal ([.int .u64 0,.bool false,.nils,.nils]:List V) 0 y.V=y.V:=rfl
 have htk:((y.V).drop 0).take 4=y.V:=rfl
 have r1:=a.r1
 have hX:=a.X_
 obtain ⟨g1,e1,o1⟩:=jjV hcl (d:=d) (h:=g) om A
 have a1:=a.keep o1
 have hX1:=a1.X_
 have hR1:=a1.R_
 have A1:=A.old o1
 obtain ⟨C0,hC0⟩ : ∃ C,C=c40_0:=⟨_,rfl⟩
 simp only [acTl,c40_11,<- hC0,uF]
 by_cases hmay:y.sp.may
 case neg=>
  rw [zx hmay] at e1
  have K:RdP h s (.tup [.agg y.V,.bool false]) (g1.set R (.cells y.V false)):=⟨y.V,false,rfl,a1.o.set r1,rfl,hV1,(fun e=>by cases e),fun _ x f e=>by
   rw [<- e,jfS f] at hp
   cases hp
   exact hmay f.may⟩
  clear A A1 hm a a1
  refine qx ?_
  refine zcw rfl hX Zd ?_
  rw [htk]
  refine qx ?_
  subst hC0
  refine qx ?_
  refine zcw rfl hX1 Zd ?_
  rw [htk]
  refine qx ?_
  refine zct (vs:=y.V) rfl rfl rfl hV1 hR1 Zd ?_
  rw [hset]
  refine qx ?_
  exact jdS (jab _) rfl K
 rw [zA hmay] at e1
 have fit:SpFit y.sp:=⟨hmay,A.t0,by have:=A.t1;show y.t<_;omega,fun m hm'=>⟨hmay.2.2.2 m hm',(hm m hm').1,(hm m hm').2⟩⟩
 obtain ⟨g2,e2,o2⟩:=jfR hcl (d:=d) (h:=g1) om A1 ⟨by have:=hmay.1;omega,by have:=hmay.2.1;omega,fun m hmm=>by have:=(hmay.2.2.2 m hmm).2.2.2.2.1;omega⟩
 have a2:=a1.keep o2
 have hX2:=a2.X_
 have hR2:=a2.R_
 have A2:StepAt (g2.set R (.cells y.V false)) (h.nx <= ·) (h.nx <= ·) y:=(A1.old o2).keep Zd (fun z _ hz=>⟨jaa hz.2,hz.1⟩) fun z _ hz=>⟨jaa hz.2,hz.1⟩
 have K:RdP h s (.tup [.agg y.V,.bool (jaD y.sp == s)]) (g2.set R (.cells y.V false)):=⟨y.V,_,rfl,a2.o.set r1,rfl,hV1,fun e=>⟨y,rfl,A2,fit,by simpa using e⟩,fun e x f ex=>by
  rw [<- ex,jfS f] at hp
  cases hp
  rw [ex] at e
  simp at e⟩
 clear A A1 A2 hm a a1 a2 fit
 refine qx ?_
 refine zcw rfl hX Zd ?_
 rw [htk]
 refine qx ?_
 subst hC0
 refine qx ?_
 refine zcw rfl hX1 Zd ?_
 rw [htk]
 refine qx ?_
 refine zcw rfl hX1 Zd ?_
 rw [htk]
 refine qx ?_
 refine Ops.callf_chk rfl e2 (jgA rfl hX2 Zd (by rw [htk];rfl)) ?_
 refine qx ?_
 refine zct (vs:=y.V) rfl rfl rfl hV1 hR2 Zd ?_
 rw [hset]
 refine qx ?_
 exact jdS (jab _) rfl K
theorem jkG (hd:6<=d) (a:QS h R X q ws [.int .u64 t,.bool iv,ov,.nils] g) (hc:c.fits ws.length 1) (hw:ws.drop at_=r) (hat:at_<=ws.length) (hl : ∀ a∈ws,a.length<=20000) (hlw:ws.length<=20000) (t0:0<=t) (t1:t<=18446744073709551615) (hv:VI g ov ol) (hz : ∀ z,ov.at?=some z->h.nx<=z/\z≠R/\z≠X) (hov:ov.one=true) (hp:qwW (jae 32 s)=match mdsR r.length r with | none=>none | some M=>some ⟨t,iv,ol,M⟩) :
  Run (cl d) fuel (acTl c40_11) [] ((0,.str s) :: (2,.p R 0) :: (4,.slice (some (q,0)) ws.length c) :: (5,.p X 0) :: (6,.i (at_:Int)) :: sb) g (Fin c40.res fun v h'=>RdP h s v h'):=by
 have y1:=a.r2
 have y2:=a.x2
 have y3:=a.q2
 have y4:=a.o.1
 obtain ⟨T2,hT2⟩ : ∃ C,C=acTl (acTl c40_11):=⟨_,rfl⟩
 have hcode:acTl c40_11 = .seq (.block 2 c40_4) T2:=by rw [hT2];rfl
 rw [hcode]
 obtain ⟨C3,hC3⟩ : ∃ C,C=c40_3:=⟨_,rfl⟩
 simp only [c40_4,<- hC3,yB]
 generalize hM:mdsR r.length r=M0 at hp
 have hsmall : ∀ M,M0=some M -> ∀ m∈M,m.wire<9223372036854775808/\m.n<9223372036854775808:=fun M e=>jf9 (by rw [hM,e])
 refine qx ?_
 refine zW (fun j e k=>∃ (n:Nat) (ML:List MvX) (mv:V) (sbe:Env),j=ws.length-n/\n<=ws.length/\ML.length<=n/\e=(0,.str s) :: (2,.p R 0) :: (4,.slice (some (q,0)) ws.length c) :: (5,.p X 0) :: (6,.i (n:Int)) :: sbe/\QS h R X q ws [.int .u64 t,.bool iv,ov,mv] k/\Row g.nx k 4 mv ML.length (ML.map MvX.V).flatten/\(∀ y∈ML,VB k y.dv y.m.D /\ ∀ z,y.dv.at?=some z->g.nx<=z)/\VI k ov ol/\g.nx<=k.nx/\(mdsR (ws.drop n).length (ws.drop n)).map (ML.map MvX.m ++ ·)=M0)
  (k:=ws.length-at_) Ze ⟨at_,[],.nils,sb,rfl,hat,zO _,rfl,a,Row.nil _ _ _,(fun y hy=>by cases hy),hv,zn _,by rw [hw,hM];cases M0<;>simp⟩ ?_
 have hz0:ol≠[] -> ∀ z,ov.at?=some z->z<g.nx:=fun hl z e=>hv.lt hl e
 clear a hM hw hat hv
 rintro _ _ k ⟨n,ML,mv,sbe,rfl,hn,hML,rfl,a,row,hdv,hv,hx,hM⟩ f ih
 have gX:=a.X_
 have gR:=a.R_
 have gq:=a.q_
 have r1:=a.r1
 have ne1:=a.ne.1
 by_cases hlt:n<ws.length
 case neg=>
  obtain rfl:n=ws.length:=by omega
  have hM':some (ML.map MvX.m)=M0:=by rw [<- hM,List.drop_length];simp [mdsR]
  have A:StepAt k (fun z=>h.nx<=z/\z≠R) (fun z=>h.nx<=z/\z≠R) ⟨t,iv,ol,ov,ML,mv⟩ :=
   ⟨⟨hv,fun _ z e=>⟨(hz z e).1,(hz z e).2.1⟩⟩,(At4.of_row (fun _=>rfl) row).keep (zn _) fun z _ hz=>⟨rfl,by omega,by omega⟩,fun y hy=>⟨(hdv y hy).1,fun _ z e=>by have:=(hdv y hy).2 z e;exact ⟨by omega,by omega⟩⟩,t0,t1⟩
  have hsm : ∀ m∈ML.map MvX.m,m.wire<9223372036854775808/\m.n<9223372036854775808:=hsmall _ hM'.symm
  have T:=fun l sb=>rq_fin hcl (d:=d) (s:=s) (l:=l) (sb:=sb) om (y:=⟨t,iv,ol,ov,ML,mv⟩) a A (by rw [hp,<- hM'];rfl) hsm
  rw [<- hT2] at T
  clear ih A a
  refine qx ?_
  exact T _ _
 have hr0:ws.drop n≠[]:=fun e=>by have:=congrArg List.length e;simp at this;omega
 have hw0:ws.drop (0+n*1)=ws.drop n:=by rw [zG,Nat.mul_one]
 obtain ⟨v,k1,e1,xs,kk,rfl,o1,hxl,hx1,hno,hyes⟩:=rq_move hcl (d:=d) (h:=k) (q:=q) (o:=0+n*1) (c:=c.less n) (ws:=ws) (r:=ws.drop n) om gq a.q2 hw0 hl (by rw [List.length_drop];omega) hr0
 rw [List.length_drop] at e1
 have hset:jal ([.i 0,.i 0,.i 0,.nils]:List V) 0 xs=xs:=by
  match xs,hxl with
  | [p,q,r,s],_=>rfl
 rw [mdsR_step hr0] at hM
 have a1:=a.keep o1
 have o2:Old k1 ((k1.new (.cells [.i 0,.i 0,.i 0,.nils] false)).set k1.nx (.cells xs false)):=(zX k1).new.set (zn _)
 have gm:((k1.new (.cells [.i 0,.i 0,.i 0,.nils] false)).set k1.nx (.cells xs false)).get k1.nx=some (.cells xs false):=jab _
 obtain ⟨C2,hC2⟩ : ∃ C,C=c40_2:=⟨_,rfl⟩
 have hkn:=o1.1
 rw [hC3] at ih ⊢
 simp only [c40_3,<- hC2,yF] at ih ⊢
 clear hC3
 refine qx ?_
 refine Ops.slice_l (sz:=1) rfl rfl hn hc ?_
 refine qx ?_
 refine zcu (ob := .cells [.i 0,.i 0,.i 0,.nils] false) (mk:=fun b=>.p b 0) rfl rfl ?_
 refine zct (n:=4) (o:=0) (vs:=xs) rfl rfl hxl hx1 (jac _) Zd ?_
 rw [hset]
 generalize hG:(k1.new (.cells [.i 0,.i 0,.i 0,.nils] false)).set k1.nx (.cells xs false)=G at o2 gm ⊢
 have hGn:G.nx=k1.nx+1:=by rw [<- hG];simp
 have a2:=a1.keep o2
 have gX2:=a2.X_
 have gR2:=a2.R_
 refine qx ?_
 rw [hC2] at ih ⊢
 clear hC2 hG
 have o3:=o1.trans o2
 have hmvone:mv.one=true:=by rcases row with ⟨_,_,rfl⟩ | ⟨_,_,_,rfl,_⟩<;>rfl
 cases hm:mdR (ws.drop n) with
 | none=>
  obtain rfl:=hno hm
  rw [hm] at hM
  have hM':none=M0:=hM
  rw [<- hM'] at hp
  have hall:=jdM (t:=t) (iv:=iv) hov hmvone
  have K:RdP h s (.tup [.agg [.int .u64 t,.bool iv,ov,mv],.bool false]) (G.set R (.cells [.int .u64 t,.bool iv,ov,mv] false)) :=
   ⟨_,false,rfl,a2.o.set r1,rfl,hall,(fun e=>by cases e),fun _=>jiK hp⟩
  clear ih a a1 a2 hno hyes
  refine qx ?_
  refine zcw rfl gX2 Zd ?_
  refine zct (vs:=[.int .u64 t,.bool iv,ov,mv]) rfl rfl rfl hall gR2 Zd ?_
  rw [show jal ([.int .u64 0,.bool false,.nils,.nils]:List V) 0 [.int .u64 t,.bool iv,ov,mv]=[.int .u64 t,.bool iv,ov,mv] from rfl]
  refine qx ?_
  exact jdS (jab _) rfl K
 | some x=>
  obtain ⟨m,t'⟩:=x
  obtain ⟨hkk,dv,rfl,hvb,hvz⟩:=hyes m t' hm
  have hlt':=jih hm
  have hsuf:=mdR_suf hm
  rw [hm] at hM
  simp only at hM
  generalize hpp:(ws.drop n).length-t'.length=p at hkk hsuf
  rw [List.length_drop] at hpp hlt'
  subst hkk
  rw [List.drop_drop] at hsuf
  have hnp:n+p<=ws.length:=by omega
  have hp1:1<=p:=by omega
  have h0 : ¬ (p:Int)=0:=by omega
  have hadd:(n:Int)+(p:Int)=((n+p:Nat):Int):=by omega
  have q3:([.int .u64 t,.bool iv,ov,mv]:List V)[0+3]?=some mv:=rfl
  have hmv1:=jkg (m:=m) (dv:=dv) (by
   obtain ⟨_,_,e,_⟩:=hvb
   rw [e];rfl)
  have row2:Row g.nx G 4 mv ML.length (ML.map MvX.V).flatten:=row.keep o3.1 fun z hz=>o3.2 z (row.at_ge hz).2
  have hdv2 : ∀ y∈ML++[(⟨m,dv⟩:MvX)],VB G y.dv y.m.D /\ ∀ z,y.dv.at?=some z->g.nx<=z:=fun y hy=>by
   rcases zF.1 hy with hy | hy
   ·obtain ⟨p1,p2⟩:=hdv y hy
    exact ⟨p1.keep2 o3.1 fun hl z hz=>o3.2 z (p1.lt hl hz),p2⟩
   ·obtain rfl:=List.mem_singleton.1 hy
    exact ⟨hvb.keep2 o2.1 fun hl z hz=>o2.2 z (hvb.lt hl hz),fun z hz=>zu hx (hvz z hz)⟩
  have hne : ∀ y∈ML++[(⟨m,dv⟩:MvX)],y.m.D≠[] -> ∀ z,y.dv.at?=some z->mv.at?≠some z/\g.nx<=z/\z<G.nx:=fun y hy hD z hz=>
   ⟨jcu row2 (fun y hy=>⟨_,_,(hdv2 y (List.mem_append_left _ hy)).1⟩) (hdv2 y hy).1 hD hz,(hdv2 y hy).2 z hz,(hdv2 y hy).1.lt hD hz⟩
  have hv2:VI G ov ol:=hv.keep2 o3.1 fun hl z e=>o3.2 z (hv.lt hl e)
  clear row hdv hyes hno hvb hvz hv
  refine qx ?_
  refine zcw rfl gm Zd ?_
  rw [show ((mvV m dv).drop 0).take 4=mvV m dv from rfl]
  refine Ops.push (N:=g.nx) (n:=ML.length) (new:=mvV m dv) rfl rfl rfl hmv1 om rfl rfl row2 om om om fun w g3 row3 hx4 hz4 hk4=>?_
  have hw1:w.one=true:=by rcases row3 with ⟨e,_⟩ | ⟨_,_,_,rfl,_⟩<;>first | rfl | (omega)
  have hlt3 : ∀ j,j<g.nx->g3.get j=G.get j:=fun j hj=>hk4 j om fun e=>by have:=(row2.at_ge e).1;omega
  have a3:=a2.keep2 (M:=g.nx) hx4 hlt3 y1 y2 y3 y4
  have a4:QS h R X q ws [.int .u64 t,.bool iv,ov,w] (g3.set X (.cells [.int .u64 t,.bool iv,ov,w] false)):=a3.set
  have gX3:=a3.X_
  have hwz : ∀ z,w.at?=some z->g.nx<=z:=fun z hz=>(row3.at_ge hz).1
  have hr:((ML++[(⟨m,dv⟩:MvX)]).map MvX.V).flatten=(ML.map MvX.V).flatten++mvV m dv:=by simp
  refine qx ?_
  refine zcs rfl rfl hw1 gX3 Zd ?_
  rw [show ([.int .u64 t,.bool iv,ov,mv]:List V).set (0+3) w=[.int .u64 t,.bool iv,ov,w] from rfl]
  refine qx ?_
  rw [hadd]
  refine ih (ws.length-(n+p)) om _ _ ⟨n+p,ML++[⟨m,dv⟩],w,_,rfl,hnp,by simp;omega,rfl,a4,?_,fun y hy=>⟨(hdv2 y hy).1.keep2 Zc fun hD z hz=>?_,(hdv2 y hy).2⟩,hv2.keep2 Zc fun hl z e=>?_,by simp;omega,?_⟩
  ·rw [hr,show (ML++[(⟨m,dv⟩:MvX)]).length=ML.length+1 by simp]
   exact row3.keep Zd fun z hz=>jaa (by have:=hwz z hz;omega)
  ·obtain ⟨z1,z2,z3⟩:=hne y hy hD z hz
   rw [jaa om,hk4 z z3 z1]
  ·have:=hz0 hl z e
   rw [jaa (hz z e).2.2,hlt3 z this]
  ·rw [<- hM,<- hsuf]
   cases mdsR t'.length t'<;>simp
end
end Am.Sigs
