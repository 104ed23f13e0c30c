/- Our own library, part 21. -/
import Derived.Test.YtjpkpdlpolnehaaGreatDoorV20
set_option maxHeartbeats 8000000
set_option maxRecDepth 800
set_option linter.all false
namespace Am.Sigs
open Am Go
theorem SpsN.atF {h:H} {v:V} {l:List SpX} (a:SpsN h v l) (hf:fewS l):jex h (· < h.nx) (· < h.nx) v l:=by
 obtain ⟨ad,c,e,g⟩:=a
 have hl:=hf.len
 exact ⟨(g om).2,fun x hx=>((g om).1 x hx).2 (hf.each x hx).1 (hf.each x hx).2.1 (hf.each x hx).2.2⟩
section
variable {cl:Nat->Call} (hcl:Sem cl)
include hcl
theorem jif {h0:H} (hnx:h0.nx=124006) (hwf : ∀ b,124006<=b->h0.get b=none) (_l3:h0.get 3=some (.cells ja3 true)) (_l4:h0.get 4=some (.cells ja2 true)) (l1:h0.get 1=some (.cells jaj true)) (l0:h0.get 0=some (.cells jal true))
  {x0:List (Int × Bool × List Int × List (Int × Int × Int × List Int × Unit) × Unit)} {u1:V} (rs:jbL 2000 jmu h0 x0 [u1]) {a:Int} {u2:V} (ra:jcx .u64 h0 a [u2]) {b:Int} {u3:V} (rb:jcx .u64 h0 b [u3]) :
  ∃ h',cl 31 (.fn 3) [u1,u2,u3] h0=some (.bool true,h'):=by
 suffices q : ∃ v h',cl 31 (.fn 3) [u1,u2,u3] h0=some (v,h')/\v = .bool true by
  obtain ⟨_,h',e,rfl⟩:=q;exact ⟨h',e⟩
 obtain ⟨⟨⟩,a0,a1⟩:=ra
 obtain ⟨⟨⟩,b0,b1⟩:=rb
 obtain ⟨h1,ea,kx,kk⟩:=alive_in hcl hnx hwf l1 l0
 obtain ⟨S,hS0,hT0⟩:=spsN_of rs
 have hS:=hS0.keepK kx kk
 have hT:=hT0.keepK kx kk
 have P:Pw h1:=⟨by show 1<h1.nx;omega,_,_,kk 1 _ om l1,by kernel_rfl⟩
 obtain ⟨gv,eg,hg⟩:=gs_ok hcl (d:=30) om hT
 obtain ⟨ads,cs,rfl,_⟩:=id hT
 clear rs hS0 hT0 kk hwf _l3 _l4 l1 l0
 refine aT hcl ?_
 obtain ⟨C8,hC8⟩ : ∃ C,C=c3_8:=⟨_,rfl⟩
 simp only [c3,c3_12,c3_11,c3_10,c3_9,c3_7,<- hC8,yA,yB,yC,yH]
 rcases hg with rfl | ⟨rfl,hfs⟩
 ·clear hS hT P
  refine qx ?_
  rfl
 by_cases ka:a>=4611686018427387904
 ·clear hS hT P
  refine qx ?_
  rfl
 by_cases kb:b>=4611686018427387904
 ·clear hS hT P
  refine qx ?_
  rfl
 have hSA:=hS.atF hfs
 have hl:=hfs.len
 by_cases hm : ∀ x∈S,x.sp.may
 case neg=>
  obtain ⟨g1,e1,o1⟩:=jhw hcl (d:=30) om hSA om hm
  obtain ⟨g2,e2,o2⟩:=jhw hcl (d:=30) om (hSA.old o1) om hm
  clear hS hT P hSA
  refine qx ?_
  rfl
 obtain ⟨sa,ba,L,g1,e1,o1,q1,A⟩:=jme hcl (d:=30) om hSA om hm
 obtain ⟨sb,bb,M,g2,e2,o2,q2,B⟩:=jme hcl (d:=30) om (hSA.old o1) om hm
 obtain ⟨w1,s1,ow1,g3,e3,W1,o3,z1⟩:=nw_W hcl (d:=30) (h:=g2) om
 obtain ⟨w2,s2,ow2,g4,e4,W2,o4,z2⟩:=nw_W hcl (d:=30) (h:=g3) om
 obtain ⟨_,g5,owA,e5,⟨_,_,_,rfl⟩,W1a,t5⟩:=ot_W hcl (d:=30) om (W1.old o4)
 have hk2 : ∀ j,ow2 j≠0->g5.get j=g4.get j:=fun j hj=>t5.ch.get j (z2 j hj).2 fun e=>by
  have:=z1 j e;have:=z2 j hj;omega
 obtain ⟨_,g6,owB,e6,⟨_,_,_,rfl⟩,W2a,t6⟩:=ot_W hcl (d:=30) om (W2.keep t5.ch.nx hk2)
 have y1:=o1.1
 have y2:=o2.1
 have y3:=o3.1
 have y4:=o4.1
 have y5:=t5.ch.nx
 have y6:=t6.ch.nx
 have zA : ∀ j,owA j≠0->(g2.nx<=j/\j<g3.nx)\/g4.nx<=j:=fun j hj=>by
  rcases zu j g4.nx with h | h
  ·rw [t5.tag j h] at hj;exact .inl (z1 j hj)
  ·exact .inr h
 have zB : ∀ j,owB j≠0->g2.nx<=j/\owA j=0:=fun j hj=>by
  rcases zu j g5.nx with h | h
  ·rw [t6.tag j h] at hj
   have q:=z2 j hj
   refine ⟨by omega,?_⟩
   rw [t5.tag j q.2]
   rcases Nat.eq_zero_or_pos (ow1 j) with k | k
   ·exact k
   ·have:=z1 j om;omega
  ·exact ⟨by omega,W1a.top h⟩
 have low : ∀ j,j<g2.nx->g6.get j=g2.get j:=fun j hj=>by
  rw [t6.ch.get j om fun e=>by have:=z2 j e;omega,t5.ch.get j om fun e=>by have:=z1 j e;omega,o4.2 j om,o3.2 j hj]
 have W1b:WO g6 w1 s1 owA stT:=⟨W1a.keep y6 fun j hj=>t6.ch.get j (W1a.lt_of hj) fun e=>by
  have q:=z2 j e
  rcases zA j hj with k | k<;>omega⟩
 have few : ∀ x∈S.map SpX.sp,x.few:=fun x hx=>by
  obtain ⟨y,hy,rfl⟩:=List.mem_map.1 hx
  obtain ⟨f1,f2,f3⟩:=hfs.each y hy
  exact ⟨by simpa [SpX.sp] using f1,f2,fun m hmm=>by
   obtain ⟨z,hz,rfl⟩:=List.mem_map.1 hmm
   exact f3 z hz⟩
 have tick : ∀ x∈S.map SpX.sp,0<=x.ticks:=fun x hx=>by
  obtain ⟨y,hy,rfl⟩:=List.mem_map.1 hx
  exact (hSA.2 y hy).t0
 have P6:Pw g6:=(P.old (o1.trans o2)).keepT om (low _ ((P.old (o1.trans o2)).1))
 obtain ⟨C6,hC6⟩ : ∃ C,C=c3_6:=⟨_,rfl⟩
 have T:=fun (sbe:Env)=>mt_sleeps hcl (d:=30) (g:=g6) (sbe:=sbe) (a:=a) (b:=b) om P6 (n0:=h1.nx) (n1:=g1.nx) (n2:=g2.nx) (by show 1<h1.nx;omega) W1b ⟨W2a⟩ (A.keep om fun j hj _ _=>by rw [low j om,o2.2 j hj]) (B.keep om fun j hj _ _=>low j hj) y1 y2 om (fun j hj=>by rcases zA j hj with k | k<;>omega) zB (by rw [q1,q2]) (by rw [q1];exact few) (by rw [q1];exact tick) (by have:=congrArg List.length q1;simp at this;omega) (by rw [jiF q1];exact hfs.sum) a0 om b0 om
 rw [<- hC6] at T
 clear hS hT P P6 hSA few tick W1b W1 W2 W1a W2a A B zA zB low hk2 z1 z2 t5 t6 hfs hm q1 q2
 subst hC8
 simp only [c3_8,<- hC6,yH]
 refine qx ?_
 exact T _
end
end Am.Sigs
