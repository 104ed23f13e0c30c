/- Our own library, part 23: an abstract machine, sound for the model, and what the functions do over it. No condition. -/
import Derived.Test.YtkcenemffnfoeaaGreatK17
import Derived.Test.YtkcenemffnfoeaaGreatK20
import Derived.Test.YtkcenemffnfoeaaGreatK13
import Derived.Test.YtkcenemffnfoeaaGreatK15
import Derived.Test.YtkcenemffnfoeaaGreatK14
import Derived.Test.YtkcenemffnfoeaaGreatK18
import Derived.Test.YtkcenemffnfoeaaGreatK19
set_option maxHeartbeats 8000000
set_option linter.all false
namespace Am.Sigs
open Am Go
def VP (h:H) (v:V) (l:List (Int × Int)):Prop := ∃ a c,v = .slice a l.length c/\(l≠[] -> ∃ b o cs ro,a=some (b,o)/\b<h.nx/\h.get b=some (.cells cs ro)/\o+l.length*2<=cs.length /\ ∀ (i:Nat) (p:Int × Int),l[i]?=some p->(cs.drop (o+i*2)).take 2=[.i p.1,.i p.2])
theorem VP.keep {h h':H} {v:V} {l:List (Int × Int)} (a:VP h v l) (o:Old h h'):VP h' v l:=by
 obtain ⟨a,c,rfl,g⟩:=a
 refine ⟨a,c,rfl,fun hl=>?_⟩
 obtain ⟨b,o',cs,ro,rfl,h1,h2,h3⟩:=g hl
 exact ⟨b,o',cs,ro,rfl,Nat.lt_of_lt_of_le h1 o.1,by rw [o.2 _ h1,h2],h3⟩
theorem VP.get {h:H} {a:Option (Nat × Nat)} {c:Cap} {l:List (Int × Int)} (v:VP h (.slice a l.length c) l) {i:Nat} {p:Int × Int} (hi:l[i]?=some p) :
  ∃ b o cs ro,a=some (b,o)/\b<h.nx/\h.get b=some (.cells cs ro)/\o+i*2+2<=cs.length/\(cs.drop (o+i*2)).take 2=[.i p.1,.i p.2]:=by
 obtain ⟨a',c',e,g⟩:=v
 cases e
 have hl:l≠[]:=by rintro rfl;simp at hi
 have hlt:i<l.length:=by
  rcases Nat.lt_or_ge i l.length with h | h
  ·exact h
  ·rw [List.getElem?_eq_none h] at hi;cases hi
 obtain ⟨b,o,cs,ro,rfl,h1,h2,h3,h4⟩:=g hl
 exact ⟨b,o,cs,ro,rfl,h1,h2,by omega,h4 i p hi⟩
def jnw (l:List (Int × Int)):Prop := ∀ p∈l,(-9223372036854775808<=p.1/\p.1<=9223372036854775807)/\(-9223372036854775808<=p.2/\p.2<=9223372036854775807)
def mayP (l:List (Int × Int)):Prop:=l.length<=96 /\ ∀ p∈l,jfh p.2
instance (l:List (Int × Int)):Decidable (mayP l):=inferInstanceAs (Decidable (_/\_))
section
variable {cl:Nat->Call} (hcl:Sem cl) {h:H} {w s:Nat} {ow:Nat->Nat} {ws:Ws} {now:Int} {tb:Tb} {no:Option (Nat × Nat)}
include hcl
theorem jnB {d:Nat} {v:V} {l:List (Int × Int)} (hd:1<=d) (hv:VP h v l) (hf:jnw l) (hl:l.length<=100000) :
  ∃ h',cl d (.fn F.pol_may) [.p w 0,v] h=some (.i (if mayP l then 0 else 2),h')/\Old h h':=by
 obtain ⟨a,c,rfl,_⟩:=id hv
 refine jak (at_ hcl om rfl rfl rfl ?_)
 by_cases h96:96<l.length
 ·have hn : ¬ mayP l:=fun e=>by have:=e.1;omega
  have h96':(96:Int)<(l.length:Int):=by omega
  rw [if_neg hn]
  clear hn hf
  refine qx1 ?_
  exact ⟨rfl,Old.refl _⟩
 have h96' : ¬ (96:Int)<(l.length:Int):=by omega
 refine qx1 ?_
 refine Run.loop (fun m e g=>∃ i:Nat,m=l.length-i/\i<=l.length/\e=[(12,.slice a l.length c),(13,.i (l.length:Int)),(14,.i (i:Int))]/\Old h g /\ ∀ j p,j<i->l[j]?=some p->jfh p.2)
  (k:=l.length) (by show _<100000;omega) ⟨0,rfl,by omega,rfl,Old.refl _,fun j p hj=>by omega⟩ ?_
 rintro _ _ g ⟨i,rfl,hi,rfl,og,hall⟩ n2 ih
 by_cases hlt:(i:Int)<l.length
 case neg=>
  have hm:mayP l:=⟨by omega,fun p hp=>by
   obtain ⟨j,hj,e⟩:=List.getElem_of_mem hp
   exact hall j p om (by rw [List.getElem?_eq_getElem hj,e])⟩
  rw [if_pos hm]
  clear ih hall hf hm
  refine qx1 ?_
  exact ⟨rfl,og⟩
 have hp:=List.getElem?_eq_getElem (show i<l.length by omega)
 have hpm:=List.mem_of_getElem? hp
 generalize l[i]=p at hp hpm
 obtain ⟨b,o,cs,ro,rfl,hb,hcs,ho,hg⟩:=(hv.keep og).get hp
 have hfp:=hf p hpm
 have hg':(cs.drop (o+(i:Int).toNat*2)).take 2=[.i p.1,.i p.2]:=by rw [Int.toNat_natCast];exact hg
 have hi1:(i:Int)+1=((i+1:Nat):Int):=by omega
 by_cases hm:jfh p.2
 ·have hz:=(jlp hfp.2.1 hfp.2.2).2 hm
  clear hf
  refine qx1 ?_
  refine Ops.loadN rfl hcs om ?_
  rw [hg']
  repeat' (first|refine qmy ?_|refine zbf rfl (fun _=>?_) fun _=>?_|refine zbg rfl (fun _=>?_) fun _=>?_|refine zbh rfl (fun _=>?_) fun _=>?_|refine zbm rfl (fun _=>?_) fun _=>?_|refine zbn rfl (fun _=>?_) fun _=>?_)
  ·rename_i hx
   exact absurd hz hx
  rw [hi1]
  refine ih (l.length-(i+1)) om _ _ ⟨i+1,rfl,by omega,rfl,og.new.set og.1,fun j q hj hq=>?_⟩
  rcases Nat.lt_or_ge j i with h1 | h1
  ·exact hall j q h1 hq
  ·obtain rfl:j=i:=by omega
   rw [hp] at hq;cases hq;exact hm
 ·have hz : ¬ IntKind.i64.wrap (BitVec.ofInt 64 p.2 &&& ~~~(BitVec.ofInt 64 5)).toNat=0:=fun e=>hm ((jlp hfp.2.1 hfp.2.2).1 e)
  have hn : ¬ mayP l:=fun e=>hm (e.2 p hpm)
  rw [if_neg hn]
  clear hf hn ih hall
  refine qx1 ?_
  refine Ops.loadN rfl hcs om ?_
  rw [hg']
  refine qm1 ?_
  exact ⟨rfl,og.new.set og.1⟩
end
end Am.Sigs
namespace Am.Sigs
open Am Go
end Am.Sigs
namespace Am.Sigs
open Am Go
section
variable {cl:Nat->Call} (hcl:Sem cl) {h:H} {w s:Nat} {ow:Nat->Nat} {ws:Ws} {now:Int} {tb:Tb} {no:Option (Nat × Nat)}
include hcl
theorem pl_is {d:Nat} {fd ev:Int} (hd:6<=d) (a:WSt h w s ow ws now tb no) (o:WsOk ws) (hm:jfh ev) :
  ∃ h',cl d (.fn F.pol_is) [.p w 0,.agg [.i fd,.i ev]] h=some (.i (jdo (rdyS ws fd) fd ev),h')/\Old h h':=by
 have o0:Old h (h.new (.cells [.i fd,.i ev] false)):=(Old.refl h).new
 have g0:(h.new (.cells [.i fd,.i ev] false)).get h.nx=some (.cells [.i fd,.i ev] false):=jad _
 have x0:(h.new (.cells [.i fd,.i ev] false)).nx=h.nx+1:=rfl
 obtain ⟨h1,e1,o1⟩:=jeg hcl (d:=d-1) (fd:=fd) om (a.old o0) o
 rw [jeF] at e1
 generalize rdyS ws fd=r at e1 ⊢
 obtain ⟨op,inn,out,hup,err,rd,wr⟩:=r
 simp only [Rdy.cells] at e1
 have g1:h1.get h.nx=some (.cells [.i fd,.i ev] false):=by rw [o1.2 _ om,g0]
 have x1:=o1.1
 have oE : ∀ c:List V,Old h ((h1.new (.cells [.bool false,.bool false,.bool false,.bool false,.bool false,.int .u64 0,.int .u64 0] false)).set h1.nx (.cells c false)):=fun c=>(o0.trans o1).new.set om
 refine jak (at_ hcl om rfl rfl rfl ?_)
 clear a o
 by_cases hfd:fd<0
 ·have hp:jdo ⟨op,inn,out,hup,err,rd,wr⟩ fd ev=0:=if_pos hfd
  rw [hp]
  clear hm
  refine qm1 ?_
  exact ⟨rfl,oE _⟩
 cases op
 ·have hp:jdo ⟨false,inn,out,hup,err,rd,wr⟩ fd ev=32:=by unfold jdo;rw [if_neg hfd];rfl
  rw [hp]
  clear hm
  refine qm1 ?_
  exact ⟨rfl,oE _⟩
 have hp:jdo ⟨true,inn,out,hup,err,rd,wr⟩ fd ev=b2i hup 16+b2i (inn&&decide (ev=1\/ev=5)) 1+b2i (out&&decide (ev=4\/ev=5)) 4+b2i err 8:=by
  unfold jdo;rw [if_neg hfd];rfl
 rw [hp]
 clear hp
 cases hup<;>cases inn<;>cases out<;>cases err<;>rcases hm with rfl | rfl | rfl | rfl
 all_goals
  repeat' (first|refine qmy ?_|refine zbf rfl (fun _=>?_) fun _=>?_|refine zbg rfl (fun _=>?_) fun _=>?_|refine zbh rfl (fun _=>?_) fun _=>?_|refine zbm rfl (fun _=>?_) fun _=>?_|refine zbn rfl (fun _=>?_) fun _=>?_)
  exact ⟨rfl,oE _⟩
theorem jj7 {d L c2 c3:Nat} {v:V} {l:List (Int × Int)} (hd:8<=d) (o:WsOk ws) (hm : ∀ p∈l,jfh p.2) (hl:l.length<=1000) (I:Nat->H->Prop) (J:H->Prop)
  (hW : ∀ i g,I i g->WSt g w s ow ws now tb no/\VP g v l/\g.get c3=some (.cells [v] false)/\g.get c2=some (.cells [.p w 0] false)/\c2<g.nx)
  (hI : ∀ i g g',I i g->Old g g'->I i g')
  (hy : ∀ i g p,l[i]?=some p->I i g -> ∃ (b:Bool) (g':H),cl (d-1) (.yld L) [.i (jdo (rdyS ws p.1) p.1 p.2)] g=some (.bool b,g')/\(b=true->I (i+1) g')/\(b=false->J g'))
  (h0:I 0 h) : ∃ v' h',cl d (.fn F.jen) [.yld L,.p c3 0,.p c2 0] h=some (v',h')/\(I l.length h'\/J h'):=by
 obtain ⟨_,hv,hc3,_⟩:=hW _ _ h0
 obtain ⟨a,c,rfl,_⟩:=id hv
 refine at_ hcl om rfl rfl rfl ?_
 refine qx1 ?_
 refine Run.loop (fun m e g=>∃ i:Nat,m=l.length-i/\i<=l.length/\e=[(0,.yld L),(2,.p c2 0),(6,.slice a l.length c),(7,.i (l.length:Int)),(8,.i (i:Int))]/\I i g)
  (k:=l.length) (by show _<100000;omega) ⟨0,rfl,by omega,rfl,h0⟩ ?_
 clear hc3
 rintro _ _ g ⟨i,rfl,hi,rfl,hIi⟩ n2 ih
 by_cases hlt:(i:Int)<l.length
 case neg=>
  obtain rfl:i=l.length:=by omega
  clear ih hI hy hW hm
  refine qx1 ?_
  exact .inl hIi
 have hp:=List.getElem?_eq_getElem (show i<l.length by omega)
 have hpm:=List.mem_of_getElem? hp
 generalize l[i]=p at hp hpm
 obtain ⟨_,hv1,_⟩:=hW _ _ hIi
 obtain ⟨b,o',cs,ro,rfl,hb,hcs,ho,hg⟩:=hv1.get hp
 have hg':(cs.drop (o'+(i:Int).toNat*2)).take 2=[.i p.1,.i p.2]:=by rw [Int.toNat_natCast];exact hg
 have hi1:(i:Int)+1=((i+1:Nat):Int):=by omega
 have o1:Old g ((g.new (.cells [.i 0,.i 0] false)).set g.nx (.cells [.i p.1,.i p.2] false)):=(Old.refl g).new.set (Nat.le_refl _)
 have I1:=hI _ _ _ hIi o1
 obtain ⟨W1,_,_,hc2,lc2⟩:=hW _ _ I1
 obtain ⟨g2,e2,o2⟩:=pl_is hcl (d:=d-1) (fd:=p.1) (ev:=p.2) om W1 o (hm p hpm)
 obtain ⟨b',g',e3,q1,q2⟩:=hy i g2 p hp (hI _ _ _ I1 o2)
 clear hW hI hy hm
 refine qx1 ?_
 refine Ops.loadN rfl hcs om ?_
 rw [hg']
 cases b'
 ·refine qm1 ?_
  refine Ops.yield rfl rfl e3 ?_
  refine qm1 ?_
  exact .inr (q2 rfl)
 ·refine qm1 ?_
  refine Ops.yield rfl rfl e3 ?_
  refine qm1 ?_
  rw [hi1]
  exact ih (l.length-(i+1)) om _ _ ⟨i+1,rfl,by omega,rfl,q1 rfl⟩
end
end Am.Sigs
namespace Am.Sigs
open Am Go
noncomputable def polL (ws:Ws) (l:List (Int × Int)):List Int:=l.map fun p=>jdo (rdyS ws p.1) p.1 p.2
theorem polL_len (ws:Ws) (l:List (Int × Int)):(polL ws l).length=l.length:=by simp [polL]
def cntP:List Int->Int
 | []=>0
 | x :: l=>min x 1+cntP l
theorem jhi (x:Int) : ∀ l,cntP (l++[x])=cntP l+min x 1
 | []=>by simp [cntP]
 | y :: l=>by rw [List.cons_append,cntP,jhi x l,cntP];omega
theorem jiK {l:List Int} (h : ∀ x∈l,0<=x):0<=cntP l/\cntP l<=l.length:=by
 induction l with
 | nil=>simp [cntP]
 | cons x l ih=>
  have h1:=h x (by simp)
  have h2:=ih fun y hy=>h y (by simp [hy])
  rw [cntP,List.length_cons];omega
theorem ji2 (ws:Ws) (l:List (Int × Int)) : ∀ x∈polL ws l,0<=x:=by
 intro x hx
 obtain ⟨p,_,rfl⟩:=List.mem_map.1 hx
 exact (ji3 _ _ _).1
theorem jj6 {ws:Ws} {l:List (Int × Int)} {i:Nat} {p:Int × Int} (hp:l[i]?=some p):polL ws (l.take (i+1))=polL ws (l.take i)++[jdo (rdyS ws p.1) p.1 p.2]:=by
 unfold polL
 rw [List.take_add_one,hp];simp
section
variable {cl:Nat->Call} (hcl:Sem cl) {h:H} {w s:Nat} {ow:Nat->Nat} {ws:Ws} {now:Int} {tb:Tb} {no:Option (Nat × Nat)}
include hcl
theorem jmS {d n:Nat} {a:Option (Nat × Nat)} {c:Cap} (hd:1<=d):cl d (.fn F.pol_told) [.p w 0,.slice a n c] h=some (.clo F.jen [.p (h.nx+1) 0,.p h.nx 0],(h.new (.cells [.p w 0] false)).new (.cells [.slice a n c] false)):=by
 refine jap (at_ hcl om rfl rfl rfl ?_)
 refine qm1 ?_
 exact ⟨rfl,rfl⟩
theorem pl_poll {d:Nat} {v:V} {l:List (Int × Int)} (hd:10<=d) (a:WSt h w s ow ws now tb no) (o:WsOk ws) (hv:VP h v l) (hf:jnw l) (hl:l.length<=1000) :
  ∃ v' h',cl d (.fn F.pol_Poll) [.p w 0,v] h=some (v',h')/\Old h h'/\((¬ mayP l/\v' = .tup [.nils,.i 0,.i 2])\/(mayP l /\ ∃ ov,v' = .tup [ov,.i (cntP (polL ws l)),.i 0]/\Row h.nx h' 1 ov l.length (ints (polL ws l)))):=by
 obtain ⟨h1,e1,o1⟩:=jnB hcl (d:=d-1) (w:=w) om hv hf om
 by_cases hm:mayP l
 case neg=>
  rw [if_neg hm] at e1
  refine at_ hcl om rfl rfl rfl ?_
  clear hf
  refine qx1 ?_
  exact ⟨o1,.inl ⟨hm,rfl⟩⟩
 rw [if_pos hm] at e1
 obtain ⟨av,cv,rfl,_⟩:=id hv
 refine at_ hcl om rfl rfl rfl ?_
 clear hf
 refine qm1 ?_
 refine Ops.callf rfl (jmS hcl (w:=w) om) ?_
 refine qx1 ?_
 have oH:Old h1 ((((h1.new (.cells [.nils] false)).new (.cells [.i 0] false)).set (h1.nx+1) (.cells [.i 0] false)).new (.cells [.p w 0] false)):=((Old.refl h1).new.new.set om).new
 have oH:Old h1 (((((h1.new (.cells [.nils] false)).new (.cells [.i 0] false)).set (h1.nx+1) (.cells [.i 0] false)).new (.cells [.p w 0] false)).new (.cells [.slice av l.length cv] false)):=oH.new
 have b0:(((((h1.new (.cells [.nils] false)).new (.cells [.i 0] false)).set (h1.nx+1) (.cells [.i 0] false)).new (.cells [.p w 0] false)).new (.cells [.slice av l.length cv] false)).get h1.nx=some (.cells [.nils] false):=qgt
 have b1:(((((h1.new (.cells [.nils] false)).new (.cells [.i 0] false)).set (h1.nx+1) (.cells [.i 0] false)).new (.cells [.p w 0] false)).new (.cells [.slice av l.length cv] false)).get (h1.nx+1)=some (.cells [.i 0] false):=qgt
 have b2:(((((h1.new (.cells [.nils] false)).new (.cells [.i 0] false)).set (h1.nx+1) (.cells [.i 0] false)).new (.cells [.p w 0] false)).new (.cells [.slice av l.length cv] false)).get (h1.nx+2)=some (.cells [.p w 0] false):=qgt
 have b3:(((((h1.new (.cells [.nils] false)).new (.cells [.i 0] false)).set (h1.nx+1) (.cells [.i 0] false)).new (.cells [.p w 0] false)).new (.cells [.slice av l.length cv] false)).get (h1.nx+3)=some (.cells [.slice av l.length cv] false):=qgt
 have x1:(((((h1.new (.cells [.nils] false)).new (.cells [.i 0] false)).set (h1.nx+1) (.cells [.i 0] false)).new (.cells [.p w 0] false)).new (.cells [.slice av l.length cv] false)).nx=h1.nx+4:=rfl
 change Run (cl (d-1)) fuel _ _ [(8,.p h1.nx 0),(9,.p (h1.nx+1) 0),(19,.clo F.jen [.p (h1.nx+3) 0,.p (h1.nx+2) 0])] (((((h1.new (.cells [.nils] false)).new (.cells [.i 0] false)).set (h1.nx+1) (.cells [.i 0] false)).new (.cells [.p w 0] false)).new (.cells [.slice av l.length cv] false)) _
 generalize ((((h1.new (.cells [.nils] false)).new (.cells [.i 0] false)).set (h1.nx+1) (.cells [.i 0] false)).new (.cells [.p w 0] false)).new (.cells [.slice av l.length cv] false)=H1 at oH b0 b1 b2 b3 x1 ⊢
 have hx1:=o1.1
 refine Run.rangeFunc_lo rfl qkp fun LO hLO=>?_
 rw [x1]
 have oL:Old h1 (H1.new (LO .ready none)):=oH.new
 obtain ⟨v',h',hc,hIJ⟩:=jj7 hcl (d:=d-1) (L:=h1.nx+4) (c2:=h1.nx+2) (c3:=h1.nx+3) (h:=H1.new (LO .ready none)) (v := .slice av l.length cv) (l:=l) (w:=w) (s:=s) (ow:=ow) (ws:=ws) (now:=now) (tb:=tb) (no:=no) om o hm.2 hl
  (fun i g=>i<=l.length/\(∃ sv,g.get h1.nx=some (.cells [sv] false)/\Row (h1.nx+5) g 1 sv i (ints (polL ws (l.take i))))/\g.get (h1.nx+1)=some (.cells [.i (cntP (polL ws (l.take i)))] false)/\g.get (h1.nx+2)=some (.cells [.p w 0] false)/\g.get (h1.nx+3)=some (.cells [.slice av l.length cv] false)/\g.get (h1.nx+4)=some (LO .ready none)/\h1.nx+5<=g.nx/\Old h1 g)
  (fun _=>False)
  (fun i g ⟨_,_,_,p2,p3,_,p5,p6⟩=>⟨(a.old o1).old p6,(hv.keep o1).keep p6,p3,p2,by omega⟩)
  (by
   rintro i g g' ⟨p00,⟨sv,p0,pr⟩,p1,p2,p3,p4,p5,p6⟩ og
   exact ⟨p00,⟨sv,by rw [og.2 _ om,p0],pr.keep og.1 fun z hz=>og.2 z (pr.at_ge hz).2⟩,by rw [og.2 _ om,p1],by rw [og.2 _ om,p2],by rw [og.2 _ om,p3],by rw [og.2 _ om,p4],Nat.le_trans p5 og.1,p6.trans og⟩)
  (by
   rintro i g p hp ⟨p00,⟨sv,p0,pr⟩,p1,p2,p3,p4,p5,p6⟩
   have hlt:i<l.length:=by
    rcases Nat.lt_or_ge i l.length with h | h
    ·exact h
    ·rw [List.getElem?_eq_none h] at hp;cases hp
   have et:=jj6 (ws:=ws) hp
   have hcn:=jiK (ji2 ws (l.take i))
   rw [polL_len,List.length_take] at hcn
   have hx:=ji3 (rdyS ws p.1) p.1 p.2
   rw [et]
   generalize polL ws (l.take i)=pl at p1 pr hcn ⊢
   generalize jdo (rdyS ws p.1) p.1 p.2=px at hx ⊢
   have ec:=jhi px pl
   have p2x:g.get (h1.nx+2)=some (.cells [.p w 0] false):=p2
   refine ⟨true,?_⟩
   suffices q : ∃ v' g',cl (d-1-1) (.yld (h1.nx+4)) [.i px] g=some (v',g')/\(v' = .bool true/\(i+1<=l.length/\(∃ sv,g'.get h1.nx=some (.cells [sv] false)/\Row (h1.nx+5) g' 1 sv (i+1) (ints (pl++[px])))/\g'.get (h1.nx+1)=some (.cells [.i (cntP (pl++[px]))] false)/\g'.get (h1.nx+2)=some (.cells [.p w 0] false)/\g'.get (h1.nx+3)=some (.cells [.slice av l.length cv] false)/\g'.get (h1.nx+4)=some (LO .ready none)/\h1.nx+5<=g'.nx/\Old h1 g')) by
    obtain ⟨_,g',e,rfl,q⟩:=q
    exact ⟨g',e,fun _=>q,fun e=>by cases e⟩
   obtain ⟨cp,⟨asv,rfl⟩,_⟩:=pr.shape
   refine yl_ hcl om hLO p4 rfl ?_
   clear a hv hm o hp p2 et
   refine qx1 ?_
   refine End.nil ⟨rfl,p4,?_⟩
   have pr2:Row (h1.nx+5) (g.set (h1.nx+4) (LO .busy none)) 1 (.slice asv i cp) i (ints pl):=pr.keep (by simp) fun z hz=>by have:=pr.at_ge hz;exact jaa om
   refine qx1 ?_
   refine Ops.push (N:=h1.nx+5) (new:=[.i px]) rfl rfl rfl rfl om rfl rfl pr2 (by simpa using p5) om om fun v2 g2 row' hx' hz' hk'=>?_
   have hx':g.nx<=g2.nx:=by simpa using hx'
   have hk2 : ∀ j,j<h1.nx+5->g2.get j=(g.set (h1.nx+4) (LO .busy none)).get j:=fun j hj=>hk' j (by simp;omega) fun e=>by have:=pr2.at_ge e;omega
   have q0:g2.get h1.nx=some (.cells [.slice asv i cp] false):=by rw [hk2 _ om,jaa om,p0]
   have q1:g2.get (h1.nx+1)=some (.cells [.i (cntP pl)] false):=by rw [hk2 _ om,jaa om,p1]
   have hone:=row'.one
   refine Ops.store1 rfl rfl hone q0 Nat.zero_lt_one ?_
   refine qx1 ?_
   refine Ops.store1 (l:=[.i (cntP pl)]) rfl rfl rfl (by rw [jaa om,q1]) Nat.zero_lt_one ?_
   refine qx1 ?_
   refine End.nil ⟨⟨.busy,none,by rw [jaa om,jaa om,hk2 _ om,jab]⟩,rfl,by omega,⟨v2,?_,?_⟩,?_,?_,?_,jab _,by simp;omega,?_⟩
   ·rw [jaa om,jaa om];exact jab _
   ·have r2:Row (h1.nx+5) g2 1 v2 (i+1) (ints (pl++[px])):=by simpa [ints] using row'
    exact r2.keep (by simp) fun z hz=>by have:=hz' z hz;simp at this;rw [jaa om,jaa om,jaa om]
   ·rw [jaa om,ec];exact jab _
   ·rw [jaa om,jaa om,jaa om,hk2 _ om,jaa om,p2x]
   ·rw [jaa om,jaa om,jaa om,hk2 _ om,jaa om,p3]
   ·have p7:=p6.1
    exact ⟨by simp;omega,fun j hj=>by rw [jaa om,jaa om,jaa om,hk2 _ om,jaa om,p6.2 j hj]⟩)
  ⟨by omega,⟨.nils,by rw [jac om,b0],by simpa [polL] using Row.nil _ _ _⟩,by rw [jac om,b1];simp [polL,cntP],by rw [jac om,b2],by rw [jac om,b3],by rw [<- x1,jad],by simp [x1],oL⟩
 refine hIJ.elim ?_ fun hF=>hF.elim
 rintro ⟨p00,⟨sv,p0,pr⟩,p1,p2,p3,p4,p5,p6⟩
 rw [List.take_length] at p1 pr
 refine ⟨v',h',hc,.normal,p4,?_⟩
 have k0:(h'.kill (h1.nx+4)).get h1.nx=some (.cells [sv] false):=by rw [jaf om,p0]
 have k1:(h'.kill (h1.nx+4)).get (h1.nx+1)=some (.cells [.i (cntP (polL ws l))] false):=by rw [jaf om,p1]
 have o9:Old h (h'.kill (h1.nx+4)):=⟨by have:=p6.1;show h.nx<=h'.nx;omega,fun j hj=>by rw [jaf om,p6.2 j om,o1.2 j hj]⟩
 have r9:Row h.nx (h'.kill (h1.nx+4)) 1 sv l.length (ints (polL ws l)):=by
  rcases pr with r | ⟨q,q1,q2,e,q4,q5⟩
  ·exact .inl r
  ·exact .inr ⟨q,by omega,q2,e,by rw [jaf om,q4],q5⟩
 obtain ⟨cp,⟨asv,rfl⟩,_⟩:=pr.shape
 clear a hv o hLO
 refine qx1 ?_
 exact ⟨o9,.inr ⟨hm,_,rfl,r9⟩⟩
end
end Am.Sigs
namespace Am.Sigs
open Am Go
theorem vp_of {h:H} {x:List (Int × Int)} {ad:Option (Nat × Nat)} {c:Cap} (hx:x≠[] -> ∃ b ro,ad=some (b,0)/\b<h.nx/\h.get b=some (.cells (jbw x) ro)):VP h (.slice ad x.length c) x:=by
 refine ⟨ad,c,rfl,fun hn=>?_⟩
 obtain ⟨b,ro,rfl,h1,h2⟩:=hx hn
 exact ⟨b,0,_,ro,rfl,h1,h2,by rw [jfE];omega,fun i p hp=>by rw [Nat.zero_add];exact jeo hp⟩
section
variable {cl:Nat->Call} (hcl:Sem cl)
include hcl
end
end Am.Sigs
namespace Am.Sigs
open Am Go
theorem jlw : ∀ a b:List Int,cntP (a++b)=cntP a+cntP b
 | [],b=>by simp [cntP]
 | x :: a,b=>by rw [List.cons_append,cntP,jlw a b,cntP];omega
theorem cntP_take {l:List Int} (h : ∀ x∈l,0<=x) (n:Nat):cntP (l.take n)<=cntP l:=by
 have e:=jlw (l.take n) (l.drop n)
 rw [List.take_append_drop] at e
 have:=(jiK (l:=l.drop n) fun x hx=>h x (List.mem_of_mem_drop hx)).1
 omega
theorem jmb (ws:Ws) (l:List (Int × Int)) (i:Nat):polL ws (l.take i)=(polL ws l).take i:=by
 unfold polL;rw [List.map_take]
section
variable {cl:Nat->Call} (hcl:Sem cl) {h:H} {w s:Nat} {ow:Nat->Nat} {ws:Ws} {now:Int} {tb:Tb} {no:Option (Nat × Nat)}
include hcl
theorem pl_holds {d:Nat} {v:V} {l:List (Int × Int)} (hd:10<=d) (a:WSt h w s ow ws now tb no) (o:WsOk ws) (hv:VP h v l) (hf:jnw l) (hl:l.length<=1000) :
  ∃ h',cl d (.fn F.jj2) [.p w 0,v] h=some (.bool (if mayP l then decide (0<cntP (polL ws l)) else true),h')/\Old h h':=by
 suffices q : ∃ v' h',cl d (.fn F.jj2) [.p w 0,v] h=some (v',h')/\(v' = .bool (if mayP l then decide (0<cntP (polL ws l)) else true)/\Old h h') by
  obtain ⟨_,h',e,rfl,q⟩:=q;exact ⟨h',e,q⟩
 obtain ⟨h1,e1,o1⟩:=jnB hcl (d:=d-1) (w:=w) om hv hf om
 by_cases hm:mayP l
 case neg=>
  rw [if_neg hm] at e1 ⊢
  refine at_ hcl om rfl rfl rfl ?_
  clear hf
  refine qx1 ?_
  exact ⟨rfl,o1⟩
 rw [if_pos hm] at e1 ⊢
 obtain ⟨av,cv,rfl,_⟩:=id hv
 refine at_ hcl om rfl rfl rfl ?_
 clear hf
 refine qm1 ?_
 refine Ops.callf rfl (jmS hcl (w:=w) om) ?_
 refine qx1 ?_
 have oH:Old h1 ((((h1.new (.cells [.bool false] false)).set h1.nx (.cells [.bool false] false)).new (.cells [.p w 0] false)).new (.cells [.slice av l.length cv] false)):=((Old.refl h1).new.set (Nat.le_refl _)).new.new
 have b0:((((h1.new (.cells [.bool false] false)).set h1.nx (.cells [.bool false] false)).new (.cells [.p w 0] false)).new (.cells [.slice av l.length cv] false)).get h1.nx=some (.cells [.bool false] false):=qgt
 have b2:((((h1.new (.cells [.bool false] false)).set h1.nx (.cells [.bool false] false)).new (.cells [.p w 0] false)).new (.cells [.slice av l.length cv] false)).get (h1.nx+1)=some (.cells [.p w 0] false):=qgt
 have b3:((((h1.new (.cells [.bool false] false)).set h1.nx (.cells [.bool false] false)).new (.cells [.p w 0] false)).new (.cells [.slice av l.length cv] false)).get (h1.nx+2)=some (.cells [.slice av l.length cv] false):=qgt
 have x1:((((h1.new (.cells [.bool false] false)).set h1.nx (.cells [.bool false] false)).new (.cells [.p w 0] false)).new (.cells [.slice av l.length cv] false)).nx=h1.nx+3:=rfl
 change Run (cl (d-1)) fuel _ _ [(5,.p h1.nx 0),(13,.clo F.jen [.p (h1.nx+2) 0,.p (h1.nx+1) 0])] ((((h1.new (.cells [.bool false] false)).set h1.nx (.cells [.bool false] false)).new (.cells [.p w 0] false)).new (.cells [.slice av l.length cv] false)) _
 generalize (((h1.new (.cells [.bool false] false)).set h1.nx (.cells [.bool false] false)).new (.cells [.p w 0] false)).new (.cells [.slice av l.length cv] false)=H1 at oH b0 b2 b3 x1 ⊢
 have hx1:=o1.1
 refine Run.rangeFunc_lo rfl qkp fun LO hLO=>?_
 rw [x1]
 have oL:Old h1 (H1.new (LO .ready none)):=oH.new
 obtain ⟨v',h',hc,hIJ⟩:=jj7 hcl (d:=d-1) (L:=h1.nx+3) (c2:=h1.nx+1) (c3:=h1.nx+2) (h:=H1.new (LO .ready none)) (v := .slice av l.length cv) (l:=l) (w:=w) (s:=s) (ow:=ow) (ws:=ws) (now:=now) (tb:=tb) (no:=no) om o hm.2 hl
  (fun i g=>cntP (polL ws (l.take i))=0/\g.get h1.nx=some (.cells [.bool false] false)/\g.get (h1.nx+1)=some (.cells [.p w 0] false)/\g.get (h1.nx+2)=some (.cells [.slice av l.length cv] false)/\g.get (h1.nx+3)=some (LO .ready none)/\h1.nx+4<=g.nx/\Old h1 g)
  (fun g=>0<cntP (polL ws l)/\g.get h1.nx=some (.cells [.bool true] false)/\g.get (h1.nx+3)=some (LO .done (some (.exit 0)))/\h1.nx+4<=g.nx/\Old h1 g)
  (fun i g ⟨_,_,p2,p3,_,p5,p6⟩=>⟨(a.old o1).old p6,(hv.keep o1).keep p6,p3,p2,by omega⟩)
  (by
   rintro i g g' ⟨p00,p0,p2,p3,p4,p5,p6⟩ og
   exact ⟨p00,by rw [og.2 _ om,p0],by rw [og.2 _ om,p2],by rw [og.2 _ om,p3],by rw [og.2 _ om,p4],Nat.le_trans p5 og.1,p6.trans og⟩)
  (by
   rintro i g p hp ⟨p00,p0,p2,p3,p4,p5,p6⟩
   have et:=jj6 (ws:=ws) hp
   have hx:=ji3 (rdyS ws p.1) p.1 p.2
   have ec:=jhi (jdo (rdyS ws p.1) p.1 p.2) (polL ws (l.take i))
   rw [<- et] at ec
   have hle:=cntP_take (ji2 ws l) (i+1)
   rw [<- jmb] at hle
   generalize jdo (rdyS ws p.1) p.1 p.2=px at hx ec ⊢
   suffices q : ∃ v' g',cl (d-1-1) (.yld (h1.nx+3)) [.i px] g=some (v',g') /\ ∃ b:Bool,v' = .bool b/\(b=true->cntP (polL ws (l.take (i+1)))=0/\g'.get h1.nx=some (.cells [.bool false] false)/\g'.get (h1.nx+1)=some (.cells [.p w 0] false)/\g'.get (h1.nx+2)=some (.cells [.slice av l.length cv] false)/\g'.get (h1.nx+3)=some (LO .ready none)/\h1.nx+4<=g'.nx/\Old h1 g') /\
     (b=false->0<cntP (polL ws l)/\g'.get h1.nx=some (.cells [.bool true] false)/\g'.get (h1.nx+3)=some (LO .done (some (.exit 0)))/\h1.nx+4<=g'.nx/\Old h1 g') by
    obtain ⟨_,g',e,b,rfl,q⟩:=q
    exact ⟨b,g',e,q⟩
   refine yl_ hcl om hLO p4 rfl ?_
   clear a hv hm o hp et
   refine qx1 ?_
   refine End.nil ⟨rfl,p4,?_⟩
   by_cases hz:px=0
   ·refine qx1 ?_
    refine End.nil ⟨⟨.busy,none,qgt⟩,true,rfl,fun _=>⟨by omega,?_,?_,?_,jab _,by simpa using p5,(p6.set om).set om⟩,fun e=>by cases e⟩
    ·rw [jaa om,jaa om,p0]
    ·rw [jaa om,jaa om,p2]
    ·rw [jaa om,jaa om,p3]
   ·refine qx1 ?_
    refine Ops.store1 (l:=[.bool false]) rfl rfl rfl (by rw [jaa om,p0]) Nat.zero_lt_one ?_
    refine qx1 ?_
    refine End.nil ⟨⟨.busy,none,by rw [jaa om,jab]⟩,false,rfl,fun e=>(by cases e),fun _=>⟨by omega,?_,jab _,by simpa using p5,((p6.set om).set om).set om⟩⟩
    rw [jaa om];exact jab _)
  ⟨by simp [polL,cntP],by rw [jac om,b0],by rw [jac om,b2],by rw [jac om,b3],by rw [<- x1,jad],by simp [x1],oL⟩
 clear a hv o
 rcases hIJ with ⟨p00,p0,p2,p3,p4,p5,p6⟩ | ⟨p00,p0,p4,p5,p6⟩
 ·rw [List.take_length] at p00
  rw [decide_eq_false om]
  have k0:(h'.kill (h1.nx+3)).get h1.nx=some (.cells [.bool false] false):=by rw [jaf om,p0]
  have o9:Old h (h'.kill (h1.nx+3)):=⟨by have:=p6.1;show h.nx<=h'.nx;omega,fun j hj=>by rw [jaf om,p6.2 j om,o1.2 j hj]⟩
  refine ⟨v',h',hc,.normal,p4,?_⟩
  clear hLO
  refine qx1 ?_
  exact ⟨rfl,o9⟩
 ·rw [decide_eq_true p00]
  have k0:(h'.kill (h1.nx+3)).get h1.nx=some (.cells [.bool true] false):=by rw [jaf om,p0]
  have o9:Old h (h'.kill (h1.nx+3)):=⟨by have:=p6.1;show h.nx<=h'.nx;omega,fun j hj=>by rw [jaf om,p6.2 j om,o1.2 j hj]⟩
  refine ⟨v',h',hc,.exit 0,p4,?_⟩
  clear hLO
  refine qx1 ?_
  exact ⟨rfl,o9⟩
end
end Am.Sigs
namespace Am.Sigs
open Am Go
theorem jn1 {h:H} {v:V} {l:List (Int × Int)} {N:Nat} (r:Row N h 2 v l.length (jbw l)):VP h v l:=by
 rcases r with ⟨h1,h2,rfl⟩ | ⟨b,h1,h2,rfl,h4,h5⟩
 ·have:l=[]:=by simpa using h1
  subst this
  exact ⟨none,.fix 0,rfl,fun e=>absurd rfl e⟩
 ·exact vp_of fun _=>⟨b,false,rfl,h2,h4⟩
section
variable {call:Call} {fuel base:Nat} {K:List Fr} {e:Env} {h:H} {Q:Post} {ix:Nat} {dst:Option Nat} {ops:List Ins} {keep:List Nat}
end
section
variable {cl:Nat->Call} (hcl:Sem cl)
theorem jkM:ran (jbE prog fuel 30 (.fn F.jdR) [] ⟨203,.lf⟩) (jiT 301)=true:=by kernel_rfl
include hcl
end
end Am.Sigs
namespace Am.Sigs
open Am Go
def mk (f:Nat->Bool):Nat->Nat
 | 0=>0
 | n+1=>mk f n+if f n then 2 ^ n else 0
theorem jh7 (f:Nat->Bool) : ∀ n,mk f n<2 ^ n
 | 0=>by simp [mk]
 | n+1=>by
  have:=jh7 f n
  rw [mk,Nat.pow_succ]
  split<;>omega
theorem je4 (f:Nat->Bool) : ∀ n i,(mk f n).testBit i=(decide (i<n)&&f i)
 | 0,i=>by simp [mk]
 | n+1,i=>by
  have ih:=je4 f n i
  have hlt:=jh7 f n
  rw [mk]
  by_cases hf:f n=true
  ·rw [if_pos hf,Nat.add_comm]
   by_cases hi:i=n
   ·subst hi
    rw [Nat.testBit_two_pow_add_eq,ih]
    simp [hf]
   ·by_cases h2:i<n
    ·rw [Nat.testBit_two_pow_add_gt h2,ih]
     simp [h2,show i<n+1 by omega]
    ·have:2 ^ n+mk f n<2 ^ i:=by
      have h3:2 ^ (n+1)<=2 ^ i:=Nat.pow_le_pow_right om om
      rw [Nat.pow_succ] at h3
      omega
     rw [Nat.testBit_lt_two_pow this]
     simp [show ¬ i<n+1 by omega]
  ·rw [if_neg hf,Nat.add_zero,ih]
   by_cases hi:i=n
   ·subst hi;simp [hf]
   ·by_cases h2:i<n
    ·simp [h2,show i<n+1 by omega]
    ·simp [h2,show ¬ i<n+1 by omega]
theorem jlo {f:Nat->Bool} {n m:Nat} (hm:m<2 ^ n) (h : ∀ i,i<n->m.testBit i=f i):m=mk f n:=by
 apply Nat.eq_of_testBit_eq
 intro i
 rw [je4]
 by_cases hi:i<n
 ·rw [h i hi];simp [hi]
 ·rw [Nat.testBit_lt_two_pow (Nat.lt_of_lt_of_le hm (Nat.pow_le_pow_right om om))];simp [hi]
theorem jcQ {f g:Nat->Bool} {n:Nat} (h : ∀ i,i<n->f i=g i):mk f n=mk g n :=
 jlo (jh7 f n) fun i hi=>by rw [je4,h i hi];simp [hi]
theorem jkW {n:Nat} (h:n<4294967296):IntKind.u32.wrap (n:Int)=(n:Int):=by
 have:IntKind.u32.wrap (n:Int)=(n:Int)%4294967296:=by simp [IntKind.wrap,IntKind.bits,IntKind.signed]
 rw [this];omega
theorem bv32 {n:Nat} (h:n<4294967296):(BitVec.ofInt 32 (n:Int)).toNat=n:=by
 simp [BitVec.ofInt];omega
theorem or32 (f g:Nat->Bool):IntKind.u32.wrap ((BitVec.ofInt 32 ((mk f 32:Nat):Int) ||| BitVec.ofInt 32 ((mk g 32:Nat):Int)).toNat:Int)=((mk (fun i=>f i||g i) 32:Nat):Int):=by
 have h1:=jh7 f 32
 have h2:=jh7 g 32
 have e:(BitVec.ofInt 32 ((mk f 32:Nat):Int) ||| BitVec.ofInt 32 ((mk g 32:Nat):Int)).toNat=mk (fun i=>f i||g i) 32:=by
  rw [BitVec.toNat_or,bv32 h1,bv32 h2]
  refine jlo (Nat.or_lt_two_pow h1 h2) fun i hi=>?_
  rw [Nat.testBit_or,je4,je4];simp [hi]
 rw [e,jkW (jh7 _ 32)]
theorem jnO (f g:Nat->Bool):IntKind.u32.wrap ((BitVec.ofInt 32 ((mk f 32:Nat):Int) &&& ~~~(BitVec.ofInt 32 ((mk g 32:Nat):Int))).toNat:Int)=((mk (fun i=>f i && !g i) 32:Nat):Int):=by
 have h1:=jh7 f 32
 have h2:=jh7 g 32
 have e:(BitVec.ofInt 32 ((mk f 32:Nat):Int) &&& ~~~(BitVec.ofInt 32 ((mk g 32:Nat):Int))).toNat=mk (fun i=>f i && !g i) 32:=by
  refine jlo (BitVec.isLt _) fun i hi=>?_
  rw [<- BitVec.getLsbD,BitVec.getLsbD_and,BitVec.getLsbD_not]
  rw [BitVec.getLsbD,BitVec.getLsbD,bv32 h1,bv32 h2,je4,je4]
  simp [hi]
 rw [e,jkW (jh7 _ 32)]
theorem jok (f:Nat->Bool) {k:Nat} (hk:k<32):IntKind.u32.wrap ((BitVec.ofInt 32 (((mk f 32:Nat):Int).fdiv (2 ^ (Nat.min k 32))) &&& BitVec.ofInt 32 1).toNat:Int)=if f k then 1 else 0:=by
 have h1:=jh7 f 32
 have e0:((mk f 32:Nat):Int).fdiv (2 ^ (Nat.min k 32))=((mk f 32/2 ^ k:Nat):Int):=by
  rw [show Nat.min k 32=k from Nat.min_eq_left om,Int.fdiv_eq_ediv_of_nonneg _ (by exact Int.le_of_lt (Int.pow_pos om))]
  simp
 have h2:mk f 32/2 ^ k<4294967296:=Nat.lt_of_le_of_lt (Nat.div_le_self _ _) h1
 rw [e0]
 have e:(BitVec.ofInt 32 ((mk f 32/2 ^ k:Nat):Int) &&& BitVec.ofInt 32 1).toNat=(mk f 32/2 ^ k)%2:=by
  rw [BitVec.toNat_and,bv32 h2]
  show (mk f 32/2 ^ k) &&& 1=_
  exact Nat.and_one_is_mod _
 rw [e,jkW om]
 have h3:=je4 f 32 k
 rw [Nat.testBit_eq_decide_div_mod_eq] at h3
 simp only [hk,decide_true,Bool.true_and] at h3
 rw [<- h3]
 by_cases h4:mk f 32/2 ^ k%2=1
 ·simp [h4]
 ·have:mk f 32/2 ^ k%2=0:=by omega
  simp [this]
theorem shl32 {k:Nat} (hk:k<32):IntKind.u32.wrap (1*2 ^ (Nat.min k 32))=((mk (fun i=>decide (i=k)) 32:Nat):Int):=by
 have e:mk (fun i=>decide (i=k)) 32=2 ^ k:=by
  refine (jlo (Nat.pow_lt_pow_right om hk) fun i hi=>?_).symm
  rw [Nat.testBit_two_pow]
  by_cases h:k=i
  ·subst h;simp
  ·rw [decide_eq_false h,decide_eq_false (fun e=>h e.symm)]
 rw [e,show Nat.min k 32=k from Nat.min_eq_left om]
 have h2:2 ^ k<2 ^ 32:=Nat.pow_lt_pow_right om hk
 have:=jkW (n:=2 ^ k) h2
 rw [<- this]
 congr 1
 simp
def setV (f:Nat->Bool):List V:=[.int .u32 ((mk f 32:Nat):Int),.int .u32 ((mk (fun i=>f (i+32)) 32:Nat):Int)]
theorem jbG {f g:Nat->Bool} (h : ∀ i,i<64->f i=g i):setV f=setV g:=by
 unfold setV
 rw [jcQ (f:=f) (g:=g) fun i hi=>h i om,jcQ (f:=fun i=>f (i+32)) (g:=fun i=>g (i+32)) fun i hi=>h (i+32) om]
theorem jmZ : ∀ n,mk (fun _=>false) n=0
 | 0=>rfl
 | n+1=>by rw [mk,jmZ n];rfl
theorem jdO:setV (fun _=>false)=[.int .u32 0,.int .u32 0]:=by unfold setV;rw [jmZ];rfl
def fitS (fd:Int):Prop:=0<=fd/\fd<64
instance (fd:Int):Decidable (fitS fd):=inferInstanceAs (Decidable (_/\_))
section
variable {call:Call} {fuel base:Nat} {K:List Fr} {e:Env} {h:H} {Q:Post} {ix:Nat} {dst at_:Option Nat} {ops:List Ins} {keep:List Nat}
theorem Ops.shl32 {x y:Opd} {a b:Int} (hx:x.ev e=some (.int .u32 a)) (hy:y.ev e=some (.i b)) (hb:0<=b) (k:Ops call fuel base ops keep K (layv e dst (.int .u32 (IntKind.u32.wrap (a*2 ^ (Nat.min b.toNat 32))))) h Q) :
  Ops call fuel base (⟨ix,dst,.bin .shl x y,none,at_,[]⟩ :: ops) keep K e h Q:=by
 refine Ops.pure rfl ?_ k
 simp only [I.pure,hx,hy]
 have:decide (b<0)=false:=decide_eq_false om
 simp only [binOp,jbT,Bool.true_or,cond_true,jdc,this,cond_false]
 rfl
end
section
variable {cl:Nat->Call} (hcl:Sem cl)
include hcl
theorem jk6 {d:Nat} {fd:Int} {h:H} (hd:1<=d):cl d (.fn F.jml) [.i fd] h=some (.bool (decide (fitS fd)),h):=by
 refine jap (at_ hcl om rfl rfl rfl ?_)
 unfold fitS
 by_cases h1:0<=fd
 ·by_cases h2:fd<64
  ·refine qx1 ?_
   exact ⟨by simp [h1,h2],rfl⟩
  ·refine qx1 ?_
   exact ⟨by simp [h1,h2],rfl⟩
 ·refine qx1 ?_
  exact ⟨by simp [h1],rfl⟩
theorem jgZ {d:Nat} {f:Nat->Bool} {fd:Int} {h:H} (hd:2<=d):cl d (.fn F.jiG) [.agg (setV f),.i fd] h=some (.bool (decide (fitS fd)&&f fd.toNat),h.new (.cells (setV f) false)):=by
 have e1:=jk6 hcl (d:=d-1) (fd:=fd) (h:=h.new (.cells (setV f) false)) om
 refine jap (at_ hcl om rfl rfl rfl ?_)
 by_cases hf:fitS fd
 case neg=>
  rw [decide_eq_false hf] at e1 ⊢
  refine qm1 ?_
  exact ⟨rfl,rfl⟩
 rw [decide_eq_true hf] at e1 ⊢
 obtain ⟨m,rfl⟩:=Int.eq_ofNat_of_zero_le hf.1
 have h2:=hf.2
 by_cases h32:m<32
 ·have hq:IntKind.i64.wrap ((m:Int).tdiv 32)=0:=by
   rw [Int.tdiv_eq_ediv_of_nonneg om,show (m:Int)/32=0 by omega];rfl
  have hr:(m:Int).tmod 32=(m:Int):=by rw [Int.tmod_eq_emod_of_nonneg om];omega
  clear hf
  refine qm1 ?_
  rw [hq]
  refine qm1 ?_
  refine ⟨?_,rfl⟩
  rw [hr,Int.toNat_natCast,Bool.true_and]
  have hb:(IntKind.u32.wrap ↑(BitVec.ofInt IntKind.u32.bits (((mk f 32:Nat):Int).fdiv (2 ^ (m.min IntKind.u32.bits))) &&& BitVec.ofInt IntKind.u32.bits 1).toNat:Int)=if f m then 1 else 0:=jok f h32
  rw [hb]
  cases f m<;>rfl
 ·obtain ⟨k,rfl⟩ : ∃ k,m=k+32:=⟨m-32,by omega⟩
  have hk:k<32:=by omega
  have hq:IntKind.i64.wrap (((k+32:Nat):Int).tdiv 32)=1:=by
   rw [Int.tdiv_eq_ediv_of_nonneg om,show ((k+32:Nat):Int)/32=1 by omega];rfl
  have hr:((k+32:Nat):Int).tmod 32=(k:Int):=by rw [Int.tmod_eq_emod_of_nonneg om];omega
  clear hf
  refine qm1 ?_
  rw [hq]
  refine qm1 ?_
  refine ⟨?_,rfl⟩
  rw [hr,Int.toNat_natCast,Int.toNat_natCast,Bool.true_and]
  have hb:(IntKind.u32.wrap ↑(BitVec.ofInt IntKind.u32.bits (((mk (fun i=>f (i+32)) 32:Nat):Int).fdiv (2 ^ (k.min IntKind.u32.bits))) &&& BitVec.ofInt IntKind.u32.bits 1).toNat:Int)=if f (k+32) then 1 else 0:=jok (fun i=>f (i+32)) hk
  rw [hb]
  cases f (k+32)<;>rfl
end
attribute [irreducible] mk
end Am.Sigs
namespace Am.Sigs
open Am Go
def addS (f:Nat->Bool) (k:Nat):Nat->Bool:=fun i=>f i||decide (i=k)
def delS (f:Nat->Bool) (k:Nat):Nat->Bool:=fun i=>f i && !decide (i=k)
def orS (f g:Nat->Bool):Nat->Bool:=fun i=>f i||g i
def noS:Nat->Bool:=fun _=>false
theorem add_lo (f:Nat->Bool) {k:Nat} (hk:k<32):setV (addS f k)=[.int .u32 ((mk (fun i=>f i||decide (i=k)) 32:Nat):Int),.int .u32 ((mk (fun i=>f (i+32)) 32:Nat):Int)]:=by
 unfold setV addS
 rw [jcQ (f:=fun i=>f (i+32)||decide (i+32=k)) (g:=fun i=>f (i+32)) fun i _=>by rw [decide_eq_false om,Bool.or_false]]
theorem add_hi (f:Nat->Bool) {k:Nat} : setV (addS f (k+32))=[.int .u32 ((mk f 32:Nat):Int),.int .u32 ((mk (fun i=>f (i+32)||decide (i=k)) 32:Nat):Int)]:=by
 unfold setV addS
 rw [jcQ (f:=fun i=>f i||decide (i=k+32)) (g:=f) fun i hi=>by rw [decide_eq_false om,Bool.or_false],
  jcQ (f:=fun i=>f (i+32)||decide (i+32=k+32)) (g:=fun i=>f (i+32)||decide (i=k)) fun i _=>by simp]
theorem del_lo (f:Nat->Bool) {k:Nat} (hk:k<32):setV (delS f k)=[.int .u32 ((mk (fun i=>f i && !decide (i=k)) 32:Nat):Int),.int .u32 ((mk (fun i=>f (i+32)) 32:Nat):Int)]:=by
 unfold setV delS
 rw [jcQ (f:=fun i=>f (i+32) && !decide (i+32=k)) (g:=fun i=>f (i+32)) fun i _=>by rw [decide_eq_false om];simp]
theorem del_hi (f:Nat->Bool) {k:Nat} : setV (delS f (k+32))=[.int .u32 ((mk f 32:Nat):Int),.int .u32 ((mk (fun i=>f (i+32) && !decide (i=k)) 32:Nat):Int)]:=by
 unfold setV delS
 rw [jcQ (f:=fun i=>f i && !decide (i=k+32)) (g:=f) fun i hi=>by rw [decide_eq_false om];simp,
  jcQ (f:=fun i=>f (i+32) && !decide (i+32=k+32)) (g:=fun i=>f (i+32) && !decide (i=k)) fun i _=>by simp]
section
variable {cl:Nat->Call} (hcl:Sem cl) {f g:Nat->Bool} {fd:Int} {h:H}
include hcl
theorem fs_or {d:Nat} (hd:1<=d) : ∃ h',cl d (.fn F.jjQ) [.agg (setV f),.agg (setV g)] h=some (.agg (setV (orS f g)),h')/\Old h h':=by
 refine jak (at_ hcl om rfl rfl rfl ?_)
 have e1:=or32 f g
 have e2:=or32 (fun i=>f (i+32)) (fun i=>g (i+32))
 have e3:[V.int .u32 (IntKind.u32.wrap ((BitVec.ofInt 32 ((mk f 32:Nat):Int) ||| BitVec.ofInt 32 ((mk g 32:Nat):Int)).toNat:Int)),V.int .u32 (IntKind.u32.wrap ((BitVec.ofInt 32 ((mk (fun i=>f (i+32)) 32:Nat):Int) ||| BitVec.ofInt 32 ((mk (fun i=>g (i+32)) 32:Nat):Int)).toNat:Int))]=setV (orS f g):=by
  unfold setV orS;rw [e1,e2]
 refine qm1 ?_
 refine jaS (l:=setV (orS f g)) rfl ((jab _).trans (by rw [<- e3];rfl)) rfl ⟨rfl,?_⟩
 exact (Old.refl h).new.new.new.set (by simp<;>omega)
def jjb (f:Nat->Bool) (fd:Int):Nat->Bool:=if fitS fd then addS f fd.toNat else noS
theorem jiE {d:Nat} (hd:2<=d) : ∃ h',cl d (.fn F.jdd) [.agg (setV f),.i fd] h=some (.tup [.agg (setV (jjb f fd)),.i (if fitS fd then 0 else 10)],h')/\Old h h':=by
 have e0:=fun G=>jk6 hcl (d:=d-1) (fd:=fd) (h:=G) om
 refine jak (at_ hcl om rfl rfl rfl ?_)
 unfold jjb
 by_cases hf:fitS fd
 case neg=>
  rw [if_neg hf,if_neg hf]
  have e0:=e0 ((h.new (.cells (setV f) false)).new (.cells [.int .u32 0,.int .u32 0] false))
  rw [decide_eq_false hf] at e0
  refine qm1 ?_
  refine zcf (resN rfl (jab _) (Nat.le_of_ble_eq_true rfl) rfl) ⟨?_,(Old.refl h).new.new.set (by simp)⟩
  unfold noS;rw [jdO];rfl
 rw [if_pos hf,if_pos hf]
 have e0:=e0 ((h.new (.cells (setV f) false)).new (.cells [.int .u32 0,.int .u32 0] false))
 rw [decide_eq_true hf] at e0
 obtain ⟨m,rfl⟩:=Int.eq_ofNat_of_zero_le hf.1
 have h2:=hf.2
 rw [Int.toNat_natCast]
 by_cases h32:m<32
 ·have hq:IntKind.i64.wrap ((m:Int).tdiv 32)=0:=by
   rw [Int.tdiv_eq_ediv_of_nonneg om,show (m:Int)/32=0 by omega];rfl
  have hr:(m:Int).tmod 32=(m:Int):=by rw [Int.tmod_eq_emod_of_nonneg om];omega
  have e1:=or32 f (fun i=>decide (i=m))
  rw [<- shl32 h32] at e1
  clear hf
  refine qm1 ?_
  rw [hq]
  refine qm1 ?_
  rw [hr,Int.toNat_natCast]
  have e2:(setV f).set (0+Int.toNat 0*1) (V.int .u32 (IntKind.u32.wrap ((BitVec.ofInt IntKind.u32.bits ((mk f 32:Nat):Int) ||| BitVec.ofInt IntKind.u32.bits (IntKind.u32.wrap (1*2 ^ m.min IntKind.u32.bits))).toNat:Int)))=setV (addS f m):=by
   rw [add_lo f h32]
   show [V.int .u32 (IntKind.u32.wrap ((BitVec.ofInt 32 ((mk f 32:Nat):Int) ||| BitVec.ofInt 32 (IntKind.u32.wrap (1*2 ^ m.min 32))).toNat:Int)),_]=_
   rw [e1]
  rw [e2]
  have e3:List.take 2 (List.drop 0 (setV (addS f m)))=setV (addS f m):=rfl
  rw [e3]
  refine Ops.storeN (vs:=setV (addS f m)) (l:=[.int .u32 0,.int .u32 0]) (b:=h.nx+1) rfl rfl rfl rfl qgt (Nat.le_of_ble_eq_true rfl) ?_
  rw [jan (setV (addS f m)) [.int .u32 0,.int .u32 0] rfl]
  refine qm1 ?_
  refine zcf (resN rfl (jab _) (Nat.le_of_ble_eq_true rfl) rfl) ⟨rfl,?_⟩
  exact ((Old.refl h).new.new.set (Nat.le_refl _)).set om
 ·obtain ⟨k,rfl⟩ : ∃ k,m=k+32:=⟨m-32,by omega⟩
  have hk:k<32:=by omega
  have hq:IntKind.i64.wrap (((k+32:Nat):Int).tdiv 32)=1:=by
   rw [Int.tdiv_eq_ediv_of_nonneg om,show ((k+32:Nat):Int)/32=1 by omega];rfl
  have hr:((k+32:Nat):Int).tmod 32=(k:Int):=by rw [Int.tmod_eq_emod_of_nonneg om];omega
  have e1:=or32 (fun i=>f (i+32)) (fun i=>decide (i=k))
  rw [<- shl32 hk] at e1
  clear hf
  refine qm1 ?_
  rw [hq]
  refine qm1 ?_
  rw [hr,Int.toNat_natCast]
  have e2:(setV f).set (0+Int.toNat 1*1) (V.int .u32 (IntKind.u32.wrap ((BitVec.ofInt IntKind.u32.bits ((mk (fun i=>f (i+32)) 32:Nat):Int) ||| BitVec.ofInt IntKind.u32.bits (IntKind.u32.wrap (1*2 ^ k.min IntKind.u32.bits))).toNat:Int)))=setV (addS f (k+32)):=by
   rw [add_hi f]
   show [_,V.int .u32 (IntKind.u32.wrap ((BitVec.ofInt 32 ((mk (fun i=>f (i+32)) 32:Nat):Int) ||| BitVec.ofInt 32 (IntKind.u32.wrap (1*2 ^ k.min 32))).toNat:Int))]=_
   rw [e1]
  rw [e2]
  have e3:List.take 2 (List.drop 0 (setV (addS f (k+32))))=setV (addS f (k+32)):=rfl
  rw [e3]
  refine Ops.storeN (vs:=setV (addS f (k+32))) (l:=[.int .u32 0,.int .u32 0]) (b:=h.nx+1) rfl rfl rfl rfl qgt (Nat.le_of_ble_eq_true rfl) ?_
  rw [jan (setV (addS f (k+32))) [.int .u32 0,.int .u32 0] rfl]
  refine qm1 ?_
  refine zcf (resN rfl (jab _) (Nat.le_of_ble_eq_true rfl) rfl) ⟨rfl,?_⟩
  exact ((Old.refl h).new.new.set (Nat.le_refl _)).set om
theorem jmk {d m:Nat} (hd:2<=d) (hm:m<64) : ∃ h',cl d (.fn F.jfM) [.agg (setV f),.i (m:Int)] h=some (.agg (setV (delS f m)),h')/\Old h h':=by
 have e0:=jk6 hcl (d:=d-1) (fd:=(m:Int)) (h:=(h.new (.cells (setV f) false)).new (.cells [.int .u32 0,.int .u32 0] false)) om
 refine jak (at_ hcl om rfl rfl rfl ?_)
 rw [decide_eq_true (show fitS (m:Int) from ⟨by omega,by omega⟩)] at e0
 by_cases h32:m<32
 ·have hq:IntKind.i64.wrap ((m:Int).tdiv 32)=0:=by
   rw [Int.tdiv_eq_ediv_of_nonneg om,show (m:Int)/32=0 by omega];rfl
  have hr:(m:Int).tmod 32=(m:Int):=by rw [Int.tmod_eq_emod_of_nonneg om];omega
  have e1:=jnO f (fun i=>decide (i=m))
  rw [<- shl32 h32] at e1
  refine qm1 ?_
  rw [hq]
  refine qm1 ?_
  rw [hr,Int.toNat_natCast]
  have e2:(setV f).set (0+Int.toNat 0*1) (V.int .u32 (IntKind.u32.wrap ((BitVec.ofInt IntKind.u32.bits ((mk f 32:Nat):Int) &&& ~~~BitVec.ofInt IntKind.u32.bits (IntKind.u32.wrap (1*2 ^ m.min IntKind.u32.bits))).toNat:Int)))=setV (delS f m):=by
   rw [del_lo f h32]
   show [V.int .u32 (IntKind.u32.wrap ((BitVec.ofInt 32 ((mk f 32:Nat):Int) &&& ~~~BitVec.ofInt 32 (IntKind.u32.wrap (1*2 ^ m.min 32))).toNat:Int)),_]=_
   rw [e1]
  rw [e2]
  refine qm1 ?_
  have e3:List.take 2 (List.drop 0 (setV (delS f m)))=setV (delS f m):=rfl
  rw [e3]
  refine Ops.storeN (vs:=setV (delS f m)) (l:=[.int .u32 0,.int .u32 0]) (b:=h.nx+1) rfl rfl rfl rfl qgt (Nat.le_of_ble_eq_true rfl) ?_
  rw [jan (setV (delS f m)) [.int .u32 0,.int .u32 0] rfl]
  refine qm1 ?_
  refine jaS (l:=setV (delS f m)) rfl (jab _) rfl ⟨rfl,?_⟩
  exact ((Old.refl h).new.new.set (Nat.le_refl _)).set om
 ·obtain ⟨k,rfl⟩ : ∃ k,m=k+32:=⟨m-32,by omega⟩
  have hk:k<32:=by omega
  have hq:IntKind.i64.wrap (((k+32:Nat):Int).tdiv 32)=1:=by
   rw [Int.tdiv_eq_ediv_of_nonneg om,show ((k+32:Nat):Int)/32=1 by omega];rfl
  have hr:((k+32:Nat):Int).tmod 32=(k:Int):=by rw [Int.tmod_eq_emod_of_nonneg om];omega
  have e1:=jnO (fun i=>f (i+32)) (fun i=>decide (i=k))
  rw [<- shl32 hk] at e1
  refine qm1 ?_
  rw [hq]
  refine qm1 ?_
  rw [hr,Int.toNat_natCast]
  have e2:(setV f).set (0+Int.toNat 1*1) (V.int .u32 (IntKind.u32.wrap ((BitVec.ofInt IntKind.u32.bits ((mk (fun i=>f (i+32)) 32:Nat):Int) &&& ~~~BitVec.ofInt IntKind.u32.bits (IntKind.u32.wrap (1*2 ^ k.min IntKind.u32.bits))).toNat:Int)))=setV (delS f (k+32)):=by
   rw [del_hi f]
   show [_,V.int .u32 (IntKind.u32.wrap ((BitVec.ofInt 32 ((mk (fun i=>f (i+32)) 32:Nat):Int) &&& ~~~BitVec.ofInt 32 (IntKind.u32.wrap (1*2 ^ k.min 32))).toNat:Int))]=_
   rw [e1]
  rw [e2]
  refine qm1 ?_
  have e3:List.take 2 (List.drop 0 (setV (delS f (k+32))))=setV (delS f (k+32)):=rfl
  rw [e3]
  refine Ops.storeN (vs:=setV (delS f (k+32))) (l:=[.int .u32 0,.int .u32 0]) (b:=h.nx+1) rfl rfl rfl rfl qgt (Nat.le_of_ble_eq_true rfl) ?_
  rw [jan (setV (delS f (k+32))) [.int .u32 0,.int .u32 0] rfl]
  refine qm1 ?_
  refine jaS (l:=setV (delS f (k+32))) rfl (jab _) rfl ⟨rfl,?_⟩
  exact ((Old.refl h).new.new.set (Nat.le_refl _)).set om
end
end Am.Sigs
namespace Am.Sigs
open Am Go
def ja2 (f:Nat->Bool):Nat->List Int
 | 0=>[]
 | n+1=>ja2 f n++if f n then [(n:Int)] else []
theorem jgU (f:Nat->Bool) : ∀ n,(ja2 f n).length<=n
 | 0=>Nat.le_refl _
 | n+1=>by
  have:=jgU f n
  simp only [ja2,List.length_append]
  split<;>simp<;>omega
def jcG (f:Nat->Bool) (n:Int):Nat->Bool:=fun i=>f i&&decide ((i:Int)<n)
def jbb (f:Nat->Bool) (n:Int) (k:Nat):Nat->Bool:=fun i=>f i&&(decide (k<=i)||decide ((i:Int)<n))
section
variable {cl:Nat->Call} (hcl:Sem cl) {f g:Nat->Bool} {fd:Int} {h:H}
include hcl
theorem jnL {d:Nat} (hd:1<=d):cl d (.fn F.jfj) [.agg (setV f)] h=some (.clo F.jb0 [.p h.nx 0],h.new (.cells (setV f) false)):=by
 refine jap (at_ hcl om rfl rfl rfl ?_)
 refine qm1 ?_
 exact ⟨rfl,rfl⟩
theorem jlq {d L c:Nat} (hd:3<=d) (I:Nat->H->Prop) (J:H->Prop)
  (hc : ∀ k g,I k g->g.get c=some (.cells (setV f) false))
  (hI : ∀ k g g',I k g->Old g g'->I k g')
  (hskip : ∀ k g,k<64->f k=false->I k g->I (k+1) g)
  (hy : ∀ k g,k<64->f k=true->I k g -> ∃ (b:Bool) (g':H),cl (d-1) (.yld L) [.i (k:Int)] g=some (.bool b,g')/\(b=true->I (k+1) g')/\(b=false->J g'))
  (h0:I 0 h) : ∃ v h',cl d (.fn F.jb0) [.yld L,.p c 0] h=some (v,h')/\(I 64 h'\/J h'):=by
 refine at_ hcl om rfl rfl rfl ?_
 refine qx1 ?_
 refine Run.loop (fun m e g=>∃ k:Nat,m=64-k/\k<=64/\e=[(0,.yld L),(1,.p c 0),(4,.i (k:Int))]/\I k g) (k:=64) (by show _<100000;omega) ⟨0,rfl,by omega,rfl,h0⟩ ?_
 rintro _ _ g ⟨k,rfl,hk,rfl,hIk⟩ n ih
 by_cases hlt:k<64
 case neg=>
  obtain rfl:k=64:=by omega
  have hlt' : ¬ ((64:Nat):Int)<64:=by omega
  clear ih hI hskip hy hc
  refine qx1 ?_
  exact .inl hIk
 have hlt':(k:Int)<64:=by omega
 have hk1:(k:Int)+1=((k+1:Nat):Int):=by omega
 have hc1:=hc k g hIk
 have eh:=jgZ hcl (d:=d-1) (f:=f) (fd:=(k:Int)) (h:=g) om
 rw [decide_eq_true (show fitS (k:Int) from ⟨by omega,by omega⟩),Bool.true_and,Int.toNat_natCast] at eh
 have I1:=hI k g _ hIk ((Old.refl g).new (o := .cells (setV f) false))
 cases hf:f k with
 | false=>
  rw [hf] at eh
  have I2:=hskip k _ hlt hf I1
  clear hI hskip hy hc
  refine qx1 ?_
  refine Ops.loadN rfl hc1 (Nat.le_refl _) ?_
  rw [show List.take 2 (List.drop 0 (setV f))=setV f from rfl]
  refine qx1 ?_
  rw [hk1]
  exact ih (64-(k+1)) om _ _ ⟨k+1,rfl,by omega,rfl,I2⟩
 | true=>
  rw [hf] at eh
  obtain ⟨b,g',e1,q1,q2⟩:=hy k _ hlt hf I1
  clear hI hskip hy hc
  refine qx1 ?_
  refine Ops.loadN rfl hc1 (Nat.le_refl _) ?_
  rw [show List.take 2 (List.drop 0 (setV f))=setV f from rfl]
  cases b
  ·refine qx1 ?_
   refine Ops.yield rfl rfl e1 ?_
   refine qx1 ?_
   exact .inr (q2 rfl)
  ·refine qx1 ?_
   refine Ops.yield rfl rfl e1 ?_
   refine qx1 ?_
   rw [hk1]
   exact ih (64-(k+1)) om _ _ ⟨k+1,rfl,by omega,rfl,q1 rfl⟩
theorem fs_All {d:Nat} (hd:7<=d) : ∃ v h',cl d (.fn F.jfk) [.agg (setV f)] h=some (v,h')/\Row h.nx h' 1 v (ja2 f 64).length (ints (ja2 f 64))/\Old h h':=by
 have app : ∀ (H0:H) (c:Nat),c<H0.nx->H0.get c=some (.cells (setV f) false) -> ∃ v h',cl (d-1-1) (.fn F.jdk) [.nils,.clo F.jb0 [.p c 0]] H0=some (v,h')/\Row H0.nx h' 1 v (ja2 f 64).length (ints (ja2 f 64))/\Old H0 h':=by
  intro H0 c lc hc
  refine at_ hcl om rfl rfl rfl ?_
  refine qm1 ?_
  have oH:Old H0 (H0.new (.cells [.nils] false)):=(Old.refl H0).new
  refine Run.rangeFunc_lo rfl qkp fun LO hLO=>?_
  obtain ⟨v',h',hc',hIJ⟩:=jlq hcl (d:=d-1-1-1) (L:=H0.nx+1) (c:=c) (f:=f) (h:=(H0.new (.cells [.nils] false)).new (LO .ready none)) om
   (fun k g=>(∃ sv,g.get H0.nx=some (.cells [sv] false)/\Row (H0.nx+2) g 1 sv (ja2 f k).length (ints (ja2 f k)))/\g.get c=some (.cells (setV f) false)/\g.get (H0.nx+1)=some (LO .ready none)/\H0.nx+2<=g.nx/\Old H0 g/\k<=64)
   (fun _=>False)
   (fun k g p=>p.2.1)
   (by
    rintro k g g' ⟨⟨sv,p0,pr⟩,p1,p2,p3,p4,p5⟩ og
    exact ⟨⟨sv,by rw [og.2 _ om,p0],pr.keep og.1 fun z hz=>og.2 z (pr.at_ge hz).2⟩,by rw [og.2 _ om,p1],by rw [og.2 _ om,p2],Nat.le_trans p3 og.1,p4.trans og,p5⟩)
   (by
    rintro k g hk hf ⟨p0,p1,p2,p3,p4,p5⟩
    have e:ja2 f (k+1)=ja2 f k:=by simp [ja2,hf]
    rw [e];exact ⟨p0,p1,p2,p3,p4,by omega⟩)
   (by
    rintro k g hk hf ⟨⟨sv,p0,pr⟩,p1,p2,p3,p4,p5⟩
    have e:ja2 f (k+1)=ja2 f k++[(k:Int)]:=by simp [ja2,hf]
    have hll:=jgU f k
    rw [e]
    generalize ja2 f k=pl at pr hll ⊢
    refine ⟨true,?_⟩
    suffices q : ∃ v' g',cl (d-1-1-1-1) (.yld (H0.nx+1)) [.i (k:Int)] g=some (v',g')/\(v' = .bool true/\((∃ sv,g'.get H0.nx=some (.cells [sv] false)/\Row (H0.nx+2) g' 1 sv (pl++[(k:Int)]).length (ints (pl++[(k:Int)])))/\g'.get c=some (.cells (setV f) false)/\g'.get (H0.nx+1)=some (LO .ready none)/\H0.nx+2<=g'.nx/\Old H0 g'/\k+1<=64)) by
     obtain ⟨_,g',e,rfl,q⟩:=q
     exact ⟨g',e,fun _=>q,fun e=>by cases e⟩
    obtain ⟨cp,⟨asv,rfl⟩,_⟩:=pr.shape
    refine yl_ hcl om hLO p2 rfl ?_
    refine qx1 ?_
    refine End.nil ⟨rfl,p2,?_⟩
    have pr2:Row (H0.nx+2) (g.set (H0.nx+1) (LO .busy none)) 1 (.slice asv pl.length cp) pl.length (ints pl):=pr.keep (by simp) fun z hz=>by have:=pr.at_ge hz;exact jaa om
    refine qx1 ?_
    refine Ops.push (N:=H0.nx+2) (new:=[.i (k:Int)]) rfl rfl rfl rfl om rfl rfl pr2 (by simpa using p3) om om fun v2 g2 row' hx' hz' hk'=>?_
    have hx':g.nx<=g2.nx:=by simpa using hx'
    have hk2 : ∀ j,j<H0.nx+2->g2.get j=(g.set (H0.nx+1) (LO .busy none)).get j:=fun j hj=>hk' j (by simp;omega) fun e=>by have:=pr2.at_ge e;omega
    have q0:g2.get H0.nx=some (.cells [.slice asv pl.length cp] false):=by rw [hk2 _ om,jaa om,p0]
    have hone:=row'.one
    refine Ops.store1 rfl rfl hone q0 Nat.zero_lt_one ?_
    refine qx1 ?_
    refine End.nil ⟨⟨.busy,none,by rw [jaa om,hk2 _ om,jab]⟩,rfl,⟨v2,?_,?_⟩,?_,jab _,by simp;omega,?_,by omega⟩
    ·rw [jaa om];exact jab _
    ·have r2:Row (H0.nx+2) g2 1 v2 (pl++[(k:Int)]).length (ints (pl++[(k:Int)])):=by simpa [ints] using row'
     exact r2.keep (by simp) fun z hz=>by have:=hz' z hz;simp at this;rw [jaa om,jaa om]
    ·rw [jaa om,jaa om,hk2 _ om,jaa om,p1]
    ·have p7:=p4.1
     exact ⟨by simp;omega,fun j hj=>by rw [jaa om,jaa om,hk2 _ om,jaa om,p4.2 j hj]⟩)
   ⟨⟨.nils,qgt,by simpa [ja2] using Row.nil _ _ _⟩,by rw [jac (by simp;omega),jac lc,hc],qgt,by simp,oH.new,by omega⟩
  refine hIJ.elim ?_ fun hF=>hF.elim
  rintro ⟨⟨sv,p0,pr⟩,p1,p2,p3,p4,_⟩
  refine ⟨v',h',hc',.normal,p2,?_⟩
  have k0:(h'.kill (H0.nx+1)).get H0.nx=some (.cells [sv] false):=by rw [jaf om,p0]
  have o9:Old H0 (h'.kill (H0.nx+1)):=⟨p4.1,fun j hj=>by rw [jaf om,p4.2 j hj]⟩
  have r9:Row H0.nx (h'.kill (H0.nx+1)) 1 sv (ja2 f 64).length (ints (ja2 f 64)):=by
   rcases pr with r | ⟨q,q1,q2,e,q4,q5⟩
   ·exact .inl r
   ·exact .inr ⟨q,by omega,q2,e,by rw [jaf om,q4],q5⟩
  obtain ⟨cp,⟨asv,rfl⟩,_⟩:=pr.shape
  clear hLO
  refine qx1 ?_
  exact ⟨r9,o9⟩
 have o0:Old h ((h.new (.cells (setV f) false)).new (.cells (setV f) false)):=(Old.refl h).new.new
 obtain ⟨v,h',e1,r1,o1⟩:=app ((h.new (.cells (setV f) false)).new (.cells (setV f) false)) (h.nx+1) (by simp) qgt
 have ec:cl (d-1) (.fn F.jeX) [.clo F.jb0 [.p (h.nx+1) 0]] ((h.new (.cells (setV f) false)).new (.cells (setV f) false))=some (v,h'):=by
  obtain ⟨cp,⟨asv,rfl⟩,_⟩:=r1.shape
  refine jap (at_ hcl om rfl rfl rfl ?_)
  clear app
  refine qx1 ?_
  exact ⟨rfl,rfl⟩
 have ea:=jnL hcl (d:=d-1) (f:=f) (h:=h.new (.cells (setV f) false)) om
 have ea:cl (d-1) (.fn F.jfj) [.agg (setV f)] (h.new (.cells (setV f) false))=some (.clo F.jb0 [.p (h.nx+1) 0],(h.new (.cells (setV f) false)).new (.cells (setV f) false)):=ea
 have r2:Row h.nx h' 1 v (ja2 f 64).length (ints (ja2 f 64)):=by
  rcases r1 with r | ⟨q,q1,q2,e,q4,q5⟩
  ·exact .inl r
  ·have q1:h.nx+2<=q:=q1
   exact .inr ⟨q,by omega,q2,e,q4,q5⟩
 obtain ⟨cp,⟨asv,rfl⟩,_⟩:=r1.shape
 refine at_ hcl om rfl rfl rfl ?_
 clear app
 refine qm1 ?_
 exact ⟨r2,o0.trans o1⟩
end
end Am.Sigs
namespace Am.Sigs
open Am Go
def cntS (f:Nat->Bool):Nat->Nat
 | 0=>0
 | n+1=>cntS f n+if f n then 1 else 0
theorem jkG (f:Nat->Bool) : ∀ n,cntS f n<=n
 | 0=>Nat.le_refl _
 | n+1=>by
  have:=jkG f n
  rw [cntS];split<;>omega
section
variable {call:Call} {fuel base:Nat} {K:List Fr} {e:Env} {h:H} {Q:Post} {ix:Nat} {dst at_:Option Nat} {ops:List Ins} {keep:List Nat}
theorem Ops.ixStr {x i:Opd} {s:List UInt8} {k:IntKind} {n:Nat} {b:UInt8} (hx:x.ev e=some (.str s)) (hi:i.ev e=some (.int k (n:Int))) (hs:s[n]?=some b) (kk:Ops call fuel base ops keep K (layv e dst (.int .u8 (b.toNat:Int))) h Q) :
  Ops call fuel base (⟨ix,dst,.ixStr x i,none,at_,[]⟩ :: ops) keep K e h Q:=by
 refine Ops.pure rfl ?_ kk
 simp only [I.pure,hx,hi]
 have hlt:n<s.length:=by
  rcases Nat.lt_or_ge n s.length with h | h
  ·exact h
  ·rw [List.getElem?_eq_none h] at hs;cases hs
 have hb:jfS (n:Int) s.length=true:=jdp.2 ⟨by omega,by omega⟩
 rw [hb]
 simp only [cond_true,Int.toNat_natCast,hs,jfp]
end
def BL (x L:Nat):Prop:=x<2 ^ L/\(L=0\/2 ^ (L-1)<=x)
instance (x L:Nat):Decidable (BL x L):=inferInstanceAs (Decidable (_/\_))
theorem BL.up {x k L:Nat} (h:BL (x/2 ^ k) L) (hx:2 ^ k<=x):BL x (L+k):=by
 have hp:0<2 ^ k:=Nat.pow_pos om
 obtain ⟨h1,h2⟩:=h
 have h3:L≠0:=by
  rintro rfl
  have:1<=x/2 ^ k:=(Nat.le_div_iff_mul_le hp).2 om
  simp at h1;omega
 refine ⟨?_,.inr ?_⟩
 ·rw [Nat.pow_add];exact (Nat.div_lt_iff_lt_mul hp).1 h1
 ·rcases h2 with h2 | h2
  ·exact absurd h2 h3
  ·rw [show L+k-1=(L-1)+k by omega,Nat.pow_add]
   exact (Nat.le_div_iff_mul_le hp).1 h2
section
variable {cl:Nat->Call} (hcl:Sem cl) {h:H}
include hcl
end
end Am.Sigs
namespace Am.Sigs
open Am Go
theorem strike_0 (f:Nat->Bool) (n:Int):setV (jbb f n 0)=setV f:=jbG fun i _=>by unfold jbb;simp
theorem strike_64 (f:Nat->Bool) (n:Int):setV (jbb f n 64)=setV (jcG f n):=jbG fun i hi=>by
 unfold jbb jcG;rw [decide_eq_false (show ¬ 64<=i by omega),Bool.false_or]
theorem strike_no {f:Nat->Bool} {n:Int} {k:Nat} (hf:f k=false):setV (jbb f n (k+1))=setV (jbb f n k):=jbG fun i _=>by
 unfold jbb
 by_cases h:i=k
 ·subst h;rw [hf];rfl
 ·rw [show decide (k+1<=i)=decide (k<=i) by by_cases h2:k<=i<;>simp [h2]<;>omega]
theorem strike_lt {f:Nat->Bool} {n:Int} {k:Nat} (hn:(k:Int)<n):setV (jbb f n (k+1))=setV (jbb f n k):=jbG fun i _=>by
 unfold jbb
 by_cases h:i=k
 ·subst h;rw [decide_eq_true hn,Bool.or_true,Bool.or_true]
 ·rw [show decide (k+1<=i)=decide (k<=i) by by_cases h2:k<=i<;>simp [h2]<;>omega]
theorem strike_ge {f:Nat->Bool} {n:Int} {k:Nat} (hn : ¬ (k:Int)<n):setV (jbb f n (k+1))=setV (delS (jbb f n k) k):=jbG fun i _=>by
 unfold jbb delS
 by_cases h:i=k
 ·subst h;simp;intro _;omega
 ·rw [show decide (k+1<=i)=decide (k<=i) by by_cases h2:k<=i<;>simp [h2]<;>omega,decide_eq_false h];simp
section
variable {cl:Nat->Call} (hcl:Sem cl) {f g:Nat->Bool} {fd:Int} {h:H}
include hcl
theorem fs_below {d:Nat} {n:Int} (hd:6<=d) : ∃ h',cl d (.fn F.jhf) [.agg (setV f),.i n] h=some (.agg (setV (jcG f n)),h')/\Old h h':=by
 refine jak (at_ hcl om rfl rfl rfl ?_)
 have ea:=jnL hcl (d:=d-1) (f:=f) (h:=((h.new (.cells (setV f) false)).new (.cells [.i n] false)).new (.cells [.int .u32 0,.int .u32 0] false)) om
 have x3:(((h.new (.cells (setV f) false)).new (.cells [.i n] false)).new (.cells [.int .u32 0,.int .u32 0] false)).nx=h.nx+3:=rfl
 rw [x3] at ea
 refine qm1 ?_
 have oH:Old h ((((h.new (.cells (setV f) false)).new (.cells [.i n] false)).new (.cells [.int .u32 0,.int .u32 0] false)).new (.cells (setV f) false)):=(Old.refl h).new.new.new.new
 have b0:((((h.new (.cells (setV f) false)).new (.cells [.i n] false)).new (.cells [.int .u32 0,.int .u32 0] false)).new (.cells (setV f) false)).get h.nx=some (.cells (setV f) false):=qgt
 have b1:((((h.new (.cells (setV f) false)).new (.cells [.i n] false)).new (.cells [.int .u32 0,.int .u32 0] false)).new (.cells (setV f) false)).get (h.nx+1)=some (.cells [.i n] false):=qgt
 have b2:((((h.new (.cells (setV f) false)).new (.cells [.i n] false)).new (.cells [.int .u32 0,.int .u32 0] false)).new (.cells (setV f) false)).get (h.nx+2)=some (.cells [.int .u32 0,.int .u32 0] false):=qgt
 have b3:((((h.new (.cells (setV f) false)).new (.cells [.i n] false)).new (.cells [.int .u32 0,.int .u32 0] false)).new (.cells (setV f) false)).get (h.nx+3)=some (.cells (setV f) false):=qgt
 have x4:((((h.new (.cells (setV f) false)).new (.cells [.i n] false)).new (.cells [.int .u32 0,.int .u32 0] false)).new (.cells (setV f) false)).nx=h.nx+4:=rfl
 change Run (cl (d-1)) fuel _ _ [(2,.p h.nx 0),(3,.p (h.nx+1) 0),(4,.p (h.nx+2) 0),(7,.clo F.jb0 [.p (h.nx+3) 0])] ((((h.new (.cells (setV f) false)).new (.cells [.i n] false)).new (.cells [.int .u32 0,.int .u32 0] false)).new (.cells (setV f) false)) _
 generalize (((h.new (.cells (setV f) false)).new (.cells [.i n] false)).new (.cells [.int .u32 0,.int .u32 0] false)).new (.cells (setV f) false)=H1 at oH b0 b1 b2 b3 x4 ⊢
 clear ea
 refine Run.rangeFunc_lo rfl qkp fun LO hLO=>?_
 rw [x4]
 have oL:Old h (H1.new (LO .ready none)):=oH.new
 obtain ⟨v',h',hc',hIJ⟩:=jlq hcl (d:=d-1) (L:=h.nx+4) (c:=h.nx+3) (f:=f) (h:=H1.new (LO .ready none)) om
  (fun k g=>g.get h.nx=some (.cells (setV (jbb f n k)) false)/\g.get (h.nx+1)=some (.cells [.i n] false)/\g.get (h.nx+2)=some (.cells [.int .u32 0,.int .u32 0] false)/\g.get (h.nx+3)=some (.cells (setV f) false)/\g.get (h.nx+4)=some (LO .ready none)/\h.nx+5<=g.nx/\Old h g/\k<=64)
  (fun _=>False)
  (fun k g p=>p.2.2.2.1)
  (by
   rintro k g g' ⟨p0,p1,p2,p3,p4,p5,p6,p7⟩ og
   exact ⟨by rw [og.2 _ om,p0],by rw [og.2 _ om,p1],by rw [og.2 _ om,p2],by rw [og.2 _ om,p3],by rw [og.2 _ om,p4],Nat.le_trans p5 og.1,p6.trans og,p7⟩)
  (by
   rintro k g hk hf ⟨p0,p1,p2,p3,p4,p5,p6,p7⟩
   exact ⟨by rw [p0,strike_no hf],p1,p2,p3,p4,p5,p6,by omega⟩)
  (by
   rintro k g hk hf ⟨p0,p1,p2,p3,p4,p5,p6,p7⟩
   refine ⟨true,?_⟩
   suffices q : ∃ v' g',cl (d-1-1) (.yld (h.nx+4)) [.i (k:Int)] g=some (v',g')/\(v' = .bool true/\(g'.get h.nx=some (.cells (setV (jbb f n (k+1))) false)/\g'.get (h.nx+1)=some (.cells [.i n] false)/\g'.get (h.nx+2)=some (.cells [.int .u32 0,.int .u32 0] false)/\g'.get (h.nx+3)=some (.cells (setV f) false)/\g'.get (h.nx+4)=some (LO .ready none)/\h.nx+5<=g'.nx/\Old h g'/\k+1<=64)) by
    obtain ⟨_,g',e,rfl,q⟩:=q
    exact ⟨g',e,fun _=>q,fun e=>by cases e⟩
   refine yl_ hcl om hLO p4 rfl ?_
   refine qx1 ?_
   refine End.nil ⟨rfl,p4,?_⟩
   by_cases hn:(k:Int)<n
   ·have hn' : ¬ (k:Int)>=n:=by omega
    refine qx1 ?_
    refine End.nil ⟨⟨.busy,none,qgt⟩,rfl,?_,?_,?_,?_,jab _,by simpa using p5,(p6.set om).set om,by omega⟩
    ·rw [jaa om,jaa om,p0,strike_lt hn]
    ·rw [jaa om,jaa om,p1]
    ·rw [jaa om,jaa om,p2]
    ·rw [jaa om,jaa om,p3]
   ·have hn':(k:Int)>=n:=by omega
    have oB:Old h (g.set (h.nx+4) (LO .busy none)):=p6.set om
    obtain ⟨g2,e2,o2⟩:=jmk hcl (d:=d-1-1-1) (f:=jbb f n k) (m:=k) (h:=g.set (h.nx+4) (LO .busy none)) om hk
    have x2:g.nx<=g2.nx:=o2.1
    have p0B:(g.set (h.nx+4) (LO .busy none)).get h.nx=some (.cells (setV (jbb f n k)) false):=by rw [jaa om,p0]
    have q0:g2.get h.nx=some (.cells (setV (jbb f n k)) false):=by rw [o2.2 _ (by show h.nx<g.nx;omega),p0B]
    refine qx1 ?_
    refine Ops.loadN rfl p0B (Nat.le_refl _) ?_
    rw [show List.take 2 (List.drop 0 (setV (jbb f n k)))=setV (jbb f n k) from rfl]
    refine qx1 ?_
    refine Ops.storeN (vs:=setV (delS (jbb f n k) k)) (b:=h.nx) (o:=0) rfl rfl rfl rfl q0 (Nat.le_refl _) ?_
    rw [jan (setV (delS (jbb f n k) k)) (setV (jbb f n k)) rfl,<- strike_ge hn]
    refine qx1 ?_
    refine End.nil ⟨⟨.busy,none,?_⟩,rfl,?_,?_,?_,?_,jab _,by simp;omega,?_,by omega⟩
    ·rw [jaa om,o2.2 _ (by show h.nx+4<g.nx;omega),jab]
    ·rw [jaa om,jab]
    ·rw [jaa om,jaa om,o2.2 _ (by show _<g.nx;omega),jaa om,p1]
    ·rw [jaa om,jaa om,o2.2 _ (by show _<g.nx;omega),jaa om,p2]
    ·rw [jaa om,jaa om,o2.2 _ (by show _<g.nx;omega),jaa om,p3]
    ·exact ((oB.trans o2).set (Nat.le_refl _)).set om)
  ⟨by rw [jac om,b0,strike_0],by rw [jac om,b1],by rw [jac om,b2],by rw [jac om,b3],by rw [<- x4,jad],by simp [x4],oL,by omega⟩
 refine hIJ.elim ?_ fun hF=>hF.elim
 rintro ⟨p0,p1,p2,p3,p4,p5,p6,_⟩
 rw [strike_64] at p0
 refine ⟨v',h',hc',.normal,p4,?_⟩
 have k0:(h'.kill (h.nx+4)).get h.nx=some (.cells (setV (jcG f n)) false):=by rw [jaf om,p0]
 have k2:(h'.kill (h.nx+4)).get (h.nx+2)=some (.cells [.int .u32 0,.int .u32 0] false):=by rw [jaf om,p2]
 have o9:Old h (h'.kill (h.nx+4)):=⟨p6.1,fun j hj=>by rw [jaf om,p6.2 j hj]⟩
 clear hLO
 refine qx1 ?_
 refine Ops.loadN rfl k0 (Nat.le_refl _) ?_
 rw [show List.take 2 (List.drop 0 (setV (jcG f n)))=setV (jcG f n) from rfl]
 refine qx1 ?_
 refine Ops.storeN (vs:=setV (jcG f n)) (b:=h.nx+2) (o:=0) rfl rfl rfl rfl k2 (Nat.le_of_ble_eq_true rfl) ?_
 rw [jan (setV (jcG f n)) [.int .u32 0,.int .u32 0] rfl]
 refine qx1 ?_
 refine jaS (l:=setV (jcG f n)) rfl (jab _) rfl ⟨rfl,?_⟩
 exact o9.set om
end
end Am.Sigs
namespace Am.Sigs
open Am Go
section
variable {cl:Nat->Call} (hcl:Sem cl) {f g:Nat->Bool} {h:H}
include hcl
end
end Am.Sigs
namespace Am.Sigs
open Am Go
theorem BL.top {x L:Nat} (h:BL x L) (h0:L≠0):x.testBit (L-1)=true:=by
 obtain ⟨h1,h2⟩:=h
 have h2:=h2.resolve_left h0
 obtain ⟨k,rfl⟩ : ∃ k,L=k+1:=⟨L-1,by omega⟩
 rw [Nat.add_sub_cancel] at h2 ⊢
 rw [Nat.testBit_eq_decide_div_mod_eq]
 have h3:x/2 ^ k=1:=by
  rw [Nat.pow_succ] at h1
  refine Nat.le_antisymm ?_ ((Nat.le_div_iff_mul_le (Nat.pow_pos om)).2 om)
  have:x/2 ^ k<2:=(Nat.div_lt_iff_lt_mul (Nat.pow_pos om)).2 om
  omega
 rw [h3];rfl
theorem BL.all {f:Nat->Bool} {n L:Nat} (h:BL (mk f n) L) {i:Nat} (hi:i<n) (hf:f i=true):i<L:=by
 have h1:(mk f n).testBit i=true:=by rw [je4];simp [hi,hf]
 have h2:=Nat.ge_two_pow_of_testBit h1
 rcases Nat.lt_or_ge i L with h3 | h3
 ·exact h3
 ·have:=Nat.pow_le_pow_right (n:=2) om h3
  have:=h.1
  omega
theorem BL.in_ {f:Nat->Bool} {n L:Nat} (h:BL (mk f n) L) (h0:L≠0):f (L-1)=true:=by
 have:=h.top h0
 rw [je4] at this
 simp at this
 exact this.2
section
variable {cl:Nat->Call} (hcl:Sem cl) {f g:Nat->Bool} {h:H}
include hcl
end
end Am.Sigs
namespace Am.Sigs
open Am Go
theorem jhQ {F:Nat->Bool} : ∀ (q m:Nat),m+q=64->(ja2 F m).length<(ja2 F 64).length -> ∃ m',m<=m'/\m'<64/\F m'=true/\(∀ j,m<=j->j<m'->F j=false)/\ja2 F m'=ja2 F m
 | 0,m,h,hl=>by
  obtain rfl:m=64:=by omega
  omega
 | q+1,m,h,hl=>by
  cases hF:F m with
  | true=>exact ⟨m,Nat.le_refl _,by omega,hF,fun j h1 h2=>by omega,rfl⟩
  | false=>
   have e:ja2 F (m+1)=ja2 F m:=by simp [ja2,hF]
   obtain ⟨m',h1,h2,h3,h4,h5⟩:=jhQ q (m+1) om (by rw [e];exact hl)
   refine ⟨m',by omega,h2,h3,fun j h6 h7=>?_,by rw [h5,e]⟩
   by_cases hj:j=m
   ·rw [hj,hF]
   ·exact h4 j om h7
theorem jgT {F:Nat->Bool} {m:Nat} : ∀ {n:Nat},m<=n -> ∃ r,ja2 F n=ja2 F m++r
 | 0,h=>by
  obtain rfl:m=0:=by omega
  exact ⟨[],by simp⟩
 | n+1,h=>by
  by_cases e:m=n+1
  ·subst e;exact ⟨[],by simp⟩
  ·obtain ⟨r,hr⟩:=jgT (F:=F) (m:=m) (n:=n) om
   exact ⟨r++if F n then [(n:Int)] else [],by rw [ja2,hr,List.append_assoc]⟩
theorem listS_at {F:Nat->Bool} {m:Nat} (hm:m<64) (hF:F m=true):(ja2 F 64)[(ja2 F m).length]?=some (m:Int):=by
 obtain ⟨r,hr⟩:=jgT (F:=F) (m:=m+1) (n:=64) om
 rw [hr,ja2,if_pos hF,List.append_assoc,List.getElem?_append_right (Nat.le_refl _)]
 simp
def jna (f g:Nat->Bool) (m:Nat):Int:=(if f m then 2 else 0)+(if g m then 4 else 0)
def askS (f g:Nat->Bool) (top:Int):Nat->Bool:=jcG (orS f g) top
section
variable {cl:Nat->Call} (hcl:Sem cl) {f g:Nat->Bool} {h:H}
include hcl
theorem jla {d:Nat} {top:Int} (hd:1<=d):cl d (.fn F.sel_asked) [.i top,.agg (setV f),.agg (setV g)] h=some (.clo F.jeC [.p (h.nx+1) 0,.p (h.nx+2) 0,.p h.nx 0],((h.new (.cells [.i top] false)).new (.cells (setV f) false)).new (.cells (setV g) false)):=by
 refine jap (at_ hcl om rfl rfl rfl ?_)
 refine qm1 ?_
 exact ⟨rfl,rfl⟩
end
end Am.Sigs
namespace Am.Sigs
open Am Go
def OldN (N:Nat) (a b:H):Prop:=a.nx<=b.nx /\ ∀ j,N<=j->j<a.nx->b.get j=a.get j
theorem OldN.refl (N:Nat) (a:H):OldN N a a:=⟨Nat.le_refl _,fun _ _ _=>rfl⟩
theorem OldN.trans {N:Nat} {a b c:H} (x:OldN N a b) (y:OldN N b c):OldN N a c:=⟨Nat.le_trans x.1 y.1,fun j h1 h2=>by rw [y.2 j h1 (Nat.lt_of_lt_of_le h2 x.1),x.2 j h1 h2]⟩
theorem Old.toN {a b:H} (N:Nat) (x:Old a b):OldN N a b:=⟨x.1,fun j _ h2=>x.2 j h2⟩
section
variable {cl:Nat->Call} (hcl:Sem cl) {f g:Nat->Bool} {h:H}
include hcl
theorem jhE {d L c1 c2 c3:Nat} {top:Int} (hd:8<=d) (I:Nat->H->Prop) (J:H->Prop)
  (hc : ∀ m e,I m e->e.get c1=some (.cells (setV f) false)/\e.get c2=some (.cells (setV g) false)/\e.get c3=some (.cells [.i top] false)/\c1<e.nx/\c2<e.nx/\c3<e.nx)
  (hI : ∀ m e e',I m e->Old e e'->I m e')
  (hskip : ∀ m e,m<64->askS f g top m=false->I m e->I (m+1) e)
  (hy : ∀ m e,m<64->askS f g top m=true->I m e -> ∃ (b:Bool) (e':H),cl (d-1) (.yld L) [.i (m:Int),.i (jna f g m)] e=some (.bool b,e')/\(b=true->I (m+1) e'/\OldN h.nx e e')/\(b=false->J e'))
  (h0:I 0 h) : ∃ v h',cl d (.fn F.jeC) [.yld L,.p c1 0,.p c2 0,.p c3 0] h=some (v,h')/\(I 64 h'\/J h'):=by
 obtain ⟨a1,a2,a3,l1,l2,l3⟩:=hc _ _ h0
 obtain ⟨h1,e1,o1⟩:=fs_or hcl (d:=d-1) (f:=f) (g:=g) (h:=h) om
 obtain ⟨h2,e2,o2⟩:=fs_below hcl (d:=d-1) (f:=orS f g) (n:=top) (h:=h1) om
 obtain ⟨v,h3,e3,row,o3⟩:=fs_All hcl (d:=d-1) (f:=jcG (orS f g) top) (h:=h2) om
 have a3':h1.get c3=some (.cells [.i top] false):=by rw [o1.2 _ l3,a3]
 obtain ⟨cp,⟨av,rfl⟩,hix⟩:=row.shape
 have o13:Old h h3:=(o1.trans o2).trans o3
 have I3:=hI _ _ _ h0 o13
 have hll:=jgU (askS f g top) 64
 replace row:Row h2.nx h3 1 (.slice av (ja2 (askS f g top) 64).length cp) (ja2 (askS f g top) 64).length (ints (ja2 (askS f g top) 64)):=row
 replace e3:cl (d-1) (.fn F.jfk) [.agg (setV (jcG (orS f g) top))] h2=some (.slice av (ja2 (askS f g top) 64).length cp,h3):=e3
 replace hix : ∀ i,i<(ja2 (askS f g top) 64).length -> ∃ q,h2.nx<=q/\q<h3.nx/\V.slice av (ja2 (askS f g top) 64).length cp = .slice (some (q,0)) (ja2 (askS f g top) 64).length cp/\h3.get q=some (.cells (ints (ja2 (askS f g top) 64)) false):=hix
 have hat : ∀ m,m<64->askS f g top m=true->(ja2 (askS f g top) 64)[(ja2 (askS f g top) m).length]?=some (m:Int):=fun m hm hF=>listS_at hm hF
 have hpre : ∀ m,m<=64->(ja2 (askS f g top) m).length<=(ja2 (askS f g top) 64).length:=fun m hm=>by
  obtain ⟨r,hr⟩:=jgT (F:=askS f g top) hm
  rw [hr,List.length_append];omega
 have hnext : ∀ m,m<=64->(ja2 (askS f g top) m).length<(ja2 (askS f g top) 64).length -> ∃ m',m<=m'/\m'<64/\askS f g top m'=true/\(∀ j,m<=j->j<m'->askS f g top j=false)/\ja2 (askS f g top) m'=ja2 (askS f g top) m:=fun m hm hl=>jhQ (64-m) m om hl
 generalize ja2 (askS f g top) 64=A at *
 refine at_ hcl om rfl rfl rfl ?_
 refine qx1 ?_
 refine Ops.loadN rfl a1 (Nat.le_refl _) ?_
 rw [show List.take 2 (List.drop 0 (setV f))=setV f from rfl]
 refine qx1 ?_
 refine Ops.loadN rfl a2 (Nat.le_refl _) ?_
 rw [show List.take 2 (List.drop 0 (setV g))=setV g from rfl]
 refine qx1 ?_
 refine Ops.callf_chk rfl e1 (jbt rfl a3' rfl rfl jb3) ?_
 refine qx1 ?_
 refine Run.loop (fun k e gg=>∃ m:Nat,k=A.length-(ja2 (askS f g top) m).length/\m<=64/\e=[(0,.yld L),(1,.p c1 0),(2,.p c2 0),(13,.slice av A.length cp),(14,.i (A.length:Int)),(15,.i ((ja2 (askS f g top) m).length:Int))]/\I m gg/\OldN h.nx h3 gg)
  (k:=A.length) (by show _<100000;omega) ⟨0,rfl,by omega,rfl,I3,OldN.refl _ _⟩ ?_
 clear e1 e2 e3 a1 a2 a3 a3' l1 l2 l3 h0 I3
 rintro _ _ gg ⟨m0,rfl,hm0,rfl,hIm,og⟩ n2 ih
 by_cases hlt:((ja2 (askS f g top) m0).length:Int)<A.length
 case neg=>
  have fin : ∀ q m,m+q=64->I m gg->(ja2 (askS f g top) m).length=A.length->I 64 gg:=by
   intro q
   induction q with
   | zero=>intro m hm hI' _;obtain rfl:m=64:=om;exact hI'
   | succ q ihq=>
    intro m hm hI' hl
    have hf:askS f g top m=false:=by
     cases hF:askS f g top m with
     | false=>rfl
     | true=>
      have h1:=hat m om hF
      rw [List.getElem?_eq_none om] at h1;cases h1
    exact ihq (m+1) om (hskip m _ om hf hI') (by simp [ja2,hf];exact hl)
  have hpre0:=hpre m0 hm0
  have hfin:=fin (64-m0) m0 om hIm om
  clear ih hix hc hI hskip hy fin hat hpre hnext hIm
  refine qx1 ?_
  exact .inl hfin
 obtain ⟨m,hm1,hm2,hF,hall,hls⟩:=hnext m0 hm0 om
 have hIm:I m gg:=by
  have : ∀ q,m0+q<=m->I (m0+q) gg:=by
   intro q
   induction q with
   | zero=>intro _;exact hIm
   | succ q ihq=>intro hq;exact hskip (m0+q) _ om (hall _ om om) (ihq om)
  have:=this (m-m0) om
  rwa [show m0+(m-m0)=m by omega] at this
 have hat:=hat m hm2 hF
 clear hpre hnext
 rw [<- hls] at hlt ⊢
 rw [<- hls] at ih
 obtain ⟨q,y1,y2,y3,y4⟩:=hix (ja2 (askS f g top) m).length om
 cases y3
 have hcell:(ints A)[0+((ja2 (askS f g top) m).length:Int).toNat*1]?=some (.i (m:Int)):=by
  rw [show 0+((ja2 (askS f g top) m).length:Int).toNat*1=(ja2 (askS f g top) m).length by omega];simp [hat]
 have hqg:gg.get q=some (.cells (ints A) false):=by rw [og.2 _ (by have:=o1.1;have:=o2.1;omega) y2,y4]
 obtain ⟨b1,b2,b3,m1,m2,m3⟩:=hc _ _ hIm
 have hfit:decide (fitS (m:Int))=true:=decide_eq_true ⟨by omega,by omega⟩
 have eh1:=jgZ hcl (d:=d-1) (f:=f) (fd:=(m:Int)) (h:=gg) om
 rw [hfit,Bool.true_and,Int.toNat_natCast] at eh1
 have oA:Old gg (gg.new (.cells (setV f) false)):=(Old.refl gg).new
 have eh2:=jgZ hcl (d:=d-1) (f:=g) (fd:=(m:Int)) (h:=gg.new (.cells (setV f) false)) om
 rw [hfit,Bool.true_and,Int.toNat_natCast] at eh2
 have b2':(gg.new (.cells (setV f) false)).get c2=some (.cells (setV g) false):=by rw [jac m2,b2]
 have oB:Old gg ((gg.new (.cells (setV f) false)).new (.cells (setV g) false)):=oA.new
 obtain ⟨bb,g',ey,q1,q2⟩:=hy m _ hm2 hF (hI _ _ _ hIm oB)
 have hl1:(((ja2 (askS f g top) m).length:Int)+1)=((ja2 (askS f g top) (m+1)).length:Int):=by simp [ja2,hF]
 have hend:bb=true->End (cl (d-1)) fuel [.loop [0,1,2,13,14,15] (.seq (.region 0 [.mk4 0 (some 16) (.bin .lss (.t 15) (.t 14)) none] [0,1,2,13,14,15,16]) (.seq (.cond (.t 16) .skip (.exit 0)) c121_2)) n2,.block 0] .normal
   [(0,.yld L),(1,.p c1 0),(2,.p c2 0),(13,.slice (some (q,0)) A.length cp),(14,.i (A.length:Int)),(15,.i (((ja2 (askS f g top) m).length:Int)+1))] g' (Fin c121.res fun v' h'=>I 64 h'\/J h'):=by
  intro hb
  rw [hl1]
  have hlt2:(ja2 (askS f g top) (m+1)).length=(ja2 (askS f g top) m).length+1:=by simp [ja2,hF]
  exact ih (A.length-(ja2 (askS f g top) (m+1)).length) om _ _ ⟨m+1,rfl,by omega,rfl,(q1 hb).1,(og.trans (oB.toN _)).trans (q1 hb).2⟩
 clear hc hI hskip hy ih hix hall hls hat hIm hm1 hm2 hF o1 o2 o3 o13 row
 clear oB oA b3 m1 m2 m3 og y1 y2 y4
 generalize A.length=N at *
 generalize (ja2 (askS f g top) m).length=x at *
 generalize ints A=xs at *
 cases hf:f m<;>cases hg:g m<;>rw [hf] at eh1<;>rw [hg] at eh2<;>simp only [jna,hf,hg,Bool.false_eq_true,if_true,if_false,reduceIte] at ey
 all_goals
  repeat' (first|refine qxy ?_|refine zbf rfl (fun _=>?_) fun _=>?_|refine zbg rfl (fun _=>?_) fun _=>?_|refine zbh rfl (fun _=>?_) fun _=>?_|refine zbm rfl (fun _=>?_) fun _=>?_|refine zbn rfl (fun _=>?_) fun _=>?_)
  refine Ops.loadN rfl b1 (Nat.le_refl _) ?_
  rw [show List.take 2 (List.drop 0 (setV f))=setV f from rfl]
  repeat' (first|refine qxy ?_|refine zbf rfl (fun _=>?_) fun _=>?_|refine zbg rfl (fun _=>?_) fun _=>?_|refine zbh rfl (fun _=>?_) fun _=>?_|refine zbm rfl (fun _=>?_) fun _=>?_|refine zbn rfl (fun _=>?_) fun _=>?_)
  refine Ops.loadN rfl b2' (Nat.le_refl _) ?_
  rw [show List.take 2 (List.drop 0 (setV g))=setV g from rfl]
  repeat' (first|refine qxy ?_|refine zbf rfl (fun _=>?_) fun _=>?_|refine zbg rfl (fun _=>?_) fun _=>?_|refine zbh rfl (fun _=>?_) fun _=>?_|refine zbm rfl (fun _=>?_) fun _=>?_|refine zbn rfl (fun _=>?_) fun _=>?_)
  refine Ops.yield rfl rfl ey ?_
  cases bb
  ·repeat' (first|refine qxy ?_|refine zbf rfl (fun _=>?_) fun _=>?_|refine zbg rfl (fun _=>?_) fun _=>?_|refine zbh rfl (fun _=>?_) fun _=>?_|refine zbm rfl (fun _=>?_) fun _=>?_|refine zbn rfl (fun _=>?_) fun _=>?_)
   exact .inr (q2 rfl)
  ·repeat' (first|refine qxy ?_|refine zbf rfl (fun _=>?_) fun _=>?_|refine zbg rfl (fun _=>?_) fun _=>?_|refine zbh rfl (fun _=>?_) fun _=>?_|refine zbm rfl (fun _=>?_) fun _=>?_|refine zbn rfl (fun _=>?_) fun _=>?_)
   exact hend rfl
end
end Am.Sigs
namespace Am.Sigs
open Am Go
def inR (r:Rdy):Bool:=r.inn||r.hup||r.err
def outR (r:Rdy):Bool:=r.out||r.hup||r.err
def isR (r:Rdy):Int:=(if inR r then 2 else 0)+(if outR r then 4 else 0)
def jee (ws:Ws) (f g:Nat->Bool) (top:Int):Prop := ∃ m:Nat,m<64/\askS f g top m=true/\(rdyS ws (m:Int)).op=false
section
variable {cl:Nat->Call} (hcl:Sem cl) {h:H}
include hcl
theorem sl_is {d:Nat} {r:Rdy} (hd:1<=d) : ∃ h',cl d (.fn F.sel_is) [.agg r.cells] h=some (.i (isR r),h')/\Old h h':=by
 obtain ⟨op,inn,out,hup,err,rd,wr⟩:=r
 have o0:Old h (h.new (.cells (Rdy.cells ⟨op,inn,out,hup,err,rd,wr⟩) false)):=(Old.refl h).new
 simp only [Rdy.cells] at o0 ⊢
 refine jak (at_ hcl om rfl rfl rfl ?_)
 cases inn<;>cases out<;>cases hup<;>cases err
 all_goals
  generalize hR:isR _=R
  repeat' (first|refine qxy ?_|refine zbf rfl (fun _=>?_) fun _=>?_|refine zbg rfl (fun _=>?_) fun _=>?_|refine zbh rfl (fun _=>?_) fun _=>?_|refine zbm rfl (fun _=>?_) fun _=>?_|refine zbn rfl (fun _=>?_) fun _=>?_)
  refine Ops.make rfl rfl ?_
  repeat' (first|refine qxy ?_|refine zbf rfl (fun _=>?_) fun _=>?_|refine zbg rfl (fun _=>?_) fun _=>?_|refine zbh rfl (fun _=>?_) fun _=>?_|refine zbm rfl (fun _=>?_) fun _=>?_|refine zbn rfl (fun _=>?_) fun _=>?_)
  subst hR
  exact ⟨rfl,o0⟩
variable {w s:Nat} {ow:Nat->Nat} {ws:Ws} {now:Int} {tb:Tb} {no:Option (Nat × Nat)} {f g:Nat->Bool}
theorem sl_closed {d:Nat} {top:Int} (hd:10<=d) (a:WSt h w s ow ws now tb no) (o:WsOk ws) :
  ∃ (b:Bool) (h':H),cl d (.fn F.jhG) [.p w 0,.i top,.agg (setV f),.agg (setV g)] h=some (.bool b,h')/\(b=true↔jee ws f g top)/\Old h h':=by
 suffices q : ∃ v' h',cl d (.fn F.jhG) [.p w 0,.i top,.agg (setV f),.agg (setV g)] h=some (v',h') /\ ∃ b:Bool,v' = .bool b/\(b=true↔jee ws f g top)/\Old h h' by
  obtain ⟨_,h',e,b,rfl,q⟩:=q;exact ⟨b,h',e,q⟩
 refine at_ hcl om rfl rfl rfl ?_
 refine qm1 ?_
 refine Ops.loadN (l:=setV f) rfl qgt (Nat.le_refl _) ?_
 rw [show List.take 2 (List.drop 0 (setV f))=setV f from rfl]
 refine qx1 ?_
 refine Ops.loadN (l:=setV g) rfl qgt (Nat.le_refl _) ?_
 rw [show List.take 2 (List.drop 0 (setV g))=setV g from rfl]
 refine qx1 ?_
 refine Ops.callf rfl (jla hcl (d:=d-1) (f:=f) (g:=g) om) ?_
 refine qx1 ?_
 have oH:Old h ((((((((h.new (.cells [.p w 0] false)).new (.cells (setV f) false)).new (.cells (setV g) false)).new (.cells [.bool false] false)).set (h.nx+3) (.cells [.bool false] false)).new (.cells [.i top] false)).new (.cells (setV f) false)).new (.cells (setV g) false)):=((((Old.refl h).new.new.new.new.set (by simp)).new).new).new
 have b0:((((((((h.new (.cells [.p w 0] false)).new (.cells (setV f) false)).new (.cells (setV g) false)).new (.cells [.bool false] false)).set (h.nx+3) (.cells [.bool false] false)).new (.cells [.i top] false)).new (.cells (setV f) false)).new (.cells (setV g) false)).get h.nx=some (.cells [.p w 0] false):=qgt
 have b3:((((((((h.new (.cells [.p w 0] false)).new (.cells (setV f) false)).new (.cells (setV g) false)).new (.cells [.bool false] false)).set (h.nx+3) (.cells [.bool false] false)).new (.cells [.i top] false)).new (.cells (setV f) false)).new (.cells (setV g) false)).get (h.nx+3)=some (.cells [.bool false] false):=qgt
 have b4:((((((((h.new (.cells [.p w 0] false)).new (.cells (setV f) false)).new (.cells (setV g) false)).new (.cells [.bool false] false)).set (h.nx+3) (.cells [.bool false] false)).new (.cells [.i top] false)).new (.cells (setV f) false)).new (.cells (setV g) false)).get (h.nx+4)=some (.cells [.i top] false):=qgt
 have b5:((((((((h.new (.cells [.p w 0] false)).new (.cells (setV f) false)).new (.cells (setV g) false)).new (.cells [.bool false] false)).set (h.nx+3) (.cells [.bool false] false)).new (.cells [.i top] false)).new (.cells (setV f) false)).new (.cells (setV g) false)).get (h.nx+5)=some (.cells (setV f) false):=qgt
 have b6:((((((((h.new (.cells [.p w 0] false)).new (.cells (setV f) false)).new (.cells (setV g) false)).new (.cells [.bool false] false)).set (h.nx+3) (.cells [.bool false] false)).new (.cells [.i top] false)).new (.cells (setV f) false)).new (.cells (setV g) false)).get (h.nx+6)=some (.cells (setV g) false):=qgt
 have x1:((((((((h.new (.cells [.p w 0] false)).new (.cells (setV f) false)).new (.cells (setV g) false)).new (.cells [.bool false] false)).set (h.nx+3) (.cells [.bool false] false)).new (.cells [.i top] false)).new (.cells (setV f) false)).new (.cells (setV g) false)).nx=h.nx+7:=rfl
 change Run (cl (d-1)) fuel _ _ [(4,.p h.nx 0),(9,.p (h.nx+3) 0),(14,.clo F.jeC [.p (h.nx+5) 0,.p (h.nx+6) 0,.p (h.nx+4) 0])] ((((((((h.new (.cells [.p w 0] false)).new (.cells (setV f) false)).new (.cells (setV g) false)).new (.cells [.bool false] false)).set (h.nx+3) (.cells [.bool false] false)).new (.cells [.i top] false)).new (.cells (setV f) false)).new (.cells (setV g) false)) _
 generalize (((((((h.new (.cells [.p w 0] false)).new (.cells (setV f) false)).new (.cells (setV g) false)).new (.cells [.bool false] false)).set (h.nx+3) (.cells [.bool false] false)).new (.cells [.i top] false)).new (.cells (setV f) false)).new (.cells (setV g) false)=H1 at oH b0 b3 b4 b5 b6 x1 ⊢
 have hx1:=oH.1
 refine Run.rangeFunc_lo rfl qkp fun LO hLO=>?_
 rw [x1]
 have oL:Old h (H1.new (LO .ready none)):=oH.new
 obtain ⟨v',h',hc,hIJ⟩:=jhE hcl (d:=d-1) (L:=h.nx+7) (c1:=h.nx+5) (c2:=h.nx+6) (c3:=h.nx+4) (f:=f) (g:=g) (top:=top) (h:=H1.new (LO .ready none)) om
  (fun m e=>(∀ j,j<m->askS f g top j=true->(rdyS ws (j:Int)).op=true)/\e.get h.nx=some (.cells [.p w 0] false)/\e.get (h.nx+3)=some (.cells [.bool false] false)/\e.get (h.nx+4)=some (.cells [.i top] false)/\e.get (h.nx+5)=some (.cells (setV f) false)/\e.get (h.nx+6)=some (.cells (setV g) false)/\e.get (h.nx+7)=some (LO .ready none)/\h.nx+8<=e.nx/\Old h e)
  (fun e=>jee ws f g top/\e.get (h.nx+3)=some (.cells [.bool true] false)/\e.get (h.nx+7)=some (LO .done (some (.exit 0)))/\h.nx+8<=e.nx/\Old h e)
  (fun m e ⟨_,_,_,p4,p5,p6,_,p8,_⟩=>⟨p5,p6,p4,by omega,by omega,by omega⟩)
  (by
   rintro m e e' ⟨p00,p0,p3,p4,p5,p6,p7,p8,p9⟩ og
   exact ⟨p00,by rw [og.2 _ om,p0],by rw [og.2 _ om,p3],by rw [og.2 _ om,p4],by rw [og.2 _ om,p5],by rw [og.2 _ om,p6],by rw [og.2 _ om,p7],Nat.le_trans p8 og.1,p9.trans og⟩)
  (by
   rintro m e hm hk ⟨p00,p⟩
   refine ⟨fun j hj ha=>?_,p⟩
   by_cases hjm:j=m
   ·rw [hjm,hk] at ha;cases ha
   ·exact p00 j om ha)
  (by
   rintro m e hm hk ⟨p00,p0,p3,p4,p5,p6,p7,p8,p9⟩
   have oq:Old h (e.set (h.nx+7) (LO .busy none)):=p9.set om
   obtain ⟨e1,er,oe⟩:=jeg hcl (d:=d-1-1-1) (fd:=(m:Int)) om (a.old oq) o
   rw [jeF] at er
   have hop : ∀ j,j<m+1->askS f g top j=true->(rdyS ws (m:Int)).op=true->(rdyS ws (j:Int)).op=true:=by
    intro j hj ha ho
    by_cases hjm:j=m
    ·rw [hjm,ho]
    ·exact p00 j om ha
   have hcz:(rdyS ws (m:Int)).op=false->jee ws f g top:=fun h=>⟨m,hm,hk,h⟩
   generalize jna f g m=mk0
   generalize rdyS ws (m:Int)=r at er hop hcz
   obtain ⟨op,inn,out,hup,err,rd,wr⟩:=r
   simp only [Rdy.cells] at er hop hcz
   have r0:e1.get (h.nx+3)=some (.cells [.bool false] false):=by rw [oe.2 _ (by simp;omega),jaa om,p3]
   have r7:e1.get (h.nx+7)=some (LO .busy none):=by rw [oe.2 _ (by simp;omega),jab]
   have oe2 : ∀ j,j<e.nx->j≠h.nx+7->e1.get j=e.get j:=fun j h1 h2=>by rw [oe.2 _ (by simpa using h1),jaa h2]
   have ox:e.nx<=e1.nx:=by have:=oe.1;simpa using this
   have of:Old h e1:=oq.trans oe
   suffices q : ∃ v' g',cl (d-1-1) (.yld (h.nx+7)) [.i (m:Int),.i mk0] e=some (v',g') /\ ∃ b:Bool,v' = .bool b/\(b=true->((∀ j,j<m+1->askS f g top j=true->(rdyS ws (j:Int)).op=true)/\g'.get h.nx=some (.cells [.p w 0] false)/\g'.get (h.nx+3)=some (.cells [.bool false] false)/\g'.get (h.nx+4)=some (.cells [.i top] false)/\g'.get (h.nx+5)=some (.cells (setV f) false)/\g'.get (h.nx+6)=some (.cells (setV g) false)/\g'.get (h.nx+7)=some (LO .ready none)/\h.nx+8<=g'.nx/\Old h g')/\Old e g') /\
     (b=false->jee ws f g top/\g'.get (h.nx+3)=some (.cells [.bool true] false)/\g'.get (h.nx+7)=some (LO .done (some (.exit 0)))/\h.nx+8<=g'.nx/\Old h g') by
    obtain ⟨_,g',e,b,rfl,q⟩:=q
    exact ⟨b,g',e,fun hb=>⟨(q.1 hb).1,(q.1 hb).2.toN _⟩,q.2⟩
   refine yl_ hcl om hLO p7 rfl ?_
   clear a o
   refine qx1 ?_
   refine End.nil ⟨rfl,p7,?_⟩
   cases op
   ·refine qx1 ?_
    refine Ops.store1 (l:=[.bool false]) rfl rfl rfl r0 Nat.zero_lt_one ?_
    refine qx1 ?_
    refine End.nil ⟨⟨.busy,none,by rw [jaa om,r7]⟩,false,rfl,fun e=>(by cases e),fun _=>⟨hcz rfl,?_,jab _,by simp;omega,(of.set om).set om⟩⟩
    rw [jaa om];exact jab _
   ·refine qx1 ?_
    refine End.nil ⟨⟨.busy,none,r7⟩,true,rfl,fun _=>⟨⟨fun j hj ha=>hop j hj ha rfl,?_,?_,?_,?_,?_,jab _,by simp;omega,of.set om⟩,by simpa using ox,?_⟩,fun e=>by cases e⟩
    ·rw [jaa om,oe2 _ om om,p0]
    ·rw [jaa om,oe2 _ om om,p3]
    ·rw [jaa om,oe2 _ om om,p4]
    ·rw [jaa om,oe2 _ om om,p5]
    ·rw [jaa om,oe2 _ om om,p6]
    ·intro j hj
     by_cases hz:j=h.nx+7
     ·rw [hz,jab,p7];rfl
     ·rw [jaa hz,oe2 _ hj hz])
  ⟨fun j hj=>by omega,by rw [jac om,b0],by rw [jac om,b3],by rw [jac om,b4],by rw [jac om,b5],by rw [jac om,b6],by rw [<- x1,jad],by simp [x1],oL⟩
 clear a o
 rcases hIJ with ⟨p00,p0,p3,p4,p5,p6,p7,p8,p9⟩ | ⟨p00,p3,p7,p8,p9⟩
 ·have hn : ¬ jee ws f g top:=by
   rintro ⟨m,hm,hk,hz⟩
   rw [p00 m hm hk] at hz;cases hz
  have k0:(h'.kill (h.nx+7)).get (h.nx+3)=some (.cells [.bool false] false):=by rw [jaf om,p3]
  have o9:Old h (h'.kill (h.nx+7)):=⟨p9.1,fun j hj=>by rw [jaf om,p9.2 j hj]⟩
  refine ⟨v',h',hc,.normal,p7,?_⟩
  clear hLO
  refine qx1 ?_
  exact ⟨_,rfl,by simp [hn],o9⟩
 ·have k0:(h'.kill (h.nx+7)).get (h.nx+3)=some (.cells [.bool true] false):=by rw [jaf om,p3]
  have o9:Old h (h'.kill (h.nx+7)):=⟨p9.1,fun j hj=>by rw [jaf om,p9.2 j hj]⟩
  refine ⟨v',h',hc,.exit 0,p7,?_⟩
  clear hLO
  refine qx1 ?_
  exact ⟨_,rfl,by simp [p00],o9⟩
end
end Am.Sigs
