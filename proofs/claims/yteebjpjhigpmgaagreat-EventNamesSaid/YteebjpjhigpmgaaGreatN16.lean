/- Our own library, part 16. -/
import Derived.MapKept
import Derived.Test.YteebjpjhigpmgaaGreatN13
set_option maxHeartbeats 8000000
set_option maxRecDepth 800
set_option linter.all false
namespace Am
open Go
section
variable {m:Mp}
theorem jc3 {clock:Nat} : ∀ {es:List (V × V × Nat)} {ces:List MapEntry},jaa m es ces->jdZ clock es=true ->
  (∀ x∈ces,x.born<clock /\ ∃ j,x.key = .int .i64 j /\ -9223372036854775808<=j/\j<=9223372036854775807)/\(ces.map (·.born)).Nodup/\(ces.map (·.key)).Nodup /\ ∀ x∈ces,∃ e∈es,e.2.2=x.born /\ ∃ j,e.1 = .int .i64 j/\x.key = .int .i64 j
 | [],_,h,_=>by
  rw [show _=[] from h]
  exact ⟨fun x hx=>(by cases hx),List.nodup_nil,List.nodup_nil,fun x hx=>(by cases hx)⟩
 | (k,v,n) :: es,_,⟨c0,s,e,h1,h2,h3,h4⟩,g=>by
  subst e
  simp only [jdZ,zm] at g
  obtain ⟨g1,g2,g3,g4⟩:=g
  obtain ⟨i1,i2,i3,i4⟩:=jc3 h4 g4
  split at g1
  ·next j=>
   simp only [zm,zg] at g1
   have hk:c0.key = .int .i64 j:=h1
   have g3:=zy.1 g3
   have far : ∀ x∈s,x.born≠n/\x.key ≠ .int .i64 j:=fun x hx=>by
    obtain ⟨e,he,e1,j',e2,e3⟩:=i4 x hx
    have:=g3 e he
    simp only [zm,Bool.not_eq_true'] at this
    refine ⟨fun q=>?_,fun q=>?_⟩
    ·rw [e1,q] at this;simp at this
    ·rw [e3] at q
     cases q
     rw [e2] at this
     simp [V.same_refl] at this
   refine ⟨fun x hx=>?_,?_,?_,fun x hx=>?_⟩
   ·rcases zA.1 hx with rfl | hx
    ·exact ⟨by rw [h3];rw [Nat.blt_eq] at g2;exact g2,j,hk,g1.1,g1.2⟩
    ·exact i1 x hx
   ·rw [List.map_cons,List.nodup_cons]
    refine ⟨fun hm=>?_,i2⟩
    obtain ⟨x,hx,e⟩:=List.mem_map.1 hm
    exact (far x hx).1 (by rw [e,h3])
   ·rw [List.map_cons,List.nodup_cons]
    refine ⟨fun hm=>?_,i3⟩
    obtain ⟨x,hx,e⟩:=List.mem_map.1 hm
    exact (far x hx).2 (by rw [e,hk])
   ·rcases zA.1 hx with rfl | hx
    ·exact ⟨_,zh ..,h3.symm,j,rfl,hk⟩
    ·obtain ⟨e,he,e1,e2⟩:=i4 x hx
     exact ⟨e,zj _ he,e1,e2⟩
  ·cases g1
theorem jar : ∀ {es:List (V × V × Nat)} {ces:List MapEntry},jaa m es ces->ces.map (·.born)=es.map (·.2.2)
 | [],_,h=>by rw [show _=[] from h];rfl
 | (k,v,n) :: es,_,⟨c0,s,e,h1,h2,h3,h4⟩=>by
  subst e
  simp only [List.map_cons,h3,jar h4]
end
section
variable (R:Prog) (fu d pend:Nat)
def cntL (h:H) (p:V) (seen:Array Nat):List (V × V × Nat)->Nat
 | []=>0
 | (k,_,n) :: r=>(bif seen.contains n then 0 else match jcE R fu d pend h p k with
  | some true=>1
  | _=>0)+cntL h p seen r
variable {R fu d pend}
theorem jdH {h:H} {p:V} : ∀ {es:List (V × V × Nat)} {c:Nat},cntK R fu d pend h p es=some c->cntL R fu d pend h p #[] es=c /\ ∀ e∈es,∃ b,jcE R fu d pend h p e.1=some b
 | [],c,hr=>by cases hr;exact ⟨rfl,fun e he=>by cases he⟩
 | (k,v,n) :: r,c,hr=>by
  unfold cntK at hr
  split at hr
  ·next b hb=>
   split at hr
   ·next c1 hc1=>
    obtain ⟨i1,i2⟩:=jdH hc1
    cases hr
    refine ⟨?_,fun e he=>?_⟩
    ·unfold cntL
     rw [i1,hb]
     cases b<;>simp<;>omega
    ·rcases zA.1 he with rfl | he
     ·exact ⟨b,hb⟩
     ·exact i2 e he
   ·cases hr
  ·cases hr
theorem jdG {h:H} {p:V} {seen:Array Nat} : ∀ {es:List (V × V × Nat)},(∀ e∈es,seen.contains e.2.2=true)->cntL R fu d pend h p seen es=0
 | [],_=>rfl
 | (k,v,n) :: r,hr=>by
  unfold cntL
  rw [hr _ (zh ..),jdG fun e he=>hr e (zj _ he)]
  rfl
theorem jbH {h:H} {p:V} {seen:Array Nat} {s:Nat} : ∀ {es:List (V × V × Nat)},s ∉ es.map (·.2.2)->cntL R fu d pend h p (seen.push s) es=cntL R fu d pend h p seen es
 | [],_=>rfl
 | (k,v,n) :: r,hr=>by
  simp only [List.map_cons,zA,not_or] at hr
  unfold cntL
  rw [jbH hr.2]
  have:(seen.push s).contains n=seen.contains n:=by
   rw [Bool.eq_iff_iff]
   simp only [Array.contains_iff_mem,Array.mem_push]
   exact ⟨fun q=>q.elim id fun q=>zq q.symm hr.1,Or.inl⟩
  rw [this]
theorem jdF {h:H} {p:V} {seen:Array Nat} {e:V × V × Nat} {b:Bool} (ha:jcE R fu d pend h p e.1=some b) (hs:seen.contains e.2.2=false) : ∀ {es:List (V × V × Nat)},e∈es->(es.map (·.2.2)).Nodup ->
  cntL R fu d pend h p seen es=cntL R fu d pend h p (seen.push e.2.2) es+(bif b then 1 else 0)
 | (k,v,n) :: r,he,hn=>by
  rw [List.map_cons,List.nodup_cons] at hn
  unfold cntL
  rcases zA.1 he with rfl | he
  ·have h1:(seen.push n).contains n=true:=by simp
   have hs:seen.contains n=false:=hs
   have ha:jcE R fu d pend h p k=some b:=ha
   simp only [hs,h1,ha]
   rw [jbH hn.1]
   cases b<;>simp<;>omega
  ·have h1:(seen.push e.2.2).contains n=seen.contains n:=by
    rw [Bool.eq_iff_iff]
    simp only [Array.contains_iff_mem,Array.mem_push]
    refine ⟨fun q=>q.elim id fun q=>?_,Or.inl⟩
    have:n≠e.2.2:=fun q=>hn.1 (q ▸ List.mem_map.2 ⟨e,he,rfl⟩)
    exact zq q this
   rw [jdF ha hs he hn.2,h1]
   omega
theorem jft {h:H} {p:V} {seen:Array Nat} : ∀ {es:List (V × V × Nat)},cntL R fu d pend h p seen es<=es.length
 | []=>zn _
 | (k,v,n) :: r=>by
  unfold cntL
  have := @jft h p seen r
  rw [List.length_cons]
  cases seen.contains n
  ·simp only [cond_false]
   split<;>omega
  ·simp only [cond_true]
   omega
theorem jfc {h:H} {p k:V} {b:Bool} (hr:jcE R fu d pend h p k=some b) : ∃ n h1,jau R fu d (.fn pend) [p,k] h=some (.int .i64 n,h1)/\jbj h h1 h.nx=true/\0<=n/\n<=127/\b = !(decide (n=0)||decide (n=64)):=by
 unfold jcE at hr
 split at hr
 ·next n h1 hc=>
  cases hk:jbj h h1 h.nx&&(decide (0<=n)&&decide (n<=127)) with
  | false=>rw [hk] at hr;cases hr
  | true=>
   rw [hk] at hr
   simp only [zm,zg] at hk
   exact ⟨n,h1,hc,hk.1,hk.2.1,hk.2.2,by cases hr;rfl⟩
 ·cases hr
end
end Am
