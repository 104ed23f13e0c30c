/- Our own library, part 25. -/
import Derived.MapKept
import Derived.WalkKit
import Derived.Deep.WholeRow
import Derived.Maps.RangeWalk
import Derived.Test.YtccoogikjelcbaaGreatDoorM13
set_option maxHeartbeats 8000000
set_option maxRecDepth 800
set_option linter.all false
namespace Am
open Go
section
variable {m:Mp}
theorem jaj : ∀ {es:List (V × V × Nat)} {ces:List MapEntry},jad m es ces->ces.map (·.born)=es.map (·.2.2)
 | [],_,h=>by rw [show _=[] from h];rfl
 | (k,v,n) :: es,_,⟨c0,s,e,h1,h2,h3,h4⟩=>by
  subst e
  simp only [List.map_cons,h3,jaj h4]
end
end Am
namespace Go.Proofs
open Go.Shelf Go.RowKit
open Go.ChangeMaps (setBlock)
section
variable {P:Program} {ops:Array Oper} {rest:List Oper} {o:Oper} {a:Act} {Q:Exit->Act->World->Prop} {w:World}
theorem jbZ (hg:o.guard=none) (mo:Operand) (t k e:TypeId) (hop:o.op=Op.range t mo) (ht:P.underlying t=some (.map k e)) (b:Nat) (es:Array MapEntry) (clock:Nat) (hm:a.eval mo = .map (some b)) (hb:w.heap[b]?=some (.map es clock))
  (hK:wpList P ops Q rest (a.put o.dst (.pointer (some ⟨w.heap.size,0,none⟩))) (w.alloc (.mapIter (some b) clock #[] clock))):wpList P ops Q (o :: rest) a w:=by
 refine wpList_plain hg fun K' hK'=>?_
 have hrun:=run_range_map w t k e b es clock ht hb
 unfold Oper.wp
 simp [execOp,hop,hm,hrun,Result.andThen]
 exact hK' _ _ hK
theorem jdI (hg:o.guard=none) (it:Operand) (hop:o.op=Op.next it false) (r b since c0:Nat) (seen:Array Nat) (es:Array MapEntry) (clock:Nat) (hit:a.eval it = .pointer (some ⟨r,0,none⟩))
  (hr:w.heap[r]?=some (.mapIter (some b) since seen c0)) (hb:w.heap[b]?=some (.map es clock)) (hold : ∀ x∈es.toList,x.born<since) (hsc:since<=c0)
  (hDone:(leftOf es seen).size=0->wpList P ops Q rest (a.put o.dst (.tuple #[.bool false])) w)
  (hMore : ∀ e∈(leftOf es seen).toList,∀ w1,(w1=w\/w1=w.drew)->wpList P ops Q rest (a.put o.dst (.tuple #[.bool true,e.key,e.val])) (setBlock w1 r (.mapIter (some b) since (seen.push e.born) clock))):wpList P ops Q (o :: rest) a w:=by
 refine wpList_plain hg fun K' hK'=>?_
 unfold Oper.wp
 rcases run_next_at (P:=P) w o.type r b since c0 seen es clock hr hb hold hsc with ⟨h0,hrun⟩ | ⟨e,he,w1,hal,hrun⟩
 ·simp [execOp,hop,hit,hrun,Result.andThen]
  exact hK' _ _ (hDone h0)
 ·simp [execOp,hop,hit,hrun,Result.andThen]
  exact hK' _ _ (hMore e he w1 hal)
end
section
variable {P:Program} {ops:Array Oper} {rest:List Oper} {o:Oper} {a:Act} {Q:Exit->Act->World->Prop} {w:World}
theorem jcd {α : Type} (mk : α -> Value) (hg:o.guard=none) (it:Operand) (hop:o.op=Op.next it false) (r b since c0:Nat) (seen:Array Nat) (es:Array MapEntry) (clock:Nat) (hit:a.eval it = .pointer (some ⟨r,0,none⟩))
  (hr:w.heap[r]?=some (.mapIter (some b) since seen c0)) (hb:w.heap[b]?=some (.map es clock)) (hold : ∀ x∈es.toList,x.born<since) (hsc:since<=c0) (hn:(es.toList.map (·.born)).Nodup) (hk : ∀ x∈es.toList,∃ y,x.key=mk y)
  (hDone:Hid (leftOf es seen = #[])->wpList P ops Q rest (a.put o.dst (.tuple #[.bool false])) w)
  (hMore : ∀ (y : α) (val:Value) (e:MapEntry) (w2:World),Hid (e∈(leftOf es seen).toList/\e.key=mk y)->Hid (Below r w w2/\w2.heap.size=w.heap.size/\w2.heap[r]?=some (.mapIter (some b) since (seen.push e.born) clock) /\ ∀ i,i≠r->w2.heap[i]?=w.heap[i]?) ->
   (Instr.entry (.pointer (some ⟨r,0,none⟩))).run P w2 = .ok (.tuple #[mk y,val]) w2->wpList P ops Q rest (a.put o.dst (.tuple #[.bool true,mk y,val])) w2):wpList P ops Q (o :: rest) a w:=by
 refine jdI hg it hop r b since c0 seen es clock hit hr hb hold hsc (fun h0=>hDone (Array.eq_empty_of_size_eq_zero h0)) fun e he w1 hw=>?_
 have hs:w1.heap=w.heap:=by rcases hw with rfl | rfl<;>rfl
 have hm:e∈es.toList:=by
  unfold leftOf at he
  rw [Array.toList_filter,List.mem_filter] at he
  exact he.1
 obtain ⟨y,hy⟩:=hk e hm
 have hne:b≠r:=fun q=>by rw [q,hr] at hb;cases hb
 have hlt:r<w.heap.size:=by
  rcases zr r w.heap.size with q | q
  ·exact q
  ·rw [zD q] at hr;cases hr
 have hi : ∀ i,i≠r->(setBlock w1 r (.mapIter (some b) since (seen.push e.born) clock)).heap[i]?=w.heap[i]?:=fun i hi=>by
  simp only [setBlock];rw [Array.getElem?_setIfInBounds_ne (fun q=>hi q.symm),hs]
 have hr2:(setBlock w1 r (.mapIter (some b) since (seen.push e.born) clock)).heap[r]?=some (.mapIter (some b) since (seen.push e.born) clock):=by
  simp only [setBlock]
  rw [Array.getElem?_setIfInBounds_self_of_lt (by rw [hs];exact hlt)]
 have hen:=run_entry_at (P:=P) (setBlock w1 r (.mapIter (some b) since (seen.push e.born) clock)) r b since seen es clock e hr2 ((hi b hne).trans hb) hm hn
 rw [hy] at hen ⊢
 refine hMore y e.val e _ ⟨he,hy⟩ ⟨⟨?_,?_,?_,?_,fun k hk=>hi k (Nat.ne_of_lt hk)⟩,?_,hr2,hi⟩ hen
 ·rcases hw with rfl | rfl<;>rfl
 ·rcases hw with rfl | rfl<;>rfl
 ·rcases hw with rfl | rfl<;>rfl
 ·simp [setBlock,hs]
 ·simp [setBlock,hs]
end
theorem jbA {P:Program} {ops:Array Oper} {rest:List Oper} {op:Oper} {a:Act} {w:World} {Q:Exit->Act->World->Prop} (hgd:op.guard=none) (ty:TypeId) (x y:Operand) (ho:op.op = .store ty x y) (c c':Array Value)
  (hx:a.eval x = .pointer (some ⟨w.heap.size,0,none⟩)) (hy:a.eval y = .agg c') (hi:(P.info? ty).map (·.size)=some c'.size) (hs:c.size=c'.size) (h1:c'.all (·.oneCell')=true)
  (h:wpList P ops Q rest (a.put op.dst undef) (w.alloc (.cells c' ty))):wpList P ops Q (op :: rest) a (w.alloc (.cells c ty)) :=
 wpList_plain hgd fun _ hK=>by
  unfold Oper.wp execOp
  simp only [ho,hx,hy,Instr.storeAt,Instr.sureAddr,zF,zH,zG,run_storeVar_new w ty c c' hi hs h1]
  exact hK _ _ h
theorem jfa {w w':World} {base:Nat} {e:TypeId} {size:Nat} {v:Value} {n:Nat} {xs:List Value} (h:w.ownsRow base e size v n xs) (hk : ∀ g,base<=g->g<w.heap.size->w'.heap[g]?=w.heap[g]?):w'.ownsRow base e size v n xs:=by
 refine ⟨h.1,?_⟩
 rcases h.2 with h | ⟨g,cap,cur,h1,h2,h3,h4⟩
 ·exact .inl h
 ·refine .inr ⟨g,cap,cur,h1,h2,?_,h4⟩
  rw [hk g h2 (by
   rcases zr g w.heap.size with q | q
   ·exact q
   ·rw [zD q] at h3;cases h3)]
  exact h3
section
theorem jea (es:Array MapEntry) (seen:Array Nat):(leftOf es seen).size=((es.toList.map (·.born)).filter fun n=>!seen.contains n).length:=by
 unfold leftOf
 rw [List.filter_map,List.length_map,<- Array.length_toList,Array.toList_filter]
 rfl
theorem jeM {seen:Array Nat} {n:Nat} (hs:seen.contains n=false) : ∀ {l:List Nat},n∈l->(l.filter fun k=>!(seen.push n).contains k).length<(l.filter fun k=>!seen.contains k).length:=by
 intro l hl
 have hsub:(l.filter fun k=>!(seen.push n).contains k)=(l.filter fun k=>!seen.contains k).filter fun k=>!(k == n):=by
  rw [List.filter_filter]
  refine List.filter_congr fun k _=>?_
  cases h1:seen.contains k<;>cases h2:(seen.push n).contains k<;>cases h3:(k == n)<;>simp_all
 rw [hsub,List.length_filter_lt_length_iff_exists]
 exact ⟨n,List.mem_filter.2 ⟨hl,by rw [hs];rfl⟩,by simp⟩
theorem jeb {ces:Array MapEntry} {seen:Array Nat} (h:leftOf ces seen = #[]) {n:Nat} (hn:n∈ces.toList.map (·.born)):seen.contains n=true:=by
 have:=jea ces seen
 rw [h] at this
 cases hs:seen.contains n with
 | true=>rfl
 | false=>
  have hm:n∈(ces.toList.map (·.born)).filter fun n=>!seen.contains n:=List.mem_filter.2 ⟨hn,by rw [hs];rfl⟩
  rw [List.eq_nil_of_length_eq_zero this.symm] at hm
  cases hm
theorem jiK {ces ces':Array MapEntry} {seen:Array Nat} {e:MapEntry} (hb:ces'.toList.map (·.born)=ces.toList.map (·.born)) (he:e∈(leftOf ces seen).toList):(leftOf ces' (seen.push e.born)).size<(leftOf ces seen).size:=by
 rw [jea,jea,hb]
 have h1:e∈ces.toList/\seen.contains e.born=false:=by
  unfold leftOf at he
  rw [Array.toList_filter,List.mem_filter] at he
  exact ⟨he.1,by simpa using he.2⟩
 exact jeM h1.2 (List.mem_map.2 ⟨e,h1.1,rfl⟩)
end
end Go.Proofs
namespace Am
open Go
section
variable {m:Mp}
theorem jcQ {clock:Nat} : ∀ {es:List (V × V × Nat)} {ces:List MapEntry},jad m es ces->jdi clock es=true ->
  (∀ x∈ces,x.born<clock /\ ∃ j,x.key = .int .i64 j /\ -9223372036854775808<=j/\j<=9223372036854775807)/\(ces.map (·.born)).Nodup/\(ces.map (·.key)).Nodup /\ ∀ x∈ces,∃ e∈es,e.2.2=x.born /\ ∃ j,e.1 = .int .i64 j/\x.key = .int .i64 j
 | [],_,h,_=>by
  rw [show _=[] from h]
  exact ⟨fun x hx=>(by cases hx),List.nodup_nil,List.nodup_nil,fun x hx=>(by cases hx)⟩
 | (k,v,n) :: es,_,⟨c0,s,e,h1,h2,h3,h4⟩,g=>by
  subst e
  simp only [jdi,zm] at g
  obtain ⟨g1,g2,g3,g4⟩:=g
  obtain ⟨i1,i2,i3,i4⟩:=jcQ h4 g4
  split at g1
  ·next j=>
   simp only [zm,zq] at g1
   have hk:c0.key = .int .i64 j:=h1
   have g3:=zC.1 g3
   have far : ∀ x∈s,x.born≠n/\x.key ≠ .int .i64 j:=fun x hx=>by
    obtain ⟨e,he,e1,j',e2,e3⟩:=i4 x hx
    have:=g3 e he
    simp only [zm,Bool.not_eq_true'] at this
    refine ⟨fun q=>?_,fun q=>?_⟩
    ·rw [e1,q] at this;simp at this
    ·rw [e3] at q
     cases q
     rw [e2] at this
     simp [V.same_refl] at this
   refine ⟨fun x hx=>?_,?_,?_,fun x hx=>?_⟩
   ·rcases zE.1 hx with rfl | hx
    ·exact ⟨by rw [h3];rw [Nat.blt_eq] at g2;exact g2,j,hk,g1.1,g1.2⟩
    ·exact i1 x hx
   ·rw [List.map_cons,List.nodup_cons]
    refine ⟨fun hm=>?_,i2⟩
    obtain ⟨x,hx,e⟩:=List.mem_map.1 hm
    exact (far x hx).1 (by rw [e,h3])
   ·rw [List.map_cons,List.nodup_cons]
    refine ⟨fun hm=>?_,i3⟩
    obtain ⟨x,hx,e⟩:=List.mem_map.1 hm
    exact (far x hx).2 (by rw [e,hk])
   ·rcases zE.1 hx with rfl | hx
    ·exact ⟨_,zh ..,h3.symm,j,rfl,hk⟩
    ·obtain ⟨e,he,e1,e2⟩:=i4 x hx
     exact ⟨e,zj _ he,e1,e2⟩
  ·cases g1
end
section
variable (R:Prog) (fu d pend:Nat)
def cntL (h:H) (p:V) (seen:Array Nat):List (V × V × Nat)->Nat
 | []=>0
 | (k,_,n) :: r=>(bif seen.contains n then 0 else match je1 R fu d pend h p k with
  | some true=>1
  | _=>0)+cntL h p seen r
variable {R fu d pend}
theorem jhU {h:H} {p:V} : ∀ {es:List (V × V × Nat)} {c:Nat},cntK R fu d pend h p es=some c->cntL R fu d pend h p #[] es=c /\ ∀ e∈es,∃ b,je1 R fu d pend h p e.1=some b
 | [],c,hr=>by cases hr;exact ⟨rfl,fun e he=>by cases he⟩
 | (k,v,n) :: r,c,hr=>by
  unfold cntK at hr
  split at hr
  ·next b hb=>
   split at hr
   ·next c1 hc1=>
    obtain ⟨i1,i2⟩:=jhU hc1
    cases hr
    refine ⟨?_,fun e he=>?_⟩
    ·unfold cntL
     rw [i1,hb]
     cases b<;>simp<;>omega
    ·rcases zE.1 he with rfl | he
     ·exact ⟨b,hb⟩
     ·exact i2 e he
   ·cases hr
  ·cases hr
theorem jhT {h:H} {p:V} {seen:Array Nat} : ∀ {es:List (V × V × Nat)},(∀ e∈es,seen.contains e.2.2=true)->cntL R fu d pend h p seen es=0
 | [],_=>rfl
 | (k,v,n) :: r,hr=>by
  unfold cntL
  rw [hr _ (zh ..),jhT fun e he=>hr e (zj _ he)]
  rfl
theorem jcR {h:H} {p:V} {seen:Array Nat} {s:Nat} : ∀ {es:List (V × V × Nat)},s ∉ es.map (·.2.2)->cntL R fu d pend h p (seen.push s) es=cntL R fu d pend h p seen es
 | [],_=>rfl
 | (k,v,n) :: r,hr=>by
  simp only [List.map_cons,zE,not_or] at hr
  unfold cntL
  rw [jcR hr.2]
  have:(seen.push s).contains n=seen.contains n:=by
   rw [Bool.eq_iff_iff]
   simp only [Array.contains_iff_mem,Array.mem_push]
   exact ⟨fun q=>q.elim id fun q=>zw q.symm hr.1,Or.inl⟩
  rw [this]
theorem jhS {h:H} {p:V} {seen:Array Nat} {e:V × V × Nat} {b:Bool} (ha:je1 R fu d pend h p e.1=some b) (hs:seen.contains e.2.2=false) : ∀ {es:List (V × V × Nat)},e∈es->(es.map (·.2.2)).Nodup ->
  cntL R fu d pend h p seen es=cntL R fu d pend h p (seen.push e.2.2) es+(bif b then 1 else 0)
 | (k,v,n) :: r,he,hn=>by
  rw [List.map_cons,List.nodup_cons] at hn
  unfold cntL
  rcases zE.1 he with rfl | he
  ·have h1:(seen.push n).contains n=true:=by simp
   have hs:seen.contains n=false:=hs
   have ha:je1 R fu d pend h p k=some b:=ha
   simp only [hs,h1,ha]
   rw [jcR hn.1]
   cases b<;>simp<;>omega
  ·have h1:(seen.push e.2.2).contains n=seen.contains n:=by
    rw [Bool.eq_iff_iff]
    simp only [Array.contains_iff_mem,Array.mem_push]
    refine ⟨fun q=>q.elim id fun q=>?_,Or.inl⟩
    have:n≠e.2.2:=fun q=>hn.1 (q ▸ List.mem_map.2 ⟨e,he,rfl⟩)
    exact zw q this
   rw [jhS ha hs he hn.2,h1]
   omega
theorem jmn {h:H} {p:V} {seen:Array Nat} : ∀ {es:List (V × V × Nat)},cntL R fu d pend h p seen es<=es.length
 | []=>zn _
 | (k,v,n) :: r=>by
  unfold cntL
  have := @jmn h p seen r
  rw [List.length_cons]
  cases seen.contains n
  ·simp only [cond_false]
   split<;>omega
  ·simp only [cond_true]
   omega
theorem jlg {h:H} {p k:V} {b:Bool} (hr:je1 R fu d pend h p k=some b) : ∃ n h1,ja9 R fu d (.fn pend) [p,k] h.frzP=some (.int .i64 n,h1)/\hasM h1 h.t.maps=true/\0<=n/\n<=127/\b = !(decide (n=0)||decide (n=64)):=by
 unfold je1 at hr
 split at hr
 ·next n h1 hc=>
  cases hk:hasM h1 h.t.maps&&(decide (0<=n)&&decide (n<=127)) with
  | false=>rw [hk] at hr;cases hr
  | true=>
   rw [hk] at hr
   simp only [zm,zq] at hk
   exact ⟨n,h1,hc,hk.1,hk.2.1,hk.2.2,by cases hr;rfl⟩
 ·cases hr
end
end Am
