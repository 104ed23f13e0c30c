/- Our own library, part 30. -/
import Derived.Test.YtccoogikjelcbaaGreatDoorChecked
import Derived.WalkKit
import Derived.BigCall
import Derived.Deep.MidRow
import Derived.Deep.WholeRow
import Derived.Shelf.Lay
import Derived.Shelf.SlIterI.Nil
import Derived.Shelf.SortM.Plain
import Derived.Shelf.SortM.SortNone
import Derived.Ground.GgzProg
import Derived.Ground.SlgmProg
import Derived.Test.YtccoogikjelcbaaGreatDoorM14
import Derived.Test.YtccoogikjelcbaaGreatDoorM25
import Derived.Test.YtccoogikjelcbaaGreatDoorM26
import Derived.Test.YtccoogikjelcbaaGreatDoorM27
import Derived.Test.YtccoogikjelcbaaGreatDoorM29
import Derived.Test.YtccoogikjelcbaaGreatDoorM24
set_option maxHeartbeats 8000000
set_option maxRecDepth 800
set_option linter.all false
namespace Go.Proofs
open Go.RowKit Go.Maps Go.Sort Go.Shelf
set_option linter.unusedVariables false
def Tryz.mapKeys_ren:Go.Shelf.Ren:=⟨fun | 7=>372 | 10=>378 | n=>n,fun | 23=>327 | 26=>3 | 3=>472 | 28=>238 | 0=>0 | 27=>237 | 33=>119 | 4=>4 | n=>n,fun | n=>n⟩
set_option maxRecDepth 100000 in
theorem Tryz.mapKeys:Go.Proofs.SlLaysZI.n7 Tryz.prog Tryz.mapKeys_ren := { mixed:=by kernel_rfl,f7:=⟨ "maps.Keys[map[int]roundhouse/epl.interest,int,roundhouse/epl.interest]",by decide,Tryz.func372.trans (congrArg some (by kernel_rfl))⟩,f10:=⟨ "maps.Keys[map[int]roundhouse/epl.interest,int,roundhouse/epl.interest]$1",by decide,Tryz.func378.trans (congrArg some (by kernel_rfl))⟩,t0:=Tryz.underlying0,a0:=Tryz.isAgg0,z0:=Tryz.sizeOf0,v0:=Tryz.zeroValue0,t4:=Tryz.underlying4,a4:=Tryz.isAgg4,z4:=Tryz.sizeOf4,v4:=Tryz.zeroValue4,t23:=Tryz.underlying327,a23:=Tryz.isAgg327,z23:=Tryz.sizeOf327,v23:=Tryz.zeroValue327,t26:=Tryz.underlying3,a26:=Tryz.isAgg3,z26:=Tryz.sizeOf3,v26:=Tryz.zeroValue3,t27:=Tryz.underlying237,a27:=Tryz.isAgg237,z27:=Tryz.sizeOf237,v27:=Tryz.zeroValue237,t28:=Tryz.underlying238,a28:=Tryz.isAgg238,z28:=Tryz.sizeOf238,v28:=Tryz.zeroValue238,t33:=Tryz.underlying119,a33:=Tryz.isAgg119,z33:=Tryz.sizeOf119,v33:=Tryz.zeroValue119 }
def Tryz.mapSorted_ren:Go.Shelf.Ren:=⟨fun | 6=>371 | 8=>376 | 9=>377 | 11=>379 | 13=>381 | 12=>380 | 23=>391 | 24=>217 | 14=>382 | 15=>383 | 16=>384 | 17=>385 | 18=>386 | 19=>387 | 20=>388 | 21=>389 | 22=>390 | 25=>392 | 26=>393 | 27=>394 | 28=>395 | 29=>396 | 30=>280 | 31=>397 | n=>n,fun | 26=>3 | 28=>238 | 24=>29 | 0=>0 | 3=>3 | 37=>311 | 48=>363 | 50=>41 | 4=>4 | 40=>488 | 39=>487 | 45=>339 | 5=>5 | 9=>9 | 51=>493 | 55=>496 | 57=>498 | 58=>468 | 33=>119 | n=>n,fun | n=>n⟩
set_option maxRecDepth 100000 in
theorem Tryz.mapSorted:Go.Proofs.SlLaysZI.n6 Tryz.prog Tryz.mapSorted_ren := { mixed:=by kernel_rfl,f6:=⟨ "slices.Sorted[int]",by decide,Tryz.func371.trans (congrArg some (by kernel_rfl))⟩,f8:=⟨ "slices.Collect[int]",by decide,Tryz.func376.trans (congrArg some (by kernel_rfl))⟩,f11:=⟨ "slices.AppendSeq[[]int,int]",by decide,Tryz.func379.trans (congrArg some (by kernel_rfl))⟩,t0:=Tryz.underlying0,a0:=Tryz.isAgg0,z0:=Tryz.sizeOf0,v0:=Tryz.zeroValue0,t24:=Tryz.underlying29,a24:=Tryz.isAgg29,z24:=Tryz.sizeOf29,v24:=Tryz.zeroValue29,t26:=Tryz.underlying3,a26:=Tryz.isAgg3,z26:=Tryz.sizeOf3,v26:=Tryz.zeroValue3,t28:=Tryz.underlying238,a28:=Tryz.isAgg238,z28:=Tryz.sizeOf238,v28:=Tryz.zeroValue238,i26:=by kernel_rfl }
def Tryz.sortInts_ren:Go.Shelf.Ren:=⟨fun | 5=>377 | 8=>381 | 7=>380 | 19=>391 | 20=>217 | 10=>382 | 11=>383 | 12=>384 | 13=>385 | 14=>386 | 15=>387 | 16=>388 | 17=>389 | 18=>390 | 30=>392 | 31=>393 | 32=>394 | 33=>395 | 34=>396 | 35=>280 | 40=>397 | n=>n,fun | 23=>29 | 25=>3 | 3=>3 | 32=>311 | 22=>29 | 0=>0 | 44=>363 | 46=>41 | 4=>4 | 36=>488 | 35=>487 | 41=>339 | 5=>5 | 9=>9 | 53=>493 | 57=>496 | 63=>498 | 64=>468 | n=>n,fun | n=>n⟩
set_option maxRecDepth 100000 in
theorem Tryz.sortInts:Go.Proofs.SlLaysM.n5 Tryz.prog Tryz.sortInts_ren := { mixed:=by kernel_rfl,f5:=⟨ "slices.Sort[[]int,int]",by decide,Tryz.func377.trans (congrArg some (by kernel_rfl))⟩,f7:=⟨ "slices.pdqsortOrdered[int]",by decide,Tryz.func380.trans (congrArg some (by kernel_rfl))⟩,f8:=Tryz.func381.trans (congrArg some (by kernel_rfl)),f10:=⟨ "slices.insertionSortOrdered[int]",by decide,Tryz.func382.trans (congrArg some (by kernel_rfl))⟩,f11:=⟨ "slices.heapSortOrdered[int]",by decide,Tryz.func383.trans (congrArg some (by kernel_rfl))⟩,f12:=⟨ "slices.breakPatternsOrdered[int]",by decide,Tryz.func384.trans (congrArg some (by kernel_rfl))⟩,f13:=⟨ "slices.choosePivotOrdered[int]",by decide,Tryz.func385.trans (congrArg some (by kernel_rfl))⟩,f14:=⟨ "slices.reverseRangeOrdered[int]",by decide,Tryz.func386.trans (congrArg some (by kernel_rfl))⟩,f15:=⟨ "slices.partialInsertionSortOrdered[int]",by decide,Tryz.func387.trans (congrArg some (by kernel_rfl))⟩,f16:=⟨ "cmp.Less[int]",by decide,Tryz.func388.trans (congrArg some (by kernel_rfl))⟩,f17:=⟨ "slices.partitionEqualOrdered[int]",by decide,Tryz.func389.trans (congrArg some (by kernel_rfl))⟩,f18:=⟨ "slices.partitionOrdered[int]",by decide,Tryz.func390.trans (congrArg some (by kernel_rfl))⟩,f19:=Tryz.func391.trans (congrArg some (by kernel_rfl)),f20:=Tryz.func217.trans (congrArg some (by kernel_rfl)),f30:=⟨ "slices.siftDownOrdered[int]",by decide,Tryz.func392.trans (congrArg some (by kernel_rfl))⟩,f31:=Tryz.func393.trans (congrArg some (by kernel_rfl)),f32:=Tryz.func394.trans (congrArg some (by kernel_rfl)),f33:=⟨ "slices.medianAdjacentOrdered[int]",by decide,Tryz.func395.trans (congrArg some (by kernel_rfl))⟩,f34:=⟨ "slices.medianOrdered[int]",by decide,Tryz.func396.trans (congrArg some (by kernel_rfl))⟩,f35:=⟨ "cmp.isNaN[int]",by decide,Tryz.func280.trans (congrArg some (by kernel_rfl))⟩,f40:=⟨ "slices.order2Ordered[int]",by decide,Tryz.func397.trans (congrArg some (by kernel_rfl))⟩,t0:=Tryz.underlying0,a0:=Tryz.isAgg0,z0:=Tryz.sizeOf0,v0:=Tryz.zeroValue0,t3:=Tryz.underlying3,a3:=Tryz.isAgg3,z3:=Tryz.sizeOf3,v3:=Tryz.zeroValue3,t4:=Tryz.underlying4,a4:=Tryz.isAgg4,z4:=Tryz.sizeOf4,v4:=Tryz.zeroValue4,t5:=Tryz.underlying5,a5:=Tryz.isAgg5,z5:=Tryz.sizeOf5,v5:=Tryz.zeroValue5,t9:=Tryz.underlying9,a9:=Tryz.isAgg9,z9:=Tryz.sizeOf9,v9:=Tryz.zeroValue9,t22:=Tryz.underlying29,a22:=Tryz.isAgg29,z22:=Tryz.sizeOf29,v22:=Tryz.zeroValue29,t23:=Tryz.underlying29,a23:=Tryz.isAgg29,z23:=Tryz.sizeOf29,v23:=Tryz.zeroValue29,t25:=Tryz.underlying3,a25:=Tryz.isAgg3,z25:=Tryz.sizeOf3,v25:=Tryz.zeroValue3,t32:=Tryz.underlying311,a32:=Tryz.isAgg311,z32:=Tryz.sizeOf311,v32:=Tryz.zeroValue311,t35:=Tryz.underlying487,a35:=Tryz.isAgg487,z35:=Tryz.sizeOf487,v35:=Tryz.zeroValue487,t36:=Tryz.underlying488,a36:=Tryz.isAgg488,z36:=Tryz.sizeOf488,v36:=Tryz.zeroValue488,t41:=Tryz.underlying339,a41:=Tryz.isAgg339,z41:=Tryz.sizeOf339,v41:=Tryz.zeroValue339,t44:=Tryz.underlying363,a44:=Tryz.isAgg363,z44:=Tryz.sizeOf363,v44:=Tryz.zeroValue363,t46:=Tryz.underlying41,a46:=Tryz.isAgg41,z46:=Tryz.sizeOf41,v46:=Tryz.zeroValue41,t53:=Tryz.underlying493,a53:=Tryz.isAgg493,z53:=Tryz.sizeOf493,v53:=Tryz.zeroValue493,t57:=Tryz.underlying496,a57:=Tryz.isAgg496,z57:=Tryz.sizeOf496,v57:=Tryz.zeroValue496,t63:=Tryz.underlying498,a63:=Tryz.isAgg498,z63:=Tryz.sizeOf498,v63:=Tryz.zeroValue498,t64:=Tryz.underlying468,a64:=Tryz.isAgg468,z64:=Tryz.sizeOf468,v64:=Tryz.zeroValue468 }
theorem all_sorts (m:Nat):AnyZI.SortsIn Tryz.prog Tryz.mapSorted_ren Fence.wide m :=
 ⟨fun blk off cap ss W hH hblk hsz=>callsIn_wide.2 (AnyM.slices_Sort_int Tryz.sortInts blk off cap ss W hH hblk hsz),
  fun p cap W=>callsIn_wide.2 (AnyM.slices_Sort_int_none Tryz.sortInts p cap W)⟩
def jnc:Value->Option (DataW Unit × List MemPlace):=fun _=>some (.nil,[])
def jds (x:MapEntry):Int:=match x.key with
 | .int _ j=>j
 | _=>0
theorem all_keyOf {j:Int} (h0 : -9223372036854775808<=j) (h1:j<=9223372036854775807):keyOf Tryz.prog 3 (.int .i64 j)=some (.int .i64 j):=by
 have hk:=Tryz.underlying3
 simp [keyOf,hk,mapKey,Lit.wf,IntKind.min,IntKind.max,IntKind.signed,IntKind.bits]
 omega
theorem all_owns {w:World} {b clock:Nat} {es:Array MapEntry} (hb:w.heap[b]?=some (.map es clock)) (hsz:es.size<=1000000) (hst:Go.MapKept.Stamped es clock) (hk : ∀ x∈es.toList,∃ j,x.key = .int .i64 j /\ -9223372036854775808<=j/\j<=9223372036854775807) :
  ∃ D:DataW Unit,w.ownsMap Tryz.prog 3 jnc b es.size D/\Maps.size D=es.size/\(intKeys D).Perm (es.toList.map jds):=by
 have hrd : ∀ x∈es.toList,Go.WideElems.rd Tryz.prog 3 jnc x=some (.int .i64 (jds x),.nil):=fun x hx=>by
  obtain ⟨j,hj,h0,h1⟩:=hk x hx
  simp [Go.WideElems.rd,hj,all_keyOf h0 h1,jnc,jds]
 refine ⟨_,⟨es,clock,hb,⟨by unfold maxLen;omega,hst,fun x hx=>⟨_,hrd x hx⟩⟩,zn _,rfl⟩,?_,?_⟩
 ·simp [Maps.size,length_sorted]
 ·show ((List.foldr DataW.insert [] (es.toList.map (Go.WideElems.rg Tryz.prog 3 jnc))).map fun p=>Go.intOf p.1).Perm _
  refine ((Go.WideShapes.sorted_perm _).map _).trans ?_
  rw [List.map_map]
  refine List.Perm.of_eq (List.map_congr_left fun x hx=>?_)
  simp [Go.WideElems.rg,hrd x hx,Go.intOf]
theorem all_keys (mb:Option Nat) (W:World):Calls Tryz.prog 372 #[.map mb] W fun e w'=>e = .returned (.func (.func 378) #[] #[.pointer (some ⟨W.heap.size,0,none⟩)])/\w'=W.alloc (.cells #[.map mb] 327) :=
 (callsIn_wide (n:=5)).1 (AnyZI.keys_in Tryz.mapKeys Fence.wide 5 trivial rfl mb W)
theorem all_sort {w:World} {Bm b clock:Nat} {es:Array MapEntry} (hBm:Bm<w.heap.size) (hm:w.cell? ⟨Bm,0,none⟩=some (.map (some b))) (hb:w.heap[b]?=some (.map es clock)) (hsz:es.size<=1000000) (hst:Go.MapKept.Stamped es clock) (hk : ∀ x∈es.toList,∃ j,x.key = .int .i64 j /\ -9223372036854775808<=j/\j<=9223372036854775807) :
  Calls Tryz.prog 371 #[.func (.func 378) #[] #[.pointer (some ⟨Bm,0,none⟩)]] w fun e w'=>∃ (v:Value) (ss:List Int),e = .returned v/\ss.Perm (es.toList.map jds) /\
   w'.ownsRow w.heap.size 3 1 v ss.length ((ss.mergeSort (fun x y=>decide (x<=y))).map encZ)/\(v = .slice none 0 0↔ss=[])/\Below w.heap.size w w':=by
 obtain ⟨D,hown,hD,hp⟩:=all_owns hb hsz hst hk
 have hseq:=AnyZI.keys_gives (ρ := Tryz.mapKeys_ren) { Tryz.mapKeys with } Fence.wide 2 trivial rfl (by omega) Bm b es.size D w hBm hm hown
 have cS:=AnyZI.sorted_in Tryz.mapSorted Fence.wide 5 trivial trivial trivial trivial rfl (by omega) (all_sorts _) (enters_of Tryz.func377 (by kernel_rfl) rfl) 378 #[.pointer (some ⟨Bm,0,none⟩)] trivial (enters_of Tryz.func378 (by kernel_rfl) rfl) _ _ (by rw [hD];unfold maxLen;omega) (by rw [hD];omega) _ hseq
 change CallsIn _ _ Tryz.prog 371 _ _ _ at cS
 refine ((callsIn_wide (n:=5)).1 cS).mono ?_
 rintro e w' ⟨v,ss,rfl,hS,hrow,hnil,hbl⟩
 exact ⟨v,ss,rfl,hS.trans hp,hrow,hnil,hbl⟩
theorem jli (x:Int) : ∀ l,(Am.zIns x l).Perm (x :: l)
 | []=>List.Perm.refl _
 | y :: r=>by
  unfold Am.zIns
  cases decide (y<x) with
  | true=>exact ((jli x r).cons y).trans (List.Perm.swap x y r)
  | false=>exact List.Perm.refl _
theorem jib : ∀ l,(Am.jgM l).Perm l
 | []=>List.Perm.refl _
 | x :: r=>(jli x _).trans ((jib r).cons x)
theorem jjn (x:Int) : ∀ {l},l.Pairwise (fun a b=>leI a b=true)->(Am.zIns x l).Pairwise (fun a b=>leI a b=true)
 | [],_=>List.pairwise_singleton _ _
 | y :: r,h=>by
  unfold Am.zIns
  rw [List.pairwise_cons] at h
  by_cases hq:y<x
  ·simp only [hq,decide_true,cond_true]
   rw [List.pairwise_cons]
   refine ⟨fun z hz=>?_,jjn x h.2⟩
   rcases zE.1 ((jli x r).mem_iff.1 hz) with rfl | hz
   ·simp only [leI,zq];omega
   ·exact h.1 z hz
  ·simp only [hq,decide_false,cond_false]
   rw [List.pairwise_cons,List.pairwise_cons]
   refine ⟨fun z hz=>?_,h.1,h.2⟩
   rcases zE.1 hz with rfl | hz
   ·simp only [leI,zq];omega
   ·have:=h.1 z hz
    simp only [leI,zq] at this ⊢;omega
theorem jgL : ∀ l,(Am.jgM l).Pairwise (fun a b=>leI a b=true)
 | []=>List.Pairwise.nil
 | x :: r=>jjn x (jgL r)
theorem zs_merge {ss L:List Int} (hp:ss.Perm L):(ss.mergeSort (fun x y=>decide (x<=y)))=Am.jgM L:=by
 have tr : ∀ a b c:Int,leI a b=true->leI b c=true->leI a c=true:=fun a b c h1 h2=>by simp only [leI,zq] at *;exact Int.le_trans h1 h2
 have to : ∀ a b:Int,(leI a b||leI b a)=true:=fun a b=>by simp only [leI,Bool.or_eq_true,zq];exact Int.le_total a b
 refine List.Perm.eq_of_pairwise (le:=fun a b=>leI a b=true) (fun a b _ _ h1 h2=>?_) (List.pairwise_mergeSort tr to ss) (jgL L) (((List.mergeSort_perm ss _).trans hp).trans (jib L).symm)
 simp only [leI,zq] at h1 h2
 exact Int.le_antisymm h1 h2
theorem jjT {m:Am.Mp} {ck:Nat} : ∀ {es:List (Am.V × Am.V × Nat)} {ces:List MapEntry},Am.jad m es ces->Am.jdi ck es=true->ces.map jds=es.map fun e=>Am.zKey e.1
 | [],_,h,_=>by rw [show _=[] from h];rfl
 | (k,v,n) :: es,_,⟨c0,s,e,h1,h2,h3,h4⟩,g=>by
  subst e
  simp only [Am.jdi,zm] at g
  obtain ⟨g1,g2,g3,g4⟩:=g
  rw [List.map_cons,List.map_cons,jjT h4 g4]
  split at g1
  ·next j=>
   have hk:c0.key = .int .i64 j:=h1
   simp [jds,hk,Am.zKey]
  ·cases g1
section
variable {m:Am.Mp} {h:Am.H} {w:World}
theorem all_cell {w:World} {c:Array Value} {e:TypeId} {k b:Nat} {v:Value} (hb:b=w.heap.size) (h:c[k]?=some v):(w.alloc (.cells c e)).cell? ⟨b,k,none⟩=some v:=by
 subst hb
 rw [Lib.cell_of_heap (heap_alloc_last w _)]
 exact h
theorem all_cells {b o n:Nat} {l:List Am.V} (hR:Am.HRel Tryz.prog Am.Sigs.cx m h w) (hl:h.load b o n=some l) {loc:Am.Loc} (hm:m b=some loc):l.length=n /\ ∀ (k:Nat) (v:Am.V),l[k]?=some v -> ∃ x,w.cell? ⟨loc.β,loc.d+(o+k),none⟩=some x/\Am.VRel m v x:=by
 unfold Am.H.load at hl
 split at hl
 ·next cs ro hg=>
  cases hb:Nat.ble (o+n) cs.length with
  | false=>rw [hb] at hl;cases hl
  | true=>
   rw [hb] at hl
   cases hl
   rw [zA] at hb
   refine ⟨by simp;omega,fun k v hk=>?_⟩
   obtain ⟨l',co,q1,q2,c,elem,lo,hi,q3,q4,q5,q6,q7⟩:=hR.obj _ _ hg
   rw [hm] at q1;cases q1
   subst q3
   rw [zx] at hk
   split at hk
   ·rw [zk] at hk
    obtain ⟨x,hx,hr⟩:=q6 _ _ hk
    exact ⟨x,by rw [Lib.cell_of_heap q2];exact hx,hr⟩
   ·cases hk
 ·cases hl
set_option maxRecDepth 100000 in
theorem all_calls (hR:Am.HRel Tryz.prog Am.Sigs.cx m h w) {l lm:Am.Loc} {b o mb ck:Nat} {es:List (Am.V × Am.V × Nat)} (hb:m b=some l) (hmb:m mb=some lm)
  (hl:h.load b (o+2) 1=some [.map (some mb)]) (hmp:h.get mb=some (.map es ck)) (hg:Am.jdi ck es=true) (hle:es.length<=1000000) {Q:Ending->World->Prop}
  (hQ : ∀ v cap g (w2 w3:World) (cur:Array Value),w2=(w.alloc (.cells #[.pointer (some ⟨l.β,l.d+o,none⟩)] 263)).alloc (.cells #[.map (some lm.β)] 327)->Below w2.heap.size w2 w3 ->
   (es=[]/\v = .slice none 0 0\/(es≠[]/\v = .slice (some ⟨g,0,none⟩) es.length cap/\w2.heap.size<=g/\w3.heap[g]?=some (.cells cur 3 (0,0))/\es.length<=cap/\cur.size=cap/\cur.toList.take es.length=(Am.jgM (es.map fun e=>Am.zKey e.1)).map encZ)) ->
   Calls Tryz.prog 288 #[v,.func (.func 373) #[] #[.pointer (some ⟨w.heap.size,0,none⟩)]] w3 fun e w'=>∃ y,e = .returned y/\Q e w') :
  Calls Tryz.prog 365 #[.pointer (some ⟨l.β,l.d+o,none⟩)] w fun e w'=>Hid (Q e w'):=by
 have mixed:=Tryz.checked.mixed
 have t3:=Tryz.underlying3;have a3:=Tryz.isAgg3;have z3:=Tryz.sizeOf3;have v3:=Tryz.zeroValue3
 have t74:=Tryz.underlying263;have a74:=Tryz.isAgg263;have z74:=Tryz.sizeOf263;have v74:=Tryz.zeroValue263
 have t22:=Tryz.underlying29;have a22:=Tryz.isAgg29;have z22:=Tryz.sizeOf29;have v22:=Tryz.zeroValue29
 obtain ⟨_,hce⟩:=all_cells hR hl hb
 obtain ⟨xx,c1,l9,q1,q2⟩:=hce 0 _ rfl
 rw [hmb] at q1;cases q1
 subst q2
 obtain ⟨l',co,r1,r2,ces,rfl,r4⟩:=hR.obj _ _ hmp
 rw [hmb] at r1;cases r1
 have hlm:lm.β < w.heap.size:=by
  rcases zr lm.β w.heap.size with q | q
  ·exact q
  ·rw [zD q] at r2;cases r2
 have c1:(w.alloc (.cells #[.pointer (some ⟨l.β,l.d+o,none⟩)] 263)).cell? ⟨l.β,l.d+o+2,none⟩=some (.map (some lm.β)):=by
  rw [World.cell?_of_block (w:=w) (Below.heap_alloc w _ _ (by
   rcases zr l.β w.heap.size with q | q
   ·exact q
   ·rw [World.cell?] at c1;rw [zD q] at c1;cases c1))]
  rw [show l.d+o+2=l.d+(o+2+0) by omega];exact c1
 obtain ⟨g1,g2,g3,g4⟩:=Am.jcQ r4 hg
 have hsz:ces.size<=1000000:=by
  have h1:=congrArg List.length (Am.jaj r4)
  simp at h1
  omega
 have hst:Go.MapKept.Stamped ces ck:=⟨fun x hx=>(g1 x hx).1,g2,g3⟩
 have hks:=jjT r4 hg
 obtain ⟨w2,hw2⟩ : ∃ w2,w2=(w.alloc (.cells #[.pointer (some ⟨l.β,l.d+o,none⟩)] 263)).alloc (.cells #[.map (some lm.β)] 327):=⟨_,rfl⟩
 have hsort:=all_sort (w:=w2) (Bm:=w.heap.size+1) (by rw [hw2];simp) (by rw [hw2];exact all_cell (by simp) rfl) (by rw [hw2];exact (Below.heap_alloc _ _ _ (by simp;omega)).trans ((Below.heap_alloc _ _ _ hlm).trans r2)) hsz hst (fun x hx=>(g1 x hx).2)
 have hkeys:=all_keys (some lm.β)
 go_enter Tryz.func365,Tryz.ntmps365
 go_wp2_with (first
  | (go_at_call 372;refine (hkeys _).mono ?_;rintro e w' ⟨rfl,rfl⟩)
  | (go_at_call 371;refine Hid.out ?_))
 unfold Hid
 subst hw2
 refine hsort.mono ?_
 rintro e w3 ⟨v,ss,rfl,hp,hown,hnil,hbl⟩
 rw [hks] at hp
 have hmg:=zs_merge hp
 have hlen:ss.length=es.length:=by have:=hp.length_eq;simpa using this
 have hcall:Calls Tryz.prog 288 #[v,.func (.func 373) #[] #[.pointer (some ⟨w.heap.size,0,none⟩)]] w3 fun e w'=>∃ y,e = .returned y/\Q e w':=by
  rcases hown.2 with ⟨rfl,hn⟩ | ⟨g,cap,cur,rfl,hbg,hgl,hnc,hcm,hcs,htk⟩
  ·refine hQ _ 0 0 _ w3 #[] rfl hbl (.inl ⟨List.eq_nil_of_length_eq_zero (by omega),rfl⟩)
  ·refine hQ _ cap g _ w3 cur rfl hbl (.inr ⟨fun e=>?_,by rw [hlen],hbg,hgl,by omega,by omega,?_⟩)
   ·have:ss=[]:=List.eq_nil_of_length_eq_zero (by rw [hlen,e];rfl)
    have:=hnil.2 this
    cases this
   ·rw [<- hmg,<- htk,hlen,Nat.mul_one]
 have HC:=Any.hidU hcall
 clear hcall hsort hnil hown hp hmg
 go_wp2_with (go_at_call 288;refine HC.out.mono ?_;rintro e w4 ⟨y,rfl,hq⟩)
 go_ret
 exact hq
theorem jeH {h:Am.H} {b o:Nat} {v:Am.V} (e:h.load1 b o=some v):h.load b o 1=some [v]:=by
 unfold Am.H.load1 at e
 unfold Am.H.load
 split at e
 ·next l ro hg=>
  have hlt:o<l.length:=(List.getElem?_eq_some_iff.1 e).1
  have:Nat.ble (o+1) l.length=true:=by rw [zA];omega
  rw [this]
  simp only [cond_true]
  rw [List.take_one,List.head?_drop,e]
  rfl
 ·cases e
theorem all_ok (hP:Am.ProgOk Tryz.prog Am.Sigs.cx Am.Sigs.jaG):Am.jby Tryz.prog Am.Sigs.cx 365 (Am.pAll Am.Sigs.jaG 100000 28 288 373 2):=by
 refine Am.jeV (enters_of Tryz.func365 (by kernel_rfl) rfl) ?_
 intro args h v h' hr m w xs hR hG hx
 unfold Am.pAll at hr
 split at hr
 ·next b o=>
  obtain ⟨x,r,e,⟨l,hb,rfl⟩,e2⟩:=hx
  obtain rfl:r=[]:=e2
  obtain ⟨q⟩:=xs
  obtain rfl:q=[_]:=e
  split at hr
  ·next mb hl=>
   split at hr
   ·next es ck he=>
    cases hgl:Am.jdi ck es&&Nat.ble es.length 1000000 with
    | false=>rw [hgl] at hr;cases hr
    | true=>
     rw [hgl] at hr
     simp only [cond_true] at hr
     rw [zm,zA] at hgl
     obtain ⟨lm,co,hmb,_⟩:=hR.obj _ _ he
     refine Calls.mono (R:=fun e w'=>Hid (∃ m' x,e = .returned x/\Am.VRel m' v x/\Am.Step Tryz.prog Am.Sigs.cx h.nx m h w m' h' w')) (all_calls hR hb hmb (jeH hl) he hgl.1 hgl.2 ?_) fun _ _ q=>q.out
     intro vv cap g w2 w3 cur hw2 hbl hv
     have hid:m h.nx=none:=(hR.nofuture (zn _)).1
     have hm1:=Am.Mp.add_mono (l:=⟨w.heap.size,0,1⟩) hid
     have hbl2:Below w.heap.size w w2:=by
      rw [hw2]
      exact ((Below.refl w.heap.size w).alloc (zn _) _).alloc (by simp) _
     have hbox:w2.heap[w.heap.size]?=some (.cells #[.pointer (some ⟨l.β,l.d+o,none⟩)] 263):=by
      rw [hw2]
      exact (Below.heap_alloc _ _ _ (by simp)).trans (heap_alloc_last w _)
     have S1:Am.Step Tryz.prog Am.Sigs.cx h.nx m h w (m.add h.nx ⟨w.heap.size,0,1⟩) (h.new (.cells [.ptr (some (b,o))] false)) w2 :=
      ((Am.Step.refl h.nx hR).below hR hbl2 (zn _)).add hR (zn _) hbox (by
       refine ⟨_,_,0,0,rfl,zn _,zn _,fun k v hv=>?_,fun _=>.inl rfl⟩
       match k,hv with
       | 0,hv=>cases hv;exact ⟨_,rfl,l,hm1 _ _ hb,rfl⟩)
     have R2:=S1.rel
     have hnx1:(h.new (.cells [.ptr (some (b,o))] false)).nx=h.nx+1:=rfl
     obtain ⟨m2,S2,hvv⟩ : ∃ m2,Am.Step Tryz.prog Am.Sigs.cx (h.nx+1) (m.add h.nx ⟨w.heap.size,0,1⟩) (h.new (.cells [.ptr (some (b,o))] false)) w2 m2 (Am.zRow (h.new (.cells [.ptr (some (b,o))] false)) es).2 w3/\Am.VRel m2 (Am.zRow (h.new (.cells [.ptr (some (b,o))] false)) es).1 vv:=by
      have S0:=(Am.Step.refl (h.nx+1) R2).below R2 hbl (zn _)
      rcases hv with ⟨rfl,rfl⟩ | ⟨hne,rfl,hgb,hg3,hnc,hcs,htk⟩
      ·exact ⟨_,S0,rfl,rfl,rfl⟩
      ·cases es with
       | nil=>exact zw rfl hne
       | cons e0 er=>
        have hid2:(m.add h.nx ⟨w.heap.size,0,1⟩) (h.nx+1)=none:=(R2.nofuture (zn _)).1
        refine ⟨(m.add h.nx ⟨w.heap.size,0,1⟩).add (h.nx+1) ⟨g,0,cap⟩,S0.add R2 hgb hg3 ?_,⟨g,0,cap⟩,_,cap,Am.Mp.add_self _ _,rfl,hnc,fun _=>rfl,fun k h=>(by cases h),fun q h=>(by cases h;show 0+cap*1<=cap;omega),fun q k h=>(by cases h)⟩
        have hzl:(Am.jgM ((e0 :: er).map fun e=>Am.zKey e.1)).length=(e0 :: er).length:=by rw [(jib _).length_eq,List.length_map]
        refine ⟨cur,_,0,0,rfl,?_,?_,fun k v hv=>?_,fun _=>.inl rfl⟩
        ·rw [List.length_map,hzl];exact hnc
        ·show 0+cap<=_;omega
        ·rw [List.getElem?_map] at hv
         cases hz:(Am.jgM ((e0 :: er).map fun e=>Am.zKey e.1))[k]? with
         | none=>rw [hz] at hv;cases hv
         | some z=>
          rw [hz] at hv
          cases hv
          have hk:k<(e0 :: er).length:=by
           have:=(List.getElem?_eq_some_iff.1 hz).1
           rwa [hzl] at this
          have h1:(cur.toList.take (e0 :: er).length)[k]?=some (encZ z):=by rw [htk,List.getElem?_map,hz];rfl
          rw [zx,zg hk] at h1
          exact ⟨encZ z,by rw [zz];simpa using h1,rfl⟩
     have hm2:=S2.mono
     refine (Am.jgF (a:=Am.Sigs.c288) hP (by kernel_rfl) (by kernel_rfl) hr S2.rel ((hG.mono hm1).mono hm2) ⟨_,_,rfl,hvv,_,_,rfl,⟨#[.pointer (some ⟨w.heap.size,0,none⟩)],rfl,_,_,rfl,⟨_,hm2 _ _ (Am.Mp.add_self _ _),rfl⟩,rfl⟩,rfl⟩).calls fun m' w' y s hy=>?_
     refine ⟨y,rfl,m',y,rfl,hy,?_⟩
     have hn2:h.nx<=(Am.zRow (h.new (.cells [.ptr (some (b,o))] false)) es).2.nx:=zu (Nat.le_succ _) S2.nx
     exact (S1.trans (S2.weaken (Nat.le_succ _))).trans (s.weaken hn2)
   ·cases hr
  ·cases hr
 ·cases hr
end
end Go.Proofs
namespace Go.Proofs
theorem Am.Sigs.typesT:Am.jfN Tryz.prog Am.Sigs.cx.T=true:=by kernel_rfl
theorem Am.Sigs.fnsT:(Am.Sigs.jaG.fns.all fun p=>Am.fnM Tryz.prog Am.Sigs.cx p.1 p.2)=true:=by kernel_rfl
set_option maxRecDepth 100000 in
theorem Am.Sigs.progT_ok:Am.ProgOk Tryz.prog Am.Sigs.cx Am.Sigs.jaG := {
 types:=Am.TOk.of_check Am.Sigs.typesT,
 mixed:=Tryz.checked.mixed,
 fns:=fun _ _ h=>zC.1 Am.Sigs.fnsT _ (Am.jbM h),
 primF:=Am.Sigs.jhv,
 primOk:=Am.Sigs.primsOkT }
theorem Am.Sigs.primsOkA:Am.jbg Tryz.prog Am.Sigs.cx Am.Sigs.jnY:=Am.jbg.cons (add_ok Am.Sigs.progT_ok) Am.Sigs.primsOkT rfl
theorem Am.Sigs.primsOkB:Am.jbg Tryz.prog Am.Sigs.cx Am.Sigs.jnX:=Am.jbg.cons (keys_ok Am.Sigs.progT_ok) Am.Sigs.primsOkA rfl
theorem Am.Sigs.primsOk:Am.jbg Tryz.prog Am.Sigs.cx Am.Sigs.prog:=Am.jbg.cons (all_ok Am.Sigs.progT_ok) Am.Sigs.primsOkB rfl
end Go.Proofs
