/- Our own library, part 29. -/
import Derived.Maps.AppendAt
import Derived.Test.YtccoogikjelcbaaGreatDoorM14
import Derived.Test.YtccoogikjelcbaaGreatDoorM28
set_option maxHeartbeats 8000000
set_option maxRecDepth 800
set_option linter.all false
namespace Go.Proofs
open Go.Shelf Go.RowKit Go.Lib Go.Sort
set_option linter.unusedVariables false
open Go.ChangeMaps (setBlock)
def Tryz.sortKey_ren:Go.Shelf.Ren:=⟨fun | 6=>416 | 15=>381 | 14=>422 | 28=>391 | 29=>217 | 20=>424 | 21=>425 | 22=>426 | 23=>427 | 24=>428 | 25=>429 | 26=>430 | 27=>431 | 46=>432 | 47=>393 | 48=>394 | 49=>433 | 50=>434 | 57=>435 | n=>n,fun | 22=>511 | 24=>514 | 25=>527 | 3=>3 | 39=>311 | 0=>0 | 53=>363 | 55=>41 | 4=>4 | 46=>488 | 45=>487 | 50=>339 | 5=>5 | 9=>9 | 66=>493 | 70=>496 | 76=>498 | 77=>468 | n=>n,fun | n=>n⟩
set_option maxRecDepth 100000 in
theorem Tryz.sortKey:Go.Proofs.SlLaysF0.n6 Tryz.prog Tryz.sortKey_ren := { mixed:=by kernel_rfl,f6:=⟨ "slices.SortFunc[[]roundhouse/kqu.key,roundhouse/kqu.key]",by decide,Tryz.func416.trans (congrArg some (by kernel_rfl))⟩,f14:=⟨ "slices.pdqsortCmpFunc[roundhouse/kqu.key]",by decide,Tryz.func422.trans (congrArg some (by kernel_rfl))⟩,f15:=Tryz.func381.trans (congrArg some (by kernel_rfl)),f20:=⟨ "slices.insertionSortCmpFunc[roundhouse/kqu.key]",by decide,Tryz.func424.trans (congrArg some (by kernel_rfl))⟩,f21:=⟨ "slices.heapSortCmpFunc[roundhouse/kqu.key]",by decide,Tryz.func425.trans (congrArg some (by kernel_rfl))⟩,f22:=⟨ "slices.breakPatternsCmpFunc[roundhouse/kqu.key]",by decide,Tryz.func426.trans (congrArg some (by kernel_rfl))⟩,f23:=⟨ "slices.choosePivotCmpFunc[roundhouse/kqu.key]",by decide,Tryz.func427.trans (congrArg some (by kernel_rfl))⟩,f24:=⟨ "slices.reverseRangeCmpFunc[roundhouse/kqu.key]",by decide,Tryz.func428.trans (congrArg some (by kernel_rfl))⟩,f25:=⟨ "slices.partialInsertionSortCmpFunc[roundhouse/kqu.key]",by decide,Tryz.func429.trans (congrArg some (by kernel_rfl))⟩,f26:=⟨ "slices.partitionEqualCmpFunc[roundhouse/kqu.key]",by decide,Tryz.func430.trans (congrArg some (by kernel_rfl))⟩,f27:=⟨ "slices.partitionCmpFunc[roundhouse/kqu.key]",by decide,Tryz.func431.trans (congrArg some (by kernel_rfl))⟩,f28:=Tryz.func391.trans (congrArg some (by kernel_rfl)),f29:=Tryz.func217.trans (congrArg some (by kernel_rfl)),f46:=⟨ "slices.siftDownCmpFunc[roundhouse/kqu.key]",by decide,Tryz.func432.trans (congrArg some (by kernel_rfl))⟩,f47:=Tryz.func393.trans (congrArg some (by kernel_rfl)),f48:=Tryz.func394.trans (congrArg some (by kernel_rfl)),f49:=⟨ "slices.medianAdjacentCmpFunc[roundhouse/kqu.key]",by decide,Tryz.func433.trans (congrArg some (by kernel_rfl))⟩,f50:=⟨ "slices.medianCmpFunc[roundhouse/kqu.key]",by decide,Tryz.func434.trans (congrArg some (by kernel_rfl))⟩,f57:=⟨ "slices.order2CmpFunc[roundhouse/kqu.key]",by decide,Tryz.func435.trans (congrArg some (by kernel_rfl))⟩,t0:=Tryz.underlying0,a0:=Tryz.isAgg0,z0:=Tryz.sizeOf0,v0:=Tryz.zeroValue0,t3:=Tryz.underlying3,a3:=Tryz.isAgg3,z3:=Tryz.sizeOf3,v3:=Tryz.zeroValue3,t4:=Tryz.underlying4,a4:=Tryz.isAgg4,z4:=Tryz.sizeOf4,v4:=Tryz.zeroValue4,t5:=Tryz.underlying5,a5:=Tryz.isAgg5,z5:=Tryz.sizeOf5,v5:=Tryz.zeroValue5,t9:=Tryz.underlying9,a9:=Tryz.isAgg9,z9:=Tryz.sizeOf9,v9:=Tryz.zeroValue9,t22:=Tryz.underlying511,a22:=Tryz.isAgg511,z22:=Tryz.sizeOf511,v22:=Tryz.zeroValue511,t25:=Tryz.underlying527,a25:=Tryz.isAgg527,z25:=Tryz.sizeOf527,v25:=Tryz.zeroValue527,t39:=Tryz.underlying311,a39:=Tryz.isAgg311,z39:=Tryz.sizeOf311,v39:=Tryz.zeroValue311,t45:=Tryz.underlying487,a45:=Tryz.isAgg487,z45:=Tryz.sizeOf487,v45:=Tryz.zeroValue487,t46:=Tryz.underlying488,a46:=Tryz.isAgg488,z46:=Tryz.sizeOf488,v46:=Tryz.zeroValue488,t50:=Tryz.underlying339,a50:=Tryz.isAgg339,z50:=Tryz.sizeOf339,v50:=Tryz.zeroValue339,t53:=Tryz.underlying363,a53:=Tryz.isAgg363,z53:=Tryz.sizeOf363,v53:=Tryz.zeroValue363,t55:=Tryz.underlying41,a55:=Tryz.isAgg41,z55:=Tryz.sizeOf41,v55:=Tryz.zeroValue41,t66:=Tryz.underlying493,a66:=Tryz.isAgg493,z66:=Tryz.sizeOf493,v66:=Tryz.zeroValue493,t70:=Tryz.underlying496,a70:=Tryz.isAgg496,z70:=Tryz.sizeOf496,v70:=Tryz.zeroValue496,t76:=Tryz.underlying498,a76:=Tryz.isAgg498,z76:=Tryz.sizeOf498,v76:=Tryz.zeroValue498,t77:=Tryz.underlying468,a77:=Tryz.isAgg468,z77:=Tryz.sizeOf468,v77:=Tryz.zeroValue468 }
theorem keys_sort {L:List (Int × Int)} (xs:List (Int × Int)) (hp:xs.Perm L) (hn:xs≠[]) (blk cap:Nat) (w:World) (hH:HoldsK Am.encK 2 w blk 0 xs.toArray) (hblk:blk<w.heap.size) (hsz:xs.length<4611686018427387904) :
  Calls Tryz.prog 416 #[.slice (some ⟨blk,0,none⟩) xs.length cap,.func (.func 417) #[] #[]] w fun e w'=>e = .returned (.tuple #[]) /\ ∃ n os,w'=sortWorldK Am.encK 2 w blk 0 n (Am.jeJ L).toArray os:=by
 have eg : ∀ args w,(callFunc 417 args).run Tryz.prog w = .ok (.enter 417 args) w:=enters_of Tryz.func417 (by kernel_rfl) rfl
 have hcon:=AnyQ.slices_SortFunc_total Tryz.sortKey 2 Tryz.isAgg514 Tryz.sizeOf514 Am.encK (fun _=>rfl) (fun x v hv=>by simp [Am.encK] at hv;rcases hv with rfl | rfl<;>rfl) Am.kCmp Am.kCmp_swo 417 #[] blk 0 cap xs.toArray w eg
  (fun _ _ _ _ x y=>keys_cmp x y _) hH hblk (by simpa using hsz) Am.jfl
 rw [List.size_toArray,Am.jiH hp] at hcon
 exact hcon
theorem jgp (cap:Nat) (w:World):Calls Tryz.prog 416 #[.slice none 0 cap,.func (.func 417) #[] #[]] w fun e w'=>e = .returned (.tuple #[])/\w'=w:=AnyF.slices_SortFunc_none { Tryz.sortKey with } none cap _ w
theorem jcO {w w2:World} {o:Obj} {c:Array Value} {e:TypeId} {fz:Nat × Nat} {k:Nat} {v:Value} (hs:w2.heap.size+1<=w.heap.size) (h:w.heap[w2.heap.size]?=some (.cells c e fz)) (hv:c[k]?=some v):(w.alloc o).cell? ⟨w2.heap.size,k,none⟩=some v:=by
 rw [Lib.cell_of_heap ((Below.heap_alloc w o _ (by omega)).trans h)]
 exact hv
theorem jhB : ∀ (l:List (Int × Int)) (j:Nat),j<l.length*2->(l.flatMap Am.encK)[j]?=some (Am.encK l.toArray[j/2]!)[j%2]! := by
 intro l
 induction l with
 | nil=>intro j hj;simp at hj
 | cons x r ih=>
  intro j hj
  rw [List.flatMap_cons]
  match j,hj with
  | 0,_=>rfl
  | 1,_=>rfl
  | j+2,hj=>
   have h2:=ih j (by simp at hj;omega)
   have e1:(Am.encK x++r.flatMap Am.encK)[j+2]?=(r.flatMap Am.encK)[j]?:=rfl
   rw [e1,h2]
   have e2:(j+2)/2=j/2+1:=by omega
   have e3:(j+2)%2=j%2:=by omega
   have hlt:j/2<r.length:=by simp at hj;omega
   rw [e2,e3]
   congr 2
   rw [getElem!_pos _ _ (by simpa using hlt),getElem!_pos _ _ (by simp;omega)]
   simp
theorem jfi {m:Am.Mp} : ∀ (l:List (Int × Int)) (k:Nat) (v:Am.V),(Am.jfm l)[k]?=some v -> ∃ x,(l.flatMap Am.encK)[k]?=some x/\Am.VRel m v x
 | [],k,v,h=>by cases h
 | x :: r,0,v,h=>by cases h;exact ⟨_,rfl,rfl⟩
 | x :: r,1,v,h=>by cases h;exact ⟨_,rfl,rfl⟩
 | x :: r,k+2,v,h=>jfi r k v h
theorem jed : ∀ (l:List (Int × Int)),(Am.jfm l).length=l.length*2
 | []=>rfl
 | x :: r=>by
  show (Am.jfm r).length+1+1=_
  rw [jed r,List.length_cons];omega
theorem jkO {wr:World} {g cap n:Nat} {e:TypeId} {cur:Array Value} {l:List (Int × Int)} {os:Array Obj} (hgl:wr.heap[g]?=some (.cells cur e (0,0))) (hcs:cur.size=cap*2) (hnc:l.length<=cap) :
  ∃ cur',(sortWorldK Am.encK 2 wr g 0 n l.toArray os).heap[g]?=some (.cells cur' e (0,0))/\cur'.size=cap*2 /\ ∀ (m:Am.Mp) (k:Nat) (v:Am.V),(Am.jfm l)[k]?=some v -> ∃ x,cur'[k]?=some x/\Am.VRel m v x:=by
 have hlt:g<wr.heap.size:=by
  rcases zr g wr.heap.size with q | q
  ·exact q
  ·rw [zD q] at hgl;cases hgl
 refine ⟨putCells id 0 (flatK Am.encK 2 l.toArray) cur,?_,by simp [putCells,hcs],fun m k v hv=>?_⟩
 ·unfold sortWorldK
  rw [Go.Sort.heap_grow_old _ _ (by rw [size_putRowK];exact hlt)]
  show (wr.heap.modify g _)[g]?=_
  rw [Array.getElem?_modify,zg rfl,hgl]
  rfl
 ·obtain ⟨x,hx,hr⟩:=jfi (m:=m) l k v hv
  have hk:k<l.length*2:=by
   have:=(List.getElem?_eq_some_iff.1 hv).1
   rwa [jed] at this
  rw [jhB l k hk] at hx
  cases hx
  refine ⟨_,?_,hr⟩
  have hkc:k<cur.size:=by omega
  rw [<- get_flatK Am.encK 2 l.toArray k (by simpa using hk)]
  simp only [putCells,Array.getElem?_mapIdx,Array.getElem?_eq_getElem hkc,Option.map_some]
  rw [zg ⟨Nat.zero_le _,by simpa using hk⟩]
  rfl
theorem jkP {wr:World} {g n:Nat} {d:Array (Int × Int)} {os:Array Obj} {B:Nat} (hB:B<=g) (hs:B<=wr.heap.size):Below B wr (sortWorldK Am.encK 2 wr g 0 n d os) :=
 ⟨rfl,rfl,rfl,by unfold sortWorldK;rw [Go.Sort.size_grow,size_putRowK];exact Nat.le_add_right _ _,fun k hk=>by
  unfold sortWorldK
  rw [Go.Sort.heap_grow_old _ _ (by rw [size_putRowK];exact zo hk hs)]
  show (wr.heap.modify g _)[k]?=_
  rw [Array.getElem?_modify,zb (by omega)]⟩
theorem keys_holds {w:World} {g:Nat} {e:TypeId} {cur:Array Value} {xs:List (Int × Int)} (hg:w.heap[g]?=some (.cells cur e (0,0))) (ht:cur.toList.take (xs.length*2)=xs.flatMap Am.encK):HoldsK Am.encK 2 w g 0 xs.toArray:=by
 intro j hj
 rw [size_flatK,List.size_toArray] at hj
 have h1:=jhB xs j hj
 rw [<- ht,zx] at h1
 rw [zg hj] at h1
 have hc:cur[j]?=some (flatK Am.encK 2 xs.toArray)[j]! := by
  rw [get_flatK _ _ _ _ (by simpa using hj),<- h1]
  simp
 refine ⟨?_,?_⟩
 ·rw [zz,Lib.cell_of_heap hg];exact hc
 ·rw [zz]
  unfold World.frozen?
  rw [hg]
  simp
theorem Tryz.infoKey:(Tryz.prog.info? 514).map (fun i=>(i.zero,i.size,i.bytes))=some (some (.agg #[.int .i64 0,.int .i64 0]),2,16):=by kernel_rfl
section
variable {m:Am.Mp} {h:Am.H} {w:World}
set_option maxRecDepth 100000 in
theorem jfj (hP:Am.ProgOk Tryz.prog Am.Sigs.cx Am.Sigs.jaG) (hR:Am.HRel Tryz.prog Am.Sigs.cx m h w) (hG:Am.GOk Am.Sigs.cx m) {l lm:Am.Loc} {b o mb ck:Nat} {es:List (Am.V × Am.V × Nat)} {L:List (Int × Int)} (hb:m b=some l) (hmb:m mb=some lm)
  (hl:h.load b (o+1) 1=some [.map (some mb)]) (hmp:h.get mb=some (.map es ck)) (hc:Am.jhC Am.Sigs.jaG 100000 28 415 (h.one mb es ck) mb es ck (.ptr (some (b,o))) es=some L) (hg:Am.jiQ ck es=true) (hle:es.length<=1000000) :
  Calls Tryz.prog 409 #[.pointer (some ⟨l.β,l.d+o,none⟩)] w fun e w'=>∃ v wr xs,e = .returned v/\xs.Perm L/\wr.ownsRow (w.heap.size+1) 514 2 v xs.length (xs.flatMap Am.encK)/\Am.Step Tryz.prog Am.Sigs.cx h.nx m h w m h wr /\
   (xs=[]->v = .slice none 0 0/\w'=wr)/\(xs≠[] -> ∃ g cap n os,v = .slice (some ⟨g,0,none⟩) xs.length cap/\w'=sortWorldK Am.encK 2 wr g 0 n (Am.jeJ L).toArray os):=by
 have mixed:=Tryz.checked.mixed
 have t3:=Tryz.underlying3;have a3:=Tryz.isAgg3;have z3:=Tryz.sizeOf3;have v3:=Tryz.zeroValue3
 have t4:=Tryz.underlying4;have a4:=Tryz.isAgg4;have z4:=Tryz.sizeOf4;have v4:=Tryz.zeroValue4
 have t267:=Tryz.underlying511;have a267:=Tryz.isAgg511;have z267:=Tryz.sizeOf511;have v267:=Tryz.zeroValue511
 have t270:=Tryz.underlying514;have a270:=Tryz.isAgg514;have z270:=Tryz.sizeOf514;have v270:=Tryz.zeroValue514
 have t277:=Tryz.underlying521;have a277:=Tryz.isAgg521;have z277:=Tryz.sizeOf521;have v277:=Tryz.zeroValue521
 obtain ⟨i0,hi,hz0,hz1,hz2⟩:=info_parts Tryz.infoKey
 have hcell:w.cell? ⟨l.β,l.d+o+1,none⟩=some (.map (some lm.β)) /\ ∃ ces,w.heap[lm.β]?=some (.map ces ck)/\Am.jad m es ces.toList:=by
  obtain ⟨_,hce⟩:=Am.jdw hR hl hb
  obtain ⟨xx,c1,l9,q1,q2⟩:=hce 0 _ rfl
  rw [hmb] at q1;cases q1
  subst q2
  refine ⟨by rw [show l.d+o+1=l.d+(o+1+0) by omega];exact c1,?_⟩
  obtain ⟨l',co,r1,r2,ces,rfl,r4⟩:=hR.obj _ _ hmp
  rw [hmb] at r1;cases r1
  exact ⟨ces,r2,r4⟩
 obtain ⟨hcl,ces,hblk,hent⟩:=hcell
 go_enter Tryz.func409,Tryz.ntmps409
 go_wp2_with (first | (at_range;refine jbZ rfl _ _ _ _ rfl Tryz.underlying330 _ _ _ rfl hblk ?_) | go_in)
 go_frame
 obtain ⟨hc0,hadd⟩:=Am.jfk hc
 have hwf : ∀ β,w.heap.size <= β -> ¬ Am.jc8 m h β := fun β hβ e=>by
  obtain ⟨b',o',l',g1,_,g3,g4⟩:=e
  have:=hR.lt g1 g3
  omega
 have HR:=Any.hidU hR
 have HP:=Any.hidU hP
 have HG:=Any.hidU hG
 have HI:=Any.hidU (heap_alloc_last w (.mapIter (some lm.β) ck #[] ck))
 have hlm:lm.β < w.heap.size:=by
  rcases zr lm.β w.heap.size with q | q
  ·exact q
  ·rw [zD q] at hblk;cases hblk
 have HM:=Any.hidU ((Below.heap_alloc w (.mapIter (some lm.β) ck #[] ck) lm.β hlm).trans hblk)
 have HE:=Any.hidU hent
 have HS:=Any.hidU ((Am.Step.refl h.nx hR).below hR ((Below.refl w.heap.size w).alloc (zn _) (.mapIter (some lm.β) ck #[] ck)) (zn _))
 have HA:=Any.hidU hadd
 have HO:=Any.hidU (World.ownsRow_nil (w.alloc (.mapIter (some lm.β) ck #[] ck)) (w.heap.size+1) 514 2)
 have HZ:=Any.hidU (show w.heap.size+1<=(w.alloc (.mapIter (some lm.β) ck #[] ck)).heap.size by simp)
 clear hP hG hblk hent hadd hc hcl
 have HPD:=Any.hidU (show ∀ w2 (y:Int × Int),Am.Step Tryz.prog Am.Sigs.cx h.nx m h w m h w2->(∃ e∈es,Am.jcg e.1=some y) -> ∃ (bb:Bool),Am.jeh Am.Sigs.jaG 100000 28 415 (h.one mb es ck) mb es ck (.ptr (some (b,o))) (.agg [.int .i64 y.1,.int .i64 y.2])=some bb /\
   Calls Tryz.prog 415 #[.pointer (some ⟨l.β,l.d+o,none⟩),.agg #[.int .i64 y.1,.int .i64 y.2]] w2 fun e w'=>∃ c0 c1 c2 c3,(e = .returned (.tuple #[.agg #[c0,c1,c2,c3],.bool bb])/\(#[c0,c1,c2,c3]:Array Value).all (·.oneCell')=true)/\Am.Step Tryz.prog Am.Sigs.cx h.nx m h w2 m h w' from fun w2 y S2 ⟨e,he,hy⟩=>by
  obtain ⟨bb,hbb⟩:=HA.out e he
  rw [Am.jeg hy] at hbb
  obtain ⟨lv,h2,hcall,hk,h4,h1⟩:=Am.jkS hbb
  refine ⟨bb,hbb,(Am.kept_one HP.out (by rfl) (by rfl) hmp hcall hk S2.rel HG.out ⟨_,_,rfl,⟨l,hb,rfl⟩,_,_,rfl,⟨#[.int .i64 y.1,.int .i64 y.2],rfl,_,_,rfl,rfl,_,_,rfl,rfl,rfl⟩,rfl⟩).mono ?_⟩
  rintro e w' ⟨⟨m',yv,rfl,hv⟩,S⟩
  obtain ⟨c0,c1,c2,c3,rfl,hone⟩:=Am.jkT h4 h1 hv
  exact ⟨c0,c1,c2,c3,⟨rfl,hone⟩,S⟩)
 have e204 : ∀ args w,(callFunc 415 args).run Tryz.prog w = .ok (.enter 415 args) w:=enters_of Tryz.func415 (by kernel_rfl) rfl
 have e205 : ∀ args w,(callFunc 416 args).run Tryz.prog w = .ok (.enter 416 args) w:=enters_of Tryz.func416 (by kernel_rfl) rfl
 have hi277 : ∀ c0 c1 c2 c3:Value,(Tryz.prog.info? 521).map (·.size)=some (#[c0,c1,c2,c3]:Array Value).size:=by intro c0 c1 c2 c3;kernel_rfl
 have hi270 : ∀ c0 c1:Value,(Tryz.prog.info? 514).map (·.size)=some (#[c0,c1]:Array Value).size:=by intro c0 c1;kernel_rfl
 go_loopw [3] (fun v wr=>∃ ces seen xs,Hid (wr.ownsRow (w.heap.size+1) 514 2 v xs.length (xs.flatMap Am.encK)/\(xs=[]->v = .slice none 0 0))/\Hid ((xs++Am.jcP Am.Sigs.jaG 100000 28 415 (h.one mb es ck) mb es ck (.ptr (some (b,o))) seen es).Perm L)/\Hid (wr.heap[lm.β]?=some (.map ces ck))/\Hid (Am.jad m es ces.toList)/\Hid (wr.heap[w.heap.size]?=some (.mapIter (some lm.β) ck seen ck))/\Hid (Am.Step Tryz.prog Am.Sigs.cx h.nx m h w m h wr)/\Hid (w.heap.size+1<=wr.heap.size)) (fun _ wr=>wr.rangeLeft lm.β w.heap.size)
 case atStart=>exact ⟨ces,#[],[],⟨HO.out,fun _=>rfl⟩,by rw [hc0];exact List.Perm.refl _,HM,HE,HI,HS,HZ⟩
 case round=>
  obtain ⟨ces2,seen,xs,HON,HX,HM,HE,HI,HS,HZ⟩:=hrel
  have HO:=Any.hidU HON.out.1
  have HG2:=Any.hidU (Am.jhH HE.out hg)
  have hn2:xs.length<=1000000:=by
   have h1:=HX.out.length_eq
   have h2 := @Am.jjD Am.Sigs.jaG 100000 28 415 (h.one mb es ck) mb ck es (.ptr (some (b,o))) #[] es
   rw [hc0] at h2
   rw [ze] at h1
   omega
  have hrb:w.heap.size≠lm.β := by omega
  go_wp2_with (first
   | (at_next;refine jcd (fun y:Int × Int=>Value.agg #[.int .i64 y.1,.int .i64 y.2]) rfl _ rfl w.heap.size lm.β ck ck seen ces2 ck rfl HI.out HM.out (fun x hx=>(HG2.out.1 x hx).1) (zn _) HG2.out.2.1 (fun x hx=>(HG2.out.1 x hx).2) (fun hz=>?_) (fun y val e w2 he hw2 hen=>?_))
   | (refine jbA rfl 514 _ _ rfl _ #[.int .i64 y.1,.int .i64 y.2] rfl rfl (hi270 _ _) rfl rfl ?_)
   | (refine jbA rfl 521 _ _ rfl _ #[c0,c1,c2,c3] rfl rfl (hi277 _ _ _ _) rfl hone.out ?_)
   | (go_at_call 415;have hsz:w.heap.size+1<=w2.heap.size:=(by rw [hw2.out.2.1];exact HZ.out);have S3:=HS.out.below HR.out (hw2.out.1.alloc (Nat.le_of_succ_le hsz) (.cells #[.int .i64 y.1,.int .i64 y.2] 514)) (zn _);obtain ⟨ee,hee,heb,y',hey,hek⟩:=HG2.out.2.2 e (Array.mem_filter.1 (Array.mem_toList_iff.1 he.out.1)).1.val;have hyy:y=y':=(Am.mkK_inj (hek.symm.trans he.out.2)).symm;subst hyy;obtain ⟨bb,hadd,hcl2⟩:=HPD.out _ y S3 ⟨ee,hee,hey⟩;refine hcl2.mono ?_;rintro e4 w4 ⟨c0,c1,c2,c3,⟨rfl,hone⟩,S4⟩;have HS4:=Any.hidU S4;have HS3:=Any.hidU S3;have HAD:=Any.hidU hadd;have HEE:=Any.hidU (And.intro hee (And.intro heb hey));have hone:=Any.hidU hone;have hold:=Any.hidU (fun k (hk:k<w2.heap.size) (hk2:w.heap.size<=k)=>(S4.frame k (by simp;omega) (hwf k hk2)).1.trans (Below.heap_alloc w2 _ k hk));have hnew:=(S4.frame w2.heap.size (by simp) (hwf _ (Nat.le_of_succ_le hsz))).1.trans (heap_alloc_last w2 _);have hsz4:w2.heap.size+1<=w4.heap.size:=(by have:=S4.size;simp at this;exact this);have d0:=jcO (o := .cells #[c0,c1,c2,c3] 521) (k:=0) hsz4 hnew rfl;have d1:=jcO (o := .cells #[c0,c1,c2,c3] 521) (k:=1) hsz4 hnew rfl;clear hcl2 hadd S4 S3 hee heb hek hey hnew)
   | (at_builtin;refine Hid.out ?_))
  rotate_left 1
  ·unfold Hid
   have HO7:=jfa (w':=(w4.alloc (.cells #[c0,c1,c2,c3] 521)).alloc (.cells #[.int .i64 y.1,.int .i64 y.2] 514)) HO.out (fun g hg1 hg2=>by
    have h2:g<w2.heap.size:=by rw [hw2.out.2.1];exact hg2
    exact (Below.heap_alloc _ _ g (by simp;omega)).trans ((Below.heap_alloc _ _ g (by omega)).trans ((hold.out g h2 (by omega)).trans (hw2.out.2.2.2 g (by omega)))))
   refine wpList_append_own_at _ rfl _ _ 511 rfl (w.heap.size+1) 514 i0 (.agg #[.int .i64 0,.int .i64 0]) 2 16 Tryz.underlying511 hi hz0 hz1 hz2 rfl (by decide) _ xs.length (xs.flatMap Am.encK) rfl HO7 ⟨w4.heap.size+1,0,none⟩ 1 1 [.int .i64 y.1,.int .i64 y.2] rfl rfl ?c1 ?c2 ?c3 ?c4 ?c5 ?c6
   case c1=>
    intro j u hj
    match j,hj with
    | 0,hj=>cases hj;exact jef (by simp) rfl
    | 1,hj=>cases hj;exact jef (by simp) rfl
   case c2=>intro u hu;simp at hu;rcases hu with rfl | rfl<;>rfl
   case c3=>unfold maxLen;omega
   case c4=>omega
   case c5=>simp;omega
   case c6=>
    intro v' w9 hown9 hgrow9 _ _
    have HO9:=Any.hidU hown9
    have HW9:=Any.hidU hgrow9
    have HO7:=Any.hidU HO7
    clear hown9 hgrow9
    go_wp2
    have hs:seen.contains e.born=false:=by
     have:=(Array.mem_filter.1 (Array.mem_toList_iff.1 he.out.1)).2
     simpa using this
    have hnd:(es.map (·.2.2)).Nodup:=by
     rw [<- Am.jaj HE.out]
     exact HG2.out.2.1
    have hbt:bb=true:=by assumption
    subst hbt
    have hpush:=Am.jdf (p := .ptr (some (b,o))) HEE.out.2.2 (by rw [Am.jeg HEE.out.2.2];exact HAD.out) (by rw [HEE.out.2.1];exact hs) HEE.out.1 hnd
    rw [HEE.out.2.1] at hpush
    obtain ⟨l',co,r1,r2,ces4,rfl,r4⟩:=HS4.out.rel.obj _ _ hmp
    rw [hmb] at r1;cases r1
    have hlr:w.heap.size<w2.heap.size:=by omega
    have hr4:=(hold.out w.heap.size hlr (zn _)).trans hw2.out.2.2.1
    have hbb:ces4.toList.map (·.born)=ces2.toList.map (·.born):=(Am.jaj r4).trans (Am.jaj HE.out).symm
    have hkeep : ∀ k,k<w.heap.size+1->w9.heap[k]?=w4.heap[k]?:=fun k hk=>by
     have h7:((w4.alloc (.cells #[c0,c1,c2,c3] 521)).alloc (.cells #[.int .i64 y.1,.int .i64 y.2] 514)).heap[k]?=w4.heap[k]?:=(Below.heap_alloc _ _ k (by simp;omega)).trans (Below.heap_alloc _ _ k (by omega))
     rw [<- h7]
     refine HW9.out.block k (by simp;omega) fun e=>?_
     have:=(HO7.out.lt k e.symm).1
     omega
    have q2:=(hkeep lm.β (by omega)).trans r2
    have qr:=(hkeep w.heap.size (by omega)).trans hr4
    have hsz9:w.heap.size+1<=w9.heap.size:=by have:=HW9.out.size;simp at this;omega
    have hms:w9.rangeLeft lm.β w.heap.size<wr.rangeLeft lm.β w.heap.size:=by
     simp only [World.rangeLeft,HM.out,HI.out,q2,qr]
     exact jiK hbb he.out.1
    have hst:=(HS3.out.trans HS4.out).below HR.out (((Below.refl w.heap.size w4).alloc (by omega) (.cells #[c0,c1,c2,c3] 521)).alloc (by simp;omega) (.cells #[.int .i64 y.1,.int .i64 y.2] 514) |>.grown HW9.out (by simp;omega) (fun k hk=>by have:=(HO7.out.lt k hk).1;omega)) (zn _)
    refine ⟨⟨ces4,seen.push e.born,xs++[y],⟨?_,fun h=>by simp at h⟩,?_,q2,r4,qr,hst,hsz9⟩,hms⟩
    ·have:=HO9.out
     rw [show (xs++[y]).length=xs.length+1 by simp,List.flatMap_append]
     exact this
    ·refine List.Perm.trans ?_ HX.out
     rw [List.append_assoc]
     exact (hpush.symm).append_left xs
  rotate_left 1
  ·rcases HON.out.1.2 with ⟨rfl,hn⟩ | ⟨g,cap,cur,rfl,hbg,hgl,hnc,hcm,hcs,htk⟩
   ·obtain rfl:xs=[]:=List.eq_nil_of_length_eq_zero hn
    refine (jgp 0 wr).mono ?_
    rintro e w' ⟨rfl,rfl⟩
    go_wp2
    go_ret
    have hz2:=Am.jdg (R:=Am.Sigs.jaG) (fu:=100000) (d:=28) (find:=415) (g:=h.one mb es ck) (mb:=mb) (ck:=ck) (es0:=es) (p := .ptr (some (b,o))) (seen:=seen) (es:=es) fun e he=>jeb hz.out (by
     rw [Am.jaj HE.out]
     exact List.mem_map.2 ⟨e,he,rfl⟩)
    have hp:=HX.out
    rw [hz2] at hp
    exact ⟨_,w',[],rfl,hp,HON.out.1,HS.out,fun _=>⟨rfl,rfl⟩,fun h=>zw rfl h⟩
   ·by_cases hne:xs=[]
    ·have:=HON.out.2 hne
     cases this
    have hz2:=Am.jdg (R:=Am.Sigs.jaG) (fu:=100000) (d:=28) (find:=415) (g:=h.one mb es ck) (mb:=mb) (ck:=ck) (es0:=es) (p := .ptr (some (b,o))) (seen:=seen) (es:=es) fun e he=>jeb hz.out (by
     rw [Am.jaj HE.out]
     exact List.mem_map.2 ⟨e,he,rfl⟩)
    have hp:=HX.out
    rw [hz2,List.append_nil] at hp
    have hlt:g<wr.heap.size:=by
     rcases zr g wr.heap.size with q | q
     ·exact q
     ·rw [zD q] at hgl;cases hgl
    refine (keys_sort xs hp hne g cap wr (keys_holds hgl htk) hlt (by omega)).mono ?_
    rintro e w' ⟨rfl,n,os,rfl⟩
    go_wp2
    go_ret
    exact ⟨_,wr,xs,rfl,hp,HON.out.1,HS.out,fun h=>zw h hne,fun _=>⟨g,cap,n,os,rfl,rfl⟩⟩
  ·have hs:seen.contains e.born=false:=by
    have:=(Array.mem_filter.1 (Array.mem_toList_iff.1 he.out.1)).2
    simpa using this
   have hnd:(es.map (·.2.2)).Nodup:=by
    rw [<- Am.jaj HE.out]
    exact HG2.out.2.1
   have hbt:bb=false:=by assumption
   subst hbt
   have hpush:=Am.jdf (p := .ptr (some (b,o))) HEE.out.2.2 (by rw [Am.jeg HEE.out.2.2];exact HAD.out) (by rw [HEE.out.2.1];exact hs) HEE.out.1 hnd
   rw [HEE.out.2.1] at hpush
   obtain ⟨l',co,r1,r2,ces4,rfl,r4⟩:=HS4.out.rel.obj _ _ hmp
   rw [hmb] at r1;cases r1
   have hlr:w.heap.size<w2.heap.size:=by omega
   have hr4:=(hold.out w.heap.size hlr (zn _)).trans hw2.out.2.2.1
   have hbb:ces4.toList.map (·.born)=ces2.toList.map (·.born):=(Am.jaj r4).trans (Am.jaj HE.out).symm
   have q2:=(Below.heap_alloc w4 (.cells #[c0,c1,c2,c3] 521) lm.β (by omega)).trans r2
   have qr:=(Below.heap_alloc w4 (.cells #[c0,c1,c2,c3] 521) w.heap.size (by omega)).trans hr4
   have hms:(w4.alloc (.cells #[c0,c1,c2,c3] 521)).rangeLeft lm.β w.heap.size<wr.rangeLeft lm.β w.heap.size:=by
    simp only [World.rangeLeft,HM.out,HI.out,q2,qr]
    exact jiK hbb he.out.1
   have hst:=(HS3.out.trans HS4.out).below HR.out ((Below.refl w.heap.size w4).alloc (by omega) (.cells #[c0,c1,c2,c3] 521)) (zn _)
   have hsz9:w.heap.size+1<=(w4.alloc (.cells #[c0,c1,c2,c3] 521)).heap.size:=by simp;omega
   refine ⟨⟨ces4,seen.push e.born,xs,⟨?_,HON.out.2⟩,hpush.symm.append_left xs |>.trans HX.out,q2,r4,qr,hst,hsz9⟩,hms⟩
   exact jfa HO.out fun g hg1 hg2=>by
    have h2:g<w2.heap.size:=by rw [hw2.out.2.1];exact hg2
    exact (Below.heap_alloc _ _ g (by omega)).trans ((hold.out g h2 (by omega)).trans (hw2.out.2.2.2 g (by omega)))
theorem jcr {h:Am.H} {b o:Nat} {v:Am.V} (e:h.load1 b o=some v):h.load b o 1=some [v]:=by
 unfold Am.H.load1 at e
 unfold Am.H.load
 split at e
 ·next l ro hg=>
  have hlt:o<l.length:=(List.getElem?_eq_some_iff.1 e).1
  have:Nat.ble (o+1) l.length=true:=by rw [zA];omega
  rw [this]
  simp only [cond_true]
  rw [List.take_one,List.head?_drop,e]
  rfl
 ·cases e
theorem keys_ok (hP:Am.ProgOk Tryz.prog Am.Sigs.cx Am.Sigs.jaG):Am.jby Tryz.prog Am.Sigs.cx 409 (Am.jiD Am.Sigs.jaG 100000 28 415 1):=by
 refine Am.jeV (enters_of Tryz.func409 (by kernel_rfl) rfl) ?_
 intro args h v h' hr m w xs hR hG hx
 unfold Am.jiD at hr
 split at hr
 ·next b o=>
  obtain ⟨x,r,e,⟨l,hb,rfl⟩,e2⟩:=hx
  obtain rfl:r=[]:=e2
  obtain ⟨q⟩:=xs
  obtain rfl:q=[_]:=e
  split at hr
  ·next mb hl=>
   split at hr
   ·next es ck he=>
    cases hgl:Am.jiQ ck es&&Nat.ble es.length 1000000 with
    | false=>rw [hgl] at hr;cases hr
    | true=>
     rw [hgl] at hr
     simp only [cond_true] at hr
     rw [zm,zA] at hgl
     obtain ⟨lm,co,hmb,_⟩:=hR.obj _ _ he
     split at hr
     ·next hk=>
      cases hr
      refine (jfj hP hR hG hb hmb (jcr hl) he hk hgl.1 hgl.2).mono ?_
      rintro e w' ⟨vv,wr,xs,rfl,hp,ho,hs,h1,h2⟩
      obtain rfl:xs=[]:=hp.eq_nil
      obtain ⟨rfl,rfl⟩:=h1 rfl
      exact ⟨m,_,rfl,⟨rfl,rfl,rfl⟩,hs⟩
     ·next y r hk=>
      simp only [Am.jbt,Option.some.injEq,Prod.mk.injEq] at hr
      obtain ⟨rfl,rfl⟩:=hr
      refine (jfj hP hR hG hb hmb (jcr hl) he hk hgl.1 hgl.2).mono ?_
      rintro e w' ⟨vv,wr,xs,rfl,hp,ho,hs,h1,h2⟩
      have hne:xs≠[]:=fun e=>by
       subst e
       have:=hp.length_eq
       simp at this
      obtain ⟨g,cap,n,os,rfl,rfl⟩:=h2 hne
      rcases ho.2 with ⟨e,_⟩ | ⟨g',cap',cur,e,hbg,hgl2,hnc,hcm,hcs,htk⟩
      ·cases e
      cases e
      have hlen:xs.length=(Am.jeJ (y :: r)).length:=hp.length_eq.trans (Am.jdh _).length_eq.symm
      obtain ⟨cur',c1,c2,c3⟩:=jkO (n:=n) (os:=os) hgl2 hcs (l:=Am.jeJ (y :: r)) (by omega)
      have hlt:g<wr.heap.size:=by
       rcases zr g wr.heap.size with q | q
       ·exact q
       ·rw [zD q] at hgl2;cases hgl2
      have hs2:=hs.below hR (jkP (g:=g) (n:=n) (d:=(Am.jeJ (y :: r)).toArray) (os:=os) (B:=w.heap.size) (by omega) (by omega)) (zn _)
      have hid:m h.nx=none:=(hR.nofuture (zn _)).1
      refine ⟨m.add h.nx ⟨g,0,cap*2⟩,_,rfl,?_,hs2.add hR (by omega) c1 ?_⟩
      ·refine ⟨⟨g,0,cap*2⟩,_,cap,Am.Mp.add_self _ _,?_,?_,fun _=>rfl,fun k h=>(by cases h),fun q h=>(by cases h;show 0+cap*2<=cap*2;omega),fun q k h=>(by cases h)⟩
       ·rw [hp.length_eq,Nat.add_zero]
       ·rw [<- hp.length_eq];exact hnc
      ·refine ⟨cur',_,0,0,rfl,?_,?_,fun k v hv=>?_,fun _=>.inl rfl⟩
       ·rw [jed];show _<=cap*2;omega
       ·show 0+cap*2<=_;omega
       ·rw [zz]
        exact c3 _ k v hv
     ·cases hr
   ·cases hr
  ·cases hr
 ·cases hr
end
end Go.Proofs
