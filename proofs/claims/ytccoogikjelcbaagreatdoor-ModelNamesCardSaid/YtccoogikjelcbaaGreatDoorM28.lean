/- Our own library, part 28. -/
import Derived.Test.YtccoogikjelcbaaGreatDoorChecked
import Derived.WalkKit
import Derived.BigCall
import Derived.BigRegion
import Derived.Deep.MidRow
import Derived.Deep.WholeRow
import Derived.Deep.RegionWith
import Derived.Shelf.SlSortCmp.NoneTotal
import Derived.Shelf.Lay
import Derived.Ground.SlsfProg
import Derived.Ground.NamesProg
import Derived.Test.YtccoogikjelcbaaGreatDoorM26
import Derived.Test.YtccoogikjelcbaaGreatDoorM25
set_option maxHeartbeats 8000000
set_option maxRecDepth 800
set_option linter.all false
namespace Go.Proofs
open Go.Shelf Go.RowKit Go.Lib Go.Sort
set_option linter.unusedVariables false
open Go.ChangeMaps (setBlock)
set_option maxRecDepth 100000 in
theorem jdx (a b:Int) (W:World):Calls Tryz.prog 256 #[.int .i64 a,.int .i64 b] W fun e w'=>e = .returned (.int .i64 (Lib.compareInt a b))/\w'=W:=by
 have mixed:=Tryz.checked.mixed
 have t3:=Tryz.underlying3;have a3:=Tryz.isAgg3;have z3:=Tryz.sizeOf3;have v3:=Tryz.zeroValue3
 have t4:=Tryz.underlying4;have a4:=Tryz.isAgg4;have z4:=Tryz.sizeOf4;have v4:=Tryz.zeroValue4
 have hnan : ∀ (x:Int) (W':World),Calls Tryz.prog 280 #[.int .i64 x] W' fun e w'=>e = .returned (.bool false)/\w'=W':=by
  intro x W'
  go_enter Tryz.func280,Tryz.ntmps280
  go_wp2
  go_ret
  exact ⟨by simp,rfl⟩
 go_enter Tryz.func256,Tryz.ntmps256
 go_wp2_with (go_at_call 280;refine (hnan _ _).mono ?_;rintro e w' ⟨rfl,rfl⟩)
 all_goals
  go_ret
  refine ⟨?_,rfl⟩
  unfold Lib.compareInt
  first
   | (rw [zg (by omega)];rfl)
   | (rw [zb (by omega),zg (by omega)];rfl)
   | (rw [zb (by omega),zb (by omega)];rfl)
set_option maxRecDepth 100000 in
theorem keys_or1 (a b:Int) (ha:a≠0) (β : Nat) (W:World) (h0:W.cell? ⟨β,0,none⟩=some (.int .i64 a)) :
  Calls Tryz.prog 254 #[.slice (some ⟨β,0,none⟩) 2 2] W fun e w'=>e = .returned (.int .i64 a)/\w'=W:=by
 have ha2:(a != 0)=true:=by simpa using ha
 have mixed:=Tryz.checked.mixed
 have t3:=Tryz.underlying3;have a3:=Tryz.isAgg3;have z3:=Tryz.sizeOf3;have v3:=Tryz.zeroValue3
 have t4:=Tryz.underlying4;have a4:=Tryz.isAgg4;have z4:=Tryz.sizeOf4;have v4:=Tryz.zeroValue4
 have t22:=Tryz.underlying29;have a22:=Tryz.isAgg29;have z22:=Tryz.sizeOf29;have v22:=Tryz.zeroValue29
 go_enter Tryz.func254,Tryz.ntmps254
 go_wp2
 refine wp_loop_rounds 3 ?_
 rw [rounds_succ]
 go_wp2
 go_ret
 exact ⟨rfl,rfl⟩
set_option maxRecDepth 100000 in
theorem keys_or0 (b:Int) (β : Nat) (W:World) (h0:W.cell? ⟨β,0,none⟩=some (.int .i64 0)) (h1:W.cell? ⟨β,1,none⟩=some (.int .i64 b)) :
  Calls Tryz.prog 254 #[.slice (some ⟨β,0,none⟩) 2 2] W fun e w'=>e = .returned (.int .i64 b)/\w'=W:=by
 have mixed:=Tryz.checked.mixed
 have t3:=Tryz.underlying3;have a3:=Tryz.isAgg3;have z3:=Tryz.sizeOf3;have v3:=Tryz.zeroValue3
 have t4:=Tryz.underlying4;have a4:=Tryz.isAgg4;have z4:=Tryz.sizeOf4;have v4:=Tryz.zeroValue4
 have t22:=Tryz.underlying29;have a22:=Tryz.isAgg29;have z22:=Tryz.sizeOf29;have v22:=Tryz.zeroValue29
 go_enter Tryz.func254,Tryz.ntmps254
 go_wp2
 refine wp_loop_rounds 3 ?_
 rw [rounds_succ]
 go_wp2
 rw [rounds_succ]
 go_wp2
 ·go_ret
  exact ⟨rfl,rfl⟩
 ·rename_i hb
  obtain rfl:b=0:=by simpa using hb
  rw [rounds_succ]
  go_wp2
  go_ret
  exact ⟨rfl,rfl⟩
theorem jkN (W:World) (A B C:Obj):(((W.alloc A).alloc B).alloc C).drew=grow (W.drewN 1) #[A,B,C]:=by
 rw [alloc_eq_grow,alloc_eq_grow,alloc_eq_grow,grow_grow,grow_grow];rfl
theorem jef {w:World} {c:Array Value} {e:TypeId} {k b:Nat} {v:Value} (hb:b=w.heap.size) (h:c[k]?=some v):(w.alloc (.cells c e)).cell? ⟨b,k,none⟩=some v:=by
 subst hb
 rw [Lib.cell_of_heap (heap_alloc_last w _)]
 exact h
theorem jee {w:World} {c:Array Value} {e:TypeId} {k b:Nat} {v:Value} (hb:b=w.heap.size) (h:c[k]?=some v):(w.alloc (.cells c e)).drew.cell? ⟨b,k,none⟩=some v:=jef hb h
theorem keys_or (a b r:Int) (hr1:a≠0->r=a) (hr0:a=0->r=b) (β : Nat) (W:World) (h0:W.cell? ⟨β,0,none⟩=some (.int .i64 a)) (h1:W.cell? ⟨β,1,none⟩=some (.int .i64 b)) :
  Calls Tryz.prog 254 #[.slice (some ⟨β,0,none⟩) 2 2] W fun e w'=>e = .returned (.int .i64 r)/\w'=W:=by
 by_cases ha:a=0
 ·subst ha
  rw [hr0 rfl]
  exact keys_or0 b β W h0 h1
 ·rw [hr1 ha]
  exact keys_or1 a b ha β W h0
set_option maxRecDepth 100000 in
theorem keys_cmp (x y:Int × Int) (W:World):Calls Tryz.prog 417 #[.agg #[.int .i64 x.1,.int .i64 x.2],.agg #[.int .i64 y.1,.int .i64 y.2]] W fun e w'=>e = .returned (.int .i64 (Am.kCmp x y)) /\ ∃ q os',w'=grow (W.drewN q) os':=by
 have mixed:=Tryz.checked.mixed
 have t3:=Tryz.underlying3;have a3:=Tryz.isAgg3;have z3:=Tryz.sizeOf3;have v3:=Tryz.zeroValue3
 have t4:=Tryz.underlying4;have a4:=Tryz.isAgg4;have z4:=Tryz.sizeOf4;have v4:=Tryz.zeroValue4
 have t22:=Tryz.underlying29;have a22:=Tryz.isAgg29;have z22:=Tryz.sizeOf29;have v22:=Tryz.zeroValue29
 have t270:=Tryz.underlying514;have a270:=Tryz.isAgg514;have z270:=Tryz.sizeOf514;have v270:=Tryz.zeroValue514
 obtain ⟨x1,x2⟩:=x
 obtain ⟨y1,y2⟩:=y
 have e1 : ∀ W',Calls Tryz.prog 256 #[.int .i64 x1,.int .i64 y1] W' fun e w'=>e = .returned (.int .i64 (Lib.compareInt x1 y1))/\w'=W':=jdx x1 y1
 have e2 : ∀ W',Calls Tryz.prog 256 #[.int .i64 x2,.int .i64 y2] W' fun e w'=>e = .returned (.int .i64 (Lib.compareInt x2 y2))/\w'=W':=jdx x2 y2
 have hr1:Lib.compareInt x1 y1≠0->Am.kCmp (x1,x2) (y1,y2)=Lib.compareInt x1 y1:=fun h=>zb h
 have hr0:Lib.compareInt x1 y1=0->Am.kCmp (x1,x2) (y1,y2)=Lib.compareInt x2 y2:=fun h=>zg h
 generalize Lib.compareInt x1 y1=c1 at e1 hr1 hr0
 generalize Lib.compareInt x2 y2=c2 at e2 hr0
 have e3:=fun β W'=>keys_or c1 c2 _ hr1 hr0 β W'
 generalize Am.kCmp (x1,x2) (y1,y2)=r at e3 hr1 hr0 ⊢
 clear hr1 hr0
 go_enter Tryz.func417,Tryz.ntmps417
 go_wp2
 go_region_with (first
  | (go_at_call_of 256 (Value.int IntKind.i64 x1);refine (e1 _).mono ?_;rintro e w' ⟨rfl,rfl⟩)
  | (go_at_call_of 256 (Value.int IntKind.i64 x2);refine (e2 _).mono ?_;rintro e w' ⟨rfl,rfl⟩)
  | (go_at_call 254;refine (e3 _ _ (jee (by simp) rfl) (jee (by simp) rfl)).mono ?_;rintro e w' ⟨rfl,rfl⟩))
 all_goals
  go_wp2
  go_ret
  exact ⟨rfl,1,_,jkN W _ _ _⟩
end Go.Proofs
