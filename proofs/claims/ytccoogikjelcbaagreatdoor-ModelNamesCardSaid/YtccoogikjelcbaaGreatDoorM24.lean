/- Our own library, part 24. -/
import Derived.Test.YtccoogikjelcbaaGreatDoorProg
import Derived.Test.YtccoogikjelcbaaGreatDoorM14
import Derived.Test.YtccoogikjelcbaaGreatDoorM13
set_option maxHeartbeats 8000000
set_option maxRecDepth 800
set_option linter.all false
namespace Go.Proofs
open Go.Shelf Go.RowKit Go.Sort
def Tryz.laysJoin_ren:Go.Shelf.Ren:=⟨fun | 156=>73 | 165=>128 | 166=>129 | 169=>130 | 240=>175 | 241=>176 | 276=>222 | 277=>223 | n=>n,fun | 31=>36 | 9=>9 | 3=>3 | 4=>4 | 0=>0 | 20=>20 | 72=>229 | 76=>232 | 70=>227 | 37=>69 | 75=>231 | 127=>315 | 164=>367 | 5=>5 | 80=>234 | n=>n,fun n=>n⟩
set_option maxRecDepth 100000 in
theorem Tryz.laysJoin:Go.Proofs.Lays.n156 Tryz.prog Tryz.laysJoin_ren:=by constructor<;>first|(show _=_;kernel_rfl)|(intro w;rfl)
def Tryz.laysItoa_ren:Go.Shelf.Ren:=⟨fun | 171=>71 | 243=>125 | 246=>173 | 283=>169 | 284=>170 | 285=>171 | 286=>172 | 129=>217 | 317=>216 | 318=>218 | 319=>219 | 320=>220 | 337=>251 | 338=>252 | n=>n,fun | 3=>3 | 9=>9 | 2=>2 | 4=>4 | 171=>305 | 0=>0 | 53=>41 | 37=>69 | 5=>5 | 173=>308 | 212=>362 | 51=>363 | 20=>20 | 213=>364 | 46=>311 | 232=>410 | 233=>411 | n=>n,fun | 17=>0 | 18=>2 | 19=>3 | n=>n⟩
set_option maxRecDepth 100000 in
theorem Tryz.laysItoa:Go.Proofs.LaysM.n171 Tryz.prog Tryz.laysItoa_ren:=by constructor<;>first|(show _=_;kernel_rfl)|(intro w;rfl)|(constructor<;>first|(show _=_;kernel_rfl)|(intro w;rfl))
theorem Tryz.joinX:Builder.Extra Tryz.prog Tryz.laysJoin_ren := {
 sizeBuilder:=by kernel_rfl,
 liesBuilder:=by kernel_rfl,
 t5:=Tryz.underlying5,
 a5:=Tryz.isAgg5,
 z5:=Tryz.sizeOf5,
 v5:=Tryz.zeroValue5,
 infoByte:=by kernel_rfl,
 cellsByte:=by kernel_rfl,
 sizeByte:=by kernel_rfl,
 neB5:=by decide }
theorem fin0 (w:World) (o:Go.Obj) (dk:Array UInt8) (k:Nat) : ∃ os,(putRow (fun (b:UInt8)=>Value.int .u8 (b.toNat:Int)) (w.alloc o) w.heap.size 0 dk).drewN k=grow (w.drewN k) os:=by
 rw [alloc_eq_grow]
 obtain ⟨os',_,e⟩:=putRow_grow_new (fun (b:UInt8)=>Value.int .u8 (b.toNat:Int)) w #[o] w.heap.size 0 dk (zn _)
 exact ⟨os',by rw [e];rfl⟩
set_option maxRecDepth 100000 in
theorem jhK (u:Nat) (hu64:u<18446744073709551616) (w:World) (htab:100<=u->Am.Pows 0 w) :
  Calls Tryz.prog 124 #[.int .u64 u,.int .i64 10] w fun e w'=>e = .returned (.string ⟨(Lib.decDigits u).toArray⟩) /\ ∃ k os,w'=grow (w.drewN k) os:=by
 have L:=Tryz.laysItoa
 have mixed:=L.mixed
 have t2:=Tryz.underlying2;have a2:=Tryz.isAgg2;have z2:=Tryz.sizeOf2;have v2:=Tryz.zeroValue2
 have t3:=Tryz.underlying3;have a3:=Tryz.isAgg3;have z3:=Tryz.sizeOf3;have v3:=Tryz.zeroValue3
 have t9:=Tryz.underlying9;have a9:=Tryz.isAgg9;have z9:=Tryz.sizeOf9;have v9:=Tryz.zeroValue9
 have t4:=Tryz.underlying4;have a4:=Tryz.isAgg4;have z4:=Tryz.sizeOf4;have v4:=Tryz.zeroValue4
 have t171:=Tryz.underlying305;have a171:=Tryz.isAgg305;have z171:=Tryz.sizeOf305;have v171:=Tryz.zeroValue305
 have t0:=Tryz.underlying0;have a0:=Tryz.isAgg0;have z0:=Tryz.sizeOf0;have v0:=Tryz.zeroValue0
 have t53:=Tryz.underlying41;have a53:=Tryz.isAgg41;have z53:=Tryz.sizeOf41;have v53:=Tryz.zeroValue41
 have t37:=Tryz.underlying69;have a37:=Tryz.isAgg69;have z37:=Tryz.sizeOf69;have v37:=Tryz.zeroValue69
 have t5:=Tryz.underlying5;have a5:=Tryz.isAgg5;have z5:=Tryz.sizeOf5;have v5:=Tryz.zeroValue5
 have t173:=Tryz.underlying308;have a173:=Tryz.isAgg308;have z173:=Tryz.sizeOf308;have v173:=Tryz.zeroValue308
 have e283 : ∀ args w,(callFunc 169 args).run Tryz.prog w = .ok (.enter 169 args) w:=enters_of L.f283 (by kernel_rfl) rfl
 have e284 : ∀ args w,(callFunc 170 args).run Tryz.prog w = .ok (.enter 170 args) w:=enters_of L.f284 (by kernel_rfl) rfl
 have e285 : ∀ args w,(callFunc 171 args).run Tryz.prog w = .ok (.enter 171 args) w:=enters_of L.f285 (by kernel_rfl) rfl
 have hto:((u:Int)).toNat=u:=by omega
 by_cases hs:u<100
 ·have hwr:IntKind.i64.wrap (u:Int)=(u:Int):=by rw [IntKind.wrap_i64];omega
  go_enter Tryz.func124,Tryz.ntmps124
  go_wp2_with (go_at_call 169;refine (Any.internal_strconv_small (P:=Tryz.prog) (ρ := Tryz.laysItoa_ren) { L with } u hs _).mono ?_;rintro e w' ⟨rfl,rfl⟩)
  go_ret
  exact ⟨rfl,0,#[],by simp [World.drewN_zero]⟩
 ·have htab:=htab (by omega)
  have hu1:1<=u:=by omega
  have hnd20:Lib.nDigits u<=20:=by have:=Lib.numDigits_eq u hu1 hu64;split at this<;>omega
  have hb3:Lib.nDigits u<=24:=by omega
  have hal:Tryz.prog.arrayLen 305=24:=by simp [Program.arrayLen,Tryz.underlying305]
  have hsl1 : ∀ W,(Instr.sliceAt 305 (.pointer (some ⟨w.heap.size,0,none⟩)) none (some (.int .i64 (Lib.nDigits u:Int))) none).run Tryz.prog W = .ok (.slice (some ⟨w.heap.size,0,none⟩) (Lib.nDigits u) 24) W:=fun W=>by
   rw [run_sliceAt_array_h W 305 ⟨w.heap.size,0,none⟩ (by simp [Program.arrayLen,Program.elem,Tryz.underlying305]) .i64 (Lib.nDigits u:Int) (by omega) (by rw [hal];omega)]
   go_simp
  have hH0:Holds (fun (b:UInt8)=>Value.int .u8 (b.toNat:Int)) (w.alloc (.cells Lib.zeros24 305)) w.heap.size 0 (Array.replicate (Lib.nDigits u) 0):=Lib.holds_zero0 w _ _ hb3
  have hfmt:=Any.internal_strconv_formatBase10 (P:=Tryz.prog) (ρ := Tryz.laysItoa_ren) { L with } w.heap.size 0 24 u (Array.replicate (Lib.nDigits u) 0) (w.alloc (.cells Lib.zeros24 305)) hH0 (by rw [Array.size_replicate];exact Lib.lt_pow_nDigits u) hu64 (by rw [Array.size_replicate];omega)
  rw [Array.size_replicate] at hfmt
  have HH0:=Lib.hid hH0
  clear hH0 hal
  go_enter Tryz.func124,Tryz.ntmps124
  go_wp2_with (first
   | (go_at_call 170;refine (Am.jdW (P:=Tryz.prog) (ρ := Tryz.laysItoa_ren) { L with } u hu1 hu64 _ (htab.alloc _)).mono ?_;rintro e w' ⟨rfl,rfl⟩))
  go_at_call 171
  refine hfmt.mono ?_
  rintro e w' ⟨rfl,k,v',dk,rfl,hF⟩
  have hcv:(convert 69 9 (.slice (some ⟨w.heap.size,0,none⟩) (Lib.nDigits u) 24)).run Tryz.prog ((putRow (fun (b:UInt8)=>Value.int .u8 (b.toNat:Int)) (w.alloc (.cells Lib.zeros24 305)) w.heap.size 0 dk).drewN k) = .ok (.string ⟨(Lib.decDigits u).toArray⟩) ((putRow (fun (b:UInt8)=>Value.int .u8 (b.toNat:Int)) (w.alloc (.cells Lib.zeros24 305)) w.heap.size 0 dk).drewN k):=by
   have h:=run_convert_bytes_back (P:=Tryz.prog) ((putRow (fun (b:UInt8)=>Value.int .u8 (b.toNat:Int)) (w.alloc (.cells Lib.zeros24 305)) w.heap.size 0 dk).drewN k) 69 9 5 ⟨w.heap.size,0,none⟩ 24 (Lib.decDigits u) Tryz.underlying69 Tryz.underlying5 Tryz.underlying9 (fun j hj=>by
    rw [Lib.row_is_numeral hF j hj,Lib.add_plain,World.cell?_drewN]
    exact cell?_putRow (fun (b:UInt8)=>Value.int .u8 (b.toNat:Int)) _ w.heap.size 0 _ dk HH0.out (by rw [hF.size,Array.size_replicate]) j (by rw [hF.size];rw [Lib.decDigits_length] at hj;exact hj))
   rw [Lib.decDigits_length] at h
   exact h
  go_wp2
  go_ret
  obtain ⟨os,eo⟩:=fin0 w (.cells Lib.zeros24 305) dk k
  exact ⟨rfl,k,os,eo⟩
set_option maxRecDepth 100000 in
theorem jhJ (u:Nat) (hu64:u<18446744073709551616) (w:World) (htab:100<=u->Am.Pows 0 w) :
  Calls Tryz.prog 70 #[.int .u64 u,.int .i64 10] w fun e w'=>e = .returned (.string ⟨(Lib.decDigits u).toArray⟩) /\ ∃ k os,w'=grow (w.drewN k) os:=by
 have L:=Tryz.laysItoa
 have mixed:=L.mixed
 have t2:=Tryz.underlying2;have a2:=Tryz.isAgg2;have z2:=Tryz.sizeOf2;have v2:=Tryz.zeroValue2
 have t3:=Tryz.underlying3;have a3:=Tryz.isAgg3;have z3:=Tryz.sizeOf3;have v3:=Tryz.zeroValue3
 have t9:=Tryz.underlying9;have a9:=Tryz.isAgg9;have z9:=Tryz.sizeOf9;have v9:=Tryz.zeroValue9
 have t4:=Tryz.underlying4;have a4:=Tryz.isAgg4;have z4:=Tryz.sizeOf4;have v4:=Tryz.zeroValue4
 have t171:=Tryz.underlying305;have a171:=Tryz.isAgg305;have z171:=Tryz.sizeOf305;have v171:=Tryz.zeroValue305
 have t0:=Tryz.underlying0;have a0:=Tryz.isAgg0;have z0:=Tryz.sizeOf0;have v0:=Tryz.zeroValue0
 have t53:=Tryz.underlying41;have a53:=Tryz.isAgg41;have z53:=Tryz.sizeOf41;have v53:=Tryz.zeroValue41
 have t37:=Tryz.underlying69;have a37:=Tryz.isAgg69;have z37:=Tryz.sizeOf69;have v37:=Tryz.zeroValue69
 have t5:=Tryz.underlying5;have a5:=Tryz.isAgg5;have z5:=Tryz.sizeOf5;have v5:=Tryz.zeroValue5
 have t173:=Tryz.underlying308;have a173:=Tryz.isAgg308;have z173:=Tryz.sizeOf308;have v173:=Tryz.zeroValue308
 have ei : ∀ args w,(callFunc 124 args).run Tryz.prog w = .ok (.enter 124 args) w:=enters_of Tryz.func124 (by kernel_rfl) rfl
 go_enter Tryz.func70,Tryz.ntmps70
 go_wp2_with (go_at_call 124;refine (jhK u hu64 _ htab).mono ?_;rintro e w' ⟨rfl,k,os,rfl⟩)
 go_ret
 exact ⟨rfl,k,os,rfl⟩
set_option maxRecDepth 100000 in
theorem primOk70:Am.jby Tryz.prog Am.Sigs.cx 70 (Am.jiG 0):=Am.pFmtU_ok (enters_of Tryz.func70 (by kernel_rfl) rfl) (by rfl) jhJ
set_option maxRecDepth 100000 in
theorem primOk71:Am.jby Tryz.prog Am.Sigs.cx 71 (Am.jiF 0):=Am.pItoa_ok Tryz.laysItoa (by rfl)
set_option maxRecDepth 100000 in
theorem primOk73:Am.jby Tryz.prog Am.Sigs.cx 73 (Am.jiE):=Am.pJoin_ok Tryz.laysJoin Tryz.joinX
set_option maxRecDepth 100000 in
theorem primOk286:Am.jby Tryz.prog Am.Sigs.cx 286 (Am.jb0):=Am.jfT ⟨_,Tryz.func286,by kernel_rfl,by kernel_rfl,by kernel_rfl,by kernel_rfl⟩
theorem Am.Sigs.primsOkT:Am.jbg Tryz.prog Am.Sigs.cx Am.Sigs.jaG:=Am.jbg.of (List.forall_mem_cons.2 ⟨primOk70,List.forall_mem_cons.2 ⟨primOk71,List.forall_mem_cons.2 ⟨primOk73,List.forall_mem_cons.2 ⟨primOk286,fun _ h=>nomatch h⟩⟩⟩⟩)
end Go.Proofs
