/- Our own library, part 17. -/
import Derived.Test.YtfajaihbhmbpnaaGreatDoorProg
import Derived.Test.YtfajaihbhmbpnaaGreatDoorZ15
import Derived.Test.YtfajaihbhmbpnaaGreatDoorZ14
set_option maxHeartbeats 8000000
set_option maxRecDepth 800
set_option linter.all false
namespace Go.Proofs
open Go.Shelf Go.RowKit Go.Sort
def Tryz.laysJoin_ren:Go.Shelf.Ren:=⟨fun | 156=>67 | 165=>101 | 166=>31 | 169=>33 | 240=>64 | 241=>125 | 276=>98 | 277=>150 | n=>n,fun | 31=>104 | 9=>9 | 3=>3 | 4=>4 | 0=>0 | 20=>20 | 72=>65 | 76=>68 | 70=>63 | 37=>44 | 75=>67 | 127=>108 | 164=>147 | 5=>5 | 80=>71 | n=>n,fun n=>n⟩
set_option maxRecDepth 100000 in
theorem Tryz.laysJoin:Go.Proofs.Lays.n156 Tryz.prog Tryz.laysJoin_ren:=by constructor<;>first|(show _=_;kernel_rfl)|(intro w;rfl)
def Tryz.laysItoa_ren:Go.Shelf.Ren:=⟨fun | 171=>66 | 243=>100 | 246=>124 | 283=>120 | 284=>121 | 285=>122 | 286=>123 | 129=>146 | 317=>145 | 318=>147 | 319=>148 | 320=>149 | 337=>161 | 338=>162 | n=>n,fun | 3=>3 | 9=>9 | 2=>2 | 4=>4 | 171=>164 | 0=>0 | 53=>26 | 37=>44 | 5=>5 | 173=>167 | 212=>187 | 51=>188 | 20=>20 | 213=>189 | 46=>149 | 232=>207 | 233=>208 | n=>n,fun | 17=>2 | 18=>5 | 19=>6 | n=>n⟩
set_option maxRecDepth 100000 in
theorem Tryz.laysItoa:Go.Proofs.LaysM.n171 Tryz.prog Tryz.laysItoa_ren:=by constructor<;>first|(show _=_;kernel_rfl)|(intro w;rfl)|(constructor<;>first|(show _=_;kernel_rfl)|(intro w;rfl))
def Tryz.laysErr_ren:Go.Shelf.Ren:=⟨fun | 245=>105 | 279=>131 | 280=>132 | 281=>133 | 282=>134 | 316=>154 | 171=>66 | 205=>155 | 243=>100 | 246=>124 | 283=>120 | 284=>121 | 285=>122 | 286=>123 | 129=>146 | 317=>145 | 318=>147 | 319=>148 | 320=>149 | 337=>161 | 338=>162 | n=>n,fun | 9=>9 | 3=>3 | 75=>67 | 167=>171 | 4=>4 | 168=>172 | 210=>195 | 37=>44 | 0=>0 | 127=>108 | 145=>206 | 143=>204 | 2=>2 | 171=>164 | 53=>26 | 5=>5 | 173=>167 | 212=>187 | 51=>188 | 20=>20 | 213=>189 | 46=>149 | 232=>207 | 233=>208 | 80=>71 | n=>n,fun | 15=>3 | 16=>4 | 17=>2 | 18=>5 | 19=>6 | n=>n⟩
set_option maxRecDepth 100000 in
theorem Tryz.laysErr:Go.Proofs.LaysC.n245 Tryz.prog Tryz.laysErr_ren:=by constructor<;>first|(show _=_;kernel_rfl)|(intro w;rfl)|(constructor<;>first|(show _=_;kernel_rfl)|(intro w;rfl)|(constructor<;>first|(show _=_;kernel_rfl)|(intro w;rfl)))
def Tryz.laysAtoi_ren:Go.Shelf.Ren:=⟨fun | 172=>106 | 244=>135 | 245=>105 | 247=>156 | 279=>131 | 280=>132 | 281=>133 | 282=>134 | 287=>104 | 316=>154 | 171=>66 | 205=>155 | 321=>129 | 322=>130 | 243=>100 | 246=>124 | 283=>120 | 284=>121 | 285=>122 | 286=>123 | 129=>146 | 317=>145 | 318=>147 | 319=>148 | 320=>149 | 337=>161 | 338=>162 | n=>n,fun | 9=>9 | 3=>3 | 75=>67 | 76=>68 | 4=>4 | 5=>5 | 167=>171 | 37=>44 | 0=>0 | 85=>197 | 2=>2 | 168=>172 | 53=>26 | 175=>112 | 46=>149 | 210=>195 | 127=>108 | 145=>206 | 143=>204 | 21=>21 | 171=>164 | 173=>167 | 212=>187 | 51=>188 | 20=>20 | 213=>189 | 232=>207 | 233=>208 | 80=>71 | n=>n,fun | 15=>3 | 16=>4 | 17=>2 | 18=>5 | 19=>6 | n=>n⟩
set_option maxRecDepth 100000 in
theorem Tryz.laysAtoi:Go.Proofs.LaysC.n172 Tryz.prog Tryz.laysAtoi_ren:=by constructor<;>first|(show _=_;kernel_rfl)|(intro w;rfl)|(constructor<;>first|(show _=_;kernel_rfl)|(intro w;rfl)|(constructor<;>first|(show _=_;kernel_rfl)|(intro w;rfl)))
theorem Tryz.joinX:Builder.Extra Tryz.prog Tryz.laysJoin_ren := {
 sizeBuilder:=by kernel_rfl,
 liesBuilder:=by kernel_rfl,
 t5:=Tryz.underlying5,
 a5:=Tryz.isAgg5,
 z5:=Tryz.sizeOf5,
 v5:=Tryz.zeroValue5,
 infoByte:=by kernel_rfl,
 cellsByte:=by kernel_rfl,
 sizeByte:=by kernel_rfl,
 neB5:=by decide }
theorem fin0 (w:World) (o:Go.Obj) (dk:Array UInt8) (k:Nat) : ∃ os,(putRow (fun (b:UInt8)=>Value.int .u8 (b.toNat:Int)) (w.alloc o) w.heap.size 0 dk).drewN k=grow (w.drewN k) os:=by
 rw [alloc_eq_grow]
 obtain ⟨os',_,e⟩:=putRow_grow_new (fun (b:UInt8)=>Value.int .u8 (b.toNat:Int)) w #[o] w.heap.size 0 dk (zn _)
 exact ⟨os',by rw [e];rfl⟩
set_option maxRecDepth 100000 in
theorem jeq (u:Nat) (hu64:u<18446744073709551616) (w:World) (htab:100<=u->Am.Pows 2 w) :
  Calls Tryz.prog 99 #[.int .u64 u,.int .i64 10] w fun e w'=>e = .returned (.string ⟨(Lib.decDigits u).toArray⟩) /\ ∃ k os,w'=grow (w.drewN k) os:=by
 have L:=Tryz.laysItoa
 have mixed:=L.mixed
 have t2:=Tryz.underlying2;have a2:=Tryz.isAgg2;have z2:=Tryz.sizeOf2;have v2:=Tryz.zeroValue2
 have t3:=Tryz.underlying3;have a3:=Tryz.isAgg3;have z3:=Tryz.sizeOf3;have v3:=Tryz.zeroValue3
 have t9:=Tryz.underlying9;have a9:=Tryz.isAgg9;have z9:=Tryz.sizeOf9;have v9:=Tryz.zeroValue9
 have t4:=Tryz.underlying4;have a4:=Tryz.isAgg4;have z4:=Tryz.sizeOf4;have v4:=Tryz.zeroValue4
 have t171:=Tryz.underlying164;have a171:=Tryz.isAgg164;have z171:=Tryz.sizeOf164;have v171:=Tryz.zeroValue164
 have t0:=Tryz.underlying0;have a0:=Tryz.isAgg0;have z0:=Tryz.sizeOf0;have v0:=Tryz.zeroValue0
 have t53:=Tryz.underlying26;have a53:=Tryz.isAgg26;have z53:=Tryz.sizeOf26;have v53:=Tryz.zeroValue26
 have t37:=Tryz.underlying44;have a37:=Tryz.isAgg44;have z37:=Tryz.sizeOf44;have v37:=Tryz.zeroValue44
 have t5:=Tryz.underlying5;have a5:=Tryz.isAgg5;have z5:=Tryz.sizeOf5;have v5:=Tryz.zeroValue5
 have t173:=Tryz.underlying167;have a173:=Tryz.isAgg167;have z173:=Tryz.sizeOf167;have v173:=Tryz.zeroValue167
 have e283 : ∀ args w,(callFunc 120 args).run Tryz.prog w = .ok (.enter 120 args) w:=enters_of L.f283 (by kernel_rfl) rfl
 have e284 : ∀ args w,(callFunc 121 args).run Tryz.prog w = .ok (.enter 121 args) w:=enters_of L.f284 (by kernel_rfl) rfl
 have e285 : ∀ args w,(callFunc 122 args).run Tryz.prog w = .ok (.enter 122 args) w:=enters_of L.f285 (by kernel_rfl) rfl
 have hto:((u:Int)).toNat=u:=by omega
 by_cases hs:u<100
 ·have hwr:IntKind.i64.wrap (u:Int)=(u:Int):=by rw [IntKind.wrap_i64];omega
  go_enter Tryz.func99,Tryz.ntmps99
  go_wp2_with (go_at_call 120;refine (Any.internal_strconv_small (P:=Tryz.prog) (ρ := Tryz.laysItoa_ren) { L with } u hs _).mono ?_;rintro e w' ⟨rfl,rfl⟩)
  go_ret
  exact ⟨rfl,0,#[],by simp [World.drewN_zero]⟩
 ·have htab:=htab (by omega)
  have hu1:1<=u:=by omega
  have hnd20:Lib.nDigits u<=20:=by have:=Lib.numDigits_eq u hu1 hu64;split at this<;>omega
  have hb3:Lib.nDigits u<=24:=by omega
  have hal:Tryz.prog.arrayLen 164=24:=by simp [Program.arrayLen,Tryz.underlying164]
  have hsl1 : ∀ W,(Instr.sliceAt 164 (.pointer (some ⟨w.heap.size,0,none⟩)) none (some (.int .i64 (Lib.nDigits u:Int))) none).run Tryz.prog W = .ok (.slice (some ⟨w.heap.size,0,none⟩) (Lib.nDigits u) 24) W:=fun W=>by
   rw [run_sliceAt_array_h W 164 ⟨w.heap.size,0,none⟩ (by simp [Program.arrayLen,Program.elem,Tryz.underlying164]) .i64 (Lib.nDigits u:Int) (by omega) (by rw [hal];omega)]
   go_simp
  have hH0:Holds (fun (b:UInt8)=>Value.int .u8 (b.toNat:Int)) (w.alloc (.cells Lib.zeros24 164)) w.heap.size 0 (Array.replicate (Lib.nDigits u) 0):=Lib.holds_zero0 w _ _ hb3
  have hfmt:=Any.internal_strconv_formatBase10 (P:=Tryz.prog) (ρ := Tryz.laysItoa_ren) { L with } w.heap.size 0 24 u (Array.replicate (Lib.nDigits u) 0) (w.alloc (.cells Lib.zeros24 164)) hH0 (by rw [Array.size_replicate];exact Lib.lt_pow_nDigits u) hu64 (by rw [Array.size_replicate];omega)
  rw [Array.size_replicate] at hfmt
  have HH0:=Lib.hid hH0
  clear hH0 hal
  go_enter Tryz.func99,Tryz.ntmps99
  go_wp2_with (first
   | (go_at_call 121;refine (Am.jcB (P:=Tryz.prog) (ρ := Tryz.laysItoa_ren) { L with } u hu1 hu64 _ (htab.alloc _)).mono ?_;rintro e w' ⟨rfl,rfl⟩))
  go_at_call 122
  refine hfmt.mono ?_
  rintro e w' ⟨rfl,k,v',dk,rfl,hF⟩
  have hcv:(convert 44 9 (.slice (some ⟨w.heap.size,0,none⟩) (Lib.nDigits u) 24)).run Tryz.prog ((putRow (fun (b:UInt8)=>Value.int .u8 (b.toNat:Int)) (w.alloc (.cells Lib.zeros24 164)) w.heap.size 0 dk).drewN k) = .ok (.string ⟨(Lib.decDigits u).toArray⟩) ((putRow (fun (b:UInt8)=>Value.int .u8 (b.toNat:Int)) (w.alloc (.cells Lib.zeros24 164)) w.heap.size 0 dk).drewN k):=by
   have h:=run_convert_bytes_back (P:=Tryz.prog) ((putRow (fun (b:UInt8)=>Value.int .u8 (b.toNat:Int)) (w.alloc (.cells Lib.zeros24 164)) w.heap.size 0 dk).drewN k) 44 9 5 ⟨w.heap.size,0,none⟩ 24 (Lib.decDigits u) Tryz.underlying44 Tryz.underlying5 Tryz.underlying9 (fun j hj=>by
    rw [Lib.row_is_numeral hF j hj,Lib.add_plain,World.cell?_drewN]
    exact cell?_putRow (fun (b:UInt8)=>Value.int .u8 (b.toNat:Int)) _ w.heap.size 0 _ dk HH0.out (by rw [hF.size,Array.size_replicate]) j (by rw [hF.size];rw [Lib.decDigits_length] at hj;exact hj))
   rw [Lib.decDigits_length] at h
   exact h
  go_wp2
  go_ret
  obtain ⟨os,eo⟩:=fin0 w (.cells Lib.zeros24 164) dk k
  exact ⟨rfl,k,os,eo⟩
set_option maxRecDepth 100000 in
theorem jep (u:Nat) (hu64:u<18446744073709551616) (w:World) (htab:100<=u->Am.Pows 2 w) :
  Calls Tryz.prog 65 #[.int .u64 u,.int .i64 10] w fun e w'=>e = .returned (.string ⟨(Lib.decDigits u).toArray⟩) /\ ∃ k os,w'=grow (w.drewN k) os:=by
 have L:=Tryz.laysItoa
 have mixed:=L.mixed
 have t2:=Tryz.underlying2;have a2:=Tryz.isAgg2;have z2:=Tryz.sizeOf2;have v2:=Tryz.zeroValue2
 have t3:=Tryz.underlying3;have a3:=Tryz.isAgg3;have z3:=Tryz.sizeOf3;have v3:=Tryz.zeroValue3
 have t9:=Tryz.underlying9;have a9:=Tryz.isAgg9;have z9:=Tryz.sizeOf9;have v9:=Tryz.zeroValue9
 have t4:=Tryz.underlying4;have a4:=Tryz.isAgg4;have z4:=Tryz.sizeOf4;have v4:=Tryz.zeroValue4
 have t171:=Tryz.underlying164;have a171:=Tryz.isAgg164;have z171:=Tryz.sizeOf164;have v171:=Tryz.zeroValue164
 have t0:=Tryz.underlying0;have a0:=Tryz.isAgg0;have z0:=Tryz.sizeOf0;have v0:=Tryz.zeroValue0
 have t53:=Tryz.underlying26;have a53:=Tryz.isAgg26;have z53:=Tryz.sizeOf26;have v53:=Tryz.zeroValue26
 have t37:=Tryz.underlying44;have a37:=Tryz.isAgg44;have z37:=Tryz.sizeOf44;have v37:=Tryz.zeroValue44
 have t5:=Tryz.underlying5;have a5:=Tryz.isAgg5;have z5:=Tryz.sizeOf5;have v5:=Tryz.zeroValue5
 have t173:=Tryz.underlying167;have a173:=Tryz.isAgg167;have z173:=Tryz.sizeOf167;have v173:=Tryz.zeroValue167
 have ei : ∀ args w,(callFunc 99 args).run Tryz.prog w = .ok (.enter 99 args) w:=enters_of Tryz.func99 (by kernel_rfl) rfl
 go_enter Tryz.func65,Tryz.ntmps65
 go_wp2_with (go_at_call 99;refine (jeq u hu64 _ htab).mono ?_;rintro e w' ⟨rfl,k,os,rfl⟩)
 go_ret
 exact ⟨rfl,k,os,rfl⟩
set_option maxRecDepth 100000 in
theorem primOk65:Am.ja5 Tryz.prog Am.Sigs.cx 65 (Am.jeI 2):=Am.pFmtU_ok (enters_of Tryz.func65 (by kernel_rfl) rfl) (by rfl) jep
set_option maxRecDepth 100000 in
theorem primOk66:Am.ja5 Tryz.prog Am.Sigs.cx 66 (Am.jeH 2):=Am.pItoa_ok Tryz.laysItoa (by rfl)
set_option maxRecDepth 100000 in
theorem primOk67:Am.ja5 Tryz.prog Am.Sigs.cx 67 (Am.jeG):=Am.pJoin_ok Tryz.laysJoin Tryz.joinX
set_option maxRecDepth 100000 in
theorem primOk105:Am.ja5 Tryz.prog Am.Sigs.cx 105 (Am.jch 3 4 171):=Am.pToErr_ok Tryz.laysErr (by rfl) (by rfl)
set_option maxRecDepth 100000 in
theorem primOk106:Am.ja5 Tryz.prog Am.Sigs.cx 106 (Am.jdo 3 4):=Am.pAtoi_ok Tryz.laysAtoi (by rfl) (by rfl)
set_option maxRecDepth 100000 in
theorem primOk126:Am.ja5 Tryz.prog Am.Sigs.cx 126 (Am.jaO):=Am.jdn ⟨_,Tryz.func126,by kernel_rfl,by kernel_rfl,by kernel_rfl,by kernel_rfl⟩
set_option maxRecDepth 100000 in
theorem primOk153:Am.ja5 Tryz.prog Am.Sigs.cx 153 (Am.jdb):=Am.pCount_ok ⟨_,Tryz.func153,by kernel_rfl,by kernel_rfl,by kernel_rfl,by kernel_rfl⟩
theorem Am.Sigs.primsOkT:Am.jbe Tryz.prog Am.Sigs.cx Am.Sigs.jaJ:=Am.jbe.of (List.forall_mem_cons.2 ⟨primOk65,List.forall_mem_cons.2 ⟨primOk66,List.forall_mem_cons.2 ⟨primOk67,List.forall_mem_cons.2 ⟨primOk105,List.forall_mem_cons.2 ⟨primOk106,List.forall_mem_cons.2 ⟨primOk126,List.forall_mem_cons.2 ⟨primOk153,fun _ h=>nomatch h⟩⟩⟩⟩⟩⟩⟩)
end Go.Proofs
