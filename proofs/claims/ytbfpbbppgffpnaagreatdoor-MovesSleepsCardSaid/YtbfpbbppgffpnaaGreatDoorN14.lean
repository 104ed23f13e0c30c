/- Our own library, part 14. -/
import Derived.Shelf.Strconv.Itoa3
import Derived.Lib.AppendIntMem
import Derived.Test.YtbfpbbppgffpnaaGreatDoorN13
set_option maxHeartbeats 8000000
set_option linter.all false
namespace Am
open Go Go.Proofs Go.Shelf Go.RowKit Go.Sort
def Pows (g:Nat) (w:World):Prop := ∀ i,i<20->w.cell? ⟨g,i,none⟩=some (.int .u64 ((10 ^ i:Nat):Int))
theorem Pows.alloc {g:Nat} {w:World} (h:Pows g w) (o:Go.Obj):Pows g (w.alloc o):=by
 intro i hi
 have hlt:g<w.heap.size:=by
  rcases zx g w.heap.size with h' | h'
  ·exact h'
  ·have:=h i hi
   simp [World.cell?,Array.getElem?_eq_none h'] at this
 rw [World.cell?_alloc_lt w o ⟨g,i,none⟩ hlt]
 exact h i hi
section
variable {P:Program} {ρ : Ren}
set_option maxRecDepth 100000 in
theorem jhM (L:LaysM.n284 P ρ) (u:Nat) (h1:1<=u) (h2:u<18446744073709551616) (w:World) (htab:Pows (ρ.g 17) w) :
  Calls P (ρ.f 284) #[.int .u64 u] w fun e w'=>e = .returned (.int .i64 (Lib.nDigits u))/\w'=w:=by
 have mixed:=L.mixed
 have t53:=L.t53;have a53:=L.a53;have z53:=L.z53;have v53:=L.v53
 have t3:=L.t3;have a3:=L.a3;have z3:=L.z3;have v3:=L.v3
 have t212:=L.t212;have a212:=L.a212;have z212:=L.z212;have v212:=L.v212
 have t0:=L.t0;have a0:=L.a0;have z0:=L.z0;have v0:=L.v0
 have t4:=L.t4;have a4:=L.a4;have z4:=L.z4;have v4:=L.v4
 have e129 : ∀ args w,(callFunc (ρ.f 129) args).run P w = .ok (.enter (ρ.f 129) args) w:=enters_of L.f129 (by kernel_rfl) rfl
 have e317 : ∀ args w,(callFunc (ρ.f 317) args).run P w = .ok (.enter (ρ.f 317) args) w:=enters_of L.f317 (by kernel_rfl) rfl
 have e318 : ∀ args w,(callFunc (ρ.f 318) args).run P w = .ok (.enter (ρ.f 318) args) w:=enters_of L.f318 (by kernel_rfl) rfl
 obtain ⟨hnd,h19⟩:=Lib.numDigits_eq u h1 h2
 have hL:Lib.bitLen u<=64:=Lib.bitLen_le u 64 (zq _) h2
 have hcell:w.cell? ⟨(ρ.g 17),Lib.l10 (Lib.bitLen u),none⟩=some (.int .u64 ((10 ^ Lib.l10 (Lib.bitLen u):Nat):Int)):=htab _ om
 have hto:((u:Int)).toNat=u:=by omega
 generalize hq:Lib.l10 (Lib.bitLen u)=q at hnd h19 hcell
 generalize hT:10 ^ q=T at hnd hcell
 have h20:q<20:=by omega
 have Hnd:=Lib.hid hnd
 clear hnd htab
 go_enter L.f284,Body.n284_ntmps ρ
 go_wp2_with (first
  | (go_at_fn (ρ.f 129);refine (Any.bits_Len64 { L with } _ _ om om).mono ?_;rintro e w' ⟨rfl,rfl⟩)
  | (go_at_fn (ρ.f 317);refine (Any.internal_strconv_log10Pow2 { L with } _ (by first | exact hL | (rw [hto];exact hL)) _).mono ?_;rintro e w' ⟨rfl,rfl⟩)
  | (go_at_fn (ρ.f 318);refine (Any.internal_strconv_bool2_int { L with } _ _).mono ?_;rintro e w' ⟨rfl,rfl⟩))
 all_goals go_ret
 all_goals (
  refine ⟨?_,rfl⟩
  have hnd:=Hnd.out
  congr 2
  split at hnd<;>simp_all<;>omega)
set_option maxRecDepth 100000 in
theorem jlz (L:LaysM.n246 P ρ) (u:Nat) (h1:u<=9223372036854775807) (w:World) (htab:100<=u->Pows (ρ.g 17) w) :
  Calls P (ρ.f 246) #[.int .i64 u,.int .i64 10] w fun e w'=>e = .returned (.string ⟨(Lib.decDigits u).toArray⟩) /\ ∃ k os,w'=grow (w.drewN k) os:=by
 have mixed:=L.mixed
 have t2:=L.t2;have a2:=L.a2;have z2:=L.z2;have v2:=L.v2
 have t3:=L.t3;have a3:=L.a3;have z3:=L.z3;have v3:=L.v3
 have t9:=L.t9;have a9:=L.a9;have z9:=L.z9;have v9:=L.v9
 have t4:=L.t4;have a4:=L.a4;have z4:=L.z4;have v4:=L.v4
 have t171:=L.t171;have a171:=L.a171;have z171:=L.z171;have v171:=L.v171
 have t0:=L.t0;have a0:=L.a0;have z0:=L.z0;have v0:=L.v0
 have t53:=L.t53;have a53:=L.a53;have z53:=L.z53;have v53:=L.v53
 have t37:=L.t37;have a37:=L.a37;have z37:=L.z37;have v37:=L.v37
 have t5:=L.t5;have a5:=L.a5;have z5:=L.z5;have v5:=L.v5
 have t173:=L.t173;have a173:=L.a173;have z173:=L.z173;have v173:=L.v173
 have e283 : ∀ args w,(callFunc (ρ.f 283) args).run P w = .ok (.enter (ρ.f 283) args) w:=enters_of L.f283 (by kernel_rfl) rfl
 have e284 : ∀ args w,(callFunc (ρ.f 284) args).run P w = .ok (.enter (ρ.f 284) args) w:=enters_of L.f284 (by kernel_rfl) rfl
 have e285 : ∀ args w,(callFunc (ρ.f 285) args).run P w = .ok (.enter (ρ.f 285) args) w:=enters_of L.f285 (by kernel_rfl) rfl
 by_cases hs:u<100
 ·exact (Any.internal_strconv_FormatInt_10_small { L with } u hs w).mono fun e w' ⟨q1,q2⟩=>⟨q1,0,#[],by rw [q2];simp [World.drewN_zero]⟩
 ·have htab:=htab om
  have hs' : ¬ (0<=(u:Int)/\(u:Int)<100):=by omega
  have hneg : ¬ (u:Int)<0:=by omega
  have hu1:1<=u:=by omega
  have hu64:u<18446744073709551616:=by omega
  have hnd20:Lib.nDigits u<=20:=by have:=Lib.numDigits_eq u hu1 hu64;split at this<;>omega
  have hb3:Lib.nDigits u<=23:=by omega
  have hal:P.arrayLen (ρ.t 171)=24:=by simp [Program.arrayLen,L.t171]
  have hsl1 : ∀ W,(Instr.sliceAt (ρ.t 171) (.pointer (some ⟨w.heap.size,0,none⟩)) (some (.int .i64 1)) (some (.int .i64 (1+(Lib.nDigits u:Int)))) none).run P W = .ok (.slice (some ⟨w.heap.size,1,none⟩) (Lib.nDigits u) 23) W:=fun W=>by
   rw [run_sliceAt_array_lh W (ρ.t 171) ⟨w.heap.size,0,none⟩ (by simp [Program.arrayLen,Program.elem,L.t171]) .i64 .i64 1 (1+(Lib.nDigits u:Int)) om om (by rw [hal];omega)]
   go_simp
   omega
  have hH0:=Lib.holds_zero w (ρ.t 171) (Lib.nDigits u) om
  have hfmt:=Any.internal_strconv_formatBase10 { L with } w.heap.size 1 23 u (Array.replicate (Lib.nDigits u) 0) (w.alloc (.cells Lib.zeros24 (ρ.t 171))) hH0 (by rw [Array.size_replicate];exact Lib.lt_pow_nDigits u) hu64 (by rw [Array.size_replicate];omega)
  rw [Array.size_replicate] at hfmt
  have HH0:=Lib.hid hH0
  clear hH0 hal
  go_enter L.f246,Body.n246_ntmps ρ
  go_wp2_with (first
   | (go_at_fn (ρ.f 284);refine (jhM { L with } u hu1 hu64 _ (htab.alloc _)).mono ?_;rintro e w' ⟨rfl,rfl⟩))
  go_at_fn (ρ.f 285)
  refine hfmt.mono ?_
  rintro e w' ⟨rfl,k,v',dk,rfl,hF⟩
  have hcv:(convert (ρ.t 37) (ρ.t 9) (.slice (some ⟨w.heap.size,1,none⟩) (Lib.nDigits u) 23)).run P ((putRow (fun (b:UInt8)=>Value.int .u8 (b.toNat:Int)) (w.alloc (.cells Lib.zeros24 (ρ.t 171))) w.heap.size 1 dk).drewN k) = .ok (.string ⟨(Lib.decDigits u).toArray⟩) ((putRow (fun (b:UInt8)=>Value.int .u8 (b.toNat:Int)) (w.alloc (.cells Lib.zeros24 (ρ.t 171))) w.heap.size 1 dk).drewN k):=by
   have h:=run_convert_bytes_back (P:=P) ((putRow (fun (b:UInt8)=>Value.int .u8 (b.toNat:Int)) (w.alloc (.cells Lib.zeros24 (ρ.t 171))) w.heap.size 1 dk).drewN k) (ρ.t 37) (ρ.t 9) (ρ.t 5) ⟨w.heap.size,1,none⟩ 23 (Lib.decDigits u) L.t37 L.t5 L.t9 (fun j hj=>by
    rw [Lib.row_is_numeral hF j hj,Lib.add_plain,World.cell?_drewN]
    exact cell?_putRow (fun (b:UInt8)=>Value.int .u8 (b.toNat:Int)) _ w.heap.size 1 _ dk HH0.out (by rw [hF.size,Array.size_replicate]) j (by rw [hF.size];rw [Lib.decDigits_length] at hj;exact hj))
   rw [Lib.decDigits_length] at h
   exact h
  go_wp2
  go_ret
  obtain ⟨os,eo⟩:=Lib.fin_pos w (.cells Lib.zeros24 (ρ.t 171)) dk k
  exact ⟨rfl,k,os,eo⟩
set_option maxRecDepth 100000 in
theorem itoa_w (L:LaysM.n171 P ρ) (u:Nat) (h1:u<=9223372036854775807) (w:World) (htab:100<=u->Pows (ρ.g 17) w) :
  Calls P (ρ.f 171) #[.int .i64 u] w fun e w'=>e = .returned (.string ⟨(Lib.decDigits u).toArray⟩) /\ ∃ k os,w'=grow (w.drewN k) os:=by
 have mixed:=L.mixed
 have t3:=L.t3;have a3:=L.a3;have z3:=L.z3;have v3:=L.v3
 have t9:=L.t9;have a9:=L.a9;have z9:=L.z9;have v9:=L.v9
 have t2:=L.t2;have a2:=L.a2;have z2:=L.z2;have v2:=L.v2
 have e246 : ∀ args w,(callFunc (ρ.f 246) args).run P w = .ok (.enter (ρ.f 246) args) w:=enters_of L.f246 (by kernel_rfl) rfl
 have e243 : ∀ args w,(callFunc (ρ.f 243) args).run P w = .ok (.enter (ρ.f 243) args) w:=enters_of L.f243 (by kernel_rfl) rfl
 have inner : ∀ w,(100<=u->Pows (ρ.g 17) w)->Calls P (ρ.f 243) #[.int .i64 u] w fun e w'=>e = .returned (.string ⟨(Lib.decDigits u).toArray⟩) /\ ∃ k os,w'=grow (w.drewN k) os:=by
  intro w htab
  go_enter L.f243,Body.n243_ntmps ρ
  go_wp2_with (go_at_fn (ρ.f 246);refine (jlz { L with } u h1 _ htab).mono ?_;rintro e w' ⟨rfl,k,os,rfl⟩)
  go_ret
  exact ⟨rfl,k,os,rfl⟩
 go_enter L.f171,Body.n171_ntmps ρ
 go_wp2_with (go_at_fn (ρ.f 243);refine (inner _ htab).mono ?_;rintro e w' ⟨rfl,k,os,rfl⟩)
 go_ret
 exact ⟨rfl,k,os,rfl⟩
end
def digs:Nat->Nat->List UInt8->List UInt8
 | 0,_,acc=>acc
 | k+1,u,acc=>bif Nat.blt u 10 then UInt8.ofNat (48+u) :: acc else digs k (u/10) (UInt8.ofNat (48+u%10) :: acc)
theorem job : ∀ (k u:Nat) (acc:List UInt8),u<10 ^ k->0<k->digs k u acc=Lib.decDigits u++acc
 | 0,_,_,_,h=>by omega
 | k+1,u,acc,hu,_=>by
  unfold digs
  rw [Lib.decDigits]
  by_cases h:u<10
  ·have:Nat.blt u 10=true:=by simp [Nat.blt];omega
   rw [this,dif_pos h];rfl
  ·have:Nat.blt u 10=false:=by cases e:Nat.blt u 10 with
    | false=>rfl
    | true=>simp [Nat.blt] at e;omega
   rw [this,dif_neg h,cond_false]
   have hk:0<k:=by
    rcases Nat.eq_zero_or_pos k with rfl | h'
    ·simp at hu;omega
    ·exact h'
   rw [job k (u/10) _ (by rw [Nat.pow_succ] at hu;omega) hk,List.append_assoc];rfl
abbrev dec (u:Nat):List UInt8:=digs 20 u []
theorem jkN {u:Nat} (h:u<18446744073709551616):dec u=Lib.decDigits u:=by
 rw [dec,job 20 u [] om om,List.append_nil]
def jkw:Nat->Nat->List V->Bool
 | 0,_,_=>true
 | k+1,p,.int .u64 n :: r=>(n == (p:Int))&&jkw k (p*10) r
 | _,_,_=>false
theorem jkv : ∀ {k p:Nat} {l:List V},jkw k p l=true -> ∀ i,i<k->l[i]?=some (.int .u64 ((p*10 ^ i:Nat):Int))
 | 0,_,_,_,i,hi=>by omega
 | k+1,p,[],h,_,_=>by simp [jkw] at h
 | k+1,p,v :: r,h,i,hi=>by
  unfold jkw at h
  split at h
  ·next e _=>omega
  ·next k' p' n r' e1 e2=>
   cases e1;cases e2
   simp only [zp,beq_iff_eq] at h
   cases i with
   | zero=>simp [h.1]
   | succ i=>
    have:=jkv h.2 i om
    rw [List.getElem?_cons_succ,this,Nat.pow_succ,Nat.mul_assoc,Nat.mul_comm 10]
  ·cases h
def jc4 (g u:Nat) (h:H):Option (V × H) :=
 bif Nat.blt u 100 then some (.str (dec u),h) else
  match h.get g with
  | some (.cells l _)=>bif jkw 20 1 l then some (.str (dec u),h) else none
  | _=>none
def jkz (g:Nat):Prim
 | [.int .i64 (.ofNat u)],h=>bif Nat.ble u 9223372036854775807 then jc4 g u h else none
 | _,_=>none
def jk1 (g:Nat):Prim
 | [.int .u64 (.ofNat u),.int .i64 (.ofNat 10)],h=>bif Nat.ble u 18446744073709551615 then jc4 g u h else none
 | _,_=>none
theorem jfN {g u:Nat} {h h':H} {v:V} (hr:jc4 g u h=some (v,h')):h'=h/\v = .str (dec u) /\ ∀ X h2,Ext X h h2->jc4 g u h2=some (v,h2):=by
 unfold jc4 at hr
 cases hc:Nat.blt u 100 with
 | true=>
  rw [hc] at hr;cases hr
  exact ⟨rfl,rfl,fun X h2 x=>by simp only [jc4,hc,cond_true]⟩
 | false=>
  rw [hc] at hr
  dsimp only [cond_false] at hr
  split at hr
  ·next l ro hg=>
   cases hp:jkw 20 1 l with
   | false=>rw [hp] at hr;cases hr
   | true=>
    rw [hp] at hr;cases hr
    exact ⟨rfl,rfl,fun X h2 x=>by simp only [jc4,hc,cond_false,jmm x hg,hp,cond_true]⟩
  ·cases hr
theorem jiU {P:Program} {C:Cx} {m:Mp} {w:World} {g u:Nat} {h h':H} {v:V} (hR:HRel P C m h w) (hG:GOk C m) (hgl:C.gl.any (Nat.beq g)=true) (hr:jc4 g u h=some (v,h')) (hu:100<=u):Pows g w:=by
 unfold jc4 at hr
 have hc:Nat.blt u 100=false:=by cases e:Nat.blt u 100 with
  | false=>rfl
  | true=>simp [Nat.blt] at e;omega
 rw [hc] at hr
 dsimp only [cond_false] at hr
 split at hr
 ·next l ro hg=>
  cases hp:jkw 20 1 l with
  | false=>rw [hp] at hr;cases hr
  | true=>
   intro i hi
   obtain ⟨lc,h1,h2,h3⟩:=hG g hgl
   obtain ⟨l2,co,q1,q2,ce,elem,lo,hi',q3,q4,q5,q6,q7⟩:=hR.obj _ _ hg
   rw [h1] at q1;cases q1
   subst q3
   rw [h2] at q2
   obtain ⟨x,q8,q9⟩:=q6 _ _ (jkv hp i hi)
   obtain rfl:x=_:=q9
   rw [jcO q2,<- Nat.zero_add i,<- h3,q8,Nat.one_mul,h3,Nat.zero_add]
 ·cases hr
theorem pItoa_F (g:Nat):joh (jkz g):=by
 intro args h v h' hr
 unfold jkz at hr
 split at hr
 ·next u=>
  cases hc:Nat.ble u 9223372036854775807 with
  | false=>rw [hc] at hr;cases hr
  | true=>
   rw [hc,cond_true] at hr
   obtain ⟨rfl,-,hF⟩:=jfN hr
   exact ⟨zq _,fun X h2 x=>⟨h2,by simp only [jkz,hc,cond_true,hF X h2 x],x⟩⟩
 ·cases hr
theorem pFmtU_F (g:Nat):joh (jk1 g):=by
 intro args h v h' hr
 unfold jk1 at hr
 split at hr
 ·next u=>
  cases hc:Nat.ble u 18446744073709551615 with
  | false=>rw [hc] at hr;cases hr
  | true=>
   rw [hc,cond_true] at hr
   obtain ⟨rfl,-,hF⟩:=jfN hr
   exact ⟨zq _,fun X h2 x=>⟨h2,by simp only [jk1,hc,cond_true,hF X h2 x],x⟩⟩
 ·cases hr
theorem pItoa_ok {P:Program} {C:Cx} {ρ : Ren} (L:LaysM.n171 P ρ) (hgl:C.gl.any (Nat.beq (ρ.g 17))=true):jfd P C (ρ.f 171) (jkz (ρ.g 17)):=by
 refine jhH (enters_of L.f171 (by kernel_rfl) rfl) ?_
 intro args h v h' hr m w xs hR hG hx
 unfold jkz at hr
 split at hr
 ·next u=>
  cases hc:Nat.ble u 9223372036854775807 with
  | false=>rw [hc] at hr;cases hr
  | true=>
   rw [hc,cond_true] at hr
   obtain ⟨rfl,rfl,-⟩:=jfN hr
   obtain ⟨x1,r1,e1,h1,e2⟩:=hx
   obtain rfl:r1=[]:=e2
   obtain rfl:x1=_:=h1
   obtain ⟨l'⟩:=xs
   obtain rfl:l'=_:=e1
   have hu:u<=9223372036854775807:=by simpa using hc
   refine ⟨rfl,.string ⟨⟨dec u⟩⟩,rfl,(itoa_w L u hu w (jiU hR hG hgl hr)).mono ?_⟩
   rintro e w' ⟨rfl,k,os,rfl⟩
   exact ⟨by rw [jkN om],Lib.below_grow _ _ (zq _) _ _⟩
 ·cases hr
theorem pFmtU_ok {P:Program} {C:Cx} {f g:Nat} (he : ∀ args w,(callFunc f args).run P w = .ok (.enter f args) w) (hgl:C.gl.any (Nat.beq g)=true)
  (hf : ∀ (u:Nat),u<18446744073709551616 -> ∀ w,(100<=u->Pows g w)->Calls P f #[.int .u64 u,.int .i64 10] w fun e w'=>e = .returned (.string ⟨(Lib.decDigits u).toArray⟩) /\ ∃ k os,w'=grow (w.drewN k) os) :
  jfd P C f (jk1 g):=by
 refine jhH he ?_
 intro args h v h' hr m w xs hR hG hx
 unfold jk1 at hr
 split at hr
 ·next u=>
  cases hc:Nat.ble u 18446744073709551615 with
  | false=>rw [hc] at hr;cases hr
  | true=>
   rw [hc,cond_true] at hr
   obtain ⟨rfl,rfl,-⟩:=jfN hr
   obtain ⟨x1,r1,e1,h1,x2,r2,e2,h2,e3⟩:=hx
   obtain rfl:r2=[]:=e3
   subst e2
   obtain rfl:x1=_:=h1
   obtain rfl:x2=_:=h2
   obtain ⟨l'⟩:=xs
   obtain rfl:l'=_:=e1
   have hu:u<=18446744073709551615:=by simpa using hc
   refine ⟨rfl,.string ⟨⟨dec u⟩⟩,rfl,(hf u om w (jiU hR hG hgl hr)).mono ?_⟩
   rintro e w' ⟨rfl,k,os,rfl⟩
   exact ⟨by rw [jkN om],Lib.below_grow _ _ (zq _) _ _⟩
 ·cases hr
end Am
