/- Our own library, part 14. -/
import Derived.Shelf.Strconv.Itoa3
import Derived.Lib.AppendIntMem
import Derived.Test.YtfajaihbhmbpnaaGreatDoorZ13
set_option maxHeartbeats 8000000
set_option maxRecDepth 800
set_option linter.all false
namespace Am
open Go Go.Proofs Go.Shelf Go.RowKit Go.Sort
def Pows (g:Nat) (w:World):Prop := ∀ i,i<20->w.cell? ⟨g,i,none⟩=some (.int .u64 ((10 ^ i:Nat):Int))
theorem Pows.alloc {g:Nat} {w:World} (h:Pows g w) (o:Go.Obj):Pows g (w.alloc o):=by
 intro i hi
 have hlt:g<w.heap.size:=by
  rcases zr g w.heap.size with h' | h'
  ·exact h'
  ·have:=h i hi
   simp [World.cell?,zD h'] at this
 rw [World.cell?_alloc_lt w o ⟨g,i,none⟩ hlt]
 exact h i hi
section
variable {P:Program} {ρ : Ren}
set_option maxRecDepth 100000 in
theorem jcB (L:LaysM.n284 P ρ) (u:Nat) (h1:1<=u) (h2:u<18446744073709551616) (w:World) (htab:Pows (ρ.g 17) w) :
  Calls P (ρ.f 284) #[.int .u64 u] w fun e w'=>e = .returned (.int .i64 (Lib.nDigits u))/\w'=w:=by
 have mixed:=L.mixed
 have t53:=L.t53;have a53:=L.a53;have z53:=L.z53;have v53:=L.v53
 have t3:=L.t3;have a3:=L.a3;have z3:=L.z3;have v3:=L.v3
 have t212:=L.t212;have a212:=L.a212;have z212:=L.z212;have v212:=L.v212
 have t0:=L.t0;have a0:=L.a0;have z0:=L.z0;have v0:=L.v0
 have t4:=L.t4;have a4:=L.a4;have z4:=L.z4;have v4:=L.v4
 have e129 : ∀ args w,(callFunc (ρ.f 129) args).run P w = .ok (.enter (ρ.f 129) args) w:=enters_of L.f129 (by kernel_rfl) rfl
 have e317 : ∀ args w,(callFunc (ρ.f 317) args).run P w = .ok (.enter (ρ.f 317) args) w:=enters_of L.f317 (by kernel_rfl) rfl
 have e318 : ∀ args w,(callFunc (ρ.f 318) args).run P w = .ok (.enter (ρ.f 318) args) w:=enters_of L.f318 (by kernel_rfl) rfl
 obtain ⟨hnd,h19⟩:=Lib.numDigits_eq u h1 h2
 have hL:Lib.bitLen u<=64:=Lib.bitLen_le u 64 (zn _) h2
 have hcell:w.cell? ⟨(ρ.g 17),Lib.l10 (Lib.bitLen u),none⟩=some (.int .u64 ((10 ^ Lib.l10 (Lib.bitLen u):Nat):Int)):=htab _ om
 have hto:((u:Int)).toNat=u:=by omega
 generalize hq:Lib.l10 (Lib.bitLen u)=q at hnd h19 hcell
 generalize hT:10 ^ q=T at hnd hcell
 have h20:q<20:=by omega
 have Hnd:=Lib.hid hnd
 clear hnd htab
 go_enter L.f284,Body.n284_ntmps ρ
 go_wp2_with (first
  | (go_at_fn (ρ.f 129);refine (Any.bits_Len64 { L with } _ _ om om).mono ?_;rintro e w' ⟨rfl,rfl⟩)
  | (go_at_fn (ρ.f 317);refine (Any.internal_strconv_log10Pow2 { L with } _ (by first | exact hL | (rw [hto];exact hL)) _).mono ?_;rintro e w' ⟨rfl,rfl⟩)
  | (go_at_fn (ρ.f 318);refine (Any.internal_strconv_bool2_int { L with } _ _).mono ?_;rintro e w' ⟨rfl,rfl⟩))
 all_goals go_ret
 all_goals (
  refine ⟨?_,rfl⟩
  have hnd:=Hnd.out
  congr 2
  split at hnd<;>simp_all<;>omega)
set_option maxRecDepth 100000 in
theorem jeL (L:LaysM.n246 P ρ) (u:Nat) (h1:u<=9223372036854775807) (w:World) (htab:100<=u->Pows (ρ.g 17) w) :
  Calls P (ρ.f 246) #[.int .i64 u,.int .i64 10] w fun e w'=>e = .returned (.string ⟨(Lib.decDigits u).toArray⟩) /\ ∃ k os,w'=grow (w.drewN k) os:=by
 have mixed:=L.mixed
 have t2:=L.t2;have a2:=L.a2;have z2:=L.z2;have v2:=L.v2
 have t3:=L.t3;have a3:=L.a3;have z3:=L.z3;have v3:=L.v3
 have t9:=L.t9;have a9:=L.a9;have z9:=L.z9;have v9:=L.v9
 have t4:=L.t4;have a4:=L.a4;have z4:=L.z4;have v4:=L.v4
 have t171:=L.t171;have a171:=L.a171;have z171:=L.z171;have v171:=L.v171
 have t0:=L.t0;have a0:=L.a0;have z0:=L.z0;have v0:=L.v0
 have t53:=L.t53;have a53:=L.a53;have z53:=L.z53;have v53:=L.v53
 have t37:=L.t37;have a37:=L.a37;have z37:=L.z37;have v37:=L.v37
 have t5:=L.t5;have a5:=L.a5;have z5:=L.z5;have v5:=L.v5
 have t173:=L.t173;have a173:=L.a173;have z173:=L.z173;have v173:=L.v173
 have e283 : ∀ args w,(callFunc (ρ.f 283) args).run P w = .ok (.enter (ρ.f 283) args) w:=enters_of L.f283 (by kernel_rfl) rfl
 have e284 : ∀ args w,(callFunc (ρ.f 284) args).run P w = .ok (.enter (ρ.f 284) args) w:=enters_of L.f284 (by kernel_rfl) rfl
 have e285 : ∀ args w,(callFunc (ρ.f 285) args).run P w = .ok (.enter (ρ.f 285) args) w:=enters_of L.f285 (by kernel_rfl) rfl
 by_cases hs:u<100
 ·exact (Any.internal_strconv_FormatInt_10_small { L with } u hs w).mono fun e w' ⟨q1,q2⟩=>⟨q1,0,#[],by rw [q2];simp [World.drewN_zero]⟩
 ·have htab:=htab om
  have hs' : ¬ (0<=(u:Int)/\(u:Int)<100):=by omega
  have hneg : ¬ (u:Int)<0:=by omega
  have hu1:1<=u:=by omega
  have hu64:u<18446744073709551616:=by omega
  have hnd20:Lib.nDigits u<=20:=by have:=Lib.numDigits_eq u hu1 hu64;split at this<;>omega
  have hb3:Lib.nDigits u<=23:=by omega
  have hal:P.arrayLen (ρ.t 171)=24:=by simp [Program.arrayLen,L.t171]
  have hsl1 : ∀ W,(Instr.sliceAt (ρ.t 171) (.pointer (some ⟨w.heap.size,0,none⟩)) (some (.int .i64 1)) (some (.int .i64 (1+(Lib.nDigits u:Int)))) none).run P W = .ok (.slice (some ⟨w.heap.size,1,none⟩) (Lib.nDigits u) 23) W:=fun W=>by
   rw [run_sliceAt_array_lh W (ρ.t 171) ⟨w.heap.size,0,none⟩ (by simp [Program.arrayLen,Program.elem,L.t171]) .i64 .i64 1 (1+(Lib.nDigits u:Int)) om om (by rw [hal];omega)]
   go_simp
   omega
  have hH0:=Lib.holds_zero w (ρ.t 171) (Lib.nDigits u) om
  have hfmt:=Any.internal_strconv_formatBase10 { L with } w.heap.size 1 23 u (Array.replicate (Lib.nDigits u) 0) (w.alloc (.cells Lib.zeros24 (ρ.t 171))) hH0 (by rw [Array.size_replicate];exact Lib.lt_pow_nDigits u) hu64 (by rw [Array.size_replicate];omega)
  rw [Array.size_replicate] at hfmt
  have HH0:=Lib.hid hH0
  clear hH0 hal
  go_enter L.f246,Body.n246_ntmps ρ
  go_wp2_with (first
   | (go_at_fn (ρ.f 284);refine (jcB { L with } u hu1 hu64 _ (htab.alloc _)).mono ?_;rintro e w' ⟨rfl,rfl⟩))
  go_at_fn (ρ.f 285)
  refine hfmt.mono ?_
  rintro e w' ⟨rfl,k,v',dk,rfl,hF⟩
  have hcv:(convert (ρ.t 37) (ρ.t 9) (.slice (some ⟨w.heap.size,1,none⟩) (Lib.nDigits u) 23)).run P ((putRow (fun (b:UInt8)=>Value.int .u8 (b.toNat:Int)) (w.alloc (.cells Lib.zeros24 (ρ.t 171))) w.heap.size 1 dk).drewN k) = .ok (.string ⟨(Lib.decDigits u).toArray⟩) ((putRow (fun (b:UInt8)=>Value.int .u8 (b.toNat:Int)) (w.alloc (.cells Lib.zeros24 (ρ.t 171))) w.heap.size 1 dk).drewN k):=by
   have h:=run_convert_bytes_back (P:=P) ((putRow (fun (b:UInt8)=>Value.int .u8 (b.toNat:Int)) (w.alloc (.cells Lib.zeros24 (ρ.t 171))) w.heap.size 1 dk).drewN k) (ρ.t 37) (ρ.t 9) (ρ.t 5) ⟨w.heap.size,1,none⟩ 23 (Lib.decDigits u) L.t37 L.t5 L.t9 (fun j hj=>by
    rw [Lib.row_is_numeral hF j hj,Lib.add_plain,World.cell?_drewN]
    exact cell?_putRow (fun (b:UInt8)=>Value.int .u8 (b.toNat:Int)) _ w.heap.size 1 _ dk HH0.out (by rw [hF.size,Array.size_replicate]) j (by rw [hF.size];rw [Lib.decDigits_length] at hj;exact hj))
   rw [Lib.decDigits_length] at h
   exact h
  go_wp2
  go_ret
  obtain ⟨os,eo⟩:=Lib.fin_pos w (.cells Lib.zeros24 (ρ.t 171)) dk k
  exact ⟨rfl,k,os,eo⟩
set_option maxRecDepth 100000 in
theorem itoa_w (L:LaysM.n171 P ρ) (u:Nat) (h1:u<=9223372036854775807) (w:World) (htab:100<=u->Pows (ρ.g 17) w) :
  Calls P (ρ.f 171) #[.int .i64 u] w fun e w'=>e = .returned (.string ⟨(Lib.decDigits u).toArray⟩) /\ ∃ k os,w'=grow (w.drewN k) os:=by
 have mixed:=L.mixed
 have t3:=L.t3;have a3:=L.a3;have z3:=L.z3;have v3:=L.v3
 have t9:=L.t9;have a9:=L.a9;have z9:=L.z9;have v9:=L.v9
 have t2:=L.t2;have a2:=L.a2;have z2:=L.z2;have v2:=L.v2
 have e246 : ∀ args w,(callFunc (ρ.f 246) args).run P w = .ok (.enter (ρ.f 246) args) w:=enters_of L.f246 (by kernel_rfl) rfl
 have e243 : ∀ args w,(callFunc (ρ.f 243) args).run P w = .ok (.enter (ρ.f 243) args) w:=enters_of L.f243 (by kernel_rfl) rfl
 have inner : ∀ w,(100<=u->Pows (ρ.g 17) w)->Calls P (ρ.f 243) #[.int .i64 u] w fun e w'=>e = .returned (.string ⟨(Lib.decDigits u).toArray⟩) /\ ∃ k os,w'=grow (w.drewN k) os:=by
  intro w htab
  go_enter L.f243,Body.n243_ntmps ρ
  go_wp2_with (go_at_fn (ρ.f 246);refine (jeL { L with } u h1 _ htab).mono ?_;rintro e w' ⟨rfl,k,os,rfl⟩)
  go_ret
  exact ⟨rfl,k,os,rfl⟩
 go_enter L.f171,Body.n171_ntmps ρ
 go_wp2_with (go_at_fn (ρ.f 243);refine (inner _ htab).mono ?_;rintro e w' ⟨rfl,k,os,rfl⟩)
 go_ret
 exact ⟨rfl,k,os,rfl⟩
end
def digs:Nat->Nat->List UInt8->List UInt8
 | 0,_,acc=>acc
 | k+1,u,acc=>bif Nat.blt u 10 then UInt8.ofNat (48+u) :: acc else digs k (u/10) (UInt8.ofNat (48+u%10) :: acc)
theorem jgh : ∀ (k u:Nat) (acc:List UInt8),u<10 ^ k->0<k->digs k u acc=Lib.decDigits u++acc
 | 0,_,_,_,h=>by omega
 | k+1,u,acc,hu,_=>by
  unfold digs
  rw [Lib.decDigits]
  by_cases h:u<10
  ·have:Nat.blt u 10=true:=by simp [Nat.blt];omega
   rw [this,dif_pos h];rfl
  ·have:Nat.blt u 10=false:=by cases e:Nat.blt u 10 with
    | false=>rfl
    | true=>simp [Nat.blt] at e;omega
   rw [this,dif_neg h,cond_false]
   have hk:0<k:=by
    rcases Nat.eq_zero_or_pos k with rfl | h'
    ·simp at hu;omega
    ·exact h'
   rw [jgh k (u/10) _ (by rw [Nat.pow_succ] at hu;omega) hk,List.append_assoc];rfl
abbrev dec (u:Nat):List UInt8:=digs 20 u []
theorem jg2 {u:Nat} (h:u<18446744073709551616):dec u=Lib.decDigits u:=by
 rw [dec,jgh 20 u [] om om,List.append_nil]
def jeE:Nat->Nat->List V->Bool
 | 0,_,_=>true
 | k+1,p,.int .u64 n :: r=>(n == (p:Int))&&jeE k (p*10) r
 | _,_,_=>false
theorem jeb : ∀ {k p:Nat} {l:List V},jeE k p l=true -> ∀ i,i<k->l[i]?=some (.int .u64 ((p*10 ^ i:Nat):Int))
 | 0,_,_,_,i,hi=>by omega
 | k+1,p,[],h,_,_=>by simp [jeE] at h
 | k+1,p,v :: r,h,i,hi=>by
  unfold jeE at h
  split at h
  ·next e _=>omega
  ·next k' p' n r' e1 e2=>
   cases e1;cases e2
   simp only [zm,beq_iff_eq] at h
   cases i with
   | zero=>simp [h.1]
   | succ i=>
    have:=jeb h.2 i om
    rw [List.getElem?_cons_succ,this,Nat.pow_succ,Nat.mul_assoc,Nat.mul_comm 10]
  ·cases h
def jbj (g u:Nat) (h:H):Option (V × H) :=
 bif Nat.blt u 100 then some (.str (dec u),h) else
  match h.get g with
  | some (.cells l _)=>bif jeE 20 1 l then some (.str (dec u),h) else none
  | _=>none
def jeH (g:Nat):Prim
 | [.int .i64 (.ofNat u)],h=>bif Nat.ble u 9223372036854775807 then jbj g u h else none
 | _,_=>none
def jeI (g:Nat):Prim
 | [.int .u64 (.ofNat u),.int .i64 (.ofNat 10)],h=>bif Nat.ble u 18446744073709551615 then jbj g u h else none
 | _,_=>none
theorem jbO {g u:Nat} {h h':H} {v:V} (hr:jbj g u h=some (v,h')):h'=h/\v = .str (dec u) /\ ∀ X h2,Ext X h h2->jbj g u h2=some (v,h2):=by
 unfold jbj at hr
 cases hc:Nat.blt u 100 with
 | true=>
  rw [hc] at hr;cases hr
  exact ⟨rfl,rfl,fun X h2 x=>by simp only [jbj,hc,cond_true]⟩
 | false=>
  rw [hc] at hr
  dsimp only [cond_false] at hr
  split at hr
  ·next l ro hg=>
   cases hp:jeE 20 1 l with
   | false=>rw [hp] at hr;cases hr
   | true=>
    rw [hp] at hr;cases hr
    exact ⟨rfl,rfl,fun X h2 x=>by simp only [jbj,hc,cond_false,jdF x hg,hp,cond_true]⟩
  ·cases hr
theorem jdd {P:Program} {C:Cx} {m:Mp} {w:World} {g u:Nat} {h h':H} {v:V} (hR:HRel P C m h w) (hG:GOk C m) (hgl:C.gl.any (Nat.beq g)=true) (hr:jbj g u h=some (v,h')) (hu:100<=u):Pows g w:=by
 unfold jbj at hr
 have hc:Nat.blt u 100=false:=by cases e:Nat.blt u 100 with
  | false=>rfl
  | true=>simp [Nat.blt] at e;omega
 rw [hc] at hr
 dsimp only [cond_false] at hr
 split at hr
 ·next l ro hg=>
  cases hp:jeE 20 1 l with
  | false=>rw [hp] at hr;cases hr
  | true=>
   intro i hi
   obtain ⟨lc,h1,h2,h3⟩:=hG g hgl
   obtain ⟨l2,co,q1,q2,ce,elem,lo,hi',q3,q4,q5,q6,q7⟩:=hR.obj _ _ hg
   rw [h1] at q1;cases q1
   subst q3
   rw [h2] at q2
   obtain ⟨x,q8,q9⟩:=q6 _ _ (jeb hp i hi)
   obtain rfl:x=_:=q9
   rw [jaw q2,<- Nat.zero_add i,<- h3,q8,Nat.one_mul,h3,Nat.zero_add]
 ·cases hr
theorem pItoa_F (g:Nat):jcS (jeH g):=by
 intro args h v h' hr
 unfold jeH at hr
 split at hr
 ·next u=>
  cases hc:Nat.ble u 9223372036854775807 with
  | false=>rw [hc] at hr;cases hr
  | true=>
   rw [hc,cond_true] at hr
   obtain ⟨rfl,-,hF⟩:=jbO hr
   exact ⟨zn _,fun X h2 x=>⟨h2,by simp only [jeH,hc,cond_true,hF X h2 x],x⟩⟩
 ·cases hr
theorem pFmtU_F (g:Nat):jcS (jeI g):=by
 intro args h v h' hr
 unfold jeI at hr
 split at hr
 ·next u=>
  cases hc:Nat.ble u 18446744073709551615 with
  | false=>rw [hc] at hr;cases hr
  | true=>
   rw [hc,cond_true] at hr
   obtain ⟨rfl,-,hF⟩:=jbO hr
   exact ⟨zn _,fun X h2 x=>⟨h2,by simp only [jeI,hc,cond_true,hF X h2 x],x⟩⟩
 ·cases hr
theorem pItoa_ok {P:Program} {C:Cx} {ρ : Ren} (L:LaysM.n171 P ρ) (hgl:C.gl.any (Nat.beq (ρ.g 17))=true):ja5 P C (ρ.f 171) (jeH (ρ.g 17)):=by
 refine jc5 (enters_of L.f171 (by kernel_rfl) rfl) ?_
 intro args h v h' hr m w xs hR hG hx
 unfold jeH at hr
 split at hr
 ·next u=>
  cases hc:Nat.ble u 9223372036854775807 with
  | false=>rw [hc] at hr;cases hr
  | true=>
   rw [hc,cond_true] at hr
   obtain ⟨rfl,rfl,-⟩:=jbO hr
   obtain ⟨x1,r1,e1,h1,e2⟩:=hx
   obtain rfl:r1=[]:=e2
   obtain rfl:x1=_:=h1
   obtain ⟨l'⟩:=xs
   obtain rfl:l'=_:=e1
   have hu:u<=9223372036854775807:=by simpa using hc
   refine ⟨rfl,.string ⟨⟨dec u⟩⟩,rfl,(itoa_w L u hu w (jdd hR hG hgl hr)).mono ?_⟩
   rintro e w' ⟨rfl,k,os,rfl⟩
   exact ⟨by rw [jg2 om],Lib.below_grow _ _ (zn _) _ _⟩
 ·cases hr
theorem pFmtU_ok {P:Program} {C:Cx} {f g:Nat} (he : ∀ args w,(callFunc f args).run P w = .ok (.enter f args) w) (hgl:C.gl.any (Nat.beq g)=true)
  (hf : ∀ (u:Nat),u<18446744073709551616 -> ∀ w,(100<=u->Pows g w)->Calls P f #[.int .u64 u,.int .i64 10] w fun e w'=>e = .returned (.string ⟨(Lib.decDigits u).toArray⟩) /\ ∃ k os,w'=grow (w.drewN k) os) :
  ja5 P C f (jeI g):=by
 refine jc5 he ?_
 intro args h v h' hr m w xs hR hG hx
 unfold jeI at hr
 split at hr
 ·next u=>
  cases hc:Nat.ble u 18446744073709551615 with
  | false=>rw [hc] at hr;cases hr
  | true=>
   rw [hc,cond_true] at hr
   obtain ⟨rfl,rfl,-⟩:=jbO hr
   obtain ⟨x1,r1,e1,h1,x2,r2,e2,h2,e3⟩:=hx
   obtain rfl:r2=[]:=e3
   subst e2
   obtain rfl:x1=_:=h1
   obtain rfl:x2=_:=h2
   obtain ⟨l'⟩:=xs
   obtain rfl:l'=_:=e1
   have hu:u<=18446744073709551615:=by simpa using hc
   refine ⟨rfl,.string ⟨⟨dec u⟩⟩,rfl,(hf u om w (jdd hR hG hgl hr)).mono ?_⟩
   rintro e w' ⟨rfl,k,os,rfl⟩
   exact ⟨by rw [jg2 om],Lib.below_grow _ _ (zn _) _ _⟩
 ·cases hr
end Am
namespace Am
open Go Go.Proofs Go.Shelf Go.RowKit
mutual
theorem VRel.back {m m':Mp} (hm:Mono m m') : ∀ {v:V} {x y:Value},VRel m v x->VRel m' v y->VRel m v y
 | .bool _,_,_,_,h=>h
 | .int _ _,_,_,_,h=>h
 | .str _,_,_,_,h=>h
 | .ptr none,_,_,_,h=>h
 | .ptr (some _),_,_,⟨l,h1,_⟩,⟨l',h2,h3⟩=>by
  rw [hm _ _ h1] at h2;cases h2
  exact ⟨l,h1,h3⟩
 | .slice none _ _,_,_,_,h=>h
 | .slice (some _) _ _,_,_,⟨l,_,_,h1,_⟩,⟨l',o',c',h2,h3⟩=>by
  rw [hm _ _ h1] at h2;cases h2
  exact ⟨l,o',c',h1,h3⟩
 | .map none,_,_,_,h=>h
 | .map (some _),_,_,⟨l,h1,_⟩,⟨l',h2,h3⟩=>by
  rw [hm _ _ h1] at h2;cases h2
  exact ⟨l,h1,h3⟩
 | .clo _ cs,_,_,⟨_,_,h1⟩,⟨ys,h2,h3⟩=>⟨ys,h2,jae.back hm h1 h3⟩
 | .yld _,_,_,⟨l,h1,_⟩,⟨l',h2,h3⟩=>by
  rw [hm _ _ h1] at h2;cases h2
  exact ⟨l,h1,h3⟩
 | .nilfn,_,_,_,h=>h
 | .bm _ _ _,_,_,⟨_,_,h1⟩,⟨y,h2,h3⟩=>⟨y,h2,VRel.back hm h1 h3⟩
 | .iface _ _,_,_,⟨_,_,h1⟩,⟨y,h2,h3⟩=>⟨y,h2,VRel.back hm h1 h3⟩
 | .nili,_,_,_,h=>h
 | .ifc,_,_,_,h=>h
 | .agg _,_,_,⟨_,_,h1⟩,⟨ys,h2,h3⟩=>⟨ys,h2,jae.back hm h1 h3⟩
 | .tup _,_,_,⟨_,_,h1⟩,⟨ys,h2,h3⟩=>⟨ys,h2,jae.back hm h1 h3⟩
theorem jae.back {m m':Mp} (hm:Mono m m') : ∀ {l:List V} {xs ys:List Value},jae m l xs->jae m' l ys->jae m l ys
 | [],_,_,_,h=>h
 | _ :: _,_,_,⟨_,_,_,h1,h2⟩,⟨y,s,e,h3,h4⟩=>⟨y,s,e,VRel.back hm h1 h3,jae.back hm h2 h4⟩
end
theorem jab.back {m m':Mp} (hm:Mono m m') : ∀ {l:List (V × V × Nat)} {es fs:List MapEntry},jab m l es->jab m' l fs->jab m l fs
 | [],_,_,_,h=>h
 | (_,_,_) :: _,_,_,⟨_,_,_,h1,h2,_,h3⟩,⟨e,s,q1,q2,q3,q4,q5⟩=>⟨e,s,q1,h1.back hm q2,h2.back hm q3,q4,jab.back hm h3 q5⟩
section
variable {P:Program} {C:Cx} {m m':Mp} {h h':H} {w w':World}
theorem ORel.back (hm:Mono m m') {l:Loc} {o:Obj} {co co':Go.Obj} (a:ORel P C m l o co) (b:ORel P C m' l o co'):ORel P C m l o co':=by
 cases o with
 | cells vs ro=>
  obtain ⟨c,elem,lo,hi,h1,h3,h4,h5,h6⟩:=b
  obtain ⟨_,_,_,_,_,_,_,g5,_⟩:=a
  exact ⟨c,elem,lo,hi,h1,h3,h4,fun k v e=>by
   obtain ⟨x,hx,hv⟩:=h5 k v e
   obtain ⟨_,_,gv⟩:=g5 k v e
   exact ⟨x,hx,gv.back hm hv⟩,h6⟩
 | map es clock=>
  obtain ⟨ces,h1,h2⟩:=b
  obtain ⟨_,_,g2⟩:=a
  exact ⟨ces,h1,g2.back hm h2⟩
 | loop st pend ps env x y=>
  obtain ⟨L,nt,h1,h2,h3,h4,h5,h6⟩:=b
  obtain ⟨_,_,_,_,_,_,g5,_⟩:=a
  refine ⟨L,nt,h1,h2,h3,h4,fun s v g=>?_,h6⟩
  obtain ⟨x,hx,hv⟩:=h5 s v g
  obtain ⟨_,_,gv⟩:=g5 s v g
  exact ⟨x,hx,gv.back hm hv⟩
 | iter mp since seen last=>
  obtain ⟨h0,mp',h1,h2⟩:=b
  obtain ⟨_,mq,_,g2⟩:=a
  refine ⟨h0,mp',h1,?_⟩
  cases mp with
  | none=>exact h2
  | some r=>
   obtain ⟨l',h3,h4⟩:=h2
   obtain ⟨l0,g3,_⟩:=g2
   rw [hm _ _ g3] at h3;cases h3
   exact ⟨_,g3,h4⟩
 | siter s pos=>exact b
theorem Step.back {N:Nat} (hR:HRel P C m h w) (s:Step P C N m h w m' h' w') (ho : ∀ b o,h.get b=some o->h'.get b=some o):Step P C N m h w m h w' where
 mono:=Mono.refl _
 old:=fun _ _ e=>e
 rel:=by
  refine ⟨fun b o hg=>?_,hR.inj,hR.dom⟩
  obtain ⟨l,co,h1,h2,h3⟩:=hR.obj b o hg
  obtain ⟨l',co',g1,g2,g3⟩:=s.rel.obj b o (ho b o hg)
  rw [s.mono _ _ h1] at g1;cases g1
  exact ⟨l,co',h1,g2,h3.back s.mono g3⟩
 nx:=zn _
 dead:=fun _ _ e=>e
 size:=s.size
 frame:=fun β hβ hn=>⟨(s.frame β hβ hn).1,hn⟩
 loops:=s.loops
 os:=s.os
 tape:=s.tape
 output:=s.output
theorem Step.below {N B:Nat} (hR:HRel P C m h w) (s:Step P C N m h w m h w') {w2:World} (hb:Below B w' w2) (hB:w.heap.size<=B):Step P C N m h w m h w2 where
 mono:=Mono.refl _
 old:=fun _ _ e=>e
 rel:=by
  refine ⟨fun b o hg=>?_,hR.inj,hR.dom⟩
  obtain ⟨l,co,h1,h2,h3⟩:=s.rel.obj b o hg
  exact ⟨l,co,h1,by rw [hb.block _ (zo (hR.lt hg h1) hB)];exact h2,h3⟩
 nx:=zn _
 dead:=fun _ _ e=>e
 size:=zu s.size hb.size
 frame:=fun β hβ hn=>⟨by rw [hb.block _ (zo hβ hB)];exact (s.frame β hβ hn).1,hn⟩
 loops:=fun β L e=>by
  obtain ⟨L',e'⟩:=s.loops β L e
  exact ⟨L',by rw [hb.block β (zo (jam e) hB)];exact e'⟩
 os:=hb.os.trans s.os
 tape:=hb.tape.trans s.tape
 output:=hb.output.trans s.output
theorem jeD {f:FuncId} {p:Prim} (he : ∀ args w,(callFunc f args).run P w = .ok (.enter f args) w)
  (hp : ∀ args h v h',p args h=some (v,h') -> ∀ m w (xs:Array Value),HRel P C m h w->GOk C m->jae m args xs.toList->h'=h/\Calls P f xs w fun e w'=>∃ x,e = .returned x/\VRel m v x/\Step P C h.nx m h w m h w') :
  ja5 P C f p:=by
 intro args h v h' hr m w xs hR hG hx c cs
 obtain ⟨rfl,hc⟩:=hp args h v h' hr m w xs hR hG hx
 obtain ⟨e,w',fr,⟨x,rfl,hv,hs⟩,hst,_,hl⟩:=hc (c :: cs)
 exact ⟨m,w',x,hs,hv,.inr ⟨he xs w,Steps.trans hst (.one (step_leave_returned hl))⟩⟩
theorem Step.builder {N B b:Nat} {T e:TypeId} {bs:List Value} (s:Step P C N m h w m' h' w') (hB : ∀ β,B <= β -> ¬ jct m h β) (k:Lib.IsBuilder T e B b bs w):Lib.IsBuilder T e B b bs w':=by
 have key : ∀ p,Lib.BuilderAt T e B b p bs w->Lib.BuilderAt T e B b p bs w':=fun p q=>by
  obtain ⟨h1,v,h2,h3,h4⟩:=q
  refine ⟨h1,v,by rw [(s.frame b (jam h2) (hB b h1)).1];exact h2,⟨h3.1,?_⟩,h4⟩
  rcases h3.2 with hn | ⟨g,cap,cur,rfl,hb,hgg,rest⟩
  ·exact .inl hn
  ·exact .inr ⟨g,cap,cur,rfl,hb,by rw [(s.frame g (jam hgg) (hB g hb)).1];exact hgg,rest⟩
 exact k.imp (key _) (key _)
end
end Am
namespace Am
open Go
def Obj.cl:Obj->Bool
 | .cells ..=>true
 | _=>false
def jb7:Option Obj->Option Obj
 | some o=>bif o.cl then some o else none
 | none=>none
def T.filt:T->T
 | .lf=>.lf
 | .nd v l r=>.nd (jb7 v) l.filt r.filt
def H.filt (h:H):H:=⟨h.nx,h.t.filt⟩
theorem T.get_filt : ∀ (t:T) (k:Nat),t.filt.get k=jb7 (t.get k)
 | .lf,_=>rfl
 | .nd v l r,k=>by
  rw [T.filt,T.get_nd,T.get_nd]
  split
  ·rfl
  ·split
   ·exact T.get_filt l _
   ·exact T.get_filt r _
theorem H.get_filt (h:H) (b:Nat):h.filt.get b=jb7 (h.get b):=T.get_filt _ _
theorem jat {x:Option Obj} {o:Obj} : jb7 x=some o↔x=some o/\o.cl=true:=by
 cases x with
 | none=>simp [jb7]
 | some y=>
  simp only [jb7]
  cases hy:y.cl
  ·simp only [cond_false]
   constructor
   ·intro e;cases e
   ·rintro ⟨e,h⟩;cases e;rw [hy] at h;cases h
  ·simp only [cond_true]
   constructor
   ·intro e;cases e;exact ⟨rfl,hy⟩
   ·exact fun e=>e.1
def Obj.eqB:Obj->Obj->Bool
 | .cells a r,.cells b s=>V.sames a b&&(r == s)
 | _,_=>false
theorem Obj.eqB_eq {a b:Obj} (h:a.eqB b=true):a=b:=by
 unfold Obj.eqB at h
 split at h
 ·simp only [zm,beq_iff_eq] at h
  rw [V.sames_eq h.1,h.2]
 ·cases h
theorem Obj.eqB_refl {a:Obj} (h:a.cl=true):a.eqB a=true:=by
 cases a with
 | cells l r=>simp [Obj.eqB,V.sames_refl]
 | _=>cases h
def jbs (h h':H):Nat->Bool
 | 0=>true
 | n+1=>(match h.get n with
  | none=>true
  | some o=>match h'.get n with
   | none=>false
   | some o'=>o.eqB o')&&jbs h h' n
theorem jdB {h h':H} : ∀ {n:Nat},jbs h h' n=true -> ∀ b o,b<n->h.get b=some o->h'.get b=some o
 | 0,_,b,o,hb,_=>by omega
 | n+1,hk,b,o,hb,hg=>by
  simp only [jbs,zm] at hk
  by_cases e:b=n
  ·subst e
   rw [hg] at hk
   have h1:=hk.1
   simp only at h1
   split at h1
   ·cases h1
   ·next o' h2=>rw [h2,Obj.eqB_eq h1]
  ·exact jdB hk.2 b o om hg
theorem jfd {h h':H} : ∀ {n:Nat},(∀ b o,b<n->h.get b=some o->o.cl=true/\h'.get b=some o)->jbs h h' n=true
 | 0,_=>rfl
 | n+1,hk=>by
  simp only [jbs,zm]
  refine ⟨?_,jfd fun b o hb=>hk b o om⟩
  cases hg:h.get n with
  | none=>rfl
  | some o=>
   obtain ⟨h1,h2⟩:=hk n o om hg
   simp only [h2]
   exact Obj.eqB_refl h1
section
variable (R:Prog) (fu d line:Nat)
def jc8 (h:H) (a:Option (Nat × Nat)) (i:Nat):Option (List UInt8) :=
 match a with
 | none=>none
 | some (b,o)=>match h.load b (o+i*4) 4 with
  | none=>none
  | some l=>bif l.all V.one then (match jax R fu d (.fn line) [.agg l] h with
   | some (.str s,h1)=>bif jbs h h1 h.nx then some (s++[10]) else none
   | _=>none) else none
def jaX (h:H) (a:Option (Nat × Nat)):Nat->Option (List UInt8)
 | 0=>some []
 | n+1=>match jaX h a n with
  | none=>none
  | some s=>match jc8 R fu d line h a n with
   | none=>none
   | some t=>some (s++t)
def jda (all:Nat) (no:Int):Prim
 | [.slice a n c],h=>
  match jax R fu d (.fn all) [.slice a n c] h.filt with
  | some (.bool ok,h1)=>bif jbs h.filt h1 h.nx then
    bif ok then (match jaX R fu d line h.filt a n with
     | some s=>bif Nat.ble s.length 140737488355328 then some (.tup [.str s,.i 0],h) else none
     | none=>none)
    else some (.tup [.str [],.i no],h)
   else none
  | _=>none
 | _,_=>none
end
theorem Ext.filt {X:Nat->Option Obj} {h h2:H} (x:Ext X h h2):Ext (fun j=>jb7 (X j)) h.filt h2.filt where
 nx:=x.nx
 get:=fun j=>by
  rw [H.get_filt,H.get_filt,x.get]
  cases hx:X j with
  | none=>cases hg:h.get j<;>simp [jb7]
  | some o=>
   obtain ⟨_,h2⟩:=x.off j (by rw [hx];simp)
   rw [h2];simp [jb7]
 off:=fun j hj=>by
  have:X j≠none:=fun e=>hj (by rw [e];rfl)
  obtain ⟨h1,h2⟩:=x.off j this
  exact ⟨h1,by rw [H.get_filt,h2];rfl⟩
theorem jel {X:Nat->Option Obj} {h h2 h' h2':H} (x:Ext X h h2) (x':Ext X h' h2') (hc : ∀ j o,X j=some o->o.cl=true) (hc2 : ∀ j o,h.get j=some o->o.cl=true) {n:Nat} (k:jbs h h' n=true):jbs h2 h2' n=true :=
 jfd fun b o hb hg=>by
  rw [x.get] at hg
  rw [x'.get]
  cases hh:h.get b with
  | some o'=>
   rw [hh] at hg
   have hg:some o'=some o:=hg
   cases hg
   exact ⟨hc2 _ _ hh,by rw [jdB k b _ hb hh];rfl⟩
  | none=>
   rw [hh] at hg
   have hg:X b=some o:=hg
   obtain ⟨_,h3⟩:=x'.off b (by rw [hg];simp)
   exact ⟨hc _ _ hg,by rw [h3,hg];rfl⟩
section
variable {R:Prog} (hF:jbr R) {fu d line:Nat}
include hF
theorem partAt_F {X:Nat->Option Obj} {h h2:H} (x:Ext X h h2) (hc : ∀ j o,X j=some o->o.cl=true) (hc2 : ∀ j o,h.get j=some o->o.cl=true) {a:Option (Nat × Nat)} {i:Nat} {s:List UInt8} (hr:jc8 R fu d line h a i=some s):jc8 R fu d line h2 a i=some s:=by
 unfold jc8 at hr ⊢
 split at hr
 ·cases hr
 ·next b o=>
  split at hr
  ·cases hr
  ·next l hl=>
   have hl2:h2.load b (o+i*4) 4=some l:=by
    unfold H.load at hl ⊢
    split at hl
    ·next cs ro hg=>rw [x.get,hg];exact hl
    ·cases hl
   simp only [hl2]
   cases h1:l.all V.one with
   | false=>rw [h1] at hr;cases hr
   | true=>
   rw [h1] at hr
   simp only [cond_true] at hr ⊢
   split at hr
   ·next t h1 hcall=>
    obtain ⟨h2',e2,x'⟩:=(jbo hF fu d).1 _ _ _ _ _ hcall X h2 x
    simp only [e2]
    cases hk:jbs h h1 h.nx with
    | false=>rw [hk] at hr;cases hr
    | true=>
     rw [hk] at hr
     rw [x.nx,jel x x' hc hc2 hk]
     exact hr
   ·cases hr
theorem jfa {X:Nat->Option Obj} {h h2:H} (x:Ext X h h2) (hc : ∀ j o,X j=some o->o.cl=true) (hc2 : ∀ j o,h.get j=some o->o.cl=true) {a:Option (Nat × Nat)} : ∀ {n:Nat} {s:List UInt8},jaX R fu d line h a n=some s->jaX R fu d line h2 a n=some s
 | 0,s,hr=>hr
 | n+1,s,hr=>by
  unfold jaX at hr ⊢
  split at hr
  ·cases hr
  ·next s1 h1=>
   rw [jfa x hc hc2 h1]
   split at hr
   ·cases hr
   ·next t1 h2=>
    simp only [partAt_F hF x hc hc2 h2]
    exact hr
theorem pParts_F {all:Nat} {no:Int} : jcS (jda R fu d line all no):=by
 intro args h v h' hr
 unfold jda at hr
 split at hr
 ·next a n c=>
  split at hr
  ·next ok h1 hcall=>
   have hx:h'=h:=by
    revert hr
    cases jbs h.filt h1 h.nx with
    | false=>intro hr;cases hr
    | true=>
     cases ok with
     | false=>intro hr;cases hr;rfl
     | true=>
      simp only [cond_true]
      split
      ·next s hs=>
       cases Nat.ble s.length 140737488355328 with
       | false=>intro hr;cases hr
       | true=>intro hr;cases hr;rfl
      ·intro hr;cases hr
   subst hx
   refine ⟨zn _,fun X h2 x=>⟨h2,?_,x⟩⟩
   have hc : ∀ j o,jb7 (X j)=some o->o.cl=true:=fun j o e=>(jat.1 e).2
   have hc2 : ∀ j o,h'.filt.get j=some o->o.cl=true:=fun j o e=>by rw [H.get_filt] at e;exact (jat.1 e).2
   obtain ⟨h2',e2,x'⟩:=(jbo hF fu d).1 _ _ _ _ _ hcall _ _ x.filt
   simp only [jda,e2]
   cases hk:jbs h'.filt h1 h'.nx with
   | false=>rw [hk] at hr;cases hr
   | true=>
    rw [hk] at hr
    rw [x.nx,jel x.filt x' hc hc2 hk]
    cases ok with
    | false=>
     simp only [cond_true,cond_false] at hr ⊢
     cases hr;rfl
    | true=>
     simp only [cond_true] at hr ⊢
     split at hr
     ·next s hs=>
      rw [jfa hF x.filt hc hc2 hs]
      revert hr
      simp only
      cases Nat.ble s.length 140737488355328 with
      | false=>intro hr;cases hr
      | true=>intro hr;cases hr;rfl
     ·cases hr
  ·cases hr
 ·cases hr
end
end Am
namespace Am
open Go Go.Proofs Go.Shelf Go.RowKit
section
variable {P:Program} {C:Cx} {m:Mp} {h:H} {w w':World}
theorem HRel.filt (hR:HRel P C m h w):HRel P C m h.filt w where
 obj:=fun b o hg=>by
  rw [H.get_filt] at hg
  exact hR.obj b o (jat.1 hg).1
 inj:=fun b b' o o' l l' h1 h2=>by
  rw [H.get_filt] at h1 h2
  exact hR.inj b b' o o' l l' (jat.1 h1).1 (jat.1 h2).1
 dom:=hR.dom
theorem jct.of_filt {β : Nat} (a:jct m h.filt β):jct m h β := by
 obtain ⟨b,o,l,h1,h2,h3,h4⟩:=a
 rw [H.get_filt] at h1
 exact ⟨b,o,l,(jat.1 h1).1,h2,h3,h4⟩
theorem Step.unfilt {N:Nat} (hR:HRel P C m h w) (s:Step P C N m h.filt w m h.filt w'):Step P C N m h w m h w' where
 mono:=Mono.refl _
 old:=fun _ _ e=>e
 rel:=by
  refine ⟨fun b o hg=>?_,hR.inj,hR.dom⟩
  cases hc:o.cl with
  | true=>exact s.rel.obj b o (by rw [H.get_filt];exact jat.2 ⟨hg,hc⟩)
  | false=>
   obtain ⟨l,co,h1,h2,h3⟩:=hR.obj b o hg
   refine ⟨l,co,h1,?_,h3⟩
   rw [(s.frame l.β (jam h2) fun hw=>?_).1]
   ·exact h2
   ·obtain ⟨b2,o2,l2,g1,g2,g3,g4⟩:=hw
    rw [H.get_filt] at g1
    obtain ⟨g1,g5⟩:=jat.1 g1
    have hne:b≠b2:=fun e=>by
     subst e
     rw [hg] at g1;cases g1
     rw [hc] at g5;cases g5
    have:=(hR.inj b b2 o o2 l l2 hg g1 hne h1 g3 g4.symm).2
    rw [g2] at this;cases this
 nx:=zn _
 dead:=fun _ _ e=>e
 size:=s.size
 frame:=fun β hβ hn=>⟨(s.frame β hβ fun e=>hn e.of_filt).1,hn⟩
 loops:=s.loops
 os:=s.os
 tape:=s.tape
 output:=s.output
theorem jcd {R:Prog} (hP:ProgOk P C R) {fu n f:Nat} {a:AFn} (ha:jaL R.fns f=some a) (hp:jaL R.prims f=none) {args:List V} {xs:Array Value} {v:V} {h1:H} (hr:jax R fu (n+1) (.fn f) args h.filt=some (v,h1)) (hk:jbs h.filt h1 h.nx=true)
  (hR:HRel P C m h w) (hG:GOk C m) (hx:jae m args xs.toList) {x:Value} (hv : ∀ m' y,VRel m' v y->y=x):Calls P f xs w fun e w'=>e = .returned x/\Step P C h.nx m h w m h w':=by
 refine (jgo hP ha hp hr hR.filt hG hx).calls fun m' w' y s hy=>⟨by rw [hv m' y hy],?_⟩
 have s':Step P C h.nx m h.filt w m h.filt w':=Step.back hR.filt s fun b o hg=>jdB hk b o (by
  obtain ⟨l,_,h2,_⟩:=hR.filt.obj b o hg
  exact hR.dom b l h2) hg
 exact s'.unfilt hR
theorem jf7 {b o n:Nat} {l:List V} (hR:HRel P C m h w) (hl:h.filt.load b o n=some l) {loc:Loc} (hm:m b=some loc):l.length=n /\ ∀ k v,l[k]?=some v -> ∃ x,w.cell? ⟨loc.β,loc.d+(o+k),none⟩=some x/\VRel m v x:=by
 unfold H.load at hl
 split at hl
 ·next cs ro hg=>
  cases hb:Nat.ble (o+n) cs.length with
  | false=>rw [hb] at hl;cases hl
  | true=>
   rw [hb] at hl
   cases hl
   rw [zz] at hb
   refine ⟨by simp;omega,fun k v hk=>?_⟩
   obtain ⟨l',co,q1,q2,c,elem,lo,hi,q3,q4,q5,q6,q7⟩:=hR.filt.obj _ _ hg
   rw [hm] at q1;cases q1
   subst q3
   have hv:cs[o+k]?=some v:=by
    rw [List.getElem?_take] at hk
    split at hk
    ·rwa [zk] at hk
    ·cases hk
   obtain ⟨x,q8,q9⟩:=q6 _ _ hv
   exact ⟨x,by rw [jaw q2];exact q8,q9⟩
 ·cases hl
end
theorem jbr.cons {R R':Prog} {f:Nat} {p:Prim} (h:jcS p) (hR:jbr R') (e:R.prims=(f,p) :: R'.prims):jbr R:=by
 intro g q hq
 rw [e] at hq
 simp only [jaL] at hq
 cases hb:Nat.beq f g with
 | true=>rw [hb] at hq;cases hq;exact h
 | false=>rw [hb] at hq;exact hR g q hq
theorem jbe.cons {P:Program} {C:Cx} {R R':Prog} {f:Nat} {p:Prim} (h:ja5 P C f p) (hR:jbe P C R') (e:R.prims=(f,p) :: R'.prims):jbe P C R:=by
 intro g q hq
 rw [e] at hq
 simp only [jaL] at hq
 cases hb:Nat.beq f g with
 | true=>
  rw [hb] at hq;cases hq
  obtain rfl:f=g:=Nat.eq_of_beq_eq_true hb
  exact h
 | false=>rw [hb] at hq;exact hR g q hq
end Am
