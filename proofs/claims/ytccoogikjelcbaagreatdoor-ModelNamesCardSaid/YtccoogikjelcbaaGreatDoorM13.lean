/- Our own library, part 13. -/
import Derived.Shelf.Strconv.Itoa3
import Derived.Lib.AppendIntMem
import Derived.Test.YtccoogikjelcbaaGreatDoorM12
set_option maxHeartbeats 8000000
set_option maxRecDepth 800
set_option linter.all false
namespace Am
open Go Go.Proofs Go.Shelf Go.RowKit Go.Sort
def Pows (g:Nat) (w:World):Prop := ∀ i,i<20->w.cell? ⟨g,i,none⟩=some (.int .u64 ((10 ^ i:Nat):Int))
theorem Pows.alloc {g:Nat} {w:World} (h:Pows g w) (o:Go.Obj):Pows g (w.alloc o):=by
 intro i hi
 have hlt:g<w.heap.size:=by
  rcases zr g w.heap.size with h' | h'
  ·exact h'
  ·have:=h i hi
   simp [World.cell?,zD h'] at this
 rw [World.cell?_alloc_lt w o ⟨g,i,none⟩ hlt]
 exact h i hi
section
variable {P:Program} {ρ : Ren}
set_option maxRecDepth 100000 in
theorem jdW (L:LaysM.n284 P ρ) (u:Nat) (h1:1<=u) (h2:u<18446744073709551616) (w:World) (htab:Pows (ρ.g 17) w) :
  Calls P (ρ.f 284) #[.int .u64 u] w fun e w'=>e = .returned (.int .i64 (Lib.nDigits u))/\w'=w:=by
 have mixed:=L.mixed
 have t53:=L.t53;have a53:=L.a53;have z53:=L.z53;have v53:=L.v53
 have t3:=L.t3;have a3:=L.a3;have z3:=L.z3;have v3:=L.v3
 have t212:=L.t212;have a212:=L.a212;have z212:=L.z212;have v212:=L.v212
 have t0:=L.t0;have a0:=L.a0;have z0:=L.z0;have v0:=L.v0
 have t4:=L.t4;have a4:=L.a4;have z4:=L.z4;have v4:=L.v4
 have e129 : ∀ args w,(callFunc (ρ.f 129) args).run P w = .ok (.enter (ρ.f 129) args) w:=enters_of L.f129 (by kernel_rfl) rfl
 have e317 : ∀ args w,(callFunc (ρ.f 317) args).run P w = .ok (.enter (ρ.f 317) args) w:=enters_of L.f317 (by kernel_rfl) rfl
 have e318 : ∀ args w,(callFunc (ρ.f 318) args).run P w = .ok (.enter (ρ.f 318) args) w:=enters_of L.f318 (by kernel_rfl) rfl
 obtain ⟨hnd,h19⟩:=Lib.numDigits_eq u h1 h2
 have hL:Lib.bitLen u<=64:=Lib.bitLen_le u 64 (zn _) h2
 have hcell:w.cell? ⟨(ρ.g 17),Lib.l10 (Lib.bitLen u),none⟩=some (.int .u64 ((10 ^ Lib.l10 (Lib.bitLen u):Nat):Int)):=htab _ om
 have hto:((u:Int)).toNat=u:=by omega
 generalize hq:Lib.l10 (Lib.bitLen u)=q at hnd h19 hcell
 generalize hT:10 ^ q=T at hnd hcell
 have h20:q<20:=by omega
 have Hnd:=Lib.hid hnd
 clear hnd htab
 go_enter L.f284,Body.n284_ntmps ρ
 go_wp2_with (first
  | (go_at_fn (ρ.f 129);refine (Any.bits_Len64 { L with } _ _ om om).mono ?_;rintro e w' ⟨rfl,rfl⟩)
  | (go_at_fn (ρ.f 317);refine (Any.internal_strconv_log10Pow2 { L with } _ (by first | exact hL | (rw [hto];exact hL)) _).mono ?_;rintro e w' ⟨rfl,rfl⟩)
  | (go_at_fn (ρ.f 318);refine (Any.internal_strconv_bool2_int { L with } _ _).mono ?_;rintro e w' ⟨rfl,rfl⟩))
 all_goals go_ret
 all_goals (
  refine ⟨?_,rfl⟩
  have hnd:=Hnd.out
  congr 2
  split at hnd<;>simp_all<;>omega)
set_option maxRecDepth 100000 in
theorem jjg (L:LaysM.n246 P ρ) (u:Nat) (h1:u<=9223372036854775807) (w:World) (htab:100<=u->Pows (ρ.g 17) w) :
  Calls P (ρ.f 246) #[.int .i64 u,.int .i64 10] w fun e w'=>e = .returned (.string ⟨(Lib.decDigits u).toArray⟩) /\ ∃ k os,w'=grow (w.drewN k) os:=by
 have mixed:=L.mixed
 have t2:=L.t2;have a2:=L.a2;have z2:=L.z2;have v2:=L.v2
 have t3:=L.t3;have a3:=L.a3;have z3:=L.z3;have v3:=L.v3
 have t9:=L.t9;have a9:=L.a9;have z9:=L.z9;have v9:=L.v9
 have t4:=L.t4;have a4:=L.a4;have z4:=L.z4;have v4:=L.v4
 have t171:=L.t171;have a171:=L.a171;have z171:=L.z171;have v171:=L.v171
 have t0:=L.t0;have a0:=L.a0;have z0:=L.z0;have v0:=L.v0
 have t53:=L.t53;have a53:=L.a53;have z53:=L.z53;have v53:=L.v53
 have t37:=L.t37;have a37:=L.a37;have z37:=L.z37;have v37:=L.v37
 have t5:=L.t5;have a5:=L.a5;have z5:=L.z5;have v5:=L.v5
 have t173:=L.t173;have a173:=L.a173;have z173:=L.z173;have v173:=L.v173
 have e283 : ∀ args w,(callFunc (ρ.f 283) args).run P w = .ok (.enter (ρ.f 283) args) w:=enters_of L.f283 (by kernel_rfl) rfl
 have e284 : ∀ args w,(callFunc (ρ.f 284) args).run P w = .ok (.enter (ρ.f 284) args) w:=enters_of L.f284 (by kernel_rfl) rfl
 have e285 : ∀ args w,(callFunc (ρ.f 285) args).run P w = .ok (.enter (ρ.f 285) args) w:=enters_of L.f285 (by kernel_rfl) rfl
 by_cases hs:u<100
 ·exact (Any.internal_strconv_FormatInt_10_small { L with } u hs w).mono fun e w' ⟨q1,q2⟩=>⟨q1,0,#[],by rw [q2];simp [World.drewN_zero]⟩
 ·have htab:=htab om
  have hs' : ¬ (0<=(u:Int)/\(u:Int)<100):=by omega
  have hneg : ¬ (u:Int)<0:=by omega
  have hu1:1<=u:=by omega
  have hu64:u<18446744073709551616:=by omega
  have hnd20:Lib.nDigits u<=20:=by have:=Lib.numDigits_eq u hu1 hu64;split at this<;>omega
  have hb3:Lib.nDigits u<=23:=by omega
  have hal:P.arrayLen (ρ.t 171)=24:=by simp [Program.arrayLen,L.t171]
  have hsl1 : ∀ W,(Instr.sliceAt (ρ.t 171) (.pointer (some ⟨w.heap.size,0,none⟩)) (some (.int .i64 1)) (some (.int .i64 (1+(Lib.nDigits u:Int)))) none).run P W = .ok (.slice (some ⟨w.heap.size,1,none⟩) (Lib.nDigits u) 23) W:=fun W=>by
   rw [run_sliceAt_array_lh W (ρ.t 171) ⟨w.heap.size,0,none⟩ (by simp [Program.arrayLen,Program.elem,L.t171]) .i64 .i64 1 (1+(Lib.nDigits u:Int)) om om (by rw [hal];omega)]
   go_simp
   omega
  have hH0:=Lib.holds_zero w (ρ.t 171) (Lib.nDigits u) om
  have hfmt:=Any.internal_strconv_formatBase10 { L with } w.heap.size 1 23 u (Array.replicate (Lib.nDigits u) 0) (w.alloc (.cells Lib.zeros24 (ρ.t 171))) hH0 (by rw [Array.size_replicate];exact Lib.lt_pow_nDigits u) hu64 (by rw [Array.size_replicate];omega)
  rw [Array.size_replicate] at hfmt
  have HH0:=Lib.hid hH0
  clear hH0 hal
  go_enter L.f246,Body.n246_ntmps ρ
  go_wp2_with (first
   | (go_at_fn (ρ.f 284);refine (jdW { L with } u hu1 hu64 _ (htab.alloc _)).mono ?_;rintro e w' ⟨rfl,rfl⟩))
  go_at_fn (ρ.f 285)
  refine hfmt.mono ?_
  rintro e w' ⟨rfl,k,v',dk,rfl,hF⟩
  have hcv:(convert (ρ.t 37) (ρ.t 9) (.slice (some ⟨w.heap.size,1,none⟩) (Lib.nDigits u) 23)).run P ((putRow (fun (b:UInt8)=>Value.int .u8 (b.toNat:Int)) (w.alloc (.cells Lib.zeros24 (ρ.t 171))) w.heap.size 1 dk).drewN k) = .ok (.string ⟨(Lib.decDigits u).toArray⟩) ((putRow (fun (b:UInt8)=>Value.int .u8 (b.toNat:Int)) (w.alloc (.cells Lib.zeros24 (ρ.t 171))) w.heap.size 1 dk).drewN k):=by
   have h:=run_convert_bytes_back (P:=P) ((putRow (fun (b:UInt8)=>Value.int .u8 (b.toNat:Int)) (w.alloc (.cells Lib.zeros24 (ρ.t 171))) w.heap.size 1 dk).drewN k) (ρ.t 37) (ρ.t 9) (ρ.t 5) ⟨w.heap.size,1,none⟩ 23 (Lib.decDigits u) L.t37 L.t5 L.t9 (fun j hj=>by
    rw [Lib.row_is_numeral hF j hj,Lib.add_plain,World.cell?_drewN]
    exact cell?_putRow (fun (b:UInt8)=>Value.int .u8 (b.toNat:Int)) _ w.heap.size 1 _ dk HH0.out (by rw [hF.size,Array.size_replicate]) j (by rw [hF.size];rw [Lib.decDigits_length] at hj;exact hj))
   rw [Lib.decDigits_length] at h
   exact h
  go_wp2
  go_ret
  obtain ⟨os,eo⟩:=Lib.fin_pos w (.cells Lib.zeros24 (ρ.t 171)) dk k
  exact ⟨rfl,k,os,eo⟩
set_option maxRecDepth 100000 in
theorem itoa_w (L:LaysM.n171 P ρ) (u:Nat) (h1:u<=9223372036854775807) (w:World) (htab:100<=u->Pows (ρ.g 17) w) :
  Calls P (ρ.f 171) #[.int .i64 u] w fun e w'=>e = .returned (.string ⟨(Lib.decDigits u).toArray⟩) /\ ∃ k os,w'=grow (w.drewN k) os:=by
 have mixed:=L.mixed
 have t3:=L.t3;have a3:=L.a3;have z3:=L.z3;have v3:=L.v3
 have t9:=L.t9;have a9:=L.a9;have z9:=L.z9;have v9:=L.v9
 have t2:=L.t2;have a2:=L.a2;have z2:=L.z2;have v2:=L.v2
 have e246 : ∀ args w,(callFunc (ρ.f 246) args).run P w = .ok (.enter (ρ.f 246) args) w:=enters_of L.f246 (by kernel_rfl) rfl
 have e243 : ∀ args w,(callFunc (ρ.f 243) args).run P w = .ok (.enter (ρ.f 243) args) w:=enters_of L.f243 (by kernel_rfl) rfl
 have inner : ∀ w,(100<=u->Pows (ρ.g 17) w)->Calls P (ρ.f 243) #[.int .i64 u] w fun e w'=>e = .returned (.string ⟨(Lib.decDigits u).toArray⟩) /\ ∃ k os,w'=grow (w.drewN k) os:=by
  intro w htab
  go_enter L.f243,Body.n243_ntmps ρ
  go_wp2_with (go_at_fn (ρ.f 246);refine (jjg { L with } u h1 _ htab).mono ?_;rintro e w' ⟨rfl,k,os,rfl⟩)
  go_ret
  exact ⟨rfl,k,os,rfl⟩
 go_enter L.f171,Body.n171_ntmps ρ
 go_wp2_with (go_at_fn (ρ.f 243);refine (inner _ htab).mono ?_;rintro e w' ⟨rfl,k,os,rfl⟩)
 go_ret
 exact ⟨rfl,k,os,rfl⟩
end
def digs:Nat->Nat->List UInt8->List UInt8
 | 0,_,acc=>acc
 | k+1,u,acc=>bif Nat.blt u 10 then UInt8.ofNat (48+u) :: acc else digs k (u/10) (UInt8.ofNat (48+u%10) :: acc)
theorem jmm : ∀ (k u:Nat) (acc:List UInt8),u<10 ^ k->0<k->digs k u acc=Lib.decDigits u++acc
 | 0,_,_,_,h=>by omega
 | k+1,u,acc,hu,_=>by
  unfold digs
  rw [Lib.decDigits]
  by_cases h:u<10
  ·have:Nat.blt u 10=true:=by simp [Nat.blt];omega
   rw [this,dif_pos h];rfl
  ·have:Nat.blt u 10=false:=by cases e:Nat.blt u 10 with
    | false=>rfl
    | true=>simp [Nat.blt] at e;omega
   rw [this,dif_neg h,cond_false]
   have hk:0<k:=by
    rcases Nat.eq_zero_or_pos k with rfl | h'
    ·simp at hu;omega
    ·exact h'
   rw [jmm k (u/10) _ (by rw [Nat.pow_succ] at hu;omega) hk,List.append_assoc];rfl
abbrev dec (u:Nat):List UInt8:=digs 20 u []
theorem jnk {u:Nat} (h:u<18446744073709551616):dec u=Lib.decDigits u:=by
 rw [dec,jmm 20 u [] om om,List.append_nil]
def jiB:Nat->Nat->List V->Bool
 | 0,_,_=>true
 | k+1,p,.int .u64 n :: r=>(n == (p:Int))&&jiB k (p*10) r
 | _,_,_=>false
theorem jhw : ∀ {k p:Nat} {l:List V},jiB k p l=true -> ∀ i,i<k->l[i]?=some (.int .u64 ((p*10 ^ i:Nat):Int))
 | 0,_,_,_,i,hi=>by omega
 | k+1,p,[],h,_,_=>by simp [jiB] at h
 | k+1,p,v :: r,h,i,hi=>by
  unfold jiB at h
  split at h
  ·next e _=>omega
  ·next k' p' n r' e1 e2=>
   cases e1;cases e2
   simp only [zm,beq_iff_eq] at h
   cases i with
   | zero=>simp [h.1]
   | succ i=>
    have:=jhw h.2 i om
    rw [List.getElem?_cons_succ,this,Nat.pow_succ,Nat.mul_assoc,Nat.mul_comm 10]
  ·cases h
def jbS (g u:Nat) (h:H):Option (V × H) :=
 bif Nat.blt u 100 then some (.str (dec u),h) else
  match h.get g with
  | some (.cells l _)=>bif jiB 20 1 l then some (.str (dec u),h) else none
  | _=>none
def jiF (g:Nat):Prim
 | [.int .i64 (.ofNat u)],h=>bif Nat.ble u 9223372036854775807 then jbS g u h else none
 | _,_=>none
def jiG (g:Nat):Prim
 | [.int .u64 (.ofNat u),.int .i64 (.ofNat 10)],h=>bif Nat.ble u 18446744073709551615 then jbS g u h else none
 | _,_=>none
theorem jcM {g u:Nat} {h h':H} {v:V} (hr:jbS g u h=some (v,h')):h'=h/\v = .str (dec u) /\ ∀ X h2,Ext X h h2->jbS g u h2=some (v,h2):=by
 unfold jbS at hr
 cases hc:Nat.blt u 100 with
 | true=>
  rw [hc] at hr;cases hr
  exact ⟨rfl,rfl,fun X h2 x=>by simp only [jbS,hc,cond_true]⟩
 | false=>
  rw [hc] at hr
  dsimp only [cond_false] at hr
  split at hr
  ·next l ro hg=>
   cases hp:jiB 20 1 l with
   | false=>rw [hp] at hr;cases hr
   | true=>
    rw [hp] at hr;cases hr
    exact ⟨rfl,rfl,fun X h2 x=>by simp only [jbS,hc,cond_false,jjI x hg,hp,cond_true]⟩
  ·cases hr
theorem jfc {P:Program} {C:Cx} {m:Mp} {w:World} {g u:Nat} {h h':H} {v:V} (hR:HRel P C m h w) (hG:GOk C m) (hgl:C.gl.any (Nat.beq g)=true) (hr:jbS g u h=some (v,h')) (hu:100<=u):Pows g w:=by
 unfold jbS at hr
 have hc:Nat.blt u 100=false:=by cases e:Nat.blt u 100 with
  | false=>rfl
  | true=>simp [Nat.blt] at e;omega
 rw [hc] at hr
 dsimp only [cond_false] at hr
 split at hr
 ·next l ro hg=>
  cases hp:jiB 20 1 l with
  | false=>rw [hp] at hr;cases hr
  | true=>
   intro i hi
   obtain ⟨lc,h1,h2,h3⟩:=hG g hgl
   obtain ⟨l2,co,q1,q2,ce,elem,lo,hi',q3,q4,q5,q6,q7⟩:=hR.obj _ _ hg
   rw [h1] at q1;cases q1
   subst q3
   rw [h2] at q2
   obtain ⟨x,q8,q9⟩:=q6 _ _ (jhw hp i hi)
   obtain rfl:x=_:=q9
   rw [jbz q2,<- zz i,<- h3,q8,Nat.one_mul,h3,zz]
 ·cases hr
theorem pItoa_F (g:Nat):jgJ (jiF g):=by
 intro args h v h' hr
 unfold jiF at hr
 split at hr
 ·next u=>
  cases hc:Nat.ble u 9223372036854775807 with
  | false=>rw [hc] at hr;cases hr
  | true=>
   rw [hc,cond_true] at hr
   obtain ⟨rfl,-,hF⟩:=jcM hr
   exact ⟨zn _,fun X h2 x=>⟨h2,by simp only [jiF,hc,cond_true,hF X h2 x],x⟩⟩
 ·cases hr
theorem pFmtU_F (g:Nat):jgJ (jiG g):=by
 intro args h v h' hr
 unfold jiG at hr
 split at hr
 ·next u=>
  cases hc:Nat.ble u 18446744073709551615 with
  | false=>rw [hc] at hr;cases hr
  | true=>
   rw [hc,cond_true] at hr
   obtain ⟨rfl,-,hF⟩:=jcM hr
   exact ⟨zn _,fun X h2 x=>⟨h2,by simp only [jiG,hc,cond_true,hF X h2 x],x⟩⟩
 ·cases hr
theorem pItoa_ok {P:Program} {C:Cx} {ρ : Ren} (L:LaysM.n171 P ρ) (hgl:C.gl.any (Nat.beq (ρ.g 17))=true):jby P C (ρ.f 171) (jiF (ρ.g 17)):=by
 refine jdR (enters_of L.f171 (by kernel_rfl) rfl) ?_
 intro args h v h' hr m w xs hR hG hx
 unfold jiF at hr
 split at hr
 ·next u=>
  cases hc:Nat.ble u 9223372036854775807 with
  | false=>rw [hc] at hr;cases hr
  | true=>
   rw [hc,cond_true] at hr
   obtain ⟨rfl,rfl,-⟩:=jcM hr
   obtain ⟨x1,r1,e1,h1,e2⟩:=hx
   obtain rfl:r1=[]:=e2
   obtain rfl:x1=_:=h1
   obtain ⟨l'⟩:=xs
   obtain rfl:l'=_:=e1
   have hu:u<=9223372036854775807:=by simpa using hc
   refine ⟨rfl,.string ⟨⟨dec u⟩⟩,rfl,(itoa_w L u hu w (jfc hR hG hgl hr)).mono ?_⟩
   rintro e w' ⟨rfl,k,os,rfl⟩
   exact ⟨by rw [jnk om],Lib.below_grow _ _ (zn _) _ _⟩
 ·cases hr
theorem pFmtU_ok {P:Program} {C:Cx} {f g:Nat} (he : ∀ args w,(callFunc f args).run P w = .ok (.enter f args) w) (hgl:C.gl.any (Nat.beq g)=true)
  (hf : ∀ (u:Nat),u<18446744073709551616 -> ∀ w,(100<=u->Pows g w)->Calls P f #[.int .u64 u,.int .i64 10] w fun e w'=>e = .returned (.string ⟨(Lib.decDigits u).toArray⟩) /\ ∃ k os,w'=grow (w.drewN k) os) :
  jby P C f (jiG g):=by
 refine jdR he ?_
 intro args h v h' hr m w xs hR hG hx
 unfold jiG at hr
 split at hr
 ·next u=>
  cases hc:Nat.ble u 18446744073709551615 with
  | false=>rw [hc] at hr;cases hr
  | true=>
   rw [hc,cond_true] at hr
   obtain ⟨rfl,rfl,-⟩:=jcM hr
   obtain ⟨x1,r1,e1,h1,x2,r2,e2,h2,e3⟩:=hx
   obtain rfl:r2=[]:=e3
   subst e2
   obtain rfl:x1=_:=h1
   obtain rfl:x2=_:=h2
   obtain ⟨l'⟩:=xs
   obtain rfl:l'=_:=e1
   have hu:u<=18446744073709551615:=by simpa using hc
   refine ⟨rfl,.string ⟨⟨dec u⟩⟩,rfl,(hf u om w (jfc hR hG hgl hr)).mono ?_⟩
   rintro e w' ⟨rfl,k,os,rfl⟩
   exact ⟨by rw [jnk om],Lib.below_grow _ _ (zn _) _ _⟩
 ·cases hr
end Am
namespace Am
open Go Go.Proofs Go.Shelf Go.RowKit
mutual
theorem VRel.back {m m':Mp} (hm:Mono m m') : ∀ {v:V} {x y:Value},VRel m v x->VRel m' v y->VRel m v y
 | .bool _,_,_,_,h=>h
 | .int _ _,_,_,_,h=>h
 | .str _,_,_,_,h=>h
 | .ptr none,_,_,_,h=>h
 | .ptr (some _),_,_,⟨l,h1,_⟩,⟨l',h2,h3⟩=>by
  rw [hm _ _ h1] at h2;cases h2
  exact ⟨l,h1,h3⟩
 | .slice none _ _,_,_,_,h=>h
 | .slice (some _) _ _,_,_,⟨l,_,_,h1,_⟩,⟨l',o',c',h2,h3⟩=>by
  rw [hm _ _ h1] at h2;cases h2
  exact ⟨l,o',c',h1,h3⟩
 | .map none,_,_,_,h=>h
 | .map (some _),_,_,⟨l,h1,_⟩,⟨l',h2,h3⟩=>by
  rw [hm _ _ h1] at h2;cases h2
  exact ⟨l,h1,h3⟩
 | .clo _ cs,_,_,⟨_,_,h1⟩,⟨ys,h2,h3⟩=>⟨ys,h2,jah.back hm h1 h3⟩
 | .yld _,_,_,⟨l,h1,_⟩,⟨l',h2,h3⟩=>by
  rw [hm _ _ h1] at h2;cases h2
  exact ⟨l,h1,h3⟩
 | .nilfn,_,_,_,h=>h
 | .bm _ _ _,_,_,⟨_,_,h1⟩,⟨y,h2,h3⟩=>⟨y,h2,VRel.back hm h1 h3⟩
 | .bcl _ _,_,_,⟨_,_,h1⟩,⟨y,h2,h3⟩=>⟨y,h2,VRel.back hm h1 h3⟩
 | .iface _ _,_,_,⟨_,_,h1⟩,⟨y,h2,h3⟩=>⟨y,h2,VRel.back hm h1 h3⟩
 | .nili,_,_,_,h=>h
 | .ifc,_,_,_,h=>h
 | .agg _,_,_,⟨_,_,h1⟩,⟨ys,h2,h3⟩=>⟨ys,h2,jah.back hm h1 h3⟩
 | .tup _,_,_,⟨_,_,h1⟩,⟨ys,h2,h3⟩=>⟨ys,h2,jah.back hm h1 h3⟩
theorem jah.back {m m':Mp} (hm:Mono m m') : ∀ {l:List V} {xs ys:List Value},jah m l xs->jah m' l ys->jah m l ys
 | [],_,_,_,h=>h
 | _ :: _,_,_,⟨_,_,_,h1,h2⟩,⟨y,s,e,h3,h4⟩=>⟨y,s,e,VRel.back hm h1 h3,jah.back hm h2 h4⟩
end
theorem jad.back {m m':Mp} (hm:Mono m m') : ∀ {l:List (V × V × Nat)} {es fs:List MapEntry},jad m l es->jad m' l fs->jad m l fs
 | [],_,_,_,h=>h
 | (_,_,_) :: _,_,_,⟨_,_,_,h1,h2,_,h3⟩,⟨e,s,q1,q2,q3,q4,q5⟩=>⟨e,s,q1,h1.back hm q2,h2.back hm q3,q4,jad.back hm h3 q5⟩
section
variable {P:Program} {C:Cx} {m m':Mp} {h h':H} {w w':World}
theorem ORel.back (hm:Mono m m') {l:Loc} {o:Obj} {co co':Go.Obj} (a:ORel P C m l o co) (b:ORel P C m' l o co'):ORel P C m l o co':=by
 cases o with
 | cells vs ro=>
  obtain ⟨c,elem,lo,hi,h1,h3,h4,h5,h6⟩:=b
  obtain ⟨_,_,_,_,_,_,_,g5,_⟩:=a
  exact ⟨c,elem,lo,hi,h1,h3,h4,fun k v e=>by
   obtain ⟨x,hx,hv⟩:=h5 k v e
   obtain ⟨_,_,gv⟩:=g5 k v e
   exact ⟨x,hx,gv.back hm hv⟩,h6⟩
 | map es clock=>
  obtain ⟨ces,h1,h2⟩:=b
  obtain ⟨_,_,g2⟩:=a
  exact ⟨ces,h1,g2.back hm h2⟩
 | loop st pend ps env x y=>
  obtain ⟨L,nt,h1,h2,h3,h4,h5,h6⟩:=b
  obtain ⟨_,_,_,_,_,_,g5,_⟩:=a
  refine ⟨L,nt,h1,h2,h3,h4,fun s v g=>?_,h6⟩
  obtain ⟨x,hx,hv⟩:=h5 s v g
  obtain ⟨_,_,gv⟩:=g5 s v g
  exact ⟨x,hx,gv.back hm hv⟩
 | iter mp since seen last=>
  obtain ⟨h0,mp',h1,h2⟩:=b
  obtain ⟨_,mq,_,g2⟩:=a
  refine ⟨h0,mp',h1,?_⟩
  cases mp with
  | none=>exact h2
  | some r=>
   obtain ⟨l',h3,h4⟩:=h2
   obtain ⟨l0,g3,_⟩:=g2
   rw [hm _ _ g3] at h3;cases h3
   exact ⟨_,g3,h4⟩
 | siter s pos=>exact b
theorem Step.back {N:Nat} (hR:HRel P C m h w) (s:Step P C N m h w m' h' w') (ho : ∀ b o,h.get b=some o->h'.get b=some o):Step P C N m h w m h w' where
 mono:=Mono.refl _
 old:=fun _ _ e=>e
 rel:=by
  refine ⟨fun b o hg=>?_,hR.inj,hR.dom⟩
  obtain ⟨l,co,h1,h2,h3⟩:=hR.obj b o hg
  obtain ⟨l',co',g1,g2,g3⟩:=s.rel.obj b o (ho b o hg)
  rw [s.mono _ _ h1] at g1;cases g1
  exact ⟨l,co',h1,g2,h3.back s.mono g3⟩
 nx:=zn _
 dead:=fun _ _ e=>e
 size:=s.size
 frame:=fun β hβ hn=>⟨(s.frame β hβ hn).1,hn⟩
 loops:=s.loops
 os:=s.os
 tape:=s.tape
 output:=s.output
theorem Step.below {N B:Nat} (hR:HRel P C m h w) (s:Step P C N m h w m h w') {w2:World} (hb:Below B w' w2) (hB:w.heap.size<=B):Step P C N m h w m h w2 where
 mono:=Mono.refl _
 old:=fun _ _ e=>e
 rel:=by
  refine ⟨fun b o hg=>?_,hR.inj,hR.dom⟩
  obtain ⟨l,co,h1,h2,h3⟩:=s.rel.obj b o hg
  exact ⟨l,co,h1,by rw [hb.block _ (zo (hR.lt hg h1) hB)];exact h2,h3⟩
 nx:=zn _
 dead:=fun _ _ e=>e
 size:=zu s.size hb.size
 frame:=fun β hβ hn=>⟨by rw [hb.block _ (zo hβ hB)];exact (s.frame β hβ hn).1,hn⟩
 loops:=fun β L e=>by
  obtain ⟨L',e'⟩:=s.loops β L e
  exact ⟨L',by rw [hb.block β (zo (ja8 e) hB)];exact e'⟩
 os:=hb.os.trans s.os
 tape:=hb.tape.trans s.tape
 output:=hb.output.trans s.output
theorem jiA {f:FuncId} {p:Prim} (he : ∀ args w,(callFunc f args).run P w = .ok (.enter f args) w)
  (hp : ∀ args h v h',p args h=some (v,h') -> ∀ m w (xs:Array Value),HRel P C m h w->GOk C m->jah m args xs.toList->h'=h/\Calls P f xs w fun e w'=>∃ x,e = .returned x/\VRel m v x/\Step P C h.nx m h w m h w') :
  jby P C f p:=by
 intro args h v h' hr m w xs hR hG hx c cs
 obtain ⟨rfl,hc⟩:=hp args h v h' hr m w xs hR hG hx
 obtain ⟨e,w',fr,⟨x,rfl,hv,hs⟩,hst,_,hl⟩:=hc (c :: cs)
 exact ⟨m,w',x,hs,hv,.inr ⟨he xs w,Steps.trans hst (.one (step_leave_returned hl))⟩⟩
end
end Am
namespace Am
open Go
def Obj.cl:Obj->Bool
 | .cells ..=>true
 | .map ..=>true
 | _=>false
def jkV:List (V × V × Nat)->List (V × V × Nat)->Bool
 | [],[]=>true
 | (k,v,n) :: a,(l,u,j) :: b=>V.same k l&&(V.same v u&&(Nat.beq n j&&jkV a b))
 | _,_=>false
theorem jjK : ∀ {a b:List (V × V × Nat)},jkV a b=true->a=b
 | [],[],_=>rfl
 | (k,v,n) :: a,(l,u,j) :: b,h=>by
  simp only [jkV,zm] at h
  rw [V.same_eq h.1,V.same_eq h.2.1,Nat.eq_of_beq_eq_true h.2.2.1,jjK h.2.2.2]
 | [],_ :: _,h=>by cases h
 | _ :: _,[],h=>by cases h
theorem jfo : ∀ a:List (V × V × Nat),jkV a a=true
 | []=>rfl
 | (k,v,n) :: a=>by simp [jkV,V.same_refl,jfo a]
def Obj.eqB:Obj->Obj->Bool
 | .cells a r,.cells b s=>V.sames a b&&(r == s)
 | .map a n,.map b j=>jkV a b&&Nat.beq n j
 | _,_=>false
theorem Obj.eqB_eq {a b:Obj} (h:a.eqB b=true):a=b:=by
 unfold Obj.eqB at h
 split at h
 ·simp only [zm,beq_iff_eq] at h
  rw [V.sames_eq h.1,h.2]
 ·simp only [zm] at h
  rw [jjK h.1,Nat.eq_of_beq_eq_true h.2]
 ·cases h
theorem Obj.eqB_refl {a:Obj} (h:a.cl=true):a.eqB a=true:=by
 cases a with
 | cells l r=>simp [Obj.eqB,V.sames_refl]
 | map l n=>simp [Obj.eqB,jfo]
 | _=>cases h
section
variable (R:Prog) (fu d line:Nat)
end
section
variable {R:Prog} (hF:jbh R) {fu d line:Nat}
include hF
end
end Am
namespace Am
open Go Go.Proofs Go.Shelf Go.RowKit
section
variable {P:Program} {C:Cx} {m:Mp} {h:H} {w w':World}
end
theorem jbh.cons {R R':Prog} {f:Nat} {p:Prim} (h:jgJ p) (hR:jbh R') (e:R.prims=(f,p) :: R'.prims):jbh R:=by
 intro g q hq
 rw [e] at hq
 simp only [jaL] at hq
 cases hb:Nat.beq f g with
 | true=>rw [hb] at hq;cases hq;exact h
 | false=>rw [hb] at hq;exact hR g q hq
theorem jbg.cons {P:Program} {C:Cx} {R R':Prog} {f:Nat} {p:Prim} (h:jby P C f p) (hR:jbg P C R') (e:R.prims=(f,p) :: R'.prims):jbg P C R:=by
 intro g q hq
 rw [e] at hq
 simp only [jaL] at hq
 cases hb:Nat.beq f g with
 | true=>
  rw [hb] at hq;cases hq
  obtain rfl:f=g:=Nat.eq_of_beq_eq_true hb
  exact h
 | false=>rw [hb] at hq;exact hR g q hq
end Am
namespace Am
open Go Go.Proofs
def frzP:Option Obj->Option Obj
 | some (.cells l _)=>some (.cells l true)
 | some (.map es ck)=>some (.map es ck)
 | _=>none
def T.frzP:T->T
 | .lf=>.lf
 | .nd v l r=>.nd (Am.frzP v) l.frzP r.frzP
def H.frzP (h:H):H:=⟨h.nx,h.t.frzP⟩
theorem T.get_frzP : ∀ (t:T) (k:Nat),t.frzP.get k=Am.frzP (t.get k)
 | .lf,_=>rfl
 | .nd v l r,k=>by
  rw [T.frzP,T.get_nd,T.get_nd]
  split
  ·rfl
  ·split
   ·exact T.get_frzP l _
   ·exact T.get_frzP r _
theorem H.get_frzP (h:H) (b:Nat):h.frzP.get b=Am.frzP (h.get b):=T.get_frzP _ _
theorem Ext.frzP {X:Nat->Option Obj} {h h2:H} (x:Ext X h h2):Ext (fun j=>Am.frzP (X j)) h.frzP h2.frzP where
 nx:=x.nx
 get:=fun j=>by
  rw [H.get_frzP,H.get_frzP,x.get]
  cases hx:X j with
  | none=>rw [Option.or_none];show _=(Am.frzP (h.get j)).or none;rw [Option.or_none]
  | some o=>
   obtain ⟨_,h2⟩:=x.off j (by rw [hx];simp)
   rw [h2];rfl
 off:=fun j hj=>by
  have:X j≠none:=fun e=>hj (by rw [e];rfl)
  obtain ⟨h1,h2⟩:=x.off j this
  exact ⟨h1,by rw [H.get_frzP,h2];rfl⟩
def mapO:Option Obj->List (Nat × Obj)
 | some (.map es ck)=>[(0,.map es ck)]
 | _=>[]
def T.maps:T->List (Nat × Obj)
 | .lf=>[]
 | .nd v l r=>mapO v++((l.maps.map fun p=>(2*p.1+1,p.2))++r.maps.map fun p=>(2*p.1+2,p.2))
theorem T.maps_mem : ∀ (t:T) {k ck:Nat} {es:List (V × V × Nat)},t.get k=some (.map es ck)->(k,Obj.map es ck)∈t.maps
 | .lf,k,ck,es,h=>by cases h
 | .nd v l r,k,ck,es,h=>by
  rw [T.get_nd] at h
  unfold T.maps
  rw [zy,zy]
  split at h
  ·next e=>subst e;subst h;exact .inl (zh ..)
  ·split at h
   ·next h0 h1=>exact .inr (.inl (List.mem_map.2 ⟨_,T.maps_mem l h,by simp;omega⟩))
   ·next h0 h1=>exact .inr (.inr (List.mem_map.2 ⟨_,T.maps_mem r h,by simp;omega⟩))
theorem T.maps_get : ∀ (t:T) {p:Nat × Obj},p∈t.maps->t.get p.1=some p.2
 | .lf,p,h=>by cases h
 | .nd v l r,p,h=>by
  unfold T.maps at h
  rw [T.get_nd]
  rcases zy.1 h with h | h
  ·unfold mapO at h
   split at h
   ·cases List.mem_singleton.1 h;rfl
   ·cases h
  ·rcases zy.1 h with h | h
   ·obtain ⟨q,hq,rfl⟩:=List.mem_map.1 h
    have:=T.maps_get l hq
    rw [zb om,zg om]
    simpa [show (2*q.1+1)/2=q.1 by omega] using this
   ·obtain ⟨q,hq,rfl⟩:=List.mem_map.1 h
    have:=T.maps_get r hq
    rw [zb om,zb om]
    simpa [show (2*q.1+2)/2-1=q.1 by omega] using this
def hasM (h:H):List (Nat × Obj)->Bool
 | []=>true
 | p :: r=>(match h.get p.1 with
  | some o=>o.eqB p.2
  | none=>false)&&hasM h r
theorem jgq {h:H} : ∀ {l:List (Nat × Obj)},hasM h l=true -> ∀ p∈l,h.get p.1=some p.2
 | q :: r,hb,p,hp=>by
  simp only [hasM,zm] at hb
  rcases zE.1 hp with rfl | hp
  ·obtain ⟨h1,_⟩:=hb
   split at h1
   ·next o ho=>rw [ho,Obj.eqB_eq h1]
   ·cases h1
  ·exact jgq hb.2 p hp
theorem jlW {h:H} (hc : ∀ o:Obj,(∃ es ck,o = .map es ck)->o.eqB o=true) : ∀ {l:List (Nat × Obj)},(∀ p∈l,h.get p.1=some p.2)->(∀ p∈l,∃ es ck,p.2 = .map es ck)->hasM h l=true
 | [],_,_=>rfl
 | q :: r,hg,hm=>by
  simp only [hasM,zm]
  refine ⟨?_,jlW hc (fun p hp=>hg p (zj _ hp)) fun p hp=>hm p (zj _ hp)⟩
  rw [hg q (zh ..)]
  exact hc _ (hm q (zh ..))
theorem T.maps_map : ∀ (t:T) {p:Nat × Obj},p∈t.maps -> ∃ es ck,p.2 = .map es ck
 | .lf,p,h=>by cases h
 | .nd v l r,p,h=>by
  unfold T.maps at h
  rcases zy.1 h with h | h
  ·unfold mapO at h
   split at h
   ·cases List.mem_singleton.1 h;exact ⟨_,_,rfl⟩
   ·cases h
  ·rcases zy.1 h with h | h
   ·obtain ⟨q,hq,rfl⟩:=List.mem_map.1 h
    exact T.maps_map l (p:=q) hq
   ·obtain ⟨q,hq,rfl⟩:=List.mem_map.1 h
    exact T.maps_map r (p:=q) hq
theorem jjG {X:Nat->Option Obj} {h h2 h1 h3:H} (x:Ext X h h2) (x':Ext (fun j=>Am.frzP (X j)) h1 h3) (hk:hasM h1 h.t.maps=true):hasM h3 h2.t.maps=true:=by
 refine jlW (fun o ⟨es,ck,e⟩=>by subst e;exact Obj.eqB_refl rfl) (fun p hp=>?_) fun p hp=>T.maps_map h2.t hp
 have hg:h2.get p.1=some p.2:=T.maps_get h2.t hp
 obtain ⟨es,ck,e⟩:=T.maps_map h2.t hp
 rw [x.get] at hg
 cases hh:h.get p.1 with
 | some o=>
  rw [hh] at hg
  have hg:o=p.2:=by cases hg;rfl
  rw [hg,e] at hh
  rw [e]
  exact x'.has (jgq hk _ (T.maps_mem h.t hh))
 | none=>
  rw [hh] at hg
  have hX:X p.1=some p.2:=hg
  have hX':Am.frzP (X p.1)=some p.2:=by rw [hX,e];rfl
  have:=(x'.off p.1 (by show Am.frzP (X p.1)≠none;rw [hX'];simp)).2
  rw [x'.get,this]
  exact hX'
section
variable {P:Program} {C:Cx} {m:Mp} {h:H} {w w':World}
theorem HRel.frzP (hR:HRel P C m h w):HRel P C m h.frzP w where
 obj:=fun b o hg=>by
  rw [H.get_frzP] at hg
  cases hh:h.get b with
  | none=>rw [hh] at hg;cases hg
  | some o2=>
   rw [hh] at hg
   cases o2<;>cases hg
   ·next l ro=>
    obtain ⟨l2,co,h1,h2,c,el,lo,hi,q1,q2,q3,q4,q5⟩:=hR.obj _ _ hh
    exact ⟨l2,co,h1,h2,c,el,lo,hi,q1,q2,q3,q4,fun e=>by cases e⟩
   ·exact hR.obj _ _ hh
 inj:=fun b b' o o' l l' h1 h2 hne e1 e2 e3=>by
  have key : ∀ k x,h.frzP.get k=some x -> ∃ y,h.get k=some y/\(y.ro=true->x.ro=true):=fun k x hx=>by
   rw [H.get_frzP] at hx
   cases hh:h.get k with
   | none=>rw [hh] at hx;cases hx
   | some o2=>
    rw [hh] at hx
    cases o2<;>cases hx
    ·exact ⟨_,rfl,fun _=>rfl⟩
    ·exact ⟨_,rfl,fun e=>e⟩
  obtain ⟨y,hy,y1⟩:=key _ _ h1
  obtain ⟨y',hy',y1'⟩:=key _ _ h2
  obtain ⟨r1,r2⟩:=hR.inj b b' y y' l l' hy hy' hne e1 e2 e3
  exact ⟨y1 r1,y1' r2⟩
 dom:=hR.dom
theorem jei {R:Prog} (hP:ProgOk P C R) {fu n f:Nat} {a:AFn} (ha:jaL R.fns f=some a) (hp:jaL R.prims f=none) {args:List V} {xs:Array Value} {v:V} {h1:H}
  (hr:ja9 R fu (n+1) (.fn f) args h.frzP=some (v,h1)) (hk:hasM h1 h.t.maps=true) (hR:HRel P C m h w) (hG:GOk C m) (hx:jah m args xs.toList) {x:Value} (hv : ∀ m' y,VRel m' v y->y=x):Calls P f xs w fun e w'=>e = .returned x/\Step P C h.nx m h w m h w':=by
 refine (jgF hP ha hp hr hR.frzP hG hx).calls fun m' w' y s hy=>⟨by rw [hv m' y hy],?_⟩
 have hno : ∀ β,jc8 m h.frzP β -> ∃ b es ck l,h.get b=some (.map es ck)/\m b=some l/\l.β = β := fun β ⟨b2,o2,l2,g1,g2,g3,g4⟩=>by
  rw [H.get_frzP] at g1
  cases hh:h.get b2 with
  | none=>rw [hh] at g1;cases g1
  | some o3=>
   rw [hh] at g1
   cases o3<;>cases g1
   ·cases g2
   ·exact ⟨b2,_,_,l2,hh,g3,g4⟩
 have how : ∀ β,¬ jc8 m h β -> ¬ jc8 m h.frzP β := fun β hn e=>by
  obtain ⟨b,es,ck,l,q1,q2,q3⟩:=hno β e
  exact hn ⟨b,_,l,q1,rfl,q2,q3⟩
 refine ⟨Mono.refl _,fun _ _ e=>e,⟨fun b o hg=>?_,hR.inj,hR.dom⟩,zn _,fun _ _ e=>e,s.size,fun β hβ hn=>⟨(s.frame β hβ (how β hn)).1,hn⟩,s.loops,s.os,s.tape,s.output⟩
 obtain ⟨l,co,q1,q2,q3⟩:=hR.obj _ _ hg
 by_cases hm : ∃ es ck,o = .map es ck
 ·obtain ⟨es,ck,rfl⟩:=hm
  have hg1:=jgq hk _ (T.maps_mem h.t hg)
  obtain ⟨l',co',r1,r2,r3⟩:=s.rel.obj _ _ hg1
  have:=s.mono _ _ q1
  rw [this] at r1;cases r1
  exact ⟨l,co',q1,r2,ORel.back s.mono q3 r3⟩
 ·refine ⟨l,co,q1,?_,q3⟩
  rw [(s.frame l.β (ja8 q2) fun e=>?_).1]
  ·exact q2
  ·obtain ⟨b2,es,ck,l2,p1,p2,p3⟩:=hno _ e
   by_cases hbb:b=b2
   ·subst hbb
    rw [hg] at p1;cases p1
    exact hm ⟨_,_,rfl⟩
   ·have:=(hR.inj b b2 o _ l l2 hg p1 hbb q1 p2 p3.symm).2
    cases this
end
end Am
namespace Am
open Go
section
variable (R:Prog) (fu d pend:Nat)
def je1 (h:H) (p k:V):Option Bool :=
 match ja9 R fu d (.fn pend) [p,k] h.frzP with
 | some (.int .i64 n,h1)=>bif hasM h1 h.t.maps&&(decide (0<=n)&&decide (n<=127)) then some (!(decide (n=0)||decide (n=64))) else none
 | _=>none
def cntK (h:H) (p:V):List (V × V × Nat)->Option Nat
 | []=>some 0
 | (k,_,_) :: r=>match je1 R fu d pend h p k with
  | some b=>match cntK h p r with
   | some c=>some (bif b then c+1 else c)
   | none=>none
  | none=>none
def jdi (clock:Nat):List (V × V × Nat)->Bool
 | []=>true
 | (k,_,n) :: r=>(match k with
  | .int .i64 j=>decide (-9223372036854775808<=j)&&decide (j<=9223372036854775807)
  | _=>false)&&(Nat.blt n clock&&((r.all fun e=>!(Nat.beq e.2.2 n) && !(V.same e.1 k))&&jdi clock r))
def pAdd (none_ off:Nat):Prim
 | [p],h=>match ja9 R fu d (.fn none_) [p] h.frzP with
  | some (.bool bad,h1)=>bif hasM h1 h.t.maps then
    bif bad then some (.i 0,h) else (match p with
     | .ptr (some (b,o))=>match h.load1 b (o+off) with
      | some (.map (some mb))=>match h.get mb with
       | some (.map es ck)=>match (bif jdi ck es&&Nat.ble es.length 1000000 then cntK R fu d pend h p es else none) with
        | some c=>some (.i (c:Int),h)
        | none=>none
       | _=>none
      | _=>none
     | _=>none)
   else none
  | _=>none
 | _,_=>none
end
section
variable {R:Prog} (hF:jbh R) {fu d pend:Nat}
include hF
theorem addAt_F {X:Nat->Option Obj} {h h2:H} (x:Ext X h h2) {p k:V} {b:Bool} (hr:je1 R fu d pend h p k=some b):je1 R fu d pend h2 p k=some b:=by
 unfold je1 at hr ⊢
 split at hr
 ·next n h1 hcall=>
  obtain ⟨h2',e2,x'⟩:=(jbY hF fu d).1 _ _ _ _ _ hcall _ _ x.frzP
  simp only [e2]
  cases hk:hasM h1 h.t.maps with
  | false=>rw [hk] at hr;cases hr
  | true=>
   rw [hk] at hr
   rw [jjG x x' hk]
   exact hr
 ·cases hr
theorem jnl {X:Nat->Option Obj} {h h2:H} (x:Ext X h h2) {p:V} : ∀ {es:List (V × V × Nat)} {c:Nat},cntK R fu d pend h p es=some c->cntK R fu d pend h2 p es=some c
 | [],c,hr=>hr
 | (k,_,_) :: r,c,hr=>by
  unfold cntK at hr ⊢
  split at hr
  ·next b hb=>
   rw [addAt_F hF x hb]
   split at hr
   ·next c1 hc1=>
    rw [jnl x hc1]
    exact hr
   ·cases hr
  ·cases hr
theorem pAdd_F {none_ off:Nat} : jgJ (pAdd R fu d pend none_ off):=by
 intro args h v h' hr
 unfold pAdd at hr
 split at hr
 ·next p=>
  split at hr
  ·next bad h1 hcall=>
   have hx:h'=h:=by
    revert hr
    cases hasM h1 h.t.maps with
    | false=>intro hr;cases hr
    | true=>
     cases bad with
     | true=>intro hr;cases hr;rfl
     | false=>
      simp only [cond_true,cond_false]
      intro hr
      split at hr
      ·split at hr
       ·split at hr
        ·split at hr
         ·cases hr;rfl
         ·cases hr
        ·cases hr
       ·cases hr
      ·cases hr
   subst hx
   refine ⟨zn _,fun X h2 x=>⟨h2,?_,x⟩⟩
   obtain ⟨h2',e2,x'⟩:=(jbY hF fu d).1 _ _ _ _ _ hcall _ _ x.frzP
   simp only [pAdd,e2]
   cases hk:hasM h1 h'.t.maps with
   | false=>rw [hk] at hr;cases hr
   | true=>
    rw [hk] at hr
    rw [jjG x x' hk]
    cases bad with
    | true=>
     simp only [cond_true] at hr ⊢
     cases hr;rfl
    | false=>
     simp only [cond_true,cond_false] at hr ⊢
     split at hr
     ·next b o=>
      split at hr
      ·next mb hl=>
       split at hr
       ·next es ck he=>
        split at hr
        ·next c hcn=>
         cases hgm:jdi ck es&&Nat.ble es.length 1000000 with
         | false=>rw [hgm] at hcn;cases hcn
         | true=>
          rw [hgm] at hcn
          have hcn:cntK R fu d pend h' (.ptr (some (b,o))) es=some c:=hcn
          simp only [x.load1 hl,x.has he,hgm,cond_true,jnl hF x hcn]
          cases hr;rfl
        ·cases hr
       ·cases hr
      ·cases hr
     ·cases hr
  ·cases hr
 ·cases hr
end
end Am
namespace Am
open Go
def kLt (x y:Int × Int):Bool:=decide (x.1<y.1)||(decide (x.1=y.1)&&decide (x.2<y.2))
def kIns (x:Int × Int):List (Int × Int)->List (Int × Int)
 | []=>[x]
 | y :: r=>bif kLt y x then y :: kIns x r else x :: y :: r
def jeJ:List (Int × Int)->List (Int × Int)
 | []=>[]
 | x :: r=>kIns x (jeJ r)
def jfm:List (Int × Int)->List V
 | []=>[]
 | x :: r=>.int .i64 x.1 :: .int .i64 x.2 :: jfm r
def jcg:V->Option (Int × Int)
 | .agg [.int .i64 a,.int .i64 b]=>some (a,b)
 | _=>none
def jiQ (clock:Nat):List (V × V × Nat)->Bool
 | []=>true
 | (k,_,n) :: r=>(jcg k).isSome&&(Nat.blt n clock&&((r.all fun e=>!(Nat.beq e.2.2 n))&&jiQ clock r))
def frzO:Option Obj->Option Obj
 | some (.cells l _)=>some (.cells l true)
 | _=>none
def T.frz:T->T
 | .lf=>.lf
 | .nd v l r=>.nd (frzO v) l.frz r.frz
def H.frz (h:H):H:=⟨h.nx,h.t.frz⟩
theorem T.get_frz : ∀ (t:T) (k:Nat),t.frz.get k=frzO (t.get k)
 | .lf,_=>rfl
 | .nd v l r,k=>by
  rw [T.frz,T.get_nd,T.get_nd]
  split
  ·rfl
  ·split
   ·exact T.get_frz l _
   ·exact T.get_frz r _
theorem H.get_frz (h:H) (b:Nat):h.frz.get b=frzO (h.get b):=T.get_frz _ _
theorem Ext.frz {X:Nat->Option Obj} {h h2:H} (x:Ext X h h2):Ext (fun j=>frzO (X j)) h.frz h2.frz where
 nx:=x.nx
 get:=fun j=>by
  rw [H.get_frz,H.get_frz,x.get]
  cases hx:X j with
  | none=>rw [Option.or_none];show _=(frzO (h.get j)).or none;rw [Option.or_none]
  | some o=>
   obtain ⟨_,h2⟩:=x.off j (by rw [hx];simp)
   rw [h2];rfl
 off:=fun j hj=>by
  have:X j≠none:=fun e=>hj (by rw [e];rfl)
  obtain ⟨h1,h2⟩:=x.off j this
  exact ⟨h1,by rw [H.get_frz,h2];rfl⟩
def H.one (h:H) (mb:Nat) (es:List (V × V × Nat)) (ck:Nat):H:=h.frz.set mb (.map es ck)
section
variable (R:Prog) (fu d find:Nat)
def jeh (g:H) (mb:Nat) (es:List (V × V × Nat)) (ck:Nat) (p k:V):Option Bool :=
 match ja9 R fu d (.fn find) [p,k] g with
 | some (.tup [.agg l,.bool b],h1)=>bif (match h1.get mb with
   | some o=>o.eqB (.map es ck)
   | none=>false)&&(Nat.beq l.length 4&&l.all V.one) then some b else none
 | _=>none
def jhC (g:H) (mb:Nat) (es:List (V × V × Nat)) (ck:Nat) (p:V):List (V × V × Nat)->Option (List (Int × Int))
 | []=>some []
 | (k,_,_) :: r=>match jcg k with
  | some x=>match jeh R fu d find g mb es ck p k with
   | some b=>match jhC g mb es ck p r with
    | some l=>some (bif b then x :: l else l)
    | none=>none
   | none=>none
  | none=>none
def jiD (off:Nat):Prim
 | [.ptr (some (b,o))],h=>match h.load1 b (o+off) with
  | some (.map (some mb))=>match h.get mb with
   | some (.map es ck)=>bif jiQ ck es&&Nat.ble es.length 1000000 then
     match jhC R fu d find (h.one mb es ck) mb es ck (.ptr (some (b,o))) es with
     | some []=>some (.slice none 0 (.fix 0),h)
     | some (x :: l)=>some (jbt h (jfm (jeJ (x :: l))) (x :: l).length (.grow 2))
     | none=>none
    else none
   | _=>none
  | _=>none
 | _,_=>none
end
section
variable {R:Prog} (hF:jbh R) {fu d find:Nat}
include hF
theorem keyAt_F {X:Nat->Option Obj} {g g2:H} (x:Ext X g g2) {mb ck:Nat} {es:List (V × V × Nat)} {p k:V} {b:Bool} (hr:jeh R fu d find g mb es ck p k=some b):jeh R fu d find g2 mb es ck p k=some b:=by
 unfold jeh at hr ⊢
 split at hr
 ·next l b1 h1 hcall=>
  obtain ⟨h2',e2,x'⟩:=(jbY hF fu d).1 _ _ _ _ _ hcall X g2 x
  simp only [e2]
  cases hk:h1.get mb with
  | none=>rw [hk] at hr;cases hr
  | some o=>
   rw [hk] at hr
   rw [x'.has hk]
   exact hr
 ·cases hr
theorem jiM {X:Nat->Option Obj} {g g2:H} (x:Ext X g g2) {mb ck:Nat} {es0:List (V × V × Nat)} {p:V} : ∀ {es:List (V × V × Nat)} {l:List (Int × Int)},jhC R fu d find g mb es0 ck p es=some l->jhC R fu d find g2 mb es0 ck p es=some l
 | [],l,hr=>hr
 | (k,_,_) :: r,l,hr=>by
  unfold jhC at hr ⊢
  split at hr
  ·next y hy=>
   split at hr
   ·next b hb=>
    simp only [hy,keyAt_F hF x hb]
    split at hr
    ·next l1 hl1=>
     rw [jiM x hl1]
     exact hr
    ·cases hr
   ·cases hr
  ·cases hr
theorem pKeys_F {off:Nat} : jgJ (jiD R fu d find off):=by
 intro args h v h' hr
 unfold jiD at hr
 split at hr
 ·next b o=>
  split at hr
  ·next mb hl=>
   split at hr
   ·next es ck he=>
    cases hg:jiQ ck es&&Nat.ble es.length 1000000 with
    | false=>rw [hg] at hr;cases hr
    | true=>
     rw [hg] at hr
     simp only [cond_true] at hr
     have hz : ∀ X h2,Ext X h h2->Ext (fun j=>frzO (X j)) (h.one mb es ck) (h2.one mb es ck):=fun X h2 x=>x.frz.set (by rw [x.none_of he];rfl) _
     split at hr
     ·next hk=>
      cases hr
      refine ⟨zn _,fun X h2 x=>⟨h2,?_,x⟩⟩
      simp only [jiD,x.load1 hl,x.has he,hg,cond_true,jiM hF (hz X h2 x) hk]
     ·next y l hk=>
      simp only [jbt,Option.some.injEq,Prod.mk.injEq] at hr
      obtain ⟨rfl,rfl⟩:=hr
      refine ⟨Nat.le_succ _,fun X h2 x=>⟨_,?_,x.new _⟩⟩
      simp only [jiD,x.load1 hl,x.has he,hg,cond_true,jiM hF (hz X h2 x) hk,jbt,x.nx]
     ·cases hr
   ·cases hr
  ·cases hr
 ·cases hr
end
end Am
namespace Am
open Go
def zIns (x:Int):List Int->List Int
 | []=>[x]
 | y :: r=>bif decide (y<x) then y :: zIns x r else x :: y :: r
def jgM:List Int->List Int
 | []=>[]
 | x :: r=>zIns x (jgM r)
def zKey:V->Int
 | .int .i64 a=>a
 | _=>0
def zRow (h:H) (es:List (V × V × Nat)):V × H :=
 match es with
 | []=>(.slice none 0 (.fix 0),h)
 | e :: r=>jbt h ((jgM ((e :: r).map fun e=>zKey e.1)).map (.int .i64)) (e :: r).length (.grow 1)
section
variable (R:Prog) (fu d del clo:Nat)
def pAll (off:Nat):Prim
 | [.ptr (some (b,o))],h=>match h.load1 b (o+off) with
  | some (.map (some mb))=>match h.get mb with
   | some (.map es ck)=>bif jdi ck es&&Nat.ble es.length 1000000 then
     ja9 R fu d (.fn del) [(zRow (h.new (.cells [.ptr (some (b,o))] false)) es).1,.clo clo [.ptr (some (h.nx,0))]] (zRow (h.new (.cells [.ptr (some (b,o))] false)) es).2
    else none
   | _=>none
  | _=>none
 | _,_=>none
end
section
variable {R:Prog} (hF:jbh R) {fu d del clo:Nat}
include hF
theorem pAll_F {off:Nat} : jgJ (pAll R fu d del clo off):=by
 intro args h v h' hr
 unfold pAll at hr
 split at hr
 ·next b o=>
  split at hr
  ·next mb hl=>
   split at hr
   ·next es ck he=>
    cases hg:jdi ck es&&Nat.ble es.length 1000000 with
    | false=>rw [hg] at hr;cases hr
    | true=>
     rw [hg] at hr
     simp only [cond_true] at hr
     have hz : ∀ (X:Nat->Option Obj) (h2:H),Ext X h h2->(zRow (h2.new (.cells [.ptr (some (b,o))] false)) es).1=(zRow (h.new (.cells [.ptr (some (b,o))] false)) es).1/\Ext X (zRow (h.new (.cells [.ptr (some (b,o))] false)) es).2 (zRow (h2.new (.cells [.ptr (some (b,o))] false)) es).2:=fun X h2 x=>by
      cases es with
      | nil=>exact ⟨rfl,x.new _⟩
      | cons e r=>
       refine ⟨?_,(x.new _).new _⟩
       simp only [zRow,jbt]
       rw [(x.new _).nx]
     have hnx:h.nx<=(zRow (h.new (.cells [.ptr (some (b,o))] false)) es).2.nx:=by
      cases es with
      | nil=>exact Nat.le_succ _
      | cons e r=>exact zu (Nat.le_succ _) (Nat.le_succ _)
     refine ⟨zu hnx ((jbY hF fu d).2 _ _ _ _ _ hr),fun X h2 x=>?_⟩
     obtain ⟨z1,z2⟩:=hz X h2 x
     obtain ⟨h2',e2,x'⟩:=(jbY hF fu d).1 _ _ _ _ _ hr _ _ z2
     refine ⟨h2',?_,x'⟩
     simp only [pAll,x.load1 hl,x.has he,hg,cond_true,z1,x.nx]
     exact e2
   ·cases hr
  ·cases hr
 ·cases hr
end
end Am
