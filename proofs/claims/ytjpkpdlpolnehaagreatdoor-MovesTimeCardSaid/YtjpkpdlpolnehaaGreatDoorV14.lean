/- Our own library, part 14. -/
import Derived.Shelf.Strconv.Itoa3
import Derived.Lib.AppendIntMem
import Derived.Test.YtjpkpdlpolnehaaGreatDoorV13
set_option maxHeartbeats 8000000
set_option maxRecDepth 800
set_option linter.all false
namespace Am
open Go Go.Proofs Go.Shelf Go.RowKit Go.Sort
def Pows (g:Nat) (w:World):Prop := ∀ i,i<20->w.cell? ⟨g,i,none⟩=some (.int .u64 ((10 ^ i:Nat):Int))
theorem Pows.alloc {g:Nat} {w:World} (h:Pows g w) (o:Go.Obj):Pows g (w.alloc o):=by
 intro i hi
 have hlt:g<w.heap.size:=by
  rcases zu g w.heap.size with h' | h'
  ·exact h'
  ·have:=h i hi
   simp [World.cell?,zV h'] at this
 rw [World.cell?_alloc_lt w o ⟨g,i,none⟩ hlt]
 exact h i hi
section
variable {P:Program} {ρ : Ren}
set_option maxRecDepth 100000 in
theorem jfy (L:LaysM.n284 P ρ) (u:Nat) (h1:1<=u) (h2:u<18446744073709551616) (w:World) (htab:Pows (ρ.g 17) w) :
  Calls P (ρ.f 284) #[.int .u64 u] w fun e w'=>e = .returned (.int .i64 (Lib.nDigits u))/\w'=w:=by
 have mixed:=L.mixed
 have t53:=L.t53;have a53:=L.a53;have z53:=L.z53;have v53:=L.v53
 have t3:=L.t3;have a3:=L.a3;have z3:=L.z3;have v3:=L.v3
 have t212:=L.t212;have a212:=L.a212;have z212:=L.z212;have v212:=L.v212
 have t0:=L.t0;have a0:=L.a0;have z0:=L.z0;have v0:=L.v0
 have t4:=L.t4;have a4:=L.a4;have z4:=L.z4;have v4:=L.v4
 have e129 : ∀ args w,(callFunc (ρ.f 129) args).run P w = .ok (.enter (ρ.f 129) args) w:=enters_of L.f129 (by kernel_rfl) rfl
 have e317 : ∀ args w,(callFunc (ρ.f 317) args).run P w = .ok (.enter (ρ.f 317) args) w:=enters_of L.f317 (by kernel_rfl) rfl
 have e318 : ∀ args w,(callFunc (ρ.f 318) args).run P w = .ok (.enter (ρ.f 318) args) w:=enters_of L.f318 (by kernel_rfl) rfl
 obtain ⟨hnd,h19⟩:=Lib.numDigits_eq u h1 h2
 have hL:Lib.bitLen u<=64:=Lib.bitLen_le u 64 (zp _) h2
 have hcell:w.cell? ⟨(ρ.g 17),Lib.l10 (Lib.bitLen u),none⟩=some (.int .u64 ((10 ^ Lib.l10 (Lib.bitLen u):Nat):Int)):=htab _ om
 have hto:((u:Int)).toNat=u:=by omega
 generalize hq:Lib.l10 (Lib.bitLen u)=q at hnd h19 hcell
 generalize hT:10 ^ q=T at hnd hcell
 have h20:q<20:=by omega
 have Hnd:=Lib.hid hnd
 clear hnd htab
 go_enter L.f284,Body.n284_ntmps ρ
 go_wp2_with (first
  | (go_at_fn (ρ.f 129);refine (Any.bits_Len64 { L with } _ _ om om).mono ?_;rintro e w' ⟨rfl,rfl⟩)
  | (go_at_fn (ρ.f 317);refine (Any.internal_strconv_log10Pow2 { L with } _ (by first | exact hL | (rw [hto];exact hL)) _).mono ?_;rintro e w' ⟨rfl,rfl⟩)
  | (go_at_fn (ρ.f 318);refine (Any.internal_strconv_bool2_int { L with } _ _).mono ?_;rintro e w' ⟨rfl,rfl⟩))
 all_goals go_ret
 all_goals (
  refine ⟨?_,rfl⟩
  have hnd:=Hnd.out
  congr 2
  split at hnd<;>simp_all<;>omega)
set_option maxRecDepth 100000 in
theorem jje (L:LaysM.n246 P ρ) (u:Nat) (h1:u<=9223372036854775807) (w:World) (htab:100<=u->Pows (ρ.g 17) w) :
  Calls P (ρ.f 246) #[.int .i64 u,.int .i64 10] w fun e w'=>e = .returned (.string ⟨(Lib.decDigits u).toArray⟩) /\ ∃ k os,w'=grow (w.drewN k) os:=by
 have mixed:=L.mixed
 have t2:=L.t2;have a2:=L.a2;have z2:=L.z2;have v2:=L.v2
 have t3:=L.t3;have a3:=L.a3;have z3:=L.z3;have v3:=L.v3
 have t9:=L.t9;have a9:=L.a9;have z9:=L.z9;have v9:=L.v9
 have t4:=L.t4;have a4:=L.a4;have z4:=L.z4;have v4:=L.v4
 have t171:=L.t171;have a171:=L.a171;have z171:=L.z171;have v171:=L.v171
 have t0:=L.t0;have a0:=L.a0;have z0:=L.z0;have v0:=L.v0
 have t53:=L.t53;have a53:=L.a53;have z53:=L.z53;have v53:=L.v53
 have t37:=L.t37;have a37:=L.a37;have z37:=L.z37;have v37:=L.v37
 have t5:=L.t5;have a5:=L.a5;have z5:=L.z5;have v5:=L.v5
 have t173:=L.t173;have a173:=L.a173;have z173:=L.z173;have v173:=L.v173
 have e283 : ∀ args w,(callFunc (ρ.f 283) args).run P w = .ok (.enter (ρ.f 283) args) w:=enters_of L.f283 (by kernel_rfl) rfl
 have e284 : ∀ args w,(callFunc (ρ.f 284) args).run P w = .ok (.enter (ρ.f 284) args) w:=enters_of L.f284 (by kernel_rfl) rfl
 have e285 : ∀ args w,(callFunc (ρ.f 285) args).run P w = .ok (.enter (ρ.f 285) args) w:=enters_of L.f285 (by kernel_rfl) rfl
 by_cases hs:u<100
 ·exact (Any.internal_strconv_FormatInt_10_small { L with } u hs w).mono fun e w' ⟨q1,q2⟩=>⟨q1,0,#[],by rw [q2];simp [World.drewN_zero]⟩
 ·have htab:=htab om
  have hs' : ¬ (0<=(u:Int)/\(u:Int)<100):=by omega
  have hneg : ¬ (u:Int)<0:=by omega
  have hu1:1<=u:=by omega
  have hu64:u<18446744073709551616:=by omega
  have hnd20:Lib.nDigits u<=20:=by have:=Lib.numDigits_eq u hu1 hu64;split at this<;>omega
  have hb3:Lib.nDigits u<=23:=by omega
  have hal:P.arrayLen (ρ.t 171)=24:=by simp [Program.arrayLen,L.t171]
  have hsl1 : ∀ W,(Instr.sliceAt (ρ.t 171) (.pointer (some ⟨w.heap.size,0,none⟩)) (some (.int .i64 1)) (some (.int .i64 (1+(Lib.nDigits u:Int)))) none).run P W = .ok (.slice (some ⟨w.heap.size,1,none⟩) (Lib.nDigits u) 23) W:=fun W=>by
   rw [run_sliceAt_array_lh W (ρ.t 171) ⟨w.heap.size,0,none⟩ (by simp [Program.arrayLen,Program.elem,L.t171]) .i64 .i64 1 (1+(Lib.nDigits u:Int)) om om (by rw [hal];omega)]
   go_simp
   omega
  have hH0:=Lib.holds_zero w (ρ.t 171) (Lib.nDigits u) om
  have hfmt:=Any.internal_strconv_formatBase10 { L with } w.heap.size 1 23 u (Array.replicate (Lib.nDigits u) 0) (w.alloc (.cells Lib.zeros24 (ρ.t 171))) hH0 (by rw [Array.size_replicate];exact Lib.lt_pow_nDigits u) hu64 (by rw [Array.size_replicate];omega)
  rw [Array.size_replicate] at hfmt
  have HH0:=Lib.hid hH0
  clear hH0 hal
  go_enter L.f246,Body.n246_ntmps ρ
  go_wp2_with (first
   | (go_at_fn (ρ.f 284);refine (jfy { L with } u hu1 hu64 _ (htab.alloc _)).mono ?_;rintro e w' ⟨rfl,rfl⟩))
  go_at_fn (ρ.f 285)
  refine hfmt.mono ?_
  rintro e w' ⟨rfl,k,v',dk,rfl,hF⟩
  have hcv:(convert (ρ.t 37) (ρ.t 9) (.slice (some ⟨w.heap.size,1,none⟩) (Lib.nDigits u) 23)).run P ((putRow (fun (b:UInt8)=>Value.int .u8 (b.toNat:Int)) (w.alloc (.cells Lib.zeros24 (ρ.t 171))) w.heap.size 1 dk).drewN k) = .ok (.string ⟨(Lib.decDigits u).toArray⟩) ((putRow (fun (b:UInt8)=>Value.int .u8 (b.toNat:Int)) (w.alloc (.cells Lib.zeros24 (ρ.t 171))) w.heap.size 1 dk).drewN k):=by
   have h:=run_convert_bytes_back (P:=P) ((putRow (fun (b:UInt8)=>Value.int .u8 (b.toNat:Int)) (w.alloc (.cells Lib.zeros24 (ρ.t 171))) w.heap.size 1 dk).drewN k) (ρ.t 37) (ρ.t 9) (ρ.t 5) ⟨w.heap.size,1,none⟩ 23 (Lib.decDigits u) L.t37 L.t5 L.t9 (fun j hj=>by
    rw [Lib.row_is_numeral hF j hj,Lib.add_plain,World.cell?_drewN]
    exact cell?_putRow (fun (b:UInt8)=>Value.int .u8 (b.toNat:Int)) _ w.heap.size 1 _ dk HH0.out (by rw [hF.size,Array.size_replicate]) j (by rw [hF.size];rw [Lib.decDigits_length] at hj;exact hj))
   rw [Lib.decDigits_length] at h
   exact h
  go_wp2
  go_ret
  obtain ⟨os,eo⟩:=Lib.fin_pos w (.cells Lib.zeros24 (ρ.t 171)) dk k
  exact ⟨rfl,k,os,eo⟩
set_option maxRecDepth 100000 in
theorem itoa_w (L:LaysM.n171 P ρ) (u:Nat) (h1:u<=9223372036854775807) (w:World) (htab:100<=u->Pows (ρ.g 17) w) :
  Calls P (ρ.f 171) #[.int .i64 u] w fun e w'=>e = .returned (.string ⟨(Lib.decDigits u).toArray⟩) /\ ∃ k os,w'=grow (w.drewN k) os:=by
 have mixed:=L.mixed
 have t3:=L.t3;have a3:=L.a3;have z3:=L.z3;have v3:=L.v3
 have t9:=L.t9;have a9:=L.a9;have z9:=L.z9;have v9:=L.v9
 have t2:=L.t2;have a2:=L.a2;have z2:=L.z2;have v2:=L.v2
 have e246 : ∀ args w,(callFunc (ρ.f 246) args).run P w = .ok (.enter (ρ.f 246) args) w:=enters_of L.f246 (by kernel_rfl) rfl
 have e243 : ∀ args w,(callFunc (ρ.f 243) args).run P w = .ok (.enter (ρ.f 243) args) w:=enters_of L.f243 (by kernel_rfl) rfl
 have inner : ∀ w,(100<=u->Pows (ρ.g 17) w)->Calls P (ρ.f 243) #[.int .i64 u] w fun e w'=>e = .returned (.string ⟨(Lib.decDigits u).toArray⟩) /\ ∃ k os,w'=grow (w.drewN k) os:=by
  intro w htab
  go_enter L.f243,Body.n243_ntmps ρ
  go_wp2_with (go_at_fn (ρ.f 246);refine (jje { L with } u h1 _ htab).mono ?_;rintro e w' ⟨rfl,k,os,rfl⟩)
  go_ret
  exact ⟨rfl,k,os,rfl⟩
 go_enter L.f171,Body.n171_ntmps ρ
 go_wp2_with (go_at_fn (ρ.f 243);refine (inner _ htab).mono ?_;rintro e w' ⟨rfl,k,os,rfl⟩)
 go_ret
 exact ⟨rfl,k,os,rfl⟩
end
def digs:Nat->Nat->List UInt8->List UInt8
 | 0,_,acc=>acc
 | k+1,u,acc=>bif Nat.blt u 10 then UInt8.ofNat (48+u) :: acc else digs k (u/10) (UInt8.ofNat (48+u%10) :: acc)
theorem jl7 : ∀ (k u:Nat) (acc:List UInt8),u<10 ^ k->0<k->digs k u acc=Lib.decDigits u++acc
 | 0,_,_,_,h=>by omega
 | k+1,u,acc,hu,_=>by
  unfold digs
  rw [Lib.decDigits]
  by_cases h:u<10
  ·have:Nat.blt u 10=true:=by simp [Nat.blt];omega
   rw [this,dif_pos h];rfl
  ·have:Nat.blt u 10=false:=by cases e:Nat.blt u 10 with
    | false=>rfl
    | true=>simp [Nat.blt] at e;omega
   rw [this,dif_neg h,cond_false]
   have hk:0<k:=by
    rcases Nat.eq_zero_or_pos k with rfl | h'
    ·simp at hu;omega
    ·exact h'
   rw [jl7 k (u/10) _ (by rw [Nat.pow_succ] at hu;omega) hk,List.append_assoc];rfl
abbrev dec (u:Nat):List UInt8:=digs 20 u []
theorem jiz {u:Nat} (h:u<18446744073709551616):dec u=Lib.decDigits u:=by
 rw [dec,jl7 20 u [] om om,List.append_nil]
def jhI:Nat->Nat->List V->Bool
 | 0,_,_=>true
 | k+1,p,.int .u64 n :: r=>(n == (p:Int))&&jhI k (p*10) r
 | _,_,_=>false
theorem jhH : ∀ {k p:Nat} {l:List V},jhI k p l=true -> ∀ i,i<k->l[i]?=some (.int .u64 ((p*10 ^ i:Nat):Int))
 | 0,_,_,_,i,hi=>by omega
 | k+1,p,[],h,_,_=>by simp [jhI] at h
 | k+1,p,v :: r,h,i,hi=>by
  unfold jhI at h
  split at h
  ·next e _=>omega
  ·next k' p' n r' e1 e2=>
   cases e1;cases e2
   simp only [zn,beq_iff_eq] at h
   cases i with
   | zero=>simp [h.1]
   | succ i=>
    have:=jhH h.2 i om
    rw [List.getElem?_cons_succ,this,Nat.pow_succ,Nat.mul_assoc,Nat.mul_comm 10]
  ·cases h
def jb1 (g u:Nat) (h:H):Option (V × H) :=
 bif Nat.blt u 100 then some (.str (dec u),h) else
  match h.get g with
  | some (.cells l _)=>bif jhI 20 1 l then some (.str (dec u),h) else none
  | _=>none
def jhL (g:Nat):Prim
 | [.int .i64 (.ofNat u)],h=>bif Nat.ble u 9223372036854775807 then jb1 g u h else none
 | _,_=>none
def jhN (g:Nat):Prim
 | [.int .u64 (.ofNat u),.int .i64 (.ofNat 10)],h=>bif Nat.ble u 18446744073709551615 then jb1 g u h else none
 | _,_=>none
theorem jdH {g u:Nat} {h h':H} {v:V} (hr:jb1 g u h=some (v,h')):h'=h/\v = .str (dec u) /\ ∀ X h2,Ext X h h2->jb1 g u h2=some (v,h2):=by
 unfold jb1 at hr
 cases hc:Nat.blt u 100 with
 | true=>
  rw [hc] at hr;cases hr
  exact ⟨rfl,rfl,fun X h2 x=>by simp only [jb1,hc,cond_true]⟩
 | false=>
  rw [hc] at hr
  dsimp only [cond_false] at hr
  split at hr
  ·next l ro hg=>
   cases hp:jhI 20 1 l with
   | false=>rw [hp] at hr;cases hr
   | true=>
    rw [hp] at hr;cases hr
    exact ⟨rfl,rfl,fun X h2 x=>by simp only [jb1,hc,cond_false,jjJ x hg,hp,cond_true]⟩
  ·cases hr
theorem jgk {P:Program} {C:Cx} {m:Mp} {w:World} {g u:Nat} {h h':H} {v:V} (hR:HRel P C m h w) (hG:GOk C m) (hgl:C.gl.any (Nat.beq g)=true) (hr:jb1 g u h=some (v,h')) (hu:100<=u):Pows g w:=by
 unfold jb1 at hr
 have hc:Nat.blt u 100=false:=by cases e:Nat.blt u 100 with
  | false=>rfl
  | true=>simp [Nat.blt] at e;omega
 rw [hc] at hr
 dsimp only [cond_false] at hr
 split at hr
 ·next l ro hg=>
  cases hp:jhI 20 1 l with
  | false=>rw [hp] at hr;cases hr
  | true=>
   intro i hi
   obtain ⟨lc,h1,h2,h3⟩:=hG g hgl
   obtain ⟨l2,co,q1,q2,ce,elem,lo,hi',q3,q4,q5,q6,q7⟩:=hR.obj _ _ hg
   rw [h1] at q1;cases q1
   subst q3
   rw [h2] at q2
   obtain ⟨x,q8,q9⟩:=q6 _ _ (jhH hp i hi)
   obtain rfl:x=_:=q9
   rw [jbs q2,<- zN i,<- h3,q8,Nat.one_mul,h3,zN]
 ·cases hr
theorem pItoa_F (g:Nat):jjp (jhL g):=by
 intro args h v h' hr
 unfold jhL at hr
 split at hr
 ·next u=>
  cases hc:Nat.ble u 9223372036854775807 with
  | false=>rw [hc] at hr;cases hr
  | true=>
   rw [hc,cond_true] at hr
   obtain ⟨rfl,-,hF⟩:=jdH hr
   exact ⟨zp _,fun X h2 x=>⟨h2,by simp only [jhL,hc,cond_true,hF X h2 x],x⟩⟩
 ·cases hr
theorem pFmtU_F (g:Nat):jjp (jhN g):=by
 intro args h v h' hr
 unfold jhN at hr
 split at hr
 ·next u=>
  cases hc:Nat.ble u 18446744073709551615 with
  | false=>rw [hc] at hr;cases hr
  | true=>
   rw [hc,cond_true] at hr
   obtain ⟨rfl,-,hF⟩:=jdH hr
   exact ⟨zp _,fun X h2 x=>⟨h2,by simp only [jhN,hc,cond_true,hF X h2 x],x⟩⟩
 ·cases hr
theorem pItoa_ok {P:Program} {C:Cx} {ρ : Ren} (L:LaysM.n171 P ρ) (hgl:C.gl.any (Nat.beq (ρ.g 17))=true):jc3 P C (ρ.f 171) (jhL (ρ.g 17)):=by
 refine jfr (enters_of L.f171 (by kernel_rfl) rfl) ?_
 intro args h v h' hr m w xs hR hG hx
 unfold jhL at hr
 split at hr
 ·next u=>
  cases hc:Nat.ble u 9223372036854775807 with
  | false=>rw [hc] at hr;cases hr
  | true=>
   rw [hc,cond_true] at hr
   obtain ⟨rfl,rfl,-⟩:=jdH hr
   obtain ⟨x1,r1,e1,h1,e2⟩:=hx
   obtain rfl:r1=[]:=e2
   obtain rfl:x1=_:=h1
   obtain ⟨l'⟩:=xs
   obtain rfl:l'=_:=e1
   have hu:u<=9223372036854775807:=by simpa using hc
   refine ⟨rfl,.string ⟨⟨dec u⟩⟩,rfl,(itoa_w L u hu w (jgk hR hG hgl hr)).mono ?_⟩
   rintro e w' ⟨rfl,k,os,rfl⟩
   exact ⟨by rw [jiz om],Lib.below_grow _ _ (zp _) _ _⟩
 ·cases hr
theorem pFmtU_ok {P:Program} {C:Cx} {f g:Nat} (he : ∀ args w,(callFunc f args).run P w = .ok (.enter f args) w) (hgl:C.gl.any (Nat.beq g)=true)
  (hf : ∀ (u:Nat),u<18446744073709551616 -> ∀ w,(100<=u->Pows g w)->Calls P f #[.int .u64 u,.int .i64 10] w fun e w'=>e = .returned (.string ⟨(Lib.decDigits u).toArray⟩) /\ ∃ k os,w'=grow (w.drewN k) os) :
  jc3 P C f (jhN g):=by
 refine jfr he ?_
 intro args h v h' hr m w xs hR hG hx
 unfold jhN at hr
 split at hr
 ·next u=>
  cases hc:Nat.ble u 18446744073709551615 with
  | false=>rw [hc] at hr;cases hr
  | true=>
   rw [hc,cond_true] at hr
   obtain ⟨rfl,rfl,-⟩:=jdH hr
   obtain ⟨x1,r1,e1,h1,x2,r2,e2,h2,e3⟩:=hx
   obtain rfl:r2=[]:=e3
   subst e2
   obtain rfl:x1=_:=h1
   obtain rfl:x2=_:=h2
   obtain ⟨l'⟩:=xs
   obtain rfl:l'=_:=e1
   have hu:u<=18446744073709551615:=by simpa using hc
   refine ⟨rfl,.string ⟨⟨dec u⟩⟩,rfl,(hf u om w (jgk hR hG hgl hr)).mono ?_⟩
   rintro e w' ⟨rfl,k,os,rfl⟩
   exact ⟨by rw [jiz om],Lib.below_grow _ _ (zp _) _ _⟩
 ·cases hr
end Am
namespace Am
open Go Go.Proofs Go.Shelf Go.RowKit
mutual
theorem VRel.back {m m':Mp} (hm:Mono m m') : ∀ {v:V} {x y:Value},VRel m v x->VRel m' v y->VRel m v y
 | .bool _,_,_,_,h=>h
 | .int _ _,_,_,_,h=>h
 | .str _,_,_,_,h=>h
 | .ptr none,_,_,_,h=>h
 | .ptr (some _),_,_,⟨l,h1,_⟩,⟨l',h2,h3⟩=>by
  rw [hm _ _ h1] at h2;cases h2
  exact ⟨l,h1,h3⟩
 | .slice none _ _,_,_,_,h=>h
 | .slice (some _) _ _,_,_,⟨l,_,_,h1,_⟩,⟨l',o',c',h2,h3⟩=>by
  rw [hm _ _ h1] at h2;cases h2
  exact ⟨l,o',c',h1,h3⟩
 | .map none,_,_,_,h=>h
 | .map (some _),_,_,⟨l,h1,_⟩,⟨l',h2,h3⟩=>by
  rw [hm _ _ h1] at h2;cases h2
  exact ⟨l,h1,h3⟩
 | .clo _ cs,_,_,⟨_,_,h1⟩,⟨ys,h2,h3⟩=>⟨ys,h2,jai.back hm h1 h3⟩
 | .yld _,_,_,⟨l,h1,_⟩,⟨l',h2,h3⟩=>by
  rw [hm _ _ h1] at h2;cases h2
  exact ⟨l,h1,h3⟩
 | .nilfn,_,_,_,h=>h
 | .bm _ _ _,_,_,⟨_,_,h1⟩,⟨y,h2,h3⟩=>⟨y,h2,VRel.back hm h1 h3⟩
 | .iface _ _,_,_,⟨_,_,h1⟩,⟨y,h2,h3⟩=>⟨y,h2,VRel.back hm h1 h3⟩
 | .nili,_,_,_,h=>h
 | .agg _,_,_,⟨_,_,h1⟩,⟨ys,h2,h3⟩=>⟨ys,h2,jai.back hm h1 h3⟩
 | .tup _,_,_,⟨_,_,h1⟩,⟨ys,h2,h3⟩=>⟨ys,h2,jai.back hm h1 h3⟩
theorem jai.back {m m':Mp} (hm:Mono m m') : ∀ {l:List V} {xs ys:List Value},jai m l xs->jai m' l ys->jai m l ys
 | [],_,_,_,h=>h
 | _ :: _,_,_,⟨_,_,_,h1,h2⟩,⟨y,s,e,h3,h4⟩=>⟨y,s,e,VRel.back hm h1 h3,jai.back hm h2 h4⟩
end
theorem jaf.back {m m':Mp} (hm:Mono m m') : ∀ {l:List (V × V × Nat)} {es fs:List MapEntry},jaf m l es->jaf m' l fs->jaf m l fs
 | [],_,_,_,h=>h
 | (_,_,_) :: _,_,_,⟨_,_,_,h1,h2,_,h3⟩,⟨e,s,q1,q2,q3,q4,q5⟩=>⟨e,s,q1,h1.back hm q2,h2.back hm q3,q4,jaf.back hm h3 q5⟩
section
variable {P:Program} {C:Cx} {m m':Mp} {h h':H} {w w':World}
theorem ORel.back (hm:Mono m m') {l:Loc} {o:Obj} {co co':Go.Obj} (a:ORel P C m l o co) (b:ORel P C m' l o co'):ORel P C m l o co':=by
 cases o with
 | cells vs ro=>
  obtain ⟨c,elem,lo,hi,h1,h3,h4,h5,h6⟩:=b
  obtain ⟨_,_,_,_,_,_,_,g5,_⟩:=a
  exact ⟨c,elem,lo,hi,h1,h3,h4,fun k v e=>by
   obtain ⟨x,hx,hv⟩:=h5 k v e
   obtain ⟨_,_,gv⟩:=g5 k v e
   exact ⟨x,hx,gv.back hm hv⟩,h6⟩
 | map es clock=>
  obtain ⟨ces,h1,h2⟩:=b
  obtain ⟨_,_,g2⟩:=a
  exact ⟨ces,h1,g2.back hm h2⟩
 | loop st pend ps env x y=>
  obtain ⟨L,nt,h1,h2,h3,h4,h5,h6⟩:=b
  obtain ⟨_,_,_,_,_,_,g5,_⟩:=a
  refine ⟨L,nt,h1,h2,h3,h4,fun s v g=>?_,h6⟩
  obtain ⟨x,hx,hv⟩:=h5 s v g
  obtain ⟨_,_,gv⟩:=g5 s v g
  exact ⟨x,hx,gv.back hm hv⟩
 | iter mp since seen last=>
  obtain ⟨h0,mp',h1,h2⟩:=b
  obtain ⟨_,mq,_,g2⟩:=a
  refine ⟨h0,mp',h1,?_⟩
  cases mp with
  | none=>exact h2
  | some r=>
   obtain ⟨l',h3,h4⟩:=h2
   obtain ⟨l0,g3,_⟩:=g2
   rw [hm _ _ g3] at h3;cases h3
   exact ⟨_,g3,h4⟩
 | siter s pos=>exact b
theorem Step.back {N:Nat} (hR:HRel P C m h w) (s:Step P C N m h w m' h' w') (ho : ∀ b o,h.get b=some o->h'.get b=some o):Step P C N m h w m h w' where
 mono:=Mono.refl _
 old:=fun _ _ e=>e
 rel:=by
  refine ⟨fun b o hg=>?_,hR.inj,hR.dom⟩
  obtain ⟨l,co,h1,h2,h3⟩:=hR.obj b o hg
  obtain ⟨l',co',g1,g2,g3⟩:=s.rel.obj b o (ho b o hg)
  rw [s.mono _ _ h1] at g1;cases g1
  exact ⟨l,co',h1,g2,h3.back s.mono g3⟩
 nx:=zp _
 dead:=fun _ _ e=>e
 size:=s.size
 frame:=fun β hβ hn=>⟨(s.frame β hβ hn).1,hn⟩
 loops:=s.loops
 os:=s.os
 tape:=s.tape
 output:=s.output
theorem Step.below {N B:Nat} (hR:HRel P C m h w) (s:Step P C N m h w m h w') {w2:World} (hb:Below B w' w2) (hB:w.heap.size<=B):Step P C N m h w m h w2 where
 mono:=Mono.refl _
 old:=fun _ _ e=>e
 rel:=by
  refine ⟨fun b o hg=>?_,hR.inj,hR.dom⟩
  obtain ⟨l,co,h1,h2,h3⟩:=s.rel.obj b o hg
  exact ⟨l,co,h1,by rw [hb.block _ (zq (hR.lt hg h1) hB)];exact h2,h3⟩
 nx:=zp _
 dead:=fun _ _ e=>e
 size:=zx s.size hb.size
 frame:=fun β hβ hn=>⟨by rw [hb.block _ (zq hβ hB)];exact (s.frame β hβ hn).1,hn⟩
 loops:=fun β L e=>by
  obtain ⟨L',e'⟩:=s.loops β L e
  exact ⟨L',by rw [hb.block β (zq (ja1 e) hB)];exact e'⟩
 os:=hb.os.trans s.os
 tape:=hb.tape.trans s.tape
 output:=hb.output.trans s.output
theorem jiT {f:FuncId} {p:Prim} (he : ∀ args w,(callFunc f args).run P w = .ok (.enter f args) w)
  (hp : ∀ args h v h',p args h=some (v,h') -> ∀ m w (xs:Array Value),HRel P C m h w->GOk C m->jai m args xs.toList->h'=h/\Calls P f xs w fun e w'=>∃ x,e = .returned x/\VRel m v x/\Step P C h.nx m h w m h w') :
  jc3 P C f p:=by
 intro args h v h' hr m w xs hR hG hx c cs
 obtain ⟨rfl,hc⟩:=hp args h v h' hr m w xs hR hG hx
 obtain ⟨e,w',fr,⟨x,rfl,hv,hs⟩,hst,_,hl⟩:=hc (c :: cs)
 exact ⟨m,w',x,hs,hv,.inr ⟨he xs w,Steps.trans hst (.one (step_leave_returned hl))⟩⟩
theorem Step.builder {N B b:Nat} {T e:TypeId} {bs:List Value} (s:Step P C N m h w m' h' w') (hB : ∀ β,B <= β -> ¬ jeP m h β) (k:Lib.IsBuilder T e B b bs w):Lib.IsBuilder T e B b bs w':=by
 have key : ∀ p,Lib.BuilderAt T e B b p bs w->Lib.BuilderAt T e B b p bs w':=fun p q=>by
  obtain ⟨h1,v,h2,h3,h4⟩:=q
  refine ⟨h1,v,by rw [(s.frame b (ja1 h2) (hB b h1)).1];exact h2,⟨h3.1,?_⟩,h4⟩
  rcases h3.2 with hn | ⟨g,cap,cur,rfl,hb,hgg,rest⟩
  ·exact .inl hn
  ·exact .inr ⟨g,cap,cur,rfl,hb,by rw [(s.frame g (ja1 hgg) (hB g hb)).1];exact hgg,rest⟩
 exact k.imp (key _) (key _)
end
end Am
namespace Am
open Go
def Obj.cl:Obj->Bool
 | .cells ..=>true
 | _=>false
def jdq:Option Obj->Option Obj
 | some o=>bif o.cl then some o else none
 | none=>none
def T.filt:T->T
 | .lf=>.lf
 | .nd v l r=>.nd (jdq v) l.filt r.filt
def H.filt (h:H):H:=⟨h.nx,h.t.filt⟩
theorem T.get_filt : ∀ (t:T) (k:Nat),t.filt.get k=jdq (t.get k)
 | .lf,_=>rfl
 | .nd v l r,k=>by
  rw [T.filt,T.get_nd,T.get_nd]
  split
  ·rfl
  ·split
   ·exact T.get_filt l _
   ·exact T.get_filt r _
theorem H.get_filt (h:H) (b:Nat):h.filt.get b=jdq (h.get b):=T.get_filt _ _
theorem jaS {x:Option Obj} {o:Obj} : jdq x=some o↔x=some o/\o.cl=true:=by
 cases x with
 | none=>simp [jdq]
 | some y=>
  simp only [jdq]
  cases hy:y.cl
  ·simp only [cond_false]
   constructor
   ·intro e;cases e
   ·rintro ⟨e,h⟩;cases e;rw [hy] at h;cases h
  ·simp only [cond_true]
   constructor
   ·intro e;cases e;exact ⟨rfl,hy⟩
   ·exact fun e=>e.1
def Obj.eqB:Obj->Obj->Bool
 | .cells a r,.cells b s=>V.sames a b&&(r == s)
 | _,_=>false
theorem Obj.eqB_eq {a b:Obj} (h:a.eqB b=true):a=b:=by
 unfold Obj.eqB at h
 split at h
 ·simp only [zn,beq_iff_eq] at h
  rw [V.sames_eq h.1,h.2]
 ·cases h
theorem Obj.eqB_refl {a:Obj} (h:a.cl=true):a.eqB a=true:=by
 cases a with
 | cells l r=>simp [Obj.eqB,V.sames_refl]
 | _=>cases h
def jcE (h h':H):Nat->Bool
 | 0=>true
 | n+1=>(match h.get n with
  | none=>true
  | some o=>match h'.get n with
   | none=>false
   | some o'=>o.eqB o')&&jcE h h' n
theorem jeW {h h':H} : ∀ {n:Nat},jcE h h' n=true -> ∀ b o,b<n->h.get b=some o->h'.get b=some o
 | 0,_,b,o,hb,_=>by omega
 | n+1,hk,b,o,hb,hg=>by
  simp only [jcE,zn] at hk
  by_cases e:b=n
  ·subst e
   rw [hg] at hk
   have h1:=hk.1
   simp only at h1
   split at h1
   ·cases h1
   ·next o' h2=>rw [h2,Obj.eqB_eq h1]
  ·exact jeW hk.2 b o om hg
theorem jjH {h h':H} : ∀ {n:Nat},(∀ b o,b<n->h.get b=some o->o.cl=true/\h'.get b=some o)->jcE h h' n=true
 | 0,_=>rfl
 | n+1,hk=>by
  simp only [jcE,zn]
  refine ⟨?_,jjH fun b o hb=>hk b o om⟩
  cases hg:h.get n with
  | none=>rfl
  | some o=>
   obtain ⟨h1,h2⟩:=hk n o om hg
   simp only [h2]
   exact Obj.eqB_refl h1
section
variable (R:Prog) (fu d line:Nat)
def jfv (h:H) (a:Option (Nat × Nat)) (i:Nat):Option (List UInt8) :=
 match a with
 | none=>none
 | some (b,o)=>match h.load b (o+i*4) 4 with
  | none=>none
  | some l=>bif l.all V.one then (match jaL R fu d (.fn line) [.agg l] h with
   | some (.str s,h1)=>bif jcE h h1 h.nx then some (s++[10]) else none
   | _=>none) else none
def jcn (h:H) (a:Option (Nat × Nat)):Nat->Option (List UInt8)
 | 0=>some []
 | n+1=>match jcn h a n with
  | none=>none
  | some s=>match jfv R fu d line h a n with
   | none=>none
   | some t=>some (s++t)
def jgh (all:Nat) (no:Int):Prim
 | [.slice a n c],h=>
  match jaL R fu d (.fn all) [.slice a n c] h.filt with
  | some (.bool ok,h1)=>bif jcE h.filt h1 h.nx then
    bif ok then (match jcn R fu d line h.filt a n with
     | some s=>bif Nat.ble s.length 140737488355328 then some (.tup [.str s,.i 0],h) else none
     | none=>none)
    else some (.tup [.str [],.i no],h)
   else none
  | _=>none
 | _,_=>none
end
theorem Ext.filt {X:Nat->Option Obj} {h h2:H} (x:Ext X h h2):Ext (fun j=>jdq (X j)) h.filt h2.filt where
 nx:=x.nx
 get:=fun j=>by
  rw [H.get_filt,H.get_filt,x.get]
  cases hx:X j with
  | none=>cases hg:h.get j<;>simp [jdq]
  | some o=>
   obtain ⟨_,h2⟩:=x.off j (by rw [hx];simp)
   rw [h2];simp [jdq]
 off:=fun j hj=>by
  have:X j≠none:=fun e=>hj (by rw [e];rfl)
  obtain ⟨h1,h2⟩:=x.off j this
  exact ⟨h1,by rw [H.get_filt,h2];rfl⟩
theorem jik {X:Nat->Option Obj} {h h2 h' h2':H} (x:Ext X h h2) (x':Ext X h' h2') (hc : ∀ j o,X j=some o->o.cl=true) (hc2 : ∀ j o,h.get j=some o->o.cl=true) {n:Nat} (k:jcE h h' n=true):jcE h2 h2' n=true :=
 jjH fun b o hb hg=>by
  rw [x.get] at hg
  rw [x'.get]
  cases hh:h.get b with
  | some o'=>
   rw [hh] at hg
   have hg:some o'=some o:=hg
   cases hg
   exact ⟨hc2 _ _ hh,by rw [jeW k b _ hb hh];rfl⟩
  | none=>
   rw [hh] at hg
   have hg:X b=some o:=hg
   obtain ⟨_,h3⟩:=x'.off b (by rw [hg];simp)
   exact ⟨hc _ _ hg,by rw [h3,hg];rfl⟩
section
variable {R:Prog} (hF:jcL R) {fu d line:Nat}
include hF
theorem partAt_F {X:Nat->Option Obj} {h h2:H} (x:Ext X h h2) (hc : ∀ j o,X j=some o->o.cl=true) (hc2 : ∀ j o,h.get j=some o->o.cl=true) {a:Option (Nat × Nat)} {i:Nat} {s:List UInt8} (hr:jfv R fu d line h a i=some s):jfv R fu d line h2 a i=some s:=by
 unfold jfv at hr ⊢
 split at hr
 ·cases hr
 ·next b o=>
  split at hr
  ·cases hr
  ·next l hl=>
   have hl2:h2.load b (o+i*4) 4=some l:=by
    unfold H.load at hl ⊢
    split at hl
    ·next cs ro hg=>rw [x.get,hg];exact hl
    ·cases hl
   simp only [hl2]
   cases h1:l.all V.one with
   | false=>rw [h1] at hr;cases hr
   | true=>
   rw [h1] at hr
   simp only [cond_true] at hr ⊢
   split at hr
   ·next t h1 hcall=>
    obtain ⟨h2',e2,x'⟩:=(jd2 hF fu d).1 _ _ _ _ _ hcall X h2 x
    simp only [e2]
    cases hk:jcE h h1 h.nx with
    | false=>rw [hk] at hr;cases hr
    | true=>
     rw [hk] at hr
     rw [x.nx,jik x x' hc hc2 hk]
     exact hr
   ·cases hr
theorem jj8 {X:Nat->Option Obj} {h h2:H} (x:Ext X h h2) (hc : ∀ j o,X j=some o->o.cl=true) (hc2 : ∀ j o,h.get j=some o->o.cl=true) {a:Option (Nat × Nat)} : ∀ {n:Nat} {s:List UInt8},jcn R fu d line h a n=some s->jcn R fu d line h2 a n=some s
 | 0,s,hr=>hr
 | n+1,s,hr=>by
  unfold jcn at hr ⊢
  split at hr
  ·cases hr
  ·next s1 h1=>
   rw [jj8 x hc hc2 h1]
   split at hr
   ·cases hr
   ·next t1 h2=>
    simp only [partAt_F hF x hc hc2 h2]
    exact hr
theorem pParts_F {all:Nat} {no:Int} : jjp (jgh R fu d line all no):=by
 intro args h v h' hr
 unfold jgh at hr
 split at hr
 ·next a n c=>
  split at hr
  ·next ok h1 hcall=>
   have hx:h'=h:=by
    revert hr
    cases jcE h.filt h1 h.nx with
    | false=>intro hr;cases hr
    | true=>
     cases ok with
     | false=>intro hr;cases hr;rfl
     | true=>
      simp only [cond_true]
      split
      ·next s hs=>
       cases Nat.ble s.length 140737488355328 with
       | false=>intro hr;cases hr
       | true=>intro hr;cases hr;rfl
      ·intro hr;cases hr
   subst hx
   refine ⟨zp _,fun X h2 x=>⟨h2,?_,x⟩⟩
   have hc : ∀ j o,jdq (X j)=some o->o.cl=true:=fun j o e=>(jaS.1 e).2
   have hc2 : ∀ j o,h'.filt.get j=some o->o.cl=true:=fun j o e=>by rw [H.get_filt] at e;exact (jaS.1 e).2
   obtain ⟨h2',e2,x'⟩:=(jd2 hF fu d).1 _ _ _ _ _ hcall _ _ x.filt
   simp only [jgh,e2]
   cases hk:jcE h'.filt h1 h'.nx with
   | false=>rw [hk] at hr;cases hr
   | true=>
    rw [hk] at hr
    rw [x.nx,jik x.filt x' hc hc2 hk]
    cases ok with
    | false=>
     simp only [cond_true,cond_false] at hr ⊢
     cases hr;rfl
    | true=>
     simp only [cond_true] at hr ⊢
     split at hr
     ·next s hs=>
      rw [jj8 hF x.filt hc hc2 hs]
      revert hr
      simp only
      cases Nat.ble s.length 140737488355328 with
      | false=>intro hr;cases hr
      | true=>intro hr;cases hr;rfl
     ·cases hr
  ·cases hr
 ·cases hr
end
end Am
namespace Am
open Go Go.Proofs Go.Shelf Go.RowKit
section
variable {P:Program} {C:Cx} {m:Mp} {h:H} {w w':World}
theorem HRel.filt (hR:HRel P C m h w):HRel P C m h.filt w where
 obj:=fun b o hg=>by
  rw [H.get_filt] at hg
  exact hR.obj b o (jaS.1 hg).1
 inj:=fun b b' o o' l l' h1 h2=>by
  rw [H.get_filt] at h1 h2
  exact hR.inj b b' o o' l l' (jaS.1 h1).1 (jaS.1 h2).1
 dom:=hR.dom
theorem jeP.of_filt {β : Nat} (a:jeP m h.filt β):jeP m h β := by
 obtain ⟨b,o,l,h1,h2,h3,h4⟩:=a
 rw [H.get_filt] at h1
 exact ⟨b,o,l,(jaS.1 h1).1,h2,h3,h4⟩
theorem Step.unfilt {N:Nat} (hR:HRel P C m h w) (s:Step P C N m h.filt w m h.filt w'):Step P C N m h w m h w' where
 mono:=Mono.refl _
 old:=fun _ _ e=>e
 rel:=by
  refine ⟨fun b o hg=>?_,hR.inj,hR.dom⟩
  cases hc:o.cl with
  | true=>exact s.rel.obj b o (by rw [H.get_filt];exact jaS.2 ⟨hg,hc⟩)
  | false=>
   obtain ⟨l,co,h1,h2,h3⟩:=hR.obj b o hg
   refine ⟨l,co,h1,?_,h3⟩
   rw [(s.frame l.β (ja1 h2) fun hw=>?_).1]
   ·exact h2
   ·obtain ⟨b2,o2,l2,g1,g2,g3,g4⟩:=hw
    rw [H.get_filt] at g1
    obtain ⟨g1,g5⟩:=jaS.1 g1
    have hne:b≠b2:=fun e=>by
     subst e
     rw [hg] at g1;cases g1
     rw [hc] at g5;cases g5
    have:=(hR.inj b b2 o o2 l l2 hg g1 hne h1 g3 g4.symm).2
    rw [g2] at this;cases this
 nx:=zp _
 dead:=fun _ _ e=>e
 size:=s.size
 frame:=fun β hβ hn=>⟨(s.frame β hβ fun e=>hn e.of_filt).1,hn⟩
 loops:=s.loops
 os:=s.os
 tape:=s.tape
 output:=s.output
theorem jep {R:Prog} (hP:ProgOk P C R) {fu n f:Nat} {a:AFn} (ha:jbI R.fns f=some a) (hp:jbI R.prims f=none) {args:List V} {xs:Array Value} {v:V} {h1:H} (hr:jaL R fu (n+1) (.fn f) args h.filt=some (v,h1)) (hk:jcE h.filt h1 h.nx=true)
  (hR:HRel P C m h w) (hG:GOk C m) (hx:jai m args xs.toList) {x:Value} (hv : ∀ m' y,VRel m' v y->y=x):Calls P f xs w fun e w'=>e = .returned x/\Step P C h.nx m h w m h w':=by
 refine (jlA hP ha hp hr hR.filt hG hx).calls fun m' w' y s hy=>⟨by rw [hv m' y hy],?_⟩
 have s':Step P C h.nx m h.filt w m h.filt w':=Step.back hR.filt s fun b o hg=>jeW hk b o (by
  obtain ⟨l,_,h2,_⟩:=hR.filt.obj b o hg
  exact hR.dom b l h2) hg
 exact s'.unfilt hR
theorem jk2 {b o n:Nat} {l:List V} (hR:HRel P C m h w) (hl:h.filt.load b o n=some l) {loc:Loc} (hm:m b=some loc):l.length=n /\ ∀ k v,l[k]?=some v -> ∃ x,w.cell? ⟨loc.β,loc.d+(o+k),none⟩=some x/\VRel m v x:=by
 unfold H.load at hl
 split at hl
 ·next cs ro hg=>
  cases hb:Nat.ble (o+n) cs.length with
  | false=>rw [hb] at hl;cases hl
  | true=>
   rw [hb] at hl
   cases hl
   rw [zO] at hb
   refine ⟨by simp;omega,fun k v hk=>?_⟩
   obtain ⟨l',co,q1,q2,c,elem,lo,hi,q3,q4,q5,q6,q7⟩:=hR.filt.obj _ _ hg
   rw [hm] at q1;cases q1
   subst q3
   have hv:cs[o+k]?=some v:=by
    rw [zL] at hk
    split at hk
    ·rwa [zl] at hk
    ·cases hk
   obtain ⟨x,q8,q9⟩:=q6 _ _ hv
   exact ⟨x,by rw [jbs q2];exact q8,q9⟩
 ·cases hl
end
theorem jcL.cons {R R':Prog} {f:Nat} {p:Prim} (h:jjp p) (hR:jcL R') (e:R.prims=(f,p) :: R'.prims):jcL R:=by
 intro g q hq
 rw [e] at hq
 simp only [jbI] at hq
 cases hb:Nat.beq f g with
 | true=>rw [hb] at hq;cases hq;exact h
 | false=>rw [hb] at hq;exact hR g q hq
theorem jcu.cons {P:Program} {C:Cx} {R R':Prog} {f:Nat} {p:Prim} (h:jc3 P C f p) (hR:jcu P C R') (e:R.prims=(f,p) :: R'.prims):jcu P C R:=by
 intro g q hq
 rw [e] at hq
 simp only [jbI] at hq
 cases hb:Nat.beq f g with
 | true=>
  rw [hb] at hq;cases hq
  obtain rfl:f=g:=Nat.eq_of_beq_eq_true hb
  exact h
 | false=>rw [hb] at hq;exact hR g q hq
end Am
set_option maxRecDepth 100000
namespace Am.Sigs
open Am Go
abbrev uF {α:Sort _} (f g:α) (_:f=g:=by (repeat (apply funext;intro));conv=>{lhs;cbv}):α:=g
section
variable (S a b c:Nat) (vs:List V) (is:List I) (ps:List AC)
def rV (N:Nat):V × Nat:=match N%33 with
 | 32=>(vs.getD (N/33%a) .nilfn,N/33/a)
 | n=>(([.i 0,.i 1,.bool false,.bool true,.nils,.i 2,.i 3,.ptr none,.i 110,.i 111,.i 64,.i 31,.i 32,.i 113,.i 115,.i 116,.i 4,.i 95,.i 112,.int .u64 1,.i 96,.i 5,.i 8,.i 16,.int .u64 0,.int .u32 0,.int .u8 0,.str [],.i 10,.i 100,.int .u32 1,.i 65536]:List V).getD n .nilfn,N/33)
def rO (l N:Nat):Opd × Nat:=match N%3 with
 | 0=>(.t l,N/3)
 | 1=>(.t (N/3%S),N/3/S)
 | _=>match rV a vs (N/3) with | (x,N)=>(.c x,N)
def r1 (l N:Nat) (k:Opd->I):I × Nat:=match rO S a vs l N with | (x,N)=>(k x,N)
def r2 (l N:Nat) (k:Opd->Opd->I):I × Nat:=match rO S a vs l N with | (x,N)=>match rO S a vs l N with | (y,N)=>(k x y,N)
def rL {β:Type} (r:Nat->β × Nat):Nat->Nat->List β × Nat
 | 0,N=>([],N)
 | n+1,N=>match r N with | (x,N)=>match rL r n N with | (l,N)=>(x::l,N)
def rB (l N:Nat):(Nat × Opd) × Nat:=match rO S a vs l (N/32) with | (x,M)=>((N%32,x),M)
def rI (l N:Nat):I × Nat:=match N%20 with
 | 0=>r1 S a vs l (N/20) .mv
 | 1=>r1 S a vs l (N/20/1024) (.faddr (N/20%1024))
 | 2=>r1 S a vs l (N/20) .load1
 | 3=>r1 S a vs l (N/20) .nilck
 | 4=>r1 S a vs l (N/20/16) fun x=>.extract x (N/20%16)
 | 5=>r2 S a vs l (N/20/1024) (.store (N/20%1024))
 | 6=>r2 S a vs l (N/20/32) (.bin (([.add,.sub,.mul,.quo,.rem,.and,.or,.xor,.shl,.shr,.andNot,.eql,.neq,.lss,.leq,.gtr,.geq]:List BinOp).getD (N/20%32) .add))
 | 7=>match rO S a vs l (N/20) with | (x,N)=>r2 S a vs l N (.pick x)
 | 8=>match rL (rO S a vs l) (N/20/1024%16) (N/20/1024/16) with | (x,M)=>(.call (N/20%1024) x,M)
 | 9=>r2 S a vs l (N/20/1024/1024) (.ixaA (N/20%1024) (N/20/1024%1024))
 | 10=>r2 S a vs l (N/20/1024) (.ixaS (N/20%1024))
 | 11=>r1 S a vs l (N/20/1024) (.loadN (N/20%1024))
 | 12=>r1 S a vs l (N/20) .lenL
 | 13=>r1 S a vs l (N/20/4) (.un (([.not,.neg,.xor]:List UnOp).getD (N/20%4) .not))
 | 14=>r2 S a vs l (N/20/1024/1024) (.append (N/20%1024) (N/20/1024%1024))
 | 15=>r1 S a vs l (N/20/32) (.box (N/20%32))
 | 16=>match rL (rV a vs) (N/20/32%32) (N/20/32/32) with | (x,M)=>(.alloc (N/20%32) x,M)
 | 17=>match rL (rV a vs) (N/20/32/32%64) (N/20/32/32/64) with | (x,M)=>match rL (rB S a vs l) (M%32) (M/32) with | (y,M)=>(.bslice (N/20%32) (N/20/32%32) x y,M)
 | _=>(is.getD (N/20%b) .fail,N/20/b)
def r3 (g:Option (Nat × Bool)) (h N:Nat):Option (Nat × Bool) × Nat:=match h with
 | 0=>(none,N)
 | 1=>(g,N)
 | _=>(some (N%S,Nat.beq (N/S%2) 1),N/S/2)
def rC (g:Option (Nat × Bool)) (l N:Nat):(Nat × I × Option (Nat × Bool)) × Nat:=match rI S a b vs is l (N/S) with | (i,M)=>match r3 S g (M%3) (M/3) with | (g,M)=>((N%S,i,g),M)
def rP (j h N:Nat):Nat × Nat:=match h%2 with | 0=>(j,N) | _=>(N%1024,N/1024)
def rQ (l h N:Nat):Option Nat × Nat:=match h with | 0=>(some (l+1),N) | 1=>(some (N%S),N/S) | _=>(none,N)
def r4 (q:Option (Nat × Bool)) (l h N:Nat):Option Nat × List (Nat × I × Option (Nat × Bool)) × Nat:=match h with
 | 0=>(none,[],N)
 | _=>match rL (rC S a b vs is q l) (N/8%32) (N/8/32) with | (c,M)=>(match N%8 with | 0=>none | a+1=>some a,c,M)
def rM (j l h N:Nat) (q:Option (Nat × Bool)):(Ins × Nat) × Nat:=match rP j h N with
 | (j,N)=>match rQ S l (h/2%3) N with
 | (d,N)=>match r3 S q (h/6%3) N with
 | (g,N)=>match r4 S a b vs is (g.or q) l (h/18) N with
 | (x,y,N)=>match rI S a b vs is l N with | (i,N)=>((⟨j,d,i,g,x,y⟩,d.getD l),N)
def sJ (r:Nat->Nat->Option (Nat × Bool)->Nat->(List Ins × Nat) × Nat) (j l:Nat) (q:Option (Nat × Bool)) (N:Nat):(List Ins × Nat) × Nat:=match rM S a b vs is j l (N%36) (N/36) q with
 | ((x,l),N)=>match r (x.ix+1) l (x.guard.or q) N with | ((r,l),N)=>((x::r,l),N)
def rJ:Nat->Nat->Nat->Option (Nat × Bool)->Nat->(List Ins × Nat) × Nat
 | 0,_,l,_,N=>(([],l),N)
 | n+1,j,l,q,N=>sJ S a b vs is (rJ n) j l q N
def sD (r:Nat->Nat->List Nat × Nat) (p N:Nat):List Nat × Nat:=match N%2 with
 | 0=>match r (p+N/2%8) (N/2/8) with | (r,M)=>((p+N/2%8)::r,M)
 | _=>match r (p+N/2%S) (N/2/S) with | (r,M)=>((p+N/2%S)::r,M)
def rD:Nat->Nat->Nat->List Nat × Nat
 | 0,_,N=>([],N)
 | n+1,p,N=>sD S (rD n) p N
def rK (p:List Nat) (N:Nat):List Nat × Nat:=match N%4 with
 | 0=>(p,N/4)
 | 1=>rD S (N/4%64) 0 (N/4/64)
 | 2=>rL (fun N=>(N%S,N/S)) (N/4%64) (N/4/64)
 | _=>(p++[N/4%S],N/4/S)
def sA (r:Nat->List Nat->Nat->AC × Nat × List Nat × Nat) (N:Nat) (p:List Nat) (l:Nat):AC × Nat × List Nat × Nat:=match N%12 with
 | 0=>match r (N/12) p l with | (x,N,p,l)=>match r N p l with | (y,N,p,l)=>(.seq x y,N,p,l)
 | 1=>match rJ S a b vs is (N/12%128) 0 l none (N/12/128) with | ((q,l),N)=>match rK S p N with | (p,N)=>(.region 0 q p,N,p,l)
 | 2=>match rJ S a b vs is (N/12/8%128) 0 l none (N/12/8/128) with | ((q,l),M)=>match rK S p M with | (p,M)=>(.region (N/12%8) q p,M,p,l)
 | 3=>match rO S a vs l (N/12) with | (x,N)=>match r N p l with | (y,N,p,l)=>match r N p l with | (z,N,p,l)=>(.cond x y z,N,p,l)
 | 4=>match r (N/12/128) p l with | (x,M,p,l)=>(.block (N/12%128) x,M,p,l)
 | 5=>match rK S p (N/12) with | (k,N)=>match r N k l with | (x,N,q,l)=>(.loop k x,N,q,l)
 | 6=>(.skip,N/12,p,l)
 | 7=>(.ret,N/12,p,l)
 | 8=>(.exit (N/12%128),N/12/128,p,l)
 | 9=>match rO S a vs l (N/12) with | (x,N)=>match rK S [] N with | (y,N)=>match rK S p N with | (k,N)=>match r N k l with | (z,N,p,l)=>match r N p l with | (w,N,p,l)=>(.rangeFunc x y k z w,N,p,l)
 | 10=>match r (N/12) p l with | (x,N,p,l)=>(.scope x,N,p,l)
 | _=>(ps.getD (N/12%c) .skip,N/12/c,p,l)
def rA:Nat->Nat->List Nat->Nat->AC × Nat × List Nat × Nat
 | 0,N,p,l=>(.skip,N,p,l)
 | f+1,N,p,l=>sA S a b c vs is ps (rA f) N p l
end
def jA (S N a b c:Nat) (vs:List V) (is:List I) (ps:List AC):AC:=(rA S a b c vs is ps 40 N [] 0).1
abbrev yA (S N:Nat)  {g:AC} (_:(jA S N 0 0 0 [] [] [])=g:=by (repeat (apply funext;intro));conv=>{lhs;cbv}):AC:=g 
abbrev yB (S N:Nat) (a:AC) {g:AC->AC} (_:(fun a=>jA S N 0 0 1 [] [] [a])=g:=by (repeat (apply funext;intro));conv=>{lhs;cbv}):AC:=g a
abbrev yC (S N:Nat) (a b:AC) {g:AC->AC->AC} (_:(fun a b=>jA S N 0 0 2 [] [] [a,b])=g:=by (repeat (apply funext;intro));conv=>{lhs;cbv}):AC:=g a b
abbrev yD (S N:Nat) (a b c:AC) {g:AC->AC->AC->AC} (_:(fun a b c=>jA S N 0 0 3 [] [] [a,b,c])=g:=by (repeat (apply funext;intro));conv=>{lhs;cbv}):AC:=g a b c
abbrev yE (S N:Nat) (a:I) {g:I->AC} (_:(fun a=>jA S N 0 1 0 [] [a] [])=g:=by (repeat (apply funext;intro));conv=>{lhs;cbv}):AC:=g a
abbrev yF (S N:Nat) (a:I)(b:AC) {g:I->AC->AC} (_:(fun a b=>jA S N 0 1 1 [] [a] [b])=g:=by (repeat (apply funext;intro));conv=>{lhs;cbv}):AC:=g a b
abbrev yG (S N:Nat) (a:V) {g:V->AC} (_:(fun a=>jA S N 1 0 0 [a] [] [])=g:=by (repeat (apply funext;intro));conv=>{lhs;cbv}):AC:=g a
abbrev yH (S N:Nat) (a:V)(b:AC) {g:V->AC->AC} (_:(fun a b=>jA S N 1 0 1 [a] [] [b])=g:=by (repeat (apply funext;intro));conv=>{lhs;cbv}):AC:=g a b
abbrev yI (S N:Nat) (a:V)(b:I) {g:V->I->AC} (_:(fun a b=>jA S N 1 1 0 [a] [b] [])=g:=by (repeat (apply funext;intro));conv=>{lhs;cbv}):AC:=g a b
abbrev yJ (S N:Nat) (a:V)(b:I)(c:AC) {g:V->I->AC->AC} (_:(fun a b c=>jA S N 1 1 1 [a] [b] [c])=g:=by (repeat (apply funext;intro));conv=>{lhs;cbv}):AC:=g a b c
abbrev yK (S N:Nat) (a b:V) {g:V->V->AC} (_:(fun a b=>jA S N 2 0 0 [a,b] [] [])=g:=by (repeat (apply funext;intro));conv=>{lhs;cbv}):AC:=g a b
abbrev yL (S N:Nat) (a b:V)(c:AC) {g:V->V->AC->AC} (_:(fun a b c=>jA S N 2 0 1 [a,b] [] [c])=g:=by (repeat (apply funext;intro));conv=>{lhs;cbv}):AC:=g a b c
abbrev yM (S N:Nat) (a b:I) {g:I->I->AC} (_:(fun a b=>jA S N 0 2 0 [] [a,b] [])=g:=by (repeat (apply funext;intro));conv=>{lhs;cbv}):AC:=g a b
abbrev yN (S N:Nat) (a:I)(b c:AC) {g:I->AC->AC->AC} (_:(fun a b c=>jA S N 0 1 2 [] [a] [b,c])=g:=by (repeat (apply funext;intro));conv=>{lhs;cbv}):AC:=g a b c
def c3_0 :=yA 158 0x8bf6095337e9d1d4d66b30acbdaf862ced585cc87bac264ca485df14daf035bcc819485ea9bb31da1ee92b2d85688d6d09bc33c32c313f8095be591fb4c
def c3_1 :=yH 139 0x1423bb762034a059d3a248228f6361e75904a0b5dfe1e0b2af157fb3fc (.nilfn) c3_0
def c3_2 :=yB 133 0x3dd4a5fea78cd8c1b8ad1a6adcded2142a634f5887a6f417ec17b3132b36293aa2a15c9b1deed13d10199c20b8ae5cee7396a5aae3156b66f8d99e49f55cc6e43a10 c3_1
def c3_3 :=yB 114 0xb7c037d4e33e04b194d1f466c936160896970226be3704503ef62640fedb357849d5e0686aeffaa630a0c74daa8acafdcc2c3581f755c1903221fbae73fc91fb5a33a10 c3_2
def c3_4 :=yH 96 0x2efcb1c7f2481d1c5fb2a1f53bfe4ab460b44cfc64e4e1412dc (.nilfn) c3_3
def c3_5 :=yB 92 0x4db7230c63b9111f4973959896ef608882a54e1dada508337b10cc4d3c6fd7f283906b5057f3711d10451aeb600b1fa90bc6fa6ba2ef5d343f133edf49603965889e8238e41edc4bfdeb6cd57f4a0a4f667c2294304790 c3_4
def c3_6 :=yH 70 0x4e742c217d2ccdc4b57e28ce1091b3e9ba7ea5c493536677b2c2374caa8afc9af92dc (.nilfn) c3_5
def c3_7 :=yA 58 0x215b3a00390030fe9ec1bc1029a86e1320286513fc
def c3_8 :=yH 64 0x684d74be53ef03a9acc122f445a5929a170e8a6a52e24e0ec9bd73fa347688178ebd24c (.i 50) c3_6
def c3_9 :=yC 52 0x374376d04c222738b5d216f0e6ba7cfe296cc3264573f17be910 c3_7 c3_8
def c3_10 :=yB 46 0xe69f13d722c7b9b27d6c9cd229b6e67d65d522a223a9d3fc c3_9
def c3_11 :=yB 41 0x671376389882845a3d3cf78822a2bd32fd4304cb07733fc c3_10
def c3_12 :=yH 36 0x72a20dd4d98862b9e4e45c0d752dedb9831efc8e62ee2d7c540ec47254f5b2a54ca302c30b809d19ff008a46429cb6cd3990525d0 (.int .u64 4611686018427387904) c3_11
def c3:AFn:=⟨3,158,[.tmp 6],yB 20 0x38c2d3dcffa61562e6d7502c78b509c c3_12⟩
def c4_0 :=(uF (fun a b c=>jA 65 0x100fa6bff92f1e64a0a255054ff9899e3bc4cf8973e494fb60d87138b75e5d0b43cfd07512fb92d3532ab9dc777beb2c584ac63c2f977e2334947e83813e585d5a6f88c450c8ece4b6d455ec536ffb9f939de945e620c 3 0 0 [a,b,c] [] []) _) (.str [115,116,101,112,32,53,32,105,110,116,114,32,111,114,100,101,114,32,50,44,48,32,112,117,116,32,48,32,54,49,54,50,32,114,97,105,115,101,32,51,10]) (.int .u64 2) (.int .u64 5)
def c4_3 :=(uF (fun a b c d e f g h i j k l=>jA 34 0x48e8a69505294de2bc572903f2b76a60180e3129cb048079eeeae51fb69de133fcb80f33e1a55e966f8acf24f0ea1490d5a2ba14125dda76e2790eae0da0175439c51a6626504f8bbda1527c3ebd2216c1d6541b01c92e5642983c9afc4ac742bf976db95dd204b83ac4cd51587e05a4d5c68927534bdd1d57d72cf8149451b77d72a1c4c8e128135cf7ec 4 7 1 [a,b,c,d] [e,f,g,h,i,j,k] [l]) _) (.int .u8 97) (.int .u8 98) (.int .u64 5) (.nilfn) (.mark (.t 10)) (.build [.i 0,.i 0,.i 0,.nils] [(0,1,(.c (.i 1))),(3,1,(.t 11))]) (.build [.i 0,.i 0,.i 0,.nils] [(0,1,(.c (.i 7))),(2,1,(.c (.i 3)))]) (.build [.int .u64 0,.bool false,.nils,.nils] [(0,1,(.c (.int .u64 5))),(1,1,(.c (.bool true))),(2,1,(.t 9)),(3,1,(.t 14))]) (.build [.int .u64 0,.bool false,.nils,.nils] []) (.build [.int .u64 0,.bool false,.nils,.nils] [(0,1,(.c (.int .u64 3)))]) (.build [.int .u64 0,.bool false,.nils,.nils] [(0,1,(.c (.int .u64 4)))]) c4_0
def c4:AFn:=⟨0,65,[.tmp 0],yB 2 115829674140 c4_3⟩
def c5_3 :=yK 83 0x3de4d347b449c707f0382f961fc23da28a573f63df027ec4ccca94f7cfdecba9c67f81602168899864b0f9c6a84131ccd121905984b4fa4976d5f3064f6942ea6f9aec69f5bdb84d3daa18ab21fde99608071510bf30cd3d4474848c279095ddb325e7546fe47689bdcb882e0546492153ea41b508e215c13ee58f104e49ea9e53d8b3fc (.i 1100) (.i 20)
def c5_6 :=yL 84 0x18642638432ec96aa1cc3bf25e5c5cefdf1f3dc3555f45f15b5975309ff815cb2bca00c00703cf8d757b3185193948990b4c25922a5b7f6b65f517f5aa6ec3cc33eaf48956e53275ffb1ec0f88bb5bbefb60538f1f7d52cba7a225ae887d3886d6091e53718072decfae67d9c2fdc21c14741fe2418af972e1a9d8e926b88f74 (.i 60) (.i 500) c5_3
def c5_8 :=yB 13 0x1dfb4bcf80335f4ed27eed78ae0d56b86cc6eac280563f929be4ec7a324b3e6ea589e10b13b102a74ee54ebe6863fd4d0 c5_6
def c5:AFn:=⟨1,84,[.tmp 2],yB 3 532183339164 c5_8⟩
def c6_1 :=yI 11 0x7a383b2ebb66d760635da2d251ea700143c8689534759be22eceddc15d89009cdacd4d0 (.i 120) (.build [.nils,.nils] [(0,1,(.t 8))])
def c6:AFn:=⟨1,11,[.tmp 2,.tmp 3],yB 4 0xee3f9ac8fad12c c6_1⟩
def c7_0 :=yM 4 0x5edd46a407338e8e024c (.build ((List.replicate 96 ([.bool false,.i 0,.i 0]:List V)).flatten++[.nils,.ptr none,.int .u64 0,.bool false,.i 0,.i 0]) [(289,1,(.t 1))]) (.box 294 (.t 2))
def c7:AFn:=⟨0,4,[.tmp 0],yB 2 116227805340 c7_0⟩
def c8_4 :=yA 35 0x20359e336dc693b53947a630fa3e28e5891cc2d7f3d575451655a9dfc85c6562147a9f79a11a2ba238761e8ba11b47188c8c098c3ddfc0c5b83c4306c9e851bc676057b9b3a1000fce63f7ad193c513a238c0dadeb3fafc96ae1ded970ddb5299c1be3743b16b132022d1759afc32e6ada09dd94f49811bc
def c8:AFn:=⟨2,35,[.tmp 4,.tmp 5,.tmp 6],(c8_4)⟩
def c9_3 :=yA 98 0x4697c28b17169b286d8016a136135de8d48b99b776e67b92ad5024b700027d0b98d8b379c91b905546d2e7cbdb220be818a405cdeeef6df699f18a3589e02d87d7e28c8f1118034cc134c757f68a84ebc26526065d94925998ed36123e7bad186d3737cc50f9d1c8b3224088637dd412c37cb7352b2aa108c1270fc8f67bc6b31cafe33fc
def c9_5 :=yB 60 0x4df9916480ff0d648a0a7291452a4a59b0a9d712f0e2b301d7c5365d00555cb9eb84ded15892ba200ee7f567a0c7b5fabb154ad6d4ff003bdcb07dc6d2264cf9ba13fc c9_3
def c9_6 :=(uF (fun a b c=>jA 43 0x24068709d00b25bd7f1286c4eba987436b77e4ae745c72eb76adfeb3fc 0 2 1 [] [a,b] [c]) _) (.eq .fn true (.t 37) (.c (.nilfn))) (.callv (.t 40) []) c9_5
def c9_7 :=yE 121 0x983e05bebcb35f1303feff45ee03bef66ad175c3b65e96028170f19cdf034c9bad76c332bae5d56674383083452296a1c3ccf774fd80f84309041aa0582b2108566b4e97b770c355ba132d51c (.minI [(.t 108),(.t 115)])
def c9_8 :=yA 36 0x18dc67d09d9b2c7939e27d59b7c3fe61c227d2b9320305019fcf40023e1880ae7993335a7f629c48135e2b9a5025669879b1180d2545154f34685710249f0fbaf8ac90
def c9_9 :=(uF (fun a b c d=>jA 17 0x26686b8d13dfe882ff6f02afb6c17a0c678162a2e6fa6939e20ce3239f5a5c09105a5bbe3ab76910 0 1 3 [] [a] [b,c,d]) _) (.eq .ptr false (.t 11) (.c (.ptr none))) c9_8 c9_6 c9_7
def c9:AFn:=⟨5,121,[.tmp 10],yB 11 0x25766e1190b89509c c9_9⟩
def c10_0 :=yA 9 0x1aebe21b0bfe0df0cf559d4ba3449dc55b4a237b283e104cc57b34e10
def c10:AFn:=⟨1,9,[.tmp 2],yB 3 535049883804 c10_0⟩
def c11_0 :=yE 10 0x80398c2d1dc824b1add3c58f425e9003dba1df7f9e355d45480fe634e10 (.eq .ptr false (.t 3) (.c (.ptr none)))
def c11:AFn:=⟨1,10,[.tmp 2],yB 3 532661096604 c11_0⟩
def c12_2 :=yA 26 0x2f1d5b8a6a16b46025ac96e89cda709d746fa3149790ef379d360083590db9220c6828c7a2a5e84983d6b27dc285650b272658936e0a224159fcd679558e98580b2a23adf9f3843b4414ab5251656cec70632a873240cb09949f6b97151b9fe250
def c12:AFn:=⟨2,26,[.tmp 4],yB 5 4789558881718428 c12_2⟩
def c13_2 :=yK 156 0x144ab8626997588483b18cfa27ef0fcc2b9dfd7e8da7dfc3d95da4868d29311eb92f111d5251f2f8920dadeeb6ea32437039bc68405f4f029e203151acce05bc09575366bc1ff0fa4ba15278db03a055ca9a4bef736c (.str [115,105,103,110,97,108,32]) (.str [32])
def c13_3 :=yB 135 0x1c23257487603f482f2acf2b38f71dc2f55ac82b7313256bf575d4e10 c13_2
def c13_4 :=yK 180 0xae6d53777e86edf7677ef2e808790e5ef60975e4c223dd5ed8ddef8b05abc5d928706e988f4a1f63f8a12628504815b6f6ff64e63de7e83a56604a45fb8300d7b83b54fa49cdb69f4cffc757d375bdede990ea4152335e99d1070e250 (.str [110,111,116,105,99,101,32]) (.str [32])
def c13_5 :=yG 130 0x5d7a65638d8b6e85f95a0689b0aa7af28c934a594494416afb0449 (.str [32])
def c13_9 :=yG 103 0x5738ca921e5f31e256e2d6f0550b94671eef7df4a7ba378c40891f4b73ee33e742f5747ae4404cf90d892abe265f20a2ec9758bf3f98f911d303de892e41dcf648de57554bc879a9d37ff75a6fc34d6d2b8ab626ccb3e9cc26d8feb09d50c94dc6c6e7a9af539abef6663fd3fd2632923b59f9b81051b46c951c (.str [108,105,115,116,101,110])
def c13_10 :=yA 118 0x143cc9ca335f6f0febc407814dc2aa486c3b4a50ab7ea06fc814c8c5c137ed8886e6ebf31a53ffa5a57b02041cc910f32739fb00ca293eb13ce3dcc57135df44fc4d5526eaa7e9f4c1
def c13_11 :=yH 125 0xc6ac6a44c124dc573cda9f469fd2deaebcde5c350afe83a8c7ddd05990c1e164d2a3c3dfd5db90 (.str [114,101,115,101,116]) c13_5
def c13_12 :=yD 80 0x69882ed21d043fcf74f5883f8245acbff17883ff6250 c13_9 c13_10 c13_11
def c13_13 :=yH 75 0x2f16370815a629ae1203c035b47f35d3f60276782955f3a07c62d8227cc7f2dd8df438b76615596966232dc (.str [119,105,114,101]) c13_12
def c13_14 :=yB 131 0x1d4c6322a4855f5eae9d566f2a58122ec926c9f1eb28f3b01fd87708101 c13_13
def c13_15 :=(uF (fun a b c=>jA 61 0x619b5e2e14868bf0406c5fae3336ab868e60c061ba6acdaad64657e73a75accbda366682c48494f69269a0e6d7514f16b3319b38ffccce8e1981d64a769ac7f00c6899c4e60e 3 0 0 [a,b,c] [] []) _) (.str [102,100,32]) (.str [32,119,105,114,101,32]) (.str [32,101,110,100,32])
def c13_16 :=yB 46 0x174c487447eb1a4a0c5dda664be6bda60a3dd81fc7367fdaeb6681e9fddbdef98d66e06777901b39f4ba1190 c13_15
def c13_17 :=yB 34 0xde50c43254e7cbd1413f543956056336d625c6b15d9298288912c c13_16
def c13_18 :=yF 62 0xf1d35dece7a42b23801883e56dceb7b06b944336fe1357fe2ca48d8be40ec2d8d4de0c0 (.ixA 96 3 (some 3) (.t 25) (.t 26)) c13_17
def c13_19 :=yD 68 0x354f9a899778f47414f5e3fab1054e3d6e57149e56c435dcf503f6f53e910 c13_14 c13_3 c13_4
def c13_20 :=yC 28 0x1a3b6e7adfed0e47b7d26d7dc2bb4d3dbc176db3abdd9be19597e250 c13_18 c13_19
def c13_21 :=yH 22 0x16da0bf752420710020226732ce06d29b3a11bde8be137b4748c (.str [110,111,119,32]) c13_20
def c13:AFn:=⟨1,180,[.tmp 2],yB 15 0x37c95f9cc53bcde57556ba4bd920fc7c7d3c60b509c c13_21⟩
def c14_2 :=yA 28 0x9f2301365b2651d67e4eae8a1fd03bc0913cd9fb5738bd95987bc4e71b8dd0fffcbfe0c2d888c6a745c776149dc97b82cdba9b07f364ec3fd8ca6ce64eaef96929b3a8a1c85ad8d43c8cb9f49a6dc653b8595654df13cad0b8b43f9c330ec27b5b8c000b45a36380f2ccaca68eaac15bcca75fe250
def c14:AFn:=⟨2,28,[.tmp 4],yB 5 4789558881718428 c14_2⟩
def c16_0 :=yK 11 0x1ee2d2ded29a8dcfa0057f7bf81a65f36e2776c5616f51c (.i 2000) (.clo 36 [])
def c16:AFn:=⟨1,11,[.tmp 2],yB 3 532422217884 c16_0⟩
def c17_2 :=yA 19 0x48d6cf32540517b972ef323930bb5c0fd213b1dea2672e6367427f91b3993dee007eb12be6242a07652d8a6dd536b1ff2cd3b252a43f363c08ce2bbbc5528f070cbbd01eff3e9e009221114b3c9436d3379cc7fd4d0
def c17:AFn:=⟨1,19,[.tmp 2],yB 4 0x478b5ad0581f49ad09c c17_2⟩
def c18:AFn:=⟨0,3,[.tmp 0],yM 3 0x119018f8aadaabbcd2d109c (.build (List.replicate 32 (.bool false:V)++List.replicate 32 (.i 0:V)) []) (.box 64 (.t 1))⟩
def c19_3 :=yE 29 0xef1ec0078a20619b2598fa1f15c8526fe03334692deb464d358121ae4961e2eb3b03d8fefb433da80c57d86f790d91e4f1c65b3421386b5e512dd9a571fbe09811dbe00d9d044c07285d6f0a44814c1fb61d0a5b056393eb8690a7cfae0a8e4a8f460d4225a2a2e262a204dc0789794563411bc (.build [.i 0,.i 0,.ptr none,.bool false,.bool false,.int .u64 0,.int .u64 0,.i 0,.i 0,.ptr none,.bool false,.bool false,.int .u64 0,.int .u64 0,.bool false,.i 0,.nils] [])
def c19:AFn:=⟨1,29,[.tmp 2],yB 3 533019414684 c19_3⟩
def c20_2 :=yA 19 0xca5e25c2f9ff8df21630575d7ef1ce863eb728976453e11a60b8593bb311058f815166d318234a2b8bbf489431bc
def c20_3 :=yA 32 0x1f16603551b03ab35cf78e617cdba2d2c5490ebe9bea6bafbb9e9b34b78e73bf6095a0b591c4779d65c2c6ce7b43807586182fc82c29f498aecc05a905007ae5a7505cb148c
def c20:AFn:=⟨4,32,[.tmp 8,.tmp 9],yC 10 0x20ed4a2354600f42c31bf912c c20_2 c20_3⟩
def c21_0 :=yG 12 0x10d946994df92139c88212033dbb90a1277d5331866f61379acebdd53fc (.i (-1))
def c21:AFn:=⟨1,12,[.tmp 2],yB 3 532422217884 c21_0⟩
def c22_3 :=yE 40 0x9c3bc9261be2675557730d0bbe654d9993e741903601beeae846f5b4d3bd4717a357046d44899336f358432430d26fd4048034759fd680b29a2edd7c0693c2932185f404f46a04df7ce91feb07396665e33278b99713d221085d15853ef6185945c71a2fde30c1f33e784d6bef2766d2547a0270424bcaba0d04e551c (.slice 4 (.t 18) (some (.c (.i 1))) none none)
def c22_4 :=yB 14 0x5cecbc88d6a62b3659710713b935022cdf5f70a3320399661d948c c22_3
def c22:AFn:=⟨2,40,[.tmp 4],yB 5 4789558881718428 c22_4⟩
def c23_0 :=yI 21 0x22860a0d8062f934b28b8a94914a436083e82041db06d803e4af59fecf017f74b5 (.int .u64 18446744073709551615) (.minI [(.t 11),(.t 16)])
def c23:AFn:=⟨2,21,[],yB 7 0x35fbc08a7c13628ac93f911bc c23_0⟩
def c24_0 :=yM 12 0x28acf3629c132e18fae52a8018c4ce24b5b1616f5ac (.eq .ptr false (.t 3) (.c (.ptr none))) (.eq .ptr false (.t 9) (.c (.ptr none)))
def c24:AFn:=⟨1,12,[.tmp 2],yB 3 532422217884 c24_0⟩
def c27_0 :=yG 41 0x15792279ab52e284cc453f177f2e3c4ec060713711c22485c255705a2011e323a12e059ba8326d36410fc51f70ff6b58757db3adfa4797311e0d96a93f973a4b58e18ea494a9349e2aaacfc02d8094827fa0d12f3ee4ad0009407e43641e8af5b0521df28 (.str [47])
def c27_1 :=yJ 21 0x6d82c63bf07f15393097a331c0265dc23f2c7c443d19b2e35f29203fc8d4d0 (.str [45]) (.eq .ptr false (.t 16) (.c (.ptr none))) c27_0
def c27_2 :=yH 15 0x92b9e073434b75c7a3a7d07c23e123de92b5181d7a1c42feb1256c4e10 (.str [115,104,117,116]) c27_1
def c27_3 :=(uF (fun a b c d e=>jA 10 0x95dfff799283904154250134340ce1f4db25fa756cedef3c4401a67dfeb2934b53fc 4 0 1 [a,b,c,d] [] [e]) _) (.str [110,111,110,101]) (.str [105,110]) (.str [111,117,116]) (.str [99,108,111,115,101,100]) c27_2
def c27:AFn:=⟨1,41,[.tmp 2],yB 3 0x2ce420e321612c c27_3⟩
def c29_0 :=yA 17 0x1016ed980489a9ab7bb335a2e424d40a144273798d71f857a5603b88c90eb13b93375c
def c29:AFn:=⟨2,17,[.tmp 4],yB 5 4789558881718428 c29_0⟩
def c30_1 :=yA 15 0x86f97b8dc13c8db86a1e6666b9e775c33896aae3778993f0b1188c604776689fbe8b98925c511e65b90
def c30:AFn:=⟨2,15,[.tmp 4],yB 5 4789558483587228 c30_1⟩
def c31_3 :=(uF (fun a b c d=>jA 121 0xd08ca54e38e259046318dc5fedf91c5b7c1ce00b38ea3cebcfa57d47581be327ba6717672b5276f3e5bd70c2d380f1fa1fd7af3441f17b2782f099b78542a94ccde9423b9b4b7d9f35e17ffdce6d9ab18f406f1bd8f70f849329c12083e06ff119c65cee589dc19ab9a1ba651c1f32578da15f8ac0c61b6927baf381ff291383b1fd1ab20f180e43c6ee20e7e0556254c27cb2031c421bc4510e16250 1 3 0 [a] [b,c,d] []) _) (.int .u8 16) (.convInt .i64 (.t 113)) (.convInt .i64 (.t 115)) (.sliceS (.c (.str [48,49,50,51,52,53,54,55,56,57,97,98,99,100,101,102])) (some (.t 114)) (some (.t 117)))
def c31_4 :=yI 82 0x1bcbeb136d639cbe88279dbfa099bf68d1daceeab2ee8d461 (.str [32]) (.convInt .u64 (.t 78))
def c31_5 :=yH 87 0x734a5cd8fc39532f999797c112472175b08bb2a797266d89faedd9bba06a4b3e83c54d0 (.str [32]) c31_3
def c31_6 :=yI 71 0xd8701ebd850ed22f86cffebc81183a9493a847190b0a4c61 (.str [32]) (.convInt .u64 (.t 67))
def c31_7 :=yC 75 0x28c7ac2ad7f3690c354348cfd8b967c57b30f8e0a6cd20bfc6d24c c31_4 c31_5
def c31_8 :=yC 64 0x1273ade51511146071fb23124acacbeb78bd5b43dd660784e8124c c31_6 c31_7
def c31_9 :=yH 60 0x7a4d1d51a83cfc501a37ad07e08ccf2d21af9eb3ddff53fc (.str [32]) c31_8
def c31_10 :=yB 54 0x2c8d1083dd843a6e99a25a0c1270a7efe4c9c2e71c3b67273b43873fc c31_9
def c31_11 :=yB 49 0x1938b1adee9e5fadfbe4ea9b63af0222bb9eeb3910069e71737f2dcda4a75de250 c31_10
def c31_16 :=(uF (fun a b c d=>jA 122 0x1543acbc3ca583b193c89ab00b9f1d583edad4b50176214358d179a2265385d4f5c4787670fbed2283a95a24edab36e29ce0bf8e23f85fdca42b162551bfa3ba985344cfc45001e9ec0156deca71dc1bc54a2a4f60e5b13543d55890c0e803eac921d69defc2ea5be78a7c590dc62653c58c750 2 1 1 [a,b] [c] [d]) _) (.str [32,111,114,100,101,114,32]) (.str [44]) (.convInt .u64 (.t 38)) c31_11
def c31_17 :=yH 20 0x12f301ef58277dbaf29f58b6eccd84b54f0a4ef4ce10 (.str [32,105,110,116,114]) c31_16
def c31_18 :=yH 16 0x83b46ecda2902dad4a378b25d602f429b77849bc1e12c (.str [115,116,101,112,32]) c31_17
def c31:AFn:=⟨1,122,[.tmp 2],(c31_18)⟩
def c33_4 :=(uF (fun a b c=>jA 86 0x89c727fc359660e7117f3fdcce38a05fe6b8e24fdda941c7ea1c9757374fc94d56ec48a681bd54b61b7e3953210c15ae58897bfade0bd8a2a802a0def44092e2c1ae26a4568b03e956d49fad73f1d219d28a46a330487734bf19129db2ad5cafc53779c74d81114922131cc9ac7e71ffc551b0b60c27497cba735c30e2a82a658a36955c4211bc257f0512c 2 1 0 [a,b] [c] []) _) (.int .i32 119) (.int .i32 110) (.next true (.t 59))
def c33_11 :=(uF (fun a b c d=>jA 89 0x9ba611c73786df42fee84aa274cfad8a209fc747cbfe80b816a3783a0374baabf7dd77c0c13c2587f961ed928a4a17edb90ffce8af4504bd687414ff62e93bd6616596745321ef623d7c6404aec966b297f9d9f85e14d82fb3ecbb185dcc27a621ee51440ec03fe285b48d9123ccba4e154449d5b90 2 1 1 [a,b] [c] [d]) _) (.p 0 0) (.str [32]) (.range true (.t 58)) c33_4
def c33_14 :=(uF (fun a b c d e=>jA 42 0x69fe361d8dce6b0afe308e0fa5f3a132676e5e8de28a2116a46e436f2b8ff676e03b84109b7594be050e07bd3ef18dc5a18c790b532d7a776d0c49248c081dcec7cfec1e4caeeeb76ba0c25a37f67e4e7bf5d7f4e0cd1bcb221032afd6f05c9b0d0f1deecc38bcaf4b6f07430e23d288b01f4858f0f57a3348fcf64470cd7149d5ca8ce87c0b5033b7f453cda085dba4ef15f6d92403806e4579f9da58237c9f0a918e9be57fdd38e99b521932dc 4 0 1 [a,b,c,d] [] [e]) _) (.str [115,116,101,112]) (.str [105,110,116,114]) (.str [44]) (.str [111,114,100,101,114]) c33_11
def c33:AFn:=⟨1,89,[.tmp 2],yB 3 0x2d1db17fc1e12c c33_14⟩
def c35_0 :=yA 9 0x38583d281518ef9e1f6b4ab64c309f285e147044909c
def c35:AFn:=⟨2,9,[.tmp 4],(c35_0)⟩
def c36_0 :=yA 6 0x2200dd1a0a0fde9f81aa87505db3fa746daac1e12c
def c36:AFn:=⟨1,6,[.tmp 2],(c36_0)⟩
def c37_0 :=(uF (fun a b c=>jA 25 0x39ec5a9912293f2069c9969a6b18964cfc43dae4fd321fb8679ce3717cab54a51bd6b65c12599d6b8f7a371609bf839e7a5e8c9329a7c22ceef82f0bc466307874f5b4ce50 3 0 0 [a,b,c] [] []) _) (.i 50) (.clo 64 []) (.i 120)
def c37:AFn:=⟨1,25,[.tmp 2],yH 4 0x12f2ae5f7ff2455d8c1e12c (.clo 61 []) c37_0⟩
def c38_2 :=yA 32 0x59f9d09ac17e1830952b63da3681bc6ebea32a5f528bdbe51ca60ebe9d006b48a0168b440747565fdb88686d4350723ef8c77ef4809e938a24c1f63a09884e5038097584450d1a99e7ab398c24dd4ad0973d3c8f4bd0908d99e0b57ffa428db90
def c38_3 :=yB 12 0x99ed3bb1e487ad18c479140ec39474aa2a1e8dbf6419af3d66521b2474c1d80ae8902b984e4f39e95ac c38_2
def c38:AFn:=⟨1,32,[.cellN 2 4],yB 3 0x2a04996addacc8eabc1e12c c38_3⟩
def c39_1 :=yM 14 0x207774792315068591a3ed4f97e9883571624906241b4fff63c14c9beb540ba16187a0de8525a3cce910 (.mkSlice 1 1 [.int .u8 0] (.t 10) (.t 10)) (.build [.nils,.i 0,.i 0,.int .u64 0,.int .u64 0,.bool false] [(0,1,(.t 11)),(5,1,(.c (.bool true)))])
def c39:AFn:=⟨1,14,[.tmp 2,.tmp 3],yB 4 0xee3f9ac8fad12c c39_1⟩
def c40_0 :=yA 9 0x10c95981326613d3471ba96dd402e6dfd2f3fc
def c40:AFn:=⟨1,9,[.tmp 2],yB 3 532422217884 c40_0⟩
def c41_1 :=yG 32 0xc0ad02384c3379cb1393f454a2208f2941ad0c261fb23dd574ca616e4d93c64aa7438f87c (.i 1000)
def c41_2 :=yC 19 0x20b8e9a26708968c4a3b5179d2d70ea5d32d5375733ffe2b04a6b8ea28fef824f5cc3714cf7e27afea6051428ce34bcb21fce2ae7bbdd884a18b49b48bac1c75a (.label 0) c41_1
def c41:AFn:=⟨2,32,[.tmp 4,.tmp 5],yB 6 0x8fb2b724723b958fed31bc c41_2⟩
def c42_3 :=yA 51 0x611869fbab388dbbf167e78da3d02706268ccd76c7efd09fce5e2061d70a485
def c42_4 :=yF 41 0x4254d1cb2f9f06cb06ececbbb2e1f765c3792fb85724334b9a22a46909b55e90517e1c23b42116a34dcedf911e4e54e6d90f377d1579c1be01f5895331cde0024767125491d7df1de347794685ff23a9471b357b5bea955ce56266895fb475a0245ede5e24a99532f94ec00adf0fbed55fb7ac466bd3a32aa644197042e1d829fd81f4d4d0 (.build [.bool false,.i 0,.i 0] [(0,1,(.c (.bool true))),(1,1,(.t 34)),(2,1,(.t 35))]) c42_3
def c42:AFn:=⟨3,51,[],(c42_4)⟩
def c43_0 :=yA 19 0x28889a551ac283ad5b751d1700d8545e9e6e0d799794ddcaccde6e67d9b4d3a4c003eedcefe9d0719472977ff6d85d63c
def c43:AFn:=⟨2,19,[.tmp 4,.tmp 5],yB 6 0x163572952108f7112c c43_0⟩
def c44_4 :=yA 39 0xac6efdc4efecd0ba3a1942003586ecc244ef22cd20b61ac3c461b490e3ae1e9dc4fbd00e7e818995d00ab89006163c
def c44_5 :=yA 25 0x6b0919664c5aa8a5fd94fc02e4262ff846cf2925437d7eb7a9f342b5ac
def c44_6 :=(uF (fun a b c=>jA 67 0xa9b27f3cfc28622d4f3e82ecf03b6dea9eaeda377feb7754e9336b4d3e4cd0b02121d0dfcfe35493b79a555f137e4ed8cb3339921aa5cdb1ce067177d185a33af2d36aeb4eaf33e55208422538976511430aae7be1762961ad4f2a9cc5d8ec5d9bf45f020be4ea0f6e1fdb99816428409bf99d5c989dfa3709313cd894d4035405d2aebf89f0941e279b443e68c8eaa16c647a2ffff1dde22dd9201e13b674f 1 0 2 [a] [] [b,c]) _) (.i 6) c44_5 c44_4
def c44_7 :=yB 71 0x79befffd45bce934392f6d89b5748c756aa9c5858e5380ec5e3cd07eef9f7e2713a1d47f0c32b7e4ce10 c44_6
def c44_8 :=yH 13 0x8646f7b208b12ea437d085a7cf5213503232ee7a63c54d0 (.i 120) c44_7
def c44_9 :=yB 10 0x1870de1819428a6612e69929114c1ccf98ccc71ca4d08d8dec93231b1bc c44_8
def c44:AFn:=⟨2,71,[.tmp 4,.tmp 5],(c44_9)⟩
def c47_2 :=(uF (fun a b c d e=>jA 24 0xd33ff95e2a70fb0a47b03916ee890f2e698cb3e36f3fed8022696a41d19a9bcd3ff3dbd7bb5698f08308a23d5858975d2508d3baaa4a6b7b1298c7c1ebbabaf80d7e705f64239de7d68cb485f6c826a603338c5fdfd4d0 2 3 0 [a,b] [c,d,e] []) _) (.int .u64 4) (.int .u8 15) (.ixStr (.c (.str [48,49,50,51,52,53,54,55,56,57,97,98,99,100,101,102])) (.t 14)) (.ixStr (.c (.str [48,49,50,51,52,53,54,55,56,57,97,98,99,100,101,102])) (.t 17)) (.ofBytes (.t 22))
def c47:AFn:=⟨1,24,[.tmp 2],yB 4 0x478b5ad0582ceecd09c c47_2⟩
def c48_2 :=yE 25 0x1c596d4d17ec5dd80b2427045ef802d27d324e96db956b58eb464e5efcc75b3e30a91ae8ad7319bd05417fc5a42fc9dd632a4f5be3fc7edd8cdaaa7a938c8b83cbe0acca45395e3c347b16250 (.minI [(.t 7),(.t 9)])
def c48:AFn:=⟨2,25,[.tmp 4],yB 6 0xd6f0a7a432590d786760109c c48_2⟩
def c49_0 :=yA 9 0x1aebe21b02c61bf07437efc787308441dda71843283e1adbd1f334e10
def c49:AFn:=⟨1,9,[.tmp 2],yB 3 532183339164 c49_0⟩
def c50_0 :=yA 15 0x7e25e1593efd4e32ccd096d4f4c80aaaa28aadb3669363c
def c50:AFn:=⟨1,15,[.tmp 2],yB 5 0x3eb06c7e4af3f7725e43bd4183137394d386509c c50_0⟩
def c52_1 :=yE 12 0x3e74f9865516d1e62928e0bd51a3112d9242babd8518c58f92390d9bde9a89bce32b68722f004f1a2ae0b68785caf109c (.eq .ptr false (.t 6) (.c (.ptr none)))
def c52:AFn:=⟨2,12,[.tmp 4],(c52_1)⟩
def c53_2 :=(uF (fun a b c d e f g=>jA 23 0x1cfc6d8eb48570c5007c3bd1c34b4bc6a3f042e5ae57c57a32b46b8e07c4a92c479cd5b761228efa89359eedafdb2453bc12e5b3b8d733277cc1e43120912fea97ed06dfb78881445000777052d292b8fd6d09c 3 4 0 [a,b,c] [d,e,f,g] []) _) (.int .u64 9) (.int .u64 10) (.int .u64 48) (.convInt .u8 (.t 8)) (.ofBytes (.t 10)) (.convInt .u8 (.t 17)) (.ofBytes (.t 19))
def c53:AFn:=⟨1,23,[.tmp 2],(c53_2)⟩
def c54_1 :=(uF (fun a b c d e f g h=>jA 13 0x10dca554e1358e042432015e38abfc3cfbe3f2a7ce1d2cd17c5b94cff99332079a2aacb660ea2bda9d2429ac38be8aab8d9a3ec6702e75ac234bc36910 8 0 0 [a,b,c,d,e,f,g,h] [] []) _) (.i 7) (.str [112,117,116]) (.str [116,97,107,101]) (.str [115,104,117,116]) (.str [99,108,111,115,101]) (.str [114,101,115,101,116]) (.str [99,111,110,110,101,99,116]) (.str [114,97,105,115,101])
def c54:AFn:=⟨1,13,[.tmp 2],yB 3 535408201884 c54_1⟩
def c55_0 :=yG 9 0x10c95981326618acf976fc03927ee6dfd2f3fc (.i 6)
def c55:AFn:=⟨1,9,[.tmp 2],yB 3 532422217884 c55_0⟩
def c56_0 :=yK 13 0x2cd065dbf1f0295b5cf798b6b326c906836acb8bd2de47c946258af63c (.i 6) (.i 7)
def c56:AFn:=⟨1,13,[.tmp 2],yB 3 532422217884 c56_0⟩
def c58_3 :=(uF (fun a b c d e f=>jA 15 0x10cfe5ce4de74b0056b67386b8492d57a82c8a98fe86f9ed712ae73068e026c391510ce1794dbde1e450f0ab01050b0a3ba7b68abece95ac5c6318d7ae07f8cfabe3f41f6e39589297b28da3ed6886cb785188b219ef7419b6d775757fd2b58e15c25e8bc4d4750 6 0 0 [a,b,c,d,e,f] [] []) _) (.str [119,100]) (.i 6) (.str [119,110]) (.str [119]) (.i 7) (.str [110])
def c58:AFn:=⟨1,15,[.tmp 2],yB 3 535408201884 c58_3⟩
def c59_2 :=(uF (fun a b c d e=>jA 24 0xd33ff95e2a70fb0a47b03916ee890f2e698cb3e36f3fed8022696a41d19a9bcd3ff3dbd7bb5698f08308a23d5858975d2508d3baaa4a6b7b1298c7c1ebbabaf80d7e705f64239de7d68cb485f6c826a603338c5fdfd4d0 2 3 0 [a,b] [c,d,e] []) _) (.int .u64 4) (.int .u8 15) (.ixStr (.c (.str [48,49,50,51,52,53,54,55,56,57,97,98,99,100,101,102])) (.t 14)) (.ixStr (.c (.str [48,49,50,51,52,53,54,55,56,57,97,98,99,100,101,102])) (.t 17)) (.ofBytes (.t 22))
def c59:AFn:=⟨1,24,[.tmp 2],yB 4 0x478b5ad0582ceecd09c c59_2⟩
def c60_2 :=yI 19 0x9ee3fa1b608e88707de941dcd1ab47506f3fddb1a70479431a63d42c56c8398b777844a3a12565ee542e0d4630ee55029ae175583b316cbc4cd71eba7c4f5b65c59d36f2b65bbbfcd6707793d52909c (.i (-1)) (.callv (.t 11) [(.t 15)])
def c60:AFn:=⟨2,19,[.tmp 4],(c60_2)⟩
def c61_0 :=yG 9 0x10c9597ec92a6e48afd099e050862de8caf3fc (.i 999)
def c61:AFn:=⟨1,9,[.tmp 2],yB 3 532422217884 c61_0⟩
def c62_0 :=yA 9 0x38583d281518ef9e24c8d2b11fa454285e147044909c
def c62:AFn:=⟨2,9,[.tmp 4],(c62_0)⟩
def c63_0 :=yA 9 0x38583d281518ef9e24f9e0b0f0562ce85e147044909c
def c63:AFn:=⟨2,9,[.tmp 4],(c63_0)⟩
def c64_0 :=yA 6 0xafdb17ccbc8d698b2eb559edbfa746daac1e12c
def c64:AFn:=⟨1,6,[.tmp 2],(c64_0)⟩
def c65_3 :=yM 32 0x157c9c723b0ebf13f6891fde93e677957357883f7df072092203184fedbb702a9b8d3f047627110945e002da80b76e07b52bae6a48e6dd212deb1e5a22c1ebf9110d7375cd6f6e47f6824d9990dcd2a9948bc6d90fcda7ba5cad4902db7fc120fe250 (.callv (.t 16) [(.c (.str [119]))]) (.callv (.t 24) [(.c (.str [110]))])
def c65_4 :=(uF (fun a b c=>jA 45 0x4c55fec69f2082ac936114949b62baca198fdfc7d93c5e31fa617d9109916d3b8def3db63503dbe3b817ec 1 2 0 [a] [b,c] []) _) (.i 1000) (.callv (.t 32) [(.c (.str [100]))]) (.eq .bool false (.t 33) (.t 37))
def c65:AFn:=⟨1,45,[.tmp 2],yN 5 0x3406d368e5e5807ec2a8817ac1e12c (.mkClo 90 [(.t 1)]) c65_3 c65_4⟩
def c66_0 :=yE 8 0x97181ddb1483dc310daf60ea68fe0a697dc80c68f073dd106732334e10 (.eq .slice false (.t 3) (.c (.nils)))
def c66:AFn:=⟨1,8,[.tmp 2],yB 3 532661096604 c66_0⟩
def c67_0 :=yE 8 0x97181dddec2001f91245434d4fbd7c7f08080c68f073dd106732334e10 (.eq .slice false (.t 3) (.c (.nils)))
def c67:AFn:=⟨1,8,[.tmp 2],yB 3 532661096604 c67_0⟩
def c68_0 :=yE 8 0x97181dda95315253d5d498b368fe0a697dc80c68f073dd106732334e10 (.eq .slice false (.t 3) (.c (.nils)))
def c68:AFn:=⟨1,8,[.tmp 2],yB 3 532661096604 c68_0⟩
def c69:AFn:=⟨1,4,[.tmp 2],yI 4 0x3e74bc8c76a4aa590df662612c (.nilfn) (.mkClo 92 [(.t 1)])⟩
def c70_1 :=yE 29 0xcbd007afe866d25979685191987ec297f6a4a30c3529ab3b4206263e6ef43b34364a1072cff07c03b8a48734d33b188fb3e81644b3d3b63a4f1501fcc0c9e97ee800d1725106234779d76bd6a8fcf60c04502415b3894191bc (.build [.bool false,.i 0,.i 0] [])
def c70_2 :=yA 48 0x65bef6d184778fae1fe07114497a031a70cd173815e1e82de383a9c4e389715e717bcc61ff9bb6cc2daaed8717624c4d390db07c4b4be6056ef94de91bfb050d3263c6c
def c70:AFn:=⟨2,48,[.cellN 4 3,.tmp 5,.tmp 6],yC 7 0x8e302c0e1b468cb7e4ea210694c391bc c70_1 c70_2⟩
def c71_3 :=yG 44 0x7eb3c8dbcc362e031ae747a4ef2e29642c5f1d0d6031e6b8c6387791c6ce4dc288de33a42ce73d89073d6ebcc17331653b18c33455f74617a42f65b321930b7b921eb793cd79a06653c32c08d42ed68b09ccd9aa617c6bc89f4e6cdc56f389b8b2546627d0305f0caaf3ed23359f1346f17f3055a61523330f3317477752c36c26312829bfd500314778f8b880eff48c (.i 114)
def c71:AFn:=⟨3,44,[.tmp 6,.tmp 7],yB 8 0x1da1d5b8829afa5512c c71_3⟩
def c72_3 :=yA 31 0x163582b14af67cc3829163f123c5331c7e8d7687a62d77aa2dd53558b3ab7bcca6cab665aa44225f60f23f849bef8e2b3d855dd311f9fa69b24a21461cc9b79209cad25fe500a6d495940a6e183e9aa0fe02409c88d9a0dfcc914d7bc8d57b09ca21e5040bc73d66ff9e38ff48c
def c72:AFn:=⟨3,31,[.tmp 6,.tmp 7],yB 8 0x1da1d5b8829fb95512c c72_3⟩
def c73_1 :=yA 18 0xc76ebc96030c854094f365d6bb18497471aec78a09ab9d1a82cc5bc65367f9d8df113365cb2acd8957a68bf1111948c
def c73:AFn:=⟨2,18,[.tmp 4],yB 5 4789558483587228 c73_1⟩
def c74_1 :=yA 18 0xc76ebc96030c854094f365d708437910cc395a1a9a352259c4bc6e4bb1aaf9d8df113365cb2acd8957a68bf1111948c
def c74:AFn:=⟨2,18,[.tmp 4],yB 5 4789558483587228 c74_1⟩
def c75_4 :=yA 41 0x37c9d29c042804c226315cb6033de6a49da35626acff7f10f0e0a8e980053fe11029dd6527940c16839659b3a7b0ce23dddff6b9925d61c89223606624d23ed3892d8786d755a757db33db11db9ac8c97c29ca15d9a2178ea31436b177d500f4ed8c265d20bb7cbf9b3cbd7fa86746663aaaf0a4442cbedde9ac2ce4e5c34e1a6bd69a2ce8bae934db88a41933bb48c
def c75:AFn:=⟨2,41,[.tmp 4],yB 5 4789558483587228 c75_4⟩
def c76_3 :=yA 143 0xb7109f41aba867fdb1fd839c739fd257473ee64ae0a2e48f20957aa63db307adc3d851b58ee662fecef484ae1ec291c2fc3c5bcca6a72e9ae326da59a5f8e401e8b05bab00bf4d6307baed5c50f5d2945a68e8cadb025cb6d04ba9a6f64a4495b35c1798001da35f469223e6e0b3f9e28164bd4f3c0d52cc393f06fef3545419dcbca6a270b8b10f896c739e9dfe8b0c55580d85da9bc9c8a8
def c76_4 :=yB 101 0x465ead699ebea3de9bea367cedb5686c2a07b4d8a548c c76_3
def c76_5 :=yB 94 0x17be911997b99b8432b8351abbe87940c708c4d110b36c c76_4
def c76_8 :=yG 87 0x20b32d8a7da757ad42ff828bafd5d3a06052d37f638da859b91e170fe0b9dcae01739d3455b4ad4f485df862cdbc92773c1fbcac360a6a50558b0eaee39b2c0e3783ca1128790094e74cfb349d838859631f1b118959701db2840b9da0bed63c947b227167e2b6eb2350dd777e3a0f731c08220dd24c (.i 1000)
def c76_9 :=yB 53 0x5594d1cd5fc4cd6cc0a4383126ad82673125e15598b1a6213517f87fc07c618299e897142350e76ebad5019a5a2af393cd794d84e0f505927d800ab836c5c63bc968722659e322f915cf63cfda1e436f03f2af29a3c218f3d20a4751e2416e6aadf43845ec0a302c668c c76_8
def c76_10 :=yC 89 0xc63634c8f6fdc1f6b99a1bf563afc37b21d989e58710fcc817d11b7dfa3494a1ec1cfbfce030 c76_9 c76_5
def c76:AFn:=⟨3,143,[.tmp 6,.tmp 7],yB 8 0x1da1d5b8829afa5512c c76_10⟩
def c77_0 :=yA 17 0xbaf427184b8fc522a6ba3fccd4d9d27a8bc8b44583a6012fa5d35c944f3bab11db93fc
def c77:AFn:=⟨2,17,[.tmp 4],yB 8 0xa45c4dc18cc1ea998cbb000c21d2128b3e25932d109c c77_0⟩
def c83_0 :=yI 8 0x1290ec49185ab4ce522a1666af3a2065a1531f24c (.nilfn) (.mkClo 107 [(.t 5),(.t 4),(.t 3)])
def c83:AFn:=⟨3,8,[.tmp 6],(c83_0)⟩
def c84_0 :=yE 12 0x7a06da27d437bfc5240a77f6c69429455d39616f5ac (.eq .ptr false (.t 3) (.c (.ptr none)))
def c84:AFn:=⟨1,12,[.tmp 2],yB 3 532422217884 c84_0⟩
def c86_0 :=yA 9 0x10c959813265b2d157f935baf252e6dfd2f3fc
def c86:AFn:=⟨1,9,[.tmp 2],yB 3 532422217884 c86_0⟩
def c88_2 :=yI 19 0x27b8fe86d823a21c1f7a5077346ad1d41bcff76c69c11e50c698f50cef1ace0ed621dab6bb6be5b0641e11f7debb919809b5a603316cbc4cd71eba7c4f5b65c59d36f2b65bbbfcd6707793d52909c (.i (-1)) (.callv (.t 11) [(.t 15)])
def c88:AFn:=⟨2,19,[.tmp 4],(c88_2)⟩
def c89_2 :=yI 19 0x9ee3fa1b608e88707de941dcd1ab47506f3fddb1a70479431a63d42c56c8398b777844a3a12565ee542e0d4630ee55029ae175583b316cbc4cd71eba7c4f5b65c59d36f2b65bbbfcd6707793d52909c (.i (-1)) (.callv (.t 11) [(.t 15)])
def c89:AFn:=⟨2,19,[.tmp 4],(c89_2)⟩
def c90_0 :=yA 9 0x25c6d299897c72a9dde6f927e63b8b39cb3d78808c703a709c
def c90:AFn:=⟨2,9,[.tmp 3],(c90_0)⟩
def c91_0 :=yA 9 0x38583d281518ef9e28cef8ad3e3b1be85e147044909c
def c91:AFn:=⟨2,9,[.tmp 4],(c91_0)⟩
def c92_2 :=yM 23 0x136ad150efb704da1d30f78de3c5ee86e8215b86015e7522fe91d4dc0b4d8fb1abc0338320df39de676190b6b53eea5625c1226b3741550eadbce9af88f64f8dc716f72613b2a5eaf00698c854877f5d4f2dc (.ixA 96 3 (some 3) (.t 8) (.t 9)) (.callv (.t 17) [(.t 18)])
def c92:AFn:=⟨2,23,[],(c92_2)⟩
def c93_2 :=yA 43 0x1405424e7f5ae194421867bc62d3f59f9bbdf2b3742dc58da3f1ffee0d60df9133534946010c9d7aad8b0d2a76f0998b4449fd37944c612161ba2ccecb814a2f9eb99ccf6be2021f0e9e0c2229a7bbf5913f03c4a5697cc9762d2121f92c39c0a038b574f2aff40b998301b42718bd47db3b44b91bc97fce030
def c93:AFn:=⟨2,43,[.tmp 4,.tmp 5],yB 6 0x16357295216ca2112c c93_2⟩
def c94_1 :=yA 25 0x2b602c69e43b8ab58fdad56cf528e322d31d8af0184e5f6dad6cb953fbeaa7082295c4787e8a4479c312d34bfcc5f6830354556983121e3237caf1963c
def c94:AFn:=⟨3,25,[.tmp 6],yB 7 0x17d6b927192d09c c94_1⟩
def c95_1 :=yA 25 0x3814e9431792cd33269798def0c9d404a451168d89012932b0dc7877ca6b308f967c3ac8036e2b242bffc722b30442c74aed9781d56713d1a9195ac
def c95:AFn:=⟨3,25,[.tmp 6],yB 7 0x17d6b92b404d09c c95_1⟩
def c96_1 :=yA 22 0x3cc9a179698735ad84b51b356d62620fd5eb6a3fbdc546295d157cd3971e3c87bd0d6c67acebc77e92e528cbee0ba39d998616d60975f5aeb4308be9148c
def c96:AFn:=⟨2,22,[],(c96_1)⟩
def c97_1 :=yA 22 0x4a978e14774a27f8aa1ef2c3cdf1f5131094cdd8c2c83d0c8905ca844acb281e7789d15c185458935365176b28e185221de565a396916cc
def c97:AFn:=⟨2,22,[],(c97_1)⟩
def c98_0 :=yA 8 0xa4dd65cbb174afbbc433529ef248c3cc8ebf6e30d09c
def c98:AFn:=⟨1,8,[.tmp 2],(c98_0)⟩
def c99_2 :=yA 53 0x22805950e40bc39fc11a057980dbf592dfb6496215e716b4c52d8f49396defad4e96acd5cd73fdcfe199fbc12766c6cea6c52aff8e75c4039b1eceb4a8f09f964297bdf7775ac
def c99_3 :=yF 31 0x5076c6398e99d0adff6ae8499631dfb802f94db2da1a384d046785720311feee1c23bf7399611a8f943d5c67793c4cebba639b4ba91ec8eae7c661d354cdb1cfbbf06bad4468210ad0 (.eq .ptr true (.t 16) (.c (.ptr none))) c99_2
def c99:AFn:=⟨4,53,[],(c99_3)⟩
def c100_2 :=yI 36 0x349129a51fbf74ef702f807cd67979d6855cda5f86ef580d6b46bf056e085aab873de0bfb61fc74f79b32a69a5ff90d6c633f595f51b7a92c0b87a3255a4b0f1893f7e2e3fc7344a461bc5d4814f695424eee08dc8f7fe87fc392299ed467f3603db3ad6c405aed77e3c344dfdb90 (.i 2147483647) (.minI [(.c (.i 1)),(.t 30)])
def c100:AFn:=⟨2,36,[.tmp 4],yB 5 4789558483587228 c100_2⟩
def c101_3 :=yG 57 0x91691a182f0523b4c6a7d596fb781ff327428a091027c2a8f3e7b411c2fc9b9f601dfe7b527dfdf37bb14de12348be25bfa012418cec5701fe846a676c24e9e7f5ebb79b4177ffda731b571fe9cd0fa0880dff96c29d1c5f8e2ee4e1fb966f436217ed67de0fef150590de9ff748c (.int .u8 1)
def c101_5 :=yB 27 0x1f3b5b8c9b1c4229789ff805109cfefa38fb425520504227d47b670e70cd7484af8903ecaee42b606528dc32f674d86d3223001dc01afd7868e6910 c101_3
def c101:AFn:=⟨1,57,[],(c101_5)⟩
def c107_2 :=(uF (fun a b c=>jA 43 0xa5264c53cef9c9afb351e5bc07fc588be4bbe0a9fddde840513f80d21ac25b41bc07848b17a9b9b0a2e3282133af682bc76a966f72600cc88ed78ada167bb1e523b97622a6a35af3a2ee10c958d255d9af2bbd24629659178086c8c4b0460228d004da1fbac66f48c 0 3 0 [] [a,b,c] []) _) (.minI [(.t 23),(.t 28)]) (.slice 1 (.t 19) (some (.t 20)) (some (.t 29)) none) (.callv (.t 31) [(.t 32)])
def c107:AFn:=⟨4,43,[],yC 9 0xab6e8906737b7b170117b38654191c2213c3a (.label 0) c107_2⟩
def c109:AFn:=⟨2,8,[.tmp 4],yA 8 0x4ca912ac4b60cadcf60cc848b54335932d109c⟩
def c110_3 :=(uF (fun a b c=>jA 58 0xe39be109433537092b3a7a39fde5cfd406d02cf4f7effa99ff568e399de947c6351696b76142686756c888d7fe6d20412cb7413a13b2cc6b928a80c60367efe29359254c025826f3c5ed19936d46a0c123f48bc71ba9cc05441598196082bd6b0a9d5968c13dd700ae14a1a60ddb0772fbd2713fde0ffa96ea91587d21850 0 3 0 [] [a,b,c] []) _) (.copy 1 (.t 33) (.t 34)) (.slice 1 (.t 32) (some (.t 35)) none none) (.convInt .u64 (.t 51))
def c110_5 :=(uF (fun a b c=>jA 18 0x1d36e5883e6236364ac6dfc4d40f5ddb82cc7adf98f95a381751f3af917440b1eaf568ab3a036aa87a0f9e62a254e6bb748c 0 2 1 [] [a,b] [c]) _) (.minI [(.t 9),(.t 11)]) (.slice 1 (.t 7) none (some (.t 12)) none) c110_3
def c110:AFn:=⟨2,58,[.tmp 4],yB 5 4789558483587228 c110_5⟩
def c111_3 :=yE 48 0x1c4e3b639941ec0bf06b47fdc8cbd70fdec9fdf4e3ee61fe6532e14f50135241f703921311c20220b62aae0d82c7d71fd81ffe7ad1e5c9633cccb641c20f3a5ab66b1ee3a66b1b2a39cff2d6c93e2dca33f23ca198875a0e3d6c8007aefd3804fe3f476c02df4f1c37137c5e4c54d0 (.convInt .u64 (.t 42))
def c111:AFn:=⟨2,48,[.tmp 4],yB 9 0x786d36ca26d2bb4ba8be3406b39f039c9afb909c c111_3⟩
def c112_1 :=yA 13 0x13cd27dc47ea229bdd421dc2dc62c691ed1c6f69c6fca985f5736fab22f7b00a933f1b62b16111b8216df91e1cfc5e1eadea2fff6c36bb1712c
def c112:AFn:=⟨1,13,[.tmp 2],yB 3 532183339164 c112_1⟩
def c115_4 :=(uF (fun a b c d=>jA 143 0xfe791c72295809e6d973750fbd7d39bc68dadafc6d985b3e55cfdb09fe342b7ddb743b4b436399acdda6b4fc61b91d6c06696bcb2698b8b96adb644e8510d5a3b4c0c0977baef2ee50666307df008315cb25d8bfbb0a68b9770b94db53af1ed587c 2 2 0 [a,b] [c,d] []) _) (.int .u64 4) (.i (-1)) .fail (.sliceS (.t 133) (some (.t 134)) none)
def c115_6 :=(uF (fun a b c d=>jA 118 0x1809d5d5ede0a5f82afeafe9e66e87c6a53e8b1e93a3f9431981e3040486cbbd567b8f28e75cd043d7962e87696866fe19ebffebd1f7b850e69cc94778166e325da280138a6fa308bef04cc2a255832ed09804f46fc1a953b24944f4ba8ffb3597f1171bc 1 2 1 [a] [b,c] [d]) _) (.i (-1)) .fail (.sliceS (.t 108) (some (.t 109)) none) c115_4
def c115_10 :=(uF (fun a b c d e f=>jA 95 0xdbe7fe5ed6023bbc3024229365023a080bb8b2c9a8c85002ed4a92ea6d58f9c300e28e28224114d04ecb4c43002b242d71774ca7a9fbf7ddef87ee05eac0cce14ef7048e1a3f74d31e91b59afe682bd5ddeadd710238489026fdc04c74408c4858f9296c149bfd62da0b43a6a18537d1224d27d5e8e02ae20cfb9ad503cb12f25fd3d22e0e250 1 4 1 [a] [b,c,d,e] [f]) _) (.i (-1)) (.ixStr (.t 60) (.t 61)) (.sliceS (.t 65) (some (.t 67)) (some (.t 68))) (.ixStr (.t 78) (.t 80)) (.sliceS (.t 85) (some (.t 86)) (some (.t 89))) c115_6
def c115_16 :=(uF (fun a b c d e=>jA 48 0xcc8aa671f3cdfa5b56d1c42614f6ec4eeedf7301fcee9e64272dd27edf736370136346cb00b7a0c9f35bbab62d376803d45259990cec0b393c588444ee9be8b76667f6fb32f5419141606def6c1354ff5f45b55198f0bce827814bec788dc1814695ebd4672096b73a53ea80c6d79be8c216ed9798c52cc475f5485c2cb48c 1 4 0 [a] [b,c,d,e] []) _) (.i (-1)) (.ixStr (.t 28) (.c (.i 0))) (.lenS (.t 33)) .fail (.lenS (.t 41))
def c115_17 :=(uF (fun a b c d e=>jA 60 0x13c8339c3e0ef64819d607223c4919d20cbd18fa694a8522a0a1d45329737fff6b5acf03eea4f24687fe07476897c38dc3ee332fc117a75b05ac514086f3a60622f10efc35e91bc 1 3 1 [a] [b,c,d] [e]) _) (.i (-1)) (.ixStr (.t 48) (.c (.i 0))) (.ixStr (.t 50) (.c (.i 1))) (.lenS (.t 52)) c115_10
def c115:AFn:=⟨2,143,[.tmp 4],yN 16 0x2a9ec81d7ed33e3c0484c9b3aeb2631109c (.lenS (.t 14)) c115_16 c115_17⟩
def c116:AFn:=⟨1,4,[.tmp 2],yI 4 0x3e74bc8c76a4aa590df662612c (.nilfn) (.mkClo 121 [(.t 1)])⟩
def c117:AFn:=⟨2,8,[.tmp 4],yA 8 0x4ca912ac4b61bc0826a7e6c8b54335932d109c⟩
def c121_2 :=yM 20 0x1dd18fdd07632213b64d66d78c82e824ec891c7c3c6bc83317cf9b50408326f4db668c84976a4f404bc11756744a863c2f785d4670d37ba8bc0a78a2a603940fa137cbab86925a6509c (.build [.i 0,.i 0] [(0,1,(.t 14)),(1,1,(.t 15))]) (.callv (.t 13) [(.t 16)])
def c121:AFn:=⟨2,20,[],yC 6 0x28408e462d438fd990403a (.label 0) c121_2⟩
def jcc:Prog := { fns:=[(3,c3),(4,c4),(5,c5),(6,c6),(7,c7),(8,c8),(9,c9),(10,c10),(11,c11),(12,c12),(13,c13),(14,c14),(16,c16),(17,c17),(18,c18),(19,c19),(20,c20),(21,c21),(22,c22),(23,c23),(24,c24),(27,c27),(29,c29),(30,c30),(31,c31),(35,c35),(36,c36),(37,c37),(38,c38),(39,c39),(40,c40),(41,c41),(42,c42),(43,c43),(44,c44),(47,c47),(48,c48),(49,c49),(50,c50),(52,c52),(53,c53),(54,c54),(55,c55),(56,c56),(58,c58),(60,c60),(61,c61),(62,c62),(63,c63),(64,c64),(65,c65),(66,c66),(67,c67),(68,c68),(69,c69),(70,c70),(71,c71),(72,c72),(73,c73),(74,c74),(75,c75),(76,c76),(77,c77),(83,c83),(84,c84),(86,c86),(88,c88),(89,c89),(90,c90),(91,c91),(92,c92),(93,c93),(94,c94),(95,c95),(96,c96),(97,c97),(98,c98),(99,c99),(100,c100),(101,c101),(107,c107),(109,c109),(110,c110),(111,c111),(112,c112),(115,c115),(116,c116),(117,c117),(121,c121),(33,c33),(59,c59)],prims:=[(25,jhN 1),(26,jhL 1),(28,jgK),(122,jb0)] }
theorem jlm:jcL jcc:=jcL.of (List.forall_mem_cons.2 ⟨Am.pFmtU_F 1,List.forall_mem_cons.2 ⟨Am.pItoa_F 1,List.forall_mem_cons.2 ⟨Am.pJoin_F,List.forall_mem_cons.2 ⟨Am.jhM,fun _ h=>nomatch h⟩⟩⟩⟩)
def prog:Prog := { fns:=jcc.fns,prims:=(15,jgh jcc 100000 28 33 16 120) :: jcc.prims }
theorem primsF:jcL prog:=jcL.cons (pParts_F jlm) jlm rfl
def cx:Cx:=⟨[(3,⟨.int .i64,1,8,(some (.i 0)),false⟩),(4,⟨.bool,1,1,(some (.bool false)),false⟩),(5,⟨.int .u8,1,1,(some (.int .u8 0)),false⟩),(9,⟨.str,1,16,(some (.str [])),false⟩),(21,⟨.int .i32,1,4,(some (.int .i32 0)),false⟩),(22,⟨.slice 40,1,24,(some (.nils)),false⟩),(23,⟨.int .u64,1,8,(some (.int .u64 0)),false⟩),(24,⟨.func,1,8,(some (.nilfn)),false⟩),(26,⟨.ptr 54,1,8,(some (.ptr none)),false⟩),(27,⟨.int .i64,1,8,(some (.i 0)),false⟩),(30,⟨.ptr 62,1,8,(some (.ptr none)),false⟩),(37,⟨.slice 3,1,24,(some (.nils)),false⟩),(38,⟨.slice 50,1,24,(some (.nils)),false⟩),(40,⟨.struct [(0,23),(1,4),(2,37),(3,38)],4,64,(some (.agg [.int .u64 0,.bool false,.nils,.nils])),false⟩),(42,⟨.slice 9,1,24,(some (.nils)),false⟩),(48,⟨.slice 5,1,24,(some (.nils)),false⟩),(50,⟨.struct [(0,3),(1,3),(2,3),(3,48)],4,48,(some (.agg [.i 0,.i 0,.i 0,.nils])),false⟩),(54,⟨.struct [(0,22),(1,37)],2,48,(some (.agg [.nils,.nils])),false⟩),(55,⟨.ptr 96,1,8,(some (.ptr none)),false⟩),(58,⟨.struct [(0,4),(1,3),(2,3)],3,24,(some (.agg [.bool false,.i 0,.i 0])),false⟩),(59,⟨.array 96 58,288,2304,(some (.agg ((List.replicate 96 ([.bool false,.i 0,.i 0]:List V)).flatten))),false⟩),(60,⟨.slice 63,1,24,(some (.nils)),false⟩),(62,⟨.struct [(0,59),(288,60),(289,55),(290,23),(291,58)],294,2368,(some (.agg ((List.replicate 96 ([.bool false,.i 0,.i 0]:List V)).flatten++[.nils,.ptr none,.int .u64 0,.bool false,.i 0,.i 0]))),false⟩),(63,⟨.ptr 70,1,8,(some (.ptr none)),false⟩),(65,⟨.ptr 121,1,8,(some (.ptr none)),false⟩),(67,⟨.struct [(0,3),(1,3),(2,65),(3,4),(4,4),(5,23),(6,23)],7,48,(some (.agg [.i 0,.i 0,.ptr none,.bool false,.bool false,.int .u64 0,.int .u64 0])),false⟩),(68,⟨.array 2 67,14,96,(some (.agg [.i 0,.i 0,.ptr none,.bool false,.bool false,.int .u64 0,.int .u64 0,.i 0,.i 0,.ptr none,.bool false,.bool false,.int .u64 0,.int .u64 0])),false⟩),(70,⟨.struct [(0,68),(14,4),(15,3),(16,37)],17,136,(some (.agg [.i 0,.i 0,.ptr none,.bool false,.bool false,.int .u64 0,.int .u64 0,.i 0,.i 0,.ptr none,.bool false,.bool false,.int .u64 0,.int .u64 0,.bool false,.i 0,.nils])),false⟩),(93,⟨.array 32 4,32,32,(some (.agg (List.replicate 32 (.bool false:V)))),false⟩),(94,⟨.array 32 3,32,256,(some (.agg (List.replicate 32 (.i 0:V)))),false⟩),(96,⟨.struct [(0,93),(32,94)],64,288,(some (.agg (List.replicate 32 (.bool false:V)++List.replicate 32 (.i 0:V)))),false⟩),(111,⟨.array 8 9,8,128,(some (.agg [.str [],.str [],.str [],.str [],.str [],.str [],.str [],.str []])),false⟩),(121,⟨.struct [(0,48),(1,3),(2,3),(3,23),(4,23),(5,4)],6,64,(some (.agg [.nils,.i 0,.i 0,.int .u64 0,.int .u64 0,.bool false])),false⟩),(165,⟨.struct [(0,3),(1,3)],2,16,(some (.agg [.i 0,.i 0])),false⟩)],[0,1,3,4]⟩
def ja3:List V:=[.int .u8 0,.int .u8 1,.int .u8 28,.int .u8 2,.int .u8 29,.int .u8 14,.int .u8 24,.int .u8 3,.int .u8 30,.int .u8 22,.int .u8 20,.int .u8 15,.int .u8 25,.int .u8 17,.int .u8 4,.int .u8 8,.int .u8 31,.int .u8 27,.int .u8 13,.int .u8 23,.int .u8 21,.int .u8 19,.int .u8 16,.int .u8 7,.int .u8 26,.int .u8 12,.int .u8 18,.int .u8 6,.int .u8 11,.int .u8 5,.int .u8 10,.int .u8 9]
def ja2:List V:=[.int .u8 0,.int .u8 1,.int .u8 56,.int .u8 2,.int .u8 57,.int .u8 49,.int .u8 28,.int .u8 3,.int .u8 61,.int .u8 58,.int .u8 42,.int .u8 50,.int .u8 38,.int .u8 29,.int .u8 17,.int .u8 4,.int .u8 62,.int .u8 47,.int .u8 59,.int .u8 36,.int .u8 45,.int .u8 43,.int .u8 51,.int .u8 22,.int .u8 53,.int .u8 39,.int .u8 33,.int .u8 30,.int .u8 24,.int .u8 18,.int .u8 12,.int .u8 5,.int .u8 63,.int .u8 55,.int .u8 48,.int .u8 27,.int .u8 60,.int .u8 41,.int .u8 37,.int .u8 16,.int .u8 46,.int .u8 35,.int .u8 44,.int .u8 21,.int .u8 52,.int .u8 32,.int .u8 23,.int .u8 11,.int .u8 54,.int .u8 26,.int .u8 40,.int .u8 15,.int .u8 34,.int .u8 20,.int .u8 31,.int .u8 10,.int .u8 25,.int .u8 14,.int .u8 19,.int .u8 9,.int .u8 13,.int .u8 8,.int .u8 7,.int .u8 6]
def jaj:List V:=[.int .u64 1,.int .u64 10,.int .u64 100,.int .u64 1000,.int .u64 10000,.int .u64 100000,.int .u64 1000000,.int .u64 10000000,.int .u64 100000000,.int .u64 1000000000,.int .u64 10000000000,.int .u64 100000000000,.int .u64 1000000000000,.int .u64 10000000000000,.int .u64 100000000000000,.int .u64 1000000000000000,.int .u64 10000000000000000,.int .u64 100000000000000000,.int .u64 1000000000000000000,.int .u64 10000000000000000000]
def jal:List V:=[.str [],.str [112,117,116],.str [116,97,107,101],.str [115,104,117,116],.str [99,108,111,115,101],.str [114,101,115,101,116],.str [99,111,110,110,101,99,116],.str [114,97,105,115,101]]
end Am.Sigs
