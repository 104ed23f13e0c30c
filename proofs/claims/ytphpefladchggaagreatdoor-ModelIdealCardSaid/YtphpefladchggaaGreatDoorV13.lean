/- Our own library, part 13. -/
import Derived.Shelf.Strconv.Itoa3
import Derived.Lib.AppendIntMem
import Derived.Test.YtphpefladchggaaGreatDoorV12
set_option maxHeartbeats 8000000
set_option maxRecDepth 800
set_option linter.all false
namespace Am
open Go Go.Proofs Go.Shelf Go.RowKit Go.Sort
def Pows(g:Nat)(w:World):Prop:= ∀i,i<20->w.cell? ⟨g,i,none⟩=some (.int .u64 ((10 ^ i:Nat):Int))
theorem Pows.alloc{g:Nat}{w:World}(h:Pows g w)(o:Go.Obj):Pows g (w.alloc o):=by
 intro i hi;have d4:g<w.heap.size:=by
  rcases zx g w.heap.size with h'|h'
  .exact h'
  .have:=h i hi;simp[World.cell?,zX h']at this
 rw[World.cell?_alloc_lt w o ⟨g,i,none⟩ d4];exact h i hi
section
variable{P:Program}{ρ:Ren}
set_option maxRecDepth 100000 in
theorem jim(L:LaysM.n284 P ρ)(u:Nat)(h1:1<=u)(h2:u<18446744073709551616)(w:World)(qG:Pows (ρ.g 17) w) :
  Calls P (ρ.f 284) #[.int .u64 u] w fun e w'=>e = .returned (.int .i64 (Lib.nDigits u))/\w'=w:=by
 have mixed:=L.mixed;have t53:=L.t53;have a53:=L.a53;have z53:=L.z53;have v53:=L.v53;have t3:=L.t3;have a3:=L.a3;have z3:=L.z3;have v3:=L.v3;have t212:=L.t212;have a212:=L.a212;have z212:=L.z212;have v212:=L.v212;have t0:=L.t0;have a0:=L.a0;have z0:=L.z0;have v0:=L.v0;have t4:=L.t4;have a4:=L.a4;have z4:=L.z4;have v4:=L.v4;have Ri:∀args w,(callFunc (ρ.f 129) args).run P w = .ok (.enter (ρ.f 129) args) w:=enters_of L.f129 (by kernel_rfl) rfl;have Si:∀args w,(callFunc (ρ.f 317) args).run P w = .ok (.enter (ρ.f 317) args) w:=enters_of L.f317 (by kernel_rfl) rfl;have Ti:∀args w,(callFunc (ρ.f 318) args).run P w = .ok (.enter (ρ.f 318) args) w:=enters_of L.f318 (by kernel_rfl) rfl;obtain⟨jJ,lO⟩:=Lib.numDigits_eq u h1 h2;have hL:Lib.bitLen u<=64:=Lib.bitLen_le u 64 (zq _) h2;have iL:w.cell? ⟨(ρ.g 17),Lib.l10 (Lib.bitLen u),none⟩=some (.int .u64 ((10 ^ Lib.l10 (Lib.bitLen u):Nat):Int)):=qG _ om;have jU:((u:Int)).toNat=u:=by omega
 generalize hq:Lib.l10 (Lib.bitLen u)=q at jJ lO iL;generalize hT:10 ^ q=T at jJ iL;have mO:q<20:=by omega
 have Hnd:=Lib.hid jJ;clear jJ qG
 go_enter L.f284,Body.n284_ntmps ρ
 go_wp2_with (first
  |(go_at_fn (ρ.f 129);refine (Any.bits_Len64 {L with} _ _ om om).mono ?_;rintro e w' ⟨rfl,rfl⟩)
  |(go_at_fn (ρ.f 317);refine (Any.internal_strconv_log10Pow2 {L with} _ (by first|exact hL|(rw[jU];exact hL)) _).mono ?_;rintro e w' ⟨rfl,rfl⟩)
  |(go_at_fn (ρ.f 318);refine (Any.internal_strconv_bool2_int {L with} _ _).mono ?_;rintro e w' ⟨rfl,rfl⟩))
 all_goals go_ret
 all_goals (
  refine⟨?_,rfl⟩;have jJ:=Hnd.out;congr 2;split at jJ<;>simp_all<;>omega)
set_option maxRecDepth 100000 in
theorem jmh(L:LaysM.n246 P ρ)(u:Nat)(h1:u<=9223372036854775807)(w:World)(qG:100<=u->Pows (ρ.g 17) w) :
  Calls P (ρ.f 246) #[.int .i64 u,.int .i64 10] w fun e w'=>e = .returned (.string ⟨(Lib.decDigits u).toArray⟩)/\∃k os,w'=grow (w.drewN k) os:=by
 have mixed:=L.mixed;have t2:=L.t2;have a2:=L.a2;have z2:=L.z2;have v2:=L.v2;have t3:=L.t3;have a3:=L.a3;have z3:=L.z3;have v3:=L.v3;have t9:=L.t9;have a9:=L.a9;have z9:=L.z9;have v9:=L.v9;have t4:=L.t4;have a4:=L.a4;have z4:=L.z4;have v4:=L.v4;have t171:=L.t171;have a171:=L.a171;have z171:=L.z171;have v171:=L.v171;have t0:=L.t0;have a0:=L.a0;have z0:=L.z0;have v0:=L.v0;have t53:=L.t53;have a53:=L.a53;have z53:=L.z53;have v53:=L.v53;have t37:=L.t37;have a37:=L.a37;have z37:=L.z37;have v37:=L.v37;have t5:=L.t5;have a5:=L.a5;have z5:=L.z5;have v5:=L.v5;have t173:=L.t173;have a173:=L.a173;have z173:=L.z173;have v173:=L.v173;have Ui:∀args w,(callFunc (ρ.f 283) args).run P w = .ok (.enter (ρ.f 283) args) w:=enters_of L.f283 (by kernel_rfl) rfl;have Vi:∀args w,(callFunc (ρ.f 284) args).run P w = .ok (.enter (ρ.f 284) args) w:=enters_of L.f284 (by kernel_rfl) rfl;have Xi:∀args w,(callFunc (ρ.f 285) args).run P w = .ok (.enter (ρ.f 285) args) w:=enters_of L.f285 (by kernel_rfl) rfl;by_cases hs:u<100
 .exact (Any.internal_strconv_FormatInt_10_small {L with} u hs w).mono fun e w' ⟨q1,q2⟩=>⟨q1,0,#[],by rw[q2];simp[World.drewN_zero]⟩
 .have qG:=qG om;have dF:¬(0<=(u:Int)/\(u:Int)<100):=by omega
  have kX:¬(u:Int)<0:=by omega
  have aY:1<=u:=by omega
  have kU:u<18446744073709551616:=by omega
  have Yi:Lib.nDigits u<=20:=by have:=Lib.numDigits_eq u aY kU;split at this<;>omega
  have bY:Lib.nDigits u<=23:=by omega
  have cY:P.arrayLen (ρ.t 171)=24:=by simp[Program.arrayLen,L.t171]
  have Aj:∀W,(Instr.sliceAt (ρ.t 171) (.pointer (some ⟨w.heap.size,0,none⟩)) (some (.int .i64 1)) (some (.int .i64 (1+(Lib.nDigits u:Int)))) none).run P W = .ok (.slice (some ⟨w.heap.size,1,none⟩) (Lib.nDigits u) 23) W:=fun W=>by
   rw[run_sliceAt_array_lh W (ρ.t 171) ⟨w.heap.size,0,none⟩ (by simp[Program.arrayLen,Program.elem,L.t171]) .i64 .i64 1 (1+(Lib.nDigits u:Int)) om om (by rw[cY];omega)]
   go_simp
   omega
  have lU:=Lib.holds_zero w (ρ.t 171) (Lib.nDigits u) om;have dY:=Any.internal_strconv_formatBase10 {L with} w.heap.size 1 23 u (Array.replicate (Lib.nDigits u) 0) (w.alloc (.cells Lib.zeros24 (ρ.t 171))) lU (by rw[Array.size_replicate];exact Lib.lt_pow_nDigits u) kU (by rw[Array.size_replicate];omega);rw[Array.size_replicate]at dY;have HH0:=Lib.hid lU;clear lU cY
  go_enter L.f246,Body.n246_ntmps ρ
  go_wp2_with (first
   |(go_at_fn (ρ.f 284);refine (jim {L with} u aY kU _ (qG.alloc _)).mono ?_;rintro e w' ⟨rfl,rfl⟩))
  go_at_fn (ρ.f 285)
  refine dY.mono ?_;rintro e w' ⟨rfl,k,v',dk,rfl,hF⟩;have uR:(convert (ρ.t 37) (ρ.t 9) (.slice (some ⟨w.heap.size,1,none⟩) (Lib.nDigits u) 23)).run P ((putRow (fun (b:UInt8)=>Value.int .u8 (b.toNat:Int)) (w.alloc (.cells Lib.zeros24 (ρ.t 171))) w.heap.size 1 dk).drewN k) = .ok (.string ⟨(Lib.decDigits u).toArray⟩) ((putRow (fun (b:UInt8)=>Value.int .u8 (b.toNat:Int)) (w.alloc (.cells Lib.zeros24 (ρ.t 171))) w.heap.size 1 dk).drewN k):=by
   have h:=run_convert_bytes_back (P:=P) ((putRow (fun (b:UInt8)=>Value.int .u8 (b.toNat:Int)) (w.alloc (.cells Lib.zeros24 (ρ.t 171))) w.heap.size 1 dk).drewN k) (ρ.t 37) (ρ.t 9) (ρ.t 5) ⟨w.heap.size,1,none⟩ 23 (Lib.decDigits u) L.t37 L.t5 L.t9 (fun j hj=>by
    rw[Lib.row_is_numeral hF j hj,Lib.add_plain,World.cell?_drewN];exact cell?_putRow (fun (b:UInt8)=>Value.int .u8 (b.toNat:Int)) _ w.heap.size 1 _ dk HH0.out (by rw[hF.size,Array.size_replicate]) j (by rw[hF.size];rw[Lib.decDigits_length]at hj;exact hj))
   rw[Lib.decDigits_length]at h;exact h
  go_wp2
  go_ret
  obtain⟨os,eo⟩:=Lib.fin_pos w (.cells Lib.zeros24 (ρ.t 171)) dk k;exact⟨rfl,k,os,eo⟩
set_option maxRecDepth 100000 in
theorem itoa_w(L:LaysM.n171 P ρ)(u:Nat)(h1:u<=9223372036854775807)(w:World)(qG:100<=u->Pows (ρ.g 17) w) :
  Calls P (ρ.f 171) #[.int .i64 u] w fun e w'=>e = .returned (.string ⟨(Lib.decDigits u).toArray⟩)/\∃k os,w'=grow (w.drewN k) os:=by
 have mixed:=L.mixed;have t3:=L.t3;have a3:=L.a3;have z3:=L.z3;have v3:=L.v3;have t9:=L.t9;have a9:=L.a9;have z9:=L.z9;have v9:=L.v9;have t2:=L.t2;have a2:=L.a2;have z2:=L.z2;have v2:=L.v2;have Bj:∀args w,(callFunc (ρ.f 246) args).run P w = .ok (.enter (ρ.f 246) args) w:=enters_of L.f246 (by kernel_rfl) rfl;have Cj:∀args w,(callFunc (ρ.f 243) args).run P w = .ok (.enter (ρ.f 243) args) w:=enters_of L.f243 (by kernel_rfl) rfl;have inner:∀w,(100<=u->Pows (ρ.g 17) w)->Calls P (ρ.f 243) #[.int .i64 u] w fun e w'=>e = .returned (.string ⟨(Lib.decDigits u).toArray⟩)/\∃k os,w'=grow (w.drewN k) os:=by
  intro w qG
  go_enter L.f243,Body.n243_ntmps ρ
  go_wp2_with (go_at_fn (ρ.f 246);refine (jmh {L with} u h1 _ qG).mono ?_;rintro e w' ⟨rfl,k,os,rfl⟩)
  go_ret
  exact⟨rfl,k,os,rfl⟩
 go_enter L.f171,Body.n171_ntmps ρ
 go_wp2_with (go_at_fn (ρ.f 243);refine (inner _ qG).mono ?_;rintro e w' ⟨rfl,k,os,rfl⟩)
 go_ret
 exact⟨rfl,k,os,rfl⟩
end
def digs:Nat->Nat->List UInt8->List UInt8
 |0,_,acc=>acc
 |k+1,u,acc=>bif Nat.blt u 10 then UInt8.ofNat (48+u)::acc else digs k (u/10) (UInt8.ofNat (48+u%10)::acc)
theorem joZ:∀(k u:Nat) (acc:List UInt8),u<10 ^ k->0<k->digs k u acc=Lib.decDigits u++acc
 |0,_,_,_,h=>by omega
 |k+1,u,acc,hu,_=>by
  unfold digs;rw[Lib.decDigits];by_cases h:u<10
  .have:Nat.blt u 10=true:=by simp[Nat.blt];omega
   rw[this,dif_pos h];rfl
  .have:Nat.blt u 10=false:=by cases e:Nat.blt u 10 with
    |false=>rfl
    |true=>simp[Nat.blt]at e;omega
   rw[this,dif_neg h,cond_false];have hk:0<k:=by
    rcases Nat.eq_zero_or_pos k with rfl|h'
    .simp at hu;omega
    .exact h'
   rw[joZ k (u/10) _ (by rw[Nat.pow_succ]at hu;omega) hk,List.append_assoc];rfl
abbrev dec(u:Nat):List UInt8:=digs 20 u []
theorem jlz{u:Nat}(h:u<18446744073709551616):dec u=Lib.decDigits u:=by
 rw[dec,joZ 20 u [] om om,List.append_nil]
def jkW:Nat->Nat->List V->Bool
 |0,_,_=>true
 |k+1,p,.int .u64 n::r=>(n == (p:Int))&&jkW k (p*10) r
 |_,_,_=>false
theorem jkV:∀{k p:Nat} {l:List V},jkW k p l=true -> ∀i,i<k->l[i]?=some (.int .u64 ((p*10 ^ i:Nat):Int))
 |0,_,_,_,i,hi=>by omega
 |k+1,p,[],h,_,_=>by simp[jkW]at h
 |k+1,p,v::r,h,i,hi=>by
  unfold jkW at h;split at h
  .next e _=>omega
  .next k' p' n r' e1 e2=>
   cases e1;cases e2;simp only[zp,beq_iff_eq]at h;cases i with
   |zero=>simp[h.1]
   |succ i=>
    have:=jkV h.2 i om;rw[List.getElem?_cons_succ,this,Nat.pow_succ,Nat.mul_assoc,Nat.mul_comm 10]
  .cases h
def jcF(g u:Nat)(h:H):Option (V×H):=
 bif Nat.blt u 100 then some (.str (dec u),h) else
  match h.get g with
  |some (.cells l _)=>bif jkW 20 1 l then some (.str (dec u),h) else none
  |_=>none
def jkZ(g:Nat):Prim
 |[.int .i64 (.ofNat u)],h=>bif Nat.ble u 9223372036854775807 then jcF g u h else none
 |_,_=>none
def jlb(g:Nat):Prim
 |[.int .u64 (.ofNat u),.int .i64 (.ofNat 10)],h=>bif Nat.ble u 18446744073709551615 then jcF g u h else none
 |_,_=>none
theorem jgk{g u:Nat}{h h':H}{v:V}(hr:jcF g u h=some (v,h')):h'=h/\v = .str (dec u)/\∀X h2,Ext X h h2->jcF g u h2=some (v,h2):=by
 unfold jcF at hr;cases hc:Nat.blt u 100 with
 |true=>
  rw[hc]at hr;cases hr;exact⟨rfl,rfl,fun X h2 x=>by simp only[jcF,hc,cond_true]⟩
 |false=>
  rw[hc]at hr;dsimp only[cond_false]at hr;split at hr
  .next l ro hg=>
   cases hp:jkW 20 1 l with
   |false=>rw[hp]at hr;cases hr
   |true=>
    rw[hp]at hr;cases hr;exact⟨rfl,rfl,fun X h2 x=>by simp only[jcF,hc,cond_false,jmZ x hg,hp,cond_true]⟩
  .cases hr
theorem jjo{P:Program}{C:Cx}{m:Mp}{w:World}{g u:Nat}{h h':H}{v:V}(hR:HRel P C m h w)(hG:GOk C m)(fP:C.gl.any (Nat.beq g)=true)(hr:jcF g u h=some (v,h'))(hu:100<=u):Pows g w:=by
 unfold jcF at hr;have hc:Nat.blt u 100=false:=by cases e:Nat.blt u 100 with
  |false=>rfl
  |true=>simp[Nat.blt]at e;omega
 rw[hc]at hr;dsimp only[cond_false]at hr;split at hr
 .next l ro hg=>
  cases hp:jkW 20 1 l with
  |false=>rw[hp]at hr;cases hr
  |true=>
   intro i hi;obtain⟨lc,h1,h2,h3⟩:=hG g fP;obtain⟨l2,co,q1,q2,ce,elem,lo,cA,q3,q4,q5,q6,q7⟩:=hR.obj _ _ hg;rw[h1]at q1;cases q1;subst q3;rw[h2]at q2;obtain⟨x,q8,q9⟩:=q6 _ _ (jkV hp i hi);obtain rfl:x=_:=q9;rw[jcX q2,<- zP i,<- h3,q8,Nat.one_mul,h3,zP]
 .cases hr
theorem pItoa_F(g:Nat):jpi (jkZ g):=by
 intro args h v h' hr;unfold jkZ at hr;split at hr
 .next u=>
  cases hc:Nat.ble u 9223372036854775807 with
  |false=>rw[hc]at hr;cases hr
  |true=>
   rw[hc,cond_true]at hr;obtain⟨rfl,-,hF⟩:=jgk hr;exact⟨zq _,fun X h2 x=>⟨h2,by simp only[jkZ,hc,cond_true,hF X h2 x],x⟩⟩
 .cases hr
theorem pFmtU_F(g:Nat):jpi (jlb g):=by
 intro args h v h' hr;unfold jlb at hr;split at hr
 .next u=>
  cases hc:Nat.ble u 18446744073709551615 with
  |false=>rw[hc]at hr;cases hr
  |true=>
   rw[hc,cond_true]at hr;obtain⟨rfl,-,hF⟩:=jgk hr;exact⟨zq _,fun X h2 x=>⟨h2,by simp only[jlb,hc,cond_true,hF X h2 x],x⟩⟩
 .cases hr
theorem pItoa_ok{P:Program}{C:Cx}{ρ:Ren}(L:LaysM.n171 P ρ)(fP:C.gl.any (Nat.beq (ρ.g 17))=true):jfv P C (ρ.f 171) (jkZ (ρ.g 17)):=by
 refine jif (enters_of L.f171 (by kernel_rfl) rfl) ?_;intro args h v h' hr m w xs hR hG hx;unfold jkZ at hr;split at hr
 .next u=>
  cases hc:Nat.ble u 9223372036854775807 with
  |false=>rw[hc]at hr;cases hr
  |true=>
   rw[hc,cond_true]at hr;obtain⟨rfl,rfl,-⟩:=jgk hr;obtain⟨x1,r1,e1,h1,e2⟩:=hx;obtain rfl:r1=[]:=e2;obtain rfl:x1=_:=h1;obtain⟨l'⟩:=xs;obtain rfl:l'=_:=e1;have hu:u<=9223372036854775807:=by simpa using hc
   refine⟨rfl,.string ⟨⟨dec u⟩⟩,rfl,(itoa_w L u hu w (jjo hR hG fP hr)).mono ?_⟩;rintro e w' ⟨rfl,k,os,rfl⟩;exact⟨by rw[jlz om],Lib.below_grow _ _ (zq _) _ _⟩
 .cases hr
theorem pFmtU_ok{P:Program}{C:Cx}{f g:Nat}(he:∀args w,(callFunc f args).run P w = .ok (.enter f args) w)(fP:C.gl.any (Nat.beq g)=true)
  (hf:∀(u:Nat),u<18446744073709551616 -> ∀w,(100<=u->Pows g w)->Calls P f #[.int .u64 u,.int .i64 10] w fun e w'=>e = .returned (.string ⟨(Lib.decDigits u).toArray⟩)/\∃k os,w'=grow (w.drewN k) os) :
  jfv P C f (jlb g):=by
 refine jif he ?_;intro args h v h' hr m w xs hR hG hx;unfold jlb at hr;split at hr
 .next u=>
  cases hc:Nat.ble u 18446744073709551615 with
  |false=>rw[hc]at hr;cases hr
  |true=>
   rw[hc,cond_true]at hr;obtain⟨rfl,rfl,-⟩:=jgk hr;obtain⟨x1,r1,e1,h1,x2,r2,e2,h2,e3⟩:=hx;obtain rfl:r2=[]:=e3;subst e2;obtain rfl:x1=_:=h1;obtain rfl:x2=_:=h2;obtain⟨l'⟩:=xs;obtain rfl:l'=_:=e1;have hu:u<=18446744073709551615:=by simpa using hc
   refine⟨rfl,.string ⟨⟨dec u⟩⟩,rfl,(hf u om w (jjo hR hG fP hr)).mono ?_⟩;rintro e w' ⟨rfl,k,os,rfl⟩;exact⟨by rw[jlz om],Lib.below_grow _ _ (zq _) _ _⟩
 .cases hr
end Am
set_option maxRecDepth 100000
namespace Am.Sigs
open Am Go
abbrev uF{α:Sort _}(f g:α)(_:f=g:=by (repeat (apply funext;intro));conv=>{lhs;cbv}):α:=g
section
variable(S a b c:Nat)(vs:List V)(is:List I)(ps:List AC)
def rV(N:Nat):V×Nat:=match N%33 with
 |32=>(vs.getD (N/33%a) .nilfn,N/33/a)
 |n=>(([.i 0,.i 1,.bool false,.bool true,.nils,.i 2,.i 3,.ptr none,.i 110,.i 111,.i 64,.i 31,.i 32,.i 113,.i 115,.i 116,.i 4,.i 95,.i 112,.int .u64 1,.i 96,.i 5,.i 8,.i 16,.int .u64 0,.int .u32 0,.int .u8 0,.str [],.i 10,.i 100,.int .u32 1,.i 65536]:List V).getD n .nilfn,N/33)
def rO(l N:Nat):Opd×Nat:=match N%3 with
 |0=>(.t l,N/3)
 |1=>(.t (N/3%S),N/3/S)
 |_=>match rV a vs (N/3) with|(x,N)=>(.c x,N)
def r1(l N:Nat)(k:Opd->I):I×Nat:=match rO S a vs l N with|(x,N)=>(k x,N)
def r2(l N:Nat)(k:Opd->Opd->I):I×Nat:=match rO S a vs l N with|(x,N)=>match rO S a vs l N with|(y,N)=>(k x y,N)
def rL{β:Type}(r:Nat->β×Nat):Nat->Nat->List β×Nat
 |0,N=>([],N)
 |n+1,N=>match r N with|(x,N)=>match rL r n N with|(l,N)=>(x::l,N)
def rB(l N:Nat):(Nat×Opd)×Nat:=match rO S a vs l (N/32) with|(x,M)=>((N%32,x),M)
def rI(l N:Nat):I×Nat:=match N%20 with
 |0=>r1 S a vs l (N/20) .mv
 |1=>r1 S a vs l (N/20/1024) (.faddr (N/20%1024))
 |2=>r1 S a vs l (N/20) .load1
 |3=>r1 S a vs l (N/20) .nilck
 |4=>r1 S a vs l (N/20/16) fun x=>.extract x (N/20%16)
 |5=>r2 S a vs l (N/20/1024) (.store (N/20%1024))
 |6=>r2 S a vs l (N/20/32) (.bin (([.add,.sub,.mul,.quo,.rem,.and,.or,.xor,.shl,.shr,.andNot,.eql,.neq,.lss,.leq,.gtr,.geq]:List BinOp).getD (N/20%32) .add))
 |7=>match rO S a vs l (N/20) with|(x,N)=>r2 S a vs l N (.pick x)
 |8=>match rL (rO S a vs l) (N/20/1024%16) (N/20/1024/16) with|(x,M)=>(.call (N/20%1024) x,M)
 |9=>r2 S a vs l (N/20/1024/1024) (.ixaA (N/20%1024) (N/20/1024%1024))
 |10=>r2 S a vs l (N/20/1024) (.ixaS (N/20%1024))
 |11=>r1 S a vs l (N/20/1024) (.loadN (N/20%1024))
 |12=>r1 S a vs l (N/20) .lenL
 |13=>r1 S a vs l (N/20/4) (.un (([.not,.neg,.xor]:List UnOp).getD (N/20%4) .not))
 |14=>r2 S a vs l (N/20/1024/1024) (.append (N/20%1024) (N/20/1024%1024))
 |15=>r1 S a vs l (N/20/32) (.box (N/20%32))
 |16=>match rL (rV a vs) (N/20/32%32) (N/20/32/32) with|(x,M)=>(.alloc (N/20%32) x,M)
 |17=>match rL (rV a vs) (N/20/32/32%64) (N/20/32/32/64) with|(x,M)=>match rL (rB S a vs l) (M%32) (M/32) with|(y,M)=>(.bslice (N/20%32) (N/20/32%32) x y,M)
 |_=>(is.getD (N/20%b) .fail,N/20/b)
def r3(g:Option (Nat×Bool))(h N:Nat):Option (Nat×Bool)×Nat:=match h with
 |0=>(none,N)
 |1=>(g,N)
 |_=>(some (N%S,Nat.beq (N/S%2) 1),N/S/2)
def rC(g:Option (Nat×Bool))(l N:Nat):(Nat×I×Option (Nat×Bool))×Nat:=match rI S a b vs is l (N/S) with|(i,M)=>match r3 S g (M%3) (M/3) with|(g,M)=>((N%S,i,g),M)
def rP(j h N:Nat):Nat×Nat:=match h%2 with|0=>(j,N)|_=>(N%1024,N/1024)
def rQ(l h N:Nat):Option Nat×Nat:=match h with|0=>(some (l+1),N)|1=>(some (N%S),N/S)|_=>(none,N)
def r4(q:Option (Nat×Bool))(l h N:Nat):Option Nat×List (Nat×I×Option (Nat×Bool))×Nat:=match h with
 |0=>(none,[],N)
 |_=>match rL (rC S a b vs is q l) (N/8%32) (N/8/32) with|(c,M)=>(match N%8 with|0=>none|a+1=>some a,c,M)
def rM(j l h N:Nat)(q:Option (Nat×Bool)):(Ins×Nat)×Nat:=match rP j h N with
 |(j,N)=>match rQ S l (h/2%3) N with
 |(d,N)=>match r3 S q (h/6%3) N with
 |(g,N)=>match r4 S a b vs is (g.or q) l (h/18) N with
 |(x,y,N)=>match rI S a b vs is l N with|(i,N)=>((⟨j,d,i,g,x,y⟩,d.getD l),N)
def sJ(r:Nat->Nat->Option (Nat×Bool)->Nat->(List Ins×Nat)×Nat)(j l:Nat)(q:Option (Nat×Bool))(N:Nat):(List Ins×Nat)×Nat:=match rM S a b vs is j l (N%36) (N/36) q with
 |((x,l),N)=>match r (x.ix+1) l (x.guard.or q) N with|((r,l),N)=>((x::r,l),N)
def rJ:Nat->Nat->Nat->Option (Nat×Bool)->Nat->(List Ins×Nat)×Nat
 |0,_,l,_,N=>(([],l),N)
 |n+1,j,l,q,N=>sJ S a b vs is (rJ n) j l q N
def sD(r:Nat->Nat->List Nat×Nat)(p N:Nat):List Nat×Nat:=match N%2 with
 |0=>match r (p+N/2%8) (N/2/8) with|(r,M)=>((p+N/2%8)::r,M)
 |_=>match r (p+N/2%S) (N/2/S) with|(r,M)=>((p+N/2%S)::r,M)
def rD:Nat->Nat->Nat->List Nat×Nat
 |0,_,N=>([],N)
 |n+1,p,N=>sD S (rD n) p N
def rK(p:List Nat)(N:Nat):List Nat×Nat:=match N%4 with
 |0=>(p,N/4)
 |1=>rD S (N/4%64) 0 (N/4/64)
 |2=>rL (fun N=>(N%S,N/S)) (N/4%64) (N/4/64)
 |_=>(p++[N/4%S],N/4/S)
def sA(r:Nat->List Nat->Nat->AC×Nat×List Nat×Nat)(N:Nat)(p:List Nat)(l:Nat):AC×Nat×List Nat×Nat:=match N%12 with
 |0=>match r (N/12) p l with|(x,N,p,l)=>match r N p l with|(y,N,p,l)=>(.seq x y,N,p,l)
 |1=>match rJ S a b vs is (N/12%128) 0 l none (N/12/128) with|((q,l),N)=>match rK S p N with|(p,N)=>(.region 0 q p,N,p,l)
 |2=>match rJ S a b vs is (N/12/8%128) 0 l none (N/12/8/128) with|((q,l),M)=>match rK S p M with|(p,M)=>(.region (N/12%8) q p,M,p,l)
 |3=>match rO S a vs l (N/12) with|(x,N)=>match r N p l with|(y,N,p,l)=>match r N p l with|(z,N,p,l)=>(.cond x y z,N,p,l)
 |4=>match r (N/12/128) p l with|(x,M,p,l)=>(.block (N/12%128) x,M,p,l)
 |5=>match rK S p (N/12) with|(k,N)=>match r N k l with|(x,N,q,l)=>(.loop k x,N,q,l)
 |6=>(.skip,N/12,p,l)
 |7=>(.ret,N/12,p,l)
 |8=>(.exit (N/12%128),N/12/128,p,l)
 |9=>match rO S a vs l (N/12) with|(x,N)=>match rK S [] N with|(y,N)=>match rK S p N with|(k,N)=>match r N k l with|(z,N,p,l)=>match r N p l with|(w,N,p,l)=>(.rangeFunc x y k z w,N,p,l)
 |10=>match r (N/12) p l with|(x,N,p,l)=>(.scope x,N,p,l)
 |_=>(ps.getD (N/12%c) .skip,N/12/c,p,l)
def rA:Nat->Nat->List Nat->Nat->AC×Nat×List Nat×Nat
 |0,N,p,l=>(.skip,N,p,l)
 |f+1,N,p,l=>sA S a b c vs is ps (rA f) N p l
end
def jA(S N a b c:Nat)(vs:List V)(is:List I)(ps:List AC):AC:=(rA S a b c vs is ps 40 N [] 0).1
abbrev yA(S N:Nat){g:AC}(_:(jA S N 0 0 0 [] [] [])=g:=by (repeat (apply funext;intro));conv=>{lhs;cbv}):AC:=g 
abbrev yB(S N:Nat)(a:AC){g:AC->AC}(_:(fun a=>jA S N 0 0 1 [] [] [a])=g:=by (repeat (apply funext;intro));conv=>{lhs;cbv}):AC:=g a
abbrev yC(S N:Nat)(a b:AC){g:AC->AC->AC}(_:(fun a b=>jA S N 0 0 2 [] [] [a,b])=g:=by (repeat (apply funext;intro));conv=>{lhs;cbv}):AC:=g a b
abbrev yD(S N:Nat)(a b c:AC){g:AC->AC->AC->AC}(_:(fun a b c=>jA S N 0 0 3 [] [] [a,b,c])=g:=by (repeat (apply funext;intro));conv=>{lhs;cbv}):AC:=g a b c
abbrev yE(S N:Nat)(a:I){g:I->AC}(_:(fun a=>jA S N 0 1 0 [] [a] [])=g:=by (repeat (apply funext;intro));conv=>{lhs;cbv}):AC:=g a
abbrev yF(S N:Nat)(a:I)(b:AC){g:I->AC->AC}(_:(fun a b=>jA S N 0 1 1 [] [a] [b])=g:=by (repeat (apply funext;intro));conv=>{lhs;cbv}):AC:=g a b
abbrev yG(S N:Nat)(a:V){g:V->AC}(_:(fun a=>jA S N 1 0 0 [a] [] [])=g:=by (repeat (apply funext;intro));conv=>{lhs;cbv}):AC:=g a
abbrev yH(S N:Nat)(a:V)(b:AC){g:V->AC->AC}(_:(fun a b=>jA S N 1 0 1 [a] [] [b])=g:=by (repeat (apply funext;intro));conv=>{lhs;cbv}):AC:=g a b
abbrev yI(S N:Nat)(a:V)(b:I){g:V->I->AC}(_:(fun a b=>jA S N 1 1 0 [a] [b] [])=g:=by (repeat (apply funext;intro));conv=>{lhs;cbv}):AC:=g a b
abbrev yJ(S N:Nat)(a:V)(b:I)(c:AC){g:V->I->AC->AC}(_:(fun a b c=>jA S N 1 1 1 [a] [b] [c])=g:=by (repeat (apply funext;intro));conv=>{lhs;cbv}):AC:=g a b c
abbrev yK(S N:Nat)(a b:V){g:V->V->AC}(_:(fun a b=>jA S N 2 0 0 [a,b] [] [])=g:=by (repeat (apply funext;intro));conv=>{lhs;cbv}):AC:=g a b
abbrev yL(S N:Nat)(a b:V)(c:AC){g:V->V->AC->AC}(_:(fun a b c=>jA S N 2 0 1 [a,b] [] [c])=g:=by (repeat (apply funext;intro));conv=>{lhs;cbv}):AC:=g a b c
abbrev yM(S N:Nat)(a b:I){g:I->I->AC}(_:(fun a b=>jA S N 0 2 0 [] [a,b] [])=g:=by (repeat (apply funext;intro));conv=>{lhs;cbv}):AC:=g a b
abbrev yN(S N:Nat)(a:I)(b c:AC){g:I->AC->AC->AC}(_:(fun a b c=>jA S N 0 1 2 [] [a] [b,c])=g:=by (repeat (apply funext;intro));conv=>{lhs;cbv}):AC:=g a b c
def c3_1:=yA 237 0x4c6463aa46b217ea770d080f31ea40ede9680cc2c57dcf59e27898dd79c61
def c3_8:=yA 222 0x741833f9d10d7b7f21344385fd0183b54ac403d7b76155d3a3ad433c4f8396c53fe90f7b79896ccce1a383b2f6f5aafb9f6af50489b4dc0bb7c22afc7348c0c8554abfdf62977754222a5ddedfdf4389bb64759cdaeb996f0e368de484483f3d48a24161fecdc12ce18338f9c226faef7ec
def c3_10:=yB 194 0x15e58c7fbf4adfb8afd34e8954c3d4b0656baae08d33d900064b5be9d14059e52ac28d72ab239309e9dadf911a454633bb8c500230f62eedd12076fbf962acf62c02edc6751ecae4d4fc971bdace0f548ba33cd23138ca871af68e7268785e017c170f0a2f55b287c148d660c8e6a57004687ff99021130998f c3_8
def c3_13:=yF 170 0x98ff341d0d0d8501600db0e0d49278b50b817a7faf88431c49e5d419c254cc520a32162847498d806f4a9ec818487d7face36ce320736c46db939a8e3ab04332503a5f5278209e1b254abfeceaeba253bd34b92744fcda3d8876023a4ecb48a2322c9e9dfd19b7ea1932b2022215ee608d238e0248e6f41b977e60e494d99380b029a182c52a534ddb1a908663908929059729a4ae81671b53b942376ce10 (.build [.i 0,.i 0,.i 0,.int .u64 0,.nils] [(0,1,(.c (.i 8))),(1,1,(.t 165))]) c3_10
def c3_15:=yB 263 0x813164cdf7c34b0b5b2a8ca172ad8e4bbc8e03a29858252d73e2fec8bb61ab2fbce5076fcd1299f0985d7da87337d57664d95720d256606c774be99e66e6579e7e3fc5ca36d19c39afc3afa8fea686c74f4c9b0ce1347479460257fefd303b9dbcf87c4d87fa8525c4d9feb6a7ecb4f2db072864ba83f6d0db226e47125a863583698e27690 c3_1
def c3_16:=yC 139 0x5aa6d2fe219ba75f1c95a398dc8362c28f89505b23b3cf92c37057873774b1c6634339cb80ded1ce30867822e13f4f018466524d46642a425d12618ffe8f20ecb7bbb0e2bc627aa60d22ca94ce04f9d3c34a99e784e84ca06ed59af12d9e634d7dd50e135e8ba6a793a261d1e01e0f6bf3c6e41fb06e6b1d39b1b3c1f1658666e56893ce10 c3_13 c3_15
def c3_17:=yB 115 0x550cf5eaf5eddb2a0bac5bfca59c9108d79680826944eb80315eca5b925ad458a799ac74d970a2817828004178d2994b3e5d326ce1ffde33fc c3_16
def c3_18:=yB 264 0x41aa79b3f71f03d9563fa6c8f95b891a6d4a51a85ffee128d6ebcdd461e0 c3_17
def c3_20:=yB 109 0x157c64066a6796aa575b28d857453e779729fd1d19074a5d5b0a6f1b097b019fc45b90 c3_18
def c3_21:=(uF (fun a b c=>jA 104 0x1343b22953f53d14760d3eae27649f5105d17efd9b48a118cc0264cdb80fdc8a1b5ad45b355aa33474995667229123fe8ba56d80d7b0410 0 2 1 [] [a,b] [c]) _) (.eq .ptr false (.t 95) (.c (.ptr none))) (.eq .ptr false (.t 101) (.c (.ptr none))) c3_20
def c3_22:=(uF (fun a b c=>jA 88 0xa9f1f5a0183fcb89a6d63b15f579f62c0837ed3fc 0 2 1 [] [a,b] [c]) _) (.build ([.ptr none]++List.replicate 97 (.i 0:V)) [(0,1,(.t 85)),(97,1,(.c (.i (-1))))]) (.box 98 (.t 86)) c3_21
def c3_23:=yB 82 0x22d0e74e0be045395a0b3807bd280713e1efdc9ee9bf34f544e4a748c c3_22
def c3_24:=yB 76 0x12f516f780ecd3c122d0e1799bb1fcdae8f3bdf5ab902ff3b5d0f48c c3_23
def c3_26:=yA 62 0xf29959d17131932e9b9d8e97d2626a933eea16c5d644fa39fff8d8d90eb17c98db5691427e6b5036aa20384186b36ea697a4e1a05cf0a8ea62f1ea0834
def c3_27:=yB 70 0x2bb87a4bacd602947da6b11a34e0a30901b0548084930ab8fbca55675ac c3_24
def c3_28:=yC 53 0x878a9500132de9f6d30811593fe38e46eeca854d0 c3_26 c3_27
def c3_29:=yH 49 0x3ca13ecad6053d705be09302e2a0ae22a81a93503e2349e7f2fbd959d01e01a0cc81c590f8116c10b9df72b36119a59cdc9f465dbb332fc40f6525c81a9e11e94dd73972e30be807114790 (.i 60) c3_28
def c3:AFn:=⟨2,264,[.tmp 4],yB 5 0x5bbfb6ebb2963f512c c3_29⟩
def c4_2:=yK 20 0x5c28e0a1cf64384ba726e19229be4077c02a84c12c2f48148ee3850a74501cd9fd454bf15a27e1499b94a1963e892891f1268af13128294e6f9a78ad51b3d8933a22506fe10dc64723dcd077a4daa71dd45f241ed510b954f352f36cd4d0 (.i 200) (.i 300)
def c4:AFn:=⟨1,20,[.tmp 2],yB 3 532183339164 c4_2⟩
def c5_3:=yK 83 0x3de4d347b449c707f0382f961fc23da28a573f63df027ec4ccca94f7cfdecba9c67f81602168899864b0f9c6a84131ccd121905984b4fa4976d5f3064f6942ea6f9aec69f5bdb84d3daa18ab21fde99608071510bf30cd3d4474848c279095ddb325e7546fe47689bdcb882e0546492153ea41b508e215c13ee58f104e49ea9e53d8b3fc (.i 1100) (.i 20)
def c5_6:=yL 84 0x18642638432ec96aa1cc3bf25e5c5cefdf1f3dc3555f45f15b5975309ff815cb2bca00c00703cf8d757b3185193948990b4c25922a5b7f6b65f517f5aa6ec3cc33eaf48956e53275ffb1ec0f88bb5bbefb60538f1f7d52cba7a225ae887d3886d6091e53718072decfae67d9c2fdc21c14741fe2418af972e1a9d8e926b88f74 (.i 60) (.i 500) c5_3
def c5_8:=yB 13 0x1dfb4bcf80335f4ed27eed78ae0d56b86cc6eac280563f929be4ec7a324b3e6ea589e10b13b102a74ee54ebe6863fd4d0 c5_6
def c5:AFn:=⟨1,84,[.tmp 2],yB 3 532183339164 c5_8⟩
def c6_2:=yA 21 0x13bd5ae754cd93dc26e5bf1460ae4264fb73e7787b150aeafe08956cc00aeccc463cd220a03f71046e553dbc5142eaed848f4ab41d27eee2eb6642288854555dba422edbd8d7c7169e126c1b0355b7d10b9038d68f7ab5301e0bb225ba17b6e4a86f428f394c4cd4d0
def c6:AFn:=⟨1,21,[.tmp 2],yB 3 532183339164 c6_2⟩
def c7_0:=yE 5 0x3b77274a7a440d19d42c8fdc0f73bd60109c (.build [.ptr none,.ptr none] [(0,1,(.t 1)),(1,1,(.t 2))])
def c7:AFn:=⟨0,5,[.tmp 0],(c7_0)⟩
def c8_7:=yA 98 0x3b83f97dfa9cabc7c886bfa7079929b6b5cf37f6fdc129e1c51e1b41bbb3b3b94910a2540cc219b810ed8289d3eb182ccbc8dc7d4a1b8915ac2c627fcaca112054fce0f77a629b9d2a5da985a9ffaa0b3e7cfcd099545608cf82694fc2f0601348b3234976c64fcf0baf16920e8382eb505a7cf373502765f307d82096cac5ae15afa2c7a00422ce98f07b5f9cdc312c
def c8_9:=yB 125 0x11c81f0efc808f52aabb92b9f0cba5b3dfcca35d0ba374fe6910b0a3b0a2e10048b35a4b80e9f8e7e7f5f5337f9c9985cd29a4b6a271037db0febc550b8e686aee155915ff8567dcc1586372d53ea6f3dbc16a1bb5974fa67de45fb42d141fc8fc172cc9251d1ac907904fab196db858d0b57b294a0452b77a727089c7b41153618b103778b12ce2ef9eb0a9fde28fe7d1b52012f4e10 c8_7
def c8_13:=(uF (fun a b c=>jA 205 0xa8f2e41c6c8c4748bed8743c939de440eb51955794c2f8cd3329eeb05f07c88f7a352b5a6c993f6bae404537735410f00a1ff32782283825b9339a82c1467d05b76fe5954ef01724aba7dc123065924b3ccd41491c3d4792c6cd90c 0 3 0 [] [a,b,c] []) _) (.ofBytes (.t 190)) (.ofBytes (.t 192)) (.eq .bool false (.t 196) (.t 197))
def c8_20:=yA 274 0x200f04d6d3dd8088a25d99684a98190b15b240094a5dbd394a1c0af4b734208daff7bed8d37cfbbc61ea9e2989c8609e211f4e76e8d63f8005d338c7171126db647e650bae71263ab0ed807cfd73f6520f217ef312c
def c8_21:=yA 238 0x117719dc315c103a7f90902c6be37e7836977a59c76c0cbe3833b01ffc74ffbf79a5cf07af21d8d0cd903c37aa2f9446377d460718623b295bf8b5a859cbd1e15531d06fe0e55017cd0bc8e5dc24026fea9a3d442917b4d6add2fbe0cbc10a23e94d6281d95ad2b1b266c61a2fcac6975c
def c8_24:=yA 162 0x3831a7105cedd63e598b88295254ceb885e270497bcfb514c046602b5c6d818293223b5edd8fb8eab54f1db9d40eb80fb4f66a0c141d29f9c65fe319ae5231d016b8212967345e92a68b3f9b870e0da6a591b2b01276eb0c4c685a3f5c71fda02d135b6d7e961e9df45e604e7a6025dc6d91fb4ee928dce4a5e82497ec
def c8_25:=(uF (fun a b c d e f=>jA 256 0x9a0bb155456d350fdf92d35b21f2d40505bfe3921b40cb0e191ae47d2ffa818259dd1de685bb8e85949113d10990f3ac2dbef0c6d35ac453f9f04922d82dbbb0df421e75a422d3a83e8970bc4d04405077871347b93605a780889c473ae3c51e75e1108c74dd8d8437d5b9bb746bb130d31387e204a09061ca07de051866ca52883d10ccd33088bdebb407d6f44257cf0d36e2c3c70a26034d0de3f0a582e5a790053c512c 2 0 4 [a,b] [] [c,d,e,f]) _) (.i 6) (.i 7) c8_24 c8_13 c8_21 c8_20
def c8_27:=yC 46 0xaad9b04adb012ec1367107bbb20e8009e1b2e12d22da112ebdf9f1cdab141bb1b5313399fbcc54f80ce6e1ded46449ff69d145787fce10 c8_9 c8_25
def c8_29:=yH 289 0x427ded1beb6a1d0ccf58e85e33c8c6944d1d14074775426a7e0d360b5a8fb031d73cde37731cb6fb2c40cdf200a7157a293e050d2fd0dd1b7ff1d09a86c7f4637fc33ce3c8227e281a0e81bf50f8a51f43f414a6945c2e4cefa5d29d1c57bf32a52fbd04078043db654e36dd9faf5758f63d25f35985fb41a82512dc (.int .u8 1) c8_27
def c8:AFn:=⟨2,289,[.tmp 4],yB 5 0x5bbfb6ebb2a21cd12c c8_29⟩
def c9_0:=yM 9 0x614d5be0f904d2bcff9f752dc (.build ([.ptr none]++List.replicate 97 (.i 0:V)) [(0,1,(.t 6)),(97,1,(.c (.i (-1))))]) (.box 98 (.t 7))
def c9_1:=yF 6 0xf607196f6501d5e99bedb8267cbb275944b131c6dd12c (.eq .ptr false (.t 4) (.c (.ptr none))) c9_0
def c9:AFn:=⟨1,9,[.tmp 2,.tmp 3],(c9_1)⟩
def c10_1:=yI 11 0x7a383b2ebb66d76063e8daad0acafed866190dcbfc759be22eceddc15d8f065a02cd4d0 (.i 120) (.build [.nils,.nils] [(0,1,(.t 8))])
def c10:AFn:=⟨1,11,[.tmp 2,.tmp 3],yB 4 0xee3f9ac8fad12c c10_1⟩
def c11_1:=yI 22 0x13a8585617aa7647cd7cec24d86d309f6483c195ccca574d7157a4d865131afe57f400fb7874ecffeb845241bddafd27ce0527d64fc4698e6dfbeb23a88dfb6ce10 (.i 120) (.build [.nils,.nils] [])
def c11:AFn:=⟨1,22,[.tmp 2,.tmp 3],yB 8 0x28bae9b4e2dd8ce4ecb3d917b1a5e0d12c c11_1⟩
def c12_3:=yA 45 0xf5d30f7cceed9be607a59b73c3a0b7219818667be2fe5cabeb73fc
def c12_4:=yJ 39 0x710cdfdec2438fcc111eece757e1beaef4a9aea71e22190e9c038b03e4ff43ed03e5d9d944917b44e5b7566d282f43db72391e7842ef75340e9cf26ebd6a681482b648c374861e923ad9b3f77cd86f7fe16731a377cbfd2cb48abd2f6722893e23da0a79ae4afc3f8632c55e1cb9211463662458eb27bd082a4e0313d54a52b017e562d09c (.i 191) (.field 0 none (.t 31)) c12_3
def c12:AFn:=⟨3,45,[.tmp 6],(c12_4)⟩
def c13_3:=yG 43 0x5b9c4270d95380258d79c108a7335439ca4ceb4d23c9c82e66e6bba03232352d6309a2f991506884e17c9ad431d941f10516261ad99b44ebc75e4609407e27aa2e192565b626f86ff799ab179c8a74956b6ddc8164988268a94bac018cd4134006b8033c559debeb4f9f6fcbd592f79aaf860a993dc94923a682cc338121bd864b5b68cd113baa1fc502be8f7af65b7868f78410 (.i 191)
def c13:AFn:=⟨3,43,[.tmp 6],yB 11 0x5ce7cc8c32f4b6987f9746f20e200cd09c c13_3⟩
def c14_1:=yA 20 0xbf86f96e693077b29d9d9e55be461c07b7604bc834743fa1f17f5e0a9c0bafc6b8df00f8e560f980b8f1aa30606c6a309163c
def c14:AFn:=⟨2,20,[],(c14_1)⟩
def c15_2:=yI 25 0x7f4202410d357ac27a0647acb3316cf861d7ba0eb6243899fb6e05aa9746652d43ab0447751fb83b92418da8fae634bdbc63126b41848e4cfe317e51c61023fe259945644cda210591fab2af96a49bded19a56b95909c (.i (-1)) (.field 0 none (.t 17))
def c15:AFn:=⟨2,25,[.tmp 4],(c15_2)⟩
def c16_2:=yG 23 0xcc4d12516d4d0bef47d1349d909d486d74b19c9ab48d1ac35b7e95e32560c65517cbbcd987715fe91cb7c77e12f9e07f06e57ec78836d465480c40f663f04bda580be7239e40de2362e9b9c3548c (.i (-1))
def c16:AFn:=⟨2,23,[.tmp 4],yB 5 4789558483587228 c16_2⟩
def c17_4:=yE 50 0x105fd9c3c0c417612607eac868ac09ca830884bbea7320b418e7f73ca9dc34c83bef93ccf8588963a1d20b84a7c72e85be718fa6f5747c4b3c8febcd7955f58494d39175c4942b8d7104b584027e9ea9b0e8d92f84df7d6c2d578ae15a0d3e5e70dd96b61f6a91c5f14c205c83c1beeff64a730a311e37c2e9e285a59028a65f163c (.mkBcl 53 (.t 27))
def c17_6:=yF 20 0x2189825fc6bdf2643b7394236c7d98c9cdeff2774d8098c634d47e536187fd007712b5c0194c479db6c559bddab67e87732880fafa838ce10 (.eq .ptr false (.t 14) (.c (.ptr none))) c17_4
def c17:AFn:=⟨4,50,[.tmp 8,.tmp 9,.tmp 10,.tmp 11],yB 12 0x3789151612a1db5b1a76c9cf5924c c17_6⟩
def c18_4:=yA 49 0xa25e10369769c3caa83c5ca5b0ef2bd776920e883b5e14f7ac21a5838bab54504368d9fa1e010f4d88aba5dfdc70c5280073a6002cc428b2670b61734e72087f864d54b9e804a52f29b0b7d635e920d7d182d50eac358c201bf0cf9878f271217c6eb696fceea9ba98256072e170bbe4e65ea014e52647a1cd4570dc3f0665cddd923ac80f8ab9686e392c0619446554698f2df678736c
def c18:AFn:=⟨4,49,[.tmp 8,.tmp 9,.tmp 10],yB 11 0x2c513520e444ff83dd1291bc c18_4⟩
def c19_2:=yE 26 0x19c5aa6a58a9f543e8d8f016372ae8449ff70ca00ce411137b313b5b9728abc1176d33fa3e0f6549633ec270e0da4a20fe4184ae73eefa0aeb6c5b3b3a690bc457923c6ffff9f3843b4414ab5251656cec70632a873240cb09949f6b97151b9fe250 (.eq (.agg [.int .i64,.int .i64]) true (.t 20) (.t 24))
def c19:AFn:=⟨2,26,[.tmp 4],yB 5 4789558881718428 c19_2⟩
def c20_2:=yE 26 0x19c5aa6a58a9f543e8d8f016372ae8449ff70ca00ce411137b313b5b9728abc1176d33fa3e0f6549633ec270e0da4a20fe4184ae73eefa0aeb6c5b3b3a690bc457923c6ffff9f3843b4414ab5251656cec70632a873240cb09949f6b97151b9fe250 (.eq (.agg [.int .i64,.int .i64]) true (.t 20) (.t 24))
def c20:AFn:=⟨2,26,[.tmp 4],yB 5 4789558881718428 c20_2⟩
def c21_0:=yE 10 0x80398c2f24716aa3ba974a707d6a1a03dba1df7f9e355d45480fe634e10 (.eq .ptr false (.t 3) (.c (.ptr none)))
def c21:AFn:=⟨1,10,[.tmp 2],yB 3 532661096604 c21_0⟩
def c22_1:=yA 21 0x38bd147ca8475d66131219f2c9f86c3d183b5ab88ac36ea727f0bb6242aa0317d7376227676790449af02c1f7fe9eb2f6ccd223006d068410
def c22:AFn:=⟨2,21,[.tmp 4],yB 5 4789558483587228 c22_1⟩
def c23_1:=yE 114 0x23c6b4b4694665181cf2c5861ded6b473de3818682cdc8b63ee9be07a3fba115faf71888c020eb1f1c94db646e68a622feebc1ce02fce78ebfa4fe51cdffe393e5007003235e4495928e4ee3eb81f0574afbce39e4586dbcb3aa6ea47b5792a46585d3bb95af00589a8ab23ce55b4576934e68dd34e25492f485d883e690b93c59ba4 (.eq (.agg [.bool,.bool,.bool,.bool,.bool,.int .u64,.int .u64]) true (.t 101) (.t 110))
def c23_6:=yA 78 0x26b47c21f10c3622ccbfe551418ab9cd23c895d23d25bbe6bfffb40d887508c41949ce699f2c80cfa3391770bab012e6d1204c0ea32840a0c494af35931699963934b7c8a8405fa43b5b57ac87516fac92ba2dcf1ed2b3d7e05f83e57e1fcbd702b0d81ccea72066ad6a636a0ba24cd0faa3cd3b4e10
def c23_7:=yB 125 0x10b218838394580ed683c6a66406d710aac4119146e6f467010bc0bf0671559a1e4a2210cabbd1026bd3ec8fe28d15a90f1e4a6ea3cd4f696b2cff8cc1a12927d4d0 c23_1
def c23_8:=(uF (fun a b c=>jA 51 0x136ff96326f9d6cff822abd0fad208d83ea9d9e00f959f03a6b0993de01003972df5bcd076d3c4c48635ecd5cc086c116e396e1816743dacafceb23c20b2990c7a22e576869ff77efc59206d05b605f874e3149a2a2eb9820c445693fa2140013b01b5bd8f154e3c13b2f0f0b51858b4034e4a700769f50 1 0 2 [a] [] [b,c]) _) (.i (-1)) c23_6 c23_7
def c23_9:=yB 18 0xdb018cf26e5856631ef0a80639b6d5f7eec20886e65f13602a91daa0a7c5936c c23_8
def c23:AFn:=⟨1,125,[.tmp 2],yB 3 532422217884 c23_9⟩
def c24_2:=yA 28 0x9f2301365b2651d67e4eae8a1fd03bc0913cd9fb5738bd95987bc4e71b8dd0fffe494c7beaf66283f5dacf9987bd42f42c85b0115623ab60c41369080f1ff026ec3b552b4449f6343c8cb9f49a6dc653b8595654df13cad0b8b43f9c330ec27b5b8c000b45a36380f2ccaca68eaac15bcca75fe250
def c24:AFn:=⟨2,28,[.tmp 4],yB 5 4789558881718428 c24_2⟩
def c25_0:=yM 4 0x5edd46a40733b87a824c (.build ((List.replicate 96 ([.bool false,.i 0,.i 0]:List V)).flatten++[.nils,.ptr none,.int .u64 0,.bool false,.i 0,.i 0]) [(289,1,(.t 1))]) (.box 294 (.t 2))
def c25:AFn:=⟨0,4,[.tmp 0],yB 2 116227805340 c25_0⟩
def c26_0:=yM 3 0x119018f8aadaabbcd2d109c (.build ([.nils,.int .u64 0]++List.replicate 32 (.bool false:V)++List.replicate 34 (.i 0:V)) [(66,1,(.c (.i (-1))))]) (.box 68 (.t 1))
def c26:AFn:=⟨0,3,[.tmp 0],(c26_0)⟩
def c27_4:=yA 37 0x3580462cb08169fe47207c4e9ec17631146aaf0637e6673bb65aa0d5490ad50e7ad6debc24ce027c29971c57a8f94fa06eff1134657b2b33db8d058caa6c40dd660be2bf16bd99fe7473f1d0632d6f42809fe6029c98418fca1b564c606d9744da67f02e067f9aae4456401e63f6e72d50184e1f3da7631b9cb07348629496a6740c7956696272211bc
def c27:AFn:=⟨2,37,[.tmp 4,.tmp 5,.tmp 6],(c27_4)⟩
def c28_2:=yA 25 0x1f2df22a435725c903f398d5daeaf6812635fd2048284f7efa3f5916f5ac61c0aca9132fc4734730f4b21ea01c973550a12c64c6604eb3044694f7d484e0469808bd17e64765025d85bbb5ac
def c28:AFn:=⟨2,25,[.tmp 4,.tmp 5,.tmp 6],yB 7 0x1c2e621d6ba304310c11bc c28_2⟩
def c29_4:=yA 35 0x20359e336dc693b53947a630fa3e28e5891cc2d7f3d575451655a9dfc85c6562147a9f79a11a2ba238761e8ba11b47188c8c098c3ddfc0c5b83c4306c9e851bc676057b9b3a455148d1ef8dd6240f66dc870cf3ad80d8517892c9629de34f6a09c1be3743b16b185c0b0e90397655dd94609dd94f49811bc
def c29:AFn:=⟨2,35,[.tmp 4,.tmp 5,.tmp 6],(c29_4)⟩
def c30_3:=yE 36 0xfd1962f193e06a359585b75da50e1f009a2da19c0f5a8338f117ad3fee1f1dba14faa6269f021f49420001a536356341d98d55fecf0c70eb5f36a9ca5921d1c28657d46a2340dd00b0866e5591200f5beeccda948b56ab0542a637eac6d74290e27f433b2c916ba701460f2039879a1c273f5d2efd0 (.build [.i 0,.i 0,.ptr none,.bool false,.bool false,.int .u64 0,.int .u64 0,.i 0,.i 0,.ptr none,.bool false,.bool false,.int .u64 0,.int .u64 0,.bool false,.i 0,.nils] [(15,1,(.t 18))])
def c30:AFn:=⟨2,36,[.tmp 4,.tmp 5,.tmp 6],yB 7 0x1c2e621d6ba304310c11bc c30_3⟩
def c31_2:=yE 116 0x5b08972d8a17f403f3017f8a7e3c9ceb2f06d972f513c36c51fa61078392640b69af3cb74c0fcaa280074d708389d2c514b146aa1668cc75da5e86c6779bb228 (.slice 1 (.t 113) none (some (.t 114)) none)
def c31_3:=yB 103 0x97d6421b15e010bbf3760686deba2d4efd23ba445c0edb0392c52f0a8378596b6019777a842786dfc4151decb38e82bf45c53abc36526732adbf672500adabfd21ab5e68a6ec4d07d0d352a1547262a7309578d7daac750 c31_2
def c31_4:=yB 86 0x126767b6c7c3a2bfebf3579157153676742b8481ffc474db53381ce10 c31_3
def c31_7:=yA 77 0x220705a1af903d44a4fa47ed338285e20691200b3c4cc563a7e13c3b034bb2f53578f0fa50f75bd4024a42f0cce6cc18cc1df5377db62f17d204fbd9a97eb39417bf2ffcc5f8e2d92d5ac11e2c8a2916d0f2e83c12f9e14689ad2553216d69cf19845531d0758fb901fcfce657db8badba891800102c49fe4e10
def c31_8:=yB 82 0x15188bde90477012496f8acf096937f4238135fe5a52376f7e6558cacab2557424e10 c31_4
def c31_9:=yN 45 0x55c8f45bf9961020155f4919241c376d1fcd541f84b99b37666f87b2a216bbbf2464a89724c (.build [.i 0,.i 0,.bool false,.bool false,.nils,.bool false,.int .u64 0,.int .u64 0,.i 0,.i 0,.bool false,.bool false,.nils,.bool false,.int .u64 0,.int .u64 0,.i 0,.bool false,.i 0,.nils] [(16,1,(.t 43))]) c31_7 c31_8
def c31_10:=yH 43 0x12aef4bea9400028a08a663d18e45bb95f03175a524f0f932fd14e016d4cf92c40edcfbd46b7f8598359190 (.i 1000) c31_9
def c31_11:=yB 31 0x5c9a56f2916bf039faa1a81a3ac188e40f881837435047e1c69c903af4e10 c31_10
def c31_12:=yB 27 0x11da3b665dcef66b46175ad52c57d80738b6cc0c9bcb04698b01fbf3b08c309b9ce1f46e0b65688dccc18148e81a130a21daca5aedfd91d9489f10 c31_11
def c31:AFn:=⟨3,116,[.tmp 6,.tmp 7],yB 8 0x1da1d5b8829fb95512c c31_12⟩
def c32_2:=yA 30 0x8cf516a101e47d1b6096c6726802971461ba73759b8870ea5982a45228addf6cc
def c32_3:=yB 55 0x13907eed07b3acc54b1cbdd789a6f0dc3f05bdc44806651782bee9269d54fec288a62b15a22045628027f3f0d9bb05df675d21db7675536f608ce6e2b6de4791ea3d0d0461cb0e8efbd3250d1d94f08ca6f197b63e1696eccda6a08c2ea961c65e5bee73886c26910 c32_2
def c32:AFn:=⟨6,55,[.tmp 12],yB 13 0x2c462577e7edab909c c32_3⟩
def c33_3:=yM 79 0x27baf4ac463423ae303117c60d69cd515ee525be3efa8fcd50bed3980ca76c2832572f62739431fcab12bb4c283bfc1cda89acce942b9455cda41d99a83f02d1e45d108b2651c28fe4e345d34a4c3ddb8ffb7c1df426747c279c39685ab53e69eb7974f3a651e694d060d27a1799fb7e2e54d2133f82d812f976856c12b22ca1dc7b7eb44f75083be4b6f0713551c (.slice 1 (.t 48) (some (.c (.i 1))) none none) (.build [.bool false,.i 0,.i 0] [(0,1,(.c (.bool true))),(1,1,(.t 72)),(2,1,(.c (.i 0)))])
def c33_8:=yB 44 0x2da9f9078250cfd6b336f6f27fac65f30fa88dc41d232517cf087f25c1653ea8891da7dd1d5d61e6b8936489474ec6615d56dfae23fc0c2e8f393ff4e10 c33_3
def c33_9:=yB 35 0xde78c8e6af2b440ce3da3bf696eb73e271b61923548b6030081f8bba5dfb6de74fdecb7b740fd271a989a7c1e5f6d842c5c6de479db9a9a537152e233eeed7b891874f45850067ee77b7142b46176d7aa1b4a3f1f6dd976f020ddfe90ff8e257649c4b1b50124c547cc7c05d5007ab3961cbda63eb39310ddf537a53a89cd9836284be102b7d5cb6ee58cc8c7ca243b59843db950b4134f2f1976b56cc c33_8
def c33:AFn:=⟨2,79,[.cell1 4,.cell1 5,.cell1 6],yB 7 0x1ed8e4150c15b12d08a6cce53ba8d0e5724c c33_9⟩
def c34_3:=yE 94 0x2ee24ddfde898e6ec0d6b06916fb0fb22103f0a8e8209003d304cb92d58f144d00e4509a8bc81bdc9c20fe872997a080c826cfffe78cb14a7da5a0fcafd22a91f59c1fea03da2ab5486998413e92b66b9015d83c80932a56d88b55429867d7e25eca064960442d1fed383ae7bfd782c4755dd7d8a816ab77490272809ea8c773a2a8905399c (.slice 1 (.t 65) (some (.c (.i 1))) none none)
def c34_7:=yB 53 0x6bff4ee09bc62cfe91fde1bee6def45ae2a061e94a8e422ac6edf604be692e1c913de457029438cce140f710d32db06dae612351e4d5bdfc0d85be4849d602843ca5d3ce93e801d7d64a1564295da6fe5026bc4d240b3e9bf9909e85cb96a1e927aa7230ffebc2d9993b4ce3d415fc61cdc836953180de72de4c60a3a5b2fd71b924c7d7966e2eb06781d0637d50 c34_3
def c34_9:=yB 19 0x2e518340b997861e654869c34acc09a1f16a38c061297c2733695b40836a34707ce038aaa25e422da19a148c c34_7
def c34:AFn:=⟨2,94,[.tmp 4,.tmp 5,.tmp 6],yB 7 0x1c2e621d6ba304310c11bc c34_9⟩
def c35_6:=yA 53 0x9e4a852d130a86c4b59541b21feae02732d5d3ced44260b86a433807f5f0ea93dd1ab83f0f0f3a035acafe11b29fe9a911601b54e5332c17f1d1c63d8bbc29b1f0c298ebbb6b6d9d731b08d467132ad4e910
def c35_7:=yF 40 0x32ccda81daa74ffe7626d49fd69aadffbc0e2d509b3bbf7e40d68d2f6f423595dd18a97df3e941094fa29a9feb3abef2e8a03979e3d323dbaaa94b0e801ba46a12f203c4585be7abd8021f31b6912369a9aa433e6208fe5b80e37720771767dd426c5b3be29eb968bfc17aca7e0e5ebae0f871fa70140fd7fd0a5f503069cc64f603b1af0779299e46a9edbf6f2eeb4e869ddedc73d02bd359f7a163c (.eq .ptr false (.t 30) (.c (.ptr none))) c35_6
def c35:AFn:=⟨3,53,[.tmp 6,.tmp 7,.tmp 8],yB 9 0x24420b805a62004712851bc c35_7⟩
def c36_1:=yA 86 0x1af7a6e5af838a8370126abbf5da473113520668dbf0bb34e0964522340f269d31e62c21c5d0b0629b2fd129741391dfaf94abcd9652f42b52863edcca6b519ee3ce54c43c91bd22bae0cad2a26edac0d98f801113cf31625eee1504757f6d0
def c36_4:=yB 59 0x96fcef2066c36130a67ba81307d7daf5f06fa3fd39ed3b6edd7f3aaf7518b4ed8970a9f6a204ece907b2f3a93650fd9dac8b13c9fe38bc4fc9ee4c48bf0151346404d679979328a2285edc1e127d5650019c28f1f61e04194b005ac31c053e7e601b65717b220559a5bb79cf344ad192fee130ee75ad9b66628b230134e10 c36_1
def c36_7:=yB 31 0x820980357005f30f519b0489f03e094493e030fc7df1e7cc1998ab58c34616338920e31171f9222d60ea4a808ae35a03bf164e374e2dcccfc3f1cde127a4ceefe9edddcd225d06390723185cb45417ac387c3919e15b12838095e1a148c c36_4
def c36:AFn:=⟨3,86,[.tmp 6,.tmp 7,.tmp 8],yB 9 0x24420b805a62004712851bc c36_7⟩
def c37_3:=yG 63 0x6cc111b1d84ec6ee0062428b49ac985e77069dfd9834d4aee39704a8697c68c72041ce94cd70990c9caebc2a2a5af3f64e1cc07a86256639a51552a44acc0a11f485e2840e486eb530c8dbb06735e5fe4555279772405c8f65546b59537135ec4c66fd7c4887ee466def971ff131a60d19d80e7d31cd2dc (.i 114)
def c37_7:=yB 71 0x357fcc257ef78aa17058526b905e950df49f79b8fffd67230b47a3a6d44231f470ca8e6432fed7a14d920dffe663cd6ae6d2fc1e67b5424f5acad2b66d34083274bb4bc276cf5903a215a610d882c23a339fe3294103eed769f0edf84544c9a3effb00c61e21e5b6792dfc47f7a557160c1bff955f9832da5a647e7d07ce7218476b85d35476d4aba842de2539585452dc0e0824363c c37_3
def c37:AFn:=⟨3,71,[.tmp 6,.tmp 7],yB 8 0x1da1d5b8829afa5512c c37_7⟩
def c38_2:=yA 76 0x262b8ebaf43631224efa3a3db4a321fdbbb8e0a20f88ba9283ac867d9198dfe940046fdfe159e04f1fe40073e5878c91145178ff71ee835a8c0aa22abfd22e1e3d934480f996b854d0
def c38_4:=yH 65 0x420e73be1d896563a3b546d00d5b18b254e80b94dba3b7fbf621c241bb258cf16f1df359b5745397652d4a7583f5a6cd5533313d692399b81976597a1eee68f165243f03acd755b5d8c69d025891cf5b7082c5c9e339af64bd77186daffa127c02608bb1e26c19704c32aefa119b6fce48711b57690 (.i 114) c38_2
def c38_6:=yB 31 0x6ded1c47aa0f959309d72a8044d4837113b3710ebebe3902c9fc8fddb9d4fcb52e0da243b455d174c1a8f6fbcaa6d434e4d172826f78ebe244495806713b22870e17e60656bdc28a3b52814dd7a4ab5fa992838095e1a148c c38_4
def c38:AFn:=⟨3,76,[.tmp 6,.tmp 7],yB 8 0x1da1d5b8829afa5512c c38_6⟩
def c39_2:=yE 44 0xa99ef0290181b106c91010441a847444a7a8e42ee8ff532124a5c5fd3512edac002c08b566ac9ba1a91f4a9ef30355a3c3ef989367eca84a2e4f12c0850757c9d774ac55ca50926efc6b7ce32560c9fef3fd54ca554f7ca167a23bb20d7fde0343f6887f423e66209b9dcb4eccbc9b9b83dd7bae964c3e02c0220bd7823ad1e9803e7a37c30e5318dbb63c (.eq .ptr false (.t 27) (.c (.ptr none)))
def c39:AFn:=⟨2,44,[.tmp 4],yB 5 4789558483587228 c39_2⟩
def c40_1:=yA 45 0x7a345db1c4fe9da8f41f2f14001b80006b9545a4b2d2fdbc42035192ec412aac787f54ba767496f934488520d575b3bef155db3efd830a6934c20a2dd49a94a3d714ed1e75666ce7e0e1103d392f5557027799e495633200cfcfc429222dd49aa034dd6d7e8e17c75d82084a76c1846033e42796544e4dc81b32cfe57e0b1080d80b1bb35addbf31948c
def c40:AFn:=⟨2,45,[.tmp 4],yB 5 4789558483587228 c40_1⟩
def c41_3:=yE 51 0x7400172efc7b829004734bfa005a569e87a7e6fee752cabb1f7f3415cae635e85251cf7539083f3295109877789abfe5827a46a00a436ef70335be6ffa027bcd14e409992ab56019796befe73b9a47941bbebb02cdadaf4a3e61a9bf9c64e600f059bcabb501acc6183ba0cb2a89d2fe3bf16a8916a48810ee5d877d18705f214b13fc (.build [.bool false,.i 0,.i 0] [])
def c41_4:=yB 20 0x2736fd8e3657d13cb4d6cb730ea38c09a679953b68fcbd5d49776b5ac1ff808e2f524a6dcf7df841d23e2b1c0f5b2585feff63c c41_3
def c41:AFn:=⟨2,51,[.tmp 4],yB 5 4789558483587228 c41_4⟩
def c42_3:=yA 53 0x143b34127a3251deb771efdb7aceffdc5c427029512708c81a531d8091e744e695c0b0f94ee6bd4be962a509b65f31c4aef9220420b68fbc6f5a20aa2c36873d33e3e47bd84145f7618077695dc9161c330cf2426fc4c61f83179ef41f446085331a62a8b9751103244afaec48be211fccd3fac8619c49e705e7826263a2924c
def c42_4:=yB 16 0x431af43c99ba8048237def2c4a1e7bf1d57ca378795de361dcd270d4c3d5ff2986906f265bb48c c42_3
def c42:AFn:=⟨2,53,[.tmp 4],yB 5 4789558483587228 c42_4⟩
def c43_21:=yA 303 0x17888e0d6b074410225dcf8a1482a945ed1d2560eb9bd241762cd46ee2600d45bfb5d0547b6de54ed52d0256507af4c41cdf01139665fbdfd18537a523065b8a7f5ac
def c43_22:=yE 281 0x338183b77f2f2d3d5bfa47551871e09172f4543fa6104605eb3a69b7c4df5395b84388b0c6b71400dfed97ed6b3265d1eb2a401814e55c9130badf68bd0a2aabfd7b66e144db8538ad2040148ce08b30f5f8788a330e59a5dbf633f91d618c746996b30798900d9828b476c90e5f7a7880e62ee30807d7e14ce4c25fb0c69cfebdf226a163b7e0b9647290dbc9fbfa5213dce47f36c (.eq (.agg [.int .i64,.int .i64]) true (.t 274) (.t 278))
def c43_24:=yA 249 0x1fd1ed2514ce23685bbd98198e4b2b4da32b78adfeb0dc1ef3a3377963f1867e2971391feefb49f3a97e92f6778b3633983c051b48c
def c43_26:=(uF (fun a b c d e f g=>jA 333 0x133c58aa90f25678c179564a653e686eca8433ba76f368ec156423665a41c107b6a4bdb91cca312551904dbf94fac2035dbd238a1f2c737e6fa910a4842821a94e7a8fcafd5b2c55454f6d60d5a7690c0bf51c0e9a76601585e4d0e0428c309a005b8f1c3411ed1287db3dfb831ac8e37ac7af123c32ce990c2d0509f46b490b20ac8f14b8fb2861766dc4084d527d4cb85edbd221d62a15cfffbdb16f45e03004a50d12c 4 0 3 [a,b,c,d] [] [e,f,g]) _) (.i 17) (.i 18) (.i 19) (.i 20) c43_24 c43_22 c43_21
def c43_29:=yH 231 0x7324cb5770274778def8d50d47be6ec62144a1e68250991b513f7d6e47f9a03541f36e920a002ec04a0a056c7a52ac83fa83c48510732bc91fea424457ef7e642b39e9d3137623eacd3fde5e2b72aab40b360efd3f4e668311e18724748ff9f426c2c79409b5336a2973c775ae25fe472169b43bb92f0500dc83a9171aa3d7fc32c9f0782f74c261660fc62512c (.i 15) c43_26
def c43_30:=yA 157 0x330236f8d05d1ba9ab65bf87192550825a6ed8e398fc5b3783741d5b593743785c26d63f5178544bc800f873734afa7dcd696348c
def c43_32:=(uF (fun a b c d=>jA 191 0x18897fd1ff97262939f5a850a3ac775d8e85d53319816b66809e10092ca2bf98de201f5ec39c4cc22ee084d1563b19359b2a679c822e3f4c3e35fcf02492af81456b9f576e0803dc91acd1cf6caf0bb06c5fc66c36bf74ee85682eca8380f6674786b43122d6bab43eb544e8f0d1b7020650cb5e2bd37e2d6efb37633b368ddc5fe3895f3494e16e618ca015c29d12c 2 0 2 [a,b] [] [c,d]) _) (.i 13) (.i 14) c43_30 c43_29
def c43_35:=yL 139 0x3e15edd56308633ca607ff5d2a47d77af87a6e11ee86041ff26cdbec514fb33b920866f1e6297af141120fa49a222d016df43344e65a7e421141cf39fe4d322ef74691c6e74c3c094f5df3d440eb51731ab7646bae82fa6a572a5e643ffb7f3d9a25a532070ed4761859264d187cd61d73f794bd96cbc9844c6d0c890b14c28970ac9f0512c (.i 11) (.i 12) c43_32
def c43_36:=yA 67 0x8c8444a6792b4c1d47c10144932e7e2af91526f535d50cccffc16b16676c58441cffce214348556a67afeb85e8e0f283f390e07e259af391d3579fb26f4e42f4a760a57957bf88793cce767d59742a109dcd3787c210afe21004637255d47b4eb2161b98d35375c
def c43_37:=(uF (fun a b c d e=>jA 103 0x97ae55c356e5fd0b95a2ab143fef1f3b4c3354055fce59b8420f7c2a777191d0cc0515fa42d0ef36fb7a9ff001c213b2ea9c94b695c7551e4d24ac4763ff86f6fdc0bdd11b85954c55742d5ac0bb5f9f351ec38b38454f3b810e144d636d1a85ad1d3fac4fe3109de15ba55d6e852d94074693997c55fb3bdf4f4e028715caa4a293ce08becd1c52c1ccb12c 1 2 2 [a] [b,c] [d,e]) _) (.i 9) (.ofBytes (.t 93)) (.ofBytes (.t 95)) c43_36 c43_35
def c43_38:=yB 34 0x2782eb5decfb7c0157e3e698d75a446c752d7d31023a47cecdd12c c43_37
def c43:AFn:=⟨3,333,[.tmp 6],(c43_38)⟩
def c44_0:=yK 11 0x1ee2d2ded29a8dcfa007ee27bdebeede4cd1b6c5616f51c (.i 2000) (.clo 111 [])
def c44:AFn:=⟨1,11,[.tmp 2],yB 3 532422217884 c44_0⟩
def c45_2:=yA 19 0x48d6cf32540517b972ef323930bb5c0fd213b1dea2672e6367427f91b3993dee009273349669e8e311554d3c90a7034a117b3fc36e125be908ce2bbbc5528f070cbbd01eff3e9e009221114b3c9436d3379cc7fd4d0
def c45:AFn:=⟨1,19,[.tmp 2],yB 4 0x478b5ad0581f49ad09c c45_2⟩
def c46_2:=yG 21 0x26b68f33e56e4cccd68abb59a18b88c34bd55fcf32f2aac2c25a085a3af690c8d25357c54f4046299ac800795b4191aa5fc65736f5c288d3fde4bfc80fe357a4507235f36d7751894fd07501f93bca3e34c2aa424d4cd20cc278cc654d0 (.i 2000)
def c46:AFn:=⟨1,21,[.tmp 2],yB 3 532422217884 c46_2⟩
def c47_0:=yM 12 0x28acf3629c132e18fa91427e983a6c4f35b1616f5ac (.eq .ptr false (.t 3) (.c (.ptr none))) (.eq .ptr false (.t 9) (.c (.ptr none)))
def c47:AFn:=⟨1,12,[.tmp 2],yB 3 532422217884 c47_0⟩
def c48_0:=yK 15 0x3279c557edcd06f595db767c844d2d6d2113dfb80c747acab22f612b3000b0547daf75c (.i 38) (.i 6)
def c48:AFn:=⟨1,15,[.tmp 2],yB 3 532422217884 c48_0⟩
def c49_0:=yA 110 0x30a9b1da28c494d80153ce2547187fcaaeec177a718571a121f48b9cfb61fdc7127f0606e8394286410e880872218a21418c22bcc48ea3160c69e6b71dcc2e43aaacf39e17365cbb94ac8c004397f8bffe1c
def c49_1:=yF 85 0x12c58e75c502030615c8a9c06ec0bd2ef949e8150c79dfbc39e23700a26d989f8823b3be1b415994a4ff56a49118fc3d730e45d4b969315479047e6a2e14788d9e541cfc (.eq .ptr true (.t 64) (.c (.ptr none))) c49_0
def c49_3:=yB 63 0xbf21dcd7bb637026a9634295e5d1d0ed34521d2b33204db5c463000517202f3affcd731dca1363c c49_1
def c49_4:=yB 54 0x2ffd451a33152fff62b436b71d78ae212013ba298894243c36d6dd8b0bbccf015f8303d408b9382ed90ceac2f8d821b1b77f586250 c49_3
def c49_5:=yF 41 0xcfa884b73f4547d974f3538de7e34ed559e08c7ec50c2c6eabf34b3fc (.build [.bool false,.bool false,.bool false,.bool false,.bool false,.int .u64 0,.int .u64 0] [(0,1,(.c (.bool true))),(5,1,(.t 37)),(6,1,(.t 39))]) c49_4
def c49_6:=yB 36 0x2a3cfe3ac5a255093d7bcd4d1563e6c87e0f848bbcbb30e0a6aa180f46de0aaa7658a0adcb1b885fee77d7ee6b3daf83c1dc2ff3acffa33c68d40400cb2919dffd8ebe38aa7fb4f12f30ee19d6b8 c49_5
def c49_7:=yF 21 0x13b4fb6962ba1a22861d8481a88f555a5762e5ce10 (.build [.bool false,.bool false,.bool false,.bool false,.bool false,.int .u64 0,.int .u64 0] []) c49_6
def c49_8:=yB 18 0x10e6abe88103b3f925e0af0bd39d66c6c8d6a1c6b1b96e06cf125a8be17e8473a163c c49_7
def c49:AFn:=⟨2,110,[.cellN 4 7],yB 5 0x6fae926033c70f6292f2909c c49_8⟩
def c50_5:=yG 37 0x1035a8f887cbe7cf7c71ec1dcf10db6c17ffa90ff27c41279eeb4525b9fdfb9b26be6cd05ea1d839c6d3af6b8497ad725c8464e4b28e45e917b4c801a0d950776c8f6de49de120fb6f3f789cf86b3a7e90705c65680c7d403ae92c43f3f80858c4ccf0c97e93d4baf93bd50278543cb5c313df965b5b034ec2f3844a67f3ad1ab15c47af7cfc40884e351c2dfe0ac280a58f43aead9f754f3d0f6778cd1bd6352fa2e910 (.i 38)
def c50:AFn:=⟨1,37,[.tmp 2],yB 3 532422217884 c50_5⟩
def c51_0:=yA 122 0x864e997712412c1560c03884b4ee4ad3cf754aa018d61ddf556f16d1a5bdf53af16cf8be776b4a99ba58dee3d0dd540f4cdce9bb453bb0deadf4c4425c0cf005ee20cd9b6908cf17950c60333d2f183ab125d3a9c7e88358f07fb9a8a5ee6b3724389f707de15e5b52d4fba1b1c86a32c
def c51_1:=yB 88 0x3eab022b9b05cc1b36d4a1048ec0ba48794e4307e58d8a9d0f47204b7d71d253afbfeaff4b7923c529de89da1ac8ba7aa3d45f6c2183625bbf709d2275a7134dedc8f94c5379a75eceb1a0a11dc5920c58b0efd1dfe839cf9615901ad6c5fe17c c51_0
def c51_2:=yB 58 0x2eaa5aa4246842133fac1920e310ca7851cb8a85200a63da6e5184d31bc c51_1
def c51_4:=yB 53 0xd6750d5b2374ef0588b0b5a9269d3e1a5b98a9cb1f23c16b0592bd48c c51_2
def c51_5:=yF 46 0x126b2152c484176e4111b8ab0efdc60d1c65f98fce71a7051897cc1ce20069ba465cd3dacd82b9393d6f5336acfdd1417e662c1e97444433c1b61d6706096d8dcbcd51490c9cf87af34f8375cda127ed6786fd63e7040eacc6bb28 (.build [.bool false,.bool false,.bool false,.bool false,.bool false,.int .u64 0,.int .u64 0] [(0,1,(.c (.bool true))),(5,1,(.t 30)),(6,1,(.t 35))]) c51_4
def c51_6:=yB 26 0x27ca274f3d2d6e6d1e40c4328febd2885eddcfdb5f9e3dad1b6ea046bb482b33b7814af2b84f51c c51_5
def c51_7:=yF 19 0xd349fb5a1722c5300610492971f0302e110f4ece10 (.build [.bool false,.bool false,.bool false,.bool false,.bool false,.int .u64 0,.int .u64 0] []) c51_6
def c51_8:=yB 16 0x398968202bc8f23b0305ce6519465991733a506f266ff48c c51_7
def c51:AFn:=⟨2,122,[.cellN 4 7],yB 5 0x6fae926033c70f6292f2909c c51_8⟩
def c52_3:=yA 98 0x4697c28b17169b286d81d38133cb5afde2784083ee4a55a861e119f206ce7d37ae1e585e98e971eb92dfad8d26b3e6606f73e421cf6a92aca96a768ce4ab4c3b4d5dd5392853b05bfe74c757f68a84ebc26526065d94925998ed36123e7bad186d3737cc50f9db7ad7d25550f4f7e22f9bfdfcae28b7e108c1270fc8f67bc6b31cafe33fc
def c52_5:=yB 60 0x4df9916480ff0d648a0a7291452a4a59b0a9d712f0e2b301d7c5365d00555cb9eb84ded15892ba200ee7f567a0c7b5fabb154ad6d4ff003bdcb07dc6d2264cf9ba13fc c52_3
def c52_6:=(uF (fun a b c=>jA 43 0x24068709d00b25bd7f1286c4eba987436b77e4ae745c72eb76adfeb3fc 0 2 1 [] [a,b] [c]) _) (.eq .fn true (.t 37) (.c (.nilfn))) (.callv (.t 40) []) c52_5
def c52_7:=yE 121 0x983e05bebcb35f1303feff58cdc751e8325981860ad19a73043b90a9a06430c8a7f185045ce651dbe234ab850f251aa1c3ccf774fd81077e6eeffad33b644818c8c16497b770c355ba132d51c (.minI [(.t 108),(.t 115)])
def c52_8:=yA 36 0x18dc67d09d9b2c7939e27d59b7c42f6c6be2a72694bdbc476385a5a8a668952e34332b3823b4490f135e2b9a5025669879b1180d2545154f34685710249f0fbaf8ac90
def c52_9:=(uF (fun a b c d=>jA 17 0x26686b8d13dfe882ff6f02afb6c17a0c678162a2e6fa6939e20ce323a2e961a14642f8d23ab76910 0 1 3 [] [a] [b,c,d]) _) (.eq .ptr false (.t 11) (.c (.ptr none))) c52_8 c52_6 c52_7
def c52:AFn:=⟨5,121,[.tmp 10],yB 11 0x25766e1190b89509c c52_9⟩
def c53_0:=yA 8 0x4759916aac8a8375099f55758a81d257767ca9f9ce8749d152451621994c0a734e10
def c53:AFn:=⟨1,8,[.cell1 2],yB 3 0xdc404967a4a509c c53_0⟩
def c54:AFn:=⟨1,5,[.tmp 2],yA 5 0x161cd6554fc41862f6d65dc5ca64509c⟩
def c55:AFn:=⟨1,4,[.tmp 2],yI 4 0x3e74bc8c76a4aa590df662612c (.nilfn) (.mkClo 121 [(.t 1)])⟩
def c56_0:=yA 16 0x1799acbbd8123324ff2136b258159fceae8353da7d713b5e3491836cab02ebef7ec
def c56:AFn:=⟨1,16,[.tmp 2],yB 3 532422217884 c56_0⟩
def c57_0:=yA 14 0x1f90cfcfb58567cc05c4684458150d71bd1130b5a08228168de7262146909536c
def c57:AFn:=⟨1,14,[.tmp 2],yB 6 0x3a7f1b01092b5cd6fed7416f3e33e36029f9dd09c c57_0⟩
def c58_4:=yA 110 0xe52dd7cb7c4d2cd1c81126c0419147b354035bcafa250d83efec194678a49ca99f63162e7b7e974a78b012ea490468017515c6b5b9f12da8adc45bb155f9e1a04fa2a51403b91cf5901760dc5f62e7e28ccec750704a79531b3fbce218cfc256c9799d8c370556aeb46be6cbf88a9eed1b98e36017405cb4118bac0ee7f7e887f0cee03041a791a8f26dc90e3a0efd0
def c58_6:=yB 76 0x1dd242b1f7610f2f76fcb066b56db3f934cb75ccef4ad3348c c58_4
def c58_7:=yB 69 0x24da3f581154e06a5f671e79db7a3cf49f3bbe4d7242dac6372789a19534c63ff96f7bb846670a6d3a06d2443293e4712551579d82192be67eaae910 c58_6
def c58_8:=yB 56 0x166a5461a6223176fc1b50e4b621812506832dd8dfbd0fe737b64fd61e910 c58_7
def c58_9:=yB 50 0x2ea5907b0d9632aeae8d4858b10144a0e3150a3ad4cb776944e115f4ac71bc c58_8
def c58_10:=yH 47 0xb57a1ec7f8764fde97b3e561e0d010edd68bf62daaa5401fd709a34e10 (.i 2100) c58_9
def c58_11:=yA 43 0x8d73bfdda0528845494726e43c3b589b1382cbeca866dfea662b0ad0a74bb767cb4ff07313fc
def c58_12:=yH 36 0x25f8b07d2fa9c564ad11e12b484064807abc9bb2a27747b469e40582b8a83b9765d64a787580f68e6e14158fb406eb73db253f25199b5d5bb60665db9ff9f919501cc4790 (.i 2100) c58_11
def c58_13:=yC 12 0x55e4e94716328527c25066feae121946ac1e770342a5d5a4f3344750 c58_12 c58_10
def c58:AFn:=⟨4,110,[.tmp 8],yB 9 0x1ea6b1cf4c12109c c58_13⟩
def c59_3:=yE 55 0x3b9b0c69dfef3686a4c0afd28ac5a9b1ac335f4910fc12cf69d5e4f094be2a8daf3687b5cb150c70d7136036e688bd26fedfefe271a870c2f4897eb70bf4771f262197e857c5e799f16a7fea2054d3cc5ec3ec9e2588c806613d49e1ea9bc5cb6fd2944c925ff3b2c26dd953e1f29bfb75414152464d7a636653f204c7954a6ce548f707d8038ab5ef853ec450410 (.build [.i 0,.i 0] [(0,1,(.t 50)),(1,1,(.t 51))])
def c59_4:=yB 17 0x1013186906fa46c0ae2d751dbab9f85b09cc3f9c4fc7122f6583a945f95ed779f48c c59_3
def c59_5:=yB 11 0x8f535f7a9d9db1b2686727a48f7c03ad1bbb7fc664fdeb4e10 c59_4
def c59_6:=yB 56 0x108639a098c7b3c6909a12cdbf0fe6b4fd71585ee848c3a268d09c c59_5
def c59:AFn:=⟨1,56,[.tmp 2],(c59_6)⟩
def c60_2:=yA 18 0xfc007e65626864a21402d84ffcb7d8f33783b0320bb93f540d7ee6de08179d20d89e6e3afa24f71fc9d4745346dd6a48d934e5b0490d18384e5376bab406e6b78b7a6273d09c
def c60:AFn:=⟨1,18,[.tmp 2],(c60_2)⟩
def c61_3:=yE 35 0x527de42d6fc4bb8f7de64090333064e4bd0e73680e422fbd735fc498c11584cfe713bcc7c21ff69a6020b5dd43c981eca87881bf2e2686baf6954eb95d603c20d1618aad0f7c1c20faa28a6f4af6ec36c90747494e2e4e6781dc53e556cea2bcca2e862defd9eff2e615fc8eab8346173c9ffa69678733f0a9e04d1f6a4c750 (.build [.i 0,.i 0] [(0,1,(.t 17)),(1,1,(.t 23))])
def c61:AFn:=⟨1,35,[.tmp 2],yB 4 0x478b5ad0581f49ad09c c61_3⟩
def c62_3:=yE 25 0x2cbce4df5330f8d654036eeb673f3c6442eebc501133890427fb7597d48fa27234e949a41dfefcd4712908b4dda6381adf13c360749a5284366eab4b6da0ca4a849ca7b7720bb3ad86dbd03b757a92278776a2533fd9a6e267cc41deb21e52baa28be9eb36888fd41f09cf34738d9709c (.ixA 96 3 (some 3) (.t 12) (.t 13))
def c62:AFn:=⟨1,25,[.tmp 2],yB 3 532661096604 c62_3⟩
def c63_3:=yA 24 0xf5e9fe28295e0fc1b13a4d757881530453660291bfc1fc1d92df3001f9af40d6f26d0149c2390a822cc4e031bed870ff7eac52c6dbe04a68353ff5369113d05ffd74679d252616b84ee7757de81aca0f042ff69173811f30ae2c355b495abfdb9d31238d09c
def c63:AFn:=⟨1,24,[.tmp 2],(c63_3)⟩
def c64_0:=yA 9 0x1aebe21b0bfe0df0cf559d4ba3449dc55b4a237b283e19194fdf34e10
def c64:AFn:=⟨1,9,[.tmp 2],yB 3 535049883804 c64_0⟩
def c65_0:=yA 10 0x602b2927dc6d64ae74062dce7cd3d4c063ff727e7ce0b5f3d33855036734e10
def c65:AFn:=⟨1,10,[.tmp 2],yB 3 532183339164 c65_0⟩
def c66_0:=yA 13 0x198e4551ae899aa653c3d97ca437862973fc
def c66:AFn:=⟨2,13,[.tmp 4],yB 7 0xc0b0b69a2cf3d1d3954d0557d38bc43f660e0cc909c c66_0⟩
def c67_2:=yA 26 0x2f1d5b8a6a16b46025ac96e89cda709d746fa3149790ef379d360083590db9220c6828c7a2a5e84983d6b27dc285650b272658936e0a224159fcd679558e98580b2a23adf9f3843b4414ab5251656cec70632a873240cb09949f6b97151b9fe250
def c67:AFn:=⟨2,26,[.tmp 4],yB 5 4789558881718428 c67_2⟩
def c68_2:=yK 156 0x144ab8626997588483b18cfa27ef0fcc2b9dfd7e8db11f319f9db28ac7ae6e1888e61f212ca6060c391840707d307ae0c00d7a5ae5592f04126cef73676525bc09575366bc1ff0fa9c212ad568a2bbcbca9a4bef736c (.str [115,105,103,110,97,108,32]) (.str [32])
def c68_3:=yB 135 0x1c23257487603f482f2acf2b38f71dc2f55ac82b7313256bf575d4e10 c68_2
def c68_4:=yK 180 0xae6d53777e86edf7677ef2e808790e5ef60975e4c223dd5ed8ddef8b064d6082282906701ad98b84018124b8662ba9298a0df09daff97aa2eda6ead966697f8dcd3b54fa49cdb69f4cffc757d375bdede990ea4152335e99d1070e250 (.str [110,111,116,105,99,101,32]) (.str [32])
def c68_5:=yG 130 0x5d7a65638d8b6e85f95a0689b0aa7af28c938adfc694a6d9fb0449 (.str [32])
def c68_9:=yG 103 0x5738ca921e5f31e256e2d6f0550b94671eef7df4a7ba378c40891f4cf6e05c9f198d9b895e7cdbcaedf2f3ee8c95884691290d7c6d843cae87fe31b49588234dfa2b919d698a9f81d37ff75a6fc34d6d2b8ab626ccb3e9cc26d8feb09d50c94dc6c6e7a9af539abef6663fe21bb4d35b274e642fb051b46c951c (.str [108,105,115,116,101,110])
def c68_10:=yA 118 0x143cc9ca335f6f0febc407814dc2ee780f8294089518a6cb96b2fa010f7a54f66a42fc7be4ca9d5b399199e78da37e306df3fb00ca293eb13ce3dcc57135df44fc4d5526eaa7e9f4c1
def c68_11:=yH 125 0xc6ac6a44c124dc573cda9f469fd2deaebcde5c350afe83a8c7ddd05990c1e164d2a3c3dfd5db90 (.str [114,101,115,101,116]) c68_5
def c68_12:=yD 80 0x69882ed21d043fcf74f5883f8245acbff17883ff6250 c68_9 c68_10 c68_11
def c68_13:=yH 75 0x2f16370815a629ae1203c035b47f35d430e6bac117694590d3012f521dd91d2b8df438b76615596966232dc (.str [119,105,114,101]) c68_12
def c68_14:=yB 131 0x1d4c6322a4855f5eae9d566f2a58122ec926c9f1eb28f3b01fd87708101 c68_13
def c68_15:=(uF (fun a b c=>jA 61 0x619b5e2e14868bf0406c5fae3336ab868e60c061baba85ede8e994c9977d74f8f452dcaed4ffa16f9b7c6304dfce748d469cbcec80b7d7536498598a769ac7f00c6899c4e60e 3 0 0 [a,b,c] [] []) _) (.str [102,100,32]) (.str [32,119,105,114,101,32]) (.str [32,101,110,100,32])
def c68_16:=yB 46 0x174c487447eb1a4a0c5dda664be6bda60a3dd81fc7367fdaeb6681e9fddbdef98d66e06777901b39f4ba1190 c68_15
def c68_17:=yB 34 0xde50c43254e7cbd1413f543956056336d625c6b15d9298288912c c68_16
def c68_18:=yF 62 0xf1d35dece7a42b23801883e56dceb7b06b944336fe1357fe2ca48d8be40ec2d8d4de0c0 (.ixA 96 3 (some 3) (.t 25) (.t 26)) c68_17
def c68_19:=yD 68 0x354f9a899778f47414f5e3fab1054e3d6e57149e56c435dcf503f6f53e910 c68_14 c68_3 c68_4
def c68_20:=yC 28 0x1a3b6e7adfed0e47b7d26d7dc2bb4d3dbc176db3abdd9be19597e250 c68_18 c68_19
def c68_21:=yH 22 0x16da0bf752420710020226732ce06f5ef0db076e07e137b4748c (.str [110,111,119,32]) c68_20
def c68:AFn:=⟨1,180,[.tmp 2],yB 15 0x37c95f9cc53bcde57557a6dd2ff100d2f53c60b509c c68_21⟩
def c69_2:=yK 148 0x23e6f8e98cc570103da14c0539441154732c062fb1c37034b616992e2b52592f115a6348c2f4dff60c76db81905082ae380847c51bec31d81a88923320595d1a0311519638fcb00292fbca5119983a1299207fefa956c6736c (.str [115,105,103,110,97,108,32]) (.str [32])
def c69_3:=yB 127 0x117d65876aa4fe13ee58ba6c785b5ea97ff9cd6108bfa99e5385b4e10 c69_2
def c69_4:=yK 170 0x2de5cd19181b65c738b5bb838bcccdb4e2aa2490e1e2ff3e8e51683b679f6e9b79c5dfbb5ccaf64457998ad62619b82cb939ee598e7143956bff1e08c843d7a3966a2a00a55b122a3226a4d12f0d3bbce40c013eaf4e250 (.str [110,111,116,105,99,101,32]) (.str [32])
def c69_8:=yG 115 0xe337c13143d58fc3764db012eef8b50fad646dfa3185571988ab274ba0245b716c0687f154fe2caa85ae9c9e25c8545ed773c0247a9ee3993628fdcc659e80cdc72462199ac7c5b7bf52e33cd9 (.str [32])
def c69_9:=yG 123 0x4968161ec52db67e04979020ff4bed86952c45069323e12b893fb6c259d19a5f3d60791794a7d6d1ea29ea125ce10 (.str [32,114,101,115,101,116])
def c69_10:=(uF (fun a b c d e=>jA 98 0xa4cf966f0babfa8eb909c2901fdc7a02d7821cffeb72d42dbf35e3c9656c76a13aa4b3f48fd8792f734b128ad41b72ee87843a1748eb85c78385f6db8aef04f2bf5a58c891d3717f6c74eceae3c7e9191abc9bc6d5abe95561216523b69b70d47aaa1f4da3a48cdebeef9c487cd0427bd184b821d5aa4f3524c 3 0 2 [a,b,c] [] [d,e]) _) (.str [119,105,114,101,32]) (.str [32,108,105,115,116,101,110,32]) (.str [32]) c69_8 c69_9
def c69_11:=yB 70 0x1604274657871d4d4cbc8727c1f4dba528c00bcb577a0b1b8704b3856abf70c419ec428bfeff7a751c c69_10
def c69_12:=yB 63 0x501f802ed2a1d1852b8ef49ba302c2e417e33e65fb8f7c2e9daf83019b9c6a557873efd0 c69_11
def c69_15:=(uF (fun a b c=>jA 54 0xaba5b1521d1ddfc25cdcdcbf9c067171b29d57247237e2c774ce22d2f92674cdebebc40337ad270c4b593022c2ffcf1f3a101e15fdd848575ae088837a2427a2167920694d1451a38f5d02b5c505ee73323677d4edbd327a062e130662a8233d29983ce06c18c7673dac7ae0556cc37d2eb163e42fdd9c3948c 3 0 0 [a,b,c] [] []) _) (.str [102,100,32]) (.str [32,119,105,114,101,32]) (.str [32,101,110,100,32])
def c69_16:=yB 23 0x1ec3f0d618f315b8165e221ec38b169f2b85ebc184a2d4e54e10 c69_15
def c69_17:=(uF (fun a b c d=>jA 12 0xe05c145e92a8ebbdf61e12a04d42b4260e1b627276c898994ce728b14c750 0 0 4 [] [] [a,b,c,d]) _) c69_16 c69_12 c69_3 c69_4
def c69_18:=yH 19 0x2c13090a3aff34ceb3dae0e8f7dba9cfb63d8829d767d8148c (.str [110,111,119,32]) c69_17
def c69:AFn:=⟨1,170,[.tmp 2],yB 3 532661096604 c69_18⟩
def c70_3:=(uF (fun a b c d=>jA 121 0xd08ca54e38e259046318dc5fedf91c5b7c1ce00b38ea3cebcfa57d47581be327ba6717672b5276f3e5bd70c2d380f1fa1fd7af3441f17b2782f099b78542a94ccde9423b9b4b7d9f35e17ffdce6d9ab18f406f1bd8f70f849329c12083e06ff119c65cee589dc19ab9a1ba651c1f32578da15f8ac0c61b6927baf381ff291383b1fd1ab20f180e43c6ee20e7e0556254c27cb2031c421bc4510e16250 1 3 0 [a] [b,c,d] []) _) (.int .u8 16) (.convInt .i64 (.t 113)) (.convInt .i64 (.t 115)) (.sliceS (.c (.str [48,49,50,51,52,53,54,55,56,57,97,98,99,100,101,102])) (some (.t 114)) (some (.t 117)))
def c70_4:=yI 82 0x1bcbeb136d639cbe884756256958b81b72494eeab2ee8d461 (.str [32]) (.convInt .u64 (.t 78))
def c70_5:=yH 87 0x734a5cd8fc39532f999797c112472175b08bb2a797266d89faedd9bba06a4b3e83c54d0 (.str [32]) c70_3
def c70_6:=yI 71 0xd8701ebd850ed22f8819722fc10010a69f5b47190b0a4c61 (.str [32]) (.convInt .u64 (.t 67))
def c70_7:=yC 75 0x28c7ac2ad7f3690c354348cfd8b967c57b37643e33aee2bfc6d24c c70_4 c70_5
def c70_8:=yC 64 0x1273ade51511146071fb23124acacbeb78c207ed62860784e8124c c70_6 c70_7
def c70_9:=yH 60 0x7a4d1d51a83cfc501a3afd590ddabebb33ff9eb3ddff53fc (.str [32]) c70_8
def c70_10:=yB 54 0x2c8d1083dd843a6e99a25a0c1270a7efe4c9c2e71c3b67273b43873fc c70_9
def c70_11:=yB 49 0x1938b1adee9e5fadfbe4ea9b63af0222bb9eeb3910069e71737f2dcda4a75de250 c70_10
def c70_16:=(uF (fun a b c d=>jA 122 0x1543acbc3ca583b193c89ab00b9f1d583edad4b50176214358d179a2265385d4f5c478e55098116f10e9e1b4f97169ed0e51b933d3fd90c3178f75c97303ac37b5f62034bce92f9111d292deca71dc1bc54a2a4f60e5b13543d55890c0e803eac921d69defc2ea5be78a7c590dc62653c58c750 2 1 1 [a,b] [c] [d]) _) (.str [32,111,114,100,101,114,32]) (.str [44]) (.convInt .u64 (.t 38)) c70_11
def c70_17:=yH 20 0x12f301ef58277dbaf29f58b6eccd84b54f0a4ef4ce10 (.str [32,105,110,116,114]) c70_16
def c70_18:=yH 16 0x83b46ecda2902e0dcf3e4a83c40af429b77849bc1e12c (.str [115,116,101,112,32]) c70_17
def c70:AFn:=⟨1,122,[.tmp 2],(c70_18)⟩
def c71:AFn:=⟨0,3,[.tmp 0],yM 3 0x119018f8aadaabbcd2d109c (.build (List.replicate 32 (.bool false:V)++List.replicate 32 (.i 0:V)) []) (.box 64 (.t 1))⟩
def c72_3:=yE 29 0xef1ec0078a20619b2598fa1f15c8526fe03334692deb464d358121ae4961e2eb3b03d8fefb433da80c57d86f790d91e4f1c65b3421386b5e512dd9a579729d16696fb979081d85ab68c047c5d8da65ed2e31f3203c00c3eb8690a7cfae0a8e4a8f460d4225a2a2e262a204dc0789794563411bc (.build [.i 0,.i 0,.ptr none,.bool false,.bool false,.int .u64 0,.int .u64 0,.i 0,.i 0,.ptr none,.bool false,.bool false,.int .u64 0,.int .u64 0,.bool false,.i 0,.nils] [])
def c72:AFn:=⟨1,29,[.tmp 2],yB 3 533019414684 c72_3⟩
def c73_2:=yA 19 0xca5e25c2f9ff8df21630575d7ef1ce863eba78c0098c7cb5bad9afa4e7013cef815166d318234a2ba483c4a431bc
def c73_3:=yA 32 0x1f16603551b03ab35cf78e617cdba30392720b91b7a0c03bf7eac444700ec34ae1e820b591c4779d65c2c6ce7b43807586182fc82c29f498aecc05a9050624f857b05cb148c
def c73:AFn:=⟨4,32,[.tmp 8,.tmp 9],yC 10 0x20ed4a2354600f42c31bf912c c73_2 c73_3⟩
def c74_0:=yM 12 0x28acf3629c132e18fae52a8018c4ce24b5b1616f5ac (.eq .ptr false (.t 3) (.c (.ptr none))) (.eq .ptr false (.t 9) (.c (.ptr none)))
def c74:AFn:=⟨1,12,[.tmp 2],yB 3 532422217884 c74_0⟩
def c75_3:=yA 24 0xf5e9fe28295e0fc1b13a4d757881530453660291bfc1fc1d92df3001f9af40d6f26d0149c2390a822cc4c25fae99b61efe6691899776433aece3c9847abf78fac207779d252616b84ee7757de81aca0f042ff69173811f30ae2c355b495abfdb9d31238d09c
def c75:AFn:=⟨1,24,[.tmp 2],(c75_3)⟩
def c76_1:=yE 29 0xcbd007afe866d25979685191987ec297f6a4a30c3529ab3b4206263e6ef43b34364a1072cff07c03b8a48734d33b188fb3e81644b3d3b63a4f1501fcc0c9e97ee800d1725106234779d76bd6a8fcf60c0450243b811e3191bc (.build [.bool false,.i 0,.i 0] [])
def c76_2:=yA 48 0x65bef6d184778fae1fe07114497a031a70cd173815e1e82de383a9c4e389715e717bcc61ff9bb6cc2daaed8717624c4d390db07c4b4be6056ef94de91bfb050d3263c6c
def c76:AFn:=⟨2,48,[.cellN 4 3,.tmp 5,.tmp 6],yC 7 0x8e302c0e1b468cb7e4ea210694c391bc c76_1 c76_2⟩
def c77:AFn:=⟨1,4,[.tmp 2],yI 4 0x3e74bc8c76a4aa590df662612c (.nilfn) (.mkClo 146 [(.t 1)])⟩
def c78_1:=yA 50 0x29f13506f16ddba1a270a87af46beea32b91fd677e57ff051ac798729a23fd11b8045a00bbb7b8be1d71c7bddf2abc5e1e88b2edb1f327e7124dc0bc11582402ae6184bd367bdeb2c1ccffa7ec8e68d37e94f3e08265fd4841a1619485982fb9893ca5e64ab5b9147f29e37ecd14742f55bc04e10
def c78_3:=yH 17 0x2edb1d095e7a66c305207733495711ff53012ce4a141d282b4aff143bf54fa606db29bd089fb4379f6a6e08f9bdb3a7a4f0efbb745d24b80b156cf615f043c6112c (.i (-1)) c78_1
def c78:AFn:=⟨2,50,[.tmp 4,.tmp 5],(c78_3)⟩
def c79_1:=yA 25 0x3814e9431792cd33269798def1ed28ee340155131a1c6e4b68cccdb64d830b06ef57b7e2e0c4508387d56d9cf6a417af2aed9781d56713d1a9195ac
def c79:AFn:=⟨3,25,[.tmp 6],yB 7 0x17d6b92b404d09c c79_1⟩
def c80_0:=yA 24 0x730400d49687b0d9712c8b5bb5c3a480182c76b5bb2923a5572bbbc4936e1e488b07a0cd755995f849ec5c23fb7783550409333b4c
def c80:AFn:=⟨2,24,[.tmp 4],yB 5 4789558881718428 c80_0⟩
def c81_3:=yM 50 0x5b663470d2e81cd0ac2410f4fe61c2d2727d368b81e26cd283d8d7116086061fef8d056958cde908962597af37aeb0309e9a22a90f57c1fa1d81e8ba0f25cdd91c6889b60d65a234a9bdcf00818c4d26edf88e7bbdb6afe89e69dcfd86956e3b29e114e126086fc9c113737babe911972472ab6b952e708288f4a49500511b2dab519d6cc (.slice 1 (.t 33) (some (.t 34)) none none) (.slice 1 (.t 47) none (some (.t 48)) none)
def c81:AFn:=⟨4,50,[.tmp 8],yB 9 0x1ea6b1cfa180109c c81_3⟩
def c82_1:=yA 25 0x2b602c69e43b8ab58fdad56cf60a36cf783fdb4b668976decbb09b42554f1a00714f875dc2cc392b66ff3354d4757cd4fb54556983121e3237caf1963c
def c82:AFn:=⟨3,25,[.tmp 6],yB 7 0x17d6b927192d09c c82_1⟩
def c83_2:=yE 78 0x99a8e8ec2653163c5c0ba2b60226be71057b63dc8cd7a4341ceaeb7e0ad67a1c5a9f0891541dd92ed9b23312c47e754ac5bfdf7ef1237e5ceb766254916a651db2030bbd2201b4a0df74b72541116e89506608878059bb89c4e0cde986308fdf6fd559f9d8bb6e1182f546ef0649b13e42e2f1e6846d57e92c6f01d1f3db30c37e14be9d9296c64ec67cdb4bb987c (.slice 1 (.t 62) none (some (.t 63)) none)
def c83_4:=yB 40 0x25d276d364506ab4d0b437dda66171ccc9b0fa36b48714686b590332962213c33669db10b36986c6138d37fb6242e076c0895d617c5035ef305846ec221c40e60ec587717c51ca4f7e36ba87e048c431c5f13c99ceacb1c248910a1cfc c83_2
def c83:AFn:=⟨4,78,[.tmp 8],yB 9 0x1ea6b1cf4c12109c c83_4⟩
def c84_1:=yA 22 0x3cc9a17969ca38fbdaaa6bdd225d78ac2e5a422395e298a75e694d0bd3b4f087bd0d6c67acebc77e92e528cbee0ba39d998616d60975f5aeb4308be9148c
def c84:AFn:=⟨2,22,[],(c84_1)⟩
def c85_1:=yA 33 0xc9f2fb3c3ed3f4f93a4f5fb67ec7e29461b9638b957553326e40e8d8ae1abcc1baf89bb2510a87e85bc3e825dd6bb7b428a2d5a1e9452c30d7dc538acfad44cfc33bb62595f9f344036595e1d2cee75937bdde756cc
def c85:AFn:=⟨3,33,[],(c85_1)⟩
def c86_1:=yA 22 0x4a978e14774a27f8aa1ef2c3cdf1f5131094cdd8c2c83d0c8905eca1f02c18484df9f5bda35d8fb5bd95176b28e185221de565a396916cc
def c86:AFn:=⟨2,22,[],(c86_1)⟩
def c87_1:=yA 33 0xf7cf6a10e3910f61b48050cf3230073ceb326b01de865114530e9aad865784632268ff41488e14eea16b0f517eb9835d8cf23362c6746cd5fdb283461ba587f6483e09933633ee396044e1c1d599c
def c87:AFn:=⟨3,33,[],(c87_1)⟩
def c88_3:=yG 44 0x7eb3c8dbcc362e0234dee401396dc2017bf0cf33d3d468eb7fd92e36f4c23a183ee817124b6506524e8b5ee423dc96c475a375ab5bbb5eadcc323183cc987c52170f14fe2b646c9b93c32c08d42ed68b09ccd9aa617c6bc89f4e6cdc56f389b8b2546627d0305f0caaf3ed23359f1346f17f3055a61523330f3317477752c36c26312829bfd50031a7f57ca910eff48c (.i 114)
def c88:AFn:=⟨3,44,[.tmp 6,.tmp 7],yB 8 0x1da1d5b8829afa5512c c88_3⟩
def c89_2:=yG 49 0x661b6e16d6bd4bcffa4093de0abbe591cb3e09ee9eea6b8b51964053689faf8dafb9ba26a0929be0ea1011fc3e1533675656dfeb2974bebb77facc6fb2f881ffb45c78c26b81caa8c676f5ee25dd6d27efac044523805f111b00adaff3d5d3006c09eb57bb4b8d60d657366aad813967621094339dc23b01b2aba23f690 (.i 114)
def c89_3:=yB 14 0x3be2c983505493429002fb228195b27e7324064f94eba608abff9080ffb759bb24c c89_2
def c89:AFn:=⟨3,49,[.tmp 6,.tmp 7],yB 8 0x1da1d5b8829afa5512c c89_3⟩
def c90_3:=yA 31 0x163582b14af67cc31642dda37cb524427a8f00b15831ce1e68850b35040f5f2e3e70d8dbb06827669db101cd2d204c9398362d5801969caffc166f412221379209cad25fe500a6d495940a6e183e9aa0fe02409c88d9a0dfcc914d7bc8d57b09ca21e5040bca3bb62a8b48ff48c
def c90:AFn:=⟨3,31,[.tmp 6,.tmp 7],yB 8 0x1da1d5b8829fb95512c c90_3⟩
def c91_3:=yA 28 0x25196a1c50f6484105d3e8e2c1e8ad616a5fbf73867527c0c5cfc15752135cdff51a099f83d9b7aff881fc50c7891fe7c88d0569d9075f3b7552f44c2dfe30fc0fdfd80a2bd5ed6efe48cedc11282e492ae390793b3d2614478fb0aa7d6c774388dc8065e0644660e37450d7a92eff1512c
def c91:AFn:=⟨3,28,[.tmp 6,.tmp 7],(c91_3)⟩
def c92_1:=yA 18 0xc76ebc96030c854094f365d31d120e20332fe8c343395e236b8b7d85e843f9d8df113365cb2acd8a5a02c509511948c
def c92:AFn:=⟨2,18,[.tmp 4],yB 5 4789558483587228 c92_1⟩
def c93_0:=yA 14 0x150879035757f0a936e04472aedb7449e28f01a58970da7da2edcbd0e6dd2ac4e10
def c93:AFn:=⟨2,14,[.tmp 4],yB 9 0x10f49569962c5127e76047319f039c458d909c c93_0⟩
def c94_1:=yA 18 0xc76ebc96030c854094f365d3b7686d58e8450de4644c68a1ef6ba290a4c9f9d8df113365cb2acd8a5a02c509511948c
def c94:AFn:=⟨2,18,[.tmp 4],yB 5 4789558483587228 c94_1⟩
def c95_0:=yA 14 0x150879035757f0a936e0c5044e024c99f50063fb7970da7da2edcbd0e6dd2ac4e10
def c95:AFn:=⟨2,14,[.tmp 4],yB 9 0x10f49569962c5127e76047319f039c458d909c c95_0⟩
def c96_4:=yA 41 0x37c9d29c042804c226315cb6033de6a49da35629c78c15ad042a5e097cb7519eb856d419c084990fc1c8ae5cee3e35f4f96dd95e185111393946841c83f85bac8ddaae3f243369d54b64e49eedd3fce6109345b526c7fcdfcb1436b177d500f4ed8c265d20bb7cbf9b3cbd7fa86746663aaaf0a4442cbedde9ac2ce4e5c34e1a6bd69a2ce8bae93a17fa150343bb48c
def c96:AFn:=⟨2,41,[.tmp 4],yB 5 4789558483587228 c96_4⟩
def c97_3:=yA 45 0x1a5907895793d17c9ea91b1d8b1097fd5691b814b63b04a311c2e9e0f51c1e70231088b9ce7ae56bf0706d90c2c03777675dc08f3cb6493f532177ec1f1353164f95c67703106575136f878d13c9ec7ceebb7a45a29fc807d8b406de772c36e6ca5da3d0e257108aa37338a5b008536f8d0a0d8756dcdd2fcbaadad378bcb493cb0a2bd7fed3a550f690
def c97_4:=yB 12 0x12b833cf438fa8307d6c197eaaec7de94881d96f41c83bf6b25eacc7724c c97_3
def c97:AFn:=⟨2,45,[.tmp 4],yB 5 4789558483587228 c97_4⟩
def c98_3:=yA 143 0xb7109f41aba867fdb1fd839c739fd257473ee64ae0a2e48f20957aa63db307adc3d851b58ee662fecef484ae1ec291c2fc3c5bcca6a72e9ae326da59a5f8e401e8b05bab00bf4d6307baed5c50f5d2945a68e8cadb025cb6d04ba9a6f64a4495b35c1798001da35f469223e6e0b3f9e28164bd4f3c0d52cc3ad394e449488c6c2a9750c05f59767aa1b9691e9dfe8b0c55580d85da9bc9c8a8
def c98_4:=yB 101 0x465ead699ebea3de9bea367cedb5686c2a07b4d8a548c c98_3
def c98_5:=yB 94 0x17be911997b99b8432b8351abbe87940c708c4d110b36c c98_4
def c98_8:=yG 87 0x20b32d8a7da757ad42ff828bafd5d3a06052d37f638da859b91e170fe0b9dcae01739d3455b4ad4f485df862cdbc92773c1fbcac360a6a50558b0eaee39b2c0e3783ca1128790094e74cfb349d838859631f1b118959701db2840b9da0bed63c947b227167e2b6eb2350dd777e3a0fc28138c1b5d24c (.i 1000)
def c98_9:=yB 53 0x5594d1cd5fc4cd6cc0a4383126ad82673125e15598b1a6213517f87fc07c618299e897142350e76ebad5019a5a2af393cd794d84e0f505927d800ab836c5c63bc968722659e322f915cf63cfda1e436f03f2af29a3c218f3d20a4751e2416e6aadf43845ec0a302c668c c98_8
def c98_10:=yC 89 0xc63634c8f6fdce75b9fe451933bdd650a3bdb0842e94fcc817d11b7dfa34b54317fa7bfce030 c98_9 c98_5
def c98:AFn:=⟨3,143,[.tmp 6,.tmp 7],yB 8 0x1da1d5b8829afa5512c c98_10⟩
def c99_1:=yA 149 0x14556bd3ba0a22a061005144b37bb10ed853d91499244bda1041a632bf402584926c95ed79d551d0a7f36e417855bc4374d3fff42b7bcfba75b74fff7d49955308068d9b228
def c99_2:=yB 133 0x7727c3044e9718aea0832ba4a06f3f9fd17ab0102af0da0a79fca66b107765156a4bdeff586191e3eb8956364d89314bbd590c c99_1
def c99_3:=yB 118 0x10ffa5a2dc140e30919877de702751844b43b831ec262e34f4da45fe5ec748dcc5091c242c4473371d06b3e40fb7582b0a77bc8a8 c99_2
def c99_4:=yB 103 0xb3ac839daaf964bea013f936e2d65ed08aa1827049cca91abb3a9d8905a71cb63c c99_3
def c99_7:=yB 93 0xca00c32c660fae88f175c45649b765793e46f9192c8713d724c c99_4
def c99_8:=yF 90 0x442d5aa56e92d0302cc4d591a69073a663e41a1934293678e2e523e877a9a39d49dd50e50067f3463115d743d7de1e7d30028efc71e6b5d75ef98d0a84976748af6b099967c8a7076a0de37c1b17fc11568f5c609e1354ec5931feb40c74fc101124c (.build [.i 0,.i 0,.bool false,.bool false,.nils,.bool false,.int .u64 0,.int .u64 0,.i 0,.i 0,.bool false,.bool false,.nils,.bool false,.int .u64 0,.int .u64 0,.i 0,.bool false,.i 0,.nils] [(16,1,(.t 76))]) c99_7
def c99_9:=yH 76 0xea16b3b6e1d5e572bbdbff491cdd0b283c0f37afa56dfa769adfe910 (.i 1000) c99_8
def c99_10:=yB 70 0x2872aba155a3c9274889f2c12d822e68c5620120e6fef22158b216d7db0ed71d5d8e811d21be30ae636862149870805f9a1eff3f4853a10 c99_9
def c99_11:=yB 52 0xea923f75e0ddeb606d972c3cf86506797641ef41e458df356ee92c09f603e910 c99_10
def c99_12:=yB 46 0x180e8aa3437e550472b630ea14f7d72be3e42941969ef976c7dfb6fe56dadeeeddce08b96948c4f63ed1824f05ad3169bcfa2ebc8739366196cf1b2083826e1c78a1f403f975b6d25fc79c810d1d3f6f1648687742c734fcc06016ca17bf106a102cd0 c99_11
def c99:AFn:=⟨3,149,[.tmp 6,.tmp 7],yB 8 0x1da1d5b8829afa5512c c99_12⟩
def c100_0:=yI 21 0x22860a0d8062f934b28b8a94914a436083e82041db06d803e4af59fecf017f74b5 (.int .u64 18446744073709551615) (.minI [(.t 11),(.t 16)])
def c100:AFn:=⟨2,21,[],yB 7 0x35fbc08a7c13631cc8bc911bc c100_0⟩
def c101_1:=yG 23 0xbf8408d8a3771b4c163ae9d619c34ac05ae812c59ed38113cbf55a82ccd2df061854b049753c2a3ad406c5248a647ffd5aa576324324bd4efd0 (.int .u64 18446744073709551615)
def c101:AFn:=⟨2,23,[],(c101_1)⟩
def c102_0:=yA 20 0x6d87ddecd38dba9fce97ed83a492c1206baa98bd3468c428300bf1da25bed5245541baadd48c
def c102:AFn:=⟨3,20,[.tmp 6],yB 10 0x1f5a9fc7e1171a371b98cde50c875e86313b41346e509c c102_0⟩
def c103_3:=yA 30 0x17fdf45de587b1e900bc150be2167ef02ec59e65e1f2b813d0c177e4884cc76fdf594767632c9efab949a2ab59bf545ec04face8d133ed15ad77d5e270d69599c771240f59d0019e08e2bcbf9bfb741bc2dcabf76e634100f1fb4ea32bbc738bc567d2ca96910
def c103:AFn:=⟨3,30,[.tmp 6],yB 7 0x17d6b927192d09c c103_3⟩
def c104_0:=yA 17 0xbaf427184b8fc522a6ba6024bd5414c0e702664e4c426bb4fd7ede81d43bab11db93fc
def c104:AFn:=⟨2,17,[.tmp 4],yB 8 0xa45c4dc18cc1ea998cc49203e6f5d28b3e25932d109c c104_0⟩
def c105_2:=yA 31 0x4ff85a33272f68667104627927d5ec945ad511c1c29628524a4816d1fb5247bbf4a915319b7b96ba39cca6ec98b2106f4950bb93715d00e57b660d903c9474d5cb0520d42030e2b4fb59a84e0ae475add3790bd96eaad678ac13e95a9aacc5e31648f9186fe6910
def c105:AFn:=⟨2,31,[.tmp 4],yB 5 4789558483587228 c105_2⟩
def c106_1:=yM 66 0x2bb1f2b446c920b440821320249aa7a68e7159e76f142dc28a3480025c92687654e6f97804881350526dffd50239b54508a999e4cfb01503dd951033b2420c832b0b504fc82730ff16b36a8bb76e3b8b77c6fa79c5781f13473893b31fe130fac6a42540eb98dc73e17efb89b4fbd91bc (.eq .ptr false (.t 54) (.c (.ptr none))) (.eq .ptr false (.t 63) (.c (.ptr none)))
def c106_5:=yB 72 0x5282c6330ee8b2651616e4f50bdad7f1ead1b5f6330e1bc59e78a005d739cac028424a662fb96b15ca0a9012f17250fb7c3a33191442fda9ef5a77956219d63ba46ad5af65e85a331f70a272a674d8cd2669779ba32b681bc44f4272814c5e4c35366611159a23d99752613cfabb5cd256544151ba0478e4c17b2a477fdeb8e563c c106_1
def c106:AFn:=⟨3,72,[.tmp 6],yB 7 0x17d6b927192d09c c106_5⟩
def c107_0:=yA 73 0x11219648040b697137e8118a413146f7fec01e74433e4a59ceded79ef2dc
def c107_1:=yB 67 0x63a0ae74f51bc7d7deda58e1e40451d4b5da6c78d71c3f4de9c920ad6058b635ccd769661be7e0b1bb08334c9e3c0ae604d204762cde3ee2173862ab3261adb390a894d24bc2f9efaf58f6381e3ca646232e5d917eeaabfd5f080878447df39d0a8b2eb3feeb1421785858172545317e3c72610 c107_0
def c107_4:=yB 29 0xee4406f83edb75138cfee8972b72a10311856100057cf6672bc9584c1b10ef07d7a4701c3ccf01260c6018b1888a5c7e85a0fa5039c505c47a9b896790df1c6c03deea6a929f0268195a148c c107_1
def c107:AFn:=⟨3,73,[.tmp 6],yB 7 0x17d6b927192d09c c107_4⟩
def c108_0:=yA 19 0x28889a551ac283ad5b751d1700d8545e9e6e0d799794ddcaccde6e67d9b4d3a4c003eedcefe9d07194905ef121485d63c
def c108:AFn:=⟨2,19,[.tmp 4,.tmp 5],yB 6 0x163572952108f7112c c108_0⟩
def c109_1:=yA 17 0xa8d700da95db179e73396cf9e1d0640634ecb359e81abcc3ead4b5d57933d1f2f6d30b3a4bc7e1b37704fc311cbbb48c
def c109:AFn:=⟨2,17,[.tmp 4,.tmp 5],yB 6 0x163572952108f7112c c109_1⟩
def c110_0:=yA 9 0x38583d281518ef9e320198a45f93bfe85e147044909c
def c110:AFn:=⟨2,9,[.tmp 4],(c110_0)⟩
def c111_0:=yA 6 0x2200dd1a0a0fdea0ed08bed58315fa746daac1e12c
def c111:AFn:=⟨1,6,[.tmp 2],(c111_0)⟩
def c112_0:=(uF (fun a b c=>jA 25 0x39ec5a9912293f2069c9969a6b18964cfc43ddac760317cdd91e943cef408d171503d1c80ced3bf2c9e6499ea49e91f73acd5723e62c7a2ceef82f0bc466307874f5b4ce50 3 0 0 [a,b,c] [] []) _) (.i 50) (.clo 161 []) (.i 120)
def c112:AFn:=⟨1,25,[.tmp 2],yH 4 0x12f2ae5f7ff2455d8c1e12c (.clo 158 []) c112_0⟩
def c113_2:=yA 32 0x59f9d09ac17e1830952b63da3681bc6ebea32a5f528bdbe51ca60ebe9d006b48a3f80f72a17f2d4ccdeaa452da38f87b0c039201b29e938a24c1f63a09884e5038097584450d1a99e7ab398c24dd4ad0973d3c8f4bd0908d99e0b57ffa428db90
def c113_3:=yB 12 0x99ed3bb1e487ad18c479140ec39474aa2cbc3c8ddf077379ded56012f701d80ae8902b984e4f39e95ac c113_2
def c113:AFn:=⟨1,32,[.cellN 2 4],yB 3 0x2a04996addacc8eabc1e12c c113_3⟩
def c114_1:=yA 52 0x1ade7520d17ef635a0861ce78db8bed25b8d7096d84aa6d560c1c818789e332e2c008a52929b04669cc4c4a0710e5b437e5921340709c0bd78a9c3007a630333efcf7621ece6250
def c114_3:=yG 37 0x25564009166cab3202a493b51e243c8d7cde3079ab02dbf60ce3ea06d4df5d14d6da0ab89b77827831e18ea173d35e78de2e4fd4aa37bb3c6161893bd814b86789331770baf1eed70828d42e2e250 (.i 999)
def c114_4:=(uF (fun a b c=>jA 16 0x8373c086bba08d236841a9d3323a2f0e9fe5c3e9a2a0695be68b74e13e7309e526247dcdcb28aa316859364e140e7a47fd2cebcf79abfd2180410 1 0 2 [a] [] [b,c]) _) (.i 50) c114_3 c114_1
def c114:AFn:=⟨1,52,[.tmp 2],yB 3 0x2cdf1f6ec1e12c c114_4⟩
def c115_0:=yA 9 0x1aebe21b02c61bf07437efc787308441dda71843283e2949fc9734e10
def c115:AFn:=⟨1,9,[.tmp 2],yB 3 532183339164 c115_0⟩
def c116_0:=yA 15 0x7e25e1593efd4e32ccd096d4f4c80aaaa28aadb3669363c
def c116:AFn:=⟨1,15,[.tmp 2],yB 5 0x3eb06c7e4af3f7725e53110854ceb514d386509c c116_0⟩
def c117_0:=yA 9 0x1c2c1e940a76a42caec08a4c0f05085e147044909c
def c117:AFn:=⟨2,9,[.tmp 4],(c117_0)⟩
def c118_0:=yG 12 0x10d946994df92139c88212033dbb90a1277d5331866f6138e02cafd53fc (.i (-1))
def c118:AFn:=⟨1,12,[.tmp 2],yB 3 532422217884 c118_0⟩
def c119_3:=yE 40 0x9c3bc9261be2675557730d0bbe654d9993e741903601beeae846f5b4d3bd4717a357046d44899336f358495262dfc1b0f71d75f74f03b1c1d4c3dd371ce5492af6085f582776562485c31feb07396665e33278b99713d221085d15853ef6185945c71a2fde30c1f33e784d6bef2766d2547a0270424bcaba0d04e551c (.slice 4 (.t 18) (some (.c (.i 1))) none none)
def c119_4:=yB 14 0x5cecbc88d6a62b3659710713b935022cdf5f70a3320399661d948c c119_3
def c119:AFn:=⟨2,40,[.tmp 4],yB 5 4789558881718428 c119_4⟩
def c120_1:=yA 13 0x404468becfc215bc029fe1fae36844be8d77081adaf3cbe7490a321ef674e6164d9239a70d1704cef32c520253644550177a728c204e9f673b12c
def c120:AFn:=⟨2,13,[.tmp 4],(c120_1)⟩
def c121_3:=yM 58 0xd63aec42fe0cb4ddf875cd7a2df275501792bfd524f7ffbc32a160422c82796a33b36e96a65ce9cc88b0c1bc83c42ad2b8b0f342f791d82b195920d21dbc67e4cf450c524935fee31dc6025dbb08791fdc64002c619c035b9204a94e61a21914cc8ffe0a6f54381df5cca4b4134875fe94fc485e2236ce98f2846b10ea2d1248ce1d48c (.build [.i 0,.i 0] [(0,1,(.t 52)),(1,1,(.t 53))]) (.callv (.t 51) [(.t 54)])
def c121_4:=yB 24 0x65f4eb94dbd85f9d792f2cba22bb2e28b44c9962e7a82f6bcd054153d0cd48c c121_3
def c121_5:=yF 18 0x5975045825e857083329e0319fc58f487188f1d40fdc7524c (.ixA 96 1 none (.t 11) (.t 12)) c121_4
def c121_6:=yB 59 0x33c07a27b64d65b8fbdaeab9e26eda213b04df223647adfa0d80d1 c121_5
def c121:AFn:=⟨2,59,[],yC 13 0x2f48dc14a4ae6a6b732d690bac009cde91ea03a (.label 0) c121_6⟩
def c122_2:=yA 14 0xdf08d689ec6bacddcdf1f2fcfb932e75b48239aca5f21d4c56642aa4285fee09b1bd
def c122_3:=yA 28 0x22bb7926c7ae266f2cc7479b698ee64d3e03c9bd178e29a88a6ca9491cd4e90aa52c6c6e291c421978ce59dbadf3ea83d3d0208a79cd78f65bef8f9d6f102179e12bb92784100ce0987fd613341db1653ce10fd4d0
def c122:AFn:=⟨1,28,[.tmp 2],yC 9 0xc87bb31a2fa96585f59d730bbaf072dec5166a509c c122_2 c122_3⟩
def c123_3:=yG 57 0x91691a182ba0d1f88764e836430ed8893006055b0f9bfa4cab9416d6ed759e1775091a2915d3d28be6cb87d307efffc4383000e7a1405041af088f92e7b8642bf4658a741f7b4383e011c67d6974ed317960ece7dc13b506397f84e1fb966f436217ed67de0fef150590de9ff748c (.int .u8 1)
def c123_5:=yB 27 0x1f3b5b8c9b1c4229789ff805109cfefa38fb425520504227d47b670e70cd7484af8903ecaee42b606528dc32f674d86d3223001dc01afd7868e6910 c123_3
def c123:AFn:=⟨1,57,[],(c123_5)⟩
def c124_3:=yE 42 0x6121f5c9593d38e0b55ef607f6a5143db933a85ad7e6faa030b5076125dce884a9a865b80402da0812d9dbd0ef80e9d871c6481b4468b83a291e7b3b57567b8b87c6eadafbb47b9b4701d8014efcbe3ba2ae10102af074851da88f42a801092fcc7635ec592cb666074949f71ef4351c (.slice 4 (.t 17) (some (.c (.i 1))) none none)
def c124_4:=yB 13 0x4a669811c0d96cc24568b9533bb9e2c2fc0f0d29d3035795a9748c c124_3
def c124:AFn:=⟨2,42,[.tmp 4],yB 5 4789558881718428 c124_4⟩
def c125_1:=yA 26 0x6a8b7a7191a7d2212c31134f91be59b5aa7f0ad30d7d4c9353ea25b823304df31d9f58324ea9651b86865a167a32d82f2c4801be617256def993d05379606331bc
def c125:AFn:=⟨1,26,[.tmp 2],yB 3 532422217884 c125_1⟩
def c126_1:=yA 24 0x1df7879bd920745fab2056317f72f3ea6bc6e842004fdd0c2ee7d5fefe7f91d73589285b026476323847551a47f86465f5d9a3fbee73e93a520629dad8cff33fc
def c126:AFn:=⟨2,24,[],yB 5 78407955677417628 c126_1⟩
def c127_3:=yG 73 0x319a2c8106f26f1e021bbe4108d8474b9a3d7e7383f5083fecc91d27350fd0325e9b90614d87c4bd5c1f709c587db5b75ea07026742a8c4949f04ba0f438c37c573ed1e539c6ed8c5f4b17eddbeeafc46fe3dabc (.int .u8 1)
def c127_4:=yB 42 0x71d7fbce47167fe3c70654b64a9ee74ad6f5b26a38734052d25cefe085e0ad809bfc5ca0302062cb1e0c6b91a73756fd1bb962f801eede067529a37ca93021a46a92b00a1c6322f3b3402e468b6ff7ef5474ca7149d4b3291caf36eed8fbb1bc c127_3
def c127:AFn:=⟨1,73,[],yB 9 0x3f056b5a4b1fafe25cc30367f8aa4e250 c127_4⟩
def c128_1:=yA 13 0x13cd27dc47ea229bdd421dc2dc62c691ed1c6f69c6fca985f5736fab22f7b00a933f1b62b16111b84fe19bc0b9ba9022adea2fff6c36bb1712c
def c128:AFn:=⟨1,13,[.tmp 2],yB 3 532183339164 c128_1⟩
def c129_1:=yA 15 0x86f97b8dc13c8db86a1e6666b9e775c33896aae3778993f0b1188c604776689fbe9cb4d138e65e65b90
def c129:AFn:=⟨2,15,[.tmp 4],yB 5 4789558483587228 c129_1⟩
def c132_0:=yG 41 0x15792279ab52e284cc453f177f2e3c4ec06074a6c1328986db351a78f058a24e604501eb9de7100e67242e099410c5d5f65b85b1f126f4ac607d55bf206487b0a77d5415905fccee45e86777e0db504091052caf3ee4ad0009407e43641e8af5b0521df28 (.str [47])
def c132_1:=yJ 21 0x6d82c63bf07f15393097a331c0265dc23f2c7c443d19b2e35f29203fc8d4d0 (.str [45]) (.eq .ptr false (.t 16) (.c (.ptr none))) c132_0
def c132_2:=yH 15 0x92b9e073434b75c7a3a7d07c23e123de92b5181d7a1c42feb1256c4e10 (.str [115,104,117,116]) c132_1
def c132_3:=(uF (fun a b c d e=>jA 10 0x95dfff799283904154250134340ce1f4db25fa756cedef3c4401a67dfeb2934b53fc 4 0 1 [a,b,c,d] [] [e]) _) (.str [110,111,110,101]) (.str [105,110]) (.str [111,117,116]) (.str [99,108,111,115,101,100]) c132_2
def c132:AFn:=⟨1,41,[.tmp 2],yB 3 0x2ce420e321612c c132_3⟩
def c134_0:=yA 17 0x1016ed980489a9ab7bb335a2e424d40a144273798d71f857a5603ba616a22bc293375c
def c134:AFn:=⟨2,17,[.tmp 4],yB 5 4789558881718428 c134_0⟩
def c135_2:=(uF (fun a b c d e f g=>jA 23 0x1cfc6d8eb48570c5007c3bd1c34b4bc6a3f042e5ae57c57a32b46b8e07c4a92c479cd5b761228efa89359eedafdb2453bc12e5b3b8d733277cc1e43120912fea97ed06dfb78881445000777052d292b8fd6d09c 3 4 0 [a,b,c] [d,e,f,g] []) _) (.int .u64 9) (.int .u64 10) (.int .u64 48) (.convInt .u8 (.t 8)) (.ofBytes (.t 10)) (.convInt .u8 (.t 17)) (.ofBytes (.t 19))
def c135:AFn:=⟨1,23,[.tmp 2],(c135_2)⟩
def c136:AFn:=⟨1,6,[.tmp 2],yE 6 0x14d798a0c5479270d86e2c1e04238d09c (.convInt .u64 (.t 3))⟩
def c137_3:=(uF (fun a b c d=>jA 59 0xffb97bff4fb8b9f3952cc8a2a3548a5707bf41e6134e269401d03af4bd97616a944bd87d606a6a3e7f2c4dbb4483b5db1a35e5d458ba0088e932beebf932dca90d9a533264bd30b2ceca012b0cf091da36d4a3e4fbe959ba5864df4fd37b04cb35f5f77dd4a917c255cbf5f06ad84ffdb9b692e985b367d6a074b3178a6bc99e96376fb01d50ee3d4470ab46e49a4b16e69e0a6250 1 3 0 [a] [b,c,d] []) _) (.int .u8 16) (.convInt .i64 (.t 51)) (.convInt .i64 (.t 53)) (.sliceS (.c (.str [48,49,50,51,52,53,54,55,56,57,97,98,99,100,101,102])) (some (.t 52)) (some (.t 55)))
def c137_5:=(uF (fun a b c d=>jA 64 0x5bf32e44b43a9a9072377256272981c97867c04e088d8cf5d895c9369d2f6906fd5e53dbbd24a1eedd181ee549a3556a79d1075d15366b0d47a4afb676e5f1d4d0 3 0 1 [a,b,c] [] [d]) _) (.str [32,45]) (.str [32]) (.str [47]) c137_3
def c137_6:=yH 18 0xb33119ae0f351830cdea861b4cec6ea381cfe7582ce10 (.str [32,115,104,117,116]) c137_5
def c137_7:=(uF (fun a b c d e=>jA 14 0x85d07e3e588abb3c9f4dd992509a69b409578221268b5e397c6ce58736c 4 0 1 [a,b,c,d] [] [e]) _) (.str [110,111,110,101]) (.str [105,110]) (.str [111,117,116]) (.str [99,108,111,115,101,100]) c137_6
def c137:AFn:=⟨2,64,[.tmp 4],yB 5 0x59cba9a4eee710312c c137_7⟩
def c138_2:=(uF (fun a b c d e f g=>jA 23 0x1cfc6d8eb48570c5007c3bd1c34b4bc6a3f042e5ae57c57a32b46b8e07c4a92c479cd5b761228efa89359eedafdb2453bc12e5b3b8d733277cc1e43120912fea97ed06dfb78881445000777052d292b8fd6d09c 3 4 0 [a,b,c] [d,e,f,g] []) _) (.int .u64 9) (.int .u64 10) (.int .u64 48) (.convInt .u8 (.t 8)) (.ofBytes (.t 10)) (.convInt .u8 (.t 17)) (.ofBytes (.t 19))
def c138:AFn:=⟨1,23,[.tmp 2],(c138_2)⟩
def c139_1:=(uF (fun a b c d e f g h=>jA 13 0x10dca554e1358e042432015e38abfc3cfbe3f2a7ce1d2cd17c5b94cff99332079a2aacb660ea2bda9d2429ac38be8aab8d9a3ec6702e75ac234bc36910 8 0 0 [a,b,c,d,e,f,g,h] [] []) _) (.i 7) (.str [112,117,116]) (.str [116,97,107,101]) (.str [115,104,117,116]) (.str [99,108,111,115,101]) (.str [114,101,115,101,116]) (.str [99,111,110,110,101,99,116]) (.str [114,97,105,115,101])
def c139:AFn:=⟨1,13,[.tmp 2],yB 3 535408201884 c139_1⟩
def c140_0:=yG 9 0x10c95981326618acf976fc03927ee6dfd2f3fc (.i 6)
def c140:AFn:=⟨1,9,[.tmp 2],yB 3 532422217884 c140_0⟩
def c141_0:=yK 13 0x2cd065dbf1f0295b5cf798b6b326c906836acb8bd2de47c946258af63c (.i 6) (.i 7)
def c141:AFn:=⟨1,13,[.tmp 2],yB 3 532422217884 c141_0⟩
def c142_1:=yM 14 0x207774792315068591a3ed4f97e9883571624906241b4fff63c14c9beb540ba16187a0de8525a3cce910 (.mkSlice 1 1 [.int .u8 0] (.t 10) (.t 10)) (.build [.nils,.i 0,.i 0,.int .u64 0,.int .u64 0,.bool false] [(0,1,(.t 11)),(5,1,(.c (.bool true)))])
def c142:AFn:=⟨1,14,[.tmp 2,.tmp 3],yB 4 0xee3f9ac8fad12c c142_1⟩
def c143_0:=yA 9 0x10c95981326613d3471ba96dd402e6dfd2f3fc
def c143:AFn:=⟨1,9,[.tmp 2],yB 3 532422217884 c143_0⟩
def c144_1:=yG 32 0xc0ad02384c3379cb1393f454a2208f2941ad0c261fb23dd574ca616e4d93c64aa7438f87c (.i 1000)
def c144_2:=yC 19 0x20b8e9a26708968c4a3b5179d2d70ea5d32d5375733ffe2b04a6b8ea28fef824f5cc3714cf7e27afea6051428ce34bcb236e1f08f51e6d84a18b49b48bac1c75a (.label 0) c144_1
def c144:AFn:=⟨2,32,[.tmp 4,.tmp 5],yB 6 0x8fb2b724723b958fed31bc c144_2⟩
def c145_3:=yA 51 0x611869fbab388dbbf167e78da3d02706268ccd76c7efd09fce5e2061d70a485
def c145_4:=yF 41 0x4254d1cb2f9f06cb06ececbbb2e1f765c3792fb85724334b9a22a46909b55e90517e1c23b42116a34dcedf911e4e54e6d90f377d1579c1be01f5895331cde0024767125491d7df1de347794685ff23a9471b357b5bea955ce56266895fb475a0245ede5e24a99532f94ec00adf0fbed55fb7ac466bd3a32aa644197042e1d829fd81f4d4d0 (.build [.bool false,.i 0,.i 0] [(0,1,(.c (.bool true))),(1,1,(.t 34)),(2,1,(.t 35))]) c145_3
def c145:AFn:=⟨3,51,[],(c145_4)⟩
def c146_2:=yM 23 0x136ad150efb704da1d30f78de3c5ee86e8215b86015e7522fe91d4dc0b4d8fb1abc0338320df39de676190b6b53eea5625c1226b3741550eadbce9af88f64f8dc716f72613b2a5eaf00698c854877f5d4f2dc (.ixA 96 3 (some 3) (.t 8) (.t 9)) (.callv (.t 17) [(.t 18)])
def c146:AFn:=⟨2,23,[],(c146_2)⟩
def c147_3:=yE 48 0x1c4e3b639941ec0bf06b47fdc8cbd70fdec9fdf4e3ee61fe6532e14f50135241f703921311c20220b62aae0d82c7d71fd81ffe7ad1e5c9633cccb641c20f3a5ab66b1ee3a66b1b2a39cff2d6c93e2dca33f23ca198875a0e3d6c8007aefd3804fe3f476c02df4f1c37137c5e4c54d0 (.convInt .u64 (.t 42))
def c147:AFn:=⟨2,48,[.tmp 4],yB 9 0x786d36ca26d39497abeca7d4d61f039c9afb909c c147_3⟩
def c148_2:=yA 53 0x22805950e40bc39fc11a057980dbf592dfb6496215e716b4c52d8f49396defad4e96acd5cd73fdcfe199fbc12766c6cea6c52aff8e75c4039b1eceb4a8f09f964297bdf7775ac
def c148_3:=yF 31 0x5076c6398e99d0adff6ae8499631dfb802f94db2da1a384d046785720311feee1c23bf7399611a8f943d5c67793c4cebba639b4ba91ec8eae7c661d354cdb1cfbbf06bad4468210ad0 (.eq .ptr true (.t 16) (.c (.ptr none))) c148_2
def c148:AFn:=⟨4,53,[],(c148_3)⟩
def c149_2:=yA 70 0x2eba7cf2e478bd320c627857f824b0b3e547ea3992a7e62e6b0126c9fba21612b63f4e51c642f658f97477f9b9f3a12104bb1a27f4ff7e1fda31d38fdd26331d44c42e572d4f5044029c3f799872152bdd57bccafa30ffba9bd1e6897ec
def c149_3:=yB 40 0x1a036f5802b9f1f028a449ef2b032fc29b2dd704f1f8ae5f688b926f0cca9d44806516337f88e2d8f4299e6cd85f2a249ebb6df52eface555a1b65c0a0799cefa47f68db3f57dd22198e37578c4cab718b80fe8cb74e5786f8032819a61f10 c149_2
def c149:AFn:=⟨5,70,[],(c149_3)⟩
def c150_3:=(uF (fun a b c=>jA 58 0xe39be109433537092b3a7a39fde5cfd406d02cf4f7effa99ff568e399de947c6351696b76142686756c888d7fe6d20412cb7413a13b2cc6b928a80c60367efe29359254c025826f3c5ed19936d46a0c123f48bc71ba9cc05441598196082bd6b0a9d5f872b80d0006b1ed9623fdc01cc2df2a93fde0ffa96ea91587d21850 0 3 0 [] [a,b,c] []) _) (.copy 1 (.t 33) (.t 34)) (.slice 1 (.t 32) (some (.t 35)) none none) (.convInt .u64 (.t 51))
def c150_5:=(uF (fun a b c=>jA 18 0x1d36e5883e6236364ac6dfc4d40f5ddb82cc7adf98f95a381751f3af917440b1eaf568ab3a037120128961d4f5a4e6bb748c 0 2 1 [] [a,b] [c]) _) (.minI [(.t 9),(.t 11)]) (.slice 1 (.t 7) none (some (.t 12)) none) c150_3
def c150:AFn:=⟨2,58,[.tmp 4],yB 5 4789558483587228 c150_5⟩
def c151_2:=yA 43 0x1405424e7f5ae194421867bc62d3f59f9bbdf2b3742dc58da3f1ffee0d60df9133534946010c9d7aad8b0d2a76f0998b4449fd37944c612161ba2ccecb814a2f9eb99ccf6be2021f0e9e0c2229a7bbf5913f03c4a5697cc9762d2121f92c39c0a038b574f2aff40b998301b42718bd47db3c40f5f0517fce030
def c151:AFn:=⟨2,43,[.tmp 4,.tmp 5],yB 6 0x16357295216ca2112c c151_2⟩
def c152_0:=yA 29 0x56300b845d8eb822324c75321c4dc28db33b6f254860578a487908139135a58c1512c91ceeb7a4c8d90d6ef7fce084a8e8b866c11760a30abec79a93e1c
def c152:AFn:=⟨2,29,[.tmp 4],yB 5 4789558881718428 c152_0⟩
def c153_0:=yA 8 0xa4dd65cbb174b102cc33337ca2db032c8ebf6e30d09c
def c153:AFn:=⟨1,8,[.tmp 2],(c153_0)⟩
def c154_0:=yE 8 0x97181ddb1483dc310daf60ea68fe0a697dc80c68f073dd106732334e10 (.eq .slice false (.t 3) (.c (.nils)))
def c154:AFn:=⟨1,8,[.tmp 2],yB 3 532661096604 c154_0⟩
def c155_2:=yA 27 0x17da885166c8ffac6240bc5d8c35b9b1c396e1066c238a58ec2fb4a27bffdf59bde45d0889bba0b94a6f33ad6e82d52fe7f9ea6041fdd21ea49657e45a200694e39190fb4ed546b68c16f325e6f2fcb95770e7eea82fd52db90
def c155:AFn:=⟨3,27,[.tmp 6],yB 7 0x17d6b927192d09c c155_2⟩
def c156_2:=yI 36 0x349129a51fbf74ef702f807cd67979d6855cda5f86ef580d6b46bf056e085aab873de0bfb61fc74f79b32a69a5ff90d6c633f595f51b7a92c0b87a3255a4b0f1893f7e2e3fc7344a461bc5d4814f695424eee08dc8f7fe87fc392299ed467f3603db3ad6c4061165b51e484dfdb90 (.i 2147483647) (.minI [(.c (.i 1)),(.t 30)])
def c156:AFn:=⟨2,36,[.tmp 4],yB 5 4789558483587228 c156_2⟩
def c157_2:=yI 19 0x9ee3fa1b608e88707de941dcd1ab47506f3fddb1a70479431a63d42c56c8398b777844a3a12565ee542e0d4630ee55029ae175583b316cbc4cd71eba7c4f5b65c59d36f2b65bbbfcd6707793d52909c (.i (-1)) (.callv (.t 11) [(.t 15)])
def c157:AFn:=⟨2,19,[.tmp 4],(c157_2)⟩
def c158_0:=yG 9 0x10c9597ec92a6e48afd099e050862de8caf3fc (.i 999)
def c158:AFn:=⟨1,9,[.tmp 2],yB 3 532422217884 c158_0⟩
def c159_0:=yA 9 0x38583d281518ef9e3638cca04edc60685e147044909c
def c159:AFn:=⟨2,9,[.tmp 4],(c159_0)⟩
def c160_0:=yA 9 0x38583d281518ef9e3669daa01f8e39285e147044909c
def c160:AFn:=⟨2,9,[.tmp 4],(c160_0)⟩
def c161_0:=yA 6 0xafdb17ccbc8d86ea7a7319c01fa746daac1e12c
def c161:AFn:=⟨1,6,[.tmp 2],(c161_0)⟩
def c162_3:=yM 32 0x157c9c723b0ebf13f6891fde93e677957357883f7df072092203184fedbb702a9b8d3f047627110945e002da80b76e07b52bae6a48e6dd212deb1e5a22c1ebf9110d7375cd6f6e47f6824d9990dcd2a9948bc6d90fcda7ba5df73f48817fc120fe250 (.callv (.t 16) [(.c (.str [119]))]) (.callv (.t 24) [(.c (.str [110]))])
def c162_4:=(uF (fun a b c=>jA 45 0x4c55fec69f2082ac936114949b62baca198fdfc7d93c5e31fa617d9109916d3b8def3db63503dbe3b817ec 1 2 0 [a] [b,c] []) _) (.i 1000) (.callv (.t 32) [(.c (.str [100]))]) (.eq .bool false (.t 33) (.t 37))
def c162:AFn:=⟨1,45,[.tmp 2],yN 5 0x3406d368e5e5807ec2a8817ac1e12c (.mkClo 181 [(.t 1)]) c162_3 c162_4⟩
def c163_0:=yE 8 0x97181dddec2001f91245434d4fbd7c7f08080c68f073dd106732334e10 (.eq .slice false (.t 3) (.c (.nils)))
def c163:AFn:=⟨1,8,[.tmp 2],yB 3 532661096604 c163_0⟩
def c164_0:=yE 8 0x97181dda95315253d5d498b368fe0a697dc80c68f073dd106732334e10 (.eq .slice false (.t 3) (.c (.nils)))
def c164:AFn:=⟨1,8,[.tmp 2],yB 3 532661096604 c164_0⟩
def c165_1:=yE 59 0x1d5dc2b9de4265b2aaa2b053ccb86d4a4503ba8ab7dee36dc995914047a899180fd9e44d6e43aa4085f429aa58ebeeb2ad77609dc18e45d70a2424e2fb61ffdb73a73d43b8858608c41cf1df459e50b8492dc1e2933acf3ce012cab7b924c (.eq .bool false (.t 52) (.t 56))
def c165_2:=yL 29 0xb3e6e9c32645e1b64fad22955b1554beca6c58b6208a17739031f571cd4569638f52c6e39dfa4ce0cf793924eab6b663f4d88a5a0d601f577d0da18376b109c0577f4e9b3b02a6290 (.i 7) (.i 1000) c165_1
def c165:AFn:=⟨1,59,[.tmp 2],yB 3 0x2cdf1f6ec1e12c c165_2⟩
def c166_0:=yE 12 0x7a06da27d437bfc5240a77f6c69429455d39616f5ac (.eq .ptr false (.t 3) (.c (.ptr none)))
def c166:AFn:=⟨1,12,[.tmp 2],yB 3 532422217884 c166_0⟩
def c167_4:=yA 39 0xac6efdc4efecd0ba3a1942003586ecc244ef22cd20b61ac3c461b490e3ae1e9e4b885a9a8fc9a532d00ab89006163c
def c167_5:=yA 25 0x6b0919664c5aa8a5fd94fc02e426517122dc037c90fafeb7a9f342b5ac
def c167_6:=(uF (fun a b c=>jA 67 0xa9b27f3cfc28622d4f3e82ecf03b6deee8e35e5a5b8a8e6d9efb68e2a7f86e8c3f7b04f5ed62e82f9fb4749bbe989ad65325d37c5f38c7eafd3f51de31d7caf0ade9169a45e60e0eac3d7ab3f36954ab44db67e61a718141529bcf7d2ba62e53654d4426fe0d01d1005a68eb3149b5feb1d78173079d4da3a7d8abced37b50398969da73f0132093f32dafe2dbffbca16c647a2ffff1dde22dd9201e13b674f 1 0 2 [a] [] [b,c]) _) (.i 6) c167_5 c167_4
def c167_7:=yB 71 0x79befffd45bce9343933804c8e201afc5d3766cec4442cf70099ac7eef9f7e2713a1d47f0c32b7e4ce10 c167_6
def c167_8:=yH 13 0x8646f7b208b12ea437d085a7cf5213553459228263c54d0 (.i 120) c167_7
def c167_9:=yB 10 0x1870de1819428a6612e699292b4ba8c0369ad0ce32d08d8dec93231b1bc c167_8
def c167:AFn:=⟨2,71,[.tmp 4,.tmp 5],(c167_9)⟩
def c168:AFn:=⟨1,4,[.tmp 2],yI 4 0x3e74bc8c76a4aa590df662612c (.nilfn) (.mkClo 184 [(.t 1)])⟩
def c169_4:=yA 39 0xac6efdc4efecd0bcae729847c7056778eef50564782bbb57fbe593eb4a51d50a29abaffde614c32d500ab89006163c
def c169_5:=yA 25 0x6b0919664c5aa8a5fd94fc02e42653692fcdb5fa2c207eb7a9f342b5ac
def c169_6:=(uF (fun a b c=>jA 67 0xa9b27f3cfc28622d4f3e82ecf03b6def1ace7ba1c29d6c91a73eae97fe3a6a1640dc2a3cc02e862b12fb76073abcb59064f6abefbf6e2a28a4e79b4caa6b7139dcbd43a91a2d47d7880307e59dcafe1cc0b0e394c80010478eaf8fd4dc37fcc7468f87bd21be7b48ea391dc31015f9f504ef667426c3ab69163ec4847927e82a099a3b11a49baeb518d713de0a7be2a16c647a2ffff1dde22dd9201e13b674f 1 0 2 [a] [] [b,c]) _) (.i 6) c169_5 c169_4
def c169_7:=yB 71 0x79befffd45bce9343933a6eb79b4ae7c9f16b8a2121dae9894d6007eef9f7e2713a1d47f0c32b7e4ce10 c169_6
def c169_8:=yH 13 0x6eee1776420f41848bb1b493836e31ca9190135c1f1bd94cb625b72232591bc (.i 120) c169_7
def c169:AFn:=⟨2,71,[.tmp 4,.tmp 5],yB 6 0x8fb2b660717bba0e2a31bc c169_8⟩
def c170_1:=yE 12 0x3e74f9865516d1e62928e0bd51a3112d9242c886d9d961d37269f201b79029bce32b68722f004f1a2ae0b68785caf109c (.eq .ptr false (.t 6) (.c (.ptr none)))
def c170:AFn:=⟨2,12,[.tmp 4],(c170_1)⟩
def c173_2:=(uF (fun a b c d e=>jA 24 0xd33ff95e2a70fb0a47b03916ee890f2e698cb3e36f3fed8022696a41d19a9bcd3ff3dbd7bb5698f08308a23d5858975d2508d3baaa4a6b7b1298c7c1ebbabaf80d7e705f64239de7d68cb485f6c826a603338c5fdfd4d0 2 3 0 [a,b] [c,d,e] []) _) (.int .u64 4) (.int .u8 15) (.ixStr (.c (.str [48,49,50,51,52,53,54,55,56,57,97,98,99,100,101,102])) (.t 14)) (.ixStr (.c (.str [48,49,50,51,52,53,54,55,56,57,97,98,99,100,101,102])) (.t 17)) (.ofBytes (.t 22))
def c173:AFn:=⟨1,24,[.tmp 2],yB 4 0x478b5ad0582ceecd09c c173_2⟩
def c174_2:=yE 25 0x1c596d4d17ec5dd80b2427045ef802d27d324e96db956b58eb464e5efcc75b3e30a91ae8ad755768301ac155fe13a4382783d037828c3f4e79ca1a7a938c8b83cbe0acccddd20644ae3b16250 (.minI [(.t 7),(.t 9)])
def c174:AFn:=⟨2,25,[.tmp 4],yB 6 0xd6f0a7a432590d786760109c c174_2⟩
def c178_0:=yI 8 0x1290ec49185ab4ce522a1666af3a2065a1531f24c (.nilfn) (.mkClo 193 [(.t 5),(.t 4),(.t 3)])
def c178:AFn:=⟨3,8,[.tmp 6],(c178_0)⟩
def c179_2:=yI 19 0x27b8fe86d823a21c1f7a5077346ad1d41bcff76c69c11e50c698f50cef1ace0ed621dab6bb6be5b0641e11f7debb919809b5a603316cbc4cd71eba7c4f5b65c59d36f2b65bbbfcd6707793d52909c (.i (-1)) (.callv (.t 11) [(.t 15)])
def c179:AFn:=⟨2,19,[.tmp 4],(c179_2)⟩
def c180_2:=yI 19 0x9ee3fa1b608e88707de941dcd1ab47506f3fddb1a70479431a63d42c56c8398b777844a3a12565ee542e0d4630ee55029ae175583b316cbc4cd71eba7c4f5b65c59d36f2b65bbbfcd6707793d52909c (.i (-1)) (.callv (.t 11) [(.t 15)])
def c180:AFn:=⟨2,19,[.tmp 4],(c180_2)⟩
def c181_0:=yA 9 0x25c6d29989814c0e9e13e46248f431d22a3d78808c703a709c
def c181:AFn:=⟨2,9,[.tmp 3],(c181_0)⟩
def c182_0:=yA 9 0x38583d281518ef9e39189e9d894813a85e147044909c
def c182:AFn:=⟨2,9,[.tmp 4],(c182_0)⟩
def c183_3:=(uF (fun a b c d e f=>jA 15 0x10cfe5ce4de74b0056b67386b8492d57a82c8a98fe86f9ed712ae73068e026c391510ce1794dbde1e450f0ab01050b0a3ba7b68abece95ac5c6318d7ae07f8cfabe3f41f6e39589297b28da3ed6886cb785188b219ef7419b6d775757fd2b58e15c25e8bc4d4750 6 0 0 [a,b,c,d,e,f] [] []) _) (.str [119,100]) (.i 6) (.str [119,110]) (.str [119]) (.i 7) (.str [110])
def c183:AFn:=⟨1,15,[.tmp 2],yB 3 535408201884 c183_3⟩
def c184_2:=yM 20 0x1dd18fdd07632213b64d66d78c82e824ec891c7c3c6bc83317cf9b50408326f4db668c84976a4f404bc117764aae883c65c1f319c788cfa8bc0a78a2a603940fa137cbab86925a6509c (.build [.i 0,.i 0] [(0,1,(.t 14)),(1,1,(.t 15))]) (.callv (.t 13) [(.t 16)])
def c184:AFn:=⟨2,20,[],yC 6 0x28408e462d438fd990403a (.label 0) c184_2⟩
def c185_0:=yA 9 0x10c959813265b2d157f935baf252e6dfd2f3fc
def c185:AFn:=⟨1,9,[.tmp 2],yB 3 532422217884 c185_0⟩
def c193_2:=(uF (fun a b c=>jA 43 0xa5264c53cef9c9afb351e5bc07fc588be4bbe0a9fddde840513f80d21ac25b41bc07848b17a9b9b0a2e3282133af682bc76a966f72600cc88ed78ada167bb1e523b97622a6a35af3a2ee10c958d255d9af2bbd24629659178086c8c4b0460228d004da1fbac66f48c 0 3 0 [] [a,b,c] []) _) (.minI [(.t 23),(.t 28)]) (.slice 1 (.t 19) (some (.t 20)) (some (.t 29)) none) (.callv (.t 31) [(.t 32)])
def c193:AFn:=⟨4,43,[],yC 9 0xab6e8906737b7b170117b38654191c2213c3a (.label 0) c193_2⟩
def c194:AFn:=⟨2,8,[.tmp 4],yA 8 0x4ca912ac4b6c803ee4701ec8b54335932d109c⟩
def c202_4:=(uF (fun a b c d=>jA 143 0xfe791c72295809e6d973750fbd7d39bc68dadafc6d985b3e55cfdb09fe342b7ddb743b4b44543b628a714ee24433adf6d2301a9fb04036fc8c6509bb56de147a150fef98866e2f7ce7375047df008315cb25d8bfbb0a68b9770b94db53af1ed587c 2 2 0 [a,b] [c,d] []) _) (.int .u64 4) (.i (-1)) .fail (.sliceS (.t 133) (some (.t 134)) none)
def c202_6:=(uF (fun a b c d=>jA 118 0x1809d5d5ede0a5f82afeafe9e66e87c6a53e8b1e93a3f9431981e3040486cbbd567b8f2949caab2ebbeb646a97977d530c2689a7c2853dab0fb336145a910f7f7459751738675a08ae86de406722cd5bc89804f46fc1a953b24944f4ba8ffb3597f1171bc 1 2 1 [a] [b,c] [d]) _) (.i (-1)) .fail (.sliceS (.t 108) (some (.t 109)) none) c202_4
def c202_10:=(uF (fun a b c d e f=>jA 95 0xdbe7fe5ed6023bbc3024229365023a080bb8b2c9a8c85002ed4a92ea6d58f9c300e28e28224114d04ecb4c43002b242d71774ca7a9fbf7ddef87ee05eac0cce14ef7048e1a3f74d31e91b59afe682bd5ddeadd710238489026fdc04c74408c4858fd57efbf38f0f6f3e1ef9cd33f74bc1f43850aa2ed2ae20cfb9ad503cb12f25fd3d22e0e250 1 4 1 [a] [b,c,d,e] [f]) _) (.i (-1)) (.ixStr (.t 60) (.t 61)) (.sliceS (.t 65) (some (.t 67)) (some (.t 68))) (.ixStr (.t 78) (.t 80)) (.sliceS (.t 85) (some (.t 86)) (some (.t 89))) c202_6
def c202_16:=(uF (fun a b c d e=>jA 48 0xcc8aa671f3ce0f8efcaa4ee0d5b026fb0f7acc75e755076499415976e4c1136c9ae4f96652a94f5e9d87dbd6add6739d514d124aef3456c3bc588444ee9be8b76667f6fb32f541d9400994a868b855e5eb764a8b4ef4c48490fa474e0a4703814695ebd4672096b73a53ea80c6d79be8c216ed9798c52cc475f5485c2cb48c 1 4 0 [a] [b,c,d,e] []) _) (.i (-1)) (.ixStr (.t 28) (.c (.i 0))) (.lenS (.t 33)) .fail (.lenS (.t 41))
def c202_17:=(uF (fun a b c d e=>jA 60 0x13c8339c3e0ef64819d607223c4919d20cbd18fa694a8522a0a1d45329737fff6b5acf03eea4f24687fe07476897c38dc3ee332fc117a75b05ac514086f3a60622f10efc35e91bc 1 3 1 [a] [b,c,d] [e]) _) (.i (-1)) (.ixStr (.t 48) (.c (.i 0))) (.ixStr (.t 50) (.c (.i 1))) (.lenS (.t 52)) c202_10
def c202:AFn:=⟨2,143,[.tmp 4],yN 16 0x2a9ec81d7ed33e3c0484c9b3aeb2631109c (.lenS (.t 14)) c202_16 c202_17⟩
def c205:AFn:=⟨2,8,[.tmp 4],yA 8 0x4ca912ac4b6d716a150b3d48b54335932d109c⟩
def prog:Prog:= {fns:=[(3,c3),(4,c4),(5,c5),(6,c6),(7,c7),(8,c8),(9,c9),(10,c10),(11,c11),(12,c12),(13,c13),(14,c14),(15,c15),(16,c16),(17,c17),(18,c18),(19,c19),(20,c20),(21,c21),(22,c22),(23,c23),(24,c24),(25,c25),(26,c26),(27,c27),(28,c28),(29,c29),(30,c30),(31,c31),(32,c32),(33,c33),(34,c34),(35,c35),(36,c36),(37,c37),(38,c38),(39,c39),(40,c40),(41,c41),(42,c42),(43,c43),(44,c44),(45,c45),(46,c46),(47,c47),(48,c48),(49,c49),(50,c50),(51,c51),(52,c52),(53,c53),(54,c54),(55,c55),(56,c56),(57,c57),(58,c58),(59,c59),(60,c60),(61,c61),(62,c62),(63,c63),(64,c64),(65,c65),(66,c66),(67,c67),(68,c68),(69,c69),(70,c70),(71,c71),(72,c72),(73,c73),(74,c74),(75,c75),(76,c76),(77,c77),(78,c78),(79,c79),(80,c80),(81,c81),(82,c82),(83,c83),(84,c84),(85,c85),(86,c86),(87,c87),(88,c88),(89,c89),(90,c90),(91,c91),(92,c92),(93,c93),(94,c94),(95,c95),(96,c96),(97,c97),(98,c98),(99,c99),(100,c100),(101,c101),(102,c102),(103,c103),(104,c104),(105,c105),(106,c106),(107,c107),(108,c108),(109,c109),(110,c110),(111,c111),(112,c112),(113,c113),(114,c114),(115,c115),(116,c116),(117,c117),(118,c118),(119,c119),(120,c120),(121,c121),(122,c122),(123,c123),(124,c124),(125,c125),(126,c126),(127,c127),(128,c128),(129,c129),(132,c132),(134,c134),(135,c135),(136,c136),(137,c137),(138,c138),(139,c139),(140,c140),(141,c141),(142,c142),(143,c143),(144,c144),(145,c145),(146,c146),(147,c147),(148,c148),(149,c149),(150,c150),(151,c151),(152,c152),(153,c153),(154,c154),(155,c155),(156,c156),(157,c157),(158,c158),(159,c159),(160,c160),(161,c161),(162,c162),(163,c163),(164,c164),(165,c165),(166,c166),(167,c167),(168,c168),(169,c169),(170,c170),(173,c173),(174,c174),(178,c178),(179,c179),(180,c180),(181,c181),(182,c182),(183,c183),(184,c184),(185,c185),(193,c193),(194,c194),(202,c202),(205,c205)],prims:=[(130,jlb 0),(131,jkZ 0),(133,jjV),(209,jcE)]}
theorem primsF:jjy prog:=jjy.of (List.forall_mem_cons.2 ⟨Am.pFmtU_F 0,List.forall_mem_cons.2 ⟨Am.pItoa_F 0,List.forall_mem_cons.2 ⟨Am.pJoin_F,List.forall_mem_cons.2 ⟨Am.jla,fun _ h=>nomatch h⟩⟩⟩⟩)
def cx:Cx:=⟨[(3,⟨.int .i64,1,8,(some (.i 0)),false⟩),(4,⟨.bool,1,1,(some (.bool false)),false⟩),(5,⟨.int .u8,1,1,(some (.int .u8 0)),false⟩),(9,⟨.str,1,16,(some (.str [])),false⟩),(22,⟨.slice 36,1,24,(some (.nils)),false⟩),(23,⟨.slice 79,1,24,(some (.nils)),false⟩),(24,⟨.slice 56,1,24,(some (.nils)),false⟩),(26,⟨.struct [(0,23),(1,24)],2,48,(some (.agg [.nils,.nils])),false⟩),(33,⟨.int .u64,1,8,(some (.int .u64 0)),false⟩),(34,⟨.slice 5,1,24,(some (.nils)),false⟩),(36,⟨.struct [(0,3),(1,3),(2,3),(3,33),(4,34)],5,56,(some (.agg [.i 0,.i 0,.i 0,.int .u64 0,.nils])),false⟩),(37,⟨.ptr 106,1,8,(some (.ptr none)),false⟩),(38,⟨.int .i64,1,8,(some (.i 0)),false⟩),(41,⟨.ptr 141,1,8,(some (.ptr none)),false⟩),(42,⟨.ptr 93,1,8,(some (.ptr none)),false⟩),(44,⟨.struct [(0,41),(1,42)],2,16,(some (.agg [.ptr none,.ptr none])),false⟩),(45,⟨.ptr 110,1,8,(some (.ptr none)),false⟩),(48,⟨.ptr 75,1,8,(some (.ptr none)),false⟩),(52,⟨.array 96 3,96,768,(some (.agg (List.replicate 96 (.i 0:V)))),false⟩),(54,⟨.struct [(0,42),(1,52),(97,3)],98,784,(some (.agg ([.ptr none]++List.replicate 97 (.i 0:V)))),false⟩),(56,⟨.struct [(0,3),(1,36),(6,3),(7,3),(8,33),(9,4)],10,96,(some (.agg [.i 0,.i 0,.i 0,.i 0,.int .u64 0,.nils,.i 0,.i 0,.int .u64 0,.bool false])),false⟩),(62,⟨.slice 118,1,24,(some (.nils)),false⟩),(63,⟨.slice 127,1,24,(some (.nils)),false⟩),(71,⟨.func,1,8,(some (.nilfn)),false⟩),(73,⟨.slice 3,1,24,(some (.nils)),false⟩),(75,⟨.struct [(0,23),(1,73)],2,48,(some (.agg [.nils,.nils])),false⟩),(77,⟨.slice 81,1,24,(some (.nils)),false⟩),(79,⟨.struct [(0,33),(1,4),(2,73),(3,77)],4,64,(some (.agg [.int .u64 0,.bool false,.nils,.nils])),false⟩),(81,⟨.struct [(0,3),(1,3),(2,3),(3,34)],4,48,(some (.agg [.i 0,.i 0,.i 0,.nils])),false⟩),(89,⟨.slice 156,1,24,(some (.nils)),false⟩),(90,⟨.array 32 4,32,32,(some (.agg (List.replicate 32 (.bool false:V)))),false⟩),(91,⟨.array 32 3,32,256,(some (.agg (List.replicate 32 (.i 0:V)))),false⟩),(93,⟨.struct [(0,89),(1,33),(2,90),(34,91),(66,3),(67,3)],68,336,(some (.agg ([.nils,.int .u64 0]++List.replicate 32 (.bool false:V)++List.replicate 34 (.i 0:V)))),false⟩),(106,⟨.struct [(0,41),(1,52),(97,3)],98,784,(some (.agg ([.ptr none]++List.replicate 97 (.i 0:V)))),false⟩),(110,⟨.struct [(0,23),(1,73)],2,48,(some (.agg [.nils,.nils])),false⟩),(113,⟨.struct [(0,4),(1,4),(2,4),(3,4),(4,4),(5,33),(6,33)],7,24,(some (.agg [.bool false,.bool false,.bool false,.bool false,.bool false,.int .u64 0,.int .u64 0])),true⟩),(118,⟨.struct [(0,3),(1,3)],2,16,(some (.agg [.i 0,.i 0])),true⟩),(127,⟨.struct [(0,3),(1,3)],2,16,(some (.agg [.i 0,.i 0])),true⟩),(131,⟨.slice 9,1,24,(some (.nils)),false⟩),(134,⟨.ptr 193,1,8,(some (.ptr none)),false⟩),(137,⟨.struct [(0,4),(1,3),(2,3)],3,24,(some (.agg [.bool false,.i 0,.i 0])),false⟩),(138,⟨.array 96 137,288,2304,(some (.agg ((List.replicate 96 ([.bool false,.i 0,.i 0]:List V)).flatten))),false⟩),(139,⟨.slice 142,1,24,(some (.nils)),false⟩),(141,⟨.struct [(0,138),(288,139),(289,134),(290,33),(291,137)],294,2368,(some (.agg ((List.replicate 96 ([.bool false,.i 0,.i 0]:List V)).flatten++[.nils,.ptr none,.int .u64 0,.bool false,.i 0,.i 0]))),false⟩),(142,⟨.ptr 149,1,8,(some (.ptr none)),false⟩),(144,⟨.ptr 213,1,8,(some (.ptr none)),false⟩),(146,⟨.struct [(0,3),(1,3),(2,144),(3,4),(4,4),(5,33),(6,33)],7,48,(some (.agg [.i 0,.i 0,.ptr none,.bool false,.bool false,.int .u64 0,.int .u64 0])),false⟩),(147,⟨.array 2 146,14,96,(some (.agg [.i 0,.i 0,.ptr none,.bool false,.bool false,.int .u64 0,.int .u64 0,.i 0,.i 0,.ptr none,.bool false,.bool false,.int .u64 0,.int .u64 0])),false⟩),(149,⟨.struct [(0,147),(14,4),(15,3),(16,73)],17,136,(some (.agg [.i 0,.i 0,.ptr none,.bool false,.bool false,.int .u64 0,.int .u64 0,.i 0,.i 0,.ptr none,.bool false,.bool false,.int .u64 0,.int .u64 0,.bool false,.i 0,.nils])),false⟩),(153,⟨.struct [(0,3),(1,3),(2,4),(3,4),(4,34),(5,4),(6,33),(7,33)],8,72,(some (.agg [.i 0,.i 0,.bool false,.bool false,.nils,.bool false,.int .u64 0,.int .u64 0])),false⟩),(154,⟨.array 2 153,16,144,(some (.agg [.i 0,.i 0,.bool false,.bool false,.nils,.bool false,.int .u64 0,.int .u64 0,.i 0,.i 0,.bool false,.bool false,.nils,.bool false,.int .u64 0,.int .u64 0])),false⟩),(156,⟨.struct [(0,154),(16,3),(17,4),(18,3),(19,73)],20,192,(some (.agg [.i 0,.i 0,.bool false,.bool false,.nils,.bool false,.int .u64 0,.int .u64 0,.i 0,.i 0,.bool false,.bool false,.nils,.bool false,.int .u64 0,.int .u64 0,.i 0,.bool false,.i 0,.nils])),false⟩),(193,⟨.struct [(0,90),(32,91)],64,288,(some (.agg (List.replicate 32 (.bool false:V)++List.replicate 32 (.i 0:V)))),false⟩),(213,⟨.struct [(0,34),(1,3),(2,3),(3,33),(4,33),(5,4)],6,64,(some (.agg [.nils,.i 0,.i 0,.int .u64 0,.int .u64 0,.bool false])),false⟩)],[0,2,3]⟩
def jbi:List V:=[.int .u8 0,.int .u8 1,.int .u8 28,.int .u8 2,.int .u8 29,.int .u8 14,.int .u8 24,.int .u8 3,.int .u8 30,.int .u8 22,.int .u8 20,.int .u8 15,.int .u8 25,.int .u8 17,.int .u8 4,.int .u8 8,.int .u8 31,.int .u8 27,.int .u8 13,.int .u8 23,.int .u8 21,.int .u8 19,.int .u8 16,.int .u8 7,.int .u8 26,.int .u8 12,.int .u8 18,.int .u8 6,.int .u8 11,.int .u8 5,.int .u8 10,.int .u8 9]
def jbh:List V:=[.int .u8 0,.int .u8 1,.int .u8 56,.int .u8 2,.int .u8 57,.int .u8 49,.int .u8 28,.int .u8 3,.int .u8 61,.int .u8 58,.int .u8 42,.int .u8 50,.int .u8 38,.int .u8 29,.int .u8 17,.int .u8 4,.int .u8 62,.int .u8 47,.int .u8 59,.int .u8 36,.int .u8 45,.int .u8 43,.int .u8 51,.int .u8 22,.int .u8 53,.int .u8 39,.int .u8 33,.int .u8 30,.int .u8 24,.int .u8 18,.int .u8 12,.int .u8 5,.int .u8 63,.int .u8 55,.int .u8 48,.int .u8 27,.int .u8 60,.int .u8 41,.int .u8 37,.int .u8 16,.int .u8 46,.int .u8 35,.int .u8 44,.int .u8 21,.int .u8 52,.int .u8 32,.int .u8 23,.int .u8 11,.int .u8 54,.int .u8 26,.int .u8 40,.int .u8 15,.int .u8 34,.int .u8 20,.int .u8 31,.int .u8 10,.int .u8 25,.int .u8 14,.int .u8 19,.int .u8 9,.int .u8 13,.int .u8 8,.int .u8 7,.int .u8 6]
def jaI:List V:=[.int .u64 1,.int .u64 10,.int .u64 100,.int .u64 1000,.int .u64 10000,.int .u64 100000,.int .u64 1000000,.int .u64 10000000,.int .u64 100000000,.int .u64 1000000000,.int .u64 10000000000,.int .u64 100000000000,.int .u64 1000000000000,.int .u64 10000000000000,.int .u64 100000000000000,.int .u64 1000000000000000,.int .u64 10000000000000000,.int .u64 100000000000000000,.int .u64 1000000000000000000,.int .u64 10000000000000000000]
end Am.Sigs
