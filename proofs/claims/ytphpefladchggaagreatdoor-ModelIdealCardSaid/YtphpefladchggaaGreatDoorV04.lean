/- Our own library, part 4. -/
import Derived.Laws.Entries
import Derived.Test.YtphpefladchggaaGreatDoorV03
set_option maxHeartbeats 8000000
set_option maxRecDepth 800
set_option linter.all false
abbrev Zl:=@Go.Sem.run_pure
namespace Am
open Go
section
variable{P:Program}{C:Cx}{m:Mp}{e:Env}{t:Array Value}{o:Oper}{v:V}
def jby(P:Program)(m:Mp)(t:Array Value)(o:Oper)(v:V)(w:World):Prop:=
 ∃x,(execOp (evT t) o).run P w = .ok (.value x) w/\VRel m v x
theorem jkS(hG:GOk C m)(he:ERel m e t){x:Opd}{y:Operand}(ho:o.op = .move y\/o.op = .assign y)(hM:opdM C x y=true)(hr:x.ev e=some v)(w:World):jby P m t o v w:=by
 refine⟨evT t y,?_,jah hG he hM hr⟩;rcases ho with ho|ho<;>simp[execOp,ho]
theorem pure_pick(hG:GOk C m)(he:ERel m e t){c a b:Opd}{c' a' b':Operand}(ho:o.op = .pick c' a' b')(hc:opdM C c c'=true)(ha:opdM C a a'=true)(hb:opdM C b b'=true)
  (hr:I.pure e (.pick c a b)=some v) (w:World):jby P m t o v w:=by
 simp only[I.pure]at hr;split at hr
 .next h1=>
  have e1:evT t c' = .bool true:=jah hG he hc h1;split at hr
  .next u hu=>
   cases hr;exact⟨evT t a',by simp[execOp,ho,e1,asBool],jah hG he ha hu⟩
  .cases hr
 .next h1=>
  have e1:evT t c' = .bool false:=jah hG he hc h1;split at hr
  .next u hu=>
   cases hr;exact⟨evT t b',by simp[execOp,ho,e1,asBool],jah hG he hb hu⟩
  .cases hr
 .cases hr
theorem jnA(hG:GOk C m)(he:ERel m e t){x:Opd}{y:Operand}(ho:o.op = .nilCheck y)(hM:opdM C x y=true)(hr:I.pure e (.nilck x)=some v)(w:World):jby P m t o v w:=by
 simp only[I.pure]at hr;split at hr
 .next a h1=>
  cases hr;have H:=jah (t:=t) hG he hM h1;have hx:=H;obtain⟨l,_,e1⟩:=hx;exact⟨evT t y,by simp[execOp,ho,e1],H⟩
 .next f c h1=>
  cases hr;have H:=jah (t:=t) hG he hM h1;have hx:=H;obtain⟨xs,e1,_⟩:=hx;exact⟨evT t y,by simp[execOp,ho,e1],H⟩
 .next l h1=>
  cases hr;have H:=jah (t:=t) hG he hM h1;have hx:=H;obtain⟨xs,_,e1⟩:=hx;exact⟨evT t y,by simp[execOp,ho,e1],H⟩
 .next f c h1=>
  cases hr;have H:=jah (t:=t) hG he hM h1;have hx:=H;obtain⟨xs,e1,_⟩:=hx;exact⟨evT t y,by simp[execOp,ho,e1],H⟩
 .next f c h1=>
  cases hr;have H:=jah (t:=t) hG he hM h1;have hx:=H;obtain⟨xs,e1,_⟩:=hx;exact⟨evT t y,by simp[execOp,ho,e1],H⟩
 .cases hr
theorem intOp_run{op:BinOp}{k k':IntKind}{a b:Int}{ty:TypeId}(hk:(jc0 op||k == k')=true)(hr:jdX op k a b=some v)(w:World) :
  ∃x,(Go.binOp op ty (.int k a) (.int k' b)).run P w = .ok x w/\VRel m v x:=by
 have kO:jc0 op=false->k=k':=by
  intro h;rw[h]at hk;simpa using hk
 cases op
 case quo=>
  cases kO rfl;simp only[jdX,zH,beq_iff_eq]at hr;simp only[binOp_quo,Op.intDiv];by_cases hb:b=0
  .simp[hb]at hr
  .simp[hb]at hr;subst hr;exact⟨_,by simp[hb],rfl⟩
 case rem=>
  cases kO rfl;simp only[jdX,zH,beq_iff_eq]at hr;simp only[binOp_rem,Op.intDiv];by_cases hb:b=0
  .simp[hb]at hr
  .simp[hb]at hr;subst hr;exact⟨_,by simp[hb],rfl⟩
 case shl=>
  simp only[jdX,jem]at hr;simp only[binOp_shl,Op.shift];by_cases hb:b<0
  .simp[hb]at hr
  .simp[hb]at hr;subst hr;exact⟨_,by simp[hb],rfl⟩
 case shr=>
  simp only[jdX,jem]at hr;simp only[binOp_shr,Op.shift];by_cases hb:b<0
  .simp[hb]at hr
  .simp[hb]at hr;subst hr;exact⟨_,by simp[hb],rfl⟩
 all_goals
  cases kO rfl;simp only[jdX,Option.some.injEq]at hr;subst hr;refine⟨_,?_,rfl⟩;simp[Go.binOp,Op.intArith,Op.intBits,Op.intCmp]
theorem strOp_run{op:BinOp}{a b:List UInt8}{ty:TypeId}(hr:jpr op a b=some v)(w:World) :
  ∃x,(Go.binOp op ty (.string ⟨⟨a⟩⟩) (.string ⟨⟨b⟩⟩)).run P w = .ok x w/\VRel m v x:=by
 have hl:∀l:List UInt8,(ByteArray.mk ⟨l⟩).toList=l:=fun l=>by simp[ByteArray.toList_eq]
 have kT:(ByteArray.mk ⟨a⟩)++(ByteArray.mk ⟨b⟩)=ByteArray.mk ⟨a++b⟩:=by
  apply ByteArray.ext;simp[ByteArray.data_append]
 cases op<;>simp only[jpr]at hr<;>(try cases hr)
 case add=>
  simp only[zH,zQ]at hr;split at hr
  .next h=>
   cases hr;refine⟨_,?_,rfl⟩;have h2:¬(((ByteArray.mk ⟨a⟩).size+(ByteArray.mk ⟨b⟩).size:Nat):Int)>IntKind.i64.max:=by
    simp only[ByteArray.size,List.size_toArray,IntKind.max_i64];omega
   simp only[Go.binOp,Op.stringOp];rw[zC h2,kT];rfl
  .cases hr
 all_goals
  refine⟨_,?_,rfl⟩;simp only[Go.binOp,Op.stringOp,hl];simp[Zl]
theorem pure_bin(hG:GOk C m)(he:ERel m e t){op:BinOp}{x y:Opd}{x' y':Operand}{ty ty':TypeId}(ho:o.op = .binOp op ty x' y' ty')(hx:opdM C x x'=true)(hy:opdM C y y'=true)
  (hr:I.pure e (.bin op x y)=some v) (w:World):jby P m t o v w:=by
 simp only[I.pure]at hr;split at hr
 .next a b h1 h2=>
  have H1:=jah (t:=t) hG he hx h1;have H2:=jah (t:=t) hG he hy h2;split at hr
  .next u hu=>
   cases hr;unfold binOp at hu;split at hu
   .next k a k' b=>
    simp only[zH]at hu;split at hu
    .next hk=>
     obtain⟨z,h3,h4⟩:=intOp_run (P:=P) (m:=m) (ty:=ty) hk hu w;refine⟨z,?_,h4⟩;simp only[execOp,ho,Zj];rw[show evT t x'=_ from H1,show evT t y'=_ from H2,eqGuard_at_int];simp[h3]
    .cases hu
   .next a b=>
    obtain⟨z,h3,h4⟩:=strOp_run (P:=P) (m:=m) (ty:=ty) hu w;refine⟨z,?_,h4⟩;simp only[execOp,ho,Zj];rw[show evT t x'=_ from H1,show evT t y'=_ from H2,eqGuard_at_string];simp[h3]
   .cases hu
  .cases hr
 .cases hr
theorem pure_un(hG:GOk C m)(he:ERel m e t){op:UnOp}{x:Opd}{x':Operand}{ty:TypeId}(ho:o.op = .unOp op ty x')(hx:opdM C x x'=true)
  (hr:I.pure e (.un op x)=some v) (w:World):jby P m t o v w:=by
 simp only[I.pure]at hr;split at hr
 .next a h1=>
  have H1:=jah (t:=t) hG he hx h1;split at hr
  .next u hu=>
   cases hr;unfold unOp at hu;split at hu
   .cases hu;refine⟨_,?_,rfl⟩;simp[execOp,ho,show evT t x'=_ from H1,Op.unary,Op.intArith]
   .next k n=>
    simp only[jdX,Option.some.injEq]at hu;subst hu;refine⟨_,?_,rfl⟩;simp[execOp,ho,show evT t x'=_ from H1,Op.unary,Op.intBits]
   .cases hu;refine⟨_,?_,rfl⟩;simp[execOp,ho,show evT t x'=_ from H1,Op.unary]
   .cases hu
  .cases hr
 .cases hr
theorem jkU(hT:TOk P C)(hG:GOk C m)(he:ERel m e t){k:IntKind}{x:Opd}{x':Operand}{s d:TypeId}(ho:o.op = .convert s d x')(hx:opdM C x x'=true)
  (hd:isU C d (fun|.int k'=>k == k'|_=>false)=true) (hs:isU C s (fun|.int _=>true|_=>false)=true)
  (hr:I.pure e (.convInt k x)=some v) (w:World):jby P m t o v w:=by
 simp only[I.pure]at hr;split at hr
 .next k0 n h1=>
  cases hr;have H1:=jah (t:=t) hG he hx h1;obtain⟨u,dd,h2,h3,h4⟩:=jb8 hT hd;obtain⟨u',ds,h5,h6,h7⟩:=jb8 hT hs;refine⟨_,?_,rfl⟩;cases u with
  |int k1=>
   cases dd with
   |int k2=>
    simp[jal]at h4 h2;subst h4 h2;cases ds<;>cases u'<;>simp[jal]at h7 h5;simp[execOp,ho,show evT t x'=_ from H1,convert,Zm h3,Zm h6,Conv.intToInt]
   |_=>simp[jal]at h4
  |_=>simp at h2
 .cases hr
theorem jnB(hG:GOk C m)(he:ERel m e t){f:FuncId}{cs:List Opd}{first cap:Array Operand}(ho:o.op = .makeFunc (.func f) first cap)(h0:first.isEmpty=true)(hx:jcc C cs cap.toList=true)
  (hr:I.pure e (.mkClo f cs)=some v) (w:World):jby P m t o v w:=by
 simp only[I.pure]at hr;split at hr
 .next l h1=>
  cases hr;have H:=jeZ (t:=t) hG he hx h1;have:first = #[]:=by simpa using h0
  subst this;refine⟨.func (.func f) #[] (cap.map (evT t)),?_,_,rfl,by simpa using H⟩;simp[execOp,ho,Instr.makeFunc]
 .cases hr
theorem jnC(hG:GOk C m)(he:ERel m e t){f:FuncId}{x:Opd}{first cap:Array Operand}(ho:o.op = .makeFunc (.func f) first cap)(hx:jcc C [x] first.toList=true)(h0:cap.isEmpty=true)
  (hr:I.pure e (.mkBcl f x)=some v) (w:World):jby P m t o v w:=by
 simp only[I.pure]at hr;split at hr
 .next u h1=>
  cases hr;have H:=jeZ (t:=t) hG he hx (vs:=[u]) (by simp only[evs,h1]);have:cap = #[]:=by simpa using h0
  subst this;obtain⟨y,s,e1,h2,e3⟩:=H;have lT:s=[]:=e3;subst lT;have e4:first.map (evT t) = #[y]:=by
   apply Array.ext';simpa using e1
  exact⟨.func (.func f) #[y] #[],by simp[execOp,ho,Instr.makeFunc,e4],y,rfl,h2⟩
 .cases hr
theorem jkT(hG:GOk C m)(he:ERel m e t){x:Opd}{x':Operand}{i:Nat}(ho:o.op = .extract x' i)(hx:opdM C x x'=true)
  (hr:I.pure e (.extract x i)=some v) (w:World):jby P m t o v w:=by
 simp only[I.pure]at hr;split at hr
 .next l h1=>
  have H1:=jah (t:=t) hG he hx h1;obtain⟨xs,e1,h2⟩:=H1;split at hr
  .next u hu=>
   cases hr;obtain⟨z,h3,h4⟩:=h2.get hu;have h5:xs[i]?=some z:=by rw[<- h3];simp
   refine⟨z,?_,h4⟩;simp[execOp,ho,e1,Instr.extract,h5]
  .cases hr
 .cases hr
end
end Am
namespace Am
open Go
section
variable{P:Program}{C:Cx}{m:Mp}{e:Env}{t:Array Value}{o:Oper}{v:V}
theorem jc5(β o n:Nat):(⟨β,o,none⟩:Addr).add n=⟨β,o+n,none⟩:=by
 unfold Addr.add;split
 .next h=>subst h;rfl
 .rfl
theorem jds{n:Int}{k:Nat}:jgx n k=true↔0<=n/\n<k:=by
 cases n with
 |ofNat a=>
  show Nat.blt a k=true↔0<=(a:Int)/\(a:Int)<k;simp only[Nat.blt,zQ];omega
 |negSucc a=>
  have:=Int.negSucc_lt_zero a;show false=true↔_;constructor
  .intro h;cases h
  .intro h;omega
theorem upto_iff{n:Int}{k:Nat}:upto n k=true↔0<=n/\n<=k:=by
 cases n with
 |ofNat a=>
  show Nat.ble a k=true↔0<=(a:Int)/\(a:Int)<=k;simp only[zQ];omega
 |negSucc a=>
  have:=Int.negSucc_lt_zero a;show false=true↔_;constructor
  .intro h;cases h
  .intro h;omega
theorem joW:∀{fs:List (Nat×TypeId)} {gs:List Field} {i:Nat} {q:Nat×TypeId},jc2 fs gs=true->fs[i]?=some q ->
  ∃f,gs[i]?=some f/\f.offset=q.1/\f.type=q.2
 |[],_,_,_,_,h=>by simp at h
 |(a,b)::r,[],_,_,h,_=>by simp[jc2]at h
 |(a,b)::r,f::s,0,q,h,hq=>by
  simp at hq;subst hq;simp only[jc2,zp,nbeq,zF]at h;exact⟨f,rfl,h.1.1.1.symm,h.1.1.2.symm⟩
 |(a,b)::r,f::s,i+1,q,h,hq=>by
  simp at hq;simp only[jc2,zp]at h;simpa using joW h.2 hq
theorem jnF(hT:TOk P C)(hG:GOk C m)(he:ERel m e t){off:Nat}{x:Opd}{x':Operand}{ty:TypeId}{i:Nat}(ho:o.op = .fieldAddr ty x' i)(hx:opdM C x x'=true)
  (hu:isU C ty (fun
   |.struct fs=>match fs[i]? with
    |some (o,ft)=>Nat.beq o off&&(match C.T.at_ ft with|some j=>!(Nat.beq j.size 0)|none=>false)
    |none=>false
   |_=>false)=true) (hr:I.pure e (.faddr off x)=some v) (w:World):jby P m t o v w:=by
 simp only[I.pure]at hr;split at hr
 .next b o1 h1=>
  cases hr;have H1:=jah (t:=t) hG he hx h1;obtain⟨l,h2,e1⟩:=H1;obtain⟨u,dd,h3,h4,h5⟩:=jb8 hT hu;cases u with
  |struct fs=>
   cases dd with
   |struct gs=>
    simp only[jal]at h5;simp only at h3;split at h3
    .next o2 ft hf=>
     simp only[zp,nbeq,zF]at h3;obtain⟨h6,h7⟩:=h3;split at h7
     .next j hj=>
      obtain⟨f,hg,h8,h9⟩:=joW h5 hf;have jB:gs[i]?=some f:=by rw[<- hg];simp
      obtain⟨info,d,F⟩:=hT.facts hj;have hs:info.size≠0:=by rw[F.size];simpa using h7
      refine⟨.pointer (some ⟨l.β,l.d+o1+f.offset,none⟩),?_,l,h2,by rw[h8,<- h6];simp;omega⟩;have mT:f.type=ft:=h9;simp[execOp,ho,e1,Instr.fieldAt,Zm h4,jB,Instr.sureAddr,fieldPlace,Go.sizeOf,typeInfo,mT,F.hinfo,hs,jc5]
     .cases h7
    .cases h3
   |_=>simp[jal]at h5
  |_=>simp at h3
 .cases hr
theorem pure_ixaA(hT:TOk P C)(hG:GOk C m)(he:ERel m e t){ln sz:Nat}{x i:Opd}{x' i':Operand}{ty:TypeId}(ho:o.op = .indexAddr ty x' i')(hx:opdM C x x'=true)(hi:opdM C i i'=true)
  (hu:isU C ty (fun|.array k e=>Nat.beq k ln&&jb3 C e sz|_=>false)=true) (hr:I.pure e (.ixaA ln sz x i)=some v) (w:World):jby P m t o v w:=by
 simp only[I.pure]at hr;split at hr
 .next b o1 k n h1 h2=>
  simp only[zH]at hr;split at hr
  .next hb=>
   cases hr;have kB:=jds.1 hb;obtain⟨l,h3,e1⟩:=jah (t:=t) hG he hx h1;have e2:evT t i' = .int k n:=jah hG he hi h2;obtain⟨u,dd,h4,h5,h6⟩:=jb8 hT hu;cases u with
   |array k2 e2'=>
    cases dd with
    |array k3 e3=>
     simp only[jal,zp,nbeq,zF]at h6 h4;obtain⟨rfl,rfl⟩:=h6;obtain⟨rfl,h7⟩:=h4;refine⟨.pointer (some ⟨l.β,l.d+o1+n.toNat*sz,none⟩),?_,l,h3,by simp;omega⟩;simp only[execOp,ho,Zj,Instr.indexAt,e1,e2,asIntOf,Zm h5,Zk,Zl,Instr.sureAddr];simp[kB,ja8 hT h7,jc5]
    |_=>simp[jal]at h6
   |_=>simp at h4
  .cases hr
 .cases hr
theorem pure_ixaS(hT:TOk P C)(hG:GOk C m)(he:ERel m e t){sz:Nat}{x i:Opd}{x' i':Operand}{ty:TypeId}(ho:o.op = .indexAddr ty x' i')(hx:opdM C x x'=true)(hi:opdM C i i'=true)
  (hu:isU C ty (fun|.slice e=>jb3 C e sz|_=>false)=true) (hr:I.pure e (.ixaS sz x i)=some v) (w:World):jby P m t o v w:=by
 simp only[I.pure]at hr;split at hr
 .next b o1 ln cp k n h1 h2=>
  simp only[zH]at hr;split at hr
  .next hb=>
   cases hr;have kB:=jds.1 hb;obtain⟨l,o',c',h3,e1,h8,h9,_⟩:=jah (t:=t) hG he hx h1;have e2:evT t i' = .int k n:=jah hG he hi h2;have qC:=h9 om;subst qC;obtain⟨u,dd,h4,h5,h6⟩:=jb8 hT hu;cases u with
   |slice e2'=>
    cases dd with
    |slice e3=>
     simp only[jal,nbeq,zF]at h6 h4;subst h6;refine⟨.pointer (some ⟨l.β,l.d+o1+n.toNat*sz,none⟩),?_,l,h3,by simp;omega⟩;simp only[execOp,ho,Zj,Instr.indexAt,e1,e2,asIntOf,Zm h5,Zk,Zl];simp[kB,ja8 hT h4,jc5]
    |_=>simp[jal]at h6
   |_=>simp at h4
  .cases hr
 .cases hr
theorem jmN(hT:TOk P C){ty:TypeId}{n:Option Nat}(hp:jf7 C ty n=true){l:List V}{xs:Array Value}(hl:jas m l xs.toList){off:Nat}(hr:part l off n=some v)(w:World) :
  ∃z,(Go.part ty xs off).run P w = .ok z w/\VRel m v z:=by
 cases n with
 |none=>
  simp only[part]at hr;obtain⟨z,h1,h2⟩:=hl.get hr;have h3:xs[off]?=some z:=by rw[<- h1];simp
  exact⟨z,by simp[Go.part,jgI hT hp,h3],h2⟩
 |some n=>
  simp only[part,zH,zQ]at hr;split at hr
  .next qH=>
   cases hr;obtain⟨h1,h2⟩:=jgH hT hp w;refine⟨.agg (xs.extract off (off+n)),by simp[Go.part,h1,h2],_,rfl,?_⟩;have:(xs.extract off (off+n)).toList=(xs.toList.drop off).take n:=by
    simp[Array.toList_extract]
   rw[this];exact (hl.drop off).take n
  .cases hr
theorem jnE(hT:TOk P C)(hG:GOk C m)(he:ERel m e t){off:Nat}{n:Option Nat}{x:Opd}{x':Operand}{ty:TypeId}{i:Nat}(ho:o.op = .field ty x' i)(hx:opdM C x x'=true)
  (hu:isU C ty (fun
   |.struct fs=>match fs[i]? with
    |some (o,ft)=>Nat.beq o off&&jf7 C ft n
    |none=>false
   |_=>false)=true) (hr:I.pure e (.field off n x)=some v) (w:World):jby P m t o v w:=by
 simp only[I.pure]at hr;split at hr
 .next l0 h1=>
  obtain⟨xs,e1,h2⟩:=jah (t:=t) hG he hx h1;split at hr
  .next u0 vM=>
   cases hr;obtain⟨u,dd,h3,h4,h5⟩:=jb8 hT hu;cases u with
   |struct fs=>
    cases dd with
    |struct gs=>
     simp only[jal]at h5;simp only at h3;split at h3
     .next o2 ft hf=>
      simp only[zp,nbeq,zF]at h3;obtain⟨h6,h7⟩:=h3;obtain⟨f,hg,h8,h9⟩:=joW h5 hf;have jB:gs[i]?=some f:=by rw[<- hg];simp
      have Ua:f.offset=off:=h8.trans h6;have mT:f.type=ft:=h9;obtain⟨z,rH,nI⟩:=jmN hT h7 h2 vM w;refine⟨z,?_,nI⟩;simp[execOp,ho,e1,Instr.field,Zm h4,jB,asAgg,Ua,mT,rH]
     .cases h3
    |_=>simp[jal]at h5
   |_=>simp at h3
  .cases hr
 .cases hr
theorem pure_ixA(hT:TOk P C)(hG:GOk C m)(he:ERel m e t){ln sz:Nat}{n:Option Nat}{x i:Opd}{x' i':Operand}{ty:TypeId}(ho:o.op = .index ty x' i')(hx:opdM C x x'=true)(hi:opdM C i i'=true)
  (hu:isU C ty (fun|.array k e=>Nat.beq k ln&&jb3 C e sz&&jf7 C e n|_=>false)=true) (hr:I.pure e (.ixA ln sz n x i)=some v) (w:World):jby P m t o v w:=by
 simp only[I.pure]at hr;split at hr
 .next l0 k0 k h1 h2=>
  simp only[zH]at hr;split at hr
  .next hb=>
   have kB:=jds.1 hb;split at hr
   .next u0 vM=>
    cases hr;obtain⟨xs,e1,h3⟩:=jah (t:=t) hG he hx h1;have e2:evT t i' = .int k0 k:=jah hG he hi h2;obtain⟨u,dd,h4,h5,h6⟩:=jb8 hT hu;cases u with
    |array k2 e2'=>
     cases dd with
     |array k3 e3=>
      simp only[jal,zp,nbeq,zF]at h6 h4;obtain⟨rfl,rfl⟩:=h6;obtain⟨⟨rfl,h7⟩,h8⟩:=h4;obtain⟨z,h9,jB⟩:=jmN hT h8 h3 vM w;refine⟨z,?_,jB⟩;simp only[execOp,ho,Zj,Instr.index,e1,e2,asIntOf,Zm h5,Zk,Zl];simp[kB,ja8 hT h7,h9]
     |_=>simp[jal]at h6
    |_=>simp at h4
   .cases hr
  .cases hr
 .cases hr
theorem jiS(s:List UInt8)(i:Nat):(ByteArray.mk ⟨s⟩)[i]?=s[i]?:=by
 show (if h:i<(ByteArray.mk ⟨s⟩).size then some (ByteArray.mk ⟨s⟩)[i] else none)=s[i]?;by_cases h:i<s.length
 .rw[dif_pos (by simpa[ByteArray.size] using h)];simp[h];rfl
 .rw[dif_neg (by simpa[ByteArray.size] using h)];simp;omega
theorem jnD(hT:TOk P C)(hG:GOk C m)(he:ERel m e t){x i:Opd}{x' i':Operand}{ty:TypeId}(ho:o.op = .index ty x' i')(hx:opdM C x x'=true)(hi:opdM C i i'=true)
  (hu:isU C ty (fun|.str=>true|_=>false)=true) (hr:I.pure e (.ixStr x i)=some v) (w:World):jby P m t o v w:=by
 simp only[I.pure]at hr;split at hr
 .next s k n h1 h2=>
  simp only[zH]at hr;split at hr
  .next hb=>
   have kB:=jds.1 hb;split at hr
   .next b fD=>
    cases hr;have e1:evT t x' = .string ⟨⟨s⟩⟩:=jah hG he hx h1;have e2:evT t i' = .int k n:=jah hG he hi h2;obtain⟨u,dd,h4,h5,h6⟩:=jb8 hT hu;cases u<;>simp at h4;cases dd<;>simp[jal]at h6;refine⟨.int .u8 b.toNat,?_,rfl⟩;simp only[execOp,ho,Zj,Instr.index,e1,e2,asIntOf,Zm h5,Zk,Zl];rw[zD kB.1,jiS,fD];rfl
   .cases hr
  .cases hr
 .cases hr
theorem jlv(f:V->V->Option V)(g:Value->Value->Sem Value)(bR:∀a b c x y,f a b=some c->VRel m a x->VRel m b y -> ∀w,∃z,(g x y).run P w = .ok z w/\VRel m c z) :
  ∀(l:List V) (xs:List Value) (a:V) (x:Value) (w:World),jas m l xs->VRel m a x->jnS f a l=some v -> ∃z,(xs.foldlM g x).run P w = .ok z w/\VRel m v z
 |[],xs,a,x,w,hl,ha,hr=>by
  rw[show xs=[] from hl];simp[jnS]at hr;subst hr;exact⟨x,by simp,ha⟩
 |b::l,xs,a,x,w,hl,ha,hr=>by
  obtain⟨y,s,rfl,h2,h3⟩:=hl;simp only[jnS]at hr;split at hr
  .next c hc=>
   obtain⟨z,h4,h5⟩:=bR a b c x y hc ha h2 w;obtain⟨z',h6,h7⟩:=jlv f g bR l s c z w h3 h5 hr;exact⟨z',by simp[h4,h6],h7⟩
  .cases hr
theorem jiu(hG:GOk C m)(he:ERel m e t){xs:List Opd}{ys:Array Operand}{vs:List V}(hM:jcc C xs ys.toList=true)(hx:evs e xs=some vs):jas m vs (ys.map (evT t)).toList:=by
 have:=jeZ (t:=t) hG he hM hx;simpa using this
theorem pure_minI(hG:GOk C m)(he:ERel m e t){xs:List Opd}{c:Go.Call}(ho:o.op = .call c)(hc:c.callee = .builtin .min)(hx:jcc C xs c.args.toList=true)
  (hr:I.pure e (.minI xs)=some v) (w:World):jby P m t o v w:=by
 simp only[I.pure]at hr;split at hr
 .next a r h1=>
  split at hr
  .next u hu=>
   cases hr;have H:=jiu (t:=t) hG he hx h1;obtain⟨x,s,h2,h3,h4⟩:=H;have bR:∀(a b c:V) (x y:Value),minV a b=some c->VRel m a x->VRel m b y -> ∀w,∃z,(Builtin.min2 x y).run P w = .ok z w/\VRel m c z:=by
    intro a b c x y hm ha hb w;unfold minV at hm;split at hm
    .simp only[zH,beq_iff_eq]at hm;split at hm
     .cases hm;rw[show x=_ from ha,show y=_ from hb];exact⟨_,rfl,rfl⟩
     .cases hm
    .cases hm
   obtain⟨z,h5,h6⟩:=jlv (P:=P) minV Builtin.min2 bR r s a x w h4 h3 hu;refine⟨z,?_,h6⟩;simp only[execOp,ho,Zj,resolve,hc,Zk,Zl,invoke,builtin,Builtin.min_,h2,h5]
  .cases hr
 .cases hr
theorem pure_lenC(hT:TOk P C){n:Int}{c:Go.Call}(ho:o.op = .call c)(hc:c.callee = .builtin .len)(h0:c.args.isEmpty=false)(hA:argT C c.argTypes 0 (lenT C n)=true)(w:World):jby P m t o (.i n) w:=by
 unfold argT at hA;split at hA
 .next ty cJ=>
  obtain⟨u,dd,h1,h2,h3⟩:=jb8 hT hA;refine⟨.int .i64 n,?_,rfl⟩;have w8:0<(c.args.map (evT t)).size:=by
   rw[Array.size_map];rcases Nat.eq_zero_or_pos c.args.size with h|h
   .rw[Array.size_eq_zero_iff.1 h]at h0;simp at h0
   .exact h
  have hg:(c.args.map (evT t))[0]?=some (c.args.map (evT t))[0]:=Array.getElem?_eq_getElem w8;simp only[execOp,ho,Zj,resolve,hc,Zk,Zl,invoke,builtin,Builtin.len_,cJ,hg,Zm h2];cases u with
  |array k _=>
   cases dd<;>simp[jal]at h3;simp[lenT]at h1;simp[goInt,h1,h3]
  |ptr a=>
   cases dd<;>simp[jal]at h3;subst h3;simp only[lenT]at h1;obtain⟨u',dd',h4,h5,h6⟩:=jb8 hT h1;cases u'<;>simp at h4;cases dd'<;>simp[jal]at h6;simp[Zm h5,goInt,h4,h6]
  |_=>simp[lenT]at h1
 .cases hA
end
end Am
namespace Am
open Go
section
variable{P:Program}{C:Cx}{m:Mp}{e:Env}{t:Array Value}{o:Oper}{v:V}
theorem asInt_rel{u:V}{z:Value}{i:Int}(h:VRel m u z)(hi:asInt u=some i):∃k,z = .int k i:=by
 cases u<;>simp[asInt]at hi;subst hi;exact⟨_,h⟩
theorem jmB{u:V}{z:Value}{y y' n:Nat}(h:VRel m u z)(hn:sB u y=some n)(Th:y<=y')(code:BoundsCode)(w:World) :
  (Instr.sliceBound z y' code).run P w = .ok n w/\n<=y:=by
 unfold sB at hn;split at hn
 .next i hi=>
  simp only[zH]at hn;split at hn
  .next hu=>
   cases hn;obtain⟨k,rfl⟩:=asInt_rel h hi;have:=upto_iff.1 hu;have h2:0<=i/\i<=(y':Int):=by omega
   exact⟨by simp[Instr.sliceBound,asIntOf,h2],by omega⟩
  .cases hn
 .cases hn
def jpj(m:Mp)(v:Option V)(x:Option Value):Prop:=(v=none/\x=none)\/∃u z,v=some u/\x=some z/\VRel m u z
theorem jea{isS:Bool}{ln cap capc:Nat}{lo hi mx:Option V}{lo' cA mx':Option Value}(wE:jpj m lo lo')(xE:jpj m hi cA)(eL:jpj m mx mx')(hc:cap<=capc){l r mm:Nat}
  (h:jce ln cap lo hi mx=some (l,r,mm)) (w:World) :
  (Instr.sliceBounds isS ln capc lo' cA mx').run P w = .ok (l,r,if mx.isSome then mm else capc) w/\l<=r/\(hi.isSome->r<=mm)/\(hi=none->r=ln/\mx=none)/\mm<=cap/\(mx=none->mm=cap):=by
 unfold jce at h;split at h
 .cases h
 next m0 gC=>
 split at h
 .cases h
 next h0 hh0=>
 split at h
 .cases h
 next l0 qE=>
 cases h;have R1:(match (generalizing:=false) mx' with
   |some v=>Instr.sliceBound v capc (if isS then .slice3Acap else .slice3Alen)
   |none=>pure capc).run P w = .ok (if mx.isSome then mm else capc) w/\mm<=cap/\(mx=none->mm=cap):=by
  rcases eL with⟨rfl,rfl⟩|⟨u,z,rfl,rfl,hz⟩
  .cases gC;exact⟨rfl,zq _,fun _=>rfl⟩
  .obtain⟨a,b⟩:=jmB (P:=P) hz gC hc (if isS then .slice3Acap else .slice3Alen) w;exact⟨a,b,fun h=>by cases h⟩
 obtain⟨R1,B1,B2⟩:=R1;have fG:mm<=(if mx.isSome then mm else capc):=by split<;>omega
 have R2:(match (generalizing:=false) cA,mx' with
   |some v,some _=>Instr.sliceBound v (if mx.isSome then mm else capc) .slice3B
   |some v,none=>Instr.sliceBound v (if mx.isSome then mm else capc) (if isS then .sliceAcap else .sliceAlen)
   |none,none=>pure ln
   | none,some _=>stuck "Slice: max without high").run P w = .ok r w/\(hi.isSome->r<=mm)/\(hi=none->r=ln/\mx=none):=by
  rcases xE with⟨rfl,rfl⟩|⟨u,z,rfl,rfl,hz⟩
  .rcases eL with⟨rfl,rfl⟩|⟨u,z,rfl,rfl,hz⟩
   .cases hh0;exact⟨rfl,fun h=>Bool.noConfusion h,fun _=>⟨rfl,rfl⟩⟩
   .cases hh0
  .rcases eL with⟨rfl,rfl⟩|⟨u',z',rfl,rfl,iA⟩
   .obtain⟨a,b⟩:=jmB (P:=P) hz hh0 fG (if isS then .sliceAcap else .sliceAlen) w;exact⟨a,fun _=>b,fun h=>by cases h⟩
   .obtain⟨a,b⟩:=jmB (P:=P) hz hh0 fG .slice3B w;exact⟨a,fun _=>b,fun h=>by cases h⟩
 obtain⟨R2,B3,B4⟩:=R2;have R3:(match (generalizing:=false) lo' with
   |some v=>Instr.sliceBound v r (if mx'.isSome then .slice3C else .sliceB)
   |none=>pure 0).run P w = .ok l w/\l<=r:=by
  rcases wE with⟨rfl,rfl⟩|⟨u,z,rfl,rfl,hz⟩
  .cases qE;exact⟨rfl,zY _⟩
  .exact jmB (P:=P) hz qE (zq _) (if mx'.isSome then .slice3C else .sliceB) w
 obtain⟨R3,B5⟩:=R3;refine⟨?_,B5,B3,B4,B1,B2⟩;generalize (if mx.isSome=true then mm else capc)=mc at *;unfold Instr.sliceBounds;cases mx'<;>cases cA<;>cases lo'<;>simp only[Zj,Zl,Zk,Result.ok.injEq,and_true]at R1 R2 R3 ⊢ <;> simp_all
theorem ji3(hG:GOk C m)(he:ERel m e t){x:Option Opd}{y:Option Operand}{v:Option V}(hM:opdO C x y=true)(hx:evo e x=some v):jpj m v (y.map (evT t)):=jnK hG he hM hx
theorem jkx(s:List UInt8)(l r:Nat):(ByteArray.mk ⟨s⟩).extract l r=ByteArray.mk ⟨(s.take r).drop l⟩:=by
 apply ByteArray.ext;rw[ByteArray.data_extract];apply Array.ext';simp[List.drop_take]
theorem jlV(hT:TOk P C)(hG:GOk C m)(he:ERel m e t){x:Opd}{lo hi:Option Opd}{x':Operand}{lo' cA:Option Operand}{ty:TypeId}(ho:o.op = .slice ty x' lo' cA none)(hx:opdM C x x'=true)
  (wE:opdO C lo lo'=true) (xE:opdO C hi cA=true) (hu:isU C ty (fun|.str=>true|_=>false)=true) (hr:I.pure e (.sliceS x lo hi)=some v) (w:World):jby P m t o v w:=by
 simp only[I.pure]at hr;split at hr
 .next s a b h1 h2 h3=>
  split at hr
  .next l r mm hb=>
   cases hr;have e1:evT t x' = .string ⟨⟨s⟩⟩:=jah hG he hx h1;obtain⟨u,dd,h4,h5,h6⟩:=jb8 hT hu;cases u<;>simp at h4;cases dd<;>simp[jal]at h6;have eL:jpj m none none:= .inl ⟨rfl,rfl⟩;obtain⟨h7,_⟩:=jea (P:=P) (isS:=false) (ji3 hG he wE h2) (ji3 hG he xE h3) eL (zq _) hb w;refine⟨.string ⟨⟨(s.take r).drop l⟩⟩,?_,rfl⟩;have hs:(ByteArray.mk ⟨s⟩).size=s.length:=by simp[ByteArray.size]
   simp only[execOp,ho,Zj,Instr.sliceAt,Zm h5,Zk,Instr.slice,e1,Option.map_none,Option.isSome_none,zR,if_false,hs];rw[h7];simp[jkx]
  .cases hr
 .cases hr
theorem jn9(hT:TOk P C)(hG:GOk C m)(he:ERel m e t){sz:Nat}{x:Opd}{lo hi mx:Option Opd}{x':Operand}{lo' cA mx':Option Operand}{ty:TypeId}(ho:o.op = .slice ty x' lo' cA mx')
  (hx:opdM C x x'=true) (wE:opdO C lo lo'=true) (xE:opdO C hi cA=true) (eL:opdO C mx mx'=true) (hu:isU C ty (fun|.slice e=>jb3 C e sz|_=>false)=true)
  (hr:I.pure e (.slice sz x lo hi mx)=some v) (w:World):jby P m t o v w:=by
 simp only[I.pure]at hr;split at hr
 .next a ln cap lov hiv mxv h1 h2 h3 h4=>
  split at hr
  .next l r mm hb=>
   have H:=jah (t:=t) hG he hx h1;obtain⟨u,dd,h5,h6,h7⟩:=jb8 hT hu;cases u<;>simp at h5
   next e2=>
   cases dd<;>simp[jal]at h7
   next e3=>
   subst h7;have cX:=ji3 (t:=t) hG he eL h4;have dX:=ji3 (t:=t) hG he wE h2;have eX:=ji3 (t:=t) hG he xE h3;cases a with
   |none=>
    cases hr;obtain⟨rfl,rfl,e1⟩:=H;obtain⟨h8,h9,jB,rH,nI,cR⟩:=jea (P:=P) (isS:=true) dX eX cX (zq _) hb w;have fG:mm=0:=by simp[Cap.room]at nI;exact nI
    have cH:r=0:=by
     cases hiv with
     |none=>exact (rH rfl).1
     |some _=>have:=jB rfl;omega
    have qE:l=0:=by omega
    subst fG cH qE;refine⟨.slice none 0 0,?_,rfl,rfl,rfl⟩;simp only[execOp,ho,Zj,Instr.sliceAt,Zm h6,Zk,Instr.slice,e1];simp only[Cap.room]at h8;rw[h8];simp[ja8 hT h5,Cap.room]
   |some a=>
    obtain⟨b,o1⟩:=a;obtain⟨loc,o',c',h8,e1,h9,jB,rH,nI,fX⟩:=H;have hc:cap.room ln<=c':=by
     cases cap with
     |fix k=>rw[rH k rfl];exact zq _
     |grow q=>exact h9
     |least q k=>exact (fX q k rfl).1
    obtain⟨cR,Uh,Va,Wa,Vh,Xa⟩:=jea (P:=P) (isS:=true) dX eX cX hc hb w;have Wh:r<=(if mxv.isSome then mm else c'):=by
     cases hiv with
     |none=>
      obtain⟨lO,mO⟩:=Wa rfl;subst mO;rw[lO];exact h9
     |some q=>
      have:=Va rfl;split<;>omega
    generalize aF:(if mxv.isSome then mm else c')=mc at *;have Xh:mc<=c':=by rw[<- aF];split<;>omega
    have nO:(execOp (evT t) o).run P w = .ok (.value (.slice (some (if mc=l then o' else o'.add (l*sz))) (r-l) (mc-l))) w:=by
     simp only[execOp,ho,Zj,Instr.sliceAt,Zm h6,Zk,Instr.slice,e1];rw[cR];simp only[Zk,ja8 hT h5,Zj,Option.map_some];by_cases sF:mc=l<;>simp[sF]
    refine⟨_,nO,?_⟩;have key:∀cp,v = .slice (some (b,o1+l*sz)) (r-l) cp->(∀k,cp = .fix k->mc-l=k)->(∀q,cp = .grow q->o1+l*sz+(mc-l)*q<=loc.ext)->(∀q k,cp = .least q k->k<=mc-l/\o1+l*sz+(mc-l)*q<=loc.ext) ->
      VRel m v (.slice (some (if mc=l then o' else o'.add (l*sz))) (r-l) (mc-l)):=by
     rintro cp rfl hk hq iD;refine⟨loc,_,_,h8,rfl,by omega,?_,hk,hq,iD⟩;intro d5;have sF:mc≠l:=by omega
     rw[zC sF];rw[jB om,jc5,Nat.add_assoc]
    cases cap with
    |grow q=>
     cases mxv with
     |none=>
      simp only[zH,nbeq,zF]at hr;split at hr
      .next hq=>
       subst hq;cases hr;refine key _ rfl (fun k hk=>by cases hk) (fun q' f9=>?_) (fun _ _ e=>by cases e);cases f9;have nT:mc=c':=by rw[<- aF];rfl
       have:=nI _ rfl;subst nT;simp only at this;have lO:l*q+(mc-l)*q=mc*q:=by rw[<- Nat.add_mul];congr 1;omega
       omega
      .cases hr
     |some mv=>
      cases hr;refine key _ rfl (fun k hk=>?_) (fun q' f9=>by cases f9) (fun _ _ e=>by cases e);cases hk;simp at aF;subst aF;rfl
    |least q k=>
     cases mxv with
     |none=>
      simp only[zH,nbeq,zF]at hr;split at hr
      .next hq=>
       subst hq;cases hr;refine key _ rfl (fun k hk=>by cases hk) (fun _ e=>by cases e) (fun q' k' f9=>?_);cases f9;have nT:mc=c':=by rw[<- aF];rfl
       have mO:=fX _ _ rfl;subst nT;simp only at mO;have lO:l*q+(mc-l)*q=mc*q:=by rw[<- Nat.add_mul];congr 1;omega
       omega
      .cases hr
     |some mv=>
      cases hr;refine key _ rfl (fun k hk=>?_) (fun q' f9=>by cases f9) (fun _ _ e=>by cases e);cases hk;simp at aF;subst aF;rfl
    |fix k=>
     have dE:v = .slice (some (b,o1+l*sz)) (r-l) (.fix (mm-l)):=by
      cases mxv<;>(cases hr;rfl)
     refine key _ dE (fun k' hk=>?_) (fun q' f9=>by cases f9) (fun _ _ e=>by cases e);cases hk;cases mxv with
     |some q=>simp at aF;subst aF;rfl
     |none=>
      have:=Xa rfl;have mO:=rH k rfl;simp at aF;simp[Cap.room]at this;omega
  .cases hr
 .cases hr
end
end Am
