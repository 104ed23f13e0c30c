/- Our own library, part 7. -/
import Derived.Laws.IdiomStrings
import Derived.Laws.BytesString
import Derived.Test.YtphpefladchggaaGreatDoorV06
set_option maxHeartbeats 8000000
set_option maxRecDepth 800
set_option linter.all false
namespace Am
open Go
section
variable{P:Program}{C:Cx}{m:Mp}{h:H}{w:World}{e:Env}{t:Array Value}{o:Oper}{v:V}
theorem jn7(hT:TOk P C)(hG:GOk C m)(hr:HRel P C m h w)(he:ERel m e t){a:Opd}{a':Operand}{ty:TypeId}(ho:o.op = .load ty a')(ha:opdM C a a'=true)(hp:jf7 C ty none=true)
  (hv:I.read e h (.load1 a)=some v):jby P m t o v w:=by
 simp only[I.read]at hv;split at hv
 .next b off h1=>
  split at hv
  .next u hu=>
   cases hv;obtain⟨l,hl,e1⟩:=jah (t:=t) hG he ha h1;obtain⟨x,h2,h3⟩:=jli hr hu hl;refine⟨x,?_,h3⟩;simp only[execOp,ho,Zj,Instr.loadAt,e1,Instr.sureAddr,Zl,Zk,loadVar,jgI hT hp];simp only[zR,if_false];rw[h2];rfl
  .cases hv
 .cases hv
theorem jn6(hT:TOk P C)(hG:GOk C m)(hr:HRel P C m h w)(he:ERel m e t){n:Nat}{a:Opd}{a':Operand}{ty:TypeId}(ho:o.op = .load ty a')(ha:opdM C a a'=true)(hp:jf7 C ty (some n)=true)
  (hv:I.read e h (.loadN n a)=some v):jby P m t o v w:=by
 simp only[I.read]at hv;split at hv
 .next b off h1=>
  split at hv
  .next u hu=>
   cases hv;obtain⟨l,hl,e1⟩:=jah (t:=t) hG he ha h1;obtain⟨xs,h2,h3⟩:=jkl hr hu hl;obtain⟨h4,h5⟩:=jgH hT hp w;refine⟨.agg xs,?_,xs,rfl,h3⟩;simp only[execOp,ho,Zj,Instr.loadAt,e1,Instr.sureAddr,Zl,Zk,loadVar,h4,if_true,h5,h2]
  .cases hv
 .cases hv
theorem jju(hT:TOk P C){ty:TypeId}(h:jl1 C ty=true):∃el,P.underlying ty=some (.slice el)/\P.underlying el=some (.int .u8):=by
 obtain⟨u,dd,h1,h2,h3⟩:=jb8 hT h;cases u<;>simp at h1;cases dd<;>simp[jal]at h3;subst h3;obtain⟨u',dd',h4,h5,h6⟩:=jb8 hT h1;refine⟨_,h2,?_⟩;cases u' with
 |int k=>
  cases k<;>simp at h4;cases dd'<;>simp[jal]at h6;subst h6;exact h5
 |_=>simp at h4
theorem jnZ{a:V}{x:Value}{b:UInt8}(h:VRel m a x)(hb:jhr a=some b):x = .int .u8 (b.toNat:Int):=by
 cases a with
 |int k n=>
  cases k<;>simp only[jhr,zH]at hb<;>try (cases hb;done)
  split at hb
  .next hn=>
   cases hb;have:=jds.1 hn;rw[show x=_ from h];congr 1;simp[UInt8.toNat_ofNat'];omega
  .cases hb
 |_=>simp[jhr]at hb
theorem ji8:∀{l:List V} {s:List UInt8},bytesOf l=some s->l.length=s.length/\∀(k:Nat) (b:UInt8),s[k]?=some b -> ∃a,l[k]?=some a/\jhr a=some b
 |[],s,hb=>by simp[bytesOf]at hb;subst hb;exact⟨rfl,by simp⟩
 |a::l,s,hb=>by
  simp only[bytesOf]at hb;split at hb
  .next b s' vF dB=>
   cases hb;obtain⟨h1,h2⟩:=ji8 dB;refine⟨by simp[h1],fun k c hk=>?_⟩;cases k with
   |zero=>simp at hk;subst hk;exact⟨a,rfl,vF⟩
   |succ k=>simpa using h2 k c (by simpa using hk)
  .cases hb
theorem jkP(hT:TOk P C)(hG:GOk C m)(hr:HRel P C m h w)(he:ERel m e t){a:Opd}{a':Operand}{s d:TypeId}(ho:o.op = .convert s d a')(ha:opdM C a a'=true)(hs:jl1 C s=true)
  (hd:isU C d (fun|.str=>true|_=>false)=true) (hv:I.read e h (.ofBytes a)=some v):jby P m t o v w:=by
 obtain⟨el,aB,cD⟩:=jju hT hs;obtain⟨u,dd,h2,h3,h4⟩:=jb8 hT hd;cases u<;>simp at h2;cases dd<;>simp[jal]at h4;simp only[I.read]at hv;split at hv
 .next n c h1=>
  cases hv;obtain⟨_,_,e1⟩:=jah (t:=t) hG he ha h1;refine⟨.string ⟨⟨[]⟩⟩,?_,rfl⟩;simp only[execOp,ho,Zj,e1];rw[run_convert_bytes_string w s d el none 0 0 aB cD h3];rfl
 .next b off n c h1=>
  obtain⟨l,o',c',hl,e1,h5,h6,_⟩:=jah (t:=t) hG he ha h1;simp only[zH,beq_iff_eq]at hv;split at hv
  .next hn=>
   cases hv;subst hn;refine⟨.string ⟨⟨[]⟩⟩,?_,rfl⟩;simp only[execOp,ho,Zj,e1];have:=run_convert_bytes_back w s d el o' c' [] aB cD h3 Zd;simp only[List.length_nil]at this;rw[this];rfl
  .next hn=>
   split at hv
   .next vs hvs=>
    split at hv
    .next bs xJ=>
     cases hv;obtain⟨g1,g2⟩:=ji8 xJ;have j4:=jiv hvs;obtain⟨Lb,ro,k1,k2,k3⟩:=jgY hvs;have qC:=h6 om;subst qC;refine⟨.string ⟨⟨bs⟩⟩,?_,rfl⟩;simp only[execOp,ho,Zj,e1];have Mb:n=bs.length:=by omega
     subst Mb;rw[run_convert_bytes_back w s d el ⟨l.β,l.d+off,none⟩ c' bs aB cD h3 (fun j hj=>by
      obtain⟨a0,q1,q2⟩:=g2 j bs[j] (za hj);have q3:Lb[off+j]?=some a0:=by
       rw[k3,zN,zD om,zm]at q1;exact q1
      obtain⟨x,q4,q5⟩:=hr.cell k1 hl q3;rw[jc5,Nat.add_assoc,q4,jnZ q5 q2])]
     rfl
    .cases hv
   .cases hv
 .cases hv
theorem joM(hG:GOk C m)(he:ERel m e t){a:Opd}{c:Go.Call}(hx:jcc C [a] c.args.toList=true){u:V}(hu:a.ev e=some u):∃x,(c.args.map (evT t))[0]?=some x/\VRel m u x:=by
 obtain⟨a',jL,ha⟩:∃a',c.args.toList=[a']/\opdM C a a'=true:=by
  match hq:c.args.toList,hx with
  |[a'],hx=>exact⟨a',rfl,by simpa[jcc] using hx⟩
  |[],hx=>simp[jcc]at hx
  |_::_::_,hx=>simp[jcc]at hx
 refine⟨evT t a',?_,jah hG he ha hu⟩;have:(c.args.map (evT t)).toList=[evT t a']:=by simp[jL]
 rw[<- Array.getElem?_toList,this];rfl
theorem jng(hT:TOk P C){ts:Array TypeId}{f:UD->Bool}(hA:argT C ts 0 f=true):∃ty u d,ts[0]?=some ty/\f u=true/\P.underlying ty=some d/\jal u d=true:=by
 unfold argT at hA;split at hA
 .next ty cJ=>
  obtain⟨u,dd,h1,h2,h3⟩:=jb8 hT hA;exact⟨ty,u,dd,cJ,h1,h2,h3⟩
 .cases hA
theorem jo4{c:Go.Call}(ho:o.op = .call c)(hc:c.callee = .builtin .len){x:Value}{w w':World}(h:(Builtin.len_ c.argTypes o.type (c.args.map (evT t))).run P w = .ok x w') :
  (execOp (evT t) o).run P w = .ok (.value x) w':=by
 simp only[execOp,ho,Zj,resolve,hc,Zk,Zl,invoke,builtin,h]
theorem pure_lenS(hT:TOk P C)(hG:GOk C m)(he:ERel m e t){a:Opd}{c:Go.Call}(ho:o.op = .call c)(hc:c.callee = .builtin .len)(hx:jcc C [a] c.args.toList=true)
  (hA:argT C c.argTypes 0 (fun|.str=>true|_=>false)=true) (hv:I.pure e (.lenS a)=some v) (w:World):jby P m t o v w:=by
 obtain⟨ty,u,dd,h1,h2,h3,h4⟩:=jng hT hA;simp only[I.pure]at hv;split at hv
 .next s hs=>
  cases hv;obtain⟨x,h5,h6⟩:=joM (t:=t) hG he hx hs;rw[show x = .string ⟨⟨s⟩⟩ from h6]at h5;cases u<;>simp at h2;cases dd<;>simp[jal]at h4;refine⟨.int .i64 s.length,jo4 ho hc ?_,rfl⟩;simp only[Builtin.len_,h1,h5,Zj,Zm h3,Zk,Zl,goInt];simp[ByteArray.size]
 .cases hv
theorem pure_lenL(hT:TOk P C)(hG:GOk C m)(he:ERel m e t){a:Opd}{c:Go.Call}(ho:o.op = .call c)(hc:c.callee = .builtin .len)(hx:jcc C [a] c.args.toList=true)
  (hA:argT C c.argTypes 0 (fun|.slice _=>true|_=>false)=true) (hv:I.pure e (.lenL a)=some v) (w:World):jby P m t o v w:=by
 obtain⟨ty,u,dd,h1,h2,h3,h4⟩:=jng hT hA;simp only[I.pure]at hv;split at hv
 .next p n cp hs=>
  cases hv;obtain⟨x,h5,h6⟩:=joM (t:=t) hG he hx hs;have e1:∃q c',x = .slice q n c':=by
   cases p with
   |none=>obtain⟨rfl,_,e1⟩:=h6;exact⟨_,_,e1⟩
   |some q=>obtain⟨_,_,_,_,e1,_⟩:=h6;exact⟨_,_,e1⟩
  obtain⟨q,c',rfl⟩:=e1;cases u<;>simp at h2;cases dd<;>simp[jal]at h4;refine⟨.int .i64 n,jo4 ho hc ?_,rfl⟩;simp only[Builtin.len_,h1,h5,Zj,Zm h3,Zk,Zl,goInt]
 .cases hv
theorem jan.length:∀{l:List (V×V×Nat)} {es:List MapEntry},jan m l es->l.length=es.length
 |[],_,h=>by rw[show _=[] from h];rfl
 |(_,_,_)::_,_,⟨x,s,e,_,_,_,h5⟩=>by subst e;simp[h5.length]
end
end Am
namespace Am
open Go
section
variable{P:Program}{C:Cx}{m:Mp}{h:H}{w:World}{e:Env}{t:Array Value}{o:Oper}{v:V}
end
end Am
