/- Our own library, part 4. -/
import Derived.Laws.Entries
import Derived.Test.YtccoogikjelcbaaGreatDoorM03
set_option maxHeartbeats 8000000
set_option maxRecDepth 800
set_option linter.all false
abbrev zH:=@Go.Sem.run_pure
namespace Am
open Go
section
variable {P:Program} {C:Cx} {m:Mp} {e:Env} {t:Array Value} {o:Oper} {v:V}
def jay (P:Program) (m:Mp) (t:Array Value) (o:Oper) (v:V) (w:World):Prop :=
 ∃ x,(execOp (evT t) o).run P w = .ok (.value x) w/\VRel m v x
theorem jdP (hG:GOk C m) (he:ERel m e t) {x:Opd} {y:Operand} (ho:o.op = .move y\/o.op = .assign y) (hM:opdM C x y=true) (hr:x.ev e=some v) (w:World):jay P m t o v w:=by
 refine ⟨evT t y,?_,jab hG he hM hr⟩
 rcases ho with ho | ho<;>simp [execOp,ho]
theorem recap_rel {up:Bool} {v:V} {x:Value} (h:VRel m v x):VRel m (jjx up v) x:=by
 unfold jjx
 split
 ·next a n q=>
  obtain ⟨l,ad,c',h1,rfl,h2,h3,h4,h5,h6⟩:=h
  cases up
  ·exact ⟨l,ad,c',h1,rfl,h2,h3,h4,h5,h6⟩
  ·exact ⟨l,ad,c',h1,rfl,h2,h3,(fun _ e=>by cases e),(fun _ e=>by cases e),fun q' k' e=>by cases e;exact ⟨h2,h5 _ rfl⟩⟩
 ·next a n q k=>
  obtain ⟨l,ad,c',h1,rfl,h2,h3,h4,h5,h6⟩:=h
  cases up
  ·exact ⟨l,ad,c',h1,rfl,h2,h3,(fun _ e=>by cases e),(fun _ e=>by cases e;exact (h6 _ _ rfl).2),(fun _ _ e=>by cases e)⟩
  ·exact ⟨l,ad,c',h1,rfl,h2,h3,h4,h5,h6⟩
 ·exact h
theorem jeU (hG:GOk C m) (he:ERel m e t) {up:Bool} {x:Opd} {y:Operand} (ho:o.op = .move y\/o.op = .assign y) (hM:opdM C x y=true) (hr:I.pure e (.recap up x)=some v) (w:World):jay P m t o v w:=by
 simp only [I.pure] at hr
 split at hr
 ·next u hu=>
  cases hr
  obtain ⟨z,hz,hrel⟩:=jdP (P:=P) hG he ho hM hu w
  exact ⟨z,hz,recap_rel hrel⟩
 ·cases hr
theorem pure_pick (hG:GOk C m) (he:ERel m e t) {c a b:Opd} {c' a' b':Operand} (ho:o.op = .pick c' a' b') (hc:opdM C c c'=true) (ha:opdM C a a'=true) (hb:opdM C b b'=true)
  (hr:I.pure e (.pick c a b)=some v) (w:World):jay P m t o v w:=by
 simp only [I.pure] at hr
 split at hr
 ·next h1=>
  have e1:evT t c' = .bool true:=jab hG he hc h1
  split at hr
  ·next u hu=>
   cases hr
   exact ⟨evT t a',by simp [execOp,ho,e1,asBool],jab hG he ha hu⟩
  ·cases hr
 ·next h1=>
  have e1:evT t c' = .bool false:=jab hG he hc h1
  split at hr
  ·next u hu=>
   cases hr
   exact ⟨evT t b',by simp [execOp,ho,e1,asBool],jab hG he hb hu⟩
  ·cases hr
 ·cases hr
theorem jk7 (hG:GOk C m) (he:ERel m e t) {x:Opd} {y:Operand} (ho:o.op = .nilCheck y) (hM:opdM C x y=true) (hr:I.pure e (.nilck x)=some v) (w:World):jay P m t o v w:=by
 simp only [I.pure] at hr
 split at hr
 ·next a h1=>
  cases hr
  have H:=jab (t:=t) hG he hM h1
  have hx:=H
  obtain ⟨l,_,e1⟩:=hx
  exact ⟨evT t y,by simp [execOp,ho,e1],H⟩
 ·next f c h1=>
  cases hr
  have H:=jab (t:=t) hG he hM h1
  have hx:=H
  obtain ⟨xs,e1,_⟩:=hx
  exact ⟨evT t y,by simp [execOp,ho,e1],H⟩
 ·next l h1=>
  cases hr
  have H:=jab (t:=t) hG he hM h1
  have hx:=H
  obtain ⟨xs,_,e1⟩:=hx
  exact ⟨evT t y,by simp [execOp,ho,e1],H⟩
 ·next f c h1=>
  cases hr
  have H:=jab (t:=t) hG he hM h1
  have hx:=H
  obtain ⟨xs,e1,_⟩:=hx
  exact ⟨evT t y,by simp [execOp,ho,e1],H⟩
 ·next f c h1=>
  cases hr
  have H:=jab (t:=t) hG he hM h1
  have hx:=H
  obtain ⟨xs,e1,_⟩:=hx
  exact ⟨evT t y,by simp [execOp,ho,e1],H⟩
 ·cases hr
theorem intOp_run {op:BinOp} {k k':IntKind} {a b:Int} {ty:TypeId} (hk:(jbe op||k == k')=true) (hr:jbi op k a b=some v) (w:World) :
  ∃ x,(Go.binOp op ty (.int k a) (.int k' b)).run P w = .ok x w/\VRel m v x:=by
 have hkk:jbe op=false->k=k':=by
  intro h;rw [h] at hk;simpa using hk
 cases op
 case quo=>
  cases hkk rfl
  simp only [jbi,zt,beq_iff_eq] at hr
  simp only [binOp_quo,Op.intDiv]
  by_cases hb:b=0
  ·simp [hb] at hr
  ·simp [hb] at hr;subst hr;exact ⟨_,by simp [hb],rfl⟩
 case rem=>
  cases hkk rfl
  simp only [jbi,zt,beq_iff_eq] at hr
  simp only [binOp_rem,Op.intDiv]
  by_cases hb:b=0
  ·simp [hb] at hr
  ·simp [hb] at hr;subst hr;exact ⟨_,by simp [hb],rfl⟩
 case shl=>
  simp only [jbi,jbX] at hr
  simp only [binOp_shl,Op.shift]
  by_cases hb:b<0
  ·simp [hb] at hr
  ·simp [hb] at hr;subst hr;exact ⟨_,by simp [hb],rfl⟩
 case shr=>
  simp only [jbi,jbX] at hr
  simp only [binOp_shr,Op.shift]
  by_cases hb:b<0
  ·simp [hb] at hr
  ·simp [hb] at hr;subst hr;exact ⟨_,by simp [hb],rfl⟩
 all_goals
  cases hkk rfl
  simp only [jbi,Option.some.injEq] at hr
  subst hr
  refine ⟨_,?_,rfl⟩
  simp [Go.binOp,Op.intArith,Op.intBits,Op.intCmp]
theorem strOp_run {op:BinOp} {a b:List UInt8} {ty:TypeId} (hr:jmZ op a b=some v) (w:World) :
  ∃ x,(Go.binOp op ty (.string ⟨⟨a⟩⟩) (.string ⟨⟨b⟩⟩)).run P w = .ok x w/\VRel m v x:=by
 have hl : ∀ l:List UInt8,(ByteArray.mk ⟨l⟩).toList=l:=fun l=>by simp [ByteArray.toList_eq]
 have hadd:(ByteArray.mk ⟨a⟩)++(ByteArray.mk ⟨b⟩)=ByteArray.mk ⟨a++b⟩:=by
  apply ByteArray.ext;simp [ByteArray.data_append]
 cases op<;>simp only [jmZ] at hr<;>(try cases hr)
 case add=>
  simp only [zt,zA] at hr
  split at hr
  ·next h=>
   cases hr
   refine ⟨_,?_,rfl⟩
   have h2 : ¬ (((ByteArray.mk ⟨a⟩).size+(ByteArray.mk ⟨b⟩).size:Nat):Int)>IntKind.i64.max:=by
    simp only [ByteArray.size,List.size_toArray,IntKind.max_i64]
    omega
   simp only [Go.binOp,Op.stringOp]
   rw [zb h2,hadd]
   rfl
  ·cases hr
 all_goals
  refine ⟨_,?_,rfl⟩
  simp only [Go.binOp,Op.stringOp,hl]
  simp [zH]
theorem pure_bin (hG:GOk C m) (he:ERel m e t) {op:BinOp} {x y:Opd} {x' y':Operand} {ty ty':TypeId} (ho:o.op = .binOp op ty x' y' ty') (hx:opdM C x x'=true) (hy:opdM C y y'=true)
  (hr:I.pure e (.bin op x y)=some v) (w:World):jay P m t o v w:=by
 simp only [I.pure] at hr
 split at hr
 ·next a b h1 h2=>
  have H1:=jab (t:=t) hG he hx h1
  have H2:=jab (t:=t) hG he hy h2
  split at hr
  ·next u hu=>
   cases hr
   unfold binOp at hu
   split at hu
   ·next k a k' b=>
    simp only [zt] at hu
    split at hu
    ·next hk=>
     obtain ⟨z,h3,h4⟩:=intOp_run (P:=P) (m:=m) (ty:=ty) hk hu w
     refine ⟨z,?_,h4⟩
     simp only [execOp,ho,zF]
     rw [show evT t x'=_ from H1,show evT t y'=_ from H2,eqGuard_at_int]
     simp [h3]
    ·cases hu
   ·next a b=>
    obtain ⟨z,h3,h4⟩:=strOp_run (P:=P) (m:=m) (ty:=ty) hu w
    refine ⟨z,?_,h4⟩
    simp only [execOp,ho,zF]
    rw [show evT t x'=_ from H1,show evT t y'=_ from H2,eqGuard_at_string]
    simp [h3]
   ·cases hu
  ·cases hr
 ·cases hr
theorem pure_un (hG:GOk C m) (he:ERel m e t) {op:UnOp} {x:Opd} {x':Operand} {ty:TypeId} (ho:o.op = .unOp op ty x') (hx:opdM C x x'=true)
  (hr:I.pure e (.un op x)=some v) (w:World):jay P m t o v w:=by
 simp only [I.pure] at hr
 split at hr
 ·next a h1=>
  have H1:=jab (t:=t) hG he hx h1
  split at hr
  ·next u hu=>
   cases hr
   unfold unOp at hu
   split at hu
   ·cases hu
    refine ⟨_,?_,rfl⟩
    simp [execOp,ho,show evT t x'=_ from H1,Op.unary,Op.intArith]
   ·next k n=>
    simp only [jbi,Option.some.injEq] at hu
    subst hu
    refine ⟨_,?_,rfl⟩
    simp [execOp,ho,show evT t x'=_ from H1,Op.unary,Op.intBits]
   ·cases hu
    refine ⟨_,?_,rfl⟩
    simp [execOp,ho,show evT t x'=_ from H1,Op.unary]
   ·cases hu
  ·cases hr
 ·cases hr
theorem jhu (hT:TOk P C) (hG:GOk C m) (he:ERel m e t) {k:IntKind} {x:Opd} {x':Operand} {s d:TypeId} (ho:o.op = .convert s d x') (hx:opdM C x x'=true)
  (hd:isU C d (fun | .int k'=>k == k' | _=>false)=true) (hs:isU C s (fun | .int _=>true | _=>false)=true)
  (hr:I.pure e (.convInt k x)=some v) (w:World):jay P m t o v w:=by
 simp only [I.pure] at hr
 split at hr
 ·next k0 n h1=>
  cases hr
  have H1:=jab (t:=t) hG he hx h1
  obtain ⟨u,dd,h2,h3,h4⟩:=ja5 hT hd
  obtain ⟨u',ds,h5,h6,h7⟩:=ja5 hT hs
  refine ⟨_,?_,rfl⟩
  cases u with
  | int k1=>
   cases dd with
   | int k2=>
    simp [jaf] at h4 h2
    subst h4 h2
    cases ds<;>cases u'<;>simp [jaf] at h7 h5
    simp [execOp,ho,show evT t x'=_ from H1,convert,zI h3,zI h6,Conv.intToInt]
   | _=>simp [jaf] at h4
  | _=>simp at h2
 ·cases hr
theorem jhs (hT:TOk P C) (hG:GOk C m) (he:ERel m e t) {ty:TypeId} {x:Opd} {x':Operand} (ho:o.op = .makeInterface ty x') (hx:opdM C x x'=true)
  (hd:isU C ty (fun | .iface=>false | _=>true)=true) (hr:I.pure e (.mkIface ty x)=some v) (w:World):jay P m t o v w:=by
 simp only [I.pure] at hr
 split at hr
 ·next s0 h1=>
  cases hr
  have H1:=jab (t:=t) hG he hx h1
  obtain ⟨u,dd,h2,h3,h4⟩:=ja5 hT hd
  refine ⟨_,?_,_,rfl,H1⟩
  simp only [execOp,ho,zF,Instr.makeInterface,zI h3,zG]
  cases u<;>cases dd<;>simp_all [jaf]
 ·cases hr
theorem jk8 (hG:GOk C m) (he:ERel m e t) {f:FuncId} {cs:List Opd} {first cap:Array Operand} (ho:o.op = .makeFunc (.func f) first cap) (h0:first.isEmpty=true) (hx:ja1 C cs cap.toList=true)
  (hr:I.pure e (.mkClo f cs)=some v) (w:World):jay P m t o v w:=by
 simp only [I.pure] at hr
 split at hr
 ·next l h1=>
  cases hr
  have H:=jbL (t:=t) hG he hx h1
  have:first = #[]:=by simpa using h0
  subst this
  refine ⟨.func (.func f) #[] (cap.map (evT t)),?_,_,rfl,by simpa using H⟩
  simp [execOp,ho,Instr.makeFunc]
 ·cases hr
theorem pure_mkBm (hG:GOk C m) (he:ERel m e t) {n:String} {x:Opd} {first cap:Array Operand} (ho:o.op = .makeFunc (.method n) first cap) (hx:ja1 C [x] first.toList=true) (h0:cap.isEmpty=true)
  (hr:I.pure e (.mkBm n x)=some v) (w:World):jay P m t o v w:=by
 simp only [I.pure] at hr
 split at hr
 ·next ty u h1=>
  cases hr
  have H:=jbL (t:=t) hG he hx (vs:=[.iface ty u]) (by simp only [evs,h1])
  have:cap = #[]:=by simpa using h0
  subst this
  obtain ⟨y,s,e1,⟨z,e2,h2⟩,e3⟩:=H
  have e3':s=[]:=e3
  subst e3' e2
  have e4:first.map (evT t) = #[.iface ty z]:=by
   apply Array.ext'
   simpa using e1
  exact ⟨.func (.method n) #[.iface ty z] #[],by simp [execOp,ho,Instr.makeFunc,e4],z,rfl,h2⟩
 ·cases hr
theorem jk9 (hG:GOk C m) (he:ERel m e t) {f:FuncId} {x:Opd} {first cap:Array Operand} (ho:o.op = .makeFunc (.func f) first cap) (hx:ja1 C [x] first.toList=true) (h0:cap.isEmpty=true)
  (hr:I.pure e (.mkBcl f x)=some v) (w:World):jay P m t o v w:=by
 simp only [I.pure] at hr
 split at hr
 ·next u h1=>
  cases hr
  have H:=jbL (t:=t) hG he hx (vs:=[u]) (by simp only [evs,h1])
  have:cap = #[]:=by simpa using h0
  subst this
  obtain ⟨y,s,e1,h2,e3⟩:=H
  have e3':s=[]:=e3
  subst e3'
  have e4:first.map (evT t) = #[y]:=by
   apply Array.ext'
   simpa using e1
  exact ⟨.func (.func f) #[y] #[],by simp [execOp,ho,Instr.makeFunc,e4],y,rfl,h2⟩
 ·cases hr
theorem jh3 {ty:TypeId} {f:FuncId} {name:String} (hm:jeG P ty f name=true) (x:Value) (n:Nat) (w:World):(nilAhead (n+1) ty x name).run P w = .ok (some false) w:=by
 unfold jeG at hm
 split at hm
 ·next i hi=>
  split at hm
  ·next mt hmt=>
   simp only [zm] at hm
   obtain ⟨hp,hm⟩:=hm
   have hp':mt.path.toList=[]:=by simpa using hp
   have hti:(typeInfo ty).run P w = .ok i w:=by simp [typeInfo,hi]
   split at hm
   ·next g b d hf hu=>
    simp only [zm,beq_iff_eq,nbeq,zq] at hm
    obtain ⟨rfl,rfl⟩:=hm
    simp only [nilAhead,zF,hti,zG,hmt,hp',followBlind,zH,hf]
    cases d<;>simp only [jlV,zF,zI hu,zG,zH]
   ·cases hm
  ·cases hm
 ·cases hm
theorem ji9 (hG:GOk C m) (he:ERel m e t) {n:String} {tbl:List (TypeId × FuncId)} {x:Opd} {y:Operand} (ho:o.op = .nilCheck y) (hM:opdM C x y=true) (ht:(tbl.all fun p=>jeG P p.1 p.2 n)=true)
  (hr:I.pure e (.nilckB n tbl x)=some v) (w:World):jay P m t o v w:=by
 simp only [I.pure] at hr
 split at hr
 ·next n' ty u h1=>
  simp only [zt] at hr
  split at hr
  ·next h2=>
   cases hr
   simp only [zm,beq_iff_eq,List.any_eq_true] at h2
   obtain ⟨rfl,p,hp,rfl⟩:=h2
   have H:=jab (t:=t) hG he hM h1
   have hx:=H
   obtain ⟨z,e1,_⟩:=hx
   have hm:=zC.1 ht _ hp
   have hn:=jh3 hm z (P.types.size+Made.depth-1) w
   have hfu:P.types.size+Made.depth-1+1=P.types.size+Made.depth:=by unfold Made.depth;omega
   rw [hfu] at hn
   refine ⟨evT t y,?_,H⟩
   simp [execOp,ho,e1,hn]
  ·cases hr
 ·cases hr
theorem jht (hG:GOk C m) (he:ERel m e t) {x:Opd} {x':Operand} {i:Nat} (ho:o.op = .extract x' i) (hx:opdM C x x'=true)
  (hr:I.pure e (.extract x i)=some v) (w:World):jay P m t o v w:=by
 simp only [I.pure] at hr
 split at hr
 ·next l h1=>
  have H1:=jab (t:=t) hG he hx h1
  obtain ⟨xs,e1,h2⟩:=H1
  split at hr
  ·next u hu=>
   cases hr
   obtain ⟨z,h3,h4⟩:=h2.get hu
   have h5:xs[i]?=some z:=by rw [<- h3];simp
   refine ⟨z,?_,h4⟩
   simp [execOp,ho,e1,Instr.extract,h5]
  ·cases hr
 ·cases hr
end
end Am
namespace Am
open Go
section
variable {P:Program} {C:Cx} {m:Mp} {e:Env} {t:Array Value} {o:Oper} {v:V}
theorem jbf (β o n:Nat):(⟨β,o,none⟩:Addr).add n=⟨β,o+n,none⟩:=by
 unfold Addr.add
 split
 ·next h=>subst h;rfl
 ·rfl
theorem jcm {n:Int} {k:Nat} : below n k=true↔0<=n/\n<k:=by
 cases n with
 | ofNat a=>
  show Nat.blt a k=true↔0<=(a:Int)/\(a:Int)<k
  simp only [Nat.blt,zA];omega
 | negSucc a=>
  have:=Int.negSucc_lt_zero a
  show false=true↔_
  constructor
  ·intro h;cases h
  ·intro h;omega
theorem upto_iff {n:Int} {k:Nat} : upto n k=true↔0<=n/\n<=k:=by
 cases n with
 | ofNat a=>
  show Nat.ble a k=true↔0<=(a:Int)/\(a:Int)<=k
  simp only [zA];omega
 | negSucc a=>
  have:=Int.negSucc_lt_zero a
  show false=true↔_
  constructor
  ·intro h;cases h
  ·intro h;omega
theorem jmd : ∀ {fs:List (Nat × TypeId)} {gs:List Field} {i:Nat} {q:Nat × TypeId},jaD fs gs=true->fs[i]?=some q ->
  ∃ f,gs[i]?=some f/\f.offset=q.1/\f.type=q.2
 | [],_,_,_,_,h=>by simp at h
 | (a,b) :: r,[],_,_,h,_=>by simp [jaD] at h
 | (a,b) :: r,f :: s,0,q,h,hq=>by
  simp at hq;subst hq
  simp only [jaD,zm,nbeq,zq] at h
  exact ⟨f,rfl,h.1.1.1.symm,h.1.1.2.symm⟩
 | (a,b) :: r,f :: s,i+1,q,h,hq=>by
  simp at hq
  simp only [jaD,zm] at h
  simpa using jmd h.2 hq
theorem jkC (hT:TOk P C) (hG:GOk C m) (he:ERel m e t) {off:Nat} {x:Opd} {x':Operand} {ty:TypeId} {i:Nat} (ho:o.op = .fieldAddr ty x' i) (hx:opdM C x x'=true)
  (hu:isU C ty (fun
   | .struct fs=>match fs[i]? with
    | some (o,ft)=>Nat.beq o off&&(match C.T.at_ ft with | some j=>!(Nat.beq j.size 0) | none=>false)
    | none=>false
   | _=>false)=true) (hr:I.pure e (.faddr off x)=some v) (w:World):jay P m t o v w:=by
 simp only [I.pure] at hr
 split at hr
 ·next b o1 h1=>
  cases hr
  have H1:=jab (t:=t) hG he hx h1
  obtain ⟨l,h2,e1⟩:=H1
  obtain ⟨u,dd,h3,h4,h5⟩:=ja5 hT hu
  cases u with
  | struct fs=>
   cases dd with
   | struct gs=>
    simp only [jaf] at h5
    simp only at h3
    split at h3
    ·next o2 ft hf=>
     simp only [zm,nbeq,zq] at h3
     obtain ⟨h6,h7⟩:=h3
     split at h7
     ·next j hj=>
      obtain ⟨f,hg,h8,h9⟩:=jmd h5 hf
      have h10:gs[i]?=some f:=by rw [<- hg];simp
      obtain ⟨info,d,F⟩:=hT.facts hj
      have hs:info.size≠0:=by rw [F.size];simpa using h7
      refine ⟨.pointer (some ⟨l.β,l.d+o1+f.offset,none⟩),?_,l,h2,by rw [h8,<- h6];simp;omega⟩
      have h9':f.type=ft:=h9
      simp [execOp,ho,e1,Instr.fieldAt,zI h4,h10,Instr.sureAddr,fieldPlace,Go.sizeOf,typeInfo,h9',F.hinfo,hs,jbf]
     ·cases h7
    ·cases h3
   | _=>simp [jaf] at h5
  | _=>simp at h3
 ·cases hr
theorem pure_ixaA (hT:TOk P C) (hG:GOk C m) (he:ERel m e t) {ln sz:Nat} {x i:Opd} {x' i':Operand} {ty:TypeId} (ho:o.op = .indexAddr ty x' i') (hx:opdM C x x'=true) (hi:opdM C i i'=true)
  (hu:isU C ty (fun | .array k e=>Nat.beq k ln&&jaz C e sz | _=>false)=true) (hr:I.pure e (.ixaA ln sz x i)=some v) (w:World):jay P m t o v w:=by
 simp only [I.pure] at hr
 split at hr
 ·next b o1 k n h1 h2=>
  simp only [zt] at hr
  split at hr
  ·next hb=>
   cases hr
   have hb':=jcm.1 hb
   obtain ⟨l,h3,e1⟩:=jab (t:=t) hG he hx h1
   have e2:evT t i' = .int k n:=jab hG he hi h2
   obtain ⟨u,dd,h4,h5,h6⟩:=ja5 hT hu
   cases u with
   | array k2 e2'=>
    cases dd with
    | array k3 e3=>
     simp only [jaf,zm,nbeq,zq] at h6 h4
     obtain ⟨rfl,rfl⟩:=h6
     obtain ⟨rfl,h7⟩:=h4
     refine ⟨.pointer (some ⟨l.β,l.d+o1+n.toNat*sz,none⟩),?_,l,h3,by simp;omega⟩
     simp only [execOp,ho,zF,Instr.indexAt,e1,e2,asIntOf,zI h5,zG,zH,Instr.sureAddr]
     simp [hb',jam hT h7,jbf]
    | _=>simp [jaf] at h6
   | _=>simp at h4
  ·cases hr
 ·cases hr
theorem pure_ixaS (hT:TOk P C) (hG:GOk C m) (he:ERel m e t) {sz:Nat} {x i:Opd} {x' i':Operand} {ty:TypeId} (ho:o.op = .indexAddr ty x' i') (hx:opdM C x x'=true) (hi:opdM C i i'=true)
  (hu:isU C ty (fun | .slice e=>jaz C e sz | _=>false)=true) (hr:I.pure e (.ixaS sz x i)=some v) (w:World):jay P m t o v w:=by
 simp only [I.pure] at hr
 split at hr
 ·next b o1 ln cp k n h1 h2=>
  simp only [zt] at hr
  split at hr
  ·next hb=>
   cases hr
   have hb':=jcm.1 hb
   obtain ⟨l,o',c',h3,e1,h8,h9,_⟩:=jab (t:=t) hG he hx h1
   have e2:evT t i' = .int k n:=jab hG he hi h2
   have ho':=h9 om
   subst ho'
   obtain ⟨u,dd,h4,h5,h6⟩:=ja5 hT hu
   cases u with
   | slice e2'=>
    cases dd with
    | slice e3=>
     simp only [jaf,nbeq,zq] at h6 h4
     subst h6
     refine ⟨.pointer (some ⟨l.β,l.d+o1+n.toNat*sz,none⟩),?_,l,h3,by simp;omega⟩
     simp only [execOp,ho,zF,Instr.indexAt,e1,e2,asIntOf,zI h5,zG,zH]
     simp [hb',jam hT h4,jbf]
    | _=>simp [jaf] at h6
   | _=>simp at h4
  ·cases hr
 ·cases hr
theorem jj7 (hT:TOk P C) {ty:TypeId} {n:Option Nat} (hp:jc3 C ty n=true) {l:List V} {xs:Array Value} (hl:jah m l xs.toList) {off:Nat} (hr:part l off n=some v) (w:World) :
  ∃ z,(Go.part ty xs off).run P w = .ok z w/\VRel m v z:=by
 cases n with
 | none=>
  simp only [part] at hr
  obtain ⟨z,h1,h2⟩:=hl.get hr
  have h3:xs[off]?=some z:=by rw [<- h1];simp
  exact ⟨z,by simp [Go.part,jda hT hp,h3],h2⟩
 | some n=>
  simp only [part,zt,zA] at hr
  split at hr
  ·next hle=>
   cases hr
   obtain ⟨h1,h2⟩:=jcZ hT hp w
   refine ⟨.agg (xs.extract off (off+n)),by simp [Go.part,h1,h2],_,rfl,?_⟩
   have:(xs.extract off (off+n)).toList=(xs.toList.drop off).take n:=by
    simp [Array.toList_extract]
   rw [this]
   exact (hl.drop off).take n
  ·cases hr
theorem jkB (hT:TOk P C) (hG:GOk C m) (he:ERel m e t) {off:Nat} {n:Option Nat} {x:Opd} {x':Operand} {ty:TypeId} {i:Nat} (ho:o.op = .field ty x' i) (hx:opdM C x x'=true)
  (hu:isU C ty (fun
   | .struct fs=>match fs[i]? with
    | some (o,ft)=>Nat.beq o off&&jc3 C ft n
    | none=>false
   | _=>false)=true) (hr:I.pure e (.field off n x)=some v) (w:World):jay P m t o v w:=by
 simp only [I.pure] at hr
 split at hr
 ·next l0 h1=>
  obtain ⟨xs,e1,h2⟩:=jab (t:=t) hG he hx h1
  split at hr
  ·next u0 hu0=>
   cases hr
   obtain ⟨u,dd,h3,h4,h5⟩:=ja5 hT hu
   cases u with
   | struct fs=>
    cases dd with
    | struct gs=>
     simp only [jaf] at h5
     simp only at h3
     split at h3
     ·next o2 ft hf=>
      simp only [zm,nbeq,zq] at h3
      obtain ⟨h6,h7⟩:=h3
      obtain ⟨f,hg,h8,h9⟩:=jmd h5 hf
      have h10:gs[i]?=some f:=by rw [<- hg];simp
      have h8':f.offset=off:=h8.trans h6
      have h9':f.type=ft:=h9
      obtain ⟨z,h11,h12⟩:=jj7 hT h7 h2 hu0 w
      refine ⟨z,?_,h12⟩
      simp [execOp,ho,e1,Instr.field,zI h4,h10,asAgg,h8',h9',h11]
     ·cases h3
    | _=>simp [jaf] at h5
   | _=>simp at h3
  ·cases hr
 ·cases hr
theorem pure_ixA (hT:TOk P C) (hG:GOk C m) (he:ERel m e t) {ln sz:Nat} {n:Option Nat} {x i:Opd} {x' i':Operand} {ty:TypeId} (ho:o.op = .index ty x' i') (hx:opdM C x x'=true) (hi:opdM C i i'=true)
  (hu:isU C ty (fun | .array k e=>Nat.beq k ln&&jaz C e sz&&jc3 C e n | _=>false)=true) (hr:I.pure e (.ixA ln sz n x i)=some v) (w:World):jay P m t o v w:=by
 simp only [I.pure] at hr
 split at hr
 ·next l0 k0 k h1 h2=>
  simp only [zt] at hr
  split at hr
  ·next hb=>
   have hb':=jcm.1 hb
   split at hr
   ·next u0 hu0=>
    cases hr
    obtain ⟨xs,e1,h3⟩:=jab (t:=t) hG he hx h1
    have e2:evT t i' = .int k0 k:=jab hG he hi h2
    obtain ⟨u,dd,h4,h5,h6⟩:=ja5 hT hu
    cases u with
    | array k2 e2'=>
     cases dd with
     | array k3 e3=>
      simp only [jaf,zm,nbeq,zq] at h6 h4
      obtain ⟨rfl,rfl⟩:=h6
      obtain ⟨⟨rfl,h7⟩,h8⟩:=h4
      obtain ⟨z,h9,h10⟩:=jj7 hT h8 h3 hu0 w
      refine ⟨z,?_,h10⟩
      simp only [execOp,ho,zF,Instr.index,e1,e2,asIntOf,zI h5,zG,zH]
      simp [hb',jam hT h7,h9]
     | _=>simp [jaf] at h6
    | _=>simp at h4
   ·cases hr
  ·cases hr
 ·cases hr
theorem jeK (s:List UInt8) (i:Nat):(ByteArray.mk ⟨s⟩)[i]?=s[i]?:=by
 show (if h:i<(ByteArray.mk ⟨s⟩).size then some (ByteArray.mk ⟨s⟩)[i] else none)=s[i]?
 by_cases h:i<s.length
 ·rw [dif_pos (by simpa [ByteArray.size] using h)]
  simp [h];rfl
 ·rw [dif_neg (by simpa [ByteArray.size] using h)]
  simp;omega
theorem jkA (hT:TOk P C) (hG:GOk C m) (he:ERel m e t) {x i:Opd} {x' i':Operand} {ty:TypeId} (ho:o.op = .index ty x' i') (hx:opdM C x x'=true) (hi:opdM C i i'=true)
  (hu:isU C ty (fun | .str=>true | _=>false)=true) (hr:I.pure e (.ixStr x i)=some v) (w:World):jay P m t o v w:=by
 simp only [I.pure] at hr
 split at hr
 ·next s k n h1 h2=>
  simp only [zt] at hr
  split at hr
  ·next hb=>
   have hb':=jcm.1 hb
   split at hr
   ·next b hbb=>
    cases hr
    have e1:evT t x' = .string ⟨⟨s⟩⟩:=jab hG he hx h1
    have e2:evT t i' = .int k n:=jab hG he hi h2
    obtain ⟨u,dd,h4,h5,h6⟩:=ja5 hT hu
    cases u<;>simp at h4
    cases dd<;>simp [jaf] at h6
    refine ⟨.int .u8 b.toNat,?_,rfl⟩
    simp only [execOp,ho,zF,Instr.index,e1,e2,asIntOf,zI h5,zG,zH]
    rw [zg hb'.1,jeK,hbb]
    rfl
   ·cases hr
  ·cases hr
 ·cases hr
theorem jet (f:V->V->Option V) (g:Value->Value->Sem Value) (hfg : ∀ a b c x y,f a b=some c->VRel m a x->VRel m b y -> ∀ w,∃ z,(g x y).run P w = .ok z w/\VRel m c z) :
  ∀ (l:List V) (xs:List Value) (a:V) (x:Value) (w:World),jah m l xs->VRel m a x->jgC f a l=some v -> ∃ z,(xs.foldlM g x).run P w = .ok z w/\VRel m v z
 | [],xs,a,x,w,hl,ha,hr=>by
  rw [show xs=[] from hl]
  simp [jgC] at hr;subst hr
  exact ⟨x,by simp,ha⟩
 | b :: l,xs,a,x,w,hl,ha,hr=>by
  obtain ⟨y,s,rfl,h2,h3⟩:=hl
  simp only [jgC] at hr
  split at hr
  ·next c hc=>
   obtain ⟨z,h4,h5⟩:=hfg a b c x y hc ha h2 w
   obtain ⟨z',h6,h7⟩:=jet f g hfg l s c z w h3 h5 hr
   exact ⟨z',by simp [h4,h6],h7⟩
  ·cases hr
theorem jb6 (hG:GOk C m) (he:ERel m e t) {xs:List Opd} {ys:Array Operand} {vs:List V} (hM:ja1 C xs ys.toList=true) (hx:evs e xs=some vs):jah m vs (ys.map (evT t)).toList:=by
 have:=jbL (t:=t) hG he hM hx
 simpa using this
theorem pure_minI (hG:GOk C m) (he:ERel m e t) {xs:List Opd} {c:Go.Call} (ho:o.op = .call c) (hc:c.callee = .builtin .min) (hx:ja1 C xs c.args.toList=true)
  (hr:I.pure e (.minI xs)=some v) (w:World):jay P m t o v w:=by
 simp only [I.pure] at hr
 split at hr
 ·next a r h1=>
  split at hr
  ·next u hu=>
   cases hr
   have H:=jb6 (t:=t) hG he hx h1
   obtain ⟨x,s,h2,h3,h4⟩:=H
   have hfg : ∀ (a b c:V) (x y:Value),minV a b=some c->VRel m a x->VRel m b y -> ∀ w,∃ z,(Builtin.min2 x y).run P w = .ok z w/\VRel m c z:=by
    intro a b c x y hm ha hb w
    unfold minV at hm
    split at hm
    ·simp only [zt,beq_iff_eq] at hm
     split at hm
     ·cases hm
      rw [show x=_ from ha,show y=_ from hb]
      exact ⟨_,rfl,rfl⟩
     ·cases hm
    ·cases hm
   obtain ⟨z,h5,h6⟩:=jet (P:=P) minV Builtin.min2 hfg r s a x w h4 h3 hu
   refine ⟨z,?_,h6⟩
   simp only [execOp,ho,zF,resolve,hc,zG,zH,invoke,builtin,Builtin.min_,h2,h5]
  ·cases hr
 ·cases hr
theorem pure_maxI (hG:GOk C m) (he:ERel m e t) {xs:List Opd} {c:Go.Call} (ho:o.op = .call c) (hc:c.callee = .builtin .max) (hx:ja1 C xs c.args.toList=true)
  (hr:I.pure e (.maxI xs)=some v) (w:World):jay P m t o v w:=by
 simp only [I.pure] at hr
 split at hr
 ·next a r h1=>
  split at hr
  ·next u hu=>
   cases hr
   have H:=jb6 (t:=t) hG he hx h1
   obtain ⟨x,s,h2,h3,h4⟩:=H
   have hfg : ∀ (a b c:V) (x y:Value),maxV a b=some c->VRel m a x->VRel m b y -> ∀ w,∃ z,(Builtin.max2 x y).run P w = .ok z w/\VRel m c z:=by
    intro a b c x y hm ha hb w
    unfold maxV at hm
    split at hm
    ·simp only [zt,beq_iff_eq] at hm
     split at hm
     ·cases hm
      rw [show x=_ from ha,show y=_ from hb]
      exact ⟨_,rfl,rfl⟩
     ·cases hm
    ·cases hm
   obtain ⟨z,h5,h6⟩:=jet (P:=P) maxV Builtin.max2 hfg r s a x w h4 h3 hu
   refine ⟨z,?_,h6⟩
   simp only [execOp,ho,zF,resolve,hc,zG,zH,invoke,builtin,Builtin.max_,h2,h5]
  ·cases hr
 ·cases hr
theorem pure_lenC (hT:TOk P C) {n:Int} {c:Go.Call} (ho:o.op = .call c) (hc:c.callee = .builtin .len) (h0:c.args.isEmpty=false) (hA:argT C c.argTypes 0 (lenT C n)=true) (w:World):jay P m t o (.i n) w:=by
 unfold argT at hA
 split at hA
 ·next ty hty=>
  obtain ⟨u,dd,h1,h2,h3⟩:=ja5 hT hA
  refine ⟨.int .i64 n,?_,rfl⟩
  have hsz:0<(c.args.map (evT t)).size:=by
   rw [Array.size_map];rcases Nat.eq_zero_or_pos c.args.size with h | h
   ·rw [Array.size_eq_zero_iff.1 h] at h0;simp at h0
   ·exact h
  have hg:(c.args.map (evT t))[0]?=some (c.args.map (evT t))[0]:=Array.getElem?_eq_getElem hsz
  simp only [execOp,ho,zF,resolve,hc,zG,zH,invoke,builtin,Builtin.len_,hty,hg,zI h2]
  cases u with
  | array k _=>
   cases dd<;>simp [jaf] at h3
   simp [lenT] at h1
   simp [goInt,h1,h3]
  | ptr a=>
   cases dd<;>simp [jaf] at h3
   subst h3
   simp only [lenT] at h1
   obtain ⟨u',dd',h4,h5,h6⟩:=ja5 hT h1
   cases u'<;>simp at h4
   cases dd'<;>simp [jaf] at h6
   simp [zI h5,goInt,h4,h6]
  | _=>simp [lenT] at h1
 ·cases hA
end
end Am
namespace Am
open Go
section
variable {P:Program} {C:Cx} {m:Mp} {e:Env} {t:Array Value} {o:Oper} {v:V}
theorem asInt_rel {u:V} {z:Value} {i:Int} (h:VRel m u z) (hi:asInt u=some i) : ∃ k,z = .int k i:=by
 cases u<;>simp [asInt] at hi
 subst hi
 exact ⟨_,h⟩
theorem jjs {u:V} {z:Value} {y y' n:Nat} (h:VRel m u z) (hn:sB u y=some n) (hyy:y<=y') (code:BoundsCode) (w:World) :
  (Instr.sliceBound z y' code).run P w = .ok n w/\n<=y:=by
 unfold sB at hn
 split at hn
 ·next i hi=>
  simp only [zt] at hn
  split at hn
  ·next hu=>
   cases hn
   obtain ⟨k,rfl⟩:=asInt_rel h hi
   have:=upto_iff.1 hu
   have h2:0<=i/\i<=(y':Int):=by omega
   exact ⟨by simp [Instr.sliceBound,asIntOf,h2],by omega⟩
  ·cases hn
 ·cases hn
def jms (m:Mp) (v:Option V) (x:Option Value):Prop:=(v=none/\x=none) \/ ∃ u z,v=some u/\x=some z/\VRel m u z
theorem jbO {isS:Bool} {ln cap capc:Nat} {lo hi mx:Option V} {lo' hi' mx':Option Value} (hlo:jms m lo lo') (hhi:jms m hi hi') (hmx:jms m mx mx') (hc:cap<=capc) {l r mm:Nat}
  (h:jbK ln cap lo hi mx=some (l,r,mm)) (w:World) :
  (Instr.sliceBounds isS ln capc lo' hi' mx').run P w = .ok (l,r,if mx.isSome then mm else capc) w/\l<=r/\(hi.isSome->r<=mm)/\(hi=none->r=ln/\mx=none)/\mm<=cap/\(mx=none->mm=cap):=by
 unfold jbK at h
 split at h
 ·cases h
 next m0 hm0=>
 split at h
 ·cases h
 next h0 hh0=>
 split at h
 ·cases h
 next l0 hl0=>
 cases h
 have R1:(match (generalizing:=false) mx' with
   | some v=>Instr.sliceBound v capc (if isS then .slice3Acap else .slice3Alen)
   | none=>pure capc).run P w = .ok (if mx.isSome then mm else capc) w/\mm<=cap/\(mx=none->mm=cap):=by
  rcases hmx with ⟨rfl,rfl⟩ | ⟨u,z,rfl,rfl,hz⟩
  ·cases hm0;exact ⟨rfl,zn _,fun _=>rfl⟩
  ·obtain ⟨a,b⟩:=jjs (P:=P) hz hm0 hc (if isS then .slice3Acap else .slice3Alen) w
   exact ⟨a,b,fun h=>by cases h⟩
 obtain ⟨R1,B1,B2⟩:=R1
 have hmm:mm<=(if mx.isSome then mm else capc):=by split<;>omega
 have R2:(match (generalizing:=false) hi',mx' with
   | some v,some _=>Instr.sliceBound v (if mx.isSome then mm else capc) .slice3B
   | some v,none=>Instr.sliceBound v (if mx.isSome then mm else capc) (if isS then .sliceAcap else .sliceAlen)
   | none,none=>pure ln
   | none,some _=>stuck "Slice: max without high").run P w = .ok r w/\(hi.isSome->r<=mm)/\(hi=none->r=ln/\mx=none):=by
  rcases hhi with ⟨rfl,rfl⟩ | ⟨u,z,rfl,rfl,hz⟩
  ·rcases hmx with ⟨rfl,rfl⟩ | ⟨u,z,rfl,rfl,hz⟩
   ·cases hh0;exact ⟨rfl,fun h=>Bool.noConfusion h,fun _=>⟨rfl,rfl⟩⟩
   ·cases hh0
  ·rcases hmx with ⟨rfl,rfl⟩ | ⟨u',z',rfl,rfl,hz'⟩
   ·obtain ⟨a,b⟩:=jjs (P:=P) hz hh0 hmm (if isS then .sliceAcap else .sliceAlen) w
    exact ⟨a,fun _=>b,fun h=>by cases h⟩
   ·obtain ⟨a,b⟩:=jjs (P:=P) hz hh0 hmm .slice3B w
    exact ⟨a,fun _=>b,fun h=>by cases h⟩
 obtain ⟨R2,B3,B4⟩:=R2
 have R3:(match (generalizing:=false) lo' with
   | some v=>Instr.sliceBound v r (if mx'.isSome then .slice3C else .sliceB)
   | none=>pure 0).run P w = .ok l w/\l<=r:=by
  rcases hlo with ⟨rfl,rfl⟩ | ⟨u,z,rfl,rfl,hz⟩
  ·cases hl0;exact ⟨rfl,Nat.zero_le _⟩
  ·exact jjs (P:=P) hz hl0 (zn _) (if mx'.isSome then .slice3C else .sliceB) w
 obtain ⟨R3,B5⟩:=R3
 refine ⟨?_,B5,B3,B4,B1,B2⟩
 generalize (if mx.isSome=true then mm else capc)=mc at *
 unfold Instr.sliceBounds
 cases mx'<;>cases hi'<;>cases lo'<;>simp only [zF,zH,zG,Result.ok.injEq,and_true] at R1 R2 R3 ⊢ <;> simp_all
theorem jev (hG:GOk C m) (he:ERel m e t) {x:Option Opd} {y:Option Operand} {v:Option V} (hM:opdO C x y=true) (hx:evo e x=some v):jms m v (y.map (evT t)):=jkG hG he hM hx
theorem jgG (s:List UInt8) (l r:Nat):(ByteArray.mk ⟨s⟩).extract l r=ByteArray.mk ⟨(s.take r).drop l⟩:=by
 apply ByteArray.ext
 rw [ByteArray.data_extract]
 apply Array.ext'
 simp [List.drop_take]
theorem ji8 (hT:TOk P C) (hG:GOk C m) (he:ERel m e t) {x:Opd} {lo hi:Option Opd} {x':Operand} {lo' hi':Option Operand} {ty:TypeId} (ho:o.op = .slice ty x' lo' hi' none) (hx:opdM C x x'=true)
  (hlo:opdO C lo lo'=true) (hhi:opdO C hi hi'=true) (hu:isU C ty (fun | .str=>true | _=>false)=true) (hr:I.pure e (.sliceS x lo hi)=some v) (w:World):jay P m t o v w:=by
 simp only [I.pure] at hr
 split at hr
 ·next s a b h1 h2 h3=>
  split at hr
  ·next l r mm hb=>
   cases hr
   have e1:evT t x' = .string ⟨⟨s⟩⟩:=jab hG he hx h1
   obtain ⟨u,dd,h4,h5,h6⟩:=ja5 hT hu
   cases u<;>simp at h4
   cases dd<;>simp [jaf] at h6
   have hmx:jms m none none := .inl ⟨rfl,rfl⟩
   obtain ⟨h7,_⟩:=jbO (P:=P) (isS:=false) (jev hG he hlo h2) (jev hG he hhi h3) hmx (zn _) hb w
   refine ⟨.string ⟨⟨(s.take r).drop l⟩⟩,?_,rfl⟩
   have hs:(ByteArray.mk ⟨s⟩).size=s.length:=by simp [ByteArray.size]
   simp only [execOp,ho,zF,Instr.sliceAt,zI h5,zG,Instr.slice,e1,Option.map_none,Option.isSome_none,zB,if_false,hs]
   rw [h7]
   simp [jgG]
  ·cases hr
 ·cases hr
theorem jk6 (hT:TOk P C) (hG:GOk C m) (he:ERel m e t) {sz:Nat} {x:Opd} {lo hi mx:Option Opd} {x':Operand} {lo' hi' mx':Option Operand} {ty:TypeId} (ho:o.op = .slice ty x' lo' hi' mx')
  (hx:opdM C x x'=true) (hlo:opdO C lo lo'=true) (hhi:opdO C hi hi'=true) (hmx:opdO C mx mx'=true) (hu:isU C ty (fun | .slice e=>jaz C e sz | _=>false)=true)
  (hr:I.pure e (.slice sz x lo hi mx)=some v) (w:World):jay P m t o v w:=by
 simp only [I.pure] at hr
 split at hr
 ·next a ln cap lov hiv mxv h1 h2 h3 h4=>
  split at hr
  ·next l r mm hb=>
   have H:=jab (t:=t) hG he hx h1
   obtain ⟨u,dd,h5,h6,h7⟩:=ja5 hT hu
   cases u<;>simp at h5
   next e2=>
   cases dd<;>simp [jaf] at h7
   next e3=>
   subst h7
   have hmx':=jev (t:=t) hG he hmx h4
   have hlo':=jev (t:=t) hG he hlo h2
   have hhi':=jev (t:=t) hG he hhi h3
   cases a with
   | none=>
    cases hr
    obtain ⟨rfl,rfl,e1⟩:=H
    obtain ⟨h8,h9,h10,h11,h12,h13⟩:=jbO (P:=P) (isS:=true) hlo' hhi' hmx' (zn _) hb w
    have hmm:mm=0:=by simp [Cap.room] at h12;exact h12
    have hr0:r=0:=by
     cases hiv with
     | none=>exact (h11 rfl).1
     | some _=>have:=h10 rfl;omega
    have hl0:l=0:=by omega
    subst hmm hr0 hl0
    refine ⟨.slice none 0 0,?_,rfl,rfl,rfl⟩
    simp only [execOp,ho,zF,Instr.sliceAt,zI h6,zG,Instr.slice,e1]
    simp only [Cap.room] at h8
    rw [h8]
    simp [jam hT h5,Cap.room]
   | some a=>
    obtain ⟨b,o1⟩:=a
    obtain ⟨loc,o',c',h8,e1,h9,h10,h11,h12,h12b⟩:=H
    have hc:cap.room ln<=c':=by
     cases cap with
     | fix k=>rw [h11 k rfl];exact zn _
     | grow q=>exact h9
     | least q k=>exact (h12b q k rfl).1
    obtain ⟨h13,h14,h15,h16,h17,h18⟩:=jbO (P:=P) (isS:=true) hlo' hhi' hmx' hc hb w
    have hrm:r<=(if mxv.isSome then mm else c'):=by
     cases hiv with
     | none=>
      obtain ⟨h19,h20⟩:=h16 rfl
      subst h20
      rw [h19]
      exact h9
     | some q=>
      have:=h15 rfl
      split<;>omega
    generalize hmc:(if mxv.isSome then mm else c')=mc at *
    have hmcc:mc<=c':=by rw [<- hmc];split<;>omega
    have hrun:(execOp (evT t) o).run P w = .ok (.value (.slice (some (if mc=l then o' else o'.add (l*sz))) (r-l) (mc-l))) w:=by
     simp only [execOp,ho,zF,Instr.sliceAt,zI h6,zG,Instr.slice,e1]
     rw [h13]
     simp only [zG,jam hT h5,zF,Option.map_some]
     by_cases hml:mc=l<;>simp [hml]
    refine ⟨_,hrun,?_⟩
    have key : ∀ cp,v = .slice (some (b,o1+l*sz)) (r-l) cp->(∀ k,cp = .fix k->mc-l=k)->(∀ q,cp = .grow q->o1+l*sz+(mc-l)*q<=loc.ext)->(∀ q k,cp = .least q k->k<=mc-l/\o1+l*sz+(mc-l)*q<=loc.ext) ->
      VRel m v (.slice (some (if mc=l then o' else o'.add (l*sz))) (r-l) (mc-l)):=by
     rintro cp rfl hk hq hq2
     refine ⟨loc,_,_,h8,rfl,by omega,?_,hk,hq,hq2⟩
     intro hne
     have hml:mc≠l:=by omega
     rw [zb hml]
     rw [h10 om,jbf,Nat.add_assoc]
    cases cap with
    | grow q=>
     cases mxv with
     | none=>
      simp only [zt,nbeq,zq] at hr
      split at hr
      ·next hq=>
       subst hq
       cases hr
       refine key _ rfl (fun k hk=>by cases hk) (fun q' hq'=>?_) (fun _ _ e=>by cases e)
       cases hq'
       have hmc':mc=c':=by rw [<- hmc];rfl
       have:=h12 _ rfl
       subst hmc'
       simp only at this
       have h19:l*q+(mc-l)*q=mc*q:=by rw [<- Nat.add_mul];congr 1;omega
       omega
      ·cases hr
     | some mv=>
      cases hr
      refine key _ rfl (fun k hk=>?_) (fun q' hq'=>by cases hq') (fun _ _ e=>by cases e)
      cases hk
      simp at hmc;subst hmc;rfl
    | least q k=>
     cases mxv with
     | none=>
      simp only [zt,nbeq,zq] at hr
      split at hr
      ·next hq=>
       subst hq
       cases hr
       refine key _ rfl (fun k hk=>by cases hk) (fun _ e=>by cases e) (fun q' k' hq'=>?_)
       cases hq'
       have hmc':mc=c':=by rw [<- hmc];rfl
       have h20:=h12b _ _ rfl
       subst hmc'
       simp only at h20
       have h19:l*q+(mc-l)*q=mc*q:=by rw [<- Nat.add_mul];congr 1;omega
       omega
      ·cases hr
     | some mv=>
      cases hr
      refine key _ rfl (fun k hk=>?_) (fun q' hq'=>by cases hq') (fun _ _ e=>by cases e)
      cases hk
      simp at hmc;subst hmc;rfl
    | fix k=>
     have hr':v = .slice (some (b,o1+l*sz)) (r-l) (.fix (mm-l)):=by
      cases mxv<;>(cases hr;rfl)
     refine key _ hr' (fun k' hk=>?_) (fun q' hq'=>by cases hq') (fun _ _ e=>by cases e)
     cases hk
     cases mxv with
     | some q=>simp at hmc;subst hmc;rfl
     | none=>
      have:=h18 rfl
      have h20:=h11 k rfl
      simp at hmc
      simp [Cap.room] at this
      omega
  ·cases hr
 ·cases hr
end
end Am
