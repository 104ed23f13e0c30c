/- Our own library, part 8. -/
import Derived.IntWalk
import Derived.Test.YtphpefladchggaaGreatDoorV07
set_option maxHeartbeats 8000000
set_option maxRecDepth 800
set_option linter.all false
namespace Am
open Go
section
variable{P:Program}{C:Cx}{m:Mp}{h:H}{w:World}{e:Env}{t:Array Value}{o:Oper}{v:V}
def jpl(P:Program)(C:Cx)(m:Mp)(t:Array Value)(o:Oper)(ob:Obj)(mk:Nat->V)(w:World):Prop:=
 ∃co x w' ext,(execOp (evT t) o).run P w = .ok (.value x) w'/\w'.heap=w.heap.push co/\WSame w w' /\
  ∀id,m id=none->ORel P C (m.add id ⟨w.heap.size,0,ext⟩) ⟨w.heap.size,0,ext⟩ ob co/\VRel (m.add id ⟨w.heap.size,0,ext⟩) (mk id) x
theorem jjM{l:List V}{xs:Array Value}(hl:jas m l xs.toList)(id:Nat)(hid:m id=none)(el:TypeId)(β:Nat)(fz:Nat×Nat)(hf:fz.1=fz.2\/l.length<=fz.1) :
  ORel P C (m.add id ⟨β,0,l.length⟩) ⟨β,0,l.length⟩ (.cells l false) (.cells xs el fz):=by
 refine⟨xs,el,fz.1,fz.2,rfl,zq _,?_,?_,?_⟩
 .have:=hl.length;simp at this;simp;omega
 .intro k v hv;obtain⟨x,hx,cF⟩:=hl.get hv;exact⟨x,by simpa using hx,cF.mono (Mp.add_mono hid)⟩
 .intro _;simpa using hf
theorem jnQ(hT:TOk P C){sz:Nat}{z:List V}{ty:TypeId}(ho:o.op = .alloc ty)(hz:jdY C ty z=true):jpl P C m t o (.cells z false) (fun b=>.ptr (some (b,0))) w:=by
 obtain⟨zv,h1,h2⟩:=jfx hT hz m;refine⟨.cells zv.cells ty (0,0),.pointer (some ⟨w.heap.size,0,none⟩),{w with heap:=w.heap.push (.cells zv.cells ty (0,0))},z.length,?_,rfl,⟨rfl,rfl,rfl⟩,?_⟩
 .simp[execOp,ho,Instr.alloc,h1,newVar,Go.newRow]
 .intro id hid;exact⟨jjM h2 id hid ty _ (0,0) (.inl rfl),_,Mp.add_self _ _,by simp⟩
theorem make_box(hG:GOk C m)(he:ERel m e t){sz:Nat}{x:Opd}{x':Operand}{ty:TypeId}(ho:o.op = .box ty x')(hx:opdM C x x'=true){ob:Obj}{mk:Nat->V}
  (hr:I.make e (.box sz x)=some (ob,mk)):jpl P C m t o ob mk w:=by
 simp only[I.make]at hr;split at hr
 .next u hu=>
  cases hr;have H:=(jah (t:=t) hG he hx hu).cells;refine⟨.cells (evT t x').cells ty (0,0),.pointer (some ⟨w.heap.size,0,none⟩),{w with heap:=w.heap.push (.cells (evT t x').cells ty (0,0))},u.cells.length,?_,rfl,⟨rfl,rfl,rfl⟩,?_⟩
  .simp[execOp,ho,Instr.box,newVar,Go.newRow]
  .intro id hid;exact⟨jjM H id hid ty _ (0,0) (.inl rfl),_,Mp.add_self _ _,by simp⟩
 .cases hr
theorem flat_get{α:Type}(l:List α):∀(c k:Nat),(List.replicate c l).flatten[k]?=if k<c*l.length then l[k%l.length]? else none
 |0,k=>by simp
 |c+1,k=>by
  rw[List.replicate_succ,zW,ze];by_cases h:k<l.length
  .rw[zD h,zD (by rw[Nat.add_mul];omega),Nat.mod_eq_of_lt h]
  .rw[zC h,flat_get l c (k-l.length)];have:(k-l.length)%l.length=k%l.length:=by rw[<- Nat.mod_eq_sub_mod om]
   rw[this];by_cases h2:k-l.length<c*l.length
   .rw[zD h2,zD (by rw[Nat.add_mul];omega)]
   .rw[zC h2,zC (by rw[Nat.add_mul];omega)]
theorem jkK(z:Array Value)(c:Nat):((Array.range (c*z.size)).map fun i=>z[i%z.size]!).toList=(List.replicate c z.toList).flatten:=by
 apply zT;intro k;rw[flat_get];simp only[Array.toList_map,Array.toList_range,List.getElem?_map,Array.length_toList];by_cases h:k<c*z.size
 .rw[zD h,List.getElem?_range h];have hz:k%z.size<z.size:=Nat.mod_lt _ (by rcases Nat.eq_zero_or_pos z.size with h0|h0;(rw[h0]at h;simp at h);exact h0);simp[hz]
 .rw[zC h];simp;omega
theorem jas.flat{l:List V}{xs:List Value}(h:jas m l xs):∀c,jas m (List.replicate c l).flatten (List.replicate c xs).flatten
 |0=>rfl
 |c+1=>by
  rw[List.replicate_succ,zW,List.replicate_succ,zW];exact h.append (jas.flat h c)
theorem jln{n:Int}(h0:0<=n)(h1:n<=2 ^ 46):IntKind.i64.wrap n=n:=by
 exact IntWalk.i64_in n om
theorem jlg(hT:TOk P C)(hG:GOk C m)(he:ERel m e t){sz bytes:Nat}{z:List V}{l c:Opd}{l' c':Operand}{ty:TypeId}(ho:o.op = .makeSlice ty l' c')(hl:opdM C l l'=true)(hc:opdM C c c'=true)
  (hu:isU C ty (fun|.slice e=>jb3 C e sz&&jiA C e bytes&&jdY C e z&&Nat.beq z.length sz|_=>false)=true) {ob:Obj} {mk:Nat->V}
  (hr:I.make e (.mkSlice sz bytes z l c)=some (ob,mk)):jpl P C m t o ob mk w:=by
 simp only[I.make]at hr;split at hr
 .next k1 a k2 b h1 h2=>
  simp only[zH,zp,zQ]at hr;split at hr
  .next hb=>
   cases hr;obtain⟨⟨iG,pO⟩,Bi⟩:=hb;have e1:evT t l' = .int k1 (Int.ofNat a):=jah hG he hl h1;have e2:evT t c' = .int k2 (Int.ofNat b):=jah hG he hc h2;obtain⟨u,dd,h3,h4,h5⟩:=jb8 hT hu;cases u<;>simp at h3
   next el=>
   cases dd<;>simp[jal]at h5
   next el'=>
   subst h5;obtain⟨⟨⟨h6,h7⟩,h8⟩,h9⟩:=h3;obtain⟨zv,jB,rH⟩:=jfx hT h8 m;obtain⟨info,nI,cR⟩:=ji9 hT h7;have tH:zv.cells.size=sz:=by have:=rH.length;simp at this;omega
   have wa:IntKind.i64.wrap (Int.ofNat a)=(a:Int):=jln Zd (by simp only[Int.ofNat_eq_natCast];omega);have wb:IntKind.i64.wrap (Int.ofNat b)=(b:Int):=jln Zd (by simp only[Int.ofNat_eq_natCast];omega);have qO:=jkK zv.cells b;rw[tH]at qO;let cs:Array Value:=if b*sz=0 then #[] else (Array.range (b*sz)).map fun i=>zv.cells[i%zv.cells.size]!;have lA:jas m (List.replicate b z).flatten cs.toList:=by
    have:=rH.flat b;show jas m _ (if b*sz=0 then (#[]:Array Value) else _).toList;split
    .next h0=>
     have j4:(List.replicate b z).flatten.length=0:=by simp;rw[<- h9]at h0;simpa using h0
     rw[zn.1 j4];rfl
    .rw[tH,qO];exact this
   refine⟨.cells cs el (0,0),.slice (some ⟨w.heap.size,0,none⟩) a b,{w with heap:=w.heap.push (.cells cs el (0,0))},(List.replicate b z).flatten.length,?_,rfl,⟨rfl,rfl,rfl⟩,?_⟩
   .have fD:(info.bytes:Int)*(b:Int)=((b*bytes:Nat):Int):=by rw[cR,Nat.mul_comm];simp
    have aK:¬((info.bytes:Int)*(b:Int)>2 ^ 48):=by rw[fD];omega
    have kX:¬((b:Int)<0):=by omega
    have Nb:¬((a:Int)<0):=by omega
    have Pb:¬((a:Int)>(b:Int)):=by omega
    simp only[execOp,ho,Zj,Instr.makeSlice,Zm h4,Zk,e1,e2,Go.asInt,asIntOf,Zl,typeInfo,run_program,nI,wa,wb];simp only[kX,aK,Nb,Pb,decide_false,Bool.or_false,zR,if_false,Zj,run_askRoom,Zk,ja8 hT h6,zw];by_cases h0:b*sz=0
    .have cH:Array.range 0 = #[]:=rfl;simp[h0,cs,Go.newRow,cH]
    .simp[h0,cs,Go.newRow,jB,tH]
   .intro id hid;refine⟨jjM lA id hid el _ (0,0) (.inl rfl),_,_,b,Mp.add_self _ _,rfl,iG,fun _=>rfl,fun k hk=>by cases hk;rfl,fun q hq=>(by cases hq),fun _ _ e=>(by cases e)⟩
  .cases hr
 .cases hr
theorem jgi(hG:GOk C m)(he:ERel m e t){sz:Nat}:∀{ps:List (Nat×Opd)} {qs:List (Nat×Operand)} {vs:List (Nat×Nat×V)},jii C ps qs=true->jb2 e (ps.map fun p=>(p.1*sz,sz,p.2))=some vs ->
  jhF m vs (qs.map fun p=>(p.1,evT t p.2)) (fun i=>some (i*sz,sz))
 |[],[],vs,_,h=>by simp[jb2]at h;subst h;trivial
 |[],_::_,_,h,_=>by simp[jii]at h
 |_::_,[],_,h,_=>by simp[jii]at h
 |(i,x)::r,(j,y)::s,vs,h,hv=>by
  simp only[jii,zp,nbeq,zF]at h;simp only[List.map_cons,jb2]at hv;split at hv
  .next a l h1 h2=>
   cases hv;obtain⟨⟨rfl,h3⟩,h4⟩:=h;exact⟨rfl,jah hG he h3 h1,jgi hG he h4 h2⟩
  .cases hv
theorem jmd(hT:TOk P C)(hG:GOk C m)(he:ERel m e t){sz ln n:Nat}{z:List V}{ps:List (Nat×Opd)}{qs:Array (Nat×Operand)}{ty:TypeId}(ho:o.op = .buildSlice ty n qs)(hn:ln=n)
  (hu:isU C ty (fun|.slice e=>jqa C e n sz z|_=>false)=true) (hp:jii C ps qs.toList=true) (aK:n*sz<=2 ^ 24) {ob:Obj} {mk:Nat->V}
  (hr:I.make e (.bslice sz ln z ps)=some (ob,mk)):jpl P C m t o ob mk w:=by
 subst hn;simp only[I.make]at hr;split at hr
 .next vs h1=>
  split at hr
  .next l h2=>
   cases hr;obtain⟨u,dd,h3,h4,h5⟩:=jb8 hT hu;cases u<;>simp at h3
   next el=>
   cases dd<;>simp[jal]at h5
   next el'=>
   subst h5;unfold jqa at h3;simp only[zp,Bool.or_eq_true]at h3;obtain⟨h6,h7⟩:=h3;have lF:∃zs:Array Value,jas m z zs.toList/\(do
     let zero<-if ln*sz=0 then pure #[] else do pure (<- zeroValue el).cells
     pure ((Array.range (ln*sz)).map (zero[· % zero.size]!)):Sem (Array Value)).run P w = .ok zs w:=by
    rcases h7 with h7|h7
    .obtain⟨h8,h9⟩:=h7;have h8:=jdr.1 h8;have:z=[]:=by simpa using h9
     subst this;exact⟨#[],rfl,by simp[h8]⟩
    .split at h7
     .next i hi=>
      split at h7
      .next y hy=>
       simp only[zp]at h7;obtain⟨h8,h9⟩:=h7;have h8:=jdr.1 h8;obtain⟨info,d,F⟩:=hT.facts hi;obtain⟨zv,g1,g2,g3⟩:=F.zero y hy;have hz:∀w,(zeroValue el).run P w = .ok zv w:=fun w=>by simp[zeroValue,typeInfo,F.hinfo,g1]
       have uJ:=(jcZ m g2).cells;have tH:zv.cells.size=sz:=by have:=uJ.length;simp at this;omega
       rw[<- V.sames_eq h9];have qO:=jkK zv.cells ln;rw[tH]at qO;by_cases h0:ln*sz=0
       .refine⟨#[],?_,by simp[h0]⟩;have j4:(List.replicate ln y.cells).flatten.length=0:=by simp;rw[<- h8]at h0;simpa using h0
        rw[zn.1 j4];rfl
       .refine⟨(Array.range (ln*sz)).map fun i=>zv.cells[i%zv.cells.size]!,?_,by simp[h0,hz]⟩;rw[tH,qO];exact uJ.flat ln
      .cases h7
     .cases h7
   obtain⟨zs,iC,bD⟩:=lF;have vJ:=jgi (t:=t) hG he hp h1;obtain⟨ys,h8,h9⟩:=jfg vJ iC h2;have eR:(qs.map fun (i,x)=>(i,evT t x)).toList=qs.toList.map fun p=>(p.1,evT t p.2):=by simp
   refine⟨.cells ys el (0,0),.slice (some ⟨w.heap.size,0,none⟩) ln ln,{w with heap:=w.heap.push (.cells ys el (0,0))},l.length,?_,rfl,⟨rfl,rfl,rfl⟩,?_⟩
   .simp only[execOp,ho,Zj,Instr.buildSlice,Zm h4,Zk,ja8 hT h6,Sem.run_ite];rw[zC om];by_cases h0:ln*sz=0
    .simp[h0]at bD;subst bD;simp[h0,h8,Go.newRow]
    .simp only[h0,if_false,Zj]at bD ⊢;cases aR:(zeroValue el).run P w with
     |halt a b=>rw[aR]at bD;simp at bD
     |ok zv w1=>
      rw[aR]at bD;simp only[Zk,Zl,Result.ok.injEq]at bD;obtain⟨rfl,rfl⟩:=bD;simp only[Zk,Zl,eR,h8,Zj,Go.newRow,run_newObj]
   .intro id hid;refine⟨jjM h9 id hid el _ (0,0) (.inl rfl),_,_,ln,Mp.add_self _ _,rfl,zq _,fun _=>rfl,fun k hk=>by cases hk;rfl,fun q hq=>(by cases hq),fun _ _ e=>(by cases e)⟩
  .cases hr
 .cases hr
end
end Am
namespace Am
open Go
section
variable{P:Program}{C:Cx}{N:Nat}{m:Mp}{h h':H}{w:World}{e:Env}{t:Array Value}{o:Oper}{v:V}{call:Am.Call}
def Eff(P:Program)(C:Cx)(N:Nat)(m:Mp)(h:H)(w:World)(t:Array Value)(o:Oper)(v:V)(h':H):Prop:=
 ∃m' w',Step P C N m h w m' h' w'/\((∃x,(execOp (evT t) o).run P w = .ok (.value x) w'/\VRel m' v x)\/((execOp (evT t) o).run P w = .ok .skip w'/\v = .undef))
theorem eff_store(hT:TOk P C)(hG:GOk C m)(hr:HRel P C m h w)(he:ERel m e t){n:Nat}{a x:Opd}{a' x':Operand}{ty:TypeId}(ho:o.op = .store ty a' x')(hs:jb3 C ty n=true)
  (ha:opdM C a a'=true) (hx:opdM C x x'=true) (hv:I.eff call e h (.store n a x)=some (v,h')):Eff P C N m h w t o v h':=by
 simp only[I.eff]at hv;split at hv
 .next b off u h1 h2=>
  simp only[zH,beq_iff_eq]at hv;split at hv
  .next hn=>
   split at hv
   .next dH d9=>
    cases hv;obtain⟨l,hl,e1⟩:=jah (t:=t) hG he ha h1;have hu:=jah (t:=t) hG he hx h2;obtain⟨w',h3,h4⟩:=jfV (N:=N) hr d9 hl hu.cells;refine⟨m,w',h4,.inr ⟨?_,rfl⟩⟩;have j4:(evT t x').cells.size=n:=by have:=hu.cells.length;simp at this;omega
    simp only[execOp,ho,Zj,Instr.storeAt,e1,Instr.sureAddr,Zl,Zk,storeVar,ja8 hT hs];rw[zC (by simp[j4])];simp[h3]
   .cases hv
  .cases hv
 .cases hv
theorem jan.set:∀{es:List (V×V×Nat)} {ces:List MapEntry} {k v:V} {b:Nat} {ce:MapEntry} (i:Nat),jan m es ces->VRel m k ce.key->VRel m v ce.val->ce.born=b->jan m (es.set i (k,v,b)) (ces.set i ce)
 |[],_,_,_,_,_,_,h,_,_,_=>by rw[show _=[] from h];simp[jan]
 |(_,_,_)::es,_,k,v,b,ce,0,⟨c0,s,e,h1,h2,h3,h4⟩,g1,g2,g3=>by
  subst e;exact⟨ce,s,rfl,g1,g2,g3,h4⟩
 |(_,_,_)::es,_,k,v,b,ce,i+1,⟨c0,s,e,h1,h2,h3,h4⟩,g1,g2,g3=>by
  subst e;exact⟨c0,_,rfl,h1,h2,h3,jan.set i h4 g1 g2 g3⟩
theorem jan.snoc:∀{es:List (V×V×Nat)} {ces:List MapEntry} {k v:V} {b:Nat} {ce:MapEntry},jan m es ces->VRel m k ce.key->VRel m v ce.val->ce.born=b->jan m (es++[(k,v,b)]) (ces++[ce])
 |[],_,_,_,_,_,h,g1,g2,g3=>by rw[show _=[] from h];exact⟨_,_,rfl,g1,g2,g3,rfl⟩
 |(_,_,_)::es,_,k,v,b,ce,⟨c0,s,e,h1,h2,h3,h4⟩,g1,g2,g3=>by
  subst e;exact⟨c0,_,rfl,h1,h2,h3,jan.snoc h4 g1 g2 g3⟩
theorem jan.get:∀{es:List (V×V×Nat)} {ces:List MapEntry} {k v:V} {b:Nat} {i:Nat},jan m es ces->es[i]?=some (k,v,b) -> ∃ce,ces[i]?=some ce/\VRel m k ce.key/\VRel m v ce.val/\ce.born=b
 |[],_,_,_,_,_,_,hi=>by simp at hi
 |(_,_,_)::es,_,k,v,b,0,⟨c0,s,e,h1,h2,h3,h4⟩,hi=>by
  subst e;simp at hi;obtain⟨rfl,rfl,rfl⟩:=hi;exact⟨c0,rfl,h1,h2,h3⟩
 |(_,_,_)::es,_,k,v,b,i+1,⟨c0,s,e,h1,h2,h3,h4⟩,hi=>by
  subst e;simpa using jan.get h4 (by simpa using hi)
theorem jm2(hG:GOk C m)(he:ERel m e t){a b:Opd}{c:Go.Call}(hx:jcc C [a,b] c.args.toList=true){u z:V}(hu:a.ev e=some u)(hz:b.ev e=some z) :
  ∃x y,(c.args.map (evT t))[0]?=some x/\(c.args.map (evT t))[1]?=some y/\VRel m u x/\VRel m z y:=by
 obtain⟨a',b',jL,ha,hb⟩:∃a' b',c.args.toList=[a',b']/\opdM C a a'=true/\opdM C b b'=true:=by
  match hq:c.args.toList,hx with
  |[a',b'],hx=>simp[jcc]at hx;exact⟨a',b',rfl,hx.1,hx.2⟩
  |[],hx=>simp[jcc]at hx
  |[_],hx=>simp[jcc]at hx
  |_::_::_::_,hx=>simp[jcc]at hx
 have:(c.args.map (evT t)).toList=[evT t a',evT t b']:=by simp[jL]
 refine⟨evT t a',evT t b',?_,?_,jah hG he ha hu,jah hG he hb hz⟩
 .rw[<- Array.getElem?_toList,this];rfl
 .rw[<- Array.getElem?_toList,this];rfl
end
end Am
namespace Am
open Go
section
variable{P:Program}{C:Cx}{N:Nat}{m:Mp}{h h':H}{w:World}{e:Env}{t:Array Value}{o:Oper}{v:V}{call:Am.Call}
theorem jlj{x:V}{y:Value}{n:Nat}(hx:VRel m x y)(hn:lenOf x=some n):(Builtin.lenOf y).run P w = .ok n w:=by
 cases x with
 |slice a k c=>
  simp[lenOf]at hn;subst hn;cases a with
  |none=>obtain⟨rfl,_,rfl⟩:=hx;rfl
  |some a=>obtain⟨_,_,_,_,rfl,_⟩:=hx;rfl
 |str s=>
  simp[lenOf]at hn;subst hn;rw[show y=_ from hx];simp[Builtin.lenOf,ByteArray.size]
 |_=>simp[lenOf]at hn
theorem jmo(s:List UInt8)(n:Nat):jas m ((s.take n).map jcY) (((ByteArray.mk ⟨s⟩).extract 0 n).data.map fun b=>Value.int .u8 b.toNat).toList:=by
 have:((ByteArray.mk ⟨s⟩).extract 0 n).data.toList=s.take n:=by simp[ByteArray.data_extract]
 rw[Array.toList_map,this];generalize s.take n=l;induction l with
 |nil=>rfl
 |cons b l ih=>exact⟨_,_,rfl,rfl,ih⟩
theorem jd2(hr:HRel P C m h w){sz n k:Nat}{x:V}{y:Value}{l:List V}(hx:VRel m x y)(hl:jaz h sz n x=some l)(hk:lenOf x=some k)(hn:n<=k) :
  ∃xs:Array Value,(Builtin.firstCells sz n y).run P w = .ok xs w/\jas m l xs.toList:=by
 unfold jaz at hl;split at hl
 .cases hl;obtain⟨_,_,rfl⟩:=hx;exact⟨#[],rfl,rfl⟩
 .next b off len cp=>
  obtain⟨loc,o',c',h1,rfl,h2,h3,_⟩:=hx;simp[lenOf]at hk;subst hk;simp only[zH,beq_iff_eq]at hl;split at hl
  .next h0=>
   cases hl;refine⟨#[],?_,rfl⟩;simp[Builtin.firstCells,h0,loadCells,loadCellsFrom]
  .next h0=>
   have hc:c'≠0:=by
    intro hc;subst hc;have:n=0:=by omega
    subst this;simp at h0
   have qC:=h3 hc;obtain⟨xs,h5,h6⟩:=jkl hr hl h1;exact⟨xs,by simp only[Builtin.firstCells,qC,h5],h6⟩
 .next s=>
  simp only[zH,beq_iff_eq]at hl;split at hl
  .next h1=>
   cases hl;rw[show y=_ from hx];exact⟨_,rfl,jmo s n⟩
  .cases hl
 .cases hl
theorem ji4(hT:TOk P C){ts:Array TypeId}{f:TypeId->Bool}(h:jha C ts f=true):∃ty el,ts[0]?=some ty/\f el=true/\P.underlying ty=some (.slice el):=by
 unfold jha at h;split at h
 .next ty cJ=>
  obtain⟨u,dd,h1,h2,h3⟩:=jb8 hT h;cases u<;>simp at h1;cases dd<;>simp[jal]at h3;subst h3;exact⟨ty,_,cJ,h1,h2⟩
 .cases h
theorem jhj(hT:TOk P C){ts:Array TypeId}(h:jgN C ts=true):ts[1]?=none\/∃ty d,ts[1]?=some ty/\P.underlying ty=some d/\(match d with|.int _=>true|_=>false)=false:=by
 unfold jgN at h;split at h
 .next ty cJ=>
  obtain⟨u,dd,h1,h2,h3⟩:=jb8 hT h;refine .inr ⟨ty,dd,cJ,h2,?_⟩;cases u<;>cases dd<;>simp_all[jal]
 .next cJ=>exact .inl cJ
theorem jnj(hT:TOk P C){el:TypeId}{sz:Nat}(h:jk4 C el sz=true):∃zv,(∀w,(zeroValue el).run P w = .ok zv w)/\zv.cells.size=sz:=by
 unfold jk4 at h;split at h
 .next i hi=>
  split at h
  .next y hy=>
   obtain⟨info,d,F⟩:=hT.facts hi;obtain⟨zv,g1,g2,g3⟩:=F.zero y hy;refine⟨zv,fun w=>by simp[zeroValue,typeInfo,F.hinfo,g1],?_⟩;have:=(jcZ (fun _=>none) g2).cells.length;simp at this;have:=jdr.1 h;omega
  .cases h
 .cases h
theorem jbN{c:Go.Call}{ty el:TypeId}{sz:Nat}{base:Option Addr}{sl sc n:Nat}{y:Value}{xs:Array Value}(hT:TOk P C)(h0:c.argTypes[0]?=some ty)(hu:P.underlying ty=some (.slice el))
  (w8:jb3 C el sz=true) (uH:jgN C c.argTypes=true) (a0:(c.args.map (evT t))[0]?=some (.slice base sl sc)) (a1:(c.args.map (evT t))[1]?=some y) (j4:(Builtin.lenOf y).run P w = .ok n w)
  (vH:(Builtin.firstCells sz n y).run P w = .ok xs w) (rE:sl+n<=sc) {w':World} (d9:(match base with
   |some a=>storeCells (a.add (sl*sz)) xs.toList
   |none=>pure ():Sem Unit).run P w = .ok () w'):(Builtin.append_ c.argTypes o.type (c.args.map (evT t))).run P w = .ok (.slice base (sl+n) sc) w':=by
 unfold Builtin.append_;simp only[h0,a0,a1,Zj,Zm hu,Zk,ja8 hT w8];rcases jhj hT uH with g1|⟨Qb,d,g1,g2,g3⟩
 .simp only[g1,Zj,Zl,Zk,zR,if_false,j4,Bool.not_false,if_true,rE,vH];cases base with
  |none=>simp only[Zl]at d9;cases d9;rfl
  |some a=>simp only at d9;simp only[Zj,d9,Zk,Zl]
 .cases d
  case int k=>exact Bool.noConfusion g3
  all_goals
   simp only[g1,Zj,Zm g2,Zl,Zk,zR,if_false,j4,Bool.not_false,if_true,rE,vH];cases base with
   |none=>simp only[Zl]at d9;cases d9;rfl
   |some a=>simp only at d9;simp only[Zj,d9,Zk,Zl]
theorem je7{c:Go.Call}{ty el:TypeId}{sz bytes:Nat}{base:Option Addr}{sl sc n:Nat}{y:Value}{xs ol:Array Value}(hT:TOk P C)(h0:c.argTypes[0]?=some ty)(hu:P.underlying ty=some (.slice el))
  (w8:jb3 C el sz=true) (bN:jiA C el bytes=true) (uC:bytes≠0) (tH:jk4 C el sz=true) (uH:jgN C c.argTypes=true)
  (a0:(c.args.map (evT t))[0]?=some (.slice base sl sc)) (a1:(c.args.map (evT t))[1]?=some y) (j4:∀w,(Builtin.lenOf y).run P w = .ok n w)
  (sO:(Builtin.firstCells sz n y).run P {w with drawn:=w.drawn+1} = .ok xs {w with drawn:=w.drawn+1})
  (dN:(Builtin.firstCells sz sl (.slice base sl sc)).run P {w with drawn:=w.drawn+1} = .ok ol {w with drawn:=w.drawn+1}) (rE:¬sl+n<=sc)
  (aK:(sl+n)*bytes<=2 ^ 46) (qT:sl+n<=2 ^ 46) (wF:ol.size=sl*sz) (bF:xs.size=n*sz) :
  ∃cap w' rest,(Builtin.append_ c.argTypes o.type (c.args.map (evT t))).run P w = .ok (.slice (some ⟨w.heap.size,0,none⟩) (sl+n) cap) w'/\sl+n<=cap/\w'.heap=w.heap.push (.cells (ol++xs++rest) el (0,0))/\WSame w w' /\
   (ol++xs++rest).size=cap*sz:=by
 obtain⟨info,a8,fN⟩:=ji9 hT bN;obtain⟨zv,iC,bD⟩:=jnj hT tH;let q:Question:= .appendCap (sl+n) sc el;let cap:=q.cut (w.tape w.drawn q);have wH:sl+n<=cap:=by show sl+n<=sl+n+_;omega
 let rest:=Builtin.zeroCells zv.cells (cap-(sl+n));let w1:World:= {w with drawn:=w.drawn+1}
 refine⟨cap,{w1 with heap:=w.heap.push (.cells (ol++xs++rest) el (0,0))},rest,?_,wH,rfl,⟨rfl,rfl,rfl⟩,?_⟩
 .have lX:∀w:World,(choose (.appendCap (sl+n) sc el)).run P w = .ok ((Question.appendCap (sl+n) sc el).cut (w.tape w.drawn (.appendCap (sl+n) sc el))) {w with drawn:=w.drawn+1}:= by
   intro w;simp[Question.forced]
  have dR:∀w,(typeInfo el).run P w = .ok info w:=fun w=>by simp[typeInfo,a8]
  have hg:=growslice_fits (need:=sl+n) (old:=sc) (bytes:=info.bytes) om (by rw[fN];omega);have hm:¬(((sl+n:Nat):Int)>IntKind.i64.max):=by rw[IntKind.max_i64];omega
  have tO:info.bytes≠0:=by rw[fN];exact uC
  have bK:¬(Builtin.nextslicecap (sl+n) sc*info.bytes>2 ^ 48):=by omega
  unfold Builtin.append_;simp only[h0,a0,a1,Zj,Zm hu,Zk,ja8 hT w8];rcases jhj hT uH with g1|⟨Qb,d,g1,g2,g3⟩
  .simp only[g1,Zj,Zl,Zk,zR,if_false,j4,Bool.not_false,if_true,rE,dR,false_or,tO,and_false,bK,lX,run_askRoom];rw[dN];simp only[Zk];rw[sO];simp only[Zk,iC,Go.newRow,Zj,run_newObj,Zl];rfl
  .cases d
   case int k=>exact Bool.noConfusion g3
   all_goals
    simp only[g1,Zj,Zm g2,Zl,Zk,zR,if_false,j4,Bool.not_false,if_true,rE,dR,false_or,tO,and_false,bK,lX,run_askRoom];rw[dN];simp only[Zk];rw[sO];simp only[Zk,iC,Go.newRow,Zj,run_newObj,Zl];rfl
 .have:rest.size=(cap-(sl+n))*sz:=by show (Builtin.zeroCells _ _).size=_;rw[size_zeroCells,bD]
  simp only[Array.size_append,wF,bF,this];have:sl*sz+n*sz+(cap-(sl+n))*sz=cap*sz:=by
   rw[<- Nat.add_mul,<- Nat.add_mul];congr 1;omega
  exact this
theorem step_move{b id d:Nat}{l:List V}{ob:Obj}{loc:Loc}{co co':Go.Obj}{h':H}{w':World}(hr:HRel P C m h w)(hb:h.get b=some (.cells l false))(hl:m b=some loc)(hN:N<=id)(hid:m id=none)(Ci:h.get id=none)
  (wD:∀j,h'.get j=if j=id then some ob else if j=b then none else h.get j) (kF:h.nx<=h'.nx) (d4:id<h'.nx) (w8:w'.heap.size=w.heap.size) (pT:w.heap[loc.β]?=some co) (hβ:w'.heap[loc.β]?=some co')
  (pG:∀j,j≠loc.β -> w'.heap[j]?=w.heap[j]?) (hs:WSame w w') (ho:ORel P C (m.add id ⟨loc.β,loc.d+d,loc.ext-d⟩) ⟨loc.β,loc.d+d,loc.ext-d⟩ ob co') (eJ:∀L:Loop,co ≠ .loop L) :
  Step P C N m h w (m.add id ⟨loc.β,loc.d+d,loc.ext-d⟩) h' w':=by
 have hm:=Mp.add_mono (l:=⟨loc.β,loc.d+d,loc.ext-d⟩) hid;have Di:b≠id:=by intro e;subst e;rw[hl]at hid;cases hid
 have hβlt:=hr.lt hb hl;refine⟨hm,?_,⟨?_,?_,?_⟩,kF,?_,by rw[w8];exact zq _,?_,?_,hs.os,hs.tape,hs.output⟩
 .intro j hj e;unfold Mp.add;rw[zC om];exact e
 .intro j oj hj;rw[wD]at hj;split at hj
  .next e=>cases hj;subst e;exact⟨_,co',Mp.add_self _ _,hβ,ho⟩
  .split at hj
   .cases hj
   .next d5=>
    obtain⟨lj,coj,h1,h2,h3⟩:=hr.obj j oj hj;refine⟨lj,coj,hm _ _ h1,?_,h3.mono hm⟩;rw[pG]
    .exact h2
    .intro e2;have:=hr.inj j b oj _ lj loc hj hb d5 h1 hl e2;cases this.2
 .intro j k oj ok lj lk hj hk d5 h1 h2 h3;rw[wD]at hj hk;unfold Mp.add at h1 h2;split at hj
  .next e=>
   rw[zD e]at h1;cases h1;rw[zC om]at hk h2;split at hk
   .cases hk
   .next hkb=>
    have:=hr.inj b k _ ok loc lk hb hk (Ne.symm hkb) hl h2 h3;cases this.1
  .next e=>
   rw[zC e]at h1;split at hj
   .cases hj
   .next hjb=>
    split at hk
    .next e'=>
     rw[zD e']at h2;cases h2;have:=hr.inj j b oj _ lj loc hj hb hjb h1 hl h3;cases this.2
    .next e'=>
     rw[zC e']at h2;split at hk
     .cases hk
     .exact hr.inj j k oj ok lj lk hj hk d5 h1 h2 h3
 .intro j lj hj;unfold Mp.add at hj;split at hj
  .next e=>subst e;exact d4
  .have:=hr.dom j lj hj;omega
 .intro j hj e;rw[wD,zC om];split
  .rfl
  .exact e
 .intro β hβ' j5;have d5:β ≠ loc.β:= fun e=>j5 ⟨b,_,loc,hb,rfl,hl,e.symm⟩;refine⟨pG β d5,?_⟩;rintro⟨j,oj,lj,h1,h2,h3,h4⟩;rw[wD]at h1;unfold Mp.add at h3;split at h1
  .next e=>rw[zD e]at h3;cases h3;exact d5 h4.symm
  .next e=>
   rw[zC e]at h3;split at h1
   .cases h1
   .exact j5 ⟨j,oj,lj,h1,h2,h3,h4⟩
 .intro β L hL;by_cases e:β = loc.β
  .subst e;rw[pT]at hL;cases hL;exact zJ rfl (eJ L)
  .exact⟨L,by rw[pG β e];exact hL⟩
end
end Am
namespace Am
open Go
section
variable{P:Program}{C:Cx}{N:Nat}{m:Mp}{h h':H}{w:World}{e:Env}{t:Array Value}{o:Oper}{v:V}{call:Am.Call}
theorem HRel.of_heap{w':World}(hr:HRel P C m h w)(hw:w'.heap=w.heap):HRel P C m h w':=
 ⟨fun b o hb=>let ⟨l,co,h1,h2,h3⟩:=hr.obj b o hb;⟨l,co,h1,by rw[hw];exact h2,h3⟩,hr.inj,hr.dom⟩
theorem HRel.nofuture(hr:HRel P C m h w){b:Nat}(hb:h.nx<=b):m b=none/\h.get b=none:=by
 have h1:m b=none:=by
  cases e:m b with
  |none=>rfl
  |some l=>have:=hr.dom b l e;omega
 refine⟨h1,?_⟩;cases e:h.get b with
 |none=>rfl
 |some o=>obtain⟨l,co,h2,_⟩:=hr.obj b o e;rw[h1]at h2;cases h2
theorem jdi{h:H}{sz n k:Nat}{x:V}{l:List V}(hl:jaz h sz n x=some l)(hk:lenOf x=some k)(hn:n<=k)(hx:∀c,x = .slice none k c->k=0):l.length=n*sz:=by
 unfold jaz at hl;split at hl
 .cases hl;simp[lenOf]at hk;subst hk;have:=hx _ rfl;subst this;have:n=0:=by omega
  simp[this]
 .simp only[zH,beq_iff_eq]at hl;split at hl
  .next h0=>cases hl;simp[h0]
  .exact jiv hl
 .simp only[zH,beq_iff_eq]at hl;split at hl
  .next h1=>cases hl;simp[lenOf]at hk;subst hk;simp[h1];omega
  .cases hl
 .cases hl
theorem jmJ{l:List V}{xs rest:Array Value}(hl:jas m l xs.toList){id:Nat}(hid:m id=none)(el:TypeId)(β ext:Nat)(Ei:ext=xs.size+rest.size) :
  ORel P C (m.add id ⟨β,0,ext⟩) ⟨β,0,ext⟩ (.cells l false) (.cells (xs++rest) el (0,0)):=by
 have j4:=hl.length;simp at j4;refine⟨_,el,0,0,rfl,by simp;omega,by simp;omega,?_,?_⟩
 .intro k v hv;obtain⟨x,hx,cF⟩:=hl.get hv;have hk:k<xs.size:=by
   rcases zx k xs.toList.length with d4|tB
   .simpa using d4
   .rw[zd tB]at hx;cases hx
  refine⟨x,?_,cF.mono (Mp.add_mono hid)⟩;simp only[zP];rw[Array.getElem?_append,zD hk,<- hx];simp
 .intro _;exact .inl rfl
theorem jnU(hT:TOk P C)(hG:GOk C m)(hr:HRel P C m h w)(he:ERel m e t)(hN:N<=h.nx){sz bytes:Nat}{a b:Opd}{c:Go.Call}(ho:o.op = .call c)(hc:c.callee = .builtin .append)(hx:jcc C [a,b] c.args.toList=true)
  (uH:jgN C c.argTypes=true) (hE:jha C c.argTypes (fun e=>jb3 C e sz&&jiA C e bytes && !(Nat.beq bytes 0)&&jk4 C e sz)=true)
  (hv:I.eff call e h (.append sz bytes a b)=some (v,h')):Eff P C N m h w t o v h':=by
 obtain⟨ty,el,g0,gE,gu⟩:=ji4 hT hE;simp only[zp,Bool.not_eq_true',nbeq,decide_eq_false_iff_not]at gE;obtain⟨⟨⟨w8,bN⟩,uC⟩,tH⟩:=gE;have fin:∀x w',(Builtin.append_ c.argTypes o.type (c.args.map (evT t))).run P w = .ok x w'->(execOp (evT t) o).run P w = .ok (.value x) w':=by
  intro x w' hw;simp only[execOp,ho,Zj,resolve,hc,Zk,Zl,invoke,builtin,hw]
 simp only[I.eff]at hv;split at hv
 .next av bv g1 g2=>
  obtain⟨x,y,a0,a1,cK,dK⟩:=jm2 (t:=t) hG he hx g1 g2;unfold jaH at hv;split at hv
  .cases hv
  next n hn=>
  split at hv
  .cases hv
  next new mB=>
  split at hv
  case h_2=>cases hv
  next base ln cap=>
  simp only[zH,zp,zQ]at hv;split at hv
  case isFalse=>cases hv
  next aK=>
  obtain⟨aK,qT⟩:=aK;have j4:∀w,(Builtin.lenOf y).run P w = .ok n w:=fun w=>jlj dK hn;obtain⟨xs,vH,bF⟩:=jd2 hr dK mB hn (zq _);have eJ:new.length=n*sz:=jdi mB hn (zq _) (fun c' tF=>by subst tF;exact dK.1);have Fi:xs.size=n*sz:=by have:=bF.length;simp at this;omega
  let w1:World:= {w with drawn:=w.drawn+1}
  have y8:HRel P C m h w1:=hr.of_heap rfl;obtain⟨fJ,sO,rT⟩:=jd2 (w:=w1) y8 dK mB hn (zq _);have mX:fJ.size=n*sz:=by have:=rT.length;simp at this;omega
  have eK:=hr.nofuture (zq h.nx);split at hv
  ·
   next h0=>
   cases hv;have h0:n=0:=by simpa using h0
   subst h0;have kL:xs.toList=[]:=by
    have:xs.size=0:=by omega
    simpa using this
   cases base with
   |none=>
    obtain⟨h1,h2,rfl⟩:=cK;subst h1 h2;refine⟨m,w,Step.refl N hr,.inl ⟨_,fin _ _ (jbN hT g0 gu w8 uH a0 a1 (j4 w) vH (zq _) rfl),rfl,rfl,rfl⟩⟩
   |some p=>
    obtain⟨loc,o',c',h1,rfl,h2,h3⟩:=cK;refine⟨m,w,Step.refl N hr,.inl ⟨_,fin _ _ (jbN hT g0 gu w8 uH a0 a1 (j4 w) vH om (by simp[kL,storeCells])),loc,o',c',h1,rfl,h2,h3⟩⟩
  next h0=>
  have fK:n≠0:=by simpa using h0
  have grow:∀(ol:Array Value) (old:List V) (base':Option Addr) (sl sc:Nat),(c.args.map (evT t))[0]?=some (.slice base' sl sc)->ln=sl -> ¬sl+n<=sc->(Builtin.firstCells sz sl (.slice base' sl sc)).run P w1 = .ok ol w1 ->
    jas m old ol.toList->ol.size=sl*sz -> ∃m' w',Step P C N m h w m' (h.new (.cells (old++new) false)) w' /\
     ∃x,(execOp (evT t) o).run P w = .ok (.value x) w'/\VRel m' (.slice (some (h.nx,0)) (ln+n) (.grow sz)) x:=by
   intro ol old base' sl sc a0' hls iR dN uB wF;subst hls;obtain⟨cap,w',rest,k1,k2,k3,k4,k5⟩:=je7 (o:=o) hT g0 gu w8 bN uC tH uH a0' a1 j4 sO dN iR aK qT wF mX;have lF:ORel P C (m.add h.nx ⟨w.heap.size,0,(ol++fJ).size+rest.size⟩) ⟨w.heap.size,0,(ol++fJ).size+rest.size⟩ (.cells (old++new) false) (.cells (ol++fJ++rest) el (0,0)):=
    jmJ (by rw[Array.toList_append];exact uB.append rT) eK.1 el _ _ rfl
   refine⟨_,w',jfX hr hN eK.1 eK.2 (fun j=>H.get_new h j _) Zd Zd k3 k4 lF,_,fin _ _ k1,_,_,cap,Mp.add_self _ _,rfl,k2,fun _=>rfl,(fun k hk=>by cases hk),(fun q hq=>?_),fun _ _ e=>(by cases e)⟩;cases hq;show 0+cap*sz<=(ol++fJ).size+rest.size;simp only[Array.size_append]at k5 ⊢;omega
  have growk:∀(bk:Nat) (ol:Array Value) (old:List V) (base':Option Addr) (sl sc:Nat),(c.args.map (evT t))[0]?=some (.slice base' sl sc)->ln=sl -> ¬sl+n<=sc->(Builtin.firstCells sz sl (.slice base' sl sc)).run P w1 = .ok ol w1 ->
    jas m old ol.toList->ol.size=sl*sz -> ∃m' w',Step P C N m h w m' ((h.kill bk).new (.cells (old++new) false)) w' /\
     ∃x,(execOp (evT t) o).run P w = .ok (.value x) w'/\VRel m' (.slice (some (h.nx,0)) (ln+n) (.grow sz)) x:=by
   intro bk ol old base' sl sc a0' hls iR dN uB wF;subst hls;obtain⟨cap,w',rest,k1,k2,k3,k4,k5⟩:=je7 (o:=o) hT g0 gu w8 bN uC tH uH a0' a1 j4 sO dN iR aK qT wF mX;have lF:ORel P C (m.add h.nx ⟨w.heap.size,0,(ol++fJ).size+rest.size⟩) ⟨w.heap.size,0,(ol++fJ).size+rest.size⟩ (.cells (old++new) false) (.cells (ol++fJ++rest) el (0,0)):=
    jmJ (by rw[Array.toList_append];exact uB.append rT) eK.1 el _ _ rfl
   have hk:=jkE (N:=N) (b:=bk) hr;have nX:=hk.rel.nofuture (zq (h.kill bk).nx);refine⟨_,w',hk.trans (jfX hk.rel (by simpa using hN) nX.1 nX.2 (fun j=>H.get_new _ j _) Zd Zd k3 k4 lF),_,fin _ _ k1,_,_,cap,Mp.add_self _ _,rfl,k2,fun _=>rfl,(fun k hk=>by cases hk),(fun q hq=>?_),fun _ _ e=>(by cases e)⟩;cases hq;show 0+cap*sz<=(ol++fJ).size+rest.size;simp only[Array.size_append]at k5 ⊢;omega
  cases base with
  |none=>
   obtain⟨rfl,rfl,rfl⟩:=cK;cases hv;obtain⟨m',w',s1,x,s2,s3⟩:=grow #[] [] none 0 0 a0 rfl om rfl rfl Zd;simp only[List.nil_append,zP]at s1 s3;exact⟨m',w',s1,.inl ⟨x,s2,s3⟩⟩
  |some p=>
   obtain⟨bk,off⟩:=p;obtain⟨loc,o',c',h1,rfl,h2,h3,h4,h5⟩:=cK;have oldc:∀old:List V,(bif ln*sz == 0 then some [] else h.load bk off (ln*sz))=some old -> ∃ol:Array Value,(Builtin.firstCells sz ln (.slice (some o') ln c')).run P w1 = .ok ol w1/\jas m old ol.toList/\ol.size=ln*sz:=by
    intro old ho;have hs:jaz h sz ln (.slice (some (bk,off)) ln cap)=some old:=ho;obtain⟨ol,q1,q2⟩:=jd2 (w:=w1) y8 (x:= .slice (some (bk,off)) ln cap) (y:= .slice (some o') ln c') ⟨loc,o',c',h1,rfl,h2,h3,h4,h5⟩ hs rfl (zq _);have:=jdi hs rfl (zq _) (fun c hc=>by cases hc);exact⟨ol,q1,q2,by have:=q2.length;simp at this;omega⟩
   cases cap with
   |fix k=>
    have hk:=h4 k rfl;subst hk;dsimp only at hv;split at hv
    .next rE=>
     split at hv
     .next hh d9=>
      cases hv;have qC:=h3 om;obtain⟨w',q1,q2⟩:=jfV (N:=N) hr d9 h1 bF;refine⟨m,w',q2,.inl ⟨_,fin _ _ (jbN hT g0 gu w8 uH a0 a1 (j4 w) vH rE ?_),loc,o',c',h1,rfl,rE,h3,h4,h5⟩⟩;simp only[qC,jc5];rw[Nat.add_assoc];exact q1
     .cases hv
    .next rE=>
     split at hv
     .next old uB=>
      cases hv;obtain⟨ol,q1,q2,q3⟩:=oldc old (by simpa[zH] using uB);obtain⟨m',w',s1,x,s2,s3⟩:=grow ol old _ ln c' a0 rfl rE q1 q2 q3;exact⟨m',w',s1,.inl ⟨x,s2,s3⟩⟩
     .cases hv
   |least q k=>
    dsimp only at hv;split at hv
    .next hq=>
     have rE:ln+n<=c':=zA hq.2 (h5.2 _ _ rfl).1;split at hv
     .next hh d9=>
      cases hv;have qC:=h3 om;obtain⟨w',q1,q2⟩:=jfV (N:=N) hr d9 h1 bF;refine⟨m,w',q2,.inl ⟨_,fin _ _ (jbN hT g0 gu w8 uH a0 a1 (j4 w) vH rE ?_),loc,o',c',h1,rfl,rE,h3,h4,h5⟩⟩;simp only[qC,jc5];rw[Nat.add_assoc];exact q1
     .cases hv
    .cases hv
   |grow q=>
    dsimp only at hv;split at hv
    .next l hb=>
     simp only[zH,zp,zQ,nbeq,zF]at hv;split at hv
     .next hq=>
      cases hv;obtain⟨⟨rfl,qH⟩,wB⟩:=hq;have h5:=h5.1 _ rfl;by_cases rE:ln+n<=c'
      ·
       have qC:=h3 om;obtain⟨loc',co,k1,k2,cc,elem,lo,hi,rfl,k3,k4,k5,k6⟩:=hr.obj bk _ hb;rw[h1]at k1;cases k1;have m9:∀z∈xs.toList,z.oneCell'=true:=by
        intro z hz;obtain⟨k,hk⟩:=List.getElem?_of_mem hz;have cN:k<new.length:=by
         rw[bF.length];rcases zx k xs.toList.length with d4|tB
         .exact d4
         .rw[zd tB]at hk;cases hk
        obtain⟨x,hx,cF⟩:=bF.get (za cN);rw[hk]at hx;cases hx;rw[<- cF.one];exact zS.1 wB _ (List.getElem_mem cN)
       have wH:(ln+n)*q<=c'*q:=Nat.mul_le_mul_right _ rE;rw[Nat.add_mul]at wH;obtain⟨w',cc',q1,q2,q3,q4,q5,q6⟩:=jcb (P:=P) (β:= loc.β) (o:=loc.d+off+ln*q) xs.toList 0 w cc k2 (fun k hk=>by
        simp at hk;rcases k6 rfl with k6|k6<;>omega) Zc m9
       have lA:cc'.size=cc.size:=by have:=congrArg List.length q4;simpa[jfE] using this
       refine⟨_,w',step_move (ob:= .cells ((l.drop off).take (ln*q)++new) false) (d:=off) hr hb h1 hN eK.1 eK.2 (fun j=>?_) Zd Zd q2 k2 q3 q5 q6 ⟨cc',elem,lo,hi,rfl,?_,?_,?_,?_⟩ (fun L hL=>by cases hL),.inl ⟨_,fin _ _ (jbN hT g0 gu w8 uH a0 a1 (j4 w) vH rE ?_),_,o',c',Mp.add_self _ _,rfl,rE,fun _=>?_,(fun k hk=>by cases hk),(fun q' f9=>?_),fun _ _ e=>(by cases e)⟩⟩
       .rw[H.get_new,H.get_kill];rfl
       .simp[eJ];omega
       .simp only;omega
       .intro k v hv;rw[ze]at hv;have tF:cc'[loc.d+off+k]?=(layL cc.toList (loc.d+off+ln*q+0) xs.toList)[loc.d+off+k]?:=by rw[<- q4];simp
        have d4:((l.drop off).take (ln*q)).length=ln*q:=by simp;omega
        rw[d4]at hv;rw[tF,jkm _ _ _ _ Zc];split at hv
        .next hk=>
         rw[zC om];rw[zN,zD hk,zm]at hv;obtain⟨x,hx,cF⟩:=k5 _ _ hv;exact⟨x,by rw[show loc.d+off+k=loc.d+(off+k) by omega];simpa using hx,cF.mono (Mp.add_mono eK.1)⟩
        .next hk=>
         have Gi:k-ln*q<new.length:=by
          rcases zx (k-ln*q) new.length with d4|tB
          .exact d4
          .rw[zd tB]at hv;cases hv
         rw[zD Zc];obtain⟨x,hx,cF⟩:=bF.get hv;exact⟨x,by rw[show loc.d+off+k-(loc.d+off+ln*q+0)=k-ln*q by omega];exact hx,cF.mono (Mp.add_mono eK.1)⟩
       .intro _;rcases k6 rfl with k6|k6
        .exact .inl k6
        .refine .inr ?_;simp only;omega
       .simp only[qC,jc5];exact q1
       .simp only[qC];rfl
       .cases f9;simp only;omega
      ·
       have sT:(bif ln*q == 0 then some [] else h.load bk off (ln*q))=some ((l.drop off).take (ln*q)):=by
        simp only[zH,beq_iff_eq];split
        .next dD=>rw[dD];rfl
        .unfold H.load;rw[hb];simp[zH,qH]
       obtain⟨ol,q1,q2,q3⟩:=oldc _ sT;obtain⟨m',w',s1,x,s2,s3⟩:=growk bk ol _ _ ln c' a0 rfl rE q1 q2 q3;exact⟨m',w',s1,.inl ⟨x,s2,s3⟩⟩
     .cases hv
    .cases hv
 .cases hv
theorem eff_copy(hT:TOk P C)(hG:GOk C m)(hr:HRel P C m h w)(he:ERel m e t){sz:Nat}{a b:Opd}{c:Go.Call}(ho:o.op = .call c)(hc:c.callee = .builtin .copy)(hx:jcc C [a,b] c.args.toList=true)
  (hE:jha C c.argTypes (fun e=>jb3 C e sz)=true) (hv:I.eff call e h (.copy sz a b)=some (v,h')):Eff P C N m h w t o v h':=by
 obtain⟨ty,el,g0,w8,gu⟩:=ji4 hT hE;have fin:∀x w',(Builtin.copy_ c.argTypes o.type (c.args.map (evT t))).run P w = .ok x w'->(execOp (evT t) o).run P w = .ok (.value x) w':=by
  intro x w' hw;simp only[execOp,ho,Zj,resolve,hc,Zk,Zl,invoke,builtin,hw]
 simp only[I.eff]at hv;split at hv
 .next av bv g1 g2=>
  obtain⟨x,y,a0,a1,cK,dK⟩:=jm2 (t:=t) hG he hx g1 g2;unfold jks at hv;split at hv
  .next base ln cap k hk=>
   dsimp only at hv;split at hv
   .cases hv
   next l hl=>
   obtain⟨xs,vH,bF⟩:=jd2 hr dK hl hk (Nat.min_le_left _ _);have j4:(Builtin.lenOf y).run P w = .ok k w:=jlj dK hk;have run:∀(base':Option Addr) (c':Nat) (w':World),x = .slice base' ln c'->(match base' with|some a=>storeCells a xs.toList|none=>pure ():Sem Unit).run P w = .ok () w' ->
     (Builtin.copy_ c.argTypes o.type (c.args.map (evT t))).run P w = .ok (.int .i64 (Nat.min k ln:Nat)) w':=by
    rintro base' c' w' rfl d9;unfold Builtin.copy_;simp only[g0,a0,a1,Zj,Zm gu,Zk,j4,ja8 hT w8,vH];cases base' with
    |none=>simp only[Zl]at d9;cases d9;rfl
    |some a=>simp only at d9;simp only[Zj,d9,Zk,Zl,goInt]
   simp only[zH]at hv;split at hv
   .next hemp=>
    cases hv;have:l=[]:=by simpa using hemp
    subst this;have kL:xs.toList=[]:=bF;cases base with
    |none=>
     obtain⟨rfl,rfl,rfl⟩:=cK;exact⟨m,w,Step.refl N hr,.inl ⟨_,fin _ _ (run none 0 w rfl rfl),rfl⟩⟩
    |some p=>
     obtain⟨loc,o',c',h1,rfl,h2,h3⟩:=cK;exact⟨m,w,Step.refl N hr,.inl ⟨_,fin _ _ (run (some o') c' w rfl (by simp[kL,storeCells])),rfl⟩⟩
   .next hemp=>
    cases base with
    |none=>cases hv
    |some p=>
     obtain⟨bk,off⟩:=p;obtain⟨loc,o',c',h1,rfl,h2,h3,h4⟩:=cK;dsimp only at hv;split at hv
     .next hh d9=>
      cases hv;have qC:o'=⟨loc.β,loc.d+off,none⟩:=by
       refine h3 ?_;intro h0;subst h0;have aI:ln=0:=by omega
       subst aI;have qE:=jdi hl hk (Nat.min_le_left _ _) (fun c' tF=>by subst tF;exact dK.1);have:l=[]:=by
        have:Nat.min k 0=0:=Nat.min_eq_right (zY _);rw[this]at qE;exact zn.1 (by simpa using qE)
       exact hemp (by simp[this])
      obtain⟨w',q1,q2⟩:=jfV (N:=N) hr d9 h1 bF;exact⟨m,w',q2,.inl ⟨_,fin _ _ (run (some o') c' w' rfl (by simp only[qC];exact q1)),rfl⟩⟩
     .cases hv
  .cases hv
 .cases hv
theorem jh0{β:Nat}{c:Array Value}{elem:TypeId}{lo hi:Nat}(hb:w.heap[β]?=some (.cells c elem (lo,hi))) :
  ∃lo' cA,(w.freeze ⟨β,c.size,none⟩ 1).heap[β]?=some (.cells c elem (lo',cA))/\(lo=hi->lo'=c.size)/\(lo≠hi->lo'=min lo c.size):=by
 unfold World.freeze;rw[zC om];refine⟨if lo=hi then c.size else min lo c.size,if lo=hi then c.size+1 else max hi (c.size+1),?_,fun h=>by simp[h],fun h=>by simp[h]⟩;simp only[Array.getElem?_modify,zD,hb,Option.map_some];by_cases h:lo=hi<;>simp[h]
theorem eff_mark(hT:TOk P C)(hG:GOk C m)(hr:HRel P C m h w)(he:ERel m e t){a:Opd}{a':Operand}{s d:TypeId}(ho:o.op = .convert s d a')(ha:opdM C a a'=true)(tT:Nat.beq s d=true)(hd:jl1 C d=true)
  (hv:I.eff call e h (.mark a)=some (v,h')):Eff P C N m h w t o v h':=by
 obtain⟨el,gK,lL⟩:=jju hT hd;have tT:=jdr.1 tT;subst tT;simp only[I.eff]at hv;split at hv
 .next b off n cp g1=>
  have H:=jah (t:=t) hG he ha g1;obtain⟨loc,o',c',h1,e1,h2⟩:=H;have H:=jah (t:=t) hG he ha g1;split at hv
  .next l hb=>
   simp only[zH,zQ]at hv;split at hv
   case isFalse=>cases hv
   next jC=>
   cases hv;have qC:=h2.2.1 om;subst qC;obtain⟨loc',co,k1,k2,cc,elem,lo,hi,rfl,k3,k4,k5,k6⟩:=hr.obj b _ hb;rw[h1]at k1;cases k1;obtain⟨lo',cA,q1,q2⟩:=jh0 k2;refine⟨m,w.freeze ⟨loc.β,cc.size,none⟩ 1,?_,.inl ⟨evT t a',?_,H⟩⟩
   .refine jj8 (o':= .cells l false) hr hb rfl rfl h1 k2 (fun j=>?_) rfl ?_ q1 ?_ ⟨?_,?_,?_⟩ ⟨cc,elem,lo',cA,rfl,k3,k4,k5,?_⟩ (fun L hL=>by cases hL)
    .split
     .next e=>subst e;exact hb
     .rfl
    .unfold World.freeze;rw[zC om];simp
    .intro j hj;unfold World.freeze;rw[zC om];simp only[Array.getElem?_modify];rw[zC (fun e=>hj e.symm)]
    .unfold World.freeze;rw[zC om]
    .unfold World.freeze;rw[zC om]
    .unfold World.freeze;rw[zC om]
    .intro _;refine .inr ?_;by_cases hlh:lo=hi
     .have:=q2.1 hlh;omega
     .have:=q2.2 hlh;rcases k6 rfl with k6|k6
      .exact zJ k6 hlh
      .omega
   .have Rb:w.shape? loc.β = some (elem,cc.size):=by simp[World.shape?,k2]
    simp only[execOp,ho,Zj,e1,convert,Zm gK,Zk,Zm lL,beq_self_eq_true];simp only[markStringish,Zj,run_shape,Rb,Zk,run_freeze,Zl]
  .cases hv
 .cases hv
end
end Am
namespace Am
open Go
section
variable{P:Program}{C:Cx}{N:Nat}{m:Mp}{h h':H}{w:World}{e:Env}{t:Array Value}{o:Oper}{v:V}{call:Am.Call}
theorem jan.filter{p:V×V×Nat->Bool}{q:MapEntry->Bool}(gJ:∀a c,c.born=a.2.2->p a=q c):∀{es:List (V×V×Nat)} {ces:List MapEntry},jan m es ces->jan m (es.filter p) (ces.filter q)
 |[],_,h=>by rw[show _=[] from h];exact rfl
 |(k,v,b)::es,_,⟨c0,s,e,h1,h2,h3,h4⟩=>by
  subst e;rw[List.filter_cons,List.filter_cons,<- gJ (k,v,b) c0 h3];split
  .exact⟨c0,_,rfl,h1,h2,h3,jan.filter gJ h4⟩
  .exact jan.filter gJ h4
theorem jan.all{p:V×V×Nat->Bool}{q:MapEntry->Bool}(gJ:∀a c,c.born=a.2.2->p a=q c):∀{es:List (V×V×Nat)} {ces:List MapEntry},jan m es ces->es.all p=ces.all q
 |[],_,h=>by rw[show _=[] from h];rfl
 |(k,v,b)::es,_,⟨c0,s,e,h1,h2,h3,h4⟩=>by
  subst e;rw[List.all_cons,List.all_cons,<- gJ (k,v,b) c0 h3,jan.all gJ h4]
theorem jan.find{p:V×V×Nat->Bool}{q:MapEntry->Bool}(gJ:∀a c,c.born=a.2.2->p a=q c):∀{es:List (V×V×Nat)} {ces:List MapEntry},jan m es ces -> ∀{k v:V} {b:Nat},es.find? p=some (k,v,b) -> ∃c,ces.find? q=some c/\VRel m k c.key/\VRel m v c.val
 |[],_,h,_,_,_,e=>by cases e
 |(k,v,b)::es,_,⟨c0,s,e,h1,h2,h3,h4⟩,k',v',b',e'=>by
  subst e;rw[List.find?_cons]at e' ⊢;rw[<- gJ (k,v,b) c0 h3];split at e'
  .cases e';exact⟨c0,rfl,h1,h2⟩
  .exact jan.find gJ h4 e'
end
end Am
namespace Am
open Go
section
variable{P:Program}{C:Cx}{N:Nat}{m:Mp}{h h':H}{w:World}{e:Env}{t:Array Value}{o:Oper}{v:V}{call:Am.Call}
theorem jn8(hT:TOk P C)(hG:GOk C m)(he:ERel m e t){i:I}(hc:i.cls = .P)(hM:iM P C i o.op=true)(hr:i.pure e=some v)(w:World):jby P m t o v w:=by
 generalize f8:o.op=op at hM;unfold iM at hM;split at hM
 all_goals try (simp[I.cls]at hc;done)
 all_goals try (simp[I.pure]at hr;done)
 all_goals try (cases hM;done)
 .exact jkS hG he (.inl f8) hM (by simp only[I.pure]at hr;split at hr<;>simp_all) w
 .exact jkS hG he (.inr f8) hM (by simp only[I.pure]at hr;split at hr<;>simp_all) w
 .simp only[zp,Bool.not_eq_true']at hM;simp[I.pure,Opd.ev]at hr;subst hr;exact pure_lenC hT f8 rfl hM.1 hM.2 w
 .simp only[zp]at hM;exact pure_pick hG he f8 hM.1.1 hM.1.2 hM.2 hr w
 .simp only[zp]at hM;exact jnH hT hG he f8 hM.1 hM.2 hr w
 .exact jnA hG he f8 hM hr w
 .simp only[zp]at hM;obtain⟨⟨h0,h1⟩,h2⟩:=hM;obtain rfl:=Nat.eq_of_beq_eq_true h0;exact jnC hG he f8 h1 h2 hr w
 .simp only[zp,beq_iff_eq]at hM;obtain⟨⟨rfl,h1⟩,h2⟩:=hM;exact pure_bin hG he f8 h1 h2 hr w
 .simp only[zp]at hM;exact pure_eq hT hG he f8 hM.1.1.1 hM.1.1.2 hM.1.2 hM.2 hr w
 .simp only[zp,beq_iff_eq]at hM;obtain⟨rfl,h1⟩:=hM;exact pure_un hG he f8 h1 hr w
 .simp only[zp]at hM;exact jkU hT hG he f8 hM.1.1 hM.1.2 hM.2 hr w
 .simp only[zp,nbeq,zF]at hM;obtain⟨⟨rfl,h1⟩,h2⟩:=hM;exact jnB hG he f8 h1 h2 hr w
 .simp only[zp]at hM;exact jlV hT hG he f8 hM.1.1.1 hM.1.1.2 hM.1.2 hM.2 hr w
 .simp only[zp]at hM;exact jn9 hT hG he f8 hM.1.1.1.1 hM.1.1.1.2 hM.1.1.2 hM.1.2 hM.2 hr w
 .simp only[zp]at hM;exact jnF hT hG he f8 hM.1 hM.2 hr w
 .simp only[zp]at hM;exact jnE hT hG he f8 hM.1 hM.2 hr w
 .simp only[zp]at hM;exact pure_ixaA hT hG he f8 hM.1.1 hM.1.2 hM.2 hr w
 .simp only[zp]at hM;exact pure_ixaS hT hG he f8 hM.1.1 hM.1.2 hM.2 hr w
 .simp only[zp]at hM;exact pure_ixA hT hG he f8 hM.1.1 hM.1.2 hM.2 hr w
 .simp only[zp]at hM;exact jnD hT hG he f8 hM.1.1 hM.1.2 hM.2 hr w
 .simp only[zp,nbeq,zF]at hM;obtain⟨h1,rfl⟩:=hM;exact jkT hG he f8 h1 hr w
 .simp only[zp]at hM;exact pure_lenS hT hG he f8 rfl hM.1 hM.2 hr w
 .simp only[zp]at hM;exact pure_lenL hT hG he f8 rfl hM.1 hM.2 hr w
 .exact pure_minI hG he f8 rfl hM hr w
theorem jn5(hT:TOk P C)(hG:GOk C m)(hR:HRel P C m h w)(he:ERel m e t){i:I}(hc:i.cls = .R)(hM:iM P C i o.op=true)(hr:i.read e h=some v):jby P m t o v w:=by
 generalize f8:o.op=op at hM;unfold iM at hM;split at hM
 all_goals try (simp[I.cls]at hc;done)
 all_goals try (cases hM;done)
 .simp only[zp]at hM;exact jn7 hT hG hR he f8 hM.2 hM.1 hr
 .simp only[zp]at hM;exact jn6 hT hG hR he f8 hM.2 hM.1 hr
 .simp only[zp]at hM;exact jkP hT hG hR he f8 hM.1.1 hM.1.2 hM.2 hr
theorem jnO(hT:TOk P C)(hG:GOk C m)(he:ERel m e t){i:I}(hc:i.cls = .A)(hM:iM P C i o.op=true){ob:Obj}{mk:Nat->V}(hr:i.make e=some (ob,mk))(w:World):jpl P C m t o ob mk w:=by
 generalize f8:o.op=op at hM;unfold iM at hM;split at hM
 all_goals try (simp[I.cls]at hc;done)
 all_goals try (cases hM;done)
 .simp only[zp]at hM;simp only[I.make,Option.some.injEq,Prod.mk.injEq]at hr;obtain⟨rfl,rfl⟩:=hr;exact jnQ (sz:=0) hT f8 hM.1.2
 .simp only[zp]at hM;exact make_box hG he f8 hM.2 hr
 .simp only[zp,nbeq,zF,zQ]at hM;exact jmd hT hG he f8 hM.1.1.1 hM.1.1.2 hM.1.2 hM.2 hr
 .simp only[zp]at hM;exact jlg hT hG he f8 hM.1.1 hM.1.2 hM.2 hr
def I.calls:I->Bool
 |.call .. | .callv ..=>true
 |_=>false
theorem eff_sound(hT:TOk P C)(hG:GOk C m)(hR:HRel P C m h w)(he:ERel m e t)(hN:N<=h.nx){i:I}(hc:i.cls = .E)(hn:i.calls=false)(hM:iM P C i o.op=true)(hr:i.eff call e h=some (v,h')) :
  Eff P C N m h w t o v h':=by
 generalize f8:o.op=op at hM;unfold iM at hM;split at hM
 all_goals try (simp[I.cls]at hc;done)
 all_goals try (simp[I.calls]at hn;done)
 all_goals try (cases hM;done)
 .simp only[zp]at hM;exact eff_store hT hG hR he f8 hM.1.1 hM.1.2 hM.2 hr
 .simp only[zp]at hM;exact eff_mark hT hG hR he f8 hM.1.1 hM.1.2 hM.2 hr
 .simp only[zp]at hM;exact jnU hT hG hR he hN f8 rfl hM.1.1 hM.1.2 hM.2 hr
 .simp only[zp]at hM;exact eff_copy hT hG hR he f8 rfl hM.1 hM.2 hr
end
end Am
