/- Our own library, part 5. -/
import Derived.Laws.Cover3
import Derived.Test.YtphpefladchggaaGreatDoorV04
set_option maxHeartbeats 8000000
set_option maxRecDepth 800
set_option linter.all false
namespace Am
open Go
section
variable{P:Program}{C:Cx}{m:Mp}{e:Env}{t:Array Value}{o:Oper}{v:V}
theorem jgb:∀(cs:List V) (vs:List V) (o:Nat),(jao vs o cs).length=vs.length
 |[],_,_=>rfl
 |x::r,vs,o=>by simp[jao,jgb r]
theorem jas.set{l:List V}{xs:List Value}(h:jas m l xs){u:V}{z:Value}(hz:VRel m u z)(i:Nat):jas m (l.set i u) (xs.set i z):=by
 refine jas.of_get (by simp[h.length]) fun k w hk=>?_;rw[zi]at hk;split at hk
 .next e=>
  subst e;split at hk
  .next hl=>
   cases hk;have:i<xs.length:=by rw[<- h.length];exact hl
   exact⟨z,by simp[this],hz⟩
  .cases hk
 .next d5=>
  obtain⟨x,h1,h2⟩:=h.get hk;exact⟨x,by rw[List.getElem?_set_ne d5];exact h1,h2⟩
def layL:List Value->Nat->List Value->List Value
 |xs,_,[]=>xs
 |xs,o,z::r=>layL (xs.set o z) (o+1) r
theorem jlt:∀(zs:List Value) (xs:Array Value) (off j:Nat),
  ((zs.zipIdx j).foldl (fun cs (c:Value×Nat)=>cs.setIfInBounds (off+c.2) c.1) xs).toList=layL xs.toList (off+j) zs
 |[],xs,off,j=>by simp[layL]
 |z::zs,xs,off,j=>by
  simp only[List.zipIdx_cons,List.foldl_cons,layL];rw[jlt zs _ off (j+1)];simp[Nat.add_assoc]
theorem jas.setAll:∀{cs:List V} {zs:List Value} {l:List V} {xs:List Value} (o:Nat),jas m l xs->jas m cs zs->jas m (Am.jao l o cs) (layL xs o zs)
 |[],_,_,_,_,h,hc=>by rw[show _=[] from hc];exact h
 |c::cs,_,l,xs,o,h,⟨z,s,e,h2,h3⟩=>by
  subst e;exact jas.setAll (o+1) (h.set h2 o) h3
def jhF(m:Mp):List (Nat×Nat×V)->List (Nat×Value)->(Nat->Option (Nat×Nat))->Prop
 |[],[],_=>True
 |(off,n,u)::r,(i,z)::s,place=>place i=some (off,n)/\VRel m u z/\jhF m r s place
 |_,_,_=>False
theorem jfg{place:Nat->Option (Nat×Nat)}:∀{ps:List (Nat×Nat×V)} {qs:List (Nat×Value)} {l l':List V} {xs:Array Value},jhF m ps qs place->jas m l xs.toList->jaF l ps=some l' ->
  ∃ys,Instr.fill place xs qs=some ys/\jas m l' ys.toList
 |[],[],l,l',xs,_,h,hr=>by
  simp[jaF]at hr;subst hr;exact⟨xs,rfl,h⟩
 |[],_::_,_,_,_,hp,_,_=>hp.elim
 |_::_,[],_,_,_,hp,_,_=>hp.elim
 |(off,n,u)::r,(i,z)::s,l,l',xs,hp,h,hr=>by
  obtain⟨h1,h2,h3⟩:=hp;simp only[jaF,zH,zp,beq_iff_eq,zQ]at hr;split at hr
  .next hc=>
   have uJ:=h2.cells;have j4:z.cells.size=n:=by
    have:=uJ.length;simp at this;omega
   have bF:xs.size=l.length:=by simpa using h.length.symm
   have tC:¬(z.cells.size≠n||off+z.cells.size>xs.size)=true:=by
    simp;omega
   simp only[Instr.fill,h1];rw[zC tC];refine jfg h3 ?_ hr;have e1:=jlt z.cells.toList xs off 0;have e2:(z.cells.zipIdx.foldl (fun cs (x:Value×Nat)=>cs.setIfInBounds (off+x.2) x.1) xs).toList=layL xs.toList off z.cells.toList:=by
    rw[<- Array.foldl_toList,Array.toList_zipIdx];exact e1
   rw[show (z.cells.zipIdx.foldl (fun cs (x,j)=>cs.setIfInBounds (off+j) x) xs).toList=layL xs.toList off z.cells.toList from e2];exact h.setAll off uJ
  .cases hr
theorem jjj(hT:TOk P C)(w:World):∀(gs:List Field) (fs:List (Nat×TypeId)),jc2 fs gs=true->fs.all (fun q=>(C.T.at_ q.2).isSome)=true ->
  ∃ps:List (Nat×Nat),(gs.mapM (m:=Sem) fun f=>do pure (f.offset,<- Go.sizeOf f.type)).run P w = .ok ps w /\
   ∀(i:Nat) (q:Nat×TypeId),fs[i]?=some q -> ∀n,jb3 C q.2 n=true->ps[i]?=some (q.1,n)
 |[],[],_,_=>⟨[],by simp,by simp⟩
 |[],_::_,h,_=>by simp[jc2]at h
 |_::_,[],h,_=>by simp[jc2]at h
 |f::gs,(a,ty)::fs,h,hk=>by
  simp only[jc2,zp,nbeq,zF]at h;simp only[List.all_cons,zp]at hk;obtain⟨ps,h1,h2⟩:=jjj hT w gs fs h.2 hk.2;obtain⟨j,hj⟩:=Option.isSome_iff_exists.1 hk.1;have hs:jb3 C ty j.size=true:=by unfold jb3;rw[hj];exact beqT _
  have oT:f.type=ty:=h.1.1.2.symm;have wM:f.offset=a:=h.1.1.1.symm;refine⟨(a,j.size)::ps,?_,?_⟩
  .simp only[List.mapM_cons,Zj,oT,ja8 hT hs,Zk,Zl,h1,wM]
  .intro i q hq n hn;cases i with
   |zero=>
    simp at hq;subst hq;unfold jb3 at hn;rw[hj]at hn;simp[jdr.1 hn]
   |succ i=>simpa using h2 i q (by simpa using hq) n hn
theorem jih(hG:GOk C m)(he:ERel m e t){u:UD}{place:Nat->Option (Nat×Nat)}
  (gX:∀i off n,jgF C u i off n=true->place i=some (off,n)) :
  ∀{ps:List (Nat×Nat×Opd)} {qs:List (Nat×Operand)} {vs:List (Nat×Nat×V)},jcT C u ps qs=true->jb2 e ps=some vs->jhF m vs (qs.map fun p=>(p.1,evT t p.2)) place
 |[],[],vs,_,h=>by simp[jb2]at h;subst h;trivial
 |[],_::_,_,h,_=>by simp[jcT]at h
 |_::_,[],_,h,_=>by simp[jcT]at h
 |(off,n,x)::r,(i,y)::s,vs,h,hv=>by
  simp only[jcT,zp]at h;simp only[jb2]at hv;split at hv
  .next a l h1 h2=>
   cases hv;exact⟨gX i off n h.2,jah hG he h.1.1 h1,jih hG he gX h.1.2 h2⟩
  .cases hv
theorem jnH(hT:TOk P C)(hG:GOk C m)(he:ERel m e t){z:List V}{ps:List (Nat×Nat×Opd)}{qs:Array (Nat×Operand)}{ty:TypeId}(ho:o.op = .build ty qs)(hz:jdY C ty z=true)
  (hp:(match C.T.at_ ty with|some i=>jkn C i.u&&jcT C i.u ps qs.toList|none=>false)=true) (hr:I.pure e (.build z ps)=some v) (w:World):jby P m t o v w:=by
 simp only[I.pure]at hr;split at hr
 .next pv h1=>
  split at hr
  .next l h2=>
   cases hr;split at hp
   .next ti dR=>
    simp only[zp]at hp;obtain⟨hk,hp⟩:=hp;obtain⟨zv,iC,bD⟩:=jfx hT hz m;obtain⟨info,d,F⟩:=hT.facts dR;have l7:=F.ud;have eR:(qs.map fun (i,x)=>(i,evT t x)).toList=qs.toList.map fun p=>(p.1,evT t p.2):=by simp
    cases hu:ti.u with
    |struct fs=>
     rw[hu]at hk hp l7;cases hd:d<;>rw[hd]at l7<;>simp only[jal]at l7<;>try (cases l7;done)
     next gs=>
     have l8:=F.und;rw[hd]at l8;obtain⟨pl,h3,h4⟩:=jjj (P:=P) hT w gs.toList fs l7 hk;have h5:(gs.mapM (m:=Sem) fun f=>do pure (f.offset,<- Go.sizeOf f.type)).run P w = .ok pl.toArray w:=by
      rw[Array.mapM_eq_mapM_toList,Sem.run_map,h3];rfl
     have vJ:=jih (t:=t) hG he (u:= .struct fs) (place:=fun i=>pl.toArray[i]?) (fun i off n hh=>by
      dsimp only[jgF]at hh;split at hh
      .next o2 t2 hf=>
       simp only[zp,nbeq,zF]at hh;have:=h4 i _ hf n hh.2;simp only[List.getElem?_toArray,this,hh.1]
      .cases hh) hp h1
     obtain⟨ys,h6,h7⟩:=jfg vJ bD h2;refine⟨.agg ys,?_,ys,rfl,h7⟩;simp only[execOp,ho,Zj,Instr.build,iC,Zk,Zm l8,h5,eR,h6];rfl
    |array k e2=>
     rw[hu]at hk hp l7;cases hd:d<;>rw[hd]at l7<;>simp only[jal]at l7<;>try (cases l7;done)
     next k3 e3=>
     have l8:=F.und;rw[hd]at l8;simp only[zp,nbeq,zF]at l7;obtain⟨rfl,rfl⟩:=l7;cases sH:ps with
     |nil=>
      subst sH;simp[jb2]at h1;subst h1;simp[jaF]at h2;subst h2;have:qs.toList=[]:=by
       cases hq:qs.toList with
       |nil=>rfl
       |cons _ _=>rw[hq]at hp;simp[jcT]at hp
      have dJ:qs = #[]:=by rw[<- Array.toList_inj];simpa using this
      subst dJ;have w8:∃n,(Go.sizeOf e2).run P w = .ok n w:=by
       simp only[jkn]at hk;unfold jdY at hz;obtain⟨j,hj⟩:∃j,C.T.at_ e2=some j:=by
        cases hj:C.T.at_ e2 with
        |some j=>exact⟨j,rfl⟩
        |none=>rw[hj]at hk;simp at hk
       exact⟨j.size,ja8 hT (by unfold jb3;rw[hj];exact beqT _) w⟩
      obtain⟨n,hn⟩:=w8;refine⟨.agg zv.cells,?_,zv.cells,rfl,bD⟩;simp[execOp,ho,Instr.build,iC,Zm l8,hn,Instr.fill]
     |cons p0 pr=>
      have hn:∃n,jb3 C e2 n=true:=by
       rw[sH]at hp;cases hq:qs.toList with
       |nil=>rw[hq]at hp;simp[jcT]at hp
       |cons q0 qr=>
        rw[hq]at hp;obtain⟨off,n,x⟩:=p0;obtain⟨i,y⟩:=q0;simp only[jcT,jgF,zp]at hp;exact⟨n,hp.2.1⟩
      obtain⟨n,hn⟩:=hn;have vJ:=jih (t:=t) hG he (u:= .array k e2) (place:=fun i=>some (i*n,n)) (fun i off n' hh=>by
       simp only[jgF,zp,nbeq,zF]at hh;have Ya:n'=n:=by
        have a:=hh.1;have b:=hn;unfold jb3 at a b;split at a
        .next j hj=>rw[hj]at b;rw[<- jdr.1 a,<- jdr.1 b]
        .cases a
       subst Ya;rw[hh.2]) hp h1
      obtain⟨ys,h6,h7⟩:=jfg vJ bD h2;refine⟨.agg ys,?_,ys,rfl,h7⟩;simp only[execOp,ho,Zj,Instr.build,iC,Zk,Zm l8,ja8 hT hn,eR,h6];rfl
    |_=>
     rw[hu]at hp;cases sH:ps with
     |nil=>
      subst sH;rw[hu]at hk;simp[jkn]at hk
     |cons p0 pr=>
      rw[sH]at hp;cases hq:qs.toList with
      |nil=>rw[hq]at hp;simp[jcT]at hp
      |cons q0 qr=>rw[hq]at hp;obtain⟨off,n,x⟩:=p0;obtain⟨i,y⟩:=q0;simp[jcT,jgF]at hp
   .cases hp
  .cases hr
 .cases hr
end
end Am
namespace Am
open Go
section
variable{P:Program}{C:Cx}{m:Mp}{e:Env}{t:Array Value}{o:Oper}{v:V}
theorem jdM:∀{a b:List LK} {l l':List V} {r:Bool},jaY (a++b) l l'=some r ->
  ∃r1 r2,jaY a (l.take a.length) (l'.take a.length)=some r1/\jaY b (l.drop a.length) (l'.drop a.length)=some r2/\r=(r1&&r2)
 |[],b,l,l',r,h=>⟨true,r,by simp[jaY],by simpa using h,by simp⟩
 |k::a,b,[],l',r,h=>by simp[jaY]at h
 |k::a,b,x::l,[],r,h=>by simp[jaY]at h
 |k::a,b,x::l,y::l',r,h=>by
  simp only[List.cons_append,jaY]at h;split at h
  .next u1 u2 e1 e2=>
   cases h;obtain⟨r1,r2,h1,h2,h3⟩:=jdM e2;exact⟨u1&&r1,r2,by simp[jaY,e1,h1],by simpa using h2,by rw[h3,Bool.and_assoc]⟩
  .cases h
theorem jft:∀{sh:List LK} {xs ys:List V} {r:Bool},jaY sh xs ys=some r->xs.length=sh.length/\ys.length=sh.length
 |[],[],[],_,_=>⟨rfl,rfl⟩
 |[],[],_::_,_,h=>by simp[jaY]at h
 |[],_::_,_,_,h=>by simp[jaY]at h
 |_::_,[],_,_,h=>by simp[jaY]at h
 |_::_,_::_,[],_,h=>by simp[jaY]at h
 |_::sh,_::xs,_::ys,_,h=>by
  simp only[jaY]at h;split at h
  .next e2=>have:=jft e2;simp;exact this
  .cases h
def jpS:LK->TypeDesc
 |.bool=>.bool
 |.int k=>.int k
 |.str=>.string
theorem jnR{lk:LK}{a b:V}{x y:Value}{r:Bool}(ha:VRel m a x)(hb:VRel m b y)(h:jmU lk a b=some r){ty:TypeId}
  (hu:P.underlying ty=some (jpS lk)) (d:Nat) (w:World):(Op.equalIn (d+1) ty x y).run P w = .ok r w:=by
 unfold jmU at h;split at h
 .cases h;rw[show x=_ from ha,show y=_ from hb];exact run_equalIn_bool' w d ty _ _ hu
 .simp only[zH,zp,beq_iff_eq]at h;split at h
  .next hk=>
   cases h;obtain⟨rfl,rfl⟩:=hk;rw[show x=_ from ha,show y=_ from hb];exact run_equalIn_int w d ty _ _ _ _ hu
  .cases h
 .cases h;rw[show x=_ from ha,show y=_ from hb,run_equalIn_string w d ty _ _ hu];simp[ByteArray.toList_eq]
 .cases h
def EqOk(P:Program)(m:Mp)(n:Nat)(ty:TypeId)(size:Nat)(sh:List LK):Prop:=
 sh.length=size/\∀(la lb:List V) (xs ys:Array Value) (off:Nat) (r:Bool),jas m la xs.toList->jas m lb ys.toList->off+size<=la.length->off+size<=lb.length ->
  jaY sh ((la.drop off).take size) ((lb.drop off).take size)=some r -> ∀d,n<=d -> ∀w,∃x y,(Go.part ty xs off).run P w = .ok x w/\(Go.part ty ys off).run P w = .ok y w/\(Op.equalIn d ty x y).run P w = .ok r w
theorem jhm(n size:Nat)(H:∀ty i sh,C.T.at_ ty=some i->je5 C n ty=some sh->EqOk P m n ty i.size sh) :
  ∀(fs:List (Nat×TypeId)) (gs:List Field) (off:Nat) (sh:List LK),je6 C (je5 C n) off size fs=some sh->jc2 fs gs=true->off<=size ->
  off+sh.length=size/\∀(la lb:List V) (xs ys:Array Value) (r:Bool),jas m la xs.toList->jas m lb ys.toList->la.length=size->lb.length=size ->
   jaY sh (la.drop off) (lb.drop off)=some r -> ∀d,n<=d -> ∀w,(Op.eqFields d xs ys gs).run P w = .ok r w
 |[],[],off,sh,hs,_,_=>by
  simp only[je6,zH,nbeq,zF]at hs;split at hs
  .next e=>
   cases hs;refine⟨by simpa using e,fun la lb xs ys r _ _ h1 h2 hr d _ w=>?_⟩;rw[List.drop_eq_nil_of_le om,List.drop_eq_nil_of_le om]at hr;simp[jaY]at hr;subst hr;simp[Op.eqFields]
  .cases hs
 |[],_::_,_,_,_,h,_=>by simp[jc2]at h
 |_::_,[],_,_,_,h,_=>by simp[jc2]at h
 |(o1,ty)::fs,f::gs,off,sh,hs,hf,hoff=>by
  simp only[jc2,zp,nbeq,zF,bne_iff_ne]at hf;simp only[je6]at hs;split at hs
  .next i a b e1 e2 e3=>
   rw[e1]at e3;simp only[zH,nbeq,zF]at hs;split at hs
   .next ho=>
    cases hs;obtain⟨hl,hE⟩:=H ty i a e1 e2;have Ab:off+i.size<=size:=by
     rcases zx size (off+i.size) with d4|tB
     .exfalso;have:∀(fs:List (Nat×TypeId)) (q:Nat) (s:List LK),size<q->je6 C (je5 C n) q size fs≠some s:=by
       intro fs;induction fs with
       |nil=>
        intro q s hq h;simp only[je6,zH,nbeq,zF]at h;split at h
        .omega
        .cases h
       |cons p fs ih=>
        intro q s hq h;obtain⟨p1,p2⟩:=p;simp only[je6]at h;split at h
        .next j _ _ f1 _ f3=>rw[f1]at f3;exact ih _ _ om f3
        .cases h
      exact this _ _ _ d4 e3
     .exact tB
    obtain⟨eE,Bb⟩:=jhm n size H fs gs (off+i.size) b e3 hf.2 Ab;refine⟨by simp;omega,fun la lb xs ys r ha hb h1 h2 hr d hd w=>?_⟩;obtain⟨r1,r2,h3,h4,h5⟩:=jdM hr;rw[hl]at h3 h4;rw[List.drop_drop]at h4;rw[List.drop_drop]at h4;obtain⟨x,y,h6,h7,h8⟩:=hE la lb xs ys off r1 ha hb om om h3 d hd w;have h9:=Bb la lb xs ys r2 ha hb h1 h2 (by simpa[Nat.add_comm] using h4) d hd w;have oT:f.type=ty:=hf.1.1.2.symm;have wM:f.offset=off:=hf.1.1.1.symm.trans ho;simp only[Op.eqFields];rw[zD hf.1.2];simp only[Zj,oT,wM,h6,h7,h8,Zk,Sem.run_ite,h9];cases r1
    .simp at h5;simp[h5]
    .simp at h5;simp[h5]
   .cases hs
  .cases hs
theorem jgC{k:Nat}{ty el:TypeId}{esz:Nat}{sh:List LK}(hT:TOk P C)(hu:P.underlying ty=some (.array k el))(w8:jb3 C el esz=true){n:Nat}(hE:EqOk P m n el esz sh)
  {la lb:List V} {xs ys:Array Value} (ha:jas m la xs.toList) (hb:jas m lb ys.toList) (h1:la.length=k*esz) (h2:lb.length=k*esz) {r:Bool}
  (hr:jaY (List.replicate k sh).flatten la lb=some r) (d:Nat) (hd:n<=d) (w:World):(Op.equalIn (d+1) ty (.agg xs) (.agg ys)).run P w = .ok r w:=by
 simp only[Op.equalIn,Zj,Zm hu,Zk,ja8 hT w8];rw[Std.Legacy.Range.forIn_eq_forIn_range'];simp only[Std.Legacy.Range.size,Nat.sub_zero,Nat.add_sub_cancel,Nat.div_one];have key:∀(q j:Nat) (r:Bool),j+q=k->jaY (List.replicate q sh).flatten (la.drop (j*esz)) (lb.drop (j*esz))=some r ->
   ∀w,((forIn (List.range' j q 1) ((none,()):Option Bool×Unit) fun i _=>do
    let x<-Go.part el xs (i*esz);let y<-Go.part el ys (i*esz);let b<-Op.equalIn d el x y
    if (!b)=true then pure (ForInStep.done (some false,())) else pure (ForInStep.yield (none,())):Sem (Option Bool×Unit))).run P w =
    .ok (if r then (none,()) else (some false,())) w:=by
  intro q;induction q with
  |zero=>
   intro j r hj hr w;rw[List.drop_eq_nil_of_le (by rw[h1,<- hj];simp),List.drop_eq_nil_of_le (by rw[h2,<- hj];simp)]at hr;simp[jaY]at hr;subst hr;simp
  |succ q ih=>
   intro j r hj hr w;rw[List.replicate_succ,zW]at hr;obtain⟨r1,r2,h3,h4,h5⟩:=jdM hr;rw[hE.1]at h3 h4;rw[List.drop_drop,List.drop_drop]at h4;have fR:j*esz+esz<=k*esz:=by
    have:(j+1)*esz<=k*esz:=Nat.mul_le_mul_right _ om;rw[Nat.add_mul]at this;omega
   obtain⟨x,y,h6,h7,h8⟩:=hE.2 la lb xs ys (j*esz) r1 ha hb om om h3 d hd w;have h9:=ih (j+1) r2 om (by rw[Nat.add_mul,Nat.one_mul];exact h4) w;rw[List.range'_succ,List.forIn_cons];simp only[Zj,h6,h7,h8,Zk,Sem.run_ite,Zl];cases r1
   .simp at h5;simp[h5]
   .simp at h5;simp only[Bool.not_true,zR,if_false,Zk];rw[h9,h5]
 have:=key k 0 r om (by simpa using hr) w;rw[this];cases r<;>rfl
theorem jjD(hT:TOk P C):∀(n:Nat) (ty:TypeId) (i:TI) (sh:List LK),C.T.at_ ty=some i->je5 C n ty=some sh->EqOk P m n ty i.size sh
 |0,_,_,_,_,h=>by simp[je5]at h
 |n+1,ty,i,sh,hi,h=>by
  obtain⟨info,dd,F⟩:=hT.facts hi;have l7:=F.ud;have l8:=F.und;simp only[je5,hi]at h;have leaf:∀lk,sh=[lk]->i.size=1->jhl i.u=false->P.underlying ty=some (jpS lk)->EqOk P m (n+1) ty i.size sh:=by
   rintro lk rfl hs iX hu;refine⟨by simp[hs],fun la lb xs ys off r ha hb h1 h2 hr d hd w=>?_⟩;rw[hs]at h1 h2 hr;have ea:∃a,la[off]?=some a/\(la.drop off).take 1=[a]:=by
    refine⟨la[off]'om,by simp,?_⟩;rw[List.drop_eq_getElem_cons om];rfl
   have eb:∃b,lb[off]?=some b/\(lb.drop off).take 1=[b]:=by
    refine⟨lb[off]'om,by simp,?_⟩;rw[List.drop_eq_getElem_cons om];rfl
   obtain⟨a,Cb,Db⟩:=ea;obtain⟨b,Eb,Fb⟩:=eb;rw[Db,Fb]at hr;simp only[jaY]at hr;split at hr
   .next u1 u2 e1 e2=>
    cases e2;cases hr;obtain⟨x,hx,Hb⟩:=ha.get Cb;obtain⟨y,hy,bN⟩:=hb.get Eb;have cB:xs[off]?=some x:=by rw[<- hx];simp
    have wJ:ys[off]?=some y:=by rw[<- hy];simp
    obtain⟨d,rfl⟩:∃d',d=d'+1:=⟨d-1,by omega⟩
    refine⟨x,y,?_,?_,?_⟩
    .simp[Go.part,jc1 hT hi,iX,cB]
    .simp[Go.part,jc1 hT hi,iX,wJ]
    .rw[jnR Hb bN e1 hu];simp
   .cases hr
  cases hu:i.u with
  |bool=>
   rw[hu]at h l7;simp only[zH,nbeq,zF]at h;split at h
   .next hs=>
    cases h;cases hd:dd<;>rw[hd]at l7<;>simp only[jal]at l7<;>try (cases l7;done)
    exact leaf .bool rfl hs (by rw[hu];rfl) (by rw[l8,hd];rfl)
   .cases h
  |int k=>
   rw[hu]at h l7;simp only[zH,nbeq,zF]at h;split at h
   .next hs=>
    cases h;cases hd:dd<;>rw[hd]at l7<;>simp only[jal]at l7<;>try (cases l7;done)
    simp at l7;subst l7;exact leaf (.int k) rfl hs (by rw[hu];rfl) (by rw[l8,hd];rfl)
   .cases h
  |str=>
   rw[hu]at h l7;simp only[zH,nbeq,zF]at h;split at h
   .next hs=>
    cases h;cases hd:dd<;>rw[hd]at l7<;>simp only[jal]at l7<;>try (cases l7;done)
    exact leaf .str rfl hs (by rw[hu];rfl) (by rw[l8,hd];rfl)
   .cases h
  |struct fs=>
   rw[hu]at h l7;simp only[zH]at h;split at h
   .next he=>
    cases hd:dd<;>rw[hd]at l7<;>simp only[jal]at l7<;>try (cases l7;done)
    next gs=>
    obtain⟨d9,_⟩:=F.eqs he;obtain⟨j4,hE⟩:=jhm (P:=P) (m:=m) n i.size (fun ty' i' sh' a b=>jjD hT n ty' i' sh' a b) fs gs.toList 0 sh h l7 (zY _);refine⟨by omega,fun la lb xs ys off r ha hb h1 h2 hr d oI w=>?_⟩;obtain⟨d,rfl⟩:∃d',d=d'+1:=⟨d-1,by omega⟩
    have oO:jhl i.u=true:=by rw[hu];rfl
    have w8:jb3 C ty i.size=true:=by unfold jb3;rw[hi];exact beqT _
    have ex:∀zs:Array Value,(zs.extract off (off+i.size)).toList=(zs.toList.drop off).take i.size:=by intro zs;simp
    refine⟨.agg (xs.extract off (off+i.size)),.agg (ys.extract off (off+i.size)),?_,?_,?_⟩
    .simp[Go.part,jc1 hT hi,oO,ja8 hT w8]
    .simp[Go.part,jc1 hT hi,oO,ja8 hT w8]
    .have wM:P.fieldsOf ty=gs:=by unfold Program.fieldsOf;rw[l8,hd]
     rw[run_equalIn_struct w d ty _ _ (by rw[wM,l8,hd]) d9,wM];refine hE _ _ _ _ r (by rw[ex];exact (ha.drop off).take i.size) (by rw[ex];exact (hb.drop off).take i.size) Zc Zc (by simpa using hr) d om w
   .cases h
  |array k el=>
   rw[hu]at h l7;dsimp only at h;split at h
   .next j sh' hj bC=>
    simp only[zH,zp,nbeq,zF]at h;split at h
    .next hc=>
     obtain⟨he,hs⟩:=hc;cases h;cases hd:dd<;>rw[hd]at l7<;>simp only[jal,zp,nbeq,zF]at l7<;>try (cases l7;done)
     next k' el'=>
     obtain⟨rfl,rfl⟩:=l7;have hE:=jjD hT n el j sh' hj bC;have Jb:jb3 C el j.size=true:=by unfold jb3;rw[hj];exact beqT _
     refine⟨?_,fun la lb xs ys off r ha hb h1 h2 hr d oI w=>?_⟩
     .rw[hs];simp[hE.1]
     .obtain⟨d,rfl⟩:∃d',d=d'+1:=⟨d-1,by omega⟩
      have oO:jhl i.u=true:=by rw[hu];rfl
      have w8:jb3 C ty i.size=true:=by unfold jb3;rw[hi];exact beqT _
      have ex:∀zs:Array Value,(zs.extract off (off+i.size)).toList=(zs.toList.drop off).take i.size:=by intro zs;simp
      refine⟨.agg (xs.extract off (off+i.size)),.agg (ys.extract off (off+i.size)),?_,?_,?_⟩
      .simp[Go.part,jc1 hT hi,oO,ja8 hT w8]
      .simp[Go.part,jc1 hT hi,oO,ja8 hT w8]
      .exact jgC hT (by rw[l8,hd]) Jb hE (by rw[ex];exact (ha.drop off).take i.size) (by rw[ex];exact (hb.drop off).take i.size) Zc Zc hr d om w
    .cases h
   .cases h
  |_=>rw[hu]at h;cases h
section
variable{ty:TypeId}(d:Nat)(w:World)
theorem jpm{el:TypeId}(h:P.underlying ty=some (.pointer el))(b:Option Addr):(Op.equalIn (d+1) ty (.pointer none) (.pointer b)).run P w = .ok b.isNone w:=by
 simp only[Op.equalIn,Zj,Zm h,Zk,Zl]
theorem E_ptr_sn{el:TypeId}(h:P.underlying ty=some (.pointer el))(a:Addr):(Op.equalIn (d+1) ty (.pointer (some a)) (.pointer none)).run P w = .ok false w:=by
 simp only[Op.equalIn,Zj,Zm h,Zk,Zl]
theorem E_ptr_ss{el:TypeId}(h:P.underlying ty=some (.pointer el)){n:Nat}(hs:(Go.sizeOf el).run P w = .ok n w)(hn:n≠0)(b o o':Nat) :
  (Op.equalIn (d+1) ty (.pointer (some ⟨b,o,none⟩)) (.pointer (some ⟨b,o',none⟩))).run P w = .ok (o == o') w:=by
 have iG:((⟨b,o,none⟩:Addr) == ⟨b,o',none⟩)=(o == o'):=by rw[Bool.eq_iff_iff];simp
 simp only[Op.equalIn,Zj,Zm h,Zk,hs,Sem.run_ite];simp[hn,sameAddr,iG]
theorem jl7{el:TypeId}(h:P.underlying ty=some (.slice el))(n c:Nat)(b:Option Addr)(n' c':Nat):(Op.equalIn (d+1) ty (.slice none n c) (.slice b n' c')).run P w = .ok b.isNone w:=by
 simp only[Op.equalIn,Zj,Zm h,Zk,Zl]
theorem jog{el:TypeId}(h:P.underlying ty=some (.slice el))(a:Addr)(n c n' c':Nat):(Op.equalIn (d+1) ty (.slice (some a) n c) (.slice none n' c')).run P w = .ok false w:=by
 simp only[Op.equalIn,Zj,Zm h,Zk,Zl]
theorem jpn{k el:TypeId}(h:P.underlying ty=some (.map k el))(b:Option Nat):(Op.equalIn (d+1) ty (.map none) (.map b)).run P w = .ok b.isNone w:=by
 simp only[Op.equalIn,Zj,Zm h,Zk,Zl]
theorem E_map_sn{k el:TypeId}(h:P.underlying ty=some (.map k el))(b:Nat):(Op.equalIn (d+1) ty (.map (some b)) (.map none)).run P w = .ok false w:=by
 simp only[Op.equalIn,Zj,Zm h,Zk,Zl]
theorem E_fn_nn{a b:Array TypeId}{c:Bool}(h:P.underlying ty=some (.func a b c)):(Op.equalIn (d+1) ty .nilFunc .nilFunc).run P w = .ok true w:=by
 simp only[Op.equalIn,Zj,Zm h,Zk,Zl]
theorem jmu{a b:Array TypeId}{c:Bool}(h:P.underlying ty=some (.func a b c))(f:Fn)(x y:Array Value):(Op.equalIn (d+1) ty (.func f x y) .nilFunc).run P w = .ok false w:=by
 simp only[Op.equalIn,Zj,Zm h,Zk,Zl]
theorem E_fn_ns{a b:Array TypeId}{c:Bool}(h:P.underlying ty=some (.func a b c))(f:Fn)(x y:Array Value):(Op.equalIn (d+1) ty .nilFunc (.func f x y)).run P w = .ok false w:=by
 simp only[Op.equalIn,Zj,Zm h,Zk,Zl]
theorem E_if_nn{ms:Array (String×TypeId)}(h:P.underlying ty=some (.interface ms)):(Op.equalIn (d+1) ty .nilIface .nilIface).run P w = .ok true w:=by
 simp only[Op.equalIn,Zj,Zm h,Zk,Zl]
theorem jpo{ms:Array (String×TypeId)}(h:P.underlying ty=some (.interface ms))(u:TypeId)(x:Value):(Op.equalIn (d+1) ty (.iface u x) .nilIface).run P w = .ok false w:=by
 simp only[Op.equalIn,Zj,Zm h,Zk,Zl]
theorem jpp{ms:Array (String×TypeId)}(h:P.underlying ty=some (.interface ms))(u:TypeId)(x:Value):(Op.equalIn (d+1) ty .nilIface (.iface u x)).run P w = .ok false w:=by
 simp only[Op.equalIn,Zj,Zm h,Zk,Zl]
end
def Value.plainEq:Value->Bool
 |.int .. | .string _|.float .. | .complex ..=>false
 |_=>true
theorem jbX{op:BinOp}{neg:Bool}{x' y':Operand}{ty ty':TypeId}{r:Bool}(ho:o.op = .binOp op ty x' y' ty')(f8:op=if neg then .neq else .eql){w:World}
  (hg:(eqGuard op ty x' y' (evT t x') (evT t y')).run P w = .ok () w) (hE:(Op.equalIn (9999+1) ty (evT t x') (evT t y')).run P w = .ok r w) (hp:Value.plainEq (evT t x')=true) :
  jby P m t o (.bool (bif neg then !r else r)) w:=by
 refine⟨.bool (bif neg then !r else r),?_,rfl⟩;have gR:(Op.equal ty (evT t x') (evT t y')).run P w = .ok r w:=hE;clear hE;simp only[execOp,ho,Zj,hg,Zk];generalize evT t x'=p at *;generalize evT t y'=q at *;cases neg
 .have:op = .eql:=by simpa using f8
  subst this;cases p<;>first|(cases hp;done)|simp only[Go.binOp,Zj,gR,Zk,Zl,cond_false]
 .have:op = .neq:=by simpa using f8
  subst this;cases p<;>first|(cases hp;done)|simp only[Go.binOp,Zj,gR,Zk,Zl,cond_true]
theorem pure_eq(hT:TOk P C)(hG:GOk C m)(he:ERel m e t){k:EK}{neg:Bool}{op:BinOp}{x y:Opd}{x' y':Operand}{ty ty':TypeId}(ho:o.op = .binOp op ty x' y' ty')
  (f8:(if neg then op == .neq else op == .eql)=true) (hx:opdM C x x'=true) (hy:opdM C y y'=true) (hq:eqM C k ty x' y'=true) (hr:I.pure e (.eq k neg x y)=some v) (w:World):jby P m t o v w:=by
 simp only[I.pure]at hr;split at hr
 .next a b h1 h2=>
  split at hr
  .next r hb=>
   cases hr;have H1:=jah (t:=t) hG he hx h1;have H2:=jah (t:=t) hG he hy h2;have jD:op=if neg then .neq else .eql:=by cases neg<;>simpa using f8
   unfold eqM at hq;split at hq
   .next i hi=>
    obtain⟨info,dd,F⟩:=hT.facts hi;have l7:=F.ud;have l8:=F.und;unfold eqOp at hb;split at hb
    ·
     next a b=>
     cases hb;have e1:evT t x' = .bool a:=H1;have e2:evT t y' = .bool b:=H2;cases hu:i.u<;>rw[hu]at hq l7<;>simp at hq;cases hd:dd<;>rw[hd]at l7<;>simp[jal]at l7;rw[hd]at l8;exact jbX ho jD (by rw[e1,eqGuard_at_bool];rfl) (by rw[e1,e2];exact run_equalIn_bool' w 9999 ty _ _ l8) (by rw[e1];rfl)
    ·
     next p=>
     cases hb;have e1:evT t x' = .pointer none:=H1;cases hu:i.u<;>rw[hu]at hq l7<;>simp at hq;cases hd:dd<;>rw[hd]at l7<;>simp[jal]at l7;rw[hd]at l8;cases p with
     |none=>
      have e2:evT t y' = .pointer none:=H2;exact jbX ho jD (by rw[e1,eqGuard_at_pointer];rfl) (by rw[e1,e2];exact jpm 9999 w l8 _) (by rw[e1];rfl)
     |some a=>
      obtain⟨l,_,e2⟩:=H2;exact jbX ho jD (by rw[e1,eqGuard_at_pointer];rfl) (by rw[e1,e2];exact jpm 9999 w l8 _) (by rw[e1];rfl)
    .cases hb;obtain⟨l,_,e1⟩:=H1;have e2:evT t y' = .pointer none:=H2;cases hu:i.u<;>rw[hu]at hq l7<;>simp at hq;cases hd:dd<;>rw[hd]at l7<;>simp[jal]at l7;rw[hd]at l8;exact jbX ho jD (by rw[e1,eqGuard_at_pointer];rfl) (by rw[e1,e2];exact E_ptr_sn 9999 w l8 _) (by rw[e1];rfl)
    .next a b=>
     simp only[zH,nbeq,zF]at hb;split at hb
     .next fD=>
      cases hb;obtain⟨l,hl,e1⟩:=H1;obtain⟨l',uD,e2⟩:=H2;rw[fD,uD]at hl;cases hl;cases hu:i.u<;>rw[hu]at hq l7<;>simp at hq
      next el=>
      cases hd:dd<;>rw[hd]at l7<;>simp[jal]at l7;rw[hd]at l8;subst l7;split at hq
      .next j hj=>
       obtain⟨infoj,dj,Fj⟩:=hT.facts hj;have w8:infoj.size≠0:=by rw[Fj.size];simpa[nbeq] using hq
       have h9:(Go.sizeOf el).run P w = .ok infoj.size w:=by simp[Go.sizeOf,typeInfo,Fj.hinfo]
       refine jbX ho jD (by rw[e1,eqGuard_at_pointer];rfl) ?_ (by rw[e1];rfl);rw[e1,e2,E_ptr_ss 9999 w l8 h9 w8];congr 1;rw[Bool.eq_iff_iff];simp
      .cases hq
     .cases hb
    ·
     next n c p n' c'=>
     cases hb;obtain⟨rfl,rfl,e1⟩:=H1;cases hu:i.u<;>rw[hu]at hq l7<;>simp at hq;cases hd:dd<;>rw[hd]at l7<;>simp[jal]at l7;rw[hd]at l8;cases p with
     |none=>
      obtain⟨_,_,e2⟩:=H2;exact jbX ho jD (by rw[e1,eqGuard_at_slice];rfl) (by rw[e1,e2];exact jl7 9999 w l8 _ _ _ _ _) (by rw[e1];rfl)
     |some a=>
      obtain⟨l,_,_,_,e2,_⟩:=H2;exact jbX ho jD (by rw[e1,eqGuard_at_slice];rfl) (by rw[e1,e2];exact jl7 9999 w l8 _ _ _ _ _) (by rw[e1];rfl)
    .cases hb;obtain⟨l,_,_,_,e1,_⟩:=H1;obtain⟨_,_,e2⟩:=H2;cases hu:i.u<;>rw[hu]at hq l7<;>simp at hq;cases hd:dd<;>rw[hd]at l7<;>simp[jal]at l7;rw[hd]at l8;exact jbX ho jD (by rw[e1,eqGuard_at_slice];rfl) (by rw[e1,e2];exact jog 9999 w l8 _ _ _ _ _) (by rw[e1];rfl)
    ·
     next p=>
     cases hb;have e1:evT t x' = .map none:=H1;cases hu:i.u<;>rw[hu]at hq l7<;>simp at hq;cases hd:dd<;>rw[hd]at l7<;>simp[jal]at l7;rw[hd]at l8;cases p with
     |none=>
      have e2:evT t y' = .map none:=H2;exact jbX ho jD (by rw[e1,eqGuard_at_map];rfl) (by rw[e1,e2];exact jpn 9999 w l8 _) (by rw[e1];rfl)
     |some a=>
      obtain⟨l,_,e2⟩:=H2;exact jbX ho jD (by rw[e1,eqGuard_at_map];rfl) (by rw[e1,e2];exact jpn 9999 w l8 _) (by rw[e1];rfl)
    .cases hb;obtain⟨l,_,e1⟩:=H1;have e2:evT t y' = .map none:=H2;cases hu:i.u<;>rw[hu]at hq l7<;>simp at hq;cases hd:dd<;>rw[hd]at l7<;>simp[jal]at l7;rw[hd]at l8;exact jbX ho jD (by rw[e1,eqGuard_at_map];rfl) (by rw[e1,e2];exact E_map_sn 9999 w l8 _) (by rw[e1];rfl)
    ·
     cases hb;have e1:evT t x' = .nilFunc:=H1;have e2:evT t y' = .nilFunc:=H2;cases hu:i.u<;>rw[hu]at hq l7<;>simp at hq;cases hd:dd<;>rw[hd]at l7<;>simp[jal]at l7;rw[hd]at l8;exact jbX ho jD (by rw[e1,eqGuard_at_nilFunc];rfl) (by rw[e1,e2];exact E_fn_nn 9999 w l8) (by rw[e1];rfl)
    .cases hb;obtain⟨xs,e1,_⟩:=H1;have e2:evT t y' = .nilFunc:=H2;cases hu:i.u<;>rw[hu]at hq l7<;>simp at hq;cases hd:dd<;>rw[hd]at l7<;>simp[jal]at l7;rw[hd]at l8;exact jbX ho jD (by rw[e1,eqGuard_at_func];rfl) (by rw[e1,e2];exact jmu 9999 w l8 _ _ _) (by rw[e1];rfl)
    .cases hb;obtain⟨xs,e1,_⟩:=H1;have e2:evT t y' = .nilFunc:=H2;cases hu:i.u<;>rw[hu]at hq l7<;>simp at hq;cases hd:dd<;>rw[hd]at l7<;>simp[jal]at l7;rw[hd]at l8;exact jbX ho jD (by rw[e1,eqGuard_at_func];rfl) (by rw[e1,e2];exact jmu 9999 w l8 _ _ _) (by rw[e1];rfl)
    .cases hb;obtain⟨xs,e1,_⟩:=H1;have e2:evT t y' = .nilFunc:=H2;cases hu:i.u<;>rw[hu]at hq l7<;>simp at hq;cases hd:dd<;>rw[hd]at l7<;>simp[jal]at l7;rw[hd]at l8;exact jbX ho jD (by rw[e1,eqGuard_at_func];rfl) (by rw[e1,e2];exact jmu 9999 w l8 _ _ _) (by rw[e1];rfl)
    .cases hb;have e1:evT t x' = .nilFunc:=H1;obtain⟨xs,e2,_⟩:=H2;cases hu:i.u<;>rw[hu]at hq l7<;>simp at hq;cases hd:dd<;>rw[hd]at l7<;>simp[jal]at l7;rw[hd]at l8;exact jbX ho jD (by rw[e1,eqGuard_at_nilFunc];rfl) (by rw[e1,e2];exact E_fn_ns 9999 w l8 _ _ _) (by rw[e1];rfl)
    ·
     cases hb;have e1:evT t x' = .nilIface:=H1;have e2:evT t y' = .nilIface:=H2;cases hu:i.u<;>rw[hu]at hq l7<;>simp only at hq<;>try (cases hq;done)
     cases hd:dd<;>rw[hd]at l7<;>simp[jal]at l7;rw[hd]at l8;refine jbX ho jD ?_ (by rw[e1,e2];exact E_if_nn 9999 w l8) (by rw[e1];rfl);rw[e1,e2];cases x' with
     |const c=>rw[eqGuard_nil_constL];rfl
     |_=>
      cases y' with
      |const c=>rw[eqGuard_nil_constR];rfl
      |_=>simp at hq
    .cases hb;have e1:evT t x' = .nilIface:=H1;obtain⟨z,e2,_⟩:=H2;cases hu:i.u<;>rw[hu]at hq l7<;>simp only at hq<;>try (cases hq;done)
     cases hd:dd<;>rw[hd]at l7<;>simp[jal]at l7;rw[hd]at l8;exact jbX ho jD (by rw[e1,e2,eqGuard_nil_iface];rfl) (by rw[e1,e2];exact jpp 9999 w l8 _ _) (by rw[e1];rfl)
    .cases hb;obtain⟨z,e1,_⟩:=H1;have e2:evT t y' = .nilIface:=H2;cases hu:i.u<;>rw[hu]at hq l7<;>simp only at hq<;>try (cases hq;done)
     cases hd:dd<;>rw[hd]at l7<;>simp[jal]at l7;rw[hd]at l8;exact jbX ho jD (by rw[e1,eqGuard_at_iface];rfl) (by rw[e1,e2];exact jpo 9999 w l8 _ _) (by rw[e1];rfl)
    .cases hb;obtain⟨u0,z,e1⟩:=H1;have e2:evT t y' = .nilIface:=H2;cases hu:i.u<;>rw[hu]at hq l7<;>simp only at hq<;>try (cases hq;done)
     cases hd:dd<;>rw[hd]at l7<;>simp[jal]at l7;rw[hd]at l8;exact jbX ho jD (by rw[e1,eqGuard_at_iface];rfl) (by rw[e1,e2];exact jpo 9999 w l8 _ _) (by rw[e1];rfl)
    .cases hb;have e1:evT t x' = .nilIface:=H1;obtain⟨u0,z,e2⟩:=H2;cases hu:i.u<;>rw[hu]at hq l7<;>simp only at hq<;>try (cases hq;done)
     cases hd:dd<;>rw[hd]at l7<;>simp[jal]at l7;rw[hd]at l8;exact jbX ho jD (by rw[e1,e2,eqGuard_nil_iface];rfl) (by rw[e1,e2];exact jpp 9999 w l8 _ _) (by rw[e1];rfl)
    ·
     next sh xs ys=>
     obtain⟨as,e1,ha⟩:=H1;obtain⟨bs,e2,dB⟩:=H2;have f9:i.eqs=true/\je5 C 20 ty=some sh/\jhl i.u=true:=by
      cases hu:i.u<;>rw[hu]at hq<;>simp at hq<;>exact⟨hq.1,hq.2,rfl⟩
     obtain⟨h3,h4,h5⟩:=f9;obtain⟨hl,hE⟩:=jjD (P:=P) (m:=m) hT 20 ty i sh hi h4;have Yh:xs.length=sh.length/\ys.length=sh.length:=jft hb;have jX:∀(l:List V) (zs:Array Value),jas m l zs.toList->l.length=i.size->(Go.part ty zs 0).run P w = .ok (.agg zs) w:=by
      intro l zs hz j4;have w8:jb3 C ty i.size=true:=by unfold jb3;rw[hi];exact beqT _
      have:zs.size=i.size:=by have:=hz.length;simp at this;omega
      have h0:zs.extract 0 i.size=zs:=by rw[<- this];simp
      simp[Go.part,jc1 hT hi,h5,ja8 hT w8,h0]
     obtain⟨x,y,h6,h7,h8⟩:=hE xs ys as bs 0 r ha dB om om (by
      rw[zk,zk,zh om,zh om];exact hb) 10000 om w
     rw[jX xs as ha om]at h6;rw[jX ys bs dB om]at h7;cases h6;cases h7;exact jbX ho jD (by rw[e1,e2];exact run_eqGuard_agg w op ty x' y' as bs (F.eqs h3).2) (by rw[e1,e2];exact h8) (by rw[e1];rfl)
    .cases hb
   .cases hq
  .cases hr
 .cases hr
end
end Am
