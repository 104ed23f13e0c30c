/- Our own library, part 5. -/
import Derived.Laws.Cover3
import Derived.Test.YtccoogikjelcbaaGreatDoorM04
set_option maxHeartbeats 8000000
set_option maxRecDepth 800
set_option linter.all false
namespace Am
open Go
section
variable {P:Program} {C:Cx} {m:Mp} {e:Env} {t:Array Value} {o:Oper} {v:V}
theorem jcE : ∀ (cs:List V) (vs:List V) (o:Nat),(jca vs o cs).length=vs.length
 | [],_,_=>rfl
 | x :: r,vs,o=>by simp [jca,jcE r]
theorem jah.set {l:List V} {xs:List Value} (h:jah m l xs) {u:V} {z:Value} (hz:VRel m u z) (i:Nat):jah m (l.set i u) (xs.set i z):=by
 refine jah.of_get (by simp [h.length]) fun k w hk=>?_
 rw [List.getElem?_set] at hk
 split at hk
 ·next e=>
  subst e
  split at hk
  ·next hl=>
   cases hk
   have:i<xs.length:=by rw [<- h.length];exact hl
   exact ⟨z,by simp [this],hz⟩
  ·cases hk
 ·next hne=>
  obtain ⟨x,h1,h2⟩:=h.get hk
  exact ⟨x,by rw [List.getElem?_set_ne hne];exact h1,h2⟩
def layL:List Value->Nat->List Value->List Value
 | xs,_,[]=>xs
 | xs,o,z :: r=>layL (xs.set o z) (o+1) r
theorem jhM : ∀ (zs:List Value) (xs:Array Value) (off j:Nat),
  ((zs.zipIdx j).foldl (fun cs (c:Value × Nat)=>cs.setIfInBounds (off+c.2) c.1) xs).toList=layL xs.toList (off+j) zs
 | [],xs,off,j=>by simp [layL]
 | z :: zs,xs,off,j=>by
  simp only [List.zipIdx_cons,List.foldl_cons,layL]
  rw [jhM zs _ off (j+1)]
  simp [Nat.add_assoc]
theorem jah.setAll : ∀ {cs:List V} {zs:List Value} {l:List V} {xs:List Value} (o:Nat),jah m l xs->jah m cs zs->jah m (Am.jca l o cs) (layL xs o zs)
 | [],_,_,_,_,h,hc=>by rw [show _=[] from hc];exact h
 | c :: cs,_,l,xs,o,h,⟨z,s,e,h2,h3⟩=>by
  subst e
  exact jah.setAll (o+1) (h.set h2 o) h3
def jdG (m:Mp):List (Nat × Nat × V)->List (Nat × Value)->(Nat->Option (Nat × Nat))->Prop
 | [],[],_=>True
 | (off,n,u) :: r,(i,z) :: s,place=>place i=some (off,n)/\VRel m u z/\jdG m r s place
 | _,_,_=>False
theorem jco {place:Nat->Option (Nat × Nat)} : ∀ {ps:List (Nat × Nat × V)} {qs:List (Nat × Value)} {l l':List V} {xs:Array Value},jdG m ps qs place->jah m l xs.toList->jaH l ps=some l' ->
  ∃ ys,Instr.fill place xs qs=some ys/\jah m l' ys.toList
 | [],[],l,l',xs,_,h,hr=>by
  simp [jaH] at hr;subst hr
  exact ⟨xs,rfl,h⟩
 | [],_ :: _,_,_,_,hp,_,_=>hp.elim
 | _ :: _,[],_,_,_,hp,_,_=>hp.elim
 | (off,n,u) :: r,(i,z) :: s,l,l',xs,hp,h,hr=>by
  obtain ⟨h1,h2,h3⟩:=hp
  simp only [jaH,zt,zm,beq_iff_eq,zA] at hr
  split at hr
  ·next hc=>
   have hcells:=h2.cells
   have hlen:z.cells.size=n:=by
    have:=hcells.length
    simp at this
    omega
   have hxs:xs.size=l.length:=by simpa using h.length.symm
   have hcond : ¬ (z.cells.size≠n||off+z.cells.size>xs.size)=true:=by
    simp;omega
   simp only [Instr.fill,h1]
   rw [zb hcond]
   refine jco h3 ?_ hr
   have e1:=jhM z.cells.toList xs off 0
   have e2:(z.cells.zipIdx.foldl (fun cs (x:Value × Nat)=>cs.setIfInBounds (off+x.2) x.1) xs).toList=layL xs.toList off z.cells.toList:=by
    rw [<- Array.foldl_toList,Array.toList_zipIdx]
    exact e1
   rw [show (z.cells.zipIdx.foldl (fun cs (x,j)=>cs.setIfInBounds (off+j) x) xs).toList=layL xs.toList off z.cells.toList from e2]
   exact h.setAll off hcells
  ·cases hr
theorem jeW (hT:TOk P C) (w:World) : ∀ (gs:List Field) (fs:List (Nat × TypeId)),jaD fs gs=true->fs.all (fun q=>(C.T.at_ q.2).isSome)=true ->
  ∃ ps:List (Nat × Nat),(gs.mapM (m:=Sem) fun f=>do pure (f.offset,<- Go.sizeOf f.type)).run P w = .ok ps w /\
   ∀ (i:Nat) (q:Nat × TypeId),fs[i]?=some q -> ∀ n,jaz C q.2 n=true->ps[i]?=some (q.1,n)
 | [],[],_,_=>⟨[],by simp,by simp⟩
 | [],_ :: _,h,_=>by simp [jaD] at h
 | _ :: _,[],h,_=>by simp [jaD] at h
 | f :: gs,(a,ty) :: fs,h,hk=>by
  simp only [jaD,zm,nbeq,zq] at h
  simp only [List.all_cons,zm] at hk
  obtain ⟨ps,h1,h2⟩:=jeW hT w gs fs h.2 hk.2
  obtain ⟨j,hj⟩:=Option.isSome_iff_exists.1 hk.1
  have hs:jaz C ty j.size=true:=by unfold jaz;rw [hj];exact beqT _
  have hft:f.type=ty:=h.1.1.2.symm
  have hfo:f.offset=a:=h.1.1.1.symm
  refine ⟨(a,j.size) :: ps,?_,?_⟩
  ·simp only [List.mapM_cons,zF,hft,jam hT hs,zG,zH,h1,hfo]
  ·intro i q hq n hn
   cases i with
   | zero=>
    simp at hq;subst hq
    unfold jaz at hn;rw [hj] at hn
    simp [jb7.1 hn]
   | succ i=>simpa using h2 i q (by simpa using hq) n hn
theorem jdS (hG:GOk C m) (he:ERel m e t) {u:UD} {place:Nat->Option (Nat × Nat)}
  (hpl : ∀ i off n,jcY C u i off n=true->place i=some (off,n)) :
  ∀ {ps:List (Nat × Nat × Opd)} {qs:List (Nat × Operand)} {vs:List (Nat × Nat × V)},jbw C u ps qs=true->jaR e ps=some vs->jdG m vs (qs.map fun p=>(p.1,evT t p.2)) place
 | [],[],vs,_,h=>by simp [jaR] at h;subst h;trivial
 | [],_ :: _,_,h,_=>by simp [jbw] at h
 | _ :: _,[],_,h,_=>by simp [jbw] at h
 | (off,n,x) :: r,(i,y) :: s,vs,h,hv=>by
  simp only [jbw,zm] at h
  simp only [jaR] at hv
  split at hv
  ·next a l h1 h2=>
   cases hv
   exact ⟨hpl i off n h.2,jab hG he h.1.1 h1,jdS hG he hpl h.1.2 h2⟩
  ·cases hv
theorem jkE (hT:TOk P C) (hG:GOk C m) (he:ERel m e t) {z:List V} {ps:List (Nat × Nat × Opd)} {qs:Array (Nat × Operand)} {ty:TypeId} (ho:o.op = .build ty qs) (hz:jb1 C ty z=true)
  (hp:(match C.T.at_ ty with | some i=>jgo C i.u&&jbw C i.u ps qs.toList | none=>false)=true) (hr:I.pure e (.build z ps)=some v) (w:World):jay P m t o v w:=by
 simp only [I.pure] at hr
 split at hr
 ·next pv h1=>
  split at hr
  ·next l h2=>
   cases hr
   split at hp
   ·next ti hti=>
    simp only [zm] at hp
    obtain ⟨hk,hp⟩:=hp
    obtain ⟨zv,hz1,hz2⟩:=jbN hT hz m
    obtain ⟨info,d,F⟩:=hT.facts hti
    have hud:=F.ud
    have hqs:(qs.map fun (i,x)=>(i,evT t x)).toList=qs.toList.map fun p=>(p.1,evT t p.2):=by simp
    cases hu:ti.u with
    | struct fs=>
     rw [hu] at hk hp hud
     cases hd:d<;>rw [hd] at hud<;>simp only [jaf] at hud<;>try (cases hud;done)
     next gs=>
     have hund:=F.und
     rw [hd] at hund
     obtain ⟨pl,h3,h4⟩:=jeW (P:=P) hT w gs.toList fs hud hk
     have h5:(gs.mapM (m:=Sem) fun f=>do pure (f.offset,<- Go.sizeOf f.type)).run P w = .ok pl.toArray w:=by
      rw [Array.mapM_eq_mapM_toList,Sem.run_map,h3]
      rfl
     have hrel:=jdS (t:=t) hG he (u := .struct fs) (place:=fun i=>pl.toArray[i]?) (fun i off n hh=>by
      dsimp only [jcY] at hh
      split at hh
      ·next o2 t2 hf=>
       simp only [zm,nbeq,zq] at hh
       have:=h4 i _ hf n hh.2
       simp only [List.getElem?_toArray,this,hh.1]
      ·cases hh) hp h1
     obtain ⟨ys,h6,h7⟩:=jco hrel hz2 h2
     refine ⟨.agg ys,?_,ys,rfl,h7⟩
     simp only [execOp,ho,zF,Instr.build,hz1,zG,zI hund,h5,hqs,h6]
     rfl
    | array k e2=>
     rw [hu] at hk hp hud
     cases hd:d<;>rw [hd] at hud<;>simp only [jaf] at hud<;>try (cases hud;done)
     next k3 e3=>
     have hund:=F.und
     rw [hd] at hund
     simp only [zm,nbeq,zq] at hud
     obtain ⟨rfl,rfl⟩:=hud
     cases hps:ps with
     | nil=>
      subst hps
      simp [jaR] at h1;subst h1
      simp [jaH] at h2;subst h2
      have:qs.toList=[]:=by
       cases hq:qs.toList with
       | nil=>rfl
       | cons _ _=>rw [hq] at hp;simp [jbw] at hp
      have hq0:qs = #[]:=by rw [<- Array.toList_inj];simpa using this
      subst hq0
      have hsz : ∃ n,(Go.sizeOf e2).run P w = .ok n w:=by
       simp only [jgo] at hk
       unfold jb1 at hz
       obtain ⟨j,hj⟩ : ∃ j,C.T.at_ e2=some j:=by
        cases hj:C.T.at_ e2 with
        | some j=>exact ⟨j,rfl⟩
        | none=>rw [hj] at hk;simp at hk
       exact ⟨j.size,jam hT (by unfold jaz;rw [hj];exact beqT _) w⟩
      obtain ⟨n,hn⟩:=hsz
      refine ⟨.agg zv.cells,?_,zv.cells,rfl,hz2⟩
      simp [execOp,ho,Instr.build,hz1,zI hund,hn,Instr.fill]
     | cons p0 pr=>
      have hn : ∃ n,jaz C e2 n=true:=by
       rw [hps] at hp
       cases hq:qs.toList with
       | nil=>rw [hq] at hp;simp [jbw] at hp
       | cons q0 qr=>
        rw [hq] at hp
        obtain ⟨off,n,x⟩:=p0
        obtain ⟨i,y⟩:=q0
        simp only [jbw,jcY,zm] at hp
        exact ⟨n,hp.2.1⟩
      obtain ⟨n,hn⟩:=hn
      have hrel:=jdS (t:=t) hG he (u := .array k e2) (place:=fun i=>some (i*n,n)) (fun i off n' hh=>by
       simp only [jcY,zm,nbeq,zq] at hh
       have hnn:n'=n:=by
        have a:=hh.1;have b:=hn
        unfold jaz at a b
        split at a
        ·next j hj=>rw [hj] at b;rw [<- jb7.1 a,<- jb7.1 b]
        ·cases a
       subst hnn
       rw [hh.2]) hp h1
      obtain ⟨ys,h6,h7⟩:=jco hrel hz2 h2
      refine ⟨.agg ys,?_,ys,rfl,h7⟩
      simp only [execOp,ho,zF,Instr.build,hz1,zG,zI hund,jam hT hn,hqs,h6]
      rfl
    | _=>
     rw [hu] at hp
     cases hps:ps with
     | nil=>
      subst hps
      rw [hu] at hk
      simp [jgo] at hk
     | cons p0 pr=>
      rw [hps] at hp
      cases hq:qs.toList with
      | nil=>rw [hq] at hp;simp [jbw] at hp
      | cons q0 qr=>rw [hq] at hp;obtain ⟨off,n,x⟩:=p0;obtain ⟨i,y⟩:=q0;simp [jbw,jcY] at hp
   ·cases hp
  ·cases hr
 ·cases hr
end
end Am
namespace Am
open Go
section
variable {P:Program} {C:Cx} {m:Mp} {e:Env} {t:Array Value} {o:Oper} {v:V}
theorem jbJ : ∀ {a b:List LK} {l l':List V} {r:Bool},jat (a++b) l l'=some r ->
  ∃ r1 r2,jat a (l.take a.length) (l'.take a.length)=some r1/\jat b (l.drop a.length) (l'.drop a.length)=some r2/\r=(r1&&r2)
 | [],b,l,l',r,h=>⟨true,r,by simp [jat],by simpa using h,by simp⟩
 | k :: a,b,[],l',r,h=>by simp [jat] at h
 | k :: a,b,x :: l,[],r,h=>by simp [jat] at h
 | k :: a,b,x :: l,y :: l',r,h=>by
  simp only [List.cons_append,jat] at h
  split at h
  ·next u1 u2 e1 e2=>
   cases h
   obtain ⟨r1,r2,h1,h2,h3⟩:=jbJ e2
   exact ⟨u1&&r1,r2,by simp [jat,e1,h1],by simpa using h2,by rw [h3,Bool.and_assoc]⟩
  ·cases h
theorem jbp : ∀ {sh:List LK} {xs ys:List V} {r:Bool},jat sh xs ys=some r->xs.length=sh.length/\ys.length=sh.length
 | [],[],[],_,_=>⟨rfl,rfl⟩
 | [],[],_ :: _,_,h=>by simp [jat] at h
 | [],_ :: _,_,_,h=>by simp [jat] at h
 | _ :: _,[],_,_,h=>by simp [jat] at h
 | _ :: _,_ :: _,[],_,h=>by simp [jat] at h
 | _ :: sh,_ :: xs,_ :: ys,_,h=>by
  simp only [jat] at h
  split at h
  ·next e2=>have:=jbp e2;simp;exact this
  ·cases h
def jnj:LK->TypeDesc
 | .bool=>.bool
 | .int k=>.int k
 | .str=>.string
theorem jkM {lk:LK} {a b:V} {x y:Value} {r:Bool} (ha:VRel m a x) (hb:VRel m b y) (h:jfh lk a b=some r) {ty:TypeId}
  (hu:P.underlying ty=some (jnj lk)) (d:Nat) (w:World):(Op.equalIn (d+1) ty x y).run P w = .ok r w:=by
 unfold jfh at h
 split at h
 ·cases h;rw [show x=_ from ha,show y=_ from hb];exact run_equalIn_bool' w d ty _ _ hu
 ·simp only [zt,zm,beq_iff_eq] at h
  split at h
  ·next hk=>
   cases h
   obtain ⟨rfl,rfl⟩:=hk
   rw [show x=_ from ha,show y=_ from hb];exact run_equalIn_int w d ty _ _ _ _ hu
  ·cases h
 ·cases h
  rw [show x=_ from ha,show y=_ from hb,run_equalIn_string w d ty _ _ hu]
  simp [ByteArray.toList_eq]
 ·cases h
def EqOk (P:Program) (m:Mp) (n:Nat) (ty:TypeId) (size:Nat) (sh:List LK):Prop :=
 sh.length=size /\ ∀ (la lb:List V) (xs ys:Array Value) (off:Nat) (r:Bool),jah m la xs.toList->jah m lb ys.toList->off+size<=la.length->off+size<=lb.length ->
  jat sh ((la.drop off).take size) ((lb.drop off).take size)=some r -> ∀ d,n<=d -> ∀ w,∃ x y,(Go.part ty xs off).run P w = .ok x w/\(Go.part ty ys off).run P w = .ok y w/\(Op.equalIn d ty x y).run P w = .ok r w
theorem jd0 (n size:Nat) (H : ∀ ty i sh,C.T.at_ ty=some i->jaS C n ty=some sh->EqOk P m n ty i.size sh) :
  ∀ (fs:List (Nat × TypeId)) (gs:List Field) (off:Nat) (sh:List LK),jbk C (jaS C n) off size fs=some sh->jaD fs gs=true->off<=size ->
  off+sh.length=size /\ ∀ (la lb:List V) (xs ys:Array Value) (r:Bool),jah m la xs.toList->jah m lb ys.toList->la.length=size->lb.length=size ->
   jat sh (la.drop off) (lb.drop off)=some r -> ∀ d,n<=d -> ∀ w,(Op.eqFields d xs ys gs).run P w = .ok r w
 | [],[],off,sh,hs,_,_=>by
  simp only [jbk,zt,nbeq,zq] at hs
  split at hs
  ·next e=>
   cases hs
   refine ⟨by simpa using e,fun la lb xs ys r _ _ h1 h2 hr d _ w=>?_⟩
   rw [List.drop_eq_nil_of_le om,List.drop_eq_nil_of_le om] at hr
   simp [jat] at hr
   subst hr
   simp [Op.eqFields]
  ·cases hs
 | [],_ :: _,_,_,_,h,_=>by simp [jaD] at h
 | _ :: _,[],_,_,_,h,_=>by simp [jaD] at h
 | (o1,ty) :: fs,f :: gs,off,sh,hs,hf,hoff=>by
  simp only [jaD,zm,nbeq,zq,bne_iff_ne] at hf
  simp only [jbk] at hs
  split at hs
  ·next i a b e1 e2 e3=>
   rw [e1] at e3
   simp only [zt,nbeq,zq] at hs
   split at hs
   ·next ho=>
    cases hs
    obtain ⟨hl,hE⟩:=H ty i a e1 e2
    have hoff2:off+i.size<=size:=by
     rcases zr size (off+i.size) with hlt | hge
     ·exfalso
      have : ∀ (fs:List (Nat × TypeId)) (q:Nat) (s:List LK),size<q->jbk C (jaS C n) q size fs≠some s:=by
       intro fs
       induction fs with
       | nil=>
        intro q s hq h
        simp only [jbk,zt,nbeq,zq] at h
        split at h
        ·omega
        ·cases h
       | cons p fs ih=>
        intro q s hq h
        obtain ⟨p1,p2⟩:=p
        simp only [jbk] at h
        split at h
        ·next j _ _ f1 _ f3=>rw [f1] at f3;exact ih _ _ om f3
        ·cases h
      exact this _ _ _ hlt e3
     ·exact hge
    obtain ⟨hl2,hE2⟩:=jd0 n size H fs gs (off+i.size) b e3 hf.2 hoff2
    refine ⟨by simp;omega,fun la lb xs ys r ha hb h1 h2 hr d hd w=>?_⟩
    obtain ⟨r1,r2,h3,h4,h5⟩:=jbJ hr
    rw [hl] at h3 h4
    rw [List.drop_drop] at h4
    rw [List.drop_drop] at h4
    obtain ⟨x,y,h6,h7,h8⟩:=hE la lb xs ys off r1 ha hb om om h3 d hd w
    have h9:=hE2 la lb xs ys r2 ha hb h1 h2 (by simpa [Nat.add_comm] using h4) d hd w
    have hft:f.type=ty:=hf.1.1.2.symm
    have hfo:f.offset=off:=hf.1.1.1.symm.trans ho
    simp only [Op.eqFields]
    rw [zg hf.1.2]
    simp only [zF,hft,hfo,h6,h7,h8,zG,Sem.run_ite,h9]
    cases r1
    ·simp at h5;simp [h5]
    ·simp at h5;simp [h5]
   ·cases hs
  ·cases hs
theorem jcV {k:Nat} {ty el:TypeId} {esz:Nat} {sh:List LK} (hT:TOk P C) (hu:P.underlying ty=some (.array k el)) (hsz:jaz C el esz=true) {n:Nat} (hE:EqOk P m n el esz sh)
  {la lb:List V} {xs ys:Array Value} (ha:jah m la xs.toList) (hb:jah m lb ys.toList) (h1:la.length=k*esz) (h2:lb.length=k*esz) {r:Bool}
  (hr:jat (List.replicate k sh).flatten la lb=some r) (d:Nat) (hd:n<=d) (w:World):(Op.equalIn (d+1) ty (.agg xs) (.agg ys)).run P w = .ok r w:=by
 simp only [Op.equalIn,zF,zI hu,zG,jam hT hsz]
 rw [Std.Legacy.Range.forIn_eq_forIn_range']
 simp only [Std.Legacy.Range.size,Nat.sub_zero,Nat.add_sub_cancel,Nat.div_one]
 have key : ∀ (q j:Nat) (r:Bool),j+q=k->jat (List.replicate q sh).flatten (la.drop (j*esz)) (lb.drop (j*esz))=some r ->
   ∀ w,((forIn (List.range' j q 1) ((none,()):Option Bool × Unit) fun i _=>do
    let x<-Go.part el xs (i*esz)
    let y<-Go.part el ys (i*esz)
    let b<-Op.equalIn d el x y
    if (!b)=true then pure (ForInStep.done (some false,())) else pure (ForInStep.yield (none,())):Sem (Option Bool × Unit))).run P w =
    .ok (if r then (none,()) else (some false,())) w:=by
  intro q
  induction q with
  | zero=>
   intro j r hj hr w
   rw [List.drop_eq_nil_of_le (by rw [h1,<- hj];simp),List.drop_eq_nil_of_le (by rw [h2,<- hj];simp)] at hr
   simp [jat] at hr
   subst hr
   simp
  | succ q ih=>
   intro j r hj hr w
   rw [List.replicate_succ,List.flatten_cons] at hr
   obtain ⟨r1,r2,h3,h4,h5⟩:=jbJ hr
   rw [hE.1] at h3 h4
   rw [List.drop_drop,List.drop_drop] at h4
   have hjk:j*esz+esz<=k*esz:=by
    have:(j+1)*esz<=k*esz:=Nat.mul_le_mul_right _ om
    rw [Nat.add_mul] at this;omega
   obtain ⟨x,y,h6,h7,h8⟩:=hE.2 la lb xs ys (j*esz) r1 ha hb om om h3 d hd w
   have h9:=ih (j+1) r2 om (by rw [Nat.add_mul,Nat.one_mul];exact h4) w
   rw [List.range'_succ,List.forIn_cons]
   simp only [zF,h6,h7,h8,zG,Sem.run_ite,zH]
   cases r1
   ·simp at h5;simp [h5]
   ·simp at h5
    simp only [Bool.not_true,zB,if_false,zG]
    rw [h9,h5]
 have:=key k 0 r om (by simpa using hr) w
 rw [this]
 cases r<;>rfl
theorem jbP (hT:TOk P C) : ∀ (n:Nat) (ty:TypeId) (i:TI) (sh:List LK),C.T.at_ ty=some i->jaS C n ty=some sh->EqOk P m n ty i.size sh
 | 0,_,_,_,_,h=>by simp [jaS] at h
 | n+1,ty,i,sh,hi,h=>by
  obtain ⟨info,dd,F⟩:=hT.facts hi
  have hud:=F.ud
  have hund:=F.und
  simp only [jaS,hi] at h
  have leaf : ∀ lk,sh=[lk]->i.size=1->jbF i.u=false->P.underlying ty=some (jnj lk)->EqOk P m (n+1) ty i.size sh:=by
   rintro lk rfl hs hna hu
   refine ⟨by simp [hs],fun la lb xs ys off r ha hb h1 h2 hr d hd w=>?_⟩
   rw [hs] at h1 h2 hr
   have ea : ∃ a,la[off]?=some a/\(la.drop off).take 1=[a]:=by
    refine ⟨la[off]'om,by simp,?_⟩
    rw [List.drop_eq_getElem_cons om];rfl
   have eb : ∃ b,lb[off]?=some b/\(lb.drop off).take 1=[b]:=by
    refine ⟨lb[off]'om,by simp,?_⟩
    rw [List.drop_eq_getElem_cons om];rfl
   obtain ⟨a,ea1,ea2⟩:=ea
   obtain ⟨b,eb1,eb2⟩:=eb
   rw [ea2,eb2] at hr
   simp only [jat] at hr
   split at hr
   ·next u1 u2 e1 e2=>
    cases e2;cases hr
    obtain ⟨x,hx,hax⟩:=ha.get ea1
    obtain ⟨y,hy,hby⟩:=hb.get eb1
    have hx':xs[off]?=some x:=by rw [<- hx];simp
    have hy':ys[off]?=some y:=by rw [<- hy];simp
    obtain ⟨d,rfl⟩ : ∃ d',d=d'+1:=⟨d-1,by omega⟩
    refine ⟨x,y,?_,?_,?_⟩
    ·simp [Go.part,ja6 hT hi,hna,hx']
    ·simp [Go.part,ja6 hT hi,hna,hy']
    ·rw [jkM hax hby e1 hu];simp
   ·cases hr
  cases hu:i.u with
  | bool=>
   rw [hu] at h hud;simp only [zt,nbeq,zq] at h
   split at h
   ·next hs=>
    cases h
    cases hd:dd<;>rw [hd] at hud<;>simp only [jaf] at hud<;>try (cases hud;done)
    exact leaf .bool rfl hs (by rw [hu];rfl) (by rw [hund,hd];rfl)
   ·cases h
  | int k=>
   rw [hu] at h hud;simp only [zt,nbeq,zq] at h
   split at h
   ·next hs=>
    cases h
    cases hd:dd<;>rw [hd] at hud<;>simp only [jaf] at hud<;>try (cases hud;done)
    simp at hud;subst hud
    exact leaf (.int k) rfl hs (by rw [hu];rfl) (by rw [hund,hd];rfl)
   ·cases h
  | str=>
   rw [hu] at h hud;simp only [zt,nbeq,zq] at h
   split at h
   ·next hs=>
    cases h
    cases hd:dd<;>rw [hd] at hud<;>simp only [jaf] at hud<;>try (cases hud;done)
    exact leaf .str rfl hs (by rw [hu];rfl) (by rw [hund,hd];rfl)
   ·cases h
  | struct fs=>
   rw [hu] at h hud;simp only [zt] at h
   split at h
   ·next he=>
    cases hd:dd<;>rw [hd] at hud<;>simp only [jaf] at hud<;>try (cases hud;done)
    next gs=>
    obtain ⟨hst,_⟩:=F.eqs he
    obtain ⟨hlen,hE⟩:=jd0 (P:=P) (m:=m) n i.size (fun ty' i' sh' a b=>jbP hT n ty' i' sh' a b) fs gs.toList 0 sh h hud (Nat.zero_le _)
    refine ⟨by omega,fun la lb xs ys off r ha hb h1 h2 hr d hd' w=>?_⟩
    obtain ⟨d,rfl⟩ : ∃ d',d=d'+1:=⟨d-1,by omega⟩
    have hag:jbF i.u=true:=by rw [hu];rfl
    have hsz:jaz C ty i.size=true:=by unfold jaz;rw [hi];exact beqT _
    have ex : ∀ zs:Array Value,(zs.extract off (off+i.size)).toList=(zs.toList.drop off).take i.size:=by intro zs;simp
    refine ⟨.agg (xs.extract off (off+i.size)),.agg (ys.extract off (off+i.size)),?_,?_,?_⟩
    ·simp [Go.part,ja6 hT hi,hag,jam hT hsz]
    ·simp [Go.part,ja6 hT hi,hag,jam hT hsz]
    ·have hfo:P.fieldsOf ty=gs:=by unfold Program.fieldsOf;rw [hund,hd]
     rw [run_equalIn_struct w d ty _ _ (by rw [hfo,hund,hd]) hst,hfo]
     refine hE _ _ _ _ r (by rw [ex];exact (ha.drop off).take i.size) (by rw [ex];exact (hb.drop off).take i.size) Za Za (by simpa using hr) d om w
   ·cases h
  | array k el=>
   rw [hu] at h hud
   dsimp only at h
   split at h
   ·next j sh' hj hsh=>
    simp only [zt,zm,nbeq,zq] at h
    split at h
    ·next hc=>
     obtain ⟨he,hs⟩:=hc
     cases h
     cases hd:dd<;>rw [hd] at hud<;>simp only [jaf,zm,nbeq,zq] at hud<;>try (cases hud;done)
     next k' el'=>
     obtain ⟨rfl,rfl⟩:=hud
     have hE:=jbP hT n el j sh' hj hsh
     have hesz:jaz C el j.size=true:=by unfold jaz;rw [hj];exact beqT _
     refine ⟨?_,fun la lb xs ys off r ha hb h1 h2 hr d hd' w=>?_⟩
     ·rw [hs];simp [hE.1]
     ·obtain ⟨d,rfl⟩ : ∃ d',d=d'+1:=⟨d-1,by omega⟩
      have hag:jbF i.u=true:=by rw [hu];rfl
      have hsz:jaz C ty i.size=true:=by unfold jaz;rw [hi];exact beqT _
      have ex : ∀ zs:Array Value,(zs.extract off (off+i.size)).toList=(zs.toList.drop off).take i.size:=by intro zs;simp
      refine ⟨.agg (xs.extract off (off+i.size)),.agg (ys.extract off (off+i.size)),?_,?_,?_⟩
      ·simp [Go.part,ja6 hT hi,hag,jam hT hsz]
      ·simp [Go.part,ja6 hT hi,hag,jam hT hsz]
      ·exact jcV hT (by rw [hund,hd]) hesz hE (by rw [ex];exact (ha.drop off).take i.size) (by rw [ex];exact (hb.drop off).take i.size) Za Za hr d om w
    ·cases h
   ·cases h
  | _=>rw [hu] at h;cases h
section
variable {ty:TypeId} (d:Nat) (w:World)
theorem jmt {el:TypeId} (h:P.underlying ty=some (.pointer el)) (b:Option Addr):(Op.equalIn (d+1) ty (.pointer none) (.pointer b)).run P w = .ok b.isNone w:=by
 simp only [Op.equalIn,zF,zI h,zG,zH]
theorem E_ptr_sn {el:TypeId} (h:P.underlying ty=some (.pointer el)) (a:Addr):(Op.equalIn (d+1) ty (.pointer (some a)) (.pointer none)).run P w = .ok false w:=by
 simp only [Op.equalIn,zF,zI h,zG,zH]
theorem E_ptr_ss {el:TypeId} (h:P.underlying ty=some (.pointer el)) {n:Nat} (hs:(Go.sizeOf el).run P w = .ok n w) (hn:n≠0) (b o o':Nat) :
  (Op.equalIn (d+1) ty (.pointer (some ⟨b,o,none⟩)) (.pointer (some ⟨b,o',none⟩))).run P w = .ok (o == o') w:=by
 have hab:((⟨b,o,none⟩:Addr) == ⟨b,o',none⟩)=(o == o'):=by rw [Bool.eq_iff_iff];simp
 simp only [Op.equalIn,zF,zI h,zG,hs,Sem.run_ite]
 simp [hn,sameAddr,hab]
theorem jia {el:TypeId} (h:P.underlying ty=some (.slice el)) (n c:Nat) (b:Option Addr) (n' c':Nat):(Op.equalIn (d+1) ty (.slice none n c) (.slice b n' c')).run P w = .ok b.isNone w:=by
 simp only [Op.equalIn,zF,zI h,zG,zH]
theorem jlh {el:TypeId} (h:P.underlying ty=some (.slice el)) (a:Addr) (n c n' c':Nat):(Op.equalIn (d+1) ty (.slice (some a) n c) (.slice none n' c')).run P w = .ok false w:=by
 simp only [Op.equalIn,zF,zI h,zG,zH]
theorem jmu {k el:TypeId} (h:P.underlying ty=some (.map k el)) (b:Option Nat):(Op.equalIn (d+1) ty (.map none) (.map b)).run P w = .ok b.isNone w:=by
 simp only [Op.equalIn,zF,zI h,zG,zH]
theorem E_map_sn {k el:TypeId} (h:P.underlying ty=some (.map k el)) (b:Nat):(Op.equalIn (d+1) ty (.map (some b)) (.map none)).run P w = .ok false w:=by
 simp only [Op.equalIn,zF,zI h,zG,zH]
theorem E_fn_nn {a b:Array TypeId} {c:Bool} (h:P.underlying ty=some (.func a b c)):(Op.equalIn (d+1) ty .nilFunc .nilFunc).run P w = .ok true w:=by
 simp only [Op.equalIn,zF,zI h,zG,zH]
theorem jjm {a b:Array TypeId} {c:Bool} (h:P.underlying ty=some (.func a b c)) (f:Fn) (x y:Array Value):(Op.equalIn (d+1) ty (.func f x y) .nilFunc).run P w = .ok false w:=by
 simp only [Op.equalIn,zF,zI h,zG,zH]
theorem E_fn_ns {a b:Array TypeId} {c:Bool} (h:P.underlying ty=some (.func a b c)) (f:Fn) (x y:Array Value):(Op.equalIn (d+1) ty .nilFunc (.func f x y)).run P w = .ok false w:=by
 simp only [Op.equalIn,zF,zI h,zG,zH]
theorem E_if_nn {ms:Array (String × TypeId)} (h:P.underlying ty=some (.interface ms)):(Op.equalIn (d+1) ty .nilIface .nilIface).run P w = .ok true w:=by
 simp only [Op.equalIn,zF,zI h,zG,zH]
theorem jmv {ms:Array (String × TypeId)} (h:P.underlying ty=some (.interface ms)) (u:TypeId) (x:Value):(Op.equalIn (d+1) ty (.iface u x) .nilIface).run P w = .ok false w:=by
 simp only [Op.equalIn,zF,zI h,zG,zH]
theorem jmw {ms:Array (String × TypeId)} (h:P.underlying ty=some (.interface ms)) (u:TypeId) (x:Value):(Op.equalIn (d+1) ty .nilIface (.iface u x)).run P w = .ok false w:=by
 simp only [Op.equalIn,zF,zI h,zG,zH]
end
def Value.plainEq:Value->Bool
 | .int .. | .string _ | .float .. | .complex ..=>false
 | _=>true
theorem jaM {op:BinOp} {neg:Bool} {x' y':Operand} {ty ty':TypeId} {r:Bool} (ho:o.op = .binOp op ty x' y' ty') (hop:op=if neg then .neq else .eql) {w:World}
  (hg:(eqGuard op ty x' y' (evT t x') (evT t y')).run P w = .ok () w) (hE:(Op.equalIn (9999+1) ty (evT t x') (evT t y')).run P w = .ok r w) (hp:Value.plainEq (evT t x')=true) :
  jay P m t o (.bool (bif neg then !r else r)) w:=by
 refine ⟨.bool (bif neg then !r else r),?_,rfl⟩
 have hE':(Op.equal ty (evT t x') (evT t y')).run P w = .ok r w:=hE
 clear hE
 simp only [execOp,ho,zF,hg,zG]
 generalize evT t x'=p at *
 generalize evT t y'=q at *
 cases neg
 ·have:op = .eql:=by simpa using hop
  subst this
  cases p<;>first | (cases hp;done) | simp only [Go.binOp,zF,hE',zG,zH,cond_false]
 ·have:op = .neq:=by simpa using hop
  subst this
  cases p<;>first | (cases hp;done) | simp only [Go.binOp,zF,hE',zG,zH,cond_true]
theorem pure_eq (hT:TOk P C) (hG:GOk C m) (he:ERel m e t) {k:EK} {neg:Bool} {op:BinOp} {x y:Opd} {x' y':Operand} {ty ty':TypeId} (ho:o.op = .binOp op ty x' y' ty')
  (hop:(if neg then op == .neq else op == .eql)=true) (hx:opdM C x x'=true) (hy:opdM C y y'=true) (hq:eqM C k ty x' y'=true) (hr:I.pure e (.eq k neg x y)=some v) (w:World):jay P m t o v w:=by
 simp only [I.pure] at hr
 split at hr
 ·next a b h1 h2=>
  split at hr
  ·next r hb=>
   cases hr
   have H1:=jab (t:=t) hG he hx h1
   have H2:=jab (t:=t) hG he hy h2
   have hop':op=if neg then .neq else .eql:=by cases neg<;>simpa using hop
   unfold eqM at hq
   split at hq
   ·next i hi=>
    obtain ⟨info,dd,F⟩:=hT.facts hi
    have hud:=F.ud
    have hund:=F.und
    unfold eqOp at hb
    split at hb
    ·
     next a b=>
     cases hb
     have e1:evT t x' = .bool a:=H1
     have e2:evT t y' = .bool b:=H2
     cases hu:i.u<;>rw [hu] at hq hud<;>simp at hq
     cases hd:dd<;>rw [hd] at hud<;>simp [jaf] at hud
     rw [hd] at hund
     exact jaM ho hop' (by rw [e1,eqGuard_at_bool];rfl) (by rw [e1,e2];exact run_equalIn_bool' w 9999 ty _ _ hund) (by rw [e1];rfl)
    ·
     next p=>
     cases hb
     have e1:evT t x' = .pointer none:=H1
     cases hu:i.u<;>rw [hu] at hq hud<;>simp at hq
     cases hd:dd<;>rw [hd] at hud<;>simp [jaf] at hud
     rw [hd] at hund
     cases p with
     | none=>
      have e2:evT t y' = .pointer none:=H2
      exact jaM ho hop' (by rw [e1,eqGuard_at_pointer];rfl) (by rw [e1,e2];exact jmt 9999 w hund _) (by rw [e1];rfl)
     | some a=>
      obtain ⟨l,_,e2⟩:=H2
      exact jaM ho hop' (by rw [e1,eqGuard_at_pointer];rfl) (by rw [e1,e2];exact jmt 9999 w hund _) (by rw [e1];rfl)
    ·cases hb
     obtain ⟨l,_,e1⟩:=H1
     have e2:evT t y' = .pointer none:=H2
     cases hu:i.u<;>rw [hu] at hq hud<;>simp at hq
     cases hd:dd<;>rw [hd] at hud<;>simp [jaf] at hud
     rw [hd] at hund
     exact jaM ho hop' (by rw [e1,eqGuard_at_pointer];rfl) (by rw [e1,e2];exact E_ptr_sn 9999 w hund _) (by rw [e1];rfl)
    ·next a b=>
     simp only [zt,nbeq,zq] at hb
     split at hb
     ·next hbb=>
      cases hb
      obtain ⟨l,hl,e1⟩:=H1
      obtain ⟨l',hl',e2⟩:=H2
      rw [hbb,hl'] at hl
      cases hl
      cases hu:i.u<;>rw [hu] at hq hud<;>simp at hq
      next el=>
      cases hd:dd<;>rw [hd] at hud<;>simp [jaf] at hud
      rw [hd] at hund
      subst hud
      split at hq
      ·next j hj=>
       obtain ⟨infoj,dj,Fj⟩:=hT.facts hj
       have hsz:infoj.size≠0:=by rw [Fj.size];simpa [nbeq] using hq
       have h9:(Go.sizeOf el).run P w = .ok infoj.size w:=by simp [Go.sizeOf,typeInfo,Fj.hinfo]
       refine jaM ho hop' (by rw [e1,eqGuard_at_pointer];rfl) ?_ (by rw [e1];rfl)
       rw [e1,e2,E_ptr_ss 9999 w hund h9 hsz]
       congr 1
       rw [Bool.eq_iff_iff];simp
      ·cases hq
     ·cases hb
    ·
     next n c p n' c'=>
     cases hb
     obtain ⟨rfl,rfl,e1⟩:=H1
     cases hu:i.u<;>rw [hu] at hq hud<;>simp at hq
     cases hd:dd<;>rw [hd] at hud<;>simp [jaf] at hud
     rw [hd] at hund
     cases p with
     | none=>
      obtain ⟨_,_,e2⟩:=H2
      exact jaM ho hop' (by rw [e1,eqGuard_at_slice];rfl) (by rw [e1,e2];exact jia 9999 w hund _ _ _ _ _) (by rw [e1];rfl)
     | some a=>
      obtain ⟨l,_,_,_,e2,_⟩:=H2
      exact jaM ho hop' (by rw [e1,eqGuard_at_slice];rfl) (by rw [e1,e2];exact jia 9999 w hund _ _ _ _ _) (by rw [e1];rfl)
    ·cases hb
     obtain ⟨l,_,_,_,e1,_⟩:=H1
     obtain ⟨_,_,e2⟩:=H2
     cases hu:i.u<;>rw [hu] at hq hud<;>simp at hq
     cases hd:dd<;>rw [hd] at hud<;>simp [jaf] at hud
     rw [hd] at hund
     exact jaM ho hop' (by rw [e1,eqGuard_at_slice];rfl) (by rw [e1,e2];exact jlh 9999 w hund _ _ _ _ _) (by rw [e1];rfl)
    ·
     next p=>
     cases hb
     have e1:evT t x' = .map none:=H1
     cases hu:i.u<;>rw [hu] at hq hud<;>simp at hq
     cases hd:dd<;>rw [hd] at hud<;>simp [jaf] at hud
     rw [hd] at hund
     cases p with
     | none=>
      have e2:evT t y' = .map none:=H2
      exact jaM ho hop' (by rw [e1,eqGuard_at_map];rfl) (by rw [e1,e2];exact jmu 9999 w hund _) (by rw [e1];rfl)
     | some a=>
      obtain ⟨l,_,e2⟩:=H2
      exact jaM ho hop' (by rw [e1,eqGuard_at_map];rfl) (by rw [e1,e2];exact jmu 9999 w hund _) (by rw [e1];rfl)
    ·cases hb
     obtain ⟨l,_,e1⟩:=H1
     have e2:evT t y' = .map none:=H2
     cases hu:i.u<;>rw [hu] at hq hud<;>simp at hq
     cases hd:dd<;>rw [hd] at hud<;>simp [jaf] at hud
     rw [hd] at hund
     exact jaM ho hop' (by rw [e1,eqGuard_at_map];rfl) (by rw [e1,e2];exact E_map_sn 9999 w hund _) (by rw [e1];rfl)
    ·
     cases hb
     have e1:evT t x' = .nilFunc:=H1
     have e2:evT t y' = .nilFunc:=H2
     cases hu:i.u<;>rw [hu] at hq hud<;>simp at hq
     cases hd:dd<;>rw [hd] at hud<;>simp [jaf] at hud
     rw [hd] at hund
     exact jaM ho hop' (by rw [e1,eqGuard_at_nilFunc];rfl) (by rw [e1,e2];exact E_fn_nn 9999 w hund) (by rw [e1];rfl)
    ·cases hb
     obtain ⟨xs,e1,_⟩:=H1
     have e2:evT t y' = .nilFunc:=H2
     cases hu:i.u<;>rw [hu] at hq hud<;>simp at hq
     cases hd:dd<;>rw [hd] at hud<;>simp [jaf] at hud
     rw [hd] at hund
     exact jaM ho hop' (by rw [e1,eqGuard_at_func];rfl) (by rw [e1,e2];exact jjm 9999 w hund _ _ _) (by rw [e1];rfl)
    ·cases hb
     obtain ⟨xs,e1,_⟩:=H1
     have e2:evT t y' = .nilFunc:=H2
     cases hu:i.u<;>rw [hu] at hq hud<;>simp at hq
     cases hd:dd<;>rw [hd] at hud<;>simp [jaf] at hud
     rw [hd] at hund
     exact jaM ho hop' (by rw [e1,eqGuard_at_func];rfl) (by rw [e1,e2];exact jjm 9999 w hund _ _ _) (by rw [e1];rfl)
    ·cases hb
     obtain ⟨xs,e1,_⟩:=H1
     have e2:evT t y' = .nilFunc:=H2
     cases hu:i.u<;>rw [hu] at hq hud<;>simp at hq
     cases hd:dd<;>rw [hd] at hud<;>simp [jaf] at hud
     rw [hd] at hund
     exact jaM ho hop' (by rw [e1,eqGuard_at_func];rfl) (by rw [e1,e2];exact jjm 9999 w hund _ _ _) (by rw [e1];rfl)
    ·cases hb
     have e1:evT t x' = .nilFunc:=H1
     obtain ⟨xs,e2,_⟩:=H2
     cases hu:i.u<;>rw [hu] at hq hud<;>simp at hq
     cases hd:dd<;>rw [hd] at hud<;>simp [jaf] at hud
     rw [hd] at hund
     exact jaM ho hop' (by rw [e1,eqGuard_at_nilFunc];rfl) (by rw [e1,e2];exact E_fn_ns 9999 w hund _ _ _) (by rw [e1];rfl)
    ·
     cases hb
     have e1:evT t x' = .nilIface:=H1
     have e2:evT t y' = .nilIface:=H2
     cases hu:i.u<;>rw [hu] at hq hud<;>simp only at hq<;>try (cases hq;done)
     cases hd:dd<;>rw [hd] at hud<;>simp [jaf] at hud
     rw [hd] at hund
     refine jaM ho hop' ?_ (by rw [e1,e2];exact E_if_nn 9999 w hund) (by rw [e1];rfl)
     rw [e1,e2]
     cases x' with
     | const c=>rw [eqGuard_nil_constL];rfl
     | _=>
      cases y' with
      | const c=>rw [eqGuard_nil_constR];rfl
      | _=>simp at hq
    ·cases hb
     have e1:evT t x' = .nilIface:=H1
     obtain ⟨z,e2,_⟩:=H2
     cases hu:i.u<;>rw [hu] at hq hud<;>simp only at hq<;>try (cases hq;done)
     cases hd:dd<;>rw [hd] at hud<;>simp [jaf] at hud
     rw [hd] at hund
     exact jaM ho hop' (by rw [e1,e2,eqGuard_nil_iface];rfl) (by rw [e1,e2];exact jmw 9999 w hund _ _) (by rw [e1];rfl)
    ·cases hb
     obtain ⟨z,e1,_⟩:=H1
     have e2:evT t y' = .nilIface:=H2
     cases hu:i.u<;>rw [hu] at hq hud<;>simp only at hq<;>try (cases hq;done)
     cases hd:dd<;>rw [hd] at hud<;>simp [jaf] at hud
     rw [hd] at hund
     exact jaM ho hop' (by rw [e1,eqGuard_at_iface];rfl) (by rw [e1,e2];exact jmv 9999 w hund _ _) (by rw [e1];rfl)
    ·cases hb
     obtain ⟨u0,z,e1⟩:=H1
     have e2:evT t y' = .nilIface:=H2
     cases hu:i.u<;>rw [hu] at hq hud<;>simp only at hq<;>try (cases hq;done)
     cases hd:dd<;>rw [hd] at hud<;>simp [jaf] at hud
     rw [hd] at hund
     exact jaM ho hop' (by rw [e1,eqGuard_at_iface];rfl) (by rw [e1,e2];exact jmv 9999 w hund _ _) (by rw [e1];rfl)
    ·cases hb
     have e1:evT t x' = .nilIface:=H1
     obtain ⟨u0,z,e2⟩:=H2
     cases hu:i.u<;>rw [hu] at hq hud<;>simp only at hq<;>try (cases hq;done)
     cases hd:dd<;>rw [hd] at hud<;>simp [jaf] at hud
     rw [hd] at hund
     exact jaM ho hop' (by rw [e1,e2,eqGuard_nil_iface];rfl) (by rw [e1,e2];exact jmw 9999 w hund _ _) (by rw [e1];rfl)
    ·
     next sh xs ys=>
     obtain ⟨as,e1,ha⟩:=H1
     obtain ⟨bs,e2,hb2⟩:=H2
     have hq':i.eqs=true/\jaS C 20 ty=some sh/\jbF i.u=true:=by
      cases hu:i.u<;>rw [hu] at hq<;>simp at hq<;>exact ⟨hq.1,hq.2,rfl⟩
     obtain ⟨h3,h4,h5⟩:=hq'
     obtain ⟨hl,hE⟩:=jbP (P:=P) (m:=m) hT 20 ty i sh hi h4
     have hlx:xs.length=sh.length/\ys.length=sh.length:=jbp hb
     have hpart : ∀ (l:List V) (zs:Array Value),jah m l zs.toList->l.length=i.size->(Go.part ty zs 0).run P w = .ok (.agg zs) w:=by
      intro l zs hz hlen
      have hsz:jaz C ty i.size=true:=by unfold jaz;rw [hi];exact beqT _
      have:zs.size=i.size:=by have:=hz.length;simp at this;omega
      have h0:zs.extract 0 i.size=zs:=by rw [<- this];simp
      simp [Go.part,ja6 hT hi,h5,jam hT hsz,h0]
     obtain ⟨x,y,h6,h7,h8⟩:=hE xs ys as bs 0 r ha hb2 om om (by
      rw [zi,zi,zf om,zf om];exact hb) 10000 om w
     rw [hpart xs as ha om] at h6
     rw [hpart ys bs hb2 om] at h7
     cases h6;cases h7
     exact jaM ho hop' (by rw [e1,e2];exact run_eqGuard_agg w op ty x' y' as bs (F.eqs h3).2) (by rw [e1,e2];exact h8) (by rw [e1];rfl)
    ·cases hb
   ·cases hq
  ·cases hr
 ·cases hr
end
end Am
