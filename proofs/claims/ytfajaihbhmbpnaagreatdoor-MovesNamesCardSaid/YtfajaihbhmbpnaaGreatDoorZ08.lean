/- Our own library, part 8. -/
import Derived.IntWalk
import Derived.Test.YtfajaihbhmbpnaaGreatDoorZ07
set_option maxHeartbeats 8000000
set_option maxRecDepth 800
set_option linter.all false
namespace Am
open Go
section
variable {P:Program} {C:Cx} {m:Mp} {h:H} {w:World} {e:Env} {t:Array Value} {o:Oper} {v:V}
def jfH (P:Program) (C:Cx) (m:Mp) (t:Array Value) (o:Oper) (ob:Obj) (mk:Nat->V) (w:World):Prop :=
 ∃ co x w' ext,(execOp (evT t) o).run P w = .ok (.value x) w'/\w'.heap=w.heap.push co/\WSame w w' /\
  ∀ id,m id=none->ORel P C (m.add id ⟨w.heap.size,0,ext⟩) ⟨w.heap.size,0,ext⟩ ob co/\VRel (m.add id ⟨w.heap.size,0,ext⟩) (mk id) x
theorem jdl {l:List V} {xs:Array Value} (hl:jae m l xs.toList) (id:Nat) (hid:m id=none) (el:TypeId) (β : Nat) (fz:Nat × Nat) (hf:fz.1=fz.2\/l.length<=fz.1) :
  ORel P C (m.add id ⟨β,0,l.length⟩) ⟨β,0,l.length⟩ (.cells l false) (.cells xs el fz):=by
 refine ⟨xs,el,fz.1,fz.2,rfl,zn _,?_,?_,?_⟩
 ·have:=hl.length;simp at this;simp;omega
 ·intro k v hv
  obtain ⟨x,hx,hvx⟩:=hl.get hv
  exact ⟨x,by simpa using hx,hvx.mono (Mp.add_mono hid)⟩
 ·intro _;simpa using hf
theorem jf6 (hT:TOk P C) {sz:Nat} {z:List V} {ty:TypeId} (ho:o.op = .alloc ty) (hz:jbg C ty z=true):jfH P C m t o (.cells z false) (fun b=>.ptr (some (b,0))) w:=by
 obtain ⟨zv,h1,h2⟩:=jbA hT hz m
 refine ⟨.cells zv.cells ty (0,0),.pointer (some ⟨w.heap.size,0,none⟩),{ w with heap:=w.heap.push (.cells zv.cells ty (0,0)) },z.length,?_,rfl,⟨rfl,rfl,rfl⟩,?_⟩
 ·simp [execOp,ho,Instr.alloc,h1,newVar,Go.newRow]
 ·intro id hid
  exact ⟨jdl h2 id hid ty _ (0,0) (.inl rfl),_,zJ _ _,by simp⟩
theorem make_box (hG:GOk C m) (he:ERel m e t) {sz:Nat} {x:Opd} {x':Operand} {ty:TypeId} (ho:o.op = .box ty x') (hx:opdM C x x'=true) {ob:Obj} {mk:Nat->V}
  (hr:I.make e (.box sz x)=some (ob,mk)):jfH P C m t o ob mk w:=by
 simp only [I.make] at hr
 split at hr
 ·next u hu=>
  cases hr
  have H:=(jaa (t:=t) hG he hx hu).cells
  refine ⟨.cells (evT t x').cells ty (0,0),.pointer (some ⟨w.heap.size,0,none⟩),{ w with heap:=w.heap.push (.cells (evT t x').cells ty (0,0)) },u.cells.length,?_,rfl,⟨rfl,rfl,rfl⟩,?_⟩
  ·simp [execOp,ho,Instr.box,newVar,Go.newRow]
  ·intro id hid
   exact ⟨jdl H id hid ty _ (0,0) (.inl rfl),_,zJ _ _,by simp⟩
 ·cases hr
theorem flat_get {α : Type} (l:List α) : ∀ (c k:Nat),(List.replicate c l).flatten[k]?=if k<c*l.length then l[k%l.length]? else none
 | 0,k=>by simp
 | c+1,k=>by
  rw [List.replicate_succ,zC,zd]
  by_cases h:k<l.length
  ·rw [zq h,zq (by rw [Nat.add_mul];omega),Nat.mod_eq_of_lt h]
  ·rw [zp h,flat_get l c (k-l.length)]
   have:(k-l.length)%l.length=k%l.length:=by rw [<- Nat.mod_eq_sub_mod om]
   rw [this]
   by_cases h2:k-l.length<c*l.length
   ·rw [zq h2,zq (by rw [Nat.add_mul];omega)]
   ·rw [zp h2,zp (by rw [Nat.add_mul];omega)]
theorem jdR (z:Array Value) (c:Nat):((Array.range (c*z.size)).map fun i=>z[i%z.size]!).toList=(List.replicate c z.toList).flatten:=by
 apply List.ext_getElem?
 intro k
 rw [flat_get]
 simp only [Array.toList_map,Array.toList_range,List.getElem?_map,Array.length_toList]
 by_cases h:k<c*z.size
 ·rw [zq h,List.getElem?_range h]
  have hz:k%z.size<z.size:=Nat.mod_lt _ (by rcases Nat.eq_zero_or_pos z.size with h0 | h0;(rw [h0] at h;simp at h);exact h0)
  simp [hz]
 ·rw [zp h]
  simp;omega
theorem jae.flat {l:List V} {xs:List Value} (h:jae m l xs) : ∀ c,jae m (List.replicate c l).flatten (List.replicate c xs).flatten
 | 0=>rfl
 | c+1=>by
  rw [List.replicate_succ,zC,List.replicate_succ,zC]
  exact h.append (jae.flat h c)
theorem jeo {n:Int} (h0:0<=n) (h1:n<=2 ^ 46):IntKind.i64.wrap n=n:=by
 exact IntWalk.i64_in n om
theorem jeh (hT:TOk P C) (hG:GOk C m) (he:ERel m e t) {sz bytes:Nat} {z:List V} {l c:Opd} {l' c':Operand} {ty:TypeId} (ho:o.op = .makeSlice ty l' c') (hl:opdM C l l'=true) (hc:opdM C c c'=true)
  (hu:isU C ty (fun | .slice e=>jaq C e sz&&jcJ C e bytes&&jbg C e z&&Nat.beq z.length sz | _=>false)=true) {ob:Obj} {mk:Nat->V}
  (hr:I.make e (.mkSlice sz bytes z l c)=some (ob,mk)):jfH P C m t o ob mk w:=by
 simp only [I.make] at hr
 split at hr
 ·next k1 a k2 b h1 h2=>
  simp only [zw,zm,zz] at hr
  split at hr
  ·next hb=>
   cases hr
   obtain ⟨⟨hab,hcb⟩,hc46⟩:=hb
   have e1:evT t l' = .int k1 (Int.ofNat a):=jaa hG he hl h1
   have e2:evT t c' = .int k2 (Int.ofNat b):=jaa hG he hc h2
   obtain ⟨u,dd,h3,h4,h5⟩:=jao hT hu
   cases u<;>simp at h3
   next el=>
   cases dd<;>simp [jac] at h5
   next el'=>
   subst h5
   obtain ⟨⟨⟨h6,h7⟩,h8⟩,h9⟩:=h3
   obtain ⟨zv,h10,h11⟩:=jbA hT h8 m
   obtain ⟨info,h12,h13⟩:=jcI hT h7
   have hzs:zv.cells.size=sz:=by have:=h11.length;simp at this;omega
   have wa:IntKind.i64.wrap (Int.ofNat a)=(a:Int):=jeo Zb (by simp only [Int.ofNat_eq_natCast];omega)
   have wb:IntKind.i64.wrap (Int.ofNat b)=(b:Int):=jeo Zb (by simp only [Int.ofNat_eq_natCast];omega)
   have hrows:=jdR zv.cells b
   rw [hzs] at hrows
   let cs:Array Value:=if b*sz=0 then #[] else (Array.range (b*sz)).map fun i=>zv.cells[i%zv.cells.size]!
   have hcs:jae m (List.replicate b z).flatten cs.toList:=by
    have:=h11.flat b
    show jae m _ (if b*sz=0 then (#[]:Array Value) else _).toList
    split
    ·next h0=>
     have hlen:(List.replicate b z).flatten.length=0:=by simp;rw [<- h9] at h0;simpa using h0
     rw [zl.1 hlen];rfl
    ·rw [hzs,hrows];exact this
   refine ⟨.cells cs el (0,0),.slice (some ⟨w.heap.size,0,none⟩) a b,{ w with heap:=w.heap.push (.cells cs el (0,0)) },(List.replicate b z).flatten.length,?_,rfl,⟨rfl,rfl,rfl⟩,?_⟩
   ·have hbb:(info.bytes:Int)*(b:Int)=((b*bytes:Nat):Int):=by rw [h13,Nat.mul_comm];simp
    have hbig : ¬ ((info.bytes:Int)*(b:Int)>2 ^ 48):=by rw [hbb];omega
    have hneg : ¬ ((b:Int)<0):=by omega
    have hla : ¬ ((a:Int)<0):=by omega
    have hab' : ¬ ((a:Int)>(b:Int)):=by omega
    simp only [execOp,ho,zF,Instr.makeSlice,zI h4,zG,e1,e2,Go.asInt,asIntOf,zH,typeInfo,run_program,h12,wa,wb]
    simp only [hneg,hbig,hla,hab',decide_false,Bool.or_false,zA,if_false,zF,run_askRoom,zG,jah hT h6,Int.toNat_natCast]
    by_cases h0:b*sz=0
    ·have hr0:Array.range 0 = #[]:=rfl
     simp [h0,cs,Go.newRow,hr0]
    ·simp [h0,cs,Go.newRow,h10,hzs]
   ·intro id hid
    refine ⟨jdl hcs id hid el _ (0,0) (.inl rfl),_,_,b,zJ _ _,rfl,hab,fun _=>rfl,fun k hk=>by cases hk;rfl,fun q hq=>by cases hq⟩
  ·cases hr
 ·cases hr
theorem jbN (hG:GOk C m) (he:ERel m e t) {sz:Nat} : ∀ {ps:List (Nat × Opd)} {qs:List (Nat × Operand)} {vs:List (Nat × Nat × V)},jc7 C ps qs=true->ja4 e (ps.map fun p=>(p.1*sz,sz,p.2))=some vs ->
  jcy m vs (qs.map fun p=>(p.1,evT t p.2)) (fun i=>some (i*sz,sz))
 | [],[],vs,_,h=>by simp [ja4] at h;subst h;trivial
 | [],_ :: _,_,h,_=>by simp [jc7] at h
 | _ :: _,[],_,h,_=>by simp [jc7] at h
 | (i,x) :: r,(j,y) :: s,vs,h,hv=>by
  simp only [jc7,zm,nbeq,zt] at h
  simp only [List.map_cons,ja4] at hv
  split at hv
  ·next a l h1 h2=>
   cases hv
   obtain ⟨⟨rfl,h3⟩,h4⟩:=h
   exact ⟨rfl,jaa hG he h3 h1,jbN hG he h4 h2⟩
  ·cases hv
theorem jeJ (hT:TOk P C) (hG:GOk C m) (he:ERel m e t) {sz ln n:Nat} {z:List V} {ps:List (Nat × Opd)} {qs:Array (Nat × Operand)} {ty:TypeId} (ho:o.op = .buildSlice ty n qs) (hn:ln=n)
  (hu:isU C ty (fun | .slice e=>jg6 C e n sz z | _=>false)=true) (hp:jc7 C ps qs.toList=true) (hbig:n*sz<=2 ^ 24) {ob:Obj} {mk:Nat->V}
  (hr:I.make e (.bslice sz ln z ps)=some (ob,mk)):jfH P C m t o ob mk w:=by
 subst hn
 simp only [I.make] at hr
 split at hr
 ·next vs h1=>
  split at hr
  ·next l h2=>
   cases hr
   obtain ⟨u,dd,h3,h4,h5⟩:=jao hT hu
   cases u<;>simp at h3
   next el=>
   cases dd<;>simp [jac] at h5
   next el'=>
   subst h5
   unfold jg6 at h3
   simp only [zm,Bool.or_eq_true] at h3
   obtain ⟨h6,h7⟩:=h3
   have hrow : ∃ zs:Array Value,jae m z zs.toList/\(do
     let zero<-if ln*sz=0 then pure #[] else do pure (<- zeroValue el).cells
     pure ((Array.range (ln*sz)).map (zero[· % zero.size]!)):Sem (Array Value)).run P w = .ok zs w:=by
    rcases h7 with h7 | h7
    ·obtain ⟨h8,h9⟩:=h7
     have h8:=jaT.1 h8
     have:z=[]:=by simpa using h9
     subst this
     exact ⟨#[],rfl,by simp [h8]⟩
    ·split at h7
     ·next i hi=>
      split at h7
      ·next y hy=>
       simp only [zm] at h7
       obtain ⟨h8,h9⟩:=h7
       have h8:=jaT.1 h8
       obtain ⟨info,d,F⟩:=hT.facts hi
       obtain ⟨zv,g1,g2,g3⟩:=F.zero y hy
       have hz : ∀ w,(zeroValue el).run P w = .ok zv w:=fun w=>by simp [zeroValue,typeInfo,F.hinfo,g1]
       have hcells:=(jaN m g2).cells
       have hzs:zv.cells.size=sz:=by have:=hcells.length;simp at this;omega
       rw [<- V.sames_eq h9]
       have hrows:=jdR zv.cells ln
       rw [hzs] at hrows
       by_cases h0:ln*sz=0
       ·refine ⟨#[],?_,by simp [h0]⟩
        have hlen:(List.replicate ln y.cells).flatten.length=0:=by simp;rw [<- h8] at h0;simpa using h0
        rw [zl.1 hlen];rfl
       ·refine ⟨(Array.range (ln*sz)).map fun i=>zv.cells[i%zv.cells.size]!,?_,by simp [h0,hz]⟩
        rw [hzs,hrows];exact hcells.flat ln
      ·cases h7
     ·cases h7
   obtain ⟨zs,hz1,hz2⟩:=hrow
   have hrel:=jbN (t:=t) hG he hp h1
   obtain ⟨ys,h8,h9⟩:=jb5 hrel hz1 h2
   have hqs:(qs.map fun (i,x)=>(i,evT t x)).toList=qs.toList.map fun p=>(p.1,evT t p.2):=by simp
   refine ⟨.cells ys el (0,0),.slice (some ⟨w.heap.size,0,none⟩) ln ln,{ w with heap:=w.heap.push (.cells ys el (0,0)) },l.length,?_,rfl,⟨rfl,rfl,rfl⟩,?_⟩
   ·simp only [execOp,ho,zF,Instr.buildSlice,zI h4,zG,jah hT h6,Sem.run_ite]
    rw [zp om]
    by_cases h0:ln*sz=0
    ·simp [h0] at hz2
     subst hz2
     simp [h0,h8,Go.newRow]
    ·simp only [h0,if_false,zF] at hz2 ⊢
     cases hzv:(zeroValue el).run P w with
     | halt a b=>rw [hzv] at hz2;simp at hz2
     | ok zv w1=>
      rw [hzv] at hz2
      simp only [zG,zH,Result.ok.injEq] at hz2
      obtain ⟨rfl,rfl⟩:=hz2
      simp only [zG,zH,hqs,h8,zF,Go.newRow,run_newObj]
   ·intro id hid
    refine ⟨jdl h9 id hid el _ (0,0) (.inl rfl),_,_,ln,zJ _ _,rfl,zn _,fun _=>rfl,fun k hk=>by cases hk;rfl,fun q hq=>by cases hq⟩
  ·cases hr
 ·cases hr
theorem jeK (w:World) (c:Array Value) (el:TypeId) (n:Nat) :
  ({ w with heap:=w.heap.push (.cells c el (0,0)) } : World).freeze ⟨w.heap.size,n,none⟩ 1 = { w with heap:=w.heap.push (.cells c el (n,n+1)) } := by
 unfold World.freeze
 rw [zp om]
 congr 1
 apply Array.ext'
 simp only [Array.toList_modify,Array.toList_push]
 apply List.ext_getElem?
 intro k
 rw [List.getElem?_modify,zd,zd]
 have hl:w.heap.toList.length=w.heap.size:=by simp
 by_cases h:k<w.heap.toList.length
 ·have hne : ¬ w.heap.size=k:=by omega
  rw [zq h,zq h];simp [hne]
 ·rw [zp h,zp h]
  by_cases h2:k=w.heap.size
  ·subst h2;simp
  ·have:k-w.heap.toList.length≠0:=by omega
   cases hk:k-w.heap.toList.length with
   | zero=>exact zx hk this
   | succ j=>simp
theorem jeg (hT:TOk P C) (hG:GOk C m) (he:ERel m e t) {x:Opd} {x':Operand} {s d:TypeId} (ho:o.op = .convert s d x') (hx:opdM C x x'=true) (hd:jcG C d=true)
  (hs:isU C s (fun | .str=>true | _=>false)=true) {ob:Obj} {mk:Nat->V} (hr:I.make e (.toBytes x)=some (ob,mk)):jfH P C m t o ob mk w:=by
 obtain ⟨el,hd1,hd2⟩:=jcf hT hd
 obtain ⟨u,dd,h2,h3,h4⟩:=jao hT hs
 cases u<;>simp at h2
 cases dd<;>simp [jac] at h4
 simp only [I.make] at hr
 split at hr
 ·next bs h1=>
  simp only [zw,zz] at hr
  split at hr
  ·next hb=>
   cases hr
   have e1:evT t x' = .string ⟨⟨bs⟩⟩:=jaa hG he hx h1
   let q:Question := .appendCap bs.length 0 el
   let cap:=q.cut (w.tape w.drawn q)
   have hcap:bs.length<=cap:=by show bs.length<=bs.length+_;omega
   let cs:Array Value:=(⟨bs⟩:Array UInt8).map (fun b=>Value.int .u8 b.toNat)++Array.replicate (cap-bs.length) (.int .u8 0)
   have hsz:cs.size=cap:=by simp [cs];omega
   let w1:World := { w with drawn:=w.drawn+1,heap:=w.heap.push (.cells cs el (cap,cap+1)) }
   refine ⟨.cells cs el (cap,cap+1),.slice (some ⟨w.heap.size,0,none⟩) bs.length cap,w1,cap,?_,rfl,⟨rfl,rfl,rfl⟩,?_⟩
   ·have hss:(ByteArray.mk ⟨bs⟩).size=bs.length:=by simp [ByteArray.size]
    have hch : ∀ w:World,(choose (.appendCap bs.length 0 el)).run P w = .ok ((Question.appendCap bs.length 0 el).cut (w.tape w.drawn (.appendCap bs.length 0 el))) { w with drawn:=w.drawn+1 } := by
     intro w;simp [Question.forced]
    simp only [execOp,ho,zF,convert,zI h3,zI hd1,zG,e1,zI hd2,Conv.stringToBytes,hss,hch,Go.newRow,run_newObj,zH,markStringish,run_shape]
    have hshape:World.shape? { w with drawn:=w.drawn+1,heap:=w.heap.push (.cells cs el (0,0)) } w.heap.size=some (el,cs.size):=by
     simp [World.shape?]
    have hcs:((ByteArray.mk ⟨bs⟩).data.map fun b=>Value.int .u8 b.toNat)++Array.replicate (cap-bs.length) (.int .u8 0)=cs:=rfl
    have hfr:=jeK { w with drawn:=w.drawn+1 } cs el cap
    have hcap':(Question.appendCap bs.length 0 el).cut (w.tape w.drawn (.appendCap bs.length 0 el))=cap:=rfl
    rw [hcap',hcs,hshape,hsz]
    simp only [run_freeze,zG]
    rw [hfr]
   ·intro id hid
    refine ⟨⟨cs,el,cap,cap+1,rfl,by simpa using hcap,by simp [hsz],?_,?_⟩,_,_,cap,zJ _ _,rfl,hcap,fun _=>rfl,(fun k hk=>by cases hk),fun q hq=>by cases hq;simp⟩
    ·intro k v hv
     rw [List.getElem?_map] at hv
     cases hk:bs[k]? with
     | none=>rw [hk] at hv;cases hv
     | some b=>
      rw [hk] at hv;cases hv
      have hkl:k<bs.length:=by
       rcases zr k bs.length with hlt | hge
       ·exact hlt
       ·rw [zc hge] at hk;cases hk
      refine ⟨.int .u8 b.toNat,?_,rfl⟩
      simp only [Nat.zero_add,cs]
      rw [Array.getElem?_append,zq (by simpa using hkl)]
      simp [hk]
    ·intro _
     exact .inr Zb
  ·cases hr
 ·cases hr
end
end Am
namespace Am
open Go
section
variable {P:Program} {C:Cx} {N:Nat} {m:Mp} {h h':H} {w:World} {e:Env} {t:Array Value} {o:Oper} {v:V} {call:Am.Call}
def Eff (P:Program) (C:Cx) (N:Nat) (m:Mp) (h:H) (w:World) (t:Array Value) (o:Oper) (v:V) (h':H):Prop :=
 ∃ m' w',Step P C N m h w m' h' w'/\((∃ x,(execOp (evT t) o).run P w = .ok (.value x) w'/\VRel m' v x)\/((execOp (evT t) o).run P w = .ok .skip w'/\v = .undef))
theorem eff_store (hT:TOk P C) (hG:GOk C m) (hr:HRel P C m h w) (he:ERel m e t) {n:Nat} {a x:Opd} {a' x':Operand} {ty:TypeId} (ho:o.op = .store ty a' x') (hs:jaq C ty n=true)
  (ha:opdM C a a'=true) (hx:opdM C x x'=true) (hv:I.eff call e h (.store n a x)=some (v,h')):Eff P C N m h w t o v h':=by
 simp only [I.eff] at hv
 split at hv
 ·next b off u h1 h2=>
  simp only [zw,beq_iff_eq] at hv
  split at hv
  ·next hn=>
   split at hv
   ·next h1' hst=>
    cases hv
    obtain ⟨l,hl,e1⟩:=jaa (t:=t) hG he ha h1
    have hu:=jaa (t:=t) hG he hx h2
    obtain ⟨w',h3,h4⟩:=jcz (N:=N) hr hst hl hu.cells
    refine ⟨m,w',h4,.inr ⟨?_,rfl⟩⟩
    have hlen:(evT t x').cells.size=n:=by have:=hu.cells.length;simp at this;omega
    simp only [execOp,ho,zF,Instr.storeAt,e1,Instr.sureAddr,zH,zG,storeVar,jah hT hs]
    rw [zp (by simp [hlen])]
    simp [h3]
   ·cases hv
  ·cases hv
 ·cases hv
theorem jab.set : ∀ {es:List (V × V × Nat)} {ces:List MapEntry} {k v:V} {b:Nat} {ce:MapEntry} (i:Nat),jab m es ces->VRel m k ce.key->VRel m v ce.val->ce.born=b->jab m (es.set i (k,v,b)) (ces.set i ce)
 | [],_,_,_,_,_,_,h,_,_,_=>by rw [show _=[] from h];simp [jab]
 | (_,_,_) :: es,_,k,v,b,ce,0,⟨c0,s,e,h1,h2,h3,h4⟩,g1,g2,g3=>by
  subst e;exact ⟨ce,s,rfl,g1,g2,g3,h4⟩
 | (_,_,_) :: es,_,k,v,b,ce,i+1,⟨c0,s,e,h1,h2,h3,h4⟩,g1,g2,g3=>by
  subst e;exact ⟨c0,_,rfl,h1,h2,h3,jab.set i h4 g1 g2 g3⟩
theorem jab.snoc : ∀ {es:List (V × V × Nat)} {ces:List MapEntry} {k v:V} {b:Nat} {ce:MapEntry},jab m es ces->VRel m k ce.key->VRel m v ce.val->ce.born=b->jab m (es++[(k,v,b)]) (ces++[ce])
 | [],_,_,_,_,_,h,g1,g2,g3=>by rw [show _=[] from h];exact ⟨_,_,rfl,g1,g2,g3,rfl⟩
 | (_,_,_) :: es,_,k,v,b,ce,⟨c0,s,e,h1,h2,h3,h4⟩,g1,g2,g3=>by
  subst e;exact ⟨c0,_,rfl,h1,h2,h3,jab.snoc h4 g1 g2 g3⟩
theorem jab.get : ∀ {es:List (V × V × Nat)} {ces:List MapEntry} {k v:V} {b:Nat} {i:Nat},jab m es ces->es[i]?=some (k,v,b) -> ∃ ce,ces[i]?=some ce/\VRel m k ce.key/\VRel m v ce.val/\ce.born=b
 | [],_,_,_,_,_,_,hi=>by simp at hi
 | (_,_,_) :: es,_,k,v,b,0,⟨c0,s,e,h1,h2,h3,h4⟩,hi=>by
  subst e;simp at hi;obtain ⟨rfl,rfl,rfl⟩:=hi;exact ⟨c0,rfl,h1,h2,h3⟩
 | (_,_,_) :: es,_,k,v,b,i+1,⟨c0,s,e,h1,h2,h3,h4⟩,hi=>by
  subst e;simpa using jab.get h4 (by simpa using hi)
theorem jeQ (hG:GOk C m) (he:ERel m e t) {a b:Opd} {c:Go.Call} (hx:ja3 C [a,b] c.args.toList=true) {u z:V} (hu:a.ev e=some u) (hz:b.ev e=some z) :
  ∃ x y,(c.args.map (evT t))[0]?=some x/\(c.args.map (evT t))[1]?=some y/\VRel m u x/\VRel m z y:=by
 obtain ⟨a',b',hargs,ha,hb⟩ : ∃ a' b',c.args.toList=[a',b']/\opdM C a a'=true/\opdM C b b'=true:=by
  match hq:c.args.toList,hx with
  | [a',b'],hx=>simp [ja3] at hx;exact ⟨a',b',rfl,hx.1,hx.2⟩
  | [],hx=>simp [ja3] at hx
  | [_],hx=>simp [ja3] at hx
  | _ :: _ :: _ :: _,hx=>simp [ja3] at hx
 have:(c.args.map (evT t)).toList=[evT t a',evT t b']:=by simp [hargs]
 refine ⟨evT t a',evT t b',?_,?_,jaa hG he ha hu,jaa hG he hb hz⟩
 ·rw [<- Array.getElem?_toList,this];rfl
 ·rw [<- Array.getElem?_toList,this];rfl
end
end Am
namespace Am
open Go
section
variable {P:Program} {C:Cx} {N:Nat} {m:Mp} {h h':H} {w:World} {e:Env} {t:Array Value} {o:Oper} {v:V} {call:Am.Call}
theorem jek {x:V} {y:Value} {n:Nat} (hx:VRel m x y) (hn:lenOf x=some n):(Builtin.lenOf y).run P w = .ok n w:=by
 cases x with
 | slice a k c=>
  simp [lenOf] at hn;subst hn
  cases a with
  | none=>obtain ⟨rfl,_,rfl⟩:=hx;rfl
  | some a=>obtain ⟨_,_,_,_,rfl,_⟩:=hx;rfl
 | str s=>
  simp [lenOf] at hn;subst hn
  rw [show y=_ from hx]
  simp [Builtin.lenOf,ByteArray.size]
 | _=>simp [lenOf] at hn
theorem jeO (s:List UInt8) (n:Nat):jae m ((s.take n).map jfE) (((ByteArray.mk ⟨s⟩).extract 0 n).data.map fun b=>Value.int .u8 b.toNat).toList:=by
 have:((ByteArray.mk ⟨s⟩).extract 0 n).data.toList=s.take n:=by simp [ByteArray.data_extract]
 rw [Array.toList_map,this]
 generalize s.take n=l
 induction l with
 | nil=>rfl
 | cons b l ih=>exact ⟨_,_,rfl,rfl,ih⟩
theorem jaW (hr:HRel P C m h w) {sz n k:Nat} {x:V} {y:Value} {l:List V} (hx:VRel m x y) (hl:ja2 h sz n x=some l) (hk:lenOf x=some k) (hn:n<=k) :
  ∃ xs:Array Value,(Builtin.firstCells sz n y).run P w = .ok xs w/\jae m l xs.toList:=by
 unfold ja2 at hl
 split at hl
 ·cases hl
  obtain ⟨_,_,rfl⟩:=hx
  exact ⟨#[],rfl,rfl⟩
 ·next b off len cp=>
  obtain ⟨loc,o',c',h1,rfl,h2,h3,_⟩:=hx
  simp [lenOf] at hk;subst hk
  simp only [zw,beq_iff_eq] at hl
  split at hl
  ·next h0=>
   cases hl
   refine ⟨#[],?_,rfl⟩
   simp [Builtin.firstCells,h0,loadCells,loadCellsFrom]
  ·next h0=>
   have hc:c'≠0:=by
    intro hc;subst hc
    have:n=0:=by omega
    subst this;simp at h0
   have ho':=h3 hc
   obtain ⟨xs,h5,h6⟩:=jd8 hr hl h1
   exact ⟨xs,by simp only [Builtin.firstCells,ho',h5],h6⟩
 ·next s=>
  simp only [zw,beq_iff_eq] at hl
  split at hl
  ·next h1=>
   cases hl
   rw [show y=_ from hx]
   exact ⟨_,rfl,jeO s n⟩
  ·cases hl
 ·cases hl
theorem jcF (hT:TOk P C) {ts:Array TypeId} {f:TypeId->Bool} (h:jce C ts f=true) : ∃ ty el,ts[0]?=some ty/\f el=true/\P.underlying ty=some (.slice el):=by
 unfold jce at h
 split at h
 ·next ty hty=>
  obtain ⟨u,dd,h1,h2,h3⟩:=jao hT h
  cases u<;>simp at h1
  cases dd<;>simp [jac] at h3
  subst h3
  exact ⟨ty,_,hty,h1,h2⟩
 ·cases h
theorem jci (hT:TOk P C) {ts:Array TypeId} (h:jca C ts=true):ts[1]?=none \/ ∃ ty d,ts[1]?=some ty/\P.underlying ty=some d/\(match d with | .int _=>true | _=>false)=false:=by
 unfold jca at h
 split at h
 ·next ty hty=>
  obtain ⟨u,dd,h1,h2,h3⟩:=jao hT h
  refine .inr ⟨ty,dd,hty,h2,?_⟩
  cases u<;>cases dd<;>simp_all [jac]
 ·next hty=>exact .inl hty
theorem jfj (hT:TOk P C) {el:TypeId} {sz:Nat} (h:jdL C el sz=true) : ∃ zv,(∀ w,(zeroValue el).run P w = .ok zv w)/\zv.cells.size=sz:=by
 unfold jdL at h
 split at h
 ·next i hi=>
  split at h
  ·next y hy=>
   obtain ⟨info,d,F⟩:=hT.facts hi
   obtain ⟨zv,g1,g2,g3⟩:=F.zero y hy
   refine ⟨zv,fun w=>by simp [zeroValue,typeInfo,F.hinfo,g1],?_⟩
   have:=(jaN (fun _=>none) g2).cells.length
   simp at this
   have:=jaT.1 h
   omega
  ·cases h
 ·cases h
theorem ja8 {c:Go.Call} {ty el:TypeId} {sz:Nat} {base:Option Addr} {sl sc n:Nat} {y:Value} {xs:Array Value} (hT:TOk P C) (h0:c.argTypes[0]?=some ty) (hu:P.underlying ty=some (.slice el))
  (hsz:jaq C el sz=true) (hni:jca C c.argTypes=true) (a0:(c.args.map (evT t))[0]?=some (.slice base sl sc)) (a1:(c.args.map (evT t))[1]?=some y) (hlen:(Builtin.lenOf y).run P w = .ok n w)
  (hfc:(Builtin.firstCells sz n y).run P w = .ok xs w) (hfit:sl+n<=sc) {w':World} (hst:(match base with
   | some a=>storeCells (a.add (sl*sz)) xs.toList
   | none=>pure ():Sem Unit).run P w = .ok () w'):(Builtin.append_ c.argTypes o.type (c.args.map (evT t))).run P w = .ok (.slice base (sl+n) sc) w':=by
 unfold Builtin.append_
 simp only [h0,a0,a1,zF,zI hu,zG,jah hT hsz]
 rcases jci hT hni with g1 | ⟨ty2,d,g1,g2,g3⟩
 ·simp only [g1,zF,zH,zG,zA,if_false,hlen,Bool.not_false,if_true,hfit,hfc]
  cases base with
  | none=>simp only [zH] at hst;cases hst;rfl
  | some a=>simp only at hst;simp only [zF,hst,zG,zH]
 ·cases d
  case int k=>exact Bool.noConfusion g3
  all_goals
   simp only [g1,zF,zI g2,zH,zG,zA,if_false,hlen,Bool.not_false,if_true,hfit,hfc]
   cases base with
   | none=>simp only [zH] at hst;cases hst;rfl
   | some a=>simp only at hst;simp only [zF,hst,zG,zH]
theorem jbv {c:Go.Call} {ty el:TypeId} {sz bytes:Nat} {base:Option Addr} {sl sc n:Nat} {y:Value} {xs ol:Array Value} (hT:TOk P C) (h0:c.argTypes[0]?=some ty) (hu:P.underlying ty=some (.slice el))
  (hsz:jaq C el sz=true) (hby:jcJ C el bytes=true) (hb0:bytes≠0) (hzs:jdL C el sz=true) (hni:jca C c.argTypes=true)
  (a0:(c.args.map (evT t))[0]?=some (.slice base sl sc)) (a1:(c.args.map (evT t))[1]?=some y) (hlen : ∀ w,(Builtin.lenOf y).run P w = .ok n w)
  (hfc1:(Builtin.firstCells sz n y).run P { w with drawn:=w.drawn+1 } = .ok xs { w with drawn:=w.drawn+1 })
  (hfo1:(Builtin.firstCells sz sl (.slice base sl sc)).run P { w with drawn:=w.drawn+1 } = .ok ol { w with drawn:=w.drawn+1 }) (hfit : ¬ sl+n<=sc)
  (hbig:(sl+n)*bytes<=2 ^ 46) (hbig2:sl+n<=2 ^ 46) (hol:ol.size=sl*sz) (hxs:xs.size=n*sz) :
  ∃ cap w' rest,(Builtin.append_ c.argTypes o.type (c.args.map (evT t))).run P w = .ok (.slice (some ⟨w.heap.size,0,none⟩) (sl+n) cap) w'/\sl+n<=cap/\w'.heap=w.heap.push (.cells (ol++xs++rest) el (0,0))/\WSame w w' /\
   (ol++xs++rest).size=cap*sz:=by
 obtain ⟨info,hi1,hi2⟩:=jcI hT hby
 obtain ⟨zv,hz1,hz2⟩:=jfj hT hzs
 let q:Question := .appendCap (sl+n) sc el
 let cap:=q.cut (w.tape w.drawn q)
 have hcap:sl+n<=cap:=by show sl+n<=sl+n+_;omega
 let rest:=Builtin.zeroCells zv.cells (cap-(sl+n))
 let w1:World := { w with drawn:=w.drawn+1 }
 refine ⟨cap,{ w1 with heap:=w.heap.push (.cells (ol++xs++rest) el (0,0)) },rest,?_,hcap,rfl,⟨rfl,rfl,rfl⟩,?_⟩
 ·have hch : ∀ w:World,(choose (.appendCap (sl+n) sc el)).run P w = .ok ((Question.appendCap (sl+n) sc el).cut (w.tape w.drawn (.appendCap (sl+n) sc el))) { w with drawn:=w.drawn+1 } := by
   intro w;simp [Question.forced]
  have hti : ∀ w,(typeInfo el).run P w = .ok info w:=fun w=>by simp [typeInfo,hi1]
  have hg:=growslice_fits (need:=sl+n) (old:=sc) (bytes:=info.bytes) om (by rw [hi2];omega)
  have hm : ¬ (((sl+n:Nat):Int)>IntKind.i64.max):=by rw [IntKind.max_i64];omega
  have hb0':info.bytes≠0:=by rw [hi2];exact hb0
  have hg' : ¬ (Builtin.nextslicecap (sl+n) sc*info.bytes>2 ^ 48):=by omega
  unfold Builtin.append_
  simp only [h0,a0,a1,zF,zI hu,zG,jah hT hsz]
  rcases jci hT hni with g1 | ⟨ty2,d,g1,g2,g3⟩
  ·simp only [g1,zF,zH,zG,zA,if_false,hlen,Bool.not_false,if_true,hfit,hti,false_or,hb0',and_false,hg',hch,run_askRoom]
   rw [hfo1]
   simp only [zG]
   rw [hfc1]
   simp only [zG,hz1,Go.newRow,zF,run_newObj,zH]
   rfl
  ·cases d
   case int k=>exact Bool.noConfusion g3
   all_goals
    simp only [g1,zF,zI g2,zH,zG,zA,if_false,hlen,Bool.not_false,if_true,hfit,hti,false_or,hb0',and_false,hg',hch,run_askRoom]
    rw [hfo1]
    simp only [zG]
    rw [hfc1]
    simp only [zG,hz1,Go.newRow,zF,run_newObj,zH]
    rfl
 ·have:rest.size=(cap-(sl+n))*sz:=by show (Builtin.zeroCells _ _).size=_;rw [size_zeroCells,hz2]
  simp only [Array.size_append,hol,hxs,this]
  have:sl*sz+n*sz+(cap-(sl+n))*sz=cap*sz:=by
   rw [<- Nat.add_mul,<- Nat.add_mul];congr 1;omega
  exact this
theorem step_move {b id d:Nat} {l:List V} {ob:Obj} {loc:Loc} {co co':Go.Obj} {h':H} {w':World} (hr:HRel P C m h w) (hb:h.get b=some (.cells l false)) (hl:m b=some loc) (hN:N<=id) (hid:m id=none) (hgid:h.get id=none)
  (hget : ∀ j,h'.get j=if j=id then some ob else if j=b then none else h.get j) (hnx:h.nx<=h'.nx) (hlt:id<h'.nx) (hsz:w'.heap.size=w.heap.size) (hco:w.heap[loc.β]?=some co) (hβ : w'.heap[loc.β]?=some co')
  (hoth : ∀ j,j≠loc.β -> w'.heap[j]?=w.heap[j]?) (hs:WSame w w') (ho:ORel P C (m.add id ⟨loc.β,loc.d+d,loc.ext-d⟩) ⟨loc.β,loc.d+d,loc.ext-d⟩ ob co') (hnl : ∀ L:Loop,co ≠ .loop L) :
  Step P C N m h w (m.add id ⟨loc.β,loc.d+d,loc.ext-d⟩) h' w':=by
 have hm:=Mp.add_mono (l:=⟨loc.β,loc.d+d,loc.ext-d⟩) hid
 have hbid:b≠id:=by intro e;subst e;rw [hl] at hid;cases hid
 have hβlt:=hr.lt hb hl
 refine ⟨hm,?_,⟨?_,?_,?_⟩,hnx,?_,by rw [hsz];exact zn _,?_,?_,hs.os,hs.tape,hs.output⟩
 ·intro j hj e
  unfold Mp.add;rw [zp om];exact e
 ·intro j oj hj
  rw [hget] at hj
  split at hj
  ·next e=>cases hj;subst e;exact ⟨_,co',zJ _ _,hβ,ho⟩
  ·split at hj
   ·cases hj
   ·next hne=>
    obtain ⟨lj,coj,h1,h2,h3⟩:=hr.obj j oj hj
    refine ⟨lj,coj,hm _ _ h1,?_,h3.mono hm⟩
    rw [hoth]
    ·exact h2
    ·intro e2
     have:=hr.inj j b oj _ lj loc hj hb hne h1 hl e2
     cases this.2
 ·intro j k oj ok lj lk hj hk hne h1 h2 h3
  rw [hget] at hj hk
  unfold Mp.add at h1 h2
  split at hj
  ·next e=>
   rw [zq e] at h1;cases h1
   rw [zp om] at hk h2
   split at hk
   ·cases hk
   ·next hkb=>
    have:=hr.inj b k _ ok loc lk hb hk (Ne.symm hkb) hl h2 h3
    cases this.1
  ·next e=>
   rw [zp e] at h1
   split at hj
   ·cases hj
   ·next hjb=>
    split at hk
    ·next e'=>
     rw [zq e'] at h2;cases h2
     have:=hr.inj j b oj _ lj loc hj hb hjb h1 hl h3
     cases this.2
    ·next e'=>
     rw [zp e'] at h2
     split at hk
     ·cases hk
     ·exact hr.inj j k oj ok lj lk hj hk hne h1 h2 h3
 ·intro j lj hj
  unfold Mp.add at hj
  split at hj
  ·next e=>subst e;exact hlt
  ·have:=hr.dom j lj hj
   omega
 ·intro j hj e
  rw [hget,zp om];split
  ·rfl
  ·exact e
 ·intro β hβ' hno
  have hne : β ≠ loc.β := fun e=>hno ⟨b,_,loc,hb,rfl,hl,e.symm⟩
  refine ⟨hoth β hne,?_⟩
  rintro ⟨j,oj,lj,h1,h2,h3,h4⟩
  rw [hget] at h1
  unfold Mp.add at h3
  split at h1
  ·next e=>rw [zq e] at h3;cases h3;exact hne h4.symm
  ·next e=>
   rw [zp e] at h3
   split at h1
   ·cases h1
   ·exact hno ⟨j,oj,lj,h1,h2,h3,h4⟩
 ·intro β L hL
  by_cases e : β = loc.β
  ·subst e;rw [hco] at hL;cases hL;exact zx rfl (hnl L)
  ·exact ⟨L,by rw [hoth β e];exact hL⟩
end
end Am
namespace Am
open Go
section
variable {P:Program} {C:Cx} {N:Nat} {m:Mp} {h h':H} {w:World} {e:Env} {t:Array Value} {o:Oper} {v:V} {call:Am.Call}
theorem HRel.of_heap {w':World} (hr:HRel P C m h w) (hw:w'.heap=w.heap):HRel P C m h w' :=
 ⟨fun b o hb=>let ⟨l,co,h1,h2,h3⟩:=hr.obj b o hb;⟨l,co,h1,by rw [hw];exact h2,h3⟩,hr.inj,hr.dom⟩
theorem HRel.nofuture (hr:HRel P C m h w) {b:Nat} (hb:h.nx<=b):m b=none/\h.get b=none:=by
 have h1:m b=none:=by
  cases e:m b with
  | none=>rfl
  | some l=>have:=hr.dom b l e;omega
 refine ⟨h1,?_⟩
 cases e:h.get b with
 | none=>rfl
 | some o=>obtain ⟨l,co,h2,_⟩:=hr.obj b o e;rw [h1] at h2;cases h2
theorem jaP {h:H} {sz n k:Nat} {x:V} {l:List V} (hl:ja2 h sz n x=some l) (hk:lenOf x=some k) (hn:n<=k) (hx : ∀ c,x = .slice none k c->k=0):l.length=n*sz:=by
 unfold ja2 at hl
 split at hl
 ·cases hl;simp [lenOf] at hk;subst hk
  have:=hx _ rfl
  subst this
  have:n=0:=by omega
  simp [this]
 ·simp only [zw,beq_iff_eq] at hl
  split at hl
  ·next h0=>cases hl;simp [h0]
  ·exact jcC hl
 ·simp only [zw,beq_iff_eq] at hl
  split at hl
  ·next h1=>cases hl;simp [lenOf] at hk;subst hk;simp [h1];omega
  ·cases hl
 ·cases hl
theorem jeW {l:List V} {xs rest:Array Value} (hl:jae m l xs.toList) {id:Nat} (hid:m id=none) (el:TypeId) (β ext:Nat) (hext:ext=xs.size+rest.size) :
  ORel P C (m.add id ⟨β,0,ext⟩) ⟨β,0,ext⟩ (.cells l false) (.cells (xs++rest) el (0,0)):=by
 have hlen:=hl.length
 simp at hlen
 refine ⟨_,el,0,0,rfl,by simp;omega,by simp;omega,?_,?_⟩
 ·intro k v hv
  obtain ⟨x,hx,hvx⟩:=hl.get hv
  have hk:k<xs.size:=by
   rcases zr k xs.toList.length with hlt | hge
   ·simpa using hlt
   ·rw [zc hge] at hx;cases hx
  refine ⟨x,?_,hvx.mono (Mp.add_mono hid)⟩
  simp only [Nat.zero_add]
  rw [Array.getElem?_append,zq hk,<- hx];simp
 ·intro _;exact .inl rfl
theorem jfB (hT:TOk P C) (hG:GOk C m) (hr:HRel P C m h w) (he:ERel m e t) (hN:N<=h.nx) {sz bytes:Nat} {a b:Opd} {c:Go.Call} (ho:o.op = .call c) (hc:c.callee = .builtin .append) (hx:ja3 C [a,b] c.args.toList=true)
  (hni:jca C c.argTypes=true) (hE:jce C c.argTypes (fun e=>jaq C e sz&&jcJ C e bytes && !(Nat.beq bytes 0)&&jdL C e sz)=true)
  (hv:I.eff call e h (.append sz bytes a b)=some (v,h')):Eff P C N m h w t o v h':=by
 obtain ⟨ty,el,g0,gE,gu⟩:=jcF hT hE
 simp only [zm,Bool.not_eq_true',nbeq,decide_eq_false_iff_not] at gE
 obtain ⟨⟨⟨hsz,hby⟩,hb0⟩,hzs⟩:=gE
 have fin : ∀ x w',(Builtin.append_ c.argTypes o.type (c.args.map (evT t))).run P w = .ok x w'->(execOp (evT t) o).run P w = .ok (.value x) w':=by
  intro x w' hw
  simp only [execOp,ho,zF,resolve,hc,zG,zH,invoke,builtin,hw]
 simp only [I.eff] at hv
 split at hv
 ·next av bv g1 g2=>
  obtain ⟨x,y,a0,a1,hxr,hyr⟩:=jeQ (t:=t) hG he hx g1 g2
  unfold jbd at hv
  split at hv
  ·cases hv
  next n hn=>
  split at hv
  ·cases hv
  next new hnew=>
  split at hv
  case h_2=>cases hv
  next base ln cap=>
  simp only [zw,zm,zz] at hv
  split at hv
  case isFalse=>cases hv
  next hbig=>
  obtain ⟨hbig,hbig2⟩:=hbig
  have hlen : ∀ w,(Builtin.lenOf y).run P w = .ok n w:=fun w=>jek hyr hn
  obtain ⟨xs,hfc,hxs⟩:=jaW hr hyr hnew hn (zn _)
  have hnl:new.length=n*sz:=jaP hnew hn (zn _) (fun c' hc'=>by subst hc';exact hyr.1)
  have hxsz:xs.size=n*sz:=by have:=hxs.length;simp at this;omega
  let w1:World := { w with drawn:=w.drawn+1 }
  have hr1:HRel P C m h w1:=hr.of_heap rfl
  obtain ⟨xs1,hfc1,hxs1⟩:=jaW (w:=w1) hr1 hyr hnew hn (zn _)
  have hxsz1:xs1.size=n*sz:=by have:=hxs1.length;simp at this;omega
  have hfut:=hr.nofuture (zn h.nx)
  split at hv
  ·
   next h0=>
   cases hv
   have h0:n=0:=by simpa using h0
   subst h0
   have hxe:xs.toList=[]:=by
    have:xs.size=0:=by omega
    simpa using this
   cases base with
   | none=>
    obtain ⟨h1,h2,rfl⟩:=hxr
    subst h1 h2
    refine ⟨m,w,Step.refl N hr,.inl ⟨_,fin _ _ (ja8 hT g0 gu hsz hni a0 a1 (hlen w) hfc (zn _) rfl),rfl,rfl,rfl⟩⟩
   | some p=>
    obtain ⟨loc,o',c',h1,rfl,h2,h3⟩:=hxr
    refine ⟨m,w,Step.refl N hr,.inl ⟨_,fin _ _ (ja8 hT g0 gu hsz hni a0 a1 (hlen w) hfc om (by simp [hxe,storeCells])),loc,o',c',h1,rfl,h2,h3⟩⟩
  next h0=>
  have hn0:n≠0:=by simpa using h0
  have grow : ∀ (ol:Array Value) (old:List V) (base':Option Addr) (sl sc:Nat),(c.args.map (evT t))[0]?=some (.slice base' sl sc)->ln=sl -> ¬ sl+n<=sc->(Builtin.firstCells sz sl (.slice base' sl sc)).run P w1 = .ok ol w1 ->
    jae m old ol.toList->ol.size=sl*sz -> ∃ m' w',Step P C N m h w m' (h.new (.cells (old++new) false)) w' /\
     ∃ x,(execOp (evT t) o).run P w = .ok (.value x) w'/\VRel m' (.slice (some (h.nx,0)) (ln+n) (.grow sz)) x:=by
   intro ol old base' sl sc a0' hls hnf hfo1 hold hol
   subst hls
   obtain ⟨cap,w',rest,k1,k2,k3,k4,k5⟩:=jbv (o:=o) hT g0 gu hsz hby hb0 hzs hni a0' a1 hlen hfc1 hfo1 hnf hbig hbig2 hol hxsz1
   have hrow:ORel P C (m.add h.nx ⟨w.heap.size,0,(ol++xs1).size+rest.size⟩) ⟨w.heap.size,0,(ol++xs1).size+rest.size⟩ (.cells (old++new) false) (.cells (ol++xs1++rest) el (0,0)) :=
    jeW (by rw [Array.toList_append];exact hold.append hxs1) hfut.1 el _ _ rfl
   refine ⟨_,w',jb3 hr hN hfut.1 hfut.2 (fun j=>H.get_new h j _) Zb Zb k3 k4 hrow,_,fin _ _ k1,_,_,cap,zJ _ _,rfl,k2,fun _=>rfl,(fun k hk=>by cases hk),fun q hq=>?_⟩
   cases hq
   show 0+cap*sz<=(ol++xs1).size+rest.size
   simp only [Array.size_append] at k5 ⊢
   omega
  have growk : ∀ (bk:Nat) (ol:Array Value) (old:List V) (base':Option Addr) (sl sc:Nat),(c.args.map (evT t))[0]?=some (.slice base' sl sc)->ln=sl -> ¬ sl+n<=sc->(Builtin.firstCells sz sl (.slice base' sl sc)).run P w1 = .ok ol w1 ->
    jae m old ol.toList->ol.size=sl*sz -> ∃ m' w',Step P C N m h w m' ((h.kill bk).new (.cells (old++new) false)) w' /\
     ∃ x,(execOp (evT t) o).run P w = .ok (.value x) w'/\VRel m' (.slice (some (h.nx,0)) (ln+n) (.grow sz)) x:=by
   intro bk ol old base' sl sc a0' hls hnf hfo1 hold hol
   subst hls
   obtain ⟨cap,w',rest,k1,k2,k3,k4,k5⟩:=jbv (o:=o) hT g0 gu hsz hby hb0 hzs hni a0' a1 hlen hfc1 hfo1 hnf hbig hbig2 hol hxsz1
   have hrow:ORel P C (m.add h.nx ⟨w.heap.size,0,(ol++xs1).size+rest.size⟩) ⟨w.heap.size,0,(ol++xs1).size+rest.size⟩ (.cells (old++new) false) (.cells (ol++xs1++rest) el (0,0)) :=
    jeW (by rw [Array.toList_append];exact hold.append hxs1) hfut.1 el _ _ rfl
   have hk:=jdO (N:=N) (b:=bk) hr
   have hfk:=hk.rel.nofuture (zn (h.kill bk).nx)
   refine ⟨_,w',hk.trans (jb3 hk.rel (by simpa using hN) hfk.1 hfk.2 (fun j=>H.get_new _ j _) Zb Zb k3 k4 hrow),_,fin _ _ k1,_,_,cap,zJ _ _,rfl,k2,fun _=>rfl,(fun k hk=>by cases hk),fun q hq=>?_⟩
   cases hq
   show 0+cap*sz<=(ol++xs1).size+rest.size
   simp only [Array.size_append] at k5 ⊢
   omega
  cases base with
  | none=>
   obtain ⟨rfl,rfl,rfl⟩:=hxr
   cases hv
   obtain ⟨m',w',s1,x,s2,s3⟩:=grow #[] [] none 0 0 a0 rfl om rfl rfl Zb
   simp only [List.nil_append,Nat.zero_add] at s1 s3
   exact ⟨m',w',s1,.inl ⟨x,s2,s3⟩⟩
  | some p=>
   obtain ⟨bk,off⟩:=p
   obtain ⟨loc,o',c',h1,rfl,h2,h3,h4,h5⟩:=hxr
   have oldc : ∀ old:List V,(bif ln*sz == 0 then some [] else h.load bk off (ln*sz))=some old -> ∃ ol:Array Value,(Builtin.firstCells sz ln (.slice (some o') ln c')).run P w1 = .ok ol w1/\jae m old ol.toList/\ol.size=ln*sz:=by
    intro old ho
    have hs:ja2 h sz ln (.slice (some (bk,off)) ln cap)=some old:=ho
    obtain ⟨ol,q1,q2⟩:=jaW (w:=w1) hr1 (x := .slice (some (bk,off)) ln cap) (y := .slice (some o') ln c') ⟨loc,o',c',h1,rfl,h2,h3,h4,h5⟩ hs rfl (zn _)
    have:=jaP hs rfl (zn _) (fun c hc=>by cases hc)
    exact ⟨ol,q1,q2,by have:=q2.length;simp at this;omega⟩
   cases cap with
   | fix k=>
    have hk:=h4 k rfl
    subst hk
    dsimp only at hv
    split at hv
    ·next hfit=>
     split at hv
     ·next hh hst=>
      cases hv
      have ho':=h3 om
      obtain ⟨w',q1,q2⟩:=jcz (N:=N) hr hst h1 hxs
      refine ⟨m,w',q2,.inl ⟨_,fin _ _ (ja8 hT g0 gu hsz hni a0 a1 (hlen w) hfc hfit ?_),loc,o',c',h1,rfl,hfit,h3,h4,h5⟩⟩
      simp only [ho',jaE]
      rw [Nat.add_assoc];exact q1
     ·cases hv
    ·next hfit=>
     split at hv
     ·next old hold=>
      cases hv
      obtain ⟨ol,q1,q2,q3⟩:=oldc old (by simpa [zw] using hold)
      obtain ⟨m',w',s1,x,s2,s3⟩:=grow ol old _ ln c' a0 rfl hfit q1 q2 q3
      exact ⟨m',w',s1,.inl ⟨x,s2,s3⟩⟩
     ·cases hv
   | grow q=>
    dsimp only at hv
    split at hv
    ·next l hb=>
     simp only [zw,zm,zz,nbeq,zt] at hv
     split at hv
     ·next hq=>
      cases hv
      obtain ⟨⟨rfl,hle⟩,hall⟩:=hq
      have h5:=h5 _ rfl
      by_cases hfit:ln+n<=c'
      ·
       have ho':=h3 om
       obtain ⟨loc',co,k1,k2,cc,elem,lo,hi,rfl,k3,k4,k5,k6⟩:=hr.obj bk _ hb
       rw [h1] at k1;cases k1
       have hone : ∀ z∈xs.toList,z.oneCell'=true:=by
        intro z hz
        obtain ⟨k,hk⟩:=List.getElem?_of_mem hz
        have hkl:k<new.length:=by
         rw [hxs.length]
         rcases zr k xs.toList.length with hlt | hge
         ·exact hlt
         ·rw [zc hge] at hk;cases hk
        obtain ⟨x,hx,hvx⟩:=hxs.get (za hkl)
        rw [hk] at hx;cases hx
        rw [<- hvx.one]
        exact zB.1 hall _ (List.getElem_mem hkl)
       have hcap:(ln+n)*q<=c'*q:=Nat.mul_le_mul_right _ hfit
       rw [Nat.add_mul] at hcap
       obtain ⟨w',cc',q1,q2,q3,q4,q5,q6⟩:=jaz (P:=P) (β := loc.β) (o:=loc.d+off+ln*q) xs.toList 0 w cc k2 (fun k hk=>by
        simp at hk
        rcases k6 rfl with k6 | k6<;>omega) Za hone
       have hcs:cc'.size=cc.size:=by have:=congrArg List.length q4;simpa [jbD] using this
       refine ⟨_,w',step_move (ob := .cells ((l.drop off).take (ln*q)++new) false) (d:=off) hr hb h1 hN hfut.1 hfut.2 (fun j=>?_) Zb Zb q2 k2 q3 q5 q6 ⟨cc',elem,lo,hi,rfl,?_,?_,?_,?_⟩ (fun L hL=>by cases hL),.inl ⟨_,fin _ _ (ja8 hT g0 gu hsz hni a0 a1 (hlen w) hfc hfit ?_),_,o',c',zJ _ _,rfl,hfit,fun _=>?_,(fun k hk=>by cases hk),fun q' hq'=>?_⟩⟩
       ·rw [H.get_new,H.get_kill];rfl
       ·simp [hnl];omega
       ·simp only;omega
       ·intro k v hv
        rw [zd] at hv
        have hc':cc'[loc.d+off+k]?=(layL cc.toList (loc.d+off+ln*q+0) xs.toList)[loc.d+off+k]?:=by rw [<- q4];simp
        have hlt:((l.drop off).take (ln*q)).length=ln*q:=by simp;omega
        rw [hlt] at hv
        rw [hc',jd9 _ _ _ _ Za]
        split at hv
        ·next hk=>
         rw [zp om]
         rw [List.getElem?_take,zq hk,zk] at hv
         obtain ⟨x,hx,hvx⟩:=k5 _ _ hv
         exact ⟨x,by rw [show loc.d+off+k=loc.d+(off+k) by omega];simpa using hx,hvx.mono (Mp.add_mono hfut.1)⟩
        ·next hk=>
         have hkn:k-ln*q<new.length:=by
          rcases zr (k-ln*q) new.length with hlt | hge
          ·exact hlt
          ·rw [zc hge] at hv;cases hv
         rw [zq Za]
         obtain ⟨x,hx,hvx⟩:=hxs.get hv
         exact ⟨x,by rw [show loc.d+off+k-(loc.d+off+ln*q+0)=k-ln*q by omega];exact hx,hvx.mono (Mp.add_mono hfut.1)⟩
       ·intro _
        rcases k6 rfl with k6 | k6
        ·exact .inl k6
        ·refine .inr ?_
         simp only
         omega
       ·simp only [ho',jaE];exact q1
       ·simp only [ho'];rfl
       ·cases hq';simp only;omega
      ·
       have hload:(bif ln*q == 0 then some [] else h.load bk off (ln*q))=some ((l.drop off).take (ln*q)):=by
        simp only [zw,beq_iff_eq]
        split
        ·next h00=>rw [h00];rfl
        ·unfold H.load;rw [hb];simp [zw,hle]
       obtain ⟨ol,q1,q2,q3⟩:=oldc _ hload
       obtain ⟨m',w',s1,x,s2,s3⟩:=growk bk ol _ _ ln c' a0 rfl hfit q1 q2 q3
       exact ⟨m',w',s1,.inl ⟨x,s2,s3⟩⟩
     ·cases hv
    ·cases hv
 ·cases hv
theorem eff_copy (hT:TOk P C) (hG:GOk C m) (hr:HRel P C m h w) (he:ERel m e t) {sz:Nat} {a b:Opd} {c:Go.Call} (ho:o.op = .call c) (hc:c.callee = .builtin .copy) (hx:ja3 C [a,b] c.args.toList=true)
  (hE:jce C c.argTypes (fun e=>jaq C e sz)=true) (hv:I.eff call e h (.copy sz a b)=some (v,h')):Eff P C N m h w t o v h':=by
 obtain ⟨ty,el,g0,hsz,gu⟩:=jcF hT hE
 have fin : ∀ x w',(Builtin.copy_ c.argTypes o.type (c.args.map (evT t))).run P w = .ok x w'->(execOp (evT t) o).run P w = .ok (.value x) w':=by
  intro x w' hw
  simp only [execOp,ho,zF,resolve,hc,zG,zH,invoke,builtin,hw]
 simp only [I.eff] at hv
 split at hv
 ·next av bv g1 g2=>
  obtain ⟨x,y,a0,a1,hxr,hyr⟩:=jeQ (t:=t) hG he hx g1 g2
  unfold jeN at hv
  split at hv
  ·next base ln cap k hk=>
   dsimp only at hv
   split at hv
   ·cases hv
   next l hl=>
   obtain ⟨xs,hfc,hxs⟩:=jaW hr hyr hl hk (Nat.min_le_left _ _)
   have hlen:(Builtin.lenOf y).run P w = .ok k w:=jek hyr hk
   have run : ∀ (base':Option Addr) (c':Nat) (w':World),x = .slice base' ln c'->(match base' with | some a=>storeCells a xs.toList | none=>pure ():Sem Unit).run P w = .ok () w' ->
     (Builtin.copy_ c.argTypes o.type (c.args.map (evT t))).run P w = .ok (.int .i64 (Nat.min k ln:Nat)) w':=by
    rintro base' c' w' rfl hst
    unfold Builtin.copy_
    simp only [g0,a0,a1,zF,zI gu,zG,hlen,jah hT hsz,hfc]
    cases base' with
    | none=>simp only [zH] at hst;cases hst;rfl
    | some a=>simp only at hst;simp only [zF,hst,zG,zH,goInt]
   simp only [zw] at hv
   split at hv
   ·next hemp=>
    cases hv
    have:l=[]:=by simpa using hemp
    subst this
    have hxe:xs.toList=[]:=hxs
    cases base with
    | none=>
     obtain ⟨rfl,rfl,rfl⟩:=hxr
     exact ⟨m,w,Step.refl N hr,.inl ⟨_,fin _ _ (run none 0 w rfl rfl),rfl⟩⟩
    | some p=>
     obtain ⟨loc,o',c',h1,rfl,h2,h3⟩:=hxr
     exact ⟨m,w,Step.refl N hr,.inl ⟨_,fin _ _ (run (some o') c' w rfl (by simp [hxe,storeCells])),rfl⟩⟩
   ·next hemp=>
    cases base with
    | none=>cases hv
    | some p=>
     obtain ⟨bk,off⟩:=p
     obtain ⟨loc,o',c',h1,rfl,h2,h3,h4⟩:=hxr
     dsimp only at hv
     split at hv
     ·next hh hst=>
      cases hv
      have ho':o'=⟨loc.β,loc.d+off,none⟩:=by
       refine h3 ?_
       intro h0
       subst h0
       have hln:ln=0:=by omega
       subst hln
       have hl0:=jaP hl hk (Nat.min_le_left _ _) (fun c' hc'=>by subst hc';exact hyr.1)
       have:l=[]:=by
        have:Nat.min k 0=0:=Nat.min_eq_right (Nat.zero_le _)
        rw [this] at hl0
        exact zl.1 (by simpa using hl0)
       exact hemp (by simp [this])
      obtain ⟨w',q1,q2⟩:=jcz (N:=N) hr hst h1 hxs
      exact ⟨m,w',q2,.inl ⟨_,fin _ _ (run (some o') c' w' rfl (by simp only [ho'];exact q1)),rfl⟩⟩
     ·cases hv
  ·cases hv
 ·cases hv
theorem jcq {β : Nat} {c:Array Value} {elem:TypeId} {lo hi:Nat} (hb:w.heap[β]?=some (.cells c elem (lo,hi))) :
  ∃ lo' hi',(w.freeze ⟨β,c.size,none⟩ 1).heap[β]?=some (.cells c elem (lo',hi'))/\(lo=hi->lo'=c.size)/\(lo≠hi->lo'=min lo c.size):=by
 unfold World.freeze
 rw [zp om]
 refine ⟨if lo=hi then c.size else min lo c.size,if lo=hi then c.size+1 else max hi (c.size+1),?_,fun h=>by simp [h],fun h=>by simp [h]⟩
 simp only [Array.getElem?_modify,zq,hb,Option.map_some]
 by_cases h:lo=hi<;>simp [h]
theorem eff_mark (hT:TOk P C) (hG:GOk C m) (hr:HRel P C m h w) (he:ERel m e t) {a:Opd} {a':Operand} {s d:TypeId} (ho:o.op = .convert s d a') (ha:opdM C a a'=true) (hsd:Nat.beq s d=true) (hd:jcG C d=true)
  (hv:I.eff call e h (.mark a)=some (v,h')):Eff P C N m h w t o v h':=by
 obtain ⟨el,hd1,hd2⟩:=jcf hT hd
 have hsd:=jaT.1 hsd
 subst hsd
 simp only [I.eff] at hv
 split at hv
 ·next b off n cp g1=>
  have H:=jaa (t:=t) hG he ha g1
  obtain ⟨loc,o',c',h1,e1,h2⟩:=H
  have H:=jaa (t:=t) hG he ha g1
  split at hv
  ·next l hb=>
   simp only [zw,zz] at hv
   split at hv
   case isFalse=>cases hv
   next hn1=>
   cases hv
   have ho':=h2.2.1 om
   subst ho'
   obtain ⟨loc',co,k1,k2,cc,elem,lo,hi,rfl,k3,k4,k5,k6⟩:=hr.obj b _ hb
   rw [h1] at k1;cases k1
   obtain ⟨lo',hi',q1,q2⟩:=jcq k2
   refine ⟨m,w.freeze ⟨loc.β,cc.size,none⟩ 1,?_,.inl ⟨evT t a',?_,H⟩⟩
   ·refine jcu (o' := .cells l false) hr hb rfl rfl h1 k2 (fun j=>?_) rfl ?_ q1 ?_ ⟨?_,?_,?_⟩ ⟨cc,elem,lo',hi',rfl,k3,k4,k5,?_⟩ (fun L hL=>by cases hL)
    ·split
     ·next e=>subst e;exact hb
     ·rfl
    ·unfold World.freeze;rw [zp om];simp
    ·intro j hj
     unfold World.freeze;rw [zp om]
     simp only [Array.getElem?_modify]
     rw [zp (fun e=>hj e.symm)]
    ·unfold World.freeze;rw [zp om]
    ·unfold World.freeze;rw [zp om]
    ·unfold World.freeze;rw [zp om]
    ·intro _
     refine .inr ?_
     by_cases hlh:lo=hi
     ·have:=q2.1 hlh;omega
     ·have:=q2.2 hlh
      rcases k6 rfl with k6 | k6
      ·exact zx k6 hlh
      ·omega
   ·have hshape:w.shape? loc.β = some (elem,cc.size):=by simp [World.shape?,k2]
    simp only [execOp,ho,zF,e1,convert,zI hd1,zG,zI hd2,beq_self_eq_true]
    simp only [markStringish,zF,run_shape,hshape,zG,run_freeze,zH]
  ·cases hv
 ·cases hv
end
end Am
namespace Am
open Go
section
variable {P:Program} {C:Cx} {N:Nat} {m:Mp} {h h':H} {w:World} {e:Env} {t:Array Value} {o:Oper} {v:V} {call:Am.Call}
theorem jaQ {r:Nat} {mp:Option Nat} {a b:Nat} {s:Array Nat} (hb:w.heap[r]?=some (.mapIter mp a s b)):(getObj r).run P w = .ok (.mapIter mp a s b) w:=by
 simp [getObj,Sem.run,hb]
theorem jbp {r:Nat} {s:ByteArray} {p:Nat} (hb:w.heap[r]?=some (.stringIter s p)):(getObj r).run P w = .ok (.stringIter s p) w:=by
 simp [getObj,Sem.run,hb]
theorem jc2 {r:Nat} {mp:Option Nat} {a b:Nat} {s:Array Nat} (hb:w.heap[r]?=some (.mapIter mp a s b)) (ob:Go.Obj):(setObj r ob).run P w = .ok () { w with heap:=w.heap.setIfInBounds r ob } := by
 simp [setObj,Sem.run,hb]
theorem jcp {r:Nat} {s:ByteArray} {p:Nat} (hb:w.heap[r]?=some (.stringIter s p)) (ob:Go.Obj):(setObj r ob).run P w = .ok () { w with heap:=w.heap.setIfInBounds r ob } := by
 simp [setObj,Sem.run,hb]
theorem jfc (hr:HRel P C m h w) {b:Nat} {ob ob':Obj} {co co':Go.Obj} {l:Loc} (hg:h.get b=some ob) (hro:ob.ro=false) (hro':ob'.ro=false) (hl:m b=some l) (hb:w.heap[l.β]?=some co)
  (hrel:ORel P C m l ob' co') (hnl : ∀ L,co ≠ .loop L):Step P C N m h w m (h.set b ob') { w with heap:=w.heap.setIfInBounds l.β co' } := by
 have hlt:l.β < w.heap.size:=hr.lt hg hl
 refine jcu hr hg hro hro' hl hb (H.get_set h b · _) rfl Zb (by simp [hlt]) (fun j hj=>?_) ⟨rfl,rfl,rfl⟩ hrel (fun L hL=>zx hL (hnl L))
 simp only [Array.getElem?_setIfInBounds]
 rw [zp (fun e=>hj e.symm)]
theorem eff_range (hT:TOk P C) (hG:GOk C m) (hr:HRel P C m h w) (he:ERel m e t) (hN:N<=h.nx) {str:Bool} {a:Opd} {a':Operand} {ty:TypeId} (ho:o.op = .range ty a') (ha:opdM C a a'=true)
  (hu:isU C ty (fun | .str=>str | .map ..=>!str | _=>false)=true) (hv:I.eff call e h (.range str a)=some (v,h')):Eff P C N m h w t o v h':=by
 obtain ⟨u,dd,h1,h2,h3⟩:=jao hT hu
 have hfut:=hr.nofuture (zn h.nx)
 have fin : ∀ (ob:Obj) (co:Go.Obj),ORel P C (m.add h.nx ⟨w.heap.size,0,0⟩) ⟨w.heap.size,0,0⟩ ob co->(execOp (evT t) o).run P w = .ok (.value (.pointer (some ⟨w.heap.size,0,none⟩))) { w with heap:=w.heap.push co } ->
   Eff P C N m h w t o (.ptr (some (h.nx,0))) (h.new ob):=fun ob co q1 q2=>
  ⟨_,{ w with heap:=w.heap.push co },jb3 hr hN hfut.1 hfut.2 (fun j=>H.get_new h j _) Zb Zb rfl ⟨rfl,rfl,rfl⟩ q1,.inl ⟨_,q2,_,zJ _ _,rfl⟩⟩
 simp only [I.eff] at hv
 split at hv
 ·next s g=>
  have e1:evT t a' = .string ⟨⟨s⟩⟩:=jaa hG he ha g
  cases hv
  cases u<;>simp at h1
  cases dd<;>simp [jac] at h3
  exact fin _ _ ⟨rfl,rfl⟩ (by simp only [execOp,ho,Instr.range,zF,zI h2,zG,e1,zH,run_newObj])
 ·next g=>
  have e1:evT t a' = .map none:=jaa hG he ha g
  cases hv
  cases u<;>simp at h1
  cases dd<;>simp [jac] at h3
  exact fin _ _ ⟨rfl,none,rfl,rfl⟩ (by simp only [execOp,ho,Instr.range,zF,zI h2,zG,e1,zH,run_newObj])
 ·next r g=>
  obtain ⟨l,hl,e1⟩:=jaa (t:=t) hG he ha g
  split at hv
  ·next es c hm=>
   cases hv
   obtain ⟨hg,ces,h7,h8⟩:=jfX hr hm hl
   cases u<;>simp at h1
   cases dd<;>simp [jac] at h3
   exact fin _ _ ⟨rfl,some l.β,rfl,l,Mp.add_mono hfut.1 _ _ hl,rfl⟩ (by simp only [execOp,ho,Instr.range,zF,zI h2,zG,e1,jba h7,zH,run_newObj])
  ·cases hv
 ·cases hv
theorem jab.filter {p:V × V × Nat->Bool} {q:MapEntry->Bool} (hpq : ∀ a c,c.born=a.2.2->p a=q c) : ∀ {es:List (V × V × Nat)} {ces:List MapEntry},jab m es ces->jab m (es.filter p) (ces.filter q)
 | [],_,h=>by rw [show _=[] from h];exact rfl
 | (k,v,b) :: es,_,⟨c0,s,e,h1,h2,h3,h4⟩=>by
  subst e
  rw [List.filter_cons,List.filter_cons,<- hpq (k,v,b) c0 h3]
  split
  ·exact ⟨c0,_,rfl,h1,h2,h3,jab.filter hpq h4⟩
  ·exact jab.filter hpq h4
theorem jab.all {p:V × V × Nat->Bool} {q:MapEntry->Bool} (hpq : ∀ a c,c.born=a.2.2->p a=q c) : ∀ {es:List (V × V × Nat)} {ces:List MapEntry},jab m es ces->es.all p=ces.all q
 | [],_,h=>by rw [show _=[] from h];rfl
 | (k,v,b) :: es,_,⟨c0,s,e,h1,h2,h3,h4⟩=>by
  subst e
  rw [List.all_cons,List.all_cons,<- hpq (k,v,b) c0 h3,jab.all hpq h4]
theorem jab.find {p:V × V × Nat->Bool} {q:MapEntry->Bool} (hpq : ∀ a c,c.born=a.2.2->p a=q c) : ∀ {es:List (V × V × Nat)} {ces:List MapEntry},jab m es ces -> ∀ {k v:V} {b:Nat},es.find? p=some (k,v,b) -> ∃ c,ces.find? q=some c/\VRel m k c.key/\VRel m v c.val
 | [],_,h,_,_,_,e=>by cases e
 | (k,v,b) :: es,_,⟨c0,s,e,h1,h2,h3,h4⟩,k',v',b',e'=>by
  subst e
  rw [List.find?_cons] at e' ⊢
  rw [<- hpq (k,v,b) c0 h3]
  split at e'
  ·cases e';exact ⟨c0,rfl,h1,h2⟩
  ·exact jab.find hpq h4 e'
theorem jab.empty {es:List (V × V × Nat)} {ces:List MapEntry} (h:jab m es ces):es.isEmpty=ces.isEmpty:=by
 cases es with
 | nil=>rw [show _=[] from h];rfl
 | cons a r=>obtain ⟨k,v,b⟩:=a;obtain ⟨c0,s,e,_⟩:=h;subst e;rfl
theorem ble_dec (a b:Nat):Nat.ble a b=decide (b>=a):=by
 by_cases h:a<=b
 ·rw [Nat.ble_eq_true_of_le h,decide_eq_true h]
 ·have:Nat.ble a b=false:=by
   cases e:Nat.ble a b
   ·rfl
   ·exact zx (Nat.le_of_ble_eq_true e) h
  rw [this,decide_eq_false h]
theorem jey (seen:List Nat) (n:Nat):(seen.any fun b=>Nat.beq b n)=seen.toArray.contains n:=by
 simp only [List.contains_toArray]
 induction seen with
 | nil=>rfl
 | cons a r ih=>
  rw [List.any_cons,List.contains_cons,ih]
  congr 1
  rw [nbeq]
  by_cases h:a=n
  ·subst h;simp
  ·simp [h,Ne.symm h]
theorem allNew_eq {seen:List Nat} {last:Nat} {es:List (V × V × Nat)} {ces:Array MapEntry} (h:jab m es ces.toList) :
  jez seen last es=(!seen.toArray.isEmpty && !ces.isEmpty&&ces.all fun x=>decide (x.born>=last)):=by
 unfold jez
 rw [h.empty,h.all (q:=fun x=>decide (x.born>=last)) fun a c hc=>by rw [hc];exact ble_dec _ _]
 simp
theorem jev {s:List UInt8} {pos:Nat} {c:UInt8} (hc:s[pos]?=some c) (hs:c.toNat<128):Utf8.decode ⟨⟨s⟩⟩ pos=(c.toNat,1):=by
 have h0:(ByteArray.get! ⟨⟨s⟩⟩ (pos+0)).toNat=c.toNat:=by
  show ((⟨s⟩:Array UInt8)[pos+0]!).toNat=_
  rw [Nat.add_zero,List.getElem!_toArray,List.getElem!_eq_getElem?_getD,hc]
  rfl
 unfold Utf8.decode
 simp only [h0]
 rw [zq hs]
theorem eff_next (hG:GOk C m) (hr:HRel P C m h w) (he:ERel m e t) {str:Bool} {a:Opd} {a':Operand} (ho:o.op = .next a' str) (ha:opdM C a a'=true)
  (hv:I.eff call e h (.next str a)=some (v,h')):Eff P C N m h w t o v h':=by
 simp only [I.eff] at hv
 split at hv
 ·next b g=>
  obtain ⟨l,hl,e1⟩:=jaa (t:=t) hG he ha g
  split at hv
  ·next s pos hg=>
   obtain ⟨l',co,q1,q2,q3,rfl⟩:=hr.obj b _ hg
   dsimp only at hl
   rw [hl] at q1;cases q1
   rw [q3] at e1
   split at hv
   ·next hp=>
    cases hv
    have hlt : ¬ pos<(ByteArray.mk ⟨s⟩).size:=by
     have:s.length<=pos:=by simpa using hp
     show ¬ pos<s.length;omega
    refine ⟨m,w,Step.refl N hr,.inl ⟨.tuple #[.bool false],?_,_,rfl,_,_,rfl,rfl,rfl⟩⟩
    simp only [execOp,ho,Instr.next,zF,e1,jbp q2,zG,zp hlt,zH]
   ·next c hp=>
    simp only [zw,Nat.blt_eq] at hv
    split at hv
    ·next hs=>
     cases hv
     have hlt:pos<(ByteArray.mk ⟨s⟩).size:=by
      show pos<s.length
      rcases zr pos s.length with h | h
      ·exact h
      ·rw [zc h] at hp;cases hp
     refine ⟨m,_,jfc hr hg rfl rfl hl q2 ⟨q3,rfl⟩ (fun L hL=>by cases hL),.inl ⟨.tuple #[.bool true,goInt pos,.int .i32 c.toNat],?_,_,rfl,_,_,rfl,rfl,_,_,rfl,rfl,_,_,rfl,rfl,rfl⟩⟩
     simp only [execOp,ho,Instr.next,zF,e1,jbp q2,zG,zq hlt,jev hp hs,jcp q2,zH]
    ·cases hv
  ·next since seen last hg=>
   obtain ⟨l',co,q1,q2,q3,mp',rfl,rfl⟩:=hr.obj b _ hg
   dsimp only at hl
   rw [hl] at q1;cases q1
   rw [q3] at e1
   cases hv
   refine ⟨m,w,Step.refl N hr,.inl ⟨.tuple #[.bool false],?_,_,rfl,_,_,rfl,rfl,rfl⟩⟩
   simp only [execOp,ho,Instr.next,zF,e1,jaQ q2,zG,zH]
  ·next r since seen last hg=>
   obtain ⟨l',co,q1,q2,q3,mp',rfl,lm,hlm,rfl⟩:=hr.obj b _ hg
   dsimp only at hl
   rw [hl] at q1;cases q1
   rw [q3] at e1
   split at hv
   ·next es c hm=>
    obtain ⟨hgm,ces,h7,h8⟩:=jfX hr hm hlm
    simp only [zw] at hv
    split at hv
    ·cases hv
    next hnew=>
    have hnew':(!seen.toArray.isEmpty && !ces.isEmpty&&ces.all fun x=>decide (x.born>=last))=false:=by
     rw [<- allNew_eq h8];simpa using hnew
    have hleft:=h8.filter (p:=fun e=>!(seen.any fun b=>Nat.beq b e.2.2)) (q:=fun e=>!seen.toArray.contains e.born) fun a c hc=>by rw [hc,jey]
    have hlf:(ces.filter fun e=>!seen.toArray.contains e.born).toList=ces.toList.filter fun e=>!seen.toArray.contains e.born:=by simp
    rw [<- hlf] at hleft
    change jab m (jgx seen es) _ at hleft
    generalize hL:(ces.filter fun e=>!seen.toArray.contains e.born)=L at hleft
    split at hv
    ·next h0=>
     cases hv
     rw [h0] at hleft
     have hLe:L = #[]:=by simpa using (show L.toList=[] from hleft)
     subst hLe
     refine ⟨m,w,Step.refl N hr,.inl ⟨.tuple #[.bool false],?_,_,rfl,_,_,rfl,rfl,rfl⟩⟩
     simp only [execOp,ho,Instr.next,zF,e1,jaQ q2,jba h7,zG,zH,hnew',zA,if_false,hL]
     simp [Question.forced]
    ·next k u born h0=>
     simp only [zw,Nat.blt_eq] at hv
     split at hv
     ·next hs=>
      cases hv
      rw [h0] at hleft
      obtain ⟨ce,rest,hL1,r1,r2,r3,r4⟩:=hleft
      have r4':rest=[]:=r4
      subst r4'
      have hLe:L = #[ce]:=by
       apply Array.toList_inj.1;rw [hL1]
      subst hLe
      have hb:ce.born<since:=by rw [r3];exact hs
      have f1:(#[ce]:Array MapEntry).filter (fun x=>decide (x.born<since)) = #[ce]:=by
       apply Array.toList_inj.1;simp [hb]
      have f2:(#[ce]:Array MapEntry).filter (fun x=>decide (x.born>=since)) = #[]:=by
       apply Array.toList_inj.1;simp [hb]
      subst r3
      refine ⟨m,_,jfc hr hg rfl rfl hl q2 ⟨q3,some lm.β,rfl,lm,hlm,rfl⟩ (fun L hL=>by cases hL),.inl ⟨.tuple #[.bool true,ce.key,ce.val],?_,_,rfl,_,_,rfl,rfl,_,_,rfl,r1,_,_,rfl,r2,rfl⟩⟩
      simp only [execOp,ho,Instr.next,zF,e1,jaQ q2,jba h7,zG,zH,hnew',zA,if_false,hL,f1,f2]
      simp [Question.forced,jc2 q2]
     ·cases hv
    ·cases hv
   ·cases hv
  ·cases hv
 ·cases hv
end
end Am
namespace Am
open Go
section
variable {P:Program} {C:Cx} {N:Nat} {m:Mp} {h h':H} {w:World} {e:Env} {t:Array Value} {o:Oper} {v:V} {call:Am.Call}
theorem jfu (hT:TOk P C) (hG:GOk C m) (he:ERel m e t) {i:I} (hc:i.cls = .P) (hM:iM P C i o.op=true) (hr:i.pure e=some v) (w:World):jap P m t o v w:=by
 generalize hop:o.op=op at hM
 unfold iM at hM
 split at hM
 all_goals try (simp [I.cls] at hc;done)
 all_goals try (simp [I.pure] at hr;done)
 all_goals try (cases hM;done)
 ·exact jdW hG he (.inl hop) hM (by simp only [I.pure] at hr;split at hr<;>simp_all) w
 ·exact jdW hG he (.inr hop) hM (by simp only [I.pure] at hr;split at hr<;>simp_all) w
 ·simp only [zm,Bool.not_eq_true'] at hM
  simp [I.pure,Opd.ev] at hr
  subst hr
  exact pure_lenC hT hop rfl hM.1 hM.2 w
 ·simp only [zm] at hM
  exact pure_pick hG he hop hM.1.1 hM.1.2 hM.2 hr w
 ·simp only [zm] at hM
  exact jf1 hT hG he hop hM.1 hM.2 hr w
 ·exact jfw hG he hop hM hr w
 ·simp only [zm,beq_iff_eq] at hM
  obtain ⟨⟨rfl,h1⟩,h2⟩:=hM
  exact pure_bin hG he hop h1 h2 hr w
 ·simp only [zm] at hM
  exact pure_eq hT hG he hop hM.1.1.1 hM.1.1.2 hM.1.2 hM.2 hr w
 ·simp only [zm,beq_iff_eq] at hM
  obtain ⟨rfl,h1⟩:=hM
  exact pure_un hG he hop h1 hr w
 ·simp only [zm] at hM
  exact jdZ hT hG he hop hM.1.1 hM.1.2 hM.2 hr w
 ·simp only [zm,nbeq,zt] at hM
  obtain ⟨⟨rfl,h1⟩,h2⟩:=hM
  exact jdX hT hG he hop h1 h2 hr w
 ·simp only [zm,nbeq,zt] at hM
  obtain ⟨⟨rfl,h1⟩,h2⟩:=hM
  exact jfx hG he hop h1 h2 hr w
 ·simp only [zm] at hM
  exact jeC hT hG he hop hM.1.1.1 hM.1.1.2 hM.1.2 hM.2 hr w
 ·simp only [zm] at hM
  exact jfv hT hG he hop hM.1.1.1.1 hM.1.1.1.2 hM.1.1.2 hM.1.2 hM.2 hr w
 ·simp only [zm] at hM
  exact jfz hT hG he hop hM.1 hM.2 hr w
 ·simp only [zm] at hM
  exact pure_ixaA hT hG he hop hM.1.1 hM.1.2 hM.2 hr w
 ·simp only [zm] at hM
  exact pure_ixaS hT hG he hop hM.1.1 hM.1.2 hM.2 hr w
 ·simp only [zm] at hM
  exact pure_ixA hT hG he hop hM.1.1 hM.1.2 hM.2 hr w
 ·simp only [zm] at hM
  exact jfy hT hG he hop hM.1.1 hM.1.2 hM.2 hr w
 ·simp only [zm,nbeq,zt] at hM
  obtain ⟨h1,rfl⟩:=hM
  exact jdY hG he hop h1 hr w
 ·simp only [zm] at hM
  exact pure_lenS hT hG he hop rfl hM.1 hM.2 hr w
 ·simp only [zm] at hM
  exact pure_lenL hT hG he hop rfl hM.1 hM.2 hr w
 ·exact pure_minI hG he hop rfl hM hr w
theorem jfr (hT:TOk P C) (hG:GOk C m) (hR:HRel P C m h w) (he:ERel m e t) {i:I} (hc:i.cls = .R) (hM:iM P C i o.op=true) (hr:i.read e h=some v):jap P m t o v w:=by
 generalize hop:o.op=op at hM
 unfold iM at hM
 split at hM
 all_goals try (simp [I.cls] at hc;done)
 all_goals try (cases hM;done)
 ·simp only [zm] at hM
  exact jft hT hG hR he hop hM.2 hM.1 hr
 ·simp only [zm] at hM
  exact jfs hT hG hR he hop hM.2 hM.1 hr
 ·simp only [zm] at hM
  exact jdU hT hG hR he hop hM.1.1 hM.1.2 hM.2 hr
theorem jf4 (hT:TOk P C) (hG:GOk C m) (he:ERel m e t) {i:I} (hc:i.cls = .A) (hM:iM P C i o.op=true) {ob:Obj} {mk:Nat->V} (hr:i.make e=some (ob,mk)) (w:World):jfH P C m t o ob mk w:=by
 generalize hop:o.op=op at hM
 unfold iM at hM
 split at hM
 all_goals try (simp [I.cls] at hc;done)
 all_goals try (cases hM;done)
 ·simp only [zm] at hM
  simp only [I.make,Option.some.injEq,Prod.mk.injEq] at hr
  obtain ⟨rfl,rfl⟩:=hr
  exact jf6 (sz:=0) hT hop hM.1.2
 ·simp only [zm] at hM
  exact make_box hG he hop hM.2 hr
 ·simp only [zm,nbeq,zt,zz] at hM
  exact jeJ hT hG he hop hM.1.1.1 hM.1.1.2 hM.1.2 hM.2 hr
 ·simp only [zm] at hM
  exact jeg hT hG he hop hM.1.1 hM.1.2 hM.2 hr
 ·simp only [zm] at hM
  exact jeh hT hG he hop hM.1.1 hM.1.2 hM.2 hr
def I.calls:I->Bool
 | .call .. | .callv ..=>true
 | _=>false
theorem eff_sound (hT:TOk P C) (hG:GOk C m) (hR:HRel P C m h w) (he:ERel m e t) (hN:N<=h.nx) {i:I} (hc:i.cls = .E) (hn:i.calls=false) (hM:iM P C i o.op=true) (hr:i.eff call e h=some (v,h')) :
  Eff P C N m h w t o v h':=by
 generalize hop:o.op=op at hM
 unfold iM at hM
 split at hM
 all_goals try (simp [I.cls] at hc;done)
 all_goals try (simp [I.calls] at hn;done)
 all_goals try (cases hM;done)
 ·simp only [zm] at hM
  exact eff_store hT hG hR he hop hM.1.1 hM.1.2 hM.2 hr
 ·simp only [zm] at hM
  exact eff_mark hT hG hR he hop hM.1.1 hM.1.2 hM.2 hr
 ·simp only [zm] at hM
  exact eff_range hT hG hR he hN hop hM.1 hM.2 hr
 ·simp only [zm,beq_iff_eq] at hM
  obtain ⟨rfl,h1⟩:=hM
  exact eff_next hG hR he hop h1 hr
 ·simp only [zm] at hM
  exact jfB hT hG hR he hN hop rfl hM.1.1 hM.1.2 hM.2 hr
 ·simp only [zm] at hM
  exact eff_copy hT hG hR he hop rfl hM.1 hM.2 hr
end
end Am
