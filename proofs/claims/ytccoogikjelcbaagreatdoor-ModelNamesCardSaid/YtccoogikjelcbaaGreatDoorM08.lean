/- Our own library, part 8. -/
import Derived.IntWalk
import Derived.Test.YtccoogikjelcbaaGreatDoorM07
set_option maxHeartbeats 8000000
set_option maxRecDepth 800
set_option linter.all false
namespace Am
open Go
section
variable {P:Program} {C:Cx} {m:Mp} {h:H} {w:World} {e:Env} {t:Array Value} {o:Oper} {v:V}
def jjk (P:Program) (C:Cx) (m:Mp) (t:Array Value) (o:Oper) (ob:Obj) (mk:Nat->V) (w:World):Prop :=
 ∃ co x w' ext,(execOp (evT t) o).run P w = .ok (.value x) w'/\w'.heap=w.heap.push co/\WSame w w' /\
  ∀ id,m id=none->ORel P C (m.add id ⟨w.heap.size,0,ext⟩) ⟨w.heap.size,0,ext⟩ ob co/\VRel (m.add id ⟨w.heap.size,0,ext⟩) (mk id) x
theorem jfR {l:List V} {xs:Array Value} (hl:jah m l xs.toList) (id:Nat) (hid:m id=none) (el:TypeId) (β : Nat) (fz:Nat × Nat) (hf:fz.1=fz.2\/l.length<=fz.1) :
  ORel P C (m.add id ⟨β,0,l.length⟩) ⟨β,0,l.length⟩ (.cells l false) (.cells xs el fz):=by
 refine ⟨xs,el,fz.1,fz.2,rfl,zn _,?_,?_,?_⟩
 ·have:=hl.length;simp at this;simp;omega
 ·intro k v hv
  obtain ⟨x,hx,hvx⟩:=hl.get hv
  exact ⟨x,by simpa using hx,hvx.mono (Mp.add_mono hid)⟩
 ·intro _;simpa using hf
theorem jkL (hT:TOk P C) {sz:Nat} {z:List V} {ty:TypeId} (ho:o.op = .alloc ty) (hz:jb1 C ty z=true):jjk P C m t o (.cells z false) (fun b=>.ptr (some (b,0))) w:=by
 obtain ⟨zv,h1,h2⟩:=jbN hT hz m
 refine ⟨.cells zv.cells ty (0,0),.pointer (some ⟨w.heap.size,0,none⟩),{ w with heap:=w.heap.push (.cells zv.cells ty (0,0)) },z.length,?_,rfl,⟨rfl,rfl,rfl⟩,?_⟩
 ·simp [execOp,ho,Instr.alloc,h1,newVar,Go.newRow]
 ·intro id hid
  exact ⟨jfR h2 id hid ty _ (0,0) (.inl rfl),_,zJ _ _,by simp⟩
theorem make_box (hG:GOk C m) (he:ERel m e t) {sz:Nat} {x:Opd} {x':Operand} {ty:TypeId} (ho:o.op = .box ty x') (hx:opdM C x x'=true) {ob:Obj} {mk:Nat->V}
  (hr:I.make e (.box sz x)=some (ob,mk)):jjk P C m t o ob mk w:=by
 simp only [I.make] at hr
 split at hr
 ·next u hu=>
  cases hr
  have H:=(jab (t:=t) hG he hx hu).cells
  refine ⟨.cells (evT t x').cells ty (0,0),.pointer (some ⟨w.heap.size,0,none⟩),{ w with heap:=w.heap.push (.cells (evT t x').cells ty (0,0)) },u.cells.length,?_,rfl,⟨rfl,rfl,rfl⟩,?_⟩
  ·simp [execOp,ho,Instr.box,newVar,Go.newRow]
  ·intro id hid
   exact ⟨jfR H id hid ty _ (0,0) (.inl rfl),_,zJ _ _,by simp⟩
 ·cases hr
theorem jjH {α : Type} (l:List α) : ∀ (c k:Nat),(List.replicate c l).flatten[k]?=if k<c*l.length then l[k%l.length]? else none
 | 0,k=>by simp
 | c+1,k=>by
  rw [List.replicate_succ,List.flatten_cons,zd]
  by_cases h:k<l.length
  ·rw [zg h,zg (by rw [Nat.add_mul];omega),Nat.mod_eq_of_lt h]
  ·rw [zb h,jjH l c (k-l.length)]
   have:(k-l.length)%l.length=k%l.length:=by rw [<- Nat.mod_eq_sub_mod om]
   rw [this]
   by_cases h2:k-l.length<c*l.length
   ·rw [zg h2,zg (by rw [Nat.add_mul];omega)]
   ·rw [zb h2,zb (by rw [Nat.add_mul];omega)]
theorem jdN (z:Array Value) (c:Nat):((Array.range (c*z.size)).map fun i=>z[i%z.size]!).toList=(List.replicate c z.toList).flatten:=by
 apply List.ext_getElem?
 intro k
 rw [jjH]
 simp only [Array.toList_map,Array.toList_range,List.getElem?_map,Array.length_toList]
 by_cases h:k<c*z.size
 ·rw [zg h,List.getElem?_range h]
  have hz:k%z.size<z.size:=Nat.mod_lt _ (by rcases Nat.eq_zero_or_pos z.size with h0 | h0;(rw [h0] at h;simp at h);exact h0)
  simp [hz]
 ·rw [zb h]
  simp;omega
theorem jah.flat {l:List V} {xs:List Value} (h:jah m l xs) : ∀ c,jah m (List.replicate c l).flatten (List.replicate c xs).flatten
 | 0=>rfl
 | c+1=>by
  rw [List.replicate_succ,List.flatten_cons,List.replicate_succ,List.flatten_cons]
  exact h.append (jah.flat h c)
theorem jkJ {ty:TypeId} (ho:o.op = .makeMap ty none):jjk P C m t o (.map [] 0) (fun b=>.map (some b)) w:=by
 refine ⟨.map #[] 0,.map (some w.heap.size),{ w with heap:=w.heap.push (.map #[] 0) },0,?_,rfl,⟨rfl,rfl,rfl⟩,?_⟩
 ·simp [execOp,ho,Instr.makeMap]
 ·intro id hid
  exact ⟨⟨#[],rfl,rfl⟩,_,zJ _ _,rfl⟩
theorem jhG {n:Int} (h0:0<=n) (h1:n<=2 ^ 46):IntKind.i64.wrap n=n:=by
 exact IntWalk.i64_in n om
theorem jh7 (hT:TOk P C) (hG:GOk C m) (he:ERel m e t) {sz bytes:Nat} {z:List V} {l c:Opd} {l' c':Operand} {ty:TypeId} (ho:o.op = .makeSlice ty l' c') (hl:opdM C l l'=true) (hc:opdM C c c'=true)
  (hu:isU C ty (fun | .slice e=>jaz C e sz&&jez C e bytes&&jb1 C e z&&Nat.beq z.length sz | _=>false)=true) {ob:Obj} {mk:Nat->V}
  (hr:I.make e (.mkSlice sz bytes z l c)=some (ob,mk)):jjk P C m t o ob mk w:=by
 simp only [I.make] at hr
 split at hr
 ·next k1 a k2 b h1 h2=>
  simp only [zt,zm,zA] at hr
  split at hr
  ·next hb=>
   cases hr
   obtain ⟨⟨hab,hcb⟩,hc46⟩:=hb
   have e1:evT t l' = .int k1 (Int.ofNat a):=jab hG he hl h1
   have e2:evT t c' = .int k2 (Int.ofNat b):=jab hG he hc h2
   obtain ⟨u,dd,h3,h4,h5⟩:=ja5 hT hu
   cases u<;>simp at h3
   next el=>
   cases dd<;>simp [jaf] at h5
   next el'=>
   subst h5
   obtain ⟨⟨⟨h6,h7⟩,h8⟩,h9⟩:=h3
   obtain ⟨zv,h10,h11⟩:=jbN hT h8 m
   obtain ⟨info,h12,h13⟩:=jey hT h7
   have hzs:zv.cells.size=sz:=by have:=h11.length;simp at this;omega
   have wa:IntKind.i64.wrap (Int.ofNat a)=(a:Int):=jhG Zb (by simp only [Int.ofNat_eq_natCast];omega)
   have wb:IntKind.i64.wrap (Int.ofNat b)=(b:Int):=jhG Zb (by simp only [Int.ofNat_eq_natCast];omega)
   have hrows:=jdN zv.cells b
   rw [hzs] at hrows
   let cs:Array Value:=if b*sz=0 then #[] else (Array.range (b*sz)).map fun i=>zv.cells[i%zv.cells.size]!
   have hcs:jah m (List.replicate b z).flatten cs.toList:=by
    have:=h11.flat b
    show jah m _ (if b*sz=0 then (#[]:Array Value) else _).toList
    split
    ·next h0=>
     have hlen:(List.replicate b z).flatten.length=0:=by simp;rw [<- h9] at h0;simpa using h0
     rw [zl.1 hlen];rfl
    ·rw [hzs,hrows];exact this
   refine ⟨.cells cs el (0,0),.slice (some ⟨w.heap.size,0,none⟩) a b,{ w with heap:=w.heap.push (.cells cs el (0,0)) },(List.replicate b z).flatten.length,?_,rfl,⟨rfl,rfl,rfl⟩,?_⟩
   ·have hbb:(info.bytes:Int)*(b:Int)=((b*bytes:Nat):Int):=by rw [h13,Nat.mul_comm];simp
    have hbig : ¬ ((info.bytes:Int)*(b:Int)>2 ^ 48):=by rw [hbb];omega
    have hneg : ¬ ((b:Int)<0):=by omega
    have hla : ¬ ((a:Int)<0):=by omega
    have hab' : ¬ ((a:Int)>(b:Int)):=by omega
    simp only [execOp,ho,zF,Instr.makeSlice,zI h4,zG,e1,e2,Go.asInt,asIntOf,zH,typeInfo,run_program,h12,wa,wb]
    simp only [hneg,hbig,hla,hab',decide_false,Bool.or_false,zB,if_false,zF,run_askRoom,zG,jam hT h6,Int.toNat_natCast]
    by_cases h0:b*sz=0
    ·have hr0:Array.range 0 = #[]:=rfl
     simp [h0,cs,Go.newRow,hr0]
    ·simp [h0,cs,Go.newRow,h10,hzs]
   ·intro id hid
    refine ⟨jfR hcs id hid el _ (0,0) (.inl rfl),_,_,b,zJ _ _,rfl,hab,fun _=>rfl,fun k hk=>by cases hk;rfl,fun q hq=>(by cases hq),fun _ _ e=>(by cases e)⟩
  ·cases hr
 ·cases hr
theorem jcL (hG:GOk C m) (he:ERel m e t) {sz:Nat} : ∀ {ps:List (Nat × Opd)} {qs:List (Nat × Operand)} {vs:List (Nat × Nat × V)},jdT C ps qs=true->jaR e (ps.map fun p=>(p.1*sz,sz,p.2))=some vs ->
  jdG m vs (qs.map fun p=>(p.1,evT t p.2)) (fun i=>some (i*sz,sz))
 | [],[],vs,_,h=>by simp [jaR] at h;subst h;trivial
 | [],_ :: _,_,h,_=>by simp [jdT] at h
 | _ :: _,[],_,h,_=>by simp [jdT] at h
 | (i,x) :: r,(j,y) :: s,vs,h,hv=>by
  simp only [jdT,zm,nbeq,zq] at h
  simp only [List.map_cons,jaR] at hv
  split at hv
  ·next a l h1 h2=>
   cases hv
   obtain ⟨⟨rfl,h3⟩,h4⟩:=h
   exact ⟨rfl,jab hG he h3 h1,jcL hG he h4 h2⟩
  ·cases hv
theorem jiJ (hT:TOk P C) (hG:GOk C m) (he:ERel m e t) {sz ln n:Nat} {z:List V} {ps:List (Nat × Opd)} {qs:Array (Nat × Operand)} {ty:TypeId} (ho:o.op = .buildSlice ty n qs) (hn:ln=n)
  (hu:isU C ty (fun | .slice e=>jnW C e n sz z | _=>false)=true) (hp:jdT C ps qs.toList=true) (hbig:n*sz<=2 ^ 24) {ob:Obj} {mk:Nat->V}
  (hr:I.make e (.bslice sz ln z ps)=some (ob,mk)):jjk P C m t o ob mk w:=by
 subst hn
 simp only [I.make] at hr
 split at hr
 ·next vs h1=>
  split at hr
  ·next l h2=>
   cases hr
   obtain ⟨u,dd,h3,h4,h5⟩:=ja5 hT hu
   cases u<;>simp at h3
   next el=>
   cases dd<;>simp [jaf] at h5
   next el'=>
   subst h5
   unfold jnW at h3
   simp only [zm,Bool.or_eq_true] at h3
   obtain ⟨h6,h7⟩:=h3
   have hrow : ∃ zs:Array Value,jah m z zs.toList/\(do
     let zero<-if ln*sz=0 then pure #[] else do pure (<- zeroValue el).cells
     pure ((Array.range (ln*sz)).map (zero[· % zero.size]!)):Sem (Array Value)).run P w = .ok zs w:=by
    rcases h7 with h7 | h7
    ·obtain ⟨h8,h9⟩:=h7
     have h8:=jb7.1 h8
     have:z=[]:=by simpa using h9
     subst this
     exact ⟨#[],rfl,by simp [h8]⟩
    ·split at h7
     ·next i hi=>
      split at h7
      ·next y hy=>
       simp only [zm] at h7
       obtain ⟨h8,h9⟩:=h7
       have h8:=jb7.1 h8
       obtain ⟨info,d,F⟩:=hT.facts hi
       obtain ⟨zv,g1,g2,g3⟩:=F.zero y hy
       have hz : ∀ w,(zeroValue el).run P w = .ok zv w:=fun w=>by simp [zeroValue,typeInfo,F.hinfo,g1]
       have hcells:=(jbj m g2).cells
       have hzs:zv.cells.size=sz:=by have:=hcells.length;simp at this;omega
       rw [<- V.sames_eq h9]
       have hrows:=jdN zv.cells ln
       rw [hzs] at hrows
       by_cases h0:ln*sz=0
       ·refine ⟨#[],?_,by simp [h0]⟩
        have hlen:(List.replicate ln y.cells).flatten.length=0:=by simp;rw [<- h8] at h0;simpa using h0
        rw [zl.1 hlen];rfl
       ·refine ⟨(Array.range (ln*sz)).map fun i=>zv.cells[i%zv.cells.size]!,?_,by simp [h0,hz]⟩
        rw [hzs,hrows];exact hcells.flat ln
      ·cases h7
     ·cases h7
   obtain ⟨zs,hz1,hz2⟩:=hrow
   have hrel:=jcL (t:=t) hG he hp h1
   obtain ⟨ys,h8,h9⟩:=jco hrel hz1 h2
   have hqs:(qs.map fun (i,x)=>(i,evT t x)).toList=qs.toList.map fun p=>(p.1,evT t p.2):=by simp
   refine ⟨.cells ys el (0,0),.slice (some ⟨w.heap.size,0,none⟩) ln ln,{ w with heap:=w.heap.push (.cells ys el (0,0)) },l.length,?_,rfl,⟨rfl,rfl,rfl⟩,?_⟩
   ·simp only [execOp,ho,zF,Instr.buildSlice,zI h4,zG,jam hT h6,Sem.run_ite]
    rw [zb om]
    by_cases h0:ln*sz=0
    ·simp [h0] at hz2
     subst hz2
     simp [h0,h8,Go.newRow]
    ·simp only [h0,if_false,zF] at hz2 ⊢
     cases hzv:(zeroValue el).run P w with
     | halt a b=>rw [hzv] at hz2;simp at hz2
     | ok zv w1=>
      rw [hzv] at hz2
      simp only [zG,zH,Result.ok.injEq] at hz2
      obtain ⟨rfl,rfl⟩:=hz2
      simp only [zG,zH,hqs,h8,zF,Go.newRow,run_newObj]
   ·intro id hid
    refine ⟨jfR h9 id hid el _ (0,0) (.inl rfl),_,_,ln,zJ _ _,rfl,zn _,fun _=>rfl,fun k hk=>by cases hk;rfl,fun q hq=>(by cases hq),fun _ _ e=>(by cases e)⟩
  ·cases hr
 ·cases hr
theorem jjf (w:World) (c:Array Value) (el:TypeId) (n:Nat) :
  ({ w with heap:=w.heap.push (.cells c el (0,0)) } : World).freeze ⟨w.heap.size,n,none⟩ 1 = { w with heap:=w.heap.push (.cells c el (n,n+1)) } := by
 unfold World.freeze
 rw [zb om]
 congr 1
 apply Array.ext'
 simp only [Array.toList_modify,Array.toList_push]
 apply List.ext_getElem?
 intro k
 rw [List.getElem?_modify,zd,zd]
 have hl:w.heap.toList.length=w.heap.size:=by simp
 by_cases h:k<w.heap.toList.length
 ·have hne : ¬ w.heap.size=k:=by omega
  rw [zg h,zg h];simp [hne]
 ·rw [zb h,zb h]
  by_cases h2:k=w.heap.size
  ·subst h2;simp
  ·have:k-w.heap.toList.length≠0:=by omega
   cases hk:k-w.heap.toList.length with
   | zero=>exact zw hk this
   | succ j=>simp
theorem jh6 (hT:TOk P C) (hG:GOk C m) (he:ERel m e t) {x:Opd} {x':Operand} {s d:TypeId} (ho:o.op = .convert s d x') (hx:opdM C x x'=true) (hd:jew C d=true)
  (hs:isU C s (fun | .str=>true | _=>false)=true) {ob:Obj} {mk:Nat->V} (hr:I.make e (.toBytes x)=some (ob,mk)):jjk P C m t o ob mk w:=by
 obtain ⟨el,hd1,hd2⟩:=jdr hT hd
 obtain ⟨u,dd,h2,h3,h4⟩:=ja5 hT hs
 cases u<;>simp at h2
 cases dd<;>simp [jaf] at h4
 simp only [I.make] at hr
 split at hr
 ·next bs h1=>
  simp only [zt,zA] at hr
  split at hr
  ·next hb=>
   cases hr
   have e1:evT t x' = .string ⟨⟨bs⟩⟩:=jab hG he hx h1
   let q:Question := .appendCap bs.length 0 el
   let cap:=q.cut (w.tape w.drawn q)
   have hcap:bs.length<=cap:=by show bs.length<=bs.length+_;omega
   let cs:Array Value:=(⟨bs⟩:Array UInt8).map (fun b=>Value.int .u8 b.toNat)++Array.replicate (cap-bs.length) (.int .u8 0)
   have hsz:cs.size=cap:=by simp [cs];omega
   let w1:World := { w with drawn:=w.drawn+1,heap:=w.heap.push (.cells cs el (cap,cap+1)) }
   refine ⟨.cells cs el (cap,cap+1),.slice (some ⟨w.heap.size,0,none⟩) bs.length cap,w1,cap,?_,rfl,⟨rfl,rfl,rfl⟩,?_⟩
   ·have hss:(ByteArray.mk ⟨bs⟩).size=bs.length:=by simp [ByteArray.size]
    have hch : ∀ w:World,(choose (.appendCap bs.length 0 el)).run P w = .ok ((Question.appendCap bs.length 0 el).cut (w.tape w.drawn (.appendCap bs.length 0 el))) { w with drawn:=w.drawn+1 } := by
     intro w;simp [Question.forced]
    simp only [execOp,ho,zF,convert,zI h3,zI hd1,zG,e1,zI hd2,Conv.stringToBytes,hss,hch,Go.newRow,run_newObj,zH,markStringish,run_shape]
    have hshape:World.shape? { w with drawn:=w.drawn+1,heap:=w.heap.push (.cells cs el (0,0)) } w.heap.size=some (el,cs.size):=by
     simp [World.shape?]
    have hcs:((ByteArray.mk ⟨bs⟩).data.map fun b=>Value.int .u8 b.toNat)++Array.replicate (cap-bs.length) (.int .u8 0)=cs:=rfl
    have hfr:=jjf { w with drawn:=w.drawn+1 } cs el cap
    have hcap':(Question.appendCap bs.length 0 el).cut (w.tape w.drawn (.appendCap bs.length 0 el))=cap:=rfl
    rw [hcap',hcs,hshape,hsz]
    simp only [run_freeze,zG]
    rw [hfr]
   ·intro id hid
    refine ⟨⟨cs,el,cap,cap+1,rfl,by simpa using hcap,by simp [hsz],?_,?_⟩,_,_,cap,zJ _ _,rfl,hcap,fun _=>rfl,(fun k hk=>by cases hk),(fun q hq=>by cases hq;simp),fun _ _ e=>(by cases e)⟩
    ·intro k v hv
     rw [List.getElem?_map] at hv
     cases hk:bs[k]? with
     | none=>rw [hk] at hv;cases hv
     | some b=>
      rw [hk] at hv;cases hv
      have hkl:k<bs.length:=by
       rcases zr k bs.length with hlt | hge
       ·exact hlt
       ·rw [zc hge] at hk;cases hk
      refine ⟨.int .u8 b.toNat,?_,rfl⟩
      simp only [zz,cs]
      rw [Array.getElem?_append,zg (by simpa using hkl)]
      simp [hk]
    ·intro _
     exact .inr Zb
  ·cases hr
 ·cases hr
end
end Am
namespace Am
open Go
section
variable {P:Program} {C:Cx} {N:Nat} {m:Mp} {h h':H} {w:World} {e:Env} {t:Array Value} {o:Oper} {v:V} {call:Am.Call}
def Eff (P:Program) (C:Cx) (N:Nat) (m:Mp) (h:H) (w:World) (t:Array Value) (o:Oper) (v:V) (h':H):Prop :=
 ∃ m' w',Step P C N m h w m' h' w'/\((∃ x,(execOp (evT t) o).run P w = .ok (.value x) w'/\VRel m' v x)\/((execOp (evT t) o).run P w = .ok .skip w'/\v = .undef))
theorem eff_store (hT:TOk P C) (hG:GOk C m) (hr:HRel P C m h w) (he:ERel m e t) {n:Nat} {a x:Opd} {a' x':Operand} {ty:TypeId} (ho:o.op = .store ty a' x') (hs:jaz C ty n=true)
  (ha:opdM C a a'=true) (hx:opdM C x x'=true) (hv:I.eff call e h (.store n a x)=some (v,h')):Eff P C N m h w t o v h':=by
 simp only [I.eff] at hv
 split at hv
 ·next b off u h1 h2=>
  simp only [zt,beq_iff_eq] at hv
  split at hv
  ·next hn=>
   split at hv
   ·next h1' hst=>
    cases hv
    obtain ⟨l,hl,e1⟩:=jab (t:=t) hG he ha h1
    have hu:=jab (t:=t) hG he hx h2
    obtain ⟨w',h3,h4⟩:=jce (N:=N) hr hst hl hu.cells
    refine ⟨m,w',h4,.inr ⟨?_,rfl⟩⟩
    have hlen:(evT t x').cells.size=n:=by have:=hu.cells.length;simp at this;omega
    simp only [execOp,ho,zF,Instr.storeAt,e1,Instr.sureAddr,zH,zG,storeVar,jam hT hs]
    rw [zb (by simp [hlen])]
    simp [h3]
   ·cases hv
  ·cases hv
 ·cases hv
theorem jbm {r c:Nat} {ces:Array MapEntry} (hb:w.heap[r]?=some (.map ces c)) (ob:Go.Obj):(setObj r ob).run P w = .ok () { w with heap:=w.heap.setIfInBounds r ob } := by
 simp [setObj,Sem.run,hb]
theorem jad.set : ∀ {es:List (V × V × Nat)} {ces:List MapEntry} {k v:V} {b:Nat} {ce:MapEntry} (i:Nat),jad m es ces->VRel m k ce.key->VRel m v ce.val->ce.born=b->jad m (es.set i (k,v,b)) (ces.set i ce)
 | [],_,_,_,_,_,_,h,_,_,_=>by rw [show _=[] from h];simp [jad]
 | (_,_,_) :: es,_,k,v,b,ce,0,⟨c0,s,e,h1,h2,h3,h4⟩,g1,g2,g3=>by
  subst e;exact ⟨ce,s,rfl,g1,g2,g3,h4⟩
 | (_,_,_) :: es,_,k,v,b,ce,i+1,⟨c0,s,e,h1,h2,h3,h4⟩,g1,g2,g3=>by
  subst e;exact ⟨c0,_,rfl,h1,h2,h3,jad.set i h4 g1 g2 g3⟩
theorem jad.snoc : ∀ {es:List (V × V × Nat)} {ces:List MapEntry} {k v:V} {b:Nat} {ce:MapEntry},jad m es ces->VRel m k ce.key->VRel m v ce.val->ce.born=b->jad m (es++[(k,v,b)]) (ces++[ce])
 | [],_,_,_,_,_,h,g1,g2,g3=>by rw [show _=[] from h];exact ⟨_,_,rfl,g1,g2,g3,rfl⟩
 | (_,_,_) :: es,_,k,v,b,ce,⟨c0,s,e,h1,h2,h3,h4⟩,g1,g2,g3=>by
  subst e;exact ⟨c0,_,rfl,h1,h2,h3,jad.snoc h4 g1 g2 g3⟩
theorem jad.get : ∀ {es:List (V × V × Nat)} {ces:List MapEntry} {k v:V} {b:Nat} {i:Nat},jad m es ces->es[i]?=some (k,v,b) -> ∃ ce,ces[i]?=some ce/\VRel m k ce.key/\VRel m v ce.val/\ce.born=b
 | [],_,_,_,_,_,_,hi=>by simp at hi
 | (_,_,_) :: es,_,k,v,b,0,⟨c0,s,e,h1,h2,h3,h4⟩,hi=>by
  subst e;simp at hi;obtain ⟨rfl,rfl,rfl⟩:=hi;exact ⟨c0,rfl,h1,h2,h3⟩
 | (_,_,_) :: es,_,k,v,b,i+1,⟨c0,s,e,h1,h2,h3,h4⟩,hi=>by
  subst e;simpa using jad.get h4 (by simpa using hi)
theorem jad.erase : ∀ {es:List (V × V × Nat)} {ces:List MapEntry} (i:Nat),jad m es ces->jad m (es.eraseIdx i) (ces.eraseIdx i)
 | [],_,_,h=>by rw [show _=[] from h];simp [jad]
 | (_,_,_) :: es,_,0,⟨c0,s,e,h1,h2,h3,h4⟩=>by subst e;exact h4
 | (_,_,_) :: es,_,i+1,⟨c0,s,e,h1,h2,h3,h4⟩=>by subst e;exact ⟨c0,_,rfl,h1,h2,h3,jad.erase i h4⟩
theorem jgk (hr:HRel P C m h w) {r c c':Nat} {es es':List (V × V × Nat)} {ces ces':Array MapEntry} {l:Loc} (hg:h.get r=some (.map es c)) (hl:m r=some l) (hb:w.heap[l.β]?=some (.map ces c))
  (hrel:jad m es' ces'.toList):Step P C N m h w m (h.set r (.map es' c')) { w with heap:=w.heap.setIfInBounds l.β (.map ces' c') } := by
 have hlt:l.β < w.heap.size:=hr.lt hg hl
 refine jdB hr hg rfl rfl hl hb (H.get_set h r · _) rfl Zb (by simp [hlt]) (fun j hj=>?_) ⟨rfl,rfl,rfl⟩ ⟨ces',rfl,hrel⟩ (fun L hL=>by cases hL)
 simp only [Array.getElem?_setIfInBounds]
 rw [zb (fun e=>hj e.symm)]
theorem jec {lk:LK} {a b:V} {x y:Value} (ha:VRel m a x) (hb:VRel m b y) (h:jfh lk a b=some true) (n:Nat):Instr.sameBits n y x=true:=by
 unfold jfh at h
 split at h
 ·simp at h;rw [show x=_ from ha,show y=_ from hb];cases n<;>simp [Instr.sameBits,h]
 ·simp only [zt,zm,beq_iff_eq] at h
  split at h
  ·next hk=>
   simp at h
   obtain ⟨rfl,rfl⟩:=hk
   rw [show x=_ from ha,show y=_ from hb];cases n<;>simp [Instr.sameBits,h]
  ·cases h
 ·simp at h
  subst h
  rw [show x=_ from ha,show y=_ from hb]
  have hr : ∀ b:ByteArray,(b == b)=true:=fun b=>by rw [beq_toListBytes];simp
  cases n<;>exact hr _
 ·cases h
theorem jd2 : ∀ {sh:List LK} {a b:List V} {x y:List Value},jah m a x->jah m b y->jat sh a b=some true -> ∀ n,(y.zip x).all (fun p=>Instr.sameBits n p.1 p.2)=true/\x.length=y.length
 | [],[],[],x,y,ha,hb,_,n=>by rw [show x=[] from ha,show y=[] from hb];simp
 | [],[],_ :: _,_,_,_,_,h,_=>by simp [jat] at h
 | [],_ :: _,_,_,_,_,_,h,_=>by simp [jat] at h
 | _ :: _,[],_,_,_,_,_,h,_=>by simp [jat] at h
 | _ :: _,_ :: _,[],_,_,_,_,h,_=>by simp [jat] at h
 | k :: sh,a :: as,b :: bs,x,y,⟨x0,xs,e1,h1,h2⟩,⟨y0,ys,e2,h3,h4⟩,h,n=>by
  subst e1 e2
  simp only [jat] at h
  split at h
  ·next u1 u2 g1 g2=>
   simp at h
   obtain ⟨rfl,rfl⟩:=h
   obtain ⟨q1,q2⟩:=jd2 h2 h4 g2 n
   simp [jec h1 h3 g1 n,q2]
   simpa using q1
  ·cases h
theorem jkR {ks:KS} {a b:V} {x y:Value} (ha:VRel m a x) (hb:VRel m b y) (h:jeI ks a b=some true):Instr.sameBits 10000 y x=true:=by
 unfold jeI at h
 split at h
 ·exact jec ha hb h _
 ·next sh as bs=>
  obtain ⟨xs,rfl,h1⟩:=ha
  obtain ⟨ys,rfl,h2⟩:=hb
  obtain ⟨q1,q2⟩:=jd2 h1 h2 h 9999
  simp at q2
  show (ys.size == xs.size&&(ys.toList.zip xs.toList).all fun (p:Value × Value)=>Instr.sameBits 9999 p.1 p.2)=true
  simp only [zm]
  exact ⟨by simp [q2],q1⟩
 ·cases h
theorem jeu {ks:KS} {k:V} : ∀ {es:List (V × V × Nat)} {i j:Nat} {v:V} {b:Nat},findKey ks k es i=some (some (j,v,b))->i<=j /\ ∃ key,es[j-i]?=some (key,v,b)/\jeI ks k key=some true
 | [],i,j,v,b,h=>by simp [findKey] at h
 | (x,u,born) :: r,i,j,v,b,h=>by
  simp only [findKey] at h
  split at h
  ·next hq=>cases h;exact ⟨zn _,x,by simp,hq⟩
  ·obtain ⟨h1,key,h2,h3⟩:=jeu h
   refine ⟨by omega,key,?_,h3⟩
   rw [show j-i=(j-(i+1))+1 by omega];simpa using h2
  ·cases h
theorem jkH {ces:Array MapEntry} {i:Nat} {ce:MapEntry} (hi:ces.toList[i]?=some ce) (f:MapEntry->MapEntry):(ces.modify i f).toList=ces.toList.set i (f ce):=by
 rw [Array.toList_modify]
 apply List.ext_getElem?
 intro k
 rw [List.getElem?_modify,List.getElem?_set]
 by_cases h:i=k
 ·subst h
  have:i<ces.toList.length:=by
   rcases zr i ces.toList.length with hlt | hge
   ·exact hlt
   ·rw [zc hge] at hi;cases hi
  have h2:i<ces.size:=by simpa using this
  have h3:ces[i]?=some ce:=by rw [<- hi];simp
  have h4:ces[i]=ce:=by rw [Array.getElem?_eq_getElem h2] at h3;simpa using h3
  simp [h2,h4]
 ·simp [h]
theorem jjL (hT:TOk P C) (hG:GOk C m) (hr:HRel P C m h w) (he:ERel m e t) {ks:KS} {a k x:Opd} {a' k' x':Operand} {ty:TypeId} (ho:o.op = .mapUpdate ty a' k' x'\/o.op = .insert ty a' k' x')
  (ha:opdM C a a'=true) (hk:opdM C k k'=true) (hx:opdM C x x'=true) (hu:isU C ty (fun | .map kt _=>ksM C ks kt | _=>false)=true)
  (hv:I.eff call e h (.mput ks a k x)=some (v,h')):Eff P C N m h w t o v h':=by
 obtain ⟨kt,et,hks,h2⟩:=jjB hT hu (fun u hf=>by cases u<;>simp at hf;exact ⟨_,_,rfl⟩)
 dsimp only at hks
 simp only [I.eff] at hv
 split at hv
 ·next r kv xv g1 g2 g3=>
  obtain ⟨l,hl,e1⟩:=jab (t:=t) hG he ha g1
  have hkv:=jab (t:=t) hG he hk g2
  have hxv:=jab (t:=t) hG he hx g3
  split at hv
  ·next es cl hm=>
   obtain ⟨hg,ces,h7,h8⟩:=jiI hr hm hl
   have run : ∀ w',(Instr.mapUpdate ty (evT t a') (evT t k') (evT t x')).run P w = .ok () w'->(execOp (evT t) o).run P w = .ok .skip w':=by
    intro w' hw
    rcases ho with ho | ho<;>simp only [execOp,ho,zF,hw,zG,zH]
   split at hv
   ·next j u b hf=>
    cases hv
    obtain ⟨hc,r',h3,h4⟩:=jbu hT hks hkv w h8 hf
    obtain ⟨_,⟨key,hkey⟩,y,rfl,hy⟩:=h4
    have hf':findKey ks kv es 0=some (some (j,u,b)):=by
     unfold jdq at hf;simp only [zt] at hf;split at hf
     ·exact hf
     ·cases hf
    obtain ⟨_,key',hkey',hq⟩:=jeu hf'
    simp only [Nat.sub_zero] at hkey' hkey
    obtain ⟨ce,h9,h10,h11,h12⟩:=h8.get hkey'
    have hce:ces[j]?=some ce:=by rw [<- h9];simp
    refine ⟨m,_,jgk (ces':=ces.modify j fun e=>{ e with key:=evT t k',val:=evT t x' }) hr hg hl h7 ?_,.inr ⟨run _ ?_,rfl⟩⟩
    ·rw [jkH h9]
     exact h8.set j hkv hxv h12
    ·simp only [Instr.mapUpdate,zF,zI h2,zG,e1,jaC h7,hc,h3,Instr.keyThatStays,hce,Option.map_some,Option.getD_some,jkR hkv h10 hq,if_true,zH,jbm h7]
   ·next hf=>
    cases hv
    obtain ⟨hc,r',h3,h4⟩:=jbu hT hks hkv w h8 hf
    have h4':r'=none:=h4
    subst h4'
    refine ⟨m,_,jgk (ces':=ces.push { key:=evT t k',val:=evT t x',born:=cl }) hr hg hl h7 ?_,.inr ⟨run _ ?_,rfl⟩⟩
    ·rw [Array.toList_push]
     exact h8.snoc hkv hxv rfl
    ·simp only [Instr.mapUpdate,zF,zI h2,zG,e1,jaC h7,hc,h3,jbm h7]
   ·cases hv
  ·cases hv
 ·cases hv
theorem jdA (hG:GOk C m) (he:ERel m e t) {a b:Opd} {c:Go.Call} (hx:ja1 C [a,b] c.args.toList=true) {u z:V} (hu:a.ev e=some u) (hz:b.ev e=some z) :
  ∃ x y,(c.args.map (evT t))[0]?=some x/\(c.args.map (evT t))[1]?=some y/\VRel m u x/\VRel m z y:=by
 obtain ⟨a',b',hargs,ha,hb⟩ : ∃ a' b',c.args.toList=[a',b']/\opdM C a a'=true/\opdM C b b'=true:=by
  match hq:c.args.toList,hx with
  | [a',b'],hx=>simp [ja1] at hx;exact ⟨a',b',rfl,hx.1,hx.2⟩
  | [],hx=>simp [ja1] at hx
  | [_],hx=>simp [ja1] at hx
  | _ :: _ :: _ :: _,hx=>simp [ja1] at hx
 have:(c.args.map (evT t)).toList=[evT t a',evT t b']:=by simp [hargs]
 refine ⟨evT t a',evT t b',?_,?_,jab hG he ha hu,jab hG he hb hz⟩
 ·rw [<- Array.getElem?_toList,this];rfl
 ·rw [<- Array.getElem?_toList,this];rfl
theorem eff_mdel (hT:TOk P C) (hG:GOk C m) (hr:HRel P C m h w) (he:ERel m e t) {ks:KS} {a k:Opd} {c:Go.Call} (ho:o.op = .call c) (hc:c.callee = .builtin .delete) (hx:ja1 C [a,k] c.args.toList=true)
  (hA:argT C c.argTypes 0 (fun | .map kt _=>ksM C ks kt | _=>false)=true) (hv:I.eff call e h (.mdel ks a k)=some (v,h')):Eff P C N m h w t o v h':=by
 obtain ⟨ty,u,dd,h1,h2,h3,h4⟩:=jgH hT hA
 cases u<;>simp at h2
 cases dd<;>simp [jaf] at h4
 obtain ⟨rfl,rfl⟩:=h4
 have run : ∀ w',(Builtin.delete_ c.argTypes o.type (c.args.map (evT t))).run P w = .ok (.tuple #[]) w'->(execOp (evT t) o).run P w = .ok (.value (.tuple #[])) w':=by
  intro w' hw
  simp only [execOp,ho,zF,resolve,hc,zG,zH,invoke,builtin,hw]
 simp only [I.eff] at hv
 split at hv
 ·next kv g1 g2=>
  obtain ⟨x,y,h5,h6,h7,h8⟩:=jdA (t:=t) hG he hx g1 g2
  rw [show x = .map none from h7] at h5
  split at hv
  ·next r hf=>
   cases hv
   obtain ⟨hck,_⟩:=jbu hT h2 h8 w (es:=[]) (ces:=[]) rfl hf
   refine ⟨m,w,Step.refl N hr,.inl ⟨.tuple #[],run _ ?_,#[],rfl,rfl⟩⟩
   simp only [Builtin.delete_,h1,h5,h6,zF,zI h3,zG,hck,zH]
  ·cases hv
 ·next r kv g1 g2=>
  obtain ⟨x,y,h5,h6,⟨l,hl,rfl⟩,h8⟩:=jdA (t:=t) hG he hx g1 g2
  split at hv
  ·next es cl hm=>
   obtain ⟨hg,ces,h9,h10⟩:=jiI hr hm hl
   split at hv
   ·next j uu b hf=>
    cases hv
    obtain ⟨hck,r',h11,h12⟩:=jbu hT h2 h8 w h10 hf
    obtain ⟨_,_,z,rfl,hz⟩:=h12
    refine ⟨m,_,jgk (ces':=ces.eraseIdxIfInBounds j) (c':=cl) hr hg hl h9 ?_,.inl ⟨.tuple #[],run _ ?_,#[],rfl,rfl⟩⟩
    ·rw [Array.toList_eraseIdxIfInBounds]
     exact h10.erase j
    ·simp only [Builtin.delete_,h1,h5,h6,zF,zI h3,zG,jaC h9,hck,h11,jbm h9,zH]
   ·next hf=>
    cases hv
    obtain ⟨hck,r',h11,h12⟩:=jbu hT h2 h8 w h10 hf
    have h4':r'=none:=h12
    subst h4'
    have hset : { w with heap:=w.heap.setIfInBounds l.β (Go.Obj.map ces cl) } = w:=by
     have:w.heap.setIfInBounds l.β (Go.Obj.map ces cl)=w.heap:=by
      apply Array.ext_getElem?
      intro k
      rw [Array.getElem?_setIfInBounds]
      split
      ·next e=>
       subst e;split
       ·exact h9.symm
       ·next hlt=>rw [zD om]
      ·rfl
     rw [this]
    refine ⟨m,w,Step.refl N hr,.inl ⟨.tuple #[],run _ ?_,#[],rfl,rfl⟩⟩
    simp only [Builtin.delete_,h1,h5,h6,zF,zI h3,zG,jaC h9,hck,h11,jbm h9,zH,hset]
   ·cases hv
  ·cases hv
 ·cases hv
end
end Am
namespace Am
open Go
section
variable {P:Program} {C:Cx} {N:Nat} {m:Mp} {h h':H} {w:World} {e:Env} {t:Array Value} {o:Oper} {v:V} {call:Am.Call}
theorem jhA {x:V} {y:Value} {n:Nat} (hx:VRel m x y) (hn:lenOf x=some n):(Builtin.lenOf y).run P w = .ok n w:=by
 cases x with
 | slice a k c=>
  simp [lenOf] at hn;subst hn
  cases a with
  | none=>obtain ⟨rfl,_,rfl⟩:=hx;rfl
  | some a=>obtain ⟨_,_,_,_,rfl,_⟩:=hx;rfl
 | str s=>
  simp [lenOf] at hn;subst hn
  rw [show y=_ from hx]
  simp [Builtin.lenOf,ByteArray.size]
 | _=>simp [lenOf] at hn
theorem jjj (s:List UInt8) (n:Nat):jah m ((s.take n).map jlb) (((ByteArray.mk ⟨s⟩).extract 0 n).data.map fun b=>Value.int .u8 b.toNat).toList:=by
 have:((ByteArray.mk ⟨s⟩).extract 0 n).data.toList=s.take n:=by simp [ByteArray.data_extract]
 rw [Array.toList_map,this]
 generalize s.take n=l
 induction l with
 | nil=>rfl
 | cons b l ih=>exact ⟨_,_,rfl,rfl,ih⟩
theorem jbD (hr:HRel P C m h w) {sz n k:Nat} {x:V} {y:Value} {l:List V} (hx:VRel m x y) (hl:jaT h sz n x=some l) (hk:lenOf x=some k) (hn:n<=k) :
  ∃ xs:Array Value,(Builtin.firstCells sz n y).run P w = .ok xs w/\jah m l xs.toList:=by
 unfold jaT at hl
 split at hl
 ·cases hl
  obtain ⟨_,_,rfl⟩:=hx
  exact ⟨#[],rfl,rfl⟩
 ·next b off len cp=>
  obtain ⟨loc,o',c',h1,rfl,h2,h3,_⟩:=hx
  simp [lenOf] at hk;subst hk
  simp only [zt,beq_iff_eq] at hl
  split at hl
  ·next h0=>
   cases hl
   refine ⟨#[],?_,rfl⟩
   simp [Builtin.firstCells,h0,loadCells,loadCellsFrom]
  ·next h0=>
   have hc:c'≠0:=by
    intro hc;subst hc
    have:n=0:=by omega
    subst this;simp at h0
   have ho':=h3 hc
   obtain ⟨xs,h5,h6⟩:=jgl hr hl h1
   exact ⟨xs,by simp only [Builtin.firstCells,ho',h5],h6⟩
 ·next s=>
  simp only [zt,beq_iff_eq] at hl
  split at hl
  ·next h1=>
   cases hl
   rw [show y=_ from hx]
   exact ⟨_,rfl,jjj s n⟩
  ·cases hl
 ·cases hl
theorem jc7 (hT:TOk P C) {ts:Array TypeId} {f:TypeId->Bool} (h:jcl C ts f=true) : ∃ ty el,ts[0]?=some ty/\f el=true/\P.underlying ty=some (.slice el):=by
 unfold jcl at h
 split at h
 ·next ty hty=>
  obtain ⟨u,dd,h1,h2,h3⟩:=ja5 hT h
  cases u<;>simp at h1
  cases dd<;>simp [jaf] at h3
  subst h3
  exact ⟨ty,_,hty,h1,h2⟩
 ·cases h
theorem jdu (hT:TOk P C) {ts:Array TypeId} (h:jdb C ts=true):ts[1]?=none \/ ∃ ty d,ts[1]?=some ty/\P.underlying ty=some d/\(match d with | .int _=>true | _=>false)=false:=by
 unfold jdb at h
 split at h
 ·next ty hty=>
  obtain ⟨u,dd,h1,h2,h3⟩:=ja5 hT h
  refine .inr ⟨ty,dd,hty,h2,?_⟩
  cases u<;>cases dd<;>simp_all [jaf]
 ·next hty=>exact .inl hty
theorem jjW (hT:TOk P C) {el:TypeId} {sz:Nat} (h:jgK C el sz=true) : ∃ zv,(∀ w,(zeroValue el).run P w = .ok zv w)/\zv.cells.size=sz:=by
 unfold jgK at h
 split at h
 ·next i hi=>
  split at h
  ·next y hy=>
   obtain ⟨info,d,F⟩:=hT.facts hi
   obtain ⟨zv,g1,g2,g3⟩:=F.zero y hy
   refine ⟨zv,fun w=>by simp [zeroValue,typeInfo,F.hinfo,g1],?_⟩
   have:=(jbj (fun _=>none) g2).cells.length
   simp at this
   have:=jb7.1 h
   omega
  ·cases h
 ·cases h
theorem jaE {c:Go.Call} {ty el:TypeId} {sz:Nat} {base:Option Addr} {sl sc n:Nat} {y:Value} {xs:Array Value} (hT:TOk P C) (h0:c.argTypes[0]?=some ty) (hu:P.underlying ty=some (.slice el))
  (hsz:jaz C el sz=true) (hni:jdb C c.argTypes=true) (a0:(c.args.map (evT t))[0]?=some (.slice base sl sc)) (a1:(c.args.map (evT t))[1]?=some y) (hlen:(Builtin.lenOf y).run P w = .ok n w)
  (hfc:(Builtin.firstCells sz n y).run P w = .ok xs w) (hfit:sl+n<=sc) {w':World} (hst:(match base with
   | some a=>storeCells (a.add (sl*sz)) xs.toList
   | none=>pure ():Sem Unit).run P w = .ok () w'):(Builtin.append_ c.argTypes o.type (c.args.map (evT t))).run P w = .ok (.slice base (sl+n) sc) w':=by
 unfold Builtin.append_
 simp only [h0,a0,a1,zF,zI hu,zG,jam hT hsz]
 rcases jdu hT hni with g1 | ⟨ty2,d,g1,g2,g3⟩
 ·simp only [g1,zF,zH,zG,zB,if_false,hlen,Bool.not_false,if_true,hfit,hfc]
  cases base with
  | none=>simp only [zH] at hst;cases hst;rfl
  | some a=>simp only at hst;simp only [zF,hst,zG,zH]
 ·cases d
  case int k=>exact Bool.noConfusion g3
  all_goals
   simp only [g1,zF,zI g2,zH,zG,zB,if_false,hlen,Bool.not_false,if_true,hfit,hfc]
   cases base with
   | none=>simp only [zH] at hst;cases hst;rfl
   | some a=>simp only at hst;simp only [zF,hst,zG,zH]
theorem jcf {c:Go.Call} {ty el:TypeId} {sz bytes:Nat} {base:Option Addr} {sl sc n:Nat} {y:Value} {xs ol:Array Value} (hT:TOk P C) (h0:c.argTypes[0]?=some ty) (hu:P.underlying ty=some (.slice el))
  (hsz:jaz C el sz=true) (hby:jez C el bytes=true) (hb0:bytes≠0) (hzs:jgK C el sz=true) (hni:jdb C c.argTypes=true)
  (a0:(c.args.map (evT t))[0]?=some (.slice base sl sc)) (a1:(c.args.map (evT t))[1]?=some y) (hlen : ∀ w,(Builtin.lenOf y).run P w = .ok n w)
  (hfc1:(Builtin.firstCells sz n y).run P { w with drawn:=w.drawn+1 } = .ok xs { w with drawn:=w.drawn+1 })
  (hfo1:(Builtin.firstCells sz sl (.slice base sl sc)).run P { w with drawn:=w.drawn+1 } = .ok ol { w with drawn:=w.drawn+1 }) (hfit : ¬ sl+n<=sc)
  (hbig:(sl+n)*bytes<=2 ^ 46) (hbig2:sl+n<=2 ^ 46) (hol:ol.size=sl*sz) (hxs:xs.size=n*sz) :
  ∃ cap w' rest,(Builtin.append_ c.argTypes o.type (c.args.map (evT t))).run P w = .ok (.slice (some ⟨w.heap.size,0,none⟩) (sl+n) cap) w'/\sl+n<=cap/\w'.heap=w.heap.push (.cells (ol++xs++rest) el (0,0))/\WSame w w' /\
   (ol++xs++rest).size=cap*sz:=by
 obtain ⟨info,hi1,hi2⟩:=jey hT hby
 obtain ⟨zv,hz1,hz2⟩:=jjW hT hzs
 let q:Question := .appendCap (sl+n) sc el
 let cap:=q.cut (w.tape w.drawn q)
 have hcap:sl+n<=cap:=by show sl+n<=sl+n+_;omega
 let rest:=Builtin.zeroCells zv.cells (cap-(sl+n))
 let w1:World := { w with drawn:=w.drawn+1 }
 refine ⟨cap,{ w1 with heap:=w.heap.push (.cells (ol++xs++rest) el (0,0)) },rest,?_,hcap,rfl,⟨rfl,rfl,rfl⟩,?_⟩
 ·have hch : ∀ w:World,(choose (.appendCap (sl+n) sc el)).run P w = .ok ((Question.appendCap (sl+n) sc el).cut (w.tape w.drawn (.appendCap (sl+n) sc el))) { w with drawn:=w.drawn+1 } := by
   intro w;simp [Question.forced]
  have hti : ∀ w,(typeInfo el).run P w = .ok info w:=fun w=>by simp [typeInfo,hi1]
  have hg:=growslice_fits (need:=sl+n) (old:=sc) (bytes:=info.bytes) om (by rw [hi2];omega)
  have hm : ¬ (((sl+n:Nat):Int)>IntKind.i64.max):=by rw [IntKind.max_i64];omega
  have hb0':info.bytes≠0:=by rw [hi2];exact hb0
  have hg' : ¬ (Builtin.nextslicecap (sl+n) sc*info.bytes>2 ^ 48):=by omega
  unfold Builtin.append_
  simp only [h0,a0,a1,zF,zI hu,zG,jam hT hsz]
  rcases jdu hT hni with g1 | ⟨ty2,d,g1,g2,g3⟩
  ·simp only [g1,zF,zH,zG,zB,if_false,hlen,Bool.not_false,if_true,hfit,hti,false_or,hb0',and_false,hg',hch,run_askRoom]
   rw [hfo1]
   simp only [zG]
   rw [hfc1]
   simp only [zG,hz1,Go.newRow,zF,run_newObj,zH]
   rfl
  ·cases d
   case int k=>exact Bool.noConfusion g3
   all_goals
    simp only [g1,zF,zI g2,zH,zG,zB,if_false,hlen,Bool.not_false,if_true,hfit,hti,false_or,hb0',and_false,hg',hch,run_askRoom]
    rw [hfo1]
    simp only [zG]
    rw [hfc1]
    simp only [zG,hz1,Go.newRow,zF,run_newObj,zH]
    rfl
 ·have:rest.size=(cap-(sl+n))*sz:=by show (Builtin.zeroCells _ _).size=_;rw [size_zeroCells,hz2]
  simp only [Array.size_append,hol,hxs,this]
  have:sl*sz+n*sz+(cap-(sl+n))*sz=cap*sz:=by
   rw [<- Nat.add_mul,<- Nat.add_mul];congr 1;omega
  exact this
theorem step_move {b id d:Nat} {l:List V} {ob:Obj} {loc:Loc} {co co':Go.Obj} {h':H} {w':World} (hr:HRel P C m h w) (hb:h.get b=some (.cells l false)) (hl:m b=some loc) (hN:N<=id) (hid:m id=none) (hgid:h.get id=none)
  (hget : ∀ j,h'.get j=if j=id then some ob else if j=b then none else h.get j) (hnx:h.nx<=h'.nx) (hlt:id<h'.nx) (hsz:w'.heap.size=w.heap.size) (hco:w.heap[loc.β]?=some co) (hβ : w'.heap[loc.β]?=some co')
  (hoth : ∀ j,j≠loc.β -> w'.heap[j]?=w.heap[j]?) (hs:WSame w w') (ho:ORel P C (m.add id ⟨loc.β,loc.d+d,loc.ext-d⟩) ⟨loc.β,loc.d+d,loc.ext-d⟩ ob co') (hnl : ∀ L:Loop,co ≠ .loop L) :
  Step P C N m h w (m.add id ⟨loc.β,loc.d+d,loc.ext-d⟩) h' w':=by
 have hm:=Mp.add_mono (l:=⟨loc.β,loc.d+d,loc.ext-d⟩) hid
 have hbid:b≠id:=by intro e;subst e;rw [hl] at hid;cases hid
 have hβlt:=hr.lt hb hl
 refine ⟨hm,?_,⟨?_,?_,?_⟩,hnx,?_,by rw [hsz];exact zn _,?_,?_,hs.os,hs.tape,hs.output⟩
 ·intro j hj e
  unfold Mp.add;rw [zb om];exact e
 ·intro j oj hj
  rw [hget] at hj
  split at hj
  ·next e=>cases hj;subst e;exact ⟨_,co',zJ _ _,hβ,ho⟩
  ·split at hj
   ·cases hj
   ·next hne=>
    obtain ⟨lj,coj,h1,h2,h3⟩:=hr.obj j oj hj
    refine ⟨lj,coj,hm _ _ h1,?_,h3.mono hm⟩
    rw [hoth]
    ·exact h2
    ·intro e2
     have:=hr.inj j b oj _ lj loc hj hb hne h1 hl e2
     cases this.2
 ·intro j k oj ok lj lk hj hk hne h1 h2 h3
  rw [hget] at hj hk
  unfold Mp.add at h1 h2
  split at hj
  ·next e=>
   rw [zg e] at h1;cases h1
   rw [zb om] at hk h2
   split at hk
   ·cases hk
   ·next hkb=>
    have:=hr.inj b k _ ok loc lk hb hk (Ne.symm hkb) hl h2 h3
    cases this.1
  ·next e=>
   rw [zb e] at h1
   split at hj
   ·cases hj
   ·next hjb=>
    split at hk
    ·next e'=>
     rw [zg e'] at h2;cases h2
     have:=hr.inj j b oj _ lj loc hj hb hjb h1 hl h3
     cases this.2
    ·next e'=>
     rw [zb e'] at h2
     split at hk
     ·cases hk
     ·exact hr.inj j k oj ok lj lk hj hk hne h1 h2 h3
 ·intro j lj hj
  unfold Mp.add at hj
  split at hj
  ·next e=>subst e;exact hlt
  ·have:=hr.dom j lj hj
   omega
 ·intro j hj e
  rw [hget,zb om];split
  ·rfl
  ·exact e
 ·intro β hβ' hno
  have hne : β ≠ loc.β := fun e=>hno ⟨b,_,loc,hb,rfl,hl,e.symm⟩
  refine ⟨hoth β hne,?_⟩
  rintro ⟨j,oj,lj,h1,h2,h3,h4⟩
  rw [hget] at h1
  unfold Mp.add at h3
  split at h1
  ·next e=>rw [zg e] at h3;cases h3;exact hne h4.symm
  ·next e=>
   rw [zb e] at h3
   split at h1
   ·cases h1
   ·exact hno ⟨j,oj,lj,h1,h2,h3,h4⟩
 ·intro β L hL
  by_cases e : β = loc.β
  ·subst e;rw [hco] at hL;cases hL;exact zw rfl (hnl L)
  ·exact ⟨L,by rw [hoth β e];exact hL⟩
end
end Am
namespace Am
open Go
section
variable {P:Program} {C:Cx} {N:Nat} {m:Mp} {h h':H} {w:World} {e:Env} {t:Array Value} {o:Oper} {v:V} {call:Am.Call}
theorem HRel.of_heap {w':World} (hr:HRel P C m h w) (hw:w'.heap=w.heap):HRel P C m h w' :=
 ⟨fun b o hb=>let ⟨l,co,h1,h2,h3⟩:=hr.obj b o hb;⟨l,co,h1,by rw [hw];exact h2,h3⟩,hr.inj,hr.dom⟩
theorem HRel.nofuture (hr:HRel P C m h w) {b:Nat} (hb:h.nx<=b):m b=none/\h.get b=none:=by
 have h1:m b=none:=by
  cases e:m b with
  | none=>rfl
  | some l=>have:=hr.dom b l e;omega
 refine ⟨h1,?_⟩
 cases e:h.get b with
 | none=>rfl
 | some o=>obtain ⟨l,co,h2,_⟩:=hr.obj b o e;rw [h1] at h2;cases h2
theorem jb2 {h:H} {sz n k:Nat} {x:V} {l:List V} (hl:jaT h sz n x=some l) (hk:lenOf x=some k) (hn:n<=k) (hx : ∀ c,x = .slice none k c->k=0):l.length=n*sz:=by
 unfold jaT at hl
 split at hl
 ·cases hl;simp [lenOf] at hk;subst hk
  have:=hx _ rfl
  subst this
  have:n=0:=by omega
  simp [this]
 ·simp only [zt,beq_iff_eq] at hl
  split at hl
  ·next h0=>cases hl;simp [h0]
  ·exact jdZ hl
 ·simp only [zt,beq_iff_eq] at hl
  split at hl
  ·next h1=>cases hl;simp [lenOf] at hk;subst hk;simp [h1];omega
  ·cases hl
 ·cases hl
theorem jjw {l:List V} {xs rest:Array Value} (hl:jah m l xs.toList) {id:Nat} (hid:m id=none) (el:TypeId) (β ext:Nat) (hext:ext=xs.size+rest.size) :
  ORel P C (m.add id ⟨β,0,ext⟩) ⟨β,0,ext⟩ (.cells l false) (.cells (xs++rest) el (0,0)):=by
 have hlen:=hl.length
 simp at hlen
 refine ⟨_,el,0,0,rfl,by simp;omega,by simp;omega,?_,?_⟩
 ·intro k v hv
  obtain ⟨x,hx,hvx⟩:=hl.get hv
  have hk:k<xs.size:=by
   rcases zr k xs.toList.length with hlt | hge
   ·simpa using hlt
   ·rw [zc hge] at hx;cases hx
  refine ⟨x,?_,hvx.mono (Mp.add_mono hid)⟩
  simp only [zz]
  rw [Array.getElem?_append,zg hk,<- hx];simp
 ·intro _;exact .inl rfl
theorem jkX (hT:TOk P C) (hG:GOk C m) (hr:HRel P C m h w) (he:ERel m e t) (hN:N<=h.nx) {sz bytes:Nat} {a b:Opd} {c:Go.Call} (ho:o.op = .call c) (hc:c.callee = .builtin .append) (hx:ja1 C [a,b] c.args.toList=true)
  (hni:jdb C c.argTypes=true) (hE:jcl C c.argTypes (fun e=>jaz C e sz&&jez C e bytes && !(Nat.beq bytes 0)&&jgK C e sz)=true)
  (hv:I.eff call e h (.append sz bytes a b)=some (v,h')):Eff P C N m h w t o v h':=by
 obtain ⟨ty,el,g0,gE,gu⟩:=jc7 hT hE
 simp only [zm,Bool.not_eq_true',nbeq,decide_eq_false_iff_not] at gE
 obtain ⟨⟨⟨hsz,hby⟩,hb0⟩,hzs⟩:=gE
 have fin : ∀ x w',(Builtin.append_ c.argTypes o.type (c.args.map (evT t))).run P w = .ok x w'->(execOp (evT t) o).run P w = .ok (.value x) w':=by
  intro x w' hw
  simp only [execOp,ho,zF,resolve,hc,zG,zH,invoke,builtin,hw]
 simp only [I.eff] at hv
 split at hv
 ·next av bv g1 g2=>
  obtain ⟨x,y,a0,a1,hxr,hyr⟩:=jdA (t:=t) hG he hx g1 g2
  unfold jb8 at hv
  split at hv
  ·cases hv
  next n hn=>
  split at hv
  ·cases hv
  next new hnew=>
  split at hv
  case h_2=>cases hv
  next base ln cap=>
  simp only [zt,zm,zA] at hv
  split at hv
  case isFalse=>cases hv
  next hbig=>
  obtain ⟨hbig,hbig2⟩:=hbig
  have hlen : ∀ w,(Builtin.lenOf y).run P w = .ok n w:=fun w=>jhA hyr hn
  obtain ⟨xs,hfc,hxs⟩:=jbD hr hyr hnew hn (zn _)
  have hnl:new.length=n*sz:=jb2 hnew hn (zn _) (fun c' hc'=>by subst hc';exact hyr.1)
  have hxsz:xs.size=n*sz:=by have:=hxs.length;simp at this;omega
  let w1:World := { w with drawn:=w.drawn+1 }
  have hr1:HRel P C m h w1:=hr.of_heap rfl
  obtain ⟨xs1,hfc1,hxs1⟩:=jbD (w:=w1) hr1 hyr hnew hn (zn _)
  have hxsz1:xs1.size=n*sz:=by have:=hxs1.length;simp at this;omega
  have hfut:=hr.nofuture (zn h.nx)
  split at hv
  ·
   next h0=>
   cases hv
   have h0:n=0:=by simpa using h0
   subst h0
   have hxe:xs.toList=[]:=by
    have:xs.size=0:=by omega
    simpa using this
   cases base with
   | none=>
    obtain ⟨h1,h2,rfl⟩:=hxr
    subst h1 h2
    refine ⟨m,w,Step.refl N hr,.inl ⟨_,fin _ _ (jaE hT g0 gu hsz hni a0 a1 (hlen w) hfc (zn _) rfl),rfl,rfl,rfl⟩⟩
   | some p=>
    obtain ⟨loc,o',c',h1,rfl,h2,h3⟩:=hxr
    refine ⟨m,w,Step.refl N hr,.inl ⟨_,fin _ _ (jaE hT g0 gu hsz hni a0 a1 (hlen w) hfc om (by simp [hxe,storeCells])),loc,o',c',h1,rfl,h2,h3⟩⟩
  next h0=>
  have hn0:n≠0:=by simpa using h0
  have grow : ∀ (ol:Array Value) (old:List V) (base':Option Addr) (sl sc:Nat),(c.args.map (evT t))[0]?=some (.slice base' sl sc)->ln=sl -> ¬ sl+n<=sc->(Builtin.firstCells sz sl (.slice base' sl sc)).run P w1 = .ok ol w1 ->
    jah m old ol.toList->ol.size=sl*sz -> ∃ m' w',Step P C N m h w m' (h.new (.cells (old++new) false)) w' /\
     ∃ x,(execOp (evT t) o).run P w = .ok (.value x) w'/\VRel m' (.slice (some (h.nx,0)) (ln+n) (.grow sz)) x:=by
   intro ol old base' sl sc a0' hls hnf hfo1 hold hol
   subst hls
   obtain ⟨cap,w',rest,k1,k2,k3,k4,k5⟩:=jcf (o:=o) hT g0 gu hsz hby hb0 hzs hni a0' a1 hlen hfc1 hfo1 hnf hbig hbig2 hol hxsz1
   have hrow:ORel P C (m.add h.nx ⟨w.heap.size,0,(ol++xs1).size+rest.size⟩) ⟨w.heap.size,0,(ol++xs1).size+rest.size⟩ (.cells (old++new) false) (.cells (ol++xs1++rest) el (0,0)) :=
    jjw (by rw [Array.toList_append];exact hold.append hxs1) hfut.1 el _ _ rfl
   refine ⟨_,w',jcB hr hN hfut.1 hfut.2 (fun j=>H.get_new h j _) Zb Zb k3 k4 hrow,_,fin _ _ k1,_,_,cap,zJ _ _,rfl,k2,fun _=>rfl,(fun k hk=>by cases hk),(fun q hq=>?_),fun _ _ e=>(by cases e)⟩
   cases hq
   show 0+cap*sz<=(ol++xs1).size+rest.size
   simp only [Array.size_append] at k5 ⊢
   omega
  have growk : ∀ (bk:Nat) (ol:Array Value) (old:List V) (base':Option Addr) (sl sc:Nat),(c.args.map (evT t))[0]?=some (.slice base' sl sc)->ln=sl -> ¬ sl+n<=sc->(Builtin.firstCells sz sl (.slice base' sl sc)).run P w1 = .ok ol w1 ->
    jah m old ol.toList->ol.size=sl*sz -> ∃ m' w',Step P C N m h w m' ((h.kill bk).new (.cells (old++new) false)) w' /\
     ∃ x,(execOp (evT t) o).run P w = .ok (.value x) w'/\VRel m' (.slice (some (h.nx,0)) (ln+n) (.grow sz)) x:=by
   intro bk ol old base' sl sc a0' hls hnf hfo1 hold hol
   subst hls
   obtain ⟨cap,w',rest,k1,k2,k3,k4,k5⟩:=jcf (o:=o) hT g0 gu hsz hby hb0 hzs hni a0' a1 hlen hfc1 hfo1 hnf hbig hbig2 hol hxsz1
   have hrow:ORel P C (m.add h.nx ⟨w.heap.size,0,(ol++xs1).size+rest.size⟩) ⟨w.heap.size,0,(ol++xs1).size+rest.size⟩ (.cells (old++new) false) (.cells (ol++xs1++rest) el (0,0)) :=
    jjw (by rw [Array.toList_append];exact hold.append hxs1) hfut.1 el _ _ rfl
   have hk:=jhj (N:=N) (b:=bk) hr
   have hfk:=hk.rel.nofuture (zn (h.kill bk).nx)
   refine ⟨_,w',hk.trans (jcB hk.rel (by simpa using hN) hfk.1 hfk.2 (fun j=>H.get_new _ j _) Zb Zb k3 k4 hrow),_,fin _ _ k1,_,_,cap,zJ _ _,rfl,k2,fun _=>rfl,(fun k hk=>by cases hk),(fun q hq=>?_),fun _ _ e=>(by cases e)⟩
   cases hq
   show 0+cap*sz<=(ol++xs1).size+rest.size
   simp only [Array.size_append] at k5 ⊢
   omega
  cases base with
  | none=>
   obtain ⟨rfl,rfl,rfl⟩:=hxr
   cases hv
   obtain ⟨m',w',s1,x,s2,s3⟩:=grow #[] [] none 0 0 a0 rfl om rfl rfl Zb
   simp only [List.nil_append,zz] at s1 s3
   exact ⟨m',w',s1,.inl ⟨x,s2,s3⟩⟩
  | some p=>
   obtain ⟨bk,off⟩:=p
   obtain ⟨loc,o',c',h1,rfl,h2,h3,h4,h5⟩:=hxr
   have oldc : ∀ old:List V,(bif ln*sz == 0 then some [] else h.load bk off (ln*sz))=some old -> ∃ ol:Array Value,(Builtin.firstCells sz ln (.slice (some o') ln c')).run P w1 = .ok ol w1/\jah m old ol.toList/\ol.size=ln*sz:=by
    intro old ho
    have hs:jaT h sz ln (.slice (some (bk,off)) ln cap)=some old:=ho
    obtain ⟨ol,q1,q2⟩:=jbD (w:=w1) hr1 (x := .slice (some (bk,off)) ln cap) (y := .slice (some o') ln c') ⟨loc,o',c',h1,rfl,h2,h3,h4,h5⟩ hs rfl (zn _)
    have:=jb2 hs rfl (zn _) (fun c hc=>by cases hc)
    exact ⟨ol,q1,q2,by have:=q2.length;simp at this;omega⟩
   cases cap with
   | fix k=>
    have hk:=h4 k rfl
    subst hk
    dsimp only at hv
    split at hv
    ·next hfit=>
     split at hv
     ·next hh hst=>
      cases hv
      have ho':=h3 om
      obtain ⟨w',q1,q2⟩:=jce (N:=N) hr hst h1 hxs
      refine ⟨m,w',q2,.inl ⟨_,fin _ _ (jaE hT g0 gu hsz hni a0 a1 (hlen w) hfc hfit ?_),loc,o',c',h1,rfl,hfit,h3,h4,h5⟩⟩
      simp only [ho',jbf]
      rw [Nat.add_assoc];exact q1
     ·cases hv
    ·next hfit=>
     split at hv
     ·next old hold=>
      cases hv
      obtain ⟨ol,q1,q2,q3⟩:=oldc old (by simpa [zt] using hold)
      obtain ⟨m',w',s1,x,s2,s3⟩:=grow ol old _ ln c' a0 rfl hfit q1 q2 q3
      exact ⟨m',w',s1,.inl ⟨x,s2,s3⟩⟩
     ·cases hv
   | least q k=>
    dsimp only at hv
    split at hv
    ·next hq=>
     have hfit:ln+n<=c':=zu hq.2 (h5.2 _ _ rfl).1
     split at hv
     ·next hh hst=>
      cases hv
      have ho':=h3 om
      obtain ⟨w',q1,q2⟩:=jce (N:=N) hr hst h1 hxs
      refine ⟨m,w',q2,.inl ⟨_,fin _ _ (jaE hT g0 gu hsz hni a0 a1 (hlen w) hfc hfit ?_),loc,o',c',h1,rfl,hfit,h3,h4,h5⟩⟩
      simp only [ho',jbf]
      rw [Nat.add_assoc];exact q1
     ·cases hv
    ·cases hv
   | grow q=>
    dsimp only at hv
    split at hv
    ·next l hb=>
     simp only [zt,zm,zA,nbeq,zq] at hv
     split at hv
     ·next hq=>
      cases hv
      obtain ⟨⟨rfl,hle⟩,hall⟩:=hq
      have h5:=h5.1 _ rfl
      by_cases hfit:ln+n<=c'
      ·
       have ho':=h3 om
       obtain ⟨loc',co,k1,k2,cc,elem,lo,hi,rfl,k3,k4,k5,k6⟩:=hr.obj bk _ hb
       rw [h1] at k1;cases k1
       have hone : ∀ z∈xs.toList,z.oneCell'=true:=by
        intro z hz
        obtain ⟨k,hk⟩:=List.getElem?_of_mem hz
        have hkl:k<new.length:=by
         rw [hxs.length]
         rcases zr k xs.toList.length with hlt | hge
         ·exact hlt
         ·rw [zc hge] at hk;cases hk
        obtain ⟨x,hx,hvx⟩:=hxs.get (za hkl)
        rw [hk] at hx;cases hx
        rw [<- hvx.one]
        exact zC.1 hall _ (List.getElem_mem hkl)
       have hcap:(ln+n)*q<=c'*q:=Nat.mul_le_mul_right _ hfit
       rw [Nat.add_mul] at hcap
       obtain ⟨w',cc',q1,q2,q3,q4,q5,q6⟩:=jaP (P:=P) (β := loc.β) (o:=loc.d+off+ln*q) xs.toList 0 w cc k2 (fun k hk=>by
        simp at hk
        rcases k6 rfl with k6 | k6<;>omega) Za hone
       have hcs:cc'.size=cc.size:=by have:=congrArg List.length q4;simpa [jc4] using this
       refine ⟨_,w',step_move (ob := .cells ((l.drop off).take (ln*q)++new) false) (d:=off) hr hb h1 hN hfut.1 hfut.2 (fun j=>?_) Zb Zb q2 k2 q3 q5 q6 ⟨cc',elem,lo,hi,rfl,?_,?_,?_,?_⟩ (fun L hL=>by cases hL),.inl ⟨_,fin _ _ (jaE hT g0 gu hsz hni a0 a1 (hlen w) hfc hfit ?_),_,o',c',zJ _ _,rfl,hfit,fun _=>?_,(fun k hk=>by cases hk),(fun q' hq'=>?_),fun _ _ e=>(by cases e)⟩⟩
       ·rw [H.get_new,H.get_kill];rfl
       ·simp [hnl];omega
       ·simp only;omega
       ·intro k v hv
        rw [zd] at hv
        have hc':cc'[loc.d+off+k]?=(layL cc.toList (loc.d+off+ln*q+0) xs.toList)[loc.d+off+k]?:=by rw [<- q4];simp
        have hlt:((l.drop off).take (ln*q)).length=ln*q:=by simp;omega
        rw [hlt] at hv
        rw [hc',jgn _ _ _ _ Za]
        split at hv
        ·next hk=>
         rw [zb om]
         rw [zx,zg hk,zk] at hv
         obtain ⟨x,hx,hvx⟩:=k5 _ _ hv
         exact ⟨x,by rw [show loc.d+off+k=loc.d+(off+k) by omega];simpa using hx,hvx.mono (Mp.add_mono hfut.1)⟩
        ·next hk=>
         have hkn:k-ln*q<new.length:=by
          rcases zr (k-ln*q) new.length with hlt | hge
          ·exact hlt
          ·rw [zc hge] at hv;cases hv
         rw [zg Za]
         obtain ⟨x,hx,hvx⟩:=hxs.get hv
         exact ⟨x,by rw [show loc.d+off+k-(loc.d+off+ln*q+0)=k-ln*q by omega];exact hx,hvx.mono (Mp.add_mono hfut.1)⟩
       ·intro _
        rcases k6 rfl with k6 | k6
        ·exact .inl k6
        ·refine .inr ?_
         simp only
         omega
       ·simp only [ho',jbf];exact q1
       ·simp only [ho'];rfl
       ·cases hq';simp only;omega
      ·
       have hload:(bif ln*q == 0 then some [] else h.load bk off (ln*q))=some ((l.drop off).take (ln*q)):=by
        simp only [zt,beq_iff_eq]
        split
        ·next h00=>rw [h00];rfl
        ·unfold H.load;rw [hb];simp [zt,hle]
       obtain ⟨ol,q1,q2,q3⟩:=oldc _ hload
       obtain ⟨m',w',s1,x,s2,s3⟩:=growk bk ol _ _ ln c' a0 rfl hfit q1 q2 q3
       exact ⟨m',w',s1,.inl ⟨x,s2,s3⟩⟩
     ·cases hv
    ·cases hv
 ·cases hv
theorem eff_copy (hT:TOk P C) (hG:GOk C m) (hr:HRel P C m h w) (he:ERel m e t) {sz:Nat} {a b:Opd} {c:Go.Call} (ho:o.op = .call c) (hc:c.callee = .builtin .copy) (hx:ja1 C [a,b] c.args.toList=true)
  (hE:jcl C c.argTypes (fun e=>jaz C e sz)=true) (hv:I.eff call e h (.copy sz a b)=some (v,h')):Eff P C N m h w t o v h':=by
 obtain ⟨ty,el,g0,hsz,gu⟩:=jc7 hT hE
 have fin : ∀ x w',(Builtin.copy_ c.argTypes o.type (c.args.map (evT t))).run P w = .ok x w'->(execOp (evT t) o).run P w = .ok (.value x) w':=by
  intro x w' hw
  simp only [execOp,ho,zF,resolve,hc,zG,zH,invoke,builtin,hw]
 simp only [I.eff] at hv
 split at hv
 ·next av bv g1 g2=>
  obtain ⟨x,y,a0,a1,hxr,hyr⟩:=jdA (t:=t) hG he hx g1 g2
  unfold jhR at hv
  split at hv
  ·next base ln cap k hk=>
   dsimp only at hv
   split at hv
   ·cases hv
   next l hl=>
   obtain ⟨xs,hfc,hxs⟩:=jbD hr hyr hl hk (Nat.min_le_left _ _)
   have hlen:(Builtin.lenOf y).run P w = .ok k w:=jhA hyr hk
   have run : ∀ (base':Option Addr) (c':Nat) (w':World),x = .slice base' ln c'->(match base' with | some a=>storeCells a xs.toList | none=>pure ():Sem Unit).run P w = .ok () w' ->
     (Builtin.copy_ c.argTypes o.type (c.args.map (evT t))).run P w = .ok (.int .i64 (Nat.min k ln:Nat)) w':=by
    rintro base' c' w' rfl hst
    unfold Builtin.copy_
    simp only [g0,a0,a1,zF,zI gu,zG,hlen,jam hT hsz,hfc]
    cases base' with
    | none=>simp only [zH] at hst;cases hst;rfl
    | some a=>simp only at hst;simp only [zF,hst,zG,zH,goInt]
   simp only [zt] at hv
   split at hv
   ·next hemp=>
    cases hv
    have:l=[]:=by simpa using hemp
    subst this
    have hxe:xs.toList=[]:=hxs
    cases base with
    | none=>
     obtain ⟨rfl,rfl,rfl⟩:=hxr
     exact ⟨m,w,Step.refl N hr,.inl ⟨_,fin _ _ (run none 0 w rfl rfl),rfl⟩⟩
    | some p=>
     obtain ⟨loc,o',c',h1,rfl,h2,h3⟩:=hxr
     exact ⟨m,w,Step.refl N hr,.inl ⟨_,fin _ _ (run (some o') c' w rfl (by simp [hxe,storeCells])),rfl⟩⟩
   ·next hemp=>
    cases base with
    | none=>cases hv
    | some p=>
     obtain ⟨bk,off⟩:=p
     obtain ⟨loc,o',c',h1,rfl,h2,h3,h4⟩:=hxr
     dsimp only at hv
     split at hv
     ·next hh hst=>
      cases hv
      have ho':o'=⟨loc.β,loc.d+off,none⟩:=by
       refine h3 ?_
       intro h0
       subst h0
       have hln:ln=0:=by omega
       subst hln
       have hl0:=jb2 hl hk (Nat.min_le_left _ _) (fun c' hc'=>by subst hc';exact hyr.1)
       have:l=[]:=by
        have:Nat.min k 0=0:=Nat.min_eq_right (Nat.zero_le _)
        rw [this] at hl0
        exact zl.1 (by simpa using hl0)
       exact hemp (by simp [this])
      obtain ⟨w',q1,q2⟩:=jce (N:=N) hr hst h1 hxs
      exact ⟨m,w',q2,.inl ⟨_,fin _ _ (run (some o') c' w' rfl (by simp only [ho'];exact q1)),rfl⟩⟩
     ·cases hv
  ·cases hv
 ·cases hv
theorem eff_clear (hT:TOk P C) (hG:GOk C m) (hr:HRel P C m h w) (he:ERel m e t) {z:List V} {a:Opd} {c:Go.Call} (ho:o.op = .call c) (hc:c.callee = .builtin .clear) (hx:ja1 C [a] c.args.toList=true)
  (hE:jcl C c.argTypes (fun e=>jb1 C e z)=true) (hv:I.eff call e h (.clear z a)=some (v,h')):Eff P C N m h w t o v h':=by
 obtain ⟨ty,el,g0,hz,gu⟩:=jc7 hT hE
 have fin : ∀ w',(Builtin.clear_ c.argTypes o.type (c.args.map (evT t))).run P w = .ok (.tuple #[]) w'->(execOp (evT t) o).run P w = .ok (.value (.tuple #[])) w':=by
  intro w' hw
  simp only [execOp,ho,zF,resolve,hc,zG,zH,invoke,builtin,hw]
 obtain ⟨zv,hz1,hz2⟩:=jbN hT hz m
 simp only [I.eff] at hv
 split at hv
 ·next av g1=>
  obtain ⟨x,a0,hxr⟩ : ∃ x,(c.args.map (evT t))[0]?=some x/\VRel m av x:=by
   obtain ⟨a',hargs,ha⟩ : ∃ a',c.args.toList=[a']/\opdM C a a'=true:=by
    match hq:c.args.toList,hx with
    | [a'],hx=>simp [ja1] at hx;exact ⟨a',rfl,hx⟩
    | [],hx=>simp [ja1] at hx
    | _ :: _ :: _,hx=>simp [ja1] at hx
   refine ⟨evT t a',?_,jab (t:=t) hG he ha g1⟩
   have:c.args = #[a']:=by cases hh:c.args;simp_all
   rw [this];simp
  unfold jd1 at hv
  split at hv
  ·next base n cap=>
   simp only [zt,nbeq,zq] at hv
   split at hv
   ·next h0=>
    cases hv
    subst h0
    refine ⟨m,w,Step.refl N hr,.inl ⟨_,fin _ ?_,#[],rfl,rfl⟩⟩
    cases base with
    | none=>
     obtain ⟨_,_,rfl⟩:=hxr
     simp only [Builtin.clear_,g0,a0,zF,zI gu,zG,zH]
    | some p=>
     obtain ⟨loc,o',c',h1,rfl,h2,h3⟩:=hxr
     simp only [Builtin.clear_,g0,a0,zF,zI gu,zG,zH]
   ·next hn=>
    cases base with
    | none=>
     dsimp only at hv
     cases hv
     obtain ⟨rfl,rfl,rfl⟩:=hxr
     exact zw rfl hn
    | some p=>
     obtain ⟨bk,off⟩:=p
     obtain ⟨loc,o',c',h1,rfl,h2,h3,h4⟩:=hxr
     dsimp only at hv
     split at hv
     ·next hh hst=>
      cases hv
      have ho':o'=⟨loc.β,loc.d+off,none⟩:=h3 om
      have hcells:jah m (List.replicate n z).flatten (Builtin.zeroCells zv.cells n).toList:=by
       have e1:(Builtin.zeroCells zv.cells n).toList=(List.replicate n zv.cells.toList).flatten:=jdN zv.cells n
       rw [e1];exact hz2.flat n
      obtain ⟨w',q1,q2⟩:=jce (N:=N) hr hst h1 hcells
      refine ⟨m,w',q2,.inl ⟨_,fin w' ?_,#[],rfl,rfl⟩⟩
      subst ho'
      cases n with
      | zero=>exact zw rfl hn
      | succ n=>
       simp only [Builtin.clear_,g0,a0,zF,zI gu,zG,hz1,q1,zH]
     ·cases hv
  ·cases hv
 ·cases hv
theorem jd7 {β : Nat} {c:Array Value} {elem:TypeId} {lo hi:Nat} (hb:w.heap[β]?=some (.cells c elem (lo,hi))) :
  ∃ lo' hi',(w.freeze ⟨β,c.size,none⟩ 1).heap[β]?=some (.cells c elem (lo',hi'))/\(lo=hi->lo'=c.size)/\(lo≠hi->lo'=min lo c.size):=by
 unfold World.freeze
 rw [zb om]
 refine ⟨if lo=hi then c.size else min lo c.size,if lo=hi then c.size+1 else max hi (c.size+1),?_,fun h=>by simp [h],fun h=>by simp [h]⟩
 simp only [Array.getElem?_modify,zg,hb,Option.map_some]
 by_cases h:lo=hi<;>simp [h]
theorem eff_mark (hT:TOk P C) (hG:GOk C m) (hr:HRel P C m h w) (he:ERel m e t) {a:Opd} {a':Operand} {s d:TypeId} (ho:o.op = .convert s d a') (ha:opdM C a a'=true) (hsd:Nat.beq s d=true) (hd:jew C d=true)
  (hv:I.eff call e h (.mark a)=some (v,h')):Eff P C N m h w t o v h':=by
 obtain ⟨el,hd1,hd2⟩:=jdr hT hd
 have hsd:=jb7.1 hsd
 subst hsd
 simp only [I.eff] at hv
 split at hv
 ·next b off n cp g1=>
  have H:=jab (t:=t) hG he ha g1
  obtain ⟨loc,o',c',h1,e1,h2⟩:=H
  have H:=jab (t:=t) hG he ha g1
  split at hv
  ·next l hb=>
   simp only [zt,zA] at hv
   split at hv
   case isFalse=>cases hv
   next hn1=>
   cases hv
   have ho':=h2.2.1 om
   subst ho'
   obtain ⟨loc',co,k1,k2,cc,elem,lo,hi,rfl,k3,k4,k5,k6⟩:=hr.obj b _ hb
   rw [h1] at k1;cases k1
   obtain ⟨lo',hi',q1,q2⟩:=jd7 k2
   refine ⟨m,w.freeze ⟨loc.β,cc.size,none⟩ 1,?_,.inl ⟨evT t a',?_,H⟩⟩
   ·refine jdB (o' := .cells l false) hr hb rfl rfl h1 k2 (fun j=>?_) rfl ?_ q1 ?_ ⟨?_,?_,?_⟩ ⟨cc,elem,lo',hi',rfl,k3,k4,k5,?_⟩ (fun L hL=>by cases hL)
    ·split
     ·next e=>subst e;exact hb
     ·rfl
    ·unfold World.freeze;rw [zb om];simp
    ·intro j hj
     unfold World.freeze;rw [zb om]
     simp only [Array.getElem?_modify]
     rw [zb (fun e=>hj e.symm)]
    ·unfold World.freeze;rw [zb om]
    ·unfold World.freeze;rw [zb om]
    ·unfold World.freeze;rw [zb om]
    ·intro _
     refine .inr ?_
     by_cases hlh:lo=hi
     ·have:=q2.1 hlh;omega
     ·have:=q2.2 hlh
      rcases k6 rfl with k6 | k6
      ·exact zw k6 hlh
      ·omega
   ·have hshape:w.shape? loc.β = some (elem,cc.size):=by simp [World.shape?,k2]
    simp only [execOp,ho,zF,e1,convert,zI hd1,zG,zI hd2,beq_self_eq_true]
    simp only [markStringish,zF,run_shape,hshape,zG,run_freeze,zH]
  ·cases hv
 ·cases hv
end
end Am
namespace Am
open Go
section
variable {P:Program} {C:Cx} {N:Nat} {m:Mp} {h h':H} {w:World} {e:Env} {t:Array Value} {o:Oper} {v:V} {call:Am.Call}
theorem jad.filter {p:V × V × Nat->Bool} {q:MapEntry->Bool} (hpq : ∀ a c,c.born=a.2.2->p a=q c) : ∀ {es:List (V × V × Nat)} {ces:List MapEntry},jad m es ces->jad m (es.filter p) (ces.filter q)
 | [],_,h=>by rw [show _=[] from h];exact rfl
 | (k,v,b) :: es,_,⟨c0,s,e,h1,h2,h3,h4⟩=>by
  subst e
  rw [List.filter_cons,List.filter_cons,<- hpq (k,v,b) c0 h3]
  split
  ·exact ⟨c0,_,rfl,h1,h2,h3,jad.filter hpq h4⟩
  ·exact jad.filter hpq h4
theorem jad.all {p:V × V × Nat->Bool} {q:MapEntry->Bool} (hpq : ∀ a c,c.born=a.2.2->p a=q c) : ∀ {es:List (V × V × Nat)} {ces:List MapEntry},jad m es ces->es.all p=ces.all q
 | [],_,h=>by rw [show _=[] from h];rfl
 | (k,v,b) :: es,_,⟨c0,s,e,h1,h2,h3,h4⟩=>by
  subst e
  rw [List.all_cons,List.all_cons,<- hpq (k,v,b) c0 h3,jad.all hpq h4]
theorem jad.find {p:V × V × Nat->Bool} {q:MapEntry->Bool} (hpq : ∀ a c,c.born=a.2.2->p a=q c) : ∀ {es:List (V × V × Nat)} {ces:List MapEntry},jad m es ces -> ∀ {k v:V} {b:Nat},es.find? p=some (k,v,b) -> ∃ c,ces.find? q=some c/\VRel m k c.key/\VRel m v c.val
 | [],_,h,_,_,_,e=>by cases e
 | (k,v,b) :: es,_,⟨c0,s,e,h1,h2,h3,h4⟩,k',v',b',e'=>by
  subst e
  rw [List.find?_cons] at e' ⊢
  rw [<- hpq (k,v,b) c0 h3]
  split at e'
  ·cases e';exact ⟨c0,rfl,h1,h2⟩
  ·exact jad.find hpq h4 e'
end
end Am
namespace Am
open Go
section
variable {P:Program} {C:Cx} {N:Nat} {m:Mp} {h h':H} {w:World} {e:Env} {t:Array Value} {o:Oper} {v:V} {call:Am.Call}
theorem jk5 (hT:TOk P C) (hG:GOk C m) (he:ERel m e t) {i:I} (hc:i.cls = .P) (hM:iM P C i o.op=true) (hr:i.pure e=some v) (w:World):jay P m t o v w:=by
 generalize hop:o.op=op at hM
 unfold iM at hM
 split at hM
 all_goals try (simp [I.cls] at hc;done)
 all_goals try (simp [I.pure] at hr;done)
 all_goals try (cases hM;done)
 ·exact jdP hG he (.inl hop) hM (by simp only [I.pure] at hr;split at hr<;>simp_all) w
 ·exact jdP hG he (.inr hop) hM (by simp only [I.pure] at hr;split at hr<;>simp_all) w
 ·exact jeU hG he (.inl hop) hM hr w
 ·exact jeU hG he (.inr hop) hM hr w
 ·simp only [zm,Bool.not_eq_true'] at hM
  simp [I.pure,Opd.ev] at hr
  subst hr
  exact pure_lenC hT hop rfl hM.1 hM.2 w
 ·simp only [zm] at hM
  exact pure_pick hG he hop hM.1.1 hM.1.2 hM.2 hr w
 ·simp only [zm] at hM
  exact jkE hT hG he hop hM.1 hM.2 hr w
 ·exact jk7 hG he hop hM hr w
 ·simp only [zm,beq_iff_eq] at hM
  obtain ⟨⟨rfl,h1⟩,h2⟩:=hM
  exact pure_mkBm hG he hop h1 h2 hr w
 ·simp only [zm] at hM
  obtain ⟨⟨h0,h1⟩,h2⟩:=hM
  obtain rfl:=Nat.eq_of_beq_eq_true h0
  exact jk9 hG he hop h1 h2 hr w
 ·simp only [zm] at hM
  exact ji9 hG he hop hM.1 hM.2 hr w
 ·simp only [zm,beq_iff_eq] at hM
  obtain ⟨⟨rfl,h1⟩,h2⟩:=hM
  exact pure_bin hG he hop h1 h2 hr w
 ·simp only [zm] at hM
  exact pure_eq hT hG he hop hM.1.1.1 hM.1.1.2 hM.1.2 hM.2 hr w
 ·simp only [zm,beq_iff_eq] at hM
  obtain ⟨rfl,h1⟩:=hM
  exact pure_un hG he hop h1 hr w
 ·simp only [zm] at hM
  exact jhu hT hG he hop hM.1.1 hM.1.2 hM.2 hr w
 ·simp only [zm,nbeq,zq] at hM
  obtain ⟨⟨rfl,h1⟩,h2⟩:=hM
  exact jhs hT hG he hop h1 h2 hr w
 ·simp only [zm,nbeq,zq] at hM
  obtain ⟨⟨rfl,h1⟩,h2⟩:=hM
  exact jk8 hG he hop h1 h2 hr w
 ·simp only [zm] at hM
  exact ji8 hT hG he hop hM.1.1.1 hM.1.1.2 hM.1.2 hM.2 hr w
 ·simp only [zm] at hM
  exact jk6 hT hG he hop hM.1.1.1.1 hM.1.1.1.2 hM.1.1.2 hM.1.2 hM.2 hr w
 ·simp only [zm] at hM
  exact jkC hT hG he hop hM.1 hM.2 hr w
 ·simp only [zm] at hM
  exact jkB hT hG he hop hM.1 hM.2 hr w
 ·simp only [zm] at hM
  exact pure_ixaA hT hG he hop hM.1.1 hM.1.2 hM.2 hr w
 ·simp only [zm] at hM
  exact pure_ixaS hT hG he hop hM.1.1 hM.1.2 hM.2 hr w
 ·simp only [zm] at hM
  exact pure_ixA hT hG he hop hM.1.1 hM.1.2 hM.2 hr w
 ·simp only [zm] at hM
  exact jkA hT hG he hop hM.1.1 hM.1.2 hM.2 hr w
 ·simp only [zm,nbeq,zq] at hM
  obtain ⟨h1,rfl⟩:=hM
  exact jht hG he hop h1 hr w
 ·simp only [zm] at hM
  exact pure_lenS hT hG he hop rfl hM.1 hM.2 hr w
 ·simp only [zm] at hM
  exact pure_lenL hT hG he hop rfl hM.1 hM.2 hr w
 ·exact pure_minI hG he hop rfl hM hr w
 ·exact pure_maxI hG he hop rfl hM hr w
theorem jk2 (hT:TOk P C) (hG:GOk C m) (hR:HRel P C m h w) (he:ERel m e t) {i:I} (hc:i.cls = .R) (hM:iM P C i o.op=true) (hr:i.read e h=some v):jay P m t o v w:=by
 generalize hop:o.op=op at hM
 unfold iM at hM
 split at hM
 all_goals try (simp [I.cls] at hc;done)
 all_goals try (cases hM;done)
 ·simp only [zm] at hM
  exact jk4 hT hG hR he hop hM.2 hM.1 hr
 ·simp only [zm] at hM
  exact jk3 hT hG hR he hop hM.2 hM.1 hr
 ·simp only [zm] at hM
  exact jhq hT hG hR he hop hM.1.1 hM.1.2 hM.2 hr
 ·simp only [zm,beq_iff_eq] at hM
  obtain ⟨⟨⟨rfl,h1⟩,h2⟩,h3⟩:=hM
  exact ji7 hT hG hR he hop h1 h2 h3 hr
theorem jkI (hT:TOk P C) (hG:GOk C m) (he:ERel m e t) {i:I} (hc:i.cls = .A) (hM:iM P C i o.op=true) {ob:Obj} {mk:Nat->V} (hr:i.make e=some (ob,mk)) (w:World):jjk P C m t o ob mk w:=by
 generalize hop:o.op=op at hM
 unfold iM at hM
 split at hM
 all_goals try (simp [I.cls] at hc;done)
 all_goals try (cases hM;done)
 ·simp only [zm] at hM
  simp only [I.make,Option.some.injEq,Prod.mk.injEq] at hr
  obtain ⟨rfl,rfl⟩:=hr
  exact jkL (sz:=0) hT hop hM.1.2
 ·simp only [zm] at hM
  exact make_box hG he hop hM.2 hr
 ·simp only [zm,nbeq,zq,zA] at hM
  exact jiJ hT hG he hop hM.1.1.1 hM.1.1.2 hM.1.2 hM.2 hr
 ·simp only [zm] at hM
  exact jh6 hT hG he hop hM.1.1 hM.1.2 hM.2 hr
 ·simp only [I.make,Option.some.injEq,Prod.mk.injEq] at hr
  obtain ⟨rfl,rfl⟩:=hr
  exact jkJ hop
 ·simp only [zm] at hM
  exact jh7 hT hG he hop hM.1.1 hM.1.2 hM.2 hr
def I.calls:I->Bool
 | .call .. | .callv .. | .callb .. | .invoke ..=>true
 | _=>false
theorem eff_sound (hT:TOk P C) (hG:GOk C m) (hR:HRel P C m h w) (he:ERel m e t) (hN:N<=h.nx) {i:I} (hc:i.cls = .E) (hn:i.calls=false) (hM:iM P C i o.op=true) (hr:i.eff call e h=some (v,h')) :
  Eff P C N m h w t o v h':=by
 generalize hop:o.op=op at hM
 unfold iM at hM
 split at hM
 all_goals try (simp [I.cls] at hc;done)
 all_goals try (simp [I.calls] at hn;done)
 all_goals try (cases hM;done)
 ·simp only [zm] at hM
  exact eff_store hT hG hR he hop hM.1.1 hM.1.2 hM.2 hr
 ·simp only [zm] at hM
  exact eff_mark hT hG hR he hop hM.1.1 hM.1.2 hM.2 hr
 ·simp only [zm] at hM
  exact jjL hT hG hR he (.inl hop) hM.1.1.1 hM.1.1.2 hM.1.2 hM.2 hr
 ·simp only [zm] at hM
  exact jjL hT hG hR he (.inr hop) hM.1.1.1 hM.1.1.2 hM.1.2 hM.2 hr
 ·simp only [zm] at hM
  exact jkX hT hG hR he hN hop rfl hM.1.1 hM.1.2 hM.2 hr
 ·simp only [zm] at hM
  exact eff_copy hT hG hR he hop rfl hM.1 hM.2 hr
 ·simp only [zm] at hM
  exact eff_mdel hT hG hR he hop rfl hM.1 hM.2 hr
 ·simp only [zm] at hM
  exact eff_clear hT hG hR he hop rfl hM.1 hM.2 hr
end
end Am
