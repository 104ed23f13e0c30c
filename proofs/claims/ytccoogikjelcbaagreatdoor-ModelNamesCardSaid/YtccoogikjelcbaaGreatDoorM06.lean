/- Our own library, part 6. -/
import Derived.Laws.Append
import Derived.Test.YtccoogikjelcbaaGreatDoorM05
set_option maxHeartbeats 8000000
set_option maxRecDepth 800
set_option linter.all false
namespace Am
open Go
section
variable {P:Program} {C:Cx} {m:Mp} {h:H} {w:World}
structure WSame (w w':World):Prop where
 os:w'.os=w.os
 tape:w'.tape=w.tape
 output:w'.output=w.output
theorem WSame.refl (w:World):WSame w w:=⟨rfl,rfl,rfl⟩
theorem WSame.trans {w w' w'':World} (a:WSame w w') (b:WSame w' w''):WSame w w'':=⟨b.os.trans a.os,b.tape.trans a.tape,b.output.trans a.output⟩
theorem jbz {β : Nat} {c:Array Value} {elem:TypeId} {fz:Nat × Nat} (hb:w.heap[β]?=some (.cells c elem fz)) (k:Nat):w.cell? ⟨β,k,none⟩=c[k]?:=by
 simp [World.cell?,hb]
theorem HRel.cell (hr:HRel P C m h w) {b:Nat} {vs:List V} {ro:Bool} (hb:h.get b=some (.cells vs ro)) {l:Loc} (hl:m b=some l) {k:Nat} {v:V} (hv:vs[k]?=some v) :
  ∃ x,w.cell? ⟨l.β,l.d+k,none⟩=some x/\VRel m v x:=by
 obtain ⟨l',co,h1,h2,c,elem,lo,hi,rfl,_,_,h5,_⟩:=hr.obj b _ hb
 rw [hl] at h1;cases h1
 obtain ⟨x,hx,hvx⟩:=h5 k v hv
 exact ⟨x,by rw [jbz h2];exact hx,hvx⟩
theorem jbr {β o:Nat} : ∀ (n i:Nat) (acc:Array Value) (vs:List V),vs.length=n->(∀ k v,vs[k]?=some v -> ∃ x,w.cell? ⟨β,o+(i+k),none⟩=some x/\VRel m v x) ->
  ∃ xs:List Value,(loadCellsFrom ⟨β,o,none⟩ i n acc).run P w = .ok (acc++xs.toArray) w/\jah m vs xs
 | 0,i,acc,vs,hn,_=>by
  have:vs=[]:=zl.1 hn
  subst this
  exact ⟨[],by simp [loadCellsFrom],rfl⟩
 | n+1,i,acc,[],hn,_=>by simp at hn
 | n+1,i,acc,v :: vs,hn,H=>by
  obtain ⟨x,hx,hv⟩:=H 0 v rfl
  obtain ⟨xs,h1,h2⟩:=jbr n (i+1) (acc.push x) vs (by simpa using hn) (fun k u hk=>by
   have:=H (k+1) u (by simpa using hk)
   simpa [Nat.add_assoc,Nat.add_comm 1 k] using this)
  refine ⟨x :: xs,?_,x,xs,rfl,hv,h2⟩
  simp only [loadCellsFrom,zF,jbf,run_load]
  rw [show w.cell? ⟨β,o+i,none⟩=some x by simpa using hx]
  simp only [zG]
  rw [h1]
  simp
theorem jde {b o n:Nat} {l:List V} (hl:h.load b o n=some l) : ∃ vs ro,h.get b=some (.cells vs ro)/\o+n<=vs.length/\l=(vs.drop o).take n:=by
 unfold H.load at hl
 split at hl
 ·next vs ro hb=>
  simp only [zt,zA] at hl
  split at hl
  ·next hle=>cases hl;exact ⟨vs,ro,hb,hle,rfl⟩
  ·cases hl
 ·cases hl
theorem jdZ {b o n:Nat} {l:List V} (hl:h.load b o n=some l):l.length=n:=by
 obtain ⟨vs,ro,_,h2,rfl⟩:=jde hl
 simp;omega
theorem jgl (hr:HRel P C m h w) {b o n:Nat} {l:List V} (hl:h.load b o n=some l) {loc:Loc} (hm:m b=some loc) :
  ∃ xs:Array Value,(loadCells ⟨loc.β,loc.d+o,none⟩ n).run P w = .ok xs w/\jah m l xs.toList:=by
 obtain ⟨vs,ro,h1,h2,rfl⟩:=jde hl
 obtain ⟨xs,h3,h4⟩:=jbr (P:=P) (m:=m) (w:=w) (β := loc.β) (o:=loc.d+o) n 0 #[] ((vs.drop o).take n) Za (fun k v hk=>by
  have hk':vs[o+k]?=some v:=by
   rw [zx] at hk
   split at hk
   ·rw [zk] at hk;exact hk
   ·cases hk
  have:=hr.cell h1 hm hk'
  simpa [Nat.add_assoc] using this)
 exact ⟨xs.toArray,by unfold loadCells;rw [h3];simp,h4⟩
theorem jh9 (hr:HRel P C m h w) {b o:Nat} {v:V} (hl:h.load1 b o=some v) {loc:Loc} (hm:m b=some loc) :
  ∃ x,(load ⟨loc.β,loc.d+o,none⟩).run P w = .ok x w/\VRel m v x:=by
 unfold H.load1 at hl
 split at hl
 ·next vs ro hb=>
  obtain ⟨x,h1,h2⟩:=hr.cell hb hm hl
  exact ⟨x,by simp [h1],h2⟩
 ·cases hl
def Mp.add (m:Mp) (id:Nat) (l:Loc):Mp:=fun b=>if b=id then some l else m b
theorem Mp.add_mono {id:Nat} {l:Loc} (hn:m id=none):Mono m (m.add id l):=by
 intro b l' hb
 unfold Mp.add
 by_cases e:b=id
 ·subst e;rw [hn] at hb;cases hb
 ·rw [zb e];exact hb
theorem Mp.add_self (id:Nat) (l:Loc):(m.add id l) id=some l:=by simp [Mp.add]
theorem jcB {N id:Nat} {o:Obj} {co:Go.Obj} {h':H} {w':World} {ext:Nat} (hr:HRel P C m h w) (hN:N<=id) (hid:m id=none) (hg:h.get id=none)
  (hget : ∀ j,h'.get j=if j=id then some o else h.get j) (hnx:h.nx<=h'.nx) (hlt:id<h'.nx) (hw:w'.heap=w.heap.push co) (hs:WSame w w')
  (ho:ORel P C (m.add id ⟨w.heap.size,0,ext⟩) ⟨w.heap.size,0,ext⟩ o co):Step P C N m h w (m.add id ⟨w.heap.size,0,ext⟩) h' w':=by
 have hm:=Mp.add_mono (l:=⟨w.heap.size,0,ext⟩) hid
 have hget' : ∀ j,j<w.heap.size->w'.heap[j]?=w.heap[j]?:=by
  intro j hj
  rw [hw,Array.getElem?_push,zb om]
 refine ⟨hm,?_,⟨?_,?_,?_⟩,hnx,?_,by rw [hw];simp,?_,?_,hs.os,hs.tape,hs.output⟩
 ·intro b hb e
  unfold Mp.add
  rw [zb om];exact e
 ·intro b o' hb
  rw [hget] at hb
  split at hb
  ·next e=>
   cases hb;subst e
   exact ⟨_,co,Mp.add_self _ _,by rw [hw];simp,ho⟩
  ·next e=>
   obtain ⟨l,co',h1,h2,h3⟩:=hr.obj b o' hb
   exact ⟨l,co',hm _ _ h1,by rw [hget' _ (hr.lt hb h1)];exact h2,h3.mono hm⟩
 ·intro b b' o1 o2 l1 l2 hb hb' hne h1 h2 hβ
  rw [hget] at hb hb'
  unfold Mp.add at h1 h2
  split at hb
  ·next e=>
   rw [zg e] at h1;cases h1
   rw [zb om] at hb' h2
   have:=hr.lt hb' h2
   simp at hβ;omega
  ·next e=>
   rw [zb e] at h1
   split at hb'
   ·next e'=>
    rw [zg e'] at h2;cases h2
    have:=hr.lt hb h1
    simp at hβ;omega
   ·next e'=>
    rw [zb e'] at h2
    exact hr.inj b b' o1 o2 l1 l2 hb hb' hne h1 h2 hβ
 ·intro b l hb
  unfold Mp.add at hb
  split at hb
  ·next e=>subst e;exact hlt
  ·have:=hr.dom b l hb
   omega
 ·intro b hb e
  rw [hget,zb om];exact e
 ·intro β hβ hno
  refine ⟨hget' β hβ,?_⟩
  rintro ⟨b,o',l,h1,h2,h3,h4⟩
  rw [hget] at h1
  unfold Mp.add at h3
  split at h1
  ·next e=>rw [zg e] at h3;cases h3;simp at h4;omega
  ·next e=>rw [zb e] at h3;exact hno ⟨b,o',l,h1,h2,h3,h4⟩
 ·intro β L hL
  have : β < w.heap.size:=by
   rcases zr β w.heap.size with hlt | hge
   ·exact hlt
   ·rw [zD hge] at hL;cases hL
  exact ⟨L,by rw [hget' β this];exact hL⟩
theorem jdB {N b:Nat} {o o':Obj} {co co':Go.Obj} {l:Loc} {w':World} {h':H} (hr:HRel P C m h w) (hb:h.get b=some o) (hro:o.ro=false) (hro':o'.ro=false) (hl:m b=some l)
  (hco:w.heap[l.β]?=some co) (hget : ∀ j,h'.get j=if j=b then some o' else h.get j) (hnx:h'.nx=h.nx) (hsz:w'.heap.size=w.heap.size) (hβ : w'.heap[l.β]?=some co') (hoth : ∀ j,j≠l.β -> w'.heap[j]?=w.heap[j]?)
  (hs:WSame w w') (ho:ORel P C m l o' co') (hlo : ∀ L:Loop,co = .loop L -> ∃ L',co' = .loop L'):Step P C N m h w m h' w':=by
 refine ⟨Mono.refl _,fun _ _ e=>e,⟨?_,?_,?_⟩,by rw [hnx];exact zn _,?_,by rw [hsz];exact zn _,?_,?_,hs.os,hs.tape,hs.output⟩
 ·intro j oj hj
  rw [hget] at hj
  split at hj
  ·next e=>cases hj;subst e;exact ⟨l,co',hl,hβ,ho⟩
  ·next e=>
   obtain ⟨lj,coj,h1,h2,h3⟩:=hr.obj j oj hj
   refine ⟨lj,coj,h1,?_,h3⟩
   rw [hoth]
   ·exact h2
   ·intro e2
    have:=hr.inj j b oj o lj l hj hb e h1 hl e2
    rw [hro] at this;cases this.2
 ·intro j k oj ok lj lk hj hk hne h1 h2 h3
  rw [hget] at hj hk
  split at hj
  ·next e=>
   subst e
   rw [hl] at h1;cases h1
   rw [zb om] at hk
   have:=hr.inj j k o ok l lk hb hk hne hl h2 h3
   rw [hro] at this;cases this.1
  ·next e=>
   split at hk
   ·next e'=>
    subst e'
    rw [hl] at h2;cases h2
    have:=hr.inj j k oj o lj l hj hb hne h1 hl h3
    rw [hro] at this;cases this.2
   ·exact hr.inj j k oj ok lj lk hj hk hne h1 h2 h3
 ·intro j lj hj
  have:=hr.dom j lj hj
  rw [hnx];exact this
 ·intro j _ e
  rw [hget]
  split
  ·next e'=>subst e';rw [hb] at e;cases e
  ·exact e
 ·intro β hβ' hno
  have hne : β ≠ l.β := fun e=>hno ⟨b,o,l,hb,hro,hl,e.symm⟩
  refine ⟨hoth β hne,?_⟩
  rintro ⟨j,oj,lj,h1,h2,h3,h4⟩
  rw [hget] at h1
  split at h1
  ·next e=>subst e;rw [hl] at h3;cases h3;exact hne h4.symm
  ·exact hno ⟨j,oj,lj,h1,h2,h3,h4⟩
 ·intro β L hL
  by_cases e : β = l.β
  ·subst e;rw [hco] at hL;cases hL
   obtain ⟨L',e'⟩:=hlo L rfl
   exact ⟨L',by rw [hβ,e']⟩
  ·exact ⟨L,by rw [hoth β e];exact hL⟩
theorem jhj {N b:Nat} (hr:HRel P C m h w):Step P C N m h w m (h.kill b) w:=by
 refine ⟨Mono.refl _,fun _ _ e=>e,⟨?_,?_,?_⟩,zn _,?_,zn _,?_,fun _ L e=>⟨L,e⟩,rfl,rfl,rfl⟩
 ·intro j oj hj
  rw [H.get_kill] at hj
  split at hj
  ·cases hj
  ·exact hr.obj j oj hj
 ·intro j k oj ok lj lk hj hk
  rw [H.get_kill] at hj hk
  split at hj
  ·cases hj
  ·split at hk
   ·cases hk
   ·exact hr.inj j k oj ok lj lk hj hk
 ·intro j lj hj;exact hr.dom j lj hj
 ·intro j _ e
  rw [H.get_kill];split
  ·rfl
  ·exact e
 ·intro β _ hno
  refine ⟨rfl,?_⟩
  rintro ⟨j,oj,lj,h1,h2⟩
  rw [H.get_kill] at h1
  split at h1
  ·cases h1
  ·exact hno ⟨j,oj,lj,h1,h2⟩
theorem jaP {β o:Nat} {elem:TypeId} {lo hi:Nat} : ∀ (zs:List Value) (i:Nat) (w:World) (c:Array Value),w.heap[β]?=some (.cells c elem (lo,hi)) ->
  (∀ k,k<zs.length -> ¬ (lo<=o+(i+k)/\o+(i+k)<hi))->o+(i+zs.length)<=c.size->(∀ z∈zs,z.oneCell'=true) ->
  ∃ w' c',(storeCells ⟨β,o,none⟩ zs i).run P w = .ok () w'/\w'.heap.size=w.heap.size/\w'.heap[β]?=some (.cells c' elem (lo,hi))/\c'.toList=layL c.toList (o+i) zs /\
   (∀ j,j ≠ β -> w'.heap[j]?=w.heap[j]?)/\WSame w w'
 | [],i,w,c,hb,_,_,_=>⟨w,c,by simp [storeCells],rfl,hb,by simp [layL],fun _ _=>rfl,WSame.refl w⟩
 | z :: zs,i,w,c,hb,hf,hs,h1=>by
  have hlt:o+i<c.size:=by simp at hs;omega
  have hcell:w.cell? ⟨β,o+i,none⟩=some c[o+i]:=by rw [jbz hb];simp [hlt]
  have hfr:w.frozen? ⟨β,o+i,none⟩=false:=by
   have:=hf 0 Zb
   simp only [World.frozen?,hb]
   simp only [Nat.add_zero] at this
   simp;omega
  let w1:=w.setCell ⟨β,o+i,none⟩ z
  have hβ : β < w.heap.size:=by
   rcases zr β w.heap.size with hlt | hge
   ·exact hlt
   ·rw [zD hge] at hb;cases hb
  have hw1:w1.heap[β]?=some (.cells (c.setIfInBounds (o+i) z) elem (lo,hi)):=by
   show (w.heap.modify β _)[β]?=_
   rw [Array.getElem?_modify,zg rfl,hb]
   simp
  have hoth : ∀ j,j ≠ β -> w1.heap[j]?=w.heap[j]?:=by
   intro j hj
   show (w.heap.modify β _)[j]?=_
   rw [Array.getElem?_modify,zb (fun e=>hj e.symm)]
  obtain ⟨w',c',h2,h3,h4,h5,h6,h7⟩:=jaP zs (i+1) w1 _ hw1 (fun k hk=>by
   have:=hf (k+1) (by simpa using hk)
   rw [show i+1+k=i+(k+1) by omega];exact this) (by simp at hs ⊢;omega) (fun z' hz'=>h1 z' (zj _ hz'))
  refine ⟨w',c',?_,?_,h4,?_,?_,?_⟩
  ·simp only [storeCells,zF,jbf]
   rw [run_store P w _ z _ (h1 z (zh ..)),hcell]
   simp only [hfr,zB,if_false,zG]
   exact h2
  ·rw [h3];show (w.heap.modify β _).size=_;simp
  ·rw [h5];simp [layL,Nat.add_assoc]
  ·intro j hj;rw [h6 j hj,hoth j hj]
  ·exact ⟨h7.os,h7.tape,h7.output⟩
theorem jc4 : ∀ (zs xs:List Value) (o:Nat),(layL xs o zs).length=xs.length
 | [],_,_=>rfl
 | z :: zs,xs,o=>by simp [layL,jc4 zs]
theorem jgn : ∀ (zs xs:List Value) (o k:Nat),o+zs.length<=xs.length->(layL xs o zs)[k]?=if o<=k/\k<o+zs.length then zs[k-o]? else xs[k]?
 | [],xs,o,k,_=>by simp [layL];intro h1 h2;omega
 | z :: zs,xs,o,k,h=>by
  simp only [layL]
  rw [jgn zs _ (o+1) k (by simp at h ⊢;omega)]
  by_cases h1:o+1<=k/\k<o+1+zs.length
  ·rw [zg h1,zg Za]
   rw [show k-o=(k-(o+1))+1 by omega];rfl
  ·rw [zb h1]
   by_cases h2:k=o
   ·subst h2
    simp at h
    rw [zg Zb,List.getElem?_set_self om];simp
   ·rw [List.getElem?_set_ne om,zb Za]
theorem jcU : ∀ (zs xs:List V) (o k:Nat),o+zs.length<=xs.length->(jca xs o zs)[k]?=if o<=k/\k<o+zs.length then zs[k-o]? else xs[k]?
 | [],xs,o,k,_=>by simp [jca];intro h1 h2;omega
 | z :: zs,xs,o,k,h=>by
  simp only [jca]
  rw [jcU zs _ (o+1) k (by simp at h ⊢;omega)]
  by_cases h1:o+1<=k/\k<o+1+zs.length
  ·rw [zg h1,zg Za]
   rw [show k-o=(k-(o+1))+1 by omega];rfl
  ·rw [zb h1]
   by_cases h2:k=o
   ·subst h2
    simp at h
    rw [zg Zb,List.getElem?_set_self om];simp
   ·rw [List.getElem?_set_ne om,zb Za]
theorem jce {N b o:Nat} {vs:List V} {h':H} (hr:HRel P C m h w) (hst:h.store b o vs=some h') {loc:Loc} (hm:m b=some loc) {zs:List Value} (hz:jah m vs zs) :
  ∃ w',(storeCells ⟨loc.β,loc.d+o,none⟩ zs).run P w = .ok () w'/\Step P C N m h w m h' w':=by
 unfold H.store at hst
 split at hst
 ·next l hb=>
  simp only [zt,zm,zA] at hst
  split at hst
  ·next hle=>
   cases hst
   obtain ⟨hle,hone⟩:=hle
   obtain ⟨l',co,h1,h2,c,elem,lo,hi,rfl,h3,h4,h5,h6⟩:=hr.obj b _ hb
   rw [hm] at h1;cases h1
   have hlen:=hz.length
   obtain ⟨w',c',h7,h8,h9,h10,h11,h12⟩:=jaP (P:=P) (β := loc.β) (o:=loc.d+o) zs 0 w c h2 (fun k hk=>by
    rcases h6 rfl with h6 | h6<;>omega) om (fun z hz'=>by
    obtain ⟨k,hk⟩:=List.getElem?_of_mem hz'
    have hkl:k<vs.length:=by
     rw [hlen]
     rcases zr k zs.length with hlt | hge
     ·exact hlt
     ·rw [zc hge] at hk;cases hk
    obtain ⟨x,hx,hvx⟩:=hz.get (za hkl)
    rw [hk] at hx;cases hx
    rw [<- hvx.one]
    exact zC.1 hone _ (List.getElem_mem hkl))
   refine ⟨w',h7,jdB hr hb rfl rfl hm h2 (H.get_set h b · _) rfl h8 h9 h11 h12 ⟨c',elem,lo,hi,rfl,by rw [jcE];exact h3,?_,?_,h6⟩ (fun L e=>by cases e)⟩
   ·have:c'.size=c.size:=by have:=congrArg List.length h10;simpa [jc4] using this
    omega
   ·intro k v hv
    rw [jcU _ _ _ _ hle] at hv
    have hc':c'[loc.d+k]?=(layL c.toList (loc.d+o+0) zs)[loc.d+k]?:=by rw [<- h10];simp
    rw [hc',jgn _ _ _ _ Za]
    split at hv
    ·next hk=>
     rw [zg om]
     obtain ⟨x,hx,hvx⟩:=hz.get hv
     exact ⟨x,by rw [show loc.d+k-(loc.d+o+0)=k-o by omega];exact hx,hvx⟩
    ·next hk=>
     rw [zb om]
     obtain ⟨x,hx,hvx⟩:=h5 k v hv
     exact ⟨x,by simpa using hx,hvx⟩
  ·cases hst
 ·cases hst
end
abbrev zJ:=@Mp.add_self
end Am
