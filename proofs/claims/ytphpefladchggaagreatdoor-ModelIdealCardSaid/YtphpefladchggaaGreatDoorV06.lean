/- Our own library, part 6. -/
import Derived.Laws.Append
import Derived.Test.YtphpefladchggaaGreatDoorV05
set_option maxHeartbeats 8000000
set_option maxRecDepth 800
set_option linter.all false
namespace Am
open Go
section
variable{P:Program}{C:Cx}{m:Mp}{h:H}{w:World}
structure WSame(w w':World):Prop where
 os:w'.os=w.os
 tape:w'.tape=w.tape
 output:w'.output=w.output
theorem WSame.refl(w:World):WSame w w:=⟨rfl,rfl,rfl⟩
theorem WSame.trans{w w' w'':World}(a:WSame w w')(b:WSame w' w''):WSame w w'':=⟨b.os.trans a.os,b.tape.trans a.tape,b.output.trans a.output⟩
theorem jcX{β:Nat}{c:Array Value}{elem:TypeId}{fz:Nat×Nat}(hb:w.heap[β]?=some (.cells c elem fz))(k:Nat):w.cell? ⟨β,k,none⟩=c[k]?:=by
 simp[World.cell?,hb]
theorem HRel.cell(hr:HRel P C m h w){b:Nat}{vs:List V}{ro:Bool}(hb:h.get b=some (.cells vs ro)){l:Loc}(hl:m b=some l){k:Nat}{v:V}(hv:vs[k]?=some v) :
  ∃x,w.cell? ⟨l.β,l.d+k,none⟩=some x/\VRel m v x:=by
 obtain⟨l',co,h1,h2,c,elem,lo,hi,rfl,_,_,h5,_⟩:=hr.obj b _ hb;rw[hl]at h1;cases h1;obtain⟨x,hx,cF⟩:=h5 k v hv;exact⟨x,by rw[jcX h2];exact hx,cF⟩
theorem jcN{β o:Nat}:∀(n i:Nat) (acc:Array Value) (vs:List V),vs.length=n->(∀k v,vs[k]?=some v -> ∃x,w.cell? ⟨β,o+(i+k),none⟩=some x/\VRel m v x) ->
  ∃xs:List Value,(loadCellsFrom ⟨β,o,none⟩ i n acc).run P w = .ok (acc++xs.toArray) w/\jas m vs xs
 |0,i,acc,vs,hn,_=>by
  have:vs=[]:=zn.1 hn;subst this;exact⟨[],by simp[loadCellsFrom],rfl⟩
 |n+1,i,acc,[],hn,_=>by simp at hn
 |n+1,i,acc,v::vs,hn,H=>by
  obtain⟨x,hx,hv⟩:=H 0 v rfl;obtain⟨xs,h1,h2⟩:=jcN n (i+1) (acc.push x) vs (by simpa using hn) (fun k u hk=>by
   have:=H (k+1) u (by simpa using hk);simpa[Nat.add_assoc,Nat.add_comm 1 k] using this)
  refine⟨x::xs,?_,x,xs,rfl,hv,h2⟩;simp only[loadCellsFrom,Zj,jc5,run_load];rw[show w.cell? ⟨β,o+i,none⟩=some x by simpa using hx];simp only[Zk];rw[h1];simp
theorem jgY{b o n:Nat}{l:List V}(hl:h.load b o n=some l):∃vs ro,h.get b=some (.cells vs ro)/\o+n<=vs.length/\l=(vs.drop o).take n:=by
 unfold H.load at hl;split at hl
 .next vs ro hb=>
  simp only[zH,zQ]at hl;split at hl
  .next qH=>cases hl;exact⟨vs,ro,hb,qH,rfl⟩
  .cases hl
 .cases hl
theorem jiv{b o n:Nat}{l:List V}(hl:h.load b o n=some l):l.length=n:=by
 obtain⟨vs,ro,_,h2,rfl⟩:=jgY hl;simp;omega
theorem jkl(hr:HRel P C m h w){b o n:Nat}{l:List V}(hl:h.load b o n=some l){loc:Loc}(hm:m b=some loc) :
  ∃xs:Array Value,(loadCells ⟨loc.β,loc.d+o,none⟩ n).run P w = .ok xs w/\jas m l xs.toList:=by
 obtain⟨vs,ro,h1,h2,rfl⟩:=jgY hl;obtain⟨xs,h3,h4⟩:=jcN (P:=P) (m:=m) (w:=w) (β:= loc.β) (o:=loc.d+o) n 0 #[] ((vs.drop o).take n) Zc (fun k v hk=>by
  have w6:vs[o+k]?=some v:=by
   rw[zN]at hk;split at hk
   .rw[zm]at hk;exact hk
   .cases hk
  have:=hr.cell h1 hm w6;simpa[Nat.add_assoc] using this)
 exact⟨xs.toArray,by unfold loadCells;rw[h3];simp,h4⟩
theorem jli(hr:HRel P C m h w){b o:Nat}{v:V}(hl:h.load1 b o=some v){loc:Loc}(hm:m b=some loc) :
  ∃x,(load ⟨loc.β,loc.d+o,none⟩).run P w = .ok x w/\VRel m v x:=by
 unfold H.load1 at hl;split at hl
 .next vs ro hb=>
  obtain⟨x,h1,h2⟩:=hr.cell hb hm hl;exact⟨x,by simp[h1],h2⟩
 .cases hl
def Mp.add(m:Mp)(id:Nat)(l:Loc):Mp:=fun b=>if b=id then some l else m b
theorem Mp.add_mono{id:Nat}{l:Loc}(hn:m id=none):Mono m (m.add id l):=by
 intro b l' hb;unfold Mp.add;by_cases e:b=id
 .subst e;rw[hn]at hb;cases hb
 .rw[zC e];exact hb
theorem Mp.add_self(id:Nat)(l:Loc):(m.add id l) id=some l:=by simp[Mp.add]
theorem jfX{N id:Nat}{o:Obj}{co:Go.Obj}{h':H}{w':World}{ext:Nat}(hr:HRel P C m h w)(hN:N<=id)(hid:m id=none)(hg:h.get id=none)
  (wD:∀j,h'.get j=if j=id then some o else h.get j) (kF:h.nx<=h'.nx) (d4:id<h'.nx) (hw:w'.heap=w.heap.push co) (hs:WSame w w')
  (ho:ORel P C (m.add id ⟨w.heap.size,0,ext⟩) ⟨w.heap.size,0,ext⟩ o co):Step P C N m h w (m.add id ⟨w.heap.size,0,ext⟩) h' w':=by
 have hm:=Mp.add_mono (l:=⟨w.heap.size,0,ext⟩) hid;have fL:∀j,j<w.heap.size->w'.heap[j]?=w.heap[j]?:=by
  intro j hj;rw[hw,Array.getElem?_push,zC om]
 refine⟨hm,?_,⟨?_,?_,?_⟩,kF,?_,by rw[hw];simp,?_,?_,hs.os,hs.tape,hs.output⟩
 .intro b hb e;unfold Mp.add;rw[zC om];exact e
 .intro b o' hb;rw[wD]at hb;split at hb
  .next e=>
   cases hb;subst e;exact⟨_,co,Mp.add_self _ _,by rw[hw];simp,ho⟩
  .next e=>
   obtain⟨l,co',h1,h2,h3⟩:=hr.obj b o' hb;exact⟨l,co',hm _ _ h1,by rw[fL _ (hr.lt hb h1)];exact h2,h3.mono hm⟩
 .intro b b' o1 o2 l1 l2 hb kB d5 h1 h2 hβ;rw[wD]at hb kB;unfold Mp.add at h1 h2;split at hb
  .next e=>
   rw[zD e]at h1;cases h1;rw[zC om]at kB h2;have:=hr.lt kB h2;simp at hβ;omega
  .next e=>
   rw[zC e]at h1;split at kB
   .next e'=>
    rw[zD e']at h2;cases h2;have:=hr.lt hb h1;simp at hβ;omega
   .next e'=>
    rw[zC e']at h2;exact hr.inj b b' o1 o2 l1 l2 hb kB d5 h1 h2 hβ
 .intro b l hb;unfold Mp.add at hb;split at hb
  .next e=>subst e;exact d4
  .have:=hr.dom b l hb;omega
 .intro b hb e;rw[wD,zC om];exact e
 .intro β hβ j5;refine⟨fL β hβ,?_⟩;rintro⟨b,o',l,h1,h2,h3,h4⟩;rw[wD]at h1;unfold Mp.add at h3;split at h1
  .next e=>rw[zD e]at h3;cases h3;simp at h4;omega
  .next e=>rw[zC e]at h3;exact j5 ⟨b,o',l,h1,h2,h3,h4⟩
 .intro β L hL;have:β < w.heap.size:=by
   rcases zx β w.heap.size with d4|tB
   .exact d4
   .rw[zX tB]at hL;cases hL
  exact⟨L,by rw[fL β this];exact hL⟩
theorem jj8{N b:Nat}{o o':Obj}{co co':Go.Obj}{l:Loc}{w':World}{h':H}(hr:HRel P C m h w)(hb:h.get b=some o)(dA:o.ro=false)(Ai:o'.ro=false)(hl:m b=some l)
  (pT:w.heap[l.β]?=some co) (wD:∀j,h'.get j=if j=b then some o' else h.get j) (kF:h'.nx=h.nx) (w8:w'.heap.size=w.heap.size) (hβ:w'.heap[l.β]?=some co') (pG:∀j,j≠l.β -> w'.heap[j]?=w.heap[j]?)
  (hs:WSame w w') (ho:ORel P C m l o' co') (wE:∀L:Loop,co = .loop L -> ∃L',co' = .loop L'):Step P C N m h w m h' w':=by
 refine⟨Mono.refl _,fun _ _ e=>e,⟨?_,?_,?_⟩,by rw[kF];exact zq _,?_,by rw[w8];exact zq _,?_,?_,hs.os,hs.tape,hs.output⟩
 .intro j oj hj;rw[wD]at hj;split at hj
  .next e=>cases hj;subst e;exact⟨l,co',hl,hβ,ho⟩
  .next e=>
   obtain⟨lj,coj,h1,h2,h3⟩:=hr.obj j oj hj;refine⟨lj,coj,h1,?_,h3⟩;rw[pG]
   .exact h2
   .intro e2;have:=hr.inj j b oj o lj l hj hb e h1 hl e2;rw[dA]at this;cases this.2
 .intro j k oj ok lj lk hj hk d5 h1 h2 h3;rw[wD]at hj hk;split at hj
  .next e=>
   subst e;rw[hl]at h1;cases h1;rw[zC om]at hk;have:=hr.inj j k o ok l lk hb hk d5 hl h2 h3;rw[dA]at this;cases this.1
  .next e=>
   split at hk
   .next e'=>
    subst e';rw[hl]at h2;cases h2;have:=hr.inj j k oj o lj l hj hb d5 h1 hl h3;rw[dA]at this;cases this.2
   .exact hr.inj j k oj ok lj lk hj hk d5 h1 h2 h3
 .intro j lj hj;have:=hr.dom j lj hj;rw[kF];exact this
 .intro j _ e;rw[wD];split
  .next e'=>subst e';rw[hb]at e;cases e
  .exact e
 .intro β hβ' j5;have d5:β ≠ l.β:= fun e=>j5 ⟨b,o,l,hb,dA,hl,e.symm⟩;refine⟨pG β d5,?_⟩;rintro⟨j,oj,lj,h1,h2,h3,h4⟩;rw[wD]at h1;split at h1
  .next e=>subst e;rw[hl]at h3;cases h3;exact d5 h4.symm
  .exact j5 ⟨j,oj,lj,h1,h2,h3,h4⟩
 .intro β L hL;by_cases e:β = l.β
  .subst e;rw[pT]at hL;cases hL;obtain⟨L',e'⟩:=wE L rfl;exact⟨L',by rw[hβ,e']⟩
  .exact⟨L,by rw[pG β e];exact hL⟩
theorem jkE{N b:Nat}(hr:HRel P C m h w):Step P C N m h w m (h.kill b) w:=by
 refine⟨Mono.refl _,fun _ _ e=>e,⟨?_,?_,?_⟩,zq _,?_,zq _,?_,fun _ L e=>⟨L,e⟩,rfl,rfl,rfl⟩
 .intro j oj hj;rw[H.get_kill]at hj;split at hj
  .cases hj
  .exact hr.obj j oj hj
 .intro j k oj ok lj lk hj hk;rw[H.get_kill]at hj hk;split at hj
  .cases hj
  .split at hk
   .cases hk
   .exact hr.inj j k oj ok lj lk hj hk
 .intro j lj hj;exact hr.dom j lj hj
 .intro j _ e;rw[H.get_kill];split
  .rfl
  .exact e
 .intro β _ j5;refine⟨rfl,?_⟩;rintro⟨j,oj,lj,h1,h2⟩;rw[H.get_kill]at h1;split at h1
  .cases h1
  .exact j5 ⟨j,oj,lj,h1,h2⟩
theorem jcb{β o:Nat}{elem:TypeId}{lo hi:Nat}:∀(zs:List Value) (i:Nat) (w:World) (c:Array Value),w.heap[β]?=some (.cells c elem (lo,hi)) ->
  (∀k,k<zs.length -> ¬(lo<=o+(i+k)/\o+(i+k)<hi))->o+(i+zs.length)<=c.size->(∀z∈zs,z.oneCell'=true) ->
  ∃w' c',(storeCells ⟨β,o,none⟩ zs i).run P w = .ok () w'/\w'.heap.size=w.heap.size/\w'.heap[β]?=some (.cells c' elem (lo,hi))/\c'.toList=layL c.toList (o+i) zs /\
   (∀j,j ≠ β -> w'.heap[j]?=w.heap[j]?)/\WSame w w'
 |[],i,w,c,hb,_,_,_=>⟨w,c,by simp[storeCells],rfl,hb,by simp[layL],fun _ _=>rfl,WSame.refl w⟩
 |z::zs,i,w,c,hb,hf,hs,h1=>by
  have d4:o+i<c.size:=by simp at hs;omega
  have iL:w.cell? ⟨β,o+i,none⟩=some c[o+i]:=by rw[jcX hb];simp[d4]
  have Kb:w.frozen? ⟨β,o+i,none⟩=false:=by
   have:=hf 0 Zd;simp only[World.frozen?,hb];simp only[Nat.add_zero]at this;simp;omega
  let w1:=w.setCell ⟨β,o+i,none⟩ z;have hβ:β < w.heap.size:=by
   rcases zx β w.heap.size with d4|tB
   .exact d4
   .rw[zX tB]at hb;cases hb
  have l9:w1.heap[β]?=some (.cells (c.setIfInBounds (o+i) z) elem (lo,hi)):=by
   show (w.heap.modify β _)[β]?=_;rw[Array.getElem?_modify,zD rfl,hb];simp
  have pG:∀j,j ≠ β -> w1.heap[j]?=w.heap[j]?:=by
   intro j hj;show (w.heap.modify β _)[j]?=_;rw[Array.getElem?_modify,zC (fun e=>hj e.symm)]
  obtain⟨w',c',h2,h3,h4,h5,h6,h7⟩:=jcb zs (i+1) w1 _ l9 (fun k hk=>by
   have:=hf (k+1) (by simpa using hk);rw[show i+1+k=i+(k+1) by omega];exact this) (by simp at hs ⊢;omega) (fun z' iA=>h1 z' (zl _ iA))
  refine⟨w',c',?_,?_,h4,?_,?_,?_⟩
  .simp only[storeCells,Zj,jc5];rw[run_store P w _ z _ (h1 z (zj ..)),iL];simp only[Kb,zR,if_false,Zk];exact h2
  .rw[h3];show (w.heap.modify β _).size=_;simp
  .rw[h5];simp[layL,Nat.add_assoc]
  .intro j hj;rw[h6 j hj,pG j hj]
  .exact⟨h7.os,h7.tape,h7.output⟩
theorem jfE:∀(zs xs:List Value) (o:Nat),(layL xs o zs).length=xs.length
 |[],_,_=>rfl
 |z::zs,xs,o=>by simp[layL,jfE zs]
theorem jkm:∀(zs xs:List Value) (o k:Nat),o+zs.length<=xs.length->(layL xs o zs)[k]?=if o<=k/\k<o+zs.length then zs[k-o]? else xs[k]?
 |[],xs,o,k,_=>by simp[layL];intro h1 h2;omega
 |z::zs,xs,o,k,h=>by
  simp only[layL];rw[jkm zs _ (o+1) k (by simp at h ⊢;omega)];by_cases h1:o+1<=k/\k<o+1+zs.length
  .rw[zD h1,zD Zc];rw[show k-o=(k-(o+1))+1 by omega];rfl
  .rw[zC h1];by_cases h2:k=o
   .subst h2;simp at h;rw[zD Zd,List.getElem?_set_self om];simp
   .rw[List.getElem?_set_ne om,zC Zc]
theorem jeV:∀(zs xs:List V) (o k:Nat),o+zs.length<=xs.length->(jao xs o zs)[k]?=if o<=k/\k<o+zs.length then zs[k-o]? else xs[k]?
 |[],xs,o,k,_=>by simp[jao];intro h1 h2;omega
 |z::zs,xs,o,k,h=>by
  simp only[jao];rw[jeV zs _ (o+1) k (by simp at h ⊢;omega)];by_cases h1:o+1<=k/\k<o+1+zs.length
  .rw[zD h1,zD Zc];rw[show k-o=(k-(o+1))+1 by omega];rfl
  .rw[zC h1];by_cases h2:k=o
   .subst h2;simp at h;rw[zD Zd,List.getElem?_set_self om];simp
   .rw[List.getElem?_set_ne om,zC Zc]
theorem jfV{N b o:Nat}{vs:List V}{h':H}(hr:HRel P C m h w)(d9:h.store b o vs=some h'){loc:Loc}(hm:m b=some loc){zs:List Value}(hz:jas m vs zs) :
  ∃w',(storeCells ⟨loc.β,loc.d+o,none⟩ zs).run P w = .ok () w'/\Step P C N m h w m h' w':=by
 unfold H.store at d9;split at d9
 .next l hb=>
  simp only[zH,zp,zQ]at d9;split at d9
  .next qH=>
   cases d9;obtain⟨qH,m9⟩:=qH;obtain⟨l',co,h1,h2,c,elem,lo,hi,rfl,h3,h4,h5,h6⟩:=hr.obj b _ hb;rw[hm]at h1;cases h1;have j4:=hz.length;obtain⟨w',c',h7,h8,h9,jB,rH,nI⟩:=jcb (P:=P) (β:= loc.β) (o:=loc.d+o) zs 0 w c h2 (fun k hk=>by
    rcases h6 rfl with h6|h6<;>omega) om (fun z iA=>by
    obtain⟨k,hk⟩:=List.getElem?_of_mem iA;have cN:k<vs.length:=by
     rw[j4];rcases zx k zs.length with d4|tB
     .exact d4
     .rw[zd tB]at hk;cases hk
    obtain⟨x,hx,cF⟩:=hz.get (za cN);rw[hk]at hx;cases hx;rw[<- cF.one];exact zS.1 m9 _ (List.getElem_mem cN))
   refine⟨w',h7,jj8 hr hb rfl rfl hm h2 (H.get_set h b · _) rfl h8 h9 rH nI ⟨c',elem,lo,hi,rfl,by rw[jgb];exact h3,?_,?_,h6⟩ (fun L e=>by cases e)⟩
   .have:c'.size=c.size:=by have:=congrArg List.length jB;simpa[jfE] using this
    omega
   .intro k v hv;rw[jeV _ _ _ _ qH]at hv;have tF:c'[loc.d+k]?=(layL c.toList (loc.d+o+0) zs)[loc.d+k]?:=by rw[<- jB];simp
    rw[tF,jkm _ _ _ _ Zc];split at hv
    .next hk=>
     rw[zD om];obtain⟨x,hx,cF⟩:=hz.get hv;exact⟨x,by rw[show loc.d+k-(loc.d+o+0)=k-o by omega];exact hx,cF⟩
    .next hk=>
     rw[zC om];obtain⟨x,hx,cF⟩:=h5 k v hv;exact⟨x,by simpa using hx,cF⟩
  .cases d9
 .cases d9
end
end Am
