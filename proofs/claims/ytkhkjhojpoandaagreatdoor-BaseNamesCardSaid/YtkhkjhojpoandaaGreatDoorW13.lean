/- Our own library, part 13. -/
import Derived.Shelf.Strings.OnBuilder
import Derived.Test.YtkhkjhojpoandaaGreatDoorW12
set_option maxHeartbeats 8000000
set_option maxRecDepth 800
set_option linter.all false
namespace Am
open Go Go.Proofs Go.Shelf Go.RowKit
section
variable {P:Program} {C:Cx} {m:Mp} {h:H} {w w':World}
end
end Am
namespace Am
open Go Go.Proofs Go.Shelf Go.RowKit
mutual
theorem VRel.back {m m':Mp} (hm:Mono m m') : ∀ {v:V} {x y:Value},VRel m v x->VRel m' v y->VRel m v y
 | .bool _,_,_,_,h=>h
 | .int _ _,_,_,_,h=>h
 | .str _,_,_,_,h=>h
 | .ptr none,_,_,_,h=>h
 | .ptr (some _),_,_,⟨l,h1,_⟩,⟨l',h2,h3⟩=>by
  rw [hm _ _ h1] at h2;cases h2
  exact ⟨l,h1,h3⟩
 | .slice none _ _,_,_,_,h=>h
 | .slice (some _) _ _,_,_,⟨l,_,_,h1,_⟩,⟨l',o',c',h2,h3⟩=>by
  rw [hm _ _ h1] at h2;cases h2
  exact ⟨l,o',c',h1,h3⟩
 | .map none,_,_,_,h=>h
 | .map (some _),_,_,⟨l,h1,_⟩,⟨l',h2,h3⟩=>by
  rw [hm _ _ h1] at h2;cases h2
  exact ⟨l,h1,h3⟩
 | .clo _ cs,_,_,⟨_,_,h1⟩,⟨ys,h2,h3⟩=>⟨ys,h2,jaj.back hm h1 h3⟩
 | .yld _,_,_,⟨l,h1,_⟩,⟨l',h2,h3⟩=>by
  rw [hm _ _ h1] at h2;cases h2
  exact ⟨l,h1,h3⟩
 | .nilfn,_,_,_,h=>h
 | .bm _ _ _,_,_,⟨_,_,h1⟩,⟨y,h2,h3⟩=>⟨y,h2,VRel.back hm h1 h3⟩
 | .iface _ _,_,_,⟨_,_,h1⟩,⟨y,h2,h3⟩=>⟨y,h2,VRel.back hm h1 h3⟩
 | .nili,_,_,_,h=>h
 | .ifc,_,_,_,h=>h
 | .agg _,_,_,⟨_,_,h1⟩,⟨ys,h2,h3⟩=>⟨ys,h2,jaj.back hm h1 h3⟩
 | .tup _,_,_,⟨_,_,h1⟩,⟨ys,h2,h3⟩=>⟨ys,h2,jaj.back hm h1 h3⟩
theorem jaj.back {m m':Mp} (hm:Mono m m') : ∀ {l:List V} {xs ys:List Value},jaj m l xs->jaj m' l ys->jaj m l ys
 | [],_,_,_,h=>h
 | _ :: _,_,_,⟨_,_,_,h1,h2⟩,⟨y,s,e,h3,h4⟩=>⟨y,s,e,VRel.back hm h1 h3,jaj.back hm h2 h4⟩
end
theorem jad.back {m m':Mp} (hm:Mono m m') : ∀ {l:List (V × V × Nat)} {es fs:List MapEntry},jad m l es->jad m' l fs->jad m l fs
 | [],_,_,_,h=>h
 | (_,_,_) :: _,_,_,⟨_,_,_,h1,h2,_,h3⟩,⟨e,s,q1,q2,q3,q4,q5⟩=>⟨e,s,q1,h1.back hm q2,h2.back hm q3,q4,jad.back hm h3 q5⟩
section
variable {P:Program} {C:Cx} {m m':Mp} {h h':H} {w w':World}
theorem ORel.back (hm:Mono m m') {l:Loc} {o:Obj} {co co':Go.Obj} (a:ORel P C m l o co) (b:ORel P C m' l o co'):ORel P C m l o co':=by
 cases o with
 | cells vs ro=>
  obtain ⟨c,elem,lo,hi,h1,h3,h4,h5,h6⟩:=b
  obtain ⟨_,_,_,_,_,_,_,g5,_⟩:=a
  exact ⟨c,elem,lo,hi,h1,h3,h4,fun k v e=>by
   obtain ⟨x,hx,hv⟩:=h5 k v e
   obtain ⟨_,_,gv⟩:=g5 k v e
   exact ⟨x,hx,gv.back hm hv⟩,h6⟩
 | map es clock=>
  obtain ⟨ces,h1,h2⟩:=b
  obtain ⟨_,_,g2⟩:=a
  exact ⟨ces,h1,g2.back hm h2⟩
 | loop st pend ps env x y=>
  obtain ⟨L,nt,h1,h2,h3,h4,h5,h6⟩:=b
  obtain ⟨_,_,_,_,_,_,g5,_⟩:=a
  refine ⟨L,nt,h1,h2,h3,h4,fun s v g=>?_,h6⟩
  obtain ⟨x,hx,hv⟩:=h5 s v g
  obtain ⟨_,_,gv⟩:=g5 s v g
  exact ⟨x,hx,gv.back hm hv⟩
 | iter mp since seen last=>
  obtain ⟨h0,mp',h1,h2⟩:=b
  obtain ⟨_,mq,_,g2⟩:=a
  refine ⟨h0,mp',h1,?_⟩
  cases mp with
  | none=>exact h2
  | some r=>
   obtain ⟨l',h3,h4⟩:=h2
   obtain ⟨l0,g3,_⟩:=g2
   rw [hm _ _ g3] at h3;cases h3
   exact ⟨_,g3,h4⟩
 | siter s pos=>exact b
theorem Step.back {N:Nat} (hR:HRel P C m h w) (s:Step P C N m h w m' h' w') (ho : ∀ b o,h.get b=some o->h'.get b=some o):Step P C N m h w m h w' where
 mono:=Mono.refl _
 old:=fun _ _ e=>e
 rel:=by
  refine ⟨fun b o hg=>?_,hR.inj,hR.dom⟩
  obtain ⟨l,co,h1,h2,h3⟩:=hR.obj b o hg
  obtain ⟨l',co',g1,g2,g3⟩:=s.rel.obj b o (ho b o hg)
  rw [s.mono _ _ h1] at g1;cases g1
  exact ⟨l,co',h1,g2,h3.back s.mono g3⟩
 nx:=zn _
 dead:=fun _ _ e=>e
 size:=s.size
 frame:=fun β hβ hn=>⟨(s.frame β hβ hn).1,hn⟩
 loops:=s.loops
 os:=s.os
 tape:=s.tape
 output:=s.output
theorem Step.below {N B:Nat} (hR:HRel P C m h w) (s:Step P C N m h w m h w') {w2:World} (hb:Below B w' w2) (hB:w.heap.size<=B):Step P C N m h w m h w2 where
 mono:=Mono.refl _
 old:=fun _ _ e=>e
 rel:=by
  refine ⟨fun b o hg=>?_,hR.inj,hR.dom⟩
  obtain ⟨l,co,h1,h2,h3⟩:=s.rel.obj b o hg
  exact ⟨l,co,h1,by rw [hb.block _ (zo (hR.lt hg h1) hB)];exact h2,h3⟩
 nx:=zn _
 dead:=fun _ _ e=>e
 size:=zu s.size hb.size
 frame:=fun β hβ hn=>⟨by rw [hb.block _ (zo hβ hB)];exact (s.frame β hβ hn).1,hn⟩
 loops:=fun β L e=>by
  obtain ⟨L',e'⟩:=s.loops β L e
  exact ⟨L',by rw [hb.block β (zo (jaO e) hB)];exact e'⟩
 os:=hb.os.trans s.os
 tape:=hb.tape.trans s.tape
 output:=hb.output.trans s.output
theorem jkA {f:FuncId} {p:Prim} (he : ∀ args w,(callFunc f args).run P w = .ok (.enter f args) w)
  (hp : ∀ args h v h',p args h=some (v,h') -> ∀ m w (xs:Array Value),HRel P C m h w->GOk C m->jaj m args xs.toList->h'=h/\Calls P f xs w fun e w'=>∃ x,e = .returned x/\VRel m v x/\Step P C h.nx m h w m h w') :
  jdw P C f p:=by
 intro args h v h' hr m w xs hR hG hx c cs
 obtain ⟨rfl,hc⟩:=hp args h v h' hr m w xs hR hG hx
 obtain ⟨e,w',fr,⟨x,rfl,hv,hs⟩,hst,_,hl⟩:=hc (c :: cs)
 exact ⟨m,w',x,hs,hv,.inr ⟨he xs w,Steps.trans hst (.one (step_leave_returned hl))⟩⟩
end
end Am
namespace Am
open Go
def Obj.cl:Obj->Bool
 | .cells ..=>true
 | .map ..=>true
 | _=>false
def jmM:List (V × V × Nat)->List (V × V × Nat)->Bool
 | [],[]=>true
 | (k,v,n) :: a,(l,u,j) :: b=>V.same k l&&(V.same v u&&(Nat.beq n j&&jmM a b))
 | _,_=>false
theorem jlE : ∀ {a b:List (V × V × Nat)},jmM a b=true->a=b
 | [],[],_=>rfl
 | (k,v,n) :: a,(l,u,j) :: b,h=>by
  simp only [jmM,zm] at h
  rw [V.same_eq h.1,V.same_eq h.2.1,Nat.eq_of_beq_eq_true h.2.2.1,jlE h.2.2.2]
 | [],_ :: _,h=>by cases h
 | _ :: _,[],h=>by cases h
theorem jgn : ∀ a:List (V × V × Nat),jmM a a=true
 | []=>rfl
 | (k,v,n) :: a=>by simp [jmM,V.same_refl,jgn a]
def Obj.eqB:Obj->Obj->Bool
 | .cells a r,.cells b s=>V.sames a b&&(r == s)
 | .map a n,.map b j=>jmM a b&&Nat.beq n j
 | _,_=>false
theorem Obj.eqB_eq {a b:Obj} (h:a.eqB b=true):a=b:=by
 unfold Obj.eqB at h
 split at h
 ·simp only [zm,beq_iff_eq] at h
  rw [V.sames_eq h.1,h.2]
 ·simp only [zm] at h
  rw [jlE h.1,Nat.eq_of_beq_eq_true h.2]
 ·cases h
theorem Obj.eqB_refl {a:Obj} (h:a.cl=true):a.eqB a=true:=by
 cases a with
 | cells l r=>simp [Obj.eqB,V.sames_refl]
 | map l n=>simp [Obj.eqB,jgn]
 | _=>cases h
section
variable (R:Prog) (fu d line:Nat)
end
section
variable {R:Prog} (hF:jbd R) {fu d line:Nat}
include hF
end
end Am
namespace Am
open Go Go.Proofs Go.Shelf Go.RowKit
section
variable {P:Program} {C:Cx} {m:Mp} {h:H} {w w':World}
end
theorem jbd.cons {R R':Prog} {f:Nat} {p:Prim} (h:jmX p) (hR:jbd R') (e:R.prims=(f,p) :: R'.prims):jbd R:=by
 intro g q hq
 rw [e] at hq
 simp only [jaQ] at hq
 cases hb:Nat.beq f g with
 | true=>rw [hb] at hq;cases hq;exact h
 | false=>rw [hb] at hq;exact hR g q hq
theorem jbc.cons {P:Program} {C:Cx} {R R':Prog} {f:Nat} {p:Prim} (h:jdw P C f p) (hR:jbc P C R') (e:R.prims=(f,p) :: R'.prims):jbc P C R:=by
 intro g q hq
 rw [e] at hq
 simp only [jaQ] at hq
 cases hb:Nat.beq f g with
 | true=>
  rw [hb] at hq;cases hq
  obtain rfl:f=g:=Nat.eq_of_beq_eq_true hb
  exact h
 | false=>rw [hb] at hq;exact hR g q hq
end Am
namespace Am
open Go Go.Proofs
def frzP:Option Obj->Option Obj
 | some (.cells l _)=>some (.cells l true)
 | some (.map es ck)=>some (.map es ck)
 | _=>none
def T.frzP:T->T
 | .lf=>.lf
 | .nd v l r=>.nd (Am.frzP v) l.frzP r.frzP
def H.frzP (h:H):H:=⟨h.nx,h.t.frzP⟩
theorem T.get_frzP : ∀ (t:T) (k:Nat),t.frzP.get k=Am.frzP (t.get k)
 | .lf,_=>rfl
 | .nd v l r,k=>by
  rw [T.frzP,T.get_nd,T.get_nd]
  split
  ·rfl
  ·split
   ·exact T.get_frzP l _
   ·exact T.get_frzP r _
theorem H.get_frzP (h:H) (b:Nat):h.frzP.get b=Am.frzP (h.get b):=T.get_frzP _ _
theorem Ext.frzP {X:Nat->Option Obj} {h h2:H} (x:Ext X h h2):Ext (fun j=>Am.frzP (X j)) h.frzP h2.frzP where
 nx:=x.nx
 get:=fun j=>by
  rw [H.get_frzP,H.get_frzP,x.get]
  cases hx:X j with
  | none=>rw [Option.or_none];show _=(Am.frzP (h.get j)).or none;rw [Option.or_none]
  | some o=>
   obtain ⟨_,h2⟩:=x.off j (by rw [hx];simp)
   rw [h2];rfl
 off:=fun j hj=>by
  have:X j≠none:=fun e=>hj (by rw [e];rfl)
  obtain ⟨h1,h2⟩:=x.off j this
  exact ⟨h1,by rw [H.get_frzP,h2];rfl⟩
def mapO:Option Obj->List (Nat × Obj)
 | some (.map es ck)=>[(0,.map es ck)]
 | _=>[]
def T.maps:T->List (Nat × Obj)
 | .lf=>[]
 | .nd v l r=>mapO v++((l.maps.map fun p=>(2*p.1+1,p.2))++r.maps.map fun p=>(2*p.1+2,p.2))
theorem T.maps_mem : ∀ (t:T) {k ck:Nat} {es:List (V × V × Nat)},t.get k=some (.map es ck)->(k,Obj.map es ck)∈t.maps
 | .lf,k,ck,es,h=>by cases h
 | .nd v l r,k,ck,es,h=>by
  rw [T.get_nd] at h
  unfold T.maps
  rw [zy,zy]
  split at h
  ·next e=>subst e;subst h;exact .inl (zh ..)
  ·split at h
   ·next h0 h1=>exact .inr (.inl (List.mem_map.2 ⟨_,T.maps_mem l h,by simp;omega⟩))
   ·next h0 h1=>exact .inr (.inr (List.mem_map.2 ⟨_,T.maps_mem r h,by simp;omega⟩))
theorem T.maps_get : ∀ (t:T) {p:Nat × Obj},p∈t.maps->t.get p.1=some p.2
 | .lf,p,h=>by cases h
 | .nd v l r,p,h=>by
  unfold T.maps at h
  rw [T.get_nd]
  rcases zy.1 h with h | h
  ·unfold mapO at h
   split at h
   ·cases List.mem_singleton.1 h;rfl
   ·cases h
  ·rcases zy.1 h with h | h
   ·obtain ⟨q,hq,rfl⟩:=List.mem_map.1 h
    have:=T.maps_get l hq
    rw [zb om,zg om]
    simpa [show (2*q.1+1)/2=q.1 by omega] using this
   ·obtain ⟨q,hq,rfl⟩:=List.mem_map.1 h
    have:=T.maps_get r hq
    rw [zb om,zb om]
    simpa [show (2*q.1+2)/2-1=q.1 by omega] using this
def hasM (h:H):List (Nat × Obj)->Bool
 | []=>true
 | p :: r=>(match h.get p.1 with
  | some o=>o.eqB p.2
  | none=>false)&&hasM h r
theorem jgT {h:H} : ∀ {l:List (Nat × Obj)},hasM h l=true -> ∀ p∈l,h.get p.1=some p.2
 | q :: r,hb,p,hp=>by
  simp only [hasM,zm] at hb
  rcases zD.1 hp with rfl | hp
  ·obtain ⟨h1,_⟩:=hb
   split at h1
   ·next o ho=>rw [ho,Obj.eqB_eq h1]
   ·cases h1
  ·exact jgT hb.2 p hp
theorem jnN {h:H} (hc : ∀ o:Obj,(∃ es ck,o = .map es ck)->o.eqB o=true) : ∀ {l:List (Nat × Obj)},(∀ p∈l,h.get p.1=some p.2)->(∀ p∈l,∃ es ck,p.2 = .map es ck)->hasM h l=true
 | [],_,_=>rfl
 | q :: r,hg,hm=>by
  simp only [hasM,zm]
  refine ⟨?_,jnN hc (fun p hp=>hg p (zj _ hp)) fun p hp=>hm p (zj _ hp)⟩
  rw [hg q (zh ..)]
  exact hc _ (hm q (zh ..))
theorem T.maps_map : ∀ (t:T) {p:Nat × Obj},p∈t.maps -> ∃ es ck,p.2 = .map es ck
 | .lf,p,h=>by cases h
 | .nd v l r,p,h=>by
  unfold T.maps at h
  rcases zy.1 h with h | h
  ·unfold mapO at h
   split at h
   ·cases List.mem_singleton.1 h;exact ⟨_,_,rfl⟩
   ·cases h
  ·rcases zy.1 h with h | h
   ·obtain ⟨q,hq,rfl⟩:=List.mem_map.1 h
    exact T.maps_map l (p:=q) hq
   ·obtain ⟨q,hq,rfl⟩:=List.mem_map.1 h
    exact T.maps_map r (p:=q) hq
theorem jlB {X:Nat->Option Obj} {h h2 h1 h3:H} (x:Ext X h h2) (x':Ext (fun j=>Am.frzP (X j)) h1 h3) (hk:hasM h1 h.t.maps=true):hasM h3 h2.t.maps=true:=by
 refine jnN (fun o ⟨es,ck,e⟩=>by subst e;exact Obj.eqB_refl rfl) (fun p hp=>?_) fun p hp=>T.maps_map h2.t hp
 have hg:h2.get p.1=some p.2:=T.maps_get h2.t hp
 obtain ⟨es,ck,e⟩:=T.maps_map h2.t hp
 rw [x.get] at hg
 cases hh:h.get p.1 with
 | some o=>
  rw [hh] at hg
  have hg:o=p.2:=by cases hg;rfl
  rw [hg,e] at hh
  rw [e]
  exact x'.has (jgT hk _ (T.maps_mem h.t hh))
 | none=>
  rw [hh] at hg
  have hX:X p.1=some p.2:=hg
  have hX':Am.frzP (X p.1)=some p.2:=by rw [hX,e];rfl
  have:=(x'.off p.1 (by show Am.frzP (X p.1)≠none;rw [hX'];simp)).2
  rw [x'.get,this]
  exact hX'
section
variable {P:Program} {C:Cx} {m:Mp} {h:H} {w w':World}
theorem HRel.frzP (hR:HRel P C m h w):HRel P C m h.frzP w where
 obj:=fun b o hg=>by
  rw [H.get_frzP] at hg
  cases hh:h.get b with
  | none=>rw [hh] at hg;cases hg
  | some o2=>
   rw [hh] at hg
   cases o2<;>cases hg
   ·next l ro=>
    obtain ⟨l2,co,h1,h2,c,el,lo,hi,q1,q2,q3,q4,q5⟩:=hR.obj _ _ hh
    exact ⟨l2,co,h1,h2,c,el,lo,hi,q1,q2,q3,q4,fun e=>by cases e⟩
   ·exact hR.obj _ _ hh
 inj:=fun b b' o o' l l' h1 h2 hne e1 e2 e3=>by
  have key : ∀ k x,h.frzP.get k=some x -> ∃ y,h.get k=some y/\(y.ro=true->x.ro=true):=fun k x hx=>by
   rw [H.get_frzP] at hx
   cases hh:h.get k with
   | none=>rw [hh] at hx;cases hx
   | some o2=>
    rw [hh] at hx
    cases o2<;>cases hx
    ·exact ⟨_,rfl,fun _=>rfl⟩
    ·exact ⟨_,rfl,fun e=>e⟩
  obtain ⟨y,hy,y1⟩:=key _ _ h1
  obtain ⟨y',hy',y1'⟩:=key _ _ h2
  obtain ⟨r1,r2⟩:=hR.inj b b' y y' l l' hy hy' hne e1 e2 e3
  exact ⟨y1 r1,y1' r2⟩
 dom:=hR.dom
theorem jfj {R:Prog} (hP:ProgOk P C R) {fu n f:Nat} {a:AFn} (ha:jaQ R.fns f=some a) (hp:jaQ R.prims f=none) {args:List V} {xs:Array Value} {v:V} {h1:H}
  (hr:jaD R fu (n+1) (.fn f) args h.frzP=some (v,h1)) (hk:hasM h1 h.t.maps=true) (hR:HRel P C m h w) (hG:GOk C m) (hx:jaj m args xs.toList) {x:Value} (hv : ∀ m' y,VRel m' v y->y=x):Calls P f xs w fun e w'=>e = .returned x/\Step P C h.nx m h w m h w':=by
 refine (jhr hP ha hp hr hR.frzP hG hx).calls fun m' w' y s hy=>⟨by rw [hv m' y hy],?_⟩
 have hno : ∀ β,jcW m h.frzP β -> ∃ b es ck l,h.get b=some (.map es ck)/\m b=some l/\l.β = β := fun β ⟨b2,o2,l2,g1,g2,g3,g4⟩=>by
  rw [H.get_frzP] at g1
  cases hh:h.get b2 with
  | none=>rw [hh] at g1;cases g1
  | some o3=>
   rw [hh] at g1
   cases o3<;>cases g1
   ·cases g2
   ·exact ⟨b2,_,_,l2,hh,g3,g4⟩
 have how : ∀ β,¬ jcW m h β -> ¬ jcW m h.frzP β := fun β hn e=>by
  obtain ⟨b,es,ck,l,q1,q2,q3⟩:=hno β e
  exact hn ⟨b,_,l,q1,rfl,q2,q3⟩
 refine ⟨Mono.refl _,fun _ _ e=>e,⟨fun b o hg=>?_,hR.inj,hR.dom⟩,zn _,fun _ _ e=>e,s.size,fun β hβ hn=>⟨(s.frame β hβ (how β hn)).1,hn⟩,s.loops,s.os,s.tape,s.output⟩
 obtain ⟨l,co,q1,q2,q3⟩:=hR.obj _ _ hg
 by_cases hm : ∃ es ck,o = .map es ck
 ·obtain ⟨es,ck,rfl⟩:=hm
  have hg1:=jgT hk _ (T.maps_mem h.t hg)
  obtain ⟨l',co',r1,r2,r3⟩:=s.rel.obj _ _ hg1
  have:=s.mono _ _ q1
  rw [this] at r1;cases r1
  exact ⟨l,co',q1,r2,ORel.back s.mono q3 r3⟩
 ·refine ⟨l,co,q1,?_,q3⟩
  rw [(s.frame l.β (jaO q2) fun e=>?_).1]
  ·exact q2
  ·obtain ⟨b2,es,ck,l2,p1,p2,p3⟩:=hno _ e
   by_cases hbb:b=b2
   ·subst hbb
    rw [hg] at p1;cases p1
    exact hm ⟨_,_,rfl⟩
   ·have:=(hR.inj b b2 o _ l l2 hg p1 hbb q1 p2 p3.symm).2
    cases this
end
end Am
namespace Am
open Go
section
variable (R:Prog) (fu d pend:Nat)
def jf4 (h:H) (p k:V):Option Bool :=
 match jaD R fu d (.fn pend) [p,k] h.frzP with
 | some (.int .i64 n,h1)=>bif hasM h1 h.t.maps&&(decide (0<=n)&&decide (n<=127)) then some (!(decide (n=0)||decide (n=64))) else none
 | _=>none
def cntK (h:H) (p:V):List (V × V × Nat)->Option Nat
 | []=>some 0
 | (k,_,_) :: r=>match jf4 R fu d pend h p k with
  | some b=>match cntK h p r with
   | some c=>some (bif b then c+1 else c)
   | none=>none
  | none=>none
def jdB (clock:Nat):List (V × V × Nat)->Bool
 | []=>true
 | (k,_,n) :: r=>(match k with
  | .int .i64 j=>decide (-9223372036854775808<=j)&&decide (j<=9223372036854775807)
  | _=>false)&&(Nat.blt n clock&&((r.all fun e=>!(Nat.beq e.2.2 n) && !(V.same e.1 k))&&jdB clock r))
def pAdd (none_ off:Nat):Prim
 | [p],h=>match jaD R fu d (.fn none_) [p] h.frzP with
  | some (.bool bad,h1)=>bif hasM h1 h.t.maps then
    bif bad then some (.i 0,h) else (match p with
     | .ptr (some (b,o))=>match h.load1 b (o+off) with
      | some (.map (some mb))=>match h.get mb with
       | some (.map es ck)=>match (bif jdB ck es&&Nat.ble es.length 1000000 then cntK R fu d pend h p es else none) with
        | some c=>some (.i (c:Int),h)
        | none=>none
       | _=>none
      | _=>none
     | _=>none)
   else none
  | _=>none
 | _,_=>none
end
section
variable {R:Prog} (hF:jbd R) {fu d pend:Nat}
include hF
theorem addAt_F {X:Nat->Option Obj} {h h2:H} (x:Ext X h h2) {p k:V} {b:Bool} (hr:jf4 R fu d pend h p k=some b):jf4 R fu d pend h2 p k=some b:=by
 unfold jf4 at hr ⊢
 split at hr
 ·next n h1 hcall=>
  obtain ⟨h2',e2,x'⟩:=(jch hF fu d).1 _ _ _ _ _ hcall _ _ x.frzP
  simp only [e2]
  cases hk:hasM h1 h.t.maps with
  | false=>rw [hk] at hr;cases hr
  | true=>
   rw [hk] at hr
   rw [jlB x x' hk]
   exact hr
 ·cases hr
theorem jpi {X:Nat->Option Obj} {h h2:H} (x:Ext X h h2) {p:V} : ∀ {es:List (V × V × Nat)} {c:Nat},cntK R fu d pend h p es=some c->cntK R fu d pend h2 p es=some c
 | [],c,hr=>hr
 | (k,_,_) :: r,c,hr=>by
  unfold cntK at hr ⊢
  split at hr
  ·next b hb=>
   rw [addAt_F hF x hb]
   split at hr
   ·next c1 hc1=>
    rw [jpi x hc1]
    exact hr
   ·cases hr
  ·cases hr
theorem pAdd_F {none_ off:Nat} : jmX (pAdd R fu d pend none_ off):=by
 intro args h v h' hr
 unfold pAdd at hr
 split at hr
 ·next p=>
  split at hr
  ·next bad h1 hcall=>
   have hx:h'=h:=by
    revert hr
    cases hasM h1 h.t.maps with
    | false=>intro hr;cases hr
    | true=>
     cases bad with
     | true=>intro hr;cases hr;rfl
     | false=>
      simp only [cond_true,cond_false]
      intro hr
      split at hr
      ·split at hr
       ·split at hr
        ·split at hr
         ·cases hr;rfl
         ·cases hr
        ·cases hr
       ·cases hr
      ·cases hr
   subst hx
   refine ⟨zn _,fun X h2 x=>⟨h2,?_,x⟩⟩
   obtain ⟨h2',e2,x'⟩:=(jch hF fu d).1 _ _ _ _ _ hcall _ _ x.frzP
   simp only [pAdd,e2]
   cases hk:hasM h1 h'.t.maps with
   | false=>rw [hk] at hr;cases hr
   | true=>
    rw [hk] at hr
    rw [jlB x x' hk]
    cases bad with
    | true=>
     simp only [cond_true] at hr ⊢
     cases hr;rfl
    | false=>
     simp only [cond_true,cond_false] at hr ⊢
     split at hr
     ·next b o=>
      split at hr
      ·next mb hl=>
       split at hr
       ·next es ck he=>
        split at hr
        ·next c hcn=>
         cases hgm:jdB ck es&&Nat.ble es.length 1000000 with
         | false=>rw [hgm] at hcn;cases hcn
         | true=>
          rw [hgm] at hcn
          have hcn:cntK R fu d pend h' (.ptr (some (b,o))) es=some c:=hcn
          simp only [x.load1 hl,x.has he,hgm,cond_true,jpi hF x hcn]
          cases hr;rfl
        ·cases hr
       ·cases hr
      ·cases hr
     ·cases hr
  ·cases hr
 ·cases hr
end
end Am
namespace Am
open Go
def kLt (x y:Int × Int):Bool:=decide (x.1<y.1)||(decide (x.1=y.1)&&decide (x.2<y.2))
def kIns (x:Int × Int):List (Int × Int)->List (Int × Int)
 | []=>[x]
 | y :: r=>bif kLt y x then y :: kIns x r else x :: y :: r
def jfH:List (Int × Int)->List (Int × Int)
 | []=>[]
 | x :: r=>kIns x (jfH r)
def jgl:List (Int × Int)->List V
 | []=>[]
 | x :: r=>.int .i64 x.1 :: .int .i64 x.2 :: jgl r
def jc1:V->Option (Int × Int)
 | .agg [.int .i64 a,.int .i64 b]=>some (a,b)
 | _=>none
def jkM (clock:Nat):List (V × V × Nat)->Bool
 | []=>true
 | (k,_,n) :: r=>(jc1 k).isSome&&(Nat.blt n clock&&((r.all fun e=>!(Nat.beq e.2.2 n))&&jkM clock r))
def frzO:Option Obj->Option Obj
 | some (.cells l _)=>some (.cells l true)
 | _=>none
def T.frz:T->T
 | .lf=>.lf
 | .nd v l r=>.nd (frzO v) l.frz r.frz
def H.frz (h:H):H:=⟨h.nx,h.t.frz⟩
theorem T.get_frz : ∀ (t:T) (k:Nat),t.frz.get k=frzO (t.get k)
 | .lf,_=>rfl
 | .nd v l r,k=>by
  rw [T.frz,T.get_nd,T.get_nd]
  split
  ·rfl
  ·split
   ·exact T.get_frz l _
   ·exact T.get_frz r _
theorem H.get_frz (h:H) (b:Nat):h.frz.get b=frzO (h.get b):=T.get_frz _ _
theorem Ext.frz {X:Nat->Option Obj} {h h2:H} (x:Ext X h h2):Ext (fun j=>frzO (X j)) h.frz h2.frz where
 nx:=x.nx
 get:=fun j=>by
  rw [H.get_frz,H.get_frz,x.get]
  cases hx:X j with
  | none=>rw [Option.or_none];show _=(frzO (h.get j)).or none;rw [Option.or_none]
  | some o=>
   obtain ⟨_,h2⟩:=x.off j (by rw [hx];simp)
   rw [h2];rfl
 off:=fun j hj=>by
  have:X j≠none:=fun e=>hj (by rw [e];rfl)
  obtain ⟨h1,h2⟩:=x.off j this
  exact ⟨h1,by rw [H.get_frz,h2];rfl⟩
def H.one (h:H) (mb:Nat) (es:List (V × V × Nat)) (ck:Nat):H:=h.frz.set mb (.map es ck)
section
variable (R:Prog) (fu d find:Nat)
def jfi (g:H) (mb:Nat) (es:List (V × V × Nat)) (ck:Nat) (p k:V):Option Bool :=
 match jaD R fu d (.fn find) [p,k] g with
 | some (.tup [.agg l,.bool b],h1)=>bif (match h1.get mb with
   | some o=>o.eqB (.map es ck)
   | none=>false)&&(Nat.beq l.length 4&&l.all V.one) then some b else none
 | _=>none
def jjk (g:H) (mb:Nat) (es:List (V × V × Nat)) (ck:Nat) (p:V):List (V × V × Nat)->Option (List (Int × Int))
 | []=>some []
 | (k,_,_) :: r=>match jc1 k with
  | some x=>match jfi R fu d find g mb es ck p k with
   | some b=>match jjk g mb es ck p r with
    | some l=>some (bif b then x :: l else l)
    | none=>none
   | none=>none
  | none=>none
def jkC (off:Nat):Prim
 | [.ptr (some (b,o))],h=>match h.load1 b (o+off) with
  | some (.map (some mb))=>match h.get mb with
   | some (.map es ck)=>bif jkM ck es&&Nat.ble es.length 1000000 then
     match jjk R fu d find (h.one mb es ck) mb es ck (.ptr (some (b,o))) es with
     | some []=>some (.slice none 0 (.fix 0),h)
     | some (x :: l)=>some (jbw h (jgl (jfH (x :: l))) (x :: l).length (.grow 2))
     | none=>none
    else none
   | _=>none
  | _=>none
 | _,_=>none
end
section
variable {R:Prog} (hF:jbd R) {fu d find:Nat}
include hF
theorem keyAt_F {X:Nat->Option Obj} {g g2:H} (x:Ext X g g2) {mb ck:Nat} {es:List (V × V × Nat)} {p k:V} {b:Bool} (hr:jfi R fu d find g mb es ck p k=some b):jfi R fu d find g2 mb es ck p k=some b:=by
 unfold jfi at hr ⊢
 split at hr
 ·next l b1 h1 hcall=>
  obtain ⟨h2',e2,x'⟩:=(jch hF fu d).1 _ _ _ _ _ hcall X g2 x
  simp only [e2]
  cases hk:h1.get mb with
  | none=>rw [hk] at hr;cases hr
  | some o=>
   rw [hk] at hr
   rw [x'.has hk]
   exact hr
 ·cases hr
theorem jkI {X:Nat->Option Obj} {g g2:H} (x:Ext X g g2) {mb ck:Nat} {es0:List (V × V × Nat)} {p:V} : ∀ {es:List (V × V × Nat)} {l:List (Int × Int)},jjk R fu d find g mb es0 ck p es=some l->jjk R fu d find g2 mb es0 ck p es=some l
 | [],l,hr=>hr
 | (k,_,_) :: r,l,hr=>by
  unfold jjk at hr ⊢
  split at hr
  ·next y hy=>
   split at hr
   ·next b hb=>
    simp only [hy,keyAt_F hF x hb]
    split at hr
    ·next l1 hl1=>
     rw [jkI x hl1]
     exact hr
    ·cases hr
   ·cases hr
  ·cases hr
theorem pKeys_F {off:Nat} : jmX (jkC R fu d find off):=by
 intro args h v h' hr
 unfold jkC at hr
 split at hr
 ·next b o=>
  split at hr
  ·next mb hl=>
   split at hr
   ·next es ck he=>
    cases hg:jkM ck es&&Nat.ble es.length 1000000 with
    | false=>rw [hg] at hr;cases hr
    | true=>
     rw [hg] at hr
     simp only [cond_true] at hr
     have hz : ∀ X h2,Ext X h h2->Ext (fun j=>frzO (X j)) (h.one mb es ck) (h2.one mb es ck):=fun X h2 x=>x.frz.set (by rw [x.none_of he];rfl) _
     split at hr
     ·next hk=>
      cases hr
      refine ⟨zn _,fun X h2 x=>⟨h2,?_,x⟩⟩
      simp only [jkC,x.load1 hl,x.has he,hg,cond_true,jkI hF (hz X h2 x) hk]
     ·next y l hk=>
      simp only [jbw,Option.some.injEq,Prod.mk.injEq] at hr
      obtain ⟨rfl,rfl⟩:=hr
      refine ⟨Nat.le_succ _,fun X h2 x=>⟨_,?_,x.new _⟩⟩
      simp only [jkC,x.load1 hl,x.has he,hg,cond_true,jkI hF (hz X h2 x) hk,jbw,x.nx]
     ·cases hr
   ·cases hr
  ·cases hr
 ·cases hr
end
end Am
namespace Am
open Go
def zIns (x:Int):List Int->List Int
 | []=>[x]
 | y :: r=>bif decide (y<x) then y :: zIns x r else x :: y :: r
def jh6:List Int->List Int
 | []=>[]
 | x :: r=>zIns x (jh6 r)
def zKey:V->Int
 | .int .i64 a=>a
 | _=>0
def zRow (h:H) (es:List (V × V × Nat)):V × H :=
 match es with
 | []=>(.slice none 0 (.fix 0),h)
 | e :: r=>jbw h ((jh6 ((e :: r).map fun e=>zKey e.1)).map (.int .i64)) (e :: r).length (.grow 1)
section
variable (R:Prog) (fu d del clo:Nat)
def pAll (off:Nat):Prim
 | [.ptr (some (b,o))],h=>match h.load1 b (o+off) with
  | some (.map (some mb))=>match h.get mb with
   | some (.map es ck)=>bif jdB ck es&&Nat.ble es.length 1000000 then
     jaD R fu d (.fn del) [(zRow (h.new (.cells [.ptr (some (b,o))] false)) es).1,.clo clo [.ptr (some (h.nx,0))]] (zRow (h.new (.cells [.ptr (some (b,o))] false)) es).2
    else none
   | _=>none
  | _=>none
 | _,_=>none
end
section
variable {R:Prog} (hF:jbd R) {fu d del clo:Nat}
include hF
theorem pAll_F {off:Nat} : jmX (pAll R fu d del clo off):=by
 intro args h v h' hr
 unfold pAll at hr
 split at hr
 ·next b o=>
  split at hr
  ·next mb hl=>
   split at hr
   ·next es ck he=>
    cases hg:jdB ck es&&Nat.ble es.length 1000000 with
    | false=>rw [hg] at hr;cases hr
    | true=>
     rw [hg] at hr
     simp only [cond_true] at hr
     have hz : ∀ (X:Nat->Option Obj) (h2:H),Ext X h h2->(zRow (h2.new (.cells [.ptr (some (b,o))] false)) es).1=(zRow (h.new (.cells [.ptr (some (b,o))] false)) es).1/\Ext X (zRow (h.new (.cells [.ptr (some (b,o))] false)) es).2 (zRow (h2.new (.cells [.ptr (some (b,o))] false)) es).2:=fun X h2 x=>by
      cases es with
      | nil=>exact ⟨rfl,x.new _⟩
      | cons e r=>
       refine ⟨?_,(x.new _).new _⟩
       simp only [zRow,jbw]
       rw [(x.new _).nx]
     have hnx:h.nx<=(zRow (h.new (.cells [.ptr (some (b,o))] false)) es).2.nx:=by
      cases es with
      | nil=>exact Nat.le_succ _
      | cons e r=>exact zu (Nat.le_succ _) (Nat.le_succ _)
     refine ⟨zu hnx ((jch hF fu d).2 _ _ _ _ _ hr),fun X h2 x=>?_⟩
     obtain ⟨z1,z2⟩:=hz X h2 x
     obtain ⟨h2',e2,x'⟩:=(jch hF fu d).1 _ _ _ _ _ hr _ _ z2
     refine ⟨h2',?_,x'⟩
     simp only [pAll,x.load1 hl,x.has he,hg,cond_true,z1,x.nx]
     exact e2
   ·cases hr
  ·cases hr
 ·cases hr
end
end Am
