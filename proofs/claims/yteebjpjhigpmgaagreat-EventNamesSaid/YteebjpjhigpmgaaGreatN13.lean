/- Our own library, part 13. -/
import Derived.Shelf.Strings.OnBuilder
import Derived.Test.YteebjpjhigpmgaaGreatN12
set_option maxHeartbeats 8000000
set_option maxRecDepth 800
set_option linter.all false
namespace Am
open Go Go.Proofs Go.Shelf Go.RowKit
section
variable {P:Program} {C:Cx} {m:Mp} {h:H} {w w':World}
end
end Am
namespace Am
open Go Go.Proofs Go.Shelf Go.RowKit
mutual
theorem VRel.back {m m':Mp} (hm:Mono m m') : ∀ {v:V} {x y:Value},VRel m v x->VRel m' v y->VRel m v y
 | .bool _,_,_,_,h=>h
 | .int _ _,_,_,_,h=>h
 | .str _,_,_,_,h=>h
 | .ptr none,_,_,_,h=>h
 | .ptr (some _),_,_,⟨l,h1,_⟩,⟨l',h2,h3⟩=>by
  rw [hm _ _ h1] at h2;cases h2
  exact ⟨l,h1,h3⟩
 | .slice none _ _,_,_,_,h=>h
 | .slice (some _) _ _,_,_,⟨l,_,_,h1,_⟩,⟨l',o',c',h2,h3⟩=>by
  rw [hm _ _ h1] at h2;cases h2
  exact ⟨l,o',c',h1,h3⟩
 | .map none,_,_,_,h=>h
 | .map (some _),_,_,⟨l,h1,_⟩,⟨l',h2,h3⟩=>by
  rw [hm _ _ h1] at h2;cases h2
  exact ⟨l,h1,h3⟩
 | .clo _ cs,_,_,⟨_,_,h1⟩,⟨ys,h2,h3⟩=>⟨ys,h2,jae.back hm h1 h3⟩
 | .yld _,_,_,⟨l,h1,_⟩,⟨l',h2,h3⟩=>by
  rw [hm _ _ h1] at h2;cases h2
  exact ⟨l,h1,h3⟩
 | .nilfn,_,_,_,h=>h
 | .bm _ _ _,_,_,⟨_,_,h1⟩,⟨y,h2,h3⟩=>⟨y,h2,VRel.back hm h1 h3⟩
 | .iface _ _,_,_,⟨_,_,h1⟩,⟨y,h2,h3⟩=>⟨y,h2,VRel.back hm h1 h3⟩
 | .nili,_,_,_,h=>h
 | .ifc,_,_,_,h=>h
 | .agg _,_,_,⟨_,_,h1⟩,⟨ys,h2,h3⟩=>⟨ys,h2,jae.back hm h1 h3⟩
 | .tup _,_,_,⟨_,_,h1⟩,⟨ys,h2,h3⟩=>⟨ys,h2,jae.back hm h1 h3⟩
theorem jae.back {m m':Mp} (hm:Mono m m') : ∀ {l:List V} {xs ys:List Value},jae m l xs->jae m' l ys->jae m l ys
 | [],_,_,_,h=>h
 | _ :: _,_,_,⟨_,_,_,h1,h2⟩,⟨y,s,e,h3,h4⟩=>⟨y,s,e,VRel.back hm h1 h3,jae.back hm h2 h4⟩
end
theorem jaa.back {m m':Mp} (hm:Mono m m') : ∀ {l:List (V × V × Nat)} {es fs:List MapEntry},jaa m l es->jaa m' l fs->jaa m l fs
 | [],_,_,_,h=>h
 | (_,_,_) :: _,_,_,⟨_,_,_,h1,h2,_,h3⟩,⟨e,s,q1,q2,q3,q4,q5⟩=>⟨e,s,q1,h1.back hm q2,h2.back hm q3,q4,jaa.back hm h3 q5⟩
section
variable {P:Program} {C:Cx} {m m':Mp} {h h':H} {w w':World}
theorem ORel.back (hm:Mono m m') {l:Loc} {o:Obj} {co co':Go.Obj} (a:ORel P C m l o co) (b:ORel P C m' l o co'):ORel P C m l o co':=by
 cases o with
 | cells vs ro=>
  obtain ⟨c,elem,lo,hi,h1,h3,h4,h5,h6⟩:=b
  obtain ⟨_,_,_,_,_,_,_,g5,_⟩:=a
  exact ⟨c,elem,lo,hi,h1,h3,h4,fun k v e=>by
   obtain ⟨x,hx,hv⟩:=h5 k v e
   obtain ⟨_,_,gv⟩:=g5 k v e
   exact ⟨x,hx,gv.back hm hv⟩,h6⟩
 | map es clock=>
  obtain ⟨ces,h1,h2⟩:=b
  obtain ⟨_,_,g2⟩:=a
  exact ⟨ces,h1,g2.back hm h2⟩
 | loop st pend ps env x y=>
  obtain ⟨L,nt,h1,h2,h3,h4,h5,h6⟩:=b
  obtain ⟨_,_,_,_,_,_,g5,_⟩:=a
  refine ⟨L,nt,h1,h2,h3,h4,fun s v g=>?_,h6⟩
  obtain ⟨x,hx,hv⟩:=h5 s v g
  obtain ⟨_,_,gv⟩:=g5 s v g
  exact ⟨x,hx,gv.back hm hv⟩
 | iter mp since seen last=>
  obtain ⟨h0,mp',h1,h2⟩:=b
  obtain ⟨_,mq,_,g2⟩:=a
  refine ⟨h0,mp',h1,?_⟩
  cases mp with
  | none=>exact h2
  | some r=>
   obtain ⟨l',h3,h4⟩:=h2
   obtain ⟨l0,g3,_⟩:=g2
   rw [hm _ _ g3] at h3;cases h3
   exact ⟨_,g3,h4⟩
 | siter s pos=>exact b
theorem Step.back {N:Nat} (hR:HRel P C m h w) (s:Step P C N m h w m' h' w') (ho : ∀ b o,h.get b=some o->h'.get b=some o):Step P C N m h w m h w' where
 mono:=Mono.refl _
 old:=fun _ _ e=>e
 rel:=by
  refine ⟨fun b o hg=>?_,hR.inj,hR.dom⟩
  obtain ⟨l,co,h1,h2,h3⟩:=hR.obj b o hg
  obtain ⟨l',co',g1,g2,g3⟩:=s.rel.obj b o (ho b o hg)
  rw [s.mono _ _ h1] at g1;cases g1
  exact ⟨l,co',h1,g2,h3.back s.mono g3⟩
 nx:=zn _
 dead:=fun _ _ e=>e
 size:=s.size
 frame:=fun β hβ hn=>⟨(s.frame β hβ hn).1,hn⟩
 loops:=s.loops
 os:=s.os
 tape:=s.tape
 output:=s.output
theorem Step.below {N B:Nat} (hR:HRel P C m h w) (s:Step P C N m h w m h w') {w2:World} (hb:Below B w' w2) (hB:w.heap.size<=B):Step P C N m h w m h w2 where
 mono:=Mono.refl _
 old:=fun _ _ e=>e
 rel:=by
  refine ⟨fun b o hg=>?_,hR.inj,hR.dom⟩
  obtain ⟨l,co,h1,h2,h3⟩:=s.rel.obj b o hg
  exact ⟨l,co,h1,by rw [hb.block _ (zo (hR.lt hg h1) hB)];exact h2,h3⟩
 nx:=zn _
 dead:=fun _ _ e=>e
 size:=zu s.size hb.size
 frame:=fun β hβ hn=>⟨by rw [hb.block _ (zo hβ hB)];exact (s.frame β hβ hn).1,hn⟩
 loops:=fun β L e=>by
  obtain ⟨L',e'⟩:=s.loops β L e
  exact ⟨L',by rw [hb.block β (zo (ja0 e) hB)];exact e'⟩
 os:=hb.os.trans s.os
 tape:=hb.tape.trans s.tape
 output:=hb.output.trans s.output
theorem jdU {f:FuncId} {p:Prim} (he : ∀ args w,(callFunc f args).run P w = .ok (.enter f args) w)
  (hp : ∀ args h v h',p args h=some (v,h') -> ∀ m w (xs:Array Value),HRel P C m h w->GOk C m->jae m args xs.toList->h'=h/\Calls P f xs w fun e w'=>∃ x,e = .returned x/\VRel m v x/\Step P C h.nx m h w m h w') :
  jfy P C f p:=by
 intro args h v h' hr m w xs hR hG hx c cs
 obtain ⟨rfl,hc⟩:=hp args h v h' hr m w xs hR hG hx
 obtain ⟨e,w',fr,⟨x,rfl,hv,hs⟩,hst,_,hl⟩:=hc (c :: cs)
 exact ⟨m,w',x,hs,hv,.inr ⟨he xs w,Steps.trans hst (.one (step_leave_returned hl))⟩⟩
end
end Am
namespace Am
open Go
def Obj.cl:Obj->Bool
 | .cells ..=>true
 | .map ..=>true
 | _=>false
def jbu:Option Obj->Option Obj
 | some o=>bif o.cl then some o else none
 | none=>none
def T.filt:T->T
 | .lf=>.lf
 | .nd v l r=>.nd (jbu v) l.filt r.filt
def H.filt (h:H):H:=⟨h.nx,h.t.filt⟩
theorem T.get_filt : ∀ (t:T) (k:Nat),t.filt.get k=jbu (t.get k)
 | .lf,_=>rfl
 | .nd v l r,k=>by
  rw [T.filt,T.get_nd,T.get_nd]
  split
  ·rfl
  ·split
   ·exact T.get_filt l _
   ·exact T.get_filt r _
theorem H.get_filt (h:H) (b:Nat):h.filt.get b=jbu (h.get b):=T.get_filt _ _
theorem jas {x:Option Obj} {o:Obj} : jbu x=some o↔x=some o/\o.cl=true:=by
 cases x with
 | none=>simp [jbu]
 | some y=>
  simp only [jbu]
  cases hy:y.cl
  ·simp only [cond_false]
   constructor
   ·intro e;cases e
   ·rintro ⟨e,h⟩;cases e;rw [hy] at h;cases h
  ·simp only [cond_true]
   constructor
   ·intro e;cases e;exact ⟨rfl,hy⟩
   ·exact fun e=>e.1
def jeT:List (V × V × Nat)->List (V × V × Nat)->Bool
 | [],[]=>true
 | (k,v,n) :: a,(l,u,j) :: b=>V.same k l&&(V.same v u&&(Nat.beq n j&&jeT a b))
 | _,_=>false
theorem jet : ∀ {a b:List (V × V × Nat)},jeT a b=true->a=b
 | [],[],_=>rfl
 | (k,v,n) :: a,(l,u,j) :: b,h=>by
  simp only [jeT,zm] at h
  rw [V.same_eq h.1,V.same_eq h.2.1,Nat.eq_of_beq_eq_true h.2.2.1,jet h.2.2.2]
 | [],_ :: _,h=>by cases h
 | _ :: _,[],h=>by cases h
theorem jcV : ∀ a:List (V × V × Nat),jeT a a=true
 | []=>rfl
 | (k,v,n) :: a=>by simp [jeT,V.same_refl,jcV a]
def Obj.eqB:Obj->Obj->Bool
 | .cells a r,.cells b s=>V.sames a b&&(r == s)
 | .map a n,.map b j=>jeT a b&&Nat.beq n j
 | _,_=>false
theorem Obj.eqB_eq {a b:Obj} (h:a.eqB b=true):a=b:=by
 unfold Obj.eqB at h
 split at h
 ·simp only [zm,beq_iff_eq] at h
  rw [V.sames_eq h.1,h.2]
 ·simp only [zm] at h
  rw [jet h.1,Nat.eq_of_beq_eq_true h.2]
 ·cases h
theorem Obj.eqB_refl {a:Obj} (h:a.cl=true):a.eqB a=true:=by
 cases a with
 | cells l r=>simp [Obj.eqB,V.sames_refl]
 | map l n=>simp [Obj.eqB,jcV]
 | _=>cases h
def jbj (h h':H):Nat->Bool
 | 0=>true
 | n+1=>(match h.get n with
  | none=>true
  | some o=>match h'.get n with
   | none=>false
   | some o'=>o.eqB o')&&jbj h h' n
theorem jdj {h h':H} : ∀ {n:Nat},jbj h h' n=true -> ∀ b o,b<n->h.get b=some o->h'.get b=some o
 | 0,_,b,o,hb,_=>by omega
 | n+1,hk,b,o,hb,hg=>by
  simp only [jbj,zm] at hk
  by_cases e:b=n
  ·subst e
   rw [hg] at hk
   have h1:=hk.1
   simp only at h1
   split at h1
   ·cases h1
   ·next o' h2=>rw [h2,Obj.eqB_eq h1]
  ·exact jdj hk.2 b o om hg
theorem jer {h h':H} : ∀ {n:Nat},(∀ b o,b<n->h.get b=some o->o.cl=true/\h'.get b=some o)->jbj h h' n=true
 | 0,_=>rfl
 | n+1,hk=>by
  simp only [jbj,zm]
  refine ⟨?_,jer fun b o hb=>hk b o om⟩
  cases hg:h.get n with
  | none=>rfl
  | some o=>
   obtain ⟨h1,h2⟩:=hk n o om hg
   simp only [h2]
   exact Obj.eqB_refl h1
section
variable (R:Prog) (fu d line:Nat)
end
theorem Ext.filt {X:Nat->Option Obj} {h h2:H} (x:Ext X h h2):Ext (fun j=>jbu (X j)) h.filt h2.filt where
 nx:=x.nx
 get:=fun j=>by
  rw [H.get_filt,H.get_filt,x.get]
  cases hx:X j with
  | none=>cases hg:h.get j<;>simp [jbu]
  | some o=>
   obtain ⟨_,h2⟩:=x.off j (by rw [hx];simp)
   rw [h2];simp [jbu]
 off:=fun j hj=>by
  have:X j≠none:=fun e=>hj (by rw [e];rfl)
  obtain ⟨h1,h2⟩:=x.off j this
  exact ⟨h1,by rw [H.get_filt,h2];rfl⟩
theorem jd9 {X:Nat->Option Obj} {h h2 h' h2':H} (x:Ext X h h2) (x':Ext X h' h2') (hc : ∀ j o,X j=some o->o.cl=true) (hc2 : ∀ j o,h.get j=some o->o.cl=true) {n:Nat} (k:jbj h h' n=true):jbj h2 h2' n=true :=
 jer fun b o hb hg=>by
  rw [x.get] at hg
  rw [x'.get]
  cases hh:h.get b with
  | some o'=>
   rw [hh] at hg
   have hg:some o'=some o:=hg
   cases hg
   exact ⟨hc2 _ _ hh,by rw [jdj k b _ hb hh];rfl⟩
  | none=>
   rw [hh] at hg
   have hg:X b=some o:=hg
   obtain ⟨_,h3⟩:=x'.off b (by rw [hg];simp)
   exact ⟨hc _ _ hg,by rw [h3,hg];rfl⟩
section
variable {R:Prog} (hF:jbv R) {fu d line:Nat}
include hF
end
end Am
namespace Am
open Go Go.Proofs Go.Shelf Go.RowKit
section
variable {P:Program} {C:Cx} {m:Mp} {h:H} {w w':World}
theorem HRel.filt (hR:HRel P C m h w):HRel P C m h.filt w where
 obj:=fun b o hg=>by
  rw [H.get_filt] at hg
  exact hR.obj b o (jas.1 hg).1
 inj:=fun b b' o o' l l' h1 h2=>by
  rw [H.get_filt] at h1 h2
  exact hR.inj b b' o o' l l' (jas.1 h1).1 (jas.1 h2).1
 dom:=hR.dom
theorem jcF.of_filt {β : Nat} (a:jcF m h.filt β):jcF m h β := by
 obtain ⟨b,o,l,h1,h2,h3,h4⟩:=a
 rw [H.get_filt] at h1
 exact ⟨b,o,l,(jas.1 h1).1,h2,h3,h4⟩
theorem Step.unfilt {N:Nat} (hR:HRel P C m h w) (s:Step P C N m h.filt w m h.filt w'):Step P C N m h w m h w' where
 mono:=Mono.refl _
 old:=fun _ _ e=>e
 rel:=by
  refine ⟨fun b o hg=>?_,hR.inj,hR.dom⟩
  cases hc:o.cl with
  | true=>exact s.rel.obj b o (by rw [H.get_filt];exact jas.2 ⟨hg,hc⟩)
  | false=>
   obtain ⟨l,co,h1,h2,h3⟩:=hR.obj b o hg
   refine ⟨l,co,h1,?_,h3⟩
   rw [(s.frame l.β (ja0 h2) fun hw=>?_).1]
   ·exact h2
   ·obtain ⟨b2,o2,l2,g1,g2,g3,g4⟩:=hw
    rw [H.get_filt] at g1
    obtain ⟨g1,g5⟩:=jas.1 g1
    have hne:b≠b2:=fun e=>by
     subst e
     rw [hg] at g1;cases g1
     rw [hc] at g5;cases g5
    have:=(hR.inj b b2 o o2 l l2 hg g1 hne h1 g3 g4.symm).2
    rw [g2] at this;cases this
 nx:=zn _
 dead:=fun _ _ e=>e
 size:=s.size
 frame:=fun β hβ hn=>⟨(s.frame β hβ fun e=>hn e.of_filt).1,hn⟩
 loops:=s.loops
 os:=s.os
 tape:=s.tape
 output:=s.output
theorem jbW {R:Prog} (hP:ProgOk P C R) {fu n f:Nat} {a:AFn} (ha:jaJ R.fns f=some a) (hp:jaJ R.prims f=none) {args:List V} {xs:Array Value} {v:V} {h1:H} (hr:jau R fu (n+1) (.fn f) args h.filt=some (v,h1)) (hk:jbj h.filt h1 h.nx=true)
  (hR:HRel P C m h w) (hG:GOk C m) (hx:jae m args xs.toList) {x:Value} (hv : ∀ m' y,VRel m' v y->y=x):Calls P f xs w fun e w'=>e = .returned x/\Step P C h.nx m h w m h w':=by
 refine (jfv hP ha hp hr hR.filt hG hx).calls fun m' w' y s hy=>⟨by rw [hv m' y hy],?_⟩
 have s':Step P C h.nx m h.filt w m h.filt w':=Step.back hR.filt s fun b o hg=>jdj hk b o (by
  obtain ⟨l,_,h2,_⟩:=hR.filt.obj b o hg
  exact hR.dom b l h2) hg
 exact s'.unfilt hR
theorem jeQ {b o n:Nat} {l:List V} (hR:HRel P C m h w) (hl:h.filt.load b o n=some l) {loc:Loc} (hm:m b=some loc):l.length=n /\ ∀ k v,l[k]?=some v -> ∃ x,w.cell? ⟨loc.β,loc.d+(o+k),none⟩=some x/\VRel m v x:=by
 unfold H.load at hl
 split at hl
 ·next cs ro hg=>
  cases hb:Nat.ble (o+n) cs.length with
  | false=>rw [hb] at hl;cases hl
  | true=>
   rw [hb] at hl
   cases hl
   rw [zw] at hb
   refine ⟨by simp;omega,fun k v hk=>?_⟩
   obtain ⟨l',co,q1,q2,c,elem,lo,hi,q3,q4,q5,q6,q7⟩:=hR.filt.obj _ _ hg
   rw [hm] at q1;cases q1
   subst q3
   have hv:cs[o+k]?=some v:=by
    rw [List.getElem?_take] at hk
    split at hk
    ·rwa [zk] at hk
    ·cases hk
   obtain ⟨x,q8,q9⟩:=q6 _ _ hv
   exact ⟨x,by rw [jbh q2];exact q8,q9⟩
 ·cases hl
end
theorem jbv.cons {R R':Prog} {f:Nat} {p:Prim} (h:jfL p) (hR:jbv R') (e:R.prims=(f,p) :: R'.prims):jbv R:=by
 intro g q hq
 rw [e] at hq
 simp only [jaJ] at hq
 cases hb:Nat.beq f g with
 | true=>rw [hb] at hq;cases hq;exact h
 | false=>rw [hb] at hq;exact hR g q hq
theorem jb2.cons {P:Program} {C:Cx} {R R':Prog} {f:Nat} {p:Prim} (h:jfy P C f p) (hR:jb2 P C R') (e:R.prims=(f,p) :: R'.prims):jb2 P C R:=by
 intro g q hq
 rw [e] at hq
 simp only [jaJ] at hq
 cases hb:Nat.beq f g with
 | true=>
  rw [hb] at hq;cases hq
  obtain rfl:f=g:=Nat.eq_of_beq_eq_true hb
  exact h
 | false=>rw [hb] at hq;exact hR g q hq
end Am
namespace Am
open Go
section
variable (R:Prog) (fu d pend:Nat)
def jcE (h:H) (p k:V):Option Bool :=
 match jau R fu d (.fn pend) [p,k] h with
 | some (.int .i64 n,h1)=>bif jbj h h1 h.nx&&(decide (0<=n)&&decide (n<=127)) then some (!(decide (n=0)||decide (n=64))) else none
 | _=>none
def cntK (h:H) (p:V):List (V × V × Nat)->Option Nat
 | []=>some 0
 | (k,_,_) :: r=>match jcE R fu d pend h p k with
  | some b=>match cntK h p r with
   | some c=>some (bif b then c+1 else c)
   | none=>none
  | none=>none
def jdZ (clock:Nat):List (V × V × Nat)->Bool
 | []=>true
 | (k,_,n) :: r=>(match k with
  | .int .i64 j=>decide (-9223372036854775808<=j)&&decide (j<=9223372036854775807)
  | _=>false)&&(Nat.blt n clock&&((r.all fun e=>!(Nat.beq e.2.2 n) && !(V.same e.1 k))&&jdZ clock r))
def pAdd (none_ off:Nat):Prim
 | [p],h=>match jau R fu d (.fn none_) [p] h.filt with
  | some (.bool bad,h1)=>bif jbj h.filt h1 h.nx then
    bif bad then some (.i 0,h) else (match p with
     | .ptr (some (b,o))=>match h.filt.load1 b (o+off) with
      | some (.map (some mb))=>match h.filt.get mb with
       | some (.map es ck)=>match (bif jdZ ck es&&Nat.ble es.length 1000000 then cntK R fu d pend h.filt p es else none) with
        | some c=>some (.i (c:Int),h)
        | none=>none
       | _=>none
      | _=>none
     | _=>none)
   else none
  | _=>none
 | _,_=>none
end
section
variable {R:Prog} (hF:jbv R) {fu d pend:Nat}
include hF
theorem addAt_F {X:Nat->Option Obj} {h h2:H} (x:Ext X h h2) (hc : ∀ j o,X j=some o->o.cl=true) (hc2 : ∀ j o,h.get j=some o->o.cl=true) {p k:V} {b:Bool} (hr:jcE R fu d pend h p k=some b):jcE R fu d pend h2 p k=some b:=by
 unfold jcE at hr ⊢
 split at hr
 ·next n h1 hcall=>
  obtain ⟨h2',e2,x'⟩:=(jbZ hF fu d).1 _ _ _ _ _ hcall X h2 x
  simp only [e2]
  cases hk:jbj h h1 h.nx with
  | false=>rw [hk] at hr;cases hr
  | true=>
   rw [hk] at hr
   rw [x.nx,jd9 x x' hc hc2 hk]
   exact hr
 ·cases hr
theorem jfB {X:Nat->Option Obj} {h h2:H} (x:Ext X h h2) (hc : ∀ j o,X j=some o->o.cl=true) (hc2 : ∀ j o,h.get j=some o->o.cl=true) {p:V} : ∀ {es:List (V × V × Nat)} {c:Nat},cntK R fu d pend h p es=some c->cntK R fu d pend h2 p es=some c
 | [],c,hr=>hr
 | (k,_,_) :: r,c,hr=>by
  unfold cntK at hr ⊢
  split at hr
  ·next b hb=>
   rw [addAt_F hF x hc hc2 hb]
   split at hr
   ·next c1 hc1=>
    rw [jfB x hc hc2 hc1]
    exact hr
   ·cases hr
  ·cases hr
theorem pAdd_F {none_ off:Nat} : jfL (pAdd R fu d pend none_ off):=by
 intro args h v h' hr
 unfold pAdd at hr
 split at hr
 ·next p=>
  split at hr
  ·next bad h1 hcall=>
   have hx:h'=h:=by
    revert hr
    cases jbj h.filt h1 h.nx with
    | false=>intro hr;cases hr
    | true=>
     cases bad with
     | true=>intro hr;cases hr;rfl
     | false=>
      simp only [cond_true,cond_false]
      intro hr
      split at hr
      ·split at hr
       ·split at hr
        ·split at hr
         ·cases hr;rfl
         ·cases hr
        ·cases hr
       ·cases hr
      ·cases hr
   subst hx
   refine ⟨zn _,fun X h2 x=>⟨h2,?_,x⟩⟩
   have hc : ∀ j o,jbu (X j)=some o->o.cl=true:=fun j o e=>(jas.1 e).2
   have hc2 : ∀ j o,h'.filt.get j=some o->o.cl=true:=fun j o e=>by rw [H.get_filt] at e;exact (jas.1 e).2
   obtain ⟨h2',e2,x'⟩:=(jbZ hF fu d).1 _ _ _ _ _ hcall _ _ x.filt
   simp only [pAdd,e2]
   cases hk:jbj h'.filt h1 h'.nx with
   | false=>rw [hk] at hr;cases hr
   | true=>
    rw [hk] at hr
    rw [x.nx,jd9 x.filt x' hc hc2 hk]
    cases bad with
    | true=>
     simp only [cond_true] at hr ⊢
     cases hr;rfl
    | false=>
     simp only [cond_true,cond_false] at hr ⊢
     split at hr
     ·next b o=>
      split at hr
      ·next mb hl=>
       split at hr
       ·next es ck he=>
        split at hr
        ·next c hcn=>
         have hl2:h2.filt.load1 b (o+off)=some (.map (some mb)):=by
          unfold H.load1 at hl ⊢
          split at hl
          ·next cs ro hg=>rw [x.filt.get,hg];exact hl
          ·cases hl
         have he2:h2.filt.get mb=some (.map es ck):=by rw [x.filt.get,he];rfl
         cases hgm:jdZ ck es&&Nat.ble es.length 1000000 with
         | false=>rw [hgm] at hcn;cases hcn
         | true=>
          rw [hgm] at hcn
          have hcn:cntK R fu d pend h'.filt (.ptr (some (b,o))) es=some c:=hcn
          simp only [hl2,he2,hgm,cond_true,jfB hF x.filt hc hc2 hcn]
          cases hr;rfl
        ·cases hr
       ·cases hr
      ·cases hr
     ·cases hr
  ·cases hr
 ·cases hr
end
end Am
