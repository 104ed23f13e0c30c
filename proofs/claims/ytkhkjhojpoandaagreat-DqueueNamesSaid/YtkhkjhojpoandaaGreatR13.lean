/- Our own library, part 13. -/
import Derived.Shelf.Strings.OnBuilder
import Derived.Test.YtkhkjhojpoandaaGreatR12
set_option maxHeartbeats 8000000
set_option maxRecDepth 800
set_option linter.all false
namespace Am
open Go Go.Proofs Go.Shelf Go.RowKit
section
variable {P:Program} {C:Cx} {m:Mp} {h:H} {w w':World}
end
end Am
namespace Am
open Go Go.Proofs Go.Shelf Go.RowKit
mutual
theorem VRel.back {m m':Mp} (hm:Mono m m') : ∀ {v:V} {x y:Value},VRel m v x->VRel m' v y->VRel m v y
 | .bool _,_,_,_,h=>h
 | .int _ _,_,_,_,h=>h
 | .str _,_,_,_,h=>h
 | .ptr none,_,_,_,h=>h
 | .ptr (some _),_,_,⟨l,h1,_⟩,⟨l',h2,h3⟩=>by
  rw [hm _ _ h1] at h2;cases h2
  exact ⟨l,h1,h3⟩
 | .slice none _ _,_,_,_,h=>h
 | .slice (some _) _ _,_,_,⟨l,_,_,h1,_⟩,⟨l',o',c',h2,h3⟩=>by
  rw [hm _ _ h1] at h2;cases h2
  exact ⟨l,o',c',h1,h3⟩
 | .map none,_,_,_,h=>h
 | .map (some _),_,_,⟨l,h1,_⟩,⟨l',h2,h3⟩=>by
  rw [hm _ _ h1] at h2;cases h2
  exact ⟨l,h1,h3⟩
 | .clo _ cs,_,_,⟨_,_,h1⟩,⟨ys,h2,h3⟩=>⟨ys,h2,jae.back hm h1 h3⟩
 | .yld _,_,_,⟨l,h1,_⟩,⟨l',h2,h3⟩=>by
  rw [hm _ _ h1] at h2;cases h2
  exact ⟨l,h1,h3⟩
 | .nilfn,_,_,_,h=>h
 | .bm _ _ _,_,_,⟨_,_,h1⟩,⟨y,h2,h3⟩=>⟨y,h2,VRel.back hm h1 h3⟩
 | .iface _ _,_,_,⟨_,_,h1⟩,⟨y,h2,h3⟩=>⟨y,h2,VRel.back hm h1 h3⟩
 | .nili,_,_,_,h=>h
 | .ifc,_,_,_,h=>h
 | .agg _,_,_,⟨_,_,h1⟩,⟨ys,h2,h3⟩=>⟨ys,h2,jae.back hm h1 h3⟩
 | .tup _,_,_,⟨_,_,h1⟩,⟨ys,h2,h3⟩=>⟨ys,h2,jae.back hm h1 h3⟩
theorem jae.back {m m':Mp} (hm:Mono m m') : ∀ {l:List V} {xs ys:List Value},jae m l xs->jae m' l ys->jae m l ys
 | [],_,_,_,h=>h
 | _ :: _,_,_,⟨_,_,_,h1,h2⟩,⟨y,s,e,h3,h4⟩=>⟨y,s,e,VRel.back hm h1 h3,jae.back hm h2 h4⟩
end
theorem jab.back {m m':Mp} (hm:Mono m m') : ∀ {l:List (V × V × Nat)} {es fs:List MapEntry},jab m l es->jab m' l fs->jab m l fs
 | [],_,_,_,h=>h
 | (_,_,_) :: _,_,_,⟨_,_,_,h1,h2,_,h3⟩,⟨e,s,q1,q2,q3,q4,q5⟩=>⟨e,s,q1,h1.back hm q2,h2.back hm q3,q4,jab.back hm h3 q5⟩
section
variable {P:Program} {C:Cx} {m m':Mp} {h h':H} {w w':World}
theorem ORel.back (hm:Mono m m') {l:Loc} {o:Obj} {co co':Go.Obj} (a:ORel P C m l o co) (b:ORel P C m' l o co'):ORel P C m l o co':=by
 cases o with
 | cells vs ro=>
  obtain ⟨c,elem,lo,hi,h1,h3,h4,h5,h6⟩:=b
  obtain ⟨_,_,_,_,_,_,_,g5,_⟩:=a
  exact ⟨c,elem,lo,hi,h1,h3,h4,fun k v e=>by
   obtain ⟨x,hx,hv⟩:=h5 k v e
   obtain ⟨_,_,gv⟩:=g5 k v e
   exact ⟨x,hx,gv.back hm hv⟩,h6⟩
 | map es clock=>
  obtain ⟨ces,h1,h2⟩:=b
  obtain ⟨_,_,g2⟩:=a
  exact ⟨ces,h1,g2.back hm h2⟩
 | loop st pend ps env x y=>
  obtain ⟨L,nt,h1,h2,h3,h4,h5,h6⟩:=b
  obtain ⟨_,_,_,_,_,_,g5,_⟩:=a
  refine ⟨L,nt,h1,h2,h3,h4,fun s v g=>?_,h6⟩
  obtain ⟨x,hx,hv⟩:=h5 s v g
  obtain ⟨_,_,gv⟩:=g5 s v g
  exact ⟨x,hx,gv.back hm hv⟩
 | iter mp since seen last=>
  obtain ⟨h0,mp',h1,h2⟩:=b
  obtain ⟨_,mq,_,g2⟩:=a
  refine ⟨h0,mp',h1,?_⟩
  cases mp with
  | none=>exact h2
  | some r=>
   obtain ⟨l',h3,h4⟩:=h2
   obtain ⟨l0,g3,_⟩:=g2
   rw [hm _ _ g3] at h3;cases h3
   exact ⟨_,g3,h4⟩
 | siter s pos=>exact b
theorem Step.back {N:Nat} (hR:HRel P C m h w) (s:Step P C N m h w m' h' w') (ho : ∀ b o,h.get b=some o->h'.get b=some o):Step P C N m h w m h w' where
 mono:=Mono.refl _
 old:=fun _ _ e=>e
 rel:=by
  refine ⟨fun b o hg=>?_,hR.inj,hR.dom⟩
  obtain ⟨l,co,h1,h2,h3⟩:=hR.obj b o hg
  obtain ⟨l',co',g1,g2,g3⟩:=s.rel.obj b o (ho b o hg)
  rw [s.mono _ _ h1] at g1;cases g1
  exact ⟨l,co',h1,g2,h3.back s.mono g3⟩
 nx:=zn _
 dead:=fun _ _ e=>e
 size:=s.size
 frame:=fun β hβ hn=>⟨(s.frame β hβ hn).1,hn⟩
 loops:=s.loops
 os:=s.os
 tape:=s.tape
 output:=s.output
theorem Step.below {N B:Nat} (hR:HRel P C m h w) (s:Step P C N m h w m h w') {w2:World} (hb:Below B w' w2) (hB:w.heap.size<=B):Step P C N m h w m h w2 where
 mono:=Mono.refl _
 old:=fun _ _ e=>e
 rel:=by
  refine ⟨fun b o hg=>?_,hR.inj,hR.dom⟩
  obtain ⟨l,co,h1,h2,h3⟩:=s.rel.obj b o hg
  exact ⟨l,co,h1,by rw [hb.block _ (zo (hR.lt hg h1) hB)];exact h2,h3⟩
 nx:=zn _
 dead:=fun _ _ e=>e
 size:=zu s.size hb.size
 frame:=fun β hβ hn=>⟨by rw [hb.block _ (zo hβ hB)];exact (s.frame β hβ hn).1,hn⟩
 loops:=fun β L e=>by
  obtain ⟨L',e'⟩:=s.loops β L e
  exact ⟨L',by rw [hb.block β (zo (ja4 e) hB)];exact e'⟩
 os:=hb.os.trans s.os
 tape:=hb.tape.trans s.tape
 output:=hb.output.trans s.output
end
end Am
namespace Am
open Go
def Obj.cl:Obj->Bool
 | .cells ..=>true
 | .map ..=>true
 | _=>false
def jiw:List (V × V × Nat)->List (V × V × Nat)->Bool
 | [],[]=>true
 | (k,v,n) :: a,(l,u,j) :: b=>V.same k l&&(V.same v u&&(Nat.beq n j&&jiw a b))
 | _,_=>false
theorem jg8 : ∀ {a b:List (V × V × Nat)},jiw a b=true->a=b
 | [],[],_=>rfl
 | (k,v,n) :: a,(l,u,j) :: b,h=>by
  simp only [jiw,zm] at h
  rw [V.same_eq h.1,V.same_eq h.2.1,Nat.eq_of_beq_eq_true h.2.2.1,jg8 h.2.2.2]
 | [],_ :: _,h=>by cases h
 | _ :: _,[],h=>by cases h
def Obj.eqB:Obj->Obj->Bool
 | .cells a r,.cells b s=>V.sames a b&&(r == s)
 | .map a n,.map b j=>jiw a b&&Nat.beq n j
 | _,_=>false
theorem Obj.eqB_eq {a b:Obj} (h:a.eqB b=true):a=b:=by
 unfold Obj.eqB at h
 split at h
 ·simp only [zm,beq_iff_eq] at h
  rw [V.sames_eq h.1,h.2]
 ·simp only [zm] at h
  rw [jg8 h.1,Nat.eq_of_beq_eq_true h.2]
 ·cases h
section
variable (R:Prog) (fu d line:Nat)
end
section
variable {R:Prog} (hF:jaO R) {fu d line:Nat}
include hF
end
end Am
namespace Am
open Go Go.Proofs Go.Shelf Go.RowKit
section
variable {P:Program} {C:Cx} {m:Mp} {h:H} {w w':World}
end
theorem jaO.cons {R R':Prog} {f:Nat} {p:Prim} (h:jil p) (hR:jaO R') (e:R.prims=(f,p) :: R'.prims):jaO R:=by
 intro g q hq
 rw [e] at hq
 simp only [ja7] at hq
 cases hb:Nat.beq f g with
 | true=>rw [hb] at hq;cases hq;exact h
 | false=>rw [hb] at hq;exact hR g q hq
theorem jaQ.cons {P:Program} {C:Cx} {R R':Prog} {f:Nat} {p:Prim} (h:jdw P C f p) (hR:jaQ P C R') (e:R.prims=(f,p) :: R'.prims):jaQ P C R:=by
 intro g q hq
 rw [e] at hq
 simp only [ja7] at hq
 cases hb:Nat.beq f g with
 | true=>
  rw [hb] at hq;cases hq
  obtain rfl:f=g:=Nat.eq_of_beq_eq_true hb
  exact h
 | false=>rw [hb] at hq;exact hR g q hq
end Am
namespace Am
open Go
def kLt (x y:Int × Int):Bool:=decide (x.1<y.1)||(decide (x.1=y.1)&&decide (x.2<y.2))
def kIns (x:Int × Int):List (Int × Int)->List (Int × Int)
 | []=>[x]
 | y :: r=>bif kLt y x then y :: kIns x r else x :: y :: r
def jd2:List (Int × Int)->List (Int × Int)
 | []=>[]
 | x :: r=>kIns x (jd2 r)
def jdV:List (Int × Int)->List V
 | []=>[]
 | x :: r=>.int .i64 x.1 :: .int .i64 x.2 :: jdV r
def jb1:V->Option (Int × Int)
 | .agg [.int .i64 a,.int .i64 b]=>some (a,b)
 | _=>none
def jfK (clock:Nat):List (V × V × Nat)->Bool
 | []=>true
 | (k,_,n) :: r=>(jb1 k).isSome&&(Nat.blt n clock&&((r.all fun e=>!(Nat.beq e.2.2 n))&&jfK clock r))
def frzO:Option Obj->Option Obj
 | some (.cells l _)=>some (.cells l true)
 | _=>none
def T.frz:T->T
 | .lf=>.lf
 | .nd v l r=>.nd (frzO v) l.frz r.frz
def H.frz (h:H):H:=⟨h.nx,h.t.frz⟩
theorem T.get_frz : ∀ (t:T) (k:Nat),t.frz.get k=frzO (t.get k)
 | .lf,_=>rfl
 | .nd v l r,k=>by
  rw [T.frz,T.get_nd,T.get_nd]
  split
  ·rfl
  ·split
   ·exact T.get_frz l _
   ·exact T.get_frz r _
theorem H.get_frz (h:H) (b:Nat):h.frz.get b=frzO (h.get b):=T.get_frz _ _
theorem Ext.frz {X:Nat->Option Obj} {h h2:H} (x:Ext X h h2):Ext (fun j=>frzO (X j)) h.frz h2.frz where
 nx:=x.nx
 get:=fun j=>by
  rw [H.get_frz,H.get_frz,x.get]
  cases hx:X j with
  | none=>rw [Option.or_none];show _=(frzO (h.get j)).or none;rw [Option.or_none]
  | some o=>
   obtain ⟨_,h2⟩:=x.off j (by rw [hx];simp)
   rw [h2];rfl
 off:=fun j hj=>by
  have:X j≠none:=fun e=>hj (by rw [e];rfl)
  obtain ⟨h1,h2⟩:=x.off j this
  exact ⟨h1,by rw [H.get_frz,h2];rfl⟩
def H.one (h:H) (mb:Nat) (es:List (V × V × Nat)) (ck:Nat):H:=h.frz.set mb (.map es ck)
section
variable (R:Prog) (fu d find:Nat)
def jde (g:H) (mb:Nat) (es:List (V × V × Nat)) (ck:Nat) (p k:V):Option Bool :=
 match jaw R fu d (.fn find) [p,k] g with
 | some (.tup [.agg l,.bool b],h1)=>bif (match h1.get mb with
   | some o=>o.eqB (.map es ck)
   | none=>false)&&(Nat.beq l.length 4&&l.all V.one) then some b else none
 | _=>none
def jff (g:H) (mb:Nat) (es:List (V × V × Nat)) (ck:Nat) (p:V):List (V × V × Nat)->Option (List (Int × Int))
 | []=>some []
 | (k,_,_) :: r=>match jb1 k with
  | some x=>match jde R fu d find g mb es ck p k with
   | some b=>match jff g mb es ck p r with
    | some l=>some (bif b then x :: l else l)
    | none=>none
   | none=>none
  | none=>none
def jfA (off:Nat):Prim
 | [.ptr (some (b,o))],h=>match h.load1 b (o+off) with
  | some (.map (some mb))=>match h.get mb with
   | some (.map es ck)=>bif jfK ck es&&Nat.ble es.length 1000000 then
     match jff R fu d find (h.one mb es ck) mb es ck (.ptr (some (b,o))) es with
     | some []=>some (.slice none 0 (.fix 0),h)
     | some (x :: l)=>some (jaL h (jdV (jd2 (x :: l))) (x :: l).length (.grow 2))
     | none=>none
    else none
   | _=>none
  | _=>none
 | _,_=>none
end
section
variable {R:Prog} (hF:jaO R) {fu d find:Nat}
include hF
theorem keyAt_F {X:Nat->Option Obj} {g g2:H} (x:Ext X g g2) {mb ck:Nat} {es:List (V × V × Nat)} {p k:V} {b:Bool} (hr:jde R fu d find g mb es ck p k=some b):jde R fu d find g2 mb es ck p k=some b:=by
 unfold jde at hr ⊢
 split at hr
 ·next l b1 h1 hcall=>
  obtain ⟨h2',e2,x'⟩:=(jbO hF fu d).1 _ _ _ _ _ hcall X g2 x
  simp only [e2]
  cases hk:h1.get mb with
  | none=>rw [hk] at hr;cases hr
  | some o=>
   rw [hk] at hr
   rw [x'.has hk]
   exact hr
 ·cases hr
theorem jfG {X:Nat->Option Obj} {g g2:H} (x:Ext X g g2) {mb ck:Nat} {es0:List (V × V × Nat)} {p:V} : ∀ {es:List (V × V × Nat)} {l:List (Int × Int)},jff R fu d find g mb es0 ck p es=some l->jff R fu d find g2 mb es0 ck p es=some l
 | [],l,hr=>hr
 | (k,_,_) :: r,l,hr=>by
  unfold jff at hr ⊢
  split at hr
  ·next y hy=>
   split at hr
   ·next b hb=>
    simp only [hy,keyAt_F hF x hb]
    split at hr
    ·next l1 hl1=>
     rw [jfG x hl1]
     exact hr
    ·cases hr
   ·cases hr
  ·cases hr
theorem pKeys_F {off:Nat} : jil (jfA R fu d find off):=by
 intro args h v h' hr
 unfold jfA at hr
 split at hr
 ·next b o=>
  split at hr
  ·next mb hl=>
   split at hr
   ·next es ck he=>
    cases hg:jfK ck es&&Nat.ble es.length 1000000 with
    | false=>rw [hg] at hr;cases hr
    | true=>
     rw [hg] at hr
     simp only [cond_true] at hr
     have hz : ∀ X h2,Ext X h h2->Ext (fun j=>frzO (X j)) (h.one mb es ck) (h2.one mb es ck):=fun X h2 x=>x.frz.set (by rw [x.none_of he];rfl) _
     split at hr
     ·next hk=>
      cases hr
      refine ⟨zn _,fun X h2 x=>⟨h2,?_,x⟩⟩
      simp only [jfA,x.load1 hl,x.has he,hg,cond_true,jfG hF (hz X h2 x) hk]
     ·next y l hk=>
      simp only [jaL,Option.some.injEq,Prod.mk.injEq] at hr
      obtain ⟨rfl,rfl⟩:=hr
      refine ⟨Nat.le_succ _,fun X h2 x=>⟨_,?_,x.new _⟩⟩
      simp only [jfA,x.load1 hl,x.has he,hg,cond_true,jfG hF (hz X h2 x) hk,jaL,x.nx]
     ·cases hr
   ·cases hr
  ·cases hr
 ·cases hr
end
end Am
namespace Am
open Go
section
variable (R:Prog) (fu d pend:Nat)
def jel (clock:Nat):List (V × V × Nat)->Bool
 | []=>true
 | (k,_,n) :: r=>(match k with
  | .int .i64 j=>decide (-9223372036854775808<=j)&&decide (j<=9223372036854775807)
  | _=>false)&&(Nat.blt n clock&&((r.all fun e=>!(Nat.beq e.2.2 n) && !(V.same e.1 k))&&jel clock r))
end
section
variable {R:Prog} (hF:jaO R) {fu d pend:Nat}
include hF
end
end Am
namespace Am
open Go
def zIns (x:Int):List Int->List Int
 | []=>[x]
 | y :: r=>bif decide (y<x) then y :: zIns x r else x :: y :: r
def jeB:List Int->List Int
 | []=>[]
 | x :: r=>zIns x (jeB r)
def zKey:V->Int
 | .int .i64 a=>a
 | _=>0
def zRow (h:H) (es:List (V × V × Nat)):V × H :=
 match es with
 | []=>(.slice none 0 (.fix 0),h)
 | e :: r=>jaL h ((jeB ((e :: r).map fun e=>zKey e.1)).map (.int .i64)) (e :: r).length (.grow 1)
section
variable (R:Prog) (fu d del clo:Nat)
def pAll (off:Nat):Prim
 | [.ptr (some (b,o))],h=>match h.load1 b (o+off) with
  | some (.map (some mb))=>match h.get mb with
   | some (.map es ck)=>bif jel ck es&&Nat.ble es.length 1000000 then
     jaw R fu d (.fn del) [(zRow (h.new (.cells [.ptr (some (b,o))] false)) es).1,.clo clo [.ptr (some (h.nx,0))]] (zRow (h.new (.cells [.ptr (some (b,o))] false)) es).2
    else none
   | _=>none
  | _=>none
 | _,_=>none
end
section
variable {R:Prog} (hF:jaO R) {fu d del clo:Nat}
include hF
theorem pAll_F {off:Nat} : jil (pAll R fu d del clo off):=by
 intro args h v h' hr
 unfold pAll at hr
 split at hr
 ·next b o=>
  split at hr
  ·next mb hl=>
   split at hr
   ·next es ck he=>
    cases hg:jel ck es&&Nat.ble es.length 1000000 with
    | false=>rw [hg] at hr;cases hr
    | true=>
     rw [hg] at hr
     simp only [cond_true] at hr
     have hz : ∀ (X:Nat->Option Obj) (h2:H),Ext X h h2->(zRow (h2.new (.cells [.ptr (some (b,o))] false)) es).1=(zRow (h.new (.cells [.ptr (some (b,o))] false)) es).1/\Ext X (zRow (h.new (.cells [.ptr (some (b,o))] false)) es).2 (zRow (h2.new (.cells [.ptr (some (b,o))] false)) es).2:=fun X h2 x=>by
      cases es with
      | nil=>exact ⟨rfl,x.new _⟩
      | cons e r=>
       refine ⟨?_,(x.new _).new _⟩
       simp only [zRow,jaL]
       rw [(x.new _).nx]
     have hnx:h.nx<=(zRow (h.new (.cells [.ptr (some (b,o))] false)) es).2.nx:=by
      cases es with
      | nil=>exact Nat.le_succ _
      | cons e r=>exact zu (Nat.le_succ _) (Nat.le_succ _)
     refine ⟨zu hnx ((jbO hF fu d).2 _ _ _ _ _ hr),fun X h2 x=>?_⟩
     obtain ⟨z1,z2⟩:=hz X h2 x
     obtain ⟨h2',e2,x'⟩:=(jbO hF fu d).1 _ _ _ _ _ hr _ _ z2
     refine ⟨h2',?_,x'⟩
     simp only [pAll,x.load1 hl,x.has he,hg,cond_true,z1,x.nx]
     exact e2
   ·cases hr
  ·cases hr
 ·cases hr
end
end Am
set_option maxRecDepth 100000
namespace Am.Sigs
open Am Go
abbrev uF {α:Sort _} (f g:α) (_:f=g:=by (repeat (apply funext;intro));conv=>{lhs;cbv}):α:=g
section
variable (S a b c:Nat) (vs:List V) (is:List I) (ps:List AC)
def rV (N:Nat):V × Nat:=match N%33 with
 | 32=>(vs.getD (N/33%a) .nilfn,N/33/a)
 | n=>(([.i 0,.i 1,.bool false,.bool true,.nils,.i 2,.i 3,.ptr none,.i 110,.i 111,.i 64,.i 31,.i 32,.i 113,.i 115,.i 116,.i 4,.i 95,.i 112,.int .u64 1,.i 96,.i 5,.i 8,.i 16,.int .u64 0,.int .u32 0,.int .u8 0,.str [],.i 10,.i 100,.int .u32 1,.i 65536]:List V).getD n .nilfn,N/33)
def rO (l N:Nat):Opd × Nat:=match N%3 with
 | 0=>(.t l,N/3)
 | 1=>(.t (N/3%S),N/3/S)
 | _=>match rV a vs (N/3) with | (x,N)=>(.c x,N)
def r1 (l N:Nat) (k:Opd->I):I × Nat:=match rO S a vs l N with | (x,N)=>(k x,N)
def r2 (l N:Nat) (k:Opd->Opd->I):I × Nat:=match rO S a vs l N with | (x,N)=>match rO S a vs l N with | (y,N)=>(k x y,N)
def rL {β:Type} (r:Nat->β × Nat):Nat->Nat->List β × Nat
 | 0,N=>([],N)
 | n+1,N=>match r N with | (x,N)=>match rL r n N with | (l,N)=>(x::l,N)
def rB (l N:Nat):(Nat × Opd) × Nat:=match rO S a vs l (N/32) with | (x,M)=>((N%32,x),M)
def rI (l N:Nat):I × Nat:=match N%20 with
 | 0=>r1 S a vs l (N/20) .mv
 | 1=>r1 S a vs l (N/20/1024) (.faddr (N/20%1024))
 | 2=>r1 S a vs l (N/20) .load1
 | 3=>r1 S a vs l (N/20) .nilck
 | 4=>r1 S a vs l (N/20/16) fun x=>.extract x (N/20%16)
 | 5=>r2 S a vs l (N/20/1024) (.store (N/20%1024))
 | 6=>r2 S a vs l (N/20/32) (.bin (([.add,.sub,.mul,.quo,.rem,.and,.or,.xor,.shl,.shr,.andNot,.eql,.neq,.lss,.leq,.gtr,.geq]:List BinOp).getD (N/20%32) .add))
 | 7=>match rO S a vs l (N/20) with | (x,N)=>r2 S a vs l N (.pick x)
 | 8=>match rL (rO S a vs l) (N/20/1024%16) (N/20/1024/16) with | (x,M)=>(.call (N/20%1024) x,M)
 | 9=>r2 S a vs l (N/20/1024/1024) (.ixaA (N/20%1024) (N/20/1024%1024))
 | 10=>r2 S a vs l (N/20/1024) (.ixaS (N/20%1024))
 | 11=>r1 S a vs l (N/20/1024) (.loadN (N/20%1024))
 | 12=>r1 S a vs l (N/20) .lenL
 | 13=>r1 S a vs l (N/20/4) (.un (([.not,.neg,.xor]:List UnOp).getD (N/20%4) .not))
 | 14=>r2 S a vs l (N/20/1024/1024) (.append (N/20%1024) (N/20/1024%1024))
 | 15=>r1 S a vs l (N/20/32) (.box (N/20%32))
 | 16=>match rL (rV a vs) (N/20/32%32) (N/20/32/32) with | (x,M)=>(.alloc (N/20%32) x,M)
 | 17=>match rL (rV a vs) (N/20/32/32%64) (N/20/32/32/64) with | (x,M)=>match rL (rB S a vs l) (M%32) (M/32) with | (y,M)=>(.bslice (N/20%32) (N/20/32%32) x y,M)
 | _=>(is.getD (N/20%b) .fail,N/20/b)
def r3 (g:Option (Nat × Bool)) (h N:Nat):Option (Nat × Bool) × Nat:=match h with
 | 0=>(none,N)
 | 1=>(g,N)
 | _=>(some (N%S,Nat.beq (N/S%2) 1),N/S/2)
def rC (g:Option (Nat × Bool)) (l N:Nat):(Nat × I × Option (Nat × Bool)) × Nat:=match rI S a b vs is l (N/S) with | (i,M)=>match r3 S g (M%3) (M/3) with | (g,M)=>((N%S,i,g),M)
def rP (j h N:Nat):Nat × Nat:=match h%2 with | 0=>(j,N) | _=>(N%1024,N/1024)
def rQ (l h N:Nat):Option Nat × Nat:=match h with | 0=>(some (l+1),N) | 1=>(some (N%S),N/S) | _=>(none,N)
def r4 (q:Option (Nat × Bool)) (l h N:Nat):Option Nat × List (Nat × I × Option (Nat × Bool)) × Nat:=match h with
 | 0=>(none,[],N)
 | _=>match rL (rC S a b vs is q l) (N/8%32) (N/8/32) with | (c,M)=>(match N%8 with | 0=>none | a+1=>some a,c,M)
def rM (j l h N:Nat) (q:Option (Nat × Bool)):(Ins × Nat) × Nat:=match rP j h N with
 | (j,N)=>match rQ S l (h/2%3) N with
 | (d,N)=>match r3 S q (h/6%3) N with
 | (g,N)=>match r4 S a b vs is (g.or q) l (h/18) N with
 | (x,y,N)=>match rI S a b vs is l N with | (i,N)=>((⟨j,d,i,g,x,y⟩,d.getD l),N)
def sJ (r:Nat->Nat->Option (Nat × Bool)->Nat->(List Ins × Nat) × Nat) (j l:Nat) (q:Option (Nat × Bool)) (N:Nat):(List Ins × Nat) × Nat:=match rM S a b vs is j l (N%36) (N/36) q with
 | ((x,l),N)=>match r (x.ix+1) l (x.guard.or q) N with | ((r,l),N)=>((x::r,l),N)
def rJ:Nat->Nat->Nat->Option (Nat × Bool)->Nat->(List Ins × Nat) × Nat
 | 0,_,l,_,N=>(([],l),N)
 | n+1,j,l,q,N=>sJ S a b vs is (rJ n) j l q N
def sD (r:Nat->Nat->List Nat × Nat) (p N:Nat):List Nat × Nat:=match N%2 with
 | 0=>match r (p+N/2%8) (N/2/8) with | (r,M)=>((p+N/2%8)::r,M)
 | _=>match r (p+N/2%S) (N/2/S) with | (r,M)=>((p+N/2%S)::r,M)
def rD:Nat->Nat->Nat->List Nat × Nat
 | 0,_,N=>([],N)
 | n+1,p,N=>sD S (rD n) p N
def rK (p:List Nat) (N:Nat):List Nat × Nat:=match N%4 with
 | 0=>(p,N/4)
 | 1=>rD S (N/4%64) 0 (N/4/64)
 | 2=>rL (fun N=>(N%S,N/S)) (N/4%64) (N/4/64)
 | _=>(p++[N/4%S],N/4/S)
def sA (r:Nat->List Nat->Nat->AC × Nat × List Nat × Nat) (N:Nat) (p:List Nat) (l:Nat):AC × Nat × List Nat × Nat:=match N%12 with
 | 0=>match r (N/12) p l with | (x,N,p,l)=>match r N p l with | (y,N,p,l)=>(.seq x y,N,p,l)
 | 1=>match rJ S a b vs is (N/12%128) 0 l none (N/12/128) with | ((q,l),N)=>match rK S p N with | (p,N)=>(.region 0 q p,N,p,l)
 | 2=>match rJ S a b vs is (N/12/8%128) 0 l none (N/12/8/128) with | ((q,l),M)=>match rK S p M with | (p,M)=>(.region (N/12%8) q p,M,p,l)
 | 3=>match rO S a vs l (N/12) with | (x,N)=>match r N p l with | (y,N,p,l)=>match r N p l with | (z,N,p,l)=>(.cond x y z,N,p,l)
 | 4=>match r (N/12/128) p l with | (x,M,p,l)=>(.block (N/12%128) x,M,p,l)
 | 5=>match rK S p (N/12) with | (k,N)=>match r N k l with | (x,N,q,l)=>(.loop k x,N,q,l)
 | 6=>(.skip,N/12,p,l)
 | 7=>(.ret,N/12,p,l)
 | 8=>(.exit (N/12%128),N/12/128,p,l)
 | 9=>match rO S a vs l (N/12) with | (x,N)=>match rK S [] N with | (y,N)=>match rK S p N with | (k,N)=>match r N k l with | (z,N,p,l)=>match r N p l with | (w,N,p,l)=>(.rangeFunc x y k z w,N,p,l)
 | 10=>match r (N/12) p l with | (x,N,p,l)=>(.scope x,N,p,l)
 | _=>(ps.getD (N/12%c) .skip,N/12/c,p,l)
def rA:Nat->Nat->List Nat->Nat->AC × Nat × List Nat × Nat
 | 0,N,p,l=>(.skip,N,p,l)
 | f+1,N,p,l=>sA S a b c vs is ps (rA f) N p l
end
def jA (S N a b c:Nat) (vs:List V) (is:List I) (ps:List AC):AC:=(rA S a b c vs is ps 40 N [] 0).1
abbrev yA (S N:Nat)  {g:AC} (_:(jA S N 0 0 0 [] [] [])=g:=by (repeat (apply funext;intro));conv=>{lhs;cbv}):AC:=g 
abbrev yB (S N:Nat) (a:AC) {g:AC->AC} (_:(fun a=>jA S N 0 0 1 [] [] [a])=g:=by (repeat (apply funext;intro));conv=>{lhs;cbv}):AC:=g a
abbrev yC (S N:Nat) (a b:AC) {g:AC->AC->AC} (_:(fun a b=>jA S N 0 0 2 [] [] [a,b])=g:=by (repeat (apply funext;intro));conv=>{lhs;cbv}):AC:=g a b
abbrev yD (S N:Nat) (a b c:AC) {g:AC->AC->AC->AC} (_:(fun a b c=>jA S N 0 0 3 [] [] [a,b,c])=g:=by (repeat (apply funext;intro));conv=>{lhs;cbv}):AC:=g a b c
abbrev yE (S N:Nat) (a:I) {g:I->AC} (_:(fun a=>jA S N 0 1 0 [] [a] [])=g:=by (repeat (apply funext;intro));conv=>{lhs;cbv}):AC:=g a
abbrev yF (S N:Nat) (a:I)(b:AC) {g:I->AC->AC} (_:(fun a b=>jA S N 0 1 1 [] [a] [b])=g:=by (repeat (apply funext;intro));conv=>{lhs;cbv}):AC:=g a b
abbrev yG (S N:Nat) (a:V) {g:V->AC} (_:(fun a=>jA S N 1 0 0 [a] [] [])=g:=by (repeat (apply funext;intro));conv=>{lhs;cbv}):AC:=g a
abbrev yH (S N:Nat) (a:V)(b:AC) {g:V->AC->AC} (_:(fun a b=>jA S N 1 0 1 [a] [] [b])=g:=by (repeat (apply funext;intro));conv=>{lhs;cbv}):AC:=g a b
abbrev yI (S N:Nat) (a:V)(b:I) {g:V->I->AC} (_:(fun a b=>jA S N 1 1 0 [a] [b] [])=g:=by (repeat (apply funext;intro));conv=>{lhs;cbv}):AC:=g a b
abbrev yJ (S N:Nat) (a:V)(b:I)(c:AC) {g:V->I->AC->AC} (_:(fun a b c=>jA S N 1 1 1 [a] [b] [c])=g:=by (repeat (apply funext;intro));conv=>{lhs;cbv}):AC:=g a b c
abbrev yK (S N:Nat) (a b:V) {g:V->V->AC} (_:(fun a b=>jA S N 2 0 0 [a,b] [] [])=g:=by (repeat (apply funext;intro));conv=>{lhs;cbv}):AC:=g a b
abbrev yL (S N:Nat) (a b:V)(c:AC) {g:V->V->AC->AC} (_:(fun a b c=>jA S N 2 0 1 [a,b] [] [c])=g:=by (repeat (apply funext;intro));conv=>{lhs;cbv}):AC:=g a b c
abbrev yM (S N:Nat) (a b:I) {g:I->I->AC} (_:(fun a b=>jA S N 0 2 0 [] [a,b] [])=g:=by (repeat (apply funext;intro));conv=>{lhs;cbv}):AC:=g a b
abbrev yN (S N:Nat) (a:I)(b c:AC) {g:I->AC->AC->AC} (_:(fun a b c=>jA S N 0 1 2 [] [a] [b,c])=g:=by (repeat (apply funext;intro));conv=>{lhs;cbv}):AC:=g a b c
abbrev mV (i d x:Nat):Ins := .mk4 i (some d) (.mv (.t x)) none
abbrev qQ (i d:Nat) (x:I):Ins := .mk4 i (some d) x none
abbrev aA (i d f a:Nat):Ins := .mk4 i (some d) (.call f [.t a]) none
abbrev sQ (a b:AC):AC := .seq a b
abbrev rG (l:List Ins) (k:List Nat):AC := .region 0 l k
abbrev cD (s:Nat) (a:AC):AC := .cond (.t s) a .skip
abbrev rT (l:List Ins) (k:List Nat):AC := .seq (.region 0 l k) .ret
def c3_0 :=yG 292 0x15b8564e23e05331830af98635f0f67094f3e7609af1886c52e3fd03c5f65968be54c07e398c89e7def0e6b8f15c5652fcdb8309d9e7944bc3e7d3507f4f3cf398064508a51e564715b29882620b267f494a1f61c9fd2adb758fd6c85bcf75228361cb22b45e075fc44456a6166617ab69fd82c0e4c49ca6e83e49f4cd7abef9e0da690bd9d5440121f093a14ddac2fff89b4608934c81f8736fc7446cd4c (.i (-1))
def c3_4 :=yL 241 0x9a9c4f3b1586226a0b10b33211d2db2b7859a52839d8a5d972329b21124e915ed06055788658283dc672e935c8efe350a2e6f8bb5dfb3c44975ba858ba4bde6834aa865d0259c280a7967220e4360184486c6ab2a02f2473b2f213241636be5331dda008e5304b4bc8a0f6d68701d49dd06ed6f3f668fcd17507049ab6c7a8f173f295ed319b498d571390b81f0366d1406de9ebdb8ca0fe334b3fc (.i 257) .nili c3_0
def c3_10 :=yE 200 0x2bc88501532e1565164efa7acd61fc04d8d5dec3316a9cb2276319af2f88fd494a61edbbd1fd5f522eaff012800db904ad8c9c3cd995610764d2311927d632477dcf073a74f6b204a9f89458ccdc50b67cd51608c6f9709bb2a3eb226ee660288ae50de3c8bdabbd6cdecfb466b4abce3108a33a175c274ab1bc101831095b59aaf74b5179d69def54385c5b19b31bc (.build [.i 0,.i 0] [(0,1,(.t 195)),(1,1,(.c (.i 4)))])
def c3_13 :=yF 165 0x37cfc7fcf10ec496d9d9f28bebf521c35f29498785634d73c71125146e847804dd786695c03f4be9fc6205c50edef1f6aa0df1afad02e427c38b355603b1ea9120714772d5838ae4f7c128229a9b73cb4172792b86fd87bbc211ee3dfed910926dacaee57276f6b8c16d1bf13ece141ad4a08bdb36c (.build [.i 0,.i 0] [(0,1,(.t 154)),(1,1,(.c (.i 4)))]) c3_10
def c3_14 :=yH 137 0x1181467b8fbeb47daedbd944fedb0c2c5875b0aa95ae5885b3942e8df2b9f9748c (.int .u64 5) c3_13
def c3_15 :=(uF (fun a b c=>jA 130 0x8d5ccc711184c6b658c996be4edbd358e3857e3c6154b85fa9ff2bf07b74dd0d221823b9ef5cc09dff8bffee0855a34567e1702d99b00fac1dc771ce94b4552e4b7f121f7b0c177cf714e484f36e0ddaf3ed5f7b4a073bc021a182b47a501c21bf650ba42515fc09ecf64761576aa69def7bcd47d4d94588cc 0 2 1 [] [a,b] [c]) _) (.build [.i 0,.i 0] [(0,1,(.c (.i 2))),(1,1,(.c (.i 2)))]) (.eq (.agg [.int .i64,.int .i64]) false (.t 113) (.t 114)) c3_14
def c3_20 :=(uF (fun a b c d=>jA 87 0x3ed6766b63325aebf0539dc378eae223d5d3aa39bbbc89c56b0d4e6cc1d678c181479f0c5ad97b01cce0cd77ed17b44487e48a85ba25bae466a825a619e08b496166c2b53fed4d2dcb0592d8ceb631812bc4893c00ec84d5d6a929b05365640733ea0cb2d00e6ab1baa0d8d8e858c3eac8116bf8c46edd760b80b22d46d63c88f1fb6fa99db8683d3158d95a97a952d50a95ecd30e567456828edb124c 3 0 1 [a,b,c] [] [d]) _) (.i 9) (.i 7) (.int .u64 5) c3_15
def c3_23 :=yC 216 0x3e2432d460440603217a8b9adb1d22792f4a670572d0b2d63cd2a9cf6e66195fafd58bb9b94b17b31816c01437e07b0a508ae75db705a535847ac98cf3fe30601de9a83e7fe617341e15974a4f3424dd0a231f9aa3fac21964b442f90a3599229b9357e4a7aa4826c974783936bd35be63435d237033c958578f910183c687a28483ea8a8ef462524701ceea83a1d676295df8b011f706ca6e3e47639c1079427964c973702a400a0481186991133e54f4ed7bb0d90aec1f98354d0 c3_20 c3_4
def c3:AFn:=⟨0,292,[.tmp 0],yB 2 0x473346e2add038909c c3_23⟩
def c4_0 :=yM 4 0x5edd46a407339023024c (.build ((List.replicate 96 ([.bool false,.i 0,.i 0]:List V)).flatten++[.nils,.ptr none,.int .u64 0,.bool false,.i 0,.i 0]) [(289,1,(.t 1))]) (.box 294 (.t 2))
def c4:AFn:=⟨0,4,[.tmp 0],yB 2 116227805340 c4_0⟩
def c5_2 :=yA 25 0x1f2df22a435725c903f398d5daeaf6812635fd2048284f7efa3f5916f5ac61c0aca9132fc4734730f4b21ea01c973550a12c64c6604eb3044694f7d484e046677ef56077a3d63a2155bbb5ac
def c5:AFn:=⟨2,25,[.tmp 4,.tmp 5,.tmp 6],yB 7 0x1c2e621d6ba304310c11bc c5_2⟩
def c6_1 :=yM 66 0x2bb1f2b446c920b440821320249aa7a68e7159e76f142dc28a3480025c92687654e6f97804881350526dffd50239b54508a999e4cfb01503dd951033b2420c832b0b504fc82730ff16b36a8bb76e3b8b77c6fa79c5781f13473893b31fe130fac6a42540eb98dc73e17efb89b4fbd91bc (.eq .ptr false (.t 54) (.c (.ptr none))) (.eq .ptr false (.t 63) (.c (.ptr none)))
def c6_5 :=yB 72 0x5282c6330ee8b264d8201c656fc60ac3fbd66feb62f821f17e2640563be7053cd29fd2aa55fa11a068b67cd0bb4e6583f93291cbeb89b94a56e53dfbf6b0d63ba46ad5af65e85a331f70a272a674d8cd2669779a0ffa65fdfd7257c7ceea60fcd813faaeb753a5cf0e12613cfabb5cd256544151ba0478e4c16c68dfd32cb8e563c c6_1
def c6:AFn:=⟨3,72,[.tmp 6],yB 7 0x17d6b927192d09c c6_5⟩
def c7_0 :=yA 20 0x6d87ddecd38dba9fce97b1e4a781f077d95aaa3a29f770d5dfb8e37963e96ca45541baadd48c
def c7:AFn:=⟨3,20,[.tmp 6],yB 10 0x1f5a9fc7e1171a371b97a8cec891f7ae313b41346e509c c7_0⟩
def c8_5 :=yM 70 0x4b26624359d8618d08629500879d748ee4e94046db3d9d645c84c52a3b6fb707fcf6d41aa2203600b9ed461ef035c1fca5d6f499c53d24a14c39d8c86900c01982d4c7a89b637e5c01d73fc (.build [.ptr none] [(0,1,(.t 63))]) (.mkIface 83 (.t 65))
def c8_8 :=yI 27 0x4a0346588161e0b1e3ef6b335121a13536fb7fb6b595e162289759cec9ca5c14a9b9c24b41b9d78f6414cff51a205f45b64511e4ba8fb01b11df0fc64e092d8a69271581b5ff2c51bc (.i 256) (.eq .ptr false (.t 14) (.c (.ptr none)))
def c8_9 :=(uF (fun a b c d=>jA 54 0x1d770410933e60147dd6ea4003ad03ba160a0840ff3c6bd81f4bd6e6e567f328d14d6b7ab7acaab5f603e3c8b2ce5ccb3ce62650359ad18ab214a8ac6c7d709178988ff14af43fe0c3dc15badd979e0a51468e8c5e236c1143289e4a674dbea5db96cf11b14445f2a5ceb8b73532461f36c 0 3 1 [] [a,b,c] [d]) _) (.build [.ptr none,.nili,.ptr none,.i 0,.i 0,.i 0] [(0,1,(.t 27)),(2,1,(.t 28)),(3,1,(.t 29)),(4,1,(.c (.i (-1)))),(5,1,(.c (.i (-1))))]) (.build [.ptr none,.i 0,.ptr none] [(0,1,(.t 43)),(1,1,(.c (.i (-1)))),(2,1,(.t 47))]) (.mkIface 77 (.t 49)) c8_5
def c8:AFn:=⟨3,70,[.tmp 6,.tmp 7],yC 8 0x1a576e82a4b37c2a3489512c c8_8 c8_9⟩
def c9_3 :=yG 29 0x2091be1ab5dd2d06ae5b977e5c79f27b17bfac9397933ddb8dede230d22c442c085a832c3c875d46753b4b3a3ae4f4f295644614b0550c4568f76e5c6e5dd2b8293bf65e84a9fa34ec2ab86cc25a36420d9b2bc16163f012db9cb53fcec1c8ca5d1de49bde7f179d463c783517909c (.i (-1))
def c9:AFn:=⟨2,29,[.tmp 4],(c9_3)⟩
def c10_2 :=yA 50 0x4e972cfe063483d087e5f14b0ec4d13fb234b067f48c
def c10_3 :=yB 43 0x889e2e9af47520dab25090052869130cc638601d8a339c38909ce291bbfb2a17d71c9a05b32fe61ba6e5f7976e2c1ce29fc347f96848472788e0bd6f160348c033ffd78a8e4679e90541d05d8c5035ca12dab48c77c4d469319b1a9023d00bb293905f6aae47267c440d6b80d99b2ac85750ba958e76ae33a40bc7ea82ffe503cb93dcd09c c10_2
def c10:AFn:=⟨3,50,[.tmp 6],(c10_3)⟩
def c11_0 :=yA 17 0xbaf427184b8fc522a6b9ce99272dea844c7ec526c583bdb04dc7b80e54dbab11db93fc
def c11:AFn:=⟨2,17,[.tmp 4],yB 8 0xa45c4dc18cc1ea998cbb310bf7aef28b3e25932d109c c11_0⟩
def c12_6 :=yG 72 0x1547727c0d0f8c0ec64d077583fdfb6a390ef6e449cc0a9413f40b803b5cf99af5da9b87b705313f3325f18925925a6f5bde2d143bec21738bc9f8bc4318c3ede01379fc8a0849a6da6701f8897f7b5a54d0 (.i (-1))
def c12_7 :=(uF (fun a b c=>jA 95 0x8f77f3a3037d04e80430b6ef5e955d019036a708229cfc178f6d0b9238bb3c495d64bf4cc246b4a851fe32e0fc0f13f3a88df74b993d62230f31b8a6ae8df7bec3dbd82422dad22454e6b98132c9b73fdb290a1773dfb2c1a24da4b991116862357ce684d7c9459d685c9992f75be19a7efde928e99c32d4f352bc4598f1e3f56adfb464cc97c54966982321dd5ee844204d7c3bb37ac18768a971a3187144a2f0936441505307978c7b2992a395db90 0 2 1 [] [a,b] [c]) _) (.ixA 96 1 none (.t 72) (.t 73)) (.build [.i 0,.i 0] [(0,1,(.t 80)),(1,1,(.t 81))]) c12_6
def c12_10 :=(uF (fun a b c d=>jA 48 0x906f3698e0bf17ecaa72ce3cb07f3739561c8123aa4d66817dcb3a3b311347001620ae863f22f418f72feb63dcc3ce02dcd151a78688d5e184cd196fc784b941de3b5d95b58415a66a4243b4584dd68fff0355d8a788085a45945d04062d46b34ccc9fcd2d2be912eab785cc26d07fe587601802175047c07e4e10 0 3 1 [] [a,b,c] [d]) _) (.eq .ptr false (.t 21) (.c (.ptr none))) (.mkBm "roundhouse/dqueue.due" (.t 38)) (.alloc 96 (List.replicate 96 (.i 0:V))) c12_7
def c12_11 :=yB 21 0xaf30125c27f59da3ff927a26c5c1d58cee2ec79718cd0da3107ea5919ef12297f0ae2d5c2654e10 c12_10
def c12:AFn:=⟨4,95,[.tmp 8,.tmp 9,.tmp 10,.tmp 11],yB 12 0x29ae96926ce6d24f79ff5f3fe83f74592dc c12_11⟩
def c13_0 :=yA 10 0x602b292331a775d7bb318047a719400063ff727e7ce0b5f3d32ec03f3334e10
def c13:AFn:=⟨1,10,[.tmp 2],yB 3 532183339164 c13_0⟩
def c14_4 :=yA 35 0x20359e336dc693b53947a630fa3e28e5891cc2d7f3d575451655a9dfc85c6562147a9f79a11a2ba238761e8ba11b47188c8c098c3ddfc0c5b83c4306c9e851bc676057b9b3a110280bf39243bed6f8920e81e1078573df4879f1c553b68d3da49c1be3743b16b136bfad4eb0963b74b98e09dd94f49811bc
def c14:AFn:=⟨2,35,[.tmp 4,.tmp 5,.tmp 6],(c14_4)⟩
def c15_1 :=yA 41 0x5cc175f30e994cd9a531c57ee220a0bcf64aa4b8023c2b6e87ee72ce1ce3a5fc9cab0fe8b96217d28e09147fd16c7eec4b19564661e4f384272e7467ba74aa00a5add5e856a2a2350a61859dcd2f78c22a2c5c4b82975c
def c15:AFn:=⟨5,41,[.tmp 10],yB 11 0x25766e1193fbe509c c15_1⟩
def c16_2 :=yM 34 0x2779cf6d0c4b0264155d6760f34273091ffe726b6229ec1b1af18edeee053dd86ce5bf5742b3f56de7830000e200a849016616a4c06c3cb67525db1f848156c93f28f096d70b824496fd0 (.build [.i 0,.i 0,.i 0] [(0,1,(.t 24)),(1,1,(.t 25))]) (.invoke [(77,143),(83,191)] (.t 23) [(.t 26)])
def c16:AFn:=⟨2,34,[],yB 7 0x18021cf7fc202f62bb664e10 c16_2⟩
def c17_3 :=yE 51 0x7400172efc7b829004734bfa005a569e87a7e6fee752cabb1f7f3415cae635e7ecbc0b7bfa7b3d49baa1270301ac2bf9fd32239d204075f9de86fe5accafb7ab7bf73b978899e996a333dff275e847941bbebb02cdadaf4a3e61a9bf9c64e600f0576aea19634d162484036f7537cddff2696a8916a48810ee5d877d18705f214b13fc (.build [.bool false,.i 0,.i 0] [])
def c17_4 :=yB 20 0x2736fd8e3657d13cb4d6cb730ea38c09a679953b68fcbd5d49776b5ac1ff808e2f524a6dcf7df841d23e2b1aebe3bd557eff63c c17_3
def c17:AFn:=⟨2,51,[.tmp 4],yB 5 4789558483587228 c17_4⟩
def c18_1 :=yG 98 0x19e2877e4f29729e49923400023644a4e822a5811a64fc9ee6589cfcbfb27881830bbbc71fbb0572988e98b181112358153c63393a85b5b78f428b6c3cf78409ac559ad0e9ec6deddea117e4d4d2b036e89450d4a4f759756d95c27c6a05d3df2017429693f8d9e124fcbec4b4a91d1a75f0724c (.int .u64 3)
def c18_3 :=(uF (fun a b c d=>jA 71 0x35dcc475b4de0d4083641003d8453039ad7fef2f6cf1beb395c08d60826d8d3ac6513ad8b7b1dd68c7c5e5de282e5a91b4afb22a79dbb41b315aa6cfb28e411bed04a90a6b16daf0b5b5e33209d1297723c57369561bdd546aff1dba978dcaf1644cc6168362550e90f60afcd871cf355a615b1ff43126b4d97edbaa8057940d0 2 1 1 [a,b] [c] [d]) _) (.i 34) (.int .u64 9) (.build [.i 0,.i 0] [(1,1,(.c (.i 2)))]) c18_1
def c18_8 :=(uF (fun a b c d e f=>jA 99 0x1e9bcf00dc3920b5b149564db884a5c430c978d0316219f223081eac25c59ec6648dc45d16ebdcc404458ef980b409cc59079c3186e8732b93d9b465d8a628cf6aea4f404034aa64a27967a62de93d2d2caa18c4bccd482d8f50e62f5835c1b9e7eacc68ae5bcdd3ad418e6fcb674dfc782a72f6d66cdaf03ed17132ef7807af121797c33b5eaddab46037d1bbd9641bc99dd1e17a20268583897c49d00739e039414f6ae1bc604 2 3 1 [a,b] [c,d,e] [f]) _) (.i 34) (.int .u8 97) (.mark (.t 35)) (.build [.i 0,.i 0,.i 0,.nils] [(0,1,(.c (.i 1))),(3,1,(.t 36))]) (.build [.int .u64 0,.bool false,.nils,.nils] [(0,1,(.c (.int .u64 3))),(3,1,(.t 38))]) c18_3
def c18_9 :=yB 18 0xae77958c6c135ab094b4c4af10b633df6143a610b373218bcca8909c c18_8
def c18:AFn:=⟨0,99,[.tmp 0],(c18_9)⟩
def c19_0 :=yA 13 0x198e4551ae0565cec653cc5e8a7e56a973fc
def c19:AFn:=⟨2,13,[.tmp 4],yB 7 0xc0b0b69a2cf3d1d395402002ea8a503f660e0cc909c c19_0⟩
def c20:AFn:=⟨0,3,[.tmp 0],yM 3 0x119018f8aadaabbcd2d109c (.build (List.replicate 32 (.bool false:V)++List.replicate 32 (.i 0:V)) []) (.box 64 (.t 1))⟩
def c21_2 :=yA 19 0xca5e25c2f9ff8df21630575d7ef1ce863eb76a77c0b1c0737e16e62887e0928f815166d318234a2b8c3e17dc31bc
def c21_3 :=yA 32 0x1f16603551b03ab35cf78e617cdba2d68fa0bef6c5d5c93e5a6662bea3172ce094e1a0b591c4779d65c2c6ce7b43807586182fc82c29f498aecc05a90500eb862c505cb148c
def c21:AFn:=⟨4,32,[.tmp 8,.tmp 9],yC 10 0x20ed4a2354600f42c31bf912c c21_2 c21_3⟩
def c22_3 :=yE 29 0xef1ec0078a20619b2598fa1f15c8526fe03334692deb464d358121ae4961e2eb3b03d8fefb433da80c57d86f790d91e4f1c65b3421386b5e512dd9a572da7cc49d4e084bd63b6e1552a9923b761959125e335c276f2b53eb8690a7cfae0a8e4a8f460d4225a2a2e262a204dc0789794563411bc (.build [.i 0,.i 0,.ptr none,.bool false,.bool false,.int .u64 0,.int .u64 0,.i 0,.i 0,.ptr none,.bool false,.bool false,.int .u64 0,.int .u64 0,.bool false,.i 0,.nils] [])
def c22:AFn:=⟨1,29,[.tmp 2],yB 3 533019414684 c22_3⟩
def c23_1 :=yE 29 0xcbd007afe866d25979685191987ec297f6a4a30c3529ab3b4206263e6ef43b34364a1072cff07c03b8a48734d33b188fb3e81644b3d3b63a4f1501fcc0c9e97ee800d1725106234779d76bd6a8fcf60c0450241675167991bc (.build [.bool false,.i 0,.i 0] [])
def c23_2 :=yA 48 0x65bef6d184778fae1fe07114497a031a70cd173815e1e82de383a9c4e389715e717bcc61ff9bb6cc2daaed8717624c4d390db07c4b4be6056ef94de91bfb050d3263c6c
def c23:AFn:=⟨2,48,[.cellN 4 3,.tmp 5,.tmp 6],yC 7 0x8e302c0e1b468cb7e4ea210694c391bc c23_1 c23_2⟩
def c24_3 :=yG 57 0x91691a1823ff1a10f90e521ca421f7dac3bddad38e61777d08d7f5128d05e1872de73c53a18561e62f7b496cbddbd018d795c86a404000c825d8b26f213bdc0334a7340e441e41c7f9efbe9bd521534dbc433153f336408660ae28e1fb966f436217ed67de0fef150590de9ff748c (.int .u8 1)
def c24_5 :=yB 27 0x1f3b5b8c9b1c4229789ff805109cfefa38fb425520504227d47b670e70cd7484af8903ecaee42b606528dc32f674d86d3223001dc01afd7868e6910 c24_3
def c24:AFn:=⟨1,57,[],(c24_5)⟩
def c25_0 :=yM 12 0x28acf3629c132e18fae52a8018c4ce24b5b1616f5ac (.eq .ptr false (.t 3) (.c (.ptr none))) (.eq .ptr false (.t 9) (.c (.ptr none)))
def c25:AFn:=⟨1,12,[.tmp 2],yB 3 532422217884 c25_0⟩
def c26_2 :=yA 27 0x17da885166c8ffac6240bc5d8c35b9b1c396e1066c238a58ec2fb4a27bffdf59bde45d0889bba0b94a6f33ad6e82d52fe7f9ea6041fdd21ea49657e45a200694e39190fb4ed546b68c16f325e6f2fcb9573b59057120152db90
def c26:AFn:=⟨3,27,[.tmp 6],yB 7 0x17d6b927192d09c c26_2⟩
def c27:AFn:=⟨0,3,[.tmp 0],yM 3 0x119018f8aadaabbcd2d109c (.build (List.replicate 192 (.i 0:V)++[.bool false]) [(192,1,(.c (.bool true)))]) (.box 193 (.t 1))⟩
def c28_1 :=yE 12 0xbf78445aad9b5e47d329f5d92631a393cc94795523553d377996bf3a15b3a2b72f24c660f7f71bc (.eq .ptr false (.t 7) (.c (.ptr none)))
def c28_2 :=yM 17 0xcd9a94df06f4550fbee896b2a633a13fc .mkMap (.build [.ptr none,.i 0,.map none] [(0,1,(.t 12)),(1,1,(.t 13)),(2,1,(.t 14))])
def c28:AFn:=⟨2,17,[.tmp 4,.tmp 5],yC 6 0x13c192e1bcab4916ca2112c c28_1 c28_2⟩
def c29_1 :=(uF (fun a b c=>jA 10 0x8c45cfe76bbd394b0b8afb87b36ec705a76066f1b358e0ce2c1b44bc326fc678ff53d12c 0 3 0 [] [a,b,c] []) _) (.eq .ptr false (.t 4) (.c (.ptr none))) .mkMap (.build [.ptr none,.map none] [(0,1,(.t 6)),(1,1,(.t 7))])
def c29:AFn:=⟨1,10,[.tmp 2,.tmp 3],(c29_1)⟩
def c30_0 :=yM 12 0x28acf3629c132e18fa91427e983a6c4f35b1616f5ac (.eq .ptr false (.t 3) (.c (.ptr none))) (.eq .ptr false (.t 9) (.c (.ptr none)))
def c30:AFn:=⟨1,12,[.tmp 2],yB 3 532422217884 c30_0⟩
def c31_0 :=yE 12 0x305e5ab916a9b8926954724f008715c52b348c (.field 0 none (.t 10))
def c31:AFn:=⟨2,12,[.tmp 4],yB 5 4789558881718428 c31_0⟩
def c32_1 :=yA 18 0x1363832792a7515497f686610ac4db1862decfd5d504a07f31cefa19f9aae7701a19d01db46f85f18db57775ff7666fd0
def c32:AFn:=⟨2,18,[.tmp 4],yB 5 4789558483587228 c32_1⟩
def c33_0 :=yK 15 0x3279c557edcd06f595db767c844d2d6d2113dfb80c747acab22f612b3000b0547daf75c (.i 38) (.i 6)
def c33:AFn:=⟨1,15,[.tmp 2],yB 3 532422217884 c33_0⟩
def c34_2 :=yA 25 0x57a21680d84b30a76b1fed06ad0bba9ddeb62344decd09b04927a05294f423ce8107d8b4be0b899c4464ee2b9cac1b9f0b68a3a782d1229906129ba4a3e8966dad0b657a452beb0e9e0af3035a2fd0ced28b2302b7d09c
def c34:AFn:=⟨3,25,[.tmp 6],(c34_2)⟩
def c35_2 :=yI 36 0x349129a51fbf74ef702f807cd67979d6855cda5f86ef580d6b46bf056e085aab873de0bfb61fc74f79b32a69a5ff90d6c633f595f51b7a92c0b87a3255a4b0f1893f7e2e3fc7344a461bc5d4814f695424eee08dc8f7fe87fc392299ed467f3603db3ad6c405b22ec12e2c4dfdb90 (.i 2147483647) (.minI [(.c (.i 1)),(.t 30)])
def c35:AFn:=⟨2,36,[.tmp 4],yB 5 4789558483587228 c35_2⟩
def c36_6 :=yE 88 0x10151ac1259c670360b880b4b9d9456854b6cfaa5d802ff141b88d9e626ae15bbcb512164abcae9b1f005a5e29d7ebe76e239eb390b6984eabc03b2b03aba9b31b4a3f690 (.invoke [(77,141),(83,189)] (.t 79) [(.t 77),(.c (.bool true))])
def c36_8 :=yF 62 0x267aa415da1235856f4f3b12b47f2a33f2746be2f32d9fae42fbb8d8dd3bb2eaa7208824d3d5ff50bd53d741a6815d3a6164a10bcf52650448b0514aae7262646cce351ed00fe5494bb7a1266cadc92e9f57966f39367d634cf7e3d39834ec96f1123e4df7b6e207f8f08c3354d35929c84bc06fd0 (.invoke [(77,143),(83,191)] (.t 58) [(.t 59)]) c36_6
def c36_10 :=yF 33 0xad8f4ddcb2a688723ab12dad8dec7dc17c8ddddb264342fdbee70e55995edc4b90620e966b51c8789d72fd7984c3bafe20934067a990702dfdd0338e9c249326de27dd35ac (.invoke [(77,141),(83,189)] (.t 31) [(.t 29),(.c (.bool false))]) c36_8
def c36:AFn:=⟨1,88,[],(c36_10)⟩
def c37_1 :=yI 11 0x7a383b2ebb66d760643d6128b1e59eb671ca04641a759be22eceddc15d92ae6848cd4d0 (.i 120) (.build [.nils,.nils] [(0,1,(.t 8))])
def c37:AFn:=⟨1,11,[.tmp 2,.tmp 3],yB 4 0xee3f9ac8fad12c c37_1⟩
def c38_3 :=yA 98 0x4697c28b17169b286d810949ef035c5167c6dd6ccf4b7e2a27139334498908c68d2d3bf6978bdcd5cd6582354a2bc8e3eae6dc2a3ad581fcd0edae08187d84184682e2bd4c4fd60f3fb4c757f68a84ebc26526065d94925998ed36123e7bad186d3737cc50f9d712989991aff8a92196dc7d68bcfb492108c1270fc8f67bc6b31cafe33fc
def c38_7 :=yE 121 0x983e05bebcb35f1303feff4e1a1e5d992ac7bf798134042362fad230e8d8cc6fd005a5a29cc1187c44d5041fc18d3ea1c3ccf774fd810091faca94eaa5901f114ef75a97b770c355ba132d51c (.minI [(.t 108),(.t 115)])
def c38_8 :=yA 36 0x18dc67d09d9b2c7939e27d59b7c4139dcc4e7de0a404b0bb8afbeab3dcbf22a12964576b4a7e0eae135e2b9a5025669879b1180d2545154f34685710249f0fbaf8ac90
def c38_9 :=(uF (fun a b c d e f=>jA 60 0x58484d541dc69218f02e3335e6373b9a183c6082d6e09586610deee7c92160ae19a093a72234cc05259cbc37635bab34d28ab9a940bd44ddb9a9c05f2da57c837eb0f7c57ad4ebcb8a0d6951aa989fde54e2fbaf5e7d2697ca1cda5a42b95a41930cc6dae1f448f0acf428fce4568a00e9e2aeea1fa2b6b07f14b8f8704c08b8b522b5f6910 0 3 3 [] [a,b,c] [d,e,f]) _) (.eq .ptr false (.t 11) (.c (.ptr none))) (.eq .fn true (.t 37) (.c (.nilfn))) (.callb [("roundhouse/dqueue.due",[(77,140),(83,188)])] (.t 40) []) c38_8 c38_3 c38_7
def c38:AFn:=⟨5,121,[.tmp 10],yB 11 0x25766e1190b89509c c38_9⟩
def c39:AFn:=⟨2,6,[.tmp 4],yI 6 0xe5fb396e23889bd7ad9a4fec438fe311bc (.nilfn) (.mkClo 66 [(.t 2),(.t 3)])⟩
def c40_0 :=yE 10 0x80398c30bbf66abd678ecc204cf39605c401df7f9e355d45480fe634e10 (.eq .ptr false (.t 3) (.c (.ptr none)))
def c40:AFn:=⟨1,10,[.tmp 2],yB 3 532661096604 c40_0⟩
def c41_0 :=yA 14 0x1f90cfcfb58567cc05c442c889374151700a41916076984a50a5f5a146909536c
def c41:AFn:=⟨1,14,[.tmp 2],yB 6 0x3a7f1b01092b5cd6fed1521258c909a029f9dd09c c41_0⟩
def c42_1 :=yA 13 0x13cd27dc47ea229bdd421dc2dc62c691ed1c6f69c6fca985f5736fab22f7b00a933f1b62b16111b7f771c3a8acda4e73adea2fff6c36bb1712c
def c42:AFn:=⟨1,13,[.tmp 2],yB 3 532183339164 c42_1⟩
def c43_2 :=yE 26 0x19c5aa6a58a9f543e8d8f016372ae8449ff70ca00ce411137b313b5b9728abc1176d33fa3e0f6549633ec270e0da4a20fe4184ae73eefa0aeb6c5b3b3a690bc457923c6ffff9f3843b4414ab5251656cec70632a873240cb09949f6b97151b9fe250 (.eq (.agg [.int .i64,.int .i64]) true (.t 20) (.t 24))
def c43:AFn:=⟨2,26,[.tmp 4],yB 5 4789558881718428 c43_2⟩
def c44_1 :=yA 18 0x1363832792a7515497ec93cfe79d2f3b7e3c2e1ba7dd208cce9dd376f9aae7701a19d01db46f85f18db57775ff7666fd0
def c44:AFn:=⟨2,18,[.tmp 4],yB 5 4789558483587228 c44_1⟩
def c45_1 :=yA 21 0x89b934d3263b7bef33b2b7fa15d29dd9a81eddbd1b8732893222752dc981aaa044e83013b5864caccb0d9622760f38dba334170e9e5720102d231b8913fc
def c45:AFn:=⟨2,21,[],(c45_1)⟩
def c46_1 :=yA 22 0x4a978e14774a27f8aa1ef2c3cdf1f5131094cdd8c2c83d0c8905a9cb1f1a95599a2ded28544648434b95176b28e185221de565a396916cc
def c46:AFn:=⟨2,22,[],(c46_1)⟩
def c47_0 :=yA 9 0x1aebe21b0bfe0df0cf559d4ba3449dc55b4a237b283e1079d27d34e10
def c47:AFn:=⟨1,9,[.tmp 2],yB 3 535049883804 c47_0⟩
def c48_0 :=yA 9 0x10c95981326613d3471ba96dd402e6dfd2f3fc
def c48:AFn:=⟨1,9,[.tmp 2],yB 3 532422217884 c48_0⟩
def c49_2 :=yH 32 0x461c4ec4b304f566ccc502f9940bb8e5f2acb32b18c5b61f02261f6b1c76cb6afb981076c3e3e36e479a4524be1894d9ff1966b7cceae159ec61790a4923f5a3acc7c2bb9ac2e9d7b43809d21fa8d57be88cd30b0880a510aca06bc2ab763da7371d9fc75a (.i 1000) (.label 0)
def c49:AFn:=⟨2,32,[.tmp 4,.tmp 5],yB 6 0x8fb2b724723b958fed31bc c49_2⟩
def c50_3 :=yA 51 0x611869fbab388dbbf167e78da3d02706268ccd76c7efd09fce5e2061d70a485
def c50_4 :=yF 41 0x4254d1cb2f9f06cb06ececbbb2e1f765c3792fb85724334b9a22a46909b55e90517e1c23b42116a34dcedf911e4e54e6d90f377d1579c1be01f5895331cde0024767125491d7df1de347794685ff23a9471b357b5bea955ce56266895fb475a0245ede5e24a99532f94ec00adf0fbed55fb7ac466bd3a32aa644197042e1d829fd81f4d4d0 (.build [.bool false,.i 0,.i 0] [(0,1,(.c (.bool true))),(1,1,(.t 34)),(2,1,(.t 35))]) c50_3
def c50:AFn:=⟨3,51,[],(c50_4)⟩
def c51_1 :=yM 14 0x207774792315068591a3ed4f97e9883571624906241b4fff63c14c9beb540ba16187a0de8525a3cce910 (.mkSlice 1 1 [.int .u8 0] (.t 10) (.t 10)) (.build [.nils,.i 0,.i 0,.int .u64 0,.int .u64 0,.bool false] [(0,1,(.t 11)),(5,1,(.c (.bool true)))])
def c51:AFn:=⟨1,14,[.tmp 2,.tmp 3],yB 4 0xee3f9ac8fad12c c51_1⟩
def c52_2 :=yA 53 0x22805950e40bc39fc11a057980dbf592dfb6496215e716b4c52d8f49396defad4e96acd5cd73fdcfe199fbc12766c6cea6c52aff8e75c4039b1eceb4a8f09f964297bdf7775ac
def c52_3 :=yF 31 0x5076c6398e99d0adff6ae8499631dfb802f94db2da1a384d046785720311feee1c23bf7399611a8f943d5c67793c4cebba639b4ba91ec8eae7c661d354cdb1cfbbf06bad4468210ad0 (.eq .ptr true (.t 16) (.c (.ptr none))) c52_2
def c52:AFn:=⟨4,53,[],(c52_3)⟩
def c53_0 :=yA 8 0xa4dd65cbb174ae5065fbe301fdc4543c8ebf6e30d09c
def c53:AFn:=⟨1,8,[.tmp 2],(c53_0)⟩
def c54_0 :=yA 9 0x1aebe21b02c61bf07437efc787308441dda71843283e18bf35db34e10
def c54:AFn:=⟨1,9,[.tmp 2],yB 3 532183339164 c54_0⟩
def c55_1 :=yA 25 0x2b602c69e43b8ab58fdad56cf450c1e5b755721b20dc3945183b491bc585142edc4c13fbce4502bbd83e94109baa00aa6454556983121e3237caf1963c
def c55:AFn:=⟨3,25,[.tmp 6],yB 7 0x17d6b927192d09c c55_1⟩
def c56_1 :=yE 12 0x3e74f9865516d1e62928e0bd51a3112d9242b911b8e2650b38fcd2e4db9409bce32b68722f004f1a2ae0b68785caf109c (.eq .ptr false (.t 6) (.c (.ptr none)))
def c56:AFn:=⟨2,12,[.tmp 4],(c56_1)⟩
def c57_0 :=yA 110 0x30a9b1da28c494d80153ce2547187fcaaeec177a718571a121f48b9cfb61fdc507e9b69daf8b82ae960d52fbda3916d71413c03724d2113979b3bc271d3c2e43aaacf39e17365cbb94ac8c004397f8bffe1c
def c57_3 :=yF 85 0x382ab599a55d19eab8a7c2770a038871ba6bd394d21bb8c4ae56a5b9763e0cb1206828efde299e95c87ee47d3769fc23e2a9a5bed6c1abd7f285e8bb2e8ca20277accce30203056822f8717283ffef026e8f0e5db99d14e2c95732cf9e021c02b11f67dadc47f6d7ff63c (.eq .ptr true (.t 64) (.c (.ptr none))) c57_0
def c57_5 :=yF 54 0x1bb69f0db87a999ef9a73966dbb19449d32e42af011dfa5e41d7a7d9e1681ed8eacdecc55cc6bff75eb3dc2813b75225225543d705c76dc8d060838671410813d8cc78f4e1fad26279a1522d3fc (.build [.bool false,.bool false,.bool false,.bool false,.bool false,.int .u64 0,.int .u64 0] [(0,1,(.c (.bool true))),(5,1,(.t 37)),(6,1,(.t 39))]) c57_3
def c57_8 :=yF 36 0x5d4d262ce557743857d0bb07bd0cf795eee5d15d993d04c97867ad4410d3765e20a9b62f09ff57172165ed599dae3bb38e490f29bd89a13644573ced6c571f11461cd225757cd11530587551e92617aa902e1c92af2cd9d6933fda1f4cdc5616070a8b4279d318e8f7d13770c24dbe62647f254a5adb0cc5ae013f98ae03d52d3dfa163c (.build [.bool false,.bool false,.bool false,.bool false,.bool false,.int .u64 0,.int .u64 0] []) c57_5
def c57:AFn:=⟨2,110,[.cellN 4 7],yB 5 0x6fae926033c70f6292f2909c c57_8⟩
def c58_0 :=yE 12 0x7a06da27d437bfc524259d60ac6694379d39616f5ac (.eq .ptr false (.t 3) (.c (.ptr none)))
def c58:AFn:=⟨1,12,[.tmp 2],yB 3 532422217884 c58_0⟩
def c59_0 :=yA 9 0x10c959813265cfeb861d253d68f7535cd2f3fc
def c59:AFn:=⟨1,9,[.tmp 2],yB 3 532422217884 c59_0⟩
def c60_1 :=yA 17 0x10c86813597503b4f40682e5eac7a009d14c5adaf3274e02c0f0dd74764970fecd0c87a49d6acfeeafc845a55d33c247d111bc
def c60:AFn:=⟨1,17,[.tmp 2],yB 3 532661096604 c60_1⟩
def c61_0 :=yK 11 0x1ee2d2ded29a8dcfa006e47b772c21ad49f9b6c5616f51c (.i 2000) (.clo 79 [])
def c61:AFn:=⟨1,11,[.tmp 2],yB 3 532422217884 c61_0⟩
def c62_2 :=yA 19 0x48d6cf32540517b972ef323930bb5c0fd213b1dea2672e6367427f91b3993dee008a051c6682c3d3d8f26ac239da13cdf43058bfae257f0908ce2bbbc5528f070cbbd01eff3e9e009221114b3c9436d3379cc7fd4d0
def c62:AFn:=⟨1,19,[.tmp 2],yB 4 0x478b5ad0581f49ad09c c62_2⟩
def c63_0 :=yG 12 0x10d946994df92139c88212033dbb90a1277d5331866f61385e071bd53fc (.i (-1))
def c63:AFn:=⟨1,12,[.tmp 2],yB 3 532422217884 c63_0⟩
def c64_4 :=yE 40 0x47d6470a4c40d21775e0b05b84aef7b230bc94ca6ca65715c03e56744b861bbb1c8e137ec4fa83cda79960809819a851f83585d839233703303687b15f5582b12d86214d85a081c033d8dc1853409fc87b07e05323d04da9608c4dcf330c3e2334b7b312f1b939950552430a55c77bc7f0c2a07424603b6e0abf0cfdc236c1f8ed08cae1de831fd5864dbb66578af6d80a4890e1948c (.slice 4 (.t 18) (some (.c (.i 1))) none none)
def c64:AFn:=⟨2,40,[.tmp 4],yB 5 4789558881718428 c64_4⟩
def c65_0 :=yI 21 0x22860a0d8062f934b28b8a94914a436083e82041db06d803e4af59fecf017f74b5 (.int .u64 18446744073709551615) (.minI [(.t 11),(.t 16)])
def c65:AFn:=⟨2,21,[],yB 7 0x35fbc08a7c13628db4c2111bc c65_0⟩
def c66_4 :=(uF (fun a b c d e=>jA 41 0x2e3e577ccbfa11a8d6dd20d9ecf5f12fbe9708fe1b9939ebc565543f3da13f805aa32b2ce4adb552cf6e9c237f8bb91ae443cc665d7124b5e135d624d0f44ffcdc23f6a66fe0a00a6fde81e982b8b91a873120451dfa83f92d4a7abc8132619d8579b14612a7d64bcf2c192fafa77c8ed68fd046ccdc8297afa332ee282680fad1c88a4736575a710d18d10a1b3f8f83e0313fe6357109cda099ede25a 1 3 1 [a] [b,c,d] [e]) _) (.i 256) (.invoke [(77,142),(83,190)] (.t 15) [(.t 16),(.t 17)]) (.callv (.t 25) [(.t 26)]) (.minI [(.t 39),(.c (.i 256))]) (.label 0)
def c66:AFn:=⟨3,41,[],(c66_4)⟩
def c67_0 :=yE 8 0x97181ddb1483dc310daf60ea68fe0a697dc80c68f073dd106732334e10 (.eq .slice false (.t 3) (.c (.nils)))
def c67:AFn:=⟨1,8,[.tmp 2],yB 3 532661096604 c67_0⟩
def c68_2 :=yA 14 0xdf08d689ec6bacddcdf1f2fcfb932e75b48239aca5f21d4c56642aa4285fee09b1bd
def c68_3 :=yA 28 0x22bb7926c7ae266f2cc7479b698ee64d3e03c9bd178e29a88a6ca9491cd4e90aa52c6c6e291c421978ce59dbadf3ea83d3d0208a79cd78f65bef8f9d6f102179e12bb92784100ce0987fd613341db1653ce10fd4d0
def c68:AFn:=⟨1,28,[.tmp 2],yC 9 0xc87bb319f7f3d4b2de94f4edb8f072dec5166a509c c68_2 c68_3⟩
def c69:AFn:=⟨1,4,[.tmp 2],yI 4 0x3e74bc8c76a4aa590df662612c (.nilfn) (.mkClo 84 [(.t 1)])⟩
def c70:AFn:=⟨1,4,[.tmp 2],yI 4 0x3e74bc8c76a4aa590df662612c (.nilfn) (.mkClo 86 [(.t 1)])⟩
def c71_3 :=yE 48 0x1c4e3b639941ec0bf06b47fdc8cbd70fdec9fdf4e3ee61fe6532e14f50135241f703921311c20220b62aae0d82c7d71fd81ffe7ad1e5c9633cccb641c20f3a5ab66b1ee3a66b1b2a39cff2d6c93e2dca33f23ca198875a0e3d6c8007aefd3804fe3f476c02df4f1c37137c5e4c54d0 (.convInt .u64 (.t 42))
def c71:AFn:=⟨2,48,[.tmp 4],yB 9 0x786d36ca26d2fe8dda7d57dee2df039c9afb909c c71_3⟩
def c72_0 :=yE 12 0x7a06da27d437bfc5240a77f6c69429455d39616f5ac (.eq .ptr false (.t 3) (.c (.ptr none)))
def c72:AFn:=⟨1,12,[.tmp 2],yB 3 532422217884 c72_0⟩
def c73_3 :=(uF (fun a b c=>jA 58 0xe39be109433537092b3a7a39fde5cfd406d02cf4f7effa99ff568e399de947c6351696b76142686756c888d7fe6d20412cb7413a13b2cc6b928a80c60367efe29359254c025826f3c5ed19936d46a0c123f48bc71ba9cc05441598196082bd6b0a9d59bb329fae368f9be7f353db14a01968593fde0ffa96ea91587d21850 0 3 0 [] [a,b,c] []) _) (.copy 1 (.t 33) (.t 34)) (.slice 1 (.t 32) (some (.t 35)) none none) (.convInt .u64 (.t 51))
def c73_5 :=(uF (fun a b c=>jA 18 0x1d36e5883e6236364ac6dfc4d40f5ddb82cc7adf98f95a381751f3af917440b1eaf568ab3a036d34ae5e9dcdbb64e6bb748c 0 2 1 [] [a,b] [c]) _) (.minI [(.t 9),(.t 11)]) (.slice 1 (.t 7) none (some (.t 12)) none) c73_3
def c73:AFn:=⟨2,58,[.tmp 4],yB 5 4789558483587228 c73_5⟩
def c74_0 :=yA 9 0x10c959813265b2d157f935baf252e6dfd2f3fc
def c74:AFn:=⟨1,9,[.tmp 2],yB 3 532422217884 c74_0⟩
def c75_0 :=yA 24 0x730400d49687b0d9712c8b5bb5c3a480182c76b5bb2923a5572bbbc4936e1e488b07a0cd755995f849ec5c23fb7783550409333b4c
def c75:AFn:=⟨2,24,[.tmp 4],yB 5 4789558881718428 c75_0⟩
def c76_0 :=yA 15 0x7e25e1593efd4e32ccd096d4f4c80aaaa28aadb3669363c
def c76:AFn:=⟨1,15,[.tmp 2],yB 5 0x3eb06c7e4af3f7725e417f0b70df1294d386509c c76_0⟩
def c77_1 :=yA 13 0x36e858a9c1035ee6994399fdf330a056d38e5fc4c8c7217b004a17f6000ae7eec6a1f42a3adf94d1d96a784ba1fc77e8f635b2e997ac2af551e55b1709c
def c77:AFn:=⟨1,13,[.tmp 2],yB 3 532661096604 c77_1⟩
def c78_0 :=yA 9 0x38583d281518ef9e252aeeb0c10805a85e147044909c
def c78:AFn:=⟨2,9,[.tmp 4],(c78_0)⟩
def c79_0 :=yA 6 0x2200dd1a0a0fdea051ff4428a655fa746daac1e12c
def c79:AFn:=⟨1,6,[.tmp 2],(c79_0)⟩
def c80_0 :=(uF (fun a b c=>jA 25 0x39ec5a9912293f2069c9969a6b18964cfc43dbc1082b7eebe716d039a562b7eaaae206192db422e732b36467dfea1bd998da8be23c5f522ceef82f0bc466307874f5b4ce50 3 0 0 [a,b,c] [] []) _) (.i 50) (.clo 94 []) (.i 120)
def c80:AFn:=⟨1,25,[.tmp 2],yH 4 0x12f2ae5f7ff2455d8c1e12c (.clo 91 []) c80_0⟩
def c81_3 :=yA 32 0x221754c439794ed977d5ea833ed8466b1b865c6e6595a7e190418da3a98ba75ce3f73010af986e6956ee2582dc38432fa6388d31a265942f3122d229a97aef1c3ad8cdc9e3d2462410a2ce4fb26d32e7d7c8bbed6582d9170a528395b2b9869c9c1d3cd17320037197c174e554b29808a636a87d289fccb557d76f276e6b7ba9912943ab42acad5340d15ac
def c81:AFn:=⟨1,32,[.cellN 2 4],yB 3 0x2a04996addacc8eabc1e12c c81_3⟩
def c82_0 :=yA 19 0x28889a551ac283ad5b751d1700d8545e9e6e0d799794ddcaccde6e67d9b4d3a4c003eedcefe9d071938952897fc05d63c
def c82:AFn:=⟨2,19,[.tmp 4,.tmp 5],yB 6 0x163572952108f7112c c82_0⟩
def c83_4 :=yA 39 0xac6efdc4efecd0ba3a1942003586ecc244ef22cd20b61ac3c461b490e3ae1e9e8ece9fe0986db301500ab89006163c
def c83_5 :=yA 25 0x6b0919664c5aa8a5fd94fc02e4266521a44cfc64a071feb7a9f342b5ac
def c83_6 :=(uF (fun a b c=>jA 67 0xa9b27f3cfc28622d4f3e82ecf03b6defe27af0bf5ee8e521c84bc56d5742583e4660bf580b5cfe18e0177bb52b4d2078ac3a0dbd40472a327cc6301e89182cf2e3342b7bb2324c147fde266230e44409528eb9e82f7f3f0a036473dc6539b2965df17fd7cf9cb9b5189cee5e00ef533b5f7ec47ae1a9de09adf5d8010e0809b18aecdf619457919d2078cfbc4fe0eca16c647a2ffff1dde22dd9201e13b674f 1 0 2 [a] [] [b,c]) _) (.i 6) c83_5 c83_4
def c83_9 :=yH 71 0x4f7c136fc0dd25f0231beb77e544cd7b4ae79ee7610be6bc42679cdd338beb8fba13480f27eaa1b710adec789a185163c6c010dae8700e750e152ff3ffd1b907f68b663c54337c3e183fe8a9e4b3d79e6b91984814c1e03ac918dd631075a411bc (.i 120) c83_6
def c83:AFn:=⟨2,71,[.tmp 4,.tmp 5],(c83_9)⟩
def c84_2 :=yM 20 0x1dd18fdd07632213b64d66d78c82e824ec891c7c3c6bc83317cf9b50408326f4db668c84976a4f404bc11768244932036a1305d84ba9ffa8bc0a78a2a603940fa137cbab86925a6509c (.build [.i 0,.i 0] [(0,1,(.t 14)),(1,1,(.t 15))]) (.callv (.t 13) [(.t 16)])
def c84:AFn:=⟨2,20,[],yC 6 0x28408e462d438fd990403a (.label 0) c84_2⟩
def c85_1 :=yA 15 0x86f97b8dc13c8db86a1e6666b9e775c33896aae3778993f0b1188c604776689fbe8c2d0dfba89e65b90
def c85:AFn:=⟨2,15,[.tmp 4],yB 5 4789558483587228 c85_1⟩
def c86_2 :=yM 23 0x136ad150efb704da1d30f78de3c5ee86e8215b86015e7522fe91d4dc0b4d8fb1abc0338320df39de676190b6b53eea5625c1226b3741550eadbce9af88f64f8dc716f72613b2a5eaf00698c854877f5d4f2dc (.ixA 96 3 (some 3) (.t 8) (.t 9)) (.callv (.t 17) [(.t 18)])
def c86:AFn:=⟨2,23,[],(c86_2)⟩
def c87_2 :=yE 25 0x1c596d4d17ec5dd80b2427045ef802d27d324e96db956b58eb464e5efcc75b3e30a91ae8ad7337ee734cef03222e4e9ecbd0b474ec54e74f487b7a7a938c8b83cbe0acca7792823cd8db16250 (.minI [(.t 7),(.t 9)])
def c87:AFn:=⟨2,25,[.tmp 4],yB 6 0xd6f0a7a432590d786760109c c87_2⟩
def c88_0 :=yI 8 0x1290ec49185ab4ce522a1666af3a2065a1531f24c (.nilfn) (.mkClo 104 [(.t 5),(.t 4),(.t 3)])
def c88:AFn:=⟨3,8,[.tmp 6],(c88_0)⟩
def c89:AFn:=⟨1,4,[.tmp 2],yI 4 0x3e74bc8c76a4aa590df662612c (.nilfn) (.mkClo 105 [(.t 1)])⟩
def c90_2 :=yI 19 0x9ee3fa1b608e88707de941dcd1ab47506f3fddb1a70479431a63d42c56c8398b777844a3a12565ee542e0d4630ee55029ae175583b316cbc4cd71eba7c4f5b65c59d36f2b65bbbfcd6707793d52909c (.i (-1)) (.callv (.t 11) [(.t 15)])
def c90:AFn:=⟨2,19,[.tmp 4],(c90_2)⟩
def c91_0 :=yG 9 0x10c9597ec92a6e48afd099e050862de8caf3fc (.i 999)
def c91:AFn:=⟨1,9,[.tmp 2],yB 3 532422217884 c91_0⟩
def c92_0 :=yA 9 0x38583d281518ef9e283bceadcc2591a85e147044909c
def c92:AFn:=⟨2,9,[.tmp 4],(c92_0)⟩
def c93_0 :=yA 9 0x38583d281518ef9e286cdcad9cd76a685e147044909c
def c93:AFn:=⟨2,9,[.tmp 4],(c93_0)⟩
def c94_0 :=yA 6 0xafdb17ccbc8d72a0bce57adcffa746daac1e12c
def c94:AFn:=⟨1,6,[.tmp 2],(c94_0)⟩
def c95_3 :=yM 32 0x157c9c723b0ebf13f6891fde93e677957357883f7df072092203184fedbb702a9b8d3f047627110945e002da80b76e07b52bae6a48e6dd212deb1e5a22c1ebf9110d7375cd6f6e47f6824d9990dcd2a9948bc6d90fcda7ba5d368ca4f37fc120fe250 (.callv (.t 16) [(.c (.str [119]))]) (.callv (.t 24) [(.c (.str [110]))])
def c95_4 :=(uF (fun a b c=>jA 45 0x4c55fec69f2082ac936114949b62baca198fdfc7d93c5e31fa617d9109916d3b8def3db63503dbe3b817ec 1 2 0 [a] [b,c] []) _) (.i 1000) (.callv (.t 32) [(.c (.str [100]))]) (.eq .bool false (.t 33) (.t 37))
def c95:AFn:=⟨1,45,[.tmp 2],yN 5 0x3406d368e5e5807ec2a8817ac1e12c (.mkClo 108 [(.t 1)]) c95_3 c95_4⟩
def c96_0 :=yE 8 0x97181dddec2001f91245434d4fbd7c7f08080c68f073dd106732334e10 (.eq .slice false (.t 3) (.c (.nils)))
def c96:AFn:=⟨1,8,[.tmp 2],yB 3 532661096604 c96_0⟩
def c97_0 :=yE 8 0x97181dda95315253d5d498b368fe0a697dc80c68f073dd106732334e10 (.eq .slice false (.t 3) (.c (.nils)))
def c97:AFn:=⟨1,8,[.tmp 2],yB 3 532661096604 c97_0⟩
def c98_3 :=yG 44 0x7eb3c8dbcc362e002f4c03d0e07cd9636ef8a00a58020ddda182c92a9c270dd9187e56ca10000a172efabb3cc149badab95b873728b495ffa6387c194d64ba34c22be72d7eb4b81363c32c08d42ed68b09ccd9aa617c6bc89f4e6cdc56f389b8b2546627d0305f0caaf3ed23359f1346f17f3055a61523330f3317477752c36c26312829bfd50031656aa614d0eff48c (.i 114)
def c98:AFn:=⟨3,44,[.tmp 6,.tmp 7],yB 8 0x1da1d5b8829afa5512c c98_3⟩
def c99_3 :=yA 31 0x163582b14af67cc3f5a4d2a3a54642e422cbd3bb5908dbceaf7a621e9e415a34f5aa31c843bddd07b067911781abc3dc5d298155d3638dff03e10e6b671cbf9209cad25fe500a6d495940a6e183e9aa0fe02409c88d9a0dfcc914d7bc8d57b09ca21e5040bc82b38f27508ff48c
def c99:AFn:=⟨3,31,[.tmp 6,.tmp 7],yB 8 0x1da1d5b8829fb95512c c99_3⟩
def c100_1 :=yA 18 0xc76ebc96030c854094f365dbdaf672d674e28323a2cd764de3bd96a195daf9d8df113365cb2acd89a7d4d2a0511948c
def c100:AFn:=⟨2,18,[.tmp 4],yB 5 4789558483587228 c100_1⟩
def c101_1 :=yA 18 0xc76ebc96030c854094f365c7a8a8fceac29e274dcecf96bfa1e8bdb9ea51f9d8df113365cb2acd89a7d4d2a0511948c
def c101:AFn:=⟨2,18,[.tmp 4],yB 5 4789558483587228 c101_1⟩
def c102_4 :=yA 41 0x37c9d29c042804c226315cb6033de6a49da35623b2e122d946dde10ebe050cda52d3a649c7298a7928b434b4d84733c1c38dfb37cf6825fecee54229f099e03f3f49c8f9e83816f7ff03da9ee162226146c3500ec90eb9066b1436b177d500f4ed8c265d20bb7cbf9b3cbd7fa86746663aaaf0a4442cbedde9ac2ce4e5c34e1a6bd69a2ce8bae9367b88895903bb48c
def c102:AFn:=⟨2,41,[.tmp 4],yB 5 4789558483587228 c102_4⟩
def c103_3 :=yA 143 0xb7109f41aba867fdb1fd839c739fd257473ee64ae0a2e48f20957aa63db307adc3d851b58ee662fecef484ae1ec291c2fc3c5bcca6a72e9ae326da59a5f8e401e8b05bab00bf4d6307baed5c50f5d2945a68e8cadb025cb6d04ba9a6f64a4495b35c1798001da35f469223e6e0b3f9e28164bd4f3c0d52cc39439fe18e7cec038659514b81fa84c235560dae9dfe8b0c55580d85da9bc9c8a8
def c103_8 :=yG 87 0x20b32d8a7da757ad42ff828bafd5d3a06052d37f638da859b91e170fe0b9dcae01739d3455b4ad4f485df862cdbc92773c1fbcac360a6a50558b0eaee39b2c0e3783ca1128790094e74cfb349d838859631f1b118959701db2840b9da0bed63c947b227167e2b6eb2350dd777e3a0f7946aff2cdd24c (.i 1000)
def c103_9 :=yB 53 0x5594d1cd5fc4cd6cc0a4383126ad82673125e15598b1a6213517f87fc07c618299e897142350e76ebad5019a5a2af393cd794d84e0f505927d800ab836c5c63bc968722659e322f915cf63cfda1e436f03f2af29a3c218f3d20a4751e2416e6aadf43845ec0a302c668c c103_8
def c103_10 :=yC 101 0x10cc6eb6440544c114c5906a51db57f31dcb2782307926ea78dfafaea80f882989d816fd66859e49a888599535948bbe2c636dbca3ae839ad72bfcd7e7454dde570edf97a395e5a6b46a58cbbfce030 c103_9 c103_3
def c103:AFn:=⟨3,143,[.tmp 6,.tmp 7],yB 8 0x1da1d5b8829afa5512c c103_10⟩
def c104_2 :=(uF (fun a b c=>jA 43 0xa5264c53cef9c9afb351e5bc07fc588be4bbe0a9fddde840513f80d21ac25b41bc07848b17a9b9b0a2e3282133af682bc76a966f72600cc88ed78ada167bb1e523b97622a6a35af3a2ee10c958d255d9af2bbd24629659178086c8c4b0460228d004da1fbac66f48c 0 3 0 [] [a,b,c] []) _) (.minI [(.t 23),(.t 28)]) (.slice 1 (.t 19) (some (.t 20)) (some (.t 29)) none) (.callv (.t 31) [(.t 32)])
def c104:AFn:=⟨4,43,[],yC 9 0xab6e8906737b7b170117b38654191c2213c3a (.label 0) c104_2⟩
def c105_3 :=(uF (fun a b c=>jA 36 0x557f799cb1994a269dd12c90ebdf79b86afbb5d3e266c9b303a6ebcc09ca45b31b136c40ce6bd8fc855a534ca7012700de9d4ca538eeb3e0569bf79bbbd0877e10314d353434b89bebf4dc2e855c9e481ceddd2761dc842b6430b07bc3d76175a113b0f70e5cd9ba7e12ee8da872dc 0 3 0 [] [a,b,c] []) _) (.ixA 96 1 none (.t 10) (.t 11)) (.build [.i 0,.i 0,.i 0] [(0,1,(.t 24)),(1,1,(.t 30)),(2,1,(.t 31))]) (.callv (.t 23) [(.t 32)])
def c105:AFn:=⟨2,36,[],yC 7 0x120098e0018b3aa3ab40cfe7a8ca (.label 0) c105_3⟩
def c106_2 :=yI 19 0x27b8fe86d823a21c1f7a5077346ad1d41bcff76c69c11e50c698f50cef1ace0ed621dab6bb6be5b0641e11f7debb919809b5a603316cbc4cd71eba7c4f5b65c59d36f2b65bbbfcd6707793d52909c (.i (-1)) (.callv (.t 11) [(.t 15)])
def c106:AFn:=⟨2,19,[.tmp 4],(c106_2)⟩
def c107_2 :=yI 19 0x9ee3fa1b608e88707de941dcd1ab47506f3fddb1a70479431a63d42c56c8398b777844a3a12565ee542e0d4630ee55029ae175583b316cbc4cd71eba7c4f5b65c59d36f2b65bbbfcd6707793d52909c (.i (-1)) (.callv (.t 11) [(.t 15)])
def c107:AFn:=⟨2,19,[.tmp 4],(c107_2)⟩
def c108_0 :=yA 9 0x25c6d299897d6836c336327266d21b48073d78808c703a709c
def c108:AFn:=⟨2,9,[.tmp 3],(c108_0)⟩
def c109_0 :=yA 9 0x38583d281518ef9e29c43eac51b457a85e147044909c
def c109:AFn:=⟨2,9,[.tmp 4],(c109_0)⟩
def c110_3 :=(uF (fun a b c d e f=>jA 15 0x10cfe5ce4de74b0056b67386b8492d57a82c8a98fe86f9ed712ae73068e026c391510ce1794dbde1e450f0ab01050b0a3ba7b68abece95ac5c6318d7ae07f8cfabe3f41f6e39589297b28da3ed6886cb785188b219ef7419b6d775757fd2b58e15c25e8bc4d4750 6 0 0 [a,b,c,d,e,f] [] []) _) (.str [119,100]) (.i 6) (.str [119,110]) (.str [119]) (.i 7) (.str [110])
def c110:AFn:=⟨1,15,[.tmp 2],yB 3 535408201884 c110_3⟩
def c111_2 :=yA 43 0x1405424e7f5ae194421867bc62d3f59f9bbdf2b3742dc58da3f1ffee0d60df9133534946010c9d7aad8b0d2a76f0998b4449fd37944c612161ba2ccecb814a2f9eb99ccf6be2021f0e9e0c2229a7bbf5913f03c4a5697cc9762d2121f92c39c0a038b574f2aff40b998301b42718bd47db3b49c490ad7fce030
def c111:AFn:=⟨2,43,[.tmp 4,.tmp 5],yB 6 0x16357295216ca2112c c111_2⟩
def c112_1 :=yA 25 0x3814e9431792cd33269798deefb2633982fba11d17f173fba263a950ba63fbbf123bfc408738ac4870a09c61f619c7fe8aed9781d56713d1a9195ac
def c112:AFn:=⟨3,25,[.tmp 6],yB 7 0x17d6b92b404d09c c112_1⟩
def c113_1 :=yA 22 0x3cc9a1796946ee969ff8d311f4090dae1dd4b0119ae29e38569613257c597087bd0d6c67acebc77e92e528cbee0ba39d998616d60975f5aeb4308be9148c
def c113:AFn:=⟨2,22,[],(c113_1)⟩
def c114:AFn:=⟨2,8,[.tmp 4],yA 8 0x4ca912ac4b60cadcf60cc848b54335932d109c⟩
def c115_4 :=(uF (fun a b c d=>jA 143 0xfe791c72295809e6d973750fbd7d39bc68dadafc6d985b3e55cfdb09fe342b7ddb743b4b4360dda7e46a390e220efeb044189e2ba50845d5bed6eb27770b97d5a23437548fecc69b3d3b490fdf008315cb25d8bfbb0a68b9770b94db53af1ed587c 2 2 0 [a,b] [c,d] []) _) (.int .u64 4) (.i (-1)) .fail (.sliceS (.t 133) (some (.t 134)) none)
def c115_6 :=(uF (fun a b c d=>jA 118 0x1809d5d5ede0a5f82afeafe9e66e87c6a53e8b1e93a3f9431981e3040486cbbd567b8f28e63e7969e6724deaa5f952600b886ce6c681bf872625423981267dd17d606bd668758c974ac2f3d5918d5c85939804f46fc1a953b24944f4ba8ffb3597f1171bc 1 2 1 [a] [b,c] [d]) _) (.i (-1)) .fail (.sliceS (.t 108) (some (.t 109)) none) c115_4
def c115_10 :=(uF (fun a b c d e f=>jA 95 0xdbe7fe5ed6023bbc3024229365023a080bb8b2c9a8c85002ed4a92ea6d58f9c300e28e28224114d04ecb4c43002b242d71774ca7a9fbf7ddef87ee05eac0cce14ef7048e1a3f74d31e91b59afe682bd5ddeadd710238489026fdc04c74408c4858f91d41db65d7b5884bbbe0ec97771feb102c9838374ae20cfb9ad503cb12f25fd3d22e0e250 1 4 1 [a] [b,c,d,e] [f]) _) (.i (-1)) (.ixStr (.t 60) (.t 61)) (.sliceS (.t 65) (some (.t 67)) (some (.t 68))) (.ixStr (.t 78) (.t 80)) (.sliceS (.t 85) (some (.t 86)) (some (.t 89))) c115_6
def c115_16 :=(uF (fun a b c d e=>jA 48 0xcc8aa671f3cdfa1da94c657b3b80745e6e8097cf375c001b6bb36b24c81e2458d7aa87ac259ab32b2b9b3a55cea9f66db8b83a687bce21a34c588444ee9be8b76667f6fb32f541906feff638f4d746711dade22b1f996b5da64e779cd11460c14695ebd4672096b73a53ea80c6d79be8c216ed9798c52cc475f5485c2cb48c 1 4 0 [a] [b,c,d,e] []) _) (.i (-1)) (.ixStr (.t 28) (.c (.i 0))) (.lenS (.t 33)) .fail (.lenS (.t 41))
def c115_17 :=(uF (fun a b c d e=>jA 60 0x13c8339c3e0ef64819d607223c4919d20cbd18fa694a8522a0a1d45329737fff6b5acf03eea4f24687fe07476897c38dc3ee332fc117a75b05ac514086f3a60622f10efc35e91bc 1 3 1 [a] [b,c,d] [e]) _) (.i (-1)) (.ixStr (.t 48) (.c (.i 0))) (.ixStr (.t 50) (.c (.i 1))) (.lenS (.t 52)) c115_10
def c115:AFn:=⟨2,143,[.tmp 4],yN 16 0x2a9ec81d7ed33e3c0484c9b3aeb2631109c (.lenS (.t 14)) c115_16 c115_17⟩
def c116:AFn:=⟨2,8,[.tmp 4],yA 8 0x4ca912ac4b61772061e94bc8b54335932d109c⟩
def c139_1:AC :=
 sQ (rG [qQ 0 2 (.alloc 1 [.bool false])] [0,2]) (sQ (sQ (rG [mV 0 3 0,aA 1 4 144 3] [0,2,4]) (cD 4 (rT [.mk4 0 none (.store 1 (.t 2) (.c (.bool false))) none] [2]))) (sQ (sQ (rG [mV 0 5 0,aA 1 6 145 5] [2,6]) (.block 0 (.rangeFunc (.t 6) [7] [2] (.skip) (.block 1 (rT [.mk4 0 none (.store 1 (.t 2) (.c (.bool true))) none] []))))) (rT [.mk4 0 none (.store 1 (.t 2) (.c (.bool false))) none] [2])))
def c139:AFn:=⟨1,8,[.cell1 2],(c139_1)⟩
def c140_0 :=yA 8 0xdbd1dd0e52c91a21b37c2c2bbc21a46bf9428d09c
def c140:AFn:=⟨1,8,[.tmp 2],(c140_0)⟩
def c141_2 :=yG 22 0x50e7056f76e09de3331d1b42ccc91f621ff4d5cf292e9ce9af0900efa06adfbd5c3856d6f6490394c562784aaf502f61ac6a6e633aa3f8da063724c (.i (-1))
def c141:AFn:=⟨3,22,[],yB 7 0x18a48cc365efd09c c141_2⟩
def c142_5 :=yG 69 0xd3eb74473aaeb1c8e8e29c28b174da305099644ace017921067d536a457a7ba9f0a2d263f63b3775f23c4e7cae1593870ca46641434bc269aabe519ba828e46015f1ea6c4eab090a6defd0510034ba18d4eadc526f534b073abd2de45f75f8722be37947cabee2c0914aaa50adba0b46757e06bf152399d58215fcacc92ebf4cbde65f3fbc1b33efa190237a097ced80e0b23d408cfd539a71751b0b8d4240a517e3ab6b3736c78d1ce62323a93b1a4ed5f785b90 (.i (-1))
def c142_9 :=yJ 71 0x983279dfc02bc70cc5ffc5c4e53a2c8caa67ffd817989b4d97e388a969ec5fa2ec745979fa200fd932be1b15f2a7bf5b96ef210a3317aa6caf0e2113a6caeae022f344faa80106f67de0de567309f1df67b06d258b0f2e27d7c0b89180f7ae1665278b8cc505f9f84b2fa01a7f517889c6d677af37ffe39ed5ba4bb65febf0c443fefd3f40cdfe76cc (.i 24) (.build [.i 0,.i 0] [(0,1,(.t 31))]) c142_5
def c142:AFn:=⟨3,71,[.tmp 6],yB 7 0x17d6b92b404d09c c142_9⟩
def c143_1 :=yA 20 0x4cac24c824a3500eded0856af036dad094aae41ffab392414495ef2636f7fa9e06cf59e7df18beafe1e30870f3fc
def c143:AFn:=⟨2,20,[],yB 4 0x35fccc57fc709c c143_1⟩
def c144_0 :=yM 12 0x28acf3629c132e18fa91427e983a6c4f35b1616f5ac (.eq .ptr false (.t 3) (.c (.ptr none))) (.eq .ptr false (.t 9) (.c (.ptr none)))
def c144:AFn:=⟨1,12,[.tmp 2],yB 3 532422217884 c144_0⟩
def c145:AFn:=⟨1,4,[.tmp 2],yI 4 0x3e74bc8c76a4aa590df662612c (.nilfn) (.mkClo 150 [(.t 1)])⟩
def c146_5 :=(uF (fun a b c d=>jA 104 0x4a330d540028bc79ab9c245bfc6cb72cd7accad4cc8d1af7bb8a45fd30174efc3b4b65c749bb54cf604badbae5f838e40fb65c211ad937e2a764cb95a9c4671b3ec7026290cee46ac2355d121a4a721f94f130597094b04d110eef20dc8a8a36c7dd61ce1ad561388d412e23981cc7101d6b1c31bc 1 3 0 [a] [b,c,d] []) _) (.i 151) (.build [.i 0,.i 0,.i 0,.int .u64 0,.int .u64 0] [(0,1,(.t 84)),(1,1,(.t 85)),(2,1,(.t 87)),(3,1,(.t 89)),(4,1,(.t 91))]) (.mput (.leaf (.int .i64)) (.t 82) (.t 83) (.t 92)) (.mdel (.leaf (.int .i64)) (.t 102) (.t 103))
def c146_8 :=yM 132 0x1dd3122e2c9a14fe4e0d902e50bc1d5c0d96aa996772d25a614648fdabababff86192b069cbbd8e7ad9018a724a74fba6193655dc391bab3408cb143c076c62468947868c13d81a597624d164b58a210b90bbc33f02c0ece920eb2a4c69591a5ae14533d139bce7b76e8ede77be650ace72999093179d15ac (.build [.i 0,.i 0,.i 0,.int .u64 0,.int .u64 0] [(0,1,(.t 122)),(1,1,(.t 123)),(2,1,(.t 126)),(3,1,(.t 128)),(4,1,(.t 130))]) (.mput (.leaf (.int .i64)) (.t 120) (.t 121) (.t 131))
def c146_10 :=(uF (fun a b c d=>jA 76 0xd39e26edce550f5ceba0517ed8a2ad4a6719febf7218c88148f1265838f212e6d263b253e6139819ae42c5b194f0bd322d490e5ad7b61f996a904bbe70770edd0ddd711f45b0d831c99018b31739c11790203d4a2192c9c9ccf969520d9d238325d50fe2a9b787b8491d4c0c84d6bb85120c2f82a4148500287fe94e77324cf5be2fc6328ab85ea99effa5e2f823e5f9765b2551c 2 0 2 [a,b] [] [c,d]) _) (.i 150) (.i 152) c146_5 c146_8
def c146_13 :=yH 45 0x95868d633cc56f8773542f0162c211beec84443e582b44d5c5b527898f720193f4c8060142fe853e36eaea139d30cde567dbd70c4064ff74b5cc5943ffebc52759e4e1aa73087811b939e4540a48ed0486fc2f9264e827717c315ac13aba3cfd0d51d2126767a9c16857a3834b28e9aa9ab3aff400b08e1f6db91c4d7b841aae4888c7b14109c (.i 37) c146_10
def c146:AFn:=⟨4,132,[.tmp 8],(c146_13)⟩
def c147_2 :=yM 70 0x485d9383ef401051fa7cc55f98bba35122b41d85d49c1f545544dd274a53cdcb44b2fa80905bcaf9e53a29b6b4770c3fd44307e9f69803712881ce26dd3d88b70781805d9d2b1f2d5bee2416951070b7418291c041d31d1f24be57c8b8920f50a8eea2108df414704aa868506134e678e1e4ada09753da59f9213d699769a9cdd9454d5f3441171ae57fa928 (.lookup (.leaf (.int .i64)) (.agg [.i 0,.i 0,.i 0,.int .u64 0,.int .u64 0]) false (.t 46) (.t 48)) (.mput (.leaf (.int .i64)) (.t 66) (.t 68) (.t 69))
def c147_8 :=yA 19 0x34a1c9acb4121259e163a7eb8441e08ab2435e18615501929627c94b5881513b50a02a09e025048725e51bc
def c147_9 :=(uF (fun a b c=>jA 72 0x46c29b8a463bc538c7b774df0c342d6ac594eefaf380f7bd6c3d69b531e43b25592dd2909a19b8de77e3e8d101cbff8f6b447e94f82d6af9a5036cfce649aba09bc05f17678b5c2e3eb9846dd5dcc8cb0b8c6d3fea77eed86c659ef616cff4887fecae14e1f78da0ae90a3c14459e801601ce517b7c734bfbb65fd0e3e86c9a7013cd3ccf65740e5de4c8b1119cf00f36c 0 2 1 [] [a,b] [c]) _) (.minI [(.t 25),(.t 27)]) (.slice 2 (.t 24) none (some (.t 28)) none) c147_2
def c147:AFn:=⟨3,72,[.tmp 6,.tmp 7],yC 8 0x1a576e82a4b37c29fb95512c c147_8 c147_9⟩
def c148_0 :=yA 13 0x440584dd63d28ca39ab797d6080aa7b0c5e8a7e5695351c
def c148:AFn:=⟨2,13,[.tmp 4],yB 5 4789558881718428 c148_0⟩
def c149_3 :=yE 24 0x2c3f78966df49d6d1ebdf8b78722284e91a8703c68b407012be1021a2d598ed8a19234db3d8f7f1bbc432e871039a741e2ec8790f281dc24f8581cfce0c0 (.ixA 3 2 (some 2) (.t 9) (.t 10))
def c149_4 :=(uF (fun a b c d e=>jA 35 0x1b89a11303a749f1289d87d026a9754a3788507f3038fcc9f31d13d62f7be011da6bba7358867b2a3c7cfff2b9908190d180aa940bcd41ab13edb523fd32c682b9ee2af1eec0f6cf8f537a201b0e5a109bf1dbcf1664edd6250 0 4 1 [] [a,b,c,d] [e]) _) (.build [.i 0,.i 0] [(0,1,(.c (.i 2))),(1,1,(.c (.i 1)))]) (.build [.i 0,.i 0] [(0,1,(.c (.i 4))),(1,1,(.c (.i 4)))]) (.build [.i 0,.i 0] [(0,1,(.c (.i 32))),(1,1,(.c (.i 32)))]) (.build [.i 0,.i 0,.i 0,.i 0,.i 0,.i 0] [(0,2,(.t 6)),(2,2,(.t 7)),(4,2,(.t 8))]) c149_3
def c149:AFn:=⟨1,35,[.tmp 2,.tmp 3],yB 4 0x3f3536f49966c38f761bc c149_4⟩
def c150_3 :=(uF (fun a b c=>jA 35 0x15d9eb94e9fad3b4d82a0360e8661006f0c0b8b756952a946c0308aed7b29e5dcf3cccb61ef8be24da8dda39b9aa616a7fd0f7682d7c9daf72fb9242b26fe971b71b5d51d0b0378999b513b9c6465e9949103eac43231bafb0180adb88646c77cb27d1919d84d4e86a9c810874421fb468b3b0bd7814334598124c 0 3 0 [] [a,b,c] []) _) (.lookup (.leaf (.int .i64)) (.agg [.i 0,.i 0,.i 0,.int .u64 0,.int .u64 0]) false (.t 16) (.t 17)) (.build [.i 0,.i 0] [(0,1,(.t 29)),(1,1,(.t 30))]) (.callv (.t 28) [(.t 31)])
def c150:AFn:=⟨2,35,[],yC 2 81082 (.label 0) c150_3⟩
def c152_4 :=yA 56 0x48402960c9bf68a6438771dec0f53863562054891c11027f16ad13ad7aff6a7d946e3118ae1689f1b17e343d370a7393f75f5eb92da44159b16aee66d4db32b8c115c5a9444b4e9844c437ce8e4dd9226bd57cd3434831c2eecb676fd9c40ff22693ee82d770e909e9b58918a3dfee04795ea5fba3a7c85bcb925c92a8e92caf56a987474b6876657c2c62cf04e250
def c152_7 :=yB 28 0x2345020c48aa0533c187ff4207d30d7c09a7cc5db824143b2413a6ccb4115355e914c15356f138376372c0852a2753205d7c52e0505de915c8f411f364226fedd06bde671a1121c33f93136c c152_4
def c152:AFn:=⟨2,56,[.tmp 4],yB 5 0x5ec5c974dd8b559712b1bc c152_7⟩
def c153_2 :=yM 42 0x80996135d517d994bb61bba0bedf8ab1291a11b16f3488968e667cf5381e91d8e4d432d8af67893cea53ea5ea961ce45f19d37c22f57eac124f772fdd386d1778da490d4c8b2b5b60f6b4662b5ea66dc37d72fbcdb85963917cfc16bfaffc4cdbcc4cd6d1a3ad82a920186ce65a744fd0a6a7943feeba533cf32203d3f6cc (.lookup (.leaf (.int .i64)) (.agg [.i 0,.i 0,.i 0,.int .u64 0,.int .u64 0]) true (.t 14) (.t 15)) (.build [.i 0,.i 0,.i 0,.int .u64 0,.int .u64 0] [])
def c153:AFn:=⟨2,42,[.cellN 4 5,.tmp 5],yB 6 0x22441b5496a42bdfed9310112c c153_2⟩
def c154_2 :=yA 23 0xadceae5ca16b6f4258e06b5ede0dff8db9938590c50ba51e895c027b1ee13536ec2c2b87cea979a118942ae54a720c4e5ba34a6e245dc3eef100227082f719a7b5485265674dc5b9c4a62f926a86d2837171bc
def c154:AFn:=⟨2,23,[.tmp 4],(c154_2)⟩
def c155_3 :=yE 48 0x2ece0c1d2b848ada344d4af58976638006394d00a1ccf5fff6a16c7626d79a473657ea38257d4b9b6d6b6b3b60eb81e6831f7cad97b976bc0b8454810cd867f1d649b2e77b2f73e8b3438764acf0dcda5515f017c1a503174f148517bf757460591e1983fcc55d13dfba8f43bdfcbc98f26a067c510316bba21a20c3b9760247521618d1 (.maxI [(.c (.i 0)),(.t 25)])
def c155_4 :=yB 49 0x16ed45b41b32abadbb6d727cdfe4e04c88ba167e52d7f638109eff87fe8d991bc c155_3
def c155:AFn:=⟨2,49,[.tmp 4],yB 5 4789559279849628 c155_4⟩
def c156:AFn:=⟨1,5,[.tmp 2],yA 5 0x161cd6554fc4bfdd66d04f65ca64509c⟩
def c157_4 :=(uF (fun a b c d e=>jA 42 0x11ef470717953ca343c313ecded71bd7c40316a54f85631c418edaea15c19f59ef02c577f912d19487c642492278430fe4f5954d18cc349298ecfaa9f5e396f270c7814189110ce2491c78031346382442edb6f7a70a6dd6f331a028582525a0417438638aa91e71910aac071f61cfce0facf84ef6a49df2fda3cf32a3d334c7952ead08f5d447b3f4e10 1 4 0 [a] [b,c,d,e] []) _) (.i (-1)) (.callv (.t 26) [(.t 27)]) (.slice 1 (.t 36) (some (.t 37)) none none) (.clear [.i 0] (.t 38)) (.slice 1 (.t 39) none (some (.t 40)) none)
def c157:AFn:=⟨2,42,[.tmp 4],yB 11 0x44642376eb3061a3e1c087df96246a12b8909c c157_4⟩
def c160_0 :=yA 14 0x573fbcb6111317440ec1761a49822362a8532113f7cab82e20a6c9e2c03fe252ab4f60ef51c
def c160:AFn:=⟨2,14,[.tmp 3],yB 4 0xd9cdcdc9cf09c c160_0⟩
def c161_0 :=yE 8 0x97181ddba60b4efbf0d920060b3ddb1b56880c68f073dd106732334e10 (.eq .slice false (.t 3) (.c (.nils)))
def c161:AFn:=⟨1,8,[.tmp 2],yB 3 532661096604 c161_0⟩
def c162_1 :=yA 13 0x404468becfc215bc029fe1fae36844be8d77081adaf3cbe7490a321ef674e6164d9239a70d1704cef32c520253644550177a728c204e9f673b12c
def c162:AFn:=⟨2,13,[.tmp 4],(c162_1)⟩
def c187_1:AC :=
 sQ (rG [qQ 0 2 (.alloc 1 [.bool false])] [0,2]) (sQ (sQ (rG [mV 0 3 0,aA 1 4 192 3] [0,2,4]) (cD 4 (rT [.mk4 0 none (.store 1 (.t 2) (.c (.bool false))) none] [2]))) (sQ (sQ (rG [mV 0 5 0,aA 1 6 193 5] [2,6]) (.block 0 (.rangeFunc (.t 6) [7] [2] (.skip) (.block 1 (rT [.mk4 0 none (.store 1 (.t 2) (.c (.bool true))) none] []))))) (rT [.mk4 0 none (.store 1 (.t 2) (.c (.bool false))) none] [2])))
def c187:AFn:=⟨1,8,[.cell1 2],(c187_1)⟩
def c188_0 :=yA 8 0xdbd1dd0e5494fd5ff7ff7c33bc21a46bf9428d09c
def c188:AFn:=⟨1,8,[.tmp 2],(c188_0)⟩
def c189_2 :=yE 22 0x286070573beba0fd5b4c0d846abdd394e6cf800e04fa8e6d79a6fb5a3c37da267acb69fe23d95b23e1dd170b867f26079a793624147ae853d88edc44a78c10fb86905518f76deb5e4e5509c (.build [.i 0,.i 0,.i 0,.i 0] [(0,1,(.t 17)),(1,1,(.c (.i 3))),(2,1,(.t 18))])
def c189:AFn:=⟨3,22,[],(c189_2)⟩
def c190_6 :=(uF (fun a b c=>jA 52 0x61e8ed2d7d70bcccf05f24f56d2f36cfe1ed6ab34d2c603d79101fbe1f1a85a43263a0c4eb63c52e0500ce591bf85305245f0530699ee4455402f8bf14d14283ace0315a107d1890c99e5546dcdd00441022fb7c8f30da8aafef6f35e0ed085df006289e6625a152cdaa1b7941a5b8a0804efa104f2d51b4b332633c03065c993784b829106e2d99a05fe61a11e363f7c5135c4d00baa04ac5e4e57bcc4b882effc9214f9573af02cfd8db09c 0 3 0 [] [a,b,c] []) _) (.build [.i 0,.i 0] [(0,1,(.t 38)),(1,1,(.c (.i 2)))]) (.build [.i 0,.i 0] [(0,1,(.t 46)),(1,1,(.c (.i 4)))]) (.build [.i 0,.i 0] [(0,1,(.c (.i (-1))))])
def c190_7 :=yB 22 0x26e272a041df9baeac0aafc61175150e1b4f6c924e48ef4a677a7e9a036cc c190_6
def c190:AFn:=⟨3,52,[.tmp 6],yB 7 0x17d6b92b404d09c c190_7⟩
def c191_0 :=yA 11 0x1430fe702adb881c5fa74c04d619c843031a9b9ec55
def c191:AFn:=⟨2,11,[],yB 4 0x35fccc57fc709c c191_0⟩
def c192_0 :=yM 12 0x28acf3629c132e18fa91427e983a6c4f35b1616f5ac (.eq .ptr false (.t 3) (.c (.ptr none))) (.eq .ptr false (.t 9) (.c (.ptr none)))
def c192:AFn:=⟨1,12,[.tmp 2],yB 3 532422217884 c192_0⟩
def c193:AFn:=⟨1,4,[.tmp 2],yI 4 0x3e74bc8c76a4aa590df662612c (.nilfn) (.mkClo 197 [(.t 1)])⟩
def c194_4 :=yE 40 0x43a7781ea0473b0d88b36ece5902d3d7b9282ee0a2ee896d2e4e6352a855befb720c910ef95e8a1d5934aae629f2f749ccffea93cc3d8e8b6c6a5959a2aa6da309e66e0006405a1f0d1bd8fa9a5a5f96c4b96addd61be5f0904208c427451a5db3757530cbc780a476b742e9e0a2231fd65d8d24b7d1a55b0c1370fcd9fe7917ffbf939bff1cd658cdb482c78d4d0 (.build [.i 0,.i 0,.i 0,.i 0] [(0,1,(.t 31)),(1,1,(.t 33)),(2,1,(.c (.i 256))),(3,1,(.t 34))])
def c194_5 :=yC 12 0x813aa2f5737bc353117b7fe9dfbfd00ed2976154fbc4e34eed45a8ca (.label 0) c194_4
def c194:AFn:=⟨2,40,[.tmp 4,.tmp 5],yB 6 0x163572952141eb112c c194_5⟩
def c195_3 :=(uF (fun a b c=>jA 74 0x9588124033ea7d03b28de881b0dc7fcb1d6c7b7d158ac9e33f5bf261dc1c8d51fa955b4a544ebd085996c71be3e5102196972332e0c92be8579287a3b15b33ff98c503fd7cad8d34d28dea5c21881b4ce885bcf5b487a4238bff9f27500104ab252ca0294d280040a721296063fc782fff28ec04aea87e684cc99538d39cbca1da4a8 0 3 0 [] [a,b,c] []) _) (.lookup (.agg [.int .i64,.int .i64]) (.agg [.i 0,.i 0,.bool false,.int .u64 0]) false (.t 44) (.t 45)) (.mput (.agg [.int .i64,.int .i64]) (.t 62) (.t 63) (.t 64)) (.mdel (.agg [.int .i64,.int .i64]) (.t 72) (.t 73))
def c195_9 :=yA 19 0x34a1c9acb4121259e163a7eb8441e08ab2435e18615501929627c94b5881513b50a02a09e02680f4fde51bc
def c195_10 :=(uF (fun a b c d=>jA 76 0x36037a06128bf6f73308f3c19d3a1b611673202273691d0b3bd03ff21abcce2a525ea6306cfebffe3a76cd4fd396bf57378aec58eb6c7bc8d19ee07ebb6c0236f38c162ff8c3f4f66984b3a74e110fac5cae2d821763b3893dedac6e718d0c5142e8b34c193400a720a48bd57b01986fe4306d7127725ccf02b534b21e1d691a107fa287b20f36c 0 3 1 [] [a,b,c] [d]) _) (.minI [(.t 25),(.t 27)]) (.slice 4 (.t 24) none (some (.t 28)) none) (.build [.i 0,.i 0] [(0,1,(.t 37)),(1,1,(.t 39))]) c195_3
def c195:AFn:=⟨3,76,[.tmp 6,.tmp 7],yC 8 0x1a576e82a4b37c29fb95512c c195_9 c195_10⟩
def c196_3 :=yA 67 0xc1be63d37ed637cac7881ad03247bc42276dc6d181b8498ebf3af13529a5c711173607fbde5f0fb36e5ccdb2696434ab64d72ecf1006405cb8b3c704dbcfa00ea1e3a20c593c36fdf47464803cd5f41b27736d91202e96cf65a68715874ce1cadd39d5915c7391ad916d295d4a784cae147ba55d86675bc14056d5930df88e7e47a2136d59bb42bb5ba5d87ccc678895fc2730be2e150
def c196_7 :=(uF (fun a b c d e f=>jA 69 0x3d1cecc4d52147bff73dc24c13991c69e9aacff1c4d540dd813527e4bc0f9b71ba1ae43caf56fa0188ff7c3ffdda479c5d388c7920849ba5942dbd0e5267305723b3bdca644124479d188efcc8c5bc6f1ec15ddb9b15be8300b793b14636b036d22424d8faf50a28b9a1b06eb5a20fd881669bfddfb29cf0393f0af35a2be9049774f8fd3c16cadb90 0 5 1 [] [a,b,c,d,e] [f]) _) (.build [.i 0,.i 0] [(0,1,(.c (.i 2))),(1,1,(.c (.i 1)))]) (.build [.i 0,.i 0] [(0,1,(.c (.i 4))),(1,1,(.c (.i 2)))]) (.build [.i 0,.i 0,.i 0,.i 0] [(0,2,(.t 9)),(2,2,(.t 10))]) (.ixA 2 2 (some 2) (.t 11) (.t 12)) (.build [.i 0,.i 0,.i 0,.i 0] [(0,1,(.t 28)),(1,1,(.t 30))]) c196_3
def c196:AFn:=⟨1,69,[.tmp 2],yB 4 0x12dd3e71ef50e58bbf7612c c196_7⟩
def c197_3 :=yE 28 0x2ef40a075e4909fb20d8a9add23c96f958b2d6bed5634dc9098916be1a243dd2732b92044b69ee008df77e86124a92e48e17309f7b9f8e6007366498035bb83e3acf27b517b9229cab025ea03367008f4c8ef99ab049fab4a2b2d3dd9972c82c715d7fc0d569d510caae23c1f83eb16724c (.callv (.t 22) [(.t 23)])
def c197:AFn:=⟨2,28,[],(c197_3)⟩
def c199_1 :=yG 100 0x1e6e87c7a6cd4773cf6ceb0c1117dbf63875412cb4909e5626c0f5e1da010b0281f08c064befe0a19c3339793c0d2487f68677289be7c8118d0da582c47051a1ee517dc22bd54e5f0be6c99d0fec7268e435889058f7aeb5f86df8b7414873acb26293f9e931d7ecb791ccd6419fe8b4575b3c6fc3ed7c6e7bbe295150e910 (.i 128)
def c199_5 :=yB 72 0x3bd4b93b37c21ea84432951470c49fbb44d4d5c21900d8f4b188a91e8e28b4396cf284f8387026ccba4953e205fd390fa70975dfb455b003cebaf15296804f7682fba46252ed97966699f845803ffc563d683301a2ff18b24d131e001db54729be67414fb7da928 c199_1
def c199_7 :=(uF (fun a b c=>jA 41 0x3903b3ca64d5143fdaf73fca0364b97a0b5ba73f3f1430ea9ac2a954c835e3ff6af7ba4bc83650ceffabc408e603c268e6d133d4fa123420fb7ff6dea0a6aea24326eb6a49104de592f9a869f9084ee4a9fc614de3b82850a0d89de6ae42e14e2e5a6581f45a6913db968c1e0650803d8697647a318bfad5c864df6e8e2edf2e2830b53853360047685d6762d8dc8c8cce3f283efec4b8 0 2 1 [] [a,b] [c]) _) (.lookup (.agg [.int .i64,.int .i64]) (.agg [.i 0,.i 0,.bool false,.int .u64 0]) false (.t 13) (.t 14)) (.build [.i 0,.i 0,.i 0,.i 0] [(0,1,(.t 17)),(1,1,(.t 19))]) c199_5
def c199:AFn:=⟨2,100,[.cellN 4 4,.tmp 5],yB 6 0x66f83e8e8fbca173a75820cac31bc c199_7⟩
def c200_2 :=yE 109 0x7be517d57a14af9390e7081dad8c620cd4ff4a239cf70beddbd4b8d4b38202c00e40100e02785d624d8fd750491c10d2ec0a5fcae7d3d23141e97501449d483b938f7c68e0719ad521c2444ab44d9931746be427bc0bc254ccc7f1850 (.mput (.agg [.int .i64,.int .i64]) (.t 106) (.t 107) (.t 108))
def c200_7 :=yJ 84 0x88ef3fcb12e7fd8c4998a1a5572b2858824a0a2ccfb3efc9842112ed05ebcb4834351ce608ec9fae42d6822f82c8a04203f0685c36fa3f5b3a667eea089cd28 (.i 56) (.build [.i 0,.i 0,.bool false,.int .u64 0] [(0,1,(.t 69)),(1,1,(.t 72)),(2,1,(.c (.bool true))),(3,1,(.t 82))]) c200_2
def c200_8 :=(uF (fun a b c d=>jA 122 0x173926ce93fc93ea8f2980f237f8033080b5873f0d65d68396320226163a394a7a89ce2ebd34ffeecbb8fd58f1728f096611623f157afce3f4c397357b8f50798952d58182b27757438bd4a23e1e4d68031d7c1155c508edaf658c2473a82edaa7670456a686429c845b1ec60027c255d4cda0894e22902ddd04b067f2dc 1 2 1 [a] [b,c] [d]) _) (.i 151) (.mdel (.agg [.int .i64,.int .i64]) (.t 120) (.t 121)) (.mput (.agg [.int .i64,.int .i64]) (.t 61) (.t 62) (.t 63)) c200_7
def c200_13 :=yB 50 0x7b7777aef7068f7102089bbf058465a662eba3546af20e9b8046809ad16d66e15e29175d0a63f266a5651aab2b121b9f8094a83d5a173b405c75ed70fa4c04c00c2a7f0870678e474f86e1b20a01e048c6d80be4e109cda54764bd0d056d505fd186edbec77b05a32103a442f2de22dee5a64c0f02c31964c53a5b432845be995e4241dcd0bb5e4cdf324b6d8d64439d92c757ff4445078560c52f34e509c c200_8
def c200_14 :=yF 20 0x1318a0df07799393c14b068e874cbfbd47478fae6f4dddbf988af779c8001bd8a296fe0b3e2bfd14493fc (.build [.i 0,.i 0] [(0,1,(.t 13)),(1,1,(.t 15))]) c200_13
def c200:AFn:=⟨2,122,[.tmp 4],yB 5 0x5bbfb66e8e7c28512c c200_14⟩
def c201_3 :=yE 48 0x2ece0c1d2b848ada344d4af705bda30444396e9eee202f0ec146a2240dd5c483f09b0c43bb5818b4b48db409308acd79063dff29adeee1d66209a12295fd8a85fefcc16215a81d2aac747131e3f0dcda5515f017c1a503174f148517bf757460591e1983fcc55d13dfba8f43bdfcbc98f26a067c510316bba21a20c3b9760247521618d1 (.maxI [(.c (.i 0)),(.t 25)])
def c201_4 :=yB 49 0x16ed45b41b32abadbb6d727cdfe4e04c88ba167e52d7f638109f0385faf8991bc c201_3
def c201:AFn:=⟨2,49,[.tmp 4],yB 5 4789559279849628 c201_4⟩
def c202:AFn:=⟨1,5,[.tmp 2],yA 5 0x161cd6554fc5873e66060d85ca64509c⟩
def c203_0 :=yA 11 0x12ee82472db1c9f17b575da67a5f078df4ac35a0644da196f493cd64e10
def c203:AFn:=⟨2,11,[.tmp 4],yB 5 0x5bbfbc4c402005d12c c203_0⟩
def c204_3 :=yE 45 0x2ce44b11c695a008ab5acfba79c1623436bd63c0c0150e417764d0900606fd34ff25066f9fa6c6e7103bcf2de8c0d9c3cccee7070af38b1708b8dbb7186a10351dbe19eaeb2577e7a657bea87c5ac3d1058a1c449bd4b88aa6392eb3ea67b7256947bbb8ad97d6e1588a479052d1959d6e46b638230d25098cdcf04ff8ad5e16a9c8fb6a8 (.lookup (.agg [.int .i64,.int .i64]) (.agg [.i 0,.i 0,.bool false,.int .u64 0]) true (.t 14) (.t 15))
def c204:AFn:=⟨2,45,[.cellN 4 4,.tmp 5],yB 6 0x66f83e8e901fb211303620cac31bc c204_3⟩
def c209_0 :=yA 13 0x198e4551ae4da259aa0a6e102437862973fc
def c209:AFn:=⟨2,13,[.tmp 4],yB 7 0xc0b0b69a2cf3d1d3953ea8dc2d273d3f660e0cc909c c209_0⟩
def c210_4 :=(uF (fun a b c d e=>jA 31 0x39df0bc689ef17872395b1da01db13f938e4e2f3f7bef75e2a97ad3a4f94de43800b4cdede9073ec6f7074c70410a4cf2bfac0ed9207f3e69d633cefd07ba537d0849bbffb56dd29d56fd62ef3bbcff705209746f37293f467bea2c1159f16798281fddd8dfea4b37b7e4e45c5b90 1 4 0 [a] [b,c,d,e] []) _) (.i 127) (.callv (.t 20) [(.c (.i 1))]) (.callv (.t 22) [(.c (.i 6))]) (.callv (.t 26) [(.c (.i 2))]) (.callv (.t 28) [(.c (.i 60))])
def c210_5 :=(uF (fun a b c d=>jA 41 0x17c4626eb8bd3a435c346e25b448e3f2b8c9ae5cb74455763c 0 4 0 [] [a,b,c,d] []) _) (.callv (.t 31) [(.c (.i 4))]) (.callv (.t 33) [(.c (.i 8))]) (.eq .bool true (.t 32) (.t 34)) (.callv (.t 37) [(.c (.i 48))])
def c210:AFn:=⟨1,41,[.tmp 2],yN 5 0x3406d368e5e5807ec2a8817ac1e12c (.mkClo 214 [(.t 1)]) c210_4 c210_5⟩
def c211_0 :=yE 8 0x97181ddcc91a3491b72c9e3d4fbd7c7f08080c68f073dd106732334e10 (.eq .slice false (.t 3) (.c (.nils)))
def c211:AFn:=⟨1,8,[.tmp 2],yB 3 532661096604 c211_0⟩
def c212_1 :=yA 13 0x48af629b547466a0ec33a3364c630d6968d98150436bce8bf90807eb1fbcf675368885194c3f4fd125b704e30a7e1e3644550177a728c204e9f673b12c
def c212:AFn:=⟨2,13,[.tmp 4],(c212_1)⟩
def c214_0 :=yA 9 0x3a6f8dc524efac4a65d57edbef23c3d3f6a008c703a709c
def c214:AFn:=⟨2,9,[.tmp 3],(c214_0)⟩
def jbb:Prog := { fns:=[(3,c3),(4,c4),(5,c5),(6,c6),(7,c7),(8,c8),(10,c10),(11,c11),(13,c13),(14,c14),(16,c16),(17,c17),(18,c18),(19,c19),(20,c20),(21,c21),(22,c22),(23,c23),(24,c24),(25,c25),(26,c26),(27,c27),(28,c28),(29,c29),(30,c30),(31,c31),(32,c32),(33,c33),(34,c34),(35,c35),(37,c37),(38,c38),(40,c40),(41,c41),(42,c42),(44,c44),(45,c45),(46,c46),(47,c47),(48,c48),(49,c49),(50,c50),(51,c51),(52,c52),(53,c53),(54,c54),(55,c55),(56,c56),(57,c57),(58,c58),(59,c59),(61,c61),(62,c62),(63,c63),(64,c64),(65,c65),(67,c67),(68,c68),(69,c69),(70,c70),(71,c71),(72,c72),(73,c73),(74,c74),(75,c75),(76,c76),(78,c78),(79,c79),(80,c80),(81,c81),(82,c82),(83,c83),(84,c84),(85,c85),(86,c86),(87,c87),(88,c88),(90,c90),(91,c91),(92,c92),(93,c93),(94,c94),(95,c95),(96,c96),(97,c97),(98,c98),(99,c99),(100,c100),(101,c101),(102,c102),(103,c103),(104,c104),(106,c106),(107,c107),(108,c108),(109,c109),(110,c110),(111,c111),(112,c112),(113,c113),(114,c114),(115,c115),(116,c116),(209,c209),(9,c9),(12,c12),(15,c15),(36,c36),(39,c39),(43,c43),(60,c60),(66,c66),(77,c77),(89,c89),(105,c105),(139,c139),(140,c140),(141,c141),(142,c142),(143,c143),(144,c144),(145,c145),(146,c146),(147,c147),(148,c148),(149,c149),(150,c150),(152,c152),(153,c153),(154,c154),(155,c155),(156,c156),(157,c157),(160,c160),(161,c161),(162,c162),(187,c187),(188,c188),(189,c189),(190,c190),(191,c191),(192,c192),(193,c193),(194,c194),(195,c195),(196,c196),(197,c197),(199,c199),(200,c200),(201,c201),(202,c202),(203,c203),(204,c204),(210,c210),(211,c211),(212,c212),(214,c214)],prims:=[(120,jaT)] }
theorem jgo:jaO jbb:=jaO.of (List.forall_mem_cons.2 ⟨Am.jeR,fun _ h=>nomatch h⟩)
def jiB:Prog := { fns:=jbb.fns,prims:=(198,jfA jbb 100000 28 204 1) :: jbb.prims }
theorem primsA:jaO jiB:=jaO.cons (pKeys_F jgo) jgo rfl
def prog:Prog := { fns:=jbb.fns,prims:=(151,pAll jbb 100000 28 157 160 2) :: jiB.prims }
theorem primsF:jaO prog:=jaO.cons (pAll_F jgo) primsA rfl
def cx:Cx:=⟨[(3,⟨.int .i64,1,8,(some (.i 0)),false⟩),(4,⟨.bool,1,1,(some (.bool false)),false⟩),(5,⟨.int .u8,1,1,(some (.int .u8 0)),false⟩),(9,⟨.str,1,16,(some (.str [])),false⟩),(22,⟨.slice 3,1,24,(some (.nils)),false⟩),(23,⟨.ptr 60,1,8,(some (.ptr none)),false⟩),(25,⟨.int .i64,1,8,(some (.i 0)),false⟩),(30,⟨.ptr 50,1,8,(some (.ptr none)),false⟩),(34,⟨.slice 44,1,24,(some (.nils)),false⟩),(35,⟨.slice 40,1,24,(some (.nils)),false⟩),(38,⟨.int .u64,1,8,(some (.int .u64 0)),false⟩),(40,⟨.struct [(0,3),(1,3)],2,16,(some (.agg [.i 0,.i 0])),true⟩),(44,⟨.struct [(0,3),(1,3)],2,16,(some (.agg [.i 0,.i 0])),true⟩),(47,⟨.iface,1,16,(some (.nili)),false⟩),(48,⟨.ptr 121,1,8,(some (.ptr none)),false⟩),(50,⟨.struct [(0,23),(1,47),(2,48),(3,3),(4,3),(5,3)],6,56,(some (.agg [.ptr none,.nili,.ptr none,.i 0,.i 0,.i 0])),false⟩),(51,⟨.func,1,8,(some (.nilfn)),false⟩),(53,⟨.ptr 112,1,8,(some (.ptr none)),false⟩),(56,⟨.struct [(0,4),(1,3),(2,3)],3,24,(some (.agg [.bool false,.i 0,.i 0])),false⟩),(57,⟨.array 96 56,288,2304,(some (.agg ((List.replicate 96 ([.bool false,.i 0,.i 0]:List V)).flatten))),false⟩),(58,⟨.slice 63,1,24,(some (.nils)),false⟩),(60,⟨.struct [(0,57),(288,58),(289,53),(290,38),(291,56)],294,2368,(some (.agg ((List.replicate 96 ([.bool false,.i 0,.i 0]:List V)).flatten++[.nils,.ptr none,.int .u64 0,.bool false,.i 0,.i 0]))),false⟩),(63,⟨.ptr 72,1,8,(some (.ptr none)),false⟩),(67,⟨.ptr 150,1,8,(some (.ptr none)),false⟩),(69,⟨.struct [(0,3),(1,3),(2,67),(3,4),(4,4),(5,38),(6,38)],7,48,(some (.agg [.i 0,.i 0,.ptr none,.bool false,.bool false,.int .u64 0,.int .u64 0])),false⟩),(70,⟨.array 2 69,14,96,(some (.agg [.i 0,.i 0,.ptr none,.bool false,.bool false,.int .u64 0,.int .u64 0,.i 0,.i 0,.ptr none,.bool false,.bool false,.int .u64 0,.int .u64 0])),false⟩),(72,⟨.struct [(0,70),(14,4),(15,3),(16,22)],17,136,(some (.agg [.i 0,.i 0,.ptr none,.bool false,.bool false,.int .u64 0,.int .u64 0,.i 0,.i 0,.ptr none,.bool false,.bool false,.int .u64 0,.int .u64 0,.bool false,.i 0,.nils])),false⟩),(74,⟨.ptr 124,1,8,(some (.ptr none)),false⟩),(77,⟨.ptr 79,1,8,(some (.ptr none)),false⟩),(79,⟨.struct [(0,74),(1,3),(2,48)],3,24,(some (.agg [.ptr none,.i 0,.ptr none])),false⟩),(80,⟨.ptr 127,1,8,(some (.ptr none)),false⟩),(83,⟨.ptr 85,1,8,(some (.ptr none)),false⟩),(85,⟨.struct [(0,80)],1,8,(some (.agg [.ptr none])),false⟩),(87,⟨.ptr 137,1,8,(some (.ptr none)),false⟩),(91,⟨.array 96 3,96,768,(some (.agg (List.replicate 96 (.i 0:V)))),false⟩),(100,⟨.struct [(0,3),(1,3),(2,3)],3,24,(some (.agg [.i 0,.i 0,.i 0])),false⟩),(101,⟨.slice 5,1,24,(some (.nils)),false⟩),(103,⟨.struct [(0,3),(1,3),(2,3),(3,101)],4,48,(some (.agg [.i 0,.i 0,.i 0,.nils])),false⟩),(104,⟨.slice 103,1,24,(some (.nils)),false⟩),(106,⟨.struct [(0,38),(1,4),(2,22),(3,104)],4,64,(some (.agg [.int .u64 0,.bool false,.nils,.nils])),false⟩),(107,⟨.slice 106,1,24,(some (.nils)),false⟩),(109,⟨.array 32 4,32,32,(some (.agg (List.replicate 32 (.bool false:V)))),false⟩),(110,⟨.array 32 3,32,256,(some (.agg (List.replicate 32 (.i 0:V)))),false⟩),(112,⟨.struct [(0,109),(32,110)],64,288,(some (.agg (List.replicate 32 (.bool false:V)++List.replicate 32 (.i 0:V)))),false⟩),(121,⟨.struct [(0,91),(96,91),(192,4)],193,1544,(some (.agg (List.replicate 192 (.i 0:V)++[.bool false]))),false⟩),(122,⟨.map 3 221,1,8,(some (.map none)),false⟩),(124,⟨.struct [(0,23),(1,3),(2,122)],3,24,(some (.agg [.ptr none,.i 0,.map none])),false⟩),(125,⟨.map 270 277,1,8,(some (.map none)),false⟩),(127,⟨.struct [(0,23),(1,125)],2,16,(some (.agg [.ptr none,.map none])),false⟩),(129,⟨.struct [(0,4),(1,4),(2,4),(3,4),(4,4),(5,38),(6,38)],7,24,(some (.agg [.bool false,.bool false,.bool false,.bool false,.bool false,.int .u64 0,.int .u64 0])),false⟩),(132,⟨.slice 100,1,24,(some (.nils)),false⟩),(137,⟨.struct [(0,107),(1,22)],2,48,(some (.agg [.nils,.nils])),false⟩),(150,⟨.struct [(0,101),(1,3),(2,3),(3,38),(4,38),(5,4)],6,64,(some (.agg [.nils,.i 0,.i 0,.int .u64 0,.int .u64 0,.bool false])),false⟩),(212,⟨.slice 216,1,24,(some (.nils)),false⟩),(216,⟨.struct [(0,3),(1,3)],2,16,(some (.agg [.i 0,.i 0])),false⟩),(221,⟨.struct [(0,3),(1,3),(2,3),(3,38),(4,38)],5,40,(some (.agg [.i 0,.i 0,.i 0,.int .u64 0,.int .u64 0])),false⟩),(227,⟨.array 2 3,2,16,(some (.agg [.i 0,.i 0])),false⟩),(228,⟨.array 3 227,6,48,(some (.agg [.i 0,.i 0,.i 0,.i 0,.i 0,.i 0])),false⟩),(259,⟨.slice 263,1,24,(some (.nils)),false⟩),(263,⟨.struct [(0,3),(1,3),(2,3),(3,3)],4,32,(some (.agg [.i 0,.i 0,.i 0,.i 0])),false⟩),(267,⟨.slice 270,1,24,(some (.nils)),false⟩),(270,⟨.struct [(0,3),(1,3)],2,16,(some (.agg [.i 0,.i 0])),true⟩),(277,⟨.struct [(0,3),(1,3),(2,4),(3,38)],4,32,(some (.agg [.i 0,.i 0,.bool false,.int .u64 0])),false⟩),(279,⟨.array 2 227,4,32,(some (.agg [.i 0,.i 0,.i 0,.i 0])),false⟩)],[]⟩
end Am.Sigs
