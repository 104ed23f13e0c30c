/- Our own library, part 26. -/
import Derived.Shelf.SlSortCmp.NoneTotal
import Derived.Test.YtccoogikjelcbaaGreatDoorM13
import Derived.Test.YtccoogikjelcbaaGreatDoorM25
set_option maxHeartbeats 8000000
set_option maxRecDepth 800
set_option linter.all false
namespace Am
open Go Go.Proofs
def kCmp (x y:Int × Int):Int:=if Lib.compareInt x.1 y.1=0 then Lib.compareInt x.2 y.2 else Lib.compareInt x.1 y.1
theorem jc5 (x y:Int × Int):ltOf kCmp x y=kLt x y:=by
 unfold ltOf kCmp kLt Lib.compareInt
 rw [Bool.eq_iff_iff]
 simp only [zq,Bool.or_eq_true,zm]
 split<;>split at * <;> (try split at *)<;>(try split)<;>omega
theorem jkU (x:Int × Int):kLt x x=false:=by simp [kLt]
theorem jiP {x y:Int × Int} : kLt x y=true↔x.1<y.1\/(x.1=y.1/\x.2<y.2):=by simp [kLt]
theorem jbU {x y:Int × Int} : kLt x y=false ↔ ¬ (x.1<y.1\/(x.1=y.1/\x.2<y.2)):=by rw [<- jiP];simp
theorem kCmp_swo:Sort.SWO (ltOf kCmp) where
 irrefl x:=by rw [jc5];exact jkU x
 trans x y z h1 h2:=by rw [jc5,jiP] at *;omega
 ntrans x y z h1 h2:=by rw [jc5,jbU] at *;omega
theorem jfl (x y:Int × Int) (h1:ltOf kCmp x y=false) (h2:ltOf kCmp y x=false):x=y:=by
 rw [jc5,jbU] at h1 h2
 exact Prod.ext om om
theorem jek (x:Int × Int) : ∀ l,(kIns x l).Perm (x :: l)
 | []=>List.Perm.refl _
 | y :: r=>by
  unfold kIns
  cases kLt y x with
  | true=>exact ((jek x r).cons y).trans (List.Perm.swap x y r)
  | false=>exact List.Perm.refl _
theorem jdh : ∀ l,(jeJ l).Perm l
 | []=>List.Perm.refl _
 | x :: r=>(jek x _).trans ((jdh r).cons x)
theorem jej (x:Int × Int) : ∀ {l},l.Pairwise (fun a b=>(!kLt b a)=true)->(kIns x l).Pairwise (fun a b=>(!kLt b a)=true)
 | [],_=>List.pairwise_singleton _ _
 | y :: r,h=>by
  unfold kIns
  rw [List.pairwise_cons] at h
  cases hq:kLt y x with
  | true=>
   simp only [cond_true]
   rw [List.pairwise_cons]
   refine ⟨fun z hz=>?_,jej x h.2⟩
   rcases zE.1 ((jek x r).mem_iff.1 hz) with rfl | hz
   ·rw [jiP] at hq
    rw [Bool.not_eq_true',jbU]
    omega
   ·exact h.1 z hz
  | false=>
   simp only [cond_false]
   rw [List.pairwise_cons,List.pairwise_cons]
   refine ⟨fun z hz=>?_,h.1,h.2⟩
   rw [jbU] at hq
   rcases zE.1 hz with rfl | hz
   ·rw [Bool.not_eq_true',jbU]
    omega
   ·have:=h.1 z hz
    rw [Bool.not_eq_true',jbU] at this ⊢
    omega
theorem jdy : ∀ l,(jeJ l).Pairwise (fun a b=>(!kLt b a)=true)
 | []=>List.Pairwise.nil
 | x :: r=>jej x (jdy r)
theorem jiH {l L:List (Int × Int)} (hp:l.Perm L):(l.mergeSort fun x y=>!(ltOf kCmp) y x)=jeJ L:=by
 have hk:(fun x y=>!(ltOf kCmp) y x)=fun x y:Int × Int=>!kLt y x:=by funext x y;rw [jc5]
 rw [hk]
 refine List.Perm.eq_of_pairwise (le:=fun x y=>(!kLt y x)=true) ?_ ?_ (jdy L) (((List.mergeSort_perm _ _).trans hp).trans (jdh L).symm)
 ·intro a b _ _ h1 h2
  rw [Bool.not_eq_true'] at h1 h2
  exact jfl a b (by rw [jc5];exact h2) (by rw [jc5];exact h1)
 ·refine List.pairwise_mergeSort ?_ ?_ l
  ·intro a b c h1 h2
   rw [Bool.not_eq_true',jbU] at *
   omega
  ·intro a b
   rw [Bool.or_eq_true,Bool.not_eq_true',Bool.not_eq_true',jbU,jbU]
   omega
def mkK (x:Int × Int):Value := .agg #[.int .i64 x.1,.int .i64 x.2]
theorem mkK_inj {x y:Int × Int} (h:mkK x=mkK y):x=y:=by
 unfold mkK at h
 simp at h
 exact Prod.ext h.1 h.2
def encK (x:Int × Int):List Value:=[.int .i64 x.1,.int .i64 x.2]
theorem jkQ {m:Mp} {k:V} {x:Int × Int} {y:Value} (e:jcg k=some x) (h:VRel m k y):y=mkK x:=by
 unfold jcg at e
 split at e
 ·next a b=>
  cases e
  obtain ⟨⟨xs⟩,rfl,h2⟩:=h
  obtain ⟨_,_,e1,rfl,_,_,rfl,rfl,rfl⟩:=h2
  have:xs=[.int .i64 a,.int .i64 b]:=e1
  subst this
  rfl
 ·cases e
theorem jeg {k:V} {x:Int × Int} (e:jcg k=some x):k = .agg [.int .i64 x.1,.int .i64 x.2]:=by
 unfold jcg at e
 split at e
 ·cases e;rfl
 ·cases e
section
variable {m:Mp}
theorem jhH {clock:Nat} : ∀ {es:List (V × V × Nat)} {ces:List MapEntry},jad m es ces->jiQ clock es=true ->
  (∀ x∈ces,x.born<clock /\ ∃ y,x.key=mkK y)/\(ces.map (·.born)).Nodup /\ ∀ x∈ces,∃ e∈es,e.2.2=x.born /\ ∃ y,jcg e.1=some y/\x.key=mkK y
 | [],_,h,_=>by
  rw [show _=[] from h]
  exact ⟨fun x hx=>(by cases hx),List.nodup_nil,fun x hx=>(by cases hx)⟩
 | (k,v,n) :: es,_,⟨c0,s,e,h1,h2,h3,h4⟩,g=>by
  subst e
  simp only [jiQ,zm] at g
  obtain ⟨g1,g2,g3,g4⟩:=g
  obtain ⟨i1,i2,i3⟩:=jhH h4 g4
  obtain ⟨y,hy⟩:=Option.isSome_iff_exists.1 g1
  have hk:=jkQ hy h1
  refine ⟨fun x hx=>?_,?_,fun x hx=>?_⟩
  ·rcases zE.1 hx with rfl | hx
   ·exact ⟨by rw [h3];rw [Nat.blt_eq] at g2;exact g2,y,hk⟩
   ·exact i1 x hx
  ·rw [List.map_cons,List.nodup_cons]
   refine ⟨fun hm=>?_,i2⟩
   obtain ⟨x,hx,e⟩:=List.mem_map.1 hm
   obtain ⟨e0,he0,e1,_⟩:=i3 x hx
   have:=zC.1 g3 e0 he0
   rw [e1,e,h3] at this
   simp at this
  ·rcases zE.1 hx with rfl | hx
   ·exact ⟨_,zh ..,h3.symm,y,hy,hk⟩
   ·obtain ⟨e,he,e1,e2⟩:=i3 x hx
    exact ⟨e,zj _ he,e1,e2⟩
end
section
variable (R:Prog) (fu d find:Nat)
def jcP (g:H) (mb:Nat) (es0:List (V × V × Nat)) (ck:Nat) (p:V) (seen:Array Nat):List (V × V × Nat)->List (Int × Int)
 | []=>[]
 | (k,_,n) :: r=>(bif seen.contains n then [] else match jcg k,jeh R fu d find g mb es0 ck p k with
  | some x,some true=>[x]
  | _,_=>[])++jcP g mb es0 ck p seen r
variable {R fu d find}
theorem jfk {g:H} {mb ck:Nat} {es0:List (V × V × Nat)} {p:V} : ∀ {es:List (V × V × Nat)} {l:List (Int × Int)},jhC R fu d find g mb es0 ck p es=some l->jcP R fu d find g mb es0 ck p #[] es=l /\ ∀ e∈es,∃ b,jeh R fu d find g mb es0 ck p e.1=some b
 | [],l,hr=>by cases hr;exact ⟨rfl,fun e he=>by cases he⟩
 | (k,v,n) :: r,l,hr=>by
  unfold jhC at hr
  split at hr
  ·next x hx=>
   split at hr
   ·next b hb=>
    split at hr
    ·next l1 hl1=>
     obtain ⟨i1,i2⟩:=jfk hl1
     cases hr
     refine ⟨?_,fun e he=>?_⟩
     ·unfold jcP
      rw [i1,hx,hb]
      cases b<;>simp
     ·rcases zE.1 he with rfl | he
      ·exact ⟨b,hb⟩
      ·exact i2 e he
    ·cases hr
   ·cases hr
  ·cases hr
theorem jdg {g:H} {mb ck:Nat} {es0:List (V × V × Nat)} {p:V} {seen:Array Nat} : ∀ {es:List (V × V × Nat)},(∀ e∈es,seen.contains e.2.2=true)->jcP R fu d find g mb es0 ck p seen es=[]
 | [],_=>rfl
 | (k,v,n) :: r,hr=>by
  unfold jcP
  rw [hr _ (zh ..),jdg fun e he=>hr e (zj _ he)]
  rfl
theorem jcs {g:H} {mb ck:Nat} {es0:List (V × V × Nat)} {p:V} {seen:Array Nat} {s:Nat} : ∀ {es:List (V × V × Nat)},s ∉ es.map (·.2.2)->jcP R fu d find g mb es0 ck p (seen.push s) es=jcP R fu d find g mb es0 ck p seen es
 | [],_=>rfl
 | (k,v,n) :: r,hr=>by
  simp only [List.map_cons,zE,not_or] at hr
  unfold jcP
  rw [jcs hr.2]
  have:(seen.push s).contains n=seen.contains n:=by
   rw [Bool.eq_iff_iff]
   simp only [Array.contains_iff_mem,Array.mem_push]
   exact ⟨fun q=>q.elim id fun q=>zw q.symm hr.1,Or.inl⟩
  rw [this]
theorem jdf {g:H} {mb ck:Nat} {es0:List (V × V × Nat)} {p:V} {seen:Array Nat} {e:V × V × Nat} {b:Bool} {x:Int × Int} (hx:jcg e.1=some x) (ha:jeh R fu d find g mb es0 ck p e.1=some b) (hs:seen.contains e.2.2=false) : ∀ {es:List (V × V × Nat)},e∈es->(es.map (·.2.2)).Nodup ->
  (jcP R fu d find g mb es0 ck p seen es).Perm ((bif b then [x] else [])++jcP R fu d find g mb es0 ck p (seen.push e.2.2) es)
 | (k,v,n) :: r,he,hn=>by
  rw [List.map_cons,List.nodup_cons] at hn
  unfold jcP
  rcases zE.1 he with rfl | he
  ·have h1:(seen.push n).contains n=true:=by simp
   have hs:seen.contains n=false:=hs
   have ha:jeh R fu d find g mb es0 ck p k=some b:=ha
   have hx:jcg k=some x:=hx
   simp only [hs,h1,ha,hx]
   rw [jcs hn.1]
   cases b<;>exact List.Perm.refl _
  ·have h1:(seen.push e.2.2).contains n=seen.contains n:=by
    rw [Bool.eq_iff_iff]
    simp only [Array.contains_iff_mem,Array.mem_push]
    refine ⟨fun q=>q.elim id fun q=>?_,Or.inl⟩
    have:n≠e.2.2:=fun q=>hn.1 (q ▸ List.mem_map.2 ⟨e,he,rfl⟩)
    exact zw q this
   rw [h1]
   refine ((jdf hx ha hs he hn.2).append_left _).trans ?_
   rw [<- List.append_assoc,<- List.append_assoc]
   exact (List.perm_append_comm).append_right _
theorem jjD {g:H} {mb ck:Nat} {es0:List (V × V × Nat)} {p:V} {seen:Array Nat} : ∀ {es:List (V × V × Nat)},(jcP R fu d find g mb es0 ck p seen es).length<=es.length
 | []=>zn _
 | (k,v,n) :: r=>by
  unfold jcP
  have := @jjD g mb ck es0 p seen r
  rw [ze,List.length_cons]
  cases seen.contains n
  ·simp only [cond_false]
   split
   ·simp;omega
   ·simp;omega
  ·simp only [cond_true]
   simp;omega
theorem jkS {g:H} {mb ck:Nat} {es0:List (V × V × Nat)} {p k:V} {b:Bool} (hr:jeh R fu d find g mb es0 ck p k=some b) : ∃ l h1,ja9 R fu d (.fn find) [p,k] g=some (.tup [.agg l,.bool b],h1)/\h1.get mb=some (.map es0 ck)/\l.length=4/\l.all V.one=true:=by
 unfold jeh at hr
 split at hr
 ·next l b1 h1 hc=>
  revert hr
  cases hk:h1.get mb with
  | none=>intro hr;cases hr
  | some o=>
   show (bif o.eqB (.map es0 ck)&&(Nat.beq l.length 4&&l.all V.one) then some b1 else none)=some b->_
   cases he:o.eqB (.map es0 ck)&&(Nat.beq l.length 4&&l.all V.one) with
   | false=>intro hr;cases hr
   | true=>
    intro hr
    cases hr
    simp only [zm,Nat.beq_eq] at he
    exact ⟨l,h1,hc,by rw [hk,Obj.eqB_eq he.1],he.2.1,he.2.2⟩
 ·cases hr
theorem jkT {m:Mp} {l:List V} {b:Bool} {y:Value} (h4:l.length=4) (h1:l.all V.one=true) (h:VRel m (.tup [.agg l,.bool b]) y) : ∃ c0 c1 c2 c3,y = .tuple #[.agg #[c0,c1,c2,c3],.bool b]/\(#[c0,c1,c2,c3]:Array Value).all (·.oneCell')=true:=by
 obtain ⟨⟨xs⟩,rfl,x0,s0,e0,⟨⟨ys⟩,rfl,hy⟩,x1,s1,rfl,rfl,rfl⟩:=h
 have e0:xs=_:=e0
 subst e0
 have hlen:=hy.length
 obtain ⟨u0,u1,u2,u3,rfl⟩ : ∃ u0 u1 u2 u3,l=[u0,u1,u2,u3]:=by
  match l,h4 with
  | [u0,u1,u2,u3],_=>exact ⟨_,_,_,_,rfl⟩
 obtain ⟨c0,_,e,r0,c1,_,rfl,r1,c2,_,rfl,r2,c3,_,rfl,r3,rfl⟩:=hy
 have e:ys=_:=e
 subst e
 refine ⟨c0,c1,c2,c3,rfl,?_⟩
 simp only [List.all_cons,List.all_nil,Bool.and_true,zm] at h1
 simp [<- r0.one,<- r1.one,<- r2.one,<- r3.one,h1.1,h1.2.1,h1.2.2.1,h1.2.2.2]
end
section
variable {P:Program} {C:Cx} {m:Mp} {h:H} {w w':World}
theorem jdw {b o n:Nat} {l:List V} (hR:HRel P C m h w) (hl:h.load b o n=some l) {loc:Loc} (hm:m b=some loc):l.length=n /\ ∀ (k:Nat) (v:V),l[k]?=some v -> ∃ x,w.cell? ⟨loc.β,loc.d+(o+k),none⟩=some x/\VRel m v x:=by
 unfold H.load at hl
 split at hl
 ·next cs ro hg=>
  cases hb:Nat.ble (o+n) cs.length with
  | false=>rw [hb] at hl;cases hl
  | true=>
   rw [hb] at hl
   cases hl
   rw [zA] at hb
   refine ⟨by simp;omega,fun k v hk=>?_⟩
   obtain ⟨l',co,q1,q2,c,elem,lo,hi,q3,q4,q5,q6,q7⟩:=hR.obj _ _ hg
   rw [hm] at q1;cases q1
   subst q3
   rw [zx] at hk
   split at hk
   ·rw [zk] at hk
    obtain ⟨x,hx,hr⟩:=q6 _ _ hk
    exact ⟨x,by rw [World.cell?,q2];simpa [Nat.add_assoc] using hx,hr⟩
   ·cases hk
 ·cases hl
theorem HRel.one {mb ck:Nat} {es:List (V × V × Nat)} (hR:HRel P C m h w) (he:h.get mb=some (.map es ck)):HRel P C m (h.one mb es ck) w where
 obj:=fun b o hg=>by
  rw [H.one,H.get_set] at hg
  split at hg
  ·next e=>cases hg;subst e;exact hR.obj _ _ he
  ·rw [H.get_frz] at hg
   cases hh:h.get b with
   | none=>rw [hh] at hg;cases hg
   | some o2=>
    rw [hh] at hg
    cases o2<;>cases hg
    next l ro=>
    obtain ⟨l2,co,h1,h2,c,el,lo,hi,q1,q2,q3,q4,q5⟩:=hR.obj _ _ hh
    exact ⟨l2,co,h1,h2,c,el,lo,hi,q1,q2,q3,q4,fun e=>by cases e⟩
 inj:=fun b b' o o' l l' h1 h2 hne e1 e2 e3=>by
  have key : ∀ k x,(h.one mb es ck).get k=some x -> ∃ y,h.get k=some y/\(k≠mb->x.ro=true)/\(k=mb->y.ro=false):=fun k x hx=>by
   rw [H.one,H.get_set] at hx
   split at hx
   ·next e=>cases hx;subst e;exact ⟨_,he,fun h=>zw rfl h,fun _=>rfl⟩
   ·next e=>
    rw [H.get_frz] at hx
    cases hh:h.get k with
    | none=>rw [hh] at hx;cases hx
    | some o2=>
     rw [hh] at hx
     cases o2<;>cases hx
     exact ⟨_,rfl,fun _=>rfl,fun h=>zw h e⟩
  obtain ⟨y,hy,y1,y2⟩:=key _ _ h1
  obtain ⟨y',hy',y1',y2'⟩:=key _ _ h2
  obtain ⟨r1,r2⟩:=hR.inj b b' y y' l l' hy hy' hne e1 e2 e3
  refine ⟨y1 fun e=>?_,y1' fun e=>?_⟩
  ·rw [y2 e] at r1;cases r1
  ·rw [y2' e] at r2;cases r2
 dom:=hR.dom
theorem kept_one {R:Prog} (hP:ProgOk P C R) {fu n f mb ck:Nat} {es:List (V × V × Nat)} {a:AFn} (ha:jaL R.fns f=some a) (hp:jaL R.prims f=none) {args:List V} {xs:Array Value} {v:V} {h1:H} (he:h.get mb=some (.map es ck))
  (hr:ja9 R fu (n+1) (.fn f) args (h.one mb es ck)=some (v,h1)) (hk:h1.get mb=some (.map es ck)) (hR:HRel P C m h w) (hG:GOk C m) (hx:jah m args xs.toList):Calls P f xs w fun e w'=>(∃ m' y,e = .returned y/\VRel m' v y)/\Step P C h.nx m h w m h w':=by
 refine (jgF hP ha hp hr (hR.one he) hG hx).calls fun m' w' y s hy=>⟨⟨m',y,rfl,hy⟩,?_⟩
 obtain ⟨lm,co,hm,hco,hor⟩:=hR.obj _ _ he
 have hno : ∀ β,jc8 m (h.one mb es ck) β -> β = lm.β := fun β ⟨b2,o2,l2,g1,g2,g3,g4⟩=>by
  rw [H.one,H.get_set] at g1
  split at g1
  ·next e=>subst e;rw [hm] at g3;cases g3;exact g4.symm
  ·rw [H.get_frz] at g1
   cases hh:h.get b2 with
   | none=>rw [hh] at g1;cases g1
   | some o3=>
    rw [hh] at g1
    cases o3<;>cases g1
    cases g2
 have how : ∀ β,¬ jc8 m h β -> ¬ jc8 m (h.one mb es ck) β := fun β hn e=>by
  have:=hno β e
  subst this
  exact hn ⟨mb,_,lm,he,rfl,hm,rfl⟩
 refine ⟨Mono.refl _,fun _ _ e=>e,⟨fun b o hg=>?_,hR.inj,hR.dom⟩,zn _,fun _ _ e=>e,s.size,fun β hβ hn=>⟨(s.frame β hβ (how β hn)).1,hn⟩,s.loops,s.os,s.tape,s.output⟩
 by_cases hb:b=mb
 ·subst hb
  rw [he] at hg;cases hg
  obtain ⟨l',co',q1,q2,q3⟩:=s.rel.obj _ _ hk
  have:=s.mono _ _ hm
  rw [this] at q1;cases q1
  exact ⟨lm,co',hm,q2,ORel.back s.mono hor q3⟩
 ·obtain ⟨l,co2,q1,q2,q3⟩:=hR.obj _ _ hg
  refine ⟨l,co2,q1,?_,q3⟩
  rw [(s.frame l.β (ja8 q2) fun e=>?_).1]
  ·exact q2
  ·have:=(hR.inj b mb o _ l lm hg he hb q1 hm (hno _ e)).2
   cases this
theorem Step.add {d ext β : Nat} {o:Obj} {co:Go.Obj} (hR:HRel P C m h w) (s:Step P C h.nx m h w m h w') (hβ : w.heap.size <= β) (hw:w'.heap[β]?=some co)
  (ho:ORel P C (m.add h.nx ⟨β,d,ext⟩) ⟨β,d,ext⟩ o co):Step P C h.nx m h w (m.add h.nx ⟨β,d,ext⟩) (h.new o) w':=by
 have hid:m h.nx=none:=(hR.nofuture (zn _)).1
 have hm:=Mp.add_mono (l:=⟨β,d,ext⟩) hid
 refine ⟨hm,?_,⟨?_,?_,?_⟩,Nat.le_succ _,?_,s.size,?_,s.loops,s.os,s.tape,s.output⟩
 ·intro b hb e
  unfold Mp.add
  rw [zb om];exact e
 ·intro b o' hb
  rw [H.get_new] at hb
  split at hb
  ·next e=>
   cases hb;subst e
   exact ⟨_,co,zJ _ _,hw,ho⟩
  ·next e=>
   obtain ⟨l,co',h1,h2,h3⟩:=s.rel.obj b o' hb
   exact ⟨l,co',hm _ _ h1,h2,h3.mono hm⟩
 ·intro b b' o1 o2 l1 l2 hb hb' hne h1 h2 hq
  rw [H.get_new] at hb hb'
  unfold Mp.add at h1 h2
  split at hb
  ·next e=>
   rw [zg e] at h1;cases h1
   rw [zb om] at hb' h2
   have:=hR.lt hb' h2
   simp at hq;omega
  ·next e=>
   rw [zb e] at h1
   split at hb'
   ·next e'=>
    rw [zg e'] at h2;cases h2
    have:=hR.lt hb h1
    simp at hq;omega
   ·next e'=>
    rw [zb e'] at h2
    exact hR.inj b b' o1 o2 l1 l2 hb hb' hne h1 h2 hq
 ·intro b l hb
  unfold Mp.add at hb
  split at hb
  ·next e=>subst e;exact Nat.lt_succ_self _
  ·have:=hR.dom b l hb
   exact Nat.lt_succ_of_lt this
 ·intro b hb e
  rw [H.get_new,zb om];exact e
 ·intro β' hβ' hno
  refine ⟨(s.frame β' hβ' hno).1,?_⟩
  rintro ⟨b,o',l,h1,h2,h3,h4⟩
  rw [H.get_new] at h1
  unfold Mp.add at h3
  split at h1
  ·next e=>rw [zg e] at h3;cases h3;simp at h4;omega
  ·next e=>rw [zb e] at h3;exact hno ⟨b,o',l,h1,h2,h3,h4⟩
theorem jeV {f:FuncId} {p:Prim} (he : ∀ args w,(callFunc f args).run P w = .ok (.enter f args) w)
  (hp : ∀ args h v h',p args h=some (v,h') -> ∀ m w (xs:Array Value),HRel P C m h w->GOk C m->jah m args xs.toList->Calls P f xs w fun e w'=>∃ m' x,e = .returned x/\VRel m' v x/\Step P C h.nx m h w m' h' w') :
  jby P C f p:=by
 intro args h v h' hr m w xs hR hG hx c cs
 have hc:=hp args h v h' hr m w xs hR hG hx
 obtain ⟨e,w',fr,⟨m',x,rfl,hv,hs⟩,hst,_,hl⟩:=hc (c :: cs)
 exact ⟨m',w',x,hs,hv,.inr ⟨he xs w,Steps.trans hst (.one (step_leave_returned hl))⟩⟩
end
end Am
