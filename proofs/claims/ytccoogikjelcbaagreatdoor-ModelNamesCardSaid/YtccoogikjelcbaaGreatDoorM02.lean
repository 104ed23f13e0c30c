/- Our own library, part 2. -/
import Derived.Laws.Sem
import Derived.Laws.World
import Derived.Test.YtccoogikjelcbaaGreatDoorM01
set_option maxHeartbeats 8000000
set_option maxRecDepth 800
set_option linter.all false
namespace Am
open Go
structure Loc where
 β : Nat
 d:Nat
 ext:Nat
abbrev Mp:=Nat->Option Loc
mutual
def VRel (m:Mp):V->Value->Prop
 | .bool b,x=>x = .bool b
 | .int k n,x=>x = .int k n
 | .str s,x=>x = .string ⟨⟨s⟩⟩
 | .ptr none,x=>x = .pointer none
 | .ptr (some a),x=>∃ l,m a.1=some l/\x = .pointer (some ⟨l.β,l.d+a.2,none⟩)
 | .slice none n c,x=>n=0/\c = .fix 0/\x = .slice none 0 0
 | .slice (some a) n c,x=>∃ l ad c',m a.1=some l/\x = .slice (some ad) n c'/\n<=c'/\(c'≠0->ad=⟨l.β,l.d+a.2,none⟩) /\
   (∀ k,c = .fix k->c'=k)/\(∀ q,c = .grow q->a.2+c'*q<=l.ext)/\(∀ q k,c = .least q k->k<=c'/\a.2+c'*q<=l.ext)
 | .map none,x=>x = .map none
 | .map (some b),x=>∃ l,m b=some l/\x = .map (some l.β)
 | .clo f cs,x=>∃ xs:Array Value,x = .func (.func f) #[] xs/\jah m cs xs.toList
 | .yld b,x=>∃ l,m b=some l/\x = .func (.yield l.β) #[] #[]
 | .nilfn,x=>x = .nilFunc
 | .bm n t v,x=>∃ y,x = .func (.method n) #[.iface t y] #[]/\VRel m v y
 | .bcl f v,x=>∃ y,x = .func (.func f) #[y] #[]/\VRel m v y
 | .iface t v,x=>∃ y,x = .iface t y/\VRel m v y
 | .nili,x=>x = .nilIface
 | .ifc,x=>∃ t y,x = .iface t y
 | .agg l,x=>∃ xs:Array Value,x = .agg xs/\jah m l xs.toList
 | .tup l,x=>∃ xs:Array Value,x = .tuple xs/\jah m l xs.toList
def jah (m:Mp):List V->List Value->Prop
 | [],l=>l=[]
 | v :: r,l=>∃ x s,l=x :: s/\VRel m v x/\jah m r s
end
def Mono (m m':Mp):Prop := ∀ b l,m b=some l->m' b=some l
theorem Mono.refl (m:Mp):Mono m m:=fun _ _ h=>h
theorem Mono.trans {m m' m'':Mp} (h:Mono m m') (h':Mono m' m''):Mono m m'':=fun b l e=>h' b l (h b l e)
mutual
theorem VRel.mono {m m':Mp} (hm:Mono m m') : ∀ {v:V} {x:Value},VRel m v x->VRel m' v x
 | .bool _,_,h=>h
 | .int _ _,_,h=>h
 | .str _,_,h=>h
 | .ptr none,_,h=>h
 | .ptr (some _),_,h=>by
  obtain ⟨l,h1,h2⟩:=h;exact ⟨l,hm _ _ h1,h2⟩
 | .slice none _ _,_,h=>h
 | .slice (some _) _ _,_,h=>by
  obtain ⟨l,o',c',h1,h2⟩:=h;exact ⟨l,o',c',hm _ _ h1,h2⟩
 | .map none,_,h=>h
 | .map (some _),_,h=>by
  obtain ⟨l,h1,h2⟩:=h;exact ⟨l,hm _ _ h1,h2⟩
 | .clo _ cs,_,h=>by
  obtain ⟨xs,h1,h2⟩:=h;exact ⟨xs,h1,jah.mono hm h2⟩
 | .yld _,_,h=>by
  obtain ⟨l,h1,h2⟩:=h;exact ⟨l,hm _ _ h1,h2⟩
 | .nilfn,_,h=>h
 | .bm _ _ _,_,h=>by
  obtain ⟨y,h1,h2⟩:=h;exact ⟨y,h1,VRel.mono hm h2⟩
 | .bcl _ _,_,h=>by
  obtain ⟨y,h1,h2⟩:=h;exact ⟨y,h1,VRel.mono hm h2⟩
 | .iface _ _,_,h=>by
  obtain ⟨y,h1,h2⟩:=h;exact ⟨y,h1,VRel.mono hm h2⟩
 | .nili,_,h=>h
 | .ifc,_,h=>h
 | .agg _,_,h=>by
  obtain ⟨xs,h1,h2⟩:=h;exact ⟨xs,h1,jah.mono hm h2⟩
 | .tup _,_,h=>by
  obtain ⟨xs,h1,h2⟩:=h;exact ⟨xs,h1,jah.mono hm h2⟩
theorem jah.mono {m m':Mp} (hm:Mono m m') : ∀ {l:List V} {xs:List Value},jah m l xs->jah m' l xs
 | [],_,h=>h
 | _ :: _,_,h=>by
  obtain ⟨x,s,h1,h2,h3⟩:=h;exact ⟨x,s,h1,VRel.mono hm h2,jah.mono hm h3⟩
end
theorem jah.length {m:Mp} : ∀ {l:List V} {xs:List Value},jah m l xs->l.length=xs.length
 | [],_,h=>by rw [show _=[] from h];rfl
 | _ :: _,_,h=>by obtain ⟨x,s,rfl,_,h3⟩:=h;simp [h3.length]
theorem jah.get {m:Mp} : ∀ {l:List V} {xs:List Value},jah m l xs -> ∀ {k:Nat} {v:V},l[k]?=some v -> ∃ x,xs[k]?=some x/\VRel m v x
 | [],_,_,_,_,e=>by simp at e
 | _ :: _,_,h,0,_,e=>by
  obtain ⟨x,s,rfl,h2,_⟩:=h
  simp at e;subst e;exact ⟨x,rfl,h2⟩
 | _ :: _,_,h,k+1,_,e=>by
  obtain ⟨x,s,rfl,_,h3⟩:=h
  simp at e ⊢;exact h3.get e
theorem jah.of_get {m:Mp} : ∀ {l:List V} {xs:List Value},l.length=xs.length->(∀ (k:Nat) (v:V),l[k]?=some v -> ∃ x,xs[k]?=some x/\VRel m v x)->jah m l xs
 | [],[],_,_=>rfl
 | [],_ :: _,h,_=>by simp at h
 | _ :: _,[],h,_=>by simp at h
 | v :: l,x :: xs,h,H=>by
  refine ⟨x,xs,rfl,?_,jah.of_get (by simpa using h) fun k u e=>H (k+1) u (by simpa using e)⟩
  obtain ⟨y,e,hy⟩:=H 0 v rfl
  simp at e;subst e;exact hy
theorem jah.append {m:Mp} : ∀ {l l':List V} {xs xs':List Value},jah m l xs->jah m l' xs'->jah m (l++l') (xs++xs')
 | [],_,_,_,h,h'=>by rw [show _=[] from h];exact h'
 | _ :: _,_,_,_,h,h'=>by
  obtain ⟨x,s,rfl,h2,h3⟩:=h
  exact ⟨x,_,rfl,h2,h3.append h'⟩
theorem jah.take {m:Mp} {l:List V} {xs:List Value} (n:Nat) (h:jah m l xs):jah m (l.take n) (xs.take n):=by
 induction n generalizing l xs with
 | zero=>simp [jah]
 | succ n ih=>
  match l,h with
  | [],h=>rw [show _=[] from h];simp [jah]
  | _ :: _,⟨x,s,e,h2,h3⟩=>subst e;exact ⟨x,_,rfl,h2,ih h3⟩
theorem jah.drop {m:Mp} {l:List V} {xs:List Value} (n:Nat) (h:jah m l xs):jah m (l.drop n) (xs.drop n):=by
 induction n generalizing l xs with
 | zero=>simpa using h
 | succ n ih=>
  match l,h with
  | [],h=>rw [show _=[] from h];simp [jah]
  | _ :: _,⟨x,s,e,h2,h3⟩=>subst e;simpa using ih h3
theorem jah.replicate {m:Mp} {v:V} {x:Value} (h:VRel m v x) : ∀ n,jah m (List.replicate n v) (List.replicate n x)
 | 0=>rfl
 | n+1=>⟨x,_,rfl,h,jah.replicate h n⟩
theorem VRel.one {m:Mp} {v:V} {x:Value} (h:VRel m v x):v.one=x.oneCell':=by
 match v,h with
 | .bool _,h=>rw [show x=_ from h];rfl
 | .int _ _,h=>rw [show x=_ from h];rfl
 | .str _,h=>rw [show x=_ from h];rfl
 | .ptr none,h=>rw [show x=_ from h];rfl
 | .ptr (some _),⟨_,_,h⟩=>rw [h];rfl
 | .slice none _ _,⟨_,_,h⟩=>rw [h];rfl
 | .slice (some _) _ _,⟨_,_,_,_,h,_⟩=>rw [h];rfl
 | .map none,h=>rw [show x=_ from h];rfl
 | .map (some _),⟨_,_,h⟩=>rw [h];rfl
 | .clo _ _,⟨_,h,_⟩=>rw [h];rfl
 | .yld _,⟨_,_,h⟩=>rw [h];rfl
 | .nilfn,h=>rw [show x=_ from h];rfl
 | .bm _ _ _,⟨_,h,_⟩=>rw [h];rfl
 | .bcl _ _,⟨_,h,_⟩=>rw [h];rfl
 | .iface _ _,⟨_,h,_⟩=>rw [h];rfl
 | .nili,h=>rw [show x=_ from h];rfl
 | .ifc,⟨_,_,h⟩=>rw [h];rfl
 | .agg _,⟨_,h,_⟩=>rw [h];rfl
 | .tup _,⟨_,h,_⟩=>rw [h];rfl
theorem VRel.cells {m:Mp} {v:V} {x:Value} (h:VRel m v x):jah m v.cells x.cells.toList:=by
 match v,h with
 | .agg _,⟨xs,e,h2⟩=>subst e;exact h2
 | .bool _,h=>rw [show x=_ from h];exact ⟨_,_,rfl,rfl,rfl⟩
 | .int _ _,h=>rw [show x=_ from h];exact ⟨_,_,rfl,rfl,rfl⟩
 | .str _,h=>rw [show x=_ from h];exact ⟨_,_,rfl,rfl,rfl⟩
 | .ptr none,h=>rw [show x=_ from h];exact ⟨_,_,rfl,rfl,rfl⟩
 | .ptr (some a),⟨l,h1,h⟩=>rw [h];exact ⟨_,_,rfl,⟨l,h1,rfl⟩,rfl⟩
 | .slice none _ _,⟨h1,h2,h⟩=>rw [h];exact ⟨_,_,rfl,⟨h1,h2,rfl⟩,rfl⟩
 | .slice (some a) _ _,⟨l,o,c,h1,h,h2⟩=>rw [h];exact ⟨_,_,rfl,⟨l,o,c,h1,rfl,h2⟩,rfl⟩
 | .map none,h=>rw [show x=_ from h];exact ⟨_,_,rfl,rfl,rfl⟩
 | .map (some _),⟨l,h1,h⟩=>rw [h];exact ⟨_,_,rfl,⟨l,h1,rfl⟩,rfl⟩
 | .clo _ _,⟨xs,h,h2⟩=>rw [h];exact ⟨_,_,rfl,⟨xs,rfl,h2⟩,rfl⟩
 | .yld _,⟨l,h1,h⟩=>rw [h];exact ⟨_,_,rfl,⟨l,h1,rfl⟩,rfl⟩
 | .nilfn,h=>rw [show x=_ from h];exact ⟨_,_,rfl,rfl,rfl⟩
 | .bm _ _ _,⟨y,h,h2⟩=>rw [h];exact ⟨_,_,rfl,⟨y,rfl,h2⟩,rfl⟩
 | .bcl _ _,⟨y,h,h2⟩=>rw [h];exact ⟨_,_,rfl,⟨y,rfl,h2⟩,rfl⟩
 | .iface _ _,⟨y,h,h2⟩=>rw [h];exact ⟨_,_,rfl,⟨y,rfl,h2⟩,rfl⟩
 | .nili,h=>rw [show x=_ from h];exact ⟨_,_,rfl,rfl,rfl⟩
 | .ifc,⟨_,_,h⟩=>rw [h];exact ⟨_,_,rfl,⟨_,_,rfl⟩,rfl⟩
 | .tup _,⟨xs,h,h2⟩=>rw [h];exact ⟨_,_,rfl,⟨xs,rfl,h2⟩,rfl⟩
mutual
theorem jbj (m:Mp) : ∀ {v:V} {x:Value},jau v x=true->VRel m v x
 | .bool _,x,h=>by cases x<;>simp_all [jau,VRel]
 | .int _ _,x,h=>by cases x<;>simp_all [jau,VRel]
 | .str s,x,h=>by
  cases x with
  | string b=>obtain ⟨⟨l⟩⟩:=b;simp [jau] at h;subst h;rfl
  | _=>simp [jau] at h
 | .ptr none,x,h=>by
  cases x with
  | pointer a=>cases a<;>simp_all [jau,VRel]
  | _=>simp [jau] at h
 | .ptr (some _),x,h=>by
  cases x with
  | pointer a=>cases a<;>simp [jau] at h
  | _=>simp [jau] at h
 | .slice none n c,x,h=>by
  cases x with
  | slice a i j=>
   cases a with
   | some _=>simp [jau] at h
   | none=>
    cases i with
    | succ _=>simp [jau] at h
    | zero=>
     cases j with
     | succ _=>simp [jau] at h
     | zero=>simp [jau] at h;exact ⟨h.1,h.2,rfl⟩
  | _=>simp [jau] at h
 | .slice (some _) _ _,x,h=>by cases x<;>simp [jau] at h
 | .map none,x,h=>by
  cases x with
  | map a=>cases a<;>simp_all [jau,VRel]
  | _=>simp [jau] at h
 | .map (some _),x,h=>by cases x<;>simp [jau] at h
 | .clo f cs,x,h=>by
  cases x with
  | func g a c=>
   cases g with
   | func g=>
    simp [jau] at h
    obtain ⟨⟨h1,h2⟩,h3⟩:=h
    subst h1 h2
    exact ⟨c,rfl,jbB m h3⟩
   | _=>simp [jau] at h
  | _=>simp [jau] at h
 | .yld _,x,h=>by cases x<;>simp [jau] at h
 | .nilfn,x,h=>by cases x<;>simp_all [jau,VRel]
 | .bm _ _ _,x,h=>by cases x<;>simp [jau] at h
 | .bcl _ _,x,h=>by cases x<;>simp [jau] at h
 | .iface t v,x,h=>by
  cases x with
  | iface u y=>
   simp [jau] at h
   obtain ⟨h1,h2⟩:=h
   subst h1
   exact ⟨y,rfl,jbj m h2⟩
  | _=>simp [jau] at h
 | .nili,x,h=>by cases x<;>simp_all [jau,VRel]
 | .ifc,x,h=>by cases x<;>simp [jau] at h
 | .agg l,x,h=>by
  cases x with
  | agg c=>simp [jau] at h;exact ⟨c,rfl,jbB m h⟩
  | _=>simp [jau] at h
 | .tup l,x,h=>by
  cases x with
  | tuple c=>simp [jau] at h;exact ⟨c,rfl,jbB m h⟩
  | _=>simp [jau] at h
theorem jbB (m:Mp) : ∀ {l:List V} {xs:List Value},jbC l xs=true->jah m l xs
 | [],xs,h=>by cases xs<;>simp_all [jbC,jah]
 | v :: r,xs,h=>by
  cases xs with
  | nil=>simp [jbC] at h
  | cons x s=>
   simp [jbC] at h
   exact ⟨x,s,rfl,jbj m h.1,jbB m h.2⟩
end
mutual
theorem V.same_eq : ∀ {a b:V},V.same a b=true->a=b
 | .bool _,b,h=>by cases b<;>simp_all [V.same]
 | .int _ _,b,h=>by cases b<;>simp_all [V.same]
 | .str _,b,h=>by cases b<;>simp_all [V.same]
 | .ptr none,b,h=>by
  cases b with
  | ptr a=>cases a<;>simp_all [V.same]
  | _=>simp [V.same] at h
 | .ptr (some x),b,h=>by
  cases b with
  | ptr a=>
   cases a with
   | none=>simp [V.same] at h
   | some y=>obtain ⟨p,q⟩:=x;obtain ⟨r,s⟩:=y;simp_all [V.same]
  | _=>simp [V.same] at h
 | .slice none _ _,b,h=>by
  cases b with
  | slice a _ _=>cases a<;>simp_all [V.same]
  | _=>simp [V.same] at h
 | .slice (some x) _ _,b,h=>by
  cases b with
  | slice a _ _=>
   cases a with
   | none=>simp [V.same] at h
   | some y=>obtain ⟨p,q⟩:=x;obtain ⟨r,s⟩:=y;simp_all [V.same]
  | _=>simp [V.same] at h
 | .map _,b,h=>by cases b<;>simp_all [V.same]
 | .clo f a,b,h=>by
  cases b with
  | clo g c=>simp [V.same] at h;rw [h.1,V.sames_eq h.2]
  | _=>simp [V.same] at h
 | .yld _,b,h=>by cases b<;>simp_all [V.same]
 | .nilfn,b,h=>by cases b<;>simp_all [V.same]
 | .bm _ _ a,b,h=>by
  cases b with
  | bm _ _ c=>simp [V.same] at h;rw [h.1.1,h.1.2,V.same_eq h.2]
  | _=>simp [V.same] at h
 | .bcl _ a,b,h=>by
  cases b with
  | bcl _ c=>simp [V.same] at h;rw [h.1,V.same_eq h.2]
  | _=>simp [V.same] at h
 | .iface t a,b,h=>by
  cases b with
  | iface u c=>simp [V.same] at h;rw [h.1,V.same_eq h.2]
  | _=>simp [V.same] at h
 | .nili,b,h=>by cases b<;>simp_all [V.same]
 | .ifc,b,h=>by cases b<;>simp_all [V.same]
 | .agg a,b,h=>by
  cases b with
  | agg c=>simp [V.same] at h;rw [V.sames_eq h]
  | _=>simp [V.same] at h
 | .tup a,b,h=>by
  cases b with
  | tup c=>simp [V.same] at h;rw [V.sames_eq h]
  | _=>simp [V.same] at h
theorem V.sames_eq : ∀ {a b:List V},V.sames a b=true->a=b
 | [],b,h=>by cases b<;>simp_all [V.sames]
 | x :: r,b,h=>by
  cases b with
  | nil=>simp [V.sames] at h
  | cons y s=>simp [V.sames] at h;rw [V.same_eq h.1,V.sames_eq h.2]
end
mutual
theorem V.same_refl : ∀ (a:V),V.same a a=true
 | .bool _=>by simp [V.same]
 | .int _ _=>by simp [V.same]
 | .str _=>by simp [V.same]
 | .ptr none=>rfl
 | .ptr (some _)=>by simp [V.same]
 | .slice none _ _=>by simp [V.same]
 | .slice (some _) _ _=>by simp [V.same]
 | .map _=>by simp [V.same]
 | .clo _ l=>by simp [V.same,V.sames_refl l]
 | .yld _=>by simp [V.same]
 | .nilfn=>rfl
 | .bm _ _ v=>by simp [V.same,V.same_refl v]
 | .bcl _ v=>by simp [V.same,V.same_refl v]
 | .iface _ v=>by simp [V.same,V.same_refl v]
 | .nili=>rfl
 | .ifc=>rfl
 | .agg l=>by simp [V.same,V.sames_refl l]
 | .tup l=>by simp [V.same,V.sames_refl l]
theorem V.sames_refl : ∀ (a:List V),V.sames a a=true
 | []=>rfl
 | x :: r=>by simp [V.sames,V.same_refl x,V.sames_refl r]
end
theorem beqF {a b:Nat} (h:a≠b):Nat.beq a b=false:=by
 cases e:Nat.beq a b
 ·rfl
 ·exact zw (Nat.eq_of_beq_eq_true e) h
theorem beqT (a:Nat):Nat.beq a a=true:=Nat.beq_refl a
theorem jb7 {a b:Nat} : Nat.beq a b=true↔a=b:=⟨Nat.eq_of_beq_eq_true,fun h=>h ▸ beqT a⟩
theorem nbeq (a b:Nat):Nat.beq a b=decide (a=b):=by
 by_cases h:a=b
 ·subst h;simp
 ·simp [beqF h,h]
theorem jbX {α : Type} (p:Prop) [Decidable p] (a b : α):(bif decide p then a else b)=if p then a else b:=by by_cases h:p<;>simp [h]
theorem T.get_nd (v:Option Obj) (l r:T) (k:Nat):(T.nd v l r).get k=if k=0 then v else if k%2=1 then l.get (k/2) else r.get (k/2-1):=by
 simp only [T.get,nbeq,jbX]
theorem T.get_lf (k:Nat):T.lf.get k=none:=rfl
theorem T.get_lf' (k:Nat):T.lf.get k=(T.nd none .lf .lf).get k:=by rw [T.get_nd];simp [T.get_lf]
theorem T.set_lf (f:Nat) (k:Nat) (o:Option Obj):T.set (f+1) .lf k o=T.set (f+1) (.nd none .lf .lf) k o:=by simp only [T.set]
theorem T.set_nd (f:Nat) (v:Option Obj) (l r:T) (k:Nat) (o:Option Obj):T.set (f+1) (.nd v l r) k o =
  if k=0 then .nd o l r else if k%2=1 then .nd v (T.set f l (k/2) o) r else .nd v l (T.set f r (k/2-1) o):=by
 simp only [T.set,nbeq,jbX]
theorem T.get_set : ∀ (f:Nat) (t:T) (k j:Nat) (o:Option Obj),k<f->(T.set f t k o).get j=if j=k then o else t.get j:=by
 intro f
 induction f with
 | zero=>intro _ _ _ _ h;omega
 | succ f ih=>
  have key : ∀ v l r k j (o:Option Obj),k<f+1->(T.set (f+1) (.nd v l r) k o).get j=if j=k then o else (T.nd v l r).get j:=by
   intro v l r k j o hk
   rw [T.set_nd,T.get_nd]
   by_cases k0:k=0
   ·subst k0
    rw [zg rfl,T.get_nd]
    by_cases j0:j=0<;>simp [j0]
   ·rw [zb k0]
    by_cases ko:k%2=1
    ·rw [zg ko,T.get_nd]
     by_cases j0:j=0
     ·subst j0;rw [zg rfl,zg rfl,zb om]
     ·rw [zb j0,zb j0]
      by_cases jo:j%2=1
      ·rw [zg jo,zg jo,ih _ _ _ _ om]
       by_cases e:j=k
       ·subst e;simp
       ·rw [zb e,zb om]
      ·rw [zb jo,zb jo,zb om]
    ·rw [zb ko,T.get_nd]
     by_cases j0:j=0
     ·subst j0;rw [zg rfl,zg rfl,zb om]
     ·rw [zb j0,zb j0]
      by_cases jo:j%2=1
      ·rw [zg jo,zg jo,zb om]
      ·rw [zb jo,zb jo,ih _ _ _ _ om]
       by_cases e:j=k
       ·subst e;simp
       ·rw [zb e,zb om]
  intro t k j o hk
  cases t with
  | lf=>rw [T.set_lf,key _ _ _ _ _ _ hk,T.get_lf']
  | nd v l r=>exact key _ _ _ _ _ _ hk
theorem H.get_upd (h:H) (b j:Nat) (o:Option Obj):(h.upd b o).get j=if j=b then o else h.get j :=
 T.get_set _ _ _ _ _ om
theorem H.get_set (h:H) (b j:Nat) (o:Obj):(h.set b o).get j=if j=b then some o else h.get j:=H.get_upd h b j _
theorem H.get_kill (h:H) (b j:Nat):(h.kill b).get j=if j=b then none else h.get j:=H.get_upd h b j _
theorem H.get_new (h:H) (j:Nat) (o:Obj):(h.new o).get j=if j=h.nx then some o else h.get j:=T.get_set _ _ _ _ _ om
@[simp] theorem H.nx_set (h:H) (b:Nat) (o:Obj):(h.set b o).nx=h.nx:=rfl
@[simp] theorem H.nx_upd (h:H) (b:Nat) (o:Option Obj):(h.upd b o).nx=h.nx:=rfl
@[simp] theorem H.nx_kill (h:H) (b:Nat):(h.kill b).nx=h.nx:=rfl
@[simp] theorem H.nx_new (h:H) (o:Obj):(h.new o).nx=h.nx+1:=rfl
@[simp] theorem H.get_reserve (h:H) (n j:Nat):(h.reserve n).get j=h.get j:=rfl
@[simp] theorem H.nx_reserve (h:H) (n:Nat):(h.reserve n).nx=h.nx+n:=rfl
def ERel (m:Mp) (e:Env) (tmps:Array Value):Prop := ∀ s v,e.get s=some v -> ∃ x,tmps[s]?=some x/\VRel m v x
theorem ERel.mono {m m':Mp} {e:Env} {t:Array Value} (hm:Mono m m') (h:ERel m e t):ERel m' e t :=
 fun s v g=>let ⟨x,h1,h2⟩:=h s v g;⟨x,h1,h2.mono hm⟩
def jad (m:Mp):List (V × V × Nat)->List MapEntry->Prop
 | [],l=>l=[]
 | (k,v,born) :: r,l=>∃ e s,l=e :: s/\VRel m k e.key/\VRel m v e.val/\e.born=born/\jad m r s
theorem jad.mono {m m':Mp} (hm:Mono m m') : ∀ {l:List (V × V × Nat)} {es:List MapEntry},jad m l es->jad m' l es
 | [],_,h=>h
 | (_,_,_) :: _,_,⟨e,s,h1,h2,h3,h4,h5⟩=>⟨e,s,h1,h2.mono hm,h3.mono hm,h4,h5.mono hm⟩
def jfS:Option Ex->Option Code->Prop
 | none,p=>p=none
 | some (.exit i),p=>p=some (.exit i)
 | some .ret,p=>p=some .ret
 | some .normal,_=>False
def ORel (P:Program) (C:Cx) (m:Mp) (l:Loc):Obj->Go.Obj->Prop
 | .cells vs ro,co=>∃ c elem lo hi,co = .cells c elem (lo,hi)/\vs.length<=l.ext/\l.d+l.ext<=c.size /\
   (∀ k v,vs[k]?=some v -> ∃ x,c[l.d+k]?=some x/\VRel m v x)/\(ro=false->lo=hi\/l.d+l.ext<=lo)
 | .map es clock,co=>∃ ces,co = .map ces clock/\jad m es ces.toList
 | .loop st pend ps env a b,co=>∃ (L:Loop) (nt:Nat),co = .loop L/\L.state=st/\jfS pend L.pending/\L.params.toList=ps/\ERel m env L.tmps /\
   nt<=L.tmps.size/\ps.all (Nat.blt · nt)=true/\jbb P C nt a L.assign=true/\jbb P C nt b L.body=true
 | .iter mp since seen last,co=>l.d=0 /\ ∃ mp':Option Nat,co = .mapIter mp' since seen.toArray last/\(match mp with | none=>mp'=none | some r=>∃ l,m r=some l/\mp'=some l.β)
 | .siter s pos,co=>l.d=0/\co = .stringIter ⟨⟨s⟩⟩ pos
theorem ORel.mono {P:Program} {C:Cx} {m m':Mp} (hm:Mono m m') {l:Loc} {o:Obj} {co:Go.Obj} (h:ORel P C m l o co):ORel P C m' l o co:=by
 cases o with
 | cells vs ro=>
  obtain ⟨c,elem,lo,hi,h1,h3,h4,h5,h6⟩:=h
  exact ⟨c,elem,lo,hi,h1,h3,h4,fun k v e=>let ⟨x,hx,hv⟩:=h5 k v e;⟨x,hx,hv.mono hm⟩,h6⟩
 | map es clock=>obtain ⟨ces,h1,h2⟩:=h;exact ⟨ces,h1,h2.mono hm⟩
 | loop st pend ps env a b=>
  obtain ⟨L,nt,h1,h2,h3,h4,h5,h6⟩:=h
  exact ⟨L,nt,h1,h2,h3,h4,h5.mono hm,h6⟩
 | iter mp since seen last=>
  obtain ⟨h0,mp',h1,h2⟩:=h
  refine ⟨h0,mp',h1,?_⟩
  cases mp with
  | none=>exact h2
  | some r=>obtain ⟨l,h3,h4⟩:=h2;exact ⟨l,hm _ _ h3,h4⟩
 | siter s pos=>exact h
structure HRel (P:Program) (C:Cx) (m:Mp) (h:H) (w:World):Prop where
 obj : ∀ b o,h.get b=some o -> ∃ l co,m b=some l/\w.heap[l.β]?=some co/\ORel P C m l o co
 inj : ∀ b b' o o' l l',h.get b=some o->h.get b'=some o'->b≠b'->m b=some l->m b'=some l'->l.β = l'.β -> o.ro=true/\o'.ro=true
 dom : ∀ b l,m b=some l->b<h.nx
theorem HRel.lt {P:Program} {C:Cx} {m:Mp} {h:H} {w:World} (hr:HRel P C m h w) {b:Nat} {o:Obj} {l:Loc} (hb:h.get b=some o) (hl:m b=some l):l.β < w.heap.size:=by
 obtain ⟨l',co,h1,h2,_⟩:=hr.obj b o hb
 rw [hl] at h1;cases h1
 rcases zr l.β w.heap.size with h | h
 ·exact h
 ·rw [zD h] at h2;cases h2
def jc8 (m:Mp) (h:H) (β : Nat):Prop := ∃ b o l,h.get b=some o/\o.ro=false/\m b=some l/\l.β = β
structure Step (P:Program) (C:Cx) (N:Nat) (m:Mp) (h:H) (w:World) (m':Mp) (h':H) (w':World):Prop where
 mono:Mono m m'
 old : ∀ b,b<N->m b=none->m' b=none
 rel:HRel P C m' h' w'
 nx:h.nx<=h'.nx
 dead : ∀ b,b<N->h.get b=none->h'.get b=none
 size:w.heap.size<=w'.heap.size
 frame : ∀ β,β < w.heap.size -> ¬ jc8 m h β -> w'.heap[β]?=w.heap[β]? /\ ¬ jc8 m' h' β
 loops : ∀ (β : Nat) (L:Loop),w.heap[β]?=some (Go.Obj.loop L) -> ∃ L',w'.heap[β]?=some (Go.Obj.loop L')
 os:w'.os=w.os
 tape:w'.tape=w.tape
 output:w'.output=w.output
theorem Step.refl {P:Program} {C:Cx} {m:Mp} {h:H} {w:World} (N:Nat) (r:HRel P C m h w):Step P C N m h w m h w :=
 ⟨Mono.refl _,fun _ _ e=>e,r,zn _,fun _ _ e=>e,zn _,fun _ _ n=>⟨rfl,n⟩,fun _ L e=>⟨L,e⟩,rfl,rfl,rfl⟩
theorem Step.trans {P:Program} {C:Cx} {N:Nat} {m m1 m2:Mp} {h h1 h2:H} {w w1 w2:World} (a:Step P C N m h w m1 h1 w1) (b:Step P C N m1 h1 w1 m2 h2 w2) :
  Step P C N m h w m2 h2 w2 :=
 ⟨a.mono.trans b.mono,fun k hk e=>b.old k hk (a.old k hk e),b.rel,zu a.nx b.nx,fun k hk e=>b.dead k hk (a.dead k hk e),zu a.size b.size,
  fun β hb n=>let ⟨e1,n1⟩:=a.frame β hb n;let ⟨e2,n2⟩:=b.frame β (zo hb a.size) n1;⟨e2.trans e1,n2⟩,
  fun β L e=>let ⟨L1,e1⟩:=a.loops β L e;b.loops β L1 e1,b.os.trans a.os,b.tape.trans a.tape,b.output.trans a.output⟩
theorem Step.weaken {P:Program} {C:Cx} {N N':Nat} (hN:N'<=N) {m m1:Mp} {h h1:H} {w w1:World} (a:Step P C N m h w m1 h1 w1):Step P C N' m h w m1 h1 w1 :=
 { a with old:=fun b hb=>a.old b (zo hb hN),dead:=fun b hb=>a.dead b (zo hb hN) }
end Am
