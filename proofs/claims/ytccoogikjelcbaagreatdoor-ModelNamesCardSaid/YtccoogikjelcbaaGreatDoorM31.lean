/- Our own library, part 31. -/
import Derived.ProofKit
import Derived.Test.YtccoogikjelcbaaGreatDoorM10
set_option maxHeartbeats 8000000
set_option maxRecDepth 800
set_option linter.all false
namespace Am
open Go Go.ChangeShapes Go.WideShapes Go.ChangeAt Go.RowKit
def m0:Mp:=fun _=>none
section
variable {P:Program} {C:Cx} {W W':World} {m':Mp} {h':H} {N:Nat}
end
end Am
namespace Am
open Go Go.ChangeShapes Go.WideShapes Go.ChangeAt Go.RowKit
theorem jlS {α : Type} {R:Nat -> α -> Prop} : ∀ n,(∀ i,i<n -> ∃ x,R i x) -> ∃ l:List α,l.length=n /\ ∀ i x,l[i]?=some x->R i x
 | 0,_=>⟨[],rfl,fun i x h=>by simp at h⟩
 | n+1,h=>by
  obtain ⟨l,h1,h2⟩:=jlS n fun i hi=>h i om
  obtain ⟨x,hx⟩:=h n om
  refine ⟨l++[x],by simp [h1],fun i y hy=>?_⟩
  rw [zd] at hy
  split at hy
  ·exact h2 i y hy
  ·next hlt=>
   have:i=n:=by
    rcases zr (i-l.length) 1 with h3 | h3
    ·omega
    ·rw [zc (by simpa using h3)] at hy;cases hy
   subst this
   rw [h1] at hy;simp at hy;subst hy;exact hx
section
variable {D:Type} {enc:TypeId × Value->D} {P:Program} {C:Cx} {W:World} {t e:TypeId} {f0 f1:Field}
end
section
variable {P:Program} {C:Cx} {W W':World} {m m':Mp} {h h':H} {N:Nat}
theorem below_of (s:Step P C N m h W m' h' W') (hno : ∀ β,¬ jc8 m h β):Below W.heap.size W W' :=
 ⟨s.os,s.tape,s.output,s.size,fun k hk=>(s.frame k hk (hno k)).1⟩
theorem post1 {D:Type} {enc:TypeId × Value->D} {f:Func} {s:ChangeSpec} {apart handsOn:Bool} {args:Array Value} {v:Value} {ds gs:List (DataW D)} {before pa pv:List MemPlace} (st:Step P C N m h W m' h' W') (hno : ∀ β,¬ jc8 m h β)
  (hW:DataW.Whole enc P f.params.toList s.vars apart W args.toList ds gs before)
  (hres : ∀ (b:Nat) (sp:Nat->Bool) (hd:Bool),DataW.TrodAll enc P W' b sp hd f.resultTypes.toList (v.resultList f.resultTypes.size) (s.fn D (ds++gs)).results [])
  (hargs:DataW.TrodAll enc P W' 0 (fun b=>decide (b<W.heap.size)) true f.params.toList args.toList (s.fn D (ds++gs)).args pa)
  (hvars:DataW.TrodVars enc P W' (fun b=>decide (b<W.heap.size)) s.vars (s.fn D (ds++gs)).vars pv) :
  s.post enc P f apart true handsOn false W args v W' :=
 ⟨ds,gs,before,[],pa,pv,hW,hres _ _ _,hargs,hvars,(below_of st hno).frame _,fun x=>by cases x⟩
end
end Am
namespace Am
open Go
def repInt (k:IntKind) (_:H) (n:Int) (vs:List V):Prop:=vs=[.int k n]/\k.min<=n/\n<=k.max
def repBool (_:H) (b:Bool) (vs:List V):Prop:=vs=[.bool b]
def repStr (_:H) (s:List UInt8) (vs:List V):Prop:=vs=[.str s]/\s.length<=2 ^ 63
def repNil (_:H) (_:Unit) (vs:List V):Prop:=vs=[]
def repCons {α β : Type} (a:H -> α -> List V->Prop) (b:H -> β -> List V->Prop) (h:H) (x : α × β) (vs:List V):Prop := ∃ u w,vs=u++w/\a h x.1 u/\b h x.2 w
def jaF {α : Type} (rep:H -> α -> List V->Prop) (h:H):List α -> List V->Prop
 | [],vs=>vs=[]
 | x :: l,vs=>∃ u w,vs=u++w/\rep h x u/\jaF rep h l w
theorem jaF.length {α : Type} {rep:H -> α -> List V->Prop} {h:H} {sz:Nat} (hl : ∀ {x vs},rep h x vs->vs.length=sz) : ∀ {l:List α} {vs:List V},jaF rep h l vs->vs.length=l.length*sz
 | [],_,e=>by rw [show _=[] from e];simp
 | x :: l,_,⟨u,w,e,h1,h2⟩=>by rw [e,ze,hl h1,jaF.length hl h2];simp [Nat.add_mul];omega
theorem jaF.mono {α : Type} {rep rep':H -> α -> List V->Prop} {h h':H} (hk : ∀ {x vs},rep h x vs->rep' h' x vs) : ∀ {l:List α} {vs:List V},jaF rep h l vs->jaF rep' h' l vs
 | [],_,e=>e
 | _ :: _,_,⟨u,w,e,h1,h2⟩=>⟨u,w,e,hk h1,jaF.mono hk h2⟩
theorem jaF.snoc {α : Type} {rep:H -> α -> List V->Prop} {h:H} : ∀ {l:List α} {vs ws:List V} {x : α},jaF rep h l vs->rep h x ws->jaF rep h (l++[x]) (vs++ws)
 | [],_,ws,x,e,h1=>by rw [show _=[] from e];exact ⟨ws,[],by simp,h1,rfl⟩
 | _ :: _,_,ws,x,⟨u,w,e,h2,h3⟩,h1=>⟨u,w++ws,by rw [e,List.append_assoc],h2,jaF.snoc h3 h1⟩
theorem jaF.get {α : Type} {rep:H -> α -> List V->Prop} {h:H} {sz:Nat} (hl : ∀ {x vs},rep h x vs->vs.length=sz) : ∀ {l:List α} {vs:List V} {i:Nat} {x : α},jaF rep h l vs->l[i]?=some x->rep h x ((vs.drop (i*sz)).take sz)
 | [],_,i,x,_,hi=>by simp at hi
 | y :: l,_,0,x,⟨u,w,e,h1,h2⟩,hi=>by
  simp at hi;subst hi;subst e
  rw [Nat.zero_mul,zi,List.take_append_of_le_length (by rw [hl h1];exact zn _),zf (by rw [hl h1];exact zn _)];exact h1
 | y :: l,_,i+1,x,⟨u,w,e,h1,h2⟩,hi=>by
  subst e
  have:(i+1)*sz=u.length+i*sz:=by rw [hl h1,Nat.add_mul];omega
  rw [this,<- List.drop_drop,List.drop_left]
  exact jaF.get hl h2 (by simpa using hi)
def repSlice {α : Type} (B:Nat) (a:H -> α -> List V->Prop) (h:H) (l:List α) (vs:List V):Prop :=
 ∃ (ad:Option (Nat × Nat)) (c:Nat),vs=[.slice ad l.length (.fix c)]/\(l.length<=B->l≠[] -> ∃ b cs,ad=some (b,0)/\b<h.nx/\h.get b=some (.cells cs true)/\jaF a h l cs)/\l.length<=c/\(ad=none->c=0/\l=[])
end Am
namespace Am
open Go Go.ChangeShapes Go.WideShapes Go.ChangeAt Go.RowKit
structure RoMem (P:Program) (C:Cx) (m:Mp) (h:H) (W:World):Prop where
 rel:HRel P C m h W
 ro : ∀ b o,h.get b=some o->o.ro=true
 wf : ∀ b,h.nx<=b->h.get b=none
structure More (m:Mp) (h:H) (m':Mp) (h':H):Prop where
 mono:Mono m m'
 nx:h.nx<=h'.nx
 get : ∀ b,b<h.nx->h'.get b=h.get b
theorem More.refl (m:Mp) (h:H):More m h m h:=⟨Mono.refl _,zn _,fun _ _=>rfl⟩
theorem More.trans {m m' m'':Mp} {h h' h'':H} (a:More m h m' h') (b:More m' h' m'' h''):More m h m'' h'' :=
 ⟨a.mono.trans b.mono,zu a.nx b.nx,fun j hj=>by rw [b.get j (zo hj a.nx),a.get j hj]⟩
section
variable {P:Program} {C:Cx} {m:Mp} {h:H} {W:World}
theorem RoMem.noOwned (r:RoMem P C m h W) (β : Nat) : ¬ jc8 m h β := by
 rintro ⟨b,o,l,hb,hro,_⟩
 rw [r.ro b o hb] at hro;cases hro
theorem RoMem.fresh (r:RoMem P C m h W):m h.nx=none:=by
 cases e:m h.nx with
 | none=>rfl
 | some l=>have:=r.rel.dom _ _ e;omega
theorem RoMem.reserve (r:RoMem P C m h W) (n:Nat):RoMem P C m (h.reserve n) W :=
 ⟨⟨r.rel.obj,r.rel.inj,fun b l hb=>by have:=r.rel.dom b l hb;simp;omega⟩,r.ro,fun b hb=>r.wf b (by simp at hb;omega)⟩
theorem RoMem.name (r:RoMem P C m h W) (loc:Loc):RoMem P C (m.add h.nx loc) (h.reserve 1) W:=by
 have hm:=Mp.add_mono (l:=loc) r.fresh
 refine ⟨⟨fun b o hb=>?_,fun b b' o o' l l' hb hb' hne _ _ _=>⟨r.ro b o hb,r.ro b' o' hb'⟩,fun b l hb=>?_⟩,r.ro,fun b hb=>r.wf b (by simp at hb;omega)⟩
 ·obtain ⟨l,co,h1,h2,h3⟩:=r.rel.obj b o hb
  exact ⟨l,co,hm _ _ h1,h2,h3.mono hm⟩
 ·unfold Mp.add at hb
  split at hb
  ·next e=>subst e;simp
  ·have:=r.rel.dom b l hb;simp;omega
theorem RoMem.put (r:RoMem P C m h W) {id:Nat} (hid:m id=none) {l:List V} {loc:Loc} {c:Array Value} {el:TypeId} {fz:Nat × Nat} {h':H} (hget : ∀ j,h'.get j=if j=id then some (.cells l true) else h.get j) (hnx:h.nx<=h'.nx)
  (hlt:id<h'.nx) (hb:W.heap[loc.β]?=some (.cells c el fz)) (hl:l.length<=loc.ext) (hsz:loc.d+loc.ext<=c.size) (hc : ∀ (k:Nat) v,l[k]?=some v -> ∃ x,c[loc.d+k]?=some x/\VRel m v x) :
  RoMem P C (m.add id loc) h' W:=by
 have hm:=Mp.add_mono (l:=loc) hid
 have hro : ∀ b o,h'.get b=some o->o.ro=true:=by
  intro b o hb
  rw [hget] at hb
  split at hb
  ·cases hb;rfl
  ·exact r.ro b o hb
 refine ⟨⟨fun b o hb0=>?_,fun b b' o o' l l' hb hb' hne _ _ _=>⟨hro b o hb,hro b' o' hb'⟩,fun b l hb=>?_⟩,hro,fun b hb=>?_⟩
 ·rw [hget] at hb0
  split at hb0
  ·next e=>
   cases hb0;subst e
   obtain ⟨lo,hi⟩:=fz
   exact ⟨loc,_,zJ _ _,hb,c,el,lo,hi,rfl,hl,hsz,fun k v hk=>let ⟨x,h1,h2⟩:=hc k v hk;⟨x,h1,h2.mono hm⟩,fun e=>by cases e⟩
  ·obtain ⟨l,co,h1,h2,h3⟩:=r.rel.obj b o hb0
   exact ⟨l,co,hm _ _ h1,h2,h3.mono hm⟩
 ·unfold Mp.add at hb
  split at hb
  ·next e=>subst e;exact hlt
  ·have:=r.rel.dom b l hb;omega
 ·rw [hget,zb om]
  exact r.wf b om
theorem RoMem.add (r:RoMem P C m h W) {l:List V} {loc:Loc} {c:Array Value} {el:TypeId} {fz:Nat × Nat}
  (hb:W.heap[loc.β]?=some (.cells c el fz)) (hl:l.length<=loc.ext) (hsz:loc.d+loc.ext<=c.size) (hc : ∀ (k:Nat) v,l[k]?=some v -> ∃ x,c[loc.d+k]?=some x/\VRel m v x) :
  RoMem P C (m.add h.nx loc) (h.new (.cells l true)) W :=
 r.put r.fresh (fun j=>H.get_new h j _) Zb Zb hb hl hsz hc
theorem RoMem.more_add (r:RoMem P C m h W) (loc:Loc) (l:List V):More m h (m.add h.nx loc) (h.new (.cells l true)) :=
 ⟨Mp.add_mono r.fresh,by simp,fun j hj=>jaZ hj⟩
theorem RoMem.more_name (r:RoMem P C m h W) (loc:Loc):More m h (m.add h.nx loc) (h.reserve 1):=⟨Mp.add_mono r.fresh,by simp,fun j hj=>rfl⟩
theorem More.reserve (n:Nat):More m h m (h.reserve n):=⟨Mono.refl _,by simp,fun j hj=>rfl⟩
end
theorem jkZ {W:World} {a:Addr} {n:Nat} {xs:List Value} (h:W.cells? 0 (a.add 0) n=some xs) (hn:0<n):a=⟨a.block,a.off,none⟩:=by
 obtain ⟨_,h1,h2⟩:=World.cells?_some h
 have:=h2 0 hn
 rw [za om] at this
 obtain ⟨b,o,s⟩:=a
 simp only [Addr.add,zg,World.cell?] at this
 split at this
 ·cases s with
  | none=>rfl
  | some _=>simp at this
 ·cases this
theorem jla {W:World} {β o:Nat} {x:Value} (h:W.cell? ⟨β,o,none⟩=some x) : ∃ c el fz,W.heap[β]?=some (.cells c el fz)/\c[o]?=some x:=by
 unfold World.cell? at h
 split at h
 ·next c el fz hb=>exact ⟨c,el,fz,hb,by simpa using h⟩
 ·cases h
structure Rd (P:Program) (t:TypeId) (α : Type) where
 sz:Nat
 bnd:Nat
 rep:H -> α -> List V->Prop
 cells:P.cellsOf t=sz
 len : ∀ {h x vs},rep h x vs->vs.length=sz
 one : ∀ {h x vs},rep h x vs->vs.all V.one=true
 keep : ∀ {h h' x vs},h.nx<=h'.nx->(∀ b,b<h.nx->h'.get b=h.get b)->rep h x vs->rep h' x vs
 read : ∀ {D:Type} {enc:TypeId × Value->D} {C:Cx} {m:Mp} {h:H} {W:World} {fuel:Nat} {cs:List Value} {d:DataW D × List MemPlace},RoMem P C m h W->DataW.trod enc P W 0 (fun _=>true) true fuel t cs=some d ->
  ∃ x vs m' h',RoMem P C m' h' W/\More m h m' h'/\h'.nx=h.nx+bnd/\rep h' x vs/\jah m' vs cs
section
variable {P:Program} {t:TypeId}
def Rd.int (k:IntKind) (ht:P.underlying t=some (.int k)) (hc:P.cellsOf t=1):Rd P t Int where
 sz:=1
 bnd:=0
 rep:=repInt k
 cells:=hc
 len:=by rintro _ _ _ ⟨rfl,_⟩;rfl
 one:=by rintro _ _ _ ⟨rfl,_⟩;rfl
 keep:=fun _ _ h=>h
 read:=by
  intro D enc C m h W fuel cs d r hd
  obtain ⟨n,rfl,_,hw⟩:=DataW.trod_int ht hd
  exact ⟨n,[.int k n],m,h,r,More.refl _ _,rfl,⟨rfl,by simpa [Lit.wf] using hw⟩,_,_,rfl,rfl,rfl⟩
def Rd.bool (ht:P.underlying t=some .bool) (hc:P.cellsOf t=1):Rd P t Bool where
 sz:=1
 bnd:=0
 rep:=repBool
 cells:=hc
 len:=by rintro _ _ _ rfl;rfl
 one:=by rintro _ _ _ rfl;rfl
 keep:=fun _ _ h=>h
 read:=by
  intro D enc C m h W fuel cs d r hd
  obtain ⟨n,rfl,_⟩:=DataW.trod_bool ht hd
  exact ⟨n,[.bool n],m,h,r,More.refl _ _,rfl,rfl,_,_,rfl,rfl,rfl⟩
def Rd.str (ht:P.underlying t=some .string) (hc:P.cellsOf t=1):Rd P t (List UInt8) where
 sz:=1
 bnd:=0
 rep:=repStr
 cells:=hc
 len:=by rintro _ _ _ ⟨rfl,_⟩;rfl
 one:=by rintro _ _ _ ⟨rfl,_⟩;rfl
 keep:=fun _ _ h=>h
 read:=by
  intro D enc C m h W fuel cs d r hd
  obtain ⟨⟨⟨s⟩⟩,rfl,_,hw⟩:=DataW.trod_string ht hd
  have hs:s.length<=2 ^ 63:=by
   have:s.length<=maxLen:=by simpa [ByteArray.size] using hw
   unfold maxLen at this;omega
  exact ⟨s,[.str s],m,h,r,More.refl _ _,rfl,⟨rfl,hs⟩,_,_,rfl,rfl,rfl⟩
structure RdF (P:Program) (fs:List Field) (o:Nat) (α : Type) where
 sz:Nat
 bnd:Nat
 rep:H -> α -> List V->Prop
 len : ∀ {h x vs},rep h x vs->vs.length=sz
 one : ∀ {h x vs},rep h x vs->vs.all V.one=true
 keep : ∀ {h h' x vs},h.nx<=h'.nx->(∀ b,b<h.nx->h'.get b=h.get b)->rep h x vs->rep h' x vs
 read : ∀ {D:Type} {enc:TypeId × Value->D} {C:Cx} {m:Mp} {h:H} {W:World} {fuel:Nat} {cs:List Value} {xs:List (DataW D × List MemPlace)},RoMem P C m h W->cs.length=o+sz ->
  (∀ (i:Nat) (f:Field),fs[i]?=some f->DataW.trod enc P W 0 (fun _=>true) true fuel f.type ((cs.drop f.offset).take (P.cellsOf f.type))=xs[i]?)->xs.length=fs.length ->
  ∃ x vs m' h',RoMem P C m' h' W/\More m h m' h'/\h'.nx=h.nx+bnd/\rep h' x vs/\jah m' vs (cs.drop o)
def RdF.nil {o:Nat} : RdF P [] o Unit where
 sz:=0
 bnd:=0
 rep:=repNil
 len:=by rintro _ _ _ rfl;rfl
 one:=by rintro _ _ _ rfl;rfl
 keep:=fun _ _ h=>h
 read:=by
  intro D enc C m h W fuel cs xs r hl _ _
  exact ⟨(),[],m,h,r,More.refl _ _,rfl,rfl,by rw [List.drop_eq_nil_of_le om];rfl⟩
def RdF.cons {α β : Type} {f:Field} {fs:List Field} {o:Nat} (a:Rd P f.type α) (hf:f.offset=o) (b:RdF P fs (o+a.sz) β):RdF P (f :: fs) o (α × β) where
 sz:=a.sz+b.sz
 bnd:=a.bnd+b.bnd
 rep:=repCons a.rep b.rep
 len:=by rintro _ _ _ ⟨u,w,rfl,h1,h2⟩;rw [ze,a.len h1,b.len h2]
 one:=by rintro _ _ _ ⟨u,w,rfl,h1,h2⟩;rw [List.all_append,a.one h1,b.one h2];rfl
 keep:=by rintro _ _ _ _ hx hg ⟨u,w,e,h1,h2⟩;exact ⟨u,w,e,a.keep hx hg h1,b.keep hx hg h2⟩
 read:=by
  intro D enc C m h W fuel cs xs r hl hx hlen
  have h0:=hx 0 f rfl
  have:0<xs.length:=by rw [hlen];simp
  rw [za this,hf,a.cells] at h0
  obtain ⟨x,vs,m1,h1,r1,q1,n1,p1,v1⟩:=a.read r h0
  obtain ⟨y,ws,m2,h2,r2,q2,n2,p2,v2⟩:=b.read (cs:=cs) (xs:=xs.tail) r1 om (fun i f' hi=>by
   have:=hx (i+1) f' (by simpa using hi)
   rw [this];cases xs<;>simp) (by simp [hlen])
  refine ⟨(x,y),vs++ws,m2,h2,r2,q1.trans q2,by omega,⟨vs,ws,rfl,a.keep q2.nx (fun j hj=>q2.get j hj) p1,p2⟩,?_⟩
  have e:cs.drop o=(cs.drop o).take a.sz++cs.drop (o+a.sz):=by
   rw [<- List.drop_drop,List.take_append_drop]
  rw [e]
  exact (v1.mono q2.mono).append v2
def Rd.st {α : Type} {fs:Array Field} (ht:P.underlying t=some (.struct fs)) (a:RdF P fs.toList 0 α) (hc:P.cellsOf t=a.sz):Rd P t α where
 sz:=a.sz
 bnd:=a.bnd
 rep:=a.rep
 cells:=hc
 len:=a.len
 one:=a.one
 keep:=a.keep
 read:=by
  intro D enc C m h W fuel cs d r hd
  obtain ⟨xs,n,_,_,hl,hlen,hf⟩:=DataW.trod_struct ht hd
  obtain ⟨x,vs,m',h',q⟩:=a.read (fuel:=n) (xs:=xs) r om (fun i f hi=>hf i f (by simpa using hi)) (by simpa using hlen)
  exact ⟨x,vs,m',h',by simpa using q⟩
def Rd.slice {α : Type} {e:TypeId} (B:Nat) (a:Rd P e α) (ht:P.underlying t=some (.slice e)) (hc:P.cellsOf t=1) (hp:0<a.sz):Rd P t (List α) where
 sz:=1
 bnd:=B*a.bnd+1
 rep:=repSlice B a.rep
 cells:=hc
 len:=by rintro _ _ _ ⟨_,_,rfl,_⟩;rfl
 one:=by rintro _ _ _ ⟨_,_,rfl,_⟩;rfl
 keep:=by
  rintro h h' l vs hx hg ⟨ad,c,e,h1,h5⟩
  refine ⟨ad,c,e,fun hB hn=>?_,h5⟩
  obtain ⟨b,cs,e1,h2,h3,h4⟩:=h1 hB hn
  exact ⟨b,cs,e1,by omega,by rw [hg b h2,h3],jaF.mono (fun k=>a.keep hx hg k) h4⟩
 read:=by
  intro D enc C m h W fuel cs d r hd
  rcases DataW.trod_slice ht hd with ⟨rfl,_⟩ | ⟨ad,len,cap,elems,rest,n,_,rfl,_,_,hl,_,hlen,hel,hsp,_⟩
  ·exact ⟨[],_,m,h.reserve (B*a.bnd+1),r.reserve _,More.reserve _,by simp,⟨none,0,rfl,fun _ hn=>zw rfl hn,zn _,fun _=>⟨rfl,rfl⟩⟩,_,_,rfl,⟨rfl,rfl,rfl⟩,rfl⟩
  obtain ⟨hrl,hr⟩:=hsp rfl
  have hex : ∀ i,i<cap -> ∃ xs y,W.cells? 0 (ad.add (i*P.cellsOf e)) (P.cellsOf e)=some xs/\DataW.trod enc P W 0 (fun _=>true) true n e xs=some y:=by
   intro i hi
   by_cases hil:i<len
   ·have:=hel i hil
    rw [za om,Option.bind_eq_some_iff] at this
    obtain ⟨xs,h1,h2⟩:=this
    exact ⟨xs,_,h1,h2⟩
   ·have:=hr (i-len) om
    rw [show len+(i-len)=i by omega,za om,Option.bind_eq_some_iff] at this
    obtain ⟨xs,h1,h2⟩:=this
    exact ⟨xs,_,h1,h2⟩
  have hspot:cap≠0->ad=⟨ad.block,ad.off,none⟩:=by
   intro hc0
   obtain ⟨xs,y,h1,_⟩:=hex 0 om
   rw [Nat.zero_mul] at h1
   exact jkZ h1 (by rw [a.cells];exact hp)
  by_cases hB:len<=B
  case neg=>
   obtain ⟨l,hll,_⟩:=jlS (α := α) (R:=fun _ _=>True) len fun i hi=>by
    obtain ⟨xs,y,_,h2⟩:=hex i om
    obtain ⟨x,_⟩:=a.read r h2
    exact ⟨x,trivial⟩
   have hm:=r.more_name ⟨ad.block,ad.off,0⟩
   refine ⟨l,[.slice (some (h.nx,0)) l.length (.fix cap)],_,(h.reserve 1).reserve (B*a.bnd),(r.name ⟨ad.block,ad.off,0⟩).reserve _,hm.trans (More.reserve _),by simp;omega,⟨some (h.nx,0),cap,rfl,fun h1=>zw h1 om,by omega,fun e=>by cases e⟩,_,_,rfl,
    ⟨_,ad,cap,zJ _ _,by rw [hll],by omega,hspot,fun k hk=>by cases hk;rfl,fun q hq=>(by cases hq),fun _ _ e=>(by cases e)⟩,rfl⟩
  case pos=>
   have go : ∀ k,k<=len -> ∃ l vs m' h',RoMem P C m' h' W/\More m h m' h'/\h'.nx=h.nx+k*a.bnd/\l.length=k/\jaF a.rep h' l vs /\
     (∀ j v,vs[j]?=some v -> ∃ x,W.cell? ⟨ad.block,ad.off+j,none⟩=some x/\VRel m' v x):=by
    intro k
    induction k with
    | zero=>intro _;exact ⟨[],[],m,h,r,More.refl _ _,by simp,rfl,rfl,fun j v hv=>by simp at hv⟩
    | succ k ih=>
     intro hk
     obtain ⟨l,vs,m1,h1,r1,q1,n1,e1,p1,c1⟩:=ih om
     obtain ⟨xs,y,hx1,hx2⟩:=hex k om
     obtain ⟨x,ws,m2,h2,r2,q2,n2,p2,v2⟩:=a.read r1 hx2
     obtain ⟨_,hxl,hxc⟩:=World.cells?_some hx1
     have hvl:vs.length=k*a.sz:=by rw [jaF.length a.len p1,e1]
     refine ⟨l++[x],vs++ws,m2,h2,r2,q1.trans q2,by rw [n2,n1,Nat.add_mul];omega,by simp [e1],jaF.snoc (jaF.mono (fun k=>a.keep q2.nx (fun j hj=>q2.get j hj) k) p1) p2,fun j v hv=>?_⟩
     rw [zd] at hv
     split at hv
     ·obtain ⟨z,hz1,hz2⟩:=c1 j v hv
      exact ⟨z,hz1,hz2.mono q2.mono⟩
     ·next hj=>
      obtain ⟨z,hz1,hz2⟩:=v2.get hv
      refine ⟨z,?_,hz2⟩
      have hjl:j-vs.length<xs.length:=by
       rcases zr (j-vs.length) xs.length with h | h
       ·exact h
       ·rw [zc h] at hz1;cases hz1
      have:=hxc (j-vs.length) (by rw [<- hxl];exact hjl)
      rw [hz1] at this
      rw [<- this,hspot om]
      simp only [jbf,a.cells]
      congr 2
      omega
   obtain ⟨l,vs,m1,h1,r1,q1,n1,e1,p1,c1⟩:=go len (zn _)
   by_cases h0:len=0
   ·
    subst h0
    have hl0:l=[]:=zl.1 e1
    subst hl0
    have hm:=r1.more_name ⟨ad.block,ad.off,0⟩
    refine ⟨[],[.slice (some (h1.nx,0)) 0 (.fix cap)],_,(h1.reserve 1).reserve (B*a.bnd),(r1.name ⟨ad.block,ad.off,0⟩).reserve _,(q1.trans hm).trans (More.reserve _),by simp [n1];omega,⟨some (h1.nx,0),cap,rfl,fun _ hn=>zw rfl hn,Nat.zero_le _,fun e=>by cases e⟩,_,_,rfl,
     ⟨_,ad,cap,zJ _ _,rfl,by omega,hspot,fun k hk=>by cases hk;rfl,fun q hq=>(by cases hq),fun _ _ e=>(by cases e)⟩,rfl⟩
   ·have hvl:vs.length=len*a.sz:=by rw [jaF.length a.len p1,e1]
    have hpos:0<vs.length:=by rw [hvl];exact Nat.mul_pos om hp
    obtain ⟨x0,hx0,_⟩:=c1 0 _ (za hpos)
    obtain ⟨c,el,fz,hheap,_⟩:=jla hx0
    have hcell : ∀ k,W.cell? ⟨ad.block,k,none⟩=c[k]?:=fun k=>by simp [World.cell?,hheap]
    have hsize:ad.off+len*a.sz<=c.size:=by
     obtain ⟨x1,hx1,_⟩:=c1 (vs.length-1) _ (za om)
     rw [hcell] at hx1
     rcases zr (ad.off+(vs.length-1)) c.size with h | h
     ·omega
     ·rw [zD h] at hx1;cases hx1
    have hmul:len*a.bnd<=B*a.bnd:=Nat.mul_le_mul_right _ hB
    have hm:=r1.more_add ⟨ad.block,ad.off,len*a.sz⟩ vs
    have hadd:=r1.add (l:=vs) (loc:=⟨ad.block,ad.off,len*a.sz⟩) hheap (by rw [hvl];exact zn _) hsize (fun k v hk=>by
     obtain ⟨x,q1,q2⟩:=c1 k v hk
     exact ⟨x,by rw [<- hcell];exact q1,q2⟩)
    refine ⟨l,[.slice (some (h1.nx,0)) l.length (.fix cap)],_,(h1.new (.cells vs true)).reserve (B*a.bnd-len*a.bnd),hadd.reserve _,(q1.trans hm).trans (More.reserve _),by simp [n1];omega,
     ⟨some (h1.nx,0),cap,rfl,fun _ _=>⟨h1.nx,vs,rfl,by simp;omega,jbG _,jaF.mono (fun k=>a.keep (h':=(h1.new (.cells vs true)).reserve (B*a.bnd-len*a.bnd)) Za (fun j hj=>jaZ hj) k) p1⟩,by omega,fun e=>by cases e⟩,_,_,rfl,
     ⟨_,ad,cap,zJ _ _,by rw [e1],by omega,hspot,fun k hk=>by cases hk;rfl,fun q hq=>(by cases hq),fun _ _ e=>(by cases e)⟩,rfl⟩
end
end Am
