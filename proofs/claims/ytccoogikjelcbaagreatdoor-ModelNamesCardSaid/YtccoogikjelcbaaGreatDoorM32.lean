/- Our own library, part 32. -/
import Derived.OpenShut
import Derived.Test.YtccoogikjelcbaaGreatDoorM31
set_option maxHeartbeats 8000000
set_option maxRecDepth 800
set_option linter.all false
namespace Am
open Go Go.ChangeShapes Go.WideShapes Go.ChangeAt Go.RowKit
structure Fl (P:Program) (t:TypeId) where
 f:DataW Unit->Option (List V)
 ok : ∀ {W:World} {fuel:Nat} {cs:List Value} {d:DataW Unit} {p:List MemPlace} {l:List V} (m:Mp),DataW.trod (fun _=>()) P W 0 (fun _=>true) false fuel t cs=some (d,p)->f d=some l->jah m l cs
section
variable {P:Program} {t e:TypeId}
def Fl.int (k:IntKind) (ht:P.underlying t=some (.int k)):Fl P t where
 f:=fun
  | .lit (.int k' n)=>some [.int k' n]
  | _=>none
 ok:=by
  intro W fuel cs d p l m h hl
  obtain ⟨n,rfl,hx,_⟩:=DataW.trod_int ht h
  cases hx;cases hl
  exact ⟨_,_,rfl,rfl,rfl⟩
def Fl.str (ht:P.underlying t=some .string):Fl P t where
 f:=fun
  | .lit (.string s)=>some [.str s]
  | _=>none
 ok:=by
  intro W fuel cs d p l m h hl
  obtain ⟨⟨⟨s⟩⟩,rfl,hx,_⟩:=DataW.trod_string ht h
  cases hx;cases hl
  exact ⟨_,_,rfl,rfl,rfl⟩
theorem trod_ifc {ms:Array (String × TypeId)} {W:World} {fuel:Nat} {cs:List Value} {x:DataW Unit × List MemPlace} (ht:P.underlying t=some (.interface ms)) (h:DataW.trod (fun _=>()) P W 0 (fun _=>true) false fuel t cs=some x) :
  (cs=[.nilIface]/\x=(.nil,[])) \/ ∃ u v nm y,cs=[.iface u v]/\x.1 = .iface nm y:=by
 cases fuel with
 | zero=>simp [DataW.trod] at h
 | succ n=>
  unfold DataW.trod at h
  rw [ht] at h
  split at h<;>simp_all
  split at h
  ·simp_all
  ·simp only [Option.map_eq_some_iff] at h
   obtain ⟨y,_,rfl⟩:=h
   exact ⟨_,_,rfl⟩
  ·cases h
def Fl.ifc {ms:Array (String × TypeId)} (ht:P.underlying t=some (.interface ms)):Fl P t where
 f:=fun
  | .iface _ _=>some [.ifc]
  | .nil=>some [.nili]
  | _=>none
 ok:=by
  intro W fuel cs d p l m h hl
  rcases trod_ifc ht h with ⟨rfl,hx⟩ | ⟨u,v,nm,y,rfl,hx⟩
  ·cases hx;cases hl
   exact ⟨_,_,rfl,rfl,rfl⟩
  ·obtain rfl:d=_:=hx
   cases hl
   exact ⟨_,_,rfl,⟨_,_,rfl⟩,rfl⟩
def jgD (f:DataW Unit->Option (List V)):List (DataW Unit)->Option (List V)
 | []=>some []
 | d :: r=>match f d,jgD f r with
  | some x,some y=>some (x++y)
  | _,_=>none
theorem jmf (a:Fl P e) {W:World} {fuel sz:Nat} (m:Mp) : ∀ (xs:List (DataW Unit × List MemPlace)) (cs:List Value) (l:List V),cs.length=xs.length*sz ->
  (∀ i,i<xs.length->DataW.trod (fun _=>()) P W 0 (fun _=>true) false fuel e ((cs.drop (i*sz)).take sz)=xs[i]?)->jgD a.f (xs.map (·.1))=some l->jah m l cs
 | [],cs,l,hl,_,h=>by
  cases h
  have:cs=[]:=zl.1 (by simpa using hl)
  subst this;rfl
 | x :: xs,cs,l,hl,hx,h=>by
  simp only [List.map_cons,jgD] at h
  split at h
  ·next u w h1 h2=>
   cases h
   have h0:=hx 0 Zb
   rw [Nat.zero_mul,zi] at h0
   have r1:=a.ok (d:=x.1) (p:=x.2) m h0 h1
   have r2:=jmf (sz:=sz) a m xs (cs.drop sz) w (by simp [hl,Nat.add_mul]) (fun i hi=>by
    have:=hx (i+1) Za
    rw [List.drop_drop]
    rw [show sz+i*sz=(i+1)*sz by rw [Nat.add_mul];omega]
    simpa using this) h2
   have:=r1.append r2
   rwa [List.take_append_drop] at this
  ·cases h
def Fl.arr (n sz:Nat) (a:Fl P e) (ht:P.underlying t=some (.array n e)) (hc:P.cellsOf t=n*sz) (he:P.cellsOf e=sz):Fl P t where
 f:=fun
  | .agg ps=>jgD a.f ps
  | _=>none
 ok:=by
  intro W fuel cs d p l m h hl
  obtain ⟨xs,m1,_,hx,hlen,hn,hel⟩:=DataW.trod_array ht h
  cases hx
  exact jmf (sz:=sz) a m xs cs l (by rw [hlen,hc,hn]) (fun i hi=>by rw [<- he];exact hel i om) hl
theorem var_block {P:Program} {W:World} {n:String} {g:Nat} {cs:Array Value} (hg:P.globalNamed n=some g) (h:W.var? P n=some cs) : ∃ el fz,W.heap[g]?=some (.cells cs el fz):=by
 unfold World.var? at h
 rw [hg] at h
 simp only [Option.bind_some] at h
 split at h
 ·next c el fz hb=>cases h;exact ⟨el,fz,hb⟩
 ·cases h
theorem ro0 {C:Cx} {W:World} (n:Nat):RoMem P C m0 ⟨n,.lf⟩ W :=
 ⟨⟨fun b o hb=>(by cases hb),fun b b' o o' l l' hb=>(by cases hb),fun b l hb=>(by cases hb)⟩,fun b o hb=>(by cases hb),fun b _=>rfl⟩
theorem RoMem.var {C:Cx} {m:Mp} {h:H} {W:World} (r:RoMem P C m h W) {g:Nat} (hid:m g=none) (hlt:g<h.nx) (a:Fl P t) {n:String} {cs:Array Value} {fuel:Nat} {d:DataW Unit} {p:List MemPlace} {l:List V}
  (hg:P.globalNamed n=some g) (hv:W.var? P n=some cs) (hd:DataW.trod (fun _=>()) P W 0 (fun _=>true) false fuel t cs.toList=some (d,p)) (hl:a.f d=some l) :
  RoMem P C (m.add g ⟨g,0,cs.size⟩) (h.set g (.cells l true)) W:=by
 obtain ⟨el,fz,hb⟩:=var_block hg hv
 have hr:=a.ok m hd hl
 have hlen:=hr.length
 refine r.put hid (fun j=>H.get_set h g j _) Zb (by simpa using hlt) hb (by rw [hlen];simp) Zb fun k v hk=>?_
 obtain ⟨x,h1,h2⟩:=hr.get hk
 exact ⟨x,by simpa using h1,h2⟩
theorem Rd.args {α : Type} (a:Rd P t α) {D:Type} {enc:TypeId × Value->D} {C:Cx} {m:Mp} {h:H} {W:World} {v:Value} {d:DataW D} {p:List MemPlace} {fs:Array Field} {r0:Reach} {b0:Nat} (r:RoMem P C m h W) (ht:P.underlying t=some (.struct fs))
  (hval:Value.okWide P W r0 b0 t v) (hd:DataW.Trod enc P W 0 (fun _=>true) true t v d p) : ∃ x vs m' h',RoMem P C m' h' W/\More m h m' h'/\h'.nx=h.nx+a.bnd/\a.rep h' x vs/\VRel m' (.agg vs) v:=by
 obtain ⟨cs,rfl,_⟩:=okWide_struct ht hval
 obtain ⟨fuel,hf⟩:=hd
 obtain ⟨x,vs,m',h',q1,q2,q3,q4,q5⟩:=a.read r hf
 exact ⟨x,vs,m',h',q1,q2,q3,q4,cs,rfl,q5⟩
end
theorem args_nil {D:Type} {enc:TypeId × Value->D} {P:Program} {W:World} {b:Nat} {sp:Nat->Bool} {hd:Bool} {vs:List Value} {ds:List (DataW D)} {ps:List MemPlace} (h:DataW.TrodAll enc P W b sp hd [] vs ds ps):vs=[]/\ds=[]/\ps=[]:=by
 cases vs<;>cases ds<;>simp_all [DataW.TrodAll]
end Am
