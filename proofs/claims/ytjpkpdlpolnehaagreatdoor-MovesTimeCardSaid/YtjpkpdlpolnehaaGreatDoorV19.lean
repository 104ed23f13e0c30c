/- Our own library, part 19. -/
import Derived.Test.YtjpkpdlpolnehaaGreatDoorV18
import Derived.Test.YtjpkpdlpolnehaaGreatDoorV17
import Derived.Test.YtjpkpdlpolnehaaGreatDoorV15
import Derived.Test.YtjpkpdlpolnehaaGreatDoorV14
import Derived.Test.YtjpkpdlpolnehaaGreatDoorV16
set_option maxHeartbeats 8000000
set_option maxRecDepth 800
set_option linter.all false
namespace Am.Sigs
open Am Go
theorem SpX.one {h:H} {P Q:Nat->Prop} {x:SpX} (a:StepAt h P Q x):(SpX.V x).all V.one=true:=by
 obtain ⟨⟨⟨_,_,e1,_⟩,_⟩,⟨_,_,e2,_⟩,_,_,_⟩:=a
 show [V.int .u64 x.t,.bool x.intr,x.ov,x.mv].all V.one=true
 rw [e1,e2]
 rfl
theorem At4.of_row {α : Type} {f : α -> List V} (hf : ∀ x,(f x).length=4) {N:Nat} {h:H} {v:V} {l:List α} (r:Row N h 4 v l.length (l.map f).flatten):At4 h (N <= ·) f v l:=by
 rcases r with ⟨h0,_,rfl⟩ | ⟨q,h1,h2,rfl,h4,h5⟩
 ·obtain rfl:=zm.1 h0
  exact At4.nil
 ·exact ⟨_,_,rfl,fun e=>(by cases e),rfl,fun _=>⟨q,0,_,false,rfl,h2,h1,h4,fun i x hi=>by rw [zN];exact jbG hf hi⟩⟩
def Wr (N M:Nat) (h:H) (v:V):Prop := ∀ z,v.at?=some z->N<=z/\z<M /\ ∃ cs,h.get z=some (.cells cs false)
def SpX.few (x:SpX):Prop:=x.ml.length<=1000/\x.ol.length<=1000 /\ ∀ m∈x.ml,m.m.D.length<=2000
section
variable {cl:Nat->Call} (hcl:Sem cl)
include hcl
theorem jjt {d:Nat} {h:H} {P Q:Nat->Prop} {v:V} {l:List SpX} (hd:3<=d) (a:jex h P Q v l) (hl:l.length<=2000) (hf : ∀ x∈l,x.few) :
  ∃ v' l' h',cl d (.fn 17) [v] h=some (v',h')/\l'.map SpX.sp=l.map SpX.sp/\At4 h' (h.nx <= ·) SpX.V v' l'/\(∀ x∈l',StepAt h' (fun z=>h.nx<=z/\V.at? v'≠some z) (fun z=>h.nx<=z/\V.at? v'≠some z) x)/\Wr h.nx h'.nx h' v'/\Old h h':=by
 suffices q : ∃ w h',cl d (.fn 17) [v] h=some (w,h') /\ ∃ l',l'.map SpX.sp=l.map SpX.sp/\At4 h' (h.nx <= ·) SpX.V w l'/\(∀ x∈l',StepAt h' (fun z=>h.nx<=z/\V.at? w≠some z) (fun z=>h.nx<=z/\V.at? w≠some z) x)/\Wr h.nx h'.nx h' w/\Old h h' by
  obtain ⟨v',h',e,l',q⟩:=q;exact ⟨v',l',h',e,q⟩
 obtain ⟨⟨ad,c,rfl,_,_,hb⟩,hs⟩:=a
 refine aT hcl ?_
 refine qx ?_
 refine Zl (fun m e g=>∃ (i:Nat) (acc:V) (out:List SpX),m=l.length-i/\i<=l.length/\e=[(3,acc),(6,.slice ad l.length c),(7,.i (l.length:Int)),(8,.i (i:Int))]/\out.map SpX.sp=(l.take i).map SpX.sp/\Row h.nx g 4 acc i (out.map SpX.V).flatten/\(∀ x∈out,StepAt g (fun z=>h.nx<=z/\acc.at?≠some z) (fun z=>h.nx<=z/\acc.at?≠some z) x)/\Old h g)
  (k:=l.length) Ze ⟨0,.nils,[],rfl,by omega,rfl,rfl,Row.nil _ _ _,(fun x hx=>by cases hx),Zn _⟩ ?_
 rintro _ _ g ⟨i,acc,out,rfl,hi,rfl,ho,row,hso,og⟩ n' ih
 by_cases hlt:(i:Int)<l.length
 case neg=>
  obtain rfl:i=l.length:=by omega
  rw [List.take_length] at ho
  have hol:out.length=l.length:=by have:=congrArg List.length ho;simpa using this
  rw [<- hol] at row
  have hfin:At4 g (h.nx <= ·) SpX.V acc out:=At4.of_row (fun _=>rfl) row
  have hw:Wr h.nx g.nx g acc:=fun z hz=>by
   rcases row with ⟨_,_,rfl⟩ | ⟨q,k1,k2,rfl,h4,_⟩
   ·cases hz
   ·cases hz;exact ⟨k1,k2,_,h4⟩
  clear ih hb hs row
  refine qx ?_
  exact ⟨out,ho,hfin,hso,hw,og⟩
 obtain ⟨x,hx⟩:=jfa (l:=l) (i:=i) om
 obtain ⟨b,oo,cs,ro,rfl,lb,_,gb,hc⟩:=hb (by intro e;rw [e] at hx;simp at hx)
 have gb1:g.get b=some (.cells cs ro):=by rw [og.2 b lb,gb]
 have h4:(cs.drop (oo+(i:Int).toNat*4)).take 4=x.V:=by rw [zt];exact hc i x hx
 have hlen:=jfP h4 rfl
 have hxm:=zc hx
 have og1:Old g ((g.new (.cells [.int .u64 0,.bool false,.nils,.nils] false)).set g.nx (.cells x.V false)):=(Zn g).new.set (zp _)
 have gx1:((g.new (.cells [.int .u64 0,.bool false,.nils,.nils] false)).set g.nx (.cells x.V false)).get g.nx=some (.cells x.V false):=jab _
 have gn1:((g.new (.cells [.int .u64 0,.bool false,.nils,.nils] false)).set g.nx (.cells x.V false)).nx=g.nx+1:=rfl
 obtain ⟨y,g2,e2,hy,sy,o2⟩:=wm_twin hcl (d:=d-1) om ((hs x hxm).old (og.trans og1)) (hf x hxm).1 (hf x hxm).2.1 (hf x hxm).2.2
 have hone:=SpX.one (hs x hxm)
 have hi1:(i:Int)+1=((i+1:Nat):Int):=by omega
 have hat : ∀ z,acc.at?=some z->h.nx<=z/\z<g.nx:=fun z hz=>row.at_ge hz
 have row2:Row h.nx g2 4 acc i (out.map SpX.V).flatten:=row.keep (by have:=o2.1;omega) fun z hz=>by rw [o2.2 z (by have:=hat z hz;omega),og1.2 z (hat z hz).2]
 have ognx:=og.1
 clear hb hs hc
 refine qm ?_
 refine zcw rfl gb1 hlen ?_
 rw [h4]
 refine qm ?_
 refine zct (o:=0) (vs:=x.V) rfl rfl rfl hone (jac _) Zd ?_
 rw [show jay ([.int .u64 0,.bool false,.nils,.nils]:List V) 0 x.V=x.V from rfl]
 generalize (g.new (.cells [.int .u64 0,.bool false,.nils,.nils] false)).set g.nx (.cells x.V false)=G1 at og1 gx1 gn1 e2 o2 sy
 have o2x:=o2.1
 have hto:(l.take (i+1)).map SpX.sp=(l.take i).map SpX.sp++[x.sp]:=by rw [List.take_add_one,hx];simp
 have sy1:=SpX.one sy
 refine qx ?_
 refine zcw (n:=4) rfl gx1 Zd ?_
 rw [show ((SpX.V x).drop 0).take 4=x.V from rfl]
 refine qx ?_
 refine Ops.push (sz:=4) (bytes:=64) (N:=h.nx) (new:=SpX.V y) rfl rfl rfl sy1 om rfl rfl row2 om om om fun v' g3 row' x3 z3 k3=>?_
 refine qm ?_
 rw [hi1]
 refine ih (l.length-(i+1)) om _ _ ⟨i+1,v',out++[y],rfl,by omega,rfl,by rw [hto,List.map_append,ho,<- hy];rfl,by rw [List.map_append,List.flatten_append];simpa using row',fun w hw=>?_,by omega,fun j hj=>by rw [k3 j om fun e=>(by have:=hat j e;omega),o2.2 j om,og1.2 j om,og.2 j hj]⟩
 ·have kz : ∀ z,v'.at?=some z->g2.nx<=z:=z3
  rcases zM.1 hw with hw | hw
  ·have kp : ∀ z,z<g.nx->(h.nx<=z/\acc.at?≠some z)->g3.get z=g.get z/\(h.nx<=z/\v'.at?≠some z):=fun z hz hp=>⟨by rw [k3 z om hp.2,o2.2 z om,og1.2 z hz],hp.1,fun e=>by have:=kz z e;omega⟩
   exact (hso w hw).keep om kp kp
  ·obtain rfl:w=y:=by simpa using hw
   have kp : ∀ z,z<g2.nx->G1.nx<=z->g3.get z=g2.get z/\(h.nx<=z/\v'.at?≠some z):=fun z hz hp=>⟨k3 z hz fun e=>by have:=hat z e;omega,by omega,fun e=>by have:=kz z e;omega⟩
   exact sy.keep x3 kp kp
theorem wm_New {d:Nat} {h:H} {P Q:Nat->Prop} {v:V} {l:List SpX} (hd:16<=d) (a:jex h P Q v l) (hl:l.length<=2000) (hf : ∀ x∈l,x.few) (hm : ∀ x∈l,x.sp.may) :
  ∃ sb v' l' h',cl d (.fn 6) [v] h=some (.tup [.p sb 0,.i 0],h')/\l'.map SpX.sp=l.map SpX.sp/\At4 h' (fun z=>h.nx<=z/\z≠sb) SpX.V v' l'/\(∀ x∈l',StepAt h' (fun z=>(h.nx<=z/\z≠sb)/\v'.at?≠some z) (fun z=>(h.nx<=z/\z≠sb)/\v'.at?≠some z) x)/\h'.get sb=some (.cells [v',.nils] false)/\Wr h.nx sb h' v'/\h.nx<=sb/\sb<h'.nx/\Old h h':=by
 suffices q : ∃ w h',cl d (.fn 6) [v] h=some (w,h') /\ ∃ sb v' l',w = .tup [.p sb 0,.i 0]/\l'.map SpX.sp=l.map SpX.sp/\At4 h' (fun z=>h.nx<=z/\z≠sb) SpX.V v' l'/\(∀ x∈l',StepAt h' (fun z=>(h.nx<=z/\z≠sb)/\v'.at?≠some z) (fun z=>(h.nx<=z/\z≠sb)/\v'.at?≠some z) x)/\h'.get sb=some (.cells [v',.nils] false)/\Wr h.nx sb h' v'/\h.nx<=sb/\sb<h'.nx/\Old h h' by
  obtain ⟨_,h',e,sb,v',l',rfl,q⟩:=q;exact ⟨sb,v',l',h',e,q⟩
 obtain ⟨h1,e1,o1⟩:=jlY hcl (d:=d-1) om a hl
 rw [zF hm] at e1
 obtain ⟨v',l',h2,e2,hs,a2,s2,hw,o2⟩:=jjt hcl (d:=d-1) om (a.old o1) hl hf
 obtain ⟨ad,c,rfl,_⟩:=id a2
 have o3:Old h2 (h2.new (.cells [.slice ad l'.length c,.nils] false)):=(Zn h2).new
 have x1:=o1.1
 have x2:=o2.1
 refine aT hcl ?_
 clear a
 refine qm ?_
 have kp : ∀ z,z<h2.nx->h1.nx<=z->(h2.new (.cells [.slice ad l'.length c,.nils] false)).get z=h2.get z/\(h.nx<=z/\z≠h2.nx):=fun z hz hp=>⟨o3.2 z hz,by omega,by omega⟩
 refine ⟨h2.nx,_,l',rfl,hs,a2.keep o3.1 kp,fun x hx=>(s2 x hx).keep o3.1 (fun z hz hp=>⟨(kp z hz hp.1).1,(kp z hz hp.1).2,hp.2⟩) fun z hz hp=>⟨(kp z hz hp.1).1,(kp z hz hp.1).2,hp.2⟩,jac _,fun z hz=>?_,by omega,by simp,(o1.trans o2).trans o3⟩
 obtain ⟨k1,k2,cs,e⟩:=hw z hz
 exact ⟨by omega,k2,cs,by rw [jad k2,e]⟩
theorem jhw {d:Nat} {h:H} {P Q:Nat->Prop} {v:V} {l:List SpX} (hd:16<=d) (a:jex h P Q v l) (hl:l.length<=2000) (hm : ¬ ∀ x∈l,x.sp.may) :
  ∃ h',cl d (.fn 6) [v] h=some (.tup [.ptr none,.i 120],h')/\Old h h':=by
 obtain ⟨h1,e1,o1⟩:=jlY hcl (d:=d-1) om a hl
 rw [zD hm] at e1
 refine jak (aT hcl ?_)
 clear a
 refine qm ?_
 exact ⟨rfl,o1⟩
end
structure Fs (h h':H) (ow:Nat->Nat) (ro:Nat->Prop) (ow':Nat->Nat) (ro' S:Nat->Prop):Prop where
 ch:Ch (fun j=>ow j≠0\/ro j\/S j) h h'
 tag : ∀ j,j<h.nx->ow' j=ow j
 rtag : ∀ j,j<h.nx->(ro' j↔ro j)
theorem Fs.refl {h:H} {ow:Nat->Nat} {ro S:Nat->Prop} : Fs h h ow ro ow ro S:=⟨Ch.refl _ _,fun _ _=>rfl,fun _ _=>Iff.rfl⟩
theorem Fs.trans {h h1 h2:H} {a b c:Nat->Nat} {x y z S T:Nat->Prop} (f:Fs h h1 a x b y S) (g:Fs h1 h2 b y c z T) (hT : ∀ j,j<h.nx->T j->S j):Fs h h2 a x c z S :=
 ⟨f.ch.trans_new g.ch fun j hj hb=>by
  rw [f.tag j hj,f.rtag j hj] at hb
  exact hb.imp id fun hb=>hb.imp id (hT j hj),
  fun j hj=>by rw [g.tag j (zq hj f.ch.nx),f.tag j hj],fun j hj=>(g.rtag j (zq hj f.ch.nx)).trans (f.rtag j hj)⟩
theorem Fs.of_fm {h h1:H} {a b:Nat->Nat} {x y S:Nat->Prop} (f:Fm h h1 a x b y):Fs h h1 a x b y S:=⟨f.ch.weaken fun _ _ hb=>hb.elim .inl fun hb=>.inr (.inl hb),f.tag,f.rtag⟩
theorem Fs.old {h h1:H} {ow:Nat->Nat} {ro S:Nat->Prop} (o:Old h h1):Fs h h1 ow ro ow ro S := .of_fm (Fm.old o)
theorem Fs.set {h:H} {ow:Nat->Nat} {ro S:Nat->Prop} {b:Nat} {ob:Obj} (hS:S b):Fs h (h.set b ob) ow ro ow ro S:=⟨Ch.set (.inr (.inr hS)),fun _ _=>rfl,fun _ _=>Iff.rfl⟩
def PB (ow:Nat->Nat) (ro:Nat->Prop) (s z:Nat):Prop:=ow z=0 /\ ¬ ro z/\z≠s
theorem Fs.pb {h h':H} {a b:Nat->Nat} {x y:Nat->Prop} {s z:Nat} (f:Fs h h' a x b y (· = s)) (hz:z<h.nx) (p:PB a x s z):h'.get z=h.get z/\PB b y s z :=
 ⟨f.ch.get z hz fun e=>e.elim (fun e=>e p.1) fun e=>e.elim p.2.1 p.2.2,by rw [f.tag z hz];exact p.1,fun e=>p.2.1 ((f.rtag z hz).1 e),p.2.2⟩
theorem jf1 : ∀ {l:List Mv} {m:Mv} {st:St},mvsS (l++[m]) st=(mvS m (mvsS l st)).2
 | [],_,_=>rfl
 | _ :: l,m,st=>by
  show mvsS (l++[m]) _=_
  rw [jf1];rfl
theorem jiV {st:St} {i:Nat} {n:Int} (o:StOk st i) (h0:0<=n) (h1:n<=18446744073709551615):StOk { st with now:=jaN st.now n } i :=
 ⟨o.K,o.nt,by
  have:=o.now
  show 0<=jaN st.now n/\jaN st.now n<=_
  unfold jaN
  split<;>omega,o.tb⟩
structure Own (h:H) (ow:Nat->Nat) (ro dat:Nat->Prop) (p s:Nat):Prop where
 lt:s<h.nx
 o0:ow s=0
 r0 : ¬ ro s
 d0 : ¬ dat s
 ne:s≠p
theorem Own.fs {h h':H} {a b:Nat->Nat} {x y S dat:Nat->Prop} {p s:Nat} (o:Own h a x dat p s) (f:Fs h h' a x b y S):Own h' b y dat p s :=
 ⟨zq o.lt f.ch.nx,by rw [f.tag s o.lt];exact o.o0,fun e=>o.r0 ((f.rtag s o.lt).1 e),o.d0,o.ne⟩
section
variable {h h':H} {p w s rw:Nat} {ow:Nat->Nat} {ro dat:Nat->Prop} {a r:St}
theorem BB.set (b:BB h p w s rw ow ro dat a r) {z:Nat} (o:Own h ow ro dat p z) {ob:Obj} : BB (h.set z ob) p w s rw ow ro dat a r :=
 b.off (zp _) fun j _ hj=>jaa fun e=>by
  subst e
  rcases hj with hj | hj | hj | hj
  ·exact hj o.o0
  ·exact o.r0 hj
  ·exact o.d0 hj
  ·exact o.ne hj
variable {cl:Nat->Call} (hcl:Sem cl) {d i:Nat} {m:Mv} {dv:V} {t:Int}
include hcl
end
theorem At4.tail {α : Type} {h:H} {P:Nat->Prop} {f : α -> List V} {b o n:Nat} {c:Cap} {x : α} {l:List α} (hn:n=l.length+1) (a:At4 h P f (.slice (some (b,o)) n c) (x :: l)):At4 h P f (.slice (some (b,o+1*4)) (n-1) (c.less 1)) l:=by
 obtain ⟨ad,c',e,_,ft,g⟩:=a
 cases e
 refine ⟨_,_,by rw [hn];rfl,fun e=>(by cases e),?_,fun hl=>?_⟩
 ·have ft:c.fits (l.length+1) 4:=ft
  cases c with
  | fix q=>simp only [Cap.less,Cap.fits] at ft ⊢;omega
  | grow q=>exact ft
 ·obtain ⟨b',o',cs,ro,e1,e2,e3,e4,e5⟩:=g Zd
  cases e1
  refine ⟨b,o+1*4,cs,ro,rfl,e2,e3,e4,fun i y hi=>?_⟩
  rw [show o+1*4+i*4=o+(i+1)*4 by omega]
  exact e5 (i+1) y (by simpa using hi)
theorem jjF {α β : Type} {f : α -> β} {l:List α} {i:Nat} {x : α} (h:l[i]?=some x):(l.take (i+1)).map f=(l.take i).map f++[f x]:=by rw [List.take_add_one,h];simp
section
variable {cl:Nat->Call} (hcl:Sem cl) {h:H} {p w s rw:Nat} {ow:Nat->Nat} {ro dat:Nat->Prop} {a r:St} {d i:Nat}
include hcl
end
structure SW (h:H) (ow:Nat->Nat) (ro dat:Nat->Prop) (p sb:Nat) (bs:Option Nat) (X:Nat->Prop) (L:List SpX) (o:List Int):Prop where
 own:Own h ow ro dat p sb
 bown : ∀ z,bs=some z->Own h ow ro dat p z/\z≠sb /\ ∃ cs,h.get z=some (.cells cs false)
 ex : ∃ v ov,v.at?=bs/\h.get sb=some (.cells [v,ov] false)/\At4 h (PB ow ro sb) SpX.V v L/\(∀ y∈L,StepAt h (fun z=>PB ow ro sb z/\(bs≠some z/\X z)) (fun z=>PB ow ro sb z/\(bs≠some z/\X z)) y)/\VI h ov o/\(o≠[] -> ∀ z,ov.at?=some z->PB ow ro sb z/\(bs≠some z/\X z))
 few : ∀ x∈L,x.few
theorem Fs.get {h h':H} {a b:Nat->Nat} {x y S dat:Nat->Prop} {p z:Nat} (f:Fs h h' a x b y S) (o:Own h a x dat p z) (hS : ¬ S z):h'.get z=h.get z :=
 f.ch.get z o.lt fun e=>e.elim (fun e=>e o.o0) fun e=>e.elim o.r0 hS
theorem SW.fs {h h':H} {ow ow':Nat->Nat} {ro ro' dat S X:Nat->Prop} {p sb:Nat} {bs:Option Nat} {L:List SpX} {o:List Int} (a:SW h ow ro dat p sb bs X L o) (f:Fs h h' ow ro ow' ro' S) (h1 : ¬ S sb) (h2 : ∀ z,bs=some z -> ¬ S z) (h3 : ∀ z,X z -> ¬ S z):SW h' ow' ro' dat p sb bs X L o:=by
 obtain ⟨v,ov,e1,e2,e3,e4,e5,e6⟩:=a.ex
 have kp : ∀ z,z<h.nx->(PB ow ro sb z/\(bs≠some z/\X z))->h'.get z=h.get z/\(PB ow' ro' sb z/\(bs≠some z/\X z)):=fun z hz hp=>⟨f.ch.get z hz fun e=>e.elim (fun e=>e hp.1.1) fun e=>e.elim hp.1.2.1 (h3 z hp.2.2),⟨by rw [f.tag z hz];exact hp.1.1,fun e=>hp.1.2.1 ((f.rtag z hz).1 e),hp.1.2.2⟩,hp.2⟩
 refine ⟨a.own.fs f,fun z hz=>?_,⟨v,ov,e1,by rw [f.get a.own h1,e2],?_,fun y hy=>(e4 y hy).keep f.ch.nx kp kp,e5.keep2 f.ch.nx fun hl z hz=>(kp z (e5.lt hl hz) (e6 hl z hz)).1,fun hl z hz=>(kp z (e5.lt hl hz) (e6 hl z hz)).2⟩,a.few⟩
 ·obtain ⟨q1,q2,cs,q3⟩:=a.bown z hz
  exact ⟨q1.fs f,q2,cs,by rw [f.get q1 (h2 z hz),q3]⟩
 ·obtain ⟨ad,c,rfl,n,ft,g⟩:=e3
  refine ⟨ad,c,rfl,n,ft,fun hl=>?_⟩
  obtain ⟨b,oo,cs,rr,rfl,lb,pb,gb,hc⟩:=g hl
  have hz:bs=some b:=by rw [<- e1];rfl
  obtain ⟨q1,q2,_⟩:=a.bown b hz
  exact ⟨b,oo,cs,rr,rfl,zq lb f.ch.nx,⟨(q1.fs f).o0,(q1.fs f).r0,q2⟩,by rw [f.get q1 (h2 b hz),gb],hc⟩
section
variable {cl:Nat->Call} (hcl:Sem cl) {h:H} {p w s rw:Nat} {ow:Nat->Nat} {ro dat:Nat->Prop} {a r:St} {d i sb bp bf:Nat} {fd:Int} {bs:Option Nat} {X:Nat->Prop} {x:SpX} {L:List SpX} {o:List Int}
include hcl
end
theorem jeQ {x:Sp} {l:List Sp} {o:List Int} {st:St} (h:x.ticks≠0):jdt (x :: l) o st=(false,x :: l,o,st):=zz h
theorem jgw {x:Sp} {l:List Sp} {o:List Int} {st:St} (h:x.ticks=0) (hi:x.intr=true):jdt (x :: l) o st=(true,l,x.order,mvsS x.moves st):=by
 rw [jdt,zC h,zC hi]
theorem jgv {x:Sp} {l:List Sp} {o:List Int} {st:St} (h:x.ticks=0) (hi:x.intr=false):jdt (x :: l) o st=jdt l x.order (mvsS x.moves st):=by
 rw [jdt,zC h,zz (by rw [hi];exact Bool.false_ne_true)]
theorem jh2 {x:SpX} {L:List SpX} : sumM (x :: L)=x.ml.length+sumM L:=rfl
theorem At4.cons {h:H} {P:Nat->Prop} {x:SpX} {L:List SpX} {v:V} (a:At4 h P SpX.V v (x :: L)) : ∃ b o c cs rr,v = .slice (some (b,o)) (x :: L).length c/\b<h.nx/\h.get b=some (.cells cs rr)/\(cs.drop (o+(0:Int).toNat*4)).take 4=x.V:=by
 obtain ⟨ad,c,rfl,_,_,g⟩:=a
 obtain ⟨b,o,cs,rr,rfl,lb,_,gb,hc⟩:=g Zd
 exact ⟨b,o,c,cs,rr,rfl,lb,gb,hc 0 x rfl⟩
def jlH (h:H) (p w s rw:Nat) (ow:Nat->Nat) (ro dat:Nat->Prop) (r:St) (sb:Nat) (bs:Option Nat) (X:Nat->Prop) (N:Nat) (R:Int × List Sp × List Int × St) (v:V) (h':H):Prop :=
 ∃ ow' L' i',v = .i R.1/\L'.map SpX.sp=R.2.1/\BB h' p w s rw ow' ro dat R.2.2.2 r/\StOk R.2.2.2 i'/\SW h' ow' ro dat p sb bs X L' R.2.2.1/\Fs h h' ow ro ow' ro (fun j=>j=sb\/bs=some j)/\i'+sumM L'<=N
theorem Run.fin_mono' {call:Call} {fuel:Nat} {c:AC} {res:List RV} {K:List Fr} {e:Env} {h:H} {R R':V->H->Prop} (k:Run call fuel c K e h (Fin res R)) (hR : ∀ v h',R v h'->R' v h'):Run call fuel c K e h (Fin res R'):=by
 obtain ⟨x',e',h',hd',x2,e2,h2,ha,⟨⟨p1,l,p2,p3⟩⟩⟩:=k
 exact ⟨x',e',h',hd',x2,e2,h2,ha,⟨⟨p1,l,p2,hR _ _ p3⟩⟩⟩
theorem jlH.trans {h g:H} {p w s rw:Nat} {ow ow1:Nat->Nat} {ro dat:Nat->Prop} {r:St} {sb:Nat} {bs:Option Nat} {X:Nat->Prop} {N:Nat} {R:Int × List Sp × List Int × St} {v:V} {h':H} (q:jlH g p w s rw ow1 ro dat r sb bs X N R v h') (f:Fs h g ow ro ow1 ro (fun j=>j=sb\/bs=some j)):jlH h p w s rw ow ro dat r sb bs X N R v h':=by
 obtain ⟨ow',L',i',e1,e2,e3,e4,e5,e6,e7⟩:=q
 exact ⟨ow',L',i',e1,e2,e3,e4,e5,f.trans e6 fun _ _ e=>e,e7⟩
section
variable {rd:St->Bool} {fv:Bool} {x:Sp} {l:List Sp} {wt:Int} {o:List Int} {st:St}
theorem jlr (h:rd st=true):napS rd fv l wt o st=(1,l,o,st):=by
 cases l with
 | nil=>rw [napS,zC h]
 | cons x l=>rw [napS,zC h]
theorem jdJ (h:rd st=false) (h1:fv=false) (h2:wt=0):napS rd fv l wt o st=(2,l,o,st):=by
 cases l with
 | nil=>rw [napS,zz (by rw [h];exact Bool.false_ne_true),zC ⟨h1,h2⟩]
 | cons x l=>rw [napS,zz (by rw [h];exact Bool.false_ne_true),zC ⟨h1,h2⟩]
theorem jgl (h:rd st=false) (h1:fv=true):napS rd fv [] wt o st=(4,[],o,st):=by
 rw [napS,zz (by rw [h];exact Bool.false_ne_true),zz (by rw [h1];exact fun e=>Bool.noConfusion e.1),zC h1]
theorem jcD (h:rd st=false) (h1:fv=false) (h2:wt≠0):napS rd fv [] wt o st=(2,[],o,{ st with now:=jaN st.now wt }):=by
 rw [napS,zz (by rw [h];exact Bool.false_ne_true),zz (fun e=>h2 e.2),zz (by rw [h1];exact Bool.false_ne_true)]
theorem jcd (h:rd st=false) (h1:fv=false) (h2:wt≠0) (h3:wt<x.ticks):napS rd fv (x :: l) wt o st=(2,{ x with ticks:=x.ticks-wt } :: l,o,{ st with now:=jaN st.now wt }):=by
 rw [napS,zz (by rw [h];exact Bool.false_ne_true),zz (fun e=>h2 e.2),zC ⟨h1,h3⟩]
theorem jfz (h:rd st=false) (h1 : ¬ (fv=false/\wt=0)) (h2 : ¬ (fv=false/\wt<x.ticks)) (h3:x.intr=true):napS rd fv (x :: l) wt o st=(3,l,x.order,mvsS x.moves { st with now:=jaN st.now x.ticks }):=by
 rw [napS,zz (by rw [h];exact Bool.false_ne_true),zz h1,zz h2,zC h3]
theorem jdy (h:rd st=false) (h1 : ¬ (fv=false/\wt=0)) (h2 : ¬ (fv=false/\wt<x.ticks)) (h3:x.intr=false):napS rd fv (x :: l) wt o st=napS rd fv l (wt-min wt x.ticks) x.order (mvsS x.moves { st with now:=jaN st.now x.ticks }):=by
 rw [napS,zz (by rw [h];exact Bool.false_ne_true),zz h1,zz h2,zz (by rw [h3];exact Bool.false_ne_true)]
end
theorem At4.upd {h:H} {P:Nat->Prop} {x:SpX} {L:List SpX} {b o n:Nat} {c:Cap} {cs:List V} {t:Int} (a:At4 h P SpX.V (.slice (some (b,o)) n c) (x :: L)) (g:h.get b=some (.cells cs false)) :
  At4 (h.set b (.cells (cs.set (o+(0:Int).toNat*4+0) (.int .u64 t)) false)) P SpX.V (.slice (some (b,o)) n c) ({ x with t:=t } :: L):=by
 obtain ⟨ad,c',e,n1,ft,k⟩:=a
 cases e
 obtain ⟨b',o',cs',rr,e1,e2,e3,e4,e5⟩:=k Zd
 cases e1
 rw [g] at e4
 cases e4
 refine ⟨_,_,rfl,fun e=>(by cases e),ft,fun _=>⟨b,o,_,false,rfl,e2,e3,jab _,fun i y hi=>?_⟩⟩
 match i,hi with
 | 0,hi=>
  cases hi
  have h0:(cs.drop o).take 4=x.V:=by have:=e5 0 x rfl;simpa using this
  have hl:=jfP h0 rfl
  show ((cs.set o (.int .u64 t)).drop (o+0)).take 4=_
  rw [Nat.add_zero,List.drop_set,zz om,Nat.sub_self,List.take_set,h0]
  rfl
 | i+1,hi=>
  have:=e5 (i+1) y (by simpa using hi)
  show ((cs.set o (.int .u64 t)).drop _).take 4=_
  rw [List.drop_set,zC om]
  exact this
section
variable {cl:Nat->Call} (hcl:Sem cl) {h:H} {p w s rw:Nat} {ow:Nat->Nat} {ro dat:Nat->Prop} {a r:St} {d i sb bp bf:Nat} {fd wt:Int} {fv:Bool} {bs:Option Nat} {X:Nat->Prop} {L:List SpX} {o:List Int}
include hcl
end
structure SD (h:H) (ow:Nat->Nat) (ro dat:Nat->Prop) (p sb:Nat) (X:Nat->Prop) (L:List SpX) (o:List Int):Prop where
 own:Own h ow ro dat p sb
 ex : ∃ v ov,h.get sb=some (.cells [v,ov] false)/\At4 h (fun z=>PB ow ro sb z/\X z) SpX.V v L/\(∀ y∈L,StepAt h dat dat y)/\VI h ov o/\(o≠[] -> ∀ z,ov.at?=some z->dat z)
 few : ∀ x∈L,x.few
theorem SD.fs {h h':H} {p w s rw sb:Nat} {ow ow':Nat->Nat} {ro ro' dat S X:Nat->Prop} {a r:St} {L:List SpX} {o:List Int} (A:SD h ow ro dat p sb X L o) (b:BB h p w s rw ow ro dat a r) (f:Fs h h' ow ro ow' ro' S) (h1 : ¬ S sb) (h2 : ∀ z,dat z -> ¬ S z) (h3 : ∀ z,X z -> ¬ S z):SD h' ow' ro' dat p sb X L o:=by
 obtain ⟨v,ov,e2,e3,e4,e5,e6⟩:=A.ex
 have kd : ∀ z,z<h.nx->dat z->h'.get z=h.get z/\dat z:=fun z hz hd=>⟨f.ch.get z hz fun e=>e.elim (fun e=>e (b.sep z (.inr hd))) fun e=>e.elim (b.ap hd) (h2 z hd),hd⟩
 refine ⟨A.own.fs f,⟨v,ov,by rw [f.get A.own h1,e2],e3.keep f.ch.nx fun z hz hp=>⟨f.ch.get z hz fun e=>e.elim (fun e=>e hp.1.1) fun e=>e.elim hp.1.2.1 (h3 z hp.2),⟨by rw [f.tag z hz];exact hp.1.1,fun e=>hp.1.2.1 ((f.rtag z hz).1 e),hp.1.2.2⟩,hp.2⟩,fun y hy=>(e4 y hy).keep f.ch.nx kd kd,e5.keep2 f.ch.nx fun hl z hz=>(kd z (e5.lt hl hz) (e6 hl z hz)).1,e6⟩,A.few⟩
section
variable {cl:Nat->Call} (hcl:Sem cl) {h:H} {p w s rw:Nat} {ow:Nat->Nat} {ro dat:Nat->Prop} {a r:St} {d i sb:Nat} {fd wt n:Int} {fv:Bool} {X:Nat->Prop} {x:SpX} {L:List SpX} {o:List Int}
include hcl
end
def jlI (h:H) (p w s rw:Nat) (ow:Nat->Nat) (ro dat:Nat->Prop) (a:St) (sb:Nat) (X:Nat->Prop) (N:Nat) (R:Int × List Sp × List Int × St) (v:V) (h':H):Prop :=
 ∃ ro' L' i',v = .i R.1/\L'.map SpX.sp=R.2.1/\BB h' p w s rw ow ro' dat a R.2.2.2/\StOk R.2.2.2 i'/\SD h' ow ro' dat p sb X L' R.2.2.1/\Fs h h' ow ro ow ro' (· = sb)/\i'+sumM L'<=N
theorem jlI.trans {h g:H} {p w s rw:Nat} {ow:Nat->Nat} {ro ro1 dat:Nat->Prop} {a:St} {sb:Nat} {X:Nat->Prop} {N:Nat} {R:Int × List Sp × List Int × St} {v:V} {h':H} (q:jlI g p w s rw ow ro1 dat a sb X N R v h') (f:Fs h g ow ro ow ro1 (· = sb)):jlI h p w s rw ow ro dat a sb X N R v h':=by
 obtain ⟨ow',L',i',e1,e2,e3,e4,e5,e6,e7⟩:=q
 exact ⟨ow',L',i',e1,e2,e3,e4,e5,f.trans e6 fun _ _ e=>e,e7⟩
section
variable {cl:Nat->Call} (hcl:Sem cl) {h:H} {p w s rw:Nat} {ow:Nat->Nat} {ro dat:Nat->Prop} {a r:St} {d i sb:Nat} {fd wt:Int} {fv:Bool} {X:Nat->Prop} {L:List SpX} {o:List Int}
include hcl
end
theorem jl8 {u:Nat} (h:u<10):dec u=[UInt8.ofNat (48+u)]:=by
 rw [jiz om,Lib.decDigits,dif_pos h]
theorem jmq {u:Nat} (h : ¬ u<10) (hu:u<18446744073709551616):dec u=dec (u/10)++[UInt8.ofNat (48+u%10)]:=by
 rw [jiz hu,jiz om,Lib.decDigits,dif_neg h]
theorem jjh {u:Nat} : ∀ {m:Nat},u<10 ^ (m+1)->u<18446744073709551616->(dec u).length<=m+1:=by
 intro m
 induction m generalizing u with
 | zero=>intro h _;rw [jl8 (by simpa using h)];simp
 | succ m ih=>
  intro h h2
  by_cases h3:u<10
  ·rw [jl8 h3];simp
  ·rw [jmq h3 h2,zf]
   have:=ih (u:=u/10) (by rw [Nat.pow_succ] at h;omega) om
   simp;omega
section
variable {call:Call} {fuel base:Nat} {ops:List Ins} {keep:List Nat} {K:List Fr} {e:Env} {h:H} {Q:Post}
theorem Ops.str1 {i1 i2 d1 d2:Nat} {x:Opd} {n:Int} {b:UInt8} (hx:x.ev e=some (.int .u8 n)) (hb:n=(b.toNat:Int))
  (k:Ops call fuel base ops keep K (layv (layv e (some d1) (.slice (some (h.nx,0)) 1 (.fix 1))) (some d2) (.str [b])) (h.new (.cells [jbN b] false)) Q) :
  Ops call fuel base (⟨i1,some d1,.bslice 1 1 [.int .u8 0] [(0,x)],none,none,[]⟩ :: ⟨i2,some d2,.ofBytes (.t d1),none,none,[]⟩ :: ops) keep K e h Q:=by
 subst hb
 refine zcu (ob := .cells [jbN b] false) (mk:=fun b=>.slice (some (b,0)) 1 (.fix 1)) rfl ?_ ?_
 ·simp only [I.make,jaG,List.map,hx];rfl
 ·refine Ops.step (v := .str [b]) (h':=h.new (.cells [jbN b] false)) (I.run_read rfl ?_) k
  have he:(Opd.t d1).ev (layv e (some d1) (.slice (some (h.nx,0)) 1 (.fix 1)))=some (.slice (some (h.nx,0)) 1 (.fix 1)):=by
   show (layv e (some d1) _).get d1=_
   rw [jaJ];simp
  simp only [I.read,he]
  have:((1:Nat) == 0)=false:=rfl
  rw [this,cond_false,jb3 (jac _) Zd]
  simp [bytesOf,je7]
end
theorem jmb {m:Nat} (h:m<10):IntKind.u8.wrap (48+(m:Int))=((UInt8.ofNat (48+m)).toNat:Int):=by
 rw [UInt8.toNat_ofNat',IntKind.wrap_u8]
 omega
section
variable {cl:Nat->Call} (hcl:Sem cl)
include hcl
end
section
variable {cl:Nat->Call} (hcl:Sem cl)
include hcl
theorem rd_digits {d u:Nat} {h:H} (hd:1<=d) (hu:u<18446744073709551616) :
  ∃ h',cl d (.fn 53) [.int .u64 (u:Int)] h=some (.str (dec u),h')/\Old h h':=by
 refine jak (aT hcl ?_)
 refine qx ?_
 refine Zl (fun m e g=>∃ (n:Nat) (s:List UInt8),n<10 ^ (m+1)/\m+s.length<=19/\n<18446744073709551616/\dec u=dec n++s/\e=[(0,.int .u64 (n:Int)),(3,.str s)]/\Old h g)
  (k:=19) Ze ⟨u,[],by omega,by simp,hu,by simp,rfl,Zn h⟩ ?_
 rintro m _ g ⟨n,s,hm,hsl,hn,hs,rfl,old⟩ f ih
 by_cases hlt:n<10
 ·have hlt' : ¬ (9:Int)<(n:Int):=by omega
  refine qx ?_
  refine Ops.str1 (b:=UInt8.ofNat (48+n)) rfl (jmb hlt) ?_
  refine qx ?_
  refine Zo rfl rfl Zc ?_
  refine qx ?_
  exact ⟨by rw [hs,jl8 hlt],old.trans ⟨by simp,fun _ hj=>jad hj⟩⟩
 ·have hlt':(9:Int)<(n:Int):=by omega
  have hm0:m≠0:=by rintro rfl;simp at hm;omega
  have e1:IntKind.u8.wrap (IntKind.u64.wrap (48+(n:Int).tmod 10))=((UInt8.ofNat (48+n%10)).toNat:Int):=by
   have:(n:Int).tmod 10=((n%10:Nat):Int):=(Int.ofNat_tmod n 10).symm
   rw [this,IntKind.wrap_u64,<- jmb (m:=n%10) om]
   congr 1;omega
  refine qx ?_
  refine Ops.str1 (b:=UInt8.ofNat (48+n%10)) rfl e1 ?_
  refine qx ?_
  refine Zo rfl rfl Zc ?_
  refine qx ?_
  refine ih (m-1) om _ _ ⟨n/10,[UInt8.ofNat (48+n%10)]++s,?_,by simp;omega,by omega,by rw [hs,jmq hlt hn,List.append_assoc],?_,old.trans ⟨by simp,fun _ hj=>jad hj⟩⟩
  ·rw [show m-1+1=m by omega];rw [Nat.pow_succ] at hm;omega
  ·have:(n:Int).tdiv 10=((n/10:Nat):Int):=(Int.ofNat_tdiv n 10).symm
   rw [this,IntKind.wrap_u64,Int.emod_eq_of_lt om om]
end
abbrev hexT:List UInt8:=[48,49,50,51,52,53,54,55,56,57,97,98,99,100,101,102]
def hx (n:Nat):UInt8:=hexT.getD n 0
def hexS (l:List UInt8):List UInt8:=(l.map fun b=>[hx (b.toNat/16),hx (b.toNat%16)]).flatten
theorem jgZ (l:List UInt8):(hexS l).length=2*l.length:=by
 induction l with
 | nil=>rfl
 | cons a l ih=>simp only [hexS,List.map_cons,zT,zf] at ih ⊢;rw [ih];simp;omega
theorem jiq {l:List UInt8} {i:Nat} {b:UInt8} (h:l[i]?=some b):hexS (l.take (i+1))=hexS (l.take i)++[hx (b.toNat/16),hx (b.toNat%16)]:=by
 rw [List.take_add_one,h]
 simp [hexS]
theorem jjI {n:Nat} (h:n<16):hexT[n]?=some (hx n):=by
 match n,h with
 | 0,_=>rfl | 1,_=>rfl | 2,_=>rfl | 3,_=>rfl | 4,_=>rfl | 5,_=>rfl | 6,_=>rfl | 7,_=>rfl
 | 8,_=>rfl | 9,_=>rfl | 10,_=>rfl | 11,_=>rfl | 12,_=>rfl | 13,_=>rfl | 14,_=>rfl | 15,_=>rfl
 | n+16,h=>exact zI h om
section
variable {call:Call} {fuel base:Nat} {K:List Fr} {e:Env} {h:H} {Q:Post} {ix:Nat} {dst at_:Option Nat} {ops:List Ins} {keep:List Nat}
theorem Ops.ixHex {x i:Opd} {s:List UInt8} {k:IntKind} {n:Nat} {b:UInt8} (hx:x.ev e=some (.str s)) (hi:i.ev e=some (.int k (n:Int))) (hs:s[n]?=some b) (kk:Ops call fuel base ops keep K (layv e dst (.int .u8 (b.toNat:Int))) h Q) :
  Ops call fuel base (⟨ix,dst,.ixStr x i,none,at_,[]⟩ :: ops) keep K e h Q:=by
 refine Ops.pure rfl ?_ kk
 simp only [I.pure,hx,hi]
 have hlt:n<s.length:=by
  rcases zu n s.length with h | h
  ·exact h
  ·rw [zd h] at hs;cases hs
 have hb:below (n:Int) s.length=true:=jc1.2 ⟨by omega,by omega⟩
 rw [hb]
 simp only [cond_true,zt,hs,jbN]
theorem Ops.bslice2_at {b:Nat} {x y:Opd} {xv yv z0 z1:V} (hx:x.ev e=some xv) (hy:y.ev e=some yv) (h1:xv.cells=[xv]) (h2:yv.cells=[yv])
  (k:Ops call fuel base ops keep K (layv e dst (.slice (some (base+b,0)) 2 (.fix 2))) (h.set (base+b) (.cells [xv,yv] false)) Q) :
  Ops call fuel base (⟨ix,dst,.bslice 1 2 [z0,z1] [(0,x),(1,y)],none,some b,[]⟩ :: ops) keep K e h Q:=by
 refine Ops.make_at (ob := .cells [xv,yv] false) (mk:=fun b=>.slice (some (b,0)) 2 (.fix 2)) rfl ?_ k
 have hf:ja4 [z0,z1] [(0,1,xv),(1,1,yv)]=some [xv,yv]:=by
  simp [ja4,h1,h2,jay];rfl
 simp only [I.make,jaG,List.map,hx,hy,Nat.zero_mul,Nat.one_mul,hf]
end
section
variable {cl:Nat->Call} (hcl:Sem cl)
include hcl
theorem sp_hex {d N:Nat} {l:List UInt8} {v:V} {h:H} (hd:1<=d) (r:Row N h 1 v l.length (bts l)) (hl:l.length<=90000) :
  ∃ h',cl d (.fn 47) [v] h=some (.str (hexS l),h')/\Old h h':=by
 obtain ⟨a,c,rfl,hq⟩ : ∃ a c,v = .slice a l.length c/\(l≠[] -> ∃ q,a=some (q,0)/\q<h.nx/\h.get q=some (.cells (bts l) false)):=by
  rcases r with ⟨h2,e⟩ | ⟨q,h1,h2,rfl,h4,h5⟩
  ·rw [h2,e.2];exact ⟨none,.fix 0,rfl,fun h=>zI (zm.1 h2) h⟩
  ·exact ⟨_,_,rfl,fun _=>⟨q,rfl,h2,h4⟩⟩
 refine jak (aT hcl ?_)
 refine qx ?_
 refine Zl (fun m e g=>∃ (i:Nat) (v:V),m=l.length-i/\i<=l.length/\e=[(3,v),(6,.slice a l.length c),(7,.i (l.length:Int)),(8,.i (i:Int))]/\Row h.nx g 1 v (2*i) (bts (hexS (l.take i)))/\Old h g)
  (k:=l.length) Ze ⟨0,.nils,by omega,by omega,rfl,Row.nil _ _ _,Zn h⟩ ?_
 rintro _ _ g ⟨i,v,rfl,hi,rfl,row,old⟩ f ih
 by_cases hlt:i<l.length
 case neg=>
  obtain rfl:i=l.length:=by omega
  rw [List.take_length] at row
  refine qx ?_
  refine Ops.ofRow rfl row ?_
  refine qx ?_
  exact ⟨rfl,old⟩
 obtain ⟨q,rfl,hq1,hq2⟩:=hq (by rintro rfl;simp at hlt)
 have hq3:g.get q=some (.cells (bts l) false):=by rw [old.2 q hq1,hq2]
 obtain ⟨b,hb⟩ : ∃ b,l[i]?=some b:=⟨_,za hlt⟩
 have hb2:(bts l)[0+i*1]?=some (jbN b):=by rw [zN,Nat.mul_one];simp [bts,hb]
 unfold jbN at hb2
 refine qx ?_
 refine Run.region ?_
 refine qx ?_
 have e1:(b.toNat:Int).fdiv (2 ^ (Int.toNat 4).min IntKind.u8.bits)=((b.toNat/16:Nat):Int):=by
  show (b.toNat:Int).fdiv 16=_
  rw [Int.fdiv_eq_ediv_of_nonneg _ om];omega
 rw [e1]
 have hb256:=b.toNat_lt
 refine Ops.ixHex (n:=b.toNat/16) rfl rfl (jjI om) ?_
 refine qx ?_
 have e2:IntKind.u8.wrap ((BitVec.ofInt IntKind.u8.bits (b.toNat:Int) &&& BitVec.ofInt IntKind.u8.bits 15).toNat:Int)=((b.toNat%16:Nat):Int):=by
  have q1:(BitVec.ofInt IntKind.u8.bits (b.toNat:Int)).toNat=b.toNat:=by
   show (BitVec.ofInt 8 (b.toNat:Int)).toNat=b.toNat
   rw [BitVec.toNat_ofInt];omega
  have q2:(BitVec.ofInt IntKind.u8.bits 15).toNat=15:=rfl
  rw [BitVec.toNat_and,q1,q2,show (15:Nat)=2 ^ 4-1 from rfl,Nat.and_two_pow_sub_one_eq_mod,IntKind.wrap_u8]
  omega
 rw [e2]
 refine Ops.ixHex (n:=b.toNat%16) rfl rfl (jjI om) ?_
 refine Ops.bslice2_at (xv:=jbN (hx (b.toNat/16))) (yv:=jbN (hx (b.toNat%16))) rfl rfl rfl rfl ?_
 have row2:Row h.nx ((g.reserve 1).set (g.nx+0) (.cells [jbN (hx (b.toNat/16)),jbN (hx (b.toNat%16))] false)) 1 v (2*i) (bts (hexS (l.take i))):=by
  refine row.keep Zd fun z hz=>?_
  have:=(row.at_ge hz).2
  rw [jaa om,H.get_reserve]
 refine Ops.appendN (sb:=g.nx+0) (so:=0) (m:=2) (new:=[jbN (hx (b.toNat/16)),jbN (hx (b.toNat%16))]) rfl rfl row2 ?_ om (jab ..) Zd rfl rfl om om om fun v' h' r2 z1 z2 z3=>?_
 ·have:=old.1;simp;omega
 refine qx ?_
 refine ih (l.length-(i+1)) om _ _ ⟨i+1,v',rfl,by omega,rfl,?_,?_⟩
 ·rw [jiq hb,show 2*(i+1)=2*i+2 by omega]
  simpa [bts] using r2
 ·refine ⟨by have:=old.1;rw [z1];simp;omega,fun j hj=>?_⟩
  rw [z3 j (by have:=old.1;simp;omega) fun e=>by have:=(row.at_ge e).1;omega]
  have:=old.1
  rw [jaa om,H.get_reserve,old.2 j hj]
end
def Pw (h:H):Prop:=1<h.nx /\ ∃ l ro,h.get 1=some (.cells l ro)/\jhI 20 1 l=true
theorem Pw.old {h h':H} (p:Pw h) (o:Old h h'):Pw h':=⟨zq p.1 o.1,by obtain ⟨l,ro,h1,h2⟩:=p.2;exact ⟨l,ro,by rw [o.2 1 p.1,h1],h2⟩⟩
theorem Pw.ch {h h':H} {B:Nat->Prop} (p:Pw h) (c:Ch B h h') (h0 : ¬ B 1):Pw h':=⟨zq p.1 c.nx,by obtain ⟨l,ro,h1,h2⟩:=p.2;exact ⟨l,ro,by rw [c.get 1 p.1 h0,h1],h2⟩⟩
theorem jgj {h:H} {u:Nat} (p:Pw h):jb1 1 u h=some (.str (dec u),h):=by
 obtain ⟨_,l,ro,h1,h2⟩:=p
 unfold jb1
 cases Nat.blt u 100 with
 | true=>rfl
 | false=>simp only [cond_false,h1,h2,cond_true]
def jf0:Int->List UInt8
 | 0=>[110,111,110,101]
 | 1=>[105,110]
 | 2=>[111,117,116]
 | _=>[99,108,111,115,101,100]
theorem nameS_len (i:Int):(jf0 i).length<=6:=by unfold jf0;split<;>simp
def jki (r:Option (List UInt8)) (cap:Nat):List UInt8:=match r with
 | none=>[45]
 | some b=>hexS b++[47]++dec cap
def jbv (what:Int) (shut:Bool) (r:Option (List UInt8)) (cap:Nat):List (List UInt8):=jf0 what :: ((if shut then [[115,104,117,116]] else [])++[jki r cap])
section
variable {cl:Nat->Call} (hcl:Sem cl)
include hcl
theorem jbW {d u:Nat} {h:H} (hd:1<=d) (hu:u<9223372036854775808) (p:Pw h):cl d (.fn 26) [.i (u:Int)] h=some (.str (dec u),h):=by
 rw [jlT hcl hd (p:=jhL 1) rfl]
 have h1:Nat.ble u 9223372036854775807=true:=Nat.ble_eq_true_of_le om
 show (bif Nat.ble u 9223372036854775807 then jb1 1 u h else none)=_
 rw [h1,cond_true,jgj p]
theorem w_FmtU {d u:Nat} {h:H} (hd:1<=d) (hu:u<18446744073709551616) (p:Pw h):cl d (.fn 25) [.int .u64 (u:Int),.i 10] h=some (.str (dec u),h):=by
 rw [jlT hcl hd (p:=jhN 1) rfl]
 have h1:Nat.ble u 18446744073709551615=true:=Nat.ble_eq_true_of_le om
 show (bif Nat.ble u 18446744073709551615 then jb1 1 u h else none)=_
 rw [h1,cond_true,jgj p]
theorem w_Join {d b o n:Nat} {c:Cap} {h:H} {l:List V} {ro:Bool} {xs:List (List UInt8)} {s:List UInt8} (hd:1<=d) (hg:h.get b=some (.cells l ro)) (hx:(l.drop o).take n=xs.map V.str) (hn:xs.length=n) (hs:(Lib.join xs s).length<=100000000) (hn2:n<=1000000) :
  cl d (.fn 28) [.slice (some (b,o)) n c,.str s] h=some (.str (Lib.join xs s),h):=by
 rw [jlT hcl hd (p:=jgK) rfl]
 have h1:(Nat.beq xs.length n&&(Nat.ble n 140737488355328&&Nat.ble (Lib.join xs s).length 140737488355328))=true:=by
  rw [show Nat.beq xs.length n=true by rw [hn];exact Nat.beq_refl n,Nat.ble_eq_true_of_le om,Nat.ble_eq_true_of_le om];rfl
 simp only [jgK]
 rw [hg]
 dsimp only
 rw [hx,jjw]
 dsimp only
 rw [h1,cond_true]
end
section
variable {call:Call} {fuel base:Nat} {K:List Fr} {e:Env} {h:H} {Q:Post} {ix:Nat} {dst at_:Option Nat} {ops:List Ins} {keep:List Nat}
theorem Ops.digit {x y:Opd} {n:Nat} (hx':x.ev e=some (.i (n:Int))) (hy:y.ev e=some (.i ((n:Int)+1))) (hn:n<16) (k:Ops call fuel base ops keep K (layv e dst (.str [hx n])) h Q) :
  Ops call fuel base (⟨ix,dst,.sliceS (.c (.str hexT)) (some x) (some y),none,at_,[]⟩ :: ops) keep K e h Q:=by
 refine Ops.pure rfl ?_ k
 have hh:(Opd.c (.str hexT)).ev e=some (.str hexT):=rfl
 simp only [I.pure,evo,hx',hy,hh]
 match n,hn with
 | 0,_=>rfl | 1,_=>rfl | 2,_=>rfl | 3,_=>rfl | 4,_=>rfl | 5,_=>rfl | 6,_=>rfl | 7,_=>rfl
 | 8,_=>rfl | 9,_=>rfl | 10,_=>rfl | 11,_=>rfl | 12,_=>rfl | 13,_=>rfl | 14,_=>rfl | 15,_=>rfl
 | n+16,h=>exact zI h om
end
section
variable {cl:Nat->Call} (hcl:Sem cl)
include hcl
end
def numU (n:Int):List UInt8:=dec (IntKind.u64.wrap n).toNat
theorem jgz (n:Int) : ∃ u:Nat,IntKind.u64.wrap n=(u:Int)/\u<18446744073709551616/\numU n=dec u:=by
 refine ⟨(IntKind.u64.wrap n).toNat,?_,?_,rfl⟩<;>(rw [IntKind.wrap_u64];omega)
theorem jde (n:Int):(numU n).length<=20:=by
 obtain ⟨u,_,hu,e⟩:=jgz n
 rw [e]
 exact jjh (m:=19) om hu
def jgx:List (List UInt8):=[[],[112,117,116],[116,97,107,101],[115,104,117,116],[99,108,111,115,101],[114,101,115,101,116],[99,111,110,110,101,99,116],[114,97,105,115,101]]
def jgy (op:Int):List UInt8:=if op<1\/7<op then [] else (jgx[op.toNat]?).getD []
def mvT (m:Mv):List UInt8:=[32]++jgy m.op++(if 1<=m.op/\m.op<=6 then [32]++numU m.wire else [])++(if m.op=2\/m.op=6\/m.op=7 then [32]++numU m.n else [])++(if m.op=1 then [32] else [])++hexS m.D
def ordN (l:List Int):Nat->List UInt8
 | 0=>[]
 | i+1=>ordN l i++(if i=0 then [32,111,114,100,101,114,32] else [44])++numU ((l[i]?).getD 0)
def movN (l:List Mv):Nat->List UInt8
 | 0=>[]
 | i+1=>movN l i++mvT ((l[i]?).getD ⟨0,0,0,[]⟩)
def jlU (x:Sp):List UInt8:=[115,116,101,112,32]++dec x.ticks.toNat++(if x.intr then [32,105,110,116,114] else [])++ordN x.order x.order.length++movN x.moves x.moves.length
theorem jhv (op:Int):(jgy op).length<=7:=by
 unfold jgy
 split
 ·simp
 ·next h=>
  have h1:op.toNat<8:=by omega
  generalize op.toNat=k at h1
  match k,h1 with
  | 0,_=>simp [jgx] | 1,_=>simp [jgx] | 2,_=>simp [jgx] | 3,_=>simp [jgx] | 4,_=>simp [jgx] | 5,_=>simp [jgx] | 6,_=>simp [jgx] | 7,_=>simp [jgx]
theorem jjA (l:List Int) : ∀ i,(ordN l i).length<=27*i
 | 0=>by simp [ordN]
 | i+1=>by
  have h1:=jjA l i
  have h2:=jde ((l[i]?).getD 0)
  simp only [ordN,zf]
  split<;>simp only [List.length_cons,List.length_nil]<;>omega
theorem mvT_len {m:Mv} (h:m.D.length<=1100):(mvT m).length<=2300:=by
 have h1:=jhv m.op
 have h2:=jde m.wire
 have h3:=jde m.n
 have h4:=jgZ m.D
 simp only [mvT,zf]
 (repeat' split)<;>simp only [zf,List.length_cons,List.length_nil]<;>omega
theorem jjE {l:List Mv} (h : ∀ m∈l,m.D.length<=1100) : ∀ i,(movN l i).length<=2300*i
 | 0=>by simp [movN]
 | i+1=>by
  have h1:=jjE h i
  have h2:(mvT ((l[i]?).getD ⟨0,0,0,[]⟩)).length<=2300:=by
   refine mvT_len ?_
   cases e:l[i]? with
   | none=>simp
   | some m=>exact h m (zc e)
  simp only [movN,zf]
  omega
section
variable {cl:Nat->Call} (hcl:Sem cl)
include hcl
theorem ln_word {d:Nat} {h:H} {op:Int} (hd:1<=d) : ∃ h',cl d (.fn 54) [.i op] h=some (.str (jgy op),h')/\Old h h':=by
 have o:Old h (h.new (.cells [.str [],.str [112,117,116],.str [116,97,107,101],.str [115,104,117,116],.str [99,108,111,115,101],.str [114,101,115,101,116],.str [99,111,110,110,101,99,116],.str [114,97,105,115,101]] false)):=(Zn h).new
 have g:=jac (h:=h) (.cells [.str [],.str [112,117,116],.str [116,97,107,101],.str [115,104,117,116],.str [99,108,111,115,101],.str [114,101,115,101,116],.str [99,111,110,110,101,99,116],.str [114,97,105,115,101]] false)
 refine jak (aT hcl ?_)
 by_cases h1:op<1
 ·refine qx ?_
  exact ⟨by rw [jgy,zC (.inl h1)],Zn h⟩
 by_cases h2:op>7
 ·refine qx ?_
  exact ⟨by rw [jgy,zC (.inr h2)],Zn h⟩
 have q:[V.str [],.str [112,117,116],.str [116,97,107,101],.str [115,104,117,116],.str [99,108,111,115,101],.str [114,101,115,101,116],.str [99,111,110,110,101,99,116],.str [114,97,105,115,101]][0+op.toNat*1]?=some (.str (jgy op)):=by
  rw [jgy,zz om,zN,Nat.mul_one]
  have h1:op.toNat<8:=by omega
  generalize op.toNat=k at h1
  match k,h1 with
  | 0,_=>rfl | 1,_=>rfl | 2,_=>rfl | 3,_=>rfl | 4,_=>rfl | 5,_=>rfl | 6,_=>rfl | 7,_=>rfl
 refine qx ?_
 refine zcu (ob := .cells [.str [],.str [112,117,116],.str [116,97,107,101],.str [115,104,117,116],.str [99,108,111,115,101],.str [114,101,115,101,116],.str [99,111,110,110,101,99,116],.str [114,97,105,115,101]] false) (mk:=fun b=>.slice (some (b,0)) 8 (.fix 8)) rfl rfl ?_
 refine qx ?_
 exact ⟨rfl,o⟩
theorem jdN {d u:Nat} {h:H} (hd:1<=d) (hu:u<18446744073709551616) : ∃ h',cl d (.fn 53) [.int .u64 (u:Int)] h=some (.str (dec u),h')/\Old h h':=rd_digits hcl hd hu
theorem jml {d b mb:Nat} {j:Int} {v:V} {l:List UInt8} {s:List UInt8} {m:Mv} {h:H} (hg:h.get mb=some (.cells (mvV m v) false)) (lmb:mb<h.nx) (hb:VB h v l) (hl:l.length<=1100) (hs:s.length<=400000) :
  Run (cl d) fuel (.loop [1,3,5,6,9] c31_3) [.block 4] [(1,.p b 0),(3,.str s),(5,.i j),(6,.p mb 0),(9,.i 0)] h (fun x e h'=>x = .normal/\(∃ sb,e=(1,.p b 0) :: (3,.str (s++hexS l)) :: (5,.i j) :: sb)/\Old h h'):=by
 have hvn:l≠[] -> ∀ z,v.at?=some z->z<h.nx:=fun hn z hz=>hb.lt hn hz
 obtain ⟨a,c,rfl,hn,hf,hxx⟩:=hb
 have q3:(mvV m (.slice a l.length c))[0+3]?=some (.slice a l.length c):=rfl
 refine Zl (fun n e g=>∃ (i:Nat),n=l.length-i/\i<=l.length/\e=[(1,.p b 0),(3,.str (s++hexS (l.take i))),(5,.i j),(6,.p mb 0),(9,.i (i:Int))]/\Old h g)
  (k:=l.length) Ze ⟨0,by omega,by omega,by simp [hexS],Zn h⟩ ?_
 rintro _ _ g ⟨i,rfl,hi,rfl,old⟩ f ih
 have g1:g.get mb=some (.cells (mvV m (.slice a l.length c)) false):=by rw [old.2 mb lmb,hg]
 by_cases hlt:i<l.length
 case neg=>
  obtain rfl:i=l.length:=by omega
  rw [List.take_length]
  clear ih
  refine qx ?_
  exact End.nil ⟨rfl,⟨_,rfl⟩,old⟩
 obtain ⟨q,o,cs,ro,rfl,q1,q2,q3'⟩:=hxx (by rintro rfl;simp at hlt)
 have g2:g.get q=some (.cells cs ro):=by rw [old.2 q q1,q2]
 obtain ⟨y,hy⟩ : ∃ y,l[i]?=some y:=⟨_,za hlt⟩
 have hy256:=y.toNat_lt
 have q4:cs[o+(i:Int).toNat*1]?=some (.int .u8 (y.toNat:Int)):=by rw [zt,Nat.mul_one];exact q3' i y hy
 have g3:(g.reserve 1).get mb=_:=(H.get_reserve ..).trans g1
 have g4:(g.reserve 1).get q=some (.cells cs ro):=(H.get_reserve ..).trans g2
 have hi1:(i:Int)+1=((i+1:Nat):Int):=by omega
 clear hxx hf hn
 refine qx ?_
 refine Run.region ?_
 refine qx ?_
 have e1:IntKind.u8.wrap ((y.toNat:Int).tdiv 16)=((y.toNat/16:Nat):Int):=by
  rw [show (y.toNat:Int).tdiv 16=((y.toNat/16:Nat):Int) from (Int.ofNat_tdiv _ 16).symm,IntKind.wrap_u8];omega
 have e2:(y.toNat:Int).tmod 16=((y.toNat%16:Nat):Int):=(Int.ofNat_tmod _ 16).symm
 rw [e1,e2]
 refine Ops.bslice2_at (xv := .int .u8 ((y.toNat/16:Nat):Int)) (yv := .int .u8 ((y.toNat%16:Nat):Int)) rfl rfl rfl rfl ?_
 have g5:((g.reserve 1).set (g.nx+0) (.cells [.int .u8 ((y.toNat/16:Nat):Int),.int .u8 ((y.toNat%16:Nat):Int)] false)).get (g.nx+0)=some (.cells [.int .u8 ((y.toNat/16:Nat):Int),.int .u8 ((y.toNat%16:Nat):Int)] false):=jab ..
 have o2:Old g ((g.reserve 1).set (g.nx+0) (.cells [.int .u8 ((y.toNat/16:Nat):Int),.int .u8 ((y.toNat%16:Nat):Int)] false)):=⟨by simp,fun j hj=>by rw [jaa om,H.get_reserve]⟩
 generalize (g.reserve 1).set (g.nx+0) (.cells [.int .u8 ((y.toNat/16:Nat):Int),.int .u8 ((y.toNat%16:Nat):Int)] false)=g6 at g5 o2 ⊢
 refine qx ?_
 have hlen:=jgZ (l.take i)
 have hlt2:(l.take i).length<=1100:=by simp;omega
 refine Zl (fun n e g'=>∃ (k:Nat),n=2-k/\k<=2/\e=[(1,.p b 0),(3,.str (s++hexS (l.take i)++([hx (y.toNat/16),hx (y.toNat%16)].take k))),(5,.i j),(6,.p mb 0),(9,.i (i:Int)),(106,.slice (some (g.nx+0,0)) 2 (.fix 2)),(107,.i 2),(108,.i (k:Int))]/\g'=g6)
  (k:=2) Ze ⟨0,by omega,by omega,by simp,rfl⟩ ?_
 rintro _ _ g' ⟨k,rfl,hk,rfl,rfl⟩ f2 ih2
 by_cases hk2:k<2
 case neg=>
  obtain rfl:k=2:=by omega
  clear ih2
  refine qx ?_
  rw [hi1]
  refine ih (l.length-(i+1)) om _ _ ⟨i+1,rfl,by omega,?_,old.trans o2⟩
  rw [jiq hy,List.append_assoc s];rfl
 have key : ∃ z:Nat,z<16/\[V.int .u8 ((y.toNat/16:Nat):Int),.int .u8 ((y.toNat%16:Nat):Int)][0+(k:Int).toNat*1]?=some (.int .u8 (z:Int))/\[hx (y.toNat/16),hx (y.toNat%16)].take (k+1)=[hx (y.toNat/16),hx (y.toNat%16)].take k++[hx z]:=by
  match k,hk2 with
  | 0,_=>exact ⟨y.toNat/16,by omega,rfl,rfl⟩
  | 1,_=>exact ⟨y.toNat%16,by omega,rfl,rfl⟩
 obtain ⟨z,hz,z1,z2⟩:=key
 have e3:IntKind.i64.wrap (z:Int)=(z:Int):=by rw [IntKind.wrap_i64];omega
 have hk1:(k:Int)+1=((k+1:Nat):Int):=by omega
 clear ih
 refine qx ?_
 rw [e3]
 refine Ops.digit rfl rfl hz ?_
 refine qx ?_
 have hj3:([hx (y.toNat/16),hx (y.toNat%16)].take k).length<=2:=by simp;omega
 refine Zo rfl rfl (by simp at hj3 hlen hlt2 ⊢;omega) ?_
 refine qx ?_
 rw [hk1]
 refine ih2 (2-(k+1)) om _ _ ⟨k+1,rfl,by omega,?_,rfl⟩
 rw [z2,<- List.append_assoc]
end
def LnP (h0:H) (b:Nat) (j:Int) (s:List UInt8):Post:=fun x e h'=>x = .normal/\(∃ sb,e=(1,.p b 0) :: (3,.str s) :: (5,.i j) :: sb)/\Old h0 h'
theorem LnP.mono {h0 h1:H} {b:Nat} {j:Int} {s:List UInt8} (o:Old h0 h1) {x:Ex} {e:Env} {h':H} (q:LnP h1 b j s x e h'):LnP h0 b j s x e h':=⟨q.1,q.2.1,o.trans q.2.2⟩
theorem Run.post {call:Call} {fuel:Nat} {c:AC} {K:List Fr} {e:Env} {h:H} {Q Q':Post} (k:Run call fuel c K e h Q) (hQ : ∀ x e h,Q x e h->Q' x e h):Run call fuel c K e h Q':=by
 obtain ⟨x',e',h',hd',x2,e2,h2,ha,q⟩:=k
 exact ⟨x',e',h',hd',x2,e2,h2,ha,hQ _ _ _ q⟩
section
variable {cl:Nat->Call} (hcl:Sem cl) {d b mb:Nat} {j:Int} {s:List UInt8} {m:Mv} {dv:V} {h:H} {sb:Env}
include hcl
theorem ln_b (hg:h.get mb=some (.cells (mvV m dv) false)) (lmb:mb<h.nx) (hb:VB h dv m.D) (hl:m.D.length<=1100) (hs:s.length<=300000) :
  Run (cl d) fuel c31_5 [] ((1,.p b 0) :: (3,.str s) :: (5,.i j) :: (6,.p mb 0) :: sb) h (LnP h b j (s++(if m.op=1 then [32] else [])++hexS m.D)):=by
 have q0:(mvV m dv)[0+0]?=some (.i m.op):=rfl
 by_cases h1:m.op=1
 ·rw [zC h1]
  have T:=jml hcl (d:=d) (b:=b) (j:=j) (s:=s++[32]) hg lmb hb hl Zc
  obtain ⟨C,hC⟩ : ∃ C,C=c31_3:=⟨_,rfl⟩
  simp only [c31_5,<- hC,yH]
  rw [<- hC] at T
  clear hb
  refine qx ?_
  refine Zo rfl rfl Zc ?_
  refine qx ?_
  exact T
 ·rw [zz h1,List.append_nil]
  have T:=jml hcl (d:=d) (b:=b) (j:=j) (s:=s) hg lmb hb hl om
  obtain ⟨C,hC⟩ : ∃ C,C=c31_3:=⟨_,rfl⟩
  simp only [c31_5,<- hC,yH]
  rw [<- hC] at T
  clear hb
  refine qx ?_
  exact T
theorem ln_n (hd:1<=d) (hg:h.get mb=some (.cells (mvV m dv) false)) (lmb:mb<h.nx) (hb:VB h dv m.D) (hl:m.D.length<=1100) (hs:s.length<=299900) :
  Run (cl d) fuel c31_7 [] ((1,.p b 0) :: (3,.str s) :: (5,.i j) :: (6,.p mb 0) :: sb) h (LnP h b j (s++(if m.op=2\/m.op=6\/m.op=7 then [32]++numU m.n else [])++(if m.op=1 then [32] else [])++hexS m.D)):=by
 have q0:(mvV m dv)[0+0]?=some (.i m.op):=rfl
 have q2:(mvV m dv)[0+2]?=some (.i m.n):=rfl
 have e1:=rm_number hcl (d:=d) (op:=m.op) (h:=h) hd
 obtain ⟨C,hC⟩ : ∃ C,C=c31_5:=⟨_,rfl⟩
 by_cases h1:m.op=2\/m.op=6\/m.op=7
 ·rw [zC h1]
  rw [zF h1] at e1
  obtain ⟨u,eu,hu,en⟩:=jgz m.n
  obtain ⟨h2,e2,o2⟩:=jdN hcl (d:=d) (u:=u) (h:=h) hd hu
  have hnl:=jde m.n
  rw [<- en] at e2
  have T:=fun sb=>ln_b hcl (d:=d) (b:=b) (j:=j) (s:=s++[32]++numU m.n) (sb:=sb) (m:=m) (dv:=dv) (h:=h2) (by rw [o2.2 mb lmb,hg]) (zq lmb o2.1) (hb.keep2 o2.1 fun hl z hz=>o2.2 z (hb.lt hl hz)) hl Zc
  simp only [c31_7,c31_4,<- hC,yC,yI]
  rw [<- hC] at T
  clear hb h1
  refine qx ?_
  refine Zo rfl rfl Zc ?_
  refine qx ?_
  rw [eu]
  refine qx ?_
  refine Zo rfl rfl Zc ?_
  refine qx ?_
  refine Run.post (T _) fun x e h' q=>LnP.mono o2 ?_
  simpa only [List.append_assoc] using q
 ·rw [zz h1]
  rw [zD h1] at e1
  have T:=fun sb=>ln_b hcl (d:=d) (b:=b) (j:=j) (s:=s) (sb:=sb) (m:=m) (dv:=dv) (h:=h) hg lmb hb hl om
  simp only [c31_7,<- hC,yC]
  rw [<- hC] at T
  clear hb h1
  refine qx ?_
  refine Run.post (T _) fun x e h' q=>?_
  simpa only [List.append_assoc,zU] using q
theorem ln_w (hd:1<=d) (hg:h.get mb=some (.cells (mvV m dv) false)) (lmb:mb<h.nx) (hb:VB h dv m.D) (hl:m.D.length<=1100) (hs:s.length<=299800) :
  Run (cl d) fuel c31_8 [] ((1,.p b 0) :: (3,.str s) :: (5,.i j) :: (6,.p mb 0) :: sb) h (LnP h b j (s++(if 1<=m.op/\m.op<=6 then [32]++numU m.wire else [])++(if m.op=2\/m.op=6\/m.op=7 then [32]++numU m.n else [])++(if m.op=1 then [32] else [])++hexS m.D)):=by
 have q0:(mvV m dv)[0+0]?=some (.i m.op):=rfl
 have q2:(mvV m dv)[0+1]?=some (.i m.wire):=rfl
 have e1:=rm_wire hcl (d:=d) (op:=m.op) (h:=h) hd
 obtain ⟨C,hC⟩ : ∃ C,C=c31_7:=⟨_,rfl⟩
 by_cases h1:1<=m.op/\m.op<=6
 ·rw [zC h1]
  rw [zF h1] at e1
  obtain ⟨u,eu,hu,en⟩:=jgz m.wire
  obtain ⟨h2,e2,o2⟩:=jdN hcl (d:=d) (u:=u) (h:=h) hd hu
  have hnl:=jde m.wire
  rw [<- en] at e2
  have T:=fun sb=>ln_n hcl (d:=d) (b:=b) (j:=j) (s:=s++[32]++numU m.wire) (sb:=sb) (m:=m) (dv:=dv) (h:=h2) hd (by rw [o2.2 mb lmb,hg]) (zq lmb o2.1) (hb.keep2 o2.1 fun hl z hz=>o2.2 z (hb.lt hl hz)) hl Zc
  simp only [c31_8,c31_6,<- hC,yC,yI]
  rw [<- hC] at T
  clear hb h1
  refine qx ?_
  refine Zo rfl rfl Zc ?_
  refine qx ?_
  rw [eu]
  refine qx ?_
  refine Zo rfl rfl Zc ?_
  refine qx ?_
  refine Run.post (T _) fun x e h' q=>LnP.mono o2 ?_
  simpa only [List.append_assoc] using q
 ·rw [zz h1]
  rw [zD h1] at e1
  have T:=fun sb=>ln_n hcl (d:=d) (b:=b) (j:=j) (s:=s) (sb:=sb) (m:=m) (dv:=dv) (h:=h) hd hg lmb hb hl om
  simp only [c31_8,<- hC,yC]
  rw [<- hC] at T
  clear hb h1
  refine qx ?_
  refine Run.post (T _) fun x e h' q=>?_
  simpa only [List.append_assoc,zU] using q
theorem ln_m {P Q:Nat->Prop} {x:SpX} {k:Nat} {y:MvX} (hd:1<=d) (hg:h.get b=some (.cells x.V false)) (lb:b<h.nx) (A:StepAt h P Q x) (hy:x.ml[k]?=some y) (hl:y.m.D.length<=1100) (hs:s.length<=299700) :
  Run (cl d) fuel c31_10 [] ((1,.p b 0) :: (3,.str s) :: (5,.i (k:Int)) :: sb) h (LnP h b k (s++mvT y.m)):=by
 obtain ⟨ad,c,em,_,_,g⟩:=id A.mv
 obtain ⟨bb,oo,cs,rr,rfl,lbb,_,gb,hc⟩:=g (by intro e;rw [e] at hy;simp at hy)
 have h4:(cs.drop (oo+(k:Int).toNat*4)).take 4=y.V:=by rw [zt];exact hc k y hy
 have hlen:=jfP h4 rfl
 have q3:(x.V)[0+3]?=some (.slice (some (bb,oo)) x.ml.length c):=by rw [<- em];rfl
 have hkl:k<x.ml.length:=by
  rcases zu k x.ml.length with h | h
  ·exact h
  ·rw [zd h] at hy;cases hy
 obtain ⟨vy,zy⟩:=A.dv y (zc hy)
 obtain ⟨m,dv⟩:=y
 obtain ⟨da,dc,e,_⟩:=id vy
 have e:dv = .slice da m.D.length dc:=e
 subst e
 have o1:Old h ((h.new (.cells [.i 0,.i 0,.i 0,.nils] false)).set h.nx (.cells (mvV m (.slice da m.D.length dc)) false)):=(Zn h).new.set (zp _)
 have g1:((h.new (.cells [.i 0,.i 0,.i 0,.nils] false)).set h.nx (.cells (mvV m (.slice da m.D.length dc)) false)).get h.nx=some (.cells (mvV m (.slice da m.D.length dc)) false):=jab _
 have n1:h.nx<((h.new (.cells [.i 0,.i 0,.i 0,.nils] false)).set h.nx (.cells (mvV m (.slice da m.D.length dc)) false)).nx:=by simp
 generalize hG:(h.new (.cells [.i 0,.i 0,.i 0,.nils] false)).set h.nx (.cells (mvV m (.slice da m.D.length dc)) false)=G at o1 g1 n1
 obtain ⟨h2,e2,o2⟩:=ln_word hcl (d:=d) (op:=m.op) (h:=G) hd
 have hwl:=jhv m.op
 have T:=fun sb=>ln_w hcl (d:=d) (b:=b) (j:=(k:Int)) (s:=s++[32]++jgy m.op) (sb:=sb) (m:=m) (dv := .slice da m.D.length dc) (h:=h2) hd (by rw [o2.2 _ n1,g1]) (zq n1 o2.1) (vy.keep2 (o1.trans o2).1 fun hl z hz=>(o1.trans o2).2 z (vy.lt hl hz)) hl Zc
 have q0:(mvV m (.slice da m.D.length dc))[0+0]?=some (.i m.op):=rfl
 obtain ⟨C,hC⟩ : ∃ C,C=c31_8:=⟨_,rfl⟩
 simp only [c31_10,c31_9,<- hC,yB,yH]
 rw [<- hC] at T
 clear A g hc vy zy
 refine qx ?_
 refine zcw rfl gb hlen ?_
 rw [h4]
 refine zcu (ob := .cells [.i 0,.i 0,.i 0,.nils] false) (mk:=fun b=>.p b 0) rfl rfl ?_
 refine zct (n:=4) (o:=0) (vs:=mvV m (.slice da m.D.length dc)) rfl rfl rfl rfl (jac _) Zd ?_
 rw [show jay ([.i 0,.i 0,.i 0,.nils]:List V) 0 (mvV m (.slice da m.D.length dc))=mvV m (.slice da m.D.length dc) from rfl,hG]
 refine qx ?_
 refine Zo rfl rfl Zc ?_
 refine qx ?_
 refine Zo rfl rfl Zc ?_
 refine qx ?_
 refine Run.post (T _) fun x e h' q=>LnP.mono (o1.trans o2) ?_
 unfold mvT
 simpa only [List.append_assoc] using q
end
def Sp.few (x:Sp):Prop:=x.moves.length<=60/\x.order.length<=60 /\ ∀ m∈x.moves,m.D.length<=1100
section
variable {cl:Nat->Call} (hcl:Sem cl) {d:Nat} {h:H}
include hcl
theorem jlf {P Q:Nat->Prop} {x:SpX} (hd:2<=d) (A:StepAt h P Q x) (hf:x.sp.few) : ∃ h',cl d (.fn 31) [.agg x.V] h=some (.str (jlU x.sp),h')/\Old h h':=by
 have hml:x.ml.length<=60:=by have:=hf.1;simpa [SpX.sp] using this
 have hol:x.ol.length<=60:=hf.2.1
 have hdl : ∀ y∈x.ml,y.m.D.length<=1100:=fun y hy=>hf.2.2 y.m (List.mem_map_of_mem hy)
 have o0:Old h (h.new (.cells x.V false)):=(Zn h).new
 have g0:(h.new (.cells x.V false)).get h.nx=some (.cells x.V false):=jac _
 have n0:h.nx<(h.new (.cells x.V false)).nx:=by simp
 generalize hG:h.new (.cells x.V false)=G at o0 g0 n0
 obtain ⟨u,eu⟩ : ∃ u:Nat,x.t=(u:Int):=⟨x.t.toNat,by have:=A.t0;omega⟩
 have hu:u<18446744073709551616:=by have:=A.t1;omega
 have q0:(x.V)[0+0]?=some (.int .u64 (u:Int)):=by rw [<- eu];rfl
 have q1:(x.V)[0+1]?=some (.bool x.intr):=rfl
 obtain ⟨ao,co,eo,_,_,go⟩:=id A.ov.1
 obtain ⟨am,cm,em,_⟩:=id A.mv
 have q2:(x.V)[0+2]?=some (.slice ao x.ol.length co):=by rw [<- eo];rfl
 have q3:(x.V)[0+3]?=some (.slice am x.ml.length cm):=by rw [<- em];rfl
 obtain ⟨h1,e1,o1⟩:=jdN hcl (d:=d-1) (u:=u) (h:=G) om hu
 have hdu:=jjh (u:=u) (m:=19) om hu
 have g1:h1.get h.nx=some (.cells x.V false):=by rw [o1.2 _ n0,g0]
 have n1:h.nx<h1.nx:=zq n0 o1.1
 have A1:=A.old (o0.trans o1)
 have hln:jlU x.sp=[115,116,101,112,32]++dec u++(if x.intr then [32,105,110,116,114] else [])++ordN x.ol x.ol.length++movN (x.ml.map MvX.m) x.ml.length:=by
  unfold jlU
  rw [show x.sp.ticks.toNat=u by show x.t.toNat=u;omega,show x.sp.moves.length=x.ml.length by simp [SpX.sp]]
  rfl
 obtain ⟨C10,hC10⟩ : ∃ C,C=c31_10:=⟨_,rfl⟩
 have T : ∀ (s:List UInt8) (sb:Env),s=[115,116,101,112,32]++dec u++(if x.intr then [32,105,110,116,114] else [])->Run (cl (d-1)) fuel c31_16 [] ((1,.p h.nx 0) :: (3,.str s) :: sb) h1 (Fin c31.res fun v h'=>v = .str (jlU x.sp)/\Old h h'):=by
  intro s sb hs
  have hsl:s.length<=30:=by
   rw [hs]
   cases x.intr<;>simp<;>omega
  rw [hln,<- hs]
  clear hs hln e1 q0 hG
  simp only [c31_16,c31_11,<- hC10,uF,yB]
  refine qx ?_
  refine Zl (fun m e g=>∃ i:Nat,m=x.ol.length-i/\i<=x.ol.length/\e=[(1,.p h.nx 0),(3,.str (s++ordN x.ol i)),(4,.i (i:Int))]/\Old h1 g)
   (k:=x.ol.length) Ze ⟨0,rfl,by omega,by simp [ordN],Zn _⟩ ?_
  rintro _ _ g ⟨i,rfl,hi,rfl,og⟩ n' ih
  have gx:g.get h.nx=some (.cells x.V false):=by rw [og.2 _ n1,g1]
  have hoL:=jjA x.ol i
  by_cases hlt:(i:Int)<x.ol.length
  case pos=>
   obtain ⟨n,hn⟩:=jfa (l:=x.ol) (i:=i) om
   obtain ⟨b,oo,cs,rr,rfl,lb,gb,hc⟩:=go (by intro e;rw [e] at hn;simp at hn)
   have gb1:g.get b=some (.cells cs rr):=by rw [og.2 b (zq lb (o0.trans o1).1),(o0.trans o1).2 b lb,gb]
   have h4:cs[oo+(i:Int).toNat*1]?=some (.i n):=by rw [zt,Nat.mul_one];exact hc i n hn
   obtain ⟨un,eun,hun,enu⟩:=jgz n
   obtain ⟨g2,e2,o2⟩:=jdN hcl (d:=d-1) (u:=un) (h:=g) om hun
   have hnl:=jde n
   rw [<- enu] at e2
   have hi1:(i:Int)+1=((i+1:Nat):Int):=by omega
   have hoS:ordN x.ol (i+1)=ordN x.ol i++(if i=0 then [32,111,114,100,101,114,32] else [44])++numU n:=by rw [ordN,hn];rfl
   clear go A A1 hc hdl
   by_cases hz:i=0
   ·have hz':(i:Int)=0:=by omega
    rw [zC hz] at hoS
    refine qx ?_
    refine Zo rfl rfl Zc ?_
    refine qx ?_
    rw [eun]
    refine qx ?_
    refine Zo rfl rfl Zc ?_
    refine qx ?_
    rw [hi1]
    exact ih (x.ol.length-(i+1)) om _ _ ⟨i+1,rfl,by omega,by rw [hoS];simp only [List.append_assoc],og.trans o2⟩
   ·have hz' : ¬ (i:Int)=0:=by omega
    rw [zz hz] at hoS
    refine qx ?_
    refine Zo rfl rfl Zc ?_
    refine qx ?_
    rw [eun]
    refine qx ?_
    refine Zo rfl rfl Zc ?_
    refine qx ?_
    rw [hi1]
    exact ih (x.ol.length-(i+1)) om _ _ ⟨i+1,rfl,by omega,by rw [hoS];simp only [List.append_assoc],og.trans o2⟩
  obtain rfl:i=x.ol.length:=by omega
  clear ih go
  refine qx ?_
  refine Zl (fun m e g'=>∃ i:Nat,m=x.ml.length-i/\i<=x.ml.length/\e=[(1,.p h.nx 0),(3,.str (s++ordN x.ol x.ol.length++movN (x.ml.map MvX.m) i)),(5,.i (i:Int))]/\Old h1 g')
   (k:=x.ml.length) Ze ⟨0,rfl,by omega,by simp [movN],og⟩ ?_
  clear og gx
  rintro _ _ g' ⟨i,rfl,hi,rfl,og⟩ n2 ih
  have gx:g'.get h.nx=some (.cells x.V false):=by rw [og.2 _ n1,g1]
  have hmL:=jjE (l:=x.ml.map MvX.m) (fun m hm=>by obtain ⟨y,hy,rfl⟩:=List.mem_map.1 hm;exact hdl y hy) i
  by_cases hlt:(i:Int)<x.ml.length
  case neg=>
   obtain rfl:i=x.ml.length:=by omega
   have oF:=(o0.trans o1).trans og
   clear ih A A1 hdl
   refine qx ?_
   exact ⟨rfl,oF⟩
  obtain ⟨y,hy⟩:=jfa (l:=x.ml) (i:=i) om
  have T:=fun sb=>ln_m hcl (d:=d-1) (b:=h.nx) (s:=s++ordN x.ol x.ol.length++movN (x.ml.map MvX.m) i) (sb:=sb) (k:=i) om gx (zq n1 og.1) (A1.old og) hy (hdl y (zc hy)) (by simp only [zf];omega)
  rw [<- hC10] at T
  have hi1:(i:Int)+1=((i+1:Nat):Int):=by omega
  have hmS:movN (x.ml.map MvX.m) (i+1)=movN (x.ml.map MvX.m) i++mvT y.m:=by rw [movN,List.getElem?_map,hy];rfl
  clear A A1 hdl
  refine qx ?_
  refine Run.cut _ (T _) ?_
  rintro _ _ g2 ⟨rfl,⟨sb2,rfl⟩,o2⟩
  refine qx ?_
  rw [hi1]
  exact ih (x.ml.length-(i+1)) om _ _ ⟨i+1,rfl,by omega,by rw [hmS];simp only [List.append_assoc],og.trans o2⟩
 obtain ⟨C,hC⟩ : ∃ C,C=c31_16:=⟨_,rfl⟩
 rw [<- hC] at T
 refine jak (aT hcl ?_)
 simp only [c31,c31_18,c31_17,<- hC,yB,yH]
 clear A A1 hln hdl go
 refine Run.seq (Run.region0 (zcu (ob := .cells x.V false) (mk:=fun b=>.p b 0) rfl rfl ?_))
 rw [hG]
 refine qx ?_
 refine Zo rfl rfl Zc ?_
 repeat' (first|refine qxy ?_|(refine zsp ?_ ?_<;>intro _)|fail)
 ·next hin=>
  rw [hin] at T
  refine Zo rfl rfl Zc ?_
  refine qx ?_
  exact T _ _ rfl
 ·next hin=>
  rw [hin] at T
  exact T ([115,116,101,112,32]++dec u) _ Zd
end
section
variable {P:Sp->Prop} {rd:St->Bool} {fv:Bool}
theorem jd3 : ∀ {l:List Sp} {o:List Int} {st:St},(∀ x∈l,P x)->(∀ x∈(jdt l o st).2.1,P x)/\(jdt l o st).2.1.length<=l.length
 | [],_,_,h=>⟨h,zp _⟩
 | x :: l,o,st,h=>by
  by_cases ht:x.ticks=0
  ·cases hi:x.intr with
   | true=>rw [jgw ht hi];exact ⟨fun y hy=>h y (zk _ hy),by simp⟩
   | false=>
    rw [jgv ht hi]
    obtain ⟨q1,q2⟩:=jd3 (l:=l) (o:=x.order) (st:=mvsS x.moves st) fun y hy=>h y (zk _ hy)
    exact ⟨q1,by rw [List.length_cons];omega⟩
  ·rw [jeQ ht];exact ⟨h,zp _⟩
theorem jjD (hP : ∀ x t,P x->P { x with ticks:=t }) : ∀ {l:List Sp} {wt:Int} {o:List Int} {st:St},(∀ x∈l,P x)->(∀ x∈(napS rd fv l wt o st).2.1,P x)/\(napS rd fv l wt o st).2.1.length<=l.length
 | [],wt,o,st,h=>by
  by_cases hr:rd st=true
  ·rw [jlr hr];exact ⟨h,zp _⟩
  have hr:rd st=false:=by simpa using hr
  cases fv with
  | true=>rw [jgl hr rfl];exact ⟨h,zp _⟩
  | false=>
   by_cases hw:wt=0
   ·rw [jdJ hr rfl hw];exact ⟨h,zp _⟩
   ·rw [jcD hr rfl hw];exact ⟨h,zp _⟩
 | x :: l,wt,o,st,h=>by
  have hl : ∀ y∈l,P y:=fun y hy=>h y (zk _ hy)
  by_cases hr:rd st=true
  ·rw [jlr hr];exact ⟨h,zp _⟩
  have hr:rd st=false:=by simpa using hr
  by_cases h1:fv=false/\wt=0
  ·rw [jdJ hr h1.1 h1.2];exact ⟨h,zp _⟩
  by_cases h2:fv=false/\wt<x.ticks
  ·rw [jcd hr h2.1 (fun e=>h1 ⟨h2.1,e⟩) h2.2]
   refine ⟨fun y hy=>?_,zp _⟩
   rcases zX.1 hy with rfl | hy
   ·exact hP x _ (h x (zi ..))
   ·exact hl y hy
  cases hi:x.intr with
  | true=>rw [jfz hr h1 h2 hi];exact ⟨hl,by simp⟩
  | false=>
   rw [jdy hr h1 h2 hi]
   obtain ⟨q1,q2⟩:=jjD hP (l:=l) (wt:=wt-min wt x.ticks) (o:=x.order) (st:=mvsS x.moves { st with now:=jaN st.now x.ticks }) hl
   exact ⟨q1,by rw [List.length_cons];omega⟩
theorem jfZ (hP : ∀ x t,P x->P { x with ticks:=t }) {l:List Sp} {wt:Int} {o:List Int} {st:St} (h : ∀ x∈l,P x):(∀ x∈(ja6 rd fv l wt o st).2.1,P x)/\(ja6 rd fv l wt o st).2.1.length<=l.length:=by
 unfold ja6
 have hz:=jd3 (o:=o) (st:=st) h
 generalize jdt l o st=z at hz
 obtain ⟨c,l',o',st'⟩:=z
 cases c with
 | true=>exact hz
 | false=>
  obtain ⟨q1,q2⟩:=jjD (rd:=rd) (fv:=fv) hP (wt:=wt) (o:=o') (st:=st') hz.1
  exact ⟨q1,zx q2 hz.2⟩
end
section
variable {Q:List Int->Prop} {rd:St->Bool} {fv:Bool}
end
section
variable {cl:Nat->Call} (hcl:Sem cl) {d:Nat} {h:H}
include hcl
theorem rm_Same {P1 Q1 P2 Q2 P3 P4:Nat->Prop} {v1 v2:V} {l1 l2:List SpX} (hd:3<=d) (a1:At4 h P1 SpX.V v1 l1) (s1 : ∀ x∈l1,StepAt h P3 Q1 x) (a2:At4 h P2 SpX.V v2 l2) (s2 : ∀ x∈l2,StepAt h P4 Q2 x) (hsp:l1.map SpX.sp=l2.map SpX.sp) (hf : ∀ x∈l1.map SpX.sp,x.few) (hl:l1.length<=2000) :
  ∃ h',cl d (.fn 14) [v1,v2] h=some (.bool true,h')/\Old h h':=by
 have hln:l2.length=l1.length:=by have:=congrArg List.length hsp;simpa using this.symm
 obtain ⟨ad1,c1,rfl,_,_,g1⟩:=a1
 obtain ⟨ad2,c2,rfl,_,_,g2⟩:=a2
 have hne : ¬ ((l1.length:Nat):Int)≠((l2.length:Nat):Int):=fun e=>e (by rw [hln])
 refine jak (aT hcl ?_)
 refine qx ?_
 refine Zl (fun m e g=>∃ i:Nat,m=l1.length-i/\i<=l1.length/\e=[(0,.slice ad1 l1.length c1),(1,.slice ad2 l2.length c2),(5,.i (i:Int))]/\Old h g)
  (k:=l1.length) Ze ⟨0,rfl,by omega,rfl,Zn h⟩ ?_
 rintro _ _ g ⟨i,rfl,hi,rfl,og⟩ n' ih
 by_cases hlt:(i:Int)<l1.length
 case neg=>
  clear ih g1 g2 s1 s2 hf
  refine qx ?_
  exact ⟨rfl,og⟩
 obtain ⟨x,hx⟩:=jfa (l:=l1) (i:=i) om
 obtain ⟨y,hy⟩:=jfa (l:=l2) (i:=i) om
 have hxy:x.sp=y.sp:=by
  have h1:(l1.map SpX.sp)[i]?=some x.sp:=by rw [List.getElem?_map,hx];rfl
  rw [hsp,List.getElem?_map,hy] at h1
  exact (Option.some.inj h1).symm
 have hxm:=zc hx
 have hym:=zc hy
 obtain ⟨b1,o1,cs1,r1,rfl,lb1,_,gb1,hc1⟩:=g1 (by intro e;rw [e] at hx;simp at hx)
 obtain ⟨b2,o2,cs2,r2,rfl,lb2,_,gb2,hc2⟩:=g2 (by intro e;rw [e] at hy;simp at hy)
 have x4:(cs1.drop (o1+(i:Int).toNat*4)).take 4=x.V:=by rw [zt];exact hc1 i x hx
 have y4:(cs2.drop (o2+(i:Int).toNat*4)).take 4=y.V:=by rw [zt];exact hc2 i y hy
 have xl:=jfP x4 rfl
 have yl:=jfP y4 rfl
 have gb1':g.get b1=some (.cells cs1 r1):=by rw [og.2 b1 lb1,gb1]
 have gb2':g.get b2=some (.cells cs2 r2):=by rw [og.2 b2 lb2,gb2]
 have hfx:=hf x.sp (List.mem_map_of_mem hxm)
 obtain ⟨h3,e3,o3⟩:=jlf hcl (d:=d-1) om ((s1 x hxm).old og) hfx
 obtain ⟨h4,e4,o4⟩:=jlf hcl (d:=d-1) om ((s2 y hym).old (og.trans o3)) (by rw [<- hxy];exact hfx)
 rw [<- hxy] at e4
 have gb2'':h3.get b2=some (.cells cs2 r2):=by rw [o3.2 b2 (zq lb2 og.1),gb2']
 have hi1:(i:Int)+1=((i+1:Nat):Int):=by omega
 have hlt2:i<l2.length:=by omega
 clear g1 g2 s1 s2 hf hc1 hc2 hne
 refine qx ?_
 refine zcw rfl gb1' xl ?_
 rw [x4]
 refine qx ?_
 refine zcw rfl gb2' yl ?_
 rw [y4]
 refine Zm rfl e3 (jfE rfl gb2'' yl y4 rfl jba) ?_
 repeat' (first|refine qxy ?_|(refine zsp ?_ ?_<;>intro _)|fail)
 ·next hh=>simp at hh
 rw [hi1]
 exact ih (l1.length-(i+1)) om _ _ ⟨i+1,rfl,by omega,rfl,og.trans (o3.trans o4)⟩
variable {ow:Nat->Nat} {ro dat:Nat->Prop} {p sb:Nat} {bs:Option Nat} {X:Nat->Prop} {L:List SpX} {o:List Int}
end
abbrev rd0:St->Bool:=fun _=>false
theorem jfs {n a b:Int} (ha:0<=a) (hb:0<=b):jaN (jaN n a) b=jaN n (a+b):=by
 unfold jaN
 split<;>split<;>(try split)<;>omega
theorem mvS_now {m:Mv} {st:St} : (mvS m st).2.now=st.now:=by
 unfold mvS
 split
 ·next h=>
  have:=h.1;have:=h.2.1
  have hop:m.op=1\/m.op=2\/m.op=3\/m.op=4\/m.op=5\/m.op=6\/m.op=7:=by omega
  rcases hop with c | c | c | c | c | c | c
  ·rw [Mv.go_1 c]
  ·rw [Mv.go_2 c]
  ·rw [Mv.go_3 c]
  ·rw [Mv.go_4 c]
  ·rw [Mv.go_5 c]
  ·rw [Mv.go_6 c]
  ·rw [Mv.go_7 c]
 ·rfl
theorem jdg : ∀ {l:List Mv} {st:St},(mvsS l st).now=st.now
 | [],_=>rfl
 | m :: l,st=>by
  show (mvsS l (mvS m st).2).now=_
  rw [jdg,mvS_now]
theorem jeZ : ∀ {l:List Sp} {o:List Int} {st:St},(jdt l o st).2.2.2.now=st.now
 | [],_,_=>rfl
 | x :: l,o,st=>by
  by_cases ht:x.ticks=0
  ·cases hi:x.intr with
   | true=>rw [jgw ht hi];exact jdg
   | false=>rw [jgv ht hi,jeZ,jdg]
  ·rw [jeQ ht]
theorem jhQ : ∀ {l:List Sp} {a:Int} {o:List Int} {st:St},(∀ x∈l,0<=x.ticks)->0<=a->0<=st.now->st.now+a<=18446744073709551615 ->
  ((napS rd0 false l a o st).1=2/\(napS rd0 false l a o st).2.2.2.now=st.now+a)\/((napS rd0 false l a o st).1=3/\st.now<=(napS rd0 false l a o st).2.2.2.now/\(napS rd0 false l a o st).2.2.2.now<=st.now+a)
 | [],a,o,st,_,h0,h1,h2=>by
  have e : ∀ t:Int,0<=t->t<=a->jaN st.now t=st.now+t:=fun t k1 k2=>by unfold jaN;rw [zz om]
  by_cases hw:a=0
  ·rw [jdJ rfl rfl hw];exact .inl ⟨rfl,by show st.now=_;omega⟩
  ·rw [jcD rfl rfl hw];exact .inl ⟨rfl,e a h0 om⟩
 | x :: l,a,o,st,hx,h0,h1,h2=>by
  have e : ∀ t:Int,0<=t->t<=a->jaN st.now t=st.now+t:=fun t k1 k2=>by unfold jaN;rw [zz om]
  have x0:=hx x (zi ..)
  by_cases hw:a=0
  ·rw [jdJ rfl rfl hw];exact .inl ⟨rfl,by show st.now=_;omega⟩
  by_cases hl:a<x.ticks
  ·rw [jcd rfl rfl hw hl];exact .inl ⟨rfl,e a h0 om⟩
  cases hi:x.intr with
  | true=>
   rw [jfz rfl (fun e=>hw e.2) (fun e=>hl e.2) hi]
   refine .inr ⟨rfl,?_,?_⟩
   all_goals
    show _<=_
    simp only [jdg]
    rw [e x.ticks x0 om]
    omega
  | false=>
   rw [jdy rfl (fun e=>hw e.2) (fun e=>hl e.2) hi]
   have en:(mvsS x.moves { st with now:=jaN st.now x.ticks }).now=st.now+x.ticks:=by rw [jdg];exact e x.ticks x0 om
   have ih:=jhQ (l:=l) (a:=a-min a x.ticks) (o:=x.order) (st:=mvsS x.moves { st with now:=jaN st.now x.ticks }) (fun y hy=>hx y (zk _ hy)) om om om
   rw [en] at ih
   rcases ih with ⟨q1,q2⟩ | ⟨q1,q2,q3⟩
   ·exact .inl ⟨q1,by omega⟩
   ·exact .inr ⟨q1,by omega,by omega⟩
theorem jjC : ∀ {l:List Sp} {a b:Int} {o:List Int} {st:St} {l1 l2:List Sp} {o1 o2:List Int} {s1 s2:St},(∀ x∈l,0<=x.ticks)->0<=a->0<=b->st.now<=18446744073709551615 ->
  napS rd0 false l a o st=(2,l1,o1,s1)->napS rd0 false l1 b o1 s1=(2,l2,o2,s2)->napS rd0 false l (a+b) o st=(2,l2,o2,s2)
 | [],a,b,o,st,l1,l2,o1,o2,s1,s2,_,ha,hb,hn,e1,e2=>by
  by_cases hw:a=0
  ·rw [jdJ rfl rfl hw] at e1
   cases e1
   rw [hw,Int.zero_add];exact e2
  ·rw [jcD rfl rfl hw] at e1
   cases e1
   by_cases hb0:b=0
   ·rw [jdJ rfl rfl hb0] at e2
    cases e2
    rw [hb0,Int.add_zero,jcD rfl rfl hw]
   ·rw [jcD rfl rfl hb0] at e2
    cases e2
    rw [jcD rfl rfl om]
    dsimp only
    rw [jfs ha hb]
 | x :: l,a,b,o,st,l1,l2,o1,o2,s1,s2,hx,ha,hb,hn,e1,e2=>by
  have x0:=hx x (zi ..)
  have hl' : ∀ y∈l,0<=y.ticks:=fun y hy=>hx y (zk _ hy)
  by_cases hw:a=0
  ·rw [jdJ rfl rfl hw] at e1
   cases e1
   rw [hw,Int.zero_add];exact e2
  by_cases hl:a<x.ticks
  ·rw [jcd rfl rfl hw hl] at e1
   cases e1
   by_cases hb0:b=0
   ·rw [jdJ rfl rfl hb0] at e2
    cases e2
    rw [hb0,Int.add_zero,jcd rfl rfl hw hl]
   by_cases hl2:b<x.ticks-a
   ·rw [jcd (x := { x with ticks:=x.ticks-a }) rfl rfl hb0 hl2] at e2
    cases e2
    rw [jcd rfl rfl om (show a+b<x.ticks by omega)]
    dsimp only
    rw [jfs ha hb,show x.ticks-(a+b)=x.ticks-a-b by omega]
   cases hi:x.intr with
   | true=>
    rw [jfz (x := { x with ticks:=x.ticks-a }) rfl (fun e=>hb0 e.2) (fun e=>hl2 e.2) hi] at e2
    cases e2
   | false=>
    rw [jdy (x := { x with ticks:=x.ticks-a }) rfl (fun e=>hb0 e.2) (fun e=>hl2 e.2) hi] at e2
    rw [jdy rfl (fun e=>by have:=e.2;omega) (fun e=>by have:=e.2;omega) hi]
    have e3:jaN (jaN st.now a) (x.ticks-a)=jaN st.now x.ticks:=by rw [jfs ha om,show a+(x.ticks-a)=x.ticks by omega]
    have e4:b-min b (x.ticks-a)=a+b-min (a+b) x.ticks:=by omega
    rw [<- e4,<- e3]
    exact e2
  cases hi:x.intr with
  | true=>
   rw [jfz rfl (fun e=>hw e.2) (fun e=>hl e.2) hi] at e1
   cases e1
  | false=>
   rw [jdy rfl (fun e=>hw e.2) (fun e=>hl e.2) hi] at e1
   rw [jdy rfl (fun e=>by have:=e.2;omega) (fun e=>by have:=e.2;omega) hi]
   have e4:a+b-min (a+b) x.ticks=(a-min a x.ticks)+b:=by omega
   rw [e4]
   refine jjC hl' om hb ?_ e1 e2
   rw [jdg]
   show jaN st.now x.ticks<=_
   unfold jaN
   split<;>omega
theorem jkc {l:List Sp} {a b:Int} {o:List Int} {st:St} {l1 l2:List Sp} {o1 o2:List Int} {s1 s2:St} (hx : ∀ x∈l,0<=x.ticks) (ha:0<=a) (hb:0<=b) (hn:st.now<=18446744073709551615)
  (e1:ja6 rd0 false l a o st=(2,l1,o1,s1)) (hz : ∀ x M,l1=x :: M->x.ticks≠0) (e2:ja6 rd0 false l1 b o1 s1=(2,l2,o2,s2)):ja6 rd0 false l (a+b) o st=(2,l2,o2,s2):=by
 unfold ja6 at e1 e2 ⊢
 have hz1:jdt l1 o1 s1=(false,l1,o1,s1):=by
  cases l1 with
  | nil=>rfl
  | cons x M=>exact jeQ (hz x M rfl)
 rw [hz1] at e2
 have hn':=jeZ (l:=l) (o:=o) (st:=st)
 have ht:=(jd3 (P:=fun x=>0<=x.ticks) (o:=o) (st:=st) hx).1
 generalize jdt l o st=z at e1 hn' ht ⊢
 obtain ⟨c,l',o',st'⟩:=z
 cases c with
 | true=>cases e1
 | false=>exact jjC ht ha hb (by show st'.now<=_;have hn':st'.now=st.now:=hn';omega) e1 e2
structure WB (h:H) (w s:Nat) (ow:Nat->Nat) (ro:Nat->Prop) (J:H->Prop) (a:St):Prop where
 W:WSt h w s ow a.ws a.now a.tb a.no
 J : ∀ h',h.nx<=h'.nx->(∀ j,j<h.nx->ro j->h'.get j=h.get j)->J h'
 sep : ∀ j,ro j->ow j=0
 lt : ∀ j,ro j->j<h.nx
structure Ow (h:H) (ow:Nat->Nat) (ro:Nat->Prop) (s:Nat):Prop where
 lt:s<h.nx
 o0:ow s=0
 r0 : ¬ ro s
theorem Ow.fs {h h':H} {a b:Nat->Nat} {x y S:Nat->Prop} {s:Nat} (o:Ow h a x s) (f:Fs h h' a x b y S):Ow h' b y s :=
 ⟨zq o.lt f.ch.nx,by rw [f.tag s o.lt];exact o.o0,fun e=>o.r0 ((f.rtag s o.lt).1 e)⟩
theorem Fs.getw {h h':H} {a b:Nat->Nat} {x y S:Nat->Prop} {z:Nat} (f:Fs h h' a x b y S) (o:Ow h a x z) (hS : ¬ S z):h'.get z=h.get z :=
 f.ch.get z o.lt fun e=>e.elim (fun e=>e o.o0) fun e=>e.elim o.r0 hS
section
variable {h h':H} {w s:Nat} {ow ow':Nat->Nat} {ro:Nat->Prop} {J:H->Prop} {a a':St}
theorem WB.wc (b:WB h w s ow ro J a) (W:WSt h' w s ow' a'.ws a'.now a'.tb a'.no) (t:To h h' ow ow'):WB h' w s ow' ro J a' :=
 ⟨W,fun g gx gk=>b.J g (zx t.ch.nx gx) fun j hj hr=>by rw [gk j (zq hj t.ch.nx) hr,t.ch.get j hj fun e=>e (b.sep j hr)],fun j hj=>by rw [t.tag j (b.lt j hj)];exact b.sep j hj,fun j hj=>zq (b.lt j hj) t.ch.nx⟩
theorem WB.old (b:WB h w s ow ro J a) (o:Old h h'):WB h' w s ow ro J a:=b.wc (b.W.old o) (To.of_old o)
theorem WB.set (b:WB h w s ow ro J a) {z:Nat} (o:Ow h ow ro z) {ob:Obj} : WB (h.set z ob) w s ow ro J a :=
 ⟨b.W.keep (zp _) fun j hj=>jaa fun e=>hj (e ▸ o.o0),fun g gx gk=>b.J g gx fun j hj hr=>(gk j hj hr).trans (jaa fun e=>o.r0 (e ▸ hr)),b.sep,b.lt⟩
variable {cl:Nat->Call} (hcl:Sem cl) {d i:Nat} {m:Mv} {dv:V} {t:Int}
include hcl
theorem tb_Make (hd:13<=d) (b:WB h w s ow ro J a) (so:StOk a i) (hi:i<=900000) (hv:VB h dv m.D) (hz:m.D≠[] -> ∀ z,dv.at?=some z->ow z=0) :
  ∃ h' ow',cl d (.fn 44) [.p w 0,.agg (mvV m dv)] h=some (.tup [.i (mvS m a).1.1,.i (mvS m a).1.2],h')/\WB h' w s ow' ro J (mvS m a).2/\Fm h h' ow ro ow' ro:=by
 obtain ⟨h1,ow1,e1,W1,t1⟩:=wm_Make hcl (m:=m) (dv:=dv) hd b.W so hi hv hz
 exact ⟨h1,ow1,e1,b.wc W1 t1,Fm.to t1⟩
theorem jiD (hd:2<=d) (b:WB h w s ow ro J a) (so:StOk a i) (t0:0<=t) (t1:t<=18446744073709551615) :
  ∃ h',cl d (.fn 23) [.p w 0,.int .u64 t] h=some (.tup [],h')/\WB h' w s ow ro J { a with now:=jaN a.now t } /\ Fm h h' ow ro ow ro:=by
 obtain ⟨h1,e1,W1,tt⟩:=ww_Pass hcl (d:=d) hd b.W so.now.1 so.now.2 t0 t1
 exact ⟨h1,e1,b.wc (a' := { a with now:=jaN a.now t }) W1 tt,Fm.to tt⟩
end
section
variable {cl:Nat->Call} (hcl:Sem cl) {h:H} {w s:Nat} {ow:Nat->Nat} {ro:Nat->Prop} {J:H->Prop} {a:St} {d i:Nat}
include hcl
theorem tm_take {sb:Nat} {X:Nat->Prop} {v ov0:V} {x:SpX} {L:List SpX} (hd:15<=d) (b:WB h w s ow ro J a) (so:StOk a i) (hi:i+x.ml.length<=900000) (hs:h.get sb=some (.cells [v,ov0] false)) (own:Ow h ow ro sb) (A:At4 h (PB ow ro sb) SpX.V v (x :: L) /\ ∀ y∈x :: L,StepAt h (fun z=>PB ow ro sb z/\X z) (fun z=>PB ow ro sb z/\X z) y) (hf:x.few) :
  ∃ h' ow' v',cl d (.fn 22) [.p sb 0,.p w 0] h=some (.bool x.intr,h')/\WB h' w s ow' ro J (mvsS x.sp.moves a)/\StOk (mvsS x.sp.moves a) (i+x.ml.length)/\h'.get sb=some (.cells [v',x.ov] false)/\v'.at?=v.at? /\
   (At4 h' (PB ow' ro sb) SpX.V v' L /\ ∀ y∈L,StepAt h' (fun z=>PB ow' ro sb z/\X z) (fun z=>PB ow' ro sb z/\X z) y)/\(VI h' x.ov x.ol/\(x.ol≠[] -> ∀ z,x.ov.at?=some z->PB ow' ro sb z/\X z))/\Fs h h' ow ro ow' ro (· = sb):=by
 suffices q : ∃ w' h',cl d (.fn 22) [.p sb 0,.p w 0] h=some (w',h') /\ ∃ ow' v',w' = .bool x.intr/\WB h' w s ow' ro J (mvsS x.sp.moves a)/\StOk (mvsS x.sp.moves a) (i+x.ml.length)/\h'.get sb=some (.cells [v',x.ov] false)/\v'.at?=v.at? /\
   (At4 h' (PB ow' ro sb) SpX.V v' L /\ ∀ y∈L,StepAt h' (fun z=>PB ow' ro sb z/\X z) (fun z=>PB ow' ro sb z/\X z) y)/\(VI h' x.ov x.ol/\(x.ol≠[] -> ∀ z,x.ov.at?=some z->PB ow' ro sb z/\X z))/\Fs h h' ow ro ow' ro (· = sb) by
  obtain ⟨_,h',e,ow',v',rfl,q⟩:=q;exact ⟨h',ow',v',e,q⟩
 obtain ⟨ad,c,rfl,_,ft,g⟩:=id A.1
 obtain ⟨bs,o,cs,rr,rfl,lb,pb,gb,hc⟩:=g Zd
 have sx:=A.2 x (zi ..)
 have h4:(cs.drop (o+(0:Int).toNat*4)).take 4=x.V:=hc 0 x rfl
 have hlen:=jfP h4 rfl
 have hone:=SpX.one sx
 have ls:=own.lt
 obtain ⟨ao,co,eo,_⟩:=id sx.ov.1
 obtain ⟨am,cm,em,_,_,gm⟩:=id sx.mv
 have q1:(x.V)[0+1]?=some (.bool x.intr):=rfl
 have q2:(x.V)[0+2]?=some (.slice ao x.ol.length co):=by rw [<- eo];rfl
 have q3:(x.V)[0+3]?=some (.slice am x.ml.length cm):=by rw [<- em];rfl
 have hlc:(0:Int)<(((x :: L).length:Nat):Int):=by simp
 have o1:Old h ((h.new (.cells [.int .u64 0,.bool false,.nils,.nils] false)).set h.nx (.cells x.V false)):=(Zn h).new.set (zp _)
 have g1:((h.new (.cells [.int .u64 0,.bool false,.nils,.nils] false)).set h.nx (.cells x.V false)).get h.nx=some (.cells x.V false):=jab _
 have s1:((h.new (.cells [.int .u64 0,.bool false,.nils,.nils] false)).set h.nx (.cells x.V false)).get sb=some (.cells [.slice (some (bs,o)) (x :: L).length c,ov0] false):=by rw [o1.2 _ ls,hs]
 have n1:((h.new (.cells [.int .u64 0,.bool false,.nils,.nils] false)).set h.nx (.cells x.V false)).nx=h.nx+1:=rfl
 generalize hG:(h.new (.cells [.int .u64 0,.bool false,.nils,.nils] false)).set h.nx (.cells x.V false)=G at o1 g1 s1 n1
 have b1:=(b.old o1).set (own.fs (Fs.old (S:=fun j=>j=sb) o1)) (ob := .cells [.slice (some (bs,o+1*4)) ((x :: L).length-1) (c.less 1),ov0] false)
 have f1:Fs h (G.set sb (.cells [.slice (some (bs,o+1*4)) ((x :: L).length-1) (c.less 1),ov0] false)) ow ro ow ro (· = sb):=(Fs.old o1).trans (Fs.set rfl) fun _ _ e=>e.symm
 have gs1:(G.set sb (.cells [.slice (some (bs,o+1*4)) ((x :: L).length-1) (c.less 1),ov0] false)).get sb=some (.cells [.slice (some (bs,o+1*4)) ((x :: L).length-1) (c.less 1),ov0] false):=jab _
 have gl1:(G.set sb (.cells [.slice (some (bs,o+1*4)) ((x :: L).length-1) (c.less 1),ov0] false)).get h.nx=some (.cells x.V false):=by rw [jaa om,g1]
 have nl1:h.nx<(G.set sb (.cells [.slice (some (bs,o+1*4)) ((x :: L).length-1) (c.less 1),ov0] false)).nx:=by simp;omega
 have zl1:ow h.nx=0 /\ ¬ ro h.nx/\h.nx≠sb:=⟨b.W.top (zp _),fun e=>by have:=b.lt _ e;omega,by omega⟩
 have At:At4 h (PB ow ro sb) SpX.V (.slice (some (bs,o+1*4)) ((x :: L).length-1) (c.less 1)) L:=At4.tail rfl A.1
 have AL : ∀ y∈L,StepAt h (fun z=>PB ow ro sb z/\X z) (fun z=>PB ow ro sb z/\X z) y:=fun y hy=>A.2 y (zk _ hy)
 generalize hv1:V.slice (some (bs,o+1*4)) ((x :: L).length-1) (c.less 1)=v1 at b1 f1 gs1 gl1 nl1 At
 have hv1a:v1.at?=some bs:=by rw [<- hv1];rfl
 generalize hH:G.set sb (.cells [v1,ov0] false)=H1 at b1 f1 gs1 gl1 nl1
 refine aT hcl ?_
 obtain ⟨C,hC⟩ : ∃ C,C=c22_3:=⟨_,rfl⟩
 simp only [c22,c22_4,<- hC,yB]
 have T:Run (cl (d-1)) fuel C [] [(0,.p sb 0),(1,.p w 0),(5,.p h.nx 0)] G (Fin c22.res fun w' h'=>∃ ow' v',w' = .bool x.intr/\WB h' w s ow' ro J (mvsS x.sp.moves a)/\StOk (mvsS x.sp.moves a) (i+x.ml.length)/\h'.get sb=some (.cells [v',x.ov] false)/\v'.at?=some bs /\
   (At4 h' (PB ow' ro sb) SpX.V v' L /\ ∀ y∈L,StepAt h' (fun z=>PB ow' ro sb z/\X z) (fun z=>PB ow' ro sb z/\X z) y)/\(VI h' x.ov x.ol/\(x.ol≠[] -> ∀ z,x.ov.at?=some z->PB ow' ro sb z/\X z))/\Fs h h' ow ro ow' ro (· = sb)):=by
  rw [hC]
  clear hC hG o1 n1 gb hc g hs b A
  refine qx ?_
  refine Ops.slice_l (sz:=4) (l:=1) rfl rfl Zd ft ?_
  rw [hv1]
  have hv1o:v1.one=true:=by rw [<- hv1];rfl
  refine qx ?_
  refine zcs rfl rfl hv1o s1 Zd ?_
  rw [show ([.slice (some (bs,o)) (x :: L).length c,ov0]:List V).set 0 v1=[v1,ov0] from rfl,hH]
  clear hv1 hH s1 g1
  refine qx ?_
  refine Zl (fun m e g=>∃ (j:Nat) (ow':Nat->Nat),m=x.ml.length-j/\j<=x.ml.length/\e=[(0,.p sb 0),(1,.p w 0),(5,.p h.nx 0),(23,.slice am x.ml.length cm),(24,.i (x.ml.length:Int)),(25,.i (j:Int))]/\WB g w s ow' ro J (mvsS ((x.ml.take j).map MvX.m) a)/\StOk (mvsS ((x.ml.take j).map MvX.m) a) (i+j)/\Fs h g ow ro ow' ro (· = sb)/\g.get sb=some (.cells [v1,ov0] false)/\g.get h.nx=some (.cells x.V false)/\h.nx<g.nx/\ow' h.nx=0)
   (k:=x.ml.length) (by show _<100000;have:=hf.1;omega) ⟨0,ow,rfl,by omega,rfl,b1,so,f1,gs1,gl1,nl1,zl1.1⟩ ?_
  clear b1 f1 gs1 gl1 nl1
  rintro _ _ g ⟨j,ow1,rfl,hj,rfl,bb,sj,fj,gsb,glx,nlx,zlx⟩ n' ih
  by_cases hlt:(j:Int)<x.ml.length
  case neg=>
   obtain rfl:j=x.ml.length:=by omega
   rw [List.take_length] at bb sj
   have ownj:=own.fs fj
   have bf:=bb.set ownj (ob := .cells [v1,x.ov] false)
   have ff:Fs h (g.set sb (.cells [v1,x.ov] false)) ow ro ow1 ro (· = sb):=fj.trans (Fs.set rfl) fun _ _ e=>e.symm
   have At':=At.keep ff.ch.nx fun z hz hp=>ff.pb hz hp
   have kk : ∀ z,z<h.nx->(PB ow ro sb z/\X z)->(g.set sb (.cells [v1,x.ov] false)).get z=h.get z/\(PB ow1 ro sb z/\X z):=fun z hz hp=>⟨(ff.pb hz hp.1).1,(ff.pb hz hp.1).2,hp.2⟩
   have AL' : ∀ y∈L,StepAt (g.set sb (.cells [v1,x.ov] false)) (fun z=>PB ow1 ro sb z/\X z) (fun z=>PB ow1 ro sb z/\X z) y:=fun y hy=>(AL y hy).keep ff.ch.nx kk kk
   have ov':=(sx.keep ff.ch.nx kk kk).ov
   have hsn:(g.set sb (.cells [v1,x.ov] false)).get sb=some (.cells [v1,x.ov] false):=jab _
   clear ih gm At AL sx bb fj
   clear kk
   rw [eo] at bf ff At' AL' ov' hsn ⊢
   refine Ga ?_
   exact ⟨ow1,v1,rfl,bf,sj,hsn,hv1a,⟨At',AL'⟩,ov',ff⟩
  obtain ⟨y,hy⟩:=jfa (l:=x.ml) (i:=j) om
  obtain ⟨mb,mo,ms,mr,rfl,lm,pm,hgm,hmc⟩:=gm (by intro e;rw [e] at hy;simp at hy)
  have gmb:g.get mb=some (.cells ms mr):=by rw [(fj.pb lm pm.1).1,hgm]
  have m4:(ms.drop (mo+(j:Int).toNat*4)).take 4=y.V:=by rw [zt];exact hmc j y hy
  have mlen:=jfP m4 rfl
  have hym:=zc hy
  obtain ⟨vy,zy⟩:=sx.dv y hym
  have vyg:VB g y.dv y.m.D:=vy.keep2 fj.ch.nx fun hl z hz=>(fj.pb (vy.lt hl hz) (zy hl z hz).1).1
  obtain ⟨da,dc,ed,_⟩:=id vy
  have yone:(MvX.V y).all V.one=true:=by
   show [V.i y.m.op,.i y.m.wire,.i y.m.n,y.dv].all V.one=true
   rw [ed];rfl
  have o2:Old g ((g.new (.cells [.i 0,.i 0,.i 0,.nils] false)).set g.nx (.cells y.V false)):=(Zn g).new.set (zp _)
  have g2:((g.new (.cells [.i 0,.i 0,.i 0,.nils] false)).set g.nx (.cells y.V false)).get g.nx=some (.cells y.V false):=jab _
  have hj1:(j:Int)+1=((j+1:Nat):Int):=by omega
  have hfl:=hf.2.2 y hym
  clear gm hmc
  refine qx ?_
  refine zcw rfl gmb mlen ?_
  rw [m4]
  refine qm ?_
  refine zct (n:=4) (o:=0) (vs:=y.V) rfl rfl rfl yone (jac _) Zd ?_
  rw [show jay ([.i 0,.i 0,.i 0,.nils]:List V) 0 y.V=y.V from rfl]
  generalize (g.new (.cells [.i 0,.i 0,.i 0,.nils] false)).set g.nx (.cells y.V false)=G2 at o2 g2
  obtain ⟨g3,ow3,e3,b3,f3⟩:=tb_Make hcl (d:=d-1) (m:=y.m) (dv:=y.dv) om (bb.old o2) sj om (vyg.keep2 o2.1 fun hl z hz=>o2.2 z (vyg.lt hl hz)) fun hl z hz=>(fj.pb (vy.lt hl hz) (zy hl z hz).1).2.1
  have ff:Fs h g3 ow ro ow3 ro (· = sb):=fj.trans (.of_fm ((Fm.old o2).trans f3)) fun _ _ e=>e
  have ownj:=own.fs fj
  have nx2:=o2.1
  have ks:g3.get sb=some (.cells [v1,ov0] false):=by rw [f3.ch.get sb (by have:=ownj.lt;omega) fun e=>e.elim (fun e=>e ownj.o0) ownj.r0,o2.2 sb ownj.lt,gsb]
  have kl:g3.get h.nx=some (.cells x.V false):=by rw [f3.ch.get h.nx om fun e=>e.elim (fun e=>e zlx) zl1.2.1,o2.2 _ nlx,glx]
  have zl3:ow3 h.nx=0:=by rw [f3.tag h.nx om];exact zlx
  have nx3:=f3.ch.nx
  rw [<- jf1,<- jjF hy] at b3
  have s3:=mvS_ok (m:=y.m) sj
  rw [<- jf1,<- jjF hy] at s3
  clear bb sj fj gsb glx sx At AL vy vyg
  refine qm ?_
  rw [hj1]
  exact ih (x.ml.length-(j+1)) om _ _ ⟨j+1,ow3,rfl,by omega,rfl,b3,s3,ff,ks,kl,by omega,zl3⟩
 clear A b sx At AL g hc f1 b1 gs1 gl1 hH hv1
 refine qm ?_
 refine zcw rfl gb hlen ?_
 rw [h4]
 refine qm ?_
 refine zct (n:=4) (o:=0) (vs:=x.V) rfl rfl rfl hone (jac _) Zd ?_
 rw [show jay ([.int .u64 0,.bool false,.nils,.nils]:List V) 0 x.V=x.V from rfl,hG]
 refine qm ?_
 exact T
end
structure ST (h:H) (ow:Nat->Nat) (ro:Nat->Prop) (sb:Nat) (bs:Option Nat) (X:Nat->Prop) (L:List SpX) (o:List Int):Prop where
 own:Ow h ow ro sb
 bown : ∀ z,bs=some z->Ow h ow ro z/\z≠sb /\ ∃ cs,h.get z=some (.cells cs false)
 ex : ∃ v ov,v.at?=bs/\h.get sb=some (.cells [v,ov] false)/\At4 h (PB ow ro sb) SpX.V v L/\(∀ y∈L,StepAt h (fun z=>PB ow ro sb z/\(bs≠some z/\X z)) (fun z=>PB ow ro sb z/\(bs≠some z/\X z)) y)/\VI h ov o/\(o≠[] -> ∀ z,ov.at?=some z->PB ow ro sb z/\(bs≠some z/\X z))
 few : ∀ x∈L,x.few
theorem ST.fs {h h':H} {ow ow':Nat->Nat} {ro ro' S X:Nat->Prop} {sb:Nat} {bs:Option Nat} {L:List SpX} {o:List Int} (a:ST h ow ro sb bs X L o) (f:Fs h h' ow ro ow' ro' S) (h1 : ¬ S sb) (h2 : ∀ z,bs=some z -> ¬ S z) (h3 : ∀ z,X z -> ¬ S z):ST h' ow' ro' sb bs X L o:=by
 obtain ⟨v,ov,e1,e2,e3,e4,e5,e6⟩:=a.ex
 have kp : ∀ z,z<h.nx->(PB ow ro sb z/\(bs≠some z/\X z))->h'.get z=h.get z/\(PB ow' ro' sb z/\(bs≠some z/\X z)):=fun z hz hp=>⟨f.ch.get z hz fun e=>e.elim (fun e=>e hp.1.1) fun e=>e.elim hp.1.2.1 (h3 z hp.2.2),⟨by rw [f.tag z hz];exact hp.1.1,fun e=>hp.1.2.1 ((f.rtag z hz).1 e),hp.1.2.2⟩,hp.2⟩
 refine ⟨a.own.fs f,fun z hz=>?_,⟨v,ov,e1,by rw [f.getw a.own h1,e2],?_,fun y hy=>(e4 y hy).keep f.ch.nx kp kp,e5.keep2 f.ch.nx fun hl z hz=>(kp z (e5.lt hl hz) (e6 hl z hz)).1,fun hl z hz=>(kp z (e5.lt hl hz) (e6 hl z hz)).2⟩,a.few⟩
 ·obtain ⟨q1,q2,cs,q3⟩:=a.bown z hz
  exact ⟨q1.fs f,q2,cs,by rw [f.getw q1 (h2 z hz),q3]⟩
 ·obtain ⟨ad,c,rfl,n,ft,g⟩:=e3
  refine ⟨ad,c,rfl,n,ft,fun hl=>?_⟩
  obtain ⟨b,oo,cs,rr,rfl,lb,pb,gb,hc⟩:=g hl
  have hz:bs=some b:=by rw [<- e1];rfl
  obtain ⟨q1,q2,_⟩:=a.bown b hz
  exact ⟨b,oo,cs,rr,rfl,zq lb f.ch.nx,⟨(q1.fs f).o0,(q1.fs f).r0,q2⟩,by rw [f.getw q1 (h2 b hz),gb],hc⟩
section
variable {cl:Nat->Call} (hcl:Sem cl) {h:H} {w s:Nat} {ow:Nat->Nat} {ro:Nat->Prop} {J:H->Prop} {a:St} {d i sb:Nat} {bs:Option Nat} {X:Nat->Prop} {x:SpX} {L:List SpX} {o:List Int}
include hcl
theorem jkO (hd:15<=d) (b:WB h w s ow ro J a) (so:StOk a i) (hi:i+x.ml.length<=900000) (A:ST h ow ro sb bs X (x :: L) o) :
  ∃ h' ow',cl d (.fn 22) [.p sb 0,.p w 0] h=some (.bool x.intr,h')/\WB h' w s ow' ro J (mvsS x.sp.moves a)/\StOk (mvsS x.sp.moves a) (i+x.ml.length)/\ST h' ow' ro sb bs X L x.ol/\Fs h h' ow ro ow' ro (· = sb):=by
 obtain ⟨v,ov,e1,e2,e3,e4,e5,e6⟩:=A.ex
 obtain ⟨h',ow',v',k1,k2,k3,k4,k5,⟨k6,k7⟩,⟨k8,k9⟩,f⟩:=tm_take hcl (X:=fun z=>bs≠some z/\X z) hd b so hi e2 A.own ⟨e3,e4⟩ (A.few x (zi ..))
 refine ⟨h',ow',k1,k2,k3,⟨A.own.fs f,fun z hz=>?_,⟨v',x.ov,by rw [k5,e1],k4,k6,k7,k8,k9⟩,fun y hy=>A.few y (zk _ hy)⟩,f⟩
 obtain ⟨q1,q2,cs,q3⟩:=A.bown z hz
 exact ⟨q1.fs f,q2,cs,by rw [f.getw q1 q2,q3]⟩
end
end Am.Sigs
