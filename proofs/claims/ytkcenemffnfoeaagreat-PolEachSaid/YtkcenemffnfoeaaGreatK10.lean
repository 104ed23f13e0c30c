/- Our own library, part 10: an abstract machine, sound for the model, and what the functions do over it. No condition. -/
import Derived.Test.YtkcenemffnfoeaaGreatK09
set_option maxHeartbeats 8000000
namespace Am
open Go
def Row (N:Nat) (h:H) (sz:Nat) (v:V) (n:Nat) (cs:List V):Prop :=
 (n=0/\cs=[]/\v = .nils) \/ ∃ q,N<=q/\q<h.nx/\v = .slice (some (q,0)) n (.grow sz)/\h.get q=some (.cells cs false)/\cs.length=n*sz
theorem Row.nil (N:Nat) (h:H) (sz:Nat):Row N h sz .nils 0 [] := .inl ⟨rfl,rfl,rfl⟩
def V.at?:V->Option Nat
 | .slice (some a) _ _=>some a.1
 | _=>none
theorem Row.keep {N sz n:Nat} {h h':H} {v:V} {cs:List V} (r:Row N h sz v n cs) (hx:h.nx<=h'.nx) (hg : ∀ q,v.at?=some q->h'.get q=h.get q):Row N h' sz v n cs:=by
 rcases r with r | ⟨q,h1,h2,rfl,h4,h5⟩
 ·exact .inl r
 ·exact .inr ⟨q,h1,by omega,rfl,by rw [hg q rfl,h4],h5⟩
theorem Row.at_ge {N sz n:Nat} {h:H} {v:V} {cs:List V} (r:Row N h sz v n cs) {q:Nat} (hq:v.at?=some q):N<=q/\q<h.nx:=by
 rcases r with ⟨_,_,rfl⟩ | ⟨q',h1,h2,rfl,h4,h5⟩
 ·cases hq
 ·cases hq;exact ⟨h1,h2⟩
theorem Row.weaken {N N' sz n:Nat} {h:H} {v:V} {cs:List V} (hN:N'<=N) (r:Row N h sz v n cs):Row N' h sz v n cs:=by
 rcases r with r | ⟨q,h1,h2⟩
 ·exact .inl r
 ·exact .inr ⟨q,by omega,h2⟩
theorem Row.shape {N sz n:Nat} {h:H} {v:V} {cs:List V} (r:Row N h sz v n cs) :
  ∃ cap:Cap,(∃ a,v = .slice a n cap) /\ ∀ i,i<n -> ∃ q,N<=q/\q<h.nx/\v = .slice (some (q,0)) n cap/\h.get q=some (.cells cs false):=by
 rcases r with ⟨rfl,_,rfl⟩ | ⟨q,e1,e2,rfl,e4,_⟩
 ·exact ⟨.fix 0,⟨none,rfl⟩,fun i hi=>by omega⟩
 ·exact ⟨.grow sz,⟨_,rfl⟩,fun i _=>⟨q,e1,e2,rfl,e4⟩⟩
theorem jdV {N sz bytes n q':Nat} {h:H} {v:V} {cs new:List V} {cap:Cap} (r:Row N h sz v n cs) (hN:N<=h.nx) (hq:h.get q'=some (.cells new false)) (hl:new.length=sz) (h1:new.all V.one=true) (hz:1<=sz)
  (hb:(n+1)*bytes<=2 ^ 46) (hn:n+1<=2 ^ 46) (hne:v.at?≠some q') :
  ∃ v' h',jbi h sz bytes v (.slice (some (q',0)) 1 cap)=some (v',h')/\Row N h' sz v' (n+1) (cs++new)/\h.nx<=h'.nx/\v'.at?=some h.nx /\ ∀ j,j<h.nx->v.at?≠some j->h'.get j=h.get j:=by
 have hsrc:ja1 h sz 1 (.slice (some (q',0)) 1 cap)=some new:=by
  have:(1*sz == 0)=false:=by simp;omega
  simp only [ja1,this,cond_false]
  rw [jcI hq (by omega),List.drop_zero,List.take_of_length_le (by omega)]
 have hcond:(Nat.ble ((n+1)*bytes) (2 ^ 46)&&Nat.ble (n+1) (2 ^ 46))=true:=by simp only [Bool.and_eq_true,Nat.ble_eq];exact ⟨hb,hn⟩
 have h10:((1:Nat) == 0)=false:=rfl
 rcases r with ⟨rfl,rfl,rfl⟩ | ⟨q,hq1,hq2,rfl,hq4,hq5⟩
 ·refine ⟨.slice (some (h.nx,0)) 1 (.grow sz),h.new (.cells new false),?_,.inr ⟨h.nx,hN,by simp,rfl,by rw [jad];rfl,by simp [hl]⟩,by simp,rfl,fun j hj _=>jac hj⟩
  simp only [jbi,lenOf,hsrc]
  rw [hcond]
  simp only [cond_true,h10,cond_false,newRow]
 ·have hg:(Nat.beq sz sz&&Nat.ble (0+n*sz) cs.length&&new.all V.one)=true:=by
   simp only [Bool.and_eq_true,Nat.ble_eq,h1,and_true]
   exact ⟨Nat.beq_refl _,by omega⟩
  have htk:(cs.drop 0).take (n*sz)=cs:=by rw [List.drop_zero,List.take_of_length_le (by omega)]
  refine ⟨.slice (some (h.nx,0)) (n+1) (.grow sz),(h.kill q).new (.cells (cs++new) false),?_,.inr ⟨h.nx,hN,by simp,rfl,?_,?_⟩,by simp,rfl,?_⟩
  ·simp only [jbi,lenOf,hsrc]
   rw [hcond]
   simp only [cond_true,h10,cond_false,hq4]
   rw [hg]
   simp only [cond_true,newRow,htk]
   rfl
  ·exact jad (h:=h.kill q) _
  ·simp [hq5,hl,Nat.add_mul]
  ·intro j hj hv
   have hjq:j≠q:=fun e=>hv (by subst e;rfl)
   rw [jac (by simpa using hj),jaj hjq]
section
variable {call:Call} {fuel base:Nat} {K:List Fr} {e:Env} {h:H} {Q:Post} {i1 i2 d1 d2:Nat} {ops:List Ins} {keep:List Nat}
theorem Ops.push {N sz bytes n:Nat} {x s:Opd} {xv sv:V} {zero cs new:List V} (hx:x.ev e=some xv) (hnew:xv.cells=new) (hl:new.length=sz) (h1:new.all V.one=true) (hz:1<=sz) (hzl:zero.length=sz)
  (hs:s.ev (layv e (some d1) (.slice (some (h.nx,0)) 1 (.fix 1)))=some sv) (r:Row N h sz sv n cs) (hN:N<=h.nx) (hb:(n+1)*bytes<=2 ^ 46) (hn:n+1<=2 ^ 46)
  (k : ∀ v' h',Row N h' sz v' (n+1) (cs++new)->h.nx<=h'.nx->(∀ q,v'.at?=some q->h.nx<=q)->(∀ j,j<h.nx->sv.at?≠some j->h'.get j=h.get j) ->
   Ops call fuel base ops keep K (layv (layv e (some d1) (.slice (some (h.nx,0)) 1 (.fix 1))) (some d2) v') h' Q) :
  Ops call fuel base (⟨i1,some d1,.bslice sz 1 zero [(0,x)],none,none,[]⟩ :: ⟨i2,some d2,.append sz bytes s (.t d1),none,none,[]⟩ :: ops) keep K e h Q:=by
 have hf:jbl zero [(0*sz,sz,xv)]=some new:=by
  have e1:(xv.cells.length == sz&&Nat.ble (0*sz+sz) zero.length)=true:=by simp [hnew,hl,hzl]
  simp only [jbl]
  rw [e1,cond_true,hnew,Nat.zero_mul,jcB _ _ (by omega)]
 refine Ops.make (ob := .cells new false) (mk:=fun b=>.slice (some (b,0)) 1 (.fix 1)) rfl ?_ ?_
 ·simp only [I.make,jbE,List.map,hx,hf]
 ·have r':Row N (h.new (.cells new false)) sz sv n cs:=r.keep (by simp) fun q hq=>jac (r.at_ge hq).2
  obtain ⟨v',h',e1,e2,e3,e4,e5⟩:=jdV (bytes:=bytes) (cap := .fix 1) r' (by simp;omega) (jad _) hl h1 hz hb hn (fun hq=>by have:=(r.at_ge hq).2;omega)
  refine Ops.step (h':=h') (v:=v') (I.run_eff rfl ?_) (k v' h' e2 (by simp at e3;omega) (fun q hq=>?_) (fun j hj hv=>?_))
  ·have h2:(Opd.t d1).ev (layv e (some d1) (.slice (some (h.nx,0)) 1 (.fix 1)))=some (.slice (some (h.nx,0)) 1 (.fix 1)):=by
    simp [Opd.ev,layv,Env.get]
   simp only [I.eff,hs,h2,e1]
  ·rw [e4] at hq;cases hq;simp
  ·rw [e5 j (by simp;omega) hv,jac hj]
end
end Am
namespace Am
open Go
def EnvX (d:Option Nat) (e e2:Env):Prop := ∀ s,some s≠d->e2.get s=e.get s
theorem jcF (k:Nat) (v:V) (e:Env) (s:Nat):Env.get ((k,v) :: e) s=if k=s then some v else e.get s:=by
 simp only [Env.get,nbeq,jdg]
theorem jb8 (e:Env) (d:Option Nat) (v:V) (s:Nat):(layv e d v).get s=if d=some s then some v else e.get s:=by
 cases d with
 | none=>simp [layv]
 | some d=>simp only [layv,jcF,Option.some.injEq]
theorem EnvX.layv {d:Option Nat} {e e2:Env} (x:EnvX d e e2) (q:Option Nat) (v:V):EnvX d (layv e q v) (layv e2 q v):=by
 intro s hs
 rw [jb8,jb8]
 split
 ·rfl
 ·exact x s hs
theorem EnvX.refl (d:Option Nat) (e:Env):EnvX d e e:=fun _ _=>rfl
def Off (d:Option Nat) (a:Ins):Prop := ∀ s,d=some s->s ∉ a.looks/\s ∉ a.clooks/\a.dst≠some s
theorem Off.none (a:Ins):Off none a:=fun s h=>by cases h
section
variable {X:Nat->Option Obj} {h h2 h':H} {call:Am.Call} {base:Nat}
theorem jfJ {e e2:Env} {i:I} (hs : ∀ s∈i.slots,e.get s=e2.get s) (h:H) (at_:Option Nat):i.run call e h at_=i.run call e2 h at_:=by
 unfold I.run
 rw [jjY hs,jeN hs,jkg hs,eff_congr hs]
theorem jil {e e2:Env} : ∀ {l:List (Nat × I × Option (Nat × Bool))},(∀ s∈(l.flatMap fun c=>c.1 :: (jfY c.2.2++c.2.1.slots)),e.get s=e2.get s) -> ∀ h,jaP e h l=jaP e2 h l
 | [],_,_=>rfl
 | (d,i,g) :: r,hs,h=>by
  simp only [List.flatMap_cons,List.mem_append,List.mem_cons] at hs
  simp only [jaP]
  rw [jch (e:=e) (e2:=e2) (g:=g) (fun s h=>hs s (.inl (.inr (.inl h)))),jeN (e:=e) (e2:=e2) (i:=i) (fun s h=>hs s (.inl (.inr (.inr h)))),hs d (.inl (.inl rfl)),
   jil (l:=r) (fun s h=>hs s (.inr h)) h]
theorem Off.agree {d:Option Nat} {a:Ins} (ho:Off d a) {e e2:Env} (x:EnvX d e e2):(∀ s∈jfY a.guard,e.get s=e2.get s)/\(∀ s∈a.i.slots,e.get s=e2.get s)/\(∀ s∈a.clooks,e.get s=e2.get s):=by
 refine ⟨fun s hs=>?_,fun s hs=>?_,fun s hs=>?_⟩
 ·refine (x s fun e=>?_).symm
  exact (ho s e.symm).1 (by unfold Ins.looks;simp [hs])
 ·refine (x s fun e=>?_).symm
  exact (ho s e.symm).1 (by unfold Ins.looks;simp [hs])
 ·refine (x s fun e=>?_).symm
  exact (ho s e.symm).2.1 hs
theorem jcy (hC:jeB call) {d:Option Nat} : ∀ {l:List Ins} {e e' e2:Env} {h h' h2:H},EnvX d e e2->Ext X h h2->(∀ a∈l,∀ k,a.at_=some k->X (base+k)=none)->(∀ a∈l,Off d a) ->
  ja4 call base l e h=some (e',h') -> ∃ e2' h2',ja4 call base l e2 h2=some (e2',h2')/\EnvX d e' e2'/\(∀ s,d=some s->e2'.get s=e2.get s)/\Ext X h' h2'
 | [],e,e',e2,h,h',h2,x,y,_,_,hr=>by cases hr;exact ⟨_,_,rfl,x,fun _ _=>rfl,y⟩
 | a :: r,e,e',e2,h,h',h2,x,y,hX,hO,hr=>by
  have hX' : ∀ b∈r,∀ k,b.at_=some k->X (base+k)=none:=fun b hb=>hX b (List.mem_cons_of_mem _ hb)
  have hO' : ∀ b∈r,Off d b:=fun b hb=>hO b (List.mem_cons_of_mem _ hb)
  have ho:=hO a (List.mem_cons_self ..)
  obtain ⟨g1,g2,g3⟩:=ho.agree x
  have hkeep : ∀ (v:V) s,d=some s->(layv e2 a.dst v).get s=e2.get s:=fun v s hs=>by
   rw [jb8,if_neg (ho s hs).2.2]
  simp only [ja4] at hr ⊢
  rw [<- jch g1]
  revert hr
  cases wanted e a.guard with
  | false=>
   dsimp only [cond_false]
   intro hr
   obtain ⟨e3,h3,q1,q2,q3,q4⟩:=jcy hC (x.layv a.dst .undef) y hX' hO' hr
   exact ⟨e3,h3,q1,q2,fun s hs=>(q3 s hs).trans (hkeep _ s hs),q4⟩
  | true=>
   dsimp only [cond_true]
   intro hr
   split at hr
   ·next v h1 h1r=>
    rw [jfJ g2] at h1r
    obtain ⟨h3,e3,x3⟩:=y.run hC (fun b hb=>by
     cases ha:a.at_ with
     | none=>rw [ha] at hb;cases hb
     | some k=>rw [ha] at hb;cases hb;exact hX a (List.mem_cons_self ..) k ha) h1r
    rw [e3]
    dsimp only
    revert hr
    rw [jil g3]
    cases hc:jaP e2 h1 a.chk with
    | false=>intro hr;cases hr
    | true=>
     dsimp only [cond_true]
     intro hr
     rw [x3.chk hc]
     obtain ⟨e4,h4,q1,q2,q3,q4⟩:=jcy hC (x.layv a.dst v) x3 hX' hO' hr
     exact ⟨e4,h4,q1,q2,fun s hs=>(q3 s hs).trans (hkeep _ s hs),q4⟩
   ·cases hr
theorem jcj {s:Nat} : ∀ {l:List Ins} {e e':Env} {h h':H},(∀ a∈l,a.dst≠some s)->ja4 call base l e h=some (e',h')->e'.get s=e.get s
 | [],e,e',h,h',_,hr=>by cases hr;rfl
 | a :: r,e,e',h,h',hs,hr=>by
  have h0 : ∀ v,(layv e a.dst v).get s=e.get s:=fun v=>by rw [jb8,if_neg (hs a (List.mem_cons_self ..))]
  have hs' : ∀ b∈r,b.dst≠some s:=fun b hb=>hs b (List.mem_cons_of_mem _ hb)
  simp only [ja4] at hr
  revert hr
  cases wanted e a.guard with
  | false=>dsimp only [cond_false];intro hr;rw [jcj hs' hr,h0]
  | true=>
   dsimp only [cond_true]
   intro hr
   split at hr
   ·revert hr
    cases jaP e _ a.chk with
    | false=>intro hr;cases hr
    | true=>dsimp only [cond_true];intro hr;rw [jcj hs' hr,h0]
   ·cases hr
theorem jcq {l':List Ins} : ∀ {l:List Ins} {e:Env} {h:H},ja4 call base (l++l') e h=match ja4 call base l e h with
  | some (e1,h1)=>ja4 call base l' e1 h1
  | none=>none
 | [],e,h=>rfl
 | a :: r,e,h=>by
  simp only [List.cons_append,ja4]
  cases wanted e a.guard with
  | false=>dsimp only [cond_false];exact jcq
  | true=>
   dsimp only [cond_true]
   cases a.i.run call e h (a.at_.map (base + ·)) with
   | none=>rfl
   | some p=>
    obtain ⟨v,h1⟩:=p
    dsimp only
    cases jaP e h1 a.chk with
    | false=>rfl
    | true=>dsimp only [cond_true];exact jcq
def jhy (a:Ins):Prop:=a.i.cls = .P\/a.i.cls = .R
theorem je1 {a:Ins} (hq:jhy a) {e:Env} {at_:Option Nat} {v:V} (hr:a.i.run call e h at_=some (v,h')):h'=h:=by
 unfold I.run at hr
 rcases hq with hq | hq<;>rw [hq] at hr<;>dsimp only at hr<;>split at hr<;>cases hr<;>rfl
theorem je2 : ∀ {l:List Ins} {e e':Env} {h h':H},(∀ a∈l,jhy a)->ja4 call base l e h=some (e',h')->h'=h
 | [],e,e',h,h',_,hr=>by cases hr;rfl
 | a :: r,e,e',h,h',hq,hr=>by
  have hq' : ∀ b∈r,jhy b:=fun b hb=>hq b (List.mem_cons_of_mem _ hb)
  simp only [ja4] at hr
  revert hr
  cases wanted e a.guard with
  | false=>exact je2 hq'
  | true=>
   dsimp only [cond_true]
   intro hr
   split at hr
   ·next h1r=>
    have:=je1 (hq a (List.mem_cons_self ..)) h1r
    subst this
    revert hr
    cases jaP e _ a.chk with
    | false=>intro hr;cases hr
    | true=>exact je2 hq'
   ·cases hr
theorem jdH {a b:Opd} (h:Opd.same a b=true):a=b:=by
 cases a<;>cases b<;>simp [Opd.same] at h
 ·rw [h]
 ·rw [V.same_eq h]
theorem sameR_eq {a b:I} (h:I.sameR a b=true):a=b:=by
 unfold I.sameR at h
 split at h
 ·rw [jdH h]
 ·simp only [Bool.and_eq_true,nbeq,decide_eq_true_eq] at h;rw [h.1,jdH h.2]
 ·rw [jdH h]
 ·simp only [Bool.and_eq_true,beq_iff_eq] at h
  obtain ⟨⟨⟨⟨rfl,h1⟩,rfl⟩,h2⟩,h3⟩:=h
  rw [V.same_eq h1,jdH h2,jdH h3]
 ·rw [jdH h]
 ·cases h
theorem jkZ {e:Env} {h:H} : ∀ {l:List (Nat × I × Option (Nat × Bool))},jaP e h l=true -> ∀ c∈l,wanted e c.2.2=true -> ∃ v,c.2.1.read e h=some v/\e.get c.1=some v
 | [],_,c,hc,_=>by cases hc
 | (d,i,g) :: r,hk,c,hc,hw=>by
  simp only [jaP,Bool.and_eq_true] at hk
  rcases List.mem_cons.1 hc with rfl | hc
  ·have:=hk.1
   dsimp only at hw
   rw [hw] at this
   dsimp only [cond_true] at this
   split at this
   ·next v u h1 h2=>rw [V.same_eq this] at h1;exact ⟨u,h1,h2⟩
   ·cases this
  ·exact jkZ hk.2 c hc hw
theorem jda {d:Option Nat} {hb:H} {ef:Env} : ∀ {l:List Ins} {e e' e2:Env} {h h':H},EnvX d e e2->(∀ a∈l,jhy a/\a.chk=[])->(∀ a∈l,Off d a) ->
  (∀ a∈l,a.i.cls = .R->(∃ d,a.dst=some d/\d ∉ a.looks/\(wanted ef a.guard=true -> ∃ v,a.i.read ef hb=some v/\ef.get d=some v))) ->
  l.Pairwise (fun a b=>a.i.cls = .R -> ∀ s,b.dst=some s->s ∉ a.looks/\a.dst≠some s)->(∀ s,e'.get s=ef.get s) ->
  ja4 call base l e h=some (e',h') -> ∃ e2',ja4 call base l e2 hb=some (e2',hb)/\EnvX d e' e2'/\(∀ s,d=some s->e2'.get s=e2.get s)
 | [],e,e',e2,h,h',x,_,_,_,_,_,hr=>by cases hr;exact ⟨_,rfl,x,fun _ _=>rfl⟩
 | a :: r,e,e',e2,h,h',x,hq,hO,hk,hp,hf,hr=>by
  have hq' : ∀ b∈r,jhy b/\b.chk=[]:=fun b hb=>hq b (List.mem_cons_of_mem _ hb)
  have hO' : ∀ b∈r,Off d b:=fun b hb=>hO b (List.mem_cons_of_mem _ hb)
  have hk':=fun b hb=>hk b (List.mem_cons_of_mem a hb)
  obtain ⟨hp1,hp'⟩:=List.pairwise_cons.1 hp
  have ho:=hO a (List.mem_cons_self ..)
  have hka:=hk a (List.mem_cons_self ..)
  obtain ⟨hqa,hca⟩:=hq a (List.mem_cons_self ..)
  obtain ⟨g1,g2,g3⟩:=ho.agree x
  have hkeep : ∀ (v:V) s,d=some s->(layv e2 a.dst v).get s=e2.get s:=fun v s hs=>by
   rw [jb8,if_neg (ho s hs).2.2]
  simp only [ja4] at hr ⊢
  rw [<- jch g1]
  revert hr
  cases hw:wanted e a.guard with
  | false=>
   dsimp only [cond_false]
   intro hr
   obtain ⟨e3,q1,q2,q3⟩:=jda (x.layv a.dst .undef) hq' hO' hk' hp' hf hr
   exact ⟨e3,q1,q2,fun s hs=>(q3 s hs).trans (hkeep _ s hs)⟩
  | true=>
   dsimp only [cond_true]
   intro hr
   split at hr
   ·next v h1 h1r=>
    have hh:=je1 hqa h1r
    subst hh
    rw [hca] at hr ⊢
    simp only [jaP,cond_true] at hr ⊢
    have hrun:a.i.run call e2 hb (a.at_.map (base + ·))=some (v,hb):=by
     rw [<- jfJ g2]
     unfold I.run at h1r ⊢
     rcases hqa with hc | hc
     ·rw [hc] at h1r ⊢
      dsimp only at h1r ⊢
      split at h1r
      ·cases h1r;rfl
      ·cases h1r
     ·rw [hc] at h1r ⊢
      dsimp only at h1r ⊢
      split at h1r
      ·next u hu=>
       cases h1r
       obtain ⟨da,hd1,hd2,hd3⟩:=hka hc
       have agree : ∀ s,s∈a.looks->ef.get s=e.get s:=by
        intro s hs
        rw [<- hf,jcj (s:=s) (fun b hb e1=>(hp1 b hb hc s e1).1 hs) hr,jb8,hd1,if_neg]
        intro e1;cases e1;exact hd2 hs
       have hv:ef.get da=some v:=by
        rw [<- hf,jcj (s:=da) (fun b hb e1=>(hp1 b hb hc da e1).2 hd1) hr,jb8,hd1,if_pos rfl]
       obtain ⟨v',r1,r2⟩:=hd3 (by rw [jch (e2:=e) fun s hs=>agree s (by unfold Ins.looks;simp [hs])];exact hw)
       rw [hv] at r2;cases r2
       rw [jeN (e2:=e) fun s hs=>agree s (by unfold Ins.looks;simp [hs])] at r1
       rw [r1]
      ·cases h1r
    rw [hrun]
    dsimp only
    obtain ⟨e4,q1,q2,q3⟩:=jda (x.layv a.dst v) hq' hO' hk' hp' hf hr
    exact ⟨e4,q1,q2,fun s hs=>(q3 s hs).trans (hkeep _ s hs)⟩
   ·cases hr
structure Free (a b:Ins):Prop where
 off:Off b.dst a
 nolook : ∀ d,a.dst=some d->d ∉ b.looks
 cls:b.i.cls ≠ .P->(a.i.cls = .E->b.i.cls = .A)/\(a.i.cls = .A->b.i.cls = .A) /\
  (a.i.cls = .R->b.i.cls = .E -> ∃ d,a.dst=some d/\(d,a.i,a.guard)∈b.chk)
structure Ok1 (a:Ins):Prop where
 chk:a.i.cls ≠ .E->a.chk=[]
 own:a.i.cls = .R -> ∀ d,a.dst=some d->d ∉ a.looks
def Keep (a b:Ins):Prop:=a.i.cls = .R -> ∀ s,b.dst=some s->s ∉ a.looks/\a.dst≠some s
def One (call:Am.Call) (base:Nat) (b:Ins) (e:Env) (h:H) (v:V) (h1:H):Prop :=
 (wanted e b.guard=false/\v = .undef/\h1=h)\/(wanted e b.guard=true/\b.i.run call e h (b.at_.map (base + ·))=some (v,h1))
theorem comm (hC:jeB call) {pre post:List Ins} {b:Ins} {e e':Env} {h h':H} (hr:ja4 call base (pre++b :: post) e h=some (e',h')) (hF : ∀ a∈pre,Free a b) (hok : ∀ a∈pre,Ok1 a) (hpw:pre.Pairwise Keep)
  (hat : ∀ k,b.at_=some k->h.get (base+k)=none/\base+k<h.nx /\ ∀ a∈pre,a.at_≠some k) (hA:b.i.cls = .A -> ∃ k,b.at_=some k) :
  ∃ v h1,One call base b e h v h1 /\ ∃ e2' h2',ja4 call base (pre++post) (layv e b.dst v) h1=some (e2',h2')/\(∀ s,e2'.get s=e'.get s)/\Ext (fun _=>none) h' h2':=by
 rw [jcq] at hr
 cases hp:ja4 call base pre e h with
 | none=>rw [hp] at hr;cases hr
 | some p=>
 obtain ⟨e1,h1⟩:=p
 rw [hp] at hr
 dsimp only at hr
 have hsame : ∀ s∈b.looks,e1.get s=e.get s:=fun s hs=>jcj (fun a ha e0=>(hF a ha).nolook s e0 hs) hp
 have hg : ∀ s∈jfY b.guard,e1.get s=e.get s:=fun s hs=>hsame s (by unfold Ins.looks;simp [hs])
 have hi : ∀ s∈b.i.slots,e1.get s=e.get s:=fun s hs=>hsame s (by unfold Ins.looks;simp [hs])
 have fin : ∀ (v:V) (hx hy:H),ja4 call base post (layv e1 b.dst v) hx=some (e',h') -> ∀ e3 h3,ja4 call base pre (layv e b.dst v) hy=some (e3,h3)->EnvX b.dst e1 e3 ->
   (∀ s,b.dst=some s->e3.get s=(layv e b.dst v).get s)->Ext (fun _=>none) hx h3 ->
   ∃ e2' h2',ja4 call base (pre++post) (layv e b.dst v) hy=some (e2',h2')/\(∀ s,e2'.get s=e'.get s)/\Ext (fun _=>none) h' h2':=by
  intro v hx hy h4 e3 h3 h5 h6 h7 h8
  rw [jcq,h5]
  dsimp only
  have hx':EnvX none (layv e1 b.dst v) e3:=by
   intro s _
   rw [jb8]
   split
   ·next e0=>rw [h7 s e0,jb8,if_pos e0]
   ·next e0=>exact h6 s fun e9=>e0 e9.symm
  obtain ⟨e4,h4',q1,q2,_,q4⟩:=jcy hC hx' h8 (fun _ _ _ _=>rfl) (fun a _=>Off.none a) h4
  exact ⟨e4,h4',q1,fun s=>q2 s (by simp),q4⟩
 have hx0 : ∀ v,EnvX b.dst e (layv e b.dst v):=fun v s hs=>by rw [jb8,if_neg fun e0=>hs e0.symm]
 have hO : ∀ a∈pre,Off b.dst a:=fun a ha=>(hF a ha).off
 have plain : ∀ v,ja4 call base post (layv e1 b.dst v) h1=some (e',h') -> ∃ e2' h2',ja4 call base (pre++post) (layv e b.dst v) h=some (e2',h2')/\(∀ s,e2'.get s=e'.get s)/\Ext (fun _=>none) h' h2':=by
  intro v h4
  obtain ⟨e3,h3,q1,q2,q3,q4⟩:=jcy hC (hx0 v) (Ext.refl h) (fun _ _ _ _=>rfl) hO hp
  exact fin v h1 h h4 e3 h3 q1 q2 q3 q4
 simp only [ja4] at hr
 rw [jch hg] at hr
 revert hr
 cases hw:wanted e b.guard with
 | false=>
  dsimp only [cond_false]
  intro hr
  exact ⟨.undef,h,.inl ⟨hw,rfl,rfl⟩,plain _ hr⟩
 | true=>
 dsimp only [cond_true]
 intro hr
 rw [jfJ hi] at hr
 split at hr
 ·next v hb hbr=>
  revert hr
  cases hc:jaP e1 hb b.chk with
  | false=>intro hr;cases hr
  | true=>
  dsimp only [cond_true]
  intro hr
  cases hcl:b.i.cls with
  | P=>
   have hq:jhy b := .inl hcl
   have:=je1 hq hbr
   subst this
   refine ⟨v,h,.inr ⟨hw,?_⟩,plain v hr⟩
   unfold I.run at hbr ⊢
   rw [hcl] at hbr ⊢
   dsimp only at hbr ⊢
   split at hbr
   ·cases hbr;rfl
   ·cases hbr
  | R=>
   have hqa : ∀ a∈pre,jhy a:=fun a ha=>by
    have:=(hF a ha).cls (by rw [hcl];simp)
    cases ha':a.i.cls with
    | P=>exact .inl ha'
    | R=>exact .inr ha'
    | A=>have:=this.2.1 ha';rw [hcl] at this;cases this
    | E=>have:=this.1 ha';rw [hcl] at this;cases this
   have hh:=je2 hqa hp
   subst hh
   have:=je1 (.inr hcl) hbr
   subst this
   exact ⟨v,_,.inr ⟨hw,hbr⟩,plain v hr⟩
  | E=>
   have hqa : ∀ a∈pre,jhy a:=fun a ha=>by
    have:=(hF a ha).cls (by rw [hcl];simp)
    cases ha':a.i.cls with
    | P=>exact .inl ha'
    | R=>exact .inr ha'
    | A=>have:=this.2.1 ha';rw [hcl] at this;cases this
    | E=>have:=this.1 ha';rw [hcl] at this;cases this
   have hh:=je2 hqa hp
   subst hh
   have hqc : ∀ a∈pre,jhy a/\a.chk=[]:=fun a ha=>⟨hqa a ha,(hok a ha).chk fun e0=>by
    rcases hqa a ha with h9 | h9<;>rw [h9] at e0<;>cases e0⟩
   obtain ⟨e3,q1,q2,q3⟩:=jda (hb:=hb) (ef:=e1) (hx0 v) hqc hO (fun a ha hR=>by
    obtain ⟨d,h6,h7⟩:=((hF a ha).cls (by rw [hcl];simp)).2.2 hR hcl
    refine ⟨d,h6,(hok a ha).own hR d h6,fun h8=>?_⟩
    exact jkZ hc _ h7 h8) hpw (fun _=>rfl) hp
   obtain ⟨e4,h4,r1⟩:=fin v hb hb hr e3 hb q1 q2 q3 (Ext.refl hb)
   exact ⟨v,hb,.inr ⟨hw,hbr⟩,e4,h4,r1⟩
  | A=>
   obtain ⟨k,hk⟩:=hA hcl
   obtain ⟨k1,k2,k3⟩:=hat k hk
   unfold I.run at hbr
   rw [hcl,hk] at hbr
   dsimp only [Option.map_some] at hbr
   split at hbr
   ·next ob mk hm=>
    cases hbr
    have hx:Ext (fun j=>if j=base+k then some ob else none) h (h.set (base+k) ob):=by
     refine ⟨rfl,fun j=>?_,fun j hj=>?_⟩
     ·rw [H.get_set]
      by_cases e0:j=base+k
      ·subst e0;simp [k1]
      ·simp [e0]
     ·by_cases e0:j=base+k
      ·subst e0;exact ⟨k2,k1⟩
      ·simp [e0] at hj
    obtain ⟨e3,h3,q1,q2,q3,q4⟩:=jcy hC (hx0 (mk (base+k))) hx (fun a ha k' hk'=>by
     have hne:base+k'≠base+k:=fun e0=>k3 a ha (by rw [hk'];congr 1;omega)
     exact if_neg hne) hO hp
    have hz:Ext (fun _=>none) (h1.set (base+k) ob) h3:=by
     refine ⟨q4.nx,fun j=>?_,fun j hj=>absurd rfl hj⟩
     rw [H.get_set,q4.get]
     by_cases e0:j=base+k
     ·have:=(q4.off j (by simp [e0])).2
      rw [this];simp [e0]
     ·simp [e0]
    obtain ⟨e4,h4,r1⟩:=fin _ _ _ hr e3 h3 q1 q2 q3 hz
    refine ⟨_,_,.inr ⟨hw,?_⟩,e4,h4,r1⟩
    unfold I.run
    rw [hcl,hk]
    dsimp only [Option.map_some]
    rw [hm]
   ·cases hbr
 ·cases hr
end
end Am
namespace Am
open Go
theorem je3 (t:Array Value) (dst:Option Nat) (x:Value):(putT t dst x).size=t.size:=by
 cases dst<;>simp [putT]
section
variable {P:Program} {C:Cx} {N:Nat} {m:Mp} {h h':H} {w:World} {e:Env} {t:Array Value} {v:V} {call:Am.Call}
theorem ERel.layv (he:ERel m e t) {dst:Option Nat} {x:Value} (hv:VRel m v x) (hd : ∀ d,dst=some d->d<t.size):ERel m (layv e dst v) (putT t dst x):=by
 intro s u hu
 rw [jb8] at hu
 cases dst with
 | none=>rw [if_neg (by simp)] at hu;exact he s u hu
 | some d=>
  have:=hd d rfl
  by_cases e0:d=s
  ·subst e0
   simp at hu;subst hu
   exact ⟨x,by simp [putT,this],hv⟩
  ·rw [if_neg (by simpa using e0)] at hu
   obtain ⟨y,h1,h2⟩:=he s u hu
   exact ⟨y,by simp [putT,Array.getElem?_setIfInBounds_ne e0,h1],h2⟩
theorem VRel.bool {b:Bool} : ∀ {v:V},VRel m v (.bool b)->v = .bool b
 | .bool _,h=>by cases h;rfl
 | .int _ _,h=>by cases h
 | .str _,h=>by cases h
 | .ptr none,h=>by cases h
 | .ptr (some _),⟨_,_,h⟩=>by cases h
 | .slice none _ _,⟨_,_,h⟩=>by cases h
 | .slice (some _) _ _,⟨_,_,_,_,h,_⟩=>by cases h
 | .map none,h=>by cases h
 | .map (some _),⟨_,_,h⟩=>by cases h
 | .clo _ _,⟨_,h,_⟩=>by cases h
 | .yld _,⟨_,_,h⟩=>by cases h
 | .nilfn,h=>by cases h
 | .bm _ _ _,⟨_,h,_⟩=>by cases h
 | .iface _ _,⟨_,h,_⟩=>by cases h
 | .nili,h=>by cases h
 | .agg _,⟨_,h,_⟩=>by cases h
 | .tup _,⟨_,h,_⟩=>by cases h
theorem jj8 (he:ERel m e t) {g:Option (Nat × Bool)} {ops:Array Oper} {o:Oper} (hM:jgI ops g o.guard=true) (hk : ∀ s b,g=some (s,b)->e.get s≠none) :
  Region.wanted o (yielded ops t)=wanted e g:=by
 unfold jgI at hM
 split at hM
 ·next h1=>rw [Region.wanted,h1];rfl
 ·next s b j b' h1=>
  simp only [Bool.and_eq_true,beq_iff_eq] at hM
  obtain ⟨rfl,hM⟩:=hM
  split at hM
  ·next o' ho'=>
   have hd:o'.dst=some s:=by simpa using hM
   rw [Region.wanted,h1]
   dsimp only
   unfold yielded
   rw [ho']
   simp only [Option.bind_some,hd]
   have hne:=hk s b rfl
   cases hs:e.get s with
   | none=>exact absurd hs hne
   | some v=>
    obtain ⟨x,hx,hv⟩:=he s v hs
    rw [hx]
    simp only [wanted,hs]
    cases x with
    | bool q=>
     have:=hv.bool
     subst this
     cases q<;>cases b<;>rfl
    | _=>
     cases v with
     | bool q=>cases hv
     | _=>rfl
  ·cases hM
 ·cases hM
theorem jd3 {nt:Nat} {ops:Array Oper} {s:Ins} (hM:insM P C nt ops s=true) : ∃ o,ops[s.ix]?=some o/\s.dst=o.dst/\(∀ d,s.dst=some d->d<nt)/\jgI ops s.guard o.guard=true/\iM P C s.i o.op=true:=by
 unfold insM at hM
 split at hM
 ·next o ho=>
  simp only [Bool.and_eq_true,beq_iff_eq] at hM
  refine ⟨o,ho,hM.1.1.1,?_,hM.1.2,hM.2⟩
  intro d hd
  have:=hM.1.1.2
  rw [hd] at this
  simp [Nat.blt] at this;omega
 ·cases hM
theorem jhV (hT:TOk P C) (hC:jea P C call) (hG:GOk C m) (hR:HRel P C m h w) (he:ERel m e t) (hN:N<=h.nx) {nt:Nat} (hnt:nt<=t.size) {ops:Array Oper} {s:Ins} (hM:insM P C nt ops s=true)
  (hg : ∀ q b,s.guard=some (q,b)->e.get q≠none) {base:Nat} (hat : ∀ k,s.at_=some k->N<=base+k/\base+k<h.nx/\m (base+k)=none/\h.get (base+k)=none) (h1:One call base s e h v h') :
  ∃ m' w' x,Step P C N m h w m' h' w'/\ERel m' (layv e s.dst v) (putT t s.dst x)/\(∀ j,j<h.nx->m j=none->h.get j=none->s.at_.map (base + ·)≠some j->m' j=none/\h'.get j=none) /\
   ∀ fn ro rest k ds cs,Steps P (lone (Fm fn ro t (.inRegion ops (s.ix :: rest) :: k) ds) cs w) (lone (Fm fn ro (putT t s.dst x) (.inRegion ops rest :: k) ds) cs w'):=by
 obtain ⟨o,ho,hdst,hlt,hgM,hiM⟩:=jd3 hM
 have hwant:=jj8 he hgM hg
 have hd : ∀ d,s.dst=some d->d<t.size:=fun d hd=>Nat.lt_of_lt_of_le (hlt d hd) hnt
 rcases h1 with ⟨hw,rfl,rfl⟩ | ⟨hw,hr⟩
 ·rw [hw] at hwant
  exact ⟨m,w,undef,Step.refl N hR,he.layv ⟨#[],rfl,rfl⟩ hd,fun j _ h1 h2 _=>⟨h1,h2⟩,fun fn ro rest k ds cs=>.one (by rw [hdst];exact jj9 ho hwant)⟩
 ·rw [hw] at hwant
  have hval : ∀ {m' w' x},(execOp (evT t) o).run P w = .ok (.value x) w'->s.i ≠ .fail->Step P C N m h w m' h' w'->VRel m' v x->(∀ j,j<h.nx->m j=none->h.get j=none->s.at_.map (base + ·)≠some j->m' j=none/\h'.get j=none) ->
    ∃ m' w' x,Step P C N m h w m' h' w'/\ERel m' (layv e s.dst v) (putT t s.dst x)/\(∀ j,j<h.nx->m j=none->h.get j=none->s.at_.map (base + ·)≠some j->m' j=none/\h'.get j=none) /\
     ∀ fn ro rest k ds cs,Steps P (lone (Fm fn ro t (.inRegion ops (s.ix :: rest) :: k) ds) cs w) (lone (Fm fn ro (putT t s.dst x) (.inRegion ops rest :: k) ds) cs w'):=by
   intro m' w' x q1 q2 q3 q4 q5
   exact ⟨m',w',x,q3,(he.mono q3.mono).layv q4 hd,q5,fun fn ro rest k ds cs=>.one (by rw [hdst];exact jee ho hwant (jkQ hiM q2) q1)⟩
  unfold I.run at hr
  cases hc:s.i.cls<;>rw [hc] at hr<;>dsimp only at hr
  ·split at hr
   ·next u hu=>
    cases hr
    obtain ⟨x,h2,h3⟩:=jjR (o:=o) hT hG he hc hiM hu w
    exact hval h2 (fun e0=>by rw [e0] at hu;simp [I.pure] at hu) (Step.refl N hR) h3 fun j _ h1 h2 _=>⟨h1,h2⟩
   ·cases hr
  ·split at hr
   ·next u hu=>
    cases hr
    obtain ⟨x,h2,h3⟩:=jjO (o:=o) hT hG hR he hc hiM hu
    exact hval h2 (fun e0=>by rw [e0] at hu;simp [I.read] at hu) (Step.refl N hR) h3 fun j _ h1 h2 _=>⟨h1,h2⟩
   ·cases hr
  ·split at hr
   ·next ob mk hm=>
    obtain ⟨co,x,w',ext,h2,h3,h4,h5⟩:=jke (o:=o) hT hG he hc hiM hm w
    have hf:s.i ≠ .fail:=fun e0=>by rw [e0] at hm;simp [I.make] at hm
    have hcase:s.at_=none \/ ∃ k,s.at_=some k:=by cases s.at_<;>simp
    rcases hcase with hat' | ⟨k,hat'⟩
    ·rw [hat'] at hr
     dsimp only [Option.map_none] at hr
     cases hr
     have hid:m h.nx=none:=by
      cases e0:m h.nx with
      | none=>rfl
      | some l=>have:=hR.dom _ _ e0;omega
     have hge:h.get h.nx=none:=by
      cases e0:h.get h.nx with
      | none=>rfl
      | some o1=>obtain ⟨l,_,e1,_⟩:=hR.obj _ _ e0;rw [hid] at e1;cases e1
     obtain ⟨h6,h7⟩:=h5 _ hid
     refine hval h2 hf (jet hR hN hid hge (fun j=>H.get_new h j ob) (by simp) (by simp) h3 h4 h6) h7 fun j hj h1 h2 _=>⟨?_,?_⟩
     ·unfold Mp.add;rw [if_neg (by omega)];exact h1
     ·rw [H.get_new,if_neg (by omega)];exact h2
    ·rw [hat'] at hr
     dsimp only [Option.map_some] at hr
     cases hr
     obtain ⟨k1,k2,k3,k4⟩:=hat k hat'
     obtain ⟨h6,h7⟩:=h5 _ k3
     refine hval h2 hf (jet hR k1 k3 k4 (fun j=>H.get_set h _ j ob) (by simp) (by simpa using k2) h3 h4 h6) h7 fun j hj h1 h2 h8=>?_
     have hne:j≠base+k:=fun e0=>h8 (by rw [hat',e0];rfl)
     refine ⟨?_,?_⟩
     ·unfold Mp.add;rw [if_neg hne];exact h1
     ·rw [H.get_set,if_neg hne];exact h2
   ·cases hr
  ·obtain ⟨m',w',x,h2,h3,h4⟩:=eff_steps (N:=h.nx) hT hC hG hR he (Nat.le_refl _) hc hiM hr ho hwant
   refine ⟨m',w',x,h2.weaken hN,(he.mono h2.mono).layv h3 hd,fun j hj q1 q2 _=>⟨h2.old j hj q1,h2.dead j hj q2⟩,?_⟩
   rw [hdst]
   exact h4
end
end Am
