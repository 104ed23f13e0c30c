/- Our own library, part 26. -/
import Derived.Test.YtbfpbbppgffpnaaGreatDoorN25
set_option maxHeartbeats 8000000
set_option linter.all false
namespace Am.Sigs
open Am Go
structure SD (h:H) (ow:Nat->Nat) (ro dat:Nat->Prop) (p sb:Nat) (X:Nat->Prop) (L:List SpX) (o:List Int):Prop where
 own:Own h ow ro dat p sb
 ex : ∃ v ov,h.get sb=some (.cells [v,ov] false)/\At4 h (fun z=>PB ow ro sb z/\X z) SpX.V v L/\(∀ y∈L,StepAt h dat dat y)/\VI h ov o/\(o≠[] -> ∀ z,ov.at?=some z->dat z)
 few : ∀ x∈L,x.few
theorem SD.fs {h h':H} {p w s rw sb:Nat} {ow ow':Nat->Nat} {ro ro' dat S X:Nat->Prop} {a r:St} {L:List SpX} {o:List Int} (A:SD h ow ro dat p sb X L o) (b:BB h p w s rw ow ro dat a r) (f:Fs h h' ow ro ow' ro' S) (h1 : ¬ S sb) (h2 : ∀ z,dat z -> ¬ S z) (h3 : ∀ z,X z -> ¬ S z):SD h' ow' ro' dat p sb X L o:=by
 obtain ⟨v,ov,e2,e3,e4,e5,e6⟩:=A.ex
 have kd : ∀ z,z<h.nx->dat z->h'.get z=h.get z/\dat z:=fun z hz hd=>⟨f.ch.get z hz fun e=>e.elim (fun e=>e (b.sep z (.inr hd))) fun e=>e.elim (b.ap hd) (h2 z hd),hd⟩
 refine ⟨A.own.fs f,⟨v,ov,by rw [f.get A.own h1,e2],e3.keep f.ch.nx fun z hz hp=>⟨f.ch.get z hz fun e=>e.elim (fun e=>e hp.1.1) fun e=>e.elim hp.1.2.1 (h3 z hp.2),⟨by rw [f.tag z hz];exact hp.1.1,fun e=>hp.1.2.1 ((f.rtag z hz).1 e),hp.1.2.2⟩,hp.2⟩,fun y hy=>(e4 y hy).keep f.ch.nx kd kd,e5.keep2 f.ch.nx fun hl z hz=>(kd z (e5.lt hl hz) (e6 hl z hz)).1,e6⟩,A.few⟩
section
variable {cl:Nat->Call} (hcl:Sem cl) {h:H} {p w s rw:Nat} {ow:Nat->Nat} {ro dat:Nat->Prop} {a r:St} {d i sb:Nat} {fd wt n:Int} {fv:Bool} {X:Nat->Prop} {x:SpX} {L:List SpX} {o:List Int}
include hcl
theorem jn5 (hd:8<=d) (b:BB h p w s rw ow ro dat a r) (so:StOk r i) (hi:i+x.ml.length<=900000) (A:SD h ow ro dat p sb X (x :: L) o) :
  ∃ h' ro',cl d (.fn F.jaX) [.p sb 0,.p rw 0] h=some (.bool x.intr,h')/\BB h' p w s rw ow ro' dat a (mvsS x.sp.moves r)/\StOk (mvsS x.sp.moves r) (i+x.ml.length)/\SD h' ow ro' dat p sb X L x.ol/\Fs h h' ow ro ow ro' (· = sb):=by
 obtain ⟨v,ov,e2,e3,e4,e5,e6⟩:=A.ex
 obtain ⟨h',ro',v',k1,k2,k3,k4,k5,⟨k6,k7⟩,⟨k8,k9⟩,f⟩:=rm_take hcl (X:=X) hd b so hi e2 A.own ⟨e3,e4⟩ (A.few x (zj ..))
 exact ⟨h',ro',k1,k2,k3,⟨A.own.fs f,⟨v',x.ov,k4,k6,k7,k8,k9⟩,fun y hy=>A.few y (zl _ hy)⟩,f⟩
theorem sd_Less (hd:1<=d) (b:BB h p w s rw ow ro dat a r) (A:SD h ow ro dat p sb X (x :: L) o) (hL:(x :: L).length<=2000) (n0:0<=n) (n1:n<=x.t) (hX : ∀ z,h.nx<=z->X z) :
  ∃ h',cl d (.fn F.jdc) [.p sb 0,.int .u64 n] h=some (.tup [],h')/\BB h' p w s rw ow ro dat a r/\SD h' ow ro dat p sb X ({ x with t:=x.t-n } :: L) o/\Fs h h' ow ro ow ro (· = sb):=by
 obtain ⟨v,ov,e2,e3,e4,e5,e6⟩:=A.ex
 have lsb:=A.own.lt
 have sx:=e4 x (zj ..)
 have x1:=sx.t1
 refine jag (at_ hcl om rfl rfl rfl ?_)
 refine qx1 ?_
 refine Ops.app4 (l:=x :: L) (f:=SpX.V) (P:=fun z=>PB ow ro sb z/\X z) (fun _=>rfl) rfl rfl om (.inl rfl) e3 om fun v' h' hk=>?_
 rcases hk with ⟨e,_⟩ | ⟨_,rfl,rfl⟩
 ·cases e
 have hlc:(0:Int)<(((x :: L).length:Nat):Int):=by simp
 have g1:(h.new (.cells ((x :: L).map SpX.V).flatten false)).get h.nx=some (.cells ((x :: L).map SpX.V).flatten false):=jac _
 have g2:(h.new (.cells ((x :: L).map SpX.V).flatten false)).get sb=some (.cells [v,ov] false):=by rw [jad lsb,e2]
 have hfl:(((x :: L).map SpX.V).flatten).length=(x :: L).length*4:=je0 (fun _=>rfl) _
 have q0:(((x :: L).map SpX.V).flatten)[0+(0:Int).toNat*4+0]?=some (.int .u64 x.t):=rfl
 have aN:At4 (h.new (.cells ((x :: L).map SpX.V).flatten false)) (fun z=>PB ow ro sb z/\X z) SpX.V (.slice (some (h.nx,0)) (x :: L).length (.grow 4)) (x :: L):=At4.of_new (fun _=>rfl) ⟨⟨b.W.top (zq _),fun e=>by have:=b.ro_lt (.inl e);omega,by omega⟩,hX _ (zq _)⟩
 have aU:=aN.upd (t:=x.t-n) g1
 have o1:Old h (h.new (.cells ((x :: L).map SpX.V).flatten false)):=(Old.refl h).new
 have hln:0<(x :: L).length:=by simp
 generalize ((x :: L).map SpX.V).flatten=fl at g1 g2 hfl q0 aN aU o1
 have o2:Old h ((h.new (.cells fl false)).set h.nx (.cells (fl.set (0+(0:Int).toNat*4+0) (.int .u64 (x.t-n))) false)):=o1.set (zq _)
 generalize hG:(h.new (.cells fl false)).set h.nx (.cells (fl.set (0+(0:Int).toNat*4+0) (.int .u64 (x.t-n))) false)=G at aU o2
 have sG:G.get sb=some (.cells [v,ov] false):=by rw [o2.2 sb lsb,e2]
 have b2:=(b.old o2).set (A.own.fs (Fs.old (S:=fun _=>False) o2)) (ob := .cells [.slice (some (h.nx,0)) (x :: L).length (.grow 4),ov] false)
 have f2:Fs h (G.set sb (.cells [.slice (some (h.nx,0)) (x :: L).length (.grow 4),ov] false)) ow ro ow ro (· = sb):=(Fs.old o2).trans (Fs.set rfl) fun _ _ e=>e.symm
 have A2:SD (G.set sb (.cells [.slice (some (h.nx,0)) (x :: L).length (.grow 4),ov] false)) ow ro dat p sb X ({ x with t:=x.t-n } :: L) o:=by
  have kd : ∀ z,z<h.nx->dat z->(G.set sb (.cells [.slice (some (h.nx,0)) (x :: L).length (.grow 4),ov] false)).get z=h.get z/\dat z:=fun z hz hd=>f2.dt b A.own hz hd
  refine ⟨A.own.fs f2,⟨_,ov,jab _,aU.keep (zq _) fun z hz hp=>⟨jaa hp.1.2.2,hp⟩,fun y hy=>?_,e5.keep2 f2.ch.nx fun hl z hz=>(kd z (e5.lt hl hz) (e6 hl z hz)).1,e6⟩,fun y hy=>?_⟩
  ·rcases List.mem_cons.1 hy with rfl | hy
   ·have s2:=sx.keep f2.ch.nx kd kd
    exact ⟨s2.ov,s2.mv,s2.dv,by show 0<=x.t-n;omega,by show x.t-n<=_;omega⟩
   ·exact (e4 y (zl _ hy)).keep f2.ch.nx kd kd
  ·rcases List.mem_cons.1 hy with rfl | hy
   ·exact A.few x (zj ..)
   ·exact A.few y (zl _ hy)
 clear e3 e4 e5 e6 sx b A aN aU o1
 refine qx1 ?_
 refine Ops.store1 rfl rfl rfl g1 om ?_
 rw [hG]
 refine qx1 ?_
 refine Ops.store1 rfl rfl rfl sG Zd ?_
 refine qx1 ?_
 exact ⟨rfl,b2,A2,f2⟩
theorem br_Ready (hd:3<=d) (b:BB h p w s rw ow ro dat a r) (ok:WsOk r.ws) : ∃ h',cl d (.fn F.jbb) [.p rw 0,.i fd] h=some (.agg (rdyS r.ws fd).cells,h')/\Old h h':=by
 obtain ⟨q,l,w4,x4⟩:=b.rw_
 obtain ⟨h',e,c⟩:=jlU hcl (d:=d) (fd:=fd) hd w4 (by rw [x4];exact ok)
 rw [x4,jj3] at e
 exact ⟨h',e,Old.ofCh c⟩
end
def jfc (h:H) (p w s rw:Nat) (ow:Nat->Nat) (ro dat:Nat->Prop) (a:St) (sb:Nat) (X:Nat->Prop) (N:Nat) (R:Int × List Sp × List Int × St) (v:V) (h':H):Prop :=
 ∃ ro' L' i',v = .i R.1/\L'.map SpX.sp=R.2.1/\BB h' p w s rw ow ro' dat a R.2.2.2/\StOk R.2.2.2 i'/\SD h' ow ro' dat p sb X L' R.2.2.1/\Fs h h' ow ro ow ro' (· = sb)/\i'+sumM L'<=N
theorem jfc.trans {h g:H} {p w s rw:Nat} {ow:Nat->Nat} {ro ro1 dat:Nat->Prop} {a:St} {sb:Nat} {X:Nat->Prop} {N:Nat} {R:Int × List Sp × List Int × St} {v:V} {h':H} (q:jfc g p w s rw ow ro1 dat a sb X N R v h') (f:Fs h g ow ro ow ro1 (· = sb)):jfc h p w s rw ow ro dat a sb X N R v h':=by
 obtain ⟨ow',L',i',e1,e2,e3,e4,e5,e6,e7⟩:=q
 exact ⟨ow',L',i',e1,e2,e3,e4,e5,f.trans e6 fun _ _ e=>e,e7⟩
section
variable {cl:Nat->Call} (hcl:Sem cl) {h:H} {p w s rw:Nat} {ow:Nat->Nat} {ro dat:Nat->Prop} {a r:St} {d i sb:Nat} {fd wt:Int} {fv:Bool} {X:Nat->Prop} {L:List SpX} {o:List Int}
include hcl
theorem rm_nap {N:Nat} {sbi:Env} (hd:9<=d) (b:BB h p w s rw ow ro dat a r) (so:StOk r i) (A:SD h ow ro dat p sb X L o) (hi:i+sumM L<=N) (hN:N<=900000) (hL:L.length<=2000) (hX : ∀ z,h.nx<=z->X z) (w0:0<=wt) (w1:wt<=18446744073709551615) :
  Run (cl d) fuel (.loop [0,1,2,3,4,12] c17_9) [.block 2,.seq (.seq (.region 0 [.mk4 0 (some 10) (.mv (.c (.i 0))) none] [10]) (.ret))] ((0,.p sb 0) :: (1,.p rw 0) :: (2,.int .u64 wt) :: (3,.bool fv) :: (4,.i fd) :: (12,.i 0) :: sbi) h
   (Fin c17.res fun v h'=>jfc h p w s rw ow ro dat a sb X N (napS (rdI fd) fv (L.map SpX.sp) wt o r) v h'):=by
 generalize hR:napS (rdI fd) fv (L.map SpX.sp) wt o r=R
 obtain ⟨C,hC⟩ : ∃ C,C=c17_8:=⟨_,rfl⟩
 simp only [c17_9,<- hC,yH]
 refine Run.loop (fun m e g=>∃ (L1:List SpX) (o1:List Int) (a1:St) (ro1:Nat->Prop) (i1:Nat) (w1 c1:Int) (sbe:Env),m=L1.length/\e=(0,.p sb 0) :: (1,.p rw 0) :: (2,.int .u64 w1) :: (3,.bool fv) :: (4,.i fd) :: (12,.i c1) :: sbe/\BB g p w s rw ow ro1 dat a a1/\StOk a1 i1/\SD g ow ro1 dat p sb X L1 o1/\Fs h g ow ro ow ro1 (· = sb)/\i1+sumM L1<=N/\(0<=c1/\c1+(L1.length:Int)<=2000)/\0<=w1/\w1<=18446744073709551615/\napS (rdI fd) fv (L1.map SpX.sp) w1 o1 a1=R)
  (k:=L.length) Ze ⟨L,o,r,ro,i,wt,0,sbi,rfl,rfl,b,so,A,Fs.refl,hi,by omega,w0,w1,hR⟩ ?_
 clear b so A hi w0 w1 hR
 rintro _ _ g ⟨L1,o1,a1,ro1,i1,w1,c1,sbe0,rfl,rfl,b,so,A,f,hi,hc1,w0,w2,hR⟩ n' ih
 show Run _ _ _ _ [(0,.p sb 0),(1,.p rw 0),(2,.int .u64 w1),(3,.bool fv),(4,.i fd),(12,.i c1)] _ _
 clear sbe0
 have hc2:c1<=2000:=by omega
 obtain ⟨g1,e1,o1'⟩:=br_Ready hcl (d:=d) (fd:=fd) om b so.K.ok
 have o2:Old g ((g1.new (.cells [.bool false,.bool false,.bool false,.bool false,.bool false,.int .u64 0,.int .u64 0] false)).set g1.nx (.cells (rdyS a1.ws fd).cells false)):=o1'.trans ((Old.refl g1).new.set (zq _))
 have gr:((g1.new (.cells [.bool false,.bool false,.bool false,.bool false,.bool false,.int .u64 0,.int .u64 0] false)).set g1.nx (.cells (rdyS a1.ws fd).cells false)).get g1.nx=some (.cells (rdyS a1.ws fd).cells false):=jab _
 have qr:((rdyS a1.ws fd).cells)[0+1]?=some (.bool (rdI fd a1)):=rfl
 generalize hG:(g1.new (.cells [.bool false,.bool false,.bool false,.bool false,.bool false,.int .u64 0,.int .u64 0] false)).set g1.nx (.cells (rdyS a1.ws fd).cells false)=G at o2 gr
 have hXn : ∀ z,G.nx<=z->X z:=fun z hz=>hX z (zA f.ch.nx (zA o2.1 hz))
 have f1:Fs h G ow ro ow ro1 (· = sb):=f.trans (Fs.old (S:=fun _=>False) o2) fun _ _ e=>e.elim
 have b1:=b.old o2
 have A1:=A.fs b (Fs.old (S:=fun _=>False) o2) (fun e=>e) (fun _ _ e=>e) fun _ _ e=>e
 have Q1:rdI fd a1=true->jfc h p w s rw ow ro dat a sb X N (1,L1.map SpX.sp,o1,a1) (.i 1) G:=fun _=>⟨ro1,L1,i1,rfl,rfl,b1,so,A1,f1,hi⟩
 have T:rdI fd a1=false->Run (cl d) fuel c17_7 [.block 3,.seq (.region 0 [.mk4 0 (some 38) (.mv (.t 12)) none,.mk4 1 (some 39) (.bin .add (.t 38) (.c (.i 1))) none,.mk4 2 (some 12) (.mv (.t 39)) none] [0,1,2,3,4,12]),.loop [0,1,2,3,4,12] (.seq (.seq (.region 0 [.mk4 0 (some 36) (.mv (.t 12)) none,.mk4 1 (some 37) (.bin .leq (.t 36) (.c (.i 2000))) none] [0,1,2,3,4,12,37]) (.cond (.t 37) (.skip) (.exit 2))) (.seq (.block 3 C) (.region 0 [.mk4 0 (some 38) (.mv (.t 12)) none,.mk4 1 (some 39) (.bin .add (.t 38) (.c (.i 1))) none,.mk4 2 (some 12) (.mv (.t 39)) none] [0,1,2,3,4,12]))) n',.block 2,.seq (.seq (.region 0 [.mk4 0 (some 10) (.mv (.c (.i 0))) none] [10]) (.ret))]
   [(0,.p sb 0),(1,.p rw 0),(2,.int .u64 w1),(3,.bool fv),(4,.i fd),(12,.i c1),(44,.bool false)] G (Fin c17.res fun v h'=>jfc h p w s rw ow ro dat a sb X N R v h'):=by
  intro hrd
  obtain ⟨v,ov,es,ea,el,eo,eoz⟩:=id A1.ex
  have nt : ¬ (true=false):=fun e=>Bool.noConfusion e
  have ft:false=false:=rfl
  have hc1i:c1+1<=9223372036854775807:=by omega
  have U : ∀ (x:SpX) (M:List SpX),L1=x :: M -> ¬ (fv=false/\w1=0) -> ¬ (fv=false/\w1<x.t)->Run (cl d) fuel c17_3 [.block 3,.seq (.region 0 [.mk4 0 (some 38) (.mv (.t 12)) none,.mk4 1 (some 39) (.bin .add (.t 38) (.c (.i 1))) none,.mk4 2 (some 12) (.mv (.t 39)) none] [0,1,2,3,4,12]),.loop [0,1,2,3,4,12] (.seq (.seq (.region 0 [.mk4 0 (some 36) (.mv (.t 12)) none,.mk4 1 (some 37) (.bin .leq (.t 36) (.c (.i 2000))) none] [0,1,2,3,4,12,37]) (.cond (.t 37) (.skip) (.exit 2))) (.seq (.block 3 C) (.region 0 [.mk4 0 (some 38) (.mv (.t 12)) none,.mk4 1 (some 39) (.bin .add (.t 38) (.c (.i 1))) none,.mk4 2 (some 12) (.mv (.t 39)) none] [0,1,2,3,4,12]))) n',.block 2,.seq (.seq (.region 0 [.mk4 0 (some 10) (.mv (.c (.i 0))) none] [10]) (.ret))]
    [(0,.p sb 0),(1,.p rw 0),(2,.int .u64 w1),(3,.bool fv),(4,.i fd),(12,.i c1),(14,.int .u64 x.t)] G (Fin c17.res fun v h'=>jfc h p w s rw ow ro dat a sb X N R v h'):=by
   rintro x M rfl k1 k2
   have sx:=el x (zj ..)
   obtain ⟨g2,ro2,e2,b2,f2⟩:=jl8 hcl (d:=d) (t:=x.t) om b1 so sx.t0 sx.t1
   have so2:=jgx so sx.t0 sx.t1
   have A2:=A1.fs b1 (Fs.of_fm (S:=fun _=>False) f2) (fun e=>e) (fun _ _ e=>e) fun _ _ e=>e
   rw [jf8] at hi
   obtain ⟨g3,ro3,e3,b3,so3,A3,f3⟩:=jn5 hcl (d:=d) om b2 so2 om A2
   have ff:Fs h g3 ow ro ow ro3 (· = sb):=(f1.trans (Fs.of_fm (S:=fun _=>False) f2) fun _ _ e=>e.elim).trans f3 fun _ _ e=>e
   have x0:=sx.t0
   have hc3:c1+(M.length:Int)+1<=2000:=by have h:=hc1.2;simp only [List.length_cons] at h;omega
   have e120:c1+1+(M.length:Int)<=2000:=by omega
   clear b1 A1 b2 A2 so2 so el ea eo eoz f1 f2 f3 sx
   cases hin:x.intr with
   | true=>
    have hR':=hR
    rw [List.map_cons,jg5 (x:=x.sp) hrd k1 k2 hin] at hR'
    subst hR'
    rw [hin] at e3
    clear ih hR
    cases fv with
    | true=>
     clear k1 k2
     refine qx1 ?_
     exact ⟨ro3,M,_,rfl,rfl,b3,so3,A3,ff,by omega⟩
    | false=>
     have k3 : ¬ w1<x.t:=fun e=>k2 ⟨rfl,e⟩
     clear k1 k2
     refine qx1 ?_
     exact ⟨ro3,M,_,rfl,rfl,b3,so3,A3,ff,by omega⟩
   | false=>
    rw [List.map_cons,jg4 (x:=x.sp) hrd k1 k2 hin] at hR
    rw [hin] at e3
    cases fv with
    | true=>
     clear k1 k2
     rw [jk4 (w2:=w1)] at hR
     refine qx1 ?_
     exact ih M.length Zd _ _ ⟨M,x.ol,_,ro3,_,w1,c1+1,_,rfl,rfl,b3,so3,A3,ff,by omega,⟨by omega,e120⟩,w0,w2,hR⟩
    | false=>
     have k3 : ¬ w1<x.t:=fun e=>k2 ⟨rfl,e⟩
     rw [show min w1 x.sp.ticks=x.t from Int.min_eq_right (show x.t<=w1 by omega)] at hR
     clear k1 k2
     refine qx1 ?_
     exact ih M.length Zd _ _ ⟨M,x.ol,_,ro3,_,w1-x.t,c1+1,_,rfl,rfl,b3,so3,A3,ff,by omega,⟨by omega,e120⟩,by omega,by omega,hR⟩
  cases fv with
  | true=>
   cases L1 with
   | nil=>
    obtain ⟨ad,c,rfl,_⟩:=id ea
    have h0:(([]:List SpX).length:Int)=0:=rfl
    rw [List.map_nil,jcR hrd rfl] at hR
    subst hR
    clear ih U ea el eo eoz
    refine qx1 ?_
    exact ⟨ro1,[],i1,rfl,rfl,b1,so,A1,f1,hi⟩
   | cons x M=>
    have U':=U x M rfl (fun e=>nt e.1) (fun e=>nt e.1)
    obtain ⟨bb,oo,c,cs,rr,rfl,lb,gb,h4⟩:=At4.cons ea
    have h0 : ¬ (((x :: M).length:Nat):Int)=0:=by simp;omega
    have hlc:(0:Int)<(((x :: M).length:Nat):Int):=by simp
    have q0:cs[oo+(0:Int).toNat*4+0]?=some (.int .u64 x.t):=by rw [jgP h4 om];rfl
    obtain ⟨C3,hC3⟩ : ∃ C,C=c17_3:=⟨_,rfl⟩
    simp only [c17_7,c17_6,c17_5,<- hC3,yB,yC]
    rw [<- hC3] at U'
    clear ih U ea el eo eoz b1 so A1 f1 hR
    refine qx1 ?_
    exact U'
  | false=>
   by_cases hw:w1=0
   ·rw [jiV hrd rfl hw] at hR
    subst hR
    clear ih U ea el eo eoz
    refine qx1 ?_
    exact ⟨ro1,L1,i1,rfl,rfl,b1,so,A1,f1,hi⟩
   cases L1 with
   | nil=>
    obtain ⟨ad,c,rfl,_⟩:=id ea
    have h0:(([]:List SpX).length:Int)=0:=rfl
    rw [List.map_nil,jhl hrd rfl hw] at hR
    subst hR
    obtain ⟨g2,ro2,e2,b2,f2⟩:=jl8 hcl (d:=d) (t:=w1) om b1 so w0 w2
    have so2:=jgx so w0 w2
    have A2:=A1.fs b1 (Fs.of_fm (S:=fun _=>False) f2) (fun e=>e) (fun _ _ e=>e) fun _ _ e=>e
    have ff:Fs h g2 ow ro ow ro2 (· = sb):=f1.trans (Fs.of_fm (S:=fun _=>False) f2) fun _ _ e=>e.elim
    clear ih U ea el eo eoz b1 so A1 f1
    refine qx1 ?_
    exact ⟨ro2,[],i1,rfl,rfl,b2,so2,A2,ff,hi⟩
   | cons x M=>
    obtain ⟨bb,oo,c,cs,rr,rfl,lb,gb,h4⟩:=At4.cons ea
    have h0 : ¬ (((x :: M).length:Nat):Int)=0:=by simp;omega
    have hlc:(0:Int)<(((x :: M).length:Nat):Int):=by simp
    have q0:cs[oo+(0:Int).toNat*4+0]?=some (.int .u64 x.t):=by rw [jgP h4 om];rfl
    by_cases hlt:w1<x.t
    case neg=>
     have U':=U x M rfl (fun e=>hw e.2) (fun e=>hlt e.2)
     obtain ⟨C3,hC3⟩ : ∃ C,C=c17_3:=⟨_,rfl⟩
     simp only [c17_7,c17_6,c17_5,<- hC3,yB,yC]
     rw [<- hC3] at U'
     clear ih U ea el eo eoz b1 so A1 f1 hR
     refine qx1 ?_
     exact U'
    have hl2:(x :: M).length<=2000:=by have h:=hc1.2;omega
    obtain ⟨g2,e2,b2,A2,f2⟩:=sd_Less hcl (d:=d) (n:=w1) om b1 A1 hl2 w0 om hXn
    obtain ⟨g3,ro3,e3,b3,f3⟩:=jl8 hcl (d:=d) (t:=w1) om b2 so w0 w2
    have so2:=jgx so w0 w2
    have A3:=A2.fs b2 (Fs.of_fm (S:=fun _=>False) f3) (fun e=>e) (fun _ _ e=>e) fun _ _ e=>e
    have ff:Fs h g3 ow ro ow ro3 (· = sb):=(f1.trans f2 fun _ _ e=>e).trans (Fs.of_fm (S:=fun _=>False) f3) fun _ _ e=>e.elim
    rw [List.map_cons,jfO (x:=x.sp) hrd rfl hw hlt] at hR
    subst hR
    have hs:i1+sumM ({ x with t:=x.t-w1 } :: M)<=N:=hi
    clear ih U ea el eo eoz b1 so A1 f1 b2 A2 f2 f3
    refine qx1 ?_
    exact ⟨ro3,_,i1,rfl,rfl,b3,so2,A3,ff,hs⟩
 clear b so A f ih b1 A1 f1 hXn
 obtain ⟨C7,hC7⟩ : ∃ C,C=c17_7:=⟨_,rfl⟩
 rw [<- hC7] at T
 have hC':=hC
 simp only [c17_8,<- hC7,yB] at hC'
 by_cases hrd:rdI fd a1=true
 ·rw [hrd] at qr
  rw [jd3 hrd] at hR
  subst hR
  clear T
  rw [hC']
  refine qx1 ?_
  refine Ops.make (ob := .cells [.bool false,.bool false,.bool false,.bool false,.bool false,.int .u64 0,.int .u64 0] false) (mk:=fun b=>.p b 0) rfl rfl ?_
  refine Ops.storeN (o:=0) (vs:=(rdyS a1.ws fd).cells) rfl rfl rfl rfl (jac _) (by simp [Rdy.cells]) ?_
  rw [show jao ([.bool false,.bool false,.bool false,.bool false,.bool false,.int .u64 0,.int .u64 0]:List V) 0 (rdyS a1.ws fd).cells=(rdyS a1.ws fd).cells from rfl,hG]
  refine qx1 ?_
  exact Q1 hrd
 have hrd:rdI fd a1=false:=by simpa using hrd
 rw [hrd] at qr
 have T':=T hrd
 clear T
 rw [hC'] at T' ⊢
 refine qx1 ?_
 refine Ops.make (ob := .cells [.bool false,.bool false,.bool false,.bool false,.bool false,.int .u64 0,.int .u64 0] false) (mk:=fun b=>.p b 0) rfl rfl ?_
 refine Ops.storeN (o:=0) (vs:=(rdyS a1.ws fd).cells) rfl rfl rfl rfl (jac _) (by simp [Rdy.cells]) ?_
 rw [show jao ([.bool false,.bool false,.bool false,.bool false,.bool false,.int .u64 0,.int .u64 0]:List V) 0 (rdyS a1.ws fd).cells=(rdyS a1.ws fd).cells from rfl,hG]
 refine qx1 ?_
 exact T'
theorem rm_Sleep {N:Nat} (hd:10<=d) (b:BB h p w s rw ow ro dat a r) (so:StOk r i) (A:SD h ow ro dat p sb X L o) (hi:i+sumM L<=N) (hN:N<=900000) (hL:L.length<=2000) (hX : ∀ z,h.nx<=z->X z) (w0:0<=wt) (w1:wt<=18446744073709551615) :
  ∃ v h',cl d (.fn F.jbD) [.p sb 0,.p rw 0,.int .u64 wt,.bool fv,.i fd] h=some (v,h')/\jfc h p w s rw ow ro dat a sb X N (jbO (rdI fd) fv (L.map SpX.sp) wt o r) v h':=by
 refine at_ hcl om rfl rfl rfl ?_
 generalize hR:jbO (rdI fd) fv (L.map SpX.sp) wt o r=R
 obtain ⟨C,hC⟩ : ∃ C,C=c17_11:=⟨_,rfl⟩
 obtain ⟨C2,hC2⟩ : ∃ C,C=(.loop [0,1,2,3,4,12] c17_9:AC):=⟨_,rfl⟩
 simp only [c17,c17_12,<- hC,<- hC2,yB,yC]
 refine qx1 ?_
 refine Run.loop (fun m e g=>∃ (L1:List SpX) (o1:List Int) (a1:St) (ro1:Nat->Prop) (i1:Nat) (sbe:Env),m=L1.length/\e=(0,.p sb 0) :: (1,.p rw 0) :: (2,.int .u64 wt) :: (3,.bool fv) :: (4,.i fd) :: sbe/\BB g p w s rw ow ro1 dat a a1/\StOk a1 i1/\SD g ow ro1 dat p sb X L1 o1/\Fs h g ow ro ow ro1 (· = sb)/\i1+sumM L1<=N/\L1.length<=2000/\jbO (rdI fd) fv (L1.map SpX.sp) wt o1 a1=R)
  (k:=L.length) Ze ⟨L,o,r,ro,i,_,rfl,rfl,b,so,A,Fs.refl,hi,hL,hR⟩ ?_
 clear b so A hi hR
 rintro _ _ g ⟨L1,o1,a1,ro1,i1,sbe0,rfl,rfl,b,so,A,f,hi,hL1,hR⟩ n' ih
 show Run _ _ _ _ [(0,.p sb 0),(1,.p rw 0),(2,.int .u64 wt),(3,.bool fv),(4,.i fd)] _ _
 clear sbe0
 obtain ⟨v,ov,es,ea,el,eo,eoz⟩:=id A.ex
 have T : ∀ sbe,jbO (rdI fd) fv (L1.map SpX.sp) wt o1 a1=napS (rdI fd) fv (L1.map SpX.sp) wt o1 a1->Run (cl (d-1)) fuel C2 [.block 2,.seq (.seq (.region 0 [.mk4 0 (some 10) (.mv (.c (.i 0))) none] [10]) (.ret))] ((0,.p sb 0) :: (1,.p rw 0) :: (2,.int .u64 wt) :: (3,.bool fv) :: (4,.i fd) :: (12,.i 0) :: sbe) g (Fin c17.res (jfc h p w s rw ow ro dat a sb X N R)):=fun sbe hz=>by
  rw [hC2]
  rw [hz] at hR
  subst hR
  exact Run.fin_mono' (rm_nap hcl (d:=d-1) om b so A hi hN hL1 (fun z hz=>hX z (zA f.ch.nx hz)) w0 w1) fun _ _ q=>jfc.trans q f
 cases L1 with
 | nil=>
  obtain ⟨ad,c,rfl,_⟩:=id ea
  have h0:(([]:List SpX).length:Int)=0:=rfl
  have h0' : ¬ (0:Int)<(([]:List SpX).length:Int):=by rw [h0];omega
  have T':=fun sbe=>T sbe rfl
  subst hC
  clear ih T ea el eo eoz b so A f hR
  refine qx1 ?_
  exact T' _
 | cons x M=>
  obtain ⟨bb,oo,c,cs,rr,rfl,lb,gb,h4⟩:=At4.cons ea
  have hlc:(0:Int)<(((x :: M).length:Nat):Int):=by simp
  have q0:cs[oo+(0:Int).toNat*4+0]?=some (.int .u64 x.t):=by rw [jgP h4 om];rfl
  by_cases ht:x.t=0
  case neg=>
   have T':=fun sbe=>T sbe (by unfold jbO;rw [List.map_cons,jhf (x:=x.sp) ht])
   subst hC
   clear ih T ea el eo eoz b so A f hR
   refine qx1 ?_
   exact T' _
  rw [jf8] at hi
  obtain ⟨g3,ro3,e3,b3,so3,A3,f3⟩:=jn5 hcl (d:=d-1) om b so om A
  have ff:Fs h g3 ow ro ow ro3 (· = sb):=f.trans f3 fun _ _ e=>e
  subst hC
  clear T ea el eo eoz b so A f f3
  cases hin:x.intr with
  | true=>
   unfold jbO at hR
   rw [List.map_cons,jhg (x:=x.sp) ht hin] at hR
   subst hR
   rw [hin] at e3
   clear ih
   refine qx1 ?_
   exact ⟨ro3,M,_,rfl,rfl,b3,so3,A3,ff,by omega⟩
  | false=>
   unfold jbO at hR
   rw [List.map_cons,jhe (x:=x.sp) ht hin] at hR
   rw [hin] at e3
   have hm:M.length<=2000:=by have:(x :: M).length<=2000:=hL1;simp at this;omega
   have hR2:jbO (rdI fd) fv (M.map SpX.sp) wt x.ol (mvsS x.sp.moves a1)=R:=hR
   refine qx1 ?_
   exact ih M.length Zd _ _ ⟨M,x.ol,_,ro3,_,_,rfl,rfl,b3,so3,A3,ff,by omega,hm,hR2⟩
end
def numU (n:Int):List UInt8:=dec (IntKind.u64.wrap n).toNat
theorem jji (n:Int) : ∃ u:Nat,IntKind.u64.wrap n=(u:Int)/\u<18446744073709551616/\numU n=dec u:=by
 refine ⟨(IntKind.u64.wrap n).toNat,?_,?_,rfl⟩<;>(rw [IntKind.wrap_u64];omega)
theorem jeH (n:Int):(numU n).length<=20:=by
 obtain ⟨u,_,hu,e⟩:=jji n
 rw [e]
 exact jjK (m:=19) om hu
def jjg:List (List UInt8):=[[],[112,117,116],[116,97,107,101],[115,104,117,116],[99,108,111,115,101],[114,101,115,101,116],[99,111,110,110,101,99,116],[114,97,105,115,101]]
def jjh (op:Int):List UInt8:=if op<1\/7<op then [] else (jjg[op.toNat]?).getD []
def mvT (m:Mv):List UInt8:=[32]++jjh m.op++(if 1<=m.op/\m.op<=6 then [32]++numU m.wire else [])++(if m.op=2\/m.op=6\/m.op=7 then [32]++numU m.n else [])++(if m.op=1 then [32] else [])++hexS m.D
def ordN (l:List Int):Nat->List UInt8
 | 0=>[]
 | i+1=>ordN l i++(if i=0 then [32,111,114,100,101,114,32] else [44])++numU ((l[i]?).getD 0)
def movN (l:List Mv):Nat->List UInt8
 | 0=>[]
 | i+1=>movN l i++mvT ((l[i]?).getD ⟨0,0,0,[]⟩)
def jot (x:Sp):List UInt8:=[115,116,101,112,32]++dec x.ticks.toNat++(if x.intr then [32,105,110,116,114] else [])++ordN x.order x.order.length++movN x.moves x.moves.length
theorem jjX (op:Int):(jjh op).length<=7:=by
 unfold jjh
 split
 ·simp
 ·next h=>
  have h1:op.toNat<8:=by omega
  generalize op.toNat=k at h1
  match k,h1 with
  | 0,_=>simp [jjg] | 1,_=>simp [jjg] | 2,_=>simp [jjg] | 3,_=>simp [jjg] | 4,_=>simp [jjg] | 5,_=>simp [jjg] | 6,_=>simp [jjg] | 7,_=>simp [jjg]
theorem jme (l:List Int) : ∀ i,(ordN l i).length<=27*i
 | 0=>by simp [ordN]
 | i+1=>by
  have h1:=jme l i
  have h2:=jeH ((l[i]?).getD 0)
  simp only [ordN,zg]
  split<;>simp only [List.length_cons,List.length_nil]<;>omega
theorem mvT_len {m:Mv} (h:m.D.length<=1100):(mvT m).length<=2300:=by
 have h1:=jjX m.op
 have h2:=jeH m.wire
 have h3:=jeH m.n
 have h4:=jgb m.D
 simp only [mvT,zg]
 (repeat' split)<;>simp only [zg,List.length_cons,List.length_nil]<;>omega
theorem jmh {l:List Mv} (h : ∀ m∈l,m.D.length<=1100) : ∀ i,(movN l i).length<=2300*i
 | 0=>by simp [movN]
 | i+1=>by
  have h1:=jmh h i
  have h2:(mvT ((l[i]?).getD ⟨0,0,0,[]⟩)).length<=2300:=by
   refine mvT_len ?_
   cases e:l[i]? with
   | none=>simp
   | some m=>exact h m (zc e)
  simp only [movN,zg]
  omega
section
variable {cl:Nat->Call} (hcl:Sem cl)
include hcl
theorem ln_word {d:Nat} {h:H} {op:Int} (hd:1<=d) : ∃ h',cl d (.fn F.jeS) [.i op] h=some (.str (jjh op),h')/\Old h h':=by
 have o:Old h (h.new (.cells [.str [],.str [112,117,116],.str [116,97,107,101],.str [115,104,117,116],.str [99,108,111,115,101],.str [114,101,115,101,116],.str [99,111,110,110,101,99,116],.str [114,97,105,115,101]] false)):=(Old.refl h).new
 have g:=jac (h:=h) (.cells [.str [],.str [112,117,116],.str [116,97,107,101],.str [115,104,117,116],.str [99,108,111,115,101],.str [114,101,115,101,116],.str [99,111,110,110,101,99,116],.str [114,97,105,115,101]] false)
 refine jag (at_ hcl om rfl rfl rfl ?_)
 by_cases h1:op<1
 ·refine qx1 ?_
  exact ⟨by rw [jjh,if_pos (.inl h1)],Old.refl h⟩
 by_cases h2:op>7
 ·refine qx1 ?_
  exact ⟨by rw [jjh,if_pos (.inr h2)],Old.refl h⟩
 have q:[V.str [],.str [112,117,116],.str [116,97,107,101],.str [115,104,117,116],.str [99,108,111,115,101],.str [114,101,115,101,116],.str [99,111,110,110,101,99,116],.str [114,97,105,115,101]][0+op.toNat*1]?=some (.str (jjh op)):=by
  rw [jjh,if_neg om,Nat.zero_add,Nat.mul_one]
  have h1:op.toNat<8:=by omega
  generalize op.toNat=k at h1
  match k,h1 with
  | 0,_=>rfl | 1,_=>rfl | 2,_=>rfl | 3,_=>rfl | 4,_=>rfl | 5,_=>rfl | 6,_=>rfl | 7,_=>rfl
 refine qx1 ?_
 refine Ops.make (ob := .cells [.str [],.str [112,117,116],.str [116,97,107,101],.str [115,104,117,116],.str [99,108,111,115,101],.str [114,101,115,101,116],.str [99,111,110,110,101,99,116],.str [114,97,105,115,101]] false) (mk:=fun b=>.slice (some (b,0)) 8 (.fix 8)) rfl rfl ?_
 refine qx1 ?_
 exact ⟨rfl,o⟩
theorem jfZ {d u:Nat} {h:H} (hd:1<=d) (hu:u<18446744073709551616) : ∃ h',cl d (.fn F.jek) [.int .u64 (u:Int)] h=some (.str (dec u),h')/\Old h h':=jiH hcl rfl rfl hd hu
theorem joM {d b mb:Nat} {j:Int} {v:V} {l:List UInt8} {s:List UInt8} {m:Mv} {h:H} (hg:h.get mb=some (.cells (mvV m v) false)) (lmb:mb<h.nx) (hb:VB h v l) (hl:l.length<=1100) (hs:s.length<=400000) :
  Run (cl d) fuel (.loop [1,3,5,6,9] c80_3) [.block 4] [(1,.p b 0),(3,.str s),(5,.i j),(6,.p mb 0),(9,.i 0)] h (fun x e h'=>x = .normal/\(∃ sb,e=(1,.p b 0) :: (3,.str (s++hexS l)) :: (5,.i j) :: sb)/\Old h h'):=by
 have hvn:l≠[] -> ∀ z,v.at?=some z->z<h.nx:=fun hn z hz=>hb.lt hn hz
 obtain ⟨a,c,rfl,hn,hf,hxx⟩:=hb
 have q3:(mvV m (.slice a l.length c))[0+3]?=some (.slice a l.length c):=rfl
 refine Run.loop (fun n e g=>∃ (i:Nat),n=l.length-i/\i<=l.length/\e=[(1,.p b 0),(3,.str (s++hexS (l.take i))),(5,.i j),(6,.p mb 0),(9,.i (i:Int))]/\Old h g)
  (k:=l.length) Ze ⟨0,by omega,by omega,by simp [hexS],Old.refl h⟩ ?_
 rintro _ _ g ⟨i,rfl,hi,rfl,old⟩ f ih
 have g1:g.get mb=some (.cells (mvV m (.slice a l.length c)) false):=by rw [old.2 mb lmb,hg]
 by_cases hlt:i<l.length
 case neg=>
  obtain rfl:i=l.length:=by omega
  rw [List.take_length]
  clear ih
  refine qx1 ?_
  exact End.nil ⟨rfl,⟨_,rfl⟩,old⟩
 obtain ⟨q,o,cs,ro,rfl,q1,q2,q3'⟩:=hxx (by rintro rfl;simp at hlt)
 have g2:g.get q=some (.cells cs ro):=by rw [old.2 q q1,q2]
 obtain ⟨y,hy⟩ : ∃ y,l[i]?=some y:=⟨_,za hlt⟩
 have hy256:=y.toNat_lt
 have q4:cs[o+(i:Int).toNat*1]?=some (.int .u8 (y.toNat:Int)):=by rw [zw,Nat.mul_one];exact q3' i y hy
 have g3:(g.reserve 1).get mb=_:=(H.get_reserve ..).trans g1
 have g4:(g.reserve 1).get q=some (.cells cs ro):=(H.get_reserve ..).trans g2
 have hi1:(i:Int)+1=((i+1:Nat):Int):=by omega
 clear hxx hf hn
 refine qx1 ?_
 refine Run.region ?_
 refine qx1 ?_
 have e1:IntKind.u8.wrap ((y.toNat:Int).tdiv 16)=((y.toNat/16:Nat):Int):=by
  rw [show (y.toNat:Int).tdiv 16=((y.toNat/16:Nat):Int) from (Int.ofNat_tdiv _ 16).symm,IntKind.wrap_u8];omega
 have e2:(y.toNat:Int).tmod 16=((y.toNat%16:Nat):Int):=(Int.ofNat_tmod _ 16).symm
 rw [e1,e2]
 refine Ops.bslice2_at (xv := .int .u8 ((y.toNat/16:Nat):Int)) (yv := .int .u8 ((y.toNat%16:Nat):Int)) rfl rfl rfl rfl ?_
 have g5:((g.reserve 1).set (g.nx+0) (.cells [.int .u8 ((y.toNat/16:Nat):Int),.int .u8 ((y.toNat%16:Nat):Int)] false)).get (g.nx+0)=some (.cells [.int .u8 ((y.toNat/16:Nat):Int),.int .u8 ((y.toNat%16:Nat):Int)] false):=jab ..
 have o2:Old g ((g.reserve 1).set (g.nx+0) (.cells [.int .u8 ((y.toNat/16:Nat):Int),.int .u8 ((y.toNat%16:Nat):Int)] false)):=⟨by simp,fun j hj=>by rw [jaa om,H.get_reserve]⟩
 generalize (g.reserve 1).set (g.nx+0) (.cells [.int .u8 ((y.toNat/16:Nat):Int),.int .u8 ((y.toNat%16:Nat):Int)] false)=g6 at g5 o2 ⊢
 refine qx1 ?_
 have hlen:=jgb (l.take i)
 have hlt2:(l.take i).length<=1100:=by simp;omega
 refine Run.loop (fun n e g'=>∃ (k:Nat),n=2-k/\k<=2/\e=[(1,.p b 0),(3,.str (s++hexS (l.take i)++([hx (y.toNat/16),hx (y.toNat%16)].take k))),(5,.i j),(6,.p mb 0),(9,.i (i:Int)),(106,.slice (some (g.nx+0,0)) 2 (.fix 2)),(107,.i 2),(108,.i (k:Int))]/\g'=g6)
  (k:=2) Ze ⟨0,by omega,by omega,by simp,rfl⟩ ?_
 rintro _ _ g' ⟨k,rfl,hk,rfl,rfl⟩ f2 ih2
 by_cases hk2:k<2
 case neg=>
  obtain rfl:k=2:=by omega
  clear ih2
  refine qx1 ?_
  rw [hi1]
  refine ih (l.length-(i+1)) om _ _ ⟨i+1,rfl,by omega,?_,old.trans o2⟩
  rw [jhX hy,List.append_assoc s];rfl
 have key : ∃ z:Nat,z<16/\[V.int .u8 ((y.toNat/16:Nat):Int),.int .u8 ((y.toNat%16:Nat):Int)][0+(k:Int).toNat*1]?=some (.int .u8 (z:Int))/\[hx (y.toNat/16),hx (y.toNat%16)].take (k+1)=[hx (y.toNat/16),hx (y.toNat%16)].take k++[hx z]:=by
  match k,hk2 with
  | 0,_=>exact ⟨y.toNat/16,by omega,rfl,rfl⟩
  | 1,_=>exact ⟨y.toNat%16,by omega,rfl,rfl⟩
 obtain ⟨z,hz,z1,z2⟩:=key
 have e3:IntKind.i64.wrap (z:Int)=(z:Int):=by rw [IntKind.wrap_i64];omega
 have hk1:(k:Int)+1=((k+1:Nat):Int):=by omega
 clear ih
 refine qx1 ?_
 rw [e3]
 refine Ops.digit rfl rfl hz ?_
 refine qx1 ?_
 have hj3:([hx (y.toNat/16),hx (y.toNat%16)].take k).length<=2:=by simp;omega
 refine Ops.sadd rfl rfl (by simp at hj3 hlen hlt2 ⊢;omega) ?_
 refine qx1 ?_
 rw [hk1]
 refine ih2 (2-(k+1)) om _ _ ⟨k+1,rfl,by omega,?_,rfl⟩
 rw [z2,<- List.append_assoc]
end
def LnP (h0:H) (b:Nat) (j:Int) (s:List UInt8):Post:=fun x e h'=>x = .normal/\(∃ sb,e=(1,.p b 0) :: (3,.str s) :: (5,.i j) :: sb)/\Old h0 h'
theorem LnP.mono {h0 h1:H} {b:Nat} {j:Int} {s:List UInt8} (o:Old h0 h1) {x:Ex} {e:Env} {h':H} (q:LnP h1 b j s x e h'):LnP h0 b j s x e h':=⟨q.1,q.2.1,o.trans q.2.2⟩
theorem Run.post {call:Call} {fuel:Nat} {c:AC} {K:List Fr} {e:Env} {h:H} {Q Q':Post} (k:Run call fuel c K e h Q) (hQ : ∀ x e h,Q x e h->Q' x e h):Run call fuel c K e h Q':=by
 obtain ⟨x',e',h',hd',x2,e2,h2,ha,q⟩:=k
 exact ⟨x',e',h',hd',x2,e2,h2,ha,hQ _ _ _ q⟩
section
variable {cl:Nat->Call} (hcl:Sem cl) {d b mb:Nat} {j:Int} {s:List UInt8} {m:Mv} {dv:V} {h:H} {sb:Env}
include hcl
theorem ln_b (hg:h.get mb=some (.cells (mvV m dv) false)) (lmb:mb<h.nx) (hb:VB h dv m.D) (hl:m.D.length<=1100) (hs:s.length<=300000) :
  Run (cl d) fuel c80_5 [] ((1,.p b 0) :: (3,.str s) :: (5,.i j) :: (6,.p mb 0) :: sb) h (LnP h b j (s++(if m.op=1 then [32] else [])++hexS m.D)):=by
 have q0:(mvV m dv)[0+0]?=some (.i m.op):=rfl
 by_cases h1:m.op=1
 ·rw [if_pos h1]
  have T:=joM hcl (d:=d) (b:=b) (j:=j) (s:=s++[32]) hg lmb hb hl Zc
  obtain ⟨C,hC⟩ : ∃ C,C=c80_3:=⟨_,rfl⟩
  simp only [c80_5,<- hC,yH]
  rw [<- hC] at T
  clear hb
  refine qx1 ?_
  refine Ops.sadd rfl rfl Zc ?_
  refine qx1 ?_
  exact T
 ·rw [if_neg h1,List.append_nil]
  have T:=joM hcl (d:=d) (b:=b) (j:=j) (s:=s) hg lmb hb hl om
  obtain ⟨C,hC⟩ : ∃ C,C=c80_3:=⟨_,rfl⟩
  simp only [c80_5,<- hC,yH]
  rw [<- hC] at T
  clear hb
  refine qx1 ?_
  exact T
theorem ln_n (hd:1<=d) (hg:h.get mb=some (.cells (mvV m dv) false)) (lmb:mb<h.nx) (hb:VB h dv m.D) (hl:m.D.length<=1100) (hs:s.length<=299900) :
  Run (cl d) fuel c80_7 [] ((1,.p b 0) :: (3,.str s) :: (5,.i j) :: (6,.p mb 0) :: sb) h (LnP h b j (s++(if m.op=2\/m.op=6\/m.op=7 then [32]++numU m.n else [])++(if m.op=1 then [32] else [])++hexS m.D)):=by
 have q0:(mvV m dv)[0+0]?=some (.i m.op):=rfl
 have q2:(mvV m dv)[0+2]?=some (.i m.n):=rfl
 have e1:=jkl hcl (d:=d) (op:=m.op) (h:=h) hd
 obtain ⟨C,hC⟩ : ∃ C,C=c80_5:=⟨_,rfl⟩
 by_cases h1:m.op=2\/m.op=6\/m.op=7
 ·rw [if_pos h1]
  rw [decide_eq_true h1] at e1
  obtain ⟨u,eu,hu,en⟩:=jji m.n
  obtain ⟨h2,e2,o2⟩:=jfZ hcl (d:=d) (u:=u) (h:=h) hd hu
  have hnl:=jeH m.n
  rw [<- en] at e2
  have T:=fun sb=>ln_b hcl (d:=d) (b:=b) (j:=j) (s:=s++[32]++numU m.n) (sb:=sb) (m:=m) (dv:=dv) (h:=h2) (by rw [o2.2 mb lmb,hg]) (zr lmb o2.1) (hb.keep2 o2.1 fun hl z hz=>o2.2 z (hb.lt hl hz)) hl Zc
  simp only [c80_7,c80_4,<- hC,yC,yI]
  rw [<- hC] at T
  clear hb h1
  refine qx1 ?_
  refine Ops.sadd rfl rfl Zc ?_
  refine qx1 ?_
  rw [eu]
  refine qx1 ?_
  refine Ops.sadd rfl rfl Zc ?_
  refine qx1 ?_
  refine Run.post (T _) fun x e h' q=>LnP.mono o2 ?_
  simpa only [List.append_assoc] using q
 ·rw [if_neg h1]
  rw [decide_eq_false h1] at e1
  have T:=fun sb=>ln_b hcl (d:=d) (b:=b) (j:=j) (s:=s) (sb:=sb) (m:=m) (dv:=dv) (h:=h) hg lmb hb hl om
  simp only [c80_7,<- hC,yC]
  rw [<- hC] at T
  clear hb h1
  refine qx1 ?_
  refine Run.post (T _) fun x e h' q=>?_
  simpa only [List.append_assoc,List.nil_append] using q
theorem ln_w (hd:1<=d) (hg:h.get mb=some (.cells (mvV m dv) false)) (lmb:mb<h.nx) (hb:VB h dv m.D) (hl:m.D.length<=1100) (hs:s.length<=299800) :
  Run (cl d) fuel c80_8 [] ((1,.p b 0) :: (3,.str s) :: (5,.i j) :: (6,.p mb 0) :: sb) h (LnP h b j (s++(if 1<=m.op/\m.op<=6 then [32]++numU m.wire else [])++(if m.op=2\/m.op=6\/m.op=7 then [32]++numU m.n else [])++(if m.op=1 then [32] else [])++hexS m.D)):=by
 have q0:(mvV m dv)[0+0]?=some (.i m.op):=rfl
 have q2:(mvV m dv)[0+1]?=some (.i m.wire):=rfl
 have e1:=jnH hcl (d:=d) (op:=m.op) (h:=h) hd
 obtain ⟨C,hC⟩ : ∃ C,C=c80_7:=⟨_,rfl⟩
 by_cases h1:1<=m.op/\m.op<=6
 ·rw [if_pos h1]
  rw [decide_eq_true h1] at e1
  obtain ⟨u,eu,hu,en⟩:=jji m.wire
  obtain ⟨h2,e2,o2⟩:=jfZ hcl (d:=d) (u:=u) (h:=h) hd hu
  have hnl:=jeH m.wire
  rw [<- en] at e2
  have T:=fun sb=>ln_n hcl (d:=d) (b:=b) (j:=j) (s:=s++[32]++numU m.wire) (sb:=sb) (m:=m) (dv:=dv) (h:=h2) hd (by rw [o2.2 mb lmb,hg]) (zr lmb o2.1) (hb.keep2 o2.1 fun hl z hz=>o2.2 z (hb.lt hl hz)) hl Zc
  simp only [c80_8,c80_6,<- hC,yC,yI]
  rw [<- hC] at T
  clear hb h1
  refine qx1 ?_
  refine Ops.sadd rfl rfl Zc ?_
  refine qx1 ?_
  rw [eu]
  refine qx1 ?_
  refine Ops.sadd rfl rfl Zc ?_
  refine qx1 ?_
  refine Run.post (T _) fun x e h' q=>LnP.mono o2 ?_
  simpa only [List.append_assoc] using q
 ·rw [if_neg h1]
  rw [decide_eq_false h1] at e1
  have T:=fun sb=>ln_n hcl (d:=d) (b:=b) (j:=j) (s:=s) (sb:=sb) (m:=m) (dv:=dv) (h:=h) hd hg lmb hb hl om
  simp only [c80_8,<- hC,yC]
  rw [<- hC] at T
  clear hb h1
  refine qx1 ?_
  refine Run.post (T _) fun x e h' q=>?_
  simpa only [List.append_assoc,List.nil_append] using q
theorem ln_m {P Q:Nat->Prop} {x:SpX} {k:Nat} {y:MvX} (hd:1<=d) (hg:h.get b=some (.cells x.V false)) (lb:b<h.nx) (A:StepAt h P Q x) (hy:x.ml[k]?=some y) (hl:y.m.D.length<=1100) (hs:s.length<=299700) :
  Run (cl d) fuel c80_10 [] ((1,.p b 0) :: (3,.str s) :: (5,.i (k:Int)) :: sb) h (LnP h b k (s++mvT y.m)):=by
 obtain ⟨ad,c,em,_,_,g⟩:=id A.mv
 obtain ⟨bb,oo,cs,rr,rfl,lbb,_,gb,hc⟩:=g (by intro e;rw [e] at hy;simp at hy)
 have h4:(cs.drop (oo+(k:Int).toNat*4)).take 4=y.V:=by rw [zw];exact hc k y hy
 have hlen:=jf6 h4 rfl
 have q3:(x.V)[0+3]?=some (.slice (some (bb,oo)) x.ml.length c):=by rw [<- em];rfl
 have hkl:k<x.ml.length:=by
  rcases zx k x.ml.length with h | h
  ·exact h
  ·rw [zd h] at hy;cases hy
 obtain ⟨vy,zy⟩:=A.dv y (zc hy)
 obtain ⟨m,dv⟩:=y
 obtain ⟨da,dc,e,_⟩:=id vy
 have e:dv = .slice da m.D.length dc:=e
 subst e
 have o1:Old h ((h.new (.cells [.i 0,.i 0,.i 0,.nils] false)).set h.nx (.cells (mvV m (.slice da m.D.length dc)) false)):=(Old.refl h).new.set (zq _)
 have g1:((h.new (.cells [.i 0,.i 0,.i 0,.nils] false)).set h.nx (.cells (mvV m (.slice da m.D.length dc)) false)).get h.nx=some (.cells (mvV m (.slice da m.D.length dc)) false):=jab _
 have n1:h.nx<((h.new (.cells [.i 0,.i 0,.i 0,.nils] false)).set h.nx (.cells (mvV m (.slice da m.D.length dc)) false)).nx:=by simp
 generalize hG:(h.new (.cells [.i 0,.i 0,.i 0,.nils] false)).set h.nx (.cells (mvV m (.slice da m.D.length dc)) false)=G at o1 g1 n1
 obtain ⟨h2,e2,o2⟩:=ln_word hcl (d:=d) (op:=m.op) (h:=G) hd
 have hwl:=jjX m.op
 have T:=fun sb=>ln_w hcl (d:=d) (b:=b) (j:=(k:Int)) (s:=s++[32]++jjh m.op) (sb:=sb) (m:=m) (dv := .slice da m.D.length dc) (h:=h2) hd (by rw [o2.2 _ n1,g1]) (zr n1 o2.1) (vy.keep2 (o1.trans o2).1 fun hl z hz=>(o1.trans o2).2 z (vy.lt hl hz)) hl Zc
 have q0:(mvV m (.slice da m.D.length dc))[0+0]?=some (.i m.op):=rfl
 obtain ⟨C,hC⟩ : ∃ C,C=c80_8:=⟨_,rfl⟩
 simp only [c80_10,c80_9,<- hC,yB,yH]
 rw [<- hC] at T
 clear A g hc vy zy
 refine qx1 ?_
 refine Ops.loadN rfl gb hlen ?_
 rw [h4]
 refine Ops.make (ob := .cells [.i 0,.i 0,.i 0,.nils] false) (mk:=fun b=>.p b 0) rfl rfl ?_
 refine Ops.storeN (n:=4) (o:=0) (vs:=mvV m (.slice da m.D.length dc)) rfl rfl rfl rfl (jac _) Zd ?_
 rw [show jao ([.i 0,.i 0,.i 0,.nils]:List V) 0 (mvV m (.slice da m.D.length dc))=mvV m (.slice da m.D.length dc) from rfl,hG]
 refine qx1 ?_
 refine Ops.sadd rfl rfl Zc ?_
 refine qx1 ?_
 refine Ops.sadd rfl rfl Zc ?_
 refine qx1 ?_
 refine Run.post (T _) fun x e h' q=>LnP.mono (o1.trans o2) ?_
 unfold mvT
 simpa only [List.append_assoc] using q
end
def Sp.few (x:Sp):Prop:=x.moves.length<=60/\x.order.length<=60 /\ ∀ m∈x.moves,m.D.length<=1100
section
variable {cl:Nat->Call} (hcl:Sem cl) {d:Nat} {h:H}
include hcl
theorem jnI {P Q:Nat->Prop} {x:SpX} (hd:2<=d) (A:StepAt h P Q x) (hf:x.sp.few) : ∃ h',cl d (.fn F.jeU) [.agg x.V] h=some (.str (jot x.sp),h')/\Old h h':=by
 have hml:x.ml.length<=60:=by have:=hf.1;simpa [SpX.sp] using this
 have hol:x.ol.length<=60:=hf.2.1
 have hdl : ∀ y∈x.ml,y.m.D.length<=1100:=fun y hy=>hf.2.2 y.m (List.mem_map_of_mem hy)
 have o0:Old h (h.new (.cells x.V false)):=(Old.refl h).new
 have g0:(h.new (.cells x.V false)).get h.nx=some (.cells x.V false):=jac _
 have n0:h.nx<(h.new (.cells x.V false)).nx:=by simp
 generalize hG:h.new (.cells x.V false)=G at o0 g0 n0
 obtain ⟨u,eu⟩ : ∃ u:Nat,x.t=(u:Int):=⟨x.t.toNat,by have:=A.t0;omega⟩
 have hu:u<18446744073709551616:=by have:=A.t1;omega
 have q0:(x.V)[0+0]?=some (.int .u64 (u:Int)):=by rw [<- eu];rfl
 have q1:(x.V)[0+1]?=some (.bool x.intr):=rfl
 obtain ⟨ao,co,eo,_,_,go⟩:=id A.ov.1
 obtain ⟨am,cm,em,_⟩:=id A.mv
 have q2:(x.V)[0+2]?=some (.slice ao x.ol.length co):=by rw [<- eo];rfl
 have q3:(x.V)[0+3]?=some (.slice am x.ml.length cm):=by rw [<- em];rfl
 obtain ⟨h1,e1,o1⟩:=jfZ hcl (d:=d-1) (u:=u) (h:=G) om hu
 have hdu:=jjK (u:=u) (m:=19) om hu
 have g1:h1.get h.nx=some (.cells x.V false):=by rw [o1.2 _ n0,g0]
 have n1:h.nx<h1.nx:=zr n0 o1.1
 have A1:=A.old (o0.trans o1)
 have hln:jot x.sp=[115,116,101,112,32]++dec u++(if x.intr then [32,105,110,116,114] else [])++ordN x.ol x.ol.length++movN (x.ml.map MvX.m) x.ml.length:=by
  unfold jot
  rw [show x.sp.ticks.toNat=u by show x.t.toNat=u;omega,show x.sp.moves.length=x.ml.length by simp [SpX.sp]]
  rfl
 obtain ⟨C10,hC10⟩ : ∃ C,C=c80_10:=⟨_,rfl⟩
 have T : ∀ (s:List UInt8) (sb:Env),s=[115,116,101,112,32]++dec u++(if x.intr then [32,105,110,116,114] else [])->Run (cl (d-1)) fuel c80_16 [] ((1,.p h.nx 0) :: (3,.str s) :: sb) h1 (Fin c80.res fun v h'=>v = .str (jot x.sp)/\Old h h'):=by
  intro s sb hs
  have hsl:s.length<=30:=by
   rw [hs]
   cases x.intr<;>simp<;>omega
  rw [hln,<- hs]
  clear hs hln e1 q0 hG
  simp only [c80_16,c80_11,<- hC10,yB,yC]
  refine qx1 ?_
  refine Run.loop (fun m e g=>∃ i:Nat,m=x.ol.length-i/\i<=x.ol.length/\e=[(1,.p h.nx 0),(3,.str (s++ordN x.ol i)),(4,.i (i:Int))]/\Old h1 g)
   (k:=x.ol.length) Ze ⟨0,rfl,by omega,by simp [ordN],Old.refl _⟩ ?_
  rintro _ _ g ⟨i,rfl,hi,rfl,og⟩ n' ih
  have gx:g.get h.nx=some (.cells x.V false):=by rw [og.2 _ n1,g1]
  have hoL:=jme x.ol i
  by_cases hlt:(i:Int)<x.ol.length
  case pos=>
   obtain ⟨n,hn⟩:=jd9 (l:=x.ol) (i:=i) om
   obtain ⟨b,oo,cs,rr,rfl,lb,gb,hc⟩:=go (by intro e;rw [e] at hn;simp at hn)
   have gb1:g.get b=some (.cells cs rr):=by rw [og.2 b (zr lb (o0.trans o1).1),(o0.trans o1).2 b lb,gb]
   have h4:cs[oo+(i:Int).toNat*1]?=some (.i n):=by rw [zw,Nat.mul_one];exact hc i n hn
   obtain ⟨un,eun,hun,enu⟩:=jji n
   obtain ⟨g2,e2,o2⟩:=jfZ hcl (d:=d-1) (u:=un) (h:=g) om hun
   have hnl:=jeH n
   rw [<- enu] at e2
   have hi1:(i:Int)+1=((i+1:Nat):Int):=by omega
   have hoS:ordN x.ol (i+1)=ordN x.ol i++(if i=0 then [32,111,114,100,101,114,32] else [44])++numU n:=by rw [ordN,hn];rfl
   clear go A A1 hc hdl
   by_cases hz:i=0
   ·have hz':(i:Int)=0:=by omega
    rw [if_pos hz] at hoS
    refine qx1 ?_
    refine Ops.sadd rfl rfl Zc ?_
    refine qx1 ?_
    rw [eun]
    refine qx1 ?_
    refine Ops.sadd rfl rfl Zc ?_
    refine qx1 ?_
    rw [hi1]
    exact ih (x.ol.length-(i+1)) om _ _ ⟨i+1,rfl,by omega,by rw [hoS];simp only [List.append_assoc],og.trans o2⟩
   ·have hz' : ¬ (i:Int)=0:=by omega
    rw [if_neg hz] at hoS
    refine qx1 ?_
    refine Ops.sadd rfl rfl Zc ?_
    refine qx1 ?_
    rw [eun]
    refine qx1 ?_
    refine Ops.sadd rfl rfl Zc ?_
    refine qx1 ?_
    rw [hi1]
    exact ih (x.ol.length-(i+1)) om _ _ ⟨i+1,rfl,by omega,by rw [hoS];simp only [List.append_assoc],og.trans o2⟩
  obtain rfl:i=x.ol.length:=by omega
  clear ih go
  refine qx1 ?_
  refine Run.loop (fun m e g'=>∃ i:Nat,m=x.ml.length-i/\i<=x.ml.length/\e=[(1,.p h.nx 0),(3,.str (s++ordN x.ol x.ol.length++movN (x.ml.map MvX.m) i)),(5,.i (i:Int))]/\Old h1 g')
   (k:=x.ml.length) Ze ⟨0,rfl,by omega,by simp [movN],og⟩ ?_
  clear og gx
  rintro _ _ g' ⟨i,rfl,hi,rfl,og⟩ n2 ih
  have gx:g'.get h.nx=some (.cells x.V false):=by rw [og.2 _ n1,g1]
  have hmL:=jmh (l:=x.ml.map MvX.m) (fun m hm=>by obtain ⟨y,hy,rfl⟩:=List.mem_map.1 hm;exact hdl y hy) i
  by_cases hlt:(i:Int)<x.ml.length
  case neg=>
   obtain rfl:i=x.ml.length:=by omega
   have oF:=(o0.trans o1).trans og
   clear ih A A1 hdl
   refine qx1 ?_
   exact ⟨rfl,oF⟩
  obtain ⟨y,hy⟩:=jd9 (l:=x.ml) (i:=i) om
  have T:=fun sb=>ln_m hcl (d:=d-1) (b:=h.nx) (s:=s++ordN x.ol x.ol.length++movN (x.ml.map MvX.m) i) (sb:=sb) (k:=i) om gx (zr n1 og.1) (A1.old og) hy (hdl y (zc hy)) (by simp only [zg];omega)
  rw [<- hC10] at T
  have hi1:(i:Int)+1=((i+1:Nat):Int):=by omega
  have hmS:movN (x.ml.map MvX.m) (i+1)=movN (x.ml.map MvX.m) i++mvT y.m:=by rw [movN,List.getElem?_map,hy];rfl
  clear A A1 hdl
  refine qx1 ?_
  refine Run.cut _ (T _) ?_
  rintro _ _ g2 ⟨rfl,⟨sb2,rfl⟩,o2⟩
  refine qx1 ?_
  rw [hi1]
  exact ih (x.ml.length-(i+1)) om _ _ ⟨i+1,rfl,by omega,by rw [hmS];simp only [List.append_assoc],og.trans o2⟩
 obtain ⟨C,hC⟩ : ∃ C,C=c80_16:=⟨_,rfl⟩
 rw [<- hC] at T
 refine jag (at_ hcl om rfl rfl rfl ?_)
 simp only [c80,c80_18,c80_17,<- hC,yB,yH]
 clear A A1 hln hdl go
 refine Run.seq (Run.region0 (Ops.make (ob := .cells x.V false) (mk:=fun b=>.p b 0) rfl rfl ?_))
 rw [hG]
 refine qx1 ?_
 refine Ops.sadd rfl rfl Zc ?_
 repeat' (first|refine qxy ?_|refine zbf rfl (fun _=>?_) fun _=>?_|refine zbg rfl (fun _=>?_) fun _=>?_|refine zbh rfl (fun _=>?_) fun _=>?_|refine zbm rfl (fun _=>?_) fun _=>?_|refine zbn rfl (fun _=>?_) fun _=>?_)
 ·next hin=>
  rw [hin] at T
  refine Ops.sadd rfl rfl Zc ?_
  refine qx1 ?_
  exact T _ _ rfl
 ·next hin=>
  rw [hin] at T
  exact T ([115,116,101,112,32]++dec u) _ Zd
end
section
variable {P:Sp->Prop} {rd:St->Bool} {fv:Bool}
theorem jhs : ∀ {l:List Sp} {o:List Int} {st:St},(∀ x∈l,P x)->(∀ x∈(jgi l o st).2.1,P x)/\(jgi l o st).2.1.length<=l.length
 | [],_,_,h=>⟨h,zq _⟩
 | x :: l,o,st,h=>by
  by_cases ht:x.ticks=0
  ·cases hi:x.intr with
   | true=>rw [jhg ht hi];exact ⟨fun y hy=>h y (zl _ hy),by simp⟩
   | false=>
    rw [jhe ht hi]
    obtain ⟨q1,q2⟩:=jhs (l:=l) (o:=x.order) (st:=mvsS x.moves st) fun y hy=>h y (zl _ hy)
    exact ⟨q1,by rw [List.length_cons];omega⟩
  ·rw [jhf ht];exact ⟨h,zq _⟩
theorem jmg (hP : ∀ x t,P x->P { x with ticks:=t }) : ∀ {l:List Sp} {wt:Int} {o:List Int} {st:St},(∀ x∈l,P x)->(∀ x∈(napS rd fv l wt o st).2.1,P x)/\(napS rd fv l wt o st).2.1.length<=l.length
 | [],wt,o,st,h=>by
  by_cases hr:rd st=true
  ·rw [jd3 hr];exact ⟨h,zq _⟩
  have hr:rd st=false:=by simpa using hr
  cases fv with
  | true=>rw [jcR hr rfl];exact ⟨h,zq _⟩
  | false=>
   by_cases hw:wt=0
   ·rw [jiV hr rfl hw];exact ⟨h,zq _⟩
   ·rw [jhl hr rfl hw];exact ⟨h,zq _⟩
 | x :: l,wt,o,st,h=>by
  have hl : ∀ y∈l,P y:=fun y hy=>h y (zl _ hy)
  by_cases hr:rd st=true
  ·rw [jd3 hr];exact ⟨h,zq _⟩
  have hr:rd st=false:=by simpa using hr
  by_cases h1:fv=false/\wt=0
  ·rw [jiV hr h1.1 h1.2];exact ⟨h,zq _⟩
  by_cases h2:fv=false/\wt<x.ticks
  ·rw [jfO hr h2.1 (fun e=>h1 ⟨h2.1,e⟩) h2.2]
   refine ⟨fun y hy=>?_,zq _⟩
   rcases List.mem_cons.1 hy with rfl | hy
   ·exact hP x _ (h x (zj ..))
   ·exact hl y hy
  cases hi:x.intr with
  | true=>rw [jg5 hr h1 h2 hi];exact ⟨hl,by simp⟩
  | false=>
   rw [jg4 hr h1 h2 hi]
   obtain ⟨q1,q2⟩:=jmg hP (l:=l) (wt:=wt-min wt x.ticks) (o:=x.order) (st:=mvsS x.moves { st with now:=jcn st.now x.ticks }) hl
   exact ⟨q1,by rw [List.length_cons];omega⟩
theorem jm8 (hP : ∀ x t,P x->P { x with ticks:=t }) {l:List Sp} {wt:Int} {o:List Int} {st:St} (h : ∀ x∈l,P x):(∀ x∈(jbO rd fv l wt o st).2.1,P x)/\(jbO rd fv l wt o st).2.1.length<=l.length:=by
 unfold jbO
 have hz:=jhs (o:=o) (st:=st) h
 generalize jgi l o st=z at hz
 obtain ⟨c,l',o',st'⟩:=z
 cases c with
 | true=>exact hz
 | false=>
  obtain ⟨q1,q2⟩:=jmg (rd:=rd) (fv:=fv) hP (wt:=wt) (o:=o') (st:=st') hz.1
  exact ⟨q1,zA q2 hz.2⟩
end
section
variable {Q:List Int->Prop} {rd:St->Bool} {fv:Bool}
theorem jjV : ∀ {l:List Sp} {o:List Int} {st:St},Q o->(∀ x∈l,Q x.order)->Q (jgi l o st).2.2.1
 | [],_,_,h,_=>h
 | x :: l,o,st,h,hl=>by
  have hl' : ∀ y∈l,Q y.order:=fun y hy=>hl y (zl _ hy)
  by_cases ht:x.ticks=0
  ·cases hi:x.intr with
   | true=>rw [jhg ht hi];exact hl x (zj ..)
   | false=>rw [jhe ht hi];exact jjV (hl x (zj ..)) hl'
  ·rw [jhf ht];exact h
theorem jmf : ∀ {l:List Sp} {wt:Int} {o:List Int} {st:St},Q o->(∀ x∈l,Q x.order)->Q (napS rd fv l wt o st).2.2.1
 | [],wt,o,st,h,_=>by
  by_cases hr:rd st=true
  ·rw [jd3 hr];exact h
  have hr:rd st=false:=by simpa using hr
  cases fv with
  | true=>rw [jcR hr rfl];exact h
  | false=>
   by_cases hw:wt=0
   ·rw [jiV hr rfl hw];exact h
   ·rw [jhl hr rfl hw];exact h
 | x :: l,wt,o,st,h,hl=>by
  have hl' : ∀ y∈l,Q y.order:=fun y hy=>hl y (zl _ hy)
  by_cases hr:rd st=true
  ·rw [jd3 hr];exact h
  have hr:rd st=false:=by simpa using hr
  by_cases h1:fv=false/\wt=0
  ·rw [jiV hr h1.1 h1.2];exact h
  by_cases h2:fv=false/\wt<x.ticks
  ·rw [jfO hr h2.1 (fun e=>h1 ⟨h2.1,e⟩) h2.2];exact h
  cases hi:x.intr with
  | true=>rw [jg5 hr h1 h2 hi];exact hl x (zj ..)
  | false=>rw [jg4 hr h1 h2 hi];exact jmf (hl x (zj ..)) hl'
theorem jm7 {l:List Sp} {wt:Int} {o:List Int} {st:St} (h:Q o) (hl : ∀ x∈l,Q x.order):Q (jbO rd fv l wt o st).2.2.1:=by
 unfold jbO
 have hz:=jjV (st:=st) h hl
 have ha:=(jhs (P:=fun x=>Q x.order) (o:=o) (st:=st) hl).1
 generalize jgi l o st=z at hz ha
 obtain ⟨c,l',o',st'⟩:=z
 cases c with
 | true=>exact hz
 | false=>exact jmf hz ha
end
theorem jlc : ∀ {l l':List SpX},l.map SpX.sp=l'.map SpX.sp->sumM l=sumM l'
 | [],[],_=>rfl
 | x :: l,y :: l',h=>by
  simp only [List.map_cons,List.cons.injEq] at h
  have h1:x.ml.length=y.ml.length:=by have:=congrArg (fun s=>s.moves.length) h.1;simpa [SpX.sp] using this
  show x.ml.length+sumM l=y.ml.length+sumM l'
  rw [h1,jlc h.2]
 | [],y :: l',h=>by simp at h
 | x :: l,[],h=>by simp at h
section
variable {cl:Nat->Call} (hcl:Sem cl) {d:Nat} {h:H}
include hcl
theorem rm_Same {P1 Q1 P2 Q2 P3 P4:Nat->Prop} {v1 v2:V} {l1 l2:List SpX} (hd:3<=d) (a1:At4 h P1 SpX.V v1 l1) (s1 : ∀ x∈l1,StepAt h P3 Q1 x) (a2:At4 h P2 SpX.V v2 l2) (s2 : ∀ x∈l2,StepAt h P4 Q2 x) (hsp:l1.map SpX.sp=l2.map SpX.sp) (hf : ∀ x∈l1.map SpX.sp,x.few) (hl:l1.length<=2000) :
  ∃ h',cl d (.fn F.jeV) [v1,v2] h=some (.bool true,h')/\Old h h':=by
 have hln:l2.length=l1.length:=by have:=congrArg List.length hsp;simpa using this.symm
 obtain ⟨ad1,c1,rfl,_,_,g1⟩:=a1
 obtain ⟨ad2,c2,rfl,_,_,g2⟩:=a2
 have hne : ¬ ((l1.length:Nat):Int)≠((l2.length:Nat):Int):=fun e=>e (by rw [hln])
 refine jag (at_ hcl om rfl rfl rfl ?_)
 refine qx1 ?_
 refine Run.loop (fun m e g=>∃ i:Nat,m=l1.length-i/\i<=l1.length/\e=[(0,.slice ad1 l1.length c1),(1,.slice ad2 l2.length c2),(5,.i (i:Int))]/\Old h g)
  (k:=l1.length) Ze ⟨0,rfl,by omega,rfl,Old.refl h⟩ ?_
 rintro _ _ g ⟨i,rfl,hi,rfl,og⟩ n' ih
 by_cases hlt:(i:Int)<l1.length
 case neg=>
  clear ih g1 g2 s1 s2 hf
  refine qx1 ?_
  exact ⟨rfl,og⟩
 obtain ⟨x,hx⟩:=jd9 (l:=l1) (i:=i) om
 obtain ⟨y,hy⟩:=jd9 (l:=l2) (i:=i) om
 have hxy:x.sp=y.sp:=by
  have h1:(l1.map SpX.sp)[i]?=some x.sp:=by rw [List.getElem?_map,hx];rfl
  rw [hsp,List.getElem?_map,hy] at h1
  exact (Option.some.inj h1).symm
 have hxm:=zc hx
 have hym:=zc hy
 obtain ⟨b1,o1,cs1,r1,rfl,lb1,_,gb1,hc1⟩:=g1 (by intro e;rw [e] at hx;simp at hx)
 obtain ⟨b2,o2,cs2,r2,rfl,lb2,_,gb2,hc2⟩:=g2 (by intro e;rw [e] at hy;simp at hy)
 have x4:(cs1.drop (o1+(i:Int).toNat*4)).take 4=x.V:=by rw [zw];exact hc1 i x hx
 have y4:(cs2.drop (o2+(i:Int).toNat*4)).take 4=y.V:=by rw [zw];exact hc2 i y hy
 have xl:=jf6 x4 rfl
 have yl:=jf6 y4 rfl
 have gb1':g.get b1=some (.cells cs1 r1):=by rw [og.2 b1 lb1,gb1]
 have gb2':g.get b2=some (.cells cs2 r2):=by rw [og.2 b2 lb2,gb2]
 have hfx:=hf x.sp (List.mem_map_of_mem hxm)
 obtain ⟨h3,e3,o3⟩:=jnI hcl (d:=d-1) om ((s1 x hxm).old og) hfx
 obtain ⟨h4,e4,o4⟩:=jnI hcl (d:=d-1) om ((s2 y hym).old (og.trans o3)) (by rw [<- hxy];exact hfx)
 rw [<- hxy] at e4
 have gb2'':h3.get b2=some (.cells cs2 r2):=by rw [o3.2 b2 (zr lb2 og.1),gb2']
 have hi1:(i:Int)+1=((i+1:Nat):Int):=by omega
 have hlt2:i<l2.length:=by omega
 clear g1 g2 s1 s2 hf hc1 hc2 hne
 refine qx1 ?_
 refine Ops.loadN rfl gb1' xl ?_
 rw [x4]
 refine qx1 ?_
 refine Ops.loadN rfl gb2' yl ?_
 rw [y4]
 refine Ops.callf_chk rfl e3 (je7 rfl gb2'' yl y4 rfl ja6) ?_
 repeat' (first|refine qxy ?_|refine zbf rfl (fun _=>?_) fun _=>?_|refine zbg rfl (fun _=>?_) fun _=>?_|refine zbh rfl (fun _=>?_) fun _=>?_|refine zbm rfl (fun _=>?_) fun _=>?_|refine zbn rfl (fun _=>?_) fun _=>?_)
 ·next hh=>simp at hh
 rw [hi1]
 exact ih (l1.length-(i+1)) om _ _ ⟨i+1,rfl,by omega,rfl,og.trans (o3.trans o4)⟩
variable {ow:Nat->Nat} {ro dat:Nat->Prop} {p sb:Nat} {bs:Option Nat} {X:Nat->Prop} {L:List SpX} {o:List Int}
theorem wm_Left (hd:4<=d) (A:SW h ow ro dat p sb bs X L o) (hl:L.length<=2000) :
  ∃ v l' h',cl d (.fn F.jdH) [.p sb 0] h=some (v,h')/\l'.map SpX.sp=L.map SpX.sp/\At4 h' (h.nx <= ·) SpX.V v l'/\(∀ x∈l',StepAt h' (fun z=>h.nx<=z/\V.at? v≠some z) (fun z=>h.nx<=z/\V.at? v≠some z) x)/\Old h h':=by
 suffices q : ∃ w h',cl d (.fn F.jdH) [.p sb 0] h=some (w,h') /\ ∃ l',l'.map SpX.sp=L.map SpX.sp/\At4 h' (h.nx <= ·) SpX.V w l'/\(∀ x∈l',StepAt h' (fun z=>h.nx<=z/\V.at? w≠some z) (fun z=>h.nx<=z/\V.at? w≠some z) x)/\Old h h' by
  obtain ⟨v',h',e,l',q⟩:=q;exact ⟨v',l',h',e,q⟩
 obtain ⟨v,ov,e1,e2,e3,e4,e5,e6⟩:=A.ex
 obtain ⟨w,l',h',k1,k2,k3,k4,_,k6⟩:=jlH hcl (d:=d-1) om ⟨e3,fun x hx=>(e4 x hx).keep (P':=PB ow ro sb) (zq _) (fun z _ hp=>⟨rfl,hp.1⟩) fun z _ hp=>⟨rfl,hp.1⟩⟩ hl A.few
 refine at_ hcl om rfl rfl rfl ?_
 clear e3 e4 e5 e6
 refine qx1 ?_
 exact ⟨l',k2,k3,k4,k6⟩
theorem wm_Order (hd:2<=d) (A:SW h ow ro dat p sb bs X L o) (hl:o.length<=1000) : ∃ v h',cl d (.fn F.jfP) [.p sb 0] h=some (v,h')/\VI h' v o/\Old h h':=by
 obtain ⟨v,ov,e1,e2,e3,e4,e5,e6⟩:=A.ex
 obtain ⟨w,h',k1,k2,k3⟩:=jjq hcl (d:=d-1) om e5 om
 have k4:=k3.vi
 refine at_ hcl om rfl rfl rfl ?_
 clear e3 e4 e5 e6 k3
 refine qx1 ?_
 exact ⟨k4,k2⟩
end
theorem jlX {h:H} : ∀ {l:List Int} {cs:List V},jbs (jcl .i64) h l cs->cs=ints l
 | [],_,e=>e
 | x :: l,_,⟨u,w,e,h1,h2⟩=>by
  obtain ⟨rfl,_⟩:=h1
  rw [e,jlX h2];rfl
theorem ints_of {h:H} {l:List Int} {u:V} (r:jb5 60 (jcl .i64) h l [u]):(∃ ad c,u = .slice ad l.length c)/\(l.length<=60->VI h u l/\(l≠[] -> ∀ z,u.at?=some z->z<h.nx)):=by
 obtain ⟨a,c,e,h1,h2,h3⟩:=r
 cases e
 refine ⟨⟨a,_,rfl⟩,fun hB=>⟨⟨a,.fix c,rfl,fun e=>?_,h2,fun hn=>?_⟩,fun hn z hz=>?_⟩⟩
 ·obtain ⟨rfl,rfl⟩:=h3 e;exact ⟨rfl,rfl⟩
 ·obtain ⟨b,cs,q1,q2,q3,q4⟩:=h1 hB hn
  exact ⟨b,0,cs,true,q1,q2,q3,fun i x hi=>by rw [jlX q4,Nat.zero_add];simp [hi]⟩
 ·obtain ⟨b,cs,rfl,q2,q3,q4⟩:=h1 hB hn
  cases hz;exact q2
theorem mvs4_of {h:H} {l:List (Int × Int × Int × List Int × Unit)} {u:V} (r:jb5 60 joX h l [u]) : ∃ L:List MvX,L.length=l.length/\jpj 60 h u L/\(L.length<=60->At4 h (· < h.nx) MvX.V u L):=by
 obtain ⟨ad,c,e,h1,h2,h3⟩:=r
 cases e
 by_cases hl:l.length<=60
 ·by_cases hn:l=[]
  ·subst hn
   exact ⟨[],rfl,⟨⟨ad,.fix c,rfl⟩,fun _=>⟨fun x hx=>(by cases hx),ad,.fix c,rfl,fun e=>absurd rfl e⟩⟩,fun _=>⟨ad,.fix c,rfl,fun e=>⟨by rw [(h3 e).1],rfl⟩,Nat.zero_le _,fun e=>absurd rfl e⟩⟩
  ·obtain ⟨b,cs,rfl,q1,q2,q3⟩:=h1 hl hn
   obtain ⟨L,l1,rfl,l3⟩:=jnQ q3
   exact ⟨L,l1,⟨⟨_,.fix c,by rw [l1]⟩,fun _=>⟨l3,_,.fix c,by rw [l1],fun _=>⟨b,_,true,rfl,q1,q2,je0 (fun _=>rfl) L,fun i x hx=>jct (fun _=>rfl) hx⟩⟩⟩,fun _=>⟨_,.fix c,by rw [l1],fun e=>(by cases e),by show L.length<=c;omega,fun _=>⟨b,0,_,true,rfl,q1,q1,q2,fun i x hx=>by rw [Nat.zero_add];exact jct (fun _=>rfl) hx⟩⟩⟩
 ·exact ⟨List.replicate l.length ⟨⟨0,0,0,[]⟩,.nils⟩,by simp,⟨⟨ad,.fix c,by simp⟩,fun hl'=>absurd (by simpa using hl') hl⟩,fun hl'=>absurd (by simpa using hl') hl⟩
abbrev joU:H->Int × Bool × List Int × List (Int × Int × Int × List Int × Unit) × Unit->List V->Prop:=jbJ (jcl .u64) (jbJ jlm (jbJ (jb5 60 (jcl .i64)) (jbJ (jb5 60 joX) jkn)))
def SpIn (h:H) (x:SpX):Prop:=SpOk h x/\(x.ml.length<=60->x.ol.length<=60->(∀ m∈x.ml,m.m.D.length<=1100)->StepAt h (· < h.nx) (· < h.nx) x)
theorem jn0 {h:H} : ∀ {l:List (Int × Bool × List Int × List (Int × Int × Int × List Int × Unit) × Unit)} {cs:List V},jbs joU h l cs -> ∃ L:List SpX,L.length=l.length/\cs=(L.map SpX.V).flatten /\ ∀ x∈L,SpIn h x
 | [],_,e=>⟨[],rfl,e,fun x hx=>by cases hx⟩
 | y :: l,_,⟨u,w,e,h1,h2⟩=>by
  obtain ⟨L,l1,l2,l3⟩:=jn0 h2
  obtain ⟨_,_,rfl,⟨rfl,t0,t1⟩,_,_,rfl,hb,u3,w3,rfl,r3,u4,w4,rfl,r4,hw⟩:=h1
  obtain rfl:_=_:=hb
  obtain rfl:w4=[]:=hw
  have ⟨a3,c3,e3,_⟩:=r3
  have ⟨a4,c4,e4,_⟩:=r4
  subst e3 e4
  obtain ⟨i1,i2⟩:=ints_of r3
  obtain ⟨M,m1,m2,m3⟩:=mvs4_of r4
  refine ⟨⟨y.1,y.2.1,y.2.2.1,.slice a3 y.2.2.1.length (.fix c3),M,.slice a4 y.2.2.2.1.length (.fix c4)⟩ :: L,by simp [l1],by rw [e,l2];rfl,fun x hx=>?_⟩
  rcases List.mem_cons.1 hx with rfl | hx
  ·refine ⟨⟨⟨i1,fun hl=>(i2 hl).1⟩,m2,t0,t1⟩,fun hm ho hd=>⟨⟨(i2 ho).1,(i2 ho).2⟩,m3 hm,fun m hmm=>?_,t0,t1⟩⟩
   obtain ⟨a,c,e,g⟩:=(m2.2 hm).1 m hmm
   have hB:=g (hd m hmm)
   have hv:VB h m.dv m.m.D:=⟨a,c,e,hB⟩
   exact ⟨hv,fun hn z hz=>hv.lt hn hz⟩
  ·exact l3 x hx
theorem spsIn_of {h:H} {l:List (Int × Bool × List Int × List (Int × Int × Int × List Int × Unit) × Unit)} {u:V} (r:jb5 100 joU h l [u]) : ∃ L:List SpX,jpi h u L/\(fewS L->je9 h (· < h.nx) (· < h.nx) u L):=by
 obtain ⟨ad,c,e,h1,h2,h3⟩:=r
 cases e
 by_cases hl:l.length<=100
 ·by_cases hn:l=[]
  ·subst hn
   exact ⟨[],⟨ad,.fix c,rfl,fun _=>⟨fun x hx=>(by cases hx),fun e=>absurd rfl e⟩⟩,fun _=>⟨⟨ad,.fix c,rfl,fun e=>⟨by rw [(h3 e).1],rfl⟩,Nat.zero_le _,fun e=>absurd rfl e⟩,fun x hx=>by cases hx⟩⟩
  ·obtain ⟨b,cs,rfl,q1,q2,q3⟩:=h1 hl hn
   obtain ⟨L,l1,rfl,l3⟩:=jn0 q3
   exact ⟨L,⟨_,.fix c,by rw [l1],fun _=>⟨fun x hx=>(l3 x hx).1,fun _=>⟨b,_,true,rfl,q1,q2,je0 (fun _=>rfl) L,fun i x hx=>jct (fun _=>rfl) hx⟩⟩⟩,fun hf=>⟨⟨_,.fix c,by rw [l1],fun e=>(by cases e),by show L.length<=c;omega,fun _=>⟨b,0,_,true,rfl,q1,q1,q2,fun i x hx=>by rw [Nat.zero_add];exact jct (fun _=>rfl) hx⟩⟩,fun x hx=>(l3 x hx).2 (hf.each x hx).1 (hf.each x hx).2.1 (hf.each x hx).2.2⟩⟩
 ·refine ⟨List.replicate l.length ⟨0,false,[],.nils,[],.nils⟩,⟨ad,.fix c,by simp,fun hl'=>absurd (by simpa using hl') hl⟩,fun hf=>absurd (by have:=hf.len;simpa using this) hl⟩
abbrev joF:H->Int × Bool × Int × Unit->List V->Prop:=jbJ (jcl .u64) (jbJ jlm (jbJ (jcl .i64) jkn))
def jok (h:H) (v:V) (l:List (Int × Bool × Int × Unit)):Prop := ∃ ad c,v = .slice ad l.length c/\(l.length<=30->l≠[] -> ∃ b cs ro,ad=some (b,0)/\b<h.nx/\h.get b=some (.cells cs ro) /\ ∀ (i:Nat) (x:Int × Bool × Int × Unit),l[i]?=some x ->
 cs[0+(i:Int).toNat*3+0]?=some (.int .u64 x.1)/\cs[0+(i:Int).toNat*3+1]?=some (.bool x.2.1)/\cs[0+(i:Int).toNat*3+2]?=some (.i x.2.2.1)/\0<=x.1/\x.1<=18446744073709551615)
theorem naps_of {h:H} {l:List (Int × Bool × Int × Unit)} {u:V} (r:jb5 30 joF h l [u]):jok h u l:=by
 obtain ⟨ad,c,e,h1,h2,h3⟩:=r
 cases e
 refine ⟨ad,.fix c,rfl,fun hl hn=>?_⟩
 obtain ⟨b,cs,q1,q2,q3,q4⟩:=h1 hl hn
 refine ⟨b,cs,true,q1,q2,q3,fun i x hx=>?_⟩
 have hg:=jbs.get (sz:=3) (fun {x vs} k=>by
  obtain ⟨_,_,rfl,⟨rfl,_⟩,_,_,rfl,hb,_,_,rfl,⟨rfl,_⟩,hw⟩:=k
  obtain rfl:_=_:=hb
  obtain rfl:_=[]:=hw
  rfl) q4 hx
 obtain ⟨_,_,e,⟨rfl,t0,t1⟩,_,_,rfl,hb,_,_,rfl,⟨rfl,_⟩,hw⟩:=hg
 obtain rfl:_=_:=hb
 obtain rfl:_=[]:=hw
 have k : ∀ j,j<3->cs[0+(i:Int).toNat*3+j]?=([.int .u64 x.1]++([.bool x.2.1]++([.i x.2.2.1]++[])):List V)[j]?:=fun j hj=>by
  rw [<- e,List.getElem?_take,if_pos hj,zm]
  congr 1
  omega
 exact ⟨k 0 om,k 1 om,k 2 om,t0,t1⟩
structure NI (h0 g:H) (p w s rw bp sb rs:Nat) (bs:Option Nat) (ow:Nat->Nat) (ro:Nat->Prop) (st:St) (i:Nat) (L1 L2:List SpX) (o:List Int):Prop where
 b:BB g p w s rw ow ro (fun j=>j<h0.nx) st st
 so:StOk st i
 W:SW g ow ro (fun j=>j<h0.nx) p sb bs (fun z=>z≠rs) L1 o
 D:SD g ow ro (fun j=>j<h0.nx) p rs (fun z=>z≠sb/\bs≠some z) L2 o
 sp:L1.map SpX.sp=L2.map SpX.sp
 few : ∀ x∈L1.map SpX.sp,x.few
 sum:i+sumM L1<=600
 len:L1.length<=2000
 ol:o.length<=1000
 bpg:g.get bp=some (.cells [.p p 0] false)
 bpo:Own g ow ro (fun j=>j<h0.nx) p bp
 bpn:bp≠sb/\bs≠some bp/\bp≠rs
 rsn:rs≠sb/\bs≠some rs
 lb : ∀ z,z=sb\/bs=some z\/z=rs->h0.nx<=z
 old:Old h0 g
theorem NI.old' {h0 g g':H} {p w s rw bp sb rs:Nat} {bs:Option Nat} {ow:Nat->Nat} {ro:Nat->Prop} {st:St} {i:Nat} {L1 L2:List SpX} {o:List Int} (a:NI h0 g p w s rw bp sb rs bs ow ro st i L1 L2 o) (q:Old g g'):NI h0 g' p w s rw bp sb rs bs ow ro st i L1 L2 o where
 b:=a.b.old q
 so:=a.so
 W:=a.W.fs (Fs.old (S:=fun _=>False) q) (fun e=>e) (fun _ _ e=>e) fun _ _ e=>e
 D:=a.D.fs a.b (Fs.old (S:=fun _=>False) q) (fun e=>e) (fun _ _ e=>e) fun _ _ e=>e
 sp:=a.sp
 few:=a.few
 sum:=a.sum
 len:=a.len
 ol:=a.ol
 bpg:=by rw [q.2 _ a.bpo.lt,a.bpg]
 bpo:=a.bpo.fs (Fs.old (S:=fun _=>False) q)
 bpn:=a.bpn
 rsn:=a.rsn
 lb:=a.lb
 old:=a.old.trans q
section
variable {cl:Nat->Call} (hcl:Sem cl)
include hcl
theorem ni_sleep {d p w s rw bp bf sb rs i:Nat} {bs:Option Nat} {h0 g:H} {ow:Nat->Nat} {ro:Nat->Prop} {st:St} {L1 L2:List SpX} {o:List Int} {wt fd:Int} {fv:Bool} (hd:17<=d) (a:NI h0 g p w s rw bp sb rs bs ow ro st i L1 L2 o)
  (hbf:g.get bf=some (.cells [.i fd] false)) (ob:Own g ow ro (fun j=>j<h0.nx) p bf) (nb:bf≠sb/\bs≠some bf/\bf≠rs) (w0:0<=wt) (w1:wt<=18446744073709551615) :
  ∃ v g2 g3 ow' ro' st' i' L1' L2' o',cl d (.fn F.jdt) [.p sb 0,.p w 0,.int .u64 wt,.bool fv,.clo F.jah [.p bp 0,.p bf 0]] g=some (.i v,g2) /\
   cl d (.fn F.jbD) [.p rs 0,.p rw 0,.int .u64 wt,.bool fv,.i fd] g2=some (.i v,g3)/\NI h0 g3 p w s rw bp sb rs bs ow' ro' st' i' L1' L2' o'/\g2.get bp=some (.cells [.p p 0] false)/\g2.get bf=some (.cells [.i fd] false)/\g2.get p=some (.cells [.p w 0,.p rw 0] false)/\Old h0 g2:=by
 have hS : ∀ z,z≠sb/\bs≠some z -> ¬ (z=sb\/bs=some z):=fun z hz e=>e.elim hz.1 hz.2
 have dS : ∀ z,z<h0.nx -> ¬ (z=sb\/bs=some z):=fun z hz e=>by
  have:=a.lb z (e.elim .inl fun e=>.inr (.inl e))
  omega
 obtain ⟨_,g2,e1,ow',L1',i1,rfl,hs1,b2,so2,W2,f2,sum2⟩:=wm_Sleep hcl (N:=600) (fd:=fd) (wt:=wt) (fv:=fv) hd a.b a.so a.W a.sum om a.len a.bpg hbf ⟨a.bpo,a.bpn.1,a.bpn.2.1⟩ ⟨ob,nb.1,nb.2.1⟩ w0 w1
 have D2:=a.D.fs a.b f2 (hS rs a.rsn) dS fun z hz=>hS z hz
 have hsum:=jlc a.sp
 have hlen2:L2.length=L1.length:=by have:=congrArg List.length a.sp;simpa using this.symm
 obtain ⟨_,g3,e2,ro',L2',i2,rfl,hs2,b3,so3,D3,f3,sum3⟩:=rm_Sleep hcl (d:=d) (N:=600) (fd:=fd) (wt:=wt) (fv:=fv) om b2 a.so D2 (by rw [<- hsum];exact a.sum) om (by rw [hlen2];exact a.len) (fun z hz=>⟨fun e=>by have:=a.W.own.lt;have:=f2.ch.nx;omega,fun e=>by have:=(a.W.bown z e).1.lt;have:=f2.ch.nx;omega⟩) w0 w1
 rw [<- a.sp] at e2 hs2 b3 so3 D3
 have hall:=jm8 (rd:=rdI fd) (fv:=fv) (wt:=wt) (o:=o) (st:=st) (P:=Sp.few) (fun x t hx=>hx) a.few
 have hord:=jm7 (rd:=rdI fd) (fv:=fv) (wt:=wt) (o:=o) (st:=st) (Q:=fun l=>l.length<=1000) a.ol fun x hx=>by have:=(a.few x hx).2.1;omega
 generalize jbO (rdI fd) fv (L1.map SpX.sp) wt o st=R at e1 e2 hs1 hs2 b2 so2 W2 b3 so3 D3 hall hord
 obtain ⟨r1,r2,r3,r4⟩:=R
 have W3:=W2.fs f3 (fun e=>a.rsn.1 e.symm) (fun z hz e=>a.rsn.2 (by rw [hz,e])) fun z hz=>hz
 have kd2:Old h0 g2:=⟨zA a.old.1 f2.ch.nx,fun j hj=>by rw [f2.ch.get j (zr hj a.old.1) fun e=>e.elim (fun e=>e (a.b.sep j (.inr hj))) fun e=>e.elim (a.b.ap hj) (dS j hj),a.old.2 j hj]⟩
 have kd3:Old h0 g3:=⟨zA kd2.1 f3.ch.nx,fun j hj=>by rw [f3.ch.get j (zr hj kd2.1) fun e=>e.elim (fun e=>e (b2.sep j (.inr hj))) fun e=>e.elim (b2.ap hj) fun e=>(by have:=a.lb j (.inr (.inr e));omega),kd2.2 j hj]⟩
 have bp2:g2.get bp=some (.cells [.p p 0] false):=by rw [f2.get a.bpo (hS bp ⟨a.bpn.1,a.bpn.2.1⟩),a.bpg]
 have o2:=a.bpo.fs f2
 refine ⟨r1,g2,g3,ow',ro',r4,i1,L1',L2',r3,e1,e2,⟨b3,so2,W3,D3,by rw [hs1,hs2],by rw [hs1];exact hall.1,sum2,?_,hord,by rw [f3.get o2 a.bpn.2.2,bp2],o2.fs f3,a.bpn,a.rsn,a.lb,kd3⟩,bp2,by rw [f2.get ob (hS bf ⟨nb.1,nb.2.1⟩),hbf],b2.hp,kd2⟩
 have h1:=hall.2
 have h2:=congrArg List.length hs1
 simp only [List.length_map] at h1 h2
 have:=a.len
 omega
end
section
variable {cl:Nat->Call} (hcl:Sem cl)
include hcl
theorem ms_naps {d p w s rw bp sb rs i:Nat} {bs:Option Nat} {h0 g:H} {ow:Nat->Nat} {ro:Nat->Prop} {st:St} {L1 L2:List SpX} {o:List Int} {vn:V} {l:List (Int × Bool × Int × Unit)} {sbe:Env} (hd:18<=d) (P:Pw h0) (a:NI h0 g p w s rw bp sb rs bs ow ro st i L1 L2 o) (hn:jok h0 vn l) (hl:l.length<=30) :
  Run (cl d) fuel c4_9 [] ((2,vn) :: (7,.p bp 0) :: (9,.p sb 0) :: (11,.p rs 0) :: sbe) g (Fin c4.res fun v _=>v = .bool true):=by
 obtain ⟨ad,c,rfl,hb⟩:=hn
 obtain ⟨C8,hC8⟩ : ∃ C,C=c4_8:=⟨_,rfl⟩
 simp only [c4_9,<- hC8,yB]
 refine qx1 ?_
 refine Run.loop (fun m e g=>∃ (k:Nat) (ow:Nat->Nat) (ro:Nat->Prop) (st:St) (i:Nat) (L1 L2:List SpX) (o:List Int),m=l.length-k/\k<=l.length/\e=[(2,.slice ad l.length c),(7,.p bp 0),(9,.p sb 0),(11,.p rs 0),(69,.i (l.length:Int)),(70,.i (k:Int))]/\NI h0 g p w s rw bp sb rs bs ow ro st i L1 L2 o)
  (k:=l.length) Ze ⟨0,ow,ro,st,i,L1,L2,o,rfl,by omega,rfl,a⟩ ?_
 clear a ow ro st i L1 L2 o g
 rintro _ _ g ⟨k,ow,ro,st,i,L1,L2,o,rfl,hk,rfl,a⟩ n' ih
 by_cases hlt:(k:Int)<l.length
 case neg=>
  subst hC8
  clear ih hb a P
  refine qx1 ?_
  rfl
 obtain ⟨⟨wt,fv,fd,_⟩,hx⟩:=jd9 (l:=l) (i:=k) om
 obtain ⟨nb,cs,rr,rfl,lnb,gnb,hcs⟩:=hb hl (by rintro rfl;simp at hx)
 obtain ⟨k0,k1,k2,w0,w1⟩:=hcs k _ hx
 have k0:cs[0+(k:Int).toNat*3+0]?=some (.int .u64 wt):=k0
 have k1:cs[0+(k:Int).toNat*3+1]?=some (.bool fv):=k1
 have k2:cs[0+(k:Int).toNat*3+2]?=some (.i fd):=k2
 have w0:0<=wt:=w0
 have w1:wt<=18446744073709551615:=w1
 have gn0:g.get nb=some (.cells cs rr):=by rw [a.old.2 nb lnb,gnb]
 have o1:Old g ((g.new (.cells [.i 0] false)).set g.nx (.cells [.i fd] false)):=(Old.refl g).new.set (zq _)
 have gbf:((g.new (.cells [.i 0] false)).set g.nx (.cells [.i fd] false)).get g.nx=some (.cells [.i fd] false):=jab _
 have nbf:g.nx<((g.new (.cells [.i 0] false)).set g.nx (.cells [.i fd] false)).nx:=by simp
 generalize hG:(g.new (.cells [.i 0] false)).set g.nx (.cells [.i fd] false)=G at o1 gbf nbf
 have a1:=a.old' o1
 have ob:Own G ow ro (fun j=>j<h0.nx) p g.nx:=⟨nbf,a.b.W.top (zq _),fun e=>by have:=a.b.ro_lt (.inl e);omega,fun e=>by have:=a.old.1;have e:g.nx<h0.nx:=e;omega,by have:=a.b.lp;omega⟩
 have nn:g.nx≠sb/\bs≠some g.nx/\g.nx≠rs:=⟨by have:=a.W.own.lt;omega,fun e=>by have:=(a.W.bown _ e).1.lt;omega,by have:=a.D.own.lt;omega⟩
 obtain ⟨v,g2,g3,ow3,ro3,st3,i3,M1,M2,o3,e2,e3,a3,bp2,bf2,p2,old2⟩:=ni_sleep hcl (d:=d) (fd:=fd) (wt:=wt) (fv:=fv) om a1 gbf ob nn w0 w1
 have gn1:G.get nb=some (.cells cs rr):=by rw [a1.old.2 nb lnb,gnb]
 have gn2:g2.get nb=some (.cells cs rr):=by rw [old2.2 nb lnb,gnb]
 have bp1:=a1.bpg
 have p1:=a1.b.hp
 have q3:=a3.bpg
 obtain ⟨vL,l4,g4,e4,hs4,A4,S4,o4⟩:=wm_Left hcl (d:=d) om a3.W a3.len
 have a4:=a3.old' o4
 obtain ⟨vO,g5,e5,vi5,o5⟩:=wm_Order hcl (d:=d) om a4.W a4.ol
 have a5:=a4.old' o5
 obtain ⟨v6,ov6,r6,x6,y6,z6,_⟩:=id a5.D.ex
 obtain ⟨g6,e6,o6⟩:=rm_Same hcl (d:=d) om (A4.old o5) (fun x hx=>(S4 x hx).old o5) x6 y6 (by rw [hs4,a3.sp]) (by rw [hs4];exact a3.few) (by
  have:=congrArg List.length hs4
  simp only [List.length_map] at this
  have:=a3.len
  omega)
 have a6:=a5.old' o6
 obtain ⟨g7,e7,o7⟩:=al_ok hcl (d:=d) om (P.old a6.old) a6.b a6.so (by have:=a6.sum;omega)
 have a7:=a6.old' o7
 have r66:g6.get rs=some (.cells [v6,ov6] false):=by rw [o6.2 rs a5.D.own.lt,r6]
 have r67:g7.get rs=some (.cells [v6,ov6] false):=by rw [o7.2 rs a6.D.own.lt,r66]
 have vi7:=(vi5.keep2 (o6.trans o7).1 fun hl z hz=>(o6.trans o7).2 z (vi5.lt hl hz))
 have z7:=(z6.keep2 (o6.trans o7).1 fun hl z hz=>(o6.trans o7).2 z (z6.lt hl hz))
 obtain ⟨aO,cO,rfl,_,_,gO⟩:=vi7
 obtain ⟨aR,cR,rfl,_,_,gR⟩:=z7
 have bp6:=a6.bpg
 have nv : ¬ v≠v:=fun e=>e rfl
 have no : ¬ ((o3.length:Nat):Int)≠((o3.length:Nat):Int):=fun e=>e rfl
 have hk1:(k:Int)+1=((k+1:Nat):Int):=by omega
 have hol:=a7.ol
 have T : ∀ sbe,Run (cl d) fuel c4_2 [.block 3,.seq (.region 0 [.mk4 0 (some 158) (.bin .add (.t 70) (.c (.i 1))) none,.mk4 1 (some 70) (.mv (.t 158)) none] [2,7,9,11,69,70]),.loop [2,7,9,11,69,70] (.seq (.region 0 [.mk4 0 (some 71) (.bin .lss (.t 70) (.t 69)) none] [2,7,9,11,69,70,71]) C8) n',.block 2,.seq (.seq (.region 0 [.mk4 0 (some 6) (.mv (.c (.bool true))) none] [6]) (.ret))]
   ((2,.slice (some (nb,0)) l.length c) :: (7,.p bp 0) :: (9,.p sb 0) :: (11,.p rs 0) :: (17,.slice aO o3.length cO) :: (69,.i (l.length:Int)) :: (70,.i (k:Int)) :: sbe) g7 (Fin c4.res fun v _=>v = .bool true):=by
  intro sbe
  subst hC8
  clear a a1 a3 a4 a5 a6 hb hcs A4 S4 x6 y6 z6 vi5 P ob nn e2 e3 e4 e5 e6 e7 hG
  refine qx1 ?_
  refine Run.loop (fun m e g=>∃ j:Nat,m=o3.length-j/\j<=o3.length/\e=[(2,.slice (some (nb,0)) l.length c),(7,.p bp 0),(9,.p sb 0),(11,.p rs 0),(17,.slice aO o3.length cO),(69,.i (l.length:Int)),(70,.i (k:Int)),(141,.i (o3.length:Int)),(142,.i (j:Int))]/\g=g7)
   (k:=o3.length) Ze ⟨0,rfl,by omega,rfl,rfl⟩ ?_
  rintro _ _ g' ⟨j,rfl,hj,rfl,rfl⟩ n2 ih2
  by_cases hlt2:(j:Int)<o3.length
  case neg=>
   clear ih2 gO gR
   refine qx1 ?_
   rw [hk1]
   exact ih (l.length-(k+1)) om _ _ ⟨k+1,ow3,ro3,st3,i3,M1,M2,o3,rfl,by omega,rfl,a7⟩
  obtain ⟨y,hy⟩:=jd9 (l:=o3) (i:=j) om
  have hne:o3≠[]:=by rintro rfl;simp at hy
  obtain ⟨b1,u1,c1,r1,rfl,_,h1,hc1⟩:=gO hne
  obtain ⟨b2,u2,c2,r2,rfl,_,h2,hc2⟩:=gR hne
  have y1:c1[u1+(j:Int).toNat*1]?=some (.i y):=by rw [zw,Nat.mul_one];exact hc1 j y hy
  have y2:c2[u2+(j:Int).toNat*1]?=some (.i y):=by rw [zw,Nat.mul_one];exact hc2 j y hy
  have ny : ¬ y≠y:=fun e=>e rfl
  have hj1:(j:Int)+1=((j+1:Nat):Int):=by omega
  clear ih a7 gO gR hc1 hc2
  refine qx1 ?_
  rw [hj1]
  exact ih2 (o3.length-(j+1)) om _ _ ⟨j+1,rfl,by omega,rfl,rfl⟩
 clear ih a a1 a3 a4 a5 a6 a7 hb hcs A4 S4 x6 y6 z6 vi5 gO gR P ob nn
 obtain ⟨C2,hC2⟩ : ∃ C,C=c4_2:=⟨_,rfl⟩
 rw [<- hC2] at T
 have hC8':=hC8
 simp only [c4_8,c4_7,c4_6,c4_5,c4_4,c4_3,<- hC2,yB,yF] at hC8'
 rw [hC8'] at T ⊢
 refine qx1 ?_
 refine Ops.make (ob := .cells [.i 0] false) (mk:=fun b=>.p b 0) rfl rfl ?_
 refine Ops.store1 rfl rfl rfl (jac _) Zd ?_
 rw [show ([.i 0]:List V).set 0 (.i fd)=[.i fd] from rfl,hG]
 refine qx1 ?_
 exact T _
theorem ms_loop {d p w s rw bp:Nat} {h1 g0:H} {ow:Nat->Nat} {ro:Nat->Prop} {ad1:Option (Nat × Nat)} {c1:Cap} {L:List OpX} {S:List SpX} {vs vn:V} {l:List (Int × Bool × Int × Unit)} (hd:19<=d) (b:BX h1 g0 p w s rw ow ro st0 0) (hbp:g0.get bp=some (.cells [.p p 0] false)) (ob:Own g0 ow ro (fun j=>j<h1.nx) p bp) (P:Pw h1) (hok : ∀ x∈L,OpOk h1 x)
  (hel:L≠[] -> ∃ b cs ro,ad1=some (b,0)/\b<h1.nx/\h1.get b=some (.cells cs ro)/\cs.length=L.length*5 /\ ∀ (i:Nat) (x:OpX),L[i]?=some x->(cs.drop (i*5)).take 5=x.V) (hfew : ∀ x∈L,x.D.length<=300) (hlen:L.length<=60)
  (hS:je9 h1 (· < h1.nx) (· < h1.nx) vs S) (fS:fewS S) (hn:jok h1 vn l) (hl:l.length<=30) :
  Run (cl d) fuel c4_15 [] [(0,.slice ad1 L.length c1),(1,vs),(2,vn),(7,.p bp 0)] g0 (Fin c4.res fun v _=>v = .bool true):=by
 obtain ⟨C,hC⟩ : ∃ C,C=c4_14:=⟨_,rfl⟩
 simp only [c4_15,<- hC,yC]
 obtain ⟨avs,cvs,rfl,_⟩:=id hS.1
 obtain ⟨avn,cvn,rfl,_⟩:=id hn
 refine qx1 ?_
 refine Run.loop (fun m e g=>∃ (i:Nat) (ow:Nat->Nat) (ro:Nat->Prop),m=L.length-i/\i<=L.length/\e=[(0,.slice ad1 L.length c1),(1,.slice avs S.length cvs),(2,.slice avn l.length cvn),(7,.p bp 0),(39,.i (L.length:Int)),(40,.i (i:Int))]/\BX h1 g p w s rw ow ro (runS (L.take i) st0) i/\g.get bp=some (.cells [.p p 0] false)/\Own g ow ro (fun j=>j<h1.nx) p bp)
  (k:=L.length) Ze ⟨0,ow,ro,rfl,by omega,rfl,b,hbp,ob⟩ ?_
 clear b ow ro g0 hbp ob
 rintro _ _ g ⟨i,ow,ro,rfl,hi,rfl,bx,hbp,ob⟩ n2 ih
 by_cases hlt:(i:Int)<L.length
 case pos=>
  obtain ⟨x,hx⟩:=jd9 (l:=L) (i:=i) om
  have hxm:=zc hx
  obtain ⟨b,cs,ro',rfl,lb,hb,hlen5,hc⟩:=hel (by rintro rfl;simp at hx)
  have hbg:g.get b=some (.cells cs ro'):=by rw [bx.old.2 b lb,hb]
  have h5:(cs.drop (0+(i:Int).toNat*5)).take 5=x.V:=by rw [Nat.zero_add,zw];exact hc i x hx
  obtain ⟨g2,ow2,ro2,e2,bx2,f2⟩:=bx_do hcl (d:=d) om bx om (hok x hxm) (hfew x hxm)
  have fs2:=Fs.of_fm (S:=fun _=>False) f2
  have hbp2:g2.get bp=some (.cells [.p p 0] false):=by rw [fs2.get ob (fun e=>e),hbp]
  have ob2:=ob.fs fs2
  have hi1:(i:Int)+1=((i+1:Nat):Int):=by omega
  rw [<- runS_take hx] at bx2
  clear hok hel hfew bx hc hS hn P f2 fs2 ob
  refine qx1 ?_
  refine Ops.loadN rfl hbg om ?_
  rw [h5]
  refine qx1 ?_
  rw [hi1]
  exact ih (L.length-(i+1)) om _ _ ⟨i+1,ow2,ro2,rfl,by omega,rfl,bx2,hbp2,ob2⟩
 obtain rfl:i=L.length:=by omega
 rw [List.take_length] at bx
 generalize runS L st0=st at bx ⊢
 clear ih hel hok hfew
 have oS:=hS.old bx.old
 have hlS:=fS.len
 have hfS : ∀ x∈S,x.few:=fun x hx=>⟨by have:=(fS.each x hx).1;omega,by have:=(fS.each x hx).2.1;omega,fun m hm=>by have:=(fS.each x hx).2.2 m hm;omega⟩
 by_cases hm : ∀ x∈S,x.sp.may
 case neg=>
  obtain ⟨g2,e2,o2⟩:=wm_New_no hcl (d:=d) om oS om hm
  obtain ⟨g3,e3,o3⟩:=rm_New_no hcl (d:=d) om (oS.old o2) om hm
  subst hC
  clear hS hn P bx ob oS hm
  refine qx1 ?_
  rfl
 obtain ⟨sb,v1,S1,g2,e2,hs1,A1,T1,gs1,W1,l1,l2,o2⟩:=wm_New hcl (d:=d) om oS om hfS hm
 obtain ⟨rs,v2,g3,e3,A2,gs2,l3,l4,o3⟩:=rm_New hcl (d:=d) om (oS.old o2) om hm
 have oh2:=bx.old.trans o2
 have oh3:=oh2.trans o3
 have b3:=(bx.b.old o2).old o3
 have topW : ∀ z,g.nx<=z->ow z=0 /\ ¬ ro z:=fun z hz=>⟨bx.b.W.top hz,fun e=>by have:=bx.b.ro_lt (.inl e);omega⟩
 have lp:=bx.b.lp
 have hx1:=bx.old.1
 have hx2:=o2.1
 have hx3:=o3.1
 have n600:L.length+sumM S1<=600:=by rw [jlc hs1];have:=fS.sum;omega
 have len1:S1.length=S.length:=by have:=congrArg List.length hs1;simpa using this
 have few1 : ∀ x∈S1.map SpX.sp,x.few:=by
  rw [hs1]
  intro x hx
  obtain ⟨y,hy,rfl⟩:=List.mem_map.1 hx
  obtain ⟨q1,q2,q3⟩:=fS.each y hy
  exact ⟨by simpa [SpX.sp] using q1,q2,fun m hm=>by
   obtain ⟨z,hz,rfl⟩:=List.mem_map.1 hm
   exact q3 z hz⟩
 have fewX : ∀ x∈S1,x.few:=fun x hx=>by
  obtain ⟨q1,q2,q3⟩:=few1 x.sp (List.mem_map_of_mem hx)
  exact ⟨by have:x.ml.length<=60:=(by simpa [SpX.sp] using q1);omega,by have:x.ol.length<=60:=q2;omega,fun m hm=>by have:=q3 m.m (List.mem_map_of_mem hm);omega⟩
 have own1:Own g3 ow ro (fun j=>j<h1.nx) p sb:=⟨by omega,(topW sb l1).1,(topW sb l1).2,by show ¬ sb<h1.nx;omega,by omega⟩
 have own2:Own g3 ow ro (fun j=>j<h1.nx) p rs:=⟨l4,(topW rs om).1,(topW rs om).2,by show ¬ rs<h1.nx;omega,by omega⟩
 have ni:NI h1 g3 p w s rw bp sb rs v1.at? ow ro st L.length S1 S []:=by
  refine ⟨b3,bx.so,⟨own1,fun z hz=>?_,⟨v1,.nils,rfl,by rw [o3.2 sb l2,gs1],A1.keep hx3 fun z hz hp=>⟨o3.2 z hz,(topW z hp.1).1,(topW z hp.1).2,hp.2⟩,fun y hy=>(T1 y hy).keep hx3 (fun z hz hp=>⟨o3.2 z hz,⟨(topW z hp.1.1).1,(topW z hp.1.1).2,hp.1.2⟩,hp.2,by show z≠rs;omega⟩) fun z hz hp=>⟨o3.2 z hz,⟨(topW z hp.1.1).1,(topW z hp.1.1).2,hp.1.2⟩,hp.2,by show z≠rs;omega⟩,VI.nil _,fun e=>absurd rfl e⟩,fewX⟩,
   ⟨own2,⟨v2,.nils,gs2,A2.1.keep (zq _) fun z hz hp=>⟨rfl,?_⟩,fun y hy=>((hS.old oh3).2 y hy).keep (zq _) (fun z hz hp=>⟨rfl,hp⟩) fun z hz hp=>⟨rfl,hp⟩,VI.nil _,fun e=>absurd rfl e⟩,hfS⟩,hs1,few1,n600,by omega,by simp,by rw [o3.2 bp (by have:=ob.lt;omega),o2.2 bp ob.lt,hbp],?_,⟨by have:=ob.lt;omega,fun e=>by have:=(W1 bp e).1;have:=ob.lt;omega,by have:=ob.lt;omega⟩,⟨by omega,fun e=>by have:=(W1 rs e).2.1;omega⟩,fun z hz=>?_,oh3⟩
  ·obtain ⟨k1,k2,cs,k3⟩:=W1 z hz
   exact ⟨⟨by omega,(topW z k1).1,(topW z k1).2,by show ¬ z<h1.nx;omega,by omega⟩,by omega,cs,by rw [o3.2 z om,k3]⟩
  ·rcases hp.1 with hp1 | hp1
   ·have hd:z<h1.nx:=hp1
    exact ⟨⟨bx.b.sep z (.inr hd),bx.b.ap hd,hp.2⟩,by omega,fun e=>by have:=(W1 z e).1;omega⟩
   ·exact ⟨⟨(topW z om).1,(topW z om).2,hp.2⟩,by omega,fun e=>by have:=(W1 z e).2.1;omega⟩
  ·exact ob.fs ((Fs.old (S:=fun _=>False) o2).trans (Fs.old (S:=fun _=>False) o3) fun _ _ e=>e)
  ·rcases hz with rfl | hz | rfl
   ·omega
   ·have:=(W1 z hz).1;omega
   ·omega
 have T:=fun sbe=>ms_naps hcl (d:=d) (sbe:=sbe) om P ni hn hl
 obtain ⟨C9,hC9⟩ : ∃ C,C=c4_9:=⟨_,rfl⟩
 rw [<- hC9] at T
 have hC':=hC
 simp only [c4_14,c4_11,c4_10,<- hC9,yB,yF] at hC'
 subst hC'
 clear hS hn P bx ob oS hm ni A1 T1 W1 A2 b3 topW few1 fewX own1 own2 hfS fS hC
 refine qx1 ?_
 exact T _
end
section
variable {cl:Nat->Call} (hcl:Sem cl)
include hcl
theorem ji9 {h0:H} (hnx:h0.nx=6407) (hwf : ∀ b,6407<=b->h0.get b=none) (_l2:h0.get 2=some (.cells jbf true)) (_l3:h0.get 3=some (.cells jbe true)) (l1:h0.get 1=some (.cells jaD true))
  {l:List (Int × Int × Int × Int × List Int × Unit)} {u1:V} (rl:jb5 200 jor h0 l [u1]) {x0:List (Int × Bool × List Int × List (Int × Int × Int × List Int × Unit) × Unit)} {u2:V} (rx:jb5 100 joU h0 x0 [u2]) {y0:List (Int × Bool × Int × Unit)} {u3:V} (ry:jb5 30 joF h0 y0 [u3]) :
  ∃ h',cl 31 (.fn F.jbI) [u1,u2,u3] h0=some (.bool true,h'):=by
 suffices q : ∃ v h',cl 31 (.fn F.jbI) [u1,u2,u3] h0=some (v,h')/\v = .bool true by
  obtain ⟨_,h',e,rfl⟩:=q;exact ⟨h',e⟩
 have P0:Pw h0:=⟨by rw [hnx];decide,_,_,l1,by kernel_rfl⟩
 clear _l2 _l3 l1
 obtain ⟨L,_,hL⟩:=opsIn_of rl
 obtain ⟨S,hS,hS2⟩:=spsIn_of rx
 have hn:=naps_of ry
 obtain ⟨gv,eg,hg⟩:=gr_ok hcl (d:=30) om hL
 obtain ⟨sv,es,hs⟩:=gs_ok hcl (d:=30) om hS
 clear rl rx ry
 obtain ⟨ad1,c1,rfl,hin⟩:=id hL
 obtain ⟨avs,cvs,rfl,_⟩:=id hS
 obtain ⟨avn,cvn,rfl,_⟩:=id hn
 refine at_ hcl om rfl rfl rfl ?_
 rcases hg with rfl | ⟨rfl,hfew⟩
 ·clear hL hS hS2 hn hin hs
  refine qm1 ?_
  rfl
 by_cases h60:60<(L.length:Int)
 ·clear hL hS hS2 hn hin hs
  refine qm1 ?_
  rfl
 rcases hs with rfl | ⟨rfl,hfs⟩
 ·clear hL hS hS2 hn hin
  refine qm1 ?_
  rfl
 by_cases h30:30<(y0.length:Int)
 ·clear hL hS hS2 hn hin
  refine qm1 ?_
  rfl
 obtain ⟨p,w,s,rw,ow,ro,h2,e2,b2⟩:=nw_fresh hcl (d:=30) om h0 (by rw [hnx];exact hwf)
 obtain ⟨hok,hel⟩:=hin om
 have o3:Old h2 ((h2.new (.cells [.ptr none] false)).set h2.nx (.cells [.p p 0] false)):=(Old.refl h2).new.set (zq _)
 have g3:((h2.new (.cells [.ptr none] false)).set h2.nx (.cells [.p p 0] false)).get h2.nx=some (.cells [.p p 0] false):=jab _
 have n3:h2.nx<((h2.new (.cells [.ptr none] false)).set h2.nx (.cells [.p p 0] false)).nx:=by simp
 have ob:Own ((h2.new (.cells [.ptr none] false)).set h2.nx (.cells [.p p 0] false)) ow ro (fun j=>j<h0.nx) p h2.nx:=⟨n3,b2.b.W.top (zq _),fun e=>by have:=b2.b.ro_lt (.inl e);omega,by show ¬ h2.nx<h0.nx;have:=b2.old.1;omega,by have:=b2.b.lp;omega⟩
 have T:=ms_loop hcl (d:=30) (c1:=c1) om (b2.old' o3) g3 ob P0 hok hel hfew.2 om (hS2 hfs) hfs hn om
 obtain ⟨C,hC⟩ : ∃ C,C=c4_15:=⟨_,rfl⟩
 simp only [c4,c4_16,<- hC,yB,yL]
 rw [<- hC] at T
 clear hL hS hS2 hn hin hok hel hfew hfs b2 P0 ob o3 g3 hwf
 refine qm1 ?_
 exact T
end
end Am.Sigs
