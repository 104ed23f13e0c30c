/- Our own library, part 20. -/
import Derived.Test.YtjpkpdlpolnehaaGreatDoorV19
import Derived.Test.YtjpkpdlpolnehaaGreatDoorV18
import Derived.Test.YtjpkpdlpolnehaaGreatDoorV15
import Derived.Test.YtjpkpdlpolnehaaGreatDoorV16
import Derived.Test.YtjpkpdlpolnehaaGreatDoorV17
import Derived.Test.YtjpkpdlpolnehaaGreatDoorV14
set_option maxHeartbeats 8000000
set_option maxRecDepth 800
set_option linter.all false
namespace Am.Sigs
open Am Go
def jdS (h:H) (w s:Nat) (ow:Nat->Nat) (ro:Nat->Prop) (J:H->Prop) (sb:Nat) (bs:Option Nat) (X:Nat->Prop) (N:Nat) (R:Int × List Sp × List Int × St) (v:V) (h':H):Prop :=
 ∃ ow' L' i',v = .i R.1/\L'.map SpX.sp=R.2.1/\WB h' w s ow' ro J R.2.2.2/\StOk R.2.2.2 i'/\ST h' ow' ro sb bs X L' R.2.2.1/\Fs h h' ow ro ow' ro (fun j=>j=sb\/bs=some j)/\i'+sumM L'<=N
theorem jdS.trans {h g:H} {w s:Nat} {ow ow1:Nat->Nat} {ro:Nat->Prop} {J:H->Prop} {sb:Nat} {bs:Option Nat} {X:Nat->Prop} {N:Nat} {R:Int × List Sp × List Int × St} {v:V} {h':H} (q:jdS g w s ow1 ro J sb bs X N R v h') (f:Fs h g ow ro ow1 ro (fun j=>j=sb\/bs=some j)):jdS h w s ow ro J sb bs X N R v h':=by
 obtain ⟨ow',L',i',e1,e2,e3,e4,e5,e6,e7⟩:=q
 exact ⟨ow',L',i',e1,e2,e3,e4,e5,f.trans e6 fun _ _ e=>e,e7⟩
section
variable {cl:Nat->Call} (hcl:Sem cl) {h:H} {w s:Nat} {ow:Nat->Nat} {ro:Nat->Prop} {J:H->Prop} {a:St} {d i sb:Nat} {wt:Int} {fv:Bool} {bs:Option Nat} {X:Nat->Prop} {L:List SpX} {o:List Int}
include hcl
theorem tm_nap {N:Nat} {sbi:Env} (hd:16<=d) (b:WB h w s ow ro J a) (so:StOk a i) (A:ST h ow ro sb bs X L o) (hi:i+sumM L<=N) (hN:N<=900000) (hL:L.length<=2000)
  (w0:0<=wt) (w1:wt<=18446744073709551615) :
  Run (cl d) fuel (.loop [0,1,2,3,4] (.block 3 (.seq (.block 4 c9_6) c9_7))) [.block 2] ((0,.p sb 0) :: (1,.p w 0) :: (2,.int .u64 wt) :: (3,.bool fv) :: (4,.nilfn) :: sbi) h
   (Fin c9.res fun v h'=>jdS h w s ow ro J sb bs X N (napS (rd0) fv (L.map SpX.sp) wt o a) v h'):=by
 generalize hR:napS (rd0) fv (L.map SpX.sp) wt o a=R
 refine Zl (fun m e g=>∃ (L1:List SpX) (o1:List Int) (a1:St) (ow1:Nat->Nat) (i1:Nat) (w1:Int) (sbe:Env),m=L1.length/\e=(0,.p sb 0) :: (1,.p w 0) :: (2,.int .u64 w1) :: (3,.bool fv) :: (4,.nilfn) :: sbe/\WB g w s ow1 ro J a1/\StOk a1 i1/\ST g ow1 ro sb bs X L1 o1/\Fs h g ow ro ow1 ro (fun j=>j=sb\/bs=some j)/\i1+sumM L1<=N/\0<=w1/\w1<=18446744073709551615/\napS (rd0) fv (L1.map SpX.sp) w1 o1 a1=R)
  (k:=L.length) Ze ⟨L,o,a,ow,i,wt,sbi,rfl,rfl,b,so,A,Fs.refl,hi,w0,w1,hR⟩ ?_
 clear b so A hi w0 w1 hR hL
 rintro _ _ g ⟨L1,o1,a1,ow1,i1,w1,sbe0,rfl,rfl,b,so,A,f,hi,w0,w2,hR⟩ n' ih
 show Run _ _ _ _ [(0,.p sb 0),(1,.p w 0),(2,.int .u64 w1),(3,.bool fv),(4,.nilfn)] _ _
 clear sbe0
 have f1:=f
 have b1:=b
 have A1:=A
 clear A b f
 obtain ⟨C,hC⟩ : ∃ C,C=c9_5:=⟨_,rfl⟩
 obtain ⟨C7,hC7⟩ : ∃ C,C=c9_7:=⟨_,rfl⟩
 simp only [c9_6,<- hC,<- hC7,uF]
 have hrd:rd0 a1=false:=rfl
 have clE:=Fs.of_fm (S:=fun j=>j=sb\/bs=some j) (Fm.refl (h:=g) (ow:=ow1) (ro:=ro))
 clear clE
 have U : ∀ (x:SpX) (M:List SpX),L1=x :: M -> ¬ (fv=false/\w1=0) -> ¬ (fv=false/\w1<x.t) -> ∀ sbe,Run (cl d) fuel C7 [.block 3,.loop [0,1,2,3,4] (.block 3 (.seq (.block 4 c9_6) C7)) n',.block 2] ((0,.p sb 0) :: (1,.p w 0) :: (2,.int .u64 w1) :: (3,.bool fv) :: (4,.nilfn) :: sbe) g (Fin c9.res fun v h'=>jdS h w s ow ro J sb bs X N R v h'):=by
  rintro x M rfl k1 k2 sbe
  obtain ⟨v,ov,ev,es,ea,el,eo,eoz⟩:=id A1.ex
  obtain ⟨bb,oo,c,cs,rr,rfl,lb,gb,h4⟩:=At4.cons ea
  have hbs:bs=some bb:=by rw [<- ev];rfl
  have sx:=el x (zi ..)
  have q0:cs[oo+(0:Int).toNat*4+0]?=some (.int .u64 x.t):=by rw [jgq h4 om];rfl
  have hlc:(0:Int)<(((x :: M).length:Nat):Int):=by simp
  obtain ⟨g2,e2,b2,f2⟩:=jiD hcl (d:=d) (t:=x.t) om b1 so sx.t0 sx.t1
  have so2:=jiV so sx.t0 sx.t1
  have A2:=A1.fs (Fs.of_fm (S:=fun _=>False) f2) (fun e=>e) (fun _ _ e=>e) fun _ _ e=>e
  have es2:g2.get sb=some (.cells [.slice (some (bb,oo)) (x :: M).length c,ov] false):=by rw [(Fs.of_fm (S:=fun _=>False) f2).getw A1.own (fun e=>e),es]
  have gb2:g2.get bb=some (.cells cs rr):=by rw [(Fs.of_fm (S:=fun _=>False) f2).getw (A1.bown bb hbs).1 (fun e=>e),gb]
  rw [jh2] at hi
  obtain ⟨g3,ow3,e3,b3,so3,A3,f3⟩:=jkO hcl (d:=d) om b2 so2 om A2
  have ff:Fs h g3 ow ro ow3 ro (fun j=>j=sb\/bs=some j):=(f1.trans (Fs.of_fm (S:=fun _=>False) f2) fun _ _ e=>e.elim).trans f3 fun _ _ e=>.inl e
  have hm1:min w1 x.t<=w1:=Int.min_le_left _ _
  have hm0:0<=min w1 x.t:=by have:=sx.t0;omega
  rw [hC7]
  clear b1 A1 b2 A2 so2 so el ea eo eoz f1 f2 f3 sx h4
  cases hin:x.intr with
  | true=>
   have hR':=hR
   rw [List.map_cons,jfz (x:=x.sp) hrd k1 k2 hin] at hR'
   subst hR'
   rw [hin] at e3
   clear ih hR
   refine qx ?_
   exact ⟨ow3,M,_,rfl,rfl,b3,so3,A3,ff,by omega⟩
  | false=>
   rw [List.map_cons,jdy (x:=x.sp) hrd k1 k2 hin] at hR
   rw [hin] at e3
   refine qx ?_
   exact ih M.length Zd _ _ ⟨M,x.ol,_,ow3,_,w1-min w1 x.t,_,rfl,rfl,b3,so3,A3,ff,by omega,by omega,by omega,hR⟩
 have T : ∀ sbe,Run (cl d) fuel C [.block 4,.seq C7,.block 3,.loop [0,1,2,3,4] (.block 3 (.seq (.block 4 c9_6) C7)) n',.block 2] ((0,.p sb 0) :: (1,.p w 0) :: (2,.int .u64 w1) :: (3,.bool fv) :: (4,.nilfn) :: sbe) g (Fin c9.res fun v h'=>jdS h w s ow ro J sb bs X N R v h'):=by
  intro sbe
  rw [hC]
  obtain ⟨v,ov,ev,es,ea,el,eo,eoz⟩:=id A1.ex
  have nt : ¬ (true=false):=fun e=>Bool.noConfusion e
  cases fv with
  | true=>
   cases L1 with
   | nil=>
    obtain ⟨ad,c,rfl,_⟩:=id ea
    have h0:(([]:List SpX).length:Int)=0:=rfl
    rw [List.map_nil,jgl hrd rfl] at hR
    subst hR
    clear ih U ea el eo eoz
    refine qx ?_
    exact ⟨ow1,[],i1,rfl,rfl,b1,so,A1,f1,hi⟩
   | cons x M=>
    have U':=U x M rfl (fun e=>nt e.1) (fun e=>nt e.1)
    obtain ⟨bb,oo,c,cs,rr,rfl,lb,gb,h4⟩:=At4.cons ea
    have h0 : ¬ (((x :: M).length:Nat):Int)=0:=by simp;omega
    clear ih U ea el eo eoz b1 so A1 f1 hR
    refine qx ?_
    exact U' _
  | false=>
   have ft:false=false:=rfl
   by_cases hw:w1=0
   ·rw [jdJ hrd rfl hw] at hR
    subst hR
    clear ih U ea el eo eoz
    refine qx ?_
    exact ⟨ow1,L1,i1,rfl,rfl,b1,so,A1,f1,hi⟩
   cases L1 with
   | nil=>
    obtain ⟨ad,c,rfl,_⟩:=id ea
    have h0:(([]:List SpX).length:Int)=0:=rfl
    rw [List.map_nil,jcD hrd rfl hw] at hR
    subst hR
    obtain ⟨g2,e2,b2,f2⟩:=jiD hcl (d:=d) (t:=w1) om b1 so w0 w2
    have so2:=jiV so w0 w2
    have A2:=A1.fs (Fs.of_fm (S:=fun _=>False) f2) (fun e=>e) (fun _ _ e=>e) fun _ _ e=>e
    have ff:Fs h g2 ow ro ow1 ro (fun j=>j=sb\/bs=some j):=f1.trans (Fs.of_fm (S:=fun _=>False) f2) fun _ _ e=>e.elim
    clear ih U ea el eo eoz b1 so A1 f1
    refine qx ?_
    exact ⟨ow1,[],i1,rfl,rfl,b2,so2,A2,ff,hi⟩
   | cons x M=>
    by_cases hlt:w1<x.t
    case neg=>
     have U':=U x M rfl (fun e=>hw e.2) (fun e=>hlt e.2)
     obtain ⟨bb,oo,c,cs,rr,rfl,lb,gb,h4⟩:=At4.cons ea
     have h0 : ¬ (((x :: M).length:Nat):Int)=0:=by simp;omega
     have hlc:(0:Int)<(((x :: M).length:Nat):Int):=by simp
     have q0:cs[oo+(0:Int).toNat*4+0]?=some (.int .u64 x.t):=by rw [jgq h4 om];rfl
     clear ih U ea el eo eoz b1 so A1 f1 hR
     refine qx ?_
     exact U' _
    obtain ⟨bb,oo,c,cs,rr,rfl,lb,gb,h4⟩:=At4.cons ea
    have hbs:bs=some bb:=by rw [<- ev];rfl
    obtain ⟨ob,nb,cs',gb'⟩:=A1.bown bb hbs
    obtain rfl:rr=false:=by rw [gb] at gb';cases gb';rfl
    clear gb' cs'
    have sx:=el x (zi ..)
    have h0 : ¬ (((x :: M).length:Nat):Int)=0:=by simp;omega
    have hlc:(0:Int)<(((x :: M).length:Nat):Int):=by simp
    have q0:cs[oo+(0:Int).toNat*4+0]?=some (.int .u64 x.t):=by rw [jgq h4 om];rfl
    have hlen:=jfP h4 rfl
    have x1:=sx.t1
    have fset:Fs g (g.set bb (.cells (cs.set (oo+(0:Int).toNat*4+0) (.int .u64 (x.t-w1))) false)) ow1 ro ow1 ro (fun j=>j=bb):=Fs.set rfl
    have kp : ∀ z,z<g.nx->(PB ow1 ro sb z/\(bs≠some z/\X z))->(g.set bb (.cells (cs.set (oo+(0:Int).toNat*4+0) (.int .u64 (x.t-w1))) false)).get z=g.get z/\(PB ow1 ro sb z/\(bs≠some z/\X z)):=fun z hz hp=>⟨jaa fun e=>hp.2.1 (by rw [hbs,e]),hp⟩
    have A2:ST (g.set bb (.cells (cs.set (oo+(0:Int).toNat*4+0) (.int .u64 (x.t-w1))) false)) ow1 ro sb bs X ({ x with t:=x.t-w1 } :: M) o1:=by
     refine ⟨A1.own.fs fset,fun z hz=>?_,⟨_,ov,ev,by rw [jaa (Ne.symm nb),es],ea.upd gb,fun y hy=>?_,eo.keep2 (zp _) fun hl z hz=>(kp z (eo.lt hl hz) (eoz hl z hz)).1,eoz⟩,fun y hy=>?_⟩
     ·obtain rfl:bb=z:=by rw [hbs] at hz;cases hz;rfl
      exact ⟨ob.fs fset,nb,_,jab _⟩
     ·rcases zX.1 hy with rfl | hy
      ·have s2:=sx.keep (h':=g.set bb (.cells (cs.set (oo+(0:Int).toNat*4+0) (.int .u64 (x.t-w1))) false)) (zp _) kp kp
       exact ⟨s2.ov,s2.mv,s2.dv,by show 0<=x.t-w1;omega,by show x.t-w1<=_;omega⟩
      ·exact (el y (zk _ hy)).keep (zp _) kp kp
     ·rcases zX.1 hy with rfl | hy
      ·exact A1.few x (zi ..)
      ·exact A1.few y (zk _ hy)
    have b2:=b1.set ob (ob := .cells (cs.set (oo+(0:Int).toNat*4+0) (.int .u64 (x.t-w1))) false)
    obtain ⟨g3,e3,b3,f3⟩:=jiD hcl (d:=d) (t:=w1) om b2 so w0 w2
    have so2:=jiV so w0 w2
    have A3:=A2.fs (Fs.of_fm (S:=fun _=>False) f3) (fun e=>e) (fun _ _ e=>e) fun _ _ e=>e
    have ff:Fs h g3 ow ro ow1 ro (fun j=>j=sb\/bs=some j):=(f1.trans fset fun j _ e=>.inr (by rw [hbs,e])).trans (Fs.of_fm (S:=fun _=>False) f3) fun _ _ e=>e.elim
    rw [List.map_cons,jcd (x:=x.sp) hrd rfl hw hlt] at hR
    subst hR
    have hs:i1+sumM ({ x with t:=x.t-w1 } :: M)<=N:=hi
    clear ih U ea el eo eoz b1 so A1 f1 b2 A2 f3 fset kp sx h4 ob
    refine qx ?_
    refine zcs rfl rfl rfl gb om ?_
    refine qx ?_
    exact ⟨ow1,_,i1,rfl,rfl,b3,so2,A3,ff,hs⟩
 simp only [c9_6,<- hC,uF] at T
 clear ih
 refine qx ?_
 exact T _
theorem tm_Sleep {N:Nat} (hd:17<=d) (b:WB h w s ow ro J a) (so:StOk a i) (A:ST h ow ro sb bs X L o) (hi:i+sumM L<=N) (hN:N<=900000) (hL:L.length<=2000)
  (w0:0<=wt) (w1:wt<=18446744073709551615) :
  ∃ v h',cl d (.fn 9) [.p sb 0,.p w 0,.int .u64 wt,.bool fv,.nilfn] h=some (v,h')/\jdS h w s ow ro J sb bs X N (ja6 (rd0) fv (L.map SpX.sp) wt o a) v h':=by
 obtain ⟨hA,eA,oA⟩:=jkJ hcl (d:=d-1) om b.W so.K.ok
 refine aT hcl ?_
 generalize hR:ja6 (rd0) fv (L.map SpX.sp) wt o a=R
 have bA:=b.old oA
 have fA:Fs h hA ow ro ow ro (fun j=>j=sb\/bs=some j):=Fs.old oA
 have AA:=A.fs (Fs.old (S:=fun _=>False) oA) (fun e=>e) (fun _ _ e=>e) fun _ _ e=>e
 obtain ⟨C,hC⟩ : ∃ C,C=c9_8:=⟨_,rfl⟩
 obtain ⟨C2,hC2⟩ : ∃ C,C=(.loop [0,1,2,3,4] (.block 3 (.seq (.block 4 c9_6) c9_7)):AC):=⟨_,rfl⟩
 simp only [c9,c9_9,<- hC,<- hC2,uF,yB]
 clear b A
 refine qx ?_
 refine Zl (fun m e g=>∃ (L1:List SpX) (o1:List Int) (a1:St) (ow1:Nat->Nat) (i1:Nat) (sbe:Env),m=L1.length/\e=(0,.p sb 0) :: (1,.p w 0) :: (2,.int .u64 wt) :: (3,.bool fv) :: (4,.nilfn) :: sbe/\WB g w s ow1 ro J a1/\StOk a1 i1/\ST g ow1 ro sb bs X L1 o1/\Fs h g ow ro ow1 ro (fun j=>j=sb\/bs=some j)/\i1+sumM L1<=N/\L1.length<=2000/\ja6 (rd0) fv (L1.map SpX.sp) wt o1 a1=R)
  (k:=L.length) Ze ⟨L,o,a,ow,i,_,rfl,rfl,bA,so,AA,fA,hi,hL,hR⟩ ?_
 clear bA so AA fA hi hR eA oA
 rintro _ _ g ⟨L1,o1,a1,ow1,i1,sbe0,rfl,rfl,b,so,A,f,hi,hL1,hR⟩ n' ih
 show Run _ _ _ _ [(0,.p sb 0),(1,.p w 0),(2,.int .u64 wt),(3,.bool fv),(4,.nilfn)] _ _
 clear sbe0
 obtain ⟨v,ov,ev,es,ea,el,eo,eoz⟩:=id A.ex
 have own:=A.own
 have T : ∀ sbe,ja6 (rd0) fv (L1.map SpX.sp) wt o1 a1=napS (rd0) fv (L1.map SpX.sp) wt o1 a1->Run (cl (d-1)) fuel C2 [.block 2] ((0,.p sb 0) :: (1,.p w 0) :: (2,.int .u64 wt) :: (3,.bool fv) :: (4,.nilfn) :: sbe) g (Fin c9.res (jdS h w s ow ro J sb bs X N R)):=fun sbe hz=>by
  rw [hC2]
  rw [hz] at hR
  subst hR
  exact Run.fin_mono' (tm_nap hcl (d:=d-1) om b so A hi hN hL1 w0 w1) fun _ _ q=>jdS.trans q f
 cases L1 with
 | nil=>
  obtain ⟨ad,c,rfl,_⟩:=id ea
  have h0:(([]:List SpX).length:Int)=0:=rfl
  have h0' : ¬ (0:Int)<(([]:List SpX).length:Int):=by rw [h0];omega
  have T':=fun sbe=>T sbe rfl
  subst hC
  clear ih T ea el eo eoz b so A f hR
  refine qx ?_
  exact T' _
 | cons x M=>
  obtain ⟨bb,oo,c,cs,rr,rfl,lb,gb,h4⟩:=At4.cons ea
  have hlc:(0:Int)<(((x :: M).length:Nat):Int):=by simp
  have q0:cs[oo+(0:Int).toNat*4+0]?=some (.int .u64 x.t):=by rw [jgq h4 om];rfl
  by_cases ht:x.t=0
  case neg=>
   have T':=fun sbe=>T sbe (by unfold ja6;rw [List.map_cons,jeQ (x:=x.sp) ht])
   subst hC
   clear ih T ea el eo eoz b so A f hR
   refine qx ?_
   exact T' _
  rw [jh2] at hi
  obtain ⟨g3,ow3,e3,b3,so3,A3,f3⟩:=jkO hcl (d:=d-1) om b so om A
  have ff:Fs h g3 ow ro ow3 ro (fun j=>j=sb\/bs=some j):=f.trans f3 fun _ _ e=>.inl e
  subst hC
  clear T ea el eo eoz b so A f f3
  cases hin:x.intr with
  | true=>
   unfold ja6 at hR
   rw [List.map_cons,jgw (x:=x.sp) ht hin] at hR
   subst hR
   rw [hin] at e3
   clear ih
   refine qx ?_
   exact ⟨ow3,M,_,rfl,rfl,b3,so3,A3,ff,by omega⟩
  | false=>
   unfold ja6 at hR
   rw [List.map_cons,jgv (x:=x.sp) ht hin] at hR
   rw [hin] at e3
   have hm:M.length<=2000:=by have:(x :: M).length<=2000:=hL1;simp at this;omega
   have hR2:ja6 (rd0) fv (M.map SpX.sp) wt x.ol (mvsS x.sp.moves a1)=R:=hR
   refine qx ?_
   exact ih M.length Zd _ _ ⟨M,x.ol,_,ow3,_,_,rfl,rfl,b3,so3,A3,ff,by omega,hm,hR2⟩
end
theorem jfj {l:List Sp} {a:Int} {o:List Int} {st:St} (hx : ∀ x∈l,0<=x.ticks) (h0:0<=a) (h1:0<=st.now) (h2:st.now+a<=18446744073709551615) :
  ((ja6 rd0 false l a o st).1=2/\(ja6 rd0 false l a o st).2.2.2.now=st.now+a)\/((ja6 rd0 false l a o st).1=3/\st.now<=(ja6 rd0 false l a o st).2.2.2.now/\(ja6 rd0 false l a o st).2.2.2.now<=st.now+a):=by
 unfold ja6
 have hn':=jeZ (l:=l) (o:=o) (st:=st)
 have ht:=(jd3 (P:=fun x=>0<=x.ticks) (o:=o) (st:=st) hx).1
 generalize jdt l o st=z at hn' ht ⊢
 obtain ⟨c,l',o',st'⟩:=z
 have hn':st'.now=st.now:=hn'
 cases c with
 | true=>
  refine .inr ⟨rfl,?_,?_⟩
  ·show st.now<=st'.now;omega
  ·show st'.now<=_;omega
 | false=>
  have:=jhQ (o:=o') (st:=st') ht h0 om om
  rw [hn'] at this
  exact this
section
variable {cl:Nat->Call} (hcl:Sem cl) {d:Nat} {h:H}
include hcl
theorem tm_Left {ow:Nat->Nat} {ro:Nat->Prop} {sb:Nat} {bs:Option Nat} {X:Nat->Prop} {L:List SpX} {o:List Int} (hd:4<=d) (A:ST h ow ro sb bs X L o) (hl:L.length<=2000) :
  ∃ v l' h',cl d (.fn 11) [.p sb 0] h=some (v,h')/\l'.map SpX.sp=L.map SpX.sp/\At4 h' (h.nx <= ·) SpX.V v l'/\(∀ x∈l',StepAt h' (fun z=>h.nx<=z/\V.at? v≠some z) (fun z=>h.nx<=z/\V.at? v≠some z) x)/\Old h h':=by
 suffices q : ∃ w h',cl d (.fn 11) [.p sb 0] h=some (w,h') /\ ∃ l',l'.map SpX.sp=L.map SpX.sp/\At4 h' (h.nx <= ·) SpX.V w l'/\(∀ x∈l',StepAt h' (fun z=>h.nx<=z/\V.at? w≠some z) (fun z=>h.nx<=z/\V.at? w≠some z) x)/\Old h h' by
  obtain ⟨v',h',e,l',q⟩:=q;exact ⟨v',l',h',e,q⟩
 obtain ⟨v,ov,e1,e2,e3,e4,e5,e6⟩:=A.ex
 obtain ⟨w,l',h',k1,k2,k3,k4,_,k6⟩:=jjt hcl (d:=d-1) om ⟨e3,fun x hx=>(e4 x hx).keep (P':=PB ow ro sb) (zp _) (fun z _ hp=>⟨rfl,hp.1⟩) fun z _ hp=>⟨rfl,hp.1⟩⟩ hl A.few
 refine aT hcl ?_
 clear e3 e4 e5 e6
 refine qx ?_
 exact ⟨l',k2,k3,k4,k6⟩
theorem nw_W (hd:2<=d) : ∃ w s ow h',cl d (.fn 7) [] h=some (.p w 0,h')/\WSt h' w s ow [] 0 Tb.zero none/\Old h h' /\ ∀ j,ow j≠0->h.nx<=j/\j<h'.nx:=by
 have e1:=nw_world hcl (d:=d) hd h
 refine ⟨h.nx+1,h.nx,fun j=>if j=h.nx then 3 else if j=h.nx+1 then 1 else 0,_,e1,?_,(Zn h).new.new,fun j hj=>?_⟩
 ·refine ⟨[],⟨⟨⟨.nils,?_,Row.nil _ _ _,fun z hz=>by cases hz⟩,?_,?_,?_,?_,?_,fun j hj=>?_,fun n t ht=>by simp at ht⟩,fun n k fd hat=>?_⟩,rfl⟩
  ·have e:=wc0_eq h.nx
   show _=some (Obj.cells (wc (fun i=>atS [] (i:Int)) .nils h.nx 0 none) false)
   rw [<- e]
   exact qgt
  ·exact qgt
  ·show (if h.nx+1=h.nx then 3 else if h.nx+1=h.nx+1 then 1 else 0)=1
   rw [zz om,zC rfl]
  ·show (if h.nx=h.nx then 3 else if h.nx=h.nx+1 then 1 else 0)=3
   rw [zC rfl]
  ·simp<;>omega
  ·simp<;>omega
  ·have hj:h.nx+2<=j:=hj
   show (if j=h.nx then 3 else if j=h.nx+1 then 1 else 0)=0
   rw [zz om,zz om]
  ·obtain ⟨x,hx,_⟩:=hat;simp at hx
 ·have hj:(if j=h.nx then 3 else if j=h.nx+1 then 1 else 0)≠0:=hj
  have hn:((h.new Tb.zero.obj).new (.cells (wc0 h.nx) false)).nx=h.nx+2:=rfl
  rw [hn]
  by_cases h1:j=h.nx
  ·omega
  ·rw [zz h1] at hj
   by_cases h2:j=h.nx+1
   ·omega
   ·rw [zz h2] at hj;exact zI rfl hj
noncomputable abbrev stT:St := { st0 with ws:=(jaZ [] 2 50).2 }
omit hcl in
theorem jmc:StOk stT 1:=jkQ.ws (jgV om jkQ.K) jlv
theorem ot_W {w s:Nat} {ow:Nat->Nat} (hd:7<=d) (a:WSt h w s ow [] 0 Tb.zero none) : ∃ v h' ow',cl d (.fn 8) [.p w 0,.i 50] h=some (v,h')/\(∃ x y z,v = .tup [.i x,.i y,.i z])/\WSt h' w s ow' stT.ws stT.now stT.tb stT.no/\To h h' ow ow':=by
 obtain ⟨x,y,h',ow',e,_,_,W,t⟩:=ww_Outer hcl (d:=d) (n:=50) hd jkQ.K a
 exact ⟨_,h',ow',e,⟨_,_,_,rfl⟩,W,t⟩
end
def SF (n0 n1 sb:Nat) (bs:Option Nat) (L:List SpX) (o:List Int) (g:H):Prop :=
 sb<n1/\n0<=sb/\(∀ z,bs=some z->n0<=z/\z<n1) /\ ∀ (ow:Nat->Nat) (ro:Nat->Prop),(∀ z,n0<=z->z<n1->ow z=0 /\ ¬ ro z)->ST g ow ro sb bs (fun z=>n0<=z/\z<n1) L o
theorem SF.keep {n0 n1 sb:Nat} {bs:Option Nat} {L:List SpX} {o:List Int} {g g':H} (a:SF n0 n1 sb bs L o g) (hx:g.nx<=g'.nx) (hk : ∀ j,j<g.nx->n0<=j->j<n1->g'.get j=g.get j):SF n0 n1 sb bs L o g':=by
 obtain ⟨a1,a2,a3,a4⟩:=a
 refine ⟨a1,a2,a3,fun ow ro hz=>?_⟩
 have f:Fs g g' ow ro ow ro (fun z=>¬ (n0<=z/\z<n1)):=⟨⟨hx,fun j hj hn=>by
  by_cases h:n0<=j/\j<n1
  ·exact hk j hj h.1 h.2
  ·exact zI (.inr (.inr h)) hn⟩,fun _ _=>rfl,fun _ _=>Iff.rfl⟩
 exact (a4 ow ro hz).fs f (fun e=>e ⟨a2,a1⟩) (fun z hz e=>e (a3 z hz)) fun z hz e=>e hz
theorem SF.of {n0 n1 sb:Nat} {bs:Option Nat} {L:List SpX} {o:List Int} {g:H} {ow:Nat->Nat} {ro:Nat->Prop} (A:ST g ow ro sb bs (fun z=>n0<=z/\z<n1) L o) (h1:n0<=sb/\sb<n1) (h2 : ∀ z,bs=some z->n0<=z/\z<n1):SF n0 n1 sb bs L o g:=by
 refine ⟨h1.2,h1.1,h2,fun ow' ro' hz=>?_⟩
 obtain ⟨v,ov,e1,e2,e3,e4,e5,e6⟩:=A.ex
 have pb : ∀ z,PB ow ro sb z/\(bs≠some z/\(n0<=z/\z<n1))->PB ow' ro' sb z/\(bs≠some z/\(n0<=z/\z<n1)):=fun z hp=>⟨⟨(hz z hp.2.2.1 hp.2.2.2).1,(hz z hp.2.2.1 hp.2.2.2).2,hp.1.2.2⟩,hp.2⟩
 refine ⟨⟨A.own.lt,(hz sb h1.1 h1.2).1,(hz sb h1.1 h1.2).2⟩,fun z hb=>?_,⟨v,ov,e1,e2,?_,fun y hy=>(e4 y hy).keep (zp _) (fun z _ hp=>⟨rfl,pb z hp⟩) fun z _ hp=>⟨rfl,pb z hp⟩,e5,fun hl z hzz=>pb z (e6 hl z hzz)⟩,A.few⟩
 ·obtain ⟨q1,q2,q3⟩:=A.bown z hb
  exact ⟨⟨q1.lt,(hz z (h2 z hb).1 (h2 z hb).2).1,(hz z (h2 z hb).1 (h2 z hb).2).2⟩,q2,q3⟩
 ·obtain ⟨ad,c,rfl,n,ft,g1⟩:=e3
  refine ⟨ad,c,rfl,n,ft,fun hl=>?_⟩
  obtain ⟨b,oo,cs,rr,rfl,lb,pb1,gb,hc⟩:=g1 hl
  have hb:bs=some b:=by rw [<- e1];rfl
  exact ⟨b,oo,cs,rr,rfl,lb,⟨(hz b (h2 b hb).1 (h2 b hb).2).1,(hz b (h2 b hb).1 (h2 b hb).2).2,pb1.2.2⟩,gb,hc⟩
theorem mem_spT {l l':List SpX} (e:l'.map SpX.sp=l.map SpX.sp) {x:SpX} (hx:x∈l') : ∃ y∈l,y.sp=x.sp:=by
 have h:x.sp∈l'.map SpX.sp:=List.mem_map.2 ⟨x,hx,rfl⟩
 rw [e] at h
 obtain ⟨y,hy,q⟩:=List.mem_map.1 h
 exact ⟨y,hy,q⟩
theorem SpX.few_m {x:SpX} (h:x.sp.may):x.few:=by
 refine ⟨?_,?_,fun m hm=>?_⟩
 ·have:=h.1;simp [SpX.sp] at this;omega
 ·have:=h.2.1;simp [SpX.sp] at this;omega
 ·have:=(h.2.2.2 m.m (List.mem_map.2 ⟨m,hm,rfl⟩)).2.2.2.2.1
  omega
section
variable {cl:Nat->Call} (hcl:Sem cl) {d:Nat} {g:H}
include hcl
theorem jme {P Q:Nat->Prop} {sv:V} {S:List SpX} (hd:16<=d) (hS:jex g P Q sv S) (hl:S.length<=2000) (hm : ∀ x∈S,x.sp.may) :
  ∃ sb bs l' g',cl d (.fn 6) [sv] g=some (.tup [.p sb 0,.i 0],g')/\Old g g'/\l'.map SpX.sp=S.map SpX.sp/\SF g.nx g'.nx sb bs l' [] g':=by
 obtain ⟨sb,v',l',g1,e1,hsp,a1,s1,gs,hw,q1,q2,o1⟩:=wm_New hcl (d:=d) hd hS hl (fun x hx=>SpX.few_m (hm x hx)) hm
 refine ⟨sb,v'.at?,l',g1,e1,o1,hsp,q2,q1,fun z hz=>?_,fun ow ro hz=>?_⟩
 ·obtain ⟨k1,k2,_⟩:=hw z hz
  exact ⟨k1,by omega⟩
 ·have lt4:At4 g1 (fun z=>(g.nx<=z/\z≠sb)/\z<g1.nx) SpX.V v' l':=a1.keep (zp _) fun z hz hp=>⟨rfl,hp,hz⟩
  have kp : ∀ z,z<g1.nx->((g.nx<=z/\z≠sb)/\v'.at?≠some z)->g1.get z=g1.get z/\(PB ow ro sb z/\(v'.at?≠some z/\(g.nx<=z/\z<g1.nx))):=fun z hzz hp=>⟨rfl,⟨(hz z hp.1.1 hzz).1,(hz z hp.1.1 hzz).2,hp.1.2⟩,hp.2,hp.1.1,hzz⟩
  refine ⟨⟨q2,(hz sb q1 q2).1,(hz sb q1 q2).2⟩,fun z hb=>?_,⟨v',.nils,rfl,gs,lt4.keep (zp _) fun z hzz hp=>⟨rfl,(hz z hp.1.1 hzz).1,(hz z hp.1.1 hzz).2,hp.1.2⟩,fun y hy=>(s1 y hy).keep (zp _) kp kp,VI.nil _,fun e=>zI rfl e⟩,fun x hx=>?_⟩
  ·obtain ⟨k1,k2,cs,k3⟩:=hw z hb
   exact ⟨⟨by omega,(hz z k1 om).1,(hz z k1 om).2⟩,by omega,cs,k3⟩
  ·obtain ⟨y,hy,q⟩:=mem_spT hsp hx
   exact SpX.few_m (q ▸ hm y hy)
end
end Am.Sigs
namespace Am
open Go Am.Sigs
structure Hd (p:Prop):Prop where
 g:p
structure Kc (h:H) (b:Nat) (l:List V) (ro:Bool):Prop where
 lt:b<h.nx
 at_:h.get b=some (.cells l ro)
theorem Kc.old {h h':H} {b:Nat} {l:List V} {ro:Bool} (k:Kc h b l ro) (o:Old h h'):Kc h' b l ro :=
 ⟨zq k.lt o.1,by rw [o.2 _ k.lt,k.at_]⟩
section
variable {call:Call} {fuel base:Nat} {K:List Fr} {e:Env} {h h' h0:H} {Q:Post} {ix:Nat} {dst:Option Nat} {ops:List Ins} {keep:List Nat} {at_:Option Nat} {c:List (Nat × I × Option (Nat × Bool))}
end
end Am
namespace Am.Sigs
open Am Go
abbrev strs (l:List (List UInt8)):List V:=l.map V.str
theorem strs_one (l:List (List UInt8)):(strs l).all V.one=true:=by
 rw [zQ]
 intro x hx
 obtain ⟨s,_,rfl⟩:=List.mem_map.1 hx
 rfl
def SR (N:Nat) (h:H) (v:V) (l:List (List UInt8)):Prop :=
 ∃ q c,N<=q/\q<h.nx/\v = .slice (some (q,0)) l.length c/\(c = .grow 1\/c = .fix l.length)/\h.get q=some (.cells (strs l) false)
theorem SR.keep {N M:Nat} {h h':H} {v:V} {l:List (List UInt8)} (r:SR N h v l) (hM:M<=N) (o:Old h h'):SR M h' v l:=by
 obtain ⟨q,c,h1,h2,e,hc,hg⟩:=r
 exact ⟨q,c,by omega,zq h2 o.1,e,hc,by rw [o.2 q h2,hg]⟩
theorem SR.keep_ne {N:Nat} {h h':H} {v:V} {l:List (List UInt8)} (r:SR N h v l) (hx:h.nx<=h'.nx) (k : ∀ j,v.at?=some j->h'.get j=h.get j):SR N h' v l:=by
 obtain ⟨q,c,h1,h2,rfl,hc,hg⟩:=r
 exact ⟨q,c,h1,by omega,rfl,hc,by rw [k q rfl,hg]⟩
theorem SR.at_ge {N:Nat} {h:H} {v:V} {l:List (List UInt8)} (r:SR N h v l) {j:Nat} (e:v.at?=some j):N<=j/\j<h.nx:=by
 obtain ⟨q,c,h1,h2,rfl,hc,hg⟩:=r
 cases e;exact ⟨h1,h2⟩
theorem SR.app {N m sb so:Nat} {h:H} {v:V} {l new:List (List UInt8)} {ls:List V} {ro:Bool} {cap:Cap} (r:SR N h v l) (hN:N<=h.nx) (hm:0<m) (hs:h.get sb=some (.cells ls ro)) (hsl:so+m<=ls.length) (hnew:(ls.drop so).take m=strs new) (hb:l.length+m<=1000000) :
  ∃ v' h',jav h 1 16 v (.slice (some (sb,so)) m cap)=some (v',h')/\SR N h' v' (l++new)/\h'.nx=h.nx+1/\v'.at?=some h.nx /\ ∀ j,j<h.nx->v.at?≠some j->h'.get j=h.get j:=by
 obtain ⟨q,c,h1,h2,rfl,hc,hg⟩:=r
 have hlen:new.length=m:=by
  have:=congrArg List.length hnew
  simp at this;omega
 have hsrc:jam h 1 m (.slice (some (sb,so)) m cap)=some (strs new):=by
  have:(m*1 == 0)=false:=by simp;omega
  simp only [jam,this,cond_false]
  rw [jb3 hs om,Nat.mul_one,hnew]
 have hcond:(Nat.ble ((l.length+m)*16) (2 ^ 46)&&Nat.ble (l.length+m) (2 ^ 46))=true:=by simp only [zn,zO];omega
 have h10:(m == 0)=false:=by simp;omega
 have hll:(l++new).length=l.length+m:=by simp [hlen]
 rcases hc with rfl | rfl
 ·have hgd:(Nat.beq 1 1&&Nat.ble (0+l.length*1) (strs l).length&&(strs new).all V.one)=true:=by
   simp only [zn,zO,strs_one,and_true]
   exact ⟨rfl,by simp⟩
  have htk:((strs l).drop 0).take (l.length*1)=strs l:=by rw [zj,zg Zd]
  refine ⟨.slice (some (h.nx,0)) (l.length+m) (.grow 1),(h.kill q).new (.cells (strs (l++new)) false),?_,⟨h.nx,.grow 1,hN,by simp,by rw [hll],.inl rfl,?_⟩,by simp,rfl,?_⟩
  ·simp only [jav,lenOf,hsrc]
   rw [hcond]
   simp only [cond_true,h10,cond_false,hg]
   rw [hgd]
   simp only [cond_true,newRow,htk,strs,List.map_append]
   rfl
  ·exact jac (h:=h.kill q) _
  ·intro j hj hv
   have hjq:j≠q:=fun e=>hv (by subst e;rfl)
   rw [jad (by simpa using hj),jan hjq]
 ·have hld:(bif l.length*1 == 0 then some [] else h.load q 0 (l.length*1))=some (strs l):=by
   by_cases h0:l=[]
   ·subst h0;rfl
   ·have:(l.length*1 == 0)=false:=by
     have:=List.length_pos_iff.2 h0
     simp [h0]
    rw [this,cond_false,jb3 hg Zd,zj,zg Zd]
  have hno:Nat.ble (l.length+m) l.length=false:=by
   cases e:Nat.ble (l.length+m) l.length with
   | false=>rfl
   | true=>have:=zr e;omega
  refine ⟨.slice (some (h.nx,0)) (l.length+m) (.grow 1),h.new (.cells (strs (l++new)) false),?_,⟨h.nx,.grow 1,hN,by simp,by rw [hll],.inl rfl,jac _⟩,by simp,rfl,fun j hj _=>jad hj⟩
  simp only [jav,lenOf,hsrc]
  rw [hcond]
  simp only [cond_true,h10,cond_false,hno,hld]
  simp only [newRow,strs,List.map_append]
theorem jdP (e:Env) (d:Nat) (v:V):(Opd.t d).ev (layv e (some d) v)=some v:=by
 show (layv e (some d) v).get d=_
 rw [jaJ,zC rfl]
section
variable {call:Call} {fuel base:Nat} {K:List Fr} {e:Env} {h h0:H} {Q:Post} {ix i1 i2 d1 d2:Nat} {dst at_:Option Nat} {ops:List Ins} {keep:List Nat} {c:List (Nat × I × Option (Nat × Bool))}
theorem Ops.strA {x y:Opd} {sv:V} {l new:List (List UInt8)} {sb so m:Nat} {ls:List V} {ro:Bool} {cap:Cap} (hx:x.ev e=some sv) (hy:y.ev e=some (.slice (some (sb,so)) m cap)) (o:Old h0 h) (r:SR h0.nx h sv l) (hm:0<m) (hs:h.get sb=some (.cells ls ro)) (hsl:so+m<=ls.length) (hnew:(ls.drop so).take m=strs new) (hb:l.length+m<=1000000)
  (hk : ∀ h',Old h0 h'->ja0 e h' c=true) (k : ∀ v' h',SR h0.nx h' v' (l++new)->Old h0 h'->h'.nx=h.nx+1->(∀ j,j<h.nx->sv.at?≠some j->h'.get j=h.get j)->Ops call fuel base ops keep K (layv e dst v') h' Q) :
  Ops call fuel base (⟨ix,dst,.append 1 16 x y,none,none,c⟩ :: ops) keep K e h Q:=by
 obtain ⟨v',h',e1,e2,e3,e4,e5⟩:=r.app (cap:=cap) o.1 hm hs hsl hnew hb
 have o':Old h0 h':=⟨by have:=o.1;omega,fun j hj=>by rw [e5 j (zq hj o.1) fun e=>by have:=(r.at_ge e).1;omega,o.2 j hj]⟩
 exact Ops.step_chk (I.run_eff rfl (by simp only [I.eff,hx,hy,e1])) (hk h' o') (k v' h' e2 o' e3 e5)
theorem Ops.strS {x y:Opd} {sv yv:V} {l new:List (List UInt8)} {M:Nat} (hx:x.ev e=some sv) (hy:y.ev e=some yv) (o:Old h0 h) (r:SR h0.nx h sv l) (r2:SR M h yv new) (hn:new≠[]) (hb:l.length+new.length<=1000000)
  (hk : ∀ h',Old h0 h'->ja0 e h' c=true) (k : ∀ v' h',SR h0.nx h' v' (l++new)->Old h0 h'->h'.nx=h.nx+1->(∀ j,j<h.nx->sv.at?≠some j->h'.get j=h.get j)->Ops call fuel base ops keep K (layv e dst v') h' Q) :
  Ops call fuel base (⟨ix,dst,.append 1 16 x y,none,none,c⟩ :: ops) keep K e h Q:=by
 obtain ⟨q,c,h1,h2,rfl,hc,hg⟩:=r2
 have:=List.length_pos_iff.2 hn
 exact Ops.strA hx hy o r this hg Zd (by rw [zj,zg Zd]) hb hk k
theorem Ops.strP {x s:Opd} {sv z:V} {l:List (List UInt8)} {t:List UInt8} (hx:x.ev e=some (.str t)) (hs:s.ev (layv e (some d1) (.slice (some (h.nx,0)) 1 (.fix 1)))=some sv) (o:Old h0 h) (r:SR h0.nx h sv l) (hb:l.length<=900000)
  (k : ∀ v' h',SR h0.nx h' v' (l++[t])->Old h0 h'->h'.nx=h.nx+2->(∀ j,j<h.nx->sv.at?≠some j->h'.get j=h.get j)->Ops call fuel base ops keep K (layv (layv e (some d1) (.slice (some (h.nx,0)) 1 (.fix 1))) (some d2) v') h' Q) :
  Ops call fuel base (⟨i1,some d1,.bslice 1 1 [z] [(0,x)],none,none,[]⟩ :: ⟨i2,some d2,.append 1 16 s (.t d1),none,none,[]⟩ :: ops) keep K e h Q:=by
 refine zcu (ob := .cells [V.str t] false) (mk:=fun b=>.slice (some (b,0)) 1 (.fix 1)) rfl ?_ ?_
 ·simp only [I.make,jaG,List.map,hx];rfl
 ·have on:Old h (h.new (.cells [V.str t] false)):=⟨by simp,fun _ hj=>jad hj⟩
  refine Ops.strA (new:=[t]) hs (jdP ..) (o.trans on) (r.keep (zp _) on) Nat.one_pos (jac _) Zd rfl om (fun _ _=>rfl) fun v' h' a b c d=>k v' h' a b (by rw [c];simp) fun j hj hv=>by rw [d j Zc hv,jad hj]
theorem Ops.strP_at {x s:Opd} {sv z:V} {l:List (List UInt8)} {t:List UInt8} {b:Nat} (hx:x.ev e=some (.str t)) (hs:s.ev (layv e (some d1) (.slice (some (base+b,0)) 1 (.fix 1)))=some sv) (o:Old h0 h) (r:SR h0.nx h sv l) (h1:h0.nx<=base+b) (h2:base+b<h.nx) (h3:sv.at?≠some (base+b)) (hb:l.length<=900000)
  (k : ∀ v' h',SR h0.nx h' v' (l++[t])->Old h0 h'->h'.nx=h.nx+1->(∀ j,j<h.nx->j≠base+b->sv.at?≠some j->h'.get j=h.get j)->Ops call fuel base ops keep K (layv (layv e (some d1) (.slice (some (base+b,0)) 1 (.fix 1))) (some d2) v') h' Q) :
  Ops call fuel base (⟨i1,some d1,.bslice 1 1 [z] [(0,x)],none,some b,[]⟩ :: ⟨i2,some d2,.append 1 16 s (.t d1),none,none,[]⟩ :: ops) keep K e h Q:=by
 refine Ops.make_at (ob := .cells [V.str t] false) (mk:=fun b=>.slice (some (b,0)) 1 (.fix 1)) rfl ?_ ?_
 ·simp only [I.make,jaG,List.map,hx];rfl
 ·have on:Old h0 (h.set (base+b) (.cells [V.str t] false)):=⟨o.1,fun j hj=>by rw [jaa om,o.2 j hj]⟩
  refine Ops.strA (new:=[t]) hs (jdP ..) on (r.keep_ne (zp _) fun j hj=>jaa fun e=>h3 (by rw [hj,e])) Nat.one_pos (jab _) Zd rfl om (fun _ _=>rfl) fun v' h' a b c d=>k v' h' a b c fun j hj hjb hv=>by rw [d j hj hv,jaa hjb]
end
theorem Row.sr {N:Nat} {h:H} {v:V} {l:List (List UInt8)} (r:Row N h 1 v l.length (strs l)) (hl:l≠[]):SR N h v l:=by
 rcases r with ⟨h1,_⟩ | ⟨q,h1,h2,rfl,h4,_⟩
 ·exact zI (zm.1 h1) hl
 ·exact ⟨q,_,h1,h2,rfl,.inl rfl,h4⟩
theorem jir {q:List UInt8} {cap:Nat} (h1:q.length<=cap) (h2:cap<=65536):(hexS q).length<=131072:=by
 rw [jgZ];omega
theorem jcp {u:Nat} (h:u<18446744073709551616):(dec u).length<=20:=jjh (m:=19) om h
section
variable {cl:Nat->Call} (hcl:Sem cl)
include hcl
theorem wd_ring {d bx r b cap:Nat} {v:V} {l:List (List UInt8)} {q:List UInt8} {e:En} {h h0:H} (hd:8<=d) (p:Pw h) (o:Old h0 h) (g:h.get bx=some (.cells (e.cells r) false)) (lb:bx<h.nx) (hq:e.ring=some q) (R:jaw h r b q cap) (l1:r<h.nx) (l2:b<h.nx) (s:SR h0.nx h v l) (hl:l.length<=10) :
  Run (cl d) fuel c27_0 [] [(1,.p bx 0),(3,v),(17,.bool false)] h (Fin c27.res fun x h'=>SR h0.nx h' x (l++[hexS q++[47]++dec cap])/\Old h0 h'):=by
 obtain ⟨buf,frm,inn,out,C,W⟩:=R
 have w1:=W.fit
 have w2:=W.small
 refine Run.seq (Run.region ?_)
 have oG:Old h (h.reserve 1):=⟨by simp,fun j _=>H.get_reserve ..⟩
 have xG:(h.reserve 1).nx=h.nx+1:=by simp
 have sG:=s.keep (zp _) oG
 have CG:RingC (h.reserve 1) r b buf frm q.length cap inn out:=⟨by rw [oG.2 r l1,C.hr],by rw [oG.2 b l2,C.hb]⟩
 generalize h.reserve 1=G at oG xG sG CG ⊢
 have gG:G.get bx=some (.cells (e.cells r) false):=by rw [oG.2 bx lb,g]
 have q2:(e.cells r)[0+2]?=some (.p r 0):=by show some (En.ptr e.ring r)=_;rw [hq];rfl
 have eLen:=jh7 hcl (d:=d) om CG
 obtain ⟨lv,h1,eLook,row,_,ch1⟩:=jle hcl (d:=d) (n:=(q.length:Int)) om CG W om om
 rw [Int.min_self,zt,List.take_length] at row
 have o1:Old G h1:=Old.ofCh ch1
 obtain ⟨h2,eHex,o2⟩:=sp_hex hcl (d:=d) om row om
 have o12:=o1.trans o2
 have g1:h1.get bx=some (.cells (e.cells r) false):=by rw [o1.2 bx om,gG]
 have g2:h2.get bx=some (.cells (e.cells r) false):=by rw [o12.2 bx om,gG]
 have C2:RingC h2 r b buf frm q.length cap inn out:=⟨by rw [o12.2 r om,CG.hr],by rw [o12.2 b om,CG.hb]⟩
 have eLen2:=jh7 hcl (d:=d) om C2
 have eRoom:=jlc hcl (d:=d) om C2 w1 w2
 have p2:Pw h2:=(p.old oG).old o12
 have eIt:=jbW hcl (d:=d) (u:=cap) om om p2
 have hxl:=jir w1 w2
 have hdl:=jcp (u:=cap) om
 clear C W CG C2 row ch1
 refine qx ?_
 refine Zm rfl eLen (by repeat (first | apply jba | refine jaK rfl gG q2 rfl ?_)) ?_
 refine Zm rfl eLook (by repeat (first | apply jba | refine jaK rfl g1 q2 rfl ?_)) ?_
 refine Zm rfl eHex (by repeat (first | apply jba | refine jaK rfl g2 q2 rfl ?_)) ?_
 refine Zo rfl rfl Zc ?_
 refine Zm rfl eLen2 (by repeat (first | apply jba | refine jaK rfl g2 q2 rfl ?_)) ?_
 refine qx ?_
 rw [show (q.length:Int)+((cap-q.length:Nat):Int)=(cap:Int) by omega]
 refine qx ?_
 refine Zo rfl rfl Zc ?_
 have oh2:Old h0 h2:=(o.trans oG).trans o12
 refine Ops.strP_at (h0:=h0) (l:=l) rfl rfl oh2 (sG.keep (zp _) o12) ?_ ?_ ?_ om fun v' h' s' o' _ _=>?_
 ·have:=o.1;omega
 ·have:=o12.1;omega
 ·intro e
  have:=(s.at_ge e).2
  omega
 ·refine qx ?_
  exact ⟨s',o'⟩
theorem jjy {d r b cap:Nat} {e:En} {h:H} (hd:9<=d) (p:Pw h) (hw:0<=e.what/\e.what<=3) (hR : ∀ q,e.ring=some q->jaw h r b q cap/\r<h.nx/\b<h.nx) :
  ∃ v h',cl d (.fn 27) [.agg (e.cells r)] h=some (v,h')/\SR h.nx h' v (jbv e.what e.shut e.ring cap)/\Old h h':=by
 obtain ⟨w,hww⟩ : ∃ w:Nat,e.what=(w:Int):=⟨e.what.toNat,by omega⟩
 have hw4:w<4:=by omega
 have hnm:[V.str [110,111,110,101],.str [105,110],.str [111,117,116],.str [99,108,111,115,101,100]][0+(w:Int).toNat*1]?=some (.str (jf0 (w:Int))):=by
  match w,hw4 with
  | 0,_=>rfl | 1,_=>rfl | 2,_=>rfl | 3,_=>rfl
 rw [hww]
 refine aT hcl ?_
 obtain ⟨C2,hC2⟩ : ∃ C,C=c27_2:=⟨_,rfl⟩
 simp only [c27,c27_3,<- hC2,uF,yB]
 refine qx ?_
 refine zcu (ob := .cells (e.cells r) false) rfl rfl ?_
 have o1:Old h (h.new (.cells (e.cells r) false)):=(Zn h).new
 have g1:=jac (h:=h) (.cells (e.cells r) false)
 have l1:h.nx<(h.new (.cells (e.cells r) false)).nx:=by simp
 generalize h.new (.cells (e.cells r) false)=h1 at o1 g1 l1 ⊢
 refine qx ?_
 refine zcu (ob := .cells [V.str [110,111,110,101],.str [105,110],.str [111,117,116],.str [99,108,111,115,101,100]] false) rfl rfl ?_
 have o2:Old h1 (h1.new (.cells [V.str [110,111,110,101],.str [105,110],.str [111,117,116],.str [99,108,111,115,101,100]] false)):=(Zn h1).new
 have g2:=jac (h:=h1) (.cells [V.str [110,111,110,101],.str [105,110],.str [111,117,116],.str [99,108,111,115,101,100]] false)
 generalize h1.new (.cells [V.str [110,111,110,101],.str [105,110],.str [111,117,116],.str [99,108,111,115,101,100]] false)=h2 at o2 g2 ⊢
 have g1':h2.get h.nx=some (.cells (e.cells r) false):=by rw [o2.2 _ l1,g1]
 have q0:(e.cells r)[0+0]?=some (.i (w:Int)):=by rw [<- hww];rfl
 have q2:(e.cells r)[0+2]?=some (En.ptr e.ring r):=rfl
 have q4:(e.cells r)[0+4]?=some (.bool e.shut):=rfl
 have o12:=o1.trans o2
 refine qx ?_
 refine zcu (ob := .cells [V.str (jf0 (w:Int))] false) (mk:=fun b=>.slice (some (b,0)) 1 (.fix 1)) rfl rfl ?_
 have o3:Old h2 (h2.new (.cells [V.str (jf0 (w:Int))] false)):=(Zn h2).new
 have s3:SR h.nx (h2.new (.cells [V.str (jf0 (w:Int))] false)) (.slice (some (h2.nx,0)) 1 (.fix 1)) [jf0 (w:Int)]:=⟨h2.nx,_,o12.1,by simp,rfl,.inr rfl,jac _⟩
 have n2:=o2.1
 generalize (h2.new (.cells [V.str (jf0 (w:Int))] false))=h3 at o3 s3 ⊢
 have hv3:(V.slice (some (h2.nx,0)) 1 (.fix 1)).at?≠some h.nx:=fun e=>by have e:some h2.nx=some h.nx:=e;have:=Option.some.inj e;omega
 generalize V.slice (some (h2.nx,0)) 1 (.fix 1)=v3 at s3 hv3 ⊢
 have g3:h3.get h.nx=some (.cells (e.cells r) false):=by rw [o3.2 _ om,g1']
 have o13:=o12.trans o3
 have n3:=o3.1
 clear g1 g1' g2 hnm
 refine qx ?_
 rw [hC2]
 refine Run.fin_mono (R:=fun x h'=>SR h.nx h' x (([jf0 (w:Int)]++if e.shut then [[115,104,117,116]] else [])++[jki e.ring cap])/\Old h h') ?_ fun x h' ⟨a,b⟩=>⟨by simpa [jbv] using a,b⟩
 suffices key : ∀ (sb:Env) v4 h4 l4,SR h.nx h4 v4 l4->Old h h4->h4.get h.nx=some (.cells (e.cells r) false)->h.nx<h4.nx->l4.length<=9->Run (cl (d-1)) fuel c27_1 [] ((1,.p h.nx 0) :: (3,v4) :: sb) h4 (Fin c27.res fun x h'=>SR h.nx h' x (l4++[jki e.ring cap])/\Old h h') by
  obtain ⟨C,hC⟩ : ∃ C,C=c27_1:=⟨_,rfl⟩
  simp only [c27_2,<- hC,yH]
  cases hs:e.shut with
  | false=>
   rw [hs] at q4
   refine qx ?_
   rw [hC]
   exact Run.fin_mono (key [(11,.bool false)] v3 h3 _ s3 o13 g3 om Zd) fun x h' ⟨a,b⟩=>⟨by simpa using a,b⟩
  | true=>
   rw [hs] at q4
   refine qx ?_
   refine Ops.strP (h0:=h) (l:=[jf0 (w:Int)]) rfl rfl o13 s3 Zd fun v4 h4 s4 o4 x4 k4=>?_
   refine qx ?_
   rw [hC]
   refine key [] v4 h4 _ s4 o4 ?_ om Zd
   rw [k4 _ om fun e=>hv3 e,g3]
 intro sb v4 h4 l4 s4 o4 g4 n4 hl4
 cases hr:e.ring with
 | none=>
  rw [hr] at q2
  have q2:(e.cells r)[0+2]?=some (.ptr none):=q2
  refine qx ?_
  refine Ops.strP (h0:=h) (l:=l4) rfl rfl o4 s4 om fun v5 h5 s5 o5 _ _=>?_
  refine qx ?_
  exact ⟨s5,o5⟩
 | some q=>
  obtain ⟨R,l1',l2'⟩:=hR q hr
  rw [hr] at q2
  have q2:(e.cells r)[0+2]?=some (.p r 0):=q2
  obtain ⟨C,hC⟩ : ∃ C,C=c27_0:=⟨_,rfl⟩
  simp only [c27_1,<- hC,yJ]
  refine qx ?_
  rw [hC]
  have onx:=o4.1
  exact wd_ring hcl (d:=d-1) om (p.old o4) o4 g4 n4 hr (R.keep (o4.2 _ l1') (o4.2 _ l2')) om om s4 om
end
abbrev tNow:List UInt8:=[110,111,119,32]
abbrev tFd:List UInt8:=[102,100,32]
abbrev jlR:List UInt8:=[32,119,105,114,101,32]
abbrev tEnd:List UInt8:=[32,101,110,100,32]
abbrev jcg:List UInt8:=[119,105,114,101]
abbrev jcQ:List UInt8:=[108,105,115,116,101,110]
abbrev jff:List UInt8:=[114,101,115,101,116]
abbrev tSig:List UInt8:=[115,105,103,110,97,108,32]
abbrev tNo:List UInt8:=[110,111,116,105,99,101,32]
def endK (x:Wi) (k:Nat):Nat:=if 0<x.backlog then 2 else k
noncomputable def jjc (ws:Ws) (fd:Nat):List (List UInt8):=jbw ws (fd:Int) [] fun n k x=>[tFd++dec fd++jlR++dec n++tEnd++dec (endK x k)]
noncomputable def jdO (ws:Ws):Nat->List (List UInt8)
 | 0=>[]
 | n+1=>jdO ws n++jjc ws n
def jkL (x:Wi):List (List UInt8):=(if 0<x.backlog then [jcQ,dec x.backlog.toNat]++x.waiting.map (fun m=>dec m.toNat) else jbv x.e0.what x.e0.shut x.e0.ring x.cap++jbv x.e1.what x.e1.shut x.e1.ring x.cap)++if x.reset then [jff] else []
def jce (l:List (List UInt8)):List UInt8:=(l.map fun s=>[32]++s).flatten
def jjb (n:Nat) (x:Wi):List UInt8:=jcg++jce (dec n :: jkL x)
def jin (ws:Ws):Nat->List (List UInt8)
 | 0=>[]
 | n+1=>jin ws n++match ws[n]? with
  | none=>[]
  | some x=>[jjb n x]
def jd1 (hd:Nat->Bool) (pd:Nat->Int):Nat->List (List UInt8)
 | 0=>[]
 | n+1=>jd1 hd pd n++if hd (n+1) then [tSig++dec (n+1)++[32]++dec (pd (n+1)).toNat] else []
def jl0:Option (Nat × Nat)->List (List UInt8)
 | none=>[]
 | some p=>[tNo++dec p.1++[32]++dec p.2]
noncomputable def jl1 (ws:Ws) (now:Int) (hd:Nat->Bool) (pd:Nat->Int) (no:Option (Nat × Nat)):List (List UInt8) :=
 [tNow++dec now.toNat]++jdO ws 96++jin ws ws.length++jd1 hd pd 31++jl0 no
theorem jeq (ws:Ws) : ∀ n,(jdO ws n).length<=n
 | 0=>zp _
 | n+1=>by
  have:=jeq ws n
  have h1:(jjc ws n).length<=1:=by
   unfold jjc jbw
   split
   ·simp
   ·split<;>simp
  simp only [jdO,zf];omega
theorem jf7 (ws:Ws) : ∀ n,(jin ws n).length<=n
 | 0=>zp _
 | n+1=>by
  have:=jf7 ws n
  simp only [jin,zf]
  split<;>simp<;>omega
theorem jd0 (hd:Nat->Bool) (pd:Nat->Int) : ∀ n,(jd1 hd pd n).length<=n
 | 0=>zp _
 | n+1=>by
  have:=jd0 hd pd n
  simp only [jd1,zf]
  split<;>simp<;>omega
theorem jc0 (a b:List (List UInt8)):jce (a++b)=jce a++jce b:=by simp [jce]
theorem jgs (a:List UInt8):jce [a]=32 :: a:=by simp [jce]
theorem jb4 (x:List UInt8) (l:List (List UInt8)):Lib.join (x :: l) [32]=x++jce l:=Lib.join_cons x l [32]
theorem jhu {w:Int} {s:Bool} {r:Option (List UInt8)} {c:Nat} : jbv w s r c≠[]:=by simp [jbv]
theorem ringS_len {r:Option (List UInt8)} {cap:Nat} (h : ∀ q,r=some q->q.length<=cap) (hc:cap<=65536):(jki r cap).length<=131100:=by
 cases r with
 | none=>simp [jki]
 | some q=>
  have:=jir (h q rfl) hc
  have:=jcp (u:=cap) om
  simp only [jki,zf,List.length_singleton];omega
theorem jht {w:Int} {s:Bool} {r:Option (List UInt8)} {cap:Nat} (h : ∀ q,r=some q->q.length<=cap) (hc:cap<=65536):(jce (jbv w s r cap)).length<=131200:=by
 have h1:=ringS_len h hc
 have h2:=nameS_len w
 unfold jbv jce
 cases s<;>simp<;>omega
def BM (h0:H) (rw j:Nat) (i:Int) (l:List (List UInt8)):Post:=fun x e h'=>x = .normal /\ ∃ v' sb,e=(0,.p rw 0) :: (3,v') :: (j,.i i) :: sb/\SR h0.nx h' v' l/\Old h0 h'
theorem jkb {cl:Nat->Call} (hcl:Sem cl) {d b:Nat} {h:H} {t:Tb} (hd:3<=d) (hb:h.get b=some t.obj) (s:Int):cl d (.fn 29) [.p b 0,.i s] h=some (.bool (t.has s),h):=by
 refine jao (aT hcl ?_)
 have hm:=jkS hcl (d:=d-1) om b s h
 unfold Tb.obj at hb
 by_cases hs:sig? s
 ·rw [zC hs] at hm
  obtain ⟨s1,s2⟩:=hs
  refine qo ?_
  refine zaw rfl hm ?_
  refine qo ?_
  refine Ops.load1 rfl hb (jmd (k:=s.toNat) om om) ?_
  refine qo ?_
  exact ⟨by rw [Tb.has,zF ⟨s1,s2⟩];rfl,rfl⟩
 ·rw [zz hs] at hm
  refine qo ?_
  refine zaw rfl hm ?_
  refine qo ?_
  exact ⟨by rw [Tb.has,zD hs];rfl,rfl⟩
section
variable {cl:Nat->Call} (hcl:Sem cl) {h h0:H} {w s:Nat} {ow:Nat->Nat} {l:List WX} {now:Int} {tb:Tb} {no:Option (Nat × Nat)} {v:V} {L:List (List UInt8)}
theorem w_JoinS {d N:Nat} {xs:List (List UInt8)} {t:List UInt8} (hcl:Sem cl) (hd:1<=d) (r:SR N h v xs) (hs:(Lib.join xs t).length<=100000000) (hx:xs.length<=1000):cl d (.fn 28) [v,.str t] h=some (.str (Lib.join xs t),h):=by
 obtain ⟨q,c,h1,h2,rfl,hc,hg⟩:=r
 exact w_Join hcl hd hg (by rw [zj,zg Zd]) rfl hs om
include hcl
theorem iw_end {d:Nat} {sb:Env} (hd:2<=d) (P:Pw h) (a:WF h w s ow (fun i=>atS (wxs l) (i:Int)) l now tb no) (nt:NtOk (wxs l) (noI no) (siI no)) (hlen:l.length<=1000) (o:Old h0 h) (sr:SR h0.nx h v L) (hl:L.length<=5000) :
  Run (cl d) fuel c13_4 [] ((0,.p w 0) :: (3,v) :: sb) h (Fin c13.res fun x h'=>SR h0.nx h' x (L++jl0 no)/\Old h0 h'):=by
 obtain ⟨sa,c,hw,_⟩:=a.head
 have lw:=a.lw
 cases no with
 | none=>
  have q0:(wc (fun i=>atS (wxs l) (i:Int)) (.slice sa l.length c) s now none)[0+291+0]?=some (.bool false):=jh1 (j:=0) om rfl
  generalize wc (fun i=>atS (wxs l) (i:Int)) (.slice sa l.length c) s now none=cs at hw q0
  refine qx ?_
  exact ⟨by simpa [jl0] using sr,o⟩
 | some p=>
  have q0:(wc (fun i=>atS (wxs l) (i:Int)) (.slice sa l.length c) s now (some p))[0+291+0]?=some (.bool true):=jh1 (j:=0) om rfl
  have q1:(wc (fun i=>atS (wxs l) (i:Int)) (.slice sa l.length c) s now (some p))[0+291+1]?=some (.i (p.1:Int)):=jh1 (j:=1) om rfl
  have q2:(wc (fun i=>atS (wxs l) (i:Int)) (.slice sa l.length c) s now (some p))[0+291+2]?=some (.i (p.2:Int)):=jh1 (j:=2) om rfl
  have hp:p.1<=1000/\p.2<=1:=by
   rcases nt with e | ⟨n,k,x,h1,h2,h3,h4,_⟩
   ·have e:(p.1:Int) = -1:=e
    omega
   ·have h1:(p.1:Int)=n:=h1
    have h2:(p.2:Int)=k:=h2
    have:=w_lt h4
    rw [List.length_map] at this
    omega
  clear nt a
  generalize wc (fun i=>atS (wxs l) (i:Int)) (.slice sa l.length c) s now (some p)=cs at hw q0 q1 q2
  refine qx ?_
  refine Run.region ?_
  have oG:Old h (h.reserve 1):=⟨by simp,fun j _=>H.get_reserve ..⟩
  have xG:(h.reserve 1).nx=h.nx+1:=by simp
  have sG:=sr.keep (zp _) oG
  have PG:=P.old oG
  generalize h.reserve 1=G at oG xG sG PG ⊢
  have gG:G.get w=some (.cells cs false):=by rw [oG.2 _ lw,hw]
  have e1:=jbW hcl (d:=d) (u:=p.1) om om PG
  have e2:=jbW hcl (d:=d) (u:=p.2) om om PG
  have d1:=jcp (u:=p.1) om
  have d2:=jcp (u:=p.2) om
  have n0:=o.1
  refine qx ?_
  refine Zm rfl e1 (jaK rfl gG q2 rfl jba) ?_
  refine Zo rfl rfl Zc ?_
  refine Zo rfl rfl Zc ?_
  refine qx ?_
  refine Zo rfl rfl Zc ?_
  refine Ops.strP_at (h0:=h0) (l:=L) (t:=tNo++dec p.1++[32]++dec p.2) rfl rfl (o.trans oG) sG om om (fun e=>by have:=(sr.at_ge e).2;omega) om fun v' h' s' o' _ _=>?_
  refine qx ?_
  exact ⟨s',o'⟩
theorem iw_sig {d sg:Nat} {sb:Env} (hd:4<=d) (P:Pw h) (a:WF h w s ow (fun i=>atS (wxs l) (i:Int)) l now tb no) (h1:1<=sg) (hs:sg<32) (hc:tb.ok 1000000) (o:Old h0 h) (sr:SR h0.nx h v L) (hl:L.length<=5000) :
  Run (cl d) fuel (.block 7 c13_2) [] ((0,.p w 0) :: (3,v) :: (12,.i (sg:Int)) :: sb) h (BM h0 w 12 sg (L++if tb.hd sg=true then [tSig++dec sg++[32]++dec (tb.pd sg).toNat] else [])):=by
 obtain ⟨sa,c,hw,_⟩:=a.head
 have lw:=a.lw
 have q1:(wc (fun i=>atS (wxs l) (i:Int)) (.slice sa l.length c) s now no)[0+289]?=some (.p s 0):=jfe rfl
 have eh:=jkb hcl (d:=d) om a.hs (sg:Int)
 have hsg:sig? (sg:Int):=by show (1:Int)<=sg/\(sg:Int)<=31;omega
 have e0:tb.has (sg:Int)=tb.hd sg:=by unfold Tb.has;rw [zF hsg];simp
 rw [e0] at eh
 generalize wc (fun i=>atS (wxs l) (i:Int)) (.slice sa l.length c) s now no=cs at hw q1
 cases hh:tb.hd sg with
 | false=>
  rw [hh] at eh
  clear hc
  refine qx ?_
  exact End.nil ⟨rfl,v,_,rfl,by simpa using sr,o⟩
 | true=>
  rw [hh] at eh
  have hcs:=hc sg
  obtain ⟨u,hu⟩ : ∃ u:Nat,tb.pd sg=(u:Int):=⟨(tb.pd sg).toNat,by omega⟩
  have ec:tb.cnt (sg:Int)=(u:Int):=by unfold Tb.cnt;rw [zC hsg,zt,hu]
  rw [hu] at hcs ⊢
  have hs0:=a.hs
  have ls:=a.ls
  clear hc a hsg
  refine qx ?_
  refine Run.region ?_
  have oG:Old h (h.reserve 1):=⟨by simp,fun j _=>H.get_reserve ..⟩
  have xG:(h.reserve 1).nx=h.nx+1:=by simp
  have sG:=sr.keep (zp _) oG
  have PG:=P.old oG
  generalize h.reserve 1=G at oG xG sG PG ⊢
  have gG:G.get w=some (.cells cs false):=by rw [oG.2 _ lw,hw]
  have e3:=jjz hcl (d:=d) om (h:=G) (by rw [oG.2 _ ls,hs0]) (sg:Int)
  rw [ec] at e3
  have e1:=jbW hcl (d:=d) (u:=sg) om om PG
  have e2:=jbW hcl (d:=d) (u:=u) om om PG
  have d1:=jcp (u:=sg) om
  have d2:=jcp (u:=u) om
  have n0:=o.1
  refine qx ?_
  refine Zm rfl e1 (jaK rfl gG q1 rfl jba) ?_
  refine Zo rfl rfl Zc ?_
  refine Zo rfl rfl Zc ?_
  refine qx ?_
  refine Zo rfl rfl Zc ?_
  refine Ops.strP_at (h0:=h0) (l:=L) (t:=tSig++dec sg++[32]++dec u) rfl rfl (o.trans oG) sG om om (fun e=>by have:=(sr.at_ge e).2;omega) om fun v' h' s' o' _ _=>?_
  refine qx ?_
  exact End.nil ⟨rfl,v',_,rfl,by simpa using s',o'⟩
theorem iw_fd {d i bx:Nat} {t:V} (hd:2<=d) (P:Pw h) (a:WF h w s ow (fun i=>atS (wxs l) (i:Int)) l now tb no) (u:Uniq (wxs l)) (hlen:l.length<=1000) (hi:i<96) (g:h.get bx=some (.cells (plc (atS (wxs l) (i:Int))) false)) (hb:bx<h.nx) (o:Old h0 h) (sr:SR h0.nx h v L) (hl:L.length<=5000) :
  Run (cl d) fuel c13_17 [] [(0,.p w 0),(3,v),(4,.i (i:Int)),(5,.p bx 0),(25,t),(26,.i (i:Int))] h (fun x e h'=>x = .normal /\ ∃ v',(e=[(0,.p w 0),(3,v'),(25,t),(26,.i (i:Int))]\/e=[(0,.p w 0),(3,v'),(4,.i (i:Int)),(5,.p bx 0),(25,t),(26,.i (i:Int)),(31,.bool false)])/\SR h0.nx h' v' (L++jjc (wxs l) i)/\Old h0 h'):=by
 obtain ⟨sa,c,hw,hsl⟩:=a.head
 have lw:=a.lw
 cases ha:atS (wxs l) (i:Int) with
 | none=>
  have hS:jjc (wxs l) i=[]:=by unfold jjc jbw;rw [ha]
  rw [hS,List.append_nil]
  rw [ha] at g
  have q0:(plc none)[0+0]?=some (.bool false):=rfl
  refine qx ?_
  exact End.nil ⟨rfl,v,.inr rfl,sr,o⟩
 | some p=>
  obtain ⟨n,k⟩:=p
  obtain ⟨x,hx,hk,_⟩:=id (jlE ha)
  obtain ⟨t',ht,rfl⟩:=jha hx
  have hS:jjc (wxs l) i=[tFd++dec i++jlR++dec n++tEnd++dec (endK t'.x k)]:=jhx u (jlE ha) hx
  rw [hS]
  rw [ha] at g
  have q0:(plc (some (n,k)))[0+0]?=some (.bool true):=rfl
  have q1:(plc (some (n,k)))[0+1]?=some (.i (n:Int)):=rfl
  have q2:(plc (some (n,k)))[0+2]?=some (.i (k:Int)):=rfl
  have hn:=x_lt ht
  have X:=a.ok n t' ht
  have hxw:=X.hx
  have lx:=X.lx
  have c1:(wc (fun i=>atS (wxs l) (i:Int)) (.slice sa l.length c) s now no)[0+288]?=some (.slice sa l.length c):=jaO rfl
  obtain ⟨z,rfl,z1,z2,z3⟩:=hsl (by rintro rfl;simp at hn)
  have w2:(wps l)[0+(n:Int).toNat*1]?=some (.p t'.wb 0):=by rw [show 0+(n:Int).toNat*1=n by omega];exact jc5 ht
  have q15:(t'.x.cells t'.r0 t'.r1 t'.wv)[0+15]?=some (.i t'.x.backlog):=rfl
  have hxw:h.get t'.wb=some (.cells (t'.x.cells t'.r0 t'.r1 t'.wv) false):=hxw
  have hk2:endK t'.x k<=2:=by unfold endK;split<;>omega
  clear a X u hS
  generalize wc (fun i=>atS (wxs l) (i:Int)) (.slice (some (z,0)) l.length c) s now no=cs at hw c1
  generalize plc (some (n,k))=pl at g q0 q1 q2
  generalize t'.x.cells t'.r0 t'.r1 t'.wv=xc at hxw q15
  suffices key : ∀ (K6:Nat) (sb:Env),K6=endK t'.x k->Run (cl d) fuel c13_15 [] ((0,.p w 0) :: (3,v) :: (4,.i (i:Int)) :: (5,.p bx 0) :: (6,.i (K6:Int)) :: (25,t) :: (26,.i (i:Int)) :: sb) h (fun x e h'=>x = .normal /\ ∃ v',(e=[(0,.p w 0),(3,v'),(25,t),(26,.i (i:Int))]\/e=[(0,.p w 0),(3,v'),(4,.i (i:Int)),(5,.p bx 0),(25,t),(26,.i (i:Int)),(31,.bool false)])/\SR h0.nx h' v' (L++[tFd++dec i++jlR++dec n++tEnd++dec (endK t'.x k)])/\Old h0 h') by
   obtain ⟨C,hC⟩ : ∃ C,C=c13_15:=⟨_,rfl⟩
   simp only [c13_17,c13_16,<- hC,yB]
   by_cases hb':t'.x.backlog>0
   ·have ek:2=endK t'.x k:=(zC hb').symm
    refine qx ?_
    rw [hC]
    exact key 2 _ ek
   ·have ek:k=endK t'.x k:=(zz hb').symm
    refine qx ?_
    rw [hC]
    exact key k _ ek
  rintro K6 sb rfl
  generalize endK t'.x k=K6 at hk2
  refine Run.region ?_
  have oG:Old h (h.reserve 1):=⟨by simp,fun j _=>H.get_reserve ..⟩
  have xG:(h.reserve 1).nx=h.nx+1:=by simp
  have sG:=sr.keep (zp _) oG
  have PG:=P.old oG
  generalize h.reserve 1=G at oG xG sG PG ⊢
  have gG:G.get bx=some (.cells pl false):=by rw [oG.2 _ hb,g]
  have e1:=jbW hcl (d:=d) (u:=i) om om PG
  have e2:=jbW hcl (d:=d) (u:=n) om om PG
  have e3:=jbW hcl (d:=d) (u:=K6) om om PG
  have d1:=jcp (u:=i) om
  have d2:=jcp (u:=n) om
  have d3:=jcp (u:=K6) om
  have n0:=o.1
  refine qx ?_
  refine Zm rfl e1 (jaK rfl gG q1 rfl jba) ?_
  refine Zo rfl rfl Zc ?_
  refine Zo rfl rfl Zc ?_
  refine qx ?_
  refine Zo rfl rfl Zc ?_
  refine Zo rfl rfl Zc ?_
  refine qx ?_
  refine Zo rfl rfl Zc ?_
  refine Ops.strP_at (h0:=h0) (l:=L) (t:=tFd++dec i++jlR++dec n++tEnd++dec K6) rfl rfl (o.trans oG) sG om om (fun e=>by have:=(sr.at_ge e).2;omega) om fun v' h' s' o' _ _=>?_
  refine qx ?_
  exact End.nil ⟨rfl,v',.inl rfl,s',o'⟩
end
def WM (h0:H) (w:Nat) (t1 t2 t3:V) (l:List (List UInt8)):Post:=fun x e h'=>x = .normal /\ ∃ v',e=[(0,.p w 0),(3,v'),(65,t1),(66,t2),(67,t3)]/\SR h0.nx h' v' l/\Old h0 h'
section
variable {cl:Nat->Call} (hcl:Sem cl) {h h0 h1:H} {w:Nat} {v v9 t1 t2 t3:V} {L:List (List UInt8)} {xs:List (List UInt8)} {t:WX} {n:Nat}
include hcl
theorem jly {d:Nat} {sb:Env} (hd:1<=d) (o:Old h0 h1) (sr:SR h0.nx h1 v L) (hl:L.length<=5000) (o1:Old h1 h) (s9:SR h1.nx h v9 xs) (hx:xs≠[]) (hxl:xs.length<=200) (hj:(Lib.join xs [32]).length<=1000000) (g:h.get t.wb=some (.cells (t.x.cells t.r0 t.r1 t.wv) false)) :
  Run (cl d) fuel c13_11 [] ((0,.p w 0) :: (3,v) :: (8,.p t.wb 0) :: (9,v9) :: (65,t1) :: (66,t2) :: (67,t3) :: sb) h (WM h0 w t1 t2 t3 (L++[Lib.join (xs++if t.x.reset then [jff] else []) [32]])):=by
 have q14:(t.x.cells t.r0 t.r1 t.wv)[0+14]?=some (.bool t.x.reset):=rfl
 generalize t.x.cells t.r0 t.r1 t.wv=cs at g q14
 suffices key : ∀ (sb:Env) (v5:V) (h5:H) (ys:List (List UInt8)),Old h1 h5->SR h1.nx h5 v5 ys->ys.length<=300->(Lib.join ys [32]).length<=2000000->Run (cl d) fuel c13_5 [] ((0,.p w 0) :: (3,v) :: (9,v5) :: (65,t1) :: (66,t2) :: (67,t3) :: sb) h5 (WM h0 w t1 t2 t3 (L++[Lib.join ys [32]])) by
  obtain ⟨C,hC⟩ : ∃ C,C=c13_5:=⟨_,rfl⟩
  simp only [c13_11,<- hC,yH]
  cases hr:t.x.reset with
  | false=>
   rw [hr] at q14
   refine qx ?_
   rw [hC]
   simpa using key _ v9 h xs o1 s9 om om
  | true=>
   rw [hr] at q14
   refine qx ?_
   refine Ops.strP (h0:=h1) (l:=xs) (t:=jff) rfl rfl o1 s9 om fun v5 h5 s5 o5 _ _=>?_
   refine qx ?_
   rw [hC]
   refine key _ v5 h5 _ o5 s5 Zc ?_
   obtain ⟨x,ys,rfl⟩:=List.exists_cons_of_ne_nil hx
   rw [zC rfl,zS,jb4,jc0,jgs]
   rw [jb4] at hj
   simp at hj ⊢;omega
 intro sb v5 h5 ys o5 s5 hy hyj
 have ej:=w_JoinS hcl (d:=d) (t:=[32]) hd s5 om om
 refine qx ?_
 refine Ops.strP (h0:=h0) (l:=L) (t:=Lib.join ys [32]) rfl rfl (o.trans o5) (sr.keep (zp _) o5) om fun v' h' s' o' _ _=>?_
 refine qx ?_
 exact End.nil ⟨rfl,v',rfl,s',o'⟩
omit hcl in
theorem len_get {b:Nat} {L:List Int} (hL : ∀ m∈L,0<=m/\m<=1000) : ∀ i,(jce ((L.take i).map fun m=>dec m.toNat)).length<=21*i+b*0:=by
 intro i
 induction i with
 | zero=>simp [jce]
 | succ i ih=>
  rw [List.take_add_one,List.map_append,jc0,zf]
  cases hi:L[i]? with
  | none=>simp [jce] at ih ⊢;omega
  | some m=>
   have:=hL m (zc hi)
   have:=jcp (u:=m.toNat) om
   simp [jce] at ih ⊢;omega
theorem iw_listen {d:Nat} {sb:Env} {ow:Nat->Nat} (hd:1<=d) (P:Pw h1) (X:XOk h1 ow n t) (wi:WiOk t.x) (hb:0<t.x.backlog) (wt:t.x.waiting.length<=64 /\ ∀ m∈t.x.waiting,0<=m/\m<=1000) (o:Old h0 h1) (sr:SR h0.nx h1 v L) (hl:L.length<=5000) (o1:Old h1 h) (s9:SR h1.nx h v9 [jcg,dec n]) (hn:n<=100000) :
  Run (cl d) fuel c13_9 [.seq c13_11] ((0,.p w 0) :: (3,v) :: (8,.p t.wb 0) :: (9,v9) :: (65,t1) :: (66,t2) :: (67,t3) :: sb) h (WM h0 w t1 t2 t3 (L++[jjb n t.x])):=by
 have lx:=X.lx
 have g1:h1.get t.wb=some (.cells (t.x.cells t.r0 t.r1 t.wv) false):=X.hx
 have g:h.get t.wb=some (.cells (t.x.cells t.r0 t.r1 t.wv) false):=by rw [o1.2 _ lx,g1]
 have q15:(t.x.cells t.r0 t.r1 t.wv)[0+15]?=some (.i t.x.backlog):=rfl
 obtain ⟨b,hbb⟩ : ∃ b:Nat,t.x.backlog=(b:Int):=⟨t.x.backlog.toNat,by omega⟩
 have hbl:=wi.bl
 rw [hbb] at q15 hbl
 have eI:=jbW hcl (d:=d) (u:=b) hd om (P.old o1)
 have dn:=jcp (u:=n) om
 have db:=jcp (u:=b) om
 obtain ⟨⟨a,c,hv,_,_,hin⟩,_⟩:=X.wait
 have q16:(t.x.cells t.r0 t.r1 t.wv)[0+16]?=some (.slice a t.x.waiting.length c):=by rw [<- hv];rfl
 have hline:jjb n t.x=Lib.join (([jcg,dec n]++[jcQ,dec b]++t.x.waiting.map fun m=>dec m.toNat)++if t.x.reset then [jff] else []) [32]:=by
  rw [show (([jcg,dec n]++[jcQ,dec b]++t.x.waiting.map fun m=>dec m.toNat)++if t.x.reset then [jff] else [])=jcg :: dec n :: jkL t.x by unfold jkL;rw [zC hb,hbb,zt];simp,jb4];rfl
 rw [hline]
 have hlen:=len_get (b:=0) wt.2
 obtain ⟨C,hC⟩ : ∃ C,C=c13_11:=⟨_,rfl⟩
 rw [<- hC]
 refine qx ?_
 refine zcu (ob := .cells [V.str jcQ,V.str (dec b)] false) (mk:=fun b=>.slice (some (b,0)) 2 (.fix 2)) rfl rfl ?_
 refine Ops.strA (h0:=h1) (l:=[jcg,dec n]) (new:=[jcQ,dec b]) rfl rfl o1.new (s9.keep (zp _) (Zn h).new) om (jac _) Zd rfl Zd (fun _ _=>rfl) fun v4 h4 s4 o4 _ _=>?_
 have g4:h4.get t.wb=some (.cells (t.x.cells t.r0 t.r1 t.wv) false):=by rw [o4.2 _ lx,g1]
 clear g
 refine qx ?_
 refine Zl (fun m e g=>∃ (i:Nat) (v5:V),m=t.x.waiting.length-i/\i<=t.x.waiting.length/\e=[(0,.p w 0),(3,v),(8,.p t.wb 0),(9,v5),(65,t1),(66,t2),(67,t3),(91,.slice a t.x.waiting.length c),(92,.i (t.x.waiting.length:Int)),(93,.i (i:Int))]/\SR h1.nx g v5 ([jcg,dec n]++[jcQ,dec b]++(t.x.waiting.take i).map fun m=>dec m.toNat)/\Old h1 g)
  (k:=t.x.waiting.length) Ze ⟨0,v4,rfl,by omega,rfl,by simpa using s4,o4⟩ ?_
 rintro _ _ g ⟨i,v5,rfl,hi,rfl,s5,o5⟩ f ih
 by_cases hlt:(i:Int)<t.x.waiting.length
 case neg=>
  obtain rfl:i=t.x.waiting.length:=by omega
  have hlen:=hlen t.x.waiting.length
  rw [List.take_length] at s5 hlen
  clear ih hin
  refine qx ?_
  rw [hC]
  refine jly hcl hd o sr hl o5 s5 Zd Zc ?_ (by rw [o5.2 _ lx,g1])
  rw [show ([jcg,dec n]++[jcQ,dec b]++t.x.waiting.map fun m=>dec m.toNat)=jcg :: ([dec n,jcQ,dec b]++t.x.waiting.map fun m=>dec m.toNat) from rfl,jb4,jc0]
  simp [jce] at hlen ⊢;omega
 obtain ⟨m,hm⟩ : ∃ m,t.x.waiting[i]?=some m:=⟨_,za om⟩
 obtain ⟨m0,m1⟩:=wt.2 m (zc hm)
 obtain ⟨u,rfl⟩ : ∃ u:Nat,m=(u:Int):=⟨m.toNat,by omega⟩
 obtain ⟨zb,zo,cs,ro,rfl,z1,z2,z3⟩:=hin (by rintro e;rw [e] at hm;simp at hm)
 have gz:g.get zb=some (.cells cs ro):=by rw [o5.2 zb z1,z2]
 have hz:cs[zo+(i:Int).toNat*1]?=some (.i (u:Int)):=by
  rw [show zo+(i:Int).toNat*1=zo+i by omega];exact z3 i _ hm
 have eU:=jbW hcl (d:=d) (u:=u) hd om (P.old o5)
 have hi1:(i:Int)+1=((i+1:Nat):Int):=by omega
 have hwl:=wt.1
 clear hin z3 hlen
 refine qx ?_
 refine Ops.strP (h0:=h1) (t:=dec u) rfl rfl o5 s5 Zc fun v6 h6 s6 o6 _ _=>?_
 refine qx ?_
 rw [hi1]
 refine ih (t.x.waiting.length-(i+1)) om _ _ ⟨i+1,v6,rfl,by omega,rfl,?_,o6⟩
 rw [List.take_add_one,hm]
 simpa using s6
theorem iw_ends {d:Nat} {sb:Env} {ow:Nat->Nat} (hd:9<=d) (P:Pw h1) (X:XOk h1 ow n t) (wi:WiOk t.x) (hb : ¬ 0<t.x.backlog) (o:Old h0 h1) (sr:SR h0.nx h1 v L) (hl:L.length<=5000) (o1:Old h1 h) (s9:SR h1.nx h v9 [jcg,dec n]) (hn:n<=100000) :
  Run (cl d) fuel c13_10 [.seq c13_11] ((0,.p w 0) :: (3,v) :: (8,.p t.wb 0) :: (9,v9) :: (65,t1) :: (66,t2) :: (67,t3) :: sb) h (WM h0 w t1 t2 t3 (L++[jjb n t.x])):=by
 have lx:=X.lx
 have g1:h1.get t.wb=some (.cells (t.x.cells t.r0 t.r1 t.wv) false):=X.hx
 have G : ∀ h',Old h1 h'->h'.get t.wb=some (.cells (t.x.cells t.r0 t.r1 t.wv) false):=fun h' o'=>by rw [o'.2 _ lx,g1]
 have R : ∀ k,k=0\/k=1 -> ∀ h',Old h1 h' -> ∀ q,(t.x.e k).ring=some q->jaw h' (t.r k) (t.b k) q t.x.cap/\t.r k<h'.nx/\t.b k<h'.nx:=fun k hk h' o' q hq=>by
  obtain ⟨p1,p2,p3,p4,p5⟩:=X.ring k hk q hq
  have:=o'.1
  exact ⟨p1.keep (o'.2 _ p4) (o'.2 _ p5),by omega,by omega⟩
 have c1:=wi.cap1
 have l0 : ∀ q,t.x.e0.ring=some q->q.length<=t.x.cap:=wi.len 0 (.inl rfl)
 have l1 : ∀ q,t.x.e1.ring=some q->q.length<=t.x.cap:=wi.len 1 (.inr rfl)
 have W0:=jht (w:=t.x.e0.what) (s:=t.x.e0.shut) l0 c1
 have W1:=jht (w:=t.x.e1.what) (s:=t.x.e1.shut) l1 c1
 have dn:=jcp (u:=n) om
 have hline:jjb n t.x=Lib.join (([jcg,dec n]++jbv t.x.e0.what t.x.e0.shut t.x.e0.ring t.x.cap++jbv t.x.e1.what t.x.e1.shut t.x.e1.ring t.x.cap)++if t.x.reset then [jff] else []) [32]:=by
  rw [show (([jcg,dec n]++jbv t.x.e0.what t.x.e0.shut t.x.e0.ring t.x.cap++jbv t.x.e1.what t.x.e1.shut t.x.e1.ring t.x.cap)++if t.x.reset then [jff] else [])=jcg :: dec n :: jkL t.x by unfold jkL;rw [zz hb];simp,jb4];rfl
 rw [hline]
 have wl : ∀ w s r c,(jbv w s r c).length<=3:=fun w s r c=>by unfold jbv;cases s<;>simp
 obtain ⟨vA,hA,eA,sA,oA⟩:=jjy hcl (d:=d) (r:=t.r0) (b:=t.b0) (cap:=t.x.cap) (e:=t.x.e0) (h:=h) hd (P.old o1) wi.wh.1 (R 0 (.inl rfl) h o1)
 have len0:=wl t.x.e0.what t.x.e0.shut t.x.e0.ring t.x.cap
 have len1:=wl t.x.e1.what t.x.e1.shut t.x.e1.ring t.x.cap
 have g:=G h o1
 have gA:=G hA (o1.trans oA)
 have hsz:(t.x.cells t.r0 t.r1 t.wv).length=17:=rfl
 have k1 : ∀ h',Old h1 h'->h'.get t.wb=some (.cells (t.x.cells t.r0 t.r1 t.wv) false):=G
 obtain ⟨C,hC⟩ : ∃ C,C=c13_11:=⟨_,rfl⟩
 rw [<- hC]
 refine qx ?_
 refine zcw rfl g (by rw [hsz];decide) ?_
 refine qx ?_
 refine zcw rfl g (by rw [hsz];decide) ?_
 refine Zm rfl eA (jfE rfl gA (by rw [hsz];decide) rfl rfl jba) ?_
 refine Ops.strS (h0:=h1) (l:=[jcg,dec n]) rfl rfl (o1.trans oA) (s9.keep (zp _) oA) sA jhu Zc (fun h' o'=>jfE rfl (k1 h' o') (by rw [hsz];decide) rfl rfl jba) fun vB hB sB oB _ _=>?_
 obtain ⟨vC,hC',eC,sC,oC⟩:=jjy hcl (d:=d) (r:=t.r1) (b:=t.b1) (cap:=t.x.cap) (e:=t.x.e1) (h:=hB) hd (P.old oB) wi.wh.2 (R 1 (.inr rfl) hB oB)
 refine zaw rfl eC ?_
 refine Ops.strS (h0:=h1) rfl rfl (oB.trans oC) (sB.keep (zp _) oC) sC jhu Zc (fun _ _=>rfl) fun vD hD sD oD _ _=>?_
 refine qx ?_
 rw [hC]
 refine jly hcl om o sr hl oD sD Zd Zc ?_ (G hD oD)
 rw [show [jcg,dec n]++jbv t.x.e0.what t.x.e0.shut t.x.e0.ring t.x.cap++jbv t.x.e1.what t.x.e1.shut t.x.e1.ring t.x.cap=jcg :: ([dec n]++jbv t.x.e0.what t.x.e0.shut t.x.e0.ring t.x.cap++jbv t.x.e1.what t.x.e1.shut t.x.e1.ring t.x.cap) from rfl,jb4,jc0,jc0,jgs]
 simp only [zf,List.length_cons,List.length_nil] at W0 W1 ⊢;omega
theorem iw_12 {d:Nat} {sb:Env} {ow:Nat->Nat} (hd:9<=d) (P:Pw h1) (X:XOk h1 ow n t) (wi:WiOk t.x) (wt:t.x.waiting.length<=64 /\ ∀ m∈t.x.waiting,0<=m/\m<=1000) (o:Old h0 h1) (sr:SR h0.nx h1 v L) (hl:L.length<=5000) (o1:Old h1 h) (s9:SR h1.nx h v9 [jcg,dec n]) (hn:n<=100000) :
  Run (cl d) fuel c13_12 [] ((0,.p w 0) :: (3,v) :: (8,.p t.wb 0) :: (9,v9) :: (65,t1) :: (66,t2) :: (67,t3) :: sb) h (WM h0 w t1 t2 t3 (L++[jjb n t.x])):=by
 have q15:(t.x.cells t.r0 t.r1 t.wv)[0+15]?=some (.i t.x.backlog):=rfl
 have g:h.get t.wb=some (.cells (t.x.cells t.r0 t.r1 t.wv) false):=by rw [o1.2 _ X.lx];exact X.hx
 obtain ⟨C9,hC9⟩ : ∃ C,C=c13_9:=⟨_,rfl⟩
 obtain ⟨C10,hC10⟩ : ∃ C,C=c13_10:=⟨_,rfl⟩
 obtain ⟨C11,hC11⟩ : ∃ C,C=c13_11:=⟨_,rfl⟩
 simp only [c13_12,<- hC9,<- hC10,<- hC11,yD]
 by_cases hb:0<t.x.backlog
 ·have hb':t.x.backlog>0:=hb
  have T:=fun sb=>iw_listen (sb:=sb) hcl (d:=d) (w:=w) (t1:=t1) (t2:=t2) (t3:=t3) om P X wi hb wt o sr hl o1 s9 hn
  rw [<- hC9,<- hC11] at T
  clear wi wt X
  refine qx ?_
  exact T _
 ·have hb' : ¬ t.x.backlog>0:=hb
  have T:=fun sb=>iw_ends (sb:=sb) hcl (d:=d) (w:=w) (t1:=t1) (t2:=t2) (t3:=t3) hd P X wi hb o sr hl o1 s9 hn
  rw [<- hC10,<- hC11] at T
  clear wi wt X
  refine qx ?_
  exact T _
end
theorem plc_one {p:Option (Nat × Nat)} : (plc p).all V.one=true:=by cases p<;>rfl
section
variable {cl:Nat->Call} (hcl:Sem cl) {h h0:H} {w s:Nat} {ow:Nat->Nat} {l:List WX} {now:Int} {tb:Tb} {no:Option (Nat × Nat)} {v:V} {L:List (List UInt8)}
include hcl
theorem iw_wireB {d n z:Nat} {sb:Env} {cp:Cap} (hd:9<=d) (P:Pw h) (a:WF h w s ow (fun i=>atS (wxs l) (i:Int)) l now tb no) (ok:WsOk (wxs l)) {t:WX} (ht:l[n]?=some t) (hz:h.get z=some (.cells (wps l) false)) (o:Old h0 h) (sr:SR h0.nx h v L) (hl:L.length<=5000) :
  Run (cl d) fuel (.block 3 c13_13) [] ((0,.p w 0) :: (3,v) :: (65,.slice (some (z,0)) l.length cp) :: (66,.i (l.length:Int)) :: (67,.i (n:Int)) :: sb) h (WM h0 w (.slice (some (z,0)) l.length cp) (.i (l.length:Int)) (.i (n:Int)) (L++[jjb n t.x])):=by
 have X:=a.ok n t ht
 have hn:=x_lt ht
 have hl2:=ok.len
 rw [List.length_map] at hl2
 have hx:=jaq ht
 have wi:=ok.ok _ (zc hx)
 have wt:t.x.waiting.length<=64 /\ ∀ m∈t.x.waiting,0<=m/\m<=1000:=by
  have hx:=zc hx
  refine ⟨(ok.wait _ hx).1,fun m hm=>?_⟩
  obtain ⟨y,y0,y1,_⟩:=(ok.wait _ hx).2 m hm
  have:=w_lt y1
  rw [List.length_map] at this
  omega
 have w2:(wps l)[0+(n:Int).toNat*1]?=some (.p t.wb 0):=by rw [show 0+(n:Int).toNat*1=n by omega];exact jc5 ht
 have eI:=jbW hcl (d:=d) (u:=n) om om P
 obtain ⟨C,hC⟩ : ∃ C,C=c13_12:=⟨_,rfl⟩
 simp only [c13_13,<- hC,yH]
 have lx:=X.lx
 clear ok
 refine qx ?_
 refine zcu (ob := .cells [V.str jcg,V.str (dec n)] false) (mk:=fun b=>.slice (some (b,0)) 2 (.fix 2)) rfl rfl ?_
 have o1:Old h (h.new (.cells [V.str jcg,V.str (dec n)] false)):=(Zn h).new
 have s9:SR h.nx (h.new (.cells [V.str jcg,V.str (dec n)] false)) (.slice (some (h.nx,0)) 2 (.fix 2)) [jcg,dec n]:=⟨h.nx,_,by omega,by simp,rfl,.inr rfl,jac _⟩
 generalize h.new (.cells [V.str jcg,V.str (dec n)] false)=h1 at o1 s9 ⊢
 generalize V.slice (some (h.nx,0)) 2 (.fix 2)=v9 at s9 ⊢
 have T:=fun sb=>iw_12 (sb:=sb) hcl (d:=d) (w:=w) (t1 := .slice (some (z,0)) l.length cp) (t2 := .i (l.length:Int)) (t3 := .i (n:Int)) hd P X wi wt o sr hl o1 s9 om
 rw [<- hC] at T
 clear wi wt X a
 refine qx ?_
 refine Run.cut _ (T _) ?_
 rintro _ _ h' ⟨rfl,v',rfl,s',o'⟩
 refine qx ?_
 exact End.nil ⟨rfl,v',rfl,s',o'⟩
theorem jjr {d:Nat} {ws:Ws} (hd:10<=d) (P:Pw h) (a:WSt h w s ow ws now tb no) (ok:WsOk ws) (hn:0<=now/\now<=18446744073709551615) (hc:tb.ok 1000000) (nt:NtOk ws (noI no) (siI no)) :
  ∃ v h',cl d (.fn 13) [.p w 0] h=some (v,h')/\SR h.nx h' v (jl1 ws now tb.hd tb.pd no)/\Old h h':=by
 obtain ⟨l,⟨a,fds⟩,rfl⟩:=a
 obtain ⟨u,rfl⟩ : ∃ u:Nat,now=(u:Int):=⟨now.toNat,by omega⟩
 obtain ⟨sa,c,hw,hsl⟩:=a.head
 have hnone:=jbU hcl (d:=d-1) om a
 have lw:=a.lw
 have hl2:=ok.len
 rw [List.length_map] at hl2
 have q1:(wc (fun i=>atS (wxs l) (i:Int)) (.slice sa l.length c) s u no)[0+290]?=some (.int .u64 (u:Int)):=jkN rfl
 have q0:(wc (fun i=>atS (wxs l) (i:Int)) (.slice sa l.length c) s u no)[0+288]?=some (.slice sa l.length c):=jaO rfl
 have hwl:=jbV (f:=fun i=>atS (wxs l) (i:Int)) (wv := .slice sa l.length c) (s:=s) (now:=u) (no:=no)
 have htab:=jkM (f:=fun i=>atS (wxs l) (i:Int)) (wv := .slice sa l.length c) (s:=s) (now:=u) (no:=no)
 have e1:=w_FmtU hcl (d:=d-1) (u:=u) om om P
 have d1:=jcp (u:=u) om
 generalize wc (fun i=>atS (wxs l) (i:Int)) (.slice sa l.length c) s u no=cs at hw q1 q0 hwl htab
 refine aT hcl ?_
 obtain ⟨C2,hC2⟩ : ∃ C,C=c13_2:=⟨_,rfl⟩
 obtain ⟨C4,hC4⟩ : ∃ C,C=c13_4:=⟨_,rfl⟩
 obtain ⟨C13,hC13⟩ : ∃ C,C=c13_13:=⟨_,rfl⟩
 obtain ⟨C17,hC17⟩ : ∃ C,C=c13_17:=⟨_,rfl⟩
 simp only [c13,c13_21,c13_20,c13_19,c13_18,c13_14,c13_3,<- hC2,<- hC4,<- hC13,<- hC17,yB,yC,yD,yF,yH]
 refine qx ?_
 refine Zo rfl rfl Zc ?_
 refine zcu (ob := .cells [V.str (tNow++dec u)] false) (mk:=fun b=>.slice (some (b,0)) 1 (.fix 1)) rfl rfl ?_
 have o2:Old h (h.new (.cells [V.str (tNow++dec u)] false)):=(Zn h).new
 have s2:SR h.nx (h.new (.cells [V.str (tNow++dec u)] false)) (.slice (some (h.nx,0)) 1 (.fix 1)) ([tNow++dec u]++jdO (wxs l) 0):=⟨h.nx,_,by omega,by simp,rfl,.inr rfl,jac _⟩
 generalize h.new (.cells [V.str (tNow++dec u)] false)=h2 at o2 s2 ⊢
 generalize V.slice (some (h.nx,0)) 1 (.fix 1)=v2 at s2 ⊢
 have hw2:h2.get w=some (.cells cs false):=by rw [o2.2 _ lw,hw]
 clear e1 hnone
 refine qx ?_
 refine zcw rfl hw2 (by rw [hwl];decide) ?_
 rw [show 0+0=0 from rfl,htab]
 refine qx ?_
 refine Zl (fun m e g=>∃ (i:Nat) (v:V),m=96-i/\i<=96/\e=[(0,.p w 0),(3,v),(25,.agg (jcz fun i=>atS (wxs l) (i:Int))),(26,.i (i:Int))]/\SR h.nx g v ([tNow++dec u]++jdO (wxs l) i)/\Old h g)
  (k:=96) Ze ⟨0,v2,rfl,by omega,rfl,s2,o2⟩ ?_
 clear o2 s2 hw2
 rintro _ _ g ⟨i,v,rfl,hi,rfl,sr,o⟩ f ih
 have L1:=jeq (wxs l) i
 by_cases hlt:i<96
 case pos=>
  have hi1:(i:Int)+1=((i+1:Nat):Int):=by omega
  have aG:=a.old o
  have PG:=P.old o
  clear hsl fds hc nt
  refine qx ?_
  refine Ops.ixAn (m:=3) rfl rfl hlt (by rw [jax];omega) (jgo hlt) ?_
  refine zcu (ob := .cells [.bool false,.i 0,.i 0] false) (mk:=fun b=>.p b 0) rfl rfl ?_
  have o3:Old g ((g.new (.cells [.bool false,.i 0,.i 0] false)).set g.nx (.cells (plc (atS (wxs l) (i:Int))) false)):=(Zn g).new.set (zp _)
  have T:=iw_fd hcl (d:=d-1) (t := .agg (jcz fun i=>atS (wxs l) (i:Int))) om (PG.old o3) (aG.old o3) ok.uniq hl2 hlt (jab _) Zd (o.trans o3) (sr.keep (zp _) o3) Zc
  rw [<- hC17] at T
  refine qx ?_
  refine zct rfl rfl rfl plc_one (jac _) (by decide) ?_
  rw [show jay [V.bool false,.i 0,.i 0] 0 (plc (atS (wxs l) (i:Int)))=plc (atS (wxs l) (i:Int)) from rfl]
  refine qx ?_
  refine Run.cut _ T ?_
  rintro _ _ h' ⟨rfl,v',rfl | rfl,s',o'⟩
  all_goals
   repeat' (first|refine qxy ?_|(refine zsp ?_ ?_<;>intro _)|fail)
   rw [hi1]
   exact ih (96-(i+1)) om _ _ ⟨i+1,v',rfl,by omega,rfl,by rw [jdO,<- List.append_assoc];exact s',o'⟩
 obtain rfl:i=96:=by omega
 have hlt' : ¬ ((96:Nat):Int)<96:=by omega
 clear ih
 have gw:g.get w=some (.cells cs false):=by rw [o.2 w lw,hw]
 refine qx ?_
 refine Zl (fun m e g=>∃ (i:Nat) (v:V),m=l.length-i/\i<=l.length/\e=[(0,.p w 0),(3,v),(65,.slice sa l.length c),(66,.i (l.length:Int)),(67,.i (i:Int))]/\SR h.nx g v ([tNow++dec u]++jdO (wxs l) 96++jin (wxs l) i)/\Old h g)
  (k:=l.length) Ze ⟨0,v,rfl,by omega,rfl,by simpa [jin] using sr,o⟩ ?_
 clear o sr v g gw
 rintro _ _ g ⟨i,v,rfl,hi,rfl,sr,o⟩ f ih
 have L2:=jf7 (wxs l) i
 by_cases hlt:i<l.length
 case pos=>
  have hlt':(i:Int)<(l.length:Int):=by omega
  have hi1:(i:Int)+1=((i+1:Nat):Int):=by omega
  obtain ⟨t,ht⟩ : ∃ t,l[i]?=some t:=⟨_,za hlt⟩
  obtain ⟨z,rfl,z1,z2,z3⟩:=hsl (by rintro rfl;simp at hlt)
  have T:=fun sb=>iw_wireB (sb:=sb) hcl (d:=d-1) (cp:=c) om (P.old o) (a.old o) ok ht (by rw [o.2 z z1,z3]) o sr (by simp at L1 L2 ⊢;omega)
  rw [<- hC13] at T
  clear hsl fds hc nt
  refine Gb ?_
  refine Run.cut _ (T _) ?_
  rintro _ _ h' ⟨rfl,v',rfl,s',o'⟩
  refine qx ?_
  rw [hi1]
  refine ih (l.length-(i+1)) om _ _ ⟨i+1,v',rfl,by omega,rfl,?_,o'⟩
  rw [jin,jaq ht,<- List.append_assoc];exact s'
 obtain rfl:i=l.length:=by omega
 have hlt' : ¬ (l.length:Int)<(l.length:Int):=by omega
 clear ih
 refine qx ?_
 refine Zl (fun m e g=>∃ (i:Nat) (v:V),m=31-i/\i<=31/\e=[(0,.p w 0),(3,v),(12,.i ((i+1:Nat):Int))]/\SR h.nx g v ([tNow++dec u]++jdO (wxs l) 96++jin (wxs l) l.length++jd1 tb.hd tb.pd i)/\Old h g)
  (k:=31) Ze ⟨0,v,rfl,by omega,rfl,by simpa [jd1] using sr,o⟩ ?_
 clear o sr v g
 rintro _ _ g ⟨i,v,rfl,hi,rfl,sr,o⟩ f ih
 have L3:=jd0 tb.hd tb.pd i
 by_cases hlt:i<31
 case pos=>
  have hlt':((i+1:Nat):Int)<=31:=by omega
  have hi1:((i+1:Nat):Int)+1=((i+1+1:Nat):Int):=by omega
  have T:=fun sb=>iw_sig (sb:=sb) hcl (d:=d-1) (sg:=i+1) om (P.old o) (a.old o) om om hc o sr (by simp at L1 L2 L3 ⊢;omega)
  rw [<- hC2] at T
  clear hsl fds hc nt
  refine Gb ?_
  refine Run.cut _ (T _) ?_
  rintro _ _ h' ⟨rfl,v',sb',rfl,s',o'⟩
  refine qx ?_
  rw [hi1]
  exact ih (31-(i+1)) om _ _ ⟨i+1,v',rfl,by omega,rfl,by rw [jd1,<- List.append_assoc];exact s',o'⟩
 obtain rfl:i=31:=by omega
 have hlt' : ¬ ((31+1:Nat):Int)<=31:=by omega
 clear ih hsl hc
 refine qx ?_
 rw [hC4]
 refine Run.fin_mono (iw_end hcl (d:=d-1) om (P.old o) (a.old o) nt hl2 o sr (by simp at L1 L2 L3 ⊢;omega)) fun x h' ⟨s',o'⟩=>⟨?_,o'⟩
 unfold jl1
 rw [List.length_map];exact s'
end
section
variable {cl:Nat->Call} (hcl:Sem cl)
include hcl
end
section
variable {cl:Nat->Call} (hcl:Sem cl)
include hcl
end
section
variable {cl:Nat->Call} (hcl:Sem cl)
include hcl
end
theorem strs_get {l:List (List UInt8)} {i o:Nat} (h:i<l.length) (ho:o=i) : ∃ s,(strs l)[o]?=some (.str s):=by
 subst ho
 exact ⟨l[o],by simp [h]⟩
section
variable {call:Call} {fuel base:Nat} {K:List Fr} {e:Env} {h:H} {Q:Post} {ix:Nat} {dst at_:Option Nat} {ops:List Ins} {keep:List Nat}
end
section
variable {cl:Nat->Call} (hcl:Sem cl) {h h0:H} {p w s rw:Nat} {ow:Nat->Nat} {ro dat:Nat->Prop} {st:St} {ws:Ws} {now:Int} {tb:Tb} {no:Option (Nat × Nat)}
include hcl
theorem sm_ok {d N M:Nat} {u v:V} {L:List (List UInt8)} (hd:1<=d) (a:SR N h u L) (b:SR M h v L) (hl:L.length<=50000) :
  ∃ h',cl d (.fn 12) [u,v] h=some (.bool true,h')/\h'=h:=by
 obtain ⟨q,c,_,_,rfl,_,hq⟩:=a
 obtain ⟨q',c',_,_,rfl,_,hq'⟩:=b
 refine jak (aT hcl ?_)
 refine qx ?_
 refine Zl (fun m e g=>∃ i:Nat,m=L.length-i/\i<=L.length/\e=[(0,.slice (some (q,0)) L.length c),(1,.slice (some (q',0)) L.length c'),(5,.i (i:Int))]/\g=h)
  (k:=L.length) Ze ⟨0,rfl,by omega,rfl,rfl⟩ ?_
 rintro _ _ _ ⟨i,rfl,hi,rfl,rfl⟩ f ih
 by_cases hlt:(i:Int)<(L.length:Int)
 case neg=>
  clear ih
  refine qx ?_
  exact ⟨rfl,rfl⟩
 obtain ⟨t,ht⟩:=strs_get (l:=L) (i:=i) (o:=0+(i:Int).toNat*1) om om
 have hi1:(i:Int)+1=((i+1:Nat):Int):=by omega
 repeat' (first|refine qxy ?_|(refine zsp ?_ ?_<;>intro _)|fail)
 ·next x=>simp at x
 rw [hi1]
 exact ih (L.length-(i+1)) om _ _ ⟨i+1,rfl,by omega,rfl,rfl⟩
theorem jkI {d:Nat} (hd:2<=d) (a:WSt h w s ow ws now tb no):cl d (.fn 10) [.p w 0] h=some (.int .u64 now,h):=by
 obtain ⟨l,a,rfl⟩:=a
 obtain ⟨sa,c,hw,_⟩:=a.wf.head
 have hno:=jbU hcl (d:=d-1) om a.wf
 have q1:(wc (fun i=>atS (wxs l) (i:Int)) (.slice sa l.length c) s now no)[0+290]?=some (.int .u64 now):=jkN rfl
 refine jao (aT hcl ?_)
 refine qx ?_
 exact ⟨rfl,rfl⟩
omit hcl in
end
structure WO (h:H) (w s:Nat) (ow:Nat->Nat) (a:St):Prop where
 W:WSt h w s ow a.ws a.now a.tb a.no
theorem WO.keep {h h':H} {w s:Nat} {ow:Nat->Nat} {a:St} (x:WO h w s ow a) (hx:h.nx<=h'.nx) (hk : ∀ j,j<h.nx->ow j≠0->h'.get j=h.get j):WO h' w s ow a :=
 ⟨x.W.keep hx fun j hj=>hk j (x.W.lt_of hj) hj⟩
theorem Pw.keepT {h h':H} (p:Pw h) (hx:h.nx<=h'.nx) (hk:h'.get 1=h.get 1):Pw h':=by
 obtain ⟨h0,l,r,h1,h2⟩:=p
 exact ⟨zq h0 hx,l,r,by rw [hk,h1],h2⟩
section
variable {cl:Nat->Call} (hcl:Sem cl) {d:Nat} {h:H} {w s i n0 n1 sb m:Nat} {ow:Nat->Nat} {a:St} {bs:Option Nat} {L:List SpX} {o:List Int} {wt:Int} {pr:Nat->Prop} {J:H->Prop}
include hcl
theorem jkT {N:Nat} (hd:17<=d) (W:WO h w s ow a) (so:StOk a i) (A:SF n0 n1 sb bs L o h) (hn1:n1<=h.nx) (hJ : ∀ h',h.nx<=h'.nx->(∀ j,j<h.nx->pr j->h'.get j=h.get j)->J h') (sep : ∀ j,pr j->ow j=0) (plt : ∀ j,pr j->j<h.nx)
  (h1 : ∀ j,n0<=j->j<n1->ow j=0 /\ ¬ pr j) (hi:i+sumM L<=N) (hN:N<=900000) (hL:L.length<=2000) (w0:0<=wt) (w1:wt<=18446744073709551615) :
  ∃ v h' ow' L' i',cl d (.fn 9) [.p sb 0,.p w 0,.int .u64 wt,.bool false,.nilfn] h=some (v,h')/\v = .i (ja6 rd0 false (L.map SpX.sp) wt o a).1/\L'.map SpX.sp=(ja6 rd0 false (L.map SpX.sp) wt o a).2.1/\WO h' w s ow' (ja6 rd0 false (L.map SpX.sp) wt o a).2.2.2/\StOk (ja6 rd0 false (L.map SpX.sp) wt o a).2.2.2 i' /\
   SF n0 n1 sb bs L' (ja6 rd0 false (L.map SpX.sp) wt o a).2.2.1 h'/\J h'/\h.nx<=h'.nx/\(∀ j,j<h.nx->ow' j=ow j)/\i'+sumM L'<=N/\(∀ j,pr j->ow' j=0)/\(∀ j,pr j->h'.nx>j):=by
 obtain ⟨A1,A2,A3,A4⟩:=A
 have B:WB h w s ow pr J a:=⟨W.W,hJ,sep,plt⟩
 obtain ⟨v,h',e,ow',L',i',rfl,hsp,B',so',A',f,hi'⟩:=tm_Sleep hcl (d:=d) (fv:=false) hd B so (A4 ow pr fun z hz hz2=>h1 z hz hz2) hi hN hL w0 w1
 exact ⟨_,h',ow',L',i',e,rfl,hsp,⟨B'.W⟩,so',SF.of A' ⟨A2,A1⟩ A3,B'.J h' (zp _) (fun _ _ _=>rfl),f.ch.nx,f.tag,hi',B'.sep,B'.lt⟩
end
section
variable {cl:Nat->Call} (hcl:Sem cl) {d:Nat} {g:H} {w1 s1 w2 s2 i1 i2 n0 n1 n2 n3 sa sb:Nat} {ow1 ow2:Nat->Nat} {st:St} {ba bb:Option Nat} {L M:List SpX} {o o2:List Int}
include hcl
theorem jiL (hd:4<=d) (A:SF n0 n1 sa ba L o g) (hl:L.length<=2000) :
  ∃ v l' h',cl d (.fn 11) [.p sa 0] g=some (v,h')/\l'.map SpX.sp=L.map SpX.sp/\At4 h' (g.nx <= ·) SpX.V v l'/\(∀ x∈l',StepAt h' (fun z=>g.nx<=z/\V.at? v≠some z) (fun z=>g.nx<=z/\V.at? v≠some z) x)/\Old g h' :=
 tm_Left hcl hd (A.2.2.2 (fun _=>0) (fun _=>False) fun _ _ _=>⟨rfl,id⟩) hl
theorem mt_end {sbe:Env} (hd:12<=d) (P:Pw g) (W1:WO g w1 s1 ow1 st) (W2:WO g w2 s2 ow2 st) (so:StOk st i1) (hi:i1<=900000) (A:SF n0 n1 sa ba L o g) (B:SF n2 n3 sb bb M o2 g) (hsp:L.map SpX.sp=M.map SpX.sp) (hf : ∀ x∈L.map SpX.sp,x.few) (hl:L.length<=2000) :
  Run (cl d) fuel c3_0 [] ((7,.bool true) :: (8,.p sa 0) :: (10,.p sb 0) :: (12,.p w1 0) :: (13,.p w2 0) :: (18,.i 2) :: sbe) g (Fin c3.res fun v _=>v = .bool true):=by
 have hml:M.length=L.length:=by have:=congrArg List.length hsp;simpa using this.symm
 obtain ⟨v1,g1,e1,r1,o1⟩:=jjr hcl (d:=d) om P W1.W so.K.ok so.now (so.tb.mono om) so.nt
 obtain ⟨v2,g2,e2,r2,o2'⟩:=jjr hcl (d:=d) om (P.old o1) (W2.W.old o1) so.K.ok so.now (so.tb.mono om) so.nt
 have L1:=jeq st.ws 96
 have L2:=jf7 st.ws st.ws.length
 have L3:=jd0 st.tb.hd st.tb.pd 31
 have L4:(jl0 st.no).length<=1:=by cases st.no<;>simp [jl0]
 have L5:=so.K.ok.len
 obtain ⟨_,e3,rfl⟩:=sm_ok hcl (d:=d) om (r1.keep (zp _) o2') r2 (by unfold jl1;simp;omega)
 have o12:=o1.trans o2'
 obtain ⟨v4,l4,g4,e4,q4,a4,x4,o4⟩:=jiL hcl (d:=d) om (A.keep o12.1 fun j hj _ _=>o12.2 j hj) hl
 have o14:=o12.trans o4
 obtain ⟨v5,l5,g5,e5,q5,a5,x5,o5⟩:=jiL hcl (d:=d) om (B.keep o14.1 fun j hj _ _=>o14.2 j hj) om
 have h4:l4.length=L.length:=by have:=congrArg List.length q4;simpa using this
 obtain ⟨g6,e6,o6⟩:=rm_Same hcl (d:=d) om (a4.old o5) (fun x hx=>(x4 x hx).old o5) a5 x5 (by rw [q4,q5,hsp]) (by rw [q4];exact hf) om
 clear L1 L2 L3 L4 L5 P W1 W2 so A B r1 r2 a4 a5 x4 x5 hsp hf
 refine qx ?_
 rfl
end
section
variable {cl:Nat->Call} (hcl:Sem cl) {d:Nat} {g:H} {w1 s1 w2 s2 n0 n1 n2 sa sb:Nat} {ow1 ow2:Nat->Nat} {ba bb:Option Nat} {L M:List SpX} {a b:Int}
include hcl
theorem mt_code {g1 g2 g3:H} {r1 r2 m1 m2:Int} {adl:Option (Nat × Nat)} {ln:Nat} {cl2:Cap} {sbe:Env}
  (e1:cl d (.fn 9) [.p sa 0,.p w1 0,.int .u64 a,.bool false,.nilfn] g=some (.i r1,g1)) (eN1:cl d (.fn 10) [.p w1 0] g1=some (.int .u64 m1,g1))
  (e2:cl d (.fn 11) [.p sa 0] g1=some (.slice adl ln cl2,g2)) (e3:cl d (.fn 9) [.p sa 0,.p w1 0,.int .u64 b,.bool false,.nilfn] g2=some (.i r2,g3)) (eN2:cl d (.fn 10) [.p w1 0] g3=some (.int .u64 m2,g3))
  (R1:(r1=2/\m1=a)\/(r1=3/\0<=m1/\m1<=a)) (R2:(r2=2/\m2=m1+b)\/(r2=3/\m1<=m2/\m2<=m1+b)) (a0:0<=a) (a1:a<4611686018427387904) (b0:0<=b) (b1:b<4611686018427387904)
  (T0:r1=2->r2=2 -> ¬ (0:Int)<(ln:Int) -> ∀ sbx,Run (cl d) fuel c3_1 [] ((1,.int .u64 a) :: (2,.int .u64 b) :: (7,.bool true) :: (8,.p sa 0) :: (10,.p sb 0) :: (12,.p w1 0) :: (13,.p w2 0) :: sbx) g3 (Fin c3.res fun v _=>v = .bool true))
  (T1:(0:Int)<(ln:Int) -> ∃ b' o' cs rr t,adl=some (b',o')/\g3.get b'=some (.cells cs rr)/\cs[o'+(0:Int).toNat*4+0]?=some (.int .u64 t)/\(t≠0->r1=2->r2=2 -> ∀ sbx,Run (cl d) fuel c3_1 [] ((1,.int .u64 a) :: (2,.int .u64 b) :: (7,.bool true) :: (8,.p sa 0) :: (10,.p sb 0) :: (12,.p w1 0) :: (13,.p w2 0) :: sbx) g3 (Fin c3.res fun v _=>v = .bool true))) :
  Run (cl d) fuel c3_6 [] ((1,.int .u64 a) :: (2,.int .u64 b) :: (7,.bool true) :: (8,.p sa 0) :: (10,.p sb 0) :: (12,.p w1 0) :: (13,.p w2 0) :: sbe) g (Fin c3.res fun v _=>v = .bool true):=by
 obtain ⟨C1,hC1⟩ : ∃ C,C=c3_1:=⟨_,rfl⟩
 rw [<- hC1] at T0 T1
 simp only [c3_6,c3_5,c3_4,c3_3,c3_2,<- hC1,yB,yH]
 clear hC1
 rcases R1 with ⟨rfl,rfl⟩ | ⟨rfl,k1,k1'⟩
 ·rcases R2 with ⟨rfl,rfl⟩ | ⟨rfl,k2,k2'⟩
  ·by_cases h0:(0:Int)<(ln:Int)
   ·obtain ⟨b',o',cs,rr,t,rfl,q1,q2,T⟩:=T1 h0
    clear T0
    have hs:m1+b-m1=b:=by omega
    by_cases hz:t=0
    ·subst hz
     clear T
     refine qx ?_
     rfl
    ·have T:=T hz rfl rfl
     refine qx ?_
     exact T _
   ·have T:=T0 rfl rfl h0
    clear T1 T0
    refine qx ?_
    exact T _
  ·clear T0 T1
   refine qx ?_
   rfl
 ·rcases R2 with ⟨rfl,rfl⟩ | ⟨rfl,k2,k2'⟩
  all_goals
   clear T0 T1
   repeat' (first|refine qxy ?_|(refine zsp ?_ ?_<;>intro _)|fail)
   rfl
theorem mt_sleeps {sbe:Env} (hd:20<=d) (P:Pw g) (pb:1<n0) (W1:WO g w1 s1 ow1 stT) (W2:WO g w2 s2 ow2 stT) (A:SF n0 n1 sa ba L [] g) (B:SF n1 n2 sb bb M [] g) (h01:n0<=n1) (h12:n1<=n2) (hn:n2<=g.nx) (z1 : ∀ j,ow1 j≠0->n2<=j) (z2 : ∀ j,ow2 j≠0->n2<=j/\ow1 j=0)
  (hsp:L.map SpX.sp=M.map SpX.sp) (hf : ∀ x∈L.map SpX.sp,x.few) (hx0 : ∀ x∈L.map SpX.sp,0<=x.ticks) (hl:L.length<=2000) (hs:sumM L<=500) (a0:0<=a) (a1:a<4611686018427387904) (b0:0<=b) (b1:b<4611686018427387904) :
  Run (cl d) fuel c3_6 [] ((1,.int .u64 a) :: (2,.int .u64 b) :: (7,.bool true) :: (8,.p sa 0) :: (10,.p sb 0) :: (12,.p w1 0) :: (13,.p w2 0) :: sbe) g (Fin c3.res fun v _=>v = .bool true):=by
 have few2 : ∀ (x:Sp) (t:Int),x.few->Sp.few { x with ticks:=t } := fun x t h=>h
 have now0:stT.now=0:=rfl
 have now00:st0.now=0:=rfl
 let pr1:Nat->Prop:=fun j=>j<n0\/(n1<=j/\j<n2)\/ow2 j≠0
 let J1:H->Prop:=fun h=>Pw h/\SF n1 n2 sb bb M [] h/\WO h w2 s2 ow2 stT
 have Jk : ∀ (h h':H),J1 h->h.nx<=h'.nx->(∀ j,j<h.nx->pr1 j->h'.get j=h.get j)->J1 h':=fun h h' j hx hk=>
  ⟨j.1.keepT hx (hk _ j.1.1 (.inl pb)),j.2.1.keep hx fun z hz h1 h2=>hk z hz (.inr (.inl ⟨h1,h2⟩)),j.2.2.keep hx fun z hz h1=>hk z hz (.inr (.inr h1))⟩
 have sep1 : ∀ j,pr1 j->ow1 j=0:=fun j hj=>by
  rcases Nat.eq_zero_or_pos (ow1 j) with h | h
  ·exact h
  ·have q:=z1 j om
   rcases hj with hj | hj | hj
   ·omega
   ·omega
   ·exact (z2 j hj).2
 have plt1 : ∀ j,pr1 j->j<g.nx:=fun j hj=>by
  rcases hj with hj | hj | hj
  ·omega
  ·omega
  ·exact W2.W.lt_of hj
 have nA : ∀ j,n0<=j->j<n1->ow1 j=0 /\ ¬ pr1 j:=fun j k1 k2=>⟨by
  rcases Nat.eq_zero_or_pos (ow1 j) with h | h
  ·exact h
  ·have q:=z1 j om;omega,fun hj=>by
  rcases hj with hj | hj | hj
  ·omega
  ·omega
  ·have q:=(z2 j hj).1;omega⟩
 obtain ⟨v1,g1,owA,L1,i1,e1,rfl,q1,W1a,so1,A1,J1a,x1,t1,hi1,sepA,pltA⟩:=jkT hcl (N:=600) (d:=d) (wt:=a) (pr:=pr1) (J:=J1) om W1 jmc A om (fun h' hx hk=>Jk g h' ⟨P,B,W2⟩ hx hk) sep1 plt1 nA om om hl a0 om
 have R1:=jfj (o:=[]) (st:=stT) hx0 a0 om (by rw [now0];omega)
 have tk1:=jfZ (rd:=rd0) (fv:=false) (wt:=a) (o:=[]) (st:=stT) (P:=fun x:Sp=>x.few) (fun x t h=>h) hf
 have hx1 : ∀ x∈(ja6 rd0 false (L.map SpX.sp) a [] stT).2.1,0<=x.ticks:=fun x hx=>by
  rw [<- q1] at hx
  obtain ⟨y,hy,rfl⟩:=List.mem_map.1 hx
  obtain ⟨v,ov,k1,k2,k3,k4,k5⟩:=(A1.2.2.2 (fun _=>0) (fun _=>False) fun _ _ _=>⟨rfl,id⟩).ex
  exact (k4 y hy).t0
 generalize hR:ja6 rd0 false (L.map SpX.sp) a [] stT=R at *
 obtain ⟨r1,RL,ro1,rs1⟩:=R
 simp only at R1 tk1 hx1 q1 W1a so1 A1
 subst q1
 have hL1:L1.length<=2000:=by have:=tk1.2;simp at this;omega
 have eN1:=jkI hcl (d:=d) om W1a.W
 obtain ⟨v2,l2,g2,e2,q2,a2,x2',o2'⟩:=jiL hcl (d:=d) om A1 hL1
 let pr2:Nat->Prop:=fun j=>pr1 j\/(g1.nx<=j/\j<g2.nx)
 let LF:H->Prop:=fun h=>∀ x M',l2=x :: M' -> ∃ b o cs ro c,v2 = .slice (some (b,o)) l2.length c/\g1.nx<=b/\b<g2.nx/\h.get b=some (.cells cs ro)/\cs[o+(0:Int).toNat*4+0]?=some (.int .u64 x.t)
 have LF2:LF g2:=fun x M' hl2=>by
  obtain ⟨ad,c,rfl,_,_,gg⟩:=a2
  obtain ⟨bb',oo,cs,rr,rfl,lb,pb',gb,hc⟩:=gg (by rw [hl2];simp)
  have h4:(cs.drop (oo+(0:Int).toNat*4)).take 4=x.V:=by
   have:=hc 0 x (by rw [hl2];rfl)
   simpa using this
  exact ⟨bb',oo,cs,rr,c,rfl,pb',lb,gb,by rw [jgq h4 om];rfl⟩
 have y2:=o2'.1
 have sep2 : ∀ j,pr2 j->owA j=0:=fun j hj=>hj.elim (sepA j) fun hj=>W1a.W.top hj.1
 have plt2 : ∀ j,pr2 j->j<g2.nx:=fun j hj=>hj.elim (fun hj=>zq (pltA j hj) y2) fun hj=>hj.2
 have nA2 : ∀ j,n0<=j->j<n1->owA j=0 /\ ¬ pr2 j:=fun j k1 k2=>⟨by rw [t1 j om];exact (nA j k1 k2).1,fun hj=>hj.elim (nA j k1 k2).2 fun hj=>by omega⟩
 obtain ⟨v3,g3,owB,L2,i2,e3,rfl,q3,W1b,so2,A2,J2,x3,t3,hi2,sepB,pltB⟩:=jkT hcl (N:=600) (d:=d) (wt:=b) (pr:=pr2) (J:=fun h=>J1 h/\LF h) om (W1a.keep y2 fun j hj _=>o2'.2 j hj) so1 (A1.keep y2 fun j hj _ _=>o2'.2 j hj) om
  (fun h' hx hk=>⟨Jk g1 h' J1a om fun j hj hp=>by rw [hk j om (.inl hp),o2'.2 j hj],fun x M' hl2=>by
   obtain ⟨b',o',cs,rr,c,k1,k2,k3,k4,k5⟩:=LF2 x M' hl2
   exact ⟨b',o',cs,rr,c,k1,k2,k3,by rw [hk b' k3 (.inr ⟨k2,k3⟩),k4],k5⟩⟩) sep2 plt2 nA2 hi1 om hL1 b0 om
 have R2:=jfj (o:=ro1) (st:=rs1) (a:=b) hx1 b0 om om
 have tk2:=jfZ (rd:=rd0) (fv:=false) (wt:=b) (o:=ro1) (st:=rs1) (P:=fun x:Sp=>x.few) (fun x t h=>h) tk1.1
 generalize hS:ja6 rd0 false (L1.map SpX.sp) b ro1 rs1=S2 at *
 obtain ⟨r2,SL,so2',ss2⟩:=S2
 simp only at R2 tk2 q3 W1b so2 A2
 subst q3
 have eN2:=jkI hcl (d:=d) om W1b.W
 obtain ⟨⟨P3,B3,W23⟩,LF3⟩:=J2
 have nB : ∀ j,n1<=j->j<n2->ow2 j=0 /\ ¬ (j<n1\/owB j≠0):=fun j k1 k2=>⟨by
  rcases Nat.eq_zero_or_pos (ow2 j) with h | h
  ·exact h
  ·have q:=(z2 j om).1;omega,fun hj=>by
  rcases hj with hj | hj
  ·omega
  ·exact hj (by rw [t3 j om,t1 j om];exact sep1 j (.inr (.inl ⟨k1,k2⟩)))⟩
 obtain ⟨v4,g4,owC,M3,i3,e4,rfl,q4,W2c,so3,B4,J3,x4,t4,hi3,_,_⟩:=jkT hcl (N:=600) (d:=d) (wt:=a+b) (pr:=fun j=>j<n1\/owB j≠0) (J:=fun h=>Pw h/\SF n0 n1 sa ba L2 so2' h/\WO h w1 s1 owB ss2) om W23 jmc B3 om
  (fun h' hx hk=>⟨P3.keepT hx (hk _ P3.1 (.inl om)),A2.keep hx fun z hz _ k2=>hk z hz (.inl k2),W1b.keep hx fun z hz k1=>hk z hz (.inr k1)⟩)
  (fun j hj=>by
   rcases Nat.eq_zero_or_pos (ow2 j) with h | h
   ·exact h
   ·have q:=z2 j om
    rcases hj with hj | hj
    ·omega
    ·exact zI (sepB j (.inl (.inr (.inr om)))) hj)
  (fun j hj=>hj.elim (fun hj=>by omega) fun hj=>W1b.W.lt_of hj) nB (by rw [<- jiF hsp];omega) om (by have:=congrArg List.length hsp;simp at this;omega) om om
 have E:=fun (sbx:Env) (hr:r1=2) (hr2:r2=2) (hz : ∀ x M',L1=x :: M'->x.t≠0)=>by
  have h3:=jkc (l:=L.map SpX.sp) hx0 a0 b0 (by rw [now0];omega) (by rw [hR,hr]) (fun x M' e=>by
   cases L1 with
   | nil=>cases e
   | cons y M''=>cases e;exact hz y M'' rfl) (by rw [hS,hr2])
  rw [hsp] at h3
  rw [h3] at q4 W2c so3
  exact (⟨h3,mt_end hcl (d:=d) (sbe:=sbx) om J3.1 J3.2.2 W2c so3 om J3.2.1 B4 q4.symm tk2.1 (by have:=tk2.2;simp at this;omega)⟩:ja6 rd0 false (M.map SpX.sp) (a+b) [] stT=_/\_)
 obtain ⟨adl,cl2,rfl,_⟩:=id a2
 have hl2:l2.length=L1.length:=by have:=congrArg List.length q2;simpa using this
 have T:r1=2->r2=2->(∀ x M',L1=x :: M'->x.t≠0) -> ∀ sbx,Run (cl d) fuel c3_1 [] ((1,.int .u64 a) :: (2,.int .u64 b) :: (7,.bool true) :: (8,.p sa 0) :: (10,.p sb 0) :: (12,.p w1 0) :: (13,.p w2 0) :: sbx) g3 (Fin c3.res fun v _=>v = .bool true):=fun hr hr2 hz sbx=>by
  obtain ⟨h3,T⟩:=E [] hr hr2 hz
  rw [h3] at e4
  obtain ⟨C0,hC0⟩ : ∃ C,C=c3_0:=⟨_,rfl⟩
  rw [<- hC0] at T
  simp only [c3_1,<- hC0,yH]
  have y0:0<=a+b:=by omega
  have y1:a+b<9223372036854775808:=by omega
  clear_value pr1 J1 pr2 LF
  clear E R1 R2 e1 e2 e3 eN1 eN2 hR hS J1a J3 P3 B3 W23 W1a W1b W2c so1 so2 so3 A1 A2 B4 tk1 tk2 hx1 sepA sepB pltA pltB nA nA2 nB sep1 sep2 plt1 plt2 t1 t3 t4 LF2 LF3 P W1 W2 A B z1 z2 hf hx0 hsp q4
  refine qx ?_
  exact T
 refine mt_code hcl (sb:=sb) (w2:=w2) (r1:=r1) (r2:=r2) (m1:=rs1.now) (m2:=ss2.now) e1 eN1 e2 e3 eN2 ?_ R2 a0 a1 b0 b1 (fun hr hr2 h0 sbx=>T hr hr2 (fun x M' e=>?_) sbx) fun h0=>?_
 ·rcases R1 with ⟨k,k1⟩ | ⟨k,k1,k2⟩
  ·exact .inl ⟨k,by omega⟩
  ·exact .inr ⟨k,by omega,by omega⟩
 ·subst e
  simp only [List.length_cons] at hl2
  omega
 ·cases l2 with
  | nil=>simp at h0
  | cons y N'=>
   obtain ⟨b',o',cs,rr,c,k3,_,_,k4,k5⟩:=LF3 y N' rfl
   cases k3
   refine ⟨b',o',cs,rr,y.t,rfl,k4,k5,fun hz hr hr2 sbx=>T hr hr2 (fun x M' e=>?_) sbx⟩
   subst e
   have:y.t=x.t:=by
    have:=congrArg Sp.ticks (List.cons.inj q2).1
    simpa [SpX.sp] using this
   rw [<- this];exact hz
end
def SpsN (h:H) (v:V) (l:List SpX):Prop := ∃ ad c,v = .slice ad l.length c/\(l.length<=2000->(∀ x∈l,SpIn h x)/\At4 h (· < h.nx) SpX.V v l)
theorem spsN_of {h:H} {l:List (Int × Bool × List Int × List (Int × Int × Int × List Int × Unit) × Unit)} {u:V} (r:jbL 2000 jmu h l [u]) : ∃ L:List SpX,SpsN h u L/\jlG h u L:=by
 obtain ⟨ad,c,e,h1,h2,h3⟩:=r
 cases e
 by_cases hl:l.length<=2000
 ·by_cases hn:l=[]
  ·subst hn
   exact ⟨[],⟨ad,.fix c,rfl,fun _=>⟨fun x hx=>(by cases hx),ad,.fix c,rfl,fun e=>⟨by rw [(h3 e).1],rfl⟩,zW _,fun e=>zI rfl e⟩⟩,ad,.fix c,rfl,fun _=>⟨fun x hx=>(by cases hx),fun e=>zI rfl e⟩⟩
  ·obtain ⟨b,cs,rfl,q1,q2,q3⟩:=h1 hl hn
   obtain ⟨L,l1,rfl,l3⟩:=jkR q3
   exact ⟨L,⟨_,.fix c,by rw [l1],fun _=>⟨l3,_,.fix c,by rw [l1],fun e=>(by cases e),by show L.length<=c;omega,fun _=>⟨b,0,_,true,rfl,q1,q1,q2,fun i x hx=>by rw [zN];exact jbG (fun _=>rfl) hx⟩⟩⟩,
    _,.fix c,by rw [l1],fun _=>⟨fun x hx=>(l3 x hx).1,fun _=>⟨b,_,true,rfl,q1,q2,jdQ (fun _=>rfl) L,fun i x hx=>jbG (fun _=>rfl) hx⟩⟩⟩
 ·exact ⟨List.replicate l.length ⟨0,false,[],.nils,[],.nils⟩,⟨ad,.fix c,by simp,fun hl'=>zI (by simpa using hl') hl⟩,ad,.fix c,by simp,fun hl'=>zI (by simp at hl';omega) hl⟩
section
variable {h h':H}
theorem VI.keepK {v:V} {l:List Int} (a:VI h v l) (hx:h.nx<=h'.nx) (hk : ∀ j o,j<h.nx->h.get j=some o->h'.get j=some o):VI h' v l:=by
 obtain ⟨ad,c,e,n,f,g⟩:=a
 refine ⟨ad,c,e,n,f,fun hl=>?_⟩
 obtain ⟨b,o,cs,ro,q1,q2,q3,q4⟩:=g hl
 exact ⟨b,o,cs,ro,q1,zq q2 hx,hk _ _ q2 q3,q4⟩
theorem At4.keepK {α : Type} {f : α -> List V} {v:V} {l:List α} (a:At4 h (· < h.nx) f v l) (hx:h.nx<=h'.nx) (hk : ∀ j o,j<h.nx->h.get j=some o->h'.get j=some o):At4 h' (· < h'.nx) f v l:=by
 obtain ⟨ad,c,e,n,ft,g⟩:=a
 refine ⟨ad,c,e,n,ft,fun hl=>?_⟩
 obtain ⟨b,o,cs,ro,q1,q2,q3,q4,q5⟩:=g hl
 exact ⟨b,o,cs,ro,q1,zq q2 hx,zq q2 hx,hk _ _ q2 q4,q5⟩
theorem MvOk.keepK {x:MvX} (a:MvOk h x) (hx:h.nx<=h'.nx) (hk : ∀ j o,j<h.nx->h.get j=some o->h'.get j=some o):MvOk h' x:=by
 obtain ⟨z,c,e,g⟩:=a
 exact ⟨z,c,e,fun hl=>(g hl).keep hx hk⟩
theorem jlK.keepK {B:Nat} {v:V} {l:List MvX} (a:jlK B h v l) (hx:h.nx<=h'.nx) (hk : ∀ j o,j<h.nx->h.get j=some o->h'.get j=some o):jlK B h' v l:=by
 refine ⟨a.1,fun hl=>⟨fun x hm=>((a.2 hl).1 x hm).keepK hx hk,?_⟩⟩
 obtain ⟨ad,c,e,g⟩:=(a.2 hl).2
 refine ⟨ad,c,e,fun hn=>?_⟩
 obtain ⟨b,cs,ro,q1,q2,q3,q4⟩:=g hn
 exact ⟨b,cs,ro,q1,zq q2 hx,hk _ _ q2 q3,q4⟩
theorem SpOk.keepK {x:SpX} (a:SpOk h x) (hx:h.nx<=h'.nx) (hk : ∀ j o,j<h.nx->h.get j=some o->h'.get j=some o):SpOk h' x :=
 ⟨⟨a.ov.1,fun hl=>(a.ov.2 hl).keepK hx hk⟩,a.mv.keepK hx hk,a.t0,a.t1⟩
theorem SpIn.keepK {x:SpX} (a:SpIn h x) (hx:h.nx<=h'.nx) (hk : ∀ j o,j<h.nx->h.get j=some o->h'.get j=some o):SpIn h' x:=by
 refine ⟨a.1.keepK hx hk,fun h1 h2 h3=>?_⟩
 have s:=a.2 h1 h2 h3
 exact ⟨⟨s.ov.1.keepK hx hk,fun hn z hz=>zq (s.ov.2 hn z hz) hx⟩,s.mv.keepK hx hk,fun m hm=>by
  obtain ⟨ad,c,e,g⟩:=(s.dv m hm).1
  exact ⟨⟨ad,c,e,g.keep hx hk⟩,fun hn z hz=>zq ((s.dv m hm).2 hn z hz) hx⟩,s.t0,s.t1⟩
theorem SpsN.keepK {v:V} {l:List SpX} (a:SpsN h v l) (hx:h.nx<=h'.nx) (hk : ∀ j o,j<h.nx->h.get j=some o->h'.get j=some o):SpsN h' v l:=by
 obtain ⟨ad,c,e,g⟩:=a
 exact ⟨ad,c,e,fun hl=>⟨fun x hm=>((g hl).1 x hm).keepK hx hk,(g hl).2.keepK hx hk⟩⟩
theorem jlG.keepK {v:V} {l:List SpX} (a:jlG h v l) (hx:h.nx<=h'.nx) (hk : ∀ j o,j<h.nx->h.get j=some o->h'.get j=some o):jlG h' v l:=by
 obtain ⟨ad,c,e,g⟩:=a
 refine ⟨ad,c,e,fun hl=>⟨fun x hm=>((g hl).1 x hm).keepK hx hk,fun hn=>?_⟩⟩
 obtain ⟨b,cs,ro,q1,q2,q3,q4⟩:=(g hl).2 hn
 exact ⟨b,cs,ro,q1,zq q2 hx,hk _ _ q2 q3,q4⟩
end
theorem SpsN.at {h:H} {v:V} {l:List SpX} (a:SpsN h v l) (hl:l.length<=2000) (hm : ∀ x∈l,x.sp.may):jex h (· < h.nx) (· < h.nx) v l:=by
 obtain ⟨ad,c,e,g⟩:=a
 refine ⟨(g hl).2,fun x hx=>((g hl).1 x hx).2 ?_ ?_ fun m hmm=>?_⟩
 ·have:=(hm x hx).1;simp [SpX.sp] at this;omega
 ·have:=(hm x hx).2.1;simp [SpX.sp] at this;omega
 ·have:=(hm x hx).2.2.2 m.m (List.mem_map.2 ⟨m,hmm,rfl⟩)
  have:=this.2.2.2.2.1
  omega
section
variable {cl:Nat->Call} (hcl:Sem cl)
include hcl
end
def hG (n:Nat):H:=((⟨n,.lf⟩:H).set 0 (.cells jal true)).set 1 (.cells jaj true)
theorem alive12:ran (jaL prog fuel 30 (.fn 4) [] (hG 124006)) (fun v h'=>jlF 124044 v h'&&jcE (hG 124006) h' 2)=true:=by kernel_rfl
theorem jmo (n j:Nat):(hG n).get j=if j=1 then some (.cells jaj true) else if j=0 then some (.cells jal true) else none:=by
 unfold hG
 rw [H.get_set,H.get_set]
 rfl
theorem alive_in {cl:Nat->Call} (hcl:Sem cl) {h0:H} (hnx:h0.nx=124006) (hwf : ∀ b,124006<=b->h0.get b=none) (l1:h0.get 1=some (.cells jaj true)) (l0:h0.get 0=some (.cells jal true)) :
  ∃ h1,cl 30 (.fn 4) [] h0=some (.bool true,h1)/\h0.nx<=h1.nx /\ ∀ j o,j<h0.nx->h0.get j=some o->h1.get j=some o:=by
 obtain ⟨v1,e1,ra,pa⟩:=ran_ex alive12
 simp only [zn,jlF,Nat.beq_eq,zO] at pa
 obtain ⟨⟨p1,p2,p3⟩,pk⟩:=pa
 obtain rfl:=isTrue_eq p1
 have hX:Ext (fun j=>if j<2 then none else h0.get j) (hG 124006) h0:=by
  refine ⟨hnx,fun j=>?_,fun j hj=>?_⟩
  ·rw [jmo]
   by_cases h1:j=1
   ·subst h1;rw [l1];rfl
   ·by_cases h2:j=0
    ·subst h2;rw [l0];rfl
    ·rw [zz h1,zz h2]
     show h0.get j=(none:Option Obj).or _
     rw [zz om]
     rfl
  ·have hlt : ¬ j<2:=fun e=>hj (zC e)
   rw [zz hlt] at hj
   refine ⟨?_,by rw [jmo,zz om,zz om]⟩
   show j<124006
   rcases zu j 124006 with h | h
   ·exact h
   ·exact zI (hwf j h) hj
 obtain ⟨h1,qa,xa⟩:=same_in hcl ra hX
 refine ⟨h1,qa,by rw [xa.nx,p2,hnx];omega,fun j o _ hj=>?_⟩
 by_cases h2:j<2
 ·have hg:(hG 124006).get j=some o:=by
   have:=hX.get j
   rw [hj,zC h2] at this
   simpa using this.symm
  rw [xa.get,jeW pk j o h2 hg]
  rfl
 ·refine ext_kept xa ?_
  show (if j<2 then none else h0.get j)=some o
  rw [zz h2,hj]
end Am.Sigs
