/- Our own library, part 25: an abstract machine, sound for the model, and what the functions do over it. No condition. -/
import Derived.Test.YtkcenemffnfoeaaGreatDoorK23
import Derived.Test.YtkcenemffnfoeaaGreatDoorK24
set_option maxHeartbeats 8000000
set_option linter.all false
namespace Am.Sigs
open Am Go
section
variable {cl:Nat->Call} (hcl:Sem cl)
include hcl
omit hcl in
theorem jl2 {x:List (Int × Int)} {i:Nat} {q:Int × Int} (h:x[i]?=some q):(jaX x)[0+(i:Int).toNat*2+0]?=some (.i q.1)/\(jaX x)[0+(i:Int).toNat*2+1]?=some (.i q.2):=by
 have e:=jeq h
 refine ⟨?_,?_⟩
 ·have:(((jaX x).drop (i*2)).take 2)[0]?=some (.i q.1):=by rw [e];rfl
  rw [List.getElem?_take,if_pos om,List.getElem?_drop] at this
  rw [show 0+(i:Int).toNat*2+0=i*2+0 by omega];exact this
 ·have:(((jaX x).drop (i*2)).take 2)[1]?=some (.i q.2):=by rw [e];rfl
  rw [List.getElem?_take,if_pos om,List.getElem?_drop] at this
  rw [show 0+(i:Int).toNat*2+1=i*2+1 by omega];exact this
theorem jn8 {d i p w s rw n c bx qf qe:Nat} {cf ce ca cb:Cap} {aa ab:Option (Nat × Nat)} {ow:Nat->Nat} {ro dat:Nat->Prop} {rx:Bool} {st:St} {x:List (Int × Int)} {ys:List Int} {cnt f:Int} {hb:Bool} {ax af ae:Option (Nat × Nat)} {h h5:H} {sb:Env} (hd:20<=d) (hx:x.length<=120) (P:Pw h5) (b:BB h5 p w s rw ow ro dat st st) (so:StOk st i) (hi:i<=200)
  (hc0:0<=cnt/\cnt<=1000) (hfb:(f=0/\hb=decide (0<cnt))\/(f=2/\hb=true)) (hp:h.get p=some (.cells [.p w 0,.p rw 0] false)) (eH:cl d (.fn F.jgT) [.p w 0,.slice ax x.length (.fix c)] h=some (.bool hb,h5)) (hn:n<=x.length) (hy:ys.length=n)
  (hx1:n≠0->ax=some (bx,0)/\h5.get bx=some (.cells (jaX x) rx)) (hf1:n≠0->af=some (qf,0)/\h5.get qf=some (.cells (ints (x.map Prod.fst)) false)) (he1:n≠0->ae=some (qe,0)/\h5.get qe=some (.cells (ints (x.map Prod.snd)) false))
  (ha:n≠0 -> ∃ q,aa=some (q,0)/\h5.get q=some (.cells (ints ys) false)) (hb1:n≠0 -> ∃ q,ab=some (q,0)/\h5.get q=some (.cells (ints ys) false)) :
  Run (cl d) fuel c3_2 [] ((1,.slice ax x.length (.fix c)) :: (5,.p p 0) :: (8,.slice af x.length cf) :: (9,.slice ae x.length ce) :: (11,.slice aa n ca) :: (12,.i cnt) :: (13,.i f) :: (14,.slice ab n cb) :: (15,.i cnt) :: (16,.i f) :: sb) h (Fin c3.res fun v _=>v = .bool true):=by
 obtain ⟨h6,eA,_⟩:=al_ok hcl (d:=d) om P b so hi
 have n1 : ¬ (n:Int)≠(n:Int):=fun e=>e rfl
 have n2 : ¬ cnt≠cnt:=fun e=>e rfl
 have n3 : ¬ f≠f:=fun e=>e rfl
 obtain ⟨C,hC⟩ : ∃ C,C=c3_1:=⟨_,rfl⟩
 simp only [c3_2,<- hC]
 have loop:Run (cl d) fuel (.loop [1,5,8,9,11,14,17] C) [.block 2,.seq (.seq (.region 0 [.mk4 0 (some 138) (.mv (.t 5)) none,.mk4 1 (some 139) (.call 9 [(.t 138)]) none,.mk4 2 (some 4) (.mv (.t 139)) none] [4]) (.ret))] [(1,.slice ax x.length (.fix c)),(5,.p p 0),(8,.slice af x.length cf),(9,.slice ae x.length ce),(11,.slice aa n ca),(14,.slice ab n cb),(17,.i 0)] h5 (Fin c3.res fun v _=>v = .bool true):=by
  rw [hC]
  clear hfb eH hp so
  refine Run.loop (fun m e g=>∃ i:Nat,m=n-i/\i<=n/\e=[(1,.slice ax x.length (.fix c)),(5,.p p 0),(8,.slice af x.length cf),(9,.slice ae x.length ce),(11,.slice aa n ca),(14,.slice ab n cb),(17,.i (i:Int))]/\g=h5)
   (k:=n) (by show _<100000;omega) ⟨0,rfl,by omega,rfl,rfl⟩ ?_
  have hp:=b.hp
  rintro _ _ h5 ⟨i,rfl,hi,rfl,rfl⟩ f' ih
  by_cases hlt:(i:Int)<(n:Int)
  case neg=>
   clear ih hx1 hf1 he1 ha hb1
   refine qx1 ?_
   rfl
  obtain ⟨rfl,x1⟩:=hx1 om
  obtain ⟨rfl,f1⟩:=hf1 om
  obtain ⟨rfl,e1⟩:=he1 om
  obtain ⟨qa,rfl,a1⟩:=ha om
  obtain ⟨qb,rfl,b1⟩:=hb1 om
  obtain ⟨y,hy'⟩:=jka (l:=ys) (i:=i) om
  obtain ⟨q,hq⟩:=jka (l:=x) (i:=i) om
  obtain ⟨k1,k2⟩:=jl2 hq
  have k3:(ints ys)[0+(i:Int).toNat*1]?=some (.i y):=jfp hy' om
  have k4:(ints (x.map Prod.fst))[0+(i:Int).toNat*1]?=some (.i q.1):=jfp (i:=i) (by simp [hq]) om
  have k5:(ints (x.map Prod.snd))[0+(i:Int).toNat*1]?=some (.i q.2):=jfp (i:=i) (by simp [hq]) om
  have m1 : ¬ y≠y:=fun e=>e rfl
  have m2 : ¬ q.1≠q.1:=fun e=>e rfl
  have m3 : ¬ q.2≠q.2:=fun e=>e rfl
  have hi1:(i:Int)+1=((i+1:Nat):Int):=by omega
  clear hx1 hf1 he1 ha hb1 hq hy' b P
  generalize jaX x=px at x1 k1 k2
  refine qx1 ?_
  rw [hi1]
  exact ih (n-(i+1)) om _ _ ⟨i+1,rfl,by omega,rfl,rfl⟩
 rcases hfb with ⟨rfl,rfl⟩ | ⟨rfl,rfl⟩
 ·have n4 : ¬ (0:Int)≠0:=fun e=>e rfl
  have n5 : ¬ decide (0<cnt)≠decide (cnt>0):=fun e=>e rfl
  clear hx1 hf1 he1 ha hb1
  refine qx1 ?_
  exact loop
 ·have n4:(2:Int)≠0:=by omega
  have n5 : ¬ true≠true:=fun e=>e rfl
  clear hx1 hf1 he1 ha hb1
  refine qx1 ?_
  exact loop
theorem pt_tail {d i p w s rw N1 N2 N3 c:Nat} {ad:Option (Nat × Nat)} {ow:Nat->Nat} {ro dat:Nat->Prop} {st:St} {x:List (Int × Int)} {ov fv ev:V} {h:H} {sb:Env} (hd:20<=d) (hx:x.length<=120) (P:Pw h) (b:BB h p w s rw ow ro dat st st) (so:StOk st i) (hi:i<=200) (rR:Row N1 h 7 ov 96 (jc7 st.ws 96)) (hf:jmn x)
  (hxb:x≠[] -> ∃ b ro,ad=some (b,0)/\b<h.nx/\h.get b=some (.cells (jaX x) ro)) (rf:Row N2 h 1 fv x.length (ints (x.map Prod.fst))) (re:Row N3 h 1 ev x.length (ints (x.map Prod.snd))) :
  Run (cl d) fuel c3_7 [] ((1,.slice ad x.length (.fix c)) :: (5,.p p 0) :: (6,ov) :: (8,fv) :: (9,ev) :: sb) h (Fin c3.res fun v _=>v = .bool true):=by
 have hp:=b.hp
 have lp:=b.lp
 have hv:=jnV (c := .fix c) hxb
 have o:=so.K.ok
 obtain ⟨lw,⟨_,fds⟩,ew⟩:=b.W
 have fds : ∀ n k fd,AtW st.ws n k fd->0<=fd/\fd<=95:=by rw [<- ew];exact fds
 obtain ⟨pv,h3,e3,o3,p3⟩:=pl_poll hcl (d:=d) om b.W o hv hf om
 obtain ⟨pv2,h4,e4,o4,p4⟩:=rq14_Poll hcl (d:=d) (iv:=ov) (fv:=fv) (ev:=ev) om fds (rR.keep o3.1 fun z hz=>o3.2 z (rR.at_ge hz).2) (rf.keep o3.1 fun z hz=>o3.2 z (rf.at_ge hz).2) (re.keep o3.1 fun z hz=>o3.2 z (re.at_ge hz).2) om
 have o34:=o3.trans o4
 have b4:=b.old o34
 have hv4:=hv.keep o34
 obtain ⟨h5,e5,o5⟩:=pl_holds hcl (d:=d) om b4.W o hv4 hf om
 have b5:=b4.old o5
 have p4':=b4.hp
 have o35:=o34.trans o5
 obtain ⟨cf,⟨af,rfl⟩,hfs⟩:=rf.shape
 obtain ⟨ce,⟨ae,rfl⟩,hes⟩:=re.shape
 have hx1:x≠[] -> ∃ b ro,ad=some (b,0)/\h5.get b=some (.cells (jaX x) ro):=fun hn=>by
  obtain ⟨b,r,e1,e2,e3⟩:=hxb hn
  exact ⟨b,r,e1,by rw [o35.2 _ e2,e3]⟩
 have hf1:x.length≠0 -> ∃ q,af=some (q,0)/\h5.get q=some (.cells (ints (x.map Prod.fst)) false):=fun hn=>by
  obtain ⟨q,_,e1,e2,e3⟩:=hfs 0 om
  cases e2
  exact ⟨q,rfl,by rw [o35.2 _ e1,e3]⟩
 have he1:x.length≠0 -> ∃ q,ae=some (q,0)/\h5.get q=some (.cells (ints (x.map Prod.snd)) false):=fun hn=>by
  obtain ⟨q,_,e1,e2,e3⟩:=hes 0 om
  cases e2
  exact ⟨q,rfl,by rw [o35.2 _ e1,e3]⟩
 obtain ⟨C,hC⟩ : ∃ C,C=c3_2:=⟨_,rfl⟩
 simp only [c3_7,c3_3,<- hC]
 have P5:=P.old o35
 rcases p3 with ⟨hm,rfl⟩ | ⟨hm,av,rfl,rowa⟩
 ·rcases p4 with ⟨_,rfl⟩ | ⟨hm2,_⟩
  ·rw [if_neg hm] at e5
   have T:=fun sb=>jn8 (sb:=sb) hcl (d:=d) (n:=0) (bx:=0) (qf:=0) (qe:=0) (cf:=cf) (ce:=ce) (ca := .fix 0) (cb := .fix 0) (aa:=none) (ab:=none) (rx:=false) (ys:=[]) (cnt:=0) (f:=2) (hb:=true) (af:=af) (ae:=ae) hd hx P5 b5 so hi om (.inr ⟨rfl,rfl⟩) p4' e5 om rfl (fun e=>absurd rfl e) (fun e=>absurd rfl e) (fun e=>absurd rfl e) (fun e=>absurd rfl e) (fun e=>absurd rfl e)
   rw [<- hC] at T
   clear hf rR rf re fds hv hv4 e5 hfs hes
   refine qx1 ?_
   exact T _
  ·exact absurd hm2 hm
 ·rcases p4 with ⟨hm2,_⟩ | ⟨_,bv,rfl,rowb⟩
  ·exact absurd hm hm2
  ·rw [if_pos hm] at e5
   obtain ⟨ca,⟨aa,rfl⟩,has⟩:=rowa.shape
   obtain ⟨cb,⟨ab,rfl⟩,hbs⟩:=rowb.shape
   have hcn:=jiF (jkA st.ws x)
   rw [jgy] at hcn
   obtain ⟨bx,rx,hx2⟩ : ∃ bx rx,x.length≠0->ad=some (bx,0)/\h5.get bx=some (.cells (jaX x) rx):=by
    by_cases hn:x=[]
    ·exact ⟨0,false,fun e=>by subst hn;exact absurd rfl e⟩
    ·obtain ⟨b,r,e⟩:=hx1 hn
     exact ⟨b,r,fun _=>e⟩
   obtain ⟨qf,hf2⟩ : ∃ q,x.length≠0->af=some (q,0)/\h5.get q=some (.cells (ints (x.map Prod.fst)) false):=by
    by_cases hn:x.length=0
    ·exact ⟨0,fun e=>absurd hn e⟩
    ·obtain ⟨q,e⟩:=hf1 hn
     exact ⟨q,fun _=>e⟩
   obtain ⟨qe,he2⟩ : ∃ q,x.length≠0->ae=some (q,0)/\h5.get q=some (.cells (ints (x.map Prod.snd)) false):=by
    by_cases hn:x.length=0
    ·exact ⟨0,fun e=>absurd hn e⟩
    ·obtain ⟨q,e⟩:=he1 hn
     exact ⟨q,fun _=>e⟩
   have T:=fun sb=>jn8 (sb:=sb) hcl (d:=d) (n:=x.length) (bx:=bx) (qf:=qf) (qe:=qe) (cf:=cf) (ce:=ce) (ca:=ca) (cb:=cb) (aa:=aa) (ab:=ab) (rx:=rx) (ys:=polL st.ws x) (cnt:=cntP (polL st.ws x)) (f:=0) (hb:=decide (0<cntP (polL st.ws x))) (af:=af) (ae:=ae) hd hx P5 b5 so hi om (.inl ⟨rfl,rfl⟩) p4' e5 om (jgy _ _) hx2 hf2 he2
    (fun e=>by
     obtain ⟨q,_,y1,y2,y3⟩:=has 0 om
     cases y2
     exact ⟨q,rfl,by rw [(o4.trans o5).2 _ y1,y3]⟩)
    (fun e=>by
     obtain ⟨q,_,y1,y2,y3⟩:=hbs 0 om
     cases y2
     exact ⟨q,rfl,by rw [o5.2 _ y1,y3]⟩)
   rw [<- hC] at T
   clear hf rR rf re fds hv hv4 e5 hfs hes hx1 hf1 he1 rowa rowb has hbs hx2 hf2 he2 hm
   refine qx1 ?_
   exact T _
theorem jk9 {h0:H} (hnx:h0.nx=206) (hwf : ∀ b,206<=b->h0.get b=none) (_l2:h0.get 2=some (.cells jbh true)) (_l3:h0.get 3=some (.cells jbg true)) (l0:h0.get 0=some (.cells jaC true))
  {l:List (Int × Int × Int × Int × List Int × Unit)} {u1:V} (rl:jcZ 200 jnv h0 l [u1]) {x0:List (Int × Int × Unit)} {u2:V} (rx:jcZ 120 jno h0 x0 [u2]) :
  ∃ h',cl 31 (.fn F.jbX) [u1,u2] h0=some (.bool true,h'):=by
 suffices q : ∃ v h',cl 31 (.fn F.jbX) [u1,u2] h0=some (v,h')/\v = .bool true by
  obtain ⟨_,h',e,rfl⟩:=q;exact ⟨h',e⟩
 have P0:Pw h0:=⟨by omega,_,_,l0,by kernel_rfl⟩
 clear _l2 _l3 l0
 obtain ⟨L,_,hL⟩:=opsIn_of rl
 obtain ⟨x,ad,c,_,rfl,hc,hx⟩:=asks_of rx
 refine at_ hcl om rfl rfl rfl ?_
 by_cases h50:120<x.length
 ·have h50':(x.length:Int)>120:=by omega
  clear hL hx rl rx
  refine qx1 ?_
  rfl
 have h50' : ¬ (x.length:Int)>120:=by omega
 obtain ⟨hf,hxb⟩:=hx om
 obtain ⟨bv,h2,eb,hb⟩:=bt_ok hcl (d:=30) (f:=F.jdQ) rfl rfl om hL (by rw [hnx];exact hwf)
 rcases hb with ⟨rfl,rfl⟩ | ⟨hfew,p,w,s,rw,ow,ro,ov,rfl,bx,rowR,_⟩
 ·clear hL hx rl rx hf
  refine qx1 ?_
  rfl
 have hP2:=P0.old bx.old
 have W:=bx.b.W
 have hp:=bx.b.hp
 have o:=bx.so.K.ok
 have so:=bx.so
 have hxb2:x≠[] -> ∃ b ro,ad=some (b,0)/\b<h2.nx/\h2.get b=some (.cells (jaX x) ro):=fun hn=>by
  obtain ⟨b,q1,q2,q3⟩:=hxb hn
  exact ⟨b,true,q1,by have:=bx.old.1;omega,by rw [bx.old.2 b om,q3]⟩
 have hv:=jnV (c := .fix c) hxb2
 have bb:=bx.b
 have lp:=bb.lp
 have hil:=hfew.1
 generalize runS L st0=st at W o so bb rowR
 clear hL rl rx hxb bx P0 hfew hwf
 obtain ⟨C,hC⟩ : ∃ C,C=c3_7:=⟨_,rfl⟩
 simp only [c3,c3_10,c3_9,c3_8,<- hC]
 have rR:=Hd.mk rowR
 have hF:=Hd.mk hf
 clear rowR hx hf hv W
 refine qx1 ?_
 refine Run.loop (fun m e g=>∃ (i:Nat) (fv ev:V),m=x.length-i/\i<=x.length/\e=[(1,.slice ad x.length (.fix c)),(5,.p p 0),(6,ov),(8,fv),(9,ev),(10,.i (i:Int))]/\Row h2.nx g 1 fv i (ints ((x.take i).map Prod.fst))/\Row h2.nx g 1 ev i (ints ((x.take i).map Prod.snd))/\(∀ z,fv.at?=some z->ev.at?≠some z)/\Old h2 g)
  (k:=x.length) (by show _<100000;omega) ⟨0,.nils,.nils,rfl,by omega,rfl,Row.nil _ _ _,Row.nil _ _ _,(fun z hz=>by cases hz),Old.refl _⟩ ?_
 rintro _ _ g ⟨i,fv,ev,rfl,hi,rfl,rf,re,ap,og⟩ n2 ih
 by_cases hlt:(i:Int)<x.length
 case neg=>
  obtain rfl:i=x.length:=by omega
  rw [List.take_length] at rf re
  have T:=fun sb=>pt_tail (sb:=sb) (ov:=ov) (c:=c) hcl (d:=30) om om (hP2.old og) (bb.old og) so hil (rR.g.keep og.1 fun z hz=>og.2 z (rR.g.at_ge hz).2) hF.g (fun hn=>by
   obtain ⟨b,r,e1,e2,e3⟩:=hxb2 hn
   exact ⟨b,r,e1,Nat.lt_of_lt_of_le e2 og.1,by rw [og.2 _ e2,e3]⟩) rf re
  rw [<- hC] at T
  clear ih rf re
  refine qx1 ?_
  exact T _
 obtain ⟨q,hq⟩:=jka (l:=x) (i:=i) om
 obtain ⟨k1,k2⟩:=jl2 hq
 obtain ⟨b,r,rfl,e2,e3⟩:=hxb2 (by rintro rfl;simp at hq)
 have gb:g.get b=some (.cells (jaX x) r):=by rw [og.2 _ e2,e3]
 have hi1:(i:Int)+1=((i+1:Nat):Int):=by omega
 have gnx:=og.1
 have tf:ints ((x.take (i+1)).map Prod.fst)=ints ((x.take i).map Prod.fst)++[.i q.1]:=by rw [List.take_add_one,hq];simp
 have te:ints ((x.take (i+1)).map Prod.snd)=ints ((x.take i).map Prod.snd)++[.i q.2]:=by rw [List.take_add_one,hq];simp
 have hx2 : ∀ z,fv.at?=some z->h2.nx<=z:=fun z hz=>(rf.at_ge hz).1
 have hx3 : ∀ z,ev.at?=some z->h2.nx<=z:=fun z hz=>(re.at_ge hz).1
 clear hxb2
 generalize jaX x=px at gb e3 k1 k2
 refine qx1 ?_
 refine Ops.push (N:=h2.nx) (new:=[.i q.1]) rfl rfl rfl rfl om rfl rfl rf og.1 om om fun fv' g1 rf' x1 z1 y1=>?_
 have gb1:g1.get b=some (.cells px r):=by rw [y1 _ om fun e=>by have:=hx2 _ e;omega,gb]
 have re1:Row h2.nx g1 1 ev i (ints ((x.take i).map Prod.snd)):=re.keep x1 fun z hz=>y1 z (re.at_ge hz).2 fun e=>ap z e hz
 have og1:Old h2 g1:=⟨by omega,fun j hj=>by rw [y1 j om fun e=>by have:=hx2 _ e;omega,og.2 j hj]⟩
 refine qx1 ?_
 refine Ops.push (N:=h2.nx) (new:=[.i q.2]) rfl rfl rfl rfl om rfl rfl re1 og1.1 om om fun ev' g2 re' x2 z2 y2=>?_
 have og2:Old h2 g2:=⟨by have:=og1.1;omega,fun j hj=>by rw [y2 j (by have:=og1.1;omega) fun e=>by have:=hx3 _ e;omega,og1.2 j hj]⟩
 refine qx1 ?_
 rw [hi1]
 refine ih (x.length-(i+1)) om _ _ ⟨i+1,fv',ev',rfl,by omega,rfl,?_,by rw [te];exact re',fun z hz e=>?_,og2⟩
 ·rw [tf]
  refine rf'.keep x2 fun z hz=>y2 z (rf'.at_ge hz).2 fun e=>?_
  have h1:=z1 z hz
  have h3:=(re.at_ge e).2
  omega
 ·have h1:=(rf'.at_ge hz).2
  have h3:=z2 z e
  omega
end
end Am.Sigs
