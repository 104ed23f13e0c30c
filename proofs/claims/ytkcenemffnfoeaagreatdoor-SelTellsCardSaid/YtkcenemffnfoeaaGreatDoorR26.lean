/- Our own library, part 26. -/
import Derived.Test.YtkcenemffnfoeaaGreatDoorR25
import Derived.Test.YtkcenemffnfoeaaGreatDoorR22
import Derived.Test.YtkcenemffnfoeaaGreatDoorR23
import Derived.Test.YtkcenemffnfoeaaGreatDoorR24
set_option maxHeartbeats 8000000
set_option linter.all false
namespace Am.Sigs
open Am Go
theorem strs_get {l:List (List UInt8)} {i o:Nat} (h:i<l.length) (ho:o=i) : ∃ s,(strs l)[o]?=some (.str s):=by
 subst ho
 exact ⟨l[o],by simp [h]⟩
section
variable {call:Call} {fuel base:Nat} {K:List Fr} {e:Env} {h:H} {Q:Post} {ix:Nat} {dst at_:Option Nat} {ops:List Ins} {keep:List Nat}
end
section
variable {cl:Nat->Call} (hcl:Sem cl) {h h0:H} {p w s rw:Nat} {ow:Nat->Nat} {ro dat:Nat->Prop} {st:St} {ws:Ws} {now:Int} {tb:Tb} {no:Option (Nat × Nat)}
include hcl
theorem sm_ok {d N M:Nat} {u v:V} {L:List (List UInt8)} (hd:1<=d) (a:SR N h u L) (b:SR M h v L) (hl:L.length<=50000) :
  ∃ h',cl d (.fn F.je8) [u,v] h=some (.bool true,h')/\h'=h:=by
 obtain ⟨q,c,_,_,rfl,_,hq⟩:=a
 obtain ⟨q',c',_,_,rfl,_,hq'⟩:=b
 refine jai (at_ hcl om rfl rfl rfl ?_)
 refine qx1 ?_
 refine Run.loop (fun m e g=>∃ i:Nat,m=L.length-i/\i<=L.length/\e=[(0,.slice (some (q,0)) L.length c),(1,.slice (some (q',0)) L.length c'),(5,.i (i:Int))]/\g=h)
  (k:=L.length) Ze ⟨0,rfl,by omega,rfl,rfl⟩ ?_
 rintro _ _ _ ⟨i,rfl,hi,rfl,rfl⟩ f ih
 by_cases hlt:(i:Int)<(L.length:Int)
 case neg=>
  clear ih
  refine qx1 ?_
  exact ⟨rfl,rfl⟩
 obtain ⟨t,ht⟩:=strs_get (l:=L) (i:=i) (o:=0+(i:Int).toNat*1) om om
 have hi1:(i:Int)+1=((i+1:Nat):Int):=by omega
 repeat' (first|refine qxy ?_|refine zbf rfl (fun _=>?_) fun _=>?_|refine zbg rfl (fun _=>?_) fun _=>?_|refine zbh rfl (fun _=>?_) fun _=>?_|refine zbm rfl (fun _=>?_) fun _=>?_|refine zbn rfl (fun _=>?_) fun _=>?_)
 ·next x=>simp at x
 rw [hi1]
 exact ih (L.length-(i+1)) om _ _ ⟨i+1,rfl,by omega,rfl,rfl⟩
theorem ww_NowV {d:Nat} (hd:2<=d) (a:WSt h w s ow ws now tb no):cl d (.fn F.jg9) [.p w 0] h=some (.int .u64 now,h):=by
 obtain ⟨l,a,rfl⟩:=a
 obtain ⟨sa,c,hw,_⟩:=a.wf.head
 have hno:=jbC hcl (d:=d-1) om a.wf
 have q1:(wc (fun i=>atS (wxs l) (i:Int)) (.slice sa l.length c) s now no)[0+290]?=some (.int .u64 now):=jm0 rfl
 refine jam (at_ hcl om rfl rfl rfl ?_)
 refine qx1 ?_
 exact ⟨rfl,rfl⟩
theorem jl5 {d:Nat} (hd:9<=d) (a:WSt h w s ow ws now tb no) (hc:tb.ok 1000000) : ∃ h',cl d (.fn F.jeG) [.p w 0] h=some (.i (tb.sum 32),h')/\Old h h':=by
 obtain ⟨l,a,rfl⟩:=a
 obtain ⟨sa,c,hw,_⟩:=a.wf.head
 have hno:=jbC hcl (d:=d-1) om a.wf
 have q1:(wc (fun i=>atS (wxs l) (i:Int)) (.slice sa l.length c) s now no)[0+289]?=some (.p s 0):=jd2 rfl
 obtain ⟨h1,e1,c1⟩:=jhD hcl (d:=d-1) om a.wf.hs a.wf.ls hc
 have o1:=Old.ofCh c1
 clear hc
 refine jai (at_ hcl om rfl rfl rfl ?_)
 refine qx1 ?_
 exact ⟨rfl,o1⟩
theorem ww_Count {d:Nat} {sg:Int} (hd:4<=d) (a:WSt h w s ow ws now tb no):cl d (.fn F.jf9) [.p w 0,.i sg] h=some (.i (tb.cnt sg),h):=by
 obtain ⟨l,a,rfl⟩:=a
 obtain ⟨sa,c,hw,_⟩:=a.wf.head
 have hno:=jbC hcl (d:=d-1) om a.wf
 have q1:(wc (fun i=>atS (wxs l) (i:Int)) (.slice sa l.length c) s now no)[0+289]?=some (.p s 0):=jd2 rfl
 have e1:=jik hcl (d:=d-1) om a.wf.hs sg
 refine jam (at_ hcl om rfl rfl rfl ?_)
 refine qx1 ?_
 exact ⟨rfl,rfl⟩
omit hcl in
theorem BB.rw_ {a r:St} (b:BB h p w s rw ow ro dat a r) : ∃ q l,RW h rw q l r.tl/\l.map RX.x=r.ws:=by
 obtain ⟨l,R,e⟩:=b.R
 obtain ⟨q,_,k⟩:=R.ex
 exact ⟨q,l,k h rfl fun _ _ _=>rfl,e⟩
theorem al_ok {d i:Nat} (hd:11<=d) (P:Pw h) (b:BB h p w s rw ow ro dat st st) (so:StOk st i) (hi:i<=200) :
  ∃ h',cl d (.fn F.jcQ) [.p p 0] h=some (.bool true,h')/\Old h h':=by
 have tok:st.tb.ok 1000000:=so.tb.mono om
 have ok:=so.K.ok
 have hp:=b.hp
 have lp:=b.lp
 obtain ⟨v1,h1,e1,r1,o1⟩:=ww_Fds hcl (d:=d-1) om b.W
 have b1:=b.old o1
 obtain ⟨q1,l1,w1,x1⟩:=b1.rw_
 obtain ⟨v2,h2,e2,r2,o2⟩:=rq_Fds hcl (d:=d-1) om w1 (by rw [x1];exact ok)
 rw [x1] at r2
 have o12:=o1.trans o2
 have b2:=b1.old o2
 have p1:h1.get p=some (.cells [.p w 0,.p rw 0] false):=b1.hp
 have p2:h2.get p=some (.cells [.p w 0,.p rw 0] false):=b2.hp
 have e3:=ww_NowV hcl (d:=d-1) om b2.W
 obtain ⟨q2,l2,w2,x2⟩:=b2.rw_
 obtain ⟨a2,c2,hw2,_⟩:=w2.head
 have n2:(V.slice a2 l2.length c2 :: st.tl)[0+1]?=some (.int .u64 st.now):=rfl
 obtain ⟨h3,e4,o3⟩:=jl5 hcl (d:=d-1) om b2.W tok
 have b3:=b2.old o3
 have p3:h3.get p=some (.cells [.p w 0,.p rw 0] false):=b3.hp
 obtain ⟨q3,l3,w3,x3⟩:=b3.rw_
 have e5:=jhH hcl (d:=d-1) om w3 tok
 rw [<- jm6] at e5
 have o13:=o12.trans o3
 have fl:=jg1 st.ws 96
 obtain ⟨cp1,⟨ad1,rfl⟩,i1⟩:=r1.shape
 obtain ⟨cp2,⟨ad2,rfl⟩,i2⟩:=r2.shape
 have g1 : ∀ j,j<(fdsL st.ws 96).length -> ∃ z,ad1=some (z,0)/\z<h3.nx/\h3.get z=some (.cells (ints (fdsL st.ws 96)) false):=fun j hj=>by
  obtain ⟨z,_,z2,z3,z4⟩:=i1 j hj
  cases z3
  have:=o2.1
  have:=o3.1
  exact ⟨z,rfl,by omega,by rw [o3.2 _ om,o2.2 _ z2,z4]⟩
 have g2 : ∀ j,j<(fdsL st.ws 96).length -> ∃ z,ad2=some (z,0)/\z<h3.nx/\h3.get z=some (.cells (ints (fdsL st.ws 96)) false):=fun j hj=>by
  obtain ⟨z,_,z2,z3,z4⟩:=i2 j hj
  cases z3
  have:=o3.1
  exact ⟨z,rfl,by omega,by rw [o3.2 _ z2,z4]⟩
 obtain ⟨a3,c3,hw3,_⟩:=w3.head
 have n3 : ∀ s:Nat,s<32->(V.slice a3 l3.length c3 :: st.tl)[0+34+(s:Int).toNat*1]?=some (.i (st.tb.pd s)):=fun s hs=>t_ct hs om
 have ec:=fun sg=>ww_Count hcl (d:=d-1) (sg:=sg) om b3.W
 clear i1 i2 r1 r2 w1 w2 w3 x1 x2 x3 b1 b2
 generalize hFL:fdsL st.ws 96=FL at e1 e2 g1 g2 fl ⊢
 have hneq : ¬ (FL.length:Int)≠(FL.length:Int):=fun e=>e rfl
 have hpe : ¬ st.tb.sum 32≠st.tb.sum 32:=fun e=>e rfl
 have hne : ¬ st.now≠st.now:=fun e=>e rfl
 generalize V.slice a2 l2.length c2 :: st.tl=rc at hw2 n2
 generalize V.slice a3 l3.length c3 :: st.tl=rc3 at hw3 n3
 refine jai (at_ hcl om rfl rfl rfl ?_)
 clear tok
 refine qx1 ?_
 refine Ops.callf_chk rfl e3 (jau rfl p2 rfl rfl (jau rfl hw2 n2 rfl ja2)) ?_
 refine qx1 ?_
 refine Ops.callf_chk rfl e4 (jau rfl p3 rfl rfl ja2) ?_
 refine qx1 ?_
 clear e1 e2 e3 e4 e5 p1 p2 hw2 n2
 refine Run.loop (fun m e g=>∃ j:Nat,m=34-j/\j<=34/\e=[(0,.p p 0),(3,.slice ad1 FL.length cp1),(4,.slice ad2 FL.length cp2),(5,.i ((j:Int)-1))]/\g=h3)
  (k:=34) Ze ⟨0,rfl,by omega,rfl,rfl⟩ ?_
 rintro _ _ h3 ⟨j,rfl,hj,rfl,rfl⟩ f ih
 by_cases hlt:(j:Int)-1<=32
 case pos=>
  have hj1:(j:Int)-1+1=((j+1:Nat):Int)-1:=by omega
  have eC:=ec ((j:Int)-1)
  by_cases hs:2<=j/\j<=32
  ·obtain ⟨s',hs'⟩ : ∃ s':Nat,j=s'+1:=⟨j-1,by omega⟩
   have ej:(j:Int)-1=(s':Int):=by omega
   have hcn:st.tb.cnt (s':Int)=st.tb.pd s':=by
    unfold Tb.cnt
    rw [if_pos (show (1:Int)<=(s':Int)/\(s':Int)<=31 by omega),zw]
   rw [ej] at eC hlt hj1 ⊢
   rw [hcn] at eC
   have hs1:(s':Int)>0:=by omega
   have hs2:(s':Int)<=31:=by omega
   have hn3:=n3 s' om
   have hcc : ¬ st.tb.pd s'≠st.tb.pd s':=fun e=>e rfl
   clear ec n3 g1 g2
   refine qx1 ?_
   rw [hj1]
   exact ih (34-(j+1)) om _ _ ⟨j+1,rfl,by omega,rfl,rfl⟩
  ·have hcn:st.tb.cnt ((j:Int)-1)=0:=by
    unfold Tb.cnt
    rw [if_neg]
    show ¬ ((1:Int)<=(j:Int)-1/\(j:Int)-1<=31)
    omega
   rw [hcn] at eC
   have hcc : ¬ (0:Int)≠0:=fun e=>e rfl
   by_cases hs1:(j:Int)-1>0
   ·have hs2 : ¬ (j:Int)-1<=31:=by omega
    clear ec n3 g1 g2 hs
    refine qx1 ?_
    rw [hj1]
    exact ih (34-(j+1)) om _ _ ⟨j+1,rfl,by omega,rfl,rfl⟩
   ·clear ec n3 g1 g2 hs
    refine qx1 ?_
    rw [hj1]
    exact ih (34-(j+1)) om _ _ ⟨j+1,rfl,by omega,rfl,rfl⟩
 clear ih ec n3 hw3
 refine qx1 ?_
 refine Run.loop (fun m e g=>∃ i:Nat,m=FL.length-i/\i<=FL.length/\e=[(0,.p p 0),(3,.slice ad1 FL.length cp1),(4,.slice ad2 FL.length cp2),(79,.i (FL.length:Int)),(80,.i (i:Int))]/\Old h3 g)
  (k:=FL.length) Ze ⟨0,rfl,by omega,rfl,Old.refl _⟩ ?_
 rintro _ _ g ⟨i,rfl,hi,rfl,og⟩ f ih
 have bg:=b3.old og
 have pg:=bg.hp
 by_cases hlt:(i:Int)<(FL.length:Int)
 case pos=>
  obtain ⟨z1,rfl,lz1,y1⟩:=g1 i om
  obtain ⟨z2,rfl,lz2,y2⟩:=g2 i om
  have y1g:g.get z1=some (.cells (ints FL) false):=by rw [og.2 _ lz1,y1]
  have y2g:g.get z2=some (.cells (ints FL) false):=by rw [og.2 _ lz2,y2]
  obtain ⟨x,hx⟩:=jmy (l:=FL) (i:=i) om
  have hxi:(ints FL)[0+(i:Int).toNat*1]?=some (.i x):=by
   rw [show 0+(i:Int).toNat*1=i by omega];simp [hx]
  have hxx : ¬ x≠x:=fun e=>e rfl
  obtain ⟨g3,e6,o6⟩:=jie hcl (d:=d-1) (fd:=x) om bg.W ok
  rw [jgR] at e6
  obtain ⟨q4,l4,w4,x4⟩:=(bg.old o6).rw_
  obtain ⟨g4,e7,c7⟩:=jlf hcl (d:=d-1) (fd:=x) om w4 (by rw [x4];exact ok)
  rw [x4,jgR] at e7
  have p6:=(bg.old o6).hp
  have y26:g3.get z2=some (.cells (ints FL) false):=by rw [o6.2 _ (zr lz2 og.1),y2g]
  have hi1:(i:Int)+1=((i+1:Nat):Int):=by omega
  have og4:=(og.trans o6).trans (Old.ofCh c7)
  clear g1 g2 w4 bg
  refine qx1 ?_
  refine Ops.callf_chk rfl e6 (jau rfl p6 rfl rfl (jau rfl y26 hxi rfl ja2)) ?_
  repeat' (first|refine qxy ?_|refine zbf rfl (fun _=>?_) fun _=>?_|refine zbg rfl (fun _=>?_) fun _=>?_|refine zbh rfl (fun _=>?_) fun _=>?_|refine zbm rfl (fun _=>?_) fun _=>?_|refine zbn rfl (fun _=>?_) fun _=>?_)
  ·next x=>simp at x
  rw [hi1]
  exact ih (FL.length-(i+1)) om _ _ ⟨i+1,rfl,by omega,rfl,og4⟩
 clear ih g1 g2
 have tok:st.tb.ok 1000000:=so.tb.mono om
 obtain ⟨v5,h5,e8,s5,o5⟩:=ww_Image hcl (d:=d-1) om (P.old (o13.trans og)) bg.W ok so.now tok so.nt
 have b5:=bg.old o5
 have p5:=b5.hp
 obtain ⟨q5,l5,w5,x5⟩:=b5.rw_
 obtain ⟨v6,h6,e9,s6,o6⟩:=rq_Image hcl (d:=d-1) (hdl:=st.tb.hd) (ct:=st.tb.pd) (no:=st.no) om w5 (by rw [x5];exact ok) so.now tok (by rw [x5];exact so.nt)
 rw [x5] at s6
 have L1:=je1 st.ws 96
 have L2:=jfs st.ws st.ws.length
 have L3:=jdD st.tb.hd st.tb.pd 31
 have L4:(jkC st.no).length<=1:=by cases st.no<;>simp [jkC]
 have L5:=ok.len
 obtain ⟨_,e10,rfl⟩:=sm_ok hcl (d:=d-1) om (s5.keep (zq _) o6) s6 (by unfold jjB;simp;omega)
 have oF:=(o13.trans og).trans (o5.trans o6)
 clear tok so
 refine qx1 ?_
 refine Ops.callf_chk rfl e8 (jau rfl p5 rfl rfl ja2) ?_
 refine qx1 ?_
 exact ⟨rfl,oF⟩
end
def topN (F:Nat->Bool):Nat->Int
 | 0=>0
 | n+1=>if F n then (n:Int)+1 else topN F n
theorem jkb (F:Nat->Bool) : ∀ n,0<=topN F n/\topN F n<=n
 | 0=>by simp [topN]
 | n+1=>by
  have:=jkb F n
  simp only [topN]
  split<;>omega
theorem jm2 {F:Nat->Bool} : ∀ {n i:Nat},i<n->F i=true->(i:Int)<topN F n
 | n+1,i,h,hf=>by
  simp only [topN]
  split
  ·omega
  ·next hn=>
   by_cases e:i=n
   ·subst e;exact absurd hf hn
   ·exact jm2 om hf
theorem jm1 {F:Nat->Bool} : ∀ {n:Nat},0<topN F n->F (topN F n-1).toNat=true
 | 0,h=>by simp [topN] at h
 | n+1,h=>by
  simp only [topN] at h ⊢
  split
  ·next hf=>rw [show ((n:Int)+1-1).toNat=n by omega];exact hf
  ·next hn=>rw [if_neg hn] at h;exact jm1 h
theorem topN_eq {F:Nat->Bool} {T:Int} (h0 : -1<=T) (h1:T<=63) (h2 : ∀ i:Nat,i<64->F i=true->(i:Int)<=T) (h3:0<=T->F T.toNat=true):T+1=topN F 64:=by
 have l:=jkb F 64
 have a:T+1<=topN F 64:=by
  by_cases h:0<=T
  ·have:=jm2 (n:=64) (i:=T.toNat) om (h3 h);omega
  ·omega
 have b:topN F 64<=T+1:=by
  by_cases h:0<topN F 64
  ·have:=h2 _ om (jm1 h);omega
  ·omega
 omega
theorem jhe (f:Nat->Bool) : ∀ n,(jat f n).length=cntS f n
 | 0=>rfl
 | n+1=>by
  have:=jhe f n
  simp only [jat,cntS,zg,this]
  split<;>simp
theorem jhU : ∀ n,jat (fun _=>false) n=[]
 | 0=>rfl
 | n+1=>by rw [jat,jhU n];rfl
section
variable {cl:Nat->Call} (hcl:Sem cl)
include hcl
theorem jkv {h0:H} (hnx:h0.nx=207) (hwf : ∀ b,207<=b->h0.get b=none) (_l2:h0.get 2=some (.cells jbg true)) (_l3:h0.get 3=some (.cells jbf true)) (l0:h0.get 0=some (.cells jaE true))
  {l:List (Int × Int × Int × Int × List Int × Unit)} {u1:V} (rl:jda 200 jns h0 l [u1]) {x:Int × List Int × List Int × Unit} {u2:List V} (rx:jly h0 x u2) :
  ∃ h',cl 31 (.fn F.jbX) [u1,.agg u2] h0=some (.bool true,h'):=by
 suffices q : ∃ v h',cl 31 (.fn F.jbX) [u1,.agg u2] h0=some (v,h')/\v = .bool true by
  obtain ⟨_,h',e,rfl⟩:=q;exact ⟨h',e⟩
 have P0:Pw h0:=⟨by omega,_,_,l0,by kernel_rfl⟩
 clear _l2 _l3 l0
 obtain ⟨a,b,c,e,rfl,hB1,hB2⟩:=asked_of rx
 have o01:Old h0 (h0.new (.cells [.i x.1,.slice a x.2.1.length (.fix c),.slice b x.2.2.1.length (.fix e)] false)):=(Old.refl h0).new
 have g0:=jad (h:=h0) (.cells [.i x.1,.slice a x.2.1.length (.fix c),.slice b x.2.2.1.length (.fix e)] false)
 have wf1 : ∀ j,(h0.new (.cells [.i x.1,.slice a x.2.1.length (.fix c),.slice b x.2.2.1.length (.fix e)] false)).nx<=j->(h0.new (.cells [.i x.1,.slice a x.2.1.length (.fix c),.slice b x.2.2.1.length (.fix e)] false)).get j=none:=fun j hj=>by
  rw [H.get_new,if_neg (by simp at hj;omega)];exact hwf j (by simp at hj;omega)
 have x1:(h0.new (.cells [.i x.1,.slice a x.2.1.length (.fix c),.slice b x.2.2.1.length (.fix e)] false)).nx=h0.nx+1:=rfl
 refine at_ hcl om rfl rfl rfl ?_
 refine Run.seq (Run.region0 (Ops.make rfl rfl (Ops.mv rfl (Ops.nil qkp (End.seq ?_)))))
 change Run (cl 30) fuel _ _ [(0,u1),(3,.p h0.nx 0)] (h0.new (.cells [.i x.1,.slice a x.2.1.length (.fix c),.slice b x.2.2.1.length (.fix e)] false)) _
 obtain ⟨L,_,hL0⟩:=opsIn_of rl
 have hL:=hL0.keep o01.1 fun j o hj hg=>by rw [o01.2 j hj,hg]
 have hB1':x.2.1.length<=200->BytesAt (h0.new (.cells [.i x.1,.slice a x.2.1.length (.fix c),.slice b x.2.2.1.length (.fix e)] false)) a (.fix c) (x.2.1.map jfz):=fun hl=>(hB1 hl).keep o01.1 fun j o hj hg=>by rw [o01.2 j hj,hg]
 have hB2':x.2.2.1.length<=200->BytesAt (h0.new (.cells [.i x.1,.slice a x.2.1.length (.fix c),.slice b x.2.2.1.length (.fix e)] false)) b (.fix e) (x.2.2.1.map jfz):=fun hl=>(hB2 hl).keep o01.1 fun j o hj hg=>by rw [o01.2 j hj,hg]
 have P1:=P0.old o01
 clear rl rx hL0 hB1 hB2 hwf P0
 generalize h0.new (.cells [.i x.1,.slice a x.2.1.length (.fix c),.slice b x.2.2.1.length (.fix e)] false)=h1 at o01 g0 wf1 x1 hL hB1' hB2' P1 ⊢
 by_cases a1:(x.2.1.length:Int)>200
 ·clear hL hB1' hB2'
  refine qx1 ?_
  rfl
 by_cases a2:(x.2.2.1.length:Int)>200
 ·clear hL hB1' hB2'
  refine qx1 ?_
  rfl
 obtain ⟨bv,h2,eb,hb⟩:=bt_ok hcl (d:=30) (f:=F.jdZ) rfl rfl om hL wf1
 rcases hb with ⟨rfl,rfl⟩ | ⟨hfew,p,w,s,rw,ow,ro,ov,rfl,bx,rowR,_⟩
 ·clear hL hB1' hB2'
  refine qx1 ?_
  rfl
 have W:=bx.b.W
 have o:=bx.so.K.ok
 have so:=bx.so
 have bb:=bx.b
 have hil:=hfew.1
 generalize runS L st0=st at W o so bb rowR
 have P2:=P1.old bx.old
 have kp:Kc h2 p [.p w 0,.p rw 0] false:=⟨bb.lp,bb.hp⟩
 have kx:Kc h2 h0.nx [.i x.1,.slice a x.2.1.length (.fix c),.slice b x.2.2.1.length (.fix e)] false:=Kc.old ⟨by omega,g0⟩ bx.old
 have kO : ∀ j ob,j<h1.nx->h1.get j=some ob->h2.get j=some ob:=fun j ob hj hh=>by rw [bx.old.2 j hj,hh]
 have b1:=(hB1' om).keep (h':=h2) bx.old.1 kO
 have b2:=(hB2' om).keep (h':=h2) bx.old.1 kO
 have l1:(x.2.1.map jfz).length=x.2.1.length:=List.length_map ..
 have l2:(x.2.2.1.map jfz).length=x.2.2.1.length:=List.length_map ..
 obtain ⟨v3,h3,e3,r3,o3⟩:=jmZ hcl (d:=30) om b1 om
 have b2':=b2.keep (h':=h3) o3.1 fun j ob hj hh=>by rw [o3.2 j hj,hh]
 obtain ⟨v4,h4,e4,r4,o4⟩:=jmZ hcl (d:=30) om b2' om
 rw [l1] at e3 r3
 rw [l2] at e4 r4
 generalize hLr:((x.2.1.map jfz).map fun x=>((x.toNat%64:Nat):Int))=Lr at r3
 generalize hLw:((x.2.2.1.map jfz).map fun x=>((x.toNat%64:Nat):Int))=Lw at r4
 have lr:Lr.length=x.2.1.length:=by rw [<- hLr];simp
 have lw:Lw.length=x.2.2.1.length:=by rw [<- hLw];simp
 have fr : ∀ y∈Lr,fitS y:=fun y hy=>by
  rw [<- hLr] at hy
  obtain ⟨z,_,rfl⟩:=List.mem_map.1 hy
  unfold fitS;omega
 have fw : ∀ y∈Lw,fitS y:=fun y hy=>by
  rw [<- hLw] at hy
  obtain ⟨z,_,rfl⟩:=List.mem_map.1 hy
  unfold fitS;omega
 rw [<- lr] at r3
 rw [<- lw] at r4
 have r3':=r3.keep o4.1 fun z hz=>o4.2 z (r3.at_ge hz).2
 obtain ⟨h5,e5,o5⟩:=jnY hcl (d:=30) (h:=h4) om (VI.ofRow r3').1 fr om
 have of:=Old.refl h2
 have hR:=Hd.mk rowR
 have o35:=(o3.trans o4).trans o5
 have hsz:=Hd.mk (And.intro hLr hLw)
 clear hL hB1' hB2' b1 b2 b2' rowR kO bx P1 wf1 l1 l2 fr hLr hLw
 refine qz1 ?_
 refine Ops.mkS rfl fun HA oA kA xA=>?_
 have o4A:=o5.trans oA
 have rA3:=r3'.keep o4A.1 fun z hz=>o4A.2 z (r3'.at_ge hz).2
 have rA4:=r4.keep o4A.1 fun z hz=>o4A.2 z (r4.at_ge hz).2
 replace oA:=o35.trans oA
 obtain ⟨h6,e6,o6⟩:=jnY hcl (d:=30) (h:=HA) om (VI.ofRow rA4).1 fw om
 replace kp:=kp.old oA
 replace kx:=kx.old oA
 replace of:=Old.refl HA
 clear eb e3 e4 e5 r3' r4 r3 fw o4A o35 o3 o4 o5
 refine qz1 ?_
 refine Ops.mkS rfl fun HB oB kB xB=>?_
 replace oB:=o6.trans oB
 have rB3:=rA3.keep oB.1 fun z hz=>oB.2 z (rA3.at_ge hz).2
 have rB4:=rA4.keep oB.1 fun z hz=>oB.2 z (rA4.at_ge hz).2
 replace kp:=kp.old oB
 replace kx:=kx.old oB
 replace kA:=kA.old oB
 have ot:=oA.trans oB
 replace of:=Old.refl HB
 clear e6 rA3 rA4 oA oB o6
 refine qz1 ?_
 refine Run.region2 fun HR oR xR=>?_
 obtain ⟨R,S,h7,e7,o7,s7a,s7b⟩:=jjd hcl (d:=30) (top:=x.1) (f:=ofS Lr) (g:=ofS Lw) (h:=HR) om ((W.old ot).old oR) o
 have v9:=o7.1
 replace o7:=oR.trans o7
 refine qz1 ?_
 refine Ops.mk2S o7 om (by decide) rfl rfl fun HX oX kR kS xX=>?_
 have rX3:=rB3.keep oX.1 fun z hz=>oX.2 z (rB3.at_ge hz).2
 have rX4:=rB4.keep oX.1 fun z hz=>oX.2 z (rB4.at_ge hz).2
 replace kp:=kp.old oX
 replace kx:=kx.old oX
 replace kA:=kA.old oX
 replace kB:=kB.old oX
 replace ot:=ot.trans oX
 replace of:=Old.refl HX
 have rR:=hR.g.keep ot.1 fun z hz=>ot.2 z (hR.g.at_ge hz).2
 obtain ⟨pv,h8,e8,o8,u,v,A,B,rfl,rA,rB,q0,q1⟩:=jky hcl (d:=30) (top:=x.1) om rR rX3 rX4 ⟨by omega,by omega⟩
 have hAB:A=jat R 64/\B=jat S 64:=by
  by_cases hz:jbi st.ws (ofS Lr) (ofS Lw) x.1=0
  ·obtain ⟨rfl,rfl⟩:=s7a hz
   exact q0 hz
  ·obtain ⟨rfl,rfl⟩:=s7b hz
   rw [jhU];exact q1 hz
 have hab:0=0 /\ ∀ W':H,Old h2 W' -> ∃ (bl:Bool) (h':H),cl 30 (.fn F.jgH) [.p w 0,.i x.1,.agg (setV (ofS Lr)),.agg (setV (ofS Lw))] W'=some (.bool bl,h')/\Old W' h'/\(bl=true↔jbi st.ws (ofS Lr) (ofS Lw) x.1≠0\/(0:Int)<((cntS R 64+cntS S 64:Nat):Int)):=⟨rfl,fun W' oW=>by
  obtain ⟨bl,h',e,oh,hb⟩:=sl_Holds hcl (d:=30) (top:=x.1) (f:=ofS Lr) (g:=ofS Lw) om (W.old oW) o
  refine ⟨bl,h',e,oh,hb.trans ?_⟩
  by_cases hz:jbi st.ws (ofS Lr) (ofS Lw) x.1=0
  ·obtain ⟨rfl,rfl⟩:=s7a hz
   constructor
   ·rintro (h | h)
    ·exact .inl h
    ·exact .inr om
   ·rintro (h | h)
    ·exact .inl h
    ·exact .inr om
  ·exact ⟨fun _=>.inl hz,fun _=>.inl hz⟩⟩
 have hsum:((cntS R 64+cntS S 64:Nat):Int)=(A.length:Int)+(B.length:Int):=by
  rw [hAB.1,hAB.2,jhe,jhe];omega
 have hH:=hab.2
 have hAB':=Hd.mk hAB
 clear hab hAB q0 q1 s7a s7b
 clear e7 o7 oX oR rB3 rB4 rX3 rX4 rR
 generalize hn:((cntS R 64+cntS S 64:Nat):Int)=n at hH hsum ⊢
 generalize jbi st.ws (ofS Lr) (ofS Lw) x.1=er at hH e8 ⊢
 replace hH:=Hd.mk hH
 clear hn
 refine qz1 ?_
 have h8x:=ot.trans o8
 refine Run.loop (fun m e g=>∃ i:Nat,m=64-i/\i<=64/\e=[(3,.p h0.nx 0),(5,.p p 0),(10,.p h5.nx 0),(11,.i 0),(12,.p h6.nx 0),(13,.i 0),(14,.p (HB.nx+0) 0),(15,.p (HB.nx+1) 0),(16,.i n),(17,.i er),(18,u),(19,v),(20,.i er),(21,.i (topN (orS (ofS Lr) (ofS Lw)) i)),(22,.i (i:Int))]/\Old h8 g)
  (k:=64) Ze ⟨0,rfl,by omega,rfl,Old.refl _⟩ ?_
 clear e8
 rintro _ _ g ⟨i,rfl,hi,rfl,og⟩ f' ih
 have ox:=o8.trans og
 by_cases hlt:(i:Int)<64
 case pos=>
  have hi1:(i:Int)+1=((i+1:Nat):Int):=by omega
  have hs1:=jjG hcl (d:=30) (f:=ofS Lr) (fd:=(i:Int)) (h:=g) om
  have hs2:=jjG hcl (d:=30) (f:=ofS Lw) (fd:=(i:Int)) (h:=g.new (.cells (setV (ofS Lr)) false)) om
  rw [decide_eq_true (show fitS (i:Int) by unfold fitS;omega),Bool.true_and,zw] at hs1 hs2
  have on1:Old g (g.new (.cells (setV (ofS Lr)) false)):=(Old.refl g).new
  have on2:Old g ((g.new (.cells (setV (ofS Lr)) false)).new (.cells (setV (ofS Lw)) false)):=on1.new
  have hl:=jkb (orS (ofS Lr) (ofS Lw)) i
  have ht:topN (orS (ofS Lr) (ofS Lw)) (i+1)=if (ofS Lr i||ofS Lw i)=true then (i:Int)+1 else topN (orS (ofS Lr) (ofS Lw)) i:=rfl
  have nx:=ih (64-(i+1)) om
  have ox1:=ox.trans on1
  generalize ofS Lr i=c1 at hs1 ht
  generalize ofS Lw i=c2 at hs2 ht
  generalize g.new (.cells (setV (ofS Lr)) false)=g1 at hs1 hs2 on1 on2 ox1
  generalize g1.new (.cells (setV (ofS Lw)) false)=g2 at hs2 on2
  generalize topN (orS (ofS Lr) (ofS Lw)) i=tp at hl ht
  clear rA rB hsum kR kS kx kp hR hsz W bb so o ot h8x ih P2
  cases c1
  ·cases c2
   ·refine qz1 ?_
    rw [hi1]
    exact nx _ _ ⟨i+1,rfl,by omega,by rw [ht];rfl,og.trans on2⟩
   ·refine qz1 ?_
    rw [hi1]
    exact nx _ _ ⟨i+1,rfl,by omega,by rw [ht,<- hi1];rfl,og.trans on2⟩
  ·refine qz1 ?_
   rw [hi1]
   exact nx _ _ ⟨i+1,rfl,by omega,by rw [ht,<- hi1];rfl,og.trans on1⟩
 obtain rfl:i=64:=by omega
 have hA:=hAB'.g.1
 have hB:=hAB'.g.2
 have lA:A.length<=64:=by rw [hA];exact jcJ R 64
 have lB:B.length<=64:=by rw [hB];exact jcJ S 64
 obtain ⟨va,g1,ea,ra,oa⟩:=jnb hcl (d:=30) (f:=R) (h:=g) om
 rw [<- hA] at ra
 have oga:=og.trans oa
 have es:=jjl hcl (d:=30) om ra (rA.keep oga.1 fun z hz=>oga.2 z (rA.at_ge hz).2) om
 obtain ⟨vb,g2,eb,rb,ob⟩:=jnb hcl (d:=30) (f:=S) (h:=g1) om
 rw [<- hB] at rb
 have ogb:=oga.trans ob
 have es2:=jjl hcl (d:=30) om rb (rB.keep ogb.1 fun z hz=>ogb.2 z (rB.at_ge hz).2) om
 obtain ⟨bl,g3,eh,oh,hb⟩:=hH.g g2 (h8x.trans ogb)
 have ogh:=ogb.trans oh
 obtain ⟨T,g4,et,ot4,t0,t1,t2,t3⟩:=sl_Top hcl (d:=30) (f:=ofS Lr) (g:=ofS Lw) (h:=g3) om
 rw [topN_eq t0 t1 t2 t3] at et
 have og4:=ogh.trans ot4
 obtain ⟨g5,eal,_⟩:=al_ok hcl (d:=30) om (P2.old (h8x.trans og4)) (bb.old (h8x.trans og4)) so hil
 obtain ⟨cu,⟨au,rfl⟩,-⟩:=rA.shape
 obtain ⟨cv,⟨av,rfl⟩,-⟩:=rB.shape
 have ox1:=ox.trans oa
 have ox2:=ox1.trans ob
 have ox3:=ox2.trans oh
 have tt:topN (orS (ofS Lr) (ofS Lw)) 64=topN (orS (ofS Lr) (ofS Lw)) 64:=rfl
 have ee:er=er:=rfl
 generalize topN (orS (ofS Lr) (ofS Lw)) 64=tp at et tt ⊢
 clear ih hAB' hA hB ra rb rA rB hH W bb so o ot h8x P2 hR hsz t0 t1 t2 t3 hfew
 by_cases hz:er=0
 ·subst hz
  obtain rfl:bl=decide (n>0):=by
   cases bl
   ·refine (decide_eq_false fun hn=>?_).symm
    have:=hb.2 (.inr hn)
    cases this
   ·refine (decide_eq_true ?_).symm
    rcases hb.1 rfl with h | h
    ·exact absurd rfl h
    ·exact h
  have hd:decide (n>0)=decide (n>0):=rfl
  have z1 : ¬ (0:Int)≠0:=fun e=>e rfl
  clear hb
  refine qz1 ?_
  rfl
 ·obtain rfl:bl=true:=hb.2 (.inl hz)
  have hd:true=true:=rfl
  have hz':er≠0:=hz
  clear hb hz
  refine qz1 ?_
  rfl
end
end Am.Sigs
