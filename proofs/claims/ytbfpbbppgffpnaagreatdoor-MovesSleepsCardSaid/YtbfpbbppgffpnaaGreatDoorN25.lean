/- Our own library, part 25. -/
import Derived.Test.YtbfpbbppgffpnaaGreatDoorN24
import Derived.Test.YtbfpbbppgffpnaaGreatDoorN23
import Derived.Test.YtbfpbbppgffpnaaGreatDoorN22
set_option maxHeartbeats 8000000
set_option linter.all false
namespace Am.Sigs
open Am Go
theorem strs_get {l:List (List UInt8)} {i o:Nat} (h:i<l.length) (ho:o=i) : ∃ s,(strs l)[o]?=some (.str s):=by
 subst ho
 exact ⟨l[o],by simp [h]⟩
section
variable {call:Call} {fuel base:Nat} {K:List Fr} {e:Env} {h:H} {Q:Post} {ix:Nat} {dst at_:Option Nat} {ops:List Ins} {keep:List Nat}
end
section
variable {cl:Nat->Call} (hcl:Sem cl) {h h0:H} {p w s rw:Nat} {ow:Nat->Nat} {ro dat:Nat->Prop} {st:St} {ws:Ws} {now:Int} {tb:Tb} {no:Option (Nat × Nat)}
include hcl
theorem sm_ok {d N M:Nat} {u v:V} {L:List (List UInt8)} (hd:1<=d) (a:SR N h u L) (b:SR M h v L) (hl:L.length<=50000) :
  ∃ h',cl d (.fn F.jeW) [u,v] h=some (.bool true,h')/\h'=h:=by
 obtain ⟨q,c,_,_,rfl,_,hq⟩:=a
 obtain ⟨q',c',_,_,rfl,_,hq'⟩:=b
 refine jag (at_ hcl om rfl rfl rfl ?_)
 refine qx1 ?_
 refine Run.loop (fun m e g=>∃ i:Nat,m=L.length-i/\i<=L.length/\e=[(0,.slice (some (q,0)) L.length c),(1,.slice (some (q',0)) L.length c'),(5,.i (i:Int))]/\g=h)
  (k:=L.length) Ze ⟨0,rfl,by omega,rfl,rfl⟩ ?_
 rintro _ _ _ ⟨i,rfl,hi,rfl,rfl⟩ f ih
 by_cases hlt:(i:Int)<(L.length:Int)
 case neg=>
  clear ih
  refine qx1 ?_
  exact ⟨rfl,rfl⟩
 obtain ⟨t,ht⟩:=strs_get (l:=L) (i:=i) (o:=0+(i:Int).toNat*1) om om
 have hi1:(i:Int)+1=((i+1:Nat):Int):=by omega
 repeat' (first|refine qxy ?_|refine zbf rfl (fun _=>?_) fun _=>?_|refine zbg rfl (fun _=>?_) fun _=>?_|refine zbh rfl (fun _=>?_) fun _=>?_|refine zbm rfl (fun _=>?_) fun _=>?_|refine zbn rfl (fun _=>?_) fun _=>?_)
 ·next x=>simp at x
 rw [hi1]
 exact ih (L.length-(i+1)) om _ _ ⟨i+1,rfl,by omega,rfl,rfl⟩
theorem ww_NowV {d:Nat} (hd:2<=d) (a:WSt h w s ow ws now tb no):cl d (.fn F.jhz) [.p w 0] h=some (.int .u64 now,h):=by
 obtain ⟨l,a,rfl⟩:=a
 obtain ⟨sa,c,hw,_⟩:=a.wf.head
 have hno:=jbC hcl (d:=d-1) om a.wf
 have q1:(wc (fun i=>atS (wxs l) (i:Int)) (.slice sa l.length c) s now no)[0+290]?=some (.int .u64 now):=jnu rfl
 refine jal (at_ hcl om rfl rfl rfl ?_)
 refine qx1 ?_
 exact ⟨rfl,rfl⟩
theorem jmx {d:Nat} (hd:9<=d) (a:WSt h w s ow ws now tb no) (hc:tb.ok 1000000) : ∃ h',cl d (.fn F.jfh) [.p w 0] h=some (.i (tb.sum 32),h')/\Old h h':=by
 obtain ⟨l,a,rfl⟩:=a
 obtain ⟨sa,c,hw,_⟩:=a.wf.head
 have hno:=jbC hcl (d:=d-1) om a.wf
 have q1:(wc (fun i=>atS (wxs l) (i:Int)) (.slice sa l.length c) s now no)[0+289]?=some (.p s 0):=jdL rfl
 obtain ⟨h1,e1,c1⟩:=jiG hcl (d:=d-1) om a.wf.hs a.wf.ls hc
 have o1:=Old.ofCh c1
 clear hc
 refine jag (at_ hcl om rfl rfl rfl ?_)
 refine qx1 ?_
 exact ⟨rfl,o1⟩
theorem ww_Count {d:Nat} {sg:Int} (hd:4<=d) (a:WSt h w s ow ws now tb no):cl d (.fn F.jgq) [.p w 0,.i sg] h=some (.i (tb.cnt sg),h):=by
 obtain ⟨l,a,rfl⟩:=a
 obtain ⟨sa,c,hw,_⟩:=a.wf.head
 have hno:=jbC hcl (d:=d-1) om a.wf
 have q1:(wc (fun i=>atS (wxs l) (i:Int)) (.slice sa l.length c) s now no)[0+289]?=some (.p s 0):=jdL rfl
 have e1:=jjp hcl (d:=d-1) om a.wf.hs sg
 refine jal (at_ hcl om rfl rfl rfl ?_)
 refine qx1 ?_
 exact ⟨rfl,rfl⟩
omit hcl in
theorem BB.rw_ {a r:St} (b:BB h p w s rw ow ro dat a r) : ∃ q l,RW h rw q l r.tl/\l.map RX.x=r.ws:=by
 obtain ⟨l,R,e⟩:=b.R
 obtain ⟨q,_,k⟩:=R.ex
 exact ⟨q,l,k h rfl fun _ _ _=>rfl,e⟩
theorem al_ok {d i:Nat} (hd:11<=d) (P:Pw h) (b:BB h p w s rw ow ro dat st st) (so:StOk st i) (hi:i<=100000) :
  ∃ h',cl d (.fn F.jdi) [.p p 0] h=some (.bool true,h')/\Old h h':=by
 have tok:st.tb.ok 1000000:=so.tb.mono om
 have ok:=so.K.ok
 have hp:=b.hp
 have lp:=b.lp
 obtain ⟨v1,h1,e1,r1,o1⟩:=ww_Fds hcl (d:=d-1) om b.W
 have b1:=b.old o1
 obtain ⟨q1,l1,w1,x1⟩:=b1.rw_
 obtain ⟨v2,h2,e2,r2,o2⟩:=rq_Fds hcl (d:=d-1) om w1 (by rw [x1];exact ok)
 rw [x1] at r2
 have o12:=o1.trans o2
 have b2:=b1.old o2
 have p1:h1.get p=some (.cells [.p w 0,.p rw 0] false):=b1.hp
 have p2:h2.get p=some (.cells [.p w 0,.p rw 0] false):=b2.hp
 have e3:=ww_NowV hcl (d:=d-1) om b2.W
 obtain ⟨q2,l2,w2,x2⟩:=b2.rw_
 obtain ⟨a2,c2,hw2,_⟩:=w2.head
 have n2:(V.slice a2 l2.length c2 :: st.tl)[0+1]?=some (.int .u64 st.now):=rfl
 obtain ⟨h3,e4,o3⟩:=jmx hcl (d:=d-1) om b2.W tok
 have b3:=b2.old o3
 have p3:h3.get p=some (.cells [.p w 0,.p rw 0] false):=b3.hp
 obtain ⟨q3,l3,w3,x3⟩:=b3.rw_
 have e5:=jiI hcl (d:=d-1) om w3 tok
 rw [<- jm1] at e5
 have o13:=o12.trans o3
 have fl:=jho st.ws 96
 obtain ⟨cp1,⟨ad1,rfl⟩,i1⟩:=r1.shape
 obtain ⟨cp2,⟨ad2,rfl⟩,i2⟩:=r2.shape
 have g1 : ∀ j,j<(fdsL st.ws 96).length -> ∃ z,ad1=some (z,0)/\z<h3.nx/\h3.get z=some (.cells (ints (fdsL st.ws 96)) false):=fun j hj=>by
  obtain ⟨z,_,z2,z3,z4⟩:=i1 j hj
  cases z3
  have:=o2.1
  have:=o3.1
  exact ⟨z,rfl,by omega,by rw [o3.2 _ om,o2.2 _ z2,z4]⟩
 have g2 : ∀ j,j<(fdsL st.ws 96).length -> ∃ z,ad2=some (z,0)/\z<h3.nx/\h3.get z=some (.cells (ints (fdsL st.ws 96)) false):=fun j hj=>by
  obtain ⟨z,_,z2,z3,z4⟩:=i2 j hj
  cases z3
  have:=o3.1
  exact ⟨z,rfl,by omega,by rw [o3.2 _ z2,z4]⟩
 obtain ⟨a3,c3,hw3,_⟩:=w3.head
 have n3 : ∀ s:Nat,s<32->(V.slice a3 l3.length c3 :: st.tl)[0+34+(s:Int).toNat*1]?=some (.i (st.tb.pd s)):=fun s hs=>t_ct hs om
 have ec:=fun sg=>ww_Count hcl (d:=d-1) (sg:=sg) om b3.W
 clear i1 i2 r1 r2 w1 w2 w3 x1 x2 x3 b1 b2
 generalize hFL:fdsL st.ws 96=FL at e1 e2 g1 g2 fl ⊢
 have hneq : ¬ (FL.length:Int)≠(FL.length:Int):=fun e=>e rfl
 have hpe : ¬ st.tb.sum 32≠st.tb.sum 32:=fun e=>e rfl
 have hne : ¬ st.now≠st.now:=fun e=>e rfl
 generalize V.slice a2 l2.length c2 :: st.tl=rc at hw2 n2
 generalize V.slice a3 l3.length c3 :: st.tl=rc3 at hw3 n3
 refine jag (at_ hcl om rfl rfl rfl ?_)
 clear tok
 refine qx1 ?_
 refine Ops.callf_chk rfl e3 (jat rfl p2 rfl rfl (jat rfl hw2 n2 rfl ja6)) ?_
 refine qx1 ?_
 refine Ops.callf_chk rfl e4 (jat rfl p3 rfl rfl ja6) ?_
 refine qx1 ?_
 clear e1 e2 e3 e4 e5 p1 p2 hw2 n2
 refine Run.loop (fun m e g=>∃ j:Nat,m=34-j/\j<=34/\e=[(0,.p p 0),(3,.slice ad1 FL.length cp1),(4,.slice ad2 FL.length cp2),(5,.i ((j:Int)-1))]/\g=h3)
  (k:=34) Ze ⟨0,rfl,by omega,rfl,rfl⟩ ?_
 rintro _ _ h3 ⟨j,rfl,hj,rfl,rfl⟩ f ih
 by_cases hlt:(j:Int)-1<=32
 case pos=>
  have hj1:(j:Int)-1+1=((j+1:Nat):Int)-1:=by omega
  have eC:=ec ((j:Int)-1)
  by_cases hs:2<=j/\j<=32
  ·obtain ⟨s',hs'⟩ : ∃ s':Nat,j=s'+1:=⟨j-1,by omega⟩
   have ej:(j:Int)-1=(s':Int):=by omega
   have hcn:st.tb.cnt (s':Int)=st.tb.pd s':=by
    unfold Tb.cnt
    rw [if_pos (show (1:Int)<=(s':Int)/\(s':Int)<=31 by omega),zw]
   rw [ej] at eC hlt hj1 ⊢
   rw [hcn] at eC
   have hs1:(s':Int)>0:=by omega
   have hs2:(s':Int)<=31:=by omega
   have hn3:=n3 s' om
   have hcc : ¬ st.tb.pd s'≠st.tb.pd s':=fun e=>e rfl
   clear ec n3 g1 g2
   refine qx1 ?_
   rw [hj1]
   exact ih (34-(j+1)) om _ _ ⟨j+1,rfl,by omega,rfl,rfl⟩
  ·have hcn:st.tb.cnt ((j:Int)-1)=0:=by
    unfold Tb.cnt
    rw [if_neg]
    show ¬ ((1:Int)<=(j:Int)-1/\(j:Int)-1<=31)
    omega
   rw [hcn] at eC
   have hcc : ¬ (0:Int)≠0:=fun e=>e rfl
   by_cases hs1:(j:Int)-1>0
   ·have hs2 : ¬ (j:Int)-1<=31:=by omega
    clear ec n3 g1 g2 hs
    refine qx1 ?_
    rw [hj1]
    exact ih (34-(j+1)) om _ _ ⟨j+1,rfl,by omega,rfl,rfl⟩
   ·clear ec n3 g1 g2 hs
    refine qx1 ?_
    rw [hj1]
    exact ih (34-(j+1)) om _ _ ⟨j+1,rfl,by omega,rfl,rfl⟩
 clear ih ec n3 hw3
 refine qx1 ?_
 refine Run.loop (fun m e g=>∃ i:Nat,m=FL.length-i/\i<=FL.length/\e=[(0,.p p 0),(3,.slice ad1 FL.length cp1),(4,.slice ad2 FL.length cp2),(79,.i (FL.length:Int)),(80,.i (i:Int))]/\Old h3 g)
  (k:=FL.length) Ze ⟨0,rfl,by omega,rfl,Old.refl _⟩ ?_
 rintro _ _ g ⟨i,rfl,hi,rfl,og⟩ f ih
 have bg:=b3.old og
 have pg:=bg.hp
 by_cases hlt:(i:Int)<(FL.length:Int)
 case pos=>
  obtain ⟨z1,rfl,lz1,y1⟩:=g1 i om
  obtain ⟨z2,rfl,lz2,y2⟩:=g2 i om
  have y1g:g.get z1=some (.cells (ints FL) false):=by rw [og.2 _ lz1,y1]
  have y2g:g.get z2=some (.cells (ints FL) false):=by rw [og.2 _ lz2,y2]
  obtain ⟨x,hx⟩:=jd9 (l:=FL) (i:=i) om
  have hxi:(ints FL)[0+(i:Int).toNat*1]?=some (.i x):=by
   rw [show 0+(i:Int).toNat*1=i by omega];simp [hx]
  have hxx : ¬ x≠x:=fun e=>e rfl
  obtain ⟨g3,e6,o6⟩:=jlE hcl (d:=d-1) (fd:=x) om bg.W ok
  rw [jj3] at e6
  obtain ⟨q4,l4,w4,x4⟩:=(bg.old o6).rw_
  obtain ⟨g4,e7,c7⟩:=jlU hcl (d:=d-1) (fd:=x) om w4 (by rw [x4];exact ok)
  rw [x4,jj3] at e7
  have p6:=(bg.old o6).hp
  have y26:g3.get z2=some (.cells (ints FL) false):=by rw [o6.2 _ (zr lz2 og.1),y2g]
  have hi1:(i:Int)+1=((i+1:Nat):Int):=by omega
  have og4:=(og.trans o6).trans (Old.ofCh c7)
  clear g1 g2 w4 bg
  refine qx1 ?_
  refine Ops.callf_chk rfl e6 (jat rfl p6 rfl rfl (jat rfl y26 hxi rfl ja6)) ?_
  repeat' (first|refine qxy ?_|refine zbf rfl (fun _=>?_) fun _=>?_|refine zbg rfl (fun _=>?_) fun _=>?_|refine zbh rfl (fun _=>?_) fun _=>?_|refine zbm rfl (fun _=>?_) fun _=>?_|refine zbn rfl (fun _=>?_) fun _=>?_)
  ·next x=>simp at x
  rw [hi1]
  exact ih (FL.length-(i+1)) om _ _ ⟨i+1,rfl,by omega,rfl,og4⟩
 clear ih g1 g2
 have tok:st.tb.ok 1000000:=so.tb.mono om
 obtain ⟨v5,h5,e8,s5,o5⟩:=ww_Image hcl (d:=d-1) om (P.old (o13.trans og)) bg.W ok so.now tok so.nt
 have b5:=bg.old o5
 have p5:=b5.hp
 obtain ⟨q5,l5,w5,x5⟩:=b5.rw_
 obtain ⟨v6,h6,e9,s6,o6⟩:=rq_Image hcl (d:=d-1) (hdl:=st.tb.hd) (ct:=st.tb.pd) (no:=st.no) om w5 (by rw [x5];exact ok) so.now tok (by rw [x5];exact so.nt)
 rw [x5] at s6
 have L1:=jeM st.ws 96
 have L2:=jga st.ws st.ws.length
 have L3:=jdV st.tb.hd st.tb.pd 31
 have L4:(jly st.no).length<=1:=by cases st.no<;>simp [jly]
 have L5:=ok.len
 obtain ⟨_,e10,rfl⟩:=sm_ok hcl (d:=d-1) om (s5.keep (zq _) o6) s6 (by unfold jkB;simp;omega)
 have oF:=(o13.trans og).trans (o5.trans o6)
 clear tok so
 refine qx1 ?_
 refine Ops.callf_chk rfl e8 (jat rfl p5 rfl rfl ja6) ?_
 refine qx1 ?_
 exact ⟨rfl,oF⟩
end
abbrev joX:H->Int × Int × Int × List Int × Unit->List V->Prop:=jbJ (jcl .i64) (jbJ (jcl .i64) (jbJ (jcl .i64) (jbJ (jb5 1100 (jcl .u8)) jkn)))
theorem jnQ {h:H} : ∀ {l:List (Int × Int × Int × List Int × Unit)} {cs:List V},jbs joX h l cs -> ∃ L:List MvX,L.length=l.length/\cs=(L.map MvX.V).flatten /\ ∀ x∈L,MvOk h x
 | [],_,e=>⟨[],rfl,e,fun x hx=>by cases hx⟩
 | y :: l,_,⟨u,w,e,h1,h2⟩=>by
  obtain ⟨L,l1,l2,l3⟩:=jnQ h2
  obtain ⟨_,_,rfl,⟨rfl,_⟩,_,_,rfl,⟨rfl,_⟩,_,_,rfl,⟨rfl,_⟩,u5,w5,rfl,r5,hw⟩:=h1
  obtain rfl:w5=[]:=hw
  have ⟨ad,c,e5,_⟩:=r5
  subst e5
  obtain ⟨a,c,e6,hB⟩:=jmp r5
  refine ⟨⟨⟨y.1,y.2.1,y.2.2.1,y.2.2.2.1.map jl5⟩,.slice a y.2.2.2.1.length (.fix c)⟩ :: L,by simp [l1],by rw [e,l2,e6];rfl,fun x hx=>?_⟩
  rcases List.mem_cons.1 hx with rfl | hx
  ·exact ⟨a,.fix c,by simp,fun hl=>hB (by simpa using hl)⟩
  ·exact l3 x hx
theorem je0 {α : Type} {f : α -> List V} (hf : ∀ x,(f x).length=4) : ∀ L:List α,(L.map f).flatten.length=L.length*4
 | []=>rfl
 | x :: L=>by
  have:=je0 hf L
  show (f x++(L.map f).flatten).length=_
  rw [zg,this,hf]
  simp;omega
theorem jct {α : Type} {f : α -> List V} (hf : ∀ x,(f x).length=4) : ∀ {L:List α} {i:Nat} {x : α},L[i]?=some x->(((L.map f).flatten).drop (i*4)).take 4=f x
 | [],i,x,h=>by simp at h
 | y :: L,0,x,h=>by
  simp at h;subst h
  show ((f y++(L.map f).flatten).drop (0*4)).take 4=f y
  rw [Nat.zero_mul,zk,List.take_append_of_le_length (by rw [hf y];exact zq _),zh (by rw [hf y];exact zq _)]
 | y :: L,i+1,x,h=>by
  rw [List.map_cons,List.flatten_cons,show (i+1)*4=(f y).length+i*4 by rw [hf];omega,<- List.drop_drop,List.drop_left]
  exact jct hf (by simpa using h)
theorem MvOk.keep {h h':H} {x:MvX} (o:MvOk h x) (a:Old h h'):MvOk h' x:=by
 obtain ⟨z,c,e,g⟩:=o
 exact ⟨z,c,e,fun hl=>⟨(g hl).none_,(g hl).fits,fun hn=>by
  obtain ⟨b,o,cs,ro,q1,q2,q3,q4⟩:=(g hl).at_ hn
  exact ⟨b,o,cs,ro,q1,zr q2 a.1,by rw [a.2 b q2,q3],q4⟩⟩⟩
section
variable {cl:Nat->Call} (hcl:Sem cl)
include hcl
end
theorem joA {α : Type} {f : α -> List V} (hf : ∀ x,(f x).length=4) {cs:List V} : ∀ {l:List α} {o:Nat},(∀ (i:Nat) (x : α),l[i]?=some x->(cs.drop (o+i*4)).take 4=f x)->(cs.drop o).take (l.length*4)=(l.map f).flatten
 | [],o,_=>by simp
 | x :: l,o,h=>by
  have h0:=h 0 x rfl
  rw [Nat.zero_mul,Nat.add_zero] at h0
  have ih:=joA hf (l:=l) (o:=o+4) fun i y hi=>by
   have:=h (i+1) y (by simpa using hi)
   rw [show o+(i+1)*4=o+4+i*4 by omega] at this
   exact this
  have e:(x :: l).length*4=4+l.length*4:=by simp;omega
  rw [e,List.take_add,h0,List.map_cons,List.flatten_cons,List.drop_drop,ih]
theorem append4 {α : Type} {f : α -> List V} (hf : ∀ x,(f x).length=4) {h:H} {P:Nat->Prop} {bytes:Nat} {s v:V} {l:List α} (hb:bytes<=64) (hs:s = .nils \/ ∃ b,s = .slice (some (b,0)) 0 (.fix 0)) (a:At4 h P f v l) (hn:l.length<=1000000) :
  ∃ v' h',jaC h 4 bytes s v=some (v',h')/\((l=[]/\v'=s/\h'=h)\/(l≠[]/\v' = .slice (some (h.nx,0)) l.length (.grow 4)/\h'=h.new (.cells (l.map f).flatten false))):=by
 obtain ⟨ad,c,rfl,_,_,g⟩:=a
 have hcond:(Nat.ble ((0+l.length)*bytes) (2 ^ 46)&&Nat.ble (0+l.length) (2 ^ 46))=true:=by
  have:(0+l.length)*bytes<=1000000*64:=Nat.mul_le_mul om hb
  simp only [zp,Nat.ble_eq];omega
 by_cases hl:l=[]
 ·subst hl
  have hsrc:jax h 4 0 (.slice ad 0 c)=some []:=by cases ad<;>rfl
  refine ⟨s,h,?_,.inl ⟨rfl,rfl,rfl⟩⟩
  rw [List.length_nil] at hcond
  rcases hs with rfl | ⟨b,rfl⟩<;>(simp only [jaC,lenOf,List.length_nil,hsrc];rw [hcond];rfl)
 ·obtain ⟨b',o,cs,ro,rfl,h1,_,h2,h3⟩:=g hl
  have hpos:0<l.length:=List.length_pos_iff.2 hl
  have p2:=joA hf h3
  have hz:(l.length == 0)=false:=by simp;omega
  have hz1:(l.length*4 == 0)=false:=by simp;omega
  have hlast:=jf6 (h3 (l.length-1) _ (za om)) (hf _)
  have hsrc:jax h 4 l.length (.slice (some (b',o)) l.length c)=some (l.map f).flatten:=by
   simp only [jax,hz1,cond_false]
   rw [jcp h2 om,p2]
  have hble:Nat.ble (0+l.length) 0=false:=by
   cases hb2:Nat.ble (0+l.length) 0 with
   | false=>rfl
   | true=>rw [Nat.ble_eq] at hb2;omega
  refine ⟨.slice (some (h.nx,0)) l.length (.grow 4),h.new (.cells (l.map f).flatten false),?_,.inr ⟨hl,rfl,rfl⟩⟩
  rcases hs with rfl | ⟨b,rfl⟩
  ·simp only [jaC,lenOf,hsrc,hcond,hz,cond_true,cond_false]
   rfl
  ·simp only [jaC,lenOf,hsrc]
   rw [hcond,hz,hble]
   simp only [cond_true,cond_false,Nat.zero_mul,beq_self_eq_true,List.nil_append,Nat.zero_add]
   rfl
theorem At4.of_new {α : Type} {f : α -> List V} (hf : ∀ x,(f x).length=4) {h:H} {P:Nat->Prop} {l:List α} (hP:P h.nx):At4 (h.new (.cells (l.map f).flatten false)) P f (.slice (some (h.nx,0)) l.length (.grow 4)) l :=
 ⟨_,_,rfl,fun e=>(by cases e),rfl,fun _=>⟨h.nx,0,_,false,rfl,by simp,hP,jac _,fun i x hi=>by rw [Nat.zero_add];exact jct hf hi⟩⟩
theorem At4.nil {α : Type} {f : α -> List V} {h:H} {P:Nat->Prop} : At4 h P f .nils ([]:List α):=⟨none,.fix 0,rfl,fun _=>⟨rfl,rfl⟩,zq _,fun e=>absurd rfl e⟩
theorem At4.zero {α : Type} {f : α -> List V} {h:H} {P:Nat->Prop} {b:Nat} : At4 h P f (.slice (some (b,0)) 0 (.fix 0)) ([]:List α):=⟨_,_,rfl,fun e=>(by cases e),zq _,fun e=>absurd rfl e⟩
section
variable {call:Call} {fuel base:Nat} {ops:List Ins} {keep:List Nat} {K:List Fr} {e:Env} {h:H} {Q:Post} {ix:Nat} {dst:Option Nat}
theorem Ops.app4 {α : Type} {f : α -> List V} (hf : ∀ x,(f x).length=4) {P:Nat->Prop} {bytes:Nat} {x y:Opd} {s v:V} {l:List α} (hx:x.ev e=some s) (hy:y.ev e=some v) (hb:bytes<=64) (hs:s = .nils \/ ∃ b,s = .slice (some (b,0)) 0 (.fix 0)) (a:At4 h P f v l) (hn:l.length<=1000000)
  (k : ∀ v' h',((l=[]/\v'=s/\h'=h)\/(l≠[]/\v' = .slice (some (h.nx,0)) l.length (.grow 4)/\h'=h.new (.cells (l.map f).flatten false)))->Ops call fuel base ops keep K (layv e dst v') h' Q):Ops call fuel base (⟨ix,dst,.append 4 bytes x y,none,none,[]⟩ :: ops) keep K e h Q:=by
 obtain ⟨v',h',e1,e2⟩:=append4 hf hb hs a hn
 exact Ops.step (I.run_eff rfl (by simp only [I.eff,hx,hy,e1])) (k v' h' e2)
end
section
variable {cl:Nat->Call} (hcl:Sem cl)
include hcl
theorem sc_bytes {d:Nat} {h:H} {v:V} {l:List UInt8} (hd:1<=d) (hv:VB h v l) (hn:l.length<=100000) : ∃ v1 h1,cl d (.fn F.jei) [v] h=some (v1,h1)/\Old h h1/\VB h1 v1 l/\(∀ z,v1.at?=some z->h.nx<=z) /\ ∃ a c,v1 = .slice a l.length c:=by
 obtain ⟨a,c,rfl,n,f,g⟩:=id hv
 refine at_ hcl om rfl rfl rfl ?_
 cases a with
 | none=>
  obtain ⟨rfl,rfl⟩:=n rfl
  refine qx1 ?_
  all_goals first | exact ⟨Old.refl h,VB.nil h,fun z hz=>(by cases hz),_,_,rfl⟩ | skip
 | some p=>
  refine qm1 ?_
  refine Ops.copyB (B:=h.nx) rfl rfl (hv.keep2 Zd fun hl z hz=>jad (hv.lt hl hz)) om fun a c h' hv' _ o hz=>?_
  refine qm1 ?_
  refine ⟨(Old.refl h).new.trans o,hv',fun z e=>?_,_,_,rfl⟩
  cases e
  rcases hz with rfl | hz
  ·exact zq _
  ·have:h.nx+1<=a:=hz.1
   omega
theorem sc_moves {d:Nat} {h:H} {P:Nat->Prop} {v:V} {l:List MvX} (hd:1<=d) (a:At4 h P MvX.V v l) (hn:l.length<=100000) : ∃ v1 h1,cl d (.fn F.jcB) [v] h=some (v1,h1)/\Old h h1 /\
  ∃ ad c,v1 = .slice ad l.length c/\(ad=none->c = .fix 0/\l=[])/\Cap.fits c l.length 4/\(l≠[] -> ∃ b,ad=some (b,0)/\h.nx<=b/\b<h1.nx/\h1.get b=some (.cells (l.map MvX.V).flatten false)):=by
 obtain ⟨ad,c,rfl,n,f,g⟩:=id a
 refine at_ hcl om rfl rfl rfl ?_
 cases ad with
 | none=>
  obtain ⟨rfl,rfl⟩:=n rfl
  refine qx1 ?_
  all_goals first | exact ⟨Old.refl h,none,.fix 0,rfl,fun _=>⟨rfl,rfl⟩,zq _,fun e=>absurd rfl e⟩ | skip
 | some p=>
  refine qm1 ?_
  refine Ops.app4 (l:=l) (f:=MvX.V) (P:=P) (fun _=>rfl) rfl rfl om (.inr ⟨_,rfl⟩) (a.old (Old.refl h).new) om fun v' h' hk=>?_
  rcases hk with ⟨rfl,rfl,rfl⟩ | ⟨hl,rfl,rfl⟩
  ·refine qm1 ?_
   exact ⟨(Old.refl h).new,_,_,rfl,fun e=>(by cases e),zq _,fun e=>absurd rfl e⟩
  ·refine qm1 ?_
   exact ⟨(Old.refl h).new.new,_,_,rfl,fun e=>(by cases e),rfl,fun _=>⟨_,rfl,by simp,by simp,jac _⟩⟩
end
theorem jkM : ∀ {l:List MvX} {i:Nat} {m:Mv} {dv v:V},l[i]?=some ⟨m,dv⟩->((l.map MvX.V).flatten).set (i*4+3) v=((l.set i ⟨m,v⟩).map MvX.V).flatten
 | [],i,m,dv,v,h=>by simp at h
 | y :: l,0,m,dv,v,h=>by
  simp at h;subst h;rfl
 | y :: l,i+1,m,dv,v,h=>by
  have ih:=jkM (l:=l) (i:=i) (m:=m) (dv:=dv) (v:=v) (by simpa using h)
  rw [List.map_cons,List.flatten_cons,show (i+1)*4+3=(MvX.V y).length+(i*4+3) by show _=4+_;omega,List.set_append_right _ _ (Nat.le_add_right _ _),Nat.add_sub_cancel_left,ih]
  rfl
theorem RowZ.vi {N:Nat} {h:H} {v:V} {l:List Int} (r:RowZ N h v l):VI h v l:=by
 rcases r with r | ⟨rfl,b,rfl,h1,h2⟩
 ·rcases r with ⟨h0,_,rfl⟩ | ⟨q,h1,h2,rfl,h4,h5⟩
  ·obtain rfl:=zn.1 h0
   exact VI.nil h
  ·exact ⟨_,_,rfl,fun e=>(by cases e),rfl,fun _=>⟨q,0,_,false,rfl,h2,h4,fun i x hi=>by rw [Nat.zero_add];simp [hi]⟩⟩
 ·exact ⟨_,_,rfl,fun e=>(by cases e),zq _,fun e=>absurd rfl e⟩
section
variable {cl:Nat->Call} (hcl:Sem cl)
include hcl
theorem wm_twin {d:Nat} {h:H} {P Q:Nat->Prop} {x:SpX} (hd:2<=d) (a:StepAt h P Q x) (h1:x.ml.length<=1000) (h2:x.ol.length<=1000) (h3 : ∀ m∈x.ml,m.m.D.length<=2000) :
  ∃ y h',cl d (.fn F.jiW) [.agg x.V] h=some (.agg (SpX.V y),h')/\y.sp=x.sp/\StepAt h' (h.nx <= ·) (h.nx <= ·) y/\Old h h':=by
 suffices q : ∃ w h',cl d (.fn F.jiW) [.agg x.V] h=some (w,h') /\ ∃ y,w = .agg (SpX.V y)/\y.sp=x.sp/\StepAt h' (h.nx <= ·) (h.nx <= ·) y/\Old h h' by
  obtain ⟨_,h',e,y,rfl,q⟩:=q;exact ⟨y,h',e,q⟩
 have o:Old h ((h.new (.cells x.V false)).new (.cells [.int .u64 0,.bool false,.nils,.nils] false)):=(Old.refl h).new.new
 have g0:((h.new (.cells x.V false)).new (.cells [.int .u64 0,.bool false,.nils,.nils] false)).get h.nx=some (.cells x.V false):=qgt
 have g0':((h.new (.cells x.V false)).new (.cells [.int .u64 0,.bool false,.nils,.nils] false)).get (h.nx+1)=some (.cells [.int .u64 0,.bool false,.nils,.nils] false):=qgt
 have x0:((h.new (.cells x.V false)).new (.cells [.int .u64 0,.bool false,.nils,.nils] false)).nx=h.nx+2:=rfl
 have a0:=a.old o
 obtain ⟨ov,h4,e4,o4,r4⟩:=jjq hcl (d:=d-1) om a0.ov.1 om
 obtain ⟨oa,oc,rfl,_⟩:=id r4.vi
 have a4:=a0.old o4
 obtain ⟨mv,h5,e5,o5,ad,c,rfl,n5,f5,g5⟩:=sc_moves hcl (d:=d-1) om a4.mv om
 have b4:h4.get h.nx=some (.cells x.V false):=by rw [o4.2 _ om,g0]
 have b5:h5.get h.nx=some (.cells x.V false):=by rw [o5.2 _ (by have:=o4.1;omega),b4]
 have c5:h5.get (h.nx+1)=some (.cells [.int .u64 0,.bool false,.nils,.nils] false):=by rw [o5.2 _ (by have:=o4.1;omega),o4.2 _ om,g0']
 have x4:=o4.1
 have x5:=o5.1
 obtain ⟨am,cm,em,_⟩:=id a.mv
 have q3:(x.V)[0+3]?=some x.mv:=rfl
 have q2:(x.V)[0+2]?=some x.ov:=rfl
 refine at_ hcl om rfl rfl rfl ?_
 obtain ⟨C,hC⟩ : ∃ C,C=c131_2:=⟨_,rfl⟩
 simp only [c131,c131_3,<- hC,yB]
 have T : ∀ h6:H,h6=(h5.set h.nx (.cells [.int .u64 x.t,.bool x.intr,.slice oa x.ol.length oc,x.mv] false)).set h.nx (.cells [.int .u64 x.t,.bool x.intr,.slice oa x.ol.length oc,.slice ad x.ml.length c] false)->Run (cl (d-1)) fuel C [] [(1,.p h.nx 0),(2,.p (h.nx+1) 0)] h6 (Fin c131.res fun w h'=>∃ y,w = .agg (SpX.V y)/\y.sp=x.sp/\StepAt h' (h.nx <= ·) (h.nx <= ·) y/\Old h h'):=by
  intro h6 hh
  have x6:h6.nx=h5.nx:=by rw [hh];simp
  have g6 : ∀ j,j≠h.nx->h6.get j=h5.get j:=fun j hj=>by rw [hh,jaa hj,jaa hj]
  have b6:h6.get h.nx=some (.cells [.int .u64 x.t,.bool x.intr,.slice oa x.ol.length oc,.slice ad x.ml.length c] false):=by rw [hh];exact jab _
  have r6:RowZ (h.nx+2) h6 (.slice oa x.ol.length oc) x.ol:=(r4.keep (N:=h.nx+2) om fun z hz=>by
   have:=r4.at_ge hz
   rw [g6 z om,o5.2 z this.2])
  have o6:Old h h6:=⟨by rw [x6];have:=o.1;omega,fun j hj=>by rw [g6 j om,((o.trans o4).trans o5).2 j hj]⟩
  have d6 : ∀ m∈x.ml,VB h6 m.dv m.m.D:=fun m hm=>(a.dv m hm).1.keep2 o6.1 fun hl z hz=>o6.2 z ((a.dv m hm).1.lt hl hz)
  have m6:x.ml≠[] -> ∃ b,ad=some (b,0)/\h.nx+2<=b/\b<h6.nx/\(∀ z,(V.slice oa x.ol.length oc).at?=some z->z<b)/\h6.get b=some (.cells (x.ml.map MvX.V).flatten false):=fun hn=>by
   obtain ⟨b,e1,e2,e3,e4⟩:=g5 hn
   exact ⟨b,e1,by omega,by omega,fun z hz=>by have:=(r4.at_ge hz).2;omega,by rw [g6 b om,e4]⟩
  have c6:h6.get (h.nx+1)=some (.cells [.int .u64 0,.bool false,.nils,.nils] false):=by rw [g6 _ om,c5]
  clear g6 hh a0 a4 e4 e5 b4 b5 c5 g0 g0' r4 o4 o5 o g5
  obtain ⟨b,hb2,hb3,hb4⟩ : ∃ b,h.nx+2<=b/\(∀ z,(V.slice oa x.ol.length oc).at?=some z->z<b)/\(x.ml≠[]->ad=some (b,0)/\b<h6.nx/\h6.get b=some (.cells (x.ml.map MvX.V).flatten false)):=by
   by_cases hn:x.ml=[]
   ·exact ⟨h6.nx,by omega,fun z hz=>(r6.at_ge hz).2,fun e=>absurd hn e⟩
   ·obtain ⟨b,e1,e2,e3,e4,e5⟩:=m6 hn
    exact ⟨b,e2,e4,fun _=>⟨e1,e3,e5⟩⟩
  clear m6
  rw [hC]
  clear hC
  refine qx1 ?_
  refine Run.loop (fun m e g=>∃ (i:Nat) (cur:List MvX),m=x.ml.length-i/\i<=x.ml.length/\e=[(1,.p h.nx 0),(2,.p (h.nx+1) 0),(14,.i (x.ml.length:Int)),(15,.i (i:Int))]/\cur.length=x.ml.length/\cur.map MvX.m=x.ml.map MvX.m/\(∀ j,i<=j->cur[j]?=x.ml[j]?)/\(∀ j y,j<i->cur[j]?=some y->VB g y.dv y.m.D /\ ∀ z,y.dv.at?=some z->h6.nx<=z)/\(x.ml≠[]->g.get b=some (.cells (cur.map MvX.V).flatten false))/\h6.nx<=g.nx /\ ∀ j,j<h6.nx->j≠b->g.get j=h6.get j)
   (k:=x.ml.length) Ze ⟨0,x.ml,rfl,by omega,rfl,rfl,rfl,fun _ _=>rfl,fun j y hj=>by omega,fun hn=>(hb4 hn).2.2,zq _,fun _ _ _=>rfl⟩ ?_
  rintro _ _ g ⟨i,cur,rfl,hi,rfl,hcl1,hcm,hcr,hcv,hcb,hgx,hgk⟩ n' ih
  have bg:g.get h.nx=some (.cells [.int .u64 x.t,.bool x.intr,.slice oa x.ol.length oc,.slice ad x.ml.length c] false):=by rw [hgk _ om om,b6]
  have cg:g.get (h.nx+1)=some (.cells [.int .u64 0,.bool false,.nils,.nils] false):=by rw [hgk _ om om,c6]
  by_cases hlt:(i:Int)<x.ml.length
  case neg=>
   obtain rfl:i=x.ml.length:=by omega
   have hog:Old h (g.set (h.nx+1) (.cells [.int .u64 x.t,.bool x.intr,.slice oa x.ol.length oc,.slice ad x.ml.length c] false)):=⟨by simp;have:=o6.1;omega,fun j hj=>by rw [jaa om,hgk j om om,o6.2 j hj]⟩
   have hst:StepAt (g.set (h.nx+1) (.cells [.int .u64 x.t,.bool x.intr,.slice oa x.ol.length oc,.slice ad x.ml.length c] false)) (h.nx <= ·) (h.nx <= ·) ⟨x.t,x.intr,x.ol,.slice oa x.ol.length oc,cur,.slice ad x.ml.length c⟩:=by
    refine ⟨⟨?_,fun hl z hz=>by have:=(r6.at_ge hz).1;show h.nx<=z;omega⟩,?_,fun m hm=>?_,a.t0,a.t1⟩
    ·have r7:RowZ (h.nx+2) (g.set (h.nx+1) (.cells [.int .u64 x.t,.bool x.intr,.slice oa x.ol.length oc,.slice ad x.ml.length c] false)) (.slice oa x.ol.length oc) x.ol:=r6.keep Zc fun z hz=>by
      have:=r6.at_ge hz
      have:=hb3 z hz
      rw [jaa om,hgk z om om]
     exact r7.vi
    ·have hz:cur=[]↔x.ml=[]:=by rw [<- zn,hcl1,zn]
     refine ⟨ad,c,by rw [hcl1],fun e=>⟨(n5 e).1,hz.2 (n5 e).2⟩,by rw [hcl1];exact f5,fun hn=>?_⟩
     have hn':x.ml≠[]:=fun e=>hn (hz.2 e)
     obtain ⟨e1,e2,_⟩:=hb4 hn'
     exact ⟨b,0,_,false,e1,by simp;omega,by show h.nx<=b;omega,by rw [jaa om,hcb hn'],fun i y hi=>by rw [Nat.zero_add];exact jct (fun _=>rfl) hi⟩
    ·obtain ⟨j,hjl,e⟩:=List.getElem_of_mem hm
     have hjl:j<cur.length:=hjl
     obtain ⟨p1,p2⟩:=hcv j m om (by rw [za hjl,e])
     exact ⟨p1.keep2 Zd fun hl z hz=>jaa (by have:=p2 z hz;omega),fun _ z hz=>by have:=p2 z hz;show h.nx<=z;omega⟩
   have hsp:SpX.sp ⟨x.t,x.intr,x.ol,.slice oa x.ol.length oc,cur,.slice ad x.ml.length c⟩=x.sp:=by
    unfold SpX.sp
    rw [hcm]
   clear ih hcr hcv hcb hgk hb4 r6 d6 b6 c6 hcm
   refine qm1 ?_
   exact jbg rfl (jab _) rfl ⟨_,rfl,hsp,hst,hog⟩
  obtain ⟨y,hy⟩:=jd9 (l:=x.ml) (i:=i) om
  have hcy:cur[i]?=some y:=by rw [hcr i (zq _),hy]
  have hne:x.ml≠[]:=by intro e;rw [e] at hy;simp at hy
  have hym:=zc hy
  obtain ⟨rfl,lb,_⟩:=hb4 hne
  have gb:=hcb hne
  have hv:VB g y.dv y.m.D:=(d6 y hym).keep2 hgx fun hl z hz=>by
   have:=(a.dv y hym).1.lt hl hz
   exact hgk z om om
  obtain ⟨v1,g1,e1,o1,hv1,hz1,a1,c1,rfl⟩:=sc_bytes hcl (d:=d-1) om hv (by have:=h3 y hym;omega)
  have cs3:((cur.map MvX.V).flatten)[0+(i:Int).toNat*4+3]?=some y.dv:=by
   rw [Nat.zero_add,zw,jgP (jct (fun _=>rfl) hcy) om];rfl
  have bg1:g1.get h.nx=some (.cells [.int .u64 x.t,.bool x.intr,.slice oa x.ol.length oc,.slice (some (b,0)) x.ml.length c] false):=by rw [o1.2 _ om,bg]
  have gb1:g1.get b=some (.cells (cur.map MvX.V).flatten false):=by rw [o1.2 _ om,gb]
  have hfl:((cur.map MvX.V).flatten).length=cur.length*4:=je0 (fun _=>rfl) cur
  have hst:=jkM (l:=cur) (i:=i) (m:=y.m) (dv:=y.dv) (v := .slice a1 y.m.D.length c1) hcy
  have hi1:(i:Int)+1=((i+1:Nat):Int):=by omega
  have hdm:=h3 y hym
  generalize hfc:(cur.map MvX.V).flatten=fc at gb gb1 cs3 hfl hst
  clear hb4 hcb d6 h3
  refine qx1 ?_
  refine Ops.callf_chk rfl e1 (jat rfl bg1 rfl rfl ja6) ?_
  refine qx1 ?_
  refine Ops.store1 (l:=fc) rfl rfl rfl gb1 om ?_
  refine qx1 ?_
  rw [hi1,show 0+(i:Int).toNat*4+3=i*4+3 by omega,hst]
  refine ih (x.ml.length-(i+1)) om _ _ ⟨i+1,cur.set i ⟨y.m,.slice a1 y.m.D.length c1⟩,rfl,by omega,rfl,by simp [hcl1],?_,fun j hj=>?_,fun j w hj hw=>?_,fun _=>jab _,by simp;have:=o1.1;omega,fun j hj hjb=>?_⟩
  ·rw [<- hcm]
   apply List.ext_getElem?
   intro j
   simp only [List.getElem?_map,zi]
   by_cases e:i=j
   ·subst e
    rw [if_pos rfl,if_pos om,hcy];rfl
   ·rw [if_neg e]
  ·rw [List.getElem?_set_ne om,hcr j om]
  ·by_cases e:j=i
   ·subst e
    rw [List.getElem?_set_self om] at hw
    cases hw
    exact ⟨hv1.keep2 Zd fun hl z hz=>jaa (by have:=hz1 z hz;omega),fun z hz=>by have:=hz1 z hz;omega⟩
   ·rw [List.getElem?_set_ne om] at hw
    obtain ⟨p1,p2⟩:=hcv j w om hw
    exact ⟨p1.keep2 (by simp;exact o1.1) fun hl z hz=>by rw [jaa (by have:=p2 z hz;omega),o1.2 z (p1.lt hl hz)],p2⟩
  ·rw [jaa hjb,o1.2 j om,hgk j hj hjb]
 clear a0 a4
 refine qm1 ?_
 refine Ops.callf_chk rfl e4 (jat rfl b4 q3 rfl ja6) ?_
 refine qm1 ?_
 exact T _ rfl
end
theorem SpX.one {h:H} {P Q:Nat->Prop} {x:SpX} (a:StepAt h P Q x):(SpX.V x).all V.one=true:=by
 obtain ⟨⟨⟨_,_,e1,_⟩,_⟩,⟨_,_,e2,_⟩,_,_,_⟩:=a
 show [V.int .u64 x.t,.bool x.intr,x.ov,x.mv].all V.one=true
 rw [e1,e2]
 rfl
theorem At4.of_row {α : Type} {f : α -> List V} (hf : ∀ x,(f x).length=4) {N:Nat} {h:H} {v:V} {l:List α} (r:Row N h 4 v l.length (l.map f).flatten):At4 h (N <= ·) f v l:=by
 rcases r with ⟨h0,_,rfl⟩ | ⟨q,h1,h2,rfl,h4,h5⟩
 ·obtain rfl:=zn.1 h0
  exact At4.nil
 ·exact ⟨_,_,rfl,fun e=>(by cases e),rfl,fun _=>⟨q,0,_,false,rfl,h2,h1,h4,fun i x hi=>by rw [Nat.zero_add];exact jct hf hi⟩⟩
def Wr (N M:Nat) (h:H) (v:V):Prop := ∀ z,v.at?=some z->N<=z/\z<M /\ ∃ cs,h.get z=some (.cells cs false)
def SpX.few (x:SpX):Prop:=x.ml.length<=1000/\x.ol.length<=1000 /\ ∀ m∈x.ml,m.m.D.length<=2000
section
variable {cl:Nat->Call} (hcl:Sem cl)
include hcl
theorem jlH {d:Nat} {h:H} {P Q:Nat->Prop} {v:V} {l:List SpX} (hd:3<=d) (a:je9 h P Q v l) (hl:l.length<=2000) (hf : ∀ x∈l,x.few) :
  ∃ v' l' h',cl d (.fn F.jhN) [v] h=some (v',h')/\l'.map SpX.sp=l.map SpX.sp/\At4 h' (h.nx <= ·) SpX.V v' l'/\(∀ x∈l',StepAt h' (fun z=>h.nx<=z/\V.at? v'≠some z) (fun z=>h.nx<=z/\V.at? v'≠some z) x)/\Wr h.nx h'.nx h' v'/\Old h h':=by
 suffices q : ∃ w h',cl d (.fn F.jhN) [v] h=some (w,h') /\ ∃ l',l'.map SpX.sp=l.map SpX.sp/\At4 h' (h.nx <= ·) SpX.V w l'/\(∀ x∈l',StepAt h' (fun z=>h.nx<=z/\V.at? w≠some z) (fun z=>h.nx<=z/\V.at? w≠some z) x)/\Wr h.nx h'.nx h' w/\Old h h' by
  obtain ⟨v',h',e,l',q⟩:=q;exact ⟨v',l',h',e,q⟩
 obtain ⟨⟨ad,c,rfl,_,_,hb⟩,hs⟩:=a
 refine at_ hcl om rfl rfl rfl ?_
 refine qx1 ?_
 refine Run.loop (fun m e g=>∃ (i:Nat) (acc:V) (out:List SpX),m=l.length-i/\i<=l.length/\e=[(3,acc),(6,.slice ad l.length c),(7,.i (l.length:Int)),(8,.i (i:Int))]/\out.map SpX.sp=(l.take i).map SpX.sp/\Row h.nx g 4 acc i (out.map SpX.V).flatten/\(∀ x∈out,StepAt g (fun z=>h.nx<=z/\acc.at?≠some z) (fun z=>h.nx<=z/\acc.at?≠some z) x)/\Old h g)
  (k:=l.length) Ze ⟨0,.nils,[],rfl,by omega,rfl,rfl,Row.nil _ _ _,(fun x hx=>by cases hx),Old.refl _⟩ ?_
 rintro _ _ g ⟨i,acc,out,rfl,hi,rfl,ho,row,hso,og⟩ n' ih
 by_cases hlt:(i:Int)<l.length
 case neg=>
  obtain rfl:i=l.length:=by omega
  rw [List.take_length] at ho
  have hol:out.length=l.length:=by have:=congrArg List.length ho;simpa using this
  rw [<- hol] at row
  have hfin:At4 g (h.nx <= ·) SpX.V acc out:=At4.of_row (fun _=>rfl) row
  have hw:Wr h.nx g.nx g acc:=fun z hz=>by
   rcases row with ⟨_,_,rfl⟩ | ⟨q,k1,k2,rfl,h4,_⟩
   ·cases hz
   ·cases hz;exact ⟨k1,k2,_,h4⟩
  clear ih hb hs row
  refine qx1 ?_
  exact ⟨out,ho,hfin,hso,hw,og⟩
 obtain ⟨x,hx⟩:=jd9 (l:=l) (i:=i) om
 obtain ⟨b,oo,cs,ro,rfl,lb,_,gb,hc⟩:=hb (by intro e;rw [e] at hx;simp at hx)
 have gb1:g.get b=some (.cells cs ro):=by rw [og.2 b lb,gb]
 have h4:(cs.drop (oo+(i:Int).toNat*4)).take 4=x.V:=by rw [zw];exact hc i x hx
 have hlen:=jf6 h4 rfl
 have hxm:=zc hx
 have og1:Old g ((g.new (.cells [.int .u64 0,.bool false,.nils,.nils] false)).set g.nx (.cells x.V false)):=(Old.refl g).new.set (zq _)
 have gx1:((g.new (.cells [.int .u64 0,.bool false,.nils,.nils] false)).set g.nx (.cells x.V false)).get g.nx=some (.cells x.V false):=jab _
 have gn1:((g.new (.cells [.int .u64 0,.bool false,.nils,.nils] false)).set g.nx (.cells x.V false)).nx=g.nx+1:=rfl
 obtain ⟨y,g2,e2,hy,sy,o2⟩:=wm_twin hcl (d:=d-1) om ((hs x hxm).old (og.trans og1)) (hf x hxm).1 (hf x hxm).2.1 (hf x hxm).2.2
 have hone:=SpX.one (hs x hxm)
 have hi1:(i:Int)+1=((i+1:Nat):Int):=by omega
 have hat : ∀ z,acc.at?=some z->h.nx<=z/\z<g.nx:=fun z hz=>row.at_ge hz
 have row2:Row h.nx g2 4 acc i (out.map SpX.V).flatten:=row.keep (by have:=o2.1;omega) fun z hz=>by rw [o2.2 z (by have:=hat z hz;omega),og1.2 z (hat z hz).2]
 have ognx:=og.1
 clear hb hs hc
 refine qm1 ?_
 refine Ops.loadN rfl gb1 hlen ?_
 rw [h4]
 refine qm1 ?_
 refine Ops.storeN (o:=0) (vs:=x.V) rfl rfl rfl hone (jac _) Zd ?_
 rw [show jao ([.int .u64 0,.bool false,.nils,.nils]:List V) 0 x.V=x.V from rfl]
 generalize (g.new (.cells [.int .u64 0,.bool false,.nils,.nils] false)).set g.nx (.cells x.V false)=G1 at og1 gx1 gn1 e2 o2 sy
 have o2x:=o2.1
 have hto:(l.take (i+1)).map SpX.sp=(l.take i).map SpX.sp++[x.sp]:=by rw [List.take_add_one,hx];simp
 have sy1:=SpX.one sy
 refine qx1 ?_
 refine Ops.loadN (n:=4) rfl gx1 Zd ?_
 rw [show ((SpX.V x).drop 0).take 4=x.V from rfl]
 refine qx1 ?_
 refine Ops.push (sz:=4) (bytes:=64) (N:=h.nx) (new:=SpX.V y) rfl rfl rfl sy1 om rfl rfl row2 om om om fun v' g3 row' x3 z3 k3=>?_
 refine qm1 ?_
 rw [hi1]
 refine ih (l.length-(i+1)) om _ _ ⟨i+1,v',out++[y],rfl,by omega,rfl,by rw [hto,List.map_append,ho,<- hy];rfl,by rw [List.map_append,List.flatten_append];simpa using row',fun w hw=>?_,by omega,fun j hj=>by rw [k3 j om fun e=>(by have:=hat j e;omega),o2.2 j om,og1.2 j om,og.2 j hj]⟩
 ·have kz : ∀ z,v'.at?=some z->g2.nx<=z:=z3
  rcases List.mem_append.1 hw with hw | hw
  ·have kp : ∀ z,z<g.nx->(h.nx<=z/\acc.at?≠some z)->g3.get z=g.get z/\(h.nx<=z/\v'.at?≠some z):=fun z hz hp=>⟨by rw [k3 z om hp.2,o2.2 z om,og1.2 z hz],hp.1,fun e=>by have:=kz z e;omega⟩
   exact (hso w hw).keep om kp kp
  ·obtain rfl:w=y:=by simpa using hw
   have kp : ∀ z,z<g2.nx->G1.nx<=z->g3.get z=g2.get z/\(h.nx<=z/\v'.at?≠some z):=fun z hz hp=>⟨k3 z hz fun e=>by have:=hat z e;omega,by omega,fun e=>by have:=kz z e;omega⟩
   exact sy.keep x3 kp kp
theorem wm_New {d:Nat} {h:H} {P Q:Nat->Prop} {v:V} {l:List SpX} (hd:16<=d) (a:je9 h P Q v l) (hl:l.length<=2000) (hf : ∀ x∈l,x.few) (hm : ∀ x∈l,x.sp.may) :
  ∃ sb v' l' h',cl d (.fn F.jhQ) [v] h=some (.tup [.p sb 0,.i 0],h')/\l'.map SpX.sp=l.map SpX.sp/\At4 h' (fun z=>h.nx<=z/\z≠sb) SpX.V v' l'/\(∀ x∈l',StepAt h' (fun z=>(h.nx<=z/\z≠sb)/\v'.at?≠some z) (fun z=>(h.nx<=z/\z≠sb)/\v'.at?≠some z) x)/\h'.get sb=some (.cells [v',.nils] false)/\Wr h.nx sb h' v'/\h.nx<=sb/\sb<h'.nx/\Old h h':=by
 suffices q : ∃ w h',cl d (.fn F.jhQ) [v] h=some (w,h') /\ ∃ sb v' l',w = .tup [.p sb 0,.i 0]/\l'.map SpX.sp=l.map SpX.sp/\At4 h' (fun z=>h.nx<=z/\z≠sb) SpX.V v' l'/\(∀ x∈l',StepAt h' (fun z=>(h.nx<=z/\z≠sb)/\v'.at?≠some z) (fun z=>(h.nx<=z/\z≠sb)/\v'.at?≠some z) x)/\h'.get sb=some (.cells [v',.nils] false)/\Wr h.nx sb h' v'/\h.nx<=sb/\sb<h'.nx/\Old h h' by
  obtain ⟨_,h',e,sb,v',l',rfl,q⟩:=q;exact ⟨sb,v',l',h',e,q⟩
 obtain ⟨h1,e1,o1⟩:=joz hcl (d:=d-1) om a hl
 rw [decide_eq_true hm] at e1
 obtain ⟨v',l',h2,e2,hs,a2,s2,hw,o2⟩:=jlH hcl (d:=d-1) om (a.old o1) hl hf
 obtain ⟨ad,c,rfl,_⟩:=id a2
 have o3:Old h2 (h2.new (.cells [.slice ad l'.length c,.nils] false)):=(Old.refl h2).new
 have x1:=o1.1
 have x2:=o2.1
 refine at_ hcl om rfl rfl rfl ?_
 clear a
 refine qm1 ?_
 have kp : ∀ z,z<h2.nx->h1.nx<=z->(h2.new (.cells [.slice ad l'.length c,.nils] false)).get z=h2.get z/\(h.nx<=z/\z≠h2.nx):=fun z hz hp=>⟨o3.2 z hz,by omega,by omega⟩
 refine ⟨h2.nx,_,l',rfl,hs,a2.keep o3.1 kp,fun x hx=>(s2 x hx).keep o3.1 (fun z hz hp=>⟨(kp z hz hp.1).1,(kp z hz hp.1).2,hp.2⟩) fun z hz hp=>⟨(kp z hz hp.1).1,(kp z hz hp.1).2,hp.2⟩,jac _,fun z hz=>?_,by omega,by simp,(o1.trans o2).trans o3⟩
 obtain ⟨k1,k2,cs,e⟩:=hw z hz
 exact ⟨by omega,k2,cs,by rw [jad k2,e]⟩
theorem wm_New_no {d:Nat} {h:H} {P Q:Nat->Prop} {v:V} {l:List SpX} (hd:16<=d) (a:je9 h P Q v l) (hl:l.length<=2000) (hm : ¬ ∀ x∈l,x.sp.may) :
  ∃ h',cl d (.fn F.jhQ) [v] h=some (.tup [.ptr none,.i 120],h')/\Old h h':=by
 obtain ⟨h1,e1,o1⟩:=joz hcl (d:=d-1) om a hl
 rw [decide_eq_false hm] at e1
 refine jag (at_ hcl om rfl rfl rfl ?_)
 clear a
 refine qm1 ?_
 exact ⟨rfl,o1⟩
theorem rm_New {d:Nat} {h:H} {P Q:Nat->Prop} {v:V} {l:List SpX} (hd:6<=d) (a:je9 h P Q v l) (hl:l.length<=2000) (hm : ∀ x∈l,x.sp.may) :
  ∃ sb v' h',cl d (.fn F.jbY) [v] h=some (.tup [.p sb 0,.i 0],h')/\je9 h' (fun z=>(P z\/h.nx<=z)/\z≠sb) Q v' l/\h'.get sb=some (.cells [v',.nils] false)/\h.nx<=sb/\sb<h'.nx/\Old h h':=by
 suffices q : ∃ w h',cl d (.fn F.jbY) [v] h=some (w,h') /\ ∃ sb v',w = .tup [.p sb 0,.i 0]/\je9 h' (fun z=>(P z\/h.nx<=z)/\z≠sb) Q v' l/\h'.get sb=some (.cells [v',.nils] false)/\h.nx<=sb/\sb<h'.nx/\Old h h' by
  obtain ⟨_,h',e,sb,v',rfl,q⟩:=q;exact ⟨sb,v',h',e,q⟩
 obtain ⟨h1,e1,o1⟩:=jo9 hcl (d:=d-1) om a hl
 rw [decide_eq_true hm] at e1
 have a1:=a.old o1
 have x1:=o1.1
 have o2:Old h1 (h1.new (.cells [.nils,.nils] false)):=(Old.refl h1).new
 have kp : ∀ (g:H) (sb:Nat),Old h g->h.nx<=sb -> ∀ x∈l,StepAt g (fun z=>(P z\/h.nx<=z)/\z≠sb) Q x:=fun g sb og hb x hx=>(a.2 x hx).keep og.1 (fun z hz hp=>⟨og.2 z hz,.inl hp,by omega⟩) fun z hz hq=>⟨og.2 z hz,hq⟩
 refine at_ hcl om rfl rfl rfl ?_
 refine qm1 ?_
 refine Ops.app4 (l:=l) (f:=SpX.V) (P:=P) (fun _=>rfl) rfl rfl om (.inl rfl) (a1.1.old o2) om fun v' h' hk=>?_
 clear a1
 rcases hk with ⟨rfl,rfl,rfl⟩ | ⟨hl,rfl,rfl⟩
 ·clear a
  refine qm1 ?_
  refine ⟨h1.nx,_,rfl,⟨At4.nil,fun x hx=>by cases hx⟩,jab _,x1,by simp,⟨by simp;omega,fun j hj=>by rw [jaa om,jad om,o1.2 j hj]⟩⟩
 ·clear a
  refine qm1 ?_
  refine ⟨h1.nx,_,rfl,⟨?_,kp _ _ ?_ x1⟩,jab _,x1,by simp;omega,?_⟩
  ·exact (At4.of_new (P:=fun z=>(P z\/h.nx<=z)/\z≠h1.nx) (fun _=>rfl) ⟨.inr Zc,by simp⟩).keep Zd fun z hz hp=>⟨jaa hp.2,hp⟩
  all_goals exact ⟨by simp;omega,fun j hj=>by rw [jaa om,jad Zc,jad om,o1.2 j hj]⟩
theorem rm_New_no {d:Nat} {h:H} {P Q:Nat->Prop} {v:V} {l:List SpX} (hd:6<=d) (a:je9 h P Q v l) (hl:l.length<=2000) (hm : ¬ ∀ x∈l,x.sp.may) :
  ∃ h',cl d (.fn F.jbY) [v] h=some (.tup [.ptr none,.i 120],h')/\Old h h':=by
 obtain ⟨h1,e1,o1⟩:=jo9 hcl (d:=d-1) om a hl
 rw [decide_eq_false hm] at e1
 refine jag (at_ hcl om rfl rfl rfl ?_)
 clear a
 refine qm1 ?_
 exact ⟨rfl,o1⟩
end
structure Fs (h h':H) (ow:Nat->Nat) (ro:Nat->Prop) (ow':Nat->Nat) (ro' S:Nat->Prop):Prop where
 ch:Ch (fun j=>ow j≠0\/ro j\/S j) h h'
 tag : ∀ j,j<h.nx->ow' j=ow j
 rtag : ∀ j,j<h.nx->(ro' j↔ro j)
theorem Fs.refl {h:H} {ow:Nat->Nat} {ro S:Nat->Prop} : Fs h h ow ro ow ro S:=⟨Ch.refl _ _,fun _ _=>rfl,fun _ _=>Iff.rfl⟩
theorem Fs.trans {h h1 h2:H} {a b c:Nat->Nat} {x y z S T:Nat->Prop} (f:Fs h h1 a x b y S) (g:Fs h1 h2 b y c z T) (hT : ∀ j,j<h.nx->T j->S j):Fs h h2 a x c z S :=
 ⟨f.ch.trans_new g.ch fun j hj hb=>by
  rw [f.tag j hj,f.rtag j hj] at hb
  exact hb.imp id fun hb=>hb.imp id (hT j hj),
  fun j hj=>by rw [g.tag j (zr hj f.ch.nx),f.tag j hj],fun j hj=>(g.rtag j (zr hj f.ch.nx)).trans (f.rtag j hj)⟩
theorem Fs.of_fm {h h1:H} {a b:Nat->Nat} {x y S:Nat->Prop} (f:Fm h h1 a x b y):Fs h h1 a x b y S:=⟨f.ch.weaken fun _ _ hb=>hb.elim .inl fun hb=>.inr (.inl hb),f.tag,f.rtag⟩
theorem Fs.old {h h1:H} {ow:Nat->Nat} {ro S:Nat->Prop} (o:Old h h1):Fs h h1 ow ro ow ro S := .of_fm (Fm.old o)
theorem Fs.set {h:H} {ow:Nat->Nat} {ro S:Nat->Prop} {b:Nat} {ob:Obj} (hS:S b):Fs h (h.set b ob) ow ro ow ro S:=⟨Ch.set (.inr (.inr hS)),fun _ _=>rfl,fun _ _=>Iff.rfl⟩
def PB (ow:Nat->Nat) (ro:Nat->Prop) (s z:Nat):Prop:=ow z=0 /\ ¬ ro z/\z≠s
theorem Fs.pb {h h':H} {a b:Nat->Nat} {x y:Nat->Prop} {s z:Nat} (f:Fs h h' a x b y (· = s)) (hz:z<h.nx) (p:PB a x s z):h'.get z=h.get z/\PB b y s z :=
 ⟨f.ch.get z hz fun e=>e.elim (fun e=>e p.1) fun e=>e.elim p.2.1 p.2.2,by rw [f.tag z hz];exact p.1,fun e=>p.2.1 ((f.rtag z hz).1 e),p.2.2⟩
theorem jet : ∀ {l:List Mv} {m:Mv} {st:St},mvsS (l++[m]) st=(mvS m (mvsS l st)).2
 | [],_,_=>rfl
 | _ :: l,m,st=>by
  show mvsS (l++[m]) _=_
  rw [jet];rfl
theorem jgx {st:St} {i:Nat} {n:Int} (o:StOk st i) (h0:0<=n) (h1:n<=18446744073709551615):StOk { st with now:=jcn st.now n } i :=
 ⟨o.K,o.nt,by
  have:=o.now
  show 0<=jcn st.now n/\jcn st.now n<=_
  unfold jcn
  split<;>omega,o.tb⟩
structure Own (h:H) (ow:Nat->Nat) (ro dat:Nat->Prop) (p s:Nat):Prop where
 lt:s<h.nx
 o0:ow s=0
 r0 : ¬ ro s
 d0 : ¬ dat s
 ne:s≠p
theorem Own.fs {h h':H} {a b:Nat->Nat} {x y S dat:Nat->Prop} {p s:Nat} (o:Own h a x dat p s) (f:Fs h h' a x b y S):Own h' b y dat p s :=
 ⟨zr o.lt f.ch.nx,by rw [f.tag s o.lt];exact o.o0,fun e=>o.r0 ((f.rtag s o.lt).1 e),o.d0,o.ne⟩
section
variable {h h':H} {p w s rw:Nat} {ow:Nat->Nat} {ro dat:Nat->Prop} {a r:St}
theorem BB.set (b:BB h p w s rw ow ro dat a r) {z:Nat} (o:Own h ow ro dat p z) {ob:Obj} : BB (h.set z ob) p w s rw ow ro dat a r :=
 b.off (zq _) fun j _ hj=>jaa fun e=>by
  subst e
  rcases hj with hj | hj | hj | hj
  ·exact hj o.o0
  ·exact o.r0 hj
  ·exact o.d0 hj
  ·exact o.ne hj
variable {cl:Nat->Call} (hcl:Sem cl) {d i:Nat} {m:Mv} {dv:V} {t:Int}
include hcl
theorem bw_Make (hd:13<=d) (b:BB h p w s rw ow ro dat a r) (so:StOk a i) (hi:i<=900000) (hv:VB h dv m.D) (hz:m.D≠[] -> ∀ z,dv.at?=some z->ow z=0) :
  ∃ h' ow',cl d (.fn F.jg6) [.p w 0,.agg (mvV m dv)] h=some (.tup [.i (mvS m a).1.1,.i (mvS m a).1.2],h')/\BB h' p w s rw ow' ro dat (mvS m a).2 r/\Fm h h' ow ro ow' ro:=by
 obtain ⟨h1,ow1,e1,W1,t1⟩:=wm_Make hcl (m:=m) (dv:=dv) hd b.W so hi hv hz
 exact ⟨h1,ow1,e1,b.wc W1 t1,Fm.to t1⟩
theorem br_Make (hd:6<=d) (b:BB h p w s rw ow ro dat a r) (so:StOk r i) (hi:i<=900000) (hv:VB h dv m.D) (hz:m.D≠[] -> ∀ z,dv.at?=some z->dat z) :
  ∃ h' ro',cl d (.fn F.jbx) [.p rw 0,.agg (mvV m dv)] h=some (.tup [.i (mvS m r).1.1,.i (mvS m r).1.2],h')/\BB h' p w s rw ow ro' dat a (mvS m r).2/\Fm h h' ow ro ow ro':=by
 obtain ⟨v2,h2,e2,b2,f2,rfl⟩:=b.rc hcl (d:=d) (f:=F.jbx) (args:=[.p rw 0,.agg (mvV m dv)]) (r':=(mvS m r).2) (P:=fun _ v=>v = .tup [.i (mvS m r).1.1,.i (mvS m r).1.2]) (fun _ _ _ _ h=>h) (fun g q l ga gn hq wR hl=>by
  have vg:VB g dv m.D:=hv.keep2 om fun hn z hz'=>ga z (hv.lt hn hz') (.inr (hz hn z hz'))
  obtain ⟨q',l',g',k1,k2,k3,k4,k5⟩:=rm_Make hcl (d:=d) (m:=m) (dv:=dv) hd wR hl so hi vg fun hn z hz'=>by
   have z0:=hz hn z hz'
   refine ⟨fun e=>?_,fun e=>?_,by rw [gn];exact hv.lt hn hz'⟩
   ·rcases hq with rfl | hq
    ·exact b.rp (.inr (e ▸ z0))
    ·exact b.ap z0 (e ▸ hq)
   ·obtain ⟨l,R,_⟩:=b.R
    exact b.ap z0 (e ▸ R.hr)
  exact ⟨_,q',l',g',k1,k2,k3,k4,k5,rfl⟩)
 exact ⟨h2,_,e2,b2,f2⟩
theorem jl6 (hd:2<=d) (b:BB h p w s rw ow ro dat a r) (so:StOk a i) (t0:0<=t) (t1:t<=18446744073709551615) :
  ∃ h',cl d (.fn F.jee) [.p w 0,.int .u64 t] h=some (.tup [],h')/\BB h' p w s rw ow ro dat { a with now:=jcn a.now t } r/\Fm h h' ow ro ow ro:=by
 obtain ⟨h1,e1,W1,tt⟩:=jnq hcl (d:=d) hd b.W so.now.1 so.now.2 t0 t1
 exact ⟨h1,e1,b.wc (a' := { a with now:=jcn a.now t }) W1 tt,Fm.to tt⟩
theorem jl8 (hd:1<=d) (b:BB h p w s rw ow ro dat a r) (so:StOk r i) (t0:0<=t) (t1:t<=18446744073709551615) :
  ∃ h' ro',cl d (.fn F.jaE) [.p rw 0,.int .u64 t] h=some (.tup [],h')/\BB h' p w s rw ow ro' dat a { r with now:=jcn r.now t } /\ Fm h h' ow ro ow ro':=by
 obtain ⟨v2,h2,e2,b2,f2,rfl⟩:=b.rc hcl (d:=d) (f:=F.jaE) (args:=[.p rw 0,.int .u64 t]) (r' := { r with now:=jcn r.now t }) (P:=fun _ v=>v = .tup []) (fun _ _ _ _ h=>h) (fun g q l ga gn hq wR hl=>by
  obtain ⟨g',k1,k2,k4⟩:=jnA hcl (d:=d) hd wR so.now.1 so.now.2 t0 t1
  exact ⟨_,q,l,g',k1,k2,hl,k4,.inl rfl,rfl⟩)
 exact ⟨h2,_,e2,b2,f2⟩
end
theorem At4.tail {α : Type} {h:H} {P:Nat->Prop} {f : α -> List V} {b o n:Nat} {c:Cap} {x : α} {l:List α} (hn:n=l.length+1) (a:At4 h P f (.slice (some (b,o)) n c) (x :: l)):At4 h P f (.slice (some (b,o+1*4)) (n-1) (c.less 1)) l:=by
 obtain ⟨ad,c',e,_,ft,g⟩:=a
 cases e
 refine ⟨_,_,by rw [hn];rfl,fun e=>(by cases e),?_,fun hl=>?_⟩
 ·have ft:c.fits (l.length+1) 4:=ft
  cases c with
  | fix q=>simp only [Cap.less,Cap.fits] at ft ⊢;omega
  | grow q=>exact ft
 ·obtain ⟨b',o',cs,ro,e1,e2,e3,e4,e5⟩:=g Zd
  cases e1
  refine ⟨b,o+1*4,cs,ro,rfl,e2,e3,e4,fun i y hi=>?_⟩
  rw [show o+1*4+i*4=o+(i+1)*4 by omega]
  exact e5 (i+1) y (by simpa using hi)
theorem jhm {α β : Type} {f : α -> β} {l:List α} {i:Nat} {x : α} (h:l[i]?=some x):(l.take (i+1)).map f=(l.take i).map f++[f x]:=by rw [List.take_add_one,h];simp
theorem Fs.dt {h h':H} {a b:Nat->Nat} {x y dat:Nat->Prop} {sb z p w s rw:Nat} {st r:St} (f:Fs h h' a x b y (· = sb)) (B:BB h p w s rw a x dat st r) (o:Own h a x dat p sb) (hz:z<h.nx) (hd:dat z):h'.get z=h.get z/\dat z :=
 ⟨(f.pb hz ⟨B.sep z (.inr hd),B.ap hd,fun e=>o.d0 (e ▸ hd)⟩).1,hd⟩
section
variable {cl:Nat->Call} (hcl:Sem cl) {h:H} {p w s rw:Nat} {ow:Nat->Nat} {ro dat:Nat->Prop} {a r:St} {d i:Nat}
include hcl
theorem wm_take {sb:Nat} {X:Nat->Prop} {v ov0:V} {x:SpX} {L:List SpX} (hd:15<=d) (b:BB h p w s rw ow ro dat a r) (so:StOk a i) (hi:i+x.ml.length<=900000) (hs:h.get sb=some (.cells [v,ov0] false)) (own:Own h ow ro dat p sb) (A:At4 h (PB ow ro sb) SpX.V v (x :: L) /\ ∀ y∈x :: L,StepAt h (fun z=>PB ow ro sb z/\X z) (fun z=>PB ow ro sb z/\X z) y) (hf:x.few) :
  ∃ h' ow' v',cl d (.fn F.jc5) [.p sb 0,.p w 0] h=some (.bool x.intr,h')/\BB h' p w s rw ow' ro dat (mvsS x.sp.moves a) r/\StOk (mvsS x.sp.moves a) (i+x.ml.length)/\h'.get sb=some (.cells [v',x.ov] false)/\v'.at?=v.at? /\
   (At4 h' (PB ow' ro sb) SpX.V v' L /\ ∀ y∈L,StepAt h' (fun z=>PB ow' ro sb z/\X z) (fun z=>PB ow' ro sb z/\X z) y)/\(VI h' x.ov x.ol/\(x.ol≠[] -> ∀ z,x.ov.at?=some z->PB ow' ro sb z/\X z))/\Fs h h' ow ro ow' ro (· = sb):=by
 suffices q : ∃ w' h',cl d (.fn F.jc5) [.p sb 0,.p w 0] h=some (w',h') /\ ∃ ow' v',w' = .bool x.intr/\BB h' p w s rw ow' ro dat (mvsS x.sp.moves a) r/\StOk (mvsS x.sp.moves a) (i+x.ml.length)/\h'.get sb=some (.cells [v',x.ov] false)/\v'.at?=v.at? /\
   (At4 h' (PB ow' ro sb) SpX.V v' L /\ ∀ y∈L,StepAt h' (fun z=>PB ow' ro sb z/\X z) (fun z=>PB ow' ro sb z/\X z) y)/\(VI h' x.ov x.ol/\(x.ol≠[] -> ∀ z,x.ov.at?=some z->PB ow' ro sb z/\X z))/\Fs h h' ow ro ow' ro (· = sb) by
  obtain ⟨_,h',e,ow',v',rfl,q⟩:=q;exact ⟨h',ow',v',e,q⟩
 obtain ⟨ad,c,rfl,_,ft,g⟩:=id A.1
 obtain ⟨bs,o,cs,rr,rfl,lb,pb,gb,hc⟩:=g Zd
 have sx:=A.2 x (zj ..)
 have h4:(cs.drop (o+(0:Int).toNat*4)).take 4=x.V:=hc 0 x rfl
 have hlen:=jf6 h4 rfl
 have hone:=SpX.one sx
 have ls:=own.lt
 obtain ⟨ao,co,eo,_⟩:=id sx.ov.1
 obtain ⟨am,cm,em,_,_,gm⟩:=id sx.mv
 have q1:(x.V)[0+1]?=some (.bool x.intr):=rfl
 have q2:(x.V)[0+2]?=some (.slice ao x.ol.length co):=by rw [<- eo];rfl
 have q3:(x.V)[0+3]?=some (.slice am x.ml.length cm):=by rw [<- em];rfl
 have hlc:(0:Int)<(((x :: L).length:Nat):Int):=by simp
 have o1:Old h ((h.new (.cells [.int .u64 0,.bool false,.nils,.nils] false)).set h.nx (.cells x.V false)):=(Old.refl h).new.set (zq _)
 have g1:((h.new (.cells [.int .u64 0,.bool false,.nils,.nils] false)).set h.nx (.cells x.V false)).get h.nx=some (.cells x.V false):=jab _
 have s1:((h.new (.cells [.int .u64 0,.bool false,.nils,.nils] false)).set h.nx (.cells x.V false)).get sb=some (.cells [.slice (some (bs,o)) (x :: L).length c,ov0] false):=by rw [o1.2 _ ls,hs]
 have n1:((h.new (.cells [.int .u64 0,.bool false,.nils,.nils] false)).set h.nx (.cells x.V false)).nx=h.nx+1:=rfl
 generalize hG:(h.new (.cells [.int .u64 0,.bool false,.nils,.nils] false)).set h.nx (.cells x.V false)=G at o1 g1 s1 n1
 have b1:=(b.old o1).set (own.fs (Fs.old (S:=fun j=>j=sb) o1)) (ob := .cells [.slice (some (bs,o+1*4)) ((x :: L).length-1) (c.less 1),ov0] false)
 have f1:Fs h (G.set sb (.cells [.slice (some (bs,o+1*4)) ((x :: L).length-1) (c.less 1),ov0] false)) ow ro ow ro (· = sb):=(Fs.old o1).trans (Fs.set rfl) fun _ _ e=>e.symm
 have gs1:(G.set sb (.cells [.slice (some (bs,o+1*4)) ((x :: L).length-1) (c.less 1),ov0] false)).get sb=some (.cells [.slice (some (bs,o+1*4)) ((x :: L).length-1) (c.less 1),ov0] false):=jab _
 have gl1:(G.set sb (.cells [.slice (some (bs,o+1*4)) ((x :: L).length-1) (c.less 1),ov0] false)).get h.nx=some (.cells x.V false):=by rw [jaa om,g1]
 have nl1:h.nx<(G.set sb (.cells [.slice (some (bs,o+1*4)) ((x :: L).length-1) (c.less 1),ov0] false)).nx:=by simp;omega
 have zl1:ow h.nx=0 /\ ¬ ro h.nx/\h.nx≠sb:=⟨b.W.top (zq _),fun e=>by have:=b.ro_lt (.inl e);omega,by omega⟩
 have At:At4 h (PB ow ro sb) SpX.V (.slice (some (bs,o+1*4)) ((x :: L).length-1) (c.less 1)) L:=At4.tail rfl A.1
 have AL : ∀ y∈L,StepAt h (fun z=>PB ow ro sb z/\X z) (fun z=>PB ow ro sb z/\X z) y:=fun y hy=>A.2 y (zl _ hy)
 generalize hv1:V.slice (some (bs,o+1*4)) ((x :: L).length-1) (c.less 1)=v1 at b1 f1 gs1 gl1 nl1 At
 have hv1a:v1.at?=some bs:=by rw [<- hv1];rfl
 generalize hH:G.set sb (.cells [v1,ov0] false)=H1 at b1 f1 gs1 gl1 nl1
 refine at_ hcl om rfl rfl rfl ?_
 obtain ⟨C,hC⟩ : ∃ C,C=c70_3:=⟨_,rfl⟩
 simp only [c70,c70_4,<- hC,yB]
 have T:Run (cl (d-1)) fuel C [] [(0,.p sb 0),(1,.p w 0),(5,.p h.nx 0)] G (Fin c70.res fun w' h'=>∃ ow' v',w' = .bool x.intr/\BB h' p w s rw ow' ro dat (mvsS x.sp.moves a) r/\StOk (mvsS x.sp.moves a) (i+x.ml.length)/\h'.get sb=some (.cells [v',x.ov] false)/\v'.at?=some bs /\
   (At4 h' (PB ow' ro sb) SpX.V v' L /\ ∀ y∈L,StepAt h' (fun z=>PB ow' ro sb z/\X z) (fun z=>PB ow' ro sb z/\X z) y)/\(VI h' x.ov x.ol/\(x.ol≠[] -> ∀ z,x.ov.at?=some z->PB ow' ro sb z/\X z))/\Fs h h' ow ro ow' ro (· = sb)):=by
  rw [hC]
  clear hC hG o1 n1 gb hc g hs b A
  refine qx1 ?_
  refine Ops.slice_l (sz:=4) (l:=1) rfl rfl Zd ft ?_
  rw [hv1]
  have hv1o:v1.one=true:=by rw [<- hv1];rfl
  refine qx1 ?_
  refine Ops.store1 rfl rfl hv1o s1 Zd ?_
  rw [show ([.slice (some (bs,o)) (x :: L).length c,ov0]:List V).set 0 v1=[v1,ov0] from rfl,hH]
  clear hv1 hH s1 g1
  refine qx1 ?_
  refine Run.loop (fun m e g=>∃ (j:Nat) (ow':Nat->Nat),m=x.ml.length-j/\j<=x.ml.length/\e=[(0,.p sb 0),(1,.p w 0),(5,.p h.nx 0),(23,.slice am x.ml.length cm),(24,.i (x.ml.length:Int)),(25,.i (j:Int))]/\BB g p w s rw ow' ro dat (mvsS ((x.ml.take j).map MvX.m) a) r/\StOk (mvsS ((x.ml.take j).map MvX.m) a) (i+j)/\Fs h g ow ro ow' ro (· = sb)/\g.get sb=some (.cells [v1,ov0] false)/\g.get h.nx=some (.cells x.V false)/\h.nx<g.nx/\ow' h.nx=0)
   (k:=x.ml.length) (by show _<100000;have:=hf.1;omega) ⟨0,ow,rfl,by omega,rfl,b1,so,f1,gs1,gl1,nl1,zl1.1⟩ ?_
  clear b1 f1 gs1 gl1 nl1
  rintro _ _ g ⟨j,ow1,rfl,hj,rfl,bb,sj,fj,gsb,glx,nlx,zlx⟩ n' ih
  by_cases hlt:(j:Int)<x.ml.length
  case neg=>
   obtain rfl:j=x.ml.length:=by omega
   rw [List.take_length] at bb sj
   have ownj:=own.fs fj
   have bf:=bb.set ownj (ob := .cells [v1,x.ov] false)
   have ff:Fs h (g.set sb (.cells [v1,x.ov] false)) ow ro ow1 ro (· = sb):=fj.trans (Fs.set rfl) fun _ _ e=>e.symm
   have At':=At.keep ff.ch.nx fun z hz hp=>ff.pb hz hp
   have kk : ∀ z,z<h.nx->(PB ow ro sb z/\X z)->(g.set sb (.cells [v1,x.ov] false)).get z=h.get z/\(PB ow1 ro sb z/\X z):=fun z hz hp=>⟨(ff.pb hz hp.1).1,(ff.pb hz hp.1).2,hp.2⟩
   have AL' : ∀ y∈L,StepAt (g.set sb (.cells [v1,x.ov] false)) (fun z=>PB ow1 ro sb z/\X z) (fun z=>PB ow1 ro sb z/\X z) y:=fun y hy=>(AL y hy).keep ff.ch.nx kk kk
   have ov':=(sx.keep ff.ch.nx kk kk).ov
   have hsn:(g.set sb (.cells [v1,x.ov] false)).get sb=some (.cells [v1,x.ov] false):=jab _
   clear ih gm At AL sx bb fj
   clear kk
   rw [eo] at bf ff At' AL' ov' hsn ⊢
   refine qs1 ?_
   exact ⟨ow1,v1,rfl,bf,sj,hsn,hv1a,⟨At',AL'⟩,ov',ff⟩
  obtain ⟨y,hy⟩:=jd9 (l:=x.ml) (i:=j) om
  obtain ⟨mb,mo,ms,mr,rfl,lm,pm,hgm,hmc⟩:=gm (by intro e;rw [e] at hy;simp at hy)
  have gmb:g.get mb=some (.cells ms mr):=by rw [(fj.pb lm pm.1).1,hgm]
  have m4:(ms.drop (mo+(j:Int).toNat*4)).take 4=y.V:=by rw [zw];exact hmc j y hy
  have mlen:=jf6 m4 rfl
  have hym:=zc hy
  obtain ⟨vy,zy⟩:=sx.dv y hym
  have vyg:VB g y.dv y.m.D:=vy.keep2 fj.ch.nx fun hl z hz=>(fj.pb (vy.lt hl hz) (zy hl z hz).1).1
  obtain ⟨da,dc,ed,_⟩:=id vy
  have yone:(MvX.V y).all V.one=true:=by
   show [V.i y.m.op,.i y.m.wire,.i y.m.n,y.dv].all V.one=true
   rw [ed];rfl
  have o2:Old g ((g.new (.cells [.i 0,.i 0,.i 0,.nils] false)).set g.nx (.cells y.V false)):=(Old.refl g).new.set (zq _)
  have g2:((g.new (.cells [.i 0,.i 0,.i 0,.nils] false)).set g.nx (.cells y.V false)).get g.nx=some (.cells y.V false):=jab _
  have hj1:(j:Int)+1=((j+1:Nat):Int):=by omega
  have hfl:=hf.2.2 y hym
  clear gm hmc
  refine qx1 ?_
  refine Ops.loadN rfl gmb mlen ?_
  rw [m4]
  refine qm1 ?_
  refine Ops.storeN (n:=4) (o:=0) (vs:=y.V) rfl rfl rfl yone (jac _) Zd ?_
  rw [show jao ([.i 0,.i 0,.i 0,.nils]:List V) 0 y.V=y.V from rfl]
  generalize (g.new (.cells [.i 0,.i 0,.i 0,.nils] false)).set g.nx (.cells y.V false)=G2 at o2 g2
  obtain ⟨g3,ow3,e3,b3,f3⟩:=bw_Make hcl (d:=d-1) (m:=y.m) (dv:=y.dv) om (bb.old o2) sj om (vyg.keep2 o2.1 fun hl z hz=>o2.2 z (vyg.lt hl hz)) fun hl z hz=>(fj.pb (vy.lt hl hz) (zy hl z hz).1).2.1
  have ff:Fs h g3 ow ro ow3 ro (· = sb):=fj.trans (.of_fm ((Fm.old o2).trans f3)) fun _ _ e=>e
  have ownj:=own.fs fj
  have nx2:=o2.1
  have ks:g3.get sb=some (.cells [v1,ov0] false):=by rw [f3.ch.get sb (by have:=ownj.lt;omega) fun e=>e.elim (fun e=>e ownj.o0) ownj.r0,o2.2 sb ownj.lt,gsb]
  have kl:g3.get h.nx=some (.cells x.V false):=by rw [f3.ch.get h.nx om fun e=>e.elim (fun e=>e zlx) zl1.2.1,o2.2 _ nlx,glx]
  have zl3:ow3 h.nx=0:=by rw [f3.tag h.nx om];exact zlx
  have nx3:=f3.ch.nx
  rw [<- jet,<- jhm hy] at b3
  have s3:=joG (m:=y.m) sj
  rw [<- jet,<- jhm hy] at s3
  clear bb sj fj gsb glx sx At AL vy vyg
  refine qm1 ?_
  rw [hj1]
  exact ih (x.ml.length-(j+1)) om _ _ ⟨j+1,ow3,rfl,by omega,rfl,b3,s3,ff,ks,kl,by omega,zl3⟩
 clear A b sx At AL g hc f1 b1 gs1 gl1 hH hv1
 refine qm1 ?_
 refine Ops.loadN rfl gb hlen ?_
 rw [h4]
 refine qm1 ?_
 refine Ops.storeN (n:=4) (o:=0) (vs:=x.V) rfl rfl rfl hone (jac _) Zd ?_
 rw [show jao ([.int .u64 0,.bool false,.nils,.nils]:List V) 0 x.V=x.V from rfl,hG]
 refine qm1 ?_
 exact T
theorem rm_take {sb:Nat} {X:Nat->Prop} {v ov0:V} {x:SpX} {L:List SpX} (hd:8<=d) (b:BB h p w s rw ow ro dat a r) (so:StOk r i) (hi:i+x.ml.length<=900000) (hs:h.get sb=some (.cells [v,ov0] false)) (own:Own h ow ro dat p sb) (A:At4 h (fun z=>PB ow ro sb z/\X z) SpX.V v (x :: L) /\ ∀ y∈x :: L,StepAt h dat dat y) (hf:x.few) :
  ∃ h' ro' v',cl d (.fn F.jaX) [.p sb 0,.p rw 0] h=some (.bool x.intr,h')/\BB h' p w s rw ow ro' dat a (mvsS x.sp.moves r)/\StOk (mvsS x.sp.moves r) (i+x.ml.length)/\h'.get sb=some (.cells [v',x.ov] false)/\v'.at?=v.at? /\
   (At4 h' (fun z=>PB ow ro' sb z/\X z) SpX.V v' L /\ ∀ y∈L,StepAt h' dat dat y)/\(VI h' x.ov x.ol/\(x.ol≠[] -> ∀ z,x.ov.at?=some z->dat z))/\Fs h h' ow ro ow ro' (· = sb):=by
 suffices q : ∃ w' h',cl d (.fn F.jaX) [.p sb 0,.p rw 0] h=some (w',h') /\ ∃ ro' v',w' = .bool x.intr/\BB h' p w s rw ow ro' dat a (mvsS x.sp.moves r)/\StOk (mvsS x.sp.moves r) (i+x.ml.length)/\h'.get sb=some (.cells [v',x.ov] false)/\v'.at?=v.at? /\
   (At4 h' (fun z=>PB ow ro' sb z/\X z) SpX.V v' L /\ ∀ y∈L,StepAt h' dat dat y)/\(VI h' x.ov x.ol/\(x.ol≠[] -> ∀ z,x.ov.at?=some z->dat z))/\Fs h h' ow ro ow ro' (· = sb) by
  obtain ⟨_,h',e,ro',v',rfl,q⟩:=q;exact ⟨h',ro',v',e,q⟩
 obtain ⟨ad,c,rfl,_,ft,g⟩:=id A.1
 obtain ⟨bs,o,cs,rr,rfl,lb,pb,gb,hc⟩:=g Zd
 have sx:=A.2 x (zj ..)
 have h4:(cs.drop (o+(0:Int).toNat*4)).take 4=x.V:=hc 0 x rfl
 have hlen:=jf6 h4 rfl
 have hone:=SpX.one sx
 have ls:=own.lt
 obtain ⟨ao,co,eo,_⟩:=id sx.ov.1
 obtain ⟨am,cm,em,_,_,gm⟩:=id sx.mv
 have q1:(x.V)[0+1]?=some (.bool x.intr):=rfl
 have q2:(x.V)[0+2]?=some (.slice ao x.ol.length co):=by rw [<- eo];rfl
 have q3:(x.V)[0+3]?=some (.slice am x.ml.length cm):=by rw [<- em];rfl
 have hlc:(0:Int)<(((x :: L).length:Nat):Int):=by simp
 have o1:Old h ((h.new (.cells [.int .u64 0,.bool false,.nils,.nils] false)).set h.nx (.cells x.V false)):=(Old.refl h).new.set (zq _)
 have g1:((h.new (.cells [.int .u64 0,.bool false,.nils,.nils] false)).set h.nx (.cells x.V false)).get h.nx=some (.cells x.V false):=jab _
 have s1:((h.new (.cells [.int .u64 0,.bool false,.nils,.nils] false)).set h.nx (.cells x.V false)).get sb=some (.cells [.slice (some (bs,o)) (x :: L).length c,ov0] false):=by rw [o1.2 _ ls,hs]
 have n1:((h.new (.cells [.int .u64 0,.bool false,.nils,.nils] false)).set h.nx (.cells x.V false)).nx=h.nx+1:=rfl
 generalize hG:(h.new (.cells [.int .u64 0,.bool false,.nils,.nils] false)).set h.nx (.cells x.V false)=G at o1 g1 s1 n1
 have b1:=(b.old o1).set (own.fs (Fs.old (S:=fun j=>j=sb) o1)) (ob := .cells [.slice (some (bs,o+1*4)) ((x :: L).length-1) (c.less 1),ov0] false)
 have f1:Fs h (G.set sb (.cells [.slice (some (bs,o+1*4)) ((x :: L).length-1) (c.less 1),ov0] false)) ow ro ow ro (· = sb):=(Fs.old o1).trans (Fs.set rfl) fun _ _ e=>e.symm
 have gs1:(G.set sb (.cells [.slice (some (bs,o+1*4)) ((x :: L).length-1) (c.less 1),ov0] false)).get sb=some (.cells [.slice (some (bs,o+1*4)) ((x :: L).length-1) (c.less 1),ov0] false):=jab _
 have gl1:(G.set sb (.cells [.slice (some (bs,o+1*4)) ((x :: L).length-1) (c.less 1),ov0] false)).get h.nx=some (.cells x.V false):=by rw [jaa om,g1]
 have nl1:h.nx<(G.set sb (.cells [.slice (some (bs,o+1*4)) ((x :: L).length-1) (c.less 1),ov0] false)).nx:=by simp;omega
 have zl1:ow h.nx=0 /\ ¬ ro h.nx/\h.nx≠sb:=⟨b.W.top (zq _),fun e=>by have:=b.ro_lt (.inl e);omega,by omega⟩
 have At:At4 h (fun z=>PB ow ro sb z/\X z) SpX.V (.slice (some (bs,o+1*4)) ((x :: L).length-1) (c.less 1)) L:=At4.tail rfl A.1
 have AL : ∀ y∈L,StepAt h dat dat y:=fun y hy=>A.2 y (zl _ hy)
 generalize hv1:V.slice (some (bs,o+1*4)) ((x :: L).length-1) (c.less 1)=v1 at b1 f1 gs1 gl1 nl1 At
 have hv1a:v1.at?=some bs:=by rw [<- hv1];rfl
 generalize hH:G.set sb (.cells [v1,ov0] false)=H1 at b1 f1 gs1 gl1 nl1
 refine at_ hcl om rfl rfl rfl ?_
 obtain ⟨C,hC⟩ : ∃ C,C=c76_3:=⟨_,rfl⟩
 simp only [c76,c76_4,<- hC,yB]
 have T:Run (cl (d-1)) fuel C [] [(0,.p sb 0),(1,.p rw 0),(5,.p h.nx 0)] G (Fin c76.res fun w' h'=>∃ ro' v',w' = .bool x.intr/\BB h' p w s rw ow ro' dat a (mvsS x.sp.moves r)/\StOk (mvsS x.sp.moves r) (i+x.ml.length)/\h'.get sb=some (.cells [v',x.ov] false)/\v'.at?=some bs /\
   (At4 h' (fun z=>PB ow ro' sb z/\X z) SpX.V v' L /\ ∀ y∈L,StepAt h' dat dat y)/\(VI h' x.ov x.ol/\(x.ol≠[] -> ∀ z,x.ov.at?=some z->dat z))/\Fs h h' ow ro ow ro' (· = sb)):=by
  rw [hC]
  clear hC hG o1 n1 gb hc g hs A
  refine qx1 ?_
  refine Ops.slice_l (sz:=4) (l:=1) rfl rfl Zd ft ?_
  rw [hv1]
  have hv1o:v1.one=true:=by rw [<- hv1];rfl
  refine qx1 ?_
  refine Ops.store1 rfl rfl hv1o s1 Zd ?_
  rw [show ([.slice (some (bs,o)) (x :: L).length c,ov0]:List V).set 0 v1=[v1,ov0] from rfl,hH]
  clear hv1 hH s1 g1
  refine qx1 ?_
  refine Run.loop (fun m e g=>∃ (j:Nat) (ro':Nat->Prop),m=x.ml.length-j/\j<=x.ml.length/\e=[(0,.p sb 0),(1,.p rw 0),(5,.p h.nx 0),(6,.i (j:Int))]/\BB g p w s rw ow ro' dat a (mvsS ((x.ml.take j).map MvX.m) r)/\StOk (mvsS ((x.ml.take j).map MvX.m) r) (i+j)/\Fs h g ow ro ow ro' (· = sb)/\g.get sb=some (.cells [v1,ov0] false)/\g.get h.nx=some (.cells x.V false)/\h.nx<g.nx /\ ¬ ro' h.nx)
   (k:=x.ml.length) (by show _<100000;have:=hf.1;omega) ⟨0,ro,rfl,by omega,rfl,b1,so,f1,gs1,gl1,nl1,zl1.2.1⟩ ?_
  clear b1 f1 gs1 gl1 nl1
  rintro _ _ g ⟨j,ro1,rfl,hj,rfl,bb,sj,fj,gsb,glx,nlx,zlx⟩ n' ih
  by_cases hlt:(j:Int)<x.ml.length
  case neg=>
   obtain rfl:j=x.ml.length:=by omega
   rw [List.take_length] at bb sj
   have ownj:=own.fs fj
   have bf:=bb.set ownj (ob := .cells [v1,x.ov] false)
   have ff:Fs h (g.set sb (.cells [v1,x.ov] false)) ow ro ow ro1 (· = sb):=fj.trans (Fs.set rfl) fun _ _ e=>e.symm
   have At':At4 _ (fun z=>PB ow ro1 sb z/\X z) SpX.V v1 L:=At.keep ff.ch.nx fun z hz hp=>⟨(ff.pb hz hp.1).1,(ff.pb hz hp.1).2,hp.2⟩
   have AL' : ∀ y∈L,StepAt (g.set sb (.cells [v1,x.ov] false)) dat dat y:=fun y hy=>(AL y hy).keep ff.ch.nx (fun z hz hp=>ff.dt b own hz hp) fun z hz hp=>ff.dt b own hz hp
   have ov':=(sx.keep ff.ch.nx (fun z hz hp=>ff.dt b own hz hp) fun z hz hp=>ff.dt b own hz hp).ov
   have hsn:(g.set sb (.cells [v1,x.ov] false)).get sb=some (.cells [v1,x.ov] false):=jab _
   clear ih gm At AL sx bb fj
   rw [eo] at bf ff At' AL' ov' hsn ⊢
   refine qs1 ?_
   exact ⟨ro1,v1,rfl,bf,sj,hsn,hv1a,⟨At',AL'⟩,ov',ff⟩
  obtain ⟨y,hy⟩:=jd9 (l:=x.ml) (i:=j) om
  obtain ⟨mb,mo,ms,mr,rfl,lm,pm,hgm,hmc⟩:=gm (by intro e;rw [e] at hy;simp at hy)
  have gmb:g.get mb=some (.cells ms mr):=by rw [(fj.dt b own lm pm).1,hgm]
  have m4:(ms.drop (mo+(j:Int).toNat*4)).take 4=y.V:=by rw [zw];exact hmc j y hy
  have mlen:=jf6 m4 rfl
  have hym:=zc hy
  obtain ⟨vy,zy⟩:=sx.dv y hym
  have vyg:VB g y.dv y.m.D:=vy.keep2 fj.ch.nx fun hl z hz=>(fj.dt b own (vy.lt hl hz) (zy hl z hz)).1
  have hj1:(j:Int)+1=((j+1:Nat):Int):=by omega
  clear gm hmc
  obtain ⟨g3,ro3,e3,b3,f3⟩:=br_Make hcl (d:=d-1) (m:=y.m) (dv:=y.dv) om bb sj om vyg zy
  have ff:Fs h g3 ow ro ow ro3 (· = sb):=fj.trans (.of_fm f3) fun _ _ e=>e
  have ownj:=own.fs fj
  have ks:g3.get sb=some (.cells [v1,ov0] false):=by rw [f3.ch.get sb ownj.lt fun e=>e.elim (fun e=>e ownj.o0) ownj.r0,gsb]
  have kl:g3.get h.nx=some (.cells x.V false):=by rw [f3.ch.get h.nx nlx fun e=>e.elim (fun e=>e zl1.1) zlx,glx]
  have zl3 : ¬ ro3 h.nx:=fun e=>zlx ((f3.rtag h.nx nlx).1 e)
  have nx3:=f3.ch.nx
  rw [<- jet,<- jhm hy] at b3
  have s3:=joG (m:=y.m) sj
  rw [<- jet,<- jhm hy] at s3
  clear bb sj fj gsb sx At AL vy vyg
  refine qx1 ?_
  refine Ops.loadN rfl gmb mlen ?_
  rw [m4]
  refine qx1 ?_
  rw [hj1]
  exact ih (x.ml.length-(j+1)) om _ _ ⟨j+1,ro3,rfl,by omega,rfl,b3,s3,ff,ks,kl,by omega,zl3⟩
 clear A sx At AL g hc f1 b1 gs1 gl1 hH hv1
 refine qm1 ?_
 refine Ops.loadN rfl gb hlen ?_
 rw [h4]
 refine qm1 ?_
 refine Ops.storeN (n:=4) (o:=0) (vs:=x.V) rfl rfl rfl hone (jac _) Zd ?_
 rw [show jao ([.int .u64 0,.bool false,.nils,.nils]:List V) 0 x.V=x.V from rfl,hG]
 refine qm1 ?_
 exact T
end
structure SW (h:H) (ow:Nat->Nat) (ro dat:Nat->Prop) (p sb:Nat) (bs:Option Nat) (X:Nat->Prop) (L:List SpX) (o:List Int):Prop where
 own:Own h ow ro dat p sb
 bown : ∀ z,bs=some z->Own h ow ro dat p z/\z≠sb /\ ∃ cs,h.get z=some (.cells cs false)
 ex : ∃ v ov,v.at?=bs/\h.get sb=some (.cells [v,ov] false)/\At4 h (PB ow ro sb) SpX.V v L/\(∀ y∈L,StepAt h (fun z=>PB ow ro sb z/\(bs≠some z/\X z)) (fun z=>PB ow ro sb z/\(bs≠some z/\X z)) y)/\VI h ov o/\(o≠[] -> ∀ z,ov.at?=some z->PB ow ro sb z/\(bs≠some z/\X z))
 few : ∀ x∈L,x.few
theorem Fs.get {h h':H} {a b:Nat->Nat} {x y S dat:Nat->Prop} {p z:Nat} (f:Fs h h' a x b y S) (o:Own h a x dat p z) (hS : ¬ S z):h'.get z=h.get z :=
 f.ch.get z o.lt fun e=>e.elim (fun e=>e o.o0) fun e=>e.elim o.r0 hS
theorem SW.fs {h h':H} {ow ow':Nat->Nat} {ro ro' dat S X:Nat->Prop} {p sb:Nat} {bs:Option Nat} {L:List SpX} {o:List Int} (a:SW h ow ro dat p sb bs X L o) (f:Fs h h' ow ro ow' ro' S) (h1 : ¬ S sb) (h2 : ∀ z,bs=some z -> ¬ S z) (h3 : ∀ z,X z -> ¬ S z):SW h' ow' ro' dat p sb bs X L o:=by
 obtain ⟨v,ov,e1,e2,e3,e4,e5,e6⟩:=a.ex
 have kp : ∀ z,z<h.nx->(PB ow ro sb z/\(bs≠some z/\X z))->h'.get z=h.get z/\(PB ow' ro' sb z/\(bs≠some z/\X z)):=fun z hz hp=>⟨f.ch.get z hz fun e=>e.elim (fun e=>e hp.1.1) fun e=>e.elim hp.1.2.1 (h3 z hp.2.2),⟨by rw [f.tag z hz];exact hp.1.1,fun e=>hp.1.2.1 ((f.rtag z hz).1 e),hp.1.2.2⟩,hp.2⟩
 refine ⟨a.own.fs f,fun z hz=>?_,⟨v,ov,e1,by rw [f.get a.own h1,e2],?_,fun y hy=>(e4 y hy).keep f.ch.nx kp kp,e5.keep2 f.ch.nx fun hl z hz=>(kp z (e5.lt hl hz) (e6 hl z hz)).1,fun hl z hz=>(kp z (e5.lt hl hz) (e6 hl z hz)).2⟩,a.few⟩
 ·obtain ⟨q1,q2,cs,q3⟩:=a.bown z hz
  exact ⟨q1.fs f,q2,cs,by rw [f.get q1 (h2 z hz),q3]⟩
 ·obtain ⟨ad,c,rfl,n,ft,g⟩:=e3
  refine ⟨ad,c,rfl,n,ft,fun hl=>?_⟩
  obtain ⟨b,oo,cs,rr,rfl,lb,pb,gb,hc⟩:=g hl
  have hz:bs=some b:=by rw [<- e1];rfl
  obtain ⟨q1,q2,_⟩:=a.bown b hz
  exact ⟨b,oo,cs,rr,rfl,zr lb f.ch.nx,⟨(q1.fs f).o0,(q1.fs f).r0,q2⟩,by rw [f.get q1 (h2 b hz),gb],hc⟩
noncomputable abbrev rdI (fd:Int) (st:St):Bool:=(rdyS st.ws fd).inn
section
variable {cl:Nat->Call} (hcl:Sem cl) {h:H} {p w s rw:Nat} {ow:Nat->Nat} {ro dat:Nat->Prop} {a r:St} {d i sb bp bf:Nat} {fd:Int} {bs:Option Nat} {X:Nat->Prop} {x:SpX} {L:List SpX} {o:List Int}
include hcl
theorem jnx (hd:15<=d) (b:BB h p w s rw ow ro dat a r) (so:StOk a i) (hi:i+x.ml.length<=900000) (A:SW h ow ro dat p sb bs X (x :: L) o) :
  ∃ h' ow',cl d (.fn F.jc5) [.p sb 0,.p w 0] h=some (.bool x.intr,h')/\BB h' p w s rw ow' ro dat (mvsS x.sp.moves a) r/\StOk (mvsS x.sp.moves a) (i+x.ml.length)/\SW h' ow' ro dat p sb bs X L x.ol/\Fs h h' ow ro ow' ro (· = sb):=by
 obtain ⟨v,ov,e1,e2,e3,e4,e5,e6⟩:=A.ex
 obtain ⟨h',ow',v',k1,k2,k3,k4,k5,⟨k6,k7⟩,⟨k8,k9⟩,f⟩:=wm_take hcl (X:=fun z=>bs≠some z/\X z) hd b so hi e2 A.own ⟨e3,e4⟩ (A.few x (zj ..))
 refine ⟨h',ow',k1,k2,k3,⟨A.own.fs f,fun z hz=>?_,⟨v',x.ov,by rw [k5,e1],k4,k6,k7,k8,k9⟩,fun y hy=>A.few y (zl _ hy)⟩,f⟩
 obtain ⟨q1,q2,cs,q3⟩:=A.bown z hz
 exact ⟨q1.fs f,q2,cs,by rw [f.get q1 q2,q3]⟩
theorem wm_holds (hd:5<=d) (b:BB h p w s rw ow ro dat a r) (ok:WsOk a.ws) (h1:h.get bp=some (.cells [.p p 0] false)) (h2:h.get bf=some (.cells [.i fd] false)) :
  ∃ h',cl d (.fn F.jah) [.p bp 0,.p bf 0] h=some (.bool (rdI fd a),h')/\Old h h':=by
 obtain ⟨h3,e3,o3⟩:=jlE hcl (d:=d-1) (fd:=fd) om b.W ok
 rw [jj3] at e3
 have hp:=b.hp
 refine jag (at_ hcl om rfl rfl rfl ?_)
 refine qx1 ?_
 exact ⟨rfl,o3⟩
end
theorem jhf {x:Sp} {l:List Sp} {o:List Int} {st:St} (h:x.ticks≠0):jgi (x :: l) o st=(false,x :: l,o,st):=if_neg h
theorem jhg {x:Sp} {l:List Sp} {o:List Int} {st:St} (h:x.ticks=0) (hi:x.intr=true):jgi (x :: l) o st=(true,l,x.order,mvsS x.moves st):=by
 rw [jgi,if_pos h,if_pos hi]
theorem jhe {x:Sp} {l:List Sp} {o:List Int} {st:St} (h:x.ticks=0) (hi:x.intr=false):jgi (x :: l) o st=jgi l x.order (mvsS x.moves st):=by
 rw [jgi,if_pos h,if_neg (by rw [hi];exact Bool.false_ne_true)]
theorem jf8 {x:SpX} {L:List SpX} : sumM (x :: L)=x.ml.length+sumM L:=rfl
theorem At4.cons {h:H} {P:Nat->Prop} {x:SpX} {L:List SpX} {v:V} (a:At4 h P SpX.V v (x :: L)) : ∃ b o c cs rr,v = .slice (some (b,o)) (x :: L).length c/\b<h.nx/\h.get b=some (.cells cs rr)/\(cs.drop (o+(0:Int).toNat*4)).take 4=x.V:=by
 obtain ⟨ad,c,rfl,_,_,g⟩:=a
 obtain ⟨b,o,cs,rr,rfl,lb,_,gb,hc⟩:=g Zd
 exact ⟨b,o,c,cs,rr,rfl,lb,gb,hc 0 x rfl⟩
def jgf (h:H) (p w s rw:Nat) (ow:Nat->Nat) (ro dat:Nat->Prop) (r:St) (sb:Nat) (bs:Option Nat) (X:Nat->Prop) (N:Nat) (R:Int × List Sp × List Int × St) (v:V) (h':H):Prop :=
 ∃ ow' L' i',v = .i R.1/\L'.map SpX.sp=R.2.1/\BB h' p w s rw ow' ro dat R.2.2.2 r/\StOk R.2.2.2 i'/\SW h' ow' ro dat p sb bs X L' R.2.2.1/\Fs h h' ow ro ow' ro (fun j=>j=sb\/bs=some j)/\i'+sumM L'<=N
theorem Run.fin_mono' {call:Call} {fuel:Nat} {c:AC} {res:List RV} {K:List Fr} {e:Env} {h:H} {R R':V->H->Prop} (k:Run call fuel c K e h (Fin res R)) (hR : ∀ v h',R v h'->R' v h'):Run call fuel c K e h (Fin res R'):=by
 obtain ⟨x',e',h',hd',x2,e2,h2,ha,⟨⟨p1,l,p2,p3⟩⟩⟩:=k
 exact ⟨x',e',h',hd',x2,e2,h2,ha,⟨⟨p1,l,p2,hR _ _ p3⟩⟩⟩
theorem jgf.trans {h g:H} {p w s rw:Nat} {ow ow1:Nat->Nat} {ro dat:Nat->Prop} {r:St} {sb:Nat} {bs:Option Nat} {X:Nat->Prop} {N:Nat} {R:Int × List Sp × List Int × St} {v:V} {h':H} (q:jgf g p w s rw ow1 ro dat r sb bs X N R v h') (f:Fs h g ow ro ow1 ro (fun j=>j=sb\/bs=some j)):jgf h p w s rw ow ro dat r sb bs X N R v h':=by
 obtain ⟨ow',L',i',e1,e2,e3,e4,e5,e6,e7⟩:=q
 exact ⟨ow',L',i',e1,e2,e3,e4,e5,f.trans e6 fun _ _ e=>e,e7⟩
section
variable {rd:St->Bool} {fv:Bool} {x:Sp} {l:List Sp} {wt:Int} {o:List Int} {st:St}
theorem jd3 (h:rd st=true):napS rd fv l wt o st=(1,l,o,st):=by
 cases l with
 | nil=>rw [napS,if_pos h]
 | cons x l=>rw [napS,if_pos h]
theorem jiV (h:rd st=false) (h1:fv=false) (h2:wt=0):napS rd fv l wt o st=(2,l,o,st):=by
 cases l with
 | nil=>rw [napS,if_neg (by rw [h];exact Bool.false_ne_true),if_pos ⟨h1,h2⟩]
 | cons x l=>rw [napS,if_neg (by rw [h];exact Bool.false_ne_true),if_pos ⟨h1,h2⟩]
theorem jcR (h:rd st=false) (h1:fv=true):napS rd fv [] wt o st=(4,[],o,st):=by
 rw [napS,if_neg (by rw [h];exact Bool.false_ne_true),if_neg (by rw [h1];exact fun e=>Bool.noConfusion e.1),if_pos h1]
theorem jhl (h:rd st=false) (h1:fv=false) (h2:wt≠0):napS rd fv [] wt o st=(2,[],o,{ st with now:=jcn st.now wt }):=by
 rw [napS,if_neg (by rw [h];exact Bool.false_ne_true),if_neg (fun e=>h2 e.2),if_neg (by rw [h1];exact Bool.false_ne_true)]
theorem jfO (h:rd st=false) (h1:fv=false) (h2:wt≠0) (h3:wt<x.ticks):napS rd fv (x :: l) wt o st=(2,{ x with ticks:=x.ticks-wt } :: l,o,{ st with now:=jcn st.now wt }):=by
 rw [napS,if_neg (by rw [h];exact Bool.false_ne_true),if_neg (fun e=>h2 e.2),if_pos ⟨h1,h3⟩]
theorem jg5 (h:rd st=false) (h1 : ¬ (fv=false/\wt=0)) (h2 : ¬ (fv=false/\wt<x.ticks)) (h3:x.intr=true):napS rd fv (x :: l) wt o st=(3,l,x.order,mvsS x.moves { st with now:=jcn st.now x.ticks }):=by
 rw [napS,if_neg (by rw [h];exact Bool.false_ne_true),if_neg h1,if_neg h2,if_pos h3]
theorem jg4 (h:rd st=false) (h1 : ¬ (fv=false/\wt=0)) (h2 : ¬ (fv=false/\wt<x.ticks)) (h3:x.intr=false):napS rd fv (x :: l) wt o st=napS rd fv l (wt-min wt x.ticks) x.order (mvsS x.moves { st with now:=jcn st.now x.ticks }):=by
 rw [napS,if_neg (by rw [h];exact Bool.false_ne_true),if_neg h1,if_neg h2,if_neg (by rw [h3];exact Bool.false_ne_true)]
theorem jk4 : ∀ {l:List Sp} {w1 w2:Int} {o:List Int} {st:St},napS rd true l w1 o st=napS rd true l w2 o st
 | [],w1,w2,o,st=>by
  by_cases h:rd st=true
  ·rw [jd3 h,jd3 h]
  ·have h:rd st=false:=by simpa using h
   rw [jcR h rfl,jcR h rfl]
 | x :: l,w1,w2,o,st=>by
  by_cases h:rd st=true
  ·rw [jd3 h,jd3 h]
  ·have h:rd st=false:=by simpa using h
   have n : ∀ (p:Prop),¬ (true=false/\p):=fun _ e=>Bool.noConfusion e.1
   by_cases hi:x.intr=true
   ·rw [jg5 h (n _) (n _) hi,jg5 h (n _) (n _) hi]
   ·have hi:x.intr=false:=by simpa using hi
    rw [jg4 h (n _) (n _) hi,jg4 h (n _) (n _) hi]
    exact jk4
end
theorem At4.upd {h:H} {P:Nat->Prop} {x:SpX} {L:List SpX} {b o n:Nat} {c:Cap} {cs:List V} {t:Int} (a:At4 h P SpX.V (.slice (some (b,o)) n c) (x :: L)) (g:h.get b=some (.cells cs false)) :
  At4 (h.set b (.cells (cs.set (o+(0:Int).toNat*4+0) (.int .u64 t)) false)) P SpX.V (.slice (some (b,o)) n c) ({ x with t:=t } :: L):=by
 obtain ⟨ad,c',e,n1,ft,k⟩:=a
 cases e
 obtain ⟨b',o',cs',rr,e1,e2,e3,e4,e5⟩:=k Zd
 cases e1
 rw [g] at e4
 cases e4
 refine ⟨_,_,rfl,fun e=>(by cases e),ft,fun _=>⟨b,o,_,false,rfl,e2,e3,jab _,fun i y hi=>?_⟩⟩
 match i,hi with
 | 0,hi=>
  cases hi
  have h0:(cs.drop o).take 4=x.V:=by have:=e5 0 x rfl;simpa using this
  have hl:=jf6 h0 rfl
  show ((cs.set o (.int .u64 t)).drop (o+0)).take 4=_
  rw [Nat.add_zero,List.drop_set,if_neg om,Nat.sub_self,List.take_set,h0]
  rfl
 | i+1,hi=>
  have:=e5 (i+1) y (by simpa using hi)
  show ((cs.set o (.int .u64 t)).drop _).take 4=_
  rw [List.drop_set,if_pos om]
  exact this
section
variable {cl:Nat->Call} (hcl:Sem cl) {h:H} {p w s rw:Nat} {ow:Nat->Nat} {ro dat:Nat->Prop} {a r:St} {d i sb bp bf:Nat} {fd wt:Int} {fv:Bool} {bs:Option Nat} {X:Nat->Prop} {L:List SpX} {o:List Int}
include hcl
theorem wm_nap {N:Nat} {sbi:Env} (hd:16<=d) (b:BB h p w s rw ow ro dat a r) (so:StOk a i) (A:SW h ow ro dat p sb bs X L o) (hi:i+sumM L<=N) (hN:N<=900000) (hL:L.length<=2000)
  (h1:h.get bp=some (.cells [.p p 0] false)) (h2:h.get bf=some (.cells [.i fd] false)) (p1:Own h ow ro dat p bp/\bp≠sb/\bs≠some bp) (p2:Own h ow ro dat p bf/\bf≠sb/\bs≠some bf) (w0:0<=wt) (w1:wt<=18446744073709551615) :
  Run (cl d) fuel (.loop [0,1,2,3,4] (.block 3 (.seq (.block 4 c14_6) c14_7))) [.block 2] ((0,.p sb 0) :: (1,.p w 0) :: (2,.int .u64 wt) :: (3,.bool fv) :: (4,.clo F.jah [.p bp 0,.p bf 0]) :: sbi) h
   (Fin c14.res fun v h'=>jgf h p w s rw ow ro dat r sb bs X N (napS (rdI fd) fv (L.map SpX.sp) wt o a) v h'):=by
 generalize hR:napS (rdI fd) fv (L.map SpX.sp) wt o a=R
 refine Run.loop (fun m e g=>∃ (L1:List SpX) (o1:List Int) (a1:St) (ow1:Nat->Nat) (i1:Nat) (w1:Int) (sbe:Env),m=L1.length/\e=(0,.p sb 0) :: (1,.p w 0) :: (2,.int .u64 w1) :: (3,.bool fv) :: (4,.clo F.jah [.p bp 0,.p bf 0]) :: sbe/\BB g p w s rw ow1 ro dat a1 r/\StOk a1 i1/\SW g ow1 ro dat p sb bs X L1 o1/\Fs h g ow ro ow1 ro (fun j=>j=sb\/bs=some j)/\i1+sumM L1<=N/\0<=w1/\w1<=18446744073709551615/\napS (rdI fd) fv (L1.map SpX.sp) w1 o1 a1=R)
  (k:=L.length) Ze ⟨L,o,a,ow,i,wt,sbi,rfl,rfl,b,so,A,Fs.refl,hi,w0,w1,hR⟩ ?_
 clear b so A hi w0 w1 hR hL
 rintro _ _ g ⟨L1,o1,a1,ow1,i1,w1,sbe0,rfl,rfl,b,so,A,f,hi,w0,w2,hR⟩ n' ih
 show Run _ _ _ _ [(0,.p sb 0),(1,.p w 0),(2,.int .u64 w1),(3,.bool fv),(4,.clo F.jah [.p bp 0,.p bf 0])] _ _
 clear sbe0
 have nS : ∀ z,z≠sb/\bs≠some z -> ¬ (z=sb\/bs=some z):=fun z hz e=>e.elim hz.1 hz.2
 have gbp:g.get bp=some (.cells [.p p 0] false):=by rw [f.get p1.1 (nS _ p1.2),h1]
 have gbf:g.get bf=some (.cells [.i fd] false):=by rw [f.get p2.1 (nS _ p2.2),h2]
 obtain ⟨g1,e1,o1'⟩:=wm_holds hcl (d:=d) (fd:=fd) om b so.K.ok gbp gbf
 have f1:Fs h g1 ow ro ow1 ro (fun j=>j=sb\/bs=some j):=f.trans (Fs.old (S:=fun _=>False) o1') fun _ _ e=>e.elim
 have b1:=b.old o1'
 have A1:=A.fs (Fs.old (S:=fun _=>False) o1') (fun e=>e) (fun _ _ e=>e) fun _ _ e=>e
 clear A b f gbp gbf h1 h2
 obtain ⟨C,hC⟩ : ∃ C,C=c14_5:=⟨_,rfl⟩
 obtain ⟨C7,hC7⟩ : ∃ C,C=c14_7:=⟨_,rfl⟩
 simp only [c14_6,<- hC,<- hC7,uF]
 by_cases hrd:rdI fd a1=true
 ·rw [hrd] at e1
  rw [jd3 hrd] at hR
  subst hR
  clear ih
  refine qx1 ?_
  refine Ops.callc rfl rfl e1 ?_
  refine qx1 ?_
  exact ⟨ow1,L1,i1,rfl,rfl,b1,so,A1,f1,hi⟩
 have hrd:rdI fd a1=false:=by simpa using hrd
 rw [hrd] at e1
 have clE:=Fs.of_fm (S:=fun j=>j=sb\/bs=some j) (Fm.refl (h:=g1) (ow:=ow1) (ro:=ro))
 clear clE
 have U : ∀ (x:SpX) (M:List SpX),L1=x :: M -> ¬ (fv=false/\w1=0) -> ¬ (fv=false/\w1<x.t) -> ∀ sbe,Run (cl d) fuel C7 [.block 3,.loop [0,1,2,3,4] (.block 3 (.seq (.block 4 c14_6) C7)) n',.block 2] ((0,.p sb 0) :: (1,.p w 0) :: (2,.int .u64 w1) :: (3,.bool fv) :: (4,.clo F.jah [.p bp 0,.p bf 0]) :: sbe) g1 (Fin c14.res fun v h'=>jgf h p w s rw ow ro dat r sb bs X N R v h'):=by
  rintro x M rfl k1 k2 sbe
  obtain ⟨v,ov,ev,es,ea,el,eo,eoz⟩:=id A1.ex
  obtain ⟨bb,oo,c,cs,rr,rfl,lb,gb,h4⟩:=At4.cons ea
  have hbs:bs=some bb:=by rw [<- ev];rfl
  have sx:=el x (zj ..)
  have q0:cs[oo+(0:Int).toNat*4+0]?=some (.int .u64 x.t):=by rw [jgP h4 om];rfl
  have hlc:(0:Int)<(((x :: M).length:Nat):Int):=by simp
  obtain ⟨g2,e2,b2,f2⟩:=jl6 hcl (d:=d) (t:=x.t) om b1 so sx.t0 sx.t1
  have so2:=jgx so sx.t0 sx.t1
  have A2:=A1.fs (Fs.of_fm (S:=fun _=>False) f2) (fun e=>e) (fun _ _ e=>e) fun _ _ e=>e
  have es2:g2.get sb=some (.cells [.slice (some (bb,oo)) (x :: M).length c,ov] false):=by rw [(Fs.of_fm (S:=fun _=>False) f2).get A1.own (fun e=>e),es]
  have gb2:g2.get bb=some (.cells cs rr):=by rw [(Fs.of_fm (S:=fun _=>False) f2).get (A1.bown bb hbs).1 (fun e=>e),gb]
  rw [jf8] at hi
  obtain ⟨g3,ow3,e3,b3,so3,A3,f3⟩:=jnx hcl (d:=d) om b2 so2 om A2
  have ff:Fs h g3 ow ro ow3 ro (fun j=>j=sb\/bs=some j):=(f1.trans (Fs.of_fm (S:=fun _=>False) f2) fun _ _ e=>e.elim).trans f3 fun _ _ e=>.inl e
  have hm1:min w1 x.t<=w1:=Int.min_le_left _ _
  have hm0:0<=min w1 x.t:=by have:=sx.t0;omega
  rw [hC7]
  clear b1 A1 b2 A2 so2 so el ea eo eoz f1 f2 f3 sx h4
  cases hin:x.intr with
  | true=>
   have hR':=hR
   rw [List.map_cons,jg5 (x:=x.sp) hrd k1 k2 hin] at hR'
   subst hR'
   rw [hin] at e3
   clear ih hR
   refine qx1 ?_
   exact ⟨ow3,M,_,rfl,rfl,b3,so3,A3,ff,by omega⟩
  | false=>
   rw [List.map_cons,jg4 (x:=x.sp) hrd k1 k2 hin] at hR
   rw [hin] at e3
   refine qx1 ?_
   exact ih M.length Zd _ _ ⟨M,x.ol,_,ow3,_,w1-min w1 x.t,_,rfl,rfl,b3,so3,A3,ff,by omega,by omega,by omega,hR⟩
 have T : ∀ sbe,Run (cl d) fuel C [.block 4,.seq C7,.block 3,.loop [0,1,2,3,4] (.block 3 (.seq (.block 4 c14_6) C7)) n',.block 2] ((0,.p sb 0) :: (1,.p w 0) :: (2,.int .u64 w1) :: (3,.bool fv) :: (4,.clo F.jah [.p bp 0,.p bf 0]) :: sbe) g1 (Fin c14.res fun v h'=>jgf h p w s rw ow ro dat r sb bs X N R v h'):=by
  intro sbe
  rw [hC]
  obtain ⟨v,ov,ev,es,ea,el,eo,eoz⟩:=id A1.ex
  have nt : ¬ (true=false):=fun e=>Bool.noConfusion e
  cases fv with
  | true=>
   cases L1 with
   | nil=>
    obtain ⟨ad,c,rfl,_⟩:=id ea
    have h0:(([]:List SpX).length:Int)=0:=rfl
    rw [List.map_nil,jcR hrd rfl] at hR
    subst hR
    clear ih U ea el eo eoz
    refine qx1 ?_
    exact ⟨ow1,[],i1,rfl,rfl,b1,so,A1,f1,hi⟩
   | cons x M=>
    have U':=U x M rfl (fun e=>nt e.1) (fun e=>nt e.1)
    obtain ⟨bb,oo,c,cs,rr,rfl,lb,gb,h4⟩:=At4.cons ea
    have h0 : ¬ (((x :: M).length:Nat):Int)=0:=by simp;omega
    clear ih U ea el eo eoz b1 so A1 f1 hR
    refine qx1 ?_
    exact U' _
  | false=>
   have ft:false=false:=rfl
   by_cases hw:w1=0
   ·rw [jiV hrd rfl hw] at hR
    subst hR
    clear ih U ea el eo eoz
    refine qx1 ?_
    exact ⟨ow1,L1,i1,rfl,rfl,b1,so,A1,f1,hi⟩
   cases L1 with
   | nil=>
    obtain ⟨ad,c,rfl,_⟩:=id ea
    have h0:(([]:List SpX).length:Int)=0:=rfl
    rw [List.map_nil,jhl hrd rfl hw] at hR
    subst hR
    obtain ⟨g2,e2,b2,f2⟩:=jl6 hcl (d:=d) (t:=w1) om b1 so w0 w2
    have so2:=jgx so w0 w2
    have A2:=A1.fs (Fs.of_fm (S:=fun _=>False) f2) (fun e=>e) (fun _ _ e=>e) fun _ _ e=>e
    have ff:Fs h g2 ow ro ow1 ro (fun j=>j=sb\/bs=some j):=f1.trans (Fs.of_fm (S:=fun _=>False) f2) fun _ _ e=>e.elim
    clear ih U ea el eo eoz b1 so A1 f1
    refine qx1 ?_
    exact ⟨ow1,[],i1,rfl,rfl,b2,so2,A2,ff,hi⟩
   | cons x M=>
    by_cases hlt:w1<x.t
    case neg=>
     have U':=U x M rfl (fun e=>hw e.2) (fun e=>hlt e.2)
     obtain ⟨bb,oo,c,cs,rr,rfl,lb,gb,h4⟩:=At4.cons ea
     have h0 : ¬ (((x :: M).length:Nat):Int)=0:=by simp;omega
     have hlc:(0:Int)<(((x :: M).length:Nat):Int):=by simp
     have q0:cs[oo+(0:Int).toNat*4+0]?=some (.int .u64 x.t):=by rw [jgP h4 om];rfl
     clear ih U ea el eo eoz b1 so A1 f1 hR
     refine qx1 ?_
     exact U' _
    obtain ⟨bb,oo,c,cs,rr,rfl,lb,gb,h4⟩:=At4.cons ea
    have hbs:bs=some bb:=by rw [<- ev];rfl
    obtain ⟨ob,nb,cs',gb'⟩:=A1.bown bb hbs
    obtain rfl:rr=false:=by rw [gb] at gb';cases gb';rfl
    clear gb' cs'
    have sx:=el x (zj ..)
    have h0 : ¬ (((x :: M).length:Nat):Int)=0:=by simp;omega
    have hlc:(0:Int)<(((x :: M).length:Nat):Int):=by simp
    have q0:cs[oo+(0:Int).toNat*4+0]?=some (.int .u64 x.t):=by rw [jgP h4 om];rfl
    have hlen:=jf6 h4 rfl
    have x1:=sx.t1
    have fset:Fs g1 (g1.set bb (.cells (cs.set (oo+(0:Int).toNat*4+0) (.int .u64 (x.t-w1))) false)) ow1 ro ow1 ro (fun j=>j=bb):=Fs.set rfl
    have kp : ∀ z,z<g1.nx->(PB ow1 ro sb z/\(bs≠some z/\X z))->(g1.set bb (.cells (cs.set (oo+(0:Int).toNat*4+0) (.int .u64 (x.t-w1))) false)).get z=g1.get z/\(PB ow1 ro sb z/\(bs≠some z/\X z)):=fun z hz hp=>⟨jaa fun e=>hp.2.1 (by rw [hbs,e]),hp⟩
    have A2:SW (g1.set bb (.cells (cs.set (oo+(0:Int).toNat*4+0) (.int .u64 (x.t-w1))) false)) ow1 ro dat p sb bs X ({ x with t:=x.t-w1 } :: M) o1:=by
     refine ⟨A1.own.fs fset,fun z hz=>?_,⟨_,ov,ev,by rw [jaa (Ne.symm nb),es],ea.upd gb,fun y hy=>?_,eo.keep2 (zq _) fun hl z hz=>(kp z (eo.lt hl hz) (eoz hl z hz)).1,eoz⟩,fun y hy=>?_⟩
     ·obtain rfl:bb=z:=by rw [hbs] at hz;cases hz;rfl
      exact ⟨ob.fs fset,nb,_,jab _⟩
     ·rcases List.mem_cons.1 hy with rfl | hy
      ·have s2:=sx.keep (h':=g1.set bb (.cells (cs.set (oo+(0:Int).toNat*4+0) (.int .u64 (x.t-w1))) false)) (zq _) kp kp
       exact ⟨s2.ov,s2.mv,s2.dv,by show 0<=x.t-w1;omega,by show x.t-w1<=_;omega⟩
      ·exact (el y (zl _ hy)).keep (zq _) kp kp
     ·rcases List.mem_cons.1 hy with rfl | hy
      ·exact A1.few x (zj ..)
      ·exact A1.few y (zl _ hy)
    have b2:=b1.set ob (ob := .cells (cs.set (oo+(0:Int).toNat*4+0) (.int .u64 (x.t-w1))) false)
    obtain ⟨g3,e3,b3,f3⟩:=jl6 hcl (d:=d) (t:=w1) om b2 so w0 w2
    have so2:=jgx so w0 w2
    have A3:=A2.fs (Fs.of_fm (S:=fun _=>False) f3) (fun e=>e) (fun _ _ e=>e) fun _ _ e=>e
    have ff:Fs h g3 ow ro ow1 ro (fun j=>j=sb\/bs=some j):=(f1.trans fset fun j _ e=>.inr (by rw [hbs,e])).trans (Fs.of_fm (S:=fun _=>False) f3) fun _ _ e=>e.elim
    rw [List.map_cons,jfO (x:=x.sp) hrd rfl hw hlt] at hR
    subst hR
    have hs:i1+sumM ({ x with t:=x.t-w1 } :: M)<=N:=hi
    clear ih U ea el eo eoz b1 so A1 f1 b2 A2 f3 fset kp sx h4 ob
    refine qx1 ?_
    refine Ops.store1 rfl rfl rfl gb om ?_
    refine qx1 ?_
    exact ⟨ow1,_,i1,rfl,rfl,b3,so2,A3,ff,hs⟩
 simp only [c14_6,<- hC,uF] at T
 clear ih
 refine qx1 ?_
 refine Ops.callc rfl rfl e1 ?_
 refine qx1 ?_
 exact T _
theorem wm_Sleep {N:Nat} (hd:17<=d) (b:BB h p w s rw ow ro dat a r) (so:StOk a i) (A:SW h ow ro dat p sb bs X L o) (hi:i+sumM L<=N) (hN:N<=900000) (hL:L.length<=2000)
  (h1:h.get bp=some (.cells [.p p 0] false)) (h2:h.get bf=some (.cells [.i fd] false)) (p1:Own h ow ro dat p bp/\bp≠sb/\bs≠some bp) (p2:Own h ow ro dat p bf/\bf≠sb/\bs≠some bf) (w0:0<=wt) (w1:wt<=18446744073709551615) :
  ∃ v h',cl d (.fn F.jdt) [.p sb 0,.p w 0,.int .u64 wt,.bool fv,.clo F.jah [.p bp 0,.p bf 0]] h=some (v,h')/\jgf h p w s rw ow ro dat r sb bs X N (jbO (rdI fd) fv (L.map SpX.sp) wt o a) v h':=by
 obtain ⟨hA,eA,oA⟩:=jns hcl (d:=d-1) om b.W so.K.ok
 refine at_ hcl om rfl rfl rfl ?_
 generalize hR:jbO (rdI fd) fv (L.map SpX.sp) wt o a=R
 have bA:=b.old oA
 have fA:Fs h hA ow ro ow ro (fun j=>j=sb\/bs=some j):=Fs.old oA
 have AA:=A.fs (Fs.old (S:=fun _=>False) oA) (fun e=>e) (fun _ _ e=>e) fun _ _ e=>e
 have nS : ∀ z,z≠sb/\bs≠some z -> ¬ (z=sb\/bs=some z):=fun z hz e=>e.elim hz.1 hz.2
 obtain ⟨C,hC⟩ : ∃ C,C=c14_8:=⟨_,rfl⟩
 obtain ⟨C2,hC2⟩ : ∃ C,C=(.loop [0,1,2,3,4] (.block 3 (.seq (.block 4 c14_6) c14_7)):AC):=⟨_,rfl⟩
 simp only [c14,c14_9,<- hC,<- hC2,uF,yB]
 clear b A
 refine qx1 ?_
 refine Run.loop (fun m e g=>∃ (L1:List SpX) (o1:List Int) (a1:St) (ow1:Nat->Nat) (i1:Nat) (sbe:Env),m=L1.length/\e=(0,.p sb 0) :: (1,.p w 0) :: (2,.int .u64 wt) :: (3,.bool fv) :: (4,.clo F.jah [.p bp 0,.p bf 0]) :: sbe/\BB g p w s rw ow1 ro dat a1 r/\StOk a1 i1/\SW g ow1 ro dat p sb bs X L1 o1/\Fs h g ow ro ow1 ro (fun j=>j=sb\/bs=some j)/\i1+sumM L1<=N/\L1.length<=2000/\jbO (rdI fd) fv (L1.map SpX.sp) wt o1 a1=R)
  (k:=L.length) Ze ⟨L,o,a,ow,i,_,rfl,rfl,bA,so,AA,fA,hi,hL,hR⟩ ?_
 clear bA so AA fA hi hR eA oA
 rintro _ _ g ⟨L1,o1,a1,ow1,i1,sbe0,rfl,rfl,b,so,A,f,hi,hL1,hR⟩ n' ih
 show Run _ _ _ _ [(0,.p sb 0),(1,.p w 0),(2,.int .u64 wt),(3,.bool fv),(4,.clo F.jah [.p bp 0,.p bf 0])] _ _
 clear sbe0
 obtain ⟨v,ov,ev,es,ea,el,eo,eoz⟩:=id A.ex
 have own:=A.own
 have gbp:g.get bp=some (.cells [.p p 0] false):=by rw [f.get p1.1 (nS _ p1.2),h1]
 have gbf:g.get bf=some (.cells [.i fd] false):=by rw [f.get p2.1 (nS _ p2.2),h2]
 have T : ∀ sbe,jbO (rdI fd) fv (L1.map SpX.sp) wt o1 a1=napS (rdI fd) fv (L1.map SpX.sp) wt o1 a1->Run (cl (d-1)) fuel C2 [.block 2] ((0,.p sb 0) :: (1,.p w 0) :: (2,.int .u64 wt) :: (3,.bool fv) :: (4,.clo F.jah [.p bp 0,.p bf 0]) :: sbe) g (Fin c14.res (jgf h p w s rw ow ro dat r sb bs X N R)):=fun sbe hz=>by
  rw [hC2]
  rw [hz] at hR
  subst hR
  exact Run.fin_mono' (wm_nap hcl (d:=d-1) om b so A hi hN hL1 gbp gbf ⟨p1.1.fs f,p1.2⟩ ⟨p2.1.fs f,p2.2⟩ w0 w1) fun _ _ q=>jgf.trans q f
 cases L1 with
 | nil=>
  obtain ⟨ad,c,rfl,_⟩:=id ea
  have h0:(([]:List SpX).length:Int)=0:=rfl
  have h0' : ¬ (0:Int)<(([]:List SpX).length:Int):=by rw [h0];omega
  have T':=fun sbe=>T sbe rfl
  subst hC
  clear ih T ea el eo eoz b so A f hR
  refine qx1 ?_
  exact T' _
 | cons x M=>
  obtain ⟨bb,oo,c,cs,rr,rfl,lb,gb,h4⟩:=At4.cons ea
  have hlc:(0:Int)<(((x :: M).length:Nat):Int):=by simp
  have q0:cs[oo+(0:Int).toNat*4+0]?=some (.int .u64 x.t):=by rw [jgP h4 om];rfl
  by_cases ht:x.t=0
  case neg=>
   have T':=fun sbe=>T sbe (by unfold jbO;rw [List.map_cons,jhf (x:=x.sp) ht])
   subst hC
   clear ih T ea el eo eoz b so A f hR
   refine qx1 ?_
   exact T' _
  rw [jf8] at hi
  obtain ⟨g3,ow3,e3,b3,so3,A3,f3⟩:=jnx hcl (d:=d-1) om b so om A
  have ff:Fs h g3 ow ro ow3 ro (fun j=>j=sb\/bs=some j):=f.trans f3 fun _ _ e=>.inl e
  subst hC
  clear T ea el eo eoz b so A f f3
  cases hin:x.intr with
  | true=>
   unfold jbO at hR
   rw [List.map_cons,jhg (x:=x.sp) ht hin] at hR
   subst hR
   rw [hin] at e3
   clear ih
   refine qx1 ?_
   exact ⟨ow3,M,_,rfl,rfl,b3,so3,A3,ff,by omega⟩
  | false=>
   unfold jbO at hR
   rw [List.map_cons,jhe (x:=x.sp) ht hin] at hR
   rw [hin] at e3
   have hm:M.length<=2000:=by have:(x :: M).length<=2000:=hL1;simp at this;omega
   have hR2:jbO (rdI fd) fv (M.map SpX.sp) wt x.ol (mvsS x.sp.moves a1)=R:=hR
   refine qx1 ?_
   exact ih M.length Zd _ _ ⟨M,x.ol,_,ow3,_,_,rfl,rfl,b3,so3,A3,ff,by omega,hm,hR2⟩
end
end Am.Sigs
