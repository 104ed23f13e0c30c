/- Our own library, part 20. -/
import Derived.Test.YtfajaihbhmbpnaaGreatDoorX19
import Derived.Test.YtfajaihbhmbpnaaGreatDoorX11
import Derived.Test.YtfajaihbhmbpnaaGreatDoorX17
import Derived.Test.YtfajaihbhmbpnaaGreatDoorX14
set_option maxHeartbeats 8000000
set_option maxRecDepth 800
set_option linter.all false
namespace Am.Sigs
open Am Go
noncomputable def parR (n:Nat):List (List UInt8)->Nat × List Sp
 | []=>(0,[])
 | l :: r=>match r with
  | []=>if l=[] then (0,[]) else (n+1,[])
  | _ :: _=>match jbe l with
   | none=>(n+1,[])
   | some x=>if 2000<n+1 then (n+1,[]) else match parR (n+1) r with
    | (0,xs)=>(0,x :: xs)
    | (k+1,_)=>(k+1,[])
def parU (XL:List Sp):Nat × List Sp->Nat × List Sp
 | (0,xs)=>(0,XL++xs)
 | (k+1,_)=>(k+1,[])
theorem jcY (n:Nat):parR n (jai 10 [])=(0,[]):=by simp [jai,parR]
theorem jg1 {n:Nat} {s:List UInt8} (h0:s≠[]) (hc:(10:UInt8) ∉ s):parR n (jai 10 s)=(n+1,[]):=by
 rw [jbO hc,parR]
 simp [h0]
theorem jex {n:Nat} {w r:List UInt8} (hw:(10:UInt8) ∉ w):parR n (jai 10 (w++10 :: r))=(match jbe w with
   | none=>(n+1,[])
   | some x=>if 2000<n+1 then (n+1,[]) else parU [x] (parR (n+1) (jai 10 r))):=by
 rw [jbo hw]
 cases hs:jai 10 r with
 | nil=>exact zC hs (jcQ 10 r)
 | cons a l=>
  rw [parR]
  cases jbe w with
  | none=>rfl
  | some x=>
   simp only
   split
   ·rfl
   ·rcases parR (n+1) (a :: l) with ⟨k,xs⟩
    cases k<;>rfl
theorem parR_err : ∀ (l:List (List UInt8)) (n k:Nat) (xs:List Sp),parR n l=(k+1,xs)->xs=[]
 | [],n,k,xs,h=>by simp [parR] at h
 | l :: r,n,k,xs,h=>by
  cases r with
  | nil=>
   rw [parR] at h
   split at h
   ·simp at h
   ·simp at h;exact h.2
  | cons a t=>
   rw [parR] at h
   cases hs:jbe l with
   | none=>rw [hs] at h;simp at h;exact h.2
   | some x=>
    rw [hs] at h
    simp only at h
    split at h
    ·simp at h;exact h.2
    ·cases hp:parR (n+1) (a :: t) with
     | mk k' ys=>
      rw [hp] at h
      cases k' with
      | zero=>simp at h
      | succ k'=>simp at h;exact h.2
theorem parU_nil {n:Nat} {l:List (List UInt8)} : parU [] (parR n l)=parR n l:=by
 cases h:parR n l with
 | mk k xs=>
  cases k with
  | zero=>rfl
  | succ k=>rw [parR_err l n k xs h];rfl
theorem parU_U (A B:List Sp) (p:Nat × List Sp):parU A (parU B p)=parU (A++B) p:=by
 rcases p with ⟨k,xs⟩
 cases k with
 | zero=>simp [parU]
 | succ k=>rfl
theorem PI.cut {h0 h1 g:H} {cb R2 R3 R4 Lp:Nat} {s1 s2:List UInt8} {n:Nat} {lo:Obj} {XL:List SpX} (a:PI h1 cb R2 R3 R4 Lp lo s1 n XL g) (x:PX h0 h1 cb R2 R3 R4 Lp):PI h1 cb R2 R3 R4 Lp lo s2 n XL (g.set cb (.cells [.str s2] false)):=by
 obtain ⟨n1,n2,n3,n4,n5,n6,n7,n8,n9,n10⟩:=x.ne
 have hc:=x.c2
 obtain ⟨sv,e1,e2⟩:=a.R2_
 exact ⟨a.ch.trans (Ch.set (.inl rfl)),jab _,⟨sv,by rw [jaa (Ne.symm n1),e1],e2.keep Zd fun z hz=>by have:=(e2.at_ge hz).1;exact jaa om⟩,by rw [jaa (Ne.symm n2),a.R3_],by rw [jaa (Ne.symm n3),a.R4_],by rw [jaa (Ne.symm n4),a.L_],fun y hy=>(a.st y hy).keep Zd (fun z _ hz=>⟨jaa om,hz⟩) fun z _ hz=>⟨jaa om,hz⟩⟩
theorem fin3 {call:Call} {fuel:Nat} {h:H} {a b c:Nat} {u v w:V} {r1 r2 r3:Bool} {R:V->H->Prop} {e:Env} (e1:e.get 2=some (.p a 0)) (e2:e.get 3=some (.p b 0)) (e3:e.get 4=some (.p c 0)) (h1:h.get a=some (.cells [u] r1)) (h2:h.get b=some (.cells [v] r2)) (h3:h.get c=some (.cells [w] r3)) (k:R (.tup [u,v,w]) h) :
  End call fuel [] .ret e h (Fin [.cell1 2,.cell1 3,.cell1 4] R):=by
 refine End.fin2 (a:=u) (b:=v) (l:=[w]) ?_ k
 have k1:h.load1 a 0=some u:=by simp only [H.load1,h1];rfl
 have k2:h.load1 b 0=some v:=by simp only [H.load1,h2];rfl
 have k3:h.load1 c 0=some w:=by simp only [H.load1,h3];rfl
 simp only [jcl,e1,e2,e3,k1,k2,k3]
def TF (s:List UInt8):Prop:=s.length<=40000000/\(jai 10 s).length<=19000 /\ ∀ t∈jai 10 s,LF t
theorem TF.of {s:List UInt8} (h:s.length<=12000):TF s :=
 ⟨by omega,by rw [jbi];have:=jdy 10 s;omega,fun t ht=>LF.of (by have:=jbP ht;omega)⟩
theorem TF.tail {w r:List UInt8} (h:TF (w++10 :: r)) (hw:(10:UInt8) ∉ w):TF r:=by
 obtain ⟨h1,h2,h3⟩:=h
 rw [jbo hw] at h2 h3
 exact ⟨by simp at h1;omega,by simp at h2;omega,fun t ht=>h3 t (zj _ ht)⟩
section
variable {cl:Nat->Call} (hcl:Sem cl) {d:Nat} {h0 h1 h g:H} {cb R2 R3 R4 Lp:Nat} {s:List UInt8} {LO:LoopState->Option Ex->Obj}
include hcl
theorem st_ib {c:UInt8} (hd:3<=d):cl d (.fn 72) [.str s,.int .u8 (c.toNat:Int)] h=some (.i (idxB c s 0),h):=by
 have e0:cl (d-2) (.fn 126) [.str s,.int .u8 (c.toNat:Int)] h=some (.i (idxB c s 0),h):=by
  rw [jfw hcl om (p:=jaD) rfl]
  show some (V.i (idxB ((c.toNat:Int).toNat.toUInt8) s 0),h)=_
  rw [show ((c.toNat:Int).toNat.toUInt8)=c by simp]
 have e1:cl (d-1) (.fn 102) [.str s,.int .u8 (c.toNat:Int)] h=some (.i (idxB c s 0),h):=by
  refine jau (aT hcl ?_)
  refine qx ?_
  exact ⟨rfl,rfl⟩
 refine jau (aT hcl ?_)
 clear e0
 refine qx ?_
 exact ⟨rfl,rfl⟩
theorem ps_lines (hd:17<=d)
  (hLO:LO=(fun st pd=>.loop st pd [10] [(2,.p R2 0),(3,.p R3 0),(4,.p R4 0)] (.region 0 [.mk4 0 (some 5) (.mv (.t 10)) none] [2,3,4,5]) (.block 1 (.seq (.region 0 [.mk4 0 (some 11) (.load1 (.t 3)) none,.mk4 1 (some 12) (.bin .add (.t 11) (.c (.i 1))) none,.mk4 2 none (.store 1 (.t 3) (.t 12)) none] [2,3,4,5]) c11_2)))) (x:PX h0 h1 cb R2 R3 R4 Lp) (a:PI h1 cb R2 R3 R4 Lp (LO .ready none) s 0 [] g) (hs:TF s) :
  ∃ v g',cl d (.fn 71) [.yld Lp,.p cb 0] g=some (v,g')/\((∃ n XL,parR 0 (jai 10 s)=(0,XL.map SpX.sp)/\PI h1 cb R2 R3 R4 Lp (LO .ready none) [] n XL g')\/(∃ k,parR 0 (jai 10 s)=(k+1,[])/\PJ h1 cb R2 R3 R4 Lp (LO .done (some .ret)) (k+1) g')):=by
 refine aT hcl ?_
 generalize hR:parR 0 (jai 10 s)=R
 obtain ⟨C2,hC2⟩ : ∃ C,C=c71_2:=⟨_,rfl⟩
 simp only [c71,c71_3,<- hC2,yB,yF]
 refine qx ?_
 refine zV (fun j e g=>∃ (s1:List UInt8) (n:Nat) (XL:List SpX) (sbe:Env),j=(jai 10 s1).length/\(jai 10 s1).length+n<=20000/\TF s1/\XL.length=n/\e=(0,.yld Lp) :: (1,.p cb 0) :: sbe/\PI h1 cb R2 R3 R4 Lp (LO .ready none) s1 n XL g/\parU (XL.map SpX.sp) (parR n (jai 10 s1))=R)
  (k:=(jai 10 s).length) (by show _<100000;have:=hs.2.1;omega) ⟨s,0,[],[],rfl,by have:=hs.2.1;omega,hs,rfl,rfl,a,by rw [<- hR];exact parU_nil⟩ ?_
 clear a hR hs
 rintro _ _ g ⟨s1,n,XL,sbe,rfl,hsl,htf,hXL,rfl,a,hR⟩ f ih
 have gc:=a.cb_
 have eI:=st_ib hcl (d:=d-1) (h:=g) (s:=s1) (c:=10) om
 have eI:cl (d-1) (.fn 72) [.str s1,.int .u8 10] g=some (.i (idxB 10 s1 0),g):=eI
 by_cases h0:s1=[]
 ·subst h0
  rw [jcY] at hR
  have hR':(0,XL.map SpX.sp)=R:=by rw [<- hR];simp [parU]
  subst hR'
  have h1 : ¬ (0:Int)<((([]:List UInt8).length:Nat):Int):=by simp
  clear ih eI
  refine qx ?_
  exact .inl ⟨n,XL,rfl,a⟩
 have hp:(0:Int)<((s1.length:Nat):Int):=by have:=List.length_pos_iff.2 h0;omega
 by_cases hz:cntB 10 s1=0
 ·have hnot:=jdf hz
  rw [jg1 h0 hnot] at hR
  have hR':(n+1,[])=R:=hR
  subst hR'
  have hm1:idxB 10 s1 0 = -1:=by rw [jea,zt hnot]
  rw [hm1] at eI
  obtain ⟨g',⟨hf,_⟩ | ⟨_,e5,j⟩⟩:=jii hcl (d:=d-1) (one:=s1) (t:=s1) (full:=false) rfl (fun _=>hnot) (htf.2.2 s1 (by rw [jbO hnot];simp)) om hLO x (a.cut x (s2:=[])) om om
  ·cases hf
  clear ih a
  subst hC2
  refine Ga ?_
  refine Ops.yield rfl rfl e5 ?_
  refine qx ?_
  exact .inr ⟨n,rfl,j⟩
 obtain ⟨w,r,rfl,hw,hi,hc⟩:=jc4 (Nat.pos_of_ne_zero hz)
 rw [hi] at eI
 rw [jex hw] at hR
 have hlw:(w++10 :: r).length=w.length+r.length+1:=by simp;omega
 have ht:(w++10 :: r).take (w.length+1)=w++[10]:=by
  rw [show w++10 :: r=(w++[10])++r by simp,List.take_left' Zd]
 have hdr:(w++10 :: r).drop (w.length+1)=r:=by
  rw [<- List.drop_drop,List.drop_left' rfl];rfl
 have hx1:((w.length:Nat):Int)+1=((w.length+1:Nat):Int):=by omega
 have hge:(0:Int)<=((w.length:Nat):Int):=by omega
 rw [jbo hw,List.length_cons] at hsl ih
 have hlf:=htf.2.2 w (by rw [jbo hw];simp)
 have htr:=htf.tail hw
 have hlw8:=htf.1
 rw [hlw] at hlw8
 obtain ⟨g',hor⟩:=jii hcl (d:=d-1) (one:=w++[10]) (t:=w) (full:=true) rfl (fun e=>by cases e) hlf om hLO x (a.cut x (s2:=r)) om om
 rcases hor with ⟨_,hle,y,hy,e5,i⟩ | ⟨hbad,e5,j⟩
 ·rw [hy] at hR
  simp only at hR
  rw [zt om,parU_U] at hR
  subst hC2
  clear a
  refine qx ?_
  rw [hx1]
  refine Ops.strTo rfl rfl (by rw [hlw];omega) ?_
  refine qx ?_
  rw [hx1]
  refine Ops.strFrom rfl rfl (by rw [hlw];omega) ?_
  rw [ht,hdr]
  refine Ga ?_
  refine Ops.yield rfl rfl e5 ?_
  refine qx ?_
  exact ih (jai 10 r).length om _ _ ⟨r,n+1,XL++[y],_,rfl,by omega,htr,by simp [hXL],rfl,i,by rw [List.map_append];exact hR⟩
 ·have hR':(n+1,[])=R:=by
   rw [<- hR]
   rcases hbad with h | h | h
   ·cases h
   ·rw [h];rfl
   ·cases hso:jbe w with
    | none=>rfl
    | some x=>simp only;rw [zw h];rfl
  subst hR'
  clear ih a
  subst hC2
  refine qx ?_
  rw [hx1]
  refine Ops.strTo rfl rfl (by rw [hlw];omega) ?_
  refine qx ?_
  rw [hx1]
  refine Ops.strFrom rfl rfl (by rw [hlw];omega) ?_
  rw [ht,hdr]
  refine Ga ?_
  refine Ops.yield rfl rfl e5 ?_
  refine qx ?_
  exact .inr ⟨n,rfl,j⟩
theorem jij (gv:Gv h) (hd:19<=d) (hs:TF s) :
  ∃ v h',cl d (.fn 11) [.str s] h=some (v,h')/\Old h h'/\((∃ XL sv,parR 0 (jai 10 s)=(0,XL.map SpX.sp)/\v = .tup [sv,.i 0,.i 0]/\jcn h' (h.nx <= ·) (h.nx <= ·) sv XL)\/(∃ k:Nat,parR 0 (jai 10 s)=(k+1,[])/\v = .tup [.nils,.i ((k+1:Nat):Int),.i 121])):=by
 have eL : ∀ G:H,cl (d-1) (.fn 36) [.str s] G=some (.clo 71 [.p G.nx 0],G.new (.cells [.str s] false)):=fun G=>by
  refine jau (aT hcl ?_)
  refine Run.seq (zac ?_)
  refine zcu (ob := .cells [.str s] false) (mk:=fun b=>.p b 0) rfl rfl ?_
  refine qx ?_
  exact ⟨rfl,rfl⟩
 have o1:Old h (((h.new (.cells [.nils] false)).new (.cells [.i 0] false)).new (.cells [.i 0] false)):=(zW h).new.new.new
 have g1:(((h.new (.cells [.nils] false)).new (.cells [.i 0] false)).new (.cells [.i 0] false)).get h.nx=some (.cells [.nils] false):=qgt
 have g2:(((h.new (.cells [.nils] false)).new (.cells [.i 0] false)).new (.cells [.i 0] false)).get (h.nx+1)=some (.cells [.i 0] false):=qgt
 have g3:(((h.new (.cells [.nils] false)).new (.cells [.i 0] false)).new (.cells [.i 0] false)).get (h.nx+2)=some (.cells [.i 0] false):=qgt
 have hn:(((h.new (.cells [.nils] false)).new (.cells [.i 0] false)).new (.cells [.i 0] false)).nx=h.nx+3:=rfl
 refine aT hcl ?_
 obtain ⟨C4,hC4⟩ : ∃ C,C=c11_4:=⟨_,rfl⟩
 simp only [c11,<- hC4,yB]
 refine Run.seq (zac ?_)
 refine zcu (ob := .cells [.nils] false) (mk:=fun b=>.p b 0) rfl rfl ?_
 refine zcu (ob := .cells [.i 0] false) (mk:=fun b=>.p b 0) rfl rfl ?_
 refine zcu (ob := .cells [.i 0] false) (mk:=fun b=>.p b 0) rfl rfl ?_
 rw [show ((h.new (.cells [.nils] false)).new (.cells [.i 0] false)).nx=h.nx+2 from rfl,show (h.new (.cells [.nils] false)).nx=h.nx+1 from rfl]
 generalize ((h.new (.cells [.nils] false)).new (.cells [.i 0] false)).new (.cells [.i 0] false)=G at o1 g1 g2 g3 hn ⊢
 refine qx ?_
 subst hC4
 have eG:=eL G
 have o2:Old G (G.new (.cells [.str s] false)):=(zW G).new
 have gc:=jac (h:=G) (.cells [.str s] false)
 have hn2:(G.new (.cells [.str s] false)).nx=G.nx+1:=rfl
 clear eL
 refine Gb ?_
 generalize G.new (.cells [.str s] false)=G2 at o2 gc hn2 ⊢
 refine Run.block ?_
 refine Run.rangeFunc_lo rfl qkp fun LO hLO=>?_
 have o3:Old G2 (G2.new (LO .ready none)):=(zW G2).new
 have px:PX h (G2.new (LO .ready none)) G.nx h.nx (h.nx+1) (h.nx+2) G2.nx:=⟨gv,(o1.trans o2).trans o3,by omega,by simp;omega,by omega,by simp;omega,by omega,by simp;omega,by omega,by simp;omega,by omega,by simp,by omega⟩
 have o23:=o2.trans o3
 have pi:PI (G2.new (LO .ready none)) G.nx h.nx (h.nx+1) (h.nx+2) G2.nx (LO .ready none) s 0 [] (G2.new (LO .ready none)) :=
  ⟨Ch.refl _ _,by rw [o3.2 _ om,gc],⟨.nils,by rw [o23.2 _ om,g1],Row.nil _ _ _⟩,by rw [o23.2 _ om,g2];rfl,by rw [o23.2 _ om,g3],jac _,fun y hy=>by cases hy⟩
 obtain ⟨v,g',ec,hor⟩:=ps_lines hcl (d:=d-1) om hLO px pi hs
 refine ⟨v,g',ec,?_⟩
 rcases hor with ⟨n,XL,hM,i⟩ | ⟨k,hM,ch,j1,j2,j3,jL⟩
 ·refine ⟨.normal,i.L_,?_⟩
  have hch:=i.ch.nx
  simp only [H.nx_new] at hch
  have ok:Old h (g'.kill G2.nx):=⟨(px.old0 i.ch).1,fun j hj=>by rw [jal om,(px.old0 i.ch).2 j hj]⟩
  obtain ⟨sv,i2,row⟩:=i.R2_
  have k2:(g'.kill G2.nx).get h.nx=some (.cells [sv] false):=by rw [jal om,i2]
  have k3:(g'.kill G2.nx).get (h.nx+1)=some (.cells [.i (n:Int)] false):=by rw [jal om,i.R3_]
  have k4:(g'.kill G2.nx).get (h.nx+2)=some (.cells [.i 0] false):=by rw [jal om,i.R4_]
  have hsv1:sv.one=true:=by rcases row with ⟨_,_,rfl⟩ | ⟨_,_,_,rfl,_⟩<;>rfl
  have hN : ∀ z,(G2.new (LO .ready none)).nx<=z->h.nx+3<=z/\z≠G2.nx:=fun z hz=>by simp only [H.nx_new] at hz;omega
  have hkk : ∀ z,z<g'.nx->(G2.new (LO .ready none)).nx<=z->(((g'.kill G2.nx).set h.nx (.cells [sv] false)).set (h.nx+1) (.cells [.i 0] false)).get z=g'.get z/\h.nx<=z:=fun z _ hz=>by
   have:=hN z hz
   exact ⟨by rw [jaa om,jaa om,jal this.2],by omega⟩
  have hkk2 : ∀ z,z<g'.nx->(G2.new (LO .ready none)).nx<=z->((((g'.kill G2.nx).set h.nx (.cells [sv] false)).set (h.nx+1) (.cells [.i 0] false)).set (h.nx+2) (.cells [.i 0] false)).get z=g'.get z/\h.nx<=z:=fun z h1 hz=>by
   have:=hN z hz
   exact ⟨by rw [jaa om];exact (hkk z h1 hz).1,by omega⟩
  have hA:jcn ((((g'.kill G2.nx).set h.nx (.cells [sv] false)).set (h.nx+1) (.cells [.i 0] false)).set (h.nx+2) (.cells [.i 0] false)) (h.nx <= ·) (h.nx <= ·) sv XL:=by
   refine jcn.keep (h:=g') (P:=fun z=>(G2.new (LO .ready none)).nx<=z) (Q:=fun z=>(G2.new (LO .ready none)).nx<=z) ⟨At4.of_row (fun _=>rfl) row,i.st⟩ Zd hkk2 hkk2
  clear hkk hkk2 row
  refine qx ?_
  refine zcs rfl rfl hsv1 k2 Zd ?_
  rw [show ([sv]:List V).set 0 sv=[sv] from rfl]
  refine zcs (l:=[.i (n:Int)]) rfl rfl rfl (by rw [jaa om,k3]) Zd ?_
  rw [show ([.i (n:Int)]:List V).set 0 (.i 0)=[.i 0] from rfl]
  refine zcs (l:=[.i 0]) rfl rfl rfl (by rw [jaa om,jaa om,k4]) Zd ?_
  rw [show ([.i 0]:List V).set 0 (.i 0)=[.i 0] from rfl]
  refine qx ?_
  exact fin3 (u:=sv) (v := .i 0) (w := .i 0) rfl rfl rfl (by rw [jaa om,jaa om];exact jab _) (by rw [jaa om];exact jab _) (jab _) ⟨((ok.set (zn _)).set om).set om,.inl ⟨XL,sv,hM,rfl,hA⟩⟩
 ·refine ⟨.ret,jL,?_⟩
  have hch:=ch.nx
  simp only [H.nx_new] at hch
  have ok:Old h (g'.kill G2.nx):=⟨(px.old0 ch).1,fun j hj=>by rw [jal om,(px.old0 ch).2 j hj]⟩
  refine qx ?_
  exact fin3 rfl rfl rfl (by rw [jal om,j1]) (by rw [jal om,j2]) (by rw [jal om,j3]) ⟨ok,.inr ⟨k,hM,rfl⟩⟩
end
def jcj (l:List Sp):List UInt8:=(l.map fun x=>jaE x++[10]).flatten
section
variable {h:H} {P Q:Nat->Prop}
theorem jb2 {b:Nat} {cs:List V} {ro:Bool} (e:h.get b=some (.cells cs ro)):h.filt.get b=some (.cells cs ro):=by
 rw [H.get_filt,e];rfl
theorem VI.filt {v:V} {l:List Int} (a:VI h v l):VI h.filt v l:=by
 obtain ⟨ad,c,e,n,f,g⟩:=a
 refine ⟨ad,c,e,n,f,fun hl=>?_⟩
 obtain ⟨b,o,cs,ro,q1,q2,q3,q4⟩:=g hl
 exact ⟨b,o,cs,ro,q1,q2,jb2 q3,q4⟩
theorem VB.filt {v:V} {l:List UInt8} (a:VB h v l):VB h.filt v l:=by
 obtain ⟨ad,c,e,n,f,g⟩:=a
 refine ⟨ad,c,e,n,f,fun hl=>?_⟩
 obtain ⟨b,o,cs,ro,q1,q2,q3,q4⟩:=g hl
 exact ⟨b,o,cs,ro,q1,q2,jb2 q3,q4⟩
theorem At4.filt {α : Type} {f : α -> List V} {v:V} {l:List α} (a:At4 h P f v l):At4 h.filt P f v l:=by
 obtain ⟨ad,c,e,n,ft,g⟩:=a
 refine ⟨ad,c,e,n,ft,fun hl=>?_⟩
 obtain ⟨b,o,cs,ro,q1,q2,q3,q4,q5⟩:=g hl
 exact ⟨b,o,cs,ro,q1,q2,q3,jb2 q4,q5⟩
theorem StepAt.filt {x:SpX} (a:StepAt h P Q x):StepAt h.filt P Q x :=
 ⟨⟨a.ov.1.filt,a.ov.2⟩,a.mv.filt,fun m hm=>⟨(a.dv m hm).1.filt,(a.dv m hm).2⟩,a.t0,a.t1⟩
theorem jcn.filt {v:V} {l:List SpX} (a:jcn h P Q v l):jcn h.filt P Q v l:=⟨a.1.filt,fun x hx=>(a.2 x hx).filt⟩
theorem jfh {g:Nat} (a:jaO g h=true):jaO g h.filt=true:=by
 unfold jaO at a ⊢
 rw [H.get_filt]
 split at a
 ·next e=>rw [e];exact a
 ·cases a
theorem Gv.filt (a:Gv h):Gv h.filt:=by
 obtain ⟨l,ro,e1,e2⟩:=a.pw.2
 obtain ⟨ro',e3⟩:=a.wd
 exact ⟨⟨a.pw.1,l,ro,jb2 e1,e2⟩,a.lS,a.lR,a.lW,jfh a.eS,jfh a.eR,ro',jb2 e3⟩
theorem jgU {k:H} (o:Old h.filt k):jbB h.filt k h.nx=true :=
 jfK fun b ob hb e=>by
  refine ⟨?_,by rw [o.2 b hb,e]⟩
  rw [H.get_filt] at e
  exact (jaA.1 e).2
theorem SpX.ones {x:SpX} (A:StepAt h P Q x):(x.V).all V.one=true:=by
 obtain ⟨a,c,e,_⟩:=id A.ov.1
 obtain ⟨a',c',e',_⟩:=id A.mv
 simp only [SpX.V,e,e'];rfl
theorem jej : ∀ {l:List Sp},(∀ x∈l,SpFit x)->(jcj l).length<=l.length*200001
 | [],_=>zn _
 | x :: l,f=>by
  have h1:=je9 (f x Zd)
  have h2:=jej (l:=l) fun y hy=>f y (zj _ hy)
  unfold jcj at h2 ⊢
  simp only [List.map_cons,zL,ze,List.length_cons,List.length_nil]
  omega
theorem ji8 {l:List Sp} {i:Nat} {x:Sp} (hx:l[i]?=some x):jcj (l.take (i+1))=jcj (l.take i)++(jaE x++[10]):=by
 rw [List.take_add_one,hx]
 simp [jcj]
theorem jil {ad:Option (Nat × Nat)} {c:Cap} {l:List SpX} (gv:Gv h) (A:jcn h P Q (.slice ad l.length c) l) (f : ∀ x∈l,SpFit x.sp) : ∀ n,n<=l.length->jbv jaQ fuel 28 32 h.filt ad n=some (jcj ((l.map SpX.sp).take n))
 | 0,_=>rfl
 | n+1,hn=>by
  have ih:=jil gv A f n om
  obtain ⟨x,hx⟩:=jfi (l:=l) (i:=n) om
  have hm:=zb hx
  obtain ⟨ad',c',e,_,_,g⟩:=id A.1
  cases e
  obtain ⟨b,o,cs,ro,rfl,q1,_,q3,q4⟩:=g (by intro e;rw [e] at hx;simp at hx)
  have q5:=q4 n x hx
  have hl:=jhr q5 rfl
  obtain ⟨h1,e1,o1⟩:=jjm (cl:=ja0 jaQ fuel) (.inr fun _=>rfl) (d:=28) gv.filt om (A.2 x hm).filt (f x hm)
  have hk:jbB h.filt h1 h.filt.nx=true:=jgU o1
  rw [jbv,ih]
  have hx':(l.map SpX.sp)[n]?=some x.sp:=by rw [List.getElem?_map,hx];rfl
  simp only [jd3,jb9 (jb2 q3) hl,q5,SpX.ones (A.2 x hm),cond_true,e1,hk,ji8 hx']
theorem text_eq {v:V} {l:List SpX} (gv:Gv h) (A:jcn h P Q v l) (hl:l.length<=2000) (f:(∀ x∈l,x.sp.may) -> ∀ x∈l,SpFit x.sp) :
  jcA jaQ fuel 28 32 30 120 [v] h=some (if ∀ x∈l,x.sp.may then .tup [.str (jcj (l.map SpX.sp)),.i 0] else .tup [.str [],.i 120],h):=by
 obtain ⟨h1,e1,o1⟩:=wm_all (cl:=ja0 jaQ fuel) (.inr fun _=>rfl) (d:=28) om A.filt hl
 have hk:jbB h.filt h1 h.nx=true:=jgU o1
 obtain ⟨ad,c,rfl,_⟩:=id A.1
 by_cases hm : ∀ x∈l,x.sp.may
 ·have hp:=jil gv A (f hm) l.length (zn _)
  rw [show (l.map SpX.sp).take l.length=l.map SpX.sp from zf Zd] at hp
  have hle:=jej (l:=l.map SpX.sp) fun x hx=>by
   obtain ⟨y,hy,rfl⟩:=List.mem_map.1 hx
   exact f hm y hy
  rw [List.length_map] at hle
  have hb:Nat.ble (jcj (l.map SpX.sp)).length 140737488355328=true:=Nat.ble_eq_true_of_le om
  rw [zA hm] at e1
  rw [zw hm]
  simp only [jcA,e1,hk,cond_true,hp,hb]
 ·rw [zx hm] at e1
  rw [zt hm]
  simp only [jcA,e1,hk,cond_true,cond_false]
theorem jjo {cl:Nat->Call} (hclP : ∀ d,cl d=ja0 prog fuel d) {d:Nat} {v:V} {l:List SpX} (hd:1<=d) (gv:Gv h) (A:jcn h P Q v l) (hl:l.length<=2000) (f:(∀ x∈l,x.sp.may) -> ∀ x∈l,SpFit x.sp) :
  cl d (.fn F.jfe) [v] h=some (if ∀ x∈l,x.sp.may then .tup [.str (jcj (l.map SpX.sp)),.i 0] else .tup [.str [],.i 120],h):=by
 have hp:cl d (.fn F.jfe) [v] h=jcA jaQ fuel 28 32 30 120 [v] h:=by
  rw [hclP d]
  cases d with
  | zero=>omega
  | succ d=>rfl
 rw [hp,text_eq gv A hl f]
end
theorem jir {x:Sp} (f:SpFit x):(10:UInt8) ∉ jaE x:=by
 rw [jdv f]
 exact jis (by decide) (jhS (by decide) f)
theorem jdg (x:Sp) (l:List Sp):jcj (x :: l)=jaE x++10 :: jcj l:=by simp [jcj]
theorem jg0 : ∀ {l:List Sp} {n:Nat},(∀ x∈l,SpFit x)->n+l.length<=2000->parR n (jai 10 (jcj l))=(0,l)
 | [],n,_,_=>jcY n
 | x :: l,n,f,hn=>by
  have fx:=f x Zd
  rw [List.length_cons] at hn
  rw [jdg,jex (jir fx),jen fx]
  simp only
  rw [zt om,jg0 (fun y hy=>f y (zj _ hy)) om]
  rfl
theorem mvW_word {m:Mv} (f:MvFit m) : ∀ w∈mvW m,w.length<=20000:=by
 have h1:=jc0 (u:=m.wire.toNat) (m:=19) (by have:=f.w1;omega) (by have:=f.w1;omega)
 have h2:=jc0 (u:=m.n.toNat) (m:=19) (by have:=f.n1;omega) (by have:=f.n1;omega)
 have h3:=jfN m.D
 have h4:=jeg m.op
 have h5:=f.may.2.2.2.2.1
 intro w hw
 unfold mvW at hw
 rcases zO.1 hw with rfl | hw
 ·omega
 ·(repeat' split at hw)<;>simp only [zO,List.not_mem_nil,or_false] at hw<;>(first | (rcases hw with rfl | rfl<;>omega) | (subst hw;omega))
theorem join_len {c:UInt8} {k:Nat} : ∀ {ws:List (List UInt8)},(∀ w∈ws,w.length<=k)->(jaN c ws).length<=ws.length*(k+1)
 | [],_=>zN _
 | w :: ws,h=>by
  have h0:=h w Zd
  have : ∀ {ws:List (List UInt8)},(∀ w∈ws,w.length<=k)->(jb3 c ws).length<=ws.length*(k+1):=by
   intro ws
   induction ws with
   | nil=>intro _;exact zN _
   | cons u ws ih=>
    intro h
    have h1:=ih fun w hw=>h w (zj _ hw)
    have h2:=h u Zd
    rw [jdh,List.length_cons,ze,List.length_cons,Nat.succ_mul]
    omega
  have:=this (ws:=ws) fun w hw=>h w (zj _ hw)
  rw [jaN,ze,List.length_cons,Nat.succ_mul]
  omega
theorem ji3 {x:Sp} (f:SpFit x) : ∀ w∈jce x,w.length<=20000:=by
 intro w hw
 unfold jce at hw
 rcases zO.1 hw with rfl | hw
 ·decide
 rcases zO.1 hw with rfl | hw
 ·have:=jc0 (u:=x.ticks.toNat) (m:=19) (by have:=f.t1;omega) (by have:=f.t1;omega)
  omega
 rcases zF.1 hw with hw | hw
 ·split at hw
  ·obtain rfl:=List.mem_singleton.1 hw;decide
  ·cases hw
 rcases zF.1 hw with hw | hw
 ·unfold ordW at hw
  split at hw
  ·cases hw
  ·rcases zO.1 hw with rfl | hw
   ·decide
   ·obtain rfl:=List.mem_singleton.1 hw
    have h1:=join_len (c:=44) (k:=20) (ws:=x.order.map fun n=>dec n.toNat) fun w hw=>by
     obtain ⟨n,hn,rfl⟩:=List.mem_map.1 hw
     have:=f.may.2.2.1 n hn
     have:=jc0 (u:=n.toNat) (m:=19) om om
     omega
    rw [List.length_map] at h1
    have:=f.may.2.1
    omega
 ·obtain ⟨l,hl,hw⟩:=List.mem_flatten.1 hw
  obtain ⟨m,hm,rfl⟩:=List.mem_map.1 hl
  exact mvW_word (f.mv m hm) w hw
theorem ji4 {x:Sp} (f:SpFit x):(jce x).length<=20000:=by
 have h1:=jdY x.moves
 have h2:=f.may.1
 unfold jce ordW
 generalize (x.moves.map mvW).flatten=L at h1 ⊢
 simp only [List.length_cons,ze]
 split<;>split<;>simp only [List.length_cons,List.length_nil]<;>omega
theorem LF.line {x:Sp} (f:SpFit x):LF (jaE x):=by
 have h:=je9 f
 refine ⟨by omega,?_,?_⟩<;>rw [jeT f]
 ·exact ji4 f
 ·exact ji3 f
theorem TF.text : ∀ {l:List Sp},(∀ x∈l,SpFit x)->(jai 10 (jcj l)).length=l.length+1 /\ ∀ t∈jai 10 (jcj l),LF t
 | [],_=>⟨rfl,fun t ht=>by
  obtain rfl:t=[]:=by simpa [jcj,jai] using ht
  exact LF.of (zN _)⟩
 | x :: l,f=>by
  have fx:=f x Zd
  obtain ⟨h1,h2⟩:=TF.text (l:=l) fun y hy=>f y (zj _ hy)
  rw [jdg,jbo (jir fx)]
  refine ⟨by rw [List.length_cons,h1];rfl,fun t ht=>?_⟩
  rcases zO.1 ht with rfl | ht
  ·exact LF.line fx
  ·exact h2 t ht
theorem TF.of_text {l:List Sp} (f : ∀ x∈l,SpFit x) (hl:l.length<=150):TF (jcj l):=by
 obtain ⟨h1,h2⟩:=TF.text f
 have h3:=jej f
 exact ⟨by omega,by omega,h2⟩
theorem text_par : ∀ {k:Nat} {s:List UInt8} {n:Nat} {l:List Sp},s.length<=k->parR n (jai 10 s)=(0,l)->jcj l=s/\(∀ x∈l,SpFit x)/\(l=[]\/n+l.length<=2000):=by
 intro k
 induction k with
 | zero=>
  intro s n l hk h
  obtain rfl:=zl.1 (Nat.le_zero.1 hk)
  rw [jcY] at h
  cases h
  exact ⟨rfl,fun x hx=>(by cases hx),.inl rfl⟩
 | succ k ih=>
  intro s n l hk h
  by_cases h0:s=[]
  ·subst h0
   rw [jcY] at h
   cases h
   exact ⟨rfl,fun x hx=>(by cases hx),.inl rfl⟩
  by_cases hz:cntB 10 s=0
  ·rw [jg1 h0 (jdf hz)] at h
   cases h
  obtain ⟨w,r,rfl,hw,_,_⟩:=jc4 (Nat.pos_of_ne_zero hz)
  rw [jex hw] at h
  cases hs:jbe w with
  | none=>rw [hs] at h;cases h
  | some x=>
   rw [hs] at h
   simp only at h
   split at h
   ·cases h
   next hn=>
   obtain ⟨fx,ew⟩:=jht hs
   cases hp:parR (n+1) (jai 10 r) with
   | mk e xs=>
    rw [hp] at h
    cases e with
    | succ e=>cases h
    | zero=>
     have h:(0,[x]++xs)=(0,l):=h
     cases h
     obtain ⟨q1,q2,q3⟩:=ih (s:=r) (by simp at hk;omega) hp
     refine ⟨by rw [List.singleton_append,jdg,q1,ew],fun y hy=>?_,.inr ?_⟩
     ·rcases zO.1 hy with rfl | hy
      ·exact fx
      ·exact q2 y hy
     ·rcases q3 with rfl | q3
      ·simp;omega
      ·simp;omega
def hB (n:Nat):H:=((((⟨n,.lf⟩:H).set 0 (.cells jam true)).set 2 (.cells jak true)).set 3 (.cells jao true)).set 4 (.cells jar true)
theorem aliveB:ran (ja0 prog fuel 30 (.fn 14) [] (hB 124010)) (fun v h'=>jjW 124048 v h'&&jbB (hB 124010) h' 5)=true:=by kernel_rfl
theorem hB_get (n j:Nat):(hB n).get j=if j=4 then some (.cells jar true) else if j=3 then some (.cells jao true) else if j=2 then some (.cells jak true) else if j=0 then some (.cells jam true) else none:=by
 unfold hB
 rw [H.get_set,H.get_set,H.get_set,H.get_set]
 rfl
def gB (j:Nat):Prop:=j=0\/j=2\/j=3\/j=4
instance (j:Nat):Decidable (gB j):=by unfold gB;infer_instance
theorem aliveB_in {cl:Nat->Call} (hcl : ∀ d,cl d=ja0 prog fuel d) {h0:H} (hnx:h0.nx=124010) (hwf : ∀ b,124010<=b->h0.get b=none) (l2:h0.get 2=some (.cells jak true)) (l4:h0.get 4=some (.cells jar true)) (l3:h0.get 3=some (.cells jao true)) (l0:h0.get 0=some (.cells jam true)) :
  ∃ h1,cl 30 (.fn 14) [] h0=some (.bool true,h1)/\h0.nx<=h1.nx /\ ∀ j o,j<h0.nx->h0.get j=some o->h1.get j=some o:=by
 obtain ⟨v1,e1,ra,pa⟩:=ran_ex aliveB
 simp only [zm,jjW,Nat.beq_eq,zH] at pa
 obtain ⟨⟨p1,p2,p3⟩,pk⟩:=pa
 obtain rfl:=isTrue_eq p1
 have hg0 : ∀ j,(hB 124010).get j=if gB j then h0.get j else none:=fun j=>by
  rw [hB_get]
  by_cases g4:j=4
  ·subst g4;rw [l4,zw rfl,zw (by decide)]
  by_cases g3:j=3
  ·subst g3;rw [l3,zt (by decide),zw rfl,zw (by decide)]
  by_cases g2:j=2
  ·subst g2;rw [l2,zt (by decide),zt (by decide),zw rfl,zw (by decide)]
  by_cases g0:j=0
  ·subst g0;rw [l0];rfl
  rw [zt g4,zt g3,zt g2,zt g0,zt (by unfold gB;omega)]
 have hX:Ext (fun j=>if gB j then none else h0.get j) (hB 124010) h0:=by
  refine ⟨hnx,fun j=>?_,fun j hj=>?_⟩
  ·rw [hg0]
   by_cases h:gB j
   ·rw [zw h,zw h];cases h0.get j<;>rfl
   ·rw [zt h,zt h];rfl
  ·have h : ¬ gB j:=fun e=>hj (zw e)
   rw [zt h] at hj
   refine ⟨?_,by rw [hg0,zt h]⟩
   show j<124010
   rcases zr j 124010 with h | h
   ·exact h
   ·exact zC (hwf j h) hj
 obtain ⟨h1,qa,xa⟩:=same_in hcl ra hX
 refine ⟨h1,qa,by rw [xa.nx,p2,hnx];omega,fun j o _ hj=>?_⟩
 by_cases h:gB j
 ·have hg:(hB 124010).get j=some o:=by rw [hg0,zw h,hj]
  rw [xa.get,jdZ pk j o (by unfold gB at h;omega) hg]
  rfl
 ·refine ext_kept xa ?_
  show (if gB j then none else h0.get j)=some o
  rw [zt h,hj]
theorem jid {h:H} : ∀ {l:List Int} {cs:List V},ja6 (jct .i64) h l cs->cs=ints l
 | [],_,e=>e
 | x :: l,_,⟨u,w,e,h1,h2⟩=>by
  obtain ⟨rfl,_⟩:=h1
  rw [e,jid h2];rfl
theorem ints_of {h:H} {l:List Int} {u:V} (r:jbx 60 (jct .i64) h l [u]):(∃ ad c,u = .slice ad l.length c)/\(l.length<=60->VI h u l/\(l≠[] -> ∀ z,u.at?=some z->z<h.nx)):=by
 obtain ⟨a,c,e,h1,h2,h3⟩:=r
 cases e
 refine ⟨⟨a,_,rfl⟩,fun hB=>⟨⟨a,.fix c,rfl,fun e=>?_,h2,fun hn=>?_⟩,fun hn z hz=>?_⟩⟩
 ·obtain ⟨rfl,rfl⟩:=h3 e;exact ⟨rfl,rfl⟩
 ·obtain ⟨b,cs,q1,q2,q3,q4⟩:=h1 hB hn
  exact ⟨b,0,cs,true,q1,q2,q3,fun i x hi=>by rw [jid q4,zG];simp [hi]⟩
 ·obtain ⟨b,cs,rfl,q2,q3,q4⟩:=h1 hB hn
  cases hz;exact q2
theorem mvs4_of {h:H} {l:List (Int × Int × Int × List Int × Unit)} {u:V} (r:jbx 60 jk3 h l [u]) : ∃ L:List MvX,L.length=l.length/\jkb 60 h u L/\(L.length<=60->At4 h (· < h.nx) MvX.V u L /\ ∀ x∈L,x.fit):=by
 obtain ⟨ad,c,e,h1,h2,h3⟩:=r
 cases e
 by_cases hl:l.length<=60
 ·by_cases hn:l=[]
  ·subst hn
   exact ⟨[],rfl,⟨⟨ad,.fix c,rfl⟩,fun _=>⟨fun x hx=>(by cases hx),ad,.fix c,rfl,fun e=>zC rfl e⟩⟩,fun _=>⟨⟨ad,.fix c,rfl,fun e=>⟨by rw [(h3 e).1],rfl⟩,zN _,fun e=>zC rfl e⟩,fun x hx=>(by cases hx)⟩⟩
  ·obtain ⟨b,cs,rfl,q1,q2,q3⟩:=h1 hl hn
   obtain ⟨L,l1,rfl,l3⟩:=jj9 q3
   exact ⟨L,l1,⟨⟨_,.fix c,by rw [l1]⟩,fun _=>⟨fun x hx=>(l3 x hx).1,_,.fix c,by rw [l1],fun _=>⟨b,_,true,rfl,q1,q2,jeB (fun _=>rfl) L,fun i x hx=>jbS (fun _=>rfl) hx⟩⟩⟩,fun _=>⟨⟨_,.fix c,by rw [l1],fun e=>(by cases e),by show L.length<=c;omega,fun _=>⟨b,0,_,true,rfl,q1,q1,q2,fun i x hx=>by rw [zG];exact jbS (fun _=>rfl) hx⟩⟩,fun x hx=>(l3 x hx).2⟩⟩
 ·exact ⟨List.replicate l.length ⟨⟨0,0,0,[]⟩,.nils⟩,by simp,⟨⟨ad,.fix c,by simp⟩,fun hl'=>zC (by simpa using hl') hl⟩,fun hl'=>zC (by simpa using hl') hl⟩
abbrev jk0:H->Int × Bool × List Int × List (Int × Int × Int × List Int × Unit) × Unit->List V->Prop:=jbZ (jct .u64) (jbZ jj2 (jbZ (jbx 60 (jct .i64)) (jbZ (jbx 60 jk3) jj1)))
def SpIn (h:H) (x:SpX):Prop:=SpOk h x/\(x.ml.length<=60->x.ol.length<=60->(∀ m∈x.ml,m.m.D.length<=1100)->StepAt h (· < h.nx) (· < h.nx) x)
theorem jjr {h:H} : ∀ {l:List (Int × Bool × List Int × List (Int × Int × Int × List Int × Unit) × Unit)} {cs:List V},ja6 jk0 h l cs -> ∃ L:List SpX,L.length=l.length/\cs=(L.map SpX.V).flatten/\(∀ x∈L,SpIn h x) /\ ∀ x∈L,x.ml.length<=60 -> ∀ m∈x.ml,m.fit
 | [],_,e=>⟨[],rfl,e,fun x hx=>(by cases hx),fun x hx=>(by cases hx)⟩
 | y :: l,_,⟨u,w,e,h1,h2⟩=>by
  obtain ⟨L,l1,l2,l3,l4⟩:=jjr h2
  obtain ⟨_,_,rfl,⟨rfl,t0,t1⟩,_,_,rfl,hb,u3,w3,rfl,r3,u4,w4,rfl,r4,hw⟩:=h1
  obtain rfl:_=_:=hb
  obtain rfl:w4=[]:=hw
  have ⟨a3,c3,e3,_⟩:=r3
  have ⟨a4,c4,e4,_⟩:=r4
  subst e3 e4
  obtain ⟨i1,i2⟩:=ints_of r3
  obtain ⟨M,m1,m2,m3⟩:=mvs4_of r4
  refine ⟨⟨y.1,y.2.1,y.2.2.1,.slice a3 y.2.2.1.length (.fix c3),M,.slice a4 y.2.2.2.1.length (.fix c4)⟩ :: L,by simp [l1],by rw [e,l2];rfl,fun x hx=>?_,fun x hx hm=>?_⟩<;>rcases zO.1 hx with rfl | hx
  ·refine ⟨⟨⟨i1,fun hl=>(i2 hl).1⟩,m2,t0,t1⟩,fun hm ho hd=>⟨⟨(i2 ho).1,(i2 ho).2⟩,(m3 hm).1,fun m hmm=>?_,t0,t1⟩⟩
   obtain ⟨a,c,e,g⟩:=(m2.2 hm).1 m hmm
   have hB:=g (hd m hmm)
   have hv:VB h m.dv m.m.D:=⟨a,c,e,hB⟩
   exact ⟨hv,fun hn z hz=>hv.lt hn hz⟩
  ·exact l3 x hx
  ·exact (m3 hm).2
  ·exact l4 x hx hm
def SpsN (h:H) (v:V) (l:List SpX):Prop := ∃ ad c,v = .slice ad l.length c/\(l.length<=2000->(∀ x∈l,SpIn h x)/\At4 h (· < h.nx) SpX.V v l)
theorem spsN_of {h:H} {l:List (Int × Bool × List Int × List (Int × Int × Int × List Int × Unit) × Unit)} {u:V} (r:jbx 2000 jk0 h l [u]) : ∃ L:List SpX,SpsN h u L/\jjX h u L/\(L.length<=2000 -> ∀ x∈L,x.ml.length<=60 -> ∀ m∈x.ml,m.fit):=by
 obtain ⟨ad,c,e,h1,h2,h3⟩:=r
 cases e
 by_cases hl:l.length<=2000
 ·by_cases hn:l=[]
  ·subst hn
   exact ⟨[],⟨ad,.fix c,rfl,fun _=>⟨fun x hx=>(by cases hx),ad,.fix c,rfl,fun e=>⟨by rw [(h3 e).1],rfl⟩,zN _,fun e=>zC rfl e⟩⟩,⟨ad,.fix c,rfl,fun _=>⟨fun x hx=>(by cases hx),fun e=>zC rfl e⟩⟩,fun _ x hx=>(by cases hx)⟩
  ·obtain ⟨b,cs,rfl,q1,q2,q3⟩:=h1 hl hn
   obtain ⟨L,l1,rfl,l3,l4⟩:=jjr q3
   exact ⟨L,⟨_,.fix c,by rw [l1],fun _=>⟨l3,_,.fix c,by rw [l1],fun e=>(by cases e),by show L.length<=c;omega,fun _=>⟨b,0,_,true,rfl,q1,q1,q2,fun i x hx=>by rw [zG];exact jbS (fun _=>rfl) hx⟩⟩⟩,
    ⟨_,.fix c,by rw [l1],fun _=>⟨fun x hx=>(l3 x hx).1,fun _=>⟨b,_,true,rfl,q1,q2,jeB (fun _=>rfl) L,fun i x hx=>jbS (fun _=>rfl) hx⟩⟩⟩,fun _=>l4⟩
 ·exact ⟨List.replicate l.length ⟨0,false,[],.nils,[],.nils⟩,⟨ad,.fix c,by simp,fun hl'=>zC (by simpa using hl') hl⟩,⟨ad,.fix c,by simp,fun hl'=>zC (by simp at hl';omega) hl⟩,fun hl'=>zC (by simpa using hl') hl⟩
section
variable {h h':H}
theorem VI.keepK {v:V} {l:List Int} (a:VI h v l) (hx:h.nx<=h'.nx) (hk : ∀ j o,j<h.nx->h.get j=some o->h'.get j=some o):VI h' v l:=by
 obtain ⟨ad,c,e,n,f,g⟩:=a
 refine ⟨ad,c,e,n,f,fun hl=>?_⟩
 obtain ⟨b,o,cs,ro,q1,q2,q3,q4⟩:=g hl
 exact ⟨b,o,cs,ro,q1,zo q2 hx,hk _ _ q2 q3,q4⟩
theorem At4.keepK {α : Type} {f : α -> List V} {v:V} {l:List α} (a:At4 h (· < h.nx) f v l) (hx:h.nx<=h'.nx) (hk : ∀ j o,j<h.nx->h.get j=some o->h'.get j=some o):At4 h' (· < h'.nx) f v l:=by
 obtain ⟨ad,c,e,n,ft,g⟩:=a
 refine ⟨ad,c,e,n,ft,fun hl=>?_⟩
 obtain ⟨b,o,cs,ro,q1,q2,q3,q4,q5⟩:=g hl
 exact ⟨b,o,cs,ro,q1,zo q2 hx,zo q2 hx,hk _ _ q2 q4,q5⟩
theorem MvOk.keepK {x:MvX} (a:MvOk h x) (hx:h.nx<=h'.nx) (hk : ∀ j o,j<h.nx->h.get j=some o->h'.get j=some o):MvOk h' x:=by
 obtain ⟨z,c,e,g⟩:=a
 exact ⟨z,c,e,fun hl=>(g hl).keep hx hk⟩
theorem jkb.keepK {B:Nat} {v:V} {l:List MvX} (a:jkb B h v l) (hx:h.nx<=h'.nx) (hk : ∀ j o,j<h.nx->h.get j=some o->h'.get j=some o):jkb B h' v l:=by
 refine ⟨a.1,fun hl=>⟨fun x hm=>((a.2 hl).1 x hm).keepK hx hk,?_⟩⟩
 obtain ⟨ad,c,e,g⟩:=(a.2 hl).2
 refine ⟨ad,c,e,fun hn=>?_⟩
 obtain ⟨b,cs,ro,q1,q2,q3,q4⟩:=g hn
 exact ⟨b,cs,ro,q1,zo q2 hx,hk _ _ q2 q3,q4⟩
theorem SpOk.keepK {x:SpX} (a:SpOk h x) (hx:h.nx<=h'.nx) (hk : ∀ j o,j<h.nx->h.get j=some o->h'.get j=some o):SpOk h' x :=
 ⟨⟨a.ov.1,fun hl=>(a.ov.2 hl).keepK hx hk⟩,a.mv.keepK hx hk,a.t0,a.t1⟩
theorem SpIn.keepK {x:SpX} (a:SpIn h x) (hx:h.nx<=h'.nx) (hk : ∀ j o,j<h.nx->h.get j=some o->h'.get j=some o):SpIn h' x:=by
 refine ⟨a.1.keepK hx hk,fun h1 h2 h3=>?_⟩
 have s:=a.2 h1 h2 h3
 exact ⟨⟨s.ov.1.keepK hx hk,fun hn z hz=>zo (s.ov.2 hn z hz) hx⟩,s.mv.keepK hx hk,fun m hm=>by
  obtain ⟨ad,c,e,g⟩:=(s.dv m hm).1
  exact ⟨⟨ad,c,e,g.keep hx hk⟩,fun hn z hz=>zo ((s.dv m hm).2 hn z hz) hx⟩,s.t0,s.t1⟩
theorem SpsN.keepK {v:V} {l:List SpX} (a:SpsN h v l) (hx:h.nx<=h'.nx) (hk : ∀ j o,j<h.nx->h.get j=some o->h'.get j=some o):SpsN h' v l:=by
 obtain ⟨ad,c,e,g⟩:=a
 exact ⟨ad,c,e,fun hl=>⟨fun x hm=>((g hl).1 x hm).keepK hx hk,(g hl).2.keepK hx hk⟩⟩
theorem jjX.keepK {v:V} {l:List SpX} (a:jjX h v l) (hx:h.nx<=h'.nx) (hk : ∀ j o,j<h.nx->h.get j=some o->h'.get j=some o):jjX h' v l:=by
 obtain ⟨ad,c,e,g⟩:=a
 refine ⟨ad,c,e,fun hl=>⟨fun x hm=>((g hl).1 x hm).keepK hx hk,fun hn=>?_⟩⟩
 obtain ⟨b,cs,ro,q1,q2,q3,q4⟩:=(g hl).2 hn
 exact ⟨b,cs,ro,q1,zo q2 hx,hk _ _ q2 q3,q4⟩
end
theorem SpsN.at {h:H} {v:V} {l:List SpX} (a:SpsN h v l) (hl:l.length<=2000) (hm : ∀ x∈l,x.sp.may):jcn h (· < h.nx) (· < h.nx) v l:=by
 obtain ⟨ad,c,e,g⟩:=a
 refine ⟨(g hl).2,fun x hx=>((g hl).1 x hx).2 ?_ ?_ fun m hmm=>?_⟩
 ·have:=(hm x hx).1;simp [SpX.sp] at this;omega
 ·have:=(hm x hx).2.1;simp [SpX.sp] at this;omega
 ·have:=(hm x hx).2.2.2 m.m (List.mem_map.2 ⟨m,hmm,rfl⟩)
  have:=this.2.2.2.2.1
  omega
theorem SpsN.atF {h:H} {v:V} {l:List SpX} (a:SpsN h v l) (hf:fewS l):jcn h (· < h.nx) (· < h.nx) v l:=by
 obtain ⟨ad,c,e,g⟩:=a
 have hl:=hf.len
 exact ⟨(g om).2,fun x hx=>((g om).1 x hx).2 (hf.each x hx).1 (hf.each x hx).2.1 (hf.each x hx).2.2⟩
section
variable {cl:Nat->Call} (hcl:Sem cl)
include hcl
end
def LnP (h0:H) (b:Nat) (j:Int) (s:List UInt8):Post:=fun x e h'=>x = .normal/\(∃ sb,e=(1,.p b 0) :: (3,.str s) :: (5,.i j) :: sb)/\Old h0 h'
theorem LnP.mono {h0 h1:H} {b:Nat} {j:Int} {s:List UInt8} (o:Old h0 h1) {x:Ex} {e:Env} {h':H} (q:LnP h1 b j s x e h'):LnP h0 b j s x e h':=⟨q.1,q.2.1,o.trans q.2.2⟩
theorem Run.post {call:Call} {fuel:Nat} {c:AC} {K:List Fr} {e:Env} {h:H} {Q Q':Post} (k:Run call fuel c K e h Q) (hQ : ∀ x e h,Q x e h->Q' x e h):Run call fuel c K e h Q':=by
 obtain ⟨x',e',h',hd',x2,e2,h2,ha,q⟩:=k
 exact ⟨x',e',h',hd',x2,e2,h2,ha,hQ _ _ _ q⟩
section
variable {cl:Nat->Call} (hcl:Sem cl) {d b mb:Nat} {j:Int} {s:List UInt8} {m:Mv} {dv:V} {h:H} {sb:Env}
include hcl
theorem ln_b (hg:h.get mb=some (.cells (mvV m dv) false)) (lmb:mb<h.nx) (hb:VB h dv m.D) (hl:m.D.length<=1100) (hs:s.length<=300000) :
  Run (cl d) fuel c35_5 [] ((1,.p b 0) :: (3,.str s) :: (5,.i j) :: (6,.p mb 0) :: sb) h (LnP h b j (s++(if m.op=1 then [32] else [])++hexS m.D)):=by
 have q0:(mvV m dv)[0+0]?=some (.i m.op):=rfl
 by_cases h1:m.op=1
 ·rw [zw h1]
  have T:=jkt hcl (d:=d) (b:=b) (j:=j) (s:=s++[32]) hg lmb hb hl Zc
  obtain ⟨C,hC⟩ : ∃ C,C=c35_3:=⟨_,rfl⟩
  simp only [c35_5,<- hC,yH]
  rw [<- hC] at T
  clear hb
  refine qx ?_
  refine Ops.sadd rfl rfl Zc ?_
  refine qx ?_
  exact T
 ·rw [zt h1,List.append_nil]
  have T:=jkt hcl (d:=d) (b:=b) (j:=j) (s:=s) hg lmb hb hl om
  obtain ⟨C,hC⟩ : ∃ C,C=c35_3:=⟨_,rfl⟩
  simp only [c35_5,<- hC,yH]
  rw [<- hC] at T
  clear hb
  refine qx ?_
  exact T
theorem ln_n (hd:1<=d) (hg:h.get mb=some (.cells (mvV m dv) false)) (lmb:mb<h.nx) (hb:VB h dv m.D) (hl:m.D.length<=1100) (hs:s.length<=299900) :
  Run (cl d) fuel c35_7 [] ((1,.p b 0) :: (3,.str s) :: (5,.i j) :: (6,.p mb 0) :: sb) h (LnP h b j (s++(if m.op=2\/m.op=6\/m.op=7 then [32]++numU m.n else [])++(if m.op=1 then [32] else [])++hexS m.D)):=by
 have q0:(mvV m dv)[0+0]?=some (.i m.op):=rfl
 have q2:(mvV m dv)[0+2]?=some (.i m.n):=rfl
 have e1:=rm_number hcl (d:=d) (op:=m.op) (h:=h) hd
 obtain ⟨C,hC⟩ : ∃ C,C=c35_5:=⟨_,rfl⟩
 by_cases h1:m.op=2\/m.op=6\/m.op=7
 ·rw [zw h1]
  rw [zA h1] at e1
  obtain ⟨u,eu,hu,en⟩:=jfl m.n
  obtain ⟨h2,e2,o2⟩:=jde hcl (d:=d) (u:=u) (h:=h) hd hu
  have hnl:=jc2 m.n
  rw [<- en] at e2
  have T:=fun sb=>ln_b hcl (d:=d) (b:=b) (j:=j) (s:=s++[32]++numU m.n) (sb:=sb) (m:=m) (dv:=dv) (h:=h2) (by rw [o2.2 mb lmb,hg]) (zo lmb o2.1) (hb.keep2 o2.1 fun hl z hz=>o2.2 z (hb.lt hl hz)) hl Zc
  simp only [c35_7,c35_4,<- hC,yC,yI]
  rw [<- hC] at T
  clear hb h1
  refine qx ?_
  refine Ops.sadd rfl rfl Zc ?_
  refine qx ?_
  rw [eu]
  refine qx ?_
  refine Ops.sadd rfl rfl Zc ?_
  refine qx ?_
  refine Run.post (T _) fun x e h' q=>LnP.mono o2 ?_
  simpa only [List.append_assoc] using q
 ·rw [zt h1]
  rw [zx h1] at e1
  have T:=fun sb=>ln_b hcl (d:=d) (b:=b) (j:=j) (s:=s) (sb:=sb) (m:=m) (dv:=dv) (h:=h) hg lmb hb hl om
  simp only [c35_7,<- hC,yC]
  rw [<- hC] at T
  clear hb h1
  refine qx ?_
  refine Run.post (T _) fun x e h' q=>?_
  simpa only [List.append_assoc,List.nil_append] using q
theorem ln_w (hd:1<=d) (hg:h.get mb=some (.cells (mvV m dv) false)) (lmb:mb<h.nx) (hb:VB h dv m.D) (hl:m.D.length<=1100) (hs:s.length<=299800) :
  Run (cl d) fuel c35_8 [] ((1,.p b 0) :: (3,.str s) :: (5,.i j) :: (6,.p mb 0) :: sb) h (LnP h b j (s++(if 1<=m.op/\m.op<=6 then [32]++numU m.wire else [])++(if m.op=2\/m.op=6\/m.op=7 then [32]++numU m.n else [])++(if m.op=1 then [32] else [])++hexS m.D)):=by
 have q0:(mvV m dv)[0+0]?=some (.i m.op):=rfl
 have q2:(mvV m dv)[0+1]?=some (.i m.wire):=rfl
 have e1:=rm_wire hcl (d:=d) (op:=m.op) (h:=h) hd
 obtain ⟨C,hC⟩ : ∃ C,C=c35_7:=⟨_,rfl⟩
 by_cases h1:1<=m.op/\m.op<=6
 ·rw [zw h1]
  rw [zA h1] at e1
  obtain ⟨u,eu,hu,en⟩:=jfl m.wire
  obtain ⟨h2,e2,o2⟩:=jde hcl (d:=d) (u:=u) (h:=h) hd hu
  have hnl:=jc2 m.wire
  rw [<- en] at e2
  have T:=fun sb=>ln_n hcl (d:=d) (b:=b) (j:=j) (s:=s++[32]++numU m.wire) (sb:=sb) (m:=m) (dv:=dv) (h:=h2) hd (by rw [o2.2 mb lmb,hg]) (zo lmb o2.1) (hb.keep2 o2.1 fun hl z hz=>o2.2 z (hb.lt hl hz)) hl Zc
  simp only [c35_8,c35_6,<- hC,yC,yI]
  rw [<- hC] at T
  clear hb h1
  refine qx ?_
  refine Ops.sadd rfl rfl Zc ?_
  refine qx ?_
  rw [eu]
  refine qx ?_
  refine Ops.sadd rfl rfl Zc ?_
  refine qx ?_
  refine Run.post (T _) fun x e h' q=>LnP.mono o2 ?_
  simpa only [List.append_assoc] using q
 ·rw [zt h1]
  rw [zx h1] at e1
  have T:=fun sb=>ln_n hcl (d:=d) (b:=b) (j:=j) (s:=s) (sb:=sb) (m:=m) (dv:=dv) (h:=h) hd hg lmb hb hl om
  simp only [c35_8,<- hC,yC]
  rw [<- hC] at T
  clear hb h1
  refine qx ?_
  refine Run.post (T _) fun x e h' q=>?_
  simpa only [List.append_assoc,List.nil_append] using q
theorem ln_m {P Q:Nat->Prop} {x:SpX} {k:Nat} {y:MvX} (hd:1<=d) (hg:h.get b=some (.cells x.V false)) (lb:b<h.nx) (A:StepAt h P Q x) (hy:x.ml[k]?=some y) (hl:y.m.D.length<=1100) (hs:s.length<=299700) :
  Run (cl d) fuel c35_10 [] ((1,.p b 0) :: (3,.str s) :: (5,.i (k:Int)) :: sb) h (LnP h b k (s++mvT y.m)):=by
 obtain ⟨ad,c,em,_,_,g⟩:=id A.mv
 obtain ⟨bb,oo,cs,rr,rfl,lbb,_,gb,hc⟩:=g (by intro e;rw [e] at hy;simp at hy)
 have h4:(cs.drop (oo+(k:Int).toNat*4)).take 4=y.V:=by rw [zq];exact hc k y hy
 have hlen:=jhr h4 rfl
 have q3:(x.V)[0+3]?=some (.slice (some (bb,oo)) x.ml.length c):=by rw [<- em];rfl
 have hkl:k<x.ml.length:=by
  rcases zr k x.ml.length with h | h
  ·exact h
  ·rw [zc h] at hy;cases hy
 obtain ⟨vy,zy⟩:=A.dv y (zb hy)
 obtain ⟨m,dv⟩:=y
 obtain ⟨da,dc,e,_⟩:=id vy
 have e:dv = .slice da m.D.length dc:=e
 subst e
 have o1:Old h ((h.new (.cells [.i 0,.i 0,.i 0,.nils] false)).set h.nx (.cells (mvV m (.slice da m.D.length dc)) false)):=(zW h).new.set (zn _)
 have g1:((h.new (.cells [.i 0,.i 0,.i 0,.nils] false)).set h.nx (.cells (mvV m (.slice da m.D.length dc)) false)).get h.nx=some (.cells (mvV m (.slice da m.D.length dc)) false):=jab _
 have n1:h.nx<((h.new (.cells [.i 0,.i 0,.i 0,.nils] false)).set h.nx (.cells (mvV m (.slice da m.D.length dc)) false)).nx:=by simp
 generalize hG:(h.new (.cells [.i 0,.i 0,.i 0,.nils] false)).set h.nx (.cells (mvV m (.slice da m.D.length dc)) false)=G at o1 g1 n1
 obtain ⟨h2,e2,o2⟩:=ln_word hcl (d:=d) (op:=m.op) (h:=G) hd
 have hwl:=jeg m.op
 have T:=fun sb=>ln_w hcl (d:=d) (b:=b) (j:=(k:Int)) (s:=s++[32]++ja5 m.op) (sb:=sb) (m:=m) (dv := .slice da m.D.length dc) (h:=h2) hd (by rw [o2.2 _ n1,g1]) (zo n1 o2.1) (vy.keep2 (o1.trans o2).1 fun hl z hz=>(o1.trans o2).2 z (vy.lt hl hz)) hl Zc
 have q0:(mvV m (.slice da m.D.length dc))[0+0]?=some (.i m.op):=rfl
 obtain ⟨C,hC⟩ : ∃ C,C=c35_8:=⟨_,rfl⟩
 simp only [c35_10,c35_9,<- hC,yB,yH]
 rw [<- hC] at T
 clear A g hc vy zy
 refine qx ?_
 refine zcw rfl gb hlen ?_
 rw [h4]
 refine zcu (ob := .cells [.i 0,.i 0,.i 0,.nils] false) (mk:=fun b=>.p b 0) rfl rfl ?_
 refine zct (n:=4) (o:=0) (vs:=mvV m (.slice da m.D.length dc)) rfl rfl rfl rfl (jac _) Zd ?_
 rw [show jay ([.i 0,.i 0,.i 0,.nils]:List V) 0 (mvV m (.slice da m.D.length dc))=mvV m (.slice da m.D.length dc) from rfl,hG]
 refine qx ?_
 refine Ops.sadd rfl rfl Zc ?_
 refine qx ?_
 refine Ops.sadd rfl rfl Zc ?_
 refine qx ?_
 refine Run.post (T _) fun x e h' q=>LnP.mono (o1.trans o2) ?_
 unfold mvT
 simpa only [List.append_assoc] using q
end
def Sp.few (x:Sp):Prop:=x.moves.length<=60/\x.order.length<=60 /\ ∀ m∈x.moves,m.D.length<=1100
section
variable {cl:Nat->Call} (hcl:Sem cl) {d:Nat} {h:H}
include hcl
theorem jjz {P Q:Nat->Prop} {x:SpX} (hd:2<=d) (A:StepAt h P Q x) (hf:x.sp.few) : ∃ h',cl d (.fn 35) [.agg x.V] h=some (.str (jaE x.sp),h')/\Old h h':=by
 have hml:x.ml.length<=60:=by have:=hf.1;simpa [SpX.sp] using this
 have hol:x.ol.length<=60:=hf.2.1
 have hdl : ∀ y∈x.ml,y.m.D.length<=1100:=fun y hy=>hf.2.2 y.m (List.mem_map_of_mem hy)
 have o0:Old h (h.new (.cells x.V false)):=(zW h).new
 have g0:(h.new (.cells x.V false)).get h.nx=some (.cells x.V false):=jac _
 have n0:h.nx<(h.new (.cells x.V false)).nx:=by simp
 generalize hG:h.new (.cells x.V false)=G at o0 g0 n0
 obtain ⟨u,eu⟩ : ∃ u:Nat,x.t=(u:Int):=⟨x.t.toNat,by have:=A.t0;omega⟩
 have hu:u<18446744073709551616:=by have:=A.t1;omega
 have q0:(x.V)[0+0]?=some (.int .u64 (u:Int)):=by rw [<- eu];rfl
 have q1:(x.V)[0+1]?=some (.bool x.intr):=rfl
 obtain ⟨ao,co,eo,_,_,go⟩:=id A.ov.1
 obtain ⟨am,cm,em,_⟩:=id A.mv
 have q2:(x.V)[0+2]?=some (.slice ao x.ol.length co):=by rw [<- eo];rfl
 have q3:(x.V)[0+3]?=some (.slice am x.ml.length cm):=by rw [<- em];rfl
 obtain ⟨h1,e1,o1⟩:=jde hcl (d:=d-1) (u:=u) (h:=G) om hu
 have hdu:=jc0 (u:=u) (m:=19) om hu
 have g1:h1.get h.nx=some (.cells x.V false):=by rw [o1.2 _ n0,g0]
 have n1:h.nx<h1.nx:=zo n0 o1.1
 have A1:=A.old (o0.trans o1)
 have hln:jaE x.sp=[115,116,101,112,32]++dec u++(if x.intr then [32,105,110,116,114] else [])++ordN x.ol x.ol.length++movN (x.ml.map MvX.m) x.ml.length:=by
  unfold jaE
  rw [show x.sp.ticks.toNat=u by show x.t.toNat=u;omega,show x.sp.moves.length=x.ml.length by simp [SpX.sp]]
  rfl
 obtain ⟨C10,hC10⟩ : ∃ C,C=c35_10:=⟨_,rfl⟩
 have T : ∀ (s:List UInt8) (sb:Env),s=[115,116,101,112,32]++dec u++(if x.intr then [32,105,110,116,114] else [])->Run (cl (d-1)) fuel c35_16 [] ((1,.p h.nx 0) :: (3,.str s) :: sb) h1 (Fin c35.res fun v h'=>v = .str (jaE x.sp)/\Old h h'):=by
  intro s sb hs
  have hsl:s.length<=30:=by
   rw [hs]
   cases x.intr<;>simp<;>omega
  rw [hln,<- hs]
  clear hs hln e1 q0 hG
  simp only [c35_16,c35_11,<- hC10,uF,yB]
  refine qx ?_
  refine zV (fun m e g=>∃ i:Nat,m=x.ol.length-i/\i<=x.ol.length/\e=[(1,.p h.nx 0),(3,.str (s++ordN x.ol i)),(4,.i (i:Int))]/\Old h1 g)
   (k:=x.ol.length) Ze ⟨0,rfl,by omega,by simp [ordN],zW _⟩ ?_
  rintro _ _ g ⟨i,rfl,hi,rfl,og⟩ n' ih
  have gx:g.get h.nx=some (.cells x.V false):=by rw [og.2 _ n1,g1]
  have hoL:=jf3 x.ol i
  by_cases hlt:(i:Int)<x.ol.length
  case pos=>
   obtain ⟨n,hn⟩:=jfi (l:=x.ol) (i:=i) om
   obtain ⟨b,oo,cs,rr,rfl,lb,gb,hc⟩:=go (by intro e;rw [e] at hn;simp at hn)
   have gb1:g.get b=some (.cells cs rr):=by rw [og.2 b (zo lb (o0.trans o1).1),(o0.trans o1).2 b lb,gb]
   have h4:cs[oo+(i:Int).toNat*1]?=some (.i n):=by rw [zq,Nat.mul_one];exact hc i n hn
   obtain ⟨un,eun,hun,enu⟩:=jfl n
   obtain ⟨g2,e2,o2⟩:=jde hcl (d:=d-1) (u:=un) (h:=g) om hun
   have hnl:=jc2 n
   rw [<- enu] at e2
   have hi1:(i:Int)+1=((i+1:Nat):Int):=by omega
   have hoS:ordN x.ol (i+1)=ordN x.ol i++(if i=0 then [32,111,114,100,101,114,32] else [44])++numU n:=by rw [ordN,hn];rfl
   clear go A A1 hc hdl
   by_cases hz:i=0
   ·have hz':(i:Int)=0:=by omega
    rw [zw hz] at hoS
    refine qx ?_
    refine Ops.sadd rfl rfl Zc ?_
    refine qx ?_
    rw [eun]
    refine qx ?_
    refine Ops.sadd rfl rfl Zc ?_
    refine qx ?_
    rw [hi1]
    exact ih (x.ol.length-(i+1)) om _ _ ⟨i+1,rfl,by omega,by rw [hoS];simp only [List.append_assoc],og.trans o2⟩
   ·have hz' : ¬ (i:Int)=0:=by omega
    rw [zt hz] at hoS
    refine qx ?_
    refine Ops.sadd rfl rfl Zc ?_
    refine qx ?_
    rw [eun]
    refine qx ?_
    refine Ops.sadd rfl rfl Zc ?_
    refine qx ?_
    rw [hi1]
    exact ih (x.ol.length-(i+1)) om _ _ ⟨i+1,rfl,by omega,by rw [hoS];simp only [List.append_assoc],og.trans o2⟩
  obtain rfl:i=x.ol.length:=by omega
  clear ih go
  refine qx ?_
  refine zV (fun m e g'=>∃ i:Nat,m=x.ml.length-i/\i<=x.ml.length/\e=[(1,.p h.nx 0),(3,.str (s++ordN x.ol x.ol.length++movN (x.ml.map MvX.m) i)),(5,.i (i:Int))]/\Old h1 g')
   (k:=x.ml.length) Ze ⟨0,rfl,by omega,by simp [movN],og⟩ ?_
  clear og gx
  rintro _ _ g' ⟨i,rfl,hi,rfl,og⟩ n2 ih
  have gx:g'.get h.nx=some (.cells x.V false):=by rw [og.2 _ n1,g1]
  have hmL:=jfE (l:=x.ml.map MvX.m) (fun m hm=>by obtain ⟨y,hy,rfl⟩:=List.mem_map.1 hm;exact hdl y hy) i
  by_cases hlt:(i:Int)<x.ml.length
  case neg=>
   obtain rfl:i=x.ml.length:=by omega
   have oF:=(o0.trans o1).trans og
   clear ih A A1 hdl
   refine qx ?_
   exact ⟨rfl,oF⟩
  obtain ⟨y,hy⟩:=jfi (l:=x.ml) (i:=i) om
  have T:=fun sb=>ln_m hcl (d:=d-1) (b:=h.nx) (s:=s++ordN x.ol x.ol.length++movN (x.ml.map MvX.m) i) (sb:=sb) (k:=i) om gx (zo n1 og.1) (A1.old og) hy (hdl y (zb hy)) (by simp only [ze];omega)
  rw [<- hC10] at T
  have hi1:(i:Int)+1=((i+1:Nat):Int):=by omega
  have hmS:movN (x.ml.map MvX.m) (i+1)=movN (x.ml.map MvX.m) i++mvT y.m:=by rw [movN,List.getElem?_map,hy];rfl
  clear A A1 hdl
  refine qx ?_
  refine Run.cut _ (T _) ?_
  rintro _ _ g2 ⟨rfl,⟨sb2,rfl⟩,o2⟩
  refine qx ?_
  rw [hi1]
  exact ih (x.ml.length-(i+1)) om _ _ ⟨i+1,rfl,by omega,by rw [hmS];simp only [List.append_assoc],og.trans o2⟩
 obtain ⟨C,hC⟩ : ∃ C,C=c35_16:=⟨_,rfl⟩
 rw [<- hC] at T
 refine jaS (aT hcl ?_)
 simp only [c35,c35_18,c35_17,<- hC,yB,yH]
 clear A A1 hln hdl go
 refine Run.seq (zac (zcu (ob := .cells x.V false) (mk:=fun b=>.p b 0) rfl rfl ?_))
 rw [hG]
 refine qx ?_
 refine Ops.sadd rfl rfl Zc ?_
 repeat' (first|refine qxy ?_|(refine zsp ?_ ?_<;>intro _)|fail)
 ·next hin=>
  rw [hin] at T
  refine Ops.sadd rfl rfl Zc ?_
  refine qx ?_
  exact T _ _ rfl
 ·next hin=>
  rw [hin] at T
  exact T ([115,116,101,112,32]++dec u) _ Zd
end
section
variable {P:Sp->Prop} {rd:St->Bool} {fv:Bool}
end
section
variable {Q:List Int->Prop} {rd:St->Bool} {fv:Bool}
end
section
variable {cl:Nat->Call} (hcl:Sem cl) {d:Nat} {h:H}
include hcl
theorem rm_Same {P1 Q1 P2 Q2 P3 P4:Nat->Prop} {v1 v2:V} {l1 l2:List SpX} (hd:3<=d) (a1:At4 h P1 SpX.V v1 l1) (s1 : ∀ x∈l1,StepAt h P3 Q1 x) (a2:At4 h P2 SpX.V v2 l2) (s2 : ∀ x∈l2,StepAt h P4 Q2 x) (hsp:l1.map SpX.sp=l2.map SpX.sp) (hf : ∀ x∈l1.map SpX.sp,x.few) (hl:l1.length<=2000) :
  ∃ h',cl d (.fn 13) [v1,v2] h=some (.bool true,h')/\Old h h':=by
 have hln:l2.length=l1.length:=by have:=congrArg List.length hsp;simpa using this.symm
 obtain ⟨ad1,c1,rfl,_,_,g1⟩:=a1
 obtain ⟨ad2,c2,rfl,_,_,g2⟩:=a2
 have hne : ¬ ((l1.length:Nat):Int)≠((l2.length:Nat):Int):=fun e=>e (by rw [hln])
 refine jaS (aT hcl ?_)
 refine qx ?_
 refine zV (fun m e g=>∃ i:Nat,m=l1.length-i/\i<=l1.length/\e=[(0,.slice ad1 l1.length c1),(1,.slice ad2 l2.length c2),(5,.i (i:Int))]/\Old h g)
  (k:=l1.length) Ze ⟨0,rfl,by omega,rfl,zW h⟩ ?_
 rintro _ _ g ⟨i,rfl,hi,rfl,og⟩ n' ih
 by_cases hlt:(i:Int)<l1.length
 case neg=>
  clear ih g1 g2 s1 s2 hf
  refine qx ?_
  exact ⟨rfl,og⟩
 obtain ⟨x,hx⟩:=jfi (l:=l1) (i:=i) om
 obtain ⟨y,hy⟩:=jfi (l:=l2) (i:=i) om
 have hxy:x.sp=y.sp:=by
  have h1:(l1.map SpX.sp)[i]?=some x.sp:=by rw [List.getElem?_map,hx];rfl
  rw [hsp,List.getElem?_map,hy] at h1
  exact (Option.some.inj h1).symm
 have hxm:=zb hx
 have hym:=zb hy
 obtain ⟨b1,o1,cs1,r1,rfl,lb1,_,gb1,hc1⟩:=g1 (by intro e;rw [e] at hx;simp at hx)
 obtain ⟨b2,o2,cs2,r2,rfl,lb2,_,gb2,hc2⟩:=g2 (by intro e;rw [e] at hy;simp at hy)
 have x4:(cs1.drop (o1+(i:Int).toNat*4)).take 4=x.V:=by rw [zq];exact hc1 i x hx
 have y4:(cs2.drop (o2+(i:Int).toNat*4)).take 4=y.V:=by rw [zq];exact hc2 i y hy
 have xl:=jhr x4 rfl
 have yl:=jhr y4 rfl
 have gb1':g.get b1=some (.cells cs1 r1):=by rw [og.2 b1 lb1,gb1]
 have gb2':g.get b2=some (.cells cs2 r2):=by rw [og.2 b2 lb2,gb2]
 have hfx:=hf x.sp (List.mem_map_of_mem hxm)
 obtain ⟨h3,e3,o3⟩:=jjz hcl (d:=d-1) om ((s1 x hxm).old og) hfx
 obtain ⟨h4,e4,o4⟩:=jjz hcl (d:=d-1) om ((s2 y hym).old (og.trans o3)) (by rw [<- hxy];exact hfx)
 rw [<- hxy] at e4
 have gb2'':h3.get b2=some (.cells cs2 r2):=by rw [o3.2 b2 (zo lb2 og.1),gb2']
 have hi1:(i:Int)+1=((i+1:Nat):Int):=by omega
 have hlt2:i<l2.length:=by omega
 clear g1 g2 s1 s2 hf hc1 hc2 hne
 refine qx ?_
 refine zcw rfl gb1' xl ?_
 rw [x4]
 refine qx ?_
 refine zcw rfl gb2' yl ?_
 rw [y4]
 refine Ops.callf_chk rfl e3 (chk_loadN rfl gb2'' yl y4 rfl jjQ) ?_
 repeat' (first|refine qxy ?_|(refine zsp ?_ ?_<;>intro _)|fail)
 ·next hh=>simp at hh
 rw [hi1]
 exact ih (l1.length-(i+1)) om _ _ ⟨i+1,rfl,by omega,rfl,og.trans (o3.trans o4)⟩
variable {ow:Nat->Nat} {ro dat:Nat->Prop} {p sb:Nat} {bs:Option Nat} {X:Nat->Prop} {L:List SpX} {o:List Int}
end
section
variable {cl:Nat->Call} (hcl : ∀ d,cl d=ja0 prog fuel d)
include hcl
theorem jjB {g:H} {s:List UInt8} {e:Env} {u a b c:V} (gv:Gv g) (hs:s.length<=10000) (he:e=[(0,u),(1,.str s),(5,.bool true),(6,a),(36,b)]\/e=[(1,.str s),(5,.bool true),(50,c)]) :
  Run (cl 30) fuel c4_5 [] e g (Fin c4.res fun v _=>v = .bool true):=by
 obtain ⟨v,h1,e1,o1,hor⟩:=jij (.inl hcl) (d:=30) gv om (TF.of (s:=s) om)
 rcases hor with ⟨XL,sv,hp,rfl,A⟩ | ⟨k,hp,rfl⟩
 ·obtain ⟨q1,q2,q3⟩:=text_par (zn _) hp
  have hl:XL.length<=2000:=by
   rcases q3 with q3 | q3
   ·have:=congrArg List.length q3
    rw [List.length_map,List.length_nil] at this;omega
   ·rw [List.length_map] at q3;omega
  have hf : ∀ x∈XL,SpFit x.sp:=fun x hx=>q2 x.sp (List.mem_map_of_mem hx)
  have e2:=jjo hcl (d:=30) om (gv.old o1) A hl fun _=>hf
  rw [zw fun x hx=>(hf x hx).may,q1] at e2
  clear A gv hp q1 q2 q3 hf
  simp only [c4_5,c4_2,c4_0,yA,yB,yC]
  rcases he with rfl | rfl
  ·refine qx ?_
   simp
  ·refine qx ?_
   simp
 ·clear gv hp
  simp only [c4_5,c4_1,yA,yC]
  rcases he with rfl | rfl
  ·refine qx ?_
   rfl
  ·refine qx ?_
   rfl
theorem jgO {h0:H} (hnx:h0.nx=124010) (hwf : ∀ b,124010<=b->h0.get b=none) (l2:h0.get 2=some (.cells jak true)) (l4:h0.get 4=some (.cells jar true)) (l3:h0.get 3=some (.cells jao true)) (l0:h0.get 0=some (.cells jam true))
  {x0:List (Int × Bool × List Int × List (Int × Int × Int × List Int × Unit) × Unit)} {u1:V} (rs:jbx 2000 jk0 h0 x0 [u1]) {s:List UInt8} {u2:V} (ra:jkp h0 s [u2]) :
  ∃ h',cl 31 (.fn 4) [u1,u2] h0=some (.bool true,h'):=by
 suffices q : ∃ v h',cl 31 (.fn 4) [u1,u2] h0=some (v,h')/\v = .bool true by
  obtain ⟨_,h',e,rfl⟩:=q;exact ⟨h',e⟩
 obtain ⟨⟨⟩,_⟩:=ra
 have hc:Sem cl := .inl hcl
 obtain ⟨h1,ea,kx,kk⟩:=aliveB_in hcl hnx hwf l2 l4 l3 l0
 obtain ⟨S,hS0,hT0,hb⟩:=spsN_of rs
 have hS:=hS0.keepK kx kk
 have hT:=hT0.keepK kx kk
 have gv:Gv h1:=⟨⟨by show 2<h1.nx;omega,_,_,kk 2 _ om l2,by kernel_rfl⟩,by show 3<h1.nx;omega,by show 4<h1.nx;omega,by show 0<h1.nx;omega,by unfold jaO;rw [show h1.get gS=_ from kk 3 _ om l3];rfl,by unfold jaO;rw [show h1.get gR=_ from kk 4 _ om l4];rfl,true,kk 0 _ om l0⟩
 obtain ⟨gr,eg,hg⟩:=gs_ok hc (d:=30) om hT
 obtain ⟨ads,cs,rfl,_⟩:=id hT
 clear rs hS0 hT0 kk hwf l3 l4 l2 l0
 refine at_ hc om rfl rfl rfl ?_
 obtain ⟨C6,hC6⟩ : ∃ C,C=c4_6:=⟨_,rfl⟩
 simp only [c4,c4_7,<- hC6,yB,yJ]
 rcases hg with rfl | ⟨rfl,hfs⟩
 ·clear hS hT gv hb
  refine qx ?_
  rfl
 by_cases ka:(s.length:Int)>10000
 ·clear hS hT gv hb
  refine qx ?_
  rfl
 have hSA:=hS.atF hfs
 have hl:=hfs.len
 have hfit:(∀ x∈S,x.sp.may) -> ∀ x∈S,SpFit x.sp:=fun hm x hx=>by
  have A:=hSA.2 x hx
  refine ⟨hm x hx,A.t0,Int.lt_of_le_of_lt A.t1 (by decide),fun m hmm=>?_⟩
  obtain ⟨y,hy,rfl⟩:=List.mem_map.1 hmm
  obtain ⟨f1,f2⟩:=hb om x hx (hfs.each x hx).1 y hy
  exact ⟨(hm x hx).2.2.2 _ hmm,f1,f2⟩
 have e1:=jjo hcl (d:=30) om gv hSA om hfit
 by_cases hm : ∀ x∈S,x.sp.may
 case neg=>
  rw [zt hm] at e1
  have T:=fun u a b=>jjB hcl (g:=h1) (s:=s) (u:=u) (a:=a) (b:=b) (c := .nils) gv om (.inl rfl)
  obtain ⟨C5,hC5⟩ : ∃ C,C=c4_5:=⟨_,rfl⟩
  obtain ⟨C4,hC4⟩ : ∃ C,C=c4_4:=⟨_,rfl⟩
  rw [<- hC5] at T
  clear hS hT gv hb hSA hfit hfs hm
  subst hC6
  simp only [c4_6,<- hC5,<- hC4,yC]
  refine qx ?_
  exact T _ _ _
 rw [zw hm] at e1
 have hf:=hfit hm
 have hf2 : ∀ x∈S.map SpX.sp,SpFit x:=fun x hx=>by
  obtain ⟨y,hy,rfl⟩:=List.mem_map.1 hx
  exact hf y hy
 obtain ⟨v,h2,e2,o2,hor⟩:=jij hc (d:=30) gv om (TF.of_text hf2 Zc)
 rw [jg0 hf2 Zc] at hor
 rcases hor with ⟨XL,sv,hp,rfl,A⟩ | ⟨k,hp,_⟩
 case inr=>cases hp
 have hsp:XL.map SpX.sp=S.map SpX.sp:=by
  have:=congrArg Prod.snd hp
  exact this.symm
 have hln:XL.length=S.length:=by have:=congrArg List.length hsp;simpa using this
 obtain ⟨h3,e3,o3⟩:=rm_Same hc (d:=30) (h:=h2) om A.1 A.2 (hSA.old o2).1 (hSA.old o2).2 hsp (fun x hx=>by
  rw [hsp] at hx
  obtain ⟨y,hy,rfl⟩:=List.mem_map.1 hx
  have k:=hm y hy
  exact ⟨by have:=k.1;omega,by have:=k.2.1;omega,fun m hmm=>by have:=(k.2.2.2 m hmm).2.2.2.2.1;omega⟩) om
 have T:=fun c=>jjB hcl (g:=h3) (s:=s) (u := .nils) (a := .nils) (b := .nils) (c:=c) (gv.old (o2.trans o3)) om (.inr rfl)
 obtain ⟨C5,hC5⟩ : ∃ C,C=c4_5:=⟨_,rfl⟩
 rw [<- hC5] at T
 clear hS hT gv hb hSA hfit hfs hm hf hf2 A hp hsp
 subst hC6
 simp only [c4_6,c4_4,c4_3,<- hC5,yA,yB,yC]
 refine qx ?_
 exact T _
end
end Am.Sigs
