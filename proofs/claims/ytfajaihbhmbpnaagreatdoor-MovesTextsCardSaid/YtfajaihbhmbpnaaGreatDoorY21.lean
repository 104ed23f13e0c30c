/- Our own library, part 21. -/
import Derived.Test.YtfajaihbhmbpnaaGreatDoorY20
import Derived.Test.YtfajaihbhmbpnaaGreatDoorY17
set_option maxHeartbeats 8000000
set_option maxRecDepth 800
set_option linter.all false
namespace Am.Sigs
open Am Go
def acHd:AC->AC
 | .seq a _=>a
 | c=>c
theorem jiO {o:List UInt8} {i fr:Nat} {x:UInt8} (hi:o[i]?=some x) (hf:fr<=i):o.drop fr=(o.take i).drop fr++x :: o.drop (i+1):=by
 obtain ⟨h1,h2⟩:=List.getElem?_eq_some_iff.1 hi
 have e:o=o.take i++x :: o.drop (i+1):=by
  rw [<- h2,<- List.drop_eq_getElem_cons h1,List.take_append_drop]
 conv=>lhs;rw [e]
 rw [List.drop_append_of_le_length (by rw [List.length_take];omega)]
theorem jiv {o:List UInt8} {i fr:Nat} {x:UInt8} (hi:o[i]?=some x) (hf:fr<=i):(o.take (i+1)).drop fr=(o.take i).drop fr++[x]:=by
 obtain ⟨h1,h2⟩:=List.getElem?_eq_some_iff.1 hi
 rw [List.take_add_one,hi,List.drop_append_of_le_length (by rw [List.length_take];omega)];rfl
section
variable {cl:Nat->Call} (hcl:Sem cl) {d:Nat} {h g:H} {R X q n:Nat} {c:Cap} {s:List UInt8} {ws r:List (List UInt8)} {t:Int} {iv:Bool} {sb:Env}
include hcl
theorem jkF {K:List Fr} {Qp:Post} {k:H} {N i fr:Nat} {ov:V} {il:List Int} {o:List UInt8} (hd:3<=d) (a:QS h R X q ws [.int .u64 t,.bool iv,ov,.nils] k) (row:Row N k 1 ov il.length (ints il)) (hN:N<=k.nx) (y1:R<N) (y2:X<N) (y3:q<N) (y4:h.nx<=N) (hil:il.length<=30000) (q1:(strs ws)[0+((n:Int)+1).toNat*1]?=some (.str o)) (hbd1:0<=(n:Int)+1/\(n:Int)+1<((ws.length:Nat):Int)) (hfi:fr<=i) (hi:i<=o.length) (hol:o.length<=20000) (hlw:ws.length<=20000)
  (T : ∀ k' ov',QS h R X q ws [.int .u64 t,.bool iv,ov',.nils] k'->Row N k' 1 ov' (il.length+1) (ints (il++[ja1 ((o.take i).drop fr)]))->N<=k'.nx->End (cl d) fuel K .normal [(0,.str s),(2,.p R 0),(4,.slice (some (q,0)) ws.length c),(5,.p X 0),(6,.i (n:Int)),(7,.i ((i+1:Nat):Int)),(8,.i (i:Int))] k' Qp) :
  Run (cl d) fuel c40_6 K ((0,.str s) :: (2,.p R 0) :: (4,.slice (some (q,0)) ws.length c) :: (5,.p X 0) :: (6,.i (n:Int)) :: (7,.i (fr:Int)) :: (8,.i (i:Int)) :: sb) k Qp:=by
 have gq:=a.q_
 have gX:=a.X_
 have hi1:(i:Int)+1=((i+1:Nat):Int):=by omega
 have q2:([.int .u64 t,.bool iv,ov,.nils]:List V)[0+2]?=some ov:=rfl
 have es:=jfP hcl (d:=d) (h:=k) (s:=(o.take i).drop fr) om (by rw [List.length_drop,List.length_take];omega)
 generalize ja1 ((o.take i).drop fr)=sm at es T
 have hints:ints il++[.i sm]=ints (il++[sm]):=by simp [ints]
 simp only [c40_6,c40_5,yA,yF]
 refine qx ?_
 refine Ops.strMid rfl rfl rfl hfi hi ?_
 refine qx ?_
 refine Ops.push (N:=N) (n:=il.length) (new:=[.i sm]) rfl rfl rfl rfl om rfl rfl row hN om om fun w g3 row3 hx4 hz4 hk4=>?_
 have hk5 : ∀ j,j<N->g3.get j=k.get j:=fun j hj=>hk4 j om fun e=>by have:=(row.at_ge e).1;omega
 have hw1:w.one=true:=by rcases row3 with ⟨e,_⟩ | ⟨_,_,_,rfl,_⟩<;>first | rfl | (omega)
 have a3:=a.keep2 (M:=N) hx4 hk5 y1 y2 y3 y4
 have a4:QS h R X q ws [.int .u64 t,.bool iv,w,.nils] (g3.set X (.cells [.int .u64 t,.bool iv,w,.nils] false)):=a3.set
 have gX3:=a3.X_
 rw [hints] at row3
 have T2:=T _ w a4 (row3.keep Zd fun z hz=>jaa fun e=>by have:=(row3.at_ge hz).1;omega) (by simpa using zu hN hx4)
 clear a a3 a4 T
 refine qx ?_
 refine zcs rfl rfl hw1 gX3 Zd ?_
 rw [show ([.int .u64 t,.bool iv,ov,.nils]:List V).set (0+2) w=[.int .u64 t,.bool iv,w,.nils] from rfl]
 refine qx ?_
 rw [hi1]
 exact T2
theorem ji4 (hd:6<=d) (a:QS h R X q ws [.int .u64 t,.bool iv,.nils,.nils] g) (hc:c.fits ws.length 1) (hw:ws.drop n=r) (hn:n<=ws.length) (hl : ∀ a∈ws,a.length<=20000) (hlw:ws.length<=20000) (t0:0<=t) (t1:t<=18446744073709551615) (hp:qwW (jae 32 s)=match mdsR (qwO r).2.length (qwO r).2 with | none=>none | some M=>some ⟨t,iv,(qwO r).1,M⟩) :
  Run (cl d) fuel c40_11 [] ((0,.str s) :: (2,.p R 0) :: (4,.slice (some (q,0)) ws.length c) :: (5,.p X 0) :: (6,.i (n:Int)) :: sb) g (Fin c40.res fun v h'=>RdP h s v h'):=by
 obtain ⟨T1,hT1⟩ : ∃ C,C=acTl c40_11:=⟨_,rfl⟩
 obtain ⟨C9,hC9⟩ : ∃ C,C=c40_9:=⟨_,rfl⟩
 have gq:=a.q_
 have gX:=a.X_
 have hlr:r.length=ws.length-n:=by rw [<- hw,List.length_drop]
 have hn1:(n:Int)+1=((n+1:Nat):Int):=by omega
 have hn2:(n:Int)+2=((n+2:Nat):Int):=by omega
 have N:qwO r=([],r) -> ∀ sb,Run (cl d) fuel T1 [] ((0,.str s) :: (2,.p R 0) :: (4,.slice (some (q,0)) ws.length c) :: (5,.p X 0) :: (6,.i (n:Int)) :: sb) g (Fin c40.res fun v h'=>RdP h s v h'):=fun e sb=>by
  rw [e] at hp
  rw [hT1]
  exact jkG hcl hd a hc hw hn hl hlw t0 t1 ⟨none,.fix 0,rfl,fun _=>⟨rfl,rfl⟩,zO _,fun e=>zC rfl e⟩ (fun z e=>by cases e) rfl hp
 have hcode:c40_11 = .seq (acHd c40_11) T1:=by rw [hT1];rfl
 rw [hcode]
 simp only [acHd,c40_11,<- hC9,uF]
 by_cases h2:n+1<ws.length
 case neg=>
  have N:=N (by
   have:r.length<=1:=by omega
   match r,this with
   | [],_=>rfl
   | [_],_=>rfl)
  have h2' : ¬ (n:Int)+1<((ws.length:Nat):Int):=by omega
  clear a hp
  refine qx ?_
  exact N _
 have h2':(n:Int)+1<((ws.length:Nat):Int):=by omega
 obtain ⟨w,hwn⟩ : ∃ w,r[0]?=some w:=⟨_,za om⟩
 obtain ⟨o,hon⟩ : ∃ w,r[1]?=some w:=⟨_,za om⟩
 obtain ⟨rt,hrt⟩ : ∃ rt,r=w :: o :: rt:=by
  match r,hwn,hon with
  | x :: y :: rt,e1,e2=>
   simp at e1 e2
   subst e1 e2
   exact ⟨rt,rfl⟩
 have q0:(strs ws)[0+(n:Int).toNat*1]?=some (.str w):=jcR (o:=0) (r:=ws) rfl (by rw [<- hw,zk] at hwn;simpa using hwn)
 have q1:(strs ws)[0+((n:Int)+1).toNat*1]?=some (.str o):=by
  rw [hn1];exact jcR (o:=0) (r:=ws) rfl (by rw [<- hw,zk] at hon;simpa using hon)
 have hol:o.length<=20000:=hl o (by rw [<- hw] at hon;exact List.mem_of_mem_drop (zb hon))
 have hbd:0<=(n:Int)/\(n:Int)<((ws.length:Nat):Int):=by omega
 have hbd1:0<=(n:Int)+1/\(n:Int)+1<((ws.length:Nat):Int):=by omega
 by_cases he:w=jb0
 case neg=>
  have hb:(w == [111,114,100,101,114])=false:=by simpa using he
  have N:=N (by rw [hrt,qwO,zt he])
  clear a hp
  refine qx ?_
  exact N _
 have hb:(w == [111,114,100,101,114])=true:=by simpa using he
 clear N
 have hqo:qwO r=((jae 44 o).map ja1,rt):=by rw [hrt,qwO,zw he]
 rw [hqo] at hp
 have hw3:ws.drop (n+2)=rt:=by rw [<- List.drop_drop,hw,hrt];rfl
 obtain ⟨C7,hC7⟩ : ∃ C,C=c40_7:=⟨_,rfl⟩
 rw [hC9]
 simp only [c40_9,c40_8,<- hC7,yB,yF]
 clear hC9
 have y1:=a.r2
 have y2:=a.x2
 have y3:=a.q2
 have y4:=a.o.1
 refine qx ?_
 refine zW (fun j e k=>∃ (i fr:Nat) (dn:List (List UInt8)) (ov:V),j=o.length+1-i/\i<=o.length+1/\dn.length<=i/\e=[(0,.str s),(2,.p R 0),(4,.slice (some (q,0)) ws.length c),(5,.p X 0),(6,.i (n:Int)),(7,.i (fr:Int)),(8,.i (i:Int))]/\QS h R X q ws [.int .u64 t,.bool iv,ov,.nils] k/\Row g.nx k 1 ov (dn.map ja1).length (ints (dn.map ja1))/\g.nx<=k.nx/\(i<=o.length->fr<=i/\(44:UInt8) ∉ (o.take i).drop fr/\jae 44 o=dn++jae 44 (o.drop fr))/\(i=o.length+1->jae 44 o=dn))
  (k:=o.length+1) Ze ⟨0,0,[],.nils,by omega,by omega,zn _,rfl,a,Row.nil _ _ _,zn _,fun _=>⟨zn _,by simp,rfl⟩,fun e=>by omega⟩ ?_
 clear a gq gX
 rintro _ _ k ⟨i,fr,dn,ov,rfl,hi,hdl,rfl,a,row,hx,hA,hB⟩ f ih
 have gq:=a.q_
 have gX:=a.X_
 have hi1:(i:Int)+1=((i+1:Nat):Int):=by omega
 by_cases hlt:i<=o.length
 case neg=>
  obtain rfl:i=o.length+1:=by omega
  have hlt' : ¬ ((o.length+1:Nat):Int)<=((o.length:Nat):Int):=by omega
  rw [hB rfl] at hp
  have hvi:=VI.ofRow row
  have hone:ov.one=true:=by rcases row with ⟨_,_,rfl⟩ | ⟨_,_,_,rfl,_⟩<;>rfl
  have T:=fun sb=>jkG hcl (sb:=sb) (at_:=n+2) hd a hc hw3 om hl hlw t0 t1 hvi.1 (fun z hz=>by have:=(hvi.2 z hz).1;exact ⟨by omega,by omega,by omega⟩) hone hp
  rw [<- hT1] at T
  clear ih a hp
  refine qx ?_
  rw [hn2]
  exact T _
 have hlt':(i:Int)<=((o.length:Nat):Int):=by omega
 obtain ⟨f1,f2,f3⟩:=hA hlt
 clear hA hB
 obtain ⟨C6,hC6⟩ : ∃ C,C=c40_6:=⟨_,rfl⟩
 rw [hC7] at ih ⊢
 simp only [c40_7,<- hC6,uF] at ih ⊢
 clear hC7
 by_cases hend:i=o.length
 ·have hend':(i:Int)=((o.length:Nat):Int):=by omega
  have hseg:(o.take i).drop fr=o.drop fr:=by rw [hend,List.take_length]
  rw [hseg] at f2
  rw [jb6 f2] at f3
  have S:=fun {K Qp} sb=>jkF hcl (s:=s) (n:=n) (c:=c) (K:=K) (Qp:=Qp) (sb:=sb) (d:=d) (fr:=fr) (i:=i) om a row hx y1 y2 y3 y4 Zc q1 hbd1 f1 hlt hol hlw
  rw [<- hC6,hseg] at S
  clear a
  refine qx ?_
  refine S _ fun k' ov' a' row' hx'=>?_
  refine qx ?_
  rw [hi1]
  exact ih (o.length+1-(i+1)) om _ _ ⟨i+1,i+1,dn++[o.drop fr],ov',rfl,by omega,by simp;omega,rfl,a',by simpa using row',hx',fun e=>by omega,fun _=>f3⟩
 have hend' : ¬ (i:Int)=((o.length:Nat):Int):=by omega
 obtain ⟨x,hx1⟩ : ∃ x,o[i]?=some x:=⟨_,za om⟩
 by_cases h44:x=44
 ·have hx44:((x.toNat:Nat):Int)=44:=by rw [h44];rfl
  have hds:=jiO hx1 f1
  rw [h44] at hds
  rw [hds,jbq f2] at f3
  have S:=fun {K Qp} sb=>jkF hcl (s:=s) (n:=n) (c:=c) (K:=K) (Qp:=Qp) (sb:=sb) (d:=d) (fr:=fr) (i:=i) om a row hx y1 y2 y3 y4 Zc q1 hbd1 f1 hlt hol hlw
  rw [<- hC6] at S
  clear a
  refine qx ?_
  refine zY rfl rfl hx1 ?_
  refine qx ?_
  refine S _ fun k' ov' a' row' hx'=>?_
  refine qx ?_
  rw [hi1]
  exact ih (o.length+1-(i+1)) om _ _ ⟨i+1,i+1,dn++[(o.take i).drop fr],ov',rfl,by omega,by simp;omega,rfl,a',by simpa using row',hx',fun _=>⟨zn _,by rw [List.drop_eq_nil_of_le (by rw [List.length_take];omega)];simp,by rw [f3];simp⟩,fun e=>by omega⟩
 ·have hx44 : ¬ ((x.toNat:Nat):Int)=44:=fun e=>h44 (UInt8.toNat.inj (by have e2:(44:UInt8).toNat=44:=rfl;omega))
  have A8:=ih (o.length+1-(i+1)) om _ k ⟨i+1,fr,dn,ov,rfl,by omega,by omega,rfl,a,row,hx,fun _=>⟨by omega,by
   rw [jiv hx1 f1]
   intro hm
   rcases zF.1 hm with hm | hm
   ·exact f2 hm
   ·exact h44 (List.mem_singleton.1 hm).symm,f3⟩,fun e=>by omega⟩
  clear ih a
  refine qx ?_
  refine zY rfl rfl hx1 ?_
  refine qx ?_
  rw [hi1]
  exact A8
end
section
variable {cl:Nat->Call} (hcl:Sem cl) {d:Nat} {h g:H} {R X q n:Nat} {c:Cap} {s:List UInt8} {ws r:List (List UInt8)} {t:Int} {sb:Env}
include hcl
theorem rq_int (hd:6<=d) (a:QS h R X q ws [.int .u64 t,.bool false,.nils,.nils] g) (hc:c.fits ws.length 1) (hw:ws.drop n=r) (hn:n<=ws.length) (hl : ∀ a∈ws,a.length<=20000) (hlw:ws.length<=20000) (t0:0<=t) (t1:t<=18446744073709551615) (hp:qwW (jae 32 s)=match mdsR (qwO (pwI r).2).2.length (qwO (pwI r).2).2 with | none=>none | some M=>some ⟨t,(pwI r).1,(qwO (pwI r).2).1,M⟩) :
  Run (cl d) fuel c40_12 [] ((0,.str s) :: (2,.p R 0) :: (4,.slice (some (q,0)) ws.length c) :: (5,.p X 0) :: (6,.i (n:Int)) :: sb) g (Fin c40.res fun v h'=>RdP h s v h'):=by
 obtain ⟨C11,hC11⟩ : ∃ C,C=c40_11:=⟨_,rfl⟩
 have gq:=a.q_
 have gX:=a.X_
 have hlr:r.length=ws.length-n:=by rw [<- hw,List.length_drop]
 have hn1:(n:Int)+1=((n+1:Nat):Int):=by omega
 have N:pwI r=(false,r) -> ∀ sb,Run (cl d) fuel C11 [] ((0,.str s) :: (2,.p R 0) :: (4,.slice (some (q,0)) ws.length c) :: (5,.p X 0) :: (6,.i (n:Int)) :: sb) g (Fin c40.res fun v h'=>RdP h s v h'):=fun e sb=>by
  rw [e] at hp
  rw [hC11]
  exact ji4 hcl hd a hc hw hn hl hlw t0 t1 hp
 simp only [c40_12,c40_10,<- hC11,uF,yA]
 by_cases h2:n<ws.length
 case neg=>
  have N:=N (by
   have:r.length=0:=by omega
   match r,this with
   | [],_=>rfl)
  have h2' : ¬ (n:Int)<((ws.length:Nat):Int):=by omega
  clear a hp
  refine qx ?_
  exact N _
 have h2':(n:Int)<((ws.length:Nat):Int):=by omega
 obtain ⟨w,hwn⟩ : ∃ w,r[0]?=some w:=⟨_,za om⟩
 obtain ⟨rt,hrt⟩ : ∃ rt,r=w :: rt:=by
  match r,hwn with
  | x :: rt,e1=>
   simp at e1
   subst e1
   exact ⟨rt,rfl⟩
 have q0:(strs ws)[0+(n:Int).toNat*1]?=some (.str w):=jcR (o:=0) (r:=ws) rfl (by rw [<- hw,zk] at hwn;simpa using hwn)
 by_cases he:w=jfq
 case neg=>
  have hb:(w == [105,110,116,114])=false:=by simpa using he
  have N:=N (by rw [hrt,pwI,zt he])
  clear a hp
  refine qx ?_
  exact N _
 have hb:(w == [105,110,116,114])=true:=by simpa using he
 clear N
 have hpi:pwI r=(true,rt):=by rw [hrt,pwI,zw he]
 rw [hpi] at hp
 have hw3:ws.drop (n+1)=rt:=by rw [<- List.drop_drop,hw,hrt];rfl
 have a2:QS h R X q ws [.int .u64 t,.bool true,.nils,.nils] (g.set X (.cells [.int .u64 t,.bool true,.nils,.nils] false)):=a.set
 have T:=fun sb=>ji4 hcl (sb:=sb) (n:=n+1) hd a2 hc hw3 om hl hlw t0 t1 hp
 rw [<- hC11] at T
 clear a a2 hp
 refine Ga ?_
 rw [hn1]
 exact T _
theorem rq_read (hd:7<=d) (hs:s.length<=12000) : ∃ v h',cl d (.fn 40) [.str s] h=some (v,h')/\RdP h s v h':=by
 have o1:Old h (h.new (.cells [.int .u64 0,.bool false,.nils,.nils] false)):=(zX h).new
 have gR:=jac (h:=h) (.cells [.int .u64 0,.bool false,.nils,.nils] false)
 have hn0:(h.new (.cells [.int .u64 0,.bool false,.nils,.nils] false)).nx=h.nx+1:=rfl
 refine aT hcl ?_
 obtain ⟨C14,hC14⟩ : ∃ C,C=c40_14:=⟨_,rfl⟩
 simp only [c40,c40_15,<- hC14,yB,yF]
 refine Run.seq (zac ?_)
 refine zcu (ob := .cells [.int .u64 0,.bool false,.nils,.nils] false) (mk:=fun b=>.p b 0) rfl rfl ?_
 generalize h.new (.cells [.int .u64 0,.bool false,.nils,.nils] false)=G at o1 gR hn0 ⊢
 obtain ⟨v,g1,e1,o2,q,c,p1,p2,rfl,p3,p4⟩:=rq_words hcl (d:=d-1) (h:=G) (s:=s) om hs
 have hc:c.fits (jae 32 s).length 1:=by
  rcases p3 with rfl | rfl
  ·trivial
  ·exact zn _
 have hlen:(jae 32 s).length<=20000:=by rw [jaG];have:=jc7 32 s;omega
 have hwl : ∀ a∈jae 32 s,a.length<=20000:=fun a ha=>by have:=jbr ha;omega
 have o3:Old g1 (g1.new (.cells [.int .u64 0,.bool false,.nils,.nils] false)):=(zX g1).new
 have x1:=o2.1
 have a0:QS h h.nx g1.nx q (jae 32 s) [.int .u64 0,.bool false,.nils,.nils] (g1.new (.cells [.int .u64 0,.bool false,.nils,.nils] false)) :=
  ⟨(o1.trans o2).trans o3,zn _,by simp;omega,by omega,by simp,by omega,by simp;omega,⟨by omega,by omega,by omega⟩,by rw [o3.2 _ om,o2.2 _ om,gR],jac _,by rw [o3.2 _ p2,p4]⟩
 generalize hws:jae 32 s=ws at *
 refine qx ?_
 refine zcu (ob := .cells [.int .u64 0,.bool false,.nils,.nils] false) (mk:=fun b=>.p b 0) rfl rfl ?_
 generalize g1.new (.cells [.int .u64 0,.bool false,.nils,.nils] false)=G2 at a0 o3 ⊢
 refine zct (vs:=[.int .u64 0,.bool false,.nils,.nils]) rfl rfl rfl rfl a0.X_ Zd ?_
 rw [show jal ([.int .u64 0,.bool false,.nils,.nils]:List V) 0 [.int .u64 0,.bool false,.nils,.nils]=[.int .u64 0,.bool false,.nils,.nils] from rfl]
 have a1:QS h h.nx g1.nx q ws [.int .u64 0,.bool false,.nils,.nils] (G2.set g1.nx (.cells [.int .u64 0,.bool false,.nils,.nils] false)):=a0.set
 generalize G2.set g1.nx (.cells [.int .u64 0,.bool false,.nils,.nils] false)=G3 at a1 ⊢
 clear a0 o3
 have gX:=a1.X_
 have gq:=a1.q_
 have gR3:=a1.R_
 refine qx ?_
 subst hC14
 by_cases h2:ws.length<2
 ·have h2':((ws.length:Nat):Int)<2:=by omega
  have hp:qwW ws=none:=by
   match ws,h2 with
   | [],_=>rfl
   | [_],_=>rfl
  have K:RdP h s (.tup [.agg [.int .u64 0,.bool false,.nils,.nils],.bool false]) (G3.set h.nx (.cells [.int .u64 0,.bool false,.nils,.nils] false)) :=
   ⟨_,false,rfl,a1.o.set (zn _),rfl,rfl,(fun e=>by cases e),fun _=>jiK (by rw [hws];exact hp)⟩
  clear a1
  simp only [c40_14,yB]
  refine qx ?_
  refine zcw rfl gX Zd ?_
  refine zct (vs:=[.int .u64 0,.bool false,.nils,.nils]) rfl rfl rfl rfl gR3 Zd ?_
  rw [show jal ([.int .u64 0,.bool false,.nils,.nils]:List V) 0 [.int .u64 0,.bool false,.nils,.nils]=[.int .u64 0,.bool false,.nils,.nils] from rfl]
  refine qx ?_
  exact jdS (jab _) rfl K
 have h2' : ¬ ((ws.length:Nat):Int)<2:=by omega
 obtain ⟨w,b,r,hr⟩ : ∃ w b r,ws=w :: b :: r:=by
  match ws,h2 with
  | [],h2=>simp at h2
  | [_],h2=>simp at h2
  | w :: b :: r,_=>exact ⟨w,b,r,rfl⟩
 have q1:(strs ws)[0+(1:Int).toNat*1]?=some (.str b):=by rw [hr];rfl
 have hlb:b.length<=20000:=hwl b (by rw [hr];simp)
 have ev:=ji3 hcl (d:=d-1) (h:=G3) (s:=b) om hlb
 have hvle:=jhI b 0 om
 have hp:qwW ws=match mdsR (qwO (pwI r).2).2.length (qwO (pwI r).2).2 with | none=>none | some M=>some ⟨((valN b 0:Nat):Int),(pwI r).1,(qwO (pwI r).2).1,M⟩:=by
  rw [hr,qwW]
  cases mdsR (qwO (pwI r).2).2.length (qwO (pwI r).2).2<;>rfl
 have a2:QS h h.nx g1.nx q ws [.int .u64 ((valN b 0:Nat):Int),.bool false,.nils,.nils] (G3.set g1.nx (.cells [.int .u64 ((valN b 0:Nat):Int),.bool false,.nils,.nils] false)):=a1.set
 have T:=fun sb=>rq_int hcl (sb:=sb) (s:=s) (r:=r) (d:=d-1) (n:=2) om a2 hc (by simp [hr]) om hwl hlen om om (by rw [hws];exact hp)
 obtain ⟨C12,hC12⟩ : ∃ C,C=c40_12:=⟨_,rfl⟩
 rw [<- hC12] at T
 clear a1 a2 hp
 simp only [c40_14,c40_13,<- hC12,yB]
 refine Ga ?_
 exact T _
end
theorem jjd (x:Sp) (l:List Sp):jcE (x :: l)=jaD x++10 :: jcE l:=by simp [jcE]
theorem mvW_word {m:Mv} (f:MvFit m) : ∀ w∈mvW m,w.length<=20000:=by
 have h1:=jc6 (u:=m.wire.toNat) (m:=19) (by have:=f.w1;omega) (by have:=f.w1;omega)
 have h2:=jc6 (u:=m.n.toNat) (m:=19) (by have:=f.n1;omega) (by have:=f.n1;omega)
 have h3:=jg1 m.D
 have h4:=jex m.op
 have h5:=f.may.2.2.2.2.1
 intro w hw
 unfold mvW at hw
 rcases zP.1 hw with rfl | hw
 ·omega
 ·(repeat' split at hw)<;>simp only [zP,List.not_mem_nil,or_false] at hw<;>(first | (rcases hw with rfl | rfl<;>omega) | (subst hw;omega))
theorem join_len {c:UInt8} {k:Nat} : ∀ {ws:List (List UInt8)},(∀ w∈ws,w.length<=k)->(jaP c ws).length<=ws.length*(k+1)
 | [],_=>zO _
 | w :: ws,h=>by
  have h0:=h w Zd
  have : ∀ {ws:List (List UInt8)},(∀ w∈ws,w.length<=k)->(jb8 c ws).length<=ws.length*(k+1):=by
   intro ws
   induction ws with
   | nil=>intro _;exact zO _
   | cons u ws ih=>
    intro h
    have h1:=ih fun w hw=>h w (zj _ hw)
    have h2:=h u Zd
    rw [jdz,List.length_cons,ze,List.length_cons,Nat.succ_mul]
    omega
  have:=this (ws:=ws) fun w hw=>h w (zj _ hw)
  rw [jaP,ze,List.length_cons,Nat.succ_mul]
  omega
theorem jiY {x:Sp} (f:SpFit x) : ∀ w∈jbQ x,w.length<=20000:=by
 intro w hw
 unfold jbQ at hw
 rcases zP.1 hw with rfl | hw
 ·decide
 rcases zP.1 hw with rfl | hw
 ·have:=jc6 (u:=x.ticks.toNat) (m:=19) (by have:=f.t1;omega) (by have:=f.t1;omega)
  omega
 rcases zF.1 hw with hw | hw
 ·split at hw
  ·obtain rfl:=List.mem_singleton.1 hw;decide
  ·cases hw
 rcases zF.1 hw with hw | hw
 ·unfold ordW at hw
  split at hw
  ·cases hw
  ·rcases zP.1 hw with rfl | hw
   ·decide
   ·obtain rfl:=List.mem_singleton.1 hw
    have h1:=join_len (c:=44) (k:=20) (ws:=x.order.map fun n=>dec n.toNat) fun w hw=>by
     obtain ⟨n,hn,rfl⟩:=List.mem_map.1 hw
     have:=f.may.2.2.1 n hn
     have:=jc6 (u:=n.toNat) (m:=19) om om
     omega
    rw [List.length_map] at h1
    have:=f.may.2.1
    omega
 ·obtain ⟨l,hl,hw⟩:=List.mem_flatten.1 hw
  obtain ⟨m,hm,rfl⟩:=List.mem_map.1 hl
  exact mvW_word (f.mv m hm) w hw
theorem jiZ {x:Sp} (f:SpFit x):(jbQ x).length<=20000:=by
 have h1:=jer x.moves
 have h2:=f.may.1
 unfold jbQ ordW
 generalize (x.moves.map mvW).flatten=L at h1 ⊢
 simp only [List.length_cons,ze]
 split<;>split<;>simp only [List.length_cons,List.length_nil]<;>omega
theorem LF.line {x:Sp} (f:SpFit x):LF (jaD x):=by
 have h:=jdx f
 refine ⟨by omega,?_,?_⟩<;>rw [jd0 f]
 ·exact jiZ f
 ·exact jiY f
theorem text_par : ∀ {k:Nat} {s:List UInt8} {n:Nat} {l:List Sp},s.length<=k->parR n (jae 10 s)=(0,l)->jcE l=s/\(∀ x∈l,SpFit x)/\(l=[]\/n+l.length<=2000):=by
 intro k
 induction k with
 | zero=>
  intro s n l hk h
  obtain rfl:=zl.1 (Nat.le_zero.1 hk)
  rw [jdo] at h
  cases h
  exact ⟨rfl,fun x hx=>(by cases hx),.inl rfl⟩
 | succ k ih=>
  intro s n l hk h
  by_cases h0:s=[]
  ·subst h0
   rw [jdo] at h
   cases h
   exact ⟨rfl,fun x hx=>(by cases hx),.inl rfl⟩
  by_cases hz:cntB 10 s=0
  ·rw [jeH h0 (jdy hz)] at h
   cases h
  obtain ⟨w,r,rfl,hw,_,_⟩:=jcC (Nat.pos_of_ne_zero hz)
  rw [jeI hw] at h
  cases hs:jba w with
  | none=>rw [hs] at h;cases h
  | some x=>
   rw [hs] at h
   simp only at h
   split at h
   ·cases h
   next hn=>
   obtain ⟨fx,ew⟩:=jhL hs
   cases hp:parR (n+1) (jae 10 r) with
   | mk e xs=>
    rw [hp] at h
    cases e with
    | succ e=>cases h
    | zero=>
     have h:(0,[x]++xs)=(0,l):=h
     cases h
     obtain ⟨q1,q2,q3⟩:=ih (s:=r) (by simp at hk;omega) hp
     refine ⟨by rw [List.singleton_append,jjd,q1,ew],fun y hy=>?_,.inr ?_⟩
     ·rcases zP.1 hy with rfl | hy
      ·exact fx
      ·exact q2 y hy
     ·rcases q3 with rfl | q3
      ·simp;omega
      ·simp;omega
theorem ji5 {h:H} : ∀ {l:List Int} {cs:List V},ja3 (jcy .i64) h l cs->cs=ints l
 | [],_,e=>e
 | x :: l,_,⟨u,w,e,h1,h2⟩=>by
  obtain ⟨rfl,_⟩:=h1
  rw [e,ji5 h2];rfl
theorem ints_of {h:H} {l:List Int} {u:V} (r:jb2 60 (jcy .i64) h l [u]):(∃ ad c,u = .slice ad l.length c)/\(l.length<=60->VI h u l/\(l≠[] -> ∀ z,u.at?=some z->z<h.nx)):=by
 obtain ⟨a,c,e,h1,h2,h3⟩:=r
 cases e
 refine ⟨⟨a,_,rfl⟩,fun hB=>⟨⟨a,.fix c,rfl,fun e=>?_,h2,fun hn=>?_⟩,fun hn z hz=>?_⟩⟩
 ·obtain ⟨rfl,rfl⟩:=h3 e;exact ⟨rfl,rfl⟩
 ·obtain ⟨b,cs,q1,q2,q3,q4⟩:=h1 hB hn
  exact ⟨b,0,cs,true,q1,q2,q3,fun i x hi=>by rw [ji5 q4,zG];simp [hi]⟩
 ·obtain ⟨b,cs,rfl,q2,q3,q4⟩:=h1 hB hn
  cases hz;exact q2
theorem mvs4_of {h:H} {l:List (Int × Int × Int × List Int × Unit)} {u:V} (r:jb2 60 jkW h l [u]) : ∃ L:List MvX,L.length=l.length/\jlh 60 h u L/\(L.length<=60->At4 h (· < h.nx) MvX.V u L /\ ∀ x∈L,x.fit):=by
 obtain ⟨ad,c,e,h1,h2,h3⟩:=r
 cases e
 by_cases hl:l.length<=60
 ·by_cases hn:l=[]
  ·subst hn
   exact ⟨[],rfl,⟨⟨ad,.fix c,rfl⟩,fun _=>⟨fun x hx=>(by cases hx),ad,.fix c,rfl,fun e=>zC rfl e⟩⟩,fun _=>⟨⟨ad,.fix c,rfl,fun e=>⟨by rw [(h3 e).1],rfl⟩,zO _,fun e=>zC rfl e⟩,fun x hx=>(by cases hx)⟩⟩
  ·obtain ⟨b,cs,rfl,q1,q2,q3⟩:=h1 hl hn
   obtain ⟨L,l1,rfl,l3⟩:=jkf q3
   exact ⟨L,l1,⟨⟨_,.fix c,by rw [l1]⟩,fun _=>⟨fun x hx=>(l3 x hx).1,_,.fix c,by rw [l1],fun _=>⟨b,_,true,rfl,q1,q2,jeW (fun _=>rfl) L,fun i x hx=>jbU (fun _=>rfl) hx⟩⟩⟩,fun _=>⟨⟨_,.fix c,by rw [l1],fun e=>(by cases e),by show L.length<=c;omega,fun _=>⟨b,0,_,true,rfl,q1,q1,q2,fun i x hx=>by rw [zG];exact jbU (fun _=>rfl) hx⟩⟩,fun x hx=>(l3 x hx).2⟩⟩
 ·exact ⟨List.replicate l.length ⟨⟨0,0,0,[]⟩,.nils⟩,by simp,⟨⟨ad,.fix c,by simp⟩,fun hl'=>zC (by simpa using hl') hl⟩,fun hl'=>zC (by simpa using hl') hl⟩
abbrev jkT:H->Int × Bool × List Int × List (Int × Int × Int × List Int × Unit) × Unit->List V->Prop:=jcc (jcy .u64) (jcc jjY (jcc (jb2 60 (jcy .i64)) (jcc (jb2 60 jkW) jjX)))
def SpIn (h:H) (x:SpX):Prop:=SpOk h x/\(x.ml.length<=60->x.ol.length<=60->(∀ m∈x.ml,m.m.D.length<=1100)->StepAt h (· < h.nx) (· < h.nx) x)
theorem jjN {h:H} : ∀ {l:List (Int × Bool × List Int × List (Int × Int × Int × List Int × Unit) × Unit)} {cs:List V},ja3 jkT h l cs -> ∃ L:List SpX,L.length=l.length/\cs=(L.map SpX.V).flatten/\(∀ x∈L,SpIn h x) /\ ∀ x∈L,x.ml.length<=60 -> ∀ m∈x.ml,m.fit
 | [],_,e=>⟨[],rfl,e,fun x hx=>(by cases hx),fun x hx=>(by cases hx)⟩
 | y :: l,_,⟨u,w,e,h1,h2⟩=>by
  obtain ⟨L,l1,l2,l3,l4⟩:=jjN h2
  obtain ⟨_,_,rfl,⟨rfl,t0,t1⟩,_,_,rfl,hb,u3,w3,rfl,r3,u4,w4,rfl,r4,hw⟩:=h1
  obtain rfl:_=_:=hb
  obtain rfl:w4=[]:=hw
  have ⟨a3,c3,e3,_⟩:=r3
  have ⟨a4,c4,e4,_⟩:=r4
  subst e3 e4
  obtain ⟨i1,i2⟩:=ints_of r3
  obtain ⟨M,m1,m2,m3⟩:=mvs4_of r4
  refine ⟨⟨y.1,y.2.1,y.2.2.1,.slice a3 y.2.2.1.length (.fix c3),M,.slice a4 y.2.2.2.1.length (.fix c4)⟩ :: L,by simp [l1],by rw [e,l2];rfl,fun x hx=>?_,fun x hx hm=>?_⟩<;>rcases zP.1 hx with rfl | hx
  ·refine ⟨⟨⟨i1,fun hl=>(i2 hl).1⟩,m2,t0,t1⟩,fun hm ho hd=>⟨⟨(i2 ho).1,(i2 ho).2⟩,(m3 hm).1,fun m hmm=>?_,t0,t1⟩⟩
   obtain ⟨a,c,e,g⟩:=(m2.2 hm).1 m hmm
   have hB:=g (hd m hmm)
   have hv:VB h m.dv m.m.D:=⟨a,c,e,hB⟩
   exact ⟨hv,fun hn z hz=>hv.lt hn hz⟩
  ·exact l3 x hx
  ·exact (m3 hm).2
  ·exact l4 x hx hm
def SpsN (h:H) (v:V) (l:List SpX):Prop := ∃ ad c,v = .slice ad l.length c/\(l.length<=2000->(∀ x∈l,SpIn h x)/\At4 h (· < h.nx) SpX.V v l)
theorem spsN_of {h:H} {l:List (Int × Bool × List Int × List (Int × Int × Int × List Int × Unit) × Unit)} {u:V} (r:jb2 2000 jkT h l [u]) : ∃ L:List SpX,SpsN h u L/\jlg h u L/\(L.length<=2000 -> ∀ x∈L,x.ml.length<=60 -> ∀ m∈x.ml,m.fit):=by
 obtain ⟨ad,c,e,h1,h2,h3⟩:=r
 cases e
 by_cases hl:l.length<=2000
 ·by_cases hn:l=[]
  ·subst hn
   exact ⟨[],⟨ad,.fix c,rfl,fun _=>⟨fun x hx=>(by cases hx),ad,.fix c,rfl,fun e=>⟨by rw [(h3 e).1],rfl⟩,zO _,fun e=>zC rfl e⟩⟩,⟨ad,.fix c,rfl,fun _=>⟨fun x hx=>(by cases hx),fun e=>zC rfl e⟩⟩,fun _ x hx=>(by cases hx)⟩
  ·obtain ⟨b,cs,rfl,q1,q2,q3⟩:=h1 hl hn
   obtain ⟨L,l1,rfl,l3,l4⟩:=jjN q3
   exact ⟨L,⟨_,.fix c,by rw [l1],fun _=>⟨l3,_,.fix c,by rw [l1],fun e=>(by cases e),by show L.length<=c;omega,fun _=>⟨b,0,_,true,rfl,q1,q1,q2,fun i x hx=>by rw [zG];exact jbU (fun _=>rfl) hx⟩⟩⟩,
    ⟨_,.fix c,by rw [l1],fun _=>⟨fun x hx=>(l3 x hx).1,fun _=>⟨b,_,true,rfl,q1,q2,jeW (fun _=>rfl) L,fun i x hx=>jbU (fun _=>rfl) hx⟩⟩⟩,fun _=>l4⟩
 ·exact ⟨List.replicate l.length ⟨0,false,[],.nils,[],.nils⟩,⟨ad,.fix c,by simp,fun hl'=>zC (by simpa using hl') hl⟩,⟨ad,.fix c,by simp,fun hl'=>zC (by simp at hl';omega) hl⟩,fun hl'=>zC (by simpa using hl') hl⟩
section
variable {h h':H}
end
theorem SpsN.at {h:H} {v:V} {l:List SpX} (a:SpsN h v l) (hl:l.length<=2000) (hm : ∀ x∈l,x.sp.may):jbF h (· < h.nx) (· < h.nx) v l:=by
 obtain ⟨ad,c,e,g⟩:=a
 refine ⟨(g hl).2,fun x hx=>((g hl).1 x hx).2 ?_ ?_ fun m hmm=>?_⟩
 ·have:=(hm x hx).1;simp [SpX.sp] at this;omega
 ·have:=(hm x hx).2.1;simp [SpX.sp] at this;omega
 ·have:=(hm x hx).2.2.2 m.m (List.mem_map.2 ⟨m,hmm,rfl⟩)
  have:=this.2.2.2.2.1
  omega
theorem SpsN.atF {h:H} {v:V} {l:List SpX} (a:SpsN h v l) (hf:fewS l):jbF h (· < h.nx) (· < h.nx) v l:=by
 obtain ⟨ad,c,e,g⟩:=a
 have hl:=hf.len
 exact ⟨(g om).2,fun x hx=>((g om).1 x hx).2 (hf.each x hx).1 (hf.each x hx).2.1 (hf.each x hx).2.2⟩
section
variable {cl:Nat->Call} (hcl:Sem cl)
include hcl
end
theorem take_last {s:List UInt8} {fr:Nat} : (s.take s.length).drop fr=s.drop fr:=by rw [List.take_length]
section
variable {cl:Nat->Call} (hcl:Sem cl) {d:Nat} {h:H} {s:List UInt8}
include hcl
theorem rq_Parse (hd:8<=d) (hs:s.length<=12000) :
  ∃ v h',cl d (.fn 12) [.str s] h=some (v,h')/\Old h h'/\((∃ XL sv,parR 0 (jae 10 s)=(0,XL.map SpX.sp)/\v = .tup [sv,.i 0,.i 0]/\jbF h' (h.nx <= ·) (h.nx <= ·) sv XL)\/(∃ k:Nat,parR 0 (jae 10 s)=(k+1,[])/\v = .tup [.nils,.i ((k+1:Nat):Int),.i 121])):=by
 refine aT hcl ?_
 obtain ⟨C3,hC3⟩ : ∃ C,C=c12_3:=⟨_,rfl⟩
 obtain ⟨C5,hC5⟩ : ∃ C,C=c12_5:=⟨_,rfl⟩
 simp only [c12,c12_6,c12_4,<- hC3,<- hC5,yB,yC,yF]
 generalize hR:parR 0 (jae 10 s)=R
 refine qx ?_
 refine zW (fun j e k=>∃ (i fr:Nat) (XL:List SpX) (sv:V),j=s.length-i/\i<=s.length/\fr<=i/\(10:UInt8) ∉ (s.take i).drop fr/\XL.length<=i/\e=[(0,.str s),(5,sv),(6,.i (XL.length:Int)),(7,.i (fr:Int)),(8,.i (i:Int))]/\Row h.nx k 4 sv XL.length (XL.map SpX.V).flatten/\(∀ x∈XL,StepAt k (h.nx <= ·) (h.nx <= ·) x)/\Old h k/\parU (XL.map SpX.sp) (parR XL.length (jae 10 (s.drop fr)))=R)
  (k:=s.length) Ze ⟨0,0,[],.nils,by omega,by omega,zn _,by simp,zn _,rfl,Row.nil _ _ _,(fun x hx=>by cases hx),zX _,by rw [zi];exact hR ▸ jiF⟩ ?_
 clear hR
 rintro _ _ k ⟨i,fr,XL,sv,rfl,hi,hfi,h10,hXL,rfl,row,st,old,hR⟩ f ih
 have hi1:(i:Int)+1=((i+1:Nat):Int):=by omega
 have hL1:(XL.length:Int)+1=((XL.length+1:Nat):Int):=by omega
 by_cases hlt:i<s.length
 case neg=>
  obtain rfl:i=s.length:=by omega
  rw [take_last] at h10
  clear ih
  by_cases hfr:fr<s.length
  ·have hne:s.drop fr≠[]:=fun e=>by have:=congrArg List.length e;simp at this;omega
   rw [jeH hne h10] at hR
   have hR':(XL.length+1,[])=R:=hR
   subst hR'
   clear st row
   refine qx ?_
   subst hC5
   refine qx ?_
   rw [hL1]
   exact ⟨old,.inr ⟨_,rfl,rfl⟩⟩
  ·rw [List.drop_eq_nil_of_le om,jdo] at hR
   have hR':(0,XL.map SpX.sp)=R:=by rw [<- hR];simp [parU]
   subst hR'
   have A:jbF k (h.nx <= ·) (h.nx <= ·) sv XL:=⟨At4.of_row (fun _=>rfl) row,st⟩
   clear st row
   refine qx ?_
   subst hC5
   refine qx ?_
   exact ⟨old,.inl ⟨XL,sv,rfl,rfl,A⟩⟩
 obtain ⟨x,hx⟩ : ∃ x,s[i]?=some x:=⟨_,za hlt⟩
 obtain ⟨C2,hC2⟩ : ∃ C,C=c12_2:=⟨_,rfl⟩
 rw [hC3] at ih ⊢
 simp only [c12_3,<- hC2,yJ] at ih ⊢
 clear hC3
 by_cases hc:x=10
 case neg=>
  have hc1 : ¬ ((x.toNat:Nat):Int)=10:=fun e=>hc (UInt8.toNat.inj (by have e2:(10:UInt8).toNat=10:=rfl;omega))
  have A8:=ih (s.length-(i+1)) om _ k ⟨i+1,fr,XL,sv,rfl,by omega,by omega,by
   rw [jiv hx hfi]
   intro hm
   rcases zF.1 hm with hm | hm
   ·exact h10 hm
   ·exact hc (List.mem_singleton.1 hm).symm,by omega,rfl,row,st,old,hR⟩
  clear ih st row
  refine qx ?_
  refine zY rfl rfl hx ?_
  refine qx ?_
  rw [hi1]
  exact A8
 have hc1:((x.toNat:Nat):Int)=10:=by rw [hc];rfl
 have hds:=jiO hx hfi
 rw [hc] at hds
 have hsl:((s.take i).drop fr).length<=12000:=by rw [List.length_drop,List.length_take];omega
 rw [hds,jeI h10] at hR
 obtain ⟨v,k1,e1,xs,b,rfl,o1,hl4,h14,hy,hno⟩:=rq_read hcl (d:=d-1) (h:=k) (s:=(s.take i).drop fr) om hsl
 generalize hw:(s.take i).drop fr=w at *
 have o2:Old k1 ((k1.new (.cells [.int .u64 0,.bool false,.nils,.nils] false)).set k1.nx (.cells xs false)):=(zX k1).new.set (zn _)
 have gm:((k1.new (.cells [.int .u64 0,.bool false,.nils,.nils] false)).set k1.nx (.cells xs false)).get k1.nx=some (.cells xs false):=jab _
 have hset:jal ([.int .u64 0,.bool false,.nils,.nils]:List V) 0 xs=xs:=by
  match xs,hl4 with
  | [p,q,r,s],_=>rfl
 obtain ⟨C1,hC1⟩ : ∃ C,C=c12_1:=⟨_,rfl⟩
 rw [hC2] at ih ⊢
 simp only [c12_2,<- hC1,yF] at ih ⊢
 clear hC2
 have hkn:=o1.1
 have hko:=old.1
 refine qx ?_
 refine zY rfl rfl hx ?_
 refine qx ?_
 rw [hL1]
 refine Ops.strMid rfl rfl rfl hfi om ?_
 rw [hw]
 refine qx ?_
 refine zcu (ob := .cells [.int .u64 0,.bool false,.nils,.nils] false) (mk:=fun b=>.p b 0) rfl rfl ?_
 refine zct (n:=4) (o:=0) (vs:=xs) rfl rfl hl4 h14 (jac _) Zd ?_
 rw [hset]
 generalize hG:(k1.new (.cells [.int .u64 0,.bool false,.nils,.nils] false)).set k1.nx (.cells xs false)=G at o2 gm ⊢
 have hGn:G.nx=k1.nx+1:=by rw [<- hG];simp
 have o3:=o1.trans o2
 have oG:=old.trans o3
 clear hG e1
 refine qx ?_
 rw [hC1] at ih ⊢
 clear hC1
 cases b with
 | false=>
  have hso:=je5 (hno rfl)
  rw [hso] at hR
  have hR':(XL.length+1,[])=R:=hR
  subst hR'
  clear ih st row hy hno
  refine qx ?_
  exact ⟨oG,.inr ⟨_,rfl,rfl⟩⟩
 | true=>
  obtain ⟨y,rfl,hA,hfit,hls⟩:=hy rfl
  have hso:jba w=some y.sp:=by rw [<- hls];exact je6 hfit
  rw [hso] at hR
  simp only at hR
  by_cases hgt:2000<XL.length+1
  ·have hgt':((XL.length+1:Nat):Int)>2000:=by omega
   rw [zw hgt] at hR
   have hR':(XL.length+1,[])=R:=hR
   subst hR'
   clear ih st row hy hno hA
   refine qx ?_
   exact ⟨oG,.inr ⟨_,rfl,rfl⟩⟩
  have hgt' : ¬ ((XL.length+1:Nat):Int)>2000:=by omega
  rw [zt hgt,jkK] at hR
  have st2 : ∀ x∈XL++[y],StepAt G (h.nx <= ·) (h.nx <= ·) x:=fun x hx=>by
   rcases zF.1 hx with hx | hx
   ·exact (st x hx).old o3
   ·obtain rfl:=List.mem_singleton.1 hx
    exact (hA.old o2).keep (zn _) (fun j _ hj=>⟨rfl,by omega⟩) fun j _ hj=>⟨rfl,by omega⟩
  have hss : ∀ x∈XL,(∃ a c,x.ov = .slice a x.ol.length c) /\ ∃ a c,x.mv = .slice a x.ml.length c:=fun x hx=>by
   have A:=st x hx
   obtain ⟨a,c,e,_⟩:=id A.ov.1
   obtain ⟨a',c',e',_⟩:=id A.mv
   exact ⟨⟨a,c,e⟩,a',c',e'⟩
  have row2:Row h.nx G 4 sv XL.length (XL.map SpX.V).flatten:=row.keep o3.1 fun z hz=>o3.2 z (row.at_ge hz).2
  have hGk:=o3.1
  clear st row hy hno hA
  refine qx ?_
  refine zcw rfl gm Zd ?_
  rw [show ((y.V).drop 0).take 4=y.V from rfl]
  refine Ops.push (N:=h.nx) (n:=XL.length) (new:=y.V) rfl rfl rfl h14 om rfl rfl row2 om om om fun w g3 row3 hx4 hz4 hk4=>?_
  have hr:((XL++[y]).map SpX.V).flatten=(XL.map SpX.V).flatten++y.V:=by simp
  have hln:(XL++[y]).length=XL.length+1:=by simp
  have old3:Old h g3:=oG.trans' hx4 fun j hj=>hk4 j om fun e=>by have:=(row2.at_ge e).1;omega
  refine qx ?_
  rw [hi1]
  refine ih (s.length-(i+1)) om _ _ ⟨i+1,i+1,XL++[y],w,rfl,by omega,zn _,by rw [List.drop_eq_nil_of_le (by rw [List.length_take];omega)];simp,by omega,by rw [hln],by rw [hr,hln];exact row3,fun x hx=>?_,old3,by rw [List.map_append,hln];exact hR⟩
  have hB:=(st2 x hx).ne row2 hss
  have hkk : ∀ j,j<G.nx->(h.nx<=j/\sv.at?≠some j)->g3.get j=G.get j/\h.nx<=j:=fun j hj hj2=>⟨hk4 j hj hj2.2,hj2.1⟩
  exact hB.keep hx4 hkk hkk
end
section
variable {call:Call} {fuel base:Nat} {ops:List Ins} {keep:List Nat} {K:List Fr} {e:Env} {h:H} {Q:Post} {ix:Nat} {dst at_:Option Nat}
theorem Ops.saddL {x y:Opd} {a b:List UInt8} (hx:x.ev e=some (.str a)) (hy:y.ev e=some (.str b)) (hl:a.length+b.length<=1000000000) (k:Ops call fuel base ops keep K (layv e dst (.str (a++b))) h Q) :
  Ops call fuel base (⟨ix,dst,.bin .add x y,none,at_,[]⟩ :: ops) keep K e h Q:=by
 refine Ops.pure rfl ?_ k
 have h2:Nat.ble (a.length+b.length) (2 ^ 62)=true:=Nat.ble_eq_true_of_le om
 simp only [I.pure,hx,hy,binOp,jjL,h2,cond_true]
end
section
variable {cl:Nat->Call} (hcl:Sem cl) {d:Nat} {h:H} {P Q:Nat->Prop}
include hcl
theorem rq_Text {v:V} {l:List SpX} (hd:6<=d) (A:jbF h P Q v l) (hl:l.length<=100) (f:(∀ x∈l,x.sp.may) -> ∀ x∈l,SpFit x.sp) :
  ∃ h',cl d (.fn 10) [v] h=some (if ∀ x∈l,x.sp.may then .tup [.str (jcE (l.map SpX.sp)),.i 0] else .tup [.str [],.i 120],h')/\Old h h':=by
 obtain ⟨h1,e1,o1⟩:=rm_All hcl (d:=d-1) (h:=h) om A om
 obtain ⟨ad,c,rfl,_,_,g⟩:=id A.1
 by_cases hm : ∀ x∈l,x.sp.may
 case neg=>
  rw [zt hm]
  rw [zx hm] at e1
  refine ja5 (aT hcl ?_)
  clear A g f
  refine qx ?_
  exact ⟨rfl,o1⟩
 rw [zw hm]
 rw [zA hm] at e1
 have hf:=f hm
 refine ja5 (aT hcl ?_)
 obtain ⟨C1,hC1⟩ : ∃ C,C=c10_1:=⟨_,rfl⟩
 simp only [c10,c10_3,c10_2,<- hC1,yB,yH]
 refine qx ?_
 refine zW (fun j e k=>∃ (i:Nat),j=l.length-i/\i<=l.length/\e=[(0,.slice ad l.length c),(5,.str (jcE ((l.map SpX.sp).take i))),(6,.i (i:Int))]/\Old h k)
  (k:=l.length) Ze ⟨0,by omega,by omega,rfl,o1⟩ ?_
 rintro _ _ k ⟨i,rfl,hi,rfl,old⟩ fu ih
 rw [hC1] at ih ⊢
 simp only [c10_1,c10_0,yB,yG] at ih ⊢
 clear hC1
 by_cases hlt:i<l.length
 case neg=>
  obtain rfl:i=l.length:=by omega
  rw [show (l.map SpX.sp).take l.length=l.map SpX.sp from zf Zd]
  clear ih A g
  refine qx ?_
  exact ⟨rfl,old⟩
 obtain ⟨x,hx⟩:=jdb (l:=l) (i:=i) hlt
 have hxm:=zb hx
 obtain ⟨b,o,cs,ro,rfl,q1,_,q3,q4⟩:=g (by intro e;rw [e] at hlt;simp at hlt)
 have q5:=q4 i x hx
 have hl4:=je2 q5 rfl
 have hfx:=hf x hxm
 have hmx:=hm x hxm
 have gb:k.get b=some (.cells cs ro):=by rw [old.2 b q1,q3]
 obtain ⟨k1,e2,o2⟩:=jfR hcl (d:=d-1) (h:=k) om ((A.2 x hxm).old old) ⟨by have:=hmx.1;omega,by have:=hmx.2.1;omega,fun m hmm=>by have:=(hmx.2.2.2 m hmm).2.2.2.2.1;omega⟩
 have hlen:=jdx hfx
 have htl:=je1 (l:=(l.map SpX.sp).take i) fun y hy=>by
  obtain ⟨z,hz,rfl⟩:=List.mem_map.1 (List.mem_of_mem_take hy)
  exact hf z hz
 rw [List.length_take,List.length_map] at htl
 have hx':(l.map SpX.sp)[i]?=some x.sp:=by rw [List.getElem?_map,hx];rfl
 have hts:=jfv hx'
 have hi1:(i:Int)+1=((i+1:Nat):Int):=by omega
 have hmin:min i l.length<=100:=by omega
 have hq:(cs.drop (o+(i:Int).toNat*4)).take 4=x.V:=by rw [zq];exact q5
 have hbd:o+(i:Int).toNat*4+4<=cs.length:=by rw [zq];exact hl4
 clear A g hm hf
 refine qx ?_
 refine zcw rfl gb hbd ?_
 rw [hq]
 refine qx ?_
 refine Ops.saddL rfl rfl om ?_
 refine qx ?_
 refine Ops.saddL rfl rfl Zc ?_
 refine qx ?_
 rw [hi1,List.append_assoc,<- hts]
 exact ih (l.length-(i+1)) om _ _ ⟨i+1,rfl,by omega,rfl,old.trans o2⟩
end
section
variable {P:Sp->Prop} {rd:St->Bool} {fv:Bool}
end
section
variable {Q:List Int->Prop} {rd:St->Bool} {fv:Bool}
end
section
variable {cl:Nat->Call} (hcl:Sem cl) {d:Nat} {h:H}
include hcl
theorem rm_Same {P1 Q1 P2 Q2 P3 P4:Nat->Prop} {v1 v2:V} {l1 l2:List SpX} (hd:3<=d) (a1:At4 h P1 SpX.V v1 l1) (s1 : ∀ x∈l1,StepAt h P3 Q1 x) (a2:At4 h P2 SpX.V v2 l2) (s2 : ∀ x∈l2,StepAt h P4 Q2 x) (hsp:l1.map SpX.sp=l2.map SpX.sp) (hf : ∀ x∈l1.map SpX.sp,x.few) (hl:l1.length<=2000) :
  ∃ h',cl d (.fn 13) [v1,v2] h=some (.bool true,h')/\Old h h':=by
 have hln:l2.length=l1.length:=by have:=congrArg List.length hsp;simpa using this.symm
 obtain ⟨ad1,c1,rfl,_,_,g1⟩:=a1
 obtain ⟨ad2,c2,rfl,_,_,g2⟩:=a2
 have hne : ¬ ((l1.length:Nat):Int)≠((l2.length:Nat):Int):=fun e=>e (by rw [hln])
 refine ja5 (aT hcl ?_)
 refine qx ?_
 refine zW (fun m e g=>∃ i:Nat,m=l1.length-i/\i<=l1.length/\e=[(0,.slice ad1 l1.length c1),(1,.slice ad2 l2.length c2),(5,.i (i:Int))]/\Old h g)
  (k:=l1.length) Ze ⟨0,rfl,by omega,rfl,zX h⟩ ?_
 rintro _ _ g ⟨i,rfl,hi,rfl,og⟩ n' ih
 by_cases hlt:(i:Int)<l1.length
 case neg=>
  clear ih g1 g2 s1 s2 hf
  refine qx ?_
  exact ⟨rfl,og⟩
 obtain ⟨x,hx⟩:=jdb (l:=l1) (i:=i) om
 obtain ⟨y,hy⟩:=jdb (l:=l2) (i:=i) om
 have hxy:x.sp=y.sp:=by
  have h1:(l1.map SpX.sp)[i]?=some x.sp:=by rw [List.getElem?_map,hx];rfl
  rw [hsp,List.getElem?_map,hy] at h1
  exact (Option.some.inj h1).symm
 have hxm:=zb hx
 have hym:=zb hy
 obtain ⟨b1,o1,cs1,r1,rfl,lb1,_,gb1,hc1⟩:=g1 (by intro e;rw [e] at hx;simp at hx)
 obtain ⟨b2,o2,cs2,r2,rfl,lb2,_,gb2,hc2⟩:=g2 (by intro e;rw [e] at hy;simp at hy)
 have x4:(cs1.drop (o1+(i:Int).toNat*4)).take 4=x.V:=by rw [zq];exact hc1 i x hx
 have y4:(cs2.drop (o2+(i:Int).toNat*4)).take 4=y.V:=by rw [zq];exact hc2 i y hy
 have xl:=je2 x4 rfl
 have yl:=je2 y4 rfl
 have gb1':g.get b1=some (.cells cs1 r1):=by rw [og.2 b1 lb1,gb1]
 have gb2':g.get b2=some (.cells cs2 r2):=by rw [og.2 b2 lb2,gb2]
 have hfx:=hf x.sp (List.mem_map_of_mem hxm)
 obtain ⟨h3,e3,o3⟩:=jfR hcl (d:=d-1) om ((s1 x hxm).old og) hfx
 obtain ⟨h4,e4,o4⟩:=jfR hcl (d:=d-1) om ((s2 y hym).old (og.trans o3)) (by rw [<- hxy];exact hfx)
 rw [<- hxy] at e4
 have gb2'':h3.get b2=some (.cells cs2 r2):=by rw [o3.2 b2 (zo lb2 og.1),gb2']
 have hi1:(i:Int)+1=((i+1:Nat):Int):=by omega
 have hlt2:i<l2.length:=by omega
 clear g1 g2 s1 s2 hf hc1 hc2 hne
 refine qx ?_
 refine zcw rfl gb1' xl ?_
 rw [x4]
 refine qx ?_
 refine zcw rfl gb2' yl ?_
 rw [y4]
 refine Ops.callf_chk rfl e3 (chk_loadN rfl gb2'' yl y4 rfl jkv) ?_
 repeat' (first|refine qxy ?_|(refine zsp ?_ ?_<;>intro _)|fail)
 ·next hh=>simp at hh
 rw [hi1]
 exact ih (l1.length-(i+1)) om _ _ ⟨i+1,rfl,by omega,rfl,og.trans (o3.trans o4)⟩
variable {ow:Nat->Nat} {ro dat:Nat->Prop} {p sb:Nat} {bs:Option Nat} {X:Nat->Prop} {L:List SpX} {o:List Int}
end
section
variable {cl:Nat->Call} (hcl : ∀ d,cl d=ja0 prog fuel d)
include hcl
theorem mt_read {g:H} {s:List UInt8} {T:List UInt8} {E:Int} {u v:V} (gv:Gv g) (hs:s.length<=10000) :
  Run (cl 30) fuel c3_2 [] [(1,.str s),(8,.str T),(9,.i E),(10,.str T),(11,.i E)] g (Fin c3.res fun v _=>v = .bool true):=by
 obtain ⟨v1,h1,e1,o1,hor1⟩:=ps_Parse (.inl hcl) (d:=30) gv om (TF.of (s:=s) om)
 obtain ⟨v2,h2,e2,o2,hor2⟩:=rq_Parse (cl:=cl) (.inl hcl) (d:=30) (h:=h1) (s:=s) om om
 have hT:(T == T)=true:=by simp
 rcases hor1 with ⟨XL,sv,hp,rfl,A⟩ | ⟨k,hp,rfl⟩
 ·rcases hor2 with ⟨YL,sw,hq,rfl,B⟩ | ⟨k,hq,rfl⟩
  ·rw [hp] at hq
   have hsp:XL.map SpX.sp=YL.map SpX.sp:=congrArg Prod.snd hq
   obtain ⟨q1,q2,q3⟩:=text_par (zn _) hp
   have hl:XL.length<=2000:=by
    rcases q3 with q3 | q3
    ·have:=congrArg List.length q3
     rw [List.length_map,List.length_nil] at this;omega
    ·rw [List.length_map] at q3;omega
   have hln:(XL.length:Int)=(YL.length:Int):=by have:=congrArg List.length hsp;simp at this;omega
   obtain ⟨h3,e3,o3⟩:=rm_Same (.inl hcl) (d:=30) (h:=h2) om (A.old o2).1 (A.old o2).2 B.1 B.2 hsp (fun x hx=>by
    have k:=(q2 x hx).may
    exact ⟨by have:=k.1;omega,by have:=k.2.1;omega,fun m hmm=>by have:=(k.2.2.2 m hmm).2.2.2.2.1;omega⟩) hl
   obtain ⟨ad,c,rfl,_⟩:=id A.1
   obtain ⟨ad',c',rfl,_⟩:=id B.1
   clear A B gv hp hq hsp q1 q2 q3
   simp only [c3_2,c3_1,c3_0,yA,yB]
   refine qx ?_
   rfl
  ·rw [hp] at hq;cases hq
 ·rcases hor2 with ⟨YL,sw,hq,rfl,B⟩ | ⟨k',hq,rfl⟩
  ·rw [hp] at hq;cases hq
  ·rw [hp] at hq
   obtain rfl:k=k':=by have:=congrArg Prod.fst hq;simpa using this
   clear gv hp hq
   simp only [c3_2,c3_1,c3_0,yA,yB]
   refine qx ?_
   rfl
theorem jgr {h0:H} (hnx:h0.nx=124010) (_hwf : ∀ b,124010<=b->h0.get b=none) (l2:h0.get 2=some (.cells jar true)) (l4:h0.get 4=some (.cells jaO true)) (l3:h0.get 3=some (.cells jaF true)) (l0:h0.get 0=some (.cells jay true))
  {x0:List (Int × Bool × List Int × List (Int × Int × Int × List Int × Unit) × Unit)} {u1:V} (rs:jb2 2000 jkT h0 x0 [u1]) {s:List UInt8} {u2:V} (ra:jkH h0 s [u2]) :
  ∃ h',cl 31 (.fn 3) [u1,u2] h0=some (.bool true,h'):=by
 suffices q : ∃ v h',cl 31 (.fn 3) [u1,u2] h0=some (v,h')/\v = .bool true by
  obtain ⟨_,h',e,rfl⟩:=q;exact ⟨h',e⟩
 obtain ⟨⟨⟩,_⟩:=ra
 have hc:Sem cl := .inl hcl
 obtain ⟨S,hS,hT,hb⟩:=spsN_of rs
 have gv:Gv h0:=⟨⟨by show 2<h0.nx;omega,_,_,l2,by kernel_rfl⟩,by show 3<h0.nx;omega,by show 4<h0.nx;omega,by show 0<h0.nx;omega,by unfold jaR;rw [show h0.get gS=_ from l3];rfl,by unfold jaR;rw [show h0.get gR=_ from l4];rfl,true,l0⟩
 obtain ⟨gr,eg,hg⟩:=gs_ok hc (d:=30) om hT
 obtain ⟨ads,cs,rfl,_⟩:=id hT
 clear rs hT l3 l4 l2 l0
 refine at_ hc om rfl rfl rfl ?_
 obtain ⟨C9,hC9⟩ : ∃ C,C=c3_9:=⟨_,rfl⟩
 simp only [c3,c3_10,<- hC9,yB,yJ]
 rcases hg with rfl | ⟨rfl,hfs⟩
 ·clear hS gv hb
  refine qx ?_
  rfl
 by_cases ka:(s.length:Int)>10000
 ·clear hS gv hb
  refine qx ?_
  rfl
 have hSA:=hS.atF hfs
 have hl:=hfs.len
 have hfit:(∀ x∈S,x.sp.may) -> ∀ x∈S,SpFit x.sp:=fun hm x hx=>by
  have A:=hSA.2 x hx
  refine ⟨hm x hx,A.t0,Int.lt_of_le_of_lt A.t1 (by decide),fun m hmm=>?_⟩
  obtain ⟨y,hy,rfl⟩:=List.mem_map.1 hmm
  obtain ⟨f1,f2⟩:=hb om x hx (hfs.each x hx).1 y hy
  exact ⟨(hm x hx).2.2.2 _ hmm,f1,f2⟩
 clear hS hb hfs
 obtain ⟨C8,hC8⟩ : ∃ C,C=c3_8:=⟨_,rfl⟩
 obtain ⟨C7,hC7⟩ : ∃ C,C=c3_7:=⟨_,rfl⟩
 rw [hC9]
 simp only [c3_9,<- hC8,<- hC7,yC]
 clear hC9
 refine qx ?_
 refine zW (fun j e k=>∃ (i:Nat),j=S.length-i/\i<=S.length/\e=[(0,.slice ads S.length cs),(1,.str s),(27,.i (S.length:Int)),(28,.i (i:Int))]/\Old h0 k)
  (k:=S.length) Ze ⟨0,by omega,by omega,rfl,zX _⟩ ?_
 rintro _ _ k ⟨i,rfl,hi,rfl,old⟩ fu ih
 have hAk:=hSA.old old
 by_cases hlt:i<S.length
 case neg=>
  obtain rfl:i=S.length:=by omega
  obtain ⟨T,E,hTE⟩ : ∃ T E,(if ∀ x∈S,x.sp.may then V.tup [.str (jcE (S.map SpX.sp)),.i 0] else .tup [.str [],.i 120]) = .tup [.str T,.i E]:=by
   by_cases hm : ∀ x∈S,x.sp.may
   ·rw [zw hm];exact ⟨_,_,rfl⟩
   ·rw [zt hm];exact ⟨_,_,rfl⟩
  have e1:=tx_Text hcl (d:=30) om (gv.old old) hAk om hfit
  obtain ⟨k1,e2,o2⟩:=rq_Text hc (d:=30) (h:=k) om hAk hl hfit
  rw [hTE] at e1 e2
  have R:=mt_read hcl (T:=T) (E:=E) (u := .nils) (v := .nils) ((gv.old old).old o2) (show s.length<=10000 by omega)
  obtain ⟨C2,hC2⟩ : ∃ C,C=c3_2:=⟨_,rfl⟩
  rw [<- hC2] at R
  clear ih hAk hSA gv hfit hTE
  rw [hC7]
  simp only [c3_7,yB]
  refine qx ?_
  rw [hC8]
  simp only [c3_8,c3_3,<- hC2,yB]
  refine qx ?_
  exact R
 obtain ⟨x,hx⟩:=jdb (l:=S) (i:=i) hlt
 have hxm:=zb hx
 have Ax:=hAk.2 x hxm
 obtain ⟨ad',c',e,_,_,g⟩:=id hAk.1
 cases e
 obtain ⟨b,o,ces,ro,rfl,q1,_,q3,q4⟩:=g (by intro e;rw [e] at hlt;simp at hlt)
 have q5:=q4 i x hx
 have hl4:=je2 q5 rfl
 obtain ⟨k1,e1,o1⟩:=jfD hc (d:=30) (h:=k) om Ax
 obtain ⟨k2,e2,o2⟩:=jjV hc (d:=30) (h:=k1) om (Ax.old o1)
 have gb1:k1.get b=some (.cells ces ro):=by rw [o1.2 b q1,q3]
 have hi1:(i:Int)+1=((i+1:Nat):Int):=by omega
 have hq:(ces.drop (o+(i:Int).toNat*4)).take 4=x.V:=by rw [zq];exact q5
 have hbd:o+(i:Int).toNat*4+4<=ces.length:=by rw [zq];exact hl4
 have A8:=ih (S.length-(i+1)) om _ k2 ⟨i+1,rfl,by omega,rfl,(old.trans o1).trans o2⟩
 clear ih hAk hSA g Ax hfit
 rw [hC7] at A8 ⊢
 simp only [c3_7,c3_6,c3_5,c3_4,yB,yI] at A8 ⊢
 clear hC7
 by_cases hm:x.sp.may
 ·rw [zw hm] at e1
  rw [zA hm] at e2
  refine qx ?_
  refine zcw rfl q3 hbd ?_
  rw [hq]
  refine qx ?_
  refine zcw rfl gb1 hbd ?_
  rw [hq]
  refine qx ?_
  rw [hi1]
  exact A8
 ·rw [zt hm] at e1
  rw [zx hm] at e2
  refine qx ?_
  refine zcw rfl q3 hbd ?_
  rw [hq]
  refine qx ?_
  refine zcw rfl gb1 hbd ?_
  rw [hq]
  refine qx ?_
  rw [hi1]
  exact A8
end
end Am.Sigs
