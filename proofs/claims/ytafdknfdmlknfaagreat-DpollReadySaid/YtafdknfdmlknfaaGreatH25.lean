/- Our own library, part 25. -/
import Derived.Test.YtafdknfdmlknfaaGreatH24
import Derived.Test.YtafdknfdmlknfaaGreatH20
import Derived.Test.YtafdknfdmlknfaaGreatH23
set_option maxHeartbeats 8000000
set_option maxRecDepth 800
set_option linter.all false
namespace Am.Sigs
open Am Go
section
variable {cl:Nat->Call} {d D R q:Nat} {A B x:Bool} {r:Rdy} {g:H} {Q:Post} {K:List Fr} {v3 v9 v11 v14 v18 lv v:V} {n m pl wv:Int} {cs:List V} {ro:Bool} {cp:Cap}
theorem rk_in (hW:cl d (.fn 16) [.p D 0,.i m] g=some (.i (ja8 A B),g)) (hR:g.get R=some (.cells r.cells false))
  (k : ∀ sb,Run (cl d) fuel c3_1 K ((3,v3) :: (9,v9) :: (11,v11) :: (14,v14) :: (16,.p D 0) :: (18,v18) :: (20,lv) :: (24,.i n) :: (25,.i m) :: (26,.p R 0) :: (27,.i (ja8 (A&&inR r) false)) :: sb) g Q) :
  Run (cl d) fuel c3_2 K [(3,v3),(9,v9),(11,v11),(14,v14),(16,.p D 0),(18,v18),(20,lv),(24,.i n),(25,.i m),(26,.p R 0),(27,.i 0)] g Q:=by
 obtain ⟨C,hC⟩ : ∃ C,C=c3_1:=⟨_,rfl⟩
 rw [<- hC] at k
 simp only [c3_2,<- hC,yB]
 obtain ⟨op,inn,out,hup,err,rd,wr⟩:=r
 simp only [Rdy.cells] at hR
 clear hC
 cases A
 ·cases B <;>
  ·repeat' (first|refine qxy ?_|(refine zsp ?_ ?_<;>intro _)|fail)
   exact k _
 ·cases B<;>cases inn
  ·cases hup
   ·cases err <;>
    ·repeat' (first|refine qxy ?_|(refine zsp ?_ ?_<;>intro _)|fail)
     exact k _
   ·refine Ga ?_
    exact k _
  ·refine Ga ?_
   exact k _
  ·cases hup
   ·cases err <;>
    ·repeat' (first|refine qxy ?_|(refine zsp ?_ ?_<;>intro _)|fail)
     exact k _
   ·refine Ga ?_
    exact k _
  ·refine Ga ?_
   exact k _
theorem rk_out {sb:Env} (hW:cl d (.fn 16) [.p D 0,.i m] g=some (.i (ja8 A B),g)) (hR:g.get R=some (.cells r.cells false))
  (k0:(x||(B&&outR r))=false -> ∀ v,End (cl d) fuel K (.exit 6) [(3,v3),(9,v9),(11,v11),(14,v14),(16,.p D 0),(18,v18),(20,lv),(24,.i n),(25,.i m),(27,.i 0),(193,v)] g Q)
  (k1:(x||(B&&outR r))=true -> ∀ v,Run (cl d) fuel c3_0 K [(3,v3),(9,v9),(11,v11),(14,v14),(16,.p D 0),(18,v18),(20,lv),(24,.i n),(25,.i m),(27,.i (ja8 x (B&&outR r))),(193,v)] g Q) :
  Run (cl d) fuel c3_1 K ((3,v3) :: (9,v9) :: (11,v11) :: (14,v14) :: (16,.p D 0) :: (18,v18) :: (20,lv) :: (24,.i n) :: (25,.i m) :: (26,.p R 0) :: (27,.i (ja8 x false)) :: sb) g Q:=by
 obtain ⟨C,hC⟩ : ∃ C,C=c3_0:=⟨_,rfl⟩
 rw [<- hC] at k1
 simp only [c3_1,<- hC,yB]
 obtain ⟨op,inn,out,hup,err,rd,wr⟩:=r
 simp only [Rdy.cells] at hR
 clear hC
 cases x
 ·cases B
  ·cases A <;>
   ·repeat' (first|refine qxy ?_|(refine zsp ?_ ?_<;>intro _)|fail)
    exact k0 rfl _
  ·cases A<;>cases out
   ·cases hup
    ·cases err
     ·refine Ga ?_
      exact k0 rfl _
     ·refine Ga ?_
      exact k1 rfl _
    ·refine Ga ?_
     exact k1 rfl _
   ·refine Ga ?_
    exact k1 rfl _
   ·cases hup
    ·cases err
     ·refine Ga ?_
      exact k0 rfl _
     ·refine Ga ?_
      exact k1 rfl _
    ·refine Ga ?_
     exact k1 rfl _
   ·refine Ga ?_
    exact k1 rfl _
 ·cases B
  ·cases A <;>
   ·repeat' (first|refine qxy ?_|(refine zsp ?_ ?_<;>intro _)|fail)
    exact k1 rfl _
  ·cases A<;>cases out
   ·cases hup
    ·cases err <;>
     ·repeat' (first|refine qxy ?_|(refine zsp ?_ ?_<;>intro _)|fail)
      exact k1 rfl _
    ·refine Ga ?_
     exact k1 rfl _
   ·refine Ga ?_
    exact k1 rfl _
   ·cases hup
    ·cases err <;>
     ·repeat' (first|refine qxy ?_|(refine zsp ?_ ?_<;>intro _)|fail)
      exact k1 rfl _
    ·refine Ga ?_
     exact k1 rfl _
   ·refine Ga ?_
    exact k1 rfl _
theorem rk_fin {ad:Nat} (h0:0<=n) (h96:n<=1000) {pn:Nat} (hlt:n<(pn:Int)) (hq:g.get ad=some (.cells cs ro)) (c0:cs[0+n.toNat*2+0]?=some (.i m)) (c1:cs[0+n.toNat*2+1]?=some (.i wv))
  (k:End (cl d) fuel K .normal [(3,v3),(9,v9),(11,v11),(14,v14),(16,.p D 0),(18,v18),(20,.slice (some (ad,0)) pn cp),(24,.i (n+1)),(25,.i m)] g Q) :
  Run (cl d) fuel c3_0 K [(3,v3),(9,v9),(11,v11),(14,v14),(16,.p D 0),(18,v18),(20,.slice (some (ad,0)) pn cp),(24,.i n),(25,.i m),(27,.i wv),(193,v)] g Q:=by
 refine Ga ?_
 exact k
end
theorem rk_rep {p q:Nat->Bool} {m N:Nat} {P:List AskP} (hm:m<N) (hP:P=askL p q N) (hb:(p m||q m)=true) :
  ((askL p q m).length:Int)<(P.length:Int)/\(jav (repP P))[0+((askL p q m).length:Int).toNat*2+0]?=some (.i (m:Int))/\(jav (repP P))[0+((askL p q m).length:Int).toNat*2+1]?=some (.i (ja8 (p m) (q m))):=by
 subst hP
 have h2:=askL_lt' hm hb
 obtain ⟨c0,c1⟩:=jjI (joi hm hb)
 rw [zz,zS]
 exact ⟨by omega,c0,c1⟩
theorem joh {p q:Nat->Bool} : ∀ {m:Nat},(askL p q m).length<=m
 | 0=>zr _
 | m+1=>by
  have:=joh (p:=p) (q:=q) (m:=m)
  rw [askL,zg]
  split<;>simp<;>omega
section
variable {cl:Nat->Call} (hcl:Sem cl) {d D w s:Nat} {ow:Nat->Nat} {ws:Ws} {now:Int} {tb:Tb} {no:Option (Nat × Nat)} {k:Int} {fr fw:Nat->Bool}
include hcl
theorem rk_one {sb:Env} {g:H} {p0 rw m N:Nat} {ad:Option (Nat × Nat)} {n:Int} {v3 v9 v14 v18:V} {P:List AskP} {cp:Cap} {fr' fw':Nat->Bool} (hd:4<=d) (hm:m<N) (hN:N<=96) (a:WSt g w s ow ws now tb no) (o:WsOk ws) (hp0:g.get p0=some (.cells [.p w 0,.p rw 0] false)) (hD:g.get D=some (.cells (dw w k fr fw) false)) (lD:D<g.nx)
  (hq:P≠[] -> ∃ q,ad=some (q,0)/\q<g.nx/\g.get q=some (.cells (jav (repP P)) false)) (hn:n=((askL fr' fw' m).length:Int)) (hP:P=askL fr' fw' N) (hfr:fr' m=(fr m&&inR (rdyS ws m))) (hfw:fw' m=(fw m&&outR (rdyS ws m))) :
  Run (cl d) fuel (.block 6 c3_3) [] ((3,v3) :: (9,v9) :: (11,.p p0 0) :: (14,v14) :: (16,.p D 0) :: (18,v18) :: (20,.slice ad P.length cp) :: (24,.i n) :: (25,.i (m:Int)) :: sb) g
   (fun ex e' g'=>ex = .normal/\(∃ sbe,e'=(3,v3) :: (9,v9) :: (11,.p p0 0) :: (14,v14) :: (16,.p D 0) :: (18,v18) :: (20,.slice ad P.length cp) :: (24,.i ((askL fr' fw' (m+1)).length:Int)) :: (25,.i (m:Int)) :: sbe)/\Old g g'):=by
 obtain ⟨h1,e1,o1⟩:=jfm hcl (d:=d) (fd:=(m:Int)) hd a o
 rw [jhp] at e1
 have x1:=o1.1
 have hw : ∀ G:H,G.get D=some (.cells (dw w k fr fw) false)->cl d (.fn 16) [.p D 0,.i (m:Int)] G=some (.i (ja8 (fr m) (fw m)),G):=fun G hG=>by
  have:=dp_Wants hcl (d:=d) (h:=G) (fd:=(m:Int)) om hG ⟨by omega,by omega⟩
  rw [zz] at this
  exact this
 have n0:0<=n:=by omega
 have n9:n<=1000:=by have:=joh (p:=fr') (q:=fw') (m:=m);omega
 have hno:(fr' m||fw' m)=false->((askL fr' fw' (m+1)).length:Int)=n:=fun hb=>by rw [askL_skip hb,hn]
 have hyes:(fr' m||fw' m)=true->((askL fr' fw' (m+1)).length:Int)=n+1/\n<(P.length:Int)/\(jav (repP P))[0+n.toNat*2+0]?=some (.i (m:Int))/\(jav (repP P))[0+n.toNat*2+1]?=some (.i (ja8 (fr' m) (fw' m))):=fun hb=>by
  subst hn
  exact ⟨by rw [askL_step hb];rfl,rk_rep hm hP hb⟩
 rw [hfr,hfw] at hno hyes
 generalize ((askL fr' fw' (m+1)).length:Int)=N' at hno hyes ⊢
 clear hP hn hfr hfw a o
 generalize rdyS ws (m:Int)=r at e1 hno hyes
 have oG:Old g ((h1.new (.cells [.bool false,.bool false,.bool false,.bool false,.bool false,.int .u64 0,.int .u64 0] false)).set h1.nx (.cells r.cells false)):=o1.new.set om
 have e2:=hw _ (by rw [oG.2 _ lD,hD]:((h1.new (.cells [.bool false,.bool false,.bool false,.bool false,.bool false,.int .u64 0,.int .u64 0] false)).set h1.nx (.cells r.cells false)).get D=_)
 have gr:((h1.new (.cells [.bool false,.bool false,.bool false,.bool false,.bool false,.int .u64 0,.int .u64 0] false)).set h1.nx (.cells r.cells false)).get h1.nx=some (.cells r.cells false):=jab _
 have q00:([.p w 0,.p rw 0]:List V)[0+0]?=some (.p w 0):=rfl
 clear hw hD
 obtain ⟨C,hC⟩ : ∃ C,C=c3_2:=⟨_,rfl⟩
 simp only [c3_3,<- hC,yB]
 refine Run.block ?_
 refine Ga ?_
 refine zcu rfl rfl ?_
 refine zct (vs:=r.cells) rfl rfl rfl rfl (jad _) (zr _) ?_
 change Ops _ _ _ _ _ _ _ ((h1.new (.cells [.bool false,.bool false,.bool false,.bool false,.bool false,.int .u64 0,.int .u64 0] false)).set h1.nx (.cells r.cells false)) _
 generalize (h1.new (.cells [.bool false,.bool false,.bool false,.bool false,.bool false,.int .u64 0,.int .u64 0] false)).set h1.nx (.cells r.cells false)=G at e2 gr oG ⊢
 refine Ga ?_
 subst hC
 refine rk_in (R:=h1.nx) e2 gr fun sb=>rk_out e2 gr (fun hb v=>?_) fun hb v=>?_
 ·have:=hno hb
  subst this
  refine End.block_exit (Zv ⟨rfl,⟨_,rfl⟩,oG⟩)
 ·obtain ⟨y1,y2,y3,y4⟩:=hyes hb
  subst y1
  have hPn:P≠[]:=by rintro rfl;simp at y2;omega
  obtain ⟨q,rfl,lq,gq⟩:=hq hPn
  refine rk_fin n0 n9 y2 (by rw [oG.2 _ lq,gq]) y3 y4 ?_
  exact End.block (Zv ⟨rfl,⟨_,rfl⟩,oG⟩)
theorem rk_all {g:H} {p0 rw:Nat} {ad:Option (Nat × Nat)} {v3 v9 v14 v18:V} {P:List AskP} {cp:Cap} (hd:4<=d) (a:WSt g w s ow ws now tb no) (o:WsOk ws) (hp0:g.get p0=some (.cells [.p w 0,.p rw 0] false)) (lp0:p0<g.nx) (hD:g.get D=some (.cells (dw w k fr fw) false)) (lD:D<g.nx)
  (hq:P≠[] -> ∃ q,ad=some (q,0)/\q<g.nx/\g.get q=some (.cells (jav (repP P)) false)) (hP:P=askL (fun i=>fr i&&inR (rdyS ws i)) (fun i=>fw i&&outR (rdyS ws i)) 96) :
  Run (cl d) fuel (.block 5 (.loop [3,9,11,14,16,18,20,24,25] c3_4)) [] [(3,v3),(9,v9),(11,.p p0 0),(14,v14),(16,.p D 0),(18,v18),(20,.slice ad P.length cp),(24,.i 0),(25,.i 0)] g
   (fun ex e' g'=>ex = .normal/\(∃ sbe,e'=(3,v3) :: (9,v9) :: (11,.p p0 0) :: (14,v14) :: (16,.p D 0) :: (18,v18) :: (20,.slice ad P.length cp) :: (24,.i (P.length:Int)) :: sbe)/\Old g g'):=by
 generalize hfr:(fun i:Nat=>fr i&&inR (rdyS ws i))=fr' at hP
 generalize hfw:(fun i:Nat=>fw i&&outR (rdyS ws i))=fw' at hP
 obtain ⟨N,hN⟩ : ∃ N:Nat,N=96:=⟨_,rfl⟩
 rw [<- hN] at hP
 have h0:((askL fr' fw' 0).length:Int)=0:=rfl
 refine Run.block ?_
 obtain ⟨C,hC⟩ : ∃ C,C=c3_3:=⟨_,rfl⟩
 simp only [c3_4,<- hC,yB]
 refine Zx (fun mm e g1=>∃ m:Nat,mm=N-m/\m<=N/\e=[(3,v3),(9,v9),(11,.p p0 0),(14,v14),(16,.p D 0),(18,v18),(20,.slice ad P.length cp),(24,.i ((askL fr' fw' m).length:Int)),(25,.i (m:Int))]/\Old g g1)
  (k:=N) Ze ⟨0,rfl,by omega,by rw [h0];rfl,ZD g⟩ ?_
 rintro _ _ g1 ⟨m,rfl,hm,rfl,o1⟩ n' ih
 have T:=fun hlt sb=>rk_one hcl (sb:=sb) (d:=d) (g:=g1) (p0:=p0) (rw:=rw) (m:=m) (ad:=ad) (N:=N) (v3:=v3) (v9:=v9) (v14:=v14) (v18:=v18) (P:=P) (cp:=cp) (fr':=fr') (fw':=fw') hd hlt om (a.old o1) o (by rw [o1.2 _ lp0,hp0]) (by rw [o1.2 _ lD,hD]) (zu lD o1.1) (fun hne=>by obtain ⟨q,q1,q2,q3⟩:=hq hne;exact ⟨q,q1,zu q2 o1.1,by rw [o1.2 _ q2,q3]⟩) rfl hP (by rw [<- hfr]) (by rw [<- hfw])
 rw [<- hC] at T
 clear a o hp0 hD hq hfr hfw
 by_cases hlt:(m:Int)<=95
 case neg=>
  clear ih T
  obtain rfl:m=N:=by omega
  rw [hP]
  refine qb ?_
  exact Zv ⟨rfl,⟨_,rfl⟩,o1⟩
 have T:=fun sb=>T om sb
 have hi1:(m:Int)+1=((m+1:Nat):Int):=by omega
 clear hP
 generalize P.length=pl at T ih ⊢
 refine qb ?_
 refine Run.cut _ (T _) ?_
 rintro _ _ g2 ⟨rfl,⟨sbe,rfl⟩,o2⟩
 clear T
 refine Ga ?_
 rw [hi1]
 exact ih (N-(m+1)) om _ _ ⟨m+1,rfl,by omega,rfl,o1.trans o2⟩
theorem rk_seven {h g:H} {p0 rw:Nat} {v3 v9 v14 v18 l1 l2:V} {m e:Int} (hd:4<=d) (a:WSt g w s ow ws now tb no) (o:WsOk ws) (hp0:g.get p0=some (.cells [.p w 0,.p rw 0] false)) (lp0:p0<g.nx) (hD:g.get D=some (.cells (dw w k fr fw) false)) (lD:D<g.nx)
  (dp:DP h g ws fr fw (.tup [l1,l2,.i m,.i e])) :
  Run (cl d) fuel c3_7 [] [(3,v3),(9,v9),(11,.p p0 0),(14,v14),(16,.p D 0),(18,v18),(20,l1),(22,.i m),(23,.i e)] g
   (fun ex e' g'=>(ex = .exit 3\/ex = .normal)/\(∃ sbe,e'=(3,v3) :: (9,v9) :: (11,.p p0 0) :: (14,v14) :: (16,.p D 0) :: (18,v18) :: sbe)/\Old g g'):=by
 obtain ⟨C,hC⟩ : ∃ C,C=(AC.block 5 (.loop [3,9,11,14,16,18,20,24,25] c3_4)):=⟨_,rfl⟩
 simp only [c3_7,<- hC,yB]
 obtain ⟨m',e',hv,hm⟩ | ⟨m',lv,P,hP,hv,h3,h4,row⟩:=dp
 ·cases hv
  clear a o
  by_cases h0:e=0
  ·obtain rfl | rfl:m=3\/m=4:=by omega
   all_goals
    repeat' (first|refine qxy ?_|(refine zsp ?_ ?_<;>intro _)|fail)
    exact Zv ⟨.inl rfl,⟨_,rfl⟩,ZD g⟩
  ·refine Ga ?_
   exact Zv ⟨.inl rfl,⟨_,rfl⟩,ZD g⟩
 ·cases hv
  obtain ⟨ad,cp,rfl,hq⟩ : ∃ ad cp,l1 = .slice ad P.length cp/\(P≠[] -> ∃ q,ad=some (q,0)/\q<g.nx/\g.get q=some (.cells (jav (repP P)) false)):=by
   rcases row with ⟨h0,_,rfl⟩ | ⟨q,k1,k2,rfl,k4,k5⟩
   ·obtain rfl:P=[]:=zp.1 h0
    exact ⟨none,_,rfl,fun e=>zM rfl e⟩
   ·exact ⟨_,_,rfl,fun _=>⟨q,rfl,k2,k4⟩⟩
  have T:=rk_all hcl (d:=d) (p0:=p0) (rw:=rw) (v3:=v3) (v9:=v9) (v14:=v14) (v18:=v18) (P:=P) (cp:=cp) (ad:=ad) hd a o hp0 lp0 hD lD hq hP
  rw [<- hC] at T
  clear a o hp0 hD hq hP row
  have h3 : ¬ m=3:=h3
  have h4 : ¬ m=4:=h4
  refine Ga ?_
  refine Run.cut _ T ?_
  rintro _ _ g2 ⟨rfl,⟨sbe,rfl⟩,o2⟩
  clear T
  refine Ga ?_
  exact Zv ⟨.inr rfl,⟨_,rfl⟩,o2⟩
end
section
variable {cl:Nat->Call} (hcl:Sem cl) {h0 g:H} {p w s rw sb D n i j d O:Nat} {bs:Option Nat} {k:Int} {ow:Nat->Nat} {ro:Nat->Prop} {a r:St} {L:List SpX} {o:List Int} {fr fw:Nat->Bool} {v3 v18:V} {x:OdX}
include hcl
abbrev RlQ (h0:H) (p w s rw sb:Nat) (bs:Option Nat) (D:Nat) (k:Int) (n:Nat) (v3 v18:V):Post:=fun ex e' g'=>ex = .normal/\(∃ sbe,e'=(3,v3) :: (9,.bool true) :: (11,.p p 0) :: (14,.p sb 0) :: (16,.p D 0) :: (18,v18) :: sbe)/\LE h0 g' p w s rw sb bs D k (n+1)
theorem rl_disp {sb0:Env} (hd:21<=d) (X:LI h0 g p w s rw sb bs D k n ow ro a r i j L o fr fw) (hn:n<=800000) (gO:g.get O=some (.cells x.V false)) (t0:0<=x.t) (t1:x.t<=18446744073709551615) :
  Run (cl d) fuel c3_8 [.block 4,.block 3] ((3,v3) :: (9,.bool true) :: (11,.p p 0) :: (14,.p sb 0) :: (16,.p D 0) :: (18,v18) :: (19,.p O 0) :: sb0) g (RlQ h0 p w s rw sb bs D k n v3 v18):=by
 obtain ⟨C,hC⟩ : ∃ C,C=c3_7:=⟨_,rfl⟩
 simp only [c3_8,<- hC,yB]
 obtain ⟨v,g',e1,ow',L',i',o',a',dp,B,so',A',f,hi',hL'⟩:=jlm hcl (d:=d) (wt:=x.t) (fv:=x.b) om X.b.wb X.b.so X.A X.hi om X.hL X.oD X.nDs X.nDb X.gD X.hb t0 t1
 have Y:=X.wake B so' A' f hi' hL'
 obtain ⟨l1,l2,m,e,rfl⟩ : ∃ l1 l2 m e,v = .tup [l1,l2,.i m,.i e]:=by
  obtain ⟨m,e,rfl,_⟩ | ⟨m,lv,P,_,rfl,_⟩:=dp
  ·exact ⟨_,_,_,_,rfl⟩
  ·exact ⟨_,_,_,_,rfl⟩
 have T:=rk_seven hcl (d:=d) (p0:=p) (rw:=rw) (v3:=v3) (v9 := .bool true) (v14 := .p sb 0) (v18:=v18) om Y.b.b.W Y.b.so.K.ok Y.b.b.hp Y.b.b.lp Y.gD Y.oD.lt dp
 rw [<- hC] at T
 have q3:x.V[0+3]?=some (.int .u64 x.t):=rfl
 have q4:x.V[0+4]?=some (.bool x.b):=rfl
 have E:=Y.le1
 generalize x.V=xv at gO q3 q4
 clear X B A' f dp Y so'
 refine Ga ?_
 refine Run.cut _ T ?_
 rintro ex _ g2 ⟨hx,⟨sbe,rfl⟩,o2⟩
 have E2:=E.old' o2
 rcases hx with rfl | rfl
 ·exact End.block_exit' rfl (End.block_exit (Zv ⟨rfl,⟨_,rfl⟩,E2⟩))
 ·exact End.block (End.block (Zv ⟨rfl,⟨_,rfl⟩,E2⟩))
theorem rl_in (hd:21<=d) (X:LI h0 g p w s rw sb bs D k n ow ro a r i j L o fr fw) (hn:n<=800000) (gO:g.get O=some (.cells x.V false)) (ox:OdOk h0 x) (hl:x.x.D.length<=300) :
  Run (cl d) fuel c3_12 [.block 4,.block 3] [(3,v3),(9,.bool true),(11,.p p 0),(14,.p sb 0),(16,.p D 0),(18,v18),(19,.p O 0),(96,.i x.k)] g (RlQ h0 p w s rw sb bs D k n v3 v18):=by
 have TD:=fun h sb0=>rl_disp hcl (sb0:=sb0) (v3:=v3) (v18:=v18) hd X hn gO ox.t0 h
 obtain ⟨C8,hC8⟩ : ∃ C,C=c3_8:=⟨_,rfl⟩
 rw [<- hC8] at TD
 simp only [c3_12,c3_11,c3_10,c3_9,<- hC8,yA,yB,yC]
 clear hC8
 have q1:x.V[0+1]?=some (.i x.fd):=rfl
 have q2:x.V[0+2]?=some (.i x.n):=rfl
 have q5:(x.V.drop (0+5)).take 5=x.x.V:=rfl
 have qn:(0+5)+5<=x.V.length:=zr _
 obtain ⟨kk,fd,nn,tt,bb,xx⟩:=x
 simp only at q1 q2 q5 TD hl
 have ok:=ox.x
 have n0:=ox.n0
 have n1:=ox.n1
 have T:=TD ox.t1
 clear TD ox
 simp only at ok n0 n1 T
 generalize OdX.V ⟨kk,fd,nn,tt,bb,xx⟩=xv at gO q1 q2 q5 qn
 by_cases h1:kk=0
 ·subst h1
  obtain ⟨v,g2,e1,e,fr',fw',rfl,c,gD',hb'⟩:=dr_Set hcl (d:=d) (fd:=fd) om n0 n1 X.b.b.W X.b.so.K.ok X.gD X.oD.lt X.hb
  have E:=(X.turn c gD' hb').le1
  clear X T ok hb' gD' c n0 n1
  refine Ga ?_
  exact Zv ⟨rfl,⟨_,rfl⟩,E⟩
 by_cases h2:kk=1
 ·subst h2
  by_cases hf:isFd fd
  ·have e1:cl d (.fn 13) [.p D 0,.i fd] g=some (.tup [],g.set D (.cells (dw w k (setF fr fd.toNat false) (setF fw fd.toNat false)) false)):=by
    rw [<- joa]
    exact jkv hcl (d:=d) om X.gD hf
   have E:=(X.turn (fr':=setF fr fd.toNat false) (fw':=setF fw fd.toNat false) (Ch.set rfl) (jab _) (jkI X.hb fun _ _=>rfl)).le1
   clear X T ok
   refine Ga ?_
   exact Zv ⟨rfl,⟨_,rfl⟩,E⟩
  ·have e1:=jku hcl (d:=d) om X.gD hf
   have E:=X.le1
   clear X T ok
   refine Ga ?_
   exact Zv ⟨rfl,⟨_,rfl⟩,E⟩
 by_cases h3:kk=4
 ·subst h3
  obtain ⟨y,g2,ow',ro',e1,b',f⟩:=joO hcl (d:=d) om X.b (by have:=X.hi;omega) (by have:=X.hj;omega) ok hl
  have E:=(X.doneB b' f).le
  clear X T ok b' f
  refine Ga ?_
  refine zcw rfl gO qn ?_
  rw [q5]
  refine Ga ?_
  exact Zv ⟨rfl,⟨_,rfl⟩,E⟩
 by_cases h4:kk=3
 ·subst h4
  clear X ok
  refine Ga ?_
  exact T _
 ·have E:=X.le1
  clear X T ok
  refine Ga ?_
  exact Zv ⟨rfl,⟨_,rfl⟩,E⟩
theorem rl_one {sb0:Env} {cb m:Nat} {cs:List V} {ro':Bool} {cc:Cap} {M:Nat} (hd:21<=d) (X:LE h0 g p w s rw sb bs D k n) (hn:n<=800000) (lb:cb<h0.nx) (gb:h0.get cb=some (.cells cs ro')) (hlt:m<M) (hM:M<=60) (h10:(cs.drop (m*10)).take 10=x.V) (ox:OdOk h0 x) (hl:x.x.D.length<=300) :
  Run (cl d) fuel (.block 3 c3_13) [] ((3,.slice (some (cb,0)) M cc) :: (9,.bool true) :: (11,.p p 0) :: (14,.p sb 0) :: (16,.p D 0) :: (18,.i (m:Int)) :: sb0) g (RlQ h0 p w s rw sb bs D k n (.slice (some (cb,0)) M cc) (.i (m:Int))):=by
 obtain ⟨ow,ro,a,r,i,j,L,o,fr,fw,X⟩:=X
 have og:Old g ((g.new (.cells [.i 0,.i 0,.i 0,.int .u64 0,.bool false,.i 0,.i 0,.i 0,.int .u64 0,.nils] false)).set g.nx (.cells x.V false)):=(ZD g).new.set (zr _)
 have gO:((g.new (.cells [.i 0,.i 0,.i 0,.int .u64 0,.bool false,.i 0,.i 0,.i 0,.int .u64 0,.nils] false)).set g.nx (.cells x.V false)).get g.nx=some (.cells x.V false):=jab _
 have gb1:g.get cb=some (.cells cs ro'):=by rw [X.b.old.2 cb lb,gb]
 have hlen:0+(m:Int).toNat*10+10<=cs.length:=by
  have:=congrArg List.length h10
  have e:(x.V).length=10:=rfl
  rw [List.length_take,List.length_drop,e] at this
  omega
 have h10':(cs.drop (0+(m:Int).toNat*10)).take 10=x.V:=by rw [zz,zS];exact h10
 have hone:x.V.all V.one=true:=by
  obtain ⟨da,dc,e,_⟩:=ox.x.dv
  show [V.i x.k,.i x.fd,.i x.n,.int .u64 x.t,.bool x.b,.i x.x.k,.i x.x.a,.i x.x.n,.int .u64 x.x.t,x.x.dv].all V.one=true
  rw [e];rfl
 have T:=rl_in hcl (v3 := .slice (some (cb,0)) M cc) (v18 := .i (m:Int)) (O:=g.nx) hd (X.old' og) hn gO ox hl
 have q0:x.V[0+0]?=some (.i x.k):=rfl
 have hm:(m:Int)<(M:Int):=by omega
 obtain ⟨C,hC⟩ : ∃ C,C=c3_12:=⟨_,rfl⟩
 rw [<- hC] at T
 simp only [c3_13,<- hC,yB]
 clear hC X h10
 refine qb ?_
 refine Run.block ?_
 refine Ga ?_
 refine zcw rfl gb1 hlen ?_
 rw [h10']
 refine zcu rfl rfl ?_
 refine zct (o:=0) (vs:=x.V) rfl rfl rfl hone (jad _) (by decide) ?_
 rw [show jat ([.i 0,.i 0,.i 0,.int .u64 0,.bool false,.i 0,.i 0,.i 0,.int .u64 0,.nils]:List V) 0 x.V=x.V from rfl]
 generalize (g.new (.cells [.i 0,.i 0,.i 0,.int .u64 0,.bool false,.i 0,.i 0,.i 0,.int .u64 0,.nils] false)).set g.nx (.cells x.V false)=G at og gO T ⊢
 generalize hxv:x.V=xv at gO q0
 clear hone h10' hxv
 refine qb ?_
 refine Run.block ?_
 exact T
end
section
variable {cl:Nat->Call} (hcl:Sem cl)
include hcl
theorem nw_fresh0 {d:Nat} (hd:3<=d) (h:H) : ∃ p w s rw ow ro h',cl d (.fn 8) [] h=some (.p p 0,h')/\BX h h' p w s rw ow ro st0 0:=by
 have e1:=nw_world hcl (d:=d-1) om h
 have e2:=nw_ref hcl (d:=d-1) om ((h.new Tb.zero.obj).new (.cells (wc0 h.nx) false))
 have x1:((h.new Tb.zero.obj).new (.cells (wc0 h.nx) false)).nx=h.nx+2:=rfl
 rw [x1] at e2
 have o4:Old h ((((h.new Tb.zero.obj).new (.cells (wc0 h.nx) false)).new (.cells rc0 false)).new (.cells [.p (h.nx+1) 0,.p (h.nx+2) 0] false)):=(ZD h).new.new.new.new
 refine ⟨h.nx+3,h.nx+1,h.nx,h.nx+2,fun j=>if j=h.nx then 3 else if j=h.nx+1 then 1 else 0,fun j=>j=h.nx+2,(((h.new Tb.zero.obj).new (.cells (wc0 h.nx) false)).new (.cells rc0 false)).new (.cells [.p (h.nx+1) 0,.p (h.nx+2) 0] false),jan (aT hcl ?_),⟨⟨?_,?_,?_,?_,?_,?_,?_⟩,st0_ok,o4,?_,?_⟩⟩
 ·refine qm ?_
  exact ⟨rfl,rfl⟩
 ·refine ⟨[],⟨⟨⟨.nils,?_,Row.nil _ _ _,fun z hz=>by cases hz⟩,?_,?_,?_,?_,?_,fun j hj=>?_,fun n t ht=>by simp at ht⟩,fun n k fd hat=>?_⟩,rfl⟩
  ·have e:=wc0_eq h.nx
   show _=some (Obj.cells (wc (fun i=>atS [] (i:Int)) .nils h.nx 0 none) false)
   rw [<- e]
   exact qgt
  ·exact qgt
  ·show (if h.nx+1=h.nx then 3 else if h.nx+1=h.nx+1 then 1 else 0)=1
   rw [zF om,zG rfl]
  ·show (if h.nx=h.nx then 3 else if h.nx=h.nx+1 then 1 else 0)=3
   rw [zG rfl]
  ·simp<;>omega
  ·simp<;>omega
  ·have hj:h.nx+4<=j:=hj
   show (if j=h.nx then 3 else if j=h.nx+1 then 1 else 0)=0
   rw [zF om,zF om]
  ·obtain ⟨x,hx,_⟩:=hat;simp at hx
 ·refine ⟨[],⟨⟨h.nx+3,fun e=>zM rfl e,fun g gn gk=>⟨?_,?_,by omega,fun e=>zM rfl e,fun _=>?_,fun r hr=>by cases hr⟩⟩,fun j hj=>?_,rfl,fun j hj hd=>?_⟩,rfl⟩
  ·rw [gn];simp
  ·rw [gn];simp
  ·rw [gk (h.nx+2) Zd (.inl rfl)]
   show _=some (Obj.cells rc0 false)
   exact qgt
  ·rcases hj with rfl | hj
   ·simp
   ·simp<;>omega
  ·have hj:j=h.nx+2:=hj
   have hd:j<h.nx:=hd
   omega
 ·exact qgt
 ·simp
 ·intro j hj
  have hj:j=h.nx+2\/j<h.nx:=hj
  show (if j=h.nx then 3 else if j=h.nx+1 then 1 else 0)=0
  rw [zF om,zF om]
 ·show (if h.nx+3=h.nx then 3 else if h.nx+3=h.nx+1 then 1 else 0)=0
  rw [zF om,zF om]
 ·intro hj
  have hj:h.nx+3=h.nx+2\/h.nx+3<h.nx:=hj
  omega
 ·intro j hj
  rcases hj with hj | hj
  ·have hj:(if j=h.nx then 3 else if j=h.nx+1 then 1 else 0)≠0:=hj
   by_cases h1:j=h.nx
   ·omega
   ·rw [zF h1] at hj
    by_cases h2:j=h.nx+1
    ·omega
    ·rw [zF h2] at hj;exact zM rfl hj
  ·have hj:j=h.nx+2:=hj
   omega
 ·omega
end
section
variable {cl:Nat->Call} (hcl:Sem cl) {d w:Nat} {h:H} {k:Int}
include hcl
theorem dp_New (hd:1<=d) (hk:k=1\/k=2):cl d (.fn 11) [.p w 0,.i k] h=some (.tup [.p h.nx 0,.i 0],h.new (.cells (dc w k (fun _=>0) 0) false)):=by
 have hb:jaJ ([.ptr none]++List.replicate 98 (.i 0:V)) [(0,1,.p w 0),(1,1,.i k)]=some (dc w k (fun _=>0) 0):=by
  have:List.replicate 98 (.i 0:V) = .i 0 :: (tab 96 (fun _=>.i 0)++[.i 0]):=by kernel_rfl
  rw [this];rfl
 refine jan (aT hcl ?_)
 obtain ⟨C,hC⟩ : ∃ C,C=c11_2:=⟨_,rfl⟩
 simp only [c11,<- hC,yC]
 rcases hk with rfl | rfl
 all_goals
  repeat' (first|refine qxy ?_|(refine zsp ?_ ?_<;>intro _)|fail)
  subst hC
  refine zab (zac (Ops.mv rfl (Ops.mv rfl (Ops.build rfl hb ?_))))
  repeat' (first|refine qmy ?_|(refine zsp ?_ ?_<;>intro _)|fail)
  exact ⟨rfl,rfl⟩
theorem dp_New_no (hd:1<=d) (hk : ¬ (k=1\/k=2)):cl d (.fn 11) [.p w 0,.i k] h=some (.tup [.ptr none,.i 2],h):=by
 obtain ⟨k1,k2⟩:k≠1/\k≠2:=by omega
 refine jan (aT hcl ?_)
 refine Ga ?_
 exact ⟨rfl,rfl⟩
end
theorem ji6 {cl:Nat->Call} (hcl:Sem cl) {f:Nat} {args:List V} {h0:H} {n n':Nat} (run:ran (jbF prog fuel 30 (.fn f) args ⟨n,.lf⟩) (jjy n')=true) (hnx:h0.nx=n) (hwf : ∀ b,n<=b->h0.get b=none) (hn:n<=n') :
  ∃ h1,cl 30 (.fn f) args h0=some (.bool true,h1)/\h1.nx=n'/\(∀ j,n'<=j->h1.get j=none) /\ ∀ j o,h0.get j=some o->h1.get j=some o:=by
 obtain ⟨v1,e1,ra,pa⟩:=ran_ex run
 unfold jjy at pa
 simp only [zq,Nat.beq_eq,zT] at pa
 obtain ⟨p1,p2,p3⟩:=pa
 obtain rfl:=isTrue_eq p1
 have hX:Ext h0.get ⟨n,.lf⟩ h0:=by have:=ext_all (h:=h0) (by rw [hnx];exact hwf);rwa [hnx] at this
 obtain ⟨h1,qa,xa⟩:=same_in hcl ra hX
 refine ⟨h1,qa,by rw [xa.nx];exact p2,fun j hj=>?_,fun j o hj=>ext_kept xa hj⟩
 rw [xa.get,hwf j om,show e1.get j=none from jlf _ _ om];rfl
theorem alive19_3:ran (jbF prog fuel 30 (.fn 5) [.i 1] ⟨124263,.lf⟩) (jjy 125464)=true:=by kernel_rfl
theorem alive19_4:ran (jbF prog fuel 30 (.fn 5) [.i 2] ⟨125464,.lf⟩) (jjy 125580)=true:=by kernel_rfl
theorem mem_sp {l l':List SpX} (e:l'.map SpX.sp=l.map SpX.sp) {x:SpX} (hx:x∈l') : ∃ y∈l,y.sp=x.sp:=by
 have h:x.sp∈l'.map SpX.sp:=List.mem_map.2 ⟨x,hx,rfl⟩
 rw [e] at h
 obtain ⟨y,hy,q⟩:=List.mem_map.1 h
 exact ⟨y,hy,q⟩
section
variable {cl:Nat->Call} (hcl:Sem cl) {h0 g:H} {p w s rw i j d:Nat} {k:Int} {ow:Nat->Nat} {ro:Nat->Prop} {a r:St} {S:List SpX} {C:List OdX} {sv:V} {adc:Option (Nat × Nat)} {cc:Cap}
include hcl
theorem li_new (hd:16<=d) (b:BX2 h0 g p w s rw ow ro a r i j) (hS:jgQ h0 (· < h0.nx) (· < h0.nx) sv S) (hl:S.length<=2000) (hm : ∀ x∈S,x.sp.may) (hi:i<=60) (hj:j<=60) (hs:sumM S<=500) :
  ∃ sb bs g',cl d (.fn 10) [sv] g=some (.tup [.p sb 0,.i 0],g')/\Old g g'/\((k=1\/k=2)->LE h0 (g'.new (.cells (dc w k (fun _=>0) 0) false)) p w s rw sb bs g'.nx k 600):=by
 obtain ⟨sb,v',l',g1,e1,hsp,a1,s1,gs,hw,q1,q2,o1⟩:=wm_New hcl (d:=d) hd (hS.old b.old) hl (fun x hx=>SpX.few_may (hm x hx)) hm
 refine ⟨sb,v'.at?,g1,e1,o1,fun hk=>?_⟩
 have o2:Old g1 (g1.new (.cells (dc w k (fun _=>0) 0) false)):=(ZD g1).new
 have b2:=b.old' (o1.trans o2)
 have fr : ∀ z,g.nx<=z->ow z=0 /\ ¬ roB h0 p ro z:=fun z hz=>⟨b.b.W.top hz,fun e=>by
  have:=b.wb.lt z e;omega⟩
 have ofr : ∀ z,g.nx<=z->z<(g1.new (.cells (dc w k (fun _=>0) 0) false)).nx->Ow (g1.new (.cells (dc w k (fun _=>0) 0) false)) ow (roB h0 p ro) z:=fun z hz hz2=>⟨hz2,(fr z hz).1,(fr z hz).2⟩
 have x1:=o1.1
 have gD:(g1.new (.cells (dc w k (fun _=>0) 0) false)).get g1.nx=some (.cells (dw w k (fun _=>false) (fun _=>false)) false):=by
  rw [jad]
  rfl
 have hn:(g1.new (.cells (dc w k (fun _=>0) 0) false)).nx=g1.nx+1:=rfl
 have hlen:l'.length=S.length:=by have:=congrArg List.length hsp;simpa using this
 have hsum:=jnv hsp
 refine ⟨ow,ro,a,r,i,j,l',[],fun _=>false,fun _=>false,⟨b2,⟨ofr sb q1 om,fun z hz=>?_,⟨v',.nils,rfl,by rw [o2.2 sb q2,gs],?_,fun y hy=>?_,VI.nil _,fun e=>zM rfl e⟩,fun x hx=>?_⟩,ofr _ x1 om,by omega,fun e=>?_,gD,fun _ _ _=>rfl,by omega,by omega,by omega⟩⟩
 ·obtain ⟨k1,k2,cs,k3⟩:=hw z hz
  exact ⟨ofr z k1 om,by omega,cs,by rw [o2.2 z om,k3]⟩
 ·exact a1.keep o2.1 fun z hz hp=>⟨o2.2 z hz,(fr z hp.1).1,(fr z hp.1).2,hp.2⟩
 ·have kp : ∀ z,z<g1.nx->((g.nx<=z/\z≠sb)/\v'.at?≠some z)->(g1.new (.cells (dc w k (fun _=>0) 0) false)).get z=g1.get z/\(PB ow (roB h0 p ro) sb z/\(v'.at?≠some z/\z≠g1.nx)):=fun z hz hp=>⟨o2.2 z hz,⟨(fr z hp.1.1).1,(fr z hp.1.1).2,hp.1.2⟩,hp.2,by omega⟩
  exact (s1 y hy).keep o2.1 kp kp
 ·obtain ⟨y,hy,q⟩:=mem_sp hsp hx
  exact SpX.few_may (q ▸ hm y hy)
 ·obtain ⟨k1,k2,_⟩:=hw _ e
  omega
theorem rl_all {sb D:Nat} {bs:Option Nat} (hd:21<=d) (X:LE h0 g p w s rw sb bs D k 600) (hC:C.length<=60) (hok : ∀ x∈C,OdOk h0 x) (hl : ∀ x∈C,x.x.D.length<=300) (hel:C≠[] -> ∃ b cs ro,adc=some (b,0)/\b<h0.nx/\h0.get b=some (.cells cs ro)/\cs.length=C.length*10 /\ ∀ (i:Nat) (x:OdX),C[i]?=some x->(cs.drop (i*10)).take 10=x.V) :
  Run (cl d) fuel c3_16 [] [(3,.slice adc C.length cc),(9,.bool true),(11,.p p 0),(14,.p sb 0),(16,.p D 0),(17,.i 0)] g (Fin c3.res fun v _=>v = .bool true):=by
 obtain ⟨C3,hC3⟩ : ∃ C,C=c3_13:=⟨_,rfl⟩
 simp only [c3_16,c3_15,c3_14,<- hC3,yB,yC,yE]
 refine Ga ?_
 refine Zx (fun m e g=>∃ i:Nat,m=C.length-i/\i<=C.length/\e=[(3,.slice adc C.length cc),(9,.bool true),(11,.p p 0),(14,.p sb 0),(16,.p D 0),(18,.i (i:Int))]/\LE h0 g p w s rw sb bs D k (600+i))
  (k:=C.length) Ze ⟨0,rfl,by omega,rfl,X⟩ ?_
 clear X
 rintro _ _ g ⟨i,rfl,hi,rfl,X⟩ n' ih
 by_cases hlt:(i:Int)<C.length
 case neg=>
  clear ih hel hok hl X
  refine Ga ?_
  rfl
 obtain ⟨x,hx⟩:=jfl (l:=C) (i:=i) om
 obtain ⟨b,cs,ro,rfl,lb,gb,_,hc⟩:=hel (by intro e;rw [e] at hx;simp at hx)
 have hxm:=zb hx
 have T:=fun sb0=>rl_one hcl (sb0:=sb0) (d:=d) (cc:=cc) hd X om lb gb (m:=i) (M:=C.length) om hC (hc i x hx) (hok x hxm) (hl x hxm)
 rw [<- hC3] at T
 have hi1:(i:Int)+1=((i+1:Nat):Int):=by omega
 clear hel hok hl hc X hC3
 refine qb ?_
 refine Run.cut _ (T _) ?_
 rintro _ _ g2 ⟨rfl,⟨sbe,rfl⟩,E⟩
 clear T
 refine Ga ?_
 rw [hi1]
 exact ih (C.length-(i+1)) om _ _ ⟨i+1,rfl,by omega,rfl,E⟩
theorem rl_rest {v0:V} {sbe:Env} (hd:21<=d) (b:BX2 h0 g p w s rw ow ro a r i j) (hS:jgQ h0 (· < h0.nx) (· < h0.nx) sv S) (hsl:S.length<=2000) (hm : ∀ x∈S,x.sp.may) (hi:i<=60) (hj:j<=60) (hs:sumM S<=500)
  (hC:C.length<=60) (hok : ∀ x∈C,OdOk h0 x) (hl : ∀ x∈C,x.x.D.length<=300) (hel:C≠[] -> ∃ b cs ro,adc=some (b,0)/\b<h0.nx/\h0.get b=some (.cells cs ro)/\cs.length=C.length*10 /\ ∀ (i:Nat) (x:OdX),C[i]?=some x->(cs.drop (i*10)).take 10=x.V) :
  Run (cl d) fuel c3_20 [] ((0,v0) :: (1,sv) :: (2,.i k) :: (3,.slice adc C.length cc) :: (9,.bool true) :: (11,.p p 0) :: sbe) g (Fin c3.res fun v _=>v = .bool true):=by
 obtain ⟨sb,bs,g1,e1,o1,E⟩:=li_new hcl (d:=d) (k:=k) om b hS hsl hm hi hj hs
 have hp:g1.get p=some (.cells [.p w 0,.p rw 0] false):=(b.old' o1).b.hp
 have q0:([.p w 0,.p rw 0]:List V)[0+0]?=some (.p w 0):=rfl
 have hsv:sv.one=true:=by obtain ⟨⟨_,_,rfl,_⟩,_⟩:=hS;rfl
 obtain ⟨C16,hC16⟩ : ∃ C,C=c3_16:=⟨_,rfl⟩
 by_cases hk:k=1\/k=2
 ·have e2:=dp_New hcl (d:=d) (w:=w) (h:=g1) om hk
  have T:=rl_all hcl (cc:=cc) hd (E hk) hC hok hl hel
  rw [<- hC16] at T
  simp only [c3_20,c3_17,<- hC16,yB]
  clear b hS hok hl hel E o1 hm hk hC16
  refine Ga ?_
  exact T
 ·have e2:=dp_New_no hcl (d:=d) (w:=w) (h:=g1) om hk
  simp only [c3_20,c3_17,c3_16,c3_15,yB,yC,yE]
  clear b hS hok hl hel E o1 hm hk hC16
  refine Ga ?_
  rfl
theorem jjm {h0:H} (hnx:h0.nx=124263) (hwf : ∀ b,124263<=b->h0.get b=none) {l:List (Int × Int × Int × Int × List Int × Unit)} {u1:V} (rl:jb0 200 jmH h0 l [u1]) {x1:List (Int × Bool × List Int × List (Int × Int × Int × List Int × Unit) × Unit)} {u2:V} (rs:jb0 2000 joU h0 x1 [u2]) {x2:Int} {u3:V} (rk:jbM .i64 h0 x2 [u3]) {x3:List (Int × Int × Int × Int × Bool × (Int × Int × Int × Int × List Int × Unit) × Unit)} {u4:V} (rc:jb0 60 jov h0 x3 [u4]) :
  ∃ h',cl 31 (.fn 3) [u1,u2,u3,u4] h0=some (.bool true,h'):=by
 suffices q : ∃ v h',cl 31 (.fn 3) [u1,u2,u3,u4] h0=some (v,h')/\v = .bool true by
  obtain ⟨_,h',e,rfl⟩:=q;exact ⟨h',e⟩
 obtain ⟨⟨⟩,_⟩:=rk
 obtain ⟨h1,ea1,n1,wf1,k1⟩:=ji6 hcl alive19_3 hnx hwf om
 obtain ⟨h2,ea2,n2,wf2,k2⟩:=ji6 hcl alive19_4 n1 wf1 om
 have kk : ∀ j o,j<h0.nx->h0.get j=some o->h2.get j=some o:=fun j o _ hj=>k2 j o (k1 j o hj)
 have kx:h0.nx<=h2.nx:=by omega
 obtain ⟨L,_,hL0⟩:=opsIn_of rl
 obtain ⟨S,hS0,hT0⟩:=spsN_of rs
 obtain ⟨C,_,hC0⟩:=odsIn_of rc
 have hL:=hL0.keep kx kk
 have hS:=hS0.keepK kx kk
 have hT:=hT0.keepK kx kk
 have hC:=hC0.keep kx kk
 clear rl rs rc hL0 hS0 hT0 hC0 k1 k2 kk kx hwf wf1
 obtain ⟨h3,e3,o3⟩:=rn_All hcl (d:=30) om hS
 have kk : ∀ j o,j<h2.nx->h2.get j=some o->h3.get j=some o:=fun j o hj hg=>by rw [o3.2 j hj,hg]
 have hL3:=hL.keep o3.1 kk
 have hT3:=hT.keepK o3.1 kk
 have hC3:=hC.keep o3.1 kk
 have hS3:=hS.keepK o3.1 kk
 obtain ⟨gv,eg,hg⟩:=g19_all hcl (d:=30) om hL3 hT3 hC3
 obtain ⟨p,w,s,rw,ow,ro,h4,e4,b4⟩:=nw_fresh0 hcl (d:=30) om h3
 clear hL hT hC hS kk o3
 obtain ⟨ad,c,rfl,hin⟩:=hL3
 obtain ⟨ads,cs,rfl,_⟩:=id hT3
 obtain ⟨adc,cc,rfl,hinc⟩:=hC3
 refine aT hcl ?_
 obtain ⟨C20,hC20⟩ : ∃ C,C=c3_20:=⟨_,rfl⟩
 simp only [c3,c3_22,c3_21,<- hC20,yB]
 rcases hg with rfl | ⟨rfl,h60,hfew,hfs,hc60,hcl300⟩
 ·clear hin hinc hS3 hT3 b4
  refine Ga ?_
  rfl
 by_cases hm:S.length<=2000 /\ ∀ x∈S,x.sp.may
 case neg=>
  rw [zH hm] at e3
  clear hin hinc hS3 hT3 b4 hfew hfs hcl300
  refine Ga ?_
  rfl
 rw [zJ hm] at e3
 obtain ⟨hok,hel⟩:=hin hfew.1
 obtain ⟨hokc,helc⟩:=hinc om
 have hSA:=hS3.at hm.1 hm.2
 have T:=fun (i:Nat) (hi:i<=L.length) (g:H) ow ro a r (bx:BX2 h3 g p w s rw ow ro a r i i) (sbe:Env)=>rl_rest hcl (d:=30) (k:=x2) (v0 := .slice ad L.length c) (sbe:=sbe) (cc:=cc) om bx hSA hm.1 hm.2 om om hfs.sum om hokc hcl300 helc
 rw [<- hC20] at T
 replace b4:=b4.two
 clear hS3 hT3 hin hinc hokc helc hcl300 hSA hfs hC20 hm
 refine Ga ?_
 refine Zx (fun m e g=>∃ (i:Nat) (ow:Nat->Nat) (ro:Nat->Prop) (a r:St),m=L.length-i/\i<=L.length/\e=[(0,.slice ad L.length c),(1,.slice ads S.length cs),(2,.i x2),(3,.slice adc C.length cc),(9,.bool true),(11,.p p 0),(12,.i (i:Int))]/\BX2 h3 g p w s rw ow ro a r i i)
  (k:=L.length) Ze ⟨0,ow,ro,_,_,rfl,by omega,rfl,b4⟩ ?_
 clear b4 e4 eg e3 ea1 ea2 ow ro h4
 rintro _ _ g ⟨i,ow,ro,a,r,rfl,hi,rfl,bx⟩ n2 ih
 by_cases hlt:(i:Int)<L.length
 case neg=>
  have T:=fun sbe=>T i hi g ow ro a r bx sbe
  clear ih hel hok bx
  refine Ga ?_
  exact T _
 obtain ⟨x,hx⟩:=jfl (l:=L) (i:=i) om
 have hxm:=zb hx
 obtain ⟨b,cs',ro',rfl,lb,hb,hlen,hc⟩:=hel (by rintro rfl;simp at hx)
 have h5:(cs'.drop (0+(i:Int).toNat*5)).take 5=x.V:=by rw [zS,zz];exact hc i x hx
 have hbg:g.get b=some (.cells cs' ro'):=by rw [bx.old.2 b lb,hb]
 obtain ⟨y,g2,ow2,ro2,e2,bx2,_⟩:=joO hcl (d:=30) om bx om om (hok x hxm) (hfew.2 x hxm)
 have hi1:(i:Int)+1=((i+1:Nat):Int):=by omega
 clear hok hel hfew bx hc T
 cases y
 ·refine Ga ?_
  refine zcw rfl hbg om ?_
  rw [h5]
  refine Ga ?_
  rfl
 ·refine Ga ?_
  refine zcw rfl hbg om ?_
  rw [h5]
  refine Ga ?_
  rw [hi1]
  exact ih (L.length-(i+1)) om _ _ ⟨i+1,ow2,ro2,_,_,rfl,by omega,rfl,bx2⟩
end
end Am.Sigs
