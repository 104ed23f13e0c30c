/- Our own library, part 24. -/
import Derived.Test.YtbfpbbppgffpnaaGreatDoorM23
import Derived.Test.YtbfpbbppgffpnaaGreatDoorM21
import Derived.Test.YtbfpbbppgffpnaaGreatDoorM22
set_option maxHeartbeats 8000000
set_option linter.all false
namespace Am.Sigs
open Am Go
section
variable {cl:Nat->Call} (hcl:Sem cl) {h h0:H} {w s:Nat} {ow:Nat->Nat} {l:List WX} {now:Int} {tb:Tb} {no:Option (Nat × Nat)} {v:V} {L:List (List UInt8)}
theorem w_JoinS {d N:Nat} {xs:List (List UInt8)} {t:List UInt8} (hcl:Sem cl) (hd:1<=d) (r:SR N h v xs) (hs:(Lib.join xs t).length<=100000000) (hx:xs.length<=1000):cl d (.fn F.jfN) [v,.str t] h=some (.str (Lib.join xs t),h):=by
 obtain ⟨q,c,h1,h2,rfl,hc,hg⟩:=r
 exact w_Join hcl hd hg (by rw [zk,zh Zd]) rfl hs om
include hcl
theorem iw_end {d:Nat} {sb:Env} (hd:2<=d) (P:Pw h) (a:WF h w s ow (fun i=>atS (wxs l) (i:Int)) l now tb no) (nt:NtOk (wxs l) (noI no) (siI no)) (hlen:l.length<=1000) (o:Old h0 h) (sr:SR h0.nx h v L) (hl:L.length<=5000) :
  Run (cl d) fuel c65_4 [] ((0,.p w 0) :: (3,v) :: sb) h (Fin c65.res fun x h'=>SR h0.nx h' x (L++jkk no)/\Old h0 h'):=by
 obtain ⟨sa,c,hw,_⟩:=a.head
 have lw:=a.lw
 cases no with
 | none=>
  have q0:(wc (fun i=>atS (wxs l) (i:Int)) (.slice sa l.length c) s now none)[0+291+0]?=some (.bool false):=jiQ (j:=0) om rfl
  generalize wc (fun i=>atS (wxs l) (i:Int)) (.slice sa l.length c) s now none=cs at hw q0
  refine qx1 ?_
  exact ⟨by simpa [jkk] using sr,o⟩
 | some p=>
  have q0:(wc (fun i=>atS (wxs l) (i:Int)) (.slice sa l.length c) s now (some p))[0+291+0]?=some (.bool true):=jiQ (j:=0) om rfl
  have q1:(wc (fun i=>atS (wxs l) (i:Int)) (.slice sa l.length c) s now (some p))[0+291+1]?=some (.i (p.1:Int)):=jiQ (j:=1) om rfl
  have q2:(wc (fun i=>atS (wxs l) (i:Int)) (.slice sa l.length c) s now (some p))[0+291+2]?=some (.i (p.2:Int)):=jiQ (j:=2) om rfl
  have hp:p.1<=1000/\p.2<=1:=by
   rcases nt with e | ⟨n,k,x,h1,h2,h3,h4,_⟩
   ·have e:(p.1:Int) = -1:=e
    omega
   ·have h1:(p.1:Int)=n:=h1
    have h2:(p.2:Int)=k:=h2
    have:=w_lt h4
    rw [List.length_map] at this
    omega
  clear nt a
  generalize wc (fun i=>atS (wxs l) (i:Int)) (.slice sa l.length c) s now (some p)=cs at hw q0 q1 q2
  refine qx1 ?_
  refine Run.region ?_
  have oG:Old h (h.reserve 1):=⟨by simp,fun j _=>H.get_reserve ..⟩
  have xG:(h.reserve 1).nx=h.nx+1:=by simp
  have sG:=sr.keep (zq _) oG
  have PG:=P.old oG
  generalize h.reserve 1=G at oG xG sG PG ⊢
  have gG:G.get w=some (.cells cs false):=by rw [oG.2 _ lw,hw]
  have e1:=jcC hcl (d:=d) (u:=p.1) om om PG
  have e2:=jcC hcl (d:=d) (u:=p.2) om om PG
  have d1:=jbw (u:=p.1) om
  have d2:=jbw (u:=p.2) om
  have n0:=o.1
  refine qx1 ?_
  refine Ops.callf_chk rfl e1 (jav rfl gG q2 rfl jaA) ?_
  refine Ops.sadd rfl rfl Zc ?_
  refine Ops.sadd rfl rfl Zc ?_
  refine qx1 ?_
  refine Ops.sadd rfl rfl Zc ?_
  refine Ops.strP_at (h0:=h0) (l:=L) (t:=tNo++dec p.1++[32]++dec p.2) rfl rfl (o.trans oG) sG om om (fun e=>by have:=(sr.at_ge e).2;omega) om fun v' h' s' o' _ _=>?_
  refine qx1 ?_
  exact ⟨s',o'⟩
theorem iw_sig {d sg:Nat} {sb:Env} (hd:4<=d) (P:Pw h) (a:WF h w s ow (fun i=>atS (wxs l) (i:Int)) l now tb no) (h1:1<=sg) (hs:sg<32) (hc:tb.ok 1000000) (o:Old h0 h) (sr:SR h0.nx h v L) (hl:L.length<=5000) :
  Run (cl d) fuel (.block 7 c65_2) [] ((0,.p w 0) :: (3,v) :: (12,.i (sg:Int)) :: sb) h (BM h0 w 12 sg (L++if tb.hd sg=true then [tSig++dec sg++[32]++dec (tb.pd sg).toNat] else [])):=by
 obtain ⟨sa,c,hw,_⟩:=a.head
 have lw:=a.lw
 have q1:(wc (fun i=>atS (wxs l) (i:Int)) (.slice sa l.length c) s now no)[0+289]?=some (.p s 0):=jdw rfl
 have eh:=jlh hcl (d:=d) om a.hs (sg:Int)
 have hsg:sig? (sg:Int):=by show (1:Int)<=sg/\(sg:Int)<=31;omega
 have e0:tb.has (sg:Int)=tb.hd sg:=by unfold Tb.has;rw [decide_eq_true hsg];simp
 rw [e0] at eh
 generalize wc (fun i=>atS (wxs l) (i:Int)) (.slice sa l.length c) s now no=cs at hw q1
 cases hh:tb.hd sg with
 | false=>
  rw [hh] at eh
  clear hc
  refine qx1 ?_
  exact End.nil ⟨rfl,v,_,rfl,by simpa using sr,o⟩
 | true=>
  rw [hh] at eh
  have hcs:=hc sg
  obtain ⟨u,hu⟩ : ∃ u:Nat,tb.pd sg=(u:Int):=⟨(tb.pd sg).toNat,by omega⟩
  have ec:tb.cnt (sg:Int)=(u:Int):=by unfold Tb.cnt;rw [if_pos hsg,zw,hu]
  rw [hu] at hcs ⊢
  have hs0:=a.hs
  have ls:=a.ls
  clear hc a hsg
  refine qx1 ?_
  refine Run.region ?_
  have oG:Old h (h.reserve 1):=⟨by simp,fun j _=>H.get_reserve ..⟩
  have xG:(h.reserve 1).nx=h.nx+1:=by simp
  have sG:=sr.keep (zq _) oG
  have PG:=P.old oG
  generalize h.reserve 1=G at oG xG sG PG ⊢
  have gG:G.get w=some (.cells cs false):=by rw [oG.2 _ lw,hw]
  have e3:=jhV hcl (d:=d) om (h:=G) (by rw [oG.2 _ ls,hs0]) (sg:Int)
  rw [ec] at e3
  have e1:=jcC hcl (d:=d) (u:=sg) om om PG
  have e2:=jcC hcl (d:=d) (u:=u) om om PG
  have d1:=jbw (u:=sg) om
  have d2:=jbw (u:=u) om
  have n0:=o.1
  refine qx1 ?_
  refine Ops.callf_chk rfl e1 (jav rfl gG q1 rfl jaA) ?_
  refine Ops.sadd rfl rfl Zc ?_
  refine Ops.sadd rfl rfl Zc ?_
  refine qx1 ?_
  refine Ops.sadd rfl rfl Zc ?_
  refine Ops.strP_at (h0:=h0) (l:=L) (t:=tSig++dec sg++[32]++dec u) rfl rfl (o.trans oG) sG om om (fun e=>by have:=(sr.at_ge e).2;omega) om fun v' h' s' o' _ _=>?_
  refine qx1 ?_
  exact End.nil ⟨rfl,v',_,rfl,by simpa using s',o'⟩
theorem iw_fd {d i bx:Nat} {t:V} (hd:2<=d) (P:Pw h) (a:WF h w s ow (fun i=>atS (wxs l) (i:Int)) l now tb no) (u:Uniq (wxs l)) (hlen:l.length<=1000) (hi:i<96) (g:h.get bx=some (.cells (plc (atS (wxs l) (i:Int))) false)) (hb:bx<h.nx) (o:Old h0 h) (sr:SR h0.nx h v L) (hl:L.length<=5000) :
  Run (cl d) fuel c65_17 [] [(0,.p w 0),(3,v),(4,.i (i:Int)),(5,.p bx 0),(25,t),(26,.i (i:Int))] h (fun x e h'=>x = .normal /\ ∃ v',(e=[(0,.p w 0),(3,v'),(25,t),(26,.i (i:Int))]\/e=[(0,.p w 0),(3,v'),(4,.i (i:Int)),(5,.p bx 0),(25,t),(26,.i (i:Int)),(31,.bool false)])/\SR h0.nx h' v' (L++jhw (wxs l) i)/\Old h0 h'):=by
 obtain ⟨sa,c,hw,hsl⟩:=a.head
 have lw:=a.lw
 cases ha:atS (wxs l) (i:Int) with
 | none=>
  have hS:jhw (wxs l) i=[]:=by unfold jhw jbM;rw [ha]
  rw [hS,List.append_nil]
  rw [ha] at g
  have q0:(plc none)[0+0]?=some (.bool false):=rfl
  refine qx1 ?_
  exact End.nil ⟨rfl,v,.inr rfl,sr,o⟩
 | some p=>
  obtain ⟨n,k⟩:=p
  obtain ⟨x,hx,hk,_⟩:=id (jm9 ha)
  obtain ⟨t',ht,rfl⟩:=jgq hx
  have hS:jhw (wxs l) i=[tFd++dec i++jjQ++dec n++tEnd++dec (endK t'.x k)]:=ja5 u (jm9 ha) hx
  rw [hS]
  rw [ha] at g
  have q0:(plc (some (n,k)))[0+0]?=some (.bool true):=rfl
  have q1:(plc (some (n,k)))[0+1]?=some (.i (n:Int)):=rfl
  have q2:(plc (some (n,k)))[0+2]?=some (.i (k:Int)):=rfl
  have hn:=x_lt ht
  have X:=a.ok n t' ht
  have hxw:=X.hx
  have lx:=X.lx
  have c1:(wc (fun i=>atS (wxs l) (i:Int)) (.slice sa l.length c) s now no)[0+288]?=some (.slice sa l.length c):=jaK rfl
  obtain ⟨z,rfl,z1,z2,z3⟩:=hsl (by rintro rfl;simp at hn)
  have w2:(wps l)[0+(n:Int).toNat*1]?=some (.p t'.wb 0):=by rw [show 0+(n:Int).toNat*1=n by omega];exact jc8 ht
  have q15:(t'.x.cells t'.r0 t'.r1 t'.wv)[0+15]?=some (.i t'.x.backlog):=rfl
  have hxw:h.get t'.wb=some (.cells (t'.x.cells t'.r0 t'.r1 t'.wv) false):=hxw
  have hk2:endK t'.x k<=2:=by unfold endK;split<;>omega
  clear a X u hS
  generalize wc (fun i=>atS (wxs l) (i:Int)) (.slice (some (z,0)) l.length c) s now no=cs at hw c1
  generalize plc (some (n,k))=pl at g q0 q1 q2
  generalize t'.x.cells t'.r0 t'.r1 t'.wv=xc at hxw q15
  suffices key : ∀ (K6:Nat) (sb:Env),K6=endK t'.x k->Run (cl d) fuel c65_15 [] ((0,.p w 0) :: (3,v) :: (4,.i (i:Int)) :: (5,.p bx 0) :: (6,.i (K6:Int)) :: (25,t) :: (26,.i (i:Int)) :: sb) h (fun x e h'=>x = .normal /\ ∃ v',(e=[(0,.p w 0),(3,v'),(25,t),(26,.i (i:Int))]\/e=[(0,.p w 0),(3,v'),(4,.i (i:Int)),(5,.p bx 0),(25,t),(26,.i (i:Int)),(31,.bool false)])/\SR h0.nx h' v' (L++[tFd++dec i++jjQ++dec n++tEnd++dec (endK t'.x k)])/\Old h0 h') by
   obtain ⟨C,hC⟩ : ∃ C,C=c65_15:=⟨_,rfl⟩
   simp only [c65_17,c65_16,<- hC,yB]
   by_cases hb':t'.x.backlog>0
   ·have ek:2=endK t'.x k:=(if_pos hb').symm
    refine qx1 ?_
    rw [hC]
    exact key 2 _ ek
   ·have ek:k=endK t'.x k:=(if_neg hb').symm
    refine qx1 ?_
    rw [hC]
    exact key k _ ek
  rintro K6 sb rfl
  generalize endK t'.x k=K6 at hk2
  refine Run.region ?_
  have oG:Old h (h.reserve 1):=⟨by simp,fun j _=>H.get_reserve ..⟩
  have xG:(h.reserve 1).nx=h.nx+1:=by simp
  have sG:=sr.keep (zq _) oG
  have PG:=P.old oG
  generalize h.reserve 1=G at oG xG sG PG ⊢
  have gG:G.get bx=some (.cells pl false):=by rw [oG.2 _ hb,g]
  have e1:=jcC hcl (d:=d) (u:=i) om om PG
  have e2:=jcC hcl (d:=d) (u:=n) om om PG
  have e3:=jcC hcl (d:=d) (u:=K6) om om PG
  have d1:=jbw (u:=i) om
  have d2:=jbw (u:=n) om
  have d3:=jbw (u:=K6) om
  have n0:=o.1
  refine qx1 ?_
  refine Ops.callf_chk rfl e1 (jav rfl gG q1 rfl jaA) ?_
  refine Ops.sadd rfl rfl Zc ?_
  refine Ops.sadd rfl rfl Zc ?_
  refine qx1 ?_
  refine Ops.sadd rfl rfl Zc ?_
  refine Ops.sadd rfl rfl Zc ?_
  refine qx1 ?_
  refine Ops.sadd rfl rfl Zc ?_
  refine Ops.strP_at (h0:=h0) (l:=L) (t:=tFd++dec i++jjQ++dec n++tEnd++dec K6) rfl rfl (o.trans oG) sG om om (fun e=>by have:=(sr.at_ge e).2;omega) om fun v' h' s' o' _ _=>?_
  refine qx1 ?_
  exact End.nil ⟨rfl,v',.inl rfl,s',o'⟩
end
def WM (h0:H) (w:Nat) (t1 t2 t3:V) (l:List (List UInt8)):Post:=fun x e h'=>x = .normal /\ ∃ v',e=[(0,.p w 0),(3,v'),(65,t1),(66,t2),(67,t3)]/\SR h0.nx h' v' l/\Old h0 h'
section
variable {cl:Nat->Call} (hcl:Sem cl) {h h0 h1:H} {w:Nat} {v v9 t1 t2 t3:V} {L:List (List UInt8)} {xs:List (List UInt8)} {t:WX} {n:Nat}
include hcl
theorem jmw {d:Nat} {sb:Env} (hd:1<=d) (o:Old h0 h1) (sr:SR h0.nx h1 v L) (hl:L.length<=5000) (o1:Old h1 h) (s9:SR h1.nx h v9 xs) (hx:xs≠[]) (hxl:xs.length<=200) (hj:(Lib.join xs [32]).length<=1000000) (g:h.get t.wb=some (.cells (t.x.cells t.r0 t.r1 t.wv) false)) :
  Run (cl d) fuel c65_11 [] ((0,.p w 0) :: (3,v) :: (8,.p t.wb 0) :: (9,v9) :: (65,t1) :: (66,t2) :: (67,t3) :: sb) h (WM h0 w t1 t2 t3 (L++[Lib.join (xs++if t.x.reset then [jew] else []) [32]])):=by
 have q14:(t.x.cells t.r0 t.r1 t.wv)[0+14]?=some (.bool t.x.reset):=rfl
 generalize t.x.cells t.r0 t.r1 t.wv=cs at g q14
 suffices key : ∀ (sb:Env) (v5:V) (h5:H) (ys:List (List UInt8)),Old h1 h5->SR h1.nx h5 v5 ys->ys.length<=300->(Lib.join ys [32]).length<=2000000->Run (cl d) fuel c65_5 [] ((0,.p w 0) :: (3,v) :: (9,v5) :: (65,t1) :: (66,t2) :: (67,t3) :: sb) h5 (WM h0 w t1 t2 t3 (L++[Lib.join ys [32]])) by
  obtain ⟨C,hC⟩ : ∃ C,C=c65_5:=⟨_,rfl⟩
  simp only [c65_11,<- hC,yH]
  cases hr:t.x.reset with
  | false=>
   rw [hr] at q14
   refine qx1 ?_
   rw [hC]
   simpa using key _ v9 h xs o1 s9 om om
  | true=>
   rw [hr] at q14
   refine qx1 ?_
   refine Ops.strP (h0:=h1) (l:=xs) (t:=jew) rfl rfl o1 s9 om fun v5 h5 s5 o5 _ _=>?_
   refine qx1 ?_
   rw [hC]
   refine key _ v5 h5 _ o5 s5 Zc ?_
   obtain ⟨x,ys,rfl⟩:=List.exists_cons_of_ne_nil hx
   rw [if_pos rfl,List.cons_append,jbR,jbG,jhL]
   rw [jbR] at hj
   simp at hj ⊢;omega
 intro sb v5 h5 ys o5 s5 hy hyj
 have ej:=w_JoinS hcl (d:=d) (t:=[32]) hd s5 om om
 refine qx1 ?_
 refine Ops.strP (h0:=h0) (l:=L) (t:=Lib.join ys [32]) rfl rfl (o.trans o5) (sr.keep (zq _) o5) om fun v' h' s' o' _ _=>?_
 refine qx1 ?_
 exact End.nil ⟨rfl,v',rfl,s',o'⟩
omit hcl in
theorem len_get {b:Nat} {L:List Int} (hL : ∀ m∈L,0<=m/\m<=1000) : ∀ i,(jaJ ((L.take i).map fun m=>dec m.toNat)).length<=21*i+b*0:=by
 intro i
 induction i with
 | zero=>simp [jaJ]
 | succ i ih=>
  rw [List.take_add_one,List.map_append,jbG,zg]
  cases hi:L[i]? with
  | none=>simp [jaJ] at ih ⊢;omega
  | some m=>
   have:=hL m (zc hi)
   have:=jbw (u:=m.toNat) om
   simp [jaJ] at ih ⊢;omega
theorem iw_listen {d:Nat} {sb:Env} {ow:Nat->Nat} (hd:1<=d) (P:Pw h1) (X:XOk h1 ow n t) (wi:WiOk t.x) (hb:0<t.x.backlog) (wt:t.x.waiting.length<=64 /\ ∀ m∈t.x.waiting,0<=m/\m<=1000) (o:Old h0 h1) (sr:SR h0.nx h1 v L) (hl:L.length<=5000) (o1:Old h1 h) (s9:SR h1.nx h v9 [jc0,dec n]) (hn:n<=100000) :
  Run (cl d) fuel c65_9 [.seq c65_11] ((0,.p w 0) :: (3,v) :: (8,.p t.wb 0) :: (9,v9) :: (65,t1) :: (66,t2) :: (67,t3) :: sb) h (WM h0 w t1 t2 t3 (L++[jgR n t.x])):=by
 have lx:=X.lx
 have g1:h1.get t.wb=some (.cells (t.x.cells t.r0 t.r1 t.wv) false):=X.hx
 have g:h.get t.wb=some (.cells (t.x.cells t.r0 t.r1 t.wv) false):=by rw [o1.2 _ lx,g1]
 have q15:(t.x.cells t.r0 t.r1 t.wv)[0+15]?=some (.i t.x.backlog):=rfl
 obtain ⟨b,hbb⟩ : ∃ b:Nat,t.x.backlog=(b:Int):=⟨t.x.backlog.toNat,by omega⟩
 have hbl:=wi.bl
 rw [hbb] at q15 hbl
 have eI:=jcC hcl (d:=d) (u:=b) hd om (P.old o1)
 have dn:=jbw (u:=n) om
 have db:=jbw (u:=b) om
 obtain ⟨⟨a,c,hv,_,_,hin⟩,_⟩:=X.wait
 have q16:(t.x.cells t.r0 t.r1 t.wv)[0+16]?=some (.slice a t.x.waiting.length c):=by rw [<- hv];rfl
 have hline:jgR n t.x=Lib.join (([jc0,dec n]++[jdb,dec b]++t.x.waiting.map fun m=>dec m.toNat)++if t.x.reset then [jew] else []) [32]:=by
  rw [show (([jc0,dec n]++[jdb,dec b]++t.x.waiting.map fun m=>dec m.toNat)++if t.x.reset then [jew] else [])=jc0 :: dec n :: jkZ t.x by unfold jkZ;rw [if_pos hb,hbb,zw];simp,jbR];rfl
 rw [hline]
 have hlen:=len_get (b:=0) wt.2
 obtain ⟨C,hC⟩ : ∃ C,C=c65_11:=⟨_,rfl⟩
 rw [<- hC]
 refine qx1 ?_
 refine Ops.make (ob := .cells [V.str jdb,V.str (dec b)] false) (mk:=fun b=>.slice (some (b,0)) 2 (.fix 2)) rfl rfl ?_
 refine Ops.strA (h0:=h1) (l:=[jc0,dec n]) (new:=[jdb,dec b]) rfl rfl o1.new (s9.keep (zq _) (Old.refl h).new) om (jac _) Zd rfl Zd (fun _ _=>rfl) fun v4 h4 s4 o4 _ _=>?_
 have g4:h4.get t.wb=some (.cells (t.x.cells t.r0 t.r1 t.wv) false):=by rw [o4.2 _ lx,g1]
 clear g
 refine qx1 ?_
 refine Run.loop (fun m e g=>∃ (i:Nat) (v5:V),m=t.x.waiting.length-i/\i<=t.x.waiting.length/\e=[(0,.p w 0),(3,v),(8,.p t.wb 0),(9,v5),(65,t1),(66,t2),(67,t3),(91,.slice a t.x.waiting.length c),(92,.i (t.x.waiting.length:Int)),(93,.i (i:Int))]/\SR h1.nx g v5 ([jc0,dec n]++[jdb,dec b]++(t.x.waiting.take i).map fun m=>dec m.toNat)/\Old h1 g)
  (k:=t.x.waiting.length) Ze ⟨0,v4,rfl,by omega,rfl,by simpa using s4,o4⟩ ?_
 rintro _ _ g ⟨i,v5,rfl,hi,rfl,s5,o5⟩ f ih
 by_cases hlt:(i:Int)<t.x.waiting.length
 case neg=>
  obtain rfl:i=t.x.waiting.length:=by omega
  have hlen:=hlen t.x.waiting.length
  rw [List.take_length] at s5 hlen
  clear ih hin
  refine qx1 ?_
  rw [hC]
  refine jmw hcl hd o sr hl o5 s5 Zd Zc ?_ (by rw [o5.2 _ lx,g1])
  rw [show ([jc0,dec n]++[jdb,dec b]++t.x.waiting.map fun m=>dec m.toNat)=jc0 :: ([dec n,jdb,dec b]++t.x.waiting.map fun m=>dec m.toNat) from rfl,jbR,jbG]
  simp [jaJ] at hlen ⊢;omega
 obtain ⟨m,hm⟩ : ∃ m,t.x.waiting[i]?=some m:=⟨_,za om⟩
 obtain ⟨m0,m1⟩:=wt.2 m (zc hm)
 obtain ⟨u,rfl⟩ : ∃ u:Nat,m=(u:Int):=⟨m.toNat,by omega⟩
 obtain ⟨zb,zo,cs,ro,rfl,z1,z2,z3⟩:=hin (by rintro e;rw [e] at hm;simp at hm)
 have gz:g.get zb=some (.cells cs ro):=by rw [o5.2 zb z1,z2]
 have hz:cs[zo+(i:Int).toNat*1]?=some (.i (u:Int)):=by
  rw [show zo+(i:Int).toNat*1=zo+i by omega];exact z3 i _ hm
 have eU:=jcC hcl (d:=d) (u:=u) hd om (P.old o5)
 have hi1:(i:Int)+1=((i+1:Nat):Int):=by omega
 have hwl:=wt.1
 clear hin z3 hlen
 refine qx1 ?_
 refine Ops.strP (h0:=h1) (t:=dec u) rfl rfl o5 s5 Zc fun v6 h6 s6 o6 _ _=>?_
 refine qx1 ?_
 rw [hi1]
 refine ih (t.x.waiting.length-(i+1)) om _ _ ⟨i+1,v6,rfl,by omega,rfl,?_,o6⟩
 rw [List.take_add_one,hm]
 simpa using s6
theorem iw_ends {d:Nat} {sb:Env} {ow:Nat->Nat} (hd:9<=d) (P:Pw h1) (X:XOk h1 ow n t) (wi:WiOk t.x) (hb : ¬ 0<t.x.backlog) (o:Old h0 h1) (sr:SR h0.nx h1 v L) (hl:L.length<=5000) (o1:Old h1 h) (s9:SR h1.nx h v9 [jc0,dec n]) (hn:n<=100000) :
  Run (cl d) fuel c65_10 [.seq c65_11] ((0,.p w 0) :: (3,v) :: (8,.p t.wb 0) :: (9,v9) :: (65,t1) :: (66,t2) :: (67,t3) :: sb) h (WM h0 w t1 t2 t3 (L++[jgR n t.x])):=by
 have lx:=X.lx
 have g1:h1.get t.wb=some (.cells (t.x.cells t.r0 t.r1 t.wv) false):=X.hx
 have G : ∀ h',Old h1 h'->h'.get t.wb=some (.cells (t.x.cells t.r0 t.r1 t.wv) false):=fun h' o'=>by rw [o'.2 _ lx,g1]
 have R : ∀ k,k=0\/k=1 -> ∀ h',Old h1 h' -> ∀ q,(t.x.e k).ring=some q->jay h' (t.r k) (t.b k) q t.x.cap/\t.r k<h'.nx/\t.b k<h'.nx:=fun k hk h' o' q hq=>by
  obtain ⟨p1,p2,p3,p4,p5⟩:=X.ring k hk q hq
  have:=o'.1
  exact ⟨p1.keep (o'.2 _ p4) (o'.2 _ p5),by omega,by omega⟩
 have c1:=wi.cap1
 have l0 : ∀ q,t.x.e0.ring=some q->q.length<=t.x.cap:=wi.len 0 (.inl rfl)
 have l1 : ∀ q,t.x.e1.ring=some q->q.length<=t.x.cap:=wi.len 1 (.inr rfl)
 have W0:=jeI (w:=t.x.e0.what) (s:=t.x.e0.shut) l0 c1
 have W1:=jeI (w:=t.x.e1.what) (s:=t.x.e1.shut) l1 c1
 have dn:=jbw (u:=n) om
 have hline:jgR n t.x=Lib.join (([jc0,dec n]++jbs t.x.e0.what t.x.e0.shut t.x.e0.ring t.x.cap++jbs t.x.e1.what t.x.e1.shut t.x.e1.ring t.x.cap)++if t.x.reset then [jew] else []) [32]:=by
  rw [show (([jc0,dec n]++jbs t.x.e0.what t.x.e0.shut t.x.e0.ring t.x.cap++jbs t.x.e1.what t.x.e1.shut t.x.e1.ring t.x.cap)++if t.x.reset then [jew] else [])=jc0 :: dec n :: jkZ t.x by unfold jkZ;rw [if_neg hb];simp,jbR];rfl
 rw [hline]
 have wl : ∀ w s r c,(jbs w s r c).length<=3:=fun w s r c=>by unfold jbs;cases s<;>simp
 obtain ⟨vA,hA,eA,sA,oA⟩:=jk6 hcl (d:=d) (r:=t.r0) (b:=t.b0) (cap:=t.x.cap) (e:=t.x.e0) (h:=h) hd (P.old o1) wi.wh.1 (R 0 (.inl rfl) h o1)
 have len0:=wl t.x.e0.what t.x.e0.shut t.x.e0.ring t.x.cap
 have len1:=wl t.x.e1.what t.x.e1.shut t.x.e1.ring t.x.cap
 have g:=G h o1
 have gA:=G hA (o1.trans oA)
 have hsz:(t.x.cells t.r0 t.r1 t.wv).length=17:=rfl
 have k1 : ∀ h',Old h1 h'->h'.get t.wb=some (.cells (t.x.cells t.r0 t.r1 t.wv) false):=G
 obtain ⟨C,hC⟩ : ∃ C,C=c65_11:=⟨_,rfl⟩
 rw [<- hC]
 refine qx1 ?_
 refine Ops.loadN rfl g (by rw [hsz];decide) ?_
 refine qx1 ?_
 refine Ops.loadN rfl g (by rw [hsz];decide) ?_
 refine Ops.callf_chk rfl eA (jfl rfl gA (by rw [hsz];decide) rfl rfl jaA) ?_
 refine Ops.strS (h0:=h1) (l:=[jc0,dec n]) rfl rfl (o1.trans oA) (s9.keep (zq _) oA) sA jeJ Zc (fun h' o'=>jfl rfl (k1 h' o') (by rw [hsz];decide) rfl rfl jaA) fun vB hB sB oB _ _=>?_
 obtain ⟨vC,hC',eC,sC,oC⟩:=jk6 hcl (d:=d) (r:=t.r1) (b:=t.b1) (cap:=t.x.cap) (e:=t.x.e1) (h:=hB) hd (P.old oB) wi.wh.2 (R 1 (.inr rfl) hB oB)
 refine Ops.callf rfl eC ?_
 refine Ops.strS (h0:=h1) rfl rfl (oB.trans oC) (sB.keep (zq _) oC) sC jeJ Zc (fun _ _=>rfl) fun vD hD sD oD _ _=>?_
 refine qx1 ?_
 rw [hC]
 refine jmw hcl om o sr hl oD sD Zd Zc ?_ (G hD oD)
 rw [show [jc0,dec n]++jbs t.x.e0.what t.x.e0.shut t.x.e0.ring t.x.cap++jbs t.x.e1.what t.x.e1.shut t.x.e1.ring t.x.cap=jc0 :: ([dec n]++jbs t.x.e0.what t.x.e0.shut t.x.e0.ring t.x.cap++jbs t.x.e1.what t.x.e1.shut t.x.e1.ring t.x.cap) from rfl,jbR,jbG,jbG,jhL]
 simp only [zg,List.length_cons,List.length_nil] at W0 W1 ⊢;omega
theorem iw_12 {d:Nat} {sb:Env} {ow:Nat->Nat} (hd:9<=d) (P:Pw h1) (X:XOk h1 ow n t) (wi:WiOk t.x) (wt:t.x.waiting.length<=64 /\ ∀ m∈t.x.waiting,0<=m/\m<=1000) (o:Old h0 h1) (sr:SR h0.nx h1 v L) (hl:L.length<=5000) (o1:Old h1 h) (s9:SR h1.nx h v9 [jc0,dec n]) (hn:n<=100000) :
  Run (cl d) fuel c65_12 [] ((0,.p w 0) :: (3,v) :: (8,.p t.wb 0) :: (9,v9) :: (65,t1) :: (66,t2) :: (67,t3) :: sb) h (WM h0 w t1 t2 t3 (L++[jgR n t.x])):=by
 have q15:(t.x.cells t.r0 t.r1 t.wv)[0+15]?=some (.i t.x.backlog):=rfl
 have g:h.get t.wb=some (.cells (t.x.cells t.r0 t.r1 t.wv) false):=by rw [o1.2 _ X.lx];exact X.hx
 obtain ⟨C9,hC9⟩ : ∃ C,C=c65_9:=⟨_,rfl⟩
 obtain ⟨C10,hC10⟩ : ∃ C,C=c65_10:=⟨_,rfl⟩
 obtain ⟨C11,hC11⟩ : ∃ C,C=c65_11:=⟨_,rfl⟩
 simp only [c65_12,<- hC9,<- hC10,<- hC11,yD]
 by_cases hb:0<t.x.backlog
 ·have hb':t.x.backlog>0:=hb
  have T:=fun sb=>iw_listen (sb:=sb) hcl (d:=d) (w:=w) (t1:=t1) (t2:=t2) (t3:=t3) om P X wi hb wt o sr hl o1 s9 hn
  rw [<- hC9,<- hC11] at T
  clear wi wt X
  refine qx1 ?_
  exact T _
 ·have hb' : ¬ t.x.backlog>0:=hb
  have T:=fun sb=>iw_ends (sb:=sb) hcl (d:=d) (w:=w) (t1:=t1) (t2:=t2) (t3:=t3) hd P X wi hb o sr hl o1 s9 hn
  rw [<- hC10,<- hC11] at T
  clear wi wt X
  refine qx1 ?_
  exact T _
end
theorem plc_one {p:Option (Nat × Nat)} : (plc p).all V.one=true:=by cases p<;>rfl
section
variable {cl:Nat->Call} (hcl:Sem cl) {h h0:H} {w s:Nat} {ow:Nat->Nat} {l:List WX} {now:Int} {tb:Tb} {no:Option (Nat × Nat)} {v:V} {L:List (List UInt8)}
include hcl
theorem iw_wireB {d n z:Nat} {sb:Env} {cp:Cap} (hd:9<=d) (P:Pw h) (a:WF h w s ow (fun i=>atS (wxs l) (i:Int)) l now tb no) (ok:WsOk (wxs l)) {t:WX} (ht:l[n]?=some t) (hz:h.get z=some (.cells (wps l) false)) (o:Old h0 h) (sr:SR h0.nx h v L) (hl:L.length<=5000) :
  Run (cl d) fuel (.block 3 c65_13) [] ((0,.p w 0) :: (3,v) :: (65,.slice (some (z,0)) l.length cp) :: (66,.i (l.length:Int)) :: (67,.i (n:Int)) :: sb) h (WM h0 w (.slice (some (z,0)) l.length cp) (.i (l.length:Int)) (.i (n:Int)) (L++[jgR n t.x])):=by
 have X:=a.ok n t ht
 have hn:=x_lt ht
 have hl2:=ok.len
 rw [List.length_map] at hl2
 have hx:=jai ht
 have wi:=ok.ok _ (zc hx)
 have wt:t.x.waiting.length<=64 /\ ∀ m∈t.x.waiting,0<=m/\m<=1000:=by
  have hx:=zc hx
  refine ⟨(ok.wait _ hx).1,fun m hm=>?_⟩
  obtain ⟨y,y0,y1,_⟩:=(ok.wait _ hx).2 m hm
  have:=w_lt y1
  rw [List.length_map] at this
  omega
 have w2:(wps l)[0+(n:Int).toNat*1]?=some (.p t.wb 0):=by rw [show 0+(n:Int).toNat*1=n by omega];exact jc8 ht
 have eI:=jcC hcl (d:=d) (u:=n) om om P
 obtain ⟨C,hC⟩ : ∃ C,C=c65_12:=⟨_,rfl⟩
 simp only [c65_13,<- hC,yH]
 have lx:=X.lx
 clear ok
 refine qx1 ?_
 refine Ops.make (ob := .cells [V.str jc0,V.str (dec n)] false) (mk:=fun b=>.slice (some (b,0)) 2 (.fix 2)) rfl rfl ?_
 have o1:Old h (h.new (.cells [V.str jc0,V.str (dec n)] false)):=(Old.refl h).new
 have s9:SR h.nx (h.new (.cells [V.str jc0,V.str (dec n)] false)) (.slice (some (h.nx,0)) 2 (.fix 2)) [jc0,dec n]:=⟨h.nx,_,by omega,by simp,rfl,.inr rfl,jac _⟩
 generalize h.new (.cells [V.str jc0,V.str (dec n)] false)=h1 at o1 s9 ⊢
 generalize V.slice (some (h.nx,0)) 2 (.fix 2)=v9 at s9 ⊢
 have T:=fun sb=>iw_12 (sb:=sb) hcl (d:=d) (w:=w) (t1 := .slice (some (z,0)) l.length cp) (t2 := .i (l.length:Int)) (t3 := .i (n:Int)) hd P X wi wt o sr hl o1 s9 om
 rw [<- hC] at T
 clear wi wt X a
 refine qx1 ?_
 refine Run.cut _ (T _) ?_
 rintro _ _ h' ⟨rfl,v',rfl,s',o'⟩
 refine qx1 ?_
 exact End.nil ⟨rfl,v',rfl,s',o'⟩
theorem ww_Image {d:Nat} {ws:Ws} (hd:10<=d) (P:Pw h) (a:WSt h w s ow ws now tb no) (ok:WsOk ws) (hn:0<=now/\now<=18446744073709551615) (hc:tb.ok 1000000) (nt:NtOk ws (noI no) (siI no)) :
  ∃ v h',cl d (.fn F.jfu) [.p w 0] h=some (v,h')/\SR h.nx h' v (jjx ws now tb.hd tb.pd no)/\Old h h':=by
 obtain ⟨l,⟨a,fds⟩,rfl⟩:=a
 obtain ⟨u,rfl⟩ : ∃ u:Nat,now=(u:Int):=⟨now.toNat,by omega⟩
 obtain ⟨sa,c,hw,hsl⟩:=a.head
 have hnone:=jb7 hcl (d:=d-1) om a
 have lw:=a.lw
 have hl2:=ok.len
 rw [List.length_map] at hl2
 have q1:(wc (fun i=>atS (wxs l) (i:Int)) (.slice sa l.length c) s u no)[0+290]?=some (.int .u64 (u:Int)):=jlR rfl
 have q0:(wc (fun i=>atS (wxs l) (i:Int)) (.slice sa l.length c) s u no)[0+288]?=some (.slice sa l.length c):=jaK rfl
 have hwl:=jbm (f:=fun i=>atS (wxs l) (i:Int)) (wv := .slice sa l.length c) (s:=s) (now:=u) (no:=no)
 have htab:=jiP (f:=fun i=>atS (wxs l) (i:Int)) (wv := .slice sa l.length c) (s:=s) (now:=u) (no:=no)
 have e1:=w_FmtU hcl (d:=d-1) (u:=u) om om P
 have d1:=jbw (u:=u) om
 generalize wc (fun i=>atS (wxs l) (i:Int)) (.slice sa l.length c) s u no=cs at hw q1 q0 hwl htab
 refine at_ hcl om rfl rfl rfl ?_
 obtain ⟨C2,hC2⟩ : ∃ C,C=c65_2:=⟨_,rfl⟩
 obtain ⟨C4,hC4⟩ : ∃ C,C=c65_4:=⟨_,rfl⟩
 obtain ⟨C13,hC13⟩ : ∃ C,C=c65_13:=⟨_,rfl⟩
 obtain ⟨C17,hC17⟩ : ∃ C,C=c65_17:=⟨_,rfl⟩
 simp only [c65,c65_21,c65_20,c65_19,c65_18,c65_14,c65_3,<- hC2,<- hC4,<- hC13,<- hC17,yB,yC,yD,yF,yH]
 refine qx1 ?_
 refine Ops.sadd rfl rfl Zc ?_
 refine Ops.make (ob := .cells [V.str (tNow++dec u)] false) (mk:=fun b=>.slice (some (b,0)) 1 (.fix 1)) rfl rfl ?_
 have o2:Old h (h.new (.cells [V.str (tNow++dec u)] false)):=(Old.refl h).new
 have s2:SR h.nx (h.new (.cells [V.str (tNow++dec u)] false)) (.slice (some (h.nx,0)) 1 (.fix 1)) ([tNow++dec u]++jcW (wxs l) 0):=⟨h.nx,_,by omega,by simp,rfl,.inr rfl,jac _⟩
 generalize h.new (.cells [V.str (tNow++dec u)] false)=h2 at o2 s2 ⊢
 generalize V.slice (some (h.nx,0)) 1 (.fix 1)=v2 at s2 ⊢
 have hw2:h2.get w=some (.cells cs false):=by rw [o2.2 _ lw,hw]
 clear e1 hnone
 refine qx1 ?_
 refine Ops.loadN rfl hw2 (by rw [hwl];decide) ?_
 rw [show 0+0=0 from rfl,htab]
 refine qx1 ?_
 refine Run.loop (fun m e g=>∃ (i:Nat) (v:V),m=96-i/\i<=96/\e=[(0,.p w 0),(3,v),(25,.agg (jdf fun i=>atS (wxs l) (i:Int))),(26,.i (i:Int))]/\SR h.nx g v ([tNow++dec u]++jcW (wxs l) i)/\Old h g)
  (k:=96) Ze ⟨0,v2,rfl,by omega,rfl,s2,o2⟩ ?_
 clear o2 s2 hw2
 rintro _ _ g ⟨i,v,rfl,hi,rfl,sr,o⟩ f ih
 have L1:=jeo (wxs l) i
 by_cases hlt:i<96
 case pos=>
  have hi1:(i:Int)+1=((i+1:Nat):Int):=by omega
  have aG:=a.old o
  have PG:=P.old o
  clear hsl fds hc nt
  refine qx1 ?_
  refine Ops.ixAn (m:=3) rfl rfl hlt (by rw [ja3];omega) (jfF hlt) ?_
  refine Ops.make (ob := .cells [.bool false,.i 0,.i 0] false) (mk:=fun b=>.p b 0) rfl rfl ?_
  have o3:Old g ((g.new (.cells [.bool false,.i 0,.i 0] false)).set g.nx (.cells (plc (atS (wxs l) (i:Int))) false)):=(Old.refl g).new.set (zq _)
  have T:=iw_fd hcl (d:=d-1) (t := .agg (jdf fun i=>atS (wxs l) (i:Int))) om (PG.old o3) (aG.old o3) ok.uniq hl2 hlt (jab _) Zd (o.trans o3) (sr.keep (zq _) o3) Zc
  rw [<- hC17] at T
  refine qx1 ?_
  refine Ops.storeN rfl rfl rfl plc_one (jac _) (by decide) ?_
  rw [show jar [V.bool false,.i 0,.i 0] 0 (plc (atS (wxs l) (i:Int)))=plc (atS (wxs l) (i:Int)) from rfl]
  refine qx1 ?_
  refine Run.cut _ T ?_
  rintro _ _ h' ⟨rfl,v',rfl | rfl,s',o'⟩
  all_goals
   repeat' (first|refine qxy ?_|refine zbf rfl (fun _=>?_) fun _=>?_|refine zbg rfl (fun _=>?_) fun _=>?_|refine zbh rfl (fun _=>?_) fun _=>?_|refine zbm rfl (fun _=>?_) fun _=>?_|refine zbn rfl (fun _=>?_) fun _=>?_)
   rw [hi1]
   exact ih (96-(i+1)) om _ _ ⟨i+1,v',rfl,by omega,rfl,by rw [jcW,<- List.append_assoc];exact s',o'⟩
 obtain rfl:i=96:=by omega
 have hlt' : ¬ ((96:Nat):Int)<96:=by omega
 clear ih
 have gw:g.get w=some (.cells cs false):=by rw [o.2 w lw,hw]
 refine qx1 ?_
 refine Run.loop (fun m e g=>∃ (i:Nat) (v:V),m=l.length-i/\i<=l.length/\e=[(0,.p w 0),(3,v),(65,.slice sa l.length c),(66,.i (l.length:Int)),(67,.i (i:Int))]/\SR h.nx g v ([tNow++dec u]++jcW (wxs l) 96++jgl (wxs l) i)/\Old h g)
  (k:=l.length) Ze ⟨0,v,rfl,by omega,rfl,by simpa [jgl] using sr,o⟩ ?_
 clear o sr v g gw
 rintro _ _ g ⟨i,v,rfl,hi,rfl,sr,o⟩ f ih
 have L2:=jfh (wxs l) i
 by_cases hlt:i<l.length
 case pos=>
  have hlt':(i:Int)<(l.length:Int):=by omega
  have hi1:(i:Int)+1=((i+1:Nat):Int):=by omega
  obtain ⟨t,ht⟩ : ∃ t,l[i]?=some t:=⟨_,za hlt⟩
  obtain ⟨z,rfl,z1,z2,z3⟩:=hsl (by rintro rfl;simp at hlt)
  have T:=fun sb=>iw_wireB (sb:=sb) hcl (d:=d-1) (cp:=c) om (P.old o) (a.old o) ok ht (by rw [o.2 z z1,z3]) o sr (by simp at L1 L2 ⊢;omega)
  rw [<- hC13] at T
  clear hsl fds hc nt
  refine qb1 ?_
  refine Run.cut _ (T _) ?_
  rintro _ _ h' ⟨rfl,v',rfl,s',o'⟩
  refine qx1 ?_
  rw [hi1]
  refine ih (l.length-(i+1)) om _ _ ⟨i+1,v',rfl,by omega,rfl,?_,o'⟩
  rw [jgl,jai ht,<- List.append_assoc];exact s'
 obtain rfl:i=l.length:=by omega
 have hlt' : ¬ (l.length:Int)<(l.length:Int):=by omega
 clear ih
 refine qx1 ?_
 refine Run.loop (fun m e g=>∃ (i:Nat) (v:V),m=31-i/\i<=31/\e=[(0,.p w 0),(3,v),(12,.i ((i+1:Nat):Int))]/\SR h.nx g v ([tNow++dec u]++jcW (wxs l) 96++jgl (wxs l) l.length++jde tb.hd tb.pd i)/\Old h g)
  (k:=31) Ze ⟨0,v,rfl,by omega,rfl,by simpa [jde] using sr,o⟩ ?_
 clear o sr v g
 rintro _ _ g ⟨i,v,rfl,hi,rfl,sr,o⟩ f ih
 have L3:=jd6 tb.hd tb.pd i
 by_cases hlt:i<31
 case pos=>
  have hlt':((i+1:Nat):Int)<=31:=by omega
  have hi1:((i+1:Nat):Int)+1=((i+1+1:Nat):Int):=by omega
  have T:=fun sb=>iw_sig (sb:=sb) hcl (d:=d-1) (sg:=i+1) om (P.old o) (a.old o) om om hc o sr (by simp at L1 L2 L3 ⊢;omega)
  rw [<- hC2] at T
  clear hsl fds hc nt
  refine qb1 ?_
  refine Run.cut _ (T _) ?_
  rintro _ _ h' ⟨rfl,v',sb',rfl,s',o'⟩
  refine qx1 ?_
  rw [hi1]
  exact ih (31-(i+1)) om _ _ ⟨i+1,v',rfl,by omega,rfl,by rw [jde,<- List.append_assoc];exact s',o'⟩
 obtain rfl:i=31:=by omega
 have hlt' : ¬ ((31+1:Nat):Int)<=31:=by omega
 clear ih hsl hc
 refine qx1 ?_
 rw [hC4]
 refine Run.fin_mono (iw_end hcl (d:=d-1) om (P.old o) (a.old o) nt hl2 o sr (by simp at L1 L2 L3 ⊢;omega)) fun x h' ⟨s',o'⟩=>⟨?_,o'⟩
 unfold jjx
 rw [List.length_map];exact s'
end
section
variable {cl:Nat->Call} (hcl:Sem cl)
include hcl
def LM (h0:H) (rw n:Nat) (l:List (List UInt8)) (s:List UInt8):Post:=fun x e h'=>x = .normal /\ ∃ v',e=[(0,.p rw 0),(3,v'),(7,.i (n:Int))]/\SR h0.nx h' v' (l++[s])/\Old h0 h'
omit hcl in
theorem jmx {cl:Nat->Call} {d n bx rw:Nat} {v:V} {l:List (List UInt8)} {s:List UInt8} {r:RX} {h h0:H} {sb:Env} (o:Old h0 h) (g:h.get bx=some (.cells r.cells false)) (sr:SR h0.nx h v l) (hl:l.length<=5000) (hs:s.length<=900000) :
  Run (cl d) fuel c66_9 [] ((0,.p rw 0) :: (3,v) :: (7,.i (n:Int)) :: (8,.p bx 0) :: (9,.str s) :: sb) h (LM h0 rw n l (s++jaJ (if r.x.reset then [jew] else []))):=by
 have q17:r.cells[0+17]?=some (.bool r.x.reset):=rfl
 cases hr:r.x.reset with
 | false=>
  rw [hr] at q17
  refine qx1 ?_
  refine Ops.strP (h0:=h0) (l:=l) (t:=s) rfl rfl o sr om fun v' h' s' o' _ _=>?_
  refine qx1 ?_
  exact End.nil ⟨rfl,v',rfl,by simpa [jaJ] using s',o'⟩
 | true=>
  rw [hr] at q17
  refine qx1 ?_
  refine Ops.sadd rfl rfl Zc ?_
  refine qx1 ?_
  refine Ops.strP (h0:=h0) (l:=l) (t:=s++[32,114,101,115,101,116]) rfl rfl o sr om fun v' h' s' o' _ _=>?_
  refine qx1 ?_
  exact End.nil ⟨rfl,v',rfl,by simpa [jaJ] using s',o'⟩
theorem im_wire {d n bx rw q:Nat} {v:V} {l:List (List UInt8)} {r:RX} {h h0:H} (hd:5<=d) (o:Old h0 h) (g:h.get bx=some (.cells r.cells false)) (lb:bx<h.nx) (A:ROk h rw q r) (wi:WiOk r.x) (wt:r.x.waiting.length<=64 /\ ∀ m∈r.x.waiting,0<=m/\m<=1000) (sr:SR h0.nx h v l) (hl:l.length<=5000) (hn:n<=100000) :
  Run (cl d) fuel c66_10 [] [(0,.p rw 0),(3,v),(7,.i (n:Int)),(8,.p bx 0)] h (LM h0 rw n l (jgR n r.x)):=by
 have q18:r.cells[0+18]?=some (.i r.x.backlog):=rfl
 have q19:r.cells[0+19]?=some r.vw:=rfl
 have q16:r.cells[0+16]?=some (.i (r.x.cap:Int)):=rfl
 obtain ⟨h1,e1,o1⟩:=jbA hcl (d:=d) (u:=n) (h:=h) om om
 have dl:=jbw (u:=n) om
 have g1:h1.get bx=some (.cells r.cells false):=by rw [o1.2 bx lb,g]
 have oh1:=o.trans o1
 have s1:=sr.keep (zq _) o1
 have n1:=o1.1
 obtain ⟨C,hC⟩ : ∃ C,C=c66_9:=⟨_,rfl⟩
 simp only [c66_10,<- hC,uF]
 unfold jgR jkZ
 rw [show jaJ (dec n :: ((if 0<r.x.backlog then [jdb,dec r.x.backlog.toNat]++r.x.waiting.map (fun m=>dec m.toNat) else jbs r.x.e0.what r.x.e0.shut r.x.e0.ring r.x.cap++jbs r.x.e1.what r.x.e1.shut r.x.e1.ring r.x.cap)++if r.x.reset then [jew] else []))=32 :: dec n++(jaJ (if 0<r.x.backlog then [jdb,dec r.x.backlog.toNat]++r.x.waiting.map (fun m=>dec m.toNat) else jbs r.x.e0.what r.x.e0.shut r.x.e0.ring r.x.cap++jbs r.x.e1.what r.x.e1.shut r.x.e1.ring r.x.cap)++jaJ (if r.x.reset then [jew] else [])) by
  rw [<- jbG];simp [jaJ]]
 rw [<- List.append_assoc,<- List.append_assoc]
 refine qx1 ?_
 refine Ops.sadd rfl rfl Zc ?_
 by_cases hb:0<r.x.backlog
 ·have hb':r.x.backlog>0:=hb
  rw [if_pos hb]
  obtain ⟨b,hbb⟩ : ∃ b:Nat,r.x.backlog=(b:Int):=⟨r.x.backlog.toNat,by omega⟩
  rw [hbb] at q18 hb' ⊢
  have:=wi.bl
  obtain ⟨h2,e2,o2⟩:=jbA hcl (d:=d) (u:=b) (h:=h1) om om
  have dl2:=jbw (u:=b) om
  have g2:h2.get bx=some (.cells r.cells false):=by rw [o2.2 bx om,g1]
  have oh2:=oh1.trans o2
  have s2:=s1.keep (zq _) o2
  have o12:=o1.trans o2
  obtain ⟨⟨a,c,hv,_,_,hin⟩,hfar⟩:=A.w
  rw [hv] at q19 hfar
  clear e1 s1 g A
  refine qx1 ?_
  refine Ops.sadd rfl rfl Zc ?_
  refine qx1 ?_
  refine Ops.sadd rfl rfl Zc ?_
  refine qx1 ?_
  have key : ∀ i,(jaJ ((r.x.waiting.take i).map fun m=>dec m.toNat)).length<=21*i:=by
   intro i
   induction i with
   | zero=>simp [jaJ]
   | succ i ih=>
    rw [List.take_add_one,List.map_append,jbG,zg]
    cases hi:r.x.waiting[i]? with
    | none=>simp [jaJ] at ih ⊢;omega
    | some m=>
     have:=wt.2 m (zc hi)
     have:=jbw (u:=m.toNat) om
     simp [jaJ] at ih ⊢;omega
  refine Run.loop (fun m e g=>∃ i:Nat,m=r.x.waiting.length-i/\i<=r.x.waiting.length/\e=[(0,.p rw 0),(3,v),(7,.i (n:Int)),(8,.p bx 0),(9,.str (jc0++32 :: dec n++[32,108,105,115,116,101,110,32]++dec b++jaJ ((r.x.waiting.take i).map fun m=>dec m.toNat))),(10,.i (i:Int))]/\Old h2 g)
   (k:=r.x.waiting.length) Ze ⟨0,rfl,by omega,by simp [jaJ],Old.refl _⟩ ?_
  rintro _ _ g3 ⟨i,rfl,hi,rfl,o3⟩ f ih
  have n2:=o2.1
  have n3:=o3.1
  have g3':g3.get bx=some (.cells r.cells false):=by rw [o3.2 bx om,g2]
  have hk:=key i
  by_cases hlt:(i:Int)<r.x.waiting.length
  case neg=>
   obtain rfl:i=r.x.waiting.length:=by omega
   rw [List.take_length] at hk ⊢
   clear ih hin
   refine qx1 ?_
   rw [hC]
   have T:=jmx (cl:=cl) (d:=d) (n:=n) (bx:=bx) (rw:=rw) (v:=v) (l:=l) (s:=jc0++32 :: dec n++[32,108,105,115,116,101,110,32]++dec b++jaJ (r.x.waiting.map fun m=>dec m.toNat)) (r:=r) (sb:=[(10,.i (r.x.waiting.length:Int)),(86,.bool false)]) (oh2.trans o3) g3' (s2.keep (zq _) o3) hl Zc
   simpa [jaJ] using T
  obtain ⟨m,hm⟩ : ∃ m,r.x.waiting[i]?=some m:=⟨_,za om⟩
  obtain ⟨m0,m1⟩:=wt.2 m (zc hm)
  obtain ⟨u,rfl⟩ : ∃ u:Nat,m=(u:Int):=⟨m.toNat,by omega⟩
  obtain ⟨zb,zo,cs,ro,rfl,z1,z2,z3⟩:=hin (by rintro e;rw [e] at hm;simp at hm)
  have gz:g3.get zb=some (.cells cs ro):=by rw [o3.2 zb om,o12.2 zb z1,z2]
  have hz:cs[zo+(i:Int).toNat*1]?=some (.i (u:Int)):=by
   rw [show zo+(i:Int).toNat*1=zo+i by omega];exact z3 i _ hm
  obtain ⟨h4,e4,o4⟩:=jbA hcl (d:=d) (u:=u) (h:=g3) om om
  have dl4:=jbw (u:=u) om
  have hsucc:jaJ ((r.x.waiting.take (i+1)).map fun m=>dec m.toNat)=jaJ ((r.x.waiting.take i).map fun m=>dec m.toNat)++[32]++dec u:=by
   rw [List.take_add_one,hm,List.map_append,jbG];simp [jaJ]
  have hi1:(i:Int)+1=((i+1:Nat):Int):=by omega
  clear hin e2 s2 g2 z3 hfar
  refine qx1 ?_
  refine Ops.sadd rfl rfl (by simp at hk ⊢;omega) ?_
  refine qx1 ?_
  refine Ops.sadd rfl rfl (by simp at hk ⊢;omega) ?_
  refine qx1 ?_
  rw [hi1]
  exact ih (r.x.waiting.length-(i+1)) om _ _ ⟨i+1,rfl,by omega,by rw [hsucc];simp,o3.trans o4⟩
 ·have hb' : ¬ r.x.backlog>0:=hb
  rw [if_neg hb]
  obtain ⟨b0,f0⟩:=A.b 0 (.inl rfl)
  obtain ⟨b1,f1⟩:=A.b 1 (.inr rfl)
  have l0 : ∀ q,r.x.e0.ring=some q->q.length<=r.x.cap:=wi.len 0 (.inl rfl)
  have l1 : ∀ q,r.x.e1.ring=some q->q.length<=r.x.cap:=wi.len 1 (.inr rfl)
  have c1:=wi.cap1
  have W0:=jeI (w:=r.x.e0.what) (s:=r.x.e0.shut) l0 c1
  have W1:=jeI (w:=r.x.e1.what) (s:=r.x.e1.shut) l1 c1
  have glen : ∀ (z:Option (List UInt8)),(∀ q,z=some q->q.length<=r.x.cap)->(z.getD []).length<=90000:=by
   intro z hz
   cases z with
   | none=>simp
   | some q=>have:=hz q rfl;simp only [Option.getD_some];omega
  obtain ⟨h2,e2,o2⟩:=jmV hcl (d:=d) (cap:=r.x.cap) (e:=r.x.e0) (v:=r.v0) (h:=h1) om wi.wh.1 (b0.keep o1.1 fun z hz=>o1.2 z (f0 z hz).2.2) (fun z hz=>zr (f0 z hz).2.2 o1.1) (glen _ l0) om
  have o12:=o1.trans o2
  obtain ⟨h3,e3,o3⟩:=jmV hcl (d:=d) (cap:=r.x.cap) (e:=r.x.e1) (v:=r.v1) (h:=h2) om wi.wh.2 (b1.keep o12.1 fun z hz=>o12.2 z (f1 z hz).2.2) (fun z hz=>zr (f1 z hz).2.2 o12.1) (glen _ l1) om
  have n2:=o2.1
  have n3:=o3.1
  have g2:h2.get bx=some (.cells r.cells false):=by rw [o2.2 bx om,g1]
  have g3:h3.get bx=some (.cells r.cells false):=by rw [o3.2 bx om,g2]
  have j0:=jkI (jeJ (w:=r.x.e0.what) (s:=r.x.e0.shut) (r:=r.x.e0.ring) (c:=r.x.cap))
  have j1:=jkI (jeJ (w:=r.x.e1.what) (s:=r.x.e1.shut) (r:=r.x.e1.ring) (c:=r.x.cap))
  generalize Lib.join (jbs r.x.e0.what r.x.e0.shut r.x.e0.ring r.x.cap) [32]=J0 at e2 j0
  generalize Lib.join (jbs r.x.e1.what r.x.e1.shut r.x.e1.ring r.x.cap) [32]=J1 at e3 j1
  rw [jbG,<- j0,<- j1]
  rw [<- j0] at W0
  rw [<- j1] at W1
  simp only [zg,List.length_singleton] at W0 W1
  have s3:=(s1.keep (zq _) o2).keep (zq _) o3
  have hsz:r.cells.length=20:=RX.len r
  clear e1 s1 g A b0 b1 f0 f1 l0 l1 glen
  have t0:(r.cells.drop (0+0+0)).take 8=r.x.e0.rcells r.v0:=rfl
  have t1:(r.cells.drop (0+0+8)).take 8=r.x.e1.rcells r.v1:=rfl
  refine qx1 ?_
  refine Ops.sadd rfl rfl Zc ?_
  refine qx1 ?_
  refine Ops.loadN rfl g1 (by rw [hsz];decide) ?_
  refine qx1 ?_
  refine Ops.loadN rfl g1 (by rw [hsz];decide) ?_
  refine qx1 ?_
  refine Ops.callf_chk rfl e2 (jfl rfl g2 (by rw [hsz];decide) rfl rfl (jav rfl g2 q16 rfl jaA)) ?_
  refine Ops.sadd rfl rfl Zc ?_
  refine Ops.sadd rfl rfl Zc ?_
  refine Ops.callf_chk rfl e3 jaA ?_
  refine Ops.sadd rfl rfl Zc ?_
  refine qx1 ?_
  rw [hC]
  have T:=jmx (cl:=cl) (d:=d) (n:=n) (bx:=bx) (rw:=rw) (v:=v) (l:=l) (s:=jc0++32 :: dec n++[32]++J0++[32]++J1) (r:=r) (sb:=[]) ((oh1.trans o2).trans o3) g3 s3 hl Zc
  simpa using T
end
section
variable {cl:Nat->Call} (hcl:Sem cl)
include hcl
theorem im_end {d rw q:Nat} {v:V} {l:List RX} {L:List (List UInt8)} {now:Int} {hdl:Nat->Bool} {ct:Nat->Int} {no:Option (Nat × Nat)} {h h0:H} {sb:Env} (hd:3<=d) (w:RW h rw q l (tail now hdl ct (noI no) (siI no))) (nt:NtOk (l.map RX.x) (noI no) (siI no)) (hlen:l.length<=1000) (o:Old h0 h) (sr:SR h0.nx h v L) (hl:L.length<=5000) :
  Run (cl d) fuel c66_4 [] ((0,.p rw 0) :: (3,v) :: sb) h (Fin c66.res fun x h'=>SR h0.nx h' x (L++jkk no)/\Old h0 h'):=by
 obtain ⟨a,c,hw,_⟩:=w.head
 have q66:(V.slice a l.length c :: tail now hdl ct (noI no) (siI no))[0+66]?=some (.i (noI no)):=t_no rfl
 have q67:(V.slice a l.length c :: tail now hdl ct (noI no) (siI no))[0+67]?=some (.i (siI no)):=t_si rfl
 have lw:=w.lw
 cases no with
 | none=>
  have hn : ¬ noI none>=0:=by simp [noI]
  refine qx1 ?_
  exact ⟨by simpa [jkk] using sr,o⟩
 | some p=>
  have q66:(V.slice a l.length c :: tail now hdl ct (noI (some p)) (siI (some p)))[0+66]?=some (.i (p.1:Int)):=q66
  have q67:(V.slice a l.length c :: tail now hdl ct (noI (some p)) (siI (some p)))[0+67]?=some (.i (p.2:Int)):=q67
  have hn:(p.1:Int)>=0:=by omega
  have hp:p.1<=1000/\p.2<=1:=by
   rcases nt with e | ⟨n,k,x,h1,h2,h3,h4,_⟩
   ·have e:(p.1:Int) = -1:=e
    omega
   ·have h1:(p.1:Int)=n:=h1
    have h2:(p.2:Int)=k:=h2
    have:=w_lt h4
    rw [List.length_map] at this
    omega
  clear nt w
  generalize V.slice a l.length c :: tail now hdl ct (noI (some p)) (siI (some p))=cs at hw q66 q67
  refine qx1 ?_
  refine Run.region ?_
  have oG:Old h (h.reserve 1):=⟨by simp,fun j _=>H.get_reserve ..⟩
  have xG:(h.reserve 1).nx=h.nx+1:=by simp
  have sG:=sr.keep (zq _) oG
  generalize h.reserve 1=G at oG xG sG ⊢
  have gG:G.get rw=some (.cells cs false):=by rw [oG.2 _ lw,hw]
  obtain ⟨h1,e1,o1⟩:=jbA hcl (d:=d) (u:=p.1) (h:=G) om om
  have g1:h1.get rw=some (.cells cs false):=by rw [o1.2 _ om,gG]
  obtain ⟨h2,e2,o2⟩:=jbA hcl (d:=d) (u:=p.2) (h:=h1) om om
  have d1:=jbw (u:=p.1) om
  have d2:=jbw (u:=p.2) om
  have n1:=o1.1
  have n2:=o2.1
  have n0:=o.1
  refine qx1 ?_
  refine Ops.callf_chk rfl e1 (jav rfl g1 q67 rfl jaA) ?_
  refine Ops.sadd rfl rfl Zc ?_
  refine Ops.sadd rfl rfl Zc ?_
  refine qx1 ?_
  refine Ops.sadd rfl rfl Zc ?_
  refine Ops.strP_at (h0:=h0) (l:=L) (t:=tNo++dec p.1++[32]++dec p.2) rfl rfl (((o.trans oG).trans o1).trans o2) ((sG.keep (zq _) o1).keep (zq _) o2) om om (fun e=>by have:=(sr.at_ge e).2;omega) om fun v' h' s' o' _ _=>?_
  refine qx1 ?_
  exact ⟨s',o'⟩
theorem im_sig {sb:Env} {d rw q s:Nat} {v:V} {l:List RX} {L:List (List UInt8)} {now no si:Int} {hdl:Nat->Bool} {ct:Nat->Int} {h h0:H} (hd:3<=d) (w:RW h rw q l (tail now hdl ct no si)) (hs:s<32) (hc:0<=ct s/\ct s<=1000000) (o:Old h0 h) (sr:SR h0.nx h v L) (hl:L.length<=5000) :
  Run (cl d) fuel (.block 7 c66_2) [] ((0,.p rw 0) :: (3,v) :: (11,.i (s:Int)) :: sb) h (BM h0 rw 11 s (L++if hdl s then [tSig++dec s++[32]++dec (ct s).toNat] else [])):=by
 obtain ⟨a,c,hw,_⟩:=w.head
 have q1:(V.slice a l.length c :: tail now hdl ct no si)[0+2+(s:Int).toNat*1]?=some (.bool (hdl s)):=t_hd hs om
 have q2:(V.slice a l.length c :: tail now hdl ct no si)[0+34+(s:Int).toNat*1]?=some (.i (ct s)):=t_ct hs om
 have lw:=w.lw
 generalize V.slice a l.length c :: tail now hdl ct no si=cs at hw q1 q2
 cases hh:hdl s with
 | false=>
  rw [hh] at q1
  refine qx1 ?_
  exact End.nil ⟨rfl,v,_,rfl,by simpa using sr,o⟩
 | true=>
  rw [hh] at q1
  obtain ⟨u,hu⟩ : ∃ u:Nat,ct s=(u:Int):=⟨(ct s).toNat,by omega⟩
  rw [hu] at q2 ⊢
  refine qx1 ?_
  refine Run.region ?_
  have oG:Old h (h.reserve 1):=⟨by simp,fun j _=>H.get_reserve ..⟩
  have xG:(h.reserve 1).nx=h.nx+1:=by simp
  have sG:=sr.keep (zq _) oG
  generalize h.reserve 1=G at oG xG sG ⊢
  have gG:G.get rw=some (.cells cs false):=by rw [oG.2 _ lw,hw]
  obtain ⟨h1,e1,o1⟩:=jbA hcl (d:=d) (u:=s) (h:=G) om om
  have g1:h1.get rw=some (.cells cs false):=by rw [o1.2 _ om,gG]
  obtain ⟨h2,e2,o2⟩:=jbA hcl (d:=d) (u:=u) (h:=h1) om om
  have d1:=jbw (u:=s) om
  have d2:=jbw (u:=u) om
  have n1:=o1.1
  have n2:=o2.1
  have n0:=o.1
  refine qx1 ?_
  refine Ops.callf_chk rfl e1 (jav rfl g1 q2 rfl jaA) ?_
  refine Ops.sadd rfl rfl Zc ?_
  refine Ops.sadd rfl rfl Zc ?_
  refine qx1 ?_
  refine Ops.sadd rfl rfl Zc ?_
  refine Ops.strP_at (h0:=h0) (l:=L) (t:=tSig++dec s++[32]++dec u) rfl rfl (((o.trans oG).trans o1).trans o2) ((sG.keep (zq _) o1).keep (zq _) o2) om om (fun e=>by have:=(sr.at_ge e).2;omega) om fun v' h' s' o' _ _=>?_
  refine qx1 ?_
  exact End.nil ⟨rfl,v',_,rfl,by simpa using s',o'⟩
theorem im_fd {sb:Env} {d rw q n:Nat} {v:V} {l:List RX} {L:List (List UInt8)} {tl:List V} {h h0:H} (hd:3<=d) (w:RW h rw q l tl) (ok:WsOk (l.map RX.x)) (hn:n<96) (o:Old h0 h) (sr:SR h0.nx h v L) (hl:L.length<=5000) :
  Run (cl d) fuel (.block 1 c66_15) [] ((0,.p rw 0) :: (3,v) :: (4,.i (n:Int)) :: sb) h (BM h0 rw 4 n (L++jhw (l.map RX.x) n)):=by
 rcases jdn hcl (d:=d) (fd:=(n:Int)) om w ok with ⟨hno,ea⟩ | ⟨m,k,r,hat,hr,hk,ea⟩
 ·have hS:jhw (l.map RX.x) n=[]:=ja8 hno
  rw [hS,List.append_nil]
  refine qx1 ?_
  exact End.nil ⟨rfl,v,_,rfl,sr,o⟩
 ·have hS:jhw (l.map RX.x) n=[tFd++dec n++jjQ++dec m++tEnd++dec (endK r.x k)]:=ja5 ok.uniq hat (jaG hr)
  rw [hS]
  obtain ⟨hw,hq,_⟩:=w.rat hr
  have q18:=jgG hr
  have hm:=r_lt hr
  have hm2:=ok.len
  rw [List.length_map] at hm2
  obtain ⟨h1,e1,o1⟩:=jbA hcl (d:=d) (u:=n) (h:=h) om om
  obtain ⟨h2,e2,o2⟩:=jbA hcl (d:=d) (u:=m) (h:=h1) om om
  have hk2:endK r.x k<=2:=by unfold endK;split<;>omega
  obtain ⟨h3,e3,o3⟩:=jbA hcl (d:=d) (u:=endK r.x k) (h:=h2) om om
  have d1:=jbw (u:=n) om
  have d2:=jbw (u:=m) om
  have d3:=jbw (u:=endK r.x k) om
  have O:=((o.trans o1).trans o2).trans o3
  have S:=((sr.keep (zq _) o1).keep (zq _) o2).keep (zq _) o3
  have hm0 : ¬ (m:Int)<0:=by omega
  clear ok w hS
  by_cases hb:r.x.backlog>0
  ·have ek:endK r.x k=2:=if_pos hb
   rw [ek] at e3 d3 ⊢
   have e3:cl d (.fn F.jch) [.i 2] h2=some (.str (dec 2),h3):=e3
   refine qx1 ?_
   refine Ops.sadd rfl rfl Zc ?_
   refine Ops.sadd rfl rfl Zc ?_
   refine qx1 ?_
   refine Ops.sadd rfl rfl Zc ?_
   refine Ops.sadd rfl rfl Zc ?_
   refine qx1 ?_
   refine Ops.sadd rfl rfl Zc ?_
   refine Ops.strP (h0:=h0) (l:=L) (t:=tFd++dec n++jjQ++dec m++tEnd++dec 2) rfl rfl O S om fun v' h' s' o' _ _=>?_
   refine qx1 ?_
   exact End.nil ⟨rfl,v',_,rfl,s',o'⟩
  ·have ek:endK r.x k=k:=if_neg hb
   rw [ek] at e3 d3 ⊢
   refine qx1 ?_
   refine Ops.sadd rfl rfl Zc ?_
   refine Ops.sadd rfl rfl Zc ?_
   refine qx1 ?_
   refine Ops.sadd rfl rfl Zc ?_
   refine Ops.sadd rfl rfl Zc ?_
   refine qx1 ?_
   refine Ops.sadd rfl rfl Zc ?_
   refine Ops.strP (h0:=h0) (l:=L) (t:=tFd++dec n++jjQ++dec m++tEnd++dec k) rfl rfl O S om fun v' h' s' o' _ _=>?_
   refine qx1 ?_
   exact End.nil ⟨rfl,v',_,rfl,s',o'⟩
end
section
variable {cl:Nat->Call} (hcl:Sem cl)
include hcl
theorem im_wireB {sb:Env} {d rw q n:Nat} {v:V} {l:List RX} {L:List (List UInt8)} {tl:List V} {r:RX} {h h0:H} (hd:5<=d) (w:RW h rw q l tl) (ok:WsOk (l.map RX.x)) (hr:l[n]?=some r) (o:Old h0 h) (sr:SR h0.nx h v L) (hl:L.length<=5000) :
  Run (cl d) fuel (.block 3 c66_11) [] ((0,.p rw 0) :: (3,v) :: (7,.i (n:Int)) :: sb) h (BM h0 rw 7 n (L++[jgR n r.x])):=by
 obtain ⟨hw,hq,_⟩:=w.rat hr
 have hn:=r_lt hr
 have hn2:=ok.len
 rw [List.length_map] at hn2
 have A:=w.rok hr
 obtain ⟨v0ok,_⟩:=A.b 0 (.inl rfl)
 obtain ⟨v1ok,_⟩:=A.b 1 (.inr rfl)
 obtain ⟨vwok,_⟩:=A.w
 have hone:=RX.cells_one (r:=r) v0ok.one v1ok.one vwok.one
 have hrt:=jgD (o:=0+(n:Int).toNat*20) hr om
 have wt:r.x.waiting.length<=64 /\ ∀ m∈r.x.waiting,0<=m/\m<=1000:=by
  have hx:=zc (jaG hr)
  refine ⟨(ok.wait _ hx).1,fun m hm=>?_⟩
  obtain ⟨y,y0,y1,_⟩:=(ok.wait _ hx).2 m hm
  have:=w_lt y1
  rw [List.length_map] at this
  omega
 obtain ⟨C,hC⟩ : ∃ C,C=c66_10:=⟨_,rfl⟩
 simp only [c66_11,<- hC,yB]
 refine qx1 ?_
 refine Ops.loadN rfl hq (by rw [jaw];omega) ?_
 rw [hrt]
 refine Ops.make (ob := .cells [.i 0,.i 0,.bool false,.bool false,.nils,.bool false,.int .u64 0,.int .u64 0,.i 0,.i 0,.bool false,.bool false,.nils,.bool false,.int .u64 0,.int .u64 0,.i 0,.bool false,.i 0,.nils] false) (mk:=fun b=>.p b 0) rfl rfl ?_
 refine Ops.storeN rfl rfl (RX.len r) hone (jac _) (by decide) ?_
 rw [jcu _ _ (by rw [RX.len];rfl)]
 have o1:Old h ((h.new (.cells [.i 0,.i 0,.bool false,.bool false,.nils,.bool false,.int .u64 0,.int .u64 0,.i 0,.i 0,.bool false,.bool false,.nils,.bool false,.int .u64 0,.int .u64 0,.i 0,.bool false,.i 0,.nils] false)).set h.nx (.cells r.cells false)):=(Old.refl h).new.set (zq _)
 have g1:((h.new (.cells [.i 0,.i 0,.bool false,.bool false,.nils,.bool false,.int .u64 0,.int .u64 0,.i 0,.i 0,.bool false,.bool false,.nils,.bool false,.int .u64 0,.int .u64 0,.i 0,.bool false,.i 0,.nils] false)).set h.nx (.cells r.cells false)).get h.nx=some (.cells r.cells false):=jab _
 have n1:h.nx<((h.new (.cells [.i 0,.i 0,.bool false,.bool false,.nils,.bool false,.int .u64 0,.int .u64 0,.i 0,.i 0,.bool false,.bool false,.nils,.bool false,.int .u64 0,.int .u64 0,.i 0,.bool false,.i 0,.nils] false)).set h.nx (.cells r.cells false)).nx:=by simp
 generalize (h.new (.cells [.i 0,.i 0,.bool false,.bool false,.nils,.bool false,.int .u64 0,.int .u64 0,.i 0,.i 0,.bool false,.bool false,.nils,.bool false,.int .u64 0,.int .u64 0,.i 0,.bool false,.i 0,.nils] false)).set h.nx (.cells r.cells false)=h1 at o1 g1 n1 ⊢
 refine qx1 ?_
 rw [hC]
 refine Run.cut (LM h0 rw n L (jgR n r.x)) (im_wire hcl (d:=d) hd (o.trans o1) g1 n1 (A.keep o1.ch) (ok.wi hr) wt (sr.keep (zq _) o1) hl om) ?_
 rintro _ _ h' ⟨rfl,v',rfl,s',o'⟩
 refine qx1 ?_
 exact End.nil ⟨rfl,v',_,rfl,s',o'⟩
theorem rq_Image {d rw q:Nat} {l:List RX} {now:Int} {hdl:Nat->Bool} {ct:Nat->Int} {no:Option (Nat × Nat)} {h:H} (hd:6<=d) (w:RW h rw q l (tail now hdl ct (noI no) (siI no))) (ok:WsOk (l.map RX.x)) (hn:0<=now/\now<=18446744073709551615) (hc : ∀ i,0<=ct i/\ct i<=1000000) (nt:NtOk (l.map RX.x) (noI no) (siI no)) :
  ∃ v h',cl d (.fn F.jcH) [.p rw 0] h=some (v,h')/\SR h.nx h' v (jjx (l.map RX.x) now hdl ct no)/\Old h h':=by
 obtain ⟨u,rfl⟩ : ∃ u:Nat,now=(u:Int):=⟨now.toNat,by omega⟩
 obtain ⟨a,c,hw,_⟩:=w.head
 have q1:(V.slice a l.length c :: tail u hdl ct (noI no) (siI no))[0+1]?=some (.int .u64 (u:Int)):=rfl
 have q0:(V.slice a l.length c :: tail u hdl ct (noI no) (siI no))[0+0]?=some (.slice a l.length c):=rfl
 have lw:=w.lw
 have hl2:=ok.len
 rw [List.length_map] at hl2
 obtain ⟨h1,e1,o1⟩:=jiV hcl (d:=d-1) (u:=u) (h:=h) om om
 have d1:=jbw (u:=u) om
 have w1:=w.old o1
 refine at_ hcl om rfl rfl rfl ?_
 obtain ⟨C2,hC2⟩ : ∃ C,C=c66_2:=⟨_,rfl⟩
 obtain ⟨C4,hC4⟩ : ∃ C,C=c66_4:=⟨_,rfl⟩
 obtain ⟨C11,hC11⟩ : ∃ C,C=c66_11:=⟨_,rfl⟩
 obtain ⟨C15,hC15⟩ : ∃ C,C=c66_15:=⟨_,rfl⟩
 simp only [c66,c66_18,c66_17,c66_16,c66_12,c66_3,<- hC2,<- hC4,<- hC11,<- hC15,uF,yB,yH]
 refine qx1 ?_
 refine Ops.sadd rfl rfl Zc ?_
 refine Ops.make (ob := .cells [V.str (tNow++dec u)] false) (mk:=fun b=>.slice (some (b,0)) 1 (.fix 1)) rfl rfl ?_
 have o2:Old h (h1.new (.cells [V.str (tNow++dec u)] false)):=o1.new
 have s2:SR h.nx (h1.new (.cells [V.str (tNow++dec u)] false)) (.slice (some (h1.nx,0)) 1 (.fix 1)) ([tNow++dec u]++jcW (l.map RX.x) 0):=⟨h1.nx,_,o1.1,by simp,rfl,.inr rfl,jac _⟩
 generalize h1.new (.cells [V.str (tNow++dec u)] false)=h2 at o2 s2 ⊢
 generalize V.slice (some (h1.nx,0)) 1 (.fix 1)=v2 at s2 ⊢
 clear e1 w1
 refine qx1 ?_
 refine Run.loop (fun m e g=>∃ (i:Nat) (v:V),m=96-i/\i<=96/\e=[(0,.p rw 0),(3,v),(4,.i (i:Int))]/\SR h.nx g v ([tNow++dec u]++jcW (l.map RX.x) i)/\Old h g)
  (k:=96) Ze ⟨0,v2,rfl,by omega,rfl,s2,o2⟩ ?_
 clear o2 s2
 rintro _ _ g ⟨i,v,rfl,hi,rfl,sr,o⟩ f ih
 have L1:=jeo (l.map RX.x) i
 by_cases hlt:i<96
 case pos=>
  have hlt':(i:Int)<=95:=by omega
  have hi1:(i:Int)+1=((i+1:Nat):Int):=by omega
  refine qb1 ?_
  have T:=fun sb=>im_fd (sb:=sb) hcl (d:=d-1) om (w.old o) ok hlt o sr Zc
  rw [<- hC15] at T
  refine Run.cut _ (T _) ?_
  rintro _ _ h' ⟨rfl,v',sb',rfl,s',o'⟩
  refine qx1 ?_
  rw [hi1]
  exact ih (96-(i+1)) om _ _ ⟨i+1,v',rfl,by omega,rfl,by rw [jcW,<- List.append_assoc];exact s',o'⟩
 obtain rfl:i=96:=by omega
 have hlt' : ¬ ((96:Nat):Int)<=95:=by omega
 clear ih
 refine qx1 ?_
 refine Run.loop (fun m e g=>∃ (i:Nat) (v:V),m=l.length-i/\i<=l.length/\e=[(0,.p rw 0),(3,v),(7,.i (i:Int))]/\SR h.nx g v ([tNow++dec u]++jcW (l.map RX.x) 96++jgl (l.map RX.x) i)/\Old h g)
  (k:=l.length) Ze ⟨0,v,rfl,by omega,rfl,by simpa [jgl] using sr,o⟩ ?_
 clear o sr v g
 rintro _ _ g ⟨i,v,rfl,hi,rfl,sr,o⟩ f ih
 have L2:=jfh (l.map RX.x) i
 have gw:g.get rw=_:=(o.2 rw lw).trans hw
 by_cases hlt:i<l.length
 case pos=>
  have hlt':(i:Int)<(l.length:Int):=by omega
  have hi1:(i:Int)+1=((i+1:Nat):Int):=by omega
  obtain ⟨r,hr⟩ : ∃ r,l[i]?=some r:=⟨_,za hlt⟩
  refine qb1 ?_
  have T:=fun sb=>im_wireB (sb:=sb) hcl (d:=d-1) om (w.old o) ok hr o sr (by simp at L1 L2 ⊢;omega)
  rw [<- hC11] at T
  refine Run.cut _ (T _) ?_
  rintro _ _ h' ⟨rfl,v',sb',rfl,s',o'⟩
  refine qx1 ?_
  rw [hi1]
  refine ih (l.length-(i+1)) om _ _ ⟨i+1,v',rfl,by omega,rfl,?_,o'⟩
  rw [jgl,jaG hr,<- List.append_assoc];exact s'
 obtain rfl:i=l.length:=by omega
 have hlt' : ¬ (l.length:Int)<(l.length:Int):=by omega
 clear ih
 refine qx1 ?_
 refine Run.loop (fun m e g=>∃ (i:Nat) (v:V),m=31-i/\i<=31/\e=[(0,.p rw 0),(3,v),(11,.i ((i+1:Nat):Int))]/\SR h.nx g v ([tNow++dec u]++jcW (l.map RX.x) 96++jgl (l.map RX.x) l.length++jde hdl ct i)/\Old h g)
  (k:=31) Ze ⟨0,v,rfl,by omega,rfl,by simpa [jde] using sr,o⟩ ?_
 clear o sr v g gw
 rintro _ _ g ⟨i,v,rfl,hi,rfl,sr,o⟩ f ih
 have L3:=jd6 hdl ct i
 by_cases hlt:i<31
 case pos=>
  have hlt':((i+1:Nat):Int)<=31:=by omega
  have hi1:((i+1:Nat):Int)+1=((i+1+1:Nat):Int):=by omega
  refine qb1 ?_
  have T:=fun sb=>im_sig (sb:=sb) hcl (d:=d-1) (s:=i+1) om (w.old o) om (hc _) o sr (by simp at L1 L2 L3 ⊢;omega)
  rw [<- hC2] at T
  refine Run.cut _ (T _) ?_
  rintro _ _ h' ⟨rfl,v',sb',rfl,s',o'⟩
  refine qx1 ?_
  rw [hi1]
  exact ih (31-(i+1)) om _ _ ⟨i+1,v',rfl,by omega,rfl,by rw [jde,<- List.append_assoc];exact s',o'⟩
 obtain rfl:i=31:=by omega
 have hlt' : ¬ ((31+1:Nat):Int)<=31:=by omega
 clear ih
 refine qx1 ?_
 rw [hC4]
 refine Run.fin_mono (im_end hcl (d:=d-1) om (w.old o) nt hl2 o sr (by simp at L1 L2 L3 ⊢;omega)) fun x h' ⟨s',o'⟩=>⟨?_,o'⟩
 unfold jjx
 rw [List.length_map];exact s'
end
theorem strs_get {l:List (List UInt8)} {i o:Nat} (h:i<l.length) (ho:o=i) : ∃ s,(strs l)[o]?=some (.str s):=by
 subst ho
 exact ⟨l[o],by simp [h]⟩
section
variable {call:Call} {fuel base:Nat} {K:List Fr} {e:Env} {h:H} {Q:Post} {ix:Nat} {dst at_:Option Nat} {ops:List Ins} {keep:List Nat}
end
section
variable {cl:Nat->Call} (hcl:Sem cl) {h h0:H} {p w s rw:Nat} {ow:Nat->Nat} {ro dat:Nat->Prop} {st:St} {ws:Ws} {now:Int} {tb:Tb} {no:Option (Nat × Nat)}
include hcl
theorem sm_ok {d N M:Nat} {u v:V} {L:List (List UInt8)} (hd:1<=d) (a:SR N h u L) (b:SR M h v L) (hl:L.length<=50000) :
  ∃ h',cl d (.fn F.jev) [u,v] h=some (.bool true,h')/\h'=h:=by
 obtain ⟨q,c,_,_,rfl,_,hq⟩:=a
 obtain ⟨q',c',_,_,rfl,_,hq'⟩:=b
 refine jah (at_ hcl om rfl rfl rfl ?_)
 refine qx1 ?_
 refine Run.loop (fun m e g=>∃ i:Nat,m=L.length-i/\i<=L.length/\e=[(0,.slice (some (q,0)) L.length c),(1,.slice (some (q',0)) L.length c'),(5,.i (i:Int))]/\g=h)
  (k:=L.length) Ze ⟨0,rfl,by omega,rfl,rfl⟩ ?_
 rintro _ _ _ ⟨i,rfl,hi,rfl,rfl⟩ f ih
 by_cases hlt:(i:Int)<(L.length:Int)
 case neg=>
  clear ih
  refine qx1 ?_
  exact ⟨rfl,rfl⟩
 obtain ⟨t,ht⟩:=strs_get (l:=L) (i:=i) (o:=0+(i:Int).toNat*1) om om
 have hi1:(i:Int)+1=((i+1:Nat):Int):=by omega
 repeat' (first|refine qxy ?_|refine zbf rfl (fun _=>?_) fun _=>?_|refine zbg rfl (fun _=>?_) fun _=>?_|refine zbh rfl (fun _=>?_) fun _=>?_|refine zbm rfl (fun _=>?_) fun _=>?_|refine zbn rfl (fun _=>?_) fun _=>?_)
 ·next x=>simp at x
 rw [hi1]
 exact ih (L.length-(i+1)) om _ _ ⟨i+1,rfl,by omega,rfl,rfl⟩
theorem ww_NowV {d:Nat} (hd:2<=d) (a:WSt h w s ow ws now tb no):cl d (.fn F.jg0) [.p w 0] h=some (.int .u64 now,h):=by
 obtain ⟨l,a,rfl⟩:=a
 obtain ⟨sa,c,hw,_⟩:=a.wf.head
 have hno:=jb7 hcl (d:=d-1) om a.wf
 have q1:(wc (fun i=>atS (wxs l) (i:Int)) (.slice sa l.length c) s now no)[0+290]?=some (.int .u64 now):=jlR rfl
 refine jak (at_ hcl om rfl rfl rfl ?_)
 refine qx1 ?_
 exact ⟨rfl,rfl⟩
theorem jkY {d:Nat} (hd:9<=d) (a:WSt h w s ow ws now tb no) (hc:tb.ok 1000000) : ∃ h',cl d (.fn F.je4) [.p w 0] h=some (.i (tb.sum 32),h')/\Old h h':=by
 obtain ⟨l,a,rfl⟩:=a
 obtain ⟨sa,c,hw,_⟩:=a.wf.head
 have hno:=jb7 hcl (d:=d-1) om a.wf
 have q1:(wc (fun i=>atS (wxs l) (i:Int)) (.slice sa l.length c) s now no)[0+289]?=some (.p s 0):=jdw rfl
 obtain ⟨h1,e1,c1⟩:=jh2 hcl (d:=d-1) om a.wf.hs a.wf.ls hc
 have o1:=Old.ofCh c1
 clear hc
 refine jah (at_ hcl om rfl rfl rfl ?_)
 refine qx1 ?_
 exact ⟨rfl,o1⟩
theorem ww_Count {d:Nat} {sg:Int} (hd:4<=d) (a:WSt h w s ow ws now tb no):cl d (.fn F.jfv) [.p w 0,.i sg] h=some (.i (tb.cnt sg),h):=by
 obtain ⟨l,a,rfl⟩:=a
 obtain ⟨sa,c,hw,_⟩:=a.wf.head
 have hno:=jb7 hcl (d:=d-1) om a.wf
 have q1:(wc (fun i=>atS (wxs l) (i:Int)) (.slice sa l.length c) s now no)[0+289]?=some (.p s 0):=jdw rfl
 have e1:=jhV hcl (d:=d-1) om a.wf.hs sg
 refine jak (at_ hcl om rfl rfl rfl ?_)
 refine qx1 ?_
 exact ⟨rfl,rfl⟩
omit hcl in
theorem BB.rw_ {a r:St} (b:BB h p w s rw ow ro dat a r) : ∃ q l,RW h rw q l r.tl/\l.map RX.x=r.ws:=by
 obtain ⟨l,R,e⟩:=b.R
 obtain ⟨q,_,k⟩:=R.ex
 exact ⟨q,l,k h rfl fun _ _ _=>rfl,e⟩
theorem al_ok {d i:Nat} (hd:11<=d) (P:Pw h) (b:BB h p w s rw ow ro dat st st) (so:StOk st i) (hi:i<=100000) :
  ∃ h',cl d (.fn F.jcL) [.p p 0] h=some (.bool true,h')/\Old h h':=by
 have tok:st.tb.ok 1000000:=so.tb.mono om
 have ok:=so.K.ok
 have hp:=b.hp
 have lp:=b.lp
 obtain ⟨v1,h1,e1,r1,o1⟩:=ww_Fds hcl (d:=d-1) om b.W
 have b1:=b.old o1
 obtain ⟨q1,l1,w1,x1⟩:=b1.rw_
 obtain ⟨v2,h2,e2,r2,o2⟩:=rq_Fds hcl (d:=d-1) om w1 (by rw [x1];exact ok)
 rw [x1] at r2
 have o12:=o1.trans o2
 have b2:=b1.old o2
 have p1:h1.get p=some (.cells [.p w 0,.p rw 0] false):=b1.hp
 have p2:h2.get p=some (.cells [.p w 0,.p rw 0] false):=b2.hp
 have e3:=ww_NowV hcl (d:=d-1) om b2.W
 obtain ⟨q2,l2,w2,x2⟩:=b2.rw_
 obtain ⟨a2,c2,hw2,_⟩:=w2.head
 have n2:(V.slice a2 l2.length c2 :: st.tl)[0+1]?=some (.int .u64 st.now):=rfl
 obtain ⟨h3,e4,o3⟩:=jkY hcl (d:=d-1) om b2.W tok
 have b3:=b2.old o3
 have p3:h3.get p=some (.cells [.p w 0,.p rw 0] false):=b3.hp
 obtain ⟨q3,l3,w3,x3⟩:=b3.rw_
 have e5:=jh3 hcl (d:=d-1) om w3 tok
 rw [<- jlc] at e5
 have o13:=o12.trans o3
 have fl:=jgr st.ws 96
 obtain ⟨cp1,⟨ad1,rfl⟩,i1⟩:=r1.shape
 obtain ⟨cp2,⟨ad2,rfl⟩,i2⟩:=r2.shape
 have g1 : ∀ j,j<(fdsL st.ws 96).length -> ∃ z,ad1=some (z,0)/\z<h3.nx/\h3.get z=some (.cells (ints (fdsL st.ws 96)) false):=fun j hj=>by
  obtain ⟨z,_,z2,z3,z4⟩:=i1 j hj
  cases z3
  have:=o2.1
  have:=o3.1
  exact ⟨z,rfl,by omega,by rw [o3.2 _ om,o2.2 _ z2,z4]⟩
 have g2 : ∀ j,j<(fdsL st.ws 96).length -> ∃ z,ad2=some (z,0)/\z<h3.nx/\h3.get z=some (.cells (ints (fdsL st.ws 96)) false):=fun j hj=>by
  obtain ⟨z,_,z2,z3,z4⟩:=i2 j hj
  cases z3
  have:=o3.1
  exact ⟨z,rfl,by omega,by rw [o3.2 _ z2,z4]⟩
 obtain ⟨a3,c3,hw3,_⟩:=w3.head
 have n3 : ∀ s:Nat,s<32->(V.slice a3 l3.length c3 :: st.tl)[0+34+(s:Int).toNat*1]?=some (.i (st.tb.pd s)):=fun s hs=>t_ct hs om
 have ec:=fun sg=>ww_Count hcl (d:=d-1) (sg:=sg) om b3.W
 clear i1 i2 r1 r2 w1 w2 w3 x1 x2 x3 b1 b2
 generalize hFL:fdsL st.ws 96=FL at e1 e2 g1 g2 fl ⊢
 have hneq : ¬ (FL.length:Int)≠(FL.length:Int):=fun e=>e rfl
 have hpe : ¬ st.tb.sum 32≠st.tb.sum 32:=fun e=>e rfl
 have hne : ¬ st.now≠st.now:=fun e=>e rfl
 generalize V.slice a2 l2.length c2 :: st.tl=rc at hw2 n2
 generalize V.slice a3 l3.length c3 :: st.tl=rc3 at hw3 n3
 refine jah (at_ hcl om rfl rfl rfl ?_)
 clear tok
 refine qx1 ?_
 refine Ops.callf_chk rfl e3 (jav rfl p2 rfl rfl (jav rfl hw2 n2 rfl jaA)) ?_
 refine qx1 ?_
 refine Ops.callf_chk rfl e4 (jav rfl p3 rfl rfl jaA) ?_
 refine qx1 ?_
 clear e1 e2 e3 e4 e5 p1 p2 hw2 n2
 refine Run.loop (fun m e g=>∃ j:Nat,m=34-j/\j<=34/\e=[(0,.p p 0),(3,.slice ad1 FL.length cp1),(4,.slice ad2 FL.length cp2),(5,.i ((j:Int)-1))]/\g=h3)
  (k:=34) Ze ⟨0,rfl,by omega,rfl,rfl⟩ ?_
 rintro _ _ h3 ⟨j,rfl,hj,rfl,rfl⟩ f ih
 by_cases hlt:(j:Int)-1<=32
 case pos=>
  have hj1:(j:Int)-1+1=((j+1:Nat):Int)-1:=by omega
  have eC:=ec ((j:Int)-1)
  by_cases hs:2<=j/\j<=32
  ·obtain ⟨s',hs'⟩ : ∃ s':Nat,j=s'+1:=⟨j-1,by omega⟩
   have ej:(j:Int)-1=(s':Int):=by omega
   have hcn:st.tb.cnt (s':Int)=st.tb.pd s':=by
    unfold Tb.cnt
    rw [if_pos (show (1:Int)<=(s':Int)/\(s':Int)<=31 by omega),zw]
   rw [ej] at eC hlt hj1 ⊢
   rw [hcn] at eC
   have hs1:(s':Int)>0:=by omega
   have hs2:(s':Int)<=31:=by omega
   have hn3:=n3 s' om
   have hcc : ¬ st.tb.pd s'≠st.tb.pd s':=fun e=>e rfl
   clear ec n3 g1 g2
   refine qx1 ?_
   rw [hj1]
   exact ih (34-(j+1)) om _ _ ⟨j+1,rfl,by omega,rfl,rfl⟩
  ·have hcn:st.tb.cnt ((j:Int)-1)=0:=by
    unfold Tb.cnt
    rw [if_neg]
    show ¬ ((1:Int)<=(j:Int)-1/\(j:Int)-1<=31)
    omega
   rw [hcn] at eC
   have hcc : ¬ (0:Int)≠0:=fun e=>e rfl
   by_cases hs1:(j:Int)-1>0
   ·have hs2 : ¬ (j:Int)-1<=31:=by omega
    clear ec n3 g1 g2 hs
    refine qx1 ?_
    rw [hj1]
    exact ih (34-(j+1)) om _ _ ⟨j+1,rfl,by omega,rfl,rfl⟩
   ·clear ec n3 g1 g2 hs
    refine qx1 ?_
    rw [hj1]
    exact ih (34-(j+1)) om _ _ ⟨j+1,rfl,by omega,rfl,rfl⟩
 clear ih ec n3 hw3
 refine qx1 ?_
 refine Run.loop (fun m e g=>∃ i:Nat,m=FL.length-i/\i<=FL.length/\e=[(0,.p p 0),(3,.slice ad1 FL.length cp1),(4,.slice ad2 FL.length cp2),(79,.i (FL.length:Int)),(80,.i (i:Int))]/\Old h3 g)
  (k:=FL.length) Ze ⟨0,rfl,by omega,rfl,Old.refl _⟩ ?_
 rintro _ _ g ⟨i,rfl,hi,rfl,og⟩ f ih
 have bg:=b3.old og
 have pg:=bg.hp
 by_cases hlt:(i:Int)<(FL.length:Int)
 case pos=>
  obtain ⟨z1,rfl,lz1,y1⟩:=g1 i om
  obtain ⟨z2,rfl,lz2,y2⟩:=g2 i om
  have y1g:g.get z1=some (.cells (ints FL) false):=by rw [og.2 _ lz1,y1]
  have y2g:g.get z2=some (.cells (ints FL) false):=by rw [og.2 _ lz2,y2]
  obtain ⟨x,hx⟩:=jkV (l:=FL) (i:=i) om
  have hxi:(ints FL)[0+(i:Int).toNat*1]?=some (.i x):=by
   rw [show 0+(i:Int).toNat*1=i by omega];simp [hx]
  have hxx : ¬ x≠x:=fun e=>e rfl
  obtain ⟨g3,e6,o6⟩:=ww_Ready hcl (d:=d-1) (fd:=x) om bg.W ok
  rw [jmm] at e6
  obtain ⟨q4,l4,w4,x4⟩:=(bg.old o6).rw_
  obtain ⟨g4,e7,c7⟩:=rq_Ready hcl (d:=d-1) (fd:=x) om w4 (by rw [x4];exact ok)
  rw [x4,jmm] at e7
  have p6:=(bg.old o6).hp
  have y26:g3.get z2=some (.cells (ints FL) false):=by rw [o6.2 _ (zr lz2 og.1),y2g]
  have hi1:(i:Int)+1=((i+1:Nat):Int):=by omega
  have og4:=(og.trans o6).trans (Old.ofCh c7)
  clear g1 g2 w4 bg
  refine qx1 ?_
  refine Ops.callf_chk rfl e6 (jav rfl p6 rfl rfl (jav rfl y26 hxi rfl jaA)) ?_
  repeat' (first|refine qxy ?_|refine zbf rfl (fun _=>?_) fun _=>?_|refine zbg rfl (fun _=>?_) fun _=>?_|refine zbh rfl (fun _=>?_) fun _=>?_|refine zbm rfl (fun _=>?_) fun _=>?_|refine zbn rfl (fun _=>?_) fun _=>?_)
  ·next x=>simp at x
  rw [hi1]
  exact ih (FL.length-(i+1)) om _ _ ⟨i+1,rfl,by omega,rfl,og4⟩
 clear ih g1 g2
 have tok:st.tb.ok 1000000:=so.tb.mono om
 obtain ⟨v5,h5,e8,s5,o5⟩:=ww_Image hcl (d:=d-1) om (P.old (o13.trans og)) bg.W ok so.now tok so.nt
 have b5:=bg.old o5
 have p5:=b5.hp
 obtain ⟨q5,l5,w5,x5⟩:=b5.rw_
 obtain ⟨v6,h6,e9,s6,o6⟩:=rq_Image hcl (d:=d-1) (hdl:=st.tb.hd) (ct:=st.tb.pd) (no:=st.no) om w5 (by rw [x5];exact ok) so.now tok (by rw [x5];exact so.nt)
 rw [x5] at s6
 have L1:=jeo st.ws 96
 have L2:=jfh st.ws st.ws.length
 have L3:=jd6 st.tb.hd st.tb.pd 31
 have L4:(jkk st.no).length<=1:=by cases st.no<;>simp [jkk]
 have L5:=ok.len
 obtain ⟨_,e10,rfl⟩:=sm_ok hcl (d:=d-1) om (s5.keep (zq _) o6) s6 (by unfold jjx;simp;omega)
 have oF:=(o13.trans og).trans (o5.trans o6)
 clear tok so
 refine qx1 ?_
 refine Ops.callf_chk rfl e8 (jav rfl p5 rfl rfl jaA) ?_
 refine qx1 ?_
 exact ⟨rfl,oF⟩
end
abbrev jns:H->Int × Int × Int × List Int × Unit->List V->Prop:=jdd (jdq .i64) (jdd (jdq .i64) (jdd (jdq .i64) (jdd (jc4 1100 (jdq .u8)) jml)))
theorem jmt {h:H} : ∀ {l:List (Int × Int × Int × List Int × Unit)} {cs:List V},jbv jns h l cs -> ∃ L:List MvX,L.length=l.length/\cs=(L.map MvX.V).flatten /\ ∀ x∈L,MvOk h x
 | [],_,e=>⟨[],rfl,e,fun x hx=>by cases hx⟩
 | y :: l,_,⟨u,w,e,h1,h2⟩=>by
  obtain ⟨L,l1,l2,l3⟩:=jmt h2
  obtain ⟨_,_,rfl,⟨rfl,_⟩,_,_,rfl,⟨rfl,_⟩,_,_,rfl,⟨rfl,_⟩,u5,w5,rfl,r5,hw⟩:=h1
  obtain rfl:w5=[]:=hw
  have ⟨ad,c,e5,_⟩:=r5
  subst e5
  obtain ⟨a,c,e6,hB⟩:=jkP r5
  refine ⟨⟨⟨y.1,y.2.1,y.2.2.1,y.2.2.2.1.map jkr⟩,.slice a y.2.2.2.1.length (.fix c)⟩ :: L,by simp [l1],by rw [e,l2,e6];rfl,fun x hx=>?_⟩
  rcases List.mem_cons.1 hx with rfl | hx
  ·exact ⟨a,.fix c,by simp,fun hl=>hB (by simpa using hl)⟩
  ·exact l3 x hx
theorem jj9 {α : Type} {f : α -> List V} (hf : ∀ x,(f x).length=4) : ∀ L:List α,(L.map f).flatten.length=L.length*4
 | []=>rfl
 | x :: L=>by
  have:=jj9 hf L
  show (f x++(L.map f).flatten).length=_
  rw [zg,this,hf]
  simp;omega
theorem jjA {α : Type} {f : α -> List V} (hf : ∀ x,(f x).length=4) : ∀ {L:List α} {i:Nat} {x : α},L[i]?=some x->(((L.map f).flatten).drop (i*4)).take 4=f x
 | [],i,x,h=>by simp at h
 | y :: L,0,x,h=>by
  simp at h;subst h
  show ((f y++(L.map f).flatten).drop (0*4)).take 4=f y
  rw [Nat.zero_mul,zk,List.take_append_of_le_length (by rw [hf y];exact zq _),zh (by rw [hf y];exact zq _)]
 | y :: L,i+1,x,h=>by
  rw [List.map_cons,List.flatten_cons,show (i+1)*4=(f y).length+i*4 by rw [hf];omega,<- List.drop_drop,List.drop_left]
  exact jjA hf (by simpa using h)
theorem mvsIn_of {h:H} {B:Nat} {l:List (Int × Int × Int × List Int × Unit)} {u:V} (r:jc4 B jns h l [u]) : ∃ L:List MvX,L.length=l.length/\jn4 B h u L:=by
 obtain ⟨ad,c,e,h1,h2,h3⟩:=r
 cases e
 by_cases hl:l.length<=B
 ·by_cases hn:l=[]
  ·subst hn
   exact ⟨[],rfl,⟨⟨ad,.fix c,rfl⟩,fun _=>⟨fun x hx=>(by cases hx),ad,.fix c,rfl,fun e=>absurd rfl e⟩⟩⟩
  ·obtain ⟨b,cs,rfl,q1,q2,q3⟩:=h1 hl hn
   obtain ⟨L,l1,rfl,l3⟩:=jmt q3
   exact ⟨L,l1,⟨⟨_,.fix c,by rw [l1]⟩,fun _=>⟨l3,_,.fix c,by rw [l1],fun _=>⟨b,_,true,rfl,q1,q2,jj9 (fun _=>rfl) L,fun i x hx=>jjA (fun _=>rfl) hx⟩⟩⟩⟩
 ·exact ⟨List.replicate l.length ⟨⟨0,0,0,[]⟩,.nils⟩,by simp,⟨⟨ad,.fix c,by simp⟩,fun hl'=>absurd (by simpa using hl') hl⟩⟩
theorem MvOk.keep {h h':H} {x:MvX} (o:MvOk h x) (a:Old h h'):MvOk h' x:=by
 obtain ⟨z,c,e,g⟩:=o
 exact ⟨z,c,e,fun hl=>⟨(g hl).none_,(g hl).fits,fun hn=>by
  obtain ⟨b,o,cs,ro,q1,q2,q3,q4⟩:=(g hl).at_ hn
  exact ⟨b,o,cs,ro,q1,zr q2 a.1,by rw [a.2 b q2,q3],q4⟩⟩⟩
section
variable {cl:Nat->Call} (hcl:Sem cl)
include hcl
theorem bx_make {d i p w s rw:Nat} {h0 h:H} {ow:Nat->Nat} {ro:Nat->Prop} {st:St} {x:MvX} (hd:13<=d) (b:BX h0 h p w s rw ow ro st i) (hi:i<=900000) (hx:MvOk h0 x) (hl:x.m.D.length<=1100) :
  ∃ h1 h2 ow' ro',cl d (.fn F.jf9) [.p w 0,.agg x.V] h=some (.tup [.i (mvS x.m st).1.1,.i (mvS x.m st).1.2],h1)/\h1.get p=some (.cells [.p w 0,.p rw 0] false)/\Old h0 h1 /\
   cl d (.fn F.jbq) [.p rw 0,.agg x.V] h1=some (.tup [.i (mvS x.m st).1.1,.i (mvS x.m st).1.2],h2)/\BX h0 h2 p w s rw ow' ro' (mvS x.m st).2 (i+1):=by
 obtain ⟨a,c,e,g⟩:=hx
 have hB:=g hl
 have v0:VB h0 x.dv x.m.D:=⟨a,c,e,hB⟩
 have vz:x.m.D≠[] -> ∀ z,x.dv.at?=some z->z<h0.nx:=fun hn z hz=>v0.lt hn hz
 have v:VB h x.dv x.m.D:=v0.keep2 b.old.1 fun hn z hz=>b.old.2 z (vz hn z hz)
 obtain ⟨h1,ow1,e1,W1,t1⟩:=wm_Make hcl (m:=x.m) (dv:=x.dv) hd b.b.W b.so hi v fun hn z hz=>b.b.sep z (.inr (vz hn z hz))
 have b1:=b.b.wc W1 t1
 have o1:Old h0 h1:=jmY b.old (Fm.to t1 (ro:=ro)) b.own
 have v1:VB h1 x.dv x.m.D:=v0.keep2 o1.1 fun hn z hz=>o1.2 z (vz hn z hz)
 obtain ⟨v2,h2,e2,b2,f2,rfl⟩:=b1.rc hcl (d:=d) (f:=F.jbq) (args:=[.p rw 0,.agg x.V]) (r':=(mvS x.m st).2) (P:=fun _ v=>v = .tup [.i (mvS x.m st).1.1,.i (mvS x.m st).1.2]) (fun _ _ _ _ h=>h) (fun g q l ga gn hq wR hl=>by
  have vg:VB g x.dv x.m.D:=v1.keep2 om fun hn z hz=>ga z (b1.ro_lt (.inr (vz hn z hz))) (.inr (vz hn z hz))
  obtain ⟨q',l',g',k1,k2,k3,k4,k5⟩:=rm_Make hcl (d:=d) (m:=x.m) (dv:=x.dv) om wR hl b.so hi vg fun hn z hz=>by
   have z0:=vz hn z hz
   refine ⟨fun e=>?_,fun e=>?_,by have:=o1.1;omega⟩
   ·rcases hq with rfl | hq
    ·have:=b.lp;omega
    ·have:=b.own q (.inr hq);omega
   ·obtain ⟨l,R,_⟩:=b.b.R
    have:=b.own rw (.inr R.hr);omega
  exact ⟨_,q',l',g',k1,k2,k3,k4,k5,rfl⟩)
 exact ⟨h1,h2,ow1,_,e1,b1.hp,o1,e2,b.fm b2 ((Fm.to t1).trans f2) (mvS_ok b.so)⟩
theorem mm_loop {d p w s rw:Nat} {h1 g0:H} {ow:Nat->Nat} {ro:Nat->Prop} {ad1 ad:Option (Nat × Nat)} {c1 c:Cap} {L:List OpX} {X:List MvX} (hd:17<=d) (b:BX h1 g0 p w s rw ow ro st0 0) (P:Pw h1) (hok : ∀ x∈L,OpOk h1 x)
  (hel:L≠[] -> ∃ b cs ro,ad1=some (b,0)/\b<h1.nx/\h1.get b=some (.cells cs ro)/\cs.length=L.length*5 /\ ∀ (i:Nat) (x:OpX),L[i]?=some x->(cs.drop (i*5)).take 5=x.V) (hfew : ∀ x∈L,x.D.length<=300) (hlen:L.length<=60)
  (hX:X.length<=50) (hmok : ∀ x∈X,MvOk h1 x) (hne:X≠[] -> ∃ b cs ro,ad=some (b,0)/\b<h1.nx/\h1.get b=some (.cells cs ro)/\cs.length=X.length*4 /\ ∀ (i:Nat) (x:MvX),X[i]?=some x->(cs.drop (i*4)).take 4=x.V) (hdl : ∀ x∈X,x.m.D.length<=1100) :
  Run (cl d) fuel c3_7 [] [(0,.slice ad1 L.length c1),(1,.slice ad X.length c),(5,.p p 0)] g0 (Fin c3.res fun v _=>v = .bool true):=by
 obtain ⟨C,hC⟩ : ∃ C,C=c3_3:=⟨_,rfl⟩
 simp only [c3_7,c3_6,<- hC,yB,yC]
 refine qm1 ?_
 refine Run.loop (fun m e g=>∃ (i:Nat) (ow:Nat->Nat) (ro:Nat->Prop),m=L.length-i/\i<=L.length/\e=[(0,.slice ad1 L.length c1),(1,.slice ad X.length c),(5,.p p 0),(34,.i (L.length:Int)),(35,.i (i:Int))]/\BX h1 g p w s rw ow ro (runS (L.take i) st0) i)
  (k:=L.length) Ze ⟨0,ow,ro,rfl,by omega,rfl,b⟩ ?_
 clear b ow ro g0
 rintro _ _ g ⟨i,ow,ro,rfl,hi,rfl,bx⟩ n2 ih
 by_cases hlt:(i:Int)<L.length
 case pos=>
  obtain ⟨x,hx⟩:=jkV (l:=L) (i:=i) om
  have hxm:=zc hx
  obtain ⟨b,cs,ro',rfl,lb,hb,hlen5,hc⟩:=hel (by rintro rfl;simp at hx)
  have hbg:g.get b=some (.cells cs ro'):=by rw [bx.old.2 b lb,hb]
  have h5:(cs.drop (0+(i:Int).toNat*5)).take 5=x.V:=by rw [Nat.zero_add,zw];exact hc i x hx
  obtain ⟨g2,ow2,ro2,e2,bx2,_⟩:=bx_do hcl (d:=d) om bx om (hok x hxm) (hfew x hxm)
  have hi1:(i:Int)+1=((i+1:Nat):Int):=by omega
  rw [<- runS_take hx] at bx2
  clear hok hel hfew bx hc hmok hne hdl P
  refine qx1 ?_
  refine Ops.loadN rfl hbg om ?_
  rw [h5]
  refine qx1 ?_
  rw [hi1]
  exact ih (L.length-(i+1)) om _ _ ⟨i+1,ow2,ro2,rfl,by omega,rfl,bx2⟩
 obtain rfl:i=L.length:=by omega
 rw [List.take_length] at bx
 generalize runS L st0=st at bx ⊢
 clear ih hel hok hfew
 have lp:=bx.lp
 refine qx1 ?_
 subst hC
 refine Run.loop (fun m e g=>∃ (i:Nat) (ow:Nat->Nat) (ro:Nat->Prop) (st:St),m=X.length-i/\i<=X.length/\e=[(1,.slice ad X.length c),(5,.p p 0),(47,.i (X.length:Int)),(48,.i (i:Int))]/\BX h1 g p w s rw ow ro st (L.length+i))
  (k:=X.length) Ze ⟨0,ow,ro,st,rfl,by omega,rfl,bx⟩ ?_
 clear bx ow ro st g
 rintro _ _ g ⟨i,ow,ro,st,rfl,hi,rfl,bx⟩ n2 ih
 by_cases hlt:(i:Int)<X.length
 case neg=>
  clear ih hmok hne hdl P bx
  refine qx1 ?_
  rfl
 obtain ⟨x,hx⟩:=jkV (l:=X) (i:=i) om
 have hxm:=zc hx
 obtain ⟨b,cs,ro',rfl,lb,hb,hlen4,hc⟩:=hne (by rintro rfl;simp at hx)
 have h4:(cs.drop (0+(i:Int).toNat*4)).take 4=x.V:=by rw [Nat.zero_add,zw];exact hc i x hx
 obtain ⟨g1,g2,ow2,ro2,e1,p1,o1,e2,bx2⟩:=bx_make hcl (d:=d) om bx om (hmok x hxm) (hdl x hxm)
 obtain ⟨g3,e3,o3⟩:=al_ok hcl (d:=d) om (P.old bx2.old) bx2.b bx2.so om
 have bx3:=bx2.old' o3
 have hp:=bx.b.hp
 have b0g:g.get b=some (.cells cs ro'):=by rw [bx.old.2 b lb,hb]
 have b1g:g1.get b=some (.cells cs ro'):=by rw [o1.2 b lb,hb]
 have hi1:(i:Int)+1=((i+1:Nat):Int):=by omega
 generalize mvS x.m st=r at e1 e2 bx2 bx3
 obtain ⟨⟨r1,r2⟩,st2⟩:=r
 have n1 : ¬ r1≠r1:=fun e=>e rfl
 have n2 : ¬ r2≠r2:=fun e=>e rfl
 clear hmok hne hdl P bx bx2 hc
 refine qx1 ?_
 refine Ops.loadN rfl b0g om ?_
 rw [h4]
 refine qx1 ?_
 refine Ops.loadN rfl b1g om ?_
 rw [h4]
 refine qx1 ?_
 rw [hi1]
 exact ih (X.length-(i+1)) om _ _ ⟨i+1,ow2,ro2,st2,rfl,by omega,rfl,bx3⟩
theorem ji2 {h0:H} (hnx:h0.nx=256) (hwf : ∀ b,256<=b->h0.get b=none) (_l2:h0.get 2=some (.cells jba true)) (_l3:h0.get 3=some (.cells jaZ true)) (l1:h0.get 1=some (.cells jaB true))
  {l:List (Int × Int × Int × Int × List Int × Unit)} {u1:V} (rl:jc4 200 jmK h0 l [u1]) {x0:List (Int × Int × Int × List Int × Unit)} {u2:V} (rx:jc4 50 jns h0 x0 [u2]) :
  ∃ h',cl 31 (.fn F.jbJ) [u1,u2] h0=some (.bool true,h'):=by
 suffices q : ∃ v h',cl 31 (.fn F.jbJ) [u1,u2] h0=some (v,h')/\v = .bool true by
  obtain ⟨_,h',e,rfl⟩:=q;exact ⟨h',e⟩
 have P0:Pw h0:=⟨by rw [hnx];decide,_,_,l1,by kernel_rfl⟩
 clear _l2 _l3 l1
 obtain ⟨L,_,hL⟩:=opsIn_of rl
 obtain ⟨X,_,⟨ad,c,rfl⟩,hX⟩:=mvsIn_of rx
 obtain ⟨gv,eg,hg⟩:=gr_ok hcl (d:=30) om hL
 refine at_ hcl om rfl rfl rfl ?_
 clear rl rx
 rcases hg with rfl | ⟨rfl,hfew⟩
 ·obtain ⟨ad1,c1,rfl,hin⟩:=hL
  clear hin hX
  refine qm1 ?_
  rfl
 obtain ⟨ad1,c1,rfl,hin⟩:=id hL
 by_cases h60:60<(L.length:Int)
 ·clear hin hX hL
  refine qm1 ?_
  rfl
 by_cases h50:50<(X.length:Int)
 ·clear hin hX hL
  refine qm1 ?_
  rfl
 obtain ⟨hmok,ad',c',ev,hne⟩:=hX om
 obtain ⟨rfl,rfl⟩:ad=ad'/\c=c':=by cases ev;exact ⟨rfl,rfl⟩
 have o1:Old h0 (h0.new (.cells [.int .u64 0,.bool false,.nils,.slice ad X.length c] false)):=(Old.refl h0).new
 have g1:(h0.new (.cells [.int .u64 0,.bool false,.nils,.slice ad X.length c] false)).get h0.nx=some (.cells [.int .u64 0,.bool false,.nils,.slice ad X.length c] false):=jac _
 have x1:(h0.new (.cells [.int .u64 0,.bool false,.nils,.slice ad X.length c] false)).nx=h0.nx+1:=rfl
 have w1 : ∀ j,(h0.new (.cells [.int .u64 0,.bool false,.nils,.slice ad X.length c] false)).nx<=j->(h0.new (.cells [.int .u64 0,.bool false,.nils,.slice ad X.length c] false)).get j=none:=fun j hj=>by
  rw [H.get_new,if_neg om];exact hwf j om
 have P1:=P0.old o1
 have hL1:=hL.keep o1.1 fun j o hj hg=>by rw [o1.2 j hj,hg]
 have hmok1 : ∀ x∈X,MvOk (h0.new (.cells [.int .u64 0,.bool false,.nils,.slice ad X.length c] false)) x:=fun x hx=>(hmok x hx).keep o1
 have hne1:X≠[] -> ∃ b cs ro,ad=some (b,0)/\b<h0.nx+1/\(h0.new (.cells [.int .u64 0,.bool false,.nils,.slice ad X.length c] false)).get b=some (.cells cs ro)/\cs.length=X.length*4 /\ ∀ (i:Nat) (x:MvX),X[i]?=some x->(cs.drop (i*4)).take 4=x.V:=fun hn=>by
  obtain ⟨b,cs,ro,q1,q2,q3,q4⟩:=hne hn
  exact ⟨b,cs,ro,q1,by omega,by rw [o1.2 b q2,q3],q4⟩
 have hS:jn3 (h0.new (.cells [.int .u64 0,.bool false,.nils,.slice ad X.length c] false)) (.slice (some (h0.nx,0)) 1 (.fix 1)) [⟨0,false,[],.nils,X,.slice ad X.length c⟩]:=by
  refine ⟨_,_,rfl,fun _=>⟨fun x hx=>?_,fun _=>⟨h0.nx,_,false,rfl,by omega,g1,rfl,fun i x hx=>?_⟩⟩⟩
  ·obtain rfl:x=_:=by simpa using hx
   exact ⟨⟨⟨_,_,rfl⟩,fun _=>VI.nil _⟩,⟨⟨_,_,rfl⟩,fun _=>⟨hmok1,_,_,rfl,hne1⟩⟩,by show (0:Int)<=0;omega,by show (0:Int)<=_;omega⟩
  ·match i,hx with
   | 0,hx=>cases hx;rfl
   | i+1,hx=>simp at hx
 obtain ⟨sv,es,hs⟩:=gs_ok hcl (d:=30) om hS
 clear hne hmok hwf hX hL hS P0
 rcases hs with rfl | ⟨rfl,hfs⟩
 ·clear hL1 hin hmok1 hne1
  refine qm1 ?_
  rfl
 have hdl : ∀ x∈X,x.m.D.length<=1100:=(hfs.each _ (zj ..)).2.2
 obtain ⟨p,w,s,rw,ow,ro,h2,e2,b2⟩:=nw_fresh hcl (d:=30) om _ w1
 obtain ⟨ad2,c2,ev2,hin1⟩:=hL1
 obtain ⟨rfl,rfl⟩:ad1=ad2/\c1=c2:=by cases ev2;exact ⟨rfl,rfl⟩
 obtain ⟨hok,hel⟩:=hin1 om
 have T:=mm_loop hcl (d:=30) (c1:=c1) (c:=c) om b2 P1 hok hel hfew.2 om om hmok1 hne1 hdl
 obtain ⟨C,hC⟩ : ∃ C,C=c3_7:=⟨_,rfl⟩
 simp only [c3,c3_8,<- hC,uF,yB]
 rw [<- hC] at T
 clear hin hin1 hok hel hfew hmok1 hne1 hdl hfs b2 P1
 refine qm1 ?_
 exact T
end
end Am.Sigs
