/- Our own library, part 17. -/
import Derived.Test.YtloklombgjlofaaGreatQ16
import Derived.Test.YtloklombgjlofaaGreatQ15
set_option maxHeartbeats 8000000
set_option maxRecDepth 800
set_option linter.all false
namespace Am.Sigs
open Am Go
section
variable {cl:Nat->Call} (hcl:Sem cl) {h0:H} {w s:Nat} {ow:Nat->Nat} {ws:Ws} {now:Int} {tb:Tb} {no:Option (Nat × Nat)}
include hcl
theorem ww_Ready {d:Nat} {fd:Int} (hd:4<=d) (a:WSt h0 w s ow ws now tb no) (o:WsOk ws) :
  ∃ h',cl d (.fn F.jdk) [.p w 0,.i fd] h0=some (.agg (jh9 ws fd),h')/\Old h0 h':=by
 obtain ⟨l,a,rfl⟩:=a
 have oA:Old h0 (h0.new jfR):=(Old.refl _).new
 have gA0:(h0.new jfR).get h0.nx=some jfR:=jac _
 have nA:(h0.new jfR).nx=h0.nx+1:=rfl
 refine jal (at_ hcl om rfl rfl rfl ?_)
 refine qo1 ?_
 refine Ops.make (ob:=jfR) rfl rfl ?_
 generalize h0.new jfR=hA at oA gA0 nA ⊢
 rcases jdc hcl (d:=d-1) (fd:=fd) om (a.old oA) o.uniq with ⟨hno,h1,e1,o1,x1⟩ | ⟨n,k,m,t,rfl,hm,hat,ht,hk,h1,e1,o1,x1⟩
 ·have hS:jh9 (wxs l) fd=jny:=jaH hno
  rw [hS]
  have g1:h1.get h0.nx=some jfR:=by rw [o1.2 _ om,gA0]
  refine qm1 ?_
  refine je6 rfl (jab _) rfl ⟨rfl,?_⟩
  exact ((oA.trans o1).new.set om).set (zp _)
 have hS:jh9 (wxs l) (m:Int)=_:=jaI o.uniq hat (jam ht)
 have hS:jh9 (wxs l) (m:Int)=t.x.ready k:=hS
 rw [hS]
 have WI:=o.ok _ (zb (jam ht))
 have X:=a.wf.ok n t ht
 have hk':1-k=0\/1-k=1:=by omega
 let h2:=(h1.new (.cells [.bool false,.i 0,.i 0] false)).set h1.nx (.cells [.bool true,.i (n:Int),.i (k:Int)] false)
 have n2:h2.nx=h0.nx+3:=by show h1.nx+1=_;omega
 have g2 : ∀ j,j<h0.nx->h2.get j=h0.get j:=fun j hj=>by
  show (H.set _ _ _).get j=_
  rw [jaa om,jad om,o1.2 j om,oA.2 j hj]
 have g20:h2.get h0.nx=some jfR:=by
  show (H.set _ _ _).get _=_
  rw [jaa om,jad om,o1.2 _ om];exact gA0
 have gp:h2.get h1.nx=some (.cells [.bool true,.i (n:Int),.i (k:Int)] false):=jab _
 have y1:h1.nx=h0.nx+2:=by omega
 obtain ⟨C,hC⟩ : ∃ C,C=c67_1:=⟨_,rfl⟩
 simp only [c67_8,c67_7,c67_6,c67_5,c67_4,c67_3,yB,yC,yF]
 rw [<- hC]
 refine qo1 ?_
 refine Ops.callf rfl e1 ?_
 refine qo1 ?_
 refine Ops.make rfl rfl ?_
 refine qx1 ?_
 refine Ops.storeN rfl rfl rfl rfl (jac _) (zr rfl) ?_
 rw [show ((h1.new (.cells [.bool false,.i 0,.i 0] false)).set h1.nx (.cells (jax [.bool false,.i 0,.i 0] 0 [.bool true,.i (n:Int),.i (k:Int)]) false))=h2 from rfl]
 clear_value h2
 clear e1 o1 gA0 nA oA
 have hx:=X.hx
 have lx:=X.lx
 have hx2:h2.get t.wb=some (.cells (t.x.cells t.r0 t.r1 t.wv) false):=by rw [g2 _ lx];exact hx
 have ek:((1:Int)-(k:Int)).toNat=1-k:=by omega
 have hcl17:=Wi.cells_length t.x t.r0 t.r1 t.wv
 rw [y1] at gp ⊢
 refine qx1 ?_
 refine Run.region ?_
 rw [n2]
 refine qx1 ?_
 refine Ops.loadN rfl hx2 om ?_
 rw [Wi.en_cells hk om]
 refine qx1 ?_
 refine Ops.loadN rfl hx2 om ?_
 rw [Wi.en_cells (k:=1-k) hk' om]
 refine Ops.make_at rfl rfl ?_
 refine Ops.make_at rfl rfl ?_
 refine Ops.storeN_chk rfl rfl rfl (En.cells_one _ _) (by rw [jaa om];exact jab _) (zr rfl) ?_ ?_
 ·refine jbw rfl (l:=[.bool true,.i (n:Int),.i (k:Int)]) (ro:=false) (by rw [jaa om,jaa om,jaa om];exact gp) rfl rfl (chk_loadN rfl (l:=t.x.cells t.r0 t.r1 t.wv) (ro:=false) (by rw [jaa om,jaa om,jaa om];exact hx2) om (Wi.en_cells (k:=1-k) hk' om) rfl jcm)
 refine Ops.storeN rfl rfl rfl (En.cells_one _ _) (by rw [jaa om];exact jab _) (zr rfl) ?_
 have ow7 : ∀ (e:En) (r:Nat),jax [V.i 0,V.i 0,V.ptr none,V.bool false,V.bool false,V.int IntKind.u64 0,V.int IntKind.u64 0] 0 (e.cells r)=e.cells r:=fun e r=>jcT _ _ rfl
 rw [ow7,ow7]
 generalize hh:H.set (H.set (H.set (H.set _ _ _) _ _) _ _) _ _=h3
 have z3:h3.nx=h0.nx+5:=by rw [<- hh];show h2.nx+2=_;omega
 have zo:h3.get (h0.nx+3)=some (.cells ((t.x.e k).cells (two t.r0 t.r1 k)) false):=by
  rw [<- hh,jaa om];exact jab _
 have zt:h3.get (h0.nx+3+1)=some (.cells ((t.x.e (1-k)).cells (two t.r0 t.r1 (1-k))) false):=by
  rw [<- hh];exact jab _
 have g3 : ∀ j,j<h0.nx+3->h3.get j=h2.get j:=fun j hj=>by
  rw [<- hh,jaa om,jaa om,jaa om,jaa om];rfl
 have hx3:h3.get t.wb=some (.cells (t.x.cells t.r0 t.r1 t.wv) false):=by rw [g3 _ om,hx2]
 have z0:h3.get h0.nx=some jfR:=by rw [g3 _ om,g20]
 have gp3:h3.get (h0.nx+2)=some (.cells [.bool true,.i (n:Int),.i (k:Int)] false):=by rw [g3 _ om,gp]
 have kk : ∀ j,j<h0.nx->h3.get j=h0.get j:=fun j hj=>by rw [g3 _ om,g2 _ hj]
 clear hh g3 gp hx2 g20 g2 n2
 have zo:h3.get (h0.nx+3+0)=some (.cells ((t.x.e k).cells (two t.r0 t.r1 k)) false):=zo
 have i5:((t.x.e k).cells (two t.r0 t.r1 k))[0+5]?=some (.int .u64 (t.x.e k).inn):=rfl
 have i6:((t.x.e k).cells (two t.r0 t.r1 k))[0+6]?=some (.int .u64 (t.x.e k).out):=rfl
 have f15:=Wi.backlog_cell (x:=t.x) (r0:=t.r0) (r1:=t.r1) (wv:=t.wv) (o:=0+15) rfl
 have f14:=Wi.reset_cell (x:=t.x) (r0:=t.r0) (r1:=t.r1) (wv:=t.wv) (o:=0+14) rfl
 obtain ⟨av,cp,hva,_⟩:=X.wait.1
 have f16:(t.x.cells t.r0 t.r1 t.wv)[0+16]?=some (.slice av t.x.waiting.length cp):=by simp [Wi.cells,En.cells,hva]
 have o3:Old h0 h3:=⟨by omega,kk⟩
 by_cases hbl:0<t.x.backlog
 ·have hR:t.x.ready k=[.bool true,.bool (!t.x.waiting.isEmpty),.bool false,.bool false,.bool false,.int .u64 (t.x.e k).inn,.int .u64 (t.x.e k).out]:=if_pos hbl
  rw [hR]
  have ew:decide (0<((t.x.waiting.length:Nat):Int)) = !t.x.waiting.isEmpty:=by cases t.x.waiting<;>simp
  clear hC hcl17 ek hk' y1
  refine qm1 ?_
  rw [ew]
  refine je6 rfl (jab _) rfl ⟨rfl,?_⟩
  exact (((o3.new.set om).set om).set om)
 ·have hR:t.x.ready k=[.bool true,.bool (t.x.rIn k),.bool (t.x.rOut k),.bool ((t.x.e (1-k)).what == 3),.bool t.x.reset,.int .u64 (t.x.e k).inn,.int .u64 (t.x.e k).out]:=if_neg hbl
  rw [hR]
  have j0:((t.x.e (1-k)).cells (two t.r0 t.r1 (1-k)))[0+0]?=some (.i (t.x.e (1-k)).what):=rfl
  refine qm1 ?_
  refine Ops.store1_chk rfl rfl rfl (by first | exact jab _ | (rw [jab])) (zr rfl) ?_ ?_
  ·exact jbw rfl (l:=t.x.cells t.r0 t.r1 t.wv) (ro:=false) (by rw [jaa om,jaa om,jad om];exact hx3) f14 rfl jcm
  refine qs1 ?_
  generalize hh:H.set (H.set (H.set _ _ _) _ _) _ _=h5
  have y5:h5.nx=h3.nx+1:=by rw [<- hh];rfl
  have g5 : ∀ j,j<h3.nx->h5.get j=h3.get j:=fun j hj=>by
   rw [<- hh,jaa om,jaa om,jaa om,jad hj]
  have ehup:decide ((t.x.e (1-k)).what=3)=((t.x.e (1-k)).what == 3):=rfl
  have z5:h5.get h3.nx=some (.cells [.bool true,.bool false,.bool false,.bool ((t.x.e (1-k)).what == 3),.bool t.x.reset,.int .u64 (t.x.e k).inn,.int .u64 (t.x.e k).out] false):=by
   rw [<- hh,jab,<- ehup];rfl
  clear hh
  have o5:Old h0 h5:=o3.trans ⟨by omega,g5⟩
  have lr : ∀ i,i=0\/i=1 -> ∀ q,(t.x.e i).ring=some q->ja2 h5 (t.r i) (t.b i) q t.x.cap/\t.r i<h0.nx/\t.b i<h0.nx:=fun i hi q hq=>by
   obtain ⟨p1,_,_,p4,p5⟩:=X.ring i hi q hq
   exact ⟨p1.keep (o5.2 _ p4) (o5.2 _ p5),p4,p5⟩
  have q4:h5.get h0.nx=some jfR:=by rw [g5 _ om,z0]
  have q5:h5.get (h0.nx+2)=some (.cells [.bool true,.i (n:Int),.i (k:Int)] false):=by rw [g5 _ om,gp3]
  have q8:h5.get (h0.nx+3+0)=some (.cells ((t.x.e k).cells (two t.r0 t.r1 k)) false):=by rw [g5 _ om,zo]
  have q9:h5.get (h0.nx+3+1)=some (.cells ((t.x.e (1-k)).cells (two t.r0 t.r1 (1-k))) false):=by rw [g5 _ om,zt]
  have qx:h5.get t.wb=some (t.x.obj t.r0 t.r1 t.wv):=by rw [g5 _ om,hx3];rfl
  have hpair:=WI.pair k hk
  rw [hC]
  refine Run.fin_mono (wr_in hcl (d:=d) (bo:=t.b k) (n:=n) (hup:=(t.x.e (1-k)).what == 3) om hk q4 q5 q8 q9 z5 qx om om om om rfl (fun q hq=>(lr k hk q hq).1) fun hwr=>?_) fun v h' ⟨p1,p2⟩=>⟨p1,?_⟩
  ·obtain ⟨q,hq⟩:=Option.ne_none_iff_exists'.1 (hpair.1 hwr)
   obtain ⟨r1,r2,r3⟩:=lr (1-k) hk' q hq
   exact ⟨q,t.b (1-k),hq,r1,by show t.r (1-k)≠_;omega,by omega⟩
  ·have hn5:=o5.1
   exact ⟨zy hn5 p2.nx,fun j hj=>by rw [p2.get j om (by rintro (e | e)<;>omega),o5.2 j hj]⟩
end
def lc (f:Nat->Int):List V:=tab 96 (fun _=>V.i 0)++(tab 96 (fun i=>V.i (f i))++[.bool true])
section
variable {f g:Nat->Int} {i o:Nat} {v:Int}
theorem lc_h (hi:i<96) (ho:o=i):(lc f)[o]?=some (.i 0):=by
 subst ho
 unfold lc
 rw [List.getElem?_append_left (by simpa using hi),jbC hi]
theorem lc_w (hi:i<96) (ho:o=96+i):(lc f)[o]?=some (.i (f i)):=by
 subst ho
 unfold lc
 rw [List.getElem?_append_right Zd,tab_length,show 96+i-96=i by omega,List.getElem?_append_left (by simpa using hi),jbC hi]
theorem lc_m (ho:o=192):(lc f)[o]?=some (.bool true):=by
 subst ho
 unfold lc
 rw [List.getElem?_append_right Zd,tab_length,List.getElem?_append_right Zd,tab_length];rfl
theorem jn1:(lc f).length=193:=by simp [lc]
theorem lc_set_h (hi:i<96) (ho:o=i):(lc f).set o (.i 0)=lc f:=by
 subst ho
 unfold lc
 rw [List.set_append,if_pos (by simpa using hi),jdd]
 congr 1
 exact jbS fun k _=>by split<;>rfl
theorem jlx (hi:i<96) (ho:o=96+i):(lc f).set o (.i v)=lc (put1 f i v):=by
 subst ho
 unfold lc
 rw [List.set_append,if_neg Zd,tab_length,show 96+i-96=i by omega,List.set_append,if_pos (by simpa using hi),jdd]
 congr 2
 exact jbS fun k _=>by unfold put1;split<;>rfl
end
def inFd (fd:Int):Prop:=0<=fd/\fd<=95
section
variable {cl:Nat->Call} (hcl:Sem cl) {d L:Nat} {h:H} {fd n:Int} {f:Nat->Int}
include hcl
theorem jfD (hd:1<=d) (hL:h.get L=some (.cells (lc f) false)):cl d (.fn F.jgd) [.p L 0] h=some (.bool false,h):=by
 have h0:(lc f)[0+192]?=some (.bool true):=lc_m rfl
 refine jak (at_ hcl om rfl rfl rfl ?_)
 refine qx1 ?_
 exact ⟨rfl,rfl⟩
theorem joh (hd:1<=d) (hf:inFd fd):cl d (.fn F.jjJ) [.i fd] h=some (.bool true,h):=by
 obtain ⟨f0,f1⟩:=hf
 refine jak (at_ hcl om rfl rfl rfl ?_)
 refine qx1 ?_
 exact ⟨by rw [decide_eq_true f1],rfl⟩
theorem jnM (hd:1<=d) (hf : ¬ inFd fd):cl d (.fn F.jjJ) [.i fd] h=some (.bool false,h):=by
 unfold inFd at hf
 refine jak (at_ hcl om rfl rfl rfl ?_)
 by_cases f0:0<=fd
 ·have f1 : ¬ fd<=95:=by omega
  refine qx1 ?_
  exact ⟨by rw [decide_eq_false f1],rfl⟩
 ·refine qx1 ?_
  exact ⟨rfl,rfl⟩
theorem cg_Wants (hd:2<=d) (hL:h.get L=some (.cells (lc f) false)) (hf:inFd fd):cl d (.fn F.jdo) [.p L 0,.i fd] h=some (.i (f fd.toNat),h):=by
 have e1:=jfD hcl (d:=d-1) om hL
 have e2:=joh hcl (d:=d-1) (h:=h) om hf
 obtain ⟨f0,f1⟩:=hf
 have h0:(lc f)[0+96+fd.toNat*1]?=some (.i (f fd.toNat)):=lc_w om om
 refine jak (at_ hcl om rfl rfl rfl ?_)
 refine qx1 ?_
 exact ⟨rfl,rfl⟩
theorem jkH (hd:2<=d) (hL:h.get L=some (.cells (lc f) false)) (hf : ¬ inFd fd):cl d (.fn F.jdo) [.p L 0,.i fd] h=some (.i 0,h):=by
 have e1:=jfD hcl (d:=d-1) om hL
 have e2:=jnM hcl (d:=d-1) (h:=h) om hf
 refine jak (at_ hcl om rfl rfl rfl ?_)
 refine qx1 ?_
 exact ⟨rfl,rfl⟩
theorem cg_Held (hd:2<=d) (hL:h.get L=some (.cells (lc f) false)):cl d (.fn F.jgf) [.p L 0,.i fd] h=some (.i 0,h):=by
 have e1:=jfD hcl (d:=d-1) om hL
 by_cases hf:inFd fd
 ·have e2:=joh hcl (d:=d-1) (h:=h) om hf
  obtain ⟨f0,f1⟩:=hf
  have h0:(lc f)[0+0+fd.toNat*1]?=some (.i 0):=lc_h (i:=fd.toNat) om om
  refine jak (at_ hcl om rfl rfl rfl ?_)
  refine qx1 ?_
  exact ⟨rfl,rfl⟩
 ·have e2:=jnM hcl (d:=d-1) (h:=h) om hf
  refine jak (at_ hcl om rfl rfl rfl ?_)
  refine qx1 ?_
  exact ⟨rfl,rfl⟩
theorem cg_Forget (hd:2<=d) (hL:h.get L=some (.cells (lc f) false)) (hf:inFd fd) : ∃ h',cl d (.fn F.jda) [.p L 0,.i fd] h=some (.tup [],h')/\Upd L (.cells (lc (put1 f fd.toNat 0)) false) h h':=by
 have e1:=jfD hcl (d:=d-1) om hL
 have e2:=joh hcl (d:=d-1) (h:=h) om hf
 obtain ⟨f0,f1⟩:=hf
 have hl:0+0+fd.toNat*1<(lc f).length:=by rw [jn1];omega
 have hl2:0+96+fd.toNat*1<(lc f).length:=by rw [jn1];omega
 have s1:=lc_set_h (f:=f) (i:=fd.toNat) (o:=0+0+fd.toNat*1) om om
 have s2:=jlx (f:=f) (i:=fd.toNat) (o:=0+96+fd.toNat*1) (v:=0) om om
 refine jal (at_ hcl om rfl rfl rfl ?_)
 refine qx1 ?_
 refine Ops.store1 rfl rfl rfl hL hl ?_
 rw [s1]
 refine qx1 ?_
 refine Ops.store1 rfl rfl rfl (jab _) hl2 ?_
 rw [s2]
 refine qx1 ?_
 exact ⟨rfl,Upd.set.trans Upd.set⟩
theorem jjK (hd:2<=d) (hL:h.get L=some (.cells (lc f) false)) (hf : ¬ inFd fd):cl d (.fn F.jda) [.p L 0,.i fd] h=some (.tup [],h):=by
 have e1:=jfD hcl (d:=d-1) om hL
 have e2:=jnM hcl (d:=d-1) (h:=h) om hf
 refine jak (at_ hcl om rfl rfl rfl ?_)
 refine qx1 ?_
 exact ⟨rfl,rfl⟩
abbrev offW (n:Int):Int:=IntKind.i64.wrap ↑(BitVec.ofInt IntKind.i64.bits n &&& ~~~BitVec.ofInt IntKind.i64.bits 38).toNat
abbrev onW (n:Int):Int:=IntKind.i64.wrap ↑(BitVec.ofInt IntKind.i64.bits n &&& BitVec.ofInt IntKind.i64.bits 6).toNat
def mayW (n:Int):Bool:=decide (offW n=0)&&(decide (n=0)||decide (onW n≠0))
theorem jo5 (hd:1<=d):cl d (.fn F.jmB) [.i n] h=some (.bool (mayW n),h):=by
 refine jak (at_ hcl om rfl rfl rfl ?_)
 unfold mayW
 by_cases ha:offW n=0
 ·by_cases hn:n=0
  ·refine qx1 ?_
   exact ⟨by rw [decide_eq_true ha,decide_eq_true hn];rfl,rfl⟩
  ·refine qx1 ?_
   exact ⟨by rw [decide_eq_true ha,decide_eq_false hn];rfl,rfl⟩
 ·refine qx1 ?_
  exact ⟨by rw [decide_eq_false ha];rfl,rfl⟩
theorem jnN (hd:2<=d) (hL:h.get L=some (.cells (lc f) false)) (hf:inFd fd) (hm:mayW n=true):cl d (.fn F.jge) [.p L 0,.i fd,.i n] h=some (.i 0,h.set L (.cells (lc (put1 f fd.toNat n)) false)):=by
 have e1:=jfD hcl (d:=d-1) om hL
 have e2:=joh hcl (d:=d-1) (h:=h) om hf
 have e3:=jo5 hcl (d:=d-1) (h:=h) (n:=n) om
 rw [hm] at e3
 obtain ⟨f0,f1⟩:=hf
 have hl2:0+96+fd.toNat*1<(lc f).length:=by rw [jn1];omega
 rw [<- jlx (f:=f) (i:=fd.toNat) (o:=0+96+fd.toNat*1) (v:=n) om om]
 refine jak (at_ hcl om rfl rfl rfl ?_)
 refine qx1 ?_
 refine Ops.store1 rfl rfl rfl hL hl2 ?_
 refine qx1 ?_
 exact ⟨rfl,rfl⟩
end
section
variable {x:Wi} {k m:Nat} {q b:List UInt8}
theorem Wi.fill_self (hk:k=0\/k=1):((x.fill k m q b).e (1-k)).ring=some (q++b.take m):=by
 rcases hk with rfl | rfl<;>simp [Wi.fill,Wi.setq,Wi.came,Wi.put,Wi.e,En.came]
theorem Wi.fill_other (hk:k=0\/k=1):((x.fill k m q b).e k).ring=(x.e k).ring:=by
 rcases hk with rfl | rfl<;>simp [Wi.fill,Wi.setq,Wi.came,Wi.put,Wi.e,En.came]
theorem Wi.fill_same (hk:k=0\/k=1):x.SameFd (x.fill k m q b):=by
 rintro i (rfl | rfl)<;>rcases hk with rfl | rfl<;>exact ⟨Iff.rfl,fun _=>rfl⟩
theorem Wi.fill_wait (hk:k=0\/k=1):(x.fill k m q b).waiting=x.waiting:=by rcases hk with rfl | rfl<;>rfl
theorem Wi.fill_cap (hk:k=0\/k=1):(x.fill k m q b).cap=x.cap:=by rcases hk with rfl | rfl<;>rfl
theorem Wi.shut_same (hk:k=0\/k=1):x.SameFd (x.doShut k):=by
 unfold Wi.doShut
 split
 ·exact Wi.SameFd.refl x
 ·rintro i (rfl | rfl)<;>rcases hk with rfl | rfl<;>exact ⟨Iff.rfl,fun _=>rfl⟩
theorem Wi.shut_wait (hk:k=0\/k=1):(x.doShut k).waiting=x.waiting:=by
 unfold Wi.doShut
 split
 ·rfl
 ·rcases hk with rfl | rfl<;>rfl
theorem Wi.shut_cap (hk:k=0\/k=1):(x.doShut k).cap=x.cap:=by
 unfold Wi.doShut
 split
 ·rfl
 ·rcases hk with rfl | rfl<;>rfl
theorem Wi.shut_ring (hk:k=0\/k=1) (i:Nat) (hi:i=0\/i=1):((x.doShut k).e i).ring=(x.e i).ring:=by
 unfold Wi.doShut
 split
 ·rfl
 ·rcases hk with rfl | rfl<;>rcases hi with rfl | rfl<;>rfl
theorem Wi.close_cap (hk:k=0\/k=1):(x.close k).cap=x.cap:=by rcases hk with rfl | rfl<;>rfl
theorem Wi.close_other (hk:k=0\/k=1):((x.close k).e (1-k)).what=(x.e (1-k)).what/\((x.close k).e (1-k)).fd=(x.e (1-k)).fd:=by rcases hk with rfl | rfl<;>exact ⟨rfl,rfl⟩
theorem Wi.close_what (hk:k=0\/k=1):((x.close k).e k).what=3:=by rcases hk with rfl | rfl<;>rfl
end
section
variable {h h':H} {w s:Nat} {ow:Nat->Nat} {f:Nat->Option (Nat × Nat)} {l:List WX} {now:Int} {tb:Tb} {no:Option (Nat × Nat)} {n k m:Nat} {t:WX} {q b:List UInt8}
theorem WF.fill (a:WF h w s ow f l now tb no) (ht:l[n]?=some t) (hk:k=0\/k=1) (hq:(t.x.e (1-k)).ring=some q) (ch:Ch (fun j=>j=t.wb\/j=t.r (1-k)\/j=t.b (1-k)) h h') (ho:h'.get t.wb=some ((t.x.fill k m q b).obj t.r0 t.r1 t.wv)) (hR:ja2 h' (t.r (1-k)) (t.b (1-k)) (q++b.take m) t.x.cap) :
  WF h' w s ow f (l.set n { t with x:=t.x.fill k m q b }) now tb no:=by
 have X:=a.ok n t ht
 have hox:=X.ox
 have hk':1-k=0\/1-k=1:=by omega
 obtain ⟨_,o1,o2,_⟩:=X.ring _ hk' q hq
 refine a.step ht ch (fun j _ hb=>?_) ho (Wi.fill_wait hk) fun i hi q' hq'=>?_
 ·rcases hb with rfl | rfl | rfl<;>omega
 ·rw [Wi.fill_cap hk]
  by_cases hik:i=k
  ·subst hik
   rw [Wi.fill_other hk] at hq'
   obtain ⟨p1,p2,p3,p4,p5⟩:=X.ring _ hi q' hq'
   refine ⟨q',hq',p1.keep (ch.get _ p4 ?_) (ch.get _ p5 ?_)⟩
   ·rintro (e | e | e)
    ·rw [e] at p2;omega
    ·rw [e] at p2;omega
    ·rw [e] at p2;omega
   ·rintro (e | e | e)
    ·rw [e] at p3;omega
    ·rw [e] at p3;omega
    ·rw [e] at p3;omega
  ·obtain rfl:=jeU hi hk hik
   rw [Wi.fill_self hk] at hq'
   cases hq'
   exact ⟨q,hq,hR⟩
theorem XOk.to (X:XOk h ow n t) (hk:k=0\/k=1) (hq:(t.x.e k).ring=some q) (ch:Ch (fun j=>j=t.wb\/j=t.r k\/j=t.b k) h h'):To h h' ow ow :=
 ⟨ch.weaken fun j hj hb=>by
  have o1:=X.ox
  obtain ⟨_,o2,o3,_⟩:=X.ring k hk q hq
  rcases hb with rfl | rfl | rfl
  ·omega
  ·show ow (t.r k)≠0;omega
  ·show ow (t.b k)≠0;omega,fun _ _=>rfl⟩
theorem XOk.toU (X:XOk h ow n t) {ob:Obj} (u:Upd t.wb ob h h'):To h h' ow ow :=
 ⟨(u.ch (B:=fun j=>j=t.wb) rfl).weaken fun j hj hb=>by
  have o1:=X.ox
  have hb:j=t.wb:=hb
  subst hb;omega,fun _ _=>rfl⟩
end
section
variable {cl:Nat->Call} (hcl:Sem cl)
include hcl
theorem jhU {d wb r0 r1 k:Nat} {wv:V} {h:H} {x:Wi} (hd:2<=d) (hw:h.get wb=some (x.obj r0 r1 wv)) (hk:k=0\/k=1) :
  ∃ h',cl d (.fn F.jd8) [.p wb 0,.i (k:Int)] h=some (.tup [],h')/\Upd wb ((x.close k).obj r0 r1 wv) h h':=by
 refine jal (at_ hcl om rfl rfl rfl ?_)
 have hsc:=Wi.shut_cell (x:=x) (r0:=r0) (r1:=r1) (wv:=wv) hk (o:=0+0+(k:Int).toNat*7+4) om
 have ek:(1:Int)-(k:Int)=((1-k:Nat):Int):=by omega
 obtain ⟨h2,e2,u2⟩:=jfn hcl (d:=d-1) (k:=1-k) om hw om (!(x.e k).shut) true
 have hw2:=u2.self
 rw [<- ek] at e2
 have es:decide ((x.e k).shut=false) = !(x.e k).shut:=by cases (x.e k).shut<;>rfl
 unfold Wi.obj at hw hw2
 refine qx1 ?_
 rw [es]
 refine qx1 ?_
 refine Ops.store1 rfl rfl rfl hw2 (by rw [Wi.cells_length];omega) ?_
 have e1:Obj.cells ((((x.came (1-k) (!(x.e k).shut) true)).cells r0 r1 wv).set (0+0+(k:Int).toNat*7+0) (.i 3)) false=(x.close k).obj r0 r1 wv:=by
  rcases hk with rfl | rfl<;>rfl
 rw [e1]
 refine qx1 ?_
 exact ⟨rfl,u2.trans Upd.set⟩
variable {h:H} {w s:Nat} {ow:Nat->Nat} {ws:Ws} {now:Int} {tb:Tb} {no:Option (Nat × Nat)}
theorem ww_Write {d:Nat} {fd:Int} {b:List UInt8} {vb:V} (hd:10<=d) (a:WSt h w s ow ws now tb no) (o:WsOk ws) (hb:VB h vb b) (hbl:b.length<=1000) (hba : ∀ z,vb.at?=some z->ow z=0) :
  ∃ h',cl d (.fn F.jaD) [.p w 0,.i fd,vb] h=some (.tup [.i (jb6 ws fd b).1.1,.i (jb6 ws fd b).1.2],h')/\WSt h' w s ow (jb6 ws fd b).2 now tb no/\To h h' ow ow:=by
 obtain ⟨l,a,rfl⟩:=a
 obtain ⟨av,cv,rfl,hB⟩:=hb
 rcases jdc hcl (d:=d-1) (fd:=fd) om a o.uniq with ⟨hno,h1,e1,o1,x1⟩ | ⟨n,k,m,t,rfl,hm,hat,ht,hk,h1,e1,o1,x1⟩
 ·have hS:jb6 (wxs l) fd b=((0,110),wxs l):=jaH hno
  rw [hS]
  suffices q : ∃ h',cl d (.fn F.jaD) [.p w 0,.i fd,.slice av b.length cv] h=some (.tup [.i 0,.i 110],h')/\Old h h' by
   obtain ⟨h',e,q⟩:=q
   exact ⟨h',e,⟨l,a.old q,rfl⟩,To.of_old q⟩
  refine jal (at_ hcl om rfl rfl rfl ?_)
  refine qm1 ?_
  exact ⟨rfl,o1.new.set o1.1⟩
 have X:=a.wf.ok n t ht
 have hS:jb6 (wxs l) (m:Int) b=_:=jaI o.uniq hat (jam ht)
 have hx1:h1.get t.wb=some (.cells (t.x.cells t.r0 t.r1 t.wv) false):=by rw [o1.2 _ X.lx];exact X.hx
 have lx:=X.lx
 have f1:=Wi.writes_cell (x:=t.x) (r0:=t.r0) (r1:=t.r1) (wv:=t.wv) hk (o:=0+0+(k:Int).toNat*7+3) om
 have f2:=Wi.reset_cell (x:=t.x) (r0:=t.r0) (r1:=t.r1) (wv:=t.wv) (o:=0+14) rfl
 have f3:=Wi.shut_cell (x:=t.x) (r0:=t.r0) (r1:=t.r1) (wv:=t.wv) hk (o:=0+0+(k:Int).toNat*7+4) om
 have ek:(1:Int)-(k:Int)=((1-k:Nat):Int):=by omega
 have f4:(t.x.cells t.r0 t.r1 t.wv)[0+0+((1:Int)-(k:Int)).toNat*7+0]?=some (.i (t.x.e (1-k)).what):=Wi.what_cell om om
 cases hwr:(t.x.e k).writes
 ·rw [hwr,if_pos rfl] at hS;rw [hS]
  suffices q : ∃ h',cl d (.fn F.jaD) [.p w 0,.i m,.slice av b.length cv] h=some (.tup [.i 0,.i 111],h')/\Old h h' by
   obtain ⟨h',e,q⟩:=q
   exact ⟨h',e,⟨l,a.old q,rfl⟩,To.of_old q⟩
  rw [hwr] at f1
  refine jal (at_ hcl om rfl rfl rfl ?_)
  refine qm1 ?_
  exact ⟨rfl,o1.new.set o1.1⟩
 rw [hwr,if_neg Zd] at hS
 rw [hwr] at f1
 cases hrs:t.x.reset
 case true=>
  rw [hrs,if_pos rfl] at hS;rw [hS]
  suffices q : ∃ h',cl d (.fn F.jaD) [.p w 0,.i m,.slice av b.length cv] h=some (.tup [.i 0,.i 115],h')/\Old h h' by
   obtain ⟨h',e,q⟩:=q
   exact ⟨h',e,⟨l,a.old q,rfl⟩,To.of_old q⟩
  rw [hrs] at f2
  refine jal (at_ hcl om rfl rfl rfl ?_)
  refine qm1 ?_
  exact ⟨rfl,o1.new.set o1.1⟩
 rw [hrs,if_neg Zd] at hS
 rw [hrs] at f2
 cases hsh:(t.x.e k).shut
 case true=>
  rw [if_pos (.inl hsh)] at hS;rw [hS]
  suffices q : ∃ h',cl d (.fn F.jaD) [.p w 0,.i m,.slice av b.length cv] h=some (.tup [.i 0,.i 114],h')/\Old h h' by
   obtain ⟨h',e,q⟩:=q
   exact ⟨h',e,⟨l,a.old q,rfl⟩,To.of_old q⟩
  rw [hsh] at f3
  refine jal (at_ hcl om rfl rfl rfl ?_)
  refine qm1 ?_
  exact ⟨rfl,o1.new.set o1.1⟩
 rw [hsh] at f3
 by_cases h3:(t.x.e (1-k)).what=3
 ·rw [if_pos (.inr h3)] at hS;rw [hS]
  suffices q : ∃ h',cl d (.fn F.jaD) [.p w 0,.i m,.slice av b.length cv] h=some (.tup [.i 0,.i 114],h')/\Old h h' by
   obtain ⟨h',e,q⟩:=q
   exact ⟨h',e,⟨l,a.old q,rfl⟩,To.of_old q⟩
  refine jal (at_ hcl om rfl rfl rfl ?_)
  refine qm1 ?_
  exact ⟨rfl,o1.new.set o1.1⟩
 rw [if_neg (by rintro (e | e);(rw [hsh] at e;cases e);exact h3 e)] at hS
 have hk':1-k=0\/1-k=1:=by omega
 have WI:=o.ok _ (zb (jam ht))
 obtain ⟨q,hring⟩:=Option.ne_none_iff_exists'.1 ((WI.pair k hk).1 hwr)
 simp only [hring] at hS
 obtain ⟨p1,p2,p3,p4,p5,p6⟩:=X.apart hk' hring
 obtain ⟨z,c,A,lz,oz⟩:=a.wf.wat (jcI ht)
 have hne : ∀ z o,av=some (z,o)->b≠[]->z≠t.b (1-k)/\z≠t.r (1-k):=fun z o e _=>by
  have h0:=hba z (by subst e;rfl)
  obtain ⟨_,o1,o2,_⟩:=X.ring _ hk' q hring
  exact ⟨fun e=>by rw [e] at h0;omega,fun e=>by rw [e] at h0;omega⟩
 obtain ⟨h',e,r1,r2,r3⟩:=wp_Write hcl (d:=d) om A (a.fdat o.uniq hat ht) X.hx hwr hrs hsh h3 hring p1 a.wf.lw lz X.lx p2 p3 p4 p5 p6 hB om hne
 have W:=a.wf.fill ht hk hring r3 r1 r2
 have W2:=WF.same W a.fds (jam ht) (Wi.fill_same hk)
 refine ⟨h',?_,⟨_,W2,?_⟩,X.to hk' hring r3⟩
 ·rw [e,hS]
  by_cases hbn:b=[]
  ·simp [hbn]
  ·by_cases hm0:min b.length (t.x.cap-q.length)=0
   ·rw [if_neg hbn,if_pos hm0,if_pos ⟨hm0,hbn⟩,hm0];rfl
   ·rw [if_neg hbn,if_neg hm0,if_neg fun e=>hm0 e.1]
 ·rw [jbf,hS]
  by_cases hbn:b=[]
  ·rw [if_pos hbn]
   subst hbn
   have:(wxs l).set n (t.x.fill k (min ([]:List UInt8).length (t.x.cap-q.length)) q [])=wxs l:=by
    rw [show min ([]:List UInt8).length (t.x.cap-q.length)=0 by simp]
    have e3:t.x.fill k 0 q []=t.x:=by
     unfold Wi.fill
     rw [List.take_nil,List.append_nil,Wi.setq_eq hk' hring]
     exact Wi.came_ff t.x _
    rw [e3]
    exact jid (jam ht)
   exact this
  ·by_cases hm0:min b.length (t.x.cap-q.length)=0
   ·rw [if_neg hbn,if_pos hm0,hm0]
   ·rw [if_neg hbn,if_neg hm0]
theorem ww_Put {d:Nat} {n:Int} {b:List UInt8} {vb:V} (hd:10<=d) (a:WSt h w s ow ws now tb no) (o:WsOk ws) (hb:VB h vb b) (hbl:b.length<=1000) (hba : ∀ z,vb.at?=some z->ow z=0) :
  ∃ h',cl d (.fn F.jbp) [.p w 0,.i n,vb] h=some (.tup [.i (putS ws n b).1.1,.i (putS ws n b).1.2],h')/\WSt h' w s ow (putS ws n b).2 now tb no/\To h h' ow ow:=by
 obtain ⟨l,a,rfl⟩:=a
 obtain ⟨av,cv,rfl,hB⟩:=hb
 rcases jeE hcl (d:=d-1) (n:=n) om a.wf with ⟨hno,e1⟩ | ⟨m,t,rfl,ht,h2,e1⟩
 ·have hS:putS (wxs l) n b=((0,116),wxs l):=jb2 hno
  rw [hS]
  suffices q : ∃ h',cl d (.fn F.jbp) [.p w 0,.i n,.slice av b.length cv] h=some (.tup [.i 0,.i 116],h')/\Old h h' by
   obtain ⟨h',e,q⟩:=q
   exact ⟨h',e,⟨l,a.old q,rfl⟩,To.of_old q⟩
  refine jal (at_ hcl om rfl rfl rfl ?_)
  refine qm1 ?_
  exact ⟨rfl,Old.refl _⟩
 have X:=a.wf.ok m t ht
 have hS:putS (wxs l) (m:Int) b=_:=jb3 (jam ht) h2
 have hx:=X.hx
 unfold Wi.obj at hx
 have f2:=Wi.reset_cell (x:=t.x) (r0:=t.r0) (r1:=t.r1) (wv:=t.wv) (o:=0+14) rfl
 have f3:(t.x.cells t.r0 t.r1 t.wv)[0+0+(1:Int).toNat*7+4]?=some (.bool t.x.e1.shut):=Wi.shut_cell (k:=1) (.inr rfl) rfl
 have f4:(t.x.cells t.r0 t.r1 t.wv)[0+0+(0:Int).toNat*7+0]?=some (.i t.x.e0.what):=Wi.what_cell (k:=0) (.inl rfl) rfl
 cases hrs:t.x.reset
 case true=>
  rw [hrs,if_pos rfl] at hS;rw [hS]
  suffices q : ∃ h',cl d (.fn F.jbp) [.p w 0,.i m,.slice av b.length cv] h=some (.tup [.i 0,.i 115],h')/\Old h h' by
   obtain ⟨h',e,q⟩:=q
   exact ⟨h',e,⟨l,a.old q,rfl⟩,To.of_old q⟩
  rw [hrs] at f2
  refine jal (at_ hcl om rfl rfl rfl ?_)
  refine qm1 ?_
  exact ⟨rfl,Old.refl _⟩
 rw [hrs,if_neg Zd] at hS
 rw [hrs] at f2
 cases hsh:t.x.e1.shut
 case true=>
  rw [if_pos (.inl hsh)] at hS;rw [hS]
  suffices q : ∃ h',cl d (.fn F.jbp) [.p w 0,.i m,.slice av b.length cv] h=some (.tup [.i 0,.i 114],h')/\Old h h' by
   obtain ⟨h',e,q⟩:=q
   exact ⟨h',e,⟨l,a.old q,rfl⟩,To.of_old q⟩
  rw [hsh] at f3
  refine jal (at_ hcl om rfl rfl rfl ?_)
  refine qm1 ?_
  exact ⟨rfl,Old.refl _⟩
 rw [hsh] at f3
 by_cases h3:t.x.e0.what=3
 ·rw [if_pos (.inr h3)] at hS;rw [hS]
  suffices q : ∃ h',cl d (.fn F.jbp) [.p w 0,.i m,.slice av b.length cv] h=some (.tup [.i 0,.i 114],h')/\Old h h' by
   obtain ⟨h',e,q⟩:=q
   exact ⟨h',e,⟨l,a.old q,rfl⟩,To.of_old q⟩
  refine jal (at_ hcl om rfl rfl rfl ?_)
  refine qm1 ?_
  exact ⟨rfl,Old.refl _⟩
 rw [if_neg (by rintro (e | e);(rw [hsh] at e;cases e);exact h3 e)] at hS
 obtain ⟨q,hring⟩:=Option.ne_none_iff_exists'.1 ((o.ok _ (zb (jam ht))).out h2).1
 simp only [hring] at hS
 obtain ⟨p1,p2,p3,p4,p5,p6⟩:=X.apart (k:=0) (.inl rfl) hring
 obtain ⟨z,c,A,lz,oz⟩:=a.wf.wat (jcI ht)
 have hne : ∀ z o,av=some (z,o)->b≠[]->z≠t.b0/\z≠t.r0:=fun z o e _=>by
  have h0:=hba z (by subst e;rfl)
  obtain ⟨_,o1,o2,_⟩:=X.ring 0 (.inl rfl) q hring
  exact ⟨fun e=>by have o2:ow t.b0=_:=o2;rw [e] at h0;omega,fun e=>by have o1:ow t.r0=_:=o1;rw [e] at h0;omega⟩
 obtain ⟨h',e,r1,r2,r3⟩:=wp_Put hcl (d:=d) om A (x_lt ht) (jdq ht) X.hx h2 hrs hsh h3 hring p1 X.lx p2 p3 p4 p5 p6 hB om hne
 have W:=a.wf.fill (k:=1) ht (.inr rfl) hring r3 r1 r2
 have W2:=WF.same W a.fds (jam ht) (Wi.fill_same (.inr rfl))
 rw [hS]
 exact ⟨h',e,⟨_,W2,jbf⟩,X.to (k:=0) (.inl rfl) hring r3⟩
theorem ww_Shut {d:Nat} {fd:Int} (hd:4<=d) (a:WSt h w s ow ws now tb no) (o:WsOk ws) :
  ∃ h',cl d (.fn F.jby) [.p w 0,.i fd] h=some (.i (jdt ws fd).1,h')/\WSt h' w s ow (jdt ws fd).2 now tb no/\To h h' ow ow:=by
 obtain ⟨l,a,rfl⟩:=a
 rcases jdc hcl (d:=d-1) (fd:=fd) om a o.uniq with ⟨hno,h1,e1,o1,x1⟩ | ⟨n,k,m,t,rfl,hm,hat,ht,hk,h1,e1,o1,x1⟩
 ·have hS:jdt (wxs l) fd=(110,wxs l):=jaH hno
  rw [hS]
  suffices q : ∃ h',cl d (.fn F.jby) [.p w 0,.i fd] h=some (.i 110,h')/\Old h h' by
   obtain ⟨h',e,q⟩:=q
   exact ⟨h',e,⟨l,a.old q,rfl⟩,To.of_old q⟩
  refine jal (at_ hcl om rfl rfl rfl ?_)
  refine qm1 ?_
  exact ⟨rfl,o1.new.set o1.1⟩
 have X:=a.wf.ok n t ht
 have hS:jdt (wxs l) (m:Int)=_:=jaI o.uniq hat (jam ht)
 have hx1:h1.get t.wb=some (.cells (t.x.cells t.r0 t.r1 t.wv) false):=by rw [o1.2 _ X.lx];exact X.hx
 have lx:=X.lx
 cases hring:(t.x.e k).ring with
 | none=>
  rw [if_pos (.inl hring)] at hS;rw [hS]
  suffices q : ∃ h',cl d (.fn F.jby) [.p w 0,.i m] h=some (.i 111,h')/\Old h h' by
   obtain ⟨h',e,q⟩:=q
   exact ⟨h',e,⟨l,a.old q,rfl⟩,To.of_old q⟩
  have f1:(t.x.cells t.r0 t.r1 t.wv)[0+0+(k:Int).toNat*7+2]?=some (.ptr none):=by
   rcases hk with rfl | rfl
   ·have hring:t.x.e0.ring=none:=hring
    simp [Wi.cells,En.cells,hring,En.ptr]
   ·have hring:t.x.e1.ring=none:=hring
    simp [Wi.cells,En.cells,hring,En.ptr]
  refine jal (at_ hcl om rfl rfl rfl ?_)
  refine qm1 ?_
  exact ⟨rfl,o1.new.set o1.1⟩
 | some q=>
  have f2:=Wi.ring_cell (x:=t.x) (r0:=t.r0) (r1:=t.r1) (wv:=t.wv) hk hring (o:=0+0+(k:Int).toNat*7+2) om
  have f1:=Wi.writes_cell (x:=t.x) (r0:=t.r0) (r1:=t.r1) (wv:=t.wv) hk (o:=0+0+(k:Int).toNat*7+3) om
  cases hwr:(t.x.e k).writes
  ·rw [if_pos (.inr hwr)] at hS;rw [hS]
   suffices q : ∃ h',cl d (.fn F.jby) [.p w 0,.i m] h=some (.i 111,h')/\Old h h' by
    obtain ⟨h',e,q⟩:=q
    exact ⟨h',e,⟨l,a.old q,rfl⟩,To.of_old q⟩
   rw [hwr] at f1
   refine jal (at_ hcl om rfl rfl rfl ?_)
   refine qm1 ?_
   exact ⟨rfl,o1.new.set o1.1⟩
  ·rw [if_neg (by rintro (e | e);(rw [hring] at e;cases e);rw [hwr] at e;cases e)] at hS
   rw [hS]
   rw [hwr] at f1
   have o2:Old h ((h1.new (.cells [.bool false,.i 0,.i 0] false)).set h1.nx (.cells [.bool true,.i (n:Int),.i (k:Int)] false)):=o1.new.set o1.1
   have a2:=a.old o2
   have X2:=a2.wf.ok n t ht
   obtain ⟨h2,e2,u2⟩:=jmJ hcl (d:=d-1) om X2.hx hk
   have W:=a2.wf.upd ht u2 (Wi.shut_wait hk) (Wi.shut_cap hk) (Wi.shut_ring hk)
   have W2:=WF.same W a.fds (jam ht) (Wi.shut_same hk)
   suffices q : ∃ h',cl d (.fn F.jby) [.p w 0,.i m] h=some (.i 0,h')/\h'=h2 by
    obtain ⟨h',e,rfl⟩:=q
    exact ⟨h',e,⟨_,W2,jbf⟩,To.old o2 (X2.toU u2)⟩
   refine jal (at_ hcl om rfl rfl rfl ?_)
   refine qm1 ?_
   exact ⟨rfl,rfl⟩
theorem jjU {d:Nat} {n:Int} (hd:4<=d) (a:WSt h w s ow ws now tb no) :
  ∃ h',cl d (.fn F.jbG) [.p w 0,.i n] h=some (.i (jaK ws n).1,h')/\WSt h' w s ow (jaK ws n).2 now tb no/\To h h' ow ow:=by
 obtain ⟨l,a,rfl⟩:=a
 rcases jeE hcl (d:=d-1) (n:=n) om a.wf with ⟨hno,e1⟩ | ⟨m,t,rfl,ht,h2,e1⟩
 ·have hS:jaK (wxs l) n=(116,wxs l):=jb2 hno
  rw [hS]
  suffices q : ∃ h',cl d (.fn F.jbG) [.p w 0,.i n] h=some (.i 116,h')/\Old h h' by
   obtain ⟨h',e,q⟩:=q
   exact ⟨h',e,⟨l,a.old q,rfl⟩,To.of_old q⟩
  refine jal (at_ hcl om rfl rfl rfl ?_)
  refine qm1 ?_
  exact ⟨rfl,Old.refl _⟩
 have X:=a.wf.ok m t ht
 have hS:jaK (wxs l) (m:Int)=_:=jb3 (jam ht) h2
 rw [hS]
 obtain ⟨h3,e2,u2⟩:=jmJ hcl (d:=d-1) (k:=1) om X.hx (.inr rfl)
 have W:=a.wf.upd ht u2 (Wi.shut_wait (.inr rfl)) (Wi.shut_cap (.inr rfl)) (Wi.shut_ring (.inr rfl))
 have W2:=WF.same W a.fds (jam ht) (Wi.shut_same (.inr rfl))
 suffices q : ∃ h',cl d (.fn F.jbG) [.p w 0,.i m] h=some (.i 0,h')/\h'=h3 by
  obtain ⟨h',e,rfl⟩:=q
  exact ⟨h',e,⟨_,W2,jbf⟩,X.toU u2⟩
 refine jal (at_ hcl om rfl rfl rfl ?_)
 refine qm1 ?_
 exact ⟨rfl,rfl⟩
end
theorem Wi.close_same {x:Wi} {k:Nat} (hk:k=0\/k=1) (h:(x.e k).what≠1):x.SameFd (x.close k):=by
 rintro i (rfl | rfl)<;>rcases hk with rfl | rfl
 ·exact ⟨⟨fun e=>absurd e (by show (3:Int)≠1;omega),fun e=>absurd e h⟩,fun _=>rfl⟩
 ·exact ⟨Iff.rfl,fun _=>rfl⟩
 ·exact ⟨Iff.rfl,fun _=>rfl⟩
 ·exact ⟨⟨fun e=>absurd e (by show (3:Int)≠1;omega),fun e=>absurd e h⟩,fun _=>rfl⟩
theorem AtW_close {ws:Ws} {n k:Nat} {x:Wi} (hx:ws[n]?=some x) (hk:k=0\/k=1) (m i:Nat) (fd:Int):AtW (ws.set n (x.close k)) m i fd↔AtW ws m i fd /\ ¬ (m=n/\i=k):=by
 unfold AtW
 rw [zh]
 by_cases e:n=m
 ·subst e
  have hlt:n<ws.length:=by
   rcases zw n ws.length with h | h
   ·exact h
   ·rw [zc h] at hx;cases hx
  rw [if_pos rfl,if_pos hlt,hx]
  constructor
  ·rintro ⟨_,e0,hi,h1,h2⟩
   cases e0
   by_cases hik:i=k
   ·subst hik;rw [Wi.close_what hk] at h1;cases h1
   ·obtain rfl:=jeU hi hk hik
    rw [(Wi.close_other hk).1] at h1
    rw [(Wi.close_other hk).2] at h2
    exact ⟨⟨x,rfl,hi,h1,h2⟩,fun e=>hik e.2⟩
  ·rintro ⟨⟨_,e0,hi,h1,h2⟩,hn⟩
   cases e0
   have hik:i≠k:=fun e=>hn ⟨rfl,e⟩
   obtain rfl:=jeU hi hk hik
   exact ⟨_,rfl,hi,by rw [(Wi.close_other hk).1,h1],by rw [(Wi.close_other hk).2,h2]⟩
 ·rw [if_neg e]
  exact ⟨fun h=>⟨h,fun e2=>e e2.1.symm⟩,fun h=>h.1⟩
section
variable {h h':H} {w s:Nat} {ow:Nat->Nat} {f:Nat->Option (Nat × Nat)} {l:List WX} {now:Int} {tb:Tb} {no:Option (Nat × Nat)} {n k m:Nat} {t:WX} {q b:List UInt8}
theorem WF.place (a:WF h w s ow f l now tb no) {i o:Nat} {p:Option (Nat × Nat)} {wl:List V} (hi:i<96) (ho:o=i*3) (hl:h.get w=some (.cells wl false)):WF (h.set w (.cells (jax wl o (plc p)) false)) w s ow (fun j=>if j=i then p else f j) l now tb no:=by
 obtain ⟨wv,p1,p2,p3⟩:=a.hw
 rw [hl] at p1;cases p1
 have hne : ∀ j,ow j≠1->j≠w:=fun j hj e=>hj (by rw [e,a.tw])
 refine ⟨⟨wv,?_,p2.keep (zp _) fun z hz=>jaa (hne z (by rw [p3 z hz];omega)),p3⟩,?_,a.tw,a.ts,a.lw,a.ls,a.top,fun m t ht=>(a.ok m t ht).keep (zp _) fun j h1 _=>jaa (hne j om)⟩
 ·rw [jab,jeF (g:=fun j=>if j=i then p else f j) hi ho fun j _=>rfl]
 ·rw [jaa (hne s (by rw [a.ts];omega)),a.hs]
theorem WF.clear (a:WF h w s ow f l now tb no) (ht:l[n]?=some t) (hk:k=0\/k=1) (hq:(t.x.e k).ring=some q) (ch:Ch (fun j=>j=t.r k) h h') (hR:ja2 h' (t.r k) (t.b k) b t.x.cap) :
  WF h' w s ow f (l.set n { t with x:=t.x.setq k b }) now tb no:=by
 have X:=a.ok n t ht
 have hox:=X.ox
 obtain ⟨_,o1,_⟩:=X.ring k hk q hq
 refine a.step ht ch (fun j _ hb=>?_) ?_ ?_ fun i hi q' hq'=>?_
 ·have hb:j=t.r k:=hb
  subst hb;omega
 ·have hne:t.wb≠t.r k:=fun e=>by rw [e] at hox;omega
  rw [ch.get _ X.lx hne,X.hx]
  unfold Wi.obj
  rw [Wi.setq_cells hk hq]
 ·rcases hk with rfl | rfl<;>rfl
 ·have hc:(t.x.setq k b).cap=t.x.cap:=by rcases hk with rfl | rfl<;>rfl
  rw [hc]
  by_cases hik:i=k
  ·subst hik
   have e:((t.x.setq i b).e i).ring=some b:=by rcases hi with rfl | rfl<;>rfl
   rw [e] at hq';cases hq'
   exact ⟨q,hq,hR⟩
  ·obtain rfl:=jeU hi hk hik
   have e:((t.x.setq k b).e (1-k)).ring=(t.x.e (1-k)).ring:=by rcases hk with rfl | rfl<;>rfl
   rw [e] at hq'
   obtain ⟨p1,p2,p3,p4,p5⟩:=X.ring _ hi q' hq'
   refine ⟨q',hq',p1.keep (ch.get _ p4 fun e=>?_) (ch.get _ p5 fun e=>?_)⟩
   ·rw [e] at p2;omega
   ·rw [e] at p3;omega
end
section
variable {cl:Nat->Call} (hcl:Sem cl)
include hcl
theorem jla {d r bb cap:Nat} {h0:H} {q:List UInt8} (hd:8<=d) (R:ja2 h0 r bb q cap) (hr:r<h0.nx) (hbb:bb<h0.nx) (hrb:r≠bb) :
  ∃ h',cl d (.fn F.jbV) [.p r 0] h0=some (.i q.length,h')/\ja2 h' r bb [] cap/\Ch (fun j=>j=r) h0 h':=by
 obtain ⟨v,h',e1,row,_,R',ch⟩:=jnb hcl (d:=d-1) (n:=(q.length:Int)) om R hr hbb hrb
 have em:(min (q.length:Int) (q.length:Int)).toNat=q.length:=by omega
 rw [em] at row R'
 rw [List.drop_length] at R'
 obtain ⟨buf,frm,inn,out,C,V⟩:=R
 have hlen:=jkZ hcl (d:=d-1) om C
 obtain ⟨c,⟨a,rfl⟩,_⟩:=row.shape
 refine jal (at_ hcl om rfl rfl rfl ?_)
 refine qx1 ?_
 exact ⟨rfl,R',ch⟩
variable {h:H} {w s:Nat} {ow:Nat->Nat} {f:Nat->Option (Nat × Nat)} {ws:Ws} {now:Int} {tb:Tb} {no:Option (Nat × Nat)}
theorem jiT {d:Nat} {n:Int} (hd:4<=d) (a:WSt h w s ow ws now tb no) :
  ∃ h',cl d (.fn F.jb7) [.p w 0,.i n] h=some (.i (ja5 ws n).1,h')/\WSt h' w s ow (ja5 ws n).2 now tb no/\To h h' ow ow:=by
 obtain ⟨l,a,rfl⟩:=a
 rcases jeE hcl (d:=d-1) (n:=n) om a.wf with ⟨hno,e1⟩ | ⟨m,t,rfl,ht,h2,e1⟩
 ·have hS:ja5 (wxs l) n=(116,wxs l):=jb2 hno
  rw [hS]
  suffices q : ∃ h',cl d (.fn F.jb7) [.p w 0,.i n] h=some (.i 116,h')/\Old h h' by
   obtain ⟨h',e,q⟩:=q
   exact ⟨h',e,⟨l,a.old q,rfl⟩,To.of_old q⟩
  refine jal (at_ hcl om rfl rfl rfl ?_)
  refine qm1 ?_
  exact ⟨rfl,Old.refl _⟩
 have X:=a.wf.ok m t ht
 have hS:ja5 (wxs l) (m:Int)=_:=jb3 (jam ht) h2
 rw [hS]
 obtain ⟨h3,e2,u2⟩:=jhU hcl (d:=d-1) (k:=1) om X.hx (.inr rfl)
 have W:=a.wf.upd ht u2 (Wi.close_waiting (.inr rfl)) (Wi.close_cap (.inr rfl)) (fun k hk=>Wi.close_ring (.inr rfl) hk)
 have W2:=WF.same W a.fds (jam ht) (Wi.close_same (.inr rfl) (by show t.x.e1.what≠1;omega))
 suffices q : ∃ h',cl d (.fn F.jb7) [.p w 0,.i m] h=some (.i 0,h')/\h'=h3 by
  obtain ⟨h',e,rfl⟩:=q
  exact ⟨h',e,⟨_,W2,jbf⟩,X.toU u2⟩
 refine jal (at_ hcl om rfl rfl rfl ?_)
 refine qm1 ?_
 exact ⟨rfl,rfl⟩
theorem jiV {d n k:Nat} {l:List WX} {t:WX} {q:List UInt8} (hd:9<=d) (a:WF h w s ow f l now tb no) (ht:l[n]?=some t) (hk:k=0\/k=1) (hq:(t.x.e k).ring=some q) :
  ∃ h1 h2,cl (d-1) (.fn F.jbV) [.p (t.r k) 0] h=some (.i q.length,h1)/\cl (d-1) (.fn F.jdG) [.p t.wb 0,.i (k:Int),.bool true,.bool true] h1=some (.tup [],h2) /\
   WF h2 w s ow f (l.set n { t with x:=(t.x.setq k []).came k true true }) now tb no/\To h h2 ow ow/\h2.nx=h1.nx:=by
 have X:=a.ok n t ht
 obtain ⟨p1,p2,p3,p4,p5,p6⟩:=X.apart hk hq
 obtain ⟨h1,e1,R1,c1⟩:=jla hcl (d:=d-1) om p1 p2 p3 p4
 have W1:=a.clear ht hk hq c1 R1
 have ht1:(l.set n { t with x:=t.x.setq k [] })[n]?=some { t with x:=t.x.setq k [] } := by rw [zh,if_pos rfl,if_pos (x_lt ht)]
 have X1:=W1.ok n _ ht1
 obtain ⟨h2,e2,u2⟩:=jfn hcl (d:=d-1) (k:=k) om X1.hx hk true true
 have W2:=W1.upd ht1 u2 (by rcases hk with rfl | rfl<;>rfl) (by rcases hk with rfl | rfl<;>rfl) (fun i hi=>by rcases hk with rfl | rfl<;>rcases hi with rfl | rfl<;>rfl)
 rw [List.set_set] at W2
 refine ⟨h1,h2,e1,e2,W2,?_,u2.nx⟩
 refine To.trans ⟨c1.weaken fun j hj hb=>?_,fun _ _=>rfl⟩ (X1.toU u2)
 obtain ⟨_,o2,_⟩:=X.ring k hk q hq
 have hb:j=t.r k:=hb
 subst hb;omega
theorem ww_Reset {d:Nat} {n:Int} (hd:10<=d) (a:WSt h w s ow ws now tb no) (o:WsOk ws) :
  ∃ h',cl d (.fn F.jbB) [.p w 0,.i n] h=some (.i (jcd ws n).1,h')/\WSt h' w s ow (jcd ws n).2 now tb no/\To h h' ow ow:=by
 obtain ⟨l,a,rfl⟩:=a
 rcases jeE hcl (d:=d-1) (n:=n) om a.wf with ⟨hno,e1⟩ | ⟨m,t,rfl,ht,h2,e1⟩
 ·have hS:jcd (wxs l) n=(116,wxs l):=jb2 hno
  rw [hS]
  suffices q : ∃ h',cl d (.fn F.jbB) [.p w 0,.i n] h=some (.i 116,h')/\Old h h' by
   obtain ⟨h',e,q⟩:=q
   exact ⟨h',e,⟨l,a.old q,rfl⟩,To.of_old q⟩
  refine jal (at_ hcl om rfl rfl rfl ?_)
  refine qm1 ?_
  exact ⟨rfl,Old.refl _⟩
 have X:=a.wf.ok m t ht
 have hx:=X.hx
 have lx:=X.lx
 unfold Wi.obj at hx
 have hS:jcd (wxs l) (m:Int)=_:=jb3 (jam ht) h2
 have f2:=Wi.reset_cell (x:=t.x) (r0:=t.r0) (r1:=t.r1) (wv:=t.wv) (o:=0+14) rfl
 cases hrs:t.x.reset
 case true=>
  have e3:t.x.doReset=t.x:=by unfold Wi.doReset;rw [if_pos hrs]
  rw [e3,jid (jam ht)] at hS
  rw [hS]
  suffices q : ∃ h',cl d (.fn F.jbB) [.p w 0,.i m] h=some (.i 0,h')/\Old h h' by
   obtain ⟨h',e,q⟩:=q
   exact ⟨h',e,⟨l,a.old q,rfl⟩,To.of_old q⟩
  rw [hrs] at f2
  refine jal (at_ hcl om rfl rfl rfl ?_)
  refine qm1 ?_
  exact ⟨rfl,Old.refl _⟩
 rw [hrs] at f2
 rw [hS]
 obtain ⟨q0,hq0⟩:=Option.ne_none_iff_exists'.1 ((o.ok _ (zb (jam ht))).out h2).1
 obtain ⟨q1,hq1⟩:=Option.ne_none_iff_exists'.1 ((o.ok _ (zb (jam ht))).out h2).2
 have hlen:0+14<(t.x.cells t.r0 t.r1 t.wv).length:=by rw [Wi.cells_length];omega
 have u1:Upd t.wb (({ t.x with reset:=true } : Wi).obj t.r0 t.r1 t.wv) h (h.set t.wb (.cells ((t.x.cells t.r0 t.r1 t.wv).set (0+14) (.bool true)) false)):=Upd.set
 have W1:=a.wf.upd ht u1 rfl rfl (fun i hi=>by rcases hi with rfl | rfl<;>rfl)
 have T1:=X.toU u1
 generalize hg1:h.set t.wb (.cells ((t.x.cells t.r0 t.r1 t.wv).set (0+14) (.bool true)) false)=g1 at u1 W1 T1
 have ht1:(l.set m { t with x := { t.x with reset:=true } })[m]?=some { t with x := { t.x with reset:=true } } := by rw [zh,if_pos rfl,if_pos (x_lt ht)]
 obtain ⟨g2,g3,e2,e3,W3,T3,_⟩:=jiV hcl (d:=d) (k:=0) om W1 ht1 (.inl rfl) hq0
 rw [List.set_set] at W3
 have ht3:(l.set m { t with x:=(Wi.setq { t.x with reset:=true } 0 []).came 0 true true })[m]?=some { t with x:=(Wi.setq { t.x with reset:=true } 0 []).came 0 true true } := by rw [zh,if_pos rfl,if_pos (x_lt ht)]
 obtain ⟨g4,g5,e4,e5,W5,T5,_⟩:=jiV hcl (d:=d) (k:=1) om W3 ht3 (.inr rfl) hq1
 rw [List.set_set] at W5
 have hX1:=(W1.ok m _ ht1).hx
 have hX3:=(W3.ok m _ ht3).hx
 have c1:((({ t.x with reset:=true } : Wi)).cells t.r0 t.r1 t.wv)[0+0+(0:Int).toNat*7+2]?=some (.p t.r0 0):=Wi.ring_cell (r0:=t.r0) (r1:=t.r1) (wv:=t.wv) (k:=0) (.inl rfl) hq0 rfl
 have c3:(((Wi.setq { t.x with reset:=true } 0 []).came 0 true true).cells t.r0 t.r1 t.wv)[0+0+(1:Int).toNat*7+2]?=some (.p t.r1 0):=Wi.ring_cell (r0:=t.r0) (r1:=t.r1) (wv:=t.wv) (k:=1) (.inr rfl) hq1 rfl
 have hend:Wi.came (Wi.setq ((Wi.setq { t.x with reset:=true } 0 []).came 0 true true) 1 []) 1 true true=t.x.doReset:=by
  unfold Wi.doReset;rw [if_neg (by rw [hrs];simp)]
 rw [hend] at W5
 have W6:=WF.same W5 a.fds (jam ht) (by
  rw [<- hend]
  rintro i (rfl | rfl)<;>exact ⟨Iff.rfl,fun _=>rfl⟩)
 suffices q : ∃ h',cl d (.fn F.jbB) [.p w 0,.i m] h=some (.i 0,h')/\h'=g5 by
  obtain ⟨h',e,rfl⟩:=q
  exact ⟨h',e,⟨_,W6,jbf⟩,T1.trans (T3.trans T5)⟩
 clear W1 W3 W5 W6 T1 T3 T5 hS hend u1 o a X
 have e2:cl (d-1) (.fn F.jbV) [.p t.r0 0] g1=_:=e2
 have e4:cl (d-1) (.fn F.jbV) [.p t.r1 0] g3=_:=e4
 have hX1:g1.get t.wb=some (.cells (({ t.x with reset:=true } : Wi).cells t.r0 t.r1 t.wv) false):=hX1
 have hX3:g3.get t.wb=some (.cells (((Wi.setq { t.x with reset:=true } 0 []).came 0 true true).cells t.r0 t.r1 t.wv) false):=hX3
 refine jal (at_ hcl om rfl rfl rfl ?_)
 refine qx1 ?_
 refine Ops.store1 rfl rfl rfl hx hlen ?_
 rw [hg1]
 refine qx1 ?_
 refine Run.unroll (n:=99999) rfl ?_
 refine qx1 ?_
 refine End.unroll (n:=99998) ?_
 refine qx1 ?_
 refine End.unroll (n:=99997) ?_
 refine qx1 ?_
 exact ⟨rfl,rfl⟩
end
theorem jem {ws ws':Ws} {fd:Int} (h : ∀ n k,AtW ws' n k fd↔AtW ws n k fd):atS ws' fd=atS ws fd:=by
 have e:(fun p:Nat × Nat=>AtW ws' p.1 p.2 fd)=fun p=>AtW ws p.1 p.2 fd:=by funext p;exact propext (h p.1 p.2)
 have e2:(∃ p:Nat × Nat,AtW ws' p.1 p.2 fd) = ∃ p:Nat × Nat,AtW ws p.1 p.2 fd:=congrArg Exists e
 unfold atS
 by_cases hx : ∃ p:Nat × Nat,AtW ws p.1 p.2 fd
 ·have hx' : ∃ p:Nat × Nat,AtW ws' p.1 p.2 fd:=e2 ▸ hx
  rw [dif_pos hx,dif_pos hx']
  congr 2
 ·have hx' : ¬ ∃ p:Nat × Nat,AtW ws' p.1 p.2 fd:=e2 ▸ hx
  rw [dif_neg hx,dif_neg hx']
section
variable {h h':H} {w s:Nat} {ow:Nat->Nat} {f:Nat->Option (Nat × Nat)} {l:List WX} {now:Int} {tb:Tb} {no:Option (Nat × Nat)} {n k m:Nat} {t:WX}
def WX.noWait (t:WX):WX := { t with x := { t.x with waiting:=[] },wv := .nils }
theorem WF.noWait (a:WF h w s ow f l now tb no) (ht:l[n]?=some t):WF (h.set t.wb (t.noWait.x.obj t.r0 t.r1 .nils)) w s ow f (l.set n t.noWait) now tb no:=by
 have X:=a.ok n t ht
 have o0:=X.ox
 have hne : ∀ j,ow j≠10*n+10->j≠t.wb:=fun j hj e=>hj (by rw [e,o0])
 refine a.turn ht (zp _) (fun j _ hn=>jaa (hne j fun e=>hn om)) ⟨jab _,X.ox,X.lx,fun i hi q hq=>?_,VI.nil _,fun e=>absurd rfl e⟩ rfl
 obtain ⟨p1,p2,p3,p4,p5⟩:=X.ring i hi q hq
 exact ⟨p1.keep (jaa (hne _ om)) (jaa (hne _ om)),p2,p3,p4,p5⟩
end
section
variable {cl:Nat->Call} (hcl:Sem cl) {h:H} {w s:Nat} {ow:Nat->Nat} {ws:Ws} {now:Int} {tb:Tb} {no:Option (Nat × Nat)}
include hcl
theorem ww_Close {d:Nat} {fd:Int} (hd:4<=d) (a:WSt h w s ow ws now tb no) (o:WsOk ws) :
  ∃ h',cl d (.fn F.jcg) [.p w 0,.i fd] h=some (.i (jca ws fd).1,h')/\WSt h' w s ow (jca ws fd).2 now tb no/\To h h' ow ow:=by
 obtain ⟨l,a,rfl⟩:=a
 rcases jdc hcl (d:=d-1) (fd:=fd) om a o.uniq with ⟨hno,h1,e1,o1,x1⟩ | ⟨n,k,m,t,rfl,hm,hat,ht,hk,h1,e1,o1,x1⟩
 ·have hS:jca (wxs l) fd=(110,wxs l):=jaH hno
  rw [hS]
  suffices q : ∃ h',cl d (.fn F.jcg) [.p w 0,.i fd] h=some (.i 110,h')/\Old h h' by
   obtain ⟨h',e,q⟩:=q
   exact ⟨h',e,⟨l,a.old q,rfl⟩,To.of_old q⟩
  refine jal (at_ hcl om rfl rfl rfl ?_)
  refine qm1 ?_
  exact ⟨rfl,o1.new.set o1.1⟩
 have hS:jca (wxs l) (m:Int)=_:=jaI o.uniq hat (jam ht)
 rw [hS]
 suffices q : ∃ h',cl d (.fn F.jcg) [.p w 0,.i m] h=some (.i 0,h')/\WSt h' w s ow (noWait (jaA ((wxs l).set n (t.x.close k)) t.x.waiting) n) now tb no/\To h h' ow ow by exact q
 clear hS
 obtain ⟨wl,ww⟩:=o.wait _ (zb (jam ht))
 have u:=o.uniq
 clear o
 have o2:Old h ((h1.new (.cells [.bool false,.i 0,.i 0] false)).set h1.nx (.cells [.bool true,.i (n:Int),.i (k:Int)] false)):=o1.new.set o1.1
 have a2:=a.old o2
 have hp2:((h1.new (.cells [.bool false,.i 0,.i 0] false)).set h1.nx (.cells [.bool true,.i (n:Int),.i (k:Int)] false)).get h1.nx=some (.cells [.bool true,.i (n:Int),.i (k:Int)] false):=jab _
 have hnx2:h1.nx<((h1.new (.cells [.bool false,.i 0,.i 0] false)).set h1.nx (.cells [.bool true,.i (n:Int),.i (k:Int)] false)).nx:=by simp
 generalize hh2:(h1.new (.cells [.bool false,.i 0,.i 0] false)).set h1.nx (.cells [.bool true,.i (n:Int),.i (k:Int)] false)=h2 at o2 a2 hp2 hnx2
 obtain ⟨sa,sc,hw2,_⟩:=a2.wf.head
 have W3:=a2.wf.place (i:=m) (o:=0+(m:Int).toNat*3) (p:=none) om om hw2
 have T3:To h2 (h2.set w (.cells (jax (wc (fun i=>atS (wxs l) (i:Int)) (.slice sa l.length sc) s now no) (0+(m:Int).toNat*3) (plc none)) false)) ow ow:=⟨Ch.set (by show ow w≠0;rw [a.wf.tw];omega),fun _ _=>rfl⟩
 have hp3:(h2.set w (.cells (jax (wc (fun i=>atS (wxs l) (i:Int)) (.slice sa l.length sc) s now no) (0+(m:Int).toNat*3) (plc none)) false)).get h1.nx=some (.cells [.bool true,.i (n:Int),.i (k:Int)] false):=by
  have:=a.wf.lw
  have:=o1.1
  rw [jaa om,hp2]
 have hlen3:0+(m:Int).toNat*3+3<=(wc (fun i=>atS (wxs l) (i:Int)) (.slice sa l.length sc) s now no).length:=by rw [jbz];omega
 generalize hh3:h2.set w (.cells (jax (wc (fun i=>atS (wxs l) (i:Int)) (.slice sa l.length sc) s now no) (0+(m:Int).toNat*3) (plc none)) false)=h3 at W3 T3 hp3
 have X3:=W3.ok n t ht
 obtain ⟨h4,e4,u4⟩:=jhU hcl (d:=d-1) om X3.hx hk
 have W4:=W3.upd ht u4 (Wi.close_waiting hk) (Wi.close_cap hk) (fun i hi=>Wi.close_ring hk hi)
 have T4:To h h4 ow ow:=To.old o2 (T3.trans (X3.toU u4))
 have ht4:(l.set n { t with x:=t.x.close k })[n]?=some { t with x:=t.x.close k } := by rw [zh,if_pos rfl,if_pos (x_lt ht)]
 have hx4:h4.get t.wb=some (.cells ((t.x.close k).cells t.r0 t.r1 t.wv) false):=u4.self
 have hwt4:(t.x.close k).waiting=t.x.waiting:=Wi.close_waiting hk
 have hl4:wxs (l.set n { t with x:=t.x.close k })=(wxs l).set n (t.x.close k):=jbf
 rw [<- hl4]
 have hat4 : ∀ i j fd',AtW (wxs (l.set n { t with x:=t.x.close k })) i j fd'↔AtW (wxs l) i j fd' /\ ¬ (i=n/\j=k):=by
  rw [hl4];exact AtW_close (jam ht) hk
 have hlen4:(l.set n { t with x:=t.x.close k }).length=l.length:=by simp
 generalize hL:t.x.waiting=L at wl ww hwt4 ⊢
 have hy4 : ∀ j∈L,∃ y:Wi,0<=j/\(wxs (l.set n { t with x:=t.x.close k }))[j.toNat]?=some y/\y.e0.what≠1:=by
  intro j hj
  obtain ⟨y,y0,y1,y2⟩:=ww j hj
  rw [hl4,zh]
  by_cases e:n=j.toNat
  ·rw [if_pos e,if_pos (by rw [List.length_map];exact x_lt ht)]
   rw [<- e,jam ht] at y1
   cases y1
   refine ⟨_,y0,rfl,?_⟩
   have:(t.x.e 0).what=0:=y2
   rcases hk with rfl | rfl
   ·show (3:Int)≠1;omega
   ·show (((t.x.close 1).e (1-1)).what)≠1
    rw [(Wi.close_other (.inr rfl)).1];show (t.x.e 0).what≠1;omega
  ·rw [if_neg e]
   exact ⟨y,y0,y1,by omega⟩
 have fin : ∀ (g:H) (l':List WX),WF g w s ow (fun j=>if j=m then none else atS (wxs l) (j:Int)) l' now tb no->(∀ i j fd',AtW (wxs l') i j fd'↔AtW (wxs (l.set n { t with x:=t.x.close k })) i j fd')->WW g w s ow l' now tb no:=by
  intro g l' W hA
  refine ⟨W.congr fun j hj=>?_,fun i j fd' hf=>a.fds i j fd' ((hat4 _ _ _).1 ((hA _ _ _).1 hf)).1⟩
  by_cases e:j=m
  ·subst e
   rw [if_pos rfl]
   refine jfj fun i j' hf=>?_
   have h5:=(hat4 _ _ _).1 ((hA _ _ _).1 hf)
   exact h5.2 (u _ _ _ _ _ h5.1 hat)
  ·rw [if_neg e]
   refine jem fun i j'=>?_
   rw [hA,hat4]
   refine ⟨fun h5=>h5.1,fun h5=>⟨h5,fun h6=>?_⟩⟩
   obtain ⟨rfl,rfl⟩:=h6
   obtain ⟨x1,q1,_,_,q2⟩:=h5
   obtain ⟨x2,q3,_,_,q4⟩:=hat
   rw [q1] at q3;cases q3
   rw [q2] at q4
   omega
 have hvi:=X3.wait.1
 rw [hL] at hvi
 obtain ⟨av,cp,hva,_⟩:=id hvi
 generalize l.set n { t with x:=t.x.close k } = l1 at W4 ht4 hlen4 hy4 fin ⊢
 generalize t.x.close k=y1 at ht4 hx4 hwt4
 rw [hva] at hx4
 clear hat4 hl4 ww hat u u4 W3 X3 T3 hL hvi a a2
 have q1:(y1.cells t.r0 t.r1 (.slice av L.length cp))[0+16]?=some (.slice av L.length cp):=by simp [Wi.cells,En.cells]
 refine jal (at_ hcl om rfl rfl rfl ?_)
 refine qm1 ?_
 rw [show (h1.new (.cells [.bool false,.i 0,.i 0] false)).set h1.nx (.cells (jax [.bool false,.i 0,.i 0] 0 [.bool true,.i (n:Int),.i (k:Int)]) false)=h2 from hh2]
 refine Ops.storeN rfl rfl rfl rfl hw2 hlen3 ?_
 rw [show jax (wc (fun i=>atS (wxs l) (i:Int)) (.slice sa l.length sc) s now no) (0+(m:Int).toNat*3) [.bool false,.i 0,.i 0]=jax (wc (fun i=>atS (wxs l) (i:Int)) (.slice sa l.length sc) s now no) (0+(m:Int).toNat*3) (plc none) from rfl,hh3]
 clear hw2 hlen3 hh3 hh2
 refine qx1 ?_
 refine Run.loop (fun r e g=>∃ (i:Nat) (l2:List WX) (t2:WX),r=L.length-i/\i<=L.length/\e=[(0,.p w 0),(6,.p t.wb 0),(33,.slice av L.length cp),(34,.i L.length),(35,.i i)] /\
   WF g w s ow (fun j=>if j=m then none else atS (wxs l) (j:Int)) l2 now tb no/\l2[n]?=some t2/\t2.wv=t.wv/\t2.wb=t.wb/\t2.x.waiting=L/\jaA (wxs l2) (L.drop i)=jaA (wxs l1) L /\
   (∀ i j fd',AtW (wxs l2) i j fd'↔AtW (wxs l1) i j fd')/\(∀ j∈L,∃ y:Wi,0<=j/\(wxs l2)[j.toNat]?=some y/\y.e0.what≠1)/\To h g ow ow)
  (k:=L.length) Ze ⟨0,l1,_,rfl,by omega,rfl,W4,ht4,rfl,rfl,hwt4,rfl,fun _ _ _=>Iff.rfl,hy4,T4⟩ ?_
 clear W4 ht4 hy4 T4 q1 hx4 hwt4 e4 e1 hp3
 rintro _ _ g ⟨i,l2,t2,rfl,hi,rfl,W,ht2,hwv,hwb,hwt,hall,hA,hy,T⟩ fu ih
 have X:=W.ok n t2 ht2
 have hvi:=X.wait.1
 rw [hwt,hwv,hva] at hvi
 by_cases hlt:i<L.length
 ·have hLi:=za hlt
  have hdrop:L.drop i=L[i] :: L.drop (i+1):=List.drop_eq_getElem_cons hlt
  obtain ⟨y,y0,y1',y2⟩:=hy L[i] (List.getElem_mem hlt)
  obtain ⟨j,hj⟩:=zx y0
  rw [hj] at hLi hdrop y1'
  rw [zu] at y1'
  obtain ⟨b,of,cs,ro,rfl,hcs,hci⟩:=hvi.cell hLi
  obtain ⟨t3,ht3,rfl⟩:=jiB y1'
  have X3:=W.ok j t3 ht3
  obtain ⟨g3,e3,u3⟩:=jhU hcl (d:=d-1) (k:=0) om X3.hx (.inl rfl)
  have W3:=W.upd ht3 u3 (Wi.close_waiting (.inl rfl)) (Wi.close_cap (.inl rfl)) (fun i hi=>Wi.close_ring (.inl rfl) hi)
  have T3:=T.trans (X3.toU u3)
  have hs3:t3.x.SameFd (t3.x.close 0):=Wi.close_same (.inl rfl) y2
  obtain ⟨sa,sc,hw3,hz3⟩:=W.head
  obtain ⟨z3,rfl,_,_,hwp⟩:=hz3 (jcI ht3)
  have c1:(wc (fun j=>if j=m then none else atS (wxs l) (j:Int)) (.slice (some (z3,0)) l2.length sc) s now no)[0+288]?=some (.slice (some (z3,0)) l2.length sc):=jbd rfl
  have c2:(wps l2)[0+(j:Int).toNat*1]?=some (.p t3.wb 0):=by rw [show 0+(j:Int).toNat*1=j by omega];exact jdq ht3
  have hj2:=x_lt ht3
  have hi1:((i+1:Nat):Int)=(i:Int)+1:=by omega
  have e3:cl (d-1) (.fn F.jd8) [.p t3.wb 0,.i 0] g=some (.tup [],g3):=e3
  have hnext : ∃ t4,(l2.set j { t3 with x:=t3.x.close 0 })[n]?=some t4/\t4.wv=t.wv/\t4.wb=t.wb/\t4.x.waiting=L:=by
   by_cases hjn:j=n
   ·subst hjn
    rw [ht2] at ht3;cases ht3
    exact ⟨{ t2 with x:=t2.x.close 0 },by rw [zh,if_pos rfl,if_pos (x_lt ht2)],hwv,hwb,hwt⟩
   ·exact ⟨t2,by rw [zh,if_neg hjn,ht2],hwv,hwb,hwt⟩
  obtain ⟨t4,ht4,hwv4,hwb4,hwt4⟩:=hnext
  have hstep:jaA (wxs (l2.set j { t3 with x:=t3.x.close 0 })) (L.drop (i+1))=jaA (wxs l1) L:=by
   rw [<- hall,hdrop]
   show _=jaA (jdi (wxs l2) (j:Int)) _
   unfold jdi
   rw [zu,y1',jbf]
  have hA3 : ∀ i j' fd',AtW (wxs (l2.set j { t3 with x:=t3.x.close 0 })) i j' fd'↔AtW (wxs l1) i j' fd':=fun i j' fd'=>by
   rw [jbf,jiQ y1' hs3,hA]
  have hy3 : ∀ j'∈L,∃ y:Wi,0<=j'/\(wxs (l2.set j { t3 with x:=t3.x.close 0 }))[j'.toNat]?=some y/\y.e0.what≠1:=by
   intro j' hj'
   obtain ⟨y,z0,z1,z2⟩:=hy j' hj'
   rw [jbf,zh]
   by_cases e:j=j'.toNat
   ·rw [if_pos e,if_pos (by rw [List.length_map];exact hj2)]
    exact ⟨_,z0,rfl,by show (3:Int)≠1;omega⟩
   ·rw [if_neg e];exact ⟨y,z0,z1,z2⟩
  clear hall hdrop hA hy hvi T X X3 W u3 hs3 fin y0 y2
  refine qx1 ?_
  exact ih (L.length-(i+1)) om _ _ ⟨i+1,_,t4,rfl,by omega,by rw [hi1],W3,ht4,hwv4,hwb4,hwt4,hstep,hA3,hy3,T3⟩
 ·obtain rfl:i=L.length:=by omega
  rw [List.drop_length] at hall
  have hall:wxs l2=jaA (wxs l1) L:=hall
  have W5:=W.noWait ht2
  have hx2:=X.hx
  unfold Wi.obj at hx2
  rw [hwb] at hx2 W5
  have hlen:0+16<(t2.x.cells t2.r0 t2.r1 t2.wv).length:=by rw [Wi.cells_length];omega
  have eo:Obj.cells ((t2.x.cells t2.r0 t2.r1 t2.wv).set (0+16) .nils) false=t2.noWait.x.obj t2.r0 t2.r1 .nils:=by rfl
  have hsame:t2.x.SameFd t2.noWait.x:=fun _ hk=>by rcases hk with rfl | rfl<;>exact ⟨Iff.rfl,fun _=>rfl⟩
  have F2:=fin _ _ W5 fun i j fd'=>by rw [jbf,jiQ (jam ht2) hsame,hA]
  have ox:=X.ox
  rw [hwb] at ox
  clear ih hy hA fin
  refine qx1 ?_
  refine Ops.store1 rfl rfl rfl hx2 hlen ?_
  rw [eo]
  refine qx1 ?_
  refine ⟨rfl,⟨_,F2,?_⟩,T.trans ⟨Ch.set (by show ow t.wb≠0;omega),fun _ _=>rfl⟩⟩
  show _=noWait _ n
  unfold noWait
  rw [<- hall,jam ht2,jbf];rfl
end
def jdm (hd:Nat->Bool) (ct:Nat->Int) (s:Int):Nat->Int:=if jd1 s/\hd s.toNat=true then put1 ct s.toNat (ct s.toNat+1) else ct
section
variable {cl:Nat->Call} (hcl:Sem cl)
include hcl
theorem rq_Raise {d rw q:Nat} {h:H} {l:List RX} {now no si s:Int} {hdl:Nat->Bool} {ct:Nat->Int} (hd:4<=d) (w:RW h rw q l (tail now hdl ct no si)) (o:WsOk (l.map RX.x)) (hnt:NtOk (l.map RX.x) no si) (hc : ∀ i,0<=ct i/\ct i<=999999) :
  ∃ l' h',cl d (.fn F.jaX) [.p rw 0,.i s] h=some (.i (if jd1 s then 0 else 100),h')/\RW h' rw q l' (tail now hdl (jdm hdl ct s) no si)/\l'.map RX.x=jar (l.map RX.x) (sumC (jdm hdl ct s) 31) no si/\Ch (RC rw q) h h':=by
 suffices k : ∃ v' h',cl d (.fn F.jaX) [.p rw 0,.i s] h=some (v',h') /\ ∃ l',v' = .i (if jd1 s then 0 else 100)/\RW h' rw q l' (tail now hdl (jdm hdl ct s) no si)/\l'.map RX.x=jar (l.map RX.x) (sumC (jdm hdl ct s) 31) no si/\Ch (RC rw q) h h' by
  obtain ⟨_,h',e,l',rfl,p⟩:=k;exact ⟨l',h',e,p⟩
 refine at_ hcl om rfl rfl rfl ?_
 have hc0 : ∀ i,0<=ct i/\ct i<=1000000:=fun i=>⟨(hc i).1,by have:=(hc i).2;omega⟩
 by_cases hs:jd1 s
 case neg=>
  rw [if_neg hs,show jdm hdl ct s=ct by unfold jdm;rw [if_neg (fun e=>hs e.1)]]
  obtain ⟨l',h',e,p⟩:=jbO hcl (d:=d-1) om w o hnt hc0
  have hs':s<1\/(¬ s<1/\31<s):=by unfold jd1 at hs;omega
  clear hs
  rcases hs' with hs' | ⟨hs1,hs'⟩
  ·refine qx1 ?_
   exact ⟨l',rfl,p⟩
  ·refine qx1 ?_
   exact ⟨l',rfl,p⟩
 rw [if_pos hs]
 obtain ⟨s1,s2⟩:=id hs
 obtain ⟨m,rfl⟩:=zx (show 0<=s by omega)
 obtain ⟨a,c,hw,_⟩:=w.head
 have q1:(V.slice a l.length c :: tail now hdl ct no si)[0+2+(m:Int).toNat*1]?=some (.bool (hdl m)):=t_hd om om
 have q2:(V.slice a l.length c :: tail now hdl ct no si)[0+34+(m:Int).toNat*1]?=some (.i (ct m)):=t_ct om om
 have hlen:0+34+(m:Int).toNat*1<(V.slice a l.length c :: tail now hdl ct no si).length:=by simp [jcD];omega
 have hcm:=hc m
 cases hh:hdl m
 ·rw [show jdm hdl ct (m:Int)=ct by unfold jdm;rw [if_neg (fun e=>by rw [zu,hh] at e;cases e.2)]]
  rw [hh] at q1
  obtain ⟨l',h',e,p⟩:=jbO hcl (d:=d-1) om w o hnt hc0
  refine qx1 ?_
  exact ⟨l',rfl,p⟩
 ·rw [show jdm hdl ct (m:Int)=put1 ct m (ct m+1) by unfold jdm;rw [if_pos ⟨hs,by rw [zu];exact hh⟩,zu]]
  rw [hh] at q1
  have w1:=w.tl (tl':=tail now hdl (put1 ct m (ct m+1)) no si) hw
  have c1:Ch (RC rw q) h (h.set rw (.cells (V.slice a l.length c :: tail now hdl (put1 ct m (ct m+1)) no si) false)):=Ch.set (.inr rfl)
  have hc1 : ∀ i,0<=put1 ct m (ct m+1) i/\put1 ct m (ct m+1) i<=1000000:=fun i=>by
   unfold put1
   by_cases e:i=m
   ·rw [if_pos e];omega
   ·rw [if_neg e];exact hc0 i
  obtain ⟨l',h',e,p1,p2,p3⟩:=jbO hcl (d:=d-1) om w1 o hnt hc1
  refine qx1 ?_
  refine Ops.store1 rfl rfl rfl hw hlen ?_
  rw [jgi (i:=m) om om]
  refine qx1 ?_
  exact ⟨l',rfl,p1,p2,c1.trans p3⟩
end
section
variable {v:V} {now no si:Int} {hd:Nat->Bool} {ct:Nat->Int}
theorem t_set_no {o:Nat} {b:Int} (ho:o=66):(v :: tail now hd ct no si).set o (.i b)=v :: tail now hd ct b si:=by
 subst ho
 show v :: V.int .u64 now :: ((tab 32 (fun i=>V.bool (hd i))++(tab 32 (fun i=>V.i (ct i))++[V.i no,V.i si])).set 64 (.i b))=_
 rw [List.set_append,if_neg Zd,tab_length,List.set_append,if_neg Zd,tab_length];rfl
theorem t_set_si {o:Nat} {b:Int} (ho:o=67):(v :: tail now hd ct no si).set o (.i b)=v :: tail now hd ct no b:=by
 subst ho
 show v :: V.int .u64 now :: ((tab 32 (fun i=>V.bool (hd i))++(tab 32 (fun i=>V.i (ct i))++[V.i no,V.i si])).set 65 (.i b))=_
 rw [List.set_append,if_neg Zd,tab_length,List.set_append,if_neg Zd,tab_length];rfl
end
noncomputable def ntS (ws:Ws) (a b:Int):Int × Option (Nat × Nat) :=
 jcs ws a (110,none) fun n k x=>jcs ws b (110,none) fun m i _=>if n=m/\k≠i/\x.e0.ring≠none/\x.e1.ring≠none then (0,some (n,k)) else (111,none)
noncomputable def ntW (ws:Ws) (sum:Int) (a b:Int):Ws:=match (ntS ws a b).2 with
 | none=>ws
 | some (n,k)=>jar ws sum n k
noncomputable def ntNo (ws:Ws) (a b no:Int):Int:=match (ntS ws a b).2 with
 | none=>no
 | some (n,_)=>n
noncomputable def ntSi (ws:Ws) (a b si:Int):Int:=match (ntS ws a b).2 with
 | none=>si
 | some (_,k)=>k
section
variable {cl:Nat->Call} (hcl:Sem cl)
include hcl
theorem jjb {d rw q:Nat} {h:H} {l:List RX} {now no si a b:Int} {hdl:Nat->Bool} {ct:Nat->Int} (hd:4<=d) (w:RW h rw q l (tail now hdl ct no si)) (o:WsOk (l.map RX.x)) (hc : ∀ i,0<=ct i/\ct i<=1000000) :
  ∃ l' h',cl d (.fn F.jaE) [.p rw 0,.i a,.i b] h=some (.i (ntS (l.map RX.x) a b).1,h')/\RW h' rw q l' (tail now hdl ct (ntNo (l.map RX.x) a b no) (ntSi (l.map RX.x) a b si))/\l'.map RX.x=ntW (l.map RX.x) (sumC ct 31) a b/\Ch (RC rw q) h h':=by
 suffices k : ∃ v' h',cl d (.fn F.jaE) [.p rw 0,.i a,.i b] h=some (v',h') /\ ∃ l',v' = .i (ntS (l.map RX.x) a b).1/\RW h' rw q l' (tail now hdl ct (ntNo (l.map RX.x) a b no) (ntSi (l.map RX.x) a b si))/\l'.map RX.x=ntW (l.map RX.x) (sumC ct 31) a b/\Ch (RC rw q) h h' by
  obtain ⟨_,h',e,l',rfl,p⟩:=k;exact ⟨l',h',e,p⟩
 refine at_ hcl om rfl rfl rfl ?_
 unfold ntNo ntSi ntW
 rcases jev hcl (d:=d-1) (fd:=a) om w o with ⟨hno,ea⟩ | ⟨n,k,r,hat,hr,hk,ea⟩
 ·have hS:ntS (l.map RX.x) a b=(110,none):=jaH hno
  rw [hS]
  rcases jev hcl (d:=d-1) (fd:=b) om w o with ⟨_,eb⟩ | ⟨_,_,_,_,_,_,eb⟩
  ·refine qx1 ?_
   exact ⟨l,rfl,w,rfl,Ch.refl _ _⟩
  ·refine qx1 ?_
   exact ⟨l,rfl,w,rfl,Ch.refl _ _⟩
 have hS1:ntS (l.map RX.x) a b=_:=jaI o.uniq hat (jaZ hr)
 rcases jev hcl (d:=d-1) (fd:=b) om w o with ⟨hno,eb⟩ | ⟨m,i,r2,hat2,hr2,hk2,eb⟩
 ·rw [jaH hno] at hS1
  rw [hS1]
  refine qx1 ?_
  exact ⟨l,rfl,w,rfl,Ch.refl _ _⟩
 rw [jaI o.uniq hat2 (jaZ hr2)] at hS1
 obtain ⟨hw,hq,hne⟩:=w.rat hr
 have hn:=r_lt hr
 have q1:=jg9 (k:=0) hr (.inl rfl)
 have q2:=jg9 (k:=1) hr (.inr rfl)
 have q1:(rows l)[0+(n:Int).toNat*20+0+((0:Nat):Int).toNat*8+2]?=some (.bool r.x.e0.ring.isSome):=q1
 have q2:(rows l)[0+(n:Int).toNat*20+0+((1:Nat):Int).toNat*8+2]?=some (.bool r.x.e1.ring.isSome):=q2
 by_cases hg:n=m/\k≠i/\r.x.e0.ring≠none/\r.x.e1.ring≠none
 case neg=>
  rw [if_neg hg] at hS1
  rw [hS1]
  by_cases h1:n=m
  case neg=>
   have h1':(n:Int)≠(m:Int):=by omega
   refine qx1 ?_
   exact ⟨l,rfl,w,rfl,Ch.refl _ _⟩
  have h1' : ¬ (n:Int)≠(m:Int):=by omega
  by_cases h2:k=i
  ·have h2':(k:Int)=(i:Int):=by omega
   refine qx1 ?_
   exact ⟨l,rfl,w,rfl,Ch.refl _ _⟩
  have h2' : ¬ (k:Int)=(i:Int):=by omega
  cases h3:r.x.e0.ring with
  | none=>
   rw [h3] at q1
   refine qx1 ?_
   exact ⟨l,rfl,w,rfl,Ch.refl _ _⟩
  | some b0=>
   rw [h3] at q1
   cases h4:r.x.e1.ring with
   | none=>
    rw [h4] at q2
    refine qx1 ?_
    exact ⟨l,rfl,w,rfl,Ch.refl _ _⟩
   | some b1=>exact absurd ⟨h1,h2,by rw [h3];simp,by rw [h4];simp⟩ hg
 rw [if_pos hg] at hS1
 rw [hS1]
 obtain ⟨rfl,g2,g3,g4⟩:=hg
 have h1' : ¬ (n:Int)≠(n:Int):=by omega
 have h2' : ¬ (k:Int)=(i:Int):=by omega
 obtain ⟨b0,h3⟩:=Option.ne_none_iff_exists'.1 g3
 obtain ⟨b1,h4⟩:=Option.ne_none_iff_exists'.1 g4
 rw [h3] at q1
 rw [h4] at q2
 have w1:=w.tl (tl':=tail now hdl ct (n:Int) si) hw
 have w2:=w1.tl (tl':=tail now hdl ct (n:Int) (k:Int)) (jab _)
 have c2:Ch (RC rw q) h _:=(Ch.set (.inr rfl)).trans (Ch.set (b:=rw) (h:=h.set rw (.cells (.slice (some (q,0)) l.length (.grow 20) :: tail now hdl ct (n:Int) si) false)) (ob := .cells (.slice (some (q,0)) l.length (.grow 20) :: tail now hdl ct (n:Int) (k:Int)) false) (.inr rfl))
 obtain ⟨l',h',e,p1,p2,p3⟩:=jbO hcl (d:=d-1) om w2 o (.inr ⟨n,k,r.x,rfl,rfl,hk,jaZ hr,g3,g4⟩) hc
 have hlen : ∀ {n2:Int} {o:Nat},o<68->o<(V.slice (some (q,0)) l.length (.grow 20) :: tail now hdl ct n2 si).length:=fun ho=>by simp [jcD];omega
 refine qx1 ?_
 refine Ops.store1 rfl rfl rfl hw (hlen om) ?_
 rw [t_set_no om]
 refine qx1 ?_
 refine Ops.store1 rfl rfl rfl (jab _) (hlen om) ?_
 rw [t_set_si om]
 refine qx1 ?_
 exact ⟨l',rfl,p1,p2,c2.trans p3⟩
end
def ctZ (ct:Nat->Int) (n:Nat):Nat->Int:=fun i=>if 1<=i/\i<=n then 0 else ct i
theorem ctZ_zero (ct:Nat->Int):ctZ ct 0=ct:=by
 funext i;unfold ctZ;rw [if_neg om]
theorem jl8 (ct:Nat->Int) (n:Nat):put1 (ctZ ct n) (n+1) 0=ctZ ct (n+1):=by
 funext i;unfold ctZ put1
 by_cases h:i=n+1
 ·rw [if_pos h,if_pos om]
 ·rw [if_neg h]
  show (if 1<=i/\i<=n then 0 else ct i)=_
  by_cases h2:1<=i/\i<=n
  ·rw [if_pos h2,if_pos om]
  ·rw [if_neg h2,if_neg om]
theorem ctZ_gt (ct:Nat->Int) (n:Nat):ctZ ct n (n+1)=ct (n+1):=by
 unfold ctZ;rw [if_neg om]
def jcc (ct:Nat->Int):Nat->List (Int × Int)
 | 0=>[]
 | n+1=>jcc ct n++if 0<ct (n+1) then [(((n+1:Nat):Int),ct (n+1))] else []
theorem jgz (ct:Nat->Int) : ∀ n,(jcc ct n).length<=n
 | 0=>zp _
 | n+1=>by
  have:=jgz ct n
  simp only [jcc,ze]
  split<;>simp<;>omega
def jce (l:List (Int × Int)):List V:=(l.map fun p=>[V.i p.1,V.i p.2]).flatten
section
variable {cl:Nat->Call} (hcl:Sem cl)
include hcl
theorem jlT {d rw q:Nat} {h:H} {l:List RX} {now no si:Int} {hdl:Nat->Bool} {ct:Nat->Int} (hd:4<=d) (w:RW h rw q l (tail now hdl ct no si)) (o:WsOk (l.map RX.x)) (hnt:NtOk (l.map RX.x) no si) (hc : ∀ i,0<=ct i/\ct i<=1000000) :
  ∃ v l' h',cl d (.fn F.jaP) [.p rw 0] h=some (v,h')/\Row h.nx h' 2 v (jcc ct 31).length (jce (jcc ct 31))/\RW h' rw q l' (tail now hdl (ctZ ct 31) no si)/\l'.map RX.x=jar (l.map RX.x) (sumC (ctZ ct 31) 31) no si/\Ch (RC rw q) h h':=by
 suffices k : ∃ v h',cl d (.fn F.jaP) [.p rw 0] h=some (v,h') /\ ∃ l',Row h.nx h' 2 v (jcc ct 31).length (jce (jcc ct 31))/\RW h' rw q l' (tail now hdl (ctZ ct 31) no si)/\l'.map RX.x=jar (l.map RX.x) (sumC (ctZ ct 31) 31) no si/\Ch (RC rw q) h h' by
  obtain ⟨v,h',e,l',p⟩:=k;exact ⟨v,l',h',e,p⟩
 refine at_ hcl om rfl rfl rfl ?_
 obtain ⟨a,c,hw,_⟩:=w.head
 refine qx1 ?_
 refine Run.loop (fun m e g=>∃ (s:Nat) (v:V),m=31-s/\s<=31/\e=[(0,.p rw 0),(3,v),(4,.i ((s+1:Nat):Int))]/\Row h.nx g 2 v (jcc ct s).length (jce (jcc ct s))/\Old (h.set rw (.cells (V.slice a l.length c :: tail now hdl (ctZ ct s) no si) false)) g)
  (k:=31) Ze ⟨0,.nils,rfl,by omega,rfl,Row.nil _ _ _,?_⟩ ?_
 ·rw [ctZ_zero]
  refine ⟨zp _,fun j hj=>?_⟩
  by_cases e:j=rw
  ·subst e;rw [jab,hw]
  ·rw [jaa e]
 rintro _ _ g ⟨s,v,rfl,hs,rfl,row,old⟩ f ih
 have w1:=w.tl (tl':=tail now hdl (ctZ ct s) no si) hw
 have wg:=w1.old old
 have onx:h.nx<=g.nx:=old.1
 have hwg:g.get rw=some (.cells (V.slice a l.length c :: tail now hdl (ctZ ct s) no si) false):=by
  rw [old.2 rw w.lw,jab]
 by_cases hlt:s<31
 case neg=>
  obtain rfl:s=31:=by omega
  have hcond : ¬ ((31+1:Nat):Int)<=31:=by omega
  have hc0 : ∀ i,0<=ctZ ct 31 i/\ctZ ct 31 i<=1000000:=fun i=>by
   unfold ctZ
   by_cases e:1<=i/\i<=31
   ·rw [if_pos e];omega
   ·rw [if_neg e];exact hc i
  obtain ⟨l',h',e,p1,p2,p3⟩:=jbO hcl (d:=d-1) om wg o hnt hc0
  have c1:Ch (RC rw q) h (h.set rw (.cells (V.slice a l.length c :: tail now hdl (ctZ ct 31) no si) false)):=Ch.set (.inr rfl)
  refine qx1 ?_
  refine ⟨l',row.keep p3.nx fun z hz=>p3.get z (row.at_ge hz).2 fun e=>?_,p1,p2,(c1.trans old.ch).trans p3⟩
  have:=(row.at_ge hz).1
  have:=w.lw
  have:=w.lq
  rcases e with e | e<;>omega
 have q1:(V.slice a l.length c :: tail now hdl (ctZ ct s) no si)[0+34+(((s+1:Nat):Int)).toNat*1]?=some (.i (ct (s+1))):=by
  rw [<- ctZ_gt ct s];exact t_ct om om
 have hlen:0+34+(((s+1:Nat):Int)).toNat*1<(V.slice a l.length c :: tail now hdl (ctZ ct s) no si).length:=by simp [jcD];omega
 have hcond:((s+1:Nat):Int)<=31:=by omega
 have hs1:((s+1+1:Nat):Int)=((s+1:Nat):Int)+1:=by omega
 have hb2:=hc (s+1)
 have hsl:=jgz ct s
 by_cases hpos:0<ct (s+1)
 ·have hpos':ct (s+1)>0:=hpos
  have hL:jcc ct (s+1)=jcc ct s++[(((s+1:Nat):Int),ct (s+1))]:=by simp only [jcc,if_pos hpos]
  refine qx1 ?_
  refine Ops.push (N:=h.nx) (new:=[.i ((s+1:Nat):Int),.i (ct (s+1))]) rfl rfl rfl rfl om rfl rfl row onx om om fun v' g' row' hx' hz' hk'=>?_
  have hwg':g'.get rw=some (.cells (V.slice a l.length c :: tail now hdl (ctZ ct s) no si) false):=by
   rw [hk' rw (zq w.lw onx) (fun e=>by have:=row.at_ge e;have:=w.lw;omega),hwg]
  refine qx1 ?_
  refine Ops.store1 rfl rfl rfl hwg' hlen ?_
  rw [jgi (i:=s+1) om om,jl8]
  refine qx1 ?_
  refine ih (31-(s+1)) om _ _ ⟨s+1,v',rfl,by omega,by rw [hs1],?_,?_,?_⟩
  ·rw [hL,ze]
   have:jce (jcc ct s++[(((s+1:Nat):Int),ct (s+1))])=jce (jcc ct s)++[.i ((s+1:Nat):Int),.i (ct (s+1))]:=by simp [jce]
   rw [this]
   refine Row.keep row' Zd fun z hz=>jaa ?_
   have:=hz' z hz
   have:=w.lw
   omega
  ·show h.nx<=g'.nx
   omega
  ·intro j hj
   have hj':j<h.nx:=hj
   by_cases e:j=rw
   ·subst e;rw [jab,jab]
   ·rw [jaa e,jaa e,hk' j om (fun e=>by have:=row.at_ge e;omega),old.2 j hj,jaa e]
 ·have hpos' : ¬ ct (s+1)>0:=hpos
  have hL:jcc ct (s+1)=jcc ct s:=by simp only [jcc,if_neg hpos,List.append_nil]
  refine qx1 ?_
  refine Ops.store1 rfl rfl rfl hwg hlen ?_
  rw [jgi (i:=s+1) om om,jl8]
  refine qx1 ?_
  refine ih (31-(s+1)) om _ _ ⟨s+1,v,rfl,by omega,by rw [hs1],?_,?_,?_⟩
  ·rw [hL]
   refine Row.keep row Zd fun z hz=>jaa ?_
   have:=row.at_ge hz
   have:=w.lw
   omega
  ·exact onx
  ·intro j hj
   by_cases e:j=rw
   ·subst e;rw [jab,jab]
   ·rw [jaa e,jaa e,old.2 j hj,jaa e]
end
section
variable {cl:Nat->Call} (hcl:Sem cl)
include hcl
end
def WsOne (ws:Ws):Prop := ∀ (i j:Nat) (x y:Wi) (p q:Nat) (m:Int),ws[i]?=some x->ws[j]?=some y->x.waiting[p]?=some m->y.waiting[q]?=some m->i=j/\p=q
structure WsK (ws:Ws):Prop where
 ok:WsOk ws
 one:WsOne ws
def Wi.SubFd (x y:Wi):Prop := ∀ k,k=0\/k=1->(y.e k).what=1->(x.e k).what=1/\(y.e k).fd=(x.e k).fd
theorem Wi.SubFd.refl (x:Wi):x.SubFd x:=fun _ _ h=>⟨h,rfl⟩
theorem Wi.SubFd.trans {x y z:Wi} (a:x.SubFd y) (b:y.SubFd z):x.SubFd z:=fun k hk h=>⟨(a k hk (b k hk h).1).1,by rw [(b k hk h).2,(a k hk (b k hk h).1).2]⟩
theorem w_lt {ws:Ws} {n:Nat} {x:Wi} (hr:ws[n]?=some x):n<ws.length:=by
 rcases zw n ws.length with h | h
 ·exact h
 ·rw [zc h] at hr;cases hr
theorem joP {ws:Ws} {n:Nat} (h:n<ws.length) : ∃ x,ws[n]?=some x:=⟨_,za h⟩
theorem jdE {ws:Ws} {n m:Nat} {y z:Wi} (h:(ws.set n y)[m]?=some z):(m=n/\z=y)\/(m≠n/\ws[m]?=some z):=by
 rw [zh] at h
 by_cases e:n=m
 ·rw [if_pos e] at h
  by_cases hl:n<ws.length
  ·rw [if_pos hl] at h;cases h;exact .inl ⟨e.symm,rfl⟩
  ·rw [if_neg hl] at h;cases h
 ·rw [if_neg e] at h;exact .inr ⟨fun h=>e h.symm,h⟩
theorem WsK.mild {ws ws':Ws} (K:WsK ws) (hl:ws'.length=ws.length)
  (h : ∀ (i:Nat) (z':Wi),ws'[i]?=some z' -> ∃ z,ws[i]?=some z/\z.SubFd z'/\WiOk z'/\(∃ c,z'.waiting=z.waiting.drop c)/\(z.e0.what=0->(∃ (j:Nat) (u:Wi),ws'[j]?=some u/\(i:Int)∈u.waiting)->z'.e0.what=0)):WsK ws':=by
 refine ⟨⟨?_,fun x hx=>?_,by rw [hl];exact K.ok.len,fun x hx=>?_⟩,?_⟩
 ·have sub : ∀ n k fd,AtW ws' n k fd->AtW ws n k fd:=by
   rintro n k fd ⟨x,hx,hk,h1,h2⟩
   obtain ⟨z,e1,e2,_⟩:=h n x hx
   exact ⟨z,e1,hk,(e2 k hk h1).1,by rw [<- (e2 k hk h1).2,h2]⟩
  exact fun n k n' k' fd a b=>K.ok.uniq n k n' k' fd (sub _ _ _ a) (sub _ _ _ b)
 ·obtain ⟨i,hi⟩:=List.mem_iff_getElem?.1 hx
  obtain ⟨z,_,_,e,_⟩:=h i x hi
  exact e
 ·obtain ⟨i,hi⟩:=List.mem_iff_getElem?.1 hx
  obtain ⟨z,e1,_,_,⟨c,e2⟩,_⟩:=h i x hi
  obtain ⟨p1,p2⟩:=K.ok.wait z (zb e1)
  refine ⟨by rw [e2,List.length_drop];omega,fun m hm=>?_⟩
  obtain ⟨y,y0,y1,y2⟩:=p2 m (by rw [e2] at hm;exact List.mem_of_mem_drop hm)
  obtain ⟨y',hy'⟩:=joP (ws:=ws') (n:=m.toNat) (by rw [hl];exact w_lt y1)
  obtain ⟨u,u1,_,_,_,u2⟩:=h _ _ hy'
  rw [y1] at u1;cases u1
  exact ⟨y',y0,hy',u2 y2 ⟨i,x,hi,by rw [Int.toNat_of_nonneg y0];exact hm⟩⟩
 ·intro i j x y p q m hx hy hp hq
  obtain ⟨a,a1,_,_,⟨c,a2⟩,_⟩:=h i x hx
  obtain ⟨b,b1,_,_,⟨c',b2⟩,_⟩:=h j y hy
  rw [a2,zl] at hp
  rw [b2,zl] at hq
  obtain ⟨e1,e2⟩:=K.one i j a b (c+p) (c'+q) m a1 b1 hp hq
  refine ⟨e1,?_⟩
  subst e1
  rw [hx] at hy;cases hy
  rw [a1] at b1;cases b1
  have:=a2.symm.trans b2
  have h1:=congrArg List.length this
  rw [List.length_drop,List.length_drop] at h1
  have h2:c+p<a.waiting.length:=by
   rcases zw (c+p) a.waiting.length with h | h
   ·exact h
   ·rw [zc h] at hp;cases hp
  omega
theorem WsK.set {ws:Ws} {n:Nat} {x y:Wi} (K:WsK ws) (hx:ws[n]?=some x) (hs:x.SubFd y) (hok:WiOk x->WiOk y) (hw:y.waiting=x.waiting) (h0:x.e0.what=0->y.e0.what=0):WsK (ws.set n y):=by
 refine K.mild Zd fun i z' hz=>?_
 rcases jdE hz with ⟨rfl,rfl⟩ | ⟨_,hz⟩
 ·exact ⟨x,hx,hs,hok (K.ok.ok x (zb hx)),⟨0,by rw [hw];rfl⟩,fun h _=>h0 h⟩
 ·exact ⟨z',hz,Wi.SubFd.refl _,K.ok.ok z' (zb hz),⟨0,rfl⟩,fun h _=>h⟩
theorem WsK.set_wait {ws:Ws} {n c:Nat} {x:Wi} (K:WsK ws) (hx:ws[n]?=some x):WsK (ws.set n { x with waiting:=x.waiting.drop c }):=by
 refine K.mild Zd fun i z' hz=>?_
 rcases jdE hz with ⟨rfl,rfl⟩ | ⟨_,hz⟩
 ·have:=K.ok.ok x (zb hx)
  exact ⟨x,hx,Wi.SubFd.refl _,⟨this.cap0,this.cap1,this.len,this.pair,this.out,this.bl,this.wh⟩,⟨c,rfl⟩,fun h _=>h⟩
 ·exact ⟨z',hz,Wi.SubFd.refl _,K.ok.ok z' (zb hz),⟨0,rfl⟩,fun h _=>h⟩
theorem WiOk.of {x y:Wi} (a:WiOk x) (hc:y.cap=x.cap) (hw : ∀ k,k=0\/k=1->(y.e k).writes=(x.e k).writes) (hr : ∀ k,k=0\/k=1->((y.e k).ring=none↔(x.e k).ring=none)) (hl : ∀ k,k=0\/k=1 -> ∀ q,(y.e k).ring=some q->q.length<=x.cap) (ho:y.e1.what=2->x.e1.what=2) (hb:y.backlog=x.backlog:=by rfl) (hv:WhV x->WhV y:=by exact fun h=>h):WiOk y:=by
 refine ⟨by rw [hc];exact a.cap0,by rw [hc];exact a.cap1,fun k hk q hq=>by rw [hc];exact hl k hk q hq,fun k hk=>?_,fun h2=>?_,by rw [hb];exact a.bl,hv a.wh⟩
 ·rw [hw k hk,a.pair k hk,ne_eq,ne_eq]
  refine not_congr ?_
  rcases hk with rfl | rfl
  ·exact (hr 1 (.inr rfl)).symm
  ·exact (hr 0 (.inl rfl)).symm
 ·have:=a.out (ho h2)
  exact ⟨fun e=>this.1 ((hr 0 (.inl rfl)).1 e),fun e=>this.2 ((hr 1 (.inr rfl)).1 e)⟩
theorem WiOk.nil {x:Wi} (a:WiOk x) : ∀ k,k=0\/k=1 -> ∀ q,(x.e k).ring=some q->q.length<=x.cap:=a.len
theorem jfG {x:Wi} {k:Nat} {i o:Bool} (hk:k=0\/k=1):x.SubFd (x.came k i o):=by
 intro j hj
 rcases hk with rfl | rfl<;>rcases hj with rfl | rfl<;>exact fun h=>⟨h,rfl⟩
theorem jfF {x:Wi} {k:Nat} {i o:Bool} (hk:k=0\/k=1) (a:WiOk x):WiOk (x.came k i o):=by
 rcases hk with rfl | rfl
 ·refine a.of rfl (fun j hj=>?_) (fun j hj=>?_) (fun j hj q hq=>?_) fun h=>h
  ·rcases hj with rfl | rfl<;>rfl
  ·rcases hj with rfl | rfl<;>exact Iff.rfl
  ·rcases hj with rfl | rfl
   ·exact a.len 0 Zd q hq
   ·exact a.len 1 Zd q hq
 ·refine a.of rfl (fun j hj=>?_) (fun j hj=>?_) (fun j hj q hq=>?_) fun h=>h
  ·rcases hj with rfl | rfl<;>rfl
  ·rcases hj with rfl | rfl<;>exact Iff.rfl
  ·rcases hj with rfl | rfl
   ·exact a.len 0 Zd q hq
   ·exact a.len 1 Zd q hq
theorem jiI {x:Wi} {k:Nat} {i o:Bool} (hk:k=0\/k=1):(x.came k i o).e0.what=x.e0.what:=by rcases hk with rfl | rfl<;>rfl
theorem jiH {x:Wi} {k:Nat} {i o:Bool} (hk:k=0\/k=1):(x.came k i o).waiting=x.waiting:=by rcases hk with rfl | rfl<;>rfl
theorem jic {x:Wi} {k:Nat} {q:List UInt8} (hk:k=0\/k=1):x.SubFd (x.setq k q):=by
 intro j hj
 rcases hk with rfl | rfl<;>rcases hj with rfl | rfl<;>exact fun h=>⟨h,rfl⟩
theorem jib {x:Wi} {k:Nat} {q q':List UInt8} (hk:k=0\/k=1) (hq:(x.e k).ring=some q) (hl:q'.length<=x.cap) (a:WiOk x):WiOk (x.setq k q'):=by
 rcases hk with rfl | rfl
 ·have hq:x.e0.ring=some q:=hq
  refine a.of rfl (fun j hj=>?_) (fun j hj=>?_) (fun j hj q2 hq2=>?_) fun h=>h
  ·rcases hj with rfl | rfl<;>rfl
  ·rcases hj with rfl | rfl
   ·show (some q'=none)↔x.e0.ring=none
    rw [hq];simp
   ·exact Iff.rfl
  ·rcases hj with rfl | rfl
   ·have:some q'=some q2:=hq2
    cases this;exact hl
   ·exact a.len 1 Zd q2 hq2
 ·have hq:x.e1.ring=some q:=hq
  refine a.of rfl (fun j hj=>?_) (fun j hj=>?_) (fun j hj q2 hq2=>?_) fun h=>h
  ·rcases hj with rfl | rfl<;>rfl
  ·rcases hj with rfl | rfl
   ·exact Iff.rfl
   ·show (some q'=none)↔x.e1.ring=none
    rw [hq];simp
  ·rcases hj with rfl | rfl
   ·exact a.len 0 Zd q2 hq2
   ·have:some q'=some q2:=hq2
    cases this;exact hl
theorem jmX {x:Wi} {k:Nat} {q:List UInt8} (hk:k=0\/k=1):(x.setq k q).e0.what=x.e0.what:=by rcases hk with rfl | rfl<;>rfl
theorem jmW {x:Wi} {k:Nat} {q:List UInt8} (hk:k=0\/k=1):(x.setq k q).waiting=x.waiting:=by rcases hk with rfl | rfl<;>rfl
theorem jcb {k:Nat} (hk:k=0\/k=1):1-k=0\/1-k=1:=by omega
theorem WsK.take {ws:Ws} {n k m:Nat} {x:Wi} {q:List UInt8} (K:WsK ws) (hx:ws[n]?=some x) (hk:k=0\/k=1) (hq:(x.e k).ring=some q):WsK (ws.set n (x.take k m q)):=by
 have hl:=(K.ok.ok x (zb hx)).len k hk q hq
 exact K.set hx ((jic hk).trans (jfG (jcb hk))) (fun a=>jfF (jcb hk) (jib hk hq (by rw [List.length_drop];omega) a)) (by unfold Wi.take;rw [jiH (jcb hk),jmW hk]) (by unfold Wi.take;rw [jiI (jcb hk),jmX hk];exact id)
theorem WsK.fill {ws:Ws} {n k m:Nat} {x:Wi} {q b:List UInt8} (K:WsK ws) (hx:ws[n]?=some x) (hk:k=0\/k=1) (hq:(x.e (1-k)).ring=some q) (hm:m<=x.cap-q.length):WsK (ws.set n (x.fill k m q b)):=by
 have hl:=(K.ok.ok x (zb hx)).len (1-k) (jcb hk) q hq
 exact K.set hx ((jic (jcb hk)).trans (jfG (jcb hk))) (fun a=>jfF (jcb hk) (jib (jcb hk) hq (by rw [ze,List.length_take];omega) a)) (by unfold Wi.fill;rw [jiH (jcb hk),jmW (jcb hk)]) (by unfold Wi.fill;rw [jiI (jcb hk),jmX (jcb hk)];exact id)
theorem WsK.doShut {ws:Ws} {n k:Nat} {x:Wi} (K:WsK ws) (hx:ws[n]?=some x) (hk:k=0\/k=1):WsK (ws.set n (x.doShut k)):=by
 have e:x.SubFd (x.doShut k)/\(WiOk x->WiOk (x.doShut k))/\(x.doShut k).waiting=x.waiting/\(x.e0.what=0->(x.doShut k).e0.what=0):=by
  unfold Wi.doShut
  split
  ·exact ⟨Wi.SubFd.refl x,id,rfl,id⟩
  ·have p:x.SubFd (x.put k { x.e k with shut:=true })/\(WiOk x->WiOk (x.put k { x.e k with shut:=true }))/\(x.put k { x.e k with shut:=true }).waiting=x.waiting/\(x.put k { x.e k with shut:=true }).e0.what=x.e0.what:=by
    rcases hk with rfl | rfl
    ·refine ⟨fun j hj=>by (rcases hj with rfl | rfl<;>exact fun h=>⟨h,rfl⟩),fun a=>⟨a.cap0,a.cap1,fun j hj=>?_,fun j hj=>?_,a.out,a.bl,a.wh⟩,rfl,rfl⟩
     ·have:=a.len j hj;rcases hj with rfl | rfl<;>exact this
     ·have:=a.pair j hj;rcases hj with rfl | rfl<;>exact this
    ·refine ⟨fun j hj=>by (rcases hj with rfl | rfl<;>exact fun h=>⟨h,rfl⟩),fun a=>⟨a.cap0,a.cap1,fun j hj=>?_,fun j hj=>?_,a.out,a.bl,a.wh⟩,rfl,rfl⟩
     ·have:=a.len j hj;rcases hj with rfl | rfl<;>exact this
     ·have:=a.pair j hj;rcases hj with rfl | rfl<;>exact this
   exact ⟨p.1.trans (jfG (jcb hk)),fun a=>jfF (jcb hk) (p.2.1 a),by rw [jiH (jcb hk),p.2.2.1],fun h=>by rw [jiI (jcb hk),p.2.2.2,h]⟩
 exact K.set hx e.1 e.2.1 e.2.2.1 e.2.2.2
theorem jha {x:Wi} {k:Nat} (hk:k=0\/k=1):x.SubFd (x.close k)/\(WiOk x->WiOk (x.close k))/\(x.close k).waiting=x.waiting/\(x.e0.what=0->k=1->(x.close k).e0.what=0):=by
 have c1:x.SubFd (x.came (1-k) (!(x.e k).shut) true):=jfG (jcb hk)
 have c2:WiOk x->WiOk (x.came (1-k) (!(x.e k).shut) true):=jfF (jcb hk)
 have c3:(x.came (1-k) (!(x.e k).shut) true).waiting=x.waiting:=jiH (jcb hk)
 have c4:(x.came (1-k) (!(x.e k).shut) true).e0.what=x.e0.what:=jiI (jcb hk)
 unfold Wi.close
 generalize x.came (1-k) (!(x.e k).shut) true=y at c1 c2 c3 c4 ⊢
 have p:y.SubFd (y.put k { y.e k with what:=3 })/\(WiOk y->WiOk (y.put k { y.e k with what:=3 }))/\(y.put k { y.e k with what:=3 }).waiting=y.waiting/\(k=1->(y.put k { y.e k with what:=3 }).e0.what=y.e0.what):=by
  rcases hk with rfl | rfl
  ·refine ⟨fun j hj=>?_,fun a=>⟨a.cap0,a.cap1,fun j hj=>?_,fun j hj=>?_,a.out,a.bl,⟨⟨by show (0:Int)<=3;omega,by show (3:Int)<=3;omega⟩,a.wh.2⟩⟩,rfl,fun e=>by cases e⟩
   ·rcases hj with rfl | rfl
    ·intro h
     have h:(3:Int)=1:=h
     omega
    ·exact fun h=>⟨h,rfl⟩
   ·have:=a.len j hj;rcases hj with rfl | rfl<;>exact this
   ·have:=a.pair j hj;rcases hj with rfl | rfl<;>exact this
  ·refine ⟨fun j hj=>?_,fun a=>⟨a.cap0,a.cap1,fun j hj=>?_,fun j hj=>?_,fun h=>?_,a.bl,⟨a.wh.1,by show (0:Int)<=3;omega,by show (3:Int)<=3;omega⟩⟩,rfl,fun _=>rfl⟩
   ·rcases hj with rfl | rfl
    ·exact fun h=>⟨h,rfl⟩
    ·intro h
     have h:(3:Int)=1:=h
     omega
   ·have:=a.len j hj;rcases hj with rfl | rfl<;>exact this
   ·have:=a.pair j hj;rcases hj with rfl | rfl<;>exact this
   ·have h:(3:Int)=2:=h
    omega
 exact ⟨c1.trans p.1,fun a=>p.2.1 (c2 a),by rw [p.2.2.1,c3],fun h hk=>by rw [p.2.2.2 hk,c4,h]⟩
theorem jkG {vs:Ws} {m:Int} : (jdi vs m).length=vs.length /\ ∀ (i:Nat) (z':Wi),(jdi vs m)[i]?=some z' -> ∃ z,vs[i]?=some z/\z.SubFd z'/\(WiOk z->WiOk z')/\z'.waiting=z.waiting/\(m.toNat≠i->z'=z):=by
 unfold jdi
 split
 ·exact ⟨rfl,fun i z' h=>⟨z',h,Wi.SubFd.refl _,id,rfl,fun _=>rfl⟩⟩
 ·next x hx=>
  refine ⟨by simp,fun i z' h=>?_⟩
  rcases jdE h with ⟨rfl,rfl⟩ | ⟨hne,h⟩
  ·have c:=jha (x:=x) (k:=0) (.inl rfl)
   exact ⟨x,hx,c.1,c.2.1,c.2.2.1,fun h=>absurd rfl h⟩
  ·exact ⟨z',h,Wi.SubFd.refl _,id,rfl,fun _=>rfl⟩
theorem jfN : ∀ (L:List Int) (vs:Ws),(jaA vs L).length=vs.length /\ ∀ (i:Nat) (z':Wi),(jaA vs L)[i]?=some z' -> ∃ z,vs[i]?=some z/\z.SubFd z'/\(WiOk z->WiOk z')/\z'.waiting=z.waiting/\((∀ m∈L,m.toNat≠i)->z'=z)
 | [],vs=>⟨rfl,fun i z' h=>⟨z',h,Wi.SubFd.refl _,id,rfl,fun _=>rfl⟩⟩
 | m :: L,vs=>by
  obtain ⟨a1,a2⟩:=jfN L (jdi vs m)
  obtain ⟨b1,b2⟩:=jkG (vs:=vs) (m:=m)
  refine ⟨by rw [jaA,a1,b1],fun i z' h=>?_⟩
  obtain ⟨y,h1,s1,o1,w1,n1⟩:=a2 i z' h
  obtain ⟨z,h2,s2,o2,w2,n2⟩:=b2 i y h1
  refine ⟨z,h2,s2.trans s1,fun a=>o1 (o2 a),by rw [w1,w2],fun hn=>?_⟩
  rw [n1 fun m' hm'=>hn m' (zk _ hm'),n2 (hn m (zi ..))]
theorem WsK.close {ws:Ws} {n k:Nat} {x:Wi} (K:WsK ws) (hx:ws[n]?=some x) (hk:k=0\/k=1) (h1:(x.e k).what=1):WsK (noWait (jaA (ws.set n (x.close k)) x.waiting) n):=by
 obtain ⟨a1,a2⟩:=jfN x.waiting (ws.set n (x.close k))
 have c:=jha (x:=x) hk
 have hn:=w_lt hx
 obtain ⟨u,hu⟩:=joP (ws:=jaA (ws.set n (x.close k)) x.waiting) (n:=n) (by rw [a1];simpa using hn)
 have e:noWait (jaA (ws.set n (x.close k)) x.waiting) n=(jaA (ws.set n (x.close k)) x.waiting).set n { u with waiting:=[] } := by
  unfold noWait;rw [hu]
 rw [e]
 refine K.mild (by rw [List.length_set,a1,List.length_set]) fun i z' hz=>?_
 have back : ∀ (i:Nat) (z:Wi),(ws.set n (x.close k))[i]?=some z -> ∃ y,ws[i]?=some y/\y.SubFd z/\(WiOk y->WiOk z)/\z.waiting=y.waiting/\(y.e0.what=0->z.e0.what=0):=by
  intro i z hz
  rcases jdE hz with ⟨rfl,rfl⟩ | ⟨_,hz⟩
  ·refine ⟨x,hx,c.1,c.2.1,c.2.2.1,fun h=>c.2.2.2 h ?_⟩
   rcases hk with rfl | rfl
   ·have h1:x.e0.what=1:=h1
    omega
   ·rfl
  ·exact ⟨z,hz,Wi.SubFd.refl _,id,rfl,id⟩
 rcases jdE hz with ⟨rfl,rfl⟩ | ⟨hne,hz⟩
 ·obtain ⟨z,z1,z2,z3,z4,z5⟩:=a2 _ _ hu
  obtain ⟨y,y1,y2,y3,y4,y5⟩:=back _ _ z1
  have yo:=z3 (y3 (K.ok.ok y (zb y1)))
  refine ⟨y,y1,fun j hj h=>(y2.trans z2) j hj (by rcases hj with rfl | rfl<;>exact h) |>.imp id fun e=>by (rcases hj with rfl | rfl<;>exact e),⟨yo.cap0,yo.cap1,yo.len,yo.pair,yo.out,yo.bl,yo.wh⟩,⟨y.waiting.length,by simp⟩,?_⟩
  rintro h0 ⟨j,v,hv,hm⟩
  show u.e0.what=0
  rw [z5 ?_]
  ·exact y5 h0
  rintro m hm2 rfl
  rcases jdE hv with ⟨rfl,rfl⟩ | ⟨hj,hv⟩
  ·simp at hm
  ·obtain ⟨z',z1',_,_,z4',_⟩:=a2 _ _ hv
   rcases jdE z1' with ⟨rfl,_⟩ | ⟨_,z1'⟩
   ·exact hj rfl
   rw [z4'] at hm
   have m0:0<=m:=by obtain ⟨y,y0,_⟩:=(K.ok.wait x (zb hx)).2 m hm2;exact y0
   rw [Int.toNat_of_nonneg m0] at hm
   obtain ⟨p,hp⟩:=List.mem_iff_getElem?.1 hm
   obtain ⟨q,hq⟩:=List.mem_iff_getElem?.1 hm2
   exact hj (K.one j _ z' x p q m z1' hx hp hq).1
 ·obtain ⟨z,z1,z2,z3,z4,z5⟩:=a2 _ _ hz
  obtain ⟨y,y1,y2,y3,y4,y5⟩:=back _ _ z1
  refine ⟨y,y1,y2.trans z2,z3 (y3 (K.ok.ok y (zb y1))),⟨0,by rw [z4,y4];rfl⟩,?_⟩
  rintro h0 ⟨j,v,hv,hm⟩
  rw [z5 ?_]
  ·exact y5 h0
  rintro m hm2 rfl
  rcases jdE hv with ⟨rfl,rfl⟩ | ⟨hj,hv⟩
  ·simp at hm
  ·obtain ⟨z',z1',_,_,z4',_⟩:=a2 _ _ hv
   rcases jdE z1' with ⟨rfl,_⟩ | ⟨_,z1'⟩
   ·exact hj rfl
   rw [z4'] at hm
   have m0:0<=m:=by obtain ⟨y,y0,_⟩:=(K.ok.wait x (zb hx)).2 m hm2;exact y0
   rw [Int.toNat_of_nonneg m0] at hm
   obtain ⟨p,hp⟩:=List.mem_iff_getElem?.1 hm
   obtain ⟨q,hq⟩:=List.mem_iff_getElem?.1 hm2
   exact hj (K.one j n z' x p q m z1' hx hp hq).1
end Am.Sigs
