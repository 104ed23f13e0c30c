/- Our own library, part 20. -/
import Derived.Test.YtphpefladchggaaGreatDoorV19
import Derived.Test.YtphpefladchggaaGreatDoorV18
import Derived.Test.YtphpefladchggaaGreatDoorV16
set_option maxHeartbeats 8000000
set_option maxRecDepth 800
set_option linter.all false
namespace Am.Sigs
open Am Go
abbrev hasW(n f:Int):Int:=IntKind.i64.wrap ((BitVec.ofInt IntKind.i64.bits n &&& BitVec.ofInt IntKind.i64.bits f).toNat:Int)
theorem may17:∀k:_root_.Fin 39,decide (okN (k.val:Int))=(decide (hasW (k.val:Int) 1=0)&&(decide (hasW (k.val:Int) 8=0)&&(decide (hasW (k.val:Int) 16=0)&&(decide ((k.val:Int)=0)||(decide (hasW (k.val:Int) 2≠0)||decide (hasW (k.val:Int) 4≠0)))))):=by decide
section
variable{cl:Nat->Call}(Z:Sem cl){h:H}{p w s rw:Nat}{ow:Nat->Nat}{ro dat:Nat->Prop}{a r:St}{d i D:Nat}{nf fd n m:Int}{f:Nat->Int}{fr fw:Nat->Bool}
include Z
theorem jlx(hd:1<=d):cl d (.fn 117) [.i n,.i m] h=some (.bool (decide (hasW n m≠0)),h):=by
 refine jaj (aT Z ?_);refine Ga ?_;exact⟨rfl,rfl⟩
theorem di_May(hd:2<=d):∃v h',cl d (.fn 50) [.i n] h=some (v,h')/\v = .bool (decide (okN n))/\Old h h':=by
 refine aT Z ?_;by_cases f0:n<0
 .rw[zE (by omega:¬okN n)];have o0:=Zz h;refine Ga ?_;exact⟨rfl,o0⟩
 by_cases f1:38<n
 .rw[zE (by omega:¬okN n)];have o0:=Zz h;refine Ga ?_;exact⟨rfl,o0⟩
 have hk:=may17 ⟨n.toNat,by omega⟩;have hn:((n.toNat:Nat):Int)=n:=by omega
 simp only[hn]at hk;rw[hk];clear hk hn;have o1:Old h (h.new (.cells [.i 1,.i 8,.i 16] false)):=(Zz h).new;have g1:(h.new (.cells [.i 1,.i 8,.i 16] false)).get h.nx=some (.cells [.i 1,.i 8,.i 16] false):=jac _;have m1:=jlx Z (d:=d-1) (h:=h.new (.cells [.i 1,.i 8,.i 16] false)) (n:=n) (m:=1) om;have m8:=jlx Z (d:=d-1) (h:=h.new (.cells [.i 1,.i 8,.i 16] false)) (n:=n) (m:=8) om;have sW:=jlx Z (d:=d-1) (h:=h.new (.cells [.i 1,.i 8,.i 16] false)) (n:=n) (m:=16) om;have m2:=jlx Z (d:=d-1) (h:=h.new (.cells [.i 1,.i 8,.i 16] false)) (n:=n) (m:=2) om;have m4:=jlx Z (d:=d-1) (h:=h.new (.cells [.i 1,.i 8,.i 16] false)) (n:=n) (m:=4) om;have x0:([.i 1,.i 8,.i 16]:List V)[0+(0:Int).toNat*1]?=some (.i 1):=rfl;have x1:([.i 1,.i 8,.i 16]:List V)[0+((0:Int)+1).toNat*1]?=some (.i 8):=rfl;have x2:([.i 1,.i 8,.i 16]:List V)[0+((0:Int)+1+1).toNat*1]?=some (.i 16):=rfl;refine Ga ?_;refine zcu (ob:= .cells [.i 1,.i 8,.i 16] false) (mk:=fun b=>.slice (some (b,0)) 3 (.fix 3)) rfl rfl ?_;generalize h.new (.cells [.i 1,.i 8,.i 16] false)=g at o1 g1 m1 m8 sW m2 m4;refine Ga ?_;refine Zw (n:=99999) rfl ?_;by_cases b1:hasW n 1=0
 case neg=>
  rw[zE b1];rw[zG (show hasW n 1≠0 from b1)]at m1;refine Ga ?_;exact⟨rfl,o1⟩
 rw[zG b1];rw[zE (show ¬hasW n 1≠0 from fun e=>e b1)]at m1;by_cases b8:hasW n 8=0
 case neg=>
  rw[zE b8];rw[zG (show hasW n 8≠0 from b8)]at m8;refine Ga ?_;refine Zx ?_;refine Ga ?_;exact⟨rfl,o1⟩
 rw[zG b8];rw[zE (show ¬hasW n 8≠0 from fun e=>e b8)]at m8;by_cases b16:hasW n 16=0
 case neg=>
  rw[zE b16];rw[zG (show hasW n 16≠0 from b16)]at sW;refine Ga ?_;refine Zx ?_;refine Ga ?_;refine Zx ?_;refine Ga ?_;exact⟨rfl,o1⟩
 rw[zG b16];rw[zE (show ¬hasW n 16≠0 from fun e=>e b16)]at sW;refine Ga ?_;refine Zx ?_;refine Ga ?_;refine Zx ?_;refine Ga ?_;refine Zx ?_;by_cases hz:n=0
 .rw[zG hz];refine Ga ?_;exact⟨rfl,o1⟩
 rw[zE hz];by_cases b2:hasW n 2=0
 case neg=>
  rw[zG (show hasW n 2≠0 from b2)]at m2 ⊢;refine Ga ?_;exact⟨rfl,o1⟩
 rw[zE (show ¬hasW n 2≠0 from fun e=>e b2)]at m2 ⊢;refine Ga ?_;exact⟨rfl,o1⟩
theorem di_Set(hd:4<=d)(b:BB h p w s rw ow ro dat a r)(ok:WsOk r.ws)(hD:h.get D=some (.cells (idw rw fr fw nf) false))(lD:D<h.nx) :
  ∃v h',cl d (.fn 13) [.p D 0,.i fd,.i n] h=some (v,h')/\v = .i (setE (rdyS r.ws fd).op fd n)/\Ch (fun j=>j=D) h h'/\h'.get D=some (.cells (idw rw (jgB (rdyS r.ws fd).op fd n fr) (jgA (rdyS r.ws fd).op fd n fw) nf) false):=by
 obtain⟨_,g0,e2,rfl,o0⟩:=di_May Z (d:=d-1) (h:=h) (n:=n) om;obtain⟨g,e3,mQ⟩:=jk0 Z (d:=d-1) (fd:=fd) om (b.old o0) ok;have o1:=o0.trans mQ;have h0:(idw rw fr fw nf)[0+0]?=some (.p rw 0):=rfl;have Dl:g0.get D=some (.cells (idw rw fr fw nf) false):=by rw[o0.2 D lD,hD]
 have hg:g.get D=some (.cells (idw rw fr fw nf) false):=by rw[o1.2 D lD,hD]
 generalize rdyS r.ws fd=R at e3 ⊢;obtain⟨op,inn,out,hup,err,r1,r2⟩:=R;simp only[Rdy.cells]at e3;show ∃(v:V) (h':H),_/\v = .i (setE op fd n)/\_/\h'.get D=some (.cells (idw rw (jgB op fd n fr) (jgA op fd n fw) nf) false);have no:∀e g,setE op fd n=e->e≠0->Old h g->(V.i e = .i (setE op fd n)/\Ch (fun j=>j=D) h g/\g.get D=some (.cells (idw rw (jgB op fd n fr) (jgA op fd n fw) nf) false)):=fun e g he hz o=>⟨by rw[he],o.ch,by unfold jgB jgA;rw[zC (by rw[he];exact hz),zC (by rw[he];exact hz),o.2 D lD,hD]⟩
 have yes:∀g,setE op fd n=0->Old h g->(V.i 0 = .i (setE op fd n)/\Ch (fun j=>j=D) h (g.set D (.cells ((idw rw fr fw nf).set (0+1+fd.toNat*1) (.i n)) false))/\(g.set D (.cells ((idw rw fr fw nf).set (0+1+fd.toNat*1) (.i n)) false)).get D=some (.cells (idw rw (jgB op fd n fr) (jgA op fd n fw) nf) false)):=fun g he o=>⟨by rw[he],o.ch.trans (Zs rfl),by rw[jab,joS he]⟩
 have tf:¬(true=false):=fun e=>Bool.noConfusion e;clear b ok;by_cases f0:fd<0
 .have S:=no 2 g0 (by unfold setE;rw[zC om]) om o0;clear no yes;refine aT Z ?_;refine Ga ?_;exact S
 by_cases f1:95<fd
 .have S:=no 2 g0 (by unfold setE;rw[zC om]) om o0;clear no yes;refine aT Z ?_;refine Ga ?_;exact S
 by_cases hn:okN n
 case neg=>
  have S:=no 2 g0 (by unfold setE;rw[zC (fun h=>hn h.2)]) om o0;rw[zE hn]at e2;clear no yes hn;refine aT Z ?_;refine Ga ?_;exact S
 rw[zG hn]at e2;have f2:fd<96:=by omega
 have f3:0<=fd:=by omega
 have hl:0+1+fd.toNat*1<(idw rw fr fw nf).length:=by rw[jek];omega
 have hs:setE op fd n=if n≠0/\op=false then 110 else if 32<=n then 191 else 0:=by unfold setE;rw[zD ⟨⟨f3,by omega⟩,hn⟩]
 have oG:Old h ((g.new (.cells [.bool false,.bool false,.bool false,.bool false,.bool false,.int .u64 0,.int .u64 0] false)).set g.nx (.cells [.bool op,.bool inn,.bool out,.bool hup,.bool err,.int .u64 r1,.int .u64 r2] false)):=o1.trans ((Zz g).new.set (zq _));have gG:((g.new (.cells [.bool false,.bool false,.bool false,.bool false,.bool false,.int .u64 0,.int .u64 0] false)).set g.nx (.cells [.bool op,.bool inn,.bool out,.bool hup,.bool err,.int .u64 r1,.int .u64 r2] false)).get g.nx=some (.cells [.bool op,.bool inn,.bool out,.bool hup,.bool err,.int .u64 r1,.int .u64 r2] false):=jab _;have dG:((g.new (.cells [.bool false,.bool false,.bool false,.bool false,.bool false,.int .u64 0,.int .u64 0] false)).set g.nx (.cells [.bool op,.bool inn,.bool out,.bool hup,.bool err,.int .u64 r1,.int .u64 r2] false)).get D=some (.cells (idw rw fr fw nf) false):=by rw[oG.2 D lD,hD]
 have q0:([.bool op,.bool inn,.bool out,.bool hup,.bool err,.int .u64 r1,.int .u64 r2]:List V)[0+0]?=some (.bool op):=rfl;have xQ:n=0->IntKind.i64.wrap ((BitVec.ofInt IntKind.i64.bits n &&& BitVec.ofInt IntKind.i64.bits 32).toNat:Int)=0:=by rintro rfl;decide
 by_cases hz:n=0
 .have hb:=xQ hz;have Y:=yes _ (by rw[hs,zC (fun e=>e.1 hz),zC om]) oG;clear no yes hn hs xQ;refine aT Z ?_;refine qm ?_;refine zcs rfl rfl rfl dG hl ?_;refine Ga ?_;exact Y
 cases op with
 |false=>
  have S:=no 110 _ (by rw[hs,zD ⟨hz,rfl⟩]) om oG;clear no yes hn hs xQ;refine aT Z ?_;refine qm ?_;exact S
 |true=>
  have cD:setE true fd n=if 32<=n then 191 else 0:=by rw[hs,zC (fun h=>tf h.2)]
  by_cases h32:32<=n
  .have S:=no 191 _ (by rw[cD,zD h32]) om oG;have hb:¬IntKind.i64.wrap ((BitVec.ofInt IntKind.i64.bits n &&& BitVec.ofInt IntKind.i64.bits 32).toNat:Int)=0:=by
    rcases hn with rfl|rfl|rfl|rfl|rfl|rfl|rfl<;>first|omega|decide
   clear no yes hn hs cD xQ;refine aT Z ?_;refine qm ?_;exact S
  .have Y:=yes _ (by rw[cD,zC h32]) oG;have hb:IntKind.i64.wrap ((BitVec.ofInt IntKind.i64.bits n &&& BitVec.ofInt IntKind.i64.bits 32).toNat:Int)=0:=by
    rcases hn with rfl|rfl|rfl|rfl|rfl|rfl|rfl<;>first|omega|decide
   clear no yes hn hs cD xQ;refine aT Z ?_;refine qm ?_;refine zcs rfl rfl rfl dG hl ?_;refine Ga ?_;exact Y
theorem jly(hd:4<=d)(b:BB h p w s rw ow ro dat a r)(ok:WsOk r.ws)(hD:h.get D=some (.cells (idc rw f nf) false))(lD:D<h.nx) :
  ∃h',cl d (.fn 16) [.p D 0,.i fd] h=some (.i (if fd ≠ -1/\(rdyS r.ws fd).op=false then 110 else 0),h')/\Ch (fun j=>j=D) h h'/\h'.get D=some (.cells (idc rw f (if fd ≠ -1/\(rdyS r.ws fd).op=false then nf else fd)) false):=by
 have h0:(idc rw f nf)[0+0]?=some (.p rw 0):=rfl;have hl:0+97<(idc rw f nf).length:=by rw[jek];omega
 obtain⟨g,e2,o1⟩:=jk0 Z (d:=d-1) (fd:=fd) om b ok;clear ok b;generalize rdyS r.ws fd=R at e2 ⊢;obtain⟨op,inn,out,hup,err,r1,r2⟩:=R;simp only[Rdy.cells]at e2;have oG:Old h ((g.new (.cells [.bool false,.bool false,.bool false,.bool false,.bool false,.int .u64 0,.int .u64 0] false)).set g.nx (.cells [.bool op,.bool inn,.bool out,.bool hup,.bool err,.int .u64 r1,.int .u64 r2] false)):=o1.trans ((Zz g).new.set (zq _));have gG:((g.new (.cells [.bool false,.bool false,.bool false,.bool false,.bool false,.int .u64 0,.int .u64 0] false)).set g.nx (.cells [.bool op,.bool inn,.bool out,.bool hup,.bool err,.int .u64 r1,.int .u64 r2] false)).get g.nx=some (.cells [.bool op,.bool inn,.bool out,.bool hup,.bool err,.int .u64 r1,.int .u64 r2] false):=jab _;have q0:([.bool op,.bool inn,.bool out,.bool hup,.bool err,.int .u64 r1,.int .u64 r2]:List V)[0+0]?=some (.bool op):=rfl;have dG:((g.new (.cells [.bool false,.bool false,.bool false,.bool false,.bool false,.int .u64 0,.int .u64 0] false)).set g.nx (.cells [.bool op,.bool inn,.bool out,.bool hup,.bool err,.int .u64 r1,.int .u64 r2] false)).get D=some (.cells (idc rw f nf) false):=by rw[oG.2 D lD,hD]
 have cG:Ch (fun j=>j=D) h _:=oG.ch;have P:Ch (fun j=>j=D) h (((g.new (.cells [.bool false,.bool false,.bool false,.bool false,.bool false,.int .u64 0,.int .u64 0] false)).set g.nx (.cells [.bool op,.bool inn,.bool out,.bool hup,.bool err,.int .u64 r1,.int .u64 r2] false)).set D (.cells ((idc rw f nf).set (0+97) (.i fd)) false))/\(((g.new (.cells [.bool false,.bool false,.bool false,.bool false,.bool false,.int .u64 0,.int .u64 0] false)).set g.nx (.cells [.bool op,.bool inn,.bool out,.bool hup,.bool err,.int .u64 r1,.int .u64 r2] false)).set D (.cells ((idc rw f nf).set (0+97) (.i fd)) false)).get D=some (.cells (idc rw f fd) false):=⟨oG.ch.trans (Zs rfl),by rw[jab,jpT]⟩
 by_cases hf:fd = -1
 .subst hf;rw[zC (fun h=>h.1 rfl),zC (fun h=>h.1 rfl)];refine jae (aT Z ?_);clear oG cG;refine qm ?_;exact⟨rfl,P⟩
 cases op with
 |false=>
  rw[zD ⟨hf,rfl⟩,zD ⟨hf,rfl⟩];refine jae (aT Z ?_);clear oG P;refine qm ?_;exact⟨rfl,cG,dG⟩
 |true=>
  rw[zC (fun h=>Bool.noConfusion h.2),zC (fun h=>Bool.noConfusion h.2)];refine jae (aT Z ?_);clear oG cG;refine qm ?_;exact⟨rfl,P⟩
end
theorem jmH{h:H}:∀{l:List Int} {cs:List V},jbx (jci .i64) h l cs->cs=ints l
 |[],_,e=>e
 |x::l,_,⟨u,w,e,h1,h2⟩=>by
  obtain⟨rfl,_⟩:=h1;rw[e,jmH h2];rfl
theorem ints_of{h:H}{l:List Int}{u:V}(r:jbC 60 (jci .i64) h l [u]):(∃ad c,u = .slice ad l.length c)/\(l.length<=60->VI h u l/\(l≠[] -> ∀z,u.at?=some z->z<h.nx)):=by
 obtain⟨a,c,e,h1,h2,h3⟩:=r;cases e;refine⟨⟨a,_,rfl⟩,fun hB=>⟨⟨a,.fix c,rfl,fun e=>?_,h2,fun hn=>?_⟩,fun hn z hz=>?_⟩⟩
 .obtain⟨rfl,rfl⟩:=h3 e;exact⟨rfl,rfl⟩
 .obtain⟨b,cs,q1,q2,q3,q4⟩:=h1 hB hn;exact⟨b,0,cs,true,q1,q2,q3,fun i x hi=>by rw[jmH q4,zP];simp[hi]⟩
 .obtain⟨b,cs,rfl,q2,q3,q4⟩:=h1 hB hn;cases hz;exact q2
theorem mvs4_of{h:H}{l:List (Int×Int×Int×List Int×Unit)}{u:V}(r:jbC 60 jqc h l [u]):∃L:List MvX,L.length=l.length/\jpk 60 h u L/\(L.length<=60->At4 h (· < h.nx) MvX.V u L/\∀x∈L,x.fit):=by
 obtain⟨ad,c,e,h1,h2,h3⟩:=r;cases e;by_cases hl:l.length<=60
 .by_cases hn:l=[]
  .subst hn;exact⟨[],rfl,⟨⟨ad,.fix c,rfl⟩,fun _=>⟨fun x hx=>(by cases hx),ad,.fix c,rfl,fun e=>zJ rfl e⟩⟩,fun _=>⟨⟨ad,.fix c,rfl,fun e=>⟨by rw[(h3 e).1],rfl⟩,zY _,fun e=>zJ rfl e⟩,fun x hx=>(by cases hx)⟩⟩
  .obtain⟨b,cs,rfl,q1,q2,q3⟩:=h1 hl hn;obtain⟨L,l1,rfl,l3⟩:=joO q3;exact⟨L,l1,⟨⟨_,.fix c,by rw[l1]⟩,fun _=>⟨fun x hx=>(l3 x hx).1,_,.fix c,by rw[l1],fun _=>⟨b,_,true,rfl,q1,q2,jeJ (fun _=>rfl) L,fun i x hx=>jc3 (fun _=>rfl) hx⟩⟩⟩,fun _=>⟨⟨_,.fix c,by rw[l1],fun e=>(by cases e),by show L.length<=c;omega,fun _=>⟨b,0,_,true,rfl,q1,q1,q2,fun i x hx=>by rw[zP];exact jc3 (fun _=>rfl) hx⟩⟩,fun x hx=>(l3 x hx).2⟩⟩
 .exact⟨List.replicate l.length ⟨⟨0,0,0,[]⟩,.nils⟩,by simp,⟨⟨ad,.fix c,by simp⟩,fun uD=>zJ (by simpa using uD) hl⟩,fun uD=>zJ (by simpa using uD) hl⟩
abbrev jpZ:H->Int×Bool×List Int×List (Int×Int×Int×List Int×Unit)×Unit->List V->Prop:=jbs (jci .u64) (jbs jlS (jbs (jbC 60 (jci .i64)) (jbs (jbC 60 jqc) jjg)))
def SpIn(h:H)(x:SpX):Prop:=SpOk h x/\(x.ml.length<=60->x.ol.length<=60->(∀m∈x.ml,m.m.D.length<=1100)->StepAt h (· < h.nx) (· < h.nx) x)
theorem jow{h:H}:∀{l:List (Int×Bool×List Int×List (Int×Int×Int×List Int×Unit)×Unit)} {cs:List V},jbx jpZ h l cs -> ∃L:List SpX,L.length=l.length/\cs=(L.map SpX.V).flatten/\(∀x∈L,SpIn h x)/\∀x∈L,x.ml.length<=60 -> ∀m∈x.ml,m.fit
 |[],_,e=>⟨[],rfl,e,fun x hx=>(by cases hx),fun x hx=>(by cases hx)⟩
 |y::l,_,⟨u,w,e,h1,h2⟩=>by
  obtain⟨L,l1,l2,l3,l4⟩:=jow h2;obtain⟨_,_,rfl,⟨rfl,t0,t1⟩,_,_,rfl,hb,u3,w3,rfl,r3,u4,w4,rfl,r4,hw⟩:=h1;obtain rfl:_=_:=hb;obtain rfl:w4=[]:=hw;have ⟨a3,c3,e3,_⟩:=r3;have ⟨a4,c4,e4,_⟩:=r4;subst e3 e4;obtain⟨i1,i2⟩:=ints_of r3;obtain⟨M,m1,m2,m3⟩:=mvs4_of r4;refine⟨⟨y.1,y.2.1,y.2.2.1,.slice a3 y.2.2.1.length (.fix c3),M,.slice a4 y.2.2.2.1.length (.fix c4)⟩::L,by simp[l1],by rw[e,l2];rfl,fun x hx=>?_,fun x hx hm=>?_⟩<;>rcases zZ.1 hx with rfl|hx
  .refine⟨⟨⟨i1,fun hl=>(i2 hl).1⟩,m2,t0,t1⟩,fun hm ho hd=>⟨⟨(i2 ho).1,(i2 ho).2⟩,(m3 hm).1,fun m fG=>?_,t0,t1⟩⟩;obtain⟨a,c,e,g⟩:=(m2.2 hm).1 m fG;have hB:=g (hd m fG);have hv:VB h m.dv m.m.D:=⟨a,c,e,hB⟩
   exact⟨hv,fun hn z hz=>hv.lt hn hz⟩
  .exact l3 x hx
  .exact (m3 hm).2
  .exact l4 x hx hm
theorem jlI:∀{l l':List SpX},l.map SpX.sp=l'.map SpX.sp->sumM l=sumM l'
 |[],[],_=>rfl
 |x::l,y::l',h=>by
  simp only[List.map_cons,List.cons.injEq]at h;have h1:x.ml.length=y.ml.length:=by have:=congrArg (fun s=>s.moves.length) h.1;simpa[SpX.sp] using this
  show x.ml.length+sumM l=y.ml.length+sumM l';rw[h1,jlI h.2]
 |[],y::l',h=>by simp at h
 |x::l,[],h=>by simp at h
section
variable{cl:Nat->Call}(Z:Sem cl)
include Z
theorem rd_digits{d u:Nat}{h:H}(hd:1<=d)(hu:u<18446744073709551616) :
  ∃h',cl d (.fn 138) [.int .u64 (u:Int)] h=some (.str (dec u),h')/\Old h h':=by
 refine jae (aT Z ?_);refine Ga ?_;refine Zq (fun m e g=>∃(n:Nat) (s:List UInt8),n<10 ^ (m+1)/\m+s.length<=19/\n<18446744073709551616/\dec u=dec n++s/\e=[(0,.int .u64 (n:Int)),(3,.str s)]/\Old h g)
  (k:=19) Ze ⟨u,[],by omega,by simp,hu,by simp,rfl,Zz h⟩ ?_
 rintro m _ g ⟨n,s,hm,kA,hn,hs,rfl,old⟩ f ih;by_cases d4:n<10
 .have xB:¬(9:Int)<(n:Int):=by omega
  refine Ga ?_;refine Ops.str1 (b:=UInt8.ofNat (48+n)) rfl (jm1 d4) ?_;refine Ga ?_;refine ZB rfl rfl Zc ?_;refine Ga ?_;exact⟨by rw[hs,jnc d4],old.trans ⟨by simp,fun _ hj=>jad hj⟩⟩
 .have xB:(9:Int)<(n:Int):=by omega
  have gC:m≠0:=by rintro rfl;simp at hm;omega
  have e1:IntKind.u8.wrap (IntKind.u64.wrap (48+(n:Int).tmod 10))=((UInt8.ofNat (48+n%10)).toNat:Int):=by
   have:(n:Int).tmod 10=((n%10:Nat):Int):=(Int.ofNat_tmod n 10).symm;rw[this,IntKind.wrap_u64,<- jm1 (m:=n%10) om];congr 1;omega
  refine Ga ?_;refine Ops.str1 (b:=UInt8.ofNat (48+n%10)) rfl e1 ?_;refine Ga ?_;refine ZB rfl rfl Zc ?_;refine Ga ?_;refine ih (m-1) om _ _ ⟨n/10,[UInt8.ofNat (48+n%10)]++s,?_,by simp;omega,by omega,by rw[hs,jpa d4 hn,List.append_assoc],?_,old.trans ⟨by simp,fun _ hj=>jad hj⟩⟩
  .rw[show m-1+1=m by omega];rw[Nat.pow_succ]at hm;omega
  .have:(n:Int).tdiv 10=((n/10:Nat):Int):=(Int.ofNat_tdiv n 10).symm;rw[this,IntKind.wrap_u64,Int.emod_eq_of_lt om om]
end
def numU(n:Int):List UInt8:=dec (IntKind.u64.wrap n).toNat
theorem jj5(n:Int):∃u:Nat,IntKind.u64.wrap n=(u:Int)/\u<18446744073709551616/\numU n=dec u:=by
 refine⟨(IntKind.u64.wrap n).toNat,?_,?_,rfl⟩<;>(rw[IntKind.wrap_u64];omega)
theorem jfa(n:Int):(numU n).length<=20:=by
 obtain⟨u,_,hu,e⟩:=jj5 n;rw[e];exact jkr (m:=19) om hu
def jj3:List (List UInt8):=[[],[112,117,116],[116,97,107,101],[115,104,117,116],[99,108,111,115,101],[114,101,115,101,116],[99,111,110,110,101,99,116],[114,97,105,115,101]]
def jj4(op:Int):List UInt8:=if op<1\/7<op then [] else (jj3[op.toNat]?).getD []
def mvT(m:Mv):List UInt8:=[32]++jj4 m.op++(if 1<=m.op/\m.op<=6 then [32]++numU m.wire else [])++(if m.op=2\/m.op=6\/m.op=7 then [32]++numU m.n else [])++(if m.op=1 then [32] else [])++hexS m.D
def ordN(l:List Int):Nat->List UInt8
 |0=>[]
 |i+1=>ordN l i++(if i=0 then [32,111,114,100,101,114,32] else [44])++numU ((l[i]?).getD 0)
def movN(l:List Mv):Nat->List UInt8
 |0=>[]
 |i+1=>movN l i++mvT ((l[i]?).getD ⟨0,0,0,[]⟩)
def jpv(x:Sp):List UInt8:=[115,116,101,112,32]++dec x.ticks.toNat++(if x.intr then [32,105,110,116,114] else [])++ordN x.order x.order.length++movN x.moves x.moves.length
theorem jk7(op:Int):(jj4 op).length<=7:=by
 unfold jj4;split
 .simp
 .next h=>
  have h1:op.toNat<8:=by omega
  generalize op.toNat=k at h1
  match k,h1 with
  |0,_=>simp[jj3]|1,_=>simp[jj3]|2,_=>simp[jj3]|3,_=>simp[jj3]|4,_=>simp[jj3]|5,_=>simp[jj3]|6,_=>simp[jj3]|7,_=>simp[jj3]
theorem jmP(l:List Int):∀i,(ordN l i).length<=27*i
 |0=>by simp[ordN]
 |i+1=>by
  have h1:=jmP l i;have h2:=jfa ((l[i]?).getD 0);simp only[ordN,zg];split<;>simp only[List.length_cons,List.length_nil]<;>omega
theorem mvT_len{m:Mv}(h:m.D.length<=1100):(mvT m).length<=2300:=by
 have h1:=jk7 m.op;have h2:=jfa m.wire;have h3:=jfa m.n;have h4:=jgt m.D;simp only[mvT,zg]
 (repeat' split)<;>simp only[zg,List.length_cons,List.length_nil]<;>omega
theorem jmT{l:List Mv}(h:∀m∈l,m.D.length<=1100):∀i,(movN l i).length<=2300*i
 |0=>by simp[movN]
 |i+1=>by
  have h1:=jmT h i;have h2:(mvT ((l[i]?).getD ⟨0,0,0,[]⟩)).length<=2300:=by
   refine mvT_len ?_;cases e:l[i]? with
   |none=>simp
   |some m=>exact h m (zc e)
  simp only[movN,zg];omega
section
variable{cl:Nat->Call}(Z:Sem cl)
include Z
theorem ln_word{d:Nat}{h:H}{op:Int}(hd:1<=d):∃h',cl d (.fn 139) [.i op] h=some (.str (jj4 op),h')/\Old h h':=by
 have o:Old h (h.new (.cells [.str [],.str [112,117,116],.str [116,97,107,101],.str [115,104,117,116],.str [99,108,111,115,101],.str [114,101,115,101,116],.str [99,111,110,110,101,99,116],.str [114,97,105,115,101]] false)):=(Zz h).new;have g:=jac (h:=h) (.cells [.str [],.str [112,117,116],.str [116,97,107,101],.str [115,104,117,116],.str [99,108,111,115,101],.str [114,101,115,101,116],.str [99,111,110,110,101,99,116],.str [114,97,105,115,101]] false);refine jae (aT Z ?_);by_cases h1:op<1
 .refine Ga ?_;exact⟨by rw[jj4,zD (.inl h1)],Zz h⟩
 by_cases h2:op>7
 .refine Ga ?_;exact⟨by rw[jj4,zD (.inr h2)],Zz h⟩
 have q:[V.str [],.str [112,117,116],.str [116,97,107,101],.str [115,104,117,116],.str [99,108,111,115,101],.str [114,101,115,101,116],.str [99,111,110,110,101,99,116],.str [114,97,105,115,101]][0+op.toNat*1]?=some (.str (jj4 op)):=by
  rw[jj4,zC om,zP,Nat.mul_one];have h1:op.toNat<8:=by omega
  generalize op.toNat=k at h1
  match k,h1 with
  |0,_=>rfl|1,_=>rfl|2,_=>rfl|3,_=>rfl|4,_=>rfl|5,_=>rfl|6,_=>rfl|7,_=>rfl
 refine Ga ?_;refine zcu (ob:= .cells [.str [],.str [112,117,116],.str [116,97,107,101],.str [115,104,117,116],.str [99,108,111,115,101],.str [114,101,115,101,116],.str [99,111,110,110,101,99,116],.str [114,97,105,115,101]] false) (mk:=fun b=>.slice (some (b,0)) 8 (.fix 8)) rfl rfl ?_;refine Ga ?_;exact⟨rfl,o⟩
theorem jgr{d u:Nat}{h:H}(hd:1<=d)(hu:u<18446744073709551616):∃h',cl d (.fn 138) [.int .u64 (u:Int)] h=some (.str (dec u),h')/\Old h h':=rd_digits Z hd hu
theorem jpR{d b mb:Nat}{j:Int}{v:V}{l:List UInt8}{s:List UInt8}{m:Mv}{h:H}(hg:h.get mb=some (.cells (mvV m v) false))(lmb:mb<h.nx)(hb:VB h v l)(hl:l.length<=1100)(hs:s.length<=400000) :
  Run (cl d) fuel (.loop [1,3,5,6,9] c70_3) [.block 4] [(1,.p b 0),(3,.str s),(5,.i j),(6,.p mb 0),(9,.i 0)] h (fun x e h'=>x = .normal/\(∃sb,e=(1,.p b 0)::(3,.str (s++hexS l))::(5,.i j)::sb)/\Old h h'):=by
 have cO:l≠[] -> ∀z,v.at?=some z->z<h.nx:=fun hn z hz=>hb.lt hn hz;obtain⟨a,c,rfl,hn,hf,pQ⟩:=hb;have q3:(mvV m (.slice a l.length c))[0+3]?=some (.slice a l.length c):=rfl;refine Zq (fun n e g=>∃(i:Nat),n=l.length-i/\i<=l.length/\e=[(1,.p b 0),(3,.str (s++hexS (l.take i))),(5,.i j),(6,.p mb 0),(9,.i (i:Int))]/\Old h g)
  (k:=l.length) Ze ⟨0,by omega,by omega,by simp[hexS],Zz h⟩ ?_
 rintro _ _ g ⟨i,rfl,hi,rfl,old⟩ f ih;have g1:g.get mb=some (.cells (mvV m (.slice a l.length c)) false):=by rw[old.2 mb lmb,hg]
 by_cases d4:i<l.length
 case neg=>
  obtain rfl:i=l.length:=by omega
  rw[List.take_length];clear ih;refine Ga ?_;exact Zn ⟨rfl,⟨_,rfl⟩,old⟩
 obtain⟨q,o,cs,ro,rfl,q1,q2,fU⟩:=pQ (by rintro rfl;simp at d4);have g2:g.get q=some (.cells cs ro):=by rw[old.2 q q1,q2]
 obtain⟨y,hy⟩:∃y,l[i]?=some y:=⟨_,za d4⟩
 have Wf:=y.toNat_lt;have q4:cs[o+(i:Int).toNat*1]?=some (.int .u8 (y.toNat:Int)):=by rw[zw,Nat.mul_one];exact fU i y hy
 have g3:(g.reserve 1).get mb=_:=(H.get_reserve ..).trans g1;have g4:(g.reserve 1).get q=some (.cells cs ro):=(H.get_reserve ..).trans g2;have a8:(i:Int)+1=((i+1:Nat):Int):=by omega
 clear pQ hf hn;refine Ga ?_;refine Zo ?_;refine Ga ?_;have e1:IntKind.u8.wrap ((y.toNat:Int).tdiv 16)=((y.toNat/16:Nat):Int):=by
  rw[show (y.toNat:Int).tdiv 16=((y.toNat/16:Nat):Int) from (Int.ofNat_tdiv _ 16).symm,IntKind.wrap_u8];omega
 have e2:(y.toNat:Int).tmod 16=((y.toNat%16:Nat):Int):=(Int.ofNat_tmod _ 16).symm;rw[e1,e2];refine Ops.bslice2_at (xv:= .int .u8 ((y.toNat/16:Nat):Int)) (yv:= .int .u8 ((y.toNat%16:Nat):Int)) rfl rfl rfl rfl ?_;have g5:((g.reserve 1).set (g.nx+0) (.cells [.int .u8 ((y.toNat/16:Nat):Int),.int .u8 ((y.toNat%16:Nat):Int)] false)).get (g.nx+0)=some (.cells [.int .u8 ((y.toNat/16:Nat):Int),.int .u8 ((y.toNat%16:Nat):Int)] false):=jab ..;have o2:Old g ((g.reserve 1).set (g.nx+0) (.cells [.int .u8 ((y.toNat/16:Nat):Int),.int .u8 ((y.toNat%16:Nat):Int)] false)):=⟨by simp,fun j hj=>by rw[jaa om,H.get_reserve]⟩
 generalize (g.reserve 1).set (g.nx+0) (.cells [.int .u8 ((y.toNat/16:Nat):Int),.int .u8 ((y.toNat%16:Nat):Int)] false)=g6 at g5 o2 ⊢;refine Ga ?_;have j4:=jgt (l.take i);have jM:(l.take i).length<=1100:=by simp;omega
 refine Zq (fun n e g'=>∃(k:Nat),n=2-k/\k<=2/\e=[(1,.p b 0),(3,.str (s++hexS (l.take i)++([hx (y.toNat/16),hx (y.toNat%16)].take k))),(5,.i j),(6,.p mb 0),(9,.i (i:Int)),(106,.slice (some (g.nx+0,0)) 2 (.fix 2)),(107,.i 2),(108,.i (k:Int))]/\g'=g6)
  (k:=2) Ze ⟨0,by omega,by omega,by simp,rfl⟩ ?_
 rintro _ _ g' ⟨k,rfl,hk,rfl,rfl⟩ f2 ih2;by_cases nB:k<2
 case neg=>
  obtain rfl:k=2:=by omega
  clear ih2;refine Ga ?_;rw[a8];refine ih (l.length-(i+1)) om _ _ ⟨i+1,rfl,by omega,?_,old.trans o2⟩;rw[jix hy,List.append_assoc s];rfl
 have key:∃z:Nat,z<16/\[V.int .u8 ((y.toNat/16:Nat):Int),.int .u8 ((y.toNat%16:Nat):Int)][0+(k:Int).toNat*1]?=some (.int .u8 (z:Int))/\[hx (y.toNat/16),hx (y.toNat%16)].take (k+1)=[hx (y.toNat/16),hx (y.toNat%16)].take k++[hx z]:=by
  match k,nB with
  |0,_=>exact⟨y.toNat/16,by omega,rfl,rfl⟩
  |1,_=>exact⟨y.toNat%16,by omega,rfl,rfl⟩
 obtain⟨z,hz,z1,z2⟩:=key;have e3:IntKind.i64.wrap (z:Int)=(z:Int):=by rw[IntKind.wrap_i64];omega
 have mF:(k:Int)+1=((k+1:Nat):Int):=by omega
 clear ih;refine Ga ?_;rw[e3];refine Ops.digit rfl rfl hz ?_;refine Ga ?_;have lW:([hx (y.toNat/16),hx (y.toNat%16)].take k).length<=2:=by simp;omega
 refine ZB rfl rfl (by simp at lW j4 jM ⊢;omega) ?_;refine Ga ?_;rw[mF];refine ih2 (2-(k+1)) om _ _ ⟨k+1,rfl,by omega,?_,rfl⟩;rw[z2,<- List.append_assoc]
end
def LnP(h0:H)(b:Nat)(j:Int)(s:List UInt8):Post:=fun x e h'=>x = .normal/\(∃sb,e=(1,.p b 0)::(3,.str s)::(5,.i j)::sb)/\Old h0 h'
theorem LnP.mono{h0 h1:H}{b:Nat}{j:Int}{s:List UInt8}(o:Old h0 h1){x:Ex}{e:Env}{h':H}(q:LnP h1 b j s x e h'):LnP h0 b j s x e h':=⟨q.1,q.2.1,o.trans q.2.2⟩
theorem Run.post{call:Call}{fuel:Nat}{c:AC}{K:List Fr}{e:Env}{h:H}{Q Q':Post}(k:Run call fuel c K e h Q)(hQ:∀x e h,Q x e h->Q' x e h):Run call fuel c K e h Q':=by
 obtain⟨x',e',h',oI,x2,e2,h2,ha,q⟩:=k;exact⟨x',e',h',oI,x2,e2,h2,ha,hQ _ _ _ q⟩
section
variable{cl:Nat->Call}(Z:Sem cl){d b mb:Nat}{j:Int}{s:List UInt8}{m:Mv}{dv:V}{h:H}{sb:Env}
include Z
theorem ln_b(hg:h.get mb=some (.cells (mvV m dv) false))(lmb:mb<h.nx)(hb:VB h dv m.D)(hl:m.D.length<=1100)(hs:s.length<=300000) :
  Run (cl d) fuel c70_5 [] ((1,.p b 0)::(3,.str s)::(5,.i j)::(6,.p mb 0)::sb) h (LnP h b j (s++(if m.op=1 then [32] else [])++hexS m.D)):=by
 have q0:(mvV m dv)[0+0]?=some (.i m.op):=rfl;by_cases h1:m.op=1
 .rw[zD h1];have T:=jpR Z (d:=d) (b:=b) (j:=j) (s:=s++[32]) hg lmb hb hl Zc;obtain⟨C,hC⟩:∃C,C=c70_3:=⟨_,rfl⟩
  simp only[c70_5,<- hC,yH];rw[<- hC]at T;clear hb;refine Ga ?_;refine ZB rfl rfl Zc ?_;refine Ga ?_;exact T
 .rw[zC h1,List.append_nil];have T:=jpR Z (d:=d) (b:=b) (j:=j) (s:=s) hg lmb hb hl om;obtain⟨C,hC⟩:∃C,C=c70_3:=⟨_,rfl⟩
  simp only[c70_5,<- hC,yH];rw[<- hC]at T;clear hb;refine Ga ?_;exact T
theorem ln_n(hd:1<=d)(hg:h.get mb=some (.cells (mvV m dv) false))(lmb:mb<h.nx)(hb:VB h dv m.D)(hl:m.D.length<=1100)(hs:s.length<=299900) :
  Run (cl d) fuel c70_7 [] ((1,.p b 0)::(3,.str s)::(5,.i j)::(6,.p mb 0)::sb) h (LnP h b j (s++(if m.op=2\/m.op=6\/m.op=7 then [32]++numU m.n else [])++(if m.op=1 then [32] else [])++hexS m.D)):=by
 have q0:(mvV m dv)[0+0]?=some (.i m.op):=rfl;have q2:(mvV m dv)[0+2]?=some (.i m.n):=rfl;have e1:=jkM Z (d:=d) (op:=m.op) (h:=h) hd;obtain⟨C,hC⟩:∃C,C=c70_5:=⟨_,rfl⟩
 by_cases h1:m.op=2\/m.op=6\/m.op=7
 .rw[zD h1];rw[zG h1]at e1;obtain⟨u,eu,hu,en⟩:=jj5 m.n;obtain⟨h2,e2,o2⟩:=jgr Z (d:=d) (u:=u) (h:=h) hd hu;have eJ:=jfa m.n;rw[<- en]at e2;have T:=fun sb=>ln_b Z (d:=d) (b:=b) (j:=j) (s:=s++[32]++numU m.n) (sb:=sb) (m:=m) (dv:=dv) (h:=h2) (by rw[o2.2 mb lmb,hg]) (zr lmb o2.1) (hb.keep2 o2.1 fun hl z hz=>o2.2 z (hb.lt hl hz)) hl Zc;simp only[c70_7,c70_4,<- hC,yC,yI];rw[<- hC]at T;clear hb h1;refine Ga ?_;refine ZB rfl rfl Zc ?_;refine Ga ?_;rw[eu];refine Ga ?_;refine ZB rfl rfl Zc ?_;refine Ga ?_;refine Run.post (T _) fun x e h' q=>LnP.mono o2 ?_;simpa only[List.append_assoc] using q
 .rw[zC h1];rw[zE h1]at e1;have T:=fun sb=>ln_b Z (d:=d) (b:=b) (j:=j) (s:=s) (sb:=sb) (m:=m) (dv:=dv) (h:=h) hg lmb hb hl om;simp only[c70_7,<- hC,yC];rw[<- hC]at T;clear hb h1;refine Ga ?_;refine Run.post (T _) fun x e h' q=>?_;simpa only[List.append_assoc,List.nil_append] using q
theorem ln_w(hd:1<=d)(hg:h.get mb=some (.cells (mvV m dv) false))(lmb:mb<h.nx)(hb:VB h dv m.D)(hl:m.D.length<=1100)(hs:s.length<=299800) :
  Run (cl d) fuel c70_8 [] ((1,.p b 0)::(3,.str s)::(5,.i j)::(6,.p mb 0)::sb) h (LnP h b j (s++(if 1<=m.op/\m.op<=6 then [32]++numU m.wire else [])++(if m.op=2\/m.op=6\/m.op=7 then [32]++numU m.n else [])++(if m.op=1 then [32] else [])++hexS m.D)):=by
 have q0:(mvV m dv)[0+0]?=some (.i m.op):=rfl;have q2:(mvV m dv)[0+1]?=some (.i m.wire):=rfl;have e1:=joE Z (d:=d) (op:=m.op) (h:=h) hd;obtain⟨C,hC⟩:∃C,C=c70_7:=⟨_,rfl⟩
 by_cases h1:1<=m.op/\m.op<=6
 .rw[zD h1];rw[zG h1]at e1;obtain⟨u,eu,hu,en⟩:=jj5 m.wire;obtain⟨h2,e2,o2⟩:=jgr Z (d:=d) (u:=u) (h:=h) hd hu;have eJ:=jfa m.wire;rw[<- en]at e2;have T:=fun sb=>ln_n Z (d:=d) (b:=b) (j:=j) (s:=s++[32]++numU m.wire) (sb:=sb) (m:=m) (dv:=dv) (h:=h2) hd (by rw[o2.2 mb lmb,hg]) (zr lmb o2.1) (hb.keep2 o2.1 fun hl z hz=>o2.2 z (hb.lt hl hz)) hl Zc;simp only[c70_8,c70_6,<- hC,yC,yI];rw[<- hC]at T;clear hb h1;refine Ga ?_;refine ZB rfl rfl Zc ?_;refine Ga ?_;rw[eu];refine Ga ?_;refine ZB rfl rfl Zc ?_;refine Ga ?_;refine Run.post (T _) fun x e h' q=>LnP.mono o2 ?_;simpa only[List.append_assoc] using q
 .rw[zC h1];rw[zE h1]at e1;have T:=fun sb=>ln_n Z (d:=d) (b:=b) (j:=j) (s:=s) (sb:=sb) (m:=m) (dv:=dv) (h:=h) hd hg lmb hb hl om;simp only[c70_8,<- hC,yC];rw[<- hC]at T;clear hb h1;refine Ga ?_;refine Run.post (T _) fun x e h' q=>?_;simpa only[List.append_assoc,List.nil_append] using q
theorem ln_m{P Q:Nat->Prop}{x:SpX}{k:Nat}{y:MvX}(hd:1<=d)(hg:h.get b=some (.cells x.V false))(lb:b<h.nx)(A:StepAt h P Q x)(hy:x.ml[k]?=some y)(hl:y.m.D.length<=1100)(hs:s.length<=299700) :
  Run (cl d) fuel c70_10 [] ((1,.p b 0)::(3,.str s)::(5,.i (k:Int))::sb) h (LnP h b k (s++mvT y.m)):=by
 obtain⟨ad,c,em,_,_,g⟩:=id A.mv;obtain⟨bb,oo,cs,rr,rfl,lbb,_,gb,hc⟩:=g (by intro e;rw[e]at hy;simp at hy);have h4:(cs.drop (oo+(k:Int).toNat*4)).take 4=y.V:=by rw[zw];exact hc k y hy
 have j4:=jfR h4 rfl;have q3:(x.V)[0+3]?=some (.slice (some (bb,oo)) x.ml.length c):=by rw[<- em];rfl
 have cN:k<x.ml.length:=by
  rcases zx k x.ml.length with h|h
  .exact h
  .rw[zd h]at hy;cases hy
 obtain⟨vy,zy⟩:=A.dv y (zc hy);obtain⟨m,dv⟩:=y;obtain⟨da,dc,e,_⟩:=id vy;have e:dv = .slice da m.D.length dc:=e;subst e;have o1:Old h ((h.new (.cells [.i 0,.i 0,.i 0,.nils] false)).set h.nx (.cells (mvV m (.slice da m.D.length dc)) false)):=(Zz h).new.set (zq _);have g1:((h.new (.cells [.i 0,.i 0,.i 0,.nils] false)).set h.nx (.cells (mvV m (.slice da m.D.length dc)) false)).get h.nx=some (.cells (mvV m (.slice da m.D.length dc)) false):=jab _;have n1:h.nx<((h.new (.cells [.i 0,.i 0,.i 0,.nils] false)).set h.nx (.cells (mvV m (.slice da m.D.length dc)) false)).nx:=by simp
 generalize hG:(h.new (.cells [.i 0,.i 0,.i 0,.nils] false)).set h.nx (.cells (mvV m (.slice da m.D.length dc)) false)=G at o1 g1 n1;obtain⟨h2,e2,o2⟩:=ln_word Z (d:=d) (op:=m.op) (h:=G) hd;have jE:=jk7 m.op;have T:=fun sb=>ln_w Z (d:=d) (b:=b) (j:=(k:Int)) (s:=s++[32]++jj4 m.op) (sb:=sb) (m:=m) (dv:= .slice da m.D.length dc) (h:=h2) hd (by rw[o2.2 _ n1,g1]) (zr n1 o2.1) (vy.keep2 (o1.trans o2).1 fun hl z hz=>(o1.trans o2).2 z (vy.lt hl hz)) hl Zc;have q0:(mvV m (.slice da m.D.length dc))[0+0]?=some (.i m.op):=rfl;obtain⟨C,hC⟩:∃C,C=c70_8:=⟨_,rfl⟩
 simp only[c70_10,c70_9,<- hC,yB,yH];rw[<- hC]at T;clear A g hc vy zy;refine Ga ?_;refine zcw rfl gb j4 ?_;rw[h4];refine zcu (ob:= .cells [.i 0,.i 0,.i 0,.nils] false) (mk:=fun b=>.p b 0) rfl rfl ?_;refine zct (n:=4) (o:=0) (vs:=mvV m (.slice da m.D.length dc)) rfl rfl rfl rfl (jac _) Zd ?_;rw[show jao ([.i 0,.i 0,.i 0,.nils]:List V) 0 (mvV m (.slice da m.D.length dc))=mvV m (.slice da m.D.length dc) from rfl,hG];refine Ga ?_;refine ZB rfl rfl Zc ?_;refine Ga ?_;refine ZB rfl rfl Zc ?_;refine Ga ?_;refine Run.post (T _) fun x e h' q=>LnP.mono (o1.trans o2) ?_;unfold mvT;simpa only[List.append_assoc] using q
end
def Sp.few(x:Sp):Prop:=x.moves.length<=60/\x.order.length<=60/\∀m∈x.moves,m.D.length<=1100
section
variable{cl:Nat->Call}(Z:Sem cl){d:Nat}{h:H}
include Z
theorem joF{P Q:Nat->Prop}{x:SpX}(hd:2<=d)(A:StepAt h P Q x)(hf:x.sp.few):∃h',cl d (.fn 70) [.agg x.V] h=some (.str (jpv x.sp),h')/\Old h h':=by
 have sF:x.ml.length<=60:=by have:=hf.1;simpa[SpX.sp] using this
 have wF:x.ol.length<=60:=hf.2.1;have hdl:∀y∈x.ml,y.m.D.length<=1100:=fun y hy=>hf.2.2 y.m (List.mem_map_of_mem hy);have o0:Old h (h.new (.cells x.V false)):=(Zz h).new;have g0:(h.new (.cells x.V false)).get h.nx=some (.cells x.V false):=jac _;have n0:h.nx<(h.new (.cells x.V false)).nx:=by simp
 generalize hG:h.new (.cells x.V false)=G at o0 g0 n0;obtain⟨u,eu⟩:∃u:Nat,x.t=(u:Int):=⟨x.t.toNat,by have:=A.t0;omega⟩
 have hu:u<18446744073709551616:=by have:=A.t1;omega
 have q0:(x.V)[0+0]?=some (.int .u64 (u:Int)):=by rw[<- eu];rfl
 have q1:(x.V)[0+1]?=some (.bool x.intr):=rfl;obtain⟨ao,co,eo,_,_,go⟩:=id A.ov.1;obtain⟨am,cm,em,_⟩:=id A.mv;have q2:(x.V)[0+2]?=some (.slice ao x.ol.length co):=by rw[<- eo];rfl
 have q3:(x.V)[0+3]?=some (.slice am x.ml.length cm):=by rw[<- em];rfl
 obtain⟨h1,e1,o1⟩:=jgr Z (d:=d-1) (u:=u) (h:=G) om hu;have El:=jkr (u:=u) (m:=19) om hu;have g1:h1.get h.nx=some (.cells x.V false):=by rw[o1.2 _ n0,g0]
 have n1:h.nx<h1.nx:=zr n0 o1.1;have A1:=A.old (o0.trans o1);have aI:jpv x.sp=[115,116,101,112,32]++dec u++(if x.intr then [32,105,110,116,114] else [])++ordN x.ol x.ol.length++movN (x.ml.map MvX.m) x.ml.length:=by
  unfold jpv;rw[show x.sp.ticks.toNat=u by show x.t.toNat=u;omega,show x.sp.moves.length=x.ml.length by simp[SpX.sp]];rfl
 obtain⟨C10,qQ⟩:∃C,C=c70_10:=⟨_,rfl⟩
 have T:∀(s:List UInt8) (sb:Env),s=[115,116,101,112,32]++dec u++(if x.intr then [32,105,110,116,114] else [])->Run (cl (d-1)) fuel c70_16 [] ((1,.p h.nx 0)::(3,.str s)::sb) h1 (Fin c70.res fun v h'=>v = .str (jpv x.sp)/\Old h h'):=by
  intro s sb hs;have kA:s.length<=30:=by
   rw[hs];cases x.intr<;>simp<;>omega
  rw[aI,<- hs];clear hs aI e1 q0 hG;simp only[c70_16,c70_11,<- qQ,uF,yB];refine Ga ?_;refine Zq (fun m e g=>∃i:Nat,m=x.ol.length-i/\i<=x.ol.length/\e=[(1,.p h.nx 0),(3,.str (s++ordN x.ol i)),(4,.i (i:Int))]/\Old h1 g)
   (k:=x.ol.length) Ze ⟨0,rfl,by omega,by simp[ordN],Zz _⟩ ?_
  rintro _ _ g ⟨i,rfl,hi,rfl,og⟩ n' ih;have gx:g.get h.nx=some (.cells x.V false):=by rw[og.2 _ n1,g1]
  have Gl:=jmP x.ol i;by_cases d4:(i:Int)<x.ol.length
  case pos=>
   obtain⟨n,hn⟩:=jdN (l:=x.ol) (i:=i) om;obtain⟨b,oo,cs,rr,rfl,lb,gb,hc⟩:=go (by intro e;rw[e]at hn;simp at hn);have qF:g.get b=some (.cells cs rr):=by rw[og.2 b (zr lb (o0.trans o1).1),(o0.trans o1).2 b lb,gb]
   have h4:cs[oo+(i:Int).toNat*1]?=some (.i n):=by rw[zw,Nat.mul_one];exact hc i n hn
   obtain⟨un,eun,Ug,enu⟩:=jj5 n;obtain⟨g2,e2,o2⟩:=jgr Z (d:=d-1) (u:=un) (h:=g) om Ug;have eJ:=jfa n;rw[<- enu]at e2;have a8:(i:Int)+1=((i+1:Nat):Int):=by omega
   have yS:ordN x.ol (i+1)=ordN x.ol i++(if i=0 then [32,111,114,100,101,114,32] else [44])++numU n:=by rw[ordN,hn];rfl
   clear go A A1 hc hdl;by_cases hz:i=0
   .have iA:(i:Int)=0:=by omega
    rw[zD hz]at yS;refine Ga ?_;refine ZB rfl rfl Zc ?_;refine Ga ?_;rw[eun];refine Ga ?_;refine ZB rfl rfl Zc ?_;refine Ga ?_;rw[a8];exact ih (x.ol.length-(i+1)) om _ _ ⟨i+1,rfl,by omega,by rw[yS];simp only[List.append_assoc],og.trans o2⟩
   .have iA:¬(i:Int)=0:=by omega
    rw[zC hz]at yS;refine Ga ?_;refine ZB rfl rfl Zc ?_;refine Ga ?_;rw[eun];refine Ga ?_;refine ZB rfl rfl Zc ?_;refine Ga ?_;rw[a8];exact ih (x.ol.length-(i+1)) om _ _ ⟨i+1,rfl,by omega,by rw[yS];simp only[List.append_assoc],og.trans o2⟩
  obtain rfl:i=x.ol.length:=by omega
  clear ih go;refine Ga ?_;refine Zq (fun m e g'=>∃i:Nat,m=x.ml.length-i/\i<=x.ml.length/\e=[(1,.p h.nx 0),(3,.str (s++ordN x.ol x.ol.length++movN (x.ml.map MvX.m) i)),(5,.i (i:Int))]/\Old h1 g')
   (k:=x.ml.length) Ze ⟨0,rfl,by omega,by simp[movN],og⟩ ?_
  clear og gx;rintro _ _ g' ⟨i,rfl,hi,rfl,og⟩ n2 ih;have gx:g'.get h.nx=some (.cells x.V false):=by rw[og.2 _ n1,g1]
  have Hl:=jmT (l:=x.ml.map MvX.m) (fun m hm=>by obtain⟨y,hy,rfl⟩:=List.mem_map.1 hm;exact hdl y hy) i;by_cases d4:(i:Int)<x.ml.length
  case neg=>
   obtain rfl:i=x.ml.length:=by omega
   have oF:=(o0.trans o1).trans og;clear ih A A1 hdl;refine Ga ?_;exact⟨rfl,oF⟩
  obtain⟨y,hy⟩:=jdN (l:=x.ml) (i:=i) om;have T:=fun sb=>ln_m Z (d:=d-1) (b:=h.nx) (s:=s++ordN x.ol x.ol.length++movN (x.ml.map MvX.m) i) (sb:=sb) (k:=i) om gx (zr n1 og.1) (A1.old og) hy (hdl y (zc hy)) (by simp only[zg];omega);rw[<- qQ]at T;have a8:(i:Int)+1=((i+1:Nat):Int):=by omega
  have Vg:movN (x.ml.map MvX.m) (i+1)=movN (x.ml.map MvX.m) i++mvT y.m:=by rw[movN,List.getElem?_map,hy];rfl
  clear A A1 hdl;refine Ga ?_;refine Run.cut _ (T _) ?_;rintro _ _ g2 ⟨rfl,⟨Jl,rfl⟩,o2⟩;refine Ga ?_;rw[a8];exact ih (x.ml.length-(i+1)) om _ _ ⟨i+1,rfl,by omega,by rw[Vg];simp only[List.append_assoc],og.trans o2⟩
 obtain⟨C,hC⟩:∃C,C=c70_16:=⟨_,rfl⟩
 rw[<- hC]at T;refine jae (aT Z ?_);simp only[c70,c70_18,c70_17,<- hC,yB,yH];clear A A1 aI hdl go;refine zab (zac (zcu (ob:= .cells x.V false) (mk:=fun b=>.p b 0) rfl rfl ?_));rw[hG];refine Ga ?_;refine ZB rfl rfl Zc ?_
 repeat' (first|refine qxy ?_|(refine zsp ?_ ?_<;>intro _)|fail)
 .next w9=>
  rw[w9]at T;refine ZB rfl rfl Zc ?_;refine Ga ?_;exact T _ _ rfl
 .next w9=>
  rw[w9]at T;exact T ([115,116,101,112,32]++dec u) _ Zd
end
section
variable{P:Sp->Prop}{rd:St->Bool}{fv:Bool}
theorem jk5:∀{l:List Sp} {o:List Int} {st:St},(∀x∈l,P x)->(∀x∈(jhH l o st).2.1,P x)/\(jhH l o st).2.1.length<=l.length
 |[],_,_,h=>⟨h,zq _⟩
 |x::l,o,st,h=>by
  by_cases ht:x.ticks=0
  .cases hi:x.intr with
   |true=>rw[jj1 ht hi];exact⟨fun y hy=>h y (zl _ hy),by simp⟩
   |false=>
    rw[jjz ht hi];obtain⟨q1,q2⟩:=jk5 (l:=l) (o:=x.order) (st:=mvsS x.moves st) fun y hy=>h y (zl _ hy);exact⟨q1,by rw[List.length_cons];omega⟩
  .rw[jj0 ht];exact⟨h,zq _⟩
theorem jmR(hP:∀x t,P x->P {x with ticks:=t}):∀{l:List Sp} {wt:Int} {o:List Int} {st:St},(∀x∈l,P x)->(∀x∈(napS rd fv l wt o st).2.1,P x)/\(napS rd fv l wt o st).2.1.length<=l.length
 |[],wt,o,st,h=>by
  by_cases hr:rd st=true
  .rw[jeB hr];exact⟨h,zq _⟩
  have hr:rd st=false:=by simpa using hr
  cases fv with
  |true=>rw[jdT hr rfl];exact⟨h,zq _⟩
  |false=>
   by_cases hw:wt=0
   .rw[jmS hr rfl hw];exact⟨h,zq _⟩
   .rw[jjY hr rfl hw];exact⟨h,zq _⟩
 |x::l,wt,o,st,h=>by
  have hl:∀y∈l,P y:=fun y hy=>h y (zl _ hy);by_cases hr:rd st=true
  .rw[jeB hr];exact⟨h,zq _⟩
  have hr:rd st=false:=by simpa using hr
  by_cases h1:fv=false/\wt=0
  .rw[jmS hr h1.1 h1.2];exact⟨h,zq _⟩
  by_cases h2:fv=false/\wt<x.ticks
  .rw[jio hr h2.1 (fun e=>h1 ⟨h2.1,e⟩) h2.2];refine⟨fun y hy=>?_,zq _⟩;rcases zZ.1 hy with rfl|hy
   .exact hP x _ (h x (zj ..))
   .exact hl y hy
  cases hi:x.intr with
  |true=>rw[jip hr h1 h2 hi];exact⟨hl,by simp⟩
  |false=>
   rw[jin hr h1 h2 hi];obtain⟨q1,q2⟩:=jmR hP (l:=l) (wt:=wt-min wt x.ticks) (o:=x.order) (st:=mvsS x.moves {st with now:=jcw st.now x.ticks}) hl;exact⟨q1,by rw[List.length_cons];omega⟩
theorem jnv(hP:∀x t,P x->P {x with ticks:=t}){l:List Sp}{wt:Int}{o:List Int}{st:St}(h:∀x∈l,P x):(∀x∈(jbw rd fv l wt o st).2.1,P x)/\(jbw rd fv l wt o st).2.1.length<=l.length:=by
 unfold jbw;have hz:=jk5 (o:=o) (st:=st) h;generalize jhH l o st=z at hz;obtain⟨c,l',o',st'⟩:=z;cases c with
 |true=>exact hz
 |false=>
  obtain⟨q1,q2⟩:=jmR (rd:=rd) (fv:=fv) hP (wt:=wt) (o:=o') (st:=st') hz.1;exact⟨q1,zA q2 hz.2⟩
end
section
variable{Q:List Int->Prop}{rd:St->Bool}{fv:Bool}
end
section
variable{cl:Nat->Call}(Z:Sem cl){d:Nat}{h:H}
include Z
theorem rm_Same{P1 Q1 P2 Q2 P3 P4:Nat->Prop}{v1 v2:V}{l1 l2:List SpX}(hd:3<=d)(a1:At4 h P1 SpX.V v1 l1)(s1:∀x∈l1,StepAt h P3 Q1 x)(a2:At4 h P2 SpX.V v2 l2)(s2:∀x∈l2,StepAt h P4 Q2 x)(aO:l1.map SpX.sp=l2.map SpX.sp)(hf:∀x∈l1.map SpX.sp,x.few)(hl:l1.length<=2000) :
  ∃h',cl d (.fn 24) [v1,v2] h=some (.bool true,h')/\Old h h':=by
 have aI:l2.length=l1.length:=by have:=congrArg List.length aO;simpa using this.symm
 obtain⟨mI,c1,rfl,_,_,g1⟩:=a1;obtain⟨tQ,c2,rfl,_,_,g2⟩:=a2;have d5:¬((l1.length:Nat):Int)≠((l2.length:Nat):Int):=fun e=>e (by rw[aI]);refine jae (aT Z ?_);refine Ga ?_;refine Zq (fun m e g=>∃i:Nat,m=l1.length-i/\i<=l1.length/\e=[(0,.slice mI l1.length c1),(1,.slice tQ l2.length c2),(5,.i (i:Int))]/\Old h g)
  (k:=l1.length) Ze ⟨0,rfl,by omega,rfl,Zz h⟩ ?_
 rintro _ _ g ⟨i,rfl,hi,rfl,og⟩ n' ih;by_cases d4:(i:Int)<l1.length
 case neg=>
  clear ih g1 g2 s1 s2 hf;refine Ga ?_;exact⟨rfl,og⟩
 obtain⟨x,hx⟩:=jdN (l:=l1) (i:=i) om;obtain⟨y,hy⟩:=jdN (l:=l2) (i:=i) om;have y_:x.sp=y.sp:=by
  have h1:(l1.map SpX.sp)[i]?=some x.sp:=by rw[List.getElem?_map,hx];rfl
  rw[aO,List.getElem?_map,hy]at h1;exact (Option.some.inj h1).symm
 have rF:=zc hx;have lE:=zc hy;obtain⟨b1,o1,z_,r1,rfl,Wg,_,qF,xD⟩:=g1 (by intro e;rw[e]at hx;simp at hx);obtain⟨b2,o2,lJ,r2,rfl,Aa,_,h_,kJ⟩:=g2 (by intro e;rw[e]at hy;simp at hy);have x4:(z_.drop (o1+(i:Int).toNat*4)).take 4=x.V:=by rw[zw];exact xD i x hx
 have y4:(lJ.drop (o2+(i:Int).toNat*4)).take 4=y.V:=by rw[zw];exact kJ i y hy
 have xl:=jfR x4 rfl;have yl:=jfR y4 rfl;have Xg:g.get b1=some (.cells z_ r1):=by rw[og.2 b1 Wg,qF]
 have Ba:g.get b2=some (.cells lJ r2):=by rw[og.2 b2 Aa,h_]
 have mR:=hf x.sp (List.mem_map_of_mem rF);obtain⟨h3,e3,o3⟩:=joF Z (d:=d-1) om ((s1 x rF).old og) mR;obtain⟨h4,e4,o4⟩:=joF Z (d:=d-1) om ((s2 y lE).old (og.trans o3)) (by rw[<- y_];exact mR);rw[<- y_]at e4;have gb2'':h3.get b2=some (.cells lJ r2):=by rw[o3.2 b2 (zr Aa og.1),Ba]
 have a8:(i:Int)+1=((i+1:Nat):Int):=by omega
 have jM:i<l2.length:=by omega
 clear g1 g2 s1 s2 hf xD kJ d5;refine Ga ?_;refine zcw rfl Xg xl ?_;rw[x4];refine Ga ?_;refine zcw rfl Ba yl ?_;rw[y4];refine Zu rfl e3 (jeQ rfl gb2'' yl y4 rfl ja9) ?_
 repeat' (first|refine qxy ?_|(refine zsp ?_ ?_<;>intro _)|fail)
 .next hh=>simp at hh
 rw[a8];exact ih (l1.length-(i+1)) om _ _ ⟨i+1,rfl,by omega,rfl,og.trans (o3.trans o4)⟩
variable{ow:Nat->Nat}{ro dat:Nat->Prop}{p sb:Nat}{bs:Option Nat}{X:Nat->Prop}{L:List SpX}{o:List Int}
theorem wm_Left(hd:4<=d)(A:SW h ow ro dat p sb bs X L o)(hl:L.length<=2000) :
  ∃v l' h',cl d (.fn 21) [.p sb 0] h=some (v,h')/\l'.map SpX.sp=L.map SpX.sp/\At4 h' (h.nx <= ·) SpX.V v l'/\(∀x∈l',StepAt h' (fun z=>h.nx<=z/\V.at? v≠some z) (fun z=>h.nx<=z/\V.at? v≠some z) x)/\Old h h':=by
 suffices q:∃w h',cl d (.fn 21) [.p sb 0] h=some (w,h')/\∃l',l'.map SpX.sp=L.map SpX.sp/\At4 h' (h.nx <= ·) SpX.V w l'/\(∀x∈l',StepAt h' (fun z=>h.nx<=z/\V.at? w≠some z) (fun z=>h.nx<=z/\V.at? w≠some z) x)/\Old h h' by
  obtain⟨v',h',e,l',q⟩:=q;exact⟨v',l',h',e,q⟩
 obtain⟨v,ov,e1,e2,e3,e4,e5,e6⟩:=A.ex;obtain⟨w,l',h',k1,k2,k3,k4,_,k6⟩:=jmz Z (d:=d-1) om ⟨e3,fun x hx=>(e4 x hx).keep (P':=PB ow ro sb) (zq _) (fun z _ hp=>⟨rfl,hp.1⟩) fun z _ hp=>⟨rfl,hp.1⟩⟩ hl A.few;refine aT Z ?_;clear e3 e4 e5 e6;refine Ga ?_;exact⟨l',k2,k3,k4,k6⟩
end
section
variable{cl:Nat->Call}(Z:Sem cl)
include Z
end
theorem spsIn_of{h:H}{l:List (Int×Bool×List Int×List (Int×Int×Int×List Int×Unit)×Unit)}{u:V}(r:jbC 100 jpZ h l [u]):∃L:List SpX,jph h u L/\(fewS L->jeo h (· < h.nx) (· < h.nx) u L):=by
 obtain⟨ad,c,e,h1,h2,h3⟩:=r;cases e;by_cases hl:l.length<=100
 .by_cases hn:l=[]
  .subst hn;exact⟨[],⟨ad,.fix c,rfl,fun _=>⟨fun x hx=>(by cases hx),fun e=>zJ rfl e⟩⟩,fun _=>⟨⟨ad,.fix c,rfl,fun e=>⟨by rw[(h3 e).1],rfl⟩,zY _,fun e=>zJ rfl e⟩,fun x hx=>by cases hx⟩⟩
  .obtain⟨b,cs,rfl,q1,q2,q3⟩:=h1 hl hn;obtain⟨L,l1,rfl,l3,_⟩:=jow q3;exact⟨L,⟨_,.fix c,by rw[l1],fun _=>⟨fun x hx=>(l3 x hx).1,fun _=>⟨b,_,true,rfl,q1,q2,jeJ (fun _=>rfl) L,fun i x hx=>jc3 (fun _=>rfl) hx⟩⟩⟩,fun hf=>⟨⟨_,.fix c,by rw[l1],fun e=>(by cases e),by show L.length<=c;omega,fun _=>⟨b,0,_,true,rfl,q1,q1,q2,fun i x hx=>by rw[zP];exact jc3 (fun _=>rfl) hx⟩⟩,fun x hx=>(l3 x hx).2 (hf.each x hx).1 (hf.each x hx).2.1 (hf.each x hx).2.2⟩⟩
 .refine⟨List.replicate l.length ⟨0,false,[],.nils,[],.nils⟩,⟨ad,.fix c,by simp,fun uD=>zJ (by simpa using uD) hl⟩,fun hf=>zJ (by have:=hf.len;simpa using this) hl⟩
structure NI(h0 g:H)(p w s rw bp sb rs:Nat)(bs:Option Nat)(ow:Nat->Nat)(ro:Nat->Prop)(st:St)(i:Nat)(L1 L2:List SpX)(o:List Int):Prop where
 b:BB g p w s rw ow ro (fun j=>j<h0.nx) st st
 so:StOk st i
 W:SW g ow ro (fun j=>j<h0.nx) p sb bs (fun z=>z≠rs) L1 o
 D:SD g ow ro (fun j=>j<h0.nx) p rs (fun z=>z≠sb/\bs≠some z) L2 o
 sp:L1.map SpX.sp=L2.map SpX.sp
 few:∀x∈L1.map SpX.sp,x.few
 sum:i+sumM L1<=600
 len:L1.length<=2000
 ol:o.length<=1000
 bpg:g.get bp=some (.cells [.p p 0] false)
 bpo:Own g ow ro (fun j=>j<h0.nx) p bp
 bpn:bp≠sb/\bs≠some bp/\bp≠rs
 rsn:rs≠sb/\bs≠some rs
 lb:∀z,z=sb\/bs=some z\/z=rs->h0.nx<=z
 old:Old h0 g
theorem NI.old'{h0 g g':H}{p w s rw bp sb rs:Nat}{bs:Option Nat}{ow:Nat->Nat}{ro:Nat->Prop}{st:St}{i:Nat}{L1 L2:List SpX}{o:List Int}(a:NI h0 g p w s rw bp sb rs bs ow ro st i L1 L2 o)(q:Old g g'):NI h0 g' p w s rw bp sb rs bs ow ro st i L1 L2 o where
 b:=a.b.old q
 so:=a.so
 W:=a.W.fs (Fs.old (S:=fun _=>False) q) (fun e=>e) (fun _ _ e=>e) fun _ _ e=>e
 D:=a.D.fs a.b (Fs.old (S:=fun _=>False) q) (fun e=>e) (fun _ _ e=>e) fun _ _ e=>e
 sp:=a.sp
 few:=a.few
 sum:=a.sum
 len:=a.len
 ol:=a.ol
 bpg:=by rw[q.2 _ a.bpo.lt,a.bpg]
 bpo:=a.bpo.fs (Fs.old (S:=fun _=>False) q)
 bpn:=a.bpn
 rsn:=a.rsn
 lb:=a.lb
 old:=a.old.trans q
section
variable{cl:Nat->Call}(Z:Sem cl)
include Z
end
theorem Ops.bslice1{call:Call}{fuel base:Nat}{ops:List Ins}{keep:List Nat}{K:List Fr}{e:Env}{h:H}{Q:Post}{ix:Nat}{dst:Option Nat}{sz:Nat}{x:Opd}{xv:V}{zero new:List V}(hx:x.ev e=some xv)(mB:xv.cells=new)(hl:new.length=sz)(eP:zero.length=sz)
  (k:Ops call fuel base ops keep K (layv e dst (.slice (some (h.nx,0)) 1 (.fix 1))) (h.new (.cells new false)) Q) :
  Ops call fuel base (⟨ix,dst,.bslice sz 1 zero [(0,x)],none,none,[]⟩::ops) keep K e h Q:=by
 have hf:jaF zero [(0*sz,sz,xv)]=some new:=by
  have e1:(xv.cells.length == sz&&Nat.ble (0*sz+sz) zero.length)=true:=by simp[mB,hl,eP]
  simp only[jaF];rw[e1,cond_true,mB,Nat.zero_mul,jcn _ _ om]
 refine zcu (ob:= .cells new false) (mk:=fun b=>.slice (some (b,0)) 1 (.fix 1)) rfl ?_ k;simp only[I.make,jb2,List.map,hx,hf]
structure OdX where
 k:Int
 x:OpX
 fd:Int
 n:Int
 t:Int
 b:Bool
abbrev OdX.V(o:OdX):List V:= .i o.k::(o.x.V++[.i o.fd,.i o.n,.int .u64 o.t,.bool o.b])
abbrev jpt:H->Int×(Int×Int×Int×Int×List Int×Unit)×Int×Int×Int×Bool×Unit->List V->Prop:=jbs (jci .i64) (jbs jnL (jbs (jci .i64) (jbs (jci .i64) (jbs (jci .u64) (jbs jlS jjg)))))
theorem op_of{h:H}{y:Int×Int×Int×Int×List Int×Unit}{u:List V}(h1:jnL h y u):∃X:OpX,u=X.V/\OpOk h X:=by
 obtain⟨v,e1,r,t0,t1⟩:=jil h1;obtain⟨a,c,rfl,hB⟩:=jkw r;exact⟨⟨y.1,y.2.1,y.2.2.1,y.2.2.2.1,.slice a y.2.2.2.2.1.length (.fix c),y.2.2.2.2.1.map jl2⟩,e1,⟨⟨a,.fix c,by simp,fun hl=>hB (by simpa using hl)⟩,t0,t1⟩⟩
structure OdOk(h:H)(X:OdX):Prop where
 x:OpOk h X.x
 n0: -9223372036854775808<=X.n
 n1:X.n<=9223372036854775807
 t0:0<=X.t
 t1:X.t<=18446744073709551615
theorem OdOk.keep{h h':H}{X:OdX}(o:OdOk h X)(hx:h.nx<=h'.nx)(hk:∀j o,j<h.nx->h.get j=some o->h'.get j=some o):OdOk h' X:=⟨o.x.keep hx hk,o.n0,o.n1,o.t0,o.t1⟩
theorem od_of{h:H}{y:Int×(Int×Int×Int×Int×List Int×Unit)×Int×Int×Int×Bool×Unit}{vs:List V}(r:jpt h y vs):∃X:OdX,vs=X.V/\OdOk h X:=by
 obtain⟨_,_,rfl,⟨rfl,_⟩,u,w,rfl,r2,_,_,rfl,⟨rfl,_⟩,_,_,rfl,⟨rfl,n0,n1⟩,_,_,rfl,⟨rfl,t0,t1⟩,_,w',rfl,rb,hn⟩:=r;obtain rfl:w'=[]:=hn;obtain rfl:_=[_]:=rb;obtain⟨X,rfl,ok⟩:=op_of r2;exact⟨⟨y.1,X,y.2.2.1,y.2.2.2.1,y.2.2.2.2.1,y.2.2.2.2.2.1⟩,rfl,⟨ok,n0,n1,t0,t1⟩⟩
theorem jpE{h:H}:∀{l:List (Int×(Int×Int×Int×Int×List Int×Unit)×Int×Int×Int×Bool×Unit)} {cs:List V},jbx jpt h l cs -> ∃L:List OdX,L.length=l.length/\cs=(L.map OdX.V).flatten/\∀x∈L,OdOk h x
 |[],_,e=>⟨[],rfl,e,fun x hx=>by cases hx⟩
 |y::l,_,⟨u,w,e,h1,h2⟩=>by
  obtain⟨L,l1,l2,l3⟩:=jpE h2;obtain⟨X,e1,ok⟩:=od_of h1;refine⟨X::L,by simp[l1],by rw[e,e1,l2];rfl,fun x hx=>?_⟩;rcases zZ.1 hx with rfl|hx
  .exact ok
  .exact l3 x hx
theorem jpF:∀L:List OdX,(L.map OdX.V).flatten.length=L.length*10
 |[]=>rfl
 |x::L=>by
  have:=jpF L;have h5:(OdX.V x).length=10:=rfl;show (OdX.V x++(L.map OdX.V).flatten).length=_;rw[zg,this,h5];simp;omega
theorem jpG:∀{L:List OdX} {i:Nat} {x:OdX},L[i]?=some x->(((L.map OdX.V).flatten).drop (i*10)).take 10=x.V
 |[],i,x,h=>by simp at h
 |y::L,0,x,h=>by simp at h;subst h;rfl
 |y::L,i+1,x,h=>by
  rw[List.map_cons,zW,show (i+1)*10=(OdX.V y).length+i*10 by show _=10+_;omega,<- List.drop_drop,List.drop_left];exact jpG (by simpa using h)
def jl5(h:H)(lv:V)(L:List OdX):Prop:= ∃ad c,lv = .slice ad L.length c/\(L.length<=100->(∀x∈L,OdOk h x)/\(L≠[] -> ∃b cs ro,ad=some (b,0)/\b<h.nx/\h.get b=some (.cells cs ro)/\cs.length=L.length*10/\∀(i:Nat) (x:OdX),L[i]?=some x->(cs.drop (i*10)).take 10=x.V))
theorem jl5.keep{h h':H}{lv:V}{L:List OdX}(o:jl5 h lv L)(hx:h.nx<=h'.nx)(hk:∀j o,j<h.nx->h.get j=some o->h'.get j=some o):jl5 h' lv L:=by
 obtain⟨ad,c,e,g⟩:=o;refine⟨ad,c,e,fun hl=>⟨fun x cB=>((g hl).1 x cB).keep hx hk,fun hn=>?_⟩⟩;obtain⟨b,cs,ro,q1,q2,q3,q4⟩:=(g hl).2 hn;exact⟨b,cs,ro,q1,by omega,hk _ _ q2 q3,q4⟩
theorem odsIn_of{h:H}{l:List (Int×(Int×Int×Int×Int×List Int×Unit)×Int×Int×Int×Bool×Unit)}{u:V}(r:jbC 100 jpt h l [u]):∃L:List OdX,L.length=l.length/\jl5 h u L:=by
 obtain⟨ad,c,e,h1,h2,h3⟩:=r;cases e;by_cases hl:l.length<=100
 .by_cases hn:l=[]
  .subst hn;exact⟨[],rfl,ad,.fix c,rfl,fun _=>⟨fun x hx=>(by cases hx),fun e=>zJ rfl e⟩⟩
  .obtain⟨b,cs,rfl,q1,q2,q3⟩:=h1 hl hn;obtain⟨L,l1,rfl,l3⟩:=jpE q3;exact⟨L,l1,_,.fix c,by rw[l1],fun _=>⟨l3,fun _=>⟨b,_,true,rfl,q1,q2,jpF L,fun i x hx=>jpG hx⟩⟩⟩
 .exact⟨List.replicate l.length ⟨0,⟨0,0,0,0,.nils,[]⟩,0,0,0,false⟩,by simp,ad,.fix c,by simp,fun uD=>zJ (by simpa using uD) hl⟩
section
variable{cl:Nat->Call}(Z:Sem cl){d:Nat}{h:H}
include Z
theorem g20_ok{lv:V}{L:List OdX}(hd:2<=d)(hL:jl5 h lv L):∃v h',cl d (.fn 6) [lv] h=some (v,h')/\Old h h'/\(v = .i 1\/(v = .i 0/\L.length<=100/\∀x∈L,x.x.D.length<=300))/\((∀j,h.nx<=j->h.get j=none) -> ∀j,h'.nx<=j->h'.get j=none):=by
 obtain⟨ad,c,rfl,w9⟩:=hL;refine aT Z ?_;by_cases h1:100<(L.length:Int)
 .refine Ga ?_;exact⟨Zz _,.inl rfl,id⟩
 obtain⟨m7,dC⟩:=w9 om;refine Ga ?_;refine Zq (fun m e g=>∃i:Nat,m=L.length-i/\i<=L.length/\e=[(0,.slice ad L.length c),(8,.i (L.length:Int)),(9,.i (i:Int))]/\(∀j y,j<i->L[j]?=some y->y.x.D.length<=300)/\Old h g/\((∀j,h.nx<=j->h.get j=none) -> ∀j,g.nx<=j->g.get j=none)) (k:=L.length) Ze ⟨0,rfl,by omega,rfl,fun j y hj=>by omega,Zz _,id⟩ ?_;rintro _ _ g ⟨i,rfl,hi,rfl,hj,og,wg⟩ n' ih;by_cases d4:(i:Int)<L.length
 case neg=>
  have wB:∀x∈L,x.x.D.length<=300:=fun y hy=>by
   obtain⟨j,nC,e⟩:=zV hy;exact hj j y om (by rw[za nC,e])
  clear ih dC m7 hj;refine Ga ?_;exact⟨og,.inr ⟨rfl,by omega,wB⟩,wg⟩
 obtain⟨x,hx⟩:=jdN (l:=L) (i:=i) om;obtain⟨b,cs,ro,rfl,lb,hb,c_,hc⟩:=dC (by rintro rfl;simp at hx);have gO:g.get b=some (.cells cs ro):=by rw[og.2 b lb,hb]
 have jB:=hc i x hx;have h5:(cs.drop (0+(i:Int).toNat*10+1)).take 5=x.x.V:=by
  rw[zP,zw];have:((cs.drop (i*10)).take 10).drop 1=x.V.drop 1:=by rw[jB]
  rw[List.drop_take,List.drop_drop]at this;have t5:=congrArg (List.take 5) this;rw[List.take_take]at t5;exact t5
 have wN:0+(i:Int).toNat*10+1+5<=cs.length:=by rw[c_,zw];omega
 have okx:=(m7 x (zc hx)).x.keep (h':=g.new (.cells x.x.V false)) (by have:=og.1;simp;omega) fun j o hj ho=>by rw[jad (zr hj og.1),og.2 j hj,ho]
 have Ca:jof (g.new (.cells x.x.V false)) (.slice (some (g.nx,0)) 1 (.fix 1)) [x.x]:=⟨_,.fix 1,rfl,fun _=>⟨fun y hy=>by rw[List.mem_singleton.1 hy];exact okx,fun _=>⟨g.nx,x.x.V,false,rfl,Nat.lt_succ_self _,jac _,rfl,fun j y hy=>by
  have hj:j<1:=(List.getElem?_eq_some_iff.1 hy).1;obtain rfl:j=0:=by omega
  cases hy;rfl⟩⟩⟩
 obtain⟨gv,e1,hg⟩:=jqq Z (d:=d-1) om Ca;have a8:(i:Int)+1=((i+1:Nat):Int):=by omega
 have og':Old h (g.new (.cells x.x.V false)):=og.new;have wg':(∀j,h.nx<=j->h.get j=none) -> ∀j,(g.new (.cells x.x.V false)).nx<=j->(g.new (.cells x.x.V false)).get j=none:=fun hw j hj=>by
  have hj:g.nx+1<=j:=hj;rw[H.get_new,zC om,wg hw j om]
 clear m7 dC hc jB Ca okx;obtain⟨xv,iO⟩:∃xv,xv=x.x.V:=⟨_,rfl⟩
 have qE:xv.length=5:=by rw[iO];rfl
 rw[<- iO]at h5 e1 og' wg';clear iO;rcases hg with rfl|⟨rfl,hf⟩
 .refine Ga ?_;refine zcw rfl gO wN ?_;rw[h5];refine Ops.bslice1 rfl rfl qE rfl ?_;refine Ga ?_;exact⟨og',.inl rfl,wg'⟩
 .have jH:∀j y,j<i+1->L[j]?=some y->y.x.D.length<=300:=fun j y hji hy=>by
   rcases Nat.lt_succ_iff_lt_or_eq.1 hji with h|rfl
   .exact hj j y h hy
   .rw[hx]at hy;cases hy;exact hf.2 x.x (List.mem_singleton.2 rfl)
  clear hj hf;refine Ga ?_;refine zcw rfl gO wN ?_;rw[h5];refine Ops.bslice1 rfl rfl qE rfl ?_;refine Ga ?_;rw[a8];exact ih (L.length-(i+1)) om _ _ ⟨i+1,rfl,by omega,rfl,jH,og',wg'⟩
end
structure II(h0 g:H)(p w s rw sb rs D E:Nat)(bs:Option Nat)(ow:Nat->Nat)(ro:Nat->Prop)(st:St)(i:Nat)(L1 L2:List SpX)(o:List Int)(fr fw:Nat->Bool)(nf:Int):Prop where
 b:BB g p w s rw ow ro (fun j=>j<h0.nx) st st
 so:StOk st i
 W:SW g ow ro (fun j=>j<h0.nx) p sb bs (fun z=>z≠rs/\z≠D/\z≠E) L1 o
 T:SD g ow ro (fun j=>j<h0.nx) p rs (fun z=>¬(z=sb\/bs=some z)/\z≠D/\z≠E) L2 o
 sp:L1.map SpX.sp=L2.map SpX.sp
 few:∀x∈L1.map SpX.sp,x.few
 len:L1.length<=2000
 hD:g.get D=some (.cells (idw w fr fw nf) false)
 hE:g.get E=some (.cells (idw rw fr fw nf) false)
 oD:Own g ow ro (fun j=>j<h0.nx) p D
 oE:Own g ow ro (fun j=>j<h0.nx) p E
 nD:¬(D=sb\/bs=some D)
 nE:¬(E=sb\/bs=some E)
 nR:¬(rs=sb\/bs=some rs)
 nd:D≠rs/\E≠rs/\D≠E
 lb:∀z,(z=sb\/bs=some z)\/z=rs\/z=D\/z=E->h0.nx<=z
 old:Old h0 g
abbrev jnN(sb rs D E:Nat)(bs:Option Nat)(z:Nat):Prop:=(z=sb\/bs=some z)\/z=rs\/z=D\/z=E
theorem Old.fs{h h0 g':H}{p w s rw:Nat}{ow ow':Nat->Nat}{ro ro' S:Nat->Prop}{a r:St}(o:Old h0 h)(b:BB h p w s rw ow ro (fun j=>j<h0.nx) a r)(f:Fs h g' ow ro ow' ro' S)(hS:∀z,S z->h0.nx<=z):Old h0 g':=
 ⟨zA o.1 f.ch.nx,fun j hj=>by rw[f.ch.get j (zr hj o.1) fun e=>e.elim (fun e=>e (b.sep j (.inr hj))) fun e=>e.elim (b.ap hj) fun e=>by have:=hS j e;omega,o.2 j hj]⟩
theorem BB.put{h h':H}{p w s rw z:Nat}{ow:Nat->Nat}{ro dat:Nat->Prop}{a r:St}(b:BB h p w s rw ow ro dat a r)(o:Own h ow ro dat p z)(c:Ch (fun j=>j=z) h h'):BB h' p w s rw ow ro dat a r:=
 b.off c.nx fun j hj hk=>c.get j hj fun e=>by
  subst e;rcases hk with hk|hk|hk|hk
  .exact hk o.o0
  .exact o.r0 hk
  .exact o.d0 hk
  .exact o.ne hk
theorem Fs.put{h h':H}{z:Nat}{ow:Nat->Nat}{ro:Nat->Prop}(c:Ch (fun j=>j=z) h h'):Fs h h' ow ro ow ro (fun j=>j=z):=⟨c.weaken fun _ _ e=>.inr (.inr e),fun _ _=>rfl,fun _ _=>Iff.rfl⟩
section
variable{h0 g g':H}{p w s rw sb rs D E i i':Nat}{bs:Option Nat}{ow ow':Nat->Nat}{ro ro' S:Nat->Prop}{st st':St}{L1 L2:List SpX}{o:List Int}{fr fw fr' fw':Nat->Bool}{nf nf':Int}
theorem II.fs(a:II h0 g p w s rw sb rs D E bs ow ro st i L1 L2 o fr fw nf)(b':BB g' p w s rw ow' ro' (fun j=>j<h0.nx) st' st')(so':StOk st' i')(f:Fs g g' ow ro ow' ro' S)(hS:∀z,S z->z=D\/z=E)(Yg:g'.get D=some (.cells (idw w fr' fw' nf') false))(gR:g'.get E=some (.cells (idw rw fr' fw' nf') false)) :
  II h0 g' p w s rw sb rs D E bs ow' ro' st' i' L1 L2 o fr' fw' nf' where
 b:=b'
 so:=so'
 W:=a.W.fs f (fun e=>(hS _ e).elim (fun e=>a.nD (.inl e.symm)) fun e=>a.nE (.inl e.symm)) (fun z hz e=>(hS _ e).elim (fun e=>a.nD (.inr (e ▸ hz))) fun e=>a.nE (.inr (e ▸ hz))) fun z hz e=>(hS _ e).elim hz.2.1 hz.2.2
 T:=a.T.fs a.b f (fun e=>(hS _ e).elim (fun e=>a.nd.1 e.symm) fun e=>a.nd.2.1 e.symm) (fun z hz e=>(hS _ e).elim (fun e=>by have hz:z<h0.nx:=hz;have:=a.lb z (.inr (.inr (.inl e)));omega) fun e=>by have hz:z<h0.nx:=hz;have:=a.lb z (.inr (.inr (.inr e)));omega) fun z hz e=>(hS _ e).elim hz.2.1 hz.2.2
 sp:=a.sp
 few:=a.few
 len:=a.len
 hD:=Yg
 hE:=gR
 oD:=a.oD.fs f
 oE:=a.oE.fs f
 nD:=a.nD
 nE:=a.nE
 nR:=a.nR
 nd:=a.nd
 lb:=a.lb
 old:=a.old.fs a.b f fun z e=>a.lb z (.inr (.inr (hS z e)))
theorem II.off(a:II h0 g p w s rw sb rs D E bs ow ro st i L1 L2 o fr fw nf)(b':BB g' p w s rw ow' ro' (fun j=>j<h0.nx) st' st')(so':StOk st' i')(f:Fs g g' ow ro ow' ro' (fun _=>False)):II h0 g' p w s rw sb rs D E bs ow' ro' st' i' L1 L2 o fr fw nf:=
 a.fs b' so' f (fun _ e=>e.elim) (by rw[f.get a.oD fun e=>e,a.hD]) (by rw[f.get a.oE fun e=>e,a.hE])
theorem II.old'(a:II h0 g p w s rw sb rs D E bs ow ro st i L1 L2 o fr fw nf)(q:Old g g'):II h0 g' p w s rw sb rs D E bs ow ro st i L1 L2 o fr fw nf:=a.off (a.b.old q) a.so (Fs.old q)
end
section
variable{cl:Nat->Call}(Z:Sem cl){h0 g:H}{p w s rw sb rs D E i d N:Nat}{bs:Option Nat}{ow:Nat->Nat}{ro:Nat->Prop}{st:St}{L1 L2:List SpX}{o:List Int}{fr fw:Nat->Bool}{nf fd n wt:Int}{fv:Bool}
include Z
theorem jqe{x:OpX}(hd:16<=d)(a:II h0 g p w s rw sb rs D E bs ow ro st i L1 L2 o fr fw nf)(hi:i<=2000)(hx:OpOk h0 x)(hl:x.D.length<=300) :
  ∃g' ow' ro' st',cl d (.fn 8) [.p p 0,.agg x.V] g=some (.bool true,g')/\II h0 g' p w s rw sb rs D E bs ow' ro' st' (i+1) L1 L2 o fr fw nf/\Fs g g' ow ro ow' ro' (fun _=>False):=by
 have hD:Dat g (fun j=>j<h0.nx) x.dv x.D:=by
  have:=hx.dat hl;exact⟨this.v.keep2 a.old.1 fun hn z hz=>a.old.2 z (this.z hn z hz),this.z,hl⟩
 obtain⟨g',ow',ro',e,b',f⟩:=jqr Z (k:=x.k) (a:=x.a) (n:=x.n) (t:=x.t) hd a.b a.so hi hD hx.t0 hx.t1;have f':=Fs.of_fm (S:=fun _=>False) f;exact⟨g',ow',ro',_,e,a.off b' (jna a.so hx.t0 hx.t1) f',f'⟩
theorem ii_set(hd:6<=d)(a:II h0 g p w s rw sb rs D E bs ow ro st i L1 L2 o fr fw nf)(n0: -9223372036854775808<=n)(n1:n<=9223372036854775807) :
  ∃e g1 g',cl d (.fn 12) [.p D 0,.i fd,.i n] g=some (.i e,g1)/\cl d (.fn 13) [.p E 0,.i fd,.i n] g1=some (.i e,g')/\Fs g g1 ow ro ow ro (fun z=>z=D)/\Fs g g' ow ro ow ro (fun z=>z=D\/z=E)/\II h0 g' p w s rw sb rs D E bs ow ro st i L1 L2 o (jgB (rdyS st.ws fd).op fd n fr) (jgA (rdyS st.ws fd).op fd n fw) nf:=by
 obtain⟨_,g1,e1,rfl,c1,q1⟩:=pi_Set Z (d:=d) (fd:=fd) om n0 n1 a.b a.so.K.ok a.hD a.oD.lt;have f1:=Fs.put (ow:=ow) (ro:=ro) c1;have b1:=a.b.put a.oD c1;have oE1:=a.oE.fs f1;obtain⟨_,g2,e2,rfl,c2,q2⟩:=di_Set Z (d:=d) (fd:=fd) (n:=n) om b1 a.so.K.ok (by rw[f1.get a.oE fun e=>a.nd.2.2 e.symm,a.hE]) oE1.lt;have f2:=Fs.put (ow:=ow) (ro:=ro) c2;have ff:Fs g g2 ow ro ow ro (fun z=>z=D\/z=E):=⟨c1.weaken (fun _ _ e=>.inr (.inr (.inl e))) |>.trans_new c2 fun _ _ e=>.inr (.inr (.inr e)),fun _ _=>rfl,fun _ _=>Iff.rfl⟩
 exact⟨_,g1,g2,e1,e2,f1,ff,a.fs (b1.put oE1 c2) a.so ff (fun _ e=>e) (by rw[f2.get (a.oD.fs f1) fun e=>a.nd.2.2 e,q1]) q2⟩
theorem ii_notice(hd:6<=d)(a:II h0 g p w s rw sb rs D E bs ow ro st i L1 L2 o fr fw nf) :
  ∃e g1 g' nf',cl d (.fn 15) [.p D 0,.i fd] g=some (.i e,g1)/\cl d (.fn 16) [.p E 0,.i fd] g1=some (.i e,g')/\Fs g g1 ow ro ow ro (fun z=>z=D)/\Fs g g' ow ro ow ro (fun z=>z=D\/z=E)/\II h0 g' p w s rw sb rs D E bs ow ro st i L1 L2 o fr fw nf':=by
 obtain⟨g1,e1,c1,q1⟩:=pi_Notice Z (d:=d) (fd:=fd) om a.b a.so.K.ok a.hD a.oD.lt;have f1:=Fs.put (ow:=ow) (ro:=ro) c1;have b1:=a.b.put a.oD c1;have oE1:=a.oE.fs f1;obtain⟨g2,e2,c2,q2⟩:=jly Z (d:=d) (fd:=fd) om b1 a.so.K.ok (by rw[f1.get a.oE fun e=>a.nd.2.2 e.symm,a.hE]) oE1.lt;have f2:=Fs.put (ow:=ow) (ro:=ro) c2;have ff:Fs g g2 ow ro ow ro (fun z=>z=D\/z=E):=⟨c1.weaken (fun _ _ e=>.inr (.inr (.inl e))) |>.trans_new c2 fun _ _ e=>.inr (.inr (.inr e)),fun _ _=>rfl,fun _ _=>Iff.rfl⟩
 exact⟨_,g1,g2,_,e1,e2,f1,ff,a.fs (b1.put oE1 c2) a.so ff (fun _ e=>e) (by rw[f2.get (a.oD.fs f1) fun e=>a.nd.2.2 e,q1]) q2⟩
theorem ii_forget(hd:2<=d)(a:II h0 g p w s rw sb rs D E bs ow ro st i L1 L2 o fr fw nf) :
  ∃g1,cl d (.fn 14) [.p D 0,.i fd] g=some (.tup [],g1)/\Fs g g1 ow ro ow ro (fun z=>z=D) /\
   (isFd fd->g1.get E=some (.cells (idw rw fr fw nf) false)/\II h0 (g1.set E (.cells ((idw rw fr fw nf).set (0+1+fd.toNat*1) (.i 0)) false)) p w s rw sb rs D E bs ow ro st i L1 L2 o (setF fr fd.toNat false) (setF fw fd.toNat false) nf/\Fs g (g1.set E (.cells ((idw rw fr fw nf).set (0+1+fd.toNat*1) (.i 0)) false)) ow ro ow ro (fun z=>z=D\/z=E)) /\
   (¬isFd fd->II h0 g1 p w s rw sb rs D E bs ow ro st i L1 L2 o fr fw nf):=by
 obtain⟨g1,e1,c1,q1⟩:=pi_Forget Z (d:=d) (fd:=fd) hd a.hD;have f1:=Fs.put (ow:=ow) (ro:=ro) c1;have b1:=a.b.put a.oD c1;have oE1:=a.oE.fs f1;have jO:g1.get E=some (.cells (idw rw fr fw nf) false):=by rw[f1.get a.oE fun e=>a.nd.2.2 e.symm,a.hE]
 refine⟨g1,e1,f1,fun hf=>?_,fun hf=>?_⟩
 .rw[zD hf,zD hf]at q1;have c2:Ch (fun j=>j=E) g1 (g1.set E (.cells ((idw rw fr fw nf).set (0+1+fd.toNat*1) (.i 0)) false)):=Zs rfl;have ff:Fs g (g1.set E (.cells ((idw rw fr fw nf).set (0+1+fd.toNat*1) (.i 0)) false)) ow ro ow ro (fun z=>z=D\/z=E):=⟨c1.weaken (fun _ _ e=>.inr (.inr (.inl e))) |>.trans_new c2 fun _ _ e=>.inr (.inr (.inr e)),fun _ _=>rfl,fun _ _=>Iff.rfl⟩
  exact⟨jO,a.fs (b1.put oE1 c2) a.so ff (fun _ e=>e) (by rw[jaa a.nd.2.2,q1]) (by rw[jab,jmg (i:=fd.toNat) om om,<- jmf];rfl),ff⟩
 .rw[zC hf,zC hf]at q1;exact a.fs b1 a.so f1 (fun _ e=>.inl e) q1 jO
end
theorem dispS_len{fr fw:Nat->Bool}{nf:Int}{R:Int×List Sp×List Int×St}:(jiU fr fw nf R).1.length<=1000/\(jiU fr fw nf R).2.1.length<=1000:=by
 unfold jiU;split
 .exact⟨zY _,zY _⟩
 .refine⟨zA (jhB fr fw R.2.2.2.ws 96) (by decide),?_⟩;dsimp only;split
  .have:=jga R.2.2.2.tb.pd 31;show (jbm R.2.2.2.tb.pd 31).length<=1000;omega
  .exact zY _
section
variable{cl:Nat->Call}(Z:Sem cl){h0 g:H}{p w s rw sb rs D E i d N:Nat}{bs:Option Nat}{ow:Nat->Nat}{ro:Nat->Prop}{st:St}{L1 L2:List SpX}{o:List Int}{fr fw:Nat->Bool}{nf fd n wt:Int}{fv:Bool}
include Z
theorem ii_disp(hd:18<=d)(a:II h0 g p w s rw sb rs D E bs ow ro st i L1 L2 o fr fw nf)(hi:i+sumM L1<=N)(hN:N<=800000)(w0:0<=wt)(w1:wt<=18446744073709551615) :
  ∃l c k g1 l2 c2 g' y7 ow' ro' st' i' L1' L2' o' PL CL,cl d (.fn 17) [.p D 0,.p sb 0,.int .u64 wt,.bool fv] g=some (.tup [l,c,.i k,.i 0],g1)/\cl d (.fn 18) [.p E 0,.p rs 0,.int .u64 wt,.bool fv] g1=some (.tup [l2,c2,.i k],g') /\
   (Row g.nx g' 2 l (List.length PL) (jat PL)/\Row g.nx g' 2 l2 PL.length (jat PL)/\PL.length<=1000)/\(Row g.nx g' 2 c (List.length CL) (jat CL)/\Row g.nx g' 2 c2 CL.length (jat CL)/\CL.length<=1000) /\
   II h0 g' p w s rw sb rs D E bs ow' ro' st' i' L1' L2' o' fr fw nf/\i'+sumM L1'<=N+1/\Fs g g1 ow ro y7 ro (jnN sb rs D E bs)/\Fs g g' ow ro ow' ro' (jnN sb rs D E bs):=by
 obtain⟨_,g1,e1,l,c,y7,L1',i1,rfl,r1,r2,z1,s1,b1,iB,W1,f1,dL⟩:=jlW Z (N:=N) (fv:=fv) (wt:=wt) hd a.b a.so a.W a.hD a.oD a.nD hi hN a.len w0 w1;have T1:=a.T.fs a.b f1 a.nR (fun z hz e=>by have hz:z<h0.nx:=hz;have:=a.lb z (.inl e);omega) fun z hz=>hz.1;have oE1:=a.oE.fs f1;have oD1:=a.oD.fs f1;have sN:=jlI a.sp;have iY:L2.length=L1.length:=by have:=congrArg List.length a.sp;simpa using this.symm
 have j4:=a.len;obtain⟨_,g2,e2,l2,c2,mH,L2',i2,rfl,q1,q2,s2,b2,cE,T2,f2,Kl⟩:=jml Z (d:=d) (N:=N) (fv:=fv) (wt:=wt) (nf:=nf) (fr:=fr) (fw:=fw) (D:=E) om b1 a.so T1 (by rw[f1.get a.oE a.nE,a.hE]) oE1 a.nd.2.1 om hN om (fun z hz=>⟨fun e=>e.elim (fun e=>by have:=a.W.own.lt;have:=f1.ch.nx;omega) fun e=>by have:=(a.W.bown z e).1.lt;have:=f1.ch.nx;omega,by have:=oD1.lt;omega,by have:=oE1.lt;omega⟩) w0 w1;rw[<- a.sp]at e2 s2 b2 cE T2 q1 q2;have wB:=jnv (rd:=dueI fr fw nf) (fv:=fv) (wt:=wt) (o:=o) (st:=st) (P:=Sp.few) (fun x t hx=>hx) a.few;generalize jbw (dueI fr fw nf) fv (L1.map SpX.sp) wt o st=R at e1 e2 s1 s2 r1 r2 q1 q2 b1 b2 iB cE W1 T2 wB;have hl:=dispS_len (fr:=fr) (fw:=fw) (nf:=nf) (R:=R);generalize jiU fr fw nf R=Q at r1 r2 q1 q2 b1 b2 iB cE hl;have kp:∀z,g.nx<=z->z<g1.nx->(l.at?=some z\/c.at?=some z)->g2.get z=g1.get z:=fun z h1 h2 e=>f2.ch.get z h2 fun k=>by
  rcases k with k|k|k
  .exact k (z1 z h1 e)
  .have:=a.b.ro_lt (.inl k);omega
  .have k:z=rs:=k;have:=a.T.own.lt;omega
 have Ah:=r1.keep f2.ch.nx fun z hz=>kp z (r1.at_ge hz).1 (r1.at_ge hz).2 (.inl hz);have Bh:=r2.keep f2.ch.nx fun z hz=>kp z (r2.at_ge hz).1 (r2.at_ge hz).2 (.inr hz);have x1:=f1.ch.nx;have fa:Fs g g1 ow ro y7 ro (jnN sb rs D E bs):=⟨f1.ch.weaken fun _ _ e=>e.imp id fun e=>e.imp id fun e=>.inl e,f1.tag,f1.rtag⟩
 have fb:Fs g g2 ow ro y7 mH (jnN sb rs D E bs):=fa.trans f2 fun _ _ e=>.inr (.inl e);have Dh:=a.old.fs a.b fa fun z e=>a.lb z e;have h1:=wB.2;have h2:=congrArg List.length s1;simp only[List.length_map]at h1 h2;refine⟨l,c,_,g1,l2,c2,g2,y7,y7,mH,Q.2.2,i1+1,L1',L2',_,Q.1,Q.2.1,e1,e2,⟨Ah,(jn0 q1 x1),hl.1⟩,⟨Bh,(jn0 q2 x1),hl.2⟩,⟨b2,iB,W1.fs f2 (fun e=>a.nR (.inl (show sb=rs from e).symm)) (fun z hz e=>a.nR (.inr ((show z=rs from e) ▸ hz))) fun z hz=>hz.1,T2,by rw[s1,s2],by rw[s1];exact wB.1,by omega,?_,?_,oD1.fs f2,oE1.fs f2,a.nD,a.nE,a.nR,a.nd,a.lb,Dh.fs b1 f2 fun z e=>a.lb z (.inr (.inl e))⟩,by omega,fa,fb⟩
 .rw[f2.get oD1 a.nd.1,f1.get a.oD a.nD,a.hD]
 .rw[f2.get oE1 a.nd.2.1,f1.get a.oE a.nE,a.hE]
end
section
variable{cl:Nat->Call}(Z:Sem cl){h0 g:H}{p w s rw sb rs D E i d M yb ob:Nat}{bs:Option Nat}{ow:Nat->Nat}{ro:Nat->Prop}{st:St}{L1 L2:List SpX}{o:List Int}{fr fw:Nat->Bool}{nf len k:Int}{X:OdX}{K:List Fr}{Q:Post}
include Z
theorem id_case(hd:19<=d)(a:II h0 g p w s rw sb rs D E bs ow ro st i L1 L2 o fr fw nf)(hi:i+sumM L1<=M)(hM:M<=1900)(hX:OdOk h0 X)(hf:X.x.D.length<=300)(vE:g.get ob=some (.cells X.V false))(oob:Own g ow ro (fun j=>j<h0.nx) p ob)(nob:¬jnN sb rs D E bs ob)
  (hK:∀(sbe:Env) g' ow' ro' st' i' L1' L2' o' fr' fw' nf',II h0 g' p w s rw sb rs D E bs ow' ro' st' i' L1' L2' o' fr' fw' nf'->i'+sumM L1'<=M+1->ob<g'.nx/\g'.get ob=some (.cells X.V false) ->
   Run (cl d) fuel c3_15 K ((3,.p yb 0)::(5,.p p 0)::(7,.p D 0)::(9,.p sb 0)::(11,.p rs 0)::(13,.p E 0)::(15,.p ob 0)::(16,.bool true)::(17,.i 0)::(106,.i len)::(107,.i k)::sbe) g' Q) :
  Run (cl d) fuel c3_16 K [(3,.p yb 0),(5,.p p 0),(7,.p D 0),(9,.p sb 0),(11,.p rs 0),(13,.p E 0),(15,.p ob 0),(16,.bool true),(17,.i 0),(106,.i len),(107,.i k)] g Q:=by
 obtain⟨C15,eO⟩:∃C,C=c3_15:=⟨_,rfl⟩
 rw[<- eO]at hK;simp only[c3_16,<- eO,yC];clear eO;have j0:X.V[0]?=some (.i X.k):=rfl;have j6:X.V[0+6]?=some (.i X.fd):=rfl;have j7:X.V[0+7]?=some (.i X.n):=rfl;have j8:X.V[0+8]?=some (.int .u64 X.t):=rfl;have j9:X.V[0+9]?=some (.bool X.b):=rfl;have j1:(X.V.drop (0+1)).take 5=X.x.V:=rfl;have jl:X.V.length=10:=rfl;have n0:=hX.n0;have n1:=hX.n1;have t0:=hX.t0;have t1:=hX.t1;have kC:=hX.x;obtain⟨kd,x,fd,n,t,fv⟩:=X;dsimp only at j0 j6 j7 j8 j9 j1 n0 n1 t0 t1 kC hf;generalize OdX.V ⟨kd,x,fd,n,t,fv⟩=XV at vE hK j0 j6 j7 j8 j9 j1 jl;clear hX;by_cases k0:kd=0
 .subst k0;obtain⟨g',ow',ro',st',e1,a1,f1⟩:=jqe Z (d:=d) (x:=x) om a om kC hf;have tM:g'.get ob=some (.cells XV false):=by rw[f1.get oob fun e=>e,vE]
  have T:=fun sbe=>hK sbe _ _ _ _ _ _ _ _ _ _ _ a1 om ⟨zr oob.lt f1.ch.nx,tM⟩;obtain⟨xv,iO⟩:∃xv,xv=x.V:=⟨_,rfl⟩
  rw[<- iO]at j1 e1;clear a a1 hK kC iO f1 oob;refine Ga ?_;refine zcw rfl vE om ?_;rw[j1];refine Ga ?_;exact T _
 by_cases k1:kd=1
 .subst k1;obtain⟨e,g1,g',e1,e2,f1,f2,a1⟩:=ii_set Z (d:=d) (fd:=fd) om a n0 n1;have tM:g1.get ob=some (.cells XV false):=by rw[f1.get oob fun e=>nob (.inr (.inr (.inl e))),vE]
  have bJ:g'.get ob=some (.cells XV false):=by rw[f2.get oob fun e=>nob (.inr (.inr e)),vE]
  have T:=fun sbe=>hK sbe _ _ _ _ _ _ _ _ _ _ _ a1 om ⟨zr oob.lt f2.ch.nx,bJ⟩;clear a a1 hK kC f1 f2 oob;refine Ga ?_;rw[zG (rfl:e=e)];exact T _
 by_cases k3:kd=3
 .subst k3;obtain⟨e,g1,g',nf',e1,e2,f1,f2,a1⟩:=ii_notice Z (d:=d) (fd:=fd) om a;have tM:g1.get ob=some (.cells XV false):=by rw[f1.get oob fun e=>nob (.inr (.inr (.inl e))),vE]
  have bJ:g'.get ob=some (.cells XV false):=by rw[f2.get oob fun e=>nob (.inr (.inr e)),vE]
  have T:=fun sbe=>hK sbe _ _ _ _ _ _ _ _ _ _ _ a1 om ⟨zr oob.lt f2.ch.nx,bJ⟩;clear a a1 hK kC f1 f2 oob;refine Ga ?_;rw[zG (rfl:e=e)];exact T _
 by_cases k4:kd=4
 .subst k4;obtain⟨l,c,kk,g1,l2,c2,g',y7,ow',ro',st',i',L1',L2',o',PL,CL,e1,e2,⟨r1,r2,h1⟩,⟨r3,r4,h3⟩,a1,hs,f1,f2⟩:=ii_disp Z (d:=d) (N:=M) (fv:=fv) (wt:=t) om a hi om t0 t1;have tM:g1.get ob=some (.cells XV false):=by rw[f1.get oob nob,vE]
  have bJ:g'.get ob=some (.cells XV false):=by rw[f2.get oob nob,vE]
  have T:=fun sbe=>hK sbe _ _ _ _ _ _ _ _ _ _ _ a1 hs ⟨zr oob.lt f2.ch.nx,bJ⟩;have e3:=jnd Z (d:=d) (f:=19) (.inl rfl) om r1 r2 h1;have e4:=jnd Z (d:=d) (f:=20) (.inr rfl) om r3 r4 h3;have o1:=r1.one;have o2:=r2.one;have o3:=r3.one;have o4:=r4.one;clear a a1 hK kC f1 f2 oob r1 r2 r3 r4;refine Ga ?_;rw[zG (rfl:kk=kk)];exact T _
 by_cases k25:kd=2\/kd=5
 case neg=>
  have k2:¬kd=2:=fun e=>k25 (.inl e);have k5:¬kd=5:=fun e=>k25 (.inr e);have T:=fun sbe=>hK sbe _ _ _ _ _ _ _ _ _ _ _ a om ⟨oob.lt,vE⟩;clear a hK kC oob k25;refine Ga ?_;exact T _
 obtain⟨g1,e1,f1,q1,q2⟩:=ii_forget Z (d:=d) (fd:=fd) om a;have tM:g1.get ob=some (.cells XV false):=by rw[f1.get oob fun e=>nob (.inr (.inr (.inl e))),vE]
 have yQ:=oob.fs f1;have Eh:(idw rw fr fw nf).length=98:=jek;by_cases uN:isFd fd
 .obtain⟨jO,a2,f2⟩:=q1 uN;have bJ:(g1.set E (.cells ((idw rw fr fw nf).set (0+1+fd.toNat*1) (.i 0)) false)).get ob=some (.cells XV false):=by rw[f2.get oob fun e=>nob (.inr (.inr e)),vE]
  have hl:0+1+fd.toNat*1<(idw rw fr fw nf).length:=by rw[jek];omega
  obtain⟨f0,bT⟩:=uN;have Fh:fd<96:=by omega
  have cT:=oob.fs f2;have T2:=fun sbe=>hK sbe _ _ _ _ _ _ _ _ _ _ _ a2 om ⟨cT.lt,bJ⟩;obtain⟨g3,mG,tE,qI,e3,a3,f3⟩:=jqe Z (d:=d) (x:=⟨8,fd,0,0,.nils,[]⟩) om a2 om ⟨⟨none,.fix 0,rfl,fun _=>⟨fun _=>⟨rfl,rfl⟩,zq _,fun e=>zJ rfl e⟩⟩,Int.le_refl _,Int.le_of_lt (by show (0:Int)<_;decide)⟩ (zY _);have tW:g3.get ob=some (.cells XV false):=by rw[f3.get cT fun e=>e,bJ]
  have T3:=fun sbe=>hK sbe _ _ _ _ _ _ _ _ _ _ _ a3 om ⟨zr cT.lt f3.ch.nx,tW⟩;have e3:cl d (.fn 8) [.p p 0,.agg [.i 8,.i fd,.i 0,.int .u64 0,.nils]] (g1.set E (.cells ((idw rw fr fw nf).set (0+1+fd.toNat*1) (.i 0)) false))=some (.bool true,g3):=e3;clear a a2 a3 hK kC f1 f2 f3 oob yQ cT q1 q2;generalize idw rw fr fw nf=IL at jO hl Eh T2 e3 bJ;generalize hG:g1.set E (.cells (IL.set (0+1+fd.toNat*1) (.i 0)) false)=G at T2 e3 bJ;rcases k25 with rfl|rfl
  .refine Ga ?_;refine zcs rfl rfl rfl jO hl ?_;rw[hG];refine Ga ?_;exact T2 _
  .refine Ga ?_;refine zcs rfl rfl rfl jO hl ?_;rw[hG];refine Ga ?_;exact T3 _
 .have a2:=q2 uN;have T2:=fun sbe=>hK sbe _ _ _ _ _ _ _ _ _ _ _ a2 om ⟨yQ.lt,tM⟩;obtain⟨g3,mG,tE,qI,e3,a3,f3⟩:=jqe Z (d:=d) (x:=⟨8,fd,0,0,.nils,[]⟩) om a2 om ⟨⟨none,.fix 0,rfl,fun _=>⟨fun _=>⟨rfl,rfl⟩,zq _,fun e=>zJ rfl e⟩⟩,Int.le_refl _,Int.le_of_lt (by show (0:Int)<_;decide)⟩ (zY _);have tW:g3.get ob=some (.cells XV false):=by rw[f3.get yQ fun e=>e,tM]
  have T3:=fun sbe=>hK sbe _ _ _ _ _ _ _ _ _ _ _ a3 om ⟨zr yQ.lt f3.ch.nx,tW⟩;have e3:cl d (.fn 8) [.p p 0,.agg [.i 8,.i fd,.i 0,.int .u64 0,.nils]] g1=some (.bool true,g3):=e3;clear a a2 a3 hK kC f1 f3 oob yQ q1 q2;rcases k25 with rfl|rfl
  all_goals
   by_cases f0:0<=fd
   .have bT:¬fd<=95:=fun e=>uN ⟨f0,e⟩
    repeat' (first|refine qxy ?_|(refine zsp ?_ ?_<;>intro _)|fail)
    first
     |exact T2 _
     |exact T3 _
   .repeat' (first|refine qxy ?_|(refine zsp ?_ ?_<;>intro _)|fail)
    first
     |exact T2 _
     |exact T3 _
end
section
variable{cl:Nat->Call}(Z:Sem cl){h0 g:H}{p w s rw sb rs D E i d M yb ob:Nat}{bs:Option Nat}{ow:Nat->Nat}{ro:Nat->Prop}{st:St}{L1 L2:List SpX}{o:List Int}{fr fw:Nat->Bool}{nf len k:Int}{X:OdX}{K:List Fr}{Q:Post}
include Z
theorem id_tail{sbe:Env}(hd:12<=d)(P:Pw h0)(a:II h0 g p w s rw sb rs D E bs ow ro st i L1 L2 o fr fw nf)(hi:i<=100000)(vE:ob<g.nx/\g.get ob=some (.cells X.V false))
  (hK:∀g',II h0 g' p w s rw sb rs D E bs ow ro st i L1 L2 o fr fw nf->End (cl d) fuel K .normal [(3,.p yb 0),(5,.p p 0),(7,.p D 0),(9,.p sb 0),(11,.p rs 0),(13,.p E 0),(106,.i len),(107,.i k),(262,.bool false)] g' Q) :
  Run (cl d) fuel c3_15 K ((3,.p yb 0)::(5,.p p 0)::(7,.p D 0)::(9,.p sb 0)::(11,.p rs 0)::(13,.p E 0)::(15,.p ob 0)::(16,.bool true)::(17,.i 0)::(106,.i len)::(107,.i k)::sbe) g Q:=by
 have j6:X.V[0+6]?=some (.i X.fd):=rfl;obtain⟨vL,l4,g4,e4,dT,A4,S4,o4⟩:=wm_Left Z (d:=d) om a.W a.len;have a4:=a.old' o4;have e5:=pi_Wants Z (d:=d) (fd:=X.fd) om a4.hD;obtain⟨g6,e6,o6⟩:=al_ok Z (d:=d) om (P.old a4.old) a4.b a4.so hi;have a6:=a4.old' o6;obtain⟨v6,Ll,r6,x6,y6,z6,_⟩:=id a6.T.ex;obtain⟨g7,e7,o7⟩:=rm_Same Z (d:=d) om (A4.old o6) (fun x hx=>(S4 x hx).old o6) x6 y6 (by rw[dT,a.sp]) (by rw[dT];exact a.few) (by
  have:=congrArg List.length dT;simp only[List.length_map]at this;have:=a.len;omega)
 have T:=hK _ (a6.old' o7);have hE:=a.hE;have Qg:=a4.hD;have hf:∀z:Int,z.toNat<96->(idw rw fr fw nf)[0+1+z.toNat*1]?=some (.i (jlD fr fw z.toNat)):=fun z h1=>jqg h1 om;have Gh:g4.get ob=some (.cells X.V false):=by rw[o4.2 ob vE.1,vE.2]
 replace vE:=vE.2;generalize X.V=XV at vE j6 Gh;generalize X.fd=fd at j6 e5;replace hf:=hf fd;generalize jlD fr fw fd.toNat=wv at e5 hf;generalize idw rw fr fw nf=IL at hE hf;clear a a4 a6 hK x6 y6 z6 A4 S4 dT P;by_cases f0:0<=fd
 case neg=>
  have hn:¬isFd fd:=fun e=>f0 e.1;rw[zC hn]at e5;have nw:¬(0:Int)≠0:=fun e=>e rfl;refine Ga ?_;exact T
 by_cases bT:fd<=95
 case neg=>
  have hn:¬isFd fd:=fun e=>bT e.2;rw[zC hn]at e5;have nw:¬(0:Int)≠0:=fun e=>e rfl;refine Ga ?_;exact T
 rw[zD ⟨f0,bT⟩]at e5;have Fh:fd<96:=by omega
 have hx:=hf om;have nw:¬wv≠wv:=fun e=>e rfl;clear hf;refine Ga ?_;exact T
theorem id_loop{L:List OdX}{vst lv:V}{sbe:Env}(hd:20<=d)(P:Pw h0)(a:II h0 g p w s rw sb rs D E bs ow ro st i L1 L2 o fr fw nf)(hi:i+sumM L1<=700)(hL:jl5 h0 lv L)(j4:L.length<=100)(pH:∀x∈L,x.x.D.length<=300)(hy:h0.get yb=some (.cells [vst,lv] false))(ly:yb<h0.nx) :
  Run (cl d) fuel c3_20 [] ((3,.p yb 0)::(5,.p p 0)::(7,.p D 0)::(8,.i 0)::(9,.p sb 0)::(11,.p rs 0)::(13,.p E 0)::sbe) g (Fin c3.res fun v _=>v = .bool true):=by
 obtain⟨ad,c,rfl,w9⟩:=hL;obtain⟨m7,dC⟩:=w9 j4;have gy:g.get yb=some (.cells [vst,.slice ad L.length c] false):=by rw[a.old.2 yb ly,hy]
 obtain⟨C18,uW⟩:∃C,C=c3_18:=⟨_,rfl⟩
 simp only[c3_20,<- uW,yB];refine Ga ?_;clear gy;refine Zq (fun m e g=>∃(k:Nat) (ow:Nat->Nat) (ro:Nat->Prop) (st:St) (i:Nat) (L1 L2:List SpX) (o:List Int) (fr fw:Nat->Bool) (nf:Int),m=L.length-k/\k<=L.length/\e=[(3,.p yb 0),(5,.p p 0),(7,.p D 0),(9,.p sb 0),(11,.p rs 0),(13,.p E 0),(106,.i (L.length:Int)),(107,.i (k:Int))]/\II h0 g p w s rw sb rs D E bs ow ro st i L1 L2 o fr fw nf/\i+sumM L1<=700+k)
  (k:=L.length) Ze ⟨0,ow,ro,st,i,L1,L2,o,fr,fw,nf,rfl,by omega,rfl,a,by omega⟩ ?_
 clear a hi;rintro _ _ g ⟨k,ow,ro,st,i,L1,L2,o,fr,fw,nf,rfl,hk,rfl,a,hi⟩ n' ih;by_cases d4:(k:Int)<L.length
 case neg=>
  subst uW;clear ih m7 dC a P pH;refine Ga ?_;rfl
 obtain⟨X,hx⟩:=jdN (l:=L) (i:=k) om;have vW:=zc hx;obtain⟨b,cs,rr,rfl,lb,hb,kI,hc⟩:=dC (by rintro rfl;simp at hx);have gy:g.get yb=some (.cells [vst,.slice (some (b,0)) L.length c] false):=by rw[a.old.2 yb ly,hy]
 have gO:g.get b=some (.cells cs rr):=by rw[a.old.2 b lb,hb]
 have jB:(cs.drop (0+(k:Int).toNat*10)).take 10=X.V:=by rw[zP,zw];exact hc k X hx
 have Hh:0+(k:Int).toNat*10+10<=cs.length:=by rw[kI,zw];omega
 have mF:(k:Int)+1=((k+1:Nat):Int):=by omega
 have m9:X.V.all V.one=true:=by
  obtain⟨_,_,e,_⟩:=(m7 X vW).x.dv;simp[OdX.V,OpX.V,opV,e,V.one]
 have o1:Old g ((g.new (.cells [.i 0,.i 0,.i 0,.i 0,.int .u64 0,.nils,.i 0,.i 0,.int .u64 0,.bool false] false)).set g.nx (.cells X.V false)):=(Zz g).new.set (zq _);have gob:((g.new (.cells [.i 0,.i 0,.i 0,.i 0,.int .u64 0,.nils,.i 0,.i 0,.int .u64 0,.bool false] false)).set g.nx (.cells X.V false)).get g.nx=some (.cells X.V false):=jab _;have lob:g.nx<((g.new (.cells [.i 0,.i 0,.i 0,.i 0,.int .u64 0,.nils,.i 0,.i 0,.int .u64 0,.bool false] false)).set g.nx (.cells X.V false)).nx:=by simp
 generalize hG:(g.new (.cells [.i 0,.i 0,.i 0,.i 0,.int .u64 0,.nils,.i 0,.i 0,.int .u64 0,.bool false] false)).set g.nx (.cells X.V false)=G at o1 gob lob;have a1:=a.old' o1;have oob:Own G ow ro (fun j=>j<h0.nx) p g.nx:=⟨lob,a.b.W.top (zq _),fun e=>by have:=a.b.ro_lt (.inl e);omega,fun e=>by have:=a.old.1;have e:g.nx<h0.nx:=e;omega,by have:=a.b.lp;omega⟩
 have nob:¬jnN sb rs D E bs g.nx:=by
  have k1:=a.W.own.lt;have k2:=a.T.own.lt;have k3:=a.oD.lt;have k4:=a.oE.lt;rintro ((e|e)|e|e|e)
  .omega
  .have:=(a.W.bown _ e).1.lt;omega
  .omega
  .omega
  .omega
 have T:∀K Q,(∀g' ow' ro' st' i' L1' L2' o' fr' fw' nf',II h0 g' p w s rw sb rs D E bs ow' ro' st' i' L1' L2' o' fr' fw' nf'->i'+sumM L1'<=700+(k+1)->End (cl d) fuel K .normal [(3,.p yb 0),(5,.p p 0),(7,.p D 0),(9,.p sb 0),(11,.p rs 0),(13,.p E 0),(106,.i (L.length:Int)),(107,.i (k:Int)),(262,.bool false)] g' Q) ->
   Run (cl d) fuel c3_16 K [(3,.p yb 0),(5,.p p 0),(7,.p D 0),(9,.p sb 0),(11,.p rs 0),(13,.p E 0),(15,.p g.nx 0),(16,.bool true),(17,.i 0),(106,.i (L.length:Int)),(107,.i (k:Int))] G Q:=fun K Q hQ=>
  id_case Z (M:=700+k) om a1 hi om (m7 X vW) (pH X vW) gob oob nob fun sbe g' ow' ro' st' i' L1' L2' o' fr' fw' nf' a' cA hob'=>id_tail Z om P a' om hob' fun g2 a2=>hQ g2 ow' ro' st' i' L1' L2' o' fr' fw' nf' a2 cA
 obtain⟨C16,Da⟩:∃C,C=c3_16:=⟨_,rfl⟩
 rw[<- Da]at T;have wW:=uW;simp only[c3_18,c3_17,<- Da,yB]at wW;clear a a1 oob nob m7 dC pH hc P o1 gob lob;rw[wW];refine Ga ?_;refine zcw rfl gO Hh ?_;rw[jB];refine zcu (ob:= .cells [.i 0,.i 0,.i 0,.i 0,.int .u64 0,.nils,.i 0,.i 0,.int .u64 0,.bool false] false) (mk:=fun b=>.p b 0) rfl rfl ?_;refine zct (o:=0) (vs:=X.V) rfl rfl rfl m9 (jac _) (zq 10) ?_;rw[show jao ([.i 0,.i 0,.i 0,.i 0,.int .u64 0,.nils,.i 0,.i 0,.int .u64 0,.bool false]:List V) 0 X.V=X.V from rfl,hG];refine Ga ?_;refine T _ _ fun g' ow' ro' st' i' L1' L2' o' fr' fw' nf' a' cA=>?_;clear T;rw[<- wW];refine Ga ?_;rw[mF];exact ih (L.length-(k+1)) om _ _ ⟨k+1,ow',ro',st',i',L1',L2',o',fr',fw',nf',rfl,by omega,rfl,a',cA⟩
end
abbrev noF:Nat->Bool:=fun _=>false
theorem jqh(q:Nat):jaF ([.ptr none]++List.replicate 97 (.i 0:V)) [(0,1,.p q 0),(97,1,.i (-1))]=some (idw q noF noF (-1)):=by kernel_rfl
section
variable{cl:Nat->Call}(Z:Sem cl){h0 g:H}{p w s rw n d yb:Nat}{ow:Nat->Nat}{ro:Nat->Prop}{st:St}
include Z
set_option maxRecDepth 100000 in
theorem pm_New(hd:1<=d)(h:H):cl d (.fn 9) [.p w 0] h=some (.tup [.p h.nx 0,.i 0],h.new (.cells (idw w noF noF (-1)) false)):=by
 refine jaj (aT Z ?_);have hf:=jqh w;generalize idw w noF noF (-1)=IL at hf ⊢;obtain⟨C,hC⟩:∃C,C=c9_0:=⟨_,rfl⟩
 simp only[c9,c9_1,<- hC,yB,yF];refine Ga ?_;subst hC;refine zab (zac (Ops.mv rfl (Ops.build rfl hf (zcu rfl rfl ?_))));refine qo ?_;exact⟨rfl,rfl⟩
set_option maxRecDepth 2000 in
theorem id_new{L:List OdX}{S:List SpX}{vst lv v0:V}{sbe:Env}(hd:21<=d)(P:Pw h0)(bx:BX h0 g p w s rw ow ro st n)(hn:n<=60)(hS:jeo h0 (· < h0.nx) (· < h0.nx) vst S)(fS:fewS S)(hL:jl5 h0 lv L)(j4:L.length<=100)(pH:∀x∈L,x.x.D.length<=300)(hy:h0.get yb=some (.cells [vst,lv] false))(ly:yb<h0.nx) :
  Run (cl d) fuel c3_27 [] ((0,v0)::(3,.p yb 0)::(5,.p p 0)::sbe) g (Fin c3.res fun v _=>v = .bool true):=by
 obtain⟨C22,xW⟩:∃C,C=c3_22:=⟨_,rfl⟩
 simp only[c3_27,c3_24,c3_23,<- xW,yB];have hp:=bx.b.hp;have e1:=pm_New Z (d:=d) (w:=w) om g;have o1:Old g (g.new (.cells (idw w noF noF (-1)) false)):=(Zz g).new;have gD1:(g.new (.cells (idw w noF noF (-1)) false)).get g.nx=some (.cells (idw w noF noF (-1)) false):=jac _;have lD1:g.nx<(g.new (.cells (idw w noF noF (-1)) false)).nx:=Nat.lt_succ_self _;generalize g.new (.cells (idw w noF noF (-1)) false)=g1 at e1 o1 gD1 lD1;have b1:=bx.b.old o1;have cL:=bx.old.trans o1;have oS:=hS.old cL;have Ml:=fS.len;have fT:∀x∈S,x.few:=fun x hx=>⟨by have:=(fS.each x hx).1;omega,by have:=(fS.each x hx).2.1;omega,fun m hm=>by have:=(fS.each x hx).2.2 m hm;omega⟩
 have hv:vst.one=true:=by obtain⟨_,_,rfl,_⟩:=hS.1;rfl
 have cC:=b1.hp;have Ea:g1.get yb=some (.cells [vst,lv] false):=by rw[cL.2 yb ly,hy]
 by_cases hm:∀x∈S,x.sp.may
 case neg=>
  obtain⟨g2,e2,o2⟩:=wm_New_no Z (d:=d) om oS om hm;obtain⟨g3,e3,o3⟩:=rm_New_no Z (d:=d) om (oS.old o2) om hm;have Jh:g2.get yb=some (.cells [vst,lv] false):=by rw[o2.2 yb (zr ly cL.1),Ea]
  have tK:=((b1.old o2).old o3).hp;clear hS P bx b1 oS hm hL pH fS fT;refine Ga ?_;rw[xW];refine zab (zac (Ops.mv rfl (zau rfl rfl (zau rfl rfl (zav rfl tK rfl (Ops.build rfl (jqh rw) (zcu rfl rfl ?_)))))));generalize idw rw noF noF (-1)=IL;refine Ga ?_;rfl
 obtain⟨sb,v1,S1,g2,e2,aB,A1,T1,aH,W1,l1,l2,o2⟩:=wm_New Z (d:=d) om oS om fT hm;obtain⟨rs,v2,g3,e3,A2,Kh,l3,l4,o3⟩:=rm_New Z (d:=d) om (oS.old o2) om hm;have yW:=o2.trans o3;have Fa:=cL.trans yW;have b3:=b1.old yW;have Jh:g2.get yb=some (.cells [vst,lv] false):=by rw[o2.2 yb (zr ly cL.1),Ea]
 have tK:=b3.hp;have o4:Old g3 (g3.new (.cells (idw rw noF noF (-1)) false)):=(Zz g3).new;have gE4:(g3.new (.cells (idw rw noF noF (-1)) false)).get g3.nx=some (.cells (idw rw noF noF (-1)) false):=jac _;have lE4:g3.nx<(g3.new (.cells (idw rw noF noF (-1)) false)).nx:=Nat.lt_succ_self _;have T:∀sbe,Run (cl d) fuel c3_20 [] ((3,.p yb 0)::(5,.p p 0)::(7,.p g.nx 0)::(8,.i 0)::(9,.p sb 0)::(11,.p rs 0)::(13,.p g3.nx 0)::sbe) (g3.new (.cells (idw rw noF noF (-1)) false)) (Fin c3.res fun v _=>v = .bool true):=by
  generalize hG4:g3.new (.cells (idw rw noF noF (-1)) false)=g4 at o4 gE4 lE4 ⊢;have topW:∀z,g.nx<=z->ow z=0/\¬ro z:=fun z hz=>⟨bx.b.W.top hz,fun e=>by have:=bx.b.ro_lt (.inl e);omega⟩
  have lp:=bx.b.lp;have kC:=bx.old.1;have qB:=o1.1;have wC:=o2.1;have nK:=o3.1;have bS:=o4.1;have Lh:n+sumM S1<=700:=by rw[jlI aB];have:=fS.sum;omega
  have Dg:S1.length=S.length:=by have:=congrArg List.length aB;simpa using this
  have Ha:∀x∈S1.map SpX.sp,x.few:=by
   rw[aB];intro x hx;obtain⟨y,hy,rfl⟩:=List.mem_map.1 hx;obtain⟨q1,q2,q3⟩:=fS.each y hy;exact⟨by simpa[SpX.sp] using q1,q2,fun m hm=>by
    obtain⟨z,hz,rfl⟩:=List.mem_map.1 hm;exact q3 z hz⟩
  have fewX:∀x∈S1,x.few:=fun x hx=>by
   obtain⟨q1,q2,q3⟩:=Ha x.sp (List.mem_map_of_mem hx);exact⟨by have:x.ml.length<=60:=(by simpa[SpX.sp] using q1);omega,by have:x.ol.length<=60:=q2;omega,fun m hm=>by have:=q3 m.m (List.mem_map_of_mem hm);omega⟩
  have own:∀z,g.nx<=z->z<g4.nx->Own g4 ow ro (fun j=>j<h0.nx) p z:=fun z h1 h2=>⟨h2,(topW z h1).1,(topW z h1).2,by show ¬z<h0.nx;omega,by omega⟩
  have uM:=o3.trans o4;have gE:=gE4;have ni:II h0 g4 p w s rw sb rs g.nx g3.nx v1.at? ow ro st n S1 S [] noF noF (-1):=by
   refine⟨b3.old o4,bx.so,⟨own sb om om,fun z hz=>?_,⟨v1,.nils,rfl,by rw[uM.2 sb l2,aH],A1.keep uM.1 fun z hz hp=>⟨uM.2 z hz,(topW z om).1,(topW z om).2,hp.2⟩,fun y hy=>(T1 y hy).keep uM.1 (fun z hz hp=>⟨uM.2 z hz,⟨(topW z om).1,(topW z om).2,hp.1.2⟩,hp.2,by omega,by omega,by omega⟩) fun z hz hp=>⟨uM.2 z hz,⟨(topW z om).1,(topW z om).2,hp.1.2⟩,hp.2,by omega,by omega,by omega⟩,VI.nil _,fun e=>zJ rfl e⟩,fewX⟩,
    ⟨own rs om om,⟨v2,.nils,by rw[o4.2 rs l4,Kh],A2.1.keep o4.1 fun z hz hp=>⟨o4.2 z hz,?_⟩,fun y hy=>((hS.old (Fa.trans o4)).2 y hy).keep (zq _) (fun z hz hp=>⟨rfl,hp⟩) fun z hz hp=>⟨rfl,hp⟩,VI.nil _,fun e=>zJ rfl e⟩,fT⟩,aB,Ha,by omega,by rw[(yW.trans o4).2 g.nx lD1,gD1],gE,own g.nx om om,own g3.nx om lE4,?_,?_,?_,⟨by omega,by omega,by omega⟩,fun z hz=>?_,Fa.trans o4⟩
   .obtain⟨k1,k2,cs,k3⟩:=W1 z hz;exact⟨own z om om,by omega,cs,by rw[uM.2 z om,k3]⟩
   .rcases hp.1 with cC|cC
    .have hd:z<h0.nx:=cC;exact⟨⟨bx.b.sep z (.inr hd),bx.b.ap hd,hp.2⟩,fun e=>e.elim (fun e=>by omega) (fun e=>by have:=(W1 z e).1;omega),by omega,by omega⟩
    .exact⟨⟨(topW z om).1,(topW z om).2,hp.2⟩,fun e=>e.elim (fun e=>by omega) (fun e=>by have:=(W1 z e).2.1;omega),by omega,by omega⟩
   .exact fun e=>e.elim (fun e=>by omega) fun e=>by have:=(W1 _ e).1;omega
   .exact fun e=>e.elim (fun e=>by omega) fun e=>by have:=(W1 _ e).2.1;omega
   .exact fun e=>e.elim (fun e=>by omega) fun e=>by have:=(W1 _ e).2.1;omega
   .rcases hz with (rfl|hz)|rfl|rfl|rfl
    .omega
    .have:=(W1 z hz).1;omega
    .omega
    .omega
    .omega
  exact fun sbe=>id_loop Z om P ni Lh hL j4 pH hy ly
 obtain⟨C20,Ja⟩:∃C,C=c3_20:=⟨_,rfl⟩
 rw[<- Ja]at T;have Ka:=xW;simp only[c3_22,c3_21,<- Ja,uF]at Ka;clear hS P bx b1 oS hm A1 T1 W1 A2 b3 hL pH fS fT o4 gE4 lE4;refine Ga ?_;rw[Ka];refine zab (zac (Ops.mv rfl (zau rfl rfl (zau rfl rfl (zav rfl tK rfl (Ops.build rfl (jqh rw) (zcu rfl rfl ?_)))))));generalize idw rw noF noF (-1)=IL at T ⊢;refine Ga ?_;exact T _
end
def SpsN(h:H)(v:V)(l:List SpX):Prop:= ∃ad c,v = .slice ad l.length c/\(l.length<=2000->(∀x∈l,SpIn h x)/\At4 h (· < h.nx) SpX.V v l)
section
variable{h h':H}
theorem VI.keepK{v:V}{l:List Int}(a:VI h v l)(hx:h.nx<=h'.nx)(hk:∀j o,j<h.nx->h.get j=some o->h'.get j=some o):VI h' v l:=by
 obtain⟨ad,c,e,n,f,g⟩:=a;refine⟨ad,c,e,n,f,fun hl=>?_⟩;obtain⟨b,o,cs,ro,q1,q2,q3,q4⟩:=g hl;exact⟨b,o,cs,ro,q1,zr q2 hx,hk _ _ q2 q3,q4⟩
theorem At4.keepK{α:Type}{f:α -> List V}{v:V}{l:List α}(a:At4 h (· < h.nx) f v l)(hx:h.nx<=h'.nx)(hk:∀j o,j<h.nx->h.get j=some o->h'.get j=some o):At4 h' (· < h'.nx) f v l:=by
 obtain⟨ad,c,e,n,ft,g⟩:=a;refine⟨ad,c,e,n,ft,fun hl=>?_⟩;obtain⟨b,o,cs,ro,q1,q2,q3,q4,q5⟩:=g hl;exact⟨b,o,cs,ro,q1,zr q2 hx,zr q2 hx,hk _ _ q2 q4,q5⟩
theorem MvOk.keepK{x:MvX}(a:MvOk h x)(hx:h.nx<=h'.nx)(hk:∀j o,j<h.nx->h.get j=some o->h'.get j=some o):MvOk h' x:=by
 obtain⟨z,c,e,g⟩:=a;exact⟨z,c,e,fun hl=>(g hl).keep hx hk⟩
theorem jpk.keepK{B:Nat}{v:V}{l:List MvX}(a:jpk B h v l)(hx:h.nx<=h'.nx)(hk:∀j o,j<h.nx->h.get j=some o->h'.get j=some o):jpk B h' v l:=by
 refine⟨a.1,fun hl=>⟨fun x hm=>((a.2 hl).1 x hm).keepK hx hk,?_⟩⟩;obtain⟨ad,c,e,g⟩:=(a.2 hl).2;refine⟨ad,c,e,fun hn=>?_⟩;obtain⟨b,cs,ro,q1,q2,q3,q4⟩:=g hn;exact⟨b,cs,ro,q1,zr q2 hx,hk _ _ q2 q3,q4⟩
theorem SpOk.keepK{x:SpX}(a:SpOk h x)(hx:h.nx<=h'.nx)(hk:∀j o,j<h.nx->h.get j=some o->h'.get j=some o):SpOk h' x:=
 ⟨⟨a.ov.1,fun hl=>(a.ov.2 hl).keepK hx hk⟩,a.mv.keepK hx hk,a.t0,a.t1⟩
theorem SpIn.keepK{x:SpX}(a:SpIn h x)(hx:h.nx<=h'.nx)(hk:∀j o,j<h.nx->h.get j=some o->h'.get j=some o):SpIn h' x:=by
 refine⟨a.1.keepK hx hk,fun h1 h2 h3=>?_⟩;have s:=a.2 h1 h2 h3;exact⟨⟨s.ov.1.keepK hx hk,fun hn z hz=>zr (s.ov.2 hn z hz) hx⟩,s.mv.keepK hx hk,fun m hm=>by
  obtain⟨ad,c,e,g⟩:=(s.dv m hm).1;exact⟨⟨ad,c,e,g.keep hx hk⟩,fun hn z hz=>zr ((s.dv m hm).2 hn z hz) hx⟩,s.t0,s.t1⟩
theorem SpsN.keepK{v:V}{l:List SpX}(a:SpsN h v l)(hx:h.nx<=h'.nx)(hk:∀j o,j<h.nx->h.get j=some o->h'.get j=some o):SpsN h' v l:=by
 obtain⟨ad,c,e,g⟩:=a;exact⟨ad,c,e,fun hl=>⟨fun x hm=>((g hl).1 x hm).keepK hx hk,(g hl).2.keepK hx hk⟩⟩
theorem jph.keepK{v:V}{l:List SpX}(a:jph h v l)(hx:h.nx<=h'.nx)(hk:∀j o,j<h.nx->h.get j=some o->h'.get j=some o):jph h' v l:=by
 obtain⟨ad,c,e,g⟩:=a;refine⟨ad,c,e,fun hl=>⟨fun x hm=>((g hl).1 x hm).keepK hx hk,fun hn=>?_⟩⟩;obtain⟨b,cs,ro,q1,q2,q3,q4⟩:=(g hl).2 hn;exact⟨b,cs,ro,q1,zr q2 hx,hk _ _ q2 q3,q4⟩
end
theorem SpsN.at{h:H}{v:V}{l:List SpX}(a:SpsN h v l)(hl:l.length<=2000)(hm:∀x∈l,x.sp.may):jeo h (· < h.nx) (· < h.nx) v l:=by
 obtain⟨ad,c,e,g⟩:=a;refine⟨(g hl).2,fun x hx=>((g hl).1 x hx).2 ?_ ?_ fun m fG=>?_⟩
 .have:=(hm x hx).1;simp[SpX.sp]at this;omega
 .have:=(hm x hx).2.1;simp[SpX.sp]at this;omega
 .have:=(hm x hx).2.2.2 m.m (List.mem_map.2 ⟨m,fG,rfl⟩);have:=this.2.2.2.2.1;omega
section
variable{cl:Nat->Call}(Z:Sem cl)
include Z
end
abbrev nightRep:H->List (Int×Bool×List Int×List (Int×Int×Int×List Int×Unit)×Unit)×List (Int×(Int×Int×Int×Int×List Int×Unit)×Int×Int×Int×Bool×Unit)×Unit->List V->Prop:=jbs (jbC 100 jpZ) (jbs (jbC 100 jpt) jjg)
section
variable{cl:Nat->Call}(Z:Sem cl)
include Z
theorem id_first{d p w s rw yb:Nat}{h1 g0:H}{ow:Nat->Nat}{ro:Nat->Prop}{mI:Option (Nat×Nat)}{c1:Cap}{L0:List OpX}{L:List OdX}{S:List SpX}{vst lv:V}(hd:22<=d)(bx:BX h1 g0 p w s rw ow ro st0 0)(P:Pw h1)(m7:∀x∈L0,OpOk h1 x)
  (dC:L0≠[] -> ∃b cs ro,mI=some (b,0)/\b<h1.nx/\h1.get b=some (.cells cs ro)/\cs.length=L0.length*5/\∀(i:Nat) (x:OpX),L0[i]?=some x->(cs.drop (i*5)).take 5=x.V) (cQ:∀x∈L0,x.D.length<=300) (Mh:L0.length<=60)
  (hS:jeo h1 (· < h1.nx) (· < h1.nx) vst S) (fS:fewS S) (hL:jl5 h1 lv L) (j4:L.length<=100) (pH:∀x∈L,x.x.D.length<=300) (hy:h1.get yb=some (.cells [vst,lv] false)) (ly:yb<h1.nx) :
  Run (cl d) fuel c3_28 [] [(0,.slice mI L0.length c1),(3,.p yb 0),(5,.p p 0)] g0 (Fin c3.res fun v _=>v = .bool true):=by
 have T:∀g ow ro st n v0 sbe,BX h1 g p w s rw ow ro st n->n<=60->Run (cl d) fuel c3_27 [] ((0,v0)::(3,.p yb 0)::(5,.p p 0)::sbe) g (Fin c3.res fun v _=>v = .bool true):=fun g ow ro st n v0 sbe b hn=>id_new Z om P b hn hS fS hL j4 pH hy ly;clear hS fS hL j4 pH hy ly P;obtain⟨C27,La⟩:∃C,C=c3_27:=⟨_,rfl⟩
 obtain⟨C26,aX⟩:∃C,C=c3_26:=⟨_,rfl⟩
 rw[<- La]at T;simp only[c3_28,<- La,<- aX,yC];refine Ga ?_;refine Zq (fun m e g=>∃(i:Nat) (ow:Nat->Nat) (ro:Nat->Prop) (st:St),m=L0.length-i/\i<=L0.length/\e=[(0,.slice mI L0.length c1),(3,.p yb 0),(5,.p p 0),(50,.i (L0.length:Int)),(51,.i (i:Int))]/\BX h1 g p w s rw ow ro st i)
  (k:=L0.length) Ze ⟨0,ow,ro,st0,rfl,by omega,rfl,bx⟩ ?_
 clear bx ow ro g0;rintro _ _ g ⟨i,ow,ro,st,rfl,hi,rfl,bx⟩ n2 ih;by_cases d4:(i:Int)<L0.length
 case pos=>
  obtain⟨x,hx⟩:=jdN (l:=L0) (i:=i) om;have rF:=zc hx;obtain⟨b,cs,ro',rfl,lb,hb,vV,hc⟩:=dC (by rintro rfl;simp at hx);have gO:g.get b=some (.cells cs ro'):=by rw[bx.old.2 b lb,hb]
  have h5:(cs.drop (0+(i:Int).toNat*5)).take 5=x.V:=by rw[zP,zw];exact hc i x hx
  obtain⟨g2,jW,mH,e2,Nh,f2⟩:=bx_do Z (d:=d) om bx om (m7 x rF) (cQ x rF);have a8:(i:Int)+1=((i+1:Nat):Int):=by omega
  clear m7 dC cQ bx hc T f2;subst aX;refine Ga ?_;refine zcw rfl gO om ?_;rw[h5];refine Ga ?_;rw[a8];exact ih (L0.length-(i+1)) om _ _ ⟨i+1,jW,mH,_,rfl,by omega,rfl,Nh⟩
 have T':=fun v0 sbe=>T g ow ro st i v0 sbe bx om;clear ih dC m7 cQ T bx;subst aX;refine Ga ?_;exact T' _ _
theorem jkk{h0:H}(kF:h0.nx=6507)(Ma:∀b,6507<=b->h0.get b=none)(_l2:h0.get 2=some (.cells jbi true))(_l3:h0.get 3=some (.cells jbh true))(l0:h0.get 0=some (.cells jaI true))
  {l:List (Int×Int×Int×Int×List Int×Unit)} {u1:V} (rl:jbC 200 jnL h0 l [u1]) {x0:List (Int×Bool×List Int×List (Int×Int×Int×List Int×Unit)×Unit)×List (Int×(Int×Int×Int×Int×List Int×Unit)×Int×Int×Int×Bool×Unit)×Unit} {u2:List V} (rx:nightRep h0 x0 u2) :
  ∃h',cl 31 (.fn 3) [u1,.agg u2] h0=some (.bool true,h'):=by
 suffices q:∃v h',cl 31 (.fn 3) [u1,.agg u2] h0=some (v,h')/\v = .bool true by
  obtain⟨_,h',e,rfl⟩:=q;exact⟨h',e⟩
 have P0:Pw h0:=⟨by rw[kF];decide,_,_,l0,by kernel_rfl⟩
 clear _l2 _l3 l0;obtain⟨ua,_,rfl,r1,ub,w',rfl,r2,hn⟩:=rx;obtain rfl:w'=[]:=hn;obtain⟨vst,rfl⟩:∃v,ua=[v]:=(by obtain⟨_,_,e,_⟩:=id r1;exact⟨_,e⟩)
 obtain⟨lv,rfl⟩:∃v,ub=[v]:=(by obtain⟨_,_,e,_⟩:=id r2;exact⟨_,e⟩)
 obtain⟨L0,_,Na⟩:=opsIn_of rl;obtain⟨S,hS,Pa⟩:=spsIn_of r1;obtain⟨L,_,hL⟩:=odsIn_of r2;clear rl r1 r2;have o1:Old h0 (h0.new (.cells ([vst]++([lv]++[])) false)):=(Zz h0).new;have g1:(h0.new (.cells ([vst]++([lv]++[])) false)).get h0.nx=some (.cells [vst,lv] false):=jac _;have x1:h0.nx<(h0.new (.cells ([vst]++([lv]++[])) false)).nx:=Nat.lt_succ_self _;have bX:∀j,(h0.new (.cells ([vst]++([lv]++[])) false)).nx<=j->(h0.new (.cells ([vst]++([lv]++[])) false)).get j=none:=fun j hj=>by
  have hj:h0.nx+1<=j:=hj;rw[H.get_new,zC om,Ma j om]
 generalize hH1:h0.new (.cells ([vst]++([lv]++[])) false)=h1 at o1 g1 x1 bX;have kp:∀j o,j<h0.nx->h0.get j=some o->h1.get j=some o:=fun j o hj ho=>by rw[o1.2 j hj,ho]
 have bO:=Na.keep o1.1 kp;have tD:=hS.keepK o1.1 kp;have gT:=hL.keep o1.1 kp;obtain⟨gv,eg,hg⟩:=jqq Z (d:=30) om bO;obtain⟨sv,es,hs⟩:=gs_ok Z (d:=30) om tD;obtain⟨tv,h2,et,o2,ht,Qa⟩:=g20_ok Z (d:=30) om gT;obtain⟨mI,c1,rfl,w9⟩:=id bO;obtain⟨ads,cs,rfl,_⟩:=id tD;obtain⟨adl,cl',rfl,_⟩:=id gT;obtain⟨p,w,s,rw_,ow,ro,h3,e3,b3⟩:=nw_fresh Z (d:=30) om h2 (Qa bX);have iT:∀j o,j<h1.nx->h1.get j=some o->h2.get j=some o:=fun j o hj ho=>by rw[o2.2 j hj,ho]
 have T:L0.length<=60->fewL L0->fewS S->L.length<=100->(∀x∈L,x.x.D.length<=300)->Run (cl 30) fuel c3_28 [] [(0,.slice mI L0.length c1),(3,.p h0.nx 0),(5,.p p 0)] h3 (Fin c3.res fun v _=>v = .bool true):=fun k1 k2 k3 k4 k5=>by
  obtain⟨m7,dC⟩:=w9 om;exact id_first Z om b3 (P0.old (o1.trans o2)) (fun x hx=>(m7 x hx).keep o2.1 iT) (fun e=>by
   obtain⟨b,cs,ro,q1,q2,q3,q4,q5⟩:=dC e;exact⟨b,cs,ro,q1,zr q2 o2.1,iT _ _ q2 q3,q4,q5⟩) k2.2 k1 ((Pa k3).keep (o1.trans o2).1 (fun z hz hp=>⟨(o1.trans o2).2 z hz,zr hz (o1.trans o2).1⟩) fun z hz hp=>⟨(o1.trans o2).2 z hz,zr hz (o1.trans o2).1⟩) k3 (gT.keep o2.1 iT) k4 k5 (by rw[o2.2 _ x1,g1]) (zr x1 o2.1)
 clear hL hS Pa Na bO tD gT w9 b3 P0 bX Qa Ma kp iT o1;refine aT Z ?_;obtain⟨C28,Ra⟩:∃C,C=c3_28:=⟨_,rfl⟩
 rw[<- Ra]at T;obtain⟨C29,Sa⟩:∃C,C=c3_29:=⟨_,rfl⟩
 simp only[c3,<- Sa,yB];refine Ga ?_;refine zcu (ob:= .cells ([.slice ads S.length cs]++([.slice adl L.length cl']++[])) false) (mk:=fun b=>.p b 0) rfl rfl ?_;rw[hH1];refine Ga ?_;simp only[Sa,c3_29,<- Ra,yH];rcases hg with rfl|⟨rfl,pH⟩
 .clear T;refine Ga ?_;rfl
 by_cases Mh:60<(L0.length:Int)
 .clear T;refine Ga ?_;rfl
 rcases hs with rfl|⟨rfl,fV⟩
 .clear T;refine Ga ?_;rfl
 rcases ht with rfl|⟨rfl,Ph,ht⟩
 .clear T;refine Ga ?_;rfl
 have T':=T om pH fV Ph ht;clear T;refine Ga ?_;exact T'
end
end Am.Sigs
