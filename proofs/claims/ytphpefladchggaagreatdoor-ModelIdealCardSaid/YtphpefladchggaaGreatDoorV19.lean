/- Our own library, part 19. -/
import Derived.Test.YtphpefladchggaaGreatDoorV18
import Derived.Test.YtphpefladchggaaGreatDoorV15
import Derived.Test.YtphpefladchggaaGreatDoorV16
import Derived.Test.YtphpefladchggaaGreatDoorV17
set_option maxHeartbeats 8000000
set_option maxRecDepth 800
set_option linter.all false
namespace Am.Sigs
open Am Go
theorem jlo{q:List UInt8}{cap:Nat}(h1:q.length<=cap)(h2:cap<=65536):(hexS q).length<=131072:=by
 rw[jgt];omega
theorem jbA{u:Nat}(h:u<18446744073709551616):(dec u).length<=20:=jkr (m:=19) om h
section
variable{cl:Nat->Call}(Z:Sem cl)
include Z
theorem wd_ring{d bx r b cap:Nat}{v:V}{l:List (List UInt8)}{q:List UInt8}{e:En}{h h0:H}(hd:8<=d)(p:Pw h)(o:Old h0 h)(g:h.get bx=some (.cells (e.cells r) false))(lb:bx<h.nx)(hq:e.ring=some q)(R:ja3 h r b q cap)(l1:r<h.nx)(l2:b<h.nx)(s:SR h0.nx h v l)(hl:l.length<=10) :
  Run (cl d) fuel c132_0 [] [(1,.p bx 0),(3,v),(17,.bool false)] h (Fin c132.res fun x h'=>SR h0.nx h' x (l++[hexS q++[47]++dec cap])/\Old h0 h'):=by
 obtain⟨buf,frm,inn,out,C,W⟩:=R;have w1:=W.fit;have w2:=W.small;refine zab (Zo ?_);have oG:Old h (h.reserve 1):=⟨by simp,fun j _=>H.get_reserve ..⟩
 have xG:(h.reserve 1).nx=h.nx+1:=by simp
 have sG:=s.keep (zq _) oG;have CG:RingC (h.reserve 1) r b buf frm q.length cap inn out:=⟨by rw[oG.2 r l1,C.hr],by rw[oG.2 b l2,C.hb]⟩
 generalize h.reserve 1=G at oG xG sG CG ⊢;have gG:G.get bx=some (.cells (e.cells r) false):=by rw[oG.2 bx lb,g]
 have q2:(e.cells r)[0+2]?=some (.p r 0):=by show some (En.ptr e.ring r)=_;rw[hq];rfl
 have eLen:=jje Z (d:=d) om CG;obtain⟨lv,h1,eLook,row,_,j_⟩:=joB Z (d:=d) (n:=(q.length:Int)) om CG W om om;rw[Int.min_self,zw,List.take_length]at row;have o1:Old G h1:=Old.ofCh j_;obtain⟨h2,eHex,o2⟩:=sp_hex Z (d:=d) om row om;have uE:=o1.trans o2;have g1:h1.get bx=some (.cells (e.cells r) false):=by rw[o1.2 bx om,gG]
 have g2:h2.get bx=some (.cells (e.cells r) false):=by rw[uE.2 bx om,gG]
 have C2:RingC h2 r b buf frm q.length cap inn out:=⟨by rw[uE.2 r om,CG.hr],by rw[uE.2 b om,CG.hb]⟩
 have eLen2:=jje Z (d:=d) om C2;have eRoom:=jlO Z (d:=d) om C2 w1 w2;have p2:Pw h2:=(p.old oG).old uE;have eIt:=jdg Z (d:=d) (u:=cap) om om p2;have cP:=jlo w1 w2;have hdl:=jbA (u:=cap) om;clear C W CG C2 row j_;refine Ga ?_;refine Zu rfl eLen (by repeat (first|apply ja9|refine jau rfl gG q2 rfl ?_)) ?_;refine Zu rfl eLook (by repeat (first|apply ja9|refine jau rfl g1 q2 rfl ?_)) ?_;refine Zu rfl eHex (by repeat (first|apply ja9|refine jau rfl g2 q2 rfl ?_)) ?_;refine ZB rfl rfl Zc ?_;refine Zu rfl eLen2 (by repeat (first|apply ja9|refine jau rfl g2 q2 rfl ?_)) ?_;refine Ga ?_;rw[show (q.length:Int)+((cap-q.length:Nat):Int)=(cap:Int) by omega];refine Ga ?_;refine ZB rfl rfl Zc ?_;have mW:Old h0 h2:=(o.trans oG).trans uE;refine Ops.strP_at (h0:=h0) (l:=l) rfl rfl mW (sG.keep (zq _) uE) ?_ ?_ ?_ om fun v' h' s' o' _ _=>?_
 .have:=o.1;omega
 .have:=uE.1;omega
 .intro e;have:=(s.at_ge e).2;omega
 .refine Ga ?_;exact⟨s',o'⟩
theorem jm8{d r b cap:Nat}{e:En}{h:H}(hd:9<=d)(p:Pw h)(hw:0<=e.what/\e.what<=3)(hR:∀q,e.ring=some q->ja3 h r b q cap/\r<h.nx/\b<h.nx) :
  ∃v h',cl d (.fn 132) [.agg (e.cells r)] h=some (v,h')/\SR h.nx h' v (jb6 e.what e.shut e.ring cap)/\Old h h':=by
 obtain⟨w,k_⟩:∃w:Nat,e.what=(w:Int):=⟨e.what.toNat,by omega⟩
 have tN:w<4:=by omega
 have i_:[V.str [110,111,110,101],.str [105,110],.str [111,117,116],.str [99,108,111,115,101,100]][0+(w:Int).toNat*1]?=some (.str (jf8 (w:Int))):=by
  match w,tN with
  |0,_=>rfl|1,_=>rfl|2,_=>rfl|3,_=>rfl
 rw[k_];refine aT Z ?_;obtain⟨C2,nG⟩:∃C,C=c132_2:=⟨_,rfl⟩
 simp only[c132,c132_3,<- nG,uF,yB];refine Ga ?_;refine zcu (ob:= .cells (e.cells r) false) rfl rfl ?_;have o1:Old h (h.new (.cells (e.cells r) false)):=(Zz h).new;have g1:=jac (h:=h) (.cells (e.cells r) false);have l1:h.nx<(h.new (.cells (e.cells r) false)).nx:=by simp
 generalize h.new (.cells (e.cells r) false)=h1 at o1 g1 l1 ⊢;refine Ga ?_;refine zcu (ob:= .cells [V.str [110,111,110,101],.str [105,110],.str [111,117,116],.str [99,108,111,115,101,100]] false) rfl rfl ?_;have o2:Old h1 (h1.new (.cells [V.str [110,111,110,101],.str [105,110],.str [111,117,116],.str [99,108,111,115,101,100]] false)):=(Zz h1).new;have g2:=jac (h:=h1) (.cells [V.str [110,111,110,101],.str [105,110],.str [111,117,116],.str [99,108,111,115,101,100]] false);generalize h1.new (.cells [V.str [110,111,110,101],.str [105,110],.str [111,117,116],.str [99,108,111,115,101,100]] false)=h2 at o2 g2 ⊢;have bQ:h2.get h.nx=some (.cells (e.cells r) false):=by rw[o2.2 _ l1,g1]
 have q0:(e.cells r)[0+0]?=some (.i (w:Int)):=by rw[<- k_];rfl
 have q2:(e.cells r)[0+2]?=some (En.ptr e.ring r):=rfl;have q4:(e.cells r)[0+4]?=some (.bool e.shut):=rfl;have uE:=o1.trans o2;refine Ga ?_;refine zcu (ob:= .cells [V.str (jf8 (w:Int))] false) (mk:=fun b=>.slice (some (b,0)) 1 (.fix 1)) rfl rfl ?_;have o3:Old h2 (h2.new (.cells [V.str (jf8 (w:Int))] false)):=(Zz h2).new;have s3:SR h.nx (h2.new (.cells [V.str (jf8 (w:Int))] false)) (.slice (some (h2.nx,0)) 1 (.fix 1)) [jf8 (w:Int)]:=⟨h2.nx,_,uE.1,by simp,rfl,.inr rfl,jac _⟩
 have n2:=o2.1;generalize (h2.new (.cells [V.str (jf8 (w:Int))] false))=h3 at o3 s3 ⊢;have l_:(V.slice (some (h2.nx,0)) 1 (.fix 1)).at?≠some h.nx:=fun e=>by have e:some h2.nx=some h.nx:=e;have:=Option.some.inj e;omega
 generalize V.slice (some (h2.nx,0)) 1 (.fix 1)=v3 at s3 l_ ⊢;have g3:h3.get h.nx=some (.cells (e.cells r) false):=by rw[o3.2 _ om,bQ]
 have nH:=uE.trans o3;have n3:=o3.1;clear g1 bQ g2 i_;refine Ga ?_;rw[nG];refine Zy (R:=fun x h'=>SR h.nx h' x (([jf8 (w:Int)]++if e.shut then [[115,104,117,116]] else [])++[jiL e.ring cap])/\Old h h') ?_ fun x h' ⟨a,b⟩=>⟨by simpa[jb6] using a,b⟩
 suffices key:∀(sb:Env) v4 h4 l4,SR h.nx h4 v4 l4->Old h h4->h4.get h.nx=some (.cells (e.cells r) false)->h.nx<h4.nx->l4.length<=9->Run (cl (d-1)) fuel c132_1 [] ((1,.p h.nx 0)::(3,v4)::sb) h4 (Fin c132.res fun x h'=>SR h.nx h' x (l4++[jiL e.ring cap])/\Old h h') by
  obtain⟨C,hC⟩:∃C,C=c132_1:=⟨_,rfl⟩
  simp only[c132_2,<- hC,yH];cases hs:e.shut with
  |false=>
   rw[hs]at q4;refine Ga ?_;rw[hC];exact Zy (key [(11,.bool false)] v3 h3 _ s3 nH g3 om Zd) fun x h' ⟨a,b⟩=>⟨by simpa using a,b⟩
  |true=>
   rw[hs]at q4;refine Ga ?_;refine Ops.strP (h0:=h) (l:=[jf8 (w:Int)]) rfl rfl nH s3 Zd fun v4 h4 s4 o4 x4 k4=>?_;refine Ga ?_;rw[hC];refine key [] v4 h4 _ s4 o4 ?_ om Zd;rw[k4 _ om fun e=>l_ e,g3]
 intro sb v4 h4 l4 s4 o4 g4 n4 tP;cases hr:e.ring with
 |none=>
  rw[hr]at q2;have q2:(e.cells r)[0+2]?=some (.ptr none):=q2;refine Ga ?_;refine Ops.strP (h0:=h) (l:=l4) rfl rfl o4 s4 om fun v5 h5 s5 o5 _ _=>?_;refine Ga ?_;exact⟨s5,o5⟩
 |some q=>
  obtain⟨R,Ag,Bg⟩:=hR q hr;rw[hr]at q2;have q2:(e.cells r)[0+2]?=some (.p r 0):=q2;obtain⟨C,hC⟩:∃C,C=c132_0:=⟨_,rfl⟩
  simp only[c132_1,<- hC,yJ];refine Ga ?_;rw[hC];have onx:=o4.1;exact wd_ring Z (d:=d-1) om (p.old o4) o4 g4 n4 hr (R.keep (o4.2 _ Ag) (o4.2 _ Bg)) om om s4 om
end
abbrev tNow:List UInt8:=[110,111,119,32]
abbrev tFd:List UInt8:=[102,100,32]
abbrev jlH:List UInt8:=[32,119,105,114,101,32]
abbrev tEnd:List UInt8:=[32,101,110,100,32]
abbrev jcS:List UInt8:=[119,105,114,101]
abbrev jdD:List UInt8:=[108,105,115,116,101,110]
abbrev jfq:List UInt8:=[114,101,115,101,116]
abbrev tSig:List UInt8:=[115,105,103,110,97,108,32]
abbrev tNo:List UInt8:=[110,111,116,105,99,101,32]
def endK(x:Wi)(k:Nat):Nat:=if 0<x.backlog then 2 else k
noncomputable def jiR(ws:Ws)(fd:Nat):List (List UInt8):=jcd ws (fd:Int) [] fun n k x=>[tFd++dec fd++jlH++dec n++tEnd++dec (endK x k)]
noncomputable def jd8(ws:Ws):Nat->List (List UInt8)
 |0=>[]
 |n+1=>jd8 ws n++jiR ws n
def jnm(x:Wi):List (List UInt8):=(if 0<x.backlog then [jdD,dec x.backlog.toNat]++x.waiting.map (fun m=>dec m.toNat) else jb6 x.e0.what x.e0.shut x.e0.ring x.cap++jb6 x.e1.what x.e1.shut x.e1.ring x.cap)++if x.reset then [jfq] else []
def jaQ(l:List (List UInt8)):List UInt8:=(l.map fun s=>[32]++s).flatten
def jiw(n:Nat)(x:Wi):List UInt8:=jcS++jaQ (dec n::jnm x)
def jh5(ws:Ws):Nat->List (List UInt8)
 |0=>[]
 |n+1=>jh5 ws n++match ws[n]? with
  |none=>[]
  |some x=>[jiw n x]
def jdI(hd:Nat->Bool)(pd:Nat->Int):Nat->List (List UInt8)
 |0=>[]
 |n+1=>jdI hd pd n++if hd (n+1) then [tSig++dec (n+1)++[32]++dec (pd (n+1)).toNat] else []
def jme:Option (Nat×Nat)->List (List UInt8)
 |none=>[]
 |some p=>[tNo++dec p.1++[32]++dec p.2]
noncomputable def jll(ws:Ws)(now:Int)(hd:Nat->Bool)(pd:Nat->Int)(no:Option (Nat×Nat)):List (List UInt8):=
 [tNow++dec now.toNat]++jd8 ws 96++jh5 ws ws.length++jdI hd pd 31++jme no
theorem jff(ws:Ws):∀n,(jd8 ws n).length<=n
 |0=>zq _
 |n+1=>by
  have:=jff ws n;have h1:(jiR ws n).length<=1:=by
   unfold jiR jcd;split
   .simp
   .split<;>simp
  simp only[jd8,zg];omega
theorem jgs(ws:Ws):∀n,(jh5 ws n).length<=n
 |0=>zq _
 |n+1=>by
  have:=jgs ws n;simp only[jh5,zg];split<;>simp<;>omega
theorem jej(hd:Nat->Bool)(pd:Nat->Int):∀n,(jdI hd pd n).length<=n
 |0=>zq _
 |n+1=>by
  have:=jej hd pd n;simp only[jdI,zg];split<;>simp<;>omega
theorem jbU(a b:List (List UInt8)):jaQ (a++b)=jaQ a++jaQ b:=by simp[jaQ]
theorem jjw(a:List UInt8):jaQ [a]=32::a:=by simp[jaQ]
theorem jck(x:List UInt8)(l:List (List UInt8)):Lib.join (x::l) [32]=x++jaQ l:=Lib.join_cons x l [32]
theorem jmV{l:List (List UInt8)}(h:l≠[]):[32]++Lib.join l [32]=jaQ l:=by
 cases l with
 |nil=>exact zJ rfl h
 |cons x l=>rw[jck];simp[jaQ]
theorem jfN{w:Int}{s:Bool}{r:Option (List UInt8)}{c:Nat}:jb6 w s r c≠[]:=by simp[jb6]
theorem ringS_len{r:Option (List UInt8)}{cap:Nat}(h:∀q,r=some q->q.length<=cap)(hc:cap<=65536):(jiL r cap).length<=131100:=by
 cases r with
 |none=>simp[jiL]
 |some q=>
  have:=jlo (h q rfl) hc;have:=jbA (u:=cap) om;simp only[jiL,zg,List.length_singleton];omega
theorem jfM{w:Int}{s:Bool}{r:Option (List UInt8)}{cap:Nat}(h:∀q,r=some q->q.length<=cap)(hc:cap<=65536):(jaQ (jb6 w s r cap)).length<=131200:=by
 have h1:=ringS_len h hc;have h2:=jlf w;unfold jb6 jaQ;cases s<;>simp<;>omega
def BM(h0:H)(rw j:Nat)(i:Int)(l:List (List UInt8)):Post:=fun x e h'=>x = .normal/\∃v' sb,e=(0,.p rw 0)::(3,v')::(j,.i i)::sb/\SR h0.nx h' v' l/\Old h0 h'
theorem jnt{cl:Nat->Call}(Z:Sem cl){d b:Nat}{h:H}{t:Tb}(hd:3<=d)(hb:h.get b=some t.obj)(s:Int):cl d (.fn 134) [.p b 0,.i s] h=some (.bool (t.has s),h):=by
 refine jaj (aT Z ?_);have hm:=jm9 Z (d:=d-1) om b s h;unfold Tb.obj at hb;by_cases hs:sig? s
 .rw[zD hs]at hm;obtain⟨s1,s2⟩:=hs;refine qo ?_;refine zaw rfl hm ?_;refine qo ?_;refine zav rfl hb (jp6 (k:=s.toNat) om om) ?_;refine qo ?_;exact⟨by rw[Tb.has,zG ⟨s1,s2⟩];rfl,rfl⟩
 .rw[zC hs]at hm;refine qo ?_;refine zaw rfl hm ?_;refine qo ?_;exact⟨by rw[Tb.has,zE hs];rfl,rfl⟩
section
variable{cl:Nat->Call}(Z:Sem cl){h h0:H}{w s:Nat}{ow:Nat->Nat}{l:List WX}{now:Int}{tb:Tb}{no:Option (Nat×Nat)}{v:V}{L:List (List UInt8)}
theorem w_JoinS{d N:Nat}{xs:List (List UInt8)}{t:List UInt8}(Z:Sem cl)(hd:1<=d)(r:SR N h v xs)(hs:(Lib.join xs t).length<=100000000)(hx:xs.length<=1000):cl d (.fn 133) [v,.str t] h=some (.str (Lib.join xs t),h):=by
 obtain⟨q,c,h1,h2,rfl,hc,hg⟩:=r;exact w_Join Z hd hg (by rw[zk,zh Zd]) rfl hs om
include Z
theorem iw_end{d:Nat}{sb:Env}(hd:2<=d)(P:Pw h)(a:WF h w s ow (fun i=>atS (wxs l) (i:Int)) l now tb no)(nt:NtOk (wxs l) (noI no) (siI no))(j4:l.length<=1000)(o:Old h0 h)(sr:SR h0.nx h v L)(hl:L.length<=5000) :
  Run (cl d) fuel c68_4 [] ((0,.p w 0)::(3,v)::sb) h (Fin c68.res fun x h'=>SR h0.nx h' x (L++jme no)/\Old h0 h'):=by
 obtain⟨sa,c,hw,_⟩:=a.head;have lw:=a.lw;cases no with
 |none=>
  have q0:(wc (fun i=>atS (wxs l) (i:Int)) (.slice sa l.length c) s now none)[0+291+0]?=some (.bool false):=jkB (j:=0) om rfl;generalize wc (fun i=>atS (wxs l) (i:Int)) (.slice sa l.length c) s now none=cs at hw q0;refine Ga ?_;exact⟨by simpa[jme] using sr,o⟩
 |some p=>
  have q0:(wc (fun i=>atS (wxs l) (i:Int)) (.slice sa l.length c) s now (some p))[0+291+0]?=some (.bool true):=jkB (j:=0) om rfl;have q1:(wc (fun i=>atS (wxs l) (i:Int)) (.slice sa l.length c) s now (some p))[0+291+1]?=some (.i (p.1:Int)):=jkB (j:=1) om rfl;have q2:(wc (fun i=>atS (wxs l) (i:Int)) (.slice sa l.length c) s now (some p))[0+291+2]?=some (.i (p.2:Int)):=jkB (j:=2) om rfl;have hp:p.1<=1000/\p.2<=1:=by
   rcases nt with e|⟨n,k,x,h1,h2,h3,h4,_⟩
   .have e:(p.1:Int) = -1:=e;omega
   .have h1:(p.1:Int)=n:=h1;have h2:(p.2:Int)=k:=h2;have:=w_lt h4;rw[List.length_map]at this;omega
  clear nt a;generalize wc (fun i=>atS (wxs l) (i:Int)) (.slice sa l.length c) s now (some p)=cs at hw q0 q1 q2;refine Ga ?_;refine Zo ?_;have oG:Old h (h.reserve 1):=⟨by simp,fun j _=>H.get_reserve ..⟩
  have xG:(h.reserve 1).nx=h.nx+1:=by simp
  have sG:=sr.keep (zq _) oG;have PG:=P.old oG;generalize h.reserve 1=G at oG xG sG PG ⊢;have gG:G.get w=some (.cells cs false):=by rw[oG.2 _ lw,hw]
  have e1:=jdg Z (d:=d) (u:=p.1) om om PG;have e2:=jdg Z (d:=d) (u:=p.2) om om PG;have d1:=jbA (u:=p.1) om;have d2:=jbA (u:=p.2) om;have n0:=o.1;refine Ga ?_;refine Zu rfl e1 (jau rfl gG q2 rfl ja9) ?_;refine ZB rfl rfl Zc ?_;refine ZB rfl rfl Zc ?_;refine Ga ?_;refine ZB rfl rfl Zc ?_;refine Ops.strP_at (h0:=h0) (l:=L) (t:=tNo++dec p.1++[32]++dec p.2) rfl rfl (o.trans oG) sG om om (fun e=>by have:=(sr.at_ge e).2;omega) om fun v' h' s' o' _ _=>?_;refine Ga ?_;exact⟨s',o'⟩
theorem iw_sig{d sg:Nat}{sb:Env}(hd:4<=d)(P:Pw h)(a:WF h w s ow (fun i=>atS (wxs l) (i:Int)) l now tb no)(h1:1<=sg)(hs:sg<32)(hc:tb.ok 1000000)(o:Old h0 h)(sr:SR h0.nx h v L)(hl:L.length<=5000) :
  Run (cl d) fuel (.block 7 c68_2) [] ((0,.p w 0)::(3,v)::(12,.i (sg:Int))::sb) h (BM h0 w 12 sg (L++if tb.hd sg=true then [tSig++dec sg++[32]++dec (tb.pd sg).toNat] else [])):=by
 obtain⟨sa,c,hw,_⟩:=a.head;have lw:=a.lw;have q1:(wc (fun i=>atS (wxs l) (i:Int)) (.slice sa l.length c) s now no)[0+289]?=some (.p s 0):=jdZ rfl;have eh:=jnt Z (d:=d) om a.hs (sg:Int);have nW:sig? (sg:Int):=by show (1:Int)<=sg/\(sg:Int)<=31;omega
 have e0:tb.has (sg:Int)=tb.hd sg:=by unfold Tb.has;rw[zG nW];simp
 rw[e0]at eh;generalize wc (fun i=>atS (wxs l) (i:Int)) (.slice sa l.length c) s now no=cs at hw q1;cases hh:tb.hd sg with
 |false=>
  rw[hh]at eh;clear hc;refine Ga ?_;exact Zn ⟨rfl,v,_,rfl,by simpa using sr,o⟩
 |true=>
  rw[hh]at eh;have lA:=hc sg;obtain⟨u,hu⟩:∃u:Nat,tb.pd sg=(u:Int):=⟨(tb.pd sg).toNat,by omega⟩
  have ec:tb.cnt (sg:Int)=(u:Int):=by unfold Tb.cnt;rw[zD nW,zw,hu]
  rw[hu]at lA ⊢;have Cg:=a.hs;have ls:=a.ls;clear hc a nW;refine Ga ?_;refine Zo ?_;have oG:Old h (h.reserve 1):=⟨by simp,fun j _=>H.get_reserve ..⟩
  have xG:(h.reserve 1).nx=h.nx+1:=by simp
  have sG:=sr.keep (zq _) oG;have PG:=P.old oG;generalize h.reserve 1=G at oG xG sG PG ⊢;have gG:G.get w=some (.cells cs false):=by rw[oG.2 _ lw,hw]
  have e3:=jjB Z (d:=d) om (h:=G) (by rw[oG.2 _ ls,Cg]) (sg:Int);rw[ec]at e3;have e1:=jdg Z (d:=d) (u:=sg) om om PG;have e2:=jdg Z (d:=d) (u:=u) om om PG;have d1:=jbA (u:=sg) om;have d2:=jbA (u:=u) om;have n0:=o.1;refine Ga ?_;refine Zu rfl e1 (jau rfl gG q1 rfl ja9) ?_;refine ZB rfl rfl Zc ?_;refine ZB rfl rfl Zc ?_;refine Ga ?_;refine ZB rfl rfl Zc ?_;refine Ops.strP_at (h0:=h0) (l:=L) (t:=tSig++dec sg++[32]++dec u) rfl rfl (o.trans oG) sG om om (fun e=>by have:=(sr.at_ge e).2;omega) om fun v' h' s' o' _ _=>?_;refine Ga ?_;exact Zn ⟨rfl,v',_,rfl,by simpa using s',o'⟩
theorem iw_fd{d i bx:Nat}{t:V}(hd:2<=d)(P:Pw h)(a:WF h w s ow (fun i=>atS (wxs l) (i:Int)) l now tb no)(u:Uniq (wxs l))(j4:l.length<=1000)(hi:i<96)(g:h.get bx=some (.cells (plc (atS (wxs l) (i:Int))) false))(hb:bx<h.nx)(o:Old h0 h)(sr:SR h0.nx h v L)(hl:L.length<=5000) :
  Run (cl d) fuel c68_17 [] [(0,.p w 0),(3,v),(4,.i (i:Int)),(5,.p bx 0),(25,t),(26,.i (i:Int))] h (fun x e h'=>x = .normal/\∃v',(e=[(0,.p w 0),(3,v'),(25,t),(26,.i (i:Int))]\/e=[(0,.p w 0),(3,v'),(4,.i (i:Int)),(5,.p bx 0),(25,t),(26,.i (i:Int)),(31,.bool false)])/\SR h0.nx h' v' (L++jiR (wxs l) i)/\Old h0 h'):=by
 obtain⟨sa,c,hw,kA⟩:=a.head;have lw:=a.lw;cases ha:atS (wxs l) (i:Int) with
 |none=>
  have hS:jiR (wxs l) i=[]:=by unfold jiR jcd;rw[ha]
  rw[hS,List.append_nil];rw[ha]at g;have q0:(plc none)[0+0]?=some (.bool false):=rfl;refine Ga ?_;exact Zn ⟨rfl,v,.inr rfl,sr,o⟩
 |some p=>
  obtain⟨n,k⟩:=p;obtain⟨x,hx,hk,_⟩:=id (jpf ha);obtain⟨t',ht,rfl⟩:=jhD hx;have hS:jiR (wxs l) i=[tFd++dec i++jlH++dec n++tEnd++dec (endK t'.x k)]:=jaA u (jpf ha) hx;rw[hS];rw[ha]at g;have q0:(plc (some (n,k)))[0+0]?=some (.bool true):=rfl;have q1:(plc (some (n,k)))[0+1]?=some (.i (n:Int)):=rfl;have q2:(plc (some (n,k)))[0+2]?=some (.i (k:Int)):=rfl;have hn:=x_lt ht;have X:=a.ok n t' ht;have oW:=X.hx;have lx:=X.lx;have c1:(wc (fun i=>atS (wxs l) (i:Int)) (.slice sa l.length c) s now no)[0+288]?=some (.slice sa l.length c):=jaR rfl;obtain⟨z,rfl,z1,z2,z3⟩:=kA (by rintro rfl;simp at hn);have w2:(wps l)[0+(n:Int).toNat*1]?=some (.p t'.wb 0):=by rw[show 0+(n:Int).toNat*1=n by omega];exact jda ht
  have uS:(t'.x.cells t'.r0 t'.r1 t'.wv)[0+15]?=some (.i t'.x.backlog):=rfl;have oW:h.get t'.wb=some (.cells (t'.x.cells t'.r0 t'.r1 t'.wv) false):=oW;have nB:endK t'.x k<=2:=by unfold endK;split<;>omega
  clear a X u hS;generalize wc (fun i=>atS (wxs l) (i:Int)) (.slice (some (z,0)) l.length c) s now no=cs at hw c1;generalize plc (some (n,k))=pl at g q0 q1 q2;generalize t'.x.cells t'.r0 t'.r1 t'.wv=xc at oW uS
  suffices key:∀(K6:Nat) (sb:Env),K6=endK t'.x k->Run (cl d) fuel c68_15 [] ((0,.p w 0)::(3,v)::(4,.i (i:Int))::(5,.p bx 0)::(6,.i (K6:Int))::(25,t)::(26,.i (i:Int))::sb) h (fun x e h'=>x = .normal/\∃v',(e=[(0,.p w 0),(3,v'),(25,t),(26,.i (i:Int))]\/e=[(0,.p w 0),(3,v'),(4,.i (i:Int)),(5,.p bx 0),(25,t),(26,.i (i:Int)),(31,.bool false)])/\SR h0.nx h' v' (L++[tFd++dec i++jlH++dec n++tEnd++dec (endK t'.x k)])/\Old h0 h') by
   obtain⟨C,hC⟩:∃C,C=c68_15:=⟨_,rfl⟩
   simp only[c68_17,c68_16,<- hC,yB];by_cases kB:t'.x.backlog>0
   .have ek:2=endK t'.x k:=(zD kB).symm;refine Ga ?_;rw[hC];exact key 2 _ ek
   .have ek:k=endK t'.x k:=(zC kB).symm;refine Ga ?_;rw[hC];exact key k _ ek
  rintro K6 sb rfl;generalize endK t'.x k=K6 at nB;refine Zo ?_;have oG:Old h (h.reserve 1):=⟨by simp,fun j _=>H.get_reserve ..⟩
  have xG:(h.reserve 1).nx=h.nx+1:=by simp
  have sG:=sr.keep (zq _) oG;have PG:=P.old oG;generalize h.reserve 1=G at oG xG sG PG ⊢;have gG:G.get bx=some (.cells pl false):=by rw[oG.2 _ hb,g]
  have e1:=jdg Z (d:=d) (u:=i) om om PG;have e2:=jdg Z (d:=d) (u:=n) om om PG;have e3:=jdg Z (d:=d) (u:=K6) om om PG;have d1:=jbA (u:=i) om;have d2:=jbA (u:=n) om;have d3:=jbA (u:=K6) om;have n0:=o.1;refine Ga ?_;refine Zu rfl e1 (jau rfl gG q1 rfl ja9) ?_;refine ZB rfl rfl Zc ?_;refine ZB rfl rfl Zc ?_;refine Ga ?_;refine ZB rfl rfl Zc ?_;refine ZB rfl rfl Zc ?_;refine Ga ?_;refine ZB rfl rfl Zc ?_;refine Ops.strP_at (h0:=h0) (l:=L) (t:=tFd++dec i++jlH++dec n++tEnd++dec K6) rfl rfl (o.trans oG) sG om om (fun e=>by have:=(sr.at_ge e).2;omega) om fun v' h' s' o' _ _=>?_;refine Ga ?_;exact Zn ⟨rfl,v',.inl rfl,s',o'⟩
end
def WM(h0:H)(w:Nat)(t1 t2 t3:V)(l:List (List UInt8)):Post:=fun x e h'=>x = .normal/\∃v',e=[(0,.p w 0),(3,v'),(65,t1),(66,t2),(67,t3)]/\SR h0.nx h' v' l/\Old h0 h'
section
variable{cl:Nat->Call}(Z:Sem cl){h h0 h1:H}{w:Nat}{v v9 t1 t2 t3:V}{L:List (List UInt8)}{xs:List (List UInt8)}{t:WX}{n:Nat}
include Z
theorem joQ{d:Nat}{sb:Env}(hd:1<=d)(o:Old h0 h1)(sr:SR h0.nx h1 v L)(hl:L.length<=5000)(o1:Old h1 h)(s9:SR h1.nx h v9 xs)(hx:xs≠[])(cP:xs.length<=200)(hj:(Lib.join xs [32]).length<=1000000)(g:h.get t.wb=some (.cells (t.x.cells t.r0 t.r1 t.wv) false)) :
  Run (cl d) fuel c68_11 [] ((0,.p w 0)::(3,v)::(8,.p t.wb 0)::(9,v9)::(65,t1)::(66,t2)::(67,t3)::sb) h (WM h0 w t1 t2 t3 (L++[Lib.join (xs++if t.x.reset then [jfq] else []) [32]])):=by
 have pW:(t.x.cells t.r0 t.r1 t.wv)[0+14]?=some (.bool t.x.reset):=rfl;generalize t.x.cells t.r0 t.r1 t.wv=cs at g pW
 suffices key:∀(sb:Env) (v5:V) (h5:H) (ys:List (List UInt8)),Old h1 h5->SR h1.nx h5 v5 ys->ys.length<=300->(Lib.join ys [32]).length<=2000000->Run (cl d) fuel c68_5 [] ((0,.p w 0)::(3,v)::(9,v5)::(65,t1)::(66,t2)::(67,t3)::sb) h5 (WM h0 w t1 t2 t3 (L++[Lib.join ys [32]])) by
  obtain⟨C,hC⟩:∃C,C=c68_5:=⟨_,rfl⟩
  simp only[c68_11,<- hC,yH];cases hr:t.x.reset with
  |false=>
   rw[hr]at pW;refine Ga ?_;rw[hC];simpa using key _ v9 h xs o1 s9 om om
  |true=>
   rw[hr]at pW;refine Ga ?_;refine Ops.strP (h0:=h1) (l:=xs) (t:=jfq) rfl rfl o1 s9 om fun v5 h5 s5 o5 _ _=>?_;refine Ga ?_;rw[hC];refine key _ v5 h5 _ o5 s5 Zc ?_;obtain⟨x,ys,rfl⟩:=List.exists_cons_of_ne_nil hx;rw[zD rfl,List.cons_append,jck,jbU,jjw];rw[jck]at hj;simp at hj ⊢;omega
 intro sb v5 h5 ys o5 s5 hy hyj;have ej:=w_JoinS Z (d:=d) (t:=[32]) hd s5 om om;refine Ga ?_;refine Ops.strP (h0:=h0) (l:=L) (t:=Lib.join ys [32]) rfl rfl (o.trans o5) (sr.keep (zq _) o5) om fun v' h' s' o' _ _=>?_;refine Ga ?_;exact Zn ⟨rfl,v',rfl,s',o'⟩
omit Z in
theorem len_get{b:Nat}{L:List Int}(hL:∀m∈L,0<=m/\m<=1000):∀i,(jaQ ((L.take i).map fun m=>dec m.toNat)).length<=21*i+b*0:=by
 intro i;induction i with
 |zero=>simp[jaQ]
 |succ i ih=>
  rw[List.take_add_one,List.map_append,jbU,zg];cases hi:L[i]? with
  |none=>simp[jaQ]at ih ⊢;omega
  |some m=>
   have:=hL m (zc hi);have:=jbA (u:=m.toNat) om;simp[jaQ]at ih ⊢;omega
theorem iw_listen{d:Nat}{sb:Env}{ow:Nat->Nat}(hd:1<=d)(P:Pw h1)(X:XOk h1 ow n t)(wi:WiOk t.x)(hb:0<t.x.backlog)(wt:t.x.waiting.length<=64/\∀m∈t.x.waiting,0<=m/\m<=1000)(o:Old h0 h1)(sr:SR h0.nx h1 v L)(hl:L.length<=5000)(o1:Old h1 h)(s9:SR h1.nx h v9 [jcS,dec n])(hn:n<=100000) :
  Run (cl d) fuel c68_9 [.seq c68_11] ((0,.p w 0)::(3,v)::(8,.p t.wb 0)::(9,v9)::(65,t1)::(66,t2)::(67,t3)::sb) h (WM h0 w t1 t2 t3 (L++[jiw n t.x])):=by
 have lx:=X.lx;have g1:h1.get t.wb=some (.cells (t.x.cells t.r0 t.r1 t.wv) false):=X.hx;have g:h.get t.wb=some (.cells (t.x.cells t.r0 t.r1 t.wv) false):=by rw[o1.2 _ lx,g1]
 have uS:(t.x.cells t.r0 t.r1 t.wv)[0+15]?=some (.i t.x.backlog):=rfl;obtain⟨b,fD⟩:∃b:Nat,t.x.backlog=(b:Int):=⟨t.x.backlog.toNat,by omega⟩
 have iE:=wi.bl;rw[fD]at uS iE;have eI:=jdg Z (d:=d) (u:=b) hd om (P.old o1);have dn:=jbA (u:=n) om;have db:=jbA (u:=b) om;obtain⟨⟨a,c,hv,_,_,w9⟩,_⟩:=X.wait;have m_:(t.x.cells t.r0 t.r1 t.wv)[0+16]?=some (.slice a t.x.waiting.length c):=by rw[<- hv];rfl
 have qW:jiw n t.x=Lib.join (([jcS,dec n]++[jdD,dec b]++t.x.waiting.map fun m=>dec m.toNat)++if t.x.reset then [jfq] else []) [32]:=by
  rw[show (([jcS,dec n]++[jdD,dec b]++t.x.waiting.map fun m=>dec m.toNat)++if t.x.reset then [jfq] else [])=jcS::dec n::jnm t.x by unfold jnm;rw[zD hb,fD,zw];simp,jck];rfl
 rw[qW];have j4:=len_get (b:=0) wt.2;obtain⟨C,hC⟩:∃C,C=c68_11:=⟨_,rfl⟩
 rw[<- hC];refine Ga ?_;refine zcu (ob:= .cells [V.str jdD,V.str (dec b)] false) (mk:=fun b=>.slice (some (b,0)) 2 (.fix 2)) rfl rfl ?_;refine Ops.strA (h0:=h1) (l:=[jcS,dec n]) (new:=[jdD,dec b]) rfl rfl o1.new (s9.keep (zq _) (Zz h).new) om (jac _) Zd rfl Zd (fun _ _=>rfl) fun v4 h4 s4 o4 _ _=>?_;have g4:h4.get t.wb=some (.cells (t.x.cells t.r0 t.r1 t.wv) false):=by rw[o4.2 _ lx,g1]
 clear g;refine Ga ?_;refine Zq (fun m e g=>∃(i:Nat) (v5:V),m=t.x.waiting.length-i/\i<=t.x.waiting.length/\e=[(0,.p w 0),(3,v),(8,.p t.wb 0),(9,v5),(65,t1),(66,t2),(67,t3),(91,.slice a t.x.waiting.length c),(92,.i (t.x.waiting.length:Int)),(93,.i (i:Int))]/\SR h1.nx g v5 ([jcS,dec n]++[jdD,dec b]++(t.x.waiting.take i).map fun m=>dec m.toNat)/\Old h1 g)
  (k:=t.x.waiting.length) Ze ⟨0,v4,rfl,by omega,rfl,by simpa using s4,o4⟩ ?_
 rintro _ _ g ⟨i,v5,rfl,hi,rfl,s5,o5⟩ f ih;by_cases d4:(i:Int)<t.x.waiting.length
 case neg=>
  obtain rfl:i=t.x.waiting.length:=by omega
  have j4:=j4 t.x.waiting.length;rw[List.take_length]at s5 j4;clear ih w9;refine Ga ?_;rw[hC];refine joQ Z hd o sr hl o5 s5 Zd Zc ?_ (by rw[o5.2 _ lx,g1]);rw[show ([jcS,dec n]++[jdD,dec b]++t.x.waiting.map fun m=>dec m.toNat)=jcS::([dec n,jdD,dec b]++t.x.waiting.map fun m=>dec m.toNat) from rfl,jck,jbU];simp[jaQ]at j4 ⊢;omega
 obtain⟨m,hm⟩:∃m,t.x.waiting[i]?=some m:=⟨_,za om⟩
 obtain⟨m0,m1⟩:=wt.2 m (zc hm);obtain⟨u,rfl⟩:∃u:Nat,m=(u:Int):=⟨m.toNat,by omega⟩
 obtain⟨zb,zo,cs,ro,rfl,z1,z2,z3⟩:=w9 (by rintro e;rw[e]at hm;simp at hm);have gz:g.get zb=some (.cells cs ro):=by rw[o5.2 zb z1,z2]
 have hz:cs[zo+(i:Int).toNat*1]?=some (.i (u:Int)):=by
  rw[show zo+(i:Int).toNat*1=zo+i by omega];exact z3 i _ hm
 have eU:=jdg Z (d:=d) (u:=u) hd om (P.old o5);have a8:(i:Int)+1=((i+1:Nat):Int):=by omega
 have jE:=wt.1;clear w9 z3 j4;refine Ga ?_;refine Ops.strP (h0:=h1) (t:=dec u) rfl rfl o5 s5 Zc fun v6 h6 s6 o6 _ _=>?_;refine Ga ?_;rw[a8];refine ih (t.x.waiting.length-(i+1)) om _ _ ⟨i+1,v6,rfl,by omega,rfl,?_,o6⟩;rw[List.take_add_one,hm];simpa using s6
theorem iw_ends{d:Nat}{sb:Env}{ow:Nat->Nat}(hd:9<=d)(P:Pw h1)(X:XOk h1 ow n t)(wi:WiOk t.x)(hb:¬0<t.x.backlog)(o:Old h0 h1)(sr:SR h0.nx h1 v L)(hl:L.length<=5000)(o1:Old h1 h)(s9:SR h1.nx h v9 [jcS,dec n])(hn:n<=100000) :
  Run (cl d) fuel c68_10 [.seq c68_11] ((0,.p w 0)::(3,v)::(8,.p t.wb 0)::(9,v9)::(65,t1)::(66,t2)::(67,t3)::sb) h (WM h0 w t1 t2 t3 (L++[jiw n t.x])):=by
 have lx:=X.lx;have g1:h1.get t.wb=some (.cells (t.x.cells t.r0 t.r1 t.wv) false):=X.hx;have G:∀h',Old h1 h'->h'.get t.wb=some (.cells (t.x.cells t.r0 t.r1 t.wv) false):=fun h' o'=>by rw[o'.2 _ lx,g1]
 have R:∀k,k=0\/k=1 -> ∀h',Old h1 h' -> ∀q,(t.x.e k).ring=some q->ja3 h' (t.r k) (t.b k) q t.x.cap/\t.r k<h'.nx/\t.b k<h'.nx:=fun k hk h' o' q hq=>by
  obtain⟨p1,p2,p3,p4,p5⟩:=X.ring k hk q hq;have:=o'.1;exact⟨p1.keep (o'.2 _ p4) (o'.2 _ p5),by omega,by omega⟩
 have c1:=wi.cap1;have l0:∀q,t.x.e0.ring=some q->q.length<=t.x.cap:=wi.len 0 (.inl rfl);have l1:∀q,t.x.e1.ring=some q->q.length<=t.x.cap:=wi.len 1 (.inr rfl);have W0:=jfM (w:=t.x.e0.what) (s:=t.x.e0.shut) l0 c1;have W1:=jfM (w:=t.x.e1.what) (s:=t.x.e1.shut) l1 c1;have dn:=jbA (u:=n) om;have qW:jiw n t.x=Lib.join (([jcS,dec n]++jb6 t.x.e0.what t.x.e0.shut t.x.e0.ring t.x.cap++jb6 t.x.e1.what t.x.e1.shut t.x.e1.ring t.x.cap)++if t.x.reset then [jfq] else []) [32]:=by
  rw[show (([jcS,dec n]++jb6 t.x.e0.what t.x.e0.shut t.x.e0.ring t.x.cap++jb6 t.x.e1.what t.x.e1.shut t.x.e1.ring t.x.cap)++if t.x.reset then [jfq] else [])=jcS::dec n::jnm t.x by unfold jnm;rw[zC hb];simp,jck];rfl
 rw[qW];have wl:∀w s r c,(jb6 w s r c).length<=3:=fun w s r c=>by unfold jb6;cases s<;>simp
 obtain⟨vA,hA,eA,sA,oA⟩:=jm8 Z (d:=d) (r:=t.r0) (b:=t.b0) (cap:=t.x.cap) (e:=t.x.e0) (h:=h) hd (P.old o1) wi.wh.1 (R 0 (.inl rfl) h o1);have Vk:=wl t.x.e0.what t.x.e0.shut t.x.e0.ring t.x.cap;have Dg:=wl t.x.e1.what t.x.e1.shut t.x.e1.ring t.x.cap;have g:=G h o1;have gA:=G hA (o1.trans oA);have w8:(t.x.cells t.r0 t.r1 t.wv).length=17:=rfl;have k1:∀h',Old h1 h'->h'.get t.wb=some (.cells (t.x.cells t.r0 t.r1 t.wv) false):=G;obtain⟨C,hC⟩:∃C,C=c68_11:=⟨_,rfl⟩
 rw[<- hC];refine Ga ?_;refine zcw rfl g (by rw[w8];decide) ?_;refine Ga ?_;refine zcw rfl g (by rw[w8];decide) ?_;refine Zu rfl eA (jeQ rfl gA (by rw[w8];decide) rfl rfl ja9) ?_;refine Ops.strS (h0:=h1) (l:=[jcS,dec n]) rfl rfl (o1.trans oA) (s9.keep (zq _) oA) sA jfN Zc (fun h' o'=>jeQ rfl (k1 h' o') (by rw[w8];decide) rfl rfl ja9) fun vB hB sB oB _ _=>?_;obtain⟨vC,vS,eC,sC,oC⟩:=jm8 Z (d:=d) (r:=t.r1) (b:=t.b1) (cap:=t.x.cap) (e:=t.x.e1) (h:=hB) hd (P.old oB) wi.wh.2 (R 1 (.inr rfl) hB oB);refine zaw rfl eC ?_;refine Ops.strS (h0:=h1) rfl rfl (oB.trans oC) (sB.keep (zq _) oC) sC jfN Zc (fun _ _=>rfl) fun vD hD sD oD _ _=>?_;refine Ga ?_;rw[hC];refine joQ Z om o sr hl oD sD Zd Zc ?_ (G hD oD);rw[show [jcS,dec n]++jb6 t.x.e0.what t.x.e0.shut t.x.e0.ring t.x.cap++jb6 t.x.e1.what t.x.e1.shut t.x.e1.ring t.x.cap=jcS::([dec n]++jb6 t.x.e0.what t.x.e0.shut t.x.e0.ring t.x.cap++jb6 t.x.e1.what t.x.e1.shut t.x.e1.ring t.x.cap) from rfl,jck,jbU,jbU,jjw];simp only[zg,List.length_cons,List.length_nil]at W0 W1 ⊢;omega
theorem iw_12{d:Nat}{sb:Env}{ow:Nat->Nat}(hd:9<=d)(P:Pw h1)(X:XOk h1 ow n t)(wi:WiOk t.x)(wt:t.x.waiting.length<=64/\∀m∈t.x.waiting,0<=m/\m<=1000)(o:Old h0 h1)(sr:SR h0.nx h1 v L)(hl:L.length<=5000)(o1:Old h1 h)(s9:SR h1.nx h v9 [jcS,dec n])(hn:n<=100000) :
  Run (cl d) fuel c68_12 [] ((0,.p w 0)::(3,v)::(8,.p t.wb 0)::(9,v9)::(65,t1)::(66,t2)::(67,t3)::sb) h (WM h0 w t1 t2 t3 (L++[jiw n t.x])):=by
 have uS:(t.x.cells t.r0 t.r1 t.wv)[0+15]?=some (.i t.x.backlog):=rfl;have g:h.get t.wb=some (.cells (t.x.cells t.r0 t.r1 t.wv) false):=by rw[o1.2 _ X.lx];exact X.hx
 obtain⟨C9,n_⟩:∃C,C=c68_9:=⟨_,rfl⟩
 obtain⟨C10,qQ⟩:∃C,C=c68_10:=⟨_,rfl⟩
 obtain⟨C11,dO⟩:∃C,C=c68_11:=⟨_,rfl⟩
 simp only[c68_12,<- n_,<- qQ,<- dO,yD];by_cases hb:0<t.x.backlog
 .have kB:t.x.backlog>0:=hb;have T:=fun sb=>iw_listen (sb:=sb) Z (d:=d) (w:=w) (t1:=t1) (t2:=t2) (t3:=t3) om P X wi hb wt o sr hl o1 s9 hn;rw[<- n_,<- dO]at T;clear wi wt X;refine Ga ?_;exact T _
 .have kB:¬t.x.backlog>0:=hb;have T:=fun sb=>iw_ends (sb:=sb) Z (d:=d) (w:=w) (t1:=t1) (t2:=t2) (t3:=t3) hd P X wi hb o sr hl o1 s9 hn;rw[<- qQ,<- dO]at T;clear wi wt X;refine Ga ?_;exact T _
end
theorem plc_one{p:Option (Nat×Nat)}:(plc p).all V.one=true:=by cases p<;>rfl
section
variable{cl:Nat->Call}(Z:Sem cl){h h0:H}{w s:Nat}{ow:Nat->Nat}{l:List WX}{now:Int}{tb:Tb}{no:Option (Nat×Nat)}{v:V}{L:List (List UInt8)}
include Z
theorem iw_wireB{d n z:Nat}{sb:Env}{cp:Cap}(hd:9<=d)(P:Pw h)(a:WF h w s ow (fun i=>atS (wxs l) (i:Int)) l now tb no)(ok:WsOk (wxs l)){t:WX}(ht:l[n]?=some t)(hz:h.get z=some (.cells (wps l) false))(o:Old h0 h)(sr:SR h0.nx h v L)(hl:L.length<=5000) :
  Run (cl d) fuel (.block 3 c68_13) [] ((0,.p w 0)::(3,v)::(65,.slice (some (z,0)) l.length cp)::(66,.i (l.length:Int))::(67,.i (n:Int))::sb) h (WM h0 w (.slice (some (z,0)) l.length cp) (.i (l.length:Int)) (.i (n:Int)) (L++[jiw n t.x])):=by
 have X:=a.ok n t ht;have hn:=x_lt ht;have eE:=ok.len;rw[List.length_map]at eE;have hx:=jak ht;have wi:=ok.ok _ (zc hx);have wt:t.x.waiting.length<=64/\∀m∈t.x.waiting,0<=m/\m<=1000:=by
  have hx:=zc hx;refine⟨(ok.wait _ hx).1,fun m hm=>?_⟩;obtain⟨y,y0,y1,_⟩:=(ok.wait _ hx).2 m hm;have:=w_lt y1;rw[List.length_map]at this;omega
 have w2:(wps l)[0+(n:Int).toNat*1]?=some (.p t.wb 0):=by rw[show 0+(n:Int).toNat*1=n by omega];exact jda ht
 have eI:=jdg Z (d:=d) (u:=n) om om P;obtain⟨C,hC⟩:∃C,C=c68_12:=⟨_,rfl⟩
 simp only[c68_13,<- hC,yH];have lx:=X.lx;clear ok;refine Ga ?_;refine zcu (ob:= .cells [V.str jcS,V.str (dec n)] false) (mk:=fun b=>.slice (some (b,0)) 2 (.fix 2)) rfl rfl ?_;have o1:Old h (h.new (.cells [V.str jcS,V.str (dec n)] false)):=(Zz h).new;have s9:SR h.nx (h.new (.cells [V.str jcS,V.str (dec n)] false)) (.slice (some (h.nx,0)) 2 (.fix 2)) [jcS,dec n]:=⟨h.nx,_,by omega,by simp,rfl,.inr rfl,jac _⟩
 generalize h.new (.cells [V.str jcS,V.str (dec n)] false)=h1 at o1 s9 ⊢;generalize V.slice (some (h.nx,0)) 2 (.fix 2)=v9 at s9 ⊢;have T:=fun sb=>iw_12 (sb:=sb) Z (d:=d) (w:=w) (t1:= .slice (some (z,0)) l.length cp) (t2:= .i (l.length:Int)) (t3:= .i (n:Int)) hd P X wi wt o sr hl o1 s9 om;rw[<- hC]at T;clear wi wt X a;refine Ga ?_;refine Run.cut _ (T _) ?_;rintro _ _ h' ⟨rfl,v',rfl,s',o'⟩;refine Ga ?_;exact Zn ⟨rfl,v',rfl,s',o'⟩
theorem ww_Image{d:Nat}{ws:Ws}(hd:10<=d)(P:Pw h)(a:WSt h w s ow ws now tb no)(ok:WsOk ws)(hn:0<=now/\now<=18446744073709551615)(hc:tb.ok 1000000)(nt:NtOk ws (noI no) (siI no)) :
  ∃v h',cl d (.fn 68) [.p w 0] h=some (v,h')/\SR h.nx h' v (jll ws now tb.hd tb.pd no)/\Old h h':=by
 obtain⟨l,⟨a,fds⟩,rfl⟩:=a;obtain⟨u,rfl⟩:∃u:Nat,now=(u:Int):=⟨now.toNat,by omega⟩
 obtain⟨sa,c,hw,kA⟩:=a.head;have kN:=jbK Z (d:=d-1) om a;have lw:=a.lw;have eE:=ok.len;rw[List.length_map]at eE;have q1:(wc (fun i=>atS (wxs l) (i:Int)) (.slice sa l.length c) s u no)[0+290]?=some (.int .u64 (u:Int)):=jor rfl;have q0:(wc (fun i=>atS (wxs l) (i:Int)) (.slice sa l.length c) s u no)[0+288]?=some (.slice sa l.length c):=jaR rfl;have jE:=jbv (f:=fun i=>atS (wxs l) (i:Int)) (wv:= .slice sa l.length c) (s:=s) (now:=u) (no:=no);have qG:=jkA (f:=fun i=>atS (wxs l) (i:Int)) (wv:= .slice sa l.length c) (s:=s) (now:=u) (no:=no);have e1:=w_FmtU Z (d:=d-1) (u:=u) om om P;have d1:=jbA (u:=u) om;generalize wc (fun i=>atS (wxs l) (i:Int)) (.slice sa l.length c) s u no=cs at hw q1 q0 jE qG;refine aT Z ?_;obtain⟨C2,nG⟩:∃C,C=c68_2:=⟨_,rfl⟩
 obtain⟨C4,sQ⟩:∃C,C=c68_4:=⟨_,rfl⟩
 obtain⟨C13,o_⟩:∃C,C=c68_13:=⟨_,rfl⟩
 obtain⟨C17,p_⟩:∃C,C=c68_17:=⟨_,rfl⟩
 simp only[c68,c68_21,c68_20,c68_19,c68_18,c68_14,c68_3,<- nG,<- sQ,<- o_,<- p_,yB,yC,yD,yF,yH];refine Ga ?_;refine ZB rfl rfl Zc ?_;refine zcu (ob:= .cells [V.str (tNow++dec u)] false) (mk:=fun b=>.slice (some (b,0)) 1 (.fix 1)) rfl rfl ?_;have o2:Old h (h.new (.cells [V.str (tNow++dec u)] false)):=(Zz h).new;have s2:SR h.nx (h.new (.cells [V.str (tNow++dec u)] false)) (.slice (some (h.nx,0)) 1 (.fix 1)) ([tNow++dec u]++jd8 (wxs l) 0):=⟨h.nx,_,by omega,by simp,rfl,.inr rfl,jac _⟩
 generalize h.new (.cells [V.str (tNow++dec u)] false)=h2 at o2 s2 ⊢;generalize V.slice (some (h.nx,0)) 1 (.fix 1)=v2 at s2 ⊢;have qA:h2.get w=some (.cells cs false):=by rw[o2.2 _ lw,hw]
 clear e1 kN;refine Ga ?_;refine zcw rfl qA (by rw[jE];decide) ?_;rw[show 0+0=0 from rfl,qG];refine Ga ?_;refine Zq (fun m e g=>∃(i:Nat) (v:V),m=96-i/\i<=96/\e=[(0,.p w 0),(3,v),(25,.agg (jdJ fun i=>atS (wxs l) (i:Int))),(26,.i (i:Int))]/\SR h.nx g v ([tNow++dec u]++jd8 (wxs l) i)/\Old h g)
  (k:=96) Ze ⟨0,v2,rfl,by omega,rfl,s2,o2⟩ ?_
 clear o2 s2 qA;rintro _ _ g ⟨i,v,rfl,hi,rfl,sr,o⟩ f ih;have L1:=jff (wxs l) i;by_cases d4:i<96
 case pos=>
  have a8:(i:Int)+1=((i+1:Nat):Int):=by omega
  have aG:=a.old o;have PG:=P.old o;clear kA fds hc nt;refine Ga ?_;refine Ops.ixAn (m:=3) rfl rfl d4 (by rw[ja7];omega) (jgZ d4) ?_;refine zcu (ob:= .cells [.bool false,.i 0,.i 0] false) (mk:=fun b=>.p b 0) rfl rfl ?_;have o3:Old g ((g.new (.cells [.bool false,.i 0,.i 0] false)).set g.nx (.cells (plc (atS (wxs l) (i:Int))) false)):=(Zz g).new.set (zq _);have T:=iw_fd Z (d:=d-1) (t:= .agg (jdJ fun i=>atS (wxs l) (i:Int))) om (PG.old o3) (aG.old o3) ok.uniq eE d4 (jab _) Zd (o.trans o3) (sr.keep (zq _) o3) Zc;rw[<- p_]at T;refine Ga ?_;refine zct rfl rfl rfl plc_one (jac _) (by decide) ?_;rw[show jao [V.bool false,.i 0,.i 0] 0 (plc (atS (wxs l) (i:Int)))=plc (atS (wxs l) (i:Int)) from rfl];refine Ga ?_;refine Run.cut _ T ?_;rintro _ _ h' ⟨rfl,v',rfl|rfl,s',o'⟩
  all_goals
   repeat' (first|refine qxy ?_|(refine zsp ?_ ?_<;>intro _)|fail)
   rw[a8];exact ih (96-(i+1)) om _ _ ⟨i+1,v',rfl,by omega,rfl,by rw[jd8,<- List.append_assoc];exact s',o'⟩
 obtain rfl:i=96:=by omega
 have xB:¬((96:Nat):Int)<96:=by omega
 clear ih;have gw:g.get w=some (.cells cs false):=by rw[o.2 w lw,hw]
 refine Ga ?_;refine Zq (fun m e g=>∃(i:Nat) (v:V),m=l.length-i/\i<=l.length/\e=[(0,.p w 0),(3,v),(65,.slice sa l.length c),(66,.i (l.length:Int)),(67,.i (i:Int))]/\SR h.nx g v ([tNow++dec u]++jd8 (wxs l) 96++jh5 (wxs l) i)/\Old h g)
  (k:=l.length) Ze ⟨0,v,rfl,by omega,rfl,by simpa[jh5] using sr,o⟩ ?_
 clear o sr v g gw;rintro _ _ g ⟨i,v,rfl,hi,rfl,sr,o⟩ f ih;have L2:=jgs (wxs l) i;by_cases d4:i<l.length
 case pos=>
  have xB:(i:Int)<(l.length:Int):=by omega
  have a8:(i:Int)+1=((i+1:Nat):Int):=by omega
  obtain⟨t,ht⟩:∃t,l[i]?=some t:=⟨_,za d4⟩
  obtain⟨z,rfl,z1,z2,z3⟩:=kA (by rintro rfl;simp at d4);have T:=fun sb=>iw_wireB (sb:=sb) Z (d:=d-1) (cp:=c) om (P.old o) (a.old o) ok ht (by rw[o.2 z z1,z3]) o sr (by simp at L1 L2 ⊢;omega);rw[<- o_]at T;clear kA fds hc nt;refine qb ?_;refine Run.cut _ (T _) ?_;rintro _ _ h' ⟨rfl,v',rfl,s',o'⟩;refine Ga ?_;rw[a8];refine ih (l.length-(i+1)) om _ _ ⟨i+1,v',rfl,by omega,rfl,?_,o'⟩;rw[jh5,jak ht,<- List.append_assoc];exact s'
 obtain rfl:i=l.length:=by omega
 have xB:¬(l.length:Int)<(l.length:Int):=by omega
 clear ih;refine Ga ?_;refine Zq (fun m e g=>∃(i:Nat) (v:V),m=31-i/\i<=31/\e=[(0,.p w 0),(3,v),(12,.i ((i+1:Nat):Int))]/\SR h.nx g v ([tNow++dec u]++jd8 (wxs l) 96++jh5 (wxs l) l.length++jdI tb.hd tb.pd i)/\Old h g)
  (k:=31) Ze ⟨0,v,rfl,by omega,rfl,by simpa[jdI] using sr,o⟩ ?_
 clear o sr v g;rintro _ _ g ⟨i,v,rfl,hi,rfl,sr,o⟩ f ih;have L3:=jej tb.hd tb.pd i;by_cases d4:i<31
 case pos=>
  have xB:((i+1:Nat):Int)<=31:=by omega
  have a8:((i+1:Nat):Int)+1=((i+1+1:Nat):Int):=by omega
  have T:=fun sb=>iw_sig (sb:=sb) Z (d:=d-1) (sg:=i+1) om (P.old o) (a.old o) om om hc o sr (by simp at L1 L2 L3 ⊢;omega);rw[<- nG]at T;clear kA fds hc nt;refine qb ?_;refine Run.cut _ (T _) ?_;rintro _ _ h' ⟨rfl,v',sb',rfl,s',o'⟩;refine Ga ?_;rw[a8];exact ih (31-(i+1)) om _ _ ⟨i+1,v',rfl,by omega,rfl,by rw[jdI,<- List.append_assoc];exact s',o'⟩
 obtain rfl:i=31:=by omega
 have xB:¬((31+1:Nat):Int)<=31:=by omega
 clear ih kA hc;refine Ga ?_;rw[sQ];refine Zy (iw_end Z (d:=d-1) om (P.old o) (a.old o) nt eE o sr (by simp at L1 L2 L3 ⊢;omega)) fun x h' ⟨s',o'⟩=>⟨?_,o'⟩
 unfold jll;rw[List.length_map];exact s'
end
section
variable{cl:Nat->Call}(Z:Sem cl)
include Z
def LM(h0:H)(rw n:Nat)(l:List (List UInt8))(s:List UInt8):Post:=fun x e h'=>x = .normal/\∃v',e=[(0,.p rw 0),(3,v'),(7,.i (n:Int))]/\SR h0.nx h' v' (l++[s])/\Old h0 h'
omit Z in
theorem joR{cl:Nat->Call}{d n bx rw:Nat}{v:V}{l:List (List UInt8)}{s:List UInt8}{r:RX}{h h0:H}{sb:Env}(o:Old h0 h)(g:h.get bx=some (.cells r.cells false))(sr:SR h0.nx h v l)(hl:l.length<=5000)(hs:s.length<=900000) :
  Run (cl d) fuel c69_9 [] ((0,.p rw 0)::(3,v)::(7,.i (n:Int))::(8,.p bx 0)::(9,.str s)::sb) h (LM h0 rw n l (s++jaQ (if r.x.reset then [jfq] else []))):=by
 have q_:r.cells[0+17]?=some (.bool r.x.reset):=rfl;cases hr:r.x.reset with
 |false=>
  rw[hr]at q_;refine Ga ?_;refine Ops.strP (h0:=h0) (l:=l) (t:=s) rfl rfl o sr om fun v' h' s' o' _ _=>?_;refine Ga ?_;exact Zn ⟨rfl,v',rfl,by simpa[jaQ] using s',o'⟩
 |true=>
  rw[hr]at q_;refine Ga ?_;refine ZB rfl rfl Zc ?_;refine Ga ?_;refine Ops.strP (h0:=h0) (l:=l) (t:=s++[32,114,101,115,101,116]) rfl rfl o sr om fun v' h' s' o' _ _=>?_;refine Ga ?_;exact Zn ⟨rfl,v',rfl,by simpa[jaQ] using s',o'⟩
theorem im_wire{d n bx rw q:Nat}{v:V}{l:List (List UInt8)}{r:RX}{h h0:H}(hd:5<=d)(o:Old h0 h)(g:h.get bx=some (.cells r.cells false))(lb:bx<h.nx)(A:ROk h rw q r)(wi:WiOk r.x)(wt:r.x.waiting.length<=64/\∀m∈r.x.waiting,0<=m/\m<=1000)(sr:SR h0.nx h v l)(hl:l.length<=5000)(hn:n<=100000) :
  Run (cl d) fuel c69_10 [] [(0,.p rw 0),(3,v),(7,.i (n:Int)),(8,.p bx 0)] h (LM h0 rw n l (jiw n r.x)):=by
 have r_:r.cells[0+18]?=some (.i r.x.backlog):=rfl;have Eg:r.cells[0+19]?=some r.vw:=rfl;have m_:r.cells[0+16]?=some (.i (r.x.cap:Int)):=rfl;obtain⟨h1,e1,o1⟩:=jbO Z (d:=d) (u:=n) (h:=h) om om;have dl:=jbA (u:=n) om;have g1:h1.get bx=some (.cells r.cells false):=by rw[o1.2 bx lb,g]
 have cL:=o.trans o1;have s1:=sr.keep (zq _) o1;have n1:=o1.1;obtain⟨C,hC⟩:∃C,C=c69_9:=⟨_,rfl⟩
 simp only[c69_10,<- hC,uF];unfold jiw jnm;rw[show jaQ (dec n::((if 0<r.x.backlog then [jdD,dec r.x.backlog.toNat]++r.x.waiting.map (fun m=>dec m.toNat) else jb6 r.x.e0.what r.x.e0.shut r.x.e0.ring r.x.cap++jb6 r.x.e1.what r.x.e1.shut r.x.e1.ring r.x.cap)++if r.x.reset then [jfq] else []))=32::dec n++(jaQ (if 0<r.x.backlog then [jdD,dec r.x.backlog.toNat]++r.x.waiting.map (fun m=>dec m.toNat) else jb6 r.x.e0.what r.x.e0.shut r.x.e0.ring r.x.cap++jb6 r.x.e1.what r.x.e1.shut r.x.e1.ring r.x.cap)++jaQ (if r.x.reset then [jfq] else [])) by
  rw[<- jbU];simp[jaQ]]
 rw[<- List.append_assoc,<- List.append_assoc];refine Ga ?_;refine ZB rfl rfl Zc ?_;by_cases hb:0<r.x.backlog
 .have kB:r.x.backlog>0:=hb;rw[zD hb];obtain⟨b,fD⟩:∃b:Nat,r.x.backlog=(b:Int):=⟨r.x.backlog.toNat,by omega⟩
  rw[fD]at r_ kB ⊢;have:=wi.bl;obtain⟨h2,e2,o2⟩:=jbO Z (d:=d) (u:=b) (h:=h1) om om;have Wk:=jbA (u:=b) om;have g2:h2.get bx=some (.cells r.cells false):=by rw[o2.2 bx om,g1]
  have mW:=cL.trans o2;have s2:=s1.keep (zq _) o2;have uE:=o1.trans o2;obtain⟨⟨a,c,hv,_,_,w9⟩,s_⟩:=A.w;rw[hv]at Eg s_;clear e1 s1 g A;refine Ga ?_;refine ZB rfl rfl Zc ?_;refine Ga ?_;refine ZB rfl rfl Zc ?_;refine Ga ?_;have key:∀i,(jaQ ((r.x.waiting.take i).map fun m=>dec m.toNat)).length<=21*i:=by
   intro i;induction i with
   |zero=>simp[jaQ]
   |succ i ih=>
    rw[List.take_add_one,List.map_append,jbU,zg];cases hi:r.x.waiting[i]? with
    |none=>simp[jaQ]at ih ⊢;omega
    |some m=>
     have:=wt.2 m (zc hi);have:=jbA (u:=m.toNat) om;simp[jaQ]at ih ⊢;omega
  refine Zq (fun m e g=>∃i:Nat,m=r.x.waiting.length-i/\i<=r.x.waiting.length/\e=[(0,.p rw 0),(3,v),(7,.i (n:Int)),(8,.p bx 0),(9,.str (jcS++32::dec n++[32,108,105,115,116,101,110,32]++dec b++jaQ ((r.x.waiting.take i).map fun m=>dec m.toNat))),(10,.i (i:Int))]/\Old h2 g)
   (k:=r.x.waiting.length) Ze ⟨0,rfl,by omega,by simp[jaQ],Zz _⟩ ?_
  rintro _ _ g3 ⟨i,rfl,hi,rfl,o3⟩ f ih;have n2:=o2.1;have n3:=o3.1;have lS:g3.get bx=some (.cells r.cells false):=by rw[o3.2 bx om,g2]
  have hk:=key i;by_cases d4:(i:Int)<r.x.waiting.length
  case neg=>
   obtain rfl:i=r.x.waiting.length:=by omega
   rw[List.take_length]at hk ⊢;clear ih w9;refine Ga ?_;rw[hC];have T:=joR (cl:=cl) (d:=d) (n:=n) (bx:=bx) (rw:=rw) (v:=v) (l:=l) (s:=jcS++32::dec n++[32,108,105,115,116,101,110,32]++dec b++jaQ (r.x.waiting.map fun m=>dec m.toNat)) (r:=r) (sb:=[(10,.i (r.x.waiting.length:Int)),(86,.bool false)]) (mW.trans o3) lS (s2.keep (zq _) o3) hl Zc;simpa[jaQ] using T
  obtain⟨m,hm⟩:∃m,r.x.waiting[i]?=some m:=⟨_,za om⟩
  obtain⟨m0,m1⟩:=wt.2 m (zc hm);obtain⟨u,rfl⟩:∃u:Nat,m=(u:Int):=⟨m.toNat,by omega⟩
  obtain⟨zb,zo,cs,ro,rfl,z1,z2,z3⟩:=w9 (by rintro e;rw[e]at hm;simp at hm);have gz:g3.get zb=some (.cells cs ro):=by rw[o3.2 zb om,uE.2 zb z1,z2]
  have hz:cs[zo+(i:Int).toNat*1]?=some (.i (u:Int)):=by
   rw[show zo+(i:Int).toNat*1=zo+i by omega];exact z3 i _ hm
  obtain⟨h4,e4,o4⟩:=jbO Z (d:=d) (u:=u) (h:=g3) om om;have Xk:=jbA (u:=u) om;have Fg:jaQ ((r.x.waiting.take (i+1)).map fun m=>dec m.toNat)=jaQ ((r.x.waiting.take i).map fun m=>dec m.toNat)++[32]++dec u:=by
   rw[List.take_add_one,hm,List.map_append,jbU];simp[jaQ]
  have a8:(i:Int)+1=((i+1:Nat):Int):=by omega
  clear w9 e2 s2 g2 z3 s_;refine Ga ?_;refine ZB rfl rfl (by simp at hk ⊢;omega) ?_;refine Ga ?_;refine ZB rfl rfl (by simp at hk ⊢;omega) ?_;refine Ga ?_;rw[a8];exact ih (r.x.waiting.length-(i+1)) om _ _ ⟨i+1,rfl,by omega,by rw[Fg];simp,o3.trans o4⟩
 .have kB:¬r.x.backlog>0:=hb;rw[zC hb];obtain⟨b0,f0⟩:=A.b 0 (.inl rfl);obtain⟨b1,f1⟩:=A.b 1 (.inr rfl);have l0:∀q,r.x.e0.ring=some q->q.length<=r.x.cap:=wi.len 0 (.inl rfl);have l1:∀q,r.x.e1.ring=some q->q.length<=r.x.cap:=wi.len 1 (.inr rfl);have c1:=wi.cap1;have W0:=jfM (w:=r.x.e0.what) (s:=r.x.e0.shut) l0 c1;have W1:=jfM (w:=r.x.e1.what) (s:=r.x.e1.shut) l1 c1;have glen:∀(z:Option (List UInt8)),(∀q,z=some q->q.length<=r.x.cap)->(z.getD []).length<=90000:=by
   intro z hz;cases z with
   |none=>simp
   |some q=>have:=hz q rfl;simp only[Option.getD_some];omega
  obtain⟨h2,e2,o2⟩:=jp8 Z (d:=d) (cap:=r.x.cap) (e:=r.x.e0) (v:=r.v0) (h:=h1) om wi.wh.1 (b0.keep o1.1 fun z hz=>o1.2 z (f0 z hz).2.2) (fun z hz=>zr (f0 z hz).2.2 o1.1) (glen _ l0) om;have uE:=o1.trans o2;obtain⟨h3,e3,o3⟩:=jp8 Z (d:=d) (cap:=r.x.cap) (e:=r.x.e1) (v:=r.v1) (h:=h2) om wi.wh.2 (b1.keep uE.1 fun z hz=>uE.2 z (f1 z hz).2.2) (fun z hz=>zr (f1 z hz).2.2 uE.1) (glen _ l1) om;have n2:=o2.1;have n3:=o3.1;have g2:h2.get bx=some (.cells r.cells false):=by rw[o2.2 bx om,g1]
  have g3:h3.get bx=some (.cells r.cells false):=by rw[o3.2 bx om,g2]
  have j0:=jmV (jfN (w:=r.x.e0.what) (s:=r.x.e0.shut) (r:=r.x.e0.ring) (c:=r.x.cap));have j1:=jmV (jfN (w:=r.x.e1.what) (s:=r.x.e1.shut) (r:=r.x.e1.ring) (c:=r.x.cap));generalize Lib.join (jb6 r.x.e0.what r.x.e0.shut r.x.e0.ring r.x.cap) [32]=J0 at e2 j0;generalize Lib.join (jb6 r.x.e1.what r.x.e1.shut r.x.e1.ring r.x.cap) [32]=J1 at e3 j1;rw[jbU,<- j0,<- j1];rw[<- j0]at W0;rw[<- j1]at W1;simp only[zg,List.length_singleton]at W0 W1;have s3:=(s1.keep (zq _) o2).keep (zq _) o3;have w8:r.cells.length=20:=RX.len r;clear e1 s1 g A b0 b1 f0 f1 l0 l1 glen;have t0:(r.cells.drop (0+0+0)).take 8=r.x.e0.rcells r.v0:=rfl;have t1:(r.cells.drop (0+0+8)).take 8=r.x.e1.rcells r.v1:=rfl;refine Ga ?_;refine ZB rfl rfl Zc ?_;refine Ga ?_;refine zcw rfl g1 (by rw[w8];decide) ?_;refine Ga ?_;refine zcw rfl g1 (by rw[w8];decide) ?_;refine Ga ?_;refine Zu rfl e2 (jeQ rfl g2 (by rw[w8];decide) rfl rfl (jau rfl g2 m_ rfl ja9)) ?_;refine ZB rfl rfl Zc ?_;refine ZB rfl rfl Zc ?_;refine Zu rfl e3 ja9 ?_;refine ZB rfl rfl Zc ?_;refine Ga ?_;rw[hC];have T:=joR (cl:=cl) (d:=d) (n:=n) (bx:=bx) (rw:=rw) (v:=v) (l:=l) (s:=jcS++32::dec n++[32]++J0++[32]++J1) (r:=r) (sb:=[]) ((cL.trans o2).trans o3) g3 s3 hl Zc;simpa using T
end
section
variable{cl:Nat->Call}(Z:Sem cl)
include Z
theorem im_end{d rw q:Nat}{v:V}{l:List RX}{L:List (List UInt8)}{now:Int}{hdl:Nat->Bool}{ct:Nat->Int}{no:Option (Nat×Nat)}{h h0:H}{sb:Env}(hd:3<=d)(w:RW h rw q l (tail now hdl ct (noI no) (siI no)))(nt:NtOk (l.map RX.x) (noI no) (siI no))(j4:l.length<=1000)(o:Old h0 h)(sr:SR h0.nx h v L)(hl:L.length<=5000) :
  Run (cl d) fuel c69_4 [] ((0,.p rw 0)::(3,v)::sb) h (Fin c69.res fun x h'=>SR h0.nx h' x (L++jme no)/\Old h0 h'):=by
 obtain⟨a,c,hw,_⟩:=w.head;have rW:(V.slice a l.length c::tail now hdl ct (noI no) (siI no))[0+66]?=some (.i (noI no)):=t_no rfl;have wS:(V.slice a l.length c::tail now hdl ct (noI no) (siI no))[0+67]?=some (.i (siI no)):=t_si rfl;have lw:=w.lw;cases no with
 |none=>
  have hn:¬noI none>=0:=by simp[noI]
  refine Ga ?_;exact⟨by simpa[jme] using sr,o⟩
 |some p=>
  have rW:(V.slice a l.length c::tail now hdl ct (noI (some p)) (siI (some p)))[0+66]?=some (.i (p.1:Int)):=rW;have wS:(V.slice a l.length c::tail now hdl ct (noI (some p)) (siI (some p)))[0+67]?=some (.i (p.2:Int)):=wS;have hn:(p.1:Int)>=0:=by omega
  have hp:p.1<=1000/\p.2<=1:=by
   rcases nt with e|⟨n,k,x,h1,h2,h3,h4,_⟩
   .have e:(p.1:Int) = -1:=e;omega
   .have h1:(p.1:Int)=n:=h1;have h2:(p.2:Int)=k:=h2;have:=w_lt h4;rw[List.length_map]at this;omega
  clear nt w;generalize V.slice a l.length c::tail now hdl ct (noI (some p)) (siI (some p))=cs at hw rW wS;refine Ga ?_;refine Zo ?_;have oG:Old h (h.reserve 1):=⟨by simp,fun j _=>H.get_reserve ..⟩
  have xG:(h.reserve 1).nx=h.nx+1:=by simp
  have sG:=sr.keep (zq _) oG;generalize h.reserve 1=G at oG xG sG ⊢;have gG:G.get rw=some (.cells cs false):=by rw[oG.2 _ lw,hw]
  obtain⟨h1,e1,o1⟩:=jbO Z (d:=d) (u:=p.1) (h:=G) om om;have g1:h1.get rw=some (.cells cs false):=by rw[o1.2 _ om,gG]
  obtain⟨h2,e2,o2⟩:=jbO Z (d:=d) (u:=p.2) (h:=h1) om om;have d1:=jbA (u:=p.1) om;have d2:=jbA (u:=p.2) om;have n1:=o1.1;have n2:=o2.1;have n0:=o.1;refine Ga ?_;refine Zu rfl e1 (jau rfl g1 wS rfl ja9) ?_;refine ZB rfl rfl Zc ?_;refine ZB rfl rfl Zc ?_;refine Ga ?_;refine ZB rfl rfl Zc ?_;refine Ops.strP_at (h0:=h0) (l:=L) (t:=tNo++dec p.1++[32]++dec p.2) rfl rfl (((o.trans oG).trans o1).trans o2) ((sG.keep (zq _) o1).keep (zq _) o2) om om (fun e=>by have:=(sr.at_ge e).2;omega) om fun v' h' s' o' _ _=>?_;refine Ga ?_;exact⟨s',o'⟩
theorem im_sig{sb:Env}{d rw q s:Nat}{v:V}{l:List RX}{L:List (List UInt8)}{now no si:Int}{hdl:Nat->Bool}{ct:Nat->Int}{h h0:H}(hd:3<=d)(w:RW h rw q l (tail now hdl ct no si))(hs:s<32)(hc:0<=ct s/\ct s<=1000000)(o:Old h0 h)(sr:SR h0.nx h v L)(hl:L.length<=5000) :
  Run (cl d) fuel (.block 7 c69_2) [] ((0,.p rw 0)::(3,v)::(11,.i (s:Int))::sb) h (BM h0 rw 11 s (L++if hdl s then [tSig++dec s++[32]++dec (ct s).toNat] else [])):=by
 obtain⟨a,c,hw,_⟩:=w.head;have q1:(V.slice a l.length c::tail now hdl ct no si)[0+2+(s:Int).toNat*1]?=some (.bool (hdl s)):=t_hd hs om;have q2:(V.slice a l.length c::tail now hdl ct no si)[0+34+(s:Int).toNat*1]?=some (.i (ct s)):=t_ct hs om;have lw:=w.lw;generalize V.slice a l.length c::tail now hdl ct no si=cs at hw q1 q2;cases hh:hdl s with
 |false=>
  rw[hh]at q1;refine Ga ?_;exact Zn ⟨rfl,v,_,rfl,by simpa using sr,o⟩
 |true=>
  rw[hh]at q1;obtain⟨u,hu⟩:∃u:Nat,ct s=(u:Int):=⟨(ct s).toNat,by omega⟩
  rw[hu]at q2 ⊢;refine Ga ?_;refine Zo ?_;have oG:Old h (h.reserve 1):=⟨by simp,fun j _=>H.get_reserve ..⟩
  have xG:(h.reserve 1).nx=h.nx+1:=by simp
  have sG:=sr.keep (zq _) oG;generalize h.reserve 1=G at oG xG sG ⊢;have gG:G.get rw=some (.cells cs false):=by rw[oG.2 _ lw,hw]
  obtain⟨h1,e1,o1⟩:=jbO Z (d:=d) (u:=s) (h:=G) om om;have g1:h1.get rw=some (.cells cs false):=by rw[o1.2 _ om,gG]
  obtain⟨h2,e2,o2⟩:=jbO Z (d:=d) (u:=u) (h:=h1) om om;have d1:=jbA (u:=s) om;have d2:=jbA (u:=u) om;have n1:=o1.1;have n2:=o2.1;have n0:=o.1;refine Ga ?_;refine Zu rfl e1 (jau rfl g1 q2 rfl ja9) ?_;refine ZB rfl rfl Zc ?_;refine ZB rfl rfl Zc ?_;refine Ga ?_;refine ZB rfl rfl Zc ?_;refine Ops.strP_at (h0:=h0) (l:=L) (t:=tSig++dec s++[32]++dec u) rfl rfl (((o.trans oG).trans o1).trans o2) ((sG.keep (zq _) o1).keep (zq _) o2) om om (fun e=>by have:=(sr.at_ge e).2;omega) om fun v' h' s' o' _ _=>?_;refine Ga ?_;exact Zn ⟨rfl,v',_,rfl,by simpa using s',o'⟩
theorem im_fd{sb:Env}{d rw q n:Nat}{v:V}{l:List RX}{L:List (List UInt8)}{tl:List V}{h h0:H}(hd:3<=d)(w:RW h rw q l tl)(ok:WsOk (l.map RX.x))(hn:n<96)(o:Old h0 h)(sr:SR h0.nx h v L)(hl:L.length<=5000) :
  Run (cl d) fuel (.block 1 c69_15) [] ((0,.p rw 0)::(3,v)::(4,.i (n:Int))::sb) h (BM h0 rw 4 n (L++jiR (l.map RX.x) n)):=by
 rcases jdQ Z (d:=d) (fd:=(n:Int)) om w ok with⟨j5,ea⟩|⟨m,k,r,d7,hr,hk,ea⟩
 .have hS:jiR (l.map RX.x) n=[]:=jaD j5;rw[hS,List.append_nil];refine Ga ?_;exact Zn ⟨rfl,v,_,rfl,sr,o⟩
 .have hS:jiR (l.map RX.x) n=[tFd++dec n++jlH++dec m++tEnd++dec (endK r.x k)]:=jaA ok.uniq d7 (jaN hr);rw[hS];obtain⟨hw,hq,_⟩:=w.rat hr;have r_:=jid hr;have hm:=r_lt hr;have fE:=ok.len;rw[List.length_map]at fE;obtain⟨h1,e1,o1⟩:=jbO Z (d:=d) (u:=n) (h:=h) om om;obtain⟨h2,e2,o2⟩:=jbO Z (d:=d) (u:=m) (h:=h1) om om;have nB:endK r.x k<=2:=by unfold endK;split<;>omega
  obtain⟨h3,e3,o3⟩:=jbO Z (d:=d) (u:=endK r.x k) (h:=h2) om om;have d1:=jbA (u:=n) om;have d2:=jbA (u:=m) om;have d3:=jbA (u:=endK r.x k) om;have O:=((o.trans o1).trans o2).trans o3;have S:=((sr.keep (zq _) o1).keep (zq _) o2).keep (zq _) o3;have gC:¬(m:Int)<0:=by omega
  clear ok w hS;by_cases hb:r.x.backlog>0
  .have ek:endK r.x k=2:=zD hb;rw[ek]at e3 d3 ⊢;have e3:cl d (.fn 136) [.i 2] h2=some (.str (dec 2),h3):=e3;refine Ga ?_;refine ZB rfl rfl Zc ?_;refine ZB rfl rfl Zc ?_;refine Ga ?_;refine ZB rfl rfl Zc ?_;refine ZB rfl rfl Zc ?_;refine Ga ?_;refine ZB rfl rfl Zc ?_;refine Ops.strP (h0:=h0) (l:=L) (t:=tFd++dec n++jlH++dec m++tEnd++dec 2) rfl rfl O S om fun v' h' s' o' _ _=>?_;refine Ga ?_;exact Zn ⟨rfl,v',_,rfl,s',o'⟩
  .have ek:endK r.x k=k:=zC hb;rw[ek]at e3 d3 ⊢;refine Ga ?_;refine ZB rfl rfl Zc ?_;refine ZB rfl rfl Zc ?_;refine Ga ?_;refine ZB rfl rfl Zc ?_;refine ZB rfl rfl Zc ?_;refine Ga ?_;refine ZB rfl rfl Zc ?_;refine Ops.strP (h0:=h0) (l:=L) (t:=tFd++dec n++jlH++dec m++tEnd++dec k) rfl rfl O S om fun v' h' s' o' _ _=>?_;refine Ga ?_;exact Zn ⟨rfl,v',_,rfl,s',o'⟩
end
section
variable{cl:Nat->Call}(Z:Sem cl)
include Z
theorem im_wireB{sb:Env}{d rw q n:Nat}{v:V}{l:List RX}{L:List (List UInt8)}{tl:List V}{r:RX}{h h0:H}(hd:5<=d)(w:RW h rw q l tl)(ok:WsOk (l.map RX.x))(hr:l[n]?=some r)(o:Old h0 h)(sr:SR h0.nx h v L)(hl:L.length<=5000) :
  Run (cl d) fuel (.block 3 c69_11) [] ((0,.p rw 0)::(3,v)::(7,.i (n:Int))::sb) h (BM h0 rw 7 n (L++[jiw n r.x])):=by
 obtain⟨hw,hq,_⟩:=w.rat hr;have hn:=r_lt hr;have cI:=ok.len;rw[List.length_map]at cI;have A:=w.rok hr;obtain⟨v0ok,_⟩:=A.b 0 (.inl rfl);obtain⟨v1ok,_⟩:=A.b 1 (.inr rfl);obtain⟨vwok,_⟩:=A.w;have m9:=RX.cells_one (r:=r) v0ok.one v1ok.one vwok.one;have aV:=jia (o:=0+(n:Int).toNat*20) hr om;have wt:r.x.waiting.length<=64/\∀m∈r.x.waiting,0<=m/\m<=1000:=by
  have hx:=zc (jaN hr);refine⟨(ok.wait _ hx).1,fun m hm=>?_⟩;obtain⟨y,y0,y1,_⟩:=(ok.wait _ hx).2 m hm;have:=w_lt y1;rw[List.length_map]at this;omega
 obtain⟨C,hC⟩:∃C,C=c69_10:=⟨_,rfl⟩
 simp only[c69_11,<- hC,yB];refine Ga ?_;refine zcw rfl hq (by rw[ja1];omega) ?_;rw[aV];refine zcu (ob:= .cells [.i 0,.i 0,.bool false,.bool false,.nils,.bool false,.int .u64 0,.int .u64 0,.i 0,.i 0,.bool false,.bool false,.nils,.bool false,.int .u64 0,.int .u64 0,.i 0,.bool false,.i 0,.nils] false) (mk:=fun b=>.p b 0) rfl rfl ?_;refine zct rfl rfl (RX.len r) m9 (jac _) (by decide) ?_;rw[jcn _ _ (by rw[RX.len];rfl)];have o1:Old h ((h.new (.cells [.i 0,.i 0,.bool false,.bool false,.nils,.bool false,.int .u64 0,.int .u64 0,.i 0,.i 0,.bool false,.bool false,.nils,.bool false,.int .u64 0,.int .u64 0,.i 0,.bool false,.i 0,.nils] false)).set h.nx (.cells r.cells false)):=(Zz h).new.set (zq _);have g1:((h.new (.cells [.i 0,.i 0,.bool false,.bool false,.nils,.bool false,.int .u64 0,.int .u64 0,.i 0,.i 0,.bool false,.bool false,.nils,.bool false,.int .u64 0,.int .u64 0,.i 0,.bool false,.i 0,.nils] false)).set h.nx (.cells r.cells false)).get h.nx=some (.cells r.cells false):=jab _;have n1:h.nx<((h.new (.cells [.i 0,.i 0,.bool false,.bool false,.nils,.bool false,.int .u64 0,.int .u64 0,.i 0,.i 0,.bool false,.bool false,.nils,.bool false,.int .u64 0,.int .u64 0,.i 0,.bool false,.i 0,.nils] false)).set h.nx (.cells r.cells false)).nx:=by simp
 generalize (h.new (.cells [.i 0,.i 0,.bool false,.bool false,.nils,.bool false,.int .u64 0,.int .u64 0,.i 0,.i 0,.bool false,.bool false,.nils,.bool false,.int .u64 0,.int .u64 0,.i 0,.bool false,.i 0,.nils] false)).set h.nx (.cells r.cells false)=h1 at o1 g1 n1 ⊢;refine Ga ?_;rw[hC];refine Run.cut (LM h0 rw n L (jiw n r.x)) (im_wire Z (d:=d) hd (o.trans o1) g1 n1 (A.keep o1.ch) (ok.wi hr) wt (sr.keep (zq _) o1) hl om) ?_;rintro _ _ h' ⟨rfl,v',rfl,s',o'⟩;refine Ga ?_;exact Zn ⟨rfl,v',_,rfl,s',o'⟩
theorem rq_Image{d rw q:Nat}{l:List RX}{now:Int}{hdl:Nat->Bool}{ct:Nat->Int}{no:Option (Nat×Nat)}{h:H}(hd:6<=d)(w:RW h rw q l (tail now hdl ct (noI no) (siI no)))(ok:WsOk (l.map RX.x))(hn:0<=now/\now<=18446744073709551615)(hc:∀i,0<=ct i/\ct i<=1000000)(nt:NtOk (l.map RX.x) (noI no) (siI no)) :
  ∃v h',cl d (.fn 69) [.p rw 0] h=some (v,h')/\SR h.nx h' v (jll (l.map RX.x) now hdl ct no)/\Old h h':=by
 obtain⟨u,rfl⟩:∃u:Nat,now=(u:Int):=⟨now.toNat,by omega⟩
 obtain⟨a,c,hw,_⟩:=w.head;have q1:(V.slice a l.length c::tail u hdl ct (noI no) (siI no))[0+1]?=some (.int .u64 (u:Int)):=rfl;have q0:(V.slice a l.length c::tail u hdl ct (noI no) (siI no))[0+0]?=some (.slice a l.length c):=rfl;have lw:=w.lw;have eE:=ok.len;rw[List.length_map]at eE;obtain⟨h1,e1,o1⟩:=jkH Z (d:=d-1) (u:=u) (h:=h) om om;have d1:=jbA (u:=u) om;have w1:=w.old o1;refine aT Z ?_;obtain⟨C2,nG⟩:∃C,C=c69_2:=⟨_,rfl⟩
 obtain⟨C4,sQ⟩:∃C,C=c69_4:=⟨_,rfl⟩
 obtain⟨C11,dO⟩:∃C,C=c69_11:=⟨_,rfl⟩
 obtain⟨C15,eO⟩:∃C,C=c69_15:=⟨_,rfl⟩
 simp only[c69,c69_18,c69_17,c69_16,c69_12,c69_3,<- nG,<- sQ,<- dO,<- eO,uF,yB,yH];refine Ga ?_;refine ZB rfl rfl Zc ?_;refine zcu (ob:= .cells [V.str (tNow++dec u)] false) (mk:=fun b=>.slice (some (b,0)) 1 (.fix 1)) rfl rfl ?_;have o2:Old h (h1.new (.cells [V.str (tNow++dec u)] false)):=o1.new;have s2:SR h.nx (h1.new (.cells [V.str (tNow++dec u)] false)) (.slice (some (h1.nx,0)) 1 (.fix 1)) ([tNow++dec u]++jd8 (l.map RX.x) 0):=⟨h1.nx,_,o1.1,by simp,rfl,.inr rfl,jac _⟩
 generalize h1.new (.cells [V.str (tNow++dec u)] false)=h2 at o2 s2 ⊢;generalize V.slice (some (h1.nx,0)) 1 (.fix 1)=v2 at s2 ⊢;clear e1 w1;refine Ga ?_;refine Zq (fun m e g=>∃(i:Nat) (v:V),m=96-i/\i<=96/\e=[(0,.p rw 0),(3,v),(4,.i (i:Int))]/\SR h.nx g v ([tNow++dec u]++jd8 (l.map RX.x) i)/\Old h g)
  (k:=96) Ze ⟨0,v2,rfl,by omega,rfl,s2,o2⟩ ?_
 clear o2 s2;rintro _ _ g ⟨i,v,rfl,hi,rfl,sr,o⟩ f ih;have L1:=jff (l.map RX.x) i;by_cases d4:i<96
 case pos=>
  have xB:(i:Int)<=95:=by omega
  have a8:(i:Int)+1=((i+1:Nat):Int):=by omega
  refine qb ?_;have T:=fun sb=>im_fd (sb:=sb) Z (d:=d-1) om (w.old o) ok d4 o sr Zc;rw[<- eO]at T;refine Run.cut _ (T _) ?_;rintro _ _ h' ⟨rfl,v',sb',rfl,s',o'⟩;refine Ga ?_;rw[a8];exact ih (96-(i+1)) om _ _ ⟨i+1,v',rfl,by omega,rfl,by rw[jd8,<- List.append_assoc];exact s',o'⟩
 obtain rfl:i=96:=by omega
 have xB:¬((96:Nat):Int)<=95:=by omega
 clear ih;refine Ga ?_;refine Zq (fun m e g=>∃(i:Nat) (v:V),m=l.length-i/\i<=l.length/\e=[(0,.p rw 0),(3,v),(7,.i (i:Int))]/\SR h.nx g v ([tNow++dec u]++jd8 (l.map RX.x) 96++jh5 (l.map RX.x) i)/\Old h g)
  (k:=l.length) Ze ⟨0,v,rfl,by omega,rfl,by simpa[jh5] using sr,o⟩ ?_
 clear o sr v g;rintro _ _ g ⟨i,v,rfl,hi,rfl,sr,o⟩ f ih;have L2:=jgs (l.map RX.x) i;have gw:g.get rw=_:=(o.2 rw lw).trans hw;by_cases d4:i<l.length
 case pos=>
  have xB:(i:Int)<(l.length:Int):=by omega
  have a8:(i:Int)+1=((i+1:Nat):Int):=by omega
  obtain⟨r,hr⟩:∃r,l[i]?=some r:=⟨_,za d4⟩
  refine qb ?_;have T:=fun sb=>im_wireB (sb:=sb) Z (d:=d-1) om (w.old o) ok hr o sr (by simp at L1 L2 ⊢;omega);rw[<- dO]at T;refine Run.cut _ (T _) ?_;rintro _ _ h' ⟨rfl,v',sb',rfl,s',o'⟩;refine Ga ?_;rw[a8];refine ih (l.length-(i+1)) om _ _ ⟨i+1,v',rfl,by omega,rfl,?_,o'⟩;rw[jh5,jaN hr,<- List.append_assoc];exact s'
 obtain rfl:i=l.length:=by omega
 have xB:¬(l.length:Int)<(l.length:Int):=by omega
 clear ih;refine Ga ?_;refine Zq (fun m e g=>∃(i:Nat) (v:V),m=31-i/\i<=31/\e=[(0,.p rw 0),(3,v),(11,.i ((i+1:Nat):Int))]/\SR h.nx g v ([tNow++dec u]++jd8 (l.map RX.x) 96++jh5 (l.map RX.x) l.length++jdI hdl ct i)/\Old h g)
  (k:=31) Ze ⟨0,v,rfl,by omega,rfl,by simpa[jdI] using sr,o⟩ ?_
 clear o sr v g gw;rintro _ _ g ⟨i,v,rfl,hi,rfl,sr,o⟩ f ih;have L3:=jej hdl ct i;by_cases d4:i<31
 case pos=>
  have xB:((i+1:Nat):Int)<=31:=by omega
  have a8:((i+1:Nat):Int)+1=((i+1+1:Nat):Int):=by omega
  refine qb ?_;have T:=fun sb=>im_sig (sb:=sb) Z (d:=d-1) (s:=i+1) om (w.old o) om (hc _) o sr (by simp at L1 L2 L3 ⊢;omega);rw[<- nG]at T;refine Run.cut _ (T _) ?_;rintro _ _ h' ⟨rfl,v',sb',rfl,s',o'⟩;refine Ga ?_;rw[a8];exact ih (31-(i+1)) om _ _ ⟨i+1,v',rfl,by omega,rfl,by rw[jdI,<- List.append_assoc];exact s',o'⟩
 obtain rfl:i=31:=by omega
 have xB:¬((31+1:Nat):Int)<=31:=by omega
 clear ih;refine Ga ?_;rw[sQ];refine Zy (im_end Z (d:=d-1) om (w.old o) nt eE o sr (by simp at L1 L2 L3 ⊢;omega)) fun x h' ⟨s',o'⟩=>⟨?_,o'⟩
 unfold jll;rw[List.length_map];exact s'
end
theorem strs_get{l:List (List UInt8)}{i o:Nat}(h:i<l.length)(ho:o=i):∃s,(strs l)[o]?=some (.str s):=by
 subst ho;exact⟨l[o],by simp[h]⟩
section
variable{call:Call}{fuel base:Nat}{K:List Fr}{e:Env}{h:H}{Q:Post}{ix:Nat}{dst at_:Option Nat}{ops:List Ins}{keep:List Nat}
end
section
variable{cl:Nat->Call}(Z:Sem cl){h h0:H}{p w s rw:Nat}{ow:Nat->Nat}{ro dat:Nat->Prop}{st:St}{ws:Ws}{now:Int}{tb:Tb}{no:Option (Nat×Nat)}
include Z
theorem sm_ok{d N M:Nat}{u v:V}{L:List (List UInt8)}(hd:1<=d)(a:SR N h u L)(b:SR M h v L)(hl:L.length<=50000) :
  ∃h',cl d (.fn 67) [u,v] h=some (.bool true,h')/\h'=h:=by
 obtain⟨q,c,_,_,rfl,_,hq⟩:=a;obtain⟨q',c',_,_,rfl,_,f9⟩:=b;refine jae (aT Z ?_);refine Ga ?_;refine Zq (fun m e g=>∃i:Nat,m=L.length-i/\i<=L.length/\e=[(0,.slice (some (q,0)) L.length c),(1,.slice (some (q',0)) L.length c'),(5,.i (i:Int))]/\g=h)
  (k:=L.length) Ze ⟨0,rfl,by omega,rfl,rfl⟩ ?_
 rintro _ _ _ ⟨i,rfl,hi,rfl,rfl⟩ f ih;by_cases d4:(i:Int)<(L.length:Int)
 case neg=>
  clear ih;refine Ga ?_;exact⟨rfl,rfl⟩
 obtain⟨t,ht⟩:=strs_get (l:=L) (i:=i) (o:=0+(i:Int).toNat*1) om om;have a8:(i:Int)+1=((i+1:Nat):Int):=by omega
 repeat' (first|refine qxy ?_|(refine zsp ?_ ?_<;>intro _)|fail)
 .next x=>simp at x
 rw[a8];exact ih (L.length-(i+1)) om _ _ ⟨i+1,rfl,by omega,rfl,rfl⟩
theorem ww_NowV{d:Nat}(hd:2<=d)(a:WSt h w s ow ws now tb no):cl d (.fn 64) [.p w 0] h=some (.int .u64 now,h):=by
 obtain⟨l,a,rfl⟩:=a;obtain⟨sa,c,hw,_⟩:=a.wf.head;have j5:=jbK Z (d:=d-1) om a.wf;have q1:(wc (fun i=>atS (wxs l) (i:Int)) (.slice sa l.length c) s now no)[0+290]?=some (.int .u64 now):=jor rfl;refine jaj (aT Z ?_);refine Ga ?_;exact⟨rfl,rfl⟩
theorem jiX{d:Nat}(hd:9<=d)(a:WSt h w s ow ws now tb no)(hc:tb.ok 1000000):∃h',cl d (.fn 65) [.p w 0] h=some (.i (tb.sum 32),h')/\Old h h':=by
 obtain⟨l,a,rfl⟩:=a;obtain⟨sa,c,hw,_⟩:=a.wf.head;have j5:=jbK Z (d:=d-1) om a.wf;have q1:(wc (fun i=>atS (wxs l) (i:Int)) (.slice sa l.length c) s now no)[0+289]?=some (.p s 0):=jdZ rfl;obtain⟨h1,e1,c1⟩:=jja Z (d:=d-1) om a.wf.hs a.wf.ls hc;have o1:=Old.ofCh c1;clear hc;refine jae (aT Z ?_);refine Ga ?_;exact⟨rfl,o1⟩
theorem ww_Count{d:Nat}{sg:Int}(hd:4<=d)(a:WSt h w s ow ws now tb no):cl d (.fn 66) [.p w 0,.i sg] h=some (.i (tb.cnt sg),h):=by
 obtain⟨l,a,rfl⟩:=a;obtain⟨sa,c,hw,_⟩:=a.wf.head;have j5:=jbK Z (d:=d-1) om a.wf;have q1:(wc (fun i=>atS (wxs l) (i:Int)) (.slice sa l.length c) s now no)[0+289]?=some (.p s 0):=jdZ rfl;have e1:=jjB Z (d:=d-1) om a.wf.hs sg;refine jaj (aT Z ?_);refine Ga ?_;exact⟨rfl,rfl⟩
omit Z in
theorem BB.rw_{a r:St}(b:BB h p w s rw ow ro dat a r):∃q l,RW h rw q l r.tl/\l.map RX.x=r.ws:=by
 obtain⟨l,R,e⟩:=b.R;obtain⟨q,_,k⟩:=R.ex;exact⟨q,l,k h rfl fun _ _ _=>rfl,e⟩
theorem al_ok{d i:Nat}(hd:11<=d)(P:Pw h)(b:BB h p w s rw ow ro dat st st)(so:StOk st i)(hi:i<=100000) :
  ∃h',cl d (.fn 23) [.p p 0] h=some (.bool true,h')/\Old h h':=by
 have tok:st.tb.ok 1000000:=so.tb.mono om;have ok:=so.K.ok;have hp:=b.hp;have lp:=b.lp;obtain⟨v1,h1,e1,r1,o1⟩:=ww_Fds Z (d:=d-1) om b.W;have b1:=b.old o1;obtain⟨q1,l1,w1,x1⟩:=b1.rw_;obtain⟨v2,h2,e2,r2,o2⟩:=rq_Fds Z (d:=d-1) om w1 (by rw[x1];exact ok);rw[x1]at r2;have uE:=o1.trans o2;have b2:=b1.old o2;have p1:h1.get p=some (.cells [.p w 0,.p rw 0] false):=b1.hp;have p2:h2.get p=some (.cells [.p w 0,.p rw 0] false):=b2.hp;have e3:=ww_NowV Z (d:=d-1) om b2.W;obtain⟨q2,l2,w2,x2⟩:=b2.rw_;obtain⟨a2,c2,qA,_⟩:=w2.head;have n2:(V.slice a2 l2.length c2::st.tl)[0+1]?=some (.int .u64 st.now):=rfl;obtain⟨h3,e4,o3⟩:=jiX Z (d:=d-1) om b2.W tok;have b3:=b2.old o3;have p3:h3.get p=some (.cells [.p w 0,.p rw 0] false):=b3.hp;obtain⟨q3,l3,w3,x3⟩:=b3.rw_;have e5:=jgD Z (d:=d-1) om w3 tok;rw[<- jkC]at e5;have nH:=uE.trans o3;have fl:=jhE st.ws 96;obtain⟨t_,⟨mI,rfl⟩,i1⟩:=r1.shape;obtain⟨qJ,⟨tQ,rfl⟩,i2⟩:=r2.shape;have g1:∀j,j<(fdsL st.ws 96).length -> ∃z,mI=some (z,0)/\z<h3.nx/\h3.get z=some (.cells (ints (fdsL st.ws 96)) false):=fun j hj=>by
  obtain⟨z,_,z2,z3,z4⟩:=i1 j hj;cases z3;have:=o2.1;have:=o3.1;exact⟨z,rfl,by omega,by rw[o3.2 _ om,o2.2 _ z2,z4]⟩
 have g2:∀j,j<(fdsL st.ws 96).length -> ∃z,tQ=some (z,0)/\z<h3.nx/\h3.get z=some (.cells (ints (fdsL st.ws 96)) false):=fun j hj=>by
  obtain⟨z,_,z2,z3,z4⟩:=i2 j hj;cases z3;have:=o3.1;exact⟨z,rfl,by omega,by rw[o3.2 _ z2,z4]⟩
 obtain⟨a3,c3,eH,_⟩:=w3.head;have n3:∀s:Nat,s<32->(V.slice a3 l3.length c3::st.tl)[0+34+(s:Int).toNat*1]?=some (.i (st.tb.pd s)):=fun s hs=>t_ct hs om;have ec:=fun sg=>ww_Count Z (d:=d-1) (sg:=sg) om b3.W;clear i1 i2 r1 r2 w1 w2 w3 x1 x2 x3 b1 b2;generalize hFL:fdsL st.ws 96=FL at e1 e2 g1 g2 fl ⊢;have Yk:¬(FL.length:Int)≠(FL.length:Int):=fun e=>e rfl;have Al:¬st.tb.sum 32≠st.tb.sum 32:=fun e=>e rfl;have d5:¬st.now≠st.now:=fun e=>e rfl;generalize V.slice a2 l2.length c2::st.tl=rc at qA n2;generalize V.slice a3 l3.length c3::st.tl=rc3 at eH n3;refine jae (aT Z ?_);clear tok;refine Ga ?_;refine Zu rfl e3 (jau rfl p2 rfl rfl (jau rfl qA n2 rfl ja9)) ?_;refine Ga ?_;refine Zu rfl e4 (jau rfl p3 rfl rfl ja9) ?_;refine Ga ?_;clear e1 e2 e3 e4 e5 p1 p2 qA n2;refine Zq (fun m e g=>∃j:Nat,m=34-j/\j<=34/\e=[(0,.p p 0),(3,.slice mI FL.length t_),(4,.slice tQ FL.length qJ),(5,.i ((j:Int)-1))]/\g=h3)
  (k:=34) Ze ⟨0,rfl,by omega,rfl,rfl⟩ ?_
 rintro _ _ h3 ⟨j,rfl,hj,rfl,rfl⟩ f ih;by_cases d4:(j:Int)-1<=32
 case pos=>
  have uG:(j:Int)-1+1=((j+1:Nat):Int)-1:=by omega
  have eC:=ec ((j:Int)-1);by_cases hs:2<=j/\j<=32
  .obtain⟨s',dF⟩:∃s':Nat,j=s'+1:=⟨j-1,by omega⟩
   have ej:(j:Int)-1=(s':Int):=by omega
   have nN:st.tb.cnt (s':Int)=st.tb.pd s':=by
    unfold Tb.cnt;rw[zD (show (1:Int)<=(s':Int)/\(s':Int)<=31 by omega),zw]
   rw[ej]at eC d4 uG ⊢;rw[nN]at eC;have aB:(s':Int)>0:=by omega
   have cD:(s':Int)<=31:=by omega
   have eV:=n3 s' om;have Gg:¬st.tb.pd s'≠st.tb.pd s':=fun e=>e rfl;clear ec n3 g1 g2;refine Ga ?_;rw[uG];exact ih (34-(j+1)) om _ _ ⟨j+1,rfl,by omega,rfl,rfl⟩
  .have nN:st.tb.cnt ((j:Int)-1)=0:=by
    unfold Tb.cnt;rw[zC];show ¬((1:Int)<=(j:Int)-1/\(j:Int)-1<=31);omega
   rw[nN]at eC;have Gg:¬(0:Int)≠0:=fun e=>e rfl;by_cases aB:(j:Int)-1>0
   .have cD:¬(j:Int)-1<=31:=by omega
    clear ec n3 g1 g2 hs;refine Ga ?_;rw[uG];exact ih (34-(j+1)) om _ _ ⟨j+1,rfl,by omega,rfl,rfl⟩
   .clear ec n3 g1 g2 hs;refine Ga ?_;rw[uG];exact ih (34-(j+1)) om _ _ ⟨j+1,rfl,by omega,rfl,rfl⟩
 clear ih ec n3 eH;refine Ga ?_;refine Zq (fun m e g=>∃i:Nat,m=FL.length-i/\i<=FL.length/\e=[(0,.p p 0),(3,.slice mI FL.length t_),(4,.slice tQ FL.length qJ),(79,.i (FL.length:Int)),(80,.i (i:Int))]/\Old h3 g)
  (k:=FL.length) Ze ⟨0,rfl,by omega,rfl,Zz _⟩ ?_
 rintro _ _ g ⟨i,rfl,hi,rfl,og⟩ f ih;have bg:=b3.old og;have pg:=bg.hp;by_cases d4:(i:Int)<(FL.length:Int)
 case pos=>
  obtain⟨z1,rfl,Hg,y1⟩:=g1 i om;obtain⟨z2,rfl,u_,y2⟩:=g2 i om;have y1g:g.get z1=some (.cells (ints FL) false):=by rw[og.2 _ Hg,y1]
  have y2g:g.get z2=some (.cells (ints FL) false):=by rw[og.2 _ u_,y2]
  obtain⟨x,hx⟩:=jdN (l:=FL) (i:=i) om;have Jg:(ints FL)[0+(i:Int).toNat*1]?=some (.i x):=by
   rw[show 0+(i:Int).toNat*1=i by omega];simp[hx]
  have pQ:¬x≠x:=fun e=>e rfl;obtain⟨g3,e6,o6⟩:=jmw Z (d:=d-1) (fd:=x) om bg.W ok;rw[jjO]at e6;obtain⟨q4,l4,w4,x4⟩:=(bg.old o6).rw_;obtain⟨g4,e7,c7⟩:=jmE Z (d:=d-1) (fd:=x) om w4 (by rw[x4];exact ok);rw[x4,jjO]at e7;have p6:=(bg.old o6).hp;have Kg:g3.get z2=some (.cells (ints FL) false):=by rw[o6.2 _ (zr u_ og.1),y2g]
  have a8:(i:Int)+1=((i+1:Nat):Int):=by omega
  have Lg:=(og.trans o6).trans (Old.ofCh c7);clear g1 g2 w4 bg;refine Ga ?_;refine Zu rfl e6 (jau rfl p6 rfl rfl (jau rfl Kg Jg rfl ja9)) ?_
  repeat' (first|refine qxy ?_|(refine zsp ?_ ?_<;>intro _)|fail)
  .next x=>simp at x
  rw[a8];exact ih (FL.length-(i+1)) om _ _ ⟨i+1,rfl,by omega,rfl,Lg⟩
 clear ih g1 g2;have tok:st.tb.ok 1000000:=so.tb.mono om;obtain⟨v5,h5,e8,s5,o5⟩:=ww_Image Z (d:=d-1) om (P.old (nH.trans og)) bg.W ok so.now tok so.nt;have b5:=bg.old o5;have p5:=b5.hp;obtain⟨q5,l5,w5,x5⟩:=b5.rw_;obtain⟨v6,h6,e9,s6,o6⟩:=rq_Image Z (d:=d-1) (hdl:=st.tb.hd) (ct:=st.tb.pd) (no:=st.no) om w5 (by rw[x5];exact ok) so.now tok (by rw[x5];exact so.nt);rw[x5]at s6;have L1:=jff st.ws 96;have L2:=jgs st.ws st.ws.length;have L3:=jej st.tb.hd st.tb.pd 31;have L4:(jme st.no).length<=1:=by cases st.no<;>simp[jme]
 have L5:=ok.len;obtain⟨_,Bl,rfl⟩:=sm_ok Z (d:=d-1) om (s5.keep (zq _) o6) s6 (by unfold jll;simp;omega);have oF:=(nH.trans og).trans (o5.trans o6);clear tok so;refine Ga ?_;refine Zu rfl e8 (jau rfl p5 rfl rfl ja9) ?_;refine Ga ?_;exact⟨rfl,oF⟩
end
def je3:Bool->Bool->Int
 |false,false=>0
 |true,false=>2
 |false,true=>4
 |true,true=>6
def inR(r:Rdy):Bool:=r.inn||r.hup||r.err
def outR(r:Rdy):Bool:=r.out||r.hup||r.err
def flI(a b:Bool)(r:Rdy):Int:=je3 (a&&inR r) (b&&outR r)
abbrev jlD(fr fw:Nat->Bool):Nat->Int:=fun i=>je3 (fr i) (fw i)
noncomputable def repL(fr fw:Nat->Bool)(ws:Ws):Nat->List (Int×Int)
 |0=>[]
 |n+1=>repL fr fw ws n++if flI (fr n) (fw n) (rdyS ws n)=0 then [] else [((n:Int),flI (fr n) (fw n) (rdyS ws n))]
theorem jhB(fr fw:Nat->Bool)(ws:Ws):∀n,(repL fr fw ws n).length<=n
 |0=>zq _
 |n+1=>by
  have:=jhB fr fw ws n;simp only[repL,zg];split<;>simp<;>omega
noncomputable def dueI(fr fw:Nat->Bool)(nf:Int)(st:St):Bool:= !(repL fr fw st.ws 96).isEmpty||(decide (0<=nf)&&decide (0<st.tb.sum 32))
def idc(q:Nat)(f:Nat->Int)(nf:Int):List V:= .p q 0::(tab 96 (fun i=>V.i (f i))++[.i nf])
section
variable{q i o:Nat}{nf v:Int}{f g:Nat->Int}
theorem jqg(hi:i<96)(ho:o=1+i):(idc q f nf)[o]?=some (.i (f i)):=by
 subst ho;rw[show 1+i=i+1 by omega];show (tab 96 (fun i=>V.i (f i))++[V.i nf])[i]?=_;rw[List.getElem?_append_left (by simpa using hi),jcD hi]
theorem jqf:(idc q f nf)[0+97]?=some (.i nf):=by
 show (tab 96 (fun i=>V.i (f i))++[V.i nf])[96]?=_;rw[List.getElem?_append_right Zd];simp
theorem jek:(idc q f nf).length=98:=by simp[idc]
theorem jmg(hi:i<96)(ho:o=1+i):(idc q f nf).set o (.i v)=idc q (put1 f i v) nf:=by
 subst ho;rw[show 1+i=i+1 by omega];show V.p q 0::((tab 96 (fun i=>V.i (f i))++[V.i nf]).set i (.i v))=_;rw[zU,zD (by simpa using hi),je4];unfold idc;rw[jcL (g:=fun j=>V.i (put1 f i v j)) (fun k _=>by unfold put1;split<;>rfl)]
theorem jpT:(idc q f nf).set (0+97) (.i v)=idc q f v:=by
 show V.p q 0::((tab 96 (fun i=>V.i (f i))++[V.i nf]).set 96 (.i v))=_;rw[zU,zC Zd];simp[idc]
theorem idc_congr(h:∀i,i<96->f i=g i):idc q f nf=idc q g nf:=by
 unfold idc;rw[jcL fun i hi=>by rw[h i hi]]
theorem idc_tab:((idc q f nf).drop (0+1)).take 96=tab 96 (fun i=>V.i (f i)):=by
 show (tab 96 (fun i=>V.i (f i))++[V.i nf]).take 96=_;rw[List.take_append_of_le_length Zd,zh Zd]
end
def setF(f:Nat->Bool)(m:Nat)(b:Bool):Nat->Bool:=fun i=>if i=m then b else f i
abbrev idw(q:Nat)(fr fw:Nat->Bool)(nf:Int):List V:=idc q (jlD fr fw) nf
theorem jmf{q:Nat}{fr fw:Nat->Bool}{nf:Int}{m:Nat}(a b:Bool):idc q (put1 (jlD fr fw) m (je3 a b)) nf=idw q (setF fr m a) (setF fw m b) nf:=idc_congr fun i _=>by
 show (if i=m then je3 a b else je3 (fr i) (fw i))=je3 (if i=m then a else fr i) (if i=m then b else fw i);by_cases e:i=m
 .rw[zD e,zD e,zD e]
 .rw[zC e,zC e,zC e]
theorem bv_le38(x:BitVec 64)(h:x &&& ~~~(38#64)=0#64):x.toNat<=38:=by
 have h5:x &&& 38#64=x:=by
  apply BitVec.eq_of_getElem_eq;intro i hi;have:=congrArg (fun y:BitVec 64=>y[i]) h;simp only[BitVec.getElem_and,BitVec.getElem_not,BitVec.getElem_zero]at this ⊢;revert this;cases x[i]<;>cases (38#64)[i]<;>simp
 have e:(x &&& 38#64).toNat=x.toNat:=by rw[h5]
 rw[BitVec.toNat_and]at e;have:=Nat.and_le_right (n:=x.toNat) (m:=(38#64).toNat);rw[e]at this;exact this
theorem all38:∀k:_root_.Fin 39,(BitVec.ofNat 64 k.val &&& ~~~(38#64)=0#64)->k.val=0\/k.val=2\/k.val=4\/k.val=6\/k.val=32\/k.val=34\/k.val=36\/k.val=38:=by decide
theorem set_bits{n:Int}(h0: -9223372036854775808<=n)(h1:n<=9223372036854775807)(h:IntKind.i64.wrap ((BitVec.ofInt 64 n &&& ~~~(BitVec.ofInt 64 38)).toNat:Int)=0):n=0\/n=2\/n=4\/n=6\/n=32\/n=34\/n=36\/n=38:=by
 have h2:=wrap_zero (BitVec.isLt _) h;have h3:BitVec.ofInt 64 n &&& ~~~(38#64)=0#64:=BitVec.eq_of_toNat_eq (by simpa using h2);have hi:(BitVec.ofInt 64 n).toInt=n:=by
  rw[BitVec.toInt_ofInt];unfold Int.bmod;simp;split<;>omega
 have qH:=bv_le38 _ h3;have hx:BitVec.ofInt 64 n=BitVec.ofNat 64 (BitVec.ofInt 64 n).toNat:=(fun x:BitVec 64=>(by simp:x=BitVec.ofNat 64 x.toNat)) _;generalize hm:(BitVec.ofInt 64 n).toNat=m at qH hx;have q:=all38 ⟨m,by omega⟩ (by rw[<- hx];exact h3);have e:n=(m:Int):=by
  rw[<- hi,BitVec.toInt_eq_toNat_cond,hm,zD om]
 simp only at q;omega
noncomputable def sigS(st:St):St:= {st with ws:=jap st.ws (st.tb.take.sum 32) (noI st.no) (siI st.no),tb:=st.tb.take}
theorem sigS_do{a n t:Int}{D:List UInt8}{st:St}:doS 18 a n t D st=sigS st:=by simp[doS,sigS]
theorem jox{st:St}{i:Nat}(o:StOk st i):StOk (sigS st) (i+1):=by
 rw[<- sigS_do (a:=0) (n:=0) (t:=0) (D:=[])];exact jna o om om
section
variable{cl:Nat->Call}(Z:Sem cl){h:H}{p w s rw:Nat}{ow:Nat->Nat}{ro dat:Nat->Prop}{a r:St}{d i:Nat}
include Z
theorem joa(hd:12<=d)(b:BB h p w s rw ow ro dat a r)(so:StOk a i)(hi:i<=900000) :
  ∃v h',cl d (.fn 57) [.p w 0] h=some (v,h')/\Row h.nx h' 2 v (jbm a.tb.pd 31).length (jat (jbm a.tb.pd 31))/\BB h' p w s rw ow ro dat (sigS a) r/\Fm h h' ow ro ow ro:=by
 have m7:a.tb.ok 1000000:=so.tb.mono om;obtain⟨v1,h1,e1,lC,W1,t1⟩:=jiW Z (d:=d) hd b.W so.nt (jlG m7 om);have lA:(a.tb.cnts 32).map (fun p=>((p.1:Int),p.2))=jbm a.tb.pd 31:=ji6 (fun k=>(m7 k).1) 31;have aC:Row h.nx h1 2 v1 (jbm a.tb.pd 31).length (jat (jbm a.tb.pd 31)):=by
  rw[jfF,lA]at lC;rw[<- lA,List.length_map];rw[lA];exact lC
 exact⟨v1,h1,e1,aC,b.wc (a':=sigS a) W1 t1,Fm.to t1⟩
theorem joc(hd:4<=d)(b:BB h p w s rw ow ro dat a r)(so:StOk r i)(hi:i<=900000) :
  ∃v h' ro',cl d (.fn 61) [.p rw 0] h=some (v,h')/\Row h.nx h' 2 v (jbm r.tb.pd 31).length (jat (jbm r.tb.pd 31))/\BB h' p w s rw ow ro' dat a (sigS r)/\Fm h h' ow ro ow ro':=by
 have m7:r.tb.ok 1000000:=so.tb.mono om;obtain⟨v2,h2,e2,b2,f2,aC⟩:=b.rc Z (d:=d) (f:=61) (args:=[.p rw 0]) (r':=sigS r)
  (P:=fun g v=>Row h.nx g 2 v (jbm r.tb.pd 31).length (jat (jbm r.tb.pd 31))) (fun _ _ _ m r=>Row.mono m r) (fun g q l ga gn hq wR hl=>by
  have oR:WsOk (l.map RX.x):=by rw[hl];exact so.K.ok
  obtain⟨v2,l',g',k1,k0,k2,k3,k4⟩:=jjb Z (d:=d) hd wR oR (by rw[hl];exact so.nt) m7;rw[hl,<- jhQ,<- jkC]at k3;rw[<- jhQ]at k2;rw[gn]at k0;exact⟨_,q,l',g',k1,k2,k3,k4,.inl rfl,k0⟩)
 exact⟨v2,h2,_,e2,aC,b2,f2⟩
theorem job(hd:9<=d)(b:BB h p w s rw ow ro dat a r)(so:StOk a i)(hi:i<=900000):∃h',cl d (.fn 65) [.p w 0] h=some (.i (a.tb.sum 32),h')/\Old h h':=
 jiX Z hd b.W (so.tb.mono om)
theorem jjv(hd:1<=d)(b:BB h p w s rw ow ro dat a r)(so:StOk r i)(hi:i<=900000):cl d (.fn 60) [.p rw 0] h=some (.i (r.tb.sum 32),h):=by
 obtain⟨q,l,w4,x4⟩:=b.rw_;have m7:r.tb.ok 1000000:=so.tb.mono om;rw[jkC];exact jgD Z hd w4 m7
theorem jky{fd:Int}(hd:4<=d)(b:BB h p w s rw ow ro dat a r)(ok:WsOk a.ws):∃h',cl d (.fn 49) [.p w 0,.i fd] h=some (.agg (rdyS a.ws fd).cells,h')/\Old h h':=by
 obtain⟨h3,e3,o3⟩:=jmw Z (d:=d) (fd:=fd) hd b.W ok;rw[jjO]at e3;exact⟨h3,e3,o3⟩
end
abbrev isFd(fd:Int):Prop:=0<=fd/\fd<=95
abbrev okN(n:Int):Prop:=n=0\/n=2\/n=4\/n=6\/n=34\/n=36\/n=38
theorem mayW_ok{n:Int}(n0: -9223372036854775808<=n)(n1:n<=9223372036854775807):mayW n=decide (okN n):=by
 unfold mayW;by_cases hz:offW n=0
 .rcases set_bits n0 n1 hz with rfl|rfl|rfl|rfl|rfl|rfl|rfl|rfl<;>decide
 .rw[zE hz,Bool.false_and];refine (zE fun h=>?_).symm;rcases h with rfl|rfl|rfl|rfl|rfl|rfl|rfl<;>exact hz (by decide)
def setE(op:Bool)(fd n:Int):Int:=if isFd fd/\okN n then (if n≠0/\op=false then 110 else if 32<=n then 191 else 0) else 2
def jgB(op:Bool)(fd n:Int)(f:Nat->Bool):Nat->Bool:=if setE op fd n=0 then setF f fd.toNat (decide (n=2\/n=6)) else f
def jgA(op:Bool)(fd n:Int)(f:Nat->Bool):Nat->Bool:=if setE op fd n=0 then setF f fd.toNat (decide (n=4\/n=6)) else f
theorem joS{q:Nat}{fr fw:Nat->Bool}{nf fd n:Int}{op:Bool}(h:setE op fd n=0):(idw q fr fw nf).set (0+1+fd.toNat*1) (.i n)=idw q (jgB op fd n fr) (jgA op fd n fw) nf:=by
 have hs:=h;unfold setE at hs;split at hs
 case isFalse=>cases hs
 next hh=>
  obtain⟨⟨f0,f1⟩,hn⟩:=hh;unfold jgB jgA;rw[zD h,zD h,jmg (i:=fd.toNat) om om,<- jmf];rcases hn with rfl|rfl|rfl|rfl|rfl|rfl|rfl
  all_goals first
   |rfl
   |(split at hs
     .cases hs
     .cases hs)
section
variable{cl:Nat->Call}(Z:Sem cl){h:H}{p w s rw:Nat}{ow:Nat->Nat}{ro dat:Nat->Prop}{a r:St}{d i D:Nat}{nf fd n:Int}{f:Nat->Int}{fr fw:Nat->Bool}
include Z
theorem jig(hd:1<=d)(hD:h.get D=some (.cells (idc w f nf) false)):cl d (.fn 47) [.p D 0] h=some (.bool false,h):=by
 have h0:(idc w f nf)[0+0]?=some (.p w 0):=rfl;refine jaj (aT Z ?_);refine Ga ?_;exact⟨rfl,rfl⟩
theorem pi_Wants(hd:2<=d)(hD:h.get D=some (.cells (idc w f nf) false)):cl d (.fn 22) [.p D 0,.i fd] h=some (.i (if isFd fd then f fd.toNat else 0),h):=by
 have e1:=jig Z (d:=d-1) om hD;by_cases f0:fd<0
 .rw[zC om];refine jaj (aT Z ?_);refine Ga ?_;exact⟨rfl,rfl⟩
 by_cases f1:95<fd
 .rw[zC om];refine jaj (aT Z ?_);refine Ga ?_;exact⟨rfl,rfl⟩
 rw[zD om];have f2:0<=fd:=by omega
 have f3:fd<96:=by omega
 have h0:(idc w f nf)[0+1+fd.toNat*1]?=some (.i (f fd.toNat)):=jqg om om;refine jaj (aT Z ?_);refine Ga ?_;exact⟨rfl,rfl⟩
theorem pi_Forget(hd:2<=d)(hD:h.get D=some (.cells (idw w fr fw nf) false)) :
  ∃h',cl d (.fn 14) [.p D 0,.i fd] h=some (.tup [],h')/\Ch (fun j=>j=D) h h'/\h'.get D=some (.cells (idw w (if isFd fd then setF fr fd.toNat false else fr) (if isFd fd then setF fw fd.toNat false else fw) nf) false):=by
 have e1:=jig Z (d:=d-1) om hD;by_cases f0:0<=fd
 case neg=>
  rw[zC om,zC om];have S:Ch (fun j=>j=D) h h:=Zr _ h;refine jae (aT Z ?_);refine Ga ?_;exact⟨rfl,S,hD⟩
 by_cases f1:fd<=95
 case neg=>
  rw[zC om,zC om];have S:Ch (fun j=>j=D) h h:=Zr _ h;refine jae (aT Z ?_);refine Ga ?_;exact⟨rfl,S,hD⟩
 rw[zD om,zD om];have hl:0+1+fd.toNat*1<(idw w fr fw nf).length:=by rw[jek];omega
 have S:Ch (fun j=>j=D) h (h.set D (.cells ((idw w fr fw nf).set (0+1+fd.toNat*1) (.i 0)) false)):=Zs rfl;have G:(h.set D (.cells ((idw w fr fw nf).set (0+1+fd.toNat*1) (.i 0)) false)).get D=some (.cells (idw w (setF fr fd.toNat false) (setF fw fd.toNat false) nf) false):=by
  rw[jab,jmg (i:=fd.toNat) om om,<- jmf];rfl
 have f3:fd<96:=by omega
 refine jae (aT Z ?_);refine Ga ?_;refine zcs rfl rfl rfl hD hl ?_;refine Ga ?_;exact⟨rfl,S,G⟩
theorem jjl(hd:10<=d)(b:BB h p w s rw ow ro dat a r)(so:StOk a i)(hi:i<=900000)(hD:h.get D=some (.cells (idc w f nf) false)) :
  ∃h',cl d (.fn 56) [.p D 0] h=some (.bool (decide (0<=nf)&&decide (0<a.tb.sum 32)),h')/\Old h h':=by
 have h0:(idc w f nf)[0+0]?=some (.p w 0):=rfl;have h1:(idc w f nf)[0+97]?=some (.i nf):=jqf;obtain⟨g,e1,o1⟩:=job Z (d:=d-1) om b so hi;have o0:=Zz h;by_cases hn:0<=nf
 .rw[zG hn,Bool.true_and];refine jae (aT Z ?_);clear b so;refine Ga ?_;exact⟨rfl,o1⟩
 .rw[zE hn,Bool.false_and];refine jae (aT Z ?_);clear b so e1;refine Ga ?_;exact⟨rfl,o0⟩
theorem pi_Notice(hd:5<=d)(b:BB h p w s rw ow ro dat a r)(ok:WsOk a.ws)(hD:h.get D=some (.cells (idc w f nf) false))(lD:D<h.nx) :
  ∃h',cl d (.fn 15) [.p D 0,.i fd] h=some (.i (if fd ≠ -1/\(rdyS a.ws fd).op=false then 110 else 0),h')/\Ch (fun j=>j=D) h h'/\h'.get D=some (.cells (idc w f (if fd ≠ -1/\(rdyS a.ws fd).op=false then nf else fd)) false):=by
 have e1:=jig Z (d:=d-1) om hD;have h0:(idc w f nf)[0+0]?=some (.p w 0):=rfl;have hl:0+97<(idc w f nf).length:=by rw[jek];omega
 obtain⟨g,e2,o1⟩:=jky Z (d:=d-1) (fd:=fd) om b ok;have put:∀g,Old h g->Ch (fun j=>j=D) h (g.set D (.cells ((idc w f nf).set (0+97) (.i fd)) false))/\(g.set D (.cells ((idc w f nf).set (0+97) (.i fd)) false)).get D=some (.cells (idc w f fd) false):=fun g o=>⟨o.ch.trans (Zs rfl),by rw[jab,jpT]⟩
 have P0:=put h (Zz h);have P1:=put g o1;have hg:g.get D=some (.cells (idc w f nf) false):=by rw[o1.2 D lD,hD]
 have c1:Ch (fun j=>j=D) h g:=o1.ch;by_cases hf:fd = -1
 .subst hf;rw[zC (fun h=>h.1 rfl),zC (fun h=>h.1 rfl)];refine jae (aT Z ?_);clear b ok e2 put;refine Ga ?_;refine zcs rfl rfl rfl hD hl ?_;refine Ga ?_;exact⟨rfl,P0⟩
 generalize rdyS a.ws fd=R at e2 ⊢;obtain⟨op,inn,out,hup,err,r1,r2⟩:=R;cases op with
 |false=>
  rw[zD ⟨hf,rfl⟩,zD ⟨hf,rfl⟩];simp only[Rdy.cells]at e2;refine jae (aT Z ?_);clear b ok put P0 P1;refine Ga ?_;exact⟨rfl,c1,hg⟩
 |true=>
  rw[zC (fun h=>Bool.noConfusion h.2),zC (fun h=>Bool.noConfusion h.2)];simp only[Rdy.cells]at e2;refine jae (aT Z ?_);clear b ok put P0;refine Ga ?_;refine zcs rfl rfl rfl hg hl ?_;refine Ga ?_;exact⟨rfl,P1⟩
theorem pi_Set(hd:5<=d)(n0: -9223372036854775808<=n)(n1:n<=9223372036854775807)(b:BB h p w s rw ow ro dat a r)(ok:WsOk a.ws)(hD:h.get D=some (.cells (idw w fr fw nf) false))(lD:D<h.nx) :
  ∃v h',cl d (.fn 12) [.p D 0,.i fd,.i n] h=some (v,h')/\v = .i (setE (rdyS a.ws fd).op fd n)/\Ch (fun j=>j=D) h h'/\h'.get D=some (.cells (idw w (jgB (rdyS a.ws fd).op fd n fr) (jgA (rdyS a.ws fd).op fd n fw) nf) false):=by
 have e1:=jig Z (d:=d-1) om hD;have e2:=cg_May Z (d:=d-1) (h:=h) (n:=n) om;rw[mayW_ok n0 n1]at e2;obtain⟨g,e3,o1⟩:=jky Z (d:=d-1) (fd:=fd) om b ok;have h0:(idw w fr fw nf)[0+0]?=some (.p w 0):=rfl;have hg:g.get D=some (.cells (idw w fr fw nf) false):=by rw[o1.2 D lD,hD]
 generalize rdyS a.ws fd=R at e3 ⊢;obtain⟨op,inn,out,hup,err,r1,r2⟩:=R;simp only[Rdy.cells]at e3;show ∃(v:V) (h':H),_/\v = .i (setE op fd n)/\_/\h'.get D=some (.cells (idw w (jgB op fd n fr) (jgA op fd n fw) nf) false);have no:∀e g,setE op fd n=e->e≠0->Old h g->(V.i e = .i (setE op fd n)/\Ch (fun j=>j=D) h g/\g.get D=some (.cells (idw w (jgB op fd n fr) (jgA op fd n fw) nf) false)):=fun e g he hz o=>⟨by rw[he],o.ch,by unfold jgB jgA;rw[zC (by rw[he];exact hz),zC (by rw[he];exact hz),o.2 D lD,hD]⟩
 have yes:∀g,setE op fd n=0->Old h g->(V.i 0 = .i (setE op fd n)/\Ch (fun j=>j=D) h (g.set D (.cells ((idw w fr fw nf).set (0+1+fd.toNat*1) (.i n)) false))/\(g.set D (.cells ((idw w fr fw nf).set (0+1+fd.toNat*1) (.i n)) false)).get D=some (.cells (idw w (jgB op fd n fr) (jgA op fd n fw) nf) false)):=fun g he o=>⟨by rw[he],o.ch.trans (Zs rfl),by rw[jab,joS he]⟩
 have o0:=Zz h;have tf:¬(true=false):=fun e=>Bool.noConfusion e;clear b ok;by_cases f0:fd<0
 .have S:=no 2 h (by unfold setE;rw[zC om]) om o0;clear no yes;refine aT Z ?_;refine Ga ?_;exact S
 by_cases f1:95<fd
 .have S:=no 2 h (by unfold setE;rw[zC om]) om o0;clear no yes;refine aT Z ?_;refine Ga ?_;exact S
 by_cases hn:okN n
 case neg=>
  have S:=no 2 h (by unfold setE;rw[zC (fun h=>hn h.2)]) om o0;rw[zE hn]at e2;clear no yes hn;refine aT Z ?_;refine Ga ?_;exact S
 rw[zG hn]at e2;have f2:fd<96:=by omega
 have f3:0<=fd:=by omega
 have hl:0+1+fd.toNat*1<(idw w fr fw nf).length:=by rw[jek];omega
 have hs:setE op fd n=if n≠0/\op=false then 110 else if 32<=n then 191 else 0:=by unfold setE;rw[zD ⟨⟨f3,by omega⟩,hn⟩]
 by_cases hz:n=0
 .subst hz;have Y:=yes h (by rw[hs];rfl) o0;clear no yes hn hs e3;refine aT Z ?_;refine Ga ?_;refine zcs rfl rfl rfl hD hl ?_;refine Ga ?_;exact Y
 cases op with
 |false=>
  have S:=no 110 g (by rw[hs,zD ⟨hz,rfl⟩]) om o1;clear no yes hn hs;refine aT Z ?_;refine Ga ?_;exact S
 |true=>
  have cD:setE true fd n=if 32<=n then 191 else 0:=by rw[hs,zC (fun h=>tf h.2)]
  by_cases h32:32<=n
  .have S:=no 191 g (by rw[cD,zD h32]) om o1;have hb:¬IntKind.i64.wrap ((BitVec.ofInt IntKind.i64.bits n &&& BitVec.ofInt IntKind.i64.bits 32).toNat:Int)=0:=by
    rcases hn with rfl|rfl|rfl|rfl|rfl|rfl|rfl<;>first|omega|decide
   clear no yes hn hs cD;refine aT Z ?_;refine Ga ?_;exact S
  .have Y:=yes g (by rw[cD,zC h32]) o1;have hb:IntKind.i64.wrap ((BitVec.ofInt IntKind.i64.bits n &&& BitVec.ofInt IntKind.i64.bits 32).toNat:Int)=0:=by
    rcases hn with rfl|rfl|rfl|rfl|rfl|rfl|rfl<;>first|omega|decide
   clear no yes hn hs cD;refine aT Z ?_;refine Ga ?_;refine zcs rfl rfl rfl hg hl ?_;refine Ga ?_;exact Y
end
structure SD(h:H)(ow:Nat->Nat)(ro dat:Nat->Prop)(p sb:Nat)(X:Nat->Prop)(L:List SpX)(o:List Int):Prop where
 own:Own h ow ro dat p sb
 ex:∃v ov,h.get sb=some (.cells [v,ov] false)/\At4 h (fun z=>PB ow ro sb z/\X z) SpX.V v L/\(∀y∈L,StepAt h dat dat y)/\VI h ov o/\(o≠[] -> ∀z,ov.at?=some z->dat z)
 few:∀x∈L,x.few
theorem SD.fs{h h':H}{p w s rw sb:Nat}{ow ow':Nat->Nat}{ro ro' dat S X:Nat->Prop}{a r:St}{L:List SpX}{o:List Int}(A:SD h ow ro dat p sb X L o)(b:BB h p w s rw ow ro dat a r)(f:Fs h h' ow ro ow' ro' S)(h1:¬S sb)(h2:∀z,dat z -> ¬S z)(h3:∀z,X z -> ¬S z):SD h' ow' ro' dat p sb X L o:=by
 obtain⟨v,ov,e2,e3,e4,e5,e6⟩:=A.ex;have kd:∀z,z<h.nx->dat z->h'.get z=h.get z/\dat z:=fun z hz hd=>⟨f.ch.get z hz fun e=>e.elim (fun e=>e (b.sep z (.inr hd))) fun e=>e.elim (b.ap hd) (h2 z hd),hd⟩
 refine⟨A.own.fs f,⟨v,ov,by rw[f.get A.own h1,e2],e3.keep f.ch.nx fun z hz hp=>⟨f.ch.get z hz fun e=>e.elim (fun e=>e hp.1.1) fun e=>e.elim hp.1.2.1 (h3 z hp.2),⟨by rw[f.tag z hz];exact hp.1.1,fun e=>hp.1.2.1 ((f.rtag z hz).1 e),hp.1.2.2⟩,hp.2⟩,fun y hy=>(e4 y hy).keep f.ch.nx kd kd,e5.keep2 f.ch.nx fun hl z hz=>(kd z (e5.lt hl hz) (e6 hl z hz)).1,e6⟩,A.few⟩
section
variable{cl:Nat->Call}(Z:Sem cl){h:H}{p w s rw:Nat}{ow:Nat->Nat}{ro dat:Nat->Prop}{a r:St}{d i sb:Nat}{fd wt n:Int}{fv:Bool}{X:Nat->Prop}{x:SpX}{L:List SpX}{o:List Int}
include Z
theorem jo2(hd:8<=d)(b:BB h p w s rw ow ro dat a r)(so:StOk r i)(hi:i+x.ml.length<=900000)(A:SD h ow ro dat p sb X (x::L) o) :
  ∃h' ro',cl d (.fn 124) [.p sb 0,.p rw 0] h=some (.bool x.intr,h')/\BB h' p w s rw ow ro' dat a (mvsS x.sp.moves r)/\StOk (mvsS x.sp.moves r) (i+x.ml.length)/\SD h' ow ro' dat p sb X L x.ol/\Fs h h' ow ro ow ro' (· = sb):=by
 obtain⟨v,ov,e2,e3,e4,e5,e6⟩:=A.ex;obtain⟨h',ro',v',k1,k2,k3,k4,k5,⟨k6,k7⟩,⟨k8,k9⟩,f⟩:=rm_take Z (X:=X) hd b so hi e2 A.own ⟨e3,e4⟩ (A.few x (zj ..));exact⟨h',ro',k1,k2,k3,⟨A.own.fs f,⟨v',x.ov,k4,k6,k7,k8,k9⟩,fun y hy=>A.few y (zl _ hy)⟩,f⟩
theorem sd_Less(hd:1<=d)(b:BB h p w s rw ow ro dat a r)(A:SD h ow ro dat p sb X (x::L) o)(hL:(x::L).length<=2000)(n0:0<=n)(n1:n<=x.t)(hX:∀z,h.nx<=z->X z) :
  ∃h',cl d (.fn 126) [.p sb 0,.int .u64 n] h=some (.tup [],h')/\BB h' p w s rw ow ro dat a r/\SD h' ow ro dat p sb X ({x with t:=x.t-n}::L) o/\Fs h h' ow ro ow ro (· = sb):=by
 obtain⟨v,ov,e2,e3,e4,e5,e6⟩:=A.ex;have lsb:=A.own.lt;have sx:=e4 x (zj ..);have x1:=sx.t1;refine jae (aT Z ?_);refine Ga ?_;refine Ops.app4 (l:=x::L) (f:=SpX.V) (P:=fun z=>PB ow ro sb z/\X z) (fun _=>rfl) rfl rfl om (.inl rfl) e3 om fun v' h' hk=>?_;rcases hk with⟨e,_⟩|⟨_,rfl,rfl⟩
 .cases e
 have kI:(0:Int)<(((x::L).length:Nat):Int):=by simp
 have g1:(h.new (.cells ((x::L).map SpX.V).flatten false)).get h.nx=some (.cells ((x::L).map SpX.V).flatten false):=jac _;have g2:(h.new (.cells ((x::L).map SpX.V).flatten false)).get sb=some (.cells [v,ov] false):=by rw[jad lsb,e2]
 have fI:(((x::L).map SpX.V).flatten).length=(x::L).length*4:=jeJ (fun _=>rfl) _;have q0:(((x::L).map SpX.V).flatten)[0+(0:Int).toNat*4+0]?=some (.int .u64 x.t):=rfl;have aN:At4 (h.new (.cells ((x::L).map SpX.V).flatten false)) (fun z=>PB ow ro sb z/\X z) SpX.V (.slice (some (h.nx,0)) (x::L).length (.grow 4)) (x::L):=At4.of_new (fun _=>rfl) ⟨⟨b.W.top (zq _),fun e=>by have:=b.ro_lt (.inl e);omega,by omega⟩,hX _ (zq _)⟩;have aU:=aN.upd (t:=x.t-n) g1;have o1:Old h (h.new (.cells ((x::L).map SpX.V).flatten false)):=(Zz h).new;have aI:0<(x::L).length:=by simp
 generalize ((x::L).map SpX.V).flatten=fl at g1 g2 fI q0 aN aU o1;have o2:Old h ((h.new (.cells fl false)).set h.nx (.cells (fl.set (0+(0:Int).toNat*4+0) (.int .u64 (x.t-n))) false)):=o1.set (zq _);generalize hG:(h.new (.cells fl false)).set h.nx (.cells (fl.set (0+(0:Int).toNat*4+0) (.int .u64 (x.t-n))) false)=G at aU o2;have sG:G.get sb=some (.cells [v,ov] false):=by rw[o2.2 sb lsb,e2]
 have b2:=(b.old o2).set (A.own.fs (Fs.old (S:=fun _=>False) o2)) (ob:= .cells [.slice (some (h.nx,0)) (x::L).length (.grow 4),ov] false);have f2:Fs h (G.set sb (.cells [.slice (some (h.nx,0)) (x::L).length (.grow 4),ov] false)) ow ro ow ro (· = sb):=(Fs.old o2).trans (Fs.set rfl) fun _ _ e=>e.symm;have A2:SD (G.set sb (.cells [.slice (some (h.nx,0)) (x::L).length (.grow 4),ov] false)) ow ro dat p sb X ({x with t:=x.t-n}::L) o:=by
  have kd:∀z,z<h.nx->dat z->(G.set sb (.cells [.slice (some (h.nx,0)) (x::L).length (.grow 4),ov] false)).get z=h.get z/\dat z:=fun z hz hd=>f2.dt b A.own hz hd;refine⟨A.own.fs f2,⟨_,ov,jab _,aU.keep (zq _) fun z hz hp=>⟨jaa hp.1.2.2,hp⟩,fun y hy=>?_,e5.keep2 f2.ch.nx fun hl z hz=>(kd z (e5.lt hl hz) (e6 hl z hz)).1,e6⟩,fun y hy=>?_⟩
  .rcases zZ.1 hy with rfl|hy
   .have s2:=sx.keep f2.ch.nx kd kd;exact⟨s2.ov,s2.mv,s2.dv,by show 0<=x.t-n;omega,by show x.t-n<=_;omega⟩
   .exact (e4 y (zl _ hy)).keep f2.ch.nx kd kd
  .rcases zZ.1 hy with rfl|hy
   .exact A.few x (zj ..)
   .exact A.few y (zl _ hy)
 clear e3 e4 e5 e6 sx b A aN aU o1;refine Ga ?_;refine zcs rfl rfl rfl g1 om ?_;rw[hG];refine Ga ?_;refine zcs rfl rfl rfl sG Zd ?_;refine Ga ?_;exact⟨rfl,b2,A2,f2⟩
theorem jk0(hd:3<=d)(b:BB h p w s rw ow ro dat a r)(ok:WsOk r.ws):∃h',cl d (.fn 51) [.p rw 0,.i fd] h=some (.agg (rdyS r.ws fd).cells,h')/\Old h h':=by
 obtain⟨q,l,w4,x4⟩:=b.rw_;obtain⟨h',e,c⟩:=jmE Z (d:=d) (fd:=fd) hd w4 (by rw[x4];exact ok);rw[x4,jjO]at e;exact⟨h',e,Old.ofCh c⟩
end
def nd(wv:Int):Bool->Bool->Int
 |false,false=>IntKind.i64.wrap ((BitVec.ofInt IntKind.i64.bits 0 &&& BitVec.ofInt IntKind.i64.bits wv).toNat:Int)
 |true,false=>IntKind.i64.wrap ((BitVec.ofInt IntKind.i64.bits 2 &&& BitVec.ofInt IntKind.i64.bits wv).toNat:Int)
 |false,true=>IntKind.i64.wrap ((BitVec.ofInt IntKind.i64.bits (0+4) &&& BitVec.ofInt IntKind.i64.bits wv).toNat:Int)
 |true,true=>IntKind.i64.wrap ((BitVec.ofInt IntKind.i64.bits (2+4) &&& BitVec.ofInt IntKind.i64.bits wv).toNat:Int)
theorem nd_no(wv:Int):nd wv false false=0:=by
 show IntKind.i64.wrap (((0#64) &&& BitVec.ofInt 64 wv).toNat:Int)=0;rw[BitVec.zero_and];decide +kernel
theorem nd_eq:∀x y p q:Bool,nd (je3 x y) p q=je3 (x&&p) (y&&q):=by decide +kernel
section
variable{cl:Nat->Call}(Z:Sem cl){h:H}{p w s rw:Nat}{ow:Nat->Nat}{ro dat:Nat->Prop}{a r:St}{d i D:Nat}{nf fd n:Int}{f:Nat->Int}{fr fw:Nat->Bool}
include Z
theorem jnb(hd:4<=d)(b:BB h p w s rw ow ro dat a r)(ok:WsOk r.ws)(hD:h.get D=some (.cells (idw rw fr fw nf) false))(lD:D<h.nx) :
  ∃v h',cl d (.fn 59) [.p D 0] h=some (v,h')/\Row h.nx h' 2 v (repL fr fw r.ws 96).length (jat (repL fr fw r.ws 96))/\Old h h':=by
 have dD:(idw rw fr fw nf)[0+0]?=some (.p rw 0):=rfl;have wB:∀k:Nat,k<96->(idw rw fr fw nf)[0+1+(k:Int).toNat*1]?=some (.i (je3 (fr k) (fw k))):=fun k hk=>jqg om om;have j4:(idw rw fr fw nf).length=98:=jek;generalize idw rw fr fw nf=IL at hD dD wB j4;generalize v_:repL fr fw r.ws 96=PL;have uQ:∃_:Unit,repL fr fw r.ws 96=PL:=⟨(),v_⟩
 clear v_;refine aT Z ?_;obtain⟨C3,eD⟩:∃C,C=c59_3:=⟨_,rfl⟩
 simp only[c59,c59_6,c59_5,c59_4,<- eD,yB];refine Ga ?_;refine Zq (fun m e g=>∃(k:Nat) (sv:V),m=96-k/\k<=96/\e=[(0,.p D 0),(3,sv),(4,.i (k:Int))]/\Row h.nx g 2 sv (repL fr fw r.ws k).length (jat (repL fr fw r.ws k))/\Old h g) (k:=96) Ze ⟨0,.nils,rfl,by omega,rfl,by simpa[repL,jat] using Row.nil _ _ _,Zz h⟩ ?_;rintro _ _ g ⟨k,sv,rfl,hk,rfl,row,og⟩ n ih;obtain⟨cp,⟨asv,rfl⟩,_⟩:=id row.shape;by_cases d4:k<96
 case neg=>
  obtain rfl:k=96:=by omega
  have xB:¬((96:Nat):Int)<=95:=by omega
  obtain⟨_,uQ⟩:=uQ;rw[uQ]at row ⊢;clear ih b ok uQ wB j4 dD hD;generalize PL.length=m96 at row ⊢;generalize jat PL=PV at row ⊢;generalize (96:Nat)=kk at xB;refine Ga ?_;exact⟨row,og⟩
 clear uQ;have xB:(k:Int)<=95:=by omega
 have jM:(k:Int)<96:=by omega
 have nY:(0:Int)<=(k:Int):=by omega
 have a8:(k:Int)+1=((k+1:Nat):Int):=by omega
 have hx:=wB k d4;clear wB;have gD:g.get D=some (.cells IL false):=by rw[og.2 D lD,hD]
 obtain⟨g1,e1,o1⟩:=jk0 Z (d:=d-1) (fd:=(k:Int)) om (b.old og) ok;have oG:Old g ((g1.new (.cells [.bool false,.bool false,.bool false,.bool false,.bool false,.int .u64 0,.int .u64 0] false)).set g1.nx (.cells (rdyS r.ws (k:Int)).cells false)):=o1.trans ((Zz g1).new.set (zq _));have gr:((g1.new (.cells [.bool false,.bool false,.bool false,.bool false,.bool false,.int .u64 0,.int .u64 0] false)).set g1.nx (.cells (rdyS r.ws (k:Int)).cells false)).get g1.nx=some (.cells (rdyS r.ws (k:Int)).cells false):=jab _;have mE:=jhB fr fw r.ws k;have y8:flI (fr k) (fw k) (rdyS r.ws (k:Int))=0->repL fr fw r.ws (k+1)=repL fr fw r.ws k:=fun hz=>by simp only[repL,zD hz,List.append_nil]
 have y9:flI (fr k) (fw k) (rdyS r.ws (k:Int))≠0->repL fr fw r.ws (k+1)=repL fr fw r.ws k++[((k:Int),flI (fr k) (fw k) (rdyS r.ws (k:Int)))]:=fun hz=>by simp only[repL,zC hz]
 have ih':=fun sv g2 lF uB=>ih (96-(k+1)) om _ g2 ⟨k+1,sv,rfl,by omega,rfl,lF,uB⟩;clear ih b ok;generalize repL fr fw r.ws (k+1)=pl1 at ih' y8 y9;generalize repL fr fw r.ws k=pl at row mE y8 y9;generalize rdyS r.ws (k:Int)=R at e1 gr oG y8 y9;obtain⟨op,inn,out,hup,err,r1,r2⟩:=R;have hE:nd (je3 (fr k) (fw k)) (inn||hup||err) (out||hup||err)=flI (fr k) (fw k) ⟨op,inn,out,hup,err,r1,r2⟩:=nd_eq _ _ _ _;rw[<- hE]at y8 y9;clear hE;simp only[Rdy.cells]at e1 gr oG;have gD':=(oG.2 D (zr lD og.1)).trans gD;have q1:([.bool op,.bool inn,.bool out,.bool hup,.bool err,.int .u64 r1,.int .u64 r2]:List V)[0+1]?=some (.bool inn):=rfl;have q2:([.bool op,.bool inn,.bool out,.bool hup,.bool err,.int .u64 r1,.int .u64 r2]:List V)[0+2]?=some (.bool out):=rfl;have q3:([.bool op,.bool inn,.bool out,.bool hup,.bool err,.int .u64 r1,.int .u64 r2]:List V)[0+3]?=some (.bool hup):=rfl;have q4:([.bool op,.bool inn,.bool out,.bool hup,.bool err,.int .u64 r1,.int .u64 r2]:List V)[0+4]?=some (.bool err):=rfl;have nM:=og.trans oG;have aC:Row h.nx ((g1.new (.cells [.bool false,.bool false,.bool false,.bool false,.bool false,.int .u64 0,.int .u64 0] false)).set g1.nx (.cells [.bool op,.bool inn,.bool out,.bool hup,.bool err,.int .u64 r1,.int .u64 r2] false)) 2 (.slice asv pl.length cp) pl.length (jat pl):=row.keep oG.1 fun z hz=>oG.2 z (row.at_ge hz).2;clear row og oG;generalize je3 (fr k) (fw k)=wv at hx y8 y9;refine qm ?_;rw[show jao ([.bool false,.bool false,.bool false,.bool false,.bool false,.int .u64 0,.int .u64 0]:List V) 0 [.bool op,.bool inn,.bool out,.bool hup,.bool err,.int .u64 r1,.int .u64 r2]=[.bool op,.bool inn,.bool out,.bool hup,.bool err,.int .u64 r1,.int .u64 r2] from rfl];clear e1 gD dD hD;generalize hG:(g1.new (.cells [.bool false,.bool false,.bool false,.bool false,.bool false,.int .u64 0,.int .u64 0] false)).set g1.nx (.cells [.bool op,.bool inn,.bool out,.bool hup,.bool err,.int .u64 r1,.int .u64 r2] false)=G at gr gD' nM aC ⊢;clear hG;by_cases hz:nd wv (inn||hup||err) (out||hup||err)=0
 .have e:=y8 hz;subst e;have T:=ih' _ _ aC nM;clear ih' y8 y9 aC nM;cases inn<;>cases out<;>cases hup<;>cases err
  all_goals
   simp only[nd,Bool.or_true,Bool.or_false,Bool.true_or,Bool.false_or]at hz;have iA:=fun e=>(show _≠(0:Int) from e) hz;rw[eD]
   repeat' (first|refine qxy ?_|(refine zsp ?_ ?_<;>intro _)|fail)
   rw[a8,<- eD];exact T
 .have e:=y9 hz;have T:∀v2 g2,Row h.nx g2 2 v2 pl1.length (jat pl1)->Old h g2->_:=fun v2 g2=>ih' v2 g2;clear y8 y9 ih';obtain⟨fl,fI⟩:∃fl,fl=nd wv (inn||hup||err) (out||hup||err):=⟨_,rfl⟩
  rw[<- fI]at e;subst e;cases inn<;>cases out<;>cases hup<;>cases err
  case false.false.false.false=>exact zJ (nd_no wv) hz
  all_goals
   simp only[nd,Bool.or_true,Bool.or_false,Bool.true_or,Bool.false_or]at hz fI;rw[eD]
   repeat' (first|refine qxy ?_|(refine zsp ?_ ?_<;>intro _)|fail)
   rw[<- fI];refine Ops.push (N:=h.nx) (new:=[.i (k:Int),.i fl]) rfl rfl rfl rfl om rfl rfl aC nM.1 om om fun v2 g2 row' cB iA w6=>?_;obtain⟨qJ,⟨Cl,rfl⟩,_⟩:=id row'.shape
   repeat' (first|refine qxy ?_|(refine zsp ?_ ?_<;>intro _)|fail)
   rw[a8,<- eD];refine T _ _ ?_ ?_
   .simpa[jat] using row'
   .exact⟨zA nM.1 cB,fun j hj=>by rw[w6 j (by have:=nM.1;omega) (fun e=>by have:=(aC.at_ge e).1;omega),nM.2 j hj]⟩
end
section
variable{cl:Nat->Call}(Z:Sem cl){h:H}{p w s rw:Nat}{ow:Nat->Nat}{ro dat:Nat->Prop}{a r:St}{d i D:Nat}{nf fd n:Int}{f:Nat->Int}{fr fw:Nat->Bool}
include Z
theorem di_due(hd:5<=d)(b:BB h p w s rw ow ro dat a r)(so:StOk r i)(hi:i<=900000)(hD:h.get D=some (.cells (idw rw fr fw nf) false))(lD:D<h.nx) :
  ∃v h',cl d (.fn 125) [.p D 0] h=some (v,h')/\v = .bool (dueI fr fw nf r)/\Old h h':=by
 obtain⟨lv,g,e1,row,o1⟩:=jnb Z (d:=d-1) om b so.K.ok hD lD;have e2:=jjv Z (d:=d-1) om (b.old o1) so hi;have hg:g.get D=some (.cells (idw rw fr fw nf) false):=by rw[o1.2 D lD,hD]
 have dD:(idw rw fr fw nf)[0+0]?=some (.p rw 0):=rfl;have Mg:(idw rw fr fw nf)[0+97]?=some (.i nf):=jqf;unfold dueI;generalize repL fr fw r.ws 96=PL at row ⊢;generalize r.tb.sum 32=sm at e2 ⊢;obtain⟨cp,⟨asv,rfl⟩,_⟩:=row.shape;clear row b so hD;refine aT Z ?_;cases PL with
 |cons x PL=>
  have hl:(0:Int)<(((x::PL).length:Nat):Int):=by simp
  have hE:(!(x::PL).isEmpty||(decide (0<=nf)&&decide (0<sm)))=true:=rfl;rw[hE];generalize (x::PL).length=k at hl e1;refine Ga ?_;exact⟨rfl,o1⟩
 |nil=>
  have hE:(!([]:List (Int×Int)).isEmpty||(decide (0<=nf)&&decide (0<sm)))=(decide (0<=nf)&&decide (0<sm)):=rfl;rw[hE];have hl:¬(0:Int)<((([]:List (Int×Int)).length:Nat):Int):=by simp
  generalize ([]:List (Int×Int)).length=k at hl e1;by_cases hn:0<=nf
  .rw[zG hn,Bool.true_and];refine Ga ?_;exact⟨rfl,o1⟩
  .rw[zE hn,Bool.false_and];refine Ga ?_;exact⟨rfl,o1⟩
end
def jfu(h:H)(p w s rw:Nat)(ow:Nat->Nat)(ro dat:Nat->Prop)(a:St)(sb:Nat)(X:Nat->Prop)(N:Nat)(R:Int×List Sp×List Int×St)(v:V)(h':H):Prop:=
 ∃ro' L' i',v = .i R.1/\L'.map SpX.sp=R.2.1/\BB h' p w s rw ow ro' dat a R.2.2.2/\StOk R.2.2.2 i'/\SD h' ow ro' dat p sb X L' R.2.2.1/\Fs h h' ow ro ow ro' (· = sb)/\i'+sumM L'<=N
theorem jfu.trans{h g:H}{p w s rw:Nat}{ow:Nat->Nat}{ro xA dat:Nat->Prop}{a:St}{sb:Nat}{X:Nat->Prop}{N:Nat}{R:Int×List Sp×List Int×St}{v:V}{h':H}(q:jfu g p w s rw ow xA dat a sb X N R v h')(f:Fs h g ow ro ow xA (· = sb)):jfu h p w s rw ow ro dat a sb X N R v h':=by
 obtain⟨ow',L',i',e1,e2,e3,e4,e5,e6,e7⟩:=q;exact⟨ow',L',i',e1,e2,e3,e4,e5,f.trans e6 fun _ _ e=>e,e7⟩
section
variable{cl:Nat->Call}(Z:Sem cl){h:H}{p w s rw:Nat}{ow:Nat->Nat}{ro dat:Nat->Prop}{a r:St}{d i sb:Nat}{fd wt:Int}{fv:Bool}{X:Nat->Prop}{L:List SpX}{o:List Int}
include Z
end
section
variable{cl:Nat->Call}(Z:Sem cl){h:H}{p w s rw:Nat}{ow:Nat->Nat}{ro dat:Nat->Prop}{a r:St}{d i sb D:Nat}{wt nf:Int}{fr fw:Nat->Bool}{fv:Bool}{X:Nat->Prop}{L:List SpX}{o:List Int}{IL:List V}{rd:St->Bool}
include Z
theorem di_nap{N:Nat}{sbi:Env}(hd:9<=d)(b:BB h p w s rw ow ro dat a r)(so:StOk r i)(A:SD h ow ro dat p sb X L o)(hD:h.get D=some (.cells IL false))(dD:IL[0+0]?=some (.p rw 0))(oD:Own h ow ro dat p D)(nD:D≠sb)(hi:i+sumM L<=N)(hN:N<=900000)(hL:L.length<=2000)(hX:∀z,h.nx<=z->X z)
  (hc:∀(g:H) (xA:Nat->Prop) (a1:St) (i1:Nat),Fs h g ow ro ow xA (· = sb)->BB g p w s rw ow xA dat a a1->StOk a1 i1->i1<=N -> ∃g',cl d (.fn 125) [.p D 0] g=some (.bool (rd a1),g')/\Old g g') (w0:0<=wt) (w1:wt<=18446744073709551615) :
  Run (cl d) fuel (.loop [0,1,2,3,11] c58_10) [.block 2,.seq (.seq (.region 0 [.mk4 0 (some 8) (.mv (.c (.i 0))) none] [8]) (.ret))] ((0,.p D 0)::(1,.p sb 0)::(2,.int .u64 wt)::(3,.bool fv)::(11,.i 0)::sbi) h
   (Fin c58.res fun v h'=>jfu h p w s rw ow ro dat a sb X N (napS rd fv (L.map SpX.sp) wt o r) v h'):=by
 generalize hR:napS rd fv (L.map SpX.sp) wt o r=R;obtain⟨C,hC⟩:∃C,C=c58_9:=⟨_,rfl⟩
 simp only[c58_10,<- hC,yH];refine Zq (fun m e g=>∃(L1:List SpX) (o1:List Int) (a1:St) (xA:Nat->Prop) (i1:Nat) (w1 c1:Int) (sbe:Env),m=L1.length/\e=(0,.p D 0)::(1,.p sb 0)::(2,.int .u64 w1)::(3,.bool fv)::(11,.i c1)::sbe/\BB g p w s rw ow xA dat a a1/\StOk a1 i1/\SD g ow xA dat p sb X L1 o1/\Fs h g ow ro ow xA (· = sb)/\i1+sumM L1<=N/\(0<=c1/\c1+(L1.length:Int)<=2000)/\0<=w1/\w1<=18446744073709551615/\napS rd fv (L1.map SpX.sp) w1 o1 a1=R)
  (k:=L.length) Ze ⟨L,o,r,ro,i,wt,0,sbi,rfl,rfl,b,so,A,Fs.refl,hi,by omega,w0,w1,hR⟩ ?_
 clear b so A hi w0 w1 hR;rintro _ _ g ⟨L1,o1,a1,xA,i1,w1,c1,mM,rfl,rfl,b,so,A,f,hi,xD,w0,w2,hR⟩ n' ih;show Run _ _ _ _ [(0,.p D 0),(1,.p sb 0),(2,.int .u64 w1),(3,.bool fv),(11,.i c1)] _ _;clear mM;have kJ:c1<=2100:=by omega
 obtain⟨G,e1,o2⟩:=hc g xA a1 i1 f b so om;have w_:∀z,G.nx<=z->X z:=fun z hz=>hX z (zA f.ch.nx (zA o2.1 hz));have f1:Fs h G ow ro ow xA (· = sb):=f.trans (Fs.old (S:=fun _=>False) o2) fun _ _ e=>e.elim;have gD1:G.get D=some (.cells IL false):=by rw[f1.get oD nD,hD]
 have b1:=b.old o2;have A1:=A.fs b (Fs.old (S:=fun _=>False) o2) (fun e=>e) (fun _ _ e=>e) fun _ _ e=>e;have Q1:rd a1=true->jfu h p w s rw ow ro dat a sb X N (1,L1.map SpX.sp,o1,a1) (.i 1) G:=fun _=>⟨xA,L1,i1,rfl,rfl,b1,so,A1,f1,hi⟩
 clear hc;have T:rd a1=false->Run (cl d) fuel c58_8 [.block 3,.seq (.region 0 [.mk4 0 (some 45) (.mv (.t 11)) none,.mk4 1 (some 46) (.bin .add (.t 45) (.c (.i 1))) none,.mk4 2 (some 11) (.mv (.t 46)) none] [0,1,2,3,11]),.loop [0,1,2,3,11] (.seq (.seq (.region 0 [.mk4 0 (some 43) (.mv (.t 11)) none,.mk4 1 (some 44) (.bin .leq (.t 43) (.c (.i 2100))) none] [0,1,2,3,11,44]) (.cond (.t 44) (.skip) (.exit 2))) (.seq (.block 3 C) (.region 0 [.mk4 0 (some 45) (.mv (.t 11)) none,.mk4 1 (some 46) (.bin .add (.t 45) (.c (.i 1))) none,.mk4 2 (some 11) (.mv (.t 46)) none] [0,1,2,3,11]))) n',.block 2,.seq (.seq (.region 0 [.mk4 0 (some 8) (.mv (.c (.i 0))) none] [8]) (.ret))]
   [(0,.p D 0),(1,.p sb 0),(2,.int .u64 w1),(3,.bool fv),(11,.i c1),(49,.bool false)] G (Fin c58.res fun v h'=>jfu h p w s rw ow ro dat a sb X N R v h'):=by
  intro pC;obtain⟨v,ov,es,ea,el,eo,eoz⟩:=id A1.ex;have nt:¬(true=false):=fun e=>Bool.noConfusion e;have ft:false=false:=rfl;have Ng:c1+1<=9223372036854775807:=by omega
  have U:∀(x:SpX) (M:List SpX),L1=x::M -> ¬(fv=false/\w1=0) -> ¬(fv=false/\w1<x.t)->Run (cl d) fuel c58_4 [.block 3,.seq (.region 0 [.mk4 0 (some 45) (.mv (.t 11)) none,.mk4 1 (some 46) (.bin .add (.t 45) (.c (.i 1))) none,.mk4 2 (some 11) (.mv (.t 46)) none] [0,1,2,3,11]),.loop [0,1,2,3,11] (.seq (.seq (.region 0 [.mk4 0 (some 43) (.mv (.t 11)) none,.mk4 1 (some 44) (.bin .leq (.t 43) (.c (.i 2100))) none] [0,1,2,3,11,44]) (.cond (.t 44) (.skip) (.exit 2))) (.seq (.block 3 C) (.region 0 [.mk4 0 (some 45) (.mv (.t 11)) none,.mk4 1 (some 46) (.bin .add (.t 45) (.c (.i 1))) none,.mk4 2 (some 11) (.mv (.t 46)) none] [0,1,2,3,11]))) n',.block 2,.seq (.seq (.region 0 [.mk4 0 (some 8) (.mv (.c (.i 0))) none] [8]) (.ret))]
    [(0,.p D 0),(1,.p sb 0),(2,.int .u64 w1),(3,.bool fv),(11,.i c1),(13,.int .u64 x.t)] G (Fin c58.res fun v h'=>jfu h p w s rw ow ro dat a sb X N R v h'):=by
   rintro x M rfl k1 k2;have sx:=el x (zj ..);obtain⟨g2,mH,e2,b2,f2⟩:=jmr Z (d:=d) (t:=x.t) om b1 so sx.t0 sx.t1;have cE:=jgG so sx.t0 sx.t1;have A2:=A1.fs b1 (Fs.of_fm (S:=fun _=>False) f2) (fun e=>e) (fun _ _ e=>e) fun _ _ e=>e;rw[jfT]at hi;obtain⟨g3,tE,e3,b3,bH,A3,f3⟩:=jo2 Z (d:=d) om b2 cE om A2;have fa:Fs h g2 ow ro ow mH (· = sb):=f1.trans (Fs.of_fm (S:=fun _=>False) f2) fun _ _ e=>e.elim;have gD2:g2.get D=some (.cells IL false):=by rw[fa.get oD nD,hD]
   have ff:Fs h g3 ow ro ow tE (· = sb):=fa.trans f3 fun _ _ e=>e;have x0:=sx.t0;have yX:c1+(M.length:Int)+1<=2000:=by have h:=xD.2;simp only[List.length_cons]at h;omega
   have xS:c1+1+(M.length:Int)<=2000:=by omega
   clear b1 A1 b2 A2 cE so el ea eo eoz f1 f2 f3 sx fa;cases w9:x.intr with
   |true=>
    have oQ:=hR;rw[List.map_cons,jip (x:=x.sp) pC k1 k2 w9]at oQ;subst oQ;rw[w9]at e3;clear ih hR;cases fv with
    |true=>
     clear k1 k2;refine Ga ?_;exact⟨tE,M,_,rfl,rfl,b3,bH,A3,ff,by omega⟩
    |false=>
     have k3:¬w1<x.t:=fun e=>k2 ⟨rfl,e⟩;clear k1 k2;refine Ga ?_;exact⟨tE,M,_,rfl,rfl,b3,bH,A3,ff,by omega⟩
   |false=>
    rw[List.map_cons,jin (x:=x.sp) pC k1 k2 w9]at hR;rw[w9]at e3;cases fv with
    |true=>
     clear k1 k2;rw[jle (w2:=w1)]at hR;refine Ga ?_;exact ih M.length Zd _ _ ⟨M,x.ol,_,tE,_,w1,c1+1,_,rfl,rfl,b3,bH,A3,ff,by omega,⟨by omega,xS⟩,w0,w2,hR⟩
    |false=>
     have k3:¬w1<x.t:=fun e=>k2 ⟨rfl,e⟩;rw[show min w1 x.sp.ticks=x.t from Int.min_eq_right (show x.t<=w1 by omega)]at hR;clear k1 k2;refine Ga ?_;exact ih M.length Zd _ _ ⟨M,x.ol,_,tE,_,w1-x.t,c1+1,_,rfl,rfl,b3,bH,A3,ff,by omega,⟨by omega,xS⟩,by omega,by omega,hR⟩
  cases fv with
  |true=>
   cases L1 with
   |nil=>
    obtain⟨ad,c,rfl,_⟩:=id ea;have h0:(([]:List SpX).length:Int)=0:=rfl;rw[List.map_nil,jdT pC rfl]at hR;subst hR;clear ih U ea el eo eoz;refine Ga ?_;exact⟨xA,[],i1,rfl,rfl,b1,so,A1,f1,hi⟩
   |cons x M=>
    have U':=U x M rfl (fun e=>nt e.1) (fun e=>nt e.1);obtain⟨bb,oo,c,cs,rr,rfl,lb,gb,h4⟩:=At4.cons ea;have h0:¬(((x::M).length:Nat):Int)=0:=by simp;omega
    have kI:(0:Int)<(((x::M).length:Nat):Int):=by simp
    have q0:cs[oo+(0:Int).toNat*4+0]?=some (.int .u64 x.t):=by rw[jhp h4 om];rfl
    obtain⟨C3,eD⟩:∃C,C=c58_4:=⟨_,rfl⟩
    simp only[c58_8,c58_7,c58_6,<- eD,yB];rw[<- eD]at U';clear ih U ea el eo eoz b1 so A1 f1 hR;refine Ga ?_;exact U'
  |false=>
   by_cases hw:w1=0
   .rw[jmS pC rfl hw]at hR;subst hR;clear ih U ea el eo eoz;refine Ga ?_;exact⟨xA,L1,i1,rfl,rfl,b1,so,A1,f1,hi⟩
   cases L1 with
   |nil=>
    obtain⟨ad,c,rfl,_⟩:=id ea;have h0:(([]:List SpX).length:Int)=0:=rfl;rw[List.map_nil,jjY pC rfl hw]at hR;subst hR;obtain⟨g2,mH,e2,b2,f2⟩:=jmr Z (d:=d) (t:=w1) om b1 so w0 w2;have cE:=jgG so w0 w2;have A2:=A1.fs b1 (Fs.of_fm (S:=fun _=>False) f2) (fun e=>e) (fun _ _ e=>e) fun _ _ e=>e;have ff:Fs h g2 ow ro ow mH (· = sb):=f1.trans (Fs.of_fm (S:=fun _=>False) f2) fun _ _ e=>e.elim;clear ih U ea el eo eoz b1 so A1 f1;refine Ga ?_;exact⟨mH,[],i1,rfl,rfl,b2,cE,A2,ff,hi⟩
   |cons x M=>
    obtain⟨bb,oo,c,cs,rr,rfl,lb,gb,h4⟩:=At4.cons ea;have h0:¬(((x::M).length:Nat):Int)=0:=by simp;omega
    have kI:(0:Int)<(((x::M).length:Nat):Int):=by simp
    have q0:cs[oo+(0:Int).toNat*4+0]?=some (.int .u64 x.t):=by rw[jhp h4 om];rfl
    by_cases d4:w1<x.t
    case neg=>
     have U':=U x M rfl (fun e=>hw e.2) (fun e=>d4 e.2);obtain⟨C3,eD⟩:∃C,C=c58_4:=⟨_,rfl⟩
     simp only[c58_8,c58_7,c58_6,<- eD,yB];rw[<- eD]at U';clear ih U ea el eo eoz b1 so A1 f1 hR;refine Ga ?_;exact U'
    have eE:(x::M).length<=2000:=by have h:=xD.2;omega
    obtain⟨g2,e2,b2,A2,f2⟩:=sd_Less Z (d:=d) (n:=w1) om b1 A1 eE w0 om w_;obtain⟨g3,tE,e3,b3,f3⟩:=jmr Z (d:=d) (t:=w1) om b2 so w0 w2;have cE:=jgG so w0 w2;have A3:=A2.fs b2 (Fs.of_fm (S:=fun _=>False) f3) (fun e=>e) (fun _ _ e=>e) fun _ _ e=>e;have fa:Fs h g2 ow ro ow xA (· = sb):=f1.trans f2 fun _ _ e=>e;have gD2:g2.get D=some (.cells IL false):=by rw[fa.get oD nD,hD]
    have ff:Fs h g3 ow ro ow tE (· = sb):=fa.trans (Fs.of_fm (S:=fun _=>False) f3) fun _ _ e=>e.elim;rw[List.map_cons,jio (x:=x.sp) pC rfl hw d4]at hR;subst hR;have hs:i1+sumM ({x with t:=x.t-w1}::M)<=N:=hi;clear ih U ea el eo eoz b1 so A1 f1 b2 A2 f2 f3 fa;refine Ga ?_;exact⟨tE,_,i1,rfl,rfl,b3,cE,A3,ff,hs⟩
 clear b so A f ih b1 A1 f1 w_;obtain⟨C7,nQ⟩:∃C,C=c58_8:=⟨_,rfl⟩
 rw[<- nQ]at T;have vS:=hC;simp only[c58_9,<- nQ,yB]at vS;by_cases pC:rd a1=true
 .rw[pC]at e1;rw[jeB pC]at hR;subst hR;clear T;rw[vS];refine Ga ?_;exact Q1 pC
 have pC:rd a1=false:=by simpa using pC
 rw[pC]at e1;have T':=T pC;clear T;rw[vS]at T' ⊢;refine Ga ?_;exact T'
theorem di_sleep{N:Nat}(hd:10<=d)(b:BB h p w s rw ow ro dat a r)(so:StOk r i)(A:SD h ow ro dat p sb X L o)(hD:h.get D=some (.cells IL false))(dD:IL[0+0]?=some (.p rw 0))(oD:Own h ow ro dat p D)(nD:D≠sb)(hi:i+sumM L<=N)(hN:N<=900000)(hL:L.length<=2000)(hX:∀z,h.nx<=z->X z)
  (hc:∀(g:H) (xA:Nat->Prop) (a1:St) (i1:Nat),Fs h g ow ro ow xA (· = sb)->BB g p w s rw ow xA dat a a1->StOk a1 i1->i1<=N -> ∃g',cl (d-1) (.fn 125) [.p D 0] g=some (.bool (rd a1),g')/\Old g g') (w0:0<=wt) (w1:wt<=18446744073709551615) :
  ∃v h',cl d (.fn 58) [.p D 0,.p sb 0,.int .u64 wt,.bool fv] h=some (v,h')/\jfu h p w s rw ow ro dat a sb X N (jbw rd fv (L.map SpX.sp) wt o r) v h':=by
 refine aT Z ?_;generalize hR:jbw rd fv (L.map SpX.sp) wt o r=R;obtain⟨C,hC⟩:∃C,C=c58_11:=⟨_,rfl⟩
 obtain⟨C2,nG⟩:∃C,C=(.loop [0,1,2,3,11] c58_10:AC):=⟨_,rfl⟩
 simp only[c58,c58_13,c58_12,<- hC,<- nG,yB,yC,yH];refine Ga ?_;refine Zq (fun m e g=>∃(L1:List SpX) (o1:List Int) (a1:St) (xA:Nat->Prop) (i1:Nat) (c1:Int) (sbe:Env),m=L1.length/\e=(0,.p D 0)::(1,.p sb 0)::(2,.int .u64 wt)::(3,.bool fv)::(9,.i c1)::sbe/\BB g p w s rw ow xA dat a a1/\StOk a1 i1/\SD g ow xA dat p sb X L1 o1/\Fs h g ow ro ow xA (· = sb)/\i1+sumM L1<=N/\(0<=c1/\c1+(L1.length:Int)<=2000)/\jbw rd fv (L1.map SpX.sp) wt o1 a1=R)
  (k:=L.length) Ze ⟨L,o,r,ro,i,0,_,rfl,rfl,b,so,A,Fs.refl,hi,by omega,hR⟩ ?_
 clear b so A hi hR;rintro _ _ g ⟨L1,o1,a1,xA,i1,c1,mM,rfl,rfl,b,so,A,f,hi,xD,hR⟩ n' ih;show Run _ _ _ _ [(0,.p D 0),(1,.p sb 0),(2,.int .u64 wt),(3,.bool fv),(9,.i c1)] _ _;clear mM;obtain⟨v,ov,es,ea,el,eo,eoz⟩:=id A.ex;have kJ:c1<=2100:=by omega
 have gD:g.get D=some (.cells IL false):=by rw[f.get oD nD,hD]
 have T:∀sbe,jbw rd fv (L1.map SpX.sp) wt o1 a1=napS rd fv (L1.map SpX.sp) wt o1 a1->Run (cl (d-1)) fuel C2 [.block 2,.seq (.seq (.region 0 [.mk4 0 (some 8) (.mv (.c (.i 0))) none] [8]) (.ret))] ((0,.p D 0)::(1,.p sb 0)::(2,.int .u64 wt)::(3,.bool fv)::(11,.i 0)::sbe) g (Fin c58.res (jfu h p w s rw ow ro dat a sb X N R)):=fun sbe hz=>by
  rw[nG];rw[hz]at hR;subst hR;exact Run.fin_mono' (di_nap Z (d:=d-1) om b so A gD dD (oD.fs f) nD hi hN om (fun z hz=>hX z (zA f.ch.nx hz)) (fun g2 mH a2 i2 f2 b2 cE fN=>hc g2 mH a2 i2 (f.trans f2 fun _ _ e=>e) b2 cE fN) w0 w1) fun _ _ q=>jfu.trans q f
 cases L1 with
 |nil=>
  obtain⟨ad,c,rfl,_⟩:=id ea;have h0:(([]:List SpX).length:Int)=0:=rfl;have Uf:¬(0:Int)<(([]:List SpX).length:Int):=by rw[h0];omega
  have T':=fun sbe=>T sbe rfl;clear ih T ea el eo eoz b so A f hR hc;refine Ga ?_;exact T' _
 |cons x M=>
  obtain⟨bb,oo,c,cs,rr,rfl,lb,gb,h4⟩:=At4.cons ea;have kI:(0:Int)<(((x::M).length:Nat):Int):=by simp
  have q0:cs[oo+(0:Int).toNat*4+0]?=some (.int .u64 x.t):=by rw[jhp h4 om];rfl
  by_cases ht:x.t=0
  case neg=>
   have T':=fun sbe=>T sbe (by unfold jbw;rw[List.map_cons,jj0 (x:=x.sp) ht]);clear ih T ea el eo eoz b so A f hR hc;refine Ga ?_;exact T' _
  rw[jfT]at hi;obtain⟨g3,tE,e3,b3,bH,A3,f3⟩:=jo2 Z (d:=d-1) om b so om A;have ff:Fs h g3 ow ro ow tE (· = sb):=f.trans f3 fun _ _ e=>e;have Ng:c1+1<=9223372036854775807:=by omega
  have xS:c1+1+(M.length:Int)<=2000:=by have h:=xD.2;simp only[List.length_cons]at h;omega
  clear T ea el eo eoz b so A f f3 hc;cases w9:x.intr with
  |true=>
   unfold jbw at hR;rw[List.map_cons,jj1 (x:=x.sp) ht w9]at hR;subst hR;rw[w9]at e3;subst hC;clear ih;refine Ga ?_;exact⟨tE,M,_,rfl,rfl,b3,bH,A3,ff,by omega⟩
  |false=>
   unfold jbw at hR;rw[List.map_cons,jjz (x:=x.sp) ht w9]at hR;rw[w9]at e3;have kW:jbw rd fv (M.map SpX.sp) wt x.ol (mvsS x.sp.moves a1)=R:=hR;subst hC;refine Ga ?_;exact ih M.length Zd _ _ ⟨M,x.ol,_,tE,_,c1+1,_,rfl,rfl,b3,bH,A3,ff,by omega,⟨by omega,xS⟩,kW⟩
end
end Am.Sigs
namespace Am
open Go
theorem Ops.ixA1{call:Call}{fuel base:Nat}{K:List Fr}{e:Env}{h:H}{Q:Post}{ix:Nat}{dst:Option Nat}{ops:List Ins}{keep:List Nat}{at_:Option Nat}{x i:Opd}{l:List V}{v:V}{kd:IntKind}{n sz len:Nat}(hx:x.ev e=some (.agg l))(hi:i.ev e=some (.int kd (n:Int)))(hn:n<len)(hv:l[n*sz]?=some v)
  (k:Ops call fuel base ops keep K (layv e dst v) h Q):Ops call fuel base (⟨ix,dst,.ixA len sz none x i,none,at_,[]⟩::ops) keep K e h Q:=by
 refine zau rfl ?_ k;have hb:jgx (n:Int) len=true:=jds.2 ⟨by omega,by omega⟩;simp only[I.pure,hx,hi,hb,cond_true,part,zw,hv]
end Am
namespace Am.Sigs
open Am Go
def nv(wv:Int):Bool->Bool->Int
 |false,false=>0
 |true,false=>IntKind.i64.wrap ((BitVec.ofInt IntKind.i64.bits 0 |||BitVec.ofInt IntKind.i64.bits (IntKind.i64.wrap ((BitVec.ofInt IntKind.i64.bits wv &&& BitVec.ofInt IntKind.i64.bits 2).toNat:Int))).toNat:Int)
 |false,true=>IntKind.i64.wrap ((BitVec.ofInt IntKind.i64.bits 0 |||BitVec.ofInt IntKind.i64.bits (IntKind.i64.wrap ((BitVec.ofInt IntKind.i64.bits wv &&& BitVec.ofInt IntKind.i64.bits 4).toNat:Int))).toNat:Int)
 |true,true=>IntKind.i64.wrap ((BitVec.ofInt IntKind.i64.bits (IntKind.i64.wrap ((BitVec.ofInt IntKind.i64.bits 0 |||BitVec.ofInt IntKind.i64.bits (IntKind.i64.wrap ((BitVec.ofInt IntKind.i64.bits wv &&& BitVec.ofInt IntKind.i64.bits 2).toNat:Int))).toNat:Int)) |||BitVec.ofInt IntKind.i64.bits (IntKind.i64.wrap ((BitVec.ofInt IntKind.i64.bits wv &&& BitVec.ofInt IntKind.i64.bits 4).toNat:Int))).toNat:Int)
theorem nv_eq:∀x y p q:Bool,nv (je3 x y) p q=je3 (x&&p) (y&&q):=by decide +kernel
section
variable{cl:Nat->Call}(Z:Sem cl){h:H}{p w s rw:Nat}{ow:Nat->Nat}{ro dat:Nat->Prop}{a r:St}{d i D:Nat}{nf fd n:Int}{f:Nat->Int}{fr fw:Nat->Bool}
include Z
theorem jjk{L c:Nat}(hd:5<=d)(I:Nat->H->Prop)(J:H->Prop)
  (hI:∀i g,I i g->BB g p w s rw ow ro dat a r/\g.get D=some (.cells (idw w fr fw nf) false)/\g.get c=some (.cells [.p D 0] false)) (ok:WsOk a.ws) (lD:D<h.nx) (lc:c<h.nx)
  (ho:∀i g g',I i g->Old g g'->I i g')
  (xP:∀i g,i<96->flI (fr i) (fw i) (rdyS a.ws (i:Int))=0->I i g->I (i+1) g)
  (hy:∀i g,i<96->flI (fr i) (fw i) (rdyS a.ws (i:Int))≠0->I i g -> ∃(b:Bool) (g':H),cl (d-1) (.yld L) [.agg [.i (i:Int),.i (flI (fr i) (fw i) (rdyS a.ws (i:Int)))]] g=some (.bool b,g')/\(b=true->I (i+1) g')/\(b=false->J g'))
  (h0:I 0 h):∃v h',cl d (.fn 121) [.yld L,.p c 0] h=some (v,h')/\(I 96 h'\/J h'):=by
 obtain⟨_,bE,aD⟩:=hI _ _ h0;refine aT Z ?_;obtain⟨C3,eD⟩:∃C,C=c121_3:=⟨_,rfl⟩
 simp only[c121,c121_6,c121_5,c121_4,<- eD,yB,yC,yF];have j4:(idw w fr fw nf).length=98:=jek;have hw:((idw w fr fw nf).drop (0+1)).take 96=tab 96 (fun i=>V.i (jlD fr fw i)):=idc_tab;have ht:∀i:Nat,i<96->(tab 96 (fun i=>V.i (jlD fr fw i)))[i*1]?=some (.i (je3 (fr i) (fw i))):=fun i hi=>by rw[Nat.mul_one,jcD hi]
 refine Ga ?_;refine zcw rfl bE om ?_;rw[hw];generalize tab 96 (fun i=>V.i (jlD fr fw i))=W at ht;refine Ga ?_;clear hw bE aD lD lc j4;refine Zq (fun m e g=>∃i:Nat,m=96-i/\i<=96/\e=[(0,.yld L),(1,.p c 0),(11,.agg W),(12,.i (i:Int))]/\I i g) (k:=96) Ze ⟨0,rfl,by omega,rfl,h0⟩ ?_;clear h0;rintro _ _ g ⟨i,rfl,hi,rfl,fO⟩ n ih;by_cases d4:i<96
 case neg=>
  obtain rfl:i=96:=by omega
  have xB:¬((96:Nat):Int)<96:=by omega
  clear ih hy xP hI ho ht ok;refine Ga ?_;exact .inl fO
 have xB:(i:Int)<96:=by omega
 have a8:(i:Int)+1=((i+1:Nat):Int):=by omega
 have hx:=ht i d4;obtain⟨b,gD,gc⟩:=hI _ _ fO;have dD:(idw w fr fw nf)[0+0]?=some (.p w 0):=rfl;have sk:=xP i;have wJ:=hy i;clear ht hy xP;by_cases iG:(fr i||fw i)=false
 .simp only[Bool.or_eq_false_iff]at iG;have q:=sk g d4 (by rw[iG.1,iG.2];rfl) fO;rw[iG.1,iG.2]at hx;replace hx:W[i*1]?=some (.i 0):=hx;clear sk wJ fO hI ho ok b gD gc dD iG;refine Ga ?_;refine Ops.ixA1 rfl rfl d4 hx ?_;refine qm ?_;rw[a8];exact ih (96-(i+1)) om _ _ ⟨i+1,rfl,by omega,rfl,q⟩
 obtain⟨g1,e1,o1⟩:=jky Z (d:=d-1) (fd:=(i:Int)) om b ok;have Pg:g1.get c=some (.cells [.p D 0] false):=(hI _ _ (ho _ _ _ fO o1)).2.2;have I2:I i ((g1.new (.cells [.bool false,.bool false,.bool false,.bool false,.bool false,.int .u64 0,.int .u64 0] false)).set g1.nx (.cells (rdyS a.ws (i:Int)).cells false)):=ho _ _ _ fO (o1.trans ((Zz g1).new.set (zq _)));have gr:((g1.new (.cells [.bool false,.bool false,.bool false,.bool false,.bool false,.int .u64 0,.int .u64 0] false)).set g1.nx (.cells (rdyS a.ws (i:Int)).cells false)).get g1.nx=some (.cells (rdyS a.ws (i:Int)).cells false):=jab _;have sk':=fun hz=>sk _ d4 hz I2;have sE:=fun hz=>wJ _ d4 hz I2;clear sk wJ hI ho I2 ok b;generalize rdyS a.ws (i:Int)=R at e1 gr sk' sE;obtain⟨op,inn,out,hup,err,r1,r2⟩:=R;generalize fr i=x at hx iG sk' sE;generalize fw i=y at hx iG sk' sE;simp only[Rdy.cells]at e1 gr sk' sE;have q1:([.bool op,.bool inn,.bool out,.bool hup,.bool err,.int .u64 r1,.int .u64 r2]:List V)[0+1]?=some (.bool inn):=rfl;have q2:([.bool op,.bool inn,.bool out,.bool hup,.bool err,.int .u64 r1,.int .u64 r2]:List V)[0+2]?=some (.bool out):=rfl;have q3:([.bool op,.bool inn,.bool out,.bool hup,.bool err,.int .u64 r1,.int .u64 r2]:List V)[0+3]?=some (.bool hup):=rfl;have q4:([.bool op,.bool inn,.bool out,.bool hup,.bool err,.int .u64 r1,.int .u64 r2]:List V)[0+4]?=some (.bool err):=rfl;have sU:¬je3 x y=0:=by
  cases x<;>cases y
  .exact fun _=>iG rfl
  all_goals decide
 have hE:nv (je3 x y) (inn||hup||err) (out||hup||err)=flI x y ⟨op,inn,out,hup,err,r1,r2⟩:=nv_eq x y _ _;rw[<- hE]at sk' sE;clear hE iG;generalize je3 x y=wv at hx sU sk' sE;refine Ga ?_;refine Ops.ixA1 rfl rfl d4 hx ?_;refine qm ?_;clear gD gc Pg e1 dD;rw[show jao ([.bool false,.bool false,.bool false,.bool false,.bool false,.int .u64 0,.int .u64 0]:List V) 0 [.bool op,.bool inn,.bool out,.bool hup,.bool err,.int .u64 r1,.int .u64 r2]=[.bool op,.bool inn,.bool out,.bool hup,.bool err,.int .u64 r1,.int .u64 r2] from rfl];generalize hG:(g1.new (.cells [.bool false,.bool false,.bool false,.bool false,.bool false,.int .u64 0,.int .u64 0] false)).set g1.nx (.cells [.bool op,.bool inn,.bool out,.bool hup,.bool err,.int .u64 r1,.int .u64 r2] false)=G at gr sk' sE ⊢;clear hG;by_cases hz:nv wv (inn||hup||err) (out||hup||err)=0
 .have q:=sk' hz;clear sk' sE;cases inn<;>cases out<;>cases hup<;>cases err
  all_goals
   simp only[nv,Bool.or_true,Bool.or_false,Bool.true_or,Bool.false_or]at hz;rw[eD]
   repeat' (first|refine qxy ?_|(refine zsp ?_ ?_<;>intro _)|fail)
   rw[a8,<- eD];exact ih (96-(i+1)) om _ _ ⟨i+1,rfl,by omega,rfl,q⟩
 .obtain⟨bb,g2,e3,k1,k2⟩:=sE hz;clear sk' sE;cases inn<;>cases out<;>cases hup<;>cases err
  case false.false.false.false=>exact zJ rfl hz
  all_goals
   simp only[nv,Bool.or_true,Bool.or_false,Bool.true_or,Bool.false_or]at hz e3;cases bb
   .have J2:=k2 rfl;clear ih k1 k2;rw[eD]
    repeat' (first|refine qxy ?_|(refine zsp ?_ ?_<;>intro _)|fail)
    refine Ops.yield rfl rfl e3 ?_
    repeat' (first|refine qxy ?_|(refine zsp ?_ ?_<;>intro _)|fail)
    exact .inr J2
   .have q:=k1 rfl;clear k1 k2;rw[eD]
    repeat' (first|refine qxy ?_|(refine zsp ?_ ?_<;>intro _)|fail)
    refine Ops.yield rfl rfl e3 ?_
    repeat' (first|refine qxy ?_|(refine zsp ?_ ?_<;>intro _)|fail)
    rw[a8,<- eD];exact ih (96-(i+1)) om _ _ ⟨i+1,rfl,by omega,rfl,q⟩
end
theorem joH{fr fw:Nat->Bool}{ws:Ws}{m:Nat}(h:flI (fr m) (fw m) (rdyS ws (m:Int))≠0):∀{n:Nat},m<n->repL fr fw ws n≠[]
 |0,h=>by omega
 |n+1,hm=>by
  intro e;simp only[repL,List.append_eq_nil_iff]at e;by_cases hn:m=n
  .subst hn;rw[zC h]at e;cases e.2
  .exact joH h om e.1
theorem jpV{call:Call}{fuel s b:Nat}{h:H}{v:V}{r1:Bool}{R:V->H->Prop}{e:Env}(e1:e.get s=some (.p b 0))(h1:h.get b=some (.cells [v] r1))(k:R v h):End call fuel [] .ret e h (Fin [.cell1 s] R):=by
 refine End.fin1 (v:=v) ?_ k;have k1:h.load1 b 0=some v:=by simp only[H.load1,h1];rfl
 simp only[jdG,e1,k1]
section
variable{cl:Nat->Call}(Z:Sem cl){h:H}{p w s rw:Nat}{ow:Nat->Nat}{ro dat:Nat->Prop}{a r:St}{d i D:Nat}{nf fd n:Int}{f:Nat->Int}{fr fw:Nat->Bool}
include Z
theorem jmM(hd:1<=d):cl d (.fn 55) [.p D 0] h=some (.clo 121 [.p h.nx 0],h.new (.cells [.p D 0] false)):=by
 refine jaj (aT Z ?_);refine qm ?_;exact⟨rfl,rfl⟩
theorem pi_holds(hd:12<=d)(b:BB h p w s rw ow ro dat a r)(so:StOk a i)(hi:i<=900000)(hD:h.get D=some (.cells (idw w fr fw nf) false))(lD:D<h.nx) :
  ∃v h',cl d (.fn 53) [.p D 0] h=some (v,h')/\v = .bool (dueI fr fw nf a)/\Old h h':=by
 have er:cl (d-1) (.fn 55) [.p D 0] (h.new (.cells [.bool false] false))=some (.clo 121 [.p (h.nx+1) 0],(h.new (.cells [.bool false] false)).new (.cells [.p D 0] false)):=jmM Z (d:=d-1) (h:=h.new (.cells [.bool false] false)) om;refine aT Z ?_;refine qm ?_;have oH:Old h ((h.new (.cells [.bool false] false)).new (.cells [.p D 0] false)):=(Zz h).new.new;have b0:((h.new (.cells [.bool false] false)).new (.cells [.p D 0] false)).get h.nx=some (.cells [.bool false] false):=qgt;have b1:((h.new (.cells [.bool false] false)).new (.cells [.p D 0] false)).get (h.nx+1)=some (.cells [.p D 0] false):=qgt;have x1:((h.new (.cells [.bool false] false)).new (.cells [.p D 0] false)).nx=h.nx+2:=rfl;generalize (h.new (.cells [.bool false] false)).new (.cells [.p D 0] false)=H1 at oH b0 b1 x1 ⊢;have qB:=oH.1;refine Run.rangeFunc_lo rfl qkp fun LO mD=>?_;rw[x1];have oL:Old h (H1.new (LO .ready none)):=oH.new;obtain⟨v',h',hc,xK⟩:=jjk Z (d:=d-1) (L:=h.nx+2) (c:=h.nx+1) (D:=D) (nf:=nf) (fr:=fr) (fw:=fw) (a:=a) (r:=r) (p:=p) (w:=w) (s:=s) (rw:=rw) (ow:=ow) (ro:=ro) (dat:=dat) (h:=H1.new (LO .ready none)) om
  (fun m e=>repL fr fw a.ws m=[]/\e.get h.nx=some (.cells [.bool false] false)/\e.get (h.nx+1)=some (.cells [.p D 0] false)/\e.get (h.nx+2)=some (LO .ready none)/\h.nx+3<=e.nx/\Old h e)
  (fun e=>repL fr fw a.ws 96≠[]/\e.get h.nx=some (.cells [.bool true] false)/\e.get (h.nx+2)=some (LO .done (some .ret))/\h.nx+3<=e.nx/\Old h e)
  (fun m e ⟨_,_,p1,_,_,p9⟩=>⟨b.old p9,by rw[p9.2 D lD,hD],p1⟩) so.K.ok Zc Zc
  (by
   rintro m e e' ⟨eG,p0,p1,p2,p8,p9⟩ og;exact⟨eG,by rw[og.2 _ om,p0],by rw[og.2 _ om,p1],by rw[og.2 _ om,p2],zA p8 og.1,p9.trans og⟩)
  (by
   rintro m e hm hz ⟨eG,p⟩;refine⟨?_,p⟩;simp only[repL,eG,zD hz,List.append_nil])
  (by
   rintro m e hm hz ⟨eG,p0,p1,p2,p8,p9⟩;have d5:=joH hz hm;clear hz eG;generalize flI (fr m) (fw m) (rdyS a.ws (m:Int))=fl;generalize (repL fr fw a.ws 96≠[])=PQ at d5 ⊢;have r0:(e.set (h.nx+2) (LO .busy none)).get h.nx=some (.cells [.bool false] false):=by rw[jaa om,p0]
   suffices q:∃v' g',cl (d-1-1) (.yld (h.nx+2)) [.agg [.i (m:Int),.i fl]] e=some (v',g')/\(v' = .bool false/\(PQ/\g'.get h.nx=some (.cells [.bool true] false)/\g'.get (h.nx+2)=some (LO .done (some .ret))/\h.nx+3<=g'.nx/\Old h g')) by
    obtain⟨_,g',e,rfl,q⟩:=q;exact⟨false,g',e,fun hb=>(by cases hb),fun _=>q⟩
   refine yl_ Z om mD p2 rfl ?_;clear b so;refine Ga ?_;refine Zn ⟨rfl,p2,?_⟩;refine Ga ?_;refine zcs (l:=[.bool false]) rfl rfl rfl r0 zM ?_;refine Ga ?_;refine Zn ⟨⟨.busy,none,by rw[jaa om,jab]⟩,rfl,d5,?_,jab _,by simp;omega,((p9.set om).set om).set om⟩;rw[jaa om];exact jab _)
  ⟨rfl,by rw[jad om,b0],by rw[jad om,b1],by rw[<- x1,jac],by simp[x1],oL⟩
 rcases xK with⟨eG,p0,p1,p2,p8,p9⟩|⟨eG,p0,p2,p8,p9⟩
 .have o9:Old h (h'.kill (h.nx+2)):=⟨p9.1,fun j hj=>by rw[jai om,p9.2 j hj]⟩
  have k0:(h'.kill (h.nx+2)).get h.nx=some (.cells [.bool false] false):=by rw[jai om,p0]
  have lk:h.nx<(h'.kill (h.nx+2)).nx:=by show h.nx<h'.nx;omega
  obtain⟨g3,e3,o3⟩:=jjl Z (d:=d-1) om (b.old o9) so hi (by rw[o9.2 D lD,hD]);have k3:g3.get h.nx=some (.cells [.bool false] false):=by rw[o3.2 _ lk,k0]
  have o4:Old h (g3.set h.nx (.cells [.bool (decide (0<=nf)&&decide (0<a.tb.sum 32))] false)):=(o9.trans o3).set (zq _);have hr:dueI fr fw nf a=(decide (0<=nf)&&decide (0<a.tb.sum 32)):=by unfold dueI;rw[eG];rfl
  rw[hr];generalize (decide (0<=nf)&&decide (0<a.tb.sum 32))=B at e3 o4;refine⟨v',h',hc,.normal,p2,?_⟩;clear mD b so hr eG hc;refine Ga ?_;refine zcs (l:=[.bool false]) rfl rfl rfl k3 zM ?_;refine Ga ?_;exact jpV rfl (jab _) ⟨rfl,o4⟩
 .have k0:(h'.kill (h.nx+2)).get h.nx=some (.cells [.bool true] false):=by rw[jai om,p0]
  have o9:Old h (h'.kill (h.nx+2)):=⟨p9.1,fun j hj=>by rw[jai om,p9.2 j hj]⟩
  have hr:dueI fr fw nf a=true:=by
   unfold dueI;cases hq:repL fr fw a.ws 96 with
   |nil=>exact zJ hq eG
   |cons=>rfl
  rw[hr];refine⟨v',h',hc,.ret,p2,?_⟩;clear mD b so hr eG hc;refine Ga ?_;exact jpV rfl k0 ⟨rfl,o9⟩
end
section
variable{cl:Nat->Call}(Z:Sem cl){h:H}{p w s rw:Nat}{ow:Nat->Nat}{ro dat:Nat->Prop}{a r:St}{d i D:Nat}{nf fd n:Int}{f:Nat->Int}{fr fw:Nat->Bool}
include Z
theorem pi_Append{H0:H}{c:Nat}(hd:9<=d)(b:BB H0 p w s rw ow ro dat a r)(ok:WsOk a.ws)(hD:H0.get D=some (.cells (idw w fr fw nf) false))(lD:D<H0.nx)(lc:c<H0.nx)(hc:H0.get c=some (.cells [.p D 0] false)) :
  ∃v h',cl d (.fn 120) [.nils,.clo 121 [.p c 0]] H0=some (v,h')/\Row H0.nx h' 2 v (repL fr fw a.ws 96).length (jat (repL fr fw a.ws 96))/\Old H0 h':=by
 refine aT Z ?_;refine qm ?_;have oH:Old H0 (H0.new (.cells [.nils] false)):=(Zz H0).new;refine Run.rangeFunc_lo rfl qkp fun LO mD=>?_;obtain⟨v',h',tF,xK⟩:=jjk Z (d:=d-1) (L:=H0.nx+1) (c:=c) (D:=D) (nf:=nf) (fr:=fr) (fw:=fw) (a:=a) (r:=r) (p:=p) (w:=w) (s:=s) (rw:=rw) (ow:=ow) (ro:=ro) (dat:=dat) (h:=(H0.new (.cells [.nils] false)).new (LO .ready none)) om
  (fun k g=>(∃sv,g.get H0.nx=some (.cells [sv] false)/\Row (H0.nx+2) g 2 sv (repL fr fw a.ws k).length (jat (repL fr fw a.ws k)))/\g.get (H0.nx+1)=some (LO .ready none)/\H0.nx+2<=g.nx/\Old H0 g)
  (fun _=>False)
  (fun k g ⟨_,_,_,p4⟩=>⟨b.old p4,by rw[p4.2 D lD,hD],by rw[p4.2 c lc,hc]⟩) ok Zc Zc
  (by
   rintro k g g' ⟨⟨sv,p0,pr⟩,p2,p3,p4⟩ og;exact⟨⟨sv,by rw[og.2 _ om,p0],pr.keep og.1 fun z hz=>og.2 z (pr.at_ge hz).2⟩,by rw[og.2 _ om,p2],zA p3 og.1,p4.trans og⟩)
  (by
   rintro k g hk hz ⟨⟨sv,p0,pr⟩,p2,p3,p4⟩;have e:repL fr fw a.ws (k+1)=repL fr fw a.ws k:=by simp only[repL,zD hz,List.append_nil]
   rw[e];exact⟨⟨sv,p0,pr⟩,p2,p3,p4⟩)
  (by
   rintro k g hk hz ⟨⟨sv,p0,pr⟩,p2,p3,p4⟩;have e:repL fr fw a.ws (k+1)=repL fr fw a.ws k++[((k:Int),flI (fr k) (fw k) (rdyS a.ws (k:Int)))]:=by simp only[repL,zC hz]
   have mE:=jhB fr fw a.ws k;rw[e];clear hz e;generalize repL fr fw a.ws k=pl at pr mE ⊢;generalize flI (fr k) (fw k) (rdyS a.ws (k:Int))=fl;refine⟨true,?_⟩
   suffices q:∃v' g',cl (d-1-1) (.yld (H0.nx+1)) [.agg [.i (k:Int),.i fl]] g=some (v',g')/\(v' = .bool true/\((∃sv,g'.get H0.nx=some (.cells [sv] false)/\Row (H0.nx+2) g' 2 sv (pl++[((k:Int),fl)]).length (jat (pl++[((k:Int),fl)])))/\g'.get (H0.nx+1)=some (LO .ready none)/\H0.nx+2<=g'.nx/\Old H0 g')) by
    obtain⟨_,g',e,rfl,q⟩:=q;exact⟨g',e,fun _=>q,fun e=>by cases e⟩
   obtain⟨cp,⟨asv,rfl⟩,_⟩:=pr.shape;refine yl_ Z om mD p2 rfl ?_;clear b ok hD hc;refine qm ?_;rw[show jao ([.i 0,.i 0]:List V) 0 [.i (k:Int),.i fl]=[.i (k:Int),.i fl] from rfl];have pA:((g.new (.cells [.i 0,.i 0] false)).set g.nx (.cells [.i (k:Int),.i fl] false)).get (H0.nx+1)=some (LO .ready none):=by rw[jaa om,jad om,p2]
   refine Zn ⟨rfl,pA,?_⟩;have oA:Old H0 ((g.new (.cells [.i 0,.i 0] false)).set g.nx (.cells [.i (k:Int),.i fl] false)):=p4.new.set p4.1;have sA:((g.new (.cells [.i 0,.i 0] false)).set g.nx (.cells [.i (k:Int),.i fl] false)).get H0.nx=some (.cells [.slice asv pl.length cp] false):=by rw[jaa om,jad om,p0]
   have tA:((g.new (.cells [.i 0,.i 0] false)).set g.nx (.cells [.i (k:Int),.i fl] false)).get g.nx=some (.cells [.i (k:Int),.i fl] false):=jab _;have nA:((g.new (.cells [.i 0,.i 0] false)).set g.nx (.cells [.i (k:Int),.i fl] false)).nx=g.nx+1:=rfl;have rA:Row (H0.nx+2) ((g.new (.cells [.i 0,.i 0] false)).set g.nx (.cells [.i (k:Int),.i fl] false)) 2 (.slice asv pl.length cp) pl.length (jat pl):=pr.keep Zd fun z hz=>by have:=pr.at_ge hz;rw[jaa om,jad om]
   generalize (g.new (.cells [.i 0,.i 0] false)).set g.nx (.cells [.i (k:Int),.i fl] false)=G at pA oA sA tA nA rA ⊢;have x_:Row (H0.nx+2) (G.set (H0.nx+1) (LO .busy none)) 2 (.slice asv pl.length cp) pl.length (jat pl):=rA.keep Zd fun z hz=>by have:=rA.at_ge hz;exact jaa om
   have s2:(G.set (H0.nx+1) (LO .busy none)).get H0.nx=some (.cells [.slice asv pl.length cp] false):=by rw[jaa om,sA]
   have t2:(G.set (H0.nx+1) (LO .busy none)).get g.nx=some (.cells [.i (k:Int),.i fl] false):=by rw[jaa om,tA]
   refine Ga ?_;refine zcw (l:=[.i (k:Int),.i fl]) rfl t2 (zq 2) ?_;rw[show List.take 2 (List.drop 0 ([.i (k:Int),.i fl]:List V))=[.i (k:Int),.i fl] from rfl];refine Ga ?_;refine Ops.push (N:=H0.nx+2) (new:=[.i (k:Int),.i fl]) rfl rfl rfl rfl om rfl rfl x_ Zc om om fun v2 g2 row' cB iA w6=>?_;have cB:G.nx<=g2.nx:=by simpa using cB
   have nB:∀j,j<H0.nx+2->g2.get j=(G.set (H0.nx+1) (LO .busy none)).get j:=fun j hj=>w6 j Zc fun e=>by have:=x_.at_ge e;omega
   have q0:g2.get H0.nx=some (.cells [.slice asv pl.length cp] false):=by rw[nB _ om,s2]
   have m9:=row'.one;refine zcs rfl rfl m9 q0 zM ?_;refine Ga ?_;refine Zn ⟨⟨.busy,none,by rw[jaa om,nB _ om,jab]⟩,rfl,⟨v2,?_,?_⟩,jab _,by simp;omega,?_⟩
   .rw[jaa om];exact jab _
   .have r2:Row (H0.nx+2) g2 2 v2 (pl++[((k:Int),fl)]).length (jat (pl++[((k:Int),fl)])):=by simpa[jat] using row'
    exact r2.keep Zd fun z hz=>by have:=iA z hz;simp at this;rw[jaa om,jaa om]
   .have p7:=oA.1;exact⟨by simp;omega,fun j hj=>by rw[jaa om,jaa om,nB _ om,jaa om,oA.2 j hj]⟩)
  ⟨⟨.nils,qgt,by simpa[repL,jat] using Row.nil _ _ _⟩,qgt,by simp,oH.new⟩
 generalize repL fr fw a.ws 96=PL at xK ⊢;refine xK.elim ?_ fun hF=>hF.elim;rintro⟨⟨sv,p0,pr⟩,p2,p3,p4⟩;refine⟨v',h',tF,.normal,p2,?_⟩;have k0:(h'.kill (H0.nx+1)).get H0.nx=some (.cells [sv] false):=by rw[jai om,p0]
 have o9:Old H0 (h'.kill (H0.nx+1)):=⟨p4.1,fun j hj=>by rw[jai om,p4.2 j hj]⟩
 have r9:Row H0.nx (h'.kill (H0.nx+1)) 2 sv (PL).length (jat (PL)):=by
  rcases pr with r|⟨q,q1,q2,e,q4,q5⟩
  .exact .inl r
  .exact .inr ⟨q,by omega,q2,e,by rw[jai om,q4],q5⟩
 obtain⟨cp,⟨asv,rfl⟩,_⟩:=pr.shape;clear mD b tF;refine Ga ?_;exact⟨r9,o9⟩
theorem jnI{c:Nat}(hd:10<=d)(b:BB h p w s rw ow ro dat a r)(ok:WsOk a.ws)(hD:h.get D=some (.cells (idw w fr fw nf) false))(lD:D<h.nx)(lc:c<h.nx)(hc:h.get c=some (.cells [.p D 0] false)) :
  ∃v h',cl d (.fn 54) [.clo 121 [.p c 0]] h=some (v,h')/\Row h.nx h' 2 v (repL fr fw a.ws 96).length (jat (repL fr fw a.ws 96))/\Old h h':=by
 obtain⟨v,h',e1,r1,o1⟩:=pi_Append Z (d:=d-1) om b ok hD lD lc hc;generalize repL fr fw a.ws 96=PL at r1 ⊢;obtain⟨cp,⟨asv,rfl⟩,_⟩:=r1.shape;refine aT Z ?_;clear b ok hD hc;refine Ga ?_;exact⟨r1,o1⟩
end
theorem jn0{N M sz n:Nat}{h:H}{v:V}{cs:List V}(r:Row N h sz v n cs)(hM:M<=N):Row M h sz v n cs:=by
 rcases r with r|⟨q,q1,q2⟩
 .exact .inl r
 .exact .inr ⟨q,zA hM q1,q2⟩
noncomputable def jiU(fr fw:Nat->Bool)(nf:Int)(R:Int×List Sp×List Int×St):List (Int×Int)×List (Int×Int)×St:=
 if R.1=3\/R.1=4 then ([],[],R.2.2.2)
 else (repL fr fw R.2.2.2.ws 96,if 0<=nf/\0<R.2.2.2.tb.sum 32 then (jbm R.2.2.2.tb.pd 31,sigS R.2.2.2) else ([],R.2.2.2))
def jpx(h:H)(p w s rw:Nat)(ow:Nat->Nat)(ro dat:Nat->Prop)(r:St)(sb:Nat)(bs:Option Nat)(X:Nat->Prop)(N:Nat)(R:Int×List Sp×List Int×St)(Q:List (Int×Int)×List (Int×Int)×St)(v:V)(h':H):Prop:=
 ∃l c ow' L' i',v = .tup [l,c,.i R.1,.i 0]/\Row h.nx h' 2 l Q.1.length (jat Q.1)/\Row h.nx h' 2 c Q.2.1.length (jat Q.2.1)/\(∀z,h.nx<=z->(l.at?=some z\/c.at?=some z)->ow' z=0)/\L'.map SpX.sp=R.2.1/\BB h' p w s rw ow' ro dat Q.2.2 r/\StOk Q.2.2 (i'+1)/\SW h' ow' ro dat p sb bs X L' R.2.2.1/\Fs h h' ow ro ow' ro (fun j=>j=sb\/bs=some j)/\i'+sumM L'<=N
section
variable{cl:Nat->Call}(Z:Sem cl){h:H}{p w s rw:Nat}{ow:Nat->Nat}{ro dat:Nat->Prop}{a r:St}{d i D sb:Nat}{nf wt:Int}{fr fw:Nat->Bool}{fv:Bool}{bs:Option Nat}{X:Nat->Prop}{L:List SpX}{o:List Int}
include Z
theorem jnd{N M:Nat}{u v:V}{f:Nat}{L:List (Int×Int)}(hf:f=19\/f=20)(hd:1<=d)(a:Row N h 2 u L.length (jat L))(b:Row M h 2 v L.length (jat L))(hl:L.length<=1000):cl d (.fn f) [u,v] h=some (.bool true,h):=by
 obtain⟨c1,⟨a1,rfl⟩,fM⟩:=a.shape;obtain⟨c2,⟨a2,rfl⟩,gM⟩:=b.shape;have eE:=jgJ L;have n1:¬(L.length:Int)≠(L.length:Int):=fun e=>e rfl;clear a b;rcases hf with rfl|rfl
 all_goals
  refine jaj (aT Z ?_)
  repeat' (first|refine qxy ?_|(refine zsp ?_ ?_<;>intro _)|fail)
  refine Zq (fun m e g=>∃i:Nat,m=L.length-i/\i<=L.length/\e=[(0,.slice a1 L.length c1),(1,.slice a2 L.length c2),(5,.i (i:Int))]/\g=h)
   (k:=L.length) Ze ⟨0,rfl,by omega,rfl,rfl⟩ ?_
  rintro _ _ g ⟨i,rfl,hi,rfl,rfl⟩ f ih;by_cases d4:(i:Int)<(L.length:Int)
  case neg=>
   clear ih fM gM
   repeat' (first|refine qxy ?_|(refine zsp ?_ ?_<;>intro _)|fail)
   exact⟨rfl,rfl⟩
  obtain⟨q1,y1,y2,y3,y4⟩:=fM i om;cases y3;obtain⟨q2,z1,z2,z3,z4⟩:=gM i om;cases z3;have gH:=za (show i<L.length by omega);generalize L[i]=pr at gH;have hg:=jgK gH;have mF:(i:Int)+1=((i+1:Nat):Int):=by omega
  have bK:((jat L).drop (0+(i:Int).toNat*2)).take 2=[.i pr.1,.i pr.2]:=by rw[<- hg,zw,zP]
  clear fM gM
  repeat' (first|refine qxy ?_|(refine zsp ?_ ?_<;>intro _)|fail)
  refine zcw rfl y4 om ?_;rw[bK]
  repeat' (first|refine qxy ?_|(refine zsp ?_ ?_<;>intro _)|fail)
  refine zcw rfl z4 om ?_;rw[bK];refine Ops.neqAgg2 rfl rfl ?_
  repeat' (first|refine qxy ?_|(refine zsp ?_ ?_<;>intro _)|fail)
  rw[mF];exact ih (L.length-(i+1)) om _ _ ⟨i+1,rfl,by omega,rfl,rfl⟩
theorem jlW{N:Nat}(hd:18<=d)(b:BB h p w s rw ow ro dat a r)(so:StOk a i)(A:SW h ow ro dat p sb bs X L o)(hD:h.get D=some (.cells (idw w fr fw nf) false))(oD:Own h ow ro dat p D)(nD:¬(D=sb\/bs=some D))(hi:i+sumM L<=N)(hN:N<=800000)(hL:L.length<=2000)(w0:0<=wt)(w1:wt<=18446744073709551615) :
  ∃v h',cl d (.fn 17) [.p D 0,.p sb 0,.int .u64 wt,.bool fv] h=some (v,h')/\jpx h p w s rw ow ro dat r sb bs X N (jbw (dueI fr fw nf) fv (L.map SpX.sp) wt o a) (jiU fr fw nf (jbw (dueI fr fw nf) fv (L.map SpX.sp) wt o a)) v h':=by
 have e0:=jig Z (d:=d-1) om hD;have dD:(idw w fr fw nf)[0+0]?=some (.p w 0):=rfl;obtain⟨_,g1,e1,y7,L1,i1,rfl,s1,b1,iB,W1,f1,dL⟩:=wn_Sleep Z (d:=d-1) (N:=N) (rd:=dueI fr fw nf) (cf:=53) (cap:= .p D 0) (fv:=fv) (wt:=wt) om b so A hi om hL (fun g y7 a1 i1 f b1 iB a8=>by
  obtain⟨_,g',e,rfl,o⟩:=pi_holds Z (d:=d-1-1) (fr:=fr) (fw:=fw) (nf:=nf) (D:=D) om b1 iB om (by rw[f.get oD nD,hD]) (zr oD.lt f.ch.nx);exact⟨g',e,o⟩) w0 w1
 generalize jbw (dueI fr fw nf) fv (L.map SpX.sp) wt o a=R at e1 s1 b1 iB W1 ⊢;obtain⟨k,L2,o2,st⟩:=R;dsimp only at e1 s1 b1 iB W1 ⊢;subst s1;by_cases hk:k=3\/k=4
 .have hQ:jiU fr fw nf (k,L1.map SpX.sp,o2,st)=([],[],st):=zD hk;rw[hQ];have S:jpx h p w s rw ow ro dat r sb bs X N (k,L1.map SpX.sp,o2,st) ([],[],st) (.tup [.nils,.nils,.i k,.i 0]) g1:=⟨.nils,.nils,y7,L1,i1,rfl,Row.nil _ _ _,Row.nil _ _ _,fun z _ e=>(by rcases e with e|e<;>cases e),rfl,b1,iB.more,W1,f1,dL⟩
  clear b so A b1 iB W1 f1 hQ oD nD;refine aT Z ?_;rcases hk with rfl|rfl
  .refine Ga ?_;exact S
  .refine Ga ?_;exact S
 have kS:¬k=3:=fun e=>hk (.inl e);have Df:¬k=4:=fun e=>hk (.inr e);have hQ:jiU fr fw nf (k,L1.map SpX.sp,o2,st)=(repL fr fw st.ws 96,if 0<=nf/\0<st.tb.sum 32 then (jbm st.tb.pd 31,sigS st) else ([],st)):=zC hk;rw[hQ];have lD1:=zr oD.lt f1.ch.nx;have vQ:g1.get D=some (.cells (idw w fr fw nf) false):=by rw[f1.get oD nD,hD]
 have pM:Old g1 (g1.new (.cells [.p D 0] false)):=(Zz g1).new;have e2:=jmM Z (d:=d-1) (h:=g1) (D:=D) om;obtain⟨lv,g3,e3,r3,o3⟩:=jnI Z (d:=d-1) (c:=g1.nx) (D:=D) (fr:=fr) (fw:=fw) (nf:=nf) om (b1.old pM) iB.K.ok (by rw[pM.2 D lD1,vQ]) (zr lD1 pM.1) (Nat.lt_succ_self _) (jac _);have nH:=pM.trans o3;have b3:=b1.old nH;have xN:g3.get D=some (.cells (idw w fr fw nf) false):=by rw[nH.2 D lD1,vQ]
 obtain⟨g4,e4,o4⟩:=jjl Z (d:=d-1) om b3 iB om xN;have qM:=nH.trans o4;have b4:=b1.old qM;have qB:=f1.ch.nx;have wC:g1.nx<=(g1.new (.cells [.p D 0] false)).nx:=pM.1;have r4:Row h.nx g4 2 lv (repL fr fw st.ws 96).length (jat (repL fr fw st.ws 96)):=jn0 (r3.keep o4.1 fun z hz=>o4.2 z (r3.at_ge hz).2) om;have z4:∀z,lv.at?=some z->g1.nx<=z/\z<g4.nx:=fun z hz=>⟨by have:=(r3.at_ge hz).1;omega,by have:=(r3.at_ge hz).2;have:=o4.1;omega⟩
 have W4:=W1.fs (Fs.old (S:=fun _=>False) qM) (fun e=>e) (fun _ _ e=>e) fun _ _ e=>e;have f4:Fs h g4 ow ro y7 ro (fun j=>j=sb\/bs=some j):=f1.trans (Fs.old (S:=fun _=>False) qM) fun _ _ e=>e.elim;obtain⟨cp,⟨asv,rfl⟩,_⟩:=id r4.shape;by_cases hn:0<=nf/\0<st.tb.sum 32
 .rw[zD hn];rw[zG hn.1,zG hn.2,Bool.and_self]at e4;obtain⟨cv,g5,e5,r5,b5,f5⟩:=joa Z (d:=d-1) om b4 iB om;have Qg:g4.get D=some (.cells (idw w fr fw nf) false):=by rw[o4.2 D (zr lD1 nH.1),xN]
  have sM:=Fs.of_fm (S:=fun _=>False) f5;have wQ:Row h.nx g5 2 (.slice asv (repL fr fw st.ws 96).length cp) (repL fr fw st.ws 96).length (jat (repL fr fw st.ws 96)):=r4.keep f5.ch.nx fun z hz=>f5.ch.get z (r4.at_ge hz).2 fun e=>by
   have q:=z4 z hz;rcases e with e|e
   .exact e (b1.W.top q.1)
   .have:=b1.ro_lt (.inl e);omega
  have S:jpx h p w s rw ow ro dat r sb bs X N (k,L1.map SpX.sp,o2,st) (repL fr fw st.ws 96,jbm st.tb.pd 31,sigS st) (.tup [.slice asv (repL fr fw st.ws 96).length cp,cv,.i k,.i 0]) g5:=⟨_,cv,y7,L1,i1,rfl,wQ,(jn0 r5 (by have:=qM.1;omega)),fun z _ e=>b1.W.top (e.elim (fun e=>(z4 z e).1) fun e=>(by have:=(r5.at_ge e).1;have:=qM.1;omega)),rfl,b5,jox iB,W4.fs sM (fun e=>e) (fun _ _ e=>e) fun _ _ e=>e,f4.trans sM fun _ _ e=>e.elim,dL⟩
  obtain⟨Rg,⟨Sg,rfl⟩,_⟩:=id r5.shape;clear b so A b1 iB W1 f1 hQ oD nD r3 r4 wQ r5 b3 b4 b5 f5 sM W4 f4 nH qM pM z4 hk;generalize repL fr fw st.ws 96=PL at e3 S ⊢;generalize jbm st.tb.pd 31=SL at e5 S ⊢;refine aT Z ?_;refine Ga ?_;exact S
 .rw[zC hn];have jQ:(decide (0<=nf)&&decide (0<st.tb.sum 32))=false:=by
   by_cases h1:0<=nf
   .rw[zG h1,Bool.true_and];exact zE fun h2=>hn ⟨h1,h2⟩
   .rw[zE h1,Bool.false_and]
  rw[jQ]at e4;have S:jpx h p w s rw ow ro dat r sb bs X N (k,L1.map SpX.sp,o2,st) (repL fr fw st.ws 96,[],st) (.tup [.slice asv (repL fr fw st.ws 96).length cp,.nils,.i k,.i 0]) g4:=⟨_,.nils,y7,L1,i1,rfl,r4,Row.nil _ _ _,fun z _ e=>b1.W.top (e.elim (fun e=>(z4 z e).1) fun e=>(by cases e)),rfl,b4,iB.more,W4,f4,dL⟩
  clear b so A b1 iB W1 f1 hQ oD nD r3 r4 b3 b4 W4 f4 nH qM pM z4 hk jQ;generalize repL fr fw st.ws 96=PL at e3 S ⊢;refine aT Z ?_;refine Ga ?_;exact S
end
theorem jmQ{rd:St->Bool}{fv:Bool}:∀{l:List Sp} {wt:Int} {o:List Int} {st:St},1<=(napS rd fv l wt o st).1/\(napS rd fv l wt o st).1<=4
 |[],wt,o,st=>by
  simp only[napS]
  repeat' split
  all_goals (constructor<;>(dsimp only;omega))
 |x::l,wt,o,st=>by
  simp only[napS]
  repeat' split
  all_goals first
   |exact jmQ
   |(constructor<;>(dsimp only;omega))
theorem jnu{rd:St->Bool}{fv:Bool}{l:List Sp}{wt:Int}{o:List Int}{st:St}:1<=(jbw rd fv l wt o st).1/\(jbw rd fv l wt o st).1<=4:=by
 unfold jbw;split
 ·(constructor<;>(dsimp only;omega))
 .exact jmQ
def jpy(h:H)(p w s rw:Nat)(ow:Nat->Nat)(ro dat:Nat->Prop)(a:St)(sb:Nat)(X:Nat->Prop)(N:Nat)(R:Int×List Sp×List Int×St)(Q:List (Int×Int)×List (Int×Int)×St)(v:V)(h':H):Prop:=
 ∃l c ro' L' i',v = .tup [l,c,.i R.1]/\Row h.nx h' 2 l Q.1.length (jat Q.1)/\Row h.nx h' 2 c Q.2.1.length (jat Q.2.1)/\L'.map SpX.sp=R.2.1/\BB h' p w s rw ow ro' dat a Q.2.2/\StOk Q.2.2 (i'+1)/\SD h' ow ro' dat p sb X L' R.2.2.1/\Fs h h' ow ro ow ro' (· = sb)/\i'+sumM L'<=N
section
variable{cl:Nat->Call}(Z:Sem cl){h:H}{p w s rw:Nat}{ow:Nat->Nat}{ro dat:Nat->Prop}{a r:St}{d i D sb:Nat}{nf wt:Int}{fr fw:Nat->Bool}{fv:Bool}{X:Nat->Prop}{L:List SpX}{o:List Int}
include Z
theorem jml{N:Nat}(hd:11<=d)(b:BB h p w s rw ow ro dat a r)(so:StOk r i)(A:SD h ow ro dat p sb X L o)(hD:h.get D=some (.cells (idw rw fr fw nf) false))(oD:Own h ow ro dat p D)(nD:D≠sb)(hi:i+sumM L<=N)(hN:N<=800000)(hL:L.length<=2000)(hX:∀z,h.nx<=z->X z)(w0:0<=wt)(w1:wt<=18446744073709551615) :
  ∃v h',cl d (.fn 18) [.p D 0,.p sb 0,.int .u64 wt,.bool fv] h=some (v,h')/\jpy h p w s rw ow ro dat a sb X N (jbw (dueI fr fw nf) fv (L.map SpX.sp) wt o r) (jiU fr fw nf (jbw (dueI fr fw nf) fv (L.map SpX.sp) wt o r)) v h':=by
 have dD:(idw rw fr fw nf)[0+0]?=some (.p rw 0):=rfl;have Mg:(idw rw fr fw nf)[0+97]?=some (.i nf):=jqf;obtain⟨_,g1,e1,xA,L1,i1,rfl,s1,b1,iB,W1,f1,dL⟩:=di_sleep Z (d:=d-1) (N:=N) (rd:=dueI fr fw nf) (fv:=fv) (wt:=wt) om b so A hD dD oD nD hi om hL hX (fun g xA a1 i1 f b1 iB a8=>by
  obtain⟨_,g',e,rfl,o⟩:=di_due Z (d:=d-1-1) (fr:=fr) (fw:=fw) (nf:=nf) (D:=D) om b1 iB om (by rw[f.get oD nD,hD]) (zr oD.lt f.ch.nx);exact⟨g',e,o⟩) w0 w1
 have hw:=jnu (rd:=dueI fr fw nf) (fv:=fv) (l:=L.map SpX.sp) (wt:=wt) (o:=o) (st:=r);generalize jbw (dueI fr fw nf) fv (L.map SpX.sp) wt o r=R at e1 s1 b1 iB W1 hw ⊢;obtain⟨k,L2,o2,st⟩:=R;dsimp only at e1 s1 b1 iB W1 hw ⊢;subst s1;by_cases hk:k=3\/k=4
 .have hQ:jiU fr fw nf (k,L1.map SpX.sp,o2,st)=([],[],st):=zD hk;rw[hQ];have S:jpy h p w s rw ow ro dat a sb X N (k,L1.map SpX.sp,o2,st) ([],[],st) (.tup [.nils,.nils,.i k]) g1:=⟨.nils,.nils,xA,L1,i1,rfl,Row.nil _ _ _,Row.nil _ _ _,rfl,b1,iB.more,W1,f1,dL⟩
  have nB:2<k:=by omega
  clear b so A b1 iB W1 f1 hQ oD nD;refine aT Z ?_;refine Ga ?_;exact S
 have nB:¬2<k:=by omega
 have hQ:jiU fr fw nf (k,L1.map SpX.sp,o2,st)=(repL fr fw st.ws 96,if 0<=nf/\0<st.tb.sum 32 then (jbm st.tb.pd 31,sigS st) else ([],st)):=zC hk;rw[hQ];have lD1:=zr oD.lt f1.ch.nx;have vQ:g1.get D=some (.cells (idw rw fr fw nf) false):=by rw[f1.get oD nD,hD]
 obtain⟨lv,g3,e3,r3,o3⟩:=jnb Z (d:=d-1) om b1 iB.K.ok vQ lD1;have b3:=b1.old o3;have xN:g3.get D=some (.cells (idw rw fr fw nf) false):=by rw[o3.2 D lD1,vQ]
 have e4:=jjv Z (d:=d-1) om b3 iB om;have qB:=f1.ch.nx;have r4:Row h.nx g3 2 lv (repL fr fw st.ws 96).length (jat (repL fr fw st.ws 96)):=(jn0 r3 qB)
 have W4:=W1.fs b1 (Fs.old (S:=fun _=>False) o3) (fun e=>e) (fun _ _ e=>e) fun _ _ e=>e;have f4:Fs h g3 ow ro ow xA (· = sb):=f1.trans (Fs.old (S:=fun _=>False) o3) fun _ _ e=>e.elim;obtain⟨cp,⟨asv,rfl⟩,_⟩:=id r4.shape;by_cases hn:0<=nf/\0<st.tb.sum 32
 .rw[zD hn];obtain⟨cv,g5,Tg,e5,r5,b5,f5⟩:=joc Z (d:=d-1) om b3 iB om;have sM:=Fs.of_fm (S:=fun _=>False) f5;have wQ:Row h.nx g5 2 (.slice asv (repL fr fw st.ws 96).length cp) (repL fr fw st.ws 96).length (jat (repL fr fw st.ws 96)):=r4.keep f5.ch.nx fun z hz=>f5.ch.get z (r4.at_ge hz).2 fun e=>by
   have q:=(r3.at_ge hz).1;rcases e with e|e
   .exact e (b1.W.top q)
   .have:=b1.ro_lt (.inl e);omega
  have S:jpy h p w s rw ow ro dat a sb X N (k,L1.map SpX.sp,o2,st) (repL fr fw st.ws 96,jbm st.tb.pd 31,sigS st) (.tup [.slice asv (repL fr fw st.ws 96).length cp,cv,.i k]) g5:=⟨_,cv,Tg,L1,i1,rfl,wQ,(jn0 r5 (by have:=o3.1;omega)),rfl,b5,jox iB,W4.fs b3 sM (fun e=>e) (fun _ _ e=>e) fun _ _ e=>e,f4.trans sM fun _ _ e=>e.elim,dL⟩
  obtain⟨Rg,⟨Sg,rfl⟩,_⟩:=id r5.shape;obtain⟨jC,cI⟩:=hn;clear b so A b1 iB W1 f1 hQ oD nD r3 r4 wQ r5 b3 b5 f5 sM W4 f4 o3 hk hX;generalize repL fr fw st.ws 96=PL at e3 S ⊢;generalize jbm st.tb.pd 31=SL at e5 S ⊢;generalize st.tb.sum 32=sm at e4 cI;refine aT Z ?_;refine Ga ?_;exact S
 .rw[zC hn];have S:jpy h p w s rw ow ro dat a sb X N (k,L1.map SpX.sp,o2,st) (repL fr fw st.ws 96,[],st) (.tup [.slice asv (repL fr fw st.ws 96).length cp,.nils,.i k]) g3:=⟨_,.nils,xA,L1,i1,rfl,r4,Row.nil _ _ _,rfl,b3,iB.more,W4,f4,dL⟩
  clear b so A b1 iB W1 f1 hQ oD nD r3 r4 b3 W4 f4 o3 hk hX;generalize repL fr fw st.ws 96=PL at e3 S ⊢;generalize st.tb.sum 32=sm at e4 hn;refine aT Z ?_;by_cases jC:0<=nf
  .have cI:¬0<sm:=fun e=>hn ⟨jC,e⟩;refine Ga ?_;exact S
  .refine Ga ?_;exact S
end
end Am.Sigs
