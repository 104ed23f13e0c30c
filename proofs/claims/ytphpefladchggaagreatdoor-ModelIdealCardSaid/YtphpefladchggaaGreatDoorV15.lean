/- Our own library, part 15. -/
import Derived.Test.YtphpefladchggaaGreatDoorV14
set_option maxHeartbeats 8000000
set_option maxRecDepth 800
set_option linter.all false
namespace Am.Sigs
open Am Go
abbrev ints(l:List Int):List V:=l.map V.i
def jaT:List (Nat×Int)->List V
 |[]=>[]
 |p::r=>.i p.1::.i p.2::jaT r
theorem jeO:∀l,(jaT l).length=l.length*2
 |[]=>rfl
 |p::r=>by simp[jaT,jeO r];omega
theorem jeP:∀l m,jaT (l++m)=jaT l++jaT m
 |[],m=>rfl
 |p::r,m=>by simp[jaT,jeP r m]
theorem jhn:∀(l:List (Nat×Int)) (i:Nat) (p:Nat×Int),l[i]?=some p->((jaT l).drop (i*2)).take 2=[.i p.1,.i p.2]
 |[],_,_,h=>by simp at h
 |q::r,0,p,h=>by simp at h;subst h;rfl
 |q::r,i+1,p,h=>by
  simp only[List.getElem?_cons_succ]at h;rw[show (i+1)*2=i*2+1+1 by omega];simp only[jaT,List.drop_succ_cons];exact jhn r i p h
theorem Tb.cnts_len(t:Tb):∀k,(t.cnts k).length<=k
 |0=>by simp[Tb.cnts]
 |k+1=>by
  have:=t.cnts_len k;unfold Tb.cnts;split<;>simp<;>omega
theorem Tb.cnts_mem{t:Tb}:∀{k:Nat} {p:Nat×Int},p∈t.cnts k->1<=p.1/\p.1<k/\p.2=t.pd p.1/\p.2≠0
 |0,p,h=>by simp[Tb.cnts]at h
 |k+1,p,h=>by
  unfold Tb.cnts at h;split at h
  .have:=Tb.cnts_mem h;omega
  .next hz=>
   rcases zO.1 h with h|h
   .have:=Tb.cnts_mem h;omega
   .simp at h;subst h;simp;omega
theorem Tb.mem_cnts{t:Tb}:∀{k j:Nat},1<=j->j<k->t.pd j≠0->(j,t.pd j)∈t.cnts k
 |0,_,_,h,_=>by omega
 |k+1,j,h1,h2,h3=>by
  unfold Tb.cnts;by_cases e:j=k
  .subst e;rw[zC om];simp
  .have:=Tb.mem_cnts (k:=k) h1 om h3;split
   .exact this
   .exact List.mem_append_left _ this
def jfJ(l:List (Nat×Int))(pd:Nat->Int):Nat->Int:=fun j=>if l.any (fun p=>p.1 == j) then 0 else pd j
def Tb.take(t:Tb):Tb:=⟨t.hd,fun j=>if 1<=j/\j<32 then 0 else t.pd j⟩
theorem sp_take{cl:Nat->Call}(Z:Sem cl){d b:Nat}{h0:H}{t:Tb}(hd:8<=d)(hb:h0.get b=some t.obj)(d4:b<h0.nx) :
  ∃v h',cl d (.fn 122) [.p b 0] h0=some (v,h')/\Row h0.nx h' 2 v (t.cnts 32).length (jaT (t.cnts 32))/\h'.get b=some t.take.obj/\Ch (fun j=>j=b) h0 h':=by
 refine aT Z ?_;refine qo ?_;refine zcu rfl rfl ?_;refine qo ?_;refine zaw rfl (jkG Z om) ?_;refine qo ?_;refine Run.rangeFunc_lo rfl qkp fun LO mD=>?_;obtain⟨v,h',hc,⟨sv,k1,kr⟩,k2,k3,k4,k5,k6⟩:=jhS Z (d:=d-1) (L:=h0.nx+2) (c:=h0.nx+1) (b:=b) (t:=t) om
  (fun k h=>(∃sv,h.get h0.nx=some (.cells [sv] false)/\Row (h0.nx+3) h 2 sv (t.cnts k).length (jaT (t.cnts k)))/\h.get (h0.nx+1)=some (.cells [.p b 0] false)/\h.get (h0.nx+2)=some (LO .ready none)/\h.get b=some t.obj/\h0.nx+3<=h.nx/\∀j,j<h0.nx->h.get j=h0.get j)
  (fun k h hI=>⟨hI.2.1,hI.2.2.2.1⟩)
  (fun k h _ hI hz=>by rw[Tb.cnts,zD hz];exact hI)
  (by
   intro k g hk nY mF ⟨⟨sv,g1,gr⟩,g2,g3,g4,g5,g6⟩;have hl:=t.cnts_len k;refine jae (yl_ Z om mD g3 rfl ?_);refine qo ?_;refine zcu rfl rfl ?_;refine qo ?_;refine zct rfl rfl rfl rfl (jac _) Zd ?_;refine qo ?_;refine Zn ⟨rfl,qgt,?_⟩;refine qo ?_;refine zav rfl (l:=[sv]) (ro:=false) qgt rfl ?_;refine qo ?_;refine zcw rfl (l:=[.i k,.i (t.pd k)]) (ro:=false) qgt Zd ?_;refine qo ?_;refine Ops.push (N:=h0.nx+3) (new:=[.i k,.i (t.pd k)]) (sv:=sv) (n:=(t.cnts k).length) (cs:=jaT (t.cnts k)) rfl rfl rfl rfl om rfl rfl (gr.keep (by simp<;>omega) fun q hq=>?_) (by simp<;>omega) om om fun v' h' q1 q2 q3 q4=>?_
   .have:=gr.at_ge hq;exact qgt
   simp only[H.nx_set,H.nx_new]at q2 q3 q4;have kP:∀j,j<h0.nx+3->h'.get j=_:=fun j hj=>q4 j om fun hv=>by have:=(gr.at_ge hv).1;omega
   refine qo ?_;refine zcs rfl rfl ?_ (l:=[sv]) (by rw[kP _ om]<;>exact qgt) zM ?_
   .rcases q1 with⟨_,_,rfl⟩|⟨_,_,_,rfl,_⟩<;>rfl
   refine qo ?_;refine Zn ⟨⟨.busy,none,by rw[jaa om,kP _ om]<;>exact qgt⟩,rfl,?_⟩;rw[Tb.cnts,zC om];refine⟨⟨v',qgt,?_⟩,?_,qgt,?_,?_,?_⟩
   .rw[zg,jeP];refine Row.keep q1 Zd fun q hq=>?_;have:=q3 q hq;exact qgt
   .rw[jaa om,jaa om,kP _ om]<;>exact qgt
   .rw[jaa om,jaa om,kP _ om]<;>exact qgt
   .simp<;>omega
   .intro j hj;have:=g6 j hj;rw[jaa om,jaa om,kP _ om]<;>exact qgt)
  (h:=(((h0.new (.cells [.nils] false))).new (.cells [.p b 0] false)).new (LO .ready none))
  (by
   refine⟨⟨.nils,qgt,Row.nil _ _ _⟩,qgt,qgt,qgt,?_,?_⟩
   .simp
   .intro j hj;exact qgt)
 refine⟨v,h',hc,.normal,k3,?_⟩;refine qo ?_;refine zav rfl (l:=[sv]) (ro:=false) qgt rfl ?_;have lP:∀j,j≠h0.nx+2->(h'.kill (h0.nx+2)).get j=h'.get j:=fun j hj=>jai hj;have mP:Row (h0.nx+3) (h'.kill (h0.nx+2)) 2 sv (t.cnts 32).length (jaT (t.cnts 32)):=
  kr.keep Zd fun q hq=>lP q (by have:=kr.at_ge hq;omega)
 have kb:(h'.kill (h0.nx+2)).get b=some t.obj:=by rw[lP b om,k4]
 have kq:(h'.kill (h0.nx+2)).get h0.nx=some (.cells [sv] false):=by rw[lP _ om,k1]
 have kj:∀j,j<h0.nx->(h'.kill (h0.nx+2)).get j=h0.get j:=fun j hj=>by rw[lP j om,k6 j hj]
 have knx:h0.nx+3<=(h'.kill (h0.nx+2)).nx:=k5;show Ops _ _ h'.nx _ _ _ _ (h'.kill (h0.nx+2)) _;generalize h'.kill (h0.nx+2)=g0 at mP kb kq kj knx ⊢;clear k1 k2 k3 k4 k5 k6 lP hc kr;have j4:=t.cnts_len 32;obtain⟨cap,Sd,Td⟩:∃cap:Cap,(∃a,sv = .slice a (t.cnts 32).length cap)/\∀i,i<(t.cnts 32).length -> ∃q,h0.nx+3<=q/\q<g0.nx/\sv = .slice (some (q,0)) (t.cnts 32).length cap/\g0.get q=some (.cells (jaT (t.cnts 32)) false):=by
  rcases mP with⟨e1,_,rfl⟩|⟨q,e1,e2,rfl,e4,_⟩
  .exact⟨.fix 0,⟨none,by rw[e1]⟩,fun i hi=>by omega⟩
  .exact⟨.grow 2,⟨_,rfl⟩,fun i _=>⟨q,e1,e2,rfl,e4⟩⟩
 obtain⟨a,rfl⟩:=Sd;refine qo ?_;refine Zq (fun m e h=>∃i:Nat,m=(t.cnts 32).length-i/\i<=(t.cnts 32).length/\e=[(0,.p b 0),(3,.p h0.nx 0),(14,.slice a (t.cnts 32).length cap),(15,.i (t.cnts 32).length),(16,.i i)] /\
   g0.nx<=h.nx/\h.get b=some (Tb.obj ⟨t.hd,jfJ ((t.cnts 32).take i) t.pd⟩)/\∀j,j<g0.nx->j≠b->h.get j=g0.get j)
  (k:=(t.cnts 32).length) Ze ⟨0,rfl,by omega,rfl,zq _,by rw[kb];rfl,fun _ _ _=>rfl⟩ ?_
 rintro _ _ h ⟨i,rfl,hi,rfl,u1,u2,u3⟩ n ih
 repeat' (first|refine qoy ?_|(refine zsp ?_ ?_<;>intro _)|fail)
 .have cA:i<(t.cnts 32).length:=by omega
  obtain⟨q,x1,x2,x3,x4⟩:=Td i cA;cases x3;have hp:=za cA;generalize (t.cnts 32)[i]=p at hp;have sI:=Tb.cnts_mem (zc hp);refine Ops.ixaS rfl rfl om ?_;have xq:h.get q=some (.cells (jaT (t.cnts 32)) false):=by rw[u3 q x2 om,x4]
  refine zcw rfl xq (by rw[jeO];omega) ?_;have tL:List.take 2 (List.drop (0+(i:Int).toNat*2) (jaT (t.cnts 32)))=[.i p.1,.i p.2]:=by
   rw[show 0+(i:Int).toNat*2=i*2 by omega];exact jhn _ _ _ hp
  rw[tL];refine zcu rfl rfl ?_;refine qo ?_;refine zct rfl rfl rfl rfl (jac _) Zd ?_;refine qo ?_;refine zav rfl (l:=[.i p.1,.i p.2]) (ro:=false) qgt rfl ?_;refine qo ?_;have ub:h.get b=some (.cells (sgc t.hd (jfJ ((t.cnts 32).take i) t.pd)) false):=u2;refine zcs rfl rfl rfl (l:=sgc t.hd (jfJ ((t.cnts 32).take i) t.pd)) qgt (by rw[jeT];omega) ?_;rw[jg9 (k:=p.1) om];refine qo ?_;refine ih ((t.cnts 32).length-(i+1)) om _ _ ⟨i+1,rfl,by omega,rfl,?_,?_,fun j hj hjb=>?_⟩
  .simp<;>omega
  .rw[jab];have e1:(fun j=>if j=p.1 then (0:Int) else jfJ ((t.cnts 32).take i) t.pd j)=jfJ ((t.cnts 32).take (i+1)) t.pd:=by
    funext j;unfold jfJ;rw[List.take_add_one,hp,List.any_append];by_cases e2:j=p.1
    .subst e2;simp
    .have:(p.1 == j)=false:=by simp;omega
     rw[zC e2];simp only[Option.toList,List.any_cons,List.any_nil,this,Bool.or_false]
   rw[e1];rfl
  .have:=u3 j hj hjb;exact qgt
 .have cA:i=(t.cnts 32).length:=by omega
  subst cA;refine zav rfl (l:=[.slice a (t.cnts 32).length cap]) (ro:=false) (by rw[u3 _ om om,kq]) rfl ?_;refine qo ?_;refine⟨Row.keep (Row.weaken (N:=h0.nx+3) om mP) u1 fun q hq=>u3 q (mP.at_ge hq).2 (by have:=mP.at_ge hq;omega),?_,by omega,fun j hj hjb=>by rw[u3 j om hjb,kj j hj]⟩;rw[u2];have e1:(Tb.obj ⟨t.hd,jfJ ((t.cnts 32).take (t.cnts 32).length) t.pd⟩)=t.take.obj:=by
   have:jfJ ((t.cnts 32).take (t.cnts 32).length) t.pd=fun j=>if 1<=j/\j<32 then 0 else t.pd j:=by
    funext j;unfold jfJ;rw[List.take_length];by_cases e2:1<=j/\j<32
    .rw[zD e2];by_cases e3:t.pd j=0
     .rw[e3];simp
     .rw[zD];rw[List.any_eq_true];exact⟨_,Tb.mem_cnts e2.1 e2.2 e3,by simp⟩
    .rw[zC e2,zC];rw[List.any_eq_true];rintro⟨p,h1,h2⟩;have:=Tb.cnts_mem h1;simp at h2;omega
   rw[this];rfl
  rw[e1]
def Old(h h':H):Prop:=h.nx<=h'.nx/\∀j,j<h.nx->h'.get j=h.get j
theorem Old.refl(h:H):Old h h:=⟨zq _,fun _ _=>rfl⟩
theorem Old.trans{h h1 h2:H}(a:Old h h1)(b:Old h1 h2):Old h h2:=⟨zA a.1 b.1,fun j hj=>by rw[b.2 j (zr hj a.1),a.2 j hj]⟩
theorem Old.ch{h h':H}{B:Nat->Prop}(a:Old h h'):Ch B h h':=⟨a.1,fun j hj _=>a.2 j hj⟩
theorem RW.old{h h':H}{rw q:Nat}{l:List RX}{tl:List V}(w:RW h rw q l tl)(a:Old h h'):RW h' rw q l tl:=
 ⟨zr w.lw a.1,zr w.lq a.1,w.ne,fun hl=>⟨by rw[a.2 _ w.lw,(w.at_ hl).hw],by rw[a.2 _ w.lq,(w.at_ hl).hq],w.ne⟩,fun hl=>by rw[a.2 _ w.lw,w.nil hl],fun s hs=>(w.ok s hs).keep a.ch⟩
noncomputable def jav(ws:Ws)(n:Nat):List Int:=((List.range n).filter fun i:Nat=>(atS ws (i:Int)).isNone).map fun i:Nat=>(i:Int)
theorem jcI(ws:Ws)(n:Nat):jav ws (n+1)=jav ws n++if (atS ws (n:Int)).isNone then [(n:Int)] else []:=by
 unfold jav;rw[List.range_succ,List.filter_append,List.map_append];congr 1;by_cases h:(atS ws (n:Int)).isNone<;>simp[h]
theorem ji1(ws:Ws)(n:Nat):(jav ws n).length<=n:=by
 unfold jav;rw[List.length_map];exact zA (List.length_filter_le _ _) Zd
theorem VI.ofRow{h:H}{v:V}{l:List Int}{N:Nat}(r:Row N h 1 v l.length (ints l)):VI h v l/\∀z,v.at?=some z->N<=z/\z<h.nx:=by
 refine⟨?_,fun z hz=>r.at_ge hz⟩;rcases r with⟨h1,h2,rfl⟩|⟨b,h1,h2,rfl,h4,h5⟩
 .have:l=[]:=by simpa using h1
  subst this;exact VI.nil h
 .exact⟨_,_,rfl,fun e=>by (cases e),rfl,fun _=>⟨b,0,_,false,rfl,h2,h4,fun i x hi=>by rw[zP,List.getElem?_map,hi];rfl⟩⟩
section
variable{cl:Nat->Call}(Z:Sem cl)
include Z
theorem joD{d rw q:Nat}{h:H}{l:List RX}{tl:List V}(hd:2<=d)(w:RW h rw q l tl)(o:WsOk (l.map RX.x)) :
  ∃v h',cl d (.fn 75) [.p rw 0] h=some (v,h')/\VI h' v (jav (l.map RX.x) 96)/\Old h h'/\∀z,v.at?=some z->h.nx<=z/\z<h'.nx:=by
 refine aT Z ?_;refine Ga ?_;refine Zq (fun m e g=>∃(n:Nat) (v:V),m=96-n/\n<=96/\e=[(0,.p rw 0),(3,v),(4,.i n)]/\Row h.nx g 1 v (jav (l.map RX.x) n).length (ints (jav (l.map RX.x) n))/\Old h g)
  (k:=96) Ze ⟨0,.nils,rfl,by omega,rfl,Row.nil _ _ _,Old.refl h⟩ ?_
 rintro _ _ g ⟨n,v,rfl,hn,rfl,row,old⟩ f ih;have wg:=w.old old;by_cases d4:n<=95
 case neg=>
  obtain rfl:n=96:=by omega
  have xB:¬((96:Nat):Int)<=95:=by omega
  refine Ga ?_;obtain⟨p1,p2⟩:=VI.ofRow row;exact⟨p1,old,p2⟩
 have jC:((n+1:Nat):Int)=(n:Int)+1:=by omega
 rcases jdQ Z (d:=d-1) (fd:=(n:Int)) om wg o with⟨j5,ea⟩|⟨m,k,r,d7,hr,hk,ea⟩
 .have hs:jav (l.map RX.x) (n+1)=jav (l.map RX.x) n++[(n:Int)]:=by rw[jcI,jfh j5];rfl
  refine Ga ?_;refine Ops.push (N:=h.nx) (new:=[.i (n:Int)]) rfl rfl rfl rfl om rfl rfl row old.1 (by have:=ji1 (l.map RX.x) n;omega) (by have:=ji1 (l.map RX.x) n;omega) fun v' g' row' cB iA w6=>?_;refine Ga ?_;refine ih (96-(n+1)) om _ _ ⟨n+1,v',rfl,by omega,by rw[jC],?_,zA old.1 cB,fun j hj=>?_⟩
  .rw[hs,zg];simpa[ints] using row'
  .rw[w6 j (zr hj old.1) (fun e=>by have:=row.at_ge e;omega),old.2 j hj]
 .have hs:jav (l.map RX.x) (n+1)=jav (l.map RX.x) n:=by rw[jcI,jdA o.uniq d7];simp
  refine Ga ?_;exact ih (96-(n+1)) om _ _ ⟨n+1,v,rfl,by omega,by rw[jC],by rw[hs];exact row,old⟩
end
abbrev Zz:=@Old.refl
theorem Wi.take_silent{x:Wi}{k m:Nat}{q:List UInt8}(hk:k=0\/k=1):(x.take k m q).silent k=x.silent k:=by
 rcases hk with rfl|rfl<;>simp[Wi.take,Wi.setq,Wi.came,Wi.put,Wi.e,En.came,Wi.silent]
section
variable{cl:Nat->Call}(Z:Sem cl)
include Z
theorem jmy{d w s wsb wn n wb r0 r1:Nat}{h:H}{wl wsl:List V}{wcap:Cap}{x:Wi}{wv:V}(hd:2<=d)(A:WAt h w wl s wsb wn wcap wsl)(hn:n<wn)(d7:wsl[n]?=some (.p wb 0))(hx:h.get wb=some (x.obj r0 r1 wv))(h2:x.e1.what=2) :
  cl d (.fn 151) [.p w 0,.i (n:Int)] h=some (.tup [.p wb 0,.i 0],h):=by
 obtain⟨hw,hs,hws,hb⟩:=A;refine jaj (aT Z ?_);have j5:=jlA Z (d:=d-1) om hw hs;have f1:wsl[0+(n:Int).toNat*1]?=some (.p wb 0):=by rw[show 0+(n:Int).toNat*1=n by omega];exact d7
 have f2:(x.cells r0 r1 wv)[0+0+(1:Int).toNat*7+0]?=some (.i 2):=by rw[<- h2];exact Wi.what_cell (k:=1) (.inr rfl) rfl
 unfold Wi.obj at hx;refine Ga ?_;exact⟨rfl,rfl⟩
theorem wp_Put{d w s wsb wn n wb r0 r1 b:Nat}{h0:H}{wl wsl:List V}{wcap:Cap}{x:Wi}{wv:V}{q l:List UInt8}{a:Option (Nat×Nat)}{c:Cap}(hd:8<=d)(A:WAt h0 w wl s wsb wn wcap wsl)(hn:n<wn)(d7:wsl[n]?=some (.p wb 0))(hx:h0.get wb=some (x.obj r0 r1 wv))
  (h2:x.e1.what=2) (hr:x.reset=false) (aB:x.e1.shut=false) (h3:x.e0.what≠3) (hq:x.e0.ring=some q) (R:ja3 h0 r0 b q x.cap) (l1:wb<h0.nx) (l2:r0<h0.nx) (l3:b<h0.nx) (n1:r0≠b) (n2:wb≠r0) (n3:wb≠b) (hl:BytesAt h0 a c l) (mE:l.length<=1000000000)
  (d5:∀z o,a=some (z,o)->l≠[]->z≠b/\z≠r0) :
  ∃h',cl d (.fn 88) [.p w 0,.i (n:Int),.slice a l.length c] h0=some (.tup [.i ((min l.length (x.cap-q.length):Nat):Int),.i 0],h')/\h'.get wb=some ((x.fill 1 (min l.length (x.cap-q.length)) q l).obj r0 r1 wv) /\
   ja3 h' r0 b (q++l.take (min l.length (x.cap-q.length))) x.cap/\Ch (fun j=>j=wb\/j=r0\/j=b) h0 h':=by
 have ho:=jmy Z (d:=d-1) om A hn d7 hx h2;obtain⟨h1,e1,p1,p2,p3⟩:=joj Z (d:=d-1) (k:=1) om hx (.inr rfl) hq R l1 l2 l3 n1 n2 n3 hl mE d5;have f1:(x.cells r0 r1 wv)[0+14]?=some (.bool false):=by rw[<- hr];exact Zv rfl
 have f2:(x.cells r0 r1 wv)[0+0+(1:Int).toNat*7+4]?=some (.bool false):=by rw[<- aB];exact Wi.shut_cell (k:=1) (.inr rfl) rfl
 have f3:(x.cells r0 r1 wv)[0+0+(0:Int).toNat*7+0]?=some (.i x.e0.what):=Wi.what_cell (k:=0) (.inl rfl) rfl;unfold Wi.obj at hx;refine jae (aT Z ?_);refine Ga ?_;exact⟨rfl,p1,p2,p3⟩
theorem wp_Take{d w s wsb wn n wb r0 r1 b:Nat}{h0:H}{wl wsl:List V}{wcap:Cap}{x:Wi}{wv:V}{q:List UInt8}{t:Int}(hd:9<=d)(A:WAt h0 w wl s wsb wn wcap wsl)(hn:n<wn)(d7:wsl[n]?=some (.p wb 0))(hx:h0.get wb=some (x.obj r0 r1 wv))
  (h2:x.e1.what=2) (hr:x.reset=false) (ht:0<=t) (hq:x.e1.ring=some q) (R:ja3 h0 r1 b q x.cap) (l1:wb<h0.nx) (l2:r1<h0.nx) (l3:b<h0.nx) (n1:r1≠b) (n2:wb≠r1) (n3:wb≠b) :
  ∃v h',cl d (.fn 90) [.p w 0,.i (n:Int),.i t] h0=some (.tup [v,.i 0],h')/\Row h0.nx h' 1 v (min t q.length).toNat (bts (q.take (min t q.length).toNat))/\((min t q.length).toNat=0->v = .nils)/\h'.get wb=some ((x.take 1 (min t q.length).toNat q).obj r0 r1 wv) /\
   ja3 h' r1 b (q.drop (min t q.length).toNat) x.cap/\Ch (fun j=>j=wb\/j=r1) h0 h':=by
 have ho:=jmy Z (d:=d-1) om A hn d7 hx h2;obtain⟨v,h1,e1,row,rG,p1,p2,p3⟩:=joh Z (d:=d-1) (k:=1) (n:=t) om hx (.inr rfl) hq R l1 l2 l3 n1 n2 n3;have f1:(x.cells r0 r1 wv)[0+14]?=some (.bool false):=by rw[<- hr];exact Zv rfl
 unfold Wi.obj at hx
 suffices ∃v2 h',cl d (.fn 90) [.p w 0,.i (n:Int),.i t] h0=some (v2,h')/\v2 = .tup [v,.i 0]/\h'=h1 by
  obtain⟨v2,h',q1,q2,q3⟩:=this;subst q2 q3;exact⟨v,h',q1,row,rG,p1,p2,p3⟩
 refine aT Z ?_;refine Ga ?_;exact⟨rfl,rfl⟩
theorem wp_Read{d w s wsb wn fd n k wb r0 r1 b:Nat}{h0:H}{wl wsl:List V}{wcap:Cap}{x:Wi}{wv:V}{q:List UInt8}{t:Int}(hd:9<=d)(A:WAt h0 w wl s wsb wn wcap wsl)(B:FdAt wl wsl wn fd n k wb)(hx:h0.get wb=some (x.obj r0 r1 wv))
  (hr:x.reset=false) (ht:1<=t) (hq:(x.e k).ring=some q) (R:ja3 h0 (two r0 r1 k) b q x.cap) (lw:w<h0.nx) (lb:wsb<h0.nx) (l1:wb<h0.nx) (l2:two r0 r1 k<h0.nx) (l3:b<h0.nx) (n1:two r0 r1 k≠b) (n2:wb≠two r0 r1 k) (n3:wb≠b) :
  ∃v h',cl d (.fn 35) [.p w 0,.i (fd:Int),.i t] h0=some (.tup [v,.bool (decide (q=[])&&x.silent k),.i (if q=[]/\x.silent k=false then 113 else 0)],h') /\
   Row h0.nx h' 1 v (min t q.length).toNat (bts (q.take (min t q.length).toNat))/\((min t q.length).toNat=0->v = .nils)/\h'.get wb=some ((x.take k (min t q.length).toNat q).obj r0 r1 wv) /\
   ja3 h' (two r0 r1 k) b (q.drop (min t q.length).toNat) x.cap/\Ch (fun j=>j=wb\/j=two r0 r1 k) h0 h':=by
 obtain⟨h1,e1,c1,x1⟩:=jlB Z (d:=d-1) om A B lw lb;have hk:=B.k01;let h2:=(h1.new (.cells [.bool false,.i 0,.i 0] false)).set h1.nx (.cells [.bool true,.i (n:Int),.i (k:Int)] false);have g2:∀j,j<h0.nx->h2.get j=h0.get j:=fun j hj=>by
  show (H.set _ _ _).get j=_;rw[jaa om,jad om,c1.get j hj id]
 have y2:h2.nx=h0.nx+2:=by show h1.nx+1=_;omega
 have wC:h2.get wb=some (x.obj r0 r1 wv):=by rw[g2 wb l1,hx]
 have R2:=R.keep (g2 _ l2) (g2 _ l3);obtain⟨v,h3,e3,row,rG,p1,p2,p3⟩:=joh Z (d:=d-1) (k:=k) (n:=t) om wC hk hq R2 om om om n1 n2 n3;have oN:=jk6 Z (d:=d-1) om p1 hk;rw[Wi.take_silent hk]at oN;have f1:(x.cells r0 r1 wv)[0+14]?=some (.bool false):=by rw[<- hr];exact Zv rfl
 have f2:=Wi.ring_cell (x:=x) (r0:=r0) (r1:=r1) (wv:=wv) hk hq (o:=0+0+(k:Int).toNat*7+2) om;have tK:h3.get h1.nx=some (.cells [.bool true,.i (n:Int),.i (k:Int)] false):=by
  rw[p3.get h1.nx om om];exact jab _
 have fin:Row h0.nx h3 1 v (min t q.length).toNat (bts (q.take (min t q.length).toNat))/\((min t q.length).toNat=0->v = .nils)/\h3.get wb=some ((x.take k (min t q.length).toNat q).obj r0 r1 wv) /\
   ja3 h3 (two r0 r1 k) b (q.drop (min t q.length).toNat) x.cap/\Ch (fun j=>j=wb\/j=two r0 r1 k) h0 h3:=
  ⟨row.weaken om,rG,p1,p2,by have:=p3.nx;omega,fun j hj hn=>by rw[p3.get j om hn,g2 j hj]⟩
 suffices ∃v2 h',cl d (.fn 35) [.p w 0,.i (fd:Int),.i t] h0=some (v2,h')/\v2 = .tup [v,.bool (decide (q=[])&&x.silent k),.i (if q=[]/\x.silent k=false then 113 else 0)]/\h'=h3 by
  obtain⟨v2,h',q1,q2,q3⟩:=this;subst q2 q3;exact⟨v,h',q1,fin⟩
 clear fin p2;obtain⟨c,⟨a,rfl⟩,lF⟩:=row.shape;unfold Wi.obj at wC;have dJ:q=[]↔(min t (q.length:Int)).toNat=0:=by
  rw[<- zn];omega
 refine aT Z ?_;refine qo ?_;refine zaw rfl e1 ?_;refine qo ?_;refine zcu rfl rfl ?_;refine Ga ?_;refine zct rfl rfl rfl rfl (jac _) (zu rfl) ?_;have gp:h2.get h1.nx=some (.cells [.bool true,.i (n:Int),.i (k:Int)] false):=jab _;rw[show ((h1.new (.cells [.bool false,.i 0,.i 0] false)).set h1.nx (.cells (jao [.bool false,.i 0,.i 0] 0 [.bool true,.i (n:Int),.i (k:Int)]) false))=h2 from rfl]
 clear_value h2
 by_cases pD:q=[]
 .have hm:(min t (q.length:Int)).toNat=0:=dJ.1 pD;have hv:=rG hm;rw[hm]at e3 hv;rw[hm,hv];cases kA:x.silent k
  .rw[kA]at oN;refine Ga ?_;exact⟨by simp[pD,kA],rfl⟩
  .rw[kA]at oN;refine Ga ?_;exact⟨by simp[pD,kA],rfl⟩
 .have hm:¬(min t (q.length:Int)).toNat=0:=fun e=>pD (dJ.2 e);refine Ga ?_;exact⟨by simp[pD],rfl⟩
end
theorem Wi.came_ff(x:Wi)(k:Nat):x.came k false false=x:=by
 match k with
 |0=>simp[Wi.came,Wi.put,Wi.e,En.came]
 |n+1=>simp[Wi.came,Wi.put,Wi.e,En.came]
theorem Wi.fill_zero{x:Wi}{r0 r1 k:Nat}{wv:V}{q l:List UInt8}(hk:k=0\/k=1)(hq:(x.e (1-k)).ring=some q):(x.fill k 0 q l).obj r0 r1 wv=x.obj r0 r1 wv:=by
 unfold Wi.fill Wi.obj;rw[show decide (0<0)=false from rfl,Wi.came_ff,Wi.setq_cells om hq]
section
variable{cl:Nat->Call}(Z:Sem cl)
include Z
theorem wp_Write{d w s wsb wn fd n k wb r0 r1 b:Nat}{h0:H}{wl wsl:List V}{wcap:Cap}{x:Wi}{wv:V}{q l:List UInt8}{a:Option (Nat×Nat)}{c:Cap}(hd:9<=d)(A:WAt h0 w wl s wsb wn wcap wsl)(B:FdAt wl wsl wn fd n k wb)(hx:h0.get wb=some (x.obj r0 r1 wv))
  (fB:(x.e k).writes=true) (hr:x.reset=false) (bC:(x.e k).shut=false) (h3:(x.e (1-k)).what≠3) (hq:(x.e (1-k)).ring=some q) (R:ja3 h0 (two r0 r1 (1-k)) b q x.cap) (lw:w<h0.nx) (lb:wsb<h0.nx) (l1:wb<h0.nx) (l2:two r0 r1 (1-k)<h0.nx) (l3:b<h0.nx)
  (n1:two r0 r1 (1-k)≠b) (n2:wb≠two r0 r1 (1-k)) (n3:wb≠b) (hl:BytesAt h0 a c l) (mE:l.length<=1000000000) (d5:∀z o,a=some (z,o)->l≠[]->z≠b/\z≠two r0 r1 (1-k)) :
  ∃h',cl d (.fn 37) [.p w 0,.i (fd:Int),.slice a l.length c] h0=some (.tup [.i ((min l.length (x.cap-q.length):Nat):Int),.i (if min l.length (x.cap-q.length)=0/\l≠[] then 113 else 0)],h') /\
   h'.get wb=some ((x.fill k (min l.length (x.cap-q.length)) q l).obj r0 r1 wv)/\ja3 h' (two r0 r1 (1-k)) b (q++l.take (min l.length (x.cap-q.length))) x.cap/\Ch (fun j=>j=wb\/j=two r0 r1 (1-k)\/j=b) h0 h':=by
 obtain⟨h1,e1,c1,x1⟩:=jlB Z (d:=d-1) om A B lw lb;have hk:=B.k01;let h2:=(h1.new (.cells [.bool false,.i 0,.i 0] false)).set h1.nx (.cells [.bool true,.i (n:Int),.i (k:Int)] false);have g2:∀j,j<h0.nx->h2.get j=h0.get j:=fun j hj=>by
  show (H.set _ _ _).get j=_;rw[jaa om,jad om,c1.get j hj id]
 have y2:h2.nx=h0.nx+2:=by show h1.nx+1=_;omega
 have wC:h2.get wb=some (x.obj r0 r1 wv):=by rw[g2 wb l1,hx]
 have R2:=R.keep (g2 _ l2) (g2 _ l3);have eE:BytesAt h2 a c l:=⟨hl.none_,hl.fits,fun hn=>by
  obtain⟨z,o,cs,ro,q1,q2,q3,q4⟩:=hl.at_ hn;exact⟨z,o,cs,ro,q1,by omega,by rw[g2 z q2,q3],q4⟩⟩
 obtain⟨yR,e3,p1,p2,p3⟩:=joj Z (d:=d-1) (k:=k) om wC hk hq R2 om om om n1 n2 n3 eE mE d5;have f1:(x.cells r0 r1 wv)[0+14]?=some (.bool false):=by rw[<- hr];exact Zv rfl
 have f2:(x.cells r0 r1 wv)[0+0+(k:Int).toNat*7+3]?=some (.bool true):=by rw[<- fB];exact Wi.writes_cell hk om
 have f3:(x.cells r0 r1 wv)[0+0+(k:Int).toNat*7+4]?=some (.bool false):=by rw[<- bC];exact Wi.shut_cell hk om
 have f4:(x.cells r0 r1 wv)[0+0+((1:Int)-(k:Int)).toNat*7+0]?=some (.i (x.e (1-k)).what):=Wi.what_cell om om;have gp:h2.get h1.nx=some (.cells [.bool true,.i (n:Int),.i (k:Int)] false):=jab _;have tK:yR.get h1.nx=some (.cells [.bool true,.i (n:Int),.i (k:Int)] false):=by
  rw[p3.get h1.nx om (by
   rintro (e|e|e)<;>omega)];exact gp
 generalize hm:min l.length (x.cap-q.length)=m at e3 p1 p2 ⊢;unfold Wi.obj at wC;refine jae (aT Z ?_);refine qo ?_;refine zaw rfl e1 ?_;refine qo ?_;refine zcu rfl rfl ?_;refine Ga ?_;refine zct rfl rfl rfl rfl (jac _) (zu rfl) ?_;rw[show ((h1.new (.cells [.bool false,.i 0,.i 0] false)).set h1.nx (.cells (jao [.bool false,.i 0,.i 0] 0 [.bool true,.i (n:Int),.i (k:Int)]) false))=h2 from rfl]
 clear_value h2
 by_cases qE:l=[]
 .have gC:m=0:=by rw[<- hm,qE];simp
  have pN:(l.length:Int)=0:=by rw[qE];rfl
  refine Ga ?_;refine⟨by simp[gC,qE],?_,?_,by omega,fun j hj _=>g2 j hj⟩
  .rw[gC,Wi.fill_zero hk hq,Wi.obj,wC]
  .rw[gC];simpa using R2
 .have pN:¬(l.length:Int)=0:=by
   have:l.length≠0:=fun e=>qE (zn.1 e);omega
  have fin:yR.get wb=some ((x.fill k m q l).obj r0 r1 wv)/\ja3 yR (two r0 r1 (1-k)) b (q++l.take m) x.cap/\Ch (fun j=>j=wb\/j=two r0 r1 (1-k)\/j=b) h0 yR:=
   ⟨p1,p2,by have:=p3.nx;omega,fun j hj hn=>by rw[p3.get j om hn,g2 j hj]⟩
  by_cases gC:m=0
  .refine Ga ?_;exact⟨by simp[gC,qE],fin⟩
  .refine Ga ?_;exact⟨by simp[gC],fin⟩
end
def pc:Option (Nat×Nat)->Nat->V
 |none,0=>.bool false
 |none,_=>.i 0
 |some _,0=>.bool true
 |some p,1=>.i (p.1:Int)
 |some p,_=>.i (p.2:Int)
def plc(p:Option (Nat×Nat)):List V:=[pc p 0,pc p 1,pc p 2]
def jdJ(f:Nat->Option (Nat×Nat)):List V:=tab 288 fun j=>pc (f (j/3)) (j%3)
theorem ja7(f:Nat->Option (Nat×Nat)):(jdJ f).length=288:=by simp[jdJ]
theorem jgw{f:Nat->Option (Nat×Nat)}{i j o:Nat}(hi:i<96)(hj:j<3)(ho:o=i*3+j):(jdJ f)[o]?=some (pc (f i) j):=by
 subst ho;unfold jdJ;rw[jcD om,show (i*3+j)/3=i by omega,show (i*3+j)%3=j by omega]
theorem fdTab_set{f g:Nat->Option (Nat×Nat)}{i o:Nat}{p:Option (Nat×Nat)}(hi:i<96)(ho:o=i*3)(hg:∀j,j<96->g j=if j=i then p else f j):jao (jdJ f) o (plc p)=jdJ g:=by
 subst ho;show (((jdJ f).set (i*3) (pc p 0)).set (i*3+1) (pc p 1)).set (i*3+1+1) (pc p 2)=_;unfold jdJ;rw[je4,je4,je4];refine jcL fun j hj=>?_;rw[hg (j/3) om];by_cases h2:j=i*3+1+1
 .subst h2;rw[zD rfl,zD om,show (i*3+1+1)%3=2 by omega]
 rw[zC h2];by_cases h1:j=i*3+1
 .subst h1;rw[zD rfl,zD om,show (i*3+1)%3=1 by omega]
 rw[zC h1];by_cases h0:j=i*3
 .subst h0;rw[zD rfl,zD om,show (i*3)%3=0 by omega]
 rw[zC h0,zC om]
theorem jmk{f g:Nat->Option (Nat×Nat)}(h:∀j,j<96->f j=g j):jdJ f=jdJ g:=jcL fun j hj=>by rw[h (j/3) om]
def wc(f:Nat->Option (Nat×Nat))(wv:V)(s:Nat)(now:Int)(no:Option (Nat×Nat)):List V:=jdJ f++([wv,.p s 0,.int .u64 now]++plc no)
section
variable{f:Nat->Option (Nat×Nat)}{wv:V}{s o:Nat}{now:Int}{no:Option (Nat×Nat)}
theorem jbv:(wc f wv s now no).length=294:=by simp[wc,ja7,plc]
theorem jqm{i j:Nat}(hi:i<96)(hj:j<3)(ho:o=i*3+j):(wc f wv s now no)[o]?=some (pc (f i) j):=by
 unfold wc;rw[ze,zD (by rw[ja7];omega),jgw hi hj ho]
theorem jpq{j:Nat}(ho:o=288+j):(wc f wv s now no)[o]?=([wv,.p s 0,.int .u64 now]++plc no)[j]?:=by
 subst ho;unfold wc;rw[ze,zC (by rw[ja7];omega),ja7,Zi]
theorem jaR(ho:o=288):(wc f wv s now no)[o]?=some wv:=jpq (j:=0) ho
theorem jdZ(ho:o=289):(wc f wv s now no)[o]?=some (.p s 0):=jpq (j:=1) ho
theorem jor(ho:o=290):(wc f wv s now no)[o]?=some (.int .u64 now):=jpq (j:=2) ho
theorem jkB{j:Nat}(hj:j<3)(ho:o=291+j):(wc f wv s now no)[o]?=some (pc no j):=by
 rw[jpq (j:=3+j) om];rcases (by omega:j=0\/j=1\/j=2) with rfl|rfl|rfl<;>rfl
theorem jp4{o:Nat}{j:Nat}{v:V}(ho:o=288+j):(wc f wv s now no).set o v=jdJ f++(([wv,.p s 0,.int .u64 now]++plc no).set j v):=by
 subst ho;unfold wc;rw[zU,zC (by rw[ja7];omega),ja7,Zi]
theorem je2{v:V}(ho:o=288):(wc f wv s now no).set o v=wc f v s now no:=by rw[jp4 (j:=0) ho];rfl
theorem jnn{n:Int}(ho:o=290):(wc f wv s now no).set o (.int .u64 n)=wc f wv s n no:=by rw[jp4 (j:=2) ho];rfl
theorem jhy{a b vs:List V}{o:Nat}(h:o+vs.length<=a.length):jao (a++b) o vs=jao a o vs++b:=by
 induction vs generalizing a o with
 |nil=>rfl
 |cons v r ih=>
  have h':o+(r.length+1)<=a.length:=h;rw[jec,jec,zU,zD om,ih Zc]
theorem jhz{a b vs:List V}{o:Nat}(h:a.length<=o):jao (a++b) o vs=a++jao b (o-a.length) vs:=by
 induction vs generalizing b o with
 |nil=>rfl
 |cons v r ih=>
  rw[jec,jec,zU,zC om,ih om,show o+1-a.length=o-a.length+1 by omega]
theorem jfQ{g:Nat->Option (Nat×Nat)}{i:Nat}{p:Option (Nat×Nat)}(hi:i<96)(ho:o=i*3)(hg:∀j,j<96->g j=if j=i then p else f j):jao (wc f wv s now no) o (plc p)=wc g wv s now no:=by
 unfold wc;rw[jhy (by rw[ja7];show o+3<=_;omega),fdTab_set hi ho hg]
theorem wc_set_no{p:Option (Nat×Nat)}(ho:o=291):jao (wc f wv s now no) o (plc p)=wc f wv s now p:=by
 subst ho;unfold wc;rw[jhz (by rw[ja7];omega),ja7];rfl
end
structure WX where
 x:Wi
 wb:Nat
 r0:Nat
 b0:Nat
 r1:Nat
 b1:Nat
 wv:V
def WX.r(t:WX):Nat->Nat:=two t.r0 t.r1
def WX.b(t:WX):Nat->Nat:=two t.b0 t.b1
theorem VI.keep2{h h':H}{v:V}{l:List Int}(a:VI h v l)(hx:h.nx<=h'.nx)(hk:l≠[] -> ∀z,v.at?=some z->h'.get z=h.get z):VI h' v l:=by
 obtain⟨a,c,rfl,n,f,g⟩:=a;refine⟨a,c,rfl,n,f,fun hl=>?_⟩;obtain⟨b,o,cs,ro,rfl,h1,h2,h3⟩:=g hl;exact⟨b,o,cs,ro,rfl,by omega,by rw[hk hl b rfl,h2],h3⟩
structure XOk(h:H)(ow:Nat->Nat)(n:Nat)(t:WX):Prop where
 hx:h.get t.wb=some (t.x.obj t.r0 t.r1 t.wv)
 ox:ow t.wb=10*n+10
 lx:t.wb<h.nx
 ring:∀k,k=0\/k=1 -> ∀q,(t.x.e k).ring=some q->ja3 h (t.r k) (t.b k) q t.x.cap/\ow (t.r k)=10*n+11+2*k/\ow (t.b k)=10*n+12+2*k/\t.r k<h.nx/\t.b k<h.nx
 wait:VI h t.wv t.x.waiting/\(t.x.waiting≠[] -> ∀z,t.wv.at?=some z->ow z=10*n+15/\z<h.nx)
theorem XOk.keep{h h':H}{ow:Nat->Nat}{n:Nat}{t:WX}(a:XOk h ow n t)(hx:h.nx<=h'.nx)(hk:∀j,10*n+10<=ow j->ow j<=10*n+19->h'.get j=h.get j):XOk h' ow n t:=by
 refine⟨by rw[hk _ (by rw[a.ox];omega) (by rw[a.ox];omega),a.hx],a.ox,zr a.lx hx,fun k fH q hq=>?_,?_⟩
 .obtain⟨p1,p2,p3,p4,p5⟩:=a.ring k fH q hq;refine⟨p1.keep (hk _ ?_ ?_) (hk _ ?_ ?_),p2,p3,zr p4 hx,zr p5 hx⟩<;>omega
 .refine⟨a.wait.1.keep2 hx fun hl z hz=>?_,fun hl z hz=>⟨(a.wait.2 hl z hz).1,zr (a.wait.2 hl z hz).2 hx⟩⟩;have:=(a.wait.2 hl z hz).1;exact hk z om om
theorem XOk.tag{h:H}{ow ow':Nat->Nat}{n:Nat}{t:WX}(a:XOk h ow n t)(hk:∀j,j<h.nx->ow' j=ow j):XOk h ow' n t:=by
 refine⟨a.hx,by rw[hk _ a.lx,a.ox],a.lx,fun k fH q hq=>?_,a.wait.1,fun hl z hz=>?_⟩
 .obtain⟨p1,p2,p3,p4,p5⟩:=a.ring k fH q hq;exact⟨p1,by rw[hk _ p4,p2],by rw[hk _ p5,p3],p4,p5⟩
 .obtain⟨p1,p2⟩:=a.wait.2 hl z hz;exact⟨by rw[hk _ p2,p1],p2⟩
abbrev wxs(l:List WX):Ws:=l.map WX.x
abbrev wps(l:List WX):List V:=l.map fun t=>.p t.wb 0
structure WF(h:H)(w s:Nat)(ow:Nat->Nat)(f:Nat->Option (Nat×Nat))(l:List WX)(now:Int)(t:Tb)(no:Option (Nat×Nat)):Prop where
 hw:∃wv,h.get w=some (.cells (wc f wv s now no) false)/\Row 0 h 1 wv l.length (wps l)/\∀z,wv.at?=some z->ow z=2
 hs:h.get s=some t.obj
 tw:ow w=1
 ts:ow s=3
 lw:w<h.nx
 ls:s<h.nx
 top:∀j,h.nx<=j->ow j=0
 ok:∀n t,l[n]?=some t->XOk h ow n t
section
variable{h h':H}{w s:Nat}{ow:Nat->Nat}{f:Nat->Option (Nat×Nat)}{l:List WX}{now:Int}{t tb:Tb}{no:Option (Nat×Nat)}
theorem WF.keep(a:WF h w s ow f l now t no)(hx:h.nx<=h'.nx)(hk:∀j,ow j≠0->h'.get j=h.get j):WF h' w s ow f l now t no:=by
 obtain⟨wv,p1,p2,p3⟩:=a.hw;exact⟨⟨wv,by rw[hk w (by rw[a.tw];omega),p1],p2.keep hx fun z hz=>hk z (by rw[p3 z hz];omega),p3⟩,by rw[hk s (by rw[a.ts];omega),a.hs],a.tw,a.ts,zr a.lw hx,zr a.ls hx,
  fun j hj=>a.top j (zA hx hj),fun n t ht=>(a.ok n t ht).keep hx fun j h1 _=>hk j om⟩
theorem WF.lt_of(a:WF h w s ow f l now t no){j:Nat}(hj:ow j≠0):j<h.nx:=by
 rcases zx j h.nx with h1|h1
 .exact h1
 .exact zJ (a.top j h1) hj
theorem WF.old(a:WF h w s ow f l now t no)(o:Old h h'):WF h' w s ow f l now t no:=a.keep o.1 fun j hj=>o.2 j (a.lt_of hj)
theorem WF.congr{g:Nat->Option (Nat×Nat)}(a:WF h w s ow f l now t no)(e:∀j,j<96->g j=f j):WF h w s ow g l now t no:=by
 obtain⟨wv,p1,p2,p3⟩:=a.hw;refine⟨⟨wv,?_,p2,p3⟩,a.hs,a.tw,a.ts,a.lw,a.ls,a.top,a.ok⟩;rw[p1];unfold wc;rw[jmk e]
theorem WF.head(a:WF h w s ow f l now t no):∃sa c,h.get w=some (.cells (wc f (.slice sa l.length c) s now no) false)/\(l≠[] -> ∃z,sa=some (z,0)/\z<h.nx/\ow z=2/\h.get z=some (.cells (wps l) false)):=by
 obtain⟨wv,p1,p2,p3⟩:=a.hw;rcases p2 with⟨h1,h2,rfl⟩|⟨z,h1,h2,rfl,h4,h5⟩
 .refine⟨none,.fix 0,by rw[p1,h1],fun hl=>zJ (zn.1 h1) hl⟩
 .exact⟨_,_,p1,fun _=>⟨z,rfl,h2,p3 z rfl,h4⟩⟩
end
theorem jak{l:List WX}{n:Nat}{t:WX}(h:l[n]?=some t):(wxs l)[n]?=some t.x:=by simp[h]
theorem jhD{l:List WX}{n:Nat}{x:Wi}(h:(wxs l)[n]?=some x):∃t,l[n]?=some t/\t.x=x:=by
 rw[List.getElem?_map]at h;cases hr:l[n]? with
 |none=>rw[hr]at h;cases h
 |some r=>rw[hr]at h;cases h;exact⟨r,rfl,rfl⟩
theorem x_lt{l:List WX}{n:Nat}{t:WX}(hr:l[n]?=some t):n<l.length:=by
 rcases zx n l.length with h|h
 .exact h
 .rw[zd h]at hr;cases hr
theorem set_wps{l:List WX}{n:Nat}{t t':WX}(ht:l[n]?=some t)(hb:t'.wb=t.wb):wps (l.set n t')=wps l:=by
 apply zT;intro i;rw[List.getElem?_map,List.getElem?_map,zi];by_cases e:n=i
 .subst e;rw[zD rfl,zD (x_lt ht),ht];simp[hb]
 .rw[zC e]
theorem jbl{l:List WX}{n:Nat}{t:WX}:wxs (l.set n t)=(wxs l).set n t.x:=List.map_set
section
variable{h h':H}{w s:Nat}{ow:Nat->Nat}{f:Nat->Option (Nat×Nat)}{l:List WX}{now:Int}{tb:Tb}{no:Option (Nat×Nat)}
theorem WF.turn(a:WF h w s ow f l now tb no){n:Nat}{t t':WX}(ht:l[n]?=some t)(hx:h.nx<=h'.nx)(hk:∀j,ow j≠0 -> ¬(10*n+10<=ow j/\ow j<=10*n+19)->h'.get j=h.get j)(ok:XOk h' ow n t')(hb:t'.wb=t.wb):WF h' w s ow f (l.set n t') now tb no:=by
 obtain⟨wv,p1,p2,p3⟩:=a.hw;refine⟨⟨wv,by rw[hk w (by rw[a.tw];omega) (by rw[a.tw];omega),p1],?_,p3⟩,by rw[hk s (by rw[a.ts];omega) (by rw[a.ts];omega),a.hs],a.tw,a.ts,zr a.lw hx,zr a.ls hx,fun j hj=>a.top j (zA hx hj),fun m t2 qD=>?_⟩
 .rw[List.length_set,set_wps ht hb];exact p2.keep hx fun z hz=>hk z (by rw[p3 z hz];omega) (by rw[p3 z hz];omega)
 .rw[zi]at qD;by_cases e:n=m
  .subst e;rw[zD rfl,zD (x_lt ht)]at qD;cases qD;exact ok
  .rw[zC e]at qD;exact (a.ok m t2 qD).keep hx fun j h1 h2=>hk j om om
theorem WF.step(a:WF h w s ow f l now tb no){n:Nat}{t:WX}{x':Wi}{B:Nat->Prop}(ht:l[n]?=some t)(ch:Ch B h h')(hB:∀j,j<h.nx->B j->10*n+10<=ow j/\ow j<=10*n+14)(ho:h'.get t.wb=some (x'.obj t.r0 t.r1 t.wv))(fC:x'.waiting=t.x.waiting)
  (hr:∀k,k=0\/k=1 -> ∀q',(x'.e k).ring=some q' -> ∃q,(t.x.e k).ring=some q/\ja3 h' (t.r k) (t.b k) q' x'.cap):WF h' w s ow f (l.set n {t with x:=x'}) now tb no:=by
 have k:=a.ok n t ht;have hg:∀j,ow j≠0 -> ¬(10*n+10<=ow j/\ow j<=10*n+14)->h'.get j=h.get j:=fun j hj hn=>ch.get j (a.lt_of hj) fun hb=>hn (hB j (a.lt_of hj) hb);refine a.turn ht ch.nx (fun j hj hn=>hg j hj fun ⟨e1,e2⟩=>hn ⟨e1,by omega⟩) ⟨ho,k.ox,zr k.lx ch.nx,fun i hi q' f9=>?_,?_⟩ rfl
 .obtain⟨q,e1,e2⟩:=hr i hi q' f9;obtain⟨_,p2,p3,p4,p5⟩:=k.ring i hi q e1;exact⟨e2,p2,p3,zr p4 ch.nx,zr p5 ch.nx⟩
 .show VI h' t.wv x'.waiting/\(x'.waiting≠[]->_);rw[fC];refine⟨k.wait.1.keep2 ch.nx fun hl z hz=>?_,fun hl z hz=>⟨(k.wait.2 hl z hz).1,zr (k.wait.2 hl z hz).2 ch.nx⟩⟩;have:=(k.wait.2 hl z hz).1;exact hg z om om
theorem WF.upd(a:WF h w s ow f l now tb no){n:Nat}{t:WX}{x':Wi}(ht:l[n]?=some t)(u:Upd t.wb (x'.obj t.r0 t.r1 t.wv) h h')(fC:x'.waiting=t.x.waiting)(hc:x'.cap=t.x.cap)(hr:∀k,k=0\/k=1->(x'.e k).ring=(t.x.e k).ring):WF h' w s ow f (l.set n {t with x:=x'}) now tb no:=by
 have k:=a.ok n t ht;refine a.step ht (u.ch (B:=fun j=>j=t.wb) rfl) (fun j _ e=>by rw[e,k.ox];omega) u.self fC fun i hi q' f9=>?_;rw[hr i hi]at f9;obtain⟨p1,p2,p3,p4,p5⟩:=k.ring i hi q' f9;have k2:=k.ox;refine⟨q',f9,?_⟩;rw[hc];refine p1.keep (u.get _ fun e=>?_) (u.get _ fun e=>?_)
 .rw[e]at p2;omega
 .rw[e]at p3;omega
end
structure WW(h:H)(w s:Nat)(ow:Nat->Nat)(l:List WX)(now:Int)(t:Tb)(no:Option (Nat×Nat)):Prop where
 wf:WF h w s ow (fun i=>atS (wxs l) (i:Int)) l now t no
 fds:∀n k fd,AtW (wxs l) n k fd->0<=fd/\fd<=95
def Wi.SameFd(x y:Wi):Prop:= ∀k,k=0\/k=1->((y.e k).what=1↔(x.e k).what=1)/\((x.e k).what=1->(y.e k).fd=(x.e k).fd)
theorem Wi.SameFd.refl(x:Wi):x.SameFd x:=fun _ _=>⟨Iff.rfl,fun _=>rfl⟩
theorem Wi.SameFd.trans{x y z:Wi}(a:x.SameFd y)(b:y.SameFd z):x.SameFd z:=fun k hk=>⟨(b k hk).1.trans (a k hk).1,fun h=>by rw[(b k hk).2 ((a k hk).1.2 h),(a k hk).2 h]⟩
theorem jk3{ws:Ws}{n:Nat}{x y:Wi}(hx:ws[n]?=some x)(hs:x.SameFd y)(m k:Nat)(fd:Int):AtW (ws.set n y) m k fd↔AtW ws m k fd:=by
 unfold AtW;rw[zi];by_cases e:n=m
 .subst e;have d4:n<ws.length:=by
   rcases zx n ws.length with h|h
   .exact h
   .rw[zd h]at hx;cases hx
  rw[zD rfl,zD d4,hx];constructor
  .rintro⟨_,e0,hk,h1,h2⟩;cases e0;exact⟨x,rfl,hk,(hs k hk).1.1 h1,by rw[<- (hs k hk).2 ((hs k hk).1.1 h1),h2]⟩
  .rintro⟨_,e0,hk,h1,h2⟩;cases e0;exact⟨y,rfl,hk,(hs k hk).1.2 h1,by rw[(hs k hk).2 h1,h2]⟩
 .rw[zC e]
theorem jl3{ws ws':Ws}(h:∀n k fd,AtW ws' n k fd↔AtW ws n k fd)(fd:Int):atS ws' fd=atS ws fd:=by
 have e:AtW ws'=AtW ws:=by funext n k fd;exact propext (h n k fd)
 unfold atS;rw[e]
section
variable{h h':H}{w s:Nat}{ow:Nat->Nat}{l:List WX}{now:Int}{t:Tb}{no:Option (Nat×Nat)}
theorem WW.old(a:WW h w s ow l now t no)(o:Old h h'):WW h' w s ow l now t no:=⟨a.wf.old o,a.fds⟩
theorem WF.same{n:Nat}{x:Wi}{y:WX}(a:WF h' w s ow (fun i=>atS (wxs l) (i:Int)) (l.set n y) now t no)(fds:∀n k fd,AtW (wxs l) n k fd->0<=fd/\fd<=95)(hx:(wxs l)[n]?=some x)(hs:x.SameFd y.x):WW h' w s ow (l.set n y) now t no:=by
 have d7:=jk3 hx hs;refine⟨a.congr fun j _=>by rw[jbl,jl3 d7],fun m k fd hm=>fds m k fd ?_⟩;rw[jbl]at hm;exact (d7 m k fd).1 hm
end
def WSt(h:H)(w s:Nat)(ow:Nat->Nat)(ws:Ws)(now:Int)(t:Tb)(no:Option (Nat×Nat)):Prop:= ∃l,WW h w s ow l now t no/\wxs l=ws
structure To(h h':H)(ow ow':Nat->Nat):Prop where
 ch:Ch (fun j=>ow j≠0) h h'
 tag:∀j,j<h.nx->ow' j=ow j
theorem To.refl(h:H)(ow:Nat->Nat):To h h ow ow:=⟨Zr _ _,fun _ _=>rfl⟩
theorem To.trans{h h1 h2:H}{a b c:Nat->Nat}(x:To h h1 a b)(y:To h1 h2 b c):To h h2 a c:=
 ⟨x.ch.trans_new y.ch fun j hj hb=>by rw[x.tag j hj]at hb;exact hb,fun j hj=>by rw[y.tag j (zr hj x.ch.nx),x.tag j hj]⟩
theorem To.old{h h1 h2:H}{a b:Nat->Nat}(x:Old h h1)(y:To h1 h2 a b):To h h2 a b:=To.trans ⟨x.ch,fun _ _=>rfl⟩ y
theorem To.of_old{h h1:H}{a:Nat->Nat}(x:Old h h1):To h h1 a a:=⟨x.ch,fun _ _=>rfl⟩
theorem WSt.old{h h':H}{w s:Nat}{ow:Nat->Nat}{ws:Ws}{now:Int}{t:Tb}{no:Option (Nat×Nat)}(a:WSt h w s ow ws now t no)(o:Old h h'):WSt h' w s ow ws now t no:=by
 obtain⟨l,a,e⟩:=a;exact⟨l,a.old o,e⟩
abbrev ZA:=@To.of_old
noncomputable def jay(ws:Ws)(fd:Int):(Int×Int×Int)×Ws:=
 jcd ws fd ((0,0,110),ws) fun n _ x=>if x.backlog=0 then ((0,0,111),ws) else match x.waiting with
  |[]=>((0,0,113),ws)
  |m::rest=>match jav ws 96 with
   |[]=>((0,0,112),ws)
   |f::_=>match (ws.set n {x with waiting:=rest})[m.toNat]? with
    |none=>((0,0,112),ws)
    |some y=>((f,m,0),(ws.set n {x with waiting:=rest}).set m.toNat (y.put 0 {y.e 0 with what:=1,fd:=f}))
def RX.setw(r:RX)(v:V)(wt:List Int):RX:= {r with x:= {r.x with waiting:=wt},vw:=v}
theorem RX.setw_cells(r:RX)(v:V)(wt:List Int):(r.setw v wt).cells=r.cells.set 19 v:=by
 obtain⟨⟨e0,e1,cap,rs,bl,w⟩,v0,v1,vw⟩:=r;simp[RX.setw,RX.cells,En.rcells]
theorem ROk.setw{h:H}{rw q:Nat}{r:RX}{v:V}{wt:List Int}(a:ROk h rw q r)(hv:VI h v wt)(hz:∀z,v.at?=some z->z≠q/\z≠rw/\z<h.nx):ROk h rw q (r.setw v wt):=
 ⟨fun k hk=>by have:=a.b k hk;rcases hk with rfl|rfl<;>exact this,hv,hz⟩
theorem RX.fd_cells{r:RX}{k:Nat}{w:Int}(hk:k=0\/k=1):(({r with x:=r.x.put k {r.x.e k with fd:=w}}:RX)).cells=r.cells.set (k*8+1) (.i w):=by
 obtain⟨⟨e0,e1,cap,rs,bl,wt⟩,v0,v1,vw⟩:=r;rcases hk with rfl|rfl<;>simp[Wi.put,Wi.e,RX.cells,En.rcells]
section
variable{call:Call}{fuel base:Nat}{ops:List Ins}{keep:List Nat}{K:List Fr}{e:Env}{h:H}{Q:Post}{ix:Nat}{dst at_:Option Nat}
theorem Ops.icut_l{x lo:Opd}{v:V}{l:List Int}{m:Nat}(hx:x.ev e=some v)(hv:VI h v l)(wE:lo.ev e=some (.i (m:Int)))(hm:m<=l.length)
  (k:∀v',VI h v' (l.drop m)->(∀z,v'.at?=some z->v.at?=some z)->Ops call fuel base ops keep K (layv e dst v') h Q):Ops call fuel base (⟨ix,dst,.slice 1 x (some lo) none none,none,at_,[]⟩::ops) keep K e h Q:=by
 obtain⟨a,c,rfl,n,f,g⟩:=hv;cases a with
 |none=>
  obtain⟨rfl,rfl⟩:=n rfl;obtain rfl:m=0:=by simpa using hm
  refine zau (v:= .nils) rfl ?_ (k .nils (VI.nil h) fun z hz=>by cases hz);simp only[I.pure,hx,evo,wE];rfl
 |some p=>
  obtain⟨b,o⟩:=p;refine Ops.slice_l hx wE hm f (k _ ⟨some (b,o+m*1),c.less m,by simp,fun e=>by (cases e),by simpa using ji2 f hm,fun hl=>?_⟩ fun z hz=>hz);obtain⟨b',o',cs,ro,e0,h1,h2,h3⟩:=g (by rintro rfl;simp at hl);cases e0;refine⟨b,o+m*1,cs,ro,rfl,h1,h2,fun i x hi=>?_⟩;rw[zm]at hi;rw[show o+m*1+i=o+(m+i) by omega];exact h3 _ _ hi
end
section
variable{cl:Nat->Call}(Z:Sem cl)
include Z
theorem rq_Accept{d rw q:Nat}{h:H}{l:List RX}{tl:List V}{fd:Int}(hd:3<=d)(w:RW h rw q l tl)(o:WsOk (l.map RX.x)) :
  ∃l' h',cl d (.fn 34) [.p rw 0,.i fd] h=some (.tup [.i (jay (l.map RX.x) fd).1.1,.i (jay (l.map RX.x) fd).1.2.1,.i (jay (l.map RX.x) fd).1.2.2],h')/\RW h' rw q l' tl/\l'.map RX.x=(jay (l.map RX.x) fd).2/\Ch (RC rw q) h h':=by
 suffices s:∃v' h',cl d (.fn 34) [.p rw 0,.i fd] h=some (v',h')/\∃l',v' = .tup [.i (jay (l.map RX.x) fd).1.1,.i (jay (l.map RX.x) fd).1.2.1,.i (jay (l.map RX.x) fd).1.2.2]/\RW h' rw q l' tl/\l'.map RX.x=(jay (l.map RX.x) fd).2/\Ch (RC rw q) h h' by
  obtain⟨_,h',e,l',rfl,p⟩:=s;exact⟨l',h',e,p⟩
 refine aT Z ?_;rcases jdQ Z (d:=d-1) (fd:=fd) om w o with⟨j5,ea⟩|⟨n,k,r,d7,hr,hk,ea⟩
 .have hS:jay (l.map RX.x) fd=((0,0,110),l.map RX.x):=jaD j5;rw[hS];refine Ga ?_;exact⟨l,rfl,w,rfl,Zr _ _⟩
 obtain⟨hw,hq,d5⟩:=w.rat hr;have hn:=r_lt hr;have q1:=jid hr;have q2:=jmL hr;have hS:jay (l.map RX.x) fd=_:=jaA o.uniq d7 (jaN hr);by_cases iE:r.x.backlog=0
 .rw[zD iE]at hS;rw[hS];refine Ga ?_;exact⟨l,rfl,w,rfl,Zr _ _⟩
 rw[zC iE]at hS;have uA:=(w.rok hr).w.1;have nP:=(w.rok hr).w.2;have fC:=(o.wait _ (zc (jaN hr))).2;obtain⟨a,c,aA,_⟩:=id uA;rw[aA]at q2 uA;cases hL:r.x.waiting with
 |nil=>
  simp only[hL]at hS;rw[hS];rw[hL]at q2;have q2:(rows l)[0+(n:Int).toNat*20+19]?=some (V.slice a 0 c):=q2;refine Ga ?_;exact⟨l,rfl,w,rfl,Zr _ _⟩
 |cons m rest=>
  simp only[hL]at hS;rw[hL]at q2 uA fC;have gY:¬(((m::rest:List Int).length:Nat):Int)=0:=by simp;omega
  obtain⟨vf,g,ef,pf,old,zf⟩:=joD Z (d:=d-1) om w o;have wg:=w.old old;obtain⟨af,cf,rfl,_⟩:=id pf;cases hF:jav (l.map RX.x) 96 with
  |nil=>
   simp only[hF]at hS;rw[hS];rw[hF]at ef;have ef:cl (d-1) (.fn 75) [.p rw 0] h=some (.slice af 0 cf,g):=ef;clear fC uA nP;refine Ga ?_;exact⟨l,rfl,wg,rfl,old.ch⟩
  |cons f fs=>
   simp only[hF]at hS;rw[hF]at ef pf;have iR:¬(((f::fs:List Int).length:Nat):Int)=0:=by simp;omega
   obtain⟨oP,oY,_⟩:=wg.rat hr;have bV:VI g (.slice a (m::rest).length c) (m::rest):=uA.keep old.1 fun z hz=>old.2 z (nP z (by rw[aA,hL];exact hz)).2.2;obtain⟨b,of,cs,ro,rfl,lA,aD⟩:=bV.cell (i:=0) (x:=m) rfl;obtain⟨bf,off,csf,rof,rfl,pP,Ud⟩:=pf.cell (i:=0) (x:=f) rfl;obtain⟨y,m0,hy,_⟩:=fC m Zd;obtain⟨j,rfl⟩:=zz m0;have nC:j<l.length:=by
    rcases zx j l.length with h1|h1
    .exact h1
    .rw[zd (by simpa using h1)]at hy;cases hy
   have pY:bf≠q:=by have:=zf bf rfl;have:=w.lq;omega
   have eF:bf≠rw:=by have:=zf bf rfl;have:=w.lw;omega
   have fD:b≠q/\b≠rw:=by
    have:=nP b (by rw[aA];rfl);exact⟨this.1,this.2.1⟩
   have main:∀v',VI g v' rest->(∀z,v'.at?=some z->(V.slice (some (b,of)) ((j:Int)::rest).length c).at?=some z) -> ∃(s:RX),
     (l.set n (r.setw v' rest))[j]?=some s/\RW (g.set q (.cells (rows (l.set n (r.setw v' rest))) false)) rw q (l.set n (r.setw v' rest)) tl:=by
    intro v' jF iA;have ok':=(wg.rok hr).setw jF fun z hz=>by
     have tG:=nP z (by rw[aA,hL];exact iA z hz);exact⟨tG.1,tG.2.1,zr tG.2.2 old.1⟩
    exact⟨_,za (by simpa using nC),wg.set hr Zt ok'⟩
   clear fC hy m0 uA nP w;refine Ga ?_;refine Ops.icut_l (m:=1) rfl bV rfl Zd fun v' jF iA=>?_;obtain⟨s,hs,w1⟩:=main v' jF iA;have j4:0+(n:Int).toNat*20+19<(rows l).length:=by rw[ja1];omega
   refine Ga ?_;refine zcs rfl rfl jF.one oY j4 ?_;rw[jeW hr om (RX.setw_cells r v' rest) om];have tD:(l.map RX.x).set n {r.x with waiting:=rest} = (l.set n (r.setw v' rest)).map RX.x:=by rw[map_set];rfl
   rw[tD,zw,jaN hs]at hS;simp only at hS;rw[hS];have c1:Ch (RC rw q) h (g.set q (.cells (rows (l.set n (r.setw v' rest))) false)):=old.ch.trans (Zs (.inl rfl));have cV:(g.set q (.cells (rows (l.set n (r.setw v' rest))) false)).get bf=some (.cells csf rof):=by rw[jaa pY,pP]
   clear hw hq ea ef hS tD main bV lA pP oP oY hr jF iA wg old j4 o hn;generalize g.set q (.cells (rows (l.set n (r.setw v' rest))) false)=g1 at w1 c1 cV ⊢;generalize l.set n (r.setw v' rest)=l1 at w1 hs ⊢;obtain⟨l9,pD,_⟩:=w1.rat hs;have uG:=r_lt hs;have pN:0+(j:Int).toNat*20+0+Int.toNat 0*8+0<(rows l1).length:=by rw[ja1];omega
   have e1:=jiM (f:=0) (o:=0+(j:Int).toNat*20+0+Int.toNat 0*8+0) hs (.inl rfl) om (RX.what_cells (r:=s) (k:=0) (w:=1) (.inl rfl)) Zd;have u2:Upd q (.cells (rows (l1.set j {s with x:=s.x.put 0 {s.x.e 0 with what:=1}})) false) g1 (g1.set q (.cells (rows (l1.set j {s with x:=s.x.put 0 {s.x.e 0 with what:=1}})) false)):=Zt;have w2:=w1.set hs u2 ((w1.rok hs).put (e:= {s.x.e 0 with what:=1}) (.inl rfl) rfl);have c2:=c1.trans (u2.ch (.inl rfl));have cD:=get_set (r':=({s with x:=s.x.put 0 {s.x.e 0 with what:=1}}:RX)) hs;refine Ga ?_;refine zcs rfl rfl rfl pD pN ?_;rw[e1];have Vd:(g1.set q (.cells (rows (l1.set j {s with x:=s.x.put 0 {s.x.e 0 with what:=1}})) false)).get bf=some (.cells csf rof):=by rw[jaa pY,cV]
   have qN:(l1.map RX.x).set j (s.x.put 0 {s.x.e 0 with what:=1,fd:=f})=((l1.set j {s with x:=s.x.put 0 {s.x.e 0 with what:=1}}).set j {s with x:=s.x.put 0 {s.x.e 0 with what:=1,fd:=f}}).map RX.x:=by rw[set_set,map_set]
   rw[qN];have qY:({s with x:=s.x.put 0 {s.x.e 0 with what:=1,fd:=f}}:RX)=(fun t:RX=>({t with x:=t.x.put 0 {t.x.e 0 with fd:=f}}:RX)) ({s with x:=s.x.put 0 {s.x.e 0 with what:=1}}:RX):=rfl;rw[qY];clear qN qY e1 u2 cV pD l9 pN c1 w1;generalize g1.set q (.cells (rows (l1.set j {s with x:=s.x.put 0 {s.x.e 0 with what:=1}})) false)=g2 at w2 c2 Vd ⊢;generalize l1.set j ({s with x:=s.x.put 0 {s.x.e 0 with what:=1}}:RX)=l2 at w2 cD ⊢;generalize ({s with x:=s.x.put 0 {s.x.e 0 with what:=1}}:RX)=s2 at cD ⊢;clear hs uG;obtain⟨qA,iD,_⟩:=w2.rat cD;have uG:=r_lt cD;have pN:0+(j:Int).toNat*20+0+Int.toNat 0*8+1<(rows l2).length:=by rw[ja1];omega
   have e1:=jiM (f:=1) (o:=0+(j:Int).toNat*20+0+Int.toNat 0*8+1) cD (.inl rfl) om (RX.fd_cells (r:=s2) (k:=0) (w:=f) (.inl rfl)) Zd;have u3:Upd q (.cells (rows (l2.set j {s2 with x:=s2.x.put 0 {s2.x.e 0 with fd:=f}})) false) g2 (g2.set q (.cells (rows (l2.set j {s2 with x:=s2.x.put 0 {s2.x.e 0 with fd:=f}})) false)):=Zt;have w3:=w2.set cD u3 ((w2.rok cD).put (e:= {s2.x.e 0 with fd:=f}) (.inl rfl) rfl);have c3:=c2.trans (u3.ch (.inl rfl));refine Ga ?_;refine zcs rfl rfl rfl iD pN ?_;rw[e1];refine Ga ?_;exact⟨_,rfl,w3,rfl,c3⟩
end
section
variable{call:Call}{fuel base:Nat}{ops:List Ins}{keep:List Nat}{K:List Fr}{e:Env}{h:H}{Q:Post}{ix:Nat}{dst:Option Nat}
theorem Ops.bslice1_at{sz b:Nat}{x:Opd}{xv:V}{zero new:List V}(hx:x.ev e=some xv)(mB:xv.cells=new)(hl:new.length=sz)(eP:zero.length=sz)
  (k:Ops call fuel base ops keep K (layv e dst (.slice (some (base+b,0)) 1 (.fix 1))) (h.set (base+b) (.cells new false)) Q) :
  Ops call fuel base (⟨ix,dst,.bslice sz 1 zero [(0,x)],none,some b,[]⟩::ops) keep K e h Q:=by
 have hf:jaF zero [(0*sz,sz,xv)]=some new:=by
  have e1:(xv.cells.length == sz&&Nat.ble (0*sz+sz) zero.length)=true:=by simp[mB,hl,eP]
  simp only[jaF];rw[e1,cond_true,mB,Nat.zero_mul,jcn _ _ om]
 refine Ops.make_at (ob:= .cells new false) (mk:=fun b=>.slice (some (b,0)) 1 (.fix 1)) rfl ?_ k;simp only[I.make,jb2,List.map,hx,hf]
theorem Ops.app1{N sz bytes n q':Nat}{s y:Opd}{sv:V}{cs new:List V}{cap:Cap}(hs:s.ev e=some sv)(hy:y.ev e=some (.slice (some (q',0)) 1 cap))(r:Row N h sz sv n cs)(hN:N<=h.nx)(hq:h.get q'=some (.cells new false))(hl:new.length=sz)(h1:new.all V.one=true)(hz:1<=sz)
  (hb:(n+1)*bytes<=2 ^ 46) (hn:n+1<=2 ^ 46) (d5:sv.at?≠some q')
  (k:∀h',Row N h' sz (.slice (some (h.nx,0)) (n+1) (.grow sz)) (n+1) (cs++new)->h.nx<h'.nx->(∀j,j<h.nx->sv.at?≠some j->h'.get j=h.get j)->Ops call fuel base ops keep K (layv e dst (.slice (some (h.nx,0)) (n+1) (.grow sz))) h' Q) :
  Ops call fuel base (⟨ix,dst,.append sz bytes s y,none,none,[]⟩::ops) keep K e h Q:=by
 obtain⟨v',h',e1,e2,e3,e4,e5⟩:=jfj (bytes:=bytes) (cap:=cap) r hN hq hl h1 hz hb hn d5;have hv:v' = .slice (some (h.nx,0)) (n+1) (.grow sz)/\h.nx<h'.nx:=by
  rcases e2 with⟨h0,_⟩|⟨b,b1,b2,b3,_⟩
  .omega
  .rw[b3]at e4;cases e4;exact⟨b3,b2⟩
 obtain⟨rfl,d4⟩:=hv;exact Ops.step (Zp rfl (by simp only[I.eff,hs,hy,e1])) (k h' e2 d4 e5)
theorem Ops.icut_h{x hi:Opd}{v:V}{l:List Int}{m:Nat}{at_:Option Nat}(hx:x.ev e=some v)(hv:VI h v l)(xE:hi.ev e=some (.i (m:Int)))(hm:m<=l.length)
  (k:∀v',VI h v' (l.take m)->(∀z,v'.at?=some z->v.at?=some z)->Ops call fuel base ops keep K (layv e dst v') h Q):Ops call fuel base (⟨ix,dst,.slice 1 x none (some hi) none,none,at_,[]⟩::ops) keep K e h Q:=by
 obtain⟨a,c,rfl,n,f,g⟩:=hv;have uD:(l.take m).length=m:=by simp;omega
 cases a with
 |none=>
  obtain⟨rfl,rfl⟩:=n rfl;obtain rfl:m=0:=by simpa using hm
  refine zau (v:= .nils) rfl ?_ (k .nils (VI.nil h) fun z hz=>by cases hz);simp only[I.pure,hx,evo,xE];rfl
 |some p=>
  obtain⟨b,o⟩:=p;refine Ops.slice_h hx xE hm f (k _ ⟨some (b,o),c,by rw[uD],fun e=>by (cases e),by rw[uD];exact jmi f hm,fun hl=>?_⟩ fun z hz=>hz);obtain⟨b',o',cs,ro,e0,h1,h2,h3⟩:=g (by rintro rfl;simp at hl);cases e0;refine⟨b,o,cs,ro,rfl,h1,h2,fun i x hi=>h3 _ _ ?_⟩;rw[zN]at hi;by_cases hc:i<m
  .rwa[zD hc]at hi
  .rw[zC hc]at hi;cases hi
end
theorem RW.row{h:H}{rw q:Nat}{l:List RX}{tl:List V}(w:RW h rw q l tl):∃v,h.get rw=some (.cells (v::tl) false)/\Row 0 h 20 v l.length (rows l)/\(∀z,v.at?=some z->z=q)/\v.one=true:=by
 by_cases hl:l=[]
 .subst hl;exact⟨.nils,w.nil rfl,Row.nil _ _ _,fun z hz=>by (cases hz),rfl⟩
 .have a:=w.at_ hl;exact⟨_,a.hw,.inr ⟨q,by omega,w.lq,rfl,a.hq,ja1 l⟩,fun z hz=>by cases hz;rfl,rfl⟩
def RX.fresh(x:Wi):RX:=⟨x,.nils,.nils,.nils⟩
structure Fresh(x:Wi):Prop where
 r0:x.e0.ring.getD []=[]
 r1:x.e1.ring.getD []=[]
 wt:x.waiting=[]
theorem ROk.fresh{h:H}{rw q:Nat}{x:Wi}(f:Fresh x):ROk h rw q (RX.fresh x):=by
 refine⟨fun k hk=>?_,by rw[show (RX.fresh x).x.waiting=[] from f.wt];exact VI.nil h,fun z hz=>by cases hz⟩;rcases hk with rfl|rfl
 .exact⟨by rw[show ((RX.fresh x).x.e 0).ring.getD []=[] from f.r0];exact VB.nil h,fun z hz=>by cases hz⟩
 .exact⟨by rw[show ((RX.fresh x).x.e 1).ring.getD []=[] from f.r1];exact VB.nil h,fun z hz=>by cases hz⟩
theorem RW.push{h h1:H}{rw q q':Nat}{l:List RX}{tl:List V}{x:Wi}(w:RW h rw q l tl)(f:Fresh x)(lF:h1.get q'=some (.cells (rows l++(RX.fresh x).cells) false))(hn:h.nx<=q')(hx:q'<h1.nx)
  (hk:∀j,j<h.nx->j≠q->h1.get j=h.get j) :
  RW (h1.set rw (.cells (.slice (some (q',0)) (l.length+1) (.grow 20)::tl) false)) rw q' (l++[RX.fresh x]) tl/\Ch (RC rw q) h (h1.set rw (.cells (.slice (some (q',0)) (l.length+1) (.grow 20)::tl) false)):=by
 have lw:=w.lw;have lq:=w.lq;have ch:Ch (RC rw q) h (h1.set rw (.cells (.slice (some (q',0)) (l.length+1) (.grow 20)::tl) false)):=
  ⟨by show h.nx<=h1.nx;omega,fun j hj hn=>by rw[jaa (fun e=>hn (.inr e)),hk j hj (fun e=>hn (.inl e))]⟩
 refine⟨⟨by show rw<h1.nx;omega,by show q'<h1.nx;omega,by omega,fun _=>⟨by rw[jab];simp,by rw[jaa om,lF,jlQ];simp[rows],by omega⟩,fun e=>by simp at e,fun s hs=>?_⟩,ch⟩;rcases zO.1 hs with h2|h2
 .have a:=w.ok s h2;have b:=a.keep ch;refine⟨fun k hk=>⟨(b.b k hk).1,fun z hz=>?_⟩,b.w.1,fun z hz=>?_⟩
  .have p:=(a.b k hk).2 z hz;exact⟨by omega,p.2.1,by show z<h1.nx;omega⟩
  .have p:=a.w.2 z hz;exact⟨by omega,p.2.1,by show z<h1.nx;omega⟩
 .obtain rfl:s=RX.fresh x:=by simpa using h2
  exact ROk.fresh f
section
variable{cl:Nat->Call}(Z:Sem cl)
include Z
theorem mk_end{E:Env}{d rw q bx ends:Nat}{g:H}{l:List RX}{tl:List V}{vf:V}{fl:List Int}{x:Wi}(w:RW g rw q l tl)(f:Fresh x)(aE:g.get bx=some (.cells (RX.fresh x).cells false))(hl:l.length<=1000)(hf:VI g vf fl)(he:ends<=fl.length)
  (Wd:∀z,vf.at?=some z->z≠q/\z≠rw/\z<g.nx) :
  Run (cl (d-1)) fuel c31_2 [] ((0,.p rw 0)::(8,.i (ends:Int))::(9,vf)::(10,.p bx 0)::E) g
   (Fin c31.res fun v h'=>∃v' q',v = .tup [v',.i 0]/\VI h' v' (fl.take ends)/\RW h' rw q' (l++[RX.fresh x]) tl/\Ch (RC rw q) g h'/\g.nx<=q'):=by
 obtain⟨v,hw,row,aM,m9⟩:=w.row;have l9:(g.reserve 1).get rw=_:=hw;have dV:(g.reserve 1).get bx=_:=aE;refine zab (Zo ?_);refine Ga ?_;refine zcw rfl dV (by rw[RX.len];omega) ?_;rw[zk,zh (by rw[RX.len];omega)];refine Ops.bslice1_at (new:=(RX.fresh x).cells) rfl rfl (RX.len _) rfl ?_;have hG:((g.reserve 1).set (g.nx+0) (.cells (RX.fresh x).cells false)).nx=g.nx+1:=rfl;have uK:((g.reserve 1).set (g.nx+0) (.cells (RX.fresh x).cells false)).get (g.nx+0)=some (.cells (RX.fresh x).cells false):=jab _;have kG:∀j,j<g.nx->((g.reserve 1).set (g.nx+0) (.cells (RX.fresh x).cells false)).get j=g.get j:=fun j hj=>by rw[jaa om];rfl
 generalize (g.reserve 1).set (g.nx+0) (.cells (RX.fresh x).cells false)=G at hG uK kG ⊢;have lq:=w.lq;have lw:=w.lw;have rowG:Row 0 G 20 v l.length (rows l):=row.keep om fun z hz=>kG z (by have:=aM z hz;omega);refine Ops.app1 (N:=0) rfl rfl rowG (zY _) uK (RX.len _) (RX.cells_one (r:=RX.fresh x) rfl rfl rfl) om om om (fun e=>by have:=aM _ e;omega) fun h1 lC d4 hk=>?_;have w6:∀j,j<g.nx->j≠q->h1.get j=g.get j:=fun j hj hn=>by rw[hk j om (fun e=>hn (aM j e)),kG j hj]
 have lF:h1.get G.nx=some (.cells (rows l++(RX.fresh x).cells) false):=by
  rcases lC with⟨h0,_⟩|⟨b,_,_,e,h4,_⟩
  .omega
  .cases e;exact h4
 obtain⟨w2,c2⟩:=w.push f lF om d4 w6;have qA:h1.get rw=some (.cells (v::tl) false):=by rw[w6 rw lw w.ne,hw]
 have qP:VI (h1.set rw (.cells (.slice (some (G.nx,0)) (l.length+1) (.grow 20)::tl) false)) vf fl:=hf.keep (by show g.nx<=h1.nx;omega) fun z hz=>by
  have p:=Wd z hz;rw[jaa p.2.1,w6 z p.2.2 p.1]
 refine Ga ?_;refine zcs rfl rfl rfl qA Zd ?_;refine Ga ?_;refine Ops.icut_h rfl qP rfl he fun v2 wA _=>?_;refine Ga ?_;exact⟨v2,_,rfl,wA,w2,c2,by omega⟩
end
def newW(kind n f0 f1:Int):Wi:=
 if kind=0 then⟨⟨1,f0,some [],false,false,0,0⟩,⟨1,f1,none,true,false,0,0⟩,n.toNat,false,0,[]⟩
 else if kind=1 then⟨⟨1,f0,some [],true,false,0,0⟩,⟨1,f1,some [],true,false,0,0⟩,n.toNat,false,0,[]⟩
 else if kind=2 then⟨⟨1,f0,some [],true,false,0,0⟩,⟨2,0,some [],true,false,0,0⟩,n.toNat,false,0,[]⟩
 else⟨⟨1,f0,none,false,false,0,0⟩,⟨0,0,none,false,false,0,0⟩,n.toNat,false,n,[]⟩
theorem jfc(kind n f0 f1:Int):Fresh (newW kind n f0 f1):=by
 unfold newW;split<;>(try split)<;>(try split)<;>exact⟨rfl,rfl,rfl⟩
noncomputable def jag(ws:Ws)(kind n:Int):(List Int×Int)×Ws:=
 if n<1\/65536<n\/(kind=3/\64<n) then (([],2),ws)
 else match jav ws 96 with
  |[]=>(([],112),ws)
  |f0::fs=>if (fs=[]/\kind<2)\/1000<=ws.length then (([],112),ws)
   else (((f0::fs).take (if kind<2 then 2 else 1),0),ws++[newW kind n f0 (fs.headD 0)])
theorem Old.new{h h1:H}{o:Obj}(a:Old h h1):Old h (h1.new o):=a.trans ⟨by simp,fun _ hj=>jad hj⟩
theorem Old.set{h h1:H}{o:Obj}{b:Nat}(a:Old h h1)(hb:h.nx<=b):Old h (h1.set b o):=⟨a.1,fun j hj=>by rw[jaa om,a.2 j hj]⟩
theorem Run.opqh{call:Call}{fuel:Nat}{c:AC}{K:List Fr}{e:Env}{h:H}{Q:Post}(k:∀G,G=h->Run call fuel c K e G Q):Run call fuel c K e h Q:=k h rfl
section
variable{cl:Nat->Call}(Z:Sem cl)
include Z
theorem jjJ{d rw q:Nat}{h:H}{l:List RX}{tl:List V}{kind n:Int}(hd:3<=d)(hk:kind=0\/kind=1\/kind=2\/kind=3)(w:RW h rw q l tl)(o:WsOk (l.map RX.x)) :
  ∃v q' l' h',cl d (.fn 31) [.p rw 0,.i kind,.i n] h=some (.tup [v,.i (jag (l.map RX.x) kind n).1.2],h')/\VI h' v (jag (l.map RX.x) kind n).1.1/\RW h' rw q' l' tl/\l'.map RX.x=(jag (l.map RX.x) kind n).2/\Ch (RC rw q) h h'/\(q'=q\/h.nx<=q'):=by
 suffices s:∃v' h',cl d (.fn 31) [.p rw 0,.i kind,.i n] h=some (v',h')/\∃v q' l',v' = .tup [v,.i (jag (l.map RX.x) kind n).1.2]/\VI h' v (jag (l.map RX.x) kind n).1.1/\RW h' rw q' l' tl/\l'.map RX.x=(jag (l.map RX.x) kind n).2/\Ch (RC rw q) h h'/\(q'=q\/h.nx<=q') by
  obtain⟨_,h',e,v,q',l',rfl,p⟩:=s;exact⟨v,q',l',h',e,p⟩
 refine aT Z ?_;by_cases hb:n<1\/65536<n\/(kind=3/\64<n)
 .have hS:jag (l.map RX.x) kind n=(([],2),l.map RX.x):=zD hb;rw[hS]
  repeat' (first|refine qxy ?_|(refine zsp ?_ ?_<;>intro _)|fail)
  all_goals first|exact⟨_,q,l,rfl,VI.nil h,w,rfl,Zr _ _,.inl rfl⟩|(exfalso;omega)
 have hS:jag (l.map RX.x) kind n=_:=zC hb;have jC:1<=n:=by omega
 have cI:n<=65536:=by omega
 have eV:¬(kind=3/\64<n):=fun e=>hb (.inr (.inr e));clear hb;obtain⟨vf,g,ef,pf,old,zf⟩:=joD Z (d:=d-1) om w o;have wg:=w.old old;obtain⟨af,cf,rfl,_⟩:=id pf;obtain⟨aw,cw,oP,_⟩:=wg.head;have jE:(l.map RX.x).length=l.length:=by simp
 have wF:=o.len;rw[jE]at wF;obtain⟨C,hC⟩:∃C,C=c31_2:=⟨_,rfl⟩
 have oJ:∀(E:Env) (x:Wi) (ends bx:Nat) (G:H) (vv:V) (fl:List Int),Fresh x->RW G rw q l tl->G.get bx=some (.cells (RX.fresh x).cells false)->VI G vv fl->ends<=fl.length->(∀z,vv.at?=some z->z≠q/\z≠rw/\z<G.nx) ->
   Run (cl (d-1)) fuel C [] ((0,.p rw 0)::(8,.i (ends:Int))::(9,vv)::(10,.p bx 0)::E) G
   (Fin c31.res fun v h'=>∃v' q',v = .tup [v',.i 0]/\VI h' v' (fl.take ends)/\RW h' rw q' (l++[RX.fresh x]) tl/\Ch (RC rw q) G h'/\G.nx<=q'):=by
  intro E x ends bx G vv fl f w1 aE hv he hz;rw[hC];exact mk_end Z w1 f aE wF hv he hz
 simp only[c31,c31_12,c31_11,c31_10,c31_9,c31_8,c31_4,c31_3,yB,yH,yN];rw[<- hC];clear hC;cases hF:jav (l.map RX.x) 96 with
 |nil=>
  simp only[hF]at hS;rw[hS];rw[hF]at ef;have ef:cl (d-1) (.fn 75) [.p rw 0] h=some (.slice af 0 cf,g):=ef;clear pf oJ w;rcases hk with rfl|rfl|rfl|rfl
  all_goals
   repeat' (first|refine qxy ?_|(refine zsp ?_ ?_<;>intro _)|fail)
   exact⟨_,q,l,rfl,VI.nil _,wg,rfl,old.ch,.inl rfl⟩
 |cons f0 fs=>
  simp only[hF]at hS;rw[hF]at ef pf;obtain⟨bf,off,csf,rof,rfl,pP,Ud⟩:=pf.cell (i:=0) (x:=f0) rfl;have fI:(((f0::fs:List Int).length:Nat):Int)=(fs.length:Int)+1:=by simp
  by_cases bB:(fs=[]/\kind<2)\/1000<=(l.map RX.x).length
  .rw[zD bB]at hS;rw[hS];rw[jE]at bB;have fV:fs=[]->fs.length=0:=fun e=>by rw[e];rfl
   clear oJ;rcases hk with rfl|rfl|rfl|rfl
   all_goals
    rcases bB with⟨h1,h2⟩|h1
    .first
      |(exfalso;omega)
      |skip
     all_goals
      have h3:=fV h1
      repeat' (first|refine qxy ?_|(refine zsp ?_ ?_<;>intro _)|fail)
      all_goals first|exact⟨_,q,l,rfl,VI.nil _,wg,rfl,old.ch,.inl rfl⟩|(exfalso;omega)
    .repeat' (first|refine qxy ?_|(refine zsp ?_ ?_<;>intro _)|fail)
     all_goals first|exact⟨_,q,l,rfl,VI.nil _,wg,rfl,old.ch,.inl rfl⟩|(exfalso;omega)
  rw[zC bB]at hS;rw[jE]at bB;have j4:l.length<1000:=by omega
  have Kj:=zf bf rfl;obtain⟨nn,rfl⟩:=zz (show 0<=n by omega);have lq:=w.lq;have lw:=w.lw;rcases hk with rfl|rfl|rfl|rfl
  .cases fs with
   |nil=>exact zJ (.inl ⟨rfl,by omega⟩) bB
   |cons f1 fs=>
    obtain⟨_,_,_,_,e1,e2,Xd⟩:=pf.cell (i:=1) (x:=f1) rfl;cases e1;rw[pP]at e2;cases e2;have uB:∀G:H,Old g G->RW G rw q l tl/\VI G (.slice (some (bf,off)) (f0::f1::fs).length cf) (f0::f1::fs):=fun G oG=>⟨wg.old oG,pf.keep oG.1 fun z hz=>oG.2 z (by have:=zf z hz;omega)⟩
    clear wg hF bB w fI;refine qm ?_;refine Zw (n:=99999) rfl ?_;refine qm ?_;refine Zx ?_;refine qm ?_;refine Zx ?_;refine qm ?_;refine Zw (n:=99999) rfl ?_;refine qm ?_;refine Zx ?_;refine qm ?_;refine Zx ?_;refine qm ?_;refine Run.opqh fun G hG=>?_;have oG:Old g G:=by
     rw[hG]
     repeat (first|exact Zz _|refine Old.new ?_|refine Old.set ?_ (zq _))
    have sP:g.nx<G.nx:=by rw[hG];simp
    have aE:G.get g.nx=some (.cells (RX.fresh (newW 0 nn f0 f1)).cells false):=by
     rw[hG];exact jab _
    clear hG;obtain⟨w1,pv⟩:=uB G oG;have bM:jag (l.map RX.x) 0 nn=(((f0::f1::fs).take 2,0),l.map RX.x++[newW 0 nn f0 f1]):=hS;rw[bM];refine Zy (oJ _ (newW 0 nn f0 f1) 2 g.nx G _ (f0::f1::fs) (jfc _ _ _ _) w1 aE pv Zd fun z hz=>?_) ?_
    .have:=zf z hz;have:=w1.lq;have:=lq;have:=lw;have:=oG.1;omega
    .rintro v h2 ⟨v',q',rfl,p1,p2,p3,p4⟩;exact⟨v',q',_,rfl,p1,p2,by rw[List.map_append];rfl,(old.ch.trans oG.ch).trans p3,.inr (by have:=old.1;have:=oG.1;omega)⟩
  .cases fs with
   |nil=>exact zJ (.inl ⟨rfl,by omega⟩) bB
   |cons f1 fs=>
    obtain⟨_,_,_,_,e1,e2,Xd⟩:=pf.cell (i:=1) (x:=f1) rfl;cases e1;rw[pP]at e2;cases e2;have uB:∀G:H,Old g G->RW G rw q l tl/\VI G (.slice (some (bf,off)) (f0::f1::fs).length cf) (f0::f1::fs):=fun G oG=>⟨wg.old oG,pf.keep oG.1 fun z hz=>oG.2 z (by have:=zf z hz;omega)⟩
    clear wg hF bB w fI;refine qm ?_;refine Zw (n:=99999) rfl ?_;refine qm ?_;refine Zx ?_;refine qm ?_;refine Zx ?_;refine qm ?_;refine Zw (n:=99999) rfl ?_;refine qm ?_;refine Zx ?_;refine qm ?_;refine Zx ?_;refine qm ?_;refine Run.opqh fun G hG=>?_;have oG:Old g G:=by
     rw[hG]
     repeat (first|exact Zz _|refine Old.new ?_|refine Old.set ?_ (zq _))
    have sP:g.nx<G.nx:=by rw[hG];simp
    have aE:G.get g.nx=some (.cells (RX.fresh (newW 1 nn f0 f1)).cells false):=by
     rw[hG];exact jab _
    clear hG;obtain⟨w1,pv⟩:=uB G oG;have bM:jag (l.map RX.x) 1 nn=(((f0::f1::fs).take 2,0),l.map RX.x++[newW 1 nn f0 f1]):=hS;rw[bM];refine Zy (oJ _ (newW 1 nn f0 f1) 2 g.nx G _ (f0::f1::fs) (jfc _ _ _ _) w1 aE pv Zd fun z hz=>?_) ?_
    .have:=zf z hz;have:=w1.lq;have:=lq;have:=lw;have:=oG.1;omega
    .rintro v h2 ⟨v',q',rfl,p1,p2,p3,p4⟩;exact⟨v',q',_,rfl,p1,p2,by rw[List.map_append];rfl,(old.ch.trans oG.ch).trans p3,.inr (by have:=old.1;have:=oG.1;omega)⟩
  .·have uB:∀G:H,Old g G->RW G rw q l tl/\VI G (.slice (some (bf,off)) (f0::fs).length cf) (f0::fs):=fun G oG=>⟨wg.old oG,pf.keep oG.1 fun z hz=>oG.2 z (by have:=zf z hz;omega)⟩
    clear wg hF bB w;refine qm ?_;refine Zw (n:=99999) rfl ?_;refine qm ?_;refine Zx ?_;refine qm ?_;refine Zx ?_;refine qm ?_;refine Zw (n:=99999) rfl ?_;refine qm ?_;refine Zx ?_;refine qm ?_;refine Run.opqh fun G hG=>?_;have oG:Old g G:=by
     rw[hG]
     repeat (first|exact Zz _|refine Old.new ?_|refine Old.set ?_ (zq _))
    have sP:g.nx<G.nx:=by rw[hG];simp
    have aE:G.get g.nx=some (.cells (RX.fresh (newW 2 nn f0 (fs.headD 0))).cells false):=by
     rw[hG];exact jab _
    clear hG;obtain⟨w1,pv⟩:=uB G oG;have bM:jag (l.map RX.x) 2 nn=(((f0::fs).take 1,0),l.map RX.x++[newW 2 nn f0 (fs.headD 0)]):=hS;rw[bM];refine Zy (oJ _ (newW 2 nn f0 (fs.headD 0)) 1 g.nx G _ (f0::fs) (jfc _ _ _ _) w1 aE pv Zd fun z hz=>?_) ?_
    .have:=zf z hz;have:=w1.lq;have:=lq;have:=lw;have:=oG.1;omega
    .rintro v h2 ⟨v',q',rfl,p1,p2,p3,p4⟩;exact⟨v',q',_,rfl,p1,p2,by rw[List.map_append];rfl,(old.ch.trans oG.ch).trans p3,.inr (by have:=old.1;have:=oG.1;omega)⟩
  .·have uB:∀G:H,Old g G->RW G rw q l tl/\VI G (.slice (some (bf,off)) (f0::fs).length cf) (f0::fs):=fun G oG=>⟨wg.old oG,pf.keep oG.1 fun z hz=>oG.2 z (by have:=zf z hz;omega)⟩
    clear wg hF bB w;refine qm ?_;refine Zw (n:=99999) rfl ?_;refine qm ?_;refine Zx ?_;refine qm ?_;refine Zx ?_;refine qm ?_;refine Zw (n:=99999) rfl ?_;refine qm ?_;refine Zx ?_;refine qm ?_;refine Run.opqh fun G hG=>?_;have oG:Old g G:=by
     rw[hG]
     repeat (first|exact Zz _|refine Old.new ?_|refine Old.set ?_ (zq _))
    have sP:g.nx<G.nx:=by rw[hG];simp
    have aE:G.get g.nx=some (.cells (RX.fresh (newW 3 nn f0 (fs.headD 0))).cells false):=by
     rw[hG];exact jab _
    clear hG;obtain⟨w1,pv⟩:=uB G oG;have bM:jag (l.map RX.x) 3 nn=(((f0::fs).take 1,0),l.map RX.x++[newW 3 nn f0 (fs.headD 0)]):=hS;rw[bM];refine Zy (oJ _ (newW 3 nn f0 (fs.headD 0)) 1 g.nx G _ (f0::fs) (jfc _ _ _ _) w1 aE pv Zd fun z hz=>?_) ?_
    .have:=zf z hz;have:=w1.lq;have:=lq;have:=lw;have:=oG.1;omega
    .rintro v h2 ⟨v',q',rfl,p1,p2,p3,p4⟩;exact⟨v',q',_,rfl,p1,p2,by rw[List.map_append];rfl,(old.ch.trans oG.ch).trans p3,.inr (by have:=old.1;have:=oG.1;omega)⟩
end
theorem Old.ofCh{h h':H}(c:Ch (fun _=>False) h h'):Old h h':=⟨c.nx,fun j hj=>c.get j hj id⟩
theorem jdq{l:List WX}{n:Nat}{t:WX}(h:l[n]?=some t):l≠[]:=by rintro rfl;simp at h
theorem jda{l:List WX}{n:Nat}{t:WX}(h:l[n]?=some t):(wps l)[n]?=some (.p t.wb 0):=by simp[h]
section
variable{h h':H}{w s:Nat}{ow:Nat->Nat}{f:Nat->Option (Nat×Nat)}{l:List WX}{now:Int}{tb:Tb}{no:Option (Nat×Nat)}
theorem WF.wat(a:WF h w s ow f l now tb no)(hl:l≠[]):∃z c,WAt h w (wc f (.slice (some (z,0)) l.length c) s now no) s z l.length c (wps l)/\z<h.nx/\ow z=2:=by
 obtain⟨sa,c,p1,p2⟩:=a.head;obtain⟨z,rfl,p3,p4,p5⟩:=p2 hl;exact⟨z,c,⟨p1,jdZ rfl,jaR rfl,p5⟩,p3,p4⟩
theorem WW.fdat(a:WW h w s ow l now tb no)(u:Uniq (wxs l)){n k m:Nat}{t:WX}(d7:AtW (wxs l) n k (m:Int))(ht:l[n]?=some t){wv:V}:FdAt (wc (fun i=>atS (wxs l) (i:Int)) wv s now no) (wps l) l.length m n k t.wb:=by
 have hm:=a.fds n k m d7;have e:=jdA u d7;obtain⟨_,_,hk⟩:=jpX d7;have c0:∀j,j<3->(wc (fun i=>atS (wxs l) (i:Int)) wv s now no)[m*3+j]?=some (pc (some (n,k)) j):=fun j hj=>by
  rw[jqm (i:=m) (j:=j) om hj rfl];show some (pc (atS (wxs l) (m:Int)) j)=_;rw[e]
 exact⟨by omega,c0 0 om,c0 1 om,c0 2 om,x_lt ht,jda ht,hk⟩
end
section
variable{cl:Nat->Call}(Z:Sem cl){h:H}{w s:Nat}{ow:Nat->Nat}{f:Nat->Option (Nat×Nat)}{l:List WX}{now:Int}{tb:Tb}{no:Option (Nat×Nat)}
include Z
theorem jbK{d:Nat}(hd:1<=d)(a:WF h w s ow f l now tb no):cl d (.fn 74) [.p w 0] h=some (.bool false,h):=by
 obtain⟨sa,c,p1,_⟩:=a.head;exact jlA Z hd p1 (jdZ rfl)
theorem jnl{d:Nat}{fd:Int}(hd:2<=d)(a:WW h w s ow l now tb no)(j5:∀n k,¬AtW (wxs l) n k fd) :
  ∃h',cl d (.fn 76) [.p w 0,.i fd] h=some (.tup [.agg [.bool false,.i 0,.i 0],.ptr none,.i 110],h')/\Old h h'/\h'.nx=h.nx+1:=by
 have o1:Old h (h.new (.cells [.bool false,.i 0,.i 0] false)):=(Zz h).new;have hn:=jbK Z (d:=d-1) om (a.wf.old o1);obtain⟨sa,c,hw,_⟩:=(a.wf.old o1).head;refine jae (aT Z ?_);refine qo ?_;refine zcu rfl rfl ?_;by_cases h1:fd<0
 .refine Ga ?_;refine zct rfl rfl rfl rfl (jac _) (zu rfl) ?_;refine Ga ?_;refine zcf (resN rfl (jab _) (zu rfl) rfl) ?_;exact⟨rfl,o1.set om,rfl⟩
 by_cases h2:95<fd
 .refine Ga ?_;refine zct rfl rfl rfl rfl (jac _) (zu rfl) ?_;refine Ga ?_;refine zcf (resN rfl (jab _) (zu rfl) rfl) ?_;exact⟨rfl,o1.set om,rfl⟩
 obtain⟨m,rfl⟩:=zz (by omega:0<=fd);have e:atS (wxs l) (m:Int)=none:=jfh j5;have f2:(wc (fun i=>atS (wxs l) (i:Int)) (.slice sa l.length c) s now no)[0+0+(m:Int).toNat*3+0]?=some (.bool false):=by
  rw[jqm (i:=m) (j:=0) om om om];show some (pc (atS (wxs l) (m:Int)) 0)=_;rw[e];rfl
 refine Ga ?_;refine zct rfl rfl rfl rfl (jac _) (zu rfl) ?_;refine Ga ?_;refine zcf (resN rfl (jab _) (zu rfl) rfl) ?_;exact⟨rfl,o1.set om,rfl⟩
theorem jdC{d:Nat}{fd:Int}(hd:2<=d)(a:WW h w s ow l now tb no)(u:Uniq (wxs l)) :
  ((∀n k,¬AtW (wxs l) n k fd)/\∃h',cl d (.fn 76) [.p w 0,.i fd] h=some (.tup [.agg [.bool false,.i 0,.i 0],.ptr none,.i 110],h')/\Old h h'/\h'.nx=h.nx+1) \/
  ∃(n k m:Nat) (t:WX),fd=m/\m<=95/\AtW (wxs l) n k fd/\l[n]?=some t/\(k=0\/k=1)/\∃h',cl d (.fn 76) [.p w 0,.i fd] h=some (.tup [.agg [.bool true,.i (n:Int),.i (k:Int)],.p t.wb 0,.i 0],h')/\Old h h'/\h'.nx=h.nx+1:=by
 by_cases tI:∃p:Nat×Nat,AtW (wxs l) p.1 p.2 fd
 .obtain⟨⟨n,k⟩,d7⟩:=tI;have d7:AtW (wxs l) n k fd:=d7;have hm:=a.fds n k fd d7;obtain⟨m,rfl⟩:=zz hm.1;obtain⟨x,hx,hk⟩:=jpX d7;obtain⟨t,ht,_⟩:=jhD hx;obtain⟨z,c,A,lz,_⟩:=a.wf.wat (jdq ht);obtain⟨h',e1,e2,e3⟩:=jlB Z hd A (a.fdat u d7 ht) a.wf.lw lz;exact .inr ⟨n,k,m,t,rfl,by omega,d7,ht,hk,h',e1,Old.ofCh e2,e3⟩
 .have j5:∀n k,¬AtW (wxs l) n k fd:=fun n k d7=>tI ⟨(n,k),d7⟩;exact .inl ⟨j5,jnl Z hd a j5⟩
theorem jfP{d:Nat}{n:Int}(hd:2<=d)(a:WF h w s ow f l now tb no) :
  ((∀x,¬OutW (wxs l) n x)/\cl d (.fn 151) [.p w 0,.i n] h=some (.tup [.ptr none,.i 116],h)) \/
  ∃(m:Nat) (t:WX),n=m/\l[m]?=some t/\t.x.e1.what=2/\cl d (.fn 151) [.p w 0,.i n] h=some (.tup [.p t.wb 0,.i 0],h):=by
 have hn:=jbK Z (d:=d-1) om a;obtain⟨sa,c,hw,hz⟩:=a.head;have f1:(wc f (.slice sa l.length c) s now no)[0+288]?=some (.slice sa l.length c):=jaR rfl;by_cases h1:n<0
 .refine .inl ⟨fun x hx=>by have:=hx.1;omega,jaj (aT Z ?_)⟩;refine Ga ?_;exact⟨rfl,rfl⟩
 by_cases h2:(l.length:Int)<=n
 .refine .inl ⟨fun x hx=>?_,jaj (aT Z ?_)⟩
  .have:=hx.2.1;rw[zd Zc]at this;cases this
  refine Ga ?_;exact⟨rfl,rfl⟩
 obtain⟨m,rfl⟩:=zz (by omega:0<=n);have ht:l[m]?=some l[m]:=za om;generalize l[m]=t at ht;obtain⟨z,rfl,lz,oz,hb⟩:=hz (jdq ht);have f2:(wps l)[0+(m:Int).toNat*1]?=some (.p t.wb 0):=by rw[show 0+(m:Int).toNat*1=m by omega];exact jda ht
 have f3:(t.x.cells t.r0 t.r1 t.wv)[0+0+(1:Int).toNat*7+0]?=some (.i t.x.e1.what):=Wi.what_cell (k:=1) (.inr rfl) rfl;have hx:=(a.ok m t ht).hx;unfold Wi.obj at hx;by_cases h3:t.x.e1.what=2
 .refine .inr ⟨m,t,rfl,ht,h3,jaj (aT Z ?_)⟩;refine Ga ?_;exact⟨rfl,rfl⟩
 .refine .inl ⟨fun x hx=>?_,jaj (aT Z ?_)⟩
  .have e:=hx.2.1;rw[zw,jak ht]at e;cases e;exact h3 hx.2.2
  refine Ga ?_;exact⟨rfl,rfl⟩
end
section
variable{x:Wi}{k m:Nat}{q:List UInt8}
theorem Wi.take_self(hk:k=0\/k=1):((x.take k m q).e k).ring=some (q.drop m):=by
 rcases hk with rfl|rfl<;>simp[Wi.take,Wi.setq,Wi.came,Wi.put,Wi.e,En.came]
theorem Wi.take_other(hk:k=0\/k=1):((x.take k m q).e (1-k)).ring=(x.e (1-k)).ring:=by
 rcases hk with rfl|rfl<;>simp[Wi.take,Wi.setq,Wi.came,Wi.put,Wi.e,En.came]
theorem Wi.take_same(hk:k=0\/k=1):x.SameFd (x.take k m q):=by
 rintro i (rfl|rfl)<;>rcases hk with rfl|rfl<;>exact⟨Iff.rfl,fun _=>rfl⟩
theorem Wi.take_wait(hk:k=0\/k=1):(x.take k m q).waiting=x.waiting:=by rcases hk with rfl|rfl<;>rfl
theorem Wi.take_cap(hk:k=0\/k=1):(x.take k m q).cap=x.cap:=by rcases hk with rfl|rfl<;>rfl
theorem Wi.setq_eq(hk:k=0\/k=1)(hq:(x.e k).ring=some q):x.setq k q=x:=by
 obtain⟨⟨w0,f0,q0,uI,s0,i0,o0⟩,⟨w1,f1,q1,mJ,s1,i1,o1⟩,cap,rs,bl,wt⟩:=x;rcases hk with rfl|rfl<;>simp only[Wi.e]at hq<;>simp[Wi.setq,Wi.put,Wi.e,hq]
theorem Wi.take_zero(hk:k=0\/k=1)(hq:(x.e k).ring=some q):x.take k 0 q=x:=by
 unfold Wi.take;rw[zk,Wi.setq_eq hk hq];exact Wi.came_ff x _
theorem jjH{α:Type}{l:List α}{n:Nat}{x:α}(h:l[n]?=some x):l.set n x=l:=by
 apply zT;intro i;rw[zi];by_cases e:n=i
 .subst e;have:n<l.length:=by
   rcases zx n l.length with h1|h1
   .exact h1
   .rw[zd h1]at h;cases h
  rw[zD rfl,zD this,h]
 .rw[zC e]
theorem jgj{i k:Nat}(hi:i=0\/i=1)(hk:k=0\/k=1)(h:i≠k):i=1-k:=by omega
end
section
variable{h h':H}{w s:Nat}{ow:Nat->Nat}{f:Nat->Option (Nat×Nat)}{l:List WX}{now:Int}{tb:Tb}{no:Option (Nat×Nat)}{n k m:Nat}{t:WX}{q:List UInt8}
theorem WF.take(a:WF h w s ow f l now tb no)(ht:l[n]?=some t)(hk:k=0\/k=1)(hq:(t.x.e k).ring=some q)(ch:Ch (fun j=>j=t.wb\/j=t.r k) h h')(ho:h'.get t.wb=some ((t.x.take k m q).obj t.r0 t.r1 t.wv))(hR:ja3 h' (t.r k) (t.b k) (q.drop m) t.x.cap) :
  WF h' w s ow f (l.set n {t with x:=t.x.take k m q}) now tb no:=by
 have X:=a.ok n t ht;have gV:=X.ox;obtain⟨_,o1,_⟩:=X.ring k hk q hq;refine a.step ht ch (fun j _ hb=>?_) ho (Wi.take_wait hk) fun i hi q' f9=>?_
 .rcases hb with rfl|rfl<;>omega
 .rw[Wi.take_cap hk];by_cases nF:i=k
  .subst nF;rw[Wi.take_self hk]at f9;cases f9;exact⟨q,hq,hR⟩
  .obtain rfl:=jgj hi hk nF;rw[Wi.take_other hk]at f9;obtain⟨p1,p2,p3,p4,p5⟩:=X.ring _ hi q' f9;refine⟨q',f9,p1.keep (ch.get _ p4 ?_) (ch.get _ p5 ?_)⟩
   .rintro (e|e)
    .rw[e]at p2;omega
    .rw[e]at p2;omega
   .rintro (e|e)
    .rw[e]at p3;omega
    .rw[e]at p3;omega
theorem VB.ofRow2{v:V}{N:Nat}{b:List UInt8}(r:Row N h 1 v b.length (bts b)):VB h v b/\∀z,v.at?=some z->N<=z:=by
 obtain⟨p1,p2⟩:=VB.ofRow r;exact⟨p1,fun z hz=>(p2 z hz).1⟩
theorem jm4{q:List UInt8}{n:Int}:(q.take (min n (q.length:Int)).toNat).length=(min n (q.length:Int)).toNat:=by simp;omega
theorem XOk.apart(a:XOk h ow n t)(hk:k=0\/k=1)(hq:(t.x.e k).ring=some q):ja3 h (t.r k) (t.b k) q t.x.cap/\t.r k<h.nx/\t.b k<h.nx/\t.r k≠t.b k/\t.wb≠t.r k/\t.wb≠t.b k:=by
 have o0:=a.ox;obtain⟨p1,p2,p3,p4,p5⟩:=a.ring k hk q hq;refine⟨p1,p4,p5,fun e=>?_,fun e=>?_,fun e=>?_⟩
 .rw[e]at p2;omega
 .rw[e]at o0;omega
 .rw[e]at o0;omega
end
section
variable{cl:Nat->Call}(Z:Sem cl){h:H}{w s:Nat}{ow:Nat->Nat}{ws:Ws}{now:Int}{tb:Tb}{no:Option (Nat×Nat)}
include Z
theorem ww_Read{d:Nat}{fd many:Int}(hd:10<=d)(a:WSt h w s ow ws now tb no)(o:WsOk ws) :
  ∃v h',cl d (.fn 35) [.p w 0,.i fd,.i many] h=some (.tup [v,.bool (jcv ws fd many).1.2.1,.i (jcv ws fd many).1.2.2],h')/\VB h' v (jcv ws fd many).1.1/\(∀z,v.at?=some z->h.nx<=z)/\WSt h' w s ow (jcv ws fd many).2 now tb no/\To h h' ow ow:=by
 obtain⟨l,a,rfl⟩:=a;rcases jdC Z (d:=d-1) (fd:=fd) om a o.uniq with⟨j5,h1,e1,o1,x1⟩|⟨n,k,m,t,rfl,hm,d7,ht,hk,h1,e1,o1,x1⟩
 .have hS:jcv (wxs l) fd many=(([],false,110),wxs l):=jaD j5;rw[hS]
  suffices q:∃v' h',cl d (.fn 35) [.p w 0,.i fd,.i many] h=some (v',h')/\v' = .tup [.nils,.bool false,.i 110]/\Old h h' by
   obtain⟨_,h',e,rfl,q⟩:=q;exact⟨.nils,h',e,VB.nil _,fun z hz=>(by cases hz),⟨l,a.old q,rfl⟩,ZA q⟩
  refine aT Z ?_;refine qm ?_;exact⟨rfl,o1.new.set o1.1⟩
 have X:=a.wf.ok n t ht;have hS:jcv (wxs l) (m:Int) many=_:=jaA o.uniq d7 (jak ht);cases w7:(t.x.e k).ring with
 |none=>
  simp only[w7]at hS;rw[hS]
  suffices q:∃v' h',cl d (.fn 35) [.p w 0,.i m,.i many] h=some (v',h')/\v' = .tup [.nils,.bool false,.i 111]/\Old h h' by
   obtain⟨_,h',e,rfl,q⟩:=q;exact⟨.nils,h',e,VB.nil _,fun z hz=>(by cases hz),⟨l,a.old q,rfl⟩,ZA q⟩
  have qB:h1.get t.wb=some (.cells (t.x.cells t.r0 t.r1 t.wv) false):=by rw[o1.2 _ X.lx];exact X.hx
  have lx:=X.lx;have f1:(t.x.cells t.r0 t.r1 t.wv)[0+0+(k:Int).toNat*7+2]?=some (.ptr none):=by
   rcases hk with rfl|rfl
   .have w7:t.x.e0.ring=none:=w7;simp[Wi.cells,En.cells,w7,En.ptr]
   .have w7:t.x.e1.ring=none:=w7;simp[Wi.cells,En.cells,w7,En.ptr]
  refine aT Z ?_;refine qm ?_;exact⟨rfl,o1.new.set o1.1⟩
 |some q=>
  simp only[w7]at hS;have f2:=Wi.ring_cell (x:=t.x) (r0:=t.r0) (r1:=t.r1) (wv:=t.wv) hk w7 (o:=0+0+(k:Int).toNat*7+2) om;have qB:h1.get t.wb=some (.cells (t.x.cells t.r0 t.r1 t.wv) false):=by rw[o1.2 _ X.lx];exact X.hx
  have lx:=X.lx;by_cases mC:many<1
  .rw[zD mC]at hS;rw[hS]
   suffices q:∃v' h',cl d (.fn 35) [.p w 0,.i m,.i many] h=some (v',h')/\v' = .tup [.nils,.bool false,.i 2]/\Old h h' by
    obtain⟨_,h',e,rfl,q⟩:=q;exact⟨.nils,h',e,VB.nil _,fun z hz=>(by cases hz),⟨l,a.old q,rfl⟩,ZA q⟩
   refine aT Z ?_;refine qm ?_;exact⟨rfl,o1.new.set o1.1⟩
  rw[zC mC]at hS;cases hrs:t.x.reset
  case true=>
   rw[hrs,zD rfl]at hS;rw[hS]
   suffices q:∃v' h',cl d (.fn 35) [.p w 0,.i m,.i many] h=some (v',h')/\v' = .tup [.nils,.bool false,.i 115]/\Old h h' by
    obtain⟨_,h',e,rfl,q⟩:=q;exact⟨.nils,h',e,VB.nil _,fun z hz=>(by cases hz),⟨l,a.old q,rfl⟩,ZA q⟩
   have f1:(t.x.cells t.r0 t.r1 t.wv)[0+14]?=some (.bool true):=by rw[<- hrs];exact Zv rfl
   refine aT Z ?_;refine qm ?_;exact⟨rfl,o1.new.set o1.1⟩
  rw[hrs,zC Zd]at hS;obtain⟨p1,p2,p3,p4,p5,p6⟩:=X.apart hk w7;obtain⟨z,c,A,lz,oz⟩:=a.wf.wat (jdq ht);obtain⟨v,h',e,row,rG,r1,r2,r3⟩:=wp_Read Z (d:=d) (t:=many) om A (a.fdat o.uniq d7 ht) X.hx hrs om w7 p1 a.wf.lw lz X.lx p2 p3 p4 p5 p6;have W:=a.wf.take ht hk w7 r3 r1 r2;have W2:=WF.same W a.fds (jak ht) (Wi.take_same hk);have T:To h h' ow ow:=⟨r3.weaken fun j hj hb=>by
   have o1:=X.ox;obtain⟨_,o2,_⟩:=X.ring k hk q w7;rcases hb with rfl|rfl
   .omega
   .show ow (t.r k)≠0;omega,fun _ _=>rfl⟩
  have row:Row h.nx h' 1 v (q.take (min many (q.length:Int)).toNat).length (bts (q.take (min many (q.length:Int)).toNat)):=by rw[jm4];exact row
  obtain⟨vb,vz⟩:=VB.ofRow2 row;refine⟨v,h',?_,?_,vz,⟨_,W2,?_⟩,T⟩
  .rw[e,hS];by_cases hq:q=[]
   .cases kA:t.x.silent k<;>simp[hq]
   .simp[hq]
  .rw[hS];by_cases hq:q=[]
   .subst hq;cases kA:t.x.silent k<;>simpa using vb
   .rw[zD hq];exact vb
  .rw[jbl,hS];by_cases hq:q=[]
   .subst hq;have:(wxs l).set n (t.x.take k (min many (([]:List UInt8).length:Int)).toNat [])=wxs l:=by
     rw[show (min many (([]:List UInt8).length:Int)).toNat=0 by simp;omega,Wi.take_zero hk w7];exact jjH (jak ht)
    rw[this];cases kA:t.x.silent k<;>simp
   .rw[zD hq]
theorem jom{d:Nat}{n many:Int}(hd:10<=d)(a:WSt h w s ow ws now tb no)(o:WsOk ws) :
  ∃v h',cl d (.fn 90) [.p w 0,.i n,.i many] h=some (.tup [v,.i (jct ws n many).1.2],h')/\VB h' v (jct ws n many).1.1/\(∀z,v.at?=some z->h.nx<=z)/\WSt h' w s ow (jct ws n many).2 now tb no/\To h h' ow ow:=by
 obtain⟨l,a,rfl⟩:=a;rcases jfP Z (d:=d-1) (n:=n) om a.wf with⟨j5,e1⟩|⟨m,t,rfl,ht,h2,e1⟩
 .have hS:jct (wxs l) n many=(([],116),wxs l):=jbI j5;rw[hS]
  suffices q:∃v' h',cl d (.fn 90) [.p w 0,.i n,.i many] h=some (v',h')/\v' = .tup [.nils,.i 116]/\Old h h' by
   obtain⟨_,h',e,rfl,q⟩:=q;exact⟨.nils,h',e,VB.nil _,fun z hz=>(by cases hz),⟨l,a.old q,rfl⟩,ZA q⟩
  refine aT Z ?_;refine qm ?_;exact⟨rfl,Zz _⟩
 have X:=a.wf.ok m t ht;have hS:jct (wxs l) (m:Int) many=_:=jbJ (jak ht) h2;have hx:=X.hx;unfold Wi.obj at hx;by_cases hm:many<0
 .rw[zD hm]at hS;rw[hS]
  suffices q:∃v' h',cl d (.fn 90) [.p w 0,.i m,.i many] h=some (v',h')/\v' = .tup [.nils,.i 2]/\Old h h' by
   obtain⟨_,h',e,rfl,q⟩:=q;exact⟨.nils,h',e,VB.nil _,fun z hz=>(by cases hz),⟨l,a.old q,rfl⟩,ZA q⟩
  refine aT Z ?_;refine qm ?_;exact⟨rfl,Zz _⟩
 rw[zC hm]at hS;cases hrs:t.x.reset
 case true=>
  rw[hrs,zD rfl]at hS;rw[hS]
  suffices q:∃v' h',cl d (.fn 90) [.p w 0,.i m,.i many] h=some (v',h')/\v' = .tup [.nils,.i 115]/\Old h h' by
   obtain⟨_,h',e,rfl,q⟩:=q;exact⟨.nils,h',e,VB.nil _,fun z hz=>(by cases hz),⟨l,a.old q,rfl⟩,ZA q⟩
  have f1:(t.x.cells t.r0 t.r1 t.wv)[0+14]?=some (.bool true):=by rw[<- hrs];exact Zv rfl
  refine aT Z ?_;refine qm ?_;exact⟨rfl,Zz _⟩
 rw[hrs,zC Zd]at hS;obtain⟨q,w7⟩:=zK.1 ((o.ok _ (zc (jak ht))).out h2).2;simp only[w7]at hS;obtain⟨p1,p2,p3,p4,p5,p6⟩:=X.apart (k:=1) (.inr rfl) w7;obtain⟨z,c,A,lz,oz⟩:=a.wf.wat (jdq ht);obtain⟨v,h',e,row,rG,r1,r2,r3⟩:=wp_Take Z (d:=d) (t:=many) om A (x_lt ht) (jda ht) X.hx h2 hrs om w7 p1 X.lx p2 p3 p4 p5 p6;have W:=a.wf.take ht (k:=1) (.inr rfl) w7 r3 r1 r2;have W2:=WF.same W a.fds (jak ht) (Wi.take_same (.inr rfl));have T:To h h' ow ow:=⟨r3.weaken fun j hj hb=>by
  have o1:=X.ox;obtain⟨_,o2,_⟩:=X.ring 1 (.inr rfl) q w7;rcases hb with rfl|rfl
  .omega
  .show ow (t.r 1)≠0;omega,fun _ _=>rfl⟩
 have row:Row h.nx h' 1 v (q.take (min many (q.length:Int)).toNat).length (bts (q.take (min many (q.length:Int)).toNat)):=by rw[jm4];exact row
 obtain⟨vb,vz⟩:=VB.ofRow2 row;rw[hS];exact⟨v,h',e,vb,vz,⟨_,W2,jbl⟩,T⟩
theorem jol{d:Nat}{fd:Int}(hd:3<=d)(a:WSt h w s ow ws now tb no)(o:WsOk ws) :
  ∃h',cl d (.fn 108) [.p w 0,.i fd] h=some (.tup [.i (jfO ws fd).1,.i (jfO ws fd).2],h')/\Old h h':=by
 obtain⟨l,a,rfl⟩:=a;rcases jdC Z (d:=d-1) (fd:=fd) om a o.uniq with⟨j5,h1,e1,o1,x1⟩|⟨n,k,m,t,rfl,hm,d7,ht,hk,h1,e1,o1,x1⟩
 .have hS:jfO (wxs l) fd=(0,110):=jaD j5;rw[hS];refine jae (aT Z ?_);refine qm ?_;exact⟨rfl,o1.new.set o1.1⟩
 .have hS:jfO (wxs l) (m:Int)=((n:Int),0):=jaA o.uniq d7 (jak ht);rw[hS];refine jae (aT Z ?_);refine qm ?_;exact⟨rfl,o1.new.set o1.1⟩
end
section
variable{x:Wi}{k m:Nat}{q b:List UInt8}
theorem Wi.fill_self(hk:k=0\/k=1):((x.fill k m q b).e (1-k)).ring=some (q++b.take m):=by
 rcases hk with rfl|rfl<;>simp[Wi.fill,Wi.setq,Wi.came,Wi.put,Wi.e,En.came]
theorem Wi.fill_other(hk:k=0\/k=1):((x.fill k m q b).e k).ring=(x.e k).ring:=by
 rcases hk with rfl|rfl<;>simp[Wi.fill,Wi.setq,Wi.came,Wi.put,Wi.e,En.came]
theorem Wi.fill_same(hk:k=0\/k=1):x.SameFd (x.fill k m q b):=by
 rintro i (rfl|rfl)<;>rcases hk with rfl|rfl<;>exact⟨Iff.rfl,fun _=>rfl⟩
theorem Wi.fill_wait(hk:k=0\/k=1):(x.fill k m q b).waiting=x.waiting:=by rcases hk with rfl|rfl<;>rfl
theorem Wi.fill_cap(hk:k=0\/k=1):(x.fill k m q b).cap=x.cap:=by rcases hk with rfl|rfl<;>rfl
theorem Wi.shut_same(hk:k=0\/k=1):x.SameFd (x.doShut k):=by
 unfold Wi.doShut;split
 .exact Wi.SameFd.refl x
 .rintro i (rfl|rfl)<;>rcases hk with rfl|rfl<;>exact⟨Iff.rfl,fun _=>rfl⟩
theorem Wi.shut_wait(hk:k=0\/k=1):(x.doShut k).waiting=x.waiting:=by
 unfold Wi.doShut;split
 .rfl
 .rcases hk with rfl|rfl<;>rfl
theorem Wi.shut_cap(hk:k=0\/k=1):(x.doShut k).cap=x.cap:=by
 unfold Wi.doShut;split
 .rfl
 .rcases hk with rfl|rfl<;>rfl
theorem Wi.shut_ring(hk:k=0\/k=1)(i:Nat)(hi:i=0\/i=1):((x.doShut k).e i).ring=(x.e i).ring:=by
 unfold Wi.doShut;split
 .rfl
 .rcases hk with rfl|rfl<;>rcases hi with rfl|rfl<;>rfl
theorem Wi.close_cap(hk:k=0\/k=1):(x.close k).cap=x.cap:=by rcases hk with rfl|rfl<;>rfl
theorem Wi.close_other(hk:k=0\/k=1):((x.close k).e (1-k)).what=(x.e (1-k)).what/\((x.close k).e (1-k)).fd=(x.e (1-k)).fd:=by rcases hk with rfl|rfl<;>exact⟨rfl,rfl⟩
theorem Wi.close_what(hk:k=0\/k=1):((x.close k).e k).what=3:=by rcases hk with rfl|rfl<;>rfl
end
section
variable{h h':H}{w s:Nat}{ow:Nat->Nat}{f:Nat->Option (Nat×Nat)}{l:List WX}{now:Int}{tb:Tb}{no:Option (Nat×Nat)}{n k m:Nat}{t:WX}{q b:List UInt8}
theorem WF.fill(a:WF h w s ow f l now tb no)(ht:l[n]?=some t)(hk:k=0\/k=1)(hq:(t.x.e (1-k)).ring=some q)(ch:Ch (fun j=>j=t.wb\/j=t.r (1-k)\/j=t.b (1-k)) h h')(ho:h'.get t.wb=some ((t.x.fill k m q b).obj t.r0 t.r1 t.wv))(hR:ja3 h' (t.r (1-k)) (t.b (1-k)) (q++b.take m) t.x.cap) :
  WF h' w s ow f (l.set n {t with x:=t.x.fill k m q b}) now tb no:=by
 have X:=a.ok n t ht;have gV:=X.ox;have w6:1-k=0\/1-k=1:=by omega
 obtain⟨_,o1,o2,_⟩:=X.ring _ w6 q hq;refine a.step ht ch (fun j _ hb=>?_) ho (Wi.fill_wait hk) fun i hi q' f9=>?_
 .rcases hb with rfl|rfl|rfl<;>omega
 .rw[Wi.fill_cap hk];by_cases nF:i=k
  .subst nF;rw[Wi.fill_other hk]at f9;obtain⟨p1,p2,p3,p4,p5⟩:=X.ring _ hi q' f9;refine⟨q',f9,p1.keep (ch.get _ p4 ?_) (ch.get _ p5 ?_)⟩
   .rintro (e|e|e)
    .rw[e]at p2;omega
    .rw[e]at p2;omega
    .rw[e]at p2;omega
   .rintro (e|e|e)
    .rw[e]at p3;omega
    .rw[e]at p3;omega
    .rw[e]at p3;omega
  .obtain rfl:=jgj hi hk nF;rw[Wi.fill_self hk]at f9;cases f9;exact⟨q,hq,hR⟩
theorem XOk.to(X:XOk h ow n t)(hk:k=0\/k=1)(hq:(t.x.e k).ring=some q)(ch:Ch (fun j=>j=t.wb\/j=t.r k\/j=t.b k) h h'):To h h' ow ow:=
 ⟨ch.weaken fun j hj hb=>by
  have o1:=X.ox;obtain⟨_,o2,o3,_⟩:=X.ring k hk q hq;rcases hb with rfl|rfl|rfl
  .omega
  .show ow (t.r k)≠0;omega
  .show ow (t.b k)≠0;omega,fun _ _=>rfl⟩
theorem XOk.toU(X:XOk h ow n t){ob:Obj}(u:Upd t.wb ob h h'):To h h' ow ow:=
 ⟨(u.ch (B:=fun j=>j=t.wb) rfl).weaken fun j hj hb=>by
  have o1:=X.ox;have hb:j=t.wb:=hb;subst hb;omega,fun _ _=>rfl⟩
end
section
variable{cl:Nat->Call}(Z:Sem cl)
include Z
theorem jj2{d wb r0 r1 k:Nat}{wv:V}{h:H}{x:Wi}(hd:2<=d)(hw:h.get wb=some (x.obj r0 r1 wv))(hk:k=0\/k=1) :
  ∃h',cl d (.fn 86) [.p wb 0,.i (k:Int)] h=some (.tup [],h')/\Upd wb ((x.close k).obj r0 r1 wv) h h':=by
 refine jae (aT Z ?_);have Ed:=Wi.shut_cell (x:=x) (r0:=r0) (r1:=r1) (wv:=wv) hk (o:=0+0+(k:Int).toNat*7+4) om;have ek:(1:Int)-(k:Int)=((1-k:Nat):Int):=by omega
 obtain⟨h2,e2,u2⟩:=jg0 Z (d:=d-1) (k:=1-k) om hw om (!(x.e k).shut) true;have qA:=u2.self;rw[<- ek]at e2;have es:decide ((x.e k).shut=false) = !(x.e k).shut:=by cases (x.e k).shut<;>rfl
 unfold Wi.obj at hw qA;refine Ga ?_;rw[es];refine Ga ?_;refine zcs rfl rfl rfl qA (by rw[Wi.cells_length];omega) ?_;have e1:Obj.cells ((((x.came (1-k) (!(x.e k).shut) true)).cells r0 r1 wv).set (0+0+(k:Int).toNat*7+0) (.i 3)) false=(x.close k).obj r0 r1 wv:=by
  rcases hk with rfl|rfl<;>rfl
 rw[e1];refine Ga ?_;exact⟨rfl,u2.trans Zt⟩
variable{h:H}{w s:Nat}{ow:Nat->Nat}{ws:Ws}{now:Int}{tb:Tb}{no:Option (Nat×Nat)}
theorem ww_Write{d:Nat}{fd:Int}{b:List UInt8}{vb:V}(hd:10<=d)(a:WSt h w s ow ws now tb no)(o:WsOk ws)(hb:VB h vb b)(iE:b.length<=1000)(nJ:∀z,vb.at?=some z->ow z=0) :
  ∃h',cl d (.fn 37) [.p w 0,.i fd,vb] h=some (.tup [.i (jbL ws fd b).1.1,.i (jbL ws fd b).1.2],h')/\WSt h' w s ow (jbL ws fd b).2 now tb no/\To h h' ow ow:=by
 obtain⟨l,a,rfl⟩:=a;obtain⟨av,cv,rfl,hB⟩:=hb;rcases jdC Z (d:=d-1) (fd:=fd) om a o.uniq with⟨j5,h1,e1,o1,x1⟩|⟨n,k,m,t,rfl,hm,d7,ht,hk,h1,e1,o1,x1⟩
 .have hS:jbL (wxs l) fd b=((0,110),wxs l):=jaD j5;rw[hS]
  suffices q:∃h',cl d (.fn 37) [.p w 0,.i fd,.slice av b.length cv] h=some (.tup [.i 0,.i 110],h')/\Old h h' by
   obtain⟨h',e,q⟩:=q;exact⟨h',e,⟨l,a.old q,rfl⟩,ZA q⟩
  refine jae (aT Z ?_);refine qm ?_;exact⟨rfl,o1.new.set o1.1⟩
 have X:=a.wf.ok n t ht;have hS:jbL (wxs l) (m:Int) b=_:=jaA o.uniq d7 (jak ht);have qB:h1.get t.wb=some (.cells (t.x.cells t.r0 t.r1 t.wv) false):=by rw[o1.2 _ X.lx];exact X.hx
 have lx:=X.lx;have f1:=Wi.writes_cell (x:=t.x) (r0:=t.r0) (r1:=t.r1) (wv:=t.wv) hk (o:=0+0+(k:Int).toNat*7+3) om;have f2:=Zv (x:=t.x) (r0:=t.r0) (r1:=t.r1) (wv:=t.wv) (o:=0+14) rfl;have f3:=Wi.shut_cell (x:=t.x) (r0:=t.r0) (r1:=t.r1) (wv:=t.wv) hk (o:=0+0+(k:Int).toNat*7+4) om;have ek:(1:Int)-(k:Int)=((1-k:Nat):Int):=by omega
 have f4:(t.x.cells t.r0 t.r1 t.wv)[0+0+((1:Int)-(k:Int)).toNat*7+0]?=some (.i (t.x.e (1-k)).what):=Wi.what_cell om om;cases fB:(t.x.e k).writes
 .rw[fB,zD rfl]at hS;rw[hS]
  suffices q:∃h',cl d (.fn 37) [.p w 0,.i m,.slice av b.length cv] h=some (.tup [.i 0,.i 111],h')/\Old h h' by
   obtain⟨h',e,q⟩:=q;exact⟨h',e,⟨l,a.old q,rfl⟩,ZA q⟩
  rw[fB]at f1;refine jae (aT Z ?_);refine qm ?_;exact⟨rfl,o1.new.set o1.1⟩
 rw[fB,zC Zd]at hS;rw[fB]at f1;cases hrs:t.x.reset
 case true=>
  rw[hrs,zD rfl]at hS;rw[hS]
  suffices q:∃h',cl d (.fn 37) [.p w 0,.i m,.slice av b.length cv] h=some (.tup [.i 0,.i 115],h')/\Old h h' by
   obtain⟨h',e,q⟩:=q;exact⟨h',e,⟨l,a.old q,rfl⟩,ZA q⟩
  rw[hrs]at f2;refine jae (aT Z ?_);refine qm ?_;exact⟨rfl,o1.new.set o1.1⟩
 rw[hrs,zC Zd]at hS;rw[hrs]at f2;cases bC:(t.x.e k).shut
 case true=>
  rw[zD (.inl bC)]at hS;rw[hS]
  suffices q:∃h',cl d (.fn 37) [.p w 0,.i m,.slice av b.length cv] h=some (.tup [.i 0,.i 114],h')/\Old h h' by
   obtain⟨h',e,q⟩:=q;exact⟨h',e,⟨l,a.old q,rfl⟩,ZA q⟩
  rw[bC]at f3;refine jae (aT Z ?_);refine qm ?_;exact⟨rfl,o1.new.set o1.1⟩
 rw[bC]at f3;by_cases h3:(t.x.e (1-k)).what=3
 .rw[zD (.inr h3)]at hS;rw[hS]
  suffices q:∃h',cl d (.fn 37) [.p w 0,.i m,.slice av b.length cv] h=some (.tup [.i 0,.i 114],h')/\Old h h' by
   obtain⟨h',e,q⟩:=q;exact⟨h',e,⟨l,a.old q,rfl⟩,ZA q⟩
  refine jae (aT Z ?_);refine qm ?_;exact⟨rfl,o1.new.set o1.1⟩
 rw[zC (by rintro (e|e);(rw[bC]at e;cases e);exact h3 e)]at hS;have w6:1-k=0\/1-k=1:=by omega
 have WI:=o.ok _ (zc (jak ht));obtain⟨q,w7⟩:=zK.1 ((WI.pair k hk).1 fB);simp only[w7]at hS;obtain⟨p1,p2,p3,p4,p5,p6⟩:=X.apart w6 w7;obtain⟨z,c,A,lz,oz⟩:=a.wf.wat (jdq ht);have d5:∀z o,av=some (z,o)->b≠[]->z≠t.b (1-k)/\z≠t.r (1-k):=fun z o e _=>by
  have h0:=nJ z (by subst e;rfl);obtain⟨_,o1,o2,_⟩:=X.ring _ w6 q w7;exact⟨fun e=>by rw[e]at h0;omega,fun e=>by rw[e]at h0;omega⟩
 obtain⟨h',e,r1,r2,r3⟩:=wp_Write Z (d:=d) om A (a.fdat o.uniq d7 ht) X.hx fB hrs bC h3 w7 p1 a.wf.lw lz X.lx p2 p3 p4 p5 p6 hB om d5;have W:=a.wf.fill ht hk w7 r3 r1 r2;have W2:=WF.same W a.fds (jak ht) (Wi.fill_same hk);refine⟨h',?_,⟨_,W2,?_⟩,X.to w6 w7 r3⟩
 .rw[e,hS];by_cases xC:b=[]
  .simp[xC]
  .by_cases gC:min b.length (t.x.cap-q.length)=0
   .rw[zC xC,zD gC,zD ⟨gC,xC⟩,gC];rfl
   .rw[zC xC,zC gC,zC fun e=>gC e.1]
 .rw[jbl,hS];by_cases xC:b=[]
  .rw[zD xC];subst xC;have:(wxs l).set n (t.x.fill k (min ([]:List UInt8).length (t.x.cap-q.length)) q [])=wxs l:=by
    rw[show min ([]:List UInt8).length (t.x.cap-q.length)=0 by simp];have e3:t.x.fill k 0 q []=t.x:=by
     unfold Wi.fill;rw[List.take_nil,List.append_nil,Wi.setq_eq w6 w7];exact Wi.came_ff t.x _
    rw[e3];exact jjH (jak ht)
   exact this
  .by_cases gC:min b.length (t.x.cap-q.length)=0
   .rw[zC xC,zD gC,gC]
   .rw[zC xC,zC gC]
theorem jp1{d:Nat}{n:Int}{b:List UInt8}{vb:V}(hd:10<=d)(a:WSt h w s ow ws now tb no)(o:WsOk ws)(hb:VB h vb b)(iE:b.length<=1000)(nJ:∀z,vb.at?=some z->ow z=0) :
  ∃h',cl d (.fn 88) [.p w 0,.i n,vb] h=some (.tup [.i (putS ws n b).1.1,.i (putS ws n b).1.2],h')/\WSt h' w s ow (putS ws n b).2 now tb no/\To h h' ow ow:=by
 obtain⟨l,a,rfl⟩:=a;obtain⟨av,cv,rfl,hB⟩:=hb;rcases jfP Z (d:=d-1) (n:=n) om a.wf with⟨j5,e1⟩|⟨m,t,rfl,ht,h2,e1⟩
 .have hS:putS (wxs l) n b=((0,116),wxs l):=jbI j5;rw[hS]
  suffices q:∃h',cl d (.fn 88) [.p w 0,.i n,.slice av b.length cv] h=some (.tup [.i 0,.i 116],h')/\Old h h' by
   obtain⟨h',e,q⟩:=q;exact⟨h',e,⟨l,a.old q,rfl⟩,ZA q⟩
  refine jae (aT Z ?_);refine qm ?_;exact⟨rfl,Zz _⟩
 have X:=a.wf.ok m t ht;have hS:putS (wxs l) (m:Int) b=_:=jbJ (jak ht) h2;have hx:=X.hx;unfold Wi.obj at hx;have f2:=Zv (x:=t.x) (r0:=t.r0) (r1:=t.r1) (wv:=t.wv) (o:=0+14) rfl;have f3:(t.x.cells t.r0 t.r1 t.wv)[0+0+(1:Int).toNat*7+4]?=some (.bool t.x.e1.shut):=Wi.shut_cell (k:=1) (.inr rfl) rfl;have f4:(t.x.cells t.r0 t.r1 t.wv)[0+0+(0:Int).toNat*7+0]?=some (.i t.x.e0.what):=Wi.what_cell (k:=0) (.inl rfl) rfl;cases hrs:t.x.reset
 case true=>
  rw[hrs,zD rfl]at hS;rw[hS]
  suffices q:∃h',cl d (.fn 88) [.p w 0,.i m,.slice av b.length cv] h=some (.tup [.i 0,.i 115],h')/\Old h h' by
   obtain⟨h',e,q⟩:=q;exact⟨h',e,⟨l,a.old q,rfl⟩,ZA q⟩
  rw[hrs]at f2;refine jae (aT Z ?_);refine qm ?_;exact⟨rfl,Zz _⟩
 rw[hrs,zC Zd]at hS;rw[hrs]at f2;cases bC:t.x.e1.shut
 case true=>
  rw[zD (.inl bC)]at hS;rw[hS]
  suffices q:∃h',cl d (.fn 88) [.p w 0,.i m,.slice av b.length cv] h=some (.tup [.i 0,.i 114],h')/\Old h h' by
   obtain⟨h',e,q⟩:=q;exact⟨h',e,⟨l,a.old q,rfl⟩,ZA q⟩
  rw[bC]at f3;refine jae (aT Z ?_);refine qm ?_;exact⟨rfl,Zz _⟩
 rw[bC]at f3;by_cases h3:t.x.e0.what=3
 .rw[zD (.inr h3)]at hS;rw[hS]
  suffices q:∃h',cl d (.fn 88) [.p w 0,.i m,.slice av b.length cv] h=some (.tup [.i 0,.i 114],h')/\Old h h' by
   obtain⟨h',e,q⟩:=q;exact⟨h',e,⟨l,a.old q,rfl⟩,ZA q⟩
  refine jae (aT Z ?_);refine qm ?_;exact⟨rfl,Zz _⟩
 rw[zC (by rintro (e|e);(rw[bC]at e;cases e);exact h3 e)]at hS;obtain⟨q,w7⟩:=zK.1 ((o.ok _ (zc (jak ht))).out h2).1;simp only[w7]at hS;obtain⟨p1,p2,p3,p4,p5,p6⟩:=X.apart (k:=0) (.inl rfl) w7;obtain⟨z,c,A,lz,oz⟩:=a.wf.wat (jdq ht);have d5:∀z o,av=some (z,o)->b≠[]->z≠t.b0/\z≠t.r0:=fun z o e _=>by
  have h0:=nJ z (by subst e;rfl);obtain⟨_,o1,o2,_⟩:=X.ring 0 (.inl rfl) q w7;exact⟨fun e=>by have o2:ow t.b0=_:=o2;rw[e]at h0;omega,fun e=>by have o1:ow t.r0=_:=o1;rw[e]at h0;omega⟩
 obtain⟨h',e,r1,r2,r3⟩:=wp_Put Z (d:=d) om A (x_lt ht) (jda ht) X.hx h2 hrs bC h3 w7 p1 X.lx p2 p3 p4 p5 p6 hB om d5;have W:=a.wf.fill (k:=1) ht (.inr rfl) w7 r3 r1 r2;have W2:=WF.same W a.fds (jak ht) (Wi.fill_same (.inr rfl));rw[hS];exact⟨h',e,⟨_,W2,jbl⟩,X.to (k:=0) (.inl rfl) w7 r3⟩
theorem ww_Shut{d:Nat}{fd:Int}(hd:4<=d)(a:WSt h w s ow ws now tb no)(o:WsOk ws) :
  ∃h',cl d (.fn 39) [.p w 0,.i fd] h=some (.i (jeb ws fd).1,h')/\WSt h' w s ow (jeb ws fd).2 now tb no/\To h h' ow ow:=by
 obtain⟨l,a,rfl⟩:=a;rcases jdC Z (d:=d-1) (fd:=fd) om a o.uniq with⟨j5,h1,e1,o1,x1⟩|⟨n,k,m,t,rfl,hm,d7,ht,hk,h1,e1,o1,x1⟩
 .have hS:jeb (wxs l) fd=(110,wxs l):=jaD j5;rw[hS]
  suffices q:∃h',cl d (.fn 39) [.p w 0,.i fd] h=some (.i 110,h')/\Old h h' by
   obtain⟨h',e,q⟩:=q;exact⟨h',e,⟨l,a.old q,rfl⟩,ZA q⟩
  refine jae (aT Z ?_);refine qm ?_;exact⟨rfl,o1.new.set o1.1⟩
 have X:=a.wf.ok n t ht;have hS:jeb (wxs l) (m:Int)=_:=jaA o.uniq d7 (jak ht);have qB:h1.get t.wb=some (.cells (t.x.cells t.r0 t.r1 t.wv) false):=by rw[o1.2 _ X.lx];exact X.hx
 have lx:=X.lx;cases w7:(t.x.e k).ring with
 |none=>
  rw[zD (.inl w7)]at hS;rw[hS]
  suffices q:∃h',cl d (.fn 39) [.p w 0,.i m] h=some (.i 111,h')/\Old h h' by
   obtain⟨h',e,q⟩:=q;exact⟨h',e,⟨l,a.old q,rfl⟩,ZA q⟩
  have f1:(t.x.cells t.r0 t.r1 t.wv)[0+0+(k:Int).toNat*7+2]?=some (.ptr none):=by
   rcases hk with rfl|rfl
   .have w7:t.x.e0.ring=none:=w7;simp[Wi.cells,En.cells,w7,En.ptr]
   .have w7:t.x.e1.ring=none:=w7;simp[Wi.cells,En.cells,w7,En.ptr]
  refine jae (aT Z ?_);refine qm ?_;exact⟨rfl,o1.new.set o1.1⟩
 |some q=>
  have f2:=Wi.ring_cell (x:=t.x) (r0:=t.r0) (r1:=t.r1) (wv:=t.wv) hk w7 (o:=0+0+(k:Int).toNat*7+2) om;have f1:=Wi.writes_cell (x:=t.x) (r0:=t.r0) (r1:=t.r1) (wv:=t.wv) hk (o:=0+0+(k:Int).toNat*7+3) om;cases fB:(t.x.e k).writes
  .rw[zD (.inr fB)]at hS;rw[hS]
   suffices q:∃h',cl d (.fn 39) [.p w 0,.i m] h=some (.i 111,h')/\Old h h' by
    obtain⟨h',e,q⟩:=q;exact⟨h',e,⟨l,a.old q,rfl⟩,ZA q⟩
   rw[fB]at f1;refine jae (aT Z ?_);refine qm ?_;exact⟨rfl,o1.new.set o1.1⟩
  .rw[zC (by rintro (e|e);(rw[w7]at e;cases e);rw[fB]at e;cases e)]at hS;rw[hS];rw[fB]at f1;have o2:Old h ((h1.new (.cells [.bool false,.i 0,.i 0] false)).set h1.nx (.cells [.bool true,.i (n:Int),.i (k:Int)] false)):=o1.new.set o1.1;have a2:=a.old o2;have X2:=a2.wf.ok n t ht;obtain⟨h2,e2,u2⟩:=joi Z (d:=d-1) om X2.hx hk;have W:=a2.wf.upd ht u2 (Wi.shut_wait hk) (Wi.shut_cap hk) (Wi.shut_ring hk);have W2:=WF.same W a.fds (jak ht) (Wi.shut_same hk)
   suffices q:∃h',cl d (.fn 39) [.p w 0,.i m] h=some (.i 0,h')/\h'=h2 by
    obtain⟨h',e,rfl⟩:=q;exact⟨h',e,⟨_,W2,jbl⟩,To.old o2 (X2.toU u2)⟩
   refine jae (aT Z ?_);refine qm ?_;exact⟨rfl,rfl⟩
theorem jhK{d:Nat}{n:Int}(hd:4<=d)(a:WSt h w s ow ws now tb no) :
  ∃h',cl d (.fn 92) [.p w 0,.i n] h=some (.i (jaB ws n).1,h')/\WSt h' w s ow (jaB ws n).2 now tb no/\To h h' ow ow:=by
 obtain⟨l,a,rfl⟩:=a;rcases jfP Z (d:=d-1) (n:=n) om a.wf with⟨j5,e1⟩|⟨m,t,rfl,ht,h2,e1⟩
 .have hS:jaB (wxs l) n=(116,wxs l):=jbI j5;rw[hS]
  suffices q:∃h',cl d (.fn 92) [.p w 0,.i n] h=some (.i 116,h')/\Old h h' by
   obtain⟨h',e,q⟩:=q;exact⟨h',e,⟨l,a.old q,rfl⟩,ZA q⟩
  refine jae (aT Z ?_);refine qm ?_;exact⟨rfl,Zz _⟩
 have X:=a.wf.ok m t ht;have hS:jaB (wxs l) (m:Int)=_:=jbJ (jak ht) h2;rw[hS];obtain⟨h3,e2,u2⟩:=joi Z (d:=d-1) (k:=1) om X.hx (.inr rfl);have W:=a.wf.upd ht u2 (Wi.shut_wait (.inr rfl)) (Wi.shut_cap (.inr rfl)) (Wi.shut_ring (.inr rfl));have W2:=WF.same W a.fds (jak ht) (Wi.shut_same (.inr rfl))
 suffices q:∃h',cl d (.fn 92) [.p w 0,.i m] h=some (.i 0,h')/\h'=h3 by
  obtain⟨h',e,rfl⟩:=q;exact⟨h',e,⟨_,W2,jbl⟩,X.toU u2⟩
 refine jae (aT Z ?_);refine qm ?_;exact⟨rfl,rfl⟩
end
theorem Wi.close_same{x:Wi}{k:Nat}(hk:k=0\/k=1)(h:(x.e k).what≠1):x.SameFd (x.close k):=by
 rintro i (rfl|rfl)<;>rcases hk with rfl|rfl
 .exact⟨⟨fun e=>zJ e (by show (3:Int)≠1;omega),fun e=>zJ e h⟩,fun _=>rfl⟩
 .exact⟨Iff.rfl,fun _=>rfl⟩
 .exact⟨Iff.rfl,fun _=>rfl⟩
 .exact⟨⟨fun e=>zJ e (by show (3:Int)≠1;omega),fun e=>zJ e h⟩,fun _=>rfl⟩
theorem AtW_close{ws:Ws}{n k:Nat}{x:Wi}(hx:ws[n]?=some x)(hk:k=0\/k=1)(m i:Nat)(fd:Int):AtW (ws.set n (x.close k)) m i fd↔AtW ws m i fd/\¬(m=n/\i=k):=by
 unfold AtW;rw[zi];by_cases e:n=m
 .subst e;have d4:n<ws.length:=by
   rcases zx n ws.length with h|h
   .exact h
   .rw[zd h]at hx;cases hx
  rw[zD rfl,zD d4,hx];constructor
  .rintro⟨_,e0,hi,h1,h2⟩;cases e0;by_cases nF:i=k
   .subst nF;rw[Wi.close_what hk]at h1;cases h1
   .obtain rfl:=jgj hi hk nF;rw[(Wi.close_other hk).1]at h1;rw[(Wi.close_other hk).2]at h2;exact⟨⟨x,rfl,hi,h1,h2⟩,fun e=>nF e.2⟩
  .rintro⟨⟨_,e0,hi,h1,h2⟩,hn⟩;cases e0;have nF:i≠k:=fun e=>hn ⟨rfl,e⟩;obtain rfl:=jgj hi hk nF;exact⟨_,rfl,hi,by rw[(Wi.close_other hk).1,h1],by rw[(Wi.close_other hk).2,h2]⟩
 .rw[zC e];exact⟨fun h=>⟨h,fun e2=>e e2.1.symm⟩,fun h=>h.1⟩
section
variable{h h':H}{w s:Nat}{ow:Nat->Nat}{f:Nat->Option (Nat×Nat)}{l:List WX}{now:Int}{tb:Tb}{no:Option (Nat×Nat)}{n k m:Nat}{t:WX}{q b:List UInt8}
theorem WF.place(a:WF h w s ow f l now tb no){i o:Nat}{p:Option (Nat×Nat)}{wl:List V}(hi:i<96)(ho:o=i*3)(hl:h.get w=some (.cells wl false)):WF (h.set w (.cells (jao wl o (plc p)) false)) w s ow (fun j=>if j=i then p else f j) l now tb no:=by
 obtain⟨wv,p1,p2,p3⟩:=a.hw;rw[hl]at p1;cases p1;have d5:∀j,ow j≠1->j≠w:=fun j hj e=>hj (by rw[e,a.tw]);refine⟨⟨wv,?_,p2.keep (zq _) fun z hz=>jaa (d5 z (by rw[p3 z hz];omega)),p3⟩,?_,a.tw,a.ts,a.lw,a.ls,a.top,fun m t ht=>(a.ok m t ht).keep (zq _) fun j h1 _=>jaa (d5 j om)⟩
 .rw[jab,jfQ (g:=fun j=>if j=i then p else f j) hi ho fun j _=>rfl]
 .rw[jaa (d5 s (by rw[a.ts];omega)),a.hs]
theorem WF.clear(a:WF h w s ow f l now tb no)(ht:l[n]?=some t)(hk:k=0\/k=1)(hq:(t.x.e k).ring=some q)(ch:Ch (fun j=>j=t.r k) h h')(hR:ja3 h' (t.r k) (t.b k) b t.x.cap) :
  WF h' w s ow f (l.set n {t with x:=t.x.setq k b}) now tb no:=by
 have X:=a.ok n t ht;have gV:=X.ox;obtain⟨_,o1,_⟩:=X.ring k hk q hq;refine a.step ht ch (fun j _ hb=>?_) ?_ ?_ fun i hi q' f9=>?_
 .have hb:j=t.r k:=hb;subst hb;omega
 .have d5:t.wb≠t.r k:=fun e=>by rw[e]at gV;omega
  rw[ch.get _ X.lx d5,X.hx];unfold Wi.obj;rw[Wi.setq_cells hk hq]
 .rcases hk with rfl|rfl<;>rfl
 .have hc:(t.x.setq k b).cap=t.x.cap:=by rcases hk with rfl|rfl<;>rfl
  rw[hc];by_cases nF:i=k
  .subst nF;have e:((t.x.setq i b).e i).ring=some b:=by rcases hi with rfl|rfl<;>rfl
   rw[e]at f9;cases f9;exact⟨q,hq,hR⟩
  .obtain rfl:=jgj hi hk nF;have e:((t.x.setq k b).e (1-k)).ring=(t.x.e (1-k)).ring:=by rcases hk with rfl|rfl<;>rfl
   rw[e]at f9;obtain⟨p1,p2,p3,p4,p5⟩:=X.ring _ hi q' f9;refine⟨q',f9,p1.keep (ch.get _ p4 fun e=>?_) (ch.get _ p5 fun e=>?_)⟩
   .rw[e]at p2;omega
   .rw[e]at p3;omega
end
section
variable{cl:Nat->Call}(Z:Sem cl)
include Z
theorem jmG{d r bb cap:Nat}{h0:H}{q:List UInt8}(hd:8<=d)(R:ja3 h0 r bb q cap)(hr:r<h0.nx)(fD:bb<h0.nx)(vI:r≠bb) :
  ∃h',cl d (.fn 153) [.p r 0] h0=some (.i q.length,h')/\ja3 h' r bb [] cap/\Ch (fun j=>j=r) h0 h':=by
 obtain⟨v,h',e1,row,_,R',ch⟩:=jo8 Z (d:=d-1) (n:=(q.length:Int)) om R hr fD vI;have em:(min (q.length:Int) (q.length:Int)).toNat=q.length:=by omega
 rw[em]at row R';rw[List.drop_length]at R';obtain⟨buf,frm,inn,out,C,V⟩:=R;have j4:=jje Z (d:=d-1) om C;obtain⟨c,⟨a,rfl⟩,_⟩:=row.shape;refine jae (aT Z ?_);refine Ga ?_;exact⟨rfl,R',ch⟩
variable{h:H}{w s:Nat}{ow:Nat->Nat}{f:Nat->Option (Nat×Nat)}{ws:Ws}{now:Int}{tb:Tb}{no:Option (Nat×Nat)}
theorem jhg{d:Nat}{n:Int}(hd:4<=d)(a:WSt h w s ow ws now tb no) :
  ∃h',cl d (.fn 94) [.p w 0,.i n] h=some (.i (ja2 ws n).1,h')/\WSt h' w s ow (ja2 ws n).2 now tb no/\To h h' ow ow:=by
 obtain⟨l,a,rfl⟩:=a;rcases jfP Z (d:=d-1) (n:=n) om a.wf with⟨j5,e1⟩|⟨m,t,rfl,ht,h2,e1⟩
 .have hS:ja2 (wxs l) n=(116,wxs l):=jbI j5;rw[hS]
  suffices q:∃h',cl d (.fn 94) [.p w 0,.i n] h=some (.i 116,h')/\Old h h' by
   obtain⟨h',e,q⟩:=q;exact⟨h',e,⟨l,a.old q,rfl⟩,ZA q⟩
  refine jae (aT Z ?_);refine qm ?_;exact⟨rfl,Zz _⟩
 have X:=a.wf.ok m t ht;have hS:ja2 (wxs l) (m:Int)=_:=jbJ (jak ht) h2;rw[hS];obtain⟨h3,e2,u2⟩:=jj2 Z (d:=d-1) (k:=1) om X.hx (.inr rfl);have W:=a.wf.upd ht u2 (Wi.close_waiting (.inr rfl)) (Wi.close_cap (.inr rfl)) (fun k hk=>Wi.close_ring (.inr rfl) hk);have W2:=WF.same W a.fds (jak ht) (Wi.close_same (.inr rfl) (by show t.x.e1.what≠1;omega))
 suffices q:∃h',cl d (.fn 94) [.p w 0,.i m] h=some (.i 0,h')/\h'=h3 by
  obtain⟨h',e,rfl⟩:=q;exact⟨h',e,⟨_,W2,jbl⟩,X.toU u2⟩
 refine jae (aT Z ?_);refine qm ?_;exact⟨rfl,rfl⟩
theorem jk8{d n k:Nat}{l:List WX}{t:WX}{q:List UInt8}(hd:9<=d)(a:WF h w s ow f l now tb no)(ht:l[n]?=some t)(hk:k=0\/k=1)(hq:(t.x.e k).ring=some q) :
  ∃h1 h2,cl (d-1) (.fn 153) [.p (t.r k) 0] h=some (.i q.length,h1)/\cl (d-1) (.fn 148) [.p t.wb 0,.i (k:Int),.bool true,.bool true] h1=some (.tup [],h2) /\
   WF h2 w s ow f (l.set n {t with x:=(t.x.setq k []).came k true true}) now tb no/\To h h2 ow ow/\h2.nx=h1.nx:=by
 have X:=a.ok n t ht;obtain⟨p1,p2,p3,p4,p5,p6⟩:=X.apart hk hq;obtain⟨h1,e1,R1,c1⟩:=jmG Z (d:=d-1) om p1 p2 p3 p4;have W1:=a.clear ht hk hq c1 R1;have vK:(l.set n {t with x:=t.x.setq k []})[n]?=some {t with x:=t.x.setq k []}:= by rw[zi,zD rfl,zD (x_lt ht)]
 have X1:=W1.ok n _ vK;obtain⟨h2,e2,u2⟩:=jg0 Z (d:=d-1) (k:=k) om X1.hx hk true true;have W2:=W1.upd vK u2 (by rcases hk with rfl|rfl<;>rfl) (by rcases hk with rfl|rfl<;>rfl) (fun i hi=>by rcases hk with rfl|rfl<;>rcases hi with rfl|rfl<;>rfl);rw[List.set_set]at W2;refine⟨h1,h2,e1,e2,W2,?_,u2.nx⟩;refine To.trans ⟨c1.weaken fun j hj hb=>?_,fun _ _=>rfl⟩ (X1.toU u2);obtain⟨_,o2,_⟩:=X.ring k hk q hq;have hb:j=t.r k:=hb;subst hb;omega
theorem jmv{d:Nat}{n:Int}(hd:10<=d)(a:WSt h w s ow ws now tb no)(o:WsOk ws) :
  ∃h',cl d (.fn 96) [.p w 0,.i n] h=some (.i (jch ws n).1,h')/\WSt h' w s ow (jch ws n).2 now tb no/\To h h' ow ow:=by
 obtain⟨l,a,rfl⟩:=a;rcases jfP Z (d:=d-1) (n:=n) om a.wf with⟨j5,e1⟩|⟨m,t,rfl,ht,h2,e1⟩
 .have hS:jch (wxs l) n=(116,wxs l):=jbI j5;rw[hS]
  suffices q:∃h',cl d (.fn 96) [.p w 0,.i n] h=some (.i 116,h')/\Old h h' by
   obtain⟨h',e,q⟩:=q;exact⟨h',e,⟨l,a.old q,rfl⟩,ZA q⟩
  refine jae (aT Z ?_);refine qm ?_;exact⟨rfl,Zz _⟩
 have X:=a.wf.ok m t ht;have hx:=X.hx;have lx:=X.lx;unfold Wi.obj at hx;have hS:jch (wxs l) (m:Int)=_:=jbJ (jak ht) h2;have f2:=Zv (x:=t.x) (r0:=t.r0) (r1:=t.r1) (wv:=t.wv) (o:=0+14) rfl;cases hrs:t.x.reset
 case true=>
  have e3:t.x.doReset=t.x:=by unfold Wi.doReset;rw[zD hrs]
  rw[e3,jjH (jak ht)]at hS;rw[hS]
  suffices q:∃h',cl d (.fn 96) [.p w 0,.i m] h=some (.i 0,h')/\Old h h' by
   obtain⟨h',e,q⟩:=q;exact⟨h',e,⟨l,a.old q,rfl⟩,ZA q⟩
  rw[hrs]at f2;refine jae (aT Z ?_);refine qm ?_;exact⟨rfl,Zz _⟩
 rw[hrs]at f2;rw[hS];obtain⟨q0,dJ⟩:=zK.1 ((o.ok _ (zc (jak ht))).out h2).1;obtain⟨q1,pD⟩:=zK.1 ((o.ok _ (zc (jak ht))).out h2).2;have j4:0+14<(t.x.cells t.r0 t.r1 t.wv).length:=by rw[Wi.cells_length];omega
 have u1:Upd t.wb (({t.x with reset:=true}:Wi).obj t.r0 t.r1 t.wv) h (h.set t.wb (.cells ((t.x.cells t.r0 t.r1 t.wv).set (0+14) (.bool true)) false)):=Zt;have W1:=a.wf.upd ht u1 rfl rfl (fun i hi=>by rcases hi with rfl|rfl<;>rfl);have T1:=X.toU u1;generalize hg1:h.set t.wb (.cells ((t.x.cells t.r0 t.r1 t.wv).set (0+14) (.bool true)) false)=g1 at u1 W1 T1;have vK:(l.set m {t with x:= {t.x with reset:=true}})[m]?=some {t with x:= {t.x with reset:=true}}:= by rw[zi,zD rfl,zD (x_lt ht)]
 obtain⟨g2,g3,e2,e3,W3,T3,_⟩:=jk8 Z (d:=d) (k:=0) om W1 vK (.inl rfl) dJ;rw[List.set_set]at W3;have wI:(l.set m {t with x:=(Wi.setq {t.x with reset:=true} 0 []).came 0 true true})[m]?=some {t with x:=(Wi.setq {t.x with reset:=true} 0 []).came 0 true true}:= by rw[zi,zD rfl,zD (x_lt ht)]
 obtain⟨g4,g5,e4,e5,W5,T5,_⟩:=jk8 Z (d:=d) (k:=1) om W3 wI (.inr rfl) pD;rw[List.set_set]at W5;have rY:=(W1.ok m _ vK).hx;have sY:=(W3.ok m _ wI).hx;have c1:((({t.x with reset:=true}:Wi)).cells t.r0 t.r1 t.wv)[0+0+(0:Int).toNat*7+2]?=some (.p t.r0 0):=Wi.ring_cell (r0:=t.r0) (r1:=t.r1) (wv:=t.wv) (k:=0) (.inl rfl) dJ rfl;have c3:(((Wi.setq {t.x with reset:=true} 0 []).came 0 true true).cells t.r0 t.r1 t.wv)[0+0+(1:Int).toNat*7+2]?=some (.p t.r1 0):=Wi.ring_cell (r0:=t.r0) (r1:=t.r1) (wv:=t.wv) (k:=1) (.inr rfl) pD rfl;have pL:Wi.came (Wi.setq ((Wi.setq {t.x with reset:=true} 0 []).came 0 true true) 1 []) 1 true true=t.x.doReset:=by
  unfold Wi.doReset;rw[zC (by rw[hrs];simp)]
 rw[pL]at W5;have W6:=WF.same W5 a.fds (jak ht) (by
  rw[<- pL];rintro i (rfl|rfl)<;>exact⟨Iff.rfl,fun _=>rfl⟩)
 suffices q:∃h',cl d (.fn 96) [.p w 0,.i m] h=some (.i 0,h')/\h'=g5 by
  obtain⟨h',e,rfl⟩:=q;exact⟨h',e,⟨_,W6,jbl⟩,T1.trans (T3.trans T5)⟩
 clear W1 W3 W5 W6 T1 T3 T5 hS pL u1 o a X;have e2:cl (d-1) (.fn 153) [.p t.r0 0] g1=_:=e2;have e4:cl (d-1) (.fn 153) [.p t.r1 0] g3=_:=e4;have rY:g1.get t.wb=some (.cells (({t.x with reset:=true}:Wi).cells t.r0 t.r1 t.wv) false):=rY;have sY:g3.get t.wb=some (.cells (((Wi.setq {t.x with reset:=true} 0 []).came 0 true true).cells t.r0 t.r1 t.wv) false):=sY;refine jae (aT Z ?_);refine Ga ?_;refine zcs rfl rfl rfl hx j4 ?_;rw[hg1];refine Ga ?_;refine Zw (n:=99999) rfl ?_;refine Ga ?_;refine Zx (n:=99998) ?_;refine Ga ?_;refine Zx (n:=99997) ?_;refine Ga ?_;exact⟨rfl,rfl⟩
end
theorem jfi{ws ws':Ws}{fd:Int}(h:∀n k,AtW ws' n k fd↔AtW ws n k fd):atS ws' fd=atS ws fd:=by
 have e:(fun p:Nat×Nat=>AtW ws' p.1 p.2 fd)=fun p=>AtW ws p.1 p.2 fd:=by funext p;exact propext (h p.1 p.2)
 have e2:(∃p:Nat×Nat,AtW ws' p.1 p.2 fd) = ∃p:Nat×Nat,AtW ws p.1 p.2 fd:=congrArg Exists e;unfold atS;by_cases hx:∃p:Nat×Nat,AtW ws p.1 p.2 fd
 .have cB:∃p:Nat×Nat,AtW ws' p.1 p.2 fd:=e2 ▸ hx;rw[dif_pos hx,dif_pos cB];congr 2
 .have cB:¬ ∃p:Nat×Nat,AtW ws' p.1 p.2 fd:=e2 ▸ hx;rw[dif_neg hx,dif_neg cB]
section
variable{h h':H}{w s:Nat}{ow:Nat->Nat}{f:Nat->Option (Nat×Nat)}{l:List WX}{now:Int}{tb:Tb}{no:Option (Nat×Nat)}{n k m:Nat}{t:WX}
def WX.noWait(t:WX):WX:= {t with x:= {t.x with waiting:=[]},wv:= .nils}
theorem WF.noWait(a:WF h w s ow f l now tb no)(ht:l[n]?=some t):WF (h.set t.wb (t.noWait.x.obj t.r0 t.r1 .nils)) w s ow f (l.set n t.noWait) now tb no:=by
 have X:=a.ok n t ht;have o0:=X.ox;have d5:∀j,ow j≠10*n+10->j≠t.wb:=fun j hj e=>hj (by rw[e,o0]);refine a.turn ht (zq _) (fun j _ hn=>jaa (d5 j fun e=>hn om)) ⟨jab _,X.ox,X.lx,fun i hi q hq=>?_,VI.nil _,fun e=>zJ rfl e⟩ rfl;obtain⟨p1,p2,p3,p4,p5⟩:=X.ring i hi q hq;exact⟨p1.keep (jaa (d5 _ om)) (jaa (d5 _ om)),p2,p3,p4,p5⟩
end
section
variable{cl:Nat->Call}(Z:Sem cl){h:H}{w s:Nat}{ow:Nat->Nat}{ws:Ws}{now:Int}{tb:Tb}{no:Option (Nat×Nat)}
include Z
theorem ww_Close{d:Nat}{fd:Int}(hd:4<=d)(a:WSt h w s ow ws now tb no)(o:WsOk ws) :
  ∃h',cl d (.fn 41) [.p w 0,.i fd] h=some (.i (jc4 ws fd).1,h')/\WSt h' w s ow (jc4 ws fd).2 now tb no/\To h h' ow ow:=by
 obtain⟨l,a,rfl⟩:=a;rcases jdC Z (d:=d-1) (fd:=fd) om a o.uniq with⟨j5,h1,e1,o1,x1⟩|⟨n,k,m,t,rfl,hm,d7,ht,hk,h1,e1,o1,x1⟩
 .have hS:jc4 (wxs l) fd=(110,wxs l):=jaD j5;rw[hS]
  suffices q:∃h',cl d (.fn 41) [.p w 0,.i fd] h=some (.i 110,h')/\Old h h' by
   obtain⟨h',e,q⟩:=q;exact⟨h',e,⟨l,a.old q,rfl⟩,ZA q⟩
  refine jae (aT Z ?_);refine qm ?_;exact⟨rfl,o1.new.set o1.1⟩
 have hS:jc4 (wxs l) (m:Int)=_:=jaA o.uniq d7 (jak ht);rw[hS]
 suffices q:∃h',cl d (.fn 41) [.p w 0,.i m] h=some (.i 0,h')/\WSt h' w s ow (noWait (jaG ((wxs l).set n (t.x.close k)) t.x.waiting) n) now tb no/\To h h' ow ow by exact q
 clear hS;obtain⟨wl,ww⟩:=o.wait _ (zc (jak ht));have u:=o.uniq;clear o;have o2:Old h ((h1.new (.cells [.bool false,.i 0,.i 0] false)).set h1.nx (.cells [.bool true,.i (n:Int),.i (k:Int)] false)):=o1.new.set o1.1;have a2:=a.old o2;have gH:((h1.new (.cells [.bool false,.i 0,.i 0] false)).set h1.nx (.cells [.bool true,.i (n:Int),.i (k:Int)] false)).get h1.nx=some (.cells [.bool true,.i (n:Int),.i (k:Int)] false):=jab _;have Yd:h1.nx<((h1.new (.cells [.bool false,.i 0,.i 0] false)).set h1.nx (.cells [.bool true,.i (n:Int),.i (k:Int)] false)).nx:=by simp
 generalize hh2:(h1.new (.cells [.bool false,.i 0,.i 0] false)).set h1.nx (.cells [.bool true,.i (n:Int),.i (k:Int)] false)=h2 at o2 a2 gH Yd;obtain⟨sa,sc,qA,_⟩:=a2.wf.head;have W3:=a2.wf.place (i:=m) (o:=0+(m:Int).toNat*3) (p:=none) om om qA;have T3:To h2 (h2.set w (.cells (jao (wc (fun i=>atS (wxs l) (i:Int)) (.slice sa l.length sc) s now no) (0+(m:Int).toNat*3) (plc none)) false)) ow ow:=⟨Zs (by show ow w≠0;rw[a.wf.tw];omega),fun _ _=>rfl⟩
 have tK:(h2.set w (.cells (jao (wc (fun i=>atS (wxs l) (i:Int)) (.slice sa l.length sc) s now no) (0+(m:Int).toNat*3) (plc none)) false)).get h1.nx=some (.cells [.bool true,.i (n:Int),.i (k:Int)] false):=by
  have:=a.wf.lw;have:=o1.1;rw[jaa om,gH]
 have aS:0+(m:Int).toNat*3+3<=(wc (fun i=>atS (wxs l) (i:Int)) (.slice sa l.length sc) s now no).length:=by rw[jbv];omega
 generalize hh3:h2.set w (.cells (jao (wc (fun i=>atS (wxs l) (i:Int)) (.slice sa l.length sc) s now no) (0+(m:Int).toNat*3) (plc none)) false)=h3 at W3 T3 tK;have X3:=W3.ok n t ht;obtain⟨h4,e4,u4⟩:=jj2 Z (d:=d-1) om X3.hx hk;have W4:=W3.upd ht u4 (Wi.close_waiting hk) (Wi.close_cap hk) (fun i hi=>Wi.close_ring hk hi);have T4:To h h4 ow ow:=To.old o2 (T3.trans (X3.toU u4));have rN:(l.set n {t with x:=t.x.close k})[n]?=some {t with x:=t.x.close k}:= by rw[zi,zD rfl,zD (x_lt ht)]
 have bS:h4.get t.wb=some (.cells ((t.x.close k).cells t.r0 t.r1 t.wv) false):=u4.self;have pK:(t.x.close k).waiting=t.x.waiting:=Wi.close_waiting hk;have tP:wxs (l.set n {t with x:=t.x.close k})=(wxs l).set n (t.x.close k):=jbl;rw[<- tP];have cS:∀i j fd',AtW (wxs (l.set n {t with x:=t.x.close k})) i j fd'↔AtW (wxs l) i j fd'/\¬(i=n/\j=k):=by
  rw[tP];exact AtW_close (jak ht) hk
 have Ae:(l.set n {t with x:=t.x.close k}).length=l.length:=by simp
 generalize hL:t.x.waiting=L at wl ww pK ⊢;have iV:∀j∈L,∃y:Wi,0<=j/\(wxs (l.set n {t with x:=t.x.close k}))[j.toNat]?=some y/\y.e0.what≠1:=by
  intro j hj;obtain⟨y,y0,y1,y2⟩:=ww j hj;rw[tP,zi];by_cases e:n=j.toNat
  .rw[zD e,zD (by rw[List.length_map];exact x_lt ht)];rw[<- e,jak ht]at y1;cases y1;refine⟨_,y0,rfl,?_⟩;have:(t.x.e 0).what=0:=y2;rcases hk with rfl|rfl
   .show (3:Int)≠1;omega
   .show (((t.x.close 1).e (1-1)).what)≠1;rw[(Wi.close_other (.inr rfl)).1];show (t.x.e 0).what≠1;omega
  .rw[zC e];exact⟨y,y0,y1,by omega⟩
 have fin:∀(g:H) (l':List WX),WF g w s ow (fun j=>if j=m then none else atS (wxs l) (j:Int)) l' now tb no->(∀i j fd',AtW (wxs l') i j fd'↔AtW (wxs (l.set n {t with x:=t.x.close k})) i j fd')->WW g w s ow l' now tb no:=by
  intro g l' W hA;refine⟨W.congr fun j hj=>?_,fun i j fd' hf=>a.fds i j fd' ((cS _ _ _).1 ((hA _ _ _).1 hf)).1⟩;by_cases e:j=m
  .subst e;rw[zD rfl];refine jfh fun i j' hf=>?_;have h5:=(cS _ _ _).1 ((hA _ _ _).1 hf);exact h5.2 (u _ _ _ _ _ h5.1 d7)
  .rw[zC e];refine jfi fun i j'=>?_;rw[hA,cS];refine⟨fun h5=>h5.1,fun h5=>⟨h5,fun h6=>?_⟩⟩;obtain⟨rfl,rfl⟩:=h6;obtain⟨x1,q1,_,_,q2⟩:=h5;obtain⟨x2,q3,_,_,q4⟩:=d7;rw[q1]at q3;cases q3;rw[q2]at q4;omega
 have uA:=X3.wait.1;rw[hL]at uA;obtain⟨av,cp,aA,_⟩:=id uA;generalize l.set n {t with x:=t.x.close k} = l1 at W4 rN Ae iV fin ⊢;generalize t.x.close k=y1 at rN bS pK;rw[aA]at bS;clear cS tP ww d7 u u4 W3 X3 T3 hL uA a a2;have q1:(y1.cells t.r0 t.r1 (.slice av L.length cp))[0+16]?=some (.slice av L.length cp):=by simp[Wi.cells,En.cells]
 refine jae (aT Z ?_);refine qm ?_;rw[show (h1.new (.cells [.bool false,.i 0,.i 0] false)).set h1.nx (.cells (jao [.bool false,.i 0,.i 0] 0 [.bool true,.i (n:Int),.i (k:Int)]) false)=h2 from hh2];refine zct rfl rfl rfl rfl qA aS ?_;rw[show jao (wc (fun i=>atS (wxs l) (i:Int)) (.slice sa l.length sc) s now no) (0+(m:Int).toNat*3) [.bool false,.i 0,.i 0]=jao (wc (fun i=>atS (wxs l) (i:Int)) (.slice sa l.length sc) s now no) (0+(m:Int).toNat*3) (plc none) from rfl,hh3];clear qA aS hh3 hh2;refine Ga ?_;refine Zq (fun r e g=>∃(i:Nat) (l2:List WX) (t2:WX),r=L.length-i/\i<=L.length/\e=[(0,.p w 0),(6,.p t.wb 0),(33,.slice av L.length cp),(34,.i L.length),(35,.i i)] /\
   WF g w s ow (fun j=>if j=m then none else atS (wxs l) (j:Int)) l2 now tb no/\l2[n]?=some t2/\t2.wv=t.wv/\t2.wb=t.wb/\t2.x.waiting=L/\jaG (wxs l2) (L.drop i)=jaG (wxs l1) L /\
   (∀i j fd',AtW (wxs l2) i j fd'↔AtW (wxs l1) i j fd')/\(∀j∈L,∃y:Wi,0<=j/\(wxs l2)[j.toNat]?=some y/\y.e0.what≠1)/\To h g ow ow)
  (k:=L.length) Ze ⟨0,l1,_,rfl,by omega,rfl,W4,rN,rfl,rfl,pK,rfl,fun _ _ _=>Iff.rfl,iV,T4⟩ ?_
 clear W4 rN iV T4 q1 bS pK e4 e1 tK;rintro _ _ g ⟨i,l2,t2,rfl,hi,rfl,W,qD,uP,lG,fC,wB,hA,hy,T⟩ fu ih;have X:=W.ok n t2 qD;have uA:=X.wait.1;rw[fC,uP,aA]at uA;by_cases d4:i<L.length
 .have jP:=za d4;have iJ:L.drop i=L[i]::L.drop (i+1):=List.drop_eq_getElem_cons d4;obtain⟨y,y0,vP,y2⟩:=hy L[i] (List.getElem_mem d4);obtain⟨j,hj⟩:=zz y0;rw[hj]at jP iJ vP;rw[zw]at vP;obtain⟨b,of,cs,ro,rfl,lA,Jd⟩:=uA.cell jP;obtain⟨t3,wI,rfl⟩:=jhD vP;have X3:=W.ok j t3 wI;obtain⟨g3,e3,u3⟩:=jj2 Z (d:=d-1) (k:=0) om X3.hx (.inl rfl);have W3:=W.upd wI u3 (Wi.close_waiting (.inl rfl)) (Wi.close_cap (.inl rfl)) (fun i hi=>Wi.close_ring (.inl rfl) hi);have T3:=T.trans (X3.toU u3);have tR:t3.x.SameFd (t3.x.close 0):=Wi.close_same (.inl rfl) y2;obtain⟨sa,sc,eH,cM⟩:=W.head;obtain⟨z3,rfl,_,_,Lj⟩:=cM (jdq wI);have c1:(wc (fun j=>if j=m then none else atS (wxs l) (j:Int)) (.slice (some (z3,0)) l2.length sc) s now no)[0+288]?=some (.slice (some (z3,0)) l2.length sc):=jaR rfl;have c2:(wps l2)[0+(j:Int).toNat*1]?=some (.p t3.wb 0):=by rw[show 0+(j:Int).toNat*1=j by omega];exact jda wI
  have iH:=x_lt wI;have a8:((i+1:Nat):Int)=(i:Int)+1:=by omega
  have e3:cl (d-1) (.fn 86) [.p t3.wb 0,.i 0] g=some (.tup [],g3):=e3;have vU:∃t4,(l2.set j {t3 with x:=t3.x.close 0})[n]?=some t4/\t4.wv=t.wv/\t4.wb=t.wb/\t4.x.waiting=L:=by
   by_cases hjn:j=n
   .subst hjn;rw[qD]at wI;cases wI;exact⟨{t2 with x:=t2.x.close 0},by rw[zi,zD rfl,zD (x_lt qD)],uP,lG,fC⟩
   .exact⟨t2,by rw[zi,zC hjn,qD],uP,lG,fC⟩
  obtain⟨t4,rN,Be,Ce,pK⟩:=vU;have wU:jaG (wxs (l2.set j {t3 with x:=t3.x.close 0})) (L.drop (i+1))=jaG (wxs l1) L:=by
   rw[<- wB,iJ];show _=jaG (jdL (wxs l2) (j:Int)) _;unfold jdL;rw[zw,vP,jbl]
  have De:∀i j' fd',AtW (wxs (l2.set j {t3 with x:=t3.x.close 0})) i j' fd'↔AtW (wxs l1) i j' fd':=fun i j' fd'=>by
   rw[jbl,jk3 vP tR,hA]
  have Ee:∀j'∈L,∃y:Wi,0<=j'/\(wxs (l2.set j {t3 with x:=t3.x.close 0}))[j'.toNat]?=some y/\y.e0.what≠1:=by
   intro j' jH;obtain⟨y,z0,z1,z2⟩:=hy j' jH;rw[jbl,zi];by_cases e:j=j'.toNat
   .rw[zD e,zD (by rw[List.length_map];exact iH)];exact⟨_,z0,rfl,by show (3:Int)≠1;omega⟩
   .rw[zC e];exact⟨y,z0,z1,z2⟩
  clear wB iJ hA hy uA T X X3 W u3 tR fin y0 y2;refine Ga ?_;exact ih (L.length-(i+1)) om _ _ ⟨i+1,_,t4,rfl,by omega,by rw[a8],W3,rN,Be,Ce,pK,wU,De,Ee,T3⟩
 .obtain rfl:i=L.length:=by omega
  rw[List.drop_length]at wB;have wB:wxs l2=jaG (wxs l1) L:=wB;have W5:=W.noWait qD;have wC:=X.hx;unfold Wi.obj at wC;rw[lG]at wC W5;have j4:0+16<(t2.x.cells t2.r0 t2.r1 t2.wv).length:=by rw[Wi.cells_length];omega
  have eo:Obj.cells ((t2.x.cells t2.r0 t2.r1 t2.wv).set (0+16) .nils) false=t2.noWait.x.obj t2.r0 t2.r1 .nils:=by rfl
  have kR:t2.x.SameFd t2.noWait.x:=fun _ hk=>by rcases hk with rfl|rfl<;>exact⟨Iff.rfl,fun _=>rfl⟩
  have F2:=fin _ _ W5 fun i j fd'=>by rw[jbl,jk3 (jak qD) kR,hA]
  have ox:=X.ox;rw[lG]at ox;clear ih hy hA fin;refine Ga ?_;refine zcs rfl rfl rfl wC j4 ?_;rw[eo];refine Ga ?_;refine⟨rfl,⟨_,F2,?_⟩,T.trans ⟨Zs (by show ow t.wb≠0;omega),fun _ _=>rfl⟩⟩;show _=noWait _ n;unfold noWait;rw[<- wB,jak qD,jbl];rfl
end
theorem jjr{l:List Int}{cs:List V}{o:Nat}(hc:∀(i:Nat) (x:Int),l[i]?=some x->cs[o+i]?=some (.i x))(h0:0<l.length):o+l.length<=cs.length/\(cs.drop o).take l.length=ints l:=by
 have h1:o+l.length<=cs.length:=by
  have:=hc (l.length-1) _ (za om);rcases zx (o+(l.length-1)) cs.length with h|h
  .omega
  .rw[zd h]at this;cases this
 refine⟨h1,zT fun i=>?_⟩;rw[zN,List.getElem?_map];by_cases hi:i<l.length
 .rw[zD hi,zm,hc i _ (za hi),za hi];rfl
 .rw[zC hi,zd om];rfl
theorem ints_one(l:List Int):(ints l).all V.one=true:=by
 rw[zS];intro v hv;obtain⟨n,_,rfl⟩:=List.mem_map.1 hv;rfl
section
variable{call:Call}{fuel base:Nat}{ops:List Ins}{keep:List Nat}{K:List Fr}{e:Env}{h:H}{Q:Post}{ix:Nat}{dst:Option Nat}{c:List (Nat×I×Option (Nat×Bool))}
theorem Ops.appI{N:Nat}{x y:Opd}{sv v:V}{q l:List Int}(hx:x.ev e=some sv)(hy:y.ev e=some v)(r:Row N h 1 sv q.length (ints q))(hN:N<=h.nx)(hv:VI h v l)(hn:q.length+l.length<=1000000)
  (hc:∀h':H,h.nx<=h'.nx->(∀j,j<h.nx->sv.at?≠some j->h'.get j=h.get j)->jaO e h' c=true)
  (k:∀v' h',Row N h' 1 v' (q++l).length (ints (q++l))->h.nx<=h'.nx->(∀j,j<h.nx->sv.at?≠some j->h'.get j=h.get j)->Ops call fuel base ops keep K (layv e dst v') h' Q) :
  Ops call fuel base (⟨ix,dst,.append 1 8 x y,none,none,c⟩::ops) keep K e h Q:=by
 obtain⟨a,cp,rfl,n,f,g⟩:=hv;by_cases hl:l=[]
 .subst hl;have eB:jaz h 1 0 (.slice a 0 cp)=some []:=by cases a<;>rfl
  refine Ops.step_chk (v:=sv) (h':=h) (Zp rfl ?_) (hc h (zq _) fun _ _ _=>rfl) (k sv h (by simpa using r) (zq _) fun _ _ _=>rfl);obtain⟨cap,⟨sa,rfl⟩,_⟩:=r.shape;simp only[I.eff,hx,hy,jaH,lenOf,List.length_nil,eB];have tC:(Nat.ble ((q.length+0)*8) (2 ^ 46)&&Nat.ble (q.length+0) (2 ^ 46))=true:=by simp only[zp,zQ];omega
  rw[tC];rfl
 .obtain⟨b,o,cs,ro,rfl,h1,h2,h3⟩:=g hl;have pB:0<l.length:=List.length_pos_iff.2 hl;obtain⟨p1,p2⟩:=jjr h3 pB;obtain⟨v',h',e1,e2,e3,e4,e5⟩:=jfH (bytes:=8) (cap:=cp) (m:=l.length) (so:=o) (new:=ints l) r hN pB h2 om (by rw[Nat.mul_one];exact p2) (ints_one l) om om om;refine Ops.step_chk (Zp rfl (by simp only[I.eff,hx,hy,e1])) (hc h' om e5) (k v' h' ?_ om e5);rw[zg];simpa[ints] using e2
theorem Ops.app1c{N q':Nat}{s y:Opd}{sv:V}{cs:List Int}{x:Int}{cap:Cap}(hs:s.ev e=some sv)(hy:y.ev e=some (.slice (some (q',0)) 1 cap))(r:Row N h 1 sv cs.length (ints cs))(hN:N<=h.nx)(hq:h.get q'=some (.cells [.i x] false))
  (hn:cs.length+1<=1000000) (d5:sv.at?≠some q') (hc:∀h':H,(∀j,j<h.nx->sv.at?≠some j->h'.get j=h.get j)->jaO e h' c=true)
  (k:∀v' h',Row N h' 1 v' (cs++[x]).length (ints (cs++[x]))->h.nx<=h'.nx->(∀j,j<h.nx->sv.at?≠some j->h'.get j=h.get j)->Ops call fuel base ops keep K (layv e dst v') h' Q) :
  Ops call fuel base (⟨ix,dst,.append 1 8 s y,none,none,c⟩::ops) keep K e h Q:=by
 obtain⟨v',h',e1,e2,e3,e4,e5⟩:=jfj (bytes:=8) (cap:=cap) r hN hq rfl rfl om om om d5;refine Ops.step_chk (Zp rfl (by simp only[I.eff,hs,hy,e1])) (hc h' e5) (k v' h' ?_ e3 e5);rw[zg];simpa[ints] using e2
end
theorem RX.in_cells{r:RX}{k:Nat}{w:Int}(hk:k=0\/k=1):(({r with x:=r.x.put k {r.x.e k with inn:=w}}:RX)).cells=r.cells.set (k*8+6) (.int .u64 w):=by
 obtain⟨⟨e0,e1,cap,rs,bl,wt⟩,v0,v1,vw⟩:=r;rcases hk with rfl|rfl<;>simp[Wi.put,Wi.e,RX.cells,En.rcells]
section
variable{cl:Nat->Call}(Z:Sem cl)
include Z
theorem cn_end{E:Env}{d rw q bx:Nat}{g:H}{l:List RX}{tl:List V}{x:Wi}(w:RW g rw q l tl)(f:Fresh x)(aE:g.get bx=some (.cells (RX.fresh x).cells false))(hl:l.length<=1000) :
  Run (cl (d-1)) fuel c99_1 [] ((0,.p rw 0)::(8,.p bx 0)::E) g
   (Fin c99.res fun v h'=>∃q',v = .tup [.i (l.length:Int),.i 0]/\RW h' rw q' (l++[RX.fresh x]) tl/\Ch (RC rw q) g h'/\g.nx<=q'):=by
 obtain⟨v,hw,row,aM,m9⟩:=w.row;have l9:(g.reserve 1).get rw=_:=hw;have dV:(g.reserve 1).get bx=_:=aE;refine zab (Zo ?_);refine Ga ?_;refine zcw rfl dV (by rw[RX.len];omega) ?_;rw[zk,zh (by rw[RX.len];omega)];refine Ops.bslice1_at (new:=(RX.fresh x).cells) rfl rfl (RX.len _) rfl ?_;have hG:((g.reserve 1).set (g.nx+0) (.cells (RX.fresh x).cells false)).nx=g.nx+1:=rfl;have uK:((g.reserve 1).set (g.nx+0) (.cells (RX.fresh x).cells false)).get (g.nx+0)=some (.cells (RX.fresh x).cells false):=jab _;have kG:∀j,j<g.nx->((g.reserve 1).set (g.nx+0) (.cells (RX.fresh x).cells false)).get j=g.get j:=fun j hj=>by rw[jaa om];rfl
 generalize (g.reserve 1).set (g.nx+0) (.cells (RX.fresh x).cells false)=G at hG uK kG ⊢;have lq:=w.lq;have lw:=w.lw;have rowG:Row 0 G 20 v l.length (rows l):=row.keep om fun z hz=>kG z (by have:=aM z hz;omega);refine Ops.app1 (N:=0) rfl rfl rowG (zY _) uK (RX.len _) (RX.cells_one (r:=RX.fresh x) rfl rfl rfl) om om om (fun e=>by have:=aM _ e;omega) fun h1 lC d4 hk=>?_;have w6:∀j,j<g.nx->j≠q->h1.get j=g.get j:=fun j hj hn=>by rw[hk j om (fun e=>hn (aM j e)),kG j hj]
 have lF:h1.get G.nx=some (.cells (rows l++(RX.fresh x).cells) false):=by
  rcases lC with⟨h0,_⟩|⟨b,_,_,e,h4,_⟩
  .omega
  .cases e;exact h4
 obtain⟨w2,c2⟩:=w.push f lF om d4 w6;have qA:h1.get rw=some (.cells (v::tl) false):=by rw[w6 rw lw w.ne,hw]
 refine Ga ?_;refine zcs rfl rfl rfl qA Zd ?_;refine Ga ?_;have el:((l.length+1:Nat):Int)-1=(l.length:Int):=by omega
 refine⟨_,?_,w2,c2,by omega⟩;rw[el]
theorem cn_mid{E:Env}{d rw q bx n:Nat}{g:H}{l:List RX}{tl:List V}{x:Wi}{r:RX}(w:RW g rw q l tl)(f:Fresh x)(aE:g.get bx=some (.cells (RX.fresh x).cells false))(xC:bx≠q/\bx≠rw/\bx<g.nx)(hl:l.length<=1000)(hr:l[n]?=some r)(fC:r.x.waiting.length<=64) :
  Run (cl (d-1)) fuel c99_4 [] ((0,.p rw 0)::(1,.i (n:Int))::(8,.p bx 0)::(10,.nils)::E) g
   (Fin c99.res fun v h'=>∃q' v',v = .tup [.i (l.length:Int),.i 0] /\
    RW h' rw q' (l.set n { (r.setw v' (r.x.waiting++[(l.length:Int)])) with x:=(r.setw v' (r.x.waiting++[(l.length:Int)])).x.put 0 { (r.setw v' (r.x.waiting++[(l.length:Int)])).x.e 0 with inn:=upu (r.x.e 0).inn}} ++ [RX.fresh x]) tl/\Ch (RC rw q) g h'/\g.nx<=q'):=by
 obtain⟨C,hC⟩:∃C,C=c99_1:=⟨_,rfl⟩
 simp only[c99_4,c99_3,c99_2,yB];rw[<- hC];obtain⟨hw,hq,d5⟩:=w.rat hr;have hn:=r_lt hr;have q1:=jmL hr;have q2:=r_in (k:=0) hr (.inl rfl);have uA:=(w.rok hr).w.1;have lw:=w.lw;have lq:=w.lq;refine Ga ?_;refine Ops.appI (N:=g.nx) (q:=[]) rfl rfl (Row.nil _ _ _) (zq _) uA Zc (fun _ _ _=>rfl) fun v1 h1 lC qB hold1=>?_;have jG:∀j,j<g.nx->h1.get j=g.get j:=fun j hj=>hold1 j hj (by intro e;cases e);have l9:h1.get rw=some (.cells (.slice (some (q,0)) l.length (.grow 20)::tl) false):=by rw[jG rw lw,hw]
 have pD:h1.get q=some (.cells (rows l) false):=by rw[jG q lq,hq]
 have mK:∀j,j<g.nx->v1.at?≠some j:=fun j hj e=>by have:=lC.at_ge e;omega
 refine Ga ?_;refine Zo ?_;have l9:(h1.reserve 1).get rw=_:=l9;have pD:(h1.reserve 1).get q=_:=pD;refine Ga ?_;refine Ops.bslice1_at (new:=[.i (l.length:Int)]) rfl rfl rfl rfl ?_;have hG:((h1.reserve 1).set (h1.nx+0) (.cells [.i (l.length:Int)] false)).nx=h1.nx+1:=rfl;have uK:((h1.reserve 1).set (h1.nx+0) (.cells [.i (l.length:Int)] false)).get (h1.nx+0)=some (.cells [.i (l.length:Int)] false):=jab _;have kG:∀j,j<h1.nx->((h1.reserve 1).set (h1.nx+0) (.cells [.i (l.length:Int)] false)).get j=h1.get j:=fun j hj=>by rw[jaa om];rfl
 generalize (h1.reserve 1).set (h1.nx+0) (.cells [.i (l.length:Int)] false)=G at hG uK kG ⊢;have rowG:=lC.keep (h':=G) om fun z hz=>kG z (lC.at_ge hz).2;have Fe:G.get rw=some (.cells (.slice (some (q,0)) l.length (.grow 20)::tl) false):=by rw[kG rw om,jG rw lw,hw]
 refine Ops.app1c (N:=g.nx) (cs:=[]++r.x.waiting) rfl rfl rowG om uK Zc (fun e=>by have:=lC.at_ge e;omega) (fun h' ho=>jau rfl (by rw[ho rw om (mK rw lw),Fe]) rfl rfl ja9) fun v2 h2 aC wC hold2=>?_;have wK:Old g h2:=⟨by omega,fun j hj=>by rw[hold2 j om (mK j hj),kG j om,jG j hj]⟩
 have w2:=w.old wK;obtain⟨p1,p2⟩:=VI.ofRow aC;rw[List.nil_append]at p1;have Ge:h2.get bx=some (.cells (RX.fresh x).cells false):=by rw[wK.2 bx xC.2.2,aE]
 have ok':=(w2.rok hr).setw p1 fun z hz=>by have:=p2 z hz;omega
 have u:Upd q (.cells (rows (l.set n (r.setw v2 (r.x.waiting++[(l.length:Int)])))) false) h2 (h2.set q (.cells (rows (l.set n (r.setw v2 (r.x.waiting++[(l.length:Int)])))) false)):=Zt;have w3:=w2.set hr u ok';obtain⟨qA,iD,_⟩:=w2.rat hr;have j4:0+(n:Int).toNat*20+19<(rows l).length:=by rw[ja1];omega
 refine Ga ?_;refine zcs rfl rfl p1.one iD j4 ?_;rw[jeW hr om (RX.setw_cells r v2 (r.x.waiting++[(l.length:Int)])) om];have dI:=get_set (r':=r.setw v2 (r.x.waiting++[(l.length:Int)])) hr;have c3:Ch (RC rw q) g (h2.set q (.cells (rows (l.set n (r.setw v2 (r.x.waiting++[(l.length:Int)])))) false)):=wK.ch.trans (u.ch (.inl rfl));have tY:(h2.set q (.cells (rows (l.set n (r.setw v2 (r.x.waiting++[(l.length:Int)])))) false)).get bx=some (.cells (RX.fresh x).cells false):=by rw[jaa xC.1,Ge]
 have hJ:∀s,l.set n s=(l.set n (r.setw v2 (r.x.waiting++[(l.length:Int)]))).set n s:=fun s=>set_set.symm;have jK:(l.set n (r.setw v2 (r.x.waiting++[(l.length:Int)]))).length=l.length:=by simp
 have Mj:((r.setw v2 (r.x.waiting++[(l.length:Int)])).x.e 0).inn=(r.x.e 0).inn:=rfl
 suffices s:True by
  generalize h2.set q (.cells (rows (l.set n (r.setw v2 (r.x.waiting++[(l.length:Int)])))) false)=g3 at w3 c3 tY ⊢;obtain⟨eH,mN,_⟩:=w3.rat dI;have eV:=r_lt dI;have q3:=r_in (k:=0) dI (.inl rfl);have aS:0+(n:Int).toNat*20+0+Int.toNat 0*8+6<(rows (l.set n (r.setw v2 (r.x.waiting++[(l.length:Int)])))).length:=by rw[ja1];omega
  have e3:=jiM (f:=6) (o:=0+(n:Int).toNat*20+0+Int.toNat 0*8+6) dI (.inl rfl) om (RX.in_cells (k:=0) (w:=upu (r.x.e 0).inn) (.inl rfl)) Zd;have u4:Upd q (.cells (rows ((l.set n (r.setw v2 (r.x.waiting++[(l.length:Int)]))).set n { (r.setw v2 (r.x.waiting++[(l.length:Int)])) with x:=(r.setw v2 (r.x.waiting++[(l.length:Int)])).x.put 0 { (r.setw v2 (r.x.waiting++[(l.length:Int)])).x.e 0 with inn:=upu (r.x.e 0).inn}})) false) g3 _:=Zt;have w4:=w3.set dI u4 ((w3.rok dI).put (e:= { (r.setw v2 (r.x.waiting++[(l.length:Int)])).x.e 0 with inn:=upu (r.x.e 0).inn}) (.inl rfl) rfl);have He:=(u4.get bx xC.1).trans tY;clear hJ;refine Ga ?_;refine zcs rfl rfl rfl mN aS ?_;have e3:(rows (l.set n (r.setw v2 (r.x.waiting++[(l.length:Int)])))).set (0+(n:Int).toNat*20+0+Int.toNat 0*8+6) (.int .u64 (IntKind.wrap .u64 (((r.setw v2 (r.x.waiting++[(l.length:Int)])).x.e 0).inn+1)))=_:=e3;rw[e3];refine Ga ?_;rw[hC];refine Zy (cn_end Z (d:=d) (E:=[]) w4 f He Zc) ?_;rintro v h' ⟨q',rfl,p4,p5,p6⟩;rw[set_set]at p4;exact⟨q',v2,by simp,p4,(c3.trans (u4.ch (.inl rfl))).trans p5,zA (zA c3.nx (Nat.le_of_eq u4.nx.symm)) p6⟩
 exact trivial
end
def jbk(many:Int):Wi:=⟨⟨0,0,some [],true,false,0,0⟩,⟨2,0,some [],true,false,0,0⟩,many.toNat,false,0,[]⟩
def jar(ws:Ws)(n many:Int):(Int×Int)×Ws:=
 if n<0 then ((0,116),ws) else match ws[n.toNat]? with
 |none=>((0,116),ws)
 |some x=>if x.backlog=0\/x.e0.what≠1 then ((0,116),ws) else if many<1\/65536<many then ((0,2),ws)
  else if x.backlog<=x.waiting.length then ((0,113),ws) else if 1000<=ws.length then ((0,112),ws)
  else ((ws.length,0),ws.set n.toNat {x with waiting:=x.waiting++[(ws.length:Int)],e0:= {x.e0 with inn:=upu x.e0.inn}} ++ [jbk many])
section
variable{cl:Nat->Call}(Z:Sem cl)
include Z
theorem jjc{d rw q:Nat}{h:H}{l:List RX}{tl:List V}{n many:Int}(hd:3<=d)(w:RW h rw q l tl)(o:WsOk (l.map RX.x)) :
  ∃q' l' h',cl d (.fn 99) [.p rw 0,.i n,.i many] h=some (.tup [.i (jar (l.map RX.x) n many).1.1,.i (jar (l.map RX.x) n many).1.2],h')/\RW h' rw q' l' tl/\l'.map RX.x=(jar (l.map RX.x) n many).2/\Ch (RC rw q) h h'/\(q'=q\/h.nx<=q'):=by
 suffices s:∃v' h',cl d (.fn 99) [.p rw 0,.i n,.i many] h=some (v',h')/\∃q' l',v' = .tup [.i (jar (l.map RX.x) n many).1.1,.i (jar (l.map RX.x) n many).1.2]/\RW h' rw q' l' tl/\l'.map RX.x=(jar (l.map RX.x) n many).2/\Ch (RC rw q) h h'/\(q'=q\/h.nx<=q') by
  obtain⟨_,h',e,q',l',rfl,p⟩:=s;exact⟨q',l',h',e,p⟩
 refine aT Z ?_;have jE:(l.map RX.x).length=l.length:=by simp
 have wF:=o.len;rw[jE]at wF;obtain⟨aw,cw,Nj,iP⟩:=w.head;by_cases h0:n<0
 .have hS:jar (l.map RX.x) n many=((0,116),l.map RX.x):=zD h0;rw[hS];refine Ga ?_;exact⟨q,l,rfl,w,rfl,Zr _ _,.inl rfl⟩
 have hS:jar (l.map RX.x) n many=_:=zC h0;obtain⟨m,rfl⟩:=zz (show 0<=n by omega);rw[zw]at hS;by_cases d4:m<l.length
 case neg=>
  rw[zd (by simpa using d4)]at hS;simp only at hS;rw[hS];refine Ga ?_;exact⟨q,l,rfl,w,rfl,Zr _ _,.inl rfl⟩
 obtain⟨r,hr⟩:∃r,l[m]?=some r:=⟨_,za d4⟩
 obtain⟨rfl,rfl⟩:=iP (by rintro rfl;simp at d4);rw[jaN hr]at hS;simp only at hS;have hq:=(w.rat hr).hq;have q1:=jid hr;have q2:=jji (k:=0) hr (.inl rfl);have q3:=jmL hr;have q2:(rows l)[0+(m:Int).toNat*20+0+((0:Nat):Int).toNat*8+0]?=some (.i r.x.e0.what):=q2;by_cases uC:r.x.backlog=0
 .rw[zD (.inl uC)]at hS;rw[hS];refine Ga ?_;exact⟨q,l,rfl,w,rfl,Zr _ _,.inl rfl⟩
 by_cases l9:r.x.e0.what=1
 case neg=>
  rw[zD (.inr l9)]at hS;rw[hS];refine Ga ?_;exact⟨q,l,rfl,w,rfl,Zr _ _,.inl rfl⟩
 rw[zC (by rintro (e|e);(exact uC e);exact e l9)]at hS;have uY:¬r.x.e0.what≠1:=fun e=>e l9;by_cases hm:many<1\/65536<many
 .rw[zD hm]at hS;rw[hS]
  repeat' (first|refine qxy ?_|(refine zsp ?_ ?_<;>intro _)|fail)
  all_goals first|exact⟨q,l,rfl,w,rfl,Zr _ _,.inl rfl⟩|(exfalso;omega)
 rw[zC hm]at hS;have mC:1<=many:=by omega
 have fE:many<=65536:=by omega
 clear hm;obtain⟨av,cv,aA,_⟩:=(w.rok hr).w.1;rw[aA]at q3;have fC:=(o.wait _ (zc (jaN hr))).1;by_cases xI:r.x.backlog<=r.x.waiting.length
 .rw[zD xI]at hS;rw[hS];refine Ga ?_;exact⟨q,l,rfl,w,rfl,Zr _ _,.inl rfl⟩
 rw[zC xI]at hS;rw[jE]at hS;by_cases aJ:1000<=l.length
 .rw[zD aJ]at hS;rw[hS];refine Ga ?_;exact⟨q,l,rfl,w,rfl,Zr _ _,.inl rfl⟩
 rw[zC aJ]at hS;rw[hS];obtain⟨nn,rfl⟩:=zz (show 0<=many by omega);obtain⟨C,hC⟩:∃C,C=c99_4:=⟨_,rfl⟩
 have oJ:∀(E:Env) (x:Wi) (bx:Nat) (G:H),Fresh x->RW G rw q l tl->G.get bx=some (.cells (RX.fresh x).cells false)->bx≠q/\bx≠rw/\bx<G.nx->_:=
  fun E x bx G f w1 aE hz=>cn_mid Z (E:=E) (d:=d) w1 f aE hz wF hr fC
 rw[<- hC]at oJ;simp only[c99,c99_12,c99_11,c99_10,c99_9,c99_8,c99_7,yB,yF,yH];rw[<- hC];clear hC hS;refine qm ?_;refine Zw (n:=99999) rfl ?_;refine qm ?_;refine Zx ?_;refine qm ?_;refine Zx ?_;refine qm ?_;refine Run.opqh fun G hG=>?_;have oG:Old h G:=by
  rw[hG]
  repeat (first|exact Zz _|refine Old.new ?_|refine Old.set ?_ (zq _))
 have sP:h.nx<G.nx:=by rw[hG];simp
 have aE:G.get h.nx=some (.cells (RX.fresh (jbk nn)).cells false):=by
  rw[hG];exact jab _
 clear hG;have lq:=w.lq;have lw:=w.lw;refine Zy (oJ [] (jbk nn) h.nx G ⟨rfl,rfl,rfl⟩ (w.old oG) aE ⟨by omega,by omega,sP⟩) ?_;rintro v h2 ⟨q',v',rfl,p1,p2,p3⟩;refine⟨q',_,rfl,p1,?_,oG.ch.trans p2,.inr (by have:=oG.1;omega)⟩;rw[List.map_append,map_set];rfl
end
def tail(now:Int)(hd:Nat->Bool)(ct:Nat->Int)(no si:Int):List V:=
 .int .u64 now::(tab 32 (fun i=>.bool (hd i))++(tab 32 (fun i=>.i (ct i))++[.i no,.i si]))
section
variable{v:V}{now no si:Int}{hd:Nat->Bool}{ct:Nat->Int}
theorem t_hd{i o:Nat}(hi:i<32)(ho:o=2+i):(v::tail now hd ct no si)[o]?=some (.bool (hd i)):=by
 subst ho;rw[show 2+i=i+1+1 by omega];show (tab 32 (fun i=>V.bool (hd i))++_)[i]?=_;rw[ze,zD (by simpa using hi),jcD hi]
theorem t_ct{i o:Nat}(hi:i<32)(ho:o=34+i):(v::tail now hd ct no si)[o]?=some (.i (ct i)):=by
 subst ho;rw[show 34+i=(32+i)+1+1 by omega];show (tab 32 (fun i=>V.bool (hd i))++(tab 32 (fun i=>V.i (ct i))++_))[32+i]?=_;rw[ze,zC Zd,tab_length,Zi,ze,zD (by simpa using hi),jcD hi]
theorem t_no{o:Nat}(ho:o=66):(v::tail now hd ct no si)[o]?=some (.i no):=by
 subst ho;show (tab 32 (fun i=>V.bool (hd i))++(tab 32 (fun i=>V.i (ct i))++[.i no,.i si]))[64]?=_;rw[ze,zC Zd,tab_length,ze,zC Zd,tab_length];rfl
theorem t_si{o:Nat}(ho:o=67):(v::tail now hd ct no si)[o]?=some (.i si):=by
 subst ho;show (tab 32 (fun i=>V.bool (hd i))++(tab 32 (fun i=>V.i (ct i))++[.i no,.i si]))[65]?=_;rw[ze,zC Zd,tab_length,ze,zC Zd,tab_length];rfl
theorem jdh:(tail now hd ct no si).length=67:=by simp[tail]
end
theorem RW.tl{h:H}{rw q:Nat}{l:List RX}{tl tl':List V}{v:V}(w:RW h rw q l tl)(hv:h.get rw=some (.cells (v::tl) false)):RW (h.set rw (.cells (v::tl') false)) rw q l tl':=by
 have ch:Ch (RC rw q) h (h.set rw (.cells (v::tl') false)):=Zs (.inr rfl);refine⟨w.lw,w.lq,w.ne,fun hl=>?_,fun hl=>?_,fun s hs=>(w.ok s hs).keep ch⟩
 .have a:=w.at_ hl;rw[a.hw]at hv;cases hv;exact⟨by rw[jab],by rw[jaa w.ne.symm,a.hq],w.ne⟩
 .have a:=w.nil hl;rw[a]at hv;cases hv;rw[jab]
def jcw(now t:Int):Int:=if 18446744073709551615-now<t then 18446744073709551615 else now+t
section
variable{cl:Nat->Call}(Z:Sem cl)
include Z
theorem jo7{d rw q:Nat}{h:H}{l:List RX}{now no si t:Int}{hdl:Nat->Bool}{ct:Nat->Int}(hd:1<=d)(w:RW h rw q l (tail now hdl ct no si))(n0:0<=now)(n1:now<=18446744073709551615)(t0:0<=t)(t1:t<=18446744073709551615) :
  ∃h',cl d (.fn 101) [.p rw 0,.int .u64 t] h=some (.tup [],h')/\RW h' rw q l (tail (jcw now t) hdl ct no si)/\Ch (RC rw q) h h':=by
 refine jae (aT Z ?_);obtain⟨a,c,hw,_⟩:=w.head;have q1:(V.slice a l.length c::tail now hdl ct no si)[0+1]?=some (.int .u64 now):=rfl;have j4:0+1<(V.slice a l.length c::tail now hdl ct no si).length:=by simp[jdh]
 unfold jcw;by_cases hb:18446744073709551615-now<t
 .rw[zD hb];refine Ga ?_;refine zcs rfl rfl rfl hw j4 ?_;refine Ga ?_;exact⟨rfl,w.tl hw,Zs (.inr rfl)⟩
 .rw[zC hb];refine Ga ?_;refine zcs rfl rfl rfl hw j4 ?_;refine Ga ?_;exact⟨rfl,w.tl hw,Zs (.inr rfl)⟩
def sumC(ct:Nat->Int):Nat->Int
 |0=>0
 |n+1=>sumC ct n+ct (n+1)
omit Z in
theorem jou{ct:Nat->Int}(hc:∀i,0<=ct i/\ct i<=1000000):∀n,0<=sumC ct n/\sumC ct n<=1000000*n
 |0=>by simp[sumC]
 |n+1=>by have:=jou hc n;have:=hc (n+1);simp only[sumC];omega
theorem jgD{d rw q:Nat}{h:H}{l:List RX}{now no si:Int}{hdl:Nat->Bool}{ct:Nat->Int}(hd:1<=d)(w:RW h rw q l (tail now hdl ct no si))(hc:∀i,0<=ct i/\ct i<=1000000) :
  cl d (.fn 60) [.p rw 0] h=some (.i (sumC ct 31),h):=by
 refine jaj (aT Z ?_);obtain⟨a,c,hw,_⟩:=w.head;refine Ga ?_;refine Zq (fun m e g=>∃s:Nat,m=31-s/\s<=31/\e=[(0,.p rw 0),(3,.i (sumC ct s)),(4,.i ((s+1:Nat):Int))]/\g=h)
  (k:=31) Ze ⟨0,rfl,by omega,rfl,rfl⟩ ?_
 rintro _ _ h ⟨s,rfl,hs,rfl,rfl⟩ f ih;by_cases d4:s<31
 .have q1:(V.slice a l.length c::tail now hdl ct no si)[0+34+(((s+1:Nat):Int)).toNat*1]?=some (.i (ct (s+1))):=t_ct om om;have hb:=jou hc s;have dB:=hc (s+1);have tC:((s+1:Nat):Int)<=31:=by omega
  have aB:((s+1+1:Nat):Int)=((s+1:Nat):Int)+1:=by omega
  refine Ga ?_;exact ih (31-(s+1)) om _ _ ⟨s+1,rfl,by omega,by rw[aB];rfl,rfl⟩
 .obtain rfl:s=31:=by omega
  have tC:¬((31+1:Nat):Int)<=31:=by omega
  refine Ga ?_;exact⟨rfl,rfl⟩
end
def NtOk(ws:Ws)(no si:Int):Prop:=no = -1\/∃(n k:Nat) (x:Wi),no=n/\si=k/\(k=0\/k=1)/\ws[n]?=some x/\x.e0.ring≠none/\x.e1.ring≠none
def jap(ws:Ws)(sum no si:Int):Ws:=
 if no<0 then ws else match ws[no.toNat]? with
 |none=>ws
 |some x=>match (x.e si.toNat).ring with
  |none=>ws
  |some q=>if sum=0 then ws.set no.toNat (x.take si.toNat q.length q)
   else if q=[] then ws.set no.toNat (x.fill (1-si.toNat) (min 1 x.cap) [] [1]) else ws
section
variable{cl:Nat->Call}(Z:Sem cl)
include Z
theorem jco{d rw q:Nat}{h:H}{l:List RX}{now no si:Int}{hdl:Nat->Bool}{ct:Nat->Int}(hd:3<=d)(w:RW h rw q l (tail now hdl ct no si))(o:WsOk (l.map RX.x))(t8:NtOk (l.map RX.x) no si)(hc:∀i,0<=ct i/\ct i<=1000000) :
  ∃l' h',cl d (.fn 127) [.p rw 0] h=some (.tup [],h')/\RW h' rw q l' (tail now hdl ct no si)/\l'.map RX.x=jap (l.map RX.x) (sumC ct 31) no si/\Ch (RC rw q) h h':=by
 suffices s:∃v' h',cl d (.fn 127) [.p rw 0] h=some (v',h')/\∃l',v' = .tup []/\RW h' rw q l' (tail now hdl ct no si)/\l'.map RX.x=jap (l.map RX.x) (sumC ct 31) no si/\Ch (RC rw q) h h' by
  obtain⟨_,h',e,l',rfl,p⟩:=s;exact⟨l',h',e,p⟩
 refine aT Z ?_;have ep:=jgD Z (d:=d-1) om w hc;rcases t8 with rfl|⟨n,k,x,rfl,rfl,hk,hx,kC,qB⟩
 .obtain⟨a,c,hw,_⟩:=w.head;have q1:(V.slice a l.length c::tail now hdl ct (-1) si)[0+66]?=some (.i (-1)):=t_no rfl;have hS:jap (l.map RX.x) (sumC ct 31) (-1) si=l.map RX.x:=zD om;rw[hS];refine Ga ?_;exact⟨l,rfl,w,rfl,Zr _ _⟩
 obtain⟨r,hr,rfl⟩:∃r,l[n]?=some r/\r.x=x:=by
  rw[List.getElem?_map]at hx;cases hr:l[n]? with
  |none=>rw[hr]at hx;cases hx
  |some r=>rw[hr]at hx;cases hx;exact⟨r,rfl,rfl⟩
 obtain⟨hw,hq,d5⟩:=w.rat hr;have hn:=r_lt hr;have q1:(V.slice (some (q,0)) l.length (.grow 20)::tail now hdl ct (n:Int) (k:Int))[0+66]?=some (.i (n:Int)):=t_no rfl;have q2:(V.slice (some (q,0)) l.length (.grow 20)::tail now hdl ct (n:Int) (k:Int))[0+67]?=some (.i (k:Int)):=t_si rfl;have w7:∃b,(r.x.e k).ring=some b:=by
  rcases hk with rfl|rfl
  .exact zK.1 kC
  .exact zK.1 qB
 obtain⟨b,hb⟩:=w7;obtain⟨hv,_⟩:=(w.rok hr).b k hk;rw[hb]at hv;simp only[Option.getD_some]at hv;obtain⟨a,c,aA,_⟩:=id hv;have q3:=r_b hr hk;rw[aA]at q3;have hS:jap (l.map RX.x) (sumC ct 31) (n:Int) (k:Int)=if sumC ct 31=0 then (l.map RX.x).set n (r.x.take k b.length b) else if b=[] then (l.map RX.x).set n (r.x.fill (1-k) (min 1 r.x.cap) [] [1]) else l.map RX.x:=by
  unfold jap;rw[zC om,zw,zw,jaN hr];simp only[hb]
 rw[hS];by_cases sN:sumC ct 31=0
 .rw[zD sN];obtain⟨v,v',h',e2,p1,p2,p3⟩:=joC Z (d:=d-1) (many:=(b.length:Int)) om w hr hk hb om;rw[show (min (b.length:Int) b.length).toNat=b.length by omega]at p2;refine Ga ?_;exact⟨_,rfl,p2,by rw[map_set,jos hk],p3⟩
 rw[zC sN];by_cases xC:b=[]
 .rw[zD xC];subst xC;have q3:(rows l)[0+(n:Int).toNat*20+0+(k:Int).toNat*8+4]?=some (V.slice a 0 c):=q3;have ek:(1:Int)-(k:Int)=((1-k:Nat):Int):=by omega
  have ekk:1-(1-k)=k:=by omega
  have lw:=w.lw;have lq:=w.lq;have kG:∀j,j<h.nx->((h.reserve 1).set (h.nx+0) (.cells [.int .u8 1] false)).get j=h.get j:=fun j hj=>by rw[jaa om];rfl
  have oG:Old h ((h.reserve 1).set (h.nx+0) (.cells [.int .u8 1] false)):=⟨by show h.nx<=h.nx+1;omega,kG⟩
  have Je:VB ((h.reserve 1).set (h.nx+0) (.cells [.int .u8 1] false)) (.slice (some (h.nx+0,0)) 1 (.fix 1)) [1]:=
   ⟨some (h.nx+0,0),.fix 1,rfl,fun e=>by (cases e),zq _,fun _=>⟨h.nx+0,0,_,false,rfl,by show h.nx+0<h.nx+1;omega,jab _,fun i x hi=>by
    match i,hi with
    |0,hi=>cases hi;rfl
    |i+1,hi=>simp at hi⟩⟩
  obtain⟨v',h',e2,p2,p3⟩:=jlP Z (d:=d-1) (k:=1-k) (b:=[]) om (w.old oG) hr om (by rw[ekk];exact hb) Zd (o.wi hr).cap1 Je Zd (fun _ z hz=>by
   cases hz;exact⟨by omega,by omega,by show h.nx+0<h.nx+1;omega⟩)
  rw[<- ek]at e2;have mC:min ([1]:List UInt8).length (r.x.cap-([]:List UInt8).length)=min 1 r.x.cap:=by simp
  rw[mC]at p2;refine Ga ?_;refine Zo ?_;have Pj:(h.reserve 1).get rw=_:=hw;refine Ga ?_;refine Ops.bslice1_at (new:=[.int .u8 1]) rfl rfl rfl rfl ?_;refine Ga ?_;exact⟨_,rfl,p2,by rw[map_set,jmY om],oG.ch.trans p3⟩
 .rw[zC xC];have pB:¬(b.length:Int)=0:=by have:=List.length_pos_iff.2 xC;omega
  refine Ga ?_;exact⟨l,rfl,w,rfl,Zr _ _⟩
end
def put1{α:Type}(f:Nat -> α)(s:Nat)(v:α):Nat -> α:= fun i=>if i=s then v else f i
section
variable{v:V}{now no si:Int}{hd:Nat->Bool}{ct:Nat->Int}
theorem jm5{i o:Nat}{b:Bool}(hi:i<32)(ho:o=2+i):(v::tail now hd ct no si).set o (.bool b)=v::tail now (put1 hd i b) ct no si:=by
 subst ho;rw[show 2+i=i+1+1 by omega];show v::V.int .u64 now::((tab 32 (fun i=>V.bool (hd i))++_).set i (.bool b))=_;rw[zU,zD (by simpa using hi),je4];unfold tail;rw[jcL (g:=fun j=>V.bool (put1 hd i b j)) (fun k _=>by unfold put1;split<;>rfl)]
theorem jh7{i o:Nat}{b:Int}(hi:i<32)(ho:o=34+i):(v::tail now hd ct no si).set o (.i b)=v::tail now hd (put1 ct i b) no si:=by
 subst ho;rw[show 34+i=(32+i)+1+1 by omega];show v::V.int .u64 now::((tab 32 (fun i=>V.bool (hd i))++(tab 32 (fun i=>V.i (ct i))++[V.i no,V.i si])).set (32+i) (.i b))=_;rw[zU,zC Zd,tab_length,Zi,zU,zD (by simpa using hi),je4];unfold tail;rw[jcL (n:=32) (f:=fun j=>if j=i then V.i b else V.i (ct j)) (g:=fun j=>V.i (put1 ct i b j)) (fun k _=>by unfold put1;split<;>rfl)]
end
def jei(s:Int):Prop:=1<=s/\s<=31
instance (s:Int):Decidable (jei s):=inferInstanceAs (Decidable (_/\_))
def jeG(hd:Nat->Bool)(s:Int)(on:Bool):Nat->Bool:=if jei s then put1 hd s.toNat on else hd
def jcH(ct:Nat->Int)(s:Int)(on:Bool):Nat->Int:=if jei s/\on=false then put1 ct s.toNat 0 else ct
section
variable{cl:Nat->Call}(Z:Sem cl)
include Z
theorem rq_Handle{d rw q:Nat}{h:H}{l:List RX}{now no si s:Int}{on:Bool}{hdl:Nat->Bool}{ct:Nat->Int}(hd:4<=d)(w:RW h rw q l (tail now hdl ct no si))(o:WsOk (l.map RX.x))(t8:NtOk (l.map RX.x) no si)(hc:∀i,0<=ct i/\ct i<=1000000) :
  ∃l' h',cl d (.fn 103) [.p rw 0,.i s,.bool on] h=some (.i (if jei s then 0 else 100),h')/\RW h' rw q l' (tail now (jeG hdl s on) (jcH ct s on) no si)/\l'.map RX.x=jap (l.map RX.x) (sumC (jcH ct s on) 31) no si/\Ch (RC rw q) h h':=by
 suffices k:∃v' h',cl d (.fn 103) [.p rw 0,.i s,.bool on] h=some (v',h')/\∃l',v' = .i (if jei s then 0 else 100)/\RW h' rw q l' (tail now (jeG hdl s on) (jcH ct s on) no si)/\l'.map RX.x=jap (l.map RX.x) (sumC (jcH ct s on) 31) no si/\Ch (RC rw q) h h' by
  obtain⟨_,h',e,l',rfl,p⟩:=k;exact⟨l',h',e,p⟩
 refine aT Z ?_;by_cases hs:jei s
 case neg=>
  rw[zC hs,show jeG hdl s on=hdl by unfold jeG;rw[zC hs],show jcH ct s on=ct by unfold jcH;rw[zC (fun e=>hs e.1)]];obtain⟨l',h',e,p⟩:=jco Z (d:=d-1) om w o t8 hc;have dF:s<1\/(¬s<1/\31<s):=by unfold jei at hs;omega
  clear hs;rcases dF with dF|⟨aB,dF⟩
  .refine Ga ?_;exact⟨l',rfl,p⟩
  .refine Ga ?_;exact⟨l',rfl,p⟩
 rw[zD hs];obtain⟨s1,s2⟩:=id hs;obtain⟨m,rfl⟩:=zz (show 0<=s by omega);obtain⟨a,c,hw,_⟩:=w.head;have j4:∀{lL:Nat->Bool} {o:Nat},o<68->o<(V.slice a l.length c::tail now lL ct no si).length:=fun ho=>by simp[jdh];omega
 rw[show jeG hdl (m:Int) on=put1 hdl m on by unfold jeG;rw[zD hs,zw]];have w1:=w.tl (tl':=tail now (put1 hdl m on) ct no si) hw;have c1:Ch (RC rw q) h (h.set rw (.cells (V.slice a l.length c::tail now (put1 hdl m on) ct no si) false)):=Zs (.inr rfl);cases on
 .rw[show jcH ct (m:Int) false=put1 ct m 0 by unfold jcH;rw[zD ⟨hs,rfl⟩,zw]];have w2:=w1.tl (tl':=tail now (put1 hdl m false) (put1 ct m 0) no si) (jab _);have c2:=c1.trans (Zs (B:=RC rw q) (ob:= .cells (V.slice a l.length c::tail now (put1 hdl m false) (put1 ct m 0) no si) false) (.inr rfl));have aD:∀i,0<=put1 ct m 0 i/\put1 ct m 0 i<=1000000:=fun i=>by
   unfold put1;by_cases e:i=m
   .rw[zD e];omega
   .rw[zC e];exact hc i
  obtain⟨l',h',e,p1,p2,p3⟩:=jco Z (d:=d-1) om w2 o t8 aD;refine Ga ?_;refine zcs rfl rfl rfl hw (j4 om) ?_;rw[jm5 (i:=m) om om];refine Ga ?_;refine zcs rfl rfl rfl (jab _) (j4 om) ?_;rw[jh7 (i:=m) om om];refine Ga ?_;exact⟨l',rfl,p1,p2,c2.trans p3⟩
 .rw[show jcH ct (m:Int) true=ct by unfold jcH;rw[zC (fun e=>by cases e.2)]];obtain⟨l',h',e,p1,p2,p3⟩:=jco Z (d:=d-1) om w1 o t8 hc;refine Ga ?_;refine zcs rfl rfl rfl hw (j4 om) ?_;rw[jm5 (i:=m) om om];refine Ga ?_;exact⟨l',rfl,p1,p2,c1.trans p3⟩
end
def jdS(hd:Nat->Bool)(ct:Nat->Int)(s:Int):Nat->Int:=if jei s/\hd s.toNat=true then put1 ct s.toNat (ct s.toNat+1) else ct
section
variable{cl:Nat->Call}(Z:Sem cl)
include Z
theorem jmF{d rw q:Nat}{h:H}{l:List RX}{now no si s:Int}{hdl:Nat->Bool}{ct:Nat->Int}(hd:4<=d)(w:RW h rw q l (tail now hdl ct no si))(o:WsOk (l.map RX.x))(t8:NtOk (l.map RX.x) no si)(hc:∀i,0<=ct i/\ct i<=999999) :
  ∃l' h',cl d (.fn 105) [.p rw 0,.i s] h=some (.i (if jei s then 0 else 100),h')/\RW h' rw q l' (tail now hdl (jdS hdl ct s) no si)/\l'.map RX.x=jap (l.map RX.x) (sumC (jdS hdl ct s) 31) no si/\Ch (RC rw q) h h':=by
 suffices k:∃v' h',cl d (.fn 105) [.p rw 0,.i s] h=some (v',h')/\∃l',v' = .i (if jei s then 0 else 100)/\RW h' rw q l' (tail now hdl (jdS hdl ct s) no si)/\l'.map RX.x=jap (l.map RX.x) (sumC (jdS hdl ct s) 31) no si/\Ch (RC rw q) h h' by
  obtain⟨_,h',e,l',rfl,p⟩:=k;exact⟨l',h',e,p⟩
 refine aT Z ?_;have aD:∀i,0<=ct i/\ct i<=1000000:=fun i=>⟨(hc i).1,by have:=(hc i).2;omega⟩
 by_cases hs:jei s
 case neg=>
  rw[zC hs,show jdS hdl ct s=ct by unfold jdS;rw[zC (fun e=>hs e.1)]];obtain⟨l',h',e,p⟩:=jco Z (d:=d-1) om w o t8 aD;have dF:s<1\/(¬s<1/\31<s):=by unfold jei at hs;omega
  clear hs;rcases dF with dF|⟨aB,dF⟩
  .refine Ga ?_;exact⟨l',rfl,p⟩
  .refine Ga ?_;exact⟨l',rfl,p⟩
 rw[zD hs];obtain⟨s1,s2⟩:=id hs;obtain⟨m,rfl⟩:=zz (show 0<=s by omega);obtain⟨a,c,hw,_⟩:=w.head;have q1:(V.slice a l.length c::tail now hdl ct no si)[0+2+(m:Int).toNat*1]?=some (.bool (hdl m)):=t_hd om om;have q2:(V.slice a l.length c::tail now hdl ct no si)[0+34+(m:Int).toNat*1]?=some (.i (ct m)):=t_ct om om;have j4:0+34+(m:Int).toNat*1<(V.slice a l.length c::tail now hdl ct no si).length:=by simp[jdh];omega
 have dS:=hc m;cases hh:hdl m
 .rw[show jdS hdl ct (m:Int)=ct by unfold jdS;rw[zC (fun e=>by rw[zw,hh]at e;cases e.2)]];rw[hh]at q1;obtain⟨l',h',e,p⟩:=jco Z (d:=d-1) om w o t8 aD;refine Ga ?_;exact⟨l',rfl,p⟩
 .rw[show jdS hdl ct (m:Int)=put1 ct m (ct m+1) by unfold jdS;rw[zD ⟨hs,by rw[zw];exact hh⟩,zw]];rw[hh]at q1;have w1:=w.tl (tl':=tail now hdl (put1 ct m (ct m+1)) no si) hw;have c1:Ch (RC rw q) h (h.set rw (.cells (V.slice a l.length c::tail now hdl (put1 ct m (ct m+1)) no si) false)):=Zs (.inr rfl);have xD:∀i,0<=put1 ct m (ct m+1) i/\put1 ct m (ct m+1) i<=1000000:=fun i=>by
   unfold put1;by_cases e:i=m
   .rw[zD e];omega
   .rw[zC e];exact aD i
  obtain⟨l',h',e,p1,p2,p3⟩:=jco Z (d:=d-1) om w1 o t8 xD;refine Ga ?_;refine zcs rfl rfl rfl hw j4 ?_;rw[jh7 (i:=m) om om];refine Ga ?_;exact⟨l',rfl,p1,p2,c1.trans p3⟩
end
end Am.Sigs
