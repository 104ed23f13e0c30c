/- Our own library, part 18. -/
import Derived.Test.YtphpefladchggaaGreatDoorV16
import Derived.Test.YtphpefladchggaaGreatDoorV10
import Derived.Test.YtphpefladchggaaGreatDoorV17
import Derived.Test.YtphpefladchggaaGreatDoorV15
import Derived.Test.YtphpefladchggaaGreatDoorV13
set_option maxHeartbeats 8000000
set_option maxRecDepth 800
set_option linter.all false
namespace Am.Sigs
open Am Go
def jl2(n:Int):UInt8:=UInt8.ofNat n.toNat
theorem byteI_V{n:Int}(h1:0<=n)(h2:n<=255):jcY (jl2 n) = .int .u8 n:=by
 have:n.toNat<256:=by omega
 simp only[jcY,jl2,UInt8.toNat_ofNat',Nat.mod_eq_of_lt this];congr 1;omega
theorem jkL{h:H}:∀{l:List Int} {cs:List V},jbx (jci .u8) h l cs->cs=bts (l.map jl2)
 |[],_,e=>e
 |x::l,_,⟨u,w,e,h1,h2⟩=>by
  obtain⟨rfl,h3⟩:=h1;rw[e,jkL h2,<- byteI_V h3.1 h3.2];rfl
theorem jkw{h:H}{l:List Int}{u:V}{B:Nat}(r:jbC B (jci .u8) h l [u]):∃a c,u = .slice a l.length (.fix c)/\(l.length<=B->BytesAt h a (.fix c) (l.map jl2)):=by
 obtain⟨a,c,e,h1,h2,h3⟩:=r;cases e;refine⟨a,c,rfl,fun hB=>⟨fun e=>?_,by show (l.map jl2).length<=c;simpa using h2,fun hn=>?_⟩⟩
 .obtain⟨rfl,rfl⟩:=h3 e;exact⟨rfl,rfl⟩
 .obtain⟨b,cs,q1,q2,q3,q4⟩:=h1 hB (by rintro rfl;exact hn rfl);refine⟨b,0,cs,true,q1,q2,q3,fun i x hi=>?_⟩;rw[jkL q4,zP];exact jkz hi
theorem BytesAt.keep{h h':H}{a:Option (Nat×Nat)}{c:Cap}{l:List UInt8}(t:BytesAt h a c l)(hx:h.nx<=h'.nx)(hk:∀j o,j<h.nx->h.get j=some o->h'.get j=some o):BytesAt h' a c l:=
 ⟨t.none_,t.fits,fun hn=>by
  obtain⟨b,o,cs,ro,q1,q2,q3,q4⟩:=t.at_ hn;exact⟨b,o,cs,ro,q1,by omega,hk _ _ q2 q3,q4⟩⟩
theorem BytesAt.lt{h:H}{a:Option (Nat×Nat)}{c:Cap}{l:List UInt8}(t:BytesAt h a c l){N:Nat}(hN:h.nx<=N){z o:Nat}(ha:a=some (z,o))(hl:l≠[]):z<N:=by
 obtain⟨b,o',cs,ro,q1,q2,_⟩:=t.at_ hl;rw[q1]at ha;cases ha;omega
structure OpX where
 k:Int
 a:Int
 n:Int
 t:Int
 dv:V
 D:List UInt8
abbrev OpX.V(x:OpX):List V:=opV x.k x.a x.n x.t x.dv
structure OpOk(h:H)(x:OpX):Prop where
 dv:∃a c,x.dv = .slice a x.D.length c/\(x.D.length<=300->BytesAt h a c x.D)
 t0:0<=x.t
 t1:x.t<=18446744073709551615
theorem OpOk.keep{h h':H}{x:OpX}(o:OpOk h x)(hx:h.nx<=h'.nx)(hk:∀j o,j<h.nx->h.get j=some o->h'.get j=some o):OpOk h' x:=by
 obtain⟨⟨a,c,e,g⟩,t0,t1⟩:=o;exact⟨⟨a,c,e,fun hl=>(g hl).keep hx hk⟩,t0,t1⟩
theorem OpOk.dat{h:H}{x:OpX}(o:OpOk h x)(hl:x.D.length<=300):Dat h (fun j=>j<h.nx) x.dv x.D:=by
 obtain⟨⟨a,c,e,g⟩,_,_⟩:=o;refine⟨⟨a,c,e,g hl⟩,fun hn z hz=>?_,hl⟩;obtain⟨b,o,cs,ro,q1,q2,_⟩:=(g hl).at_ hn;rw[e,q1]at hz;cases hz;exact q2
def jof(h:H)(lv:V)(L:List OpX):Prop:= ∃ad c,lv = .slice ad L.length c/\(L.length<=200->(∀x∈L,OpOk h x)/\(L≠[] -> ∃b cs ro,ad=some (b,0)/\b<h.nx/\h.get b=some (.cells cs ro)/\cs.length=L.length*5/\∀(i:Nat) (x:OpX),L[i]?=some x->(cs.drop (i*5)).take 5=x.V))
theorem jof.keep{h h':H}{lv:V}{L:List OpX}(o:jof h lv L)(hx:h.nx<=h'.nx)(hk:∀j o,j<h.nx->h.get j=some o->h'.get j=some o):jof h' lv L:=by
 obtain⟨ad,c,e,g⟩:=o;refine⟨ad,c,e,fun hl=>⟨fun x cB=>((g hl).1 x cB).keep hx hk,fun hn=>?_⟩⟩;obtain⟨b,cs,ro,q1,q2,q3,q4⟩:=(g hl).2 hn;exact⟨b,cs,ro,q1,by omega,hk _ _ q2 q3,q4⟩
def fewL(L:List OpX):Prop:=L.length<=200/\∀x∈L,x.D.length<=300
theorem jdN{α:Type}{l:List α}{i:Nat}(h:i<l.length):∃x,l[i]?=some x:=⟨_,za h⟩
section
variable{cl:Nat->Call}(Z:Sem cl)
include Z
theorem jqq{d:Nat}{h:H}{lv:V}{L:List OpX}(hd:1<=d)(hL:jof h lv L) :
  ∃v,cl d (.fn 4) [lv] h=some (v,h)/\(v = .i 1\/(v = .i 0/\fewL L)):=by
 obtain⟨ad,c,rfl,w9⟩:=hL
 suffices ∃v h',cl d (.fn 4) [.slice ad L.length c] h=some (v,h')/\(h'=h/\(v = .i 1\/(v = .i 0/\fewL L))) by
  obtain⟨v,h',q1,rfl,q3⟩:=this;exact⟨v,q1,q3⟩
 refine aT Z ?_;by_cases h1:200<(L.length:Int)
 .refine Ga ?_;exact⟨rfl,.inl rfl⟩
 obtain⟨m7,dC⟩:=w9 om;refine Ga ?_;refine Zq (fun m e h'=>∃i:Nat,m=L.length-i/\i<=L.length/\e=[(0,.slice ad L.length c),(8,.i (L.length:Int)),(9,.i (i:Int))]/\h'=h/\∀j x,j<i->L[j]?=some x->x.D.length<=300) (k:=L.length) Ze ⟨0,rfl,by omega,rfl,rfl,fun j x hj=>by omega⟩ ?_;rintro _ _ _ ⟨i,rfl,hi,rfl,rfl,hj⟩ n' ih;by_cases d4:(i:Int)<L.length
 case neg=>
  have hf:fewL L:=⟨by omega,fun x hx=>by
   obtain⟨j,nC,e⟩:=zV hx;exact hj j x om (by rw[za nC,e])⟩
  clear ih dC m7 hj;refine Ga ?_;exact⟨rfl,.inr ⟨rfl,hf⟩⟩
 obtain⟨x,hx⟩:=jdN (l:=L) (i:=i) om;obtain⟨b,cs,ro,rfl,_,hb,c_,hc⟩:=dC (by rintro rfl;simp at hx);obtain⟨⟨da,dc,edv,_⟩,_,_⟩:=m7 x (zc hx);have h5:=hc i x hx;have tF:cs[0+(i:Int).toNat*5+4]?=some (.slice da x.D.length dc):=by
  have:((cs.drop (i*5)).take 5)[4]?=some x.dv:=by rw[h5];rfl
  rw[zN,zD om,zm]at this;rw[show 0+(i:Int).toNat*5+4=i*5+4 by omega,this,edv]
 clear dC m7 hc h5;by_cases wO:300<(x.D.length:Int)
 .clear ih hj;refine Ga ?_;exact⟨rfl,.inl rfl⟩
 .have a8:(i:Int)+1=((i+1:Nat):Int):=by omega
  refine Ga ?_;rw[a8];refine ih (L.length-(i+1)) om _ _ ⟨i+1,rfl,by omega,rfl,rfl,fun j y jH hy=>?_⟩;by_cases e:j=i
  .subst e;rw[hx]at hy;cases hy;omega
  .exact hj j y om hy
theorem bx_do{d i p w s rw:Nat}{h0 h:H}{ow:Nat->Nat}{ro:Nat->Prop}{st:St}{x:OpX}(hd:16<=d)(b:BX h0 h p w s rw ow ro st i)(hi:i<=2000)(hx:OpOk h0 x)(hl:x.D.length<=300) :
  ∃h' ow' ro',cl d (.fn 8) [.p p 0,.agg x.V] h=some (.bool true,h')/\BX h0 h' p w s rw ow' ro' (doS x.k x.a x.n x.t x.D st) (i+1)/\Fm h h' ow ro ow' ro':=by
 have hD:Dat h (fun j=>j<h0.nx) x.dv x.D:=by
  have:=hx.dat hl;exact⟨this.v.keep2 b.old.1 fun hn z hz=>b.old.2 z (this.z hn z hz),this.z,hl⟩
 obtain⟨h',ow',ro',e,b',f⟩:=jqr Z (k:=x.k) (a:=x.a) (n:=x.n) (t:=x.t) hd b.b b.so hi hD hx.t0 hx.t1;exact⟨h',ow',ro',e,b.fm b' f (jna b.so hx.t0 hx.t1),f⟩
end
abbrev jnL:H->Int×Int×Int×Int×List Int×Unit->List V->Prop:=jbs (jci .i64) (jbs (jci .i64) (jbs (jci .i64) (jbs (jci .u64) (jbs (jbC 300 (jci .u8)) jjg))))
theorem jil{h:H}{x:Int×Int×Int×Int×List Int×Unit}{vs:List V}(r:jnL h x vs):∃u,vs=[.i x.1,.i x.2.1,.i x.2.2.1,.int .u64 x.2.2.2.1,u]/\jbC 300 (jci .u8) h x.2.2.2.2.1 [u]/\0<=x.2.2.2.1/\x.2.2.2.1<=18446744073709551615:=by
 obtain⟨_,_,rfl,⟨rfl,_⟩,_,_,rfl,⟨rfl,_⟩,_,_,rfl,⟨rfl,_⟩,_,_,rfl,⟨rfl,ht⟩,u,w,rfl,r5,hw⟩:=r;obtain rfl:w=[]:=hw;have ⟨ad,c,e,h1⟩:=r5;subst e;exact⟨_,rfl,⟨ad,c,rfl,h1⟩,ht.1,ht.2⟩
theorem joL{h:H}:∀{l:List (Int×Int×Int×Int×List Int×Unit)} {cs:List V},jbx jnL h l cs -> ∃L:List OpX,L.length=l.length/\cs=(L.map OpX.V).flatten/\∀x∈L,OpOk h x
 |[],_,e=>⟨[],rfl,e,fun x hx=>by cases hx⟩
 |y::l,_,⟨u,w,e,h1,h2⟩=>by
  obtain⟨L,l1,l2,l3⟩:=joL h2;obtain⟨v,e1,r,t0,t1⟩:=jil h1;obtain⟨a,c,rfl,hB⟩:=jkw r;refine⟨⟨y.1,y.2.1,y.2.2.1,y.2.2.2.1,.slice a y.2.2.2.2.1.length (.fix c),y.2.2.2.2.1.map jl2⟩::L,by simp[l1],by rw[e,e1,l2];rfl,fun x hx=>?_⟩;rcases zZ.1 hx with rfl|hx
  .exact⟨⟨a,.fix c,by simp,fun hl=>hB (by simpa using hl)⟩,t0,t1⟩
  .exact l3 x hx
theorem jmX:∀L:List OpX,(L.map OpX.V).flatten.length=L.length*5
 |[]=>rfl
 |x::L=>by
  have:=jmX L;have h5:(OpX.V x).length=5:=rfl;show (OpX.V x++(L.map OpX.V).flatten).length=_;rw[zg,this,h5];simp;omega
theorem flat_get:∀{L:List OpX} {i:Nat} {x:OpX},L[i]?=some x->(((L.map OpX.V).flatten).drop (i*5)).take 5=x.V
 |[],i,x,h=>by simp at h
 |y::L,0,x,h=>by simp at h;subst h;rfl
 |y::L,i+1,x,h=>by
  rw[List.map_cons,zW,show (i+1)*5=(OpX.V y).length+i*5 by show _=5+_;omega,<- List.drop_drop,List.drop_left];exact flat_get (by simpa using h)
theorem opsIn_of{h:H}{l:List (Int×Int×Int×Int×List Int×Unit)}{u:V}(r:jbC 200 jnL h l [u]):∃L:List OpX,L.length=l.length/\jof h u L:=by
 obtain⟨ad,c,e,h1,h2,h3⟩:=r;cases e;by_cases hl:l.length<=200
 .by_cases hn:l=[]
  .subst hn;exact⟨[],rfl,ad,.fix c,rfl,fun _=>⟨fun x hx=>(by cases hx),fun e=>zJ rfl e⟩⟩
  .obtain⟨b,cs,rfl,q1,q2,q3⟩:=h1 hl hn;obtain⟨L,l1,rfl,l3⟩:=joL q3;exact⟨L,l1,_,.fix c,by rw[l1],fun _=>⟨l3,fun _=>⟨b,_,true,rfl,q1,q2,jmX L,fun i x hx=>flat_get hx⟩⟩⟩
 .exact⟨List.replicate l.length ⟨0,0,0,0,.nils,[]⟩,by simp,ad,.fix c,by simp,fun uD=>zJ (by simpa using uD) hl⟩
structure MvX where
 m:Mv
 dv:V
abbrev MvX.V(x:MvX):List V:=mvV x.m x.dv
def MvOk(h:H)(x:MvX):Prop:= ∃a c,x.dv = .slice a x.m.D.length c/\(x.m.D.length<=1100->BytesAt h a c x.m.D)
def MvsAt(h:H)(v:V)(l:List MvX):Prop:= ∃ad c,v = .slice ad l.length c/\(l≠[] -> ∃b cs ro,ad=some (b,0)/\b<h.nx/\h.get b=some (.cells cs ro)/\cs.length=l.length*4/\∀(i:Nat) (x:MvX),l[i]?=some x->(cs.drop (i*4)).take 4=x.V)
def jpk(B:Nat)(h:H)(v:V)(l:List MvX):Prop:=(∃ad c,v = .slice ad l.length c)/\(l.length<=B->(∀x∈l,MvOk h x)/\MvsAt h v l)
structure SpX where
 t:Int
 intr:Bool
 ol:List Int
 ov:V
 ml:List MvX
 mv:V
abbrev SpX.V(x:SpX):List V:=[.int .u64 x.t,.bool x.intr,x.ov,x.mv]
structure SpOk(h:H)(x:SpX):Prop where
 ov:(∃ad c,x.ov = .slice ad x.ol.length c)/\(x.ol.length<=60->VI h x.ov x.ol)
 mv:jpk 60 h x.mv x.ml
 t0:0<=x.t
 t1:x.t<=18446744073709551615
def jph(h:H)(v:V)(l:List SpX):Prop:= ∃ad c,v = .slice ad l.length c/\(l.length<=100->(∀x∈l,SpOk h x)/\(l≠[] -> ∃b cs ro,ad=some (b,0)/\b<h.nx/\h.get b=some (.cells cs ro)/\cs.length=l.length*4/\∀(i:Nat) (x:SpX),l[i]?=some x->(cs.drop (i*4)).take 4=x.V))
def sumM:List SpX->Nat
 |[]=>0
 |x::l=>x.ml.length+sumM l
theorem sumM_take{l:List SpX}:∀{i:Nat} {x:SpX},l[i]?=some x->sumM (l.take (i+1))=sumM (l.take i)+x.ml.length:=by
 induction l with
 |nil=>intro i x h;simp at h
 |cons y l ih=>
  intro i x h
  match i,h with
  |0,h=>simp at h;subst h;simp[sumM]
  |i+1,h=>
   have:=ih (i:=i) (x:=x) (by simpa using h);simp only[List.take_succ_cons,sumM]at this ⊢;omega
structure fewS(l:List SpX):Prop where
 len:l.length<=100
 each:∀x∈l,x.ml.length<=60/\x.ol.length<=60/\∀m∈x.ml,m.m.D.length<=1100
 sum:sumM l<=500
theorem jqi{cs l:List V}{i j:Nat}(h:(cs.drop (i*4)).take 4=l)(hj:j<4):cs[0+(i:Int).toNat*4+j]?=l[j]?:=by
 rw[<- h,zN,zD hj,zm];congr 1;omega
section
variable{cl:Nat->Call}(Z:Sem cl)
include Z
theorem gs_ok{d:Nat}{h:H}{v:V}{l:List SpX}(hd:1<=d)(hl:jph h v l) :
  ∃r,cl d (.fn 5) [v] h=some (r,h)/\(r = .i 1\/(r = .i 0/\fewS l)):=by
 obtain⟨ad,c,rfl,w9⟩:=hl
 suffices ∃r h',cl d (.fn 5) [.slice ad l.length c] h=some (r,h')/\(h'=h/\(r = .i 1\/(r = .i 0/\fewS l))) by
  obtain⟨v,h',q1,rfl,q3⟩:=this;exact⟨v,q1,q3⟩
 refine aT Z ?_;by_cases h1:100<(l.length:Int)
 .refine Ga ?_;exact⟨rfl,.inl rfl⟩
 obtain⟨m7,dC⟩:=w9 om;refine Ga ?_;refine Zq (fun m e h'=>∃(i:Nat) (n:Int),m=l.length-i/\i<=l.length/\e=[(0,.slice ad l.length c),(3,.i n),(10,.i (l.length:Int)),(11,.i (i:Int))]/\h'=h/\0<=n/\n<=4000/\(sumM (l.take i):Int)<=n/\sumM (l.take i)<=500/\∀j x,j<i->l[j]?=some x->x.ml.length<=60/\x.ol.length<=60/\∀m∈x.ml,m.m.D.length<=1100)
  (k:=l.length) Ze ⟨0,0,rfl,by omega,rfl,rfl,by omega,by omega,by simp[sumM],by simp[sumM],fun j x hj=>by omega⟩ ?_
 rintro _ _ g ⟨i,n,rfl,hi,rfl,rfl,n0,n1,n2,n3,hj⟩ n' ih;by_cases d4:(i:Int)<l.length
 case neg=>
  obtain rfl:i=l.length:=by omega
  rw[List.take_length]at n3;have hf:fewS l:=⟨by omega,fun x hx=>by
   obtain⟨j,nC,e⟩:=zV hx;exact hj j x om (by rw[za nC,e]),n3⟩
  clear ih dC m7 hj;refine Ga ?_;exact⟨rfl,.inr ⟨rfl,hf⟩⟩
 obtain⟨x,hx⟩:=jdN (l:=l) (i:=i) om;obtain⟨b,cs,ro,rfl,_,hb,lA,hc⟩:=dC (by rintro rfl;simp at hx);obtain⟨⟨⟨oa,oc,eov⟩,_⟩,⟨⟨ma,mc,emv⟩,mU⟩,_,_⟩:=m7 x (zc hx);have h4:=hc i x hx;have c2:cs[0+(i:Int).toNat*4+2]?=some (.slice oa x.ol.length oc):=by rw[jqi h4 om,<- eov];rfl
 have c3:cs[0+(i:Int).toNat*4+3]?=some (.slice ma x.ml.length mc):=by rw[jqi h4 om,<- emv];rfl
 have hs:=sumM_take hx;clear dC m7 hc h4;by_cases k1:60<(x.ml.length:Int)
 .clear ih hj;refine Ga ?_;exact⟨rfl,.inl rfl⟩
 by_cases k2:60<(x.ol.length:Int)
 .clear ih hj;refine Ga ?_;exact⟨rfl,.inl rfl⟩
 by_cases k3:500<n+(x.ml.length:Int)+(x.ol.length:Int)
 .clear ih hj;refine Ga ?_;exact⟨rfl,.inl rfl⟩
 obtain⟨d_,Lf⟩:=mU om;have a8:(i:Int)+1=((i+1:Nat):Int):=by omega
 refine Ga ?_;refine Zq (fun m e h'=>∃(k:Nat) (n':Int),m=x.ml.length-k/\k<=x.ml.length/\e=[(0,.slice (some (b,0)) l.length c),(3,.i n'),(4,.i (i:Int)),(10,.i (l.length:Int)),(11,.i (i:Int)),(54,.i (x.ml.length:Int)),(55,.i (k:Int))]/\h'=g/\n+(x.ml.length:Int)+(x.ol.length:Int)<=n'/\n'<=500+55*(k:Int)/\∀j y,j<k->x.ml[j]?=some y->y.m.D.length<=1100)
  (k:=x.ml.length) Ze ⟨0,_,rfl,by omega,rfl,rfl,by omega,by omega,fun j y hj=>by omega⟩ ?_
 rintro _ _ _ ⟨k,n',rfl,hk,rfl,rfl,p0,p1,fR⟩ n'' ih2;by_cases jM:(k:Int)<x.ml.length
 case neg=>
  clear ih2;have wB:∀m∈x.ml,m.m.D.length<=1100:=fun m hm=>by
   obtain⟨j,nC,e⟩:=zV hm;exact fR j m om (by rw[za nC,e])
  refine Ga ?_;rw[a8];refine ih (l.length-(i+1)) om _ _ ⟨i+1,n',rfl,by omega,rfl,rfl,by omega,by omega,by rw[hs];omega,by rw[hs];omega,fun j y jH hy=>?_⟩;by_cases e:j=i
  .subst e;rw[hx]at hy;cases hy;exact⟨by omega,by omega,wB⟩
  .exact hj j y om hy
 obtain⟨y,hy⟩:=jdN (l:=x.ml) (i:=k) om;obtain⟨ad',c',emv',d5⟩:=Lf;obtain⟨b2,lJ,mH,e2,_,dB,bZ,kJ⟩:=d5 (by intro e;rw[e]at hy;simp at hy);obtain⟨da,dc,edv,_⟩:=d_ y (zc hy);obtain⟨rfl,rfl⟩:ma=ad'/\mc=c':=by rw[emv]at emv';cases emv';exact⟨rfl,rfl⟩
 subst e2;have d3:lJ[0+(k:Int).toNat*4+3]?=some (.slice da y.m.D.length dc):=by rw[jqi (kJ k y hy) om,<- edv];rfl
 have mF:(k:Int)+1=((k+1:Nat):Int):=by omega
 clear d_ d5 kJ;by_cases k4:1100<(y.m.D.length:Int)
 .clear ih ih2 hj fR;refine Ga ?_;exact⟨rfl,.inl rfl⟩
 refine Ga ?_;have q1:(0:Int)<=(y.m.D.length:Int)/20/\(y.m.D.length:Int)/20<=55:=by omega
 have q2:(y.m.D.length:Int).tdiv 20=(y.m.D.length:Int)/20:=Int.tdiv_eq_ediv_of_nonneg om;rw[q2,jfK (n:=(y.m.D.length:Int)/20) ⟨by omega,by omega⟩,jfK (n:=n'+(y.m.D.length:Int)/20) ⟨by omega,by omega⟩,mF];refine ih2 (x.ml.length-(k+1)) om _ _ ⟨k+1,_,rfl,by omega,rfl,rfl,by omega,by omega,fun j z jH hz=>?_⟩;by_cases e:j=k
 .subst e;rw[hy]at hz;cases hz;omega
 .exact fR j z om hz
end
theorem jpM{m:Mv}{st:St}(h:¬m.may):mvS m st=((0,120),st):=zC h
theorem jpN{m:Mv}{st:St}(h:m.may):mvS m st=(m.ans st,m.go st):=zD h
theorem Mv.ans_1{m:Mv}{st:St}(h:m.op=1):m.ans st=(putS st.ws m.wire m.D).1:=by simp[Mv.ans,h]
theorem Mv.ans_2{m:Mv}{st:St}(h:m.op=2):m.ans st=(((jct st.ws m.wire m.n).1.1.length:Int),(jct st.ws m.wire m.n).1.2):=by simp[Mv.ans,h]
theorem Mv.ans_3{m:Mv}{st:St}(h:m.op=3):m.ans st=(0,(jaB st.ws m.wire).1):=by simp[Mv.ans,h]
theorem Mv.ans_4{m:Mv}{st:St}(h:m.op=4):m.ans st=(0,(ja2 st.ws m.wire).1):=by simp[Mv.ans,h]
theorem Mv.ans_5{m:Mv}{st:St}(h:m.op=5):m.ans st=(0,(jch st.ws m.wire).1):=by simp[Mv.ans,h]
theorem Mv.ans_6{m:Mv}{st:St}(h:m.op=6):m.ans st=(jar st.ws m.wire m.n).1:=by simp[Mv.ans,h]
theorem Mv.ans_7{m:Mv}{st:St}(h:m.op=7):m.ans st=(0,if sig? m.n then 0 else 100):=by simp[Mv.ans,h]
theorem wire_12{ws:Ws}{fd:Int}(u:Uniq ws):(jfO ws fd).2=110\/(jfO ws fd).2=0:=by
 unfold jfO jcd;split
 .exact .inl rfl
 .split
  .exact .inl rfl
  .exact .inr rfl
section
variable{cl:Nat->Call}(Z:Sem cl){h:H}{m:Mv}{dv:V}{st:St}{i:Nat}
include Z
theorem jop{d w s:Nat}{ow:Nat->Nat}{ws:Ws}{now:Int}{tb:Tb}{no:Option (Nat×Nat)}(hd:4<=d)(a:WSt h w s ow ws now tb no)(o:WsOk ws):∃h',cl d (.fn 118) [.p w 0] h=some (.bool false,h')/\Old h h':=by
 obtain⟨h1,e1,o1⟩:=jol Z (d:=d-1) (fd:= -1) om a o;have hw:=wire_12 (fd:= -1) o.uniq;generalize jfO ws (-1)=x at e1 hw;obtain⟨x1,x2⟩:=x;have hx:¬x2=1:=by rcases hw with hw|hw<;>(have hw:x2=_:=hw;omega)
 clear hw a o;refine jae (aT Z ?_);refine Ga ?_;exact⟨by rw[zE hx],o1⟩
theorem wm_Make{d w s:Nat}{ow:Nat->Nat}(hd:13<=d)(W:WSt h w s ow st.ws st.now st.tb st.no)(so:StOk st i)(hi:i<=900000)(hv:VB h dv m.D)(hz:m.D≠[] -> ∀z,dv.at?=some z->ow z=0) :
  ∃h' ow',cl d (.fn 167) [.p w 0,.agg (mvV m dv)] h=some (.tup [.i (mvS m st).1.1,.i (mvS m st).1.2],h')/\WSt h' w s ow' (mvS m st).2.ws (mvS m st).2.now (mvS m st).2.tb (mvS m st).2.no/\To h h' ow ow':=by
 suffices q:∃v h',cl d (.fn 167) [.p w 0,.agg (mvV m dv)] h=some (v,h')/\∃ow',v = .tup [.i (mvS m st).1.1,.i (mvS m st).1.2]/\WSt h' w s ow' (mvS m st).2.ws (mvS m st).2.now (mvS m st).2.tb (mvS m st).2.no/\To h h' ow ow' by
  obtain⟨_,h',e,ow',rfl,q⟩:=q;exact⟨h',ow',e,q⟩
 obtain⟨a,c,rfl,hB⟩:=id hv;have o0:Old h (h.new (.cells (mvV m (.slice a m.D.length c)) false)):=(Zz h).new;have g0:(h.new (.cells (mvV m (.slice a m.D.length c)) false)).get h.nx=some (.cells (mvV m (.slice a m.D.length c)) false):=jac _;have x0:h.nx<(h.new (.cells (mvV m (.slice a m.D.length c)) false)).nx:=by simp
 obtain⟨h1,e1,o1⟩:=jop Z (d:=d-1) om (W.old o0) so.K.ok;obtain⟨h2,e2,o2⟩:=jp2 Z (d:=d-1) (h:=h1) (m:=m) (a:=a) (c:=c) om;have x1:=zr x0 o1.1;have g1:h1.get h.nx=some (.cells (mvV m (.slice a m.D.length c)) false):=by rw[o1.2 _ x0,g0]
 have g2:h2.get h.nx=some (.cells (mvV m (.slice a m.D.length c)) false):=by rw[o2.2 _ x1,g1]
 have jI:Old h h2:=(o0.trans o1).trans o2;have W2:=W.old jI;have V2:VB h2 (.slice a m.D.length c) m.D:=hv.keep2 jI.1 fun hl z hz=>jI.2 z (hv.lt hl hz);have ok:=so.K.ok;refine aT Z ?_;obtain⟨C,hC⟩:∃C,C=c167_7:=⟨_,rfl⟩
 simp only[c167,c167_9,c167_8,<- hC,yB,yH];by_cases hm:m.may
 case neg=>
  rw[jpM hm];clear so W V2 hv hB ok;refine qm ?_;exact⟨ow,rfl,W2,ZA jI⟩
 have kV:¬¬m.may:=fun e=>e hm;have tail:∀sb,Run (cl (d-1)) fuel C [] ((0,.p w 0)::(3,.p h.nx 0)::sb) h2 (Fin c167.res fun v h'=>∃ow',v = .tup [.i (mvS m st).1.1,.i (mvS m st).1.2]/\WSt h' w s ow' (mvS m st).2.ws (mvS m st).2.now (mvS m st).2.tb (mvS m st).2.no/\To h h' ow ow'):=fun sb=>by
  rw[jpN hm,hC];clear e1 e2;have f8:m.op=1\/m.op=2\/m.op=3\/m.op=4\/m.op=5\/m.op=6\/m.op=7:=by have:=hm.1;have:=hm.2.1;omega
  rcases f8 with c1|c1|c1|c1|c1|c1|c1
  .rw[Mv.ans_1 c1,Mv.go_1 c1];obtain⟨h3,e3,W3,t3⟩:=jp1 Z (d:=d-1) (n:=m.wire) om W2 ok V2 hm.2.2.2.2.1 (hz fun e=>by have h1:=hm.2.2.2.2.2.2.2.1 c1;rw[e]at h1;exact zJ h1 (by decide));clear so W W2 V2 hv hB ok;refine qm ?_;exact⟨_,rfl,W3,To.old jI t3⟩
  .rw[Mv.ans_2 c1,Mv.go_2 c1];obtain⟨v3,h3,e3,bW,Qk,W3,t3⟩:=jom Z (d:=d-1) (n:=m.wire) (many:=m.n) om W2 ok;obtain⟨a3,c3,rfl,B3⟩:=bW;clear so W W2 V2 hv hB ok;refine qm ?_;exact⟨_,rfl,W3,To.old jI t3⟩
  .rw[Mv.ans_3 c1,Mv.go_3 c1];obtain⟨h3,e3,W3,t3⟩:=jhK Z (d:=d-1) (n:=m.wire) om W2;clear so W W2 V2 hv hB ok;refine qm ?_;exact⟨_,rfl,W3,To.old jI t3⟩
  .rw[Mv.ans_4 c1,Mv.go_4 c1];obtain⟨h3,e3,W3,t3⟩:=jhg Z (d:=d-1) (n:=m.wire) om W2;clear so W W2 V2 hv hB ok;refine qm ?_;exact⟨_,rfl,W3,To.old jI t3⟩
  .rw[Mv.ans_5 c1,Mv.go_5 c1];obtain⟨h3,e3,W3,t3⟩:=jmv Z (d:=d-1) (n:=m.wire) om W2 ok;clear so W W2 V2 hv hB ok;refine qm ?_;exact⟨_,rfl,W3,To.old jI t3⟩
  .rw[Mv.ans_6 c1,Mv.go_6 c1];obtain⟨h3,mG,e3,W3,t3⟩:=jiY Z (d:=d-1) (n:=m.wire) (many:=m.n) om so.K W2;clear so W W2 V2 hv hB ok;refine qm ?_;exact⟨_,rfl,W3,To.old jI t3⟩
  .rw[Mv.ans_7 c1,Mv.go_7 c1];obtain⟨h3,e3,W3,t3⟩:=jmx Z (d:=d-1) (sg:=m.n) om W2 so.nt (so.tb.mono om) (Tb.ok.mono (jjP so.tb m.n) om);clear so W W2 V2 hv hB ok;refine qm ?_;exact⟨_,rfl,W3,To.old jI t3⟩
 clear so W V2 hv hB ok;refine qm ?_;exact tail _
theorem rm_Make{d rw q:Nat}{l:List RX}(hd:6<=d)(w:RW h rw q l st.tl)(hl:l.map RX.x=st.ws)(so:StOk st i)(hi:i<=900000)(hv:VB h dv m.D)(hz:m.D≠[] -> ∀z,dv.at?=some z->z≠q/\z≠rw/\z<h.nx) :
  ∃q' l' h',cl d (.fn 169) [.p rw 0,.agg (mvV m dv)] h=some (.tup [.i (mvS m st).1.1,.i (mvS m st).1.2],h')/\RW h' rw q' l' (mvS m st).2.tl/\l'.map RX.x=(mvS m st).2.ws/\Ch (RC rw q) h h'/\(q'=q\/h.nx<=q'):=by
 suffices k:∃v h',cl d (.fn 169) [.p rw 0,.agg (mvV m dv)] h=some (v,h')/\∃q' l',v = .tup [.i (mvS m st).1.1,.i (mvS m st).1.2]/\RW h' rw q' l' (mvS m st).2.tl/\l'.map RX.x=(mvS m st).2.ws/\Ch (RC rw q) h h'/\(q'=q\/h.nx<=q') by
  obtain⟨_,h',e,q',l',rfl,k⟩:=k;exact⟨q',l',h',e,k⟩
 obtain⟨a,c,rfl,hB⟩:=id hv;have o0:Old h (h.new (.cells (mvV m (.slice a m.D.length c)) false)):=(Zz h).new;have g0:(h.new (.cells (mvV m (.slice a m.D.length c)) false)).get h.nx=some (.cells (mvV m (.slice a m.D.length c)) false):=jac _;have x0:h.nx<(h.new (.cells (mvV m (.slice a m.D.length c)) false)).nx:=by simp
 obtain⟨h1,e1,o1⟩:=jpB Z (d:=d-1) (h:=h.new (.cells (mvV m (.slice a m.D.length c)) false)) (m:=m) (a:=a) (c:=c) om;have g1:h1.get h.nx=some (.cells (mvV m (.slice a m.D.length c)) false):=by rw[o1.2 _ x0,g0]
 have wG:Old h h1:=o0.trans o1;have w1:=w.old wG;have V1:VB h1 (.slice a m.D.length c) m.D:=hv.keep2 wG.1 fun hl z hz=>wG.2 z (hv.lt hl hz);have z1:m.D≠[] -> ∀z,(V.slice a m.D.length c).at?=some z->z≠q/\z≠rw/\z<h1.nx:=fun hn z e=>⟨(hz hn z e).1,(hz hn z e).2.1,zr (hz hn z e).2.2 wG.1⟩
 have ok:WsOk (l.map RX.x):=by rw[hl];exact so.K.ok
 refine aT Z ?_;obtain⟨C,hC⟩:∃C,C=c169_7:=⟨_,rfl⟩
 simp only[c169,c169_8,<- hC,yB,yH];by_cases hm:m.may
 case neg=>
  rw[jpM hm];clear so w V1 hv hB ok;refine qm ?_;exact⟨q,l,rfl,w1,hl,wG.ch,.inl rfl⟩
 have kV:¬¬m.may:=fun e=>e hm;have tail:∀sb,Run (cl (d-1)) fuel C [] ((0,.p rw 0)::(3,.p h.nx 0)::sb) h1 (Fin c169.res fun v h'=>∃q' l',v = .tup [.i (mvS m st).1.1,.i (mvS m st).1.2]/\RW h' rw q' l' (mvS m st).2.tl/\l'.map RX.x=(mvS m st).2.ws/\Ch (RC rw q) h h'/\(q'=q\/h.nx<=q')):=fun sb=>by
  rw[jpN hm,hC];clear e1;have f8:m.op=1\/m.op=2\/m.op=3\/m.op=4\/m.op=5\/m.op=6\/m.op=7:=by have:=hm.1;have:=hm.2.1;omega
  rcases f8 with c1|c1|c1|c1|c1|c1|c1
  .rw[Mv.ans_1 c1,Mv.go_1 c1];obtain⟨l3,h3,e3,w3,x3,k3⟩:=jp9 Z (d:=d-1) (n:=m.wire) om w1 ok V1 hm.2.2.2.2.1 z1;rw[hl]at e3 x3;clear so w w1 V1 hv hB ok;refine qm ?_;exact⟨q,l3,rfl,w3,x3,(wG.ch (B:=RC rw q)).trans k3,.inl rfl⟩
  .rw[Mv.ans_2 c1,Mv.go_2 c1];obtain⟨v3,l3,h3,e3,bW,w3,x3,k3⟩:=jo6 Z (d:=d-1) (n:=m.wire) (many:=m.n) om w1 ok;obtain⟨a3,c3,rfl,B3⟩:=bW;rw[hl]at e3 x3 B3;clear so w w1 V1 hv hB ok;refine qm ?_;exact⟨q,l3,rfl,w3,x3,(wG.ch (B:=RC rw q)).trans k3,.inl rfl⟩
  .rw[Mv.ans_3 c1,Mv.go_3 c1];obtain⟨l3,h3,e3,w3,x3,k3⟩:=jhW Z (d:=d-1) (n:=m.wire) om w1;rw[hl]at e3 x3;clear so w w1 V1 hv hB ok;refine qm ?_;exact⟨q,l3,rfl,w3,x3,(wG.ch (B:=RC rw q)).trans k3,.inl rfl⟩
  .rw[Mv.ans_4 c1,Mv.go_4 c1];obtain⟨l3,h3,e3,w3,x3,k3⟩:=jhi Z (d:=d-1) (n:=m.wire) om w1;rw[hl]at e3 x3;clear so w w1 V1 hv hB ok;refine qm ?_;exact⟨q,l3,rfl,w3,x3,(wG.ch (B:=RC rw q)).trans k3,.inl rfl⟩
  .rw[Mv.ans_5 c1,Mv.go_5 c1];obtain⟨l3,h3,e3,w3,x3,k3⟩:=jmD Z (d:=d-1) (n:=m.wire) om w1 ok;rw[hl]at e3 x3;clear so w w1 V1 hv hB ok;refine qm ?_;exact⟨q,l3,rfl,w3,x3,(wG.ch (B:=RC rw q)).trans k3,.inl rfl⟩
  .rw[Mv.ans_6 c1,Mv.go_6 c1];obtain⟨q3,l3,h3,e3,w3,x3,k3,n3⟩:=jjc Z (d:=d-1) (n:=m.wire) (many:=m.n) om w1 ok;rw[hl]at e3 x3;clear so w w1 V1 hv hB ok;refine qm ?_;exact⟨q3,l3,rfl,w3,x3,(wG.ch (B:=RC rw q)).trans k3,(n3.imp id fun e=>zA wG.1 e)⟩
  .rw[Mv.ans_7 c1,Mv.go_7 c1];obtain⟨l3,h3,e3,w3,x3,k3⟩:=jmF Z (d:=d-1) (s:=m.n) om w1 ok (by rw[hl];exact so.nt) (so.tb.mono om);rw[hl,<- jge,<- jkC]at x3;rw[<- jge,<- jmK st.tb m.n]at w3;clear so w w1 V1 hv hB ok;refine qm ?_;exact⟨q,l3,rfl,w3,x3,(wG.ch (B:=RC rw q)).trans k3,.inl rfl⟩
 clear so w V1 hv hB ok;refine qm ?_;exact tail _
end
def At4{α:Type}(h:H)(P:Nat->Prop)(f:α -> List V)(v:V)(l:List α):Prop:=
 ∃ad c,v = .slice ad l.length c/\(ad=none->c = .fix 0/\l=[])/\Cap.fits c l.length 4/\(l≠[] -> ∃b o cs ro,ad=some (b,o)/\b<h.nx/\P b/\h.get b=some (.cells cs ro)/\∀(i:Nat) (x:α),l[i]?=some x->(cs.drop (o+i*4)).take 4=f x)
theorem At4.keep{α:Type}{h h':H}{P P':Nat->Prop}{f:α -> List V}{v:V}{l:List α}(a:At4 h P f v l)(hx:h.nx<=h'.nx)(hk:∀z,z<h.nx->P z->h'.get z=h.get z/\P' z):At4 h' P' f v l:=by
 obtain⟨ad,c,e,n,ft,g⟩:=a;refine⟨ad,c,e,n,ft,fun hl=>?_⟩;obtain⟨b,o,cs,ro,e1,e2,e3,e4,e5⟩:=g hl;exact⟨b,o,cs,ro,e1,zr e2 hx,(hk b e2 e3).2,by rw[(hk b e2 e3).1,e4],e5⟩
theorem jfR{cs l:List V}{k:Nat}(h:(cs.drop k).take 4=l)(hl:l.length=4):k+4<=cs.length:=by
 have:=congrArg List.length h;rw[List.length_take,List.length_drop,hl]at this;omega
theorem jhp{cs l:List V}{k j:Nat}(h:(cs.drop k).take 4=l)(hj:j<4):cs[k+j]?=l[j]?:=by
 rw[<- h,zN,zD hj,zm]
structure StepAt(h:H)(P Q:Nat->Prop)(x:SpX):Prop where
 ov:VI h x.ov x.ol/\(x.ol≠[] -> ∀z,x.ov.at?=some z->P z)
 mv:At4 h P MvX.V x.mv x.ml
 dv:∀m∈x.ml,VB h m.dv m.m.D/\(m.m.D≠[] -> ∀z,m.dv.at?=some z->Q z)
 t0:0<=x.t
 t1:x.t<=18446744073709551615
def jeo(h:H)(P Q:Nat->Prop)(v:V)(l:List SpX):Prop:=At4 h P SpX.V v l/\∀x∈l,StepAt h P Q x
theorem VI.lt{h:H}{v:V}{l:List Int}(a:VI h v l)(hl:l≠[]){z:Nat}(hz:v.at?=some z):z<h.nx:=by
 obtain⟨a,c,rfl,n,f,g⟩:=a;obtain⟨b,o,cs,ro,rfl,h1,_⟩:=g hl;cases hz;exact h1
theorem StepAt.keep{h h':H}{P Q P' Q':Nat->Prop}{x:SpX}(a:StepAt h P Q x)(hx:h.nx<=h'.nx)(hp:∀z,z<h.nx->P z->h'.get z=h.get z/\P' z)(hq:∀z,z<h.nx->Q z->h'.get z=h.get z/\Q' z):StepAt h' P' Q' x where
 ov:=⟨a.ov.1.keep2 hx fun hl z hz=>(hp z (a.ov.1.lt hl hz) (a.ov.2 hl z hz)).1,fun hl z hz=>(hp z (a.ov.1.lt hl hz) (a.ov.2 hl z hz)).2⟩
 mv:=a.mv.keep hx hp
 dv m hm:=⟨(a.dv m hm).1.keep2 hx fun hl z hz=>(hq z ((a.dv m hm).1.lt hl hz) ((a.dv m hm).2 hl z hz)).1,fun hl z hz=>(hq z ((a.dv m hm).1.lt hl hz) ((a.dv m hm).2 hl z hz)).2⟩
 t0:=a.t0
 t1:=a.t1
theorem jeo.keep{h h':H}{P Q P' Q':Nat->Prop}{v:V}{l:List SpX}(a:jeo h P Q v l)(hx:h.nx<=h'.nx)(hp:∀z,z<h.nx->P z->h'.get z=h.get z/\P' z)(hq:∀z,z<h.nx->Q z->h'.get z=h.get z/\Q' z):jeo h' P' Q' v l:=
 ⟨a.1.keep hx hp,fun x cB=>(a.2 x cB).keep hx hp hq⟩
theorem StepAt.old{h h':H}{P Q:Nat->Prop}{x:SpX}(a:StepAt h P Q x)(o:Old h h'):StepAt h' P Q x:=a.keep o.1 (fun z hz hp=>⟨o.2 z hz,hp⟩) (fun z hz hp=>⟨o.2 z hz,hp⟩)
theorem jeo.old{h h':H}{P Q:Nat->Prop}{v:V}{l:List SpX}(a:jeo h P Q v l)(o:Old h h'):jeo h' P Q v l:=a.keep o.1 (fun z hz hp=>⟨o.2 z hz,hp⟩) (fun z hz hp=>⟨o.2 z hz,hp⟩)
theorem At4.old{α:Type}{h h':H}{P:Nat->Prop}{f:α -> List V}{v:V}{l:List α}(a:At4 h P f v l)(o:Old h h'):At4 h' P f v l:=a.keep o.1 fun z hz hp=>⟨o.2 z hz,hp⟩
def SpX.sp(x:SpX):Sp:=⟨x.t,x.intr,x.ol,x.ml.map MvX.m⟩
def Sp.may(x:Sp):Prop:=x.moves.length<=50/\x.order.length<=50/\(∀n∈x.order,0<=n/\n<=999)/\∀m∈x.moves,m.may
instance (x:Sp):Decidable x.may:=by unfold Sp.may;infer_instance
def badN(n:Int):Prop:=n<0\/n>999
instance:DecidablePred badN:=fun n=>by unfold badN;infer_instance
section
variable{cl:Nat->Call}(Z:Sem cl)
include Z
theorem if_4{α:Type}{d f g:Nat}{h:H}{P:Nat->Prop}{V4:α -> List V}{bad:α -> Prop}[DecidablePred bad]{v:V}{l:List α}(hV:∀x,(V4 x).length=4)(hf:jdt prog.prims f=none)(qP:jdt prog.fns f=some c157)(hd:1<=d)(a:At4 h P V4 v l)(hl:l.length<=50000)
  (k:∀x∈l,∀h1,Old h h1 -> ∃h2,cl (d-1) (.fn g) [.agg (V4 x)] h1=some (.bool (decide (bad x)),h2)/\Old h1 h2) :
  ∃r h',cl d (.fn f) [v,.clo g []] h=some (.i r,h')/\Old h h'/\(0<=r ↔ ∃x∈l,bad x):=by
 suffices q:∃w h',cl d (.fn f) [v,.clo g []] h=some (w,h')/\∃r,w = .i r/\Old h h'/\(0<=r ↔ ∃x∈l,bad x) by
  obtain⟨_,h',e,r,rfl,q⟩:=q;exact⟨r,h',e,q⟩
 obtain⟨ad,c,rfl,_,_,hb⟩:=a;refine at_ Z om hf qP rfl ?_;refine Ga ?_;refine Zq (fun m e h1=>∃i:Nat,m=l.length-i/\i<=l.length/\e=[(0,.slice ad l.length c),(1,.clo g []),(7,.i (l.length:Int)),(8,.i (i:Int))]/\Old h h1/\∀j x,j<i->l[j]?=some x -> ¬bad x)
  (k:=l.length) Ze ⟨0,rfl,by omega,rfl,Zz h,fun j x hj=>by omega⟩ ?_
 rintro _ _ h1 ⟨i,rfl,hi,rfl,o,hj⟩ n' ih;by_cases d4:(i:Int)<l.length
 case neg=>
  have j5:¬ ∃x∈l,bad x:=fun ⟨x,hx,hb⟩=>by
   obtain⟨j,nC,e⟩:=zV hx;exact hj j x om (by rw[za nC,e]) hb
  clear ih hb hj k;refine Ga ?_;exact⟨_,rfl,o,fun e=>zJ e om,fun e=>zJ e j5⟩
 obtain⟨x,hx⟩:=jdN (l:=l) (i:=i) om;obtain⟨b,oo,cs,ro,rfl,lb,_,gb,hc⟩:=hb (by rintro rfl;simp at hx);have qF:h1.get b=some (.cells cs ro):=by rw[o.2 b lb,gb]
 have h4:(cs.drop (oo+(i:Int).toNat*4)).take 4=V4 x:=by rw[zw];exact hc i x hx
 have j4:=jfR h4 (hV x);have rF:=zc hx;obtain⟨h2,e2,o2⟩:=k x rF h1 o;have a8:(i:Int)+1=((i+1:Nat):Int):=by omega
 clear k hb;by_cases bB:bad x
 .rw[zG bB]at e2;clear ih hj hc;refine Ga ?_;refine zcw rfl qF j4 ?_;rw[h4];refine Ops.callc rfl rfl e2 ?_;refine Ga ?_;exact⟨_,rfl,o.trans o2,fun _=>⟨x,rF,bB⟩,fun _=>by omega⟩
 .rw[zE bB]at e2;clear hc;refine Ga ?_;refine zcw rfl qF j4 ?_;rw[h4];refine Ops.callc rfl rfl e2 ?_;refine Ga ?_;rw[a8];refine ih (l.length-(i+1)) om _ _ ⟨i+1,rfl,by omega,rfl,o.trans o2,fun j y jH hy=>?_⟩;by_cases e:j=i
  .subst e;rw[hx]at hy;cases hy;exact bB
  .exact hj j y om hy
theorem cf_step{d g:Nat}{h:H}{P:Nat->Prop}{bad:SpX->Prop}[DecidablePred bad]{v:V}{l:List SpX}(hd:2<=d)(a:At4 h P SpX.V v l)(hl:l.length<=50000)
  (k:∀x∈l,∀h1,Old h h1 -> ∃h2,cl (d-2) (.fn g) [.agg x.V] h1=some (.bool (decide (bad x)),h2)/\Old h1 h2) :
  ∃h',cl d (.fn 110) [v,.clo g []] h=some (.bool (decide (∃x∈l,bad x)),h')/\Old h h':=by
 obtain⟨r,h1,e1,o1,hr⟩:=if_4 Z (d:=d-1) (f:=157) (fun _=>rfl) rfl rfl om a hl k;refine jae (aT Z ?_);refine Ga ?_;exact⟨congrArg V.bool (decide_eq_decide.2 hr),o1⟩
theorem cf_move{d g:Nat}{h:H}{P:Nat->Prop}{bad:MvX->Prop}[DecidablePred bad]{v:V}{l:List MvX}(hd:2<=d)(a:At4 h P MvX.V v l)(hl:l.length<=50000)
  (k:∀x∈l,∀h1,Old h h1 -> ∃h2,cl (d-2) (.fn g) [.agg x.V] h1=some (.bool (decide (bad x)),h2)/\Old h1 h2) :
  ∃h',cl d (.fn 160) [v,.clo g []] h=some (.bool (decide (∃x∈l,bad x)),h')/\Old h h':=by
 obtain⟨r,h1,e1,o1,hr⟩:=if_4 Z (d:=d-1) (f:=180) (fun _=>rfl) rfl rfl om a hl k;refine jae (aT Z ?_);refine Ga ?_;exact⟨congrArg V.bool (decide_eq_decide.2 hr),o1⟩
theorem wm_badN{d:Nat}{h:H}{n:Int}(hd:1<=d):cl d (.fn 158) [.i n] h=some (.bool (decide (badN n)),h):=by
 refine jaj (aT Z ?_);by_cases h1:n<0
 .refine Ga ?_;exact⟨by rw[zG (show badN n from .inl h1)],rfl⟩
 .refine Ga ?_;exact⟨congrArg V.bool (decide_eq_decide.2 ⟨.inr,fun e=>e.elim (fun e=>zJ e h1) id⟩),rfl⟩
theorem if_1{d:Nat}{h:H}{v:V}{l:List Int}(hd:2<=d)(a:VI h v l)(hl:l.length<=50000) :
  ∃r,cl d (.fn 179) [v,.clo 158 []] h=some (.i r,h)/\(0<=r ↔ ∃x∈l,badN x):=by
 suffices q:∃w h',cl d (.fn 179) [v,.clo 158 []] h=some (w,h')/\∃r,w = .i r/\h'=h/\(0<=r ↔ ∃x∈l,badN x) by
  obtain⟨_,h',e,r,rfl,rfl,q⟩:=q;exact⟨r,e,q⟩
 obtain⟨ad,c,rfl,_,_,hb⟩:=a;refine aT Z ?_;refine Ga ?_;refine Zq (fun m e h1=>∃i:Nat,m=l.length-i/\i<=l.length/\e=[(0,.slice ad l.length c),(1,.clo 158 []),(7,.i (l.length:Int)),(8,.i (i:Int))]/\h1=h/\∀j x,j<i->l[j]?=some x -> ¬badN x)
  (k:=l.length) Ze ⟨0,rfl,by omega,rfl,rfl,fun j x hj=>by omega⟩ ?_
 rintro _ _ h1 ⟨i,rfl,hi,rfl,rfl,hj⟩ n' ih;by_cases d4:(i:Int)<l.length
 case neg=>
  have j5:¬ ∃x∈l,badN x:=fun ⟨x,hx,hb⟩=>by
   obtain⟨j,nC,e⟩:=zV hx;exact hj j x om (by rw[za nC,e]) hb
  clear ih hb hj;refine Ga ?_;exact⟨_,rfl,rfl,fun e=>zJ e om,fun e=>zJ e j5⟩
 obtain⟨x,hx⟩:=jdN (l:=l) (i:=i) om;obtain⟨b,oo,cs,ro,rfl,lb,gb,hc⟩:=hb (by rintro rfl;simp at hx);have h4:cs[oo+(i:Int).toNat*1]?=some (.i x):=by rw[zw,Nat.mul_one];exact hc i x hx
 have rF:=zc hx;have e2:=wm_badN Z (d:=d-1) (n:=x) (h:=h1) om;have a8:(i:Int)+1=((i+1:Nat):Int):=by omega
 clear hb hc;by_cases bB:badN x
 .rw[zG bB]at e2;clear ih hj;refine Ga ?_;refine Ops.callc rfl rfl e2 ?_;refine Ga ?_;exact⟨_,rfl,rfl,fun _=>⟨x,rF,bB⟩,fun _=>by omega⟩
 .rw[zE bB]at e2;refine Ga ?_;refine Ops.callc rfl rfl e2 ?_;refine Ga ?_;rw[a8];refine ih (l.length-(i+1)) om _ _ ⟨i+1,rfl,by omega,rfl,rfl,fun j y jH hy=>?_⟩;by_cases e:j=i
  .subst e;rw[hx]at hy;cases hy;exact bB
  .exact hj j y om hy
theorem cf_int{d:Nat}{h:H}{v:V}{l:List Int}(hd:3<=d)(a:VI h v l)(hl:l.length<=50000) :
  cl d (.fn 159) [v,.clo 158 []] h=some (.bool (decide (∃x∈l,badN x)),h):=by
 obtain⟨r,e1,hr⟩:=if_1 Z (d:=d-1) om a hl;refine jaj (aT Z ?_);refine Ga ?_;exact⟨congrArg V.bool (decide_eq_decide.2 hr),rfl⟩
theorem wm_mayC{d:Nat}{h:H}{x:MvX}(hd:8<=d)(hv:VB h x.dv x.m.D):∃h',cl d (.fn 161) [.agg x.V] h=some (.bool (decide (¬x.m.may)),h')/\Old h h':=by
 obtain⟨m,dv⟩:=x;obtain⟨a,c,e,_⟩:=hv;have e:dv = .slice a m.D.length c:=e;subst e;have o:Old h (h.new (.cells (mvV m (.slice a m.D.length c)) false)):=(Zz h).new;have g0:(h.new (.cells (mvV m (.slice a m.D.length c)) false)).get h.nx=some (.cells (mvV m (.slice a m.D.length c)) false):=jac _;obtain⟨h1,e1,o1⟩:=jp2 Z (d:=d-1) (h:=h.new (.cells (mvV m (.slice a m.D.length c)) false)) (m:=m) (a:=a) (c:=c) om;refine jae (aT Z ?_);refine qm ?_;exact⟨rfl,o.trans o1⟩
theorem wm_Check{d:Nat}{h:H}{P Q:Nat->Prop}{x:SpX}(hd:11<=d)(a:StepAt h P Q x):∃h',cl d (.fn 112) [.agg x.V] h=some (.i (if x.sp.may then 0 else 120),h')/\Old h h':=by
 have o:Old h (h.new (.cells x.V false)):=(Zz h).new;have g0:(h.new (.cells x.V false)).get h.nx=some (.cells x.V false):=jac _;have x0:h.nx<(h.new (.cells x.V false)).nx:=by simp
 have a0:=a.old o;obtain⟨ao,co,eo,_⟩:=id a.ov.1;obtain⟨am,cm,em,_⟩:=id a.mv;have q2:(x.V)[0+2]?=some (.slice ao x.ol.length co):=by rw[<- eo];rfl
 have q3:(x.V)[0+3]?=some (.slice am x.ml.length cm):=by rw[<- em];rfl
 refine jae (aT Z ?_);by_cases h1:(x.ml.length:Int)>50
 .have hm:¬x.sp.may:=fun e=>by have:=e.1;simp[SpX.sp]at this;omega
  clear a a0;refine qm ?_;exact⟨by rw[zC hm],o⟩
 by_cases h2:(x.ol.length:Int)>50
 .have hm:¬x.sp.may:=fun e=>by have:=e.2.1;simp[SpX.sp]at this;omega
  clear a a0;refine qm ?_;exact⟨by rw[zC hm],o⟩
 have e1:=cf_int Z (d:=d-1) om a0.ov.1 om;rw[eo]at e1;by_cases h3:∃n∈x.ol,badN n
 .have hm:¬x.sp.may:=fun e=>by
   obtain⟨n,hn,hb⟩:=h3;have:=e.2.2.1 n hn;rcases hb with hb|hb<;>omega
  rw[zG h3]at e1;clear a a0 h3;refine qm ?_;exact⟨by rw[zC hm],o⟩
 obtain⟨h9,e2,o2⟩:=cf_move Z (d:=d-1) (g:=161) (bad:=fun y=>¬y.m.may) om a0.mv om fun y hy h1 o1=>wm_mayC Z om ((a0.old o1).dv y hy).1;rw[em]at e2;rw[zE h3]at e1;by_cases h4:∃y∈x.ml,¬y.m.may
 .have hm:¬x.sp.may:=fun e=>by
   obtain⟨y,hy,hb⟩:=h4;exact hb (e.2.2.2 y.m (List.mem_map_of_mem hy))
  rw[zG h4]at e2;clear a a0 h3 h4;refine qm ?_;exact⟨by rw[zC hm],o.trans o2⟩
 .have hm:x.sp.may:=⟨by simp[SpX.sp];omega,by simp[SpX.sp];omega,fun n hn=>by
   have:¬badN n:=fun e=>h3 ⟨n,hn,e⟩;unfold badN at this;omega,fun m hm=>by
   obtain⟨y,hy,rfl⟩:=List.mem_map.1 hm;exact Decidable.byContradiction fun e=>h4 ⟨y,hy,e⟩⟩
  rw[zE h4]at e2;clear a a0 h3 h4;refine qm ?_;exact⟨by rw[zD hm],o.trans o2⟩
theorem wm_CheckC{d:Nat}{h:H}{P Q:Nat->Prop}{x:SpX}(hd:12<=d)(a:StepAt h P Q x):∃h',cl d (.fn 111) [.agg x.V] h=some (.bool (decide (¬x.sp.may)),h')/\Old h h':=by
 have o:Old h (h.new (.cells x.V false)):=(Zz h).new;have g0:(h.new (.cells x.V false)).get h.nx=some (.cells x.V false):=jac _;obtain⟨h1,e1,o1⟩:=wm_Check Z (d:=d-1) om (a.old o);refine jae (aT Z ?_);by_cases hm:x.sp.may
 .rw[zD hm]at e1;refine qm ?_;exact⟨by simp[hm],o.trans o1⟩
 .rw[zC hm]at e1;refine qm ?_;exact⟨by simp[hm],o.trans o1⟩
theorem jp3{d:Nat}{h:H}{P Q:Nat->Prop}{v:V}{l:List SpX}(hd:15<=d)(a:jeo h P Q v l)(hl:l.length<=2000):∃h',cl d (.fn 44) [v] h=some (.bool (decide (∀x∈l,x.sp.may)),h')/\Old h h':=by
 obtain⟨h1,e1,o1⟩:=cf_step Z (d:=d-1) (g:=111) (bad:=fun x=>¬x.sp.may) om a.1 om fun y hy h1 o1=>wm_CheckC Z om ((a.2 y hy).old o1);have he:decide (∀x∈l,x.sp.may)=decide (¬ ∃x∈l,¬x.sp.may):=decide_eq_decide.2 ⟨fun e ⟨x,hx,hn⟩=>hn (e x hx),fun e x hx=>Decidable.byContradiction fun hn=>e ⟨x,hx,hn⟩⟩;rw[he];obtain⟨ad,c,rfl,_⟩:=id a.1;have h1:(l.length:Int)<=2000:=by omega
 refine jae (aT Z ?_);clear a he;refine Ga ?_;exact⟨rfl,o1⟩
end
section
variable{cl:Nat->Call}(Z:Sem cl)
include Z
theorem rm_May{d:Nat}{h:H}{P Q:Nat->Prop}{x:SpX}(hd:4<=d)(a:StepAt h P Q x):∃h',cl d (.fn 114) [.agg x.V] h=some (.bool (decide x.sp.may),h')/\Old h h':=by
 have o:Old h (h.new (.cells x.V false)):=(Zz h).new;have g0:(h.new (.cells x.V false)).get h.nx=some (.cells x.V false):=jac _;have x0:h.nx<(h.new (.cells x.V false)).nx:=by simp
 have a0:=a.old o;generalize hG:h.new (.cells x.V false)=G at o g0 x0 a0;obtain⟨ao,co,eo,n1,f1,b1⟩:=id a0.ov.1;obtain⟨am,cm,em,n2,f2,b2⟩:=id a0.mv;have q2:(x.V)[0+2]?=some (.slice ao x.ol.length co):=by rw[<- eo];rfl
 have q3:(x.V)[0+3]?=some (.slice am x.ml.length cm):=by rw[<- em];rfl
 refine jae (aT Z ?_);by_cases h1:(x.ml.length:Int)>50
 .have hm:¬x.sp.may:=fun e=>by have:=e.1;simp[SpX.sp]at this;omega
  subst hG;clear a a0 b1 b2;refine qm ?_;exact⟨by rw[zE hm],o⟩
 by_cases h2:(x.ol.length:Int)>50
 .have hm:¬x.sp.may:=fun e=>by have:=e.2.1;simp[SpX.sp]at this;omega
  subst hG;clear a a0 b1 b2;refine qm ?_;exact⟨by rw[zE hm],o⟩
 have dvs:∀g,Old G g -> ∀m∈x.ml,VB g m.dv m.m.D:=fun g og m hm=>((a0.old og).dv m hm).1;clear a a0;obtain⟨C,hC⟩:∃C,C=c114_3:=⟨_,rfl⟩
 obtain⟨C1,e_⟩:∃C,C=c114_1:=⟨_,rfl⟩
 simp only[c114,c114_4,<- hC,<- e_,uF,yB];have T:Run (cl (d-1)) fuel (.loop [1,3] C) [.block 0,.seq (.seq (.seq (.region 0 [.mk4 0 (some 4) (.mv (.c (.i 0))) none] [1,4]) (.block 2 (.loop [1,4] C1))) (.seq (.region 0 [.mk4 0 (some 2) (.mv (.c (.bool true))) none] [2]) (.ret)))] [(1,.p h.nx 0),(3,.i 0)] G (Fin c114.res fun v h'=>v = .bool (decide x.sp.may)/\Old h h'):=by
  rw[hC];refine Zq (fun m e g=>∃i:Nat,m=x.ol.length-i/\i<=x.ol.length/\e=[(1,.p h.nx 0),(3,.i (i:Int))]/\g=G/\∀j y,j<i->x.ol[j]?=some y -> ¬badN y)
   (k:=x.ol.length) Ze ⟨0,rfl,by omega,rfl,rfl,fun j x hj=>by omega⟩ ?_
  rintro _ _ g ⟨i,rfl,hi,rfl,rfl,hj⟩ n' ih;by_cases d4:(i:Int)<x.ol.length
  case pos=>
   obtain⟨y,hy⟩:=jdN (l:=x.ol) (i:=i) om;obtain⟨b,oo,cs,ro,rfl,lb,gb,hc⟩:=b1 (by intro e;rw[e]at hy;simp at hy);have h4:cs[oo+(i:Int).toNat*1]?=some (.i y):=by rw[zw,Nat.mul_one];exact hc i y hy
   have lE:=zc hy;have a8:(i:Int)+1=((i+1:Nat):Int):=by omega
   clear b1 b2 hc dvs;by_cases k1:y<0
   .have hm:¬x.sp.may:=fun e=>by have:=(e.2.2.1 y lE).1;omega
    clear ih hj;refine Ga ?_;exact⟨by rw[zE hm],o⟩
   by_cases k2:y>999
   .have hm:¬x.sp.may:=fun e=>by have:=(e.2.2.1 y lE).2;omega
    clear ih hj;refine Ga ?_;exact⟨by rw[zE hm],o⟩
   refine Ga ?_;rw[a8];refine ih (x.ol.length-(i+1)) om _ _ ⟨i+1,rfl,by omega,rfl,rfl,fun j z jH hz=>?_⟩;by_cases e:j=i
   .subst e;rw[hy]at hz;cases hz;unfold badN;omega
   .exact hj j z om hz
  have m7:∀n∈x.ol,0<=n/\n<=999:=fun n hn=>by
   obtain⟨j,nC,e⟩:=zV hn;have:=hj j n om (by rw[za nC,e]);unfold badN at this;omega
  clear ih b1 hj;refine Ga ?_;rw[e_];refine Zq (fun m e g'=>∃i:Nat,m=x.ml.length-i/\i<=x.ml.length/\e=[(1,.p h.nx 0),(4,.i (i:Int))]/\Old g g'/\∀j y,j<i->x.ml[j]?=some y->y.m.may)
   (k:=x.ml.length) Ze ⟨0,rfl,by omega,rfl,Zz _,fun j x hj=>by omega⟩ ?_
  rintro _ _ g' ⟨i,rfl,hi,rfl,og,hj⟩ n' ih;have gg:g'.get h.nx=some (.cells x.V false):=by rw[og.2 _ x0,g0]
  by_cases d4:(i:Int)<x.ml.length
  case neg=>
   have hm:x.sp.may:=⟨by simp[SpX.sp];omega,by simp[SpX.sp];omega,m7,fun m hm=>by
    obtain⟨y,hy,rfl⟩:=List.mem_map.1 hm;obtain⟨j,nC,e⟩:=zV hy;exact hj j y om (by rw[za nC,e])⟩
   clear ih b2 hj dvs m7;refine Ga ?_;exact⟨by rw[zG hm],o.trans og⟩
  obtain⟨y,hy⟩:=jdN (l:=x.ml) (i:=i) om;obtain⟨b,oo,cs,ro,rfl,lb,_,gb,hc⟩:=b2 (by intro e;rw[e]at hy;simp at hy);have qF:g'.get b=some (.cells cs ro):=by rw[og.2 b lb,gb]
  have h4:(cs.drop (oo+(i:Int).toNat*4)).take 4=y.V:=by rw[zw];exact hc i y hy
  have j4:=jfR h4 rfl;have lE:=zc hy;have a8:(i:Int)+1=((i+1:Nat):Int):=by omega
  have hv:=dvs g' og y lE;obtain⟨m,dv⟩:=y;obtain⟨da,dc,e,_⟩:=hv;have e:dv = .slice da m.D.length dc:=e;subst e;obtain⟨g2,e2,o2⟩:=jpB Z (d:=d-1) (h:=g') (m:=m) (a:=da) (c:=dc) om;clear b2 hc dvs;by_cases mC:m.may
  .rw[zG mC]at e2;refine Ga ?_;refine zcw rfl qF j4 ?_;rw[h4];refine Ga ?_;rw[a8];refine ih (x.ml.length-(i+1)) om _ _ ⟨i+1,rfl,by omega,rfl,og.trans o2,fun j z jH hz=>?_⟩;by_cases e:j=i
   .subst e;rw[hy]at hz;cases hz;exact mC
   .exact hj j z om hz
  .rw[zE mC]at e2;have hm:¬x.sp.may:=fun e=>mC (e.2.2.2 m (List.mem_map.2 ⟨_,lE,rfl⟩));clear ih hj m7;refine Ga ?_;refine zcw rfl qF j4 ?_;rw[h4];refine Ga ?_;exact⟨by rw[zE hm],(o.trans og).trans o2⟩
 subst hG;clear dvs b1 b2;refine qm ?_;exact T
theorem jpC{d:Nat}{h:H}{P Q:Nat->Prop}{v:V}{l:List SpX}(hd:5<=d)(a:jeo h P Q v l)(hl:l.length<=2000):∃h',cl d (.fn 46) [v] h=some (.bool (decide (∀x∈l,x.sp.may)),h')/\Old h h':=by
 obtain⟨⟨ad,c,rfl,_,_,hb⟩,hs⟩:=a;have h1:¬(l.length:Int)>2000:=by omega
 refine jae (aT Z ?_);refine Ga ?_;refine Zq (fun m e g=>∃i:Nat,m=l.length-i/\i<=l.length/\e=[(0,.slice ad l.length c),(3,.i (i:Int))]/\Old h g/\∀j y,j<i->l[j]?=some y->y.sp.may)
  (k:=l.length) Ze ⟨0,rfl,by omega,rfl,Zz _,fun j x hj=>by omega⟩ ?_
 rintro _ _ g ⟨i,rfl,hi,rfl,og,hj⟩ n' ih;by_cases d4:(i:Int)<l.length
 case neg=>
  have wB:∀x∈l,x.sp.may:=fun y hy=>by
   obtain⟨j,nC,e⟩:=zV hy;exact hj j y om (by rw[za nC,e])
  clear ih hj hb hs;refine Ga ?_;exact⟨by rw[zG wB],og⟩
 obtain⟨y,hy⟩:=jdN (l:=l) (i:=i) om;obtain⟨b,oo,cs,ro,rfl,lb,_,gb,hc⟩:=hb (by intro e;rw[e]at hy;simp at hy);have qF:g.get b=some (.cells cs ro):=by rw[og.2 b lb,gb]
 have h4:(cs.drop (oo+(i:Int).toNat*4)).take 4=y.V:=by rw[zw];exact hc i y hy
 have j4:=jfR h4 rfl;have lE:=zc hy;have a8:(i:Int)+1=((i+1:Nat):Int):=by omega
 obtain⟨g2,e2,o2⟩:=rm_May Z (d:=d-1) om ((hs y lE).old og);clear hb hc hs;by_cases mC:y.sp.may
 .rw[zG mC]at e2;refine Ga ?_;refine zcw rfl qF j4 ?_;rw[h4];refine Ga ?_;rw[a8];refine ih (l.length-(i+1)) om _ _ ⟨i+1,rfl,by omega,rfl,og.trans o2,fun j z jH hz=>?_⟩;by_cases e:j=i
  .subst e;rw[hy]at hz;cases hz;exact mC
  .exact hj j z om hz
 .rw[zE mC]at e2;have wB:¬ ∀x∈l,x.sp.may:=fun e=>mC (e y lE);clear ih hj;refine Ga ?_;refine zcw rfl qF j4 ?_;rw[h4];refine Ga ?_;exact⟨by rw[zE wB],og.trans o2⟩
end
abbrev jqc:H->Int×Int×Int×List Int×Unit->List V->Prop:=jbs (jci .i64) (jbs (jci .i64) (jbs (jci .i64) (jbs (jbC 1100 (jci .u8)) jjg)))
def MvX.fit(x:MvX):Prop:=x.m.wire<9223372036854775808/\x.m.n<9223372036854775808
theorem joO{h:H}:∀{l:List (Int×Int×Int×List Int×Unit)} {cs:List V},jbx jqc h l cs -> ∃L:List MvX,L.length=l.length/\cs=(L.map MvX.V).flatten/\∀x∈L,MvOk h x/\x.fit
 |[],_,e=>⟨[],rfl,e,fun x hx=>by cases hx⟩
 |y::l,_,⟨u,w,e,h1,h2⟩=>by
  obtain⟨L,l1,l2,l3⟩:=joO h2;obtain⟨_,_,rfl,⟨rfl,_⟩,_,_,rfl,⟨rfl,_,b2⟩,_,_,rfl,⟨rfl,_,b3⟩,u5,w5,rfl,r5,hw⟩:=h1;obtain rfl:w5=[]:=hw;have ⟨ad,c,e5,_⟩:=r5;subst e5;obtain⟨a,c,e6,hB⟩:=jkw r5;refine⟨⟨⟨y.1,y.2.1,y.2.2.1,y.2.2.2.1.map jl2⟩,.slice a y.2.2.2.1.length (.fix c)⟩::L,by simp[l1],by rw[e,l2,e6];rfl,fun x hx=>?_⟩;rcases zZ.1 hx with rfl|hx
  .exact⟨⟨a,.fix c,by simp,fun hl=>hB (by simpa using hl)⟩,Int.lt_of_le_of_lt b2 (by decide),Int.lt_of_le_of_lt b3 (by decide)⟩
  .exact l3 x hx
theorem jeJ{α:Type}{f:α -> List V}(hf:∀x,(f x).length=4):∀L:List α,(L.map f).flatten.length=L.length*4
 |[]=>rfl
 |x::L=>by
  have:=jeJ hf L;show (f x++(L.map f).flatten).length=_;rw[zg,this,hf];simp;omega
theorem jc3{α:Type}{f:α -> List V}(hf:∀x,(f x).length=4):∀{L:List α} {i:Nat} {x:α},L[i]?=some x->(((L.map f).flatten).drop (i*4)).take 4=f x
 |[],i,x,h=>by simp at h
 |y::L,0,x,h=>by
  simp at h;subst h;show ((f y++(L.map f).flatten).drop (0*4)).take 4=f y;rw[Nat.zero_mul,zk,List.take_append_of_le_length (by rw[hf y];exact zq _),zh (by rw[hf y];exact zq _)]
 |y::L,i+1,x,h=>by
  rw[List.map_cons,zW,show (i+1)*4=(f y).length+i*4 by rw[hf];omega,<- List.drop_drop,List.drop_left];exact jc3 hf (by simpa using h)
theorem MvOk.keep{h h':H}{x:MvX}(o:MvOk h x)(a:Old h h'):MvOk h' x:=by
 obtain⟨z,c,e,g⟩:=o;exact⟨z,c,e,fun hl=>⟨(g hl).none_,(g hl).fits,fun hn=>by
  obtain⟨b,o,cs,ro,q1,q2,q3,q4⟩:=(g hl).at_ hn;exact⟨b,o,cs,ro,q1,zr q2 a.1,by rw[a.2 b q2,q3],q4⟩⟩⟩
theorem jpD{α:Type}{f:α -> List V}(hf:∀x,(f x).length=4){cs:List V}:∀{l:List α} {o:Nat},(∀(i:Nat) (x:α),l[i]?=some x->(cs.drop (o+i*4)).take 4=f x)->(cs.drop o).take (l.length*4)=(l.map f).flatten
 |[],o,_=>by simp
 |x::l,o,h=>by
  have h0:=h 0 x rfl;rw[Nat.zero_mul,Nat.add_zero]at h0;have ih:=jpD hf (l:=l) (o:=o+4) fun i y hi=>by
   have:=h (i+1) y (by simpa using hi);rw[show o+(i+1)*4=o+4+i*4 by omega]at this;exact this
  have e:(x::l).length*4=4+l.length*4:=by simp;omega
  rw[e,List.take_add,h0,List.map_cons,zW,List.drop_drop,ih]
theorem append4{α:Type}{f:α -> List V}(hf:∀x,(f x).length=4){h:H}{P:Nat->Prop}{bytes:Nat}{s v:V}{l:List α}(hb:bytes<=64)(hs:s = .nils\/∃b,s = .slice (some (b,0)) 0 (.fix 0))(a:At4 h P f v l)(hn:l.length<=1000000) :
  ∃v' h',jaH h 4 bytes s v=some (v',h')/\((l=[]/\v'=s/\h'=h)\/(l≠[]/\v' = .slice (some (h.nx,0)) l.length (.grow 4)/\h'=h.new (.cells (l.map f).flatten false))):=by
 obtain⟨ad,c,rfl,_,_,g⟩:=a;have tC:(Nat.ble ((0+l.length)*bytes) (2 ^ 46)&&Nat.ble (0+l.length) (2 ^ 46))=true:=by
  have:(0+l.length)*bytes<=1000000*64:=Nat.mul_le_mul om hb;simp only[zp,zQ];omega
 by_cases hl:l=[]
 .subst hl;have eB:jaz h 4 0 (.slice ad 0 c)=some []:=by cases ad<;>rfl
  refine⟨s,h,?_,.inl ⟨rfl,rfl,rfl⟩⟩;rw[List.length_nil]at tC;rcases hs with rfl|⟨b,rfl⟩<;>(simp only[jaH,lenOf,List.length_nil,eB];rw[tC];rfl)
 .obtain⟨b',o,cs,ro,rfl,h1,_,h2,h3⟩:=g hl;have pB:0<l.length:=List.length_pos_iff.2 hl;have p2:=jpD hf h3;have hz:(l.length == 0)=false:=by simp;omega
  have iC:(l.length*4 == 0)=false:=by simp;omega
  have rZ:=jfR (h3 (l.length-1) _ (za om)) (hf _);have eB:jaz h 4 l.length (.slice (some (b',o)) l.length c)=some (l.map f).flatten:=by
   simp only[jaz,iC,cond_false];rw[jcz h2 om,p2]
  have tV:Nat.ble (0+l.length) 0=false:=by
   cases dB:Nat.ble (0+l.length) 0 with
   |false=>rfl
   |true=>rw[zQ]at dB;omega
  refine⟨.slice (some (h.nx,0)) l.length (.grow 4),h.new (.cells (l.map f).flatten false),?_,.inr ⟨hl,rfl,rfl⟩⟩;rcases hs with rfl|⟨b,rfl⟩
  .simp only[jaH,lenOf,eB,tC,hz,cond_true,cond_false];rfl
  .simp only[jaH,lenOf,eB];rw[tC,hz,tV];simp only[cond_true,cond_false,Nat.zero_mul,beq_self_eq_true,List.nil_append,zP];rfl
theorem At4.of_new{α:Type}{f:α -> List V}(hf:∀x,(f x).length=4){h:H}{P:Nat->Prop}{l:List α}(hP:P h.nx):At4 (h.new (.cells (l.map f).flatten false)) P f (.slice (some (h.nx,0)) l.length (.grow 4)) l:=
 ⟨_,_,rfl,fun e=>(by cases e),rfl,fun _=>⟨h.nx,0,_,false,rfl,by simp,hP,jac _,fun i x hi=>by rw[zP];exact jc3 hf hi⟩⟩
theorem At4.nil{α:Type}{f:α -> List V}{h:H}{P:Nat->Prop}:At4 h P f .nils ([]:List α):=⟨none,.fix 0,rfl,fun _=>⟨rfl,rfl⟩,zq _,fun e=>zJ rfl e⟩
theorem At4.zero{α:Type}{f:α -> List V}{h:H}{P:Nat->Prop}{b:Nat}:At4 h P f (.slice (some (b,0)) 0 (.fix 0)) ([]:List α):=⟨_,_,rfl,fun e=>(by cases e),zq _,fun e=>zJ rfl e⟩
section
variable{call:Call}{fuel base:Nat}{ops:List Ins}{keep:List Nat}{K:List Fr}{e:Env}{h:H}{Q:Post}{ix:Nat}{dst:Option Nat}
theorem Ops.app4{α:Type}{f:α -> List V}(hf:∀x,(f x).length=4){P:Nat->Prop}{bytes:Nat}{x y:Opd}{s v:V}{l:List α}(hx:x.ev e=some s)(hy:y.ev e=some v)(hb:bytes<=64)(hs:s = .nils\/∃b,s = .slice (some (b,0)) 0 (.fix 0))(a:At4 h P f v l)(hn:l.length<=1000000)
  (k:∀v' h',((l=[]/\v'=s/\h'=h)\/(l≠[]/\v' = .slice (some (h.nx,0)) l.length (.grow 4)/\h'=h.new (.cells (l.map f).flatten false)))->Ops call fuel base ops keep K (layv e dst v') h' Q):Ops call fuel base (⟨ix,dst,.append 4 bytes x y,none,none,[]⟩::ops) keep K e h Q:=by
 obtain⟨v',h',e1,e2⟩:=append4 hf hb hs a hn;exact Ops.step (Zp rfl (by simp only[I.eff,hx,hy,e1])) (k v' h' e2)
end
section
variable{cl:Nat->Call}(Z:Sem cl)
include Z
theorem sc_bytes{d:Nat}{h:H}{v:V}{l:List UInt8}(hd:1<=d)(hv:VB h v l)(hn:l.length<=100000):∃v1 h1,cl d (.fn 164) [v] h=some (v1,h1)/\Old h h1/\VB h1 v1 l/\(∀z,v1.at?=some z->h.nx<=z)/\∃a c,v1 = .slice a l.length c:=by
 obtain⟨a,c,rfl,n,f,g⟩:=id hv;refine aT Z ?_;cases a with
 |none=>
  obtain⟨rfl,rfl⟩:=n rfl;refine Ga ?_
  all_goals first|exact⟨Zz h,VB.nil h,fun z hz=>(by cases hz),_,_,rfl⟩|skip
 |some p=>
  refine qm ?_;refine Ops.copyB (B:=h.nx) rfl rfl (hv.keep2 Zd fun hl z hz=>jad (hv.lt hl hz)) om fun a c h' jF _ o hz=>?_;refine qm ?_;refine⟨(Zz h).new.trans o,jF,fun z e=>?_,_,_,rfl⟩;cases e;rcases hz with rfl|hz
  .exact zq _
  .have:h.nx+1<=a:=hz.1;omega
theorem sc_moves{d:Nat}{h:H}{P:Nat->Prop}{v:V}{l:List MvX}(hd:1<=d)(a:At4 h P MvX.V v l)(hn:l.length<=100000):∃v1 h1,cl d (.fn 163) [v] h=some (v1,h1)/\Old h h1 /\
  ∃ad c,v1 = .slice ad l.length c/\(ad=none->c = .fix 0/\l=[])/\Cap.fits c l.length 4/\(l≠[] -> ∃b,ad=some (b,0)/\h.nx<=b/\b<h1.nx/\h1.get b=some (.cells (l.map MvX.V).flatten false)):=by
 obtain⟨ad,c,rfl,n,f,g⟩:=id a;refine aT Z ?_;cases ad with
 |none=>
  obtain⟨rfl,rfl⟩:=n rfl;refine Ga ?_
  all_goals first|exact⟨Zz h,none,.fix 0,rfl,fun _=>⟨rfl,rfl⟩,zq _,fun e=>zJ rfl e⟩|skip
 |some p=>
  refine qm ?_;refine Ops.app4 (l:=l) (f:=MvX.V) (P:=P) (fun _=>rfl) rfl rfl om (.inr ⟨_,rfl⟩) (a.old (Zz h).new) om fun v' h' hk=>?_;rcases hk with⟨rfl,rfl,rfl⟩|⟨hl,rfl,rfl⟩
  .refine qm ?_;exact⟨(Zz h).new,_,_,rfl,fun e=>(by cases e),zq _,fun e=>zJ rfl e⟩
  .refine qm ?_;exact⟨(Zz h).new.new,_,_,rfl,fun e=>(by cases e),rfl,fun _=>⟨_,rfl,by simp,by simp,jac _⟩⟩
end
theorem jlw:∀{l:List MvX} {i:Nat} {m:Mv} {dv v:V},l[i]?=some ⟨m,dv⟩->((l.map MvX.V).flatten).set (i*4+3) v=((l.set i ⟨m,v⟩).map MvX.V).flatten
 |[],i,m,dv,v,h=>by simp at h
 |y::l,0,m,dv,v,h=>by
  simp at h;subst h;rfl
 |y::l,i+1,m,dv,v,h=>by
  have ih:=jlw (l:=l) (i:=i) (m:=m) (dv:=dv) (v:=v) (by simpa using h);rw[List.map_cons,zW,show (i+1)*4+3=(MvX.V y).length+(i*4+3) by show _=4+_;omega,List.set_append_right _ _ (Nat.le_add_right _ _),Zi,ih];rfl
theorem RowZ.vi{N:Nat}{h:H}{v:V}{l:List Int}(r:RowZ N h v l):VI h v l:=by
 rcases r with r|⟨rfl,b,rfl,h1,h2⟩
 .rcases r with⟨h0,_,rfl⟩|⟨q,h1,h2,rfl,h4,h5⟩
  .obtain rfl:=zn.1 h0;exact VI.nil h
  .exact⟨_,_,rfl,fun e=>(by cases e),rfl,fun _=>⟨q,0,_,false,rfl,h2,h4,fun i x hi=>by rw[zP];simp[hi]⟩⟩
 .exact⟨_,_,rfl,fun e=>(by cases e),zq _,fun e=>zJ rfl e⟩
section
variable{cl:Nat->Call}(Z:Sem cl)
include Z
theorem wm_twin{d:Nat}{h:H}{P Q:Nat->Prop}{x:SpX}(hd:2<=d)(a:StepAt h P Q x)(h1:x.ml.length<=1000)(h2:x.ol.length<=1000)(h3:∀m∈x.ml,m.m.D.length<=2000) :
  ∃y h',cl d (.fn 113) [.agg x.V] h=some (.agg (SpX.V y),h')/\y.sp=x.sp/\StepAt h' (h.nx <= ·) (h.nx <= ·) y/\Old h h':=by
 suffices q:∃w h',cl d (.fn 113) [.agg x.V] h=some (w,h')/\∃y,w = .agg (SpX.V y)/\y.sp=x.sp/\StepAt h' (h.nx <= ·) (h.nx <= ·) y/\Old h h' by
  obtain⟨_,h',e,y,rfl,q⟩:=q;exact⟨y,h',e,q⟩
 have o:Old h ((h.new (.cells x.V false)).new (.cells [.int .u64 0,.bool false,.nils,.nils] false)):=(Zz h).new.new;have g0:((h.new (.cells x.V false)).new (.cells [.int .u64 0,.bool false,.nils,.nils] false)).get h.nx=some (.cells x.V false):=qgt;have eM:((h.new (.cells x.V false)).new (.cells [.int .u64 0,.bool false,.nils,.nils] false)).get (h.nx+1)=some (.cells [.int .u64 0,.bool false,.nils,.nils] false):=qgt;have x0:((h.new (.cells x.V false)).new (.cells [.int .u64 0,.bool false,.nils,.nils] false)).nx=h.nx+2:=rfl;have a0:=a.old o;obtain⟨ov,h4,e4,o4,r4⟩:=jmA Z (d:=d-1) om a0.ov.1 om;obtain⟨oa,oc,rfl,_⟩:=id r4.vi;have a4:=a0.old o4;obtain⟨mv,h5,e5,o5,ad,c,rfl,n5,f5,g5⟩:=sc_moves Z (d:=d-1) om a4.mv om;have b4:h4.get h.nx=some (.cells x.V false):=by rw[o4.2 _ om,g0]
 have b5:h5.get h.nx=some (.cells x.V false):=by rw[o5.2 _ (by have:=o4.1;omega),b4]
 have c5:h5.get (h.nx+1)=some (.cells [.int .u64 0,.bool false,.nils,.nils] false):=by rw[o5.2 _ (by have:=o4.1;omega),o4.2 _ om,eM]
 have x4:=o4.1;have x5:=o5.1;obtain⟨am,cm,em,_⟩:=id a.mv;have q3:(x.V)[0+3]?=some x.mv:=rfl;have q2:(x.V)[0+2]?=some x.ov:=rfl;refine aT Z ?_;obtain⟨C,hC⟩:∃C,C=c113_2:=⟨_,rfl⟩
 simp only[c113,c113_3,<- hC,yB];have T:∀h6:H,h6=(h5.set h.nx (.cells [.int .u64 x.t,.bool x.intr,.slice oa x.ol.length oc,x.mv] false)).set h.nx (.cells [.int .u64 x.t,.bool x.intr,.slice oa x.ol.length oc,.slice ad x.ml.length c] false)->Run (cl (d-1)) fuel C [] [(1,.p h.nx 0),(2,.p (h.nx+1) 0)] h6 (Fin c113.res fun w h'=>∃y,w = .agg (SpX.V y)/\y.sp=x.sp/\StepAt h' (h.nx <= ·) (h.nx <= ·) y/\Old h h'):=by
  intro h6 hh;have x6:h6.nx=h5.nx:=by rw[hh];simp
  have g6:∀j,j≠h.nx->h6.get j=h5.get j:=fun j hj=>by rw[hh,jaa hj,jaa hj]
  have b6:h6.get h.nx=some (.cells [.int .u64 x.t,.bool x.intr,.slice oa x.ol.length oc,.slice ad x.ml.length c] false):=by rw[hh];exact jab _
  have r6:RowZ (h.nx+2) h6 (.slice oa x.ol.length oc) x.ol:=(r4.keep (N:=h.nx+2) om fun z hz=>by
   have:=r4.at_ge hz;rw[g6 z om,o5.2 z this.2])
  have o6:Old h h6:=⟨by rw[x6];have:=o.1;omega,fun j hj=>by rw[g6 j om,((o.trans o4).trans o5).2 j hj]⟩
  have d6:∀m∈x.ml,VB h6 m.dv m.m.D:=fun m hm=>(a.dv m hm).1.keep2 o6.1 fun hl z hz=>o6.2 z ((a.dv m hm).1.lt hl hz);have m6:x.ml≠[] -> ∃b,ad=some (b,0)/\h.nx+2<=b/\b<h6.nx/\(∀z,(V.slice oa x.ol.length oc).at?=some z->z<b)/\h6.get b=some (.cells (x.ml.map MvX.V).flatten false):=fun hn=>by
   obtain⟨b,e1,e2,e3,e4⟩:=g5 hn;exact⟨b,e1,by omega,by omega,fun z hz=>by have:=(r4.at_ge hz).2;omega,by rw[g6 b om,e4]⟩
  have c6:h6.get (h.nx+1)=some (.cells [.int .u64 0,.bool false,.nils,.nils] false):=by rw[g6 _ om,c5]
  clear g6 hh a0 a4 e4 e5 b4 b5 c5 g0 eM r4 o4 o5 o g5;obtain⟨b,dB,bY,iQ⟩:∃b,h.nx+2<=b/\(∀z,(V.slice oa x.ol.length oc).at?=some z->z<b)/\(x.ml≠[]->ad=some (b,0)/\b<h6.nx/\h6.get b=some (.cells (x.ml.map MvX.V).flatten false)):=by
   by_cases hn:x.ml=[]
   .exact⟨h6.nx,by omega,fun z hz=>(r6.at_ge hz).2,fun e=>zJ hn e⟩
   .obtain⟨b,e1,e2,e3,e4,e5⟩:=m6 hn;exact⟨b,e2,e4,fun _=>⟨e1,e3,e5⟩⟩
  clear m6;rw[hC];clear hC;refine Ga ?_;refine Zq (fun m e g=>∃(i:Nat) (cur:List MvX),m=x.ml.length-i/\i<=x.ml.length/\e=[(1,.p h.nx 0),(2,.p (h.nx+1) 0),(14,.i (x.ml.length:Int)),(15,.i (i:Int))]/\cur.length=x.ml.length/\cur.map MvX.m=x.ml.map MvX.m/\(∀j,i<=j->cur[j]?=x.ml[j]?)/\(∀j y,j<i->cur[j]?=some y->VB g y.dv y.m.D/\∀z,y.dv.at?=some z->h6.nx<=z)/\(x.ml≠[]->g.get b=some (.cells (cur.map MvX.V).flatten false))/\h6.nx<=g.nx/\∀j,j<h6.nx->j≠b->g.get j=h6.get j)
   (k:=x.ml.length) Ze ⟨0,x.ml,rfl,by omega,rfl,rfl,rfl,fun _ _=>rfl,fun j y hj=>by omega,fun hn=>(iQ hn).2.2,zq _,fun _ _ _=>rfl⟩ ?_
  rintro _ _ g ⟨i,cur,rfl,hi,rfl,tS,dS,cW,uR,pO,Mf,lM⟩ n' ih;have bg:g.get h.nx=some (.cells [.int .u64 x.t,.bool x.intr,.slice oa x.ol.length oc,.slice ad x.ml.length c] false):=by rw[lM _ om om,b6]
  have cg:g.get (h.nx+1)=some (.cells [.int .u64 0,.bool false,.nils,.nils] false):=by rw[lM _ om om,c6]
  by_cases d4:(i:Int)<x.ml.length
  case neg=>
   obtain rfl:i=x.ml.length:=by omega
   have Nf:Old h (g.set (h.nx+1) (.cells [.int .u64 x.t,.bool x.intr,.slice oa x.ol.length oc,.slice ad x.ml.length c] false)):=⟨by simp;have:=o6.1;omega,fun j hj=>by rw[jaa om,lM j om om,o6.2 j hj]⟩
   have d9:StepAt (g.set (h.nx+1) (.cells [.int .u64 x.t,.bool x.intr,.slice oa x.ol.length oc,.slice ad x.ml.length c] false)) (h.nx <= ·) (h.nx <= ·) ⟨x.t,x.intr,x.ol,.slice oa x.ol.length oc,cur,.slice ad x.ml.length c⟩:=by
    refine⟨⟨?_,fun hl z hz=>by have:=(r6.at_ge hz).1;show h.nx<=z;omega⟩,?_,fun m hm=>?_,a.t0,a.t1⟩
    .have r7:RowZ (h.nx+2) (g.set (h.nx+1) (.cells [.int .u64 x.t,.bool x.intr,.slice oa x.ol.length oc,.slice ad x.ml.length c] false)) (.slice oa x.ol.length oc) x.ol:=r6.keep Zc fun z hz=>by
      have:=r6.at_ge hz;have:=bY z hz;rw[jaa om,lM z om om]
     exact r7.vi
    .have hz:cur=[]↔x.ml=[]:=by rw[<- zn,tS,zn]
     refine⟨ad,c,by rw[tS],fun e=>⟨(n5 e).1,hz.2 (n5 e).2⟩,by rw[tS];exact f5,fun hn=>?_⟩;have jQ:x.ml≠[]:=fun e=>hn (hz.2 e);obtain⟨e1,e2,_⟩:=iQ jQ;exact⟨b,0,_,false,e1,by simp;omega,by show h.nx<=b;omega,by rw[jaa om,pO jQ],fun i y hi=>by rw[zP];exact jc3 (fun _=>rfl) hi⟩
    .obtain⟨j,nC,e⟩:=zV hm;have nC:j<cur.length:=nC;obtain⟨p1,p2⟩:=uR j m om (by rw[za nC,e]);exact⟨p1.keep2 Zd fun hl z hz=>jaa (by have:=p2 z hz;omega),fun _ z hz=>by have:=p2 z hz;show h.nx<=z;omega⟩
   have aO:SpX.sp ⟨x.t,x.intr,x.ol,.slice oa x.ol.length oc,cur,.slice ad x.ml.length c⟩=x.sp:=by
    unfold SpX.sp;rw[dS]
   clear ih cW uR pO lM iQ r6 d6 b6 c6 dS;refine qm ?_;exact jbj rfl (jab _) rfl ⟨_,rfl,aO,d9,Nf⟩
  obtain⟨y,hy⟩:=jdN (l:=x.ml) (i:=i) om;have dW:cur[i]?=some y:=by rw[cW i (zq _),hy]
  have d5:x.ml≠[]:=by intro e;rw[e]at hy;simp at hy
  have lE:=zc hy;obtain⟨rfl,lb,_⟩:=iQ d5;have gb:=pO d5;have hv:VB g y.dv y.m.D:=(d6 y lE).keep2 Mf fun hl z hz=>by
   have:=(a.dv y lE).1.lt hl hz;exact lM z om om
  obtain⟨v1,g1,e1,o1,pF,iC,a1,c1,rfl⟩:=sc_bytes Z (d:=d-1) om hv (by have:=h3 y lE;omega);have Pf:((cur.map MvX.V).flatten)[0+(i:Int).toNat*4+3]?=some y.dv:=by
   rw[zP,zw,jhp (jc3 (fun _=>rfl) dW) om];rfl
  have Qf:g1.get h.nx=some (.cells [.int .u64 x.t,.bool x.intr,.slice oa x.ol.length oc,.slice (some (b,0)) x.ml.length c] false):=by rw[o1.2 _ om,bg]
  have qF:g1.get b=some (.cells (cur.map MvX.V).flatten false):=by rw[o1.2 _ om,gb]
  have fI:((cur.map MvX.V).flatten).length=cur.length*4:=jeJ (fun _=>rfl) cur;have d9:=jlw (l:=cur) (i:=i) (m:=y.m) (dv:=y.dv) (v:= .slice a1 y.m.D.length c1) dW;have a8:(i:Int)+1=((i+1:Nat):Int):=by omega
  have Rk:=h3 y lE;generalize vH:(cur.map MvX.V).flatten=fc at gb qF Pf fI d9;clear iQ pO d6 h3;refine Ga ?_;refine Zu rfl e1 (jau rfl Qf rfl rfl ja9) ?_;refine Ga ?_;refine zcs (l:=fc) rfl rfl rfl qF om ?_;refine Ga ?_;rw[a8,show 0+(i:Int).toNat*4+3=i*4+3 by omega,d9];refine ih (x.ml.length-(i+1)) om _ _ ⟨i+1,cur.set i ⟨y.m,.slice a1 y.m.D.length c1⟩,rfl,by omega,rfl,by simp[tS],?_,fun j hj=>?_,fun j w hj hw=>?_,fun _=>jab _,by simp;have:=o1.1;omega,fun j hj hjb=>?_⟩
  .rw[<- dS];apply zT;intro j;simp only[List.getElem?_map,zi];by_cases e:i=j
   .subst e;rw[zD rfl,zD om,dW];rfl
   .rw[zC e]
  .rw[List.getElem?_set_ne om,cW j om]
  .by_cases e:j=i
   .subst e;rw[List.getElem?_set_self om]at hw;cases hw;exact⟨pF.keep2 Zd fun hl z hz=>jaa (by have:=iC z hz;omega),fun z hz=>by have:=iC z hz;omega⟩
   .rw[List.getElem?_set_ne om]at hw;obtain⟨p1,p2⟩:=uR j w om hw;exact⟨p1.keep2 (by simp;exact o1.1) fun hl z hz=>by rw[jaa (by have:=p2 z hz;omega),o1.2 z (p1.lt hl hz)],p2⟩
  .rw[jaa hjb,o1.2 j om,lM j hj hjb]
 clear a0 a4;refine qm ?_;refine Zu rfl e4 (jau rfl b4 q3 rfl ja9) ?_;refine qm ?_;exact T _ rfl
end
theorem SpX.one{h:H}{P Q:Nat->Prop}{x:SpX}(a:StepAt h P Q x):(SpX.V x).all V.one=true:=by
 obtain⟨⟨⟨_,_,e1,_⟩,_⟩,⟨_,_,e2,_⟩,_,_,_⟩:=a;show [V.int .u64 x.t,.bool x.intr,x.ov,x.mv].all V.one=true;rw[e1,e2];rfl
theorem At4.of_row{α:Type}{f:α -> List V}(hf:∀x,(f x).length=4){N:Nat}{h:H}{v:V}{l:List α}(r:Row N h 4 v l.length (l.map f).flatten):At4 h (N <= ·) f v l:=by
 rcases r with⟨h0,_,rfl⟩|⟨q,h1,h2,rfl,h4,h5⟩
 .obtain rfl:=zn.1 h0;exact At4.nil
 .exact⟨_,_,rfl,fun e=>(by cases e),rfl,fun _=>⟨q,0,_,false,rfl,h2,h1,h4,fun i x hi=>by rw[zP];exact jc3 hf hi⟩⟩
def Wr(N M:Nat)(h:H)(v:V):Prop:= ∀z,v.at?=some z->N<=z/\z<M/\∃cs,h.get z=some (.cells cs false)
def SpX.few(x:SpX):Prop:=x.ml.length<=1000/\x.ol.length<=1000/\∀m∈x.ml,m.m.D.length<=2000
section
variable{cl:Nat->Call}(Z:Sem cl)
include Z
theorem jmz{d:Nat}{h:H}{P Q:Nat->Prop}{v:V}{l:List SpX}(hd:3<=d)(a:jeo h P Q v l)(hl:l.length<=2000)(hf:∀x∈l,x.few) :
  ∃v' l' h',cl d (.fn 45) [v] h=some (v',h')/\l'.map SpX.sp=l.map SpX.sp/\At4 h' (h.nx <= ·) SpX.V v' l'/\(∀x∈l',StepAt h' (fun z=>h.nx<=z/\V.at? v'≠some z) (fun z=>h.nx<=z/\V.at? v'≠some z) x)/\Wr h.nx h'.nx h' v'/\Old h h':=by
 suffices q:∃w h',cl d (.fn 45) [v] h=some (w,h')/\∃l',l'.map SpX.sp=l.map SpX.sp/\At4 h' (h.nx <= ·) SpX.V w l'/\(∀x∈l',StepAt h' (fun z=>h.nx<=z/\V.at? w≠some z) (fun z=>h.nx<=z/\V.at? w≠some z) x)/\Wr h.nx h'.nx h' w/\Old h h' by
  obtain⟨v',h',e,l',q⟩:=q;exact⟨v',l',h',e,q⟩
 obtain⟨⟨ad,c,rfl,_,_,hb⟩,hs⟩:=a;refine aT Z ?_;refine Ga ?_;refine Zq (fun m e g=>∃(i:Nat) (acc:V) (out:List SpX),m=l.length-i/\i<=l.length/\e=[(3,acc),(6,.slice ad l.length c),(7,.i (l.length:Int)),(8,.i (i:Int))]/\out.map SpX.sp=(l.take i).map SpX.sp/\Row h.nx g 4 acc i (out.map SpX.V).flatten/\(∀x∈out,StepAt g (fun z=>h.nx<=z/\acc.at?≠some z) (fun z=>h.nx<=z/\acc.at?≠some z) x)/\Old h g)
  (k:=l.length) Ze ⟨0,.nils,[],rfl,by omega,rfl,rfl,Row.nil _ _ _,(fun x hx=>by cases hx),Zz _⟩ ?_
 rintro _ _ g ⟨i,acc,out,rfl,hi,rfl,ho,row,f_,og⟩ n' ih;by_cases d4:(i:Int)<l.length
 case neg=>
  obtain rfl:i=l.length:=by omega
  rw[List.take_length]at ho;have wF:out.length=l.length:=by have:=congrArg List.length ho;simpa using this
  rw[<- wF]at row;have qN:At4 g (h.nx <= ·) SpX.V acc out:=At4.of_row (fun _=>rfl) row;have hw:Wr h.nx g.nx g acc:=fun z hz=>by
   rcases row with⟨_,_,rfl⟩|⟨q,k1,k2,rfl,h4,_⟩
   .cases hz
   .cases hz;exact⟨k1,k2,_,h4⟩
  clear ih hb hs row;refine Ga ?_;exact⟨out,ho,qN,f_,hw,og⟩
 obtain⟨x,hx⟩:=jdN (l:=l) (i:=i) om;obtain⟨b,oo,cs,ro,rfl,lb,_,gb,hc⟩:=hb (by intro e;rw[e]at hx;simp at hx);have qF:g.get b=some (.cells cs ro):=by rw[og.2 b lb,gb]
 have h4:(cs.drop (oo+(i:Int).toNat*4)).take 4=x.V:=by rw[zw];exact hc i x hx
 have j4:=jfR h4 rfl;have rF:=zc hx;have vN:Old g ((g.new (.cells [.int .u64 0,.bool false,.nils,.nils] false)).set g.nx (.cells x.V false)):=(Zz g).new.set (zq _);have g_:((g.new (.cells [.int .u64 0,.bool false,.nils,.nils] false)).set g.nx (.cells x.V false)).get g.nx=some (.cells x.V false):=jab _;have Rf:((g.new (.cells [.int .u64 0,.bool false,.nils,.nils] false)).set g.nx (.cells x.V false)).nx=g.nx+1:=rfl;obtain⟨y,g2,e2,hy,sy,o2⟩:=wm_twin Z (d:=d-1) om ((hs x rF).old (og.trans vN)) (hf x rF).1 (hf x rF).2.1 (hf x rF).2.2;have m9:=SpX.one (hs x rF);have a8:(i:Int)+1=((i+1:Nat):Int):=by omega
 have d7:∀z,acc.at?=some z->h.nx<=z/\z<g.nx:=fun z hz=>row.at_ge hz;have aC:Row h.nx g2 4 acc i (out.map SpX.V).flatten:=row.keep (by have:=o2.1;omega) fun z hz=>by rw[o2.2 z (by have:=d7 z hz;omega),vN.2 z (d7 z hz).2]
 have ognx:=og.1;clear hb hs hc;refine qm ?_;refine zcw rfl qF j4 ?_;rw[h4];refine qm ?_;refine zct (o:=0) (vs:=x.V) rfl rfl rfl m9 (jac _) Zd ?_;rw[show jao ([.int .u64 0,.bool false,.nils,.nils]:List V) 0 x.V=x.V from rfl];generalize (g.new (.cells [.int .u64 0,.bool false,.nils,.nils] false)).set g.nx (.cells x.V false)=G1 at vN g_ Rf e2 o2 sy;have o2x:=o2.1;have jU:(l.take (i+1)).map SpX.sp=(l.take i).map SpX.sp++[x.sp]:=by rw[List.take_add_one,hx];simp
 have Sf:=SpX.one sy;refine Ga ?_;refine zcw (n:=4) rfl g_ Zd ?_;rw[show ((SpX.V x).drop 0).take 4=x.V from rfl];refine Ga ?_;refine Ops.push (sz:=4) (bytes:=64) (N:=h.nx) (new:=SpX.V y) rfl rfl rfl Sf om rfl rfl aC om om om fun v' g3 row' x3 z3 k3=>?_;refine qm ?_;rw[a8];refine ih (l.length-(i+1)) om _ _ ⟨i+1,v',out++[y],rfl,by omega,rfl,by rw[jU,List.map_append,ho,<- hy];rfl,by rw[List.map_append,List.flatten_append];simpa using row',fun w hw=>?_,by omega,fun j hj=>by rw[k3 j om fun e=>(by have:=d7 j e;omega),o2.2 j om,vN.2 j om,og.2 j hj]⟩
 .have kz:∀z,v'.at?=some z->g2.nx<=z:=z3;rcases zO.1 hw with hw|hw
  .have kp:∀z,z<g.nx->(h.nx<=z/\acc.at?≠some z)->g3.get z=g.get z/\(h.nx<=z/\v'.at?≠some z):=fun z hz hp=>⟨by rw[k3 z om hp.2,o2.2 z om,vN.2 z hz],hp.1,fun e=>by have:=kz z e;omega⟩
   exact (f_ w hw).keep om kp kp
  .obtain rfl:w=y:=by simpa using hw
   have kp:∀z,z<g2.nx->G1.nx<=z->g3.get z=g2.get z/\(h.nx<=z/\v'.at?≠some z):=fun z hz hp=>⟨k3 z hz fun e=>by have:=d7 z e;omega,by omega,fun e=>by have:=kz z e;omega⟩
   exact sy.keep x3 kp kp
theorem wm_New{d:Nat}{h:H}{P Q:Nat->Prop}{v:V}{l:List SpX}(hd:16<=d)(a:jeo h P Q v l)(hl:l.length<=2000)(hf:∀x∈l,x.few)(hm:∀x∈l,x.sp.may) :
  ∃sb v' l' h',cl d (.fn 10) [v] h=some (.tup [.p sb 0,.i 0],h')/\l'.map SpX.sp=l.map SpX.sp/\At4 h' (fun z=>h.nx<=z/\z≠sb) SpX.V v' l'/\(∀x∈l',StepAt h' (fun z=>(h.nx<=z/\z≠sb)/\v'.at?≠some z) (fun z=>(h.nx<=z/\z≠sb)/\v'.at?≠some z) x)/\h'.get sb=some (.cells [v',.nils] false)/\Wr h.nx sb h' v'/\h.nx<=sb/\sb<h'.nx/\Old h h':=by
 suffices q:∃w h',cl d (.fn 10) [v] h=some (w,h')/\∃sb v' l',w = .tup [.p sb 0,.i 0]/\l'.map SpX.sp=l.map SpX.sp/\At4 h' (fun z=>h.nx<=z/\z≠sb) SpX.V v' l'/\(∀x∈l',StepAt h' (fun z=>(h.nx<=z/\z≠sb)/\v'.at?≠some z) (fun z=>(h.nx<=z/\z≠sb)/\v'.at?≠some z) x)/\h'.get sb=some (.cells [v',.nils] false)/\Wr h.nx sb h' v'/\h.nx<=sb/\sb<h'.nx/\Old h h' by
  obtain⟨_,h',e,sb,v',l',rfl,q⟩:=q;exact⟨sb,v',l',h',e,q⟩
 obtain⟨h1,e1,o1⟩:=jp3 Z (d:=d-1) om a hl;rw[zG hm]at e1;obtain⟨v',l',h2,e2,hs,a2,s2,hw,o2⟩:=jmz Z (d:=d-1) om (a.old o1) hl hf;obtain⟨ad,c,rfl,_⟩:=id a2;have o3:Old h2 (h2.new (.cells [.slice ad l'.length c,.nils] false)):=(Zz h2).new;have x1:=o1.1;have x2:=o2.1;refine aT Z ?_;clear a;refine qm ?_;have kp:∀z,z<h2.nx->h1.nx<=z->(h2.new (.cells [.slice ad l'.length c,.nils] false)).get z=h2.get z/\(h.nx<=z/\z≠h2.nx):=fun z hz hp=>⟨o3.2 z hz,by omega,by omega⟩
 refine⟨h2.nx,_,l',rfl,hs,a2.keep o3.1 kp,fun x hx=>(s2 x hx).keep o3.1 (fun z hz hp=>⟨(kp z hz hp.1).1,(kp z hz hp.1).2,hp.2⟩) fun z hz hp=>⟨(kp z hz hp.1).1,(kp z hz hp.1).2,hp.2⟩,jac _,fun z hz=>?_,by omega,by simp,(o1.trans o2).trans o3⟩;obtain⟨k1,k2,cs,e⟩:=hw z hz;exact⟨by omega,k2,cs,by rw[jad k2,e]⟩
theorem wm_New_no{d:Nat}{h:H}{P Q:Nat->Prop}{v:V}{l:List SpX}(hd:16<=d)(a:jeo h P Q v l)(hl:l.length<=2000)(hm:¬ ∀x∈l,x.sp.may) :
  ∃h',cl d (.fn 10) [v] h=some (.tup [.ptr none,.i 120],h')/\Old h h':=by
 obtain⟨h1,e1,o1⟩:=jp3 Z (d:=d-1) om a hl;rw[zE hm]at e1;refine jae (aT Z ?_);clear a;refine qm ?_;exact⟨rfl,o1⟩
theorem rm_New{d:Nat}{h:H}{P Q:Nat->Prop}{v:V}{l:List SpX}(hd:6<=d)(a:jeo h P Q v l)(hl:l.length<=2000)(hm:∀x∈l,x.sp.may) :
  ∃sb v' h',cl d (.fn 11) [v] h=some (.tup [.p sb 0,.i 0],h')/\jeo h' (fun z=>(P z\/h.nx<=z)/\z≠sb) Q v' l/\h'.get sb=some (.cells [v',.nils] false)/\h.nx<=sb/\sb<h'.nx/\Old h h':=by
 suffices q:∃w h',cl d (.fn 11) [v] h=some (w,h')/\∃sb v',w = .tup [.p sb 0,.i 0]/\jeo h' (fun z=>(P z\/h.nx<=z)/\z≠sb) Q v' l/\h'.get sb=some (.cells [v',.nils] false)/\h.nx<=sb/\sb<h'.nx/\Old h h' by
  obtain⟨_,h',e,sb,v',rfl,q⟩:=q;exact⟨sb,v',h',e,q⟩
 obtain⟨h1,e1,o1⟩:=jpC Z (d:=d-1) om a hl;rw[zG hm]at e1;have a1:=a.old o1;have x1:=o1.1;have o2:Old h1 (h1.new (.cells [.nils,.nils] false)):=(Zz h1).new;have kp:∀(g:H) (sb:Nat),Old h g->h.nx<=sb -> ∀x∈l,StepAt g (fun z=>(P z\/h.nx<=z)/\z≠sb) Q x:=fun g sb og hb x hx=>(a.2 x hx).keep og.1 (fun z hz hp=>⟨og.2 z hz,.inl hp,by omega⟩) fun z hz hq=>⟨og.2 z hz,hq⟩
 refine aT Z ?_;refine qm ?_;refine Ops.app4 (l:=l) (f:=SpX.V) (P:=P) (fun _=>rfl) rfl rfl om (.inl rfl) (a1.1.old o2) om fun v' h' hk=>?_;clear a1;rcases hk with⟨rfl,rfl,rfl⟩|⟨hl,rfl,rfl⟩
 .clear a;refine qm ?_;refine⟨h1.nx,_,rfl,⟨At4.nil,fun x hx=>by cases hx⟩,jab _,x1,by simp,⟨by simp;omega,fun j hj=>by rw[jaa om,jad om,o1.2 j hj]⟩⟩
 .clear a;refine qm ?_;refine⟨h1.nx,_,rfl,⟨?_,kp _ _ ?_ x1⟩,jab _,x1,by simp;omega,?_⟩
  .exact (At4.of_new (P:=fun z=>(P z\/h.nx<=z)/\z≠h1.nx) (fun _=>rfl) ⟨.inr Zc,by simp⟩).keep Zd fun z hz hp=>⟨jaa hp.2,hp⟩
  all_goals exact⟨by simp;omega,fun j hj=>by rw[jaa om,jad Zc,jad om,o1.2 j hj]⟩
theorem rm_New_no{d:Nat}{h:H}{P Q:Nat->Prop}{v:V}{l:List SpX}(hd:6<=d)(a:jeo h P Q v l)(hl:l.length<=2000)(hm:¬ ∀x∈l,x.sp.may) :
  ∃h',cl d (.fn 11) [v] h=some (.tup [.ptr none,.i 120],h')/\Old h h':=by
 obtain⟨h1,e1,o1⟩:=jpC Z (d:=d-1) om a hl;rw[zE hm]at e1;refine jae (aT Z ?_);clear a;refine qm ?_;exact⟨rfl,o1⟩
end
structure Fs(h h':H)(ow:Nat->Nat)(ro:Nat->Prop)(ow':Nat->Nat)(ro' S:Nat->Prop):Prop where
 ch:Ch (fun j=>ow j≠0\/ro j\/S j) h h'
 tag:∀j,j<h.nx->ow' j=ow j
 rtag:∀j,j<h.nx->(ro' j↔ro j)
theorem Fs.refl{h:H}{ow:Nat->Nat}{ro S:Nat->Prop}:Fs h h ow ro ow ro S:=⟨Zr _ _,fun _ _=>rfl,fun _ _=>Iff.rfl⟩
theorem Fs.trans{h h1 h2:H}{a b c:Nat->Nat}{x y z S T:Nat->Prop}(f:Fs h h1 a x b y S)(g:Fs h1 h2 b y c z T)(hT:∀j,j<h.nx->T j->S j):Fs h h2 a x c z S:=
 ⟨f.ch.trans_new g.ch fun j hj hb=>by
  rw[f.tag j hj,f.rtag j hj]at hb;exact hb.imp id fun hb=>hb.imp id (hT j hj),
  fun j hj=>by rw[g.tag j (zr hj f.ch.nx),f.tag j hj],fun j hj=>(g.rtag j (zr hj f.ch.nx)).trans (f.rtag j hj)⟩
theorem Fs.of_fm{h h1:H}{a b:Nat->Nat}{x y S:Nat->Prop}(f:Fm h h1 a x b y):Fs h h1 a x b y S:=⟨f.ch.weaken fun _ _ hb=>hb.elim .inl fun hb=>.inr (.inl hb),f.tag,f.rtag⟩
theorem Fs.old{h h1:H}{ow:Nat->Nat}{ro S:Nat->Prop}(o:Old h h1):Fs h h1 ow ro ow ro S:= .of_fm (Fm.old o)
theorem Fs.set{h:H}{ow:Nat->Nat}{ro S:Nat->Prop}{b:Nat}{ob:Obj}(hS:S b):Fs h (h.set b ob) ow ro ow ro S:=⟨Zs (.inr (.inr hS)),fun _ _=>rfl,fun _ _=>Iff.rfl⟩
def PB(ow:Nat->Nat)(ro:Nat->Prop)(s z:Nat):Prop:=ow z=0/\¬ro z/\z≠s
theorem Fs.pb{h h':H}{a b:Nat->Nat}{x y:Nat->Prop}{s z:Nat}(f:Fs h h' a x b y (· = s))(hz:z<h.nx)(p:PB a x s z):h'.get z=h.get z/\PB b y s z:=
 ⟨f.ch.get z hz fun e=>e.elim (fun e=>e p.1) fun e=>e.elim p.2.1 p.2.2,by rw[f.tag z hz];exact p.1,fun e=>p.2.1 ((f.rtag z hz).1 e),p.2.2⟩
theorem jeC:∀{l:List Mv} {m:Mv} {st:St},mvsS (l++[m]) st=(mvS m (mvsS l st)).2
 |[],_,_=>rfl
 |_::l,m,st=>by
  show mvsS (l++[m]) _=_;rw[jeC];rfl
theorem jgG{st:St}{i:Nat}{n:Int}(o:StOk st i)(h0:0<=n)(h1:n<=18446744073709551615):StOk {st with now:=jcw st.now n} i:=
 ⟨o.K,o.nt,by
  have:=o.now;show 0<=jcw st.now n/\jcw st.now n<=_;unfold jcw;split<;>omega,o.tb⟩
structure Own(h:H)(ow:Nat->Nat)(ro dat:Nat->Prop)(p s:Nat):Prop where
 lt:s<h.nx
 o0:ow s=0
 r0:¬ro s
 d0:¬dat s
 ne:s≠p
theorem Own.fs{h h':H}{a b:Nat->Nat}{x y S dat:Nat->Prop}{p s:Nat}(o:Own h a x dat p s)(f:Fs h h' a x b y S):Own h' b y dat p s:=
 ⟨zr o.lt f.ch.nx,by rw[f.tag s o.lt];exact o.o0,fun e=>o.r0 ((f.rtag s o.lt).1 e),o.d0,o.ne⟩
section
variable{h h':H}{p w s rw:Nat}{ow:Nat->Nat}{ro dat:Nat->Prop}{a r:St}
theorem BB.set(b:BB h p w s rw ow ro dat a r){z:Nat}(o:Own h ow ro dat p z){ob:Obj}:BB (h.set z ob) p w s rw ow ro dat a r:=
 b.off (zq _) fun j _ hj=>jaa fun e=>by
  subst e;rcases hj with hj|hj|hj|hj
  .exact hj o.o0
  .exact o.r0 hj
  .exact o.d0 hj
  .exact o.ne hj
variable{cl:Nat->Call}(Z:Sem cl){d i:Nat}{m:Mv}{dv:V}{t:Int}
include Z
theorem bw_Make(hd:13<=d)(b:BB h p w s rw ow ro dat a r)(so:StOk a i)(hi:i<=900000)(hv:VB h dv m.D)(hz:m.D≠[] -> ∀z,dv.at?=some z->ow z=0) :
  ∃h' ow',cl d (.fn 167) [.p w 0,.agg (mvV m dv)] h=some (.tup [.i (mvS m a).1.1,.i (mvS m a).1.2],h')/\BB h' p w s rw ow' ro dat (mvS m a).2 r/\Fm h h' ow ro ow' ro:=by
 obtain⟨h1,y7,e1,W1,t1⟩:=wm_Make Z (m:=m) (dv:=dv) hd b.W so hi hv hz;exact⟨h1,y7,e1,b.wc W1 t1,Fm.to t1⟩
theorem br_Make(hd:6<=d)(b:BB h p w s rw ow ro dat a r)(so:StOk r i)(hi:i<=900000)(hv:VB h dv m.D)(hz:m.D≠[] -> ∀z,dv.at?=some z->dat z) :
  ∃h' ro',cl d (.fn 169) [.p rw 0,.agg (mvV m dv)] h=some (.tup [.i (mvS m r).1.1,.i (mvS m r).1.2],h')/\BB h' p w s rw ow ro' dat a (mvS m r).2/\Fm h h' ow ro ow ro':=by
 obtain⟨v2,h2,e2,b2,f2,rfl⟩:=b.rc Z (d:=d) (f:=169) (args:=[.p rw 0,.agg (mvV m dv)]) (r':=(mvS m r).2) (P:=fun _ v=>v = .tup [.i (mvS m r).1.1,.i (mvS m r).1.2]) (fun _ _ _ _ h=>h) (fun g q l ga gn hq wR hl=>by
  have vg:VB g dv m.D:=hv.keep2 om fun hn z iA=>ga z (hv.lt hn iA) (.inr (hz hn z iA));obtain⟨q',l',g',k1,k2,k3,k4,k5⟩:=rm_Make Z (d:=d) (m:=m) (dv:=dv) hd wR hl so hi vg fun hn z iA=>by
   have z0:=hz hn z iA;refine⟨fun e=>?_,fun e=>?_,by rw[gn];exact hv.lt hn iA⟩
   .rcases hq with rfl|hq
    .exact b.rp (.inr (e ▸ z0))
    .exact b.ap z0 (e ▸ hq)
   .obtain⟨l,R,_⟩:=b.R;exact b.ap z0 (e ▸ R.hr)
  exact⟨_,q',l',g',k1,k2,k3,k4,k5,rfl⟩)
 exact⟨h2,_,e2,b2,f2⟩
theorem jmp(hd:2<=d)(b:BB h p w s rw ow ro dat a r)(so:StOk a i)(t0:0<=t)(t1:t<=18446744073709551615) :
  ∃h',cl d (.fn 100) [.p w 0,.int .u64 t] h=some (.tup [],h')/\BB h' p w s rw ow ro dat {a with now:=jcw a.now t} r/\Fm h h' ow ro ow ro:=by
 obtain⟨h1,e1,W1,tt⟩:=jon Z (d:=d) hd b.W so.now.1 so.now.2 t0 t1;exact⟨h1,e1,b.wc (a':= {a with now:=jcw a.now t}) W1 tt,Fm.to tt⟩
theorem jmr(hd:1<=d)(b:BB h p w s rw ow ro dat a r)(so:StOk r i)(t0:0<=t)(t1:t<=18446744073709551615) :
  ∃h' ro',cl d (.fn 101) [.p rw 0,.int .u64 t] h=some (.tup [],h')/\BB h' p w s rw ow ro' dat a {r with now:=jcw r.now t}/\Fm h h' ow ro ow ro':=by
 obtain⟨v2,h2,e2,b2,f2,rfl⟩:=b.rc Z (d:=d) (f:=101) (args:=[.p rw 0,.int .u64 t]) (r':= {r with now:=jcw r.now t}) (P:=fun _ v=>v = .tup []) (fun _ _ _ _ h=>h) (fun g q l ga gn hq wR hl=>by
  obtain⟨g',k1,k2,k4⟩:=jo7 Z (d:=d) hd wR so.now.1 so.now.2 t0 t1;exact⟨_,q,l,g',k1,k2,hl,k4,.inl rfl,rfl⟩)
 exact⟨h2,_,e2,b2,f2⟩
end
theorem At4.tail{α:Type}{h:H}{P:Nat->Prop}{f:α -> List V}{b o n:Nat}{c:Cap}{x:α}{l:List α}(hn:n=l.length+1)(a:At4 h P f (.slice (some (b,o)) n c) (x::l)):At4 h P f (.slice (some (b,o+1*4)) (n-1) (c.less 1)) l:=by
 obtain⟨ad,c',e,_,ft,g⟩:=a;cases e;refine⟨_,_,by rw[hn];rfl,fun e=>(by cases e),?_,fun hl=>?_⟩
 .have ft:c.fits (l.length+1) 4:=ft;cases c with
  |fix q=>simp only[Cap.less,Cap.fits]at ft ⊢;omega
  |grow q=>exact ft
  |least q m=>exact ft
 .obtain⟨b',o',cs,ro,e1,e2,e3,e4,e5⟩:=g Zd;cases e1;refine⟨b,o+1*4,cs,ro,rfl,e2,e3,e4,fun i y hi=>?_⟩;rw[show o+1*4+i*4=o+(i+1)*4 by omega];exact e5 (i+1) y (by simpa using hi)
theorem jhC{α β:Type}{f:α -> β}{l:List α}{i:Nat}{x:α}(h:l[i]?=some x):(l.take (i+1)).map f=(l.take i).map f++[f x]:=by rw[List.take_add_one,h];simp
theorem Fs.dt{h h':H}{a b:Nat->Nat}{x y dat:Nat->Prop}{sb z p w s rw:Nat}{st r:St}(f:Fs h h' a x b y (· = sb))(B:BB h p w s rw a x dat st r)(o:Own h a x dat p sb)(hz:z<h.nx)(hd:dat z):h'.get z=h.get z/\dat z:=
 ⟨(f.pb hz ⟨B.sep z (.inr hd),B.ap hd,fun e=>o.d0 (e ▸ hd)⟩).1,hd⟩
section
variable{cl:Nat->Call}(Z:Sem cl){h:H}{p w s rw:Nat}{ow:Nat->Nat}{ro dat:Nat->Prop}{a r:St}{d i:Nat}
include Z
theorem wm_take{sb:Nat}{X:Nat->Prop}{v ov0:V}{x:SpX}{L:List SpX}(hd:15<=d)(b:BB h p w s rw ow ro dat a r)(so:StOk a i)(hi:i+x.ml.length<=900000)(hs:h.get sb=some (.cells [v,ov0] false))(own:Own h ow ro dat p sb)(A:At4 h (PB ow ro sb) SpX.V v (x::L)/\∀y∈x::L,StepAt h (fun z=>PB ow ro sb z/\X z) (fun z=>PB ow ro sb z/\X z) y)(hf:x.few) :
  ∃h' ow' v',cl d (.fn 119) [.p sb 0,.p w 0] h=some (.bool x.intr,h')/\BB h' p w s rw ow' ro dat (mvsS x.sp.moves a) r/\StOk (mvsS x.sp.moves a) (i+x.ml.length)/\h'.get sb=some (.cells [v',x.ov] false)/\v'.at?=v.at? /\
   (At4 h' (PB ow' ro sb) SpX.V v' L/\∀y∈L,StepAt h' (fun z=>PB ow' ro sb z/\X z) (fun z=>PB ow' ro sb z/\X z) y)/\(VI h' x.ov x.ol/\(x.ol≠[] -> ∀z,x.ov.at?=some z->PB ow' ro sb z/\X z))/\Fs h h' ow ro ow' ro (· = sb):=by
 suffices q:∃w' h',cl d (.fn 119) [.p sb 0,.p w 0] h=some (w',h')/\∃ow' v',w' = .bool x.intr/\BB h' p w s rw ow' ro dat (mvsS x.sp.moves a) r/\StOk (mvsS x.sp.moves a) (i+x.ml.length)/\h'.get sb=some (.cells [v',x.ov] false)/\v'.at?=v.at? /\
   (At4 h' (PB ow' ro sb) SpX.V v' L/\∀y∈L,StepAt h' (fun z=>PB ow' ro sb z/\X z) (fun z=>PB ow' ro sb z/\X z) y)/\(VI h' x.ov x.ol/\(x.ol≠[] -> ∀z,x.ov.at?=some z->PB ow' ro sb z/\X z))/\Fs h h' ow ro ow' ro (· = sb) by
  obtain⟨_,h',e,ow',v',rfl,q⟩:=q;exact⟨h',ow',v',e,q⟩
 obtain⟨ad,c,rfl,_,ft,g⟩:=id A.1;obtain⟨bs,o,cs,rr,rfl,lb,pb,gb,hc⟩:=g Zd;have sx:=A.2 x (zj ..);have h4:(cs.drop (o+(0:Int).toNat*4)).take 4=x.V:=hc 0 x rfl;have j4:=jfR h4 rfl;have m9:=SpX.one sx;have ls:=own.lt;obtain⟨ao,co,eo,_⟩:=id sx.ov.1;obtain⟨am,cm,em,_,_,gm⟩:=id sx.mv;have q1:(x.V)[0+1]?=some (.bool x.intr):=rfl;have q2:(x.V)[0+2]?=some (.slice ao x.ol.length co):=by rw[<- eo];rfl
 have q3:(x.V)[0+3]?=some (.slice am x.ml.length cm):=by rw[<- em];rfl
 have kI:(0:Int)<(((x::L).length:Nat):Int):=by simp
 have o1:Old h ((h.new (.cells [.int .u64 0,.bool false,.nils,.nils] false)).set h.nx (.cells x.V false)):=(Zz h).new.set (zq _);have g1:((h.new (.cells [.int .u64 0,.bool false,.nils,.nils] false)).set h.nx (.cells x.V false)).get h.nx=some (.cells x.V false):=jab _;have s1:((h.new (.cells [.int .u64 0,.bool false,.nils,.nils] false)).set h.nx (.cells x.V false)).get sb=some (.cells [.slice (some (bs,o)) (x::L).length c,ov0] false):=by rw[o1.2 _ ls,hs]
 have n1:((h.new (.cells [.int .u64 0,.bool false,.nils,.nils] false)).set h.nx (.cells x.V false)).nx=h.nx+1:=rfl;generalize hG:(h.new (.cells [.int .u64 0,.bool false,.nils,.nils] false)).set h.nx (.cells x.V false)=G at o1 g1 s1 n1;have b1:=(b.old o1).set (own.fs (Fs.old (S:=fun j=>j=sb) o1)) (ob:= .cells [.slice (some (bs,o+1*4)) ((x::L).length-1) (c.less 1),ov0] false);have f1:Fs h (G.set sb (.cells [.slice (some (bs,o+1*4)) ((x::L).length-1) (c.less 1),ov0] false)) ow ro ow ro (· = sb):=(Fs.old o1).trans (Fs.set rfl) fun _ _ e=>e.symm;have aH:(G.set sb (.cells [.slice (some (bs,o+1*4)) ((x::L).length-1) (c.less 1),ov0] false)).get sb=some (.cells [.slice (some (bs,o+1*4)) ((x::L).length-1) (c.less 1),ov0] false):=jab _;have lI:(G.set sb (.cells [.slice (some (bs,o+1*4)) ((x::L).length-1) (c.less 1),ov0] false)).get h.nx=some (.cells x.V false):=by rw[jaa om,g1]
 have tJ:h.nx<(G.set sb (.cells [.slice (some (bs,o+1*4)) ((x::L).length-1) (c.less 1),ov0] false)).nx:=by simp;omega
 have kQ:ow h.nx=0/\¬ro h.nx/\h.nx≠sb:=⟨b.W.top (zq _),fun e=>by have:=b.ro_lt (.inl e);omega,by omega⟩
 have At:At4 h (PB ow ro sb) SpX.V (.slice (some (bs,o+1*4)) ((x::L).length-1) (c.less 1)) L:=At4.tail rfl A.1;have AL:∀y∈L,StepAt h (fun z=>PB ow ro sb z/\X z) (fun z=>PB ow ro sb z/\X z) y:=fun y hy=>A.2 y (zl _ hy);generalize pF:V.slice (some (bs,o+1*4)) ((x::L).length-1) (c.less 1)=v1 at b1 f1 aH lI tJ At;have fW:v1.at?=some bs:=by rw[<- pF];rfl
 generalize hH:G.set sb (.cells [v1,ov0] false)=H1 at b1 f1 aH lI tJ;refine aT Z ?_;obtain⟨C,hC⟩:∃C,C=c119_3:=⟨_,rfl⟩
 simp only[c119,c119_4,<- hC,yB];have T:Run (cl (d-1)) fuel C [] [(0,.p sb 0),(1,.p w 0),(5,.p h.nx 0)] G (Fin c119.res fun w' h'=>∃ow' v',w' = .bool x.intr/\BB h' p w s rw ow' ro dat (mvsS x.sp.moves a) r/\StOk (mvsS x.sp.moves a) (i+x.ml.length)/\h'.get sb=some (.cells [v',x.ov] false)/\v'.at?=some bs /\
   (At4 h' (PB ow' ro sb) SpX.V v' L/\∀y∈L,StepAt h' (fun z=>PB ow' ro sb z/\X z) (fun z=>PB ow' ro sb z/\X z) y)/\(VI h' x.ov x.ol/\(x.ol≠[] -> ∀z,x.ov.at?=some z->PB ow' ro sb z/\X z))/\Fs h h' ow ro ow' ro (· = sb)):=by
  rw[hC];clear hC hG o1 n1 gb hc g hs b A;refine Ga ?_;refine Ops.slice_l (sz:=4) (l:=1) rfl rfl Zd ft ?_;rw[pF];have gW:v1.one=true:=by rw[<- pF];rfl
  refine Ga ?_;refine zcs rfl rfl gW s1 Zd ?_;rw[show ([.slice (some (bs,o)) (x::L).length c,ov0]:List V).set 0 v1=[v1,ov0] from rfl,hH];clear pF hH s1 g1;refine Ga ?_;refine Zq (fun m e g=>∃(j:Nat) (ow':Nat->Nat),m=x.ml.length-j/\j<=x.ml.length/\e=[(0,.p sb 0),(1,.p w 0),(5,.p h.nx 0),(23,.slice am x.ml.length cm),(24,.i (x.ml.length:Int)),(25,.i (j:Int))]/\BB g p w s rw ow' ro dat (mvsS ((x.ml.take j).map MvX.m) a) r/\StOk (mvsS ((x.ml.take j).map MvX.m) a) (i+j)/\Fs h g ow ro ow' ro (· = sb)/\g.get sb=some (.cells [v1,ov0] false)/\g.get h.nx=some (.cells x.V false)/\h.nx<g.nx/\ow' h.nx=0)
   (k:=x.ml.length) (by show _<100000;have:=hf.1;omega) ⟨0,ow,rfl,by omega,rfl,b1,so,f1,aH,lI,tJ,kQ.1⟩ ?_
  clear b1 f1 aH lI tJ;rintro _ _ g ⟨j,y7,rfl,hj,rfl,bb,sj,fj,gsb,glx,nlx,zlx⟩ n' ih;by_cases d4:(j:Int)<x.ml.length
  case neg=>
   obtain rfl:j=x.ml.length:=by omega
   rw[List.take_length]at bb sj;have ownj:=own.fs fj;have bf:=bb.set ownj (ob:= .cells [v1,x.ov] false);have ff:Fs h (g.set sb (.cells [v1,x.ov] false)) ow ro y7 ro (· = sb):=fj.trans (Fs.set rfl) fun _ _ e=>e.symm;have At':=At.keep ff.ch.nx fun z hz hp=>ff.pb hz hp;have kk:∀z,z<h.nx->(PB ow ro sb z/\X z)->(g.set sb (.cells [v1,x.ov] false)).get z=h.get z/\(PB y7 ro sb z/\X z):=fun z hz hp=>⟨(ff.pb hz hp.1).1,(ff.pb hz hp.1).2,hp.2⟩
   have AL':∀y∈L,StepAt (g.set sb (.cells [v1,x.ov] false)) (fun z=>PB y7 ro sb z/\X z) (fun z=>PB y7 ro sb z/\X z) y:=fun y hy=>(AL y hy).keep ff.ch.nx kk kk;have ov':=(sx.keep ff.ch.nx kk kk).ov;have lQ:(g.set sb (.cells [v1,x.ov] false)).get sb=some (.cells [v1,x.ov] false):=jab _;clear ih gm At AL sx bb fj;clear kk;rw[eo]at bf ff At' AL' ov' lQ ⊢;refine Gb ?_;exact⟨y7,v1,rfl,bf,sj,lQ,fW,⟨At',AL'⟩,ov',ff⟩
  obtain⟨y,hy⟩:=jdN (l:=x.ml) (i:=j) om;obtain⟨mb,mo,ms,mr,rfl,lm,pm,gF,aF⟩:=gm (by intro e;rw[e]at hy;simp at hy);have gmb:g.get mb=some (.cells ms mr):=by rw[(fj.pb lm pm.1).1,gF]
  have m4:(ms.drop (mo+(j:Int).toNat*4)).take 4=y.V:=by rw[zw];exact aF j y hy
  have mlen:=jfR m4 rfl;have lE:=zc hy;obtain⟨vy,zy⟩:=sx.dv y lE;have vyg:VB g y.dv y.m.D:=vy.keep2 fj.ch.nx fun hl z hz=>(fj.pb (vy.lt hl hz) (zy hl z hz).1).1;obtain⟨da,dc,ed,_⟩:=id vy;have yone:(MvX.V y).all V.one=true:=by
   show [V.i y.m.op,.i y.m.wire,.i y.m.n,y.dv].all V.one=true;rw[ed];rfl
  have o2:Old g ((g.new (.cells [.i 0,.i 0,.i 0,.nils] false)).set g.nx (.cells y.V false)):=(Zz g).new.set (zq _);have g2:((g.new (.cells [.i 0,.i 0,.i 0,.nils] false)).set g.nx (.cells y.V false)).get g.nx=some (.cells y.V false):=jab _;have uG:(j:Int)+1=((j+1:Nat):Int):=by omega
  have fI:=hf.2.2 y lE;clear gm aF;refine Ga ?_;refine zcw rfl gmb mlen ?_;rw[m4];refine qm ?_;refine zct (n:=4) (o:=0) (vs:=y.V) rfl rfl rfl yone (jac _) Zd ?_;rw[show jao ([.i 0,.i 0,.i 0,.nils]:List V) 0 y.V=y.V from rfl];generalize (g.new (.cells [.i 0,.i 0,.i 0,.nils] false)).set g.nx (.cells y.V false)=G2 at o2 g2;obtain⟨g3,mG,e3,b3,f3⟩:=bw_Make Z (d:=d-1) (m:=y.m) (dv:=y.dv) om (bb.old o2) sj om (vyg.keep2 o2.1 fun hl z hz=>o2.2 z (vyg.lt hl hz)) fun hl z hz=>(fj.pb (vy.lt hl hz) (zy hl z hz).1).2.1;have ff:Fs h g3 ow ro mG ro (· = sb):=fj.trans (.of_fm ((Fm.old o2).trans f3)) fun _ _ e=>e;have ownj:=own.fs fj;have Sk:=o2.1;have ks:g3.get sb=some (.cells [v1,ov0] false):=by rw[f3.ch.get sb (by have:=ownj.lt;omega) fun e=>e.elim (fun e=>e ownj.o0) ownj.r0,o2.2 sb ownj.lt,gsb]
  have kl:g3.get h.nx=some (.cells x.V false):=by rw[f3.ch.get h.nx om fun e=>e.elim (fun e=>e zlx) kQ.2.1,o2.2 _ nlx,glx]
  have iW:mG h.nx=0:=by rw[f3.tag h.nx om];exact zlx
  have Tf:=f3.ch.nx;rw[<- jeC,<- jhC hy]at b3;have s3:=jpL (m:=y.m) sj;rw[<- jeC,<- jhC hy]at s3;clear bb sj fj gsb glx sx At AL vy vyg;refine qm ?_;rw[uG];exact ih (x.ml.length-(j+1)) om _ _ ⟨j+1,mG,rfl,by omega,rfl,b3,s3,ff,ks,kl,by omega,iW⟩
 clear A b sx At AL g hc f1 b1 aH lI hH pF;refine qm ?_;refine zcw rfl gb j4 ?_;rw[h4];refine qm ?_;refine zct (n:=4) (o:=0) (vs:=x.V) rfl rfl rfl m9 (jac _) Zd ?_;rw[show jao ([.int .u64 0,.bool false,.nils,.nils]:List V) 0 x.V=x.V from rfl,hG];refine qm ?_;exact T
theorem rm_take{sb:Nat}{X:Nat->Prop}{v ov0:V}{x:SpX}{L:List SpX}(hd:8<=d)(b:BB h p w s rw ow ro dat a r)(so:StOk r i)(hi:i+x.ml.length<=900000)(hs:h.get sb=some (.cells [v,ov0] false))(own:Own h ow ro dat p sb)(A:At4 h (fun z=>PB ow ro sb z/\X z) SpX.V v (x::L)/\∀y∈x::L,StepAt h dat dat y)(hf:x.few) :
  ∃h' ro' v',cl d (.fn 124) [.p sb 0,.p rw 0] h=some (.bool x.intr,h')/\BB h' p w s rw ow ro' dat a (mvsS x.sp.moves r)/\StOk (mvsS x.sp.moves r) (i+x.ml.length)/\h'.get sb=some (.cells [v',x.ov] false)/\v'.at?=v.at? /\
   (At4 h' (fun z=>PB ow ro' sb z/\X z) SpX.V v' L/\∀y∈L,StepAt h' dat dat y)/\(VI h' x.ov x.ol/\(x.ol≠[] -> ∀z,x.ov.at?=some z->dat z))/\Fs h h' ow ro ow ro' (· = sb):=by
 suffices q:∃w' h',cl d (.fn 124) [.p sb 0,.p rw 0] h=some (w',h')/\∃ro' v',w' = .bool x.intr/\BB h' p w s rw ow ro' dat a (mvsS x.sp.moves r)/\StOk (mvsS x.sp.moves r) (i+x.ml.length)/\h'.get sb=some (.cells [v',x.ov] false)/\v'.at?=v.at? /\
   (At4 h' (fun z=>PB ow ro' sb z/\X z) SpX.V v' L/\∀y∈L,StepAt h' dat dat y)/\(VI h' x.ov x.ol/\(x.ol≠[] -> ∀z,x.ov.at?=some z->dat z))/\Fs h h' ow ro ow ro' (· = sb) by
  obtain⟨_,h',e,ro',v',rfl,q⟩:=q;exact⟨h',ro',v',e,q⟩
 obtain⟨ad,c,rfl,_,ft,g⟩:=id A.1;obtain⟨bs,o,cs,rr,rfl,lb,pb,gb,hc⟩:=g Zd;have sx:=A.2 x (zj ..);have h4:(cs.drop (o+(0:Int).toNat*4)).take 4=x.V:=hc 0 x rfl;have j4:=jfR h4 rfl;have m9:=SpX.one sx;have ls:=own.lt;obtain⟨ao,co,eo,_⟩:=id sx.ov.1;obtain⟨am,cm,em,_,_,gm⟩:=id sx.mv;have q1:(x.V)[0+1]?=some (.bool x.intr):=rfl;have q2:(x.V)[0+2]?=some (.slice ao x.ol.length co):=by rw[<- eo];rfl
 have q3:(x.V)[0+3]?=some (.slice am x.ml.length cm):=by rw[<- em];rfl
 have kI:(0:Int)<(((x::L).length:Nat):Int):=by simp
 have o1:Old h ((h.new (.cells [.int .u64 0,.bool false,.nils,.nils] false)).set h.nx (.cells x.V false)):=(Zz h).new.set (zq _);have g1:((h.new (.cells [.int .u64 0,.bool false,.nils,.nils] false)).set h.nx (.cells x.V false)).get h.nx=some (.cells x.V false):=jab _;have s1:((h.new (.cells [.int .u64 0,.bool false,.nils,.nils] false)).set h.nx (.cells x.V false)).get sb=some (.cells [.slice (some (bs,o)) (x::L).length c,ov0] false):=by rw[o1.2 _ ls,hs]
 have n1:((h.new (.cells [.int .u64 0,.bool false,.nils,.nils] false)).set h.nx (.cells x.V false)).nx=h.nx+1:=rfl;generalize hG:(h.new (.cells [.int .u64 0,.bool false,.nils,.nils] false)).set h.nx (.cells x.V false)=G at o1 g1 s1 n1;have b1:=(b.old o1).set (own.fs (Fs.old (S:=fun j=>j=sb) o1)) (ob:= .cells [.slice (some (bs,o+1*4)) ((x::L).length-1) (c.less 1),ov0] false);have f1:Fs h (G.set sb (.cells [.slice (some (bs,o+1*4)) ((x::L).length-1) (c.less 1),ov0] false)) ow ro ow ro (· = sb):=(Fs.old o1).trans (Fs.set rfl) fun _ _ e=>e.symm;have aH:(G.set sb (.cells [.slice (some (bs,o+1*4)) ((x::L).length-1) (c.less 1),ov0] false)).get sb=some (.cells [.slice (some (bs,o+1*4)) ((x::L).length-1) (c.less 1),ov0] false):=jab _;have lI:(G.set sb (.cells [.slice (some (bs,o+1*4)) ((x::L).length-1) (c.less 1),ov0] false)).get h.nx=some (.cells x.V false):=by rw[jaa om,g1]
 have tJ:h.nx<(G.set sb (.cells [.slice (some (bs,o+1*4)) ((x::L).length-1) (c.less 1),ov0] false)).nx:=by simp;omega
 have kQ:ow h.nx=0/\¬ro h.nx/\h.nx≠sb:=⟨b.W.top (zq _),fun e=>by have:=b.ro_lt (.inl e);omega,by omega⟩
 have At:At4 h (fun z=>PB ow ro sb z/\X z) SpX.V (.slice (some (bs,o+1*4)) ((x::L).length-1) (c.less 1)) L:=At4.tail rfl A.1;have AL:∀y∈L,StepAt h dat dat y:=fun y hy=>A.2 y (zl _ hy);generalize pF:V.slice (some (bs,o+1*4)) ((x::L).length-1) (c.less 1)=v1 at b1 f1 aH lI tJ At;have fW:v1.at?=some bs:=by rw[<- pF];rfl
 generalize hH:G.set sb (.cells [v1,ov0] false)=H1 at b1 f1 aH lI tJ;refine aT Z ?_;obtain⟨C,hC⟩:∃C,C=c124_3:=⟨_,rfl⟩
 simp only[c124,c124_4,<- hC,yB];have T:Run (cl (d-1)) fuel C [] [(0,.p sb 0),(1,.p rw 0),(5,.p h.nx 0)] G (Fin c124.res fun w' h'=>∃ro' v',w' = .bool x.intr/\BB h' p w s rw ow ro' dat a (mvsS x.sp.moves r)/\StOk (mvsS x.sp.moves r) (i+x.ml.length)/\h'.get sb=some (.cells [v',x.ov] false)/\v'.at?=some bs /\
   (At4 h' (fun z=>PB ow ro' sb z/\X z) SpX.V v' L/\∀y∈L,StepAt h' dat dat y)/\(VI h' x.ov x.ol/\(x.ol≠[] -> ∀z,x.ov.at?=some z->dat z))/\Fs h h' ow ro ow ro' (· = sb)):=by
  rw[hC];clear hC hG o1 n1 gb hc g hs A;refine Ga ?_;refine Ops.slice_l (sz:=4) (l:=1) rfl rfl Zd ft ?_;rw[pF];have gW:v1.one=true:=by rw[<- pF];rfl
  refine Ga ?_;refine zcs rfl rfl gW s1 Zd ?_;rw[show ([.slice (some (bs,o)) (x::L).length c,ov0]:List V).set 0 v1=[v1,ov0] from rfl,hH];clear pF hH s1 g1;refine Ga ?_;refine Zq (fun m e g=>∃(j:Nat) (ro':Nat->Prop),m=x.ml.length-j/\j<=x.ml.length/\e=[(0,.p sb 0),(1,.p rw 0),(5,.p h.nx 0),(6,.i (j:Int))]/\BB g p w s rw ow ro' dat a (mvsS ((x.ml.take j).map MvX.m) r)/\StOk (mvsS ((x.ml.take j).map MvX.m) r) (i+j)/\Fs h g ow ro ow ro' (· = sb)/\g.get sb=some (.cells [v1,ov0] false)/\g.get h.nx=some (.cells x.V false)/\h.nx<g.nx/\¬ro' h.nx)
   (k:=x.ml.length) (by show _<100000;have:=hf.1;omega) ⟨0,ro,rfl,by omega,rfl,b1,so,f1,aH,lI,tJ,kQ.2.1⟩ ?_
  clear b1 f1 aH lI tJ;rintro _ _ g ⟨j,xA,rfl,hj,rfl,bb,sj,fj,gsb,glx,nlx,zlx⟩ n' ih;by_cases d4:(j:Int)<x.ml.length
  case neg=>
   obtain rfl:j=x.ml.length:=by omega
   rw[List.take_length]at bb sj;have ownj:=own.fs fj;have bf:=bb.set ownj (ob:= .cells [v1,x.ov] false);have ff:Fs h (g.set sb (.cells [v1,x.ov] false)) ow ro ow xA (· = sb):=fj.trans (Fs.set rfl) fun _ _ e=>e.symm;have At':At4 _ (fun z=>PB ow xA sb z/\X z) SpX.V v1 L:=At.keep ff.ch.nx fun z hz hp=>⟨(ff.pb hz hp.1).1,(ff.pb hz hp.1).2,hp.2⟩
   have AL':∀y∈L,StepAt (g.set sb (.cells [v1,x.ov] false)) dat dat y:=fun y hy=>(AL y hy).keep ff.ch.nx (fun z hz hp=>ff.dt b own hz hp) fun z hz hp=>ff.dt b own hz hp;have ov':=(sx.keep ff.ch.nx (fun z hz hp=>ff.dt b own hz hp) fun z hz hp=>ff.dt b own hz hp).ov;have lQ:(g.set sb (.cells [v1,x.ov] false)).get sb=some (.cells [v1,x.ov] false):=jab _;clear ih gm At AL sx bb fj;rw[eo]at bf ff At' AL' ov' lQ ⊢;refine Gb ?_;exact⟨xA,v1,rfl,bf,sj,lQ,fW,⟨At',AL'⟩,ov',ff⟩
  obtain⟨y,hy⟩:=jdN (l:=x.ml) (i:=j) om;obtain⟨mb,mo,ms,mr,rfl,lm,pm,gF,aF⟩:=gm (by intro e;rw[e]at hy;simp at hy);have gmb:g.get mb=some (.cells ms mr):=by rw[(fj.dt b own lm pm).1,gF]
  have m4:(ms.drop (mo+(j:Int).toNat*4)).take 4=y.V:=by rw[zw];exact aF j y hy
  have mlen:=jfR m4 rfl;have lE:=zc hy;obtain⟨vy,zy⟩:=sx.dv y lE;have vyg:VB g y.dv y.m.D:=vy.keep2 fj.ch.nx fun hl z hz=>(fj.dt b own (vy.lt hl hz) (zy hl z hz)).1;have uG:(j:Int)+1=((j+1:Nat):Int):=by omega
  clear gm aF;obtain⟨g3,tE,e3,b3,f3⟩:=br_Make Z (d:=d-1) (m:=y.m) (dv:=y.dv) om bb sj om vyg zy;have ff:Fs h g3 ow ro ow tE (· = sb):=fj.trans (.of_fm f3) fun _ _ e=>e;have ownj:=own.fs fj;have ks:g3.get sb=some (.cells [v1,ov0] false):=by rw[f3.ch.get sb ownj.lt fun e=>e.elim (fun e=>e ownj.o0) ownj.r0,gsb]
  have kl:g3.get h.nx=some (.cells x.V false):=by rw[f3.ch.get h.nx nlx fun e=>e.elim (fun e=>e kQ.1) zlx,glx]
  have iW:¬tE h.nx:=fun e=>zlx ((f3.rtag h.nx nlx).1 e);have Tf:=f3.ch.nx;rw[<- jeC,<- jhC hy]at b3;have s3:=jpL (m:=y.m) sj;rw[<- jeC,<- jhC hy]at s3;clear bb sj fj gsb sx At AL vy vyg;refine Ga ?_;refine zcw rfl gmb mlen ?_;rw[m4];refine Ga ?_;rw[uG];exact ih (x.ml.length-(j+1)) om _ _ ⟨j+1,tE,rfl,by omega,rfl,b3,s3,ff,ks,kl,by omega,iW⟩
 clear A sx At AL g hc f1 b1 aH lI hH pF;refine qm ?_;refine zcw rfl gb j4 ?_;rw[h4];refine qm ?_;refine zct (n:=4) (o:=0) (vs:=x.V) rfl rfl rfl m9 (jac _) Zd ?_;rw[show jao ([.int .u64 0,.bool false,.nils,.nils]:List V) 0 x.V=x.V from rfl,hG];refine qm ?_;exact T
end
structure SW(h:H)(ow:Nat->Nat)(ro dat:Nat->Prop)(p sb:Nat)(bs:Option Nat)(X:Nat->Prop)(L:List SpX)(o:List Int):Prop where
 own:Own h ow ro dat p sb
 bown:∀z,bs=some z->Own h ow ro dat p z/\z≠sb/\∃cs,h.get z=some (.cells cs false)
 ex:∃v ov,v.at?=bs/\h.get sb=some (.cells [v,ov] false)/\At4 h (PB ow ro sb) SpX.V v L/\(∀y∈L,StepAt h (fun z=>PB ow ro sb z/\(bs≠some z/\X z)) (fun z=>PB ow ro sb z/\(bs≠some z/\X z)) y)/\VI h ov o/\(o≠[] -> ∀z,ov.at?=some z->PB ow ro sb z/\(bs≠some z/\X z))
 few:∀x∈L,x.few
theorem Fs.get{h h':H}{a b:Nat->Nat}{x y S dat:Nat->Prop}{p z:Nat}(f:Fs h h' a x b y S)(o:Own h a x dat p z)(hS:¬S z):h'.get z=h.get z:=
 f.ch.get z o.lt fun e=>e.elim (fun e=>e o.o0) fun e=>e.elim o.r0 hS
theorem SW.fs{h h':H}{ow ow':Nat->Nat}{ro ro' dat S X:Nat->Prop}{p sb:Nat}{bs:Option Nat}{L:List SpX}{o:List Int}(a:SW h ow ro dat p sb bs X L o)(f:Fs h h' ow ro ow' ro' S)(h1:¬S sb)(h2:∀z,bs=some z -> ¬S z)(h3:∀z,X z -> ¬S z):SW h' ow' ro' dat p sb bs X L o:=by
 obtain⟨v,ov,e1,e2,e3,e4,e5,e6⟩:=a.ex;have kp:∀z,z<h.nx->(PB ow ro sb z/\(bs≠some z/\X z))->h'.get z=h.get z/\(PB ow' ro' sb z/\(bs≠some z/\X z)):=fun z hz hp=>⟨f.ch.get z hz fun e=>e.elim (fun e=>e hp.1.1) fun e=>e.elim hp.1.2.1 (h3 z hp.2.2),⟨by rw[f.tag z hz];exact hp.1.1,fun e=>hp.1.2.1 ((f.rtag z hz).1 e),hp.1.2.2⟩,hp.2⟩
 refine⟨a.own.fs f,fun z hz=>?_,⟨v,ov,e1,by rw[f.get a.own h1,e2],?_,fun y hy=>(e4 y hy).keep f.ch.nx kp kp,e5.keep2 f.ch.nx fun hl z hz=>(kp z (e5.lt hl hz) (e6 hl z hz)).1,fun hl z hz=>(kp z (e5.lt hl hz) (e6 hl z hz)).2⟩,a.few⟩
 .obtain⟨q1,q2,cs,q3⟩:=a.bown z hz;exact⟨q1.fs f,q2,cs,by rw[f.get q1 (h2 z hz),q3]⟩
 .obtain⟨ad,c,rfl,n,ft,g⟩:=e3;refine⟨ad,c,rfl,n,ft,fun hl=>?_⟩;obtain⟨b,oo,cs,rr,rfl,lb,pb,gb,hc⟩:=g hl;have hz:bs=some b:=by rw[<- e1];rfl
  obtain⟨q1,q2,_⟩:=a.bown b hz;exact⟨b,oo,cs,rr,rfl,zr lb f.ch.nx,⟨(q1.fs f).o0,(q1.fs f).r0,q2⟩,by rw[f.get q1 (h2 b hz),gb],hc⟩
section
variable{cl:Nat->Call}(Z:Sem cl){h:H}{p w s rw:Nat}{ow:Nat->Nat}{ro dat:Nat->Prop}{a r:St}{d i sb bp bf:Nat}{fd:Int}{bs:Option Nat}{X:Nat->Prop}{x:SpX}{L:List SpX}{o:List Int}
include Z
theorem jot(hd:15<=d)(b:BB h p w s rw ow ro dat a r)(so:StOk a i)(hi:i+x.ml.length<=900000)(A:SW h ow ro dat p sb bs X (x::L) o) :
  ∃h' ow',cl d (.fn 119) [.p sb 0,.p w 0] h=some (.bool x.intr,h')/\BB h' p w s rw ow' ro dat (mvsS x.sp.moves a) r/\StOk (mvsS x.sp.moves a) (i+x.ml.length)/\SW h' ow' ro dat p sb bs X L x.ol/\Fs h h' ow ro ow' ro (· = sb):=by
 obtain⟨v,ov,e1,e2,e3,e4,e5,e6⟩:=A.ex;obtain⟨h',ow',v',k1,k2,k3,k4,k5,⟨k6,k7⟩,⟨k8,k9⟩,f⟩:=wm_take Z (X:=fun z=>bs≠some z/\X z) hd b so hi e2 A.own ⟨e3,e4⟩ (A.few x (zj ..));refine⟨h',ow',k1,k2,k3,⟨A.own.fs f,fun z hz=>?_,⟨v',x.ov,by rw[k5,e1],k4,k6,k7,k8,k9⟩,fun y hy=>A.few y (zl _ hy)⟩,f⟩;obtain⟨q1,q2,cs,q3⟩:=A.bown z hz;exact⟨q1.fs f,q2,cs,by rw[f.get q1 q2,q3]⟩
end
theorem jj0{x:Sp}{l:List Sp}{o:List Int}{st:St}(h:x.ticks≠0):jhH (x::l) o st=(false,x::l,o,st):=zC h
theorem jj1{x:Sp}{l:List Sp}{o:List Int}{st:St}(h:x.ticks=0)(hi:x.intr=true):jhH (x::l) o st=(true,l,x.order,mvsS x.moves st):=by
 rw[jhH,zD h,zD hi]
theorem jjz{x:Sp}{l:List Sp}{o:List Int}{st:St}(h:x.ticks=0)(hi:x.intr=false):jhH (x::l) o st=jhH l x.order (mvsS x.moves st):=by
 rw[jhH,zD h,zC (by rw[hi];exact Bool.false_ne_true)]
theorem jfT{x:SpX}{L:List SpX}:sumM (x::L)=x.ml.length+sumM L:=rfl
theorem At4.cons{h:H}{P:Nat->Prop}{x:SpX}{L:List SpX}{v:V}(a:At4 h P SpX.V v (x::L)):∃b o c cs rr,v = .slice (some (b,o)) (x::L).length c/\b<h.nx/\h.get b=some (.cells cs rr)/\(cs.drop (o+(0:Int).toNat*4)).take 4=x.V:=by
 obtain⟨ad,c,rfl,_,_,g⟩:=a;obtain⟨b,o,cs,rr,rfl,lb,_,gb,hc⟩:=g Zd;exact⟨b,o,c,cs,rr,rfl,lb,gb,hc 0 x rfl⟩
def jgy(h:H)(p w s rw:Nat)(ow:Nat->Nat)(ro dat:Nat->Prop)(r:St)(sb:Nat)(bs:Option Nat)(X:Nat->Prop)(N:Nat)(R:Int×List Sp×List Int×St)(v:V)(h':H):Prop:=
 ∃ow' L' i',v = .i R.1/\L'.map SpX.sp=R.2.1/\BB h' p w s rw ow' ro dat R.2.2.2 r/\StOk R.2.2.2 i'/\SW h' ow' ro dat p sb bs X L' R.2.2.1/\Fs h h' ow ro ow' ro (fun j=>j=sb\/bs=some j)/\i'+sumM L'<=N
theorem Run.fin_mono'{call:Call}{fuel:Nat}{c:AC}{res:List RV}{K:List Fr}{e:Env}{h:H}{R R':V->H->Prop}(k:Run call fuel c K e h (Fin res R))(hR:∀v h',R v h'->R' v h'):Run call fuel c K e h (Fin res R'):=by
 obtain⟨x',e',h',oI,x2,e2,h2,ha,⟨⟨p1,l,p2,p3⟩⟩⟩:=k;exact⟨x',e',h',oI,x2,e2,h2,ha,⟨⟨p1,l,p2,hR _ _ p3⟩⟩⟩
theorem jgy.trans{h g:H}{p w s rw:Nat}{ow y7:Nat->Nat}{ro dat:Nat->Prop}{r:St}{sb:Nat}{bs:Option Nat}{X:Nat->Prop}{N:Nat}{R:Int×List Sp×List Int×St}{v:V}{h':H}(q:jgy g p w s rw y7 ro dat r sb bs X N R v h')(f:Fs h g ow ro y7 ro (fun j=>j=sb\/bs=some j)):jgy h p w s rw ow ro dat r sb bs X N R v h':=by
 obtain⟨ow',L',i',e1,e2,e3,e4,e5,e6,e7⟩:=q;exact⟨ow',L',i',e1,e2,e3,e4,e5,f.trans e6 fun _ _ e=>e,e7⟩
section
variable{rd:St->Bool}{fv:Bool}{x:Sp}{l:List Sp}{wt:Int}{o:List Int}{st:St}
theorem jeB(h:rd st=true):napS rd fv l wt o st=(1,l,o,st):=by
 cases l with
 |nil=>rw[napS,zD h]
 |cons x l=>rw[napS,zD h]
theorem jmS(h:rd st=false)(h1:fv=false)(h2:wt=0):napS rd fv l wt o st=(2,l,o,st):=by
 cases l with
 |nil=>rw[napS,zC (by rw[h];exact Bool.false_ne_true),zD ⟨h1,h2⟩]
 |cons x l=>rw[napS,zC (by rw[h];exact Bool.false_ne_true),zD ⟨h1,h2⟩]
theorem jdT(h:rd st=false)(h1:fv=true):napS rd fv [] wt o st=(4,[],o,st):=by
 rw[napS,zC (by rw[h];exact Bool.false_ne_true),zC (by rw[h1];exact fun e=>Bool.noConfusion e.1),zD h1]
theorem jjY(h:rd st=false)(h1:fv=false)(h2:wt≠0):napS rd fv [] wt o st=(2,[],o,{st with now:=jcw st.now wt}):=by
 rw[napS,zC (by rw[h];exact Bool.false_ne_true),zC (fun e=>h2 e.2),zC (by rw[h1];exact Bool.false_ne_true)]
theorem jio(h:rd st=false)(h1:fv=false)(h2:wt≠0)(h3:wt<x.ticks):napS rd fv (x::l) wt o st=(2,{x with ticks:=x.ticks-wt}::l,o,{st with now:=jcw st.now wt}):=by
 rw[napS,zC (by rw[h];exact Bool.false_ne_true),zC (fun e=>h2 e.2),zD ⟨h1,h3⟩]
theorem jip(h:rd st=false)(h1:¬(fv=false/\wt=0))(h2:¬(fv=false/\wt<x.ticks))(h3:x.intr=true):napS rd fv (x::l) wt o st=(3,l,x.order,mvsS x.moves {st with now:=jcw st.now x.ticks}):=by
 rw[napS,zC (by rw[h];exact Bool.false_ne_true),zC h1,zC h2,zD h3]
theorem jin(h:rd st=false)(h1:¬(fv=false/\wt=0))(h2:¬(fv=false/\wt<x.ticks))(h3:x.intr=false):napS rd fv (x::l) wt o st=napS rd fv l (wt-min wt x.ticks) x.order (mvsS x.moves {st with now:=jcw st.now x.ticks}):=by
 rw[napS,zC (by rw[h];exact Bool.false_ne_true),zC h1,zC h2,zC (by rw[h3];exact Bool.false_ne_true)]
theorem jle:∀{l:List Sp} {w1 w2:Int} {o:List Int} {st:St},napS rd true l w1 o st=napS rd true l w2 o st
 |[],w1,w2,o,st=>by
  by_cases h:rd st=true
  .rw[jeB h,jeB h]
  .have h:rd st=false:=by simpa using h
   rw[jdT h rfl,jdT h rfl]
 |x::l,w1,w2,o,st=>by
  by_cases h:rd st=true
  .rw[jeB h,jeB h]
  .have h:rd st=false:=by simpa using h
   have n:∀(p:Prop),¬(true=false/\p):=fun _ e=>Bool.noConfusion e.1;by_cases hi:x.intr=true
   .rw[jip h (n _) (n _) hi,jip h (n _) (n _) hi]
   .have hi:x.intr=false:=by simpa using hi
    rw[jin h (n _) (n _) hi,jin h (n _) (n _) hi];exact jle
end
theorem At4.upd{h:H}{P:Nat->Prop}{x:SpX}{L:List SpX}{b o n:Nat}{c:Cap}{cs:List V}{t:Int}(a:At4 h P SpX.V (.slice (some (b,o)) n c) (x::L))(g:h.get b=some (.cells cs false)) :
  At4 (h.set b (.cells (cs.set (o+(0:Int).toNat*4+0) (.int .u64 t)) false)) P SpX.V (.slice (some (b,o)) n c) ({x with t:=t}::L):=by
 obtain⟨ad,c',e,n1,ft,k⟩:=a;cases e;obtain⟨b',o',cs',rr,e1,e2,e3,e4,e5⟩:=k Zd;cases e1;rw[g]at e4;cases e4;refine⟨_,_,rfl,fun e=>(by cases e),ft,fun _=>⟨b,o,_,false,rfl,e2,e3,jab _,fun i y hi=>?_⟩⟩
 match i,hi with
 |0,hi=>
  cases hi;have h0:(cs.drop o).take 4=x.V:=by have:=e5 0 x rfl;simpa using this
  have hl:=jfR h0 rfl;show ((cs.set o (.int .u64 t)).drop (o+0)).take 4=_;rw[Nat.add_zero,List.drop_set,zC om,Nat.sub_self,List.take_set,h0];rfl
 |i+1,hi=>
  have:=e5 (i+1) y (by simpa using hi);show ((cs.set o (.int .u64 t)).drop _).take 4=_;rw[List.drop_set,zD om];exact this
section
variable{cl:Nat->Call}(Z:Sem cl){h:H}{p w s rw:Nat}{ow:Nat->Nat}{ro dat:Nat->Prop}{a r:St}{d i sb bp bf:Nat}{fd wt:Int}{fv:Bool}{bs:Option Nat}{X:Nat->Prop}{L:List SpX}{o:List Int}
include Z
end
section
variable{cl:Nat->Call}(Z:Sem cl){h:H}{p w s rw:Nat}{ow:Nat->Nat}{ro dat:Nat->Prop}{a r:St}{d i sb:Nat}{wt:Int}{rd:St->Bool}{cf:Nat}{cap:V}{fv:Bool}{bs:Option Nat}{X:Nat->Prop}{L:List SpX}{o:List Int}
include Z
theorem wn_nap{N:Nat}{sbi:Env}(hd:16<=d)(b:BB h p w s rw ow ro dat a r)(so:StOk a i)(A:SW h ow ro dat p sb bs X L o)(hi:i+sumM L<=N)(hN:N<=900000)(hL:L.length<=2000)
  (hc:∀(g:H) (y7:Nat->Nat) (a1:St) (i1:Nat),Fs h g ow ro y7 ro (fun j=>j=sb\/bs=some j)->BB g p w s rw y7 ro dat a1 r->StOk a1 i1->i1<=N -> ∃g',cl d (.fn cf) [cap] g=some (.bool (rd a1),g')/\Old g g') (w0:0<=wt) (w1:wt<=18446744073709551615) :
  Run (cl d) fuel (.loop [0,1,2,3,4] (.block 3 (.seq (.block 4 c52_6) c52_7))) [.block 2] ((0,.p sb 0)::(1,.p w 0)::(2,.int .u64 wt)::(3,.bool fv)::(4,.bcl cf cap)::sbi) h
   (Fin c52.res fun v h'=>jgy h p w s rw ow ro dat r sb bs X N (napS (rd) fv (L.map SpX.sp) wt o a) v h'):=by
 generalize hR:napS (rd) fv (L.map SpX.sp) wt o a=R;refine Zq (fun m e g=>∃(L1:List SpX) (o1:List Int) (a1:St) (y7:Nat->Nat) (i1:Nat) (w1:Int) (sbe:Env),m=L1.length/\e=(0,.p sb 0)::(1,.p w 0)::(2,.int .u64 w1)::(3,.bool fv)::(4,.bcl cf cap)::sbe/\BB g p w s rw y7 ro dat a1 r/\StOk a1 i1/\SW g y7 ro dat p sb bs X L1 o1/\Fs h g ow ro y7 ro (fun j=>j=sb\/bs=some j)/\i1+sumM L1<=N/\0<=w1/\w1<=18446744073709551615/\napS (rd) fv (L1.map SpX.sp) w1 o1 a1=R)
  (k:=L.length) Ze ⟨L,o,a,ow,i,wt,sbi,rfl,rfl,b,so,A,Fs.refl,hi,w0,w1,hR⟩ ?_
 clear b so A hi w0 w1 hR hL;rintro _ _ g ⟨L1,o1,a1,y7,i1,w1,mM,rfl,rfl,b,so,A,f,hi,w0,w2,hR⟩ n' ih;show Run _ _ _ _ [(0,.p sb 0),(1,.p w 0),(2,.int .u64 w1),(3,.bool fv),(4,.bcl cf cap)] _ _;clear mM;obtain⟨g1,e1,mQ⟩:=hc g y7 a1 i1 f b so om;have f1:Fs h g1 ow ro y7 ro (fun j=>j=sb\/bs=some j):=f.trans (Fs.old (S:=fun _=>False) mQ) fun _ _ e=>e.elim;have b1:=b.old mQ;have A1:=A.fs (Fs.old (S:=fun _=>False) mQ) (fun e=>e) (fun _ _ e=>e) fun _ _ e=>e;clear A b f hc;obtain⟨C,hC⟩:∃C,C=c52_5:=⟨_,rfl⟩
 obtain⟨C7,nQ⟩:∃C,C=c52_7:=⟨_,rfl⟩
 simp only[c52_6,<- hC,<- nQ,uF];by_cases pC:rd a1=true
 .rw[pC]at e1;rw[jeB pC]at hR;subst hR;clear ih;refine Ga ?_;refine Ops.callbc rfl rfl e1 ?_;refine Ga ?_;exact⟨y7,L1,i1,rfl,rfl,b1,so,A1,f1,hi⟩
 have pC:rd a1=false:=by simpa using pC
 rw[pC]at e1;have clE:=Fs.of_fm (S:=fun j=>j=sb\/bs=some j) (Fm.refl (h:=g1) (ow:=y7) (ro:=ro));clear clE;have U:∀(x:SpX) (M:List SpX),L1=x::M -> ¬(fv=false/\w1=0) -> ¬(fv=false/\w1<x.t) -> ∀sbe,Run (cl d) fuel C7 [.block 3,.loop [0,1,2,3,4] (.block 3 (.seq (.block 4 c52_6) C7)) n',.block 2] ((0,.p sb 0)::(1,.p w 0)::(2,.int .u64 w1)::(3,.bool fv)::(4,.bcl cf cap)::sbe) g1 (Fin c52.res fun v h'=>jgy h p w s rw ow ro dat r sb bs X N R v h'):=by
  rintro x M rfl k1 k2 sbe;obtain⟨v,ov,ev,es,ea,el,eo,eoz⟩:=id A1.ex;obtain⟨bb,oo,c,cs,rr,rfl,lb,gb,h4⟩:=At4.cons ea;have xJ:bs=some bb:=by rw[<- ev];rfl
  have sx:=el x (zj ..);have q0:cs[oo+(0:Int).toNat*4+0]?=some (.int .u64 x.t):=by rw[jhp h4 om];rfl
  have kI:(0:Int)<(((x::M).length:Nat):Int):=by simp
  obtain⟨g2,e2,b2,f2⟩:=jmp Z (d:=d) (t:=x.t) om b1 so sx.t0 sx.t1;have cE:=jgG so sx.t0 sx.t1;have A2:=A1.fs (Fs.of_fm (S:=fun _=>False) f2) (fun e=>e) (fun _ _ e=>e) fun _ _ e=>e;have Tk:g2.get sb=some (.cells [.slice (some (bb,oo)) (x::M).length c,ov] false):=by rw[(Fs.of_fm (S:=fun _=>False) f2).get A1.own (fun e=>e),es]
  have h_:g2.get bb=some (.cells cs rr):=by rw[(Fs.of_fm (S:=fun _=>False) f2).get (A1.bown bb xJ).1 (fun e=>e),gb]
  rw[jfT]at hi;obtain⟨g3,mG,e3,b3,bH,A3,f3⟩:=jot Z (d:=d) om b2 cE om A2;have ff:Fs h g3 ow ro mG ro (fun j=>j=sb\/bs=some j):=(f1.trans (Fs.of_fm (S:=fun _=>False) f2) fun _ _ e=>e.elim).trans f3 fun _ _ e=>.inl e;have mC:min w1 x.t<=w1:=Int.min_le_left _ _;have gC:0<=min w1 x.t:=by have:=sx.t0;omega
  rw[nQ];clear b1 A1 b2 A2 cE so el ea eo eoz f1 f2 f3 sx h4;cases w9:x.intr with
  |true=>
   have oQ:=hR;rw[List.map_cons,jip (x:=x.sp) pC k1 k2 w9]at oQ;subst oQ;rw[w9]at e3;clear ih hR;refine Ga ?_;exact⟨mG,M,_,rfl,rfl,b3,bH,A3,ff,by omega⟩
  |false=>
   rw[List.map_cons,jin (x:=x.sp) pC k1 k2 w9]at hR;rw[w9]at e3;refine Ga ?_;exact ih M.length Zd _ _ ⟨M,x.ol,_,mG,_,w1-min w1 x.t,_,rfl,rfl,b3,bH,A3,ff,by omega,by omega,by omega,hR⟩
 have T:∀sbe,Run (cl d) fuel C [.block 4,.seq C7,.block 3,.loop [0,1,2,3,4] (.block 3 (.seq (.block 4 c52_6) C7)) n',.block 2] ((0,.p sb 0)::(1,.p w 0)::(2,.int .u64 w1)::(3,.bool fv)::(4,.bcl cf cap)::sbe) g1 (Fin c52.res fun v h'=>jgy h p w s rw ow ro dat r sb bs X N R v h'):=by
  intro sbe;rw[hC];obtain⟨v,ov,ev,es,ea,el,eo,eoz⟩:=id A1.ex;have nt:¬(true=false):=fun e=>Bool.noConfusion e;cases fv with
  |true=>
   cases L1 with
   |nil=>
    obtain⟨ad,c,rfl,_⟩:=id ea;have h0:(([]:List SpX).length:Int)=0:=rfl;rw[List.map_nil,jdT pC rfl]at hR;subst hR;clear ih U ea el eo eoz;refine Ga ?_;exact⟨y7,[],i1,rfl,rfl,b1,so,A1,f1,hi⟩
   |cons x M=>
    have U':=U x M rfl (fun e=>nt e.1) (fun e=>nt e.1);obtain⟨bb,oo,c,cs,rr,rfl,lb,gb,h4⟩:=At4.cons ea;have h0:¬(((x::M).length:Nat):Int)=0:=by simp;omega
    clear ih U ea el eo eoz b1 so A1 f1 hR;refine Ga ?_;exact U' _
  |false=>
   have ft:false=false:=rfl;by_cases hw:w1=0
   .rw[jmS pC rfl hw]at hR;subst hR;clear ih U ea el eo eoz;refine Ga ?_;exact⟨y7,L1,i1,rfl,rfl,b1,so,A1,f1,hi⟩
   cases L1 with
   |nil=>
    obtain⟨ad,c,rfl,_⟩:=id ea;have h0:(([]:List SpX).length:Int)=0:=rfl;rw[List.map_nil,jjY pC rfl hw]at hR;subst hR;obtain⟨g2,e2,b2,f2⟩:=jmp Z (d:=d) (t:=w1) om b1 so w0 w2;have cE:=jgG so w0 w2;have A2:=A1.fs (Fs.of_fm (S:=fun _=>False) f2) (fun e=>e) (fun _ _ e=>e) fun _ _ e=>e;have ff:Fs h g2 ow ro y7 ro (fun j=>j=sb\/bs=some j):=f1.trans (Fs.of_fm (S:=fun _=>False) f2) fun _ _ e=>e.elim;clear ih U ea el eo eoz b1 so A1 f1;refine Ga ?_;exact⟨y7,[],i1,rfl,rfl,b2,cE,A2,ff,hi⟩
   |cons x M=>
    by_cases d4:w1<x.t
    case neg=>
     have U':=U x M rfl (fun e=>hw e.2) (fun e=>d4 e.2);obtain⟨bb,oo,c,cs,rr,rfl,lb,gb,h4⟩:=At4.cons ea;have h0:¬(((x::M).length:Nat):Int)=0:=by simp;omega
     have kI:(0:Int)<(((x::M).length:Nat):Int):=by simp
     have q0:cs[oo+(0:Int).toNat*4+0]?=some (.int .u64 x.t):=by rw[jhp h4 om];rfl
     clear ih U ea el eo eoz b1 so A1 f1 hR;refine Ga ?_;exact U' _
    obtain⟨bb,oo,c,cs,rr,rfl,lb,gb,h4⟩:=At4.cons ea;have xJ:bs=some bb:=by rw[<- ev];rfl
    obtain⟨ob,nb,cs',gb'⟩:=A1.bown bb xJ;obtain rfl:rr=false:=by rw[gb]at gb';cases gb';rfl
    clear gb' cs';have sx:=el x (zj ..);have h0:¬(((x::M).length:Nat):Int)=0:=by simp;omega
    have kI:(0:Int)<(((x::M).length:Nat):Int):=by simp
    have q0:cs[oo+(0:Int).toNat*4+0]?=some (.int .u64 x.t):=by rw[jhp h4 om];rfl
    have j4:=jfR h4 rfl;have x1:=sx.t1;have fset:Fs g1 (g1.set bb (.cells (cs.set (oo+(0:Int).toNat*4+0) (.int .u64 (x.t-w1))) false)) y7 ro y7 ro (fun j=>j=bb):=Fs.set rfl;have kp:∀z,z<g1.nx->(PB y7 ro sb z/\(bs≠some z/\X z))->(g1.set bb (.cells (cs.set (oo+(0:Int).toNat*4+0) (.int .u64 (x.t-w1))) false)).get z=g1.get z/\(PB y7 ro sb z/\(bs≠some z/\X z)):=fun z hz hp=>⟨jaa fun e=>hp.2.1 (by rw[xJ,e]),hp⟩
    have A2:SW (g1.set bb (.cells (cs.set (oo+(0:Int).toNat*4+0) (.int .u64 (x.t-w1))) false)) y7 ro dat p sb bs X ({x with t:=x.t-w1}::M) o1:=by
     refine⟨A1.own.fs fset,fun z hz=>?_,⟨_,ov,ev,by rw[jaa (Ne.symm nb),es],ea.upd gb,fun y hy=>?_,eo.keep2 (zq _) fun hl z hz=>(kp z (eo.lt hl hz) (eoz hl z hz)).1,eoz⟩,fun y hy=>?_⟩
     .obtain rfl:bb=z:=by rw[xJ]at hz;cases hz;rfl
      exact⟨ob.fs fset,nb,_,jab _⟩
     .rcases zZ.1 hy with rfl|hy
      .have s2:=sx.keep (h':=g1.set bb (.cells (cs.set (oo+(0:Int).toNat*4+0) (.int .u64 (x.t-w1))) false)) (zq _) kp kp;exact⟨s2.ov,s2.mv,s2.dv,by show 0<=x.t-w1;omega,by show x.t-w1<=_;omega⟩
      .exact (el y (zl _ hy)).keep (zq _) kp kp
     .rcases zZ.1 hy with rfl|hy
      .exact A1.few x (zj ..)
      .exact A1.few y (zl _ hy)
    have b2:=b1.set ob (ob:= .cells (cs.set (oo+(0:Int).toNat*4+0) (.int .u64 (x.t-w1))) false);obtain⟨g3,e3,b3,f3⟩:=jmp Z (d:=d) (t:=w1) om b2 so w0 w2;have cE:=jgG so w0 w2;have A3:=A2.fs (Fs.of_fm (S:=fun _=>False) f3) (fun e=>e) (fun _ _ e=>e) fun _ _ e=>e;have ff:Fs h g3 ow ro y7 ro (fun j=>j=sb\/bs=some j):=(f1.trans fset fun j _ e=>.inr (by rw[xJ,e])).trans (Fs.of_fm (S:=fun _=>False) f3) fun _ _ e=>e.elim;rw[List.map_cons,jio (x:=x.sp) pC rfl hw d4]at hR;subst hR;have hs:i1+sumM ({x with t:=x.t-w1}::M)<=N:=hi;clear ih U ea el eo eoz b1 so A1 f1 b2 A2 f3 fset kp sx h4 ob;refine Ga ?_;refine zcs rfl rfl rfl gb om ?_;refine Ga ?_;exact⟨y7,_,i1,rfl,rfl,b3,cE,A3,ff,hs⟩
 simp only[c52_6,<- hC,uF]at T;clear ih;refine Ga ?_;refine Ops.callbc rfl rfl e1 ?_;refine Ga ?_;exact T _
theorem wn_Sleep{N:Nat}(hd:17<=d)(b:BB h p w s rw ow ro dat a r)(so:StOk a i)(A:SW h ow ro dat p sb bs X L o)(hi:i+sumM L<=N)(hN:N<=900000)(hL:L.length<=2000)
  (hc:∀(g:H) (y7:Nat->Nat) (a1:St) (i1:Nat),Fs h g ow ro y7 ro (fun j=>j=sb\/bs=some j)->BB g p w s rw y7 ro dat a1 r->StOk a1 i1->i1<=N -> ∃g',cl (d-1) (.fn cf) [cap] g=some (.bool (rd a1),g')/\Old g g') (w0:0<=wt) (w1:wt<=18446744073709551615) :
  ∃v h',cl d (.fn 52) [.p sb 0,.p w 0,.int .u64 wt,.bool fv,.bcl cf cap] h=some (v,h')/\jgy h p w s rw ow ro dat r sb bs X N (jbw (rd) fv (L.map SpX.sp) wt o a) v h':=by
 obtain⟨hA,eA,oA⟩:=jop Z (d:=d-1) om b.W so.K.ok;refine aT Z ?_;generalize hR:jbw (rd) fv (L.map SpX.sp) wt o a=R;have bA:=b.old oA;have fA:Fs h hA ow ro ow ro (fun j=>j=sb\/bs=some j):=Fs.old oA;have AA:=A.fs (Fs.old (S:=fun _=>False) oA) (fun e=>e) (fun _ _ e=>e) fun _ _ e=>e;obtain⟨C,hC⟩:∃C,C=c52_8:=⟨_,rfl⟩
 obtain⟨C2,nG⟩:∃C,C=(.loop [0,1,2,3,4] (.block 3 (.seq (.block 4 c52_6) c52_7)):AC):=⟨_,rfl⟩
 simp only[c52,c52_9,<- hC,<- nG,uF,yB];clear b A;refine Ga ?_;refine Zq (fun m e g=>∃(L1:List SpX) (o1:List Int) (a1:St) (y7:Nat->Nat) (i1:Nat) (sbe:Env),m=L1.length/\e=(0,.p sb 0)::(1,.p w 0)::(2,.int .u64 wt)::(3,.bool fv)::(4,.bcl cf cap)::sbe/\BB g p w s rw y7 ro dat a1 r/\StOk a1 i1/\SW g y7 ro dat p sb bs X L1 o1/\Fs h g ow ro y7 ro (fun j=>j=sb\/bs=some j)/\i1+sumM L1<=N/\L1.length<=2000/\jbw (rd) fv (L1.map SpX.sp) wt o1 a1=R)
  (k:=L.length) Ze ⟨L,o,a,ow,i,_,rfl,rfl,bA,so,AA,fA,hi,hL,hR⟩ ?_
 clear bA so AA fA hi hR eA oA;rintro _ _ g ⟨L1,o1,a1,y7,i1,mM,rfl,rfl,b,so,A,f,hi,bO,hR⟩ n' ih;show Run _ _ _ _ [(0,.p sb 0),(1,.p w 0),(2,.int .u64 wt),(3,.bool fv),(4,.bcl cf cap)] _ _;clear mM;obtain⟨v,ov,ev,es,ea,el,eo,eoz⟩:=id A.ex;have own:=A.own;have T:∀sbe,jbw (rd) fv (L1.map SpX.sp) wt o1 a1=napS (rd) fv (L1.map SpX.sp) wt o1 a1->Run (cl (d-1)) fuel C2 [.block 2] ((0,.p sb 0)::(1,.p w 0)::(2,.int .u64 wt)::(3,.bool fv)::(4,.bcl cf cap)::sbe) g (Fin c52.res (jgy h p w s rw ow ro dat r sb bs X N R)):=fun sbe hz=>by
  rw[nG];rw[hz]at hR;subst hR;exact Run.fin_mono' (wn_nap Z (d:=d-1) om b so A hi hN bO (fun g2 jW a2 i2 f2 b2 cE fN=>hc g2 jW a2 i2 (f.trans f2 fun _ _ e=>e) b2 cE fN) w0 w1) fun _ _ q=>jgy.trans q f
 cases L1 with
 |nil=>
  obtain⟨ad,c,rfl,_⟩:=id ea;have h0:(([]:List SpX).length:Int)=0:=rfl;have Uf:¬(0:Int)<(([]:List SpX).length:Int):=by rw[h0];omega
  have T':=fun sbe=>T sbe rfl;subst hC;clear ih T ea el eo eoz b so A f hR;refine Ga ?_;exact T' _
 |cons x M=>
  obtain⟨bb,oo,c,cs,rr,rfl,lb,gb,h4⟩:=At4.cons ea;have kI:(0:Int)<(((x::M).length:Nat):Int):=by simp
  have q0:cs[oo+(0:Int).toNat*4+0]?=some (.int .u64 x.t):=by rw[jhp h4 om];rfl
  by_cases ht:x.t=0
  case neg=>
   have T':=fun sbe=>T sbe (by unfold jbw;rw[List.map_cons,jj0 (x:=x.sp) ht]);subst hC;clear ih T ea el eo eoz b so A f hR;refine Ga ?_;exact T' _
  rw[jfT]at hi;obtain⟨g3,mG,e3,b3,bH,A3,f3⟩:=jot Z (d:=d-1) om b so om A;have ff:Fs h g3 ow ro mG ro (fun j=>j=sb\/bs=some j):=f.trans f3 fun _ _ e=>.inl e;subst hC;clear T ea el eo eoz b so A f f3;cases w9:x.intr with
  |true=>
   unfold jbw at hR;rw[List.map_cons,jj1 (x:=x.sp) ht w9]at hR;subst hR;rw[w9]at e3;clear ih;refine Ga ?_;exact⟨mG,M,_,rfl,rfl,b3,bH,A3,ff,by omega⟩
  |false=>
   unfold jbw at hR;rw[List.map_cons,jjz (x:=x.sp) ht w9]at hR;rw[w9]at e3;have hm:M.length<=2000:=by have:(x::M).length<=2000:=bO;simp at this;omega
   have kW:jbw (rd) fv (M.map SpX.sp) wt x.ol (mvsS x.sp.moves a1)=R:=hR;refine Ga ?_;exact ih M.length Zd _ _ ⟨M,x.ol,_,mG,_,_,rfl,rfl,b3,bH,A3,ff,by omega,hm,kW⟩
end
def lc(f:Nat->Int):List V:=tab 96 (fun _=>V.i 0)++(tab 96 (fun i=>V.i (f i))++[.bool true])
section
variable{f g:Nat->Int}{i o:Nat}{v:Int}
end
section
variable{cl:Nat->Call}(Z:Sem cl){d L:Nat}{h:H}{fd n:Int}{f:Nat->Int}
include Z
abbrev offW(n:Int):Int:=IntKind.i64.wrap ↑(BitVec.ofInt IntKind.i64.bits n &&& ~~~BitVec.ofInt IntKind.i64.bits 38).toNat
abbrev onW(n:Int):Int:=IntKind.i64.wrap ↑(BitVec.ofInt IntKind.i64.bits n &&& BitVec.ofInt IntKind.i64.bits 6).toNat
def mayW(n:Int):Bool:=decide (offW n=0)&&(decide (n=0)||decide (onW n≠0))
theorem cg_May(hd:1<=d):cl d (.fn 48) [.i n] h=some (.bool (mayW n),h):=by
 refine jaj (aT Z ?_);unfold mayW;by_cases ha:offW n=0
 .by_cases hn:n=0
  .refine Ga ?_;exact⟨by rw[zG ha,zG hn];rfl,rfl⟩
  .refine Ga ?_;exact⟨by rw[zG ha,zE hn];rfl,rfl⟩
 .refine Ga ?_;exact⟨by rw[zE ha];rfl,rfl⟩
end
theorem jnc{u:Nat}(h:u<10):dec u=[UInt8.ofNat (48+u)]:=by
 rw[jlz om,Lib.decDigits,dif_pos h]
theorem jpa{u:Nat}(h:¬u<10)(hu:u<18446744073709551616):dec u=dec (u/10)++[UInt8.ofNat (48+u%10)]:=by
 rw[jlz hu,jlz om,Lib.decDigits,dif_neg h]
theorem jkr{u:Nat}:∀{m:Nat},u<10 ^ (m+1)->u<18446744073709551616->(dec u).length<=m+1:=by
 intro m;induction m generalizing u with
 |zero=>intro h _;rw[jnc (by simpa using h)];simp
 |succ m ih=>
  intro h h2;by_cases h3:u<10
  .rw[jnc h3];simp
  .rw[jpa h3 h2,zg];have:=ih (u:=u/10) (by rw[Nat.pow_succ]at h;omega) om;simp;omega
section
variable{call:Call}{fuel base:Nat}{ops:List Ins}{keep:List Nat}{K:List Fr}{e:Env}{h:H}{Q:Post}
theorem Ops.str1{i1 i2 d1 d2:Nat}{x:Opd}{n:Int}{b:UInt8}(hx:x.ev e=some (.int .u8 n))(hb:n=(b.toNat:Int))
  (k:Ops call fuel base ops keep K (layv (layv e (some d1) (.slice (some (h.nx,0)) 1 (.fix 1))) (some d2) (.str [b])) (h.new (.cells [jcY b] false)) Q) :
  Ops call fuel base (⟨i1,some d1,.bslice 1 1 [.int .u8 0] [(0,x)],none,none,[]⟩::⟨i2,some d2,.ofBytes (.t d1),none,none,[]⟩::ops) keep K e h Q:=by
 subst hb;refine zcu (ob:= .cells [jcY b] false) (mk:=fun b=>.slice (some (b,0)) 1 (.fix 1)) rfl ?_ ?_
 .simp only[I.make,jb2,List.map,hx];rfl
 .refine Ops.step (v:= .str [b]) (h':=h.new (.cells [jcY b] false)) (I.run_read rfl ?_) k;have he:(Opd.t d1).ev (layv e (some d1) (.slice (some (h.nx,0)) 1 (.fix 1)))=some (.slice (some (h.nx,0)) 1 (.fix 1)):=by
   show (layv e (some d1) _).get d1=_;rw[jbD];simp
  simp only[I.read,he];have:((1:Nat) == 0)=false:=rfl;rw[this,cond_false,jcz (jac _) Zd];simp[bytesOf,jhq]
end
theorem jm1{m:Nat}(h:m<10):IntKind.u8.wrap (48+(m:Int))=((UInt8.ofNat (48+m)).toNat:Int):=by
 rw[UInt8.toNat_ofNat',IntKind.wrap_u8];omega
section
variable{cl:Nat->Call}(Z:Sem cl)
include Z
theorem jnz{d f u:Nat}{h:H}(hf:jdt prog.prims f=none)(qP:jdt prog.fns f=some c135)(hd:1<=d)(hu:u<18446744073709551616) :
  ∃h',cl d (.fn f) [.int .u64 (u:Int)] h=some (.str (dec u),h')/\Old h h':=by
 refine jae (at_ Z om hf qP rfl ?_);refine Ga ?_;refine Zq (fun m e g=>∃(n:Nat) (s:List UInt8),n<10 ^ (m+1)/\m+s.length<=19/\n<18446744073709551616/\dec u=dec n++s/\e=[(0,.int .u64 (n:Int)),(3,.str s)]/\Old h g)
  (k:=19) Ze ⟨u,[],by omega,by simp,hu,by simp,rfl,Zz h⟩ ?_
 rintro m _ g ⟨n,s,hm,kA,hn,hs,rfl,old⟩ f ih;by_cases d4:n<10
 .have xB:¬(9:Int)<(n:Int):=by omega
  refine Ga ?_;refine Ops.str1 (b:=UInt8.ofNat (48+n)) rfl (jm1 d4) ?_;refine Ga ?_;refine ZB rfl rfl Zc ?_;refine Ga ?_;exact⟨by rw[hs,jnc d4],old.trans ⟨by simp,fun _ hj=>jad hj⟩⟩
 .have xB:(9:Int)<(n:Int):=by omega
  have gC:m≠0:=by rintro rfl;simp at hm;omega
  have e1:IntKind.u8.wrap (IntKind.u64.wrap (48+(n:Int).tmod 10))=((UInt8.ofNat (48+n%10)).toNat:Int):=by
   have:(n:Int).tmod 10=((n%10:Nat):Int):=(Int.ofNat_tmod n 10).symm;rw[this,IntKind.wrap_u64,<- jm1 (m:=n%10) om];congr 1;omega
  refine Ga ?_;refine Ops.str1 (b:=UInt8.ofNat (48+n%10)) rfl e1 ?_;refine Ga ?_;refine ZB rfl rfl Zc ?_;refine Ga ?_;refine ih (m-1) om _ _ ⟨n/10,[UInt8.ofNat (48+n%10)]++s,?_,by simp;omega,by omega,by rw[hs,jpa d4 hn,List.append_assoc],?_,old.trans ⟨by simp,fun _ hj=>jad hj⟩⟩
  .rw[show m-1+1=m by omega];rw[Nat.pow_succ]at hm;omega
  .have:(n:Int).tdiv 10=((n/10:Nat):Int):=(Int.ofNat_tdiv n 10).symm;rw[this,IntKind.wrap_u64,Int.emod_eq_of_lt om om]
theorem jkH{d u:Nat}{h:H}(hd:1<=d)(hu:u<18446744073709551616) :
  ∃h',cl d (.fn 135) [.int .u64 (u:Int)] h=some (.str (dec u),h')/\Old h h':=jnz Z rfl rfl hd hu
theorem jbO{d u:Nat}{h:H}(hd:2<=d)(hu:u<9223372036854775808) :
  ∃h',cl d (.fn 136) [.i (u:Int)] h=some (.str (dec u),h')/\Old h h':=by
 obtain⟨h1,e1,o1⟩:=jkH Z (d:=d-1) (u:=u) (h:=h) om om;have e0:IntKind.u64.wrap (u:Int)=(u:Int):=by rw[IntKind.wrap_u64,Int.emod_eq_of_lt om om]
 refine jae (aT Z ?_);refine Ga ?_;rw[e0];refine Ga ?_;exact⟨rfl,o1⟩
end
abbrev hexT:List UInt8:=[48,49,50,51,52,53,54,55,56,57,97,98,99,100,101,102]
def hx(n:Nat):UInt8:=hexT.getD n 0
def hexS(l:List UInt8):List UInt8:=(l.map fun b=>[hx (b.toNat/16),hx (b.toNat%16)]).flatten
theorem jgt(l:List UInt8):(hexS l).length=2*l.length:=by
 induction l with
 |nil=>rfl
 |cons a l ih=>simp only[hexS,List.map_cons,zW,zg]at ih ⊢;rw[ih];simp;omega
theorem jix{l:List UInt8}{i:Nat}{b:UInt8}(h:l[i]?=some b):hexS (l.take (i+1))=hexS (l.take i)++[hx (b.toNat/16),hx (b.toNat%16)]:=by
 rw[List.take_add_one,h];simp[hexS]
theorem jmW{n:Nat}(h:n<16):hexT[n]?=some (hx n):=by
 match n,h with
 |0,_=>rfl|1,_=>rfl|2,_=>rfl|3,_=>rfl|4,_=>rfl|5,_=>rfl|6,_=>rfl|7,_=>rfl
 |8,_=>rfl|9,_=>rfl|10,_=>rfl|11,_=>rfl|12,_=>rfl|13,_=>rfl|14,_=>rfl|15,_=>rfl
 |n+16,h=>exact zJ h om
section
variable{call:Call}{fuel base:Nat}{K:List Fr}{e:Env}{h:H}{Q:Post}{ix:Nat}{dst at_:Option Nat}{ops:List Ins}{keep:List Nat}
theorem Ops.ixHex{x i:Opd}{s:List UInt8}{k:IntKind}{n:Nat}{b:UInt8}(hx:x.ev e=some (.str s))(hi:i.ev e=some (.int k (n:Int)))(hs:s[n]?=some b)(kk:Ops call fuel base ops keep K (layv e dst (.int .u8 (b.toNat:Int))) h Q) :
  Ops call fuel base (⟨ix,dst,.ixStr x i,none,at_,[]⟩::ops) keep K e h Q:=by
 refine zau rfl ?_ kk;simp only[I.pure,hx,hi];have d4:n<s.length:=by
  rcases zx n s.length with h|h
  .exact h
  .rw[zd h]at hs;cases hs
 have hb:jgx (n:Int) s.length=true:=jds.2 ⟨by omega,by omega⟩;rw[hb];simp only[cond_true,zw,hs,jcY]
theorem Ops.bslice2_at{b:Nat}{x y:Opd}{xv yv z0 z1:V}(hx:x.ev e=some xv)(hy:y.ev e=some yv)(h1:xv.cells=[xv])(h2:yv.cells=[yv])
  (k:Ops call fuel base ops keep K (layv e dst (.slice (some (base+b,0)) 2 (.fix 2))) (h.set (base+b) (.cells [xv,yv] false)) Q) :
  Ops call fuel base (⟨ix,dst,.bslice 1 2 [z0,z1] [(0,x),(1,y)],none,some b,[]⟩::ops) keep K e h Q:=by
 refine Ops.make_at (ob:= .cells [xv,yv] false) (mk:=fun b=>.slice (some (b,0)) 2 (.fix 2)) rfl ?_ k;have hf:jaF [z0,z1] [(0,1,xv),(1,1,yv)]=some [xv,yv]:=by
  simp[jaF,h1,h2,jao];rfl
 simp only[I.make,jb2,List.map,hx,hy,Nat.zero_mul,Nat.one_mul,hf]
end
section
variable{cl:Nat->Call}(Z:Sem cl)
include Z
theorem sp_hex{d N:Nat}{l:List UInt8}{v:V}{h:H}(hd:1<=d)(r:Row N h 1 v l.length (bts l))(hl:l.length<=90000) :
  ∃h',cl d (.fn 173) [v] h=some (.str (hexS l),h')/\Old h h':=by
 obtain⟨a,c,rfl,hq⟩:∃a c,v = .slice a l.length c/\(l≠[] -> ∃q,a=some (q,0)/\q<h.nx/\h.get q=some (.cells (bts l) false)):=by
  rcases r with⟨h2,e⟩|⟨q,h1,h2,rfl,h4,h5⟩
  .rw[h2,e.2];exact⟨none,.fix 0,rfl,fun h=>zJ (zn.1 h2) h⟩
  .exact⟨_,_,rfl,fun _=>⟨q,rfl,h2,h4⟩⟩
 refine jae (aT Z ?_);refine Ga ?_;refine Zq (fun m e g=>∃(i:Nat) (v:V),m=l.length-i/\i<=l.length/\e=[(3,v),(6,.slice a l.length c),(7,.i (l.length:Int)),(8,.i (i:Int))]/\Row h.nx g 1 v (2*i) (bts (hexS (l.take i)))/\Old h g)
  (k:=l.length) Ze ⟨0,.nils,by omega,by omega,rfl,Row.nil _ _ _,Zz h⟩ ?_
 rintro _ _ g ⟨i,v,rfl,hi,rfl,row,old⟩ f ih;by_cases d4:i<l.length
 case neg=>
  obtain rfl:i=l.length:=by omega
  rw[List.take_length]at row;refine Ga ?_;refine Ops.ofRow rfl row ?_;refine Ga ?_;exact⟨rfl,old⟩
 obtain⟨q,rfl,pD,iD⟩:=hq (by rintro rfl;simp at d4);have mN:g.get q=some (.cells (bts l) false):=by rw[old.2 q pD,iD]
 obtain⟨b,hb⟩:∃b,l[i]?=some b:=⟨_,za d4⟩
 have dB:(bts l)[0+i*1]?=some (jcY b):=by rw[zP,Nat.mul_one];simp[bts,hb]
 unfold jcY at dB;refine Ga ?_;refine Zo ?_;refine Ga ?_;have e1:(b.toNat:Int).fdiv (2 ^ (Int.toNat 4).min IntKind.u8.bits)=((b.toNat/16:Nat):Int):=by
  show (b.toNat:Int).fdiv 16=_;rw[Int.fdiv_eq_ediv_of_nonneg _ om];omega
 rw[e1];have Uk:=b.toNat_lt;refine Ops.ixHex (n:=b.toNat/16) rfl rfl (jmW om) ?_;refine Ga ?_;have e2:IntKind.u8.wrap ((BitVec.ofInt IntKind.u8.bits (b.toNat:Int) &&& BitVec.ofInt IntKind.u8.bits 15).toNat:Int)=((b.toNat%16:Nat):Int):=by
  have q1:(BitVec.ofInt IntKind.u8.bits (b.toNat:Int)).toNat=b.toNat:=by
   show (BitVec.ofInt 8 (b.toNat:Int)).toNat=b.toNat;rw[BitVec.toNat_ofInt];omega
  have q2:(BitVec.ofInt IntKind.u8.bits 15).toNat=15:=rfl;rw[BitVec.toNat_and,q1,q2,show (15:Nat)=2 ^ 4-1 from rfl,Nat.and_two_pow_sub_one_eq_mod,IntKind.wrap_u8];omega
 rw[e2];refine Ops.ixHex (n:=b.toNat%16) rfl rfl (jmW om) ?_;refine Ops.bslice2_at (xv:=jcY (hx (b.toNat/16))) (yv:=jcY (hx (b.toNat%16))) rfl rfl rfl rfl ?_;have aC:Row h.nx ((g.reserve 1).set (g.nx+0) (.cells [jcY (hx (b.toNat/16)),jcY (hx (b.toNat%16))] false)) 1 v (2*i) (bts (hexS (l.take i))):=by
  refine row.keep Zd fun z hz=>?_;have:=(row.at_ge hz).2;rw[jaa om,H.get_reserve]
 refine Ops.appendN (sb:=g.nx+0) (so:=0) (m:=2) (new:=[jcY (hx (b.toNat/16)),jcY (hx (b.toNat%16))]) rfl rfl aC ?_ om (jab ..) Zd rfl rfl om om om fun v' h' r2 z1 z2 z3=>?_
 .have:=old.1;simp;omega
 refine Ga ?_;refine ih (l.length-(i+1)) om _ _ ⟨i+1,v',rfl,by omega,rfl,?_,?_⟩
 .rw[jix hb,show 2*(i+1)=2*i+2 by omega];simpa[bts] using r2
 .refine⟨by have:=old.1;rw[z1];simp;omega,fun j hj=>?_⟩;rw[z3 j (by have:=old.1;simp;omega) fun e=>by have:=(row.at_ge e).1;omega];have:=old.1;rw[jaa om,H.get_reserve,old.2 j hj]
end
def Pw(h:H):Prop:=0<h.nx/\∃l ro,h.get 0=some (.cells l ro)/\jkW 20 1 l=true
theorem Pw.old{h h':H}(p:Pw h)(o:Old h h'):Pw h':=⟨zr p.1 o.1,by obtain⟨l,ro,h1,h2⟩:=p.2;exact⟨l,ro,by rw[o.2 0 p.1,h1],h2⟩⟩
theorem Pw.ch{h h':H}{B:Nat->Prop}(p:Pw h)(c:Ch B h h')(h0:¬B 0):Pw h':=⟨zr p.1 c.nx,by obtain⟨l,ro,h1,h2⟩:=p.2;exact⟨l,ro,by rw[c.get 0 p.1 h0,h1],h2⟩⟩
theorem jjn{h:H}{u:Nat}(p:Pw h):jcF 0 u h=some (.str (dec u),h):=by
 obtain⟨_,l,ro,h1,h2⟩:=p;unfold jcF;cases Nat.blt u 100 with
 |true=>rfl
 |false=>simp only[cond_false,h1,h2,cond_true]
def jf8:Int->List UInt8
 |0=>[110,111,110,101]
 |1=>[105,110]
 |2=>[111,117,116]
 |_=>[99,108,111,115,101,100]
theorem jlf(i:Int):(jf8 i).length<=6:=by unfold jf8;split<;>simp
def jiL(r:Option (List UInt8))(cap:Nat):List UInt8:=match r with
 |none=>[45]
 |some b=>hexS b++[47]++dec cap
def jb6(what:Int)(shut:Bool)(r:Option (List UInt8))(cap:Nat):List (List UInt8):=jf8 what::((if shut then [[115,104,117,116]] else [])++[jiL r cap])
section
variable{cl:Nat->Call}(Z:Sem cl)
include Z
theorem jdg{d u:Nat}{h:H}(hd:1<=d)(hu:u<9223372036854775808)(p:Pw h):cl d (.fn 131) [.i (u:Int)] h=some (.str (dec u),h):=by
 rw[jps Z hd (p:=jkZ 0) rfl];have h1:Nat.ble u 9223372036854775807=true:=Nat.ble_eq_true_of_le om;show (bif Nat.ble u 9223372036854775807 then jcF 0 u h else none)=_;rw[h1,cond_true,jjn p]
theorem w_FmtU{d u:Nat}{h:H}(hd:1<=d)(hu:u<18446744073709551616)(p:Pw h):cl d (.fn 130) [.int .u64 (u:Int),.i 10] h=some (.str (dec u),h):=by
 rw[jps Z hd (p:=jlb 0) rfl];have h1:Nat.ble u 18446744073709551615=true:=Nat.ble_eq_true_of_le om;show (bif Nat.ble u 18446744073709551615 then jcF 0 u h else none)=_;rw[h1,cond_true,jjn p]
theorem w_Join{d b o n:Nat}{c:Cap}{h:H}{l:List V}{ro:Bool}{xs:List (List UInt8)}{s:List UInt8}(hd:1<=d)(hg:h.get b=some (.cells l ro))(hx:(l.drop o).take n=xs.map V.str)(hn:xs.length=n)(hs:(Lib.join xs s).length<=100000000)(cI:n<=1000000) :
  cl d (.fn 133) [.slice (some (b,o)) n c,.str s] h=some (.str (Lib.join xs s),h):=by
 rw[jps Z hd (p:=jjV) rfl];have h1:(Nat.beq xs.length n&&(Nat.ble n 140737488355328&&Nat.ble (Lib.join xs s).length 140737488355328))=true:=by
  rw[show Nat.beq xs.length n=true by rw[hn];exact Nat.beq_refl n,Nat.ble_eq_true_of_le om,Nat.ble_eq_true_of_le om];rfl
 simp only[jjV];rw[hg];dsimp only;rw[hx,jm6];dsimp only;rw[h1,cond_true]
end
theorem join2(a b s:List UInt8):Lib.join [a,b] s=a++s++b:=by simp[Lib.join,List.intercalate]
theorem join3(a b c s:List UInt8):Lib.join [a,b,c] s=a++s++b++s++c:=by simp[Lib.join,List.intercalate]
section
variable{call:Call}{fuel base:Nat}{K:List Fr}{e:Env}{h:H}{Q:Post}{ix:Nat}{dst at_:Option Nat}{ops:List Ins}{keep:List Nat}
theorem Ops.digit{x y:Opd}{n:Nat}(cB:x.ev e=some (.i (n:Int)))(hy:y.ev e=some (.i ((n:Int)+1)))(hn:n<16)(k:Ops call fuel base ops keep K (layv e dst (.str [hx n])) h Q) :
  Ops call fuel base (⟨ix,dst,.sliceS (.c (.str hexT)) (some x) (some y),none,at_,[]⟩::ops) keep K e h Q:=by
 refine zau rfl ?_ k;have hh:(Opd.c (.str hexT)).ev e=some (.str hexT):=rfl;simp only[I.pure,evo,cB,hy,hh]
 match n,hn with
 |0,_=>rfl|1,_=>rfl|2,_=>rfl|3,_=>rfl|4,_=>rfl|5,_=>rfl|6,_=>rfl|7,_=>rfl
 |8,_=>rfl|9,_=>rfl|10,_=>rfl|11,_=>rfl|12,_=>rfl|13,_=>rfl|14,_=>rfl|15,_=>rfl
 |n+16,h=>exact zJ h om
end
section
variable{cl:Nat->Call}(Z:Sem cl)
include Z
abbrev endC(what fd:Int)(rs wr:Bool)(v:V)(shut:Bool)(inn out:Int):List V:=[.i what,.i fd,.bool rs,.bool wr,v,.bool shut,.int .u64 inn,.int .u64 out]
theorem jo5{d cap b:Nat}{what fd inn out:Int}{ring:Option (List UInt8)}{wr shut:Bool}{sb:Env}{v:V}{s:List UInt8}{h:H}(Vf:sb=[]\/sb=[(15,.bool false)])(hd:2<=d)(hg:h.get b=some (.cells (endC what fd ring.isSome wr v shut inn out) false))(xC:b<h.nx)(hb:VB h v (ring.getD []))(cO:∀z,v.at?=some z->z<h.nx)(hl:(ring.getD []).length<=90000)
  (hc:cap<9223372036854775808) (hs:s.length<=100) :
  Run (cl d) fuel c137_5 [] ([(1,.i (cap:Int)),(2,.p b 0),(5,.str s)]++sb) h (Fin c137.res fun x h'=>x = .str (s++[32]++jiL ring cap)/\Old h h'):=by
 rcases Vf with rfl|rfl
 all_goals
  dsimp only[List.append_nil,List.cons_append,List.nil_append];cases ring with
  |none=>
   dsimp only[Option.isSome_none]at hg
   repeat' (first|refine qxy ?_|(refine zsp ?_ ?_<;>intro _)|fail)
   refine ZB rfl rfl Zc ?_
   repeat' (first|refine qxy ?_|(refine zsp ?_ ?_<;>intro _)|fail)
   exact⟨by simp[jiL],Zz h⟩
  |some l=>
   dsimp only[Option.isSome_some,Option.getD_some]at hg hb hl;obtain⟨a,c,rfl,hn,hf,pQ⟩:=hb
   repeat' (first|refine qxy ?_|(refine zsp ?_ ?_<;>intro _)|fail)
   refine ZB rfl rfl Zc ?_
   repeat' (first|refine qxy ?_|(refine zsp ?_ ?_<;>intro _)|fail)
   refine Zq (fun m e g=>∃(i:Nat),m=l.length-i/\i<=l.length/\e=[(1,.i (cap:Int)),(2,.p b 0),(5,.str (s++[32]++hexS (l.take i))),(6,.i (i:Int))]/\Old h g)
    (k:=l.length) Ze ⟨0,by omega,by omega,by simp[hexS],Zz h⟩ ?_
   rintro _ _ g ⟨i,rfl,hi,rfl,old⟩ f ih;have g1:g.get b=_:=(old.2 b xC).trans hg;by_cases d4:i<l.length
   case neg=>
    obtain rfl:i=l.length:=by omega
    rw[List.take_length];obtain⟨h1,e1,o1⟩:=jbO Z (d:=d) (u:=cap) (h:=g) hd hc;have:=jgt l
    repeat' (first|refine qxy ?_|(refine zsp ?_ ?_<;>intro _)|fail)
    refine ZB rfl rfl Zc ?_
    repeat' (first|refine qxy ?_|(refine zsp ?_ ?_<;>intro _)|fail)
    refine ZB rfl rfl (by have:=jkr (u:=cap) (m:=19) om om;simp;omega) ?_
    repeat' (first|refine qxy ?_|(refine zsp ?_ ?_<;>intro _)|fail)
    exact⟨by simp[jiL],old.trans o1⟩
   obtain⟨q,o,cs,ro,rfl,q1,q2,q3⟩:=pQ (by rintro rfl;simp at d4);have g2:g.get q=some (.cells cs ro):=by rw[old.2 q (cO q rfl),q2]
   obtain⟨y,hy⟩:∃y,l[i]?=some y:=⟨_,za d4⟩
   have Wf:=y.toNat_lt;have q4:cs[o+i*1]?=some (.int .u8 (y.toNat:Int)):=by rw[Nat.mul_one];exact q3 i y hy
   have g3:(g.reserve 1).get b=_:=(H.get_reserve ..).trans g1;have g4:(g.reserve 1).get q=some (.cells cs ro):=(H.get_reserve ..).trans g2
   repeat' (first|refine qxy ?_|(refine zsp ?_ ?_<;>intro _)|fail)
   refine Zo ?_
   repeat' (first|refine qxy ?_|(refine zsp ?_ ?_<;>intro _)|fail)
   have e1:IntKind.u8.wrap ((y.toNat:Int).tdiv 16)=((y.toNat/16:Nat):Int):=by
    rw[show (y.toNat:Int).tdiv 16=((y.toNat/16:Nat):Int) from (Int.ofNat_tdiv _ 16).symm,IntKind.wrap_u8];omega
   have e2:(y.toNat:Int).tmod 16=((y.toNat%16:Nat):Int):=(Int.ofNat_tmod _ 16).symm;rw[e1,e2];refine Ops.bslice2_at (xv:= .int .u8 ((y.toNat/16:Nat):Int)) (yv:= .int .u8 ((y.toNat%16:Nat):Int)) rfl rfl rfl rfl ?_;have g5:((g.reserve 1).set (g.nx+0) (.cells [.int .u8 ((y.toNat/16:Nat):Int),.int .u8 ((y.toNat%16:Nat):Int)] false)).get (g.nx+0)=some (.cells [.int .u8 ((y.toNat/16:Nat):Int),.int .u8 ((y.toNat%16:Nat):Int)] false):=jab ..;have o2:Old g ((g.reserve 1).set (g.nx+0) (.cells [.int .u8 ((y.toNat/16:Nat):Int),.int .u8 ((y.toNat%16:Nat):Int)] false)):=⟨by simp,fun j hj=>by rw[jaa om,H.get_reserve]⟩
   generalize (g.reserve 1).set (g.nx+0) (.cells [.int .u8 ((y.toNat/16:Nat):Int),.int .u8 ((y.toNat%16:Nat):Int)] false)=g6 at g5 o2 ⊢
   repeat' (first|refine qxy ?_|(refine zsp ?_ ?_<;>intro _)|fail)
   have j4:=jgt (l.take i);have jM:(l.take i).length<=90000:=by simp;omega
   refine Zq (fun m e g'=>∃(j:Nat),m=2-j/\j<=2/\e=[(1,.i (cap:Int)),(2,.p b 0),(5,.str (s++[32]++hexS (l.take i)++([hx (y.toNat/16),hx (y.toNat%16)].take j))),(6,.i (i:Int)),(44,.slice (some (g.nx+0,0)) 2 (.fix 2)),(45,.i 2),(46,.i (j:Int))]/\g'=g6)
    (k:=2) Ze ⟨0,by omega,by omega,by simp,rfl⟩ ?_
   rintro _ _ g' ⟨j,rfl,hj,rfl,rfl⟩ f2 ih2;by_cases iH:j<2
   case neg=>
    obtain rfl:j=2:=by omega
    repeat' (first|refine qxy ?_|(refine zsp ?_ ?_<;>intro _)|fail)
    refine ih (l.length-(i+1)) om _ _ ⟨i+1,rfl,by omega,?_,old.trans o2⟩;rw[jix hy,List.append_assoc (s++[32])];rfl
   have key:∃z:Nat,z<16/\[V.int .u8 ((y.toNat/16:Nat):Int),.int .u8 ((y.toNat%16:Nat):Int)][0+j*1]?=some (.int .u8 (z:Int))/\[hx (y.toNat/16),hx (y.toNat%16)].take (j+1)=[hx (y.toNat/16),hx (y.toNat%16)].take j++[hx z]:=by
    match j,iH with
    |0,_=>exact⟨y.toNat/16,by omega,rfl,rfl⟩
    |1,_=>exact⟨y.toNat%16,by omega,rfl,rfl⟩
   obtain⟨z,hz,z1,z2⟩:=key;have e3:IntKind.i64.wrap (z:Int)=(z:Int):=by rw[IntKind.wrap_i64];omega
   repeat' (first|refine qxy ?_|(refine zsp ?_ ?_<;>intro _)|fail)
   rw[e3];refine Ops.digit rfl rfl hz ?_
   repeat' (first|refine qxy ?_|(refine zsp ?_ ?_<;>intro _)|fail)
   have lW:([hx (y.toNat/16),hx (y.toNat%16)].take j).length<=2:=by simp;omega
   refine ZB rfl rfl (by simp at lW j4 jM ⊢;omega) ?_
   repeat' (first|refine qxy ?_|(refine zsp ?_ ?_<;>intro _)|fail)
   refine ih2 (2-(j+1)) om _ _ ⟨j+1,rfl,by omega,?_,rfl⟩;rw[z2,<- List.append_assoc];rfl
omit Z in
theorem jlC{what:Int}{shut:Bool}{r:Option (List UInt8)}{cap:Nat}:Lib.join (jb6 what shut r cap) [32]=jf8 what++(if shut then [32,115,104,117,116] else [])++[32]++jiL r cap:=by
 unfold jb6;cases shut with
 |true=>simp[join3]
 |false=>simp[join2]
theorem jp8{d cap:Nat}{e:En}{v:V}{h:H}(hd:3<=d)(hw:0<=e.what/\e.what<=3)(hb:VB h v (e.ring.getD []))(cO:∀z,v.at?=some z->z<h.nx)(hl:(e.ring.getD []).length<=90000)(hc:cap<9223372036854775808) :
  ∃h',cl d (.fn 137) [.agg (e.rcells v),.i (cap:Int)] h=some (.str (Lib.join (jb6 e.what e.shut e.ring cap) [32]),h')/\Old h h':=by
 rw[jlC];obtain⟨what,fd,ring,writes,shut,inn,out⟩:=e;dsimp only at hw hb hl ⊢;obtain⟨w,rfl⟩:∃w:Nat,what=(w:Int):=⟨what.toNat,by omega⟩
 have tN:w<4:=by omega
 have i_:[V.str [110,111,110,101],.str [105,110],.str [111,117,116],.str [99,108,111,115,101,100]][0+w*1]?=some (.str (jf8 (w:Int))):=by
  match w,tN with
  |0,_=>rfl|1,_=>rfl|2,_=>rfl|3,_=>rfl
 have eJ:=jlf (w:Int);refine jae (aT Z ?_);unfold En.rcells;dsimp only;refine Ga ?_;refine zcu (ob:= .cells (endC w fd ring.isSome writes v shut inn out) false) rfl rfl ?_;have g0:(h.new (.cells (endC w fd ring.isSome writes v shut inn out) false)).get h.nx=some (.cells (endC w fd ring.isSome writes v shut inn out) false):=jac _;have l1:h.nx<(h.new (.cells (endC w fd ring.isSome writes v shut inn out) false)).nx:=by simp
 have o1:Old h (h.new (.cells (endC w fd ring.isSome writes v shut inn out) false)):=⟨by simp,fun _ hj=>jad hj⟩
 generalize h.new (.cells (endC w fd ring.isSome writes v shut inn out) false)=h1 at g0 l1 o1 ⊢;refine Ga ?_;refine zcu (ob:= .cells [V.str [110,111,110,101],.str [105,110],.str [111,117,116],.str [99,108,111,115,101,100]] false) rfl rfl ?_;have g2:=jac (h:=h1) (.cells [V.str [110,111,110,101],.str [105,110],.str [111,117,116],.str [99,108,111,115,101,100]] false);have g3:(h1.new (.cells [V.str [110,111,110,101],.str [105,110],.str [111,117,116],.str [99,108,111,115,101,100]] false)).get h.nx=_:=(jad l1).trans g0;have o2:Old h1 (h1.new (.cells [V.str [110,111,110,101],.str [105,110],.str [111,117,116],.str [99,108,111,115,101,100]] false)):=⟨by simp,fun _ hj=>jad hj⟩
 generalize h1.new (.cells [V.str [110,111,110,101],.str [105,110],.str [111,117,116],.str [99,108,111,115,101,100]] false)=h2 at g2 g3 o2 ⊢;have o3:=o1.trans o2;have dB:VB h2 v (ring.getD []):=hb.keep o3.1 fun z hz=>o3.2 z (cO z hz);obtain⟨C,hC⟩:∃C,C=c137_5:=⟨_,rfl⟩
 simp only[c137_6,<- hC,yH];cases shut with
 |true=>
  refine Ga ?_;refine ZB rfl rfl Zc ?_;refine Ga ?_;rw[hC];exact Zy (jo5 Z (d:=d-1) (s:=jf8 (w:Int)++[32,115,104,117,116]) (sb:=[]) (.inl rfl) om g3 (zr l1 o2.1) dB (fun z hz=>zr (cO z hz) o3.1) hl hc Zc) fun x h' ⟨p,q⟩=>⟨by simp[p],o3.trans q⟩
 |false=>
  refine Ga ?_;rw[hC];exact Zy (jo5 Z (d:=d-1) (s:=jf8 (w:Int)) (sb:=[(15,.bool false)]) (.inr rfl) om g3 (zr l1 o2.1) dB (fun z hz=>zr (cO z hz) o3.1) hl hc om) fun x h' ⟨p,q⟩=>⟨by simp[p],o3.trans q⟩
end
end Am.Sigs
namespace Am
open Go Am.Sigs
structure Hd(p:Prop):Prop where
 g:p
structure Kc(h:H)(b:Nat)(l:List V)(ro:Bool):Prop where
 lt:b<h.nx
 at_:h.get b=some (.cells l ro)
theorem Kc.old{h h':H}{b:Nat}{l:List V}{ro:Bool}(k:Kc h b l ro)(o:Old h h'):Kc h' b l ro:=
 ⟨zr k.lt o.1,by rw[o.2 _ k.lt,k.at_]⟩
section
variable{call:Call}{fuel base:Nat}{K:List Fr}{e:Env}{h h' h0:H}{Q:Post}{ix:Nat}{dst:Option Nat}{ops:List Ins}{keep:List Nat}{at_:Option Nat}{c:List (Nat×I×Option (Nat×Bool))}
end
end Am
namespace Am.Sigs
open Am Go
abbrev strs(l:List (List UInt8)):List V:=l.map V.str
theorem strs_one(l:List (List UInt8)):(strs l).all V.one=true:=by
 rw[zS];intro x hx;obtain⟨s,_,rfl⟩:=List.mem_map.1 hx;rfl
def SR(N:Nat)(h:H)(v:V)(l:List (List UInt8)):Prop:=
 ∃q c,N<=q/\q<h.nx/\v = .slice (some (q,0)) l.length c/\(c = .grow 1\/c = .fix l.length)/\h.get q=some (.cells (strs l) false)
theorem SR.keep{N M:Nat}{h h':H}{v:V}{l:List (List UInt8)}(r:SR N h v l)(hM:M<=N)(o:Old h h'):SR M h' v l:=by
 obtain⟨q,c,h1,h2,e,hc,hg⟩:=r;exact⟨q,c,by omega,zr h2 o.1,e,hc,by rw[o.2 q h2,hg]⟩
theorem SR.keep_ne{N:Nat}{h h':H}{v:V}{l:List (List UInt8)}(r:SR N h v l)(hx:h.nx<=h'.nx)(k:∀j,v.at?=some j->h'.get j=h.get j):SR N h' v l:=by
 obtain⟨q,c,h1,h2,rfl,hc,hg⟩:=r;exact⟨q,c,h1,by omega,rfl,hc,by rw[k q rfl,hg]⟩
theorem SR.at_ge{N:Nat}{h:H}{v:V}{l:List (List UInt8)}(r:SR N h v l){j:Nat}(e:v.at?=some j):N<=j/\j<h.nx:=by
 obtain⟨q,c,h1,h2,rfl,hc,hg⟩:=r;cases e;exact⟨h1,h2⟩
theorem SR.app{N m sb so:Nat}{h:H}{v:V}{l new:List (List UInt8)}{ls:List V}{ro:Bool}{cap:Cap}(r:SR N h v l)(hN:N<=h.nx)(hm:0<m)(hs:h.get sb=some (.cells ls ro))(kA:so+m<=ls.length)(mB:(ls.drop so).take m=strs new)(hb:l.length+m<=1000000) :
  ∃v' h',jaH h 1 16 v (.slice (some (sb,so)) m cap)=some (v',h')/\SR N h' v' (l++new)/\h'.nx=h.nx+1/\v'.at?=some h.nx/\∀j,j<h.nx->v.at?≠some j->h'.get j=h.get j:=by
 obtain⟨q,c,h1,h2,rfl,hc,hg⟩:=r;have j4:new.length=m:=by
  have:=congrArg List.length mB;simp at this;omega
 have eB:jaz h 1 m (.slice (some (sb,so)) m cap)=some (strs new):=by
  have:(m*1 == 0)=false:=by simp;omega
  simp only[jaz,this,cond_false];rw[jcz hs om,Nat.mul_one,mB]
 have tC:(Nat.ble ((l.length+m)*16) (2 ^ 46)&&Nat.ble (l.length+m) (2 ^ 46))=true:=by simp only[zp,zQ];omega
 have jB:(m == 0)=false:=by simp;omega
 have mE:(l++new).length=l.length+m:=by simp[j4]
 rcases hc with rfl|rfl
 .have Xf:(Nat.beq 1 1&&Nat.ble (0+l.length*1) (strs l).length&&(strs new).all V.one)=true:=by
   simp only[zp,zQ,strs_one,and_true];exact⟨rfl,by simp⟩
  have tL:((strs l).drop 0).take (l.length*1)=strs l:=by rw[zk,zh Zd]
  refine⟨.slice (some (h.nx,0)) (l.length+m) (.grow 1),(h.kill q).new (.cells (strs (l++new)) false),?_,⟨h.nx,.grow 1,hN,by simp,by rw[mE],.inl rfl,?_⟩,by simp,rfl,?_⟩
  .simp only[jaH,lenOf,eB];rw[tC];simp only[cond_true,jB,cond_false,hg];rw[Xf];simp only[cond_true,newRow,tL,strs,List.map_append];rfl
  .exact jac (h:=h.kill q) _
  .intro j hj hv;have dP:j≠q:=fun e=>hv (by subst e;rfl);rw[jad (by simpa using hj),jai dP]
 .have Yf:(bif l.length*1 == 0 then some [] else h.load q 0 (l.length*1))=some (strs l):=by
   by_cases h0:l=[]
   .subst h0;rfl
   .have:(l.length*1 == 0)=false:=by
     have:=List.length_pos_iff.2 h0;simp[h0]
    rw[this,cond_false,jcz hg Zd,zk,zh Zd]
  have j5:Nat.ble (l.length+m) l.length=false:=by
   cases e:Nat.ble (l.length+m) l.length with
   |false=>rfl
   |true=>have:=zu e;omega
  refine⟨.slice (some (h.nx,0)) (l.length+m) (.grow 1),h.new (.cells (strs (l++new)) false),?_,⟨h.nx,.grow 1,hN,by simp,by rw[mE],.inl rfl,jac _⟩,by simp,rfl,fun j hj _=>jad hj⟩;simp only[jaH,lenOf,eB];rw[tC];simp only[cond_true,jB,cond_false,j5,Yf];simp only[newRow,strs,List.map_append]
theorem jgu(e:Env)(d:Nat)(v:V):(Opd.t d).ev (layv e (some d) v)=some v:=by
 show (layv e (some d) v).get d=_;rw[jbD,zD rfl]
section
variable{call:Call}{fuel base:Nat}{K:List Fr}{e:Env}{h h0:H}{Q:Post}{ix i1 i2 d1 d2:Nat}{dst at_:Option Nat}{ops:List Ins}{keep:List Nat}{c:List (Nat×I×Option (Nat×Bool))}
theorem Ops.strA{x y:Opd}{sv:V}{l new:List (List UInt8)}{sb so m:Nat}{ls:List V}{ro:Bool}{cap:Cap}(hx:x.ev e=some sv)(hy:y.ev e=some (.slice (some (sb,so)) m cap))(o:Old h0 h)(r:SR h0.nx h sv l)(hm:0<m)(hs:h.get sb=some (.cells ls ro))(kA:so+m<=ls.length)(mB:(ls.drop so).take m=strs new)(hb:l.length+m<=1000000)
  (hk:∀h',Old h0 h'->jaO e h' c=true) (k:∀v' h',SR h0.nx h' v' (l++new)->Old h0 h'->h'.nx=h.nx+1->(∀j,j<h.nx->sv.at?≠some j->h'.get j=h.get j)->Ops call fuel base ops keep K (layv e dst v') h' Q) :
  Ops call fuel base (⟨ix,dst,.append 1 16 x y,none,none,c⟩::ops) keep K e h Q:=by
 obtain⟨v',h',e1,e2,e3,e4,e5⟩:=r.app (cap:=cap) o.1 hm hs kA mB hb;have o':Old h0 h':=⟨by have:=o.1;omega,fun j hj=>by rw[e5 j (zr hj o.1) fun e=>by have:=(r.at_ge e).1;omega,o.2 j hj]⟩
 exact Ops.step_chk (Zp rfl (by simp only[I.eff,hx,hy,e1])) (hk h' o') (k v' h' e2 o' e3 e5)
theorem Ops.strS{x y:Opd}{sv yv:V}{l new:List (List UInt8)}{M:Nat}(hx:x.ev e=some sv)(hy:y.ev e=some yv)(o:Old h0 h)(r:SR h0.nx h sv l)(r2:SR M h yv new)(hn:new≠[])(hb:l.length+new.length<=1000000)
  (hk:∀h',Old h0 h'->jaO e h' c=true) (k:∀v' h',SR h0.nx h' v' (l++new)->Old h0 h'->h'.nx=h.nx+1->(∀j,j<h.nx->sv.at?≠some j->h'.get j=h.get j)->Ops call fuel base ops keep K (layv e dst v') h' Q) :
  Ops call fuel base (⟨ix,dst,.append 1 16 x y,none,none,c⟩::ops) keep K e h Q:=by
 obtain⟨q,c,h1,h2,rfl,hc,hg⟩:=r2;have:=List.length_pos_iff.2 hn;exact Ops.strA hx hy o r this hg Zd (by rw[zk,zh Zd]) hb hk k
theorem Ops.strP{x s:Opd}{sv z:V}{l:List (List UInt8)}{t:List UInt8}(hx:x.ev e=some (.str t))(hs:s.ev (layv e (some d1) (.slice (some (h.nx,0)) 1 (.fix 1)))=some sv)(o:Old h0 h)(r:SR h0.nx h sv l)(hb:l.length<=900000)
  (k:∀v' h',SR h0.nx h' v' (l++[t])->Old h0 h'->h'.nx=h.nx+2->(∀j,j<h.nx->sv.at?≠some j->h'.get j=h.get j)->Ops call fuel base ops keep K (layv (layv e (some d1) (.slice (some (h.nx,0)) 1 (.fix 1))) (some d2) v') h' Q) :
  Ops call fuel base (⟨i1,some d1,.bslice 1 1 [z] [(0,x)],none,none,[]⟩::⟨i2,some d2,.append 1 16 s (.t d1),none,none,[]⟩::ops) keep K e h Q:=by
 refine zcu (ob:= .cells [V.str t] false) (mk:=fun b=>.slice (some (b,0)) 1 (.fix 1)) rfl ?_ ?_
 .simp only[I.make,jb2,List.map,hx];rfl
 .have on:Old h (h.new (.cells [V.str t] false)):=⟨by simp,fun _ hj=>jad hj⟩
  refine Ops.strA (new:=[t]) hs (jgu ..) (o.trans on) (r.keep (zq _) on) Nat.one_pos (jac _) Zd rfl om (fun _ _=>rfl) fun v' h' a b c d=>k v' h' a b (by rw[c];simp) fun j hj hv=>by rw[d j Zc hv,jad hj]
theorem Ops.strP_at{x s:Opd}{sv z:V}{l:List (List UInt8)}{t:List UInt8}{b:Nat}(hx:x.ev e=some (.str t))(hs:s.ev (layv e (some d1) (.slice (some (base+b,0)) 1 (.fix 1)))=some sv)(o:Old h0 h)(r:SR h0.nx h sv l)(h1:h0.nx<=base+b)(h2:base+b<h.nx)(h3:sv.at?≠some (base+b))(hb:l.length<=900000)
  (k:∀v' h',SR h0.nx h' v' (l++[t])->Old h0 h'->h'.nx=h.nx+1->(∀j,j<h.nx->j≠base+b->sv.at?≠some j->h'.get j=h.get j)->Ops call fuel base ops keep K (layv (layv e (some d1) (.slice (some (base+b,0)) 1 (.fix 1))) (some d2) v') h' Q) :
  Ops call fuel base (⟨i1,some d1,.bslice 1 1 [z] [(0,x)],none,some b,[]⟩::⟨i2,some d2,.append 1 16 s (.t d1),none,none,[]⟩::ops) keep K e h Q:=by
 refine Ops.make_at (ob:= .cells [V.str t] false) (mk:=fun b=>.slice (some (b,0)) 1 (.fix 1)) rfl ?_ ?_
 .simp only[I.make,jb2,List.map,hx];rfl
 .have on:Old h0 (h.set (base+b) (.cells [V.str t] false)):=⟨o.1,fun j hj=>by rw[jaa om,o.2 j hj]⟩
  refine Ops.strA (new:=[t]) hs (jgu ..) on (r.keep_ne (zq _) fun j hj=>jaa fun e=>h3 (by rw[hj,e])) Nat.one_pos (jab _) Zd rfl om (fun _ _=>rfl) fun v' h' a b c d=>k v' h' a b c fun j hj hjb hv=>by rw[d j hj hv,jaa hjb]
end
theorem Row.sr{N:Nat}{h:H}{v:V}{l:List (List UInt8)}(r:Row N h 1 v l.length (strs l))(hl:l≠[]):SR N h v l:=by
 rcases r with⟨h1,_⟩|⟨q,h1,h2,rfl,h4,_⟩
 .exact zJ (zn.1 h1) hl
 .exact⟨q,_,h1,h2,rfl,.inl rfl,h4⟩
end Am.Sigs
