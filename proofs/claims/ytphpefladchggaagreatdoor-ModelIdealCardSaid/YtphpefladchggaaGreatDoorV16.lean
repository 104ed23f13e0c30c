/- Our own library, part 16. -/
import Derived.Test.YtphpefladchggaaGreatDoorV15
import Derived.Test.YtphpefladchggaaGreatDoorV09
import Derived.Test.YtphpefladchggaaGreatDoorV14
set_option maxHeartbeats 8000000
set_option maxRecDepth 800
set_option linter.all false
namespace Am.Sigs
open Am Go
section
variable{v:V}{now no si:Int}{hd:Nat->Bool}{ct:Nat->Int}
theorem t_set_no{o:Nat}{b:Int}(ho:o=66):(v::tail now hd ct no si).set o (.i b)=v::tail now hd ct b si:=by
 subst ho;show v::V.int .u64 now::((tab 32 (fun i=>V.bool (hd i))++(tab 32 (fun i=>V.i (ct i))++[V.i no,V.i si])).set 64 (.i b))=_;rw[zU,zC Zd,tab_length,zU,zC Zd,tab_length];rfl
theorem t_set_si{o:Nat}{b:Int}(ho:o=67):(v::tail now hd ct no si).set o (.i b)=v::tail now hd ct no b:=by
 subst ho;show v::V.int .u64 now::((tab 32 (fun i=>V.bool (hd i))++(tab 32 (fun i=>V.i (ct i))++[V.i no,V.i si])).set 65 (.i b))=_;rw[zU,zC Zd,tab_length,zU,zC Zd,tab_length];rfl
end
noncomputable def ntS(ws:Ws)(a b:Int):Int×Option (Nat×Nat):=
 jcd ws a (110,none) fun n k x=>jcd ws b (110,none) fun m i _=>if n=m/\k≠i/\x.e0.ring≠none/\x.e1.ring≠none then (0,some (n,k)) else (111,none)
noncomputable def ntW(ws:Ws)(sum:Int)(a b:Int):Ws:=match (ntS ws a b).2 with
 |none=>ws
 |some (n,k)=>jap ws sum n k
noncomputable def ntNo(ws:Ws)(a b no:Int):Int:=match (ntS ws a b).2 with
 |none=>no
 |some (n,_)=>n
noncomputable def ntSi(ws:Ws)(a b si:Int):Int:=match (ntS ws a b).2 with
 |none=>si
 |some (_,k)=>k
section
variable{cl:Nat->Call}(Z:Sem cl)
include Z
theorem jkI{d rw q:Nat}{h:H}{l:List RX}{now no si a b:Int}{hdl:Nat->Bool}{ct:Nat->Int}(hd:4<=d)(w:RW h rw q l (tail now hdl ct no si))(o:WsOk (l.map RX.x))(hc:∀i,0<=ct i/\ct i<=1000000) :
  ∃l' h',cl d (.fn 107) [.p rw 0,.i a,.i b] h=some (.i (ntS (l.map RX.x) a b).1,h')/\RW h' rw q l' (tail now hdl ct (ntNo (l.map RX.x) a b no) (ntSi (l.map RX.x) a b si))/\l'.map RX.x=ntW (l.map RX.x) (sumC ct 31) a b/\Ch (RC rw q) h h':=by
 suffices k:∃v' h',cl d (.fn 107) [.p rw 0,.i a,.i b] h=some (v',h')/\∃l',v' = .i (ntS (l.map RX.x) a b).1/\RW h' rw q l' (tail now hdl ct (ntNo (l.map RX.x) a b no) (ntSi (l.map RX.x) a b si))/\l'.map RX.x=ntW (l.map RX.x) (sumC ct 31) a b/\Ch (RC rw q) h h' by
  obtain⟨_,h',e,l',rfl,p⟩:=k;exact⟨l',h',e,p⟩
 refine aT Z ?_;unfold ntNo ntSi ntW;rcases jdQ Z (d:=d-1) (fd:=a) om w o with⟨j5,ea⟩|⟨n,k,r,d7,hr,hk,ea⟩
 .have hS:ntS (l.map RX.x) a b=(110,none):=jaD j5;rw[hS];rcases jdQ Z (d:=d-1) (fd:=b) om w o with⟨_,eb⟩|⟨_,_,_,_,_,_,eb⟩
  .refine Ga ?_;exact⟨l,rfl,w,rfl,Zr _ _⟩
  .refine Ga ?_;exact⟨l,rfl,w,rfl,Zr _ _⟩
 have tD:ntS (l.map RX.x) a b=_:=jaA o.uniq d7 (jaN hr);rcases jdQ Z (d:=d-1) (fd:=b) om w o with⟨j5,eb⟩|⟨m,i,r2,jV,y9,nB,eb⟩
 .rw[jaD j5]at tD;rw[tD];refine Ga ?_;exact⟨l,rfl,w,rfl,Zr _ _⟩
 rw[jaA o.uniq jV (jaN y9)]at tD;obtain⟨hw,hq,d5⟩:=w.rat hr;have hn:=r_lt hr;have q1:=jic (k:=0) hr (.inl rfl);have q2:=jic (k:=1) hr (.inr rfl);have q1:(rows l)[0+(n:Int).toNat*20+0+((0:Nat):Int).toNat*8+2]?=some (.bool r.x.e0.ring.isSome):=q1;have q2:(rows l)[0+(n:Int).toNat*20+0+((1:Nat):Int).toNat*8+2]?=some (.bool r.x.e1.ring.isSome):=q2;by_cases hg:n=m/\k≠i/\r.x.e0.ring≠none/\r.x.e1.ring≠none
 case neg=>
  rw[zC hg]at tD;rw[tD];by_cases h1:n=m
  case neg=>
   have dH:(n:Int)≠(m:Int):=by omega
   refine Ga ?_;exact⟨l,rfl,w,rfl,Zr _ _⟩
  have dH:¬(n:Int)≠(m:Int):=by omega
  by_cases h2:k=i
  .have d8:(k:Int)=(i:Int):=by omega
   refine Ga ?_;exact⟨l,rfl,w,rfl,Zr _ _⟩
  have d8:¬(k:Int)=(i:Int):=by omega
  cases h3:r.x.e0.ring with
  |none=>
   rw[h3]at q1;refine Ga ?_;exact⟨l,rfl,w,rfl,Zr _ _⟩
  |some b0=>
   rw[h3]at q1;cases h4:r.x.e1.ring with
   |none=>
    rw[h4]at q2;refine Ga ?_;exact⟨l,rfl,w,rfl,Zr _ _⟩
   |some b1=>exact zJ ⟨h1,h2,by rw[h3];simp,by rw[h4];simp⟩ hg
 rw[zD hg]at tD;rw[tD];obtain⟨rfl,g2,g3,g4⟩:=hg;have dH:¬(n:Int)≠(n:Int):=by omega
 have d8:¬(k:Int)=(i:Int):=by omega
 obtain⟨b0,h3⟩:=zK.1 g3;obtain⟨b1,h4⟩:=zK.1 g4;rw[h3]at q1;rw[h4]at q2;have w1:=w.tl (tl':=tail now hdl ct (n:Int) si) hw;have w2:=w1.tl (tl':=tail now hdl ct (n:Int) (k:Int)) (jab _);have c2:Ch (RC rw q) h _:=(Zs (.inr rfl)).trans (Zs (b:=rw) (h:=h.set rw (.cells (.slice (some (q,0)) l.length (.grow 20)::tail now hdl ct (n:Int) si) false)) (ob:= .cells (.slice (some (q,0)) l.length (.grow 20)::tail now hdl ct (n:Int) (k:Int)) false) (.inr rfl));obtain⟨l',h',e,p1,p2,p3⟩:=jco Z (d:=d-1) om w2 o (.inr ⟨n,k,r.x,rfl,rfl,hk,jaN hr,g3,g4⟩) hc;have j4:∀{n2:Int} {o:Nat},o<68->o<(V.slice (some (q,0)) l.length (.grow 20)::tail now hdl ct n2 si).length:=fun ho=>by simp[jdh];omega
 refine Ga ?_;refine zcs rfl rfl rfl hw (j4 om) ?_;rw[t_set_no om];refine Ga ?_;refine zcs rfl rfl rfl (jab _) (j4 om) ?_;rw[t_set_si om];refine Ga ?_;exact⟨l',rfl,p1,p2,c2.trans p3⟩
end
def ctZ(ct:Nat->Int)(n:Nat):Nat->Int:=fun i=>if 1<=i/\i<=n then 0 else ct i
theorem ctZ_zero(ct:Nat->Int):ctZ ct 0=ct:=by
 funext i;unfold ctZ;rw[zC om]
theorem jne(ct:Nat->Int)(n:Nat):put1 (ctZ ct n) (n+1) 0=ctZ ct (n+1):=by
 funext i;unfold ctZ put1;by_cases h:i=n+1
 .rw[zD h,zD om]
 .rw[zC h];show (if 1<=i/\i<=n then 0 else ct i)=_;by_cases h2:1<=i/\i<=n
  .rw[zD h2,zD om]
  .rw[zC h2,zC om]
theorem ctZ_gt(ct:Nat->Int)(n:Nat):ctZ ct n (n+1)=ct (n+1):=by
 unfold ctZ;rw[zC om]
def jbm(ct:Nat->Int):Nat->List (Int×Int)
 |0=>[]
 |n+1=>jbm ct n++if 0<ct (n+1) then [(((n+1:Nat):Int),ct (n+1))] else []
theorem jga(ct:Nat->Int):∀n,(jbm ct n).length<=n
 |0=>zq _
 |n+1=>by
  have:=jga ct n;simp only[jbm,zg];split<;>simp<;>omega
def jat(l:List (Int×Int)):List V:=(l.map fun p=>[V.i p.1,V.i p.2]).flatten
section
variable{cl:Nat->Call}(Z:Sem cl)
include Z
theorem jjb{d rw q:Nat}{h:H}{l:List RX}{now no si:Int}{hdl:Nat->Bool}{ct:Nat->Int}(hd:4<=d)(w:RW h rw q l (tail now hdl ct no si))(o:WsOk (l.map RX.x))(t8:NtOk (l.map RX.x) no si)(hc:∀i,0<=ct i/\ct i<=1000000) :
  ∃v l' h',cl d (.fn 61) [.p rw 0] h=some (v,h')/\Row h.nx h' 2 v (jbm ct 31).length (jat (jbm ct 31))/\RW h' rw q l' (tail now hdl (ctZ ct 31) no si)/\l'.map RX.x=jap (l.map RX.x) (sumC (ctZ ct 31) 31) no si/\Ch (RC rw q) h h':=by
 suffices k:∃v h',cl d (.fn 61) [.p rw 0] h=some (v,h')/\∃l',Row h.nx h' 2 v (jbm ct 31).length (jat (jbm ct 31))/\RW h' rw q l' (tail now hdl (ctZ ct 31) no si)/\l'.map RX.x=jap (l.map RX.x) (sumC (ctZ ct 31) 31) no si/\Ch (RC rw q) h h' by
  obtain⟨v,h',e,l',p⟩:=k;exact⟨v,l',h',e,p⟩
 refine aT Z ?_;obtain⟨a,c,hw,_⟩:=w.head;refine Ga ?_;refine Zq (fun m e g=>∃(s:Nat) (v:V),m=31-s/\s<=31/\e=[(0,.p rw 0),(3,v),(4,.i ((s+1:Nat):Int))]/\Row h.nx g 2 v (jbm ct s).length (jat (jbm ct s))/\Old (h.set rw (.cells (V.slice a l.length c::tail now hdl (ctZ ct s) no si) false)) g)
  (k:=31) Ze ⟨0,.nils,rfl,by omega,rfl,Row.nil _ _ _,?_⟩ ?_
 .rw[ctZ_zero];refine⟨zq _,fun j hj=>?_⟩;by_cases e:j=rw
  .subst e;rw[jab,hw]
  .rw[jaa e]
 rintro _ _ g ⟨s,v,rfl,hs,rfl,row,old⟩ f ih;have w1:=w.tl (tl':=tail now hdl (ctZ ct s) no si) hw;have wg:=w1.old old;have onx:h.nx<=g.nx:=old.1;have oP:g.get rw=some (.cells (V.slice a l.length c::tail now hdl (ctZ ct s) no si) false):=by
  rw[old.2 rw w.lw,jab]
 by_cases d4:s<31
 case neg=>
  obtain rfl:s=31:=by omega
  have tC:¬((31+1:Nat):Int)<=31:=by omega
  have aD:∀i,0<=ctZ ct 31 i/\ctZ ct 31 i<=1000000:=fun i=>by
   unfold ctZ;by_cases e:1<=i/\i<=31
   .rw[zD e];omega
   .rw[zC e];exact hc i
  obtain⟨l',h',e,p1,p2,p3⟩:=jco Z (d:=d-1) om wg o t8 aD;have c1:Ch (RC rw q) h (h.set rw (.cells (V.slice a l.length c::tail now hdl (ctZ ct 31) no si) false)):=Zs (.inr rfl);refine Ga ?_;refine⟨l',row.keep p3.nx fun z hz=>p3.get z (row.at_ge hz).2 fun e=>?_,p1,p2,(c1.trans old.ch).trans p3⟩;have:=(row.at_ge hz).1;have:=w.lw;have:=w.lq;rcases e with e|e<;>omega
 have q1:(V.slice a l.length c::tail now hdl (ctZ ct s) no si)[0+34+(((s+1:Nat):Int)).toNat*1]?=some (.i (ct (s+1))):=by
  rw[<- ctZ_gt ct s];exact t_ct om om
 have j4:0+34+(((s+1:Nat):Int)).toNat*1<(V.slice a l.length c::tail now hdl (ctZ ct s) no si).length:=by simp[jdh];omega
 have tC:((s+1:Nat):Int)<=31:=by omega
 have aB:((s+1+1:Nat):Int)=((s+1:Nat):Int)+1:=by omega
 have dB:=hc (s+1);have kA:=jga ct s;by_cases pB:0<ct (s+1)
 .have Ke:ct (s+1)>0:=pB;have hL:jbm ct (s+1)=jbm ct s++[(((s+1:Nat):Int),ct (s+1))]:=by simp only[jbm,zD pB]
  refine Ga ?_;refine Ops.push (N:=h.nx) (new:=[.i ((s+1:Nat):Int),.i (ct (s+1))]) rfl rfl rfl rfl om rfl rfl row onx om om fun v' g' row' cB iA w6=>?_;have Le:g'.get rw=some (.cells (V.slice a l.length c::tail now hdl (ctZ ct s) no si) false):=by
   rw[w6 rw (zr w.lw onx) (fun e=>by have:=row.at_ge e;have:=w.lw;omega),oP]
  refine Ga ?_;refine zcs rfl rfl rfl Le j4 ?_;rw[jh7 (i:=s+1) om om,jne];refine Ga ?_;refine ih (31-(s+1)) om _ _ ⟨s+1,v',rfl,by omega,by rw[aB],?_,?_,?_⟩
  .rw[hL,zg];have:jat (jbm ct s++[(((s+1:Nat):Int),ct (s+1))])=jat (jbm ct s)++[.i ((s+1:Nat):Int),.i (ct (s+1))]:=by simp[jat]
   rw[this];refine Row.keep row' Zd fun z hz=>jaa ?_;have:=iA z hz;have:=w.lw;omega
  .show h.nx<=g'.nx;omega
  .intro j hj;have jH:j<h.nx:=hj;by_cases e:j=rw
   .subst e;rw[jab,jab]
   .rw[jaa e,jaa e,w6 j om (fun e=>by have:=row.at_ge e;omega),old.2 j hj,jaa e]
 .have Ke:¬ct (s+1)>0:=pB;have hL:jbm ct (s+1)=jbm ct s:=by simp only[jbm,zC pB,List.append_nil]
  refine Ga ?_;refine zcs rfl rfl rfl oP j4 ?_;rw[jh7 (i:=s+1) om om,jne];refine Ga ?_;refine ih (31-(s+1)) om _ _ ⟨s+1,v,rfl,by omega,by rw[aB],?_,?_,?_⟩
  .rw[hL];refine Row.keep row Zd fun z hz=>jaa ?_;have:=row.at_ge hz;have:=w.lw;omega
  .exact onx
  .intro j hj;by_cases e:j=rw
   .subst e;rw[jab,jab]
   .rw[jaa e,jaa e,old.2 j hj,jaa e]
end
noncomputable def fdsL(ws:Ws)(n:Nat):List Int:=((List.range n).filter fun i:Nat=>(atS ws (i:Int)).isSome).map fun i:Nat=>(i:Int)
theorem jgv(ws:Ws)(n:Nat):fdsL ws (n+1)=fdsL ws n++if (atS ws (n:Int)).isSome then [(n:Int)] else []:=by
 unfold fdsL;rw[List.range_succ,List.filter_append,List.map_append];congr 1;by_cases h:(atS ws (n:Int)).isSome<;>simp[h]
theorem jhE(ws:Ws)(n:Nat):(fdsL ws n).length<=n:=by
 unfold fdsL;rw[List.length_map];exact zA (List.length_filter_le _ _) Zd
section
variable{cl:Nat->Call}(Z:Sem cl)
include Z
theorem rq_Fds{d rw q:Nat}{h:H}{l:List RX}{tl:List V}(hd:2<=d)(w:RW h rw q l tl)(o:WsOk (l.map RX.x)) :
  ∃v h',cl d (.fn 63) [.p rw 0] h=some (v,h')/\Row h.nx h' 1 v (fdsL (l.map RX.x) 96).length (ints (fdsL (l.map RX.x) 96))/\Old h h':=by
 refine aT Z ?_;refine Ga ?_;refine Zq (fun m e g=>∃(n:Nat) (v:V),m=96-n/\n<=96/\e=[(0,.p rw 0),(3,v),(4,.i n)]/\Row h.nx g 1 v (fdsL (l.map RX.x) n).length (ints (fdsL (l.map RX.x) n))/\Old h g)
  (k:=96) Ze ⟨0,.nils,rfl,by omega,rfl,Row.nil _ _ _,Zz h⟩ ?_
 rintro _ _ g ⟨n,v,rfl,hn,rfl,row,old⟩ f ih;have wg:=w.old old;by_cases d4:n<=95
 case neg=>
  obtain rfl:n=96:=by omega
  have xB:¬((96:Nat):Int)<=95:=by omega
  refine Ga ?_;exact⟨row,old⟩
 have jC:((n+1:Nat):Int)=(n:Int)+1:=by omega
 rcases jdQ Z (d:=d-1) (fd:=(n:Int)) om wg o with⟨j5,ea⟩|⟨m,k,r,d7,hr,hk,ea⟩
 .have hs:fdsL (l.map RX.x) (n+1)=fdsL (l.map RX.x) n:=by rw[jgv,jfh j5];simp
  refine Ga ?_;exact ih (96-(n+1)) om _ _ ⟨n+1,v,rfl,by omega,by rw[jC],by rw[hs];exact row,old⟩
 .have hs:fdsL (l.map RX.x) (n+1)=fdsL (l.map RX.x) n++[(n:Int)]:=by rw[jgv,jdA o.uniq d7];rfl
  refine Ga ?_;refine Ops.push (N:=h.nx) (new:=[.i (n:Int)]) rfl rfl rfl rfl om rfl rfl row old.1 (by have:=jhE (l.map RX.x) n;omega) (by have:=jhE (l.map RX.x) n;omega) fun v' g' row' cB iA w6=>?_;refine Ga ?_;refine ih (96-(n+1)) om _ _ ⟨n+1,v',rfl,by omega,by rw[jC],?_,zA old.1 cB,fun j hj=>?_⟩
  .rw[hs,zg];simpa[ints] using row'
  .rw[w6 j (zr hj old.1) (fun e=>by have:=row.at_ge e;omega),old.2 j hj]
end
def WsOne(ws:Ws):Prop:= ∀(i j:Nat) (x y:Wi) (p q:Nat) (m:Int),ws[i]?=some x->ws[j]?=some y->x.waiting[p]?=some m->y.waiting[q]?=some m->i=j/\p=q
structure WsK(ws:Ws):Prop where
 ok:WsOk ws
 one:WsOne ws
def Wi.SubFd(x y:Wi):Prop:= ∀k,k=0\/k=1->(y.e k).what=1->(x.e k).what=1/\(y.e k).fd=(x.e k).fd
theorem Wi.SubFd.refl(x:Wi):x.SubFd x:=fun _ _ h=>⟨h,rfl⟩
theorem Wi.SubFd.trans{x y z:Wi}(a:x.SubFd y)(b:y.SubFd z):x.SubFd z:=fun k hk h=>⟨(a k hk (b k hk h).1).1,by rw[(b k hk h).2,(a k hk (b k hk h).1).2]⟩
theorem w_lt{ws:Ws}{n:Nat}{x:Wi}(hr:ws[n]?=some x):n<ws.length:=by
 rcases zx n ws.length with h|h
 .exact h
 .rw[zd h]at hr;cases hr
theorem jqn{ws:Ws}{n:Nat}(h:n<ws.length):∃x,ws[n]?=some x:=⟨_,za h⟩
theorem jex{ws:Ws}{n m:Nat}{y z:Wi}(h:(ws.set n y)[m]?=some z):(m=n/\z=y)\/(m≠n/\ws[m]?=some z):=by
 rw[zi]at h;by_cases e:n=m
 .rw[zD e]at h;by_cases hl:n<ws.length
  .rw[zD hl]at h;cases h;exact .inl ⟨e.symm,rfl⟩
  .rw[zC hl]at h;cases h
 .rw[zC e]at h;exact .inr ⟨fun h=>e h.symm,h⟩
theorem WsK.mild{ws ws':Ws}(K:WsK ws)(hl:ws'.length=ws.length)
  (h:∀(i:Nat) (z':Wi),ws'[i]?=some z' -> ∃z,ws[i]?=some z/\z.SubFd z'/\WiOk z'/\(∃c,z'.waiting=z.waiting.drop c)/\(z.e0.what=0->(∃(j:Nat) (u:Wi),ws'[j]?=some u/\(i:Int)∈u.waiting)->z'.e0.what=0)):WsK ws':=by
 refine⟨⟨?_,fun x hx=>?_,by rw[hl];exact K.ok.len,fun x hx=>?_⟩,?_⟩
 .have sub:∀n k fd,AtW ws' n k fd->AtW ws n k fd:=by
   rintro n k fd ⟨x,hx,hk,h1,h2⟩;obtain⟨z,e1,e2,_⟩:=h n x hx;exact⟨z,e1,hk,(e2 k hk h1).1,by rw[<- (e2 k hk h1).2,h2]⟩
  exact fun n k n' k' fd a b=>K.ok.uniq n k n' k' fd (sub _ _ _ a) (sub _ _ _ b)
 .obtain⟨i,hi⟩:=Zh.1 hx;obtain⟨z,_,_,e,_⟩:=h i x hi;exact e
 .obtain⟨i,hi⟩:=Zh.1 hx;obtain⟨z,e1,_,_,⟨c,e2⟩,_⟩:=h i x hi;obtain⟨p1,p2⟩:=K.ok.wait z (zc e1);refine⟨by rw[e2,List.length_drop];omega,fun m hm=>?_⟩;obtain⟨y,y0,y1,y2⟩:=p2 m (by rw[e2]at hm;exact List.mem_of_mem_drop hm);obtain⟨y',wJ⟩:=jqn (ws:=ws') (n:=m.toNat) (by rw[hl];exact w_lt y1);obtain⟨u,u1,_,_,_,u2⟩:=h _ _ wJ;rw[y1]at u1;cases u1;exact⟨y',y0,wJ,u2 y2 ⟨i,x,hi,by rw[Int.toNat_of_nonneg y0];exact hm⟩⟩
 .intro i j x y p q m hx hy hp hq;obtain⟨a,a1,_,_,⟨c,a2⟩,_⟩:=h i x hx;obtain⟨b,b1,_,_,⟨c',b2⟩,_⟩:=h j y hy;rw[a2,zm]at hp;rw[b2,zm]at hq;obtain⟨e1,e2⟩:=K.one i j a b (c+p) (c'+q) m a1 b1 hp hq;refine⟨e1,?_⟩;subst e1;rw[hx]at hy;cases hy;rw[a1]at b1;cases b1;have:=a2.symm.trans b2;have h1:=congrArg List.length this;rw[List.length_drop,List.length_drop]at h1;have h2:c+p<a.waiting.length:=by
   rcases zx (c+p) a.waiting.length with h|h
   .exact h
   .rw[zd h]at hp;cases hp
  omega
theorem WsK.set{ws:Ws}{n:Nat}{x y:Wi}(K:WsK ws)(hx:ws[n]?=some x)(hs:x.SubFd y)(m7:WiOk x->WiOk y)(hw:y.waiting=x.waiting)(h0:x.e0.what=0->y.e0.what=0):WsK (ws.set n y):=by
 refine K.mild Zd fun i z' hz=>?_;rcases jex hz with⟨rfl,rfl⟩|⟨_,hz⟩
 .exact⟨x,hx,hs,m7 (K.ok.ok x (zc hx)),⟨0,by rw[hw];rfl⟩,fun h _=>h0 h⟩
 .exact⟨z',hz,Wi.SubFd.refl _,K.ok.ok z' (zc hz),⟨0,rfl⟩,fun h _=>h⟩
theorem WsK.set_wait{ws:Ws}{n c:Nat}{x:Wi}(K:WsK ws)(hx:ws[n]?=some x):WsK (ws.set n {x with waiting:=x.waiting.drop c}):=by
 refine K.mild Zd fun i z' hz=>?_;rcases jex hz with⟨rfl,rfl⟩|⟨_,hz⟩
 .have:=K.ok.ok x (zc hx);exact⟨x,hx,Wi.SubFd.refl _,⟨this.cap0,this.cap1,this.len,this.pair,this.out,this.bl,this.wh⟩,⟨c,rfl⟩,fun h _=>h⟩
 .exact⟨z',hz,Wi.SubFd.refl _,K.ok.ok z' (zc hz),⟨0,rfl⟩,fun h _=>h⟩
theorem WiOk.of{x y:Wi}(a:WiOk x)(hc:y.cap=x.cap)(hw:∀k,k=0\/k=1->(y.e k).writes=(x.e k).writes)(hr:∀k,k=0\/k=1->((y.e k).ring=none↔(x.e k).ring=none))(hl:∀k,k=0\/k=1 -> ∀q,(y.e k).ring=some q->q.length<=x.cap)(ho:y.e1.what=2->x.e1.what=2)(hb:y.backlog=x.backlog:=by rfl)(hv:WhV x->WhV y:=by exact fun h=>h):WiOk y:=by
 refine⟨by rw[hc];exact a.cap0,by rw[hc];exact a.cap1,fun k hk q hq=>by rw[hc];exact hl k hk q hq,fun k hk=>?_,fun h2=>?_,by rw[hb];exact a.bl,hv a.wh⟩
 .rw[hw k hk,a.pair k hk,ne_eq,ne_eq];refine not_congr ?_;rcases hk with rfl|rfl
  .exact (hr 1 (.inr rfl)).symm
  .exact (hr 0 (.inl rfl)).symm
 .have:=a.out (ho h2);exact⟨fun e=>this.1 ((hr 0 (.inl rfl)).1 e),fun e=>this.2 ((hr 1 (.inr rfl)).1 e)⟩
theorem WiOk.nil{x:Wi}(a:WiOk x):∀k,k=0\/k=1 -> ∀q,(x.e k).ring=some q->q.length<=x.cap:=a.len
theorem jhd{x:Wi}{k:Nat}{i o:Bool}(hk:k=0\/k=1):x.SubFd (x.came k i o):=by
 intro j hj;rcases hk with rfl|rfl<;>rcases hj with rfl|rfl<;>exact fun h=>⟨h,rfl⟩
theorem jhc{x:Wi}{k:Nat}{i o:Bool}(hk:k=0\/k=1)(a:WiOk x):WiOk (x.came k i o):=by
 rcases hk with rfl|rfl
 .refine a.of rfl (fun j hj=>?_) (fun j hj=>?_) (fun j hj q hq=>?_) fun h=>h
  .rcases hj with rfl|rfl<;>rfl
  .rcases hj with rfl|rfl<;>exact Iff.rfl
  .rcases hj with rfl|rfl
   .exact a.len 0 Zd q hq
   .exact a.len 1 Zd q hq
 .refine a.of rfl (fun j hj=>?_) (fun j hj=>?_) (fun j hj q hq=>?_) fun h=>h
  .rcases hj with rfl|rfl<;>rfl
  .rcases hj with rfl|rfl<;>exact Iff.rfl
  .rcases hj with rfl|rfl
   .exact a.len 0 Zd q hq
   .exact a.len 1 Zd q hq
theorem jkv{x:Wi}{k:Nat}{i o:Bool}(hk:k=0\/k=1):(x.came k i o).e0.what=x.e0.what:=by rcases hk with rfl|rfl<;>rfl
theorem jku{x:Wi}{k:Nat}{i o:Bool}(hk:k=0\/k=1):(x.came k i o).waiting=x.waiting:=by rcases hk with rfl|rfl<;>rfl
theorem jjG{x:Wi}{k:Nat}{q:List UInt8}(hk:k=0\/k=1):x.SubFd (x.setq k q):=by
 intro j hj;rcases hk with rfl|rfl<;>rcases hj with rfl|rfl<;>exact fun h=>⟨h,rfl⟩
theorem jjF{x:Wi}{k:Nat}{q q':List UInt8}(hk:k=0\/k=1)(hq:(x.e k).ring=some q)(hl:q'.length<=x.cap)(a:WiOk x):WiOk (x.setq k q'):=by
 rcases hk with rfl|rfl
 .have hq:x.e0.ring=some q:=hq;refine a.of rfl (fun j hj=>?_) (fun j hj=>?_) (fun j hj q2 iD=>?_) fun h=>h
  .rcases hj with rfl|rfl<;>rfl
  .rcases hj with rfl|rfl
   .show (some q'=none)↔x.e0.ring=none;rw[hq];simp
   .exact Iff.rfl
  .rcases hj with rfl|rfl
   .have:some q'=some q2:=iD;cases this;exact hl
   .exact a.len 1 Zd q2 iD
 .have hq:x.e1.ring=some q:=hq;refine a.of rfl (fun j hj=>?_) (fun j hj=>?_) (fun j hj q2 iD=>?_) fun h=>h
  .rcases hj with rfl|rfl<;>rfl
  .rcases hj with rfl|rfl
   .exact Iff.rfl
   .show (some q'=none)↔x.e1.ring=none;rw[hq];simp
  .rcases hj with rfl|rfl
   .exact a.len 0 Zd q2 iD
   .have:some q'=some q2:=iD;cases this;exact hl
theorem jo1{x:Wi}{k:Nat}{q:List UInt8}(hk:k=0\/k=1):(x.setq k q).e0.what=x.e0.what:=by rcases hk with rfl|rfl<;>rfl
theorem jo0{x:Wi}{k:Nat}{q:List UInt8}(hk:k=0\/k=1):(x.setq k q).waiting=x.waiting:=by rcases hk with rfl|rfl<;>rfl
theorem jc6{k:Nat}(hk:k=0\/k=1):1-k=0\/1-k=1:=by omega
theorem WsK.take{ws:Ws}{n k m:Nat}{x:Wi}{q:List UInt8}(K:WsK ws)(hx:ws[n]?=some x)(hk:k=0\/k=1)(hq:(x.e k).ring=some q):WsK (ws.set n (x.take k m q)):=by
 have hl:=(K.ok.ok x (zc hx)).len k hk q hq;exact K.set hx ((jjG hk).trans (jhd (jc6 hk))) (fun a=>jhc (jc6 hk) (jjF hk hq (by rw[List.length_drop];omega) a)) (by unfold Wi.take;rw[jku (jc6 hk),jo0 hk]) (by unfold Wi.take;rw[jkv (jc6 hk),jo1 hk];exact id)
theorem WsK.fill{ws:Ws}{n k m:Nat}{x:Wi}{q b:List UInt8}(K:WsK ws)(hx:ws[n]?=some x)(hk:k=0\/k=1)(hq:(x.e (1-k)).ring=some q)(hm:m<=x.cap-q.length):WsK (ws.set n (x.fill k m q b)):=by
 have hl:=(K.ok.ok x (zc hx)).len (1-k) (jc6 hk) q hq;exact K.set hx ((jjG (jc6 hk)).trans (jhd (jc6 hk))) (fun a=>jhc (jc6 hk) (jjF (jc6 hk) hq (by rw[zg,List.length_take];omega) a)) (by unfold Wi.fill;rw[jku (jc6 hk),jo0 (jc6 hk)]) (by unfold Wi.fill;rw[jkv (jc6 hk),jo1 (jc6 hk)];exact id)
theorem WsK.doShut{ws:Ws}{n k:Nat}{x:Wi}(K:WsK ws)(hx:ws[n]?=some x)(hk:k=0\/k=1):WsK (ws.set n (x.doShut k)):=by
 have e:x.SubFd (x.doShut k)/\(WiOk x->WiOk (x.doShut k))/\(x.doShut k).waiting=x.waiting/\(x.e0.what=0->(x.doShut k).e0.what=0):=by
  unfold Wi.doShut;split
  .exact⟨Wi.SubFd.refl x,id,rfl,id⟩
  .have p:x.SubFd (x.put k {x.e k with shut:=true})/\(WiOk x->WiOk (x.put k {x.e k with shut:=true}))/\(x.put k {x.e k with shut:=true}).waiting=x.waiting/\(x.put k {x.e k with shut:=true}).e0.what=x.e0.what:=by
    rcases hk with rfl|rfl
    .refine⟨fun j hj=>by (rcases hj with rfl|rfl<;>exact fun h=>⟨h,rfl⟩),fun a=>⟨a.cap0,a.cap1,fun j hj=>?_,fun j hj=>?_,a.out,a.bl,a.wh⟩,rfl,rfl⟩
     .have:=a.len j hj;rcases hj with rfl|rfl<;>exact this
     .have:=a.pair j hj;rcases hj with rfl|rfl<;>exact this
    .refine⟨fun j hj=>by (rcases hj with rfl|rfl<;>exact fun h=>⟨h,rfl⟩),fun a=>⟨a.cap0,a.cap1,fun j hj=>?_,fun j hj=>?_,a.out,a.bl,a.wh⟩,rfl,rfl⟩
     .have:=a.len j hj;rcases hj with rfl|rfl<;>exact this
     .have:=a.pair j hj;rcases hj with rfl|rfl<;>exact this
   exact⟨p.1.trans (jhd (jc6 hk)),fun a=>jhc (jc6 hk) (p.2.1 a),by rw[jku (jc6 hk),p.2.2.1],fun h=>by rw[jkv (jc6 hk),p.2.2.2,h]⟩
 exact K.set hx e.1 e.2.1 e.2.2.1 e.2.2.2
theorem ji7{x:Wi}{k:Nat}(hk:k=0\/k=1):x.SubFd (x.close k)/\(WiOk x->WiOk (x.close k))/\(x.close k).waiting=x.waiting/\(x.e0.what=0->k=1->(x.close k).e0.what=0):=by
 have c1:x.SubFd (x.came (1-k) (!(x.e k).shut) true):=jhd (jc6 hk);have c2:WiOk x->WiOk (x.came (1-k) (!(x.e k).shut) true):=jhc (jc6 hk);have c3:(x.came (1-k) (!(x.e k).shut) true).waiting=x.waiting:=jku (jc6 hk);have c4:(x.came (1-k) (!(x.e k).shut) true).e0.what=x.e0.what:=jkv (jc6 hk);unfold Wi.close;generalize x.came (1-k) (!(x.e k).shut) true=y at c1 c2 c3 c4 ⊢;have p:y.SubFd (y.put k {y.e k with what:=3})/\(WiOk y->WiOk (y.put k {y.e k with what:=3}))/\(y.put k {y.e k with what:=3}).waiting=y.waiting/\(k=1->(y.put k {y.e k with what:=3}).e0.what=y.e0.what):=by
  rcases hk with rfl|rfl
  .refine⟨fun j hj=>?_,fun a=>⟨a.cap0,a.cap1,fun j hj=>?_,fun j hj=>?_,a.out,a.bl,⟨⟨by show (0:Int)<=3;omega,by show (3:Int)<=3;omega⟩,a.wh.2⟩⟩,rfl,fun e=>by cases e⟩
   .rcases hj with rfl|rfl
    .intro h;have h:(3:Int)=1:=h;omega
    .exact fun h=>⟨h,rfl⟩
   .have:=a.len j hj;rcases hj with rfl|rfl<;>exact this
   .have:=a.pair j hj;rcases hj with rfl|rfl<;>exact this
  .refine⟨fun j hj=>?_,fun a=>⟨a.cap0,a.cap1,fun j hj=>?_,fun j hj=>?_,fun h=>?_,a.bl,⟨a.wh.1,by show (0:Int)<=3;omega,by show (3:Int)<=3;omega⟩⟩,rfl,fun _=>rfl⟩
   .rcases hj with rfl|rfl
    .exact fun h=>⟨h,rfl⟩
    .intro h;have h:(3:Int)=1:=h;omega
   .have:=a.len j hj;rcases hj with rfl|rfl<;>exact this
   .have:=a.pair j hj;rcases hj with rfl|rfl<;>exact this
   .have h:(3:Int)=2:=h;omega
 exact⟨c1.trans p.1,fun a=>p.2.1 (c2 a),by rw[p.2.2.1,c3],fun h hk=>by rw[p.2.2.2 hk,c4,h]⟩
theorem jmm{vs:Ws}{m:Int}:(jdL vs m).length=vs.length/\∀(i:Nat) (z':Wi),(jdL vs m)[i]?=some z' -> ∃z,vs[i]?=some z/\z.SubFd z'/\(WiOk z->WiOk z')/\z'.waiting=z.waiting/\(m.toNat≠i->z'=z):=by
 unfold jdL;split
 .exact⟨rfl,fun i z' h=>⟨z',h,Wi.SubFd.refl _,id,rfl,fun _=>rfl⟩⟩
 .next x hx=>
  refine⟨by simp,fun i z' h=>?_⟩;rcases jex h with⟨rfl,rfl⟩|⟨d5,h⟩
  .have c:=ji7 (x:=x) (k:=0) (.inl rfl);exact⟨x,hx,c.1,c.2.1,c.2.2.1,fun h=>zJ rfl h⟩
  .exact⟨z',h,Wi.SubFd.refl _,id,rfl,fun _=>rfl⟩
theorem jho:∀(L:List Int) (vs:Ws),(jaG vs L).length=vs.length/\∀(i:Nat) (z':Wi),(jaG vs L)[i]?=some z' -> ∃z,vs[i]?=some z/\z.SubFd z'/\(WiOk z->WiOk z')/\z'.waiting=z.waiting/\((∀m∈L,m.toNat≠i)->z'=z)
 |[],vs=>⟨rfl,fun i z' h=>⟨z',h,Wi.SubFd.refl _,id,rfl,fun _=>rfl⟩⟩
 |m::L,vs=>by
  obtain⟨a1,a2⟩:=jho L (jdL vs m);obtain⟨b1,b2⟩:=jmm (vs:=vs) (m:=m);refine⟨by rw[jaG,a1,b1],fun i z' h=>?_⟩;obtain⟨y,h1,s1,o1,w1,n1⟩:=a2 i z' h;obtain⟨z,h2,s2,o2,w2,n2⟩:=b2 i y h1;refine⟨z,h2,s2.trans s1,fun a=>o1 (o2 a),by rw[w1,w2],fun hn=>?_⟩;rw[n1 fun m' kV=>hn m' (zl _ kV),n2 (hn m (zj ..))]
theorem WsK.close{ws:Ws}{n k:Nat}{x:Wi}(K:WsK ws)(hx:ws[n]?=some x)(hk:k=0\/k=1)(h1:(x.e k).what=1):WsK (noWait (jaG (ws.set n (x.close k)) x.waiting) n):=by
 obtain⟨a1,a2⟩:=jho x.waiting (ws.set n (x.close k));have c:=ji7 (x:=x) hk;have hn:=w_lt hx;obtain⟨u,hu⟩:=jqn (ws:=jaG (ws.set n (x.close k)) x.waiting) (n:=n) (by rw[a1];simpa using hn);have e:noWait (jaG (ws.set n (x.close k)) x.waiting) n=(jaG (ws.set n (x.close k)) x.waiting).set n {u with waiting:=[]}:= by
  unfold noWait;rw[hu]
 rw[e];refine K.mild (by rw[List.length_set,a1,List.length_set]) fun i z' hz=>?_;have back:∀(i:Nat) (z:Wi),(ws.set n (x.close k))[i]?=some z -> ∃y,ws[i]?=some y/\y.SubFd z/\(WiOk y->WiOk z)/\z.waiting=y.waiting/\(y.e0.what=0->z.e0.what=0):=by
  intro i z hz;rcases jex hz with⟨rfl,rfl⟩|⟨_,hz⟩
  .refine⟨x,hx,c.1,c.2.1,c.2.2.1,fun h=>c.2.2.2 h ?_⟩;rcases hk with rfl|rfl
   .have h1:x.e0.what=1:=h1;omega
   .rfl
  .exact⟨z,hz,Wi.SubFd.refl _,id,rfl,id⟩
 rcases jex hz with⟨rfl,rfl⟩|⟨d5,hz⟩
 .obtain⟨z,z1,z2,z3,z4,z5⟩:=a2 _ _ hu;obtain⟨y,y1,y2,y3,y4,y5⟩:=back _ _ z1;have yo:=z3 (y3 (K.ok.ok y (zc y1)));refine⟨y,y1,fun j hj h=>(y2.trans z2) j hj (by rcases hj with rfl|rfl<;>exact h) |>.imp id fun e=>by (rcases hj with rfl|rfl<;>exact e),⟨yo.cap0,yo.cap1,yo.len,yo.pair,yo.out,yo.bl,yo.wh⟩,⟨y.waiting.length,by simp⟩,?_⟩;rintro h0 ⟨j,v,hv,hm⟩;show u.e0.what=0;rw[z5 ?_]
  .exact y5 h0
  rintro m fE rfl;rcases jex hv with⟨rfl,rfl⟩|⟨hj,hv⟩
  .simp at hm
  .obtain⟨z',dM,_,_,lV,_⟩:=a2 _ _ hv;rcases jex dM with⟨rfl,_⟩|⟨_,dM⟩
   .exact hj rfl
   rw[lV]at hm;have m0:0<=m:=by obtain⟨y,y0,_⟩:=(K.ok.wait x (zc hx)).2 m fE;exact y0
   rw[Int.toNat_of_nonneg m0]at hm;obtain⟨p,hp⟩:=Zh.1 hm;obtain⟨q,hq⟩:=Zh.1 fE;exact hj (K.one j _ z' x p q m dM hx hp hq).1
 .obtain⟨z,z1,z2,z3,z4,z5⟩:=a2 _ _ hz;obtain⟨y,y1,y2,y3,y4,y5⟩:=back _ _ z1;refine⟨y,y1,y2.trans z2,z3 (y3 (K.ok.ok y (zc y1))),⟨0,by rw[z4,y4];rfl⟩,?_⟩;rintro h0 ⟨j,v,hv,hm⟩;rw[z5 ?_]
  .exact y5 h0
  rintro m fE rfl;rcases jex hv with⟨rfl,rfl⟩|⟨hj,hv⟩
  .simp at hm
  .obtain⟨z',dM,_,_,lV,_⟩:=a2 _ _ hv;rcases jex dM with⟨rfl,_⟩|⟨_,dM⟩
   .exact hj rfl
   rw[lV]at hm;have m0:0<=m:=by obtain⟨y,y0,_⟩:=(K.ok.wait x (zc hx)).2 m fE;exact y0
   rw[Int.toNat_of_nonneg m0]at hm;obtain⟨p,hp⟩:=Zh.1 hm;obtain⟨q,hq⟩:=Zh.1 fE;exact hj (K.one j n z' x p q m dM hx hp hq).1
theorem jpf{ws:Ws}{fd:Int}{n k:Nat}(h:atS ws fd=some (n,k)):AtW ws n k fd:=by
 unfold atS at h;split at h
 .next hx=>
  have:=hx.choose_spec;rw[Option.some.inj h]at this;exact this
 .cases h
theorem jpe{ws:Ws}{fd:Int}(h:atS ws fd=none):∀n k,¬AtW ws n k fd:=by
 intro n k a;unfold atS at h;rw[dif_pos ⟨(n,k),a⟩]at h;cases h
theorem jbu{α:Type}{P:α -> Prop}{ws:Ws}{fd:Int}{no:α}{f:Nat->Nat->Wi -> α}(j5:P no)(h:∀n k x,ws[n]?=some x->(k=0\/k=1)->(x.e k).what=1->P (f n k x)):P (jcd ws fd no f):=by
 unfold jcd;cases e:atS ws fd with
 |none=>exact j5
 |some p=>
  obtain⟨n,k⟩:=p;obtain⟨x,hx,hk,h1,_⟩:=jpf e;simp only[hx];exact h n k x hx hk h1
theorem jbz{α:Type}{P:α -> Prop}{ws:Ws}{n:Int}{no:α}{f:Nat->Wi -> α}(j5:P no)(h:∀n x,ws[n]?=some x->x.e1.what=2->P (f n x)):P (jdf ws n no f):=by
 unfold jdf;split
 .split
  .exact j5
  .next x hx=>
   split
   .next h2=>exact h _ _ hx h2
   .exact j5
 .exact j5
theorem readS_ok{ws:Ws}{fd many:Int}(K:WsK ws):WsK (jcv ws fd many).2:=by
 unfold jcv;refine jbu (P:=fun r:_×Ws=>WsK r.2) K fun n k x hx hk h1=>?_;split
 .exact K
 .next q hq=>
  repeat' split
  all_goals first|exact K|exact K.take hx hk hq
theorem writeS_ok{ws:Ws}{fd:Int}{b:List UInt8}(K:WsK ws):WsK (jbL ws fd b).2:=by
 unfold jbL;refine jbu (P:=fun r:_×Ws=>WsK r.2) K fun n k x hx hk h1=>?_;split
 .exact K
 split
 .exact K
 split
 .exact K
 split
 .exact K
 split
 .exact K
 .next q hq=>
  split
  .exact K.fill hx hk hq (zY _)
  .exact K.fill hx hk hq (Nat.min_le_right _ _)
theorem shutS_ok{ws:Ws}{fd:Int}(K:WsK ws):WsK (jeb ws fd).2:=by
 unfold jeb;refine jbu (P:=fun r:_×Ws=>WsK r.2) K fun n k x hx hk h1=>?_;split
 .exact K
 .exact K.doShut hx hk
theorem closeS_ok{ws:Ws}{fd:Int}(K:WsK ws):WsK (jc4 ws fd).2:=by
 unfold jc4;exact jbu (P:=fun r:_×Ws=>WsK r.2) K fun n k x hx hk h1=>K.close hx hk h1
theorem putS_ok{ws:Ws}{n:Int}{b:List UInt8}(K:WsK ws):WsK (putS ws n b).2:=by
 unfold putS;refine jbz (P:=fun r:_×Ws=>WsK r.2) K fun n x hx h2=>?_;split
 .exact K
 split
 .exact K
 split
 .exact K
 .next q hq=>exact K.fill hx (.inr rfl) hq (Nat.min_le_right _ _)
theorem takeS_ok{ws:Ws}{n many:Int}(K:WsK ws):WsK (jct ws n many).2:=by
 unfold jct;refine jbz (P:=fun r:_×Ws=>WsK r.2) K fun n x hx h2=>?_;split
 .exact K
 split
 .exact K
 split
 .exact K
 .next q hq=>exact K.take hx (.inr rfl) hq
theorem jkX{ws:Ws}{n:Int}(K:WsK ws):WsK (jaB ws n).2:=
 jbz (P:=fun r:_×Ws=>WsK r.2) K fun _ _ hx _=>K.doShut hx (.inr rfl)
theorem jjU{ws:Ws}{n:Int}(K:WsK ws):WsK (ja2 ws n).2:=
 jbz (P:=fun r:_×Ws=>WsK r.2) K fun _ _ hx _=>
  have c:=ji7 (k:=1) (.inr rfl)
  K.set hx c.1 c.2.1 c.2.2.1 fun h=>c.2.2.2 h rfl
theorem resetS_ok{ws:Ws}{n:Int}(K:WsK ws):WsK (jch ws n).2:=by
 unfold jch;refine jbz (P:=fun r:_×Ws=>WsK r.2) K fun n x hx h2=>?_;have o:=K.ok.ok x (zc hx);obtain⟨q0,q1⟩:=o.out h2;obtain⟨a,ha⟩:∃a,x.e0.ring=some a:=zK.1 q0;obtain⟨b,hb⟩:∃b,x.e1.ring=some b:=zK.1 q1;have e:x.SubFd x.doReset/\(WiOk x->WiOk x.doReset)/\x.doReset.waiting=x.waiting/\x.doReset.e0.what=x.e0.what:=by
  unfold Wi.doReset;split
  .exact⟨Wi.SubFd.refl x,id,rfl,rfl⟩
  .have z0:(0:Nat)=0\/(0:Nat)=1:= .inl rfl;have z1:(1:Nat)=0\/(1:Nat)=1:= .inr rfl;have p0:x.SubFd {x with reset:=true}/\(WiOk x->WiOk {x with reset:=true}):=by
    refine⟨fun j hj=>by (rcases hj with rfl|rfl<;>exact fun h=>⟨h,rfl⟩),fun a=>⟨a.cap0,a.cap1,fun j hj=>?_,fun j hj=>?_,a.out,a.bl,a.wh⟩⟩
    .have:=a.len j hj;rcases hj with rfl|rfl<;>exact this
    .have:=a.pair j hj;rcases hj with rfl|rfl<;>exact this
   refine⟨(((p0.1.trans (jjG z0)).trans (jhd z0)).trans (jjG z1)).trans (jhd z1),fun o=>jhc z1 (jjF (q:=b) z1 hb (zY _) (jhc z0 (jjF (q:=a) z0 ha (zY _) (p0.2 o)))),rfl,rfl⟩
 exact K.set hx e.1 e.2.1 e.2.2.1 fun h=>by rw[e.2.2.2,h]
theorem jep{ws:Ws}{x:Wi}{n k:Nat}{fd:Int}(h:AtW (ws++[x]) n k fd):AtW ws n k fd\/(n=ws.length/\(k=0\/k=1)/\(x.e k).what=1/\(x.e k).fd=fd):=by
 obtain⟨y,hy,hk,h1,h2⟩:=h;rcases zx n ws.length with hl|hl
 .rw[ze,zD hl]at hy;exact .inl ⟨y,hy,hk,h1,h2⟩
 .rw[ze,zC om]at hy;have:n-ws.length=0:=by
   rcases Nat.eq_zero_or_pos (n-ws.length) with e|e
   .exact e
   .rw[zd (show 1<=_ from e)]at hy;cases hy
  rw[this]at hy;cases hy;exact .inr ⟨by omega,hk,h1,h2⟩
theorem jjS{ws:Ws}{x y:Wi}{n:Nat}(h:(ws++[x])[n]?=some y):ws[n]?=some y\/(n=ws.length/\y=x):=by
 rcases zx n ws.length with hl|hl
 .rw[ze,zD hl]at h;exact .inl h
 .rw[ze,zC om]at h;have:n-ws.length=0:=by
   rcases Nat.eq_zero_or_pos (n-ws.length) with e|e
   .exact e
   .rw[zd (show 1<=_ from e)]at h;cases h
  rw[this]at h;cases h;exact .inr ⟨by omega,rfl⟩
theorem jeY{ws:Ws}{x y:Wi}{n:Nat}(h:ws[n]?=some y):(ws++[x])[n]?=some y:=by rw[ze,zD (w_lt h),h]
theorem push_uniq{ws:Ws}{x:Wi}(u:Uniq ws)(hf:∀k,k=0\/k=1->(x.e k).what=1 -> ∀n j,¬AtW ws n j (x.e k).fd)(h2:x.e0.what=1->x.e1.what=1->x.e0.fd≠x.e1.fd):Uniq (ws++[x]):=by
 intro n k n' k' fd a b;rcases jep a with a|⟨rfl,hk,w1,f1⟩
 .rcases jep b with b|⟨rfl,w6,w1,f1⟩
  .exact u _ _ _ _ _ a b
  .exact zJ (by rw[f1];exact a) (hf k' w6 w1 n k)
 .rcases jep b with b|⟨rfl,w6,w2,f2⟩
  .exact zJ (by rw[f1];exact b) (hf k hk w1 n' k')
  .refine⟨rfl,?_⟩;rcases hk with rfl|rfl<;>rcases w6 with rfl|rfl
   .rfl
   .exact zJ (f1.trans f2.symm) (h2 w1 w2)
   .exact zJ (f2.trans f1.symm) (h2 w2 w1)
   .rfl
theorem WsK.push{ws:Ws}{x:Wi}(K:WsK ws)(ox:WiOk x)(hw:x.waiting=[])(hl:ws.length<1000)(hf:∀k,k=0\/k=1->(x.e k).what=1 -> ∀n j,¬AtW ws n j (x.e k).fd)(h2:x.e0.what=1->x.e1.what=1->x.e0.fd≠x.e1.fd):WsK (ws++[x]):=by
 refine⟨⟨push_uniq K.ok.uniq hf h2,fun y hy=>?_,by rw[zg];show ws.length+1<=1000;omega,fun y hy=>?_⟩,?_⟩
 .rcases zO.1 hy with h|h
  .exact K.ok.ok y h
  .obtain rfl:y=x:=by simpa using h
   exact ox
 .rcases zO.1 hy with h|h
  .obtain⟨p1,p2⟩:=K.ok.wait y h;refine⟨p1,fun m hm=>?_⟩;obtain⟨z,z0,z1,z2⟩:=p2 m hm;exact⟨z,z0,jeY z1,z2⟩
  .obtain rfl:y=x:=by simpa using h
   rw[hw];simp
 .intro i j a b p q m ha hb hp hq;rcases jjS ha with ha|⟨rfl,rfl⟩
  .rcases jjS hb with hb|⟨rfl,rfl⟩
   .exact K.one i j a b p q m ha hb hp hq
   .rw[hw]at hq;simp at hq
  .rw[hw]at hp;simp at hp
theorem jeI{ws:Ws}{n:Nat}{f:Int}(h:f∈jav ws n):∃i:Nat,f=i/\i<n/\atS ws f=none:=by
 unfold jav at h;obtain⟨i,hi,rfl⟩:=List.mem_map.1 h;obtain⟨p1,p2⟩:=List.mem_filter.1 hi;refine⟨i,rfl,by simpa using p1,?_⟩;simpa using p2
theorem ji0(ws:Ws)(n:Nat):(jav ws n).Nodup:=by
 unfold jav;exact (List.Pairwise.filter _ List.nodup_range).map _ fun a b (h:a≠b)=>by show (a:Int)≠(b:Int);omega
theorem jeh{ws:Ws}{kind n:Int}(hk:kind=0\/kind=1\/kind=2\/kind=3)(K:WsK ws):WsK (jag ws kind n).2:=by
 unfold jag;split
 .exact K
 next hb=>
 split
 .exact K
 next f0 fs hF=>
 split
 .exact K
 next bB=>
 have hn:1<=n/\n<=65536:=by omega
 have t8:1<=n.toNat/\n.toNat<=65536:=by omega
 obtain⟨i0,e0,_,a0⟩:=jeI (ws:=ws) (n:=96) (f:=f0) (by rw[hF];simp);have n0:=jpe a0;have nd:=ji0 ws 96;rw[hF]at nd;have h1:kind<2 -> ∃f1,fs.headD 0=f1/\f0≠f1/\∀n k,¬AtW ws n k f1:=by
  intro h;cases fs with
  |nil=>exact zJ (.inl ⟨rfl,h⟩) bB
  |cons f1 r=>
   obtain⟨i1,e1,_,a1⟩:=jeI (ws:=ws) (n:=96) (f:=f1) (by rw[hF];simp);refine⟨f1,rfl,fun e=>?_,jpe a1⟩;subst e;exact zJ nd Zd
 have j4:ws.length<1000:=by omega
 have gS:∀{x:Wi},x.e0.fd=f0->(x.e1.what=1->x.e1.fd=fs.headD 0/\kind<2) -> ∀k,k=0\/k=1->(x.e k).what=1 -> ∀n j,¬AtW ws n j (x.e k).fd:=by
  intro x p0 p1 k hk h;rcases hk with rfl|rfl
  .show ∀n j,¬AtW ws n j x.e0.fd;rw[p0];exact n0
  .obtain⟨q1,q2⟩:=p1 h;obtain⟨f1,r1,_,r2⟩:=h1 q2;show ∀n j,¬AtW ws n j x.e1.fd;rw[q1,r1];exact r2
 have mk:∀(x:Wi),(∀k,k=0\/k=1 -> ∀q,(x.e k).ring=some q->q=[])->x.cap=n.toNat->(∀k,k=0\/k=1->((x.e k).writes=true↔(x.e (1-k)).ring≠none))->(x.e1.what=2->x.e0.ring≠none/\x.e1.ring≠none)->0<=x.backlog/\x.backlog<=64->WhV x->WiOk x:=by
  intro x p1 p2 p3 p4 p5 p6;exact⟨by rw[p2];exact t8.1,by rw[p2];exact t8.2,fun k hk q hq=>by rw[p1 k hk q hq];exact zY _,p3,p4,p5,p6⟩
 rcases hk with rfl|rfl|rfl|rfl
 .have e:newW 0 n f0 (fs.headD 0)=⟨⟨1,f0,some [],false,false,0,0⟩,⟨1,fs.headD 0,none,true,false,0,0⟩,n.toNat,false,0,[]⟩:=rfl;refine K.push (mk _ (fun k hk q hq=>?_) rfl (fun k hk=>?_) (fun h=>?_) ?_ ⟨⟨zI rfl,zI rfl⟩,zI rfl,zI rfl⟩) rfl j4 (gS rfl fun _=>⟨rfl,by omega⟩) fun _ _=>?_
  .rcases hk with rfl|rfl
   .have:some []=some q:=hq;cases this;rfl
   .have:none=some q:=hq;cases this
  .rcases hk with rfl|rfl
   .show (false=true↔(none:Option (List UInt8))≠none);simp
   .show (true=true↔some ([]:List UInt8)≠none);simp
  .have h:(1:Int)=2:=h;omega
  .show (0:Int)<=0/\(0:Int)<=64;omega
  .obtain⟨f1,r1,r0,_⟩:=h1 om;show f0≠fs.headD 0;rw[r1];exact r0
 .refine K.push (mk _ (fun k hk q hq=>?_) rfl (fun k hk=>?_) (fun h=>?_) ?_ ⟨⟨zI rfl,zI rfl⟩,zI rfl,zI rfl⟩) rfl j4 (gS rfl fun _=>⟨rfl,by omega⟩) fun _ _=>?_
  .rcases hk with rfl|rfl
   .have:some []=some q:=hq;cases this;rfl
   .have:some []=some q:=hq;cases this;rfl
  .rcases hk with rfl|rfl
   .show (true=true↔some ([]:List UInt8)≠none);simp
   .show (true=true↔some ([]:List UInt8)≠none);simp
  .have h:(1:Int)=2:=h;omega
  .show (0:Int)<=0/\(0:Int)<=64;omega
  .obtain⟨f1,r1,r0,_⟩:=h1 om;show f0≠fs.headD 0;rw[r1];exact r0
 .refine K.push (mk _ (fun k hk q hq=>?_) rfl (fun k hk=>?_) (fun h=>?_) ?_ ⟨⟨zI rfl,zI rfl⟩,zI rfl,zI rfl⟩) rfl j4 (gS rfl fun h=>?_) fun _ h=>?_
  .rcases hk with rfl|rfl
   .have:some []=some q:=hq;cases this;rfl
   .have:some []=some q:=hq;cases this;rfl
  .rcases hk with rfl|rfl
   .show (true=true↔some ([]:List UInt8)≠none);simp
   .show (true=true↔some ([]:List UInt8)≠none);simp
  .exact⟨by show some []≠none;simp,by show some []≠none;simp⟩
  .show (0:Int)<=0/\(0:Int)<=64;omega
  .have h:(2:Int)=1:=h;omega
  .have h:(2:Int)=1:=h;omega
 .refine K.push (mk _ (fun k hk q hq=>?_) rfl (fun k hk=>?_) (fun h=>?_) ?_ ⟨⟨zI rfl,zI rfl⟩,zI rfl,zI rfl⟩) rfl j4 (gS rfl fun h=>?_) fun _ h=>?_
  .rcases hk with rfl|rfl
   .have:none=some q:=hq;cases this
   .have:none=some q:=hq;cases this
  .rcases hk with rfl|rfl
   .show (false=true↔(none:Option (List UInt8))≠none);simp
   .show (false=true↔(none:Option (List UInt8))≠none);simp
  .have h:(0:Int)=2:=h;omega
  .show 0<=n/\n<=64;omega
  .have h:(0:Int)=1:=h;omega
  .have h:(0:Int)=1:=h;omega
theorem jgz{ws:Ws}{m n k:Nat}{f fd:Int}{y:Wi}(hy:ws[m]?=some y)(h:AtW (ws.set m (y.put 0 {y.e 0 with what:=1,fd:=f})) n k fd):(n=m/\k=0/\fd=f)\/(AtW ws n k fd/\(n=m->k=1)):=by
 obtain⟨x,hx,hk,h1,h2⟩:=h;rcases jex hx with⟨rfl,rfl⟩|⟨d5,hx⟩
 .rcases hk with rfl|rfl
  .exact .inl ⟨rfl,rfl,h2.symm⟩
  .exact .inr ⟨⟨y,hy,.inr rfl,h1,h2⟩,fun _=>rfl⟩
 .exact .inr ⟨⟨x,hx,hk,h1,h2⟩,fun e=>zJ e d5⟩
theorem WsK.seat{ws:Ws}{m:Nat}{f:Int}{y:Wi}(K:WsK ws)(hy:ws[m]?=some y)(hf:∀n k,¬AtW ws n k f)(hw:∀(j:Nat) (u:Wi),ws[j]?=some u->(m:Int) ∉ u.waiting):WsK (ws.set m (y.put 0 {y.e 0 with what:=1,fd:=f})):=by
 have key:∀(i:Nat) (z':Wi),(ws.set m (y.put 0 {y.e 0 with what:=1,fd:=f}))[i]?=some z' -> ∃z,ws[i]?=some z/\z'.waiting=z.waiting/\WiOk z'/\(i≠m->z'=z):=by
  intro i z' hz;rcases jex hz with⟨rfl,rfl⟩|⟨d5,hz⟩
  .have a:=K.ok.ok y (zc hy);refine⟨y,hy,rfl,⟨a.cap0,a.cap1,fun j hj=>?_,fun j hj=>?_,a.out,a.bl,⟨by show (0:Int)<=1;omega,by show (1:Int)<=3;omega⟩,a.wh.2⟩,fun h=>zJ rfl h⟩
   .have:=a.len j hj;rcases hj with rfl|rfl<;>exact this
   .have:=a.pair j hj;rcases hj with rfl|rfl<;>exact this
  .exact⟨z',hz,rfl,K.ok.ok z' (zc hz),fun _=>rfl⟩
 refine⟨⟨?_,fun x hx=>?_,by rw[List.length_set];exact K.ok.len,fun x hx=>?_⟩,?_⟩
 .intro n k n' k' fd a b;rcases jgz hy a with⟨h1,h2,h3⟩|⟨a2,_⟩
  .rcases jgz hy b with⟨h4,h5,_⟩|⟨b2,_⟩
   .exact⟨h1.trans h4.symm,h2.trans h5.symm⟩
   .rw[h3]at b2;exact zJ b2 (hf _ _)
  .rcases jgz hy b with⟨_,_,h3⟩|⟨b2,_⟩
   .rw[h3]at a2;exact zJ a2 (hf _ _)
   .exact K.ok.uniq _ _ _ _ _ a2 b2
 .obtain⟨i,hi⟩:=Zh.1 hx;obtain⟨_,_,_,h,_⟩:=key i x hi;exact h
 .obtain⟨i,hi⟩:=Zh.1 hx;obtain⟨z,z1,z2,_,_⟩:=key i x hi;rw[z2];obtain⟨p1,p2⟩:=K.ok.wait z (zc z1);refine⟨p1,fun q hq=>?_⟩;obtain⟨u,u0,u1,u2⟩:=p2 q hq;have d5:m≠q.toNat:=by
   rintro rfl;refine hw i z z1 ?_;rw[Int.toNat_of_nonneg u0];exact hq
  exact⟨u,u0,by rw[zi,zC d5,u1],u2⟩
 .intro i j a b p q v ha hb hp hq;obtain⟨a',a1,a2,_⟩:=key i a ha;obtain⟨b',b1,b2,_⟩:=key j b hb;rw[a2]at hp;rw[b2]at hq;exact K.one i j a' b' p q v a1 b1 hp hq
theorem jhG{ws:Ws}{n m k:Nat}{fd:Int}{x:Wi}{wt:List Int}(hx:ws[n]?=some x):AtW (ws.set n {x with waiting:=wt}) m k fd↔AtW ws m k fd:=by
 constructor
 .rintro⟨y,hy,hk,h1,h2⟩;rcases jex hy with⟨rfl,rfl⟩|⟨_,hy⟩
  .exact⟨x,hx,hk,by rcases hk with rfl|rfl<;>exact h1,by rcases hk with rfl|rfl<;>exact h2⟩
  .exact⟨y,hy,hk,h1,h2⟩
 .rintro⟨y,hy,hk,h1,h2⟩;by_cases e:m=n
  .subst e;rw[hx]at hy;cases hy;exact⟨_,by rw[zi,zD rfl,zD (w_lt hx)],hk,by rcases hk with rfl|rfl<;>exact h1,by rcases hk with rfl|rfl<;>exact h2⟩
  .exact⟨y,by rw[zi,zC (fun h=>e h.symm),hy],hk,h1,h2⟩
theorem jjx{ws:Ws}{fd:Int}(K:WsK ws):WsK (jay ws fd).2:=by
 unfold jay;refine jbu (P:=fun r:_×Ws=>WsK r.2) K fun n k x hx hk h1=>?_;split
 .exact K
 split
 .exact K
 next m rest hw=>
 split
 .exact K
 next f fs hF=>
 split
 .exact K
 next y hy=>
 have e:({x with waiting:=rest}:Wi) = {x with waiting:=x.waiting.drop 1}:= by rw[hw];rfl
 have K1:=K.set_wait (c:=1) hx;rw[<- e]at K1;obtain⟨i,_,_,hf⟩:=jeI (ws:=ws) (n:=96) (f:=f) (by rw[hF];simp);have nf:=jpe hf;refine K1.seat hy (fun a b h=>nf a b ((jhG hx).1 h)) fun j u hu hm=>?_;have m0:0<=m:=by
  obtain⟨z,z0,_⟩:=(K.ok.wait x (zc hx)).2 m (by rw[hw];simp);exact z0
 rw[Int.toNat_of_nonneg m0]at hm;obtain⟨q,hq⟩:=Zh.1 hm;rcases jex hu with⟨rfl,rfl⟩|⟨d5,hu⟩
 .have:=(K.one j j x x 0 (q+1) m hx hx (by rw[hw];rfl) (by rw[hw];exact hq)).2;omega
 .exact d5 (K.one j n u x q 0 m hu hx hq (by rw[hw];rfl)).1
theorem WsK.waits{ws:Ws}{n:Nat}{x y y2:Wi}{m:Int}(K:WsK ws)(hx:ws[n]?=some x)(hs:x.SubFd y)(m7:WiOk y)(hw:y.waiting=x.waiting++[m])(Qj:x.waiting.length<64)(h0:x.e0.what=0->y.e0.what=0)
  (m0:0<=m) (hm:ws[m.toNat]?=some y2) (fE:y2.e0.what=0) (j5:∀(j:Nat) (u:Wi),ws[j]?=some u->m ∉ u.waiting):WsK (ws.set n y):=by
 have old:∀(p:Nat) (v:Int),y.waiting[p]?=some v->(x.waiting[p]?=some v)\/(v=m/\p=x.waiting.length):=by
  intro p v h;rw[hw]at h;rcases zx p x.waiting.length with hl|hl
  .rw[ze,zD hl]at h;exact .inl h
  .rw[ze,zC om]at h;have:p-x.waiting.length=0:=by
    rcases Nat.eq_zero_or_pos (p-x.waiting.length) with e|e
    .exact e
    .rw[zd (show 1<=_ from e)]at h;cases h
   rw[this]at h;cases h;exact .inr ⟨rfl,by omega⟩
 have tgt:∀(v:Int) (u:Wi),0<=v->ws[v.toNat]?=some u->u.e0.what=0 -> ∃u':Wi,0<=v/\(ws.set n y)[v.toNat]?=some u'/\u'.e0.what=0:=by
  intro v u v0 hu vM;by_cases e:n=v.toNat
  .rw[<- e,hx]at hu;cases hu;exact⟨y,v0,by rw[zi,zD e,zD (w_lt hx)],h0 vM⟩
  .exact⟨u,v0,by rw[zi,zC e,hu],vM⟩
 refine⟨⟨?_,fun z hz=>?_,by rw[List.length_set];exact K.ok.len,fun z hz=>?_⟩,?_⟩
 .have sub:∀i k fd,AtW (ws.set n y) i k fd->AtW ws i k fd:=by
   rintro i k fd ⟨z,hz,hk,h1,h2⟩;rcases jex hz with⟨rfl,rfl⟩|⟨_,hz⟩
   .exact⟨x,hx,hk,(hs k hk h1).1,by rw[<- (hs k hk h1).2,h2]⟩
   .exact⟨z,hz,hk,h1,h2⟩
  exact fun a k b k' fd p q=>K.ok.uniq a k b k' fd (sub _ _ _ p) (sub _ _ _ q)
 .rcases List.mem_or_eq_of_mem_set hz with h|rfl
  .exact K.ok.ok z h
  .exact m7
 .rcases List.mem_or_eq_of_mem_set hz with h|rfl
  .obtain⟨p1,p2⟩:=K.ok.wait z h;refine⟨p1,fun v hv=>?_⟩;obtain⟨u,u0,u1,u2⟩:=p2 v hv;exact tgt v u u0 u1 u2
  .obtain⟨p1,p2⟩:=K.ok.wait x (zc hx);rw[hw];refine⟨by rw[zg];show _+1<=64;omega,fun v hv=>?_⟩;rcases zO.1 hv with h|h
   .obtain⟨u,u0,u1,u2⟩:=p2 v h;exact tgt v u u0 u1 u2
   .obtain rfl:v=m:=by simpa using h
    exact tgt v y2 m0 hm fE
 .intro i j a b p q v ha hb hp hq;rcases jex ha with⟨rfl,rfl⟩|⟨hi,mV⟩
  .rcases jex hb with⟨rfl,rfl⟩|⟨hj,dB⟩
   .refine⟨rfl,?_⟩;rcases old p v hp with h1|⟨rfl,h1⟩
    .rcases old q v hq with h2|⟨rfl,h2⟩
     .exact (K.one j j x x p q v hx hx h1 h2).2
     .exact zJ (zc h1) (j5 j x hx)
    .rcases old q v hq with h2|⟨_,h2⟩
     .exact zJ (zc h2) (j5 j x hx)
     .omega
   .rcases old p v hp with h1|⟨rfl,h1⟩
    .exact K.one _ j x b p q v hx dB h1 hq
    .exact zJ (zc hq) (j5 j b dB)
  .rcases jex hb with⟨rfl,rfl⟩|⟨hj,dB⟩
   .rcases old q v hq with h1|⟨rfl,h1⟩
    .exact K.one i _ a x p q v mV hx hp h1
    .exact zJ (zc hp) (j5 i a mV)
   .exact K.one i j a b p q v mV dB hp hq
theorem jma{many:Int}(h1:1<=many)(h2:many<=65536):WiOk (jbk many):=by
 refine⟨by show 1<=many.toNat;omega,by show many.toNat<=65536;omega,fun k hk q hq=>?_,fun k hk=>?_,fun _=>⟨by show some []≠none;simp,by show some []≠none;simp⟩,by show (0:Int)<=0/\(0:Int)<=64;omega,⟨zI rfl,zI rfl⟩,zI rfl,zI rfl⟩
 .rcases hk with rfl|rfl
  .have:some []=some q:=hq;cases this;exact zY _
  .have:some []=some q:=hq;cases this;exact zY _
 .rcases hk with rfl|rfl
  .show (true=true↔some ([]:List UInt8)≠none);simp
  .show (true=true↔some ([]:List UInt8)≠none);simp
theorem ji5{ws:Ws}{n many:Int}(K:WsK ws):WsK (jar ws n many).2:=by
 unfold jar;split
 .exact K
 split
 .exact K
 next x hx=>
 split
 .exact K
 split
 .exact K
 next hm=>
 split
 .exact K
 next iE=>
 split
 .exact K
 next j4=>
 have a:=K.ok.ok x (zc hx);have K2:WsK (ws++[jbk many]):=by
  refine K.push (jma om om) rfl om (fun k hk h=>?_) fun h=>?_
  .rcases hk with rfl|rfl
   .have h:(0:Int)=1:=h;omega
   .have h:(2:Int)=1:=h;omega
  .have h:(0:Int)=1:=h;omega
 have hn:=w_lt hx;have vR:(ws++[jbk many])[((ws.length:Nat):Int).toNat]?=some (jbk many):=by simp
 have K3:=K2.waits (n:=n.toNat) (x:=x) (y:= {x with waiting:=x.waiting++[(ws.length:Int)],e0:= {x.e0 with inn:=upu x.e0.inn}}) (y2:=jbk many) (m:=(ws.length:Int)) (jeY hx)
  (fun j hj=>by rcases hj with rfl|rfl<;>exact fun h=>⟨h,rfl⟩) ⟨a.cap0,a.cap1,fun j hj=>by have:=a.len j hj;(rcases hj with rfl|rfl<;>exact this),fun j hj=>by have:=a.pair j hj;(rcases hj with rfl|rfl<;>exact this),a.out,a.bl,a.wh⟩ rfl
  (by have:=a.bl;omega) (fun h=>h) om vR rfl fun j u hu sI=>by
   rcases jjS hu with hu|⟨_,rfl⟩
   .obtain⟨z,z0,z1,_⟩:=(K.ok.wait u (zc hu)).2 _ sI;have:=w_lt z1;simp at this
   .have:(ws.length:Int)∈([]:List Int):=sI;simp at this
 rw[List.set_append_left _ _ hn]at K3;exact K3
def Wi.RK(x y:Wi):Prop:= ∀k,k=0\/k=1->(x.e k).ring≠none->(y.e k).ring≠none
theorem Wi.RK.refl(x:Wi):x.RK x:=fun _ _ h=>h
theorem Wi.RK.trans{x y z:Wi}(a:x.RK y)(b:y.RK z):x.RK z:=fun k hk h=>b k hk (a k hk h)
def WsR(ws ws':Ws):Prop:= ∀(n:Nat) (x:Wi),ws[n]?=some x -> ∃y,ws'[n]?=some y/\x.RK y
theorem WsR.refl(ws:Ws):WsR ws ws:=fun _ x h=>⟨x,h,Wi.RK.refl x⟩
theorem WsR.trans{a b c:Ws}(x:WsR a b)(y:WsR b c):WsR a c:=fun n u hu=>by
 obtain⟨v,hv,h1⟩:=x n u hu;obtain⟨w,hw,h2⟩:=y n v hv;exact⟨w,hw,h1.trans h2⟩
theorem WsR.set{ws:Ws}{n:Nat}{x y:Wi}(hx:ws[n]?=some x)(h:x.RK y):WsR ws (ws.set n y):=fun m u hu=>by
 by_cases e:n=m
 .subst e;rw[hx]at hu;cases hu;exact⟨y,by rw[zi,zD rfl,zD (w_lt hx)],h⟩
 .exact⟨u,by rw[zi,zC e,hu],Wi.RK.refl u⟩
theorem WsR.push{ws:Ws}{x:Wi}:WsR ws (ws++[x]):=fun _ u hu=>⟨u,jeY hu,Wi.RK.refl u⟩
theorem NtOk.keep{ws ws':Ws}{no si:Int}(a:NtOk ws no si)(r:WsR ws ws'):NtOk ws' no si:=by
 rcases a with a|⟨n,k,x,h1,h2,h3,h4,h5,h6⟩
 .exact .inl a
 .obtain⟨y,hy,rk⟩:=r n x h4;exact .inr ⟨n,k,y,h1,h2,h3,hy,rk 0 (.inl rfl) h5,rk 1 (.inr rfl) h6⟩
theorem jhb{x:Wi}{k:Nat}{i o:Bool}(hk:k=0\/k=1):x.RK (x.came k i o):=by
 intro j hj;rcases hk with rfl|rfl<;>rcases hj with rfl|rfl<;>exact fun h=>h
theorem jjE{x:Wi}{k:Nat}{q:List UInt8}(hk:k=0\/k=1):x.RK (x.setq k q):=by
 intro j hj;rcases hk with rfl|rfl<;>rcases hj with rfl|rfl
 .intro _;show some q≠none;simp
 .exact fun h=>h
 .exact fun h=>h
 .intro _;show some q≠none;simp
theorem jlF{x:Wi}{k m:Nat}{q:List UInt8}(hk:k=0\/k=1):x.RK (x.take k m q):=(jjE hk).trans (jhb (jc6 hk))
theorem jmj{x:Wi}{k m:Nat}{q b:List UInt8}(hk:k=0\/k=1):x.RK (x.fill k m q b):=(jjE (jc6 hk)).trans (jhb (jc6 hk))
theorem joI{x:Wi}{k:Nat}{e:En}(hk:k=0\/k=1)(h:e.ring=(x.e k).ring):x.RK (x.put k e):=by
 intro j hj;rcases hk with rfl|rfl<;>rcases hj with rfl|rfl
 .intro h1;show e.ring≠none;rw[h];exact h1
 .exact fun h=>h
 .exact fun h=>h
 .intro h1;show e.ring≠none;rw[h];exact h1
theorem joy{x:Wi}{k:Nat}(hk:k=0\/k=1):x.RK (x.doShut k):=by
 unfold Wi.doShut;split
 .exact Wi.RK.refl x
 .exact (joI (e:= {x.e k with shut:=true}) hk rfl).trans (jhb (jc6 hk))
theorem jkt{x:Wi}{k:Nat}(hk:k=0\/k=1):x.RK (x.close k):=by
 unfold Wi.close;exact (jhb (jc6 hk)).trans (joI hk rfl)
theorem reset_rk{x:Wi}:x.RK x.doReset:=by
 unfold Wi.doReset;split
 .exact Wi.RK.refl x
 .have z0:(0:Nat)=0\/(0:Nat)=1:= .inl rfl;have z1:(1:Nat)=0\/(1:Nat)=1:= .inr rfl;have p0:x.RK {x with reset:=true}:= fun j hj=>by rcases hj with rfl|rfl<;>exact fun h=>h
  exact (((p0.trans (jjE z0)).trans (jhb z0)).trans (jjE z1)).trans (jhb z1)
theorem readS_r{ws:Ws}{fd many:Int}:WsR ws (jcv ws fd many).2:=by
 unfold jcv;refine jbu (P:=fun r:_×Ws=>WsR ws r.2) (WsR.refl ws) fun n k x hx hk h1=>?_;split
 .exact WsR.refl ws
 .repeat' split
  all_goals first|exact WsR.refl ws|exact WsR.set hx (jlF hk)
theorem writeS_r{ws:Ws}{fd:Int}{b:List UInt8}:WsR ws (jbL ws fd b).2:=by
 unfold jbL;refine jbu (P:=fun r:_×Ws=>WsR ws r.2) (WsR.refl ws) fun n k x hx hk h1=>?_
 repeat' split
 all_goals first|exact WsR.refl ws|exact WsR.set hx (jmj hk)
theorem shutS_r{ws:Ws}{fd:Int}:WsR ws (jeb ws fd).2:=by
 unfold jeb;refine jbu (P:=fun r:_×Ws=>WsR ws r.2) (WsR.refl ws) fun n k x hx hk h1=>?_;split
 .exact WsR.refl ws
 .exact WsR.set hx (joy hk)
theorem jjt:∀(L:List Int) (ws:Ws),WsR ws (jaG ws L)
 |[],ws=>WsR.refl ws
 |m::L,ws=>by
  refine WsR.trans ?_ (jjt L _);unfold jdL;split
  .exact WsR.refl ws
  .next x hx=>exact WsR.set hx (jkt (.inl rfl))
theorem noWait_r{ws:Ws}{n:Nat}:WsR ws (noWait ws n):=by
 unfold noWait;split
 .exact WsR.refl ws
 .next x hx=>exact WsR.set hx fun j hj=>by rcases hj with rfl|rfl<;>exact fun h=>h
theorem closeS_r{ws:Ws}{fd:Int}:WsR ws (jc4 ws fd).2:=by
 unfold jc4;exact jbu (P:=fun r:_×Ws=>WsR ws r.2) (WsR.refl ws) fun n k x hx hk h1=>((WsR.set hx (jkt hk)).trans (jjt _ _)).trans noWait_r
theorem putS_r{ws:Ws}{n:Int}{b:List UInt8}:WsR ws (putS ws n b).2:=by
 unfold putS;refine jbz (P:=fun r:_×Ws=>WsR ws r.2) (WsR.refl ws) fun n x hx h2=>?_
 repeat' split
 all_goals first|exact WsR.refl ws|exact WsR.set hx (jmj (.inr rfl))
theorem takeS_r{ws:Ws}{n many:Int}:WsR ws (jct ws n many).2:=by
 unfold jct;refine jbz (P:=fun r:_×Ws=>WsR ws r.2) (WsR.refl ws) fun n x hx h2=>?_
 repeat' split
 all_goals first|exact WsR.refl ws|exact WsR.set hx (jlF (.inr rfl))
theorem jlX{ws:Ws}{n:Int}:WsR ws (jaB ws n).2:=jbz (P:=fun r:_×Ws=>WsR ws r.2) (WsR.refl ws) fun _ _ hx _=>WsR.set hx (joy (.inr rfl))
theorem jkY{ws:Ws}{n:Int}:WsR ws (ja2 ws n).2:=jbz (P:=fun r:_×Ws=>WsR ws r.2) (WsR.refl ws) fun _ _ hx _=>WsR.set hx (jkt (.inr rfl))
theorem resetS_r{ws:Ws}{n:Int}:WsR ws (jch ws n).2:=jbz (P:=fun r:_×Ws=>WsR ws r.2) (WsR.refl ws) fun _ _ hx _=>WsR.set hx reset_rk
theorem makeS_r{ws:Ws}{kind n:Int}:WsR ws (jag ws kind n).2:=by
 unfold jag
 repeat' split
 all_goals first|exact WsR.refl ws|exact WsR.push
theorem acceptS_r{ws:Ws}{fd:Int}:WsR ws (jay ws fd).2:=by
 unfold jay;refine jbu (P:=fun r:_×Ws=>WsR ws r.2) (WsR.refl ws) fun n k x hx hk h1=>?_;split
 .exact WsR.refl ws
 split
 .exact WsR.refl ws
 split
 .exact WsR.refl ws
 split
 .exact WsR.refl ws
 next y hy=>
 refine WsR.trans (WsR.set (y:= {x with waiting:=_}) hx fun j hj=>?_) (WsR.set hy (joI (.inl rfl) rfl));rcases hj with rfl|rfl<;>exact fun h=>h
theorem jnV{ws:Ws}{n many:Int}:WsR ws (jar ws n many).2:=by
 unfold jar;split
 .exact WsR.refl ws
 split
 .exact WsR.refl ws
 next x hx=>
 repeat' split
 all_goals first|exact WsR.refl ws|skip
 refine WsR.trans (WsR.set hx fun j hj=>?_) WsR.push;rcases hj with rfl|rfl<;>exact fun h=>h
theorem jfb{ws:Ws}{sum no si:Int}(nt:NtOk ws no si):WsR ws (jap ws sum no si):=by
 unfold jap;split
 .exact WsR.refl ws
 next h0=>
 split
 .exact WsR.refl ws
 next x hx=>
 split
 .exact WsR.refl ws
 rcases nt with h|⟨n,k,y,h1,h2,h3,h4,h5,h6⟩
 .omega
 have hk:si.toNat=0\/si.toNat=1:=by omega
 split
 .exact WsR.set hx (jlF hk)
 split
 .exact WsR.set hx (jmj (jc6 hk))
 .exact WsR.refl ws
theorem jeg{ws:Ws}{sum no si:Int}(K:WsK ws)(nt:NtOk ws no si):WsK (jap ws sum no si):=by
 unfold jap;split
 .exact K
 next h0=>
 split
 .exact K
 next x hx=>
 split
 .exact K
 next q hq=>
 rcases nt with h|⟨n,k,y,h1,h2,h3,h4,h5,h6⟩
 .omega
 have hk:si.toNat=0\/si.toNat=1:=by omega
 split
 .exact K.take hx hk hq
 split
 .next e=>
  have e2:1-(1-si.toNat)=si.toNat:=by omega
  have hc:=(K.ok.ok x (zc hx)).cap0;exact K.fill hx (jc6 hk) (q:=[]) (by rw[e2,hq,e]) (by show min 1 x.cap<=x.cap-0;omega)
 .exact K
theorem jpI{ws:Ws}{a b no si:Int}(nt:NtOk ws no si):NtOk ws (ntNo ws a b no) (ntSi ws a b si):=by
 have key:∀n k,(ntS ws a b).2=some (n,k)->(k=0\/k=1)/\∃x,ws[n]?=some x/\x.e0.ring≠none/\x.e1.ring≠none:=by
  unfold ntS;refine jbu (P:=fun r:Int×Option (Nat×Nat)=>∀n k,r.2=some (n,k)->(k=0\/k=1)/\∃x,ws[n]?=some x/\x.e0.ring≠none/\x.e1.ring≠none) (fun _ _ h=>by cases h) fun n k x hx hk h1=>?_;refine jbu (P:=fun r:Int×Option (Nat×Nat)=>∀n k,r.2=some (n,k)->(k=0\/k=1)/\∃x,ws[n]?=some x/\x.e0.ring≠none/\x.e1.ring≠none) (fun _ _ h=>by cases h) fun m i y hy hi h2=>?_;intro n' k' h;split at h
  .next hc=>
   cases h;exact⟨hk,x,hx,hc.2.2.1,hc.2.2.2⟩
  .cases h
 unfold ntNo ntSi;cases e:(ntS ws a b).2 with
 |none=>exact nt
 |some p=>
  obtain⟨n,k⟩:=p;obtain⟨hk,x,hx,h1,h2⟩:=key n k e;exact .inr ⟨n,k,x,rfl,rfl,hk,hx,h1,h2⟩
theorem jpH{ws:Ws}{sum a b:Int}:∃no si,NtOk ws no si/\ntW ws sum a b=jap ws sum no si:=by
 have:=jpI (ws:=ws) (a:=a) (b:=b) (no:= -1) (si:=0) (.inl rfl);unfold ntNo ntSi at this;unfold ntW;cases e:(ntS ws a b).2 with
 |none=>exact⟨-1,0,.inl rfl,rfl⟩
 |some p=>
  obtain⟨n,k⟩:=p;rw[e]at this;exact⟨n,k,this,rfl⟩
def noI:Option (Nat×Nat)->Int
 |none=>-1
 |some p=>p.1
def siI:Option (Nat×Nat)->Int
 |none=>0
 |some p=>p.2
theorem put_clear{x:Wi}{k:Nat}{q:List UInt8}:(x.setq k []).came (1-k) false (decide (0<q.length))=x.take k q.length q:=by
 unfold Wi.take;rw[List.drop_length]
section
variable{cl:Nat->Call}(Z:Sem cl){h:H}{w s:Nat}{ow:Nat->Nat}{ws:Ws}{now:Int}{tb:Tb}{no:Option (Nat×Nat)}
include Z
theorem jeS{d:Nat}(hd:11<=d)(a:WSt h w s ow ws now tb no)(nt:NtOk ws (noI no) (siI no))(m7:tb.ok 1000000) :
  ∃h',cl d (.fn 123) [.p w 0] h=some (.tup [],h')/\WSt h' w s ow (jap ws (tb.sum 32) (noI no) (siI no)) now tb no/\To h h' ow ow:=by
 obtain⟨l,a,rfl⟩:=a;obtain⟨sa,c,hw,kA⟩:=a.wf.head;have lw:=a.wf.lw
 suffices q:∃v h',cl d (.fn 123) [.p w 0] h=some (v,h')/\(v = .tup []/\WSt h' w s ow (jap (wxs l) (tb.sum 32) (noI no) (siI no)) now tb no/\To h h' ow ow) by
  obtain⟨_,h',e,rfl,q⟩:=q;exact⟨h',e,q⟩
 cases no with
 |none=>
  have q1:(wc (fun i=>atS (wxs l) (i:Int)) (.slice sa l.length c) s now none)[0+291+0]?=some (.bool false):=jkB (j:=0) om rfl;have hS:jap (wxs l) (tb.sum 32) (noI none) (siI none)=wxs l:=zD (by show (-1:Int)<0;omega);rw[hS];have same:WSt h w s ow (wxs l) now tb none:=⟨l,a,rfl⟩
  refine aT Z ?_;refine Ga ?_;exact⟨rfl,same,To.refl _ _⟩
 |some p=>
  obtain⟨n,k⟩:=p;obtain⟨hk,x,hx,kC,qB⟩:(k=0\/k=1)/\∃x,(wxs l)[n]?=some x/\x.e0.ring≠none/\x.e1.ring≠none:=by
   rcases nt with e|⟨n',k',x,e1,e2,hk,hx,p⟩
   .have e:(n:Int) = -1:=e;omega
   .have e1:(n:Int)=n':=e1;have e2:(k:Int)=k':=e2;obtain rfl:n=n':=by omega
    obtain rfl:k=k':=by omega
    exact⟨hk,x,hx,p⟩
  obtain⟨t,ht,rfl⟩:=jhD hx;obtain⟨q,hq⟩:∃q,(t.x.e k).ring=some q:=by
   rcases hk with rfl|rfl
   .exact zK.1 kC
   .exact zK.1 qB
  have hS:jap (wxs l) (tb.sum 32) (noI (some (n,k))) (siI (some (n,k)))=if tb.sum 32=0 then (wxs l).set n (t.x.take k q.length q) else if q=[] then (wxs l).set n (t.x.fill (1-k) (min 1 t.x.cap) [] [1]) else wxs l:=by
   unfold jap;show (if (n:Int)<0 then _ else _)=_;rw[zC om];show (match (wxs l)[(n:Int).toNat]? with|none=>_|some x=>match (x.e (k:Int).toNat).ring with|none=>_|some q=>_)=_;rw[zw,hx];simp only[zw,hq];rfl
  rw[hS];have q0:(wc (fun i=>atS (wxs l) (i:Int)) (.slice sa l.length c) s now (some (n,k)))[0+291+0]?=some (.bool true):=jkB (j:=0) om rfl;have q1:(wc (fun i=>atS (wxs l) (i:Int)) (.slice sa l.length c) s now (some (n,k)))[0+291+1]?=some (.i (n:Int)):=jkB (j:=1) om rfl;have q2:(wc (fun i=>atS (wxs l) (i:Int)) (.slice sa l.length c) s now (some (n,k)))[0+291+2]?=some (.i (k:Int)):=jkB (j:=2) om rfl;have q3:(wc (fun i=>atS (wxs l) (i:Int)) (.slice sa l.length c) s now (some (n,k)))[0+288]?=some (.slice sa l.length c):=jaR rfl;have q4:(wc (fun i=>atS (wxs l) (i:Int)) (.slice sa l.length c) s now (some (n,k)))[0+289]?=some (.p s 0):=jdZ rfl;have d4:=x_lt ht;obtain⟨z,rfl,z1,z2,z3⟩:=kA (by rintro rfl;simp at d4);have w2:(wps l)[0+(n:Int).toNat*1]?=some (.p t.wb 0):=by rw[show 0+(n:Int).toNat*1=n by omega];exact jda ht
  have X0:=a.wf.ok n t ht;have kC:=X0.hx;unfold Wi.obj at kC;have q5:=Wi.ring_cell (x:=t.x) (r0:=t.r0) (r1:=t.r1) (wv:=t.wv) hk hq (o:=0+0+(k:Int).toNat*7+2) om;obtain⟨h1,e1,c1⟩:=jja Z (d:=d-1) (h0:=h) om a.wf.hs a.wf.ls m7;have o1:=Old.ofCh c1;have a1:=a.old o1;have X:=a1.wf.ok n t ht;obtain⟨p1,p2,p3,p4,p5,p6⟩:=X.apart hk hq;by_cases sN:tb.sum 32=0
  .rw[zD sN];obtain⟨h2,e2,R2,c2⟩:=jmG Z (d:=d-1) om p1 p2 p3 p4;have W1:=a1.wf.clear ht hk hq c2 R2;have vK:(l.set n {t with x:=t.x.setq k []})[n]?=some {t with x:=t.x.setq k []}:= by rw[zi,zD rfl,zD (x_lt ht)]
   have X1:=W1.ok n _ vK;obtain⟨h3,e3,u3⟩:=jg0 Z (d:=d-1) (k:=1-k) om X1.hx om false (decide (0<q.length));have W2:=W1.upd vK u3 (by rcases hk with rfl|rfl<;>rfl) (by rcases hk with rfl|rfl<;>rfl) (fun i hi=>by rcases hk with rfl|rfl<;>rcases hi with rfl|rfl<;>rfl);rw[List.set_set]at W2;have W2:WF h3 w s ow (fun i=>atS (wxs l) (i:Int)) (l.set n {t with x:=t.x.take k q.length q}) now tb (some (n,k)):=by
    rw[<- put_clear];exact W2
   have W3:=WF.same W2 a.fds (jak ht) (Wi.take_same hk);have T:To h h3 ow ow:=by
    refine To.old o1 (To.trans ⟨c2.weaken fun j hj hb=>?_,fun _ _=>rfl⟩ (X1.toU u3));obtain⟨_,o2,_⟩:=X.ring k hk q hq;have hb:j=t.r k:=hb;subst hb;omega
   have fin:WSt h3 w s ow ((wxs l).set n (t.x.take k q.length q)) now tb (some (n,k)):=⟨_,W3,jbl⟩
   have ek:(1:Int)-(k:Int)=((1-k:Nat):Int):=by omega
   have eb:decide ((q.length:Int)>0)=decide (0<q.length):=by simp
   rw[<- ek,<- eb]at e3;refine aT Z ?_;clear m7 nt;refine Ga ?_;exact⟨rfl,fin,T⟩
  rw[zC sN];have j4:∃buf frm inn out,RingC h1 (t.r k) (t.b k) buf frm q.length t.x.cap inn out:=by
   obtain⟨buf,frm,inn,out,C,_⟩:=p1;exact⟨buf,frm,inn,out,C⟩
  obtain⟨buf,frm,inn,out,C⟩:=j4;have e2:=jje Z (d:=d-1) om C;by_cases hqn:q=[]
  .rw[zD hqn];subst hqn;have ek:(1:Int)-(k:Int)=((1-k:Nat):Int):=by omega
   have ekk:1-(1-k)=k:=by omega
   have oG:Old h1 (h1.new (.cells [.int .u8 1] false)):=(Zz h1).new;have hB:BytesAt (h1.new (.cells [.int .u8 1] false)) (some (h1.nx,0)) (.fix 1) [1]:=
    ⟨fun e=>by (cases e),zq _,fun _=>⟨h1.nx,0,_,false,rfl,by simp,jac _,fun i x hi=>by
     match i,hi with
     |0,hi=>cases hi;rfl
     |i+1,hi=>simp at hi⟩⟩
   have aG:=a1.old oG;have XG:=aG.wf.ok n t ht;have iS:(t.x.e (1-(1-k))).ring=some []:=by rw[ekk];exact hq
   obtain⟨g1,g2,g3,g4,g5,g6⟩:=XG.apart (k:=1-(1-k)) om iS;obtain⟨h3,e3,r1,r2,r3⟩:=joj Z (d:=d-1) (k:=1-k) om XG.hx om iS g1 XG.lx g2 g3 g4 g5 g6 hB Zd (fun z o e _=>by
    cases e;rw[ekk];have:t.b k<h1.nx:=p3;have:t.r k<h1.nx:=p2;exact⟨by omega,by show h1.nx≠t.r k;omega⟩)
   have mC:min ([1]:List UInt8).length (t.x.cap-([]:List UInt8).length)=min 1 t.x.cap:=by simp
   rw[mC]at r1 r2;have W:=aG.wf.fill (k:=1-k) ht om iS r3 r1 r2;have W2:=WF.same W a.fds (jak ht) (Wi.fill_same om);have T:To h h3 ow ow:=To.old (o1.trans oG) (XG.to (k:=1-(1-k)) om iS r3);have fin:WSt h3 w s ow ((wxs l).set n (t.x.fill (1-k) (min 1 t.x.cap) [] [1])) now tb (some (n,k)):=⟨_,W2,jbl⟩
   rw[<- ek]at e3;refine aT Z ?_;clear m7 nt;refine Ga ?_;refine zcu (ob:= .cells [.int .u8 1] false) (mk:=fun b=>.slice (some (b,0)) 1 (.fix 1)) rfl rfl ?_;refine Ga ?_;exact⟨rfl,fin,T⟩
  .rw[zC hqn];have pB:¬(q.length:Int)=0:=by have:=List.length_pos_iff.2 hqn;omega
   have fin:WSt h1 w s ow (wxs l) now tb (some (n,k)):=⟨l,a1,rfl⟩
   have T:To h h1 ow ow:=ZA o1;refine aT Z ?_;clear m7 nt;refine Ga ?_;exact⟨rfl,fin,T⟩
end
section
variable{h h':H}{w s:Nat}{ow:Nat->Nat}{f:Nat->Option (Nat×Nat)}{l:List WX}{ws:Ws}{now:Int}{tb tb':Tb}{no:Option (Nat×Nat)}
theorem WF.tbl(a:WF h w s ow f l now tb no)(ch:Ch (fun j=>j=s) h h')(g:h'.get s=some tb'.obj):WF h' w s ow f l now tb' no:=by
 obtain⟨wv,p1,p2,p3⟩:=a.hw;have ts:=a.ts;have k:∀j,ow j≠0->ow j≠3->h'.get j=h.get j:=fun j h0 h3=>ch.get j (a.lt_of h0) fun e=>by
  have e:j=s:=e;rw[e]at h3;exact h3 ts
 exact⟨⟨wv,by rw[k w (by rw[a.tw];omega) (by rw[a.tw];omega),p1],p2.keep ch.nx fun z hz=>k z (by rw[p3 z hz];omega) (by rw[p3 z hz];omega),p3⟩,g,a.tw,a.ts,zr a.lw ch.nx,zr a.ls ch.nx,
  fun j hj=>a.top j (zA ch.nx hj),fun n t ht=>(a.ok n t ht).keep ch.nx fun j h1 _=>k j om om⟩
theorem WSt.tbl(a:WSt h w s ow ws now tb no)(ch:Ch (fun j=>j=s) h h')(g:h'.get s=some tb'.obj):WSt h' w s ow ws now tb' no/\To h h' ow ow:=by
 obtain⟨l,a,e⟩:=a;refine⟨⟨l,⟨a.wf.tbl ch g,a.fds⟩,e⟩,⟨ch.weaken fun j _ hb=>?_,fun _ _=>rfl⟩⟩;have hb:j=s:=hb;rw[hb,a.wf.ts];omega
theorem WF.noti(a:WF h w s ow f l now tb no){o:Nat}{p:Option (Nat×Nat)}{wl:List V}(ho:o=291)(hl:h.get w=some (.cells wl false)):WF (h.set w (.cells (jao wl o (plc p)) false)) w s ow f l now tb p:=by
 obtain⟨wv,p1,p2,p3⟩:=a.hw;rw[p1]at hl;cases hl;have tw:=a.tw;have d5:∀j,ow j≠1->j≠w:=fun j hj e=>by rw[e]at hj;exact hj tw
 refine⟨⟨wv,by rw[jab,wc_set_no ho],p2.keep (zq _) fun z hz=>jaa (d5 z (by rw[p3 z hz];omega)),p3⟩,by rw[jaa (d5 s (by rw[a.ts];omega)),a.hs],a.tw,a.ts,a.lw,a.ls,a.top,fun n t ht=>(a.ok n t ht).keep (zq _) fun j h1 _=>jaa (d5 j om)⟩
theorem WSt.noti(a:WSt h w s ow ws now tb no){o:Nat}{p:Option (Nat×Nat)}{wl:List V}(ho:o=291)(hl:h.get w=some (.cells wl false)):WSt (h.set w (.cells (jao wl o (plc p)) false)) w s ow ws now tb p/\To h (h.set w (.cells (jao wl o (plc p)) false)) ow ow:=by
 obtain⟨l,a,e⟩:=a;refine⟨⟨l,⟨a.wf.noti ho hl,a.fds⟩,e⟩,⟨Zs ?_,fun _ _=>rfl⟩⟩;show ow w≠0;rw[a.wf.tw];omega
end
section
variable{cl:Nat->Call}(Z:Sem cl){h:H}{w s:Nat}{ow:Nat->Nat}{ws:Ws}{now:Int}{tb:Tb}{no:Option (Nat×Nat)}
include Z
theorem ww_Handle{d:Nat}{sg:Int}{on:Bool}(hd:12<=d)(a:WSt h w s ow ws now tb no)(nt:NtOk ws (noI no) (siI no))(m7:(tb.handle sg on).ok 1000000) :
  ∃h',cl d (.fn 102) [.p w 0,.i sg,.bool on] h=some (.i (if sig? sg then 0 else 100),h')/\WSt h' w s ow (jap ws ((tb.handle sg on).sum 32) (noI no) (siI no)) now (tb.handle sg on) no/\To h h' ow ow:=by
 obtain⟨l,b,rfl⟩:=id a;have hn:=jbK Z (d:=d-1) om b.wf;obtain⟨sa,c,hw,_⟩:=b.wf.head;have q4:(wc (fun i=>atS (wxs l) (i:Int)) (.slice sa l.length c) s now no)[0+289]?=some (.p s 0):=jdZ rfl;have lw:=b.wf.lw;obtain⟨h1,e1,u1⟩:=sp_handle Z (d:=d-1) om b.wf.hs sg on;obtain⟨a1,t1⟩:=a.tbl (tb':=tb.handle sg on) (u1.ch (B:=fun j=>j=s) rfl) u1.self;obtain⟨h2,e2,a2,t2⟩:=jeS Z (d:=d-1) om a1 nt m7;have T:=To.trans t1 t2;refine jae (aT Z ?_);clear m7 nt;refine Ga ?_;exact⟨rfl,a2,T⟩
theorem jmx{d:Nat}{sg:Int}(hd:12<=d)(a:WSt h w s ow ws now tb no)(nt:NtOk ws (noI no) (siI no))(h0:tb.ok 1000000)(m7:(tb.raise sg).ok 1000000) :
  ∃h',cl d (.fn 104) [.p w 0,.i sg] h=some (.i (if sig? sg then 0 else 100),h')/\WSt h' w s ow (jap ws ((tb.raise sg).sum 32) (noI no) (siI no)) now (tb.raise sg) no/\To h h' ow ow:=by
 obtain⟨l,b,rfl⟩:=id a;have hn:=jbK Z (d:=d-1) om b.wf;obtain⟨sa,c,hw,_⟩:=b.wf.head;have q4:(wc (fun i=>atS (wxs l) (i:Int)) (.slice sa l.length c) s now no)[0+289]?=some (.p s 0):=jdZ rfl;have lw:=b.wf.lw;obtain⟨h1,e1,u1⟩:=sp_raise Z (d:=d-1) om b.wf.hs sg h0;obtain⟨a1,t1⟩:=a.tbl (tb':=tb.raise sg) (u1.ch (B:=fun j=>j=s) rfl) u1.self;obtain⟨h2,e2,a2,t2⟩:=jeS Z (d:=d-1) om a1 nt m7;have T:=To.trans t1 t2;refine jae (aT Z ?_);clear m7 nt h0;refine Ga ?_;exact⟨rfl,a2,T⟩
theorem jiW{d:Nat}(hd:12<=d)(a:WSt h w s ow ws now tb no)(nt:NtOk ws (noI no) (siI no))(h0:tb.take.ok 1000000) :
  ∃v h',cl d (.fn 57) [.p w 0] h=some (v,h')/\Row h.nx h' 2 v (tb.cnts 32).length (jaT (tb.cnts 32))/\WSt h' w s ow (jap ws (tb.take.sum 32) (noI no) (siI no)) now tb.take no/\To h h' ow ow:=by
 obtain⟨l,b,rfl⟩:=id a;have hn:=jbK Z (d:=d-1) om b.wf;obtain⟨sa,c,hw,_⟩:=b.wf.head;have q4:(wc (fun i=>atS (wxs l) (i:Int)) (.slice sa l.length c) s now no)[0+289]?=some (.p s 0):=jdZ rfl;have lw:=b.wf.lw;obtain⟨v,h1,e1,row,g1,c1⟩:=sp_take Z (d:=d-1) om b.wf.hs b.wf.ls;obtain⟨a1,t1⟩:=a.tbl (tb':=tb.take) c1 g1;obtain⟨h2,e2,a2,t2⟩:=jeS Z (d:=d-1) om a1 nt h0;have T:=To.trans t1 t2;have aC:Row h.nx h2 2 v (tb.cnts 32).length (jaT (tb.cnts 32)):=row.keep t2.ch.nx fun z hz=>t2.ch.get z (row.at_ge hz).2 fun d5=>d5 (b.wf.top z (row.at_ge hz).1);refine aT Z ?_;clear h0 nt;refine Ga ?_;exact⟨aC,a2,T⟩
end
noncomputable def noT(ws:Ws)(a b:Int)(no:Option (Nat×Nat)):Option (Nat×Nat):=match (ntS ws a b).2 with
 |none=>no
 |some p=>some p
theorem jpK{ws:Ws}{a b:Int}{no:Option (Nat×Nat)}:noI (noT ws a b no)=ntNo ws a b (noI no):=by
 unfold noT ntNo;cases (ntS ws a b).2<;>rfl
theorem jpJ{ws:Ws}{a b:Int}{no:Option (Nat×Nat)}:siI (noT ws a b no)=ntSi ws a b (siI no):=by
 unfold noT ntSi;cases (ntS ws a b).2<;>rfl
theorem jn3{x:Wi}{r0 r1:Nat}{v:V}{o:Nat}(ho:o=2):(x.cells r0 r1 v)[o]?=some (En.ptr x.e0.ring r0):=by subst ho;rfl
theorem jn2{x:Wi}{r0 r1:Nat}{v:V}{o:Nat}(ho:o=9):(x.cells r0 r1 v)[o]?=some (En.ptr x.e1.ring r1):=by subst ho;rfl
section
variable{cl:Nat->Call}(Z:Sem cl){h:H}{w s:Nat}{ow:Nat->Nat}{ws:Ws}{now:Int}{tb:Tb}{no:Option (Nat×Nat)}
include Z
theorem ww_Notice{d:Nat}{x y:Int}(hd:12<=d)(a:WSt h w s ow ws now tb no)(o:WsOk ws)(m7:tb.ok 1000000) :
  ∃h',cl d (.fn 106) [.p w 0,.i x,.i y] h=some (.i (ntS ws x y).1,h')/\WSt h' w s ow (ntW ws (tb.sum 32) x y) now tb (noT ws x y no)/\To h h' ow ow:=by
 obtain⟨l,b,rfl⟩:=id a
 suffices q:∃v h',cl d (.fn 106) [.p w 0,.i x,.i y] h=some (v,h')/\(v = .i (ntS (wxs l) x y).1/\WSt h' w s ow (ntW (wxs l) (tb.sum 32) x y) now tb (noT (wxs l) x y no)/\To h h' ow ow) by
  obtain⟨_,h',e,rfl,q⟩:=q;exact⟨h',e,q⟩
 unfold ntW noT;have keep:∀g,Old h g->WSt g w s ow (wxs l) now tb no/\To h g ow ow:=fun g og=>⟨a.old og,ZA og⟩
 rcases jdC Z (d:=d-1) (fd:=x) om b o.uniq with⟨j5,h1,e1,o1,x1⟩|⟨n,k,m,t,rfl,hm,d7,ht,hk,h1,e1,o1,x1⟩
 .have hS:ntS (wxs l) x y=(110,none):=jaD j5;rw[hS];have o2:Old h ((h1.new (.cells [.bool false,.i 0,.i 0] false)).set h1.nx (.cells [.bool false,.i 0,.i 0] false)):=o1.new.set o1.1;have x2:((h1.new (.cells [.bool false,.i 0,.i 0] false)).set h1.nx (.cells [.bool false,.i 0,.i 0] false)).nx=h.nx+2:=by
   show h1.nx+1=_;omega
  have hq:∃(v:List V) (p:V) (e:Int) (h3:H),cl (d-1) (.fn 76) [.p w 0,.i y] ((h1.new (.cells [.bool false,.i 0,.i 0] false)).set h1.nx (.cells [.bool false,.i 0,.i 0] false))=some (.tup [.agg v,p,.i e],h3)/\v.length=3/\v.all V.one=true/\Old h h3:=by
   rcases jdC Z (d:=d-1) (fd:=y) om (b.old o2) o.uniq with⟨_,h3,e3,o3,_⟩|⟨_,_,_,_,_,_,_,_,_,h3,e3,o3,_⟩
   .exact⟨_,_,_,h3,e3,rfl,rfl,o2.trans o3⟩
   .exact⟨_,_,_,h3,e3,rfl,rfl,o2.trans o3⟩
  obtain⟨v,p,e,h3,e3,v1,v2,o3⟩:=hq;obtain⟨va,vb,vc,rfl⟩:∃va vb vc,v=[va,vb,vc]:=by
   match v,v1 with
   |[a,b,c],_=>exact⟨a,b,c,rfl⟩
  refine aT Z ?_;clear m7;refine qm ?_;refine zct rfl rfl rfl v2 (jac _) (zu rfl) ?_;refine qm ?_;exact⟨rfl,keep _ (o3.new.set o3.1)⟩
 have tD:ntS (wxs l) (m:Int) y=_:=jaA o.uniq d7 (jak ht);have o2:Old h ((h1.new (.cells [.bool false,.i 0,.i 0] false)).set h1.nx (.cells [.bool true,.i (n:Int),.i (k:Int)] false)):=o1.new.set o1.1;have g2:((h1.new (.cells [.bool false,.i 0,.i 0] false)).set h1.nx (.cells [.bool true,.i (n:Int),.i (k:Int)] false)).get h1.nx=some (.cells [.bool true,.i (n:Int),.i (k:Int)] false):=jab _;have x2:((h1.new (.cells [.bool false,.i 0,.i 0] false)).set h1.nx (.cells [.bool true,.i (n:Int),.i (k:Int)] false)).nx=h.nx+2:=by
  show h1.nx+1=_;omega
 rcases jdC Z (d:=d-1) (fd:=y) om (b.old o2) o.uniq with⟨j5,h3,e3,o3,x3⟩|⟨n2,k2,m2,t2,rfl,fE,jV,qD,nB,h3,e3,o3,x3⟩
 .rw[jaD j5]at tD;rw[tD];have o4:=o2.trans o3;refine aT Z ?_;clear m7;refine qm ?_;exact⟨rfl,keep _ (o4.new.set o4.1)⟩
 rw[jaA o.uniq jV (jak qD)]at tD;have o4:=o2.trans o3;have g3:h3.get h1.nx=some (.cells [.bool true,.i (n:Int),.i (k:Int)] false):=(o3.2 _ om).trans g2;have X:=b.wf.ok n t ht;have lx:=X.lx;have nK:h3.get t.wb=some (.cells (t.x.cells t.r0 t.r1 t.wv) false):=by rw[o4.2 _ X.lx];exact X.hx
 have q1:(t.x.cells t.r0 t.r1 t.wv)[0+0+(0:Int).toNat*7+2]?=some (En.ptr t.x.e0.ring t.r0):=jn3 rfl;have q2:(t.x.cells t.r0 t.r1 t.wv)[0+0+(1:Int).toNat*7+2]?=some (En.ptr t.x.e1.ring t.r1):=jn2 rfl;have Rj:h1.nx<h3.nx:=by omega
 by_cases hg:n=n2/\k≠k2/\t.x.e0.ring≠none/\t.x.e1.ring≠none
 case neg=>
  rw[zC hg]at tD;rw[tD];by_cases dH:n=n2
  case neg=>
   have vY:(n:Int)≠(n2:Int):=by omega
   refine aT Z ?_;clear m7 hg;refine qm ?_;exact⟨rfl,keep _ (o4.new.set o4.1)⟩
  have vY:¬(n:Int)≠(n2:Int):=by omega
  by_cases d8:k=k2
  .have wY:(k:Int)=(k2:Int):=by omega
   refine aT Z ?_;clear m7 hg;refine qm ?_;exact⟨rfl,keep _ (o4.new.set o4.1)⟩
  have wY:¬(k:Int)=(k2:Int):=by omega
  cases cH:t.x.e0.ring with
  |none=>
   have q1:(t.x.cells t.r0 t.r1 t.wv)[0+0+(0:Int).toNat*7+2]?=some (.ptr none):=by rw[q1];simp[En.ptr,cH]
   refine aT Z ?_;clear m7 hg;refine qm ?_;exact⟨rfl,keep _ (o4.new.set o4.1)⟩
  |some b0=>
   have q1:(t.x.cells t.r0 t.r1 t.wv)[0+0+(0:Int).toNat*7+2]?=some (.p t.r0 0):=by rw[q1];simp[En.ptr,cH]
   cases y8:t.x.e1.ring with
   |none=>
    have q2:(t.x.cells t.r0 t.r1 t.wv)[0+0+(1:Int).toNat*7+2]?=some (.ptr none):=by rw[q2];simp[En.ptr,y8]
    refine aT Z ?_;clear m7 hg;refine qm ?_;exact⟨rfl,keep _ (o4.new.set o4.1)⟩
   |some b1=>exact zJ ⟨dH,d8,by rw[cH];simp,by rw[y8];simp⟩ hg
 rw[zD hg]at tD;rw[tD];obtain⟨rfl,kO,cH,y8⟩:=hg;have nt:NtOk (wxs l) (noI (some (n,k))) (siI (some (n,k))):= .inr ⟨n,k,t.x,rfl,rfl,hk,jak ht,cH,y8⟩;have vY:¬(n:Int)≠(n:Int):=by omega
 have wY:¬(k:Int)=(k2:Int):=by omega
 obtain⟨b0,uC⟩:=zK.1 cH;obtain⟨b1,vF⟩:=zK.1 y8;have q1:(t.x.cells t.r0 t.r1 t.wv)[0+0+(0:Int).toNat*7+2]?=some (.p t.r0 0):=by rw[q1];simp[En.ptr,uC]
 have q2:(t.x.cells t.r0 t.r1 t.wv)[0+0+(1:Int).toNat*7+2]?=some (.p t.r1 0):=by rw[q2];simp[En.ptr,vF]
 have o5:Old h ((h3.new (.cells [.bool false,.i 0,.i 0] false)).set h3.nx (.cells [.bool true,.i (n:Int),.i (k2:Int)] false)):=o4.new.set o4.1;have a5:=a.old o5;obtain⟨l5,b5,e5⟩:=id a5;obtain⟨wv,wP,_⟩:=b5.wf.hw;obtain⟨a6,t6⟩:=a5.noti (p:=some (n,k)) (o:=0+291) rfl wP;obtain⟨h7,e7,a7,t7⟩:=jeS Z (d:=d-1) om a6 nt m7;have T:=(ZA o5:To _ _ ow ow).trans (t6.trans t7);have fin:WSt h7 w s ow (jap (wxs l) (tb.sum 32) (n:Int) (k:Int)) now tb (some (n,k)):=a7;refine aT Z ?_;clear m7 nt;refine qm ?_;exact⟨rfl,fin,T⟩
end
theorem sem_F{cl:Nat->Call}(Z:Sem cl)(d:Nat):jfI (cl d)/\jl8 (cl d):=by
 first
 |(rw[Z d];exact jhe primsF fuel d)
 |(rcases Z with Z|Z<;>rw[Z d]<;>first|exact jhe primsF fuel d|exact jhe primsT fuel d)
structure Mono(g h:H):Prop where
 nx:h.nx=g.nx
 get:∀j o,j<g.nx->g.get j=some o->h.get j=some o
theorem VB.mono{g h:H}{v:V}{l:List UInt8}(m:Mono g h)(a:VB g v l):VB h v l:=by
 obtain⟨a,c,rfl,n,f,k⟩:=a;refine⟨a,c,rfl,n,f,fun hl=>?_⟩;obtain⟨b,o,cs,ro,rfl,h1,h2,h3⟩:=k hl;exact⟨b,o,cs,ro,rfl,by rw[m.nx];exact h1,m.get b _ h1 h2,h3⟩
theorem VI.mono{g h:H}{v:V}{l:List Int}(m:Mono g h)(a:VI g v l):VI h v l:=by
 obtain⟨a,c,rfl,n,f,k⟩:=a;refine⟨a,c,rfl,n,f,fun hl=>?_⟩;obtain⟨b,o,cs,ro,rfl,h1,h2,h3⟩:=k hl;exact⟨b,o,cs,ro,rfl,by rw[m.nx];exact h1,m.get b _ h1 h2,h3⟩
theorem Row.mono{N sz n:Nat}{g h:H}{v:V}{cs:List V}(m:Mono g h)(a:Row N g sz v n cs):Row N h sz v n cs:=by
 rcases a with a|⟨q,h1,h2,rfl,h4,h5⟩
 .exact .inl a
 .exact .inr ⟨q,h1,by rw[m.nx];exact h2,rfl,m.get q _ h2 h4,h5⟩
theorem RW.mono{g h:H}{rw q:Nat}{l:List RX}{tl:List V}(m:Mono g h)(a:RW g rw q l tl):RW h rw q l tl:=by
 refine⟨by rw[m.nx];exact a.lw,by rw[m.nx];exact a.lq,a.ne,fun hl=>⟨m.get _ _ a.lw (a.at_ hl).hw,m.get _ _ a.lq (a.at_ hl).hq,a.ne⟩,fun hl=>m.get _ _ a.lw (a.nil hl),fun r hr=>?_⟩;obtain⟨p1,p2⟩:=a.ok r hr;exact⟨fun k hk=>⟨(p1 k hk).1.mono m,fun z hz=>by rw[m.nx];exact (p1 k hk).2 z hz⟩,p2.1.mono m,fun z hz=>by rw[m.nx];exact p2.2 z hz⟩
theorem RW.re{g:H}{rw q q':Nat}{tl:List V}(a:RW g rw q [] tl)(h1:q'<g.nx)(h2:rw≠q'):RW g rw q' [] tl:=
 ⟨a.lw,h1,h2,fun h=>zJ rfl h,a.nil,fun r hr=>by cases hr⟩
theorem jpU(h:H)(own:Nat->Prop):∀n,∃g:H,g.nx=h.nx/\(∀j,j<n -> ¬own j->g.get j=none)/\∀j,n<=j\/own j->g.get j=h.get j
 |0=>⟨h,rfl,fun j hj=>by omega,fun _ _=>rfl⟩
 |n+1=>by
  obtain⟨g,g1,g2,g3⟩:=jpU h own n;by_cases e:own n
  .refine⟨g,g1,fun j hj ho=>?_,fun j hj=>g3 j (hj.imp (fun h=>by omega) id)⟩;rcases zx j n with h1|h1
   .exact g2 j h1 ho
   .obtain rfl:j=n:=by omega
    exact zJ e ho
  .refine⟨g.kill n,g1,fun j hj ho=>?_,fun j hj=>?_⟩
   .by_cases ej:j=n
    .subst ej;rw[H.get_kill,zD rfl]
    .rw[jai ej];exact g2 j om ho
   .have ej:j≠n:=by
     rintro rfl;rcases hj with h1|h1
     .omega
     .exact e h1
    rw[jai ej];exact g3 j (hj.imp (fun h=>by omega) id)
structure RO(h:H)(ro dat:Nat->Prop)(rw:Nat)(l:List RX)(tl:List V):Prop where
 ex:∃q,(l≠[]->ro q)/\∀g:H,g.nx=h.nx->(∀j,j<h.nx->ro j\/dat j->g.get j=h.get j)->RW g rw q l tl
 lt:∀j,ro j\/dat j->j<h.nx
 hr:ro rw
 ap:∀j,ro j -> ¬dat j
theorem RO.keep{h h':H}{ro dat:Nat->Prop}{rw:Nat}{l:List RX}{tl:List V}(a:RO h ro dat rw l tl)(hx:h.nx<=h'.nx)(hk:∀j,ro j\/dat j->h'.get j=h.get j):RO h' ro dat rw l tl:=by
 obtain⟨q,hq,k⟩:=a.ex;refine⟨⟨q,hq,fun g g1 g2=>?_⟩,fun j hj=>zr (a.lt j hj) hx,a.hr,a.ap⟩;have w:=k ⟨h.nx,g.t⟩ rfl fun j hj ho=>(g2 j (zr hj hx) ho).trans (hk j ho);exact w.old ⟨by rw[g1];exact hx,fun _ _=>rfl⟩
theorem RO.call{cl:Nat->Call}(Z:Sem cl){d p f:Nat}{args:List V}{h:H}{ro dat:Nat->Prop}{rw:Nat}{l:List RX}{tl:List V}{P:H->V->List RX->List V->Prop}(a:RO h ro dat rw l tl)(hp:p<h.nx)(f8:h.get p≠none)(rR:¬(ro p\/dat p))
  (mono:∀g g' v l tl,Mono g g'->P g v l tl->P g' v l tl)
  (k:∀g q,(∀j,j<h.nx->ro j\/dat j->g.get j=h.get j)->g.nx=h.nx->RW g rw q l tl->(q=p\/ro q) -> ∃v q' l' tl' g',cl d (.fn f) args g=some (v,g')/\RW g' rw q' l' tl'/\Ch (RC rw q) g g'/\(q'=q\/g.nx<=q')/\P g' v l' tl') :
  ∃v l' tl' h',cl d (.fn f) args h=some (v,h')/\RO h' (fun j=>ro j\/(h.nx<=j/\j<h'.nx)) dat rw l' tl'/\Ch ro h h'/\P h' v l' tl':=by
 obtain⟨q0,dJ,k0⟩:=a.ex;obtain⟨g,g1,g2,g3⟩:=jpU h (fun j=>ro j\/dat j) h.nx;have w0:=k0 g g1 fun j _ ho=>g3 j (.inr ho);obtain⟨q,w,hq⟩:∃q,RW g rw q l tl/\(q=p\/ro q):=by
  by_cases hl:l=[]
  .subst hl;exact⟨p,w0.re (by rw[g1];exact hp) (fun e=>rR (.inl (by rw[<- e];exact a.hr))),.inl rfl⟩
  .exact⟨q0,w0,.inr (dJ hl)⟩
 obtain⟨v,q',l',tl',g',e1,e2,e3,e5,e4⟩:=k g q (fun j _ ho=>g3 j (.inr ho)) g1 w hq;have X:Ext (fun j=>if j<h.nx/\g.get j=none then h.get j else none) g h:=by
  refine⟨g1.symm,fun j=>?_,fun j hj=>?_⟩
  .by_cases hj:j<h.nx
   .by_cases ho:ro j\/dat j
    .rw[g3 j (.inr ho)];cases hh:h.get j<;>simp[hh]
    .rw[g2 j hj ho];simp[hj]
   .rw[g3 j (.inl om)];cases hh:h.get j<;>simp[hj]
  .by_cases hc:j<h.nx/\g.get j=none
   .exact⟨by rw[g1];exact hc.1,hc.2⟩
   .simp[hc]at hj
 have hF:=sem_F Z d;obtain⟨h',q1,q2⟩:=hF.1 _ _ _ _ _ e1 _ _ X;have hx:h.nx<=h'.nx:=by rw[q2.nx,<- g1];exact e3.nx
 have m:Mono g' h':=⟨q2.nx,fun j o _ hj=>q2.has hj⟩
 have off:∀j,j<h.nx -> ¬(ro j\/dat j)->g'.get j=none:=by
  intro j hj ho;by_cases hz:h.get j=none
  .rw[e3.get j (by rw[g1];exact hj) (by
    rintro (rfl|rfl)
    .rcases hq with rfl|hq
     .exact f8 hz
     .exact ho (.inl hq)
    .exact ho (.inl a.hr)),g2 j hj ho]
  .exact (q2.off j (by simp[hj,g2 j hj ho,hz])).2
 have same:∀j,(ro j\/dat j)->h'.get j=g'.get j:=by
  intro j ho;rw[q2.get j];by_cases hz:g.get j=none
  .have:h.get j=none:=by rw[<- g3 j (.inr ho),hz]
   simp[this]
  .simp[hz]
 refine⟨v,l',tl',h',q1,⟨⟨q',fun hl=>?_,fun g4 n4 k4=>?_⟩,fun j hj=>?_,.inl a.hr,fun j hj hd=>?_⟩,⟨hx,fun j hj ho=>?_⟩,mono _ _ _ _ _ m e4⟩
 .have hz:=(e2.at_ hl).hq;rcases zx q' h.nx with h1|h1
  .rcases e5 with rfl|h2
   .rcases hq with rfl|hq
    .rw[off q' h1 rR]at hz;cases hz
    .exact .inl hq
   .omega
  .exact .inr ⟨h1,by rw[q2.nx];exact e2.lq⟩
 .refine e2.mono ⟨by rw[n4,q2.nx],fun j o hj hg=>?_⟩;by_cases ho:ro j\/dat j
  .rw[k4 j (by rw[q2.nx];exact hj) (ho.imp .inl id),same j ho,hg]
  .rcases zx j h.nx with h1|h1
   .rw[off j h1 ho]at hg;cases hg
   .rw[k4 j (by rw[q2.nx];exact hj) (.inl (.inr ⟨h1,by rw[q2.nx];exact hj⟩)),q2.has hg]
 .rcases hj with (hj|hj)|hj
  .exact zr (a.lt j (.inl hj)) hx
  .exact hj.2
  .exact zr (a.lt j (.inr hj)) hx
 .rcases hj with hj|hj
  .exact a.ap j hj hd
  .have:=a.lt j (.inr hd);omega
 .by_cases hd:dat j
  .have d5:¬RC rw q j:=by
    rintro (rfl|rfl)
    .rcases hq with rfl|hq
     .exact rR (.inr hd)
     .exact a.ap _ hq hd
    .exact a.ap _ a.hr hd
   rw[same j (.inr hd),e3.get j (by rw[g1];exact hj) d5,g3 j (.inr (.inr hd))]
  .have h2:=off j hj (fun h=>h.elim ho hd);rw[q2.get j,h2];have h3:=g2 j hj (fun h=>h.elim ho hd);simp[hj,h3]
structure St where
 ws:Ws
 now:Int
 tb:Tb
 no:Option (Nat×Nat)
abbrev St.tl(r:St):List V:=tail r.now r.tb.hd r.tb.pd (noI r.no) (siI r.no)
section
variable{h h':H}{w s:Nat}{ow:Nat->Nat}{ws:Ws}{now:Int}{tb:Tb}{no:Option (Nat×Nat)}
theorem WSt.keep(a:WSt h w s ow ws now tb no)(hx:h.nx<=h'.nx)(hk:∀j,ow j≠0->h'.get j=h.get j):WSt h' w s ow ws now tb no:=by
 obtain⟨l,a,e⟩:=a;exact⟨l,⟨a.wf.keep hx hk,a.fds⟩,e⟩
theorem WSt.top(a:WSt h w s ow ws now tb no){j:Nat}(hj:h.nx<=j):ow j=0:=by
 obtain⟨l,a,e⟩:=a;exact a.wf.top j hj
theorem WSt.lt_of(a:WSt h w s ow ws now tb no){j:Nat}(hj:ow j≠0):j<h.nx:=by
 obtain⟨l,a,e⟩:=a;exact a.wf.lt_of hj
theorem WSt.lw(a:WSt h w s ow ws now tb no):w<h.nx:=by
 obtain⟨l,a,e⟩:=a;exact a.wf.lw
end
structure BB(h:H)(p w s rw:Nat)(ow:Nat->Nat)(ro dat:Nat->Prop)(a r:St):Prop where
 W:WSt h w s ow a.ws a.now a.tb a.no
 R:∃l,RO h ro dat rw l r.tl/\l.map RX.x=r.ws
 hp:h.get p=some (.cells [.p w 0,.p rw 0] false)
 lp:p<h.nx
 sep:∀j,ro j\/dat j->ow j=0
 op:ow p=0
 rp:¬(ro p\/dat p)
structure Fm(h h':H)(ow:Nat->Nat)(ro:Nat->Prop)(ow':Nat->Nat)(ro':Nat->Prop):Prop where
 ch:Ch (fun j=>ow j≠0\/ro j) h h'
 tag:∀j,j<h.nx->ow' j=ow j
 rtag:∀j,j<h.nx->(ro' j↔ro j)
theorem Fm.refl{h:H}{ow:Nat->Nat}{ro:Nat->Prop}:Fm h h ow ro ow ro:=⟨Zr _ _,fun _ _=>rfl,fun _ _=>Iff.rfl⟩
theorem Fm.trans{h h1 h2:H}{a b c:Nat->Nat}{x y z:Nat->Prop}(f:Fm h h1 a x b y)(g:Fm h1 h2 b y c z):Fm h h2 a x c z:=
 ⟨f.ch.trans_new g.ch fun j hj hb=>by rw[f.tag j hj,f.rtag j hj]at hb;exact hb,
  fun j hj=>by rw[g.tag j (zr hj f.ch.nx),f.tag j hj],fun j hj=>(g.rtag j (zr hj f.ch.nx)).trans (f.rtag j hj)⟩
theorem Fm.old{h h1:H}{ow:Nat->Nat}{ro:Nat->Prop}(o:Old h h1):Fm h h1 ow ro ow ro:=⟨o.ch,fun _ _=>rfl,fun _ _=>Iff.rfl⟩
theorem Fm.to{h h1:H}{ow ow':Nat->Nat}{ro:Nat->Prop}(t:To h h1 ow ow'):Fm h h1 ow ro ow' ro:=⟨t.ch.weaken fun _ _ hb=>.inl hb,t.tag,fun _ _=>Iff.rfl⟩
section
variable{h h':H}{p w s rw:Nat}{ow ow':Nat->Nat}{ro dat:Nat->Prop}{a a' r r':St}
theorem BB.old(b:BB h p w s rw ow ro dat a r)(o:Old h h'):BB h' p w s rw ow ro dat a r:=by
 obtain⟨l,R,e⟩:=b.R;exact⟨b.W.old o,⟨l,R.keep o.1 fun j hj=>o.2 j (R.lt j hj),e⟩,by rw[o.2 _ b.lp,b.hp],zr b.lp o.1,b.sep,b.op,b.rp⟩
theorem BB.off(b:BB h p w s rw ow ro dat a r)(hx:h.nx<=h'.nx)(hk:∀j,j<h.nx->ow j≠0\/ro j\/dat j\/j=p->h'.get j=h.get j):BB h' p w s rw ow ro dat a r:=by
 obtain⟨l,R,e⟩:=b.R;exact⟨b.W.keep hx fun j hj=>hk j (b.W.lt_of hj) (.inl hj),⟨l,R.keep hx fun j hj=>hk j (R.lt j hj) (.inr (hj.imp id .inl)),e⟩,by rw[hk _ b.lp (.inr (.inr (.inr rfl))),b.hp],zr b.lp hx,b.sep,b.op,b.rp⟩
theorem BB.wc(b:BB h p w s rw ow ro dat a r)(W:WSt h' w s ow' a'.ws a'.now a'.tb a'.no)(t:To h h' ow ow'):BB h' p w s rw ow' ro dat a' r:=by
 obtain⟨l,R,e⟩:=b.R;refine⟨W,⟨l,R.keep t.ch.nx fun j hj=>t.ch.get j (R.lt j hj) fun d5=>d5 (b.sep j hj),e⟩,by rw[t.ch.get p b.lp fun d5=>d5 b.op,b.hp],zr b.lp t.ch.nx,fun j hj=>by rw[t.tag j (R.lt j hj)];exact b.sep j hj,by rw[t.tag p b.lp];exact b.op,b.rp⟩
theorem BB.ro_lt(b:BB h p w s rw ow ro dat a r){j:Nat}(hj:ro j\/dat j):j<h.nx:=by
 obtain⟨l,R,e⟩:=b.R;exact R.lt j hj
theorem BB.ap(b:BB h p w s rw ow ro dat a r){j:Nat}(hj:dat j):¬ro j:=by
 obtain⟨l,R,e⟩:=b.R;exact fun h=>R.ap j h hj
theorem BB.rcc{cl:Nat->Call}(Z:Sem cl){d f:Nat}{args:List V}{P:H->V->Prop}(b:BB h p w s rw ow ro dat a r)
  (mono:∀g g' v,Mono g g'->P g v->P g' v)
  (k:∀g q l,(∀j,j<h.nx->ro j\/dat j->g.get j=h.get j)->g.nx=h.nx->(q=p\/ro q)->RW g rw q l r.tl->l.map RX.x=r.ws ->
   ∃v q' l' g',cl d (.fn f) args g=some (v,g')/\RW g' rw q' l' r'.tl/\l'.map RX.x=r'.ws/\Ch (RC rw q) g g'/\(q'=q\/g.nx<=q')/\P g' v) :
  ∃v h',cl d (.fn f) args h=some (v,h')/\BB h' p w s rw ow (fun j=>ro j\/(h.nx<=j/\j<h'.nx)) dat a r'/\Fm h h' ow ro ow (fun j=>ro j\/(h.nx<=j/\j<h'.nx))/\Ch ro h h'/\P h' v:=by
 obtain⟨l,R,e⟩:=b.R;obtain⟨v,l',tl',h',e1,R',c1,p1,p2,p3⟩:=R.call Z (d:=d) (f:=f) (args:=args) (P:=fun g v l' tl'=>l'.map RX.x=r'.ws/\tl'=r'.tl/\P g v) b.lp (by rw[b.hp];simp) b.rp
  (fun g g' v l' tl' m hp=>⟨hp.1,hp.2.1,mono _ _ _ m hp.2.2⟩) (fun g q ga gn w hq=>by
   obtain⟨v,q',l',g',k1,k2,k3,k4,k5,k6⟩:=k g q l ga gn hq w e;exact⟨v,q',l',_,g',k1,k2,k4,k5,k3,rfl,k6⟩)
 subst p2;refine⟨v,h',e1,⟨b.W.keep c1.nx fun j hj=>c1.get j (b.W.lt_of hj) fun hr=>hj (b.sep j (.inl hr)),⟨l',R',p1⟩,by rw[c1.get p b.lp fun hr=>b.rp (.inl hr),b.hp],zr b.lp c1.nx,fun j hj=>?_,b.op,fun hr=>?_⟩,⟨c1.weaken fun _ _ hb=>.inr hb,fun _ _=>rfl,fun j hj=>⟨fun hr=>?_,.inl⟩⟩,c1,p3⟩
 .rcases hj with (hj|hj)|hj
  .exact b.sep j (.inl hj)
  .exact b.W.top hj.1
  .exact b.sep j (.inr hj)
 .have:=b.lp;rcases hr with (hr|hr)|hr
  .exact b.rp (.inl hr)
  .omega
  .exact b.rp (.inr hr)
 .rcases hr with hr|hr
  .exact hr
  .omega
theorem BB.rc{cl:Nat->Call}(Z:Sem cl){d f:Nat}{args:List V}{P:H->V->Prop}(b:BB h p w s rw ow ro dat a r)
  (mono:∀g g' v,Mono g g'->P g v->P g' v)
  (k:∀g q l,(∀j,j<h.nx->ro j\/dat j->g.get j=h.get j)->g.nx=h.nx->(q=p\/ro q)->RW g rw q l r.tl->l.map RX.x=r.ws ->
   ∃v q' l' g',cl d (.fn f) args g=some (v,g')/\RW g' rw q' l' r'.tl/\l'.map RX.x=r'.ws/\Ch (RC rw q) g g'/\(q'=q\/g.nx<=q')/\P g' v) :
  ∃v h',cl d (.fn f) args h=some (v,h')/\BB h' p w s rw ow (fun j=>ro j\/(h.nx<=j/\j<h'.nx)) dat a r'/\Fm h h' ow ro ow (fun j=>ro j\/(h.nx<=j/\j<h'.nx))/\P h' v:=by
 obtain⟨v,h',e,b',f,_,q⟩:=b.rcc Z mono k;exact⟨v,h',e,b',f,q⟩
end
theorem jp5(t:Tb):∀n,t.sum (n+1)=sumC t.pd n
 |0=>by simp[Tb.sum,sumC]
 |n+1=>by
  have ih:=jp5 t n;rw[Tb.sum,sumC,<- ih];split
  .next h=>
   rcases h with h|h
   .omega
   .rw[h];omega
  .rfl
theorem jkC(t:Tb):t.sum 32=sumC t.pd 31:=jp5 t 31
theorem handle_hd(t:Tb)(s:Int)(on:Bool):(t.handle s on).hd=jeG t.hd s on:=by
 unfold Tb.handle jeG;by_cases h:sig? s
 .rw[zD h,zD (show jei s from h)];rfl
 .rw[zC h,zC (show ¬jei s from h)]
theorem jiy(t:Tb)(s:Int)(on:Bool):(t.handle s on).pd=jcH t.pd s on:=by
 unfold Tb.handle jcH;by_cases h:sig? s
 .rw[zD h];cases on
  .rw[zD (show jei s/\false=false from⟨h,rfl⟩)];rfl
  .rw[zC (show ¬(jei s/\true=false) from fun e=>by cases e.2)];rfl
 .rw[zC h,zC (show ¬(jei s/\on=false) from fun e=>h e.1)]
theorem jmK(t:Tb)(s:Int):(t.raise s).hd=t.hd:=by
 unfold Tb.raise;split<;>rfl
theorem jge(t:Tb)(s:Int):(t.raise s).pd=jdS t.hd t.pd s:=by
 unfold Tb.raise jdS;by_cases h:sig? s/\t.hd s.toNat=true
 .rw[zD h,zD (show jei s/\t.hd s.toNat=true from h)];funext j;unfold put1;by_cases e:j=s.toNat
  .subst e;simp
  .simp[e]
 .rw[zC h,zC (show ¬(jei s/\t.hd s.toNat=true) from h)]
theorem jhQ(t:Tb):t.take.pd=ctZ t.pd 31:=by
 funext j;unfold Tb.take ctZ;by_cases h:1<=j/\j<=31
 .rw[zD h];show (if 1<=j/\j<32 then 0 else t.pd j)=0;rw[zD om]
 .rw[zC h];show (if 1<=j/\j<32 then 0 else t.pd j)=_;rw[zC om]
theorem ji6{t:Tb}(h:∀k,0<=t.pd k):∀n,(t.cnts (n+1)).map (fun p=>((p.1:Int),p.2))=jbm t.pd n
 |0=>by simp[Tb.cnts,jbm]
 |n+1=>by
  have ih:=ji6 h n;have h1:=h (n+1);rw[Tb.cnts,jbm,<- ih];by_cases h0:t.pd (n+1)=0
  .rw[zD (.inr h0),zC om];simp
  .rw[zC om,zD om];simp
theorem jfF:∀l:List (Nat×Int),jaT l=jat (l.map fun p=>((p.1:Int),p.2))
 |[]=>rfl
 |p::l=>by
  have:=jfF l;simp only[jaT,jat,List.map_cons,zW]at this ⊢;rw[this];rfl
theorem jlp{t:Tb}{n:Int}(a:t.ok n)(h0:0<=n)(s:Int)(on:Bool):(t.handle s on).ok n:=by
 intro k;rw[jiy];unfold jcH put1;split
 .show 0<=(if k=s.toNat then (0:Int) else t.pd k)/\(if k=s.toNat then (0:Int) else t.pd k)<=n;split
  .omega
  .exact a k
 .exact a k
theorem jjP{t:Tb}{n:Int}(a:t.ok n)(s:Int):(t.raise s).ok (n+1):=by
 intro k;have:=a k;rw[jge];unfold jdS put1;split
 .show 0<=(if k=s.toNat then t.pd s.toNat+1 else t.pd k)/\(if k=s.toNat then t.pd s.toNat+1 else t.pd k)<=n+1;split
  .next e=>subst e;omega
  .omega
 .omega
theorem jlG{t:Tb}{n:Int}(a:t.ok n)(h0:0<=n):t.take.ok n:=by
 intro k;rw[jhQ];unfold ctZ;split
 .omega
 .exact a k
theorem Tb.ok.mono{t:Tb}{m n:Int}(a:t.ok m)(h:m<=n):t.ok n:=fun k=>⟨(a k).1,by have:=(a k).2;omega⟩
structure StOk(st:St)(i:Nat):Prop where
 K:WsK st.ws
 nt:NtOk st.ws (noI st.no) (siI st.no)
 now:0<=st.now/\st.now<=18446744073709551615
 tb:st.tb.ok i
noncomputable def doS(k a n t:Int)(D:List UInt8)(st:St):St:=
 if k=0\/k=1\/k=2\/k=3 then {st with ws:=(jag st.ws k n).2}
 else if k=4 then {st with ws:=(jay st.ws a).2}
 else if k=5 then {st with ws:=(jcv st.ws a n).2}
 else if k=6 then {st with ws:=(jbL st.ws a D).2}
 else if k=7 then {st with ws:=(jeb st.ws a).2}
 else if k=8 then {st with ws:=(jc4 st.ws a).2}
 else if k=9 then {st with ws:=(putS st.ws a D).2}
 else if k=10 then {st with ws:=(jct st.ws a n).2}
 else if k=11 then {st with ws:=(jaB st.ws a).2}
 else if k=12 then {st with ws:=(ja2 st.ws a).2}
 else if k=13 then {st with ws:=(jch st.ws a).2}
 else if k=14 then {st with ws:=(jar st.ws a n).2}
 else if k=15 then {st with now:=jcw st.now t}
 else if k=16 then {st with ws:=jap st.ws ((st.tb.handle a (decide (0<n))).sum 32) (noI st.no) (siI st.no),tb:=st.tb.handle a (decide (0<n))}
 else if k=17 then {st with ws:=jap st.ws ((st.tb.raise a).sum 32) (noI st.no) (siI st.no),tb:=st.tb.raise a}
 else if k=18 then {st with ws:=jap st.ws (st.tb.take.sum 32) (noI st.no) (siI st.no),tb:=st.tb.take}
 else if k=19 then {st with ws:=ntW st.ws (st.tb.sum 32) a n,no:=noT st.ws a n st.no}
 else st
theorem StOk.ws{st:St}{i:Nat}{ws:Ws}(o:StOk st i)(K:WsK ws)(r:WsR st.ws ws):StOk {st with ws:=ws} (i+1):=
 ⟨K,o.nt.keep r,o.now,o.tb.mono om⟩
theorem StOk.more{st:St}{i:Nat}(o:StOk st i):StOk st (i+1):=⟨o.K,o.nt,o.now,o.tb.mono om⟩
theorem jbQ{P:St->Prop}{c:Prop}[Decidable c]{a b:St}(h1:c->P a)(h2:P b):P (if c then a else b):=by
 by_cases h:c
 .rw[zD h];exact h1 h
 .rw[zC h];exact h2
theorem jna{k a n t:Int}{D:List UInt8}{st:St}{i:Nat}(o:StOk st i)(t0:0<=t)(t1:t<=18446744073709551615):StOk (doS k a n t D st) (i+1):=by
 have K:=o.K;unfold doS;refine jbQ (P:=fun s=>StOk s (i+1)) (fun h=>o.ws (jeh h K) makeS_r) ?_;refine jbQ (P:=fun s=>StOk s (i+1)) (fun _=>o.ws (jjx K) acceptS_r) ?_;refine jbQ (P:=fun s=>StOk s (i+1)) (fun _=>o.ws (readS_ok K) readS_r) ?_;refine jbQ (P:=fun s=>StOk s (i+1)) (fun _=>o.ws (writeS_ok K) writeS_r) ?_;refine jbQ (P:=fun s=>StOk s (i+1)) (fun _=>o.ws (shutS_ok K) shutS_r) ?_;refine jbQ (P:=fun s=>StOk s (i+1)) (fun _=>o.ws (closeS_ok K) closeS_r) ?_;refine jbQ (P:=fun s=>StOk s (i+1)) (fun _=>o.ws (putS_ok K) putS_r) ?_;refine jbQ (P:=fun s=>StOk s (i+1)) (fun _=>o.ws (takeS_ok K) takeS_r) ?_;refine jbQ (P:=fun s=>StOk s (i+1)) (fun _=>o.ws (jkX K) jlX) ?_;refine jbQ (P:=fun s=>StOk s (i+1)) (fun _=>o.ws (jjU K) jkY) ?_;refine jbQ (P:=fun s=>StOk s (i+1)) (fun _=>o.ws (resetS_ok K) resetS_r) ?_;refine jbQ (P:=fun s=>StOk s (i+1)) (fun _=>o.ws (ji5 K) jnV) ?_;refine jbQ (P:=fun s=>StOk s (i+1)) (fun _=>⟨K,o.nt,?_,o.tb.mono om⟩) ?_
 .have:=o.now;show 0<=jcw st.now t/\jcw st.now t<=_;unfold jcw;split<;>omega
 refine jbQ (P:=fun s=>StOk s (i+1)) (fun _=>⟨jeg K o.nt,o.nt.keep (jfb o.nt),o.now,(jlp o.tb om _ _).mono om⟩) ?_;refine jbQ (P:=fun s=>StOk s (i+1)) (fun _=>⟨jeg K o.nt,o.nt.keep (jfb o.nt),o.now,(jjP o.tb _).mono om⟩) ?_;refine jbQ (P:=fun s=>StOk s (i+1)) (fun _=>⟨jeg K o.nt,o.nt.keep (jfb o.nt),o.now,(jlG o.tb om).mono om⟩) ?_;refine jbQ (P:=fun s=>StOk s (i+1)) (fun _=>⟨?_,?_,o.now,o.tb.mono om⟩) o.more
 .obtain⟨no,si,h1,h2⟩:=jpH (ws:=st.ws) (sum:=st.tb.sum 32) (a:=a) (b:=n);show WsK (ntW _ _ _ _);rw[h2];exact jeg K h1
 .show NtOk (ntW _ _ _ _) (noI (noT _ _ _ _)) (siI (noT _ _ _ _));rw[jpK,jpJ];obtain⟨no,si,h1,h2⟩:=jpH (ws:=st.ws) (sum:=st.tb.sum 32) (a:=a) (b:=n);rw[h2];exact (jpI o.nt).keep (jfb h1)
structure Mv where
 op:Int
 wire:Int
 n:Int
 D:List UInt8
def Mv.may(m:Mv):Prop:=
 1<=m.op/\m.op<=7/\0<=m.wire/\0<=m.n/\m.D.length<=1000/\(m.op=7->m.wire=0)/\(m.op=2\/m.op=6\/m.op=7\/m.n=0)/\(m.op=1↔0<m.D.length)
instance (m:Mv):Decidable m.may:=by unfold Mv.may;infer_instance
noncomputable def Mv.ans(m:Mv)(st:St):Int×Int:=
 if m.op=1 then (putS st.ws m.wire m.D).1
 else if m.op=2 then ((jct st.ws m.wire m.n).1.1.length,(jct st.ws m.wire m.n).1.2)
 else if m.op=3 then (0,(jaB st.ws m.wire).1)
 else if m.op=4 then (0,(ja2 st.ws m.wire).1)
 else if m.op=5 then (0,(jch st.ws m.wire).1)
 else if m.op=6 then (jar st.ws m.wire m.n).1
 else (0,if sig? m.n then 0 else 100)
noncomputable def Mv.go(m:Mv)(st:St):St:=doS (if m.op=7 then 17 else m.op+8) (if m.op=7 then m.n else m.wire) m.n 0 m.D st
noncomputable def mvS(m:Mv)(st:St):(Int×Int)×St:=if m.may then (m.ans st,m.go st) else ((0,120),st)
theorem jpL{m:Mv}{st:St}{i:Nat}(o:StOk st i):StOk (mvS m st).2 (i+1):=by
 unfold mvS;split
 .exact jna o om om
 .exact o.more
theorem Mv.go_1{m:Mv}{st:St}(h:m.op=1):m.go st = {st with ws:=(putS st.ws m.wire m.D).2}:= by simp[Mv.go,doS,h]
theorem Mv.go_2{m:Mv}{st:St}(h:m.op=2):m.go st = {st with ws:=(jct st.ws m.wire m.n).2}:= by simp[Mv.go,doS,h]
theorem Mv.go_3{m:Mv}{st:St}(h:m.op=3):m.go st = {st with ws:=(jaB st.ws m.wire).2}:= by simp[Mv.go,doS,h]
theorem Mv.go_4{m:Mv}{st:St}(h:m.op=4):m.go st = {st with ws:=(ja2 st.ws m.wire).2}:= by simp[Mv.go,doS,h]
theorem Mv.go_5{m:Mv}{st:St}(h:m.op=5):m.go st = {st with ws:=(jch st.ws m.wire).2}:= by simp[Mv.go,doS,h]
theorem Mv.go_6{m:Mv}{st:St}(h:m.op=6):m.go st = {st with ws:=(jar st.ws m.wire m.n).2}:= by simp[Mv.go,doS,h]
theorem Mv.go_7{m:Mv}{st:St}(h:m.op=7):m.go st = {st with ws:=jap st.ws ((st.tb.raise m.n).sum 32) (noI st.no) (siI st.no),tb:=st.tb.raise m.n}:= by simp[Mv.go,doS,h]
structure Sp where
 ticks:Int
 intr:Bool
 order:List Int
 moves:List Mv
noncomputable def mvsS:List Mv->St->St
 |[],st=>st
 |m::l,st=>mvsS l (mvS m st).2
noncomputable def jhH:List Sp->List Int->St->Bool×List Sp×List Int×St
 |[],o,st=>(false,[],o,st)
 |x::l,o,st=>if x.ticks=0 then (if x.intr then (true,l,x.order,mvsS x.moves st) else jhH l x.order (mvsS x.moves st)) else (false,x::l,o,st)
noncomputable def napS(rd:St->Bool)(forever:Bool):List Sp->Int->List Int->St->Int×List Sp×List Int×St
 |[],w,o,st=>
  if rd st then (1,[],o,st) else if forever=false/\w=0 then (2,[],o,st)
  else if forever then (4,[],o,st) else (2,[],o,{st with now:=jcw st.now w})
 |x::l,w,o,st=>
  if rd st then (1,x::l,o,st) else if forever=false/\w=0 then (2,x::l,o,st)
  else if forever=false/\w<x.ticks then (2,{x with ticks:=x.ticks-w}::l,o,{st with now:=jcw st.now w})
  else if x.intr then (3,l,x.order,mvsS x.moves {st with now:=jcw st.now x.ticks})
  else napS rd forever l (w-min w x.ticks) x.order (mvsS x.moves {st with now:=jcw st.now x.ticks})
noncomputable def jbw(rd:St->Bool)(forever:Bool)(l:List Sp)(w:Int)(o:List Int)(st:St):Int×List Sp×List Int×St:=
 match jhH l o st with
 |(true,l',o',st')=>(3,l',o',st')
 |(false,l',o',st')=>napS rd forever l' w o' st'
def jd5(op:Int):List UInt8:=if op=1 then [119,100] else if op=2\/op=6 then [119,110] else if op=3\/op=4\/op=5 then [119] else if op=7 then [110] else []
theorem parts_w(op:Int):decide (0<=idxB 119 (jd5 op) 0)=decide (1<=op/\op<=6):=by
 unfold jd5
 (repeat' split)<;>(refine decide_eq_decide.2 ⟨fun _=>?_,fun _=>?_⟩)<;>first|omega|decide|(exfalso;omega)|(rename_i h;exact zJ h (by decide))
theorem parts_n(op:Int):decide (0<=idxB 110 (jd5 op) 0)=decide (op=2\/op=6\/op=7):=by
 unfold jd5
 (repeat' split)<;>(refine decide_eq_decide.2 ⟨fun _=>?_,fun _=>?_⟩)<;>first|omega|decide|(exfalso;omega)|(rename_i h;exact zJ h (by decide))
theorem parts_d(op:Int):decide (0<=idxB 100 (jd5 op) 0)=decide (op=1):=by
 unfold jd5
 (repeat' split)<;>(refine decide_eq_decide.2 ⟨fun _=>?_,fun _=>?_⟩)<;>first|omega|decide|(exfalso;omega)|(rename_i h;exact zJ h (by decide))
section
variable{cl:Nat->Call}(Z:Sem cl)
include Z
theorem jlM{d:Nat}{h:H}{s:List UInt8}{c:UInt8}(hd:5<=d):cl d (.fn 182) [.str s,.str [c]] h=some (.bool (decide (0<=idxB c s 0)),h):=by
 have e0:cl (d-4) (.fn 209) [.str s,.int .u8 (c.toNat:Int)] h=some (.i (idxB c s 0),h):=by
  rw[jps Z om (p:=jcE) rfl];show some (V.i (idxB ((c.toNat:Int).toNat.toUInt8) s 0),h)=_;rw[show ((c.toNat:Int).toNat.toUInt8)=c by simp]
 have e1:cl (d-3) (.fn 205) [.str s,.int .u8 (c.toNat:Int)] h=some (.i (idxB c s 0),h):=by
  refine jaj (aT Z ?_);refine Ga ?_;exact⟨rfl,rfl⟩
 have e2:cl (d-2) (.fn 202) [.str s,.str [c]] h=some (.i (idxB c s 0),h):=by
  refine jaj (aT Z ?_);have n0:¬(([c].length:Nat):Int)=0:=by simp
  have n1:(([c].length:Nat):Int)=1:=by simp
  clear e0
  repeat' (first|refine qxy ?_|(refine zsp ?_ ?_<;>intro _)|fail)
  .next hs=>
   obtain rfl:[c]=s:=by simpa using hs
   exact⟨by simp[idxB],rfl⟩
  .exact⟨rfl,rfl⟩
 have e3:cl (d-1) (.fn 194) [.str s,.str [c]] h=some (.i (idxB c s 0),h):=by
  refine jaj (aT Z ?_);clear e0 e1;refine Ga ?_;exact⟨rfl,rfl⟩
 refine jaj (aT Z ?_);clear e0 e1 e2;refine Ga ?_;exact⟨rfl,rfl⟩
theorem jm0{d:Nat}{h:H}{op:Int}(hd:1<=d):cl d (.fn 183) [.i op] h=some (.str (jd5 op),h):=by
 refine jaj (aT Z ?_);unfold jd5;by_cases h1:op=1
 .rw[zD h1];refine Ga ?_;exact⟨rfl,rfl⟩
 rw[zC h1];by_cases h2:op=2
 .rw[zD (.inl h2)];refine Ga ?_;exact⟨rfl,rfl⟩
 by_cases h6:op=6
 .rw[zD (.inr h6)];refine Ga ?_;exact⟨rfl,rfl⟩
 rw[zC om];by_cases h3:op=3
 .rw[zD (.inl h3)];refine Ga ?_;exact⟨rfl,rfl⟩
 by_cases h4:op=4
 .rw[zD (.inr (.inl h4))];refine Ga ?_;exact⟨rfl,rfl⟩
 by_cases h5:op=5
 .rw[zD (.inr (.inr h5))];refine Ga ?_;exact⟨rfl,rfl⟩
 rw[zC om];by_cases h7:op=7
 .rw[zD h7];refine Ga ?_;exact⟨rfl,rfl⟩
 rw[zC h7];refine Ga ?_;exact⟨rfl,rfl⟩
theorem joq{d b:Nat}{h:H}{op:Int}{c:UInt8}{l:List V}{ro:Bool}(hd:6<=d)(hb:h.get b=some (.cells (.i op::l) ro)):cl d (.fn 181) [.str [c],.p b 0] h=some (.bool (decide (0<=idxB c (jd5 op) 0)),h):=by
 have e1:=jm0 Z (d:=d-1) (h:=h) (op:=op) om;have e2:=jlM Z (d:=d-1) (h:=h) (s:=jd5 op) (c:=c) om;refine jaj (aT Z ?_);refine Ga ?_;exact⟨rfl,rfl⟩
theorem joE{d:Nat}{h:H}{op:Int}(hd:1<=d):cl d (.fn 140) [.i op] h=some (.bool (decide (1<=op/\op<=6)),h):=by
 refine jaj (aT Z ?_);by_cases h1:1<=op
 .refine Ga ?_;exact⟨by simp[h1],rfl⟩
 .refine Ga ?_;exact⟨by simp[h1],rfl⟩
theorem jkM{d:Nat}{h:H}{op:Int}(hd:1<=d):cl d (.fn 141) [.i op] h=some (.bool (decide (op=2\/op=6\/op=7)),h):=by
 refine jaj (aT Z ?_);by_cases h1:op=2
 .refine Ga ?_;exact⟨by simp[h1],rfl⟩
 by_cases h2:op=6
 .refine Ga ?_;exact⟨by simp[h2],rfl⟩
 .refine Ga ?_;exact⟨by simp[h1,h2],rfl⟩
end
theorem jh4{m:Mv}(h:m.op<1\/m.op>7\/m.wire<0\/m.n<0\/m.D.length>1000\/(m.op=7/\m.wire≠0)\/(m.op≠2/\m.op≠6/\m.op≠7/\m.n≠0)):decide m.may=false:=by
 refine zE fun c=>?_;obtain⟨c1,c2,c3,c4,c5,c6,c7,_⟩:=c;omega
theorem jqd{m:Mv}(h1:¬m.op<1)(h2:¬m.op>7)(h3:¬m.wire<0)(h4:¬m.n<0)(h6:m.op≠7\/m.wire=0)(h7:m.op=2\/m.op=6\/m.op=7\/m.n=0) :
  decide m.may=decide (m.D.length<=1000/\(m.op=1↔0<m.D.length)):=
 decide_eq_decide.2 ⟨fun c=>⟨c.2.2.2.2.1,c.2.2.2.2.2.2.2⟩,fun c=>⟨by omega,by omega,by omega,by omega,c.1,by omega,by omega,c.2⟩⟩
abbrev mvV(m:Mv)(dv:V):List V:=[.i m.op,.i m.wire,.i m.n,dv]
theorem Ops.callc_chk{call:Call}{fuel base:Nat}{K:List Fr}{e:Env}{h h':H}{Q:Post}{ix:Nat}{dst at_:Option Nat}{ops:List Ins}{keep:List Nat}{chk:List (Nat×I×Option (Nat×Bool))}{f:FuncId}{x:Opd}{args:List Opd}{cap vs:List V}{v:V}(hx:x.ev e=some (.clo f cap))(ha:evs e args=some vs)(hc:call (.fn f) (vs++cap) h=some (v,h'))(hk:jaO e h' chk=true)(k:Ops call fuel base ops keep K (layv e dst v) h' Q) :
  Ops call fuel base (⟨ix,dst,.callv x args,none,at_,chk⟩::ops) keep K e h Q:=
 Ops.step_chk (Zp rfl (by simp only[I.eff,hx,ha,hc])) hk k
section
variable{cl:Nat->Call}(Z:Sem cl){h:H}{m:Mv}{a:Option (Nat×Nat)}{c:Cap}
include Z
theorem jpB{d:Nat}(hd:2<=d):∃h',cl d (.fn 165) [.agg (mvV m (.slice a m.D.length c))] h=some (.bool (decide m.may),h')/\Old h h':=by
 have o:Old h (h.new (.cells (mvV m (.slice a m.D.length c)) false)):=(Zz h).new;have ew:=joE Z (d:=d-1) (op:=m.op) (h:=h.new (.cells (mvV m (.slice a m.D.length c)) false)) om;have en:=jkM Z (d:=d-1) (op:=m.op) (h:=h.new (.cells (mvV m (.slice a m.D.length c)) false)) om;have g0:(h.new (.cells (mvV m (.slice a m.D.length c)) false)).get h.nx=some (.cells (mvV m (.slice a m.D.length c)) false):=jac _;refine jae (aT Z ?_);obtain⟨C,hC⟩:∃C,C=c165_1:=⟨_,rfl⟩
 simp only[c165,c165_2,<- hC,yB,yL];by_cases c1:m.op<1
 .have hf:=jh4 (.inl c1);clear ew en;refine qm ?_;exact⟨by rw[hf],o⟩
 by_cases c2:m.op>7
 .have hf:=jh4 (m:=m) om;clear ew en;refine qm ?_;exact⟨by rw[hf],o⟩
 by_cases c3:m.wire<0
 .have hf:=jh4 (m:=m) om;clear ew en;refine qm ?_;exact⟨by rw[hf],o⟩
 by_cases c4:m.n<0
 .have hf:=jh4 (m:=m) om;clear ew en;refine qm ?_;exact⟨by rw[hf],o⟩
 by_cases c5:(m.D.length:Int)>1000
 .have hf:=jh4 (m:=m) om;clear ew en;refine qm ?_;exact⟨by rw[hf],o⟩
 have tail:∀sb,Run (cl (d-1)) fuel C [] ((1,.p h.nx 0)::sb) (h.new (.cells (mvV m (.slice a m.D.length c)) false)) (Fin c165.res fun v h'=>v = .bool (decide m.may)/\Old h h'):=fun sb=>by
  rw[hC];generalize h.new (.cells (mvV m (.slice a m.D.length c)) false)=G at o ew en g0 ⊢;have fin:∀p:Prop,[Decidable p]->(p↔(m.op=1↔0<m.D.length))->(m.op≠7\/m.wire=0)->(m.op=2\/m.op=6\/m.op=7\/m.n=0)->V.bool (decide p)=V.bool (decide m.may):=fun p _ hp h6 h7=>by
   rw[jqd c1 c2 c3 c4 h6 h7];exact congrArg V.bool (decide_eq_decide.2 ⟨fun x=>⟨by omega,hp.1 x⟩,fun x=>hp.2 x.2⟩)
  have e1:(decide (m.op=1)=decide ((m.D.length:Int)>0))↔(m.op=1↔0<m.D.length):=by rw[decide_eq_decide];omega
  clear hC;by_cases c7:m.op=7
  .rw[zE om]at ew;rw[zG om]at en;by_cases c6:m.wire=0
   .have hf:=fin _ e1 om om;clear fin e1 c1 c2 c3 c4 c5;refine qm ?_;exact⟨hf,o⟩
   .have hf:=jh4 (m:=m) om;clear fin e1 c1 c2 c3 c4 c5;refine qm ?_;exact⟨by rw[hf],o⟩
  .rw[zG om]at ew;by_cases c8:m.op=2\/m.op=6\/m.op=7
   .rw[zG c8]at en;have hf:=fin _ e1 om om;clear fin e1 c1 c2 c3 c4 c5 c8 c7;refine qm ?_;exact⟨hf,o⟩
   rw[zE c8]at en;by_cases c9:m.n=0
   .have hf:=fin _ e1 om om;clear fin e1 c1 c2 c3 c4 c5 c8 c7;refine qm ?_;exact⟨hf,o⟩
   .have hf:=jh4 (m:=m) om;clear fin e1 c1 c2 c3 c4 c5 c8 c7;refine qm ?_;exact⟨by rw[hf],o⟩
 clear ew en;refine qm ?_;exact tail _
theorem jp2{d:Nat}(hd:7<=d):∃h',cl d (.fn 162) [.agg (mvV m (.slice a m.D.length c))] h=some (.bool (decide m.may),h')/\Old h h':=by
 have o:Old h (h.new (.cells (mvV m (.slice a m.D.length c)) false)):=(Zz h).new;have g0:(h.new (.cells (mvV m (.slice a m.D.length c)) false)).get h.nx=some (.cells (mvV m (.slice a m.D.length c)) false):=jac _;have en:=jm0 Z (d:=d-1) (op:=m.op) (h:=h.new (.cells (mvV m (.slice a m.D.length c)) false)) om;have ew:=joq Z (d:=d-1) (c:=119) om g0;have eN:=joq Z (d:=d-1) (c:=110) om g0;have ed:=joq Z (d:=d-1) (c:=100) om g0;rw[parts_w]at ew;rw[parts_n]at eN;rw[parts_d]at ed;refine jae (aT Z ?_);obtain⟨C,hC⟩:∃C,C=c162_4:=⟨_,rfl⟩
 simp only[c162,<- hC,yN];by_cases c0:m.op<1\/m.op>7
 .have ep:jd5 m.op=[]:=by
   unfold jd5;rw[zC om,zC om,zC om,zC om]
  rw[ep]at en;refine qm ?_;exact⟨by rw[jh4 om],o⟩
 obtain⟨x,t,ep⟩:∃x t,jd5 m.op=x::t:=by
  unfold jd5;by_cases h1:m.op=1
  .rw[zD h1];exact⟨_,_,rfl⟩
  rw[zC h1];by_cases h2:m.op=2\/m.op=6
  .rw[zD h2];exact⟨_,_,rfl⟩
  rw[zC h2];by_cases h3:m.op=3\/m.op=4\/m.op=5
  .rw[zD h3];exact⟨_,_,rfl⟩
  rw[zC h3,zD om];exact⟨_,_,rfl⟩
 rw[ep]at en;have c1:¬m.op<1:=by omega
 have c2:¬m.op>7:=by omega
 by_cases c3:m.wire<0
 .refine qm ?_;exact⟨by rw[jh4 om],o⟩
 by_cases c4:m.n<0
 .refine qm ?_;exact⟨by rw[jh4 om],o⟩
 have fin:∀p:Prop,[Decidable p]->(p↔(m.op=1↔0<m.D.length)/\m.D.length<=1000)->(m.op≠7\/m.wire=0)->(m.op=2\/m.op=6\/m.op=7\/m.n=0)->V.bool (decide p)=V.bool (decide m.may):=fun p _ hp h6 h7=>by
  rw[jqd c1 c2 c3 c4 h6 h7];exact congrArg V.bool (decide_eq_decide.2 ⟨fun x=>(hp.1 x).symm,fun x=>hp.2 x.symm⟩)
 have e1:(decide (m.op=1)=decide ((m.D.length:Int)>0))↔(m.op=1↔0<m.D.length):=by rw[decide_eq_decide];omega
 have tail:∀sb,(m.op≠7\/m.wire=0)->(m.op=2\/m.op=6\/m.op=7\/m.n=0)->Run (cl (d-1)) fuel C [] ((1,.p h.nx 0)::(3,.clo 181 [.p h.nx 0])::sb) (h.new (.cells (mvV m (.slice a m.D.length c)) false)) (Fin c162.res fun v h'=>v = .bool (decide m.may)/\Old h h'):=fun sb h6 h7=>by
  rw[hC];clear ew eN en c0;generalize hE:(decide (m.op=1):Bool)=b1 at ed e1;have qN:=fun p [Decidable p] hp=>fin p hp h6 h7;have Me:=jqd c1 c2 c3 c4 h6 h7;clear fin h6 h7;refine qm ?_;refine Ops.callc_chk rfl rfl ed (jau rfl g0 rfl rfl ja9) ?_;by_cases e2:b1=decide ((m.D.length:Int)>0)
  .refine qm ?_;exact⟨qN _ ⟨fun x=>⟨e1.1 e2,by omega⟩,fun x=>by have:=x.2;omega⟩,o⟩
  .refine qm ?_;exact⟨by rw[Me];exact congrArg V.bool (zE fun x=>e2 (e1.2 x.2)).symm,o⟩
 clear c0 fin e1;by_cases c7:m.op=7
 .rw[zE om]at ew;rw[zG om]at eN;by_cases c6:m.wire=0
  .have tl:=fun sb=>tail sb om om;clear tail;refine qm ?_;refine Ops.callc rfl rfl ew ?_;refine qm ?_;refine Ops.callc rfl rfl eN ?_;refine qm ?_;exact tl _
  .clear tail;refine qm ?_;refine Ops.callc rfl rfl ew ?_;refine qm ?_;exact⟨by rw[jh4 om],o⟩
 .rw[zG om]at ew;by_cases c8:m.op=2\/m.op=6\/m.op=7
  .rw[zG c8]at eN;have tl:=fun sb=>tail sb om om;clear c8 tail;refine qm ?_;refine Ops.callc rfl rfl ew ?_;refine qm ?_;refine Ops.callc rfl rfl eN ?_;refine qm ?_;exact tl _
  rw[zE c8]at eN;by_cases c9:m.n=0
  .have tl:=fun sb=>tail sb om om;clear c8 tail;refine qm ?_;refine Ops.callc rfl rfl ew ?_;refine qm ?_;refine Ops.callc rfl rfl eN ?_;refine qm ?_;exact tl _
  .have hf:=jh4 (m:=m) om;clear c8 tail;refine qm ?_;refine Ops.callc rfl rfl ew ?_;refine qm ?_;refine Ops.callc rfl rfl eN ?_;refine qm ?_;exact⟨by rw[hf],o⟩
end
theorem jhq(b:UInt8):jhr (jcY b)=some b:=by
 have h:b.toNat<256:=b.toNat_lt;have h2:jgx (b.toNat:Int) 256=true:=by
  rcases zx b.toNat 256 with _|_
  .simp[jgx];omega
  .omega
 simp only[jcY,jhr,h2,cond_true,zw];congr 1;exact UInt8.ofNat_toNat
theorem jfG:∀l:List UInt8,bytesOf (bts l)=some l
 |[]=>rfl
 |b::l=>by
  show (match jhr (jcY b),bytesOf (bts l) with|some b,some l=>some (b::l)|_,_=>none)=_;rw[jhq,jfG l]
section
variable{call:Call}{fuel base:Nat}{ops:List Ins}{keep:List Nat}{K:List Fr}{e:Env}{h:H}{Q:Post}{ix:Nat}{dst at_:Option Nat}
theorem Ops.sadd{x y:Opd}{a b:List UInt8}(hx:x.ev e=some (.str a))(hy:y.ev e=some (.str b))(hl:a.length+b.length<=1000000)(k:Ops call fuel base ops keep K (layv e dst (.str (a++b))) h Q) :
  Ops call fuel base (⟨ix,dst,.bin .add x y,none,at_,[]⟩::ops) keep K e h Q:=by
 refine zau rfl ?_ k;have h2:Nat.ble (a.length+b.length) (2 ^ 62)=true:=Nat.ble_eq_true_of_le om;simp only[I.pure,hx,hy,binOp,jpr,h2,cond_true]
theorem Ops.ofRow{x:Opd}{v:V}{N n:Nat}{l:List UInt8}(hx:x.ev e=some v)(r:Row N h 1 v n (bts l))(k:Ops call fuel base ops keep K (layv e dst (.str l)) h Q) :
  Ops call fuel base (⟨ix,dst,.ofBytes x,none,at_,[]⟩::ops) keep K e h Q:=by
 refine Ops.step (I.run_read rfl ?_) k;rcases r with⟨rfl,h2,rfl⟩|⟨q,_,_,rfl,h4,h5⟩
 .have:l=[]:=by simpa using h2
  subst this;simp only[I.read,hx]
 .simp only[I.read,hx];have hn:n=l.length:=by simpa using h5.symm
  subst hn;cases l with
  |nil=>rfl
  |cons a l=>
   have:((a::l).length == 0)=false:=rfl;rw[this,cond_false,jcz h4 Zd,zk,zh Zd];show (match bytesOf (bts (a::l)) with|some s=>some (V.str s)|none=>none)=_;rw[jfG]
theorem Ops.ofBytesAt{x:Opd}{a:Option (Nat×Nat)}{c:Cap}{l:List UInt8}{m:Nat}(hx:x.ev e=some (.slice a m c))(hl:BytesAt h a c l)(hm:m<=l.length)(k:Ops call fuel base ops keep K (layv e dst (.str (l.take m))) h Q) :
  Ops call fuel base (⟨ix,dst,.ofBytes x,none,at_,[]⟩::ops) keep K e h Q:=by
 refine Ops.step (I.run_read rfl ?_) k;cases a with
 |none=>simp only[I.read,hx,(hl.none_ rfl).2,List.take_nil]
 |some a=>
  simp only[I.read,hx];by_cases h0:m=0
  .subst h0;simp
  .have:(m == 0)=false:=by simp[h0]
   rw[this,cond_false];obtain⟨b,o,cs,ro,ea,_,hb,hc⟩:=hl.at_ (by rintro rfl;simp at hm;omega);cases ea;obtain⟨p1,p2⟩:=jen (k:=0) (m:=m) hc om om;rw[jcz hb om];simp only[Nat.add_zero,zk]at p2;show (match bytesOf ((cs.drop o).take m) with|some s=>some (V.str s)|none=>none)=_;rw[p2,jfG]
theorem Ops.mark{x:Opd}{b o n:Nat}{c:Cap}{l:List V}(hx:x.ev e=some (.slice (some (b,o)) n c))(hb:h.get b=some (.cells l false))(hn:Nat.ble 1 n=true)(k:Ops call fuel base ops keep K (layv e dst (.slice (some (b,o)) n c)) h Q) :
  Ops call fuel base (⟨ix,dst,.mark x,none,at_,[]⟩::ops) keep K e h Q:=by
 refine Ops.step (Zp rfl ?_) k;simp only[I.eff,hx,hb,hn,cond_true]
end
abbrev ZB:=@Ops.sadd
abbrev opV(k a n t:Int)(dv:V):List V:=[.i k,.i a,.i n,.int .u64 t,dv]
structure Dat(h:H)(dat:Nat->Prop)(dv:V)(D:List UInt8):Prop where
 v:VB h dv D
 z:D≠[] -> ∀z,dv.at?=some z->dat z
 len:D.length<=300
structure Cpy(h:H)(p:Nat)(ow:Nat->Nat)(ro dat:Nat->Prop)(vd:V)(D:List UInt8):Prop where
 v:VB h vd D
 z:∀z,vd.at?=some z->z<h.nx/\ow z=0/\¬ro z/\¬dat z/\z≠p
section
variable{h h':H}{p w s rw:Nat}{ow ow':Nat->Nat}{ro ro' dat:Nat->Prop}{a r a' r':St}{dv vd:V}{D:List UInt8}
theorem BB.keepD(b:BB h p w s rw ow ro dat a r)(f:Fm h h' ow ro ow' ro'){z:Nat}(hz:dat z):h'.get z=h.get z:=
 f.ch.get z (b.ro_lt (.inr hz)) fun e=>e.elim (fun e=>e (b.sep z (.inr hz))) (b.ap hz)
theorem Dat.keep(d:Dat h dat dv D)(b:BB h p w s rw ow ro dat a r)(f:Fm h h' ow ro ow' ro'):Dat h' dat dv D:=
 ⟨d.v.keep2 f.ch.nx fun hl z hz=>b.keepD f (d.z hl z hz),d.z,d.len⟩
theorem Cpy.keep(c:Cpy h p ow ro dat vd D)(f:Fm h h' ow ro ow' ro'):Cpy h' p ow' ro' dat vd D:=
 ⟨c.v.keep f.ch.nx fun z hz=>by
  obtain⟨p1,p2,p3,p4,p5⟩:=c.z z hz;exact f.ch.get z p1 fun e=>e.elim (fun e=>e p2) p3,fun z hz=>by
  obtain⟨p1,p2,p3,p4,p5⟩:=c.z z hz;exact⟨zr p1 f.ch.nx,by rw[f.tag z p1];exact p2,fun e=>p3 ((f.rtag z p1).1 e),p4,p5⟩⟩
theorem Dat.in_{g:H}{q:Nat}(d:Dat h dat dv D)(b:BB h p w s rw ow ro dat a r)(ga:∀j,j<h.nx->ro j\/dat j->g.get j=h.get j)(gn:g.nx=h.nx)(hq:q=p\/ro q) :
  VB g dv D/\(D≠[] -> ∀z,dv.at?=some z->z≠q/\z≠rw/\z<g.nx):=by
 refine⟨d.v.keep2 om fun hl z hz=>ga z (b.ro_lt (.inr (d.z hl z hz))) (.inr (d.z hl z hz)),fun hl z hz=>?_⟩;have dz:=d.z hl z hz;refine⟨fun e=>?_,fun e=>?_,by rw[gn];exact b.ro_lt (.inr dz)⟩
 .rcases hq with rfl|hq
  .exact b.rp (.inr (by rw[<- e];exact dz))
  .exact b.ap dz (by rw[e];exact hq)
 .obtain⟨l,R,_⟩:=b.R;exact b.ap dz (by rw[e];exact R.hr)
theorem BB.off_w{h1:H}(b:BB h p w s rw ow ro dat a r)(t:To h h1 ow ow'){o:Obj}{z:Nat}(hz:z<h.nx)(h0:ow z=0)(g:h.get z=some o):h1.get z=some o:=by
 rw[t.ch.get z hz fun e=>e h0,g]
theorem Fm.two{h1 h2:H}{y7:Nat->Nat}(o:Old h h')(t:To h' h1 ow y7)(f:Fm h1 h2 y7 ro y7 ro'):Fm h h2 ow ro y7 ro':=(Fm.old o).trans ((Fm.to t).trans f)
end
def jdB(cl:Nat->Call)(d f:Nat)(h:H)(p w s rw:Nat)(ow:Nat->Nat)(ro dat:Nat->Prop)(args:List V)(st':St):Prop:=
 ∃h' ow' ro',cl d (.fn f) args h=some (.bool true,h')/\BB h' p w s rw ow' ro' dat st' st'/\Fm h h' ow ro ow' ro'
section
variable{call:Call}{fuel base:Nat}{ops:List Ins}{keep:List Nat}{K:List Fr}{e:Env}{h:H}{Q:Post}{ix:Nat}{dst at_:Option Nat}
theorem Ops.ixAn{x i:Opd}{l vs:List V}{kd:IntKind}{n sz m len:Nat}(hx:x.ev e=some (.agg l))(hi:i.ev e=some (.int kd (n:Int)))(hn:n<len)(hl:n*sz+m<=l.length)(hv:(l.drop (n*sz)).take m=vs)
  (k:Ops call fuel base ops keep K (layv e dst (.agg vs)) h Q):Ops call fuel base (⟨ix,dst,.ixA len sz (some m) x i,none,at_,[]⟩::ops) keep K e h Q:=by
 refine zau rfl ?_ k;have h1:Nat.blt n len=true:=by simp[Nat.blt];omega
 have h2:Nat.ble (n*sz+m) l.length=true:=by simpa using hl
 simp only[I.pure,hx,hi];show (bif jgx (Int.ofNat n) len then _ else _)=_;simp only[jgx,h1,cond_true,part];show (match (bif Nat.ble (n*sz+m) l.length then some (V.agg ((l.drop (n*sz)).take m)) else none) with|some v=>some v|none=>none)=_;rw[h2];simp only[cond_true,hv]
end
section
variable{f:Nat->Option (Nat×Nat)}{wv:V}{s:Nat}{now:Int}{no:Option (Nat×Nat)}
theorem jgZ{i:Nat}(hi:i<96):((jdJ f).drop (i*3)).take 3=plc (f i):=
 jqo (jgw (i:=i) (j:=0) hi om rfl) (jgw (i:=i) (j:=1) hi om rfl) (jgw (i:=i) (j:=2) hi om rfl)
theorem jkA:((wc f wv s now no).drop 0).take 288=jdJ f:=by
 unfold wc;rw[zk,List.take_append_of_le_length (by rw[ja7];omega),zh (by rw[ja7];omega)]
end
section
variable{cl:Nat->Call}(Z:Sem cl){h:H}{w s:Nat}{ow:Nat->Nat}{f:Nat->Option (Nat×Nat)}{l:List WX}{now:Int}{tb:Tb}{no:Option (Nat×Nat)}
include Z
theorem jk9{d L bx:Nat}{wl:List V}(hd:2<=d)(I:Nat->H->Prop)(J:H->Prop)(hw:h.get w=some (.cells (wc f (.slice none 0 (.fix 0)) s now no) false)\/h.get w=some (.cells wl false))(jE:wl.length=294/\(wl.drop 0).take 288=jdJ f)(aE:h.get bx=some (.cells [.p w 0] false))
  (hI:∀i g g',I i g->Old g g'->I i g') (xP:∀i g,i<96->f i≠none->I i g->I (i+1) g)
  (hy:∀i g,i<96->f i=none->I i g -> ∃(b:Bool) (g':H),cl (d-1) (.yld L) [.i (i:Int)] g=some (.bool b,g')/\(b=true->I (i+1) g')/\(b=false->J g'))
  (h0:I 0 h):∃v h',cl d (.fn 146) [.yld L,.p bx 0] h=some (v,h')/\(I 96 h'\/J h'):=by
 have hw:∃wl,h.get w=some (.cells wl false)/\wl.length=294/\(wl.drop 0).take 288=jdJ f:=by
  rcases hw with hw|hw
  .exact⟨_,hw,jbv,jkA⟩
  .exact⟨_,hw,jE⟩
 obtain⟨wl,hw,hl,ht⟩:=hw;refine aT Z ?_;refine Ga ?_;refine zcw rfl hw om ?_;rw[ht];refine Ga ?_;refine Zq (fun m e g=>∃i:Nat,m=96-i/\i<=96/\e=[(0,.yld L),(8,.agg (jdJ f)),(9,.i i)]/\I i g) (k:=96) Ze ⟨0,rfl,by omega,rfl,h0⟩ ?_;rintro _ _ g ⟨i,rfl,hi,rfl,xY⟩ n ih;by_cases d4:i<96
 case neg=>
  obtain rfl:i=96:=by omega
  have xB:¬((96:Nat):Int)<96:=by omega
  refine Ga ?_;exact .inl xY
 have a8:((i+1:Nat):Int)=(i:Int)+1:=by omega
 refine Ga ?_;refine Ops.ixAn (m:=3) rfl rfl d4 (by rw[ja7];omega) (jgZ d4) ?_;refine zcu rfl rfl ?_;refine Ga ?_;have o1:Old g ((g.new (.cells [.bool false,.i 0,.i 0] false)).set g.nx (.cells (plc (f i)) false)):=((Zz g).new).set (zq _);have I1:=hI _ _ _ xY o1;cases hf:f i with
 |some p=>
  rw[hf]at I1;refine qm ?_;exact ih (96-(i+1)) om _ _ ⟨i+1,rfl,by omega,by rw[a8],xP i _ d4 (by rw[hf];simp) I1⟩
 |none=>
  rw[hf]at I1;obtain⟨b,g',e1,q1,q2⟩:=hy i _ d4 hf I1;cases b
  .refine qm ?_;refine Ops.yield rfl rfl e1 ?_;refine qm ?_;exact .inr (q2 rfl)
  .refine qm ?_;refine Ops.yield rfl rfl e1 ?_;refine qm ?_;exact ih (96-(i+1)) om _ _ ⟨i+1,rfl,by omega,by rw[a8],q1 rfl⟩
theorem joo{d:Nat}(hd:1<=d):cl d (.fn 77) [.p w 0] h=some (.clo 146 [.p h.nx 0],h.new (.cells [.p w 0] false)):=by
 refine jaj (aT Z ?_);refine Ga ?_;refine zcu rfl rfl ?_;refine Ga ?_;exact⟨rfl,rfl⟩
theorem ww_Fds{d:Nat}{ws:Ws}(hd:2<=d)(a:WSt h w s ow ws now tb no) :
  ∃v h',cl d (.fn 62) [.p w 0] h=some (v,h')/\Row h.nx h' 1 v (fdsL ws 96).length (ints (fdsL ws 96))/\Old h h':=by
 obtain⟨l,a,rfl⟩:=a;obtain⟨sa,c,hw,_⟩:=a.wf.head;have hn:=jbK Z (d:=d-1) om a.wf;refine aT Z ?_;refine Ga ?_;refine zcw rfl hw (by rw[jbv];omega) ?_;rw[show 0+0=0 from rfl,jkA];refine Ga ?_;refine Zq (fun m e g=>∃(n:Nat) (v:V),m=96-n/\n<=96/\e=[(3,v),(12,.agg (jdJ fun i=>atS (wxs l) (i:Int))),(13,.i n)]/\Row h.nx g 1 v (fdsL (wxs l) n).length (ints (fdsL (wxs l) n))/\Old h g)
  (k:=96) Ze ⟨0,.nils,rfl,by omega,rfl,Row.nil _ _ _,Zz h⟩ ?_
 clear hw hn a;rintro _ _ g ⟨n,v,rfl,hn,rfl,row,old⟩ fu ih;by_cases d4:n<96
 case neg=>
  obtain rfl:n=96:=by omega
  have xB:¬((96:Nat):Int)<96:=by omega
  refine Ga ?_;exact⟨row,old⟩
 have jC:((n+1:Nat):Int)=(n:Int)+1:=by omega
 have mE:=jhE (wxs l) n;refine Ga ?_;refine Ops.ixAn (m:=3) rfl rfl d4 (by rw[ja7];omega) (jgZ d4) ?_;refine zcu rfl rfl ?_;cases hf:atS (wxs l) (n:Int) with
 |none=>
  have hs:fdsL (wxs l) (n+1)=fdsL (wxs l) n:=by rw[jgv,hf];simp
  refine qm ?_;refine ih (96-(n+1)) om _ _ ⟨n+1,v,rfl,by omega,by rw[jC],?_,old.new.set old.1⟩;rw[hs];exact row.keep Zd fun z hz=>by have:=(row.at_ge hz).2;rw[jaa om,jad this]
 |some p=>
  have hs:fdsL (wxs l) (n+1)=fdsL (wxs l) n++[(n:Int)]:=by rw[jgv,hf];rfl
  have aC:Row h.nx ((g.new (.cells [.bool false,.i 0,.i 0] false)).set g.nx (.cells [.bool true,.i p.1,.i p.2] false)) 1 v (fdsL (wxs l) n).length (ints (fdsL (wxs l) n)):=row.keep Zd fun z hz=>by have:=(row.at_ge hz).2;rw[jaa om,jad this]
  have wK:Old h ((g.new (.cells [.bool false,.i 0,.i 0] false)).set g.nx (.cells [.bool true,.i p.1,.i p.2] false)):=old.new.set old.1;refine Ga ?_;refine zct (vs:=[.bool true,.i p.1,.i p.2]) rfl rfl rfl rfl (jac _) (zu rfl) ?_;rw[show jao [.bool false,.i 0,.i 0] 0 [.bool true,.i p.1,.i p.2]=[.bool true,.i p.1,.i p.2] from rfl];refine Ga ?_;refine Ops.push (N:=h.nx) (new:=[.i (n:Int)]) rfl rfl rfl rfl om rfl rfl aC wK.1 om om fun v' g' row' cB iA w6=>?_;refine Ga ?_;refine ih (96-(n+1)) om _ _ ⟨n+1,v',rfl,by omega,by rw[jC],?_,zA wK.1 cB,fun j hj=>?_⟩
  .rw[hs,zg];simpa[ints] using row'
  .rw[w6 j (zr hj wK.1) (fun e=>by have:=aC.at_ge e;omega),wK.2 j hj]
theorem jon{d:Nat}{ws:Ws}{t:Int}(hd:2<=d)(a:WSt h w s ow ws now tb no)(n0:0<=now)(n1:now<=18446744073709551615)(t0:0<=t)(t1:t<=18446744073709551615) :
  ∃h',cl d (.fn 100) [.p w 0,.int .u64 t] h=some (.tup [],h')/\WSt h' w s ow ws (jcw now t) tb no/\To h h' ow ow:=by
 obtain⟨l,a,rfl⟩:=a;have hn:=jbK Z (d:=d-1) om a.wf;obtain⟨wv,hw,hr,hz⟩:=a.wf.hw;have e0:=jor (f:=fun i=>atS (wxs l) (i:Int)) (wv:=wv) (s:=s) (now:=now) (no:=no) (o:=0+290) rfl;have es:jcw now t=now+min t (18446744073709551615-now):=by unfold jcw;split<;>omega
 have j4:0+290<(wc (fun i=>atS (wxs l) (i:Int)) wv s now no).length:=by rw[jbv];omega
 refine jae (aT Z ?_);refine Ga ?_;refine zcs rfl rfl rfl hw j4 ?_;rw[jnn rfl,<- es];refine Ga ?_;have d5:∀j,ow j≠1->j≠w:=fun j hj e=>hj (by rw[e,a.wf.tw]);refine⟨rfl,⟨l,⟨⟨⟨wv,jab _,hr.keep (zq _) fun z iA=>jaa (d5 z (by rw[hz z iA];omega)),hz⟩,?_,a.wf.tw,a.wf.ts,a.wf.lw,a.wf.ls,a.wf.top,fun m t ht=>(a.wf.ok m t ht).keep (zq _) fun j h1 _=>jaa (d5 j om)⟩,a.fds⟩,rfl⟩,Zs (by show ow w≠0;rw[a.wf.tw];omega),fun _ _=>rfl⟩;rw[jaa (d5 s (by rw[a.wf.ts];omega)),a.wf.hs]
end
theorem jeH(ws:Ws):∀(m n:Nat),n<=m->(jav ws m).take (jav ws n).length=jav ws n
 |0,n,h=>by
  obtain rfl:n=0:=by omega
  simp
 |m+1,n,h=>by
  by_cases e:n=m+1
  .subst e;simp
  .have ih:=jeH ws m n om;have hl:(jav ws n).length<=(jav ws m).length:=by
    have:=congrArg List.length ih;rw[List.length_take]at this;omega
   rw[jcI,List.take_append_of_le_length hl,ih]
section
variable{cl:Nat->Call}(Z:Sem cl){h:H}{w s:Nat}{ow:Nat->Nat}{l:List WX}{now:Int}{tb:Tb}{no:Option (Nat×Nat)}
include Z
theorem jg1{d k:Nat}(hd:5<=d)(hk:k=1\/k=2)(a:WW h w s ow l now tb no)(j4:l.length<=1000) :
  ∃v h',cl d (.fn 144) [.p w 0,.i (k:Int)] h=some (.tup [v,.bool (decide (((jav (wxs l) 96).take k).length=k)&&decide (l.length<1000))],h')/\VI h' v ((jav (wxs l) 96).take k)/\(∀z,v.at?=some z->h.nx<=z/\z<h'.nx)/\Old h h':=by
 obtain⟨sa,c,hw,_⟩:=a.wf.head;have lw:=a.wf.lw
 suffices q:∃v2 h',cl d (.fn 144) [.p w 0,.i (k:Int)] h=some (v2,h')/\∃v,v2 = .tup [v,.bool (decide (((jav (wxs l) 96).take k).length=k)&&decide (l.length<1000))]/\Row h.nx h' 1 v ((jav (wxs l) 96).take k).length (ints ((jav (wxs l) 96).take k))/\Old h h' by
  obtain⟨_,h',e,v,rfl,r,o⟩:=q;obtain⟨p1,p2⟩:=VI.ofRow r;exact⟨v,h',e,p1,p2,o⟩
 refine aT Z ?_;refine Ga ?_;refine zcu (ob:= .cells [.i (k:Int)] false) (mk:=fun b=>.p b 0) rfl rfl ?_;refine Ga ?_;refine zcu (ob:= .cells [.nils] false) (mk:=fun b=>.p b 0) rfl rfl ?_;refine Ga ?_;refine zaw rfl (joo Z (w:=w) om) ?_;rw[show ((h.new (.cells [.i (k:Int)] false)).new (.cells [.nils] false)).nx=h.nx+2 from rfl,show (h.new (.cells [.i (k:Int)] false)).nx=h.nx+1 from rfl];refine Ga ?_;have o1:Old h (((h.new (.cells [.i (k:Int)] false)).new (.cells [.nils] false)).new (.cells [.p w 0] false)):=(Zz h).new.new.new;have b0:(((h.new (.cells [.i (k:Int)] false)).new (.cells [.nils] false)).new (.cells [.p w 0] false)).get h.nx=some (.cells [.i (k:Int)] false):=qgt;have b1:(((h.new (.cells [.i (k:Int)] false)).new (.cells [.nils] false)).new (.cells [.p w 0] false)).get (h.nx+1)=some (.cells [.nils] false):=qgt;have b2:(((h.new (.cells [.i (k:Int)] false)).new (.cells [.nils] false)).new (.cells [.p w 0] false)).get (h.nx+2)=some (.cells [.p w 0] false):=qgt;have x1:(((h.new (.cells [.i (k:Int)] false)).new (.cells [.nils] false)).new (.cells [.p w 0] false)).nx=h.nx+3:=rfl;generalize ((h.new (.cells [.i (k:Int)] false)).new (.cells [.nils] false)).new (.cells [.p w 0] false)=H1 at o1 b0 b1 b2 x1 ⊢;refine Run.rangeFunc_lo rfl qkp fun LO mD=>?_;rw[x1];have oL:Old h (H1.new (LO .ready none)):=o1.new;obtain⟨v,h',hc,xK⟩:=jk9 Z (d:=d-1) (L:=h.nx+3) (bx:=h.nx+2) (h:=H1.new (LO .ready none)) (f:=fun i=>atS (wxs l) (i:Int)) (s:=s) (now:=now) (no:=no) (w:=w) (wl:=wc (fun i=>atS (wxs l) (i:Int)) (.slice sa l.length c) s now no) om
  (fun i g=>(jav (wxs l) i).length<=k/\i<=96/\(∃v,g.get (h.nx+1)=some (.cells [v] false)/\Row (h.nx+4) g 1 v (jav (wxs l) i).length (ints (jav (wxs l) i)))/\g.get h.nx=some (.cells [.i (k:Int)] false)/\g.get (h.nx+3)=some (LO .ready none)/\h.nx+4<=g.nx/\Old h g)
  (fun g=>(∃v,g.get (h.nx+1)=some (.cells [v] false)/\Row (h.nx+4) g 1 v ((jav (wxs l) 96).take k).length (ints ((jav (wxs l) 96).take k)))/\g.get h.nx=some (.cells [.i (k:Int)] false)/\g.get (h.nx+3)=some (LO .done (some (.exit 0)))/\h.nx+4<=g.nx/\Old h g)
  (.inr (by rw[oL.2 _ lw,hw])) ⟨jbv,jkA⟩ (by rw[jad om,b2])
  (by
   rintro i g g' ⟨p0,eG,⟨v,p1,p2⟩,p3,p4,p5,p6⟩ og;exact⟨p0,eG,⟨v,by rw[og.2 _ om,p1],p2.keep og.1 fun z hz=>og.2 z (p2.at_ge hz).2⟩,by rw[og.2 _ om,p3],by rw[og.2 _ om,p4],zA p5 og.1,p6.trans og⟩)
  (by
   rintro i g hi hf ⟨p0,eG,p1,p2⟩;have e:jav (wxs l) (i+1)=jav (wxs l) i:=by
    have:(atS (wxs l) (i:Int)).isNone=false:=by cases h5:atS (wxs l) (i:Int)<;>simp_all
    rw[jcI,this];simp
   rw[e];exact⟨p0,by omega,p1,p2⟩)
  (by
   rintro i g hi hf ⟨p0,eG,⟨v,p1,p2⟩,p3,p4,p5,p6⟩;have nV:atS (wxs l) (i:Int)=none:=hf;have e:jav (wxs l) (i+1)=jav (wxs l) i++[(i:Int)]:=by rw[jcI,nV];rfl
   have mE:=ji1 (wxs l) i;obtain⟨cp,⟨av,rfl⟩,_⟩:=p2.shape
   suffices q:∃v' g',cl (d-1-1) (.yld (h.nx+3)) [.i (i:Int)] g=some (v',g')/\∃b:Bool,v' = .bool b/\(b=true->(jav (wxs l) (i+1)).length<=k/\i+1<=96/\(∃v,g'.get (h.nx+1)=some (.cells [v] false)/\Row (h.nx+4) g' 1 v (jav (wxs l) (i+1)).length (ints (jav (wxs l) (i+1))))/\g'.get h.nx=some (.cells [.i (k:Int)] false)/\g'.get (h.nx+3)=some (LO .ready none)/\h.nx+4<=g'.nx/\Old h g') /\
     (b=false->(∃v,g'.get (h.nx+1)=some (.cells [v] false)/\Row (h.nx+4) g' 1 v ((jav (wxs l) 96).take k).length (ints ((jav (wxs l) 96).take k)))/\g'.get h.nx=some (.cells [.i (k:Int)] false)/\g'.get (h.nx+3)=some (LO .done (some (.exit 0)))/\h.nx+4<=g'.nx/\Old h g') by
    obtain⟨_,g',e,b,rfl,q⟩:=q;exact⟨b,g',e,q⟩
   refine yl_ Z om mD p4 rfl ?_;refine Ga ?_;refine Zn ⟨rfl,p4,?_⟩;by_cases hck:(jav (wxs l) i).length=k
   .have Pe:((jav (wxs l) i).length:Int)=(k:Int):=by omega
    refine Ga ?_;refine Zn ⟨⟨.busy,none,qgt⟩,false,rfl,fun e=>(by cases e),fun _=>⟨⟨_,qgt,?_⟩,qgt,jab _,by simpa using p5,?_⟩⟩
    .rw[<- hck,jeH _ 96 i om];exact p2.keep Zd fun z hz=>by have:=p2.at_ge hz;rw[jaa om,jaa om]
    .exact (p6.set om).set om
   .have Pe:¬((jav (wxs l) i).length:Int)=(k:Int):=by omega
    refine Ga ?_;have yY:Row (h.nx+4) (g.set (h.nx+3) (LO .busy none)) 1 (.slice av (jav (wxs l) i).length cp) (jav (wxs l) i).length (ints (jav (wxs l) i)):=p2.keep Zd fun z hz=>by have:=p2.at_ge hz;exact jaa om
    refine Ops.push (N:=h.nx+4) (new:=[.i (i:Int)]) rfl rfl rfl rfl om rfl rfl yY (by simpa using p5) om om fun v' g2 row' cB iA w6=>?_;have cB:g.nx<=g2.nx:=by simpa using cB
    have nB:∀j,j<h.nx+4->g2.get j=(g.set (h.nx+3) (LO .busy none)).get j:=fun j hj=>w6 j Zc fun e=>by have:=yY.at_ge e;omega
    have q1:g2.get (h.nx+1)=some (.cells [.slice av (jav (wxs l) i).length cp] false):=by rw[nB _ om];exact qgt
    have m9:=row'.one;refine zcs rfl rfl m9 q1 zM ?_;refine Ga ?_;refine Zn ⟨⟨.busy,none,by rw[jaa om,nB _ om,jab]⟩,true,rfl,fun _=>⟨by rw[e,zg];simp;omega,by omega,⟨v',qgt,?_⟩,?_,jab _,by simp;omega,?_⟩,fun e=>by cases e⟩
    .rw[e,zg];have r2:Row (h.nx+4) g2 1 v' ((jav (wxs l) i).length+[(i:Int)].length) (ints (jav (wxs l) i++[(i:Int)])):=by simpa[ints] using row'
     exact r2.keep Zd fun z hz=>by have:=iA z hz;simp at this;rw[jaa om,jaa om]
    .rw[jaa om,jaa om,nB _ om,jaa om,p3]
    .have p7:=p6.1;exact⟨by simp;omega,fun j hj=>by rw[jaa om,jaa om,nB _ om,jaa om,p6.2 j hj]⟩)
  ⟨by simp[jav],by omega,⟨.nils,by rw[jad om,b1],by simpa[jav] using Row.nil _ _ _⟩,by rw[jad om,b0],by rw[<- x1,jac],by simp[x1],oL⟩
 refine⟨v,h',hc,?_⟩;have fin:∀(v:V) (g:H),g.get (h.nx+1)=some (.cells [v] false)->Row (h.nx+4) g 1 v ((jav (wxs l) 96).take k).length (ints ((jav (wxs l) 96).take k))->g.get h.nx=some (.cells [.i (k:Int)] false)->h.nx+4<=g.nx->Old h g ->
   End (cl (d-1)) fuel [.seq c144_1] .normal [(0,.p w 0),(3,.p h.nx 0),(6,.p (h.nx+1) 0),(9,.clo 146 [.p (h.nx+2) 0])] (g.kill (h.nx+3)) (Fin c144.res fun v2 h'=>∃v,v2 = .tup [v,.bool (decide (((jav (wxs l) 96).take k).length=k)&&decide (l.length<1000))]/\Row h.nx h' 1 v ((jav (wxs l) 96).take k).length (ints ((jav (wxs l) 96).take k))/\Old h h'):=by
  intro v g g1 r g0 gn og;have Qe:g.get w=some (.cells (wc (fun i=>atS (wxs l) (i:Int)) (.slice sa l.length c) s now no) false):=by rw[og.2 _ lw,hw]
  have k1:(g.kill (h.nx+3)).get (h.nx+1)=some (.cells [v] false):=by rw[jai om,g1]
  have k0:(g.kill (h.nx+3)).get h.nx=some (.cells [.i (k:Int)] false):=by rw[jai om,g0]
  have kw:(g.kill (h.nx+3)).get w=some (.cells (wc (fun i=>atS (wxs l) (i:Int)) (.slice sa l.length c) s now no) false):=by rw[jai om,Qe]
  have w1:(wc (fun i=>atS (wxs l) (i:Int)) (.slice sa l.length c) s now no)[0+288]?=some (.slice sa l.length c):=jaR rfl;have r2:Row h.nx (g.kill (h.nx+3)) 1 v ((jav (wxs l) 96).take k).length (ints ((jav (wxs l) 96).take k)):=(r.keep Zd fun z hz=>by have:=r.at_ge hz;exact jai om).weaken om;have o2:Old h (g.kill (h.nx+3)):=⟨by simpa using og.1,fun j hj=>by rw[jai om,og.2 j hj]⟩
  obtain⟨cp,⟨av,rfl⟩,_⟩:=r.shape;generalize (jav (wxs l) 96).take k=fl at r2 k1 ⊢;by_cases h1:(fl.length:Int)=(k:Int)
  .have dH:fl.length=k:=by omega
   refine Ga ?_;have el:decide (l.length<1000)=decide ((l.length:Int)<1000):=by
    by_cases e:l.length<1000
    .rw[zG e,zG om]
    .rw[zE e,zE om]
   refine⟨_,?_,r2,o2⟩;rw[zG dH,Bool.true_and,el]
  .have dH:¬fl.length=k:=by omega
   refine Ga ?_;exact⟨_,by rw[zE dH,Bool.false_and],r2,o2⟩
 rcases xK with⟨p0,_,⟨v,p1,p2⟩,p3,p4,p5,p6⟩|⟨⟨v,p1,p2⟩,p3,p4,p5,p6⟩
 .refine⟨.normal,p4,?_⟩;have et:(jav (wxs l) 96).take k=jav (wxs l) 96:=zh p0;have:=fin v h' p1 (by rw[et];exact p2) p3 p5 p6;exact zbw this
 .refine⟨.exit 0,p4,?_⟩;have:=fin v h' p1 p2 p3 p5 p6;exact zby this
end
def jqj(n:Nat):Wi:=⟨⟨0,0,some [],true,false,0,0⟩,⟨0,0,some [],true,false,0,0⟩,n,false,0,[]⟩
def jn4(bb n:Nat):Obj:= .cells [.slice (some (bb,0)) n (.fix n),.i 0,.i 0,.int .u64 0,.int .u64 0,.bool true] false
def bufO(n:Nat):Obj:= .cells (List.replicate n (.int .u8 0)) false
theorem jeX{h:H}{r bb n:Nat}(h1:1<=n)(h2:n<=65536)(hr:h.get r=some (jn4 bb n))(hb:h.get bb=some (bufO n)):ja3 h r bb [] n:=by
 refine⟨List.replicate n 0,0,0,0,⟨hr,?_⟩,?_⟩
 .rw[hb];simp[bufO,bts];exact .inr rfl
 .exact⟨by simp,h1,zY _,h2,fun i hi=>zJ hi (Nat.not_lt_zero _)⟩
def tg:Nat->Nat
 |0=>0
 |1=>2
 |2=>1
 |3=>4
 |_=>3
def jgM(ow:Nat->Nat)(N L m z:Nat):Nat->Nat:=fun j=>if j=z then 2 else if N<=j/\j<N+m then 10*L+10+tg (j-N) else ow j
theorem joJ{ow:Nat->Nat}{N L m z:Nat}:jgM ow N L m z z=2:=zD rfl
theorem joK{ow:Nat->Nat}{N L m z i:Nat}(h:i<m)(hz:N+i≠z):jgM ow N L m z (N+i)=10*L+10+tg i:=by
 unfold jgM;rw[zC hz,zD om,show N+i-N=i by omega]
theorem jgL{ow:Nat->Nat}{N L m z j:Nat}(h:j<N\/N+m<=j)(hz:j≠z):jgM ow N L m z j=ow j:=by
 unfold jgM;rw[zC hz,zC om]
theorem XOk.tag0{h:H}{ow ow':Nat->Nat}{n:Nat}{t:WX}(a:XOk h ow n t)(hk:∀j,ow j≠0->ow' j=ow j):XOk h ow' n t:=by
 refine⟨a.hx,by rw[hk _ (by rw[a.ox];omega),a.ox],a.lx,fun k fH q hq=>?_,a.wait.1,fun hl z hz=>?_⟩
 .obtain⟨p1,p2,p3,p4,p5⟩:=a.ring k fH q hq;exact⟨p1,by rw[hk _ om,p2],by rw[hk _ om,p3],p4,p5⟩
 .obtain⟨p1,p2⟩:=a.wait.2 hl z hz;exact⟨by rw[hk _ om,p1],p2⟩
theorem WF.push{h h':H}{w s:Nat}{ow:Nat->Nat}{f g:Nat->Option (Nat×Nat)}{l:List WX}{now:Int}{tb:Tb}{no:Option (Nat×Nat)}{m z N:Nat}{wv:V}{t:WX}(a:WF h w s ow f l now tb no)
  (hm:m=1\/m=5) (hN:N+m<=h.nx) (h0:∀j,N<=j->j<N+m->ow j=0) (hx:h.nx<=z) (hz:z<h'.nx) (hk:∀j,ow j≠0->ow j≠2->j≠w->h'.get j=h.get j)
  (hw:h'.get w=some (.cells (wc g wv s now no) false)) (row:Row 0 h' 1 wv (l.length+1) (wps l++[.p N 0])) (d7:∀y,wv.at?=some y->y=z)
  (t0:t.wb=N) (t1:m=5->t.b0=N+1/\t.r0=N+2/\t.b1=N+3/\t.r1=N+4)
  (ho:h'.get N=some (t.x.obj t.r0 t.r1 t.wv)) (fC:t.x.waiting=[]) (uP:t.wv = .nils)
  (hr:∀k,k=0\/k=1 -> ∀q,(t.x.e k).ring=some q->m=5/\ja3 h' (t.r k) (t.b k) q t.x.cap) :
  WF h' w s (jgM ow N l.length m z) g (l++[t]) now tb no:=by
 have oV:ow z=0:=a.top z hx;have keep:∀j,ow j≠0->jgM ow N l.length m z j=ow j:=fun j hj=>jgL (by
  rcases zx j N with h1|h1
  .exact .inl h1
  .rcases zx j (N+m) with h2|h2
   .exact zJ (h0 j h1 h2) hj
   .exact .inr h2) fun e=>hj (by rw[e,oV])
 have nx:h.nx<=h'.nx:=by omega
 refine⟨⟨wv,hw,?_,fun y hy=>by rw[d7 y hy,joJ]⟩,?_,?_,?_,zr a.lw nx,zr a.ls nx,fun j hj=>?_,fun n u hu=>?_⟩
 .rw[zg];show Row 0 h' 1 wv (l.length+1) (wps (l++[t]));have:wps (l++[t])=wps l++[.p N 0]:=by rw[<- t0];simp
  rw[this];exact row
 .rw[hk s (by rw[a.ts];omega) (by rw[a.ts];omega) (fun e=>by have:=a.ts;rw[e,a.tw]at this;omega),a.hs]
 .rw[keep w (by rw[a.tw];omega),a.tw]
 .rw[keep s (by rw[a.ts];omega),a.ts]
 .rw[jgL om om,a.top j om]
 .rcases zx n l.length with hn|hn
  .rw[ze,zD hn]at hu;have o:=(a.ok n u hu).tag0 keep;refine o.keep nx fun j j1 j2=>?_;have hj:ow j≠0:=by
    intro e;rcases zx j N with h1|h1
    .by_cases ez:j=z
     .omega
     .rw[jgL (.inl h1) ez,e]at j1;omega
    .by_cases ez:j=z
     .rw[ez,joJ]at j1;omega
     .rcases zx j (N+m) with h2|h2
      .obtain⟨i,rfl⟩:∃i,j=N+i:=⟨j-N,by omega⟩
       rw[joK om ez]at j2;omega
      .rw[jgL (.inr h2) ez,e]at j1;omega
   refine hk j hj (fun e=>?_) fun e=>?_
   .rw[keep j hj,e]at j1;omega
   .rw[keep j hj,e,a.tw]at j1;omega
  .rw[ze,zC om]at hu;have e0:n-l.length=0:=by
    rcases Nat.eq_zero_or_pos (n-l.length) with e|e
    .exact e
    .rw[zd (show 1<=_ from e)]at hu;cases hu
   rw[e0]at hu;cases hu;obtain rfl:n=l.length:=by omega
   have tag:∀i,i<m->jgM ow N l.length m z (N+i)=10*l.length+10+tg i:=fun i hi=>joK hi om;refine⟨by rw[t0];exact ho,by rw[t0];exact tag 0 om,by rw[t0];omega,fun k hk q hq=>?_,by rw[fC,uP];exact VI.nil h',fun hl=>zJ fC hl⟩;obtain⟨r1,r2⟩:=hr k hk q hq;obtain⟨p1,p2,p3,p4⟩:=t1 r1;refine⟨r2,?_⟩;rcases hk with rfl|rfl
   .show jgM ow N l.length m z t.r0=_/\jgM ow N l.length m z t.b0=_/\t.r0<h'.nx/\t.b0<h'.nx;rw[p1,p2];exact⟨tag 2 om,tag 1 om,by omega,by omega⟩
   .show jgM ow N l.length m z t.r1=_/\jgM ow N l.length m z t.b1=_/\t.r1<h'.nx/\t.b1<h'.nx;rw[p3,p4];exact⟨tag 4 om,tag 3 om,by omega,by omega⟩
theorem End.opqh{call:Call}{fuel:Nat}{K:List Fr}{x:Ex}{e:Env}{h:H}{Q:Post}(k:∀G,G=h->End call fuel K x e G Q):End call fuel K x e h Q:=k h rfl
section
variable{cl:Nat->Call}(Z:Sem cl)
include Z
theorem jjd{d:Nat}{h:H}{n:Int}(hd:1<=d)(hn:n<0\/65536<n):cl d (.fn 142) [.i n] h=some (.tup [.ptr none,.i 2],h):=by
 refine jaj (aT Z ?_);rcases hn with hn|hn
 .refine Ga ?_;exact⟨rfl,rfl⟩
 .by_cases h0:n<0
  .exfalso;omega
  .refine Ga ?_;exact⟨rfl,rfl⟩
theorem jok{d:Nat}{h:H}{n:Nat}(hd:2<=d)(h2:n<=65536) :
  ∃h',cl d (.fn 72) [.i (n:Int)] h=some (.p h.nx 0,h')/\h'.nx=h.nx+5/\Old h h'/\h'.get h.nx=some ((jqj n).obj (h.nx+2) (h.nx+4) .nils)/\h'.get (h.nx+2)=some (jn4 (h.nx+1) n)/\h'.get (h.nx+1)=some (bufO n)/\h'.get (h.nx+4)=some (jn4 (h.nx+3) n)/\h'.get (h.nx+3)=some (bufO n):=by
 refine jae (aT Z ?_);refine qm ?_;refine Zw (n:=99999) rfl ?_;refine qm ?_;refine zaw rfl (jpA Z (n:=n) om h2) ?_;refine qm ?_;refine End.opqh fun G hG=>?_;have x1:G.nx=h.nx+3:=by rw[hG];rfl
 have o1:Old h G:=by
  rw[hG]
  repeat (first|exact Zz _|refine Old.new ?_|refine Old.set ?_ (zq _))
 have g0:G.get h.nx=some (.cells [.i 0,.i 0,.p (h.nx+2) 0,.bool true,.bool false,.int .u64 0,.int .u64 0,.i 0,.i 0,.ptr none,.bool false,.bool false,.int .u64 0,.int .u64 0,.bool false,.i 0,.nils] false):=by
  rw[hG];exact jab _
 have g1:G.get (h.nx+1)=some (bufO n):=by
  rw[hG];rw[jaa om,jaa om,jad (Nat.lt_succ_self _)];exact jac _
 have g2:G.get (h.nx+2)=some (jn4 (h.nx+1) n):=by
  rw[hG];rw[jaa om,jaa om];exact jac _
 clear hG;refine Zx ?_;refine qm ?_;refine zaw rfl (jpA Z (n:=n) om h2) ?_;have eM:((G.new (.cells (List.replicate n (.int .u8 0)) false)).new (.cells [.slice (some (G.nx,0)) n (.fix n),.i 0,.i 0,.int .u64 0,.int .u64 0,.bool true] false)).get h.nx=G.get h.nx:=by
  rw[jad Zc,jad om]
 rw[g0]at eM;refine qm ?_;refine End.opqh fun G2 hG2=>?_;have x2:G2.nx=h.nx+5:=by rw[hG2];show G.nx+1+1=_;omega
 have o2:Old h G2:=by
  rw[hG2]
  repeat (first|exact o1|refine Old.new ?_|refine Old.set ?_ (zq _))
 have k0:G2.get h.nx=some ((jqj n).obj (h.nx+2) (h.nx+4) .nils):=by
  rw[hG2];refine (jab _).trans ?_;have:G.nx+1=h.nx+4:=by omega
  rw[<- this];rfl
 have k1:G2.get (h.nx+1)=some (bufO n):=by
  rw[hG2];rw[jaa om,jaa om,jad Zc,jad om];exact g1
 have k2:G2.get (h.nx+2)=some (jn4 (h.nx+1) n):=by
  rw[hG2];rw[jaa om,jaa om,jad Zc,jad om];exact g2
 have k3:G2.get (h.nx+3)=some (bufO n):=by
  rw[hG2,<- x1];rw[jaa om,jaa om,jad Zd];exact jac _
 have k4:G2.get (h.nx+4)=some (jn4 (h.nx+3) n):=by
  have e:h.nx+4=G.nx+1:=by omega
  rw[hG2,e,<- x1];rw[jaa om,jaa om];exact jac _
 clear hG2;refine Zx ?_;refine qm ?_;exact⟨rfl,x2,o2,k0,k2,k1,k4,k3⟩
theorem jl9{d:Nat}{h:H}{n:Int}(hd:2<=d)(hn:n<0\/65536<n) :
  ∃h',cl d (.fn 72) [.i n] h=some (.p h.nx 0,h')/\h'.nx=h.nx+1/\Old h h'/\h'.get h.nx=some ((⟨⟨0,0,none,true,false,0,0⟩,⟨0,0,none,true,false,0,0⟩,0,false,0,[]⟩:Wi).obj 0 0 .nils):=by
 refine jae (aT Z ?_);refine qm ?_;refine Zw (n:=99999) rfl ?_;refine qm ?_;refine zaw rfl (jjd Z (n:=n) om hn) ?_;refine qm ?_;refine End.opqh fun G hG=>?_;have x1:G.nx=h.nx+1:=by rw[hG];rfl
 have o1:Old h G:=by
  rw[hG]
  repeat (first|exact Zz _|refine Old.new ?_|refine Old.set ?_ (zq _))
 have g0:G.get h.nx=some (.cells [.i 0,.i 0,.ptr none,.bool true,.bool false,.int .u64 0,.int .u64 0,.i 0,.i 0,.ptr none,.bool false,.bool false,.int .u64 0,.int .u64 0,.bool false,.i 0,.nils] false):=by
  rw[hG];exact jab _
 clear hG;refine Zx ?_;refine qm ?_;refine zaw rfl (jjd Z (n:=n) om (by assumption)) ?_;refine qm ?_;refine End.opqh fun G2 hG2=>?_;have x2:G2.nx=h.nx+1:=by rw[hG2];exact x1
 have o2:Old h G2:=by
  rw[hG2]
  repeat (first|exact o1|refine Old.new ?_|refine Old.set ?_ (zq _))
 have k0:G2.get h.nx=some ((⟨⟨0,0,none,true,false,0,0⟩,⟨0,0,none,true,false,0,0⟩,0,false,0,[]⟩:Wi).obj 0 0 .nils):=by
  rw[hG2];exact jab _
 clear hG2;refine Zx ?_;refine qm ?_;exact⟨rfl,x2,o2,k0⟩
end
def Wi.name(x:Wi)(k:Nat)(i:Nat):Wi:=x.put k {x.e k with what:=1,fd:=i}
structure Opened(h h':H)(w s N:Nat)(ow:Nat->Nat)(g:Nat->Option (Nat×Nat))(l:List WX)(now:Int)(no:Option (Nat×Nat))(o:Obj):Prop where
 ho:h'.get N=some o
 hw:∃wv z,h'.get w=some (.cells (wc g wv s now no) false)/\Row 0 h' 1 wv (l.length+1) (wps l++[.p N 0])/\(∀y,wv.at?=some y->y=z)/\h.nx<=z/\z<h'.nx
 hk:∀j,j<h.nx->j≠N->j≠w->ow j≠2->h'.get j=h.get j
 nx:h.nx<=h'.nx
theorem Ops.opqh{call:Call}{fuel base:Nat}{ops:List Ins}{keep:List Nat}{K:List Fr}{e:Env}{h:H}{Q:Post}(k:∀G,G=h->Ops call fuel base ops keep K e G Q):Ops call fuel base ops keep K e h Q:=k h rfl
section
variable{cl:Nat->Call}(Z:Sem cl){h:H}{w s:Nat}{ow:Nat->Nat}{f:Nat->Option (Nat×Nat)}{l:List WX}{now:Int}{tb:Tb}{no:Option (Nat×Nat)}
include Z
theorem xp_open1{d N i0:Nat}{vf wv:V}{x:Wi}{r0 r1:Nat}(hd:1<=d)(a:WF h w s ow f l now tb no)(hN:h.get N=some (x.obj r0 r1 wv))(iI:ow N=0)(pJ:N<h.nx)(hl:l.length<1000)(vi:VI h vf [(i0:Int)])(vz:∀z,vf.at?=some z->ow z=0/\z≠N)(hi:i0<96) :
  ∃h',cl d (.fn 145) [.p w 0,.p N 0,vf] h=some (.tup [],h')/\Opened h h' w s N ow (fun j=>if j=i0 then some (l.length,0) else f j) l now no ((x.name 0 i0).obj r0 r1 wv):=by
 obtain⟨Re,hw,row,hz⟩:=a.hw;obtain⟨cp,⟨av,rfl⟩,_⟩:=row.shape;obtain⟨af,cf,rfl,_⟩:=id vi;obtain⟨b,of,cs,ro,rfl,lA,aD⟩:=VI.cell (l:=[(i0:Int)]) vi (i:=0) (x:=(i0:Int)) rfl;have aL:N≠w:=fun e=>by have:=a.tw;rw[<- e]at this;omega
 have aZ:=vz b rfl;have jS:w≠N:=fun e=>aL e.symm;have c1:(wc f (.slice av l.length cp) s now no)[0+288]?=some (.slice av l.length cp):=jaR rfl;obtain⟨⟨a0,b0,c0,d0,e0,f0,g0⟩,⟨a1,b1,lH,d1,e1,f1,g1⟩,cap,rs,bl,wt⟩:=x;simp only[Wi.obj,Wi.cells,En.cells,List.cons_append,List.nil_append]at hN;refine jae (aT Z ?_);refine qm ?_;refine Zw (n:=99999) rfl ?_;refine qm ?_;refine Ops.opqh fun H1 hH1=>?_;have n1:H1.nx=h.nx:=by rw[hH1];rfl
 have k1:∀j,j≠N->H1.get j=h.get j:=by intro j hj;rw[hH1,jaa hj,jaa hj]
 have q1:H1.get N=some (.cells [.i 1,.i i0,En.ptr c0 r0,.bool d0,.bool e0,.int .u64 f0,.int .u64 g0,.i a1,.i b1,En.ptr lH r1,.bool d1,.bool e1,.int .u64 f1,.int .u64 g1,.bool rs,.i bl,wv] false):=by rw[hH1];exact jab _
 clear hH1;have l9:H1.get w=some (.cells (wc f (.slice av l.length cp) s now no) false):=by rw[k1 w jS,hw]
 have e3:jao (wc f (.slice av l.length cp) s now no) (0+0+(i0:Int).toNat*3) [.bool true,.i (l.length:Int),.i 0]=wc (fun j=>if j=i0 then some (l.length,0) else f j) (.slice av l.length cp) s now no:=jfQ (p:=some (l.length,0)) hi om fun j _=>rfl;have j4:0+0+(i0:Int).toNat*3+3<=(wc f (.slice av l.length cp) s now no).length:=by rw[jbv];omega
 refine zct (vs:=[.bool true,.i (l.length:Int),.i 0]) rfl rfl rfl rfl l9 j4 ?_;rw[e3];clear e3 j4;refine qm ?_;refine End.opqh fun H2 hH2=>?_;have n2:H2.nx=h.nx:=by rw[hH2];exact n1
 have k2:∀j,j≠N->j≠w->H2.get j=h.get j:=by intro j hj iH;rw[hH2,jaa iH,k1 j hj]
 have q2:H2.get N=some (.cells [.i 1,.i i0,En.ptr c0 r0,.bool d0,.bool e0,.int .u64 f0,.int .u64 g0,.i a1,.i b1,En.ptr lH r1,.bool d1,.bool e1,.int .u64 f1,.int .u64 g1,.bool rs,.i bl,wv] false):=by rw[hH2,jaa aL,q1]
 have qA:H2.get w=some (.cells (wc (fun j=>if j=i0 then some (l.length,0) else f j) (.slice av l.length cp) s now no) false):=by rw[hH2,jab]
 clear hH2 l9 q1 k1;generalize hg:(fun j=>if j=i0 then some (l.length,0) else f j)=g at qA ⊢;have c2:(wc g (.slice av l.length cp) s now no)[0+288]?=some (.slice av l.length cp):=jaR rfl;refine Zx ?_;refine Ga ?_;have yP:∀z,(V.slice av l.length cp).at?=some z->z≠N/\z≠w:=fun z e=>⟨fun e2=>by have:=hz z e;rw[e2,iI]at this;omega,fun e2=>by have:=hz z e;rw[e2,a.tw]at this;omega⟩
 have aC:Row 0 H2 1 (.slice av l.length cp) l.length (wps l):=row.keep om fun z e=>k2 z (yP z e).1 (yP z e).2;refine Ops.push (N:=0) (new:=[.p N 0]) rfl rfl rfl rfl om rfl rfl aC (zY _) om om fun v' H3 bG nK cM kS=>?_;have k3:∀j,j<h.nx->ow j≠2->H3.get j=H2.get j:=fun j hj ho=>kS j om fun e=>ho (hz j e);have eH:H3.get w=some (.cells (wc g (.slice av l.length cp) s now no) false):=by rw[k3 w a.lw (by rw[a.tw];omega),qA]
 have q3:H3.get N=some (.cells [.i 1,.i i0,En.ptr c0 r0,.bool d0,.bool e0,.int .u64 f0,.int .u64 g0,.i a1,.i b1,En.ptr lH r1,.bool d1,.bool e1,.int .u64 f1,.int .u64 g1,.bool rs,.i bl,wv] false):=by rw[k3 N pJ om,q2]
 have j4:0+288<(wc g (.slice av l.length cp) s now no).length:=by rw[jbv];omega
 have m9:=bG.one;refine Ga ?_;refine zcs rfl rfl m9 eH j4 ?_;rw[je2 rfl];refine Ga ?_;have pV:∀z,v'.at?=some z->z≠w:=fun z e=>by have:=cM z e;have:=a.lw;omega
 refine⟨rfl,by rw[jaa aL,q3];rfl,⟨v',?_⟩,fun j hj h1 h2 h3=>by rw[jaa h2,k3 j hj h3,k2 j h1 h2],by show h.nx<=H3.nx;omega⟩;rcases id bG with⟨h0,_⟩|⟨z,_,z1,rfl,_,_⟩
 .omega
 .refine⟨z,jab _,bG.keep (zq _) fun y e=>jaa (pV y e),fun y e=>by cases e;rfl,by have:=cM z rfl;omega,z1⟩
theorem xp_open2{d N i0 i1:Nat}{vf wv:V}{x:Wi}{r0 r1:Nat}(hd:1<=d)(a:WF h w s ow f l now tb no)(hN:h.get N=some (x.obj r0 r1 wv))(iI:ow N=0)(pJ:N<h.nx)(hl:l.length<1000)(vi:VI h vf [(i0:Int),(i1:Int)])(vz:∀z,vf.at?=some z->ow z=0/\z≠N)(hi:i0<96)(a8:i1<96) :
  ∃h',cl d (.fn 145) [.p w 0,.p N 0,vf] h=some (.tup [],h')/\Opened h h' w s N ow (fun j=>if j=i1 then some (l.length,1) else if j=i0 then some (l.length,0) else f j) l now no (((x.name 0 i0).name 1 i1).obj r0 r1 wv):=by
 obtain⟨Re,hw,row,hz⟩:=a.hw;obtain⟨cp,⟨av,rfl⟩,_⟩:=row.shape;obtain⟨af,cf,rfl,_⟩:=id vi;obtain⟨b,of,cs,ro,rfl,lA,aD⟩:=VI.cell (l:=[(i0:Int),(i1:Int)]) vi (i:=0) (x:=(i0:Int)) rfl;obtain⟨_,_,_,_,e0,ecs,xD⟩:=VI.cell (l:=[(i0:Int),(i1:Int)]) vi (i:=1) (x:=(i1:Int)) rfl;cases e0;rw[lA]at ecs;cases ecs;have aL:N≠w:=fun e=>by have:=a.tw;rw[<- e]at this;omega
 have aZ:=vz b rfl;have jS:w≠N:=fun e=>aL e.symm;have Se:b≠w:=fun e=>by have:=a.tw;rw[<- e]at this;omega
 have c1:(wc f (.slice av l.length cp) s now no)[0+288]?=some (.slice av l.length cp):=jaR rfl;obtain⟨⟨a0,b0,c0,d0,e0,f0,g0⟩,⟨a1,b1,lH,d1,e1,f1,g1⟩,cap,rs,bl,wt⟩:=x;simp only[Wi.obj,Wi.cells,En.cells,List.cons_append,List.nil_append]at hN;refine jae (aT Z ?_);refine qm ?_;refine Zw (n:=99999) rfl ?_;refine qm ?_;refine Ops.opqh fun H1 hH1=>?_;have n1:H1.nx=h.nx:=by rw[hH1];rfl
 have k1:∀j,j≠N->H1.get j=h.get j:=by intro j hj;rw[hH1,jaa hj,jaa hj]
 have q1:H1.get N=some (.cells [.i 1,.i i0,En.ptr c0 r0,.bool d0,.bool e0,.int .u64 f0,.int .u64 g0,.i a1,.i b1,En.ptr lH r1,.bool d1,.bool e1,.int .u64 f1,.int .u64 g1,.bool rs,.i bl,wv] false):=by rw[hH1];exact jab _
 clear hH1;have l9:H1.get w=some (.cells (wc f (.slice av l.length cp) s now no) false):=by rw[k1 w jS,hw]
 have e3:jao (wc f (.slice av l.length cp) s now no) (0+0+(i0:Int).toNat*3) [.bool true,.i (l.length:Int),.i 0]=wc (fun j=>if j=i0 then some (l.length,0) else f j) (.slice av l.length cp) s now no:=jfQ (p:=some (l.length,0)) hi om fun j _=>rfl;have j4:0+0+(i0:Int).toNat*3+3<=(wc f (.slice av l.length cp) s now no).length:=by rw[jbv];omega
 refine zct (vs:=[.bool true,.i (l.length:Int),.i 0]) rfl rfl rfl rfl l9 j4 ?_;rw[e3];clear e3 j4;refine qm ?_;refine End.opqh fun H2 hH2=>?_;have n2:H2.nx=h.nx:=by rw[hH2];exact n1
 have k2:∀j,j≠N->j≠w->H2.get j=h.get j:=by intro j hj iH;rw[hH2,jaa iH,k1 j hj]
 have q2:H2.get N=some (.cells [.i 1,.i i0,En.ptr c0 r0,.bool d0,.bool e0,.int .u64 f0,.int .u64 g0,.i a1,.i b1,En.ptr lH r1,.bool d1,.bool e1,.int .u64 f1,.int .u64 g1,.bool rs,.i bl,wv] false):=by rw[hH2,jaa aL,q1]
 have qA:H2.get w=some (.cells (wc (fun j=>if j=i0 then some (l.length,0) else f j) (.slice av l.length cp) s now no) false):=by rw[hH2,jab]
 clear hH2 l9 q1 k1;obtain⟨fA,qV⟩:∃fA,(fun j=>if j=i0 then some (l.length,0) else f j)=fA:=⟨_,rfl⟩
 rw[qV]at qA;have c2A:(wc fA (.slice av l.length cp) s now no)[0+288]?=some (.slice av l.length cp):=jaR rfl;have bZ:H2.get b=some (.cells cs ro):=by rw[k2 b aZ.2 Se,lA]
 refine Zx ?_;refine qm ?_;refine Ops.opqh fun H4 hH4=>?_;have n4:H4.nx=h.nx:=by rw[hH4];exact n2
 have k4:∀j,j≠N->H4.get j=H2.get j:=by intro j hj;rw[hH4,jaa hj,jaa hj]
 have q4:H4.get N=some (.cells [.i 1,.i i0,En.ptr c0 r0,.bool d0,.bool e0,.int .u64 f0,.int .u64 g0,.i 1,.i i1,En.ptr lH r1,.bool d1,.bool e1,.int .u64 f1,.int .u64 g1,.bool rs,.i bl,wv] false):=by rw[hH4];exact jab _
 clear hH4;have tN:H4.get w=some (.cells (wc fA (.slice av l.length cp) s now no) false):=by rw[k4 w jS,qA]
 have e3:jao (wc fA (.slice av l.length cp) s now no) (0+0+(i1:Int).toNat*3) [.bool true,.i (l.length:Int),.i 1]=wc (fun j=>if j=i1 then some (l.length,1) else fA j) (.slice av l.length cp) s now no:=jfQ (p:=some (l.length,1)) a8 om fun j _=>rfl;have j4:0+0+(i1:Int).toNat*3+3<=(wc fA (.slice av l.length cp) s now no).length:=by rw[jbv];omega
 refine zct (vs:=[.bool true,.i (l.length:Int),.i 1]) rfl rfl rfl rfl tN j4 ?_;rw[e3];clear e3 j4;refine qm ?_;refine End.opqh fun H5 vG=>?_;have n5:H5.nx=h.nx:=by rw[vG];exact n4
 have k5:∀j,j≠N->j≠w->H5.get j=h.get j:=by intro j hj iH;rw[vG,jaa iH,k4 j hj,k2 j hj iH]
 have q5:H5.get N=some (.cells [.i 1,.i i0,En.ptr c0 r0,.bool d0,.bool e0,.int .u64 f0,.int .u64 g0,.i 1,.i i1,En.ptr lH r1,.bool d1,.bool e1,.int .u64 f1,.int .u64 g1,.bool rs,.i bl,wv] false):=by rw[vG,jaa aL,q4]
 have wP:H5.get w=some (.cells (wc (fun j=>if j=i1 then some (l.length,1) else fA j) (.slice av l.length cp) s now no) false):=by rw[vG,jab]
 clear vG tN q4 k4 c2A bZ;have cZ:(fun j=>if j=i1 then some (l.length,1) else fA j)=fun j=>if j=i1 then some (l.length,1) else if j=i0 then some (l.length,0) else f j:=by rw[<- qV]
 rw[cZ]at wP;clear cZ qV;generalize hg:(fun j=>if j=i1 then some (l.length,1) else if j=i0 then some (l.length,0) else f j)=g at wP ⊢;have c2:(wc g (.slice av l.length cp) s now no)[0+288]?=some (.slice av l.length cp):=jaR rfl;refine Zx ?_;refine Ga ?_;have yP:∀z,(V.slice av l.length cp).at?=some z->z≠N/\z≠w:=fun z e=>⟨fun e2=>by have:=hz z e;rw[e2,iI]at this;omega,fun e2=>by have:=hz z e;rw[e2,a.tw]at this;omega⟩
 have aC:Row 0 H5 1 (.slice av l.length cp) l.length (wps l):=row.keep om fun z e=>k5 z (yP z e).1 (yP z e).2;refine Ops.push (N:=0) (new:=[.p N 0]) rfl rfl rfl rfl om rfl rfl aC (zY _) om om fun v' H3 bG nK cM kS=>?_;have k3:∀j,j<h.nx->ow j≠2->H3.get j=H5.get j:=fun j hj ho=>kS j om fun e=>ho (hz j e);have eH:H3.get w=some (.cells (wc g (.slice av l.length cp) s now no) false):=by rw[k3 w a.lw (by rw[a.tw];omega),wP]
 have q3:H3.get N=some (.cells [.i 1,.i i0,En.ptr c0 r0,.bool d0,.bool e0,.int .u64 f0,.int .u64 g0,.i 1,.i i1,En.ptr lH r1,.bool d1,.bool e1,.int .u64 f1,.int .u64 g1,.bool rs,.i bl,wv] false):=by rw[k3 N pJ om,q5]
 have j4:0+288<(wc g (.slice av l.length cp) s now no).length:=by rw[jbv];omega
 have m9:=bG.one;refine Ga ?_;refine zcs rfl rfl m9 eH j4 ?_;rw[je2 rfl];refine Ga ?_;have pV:∀z,v'.at?=some z->z≠w:=fun z e=>by have:=cM z e;have:=a.lw;omega
 refine⟨rfl,by rw[jaa aL,q3];rfl,⟨v',?_⟩,fun j hj h1 h2 h3=>by rw[jaa h2,k3 j hj h3,k5 j h1 h2],by show h.nx<=H3.nx;omega⟩;rcases id bG with⟨h0,_⟩|⟨z,_,z1,rfl,_,_⟩
 .omega
 .refine⟨z,jab _,bG.keep (zq _) fun y e=>jaa (pV y e),fun y e=>by cases e;rfl,by have:=cM z rfl;omega,z1⟩
end
end Am.Sigs
