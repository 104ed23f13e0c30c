/- Our own library, part 24. -/
import Derived.Test.YtbfpbbppgffpnaaGreatDoorN23
import Derived.Test.YtbfpbbppgffpnaaGreatDoorN17
import Derived.Test.YtbfpbbppgffpnaaGreatDoorN18
import Derived.Test.YtbfpbbppgffpnaaGreatDoorN20
import Derived.Test.YtbfpbbppgffpnaaGreatDoorN21
set_option maxHeartbeats 8000000
set_option linter.all false
namespace Am.Sigs
open Am Go
theorem join2 (a b s:List UInt8):Lib.join [a,b] s=a++s++b:=by simp [Lib.join,List.intercalate]
theorem join3 (a b c s:List UInt8):Lib.join [a,b,c] s=a++s++b++s++c:=by simp [Lib.join,List.intercalate]
section
variable {call:Call} {fuel base:Nat} {K:List Fr} {e:Env} {h:H} {Q:Post} {ix:Nat} {dst at_:Option Nat} {ops:List Ins} {keep:List Nat}
theorem Ops.digit {x y:Opd} {n:Nat} (hx':x.ev e=some (.i (n:Int))) (hy:y.ev e=some (.i ((n:Int)+1))) (hn:n<16) (k:Ops call fuel base ops keep K (layv e dst (.str [hx n])) h Q) :
  Ops call fuel base (⟨ix,dst,.sliceS (.c (.str hexT)) (some x) (some y),none,at_,[]⟩ :: ops) keep K e h Q:=by
 refine Ops.pure rfl ?_ k
 have hh:(Opd.c (.str hexT)).ev e=some (.str hexT):=rfl
 simp only [I.pure,evo,hx',hy,hh]
 match n,hn with
 | 0,_=>rfl | 1,_=>rfl | 2,_=>rfl | 3,_=>rfl | 4,_=>rfl | 5,_=>rfl | 6,_=>rfl | 7,_=>rfl
 | 8,_=>rfl | 9,_=>rfl | 10,_=>rfl | 11,_=>rfl | 12,_=>rfl | 13,_=>rfl | 14,_=>rfl | 15,_=>rfl
 | n+16,h=>exact absurd h om
end
section
variable {cl:Nat->Call} (hcl:Sem cl)
include hcl
abbrev endC (what fd:Int) (rs wr:Bool) (v:V) (shut:Bool) (inn out:Int):List V:=[.i what,.i fd,.bool rs,.bool wr,v,.bool shut,.int .u64 inn,.int .u64 out]
theorem jn8 {d cap b:Nat} {what fd inn out:Int} {ring:Option (List UInt8)} {wr shut:Bool} {sb:Env} {v:V} {s:List UInt8} {h:H} (hsb:sb=[]\/sb=[(15,.bool false)]) (hd:2<=d) (hg:h.get b=some (.cells (endC what fd ring.isSome wr v shut inn out) false)) (hbn:b<h.nx) (hb:VB h v (ring.getD [])) (hvn : ∀ z,v.at?=some z->z<h.nx) (hl:(ring.getD []).length<=90000)
  (hc:cap<9223372036854775808) (hs:s.length<=100) :
  Run (cl d) fuel c127_5 [] ([(1,.i (cap:Int)),(2,.p b 0),(5,.str s)]++sb) h (Fin c127.res fun x h'=>x = .str (s++[32]++jiw ring cap)/\Old h h'):=by
 rcases hsb with rfl | rfl
 all_goals
  dsimp only [List.append_nil,List.cons_append,List.nil_append]
  cases ring with
  | none=>
   dsimp only [Option.isSome_none] at hg
   repeat' (first|refine qxy ?_|refine zbf rfl (fun _=>?_) fun _=>?_|refine zbg rfl (fun _=>?_) fun _=>?_|refine zbh rfl (fun _=>?_) fun _=>?_|refine zbm rfl (fun _=>?_) fun _=>?_|refine zbn rfl (fun _=>?_) fun _=>?_)
   refine Ops.sadd rfl rfl Zc ?_
   repeat' (first|refine qxy ?_|refine zbf rfl (fun _=>?_) fun _=>?_|refine zbg rfl (fun _=>?_) fun _=>?_|refine zbh rfl (fun _=>?_) fun _=>?_|refine zbm rfl (fun _=>?_) fun _=>?_|refine zbn rfl (fun _=>?_) fun _=>?_)
   exact ⟨by simp [jiw],Old.refl h⟩
  | some l=>
   dsimp only [Option.isSome_some,Option.getD_some] at hg hb hl
   obtain ⟨a,c,rfl,hn,hf,hxx⟩:=hb
   repeat' (first|refine qxy ?_|refine zbf rfl (fun _=>?_) fun _=>?_|refine zbg rfl (fun _=>?_) fun _=>?_|refine zbh rfl (fun _=>?_) fun _=>?_|refine zbm rfl (fun _=>?_) fun _=>?_|refine zbn rfl (fun _=>?_) fun _=>?_)
   refine Ops.sadd rfl rfl Zc ?_
   repeat' (first|refine qxy ?_|refine zbf rfl (fun _=>?_) fun _=>?_|refine zbg rfl (fun _=>?_) fun _=>?_|refine zbh rfl (fun _=>?_) fun _=>?_|refine zbm rfl (fun _=>?_) fun _=>?_|refine zbn rfl (fun _=>?_) fun _=>?_)
   refine Run.loop (fun m e g=>∃ (i:Nat),m=l.length-i/\i<=l.length/\e=[(1,.i (cap:Int)),(2,.p b 0),(5,.str (s++[32]++hexS (l.take i))),(6,.i (i:Int))]/\Old h g)
    (k:=l.length) Ze ⟨0,by omega,by omega,by simp [hexS],Old.refl h⟩ ?_
   rintro _ _ g ⟨i,rfl,hi,rfl,old⟩ f ih
   have g1:g.get b=_:=(old.2 b hbn).trans hg
   by_cases hlt:i<l.length
   case neg=>
    obtain rfl:i=l.length:=by omega
    rw [List.take_length]
    obtain ⟨h1,e1,o1⟩:=jbG hcl (d:=d) (u:=cap) (h:=g) hd hc
    have:=jgb l
    repeat' (first|refine qxy ?_|refine zbf rfl (fun _=>?_) fun _=>?_|refine zbg rfl (fun _=>?_) fun _=>?_|refine zbh rfl (fun _=>?_) fun _=>?_|refine zbm rfl (fun _=>?_) fun _=>?_|refine zbn rfl (fun _=>?_) fun _=>?_)
    refine Ops.sadd rfl rfl Zc ?_
    repeat' (first|refine qxy ?_|refine zbf rfl (fun _=>?_) fun _=>?_|refine zbg rfl (fun _=>?_) fun _=>?_|refine zbh rfl (fun _=>?_) fun _=>?_|refine zbm rfl (fun _=>?_) fun _=>?_|refine zbn rfl (fun _=>?_) fun _=>?_)
    refine Ops.sadd rfl rfl (by have:=jjK (u:=cap) (m:=19) om om;simp;omega) ?_
    repeat' (first|refine qxy ?_|refine zbf rfl (fun _=>?_) fun _=>?_|refine zbg rfl (fun _=>?_) fun _=>?_|refine zbh rfl (fun _=>?_) fun _=>?_|refine zbm rfl (fun _=>?_) fun _=>?_|refine zbn rfl (fun _=>?_) fun _=>?_)
    exact ⟨by simp [jiw],old.trans o1⟩
   obtain ⟨q,o,cs,ro,rfl,q1,q2,q3⟩:=hxx (by rintro rfl;simp at hlt)
   have g2:g.get q=some (.cells cs ro):=by rw [old.2 q (hvn q rfl),q2]
   obtain ⟨y,hy⟩ : ∃ y,l[i]?=some y:=⟨_,za hlt⟩
   have hy256:=y.toNat_lt
   have q4:cs[o+i*1]?=some (.int .u8 (y.toNat:Int)):=by rw [Nat.mul_one];exact q3 i y hy
   have g3:(g.reserve 1).get b=_:=(H.get_reserve ..).trans g1
   have g4:(g.reserve 1).get q=some (.cells cs ro):=(H.get_reserve ..).trans g2
   repeat' (first|refine qxy ?_|refine zbf rfl (fun _=>?_) fun _=>?_|refine zbg rfl (fun _=>?_) fun _=>?_|refine zbh rfl (fun _=>?_) fun _=>?_|refine zbm rfl (fun _=>?_) fun _=>?_|refine zbn rfl (fun _=>?_) fun _=>?_)
   refine Run.region ?_
   repeat' (first|refine qxy ?_|refine zbf rfl (fun _=>?_) fun _=>?_|refine zbg rfl (fun _=>?_) fun _=>?_|refine zbh rfl (fun _=>?_) fun _=>?_|refine zbm rfl (fun _=>?_) fun _=>?_|refine zbn rfl (fun _=>?_) fun _=>?_)
   have e1:IntKind.u8.wrap ((y.toNat:Int).tdiv 16)=((y.toNat/16:Nat):Int):=by
    rw [show (y.toNat:Int).tdiv 16=((y.toNat/16:Nat):Int) from (Int.ofNat_tdiv _ 16).symm,IntKind.wrap_u8];omega
   have e2:(y.toNat:Int).tmod 16=((y.toNat%16:Nat):Int):=(Int.ofNat_tmod _ 16).symm
   rw [e1,e2]
   refine Ops.bslice2_at (xv := .int .u8 ((y.toNat/16:Nat):Int)) (yv := .int .u8 ((y.toNat%16:Nat):Int)) rfl rfl rfl rfl ?_
   have g5:((g.reserve 1).set (g.nx+0) (.cells [.int .u8 ((y.toNat/16:Nat):Int),.int .u8 ((y.toNat%16:Nat):Int)] false)).get (g.nx+0)=some (.cells [.int .u8 ((y.toNat/16:Nat):Int),.int .u8 ((y.toNat%16:Nat):Int)] false):=jab ..
   have o2:Old g ((g.reserve 1).set (g.nx+0) (.cells [.int .u8 ((y.toNat/16:Nat):Int),.int .u8 ((y.toNat%16:Nat):Int)] false)):=⟨by simp,fun j hj=>by rw [jaa om,H.get_reserve]⟩
   generalize (g.reserve 1).set (g.nx+0) (.cells [.int .u8 ((y.toNat/16:Nat):Int),.int .u8 ((y.toNat%16:Nat):Int)] false)=g6 at g5 o2 ⊢
   repeat' (first|refine qxy ?_|refine zbf rfl (fun _=>?_) fun _=>?_|refine zbg rfl (fun _=>?_) fun _=>?_|refine zbh rfl (fun _=>?_) fun _=>?_|refine zbm rfl (fun _=>?_) fun _=>?_|refine zbn rfl (fun _=>?_) fun _=>?_)
   have hlen:=jgb (l.take i)
   have hlt2:(l.take i).length<=90000:=by simp;omega
   refine Run.loop (fun m e g'=>∃ (j:Nat),m=2-j/\j<=2/\e=[(1,.i (cap:Int)),(2,.p b 0),(5,.str (s++[32]++hexS (l.take i)++([hx (y.toNat/16),hx (y.toNat%16)].take j))),(6,.i (i:Int)),(44,.slice (some (g.nx+0,0)) 2 (.fix 2)),(45,.i 2),(46,.i (j:Int))]/\g'=g6)
    (k:=2) Ze ⟨0,by omega,by omega,by simp,rfl⟩ ?_
   rintro _ _ g' ⟨j,rfl,hj,rfl,rfl⟩ f2 ih2
   by_cases hj2:j<2
   case neg=>
    obtain rfl:j=2:=by omega
    repeat' (first|refine qxy ?_|refine zbf rfl (fun _=>?_) fun _=>?_|refine zbg rfl (fun _=>?_) fun _=>?_|refine zbh rfl (fun _=>?_) fun _=>?_|refine zbm rfl (fun _=>?_) fun _=>?_|refine zbn rfl (fun _=>?_) fun _=>?_)
    refine ih (l.length-(i+1)) om _ _ ⟨i+1,rfl,by omega,?_,old.trans o2⟩
    rw [jhX hy,List.append_assoc (s++[32])];rfl
   have key : ∃ z:Nat,z<16/\[V.int .u8 ((y.toNat/16:Nat):Int),.int .u8 ((y.toNat%16:Nat):Int)][0+j*1]?=some (.int .u8 (z:Int))/\[hx (y.toNat/16),hx (y.toNat%16)].take (j+1)=[hx (y.toNat/16),hx (y.toNat%16)].take j++[hx z]:=by
    match j,hj2 with
    | 0,_=>exact ⟨y.toNat/16,by omega,rfl,rfl⟩
    | 1,_=>exact ⟨y.toNat%16,by omega,rfl,rfl⟩
   obtain ⟨z,hz,z1,z2⟩:=key
   have e3:IntKind.i64.wrap (z:Int)=(z:Int):=by rw [IntKind.wrap_i64];omega
   repeat' (first|refine qxy ?_|refine zbf rfl (fun _=>?_) fun _=>?_|refine zbg rfl (fun _=>?_) fun _=>?_|refine zbh rfl (fun _=>?_) fun _=>?_|refine zbm rfl (fun _=>?_) fun _=>?_|refine zbn rfl (fun _=>?_) fun _=>?_)
   rw [e3]
   refine Ops.digit rfl rfl hz ?_
   repeat' (first|refine qxy ?_|refine zbf rfl (fun _=>?_) fun _=>?_|refine zbg rfl (fun _=>?_) fun _=>?_|refine zbh rfl (fun _=>?_) fun _=>?_|refine zbm rfl (fun _=>?_) fun _=>?_|refine zbn rfl (fun _=>?_) fun _=>?_)
   have hj3:([hx (y.toNat/16),hx (y.toNat%16)].take j).length<=2:=by simp;omega
   refine Ops.sadd rfl rfl (by simp at hj3 hlen hlt2 ⊢;omega) ?_
   repeat' (first|refine qxy ?_|refine zbf rfl (fun _=>?_) fun _=>?_|refine zbg rfl (fun _=>?_) fun _=>?_|refine zbh rfl (fun _=>?_) fun _=>?_|refine zbm rfl (fun _=>?_) fun _=>?_|refine zbn rfl (fun _=>?_) fun _=>?_)
   refine ih2 (2-(j+1)) om _ _ ⟨j+1,rfl,by omega,?_,rfl⟩
   rw [z2,<- List.append_assoc];rfl
omit hcl in
theorem jkX {what:Int} {shut:Bool} {r:Option (List UInt8)} {cap:Nat} : Lib.join (jbz what shut r cap) [32]=jfr what++(if shut then [32,115,104,117,116] else [])++[32]++jiw r cap:=by
 unfold jbz
 cases shut with
 | true=>simp [join3]
 | false=>simp [join2]
theorem jo5 {d cap:Nat} {e:En} {v:V} {h:H} (hd:3<=d) (hw:0<=e.what/\e.what<=3) (hb:VB h v (e.ring.getD [])) (hvn : ∀ z,v.at?=some z->z<h.nx) (hl:(e.ring.getD []).length<=90000) (hc:cap<9223372036854775808) :
  ∃ h',cl d (.fn F.jfo) [.agg (e.rcells v),.i (cap:Int)] h=some (.str (Lib.join (jbz e.what e.shut e.ring cap) [32]),h')/\Old h h':=by
 rw [jkX]
 obtain ⟨what,fd,ring,writes,shut,inn,out⟩:=e
 dsimp only at hw hb hl ⊢
 obtain ⟨w,rfl⟩ : ∃ w:Nat,what=(w:Int):=⟨what.toNat,by omega⟩
 have hw4:w<4:=by omega
 have hnm:[V.str [110,111,110,101],.str [105,110],.str [111,117,116],.str [99,108,111,115,101,100]][0+w*1]?=some (.str (jfr (w:Int))):=by
  match w,hw4 with
  | 0,_=>rfl | 1,_=>rfl | 2,_=>rfl | 3,_=>rfl
 have hnl:=jk5 (w:Int)
 refine jag (at_ hcl om rfl rfl rfl ?_)
 unfold En.rcells
 dsimp only
 refine qx1 ?_
 refine Ops.make (ob := .cells (endC w fd ring.isSome writes v shut inn out) false) rfl rfl ?_
 have g0:(h.new (.cells (endC w fd ring.isSome writes v shut inn out) false)).get h.nx=some (.cells (endC w fd ring.isSome writes v shut inn out) false):=jac _
 have l1:h.nx<(h.new (.cells (endC w fd ring.isSome writes v shut inn out) false)).nx:=by simp
 have o1:Old h (h.new (.cells (endC w fd ring.isSome writes v shut inn out) false)):=⟨by simp,fun _ hj=>jad hj⟩
 generalize h.new (.cells (endC w fd ring.isSome writes v shut inn out) false)=h1 at g0 l1 o1 ⊢
 refine qx1 ?_
 refine Ops.make (ob := .cells [V.str [110,111,110,101],.str [105,110],.str [111,117,116],.str [99,108,111,115,101,100]] false) rfl rfl ?_
 have g2:=jac (h:=h1) (.cells [V.str [110,111,110,101],.str [105,110],.str [111,117,116],.str [99,108,111,115,101,100]] false)
 have g3:(h1.new (.cells [V.str [110,111,110,101],.str [105,110],.str [111,117,116],.str [99,108,111,115,101,100]] false)).get h.nx=_:=(jad l1).trans g0
 have o2:Old h1 (h1.new (.cells [V.str [110,111,110,101],.str [105,110],.str [111,117,116],.str [99,108,111,115,101,100]] false)):=⟨by simp,fun _ hj=>jad hj⟩
 generalize h1.new (.cells [V.str [110,111,110,101],.str [105,110],.str [111,117,116],.str [99,108,111,115,101,100]] false)=h2 at g2 g3 o2 ⊢
 have o3:=o1.trans o2
 have hb2:VB h2 v (ring.getD []):=hb.keep o3.1 fun z hz=>o3.2 z (hvn z hz)
 obtain ⟨C,hC⟩ : ∃ C,C=c127_5:=⟨_,rfl⟩
 simp only [c127_6,<- hC,yH]
 cases shut with
 | true=>
  refine qx1 ?_
  refine Ops.sadd rfl rfl Zc ?_
  refine qx1 ?_
  rw [hC]
  exact Run.fin_mono (jn8 hcl (d:=d-1) (s:=jfr (w:Int)++[32,115,104,117,116]) (sb:=[]) (.inl rfl) om g3 (zr l1 o2.1) hb2 (fun z hz=>zr (hvn z hz) o3.1) hl hc Zc) fun x h' ⟨p,q⟩=>⟨by simp [p],o3.trans q⟩
 | false=>
  refine qx1 ?_
  rw [hC]
  exact Run.fin_mono (jn8 hcl (d:=d-1) (s:=jfr (w:Int)) (sb:=[(15,.bool false)]) (.inr rfl) om g3 (zr l1 o2.1) hb2 (fun z hz=>zr (hvn z hz) o3.1) hl hc om) fun x h' ⟨p,q⟩=>⟨by simp [p],o3.trans q⟩
end
end Am.Sigs
namespace Am
open Go Am.Sigs
structure Hd (p:Prop):Prop where
 g:p
structure Kc (h:H) (b:Nat) (l:List V) (ro:Bool):Prop where
 lt:b<h.nx
 at_:h.get b=some (.cells l ro)
theorem Kc.old {h h':H} {b:Nat} {l:List V} {ro:Bool} (k:Kc h b l ro) (o:Old h h'):Kc h' b l ro :=
 ⟨zr k.lt o.1,by rw [o.2 _ k.lt,k.at_]⟩
section
variable {call:Call} {fuel base:Nat} {K:List Fr} {e:Env} {h h' h0:H} {Q:Post} {ix:Nat} {dst:Option Nat} {ops:List Ins} {keep:List Nat} {at_:Option Nat} {c:List (Nat × I × Option (Nat × Bool))}
end
end Am
namespace Am.Sigs
open Am Go
abbrev strs (l:List (List UInt8)):List V:=l.map V.str
theorem strs_one (l:List (List UInt8)):(strs l).all V.one=true:=by
 rw [List.all_eq_true]
 intro x hx
 obtain ⟨s,_,rfl⟩:=List.mem_map.1 hx
 rfl
def SR (N:Nat) (h:H) (v:V) (l:List (List UInt8)):Prop :=
 ∃ q c,N<=q/\q<h.nx/\v = .slice (some (q,0)) l.length c/\(c = .grow 1\/c = .fix l.length)/\h.get q=some (.cells (strs l) false)
theorem SR.keep {N M:Nat} {h h':H} {v:V} {l:List (List UInt8)} (r:SR N h v l) (hM:M<=N) (o:Old h h'):SR M h' v l:=by
 obtain ⟨q,c,h1,h2,e,hc,hg⟩:=r
 exact ⟨q,c,by omega,zr h2 o.1,e,hc,by rw [o.2 q h2,hg]⟩
theorem SR.keep_ne {N:Nat} {h h':H} {v:V} {l:List (List UInt8)} (r:SR N h v l) (hx:h.nx<=h'.nx) (k : ∀ j,v.at?=some j->h'.get j=h.get j):SR N h' v l:=by
 obtain ⟨q,c,h1,h2,rfl,hc,hg⟩:=r
 exact ⟨q,c,h1,by omega,rfl,hc,by rw [k q rfl,hg]⟩
theorem SR.at_ge {N:Nat} {h:H} {v:V} {l:List (List UInt8)} (r:SR N h v l) {j:Nat} (e:v.at?=some j):N<=j/\j<h.nx:=by
 obtain ⟨q,c,h1,h2,rfl,hc,hg⟩:=r
 cases e;exact ⟨h1,h2⟩
theorem SR.app {N m sb so:Nat} {h:H} {v:V} {l new:List (List UInt8)} {ls:List V} {ro:Bool} {cap:Cap} (r:SR N h v l) (hN:N<=h.nx) (hm:0<m) (hs:h.get sb=some (.cells ls ro)) (hsl:so+m<=ls.length) (hnew:(ls.drop so).take m=strs new) (hb:l.length+m<=1000000) :
  ∃ v' h',jaC h 1 16 v (.slice (some (sb,so)) m cap)=some (v',h')/\SR N h' v' (l++new)/\h'.nx=h.nx+1/\v'.at?=some h.nx /\ ∀ j,j<h.nx->v.at?≠some j->h'.get j=h.get j:=by
 obtain ⟨q,c,h1,h2,rfl,hc,hg⟩:=r
 have hlen:new.length=m:=by
  have:=congrArg List.length hnew
  simp at this;omega
 have hsrc:jax h 1 m (.slice (some (sb,so)) m cap)=some (strs new):=by
  have:(m*1 == 0)=false:=by simp;omega
  simp only [jax,this,cond_false]
  rw [jcp hs om,Nat.mul_one,hnew]
 have hcond:(Nat.ble ((l.length+m)*16) (2 ^ 46)&&Nat.ble (l.length+m) (2 ^ 46))=true:=by simp only [zp,Nat.ble_eq];omega
 have h10:(m == 0)=false:=by simp;omega
 have hll:(l++new).length=l.length+m:=by simp [hlen]
 rcases hc with rfl | rfl
 ·have hgd:(Nat.beq 1 1&&Nat.ble (0+l.length*1) (strs l).length&&(strs new).all V.one)=true:=by
   simp only [zp,Nat.ble_eq,strs_one,and_true]
   exact ⟨rfl,by simp⟩
  have htk:((strs l).drop 0).take (l.length*1)=strs l:=by rw [zk,zh Zd]
  refine ⟨.slice (some (h.nx,0)) (l.length+m) (.grow 1),(h.kill q).new (.cells (strs (l++new)) false),?_,⟨h.nx,.grow 1,hN,by simp,by rw [hll],.inl rfl,?_⟩,by simp,rfl,?_⟩
  ·simp only [jaC,lenOf,hsrc]
   rw [hcond]
   simp only [cond_true,h10,cond_false,hg]
   rw [hgd]
   simp only [cond_true,newRow,htk,strs,List.map_append]
   rfl
  ·exact jac (h:=h.kill q) _
  ·intro j hj hv
   have hjq:j≠q:=fun e=>hv (by subst e;rfl)
   rw [jad (by simpa using hj),jak hjq]
 ·have hld:(bif l.length*1 == 0 then some [] else h.load q 0 (l.length*1))=some (strs l):=by
   by_cases h0:l=[]
   ·subst h0;rfl
   ·have:(l.length*1 == 0)=false:=by
     have:=List.length_pos_iff.2 h0
     simp [h0]
    rw [this,cond_false,jcp hg Zd,zk,zh Zd]
  have hno:Nat.ble (l.length+m) l.length=false:=by
   cases e:Nat.ble (l.length+m) l.length with
   | false=>rfl
   | true=>have:=zu e;omega
  refine ⟨.slice (some (h.nx,0)) (l.length+m) (.grow 1),h.new (.cells (strs (l++new)) false),?_,⟨h.nx,.grow 1,hN,by simp,by rw [hll],.inl rfl,jac _⟩,by simp,rfl,fun j hj _=>jad hj⟩
  simp only [jaC,lenOf,hsrc]
  rw [hcond]
  simp only [cond_true,h10,cond_false,hno,hld]
  simp only [newRow,strs,List.map_append]
theorem jgc (e:Env) (d:Nat) (v:V):(Opd.t d).ev (layv e (some d) v)=some v:=by
 show (layv e (some d) v).get d=_
 rw [jb6,if_pos rfl]
section
variable {call:Call} {fuel base:Nat} {K:List Fr} {e:Env} {h h0:H} {Q:Post} {ix i1 i2 d1 d2:Nat} {dst at_:Option Nat} {ops:List Ins} {keep:List Nat} {c:List (Nat × I × Option (Nat × Bool))}
theorem Ops.strA {x y:Opd} {sv:V} {l new:List (List UInt8)} {sb so m:Nat} {ls:List V} {ro:Bool} {cap:Cap} (hx:x.ev e=some sv) (hy:y.ev e=some (.slice (some (sb,so)) m cap)) (o:Old h0 h) (r:SR h0.nx h sv l) (hm:0<m) (hs:h.get sb=some (.cells ls ro)) (hsl:so+m<=ls.length) (hnew:(ls.drop so).take m=strs new) (hb:l.length+m<=1000000)
  (hk : ∀ h',Old h0 h'->jaK e h' c=true) (k : ∀ v' h',SR h0.nx h' v' (l++new)->Old h0 h'->h'.nx=h.nx+1->(∀ j,j<h.nx->sv.at?≠some j->h'.get j=h.get j)->Ops call fuel base ops keep K (layv e dst v') h' Q) :
  Ops call fuel base (⟨ix,dst,.append 1 16 x y,none,none,c⟩ :: ops) keep K e h Q:=by
 obtain ⟨v',h',e1,e2,e3,e4,e5⟩:=r.app (cap:=cap) o.1 hm hs hsl hnew hb
 have o':Old h0 h':=⟨by have:=o.1;omega,fun j hj=>by rw [e5 j (zr hj o.1) fun e=>by have:=(r.at_ge e).1;omega,o.2 j hj]⟩
 exact Ops.step_chk (I.run_eff rfl (by simp only [I.eff,hx,hy,e1])) (hk h' o') (k v' h' e2 o' e3 e5)
theorem Ops.strS {x y:Opd} {sv yv:V} {l new:List (List UInt8)} {M:Nat} (hx:x.ev e=some sv) (hy:y.ev e=some yv) (o:Old h0 h) (r:SR h0.nx h sv l) (r2:SR M h yv new) (hn:new≠[]) (hb:l.length+new.length<=1000000)
  (hk : ∀ h',Old h0 h'->jaK e h' c=true) (k : ∀ v' h',SR h0.nx h' v' (l++new)->Old h0 h'->h'.nx=h.nx+1->(∀ j,j<h.nx->sv.at?≠some j->h'.get j=h.get j)->Ops call fuel base ops keep K (layv e dst v') h' Q) :
  Ops call fuel base (⟨ix,dst,.append 1 16 x y,none,none,c⟩ :: ops) keep K e h Q:=by
 obtain ⟨q,c,h1,h2,rfl,hc,hg⟩:=r2
 have:=List.length_pos_iff.2 hn
 exact Ops.strA hx hy o r this hg Zd (by rw [zk,zh Zd]) hb hk k
theorem Ops.strP {x s:Opd} {sv z:V} {l:List (List UInt8)} {t:List UInt8} (hx:x.ev e=some (.str t)) (hs:s.ev (layv e (some d1) (.slice (some (h.nx,0)) 1 (.fix 1)))=some sv) (o:Old h0 h) (r:SR h0.nx h sv l) (hb:l.length<=900000)
  (k : ∀ v' h',SR h0.nx h' v' (l++[t])->Old h0 h'->h'.nx=h.nx+2->(∀ j,j<h.nx->sv.at?≠some j->h'.get j=h.get j)->Ops call fuel base ops keep K (layv (layv e (some d1) (.slice (some (h.nx,0)) 1 (.fix 1))) (some d2) v') h' Q) :
  Ops call fuel base (⟨i1,some d1,.bslice 1 1 [z] [(0,x)],none,none,[]⟩ :: ⟨i2,some d2,.append 1 16 s (.t d1),none,none,[]⟩ :: ops) keep K e h Q:=by
 refine Ops.make (ob := .cells [V.str t] false) (mk:=fun b=>.slice (some (b,0)) 1 (.fix 1)) rfl ?_ ?_
 ·simp only [I.make,jb1,List.map,hx];rfl
 ·have on:Old h (h.new (.cells [V.str t] false)):=⟨by simp,fun _ hj=>jad hj⟩
  refine Ops.strA (new:=[t]) hs (jgc ..) (o.trans on) (r.keep (zq _) on) Nat.one_pos (jac _) Zd rfl om (fun _ _=>rfl) fun v' h' a b c d=>k v' h' a b (by rw [c];simp) fun j hj hv=>by rw [d j Zc hv,jad hj]
theorem Ops.strP_at {x s:Opd} {sv z:V} {l:List (List UInt8)} {t:List UInt8} {b:Nat} (hx:x.ev e=some (.str t)) (hs:s.ev (layv e (some d1) (.slice (some (base+b,0)) 1 (.fix 1)))=some sv) (o:Old h0 h) (r:SR h0.nx h sv l) (h1:h0.nx<=base+b) (h2:base+b<h.nx) (h3:sv.at?≠some (base+b)) (hb:l.length<=900000)
  (k : ∀ v' h',SR h0.nx h' v' (l++[t])->Old h0 h'->h'.nx=h.nx+1->(∀ j,j<h.nx->j≠base+b->sv.at?≠some j->h'.get j=h.get j)->Ops call fuel base ops keep K (layv (layv e (some d1) (.slice (some (base+b,0)) 1 (.fix 1))) (some d2) v') h' Q) :
  Ops call fuel base (⟨i1,some d1,.bslice 1 1 [z] [(0,x)],none,some b,[]⟩ :: ⟨i2,some d2,.append 1 16 s (.t d1),none,none,[]⟩ :: ops) keep K e h Q:=by
 refine Ops.make_at (ob := .cells [V.str t] false) (mk:=fun b=>.slice (some (b,0)) 1 (.fix 1)) rfl ?_ ?_
 ·simp only [I.make,jb1,List.map,hx];rfl
 ·have on:Old h0 (h.set (base+b) (.cells [V.str t] false)):=⟨o.1,fun j hj=>by rw [jaa om,o.2 j hj]⟩
  refine Ops.strA (new:=[t]) hs (jgc ..) on (r.keep_ne (zq _) fun j hj=>jaa fun e=>h3 (by rw [hj,e])) Nat.one_pos (jab _) Zd rfl om (fun _ _=>rfl) fun v' h' a b c d=>k v' h' a b c fun j hj hjb hv=>by rw [d j hj hv,jaa hjb]
end
theorem Row.sr {N:Nat} {h:H} {v:V} {l:List (List UInt8)} (r:Row N h 1 v l.length (strs l)) (hl:l≠[]):SR N h v l:=by
 rcases r with ⟨h1,_⟩ | ⟨q,h1,h2,rfl,h4,_⟩
 ·exact absurd (zn.1 h1) hl
 ·exact ⟨q,_,h1,h2,rfl,.inl rfl,h4⟩
theorem jkE {q:List UInt8} {cap:Nat} (h1:q.length<=cap) (h2:cap<=65536):(hexS q).length<=131072:=by
 rw [jgb];omega
theorem jb2 {u:Nat} (h:u<18446744073709551616):(dec u).length<=20:=jjK (m:=19) om h
section
variable {cl:Nat->Call} (hcl:Sem cl)
include hcl
theorem wd_ring {d bx r b cap:Nat} {v:V} {l:List (List UInt8)} {q:List UInt8} {e:En} {h h0:H} (hd:8<=d) (p:Pw h) (o:Old h0 h) (g:h.get bx=some (.cells (e.cells r) false)) (lb:bx<h.nx) (hq:e.ring=some q) (R:ja0 h r b q cap) (l1:r<h.nx) (l2:b<h.nx) (s:SR h0.nx h v l) (hl:l.length<=10) :
  Run (cl d) fuel c122_0 [] [(1,.p bx 0),(3,v),(17,.bool false)] h (Fin c122.res fun x h'=>SR h0.nx h' x (l++[hexS q++[47]++dec cap])/\Old h0 h'):=by
 obtain ⟨buf,frm,inn,out,C,W⟩:=R
 have w1:=W.fit
 have w2:=W.small
 refine Run.seq (Run.region ?_)
 have oG:Old h (h.reserve 1):=⟨by simp,fun j _=>H.get_reserve ..⟩
 have xG:(h.reserve 1).nx=h.nx+1:=by simp
 have sG:=s.keep (zq _) oG
 have CG:RingC (h.reserve 1) r b buf frm q.length cap inn out:=⟨by rw [oG.2 r l1,C.hr],by rw [oG.2 b l2,C.hb]⟩
 generalize h.reserve 1=G at oG xG sG CG ⊢
 have gG:G.get bx=some (.cells (e.cells r) false):=by rw [oG.2 bx lb,g]
 have q2:(e.cells r)[0+2]?=some (.p r 0):=by show some (En.ptr e.ring r)=_;rw [hq];rfl
 have eLen:=jiL hcl (d:=d) om CG
 obtain ⟨lv,h1,eLook,row,_,ch1⟩:=jnE hcl (d:=d) (n:=(q.length:Int)) om CG W om om
 rw [Int.min_self,zw,List.take_length] at row
 have o1:Old G h1:=Old.ofCh ch1
 obtain ⟨h2,eHex,o2⟩:=sp_hex hcl (d:=d) om row om
 have o12:=o1.trans o2
 have g1:h1.get bx=some (.cells (e.cells r) false):=by rw [o1.2 bx om,gG]
 have g2:h2.get bx=some (.cells (e.cells r) false):=by rw [o12.2 bx om,gG]
 have C2:RingC h2 r b buf frm q.length cap inn out:=⟨by rw [o12.2 r om,CG.hr],by rw [o12.2 b om,CG.hb]⟩
 have eLen2:=jiL hcl (d:=d) om C2
 have eRoom:=jli hcl (d:=d) om C2 w1 w2
 have p2:Pw h2:=(p.old oG).old o12
 have eIt:=jcW hcl (d:=d) (u:=cap) om om p2
 have hxl:=jkE w1 w2
 have hdl:=jb2 (u:=cap) om
 clear C W CG C2 row ch1
 refine qx1 ?_
 refine Ops.callf_chk rfl eLen (by repeat (first | apply ja6 | refine jat rfl gG q2 rfl ?_)) ?_
 refine Ops.callf_chk rfl eLook (by repeat (first | apply ja6 | refine jat rfl g1 q2 rfl ?_)) ?_
 refine Ops.callf_chk rfl eHex (by repeat (first | apply ja6 | refine jat rfl g2 q2 rfl ?_)) ?_
 refine Ops.sadd rfl rfl Zc ?_
 refine Ops.callf_chk rfl eLen2 (by repeat (first | apply ja6 | refine jat rfl g2 q2 rfl ?_)) ?_
 refine qx1 ?_
 rw [show (q.length:Int)+((cap-q.length:Nat):Int)=(cap:Int) by omega]
 refine qx1 ?_
 refine Ops.sadd rfl rfl Zc ?_
 have oh2:Old h0 h2:=(o.trans oG).trans o12
 refine Ops.strP_at (h0:=h0) (l:=l) rfl rfl oh2 (sG.keep (zq _) o12) ?_ ?_ ?_ om fun v' h' s' o' _ _=>?_
 ·have:=o.1;omega
 ·have:=o12.1;omega
 ·intro e
  have:=(s.at_ge e).2
  omega
 ·refine qx1 ?_
  exact ⟨s',o'⟩
theorem jlP {d r b cap:Nat} {e:En} {h:H} (hd:9<=d) (p:Pw h) (hw:0<=e.what/\e.what<=3) (hR : ∀ q,e.ring=some q->ja0 h r b q cap/\r<h.nx/\b<h.nx) :
  ∃ v h',cl d (.fn F.jhy) [.agg (e.cells r)] h=some (v,h')/\SR h.nx h' v (jbz e.what e.shut e.ring cap)/\Old h h':=by
 obtain ⟨w,hww⟩ : ∃ w:Nat,e.what=(w:Int):=⟨e.what.toNat,by omega⟩
 have hw4:w<4:=by omega
 have hnm:[V.str [110,111,110,101],.str [105,110],.str [111,117,116],.str [99,108,111,115,101,100]][0+(w:Int).toNat*1]?=some (.str (jfr (w:Int))):=by
  match w,hw4 with
  | 0,_=>rfl | 1,_=>rfl | 2,_=>rfl | 3,_=>rfl
 rw [hww]
 refine at_ hcl om rfl rfl rfl ?_
 obtain ⟨C2,hC2⟩ : ∃ C,C=c122_2:=⟨_,rfl⟩
 simp only [c122,c122_3,<- hC2,uF,yB]
 refine qx1 ?_
 refine Ops.make (ob := .cells (e.cells r) false) rfl rfl ?_
 have o1:Old h (h.new (.cells (e.cells r) false)):=(Old.refl h).new
 have g1:=jac (h:=h) (.cells (e.cells r) false)
 have l1:h.nx<(h.new (.cells (e.cells r) false)).nx:=by simp
 generalize h.new (.cells (e.cells r) false)=h1 at o1 g1 l1 ⊢
 refine qx1 ?_
 refine Ops.make (ob := .cells [V.str [110,111,110,101],.str [105,110],.str [111,117,116],.str [99,108,111,115,101,100]] false) rfl rfl ?_
 have o2:Old h1 (h1.new (.cells [V.str [110,111,110,101],.str [105,110],.str [111,117,116],.str [99,108,111,115,101,100]] false)):=(Old.refl h1).new
 have g2:=jac (h:=h1) (.cells [V.str [110,111,110,101],.str [105,110],.str [111,117,116],.str [99,108,111,115,101,100]] false)
 generalize h1.new (.cells [V.str [110,111,110,101],.str [105,110],.str [111,117,116],.str [99,108,111,115,101,100]] false)=h2 at o2 g2 ⊢
 have g1':h2.get h.nx=some (.cells (e.cells r) false):=by rw [o2.2 _ l1,g1]
 have q0:(e.cells r)[0+0]?=some (.i (w:Int)):=by rw [<- hww];rfl
 have q2:(e.cells r)[0+2]?=some (En.ptr e.ring r):=rfl
 have q4:(e.cells r)[0+4]?=some (.bool e.shut):=rfl
 have o12:=o1.trans o2
 refine qx1 ?_
 refine Ops.make (ob := .cells [V.str (jfr (w:Int))] false) (mk:=fun b=>.slice (some (b,0)) 1 (.fix 1)) rfl rfl ?_
 have o3:Old h2 (h2.new (.cells [V.str (jfr (w:Int))] false)):=(Old.refl h2).new
 have s3:SR h.nx (h2.new (.cells [V.str (jfr (w:Int))] false)) (.slice (some (h2.nx,0)) 1 (.fix 1)) [jfr (w:Int)]:=⟨h2.nx,_,o12.1,by simp,rfl,.inr rfl,jac _⟩
 have n2:=o2.1
 generalize (h2.new (.cells [V.str (jfr (w:Int))] false))=h3 at o3 s3 ⊢
 have hv3:(V.slice (some (h2.nx,0)) 1 (.fix 1)).at?≠some h.nx:=fun e=>by have e:some h2.nx=some h.nx:=e;have:=Option.some.inj e;omega
 generalize V.slice (some (h2.nx,0)) 1 (.fix 1)=v3 at s3 hv3 ⊢
 have g3:h3.get h.nx=some (.cells (e.cells r) false):=by rw [o3.2 _ om,g1']
 have o13:=o12.trans o3
 have n3:=o3.1
 clear g1 g1' g2 hnm
 refine qx1 ?_
 rw [hC2]
 refine Run.fin_mono (R:=fun x h'=>SR h.nx h' x (([jfr (w:Int)]++if e.shut then [[115,104,117,116]] else [])++[jiw e.ring cap])/\Old h h') ?_ fun x h' ⟨a,b⟩=>⟨by simpa [jbz] using a,b⟩
 suffices key : ∀ (sb:Env) v4 h4 l4,SR h.nx h4 v4 l4->Old h h4->h4.get h.nx=some (.cells (e.cells r) false)->h.nx<h4.nx->l4.length<=9->Run (cl (d-1)) fuel c122_1 [] ((1,.p h.nx 0) :: (3,v4) :: sb) h4 (Fin c122.res fun x h'=>SR h.nx h' x (l4++[jiw e.ring cap])/\Old h h') by
  obtain ⟨C,hC⟩ : ∃ C,C=c122_1:=⟨_,rfl⟩
  simp only [c122_2,<- hC,yH]
  cases hs:e.shut with
  | false=>
   rw [hs] at q4
   refine qx1 ?_
   rw [hC]
   exact Run.fin_mono (key [(11,.bool false)] v3 h3 _ s3 o13 g3 om Zd) fun x h' ⟨a,b⟩=>⟨by simpa using a,b⟩
  | true=>
   rw [hs] at q4
   refine qx1 ?_
   refine Ops.strP (h0:=h) (l:=[jfr (w:Int)]) rfl rfl o13 s3 Zd fun v4 h4 s4 o4 x4 k4=>?_
   refine qx1 ?_
   rw [hC]
   refine key [] v4 h4 _ s4 o4 ?_ om Zd
   rw [k4 _ om fun e=>hv3 e,g3]
 intro sb v4 h4 l4 s4 o4 g4 n4 hl4
 cases hr:e.ring with
 | none=>
  rw [hr] at q2
  have q2:(e.cells r)[0+2]?=some (.ptr none):=q2
  refine qx1 ?_
  refine Ops.strP (h0:=h) (l:=l4) rfl rfl o4 s4 om fun v5 h5 s5 o5 _ _=>?_
  refine qx1 ?_
  exact ⟨s5,o5⟩
 | some q=>
  obtain ⟨R,l1',l2'⟩:=hR q hr
  rw [hr] at q2
  have q2:(e.cells r)[0+2]?=some (.p r 0):=q2
  obtain ⟨C,hC⟩ : ∃ C,C=c122_0:=⟨_,rfl⟩
  simp only [c122_1,<- hC,yJ]
  refine qx1 ?_
  rw [hC]
  have onx:=o4.1
  exact wd_ring hcl (d:=d-1) om (p.old o4) o4 g4 n4 hr (R.keep (o4.2 _ l1') (o4.2 _ l2')) om om s4 om
end
abbrev tNow:List UInt8:=[110,111,119,32]
abbrev tFd:List UInt8:=[102,100,32]
abbrev jlb:List UInt8:=[32,119,105,114,101,32]
abbrev tEnd:List UInt8:=[32,101,110,100,32]
abbrev jcI:List UInt8:=[119,105,114,101]
abbrev jd1:List UInt8:=[108,105,115,116,101,110]
abbrev jeZ:List UInt8:=[114,101,115,101,116]
abbrev tSig:List UInt8:=[115,105,103,110,97,108,32]
abbrev tNo:List UInt8:=[110,111,116,105,99,101,32]
def endK (x:Wi) (k:Nat):Nat:=if 0<x.backlog then 2 else k
noncomputable def jiA (ws:Ws) (fd:Nat):List (List UInt8):=jbU ws (fd:Int) [] fun n k x=>[tFd++dec fd++jlb++dec n++tEnd++dec (endK x k)]
noncomputable def jdw (ws:Ws):Nat->List (List UInt8)
 | 0=>[]
 | n+1=>jdw ws n++jiA ws n
def jmy (x:Wi):List (List UInt8):=(if 0<x.backlog then [jd1,dec x.backlog.toNat]++x.waiting.map (fun m=>dec m.toNat) else jbz x.e0.what x.e0.shut x.e0.ring x.cap++jbz x.e1.what x.e1.shut x.e1.ring x.cap)++if x.reset then [jeZ] else []
def jaN (l:List (List UInt8)):List UInt8:=(l.map fun s=>[32]++s).flatten
def jhW (n:Nat) (x:Wi):List UInt8:=jcI++jaN (dec n :: jmy x)
def jhd (ws:Ws):Nat->List (List UInt8)
 | 0=>[]
 | n+1=>jhd ws n++match ws[n]? with
  | none=>[]
  | some x=>[jhW n x]
def jd4 (hd:Nat->Bool) (pd:Nat->Int):Nat->List (List UInt8)
 | 0=>[]
 | n+1=>jd4 hd pd n++if hd (n+1) then [tSig++dec (n+1)++[32]++dec (pd (n+1)).toNat] else []
def jly:Option (Nat × Nat)->List (List UInt8)
 | none=>[]
 | some p=>[tNo++dec p.1++[32]++dec p.2]
noncomputable def jkB (ws:Ws) (now:Int) (hd:Nat->Bool) (pd:Nat->Int) (no:Option (Nat × Nat)):List (List UInt8) :=
 [tNow++dec now.toNat]++jdw ws 96++jhd ws ws.length++jd4 hd pd 31++jly no
theorem jeM (ws:Ws) : ∀ n,(jdw ws n).length<=n
 | 0=>zq _
 | n+1=>by
  have:=jeM ws n
  have h1:(jiA ws n).length<=1:=by
   unfold jiA jbU
   split
   ·simp
   ·split<;>simp
  simp only [jdw,zg];omega
theorem jga (ws:Ws) : ∀ n,(jhd ws n).length<=n
 | 0=>zq _
 | n+1=>by
  have:=jga ws n
  simp only [jhd,zg]
  split<;>simp<;>omega
theorem jdV (hd:Nat->Bool) (pd:Nat->Int) : ∀ n,(jd4 hd pd n).length<=n
 | 0=>zq _
 | n+1=>by
  have:=jdV hd pd n
  simp only [jd4,zg]
  split<;>simp<;>omega
theorem jbN (a b:List (List UInt8)):jaN (a++b)=jaN a++jaN b:=by simp [jaN]
theorem jjc (a:List UInt8):jaN [a]=32 :: a:=by simp [jaN]
theorem jca (x:List UInt8) (l:List (List UInt8)):Lib.join (x :: l) [32]=x++jaN l:=Lib.join_cons x l [32]
theorem jmi {l:List (List UInt8)} (h:l≠[]):[32]++Lib.join l [32]=jaN l:=by
 cases l with
 | nil=>exact absurd rfl h
 | cons x l=>rw [jca];simp [jaN]
theorem jf2 {w:Int} {s:Bool} {r:Option (List UInt8)} {c:Nat} : jbz w s r c≠[]:=by simp [jbz]
theorem ringS_len {r:Option (List UInt8)} {cap:Nat} (h : ∀ q,r=some q->q.length<=cap) (hc:cap<=65536):(jiw r cap).length<=131100:=by
 cases r with
 | none=>simp [jiw]
 | some q=>
  have:=jkE (h q rfl) hc
  have:=jb2 (u:=cap) om
  simp only [jiw,zg,List.length_singleton];omega
theorem jf1 {w:Int} {s:Bool} {r:Option (List UInt8)} {cap:Nat} (h : ∀ q,r=some q->q.length<=cap) (hc:cap<=65536):(jaN (jbz w s r cap)).length<=131200:=by
 have h1:=ringS_len h hc
 have h2:=jk5 w
 unfold jbz jaN
 cases s<;>simp<;>omega
def BM (h0:H) (rw j:Nat) (i:Int) (l:List (List UInt8)):Post:=fun x e h'=>x = .normal /\ ∃ v' sb,e=(0,.p rw 0) :: (3,v') :: (j,.i i) :: sb/\SR h0.nx h' v' l/\Old h0 h'
theorem jm6 {cl:Nat->Call} (hcl:Sem cl) {d b:Nat} {h:H} {t:Tb} (hd:3<=d) (hb:h.get b=some t.obj) (s:Int):cl d (.fn F.jgs) [.p b 0,.i s] h=some (.bool (t.has s),h):=by
 refine jal (at_ hcl om rfl rfl rfl ?_)
 have hm:=jlQ hcl (d:=d-1) om b s h
 unfold Tb.obj at hb
 by_cases hs:sig? s
 ·rw [if_pos hs] at hm
  obtain ⟨s1,s2⟩:=hs
  refine qo1 ?_
  refine Ops.callf rfl hm ?_
  refine qo1 ?_
  refine Ops.load1 rfl hb (jo3 (k:=s.toNat) om om) ?_
  refine qo1 ?_
  exact ⟨by rw [Tb.has,decide_eq_true ⟨s1,s2⟩];rfl,rfl⟩
 ·rw [if_neg hs] at hm
  refine qo1 ?_
  refine Ops.callf rfl hm ?_
  refine qo1 ?_
  exact ⟨by rw [Tb.has,decide_eq_false hs];rfl,rfl⟩
section
variable {cl:Nat->Call} (hcl:Sem cl) {h h0:H} {w s:Nat} {ow:Nat->Nat} {l:List WX} {now:Int} {tb:Tb} {no:Option (Nat × Nat)} {v:V} {L:List (List UInt8)}
theorem w_JoinS {d N:Nat} {xs:List (List UInt8)} {t:List UInt8} (hcl:Sem cl) (hd:1<=d) (r:SR N h v xs) (hs:(Lib.join xs t).length<=100000000) (hx:xs.length<=1000):cl d (.fn F.jgH) [v,.str t] h=some (.str (Lib.join xs t),h):=by
 obtain ⟨q,c,h1,h2,rfl,hc,hg⟩:=r
 exact w_Join hcl hd hg (by rw [zk,zh Zd]) rfl hs om
include hcl
theorem iw_end {d:Nat} {sb:Env} (hd:2<=d) (P:Pw h) (a:WF h w s ow (fun i=>atS (wxs l) (i:Int)) l now tb no) (nt:NtOk (wxs l) (noI no) (siI no)) (hlen:l.length<=1000) (o:Old h0 h) (sr:SR h0.nx h v L) (hl:L.length<=5000) :
  Run (cl d) fuel c65_4 [] ((0,.p w 0) :: (3,v) :: sb) h (Fin c65.res fun x h'=>SR h0.nx h' x (L++jly no)/\Old h0 h'):=by
 obtain ⟨sa,c,hw,_⟩:=a.head
 have lw:=a.lw
 cases no with
 | none=>
  have q0:(wc (fun i=>atS (wxs l) (i:Int)) (.slice sa l.length c) s now none)[0+291+0]?=some (.bool false):=jkb (j:=0) om rfl
  generalize wc (fun i=>atS (wxs l) (i:Int)) (.slice sa l.length c) s now none=cs at hw q0
  refine qx1 ?_
  exact ⟨by simpa [jly] using sr,o⟩
 | some p=>
  have q0:(wc (fun i=>atS (wxs l) (i:Int)) (.slice sa l.length c) s now (some p))[0+291+0]?=some (.bool true):=jkb (j:=0) om rfl
  have q1:(wc (fun i=>atS (wxs l) (i:Int)) (.slice sa l.length c) s now (some p))[0+291+1]?=some (.i (p.1:Int)):=jkb (j:=1) om rfl
  have q2:(wc (fun i=>atS (wxs l) (i:Int)) (.slice sa l.length c) s now (some p))[0+291+2]?=some (.i (p.2:Int)):=jkb (j:=2) om rfl
  have hp:p.1<=1000/\p.2<=1:=by
   rcases nt with e | ⟨n,k,x,h1,h2,h3,h4,_⟩
   ·have e:(p.1:Int) = -1:=e
    omega
   ·have h1:(p.1:Int)=n:=h1
    have h2:(p.2:Int)=k:=h2
    have:=w_lt h4
    rw [List.length_map] at this
    omega
  clear nt a
  generalize wc (fun i=>atS (wxs l) (i:Int)) (.slice sa l.length c) s now (some p)=cs at hw q0 q1 q2
  refine qx1 ?_
  refine Run.region ?_
  have oG:Old h (h.reserve 1):=⟨by simp,fun j _=>H.get_reserve ..⟩
  have xG:(h.reserve 1).nx=h.nx+1:=by simp
  have sG:=sr.keep (zq _) oG
  have PG:=P.old oG
  generalize h.reserve 1=G at oG xG sG PG ⊢
  have gG:G.get w=some (.cells cs false):=by rw [oG.2 _ lw,hw]
  have e1:=jcW hcl (d:=d) (u:=p.1) om om PG
  have e2:=jcW hcl (d:=d) (u:=p.2) om om PG
  have d1:=jb2 (u:=p.1) om
  have d2:=jb2 (u:=p.2) om
  have n0:=o.1
  refine qx1 ?_
  refine Ops.callf_chk rfl e1 (jat rfl gG q2 rfl ja6) ?_
  refine Ops.sadd rfl rfl Zc ?_
  refine Ops.sadd rfl rfl Zc ?_
  refine qx1 ?_
  refine Ops.sadd rfl rfl Zc ?_
  refine Ops.strP_at (h0:=h0) (l:=L) (t:=tNo++dec p.1++[32]++dec p.2) rfl rfl (o.trans oG) sG om om (fun e=>by have:=(sr.at_ge e).2;omega) om fun v' h' s' o' _ _=>?_
  refine qx1 ?_
  exact ⟨s',o'⟩
theorem iw_sig {d sg:Nat} {sb:Env} (hd:4<=d) (P:Pw h) (a:WF h w s ow (fun i=>atS (wxs l) (i:Int)) l now tb no) (h1:1<=sg) (hs:sg<32) (hc:tb.ok 1000000) (o:Old h0 h) (sr:SR h0.nx h v L) (hl:L.length<=5000) :
  Run (cl d) fuel (.block 7 c65_2) [] ((0,.p w 0) :: (3,v) :: (12,.i (sg:Int)) :: sb) h (BM h0 w 12 sg (L++if tb.hd sg=true then [tSig++dec sg++[32]++dec (tb.pd sg).toNat] else [])):=by
 obtain ⟨sa,c,hw,_⟩:=a.head
 have lw:=a.lw
 have q1:(wc (fun i=>atS (wxs l) (i:Int)) (.slice sa l.length c) s now no)[0+289]?=some (.p s 0):=jdL rfl
 have eh:=jm6 hcl (d:=d) om a.hs (sg:Int)
 have hsg:sig? (sg:Int):=by show (1:Int)<=sg/\(sg:Int)<=31;omega
 have e0:tb.has (sg:Int)=tb.hd sg:=by unfold Tb.has;rw [decide_eq_true hsg];simp
 rw [e0] at eh
 generalize wc (fun i=>atS (wxs l) (i:Int)) (.slice sa l.length c) s now no=cs at hw q1
 cases hh:tb.hd sg with
 | false=>
  rw [hh] at eh
  clear hc
  refine qx1 ?_
  exact End.nil ⟨rfl,v,_,rfl,by simpa using sr,o⟩
 | true=>
  rw [hh] at eh
  have hcs:=hc sg
  obtain ⟨u,hu⟩ : ∃ u:Nat,tb.pd sg=(u:Int):=⟨(tb.pd sg).toNat,by omega⟩
  have ec:tb.cnt (sg:Int)=(u:Int):=by unfold Tb.cnt;rw [if_pos hsg,zw,hu]
  rw [hu] at hcs ⊢
  have hs0:=a.hs
  have ls:=a.ls
  clear hc a hsg
  refine qx1 ?_
  refine Run.region ?_
  have oG:Old h (h.reserve 1):=⟨by simp,fun j _=>H.get_reserve ..⟩
  have xG:(h.reserve 1).nx=h.nx+1:=by simp
  have sG:=sr.keep (zq _) oG
  have PG:=P.old oG
  generalize h.reserve 1=G at oG xG sG PG ⊢
  have gG:G.get w=some (.cells cs false):=by rw [oG.2 _ lw,hw]
  have e3:=jjp hcl (d:=d) om (h:=G) (by rw [oG.2 _ ls,hs0]) (sg:Int)
  rw [ec] at e3
  have e1:=jcW hcl (d:=d) (u:=sg) om om PG
  have e2:=jcW hcl (d:=d) (u:=u) om om PG
  have d1:=jb2 (u:=sg) om
  have d2:=jb2 (u:=u) om
  have n0:=o.1
  refine qx1 ?_
  refine Ops.callf_chk rfl e1 (jat rfl gG q1 rfl ja6) ?_
  refine Ops.sadd rfl rfl Zc ?_
  refine Ops.sadd rfl rfl Zc ?_
  refine qx1 ?_
  refine Ops.sadd rfl rfl Zc ?_
  refine Ops.strP_at (h0:=h0) (l:=L) (t:=tSig++dec sg++[32]++dec u) rfl rfl (o.trans oG) sG om om (fun e=>by have:=(sr.at_ge e).2;omega) om fun v' h' s' o' _ _=>?_
  refine qx1 ?_
  exact End.nil ⟨rfl,v',_,rfl,by simpa using s',o'⟩
theorem iw_fd {d i bx:Nat} {t:V} (hd:2<=d) (P:Pw h) (a:WF h w s ow (fun i=>atS (wxs l) (i:Int)) l now tb no) (u:Uniq (wxs l)) (hlen:l.length<=1000) (hi:i<96) (g:h.get bx=some (.cells (plc (atS (wxs l) (i:Int))) false)) (hb:bx<h.nx) (o:Old h0 h) (sr:SR h0.nx h v L) (hl:L.length<=5000) :
  Run (cl d) fuel c65_17 [] [(0,.p w 0),(3,v),(4,.i (i:Int)),(5,.p bx 0),(25,t),(26,.i (i:Int))] h (fun x e h'=>x = .normal /\ ∃ v',(e=[(0,.p w 0),(3,v'),(25,t),(26,.i (i:Int))]\/e=[(0,.p w 0),(3,v'),(4,.i (i:Int)),(5,.p bx 0),(25,t),(26,.i (i:Int)),(31,.bool false)])/\SR h0.nx h' v' (L++jiA (wxs l) i)/\Old h0 h'):=by
 obtain ⟨sa,c,hw,hsl⟩:=a.head
 have lw:=a.lw
 cases ha:atS (wxs l) (i:Int) with
 | none=>
  have hS:jiA (wxs l) i=[]:=by unfold jiA jbU;rw [ha]
  rw [hS,List.append_nil]
  rw [ha] at g
  have q0:(plc none)[0+0]?=some (.bool false):=rfl
  refine qx1 ?_
  exact End.nil ⟨rfl,v,.inr rfl,sr,o⟩
 | some p=>
  obtain ⟨n,k⟩:=p
  obtain ⟨x,hx,hk,_⟩:=id (jog ha)
  obtain ⟨t',ht,rfl⟩:=jhn hx
  have hS:jiA (wxs l) i=[tFd++dec i++jlb++dec n++tEnd++dec (endK t'.x k)]:=ja7 u (jog ha) hx
  rw [hS]
  rw [ha] at g
  have q0:(plc (some (n,k)))[0+0]?=some (.bool true):=rfl
  have q1:(plc (some (n,k)))[0+1]?=some (.i (n:Int)):=rfl
  have q2:(plc (some (n,k)))[0+2]?=some (.i (k:Int)):=rfl
  have hn:=x_lt ht
  have X:=a.ok n t' ht
  have hxw:=X.hx
  have lx:=X.lx
  have c1:(wc (fun i=>atS (wxs l) (i:Int)) (.slice sa l.length c) s now no)[0+288]?=some (.slice sa l.length c):=jaO rfl
  obtain ⟨z,rfl,z1,z2,z3⟩:=hsl (by rintro rfl;simp at hn)
  have w2:(wps l)[0+(n:Int).toNat*1]?=some (.p t'.wb 0):=by rw [show 0+(n:Int).toNat*1=n by omega];exact jcS ht
  have q15:(t'.x.cells t'.r0 t'.r1 t'.wv)[0+15]?=some (.i t'.x.backlog):=rfl
  have hxw:h.get t'.wb=some (.cells (t'.x.cells t'.r0 t'.r1 t'.wv) false):=hxw
  have hk2:endK t'.x k<=2:=by unfold endK;split<;>omega
  clear a X u hS
  generalize wc (fun i=>atS (wxs l) (i:Int)) (.slice (some (z,0)) l.length c) s now no=cs at hw c1
  generalize plc (some (n,k))=pl at g q0 q1 q2
  generalize t'.x.cells t'.r0 t'.r1 t'.wv=xc at hxw q15
  suffices key : ∀ (K6:Nat) (sb:Env),K6=endK t'.x k->Run (cl d) fuel c65_15 [] ((0,.p w 0) :: (3,v) :: (4,.i (i:Int)) :: (5,.p bx 0) :: (6,.i (K6:Int)) :: (25,t) :: (26,.i (i:Int)) :: sb) h (fun x e h'=>x = .normal /\ ∃ v',(e=[(0,.p w 0),(3,v'),(25,t),(26,.i (i:Int))]\/e=[(0,.p w 0),(3,v'),(4,.i (i:Int)),(5,.p bx 0),(25,t),(26,.i (i:Int)),(31,.bool false)])/\SR h0.nx h' v' (L++[tFd++dec i++jlb++dec n++tEnd++dec (endK t'.x k)])/\Old h0 h') by
   obtain ⟨C,hC⟩ : ∃ C,C=c65_15:=⟨_,rfl⟩
   simp only [c65_17,c65_16,<- hC,yB]
   by_cases hb':t'.x.backlog>0
   ·have ek:2=endK t'.x k:=(if_pos hb').symm
    refine qx1 ?_
    rw [hC]
    exact key 2 _ ek
   ·have ek:k=endK t'.x k:=(if_neg hb').symm
    refine qx1 ?_
    rw [hC]
    exact key k _ ek
  rintro K6 sb rfl
  generalize endK t'.x k=K6 at hk2
  refine Run.region ?_
  have oG:Old h (h.reserve 1):=⟨by simp,fun j _=>H.get_reserve ..⟩
  have xG:(h.reserve 1).nx=h.nx+1:=by simp
  have sG:=sr.keep (zq _) oG
  have PG:=P.old oG
  generalize h.reserve 1=G at oG xG sG PG ⊢
  have gG:G.get bx=some (.cells pl false):=by rw [oG.2 _ hb,g]
  have e1:=jcW hcl (d:=d) (u:=i) om om PG
  have e2:=jcW hcl (d:=d) (u:=n) om om PG
  have e3:=jcW hcl (d:=d) (u:=K6) om om PG
  have d1:=jb2 (u:=i) om
  have d2:=jb2 (u:=n) om
  have d3:=jb2 (u:=K6) om
  have n0:=o.1
  refine qx1 ?_
  refine Ops.callf_chk rfl e1 (jat rfl gG q1 rfl ja6) ?_
  refine Ops.sadd rfl rfl Zc ?_
  refine Ops.sadd rfl rfl Zc ?_
  refine qx1 ?_
  refine Ops.sadd rfl rfl Zc ?_
  refine Ops.sadd rfl rfl Zc ?_
  refine qx1 ?_
  refine Ops.sadd rfl rfl Zc ?_
  refine Ops.strP_at (h0:=h0) (l:=L) (t:=tFd++dec i++jlb++dec n++tEnd++dec K6) rfl rfl (o.trans oG) sG om om (fun e=>by have:=(sr.at_ge e).2;omega) om fun v' h' s' o' _ _=>?_
  refine qx1 ?_
  exact End.nil ⟨rfl,v',.inl rfl,s',o'⟩
end
def WM (h0:H) (w:Nat) (t1 t2 t3:V) (l:List (List UInt8)):Post:=fun x e h'=>x = .normal /\ ∃ v',e=[(0,.p w 0),(3,v'),(65,t1),(66,t2),(67,t3)]/\SR h0.nx h' v' l/\Old h0 h'
section
variable {cl:Nat->Call} (hcl:Sem cl) {h h0 h1:H} {w:Nat} {v v9 t1 t2 t3:V} {L:List (List UInt8)} {xs:List (List UInt8)} {t:WX} {n:Nat}
include hcl
theorem jnT {d:Nat} {sb:Env} (hd:1<=d) (o:Old h0 h1) (sr:SR h0.nx h1 v L) (hl:L.length<=5000) (o1:Old h1 h) (s9:SR h1.nx h v9 xs) (hx:xs≠[]) (hxl:xs.length<=200) (hj:(Lib.join xs [32]).length<=1000000) (g:h.get t.wb=some (.cells (t.x.cells t.r0 t.r1 t.wv) false)) :
  Run (cl d) fuel c65_11 [] ((0,.p w 0) :: (3,v) :: (8,.p t.wb 0) :: (9,v9) :: (65,t1) :: (66,t2) :: (67,t3) :: sb) h (WM h0 w t1 t2 t3 (L++[Lib.join (xs++if t.x.reset then [jeZ] else []) [32]])):=by
 have q14:(t.x.cells t.r0 t.r1 t.wv)[0+14]?=some (.bool t.x.reset):=rfl
 generalize t.x.cells t.r0 t.r1 t.wv=cs at g q14
 suffices key : ∀ (sb:Env) (v5:V) (h5:H) (ys:List (List UInt8)),Old h1 h5->SR h1.nx h5 v5 ys->ys.length<=300->(Lib.join ys [32]).length<=2000000->Run (cl d) fuel c65_5 [] ((0,.p w 0) :: (3,v) :: (9,v5) :: (65,t1) :: (66,t2) :: (67,t3) :: sb) h5 (WM h0 w t1 t2 t3 (L++[Lib.join ys [32]])) by
  obtain ⟨C,hC⟩ : ∃ C,C=c65_5:=⟨_,rfl⟩
  simp only [c65_11,<- hC,yH]
  cases hr:t.x.reset with
  | false=>
   rw [hr] at q14
   refine qx1 ?_
   rw [hC]
   simpa using key _ v9 h xs o1 s9 om om
  | true=>
   rw [hr] at q14
   refine qx1 ?_
   refine Ops.strP (h0:=h1) (l:=xs) (t:=jeZ) rfl rfl o1 s9 om fun v5 h5 s5 o5 _ _=>?_
   refine qx1 ?_
   rw [hC]
   refine key _ v5 h5 _ o5 s5 Zc ?_
   obtain ⟨x,ys,rfl⟩:=List.exists_cons_of_ne_nil hx
   rw [if_pos rfl,List.cons_append,jca,jbN,jjc]
   rw [jca] at hj
   simp at hj ⊢;omega
 intro sb v5 h5 ys o5 s5 hy hyj
 have ej:=w_JoinS hcl (d:=d) (t:=[32]) hd s5 om om
 refine qx1 ?_
 refine Ops.strP (h0:=h0) (l:=L) (t:=Lib.join ys [32]) rfl rfl (o.trans o5) (sr.keep (zq _) o5) om fun v' h' s' o' _ _=>?_
 refine qx1 ?_
 exact End.nil ⟨rfl,v',rfl,s',o'⟩
omit hcl in
theorem len_get {b:Nat} {L:List Int} (hL : ∀ m∈L,0<=m/\m<=1000) : ∀ i,(jaN ((L.take i).map fun m=>dec m.toNat)).length<=21*i+b*0:=by
 intro i
 induction i with
 | zero=>simp [jaN]
 | succ i ih=>
  rw [List.take_add_one,List.map_append,jbN,zg]
  cases hi:L[i]? with
  | none=>simp [jaN] at ih ⊢;omega
  | some m=>
   have:=hL m (zc hi)
   have:=jb2 (u:=m.toNat) om
   simp [jaN] at ih ⊢;omega
theorem iw_listen {d:Nat} {sb:Env} {ow:Nat->Nat} (hd:1<=d) (P:Pw h1) (X:XOk h1 ow n t) (wi:WiOk t.x) (hb:0<t.x.backlog) (wt:t.x.waiting.length<=64 /\ ∀ m∈t.x.waiting,0<=m/\m<=1000) (o:Old h0 h1) (sr:SR h0.nx h1 v L) (hl:L.length<=5000) (o1:Old h1 h) (s9:SR h1.nx h v9 [jcI,dec n]) (hn:n<=100000) :
  Run (cl d) fuel c65_9 [.seq c65_11] ((0,.p w 0) :: (3,v) :: (8,.p t.wb 0) :: (9,v9) :: (65,t1) :: (66,t2) :: (67,t3) :: sb) h (WM h0 w t1 t2 t3 (L++[jhW n t.x])):=by
 have lx:=X.lx
 have g1:h1.get t.wb=some (.cells (t.x.cells t.r0 t.r1 t.wv) false):=X.hx
 have g:h.get t.wb=some (.cells (t.x.cells t.r0 t.r1 t.wv) false):=by rw [o1.2 _ lx,g1]
 have q15:(t.x.cells t.r0 t.r1 t.wv)[0+15]?=some (.i t.x.backlog):=rfl
 obtain ⟨b,hbb⟩ : ∃ b:Nat,t.x.backlog=(b:Int):=⟨t.x.backlog.toNat,by omega⟩
 have hbl:=wi.bl
 rw [hbb] at q15 hbl
 have eI:=jcW hcl (d:=d) (u:=b) hd om (P.old o1)
 have dn:=jb2 (u:=n) om
 have db:=jb2 (u:=b) om
 obtain ⟨⟨a,c,hv,_,_,hin⟩,_⟩:=X.wait
 have q16:(t.x.cells t.r0 t.r1 t.wv)[0+16]?=some (.slice a t.x.waiting.length c):=by rw [<- hv];rfl
 have hline:jhW n t.x=Lib.join (([jcI,dec n]++[jd1,dec b]++t.x.waiting.map fun m=>dec m.toNat)++if t.x.reset then [jeZ] else []) [32]:=by
  rw [show (([jcI,dec n]++[jd1,dec b]++t.x.waiting.map fun m=>dec m.toNat)++if t.x.reset then [jeZ] else [])=jcI :: dec n :: jmy t.x by unfold jmy;rw [if_pos hb,hbb,zw];simp,jca];rfl
 rw [hline]
 have hlen:=len_get (b:=0) wt.2
 obtain ⟨C,hC⟩ : ∃ C,C=c65_11:=⟨_,rfl⟩
 rw [<- hC]
 refine qx1 ?_
 refine Ops.make (ob := .cells [V.str jd1,V.str (dec b)] false) (mk:=fun b=>.slice (some (b,0)) 2 (.fix 2)) rfl rfl ?_
 refine Ops.strA (h0:=h1) (l:=[jcI,dec n]) (new:=[jd1,dec b]) rfl rfl o1.new (s9.keep (zq _) (Old.refl h).new) om (jac _) Zd rfl Zd (fun _ _=>rfl) fun v4 h4 s4 o4 _ _=>?_
 have g4:h4.get t.wb=some (.cells (t.x.cells t.r0 t.r1 t.wv) false):=by rw [o4.2 _ lx,g1]
 clear g
 refine qx1 ?_
 refine Run.loop (fun m e g=>∃ (i:Nat) (v5:V),m=t.x.waiting.length-i/\i<=t.x.waiting.length/\e=[(0,.p w 0),(3,v),(8,.p t.wb 0),(9,v5),(65,t1),(66,t2),(67,t3),(91,.slice a t.x.waiting.length c),(92,.i (t.x.waiting.length:Int)),(93,.i (i:Int))]/\SR h1.nx g v5 ([jcI,dec n]++[jd1,dec b]++(t.x.waiting.take i).map fun m=>dec m.toNat)/\Old h1 g)
  (k:=t.x.waiting.length) Ze ⟨0,v4,rfl,by omega,rfl,by simpa using s4,o4⟩ ?_
 rintro _ _ g ⟨i,v5,rfl,hi,rfl,s5,o5⟩ f ih
 by_cases hlt:(i:Int)<t.x.waiting.length
 case neg=>
  obtain rfl:i=t.x.waiting.length:=by omega
  have hlen:=hlen t.x.waiting.length
  rw [List.take_length] at s5 hlen
  clear ih hin
  refine qx1 ?_
  rw [hC]
  refine jnT hcl hd o sr hl o5 s5 Zd Zc ?_ (by rw [o5.2 _ lx,g1])
  rw [show ([jcI,dec n]++[jd1,dec b]++t.x.waiting.map fun m=>dec m.toNat)=jcI :: ([dec n,jd1,dec b]++t.x.waiting.map fun m=>dec m.toNat) from rfl,jca,jbN]
  simp [jaN] at hlen ⊢;omega
 obtain ⟨m,hm⟩ : ∃ m,t.x.waiting[i]?=some m:=⟨_,za om⟩
 obtain ⟨m0,m1⟩:=wt.2 m (zc hm)
 obtain ⟨u,rfl⟩ : ∃ u:Nat,m=(u:Int):=⟨m.toNat,by omega⟩
 obtain ⟨zb,zo,cs,ro,rfl,z1,z2,z3⟩:=hin (by rintro e;rw [e] at hm;simp at hm)
 have gz:g.get zb=some (.cells cs ro):=by rw [o5.2 zb z1,z2]
 have hz:cs[zo+(i:Int).toNat*1]?=some (.i (u:Int)):=by
  rw [show zo+(i:Int).toNat*1=zo+i by omega];exact z3 i _ hm
 have eU:=jcW hcl (d:=d) (u:=u) hd om (P.old o5)
 have hi1:(i:Int)+1=((i+1:Nat):Int):=by omega
 have hwl:=wt.1
 clear hin z3 hlen
 refine qx1 ?_
 refine Ops.strP (h0:=h1) (t:=dec u) rfl rfl o5 s5 Zc fun v6 h6 s6 o6 _ _=>?_
 refine qx1 ?_
 rw [hi1]
 refine ih (t.x.waiting.length-(i+1)) om _ _ ⟨i+1,v6,rfl,by omega,rfl,?_,o6⟩
 rw [List.take_add_one,hm]
 simpa using s6
theorem iw_ends {d:Nat} {sb:Env} {ow:Nat->Nat} (hd:9<=d) (P:Pw h1) (X:XOk h1 ow n t) (wi:WiOk t.x) (hb : ¬ 0<t.x.backlog) (o:Old h0 h1) (sr:SR h0.nx h1 v L) (hl:L.length<=5000) (o1:Old h1 h) (s9:SR h1.nx h v9 [jcI,dec n]) (hn:n<=100000) :
  Run (cl d) fuel c65_10 [.seq c65_11] ((0,.p w 0) :: (3,v) :: (8,.p t.wb 0) :: (9,v9) :: (65,t1) :: (66,t2) :: (67,t3) :: sb) h (WM h0 w t1 t2 t3 (L++[jhW n t.x])):=by
 have lx:=X.lx
 have g1:h1.get t.wb=some (.cells (t.x.cells t.r0 t.r1 t.wv) false):=X.hx
 have G : ∀ h',Old h1 h'->h'.get t.wb=some (.cells (t.x.cells t.r0 t.r1 t.wv) false):=fun h' o'=>by rw [o'.2 _ lx,g1]
 have R : ∀ k,k=0\/k=1 -> ∀ h',Old h1 h' -> ∀ q,(t.x.e k).ring=some q->ja0 h' (t.r k) (t.b k) q t.x.cap/\t.r k<h'.nx/\t.b k<h'.nx:=fun k hk h' o' q hq=>by
  obtain ⟨p1,p2,p3,p4,p5⟩:=X.ring k hk q hq
  have:=o'.1
  exact ⟨p1.keep (o'.2 _ p4) (o'.2 _ p5),by omega,by omega⟩
 have c1:=wi.cap1
 have l0 : ∀ q,t.x.e0.ring=some q->q.length<=t.x.cap:=wi.len 0 (.inl rfl)
 have l1 : ∀ q,t.x.e1.ring=some q->q.length<=t.x.cap:=wi.len 1 (.inr rfl)
 have W0:=jf1 (w:=t.x.e0.what) (s:=t.x.e0.shut) l0 c1
 have W1:=jf1 (w:=t.x.e1.what) (s:=t.x.e1.shut) l1 c1
 have dn:=jb2 (u:=n) om
 have hline:jhW n t.x=Lib.join (([jcI,dec n]++jbz t.x.e0.what t.x.e0.shut t.x.e0.ring t.x.cap++jbz t.x.e1.what t.x.e1.shut t.x.e1.ring t.x.cap)++if t.x.reset then [jeZ] else []) [32]:=by
  rw [show (([jcI,dec n]++jbz t.x.e0.what t.x.e0.shut t.x.e0.ring t.x.cap++jbz t.x.e1.what t.x.e1.shut t.x.e1.ring t.x.cap)++if t.x.reset then [jeZ] else [])=jcI :: dec n :: jmy t.x by unfold jmy;rw [if_neg hb];simp,jca];rfl
 rw [hline]
 have wl : ∀ w s r c,(jbz w s r c).length<=3:=fun w s r c=>by unfold jbz;cases s<;>simp
 obtain ⟨vA,hA,eA,sA,oA⟩:=jlP hcl (d:=d) (r:=t.r0) (b:=t.b0) (cap:=t.x.cap) (e:=t.x.e0) (h:=h) hd (P.old o1) wi.wh.1 (R 0 (.inl rfl) h o1)
 have len0:=wl t.x.e0.what t.x.e0.shut t.x.e0.ring t.x.cap
 have len1:=wl t.x.e1.what t.x.e1.shut t.x.e1.ring t.x.cap
 have g:=G h o1
 have gA:=G hA (o1.trans oA)
 have hsz:(t.x.cells t.r0 t.r1 t.wv).length=17:=rfl
 have k1 : ∀ h',Old h1 h'->h'.get t.wb=some (.cells (t.x.cells t.r0 t.r1 t.wv) false):=G
 obtain ⟨C,hC⟩ : ∃ C,C=c65_11:=⟨_,rfl⟩
 rw [<- hC]
 refine qx1 ?_
 refine Ops.loadN rfl g (by rw [hsz];decide) ?_
 refine qx1 ?_
 refine Ops.loadN rfl g (by rw [hsz];decide) ?_
 refine Ops.callf_chk rfl eA (je7 rfl gA (by rw [hsz];decide) rfl rfl ja6) ?_
 refine Ops.strS (h0:=h1) (l:=[jcI,dec n]) rfl rfl (o1.trans oA) (s9.keep (zq _) oA) sA jf2 Zc (fun h' o'=>je7 rfl (k1 h' o') (by rw [hsz];decide) rfl rfl ja6) fun vB hB sB oB _ _=>?_
 obtain ⟨vC,hC',eC,sC,oC⟩:=jlP hcl (d:=d) (r:=t.r1) (b:=t.b1) (cap:=t.x.cap) (e:=t.x.e1) (h:=hB) hd (P.old oB) wi.wh.2 (R 1 (.inr rfl) hB oB)
 refine Ops.callf rfl eC ?_
 refine Ops.strS (h0:=h1) rfl rfl (oB.trans oC) (sB.keep (zq _) oC) sC jf2 Zc (fun _ _=>rfl) fun vD hD sD oD _ _=>?_
 refine qx1 ?_
 rw [hC]
 refine jnT hcl om o sr hl oD sD Zd Zc ?_ (G hD oD)
 rw [show [jcI,dec n]++jbz t.x.e0.what t.x.e0.shut t.x.e0.ring t.x.cap++jbz t.x.e1.what t.x.e1.shut t.x.e1.ring t.x.cap=jcI :: ([dec n]++jbz t.x.e0.what t.x.e0.shut t.x.e0.ring t.x.cap++jbz t.x.e1.what t.x.e1.shut t.x.e1.ring t.x.cap) from rfl,jca,jbN,jbN,jjc]
 simp only [zg,List.length_cons,List.length_nil] at W0 W1 ⊢;omega
theorem iw_12 {d:Nat} {sb:Env} {ow:Nat->Nat} (hd:9<=d) (P:Pw h1) (X:XOk h1 ow n t) (wi:WiOk t.x) (wt:t.x.waiting.length<=64 /\ ∀ m∈t.x.waiting,0<=m/\m<=1000) (o:Old h0 h1) (sr:SR h0.nx h1 v L) (hl:L.length<=5000) (o1:Old h1 h) (s9:SR h1.nx h v9 [jcI,dec n]) (hn:n<=100000) :
  Run (cl d) fuel c65_12 [] ((0,.p w 0) :: (3,v) :: (8,.p t.wb 0) :: (9,v9) :: (65,t1) :: (66,t2) :: (67,t3) :: sb) h (WM h0 w t1 t2 t3 (L++[jhW n t.x])):=by
 have q15:(t.x.cells t.r0 t.r1 t.wv)[0+15]?=some (.i t.x.backlog):=rfl
 have g:h.get t.wb=some (.cells (t.x.cells t.r0 t.r1 t.wv) false):=by rw [o1.2 _ X.lx];exact X.hx
 obtain ⟨C9,hC9⟩ : ∃ C,C=c65_9:=⟨_,rfl⟩
 obtain ⟨C10,hC10⟩ : ∃ C,C=c65_10:=⟨_,rfl⟩
 obtain ⟨C11,hC11⟩ : ∃ C,C=c65_11:=⟨_,rfl⟩
 simp only [c65_12,<- hC9,<- hC10,<- hC11,yD]
 by_cases hb:0<t.x.backlog
 ·have hb':t.x.backlog>0:=hb
  have T:=fun sb=>iw_listen (sb:=sb) hcl (d:=d) (w:=w) (t1:=t1) (t2:=t2) (t3:=t3) om P X wi hb wt o sr hl o1 s9 hn
  rw [<- hC9,<- hC11] at T
  clear wi wt X
  refine qx1 ?_
  exact T _
 ·have hb' : ¬ t.x.backlog>0:=hb
  have T:=fun sb=>iw_ends (sb:=sb) hcl (d:=d) (w:=w) (t1:=t1) (t2:=t2) (t3:=t3) hd P X wi hb o sr hl o1 s9 hn
  rw [<- hC10,<- hC11] at T
  clear wi wt X
  refine qx1 ?_
  exact T _
end
theorem plc_one {p:Option (Nat × Nat)} : (plc p).all V.one=true:=by cases p<;>rfl
section
variable {cl:Nat->Call} (hcl:Sem cl) {h h0:H} {w s:Nat} {ow:Nat->Nat} {l:List WX} {now:Int} {tb:Tb} {no:Option (Nat × Nat)} {v:V} {L:List (List UInt8)}
include hcl
theorem iw_wireB {d n z:Nat} {sb:Env} {cp:Cap} (hd:9<=d) (P:Pw h) (a:WF h w s ow (fun i=>atS (wxs l) (i:Int)) l now tb no) (ok:WsOk (wxs l)) {t:WX} (ht:l[n]?=some t) (hz:h.get z=some (.cells (wps l) false)) (o:Old h0 h) (sr:SR h0.nx h v L) (hl:L.length<=5000) :
  Run (cl d) fuel (.block 3 c65_13) [] ((0,.p w 0) :: (3,v) :: (65,.slice (some (z,0)) l.length cp) :: (66,.i (l.length:Int)) :: (67,.i (n:Int)) :: sb) h (WM h0 w (.slice (some (z,0)) l.length cp) (.i (l.length:Int)) (.i (n:Int)) (L++[jhW n t.x])):=by
 have X:=a.ok n t ht
 have hn:=x_lt ht
 have hl2:=ok.len
 rw [List.length_map] at hl2
 have hx:=jaj ht
 have wi:=ok.ok _ (zc hx)
 have wt:t.x.waiting.length<=64 /\ ∀ m∈t.x.waiting,0<=m/\m<=1000:=by
  have hx:=zc hx
  refine ⟨(ok.wait _ hx).1,fun m hm=>?_⟩
  obtain ⟨y,y0,y1,_⟩:=(ok.wait _ hx).2 m hm
  have:=w_lt y1
  rw [List.length_map] at this
  omega
 have w2:(wps l)[0+(n:Int).toNat*1]?=some (.p t.wb 0):=by rw [show 0+(n:Int).toNat*1=n by omega];exact jcS ht
 have eI:=jcW hcl (d:=d) (u:=n) om om P
 obtain ⟨C,hC⟩ : ∃ C,C=c65_12:=⟨_,rfl⟩
 simp only [c65_13,<- hC,yH]
 have lx:=X.lx
 clear ok
 refine qx1 ?_
 refine Ops.make (ob := .cells [V.str jcI,V.str (dec n)] false) (mk:=fun b=>.slice (some (b,0)) 2 (.fix 2)) rfl rfl ?_
 have o1:Old h (h.new (.cells [V.str jcI,V.str (dec n)] false)):=(Old.refl h).new
 have s9:SR h.nx (h.new (.cells [V.str jcI,V.str (dec n)] false)) (.slice (some (h.nx,0)) 2 (.fix 2)) [jcI,dec n]:=⟨h.nx,_,by omega,by simp,rfl,.inr rfl,jac _⟩
 generalize h.new (.cells [V.str jcI,V.str (dec n)] false)=h1 at o1 s9 ⊢
 generalize V.slice (some (h.nx,0)) 2 (.fix 2)=v9 at s9 ⊢
 have T:=fun sb=>iw_12 (sb:=sb) hcl (d:=d) (w:=w) (t1 := .slice (some (z,0)) l.length cp) (t2 := .i (l.length:Int)) (t3 := .i (n:Int)) hd P X wi wt o sr hl o1 s9 om
 rw [<- hC] at T
 clear wi wt X a
 refine qx1 ?_
 refine Run.cut _ (T _) ?_
 rintro _ _ h' ⟨rfl,v',rfl,s',o'⟩
 refine qx1 ?_
 exact End.nil ⟨rfl,v',rfl,s',o'⟩
theorem ww_Image {d:Nat} {ws:Ws} (hd:10<=d) (P:Pw h) (a:WSt h w s ow ws now tb no) (ok:WsOk ws) (hn:0<=now/\now<=18446744073709551615) (hc:tb.ok 1000000) (nt:NtOk ws (noI no) (siI no)) :
  ∃ v h',cl d (.fn F.jgp) [.p w 0] h=some (v,h')/\SR h.nx h' v (jkB ws now tb.hd tb.pd no)/\Old h h':=by
 obtain ⟨l,⟨a,fds⟩,rfl⟩:=a
 obtain ⟨u,rfl⟩ : ∃ u:Nat,now=(u:Int):=⟨now.toNat,by omega⟩
 obtain ⟨sa,c,hw,hsl⟩:=a.head
 have hnone:=jbC hcl (d:=d-1) om a
 have lw:=a.lw
 have hl2:=ok.len
 rw [List.length_map] at hl2
 have q1:(wc (fun i=>atS (wxs l) (i:Int)) (.slice sa l.length c) s u no)[0+290]?=some (.int .u64 (u:Int)):=jnu rfl
 have q0:(wc (fun i=>atS (wxs l) (i:Int)) (.slice sa l.length c) s u no)[0+288]?=some (.slice sa l.length c):=jaO rfl
 have hwl:=jbr (f:=fun i=>atS (wxs l) (i:Int)) (wv := .slice sa l.length c) (s:=s) (now:=u) (no:=no)
 have htab:=jka (f:=fun i=>atS (wxs l) (i:Int)) (wv := .slice sa l.length c) (s:=s) (now:=u) (no:=no)
 have e1:=w_FmtU hcl (d:=d-1) (u:=u) om om P
 have d1:=jb2 (u:=u) om
 generalize wc (fun i=>atS (wxs l) (i:Int)) (.slice sa l.length c) s u no=cs at hw q1 q0 hwl htab
 refine at_ hcl om rfl rfl rfl ?_
 obtain ⟨C2,hC2⟩ : ∃ C,C=c65_2:=⟨_,rfl⟩
 obtain ⟨C4,hC4⟩ : ∃ C,C=c65_4:=⟨_,rfl⟩
 obtain ⟨C13,hC13⟩ : ∃ C,C=c65_13:=⟨_,rfl⟩
 obtain ⟨C17,hC17⟩ : ∃ C,C=c65_17:=⟨_,rfl⟩
 simp only [c65,c65_21,c65_20,c65_19,c65_18,c65_14,c65_3,<- hC2,<- hC4,<- hC13,<- hC17,yB,yC,yD,yF,yH]
 refine qx1 ?_
 refine Ops.sadd rfl rfl Zc ?_
 refine Ops.make (ob := .cells [V.str (tNow++dec u)] false) (mk:=fun b=>.slice (some (b,0)) 1 (.fix 1)) rfl rfl ?_
 have o2:Old h (h.new (.cells [V.str (tNow++dec u)] false)):=(Old.refl h).new
 have s2:SR h.nx (h.new (.cells [V.str (tNow++dec u)] false)) (.slice (some (h.nx,0)) 1 (.fix 1)) ([tNow++dec u]++jdw (wxs l) 0):=⟨h.nx,_,by omega,by simp,rfl,.inr rfl,jac _⟩
 generalize h.new (.cells [V.str (tNow++dec u)] false)=h2 at o2 s2 ⊢
 generalize V.slice (some (h.nx,0)) 1 (.fix 1)=v2 at s2 ⊢
 have hw2:h2.get w=some (.cells cs false):=by rw [o2.2 _ lw,hw]
 clear e1 hnone
 refine qx1 ?_
 refine Ops.loadN rfl hw2 (by rw [hwl];decide) ?_
 rw [show 0+0=0 from rfl,htab]
 refine qx1 ?_
 refine Run.loop (fun m e g=>∃ (i:Nat) (v:V),m=96-i/\i<=96/\e=[(0,.p w 0),(3,v),(25,.agg (jd5 fun i=>atS (wxs l) (i:Int))),(26,.i (i:Int))]/\SR h.nx g v ([tNow++dec u]++jdw (wxs l) i)/\Old h g)
  (k:=96) Ze ⟨0,v2,rfl,by omega,rfl,s2,o2⟩ ?_
 clear o2 s2 hw2
 rintro _ _ g ⟨i,v,rfl,hi,rfl,sr,o⟩ f ih
 have L1:=jeM (wxs l) i
 by_cases hlt:i<96
 case pos=>
  have hi1:(i:Int)+1=((i+1:Nat):Int):=by omega
  have aG:=a.old o
  have PG:=P.old o
  clear hsl fds hc nt
  refine qx1 ?_
  refine Ops.ixAn (m:=3) rfl rfl hlt (by rw [ja4];omega) (jg9 hlt) ?_
  refine Ops.make (ob := .cells [.bool false,.i 0,.i 0] false) (mk:=fun b=>.p b 0) rfl rfl ?_
  have o3:Old g ((g.new (.cells [.bool false,.i 0,.i 0] false)).set g.nx (.cells (plc (atS (wxs l) (i:Int))) false)):=(Old.refl g).new.set (zq _)
  have T:=iw_fd hcl (d:=d-1) (t := .agg (jd5 fun i=>atS (wxs l) (i:Int))) om (PG.old o3) (aG.old o3) ok.uniq hl2 hlt (jab _) Zd (o.trans o3) (sr.keep (zq _) o3) Zc
  rw [<- hC17] at T
  refine qx1 ?_
  refine Ops.storeN rfl rfl rfl plc_one (jac _) (by decide) ?_
  rw [show jao [V.bool false,.i 0,.i 0] 0 (plc (atS (wxs l) (i:Int)))=plc (atS (wxs l) (i:Int)) from rfl]
  refine qx1 ?_
  refine Run.cut _ T ?_
  rintro _ _ h' ⟨rfl,v',rfl | rfl,s',o'⟩
  all_goals
   repeat' (first|refine qxy ?_|refine zbf rfl (fun _=>?_) fun _=>?_|refine zbg rfl (fun _=>?_) fun _=>?_|refine zbh rfl (fun _=>?_) fun _=>?_|refine zbm rfl (fun _=>?_) fun _=>?_|refine zbn rfl (fun _=>?_) fun _=>?_)
   rw [hi1]
   exact ih (96-(i+1)) om _ _ ⟨i+1,v',rfl,by omega,rfl,by rw [jdw,<- List.append_assoc];exact s',o'⟩
 obtain rfl:i=96:=by omega
 have hlt' : ¬ ((96:Nat):Int)<96:=by omega
 clear ih
 have gw:g.get w=some (.cells cs false):=by rw [o.2 w lw,hw]
 refine qx1 ?_
 refine Run.loop (fun m e g=>∃ (i:Nat) (v:V),m=l.length-i/\i<=l.length/\e=[(0,.p w 0),(3,v),(65,.slice sa l.length c),(66,.i (l.length:Int)),(67,.i (i:Int))]/\SR h.nx g v ([tNow++dec u]++jdw (wxs l) 96++jhd (wxs l) i)/\Old h g)
  (k:=l.length) Ze ⟨0,v,rfl,by omega,rfl,by simpa [jhd] using sr,o⟩ ?_
 clear o sr v g gw
 rintro _ _ g ⟨i,v,rfl,hi,rfl,sr,o⟩ f ih
 have L2:=jga (wxs l) i
 by_cases hlt:i<l.length
 case pos=>
  have hlt':(i:Int)<(l.length:Int):=by omega
  have hi1:(i:Int)+1=((i+1:Nat):Int):=by omega
  obtain ⟨t,ht⟩ : ∃ t,l[i]?=some t:=⟨_,za hlt⟩
  obtain ⟨z,rfl,z1,z2,z3⟩:=hsl (by rintro rfl;simp at hlt)
  have T:=fun sb=>iw_wireB (sb:=sb) hcl (d:=d-1) (cp:=c) om (P.old o) (a.old o) ok ht (by rw [o.2 z z1,z3]) o sr (by simp at L1 L2 ⊢;omega)
  rw [<- hC13] at T
  clear hsl fds hc nt
  refine qb1 ?_
  refine Run.cut _ (T _) ?_
  rintro _ _ h' ⟨rfl,v',rfl,s',o'⟩
  refine qx1 ?_
  rw [hi1]
  refine ih (l.length-(i+1)) om _ _ ⟨i+1,v',rfl,by omega,rfl,?_,o'⟩
  rw [jhd,jaj ht,<- List.append_assoc];exact s'
 obtain rfl:i=l.length:=by omega
 have hlt' : ¬ (l.length:Int)<(l.length:Int):=by omega
 clear ih
 refine qx1 ?_
 refine Run.loop (fun m e g=>∃ (i:Nat) (v:V),m=31-i/\i<=31/\e=[(0,.p w 0),(3,v),(12,.i ((i+1:Nat):Int))]/\SR h.nx g v ([tNow++dec u]++jdw (wxs l) 96++jhd (wxs l) l.length++jd4 tb.hd tb.pd i)/\Old h g)
  (k:=31) Ze ⟨0,v,rfl,by omega,rfl,by simpa [jd4] using sr,o⟩ ?_
 clear o sr v g
 rintro _ _ g ⟨i,v,rfl,hi,rfl,sr,o⟩ f ih
 have L3:=jdV tb.hd tb.pd i
 by_cases hlt:i<31
 case pos=>
  have hlt':((i+1:Nat):Int)<=31:=by omega
  have hi1:((i+1:Nat):Int)+1=((i+1+1:Nat):Int):=by omega
  have T:=fun sb=>iw_sig (sb:=sb) hcl (d:=d-1) (sg:=i+1) om (P.old o) (a.old o) om om hc o sr (by simp at L1 L2 L3 ⊢;omega)
  rw [<- hC2] at T
  clear hsl fds hc nt
  refine qb1 ?_
  refine Run.cut _ (T _) ?_
  rintro _ _ h' ⟨rfl,v',sb',rfl,s',o'⟩
  refine qx1 ?_
  rw [hi1]
  exact ih (31-(i+1)) om _ _ ⟨i+1,v',rfl,by omega,rfl,by rw [jd4,<- List.append_assoc];exact s',o'⟩
 obtain rfl:i=31:=by omega
 have hlt' : ¬ ((31+1:Nat):Int)<=31:=by omega
 clear ih hsl hc
 refine qx1 ?_
 rw [hC4]
 refine Run.fin_mono (iw_end hcl (d:=d-1) om (P.old o) (a.old o) nt hl2 o sr (by simp at L1 L2 L3 ⊢;omega)) fun x h' ⟨s',o'⟩=>⟨?_,o'⟩
 unfold jkB
 rw [List.length_map];exact s'
end
section
variable {cl:Nat->Call} (hcl:Sem cl)
include hcl
def LM (h0:H) (rw n:Nat) (l:List (List UInt8)) (s:List UInt8):Post:=fun x e h'=>x = .normal /\ ∃ v',e=[(0,.p rw 0),(3,v'),(7,.i (n:Int))]/\SR h0.nx h' v' (l++[s])/\Old h0 h'
omit hcl in
theorem jnU {cl:Nat->Call} {d n bx rw:Nat} {v:V} {l:List (List UInt8)} {s:List UInt8} {r:RX} {h h0:H} {sb:Env} (o:Old h0 h) (g:h.get bx=some (.cells r.cells false)) (sr:SR h0.nx h v l) (hl:l.length<=5000) (hs:s.length<=900000) :
  Run (cl d) fuel c66_9 [] ((0,.p rw 0) :: (3,v) :: (7,.i (n:Int)) :: (8,.p bx 0) :: (9,.str s) :: sb) h (LM h0 rw n l (s++jaN (if r.x.reset then [jeZ] else []))):=by
 have q17:r.cells[0+17]?=some (.bool r.x.reset):=rfl
 cases hr:r.x.reset with
 | false=>
  rw [hr] at q17
  refine qx1 ?_
  refine Ops.strP (h0:=h0) (l:=l) (t:=s) rfl rfl o sr om fun v' h' s' o' _ _=>?_
  refine qx1 ?_
  exact End.nil ⟨rfl,v',rfl,by simpa [jaN] using s',o'⟩
 | true=>
  rw [hr] at q17
  refine qx1 ?_
  refine Ops.sadd rfl rfl Zc ?_
  refine qx1 ?_
  refine Ops.strP (h0:=h0) (l:=l) (t:=s++[32,114,101,115,101,116]) rfl rfl o sr om fun v' h' s' o' _ _=>?_
  refine qx1 ?_
  exact End.nil ⟨rfl,v',rfl,by simpa [jaN] using s',o'⟩
theorem im_wire {d n bx rw q:Nat} {v:V} {l:List (List UInt8)} {r:RX} {h h0:H} (hd:5<=d) (o:Old h0 h) (g:h.get bx=some (.cells r.cells false)) (lb:bx<h.nx) (A:ROk h rw q r) (wi:WiOk r.x) (wt:r.x.waiting.length<=64 /\ ∀ m∈r.x.waiting,0<=m/\m<=1000) (sr:SR h0.nx h v l) (hl:l.length<=5000) (hn:n<=100000) :
  Run (cl d) fuel c66_10 [] [(0,.p rw 0),(3,v),(7,.i (n:Int)),(8,.p bx 0)] h (LM h0 rw n l (jhW n r.x)):=by
 have q18:r.cells[0+18]?=some (.i r.x.backlog):=rfl
 have q19:r.cells[0+19]?=some r.vw:=rfl
 have q16:r.cells[0+16]?=some (.i (r.x.cap:Int)):=rfl
 obtain ⟨h1,e1,o1⟩:=jbG hcl (d:=d) (u:=n) (h:=h) om om
 have dl:=jb2 (u:=n) om
 have g1:h1.get bx=some (.cells r.cells false):=by rw [o1.2 bx lb,g]
 have oh1:=o.trans o1
 have s1:=sr.keep (zq _) o1
 have n1:=o1.1
 obtain ⟨C,hC⟩ : ∃ C,C=c66_9:=⟨_,rfl⟩
 simp only [c66_10,<- hC,uF]
 unfold jhW jmy
 rw [show jaN (dec n :: ((if 0<r.x.backlog then [jd1,dec r.x.backlog.toNat]++r.x.waiting.map (fun m=>dec m.toNat) else jbz r.x.e0.what r.x.e0.shut r.x.e0.ring r.x.cap++jbz r.x.e1.what r.x.e1.shut r.x.e1.ring r.x.cap)++if r.x.reset then [jeZ] else []))=32 :: dec n++(jaN (if 0<r.x.backlog then [jd1,dec r.x.backlog.toNat]++r.x.waiting.map (fun m=>dec m.toNat) else jbz r.x.e0.what r.x.e0.shut r.x.e0.ring r.x.cap++jbz r.x.e1.what r.x.e1.shut r.x.e1.ring r.x.cap)++jaN (if r.x.reset then [jeZ] else [])) by
  rw [<- jbN];simp [jaN]]
 rw [<- List.append_assoc,<- List.append_assoc]
 refine qx1 ?_
 refine Ops.sadd rfl rfl Zc ?_
 by_cases hb:0<r.x.backlog
 ·have hb':r.x.backlog>0:=hb
  rw [if_pos hb]
  obtain ⟨b,hbb⟩ : ∃ b:Nat,r.x.backlog=(b:Int):=⟨r.x.backlog.toNat,by omega⟩
  rw [hbb] at q18 hb' ⊢
  have:=wi.bl
  obtain ⟨h2,e2,o2⟩:=jbG hcl (d:=d) (u:=b) (h:=h1) om om
  have dl2:=jb2 (u:=b) om
  have g2:h2.get bx=some (.cells r.cells false):=by rw [o2.2 bx om,g1]
  have oh2:=oh1.trans o2
  have s2:=s1.keep (zq _) o2
  have o12:=o1.trans o2
  obtain ⟨⟨a,c,hv,_,_,hin⟩,hfar⟩:=A.w
  rw [hv] at q19 hfar
  clear e1 s1 g A
  refine qx1 ?_
  refine Ops.sadd rfl rfl Zc ?_
  refine qx1 ?_
  refine Ops.sadd rfl rfl Zc ?_
  refine qx1 ?_
  have key : ∀ i,(jaN ((r.x.waiting.take i).map fun m=>dec m.toNat)).length<=21*i:=by
   intro i
   induction i with
   | zero=>simp [jaN]
   | succ i ih=>
    rw [List.take_add_one,List.map_append,jbN,zg]
    cases hi:r.x.waiting[i]? with
    | none=>simp [jaN] at ih ⊢;omega
    | some m=>
     have:=wt.2 m (zc hi)
     have:=jb2 (u:=m.toNat) om
     simp [jaN] at ih ⊢;omega
  refine Run.loop (fun m e g=>∃ i:Nat,m=r.x.waiting.length-i/\i<=r.x.waiting.length/\e=[(0,.p rw 0),(3,v),(7,.i (n:Int)),(8,.p bx 0),(9,.str (jcI++32 :: dec n++[32,108,105,115,116,101,110,32]++dec b++jaN ((r.x.waiting.take i).map fun m=>dec m.toNat))),(10,.i (i:Int))]/\Old h2 g)
   (k:=r.x.waiting.length) Ze ⟨0,rfl,by omega,by simp [jaN],Old.refl _⟩ ?_
  rintro _ _ g3 ⟨i,rfl,hi,rfl,o3⟩ f ih
  have n2:=o2.1
  have n3:=o3.1
  have g3':g3.get bx=some (.cells r.cells false):=by rw [o3.2 bx om,g2]
  have hk:=key i
  by_cases hlt:(i:Int)<r.x.waiting.length
  case neg=>
   obtain rfl:i=r.x.waiting.length:=by omega
   rw [List.take_length] at hk ⊢
   clear ih hin
   refine qx1 ?_
   rw [hC]
   have T:=jnU (cl:=cl) (d:=d) (n:=n) (bx:=bx) (rw:=rw) (v:=v) (l:=l) (s:=jcI++32 :: dec n++[32,108,105,115,116,101,110,32]++dec b++jaN (r.x.waiting.map fun m=>dec m.toNat)) (r:=r) (sb:=[(10,.i (r.x.waiting.length:Int)),(86,.bool false)]) (oh2.trans o3) g3' (s2.keep (zq _) o3) hl Zc
   simpa [jaN] using T
  obtain ⟨m,hm⟩ : ∃ m,r.x.waiting[i]?=some m:=⟨_,za om⟩
  obtain ⟨m0,m1⟩:=wt.2 m (zc hm)
  obtain ⟨u,rfl⟩ : ∃ u:Nat,m=(u:Int):=⟨m.toNat,by omega⟩
  obtain ⟨zb,zo,cs,ro,rfl,z1,z2,z3⟩:=hin (by rintro e;rw [e] at hm;simp at hm)
  have gz:g3.get zb=some (.cells cs ro):=by rw [o3.2 zb om,o12.2 zb z1,z2]
  have hz:cs[zo+(i:Int).toNat*1]?=some (.i (u:Int)):=by
   rw [show zo+(i:Int).toNat*1=zo+i by omega];exact z3 i _ hm
  obtain ⟨h4,e4,o4⟩:=jbG hcl (d:=d) (u:=u) (h:=g3) om om
  have dl4:=jb2 (u:=u) om
  have hsucc:jaN ((r.x.waiting.take (i+1)).map fun m=>dec m.toNat)=jaN ((r.x.waiting.take i).map fun m=>dec m.toNat)++[32]++dec u:=by
   rw [List.take_add_one,hm,List.map_append,jbN];simp [jaN]
  have hi1:(i:Int)+1=((i+1:Nat):Int):=by omega
  clear hin e2 s2 g2 z3 hfar
  refine qx1 ?_
  refine Ops.sadd rfl rfl (by simp at hk ⊢;omega) ?_
  refine qx1 ?_
  refine Ops.sadd rfl rfl (by simp at hk ⊢;omega) ?_
  refine qx1 ?_
  rw [hi1]
  exact ih (r.x.waiting.length-(i+1)) om _ _ ⟨i+1,rfl,by omega,by rw [hsucc];simp,o3.trans o4⟩
 ·have hb' : ¬ r.x.backlog>0:=hb
  rw [if_neg hb]
  obtain ⟨b0,f0⟩:=A.b 0 (.inl rfl)
  obtain ⟨b1,f1⟩:=A.b 1 (.inr rfl)
  have l0 : ∀ q,r.x.e0.ring=some q->q.length<=r.x.cap:=wi.len 0 (.inl rfl)
  have l1 : ∀ q,r.x.e1.ring=some q->q.length<=r.x.cap:=wi.len 1 (.inr rfl)
  have c1:=wi.cap1
  have W0:=jf1 (w:=r.x.e0.what) (s:=r.x.e0.shut) l0 c1
  have W1:=jf1 (w:=r.x.e1.what) (s:=r.x.e1.shut) l1 c1
  have glen : ∀ (z:Option (List UInt8)),(∀ q,z=some q->q.length<=r.x.cap)->(z.getD []).length<=90000:=by
   intro z hz
   cases z with
   | none=>simp
   | some q=>have:=hz q rfl;simp only [Option.getD_some];omega
  obtain ⟨h2,e2,o2⟩:=jo5 hcl (d:=d) (cap:=r.x.cap) (e:=r.x.e0) (v:=r.v0) (h:=h1) om wi.wh.1 (b0.keep o1.1 fun z hz=>o1.2 z (f0 z hz).2.2) (fun z hz=>zr (f0 z hz).2.2 o1.1) (glen _ l0) om
  have o12:=o1.trans o2
  obtain ⟨h3,e3,o3⟩:=jo5 hcl (d:=d) (cap:=r.x.cap) (e:=r.x.e1) (v:=r.v1) (h:=h2) om wi.wh.2 (b1.keep o12.1 fun z hz=>o12.2 z (f1 z hz).2.2) (fun z hz=>zr (f1 z hz).2.2 o12.1) (glen _ l1) om
  have n2:=o2.1
  have n3:=o3.1
  have g2:h2.get bx=some (.cells r.cells false):=by rw [o2.2 bx om,g1]
  have g3:h3.get bx=some (.cells r.cells false):=by rw [o3.2 bx om,g2]
  have j0:=jmi (jf2 (w:=r.x.e0.what) (s:=r.x.e0.shut) (r:=r.x.e0.ring) (c:=r.x.cap))
  have j1:=jmi (jf2 (w:=r.x.e1.what) (s:=r.x.e1.shut) (r:=r.x.e1.ring) (c:=r.x.cap))
  generalize Lib.join (jbz r.x.e0.what r.x.e0.shut r.x.e0.ring r.x.cap) [32]=J0 at e2 j0
  generalize Lib.join (jbz r.x.e1.what r.x.e1.shut r.x.e1.ring r.x.cap) [32]=J1 at e3 j1
  rw [jbN,<- j0,<- j1]
  rw [<- j0] at W0
  rw [<- j1] at W1
  simp only [zg,List.length_singleton] at W0 W1
  have s3:=(s1.keep (zq _) o2).keep (zq _) o3
  have hsz:r.cells.length=20:=RX.len r
  clear e1 s1 g A b0 b1 f0 f1 l0 l1 glen
  have t0:(r.cells.drop (0+0+0)).take 8=r.x.e0.rcells r.v0:=rfl
  have t1:(r.cells.drop (0+0+8)).take 8=r.x.e1.rcells r.v1:=rfl
  refine qx1 ?_
  refine Ops.sadd rfl rfl Zc ?_
  refine qx1 ?_
  refine Ops.loadN rfl g1 (by rw [hsz];decide) ?_
  refine qx1 ?_
  refine Ops.loadN rfl g1 (by rw [hsz];decide) ?_
  refine qx1 ?_
  refine Ops.callf_chk rfl e2 (je7 rfl g2 (by rw [hsz];decide) rfl rfl (jat rfl g2 q16 rfl ja6)) ?_
  refine Ops.sadd rfl rfl Zc ?_
  refine Ops.sadd rfl rfl Zc ?_
  refine Ops.callf_chk rfl e3 ja6 ?_
  refine Ops.sadd rfl rfl Zc ?_
  refine qx1 ?_
  rw [hC]
  have T:=jnU (cl:=cl) (d:=d) (n:=n) (bx:=bx) (rw:=rw) (v:=v) (l:=l) (s:=jcI++32 :: dec n++[32]++J0++[32]++J1) (r:=r) (sb:=[]) ((oh1.trans o2).trans o3) g3 s3 hl Zc
  simpa using T
end
section
variable {cl:Nat->Call} (hcl:Sem cl)
include hcl
theorem im_end {d rw q:Nat} {v:V} {l:List RX} {L:List (List UInt8)} {now:Int} {hdl:Nat->Bool} {ct:Nat->Int} {no:Option (Nat × Nat)} {h h0:H} {sb:Env} (hd:3<=d) (w:RW h rw q l (tail now hdl ct (noI no) (siI no))) (nt:NtOk (l.map RX.x) (noI no) (siI no)) (hlen:l.length<=1000) (o:Old h0 h) (sr:SR h0.nx h v L) (hl:L.length<=5000) :
  Run (cl d) fuel c66_4 [] ((0,.p rw 0) :: (3,v) :: sb) h (Fin c66.res fun x h'=>SR h0.nx h' x (L++jly no)/\Old h0 h'):=by
 obtain ⟨a,c,hw,_⟩:=w.head
 have q66:(V.slice a l.length c :: tail now hdl ct (noI no) (siI no))[0+66]?=some (.i (noI no)):=t_no rfl
 have q67:(V.slice a l.length c :: tail now hdl ct (noI no) (siI no))[0+67]?=some (.i (siI no)):=t_si rfl
 have lw:=w.lw
 cases no with
 | none=>
  have hn : ¬ noI none>=0:=by simp [noI]
  refine qx1 ?_
  exact ⟨by simpa [jly] using sr,o⟩
 | some p=>
  have q66:(V.slice a l.length c :: tail now hdl ct (noI (some p)) (siI (some p)))[0+66]?=some (.i (p.1:Int)):=q66
  have q67:(V.slice a l.length c :: tail now hdl ct (noI (some p)) (siI (some p)))[0+67]?=some (.i (p.2:Int)):=q67
  have hn:(p.1:Int)>=0:=by omega
  have hp:p.1<=1000/\p.2<=1:=by
   rcases nt with e | ⟨n,k,x,h1,h2,h3,h4,_⟩
   ·have e:(p.1:Int) = -1:=e
    omega
   ·have h1:(p.1:Int)=n:=h1
    have h2:(p.2:Int)=k:=h2
    have:=w_lt h4
    rw [List.length_map] at this
    omega
  clear nt w
  generalize V.slice a l.length c :: tail now hdl ct (noI (some p)) (siI (some p))=cs at hw q66 q67
  refine qx1 ?_
  refine Run.region ?_
  have oG:Old h (h.reserve 1):=⟨by simp,fun j _=>H.get_reserve ..⟩
  have xG:(h.reserve 1).nx=h.nx+1:=by simp
  have sG:=sr.keep (zq _) oG
  generalize h.reserve 1=G at oG xG sG ⊢
  have gG:G.get rw=some (.cells cs false):=by rw [oG.2 _ lw,hw]
  obtain ⟨h1,e1,o1⟩:=jbG hcl (d:=d) (u:=p.1) (h:=G) om om
  have g1:h1.get rw=some (.cells cs false):=by rw [o1.2 _ om,gG]
  obtain ⟨h2,e2,o2⟩:=jbG hcl (d:=d) (u:=p.2) (h:=h1) om om
  have d1:=jb2 (u:=p.1) om
  have d2:=jb2 (u:=p.2) om
  have n1:=o1.1
  have n2:=o2.1
  have n0:=o.1
  refine qx1 ?_
  refine Ops.callf_chk rfl e1 (jat rfl g1 q67 rfl ja6) ?_
  refine Ops.sadd rfl rfl Zc ?_
  refine Ops.sadd rfl rfl Zc ?_
  refine qx1 ?_
  refine Ops.sadd rfl rfl Zc ?_
  refine Ops.strP_at (h0:=h0) (l:=L) (t:=tNo++dec p.1++[32]++dec p.2) rfl rfl (((o.trans oG).trans o1).trans o2) ((sG.keep (zq _) o1).keep (zq _) o2) om om (fun e=>by have:=(sr.at_ge e).2;omega) om fun v' h' s' o' _ _=>?_
  refine qx1 ?_
  exact ⟨s',o'⟩
theorem im_sig {sb:Env} {d rw q s:Nat} {v:V} {l:List RX} {L:List (List UInt8)} {now no si:Int} {hdl:Nat->Bool} {ct:Nat->Int} {h h0:H} (hd:3<=d) (w:RW h rw q l (tail now hdl ct no si)) (hs:s<32) (hc:0<=ct s/\ct s<=1000000) (o:Old h0 h) (sr:SR h0.nx h v L) (hl:L.length<=5000) :
  Run (cl d) fuel (.block 7 c66_2) [] ((0,.p rw 0) :: (3,v) :: (11,.i (s:Int)) :: sb) h (BM h0 rw 11 s (L++if hdl s then [tSig++dec s++[32]++dec (ct s).toNat] else [])):=by
 obtain ⟨a,c,hw,_⟩:=w.head
 have q1:(V.slice a l.length c :: tail now hdl ct no si)[0+2+(s:Int).toNat*1]?=some (.bool (hdl s)):=t_hd hs om
 have q2:(V.slice a l.length c :: tail now hdl ct no si)[0+34+(s:Int).toNat*1]?=some (.i (ct s)):=t_ct hs om
 have lw:=w.lw
 generalize V.slice a l.length c :: tail now hdl ct no si=cs at hw q1 q2
 cases hh:hdl s with
 | false=>
  rw [hh] at q1
  refine qx1 ?_
  exact End.nil ⟨rfl,v,_,rfl,by simpa using sr,o⟩
 | true=>
  rw [hh] at q1
  obtain ⟨u,hu⟩ : ∃ u:Nat,ct s=(u:Int):=⟨(ct s).toNat,by omega⟩
  rw [hu] at q2 ⊢
  refine qx1 ?_
  refine Run.region ?_
  have oG:Old h (h.reserve 1):=⟨by simp,fun j _=>H.get_reserve ..⟩
  have xG:(h.reserve 1).nx=h.nx+1:=by simp
  have sG:=sr.keep (zq _) oG
  generalize h.reserve 1=G at oG xG sG ⊢
  have gG:G.get rw=some (.cells cs false):=by rw [oG.2 _ lw,hw]
  obtain ⟨h1,e1,o1⟩:=jbG hcl (d:=d) (u:=s) (h:=G) om om
  have g1:h1.get rw=some (.cells cs false):=by rw [o1.2 _ om,gG]
  obtain ⟨h2,e2,o2⟩:=jbG hcl (d:=d) (u:=u) (h:=h1) om om
  have d1:=jb2 (u:=s) om
  have d2:=jb2 (u:=u) om
  have n1:=o1.1
  have n2:=o2.1
  have n0:=o.1
  refine qx1 ?_
  refine Ops.callf_chk rfl e1 (jat rfl g1 q2 rfl ja6) ?_
  refine Ops.sadd rfl rfl Zc ?_
  refine Ops.sadd rfl rfl Zc ?_
  refine qx1 ?_
  refine Ops.sadd rfl rfl Zc ?_
  refine Ops.strP_at (h0:=h0) (l:=L) (t:=tSig++dec s++[32]++dec u) rfl rfl (((o.trans oG).trans o1).trans o2) ((sG.keep (zq _) o1).keep (zq _) o2) om om (fun e=>by have:=(sr.at_ge e).2;omega) om fun v' h' s' o' _ _=>?_
  refine qx1 ?_
  exact End.nil ⟨rfl,v',_,rfl,by simpa using s',o'⟩
theorem im_fd {sb:Env} {d rw q n:Nat} {v:V} {l:List RX} {L:List (List UInt8)} {tl:List V} {h h0:H} (hd:3<=d) (w:RW h rw q l tl) (ok:WsOk (l.map RX.x)) (hn:n<96) (o:Old h0 h) (sr:SR h0.nx h v L) (hl:L.length<=5000) :
  Run (cl d) fuel (.block 1 c66_15) [] ((0,.p rw 0) :: (3,v) :: (4,.i (n:Int)) :: sb) h (BM h0 rw 4 n (L++jiA (l.map RX.x) n)):=by
 rcases jdD hcl (d:=d) (fd:=(n:Int)) om w ok with ⟨hno,ea⟩ | ⟨m,k,r,hat,hr,hk,ea⟩
 ·have hS:jiA (l.map RX.x) n=[]:=jaA hno
  rw [hS,List.append_nil]
  refine qx1 ?_
  exact End.nil ⟨rfl,v,_,rfl,sr,o⟩
 ·have hS:jiA (l.map RX.x) n=[tFd++dec n++jlb++dec m++tEnd++dec (endK r.x k)]:=ja7 ok.uniq hat (jaJ hr)
  rw [hS]
  obtain ⟨hw,hq,_⟩:=w.rat hr
  have q18:=jhF hr
  have hm:=r_lt hr
  have hm2:=ok.len
  rw [List.length_map] at hm2
  obtain ⟨h1,e1,o1⟩:=jbG hcl (d:=d) (u:=n) (h:=h) om om
  obtain ⟨h2,e2,o2⟩:=jbG hcl (d:=d) (u:=m) (h:=h1) om om
  have hk2:endK r.x k<=2:=by unfold endK;split<;>omega
  obtain ⟨h3,e3,o3⟩:=jbG hcl (d:=d) (u:=endK r.x k) (h:=h2) om om
  have d1:=jb2 (u:=n) om
  have d2:=jb2 (u:=m) om
  have d3:=jb2 (u:=endK r.x k) om
  have O:=((o.trans o1).trans o2).trans o3
  have S:=((sr.keep (zq _) o1).keep (zq _) o2).keep (zq _) o3
  have hm0 : ¬ (m:Int)<0:=by omega
  clear ok w hS
  by_cases hb:r.x.backlog>0
  ·have ek:endK r.x k=2:=if_pos hb
   rw [ek] at e3 d3 ⊢
   have e3:cl d (.fn F.jcy) [.i 2] h2=some (.str (dec 2),h3):=e3
   refine qx1 ?_
   refine Ops.sadd rfl rfl Zc ?_
   refine Ops.sadd rfl rfl Zc ?_
   refine qx1 ?_
   refine Ops.sadd rfl rfl Zc ?_
   refine Ops.sadd rfl rfl Zc ?_
   refine qx1 ?_
   refine Ops.sadd rfl rfl Zc ?_
   refine Ops.strP (h0:=h0) (l:=L) (t:=tFd++dec n++jlb++dec m++tEnd++dec 2) rfl rfl O S om fun v' h' s' o' _ _=>?_
   refine qx1 ?_
   exact End.nil ⟨rfl,v',_,rfl,s',o'⟩
  ·have ek:endK r.x k=k:=if_neg hb
   rw [ek] at e3 d3 ⊢
   refine qx1 ?_
   refine Ops.sadd rfl rfl Zc ?_
   refine Ops.sadd rfl rfl Zc ?_
   refine qx1 ?_
   refine Ops.sadd rfl rfl Zc ?_
   refine Ops.sadd rfl rfl Zc ?_
   refine qx1 ?_
   refine Ops.sadd rfl rfl Zc ?_
   refine Ops.strP (h0:=h0) (l:=L) (t:=tFd++dec n++jlb++dec m++tEnd++dec k) rfl rfl O S om fun v' h' s' o' _ _=>?_
   refine qx1 ?_
   exact End.nil ⟨rfl,v',_,rfl,s',o'⟩
end
section
variable {cl:Nat->Call} (hcl:Sem cl)
include hcl
theorem im_wireB {sb:Env} {d rw q n:Nat} {v:V} {l:List RX} {L:List (List UInt8)} {tl:List V} {r:RX} {h h0:H} (hd:5<=d) (w:RW h rw q l tl) (ok:WsOk (l.map RX.x)) (hr:l[n]?=some r) (o:Old h0 h) (sr:SR h0.nx h v L) (hl:L.length<=5000) :
  Run (cl d) fuel (.block 3 c66_11) [] ((0,.p rw 0) :: (3,v) :: (7,.i (n:Int)) :: sb) h (BM h0 rw 7 n (L++[jhW n r.x])):=by
 obtain ⟨hw,hq,_⟩:=w.rat hr
 have hn:=r_lt hr
 have hn2:=ok.len
 rw [List.length_map] at hn2
 have A:=w.rok hr
 obtain ⟨v0ok,_⟩:=A.b 0 (.inl rfl)
 obtain ⟨v1ok,_⟩:=A.b 1 (.inr rfl)
 obtain ⟨vwok,_⟩:=A.w
 have hone:=RX.cells_one (r:=r) v0ok.one v1ok.one vwok.one
 have hrt:=jhC (o:=0+(n:Int).toNat*20) hr om
 have wt:r.x.waiting.length<=64 /\ ∀ m∈r.x.waiting,0<=m/\m<=1000:=by
  have hx:=zc (jaJ hr)
  refine ⟨(ok.wait _ hx).1,fun m hm=>?_⟩
  obtain ⟨y,y0,y1,_⟩:=(ok.wait _ hx).2 m hm
  have:=w_lt y1
  rw [List.length_map] at this
  omega
 obtain ⟨C,hC⟩ : ∃ C,C=c66_10:=⟨_,rfl⟩
 simp only [c66_11,<- hC,yB]
 refine qx1 ?_
 refine Ops.loadN rfl hq (by rw [jay];omega) ?_
 rw [hrt]
 refine Ops.make (ob := .cells [.i 0,.i 0,.bool false,.bool false,.nils,.bool false,.int .u64 0,.int .u64 0,.i 0,.i 0,.bool false,.bool false,.nils,.bool false,.int .u64 0,.int .u64 0,.i 0,.bool false,.i 0,.nils] false) (mk:=fun b=>.p b 0) rfl rfl ?_
 refine Ops.storeN rfl rfl (RX.len r) hone (jac _) (by decide) ?_
 rw [jcC _ _ (by rw [RX.len];rfl)]
 have o1:Old h ((h.new (.cells [.i 0,.i 0,.bool false,.bool false,.nils,.bool false,.int .u64 0,.int .u64 0,.i 0,.i 0,.bool false,.bool false,.nils,.bool false,.int .u64 0,.int .u64 0,.i 0,.bool false,.i 0,.nils] false)).set h.nx (.cells r.cells false)):=(Old.refl h).new.set (zq _)
 have g1:((h.new (.cells [.i 0,.i 0,.bool false,.bool false,.nils,.bool false,.int .u64 0,.int .u64 0,.i 0,.i 0,.bool false,.bool false,.nils,.bool false,.int .u64 0,.int .u64 0,.i 0,.bool false,.i 0,.nils] false)).set h.nx (.cells r.cells false)).get h.nx=some (.cells r.cells false):=jab _
 have n1:h.nx<((h.new (.cells [.i 0,.i 0,.bool false,.bool false,.nils,.bool false,.int .u64 0,.int .u64 0,.i 0,.i 0,.bool false,.bool false,.nils,.bool false,.int .u64 0,.int .u64 0,.i 0,.bool false,.i 0,.nils] false)).set h.nx (.cells r.cells false)).nx:=by simp
 generalize (h.new (.cells [.i 0,.i 0,.bool false,.bool false,.nils,.bool false,.int .u64 0,.int .u64 0,.i 0,.i 0,.bool false,.bool false,.nils,.bool false,.int .u64 0,.int .u64 0,.i 0,.bool false,.i 0,.nils] false)).set h.nx (.cells r.cells false)=h1 at o1 g1 n1 ⊢
 refine qx1 ?_
 rw [hC]
 refine Run.cut (LM h0 rw n L (jhW n r.x)) (im_wire hcl (d:=d) hd (o.trans o1) g1 n1 (A.keep o1.ch) (ok.wi hr) wt (sr.keep (zq _) o1) hl om) ?_
 rintro _ _ h' ⟨rfl,v',rfl,s',o'⟩
 refine qx1 ?_
 exact End.nil ⟨rfl,v',_,rfl,s',o'⟩
theorem rq_Image {d rw q:Nat} {l:List RX} {now:Int} {hdl:Nat->Bool} {ct:Nat->Int} {no:Option (Nat × Nat)} {h:H} (hd:6<=d) (w:RW h rw q l (tail now hdl ct (noI no) (siI no))) (ok:WsOk (l.map RX.x)) (hn:0<=now/\now<=18446744073709551615) (hc : ∀ i,0<=ct i/\ct i<=1000000) (nt:NtOk (l.map RX.x) (noI no) (siI no)) :
  ∃ v h',cl d (.fn F.jdd) [.p rw 0] h=some (v,h')/\SR h.nx h' v (jkB (l.map RX.x) now hdl ct no)/\Old h h':=by
 obtain ⟨u,rfl⟩ : ∃ u:Nat,now=(u:Int):=⟨now.toNat,by omega⟩
 obtain ⟨a,c,hw,_⟩:=w.head
 have q1:(V.slice a l.length c :: tail u hdl ct (noI no) (siI no))[0+1]?=some (.int .u64 (u:Int)):=rfl
 have q0:(V.slice a l.length c :: tail u hdl ct (noI no) (siI no))[0+0]?=some (.slice a l.length c):=rfl
 have lw:=w.lw
 have hl2:=ok.len
 rw [List.length_map] at hl2
 obtain ⟨h1,e1,o1⟩:=jkg hcl (d:=d-1) (u:=u) (h:=h) om om
 have d1:=jb2 (u:=u) om
 have w1:=w.old o1
 refine at_ hcl om rfl rfl rfl ?_
 obtain ⟨C2,hC2⟩ : ∃ C,C=c66_2:=⟨_,rfl⟩
 obtain ⟨C4,hC4⟩ : ∃ C,C=c66_4:=⟨_,rfl⟩
 obtain ⟨C11,hC11⟩ : ∃ C,C=c66_11:=⟨_,rfl⟩
 obtain ⟨C15,hC15⟩ : ∃ C,C=c66_15:=⟨_,rfl⟩
 simp only [c66,c66_18,c66_17,c66_16,c66_12,c66_3,<- hC2,<- hC4,<- hC11,<- hC15,uF,yB,yH]
 refine qx1 ?_
 refine Ops.sadd rfl rfl Zc ?_
 refine Ops.make (ob := .cells [V.str (tNow++dec u)] false) (mk:=fun b=>.slice (some (b,0)) 1 (.fix 1)) rfl rfl ?_
 have o2:Old h (h1.new (.cells [V.str (tNow++dec u)] false)):=o1.new
 have s2:SR h.nx (h1.new (.cells [V.str (tNow++dec u)] false)) (.slice (some (h1.nx,0)) 1 (.fix 1)) ([tNow++dec u]++jdw (l.map RX.x) 0):=⟨h1.nx,_,o1.1,by simp,rfl,.inr rfl,jac _⟩
 generalize h1.new (.cells [V.str (tNow++dec u)] false)=h2 at o2 s2 ⊢
 generalize V.slice (some (h1.nx,0)) 1 (.fix 1)=v2 at s2 ⊢
 clear e1 w1
 refine qx1 ?_
 refine Run.loop (fun m e g=>∃ (i:Nat) (v:V),m=96-i/\i<=96/\e=[(0,.p rw 0),(3,v),(4,.i (i:Int))]/\SR h.nx g v ([tNow++dec u]++jdw (l.map RX.x) i)/\Old h g)
  (k:=96) Ze ⟨0,v2,rfl,by omega,rfl,s2,o2⟩ ?_
 clear o2 s2
 rintro _ _ g ⟨i,v,rfl,hi,rfl,sr,o⟩ f ih
 have L1:=jeM (l.map RX.x) i
 by_cases hlt:i<96
 case pos=>
  have hlt':(i:Int)<=95:=by omega
  have hi1:(i:Int)+1=((i+1:Nat):Int):=by omega
  refine qb1 ?_
  have T:=fun sb=>im_fd (sb:=sb) hcl (d:=d-1) om (w.old o) ok hlt o sr Zc
  rw [<- hC15] at T
  refine Run.cut _ (T _) ?_
  rintro _ _ h' ⟨rfl,v',sb',rfl,s',o'⟩
  refine qx1 ?_
  rw [hi1]
  exact ih (96-(i+1)) om _ _ ⟨i+1,v',rfl,by omega,rfl,by rw [jdw,<- List.append_assoc];exact s',o'⟩
 obtain rfl:i=96:=by omega
 have hlt' : ¬ ((96:Nat):Int)<=95:=by omega
 clear ih
 refine qx1 ?_
 refine Run.loop (fun m e g=>∃ (i:Nat) (v:V),m=l.length-i/\i<=l.length/\e=[(0,.p rw 0),(3,v),(7,.i (i:Int))]/\SR h.nx g v ([tNow++dec u]++jdw (l.map RX.x) 96++jhd (l.map RX.x) i)/\Old h g)
  (k:=l.length) Ze ⟨0,v,rfl,by omega,rfl,by simpa [jhd] using sr,o⟩ ?_
 clear o sr v g
 rintro _ _ g ⟨i,v,rfl,hi,rfl,sr,o⟩ f ih
 have L2:=jga (l.map RX.x) i
 have gw:g.get rw=_:=(o.2 rw lw).trans hw
 by_cases hlt:i<l.length
 case pos=>
  have hlt':(i:Int)<(l.length:Int):=by omega
  have hi1:(i:Int)+1=((i+1:Nat):Int):=by omega
  obtain ⟨r,hr⟩ : ∃ r,l[i]?=some r:=⟨_,za hlt⟩
  refine qb1 ?_
  have T:=fun sb=>im_wireB (sb:=sb) hcl (d:=d-1) om (w.old o) ok hr o sr (by simp at L1 L2 ⊢;omega)
  rw [<- hC11] at T
  refine Run.cut _ (T _) ?_
  rintro _ _ h' ⟨rfl,v',sb',rfl,s',o'⟩
  refine qx1 ?_
  rw [hi1]
  refine ih (l.length-(i+1)) om _ _ ⟨i+1,v',rfl,by omega,rfl,?_,o'⟩
  rw [jhd,jaJ hr,<- List.append_assoc];exact s'
 obtain rfl:i=l.length:=by omega
 have hlt' : ¬ (l.length:Int)<(l.length:Int):=by omega
 clear ih
 refine qx1 ?_
 refine Run.loop (fun m e g=>∃ (i:Nat) (v:V),m=31-i/\i<=31/\e=[(0,.p rw 0),(3,v),(11,.i ((i+1:Nat):Int))]/\SR h.nx g v ([tNow++dec u]++jdw (l.map RX.x) 96++jhd (l.map RX.x) l.length++jd4 hdl ct i)/\Old h g)
  (k:=31) Ze ⟨0,v,rfl,by omega,rfl,by simpa [jd4] using sr,o⟩ ?_
 clear o sr v g gw
 rintro _ _ g ⟨i,v,rfl,hi,rfl,sr,o⟩ f ih
 have L3:=jdV hdl ct i
 by_cases hlt:i<31
 case pos=>
  have hlt':((i+1:Nat):Int)<=31:=by omega
  have hi1:((i+1:Nat):Int)+1=((i+1+1:Nat):Int):=by omega
  refine qb1 ?_
  have T:=fun sb=>im_sig (sb:=sb) hcl (d:=d-1) (s:=i+1) om (w.old o) om (hc _) o sr (by simp at L1 L2 L3 ⊢;omega)
  rw [<- hC2] at T
  refine Run.cut _ (T _) ?_
  rintro _ _ h' ⟨rfl,v',sb',rfl,s',o'⟩
  refine qx1 ?_
  rw [hi1]
  exact ih (31-(i+1)) om _ _ ⟨i+1,v',rfl,by omega,rfl,by rw [jd4,<- List.append_assoc];exact s',o'⟩
 obtain rfl:i=31:=by omega
 have hlt' : ¬ ((31+1:Nat):Int)<=31:=by omega
 clear ih
 refine qx1 ?_
 rw [hC4]
 refine Run.fin_mono (im_end hcl (d:=d-1) om (w.old o) nt hl2 o sr (by simp at L1 L2 L3 ⊢;omega)) fun x h' ⟨s',o'⟩=>⟨?_,o'⟩
 unfold jkB
 rw [List.length_map];exact s'
end
end Am.Sigs
