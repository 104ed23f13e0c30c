/- Our own library, part 18. -/
import Derived.Test.YtfajaihbhmbpnaaGreatDoorY17
import Derived.Test.YtfajaihbhmbpnaaGreatDoorY16
import Derived.Test.YtfajaihbhmbpnaaGreatDoorY01
set_option maxHeartbeats 8000000
set_option maxRecDepth 800
set_option linter.all false
namespace Am.Sigs
open Am Go
def numU (n:Int):List UInt8:=dec (IntKind.u64.wrap n).toNat
theorem jfG (n:Int) : ∃ u:Nat,IntKind.u64.wrap n=(u:Int)/\u<18446744073709551616/\numU n=dec u:=by
 refine ⟨(IntKind.u64.wrap n).toNat,?_,?_,rfl⟩<;>(rw [IntKind.wrap_u64];omega)
theorem jcA (n:Int):(numU n).length<=20:=by
 obtain ⟨u,_,hu,e⟩:=jfG n
 rw [e]
 exact jc6 (m:=19) om hu
def jcS:List (List UInt8):=[[],[112,117,116],[116,97,107,101],[115,104,117,116],[99,108,111,115,101],[114,101,115,101,116],[99,111,110,110,101,99,116],[114,97,105,115,101]]
def jax (op:Int):List UInt8:=if op<1\/7<op then [] else (jcS[op.toNat]?).getD []
def mvT (m:Mv):List UInt8:=[32]++jax m.op++(if 1<=m.op/\m.op<=6 then [32]++numU m.wire else [])++(if m.op=2\/m.op=6\/m.op=7 then [32]++numU m.n else [])++(if m.op=1 then [32] else [])++hexS m.D
def ordN (l:List Int):Nat->List UInt8
 | 0=>[]
 | i+1=>ordN l i++(if i=0 then [32,111,114,100,101,114,32] else [44])++numU ((l[i]?).getD 0)
def movN (l:List Mv):Nat->List UInt8
 | 0=>[]
 | i+1=>movN l i++mvT ((l[i]?).getD ⟨0,0,0,[]⟩)
def jaD (x:Sp):List UInt8:=[115,116,101,112,32]++dec x.ticks.toNat++(if x.intr then [32,105,110,116,114] else [])++ordN x.order x.order.length++movN x.moves x.moves.length
theorem jex (op:Int):(jax op).length<=7:=by
 unfold jax
 split
 ·simp
 ·next h=>
  have h1:op.toNat<8:=by omega
  generalize op.toNat=k at h1
  match k,h1 with
  | 0,_=>simp [jcS] | 1,_=>simp [jcS] | 2,_=>simp [jcS] | 3,_=>simp [jcS] | 4,_=>simp [jcS] | 5,_=>simp [jcS] | 6,_=>simp [jcS] | 7,_=>simp [jcS]
theorem jga (l:List Int) : ∀ i,(ordN l i).length<=27*i
 | 0=>by simp [ordN]
 | i+1=>by
  have h1:=jga l i
  have h2:=jcA ((l[i]?).getD 0)
  simp only [ordN,ze]
  split<;>simp only [List.length_cons,List.length_nil]<;>omega
theorem mvT_len {m:Mv} (h:m.D.length<=1100):(mvT m).length<=2300:=by
 have h1:=jex m.op
 have h2:=jcA m.wire
 have h3:=jcA m.n
 have h4:=jg1 m.D
 simp only [mvT,ze]
 (repeat' split)<;>simp only [ze,List.length_cons,List.length_nil]<;>omega
theorem jgs {l:List Mv} (h : ∀ m∈l,m.D.length<=1100) : ∀ i,(movN l i).length<=2300*i
 | 0=>by simp [movN]
 | i+1=>by
  have h1:=jgs h i
  have h2:(mvT ((l[i]?).getD ⟨0,0,0,[]⟩)).length<=2300:=by
   refine mvT_len ?_
   cases e:l[i]? with
   | none=>simp
   | some m=>exact h m (zb e)
  simp only [movN,ze]
  omega
section
variable {cl:Nat->Call} (hcl:Sem cl)
include hcl
theorem jkj {d:Nat} {h:H} {op:Int} (hd:1<=d) : ∃ h',cl d (.fn 70) [.i op] h=some (.str (jax op),h')/\Old h h':=by
 have o:Old h (h.new (.cells [.str [],.str [112,117,116],.str [116,97,107,101],.str [115,104,117,116],.str [99,108,111,115,101],.str [114,101,115,101,116],.str [99,111,110,110,101,99,116],.str [114,97,105,115,101]] false)):=(zX h).new
 have g:=jac (h:=h) (.cells [.str [],.str [112,117,116],.str [116,97,107,101],.str [115,104,117,116],.str [99,108,111,115,101],.str [114,101,115,101,116],.str [99,111,110,110,101,99,116],.str [114,97,105,115,101]] false)
 refine ja5 (aT hcl ?_)
 by_cases h1:op<1
 ·refine qx ?_
  exact ⟨by rw [jax,zw (.inl h1)],zX h⟩
 by_cases h2:op>7
 ·refine qx ?_
  exact ⟨by rw [jax,zw (.inr h2)],zX h⟩
 have q:[V.str [],.str [112,117,116],.str [116,97,107,101],.str [115,104,117,116],.str [99,108,111,115,101],.str [114,101,115,101,116],.str [99,111,110,110,101,99,116],.str [114,97,105,115,101]][0+op.toNat*1]?=some (.str (jax op)):=by
  rw [jax,zt om,zG,Nat.mul_one]
  have h1:op.toNat<8:=by omega
  generalize op.toNat=k at h1
  match k,h1 with
  | 0,_=>rfl | 1,_=>rfl | 2,_=>rfl | 3,_=>rfl | 4,_=>rfl | 5,_=>rfl | 6,_=>rfl | 7,_=>rfl
 refine qx ?_
 refine zcu (ob := .cells [.str [],.str [112,117,116],.str [116,97,107,101],.str [115,104,117,116],.str [99,108,111,115,101],.str [114,101,115,101,116],.str [99,111,110,110,101,99,116],.str [114,97,105,115,101]] false) (mk:=fun b=>.slice (some (b,0)) 8 (.fix 8)) rfl rfl ?_
 refine qx ?_
 exact ⟨rfl,o⟩
theorem jdw {d u:Nat} {h:H} (hd:1<=d) (hu:u<18446744073709551616) : ∃ h',cl d (.fn 69) [.int .u64 (u:Int)] h=some (.str (dec u),h')/\Old h h':=rd_digits hcl hd hu
theorem jkM {d b mb:Nat} {j:Int} {v:V} {l:List UInt8} {s:List UInt8} {m:Mv} {h:H} (hg:h.get mb=some (.cells (mvV m v) false)) (lmb:mb<h.nx) (hb:VB h v l) (hl:l.length<=1100) (hs:s.length<=400000) :
  Run (cl d) fuel (.loop [1,3,5,6,9] c35_3) [.block 4] [(1,.p b 0),(3,.str s),(5,.i j),(6,.p mb 0),(9,.i 0)] h (fun x e h'=>x = .normal/\(∃ sb,e=(1,.p b 0) :: (3,.str (s++hexS l)) :: (5,.i j) :: sb)/\Old h h'):=by
 have hvn:l≠[] -> ∀ z,v.at?=some z->z<h.nx:=fun hn z hz=>hb.lt hn hz
 obtain ⟨a,c,rfl,hn,hf,hxx⟩:=hb
 have q3:(mvV m (.slice a l.length c))[0+3]?=some (.slice a l.length c):=rfl
 refine zW (fun n e g=>∃ (i:Nat),n=l.length-i/\i<=l.length/\e=[(1,.p b 0),(3,.str (s++hexS (l.take i))),(5,.i j),(6,.p mb 0),(9,.i (i:Int))]/\Old h g)
  (k:=l.length) Ze ⟨0,by omega,by omega,by simp [hexS],zX h⟩ ?_
 rintro _ _ g ⟨i,rfl,hi,rfl,old⟩ f ih
 have g1:g.get mb=some (.cells (mvV m (.slice a l.length c)) false):=by rw [old.2 mb lmb,hg]
 by_cases hlt:i<l.length
 case neg=>
  obtain rfl:i=l.length:=by omega
  rw [List.take_length]
  clear ih
  refine qx ?_
  exact End.nil ⟨rfl,⟨_,rfl⟩,old⟩
 obtain ⟨q,o,cs,ro,rfl,q1,q2,q3'⟩:=hxx (by rintro rfl;simp at hlt)
 have g2:g.get q=some (.cells cs ro):=by rw [old.2 q q1,q2]
 obtain ⟨y,hy⟩ : ∃ y,l[i]?=some y:=⟨_,za hlt⟩
 have hy256:=y.toNat_lt
 have q4:cs[o+(i:Int).toNat*1]?=some (.int .u8 (y.toNat:Int)):=by rw [zq,Nat.mul_one];exact q3' i y hy
 have g3:(g.reserve 1).get mb=_:=(H.get_reserve ..).trans g1
 have g4:(g.reserve 1).get q=some (.cells cs ro):=(H.get_reserve ..).trans g2
 have hi1:(i:Int)+1=((i+1:Nat):Int):=by omega
 clear hxx hf hn
 refine qx ?_
 refine Run.region ?_
 refine qx ?_
 have e1:IntKind.u8.wrap ((y.toNat:Int).tdiv 16)=((y.toNat/16:Nat):Int):=by
  rw [show (y.toNat:Int).tdiv 16=((y.toNat/16:Nat):Int) from (Int.ofNat_tdiv _ 16).symm,IntKind.wrap_u8];omega
 have e2:(y.toNat:Int).tmod 16=((y.toNat%16:Nat):Int):=(Int.ofNat_tmod _ 16).symm
 rw [e1,e2]
 refine Ops.bslice2_at (xv := .int .u8 ((y.toNat/16:Nat):Int)) (yv := .int .u8 ((y.toNat%16:Nat):Int)) rfl rfl rfl rfl ?_
 have g5:((g.reserve 1).set (g.nx+0) (.cells [.int .u8 ((y.toNat/16:Nat):Int),.int .u8 ((y.toNat%16:Nat):Int)] false)).get (g.nx+0)=some (.cells [.int .u8 ((y.toNat/16:Nat):Int),.int .u8 ((y.toNat%16:Nat):Int)] false):=jab ..
 have o2:Old g ((g.reserve 1).set (g.nx+0) (.cells [.int .u8 ((y.toNat/16:Nat):Int),.int .u8 ((y.toNat%16:Nat):Int)] false)):=⟨by simp,fun j hj=>by rw [jaa om,H.get_reserve]⟩
 generalize (g.reserve 1).set (g.nx+0) (.cells [.int .u8 ((y.toNat/16:Nat):Int),.int .u8 ((y.toNat%16:Nat):Int)] false)=g6 at g5 o2 ⊢
 refine qx ?_
 have hlen:=jg1 (l.take i)
 have hlt2:(l.take i).length<=1100:=by simp;omega
 refine zW (fun n e g'=>∃ (k:Nat),n=2-k/\k<=2/\e=[(1,.p b 0),(3,.str (s++hexS (l.take i)++([hx (y.toNat/16),hx (y.toNat%16)].take k))),(5,.i j),(6,.p mb 0),(9,.i (i:Int)),(106,.slice (some (g.nx+0,0)) 2 (.fix 2)),(107,.i 2),(108,.i (k:Int))]/\g'=g6)
  (k:=2) Ze ⟨0,by omega,by omega,by simp,rfl⟩ ?_
 rintro _ _ g' ⟨k,rfl,hk,rfl,rfl⟩ f2 ih2
 by_cases hk2:k<2
 case neg=>
  obtain rfl:k=2:=by omega
  clear ih2
  refine qx ?_
  rw [hi1]
  refine ih (l.length-(i+1)) om _ _ ⟨i+1,rfl,by omega,?_,old.trans o2⟩
  rw [jh1 hy,List.append_assoc s];rfl
 have key : ∃ z:Nat,z<16/\[V.int .u8 ((y.toNat/16:Nat):Int),.int .u8 ((y.toNat%16:Nat):Int)][0+(k:Int).toNat*1]?=some (.int .u8 (z:Int))/\[hx (y.toNat/16),hx (y.toNat%16)].take (k+1)=[hx (y.toNat/16),hx (y.toNat%16)].take k++[hx z]:=by
  match k,hk2 with
  | 0,_=>exact ⟨y.toNat/16,by omega,rfl,rfl⟩
  | 1,_=>exact ⟨y.toNat%16,by omega,rfl,rfl⟩
 obtain ⟨z,hz,z1,z2⟩:=key
 have e3:IntKind.i64.wrap (z:Int)=(z:Int):=by rw [IntKind.wrap_i64];omega
 have hk1:(k:Int)+1=((k+1:Nat):Int):=by omega
 clear ih
 refine qx ?_
 rw [e3]
 refine Ops.digit rfl rfl hz ?_
 refine qx ?_
 have hj3:([hx (y.toNat/16),hx (y.toNat%16)].take k).length<=2:=by simp;omega
 refine Ops.sadd rfl rfl (by simp at hj3 hlen hlt2 ⊢;omega) ?_
 refine qx ?_
 rw [hk1]
 refine ih2 (2-(k+1)) om _ _ ⟨k+1,rfl,by omega,?_,rfl⟩
 rw [z2,<- List.append_assoc]
end
def jae (c:UInt8):List UInt8->List (List UInt8)
 | []=>[[]]
 | x :: r=>if x=c then [] :: jae c r else match jae c r with
  | []=>[[x]]
  | w :: ws=>(x :: w) :: ws
theorem jcq (c:UInt8) : ∀ s,jae c s≠[]
 | []=>by simp [jae]
 | x :: r=>by
  unfold jae
  split
  ·simp
  ·split<;>simp
def jb8 (c:UInt8) (ws:List (List UInt8)):List UInt8:=(ws.map (c :: ·)).flatten
def jaP (c:UInt8):List (List UInt8)->List UInt8
 | []=>[]
 | w :: ws=>w++jb8 c ws
theorem jcm (c:UInt8) (a b:List (List UInt8)):jb8 c (a++b)=jb8 c a++jb8 c b:=by simp [jb8]
theorem jdz (c:UInt8) (w:List UInt8) (ws:List (List UInt8)):jb8 c (w :: ws)=c :: (w++jb8 c ws):=by simp [jb8]
theorem jbq {c:UInt8} {s:List UInt8} : ∀ {w:List UInt8},c ∉ w->jae c (w++c :: s)=w :: jae c s
 | [],_=>by simp [jae]
 | x :: w,h=>by
  have hx:x≠c:=fun e=>h (by simp [e])
  have ih:=jbq (s:=s) (w:=w) (fun e=>h (zj _ e))
  rw [zL,jae,zt hx,ih]
theorem jb6 {c:UInt8} : ∀ {w:List UInt8},c ∉ w->jae c w=[w]
 | [],_=>rfl
 | x :: w,h=>by
  have hx:x≠c:=fun e=>h (by simp [e])
  have ih:=jb6 (w:=w) (fun e=>h (zj _ e))
  rw [jae,zt hx,ih]
theorem jd1 {c:UInt8} : ∀ {ws:List (List UInt8)} {w:List UInt8},(∀ x∈w :: ws,c ∉ x)->jae c (jaP c (w :: ws))=w :: ws
 | [],w,h=>by
  have e:jaP c [w]=w:=by simp [jaP,jb8]
  rw [e,jb6 (h w Zd)]
 | v :: ws,w,h=>by
  have ih:=jd1 (ws:=ws) (w:=v) (fun x hx=>h x (zj _ hx))
  have e:jaP c (w :: v :: ws)=w++c :: jaP c (v :: ws):=by simp [jaP,jb8]
  rw [e,jbq (h w Zd),ih]
theorem join_snoc (c:UInt8) (ws:List (List UInt8)) (w v:List UInt8):jaP c (w :: ws++[v])=jaP c (w :: ws)++c :: v:=by
 simp [jaP,jb8]
theorem jkt {u:Nat} (hu:u<18446744073709551616) : ∀ b∈dec u,48<=b.toNat/\b.toNat<=57:=by
 induction u using Nat.strongRecOn with
 | _ u ih=>
  have key : ∀ k,k<10->(UInt8.ofNat (48+k)).toNat=48+k:=fun k hk=>by simp;omega
  by_cases h:u<10
  ·rw [jdU h]
   intro b hb
   obtain rfl:=List.mem_singleton.1 hb
   rw [key u h];omega
  ·rw [jeZ h hu]
   intro b hb
   rcases zF.1 hb with hb | hb
   ·exact ih (u/10) om om b hb
   ·obtain rfl:=List.mem_singleton.1 hb
    rw [key _ om];omega
theorem jkQ {u:Nat} (hu:u<18446744073709551616):dec u≠[]:=by
 by_cases h:u<10
 ·rw [jdU h];simp
 ·rw [jeZ h hu];simp
def valN:List UInt8->Nat->Nat
 | [],n=>n
 | c :: r,n=>if c.toNat<48\/57<c.toNat\/n>1844674407370955161 then n else if n=1844674407370955161/\c.toNat-48>5 then n else valN r (10*n+(c.toNat-48))
theorem valN_dec {u:Nat} (hu:u<18446744073709551616) : ∀ r,valN (dec u++r) 0=valN r u:=by
 induction u using Nat.strongRecOn with
 | _ u ih=>
  have key : ∀ k,k<10->(UInt8.ofNat (48+k)).toNat=48+k:=fun k hk=>by simp;omega
  intro r
  by_cases h:u<10
  ·rw [jdU h,List.singleton_append,valN,key u h,zt om,zt om]
   congr 1;omega
  ·rw [jeZ h hu,List.append_assoc,ih (u/10) om om,List.singleton_append,valN,key _ om,zt om,zt om]
   congr 1;omega
theorem je0 {u:Nat} (hu:u<18446744073709551616):valN (dec u) 0=u:=by
 have:=valN_dec hu []
 rwa [List.append_nil] at this
theorem jhI : ∀ (s:List UInt8) (n:Nat),n<18446744073709551616->valN s n<18446744073709551616
 | [],n,h=>h
 | c :: r,n,h=>by
  have:=c.toNat_lt
  rw [valN]
  split
  ·exact h
  ·split
   ·exact h
   ·exact jhI r _ om
def ja1 (s:List UInt8):Int:=if valN s 0>9223372036854775807 then -1 else (valN s 0:Int)
theorem jd2 {u:Nat} (hu:u<9223372036854775808):ja1 (dec u)=(u:Int):=by
 rw [ja1,je0 om,zt om]
def numP (s:List UInt8):Option Int:=if valN s 0<9223372036854775808/\dec (valN s 0)=s then some (valN s 0:Int) else none
theorem jep {u:Nat} (hu:u<9223372036854775808):numP (dec u)=some (u:Int):=by
 rw [numP,je0 om,zw ⟨hu,rfl⟩]
theorem jbS {s:List UInt8} {n:Int} (h:numP s=some n):0<=n/\n<9223372036854775808/\dec n.toNat=s:=by
 unfold numP at h
 split at h
 ·next hc=>
  cases h
  obtain ⟨h1,h2⟩:=hc
  exact ⟨by omega,by omega,by rw [zq];exact h2⟩
 ·cases h
def digV (c:UInt8):Nat:=if 48<=c.toNat/\c.toNat<=57 then c.toNat-48 else if 97<=(c ||| 32).toNat/\(c ||| 32).toNat<=122 then (c ||| 32).toNat-87 else 255
def puN (base cut mx:Nat):List UInt8->Nat->Nat × Nat
 | [],n=>(n,0)
 | c :: r,n=>if base<=digV c then (0,2) else if cut<=n then (mx,1) else if mx<n*base+digV c then (mx,1) else puN base cut mx r (n*base+digV c)
theorem jiP {k:Nat} (h:k<10):digV (UInt8.ofNat (48+k))=k:=by
 have key:(UInt8.ofNat (48+k)).toNat=48+k:=by simp;omega
 rw [digV,key,zw om];omega
theorem puN_dec {u mx:Nat} (hu:u<18446744073709551616) (hm:u<=mx) : ∀ r,puN 10 1844674407370955162 mx (dec u++r) 0=puN 10 1844674407370955162 mx r u:=by
 induction u using Nat.strongRecOn with
 | _ u ih=>
  intro r
  by_cases h:u<10
  ·rw [jdU h,List.singleton_append,puN,jiP h,zt om,zt om,zt om]
   congr 1;omega
  ·rw [jeZ h hu,List.append_assoc,ih (u/10) om om om,List.singleton_append,puN,jiP om,zt om,zt om,zt om]
   congr 1;omega
theorem jkA : ∀ k:_root_.Fin 16,digV (hx k.val)=k.val/\48<=(hx k.val).toNat:=by decide
theorem puN_hex (b:UInt8):puN 16 1152921504606846976 255 [hx (b.toNat/16),hx (b.toNat%16)] 0=(b.toNat,0):=by
 have hb:=b.toNat_lt
 have h1:=(jkA ⟨b.toNat/16,by omega⟩).1
 have h2:=(jkA ⟨b.toNat%16,by omega⟩).1
 simp only at h1 h2
 rw [puN,h1,zt om,zt om,zt om,puN,h2,zt om,zt om,zt om,puN]
 congr 1;omega
def bytS:List UInt8->Option (List UInt8)
 | a :: b :: r=>match puN 16 1152921504606846976 255 [a,b] 0,bytS r with
  | (n,0),some l=>some (UInt8.ofNat n :: l)
  | _,_=>none
 | [_]=>none
 | []=>some []
theorem jiT : ∀ D:List UInt8,bytS (hexS D)=some D
 | []=>rfl
 | b :: D=>by
  have e:hexS (b :: D)=hx (b.toNat/16) :: hx (b.toNat%16) :: hexS D:=by simp [hexS]
  rw [e,bytS,puN_hex,jiT D]
  simp
theorem hexS_no {c:UInt8} (hc:c.toNat<44) (D:List UInt8):c ∉ hexS D:=by
 intro h
 simp only [hexS,List.mem_flatten,List.mem_map] at h
 obtain ⟨l,⟨b,_,rfl⟩,h⟩:=h
 have hb:=b.toNat_lt
 rcases zP.1 h with h | h
 ·have:=(jkA ⟨b.toNat/16,by omega⟩).2;simp only [<- h] at this;omega
 ·have:=(jkA ⟨b.toNat%16,by omega⟩).2;simp only [<- List.mem_singleton.1 h] at this;omega
abbrev jec:List UInt8:=[115,116,101,112]
abbrev jfq:List UInt8:=[105,110,116,114]
abbrev jb0:List UInt8:=[111,114,100,101,114]
def mvW (m:Mv):List (List UInt8):=jax m.op :: (if m.op=1 then [dec m.wire.toNat,hexS m.D] else if m.op=2\/m.op=6 then [dec m.wire.toNat,dec m.n.toNat] else if m.op=7 then [dec m.n.toNat] else [dec m.wire.toNat])
def ordW (l:List Int):List (List UInt8):=if l=[] then [] else [jb0,jaP 44 (l.map fun n=>dec n.toNat)]
def jbQ (x:Sp):List (List UInt8):=jec :: dec x.ticks.toNat :: ((if x.intr then [jfq] else [])++(ordW x.order++(x.moves.map mvW).flatten))
theorem jgc {n:Int} (h0:0<=n) (h1:n<18446744073709551616):numU n=dec n.toNat:=by
 rw [numU,IntKind.wrap_u64,Int.emod_eq_of_lt h0 h1]
theorem jeO {op:Int} (h1:1<=op) (h2:op<=7):op=1\/op=2\/op=3\/op=4\/op=5\/op=6\/op=7:=by omega
structure MvFit (m:Mv):Prop where
 may:m.may
 w1:m.wire<9223372036854775808
 n1:m.n<9223372036854775808
structure SpFit (x:Sp):Prop where
 may:x.may
 t0:0<=x.ticks
 t1:x.ticks<18446744073709551616
 mv : ∀ m∈x.moves,MvFit m
theorem mvT_words {m:Mv} (f:MvFit m):mvT m=jb8 32 (mvW m):=by
 obtain ⟨⟨a1,a2,a3,a4,a5,a6,a7,a8⟩,w1,n1⟩:=f
 have e1:=jgc a3 (show m.wire<18446744073709551616 by omega)
 have e2:=jgc a4 (show m.n<18446744073709551616 by omega)
 have e3:m.op≠1->hexS m.D=[]:=fun h=>by
  have:m.D=[]:=zl.1 (by
   rcases Nat.eq_zero_or_pos m.D.length with h0 | h0
   ·exact h0
   ·exact zC (a8.2 h0) h)
  rw [this];rfl
 unfold mvT mvW
 rcases jeO a1 a2 with h | h | h | h | h | h | h<;>rw [e1,e2,h]<;>(try rw [e3 om])<;>simp [jb8]
theorem jf8 {l:List Mv} (f : ∀ m∈l,MvFit m) : ∀ i,i<=l.length->movN l i=jb8 32 ((l.take i).map mvW).flatten
 | 0,_=>by simp [movN,jb8]
 | i+1,h=>by
  have ih:=jf8 f i om
  have hi:i<l.length:=h
  rw [movN,ih,List.take_succ_eq_append_getElem hi,List.map_append,List.flatten_append,jcm,za hi,Option.getD_some,mvT_words (f _ (List.getElem_mem hi))]
  simp
theorem jf4 {l:List Int} (f : ∀ n∈l,0<=n/\n<=999) : ∀ i,i<=l.length->ordN l i=if i=0 then [] else 32 :: (jb0++32 :: jaP 44 ((l.take i).map fun n=>dec n.toNat))
 | 0,_=>by simp [ordN]
 | i+1,h=>by
  have ih:=jf4 f i om
  have hi:i<l.length:=h
  have hn:=f _ (List.getElem_mem hi)
  have hd:numU l[i]=dec (l[i]).toNat:=jgc hn.1 (Int.lt_of_le_of_lt hn.2 (by decide))
  rw [ordN,ih,zt (Nat.succ_ne_zero i),List.take_succ_eq_append_getElem hi,za hi,Option.getD_some,hd,List.map_append]
  by_cases h0:i=0
  ·subst h0
   simp [jaP,jb8]
  ·rw [zt h0,zt h0]
   obtain ⟨w,ws,e⟩ : ∃ w ws,(l.take i).map (fun n=>dec n.toNat)=w :: ws:=by
    cases hc:(l.take i).map (fun n=>dec n.toNat) with
    | nil=>have e9:=congrArg List.length hc;rw [List.length_map,List.length_take,List.length_nil] at e9;omega
    | cons w ws=>exact ⟨w,ws,rfl⟩
   rw [e,List.map_singleton,join_snoc]
   simp
theorem jfA {x:Sp} (f:SpFit x):jaD x=jaP 32 (jbQ x):=by
 have h1:=jf4 (l:=x.order) f.may.2.2.1 x.order.length (zn _)
 have h2:=jf8 (l:=x.moves) f.mv x.moves.length (zn _)
 rw [List.take_length] at h1 h2
 have h3:ordN x.order x.order.length=jb8 32 (ordW x.order):=by
  rw [h1,ordW]
  by_cases h0:x.order=[]
  ·rw [h0];rfl
  ·rw [zt h0,zt (fun e=>h0 (zl.1 e))]
   simp [jb8]
 have h4:(if x.intr=true then [32,105,110,116,114] else [])=jb8 32 (if x.intr=true then [jfq] else []):=by
  cases x.intr<;>rfl
 rw [jaD,h3,h2,h4,jbQ,jaP,jdz,jcm,jcm]
 simp
theorem word_no : ∀ k:_root_.Fin 8,∀ b∈(jcS[k.val]?).getD [],48<=b.toNat:=by decide
theorem wordO_no {c:UInt8} (hc:c.toNat<44) (op:Int):c ∉ jax op:=by
 unfold jax
 split
 ·simp
 ·next h=>intro e;have:=word_no ⟨op.toNat,by omega⟩ c e;omega
theorem jiQ {c:UInt8} (hc:c.toNat<48) {u:Nat} (hu:u<18446744073709551616):c ∉ dec u:=fun h=>by
 have:=(jkt hu c h).1;omega
theorem mvW_no {c:UInt8} (hc:c.toNat<44) {m:Mv} (f:MvFit m) : ∀ w∈mvW m,c ∉ w:=by
 have h1:=jiQ (c:=c) om (u:=m.wire.toNat) (by have:=f.w1;omega)
 have h2:=jiQ (c:=c) om (u:=m.n.toNat) (by have:=f.n1;omega)
 have h3:=hexS_no hc m.D
 have h4:=wordO_no hc m.op
 intro w hw
 unfold mvW at hw
 rcases zP.1 hw with rfl | hw
 ·exact h4
 ·(repeat' split at hw)<;>simp only [zP,List.not_mem_nil,or_false] at hw<;>(first | (rcases hw with rfl | rfl<;>assumption) | (subst hw;assumption))
theorem joinB_no {c k:UInt8} (hc:c≠k) : ∀ {ws:List (List UInt8)},(∀ w∈ws,k ∉ w)->k ∉ jaP c ws
 | [],_=>by simp [jaP]
 | w :: ws,h=>by
  intro hm
  rcases zF.1 hm with hm | hm
  ·exact h w Zd hm
  ·simp only [jb8,List.mem_flatten,List.mem_map] at hm
   obtain ⟨_,⟨v,hv,rfl⟩,hm⟩:=hm
   rcases zP.1 hm with hm | hm
   ·exact hc hm.symm
   ·exact h v (zj _ hv) hm
theorem jiH {l:List Int} (f : ∀ n∈l,0<=n/\n<=999) {c:UInt8} (hc:c.toNat<48) : ∀ w∈l.map (fun n=>dec n.toNat),c ∉ w:=by
 intro w hw
 obtain ⟨n,hn,rfl⟩:=List.mem_map.1 hw
 have:=f n hn
 exact jiQ hc om
theorem words_no {c:UInt8} (hc:c.toNat<44) {x:Sp} (f:SpFit x) : ∀ w∈jbQ x,c ∉ w:=by
 have hlit : ∀ l:List UInt8,(∀ b∈l,44<=b.toNat)->c ∉ l:=fun l h e=>by have:=h c e;omega
 intro w hw
 unfold jbQ at hw
 rcases zP.1 hw with rfl | hw
 ·exact hlit _ (by decide)
 rcases zP.1 hw with rfl | hw
 ·exact jiQ om (by have:=f.t1;omega)
 rcases zF.1 hw with hw | hw
 ·split at hw
  ·obtain rfl:=List.mem_singleton.1 hw;exact hlit _ (by decide)
  ·cases hw
 rcases zF.1 hw with hw | hw
 ·unfold ordW at hw
  split at hw
  ·cases hw
  ·rcases zP.1 hw with rfl | hw
   ·exact hlit _ (by decide)
   ·obtain rfl:=List.mem_singleton.1 hw
    exact joinB_no (fun e=>by rw [<- e] at hc;exact zC hc (by decide)) (jiH f.may.2.2.1 om)
 ·obtain ⟨l,hl,hw⟩:=List.mem_flatten.1 hw
  obtain ⟨m,hm,rfl⟩:=List.mem_map.1 hl
  exact mvW_no hc (f.mv m hm) w hw
theorem jd0 {x:Sp} (f:SpFit x):jae 32 (jaD x)=jbQ x:=by
 rw [jfA f]
 exact jd1 (words_no (by decide) f)
theorem je8 {l:List Int} (h0:l≠[]) (f : ∀ n∈l,0<=n/\n<=999):jae 44 (jaP 44 (l.map fun n=>dec n.toNat))=l.map fun n=>dec n.toNat:=by
 have h:=jiH f (c:=44) (by decide)
 cases hc:l.map (fun n=>dec n.toNat) with
 | nil=>have:=congrArg List.length hc;simp at this;exact zC this h0
 | cons w ws=>rw [hc] at h;exact jd1 h
def opW (w:List UInt8):Int:=if w=jax 7 then 7 else if w=jax 6 then 6 else if w=jax 5 then 5 else if w=jax 4 then 4 else if w=jax 3 then 3 else if w=jax 2 then 2 else if w=jax 1 then 1 else 0
theorem jiI {op:Int} (h1:1<=op) (h2:op<=7):opW (jax op)=op:=by
 rcases jeO h1 h2 with h | h | h | h | h | h | h<;>(subst h;decide)
theorem opW_le (w:List UInt8):0<=opW w/\opW w<=7:=by unfold opW;(repeat' split)<;>omega
def mvR:List (List UInt8)->Option (Mv × List (List UInt8))
 | w :: a :: b :: t=>if opW w=1 then (match numP a,bytS b with | some n,some D=>some (⟨1,n,0,D⟩,t) | _,_=>none)
  else if opW w=2\/opW w=6 then (match numP a,numP b with | some n,some k=>some (⟨opW w,n,k,[]⟩,t) | _,_=>none)
  else if opW w=7 then (match numP a with | some n=>some (⟨7,0,n,[]⟩,b :: t) | _=>none)
  else if opW w=0 then none
  else (match numP a with | some n=>some (⟨opW w,n,0,[]⟩,b :: t) | _=>none)
 | [w,a]=>if opW w=1\/opW w=2\/opW w=6 then none
  else if opW w=7 then (match numP a with | some n=>some (⟨7,0,n,[]⟩,[]) | _=>none)
  else if opW w=0 then none
  else (match numP a with | some n=>some (⟨opW w,n,0,[]⟩,[]) | _=>none)
 | _=>none
def mvsR:Nat->List (List UInt8)->Option (List Mv)
 | _,[]=>some []
 | 0,_ :: _=>none
 | f+1,w :: r=>match mvR (w :: r) with
  | none=>none
  | some (m,t)=>match mvsR f t with
   | none=>none
   | some l=>some (m :: l)
def ordR:List (List UInt8)->Option (List Int)
 | []=>some []
 | w :: r=>match numP w,ordR r with
  | some n,some l=>some (n :: l)
  | _,_=>none
def pwI:List (List UInt8)->Bool × List (List UInt8)
 | w :: t=>if w=jfq then (true,t) else (false,w :: t)
 | []=>(false,[])
def pwO:List (List UInt8)->Option (List Int × List (List UInt8))
 | w :: o :: t=>if w=jb0 then (match ordR (jae 44 o) with | some l=>some (l,t) | none=>none) else some ([],w :: o :: t)
 | l=>some ([],l)
def puS (base cut mx:Nat) (s:List UInt8):Nat × Nat:=if s=[] then (0,2) else puN base cut mx s 0
def pwW:List (List UInt8)->Option Sp
 | a :: b :: r=>if a=jec then (match puS 10 1844674407370955162 18446744073709551615 b with
   | (n,0)=>(match pwO (pwI r).2 with
    | none=>none
    | some (o,t)=>match mvsR t.length t with
     | none=>none
     | some M=>some ⟨n,(pwI r).1,o,M⟩)
   | _=>none) else none
 | _=>none
theorem jkh {l t:List (List UInt8)} {m:Mv} (h:mvR l=some (m,t)):t.length<l.length:=by
 unfold mvR at h
 split at h
 ·(repeat' split at h)<;>(first | (cases h;done) | (cases h;simp;done) | (cases h;simp;omega))
 ·(repeat' split at h)<;>(first | (cases h;done) | (cases h;simp))
 ·cases h
theorem jhq : ∀ {f g:Nat} {l:List (List UInt8)},l.length<=f->l.length<=g->mvsR f l=mvsR g l
 | f,g,[],_,_=>by cases f<;>cases g<;>rfl
 | 0,_,_ :: _,h,_=>by simp at h
 | _,0,_ :: _,_,h=>by simp at h
 | f+1,g+1,w :: r,h1,h2=>by
  rw [mvsR,mvsR]
  cases hm:mvR (w :: r) with
  | none=>rfl
  | some x=>
   obtain ⟨m,t⟩:=x
   have:=jkh hm
   simp only [List.length_cons] at this h1 h2
   simp only [jhq (f:=f) (g:=g) (l:=t) om om]
theorem mvsR_step {l:List (List UInt8)} (h:l≠[]):mvsR l.length l=(match mvR l with | none=>none | some (m,t)=>(mvsR t.length t).map (m :: ·)):=by
 cases l with
 | nil=>exact zC rfl h
 | cons w r=>
  rw [List.length_cons,mvsR]
  cases hm:mvR (w :: r) with
  | none=>rfl
  | some x=>
   obtain ⟨m,t⟩:=x
   have:=jkh hm
   simp only [List.length_cons] at this
   simp only [jhq (f:=r.length) (g:=t.length) (l:=t) om (zn _)]
   cases mvsR t.length t<;>rfl
theorem mvR_words {m:Mv} (f:MvFit m) (t:List (List UInt8)):mvR (mvW m++t)=some (m,t):=by
 obtain ⟨⟨a1,a2,a3,a4,a5,a6,a7,a8⟩,w1,n1⟩:=f
 obtain ⟨op,wire,n,D⟩:=m
 simp only at a1 a2 a3 a4 a5 a6 a7 a8 w1 n1
 have ow:=jiI a1 a2
 have e1:numP (dec wire.toNat)=some wire:=by rw [jep om];congr 1;omega
 have e2:numP (dec n.toNat)=some n:=by rw [jep om];congr 1;omega
 have e3:=jiT D
 have hD:op≠1->D=[]:=fun h=>zl.1 (by
  rcases Nat.eq_zero_or_pos D.length with h0 | h0
  ·exact h0
  ·exact zC (a8.2 h0) h)
 rcases jeO a1 a2 with rfl | rfl | rfl | rfl | rfl | rfl | rfl
 ·obtain rfl:n=0:=by omega
  cases t<;>simp [mvW,mvR,ow,e1,e2,e3]
 ·obtain rfl:=hD (by decide)
  cases t<;>simp [mvW,mvR,ow,e1,e2,e3]
 ·obtain rfl:=hD (by decide)
  obtain rfl:n=0:=by omega
  cases t<;>simp [mvW,mvR,ow,e1,e2,e3]
 ·obtain rfl:=hD (by decide)
  obtain rfl:n=0:=by omega
  cases t<;>simp [mvW,mvR,ow,e1,e2,e3]
 ·obtain rfl:=hD (by decide)
  obtain rfl:n=0:=by omega
  cases t<;>simp [mvW,mvR,ow,e1,e2,e3]
 ·obtain rfl:=hD (by decide)
  cases t<;>simp [mvW,mvR,ow,e1,e2,e3]
 ·obtain rfl:=hD (by decide)
  obtain rfl:=a6 rfl
  cases t<;>simp [mvW,mvR,ow,e1,e2,e3]
theorem jjy {l:List Mv} (f : ∀ m∈l,MvFit m) : ∀ {g:Nat},(l.map mvW).flatten.length<=g->mvsR g (l.map mvW).flatten=some l:=by
 induction l with
 | nil=>intro g _;cases g<;>rfl
 | cons m l ih=>
  intro g h
  have e:((m :: l).map mvW).flatten=mvW m++(l.map mvW).flatten:=by simp
  rw [e] at h ⊢
  obtain ⟨w,ws,ew⟩ : ∃ w ws,mvW m=w :: ws:=⟨_,_,rfl⟩
  have hm:=mvR_words (f m Zd) (l.map mvW).flatten
  rw [ew] at hm h ⊢
  rw [zL] at hm h ⊢
  cases g with
  | zero=>simp at h
  | succ g=>
   rw [mvsR,hm]
   simp only [List.length_cons,ze] at h
   simp only [ih (fun m hm=>f m (zj _ hm)) (g:=g) om]
theorem jjw {l:List Int} (f : ∀ n∈l,0<=n/\n<=999):ordR (l.map fun n=>dec n.toNat)=some l:=by
 induction l with
 | nil=>rfl
 | cons n l ih=>
  have hn:=f n Zd
  have e:numP (dec n.toNat)=some n:=by rw [jep om];congr 1;omega
  rw [List.map_cons,ordR,e,ih fun m hm=>f m (zj _ hm)]
theorem jja : ∀ k:_root_.Fin 8,(jcS[k.val]?).getD []≠jfq/\(jcS[k.val]?).getD []≠jb0:=by decide
theorem jcT (op:Int):jax op≠jfq/\jax op≠jb0:=by
 unfold jax
 split
 ·decide
 ·exact jja ⟨op.toNat,by omega⟩
theorem pwO_moves (l:List Mv):pwO (l.map mvW).flatten=some ([],(l.map mvW).flatten):=by
 cases l with
 | nil=>rfl
 | cons m l=>
  have h:=(jcT m.op).2
  obtain ⟨ws,ew⟩ : ∃ ws,((m :: l).map mvW).flatten=jax m.op :: ws:=⟨_,rfl⟩
  rw [ew]
  cases ws with
  | nil=>rfl
  | cons a t=>rw [pwO,zt h]
theorem pwI_moves (l:List Mv):pwI (l.map mvW).flatten=(false,(l.map mvW).flatten):=by
 cases l with
 | nil=>rfl
 | cons m l=>
  have h:=(jcT m.op).1
  obtain ⟨ws,ew⟩ : ∃ ws,((m :: l).map mvW).flatten=jax m.op :: ws:=⟨_,rfl⟩
  rw [ew,pwI,zt h]
theorem ji8 (b:Bool) (o:List Int) (l:List Mv):pwI ((if b=true then [jfq] else [])++(ordW o++(l.map mvW).flatten))=(b,ordW o++(l.map mvW).flatten):=by
 cases b with
 | true=>rfl
 | false=>
  show pwI (ordW o++(l.map mvW).flatten)=_
  unfold ordW
  split
  ·exact pwI_moves l
  ·rfl
theorem pwO_rest {o:List Int} (f : ∀ n∈o,0<=n/\n<=999) (l:List Mv):pwO (ordW o++(l.map mvW).flatten)=some (o,(l.map mvW).flatten):=by
 unfold ordW
 split
 ·next h=>subst h;exact pwO_moves l
 ·next h=>
  show pwO (jb0 :: jaP 44 (o.map fun n=>dec n.toNat) :: (l.map mvW).flatten)=_
  rw [pwO,zw rfl,je8 h f,jjw f]
theorem pwW_words {x:Sp} (f:SpFit x):pwW (jbQ x)=some x:=by
 have h1:=f.t0
 have h2:=f.t1
 have hu:puS 10 1844674407370955162 18446744073709551615 (dec x.ticks.toNat)=(x.ticks.toNat,0):=by
  rw [puS,zt (jkQ om)]
  have:=puN_dec (u:=x.ticks.toNat) (mx:=18446744073709551615) om om []
  rw [List.append_nil] at this
  rw [this];rfl
 rw [jbQ,pwW,zw rfl,hu]
 simp only [ji8,pwO_rest f.may.2.2.1,jjy f.mv (zn _)]
 obtain ⟨t,i,o,m⟩:=x
 simp only [Option.some.injEq,Sp.mk.injEq,and_true]
 exact Int.toNat_of_nonneg h1
theorem jdl {x:Sp} (f:SpFit x):pwW (jae 32 (jaD x))=some x:=by rw [jd0 f,pwW_words f]
def nibV (c:UInt8):Nat:=if 48<=c.toNat/\c.toNat<=57 then c.toNat-48 else if 97<=c.toNat/\c.toNat<=102 then c.toNat-87 else 255
def nibS:List UInt8->List UInt8
 | a :: b :: r=>if nibV a<16/\nibV b<16 then UInt8.ofNat (16*nibV a+nibV b) :: nibS r else nibS r
 | _=>[]
theorem jkL : ∀ k:_root_.Fin 16,nibV (hx k.val)=k.val:=by decide
theorem jiL : ∀ D:List UInt8,nibS (hexS D)=D
 | []=>rfl
 | b :: D=>by
  have hb:=b.toNat_lt
  have e:hexS (b :: D)=hx (b.toNat/16) :: hx (b.toNat%16) :: hexS D:=by simp [hexS]
  have h1:=jkL ⟨b.toNat/16,by omega⟩
  have h2:=jkL ⟨b.toNat%16,by omega⟩
  simp only at h1 h2
  rw [e,nibS,h1,h2,zw om,jiL D]
  congr 1
  rw [show 16*(b.toNat/16)+b.toNat%16=b.toNat by omega]
  simp
def mdW (op:Int) (r:List (List UInt8)):Int × List (List UInt8):=if 1<=op/\op<=6 then (match r with | a :: t=>(ja1 a,t) | []=>(0,[])) else (0,r)
def mdN (op:Int) (r:List (List UInt8)):Int × List (List UInt8):=if op=2\/op=6\/op=7 then (match r with | a :: t=>(ja1 a,t) | []=>(0,[])) else (0,r)
def mdD (op:Int) (r:List (List UInt8)):List UInt8 × List (List UInt8):=if op=1 then (match r with | a :: t=>(nibS a,t) | []=>([],[])) else ([],r)
def mdR:List (List UInt8)->Option (Mv × List (List UInt8))
 | []=>none
 | w :: r=>if opW w=0 then none else some (⟨opW w,(mdW (opW w) r).1,(mdN (opW w) (mdW (opW w) r).2).1,(mdD (opW w) (mdN (opW w) (mdW (opW w) r).2).2).1⟩,(mdD (opW w) (mdN (opW w) (mdW (opW w) r).2).2).2)
theorem mdR_words {m:Mv} (f:MvFit m) (t:List (List UInt8)):mdR (mvW m++t)=some (m,t):=by
 obtain ⟨⟨a1,a2,a3,a4,a5,a6,a7,a8⟩,w1,n1⟩:=f
 obtain ⟨op,wire,n,D⟩:=m
 simp only at a1 a2 a3 a4 a5 a6 a7 a8 w1 n1
 have ow:=jiI a1 a2
 have e1:ja1 (dec wire.toNat)=wire:=by rw [jd2 om];omega
 have e2:ja1 (dec n.toNat)=n:=by rw [jd2 om];omega
 have e3:=jiL D
 have hD:op≠1->D=[]:=fun h=>zl.1 (by
  rcases Nat.eq_zero_or_pos D.length with h0 | h0
  ·exact h0
  ·exact zC (a8.2 h0) h)
 rcases jeO a1 a2 with rfl | rfl | rfl | rfl | rfl | rfl | rfl
 ·obtain rfl:n=0:=by omega
  simp [mvW,mdR,mdW,mdN,mdD,ow,e1,e2,e3]
 ·obtain rfl:=hD (by decide)
  simp [mvW,mdR,mdW,mdN,mdD,ow,e1,e2,e3]
 ·obtain rfl:=hD (by decide)
  obtain rfl:n=0:=by omega
  simp [mvW,mdR,mdW,mdN,mdD,ow,e1,e2,e3]
 ·obtain rfl:=hD (by decide)
  obtain rfl:n=0:=by omega
  simp [mvW,mdR,mdW,mdN,mdD,ow,e1,e2,e3]
 ·obtain rfl:=hD (by decide)
  obtain rfl:n=0:=by omega
  simp [mvW,mdR,mdW,mdN,mdD,ow,e1,e2,e3]
 ·obtain rfl:=hD (by decide)
  simp [mvW,mdR,mdW,mdN,mdD,ow,e1,e2,e3]
 ·obtain rfl:=hD (by decide)
  obtain rfl:=a6 rfl
  simp [mvW,mdR,mdW,mdN,mdD,ow,e1,e2,e3]
theorem mdW_len (op:Int) (r:List (List UInt8)):(mdW op r).2.length<=r.length:=by
 unfold mdW;(repeat' split)<;>simp
theorem mdN_len (op:Int) (r:List (List UInt8)):(mdN op r).2.length<=r.length:=by
 unfold mdN;(repeat' split)<;>simp
theorem mdD_len (op:Int) (r:List (List UInt8)):(mdD op r).2.length<=r.length:=by
 unfold mdD;(repeat' split)<;>simp
theorem jih {l t:List (List UInt8)} {m:Mv} (h:mdR l=some (m,t)):t.length<l.length:=by
 cases l with
 | nil=>cases h
 | cons w r=>
  rw [mdR] at h
  split at h
  ·cases h
  ·cases h
   have h1:=mdW_len (opW w) r
   have h2:=mdN_len (opW w) (mdW (opW w) r).2
   have h3:=mdD_len (opW w) (mdN (opW w) (mdW (opW w) r).2).2
   rw [List.length_cons];omega
def mdsR:Nat->List (List UInt8)->Option (List Mv)
 | _,[]=>some []
 | 0,_ :: _=>none
 | f+1,w :: r=>match mdR (w :: r) with
  | none=>none
  | some (m,t)=>match mdsR f t with
   | none=>none
   | some l=>some (m :: l)
theorem jhr : ∀ {f g:Nat} {l:List (List UInt8)},l.length<=f->l.length<=g->mdsR f l=mdsR g l
 | f,g,[],_,_=>by cases f<;>cases g<;>rfl
 | 0,_,_ :: _,h,_=>by simp at h
 | _,0,_ :: _,_,h=>by simp at h
 | f+1,g+1,w :: r,h1,h2=>by
  rw [mdsR,mdsR]
  cases hm:mdR (w :: r) with
  | none=>rfl
  | some x=>
   obtain ⟨m,t⟩:=x
   have:=jih hm
   simp only [List.length_cons] at this h1 h2
   simp only [jhr (f:=f) (g:=g) (l:=t) om om]
theorem mdsR_step {l:List (List UInt8)} (h:l≠[]):mdsR l.length l=(match mdR l with | none=>none | some (m,t)=>(mdsR t.length t).map (m :: ·)):=by
 cases l with
 | nil=>exact zC rfl h
 | cons w r=>
  rw [List.length_cons,mdsR]
  cases hm:mdR (w :: r) with
  | none=>rfl
  | some x=>
   obtain ⟨m,t⟩:=x
   have:=jih hm
   simp only [List.length_cons] at this
   simp only [jhr (f:=r.length) (g:=t.length) (l:=t) om (zn _)]
   cases mdsR t.length t<;>rfl
theorem jj0 {l:List Mv} (f : ∀ m∈l,MvFit m) : ∀ {g:Nat},(l.map mvW).flatten.length<=g->mdsR g (l.map mvW).flatten=some l:=by
 induction l with
 | nil=>intro g _;cases g<;>rfl
 | cons m l ih=>
  intro g h
  have e:((m :: l).map mvW).flatten=mvW m++(l.map mvW).flatten:=by simp
  rw [e] at h ⊢
  obtain ⟨w,ws,ew⟩ : ∃ w ws,mvW m=w :: ws:=⟨_,_,rfl⟩
  have hm:=mdR_words (f m Zd) (l.map mvW).flatten
  rw [ew] at hm h ⊢
  rw [zL] at hm h ⊢
  cases g with
  | zero=>simp at h
  | succ g=>
   rw [mdsR,hm]
   simp only [List.length_cons,ze] at h
   simp only [ih (fun m hm=>f m (zj _ hm)) (g:=g) om]
def qwO:List (List UInt8)->List Int × List (List UInt8)
 | w :: o :: t=>if w=jb0 then ((jae 44 o).map ja1,t) else ([],w :: o :: t)
 | l=>([],l)
def qwW:List (List UInt8)->Option Sp
 | _ :: b :: r=>match mdsR (qwO (pwI r).2).2.length (qwO (pwI r).2).2 with
  | none=>none
  | some M=>some ⟨valN b 0,(pwI r).1,(qwO (pwI r).2).1,M⟩
 | _=>none
theorem qwO_rest {o:List Int} (f : ∀ n∈o,0<=n/\n<=999) (l:List Mv):qwO (ordW o++(l.map mvW).flatten)=(o,(l.map mvW).flatten):=by
 unfold ordW
 split
 ·next h=>
  subst h
  cases l with
  | nil=>rfl
  | cons m l=>
   have h:=(jcT m.op).2
   obtain ⟨ws,ew⟩ : ∃ ws,((m :: l).map mvW).flatten=jax m.op :: ws:=⟨_,rfl⟩
   rw [List.nil_append,ew]
   cases ws with
   | nil=>rfl
   | cons a t=>rw [qwO,zt h]
 ·next h=>
  show qwO (jb0 :: jaP 44 (o.map fun n=>dec n.toNat) :: (l.map mvW).flatten)=_
  rw [qwO,zw rfl,je8 h f,List.map_map]
  congr 1
  have : ∀ n∈o,(ja1 ∘ fun n=>dec n.toNat) n=id n:=fun n hn=>by
   have:=f n hn
   show ja1 (dec n.toNat)=n
   rw [jd2 om];omega
  rw [List.map_congr_left this,List.map_id]
theorem jfS {x:Sp} (f:SpFit x):qwW (jae 32 (jaD x))=some x:=by
 have h1:=f.t0
 have h2:=f.t1
 rw [jd0 f,jbQ,qwW]
 simp only [ji8,qwO_rest f.may.2.2.1,jj0 f.mv (zn _)]
 obtain ⟨t,i,o,m⟩:=x
 simp only [Option.some.injEq,Sp.mk.injEq,and_true]
 have h2':t<18446744073709551616:=h2
 rw [je0 om]
 exact Int.toNat_of_nonneg h1
end Am.Sigs
namespace Am
open Go Am.Sigs
structure Hd (p:Prop):Prop where
 g:p
structure Kc (h:H) (b:Nat) (l:List V) (ro:Bool):Prop where
 lt:b<h.nx
 at_:h.get b=some (.cells l ro)
theorem Kc.old {h h':H} {b:Nat} {l:List V} {ro:Bool} (k:Kc h b l ro) (o:Old h h'):Kc h' b l ro :=
 ⟨zo k.lt o.1,by rw [o.2 _ k.lt,k.at_]⟩
section
variable {call:Call} {fuel base:Nat} {K:List Fr} {e:Env} {h h' h0:H} {Q:Post} {ix:Nat} {dst:Option Nat} {ops:List Ins} {keep:List Nat} {at_:Option Nat} {c:List (Nat × I × Option (Nat × Bool))}
end
end Am
namespace Am.Sigs
open Am Go
abbrev strs (l:List (List UInt8)):List V:=l.map V.str
theorem strs_one (l:List (List UInt8)):(strs l).all V.one=true:=by
 rw [zJ]
 intro x hx
 obtain ⟨s,_,rfl⟩:=List.mem_map.1 hx
 rfl
def SR (N:Nat) (h:H) (v:V) (l:List (List UInt8)):Prop :=
 ∃ q c,N<=q/\q<h.nx/\v = .slice (some (q,0)) l.length c/\(c = .grow 1\/c = .fix l.length)/\h.get q=some (.cells (strs l) false)
theorem SR.keep {N M:Nat} {h h':H} {v:V} {l:List (List UInt8)} (r:SR N h v l) (hM:M<=N) (o:Old h h'):SR M h' v l:=by
 obtain ⟨q,c,h1,h2,e,hc,hg⟩:=r
 exact ⟨q,c,by omega,zo h2 o.1,e,hc,by rw [o.2 q h2,hg]⟩
theorem SR.keep_ne {N:Nat} {h h':H} {v:V} {l:List (List UInt8)} (r:SR N h v l) (hx:h.nx<=h'.nx) (k : ∀ j,v.at?=some j->h'.get j=h.get j):SR N h' v l:=by
 obtain ⟨q,c,h1,h2,rfl,hc,hg⟩:=r
 exact ⟨q,c,h1,by omega,rfl,hc,by rw [k q rfl,hg]⟩
theorem SR.at_ge {N:Nat} {h:H} {v:V} {l:List (List UInt8)} (r:SR N h v l) {j:Nat} (e:v.at?=some j):N<=j/\j<h.nx:=by
 obtain ⟨q,c,h1,h2,rfl,hc,hg⟩:=r
 cases e;exact ⟨h1,h2⟩
theorem SR.app {N m sb so:Nat} {h:H} {v:V} {l new:List (List UInt8)} {ls:List V} {ro:Bool} {cap:Cap} (r:SR N h v l) (hN:N<=h.nx) (hm:0<m) (hs:h.get sb=some (.cells ls ro)) (hsl:so+m<=ls.length) (hnew:(ls.drop so).take m=strs new) (hb:l.length+m<=1000000) :
  ∃ v' h',jaQ h 1 16 v (.slice (some (sb,so)) m cap)=some (v',h')/\SR N h' v' (l++new)/\h'.nx=h.nx+1/\v'.at?=some h.nx /\ ∀ j,j<h.nx->v.at?≠some j->h'.get j=h.get j:=by
 obtain ⟨q,c,h1,h2,rfl,hc,hg⟩:=r
 have hlen:new.length=m:=by
  have:=congrArg List.length hnew
  simp at this;omega
 have hsrc:ja8 h 1 m (.slice (some (sb,so)) m cap)=some (strs new):=by
  have:(m*1 == 0)=false:=by simp;omega
  simp only [ja8,this,cond_false]
  rw [jby hs om,Nat.mul_one,hnew]
 have hcond:(Nat.ble ((l.length+m)*16) (2 ^ 46)&&Nat.ble (l.length+m) (2 ^ 46))=true:=by simp only [zm,zH];omega
 have h10:(m == 0)=false:=by simp;omega
 have hll:(l++new).length=l.length+m:=by simp [hlen]
 rcases hc with rfl | rfl
 ·have hgd:(Nat.beq 1 1&&Nat.ble (0+l.length*1) (strs l).length&&(strs new).all V.one)=true:=by
   simp only [zm,zH,strs_one,and_true]
   exact ⟨rfl,by simp⟩
  have htk:((strs l).drop 0).take (l.length*1)=strs l:=by rw [zi,zf Zd]
  refine ⟨.slice (some (h.nx,0)) (l.length+m) (.grow 1),(h.kill q).new (.cells (strs (l++new)) false),?_,⟨h.nx,.grow 1,hN,by simp,by rw [hll],.inl rfl,?_⟩,by simp,rfl,?_⟩
  ·simp only [jaQ,lenOf,hsrc]
   rw [hcond]
   simp only [cond_true,h10,cond_false,hg]
   rw [hgd]
   simp only [cond_true,newRow,htk,strs,List.map_append]
   rfl
  ·exact jac (h:=h.kill q) _
  ·intro j hj hv
   have hjq:j≠q:=fun e=>hv (by subst e;rfl)
   rw [jaj (by simpa using hj),jak hjq]
 ·have hld:(bif l.length*1 == 0 then some [] else h.load q 0 (l.length*1))=some (strs l):=by
   by_cases h0:l=[]
   ·subst h0;rfl
   ·have:(l.length*1 == 0)=false:=by
     have:=List.length_pos_iff.2 h0
     simp [h0]
    rw [this,cond_false,jby hg Zd,zi,zf Zd]
  have hno:Nat.ble (l.length+m) l.length=false:=by
   cases e:Nat.ble (l.length+m) l.length with
   | false=>rfl
   | true=>have:=zp e;omega
  refine ⟨.slice (some (h.nx,0)) (l.length+m) (.grow 1),h.new (.cells (strs (l++new)) false),?_,⟨h.nx,.grow 1,hN,by simp,by rw [hll],.inl rfl,jac _⟩,by simp,rfl,fun j hj _=>jaj hj⟩
  simp only [jaQ,lenOf,hsrc]
  rw [hcond]
  simp only [cond_true,h10,cond_false,hno,hld]
  simp only [newRow,strs,List.map_append]
theorem jg2 (e:Env) (d:Nat) (v:V):(Opd.t d).ev (layv e (some d) v)=some v:=by
 show (layv e (some d) v).get d=_
 rw [ja9,zw rfl]
section
variable {call:Call} {fuel base:Nat} {K:List Fr} {e:Env} {h h0:H} {Q:Post} {ix i1 i2 d1 d2:Nat} {dst at_:Option Nat} {ops:List Ins} {keep:List Nat} {c:List (Nat × I × Option (Nat × Bool))}
theorem Ops.strA {x y:Opd} {sv:V} {l new:List (List UInt8)} {sb so m:Nat} {ls:List V} {ro:Bool} {cap:Cap} (hx:x.ev e=some sv) (hy:y.ev e=some (.slice (some (sb,so)) m cap)) (o:Old h0 h) (r:SR h0.nx h sv l) (hm:0<m) (hs:h.get sb=some (.cells ls ro)) (hsl:so+m<=ls.length) (hnew:(ls.drop so).take m=strs new) (hb:l.length+m<=1000000)
  (hk : ∀ h',Old h0 h'->jau e h' c=true) (k : ∀ v' h',SR h0.nx h' v' (l++new)->Old h0 h'->h'.nx=h.nx+1->(∀ j,j<h.nx->sv.at?≠some j->h'.get j=h.get j)->Ops call fuel base ops keep K (layv e dst v') h' Q) :
  Ops call fuel base (⟨ix,dst,.append 1 16 x y,none,none,c⟩ :: ops) keep K e h Q:=by
 obtain ⟨v',h',e1,e2,e3,e4,e5⟩:=r.app (cap:=cap) o.1 hm hs hsl hnew hb
 have o':Old h0 h':=⟨by have:=o.1;omega,fun j hj=>by rw [e5 j (zo hj o.1) fun e=>by have:=(r.at_ge e).1;omega,o.2 j hj]⟩
 exact Ops.step_chk (I.run_eff rfl (by simp only [I.eff,hx,hy,e1])) (hk h' o') (k v' h' e2 o' e3 e5)
theorem Ops.strP {x s:Opd} {sv z:V} {l:List (List UInt8)} {t:List UInt8} (hx:x.ev e=some (.str t)) (hs:s.ev (layv e (some d1) (.slice (some (h.nx,0)) 1 (.fix 1)))=some sv) (o:Old h0 h) (r:SR h0.nx h sv l) (hb:l.length<=900000)
  (k : ∀ v' h',SR h0.nx h' v' (l++[t])->Old h0 h'->h'.nx=h.nx+2->(∀ j,j<h.nx->sv.at?≠some j->h'.get j=h.get j)->Ops call fuel base ops keep K (layv (layv e (some d1) (.slice (some (h.nx,0)) 1 (.fix 1))) (some d2) v') h' Q) :
  Ops call fuel base (⟨i1,some d1,.bslice 1 1 [z] [(0,x)],none,none,[]⟩ :: ⟨i2,some d2,.append 1 16 s (.t d1),none,none,[]⟩ :: ops) keep K e h Q:=by
 refine zcu (ob := .cells [V.str t] false) (mk:=fun b=>.slice (some (b,0)) 1 (.fix 1)) rfl ?_ ?_
 ·simp only [I.make,jaC,List.map,hx];rfl
 ·have on:Old h (h.new (.cells [V.str t] false)):=⟨by simp,fun _ hj=>jaj hj⟩
  refine Ops.strA (new:=[t]) hs (jg2 ..) (o.trans on) (r.keep (zn _) on) Nat.one_pos (jac _) Zd rfl om (fun _ _=>rfl) fun v' h' a b c d=>k v' h' a b (by rw [c];simp) fun j hj hv=>by rw [d j Zc hv,jaj hj]
end
theorem Row.sr {N:Nat} {h:H} {v:V} {l:List (List UInt8)} (r:Row N h 1 v l.length (strs l)) (hl:l≠[]):SR N h v l:=by
 rcases r with ⟨h1,_⟩ | ⟨q,h1,h2,rfl,h4,_⟩
 ·exact zC (zl.1 h1) hl
 ·exact ⟨q,_,h1,h2,rfl,.inl rfl,h4⟩
section
variable {call:Call} {fuel base:Nat} {ops:List Ins} {keep:List Nat} {K:List Fr} {e:Env} {h:H} {Q:Post} {ix:Nat} {dst at_:Option Nat}
theorem jiu {n m:Nat} (h:n<=m):upto (n:Int) m=true:=jfF h
theorem Ops.strTo {x hi:Opd} {s:List UInt8} {n:Nat} (hx:x.ev e=some (.str s)) (hh:hi.ev e=some (.i (n:Int))) (hn:n<=s.length) (k:Ops call fuel base ops keep K (layv e dst (.str (s.take n))) h Q) :
  Ops call fuel base (⟨ix,dst,.sliceS x none (some hi),none,at_,[]⟩ :: ops) keep K e h Q:=by
 refine Ops.pure rfl ?_ k
 simp only [I.pure,hx,evo,hh,jaE,slcM,slcH,slcL,sB,asInt,jiu hn,cond_true,zq,zi]
theorem Ops.strFrom {x lo:Opd} {s:List UInt8} {n:Nat} (hx:x.ev e=some (.str s)) (hh:lo.ev e=some (.i (n:Int))) (hn:n<=s.length) (k:Ops call fuel base ops keep K (layv e dst (.str (s.drop n))) h Q) :
  Ops call fuel base (⟨ix,dst,.sliceS x (some lo) none,none,at_,[]⟩ :: ops) keep K e h Q:=by
 refine Ops.pure rfl ?_ k
 simp only [I.pure,hx,evo,hh,jaE,slcM,slcH,slcL,sB,asInt,jiu hn,cond_true,zq,Option.isSome_none,cond_false,List.take_length]
theorem Ops.strMid {x lo hi:Opd} {s:List UInt8} {n m:Nat} (hx:x.ev e=some (.str s)) (hh:lo.ev e=some (.i (n:Int))) (hh2:hi.ev e=some (.i (m:Int))) (hn:n<=m) (hm:m<=s.length) (k:Ops call fuel base ops keep K (layv e dst (.str ((s.take m).drop n))) h Q) :
  Ops call fuel base (⟨ix,dst,.sliceS x (some lo) (some hi),none,at_,[]⟩ :: ops) keep K e h Q:=by
 refine Ops.pure rfl ?_ k
 simp only [I.pure,hx,evo,hh,hh2,jaE,slcM,slcH,slcL,sB,asInt,jiu hn,jiu hm,cond_true,zq]
end
theorem jhA (c x:UInt8) (r:List UInt8):cntB c (x :: r)=(bif x == c then 1 else 0)+cntB c r:=rfl
theorem jdy {c:UInt8} : ∀ {s:List UInt8},cntB c s=0->c ∉ s
 | [],_=>by simp
 | x :: r,h=>by
  unfold cntB at h
  cases hx:x == c with
  | true=>rw [hx] at h;simp at h
  | false=>
   rw [hx] at h
   have h2:cntB c r=0:=by simpa using h
   intro hm
   rcases zP.1 hm with e | e
   ·subst e;simp at hx
   ·exact jdy h2 e
theorem jes (c:UInt8) : ∀ (s:List UInt8) (n:Nat),idxB c s n=if c∈s then idxB c s 0+n else -1
 | [],n=>by simp [idxB]
 | x :: r,n=>by
  unfold idxB
  cases hx:x == c with
  | true=>
   have:x=c:=by simpa using hx
   subst this;simp
  | false=>
   have hne:c≠x:=fun e=>by subst e;simp at hx
   simp only [cond_false,zP,hne,false_or]
   rw [jes c r (n+1),jes c r (0+1)]
   split
   ·omega
   ·rfl
theorem jcC {c:UInt8} : ∀ {s:List UInt8},0<cntB c s -> ∃ w r,s=w++c :: r/\c ∉ w/\idxB c s 0=(w.length:Int)/\cntB c s=cntB c r+1
 | [],h=>by simp [cntB] at h
 | x :: r,h=>by
  cases hx:x == c with
  | true=>
   have:x=c:=by simpa using hx
   subst this
   exact ⟨[],r,rfl,by simp,by simp [idxB],by rw [jhA,hx,cond_true];omega⟩
  | false=>
   have hne:c≠x:=fun e=>by subst e;simp at hx
   have h2:0<cntB c r:=by unfold cntB at h;rw [hx] at h;simpa using h
   obtain ⟨w,t,rfl,h3,h4,h5⟩:=jcC h2
   refine ⟨x :: w,t,rfl,fun hm=>?_,?_,?_⟩
   ·rcases zP.1 hm with e | e
    ·exact hne e
    ·exact h3 e
   ·unfold idxB
    rw [hx,cond_false,jes,zw Zd,h4];simp
   ·rw [jhA,hx,cond_false,h5];omega
theorem jaG (c:UInt8) : ∀ s:List UInt8,(jae c s).length=cntB c s+1
 | []=>rfl
 | x :: r=>by
  have ih:=jaG c r
  unfold jae cntB
  by_cases hx:x=c
  ·subst hx;simp [ih];omega
  ·have:(x == c)=false:=by simp [hx]
   rw [zt hx,this,cond_false]
   cases hs:jae c r with
   | nil=>exact zC hs (jcq c r)
   | cons w ws=>rw [hs] at ih;simp at ih ⊢;omega
theorem jc7 (c:UInt8) : ∀ s:List UInt8,cntB c s<=s.length
 | []=>zn _
 | x :: r=>by
  have:=jc7 c r
  unfold cntB
  cases x == c<;>simp<;>omega
def WN (h h':H) (v:V) (ws:List (List UInt8)):Prop := ∃ q,h.nx<=q/\q<h'.nx/\v = .slice (some (q,0)) ws.length (.fix ws.length)/\h'.get q=some (.cells (strs ws) false)
theorem jjS {a:List V} {k:Nat} {x y:V} : (a++List.replicate (k+1) x).set a.length y=(a++[y])++List.replicate k x:=by
 rw [List.set_append_right _ _ (zn _),Nat.sub_self,List.replicate_succ,List.set_cons_zero];simp
section
variable {cl:Nat->Call} (hcl:Sem cl)
include hcl
theorem st_index {d:Nat} {h:H} {s:List UInt8} {c:UInt8} (hd:4<=d):cl d (.fn 96) [.str s,.str [c]] h=some (.i (idxB c s 0),h):=by
 have e0:cl (d-3) (.fn 126) [.str s,.int .u8 (c.toNat:Int)] h=some (.i (idxB c s 0),h):=by
  rw [jfT hcl om (p:=jaH) rfl]
  show some (V.i (idxB ((c.toNat:Int).toNat.toUInt8) s 0),h)=_
  rw [show ((c.toNat:Int).toNat.toUInt8)=c by simp]
 have e1:cl (d-2) (.fn 102) [.str s,.int .u8 (c.toNat:Int)] h=some (.i (idxB c s 0),h):=by
  refine jam (aT hcl ?_)
  refine qx ?_
  exact ⟨rfl,rfl⟩
 have e2:cl (d-1) (.fn 119) [.str s,.str [c]] h=some (.i (idxB c s 0),h):=by
  refine jam (aT hcl ?_)
  have n0 : ¬ (([c].length:Nat):Int)=0:=by simp
  have n1:(([c].length:Nat):Int)=1:=by simp
  clear e0
  repeat' (first|refine qxy ?_|(refine zsp ?_ ?_<;>intro _)|fail)
  ·next hs=>
   obtain rfl:[c]=s:=by simpa using hs
   exact ⟨by simp [idxB],rfl⟩
  ·exact ⟨rfl,rfl⟩
 refine jam (aT hcl ?_)
 clear e0 e1
 refine qx ?_
 exact ⟨rfl,rfl⟩
theorem st_count {d:Nat} {h:H} {s:List UInt8} {c:UInt8} (hd:2<=d):cl d (.fn 128) [.str s,.str [c]] h=some (.i (cntB c s:Int),h):=by
 have e0:cl (d-1) (.fn 153) [.str s,.int .u8 (c.toNat:Int)] h=some (.i (cntB c s:Int),h):=by
  rw [jfT hcl om (p:=jeK) rfl]
  show some (V.i (cntB ((c.toNat:Int).toNat.toUInt8) s:Int),h)=_
  rw [show ((c.toNat:Int).toNat.toUInt8)=c by simp]
 refine jam (aT hcl ?_)
 have n0 : ¬ (([c].length:Nat):Int)=0:=by simp
 have n1:(([c].length:Nat):Int)=1:=by simp
 refine qx ?_
 exact ⟨rfl,rfl⟩
theorem jhO {d:Nat} {h:H} {s:List UInt8} {c:UInt8} (hd:5<=d) (hs:s.length<=40000000) (hc0:cntB c s<=50000) : ∃ v h',cl d (.fn 103) [.str s,.str [c],.i 0,.i (-1)] h=some (v,h')/\Old h h'/\WN h h' v (jae c s):=by
 have hle:=jc7 c s
 have hN:=jaG c s
 have e0:=st_count hcl (d:=d-1) (h:=h) (s:=s) (c:=c) om
 have n1 : ¬ ([c]=([]:List UInt8)):=by simp
 have lc:((([c]:List UInt8).length:Nat):Int)=1:=by simp
 refine aT hcl ?_
 obtain ⟨C4,hC4⟩ : ∃ C,C=c103_4:=⟨_,rfl⟩
 simp only [c103,c103_9,c103_8,c103_7,c103_6,c103_5,<- hC4,uF,yB,yF]
 refine qx ?_
 have hmin:min ((cntB c s:Int)+1) (((s.length:Nat):Int)+1)=((cntB c s+1:Nat):Int):=by omega
 rw [hmin]
 refine zcu (ob := .cells (List.replicate (cntB c s+1) (.str [])) false) (mk:=fun b=>.slice (some (b,0)) (cntB c s+1) (.fix (cntB c s+1))) rfl ?_ ?_
 ·have h1:(Nat.ble (cntB c s+1) (cntB c s+1)&&Nat.ble ((cntB c s+1)*16) (2 ^ 46)&&Nat.ble (cntB c s+1) (2 ^ 46))=true:=by
   simp only [zm,zH];omega
  show (bif Nat.ble (cntB c s+1) (cntB c s+1)&&Nat.ble ((cntB c s+1)*16) (2 ^ 46)&&Nat.ble (cntB c s+1) (2 ^ 46) then _ else _)=_
  rw [h1,cond_true]
  have h2:(List.replicate (cntB c s+1) [V.str []]).flatten=List.replicate (cntB c s+1) (V.str []):=by
   generalize cntB c s+1=k
   induction k with
   | zero=>rfl
   | succ k ih=>rw [List.replicate_succ,zM,ih,List.replicate_succ];rfl
  rw [h2]
 refine qx ?_
 rw [hC4]
 clear hC4 C4 e0
 obtain ⟨C3,hC3⟩ : ∃ C,C=c103_3:=⟨_,rfl⟩
 obtain ⟨C2,hC2⟩ : ∃ C,C=c103_2:=⟨_,rfl⟩
 simp only [c103_4,<- hC3,<- hC2,yC]
 refine qx ?_
 refine zW (fun m e g=>∃ (dn:List (List UInt8)) (s1:List UInt8),m=cntB c s1/\jae c s=dn++jae c s1/\s1.length<=40000000/\e=[(0,.str s1),(1,.str [c]),(2,.i 0),(3,.i (cntB c s:Int)),(9,.slice (some (h.nx,0)) (cntB c s+1) (.fix (cntB c s+1))),(10,.i (dn.length:Int))]/\Old h g/\h.nx<g.nx/\g.get h.nx=some (.cells (strs dn++List.replicate (cntB c s1+1) (.str [])) false))
  (k:=cntB c s) Ze ⟨[],s,rfl,rfl,hs,?_,(zX h).new,by simp,jac _⟩ ?_
 ·show _=_
  have:((cntB c s+1:Nat):Int)-1=(cntB c s:Int):=by omega
  rw [this];rfl
 rintro _ _ g ⟨dn,s1,rfl,hsp,hs1,rfl,old,hlt,hg⟩ f ih
 have hl1:=jaG c s1
 have hdn:dn.length+cntB c s1=cntB c s:=by
  have:=congrArg List.length hsp
  simp only [ze] at this
  omega
 by_cases hz:cntB c s1=0
 case pos=>
  have e1:jae c s1=[s1]:=jb6 (jdy hz)
  rw [hz] at hg
  have hst:(strs dn++List.replicate (0+1) (V.str []))[0+((dn.length:Nat):Int).toNat*1]?=some (.str []):=by simp
  clear ih
  refine qx ?_
  subst hC3
  clear hC2
  refine qx ?_
  refine zcs rfl rfl rfl hg Zd ?_
  refine qx ?_
  have hlen:((dn.length:Nat):Int)+1=((dn.length+1:Nat):Int):=by omega
  rw [hlen]
  refine Ops.slice_h (sz:=1) rfl rfl om (zn _) ?_
  rw [show dn.length+1=(jae c s).length by omega,show cntB c s+1=(jae c s).length by omega]
  refine qx ?_
  have hcl2:(strs dn++List.replicate (0+1) (V.str [])).set (0+((dn.length:Nat):Int).toNat*1) (.str s1)=strs (jae c s):=by
   rw [hsp,e1,show (0+((dn.length:Nat):Int).toNat*1)=(strs dn).length by simp,jjS]
   simp
  refine ⟨old.set (zn _),h.nx,zn _,by simpa using hlt,rfl,?_⟩
  rw [hcl2]
  exact jab _
 obtain ⟨w,r,rfl,hw,hi,hc⟩:=jcC (Nat.pos_of_ne_zero hz)
 have e0:=st_index hcl (d:=d-1) (h:=g) (s:=w++c :: r) (c:=c) om
 rw [hi] at e0
 have hl2:(dn.length:Int)<(cntB c s:Int):=by omega
 have hl3 : ¬ ((w.length:Nat):Int)<0:=by omega
 have hl4:dn.length<cntB c s+1:=by omega
 have hw1:w.length+r.length+1<=40000000:=by simp at hs1;omega
 clear hC3
 subst hC2
 refine qx ?_
 rw [show ((w.length:Nat):Int)+0=((w.length:Nat):Int) by omega]
 refine Ops.strTo rfl rfl Zd ?_
 refine qx ?_
 refine zcs rfl rfl rfl hg Zd ?_
 refine qx ?_
 rw [show ((w.length:Nat):Int)+(([c].length:Nat):Int)=((w.length+1:Nat):Int) by simp]
 refine Ops.strFrom rfl rfl Zd ?_
 refine qx ?_
 have ht:(w++c :: r).take w.length=w:=List.take_left' rfl
 have hdr:(w++c :: r).drop (w.length+1)=r:=by
  rw [<- List.drop_drop,List.drop_left' rfl];rfl
 have hcl2:(strs dn++List.replicate (cntB c (w++c :: r)+1) (V.str [])).set (0+((dn.length:Nat):Int).toNat*1) (.str w)=strs (dn++[w])++List.replicate (cntB c r+1) (.str []):=by
  rw [show (0+((dn.length:Nat):Int).toNat*1)=(strs dn).length by simp,hc,jjS]
  simp
 rw [ht,hdr,hcl2]
 refine ih (cntB c r) om _ _ ⟨dn++[w],r,rfl,by rw [hsp,jbq hw,List.append_assoc];rfl,by omega,?_,old.set (zn _),by simpa using hlt,jab _⟩
 rw [show ((dn++[w]).length:Int)=(dn.length:Int)+1 by simp]
theorem jiz {d:Nat} {h:H} {s:List UInt8} {c:UInt8} (hd:6<=d) (hs:s.length<=40000000) (hc0:cntB c s<=50000) : ∃ v h',cl d (.fn 73) [.str s,.str [c]] h=some (v,h')/\Old h h'/\WN h h' v (jae c s):=by
 obtain ⟨v,h1,e1,q⟩:=jhO hcl (d:=d-1) (h:=h) (c:=c) om hs hc0
 refine aT hcl ?_
 refine qx ?_
 exact q
end
abbrev errT:Nat:=171
abbrev gS:Nat:=3
abbrev gR:Nat:=4
abbrev gW:Nat:=0
def lowB:Bool:=(List.range 256).all fun k=>match jbM .or .u8 (k:Int) 32 with
 | some (.int .u8 n)=>n == (((UInt8.ofNat k ||| 32).toNat:Nat):Int)
 | _=>false
theorem lowB_ok:lowB=true:=by kernel_rfl
theorem low_or (c:UInt8):jbM .or .u8 (c.toNat:Int) 32=some (.int .u8 ((c ||| 32).toNat:Int)):=by
 have hc:=c.toNat_lt
 have h:=zJ.1 lowB_ok c.toNat (List.mem_range.2 hc)
 rw [UInt8.ofNat_toNat] at h
 split at h
 ·next n e=>rw [e];simp only [beq_iff_eq] at h;rw [h]
 ·cases h
def errV:Nat->V
 | 0=>.nili
 | k+1=>.iface errT (.i ((k+1:Nat):Int))
theorem digV_le (c:UInt8):digV c<36\/digV c=255:=by
 have:=(c ||| 32).toNat_lt
 unfold digV
 (repeat' split)<;>omega
section
variable {cl:Nat->Call} (hcl:Sem cl) {d:Nat}
include hcl
theorem pu_low {c:UInt8} {h:H} (hd:1<=d):cl d (.fn 129) [.int .u8 (c.toNat:Int)] h=some (.int .u8 ((c ||| 32).toNat:Int),h):=by
 refine jam (aT hcl ?_)
 refine Run.seq (zac ?_)
 refine qx ?_
 exact ⟨Option.some.inj (low_or c) ▸ rfl,rfl⟩
theorem pu_dig {K:List Fr} {Q:Post} {h:H} {c:UInt8} {b1 b9 b10 b11 b13 b99 b100 b101:V} (hd:1<=d)
  (T:digV c<36->End (cl d) fuel K .normal [(1,b1),(8,.bool false),(9,b9),(10,b10),(11,b11),(12,.bool false),(13,b13),(16,.int .u8 (digV c:Int)),(99,b99),(100,b100),(101,b101)] h Q)
  (T2:digV c=255->End (cl d) fuel K .ret [(6,.int .u64 0),(7,errV 2)] h Q) :
  Run (cl d) fuel c104_7 K [(1,b1),(8,.bool false),(9,b9),(10,b10),(11,b11),(12,.bool false),(13,b13),(15,.int .u8 (c.toNat:Int)),(99,b99),(100,b100),(101,b101)] h Q:=by
 have hc:=c.toNat_lt
 have hl:=(c ||| 32).toNat_lt
 obtain ⟨C6,hC6⟩ : ∃ C,C=c104_6:=⟨_,rfl⟩
 have key : ∀ sbe:Env,Run (cl d) fuel C6 K ((1,b1) :: (8,.bool false) :: (9,b9) :: (10,b10) :: (11,b11) :: (12,.bool false) :: (13,b13) :: (15,.int .u8 (c.toNat:Int)) :: (99,b99) :: (100,b100) :: (101,b101) :: sbe) h Q:=by
  intro sbe
  have e1:=pu_low hcl (d:=d) (c:=c) (h:=h) hd
  subst hC6
  obtain ⟨C5,hC5⟩ : ∃ C,C=c104_5:=⟨_,rfl⟩
  have k5 : ¬ (48<=c.toNat/\c.toNat<=57) -> ∀ sbe:Env,Run (cl d) fuel C5 K ((1,b1) :: (8,.bool false) :: (9,b9) :: (10,b10) :: (11,b11) :: (12,.bool false) :: (13,b13) :: (15,.int .u8 (c.toNat:Int)) :: (99,b99) :: (100,b100) :: (101,b101) :: sbe) h Q:=by
   intro hn sbe
   subst hC5
   simp only [c104_5,c104_4,uF,yK]
   by_cases h1:97<=(c ||| 32).toNat
   ·by_cases h2:(c ||| 32).toNat<=122
    ·have hv:digV c=(c ||| 32).toNat-87:=by rw [digV,zt hn,zw ⟨h1,h2⟩]
     have T:=T om
     rw [hv] at T
     have e2:IntKind.u8.wrap (IntKind.u8.wrap (((c ||| 32).toNat:Int)-97)+10)=(((c ||| 32).toNat-87:Nat):Int):=by
      rw [IntKind.wrap_u8,IntKind.wrap_u8];omega
     clear T2
     refine qx ?_
     rw [e2]
     exact T
    ·have hv:digV c=255:=by rw [digV,zt hn,zt om]
     have T2:=T2 hv
     clear T
     refine qx ?_
     exact T2
   ·have hv:digV c=255:=by rw [digV,zt hn,zt om]
    have T2:=T2 hv
    clear T
    refine qx ?_
    exact T2
  simp only [c104_6,<- hC5,yL]
  by_cases h1:48<=c.toNat
  ·by_cases h2:c.toNat<=57
   ·have hv:digV c=c.toNat-48:=by rw [digV,zw ⟨h1,h2⟩]
    have T:=T om
    rw [hv] at T
    have e2:IntKind.u8.wrap ((c.toNat:Int)-48)=((c.toNat-48:Nat):Int):=by rw [IntKind.wrap_u8];omega
    clear T2 k5 e1
    refine qx ?_
    rw [e2]
    exact T
   ·have k5:=k5 om
    clear T2 T e1
    refine qx ?_
    exact k5 _
  ·have k5:=k5 om
   clear T2 T e1
   refine qx ?_
   exact k5 _
 simp only [c104_7,<- hC6,yH]
 clear T T2
 by_cases h1:(c.toNat:Int)=95
 ·refine qx ?_
  exact key _
 ·refine qx ?_
  exact key _
theorem jjZ {h:H} {s s0:List UInt8} {base cut mx:Nat} (hd:1<=d) (hb:base<=36) (hc : ∀ n:Nat,n<cut->n*base<=18446744073709551615) (hcm:cut<=18446744073709551615) (hm:mx<=18446744073709551615) (hs:s.length<=50000) :
  Run (cl d) fuel c104_12 [] [(0,.str s),(1,.i (base:Int)),(8,.bool false),(9,.str s0),(10,.int .u64 (cut:Int)),(11,.int .u64 (mx:Int)),(12,.bool false),(13,.int .u64 0)] h
   (Fin c104.res fun v h'=>v = .tup [.int .u64 ((puN base cut mx s 0).1:Int),errV (puN base cut mx s 0).2]/\Old h h'):=by
 obtain ⟨C9,hC9⟩ : ∃ C,C=c104_9:=⟨_,rfl⟩
 obtain ⟨C11,hC11⟩ : ∃ C,C=c104_11:=⟨_,rfl⟩
 simp only [c104_12,c104_10,<- hC9,<- hC11,yB,yN]
 refine qx ?_
 refine zcu (ob := .cells (bts s) false) (mk:=fun b=>.slice (some (b,0)) s.length (.grow 1)) rfl ?_ ?_
 ·have h1:Nat.ble s.length (2 ^ 46)=true:=Nat.ble_eq_true_of_le om
  show (bif Nat.ble s.length (2 ^ 46) then _ else _)=_
  rw [h1];rfl
 have hg:=jac (h:=h) (.cells (bts s) false)
 have hold:=(zX h).new (o := .cells (bts s) false)
 generalize hG:h.new (.cells (bts s) false)=G at hg hold
 clear hG
 generalize hR:puN base cut mx s 0=R
 refine qx ?_
 refine zW (fun m e g=>∃ (i n:Nat),m=s.length-i/\i<=s.length/\n<=18446744073709551615/\e=[(1,.i (base:Int)),(8,.bool false),(9,.str s0),(10,.int .u64 (cut:Int)),(11,.int .u64 (mx:Int)),(12,.bool false),(13,.int .u64 (n:Int)),(99,.slice (some (h.nx,0)) s.length (.grow 1)),(100,.i (s.length:Int)),(101,.i (i:Int))]/\g=G/\puN base cut mx (s.drop i) n=R)
  (k:=s.length) Ze ⟨0,0,by omega,by omega,by omega,rfl,rfl,hR⟩ ?_
 clear hR
 rintro _ _ g ⟨i,n,rfl,hi,hn,rfl,rfl,hR⟩ f ih
 by_cases hlt:i<s.length
 case neg=>
  obtain rfl:i=s.length:=by omega
  rw [List.drop_length,puN] at hR
  subst hR
  clear ih
  refine qx ?_
  rw [hC11]
  clear hC11
  refine qx ?_
  exact ⟨rfl,hold⟩
 obtain ⟨c,hcs⟩ : ∃ c,s[i]?=some c:=⟨_,za hlt⟩
 have hq:(bts s)[0+(i:Int).toNat*1]?=some (.int .u8 (c.toNat:Int)):=by
  rw [zG,Nat.mul_one,zq,bts,List.getElem?_map,hcs];rfl
 have hdr:s.drop i=c :: s.drop (i+1):=by
  rw [List.drop_eq_getElem_cons hlt]
  congr 1
  rw [za hlt] at hcs
  exact Option.some.inj hcs
 rw [hdr,puN] at hR
 have hi1:(i:Int)+1=((i+1:Nat):Int):=by omega
 have hb8:IntKind.u8.wrap (base:Int)=(base:Int):=by rw [IntKind.wrap_u8];omega
 have hb64:IntKind.u64.wrap (base:Int)=(base:Int):=by rw [IntKind.wrap_u64];omega
 have hdle:=digV_le c
 obtain ⟨C7,hC7⟩ : ∃ C,C=c104_7:=⟨_,rfl⟩
 obtain ⟨C8,hC8⟩ : ∃ C,C=c104_8:=⟨_,rfl⟩
 rw [hC9] at ih ⊢
 simp only [c104_9,<- hC7,<- hC8,yC] at ih ⊢
 clear hC11
 refine qx ?_
 rw [hC7] at ih ⊢
 refine pu_dig hcl hd (fun h36=>?_) fun h255=>?_
 case refine_2=>
  rw [zw om] at hR
  subst hR
  clear ih
  refine qx ?_
  exact ⟨rfl,hold⟩
 clear hC7
 generalize hdg:digV c=dv at hR h36 ⊢
 have hd64:IntKind.u64.wrap (dv:Int)=(dv:Int):=by rw [IntKind.wrap_u64];omega
 refine qx ?_
 subst hC8
 by_cases g1:base<=dv
 ·rw [zw g1] at hR
  subst hR
  clear ih
  have g1':(base:Int)<=(dv:Int):=by omega
  refine qx ?_
  exact ⟨rfl,hold⟩
 rw [zt g1] at hR
 have g1' : ¬ (base:Int)<=(dv:Int):=by omega
 by_cases g2:cut<=n
 ·rw [zw g2] at hR
  subst hR
  clear ih
  have g2':(cut:Int)<=(n:Int):=by omega
  refine qx ?_
  exact ⟨rfl,hold⟩
 rw [zt g2] at hR
 have g2' : ¬ (cut:Int)<=(n:Int):=by omega
 have hnb:=hc n om
 have hnb64:IntKind.u64.wrap ((n:Int)*IntKind.u64.wrap (base:Int))=((n*base:Nat):Int):=by
  rw [hb64,IntKind.wrap_u64,<- Int.natCast_mul];omega
 generalize hp:n*base=p at hnb hnb64 hR
 by_cases g3:mx<p+dv
 ·rw [zw g3] at hR
  subst hR
  clear ih
  by_cases ho:p+dv<=18446744073709551615
  ·have q2:(mx:Int)<(p:Int)+(dv:Int):=by omega
   refine qx ?_
   exact ⟨rfl,hold⟩
  ·have hw:IntKind.u64.wrap (IntKind.u64.wrap ((n:Int)*IntKind.u64.wrap (base:Int))+IntKind.u64.wrap (dv:Int))=(p:Int)+(dv:Int)-18446744073709551616:=by rw [hnb64,hd64,IntKind.wrap_u64];omega
   have q1:(p:Int)+(dv:Int)-18446744073709551616<(p:Int):=by omega
   refine qx ?_
   exact ⟨rfl,hold⟩
 ·rw [zt g3] at hR
  have q0:p+dv<=18446744073709551615:=by omega
  have q1 : ¬ (p:Int)+(dv:Int)<(p:Int):=by omega
  have q2 : ¬ (mx:Int)<(p:Int)+(dv:Int):=by omega
  refine qx ?_
  rw [hi1,hnb64,hd64]
  exact ih (s.length-(i+1)) om _ _ ⟨i+1,p+dv,rfl,by omega,q0,rfl,rfl,hR⟩
end
structure Gv (h:H):Prop where
 pw:Pw h
 lS:gS<h.nx
 lR:gR<h.nx
 lW:gW<h.nx
 eS:jaR gS h=true
 eR:jaR gR h=true
 wd : ∃ ro,h.get gW=some (.cells (strs jcS) ro)
theorem jeu {g:Nat} {h h':H} (e:h'.get g=h.get g) (k:jaR g h=true):jaR g h'=true:=by unfold jaR at k ⊢;rw [e];exact k
theorem Gv.old {h h':H} (a:Gv h) (o:Old h h'):Gv h' where
 pw:=a.pw.old o
 lS:=zo a.lS o.1
 lR:=zo a.lR o.1
 lW:=zo a.lW o.1
 eS:=jeu (o.2 _ a.lS) a.eS
 eR:=jeu (o.2 _ a.lR) a.eR
 wd:=by obtain ⟨ro,e⟩:=a.wd;exact ⟨ro,by rw [o.2 _ a.lW,e]⟩
theorem Old.trans' {h k g:H} (a:Old h k) (hx:k.nx<=g.nx) (hk : ∀ j,j<h.nx->g.get j=k.get j):Old h g:=⟨zu a.1 hx,fun j hj=>by rw [hk j hj,a.2 j hj]⟩
theorem jka (base cut mx:Nat) : ∀ (s:List UInt8) (n:Nat),(puN base cut mx s n).2=0\/(puN base cut mx s n).2=1\/(puN base cut mx s n).2=2
 | [],n=>.inl rfl
 | c :: r,n=>by
  unfold puN
  split
  ·exact .inr (.inr rfl)
  ·split
   ·exact .inr (.inl rfl)
   ·split
    ·exact .inr (.inl rfl)
    ·exact jka base cut mx r _
theorem puS_err (base cut mx:Nat) (s:List UInt8):(puS base cut mx s).2=0\/(puS base cut mx s).2=1\/(puS base cut mx s).2=2:=by
 unfold puS
 split
 ·exact .inr (.inr rfl)
 ·exact jka base cut mx s 0
def PuB (base bits cut mx:Nat):Prop:=(base=10/\bits=64/\cut=1844674407370955162/\mx=18446744073709551615)\/(base=16/\bits=8/\cut=1152921504606846976/\mx=255)
theorem jia {u:Nat} (hu:u<18446744073709551616) : ∀ r,Lib.parseUint10 0 (dec u++r)=Lib.parseUint10 u r:=by
 induction u using Nat.strongRecOn with
 | _ u ih=>
  have key : ∀ k,k<10->(UInt8.ofNat (48+k)).toNat=48+k:=fun k hk=>by simp;omega
  intro r
  by_cases h:u<10
  ·rw [jdU h,List.singleton_append,Lib.parseUint10,key u h,zw om,zt om,zt om]
   congr 1;omega
  ·rw [jeZ h hu,List.append_assoc,ih (u/10) om om,List.singleton_append,Lib.parseUint10,key _ om,zw om,zt om,zt om]
   congr 1;omega
theorem jev {u:Nat} (hu:u<9223372036854775808):Lib.atoiAll (dec u) = .ok (u:Int):=by
 have hd:=jkt (u:=u) om
 have hp:=jia (u:=u) om []
 rw [List.append_nil] at hp
 cases hc:dec u with
 | nil=>exact zC hc (jkQ om)
 | cons c r=>
  have h1:=hd c (by rw [hc];simp)
  rw [hc] at hp
  rw [Lib.atoiAll_plain c r om om,Lib.parseMag,zt Zd,hp]
  simp only [Lib.parseUint10,Lib.signless]
  rw [zt om]
section
variable {cl:Nat->Call} (hcl:Sem cl) {d:Nat}
include hcl
theorem pu_int {h:H} {s:List UInt8} {base bits cut mx:Nat} (hb:PuB base bits cut mx) (hd:2<=d) (hs:s.length<=50000) :
  ∃ h',cl d (.fn 104) [.str s,.i (base:Int),.i (bits:Int)] h=some (.tup [.int .u64 ((puS base cut mx s).1:Int),errV (puS base cut mx s).2],h')/\Old h h':=by
 refine ja5 (aT hcl ?_)
 by_cases h0:s=[]
 ·subst h0
  rcases hb with ⟨rfl,rfl,rfl,rfl⟩ | ⟨rfl,rfl,rfl,rfl⟩
  all_goals
   repeat' (first|refine qxy ?_|(refine zsp ?_ ?_<;>intro _)|fail)
   exact ⟨rfl,zX h⟩
 have hne:(s == ([]:List UInt8))=false:=by
  cases s with
  | nil=>exact zC rfl h0
  | cons a l=>rfl
 rw [puS,zt h0]
 obtain ⟨C12,hC12⟩ : ∃ C,C=c104_12:=⟨_,rfl⟩
 rcases hb with ⟨rfl,rfl,rfl,rfl⟩ | ⟨rfl,rfl,rfl,rfl⟩
 ·have T:=jjZ hcl (d:=d-1) (h:=h) (s:=s) (s0:=s) (base:=10) (cut:=1844674407370955162) (mx:=18446744073709551615) om om (fun n hn=>by omega) om om hs
  rw [<- hC12] at T
  simp only [c104,c104_26,c104_25,c104_17,c104_15,<- hC12,uF,yF,yH,yN]
  refine qx ?_
  exact T
 ·have T:=jjZ hcl (d:=d-1) (h:=h) (s:=s) (s0:=s) (base:=16) (cut:=1152921504606846976) (mx:=255) om om (fun n hn=>by omega) om om hs
  rw [<- hC12] at T
  simp only [c104,c104_26,c104_25,c104_17,c104_15,<- hC12,uF,yF,yH,yN]
  refine qx ?_
  exact T
theorem jkI {h:H} {s:List UInt8} {base bits cut mx:Nat} (g:Gv h) (hb:PuB base bits cut mx) (hd:3<=d) (hs:s.length<=50000) :
  ∃ h',cl d (.fn 74) [.str s,.i (base:Int),.i (bits:Int)] h=some (.tup [.int .u64 ((puS base cut mx s).1:Int),if (puS base cut mx s).2=0 then .nili else .ifc],h')/\Old h h':=by
 obtain ⟨h1,e1,o1⟩:=pu_int hcl (d:=d-1) (h:=h) hb om hs
 have g1:=g.old o1
 have hp:=puS_err base cut mx s
 generalize puS base cut mx s=R at e1 hp ⊢
 obtain ⟨n,k⟩:=R
 have eT : ∀ j:Nat,(j=1\/j=2)->cl (d-1) (.fn 105) [.str [80,97,114,115,101,85,105,110,116],.str s,.i (base:Int),.i (bits:Int),.iface errT (.i (j:Int))] h1=some (.ifc,h1):=by
  intro j hj
  rw [jfT hcl om (p:=jdp gS gR errT) rfl]
  have hl:Nat.ble s.length 140737488355328=true:=Nat.ble_eq_true_of_le om
  have e2:=g1.eS
  have e3:=g1.eR
  rcases hj with rfl | rfl
  ·show (bif Nat.beq errT errT&&Nat.ble s.length 140737488355328 then (bif Nat.beq 1 2 then (bif jaR gS h1 then some (V.ifc,h1) else none) else bif Nat.beq 1 1 then (bif jaR gR h1 then some (V.ifc,h1) else none) else none) else none)=_
   rw [hl,e3];rfl
  ·show (bif Nat.beq errT errT&&Nat.ble s.length 140737488355328 then (bif Nat.beq 2 2 then (bif jaR gS h1 then some (V.ifc,h1) else none) else _) else none)=_
   rw [hl,e2];rfl
 refine ja5 (aT hcl ?_)
 simp only at hp e1
 rcases hp with rfl | rfl | rfl
 ·refine qx ?_
  exact ⟨rfl,o1⟩
 ·have e2:=eT 1 (.inl rfl)
  clear eT
  refine qx ?_
  exact ⟨rfl,o1⟩
 ·have e2:=eT 2 (.inr rfl)
  clear eT
  refine qx ?_
  exact ⟨rfl,o1⟩
theorem je7 {h:H} {s:List UInt8} (g:Gv h) (hd:2<=d) (hs:s.length<=50000) :
  ∃ n:Int,cl d (.fn 75) [.str s] h=some (.tup [.i n,.bool (numP s).isSome],h) /\ ∀ n',numP s=some n'->n=n':=by
 have hl:Nat.ble s.length 140737488355328=true:=Nat.ble_eq_true_of_le om
 have e0:cl (d-1) (.fn 106) [.str s] h=jeL gS gR [.str s] h:=jfT hcl om rfl
 have e1:jeL gS gR [.str s] h=(match Lib.atoiAll s with
   | .ok v=>some (.tup [.i v,.nili],h)
   | .syntax=>bif jaR gS h then some (.tup [.i 0,.ifc],h) else none
   | .range=>bif jaR gR h then some (.tup [.i (Lib.atoiSat s),.ifc],h) else none):=by
  show (bif Nat.ble s.length 140737488355328 then _ else _)=_
  rw [hl,cond_true]
  cases Lib.atoiAll s<;>rfl
 rw [e1] at e0
 clear e1
 have bad:(∀ v,Lib.atoiAll s ≠ .ok v)->numP s=none:=fun h=>by
  cases hn:numP s with
  | none=>rfl
  | some n=>
   obtain ⟨h1,h2,h3⟩:=jbS hn
   have:=jev (u:=n.toNat) om
   rw [h3] at this
   exact zC this (h _)
 have call : ∀ (n:Int) (b:Bool),(∃ v' h',cl d (.fn 75) [.str s] h=some (v',h')/\v' = .tup [.i n,.bool b]/\h'=h)->cl d (.fn 75) [.str s] h=some (.tup [.i n,.bool b],h):=fun _ _ k=>jam k
 split at e0
 ·next v hv=>
  by_cases hneg:0<=v
  ·have hbd:=Lib.atoiAll_bounds hv
   have e2:=jfE hcl (d:=d-1) (u:=v.toNat) (h:=h) om om g.pw
   rw [Int.toNat_of_nonneg hneg] at e2
   refine ⟨v,call _ _ (aT hcl ?_),fun n' hn=>?_⟩
   ·have hS:(numP s).isSome=(dec v.toNat == s):=by
     by_cases hd2:dec v.toNat=s
     ·have h1:=jep (u:=v.toNat) om
      rw [hd2] at h1
      rw [h1,hd2];simp
     ·have:numP s=none:=by
       cases hn:numP s with
       | none=>rfl
       | some n=>
        obtain ⟨h1,h2,h3⟩:=jbS hn
        have:=jev (u:=n.toNat) om
        rw [h3,hv] at this
        injection this with this
        rw [this,zq] at hd2
        exact zC h3 hd2
      rw [this];simp [hd2]
    rw [hS]
    refine qx ?_
    exact ⟨rfl,rfl⟩
   ·obtain ⟨h1,h2,h3⟩:=jbS hn
    have:=jev (u:=n'.toNat) om
    rw [h3,hv] at this
    injection this with this
    omega
  ·have hn0:numP s=none:=by
    cases hn:numP s with
    | none=>rfl
    | some n=>
     obtain ⟨h1,h2,h3⟩:=jbS hn
     have:=jev (u:=n.toNat) om
     rw [h3,hv] at this
     injection this with this
     omega
   rw [hn0]
   refine ⟨v,call _ _ (aT hcl ?_),fun n' hn=>by cases hn⟩
   refine qx ?_
   exact ⟨rfl,rfl⟩
 ·next hv=>
  have hn0:=bad (fun v e=>by rw [hv] at e;cases e)
  rw [hn0]
  rw [g.eS,cond_true] at e0
  refine ⟨0,call _ _ (aT hcl ?_),fun n' hn=>by cases hn⟩
  refine qx ?_
  exact ⟨rfl,rfl⟩
 ·next hv=>
  have hn0:=bad (fun v e=>by rw [hv] at e;cases e)
  rw [hn0]
  rw [g.eR,cond_true] at e0
  refine ⟨Lib.atoiSat s,call _ _ (aT hcl ?_),fun n' hn=>by cases hn⟩
  refine qx ?_
  exact ⟨rfl,rfl⟩
theorem st_bytes {h:H} {s:List UInt8} (g:Gv h) (hd:4<=d) (hs:s.length<=50000) :
  ∃ v h',cl d (.fn 108) [.str s] h=some (.tup [v,.bool (bytS s).isSome],h')/\Old h h'/\v.one=true /\ ∀ D,bytS s=some D->VB h' v D /\ ∀ z,v.at?=some z->h.nx<=z:=by
 suffices q : ∃ w h',cl d (.fn 108) [.str s] h=some (w,h') /\ ∃ v,w = .tup [v,.bool (bytS s).isSome]/\Old h h'/\v.one=true /\ ∀ D,bytS s=some D->VB h' v D /\ ∀ z,v.at?=some z->h.nx<=z by
  obtain ⟨w,h',e,v,rfl,q⟩:=q
  exact ⟨v,h',e,q⟩
 refine aT hcl ?_
 generalize hR:bytS s=R
 obtain ⟨C1,hC1⟩ : ∃ C,C=c108_1:=⟨_,rfl⟩
 simp only [c108,c108_2,<- hC1,yB,yF]
 refine qx ?_
 refine zW (fun m e k=>∃ (s1 out:List UInt8) (sv:V),m=s1.length/\s1.length+2*out.length<=50000/\e=[(0,.str s1),(4,sv)]/\Row h.nx k 1 sv out.length (bts out)/\Old h k/\(bytS s1).map (out ++ ·)=R)
  (k:=s.length) Ze ⟨s,[],.nils,rfl,by simpa using hs,rfl,Row.nil _ _ _,zX h,by rw [hR];cases R<;>rfl⟩ ?_
 clear hR
 rintro _ _ k ⟨s1,out,sv,rfl,hl,rfl,row,old,hR⟩ f ih
 have hone:sv.one=true:=by
  rcases row with ⟨_,_,rfl⟩ | ⟨q,_,_,rfl,_⟩<;>rfl
 match s1,hl,hR,ih with
 | [],hl,hR,ih=>
  obtain rfl:some out=R:=by rw [<- hR];simp [bytS]
  clear ih
  refine qx ?_
  refine ⟨_,rfl,old,hone,fun D hD=>?_⟩
  cases hD
  exact ⟨(VB.ofRow row).1,fun z hz=>((VB.ofRow row).2 z hz).1⟩
 | [a],hl,hR,ih=>
  obtain rfl:none=R:=by rw [<- hR];simp [bytS]
  clear ih
  have h1 : ¬ (1:Int)<(([a].length:Nat):Int):=by simp
  refine qx ?_
  exact ⟨_,rfl,old,hone,fun D hD=>by cases hD⟩
 | a :: b :: r,hl,hR,ih=>
  have h1:(1:Int)<(((a :: b :: r).length:Nat):Int):=by simp;omega
  have gk:=g.old old
  obtain ⟨k1,e1,o1⟩:=jkI hcl (d:=d-1) (h:=k) (s:=[a,b]) (base:=16) (bits:=8) (cut:=1152921504606846976) (mx:=255) gk (.inr ⟨rfl,rfl,rfl,rfl⟩) om Zd
  have e1:cl (d-1) (.fn 74) [.str [a,b],.i 16,.i 8] k=some (.tup [.int .u64 ((puS 16 1152921504606846976 255 [a,b]).1:Int),if (puS 16 1152921504606846976 255 [a,b]).2=0 then .nili else .ifc],k1):=e1
  have hp:puS 16 1152921504606846976 255 [a,b]=puN 16 1152921504606846976 255 [a,b] 0:=rfl
  rw [hp] at e1
  rw [bytS] at hR
  generalize puN 16 1152921504606846976 255 [a,b] 0=p at e1 hR
  obtain ⟨n,er⟩:=p
  simp only at e1 hR
  subst hC1
  clear hp
  by_cases h0:er=0
  ·subst h0
   rw [zw rfl] at e1
   refine qx ?_
   have row1:=row.keep o1.1 fun q hq=>o1.2 q (row.at_ge hq).2
   have hw:IntKind.u8.wrap (n:Int)=((UInt8.ofNat n).toNat:Int):=by rw [IntKind.wrap_u8];simp
   rw [hw]
   refine Ops.push (N:=h.nx) (new:=[.int .u8 ((UInt8.ofNat n).toNat:Int)]) rfl rfl rfl rfl om rfl rfl row1 (zu old.1 o1.1) (by simp at hl;omega) (by simp at hl;omega) fun v2 g2 row' hx' hz' hk'=>?_
   refine qx ?_
   have hb:bts out++[V.int .u8 ((UInt8.ofNat n).toNat:Int)]=bts (out++[UInt8.ofNat n]):=by simp [bts,jbw]
   rw [hb] at row'
   have old2:Old h g2:=(old.trans o1).trans' hx' fun j hj=>hk' j (zo hj (zu old.1 o1.1)) fun e=>by have:=row1.at_ge e;omega
   refine ih r.length Zc _ _ ⟨r,out++[UInt8.ofNat n],v2,rfl,by simp at hl ⊢;omega,by rw [List.take_length];rfl,by simpa using row',old2,?_⟩
   rw [<- hR]
   cases bytS r<;>simp
  ·rw [zt h0] at e1
   obtain rfl:none=R:=by
    rw [<- hR]
    cases er with
    | zero=>exact zC rfl h0
    | succ er=>rfl
   clear ih
   refine qx ?_
   exact ⟨_,rfl,old.trans o1,rfl,fun D hD=>by cases hD⟩
end
section
variable {cl:Nat->Call} (hcl:Sem cl)
include hcl
end
section
variable {cl:Nat->Call} (hcl:Sem cl) {h h0:H} {w s:Nat} {ow:Nat->Nat} {l:List WX} {now:Int} {tb:Tb} {no:Option (Nat × Nat)} {v:V} {L:List (List UInt8)}
theorem jjJ {d N:Nat} {xs:List (List UInt8)} {t:List UInt8} (hcl:Sem cl) (hd:1<=d) (r:SR N h v xs) (hs:(Lib.join xs t).length<=100000000) (hx:xs.length<=1000):cl d (.fn 67) [v,.str t] h=some (.str (Lib.join xs t),h):=by
 obtain ⟨q,c,h1,h2,rfl,hc,hg⟩:=r
 exact w_Join hcl hd hg (by rw [zi,zf Zd]) rfl hs om
include hcl
end
theorem jg0 (c:UInt8) (w:List UInt8) (ws:List (List UInt8)):Lib.join (w :: ws) [c]=jaP c (w :: ws):=by rw [Lib.join_cons];rfl
theorem jgL {c:UInt8} {k:Nat} : ∀ {ws:List (List UInt8)},(∀ w∈ws,w.length<=k)->(jb8 c ws).length<=(k+1)*ws.length
 | [],_=>by simp [jb8]
 | w :: ws,h=>by
  have h1:=h w Zd
  have h2:=jgL (c:=c) (ws:=ws) (fun v hv=>h v (zj _ hv))
  have e:(k+1)*(w :: ws).length=(k+1)*ws.length+(k+1):=by rw [List.length_cons,Nat.mul_add,Nat.mul_one]
  rw [jdz,e]
  simp only [List.length_cons,ze]
  omega
def jfV (m:Mv) (c:UInt8):List UInt8:=if c=119 then dec m.wire.toNat else if c=110 then dec m.n.toNat else hexS m.D
theorem mvW_parts {m:Mv} (h1:1<=m.op) (h2:m.op<=7):mvW m=jax m.op :: (jap m.op).map (jfV m):=by
 unfold mvW jap
 rcases jeO h1 h2 with h | h | h | h | h | h | h<;>rw [h]<;>rfl
theorem jhi {op:Int} : ∀ c∈jap op,c=119\/c=110\/c=100:=by
 unfold jap
 (repeat' split)<;>simp
theorem SR.ne_int {N b:Nat} {h:H} {v:V} {l:List (List UInt8)} (r:SR N h v l) {k:IntKind} {n:Int} {t:List V} {ro:Bool} (hg:h.get b=some (.cells (.int k n :: t) ro)):v.at?≠some b:=by
 obtain ⟨q,c,h1,h2,rfl,hc,hg2⟩:=r
 intro e
 obtain rfl:q=b:=by simpa [V.at?] using e
 rw [hg] at hg2
 cases l with
 | nil=>cases hg2
 | cons w ws=>cases hg2
theorem SR.ne_it {N b:Nat} {h:H} {v:V} {l:List (List UInt8)} (r:SR N h v l) {s:List UInt8} {p:Nat} (hg:h.get b=some (.siter s p)):v.at?≠some b:=by
 obtain ⟨q,c,h1,h2,rfl,hc,hg2⟩:=r
 intro e
 obtain rfl:q=b:=by simpa [V.at?] using e
 rw [hg] at hg2;cases hg2
section
variable {call:Call} {fuel base:Nat} {ops:List Ins} {keep:List Nat} {K:List Fr} {e:Env} {h:H} {Q:Post} {ix:Nat} {dst at_:Option Nat}
theorem Ops.rangeS {x:Opd} {s:List UInt8} (hx:x.ev e=some (.str s)) (k:Ops call fuel base ops keep K (layv e dst (.p h.nx 0)) (h.new (.siter s 0)) Q):Ops call fuel base (⟨ix,dst,.range true x,none,at_,[]⟩ :: ops) keep K e h Q :=
 Ops.step (I.run_eff rfl (by simp only [I.eff,hx])) k
theorem Ops.nextN {x:Opd} {b p:Nat} {s:List UInt8} (hx:x.ev e=some (.p b 0)) (hg:h.get b=some (.siter s p)) (hs:s[p]?=none) (k:Ops call fuel base ops keep K (layv e dst (.tup [.bool false])) h Q):Ops call fuel base (⟨ix,dst,.next true x,none,at_,[]⟩ :: ops) keep K e h Q :=
 Ops.step (I.run_eff rfl (by simp only [I.eff,hx,hg,hs])) k
theorem Ops.nextS {x:Opd} {b p:Nat} {s:List UInt8} {c:UInt8} (hx:x.ev e=some (.p b 0)) (hg:h.get b=some (.siter s p)) (hs:s[p]?=some c) (hc:c.toNat<128) (k:Ops call fuel base ops keep K (layv e dst (.tup [.bool true,.i p,.int .i32 (c.toNat:Int)])) (h.set b (.siter s (p+1))) Q):Ops call fuel base (⟨ix,dst,.next true x,none,at_,[]⟩ :: ops) keep K e h Q:=by
 refine Ops.step (I.run_eff rfl ?_) k
 have:Nat.blt c.toNat 128=true:=by simp [Nat.blt];omega
 simp only [I.eff,hx,hg,hs,this,cond_true]
end
section
variable {cl:Nat->Call} (hcl:Sem cl) {d:Nat} {h0:H}
include hcl
theorem sm_hex {l:List UInt8} {v:V} {h:H} (hd:1<=d) (hb:VB h v l) (hl:l.length<=2000) :
  ∃ h',cl d (.fn 68) [v] h=some (.str (hexS l),h')/\Old h h':=by
 obtain ⟨a,c,rfl,hn,hf,hq⟩:=hb
 refine ja5 (aT hcl ?_)
 refine qx ?_
 refine zW (fun m e g=>∃ (i:Nat) (v:V),m=l.length-i/\i<=l.length/\e=[(3,v),(6,.slice a l.length c),(7,.i (l.length:Int)),(8,.i (i:Int))]/\Row h.nx g 1 v (2*i) (bts (hexS (l.take i)))/\Old h g)
  (k:=l.length) Ze ⟨0,.nils,by omega,by omega,rfl,Row.nil _ _ _,zX h⟩ ?_
 rintro _ _ g ⟨i,v,rfl,hi,rfl,row,old⟩ f ih
 by_cases hlt:i<l.length
 case neg=>
  obtain rfl:i=l.length:=by omega
  rw [List.take_length] at row
  refine qx ?_
  refine Ops.ofRow rfl row ?_
  refine qx ?_
  exact ⟨rfl,old⟩
 obtain ⟨q,o,cs,ro,rfl,hq1,hq2,hq4⟩:=hq (by rintro rfl;simp at hlt)
 have hq3:g.get q=some (.cells cs ro):=by rw [old.2 q hq1,hq2]
 obtain ⟨b,hb⟩ : ∃ b,l[i]?=some b:=⟨_,za hlt⟩
 have hb2:cs[o+(i:Int).toNat*1]?=some (.int .u8 (b.toNat:Int)):=by rw [Nat.mul_one,zq];exact hq4 i b hb
 clear hq hn hf
 refine qx ?_
 refine Run.region ?_
 refine qx ?_
 have e1:(b.toNat:Int).fdiv (2 ^ (Int.toNat 4).min IntKind.u8.bits)=((b.toNat/16:Nat):Int):=by
  show (b.toNat:Int).fdiv 16=_
  rw [Int.fdiv_eq_ediv_of_nonneg _ om];omega
 rw [e1]
 have hb256:=b.toNat_lt
 refine zY (n:=b.toNat/16) rfl rfl (jiN om) ?_
 refine qx ?_
 have e2:IntKind.u8.wrap ((BitVec.ofInt IntKind.u8.bits (b.toNat:Int) &&& BitVec.ofInt IntKind.u8.bits 15).toNat:Int)=((b.toNat%16:Nat):Int):=by
  have q1:(BitVec.ofInt IntKind.u8.bits (b.toNat:Int)).toNat=b.toNat:=by
   show (BitVec.ofInt 8 (b.toNat:Int)).toNat=b.toNat
   rw [BitVec.toNat_ofInt];omega
  have q2:(BitVec.ofInt IntKind.u8.bits 15).toNat=15:=rfl
  rw [BitVec.toNat_and,q1,q2,show (15:Nat)=2 ^ 4-1 from rfl,Nat.and_two_pow_sub_one_eq_mod,IntKind.wrap_u8]
  omega
 rw [e2]
 refine zY (n:=b.toNat%16) rfl rfl (jiN om) ?_
 refine Ops.bslice2_at (xv:=jbw (hx (b.toNat/16))) (yv:=jbw (hx (b.toNat%16))) rfl rfl rfl rfl ?_
 have row2:Row h.nx ((g.reserve 1).set (g.nx+0) (.cells [jbw (hx (b.toNat/16)),jbw (hx (b.toNat%16))] false)) 1 v (2*i) (bts (hexS (l.take i))):=by
  refine row.keep Zd fun z hz=>?_
  have:=(row.at_ge hz).2
  rw [jaa om,H.get_reserve]
 refine Ops.appendN (sb:=g.nx+0) (so:=0) (m:=2) (new:=[jbw (hx (b.toNat/16)),jbw (hx (b.toNat%16))]) rfl rfl row2 ?_ om (jab ..) Zd rfl rfl om om om fun v' h' r2 z1 z2 z3=>?_
 ·have:=old.1;simp;omega
 refine qx ?_
 refine ih (l.length-(i+1)) om _ _ ⟨i+1,v',rfl,by omega,rfl,?_,?_⟩
 ·rw [jh1 hb,show 2*(i+1)=2*i+2 by omega]
  simpa [bts] using r2
 ·refine ⟨by have:=old.1;rw [z1];simp;omega,fun j hj=>?_⟩
  rw [z3 j (by have:=old.1;simp;omega) fun e=>by have:=(row.at_ge e).1;omega]
  have:=old.1
  rw [jaa om,H.get_reserve,old.2 j hj]
def WlP (h0:H) (L:List (List UInt8)) (t:Env):Post:=fun x e h'=>x = .normal /\ ∃ sv sb,e=(3,sv) :: (t++sb)/\SR h0.nx h' sv L/\Old h0 h'
theorem wl_move {h:H} {m:Mv} {dv sv v43 v44 v45:V} {L:List (List UInt8)} {mb:Nat} {sb:Env} (gv:Gv h0) (hd:2<=d) (f:MvFit m) (o:Old h0 h) (hm1:h0.nx<=mb) (hm2:mb<h.nx) (hg:h.get mb=some (.cells (mvV m dv) false)) (hv:VB h0 dv m.D) (sr:SR h0.nx h sv L) (hL:L.length<=100000) :
  Run (cl d) fuel c32_5 [] ((3,sv) :: (8,.p mb 0) :: (43,v43) :: (44,v44) :: (45,v45) :: sb) h (WlP h0 (L++mvW m) [(8,.p mb 0),(43,v43),(44,v44),(45,v45)]):=by
 obtain ⟨⟨a1,a2,a3,a4,a5,a6,a7,a8⟩,w1,n1⟩:=f
 have gh:=gv.old o
 obtain ⟨wro,hw⟩:=gh.wd
 have hq:(strs jcS)[0+m.op.toNat*1]?=some (.str (jax m.op)):=by
  unfold jax
  rw [zt om]
  have h1:m.op.toNat<8:=by omega
  generalize m.op.toNat=k at h1
  match k,h1 with
  | 0,_=>rfl | 1,_=>rfl | 2,_=>rfl | 3,_=>rfl | 4,_=>rfl | 5,_=>rfl | 6,_=>rfl | 7,_=>rfl
 have q0:(mvV m dv)[0+0]?=some (.i m.op):=rfl
 have q1:(mvV m dv)[0+1]?=some (.i m.wire):=rfl
 have q2:(mvV m dv)[0+2]?=some (.i m.n):=rfl
 have q3:(mvV m dv)[0+3]?=some dv:=rfl
 have hmne:=sr.ne_int (b:=mb) hg
 obtain ⟨C4,hC4⟩ : ∃ C,C=c32_4:=⟨_,rfl⟩
 simp only [c32_5,<- hC4,yJ]
 refine qx ?_
 refine Ops.strP (l:=L) rfl rfl o sr om fun v2 h2 sr2 o2 hx2 hk2=>?_
 have hg2:h2.get mb=some (.cells (mvV m dv) false):=by rw [hk2 mb hm2 hmne,hg]
 have e2:=jek hcl (d:=d) (h:=h2) (op:=m.op) om
 clear hq hw hk2 hmne
 refine qx ?_
 refine Ops.rangeS rfl ?_
 have g2:=hg2
 have o3:Old h0 (h2.new (.siter (jap m.op) 0)):=o2.new
 have sr3:SR h0.nx (h2.new (.siter (jap m.op) 0)) v2 (L++[jax m.op]):=sr2.keep (zn _) ((zX h2).new)
 have hmb:mb<h2.nx:=by omega
 refine qx ?_
 have hpl:=parts_len m.op
 have hpm:=jhi (op:=m.op)
 rw [mvW_parts a1 a2]
 generalize hps:jap m.op=ps at *
 refine zW (fun k e g=>∃ (i:Nat) (sv:V) (sbe:Env),k=ps.length-i/\i<=ps.length/\e=(3,sv) :: (8,.p mb 0) :: (43,v43) :: (44,v44) :: (45,v45) :: (59,.p h2.nx 0) :: sbe/\SR h0.nx g sv ((L++[jax m.op])++(ps.take i).map (jfV m))/\Old h0 g/\h2.nx<g.nx/\g.get h2.nx=some (.siter ps i)/\g.get mb=some (.cells (mvV m dv) false))
  (k:=ps.length) Ze ⟨0,v2,[],by omega,by omega,rfl,by simpa using sr3,o3,by simp,jac _,by rw [jaj hmb,hg2]⟩ ?_
 clear sr3 o3 sr2 o2 hg2 g2 e2 hx2
 rintro _ _ g ⟨i,sv3,sbe,rfl,hi,rfl,sr3,o3,hx3,hi3,hg3⟩ f ih
 subst hC4
 have hm3:=sr3.ne_int (b:=mb) hg3
 have hi4:=sr3.ne_it hi3
 by_cases hlt:i<ps.length
 case neg=>
  have hnone:ps[i]?=none:=zc om
  rw [zf om] at sr3
  clear ih
  refine qx ?_
  refine Ops.nextN rfl hi3 hnone ?_
  refine qx ?_
  exact End.nil ⟨rfl,sv3,_,rfl,by simpa using sr3,o3⟩
 obtain ⟨c,hc⟩ : ∃ c,ps[i]?=some c:=⟨_,za hlt⟩
 have hcm:=hpm c (zb hc)
 have hc128:c.toNat<128:=by rcases hcm with rfl | rfl | rfl<;>decide
 refine qx ?_
 refine Ops.nextS rfl hi3 hc hc128 ?_
 have hb0:h0.nx<=h2.nx:=by omega
 have o4:Old h0 (g.set h2.nx (.siter ps (i+1))):=o3.set hb0
 have sr4:SR h0.nx (g.set h2.nx (.siter ps (i+1))) sv3 ((L++[jax m.op])++(ps.take i).map (jfV m)):=sr3.keep_ne (zn _) fun j hj=>jaa fun e=>hi4 (by rw [hj,e])
 have hg4:(g.set h2.nx (.siter ps (i+1))).get mb=some (.cells (mvV m dv) false):=by rw [jaa om,hg3]
 have hi5:(g.set h2.nx (.siter ps (i+1))).get h2.nx=some (.siter ps (i+1)):=jab _
 have hx5:h2.nx<(g.set h2.nx (.siter ps (i+1))).nx:=by simpa using hx3
 have ht:(ps.take (i+1)).map (jfV m)=(ps.take i).map (jfV m)++[jfV m c]:=by rw [List.take_add_one,hc];simp
 have hL5:((L++[jax m.op])++(ps.take i).map (jfV m)).length<=100100:=by simp;omega
 clear hi3 hg3 sr3 o3 hx3 hi4 hm3
 generalize g.set h2.nx (.siter ps (i+1))=G at o4 sr4 hg4 hi5 hx5 ⊢
 have gG:=gv.old o4
 have fin : ∀ v5 h5,SR h0.nx h5 v5 (((L++[jax m.op])++(ps.take i).map (jfV m))++[jfV m c])->Old h0 h5->G.nx<=h5.nx->(∀ j,j<G.nx->sv3.at?≠some j->h5.get j=G.get j) -> ∀ sbe,_:=fun v5 h5 sr5 o5 hx hk sbe=>
  ih (ps.length-(i+1)) om ((3,v5) :: (8,.p mb 0) :: (43,v43) :: (44,v44) :: (45,v45) :: (59,.p h2.nx 0) :: sbe) h5 ⟨i+1,v5,sbe,rfl,by omega,rfl,by rw [ht,<- List.append_assoc];exact sr5,o5,by omega,by rw [hk _ hx5 (sr4.ne_it hi5),hi5],by rw [hk mb om (sr4.ne_int hg4),hg4]⟩
 clear ih
 rcases hcm with rfl | rfl | rfl
 ·have e5:=jfE hcl (d:=d) (u:=m.wire.toNat) (h:=G) om om gG.pw
  rw [Int.toNat_of_nonneg a3] at e5
  have k1:((119:UInt8).toNat:Int)=119:=rfl
  refine qx ?_
  refine Ops.strP (t:=dec m.wire.toNat) rfl rfl o4 sr4 om fun v5 h5 sr5 o5 hx5' hk5=>?_
  refine qx ?_
  exact fin v5 h5 sr5 o5 om hk5 _
 ·have e5:=jfE hcl (d:=d) (u:=m.n.toNat) (h:=G) om om gG.pw
  rw [Int.toNat_of_nonneg a4] at e5
  have k1 : ¬ ((110:UInt8).toNat:Int)=119:=by decide
  have k2:((110:UInt8).toNat:Int)=110:=rfl
  refine qx ?_
  refine Ops.strP (t:=dec m.n.toNat) rfl rfl o4 sr4 om fun v5 h5 sr5 o5 hx5' hk5=>?_
  refine qx ?_
  exact fin v5 h5 sr5 o5 om hk5 _
 ·obtain ⟨G2,e5,o5'⟩:=sm_hex hcl (d:=d) (h:=G) (l:=m.D) (v:=dv) om (hv.keep2 o4.1 fun hn z hz=>o4.2 z (hv.lt hn hz)) om
  have k1 : ¬ ((100:UInt8).toNat:Int)=119:=by decide
  have k2 : ¬ ((100:UInt8).toNat:Int)=110:=by decide
  refine qx ?_
  refine Ops.strP (t:=hexS m.D) rfl rfl (o4.trans o5') (sr4.keep (zn _) o5') om fun v5 h5 sr5 o5 hx5' hk5=>?_
  refine qx ?_
  exact fin v5 h5 sr5 o5 (by have:=o5'.1;omega) (fun j hj hne=>by rw [hk5 j (zo hj o5'.1) hne,o5'.2 j hj]) _
end
end Am.Sigs
