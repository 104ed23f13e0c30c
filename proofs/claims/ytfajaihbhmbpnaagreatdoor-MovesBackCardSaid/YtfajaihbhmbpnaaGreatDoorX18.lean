/- Our own library, part 18. -/
import Derived.Test.YtfajaihbhmbpnaaGreatDoorX17
import Derived.Test.YtfajaihbhmbpnaaGreatDoorX16
set_option maxHeartbeats 8000000
set_option maxRecDepth 800
set_option linter.all false
namespace Am.Sigs
open Am Go
def jai (c:UInt8):List UInt8->List (List UInt8)
 | []=>[[]]
 | x :: r=>if x=c then [] :: jai c r else match jai c r with
  | []=>[[x]]
  | w :: ws=>(x :: w) :: ws
theorem jcQ (c:UInt8) : ∀ s,jai c s≠[]
 | []=>by simp [jai]
 | x :: r=>by
  unfold jai
  split
  ·simp
  ·split<;>simp
def jb3 (c:UInt8) (ws:List (List UInt8)):List UInt8:=(ws.map (c :: ·)).flatten
def jaN (c:UInt8):List (List UInt8)->List UInt8
 | []=>[]
 | w :: ws=>w++jb3 c ws
theorem jco (c:UInt8) (a b:List (List UInt8)):jb3 c (a++b)=jb3 c a++jb3 c b:=by simp [jb3]
theorem jdh (c:UInt8) (w:List UInt8) (ws:List (List UInt8)):jb3 c (w :: ws)=c :: (w++jb3 c ws):=by simp [jb3]
theorem jbo {c:UInt8} {s:List UInt8} : ∀ {w:List UInt8},c ∉ w->jai c (w++c :: s)=w :: jai c s
 | [],_=>by simp [jai]
 | x :: w,h=>by
  have hx:x≠c:=fun e=>h (by simp [e])
  have ih:=jbo (s:=s) (w:=w) (fun e=>h (zj _ e))
  rw [zK,jai,zt hx,ih]
theorem jbO {c:UInt8} : ∀ {w:List UInt8},c ∉ w->jai c w=[w]
 | [],_=>rfl
 | x :: w,h=>by
  have hx:x≠c:=fun e=>h (by simp [e])
  have ih:=jbO (w:=w) (fun e=>h (zj _ e))
  rw [jai,zt hx,ih]
theorem jdi {c:UInt8} : ∀ {ws:List (List UInt8)} {w:List UInt8},(∀ x∈w :: ws,c ∉ x)->jai c (jaN c (w :: ws))=w :: ws
 | [],w,h=>by
  have e:jaN c [w]=w:=by simp [jaN,jb3]
  rw [e,jbO (h w Zd)]
 | v :: ws,w,h=>by
  have ih:=jdi (ws:=ws) (w:=v) (fun x hx=>h x (zj _ hx))
  have e:jaN c (w :: v :: ws)=w++c :: jaN c (v :: ws):=by simp [jaN,jb3]
  rw [e,jbo (h w Zd),ih]
theorem join_snoc (c:UInt8) (ws:List (List UInt8)) (w v:List UInt8):jaN c (w :: ws++[v])=jaN c (w :: ws)++c :: v:=by
 simp [jaN,jb3]
theorem jjO {u:Nat} (hu:u<18446744073709551616) : ∀ b∈dec u,48<=b.toNat/\b.toNat<=57:=by
 induction u using Nat.strongRecOn with
 | _ u ih=>
  have key : ∀ k,k<10->(UInt8.ofNat (48+k)).toNat=48+k:=fun k hk=>by simp;omega
  by_cases h:u<10
  ·rw [jd9 h]
   intro b hb
   obtain rfl:=List.mem_singleton.1 hb
   rw [key u h];omega
  ·rw [jeF h hu]
   intro b hb
   rcases zF.1 hb with hb | hb
   ·exact ih (u/10) om om b hb
   ·obtain rfl:=List.mem_singleton.1 hb
    rw [key _ om];omega
theorem jkx {u:Nat} (hu:u<18446744073709551616):dec u≠[]:=by
 by_cases h:u<10
 ·rw [jd9 h];simp
 ·rw [jeF h hu];simp
def valN:List UInt8->Nat->Nat
 | [],n=>n
 | c :: r,n=>if c.toNat<48\/57<c.toNat\/n>1844674407370955161 then n else if n=1844674407370955161/\c.toNat-48>5 then n else valN r (10*n+(c.toNat-48))
theorem valN_dec {u:Nat} (hu:u<18446744073709551616) : ∀ r,valN (dec u++r) 0=valN r u:=by
 induction u using Nat.strongRecOn with
 | _ u ih=>
  have key : ∀ k,k<10->(UInt8.ofNat (48+k)).toNat=48+k:=fun k hk=>by simp;omega
  intro r
  by_cases h:u<10
  ·rw [jd9 h,List.singleton_append,valN,key u h,zt om,zt om]
   congr 1;omega
  ·rw [jeF h hu,List.append_assoc,ih (u/10) om om,List.singleton_append,valN,key _ om,zt om,zt om]
   congr 1;omega
theorem valN_dec0 {u:Nat} (hu:u<18446744073709551616):valN (dec u) 0=u:=by
 have:=valN_dec hu []
 rwa [List.append_nil] at this
def numP (s:List UInt8):Option Int:=if valN s 0<9223372036854775808/\dec (valN s 0)=s then some (valN s 0:Int) else none
theorem jdW {u:Nat} (hu:u<9223372036854775808):numP (dec u)=some (u:Int):=by
 rw [numP,valN_dec0 om,zw ⟨hu,rfl⟩]
theorem jbR {s:List UInt8} {n:Int} (h:numP s=some n):0<=n/\n<9223372036854775808/\dec n.toNat=s:=by
 unfold numP at h
 split at h
 ·next hc=>
  cases h
  obtain ⟨h1,h2⟩:=hc
  exact ⟨by omega,by omega,by rw [zq];exact h2⟩
 ·cases h
def digV (c:UInt8):Nat:=if 48<=c.toNat/\c.toNat<=57 then c.toNat-48 else if 97<=(c ||| 32).toNat/\(c ||| 32).toNat<=122 then (c ||| 32).toNat-87 else 255
def puN (base cut mx:Nat):List UInt8->Nat->Nat × Nat
 | [],n=>(n,0)
 | c :: r,n=>if base<=digV c then (0,2) else if cut<=n then (mx,1) else if mx<n*base+digV c then (mx,1) else puN base cut mx r (n*base+digV c)
theorem jiu {k:Nat} (h:k<10):digV (UInt8.ofNat (48+k))=k:=by
 have key:(UInt8.ofNat (48+k)).toNat=48+k:=by simp;omega
 rw [digV,key,zw om];omega
theorem puN_dec {u mx:Nat} (hu:u<18446744073709551616) (hm:u<=mx) : ∀ r,puN 10 1844674407370955162 mx (dec u++r) 0=puN 10 1844674407370955162 mx r u:=by
 induction u using Nat.strongRecOn with
 | _ u ih=>
  intro r
  by_cases h:u<10
  ·rw [jd9 h,List.singleton_append,puN,jiu h,zt om,zt om,zt om]
   congr 1;omega
  ·rw [jeF h hu,List.append_assoc,ih (u/10) om om om,List.singleton_append,puN,jiu om,zt om,zt om,zt om]
   congr 1;omega
theorem jkj : ∀ k:_root_.Fin 16,digV (hx k.val)=k.val/\48<=(hx k.val).toNat:=by decide
theorem puN_hex (b:UInt8):puN 16 1152921504606846976 255 [hx (b.toNat/16),hx (b.toNat%16)] 0=(b.toNat,0):=by
 have hb:=b.toNat_lt
 have h1:=(jkj ⟨b.toNat/16,by omega⟩).1
 have h2:=(jkj ⟨b.toNat%16,by omega⟩).1
 simp only at h1 h2
 rw [puN,h1,zt om,zt om,zt om,puN,h2,zt om,zt om,zt om,puN]
 congr 1;omega
def bytS:List UInt8->Option (List UInt8)
 | a :: b :: r=>match puN 16 1152921504606846976 255 [a,b] 0,bytS r with
  | (n,0),some l=>some (UInt8.ofNat n :: l)
  | _,_=>none
 | [_]=>none
 | []=>some []
theorem jiy : ∀ D:List UInt8,bytS (hexS D)=some D
 | []=>rfl
 | b :: D=>by
  have e:hexS (b :: D)=hx (b.toNat/16) :: hx (b.toNat%16) :: hexS D:=by simp [hexS]
  rw [e,bytS,puN_hex,jiy D]
  simp
theorem hexS_no {c:UInt8} (hc:c.toNat<44) (D:List UInt8):c ∉ hexS D:=by
 intro h
 simp only [hexS,List.mem_flatten,List.mem_map] at h
 obtain ⟨l,⟨b,_,rfl⟩,h⟩:=h
 have hb:=b.toNat_lt
 rcases zO.1 h with h | h
 ·have:=(jkj ⟨b.toNat/16,by omega⟩).2;simp only [<- h] at this;omega
 ·have:=(jkj ⟨b.toNat%16,by omega⟩).2;simp only [<- List.mem_singleton.1 h] at this;omega
abbrev jdH:List UInt8:=[115,116,101,112]
abbrev jfM:List UInt8:=[105,110,116,114]
abbrev jbQ:List UInt8:=[111,114,100,101,114]
def mvW (m:Mv):List (List UInt8):=ja5 m.op :: (if m.op=1 then [dec m.wire.toNat,hexS m.D] else if m.op=2\/m.op=6 then [dec m.wire.toNat,dec m.n.toNat] else if m.op=7 then [dec m.n.toNat] else [dec m.wire.toNat])
def ordW (l:List Int):List (List UInt8):=if l=[] then [] else [jbQ,jaN 44 (l.map fun n=>dec n.toNat)]
def jce (x:Sp):List (List UInt8):=jdH :: dec x.ticks.toNat :: ((if x.intr then [jfM] else [])++(ordW x.order++(x.moves.map mvW).flatten))
theorem jf5 {n:Int} (h0:0<=n) (h1:n<18446744073709551616):numU n=dec n.toNat:=by
 rw [numU,IntKind.wrap_u64,Int.emod_eq_of_lt h0 h1]
theorem jf6 {op:Int} (h1:1<=op) (h2:op<=7):op=1\/op=2\/op=3\/op=4\/op=5\/op=6\/op=7:=by omega
structure MvFit (m:Mv):Prop where
 may:m.may
 w1:m.wire<9223372036854775808
 n1:m.n<9223372036854775808
structure SpFit (x:Sp):Prop where
 may:x.may
 t0:0<=x.ticks
 t1:x.ticks<18446744073709551616
 mv : ∀ m∈x.moves,MvFit m
theorem mvT_words {m:Mv} (f:MvFit m):mvT m=jb3 32 (mvW m):=by
 obtain ⟨⟨a1,a2,a3,a4,a5,a6,a7,a8⟩,w1,n1⟩:=f
 have e1:=jf5 a3 (show m.wire<18446744073709551616 by omega)
 have e2:=jf5 a4 (show m.n<18446744073709551616 by omega)
 have e3:m.op≠1->hexS m.D=[]:=fun h=>by
  have:m.D=[]:=zl.1 (by
   rcases Nat.eq_zero_or_pos m.D.length with h0 | h0
   ·exact h0
   ·exact zC (a8.2 h0) h)
  rw [this];rfl
 unfold mvT mvW
 rcases jf6 a1 a2 with h | h | h | h | h | h | h<;>rw [e1,e2,h]<;>(try rw [e3 om])<;>simp [jb3]
theorem jff {l:List Mv} (f : ∀ m∈l,MvFit m) : ∀ i,i<=l.length->movN l i=jb3 32 ((l.take i).map mvW).flatten
 | 0,_=>by simp [movN,jb3]
 | i+1,h=>by
  have ih:=jff f i om
  have hi:i<l.length:=h
  rw [movN,ih,List.take_succ_eq_append_getElem hi,List.map_append,List.flatten_append,jco,za hi,Option.getD_some,mvT_words (f _ (List.getElem_mem hi))]
  simp
theorem jfb {l:List Int} (f : ∀ n∈l,0<=n/\n<=999) : ∀ i,i<=l.length->ordN l i=if i=0 then [] else 32 :: (jbQ++32 :: jaN 44 ((l.take i).map fun n=>dec n.toNat))
 | 0,_=>by simp [ordN]
 | i+1,h=>by
  have ih:=jfb f i om
  have hi:i<l.length:=h
  have hn:=f _ (List.getElem_mem hi)
  have hd:numU l[i]=dec (l[i]).toNat:=jf5 hn.1 (Int.lt_of_le_of_lt hn.2 (by decide))
  rw [ordN,ih,zt (Nat.succ_ne_zero i),List.take_succ_eq_append_getElem hi,za hi,Option.getD_some,hd,List.map_append]
  by_cases h0:i=0
  ·subst h0
   simp [jaN,jb3]
  ·rw [zt h0,zt h0]
   obtain ⟨w,ws,e⟩ : ∃ w ws,(l.take i).map (fun n=>dec n.toNat)=w :: ws:=by
    cases hc:(l.take i).map (fun n=>dec n.toNat) with
    | nil=>have e9:=congrArg List.length hc;rw [List.length_map,List.length_take,List.length_nil] at e9;omega
    | cons w ws=>exact ⟨w,ws,rfl⟩
   rw [e,List.map_singleton,join_snoc]
   simp
theorem jdv {x:Sp} (f:SpFit x):jaE x=jaN 32 (jce x):=by
 have h1:=jfb (l:=x.order) f.may.2.2.1 x.order.length (zn _)
 have h2:=jff (l:=x.moves) f.mv x.moves.length (zn _)
 rw [List.take_length] at h1 h2
 have h3:ordN x.order x.order.length=jb3 32 (ordW x.order):=by
  rw [h1,ordW]
  by_cases h0:x.order=[]
  ·rw [h0];rfl
  ·rw [zt h0,zt (fun e=>h0 (zl.1 e))]
   simp [jb3]
 have h4:(if x.intr=true then [32,105,110,116,114] else [])=jb3 32 (if x.intr=true then [jfM] else []):=by
  cases x.intr<;>rfl
 rw [jaE,h3,h2,h4,jce,jaN,jdh,jco,jco]
 simp
theorem word_no : ∀ k:_root_.Fin 8,∀ b∈(jcG[k.val]?).getD [],48<=b.toNat:=by decide
theorem wordO_no {c:UInt8} (hc:c.toNat<44) (op:Int):c ∉ ja5 op:=by
 unfold ja5
 split
 ·simp
 ·next h=>intro e;have:=word_no ⟨op.toNat,by omega⟩ c e;omega
theorem jiv {c:UInt8} (hc:c.toNat<48) {u:Nat} (hu:u<18446744073709551616):c ∉ dec u:=fun h=>by
 have:=(jjO hu c h).1;omega
theorem mvW_no {c:UInt8} (hc:c.toNat<44) {m:Mv} (f:MvFit m) : ∀ w∈mvW m,c ∉ w:=by
 have h1:=jiv (c:=c) om (u:=m.wire.toNat) (by have:=f.w1;omega)
 have h2:=jiv (c:=c) om (u:=m.n.toNat) (by have:=f.n1;omega)
 have h3:=hexS_no hc m.D
 have h4:=wordO_no hc m.op
 intro w hw
 unfold mvW at hw
 rcases zO.1 hw with rfl | hw
 ·exact h4
 ·(repeat' split at hw)<;>simp only [zO,List.not_mem_nil,or_false] at hw<;>(first | (rcases hw with rfl | rfl<;>assumption) | (subst hw;assumption))
theorem jis {c k:UInt8} (hc:c≠k) : ∀ {ws:List (List UInt8)},(∀ w∈ws,k ∉ w)->k ∉ jaN c ws
 | [],_=>by simp [jaN]
 | w :: ws,h=>by
  intro hm
  rcases zF.1 hm with hm | hm
  ·exact h w Zd hm
  ·simp only [jb3,List.mem_flatten,List.mem_map] at hm
   obtain ⟨_,⟨v,hv,rfl⟩,hm⟩:=hm
   rcases zO.1 hm with hm | hm
   ·exact hc hm.symm
   ·exact h v (zj _ hv) hm
theorem jio {l:List Int} (f : ∀ n∈l,0<=n/\n<=999) {c:UInt8} (hc:c.toNat<48) : ∀ w∈l.map (fun n=>dec n.toNat),c ∉ w:=by
 intro w hw
 obtain ⟨n,hn,rfl⟩:=List.mem_map.1 hw
 have:=f n hn
 exact jiv hc om
theorem jhS {c:UInt8} (hc:c.toNat<44) {x:Sp} (f:SpFit x) : ∀ w∈jce x,c ∉ w:=by
 have hlit : ∀ l:List UInt8,(∀ b∈l,44<=b.toNat)->c ∉ l:=fun l h e=>by have:=h c e;omega
 intro w hw
 unfold jce at hw
 rcases zO.1 hw with rfl | hw
 ·exact hlit _ (by decide)
 rcases zO.1 hw with rfl | hw
 ·exact jiv om (by have:=f.t1;omega)
 rcases zF.1 hw with hw | hw
 ·split at hw
  ·obtain rfl:=List.mem_singleton.1 hw;exact hlit _ (by decide)
  ·cases hw
 rcases zF.1 hw with hw | hw
 ·unfold ordW at hw
  split at hw
  ·cases hw
  ·rcases zO.1 hw with rfl | hw
   ·exact hlit _ (by decide)
   ·obtain rfl:=List.mem_singleton.1 hw
    exact jis (fun e=>by rw [<- e] at hc;exact zC hc (by decide)) (jio f.may.2.2.1 om)
 ·obtain ⟨l,hl,hw⟩:=List.mem_flatten.1 hw
  obtain ⟨m,hm,rfl⟩:=List.mem_map.1 hl
  exact mvW_no hc (f.mv m hm) w hw
theorem jeT {x:Sp} (f:SpFit x):jai 32 (jaE x)=jce x:=by
 rw [jdv f]
 exact jdi (jhS (by decide) f)
theorem jh0 {l:List Int} (h0:l≠[]) (f : ∀ n∈l,0<=n/\n<=999):jai 44 (jaN 44 (l.map fun n=>dec n.toNat))=l.map fun n=>dec n.toNat:=by
 have h:=jio f (c:=44) (by decide)
 cases hc:l.map (fun n=>dec n.toNat) with
 | nil=>have:=congrArg List.length hc;simp at this;exact zC this h0
 | cons w ws=>rw [hc] at h;exact jdi h
def opW (w:List UInt8):Int:=if w=ja5 7 then 7 else if w=ja5 6 then 6 else if w=ja5 5 then 5 else if w=ja5 4 then 4 else if w=ja5 3 then 3 else if w=ja5 2 then 2 else if w=ja5 1 then 1 else 0
theorem opW_word {op:Int} (h1:1<=op) (h2:op<=7):opW (ja5 op)=op:=by
 rcases jf6 h1 h2 with h | h | h | h | h | h | h<;>(subst h;decide)
theorem opW_le (w:List UInt8):0<=opW w/\opW w<=7:=by unfold opW;(repeat' split)<;>omega
def mvR:List (List UInt8)->Option (Mv × List (List UInt8))
 | w :: a :: b :: t=>if opW w=1 then (match numP a,bytS b with | some n,some D=>some (⟨1,n,0,D⟩,t) | _,_=>none)
  else if opW w=2\/opW w=6 then (match numP a,numP b with | some n,some k=>some (⟨opW w,n,k,[]⟩,t) | _,_=>none)
  else if opW w=7 then (match numP a with | some n=>some (⟨7,0,n,[]⟩,b :: t) | _=>none)
  else if opW w=0 then none
  else (match numP a with | some n=>some (⟨opW w,n,0,[]⟩,b :: t) | _=>none)
 | [w,a]=>if opW w=1\/opW w=2\/opW w=6 then none
  else if opW w=7 then (match numP a with | some n=>some (⟨7,0,n,[]⟩,[]) | _=>none)
  else if opW w=0 then none
  else (match numP a with | some n=>some (⟨opW w,n,0,[]⟩,[]) | _=>none)
 | _=>none
def mvsR:Nat->List (List UInt8)->Option (List Mv)
 | _,[]=>some []
 | 0,_ :: _=>none
 | f+1,w :: r=>match mvR (w :: r) with
  | none=>none
  | some (m,t)=>match mvsR f t with
   | none=>none
   | some l=>some (m :: l)
def ordR:List (List UInt8)->Option (List Int)
 | []=>some []
 | w :: r=>match numP w,ordR r with
  | some n,some l=>some (n :: l)
  | _,_=>none
def pwI:List (List UInt8)->Bool × List (List UInt8)
 | w :: t=>if w=jfM then (true,t) else (false,w :: t)
 | []=>(false,[])
def pwO:List (List UInt8)->Option (List Int × List (List UInt8))
 | w :: o :: t=>if w=jbQ then (match ordR (jai 44 o) with | some l=>some (l,t) | none=>none) else some ([],w :: o :: t)
 | l=>some ([],l)
def puS (base cut mx:Nat) (s:List UInt8):Nat × Nat:=if s=[] then (0,2) else puN base cut mx s 0
def pwW:List (List UInt8)->Option Sp
 | a :: b :: r=>if a=jdH then (match puS 10 1844674407370955162 18446744073709551615 b with
   | (n,0)=>(match pwO (pwI r).2 with
    | none=>none
    | some (o,t)=>match mvsR t.length t with
     | none=>none
     | some M=>some ⟨n,(pwI r).1,o,M⟩)
   | _=>none) else none
 | _=>none
theorem jjA {l t:List (List UInt8)} {m:Mv} (h:mvR l=some (m,t)):t.length<l.length:=by
 unfold mvR at h
 split at h
 ·(repeat' split at h)<;>(first | (cases h;done) | (cases h;simp;done) | (cases h;simp;omega))
 ·(repeat' split at h)<;>(first | (cases h;done) | (cases h;simp))
 ·cases h
theorem jg9 : ∀ {f g:Nat} {l:List (List UInt8)},l.length<=f->l.length<=g->mvsR f l=mvsR g l
 | f,g,[],_,_=>by cases f<;>cases g<;>rfl
 | 0,_,_ :: _,h,_=>by simp at h
 | _,0,_ :: _,_,h=>by simp at h
 | f+1,g+1,w :: r,h1,h2=>by
  rw [mvsR,mvsR]
  cases hm:mvR (w :: r) with
  | none=>rfl
  | some x=>
   obtain ⟨m,t⟩:=x
   have:=jjA hm
   simp only [List.length_cons] at this h1 h2
   simp only [jg9 (f:=f) (g:=g) (l:=t) om om]
theorem mvsR_step {l:List (List UInt8)} (h:l≠[]):mvsR l.length l=(match mvR l with | none=>none | some (m,t)=>(mvsR t.length t).map (m :: ·)):=by
 cases l with
 | nil=>exact zC rfl h
 | cons w r=>
  rw [List.length_cons,mvsR]
  cases hm:mvR (w :: r) with
  | none=>rfl
  | some x=>
   obtain ⟨m,t⟩:=x
   have:=jjA hm
   simp only [List.length_cons] at this
   simp only [jg9 (f:=r.length) (g:=t.length) (l:=t) om (zn _)]
   cases mvsR t.length t<;>rfl
theorem mvR_words {m:Mv} (f:MvFit m) (t:List (List UInt8)):mvR (mvW m++t)=some (m,t):=by
 obtain ⟨⟨a1,a2,a3,a4,a5,a6,a7,a8⟩,w1,n1⟩:=f
 obtain ⟨op,wire,n,D⟩:=m
 simp only at a1 a2 a3 a4 a5 a6 a7 a8 w1 n1
 have ow:=opW_word a1 a2
 have e1:numP (dec wire.toNat)=some wire:=by rw [jdW om];congr 1;omega
 have e2:numP (dec n.toNat)=some n:=by rw [jdW om];congr 1;omega
 have e3:=jiy D
 have hD:op≠1->D=[]:=fun h=>zl.1 (by
  rcases Nat.eq_zero_or_pos D.length with h0 | h0
  ·exact h0
  ·exact zC (a8.2 h0) h)
 rcases jf6 a1 a2 with rfl | rfl | rfl | rfl | rfl | rfl | rfl
 ·obtain rfl:n=0:=by omega
  cases t<;>simp [mvW,mvR,ow,e1,e2,e3]
 ·obtain rfl:=hD (by decide)
  cases t<;>simp [mvW,mvR,ow,e1,e2,e3]
 ·obtain rfl:=hD (by decide)
  obtain rfl:n=0:=by omega
  cases t<;>simp [mvW,mvR,ow,e1,e2,e3]
 ·obtain rfl:=hD (by decide)
  obtain rfl:n=0:=by omega
  cases t<;>simp [mvW,mvR,ow,e1,e2,e3]
 ·obtain rfl:=hD (by decide)
  obtain rfl:n=0:=by omega
  cases t<;>simp [mvW,mvR,ow,e1,e2,e3]
 ·obtain rfl:=hD (by decide)
  cases t<;>simp [mvW,mvR,ow,e1,e2,e3]
 ·obtain rfl:=hD (by decide)
  obtain rfl:=a6 rfl
  cases t<;>simp [mvW,mvR,ow,e1,e2,e3]
theorem jiT {l:List Mv} (f : ∀ m∈l,MvFit m) : ∀ {g:Nat},(l.map mvW).flatten.length<=g->mvsR g (l.map mvW).flatten=some l:=by
 induction l with
 | nil=>intro g _;cases g<;>rfl
 | cons m l ih=>
  intro g h
  have e:((m :: l).map mvW).flatten=mvW m++(l.map mvW).flatten:=by simp
  rw [e] at h ⊢
  obtain ⟨w,ws,ew⟩ : ∃ w ws,mvW m=w :: ws:=⟨_,_,rfl⟩
  have hm:=mvR_words (f m Zd) (l.map mvW).flatten
  rw [ew] at hm h ⊢
  rw [zK] at hm h ⊢
  cases g with
  | zero=>simp at h
  | succ g=>
   rw [mvsR,hm]
   simp only [List.length_cons,ze] at h
   simp only [ih (fun m hm=>f m (zj _ hm)) (g:=g) om]
theorem jiR {l:List Int} (f : ∀ n∈l,0<=n/\n<=999):ordR (l.map fun n=>dec n.toNat)=some l:=by
 induction l with
 | nil=>rfl
 | cons n l ih=>
  have hn:=f n Zd
  have e:numP (dec n.toNat)=some n:=by rw [jdW om];congr 1;omega
  rw [List.map_cons,ordR,e,ih fun m hm=>f m (zj _ hm)]
theorem ji5 : ∀ k:_root_.Fin 8,(jcG[k.val]?).getD []≠jfM/\(jcG[k.val]?).getD []≠jbQ:=by decide
theorem jef (op:Int):ja5 op≠jfM/\ja5 op≠jbQ:=by
 unfold ja5
 split
 ·decide
 ·exact ji5 ⟨op.toNat,by omega⟩
theorem pwO_moves (l:List Mv):pwO (l.map mvW).flatten=some ([],(l.map mvW).flatten):=by
 cases l with
 | nil=>rfl
 | cons m l=>
  have h:=(jef m.op).2
  obtain ⟨ws,ew⟩ : ∃ ws,((m :: l).map mvW).flatten=ja5 m.op :: ws:=⟨_,rfl⟩
  rw [ew]
  cases ws with
  | nil=>rfl
  | cons a t=>rw [pwO,zt h]
theorem pwI_moves (l:List Mv):pwI (l.map mvW).flatten=(false,(l.map mvW).flatten):=by
 cases l with
 | nil=>rfl
 | cons m l=>
  have h:=(jef m.op).1
  obtain ⟨ws,ew⟩ : ∃ ws,((m :: l).map mvW).flatten=ja5 m.op :: ws:=⟨_,rfl⟩
  rw [ew,pwI,zt h]
theorem pwI_rest (b:Bool) (o:List Int) (l:List Mv):pwI ((if b=true then [jfM] else [])++(ordW o++(l.map mvW).flatten))=(b,ordW o++(l.map mvW).flatten):=by
 cases b with
 | true=>rfl
 | false=>
  show pwI (ordW o++(l.map mvW).flatten)=_
  unfold ordW
  split
  ·exact pwI_moves l
  ·rfl
theorem pwO_rest {o:List Int} (f : ∀ n∈o,0<=n/\n<=999) (l:List Mv):pwO (ordW o++(l.map mvW).flatten)=some (o,(l.map mvW).flatten):=by
 unfold ordW
 split
 ·next h=>subst h;exact pwO_moves l
 ·next h=>
  show pwO (jbQ :: jaN 44 (o.map fun n=>dec n.toNat) :: (l.map mvW).flatten)=_
  rw [pwO,zw rfl,jh0 h f,jiR f]
theorem pwW_words {x:Sp} (f:SpFit x):pwW (jce x)=some x:=by
 have h1:=f.t0
 have h2:=f.t1
 have hu:puS 10 1844674407370955162 18446744073709551615 (dec x.ticks.toNat)=(x.ticks.toNat,0):=by
  rw [puS,zt (jkx om)]
  have:=puN_dec (u:=x.ticks.toNat) (mx:=18446744073709551615) om om []
  rw [List.append_nil] at this
  rw [this];rfl
 rw [jce,pwW,zw rfl,hu]
 simp only [pwI_rest,pwO_rest f.may.2.2.1,jiT f.mv (zn _)]
 obtain ⟨t,i,o,m⟩:=x
 simp only [Option.some.injEq,Sp.mk.injEq,and_true]
 exact Int.toNat_of_nonneg h1
theorem jcV {x:Sp} (f:SpFit x):pwW (jai 32 (jaE x))=some x:=by rw [jeT f,pwW_words f]
end Am.Sigs
namespace Am
open Go Am.Sigs
structure Hd (p:Prop):Prop where
 g:p
structure Kc (h:H) (b:Nat) (l:List V) (ro:Bool):Prop where
 lt:b<h.nx
 at_:h.get b=some (.cells l ro)
theorem Kc.old {h h':H} {b:Nat} {l:List V} {ro:Bool} (k:Kc h b l ro) (o:Old h h'):Kc h' b l ro :=
 ⟨zo k.lt o.1,by rw [o.2 _ k.lt,k.at_]⟩
section
variable {call:Call} {fuel base:Nat} {K:List Fr} {e:Env} {h h' h0:H} {Q:Post} {ix:Nat} {dst:Option Nat} {ops:List Ins} {keep:List Nat} {at_:Option Nat} {c:List (Nat × I × Option (Nat × Bool))}
end
end Am
namespace Am.Sigs
open Am Go
abbrev strs (l:List (List UInt8)):List V:=l.map V.str
theorem strs_one (l:List (List UInt8)):(strs l).all V.one=true:=by
 rw [zJ]
 intro x hx
 obtain ⟨s,_,rfl⟩:=List.mem_map.1 hx
 rfl
def SR (N:Nat) (h:H) (v:V) (l:List (List UInt8)):Prop :=
 ∃ q c,N<=q/\q<h.nx/\v = .slice (some (q,0)) l.length c/\(c = .grow 1\/c = .fix l.length)/\h.get q=some (.cells (strs l) false)
theorem SR.keep {N M:Nat} {h h':H} {v:V} {l:List (List UInt8)} (r:SR N h v l) (hM:M<=N) (o:Old h h'):SR M h' v l:=by
 obtain ⟨q,c,h1,h2,e,hc,hg⟩:=r
 exact ⟨q,c,by omega,zo h2 o.1,e,hc,by rw [o.2 q h2,hg]⟩
theorem SR.keep_ne {N:Nat} {h h':H} {v:V} {l:List (List UInt8)} (r:SR N h v l) (hx:h.nx<=h'.nx) (k : ∀ j,v.at?=some j->h'.get j=h.get j):SR N h' v l:=by
 obtain ⟨q,c,h1,h2,rfl,hc,hg⟩:=r
 exact ⟨q,c,h1,by omega,rfl,hc,by rw [k q rfl,hg]⟩
theorem SR.at_ge {N:Nat} {h:H} {v:V} {l:List (List UInt8)} (r:SR N h v l) {j:Nat} (e:v.at?=some j):N<=j/\j<h.nx:=by
 obtain ⟨q,c,h1,h2,rfl,hc,hg⟩:=r
 cases e;exact ⟨h1,h2⟩
theorem SR.app {N m sb so:Nat} {h:H} {v:V} {l new:List (List UInt8)} {ls:List V} {ro:Bool} {cap:Cap} (r:SR N h v l) (hN:N<=h.nx) (hm:0<m) (hs:h.get sb=some (.cells ls ro)) (hsl:so+m<=ls.length) (hnew:(ls.drop so).take m=strs new) (hb:l.length+m<=1000000) :
  ∃ v' h',jaK h 1 16 v (.slice (some (sb,so)) m cap)=some (v',h')/\SR N h' v' (l++new)/\h'.nx=h.nx+1/\v'.at?=some h.nx /\ ∀ j,j<h.nx->v.at?≠some j->h'.get j=h.get j:=by
 obtain ⟨q,c,h1,h2,rfl,hc,hg⟩:=r
 have hlen:new.length=m:=by
  have:=congrArg List.length hnew
  simp at this;omega
 have hsrc:ja4 h 1 m (.slice (some (sb,so)) m cap)=some (strs new):=by
  have:(m*1 == 0)=false:=by simp;omega
  simp only [ja4,this,cond_false]
  rw [jb9 hs om,Nat.mul_one,hnew]
 have hcond:(Nat.ble ((l.length+m)*16) (2 ^ 46)&&Nat.ble (l.length+m) (2 ^ 46))=true:=by simp only [zm,zH];omega
 have h10:(m == 0)=false:=by simp;omega
 have hll:(l++new).length=l.length+m:=by simp [hlen]
 rcases hc with rfl | rfl
 ·have hgd:(Nat.beq 1 1&&Nat.ble (0+l.length*1) (strs l).length&&(strs new).all V.one)=true:=by
   simp only [zm,zH,strs_one,and_true]
   exact ⟨rfl,by simp⟩
  have htk:((strs l).drop 0).take (l.length*1)=strs l:=by rw [zi,zf Zd]
  refine ⟨.slice (some (h.nx,0)) (l.length+m) (.grow 1),(h.kill q).new (.cells (strs (l++new)) false),?_,⟨h.nx,.grow 1,hN,by simp,by rw [hll],.inl rfl,?_⟩,by simp,rfl,?_⟩
  ·simp only [jaK,lenOf,hsrc]
   rw [hcond]
   simp only [cond_true,h10,cond_false,hg]
   rw [hgd]
   simp only [cond_true,newRow,htk,strs,List.map_append]
   rfl
  ·exact jac (h:=h.kill q) _
  ·intro j hj hv
   have hjq:j≠q:=fun e=>hv (by subst e;rfl)
   rw [jaj (by simpa using hj),jal hjq]
 ·have hld:(bif l.length*1 == 0 then some [] else h.load q 0 (l.length*1))=some (strs l):=by
   by_cases h0:l=[]
   ·subst h0;rfl
   ·have:(l.length*1 == 0)=false:=by
     have:=List.length_pos_iff.2 h0
     simp [h0]
    rw [this,cond_false,jb9 hg Zd,zi,zf Zd]
  have hno:Nat.ble (l.length+m) l.length=false:=by
   cases e:Nat.ble (l.length+m) l.length with
   | false=>rfl
   | true=>have:=zp e;omega
  refine ⟨.slice (some (h.nx,0)) (l.length+m) (.grow 1),h.new (.cells (strs (l++new)) false),?_,⟨h.nx,.grow 1,hN,by simp,by rw [hll],.inl rfl,jac _⟩,by simp,rfl,fun j hj _=>jaj hj⟩
  simp only [jaK,lenOf,hsrc]
  rw [hcond]
  simp only [cond_true,h10,cond_false,hno,hld]
  simp only [newRow,strs,List.map_append]
theorem jfO (e:Env) (d:Nat) (v:V):(Opd.t d).ev (layv e (some d) v)=some v:=by
 show (layv e (some d) v).get d=_
 rw [ja9,zw rfl]
section
variable {call:Call} {fuel base:Nat} {K:List Fr} {e:Env} {h h0:H} {Q:Post} {ix i1 i2 d1 d2:Nat} {dst at_:Option Nat} {ops:List Ins} {keep:List Nat} {c:List (Nat × I × Option (Nat × Bool))}
theorem Ops.strA {x y:Opd} {sv:V} {l new:List (List UInt8)} {sb so m:Nat} {ls:List V} {ro:Bool} {cap:Cap} (hx:x.ev e=some sv) (hy:y.ev e=some (.slice (some (sb,so)) m cap)) (o:Old h0 h) (r:SR h0.nx h sv l) (hm:0<m) (hs:h.get sb=some (.cells ls ro)) (hsl:so+m<=ls.length) (hnew:(ls.drop so).take m=strs new) (hb:l.length+m<=1000000)
  (hk : ∀ h',Old h0 h'->jaw e h' c=true) (k : ∀ v' h',SR h0.nx h' v' (l++new)->Old h0 h'->h'.nx=h.nx+1->(∀ j,j<h.nx->sv.at?≠some j->h'.get j=h.get j)->Ops call fuel base ops keep K (layv e dst v') h' Q) :
  Ops call fuel base (⟨ix,dst,.append 1 16 x y,none,none,c⟩ :: ops) keep K e h Q:=by
 obtain ⟨v',h',e1,e2,e3,e4,e5⟩:=r.app (cap:=cap) o.1 hm hs hsl hnew hb
 have o':Old h0 h':=⟨by have:=o.1;omega,fun j hj=>by rw [e5 j (zo hj o.1) fun e=>by have:=(r.at_ge e).1;omega,o.2 j hj]⟩
 exact Ops.step_chk (I.run_eff rfl (by simp only [I.eff,hx,hy,e1])) (hk h' o') (k v' h' e2 o' e3 e5)
theorem Ops.strP {x s:Opd} {sv z:V} {l:List (List UInt8)} {t:List UInt8} (hx:x.ev e=some (.str t)) (hs:s.ev (layv e (some d1) (.slice (some (h.nx,0)) 1 (.fix 1)))=some sv) (o:Old h0 h) (r:SR h0.nx h sv l) (hb:l.length<=900000)
  (k : ∀ v' h',SR h0.nx h' v' (l++[t])->Old h0 h'->h'.nx=h.nx+2->(∀ j,j<h.nx->sv.at?≠some j->h'.get j=h.get j)->Ops call fuel base ops keep K (layv (layv e (some d1) (.slice (some (h.nx,0)) 1 (.fix 1))) (some d2) v') h' Q) :
  Ops call fuel base (⟨i1,some d1,.bslice 1 1 [z] [(0,x)],none,none,[]⟩ :: ⟨i2,some d2,.append 1 16 s (.t d1),none,none,[]⟩ :: ops) keep K e h Q:=by
 refine zcu (ob := .cells [V.str t] false) (mk:=fun b=>.slice (some (b,0)) 1 (.fix 1)) rfl ?_ ?_
 ·simp only [I.make,jaC,List.map,hx];rfl
 ·have on:Old h (h.new (.cells [V.str t] false)):=⟨by simp,fun _ hj=>jaj hj⟩
  refine Ops.strA (new:=[t]) hs (jfO ..) (o.trans on) (r.keep (zn _) on) Nat.one_pos (jac _) Zd rfl om (fun _ _=>rfl) fun v' h' a b c d=>k v' h' a b (by rw [c];simp) fun j hj hv=>by rw [d j Zc hv,jaj hj]
end
theorem Row.sr {N:Nat} {h:H} {v:V} {l:List (List UInt8)} (r:Row N h 1 v l.length (strs l)) (hl:l≠[]):SR N h v l:=by
 rcases r with ⟨h1,_⟩ | ⟨q,h1,h2,rfl,h4,_⟩
 ·exact zC (zl.1 h1) hl
 ·exact ⟨q,_,h1,h2,rfl,.inl rfl,h4⟩
section
variable {call:Call} {fuel base:Nat} {ops:List Ins} {keep:List Nat} {K:List Fr} {e:Env} {h:H} {Q:Post} {ix:Nat} {dst at_:Option Nat}
theorem jkl {n m:Nat} (h:n<=m):upto (n:Int) m=true:=jfk h
theorem Ops.strTo {x hi:Opd} {s:List UInt8} {n:Nat} (hx:x.ev e=some (.str s)) (hh:hi.ev e=some (.i (n:Int))) (hn:n<=s.length) (k:Ops call fuel base ops keep K (layv e dst (.str (s.take n))) h Q) :
  Ops call fuel base (⟨ix,dst,.sliceS x none (some hi),none,at_,[]⟩ :: ops) keep K e h Q:=by
 refine Ops.pure rfl ?_ k
 simp only [I.pure,hx,evo,hh,jaL,slcM,slcH,slcL,sB,asInt,jkl hn,cond_true,zq,zi]
theorem Ops.strFrom {x lo:Opd} {s:List UInt8} {n:Nat} (hx:x.ev e=some (.str s)) (hh:lo.ev e=some (.i (n:Int))) (hn:n<=s.length) (k:Ops call fuel base ops keep K (layv e dst (.str (s.drop n))) h Q) :
  Ops call fuel base (⟨ix,dst,.sliceS x (some lo) none,none,at_,[]⟩ :: ops) keep K e h Q:=by
 refine Ops.pure rfl ?_ k
 simp only [I.pure,hx,evo,hh,jaL,slcM,slcH,slcL,sB,asInt,jkl hn,cond_true,zq,Option.isSome_none,cond_false,List.take_length]
end
theorem jhi (c x:UInt8) (r:List UInt8):cntB c (x :: r)=(bif x == c then 1 else 0)+cntB c r:=rfl
theorem jdf {c:UInt8} : ∀ {s:List UInt8},cntB c s=0->c ∉ s
 | [],_=>by simp
 | x :: r,h=>by
  unfold cntB at h
  cases hx:x == c with
  | true=>rw [hx] at h;simp at h
  | false=>
   rw [hx] at h
   have h2:cntB c r=0:=by simpa using h
   intro hm
   rcases zO.1 hm with e | e
   ·subst e;simp at hx
   ·exact jdf h2 e
theorem jea (c:UInt8) : ∀ (s:List UInt8) (n:Nat),idxB c s n=if c∈s then idxB c s 0+n else -1
 | [],n=>by simp [idxB]
 | x :: r,n=>by
  unfold idxB
  cases hx:x == c with
  | true=>
   have:x=c:=by simpa using hx
   subst this;simp
  | false=>
   have hne:c≠x:=fun e=>by subst e;simp at hx
   simp only [cond_false,zO,hne,false_or]
   rw [jea c r (n+1),jea c r (0+1)]
   split
   ·omega
   ·rfl
theorem jc4 {c:UInt8} : ∀ {s:List UInt8},0<cntB c s -> ∃ w r,s=w++c :: r/\c ∉ w/\idxB c s 0=(w.length:Int)/\cntB c s=cntB c r+1
 | [],h=>by simp [cntB] at h
 | x :: r,h=>by
  cases hx:x == c with
  | true=>
   have:x=c:=by simpa using hx
   subst this
   exact ⟨[],r,rfl,by simp,by simp [idxB],by rw [jhi,hx,cond_true];omega⟩
  | false=>
   have hne:c≠x:=fun e=>by subst e;simp at hx
   have h2:0<cntB c r:=by unfold cntB at h;rw [hx] at h;simpa using h
   obtain ⟨w,t,rfl,h3,h4,h5⟩:=jc4 h2
   refine ⟨x :: w,t,rfl,fun hm=>?_,?_,?_⟩
   ·rcases zO.1 hm with e | e
    ·exact hne e
    ·exact h3 e
   ·unfold idxB
    rw [hx,cond_false,jea,zw Zd,h4];simp
   ·rw [jhi,hx,cond_false,h5];omega
theorem jbi (c:UInt8) : ∀ s:List UInt8,(jai c s).length=cntB c s+1
 | []=>rfl
 | x :: r=>by
  have ih:=jbi c r
  unfold jai cntB
  by_cases hx:x=c
  ·subst hx;simp [ih];omega
  ·have:(x == c)=false:=by simp [hx]
   rw [zt hx,this,cond_false]
   cases hs:jai c r with
   | nil=>exact zC hs (jcQ c r)
   | cons w ws=>rw [hs] at ih;simp at ih ⊢;omega
theorem jdy (c:UInt8) : ∀ s:List UInt8,cntB c s<=s.length
 | []=>zn _
 | x :: r=>by
  have:=jdy c r
  unfold cntB
  cases x == c<;>simp<;>omega
def WN (h h':H) (v:V) (ws:List (List UInt8)):Prop := ∃ q,h.nx<=q/\q<h'.nx/\v = .slice (some (q,0)) ws.length (.fix ws.length)/\h'.get q=some (.cells (strs ws) false)
theorem jjw {a:List V} {k:Nat} {x y:V} : (a++List.replicate (k+1) x).set a.length y=(a++[y])++List.replicate k x:=by
 rw [List.set_append_right _ _ (zn _),Nat.sub_self,List.replicate_succ,List.set_cons_zero];simp
section
variable {cl:Nat->Call} (hcl:Sem cl)
include hcl
theorem st_index {d:Nat} {h:H} {s:List UInt8} {c:UInt8} (hd:4<=d):cl d (.fn 96) [.str s,.str [c]] h=some (.i (idxB c s 0),h):=by
 have e0:cl (d-3) (.fn 126) [.str s,.int .u8 (c.toNat:Int)] h=some (.i (idxB c s 0),h):=by
  rw [jfw hcl om (p:=jaD) rfl]
  show some (V.i (idxB ((c.toNat:Int).toNat.toUInt8) s 0),h)=_
  rw [show ((c.toNat:Int).toNat.toUInt8)=c by simp]
 have e1:cl (d-2) (.fn 102) [.str s,.int .u8 (c.toNat:Int)] h=some (.i (idxB c s 0),h):=by
  refine jau (aT hcl ?_)
  refine qx ?_
  exact ⟨rfl,rfl⟩
 have e2:cl (d-1) (.fn 119) [.str s,.str [c]] h=some (.i (idxB c s 0),h):=by
  refine jau (aT hcl ?_)
  have n0 : ¬ (([c].length:Nat):Int)=0:=by simp
  have n1:(([c].length:Nat):Int)=1:=by simp
  clear e0
  repeat' (first|refine qxy ?_|(refine zsp ?_ ?_<;>intro _)|fail)
  ·next hs=>
   obtain rfl:[c]=s:=by simpa using hs
   exact ⟨by simp [idxB],rfl⟩
  ·exact ⟨rfl,rfl⟩
 refine jau (aT hcl ?_)
 clear e0 e1
 refine qx ?_
 exact ⟨rfl,rfl⟩
theorem st_count {d:Nat} {h:H} {s:List UInt8} {c:UInt8} (hd:2<=d):cl d (.fn 128) [.str s,.str [c]] h=some (.i (cntB c s:Int),h):=by
 have e0:cl (d-1) (.fn 153) [.str s,.int .u8 (c.toNat:Int)] h=some (.i (cntB c s:Int),h):=by
  rw [jfw hcl om (p:=jez) rfl]
  show some (V.i (cntB ((c.toNat:Int).toNat.toUInt8) s:Int),h)=_
  rw [show ((c.toNat:Int).toNat.toUInt8)=c by simp]
 refine jau (aT hcl ?_)
 have n0 : ¬ (([c].length:Nat):Int)=0:=by simp
 have n1:(([c].length:Nat):Int)=1:=by simp
 refine qx ?_
 exact ⟨rfl,rfl⟩
theorem jhx {d:Nat} {h:H} {s:List UInt8} {c:UInt8} (hd:5<=d) (hs:s.length<=40000000) (hc0:cntB c s<=50000) : ∃ v h',cl d (.fn 103) [.str s,.str [c],.i 0,.i (-1)] h=some (v,h')/\Old h h'/\WN h h' v (jai c s):=by
 have hle:=jdy c s
 have hN:=jbi c s
 have e0:=st_count hcl (d:=d-1) (h:=h) (s:=s) (c:=c) om
 have n1 : ¬ ([c]=([]:List UInt8)):=by simp
 have lc:((([c]:List UInt8).length:Nat):Int)=1:=by simp
 refine aT hcl ?_
 obtain ⟨C4,hC4⟩ : ∃ C,C=c103_4:=⟨_,rfl⟩
 simp only [c103,c103_9,c103_8,c103_7,c103_6,c103_5,<- hC4,uF,yB,yF]
 refine qx ?_
 have hmin:min ((cntB c s:Int)+1) (((s.length:Nat):Int)+1)=((cntB c s+1:Nat):Int):=by omega
 rw [hmin]
 refine zcu (ob := .cells (List.replicate (cntB c s+1) (.str [])) false) (mk:=fun b=>.slice (some (b,0)) (cntB c s+1) (.fix (cntB c s+1))) rfl ?_ ?_
 ·have h1:(Nat.ble (cntB c s+1) (cntB c s+1)&&Nat.ble ((cntB c s+1)*16) (2 ^ 46)&&Nat.ble (cntB c s+1) (2 ^ 46))=true:=by
   simp only [zm,zH];omega
  show (bif Nat.ble (cntB c s+1) (cntB c s+1)&&Nat.ble ((cntB c s+1)*16) (2 ^ 46)&&Nat.ble (cntB c s+1) (2 ^ 46) then _ else _)=_
  rw [h1,cond_true]
  have h2:(List.replicate (cntB c s+1) [V.str []]).flatten=List.replicate (cntB c s+1) (V.str []):=by
   generalize cntB c s+1=k
   induction k with
   | zero=>rfl
   | succ k ih=>rw [List.replicate_succ,zL,ih,List.replicate_succ];rfl
  rw [h2]
 refine qx ?_
 rw [hC4]
 clear hC4 C4 e0
 obtain ⟨C3,hC3⟩ : ∃ C,C=c103_3:=⟨_,rfl⟩
 obtain ⟨C2,hC2⟩ : ∃ C,C=c103_2:=⟨_,rfl⟩
 simp only [c103_4,<- hC3,<- hC2,yC]
 refine qx ?_
 refine zV (fun m e g=>∃ (dn:List (List UInt8)) (s1:List UInt8),m=cntB c s1/\jai c s=dn++jai c s1/\s1.length<=40000000/\e=[(0,.str s1),(1,.str [c]),(2,.i 0),(3,.i (cntB c s:Int)),(9,.slice (some (h.nx,0)) (cntB c s+1) (.fix (cntB c s+1))),(10,.i (dn.length:Int))]/\Old h g/\h.nx<g.nx/\g.get h.nx=some (.cells (strs dn++List.replicate (cntB c s1+1) (.str [])) false))
  (k:=cntB c s) Ze ⟨[],s,rfl,rfl,hs,?_,(zW h).new,by simp,jac _⟩ ?_
 ·show _=_
  have:((cntB c s+1:Nat):Int)-1=(cntB c s:Int):=by omega
  rw [this];rfl
 rintro _ _ g ⟨dn,s1,rfl,hsp,hs1,rfl,old,hlt,hg⟩ f ih
 have hl1:=jbi c s1
 have hdn:dn.length+cntB c s1=cntB c s:=by
  have:=congrArg List.length hsp
  simp only [ze] at this
  omega
 by_cases hz:cntB c s1=0
 case pos=>
  have e1:jai c s1=[s1]:=jbO (jdf hz)
  rw [hz] at hg
  have hst:(strs dn++List.replicate (0+1) (V.str []))[0+((dn.length:Nat):Int).toNat*1]?=some (.str []):=by simp
  clear ih
  refine qx ?_
  subst hC3
  clear hC2
  refine qx ?_
  refine zcs rfl rfl rfl hg Zd ?_
  refine qx ?_
  have hlen:((dn.length:Nat):Int)+1=((dn.length+1:Nat):Int):=by omega
  rw [hlen]
  refine Ops.slice_h (sz:=1) rfl rfl om (zn _) ?_
  rw [show dn.length+1=(jai c s).length by omega,show cntB c s+1=(jai c s).length by omega]
  refine qx ?_
  have hcl2:(strs dn++List.replicate (0+1) (V.str [])).set (0+((dn.length:Nat):Int).toNat*1) (.str s1)=strs (jai c s):=by
   rw [hsp,e1,show (0+((dn.length:Nat):Int).toNat*1)=(strs dn).length by simp,jjw]
   simp
  refine ⟨old.set (zn _),h.nx,zn _,by simpa using hlt,rfl,?_⟩
  rw [hcl2]
  exact jab _
 obtain ⟨w,r,rfl,hw,hi,hc⟩:=jc4 (Nat.pos_of_ne_zero hz)
 have e0:=st_index hcl (d:=d-1) (h:=g) (s:=w++c :: r) (c:=c) om
 rw [hi] at e0
 have hl2:(dn.length:Int)<(cntB c s:Int):=by omega
 have hl3 : ¬ ((w.length:Nat):Int)<0:=by omega
 have hl4:dn.length<cntB c s+1:=by omega
 have hw1:w.length+r.length+1<=40000000:=by simp at hs1;omega
 clear hC3
 subst hC2
 refine qx ?_
 rw [show ((w.length:Nat):Int)+0=((w.length:Nat):Int) by omega]
 refine Ops.strTo rfl rfl Zd ?_
 refine qx ?_
 refine zcs rfl rfl rfl hg Zd ?_
 refine qx ?_
 rw [show ((w.length:Nat):Int)+(([c].length:Nat):Int)=((w.length+1:Nat):Int) by simp]
 refine Ops.strFrom rfl rfl Zd ?_
 refine qx ?_
 have ht:(w++c :: r).take w.length=w:=List.take_left' rfl
 have hdr:(w++c :: r).drop (w.length+1)=r:=by
  rw [<- List.drop_drop,List.drop_left' rfl];rfl
 have hcl2:(strs dn++List.replicate (cntB c (w++c :: r)+1) (V.str [])).set (0+((dn.length:Nat):Int).toNat*1) (.str w)=strs (dn++[w])++List.replicate (cntB c r+1) (.str []):=by
  rw [show (0+((dn.length:Nat):Int).toNat*1)=(strs dn).length by simp,hc,jjw]
  simp
 rw [ht,hdr,hcl2]
 refine ih (cntB c r) om _ _ ⟨dn++[w],r,rfl,by rw [hsp,jbo hw,List.append_assoc];rfl,by omega,?_,old.set (zn _),by simpa using hlt,jab _⟩
 rw [show ((dn++[w]).length:Int)=(dn.length:Int)+1 by simp]
theorem jhZ {d:Nat} {h:H} {s:List UInt8} {c:UInt8} (hd:6<=d) (hs:s.length<=40000000) (hc0:cntB c s<=50000) : ∃ v h',cl d (.fn 73) [.str s,.str [c]] h=some (v,h')/\Old h h'/\WN h h' v (jai c s):=by
 obtain ⟨v,h1,e1,q⟩:=jhx hcl (d:=d-1) (h:=h) (c:=c) om hs hc0
 refine aT hcl ?_
 refine qx ?_
 exact q
end
abbrev errT:Nat:=171
abbrev gS:Nat:=3
abbrev gR:Nat:=4
abbrev gW:Nat:=0
def lowB:Bool:=(List.range 256).all fun k=>match jbJ .or .u8 (k:Int) 32 with
 | some (.int .u8 n)=>n == (((UInt8.ofNat k ||| 32).toNat:Nat):Int)
 | _=>false
theorem lowB_ok:lowB=true:=by kernel_rfl
theorem low_or (c:UInt8):jbJ .or .u8 (c.toNat:Int) 32=some (.int .u8 ((c ||| 32).toNat:Int)):=by
 have hc:=c.toNat_lt
 have h:=zJ.1 lowB_ok c.toNat (List.mem_range.2 hc)
 rw [UInt8.ofNat_toNat] at h
 split at h
 ·next n e=>rw [e];simp only [beq_iff_eq] at h;rw [h]
 ·cases h
def errV:Nat->V
 | 0=>.nili
 | k+1=>.iface errT (.i ((k+1:Nat):Int))
theorem digV_le (c:UInt8):digV c<36\/digV c=255:=by
 have:=(c ||| 32).toNat_lt
 unfold digV
 (repeat' split)<;>omega
section
variable {cl:Nat->Call} (hcl:Sem cl) {d:Nat}
include hcl
theorem pu_low {c:UInt8} {h:H} (hd:1<=d):cl d (.fn 129) [.int .u8 (c.toNat:Int)] h=some (.int .u8 ((c ||| 32).toNat:Int),h):=by
 refine jau (aT hcl ?_)
 refine Run.seq (zac ?_)
 refine qx ?_
 exact ⟨Option.some.inj (low_or c) ▸ rfl,rfl⟩
theorem pu_dig {K:List Fr} {Q:Post} {h:H} {c:UInt8} {b1 b9 b10 b11 b13 b99 b100 b101:V} (hd:1<=d)
  (T:digV c<36->End (cl d) fuel K .normal [(1,b1),(8,.bool false),(9,b9),(10,b10),(11,b11),(12,.bool false),(13,b13),(16,.int .u8 (digV c:Int)),(99,b99),(100,b100),(101,b101)] h Q)
  (T2:digV c=255->End (cl d) fuel K .ret [(6,.int .u64 0),(7,errV 2)] h Q) :
  Run (cl d) fuel c104_7 K [(1,b1),(8,.bool false),(9,b9),(10,b10),(11,b11),(12,.bool false),(13,b13),(15,.int .u8 (c.toNat:Int)),(99,b99),(100,b100),(101,b101)] h Q:=by
 have hc:=c.toNat_lt
 have hl:=(c ||| 32).toNat_lt
 obtain ⟨C6,hC6⟩ : ∃ C,C=c104_6:=⟨_,rfl⟩
 have key : ∀ sbe:Env,Run (cl d) fuel C6 K ((1,b1) :: (8,.bool false) :: (9,b9) :: (10,b10) :: (11,b11) :: (12,.bool false) :: (13,b13) :: (15,.int .u8 (c.toNat:Int)) :: (99,b99) :: (100,b100) :: (101,b101) :: sbe) h Q:=by
  intro sbe
  have e1:=pu_low hcl (d:=d) (c:=c) (h:=h) hd
  subst hC6
  obtain ⟨C5,hC5⟩ : ∃ C,C=c104_5:=⟨_,rfl⟩
  have k5 : ¬ (48<=c.toNat/\c.toNat<=57) -> ∀ sbe:Env,Run (cl d) fuel C5 K ((1,b1) :: (8,.bool false) :: (9,b9) :: (10,b10) :: (11,b11) :: (12,.bool false) :: (13,b13) :: (15,.int .u8 (c.toNat:Int)) :: (99,b99) :: (100,b100) :: (101,b101) :: sbe) h Q:=by
   intro hn sbe
   subst hC5
   simp only [c104_5,c104_4,uF,yK]
   by_cases h1:97<=(c ||| 32).toNat
   ·by_cases h2:(c ||| 32).toNat<=122
    ·have hv:digV c=(c ||| 32).toNat-87:=by rw [digV,zt hn,zw ⟨h1,h2⟩]
     have T:=T om
     rw [hv] at T
     have e2:IntKind.u8.wrap (IntKind.u8.wrap (((c ||| 32).toNat:Int)-97)+10)=(((c ||| 32).toNat-87:Nat):Int):=by
      rw [IntKind.wrap_u8,IntKind.wrap_u8];omega
     clear T2
     refine qx ?_
     rw [e2]
     exact T
    ·have hv:digV c=255:=by rw [digV,zt hn,zt om]
     have T2:=T2 hv
     clear T
     refine qx ?_
     exact T2
   ·have hv:digV c=255:=by rw [digV,zt hn,zt om]
    have T2:=T2 hv
    clear T
    refine qx ?_
    exact T2
  simp only [c104_6,<- hC5,yL]
  by_cases h1:48<=c.toNat
  ·by_cases h2:c.toNat<=57
   ·have hv:digV c=c.toNat-48:=by rw [digV,zw ⟨h1,h2⟩]
    have T:=T om
    rw [hv] at T
    have e2:IntKind.u8.wrap ((c.toNat:Int)-48)=((c.toNat-48:Nat):Int):=by rw [IntKind.wrap_u8];omega
    clear T2 k5 e1
    refine qx ?_
    rw [e2]
    exact T
   ·have k5:=k5 om
    clear T2 T e1
    refine qx ?_
    exact k5 _
  ·have k5:=k5 om
   clear T2 T e1
   refine qx ?_
   exact k5 _
 simp only [c104_7,<- hC6,yH]
 clear T T2
 by_cases h1:(c.toNat:Int)=95
 ·refine qx ?_
  exact key _
 ·refine qx ?_
  exact key _
theorem jj3 {h:H} {s s0:List UInt8} {base cut mx:Nat} (hd:1<=d) (hb:base<=36) (hc : ∀ n:Nat,n<cut->n*base<=18446744073709551615) (hcm:cut<=18446744073709551615) (hm:mx<=18446744073709551615) (hs:s.length<=50000) :
  Run (cl d) fuel c104_12 [] [(0,.str s),(1,.i (base:Int)),(8,.bool false),(9,.str s0),(10,.int .u64 (cut:Int)),(11,.int .u64 (mx:Int)),(12,.bool false),(13,.int .u64 0)] h
   (Fin c104.res fun v h'=>v = .tup [.int .u64 ((puN base cut mx s 0).1:Int),errV (puN base cut mx s 0).2]/\Old h h'):=by
 obtain ⟨C9,hC9⟩ : ∃ C,C=c104_9:=⟨_,rfl⟩
 obtain ⟨C11,hC11⟩ : ∃ C,C=c104_11:=⟨_,rfl⟩
 simp only [c104_12,c104_10,<- hC9,<- hC11,yB,yN]
 refine qx ?_
 refine zcu (ob := .cells (bts s) false) (mk:=fun b=>.slice (some (b,0)) s.length (.grow 1)) rfl ?_ ?_
 ·have h1:Nat.ble s.length (2 ^ 46)=true:=Nat.ble_eq_true_of_le om
  show (bif Nat.ble s.length (2 ^ 46) then _ else _)=_
  rw [h1];rfl
 have hg:=jac (h:=h) (.cells (bts s) false)
 have hold:=(zW h).new (o := .cells (bts s) false)
 generalize hG:h.new (.cells (bts s) false)=G at hg hold
 clear hG
 generalize hR:puN base cut mx s 0=R
 refine qx ?_
 refine zV (fun m e g=>∃ (i n:Nat),m=s.length-i/\i<=s.length/\n<=18446744073709551615/\e=[(1,.i (base:Int)),(8,.bool false),(9,.str s0),(10,.int .u64 (cut:Int)),(11,.int .u64 (mx:Int)),(12,.bool false),(13,.int .u64 (n:Int)),(99,.slice (some (h.nx,0)) s.length (.grow 1)),(100,.i (s.length:Int)),(101,.i (i:Int))]/\g=G/\puN base cut mx (s.drop i) n=R)
  (k:=s.length) Ze ⟨0,0,by omega,by omega,by omega,rfl,rfl,hR⟩ ?_
 clear hR
 rintro _ _ g ⟨i,n,rfl,hi,hn,rfl,rfl,hR⟩ f ih
 by_cases hlt:i<s.length
 case neg=>
  obtain rfl:i=s.length:=by omega
  rw [List.drop_length,puN] at hR
  subst hR
  clear ih
  refine qx ?_
  rw [hC11]
  clear hC11
  refine qx ?_
  exact ⟨rfl,hold⟩
 obtain ⟨c,hcs⟩ : ∃ c,s[i]?=some c:=⟨_,za hlt⟩
 have hq:(bts s)[0+(i:Int).toNat*1]?=some (.int .u8 (c.toNat:Int)):=by
  rw [zG,Nat.mul_one,zq,bts,List.getElem?_map,hcs];rfl
 have hdr:s.drop i=c :: s.drop (i+1):=by
  rw [List.drop_eq_getElem_cons hlt]
  congr 1
  rw [za hlt] at hcs
  exact Option.some.inj hcs
 rw [hdr,puN] at hR
 have hi1:(i:Int)+1=((i+1:Nat):Int):=by omega
 have hb8:IntKind.u8.wrap (base:Int)=(base:Int):=by rw [IntKind.wrap_u8];omega
 have hb64:IntKind.u64.wrap (base:Int)=(base:Int):=by rw [IntKind.wrap_u64];omega
 have hdle:=digV_le c
 obtain ⟨C7,hC7⟩ : ∃ C,C=c104_7:=⟨_,rfl⟩
 obtain ⟨C8,hC8⟩ : ∃ C,C=c104_8:=⟨_,rfl⟩
 rw [hC9] at ih ⊢
 simp only [c104_9,<- hC7,<- hC8,yC] at ih ⊢
 clear hC11
 refine qx ?_
 rw [hC7] at ih ⊢
 refine pu_dig hcl hd (fun h36=>?_) fun h255=>?_
 case refine_2=>
  rw [zw om] at hR
  subst hR
  clear ih
  refine qx ?_
  exact ⟨rfl,hold⟩
 clear hC7
 generalize hdg:digV c=dv at hR h36 ⊢
 have hd64:IntKind.u64.wrap (dv:Int)=(dv:Int):=by rw [IntKind.wrap_u64];omega
 refine qx ?_
 subst hC8
 by_cases g1:base<=dv
 ·rw [zw g1] at hR
  subst hR
  clear ih
  have g1':(base:Int)<=(dv:Int):=by omega
  refine qx ?_
  exact ⟨rfl,hold⟩
 rw [zt g1] at hR
 have g1' : ¬ (base:Int)<=(dv:Int):=by omega
 by_cases g2:cut<=n
 ·rw [zw g2] at hR
  subst hR
  clear ih
  have g2':(cut:Int)<=(n:Int):=by omega
  refine qx ?_
  exact ⟨rfl,hold⟩
 rw [zt g2] at hR
 have g2' : ¬ (cut:Int)<=(n:Int):=by omega
 have hnb:=hc n om
 have hnb64:IntKind.u64.wrap ((n:Int)*IntKind.u64.wrap (base:Int))=((n*base:Nat):Int):=by
  rw [hb64,IntKind.wrap_u64,<- Int.natCast_mul];omega
 generalize hp:n*base=p at hnb hnb64 hR
 by_cases g3:mx<p+dv
 ·rw [zw g3] at hR
  subst hR
  clear ih
  by_cases ho:p+dv<=18446744073709551615
  ·have q2:(mx:Int)<(p:Int)+(dv:Int):=by omega
   refine qx ?_
   exact ⟨rfl,hold⟩
  ·have hw:IntKind.u64.wrap (IntKind.u64.wrap ((n:Int)*IntKind.u64.wrap (base:Int))+IntKind.u64.wrap (dv:Int))=(p:Int)+(dv:Int)-18446744073709551616:=by rw [hnb64,hd64,IntKind.wrap_u64];omega
   have q1:(p:Int)+(dv:Int)-18446744073709551616<(p:Int):=by omega
   refine qx ?_
   exact ⟨rfl,hold⟩
 ·rw [zt g3] at hR
  have q0:p+dv<=18446744073709551615:=by omega
  have q1 : ¬ (p:Int)+(dv:Int)<(p:Int):=by omega
  have q2 : ¬ (mx:Int)<(p:Int)+(dv:Int):=by omega
  refine qx ?_
  rw [hi1,hnb64,hd64]
  exact ih (s.length-(i+1)) om _ _ ⟨i+1,p+dv,rfl,by omega,q0,rfl,rfl,hR⟩
end
structure Gv (h:H):Prop where
 pw:Pw h
 lS:gS<h.nx
 lR:gR<h.nx
 lW:gW<h.nx
 eS:jaO gS h=true
 eR:jaO gR h=true
 wd : ∃ ro,h.get gW=some (.cells (strs jcG) ro)
theorem jec {g:Nat} {h h':H} (e:h'.get g=h.get g) (k:jaO g h=true):jaO g h'=true:=by unfold jaO at k ⊢;rw [e];exact k
theorem Gv.old {h h':H} (a:Gv h) (o:Old h h'):Gv h' where
 pw:=a.pw.old o
 lS:=zo a.lS o.1
 lR:=zo a.lR o.1
 lW:=zo a.lW o.1
 eS:=jec (o.2 _ a.lS) a.eS
 eR:=jec (o.2 _ a.lR) a.eR
 wd:=by obtain ⟨ro,e⟩:=a.wd;exact ⟨ro,by rw [o.2 _ a.lW,e]⟩
theorem Old.trans' {h k g:H} (a:Old h k) (hx:k.nx<=g.nx) (hk : ∀ j,j<h.nx->g.get j=k.get j):Old h g:=⟨zu a.1 hx,fun j hj=>by rw [hk j hj,a.2 j hj]⟩
theorem jj4 (base cut mx:Nat) : ∀ (s:List UInt8) (n:Nat),(puN base cut mx s n).2=0\/(puN base cut mx s n).2=1\/(puN base cut mx s n).2=2
 | [],n=>.inl rfl
 | c :: r,n=>by
  unfold puN
  split
  ·exact .inr (.inr rfl)
  ·split
   ·exact .inr (.inl rfl)
   ·split
    ·exact .inr (.inl rfl)
    ·exact jj4 base cut mx r _
theorem puS_err (base cut mx:Nat) (s:List UInt8):(puS base cut mx s).2=0\/(puS base cut mx s).2=1\/(puS base cut mx s).2=2:=by
 unfold puS
 split
 ·exact .inr (.inr rfl)
 ·exact jj4 base cut mx s 0
def PuB (base bits cut mx:Nat):Prop:=(base=10/\bits=64/\cut=1844674407370955162/\mx=18446744073709551615)\/(base=16/\bits=8/\cut=1152921504606846976/\mx=255)
theorem jh9 {u:Nat} (hu:u<18446744073709551616) : ∀ r,Lib.parseUint10 0 (dec u++r)=Lib.parseUint10 u r:=by
 induction u using Nat.strongRecOn with
 | _ u ih=>
  have key : ∀ k,k<10->(UInt8.ofNat (48+k)).toNat=48+k:=fun k hk=>by simp;omega
  intro r
  by_cases h:u<10
  ·rw [jd9 h,List.singleton_append,Lib.parseUint10,key u h,zw om,zt om,zt om]
   congr 1;omega
  ·rw [jeF h hu,List.append_assoc,ih (u/10) om om,List.singleton_append,Lib.parseUint10,key _ om,zw om,zt om,zt om]
   congr 1;omega
theorem jed {u:Nat} (hu:u<9223372036854775808):Lib.atoiAll (dec u) = .ok (u:Int):=by
 have hd:=jjO (u:=u) om
 have hp:=jh9 (u:=u) om []
 rw [List.append_nil] at hp
 cases hc:dec u with
 | nil=>exact zC hc (jkx om)
 | cons c r=>
  have h1:=hd c (by rw [hc];simp)
  rw [hc] at hp
  rw [Lib.atoiAll_plain c r om om,Lib.parseMag,zt Zd,hp]
  simp only [Lib.parseUint10,Lib.signless]
  rw [zt om]
section
variable {cl:Nat->Call} (hcl:Sem cl) {d:Nat}
include hcl
theorem pu_int {h:H} {s:List UInt8} {base bits cut mx:Nat} (hb:PuB base bits cut mx) (hd:2<=d) (hs:s.length<=50000) :
  ∃ h',cl d (.fn 104) [.str s,.i (base:Int),.i (bits:Int)] h=some (.tup [.int .u64 ((puS base cut mx s).1:Int),errV (puS base cut mx s).2],h')/\Old h h':=by
 refine jaS (aT hcl ?_)
 by_cases h0:s=[]
 ·subst h0
  rcases hb with ⟨rfl,rfl,rfl,rfl⟩ | ⟨rfl,rfl,rfl,rfl⟩
  all_goals
   repeat' (first|refine qxy ?_|(refine zsp ?_ ?_<;>intro _)|fail)
   exact ⟨rfl,zW h⟩
 have hne:(s == ([]:List UInt8))=false:=by
  cases s with
  | nil=>exact zC rfl h0
  | cons a l=>rfl
 rw [puS,zt h0]
 obtain ⟨C12,hC12⟩ : ∃ C,C=c104_12:=⟨_,rfl⟩
 rcases hb with ⟨rfl,rfl,rfl,rfl⟩ | ⟨rfl,rfl,rfl,rfl⟩
 ·have T:=jj3 hcl (d:=d-1) (h:=h) (s:=s) (s0:=s) (base:=10) (cut:=1844674407370955162) (mx:=18446744073709551615) om om (fun n hn=>by omega) om om hs
  rw [<- hC12] at T
  simp only [c104,c104_26,c104_25,c104_17,c104_15,<- hC12,uF,yF,yH,yN]
  refine qx ?_
  exact T
 ·have T:=jj3 hcl (d:=d-1) (h:=h) (s:=s) (s0:=s) (base:=16) (cut:=1152921504606846976) (mx:=255) om om (fun n hn=>by omega) om om hs
  rw [<- hC12] at T
  simp only [c104,c104_26,c104_25,c104_17,c104_15,<- hC12,uF,yF,yH,yN]
  refine qx ?_
  exact T
theorem jkq {h:H} {s:List UInt8} {base bits cut mx:Nat} (g:Gv h) (hb:PuB base bits cut mx) (hd:3<=d) (hs:s.length<=50000) :
  ∃ h',cl d (.fn 74) [.str s,.i (base:Int),.i (bits:Int)] h=some (.tup [.int .u64 ((puS base cut mx s).1:Int),if (puS base cut mx s).2=0 then .nili else .ifc],h')/\Old h h':=by
 obtain ⟨h1,e1,o1⟩:=pu_int hcl (d:=d-1) (h:=h) hb om hs
 have g1:=g.old o1
 have hp:=puS_err base cut mx s
 generalize puS base cut mx s=R at e1 hp ⊢
 obtain ⟨n,k⟩:=R
 have eT : ∀ j:Nat,(j=1\/j=2)->cl (d-1) (.fn 105) [.str [80,97,114,115,101,85,105,110,116],.str s,.i (base:Int),.i (bits:Int),.iface errT (.i (j:Int))] h1=some (.ifc,h1):=by
  intro j hj
  rw [jfw hcl om (p:=jcZ gS gR errT) rfl]
  have hl:Nat.ble s.length 140737488355328=true:=Nat.ble_eq_true_of_le om
  have e2:=g1.eS
  have e3:=g1.eR
  rcases hj with rfl | rfl
  ·show (bif Nat.beq errT errT&&Nat.ble s.length 140737488355328 then (bif Nat.beq 1 2 then (bif jaO gS h1 then some (V.ifc,h1) else none) else bif Nat.beq 1 1 then (bif jaO gR h1 then some (V.ifc,h1) else none) else none) else none)=_
   rw [hl,e3];rfl
  ·show (bif Nat.beq errT errT&&Nat.ble s.length 140737488355328 then (bif Nat.beq 2 2 then (bif jaO gS h1 then some (V.ifc,h1) else none) else _) else none)=_
   rw [hl,e2];rfl
 refine jaS (aT hcl ?_)
 simp only at hp e1
 rcases hp with rfl | rfl | rfl
 ·refine qx ?_
  exact ⟨rfl,o1⟩
 ·have e2:=eT 1 (.inl rfl)
  clear eT
  refine qx ?_
  exact ⟨rfl,o1⟩
 ·have e2:=eT 2 (.inr rfl)
  clear eT
  refine qx ?_
  exact ⟨rfl,o1⟩
theorem jeo {h:H} {s:List UInt8} (g:Gv h) (hd:2<=d) (hs:s.length<=50000) :
  ∃ n:Int,cl d (.fn 75) [.str s] h=some (.tup [.i n,.bool (numP s).isSome],h) /\ ∀ n',numP s=some n'->n=n':=by
 have hl:Nat.ble s.length 140737488355328=true:=Nat.ble_eq_true_of_le om
 have e0:cl (d-1) (.fn 106) [.str s] h=je0 gS gR [.str s] h:=jfw hcl om rfl
 have e1:je0 gS gR [.str s] h=(match Lib.atoiAll s with
   | .ok v=>some (.tup [.i v,.nili],h)
   | .syntax=>bif jaO gS h then some (.tup [.i 0,.ifc],h) else none
   | .range=>bif jaO gR h then some (.tup [.i (Lib.atoiSat s),.ifc],h) else none):=by
  show (bif Nat.ble s.length 140737488355328 then _ else _)=_
  rw [hl,cond_true]
  cases Lib.atoiAll s<;>rfl
 rw [e1] at e0
 clear e1
 have bad:(∀ v,Lib.atoiAll s ≠ .ok v)->numP s=none:=fun h=>by
  cases hn:numP s with
  | none=>rfl
  | some n=>
   obtain ⟨h1,h2,h3⟩:=jbR hn
   have:=jed (u:=n.toNat) om
   rw [h3] at this
   exact zC this (h _)
 have call : ∀ (n:Int) (b:Bool),(∃ v' h',cl d (.fn 75) [.str s] h=some (v',h')/\v' = .tup [.i n,.bool b]/\h'=h)->cl d (.fn 75) [.str s] h=some (.tup [.i n,.bool b],h):=fun _ _ k=>jau k
 split at e0
 ·next v hv=>
  by_cases hneg:0<=v
  ·have hbd:=Lib.atoiAll_bounds hv
   have e2:=jfj hcl (d:=d-1) (u:=v.toNat) (h:=h) om om g.pw
   rw [Int.toNat_of_nonneg hneg] at e2
   refine ⟨v,call _ _ (aT hcl ?_),fun n' hn=>?_⟩
   ·have hS:(numP s).isSome=(dec v.toNat == s):=by
     by_cases hd2:dec v.toNat=s
     ·have h1:=jdW (u:=v.toNat) om
      rw [hd2] at h1
      rw [h1,hd2];simp
     ·have:numP s=none:=by
       cases hn:numP s with
       | none=>rfl
       | some n=>
        obtain ⟨h1,h2,h3⟩:=jbR hn
        have:=jed (u:=n.toNat) om
        rw [h3,hv] at this
        injection this with this
        rw [this,zq] at hd2
        exact zC h3 hd2
      rw [this];simp [hd2]
    rw [hS]
    refine qx ?_
    exact ⟨rfl,rfl⟩
   ·obtain ⟨h1,h2,h3⟩:=jbR hn
    have:=jed (u:=n'.toNat) om
    rw [h3,hv] at this
    injection this with this
    omega
  ·have hn0:numP s=none:=by
    cases hn:numP s with
    | none=>rfl
    | some n=>
     obtain ⟨h1,h2,h3⟩:=jbR hn
     have:=jed (u:=n.toNat) om
     rw [h3,hv] at this
     injection this with this
     omega
   rw [hn0]
   refine ⟨v,call _ _ (aT hcl ?_),fun n' hn=>by cases hn⟩
   refine qx ?_
   exact ⟨rfl,rfl⟩
 ·next hv=>
  have hn0:=bad (fun v e=>by rw [hv] at e;cases e)
  rw [hn0]
  rw [g.eS,cond_true] at e0
  refine ⟨0,call _ _ (aT hcl ?_),fun n' hn=>by cases hn⟩
  refine qx ?_
  exact ⟨rfl,rfl⟩
 ·next hv=>
  have hn0:=bad (fun v e=>by rw [hv] at e;cases e)
  rw [hn0]
  rw [g.eR,cond_true] at e0
  refine ⟨Lib.atoiSat s,call _ _ (aT hcl ?_),fun n' hn=>by cases hn⟩
  refine qx ?_
  exact ⟨rfl,rfl⟩
theorem st_bytes {h:H} {s:List UInt8} (g:Gv h) (hd:4<=d) (hs:s.length<=50000) :
  ∃ v h',cl d (.fn 108) [.str s] h=some (.tup [v,.bool (bytS s).isSome],h')/\Old h h'/\v.one=true /\ ∀ D,bytS s=some D->VB h' v D /\ ∀ z,v.at?=some z->h.nx<=z:=by
 suffices q : ∃ w h',cl d (.fn 108) [.str s] h=some (w,h') /\ ∃ v,w = .tup [v,.bool (bytS s).isSome]/\Old h h'/\v.one=true /\ ∀ D,bytS s=some D->VB h' v D /\ ∀ z,v.at?=some z->h.nx<=z by
  obtain ⟨w,h',e,v,rfl,q⟩:=q
  exact ⟨v,h',e,q⟩
 refine aT hcl ?_
 generalize hR:bytS s=R
 obtain ⟨C1,hC1⟩ : ∃ C,C=c108_1:=⟨_,rfl⟩
 simp only [c108,c108_2,<- hC1,yB,yF]
 refine qx ?_
 refine zV (fun m e k=>∃ (s1 out:List UInt8) (sv:V),m=s1.length/\s1.length+2*out.length<=50000/\e=[(0,.str s1),(4,sv)]/\Row h.nx k 1 sv out.length (bts out)/\Old h k/\(bytS s1).map (out ++ ·)=R)
  (k:=s.length) Ze ⟨s,[],.nils,rfl,by simpa using hs,rfl,Row.nil _ _ _,zW h,by rw [hR];cases R<;>rfl⟩ ?_
 clear hR
 rintro _ _ k ⟨s1,out,sv,rfl,hl,rfl,row,old,hR⟩ f ih
 have hone:sv.one=true:=by
  rcases row with ⟨_,_,rfl⟩ | ⟨q,_,_,rfl,_⟩<;>rfl
 match s1,hl,hR,ih with
 | [],hl,hR,ih=>
  obtain rfl:some out=R:=by rw [<- hR];simp [bytS]
  clear ih
  refine qx ?_
  refine ⟨_,rfl,old,hone,fun D hD=>?_⟩
  cases hD
  exact ⟨(VB.ofRow row).1,fun z hz=>((VB.ofRow row).2 z hz).1⟩
 | [a],hl,hR,ih=>
  obtain rfl:none=R:=by rw [<- hR];simp [bytS]
  clear ih
  have h1 : ¬ (1:Int)<(([a].length:Nat):Int):=by simp
  refine qx ?_
  exact ⟨_,rfl,old,hone,fun D hD=>by cases hD⟩
 | a :: b :: r,hl,hR,ih=>
  have h1:(1:Int)<(((a :: b :: r).length:Nat):Int):=by simp;omega
  have gk:=g.old old
  obtain ⟨k1,e1,o1⟩:=jkq hcl (d:=d-1) (h:=k) (s:=[a,b]) (base:=16) (bits:=8) (cut:=1152921504606846976) (mx:=255) gk (.inr ⟨rfl,rfl,rfl,rfl⟩) om Zd
  have e1:cl (d-1) (.fn 74) [.str [a,b],.i 16,.i 8] k=some (.tup [.int .u64 ((puS 16 1152921504606846976 255 [a,b]).1:Int),if (puS 16 1152921504606846976 255 [a,b]).2=0 then .nili else .ifc],k1):=e1
  have hp:puS 16 1152921504606846976 255 [a,b]=puN 16 1152921504606846976 255 [a,b] 0:=rfl
  rw [hp] at e1
  rw [bytS] at hR
  generalize puN 16 1152921504606846976 255 [a,b] 0=p at e1 hR
  obtain ⟨n,er⟩:=p
  simp only at e1 hR
  subst hC1
  clear hp
  by_cases h0:er=0
  ·subst h0
   rw [zw rfl] at e1
   refine qx ?_
   have row1:=row.keep o1.1 fun q hq=>o1.2 q (row.at_ge hq).2
   have hw:IntKind.u8.wrap (n:Int)=((UInt8.ofNat n).toNat:Int):=by rw [IntKind.wrap_u8];simp
   rw [hw]
   refine Ops.push (N:=h.nx) (new:=[.int .u8 ((UInt8.ofNat n).toNat:Int)]) rfl rfl rfl rfl om rfl rfl row1 (zu old.1 o1.1) (by simp at hl;omega) (by simp at hl;omega) fun v2 g2 row' hx' hz' hk'=>?_
   refine qx ?_
   have hb:bts out++[V.int .u8 ((UInt8.ofNat n).toNat:Int)]=bts (out++[UInt8.ofNat n]):=by simp [bts,jbu]
   rw [hb] at row'
   have old2:Old h g2:=(old.trans o1).trans' hx' fun j hj=>hk' j (zo hj (zu old.1 o1.1)) fun e=>by have:=row1.at_ge e;omega
   refine ih r.length Zc _ _ ⟨r,out++[UInt8.ofNat n],v2,rfl,by simp at hl ⊢;omega,by rw [List.take_length];rfl,by simpa using row',old2,?_⟩
   rw [<- hR]
   cases bytS r<;>simp
  ·rw [zt h0] at e1
   obtain rfl:none=R:=by
    rw [<- hR]
    cases er with
    | zero=>exact zC rfl h0
    | succ er=>rfl
   clear ih
   refine qx ?_
   exact ⟨_,rfl,old.trans o1,rfl,fun D hD=>by cases hD⟩
end
section
variable {cl:Nat->Call} (hcl:Sem cl)
include hcl
end
section
variable {cl:Nat->Call} (hcl:Sem cl) {h h0:H} {w s:Nat} {ow:Nat->Nat} {l:List WX} {now:Int} {tb:Tb} {no:Option (Nat × Nat)} {v:V} {L:List (List UInt8)}
theorem jjn {d N:Nat} {xs:List (List UInt8)} {t:List UInt8} (hcl:Sem cl) (hd:1<=d) (r:SR N h v xs) (hs:(Lib.join xs t).length<=100000000) (hx:xs.length<=1000):cl d (.fn 67) [v,.str t] h=some (.str (Lib.join xs t),h):=by
 obtain ⟨q,c,h1,h2,rfl,hc,hg⟩:=r
 exact w_Join hcl hd hg (by rw [zi,zf Zd]) rfl hs om
include hcl
end
theorem jfL (c:UInt8) (w:List UInt8) (ws:List (List UInt8)):Lib.join (w :: ws) [c]=jaN c (w :: ws):=by rw [Lib.join_cons];rfl
theorem jgf {c:UInt8} {k:Nat} : ∀ {ws:List (List UInt8)},(∀ w∈ws,w.length<=k)->(jb3 c ws).length<=(k+1)*ws.length
 | [],_=>by simp [jb3]
 | w :: ws,h=>by
  have h1:=h w Zd
  have h2:=jgf (c:=c) (ws:=ws) (fun v hv=>h v (zj _ hv))
  have e:(k+1)*(w :: ws).length=(k+1)*ws.length+(k+1):=by rw [List.length_cons,Nat.mul_add,Nat.mul_one]
  rw [jdh,e]
  simp only [List.length_cons,ze]
  omega
def jfy (m:Mv) (c:UInt8):List UInt8:=if c=119 then dec m.wire.toNat else if c=110 then dec m.n.toNat else hexS m.D
theorem mvW_parts {m:Mv} (h1:1<=m.op) (h2:m.op<=7):mvW m=ja5 m.op :: (jaq m.op).map (jfy m):=by
 unfold mvW jaq
 rcases jf6 h1 h2 with h | h | h | h | h | h | h<;>rw [h]<;>rfl
theorem jgz {op:Int} : ∀ c∈jaq op,c=119\/c=110\/c=100:=by
 unfold jaq
 (repeat' split)<;>simp
theorem SR.ne_int {N b:Nat} {h:H} {v:V} {l:List (List UInt8)} (r:SR N h v l) {k:IntKind} {n:Int} {t:List V} {ro:Bool} (hg:h.get b=some (.cells (.int k n :: t) ro)):v.at?≠some b:=by
 obtain ⟨q,c,h1,h2,rfl,hc,hg2⟩:=r
 intro e
 obtain rfl:q=b:=by simpa [V.at?] using e
 rw [hg] at hg2
 cases l with
 | nil=>cases hg2
 | cons w ws=>cases hg2
theorem SR.ne_it {N b:Nat} {h:H} {v:V} {l:List (List UInt8)} (r:SR N h v l) {s:List UInt8} {p:Nat} (hg:h.get b=some (.siter s p)):v.at?≠some b:=by
 obtain ⟨q,c,h1,h2,rfl,hc,hg2⟩:=r
 intro e
 obtain rfl:q=b:=by simpa [V.at?] using e
 rw [hg] at hg2;cases hg2
section
variable {call:Call} {fuel base:Nat} {ops:List Ins} {keep:List Nat} {K:List Fr} {e:Env} {h:H} {Q:Post} {ix:Nat} {dst at_:Option Nat}
theorem Ops.rangeS {x:Opd} {s:List UInt8} (hx:x.ev e=some (.str s)) (k:Ops call fuel base ops keep K (layv e dst (.p h.nx 0)) (h.new (.siter s 0)) Q):Ops call fuel base (⟨ix,dst,.range true x,none,at_,[]⟩ :: ops) keep K e h Q :=
 Ops.step (I.run_eff rfl (by simp only [I.eff,hx])) k
theorem Ops.nextN {x:Opd} {b p:Nat} {s:List UInt8} (hx:x.ev e=some (.p b 0)) (hg:h.get b=some (.siter s p)) (hs:s[p]?=none) (k:Ops call fuel base ops keep K (layv e dst (.tup [.bool false])) h Q):Ops call fuel base (⟨ix,dst,.next true x,none,at_,[]⟩ :: ops) keep K e h Q :=
 Ops.step (I.run_eff rfl (by simp only [I.eff,hx,hg,hs])) k
theorem Ops.nextS {x:Opd} {b p:Nat} {s:List UInt8} {c:UInt8} (hx:x.ev e=some (.p b 0)) (hg:h.get b=some (.siter s p)) (hs:s[p]?=some c) (hc:c.toNat<128) (k:Ops call fuel base ops keep K (layv e dst (.tup [.bool true,.i p,.int .i32 (c.toNat:Int)])) (h.set b (.siter s (p+1))) Q):Ops call fuel base (⟨ix,dst,.next true x,none,at_,[]⟩ :: ops) keep K e h Q:=by
 refine Ops.step (I.run_eff rfl ?_) k
 have:Nat.blt c.toNat 128=true:=by simp [Nat.blt];omega
 simp only [I.eff,hx,hg,hs,this,cond_true]
end
section
variable {cl:Nat->Call} (hcl:Sem cl) {d:Nat} {h0:H}
include hcl
theorem sm_hex {l:List UInt8} {v:V} {h:H} (hd:1<=d) (hb:VB h v l) (hl:l.length<=2000) :
  ∃ h',cl d (.fn 68) [v] h=some (.str (hexS l),h')/\Old h h':=by
 obtain ⟨a,c,rfl,hn,hf,hq⟩:=hb
 refine jaS (aT hcl ?_)
 refine qx ?_
 refine zV (fun m e g=>∃ (i:Nat) (v:V),m=l.length-i/\i<=l.length/\e=[(3,v),(6,.slice a l.length c),(7,.i (l.length:Int)),(8,.i (i:Int))]/\Row h.nx g 1 v (2*i) (bts (hexS (l.take i)))/\Old h g)
  (k:=l.length) Ze ⟨0,.nils,by omega,by omega,rfl,Row.nil _ _ _,zW h⟩ ?_
 rintro _ _ g ⟨i,v,rfl,hi,rfl,row,old⟩ f ih
 by_cases hlt:i<l.length
 case neg=>
  obtain rfl:i=l.length:=by omega
  rw [List.take_length] at row
  refine qx ?_
  refine Ops.ofRow rfl row ?_
  refine qx ?_
  exact ⟨rfl,old⟩
 obtain ⟨q,o,cs,ro,rfl,hq1,hq2,hq4⟩:=hq (by rintro rfl;simp at hlt)
 have hq3:g.get q=some (.cells cs ro):=by rw [old.2 q hq1,hq2]
 obtain ⟨b,hb⟩ : ∃ b,l[i]?=some b:=⟨_,za hlt⟩
 have hb2:cs[o+(i:Int).toNat*1]?=some (.int .u8 (b.toNat:Int)):=by rw [Nat.mul_one,zq];exact hq4 i b hb
 clear hq hn hf
 refine qx ?_
 refine Run.region ?_
 refine qx ?_
 have e1:(b.toNat:Int).fdiv (2 ^ (Int.toNat 4).min IntKind.u8.bits)=((b.toNat/16:Nat):Int):=by
  show (b.toNat:Int).fdiv 16=_
  rw [Int.fdiv_eq_ediv_of_nonneg _ om];omega
 rw [e1]
 have hb256:=b.toNat_lt
 refine Ops.ixHex (n:=b.toNat/16) rfl rfl (jit om) ?_
 refine qx ?_
 have e2:IntKind.u8.wrap ((BitVec.ofInt IntKind.u8.bits (b.toNat:Int) &&& BitVec.ofInt IntKind.u8.bits 15).toNat:Int)=((b.toNat%16:Nat):Int):=by
  have q1:(BitVec.ofInt IntKind.u8.bits (b.toNat:Int)).toNat=b.toNat:=by
   show (BitVec.ofInt 8 (b.toNat:Int)).toNat=b.toNat
   rw [BitVec.toNat_ofInt];omega
  have q2:(BitVec.ofInt IntKind.u8.bits 15).toNat=15:=rfl
  rw [BitVec.toNat_and,q1,q2,show (15:Nat)=2 ^ 4-1 from rfl,Nat.and_two_pow_sub_one_eq_mod,IntKind.wrap_u8]
  omega
 rw [e2]
 refine Ops.ixHex (n:=b.toNat%16) rfl rfl (jit om) ?_
 refine Ops.bslice2_at (xv:=jbu (hx (b.toNat/16))) (yv:=jbu (hx (b.toNat%16))) rfl rfl rfl rfl ?_
 have row2:Row h.nx ((g.reserve 1).set (g.nx+0) (.cells [jbu (hx (b.toNat/16)),jbu (hx (b.toNat%16))] false)) 1 v (2*i) (bts (hexS (l.take i))):=by
  refine row.keep Zd fun z hz=>?_
  have:=(row.at_ge hz).2
  rw [jaa om,H.get_reserve]
 refine Ops.appendN (sb:=g.nx+0) (so:=0) (m:=2) (new:=[jbu (hx (b.toNat/16)),jbu (hx (b.toNat%16))]) rfl rfl row2 ?_ om (jab ..) Zd rfl rfl om om om fun v' h' r2 z1 z2 z3=>?_
 ·have:=old.1;simp;omega
 refine qx ?_
 refine ih (l.length-(i+1)) om _ _ ⟨i+1,v',rfl,by omega,rfl,?_,?_⟩
 ·rw [jgZ hb,show 2*(i+1)=2*i+2 by omega]
  simpa [bts] using r2
 ·refine ⟨by have:=old.1;rw [z1];simp;omega,fun j hj=>?_⟩
  rw [z3 j (by have:=old.1;simp;omega) fun e=>by have:=(row.at_ge e).1;omega]
  have:=old.1
  rw [jaa om,H.get_reserve,old.2 j hj]
def WlP (h0:H) (L:List (List UInt8)) (t:Env):Post:=fun x e h'=>x = .normal /\ ∃ sv sb,e=(3,sv) :: (t++sb)/\SR h0.nx h' sv L/\Old h0 h'
theorem wl_move {h:H} {m:Mv} {dv sv v43 v44 v45:V} {L:List (List UInt8)} {mb:Nat} {sb:Env} (gv:Gv h0) (hd:2<=d) (f:MvFit m) (o:Old h0 h) (hm1:h0.nx<=mb) (hm2:mb<h.nx) (hg:h.get mb=some (.cells (mvV m dv) false)) (hv:VB h0 dv m.D) (sr:SR h0.nx h sv L) (hL:L.length<=100000) :
  Run (cl d) fuel c32_5 [] ((3,sv) :: (8,.p mb 0) :: (43,v43) :: (44,v44) :: (45,v45) :: sb) h (WlP h0 (L++mvW m) [(8,.p mb 0),(43,v43),(44,v44),(45,v45)]):=by
 obtain ⟨⟨a1,a2,a3,a4,a5,a6,a7,a8⟩,w1,n1⟩:=f
 have gh:=gv.old o
 obtain ⟨wro,hw⟩:=gh.wd
 have hq:(strs jcG)[0+m.op.toNat*1]?=some (.str (ja5 m.op)):=by
  unfold ja5
  rw [zt om]
  have h1:m.op.toNat<8:=by omega
  generalize m.op.toNat=k at h1
  match k,h1 with
  | 0,_=>rfl | 1,_=>rfl | 2,_=>rfl | 3,_=>rfl | 4,_=>rfl | 5,_=>rfl | 6,_=>rfl | 7,_=>rfl
 have q0:(mvV m dv)[0+0]?=some (.i m.op):=rfl
 have q1:(mvV m dv)[0+1]?=some (.i m.wire):=rfl
 have q2:(mvV m dv)[0+2]?=some (.i m.n):=rfl
 have q3:(mvV m dv)[0+3]?=some dv:=rfl
 have hmne:=sr.ne_int (b:=mb) hg
 obtain ⟨C4,hC4⟩ : ∃ C,C=c32_4:=⟨_,rfl⟩
 simp only [c32_5,<- hC4,yJ]
 refine qx ?_
 refine Ops.strP (l:=L) rfl rfl o sr om fun v2 h2 sr2 o2 hx2 hk2=>?_
 have hg2:h2.get mb=some (.cells (mvV m dv) false):=by rw [hk2 mb hm2 hmne,hg]
 have e2:=jdR hcl (d:=d) (h:=h2) (op:=m.op) om
 clear hq hw hk2 hmne
 refine qx ?_
 refine Ops.rangeS rfl ?_
 have g2:=hg2
 have o3:Old h0 (h2.new (.siter (jaq m.op) 0)):=o2.new
 have sr3:SR h0.nx (h2.new (.siter (jaq m.op) 0)) v2 (L++[ja5 m.op]):=sr2.keep (zn _) ((zW h2).new)
 have hmb:mb<h2.nx:=by omega
 refine qx ?_
 have hpl:=parts_len m.op
 have hpm:=jgz (op:=m.op)
 rw [mvW_parts a1 a2]
 generalize hps:jaq m.op=ps at *
 refine zV (fun k e g=>∃ (i:Nat) (sv:V) (sbe:Env),k=ps.length-i/\i<=ps.length/\e=(3,sv) :: (8,.p mb 0) :: (43,v43) :: (44,v44) :: (45,v45) :: (59,.p h2.nx 0) :: sbe/\SR h0.nx g sv ((L++[ja5 m.op])++(ps.take i).map (jfy m))/\Old h0 g/\h2.nx<g.nx/\g.get h2.nx=some (.siter ps i)/\g.get mb=some (.cells (mvV m dv) false))
  (k:=ps.length) Ze ⟨0,v2,[],by omega,by omega,rfl,by simpa using sr3,o3,by simp,jac _,by rw [jaj hmb,hg2]⟩ ?_
 clear sr3 o3 sr2 o2 hg2 g2 e2 hx2
 rintro _ _ g ⟨i,sv3,sbe,rfl,hi,rfl,sr3,o3,hx3,hi3,hg3⟩ f ih
 subst hC4
 have hm3:=sr3.ne_int (b:=mb) hg3
 have hi4:=sr3.ne_it hi3
 by_cases hlt:i<ps.length
 case neg=>
  have hnone:ps[i]?=none:=zc om
  rw [zf om] at sr3
  clear ih
  refine qx ?_
  refine Ops.nextN rfl hi3 hnone ?_
  refine qx ?_
  exact End.nil ⟨rfl,sv3,_,rfl,by simpa using sr3,o3⟩
 obtain ⟨c,hc⟩ : ∃ c,ps[i]?=some c:=⟨_,za hlt⟩
 have hcm:=hpm c (zb hc)
 have hc128:c.toNat<128:=by rcases hcm with rfl | rfl | rfl<;>decide
 refine qx ?_
 refine Ops.nextS rfl hi3 hc hc128 ?_
 have hb0:h0.nx<=h2.nx:=by omega
 have o4:Old h0 (g.set h2.nx (.siter ps (i+1))):=o3.set hb0
 have sr4:SR h0.nx (g.set h2.nx (.siter ps (i+1))) sv3 ((L++[ja5 m.op])++(ps.take i).map (jfy m)):=sr3.keep_ne (zn _) fun j hj=>jaa fun e=>hi4 (by rw [hj,e])
 have hg4:(g.set h2.nx (.siter ps (i+1))).get mb=some (.cells (mvV m dv) false):=by rw [jaa om,hg3]
 have hi5:(g.set h2.nx (.siter ps (i+1))).get h2.nx=some (.siter ps (i+1)):=jab _
 have hx5:h2.nx<(g.set h2.nx (.siter ps (i+1))).nx:=by simpa using hx3
 have ht:(ps.take (i+1)).map (jfy m)=(ps.take i).map (jfy m)++[jfy m c]:=by rw [List.take_add_one,hc];simp
 have hL5:((L++[ja5 m.op])++(ps.take i).map (jfy m)).length<=100100:=by simp;omega
 clear hi3 hg3 sr3 o3 hx3 hi4 hm3
 generalize g.set h2.nx (.siter ps (i+1))=G at o4 sr4 hg4 hi5 hx5 ⊢
 have gG:=gv.old o4
 have fin : ∀ v5 h5,SR h0.nx h5 v5 (((L++[ja5 m.op])++(ps.take i).map (jfy m))++[jfy m c])->Old h0 h5->G.nx<=h5.nx->(∀ j,j<G.nx->sv3.at?≠some j->h5.get j=G.get j) -> ∀ sbe,_:=fun v5 h5 sr5 o5 hx hk sbe=>
  ih (ps.length-(i+1)) om ((3,v5) :: (8,.p mb 0) :: (43,v43) :: (44,v44) :: (45,v45) :: (59,.p h2.nx 0) :: sbe) h5 ⟨i+1,v5,sbe,rfl,by omega,rfl,by rw [ht,<- List.append_assoc];exact sr5,o5,by omega,by rw [hk _ hx5 (sr4.ne_it hi5),hi5],by rw [hk mb om (sr4.ne_int hg4),hg4]⟩
 clear ih
 rcases hcm with rfl | rfl | rfl
 ·have e5:=jfj hcl (d:=d) (u:=m.wire.toNat) (h:=G) om om gG.pw
  rw [Int.toNat_of_nonneg a3] at e5
  have k1:((119:UInt8).toNat:Int)=119:=rfl
  refine qx ?_
  refine Ops.strP (t:=dec m.wire.toNat) rfl rfl o4 sr4 om fun v5 h5 sr5 o5 hx5' hk5=>?_
  refine qx ?_
  exact fin v5 h5 sr5 o5 om hk5 _
 ·have e5:=jfj hcl (d:=d) (u:=m.n.toNat) (h:=G) om om gG.pw
  rw [Int.toNat_of_nonneg a4] at e5
  have k1 : ¬ ((110:UInt8).toNat:Int)=119:=by decide
  have k2:((110:UInt8).toNat:Int)=110:=rfl
  refine qx ?_
  refine Ops.strP (t:=dec m.n.toNat) rfl rfl o4 sr4 om fun v5 h5 sr5 o5 hx5' hk5=>?_
  refine qx ?_
  exact fin v5 h5 sr5 o5 om hk5 _
 ·obtain ⟨G2,e5,o5'⟩:=sm_hex hcl (d:=d) (h:=G) (l:=m.D) (v:=dv) om (hv.keep2 o4.1 fun hn z hz=>o4.2 z (hv.lt hn hz)) om
  have k1 : ¬ ((100:UInt8).toNat:Int)=119:=by decide
  have k2 : ¬ ((100:UInt8).toNat:Int)=110:=by decide
  refine qx ?_
  refine Ops.strP (t:=hexS m.D) rfl rfl (o4.trans o5') (sr4.keep (zn _) o5') om fun v5 h5 sr5 o5 hx5' hk5=>?_
  refine qx ?_
  exact fin v5 h5 sr5 o5 (by have:=o5'.1;omega) (fun j hj hne=>by rw [hk5 j (zo hj o5'.1) hne,o5'.2 j hj]) _
end
theorem mvW_len (m:Mv):(mvW m).length<=3:=by
 unfold mvW
 (repeat' split)<;>simp
theorem jdY : ∀ (l:List Mv),(l.map mvW).flatten.length<=3*l.length
 | []=>by simp
 | m :: l=>by
  have h1:=mvW_len m
  have h2:=jdY l
  simp only [List.map_cons,zL,ze,List.length_cons]
  omega
theorem je9 {x:Sp} (f:SpFit x):(jaE x).length<=200000:=by
 have h1:=jc0 (u:=x.ticks.toNat) (m:=19) (by have:=f.t1;omega) (by have:=f.t1;omega)
 have h2:=jf3 x.order x.order.length
 have h3:=jfE (l:=x.moves) (fun m hm=>by have:=(f.mv m hm).may.2.2.2.2.1;omega) x.moves.length
 have h4:=f.may.1
 have h5:=f.may.2.1
 unfold jaE
 simp only [ze]
 split<;>simp<;>omega
section
variable {cl:Nat->Call} (hcl:Sem cl) {d:Nat} {h0 h:H} {x:SpX} {P Q:Nat->Prop} {b:Nat} {sv:V} {L:List (List UInt8)} {sb:Env}
include hcl
theorem jhV (gv:Gv h0) (hd:2<=d) (A:StepAt h0 P Q x) (fit : ∀ y∈x.ml,MvFit y.m) (o:Old h0 h) (hg:h.get b=some (.cells x.V false)) (sr:SR h0.nx h sv L) (hL0:L≠[]) (hL:L.length<=100) (hl:x.ml.length<=50) (hj:(jaN 32 (L++(x.sp.moves.map mvW).flatten)).length<=1000000) :
  Run (cl d) fuel c32_11 [] ((1,.p b 0) :: (3,sv) :: sb) h (Fin c32.res fun v h'=>v = .str (jaN 32 (L++(x.sp.moves.map mvW).flatten))/\Old h0 h'):=by
 obtain ⟨ad,c,em,hn,_,hA⟩:=id A.mv
 have q3:(x.V)[0+3]?=some (.slice ad x.ml.length c):=by rw [<- em];rfl
 obtain ⟨C5,hC5⟩ : ∃ C,C=c32_5:=⟨_,rfl⟩
 simp only [c32_11,c32_6,<- hC5,yB,yH]
 refine qx ?_
 refine zV (fun k e g=>∃ (i:Nat) (sv:V) (sbe:Env),k=x.ml.length-i/\i<=x.ml.length/\e=(3,sv) :: (43,.slice ad x.ml.length c) :: (44,.i (x.ml.length:Int)) :: (45,.i (i:Int)) :: sbe/\SR h0.nx g sv (L++((x.ml.take i).map fun y=>mvW y.m).flatten)/\Old h0 g)
  (k:=x.ml.length) Ze ⟨0,sv,[],by omega,by omega,rfl,by simpa using sr,o⟩ ?_
 clear sr o hg
 rintro _ _ g ⟨i,sv3,sbe,rfl,hi,rfl,sr,o⟩ f ih
 by_cases hlt:i<x.ml.length
 case neg=>
  obtain rfl:i=x.ml.length:=by omega
  rw [List.take_length] at sr
  have hmm:(x.ml.map fun y=>mvW y.m)=x.sp.moves.map mvW:=by simp [SpX.sp]
  rw [hmm] at sr
  have hcnt:=jdY x.sp.moves
  have hml:x.sp.moves.length=x.ml.length:=by simp [SpX.sp]
  obtain ⟨w,ws,ew⟩ : ∃ w ws,L++(x.sp.moves.map mvW).flatten=w :: ws:=by
   cases L with
   | nil=>exact zC rfl hL0
   | cons w ws=>exact ⟨w,_,rfl⟩
  have hlen:(L++(x.sp.moves.map mvW).flatten).length<=1000:=by simp only [ze];omega
  rw [ew] at sr hj hlen ⊢
  rw [<- jfL] at hj ⊢
  have e1:=jjn (d:=d) (t:=[32]) hcl om sr om hlen
  clear ih hcnt
  refine qx ?_
  exact ⟨rfl,o⟩
 obtain ⟨y,hy⟩ : ∃ y,x.ml[i]?=some y:=⟨_,za hlt⟩
 have hne:x.ml≠[]:=by rintro e;rw [e] at hlt;simp at hlt
 obtain ⟨bb,oo,cs,rr,rfl,lbb,_,gb,hc⟩:=hA hne
 have h4:(cs.drop (oo+(i:Int).toNat*4)).take 4=y.V:=by rw [zq];exact hc i y hy
 have hlen4:=jhr h4 rfl
 have gbg:g.get bb=some (.cells cs rr):=by rw [o.2 bb lbb,gb]
 obtain ⟨vy,zy⟩:=A.dv y (zb hy)
 have fy:=fit y (zb hy)
 obtain ⟨m,dv⟩:=y
 have o1:Old g ((g.new (.cells [.i 0,.i 0,.i 0,.nils] false)).set g.nx (.cells (mvV m dv) false)):=(zW g).new.set (zn _)
 have g1:((g.new (.cells [.i 0,.i 0,.i 0,.nils] false)).set g.nx (.cells (mvV m dv) false)).get g.nx=some (.cells (mvV m dv) false):=jab _
 have n1:g.nx<((g.new (.cells [.i 0,.i 0,.i 0,.nils] false)).set g.nx (.cells (mvV m dv) false)).nx:=by simp
 have hV1:(mvV m dv).all V.one=true:=by
  obtain ⟨a,c',e,_⟩:=id vy
  have e:dv = .slice a m.D.length c':=e
  subst e;rfl
 have ht:((x.ml.take (i+1)).map fun y=>mvW y.m).flatten=((x.ml.take i).map fun y=>mvW y.m).flatten++mvW m:=by rw [List.take_add_one,hy];simp
 have hcnt:((x.ml.take i).map fun y=>mvW y.m).flatten.length<=3*i:=by
  have:=jdY ((x.ml.take i).map MvX.m)
  rw [List.map_map] at this
  simp only [List.length_map,List.length_take] at this
  have e:((x.ml.take i).map (mvW ∘ MvX.m))=(x.ml.take i).map fun y=>mvW y.m:=rfl
  rw [e] at this
  omega
 have hi1:(i:Int)+1=((i+1:Nat):Int):=by omega
 clear A hc hA gb hn
 refine qx ?_
 refine zcw rfl gbg hlen4 ?_
 rw [h4]
 refine zcu (ob := .cells [.i 0,.i 0,.i 0,.nils] false) (mk:=fun b=>.p b 0) rfl rfl ?_
 refine zct (n:=4) (o:=0) (vs:=mvV m dv) rfl rfl rfl hV1 (jac _) Zd ?_
 rw [show jay ([.i 0,.i 0,.i 0,.nils]:List V) 0 (mvV m dv)=mvV m dv from rfl]
 generalize hG:(g.new (.cells [.i 0,.i 0,.i 0,.nils] false)).set g.nx (.cells (mvV m dv) false)=G at o1 g1 n1
 clear hG
 have T:=wl_move hcl (d:=d) (h:=G) (m:=m) (dv:=dv) (sv:=sv3) (v43 := .slice (some (bb,oo)) x.ml.length c) (v44 := .i (x.ml.length:Int)) (v45 := .i (i:Int)) (L:=L++((x.ml.take i).map fun y=>mvW y.m).flatten) (mb:=g.nx) (sb:=[]) gv hd fy (o.trans o1) o.1 n1 g1 vy (sr.keep (zn _) o1) (by simp only [ze];omega)
 rw [<- hC5] at T
 clear sr g1 gbg vy zy
 refine qx ?_
 refine Run.cut _ T ?_
 rintro _ e5 h5 ⟨rfl,sv5,sb5,rfl,sr5,o5⟩
 simp only [zK,List.nil_append]
 refine qx ?_
 rw [hi1]
 exact ih (x.ml.length-(i+1)) om _ _ ⟨i+1,sv5,_,rfl,by omega,rfl,by rw [ht,<- List.append_assoc];exact sr5,o5⟩
theorem jhU (gv:Gv h0) (hd:2<=d) (A:StepAt h0 P Q x) (f:SpFit x.sp) (o:Old h0 h) (hb:b<h.nx) (hg:h.get b=some (.cells x.V false)) (sr:SR h0.nx h sv L) (hL0:L≠[]) (hL:L.length<=10) (hj:(jaN 32 (L++(ordW x.ol++(x.sp.moves.map mvW).flatten))).length<=1000000) :
  Run (cl d) fuel c32_12 [] ((1,.p b 0) :: (3,sv) :: sb) h (Fin c32.res fun v h'=>v = .str (jaN 32 (L++(ordW x.ol++(x.sp.moves.map mvW).flatten)))/\Old h0 h'):=by
 obtain ⟨ad,c,eo,hn,_,hA⟩:=id A.ov.1
 have q2:(x.V)[0+2]?=some (.slice ad x.ol.length c):=by rw [<- eo];rfl
 have hml:x.ml.length<=50:=by have:=f.may.1;simpa [SpX.sp] using this
 have hol:x.ol.length<=50:=f.may.2.1
 have hon : ∀ n∈x.ol,0<=n/\n<=999:=f.may.2.2.1
 have fit : ∀ y∈x.ml,MvFit y.m:=fun y hy=>f.mv y.m (List.mem_map_of_mem hy)
 obtain ⟨C11,hC11⟩ : ∃ C,C=c32_11:=⟨_,rfl⟩
 by_cases h00:x.ol=[]
 ·rw [h00] at hj ⊢
  have T:=fun sb=>jhV hcl (sb:=sb) gv hd A fit o hg sr hL0 om hml hj
  rw [<- hC11] at T
  simp only [c32_12,<- hC11,yC]
  have h1 : ¬ (0:Int)<((x.ol.length:Nat):Int):=by rw [h00];simp
  clear A hA
  refine qx ?_
  exact T _
 have h1:(0:Int)<((x.ol.length:Nat):Int):=by have:=List.length_pos_iff.2 h00;omega
 have hO:ordW x.ol=[jbQ,jaN 44 (x.ol.map fun n=>dec n.toNat)]:=by rw [ordW,zt h00]
 rw [hO] at hj ⊢
 obtain ⟨C8,hC8⟩ : ∃ C,C=c32_8:=⟨_,rfl⟩
 obtain ⟨C9,hC9⟩ : ∃ C,C=c32_9:=⟨_,rfl⟩
 simp only [c32_12,c32_10,<- hC11,<- hC8,<- hC9,yC]
 refine qx ?_
 refine zV (fun k e g=>∃ (i:Nat) (s4:V) (sbe:Env),k=x.ol.length-i/\i<=x.ol.length/\e=(1,.p b 0) :: (3,sv) :: (4,s4) :: (25,.slice ad x.ol.length c) :: (26,.i (x.ol.length:Int)) :: (27,.i (i:Int)) :: sbe/\Row h.nx g 1 s4 i (strs ((x.ol.take i).map fun n=>dec n.toNat))/\Old h g)
  (k:=x.ol.length) Ze ⟨0,.nils,[],by omega,by omega,rfl,Row.nil _ _ _,zW h⟩ ?_
 rintro _ _ g ⟨i,s4,sbe,rfl,hi,rfl,row,og⟩ f0 ih
 by_cases hlt:i<x.ol.length
 case neg=>
  obtain rfl:i=x.ol.length:=by omega
  rw [List.take_length] at row
  have row':Row h.nx g 1 s4 (x.ol.map fun n=>dec n.toNat).length (strs (x.ol.map fun n=>dec n.toNat)):=by simpa using row
  have sr4:=Row.sr row' (by simp [h00])
  have hwl : ∀ w∈x.ol.map (fun n=>dec n.toNat),w.length<=20:=by
   intro w hw
   obtain ⟨n,hn',rfl⟩:=List.mem_map.1 hw
   have:=hon n hn'
   exact jc0 (m:=19) om om
  obtain ⟨w,ws,ew⟩ : ∃ w ws,x.ol.map (fun n=>dec n.toNat)=w :: ws:=by
   cases hc:x.ol.map (fun n=>dec n.toNat) with
   | nil=>exact zC (List.map_eq_nil_iff.1 hc) h00
   | cons w ws=>exact ⟨w,ws,rfl⟩
  have hlw:(w :: ws).length=x.ol.length:=by rw [<- ew];simp
  rw [ew] at sr4 hj hwl ⊢
  have hjl:(jaN 44 (w :: ws)).length<=2000:=by
   have h2:=jgf (c:=44) (ws:=ws) (k:=20) (fun v hv=>hwl v (zj _ hv))
   have h3:=hwl w Zd
   simp only [List.length_cons] at hlw
   simp only [jaN,ze];omega
  have e1:=jjn (d:=d) (t:=[44]) hcl om sr4 (by rw [jfL];omega) om
  rw [jfL] at e1
  generalize hjw:jaN 44 (w :: ws)=j at e1 hj hjl ⊢
  clear ih
  refine qx ?_
  subst hC9
  refine qx ?_
  refine zcu (ob := .cells [.str jbQ,.str j] false) (mk:=fun b=>.slice (some (b,0)) 2 (.fix 2)) rfl rfl ?_
  have og2:Old h (g.new (.cells [.str jbQ,.str j] false)):=og.new
  have srg:SR h0.nx (g.new (.cells [.str jbQ,.str j] false)) sv L:=sr.keep (zn _) og2
  refine Ops.strA (sb:=g.nx) (so:=0) (m:=2) (new:=[jbQ,j]) rfl rfl (o.trans og2) srg om (jac _) Zd rfl om (fun _ _=>rfl) fun v5 h5 sr5 o5 hx5 hk5=>?_
  have hne:sv.at?≠some b:=sr.ne_int hg
  have hg5:h5.get b=some (.cells x.V false):=by
   rw [hk5 b (by have:=og2.1;omega) hne,og2.2 b hb,hg]
  have hj5:(jaN 32 ((L++[jbQ,j])++(x.sp.moves.map mvW).flatten)).length<=1000000:=by
   rw [List.append_assoc];exact hj
  have T:=fun sb=>jhV hcl (sb:=sb) gv hd A fit o5 hg5 sr5 Zd Zc hml hj5
  rw [List.append_assoc] at T
  rw [<- hC11] at T
  clear A hA sr sr4 sr5 row row'
  refine qx ?_
  exact T _
 obtain ⟨n,hno⟩ : ∃ n,x.ol[i]?=some n:=⟨_,za hlt⟩
 obtain ⟨bb,oo,cs,rr,rfl,lbb,gb,hc⟩:=hA h00
 have hq:cs[oo+(i:Int).toNat*1]?=some (.i n):=by rw [Nat.mul_one,zq];exact hc i n hno
 have gbg:g.get bb=some (.cells cs rr):=by rw [(o.trans og).2 bb lbb,gb]
 have hnn:=hon n (zb hno)
 have e1:=jfj hcl (d:=d) (u:=n.toNat) (h:=g) om om ((gv.old o).old og).pw
 rw [Int.toNat_of_nonneg hnn.1] at e1
 have ht:(x.ol.take (i+1)).map (fun n=>dec n.toNat)=(x.ol.take i).map (fun n=>dec n.toNat)++[dec n.toNat]:=by rw [List.take_add_one,hno];simp
 have hi1:(i:Int)+1=((i+1:Nat):Int):=by omega
 subst hC8
 clear A hA hc hon
 refine qx ?_
 refine Ops.push (N:=h.nx) (new:=[.str (dec n.toNat)]) rfl rfl rfl rfl om rfl rfl row og.1 om om fun v2 g2 row' hx' hz' hk'=>?_
 refine qx ?_
 rw [hi1]
 exact ih (x.ol.length-(i+1)) om _ _ ⟨i+1,v2,_,rfl,by omega,rfl,by rw [ht];simpa [strs] using row',og.trans' hx' fun j hj'=>hk' j (by have:=og.1;omega) fun e=>by have:=(row.at_ge e).1;omega⟩
theorem jjm {y:SpX} (gv:Gv h) (hd:3<=d) (A:StepAt h P Q y) (f:SpFit y.sp) :
  ∃ h',cl d (.fn 32) [.agg y.V] h=some (.str (jaE y.sp),h')/\Old h h':=by
 have hlen:=je9 f
 rw [jdv f] at hlen ⊢
 have ha:=A.ov.1
 have hV1:(y.V).all V.one=true:=by
  obtain ⟨a,c,e,_⟩:=id A.ov.1
  obtain ⟨a',c',e',_⟩:=id A.mv
  simp only [SpX.V,e,e'];rfl
 have ht:(y.t.toNat:Int)=y.t:=Int.toNat_of_nonneg A.t0
 have eF:=w_FmtU hcl (d:=d-1) (u:=y.t.toNat) (h:=h.new (.cells y.V false)) om (by have:=A.t1;omega) (gv.old (zW h).new).pw
 rw [ht] at eF
 refine jaS (aT hcl ?_)
 obtain ⟨C12,hC12⟩ : ∃ C,C=c32_12:=⟨_,rfl⟩
 simp only [c32,c32_14,c32_13,<- hC12,yB,yH]
 have hg1:=jac (h:=h) (.cells y.V false)
 have o1:Old h (h.new (.cells y.V false)):=(zW h).new
 have q0:(y.V)[0+0]?=some (.int .u64 y.t):=rfl
 have q1:(y.V)[0+1]?=some (.bool y.intr):=rfl
 refine Run.seq (zac ?_)
 refine zcu (ob := .cells y.V false) (mk:=fun b=>.p b 0) rfl rfl ?_
 have hb1:h.nx<(h.new (.cells y.V false)).nx:=by simp
 generalize h.new (.cells y.V false)=H1 at hg1 o1 eF hb1 ⊢
 refine qx ?_
 refine zcu (ob := .cells [.str jdH,.str (dec y.t.toNat)] false) (mk:=fun b=>.slice (some (b,0)) 2 (.fix 2)) rfl rfl ?_
 have o2:Old h (H1.new (.cells [.str jdH,.str (dec y.t.toNat)] false)):=o1.new
 have sr2:SR h.nx (H1.new (.cells [.str jdH,.str (dec y.t.toNat)] false)) (.slice (some (H1.nx,0)) 2 (.fix 2)) [jdH,dec y.t.toNat]:=⟨H1.nx,.fix 2,o1.1,by simp,rfl,.inr rfl,jac _⟩
 have hg2:(H1.new (.cells [.str jdH,.str (dec y.t.toNat)] false)).get h.nx=some (.cells y.V false):=by rw [jaj hb1,hg1]
 have hb2:h.nx<(H1.new (.cells [.str jdH,.str (dec y.t.toNat)] false)).nx:=by simp;omega
 generalize H1.new (.cells [.str jdH,.str (dec y.t.toNat)] false)=H2 at o2 sr2 hg2 hb2 ⊢
 have hw:jaN 32 (jce y.sp)=jaN 32 ((jdH :: dec y.t.toNat :: (if y.intr=true then [jfM] else []))++(ordW y.ol++(y.sp.moves.map mvW).flatten)):=rfl
 rw [hw] at hlen ⊢
 cases hin:y.intr with
 | false=>
  rw [hin] at hlen q1
  have T:=fun sb=>jhU hcl (sb:=sb) (d:=d-1) gv om A f o2 hb2 hg2 sr2 Zd Zd (by simpa using zu hlen om)
  rw [<- hC12] at T
  clear A ha
  refine qx ?_
  exact T _
 | true=>
  rw [hin] at hlen q1
  clear ha
  refine qx ?_
  refine Ops.strP (t:=jfM) rfl rfl o2 sr2 Zd fun v5 h5 sr5 o5 hx5 hk5=>?_
  have hg5:h5.get h.nx=some (.cells y.V false):=by rw [hk5 _ hb2 (sr2.ne_int hg2),hg2]
  have T:=fun sb=>jhU hcl (sb:=sb) (d:=d-1) gv om A f o5 om hg5 sr5 Zd Zd (by simpa using zu hlen om)
  rw [<- hC12] at T
  clear A
  refine qx ?_
  exact T _
end
end Am.Sigs
