/- Our own library, part 14: an abstract machine, sound for the model, and what the functions do over it. No condition. -/
import Derived.Test.YtkcenemffnfoeaaGreatK13
set_option maxHeartbeats 8000000
namespace Am.Sigs
open Am Go
theorem VB.ofRow {h:H} {v:V} {q:List UInt8} {N:Nat} (r:Row N h 1 v q.length (bts q)):VB h v q /\ ∀ z,v.at?=some z->N<=z/\z<h.nx:=by
 refine ⟨?_,fun z hz=>r.at_ge hz⟩
 rcases r with ⟨h1,h2,rfl⟩ | ⟨b,h1,h2,rfl,h4,h5⟩
 ·have:q=[]:=by simpa using h1
  subst this;exact VB.nil h
 ·exact ⟨_,_,rfl,fun e=>by (cases e),rfl,fun _=>⟨b,0,_,false,rfl,h2,h4,fun i x hi=>by rw [Nat.zero_add];exact jhw hi⟩⟩
section
variable {call:Call} {fuel base:Nat} {ops:List Ins} {keep:List Nat} {K:List Fr} {e:Env} {h:H} {Q:Post} {ix:Nat} {dst:Option Nat} {c:List (Nat × I × Option (Nat × Bool))}
theorem Ops.appB {N:Nat} {x y:Opd} {sv v:V} {q l:List UInt8} (hx:x.ev e=some sv) (hy:y.ev e=some v) (r:Row N h 1 sv q.length (bts q)) (hN:N<=h.nx) (hv:VB h v l) (hn:q.length+l.length<=1000000000)
  (hc : ∀ h':H,h.nx<=h'.nx->(∀ j,j<h.nx->sv.at?≠some j->h'.get j=h.get j)->jaP e h' c=true)
  (k : ∀ v' h',Row N h' 1 v' (q++l).length (bts (q++l))->h.nx<=h'.nx->(∀ j,j<h.nx->sv.at?≠some j->h'.get j=h.get j)->Ops call fuel base ops keep K (layv e dst v') h' Q) :
  Ops call fuel base (⟨ix,dst,.append 1 1 x y,none,none,c⟩ :: ops) keep K e h Q:=by
 obtain ⟨a,cp,rfl,n,f,g⟩:=hv
 by_cases hl:l=[]
 ·subst hl
  have hsrc:ja1 h 1 0 (.slice a 0 cp)=some []:=by cases a<;>rfl
  refine Ops.step_chk (v:=sv) (h':=h) (I.run_eff rfl ?_) (hc h (Nat.le_refl _) fun _ _ _=>rfl) (k sv h (by simpa using r) (Nat.le_refl _) fun _ _ _=>rfl)
  obtain ⟨cap,⟨sa,rfl⟩,_⟩:=r.shape
  simp only [I.eff,hx,hy,jbi,lenOf,List.length_nil,hsrc]
  have hcond:(Nat.ble ((q.length+0)*1) (2 ^ 46)&&Nat.ble (q.length+0) (2 ^ 46))=true:=by simp only [Bool.and_eq_true,Nat.ble_eq];omega
  rw [hcond];rfl
 ·obtain ⟨b,o,cs,ro,rfl,h1,h2,h3⟩:=g hl
  have hpos:0<l.length:=by cases l<;>simp_all
  obtain ⟨p1,p2⟩:=jdh (k:=0) (m:=l.length) h3 (by omega) hpos
  rw [List.drop_zero,List.take_of_length_le (Nat.le_refl _)] at p2
  obtain ⟨v',h',e1,e2,e3,e4,e5⟩:=jem (bytes:=1) (cap:=cp) (m:=l.length) (so:=o) (new:=bts l) r hN hpos h2 (by omega) (by rw [Nat.mul_one];exact p2) (jiU l) (by omega) (by omega) (by omega)
  refine Ops.step_chk (I.run_eff rfl (by simp only [I.eff,hx,hy,e1])) (hc h' (by omega) e5) (k v' h' ?_ (by omega) e5)
  rw [List.length_append];simpa using e2
end
def RX.putv (r:RX) (k:Nat) (v:V) (b:List UInt8):RX:=match k with
 | 0=>{ r with x:=r.x.setq 0 b,v0:=v }
 | _=>{ r with x:=r.x.setq 1 b,v1:=v }
theorem RX.putv_cells {r:RX} {k:Nat} {v:V} {q b:List UInt8} (hk:k=0\/k=1) (hq:(r.x.e k).ring=some q):(r.putv k v b).cells=r.cells.set (k*8+4) v:=by
 obtain ⟨⟨e0,e1,cap,rs,bl,wt⟩,v0,v1,vw⟩:=r
 rcases hk with rfl | rfl<;>simp only [Wi.e] at hq<;>simp [RX.putv,Wi.setq,Wi.put,Wi.e,RX.cells,En.rcells,hq]
theorem ROk.putv {h:H} {rw q k:Nat} {r:RX} {v:V} {b:List UInt8} (a:ROk h rw q r) (hk:k=0\/k=1) (hv:VB h v b) (hz : ∀ z,v.at?=some z->z≠q/\z≠rw/\z<h.nx):ROk h rw q (r.putv k v b):=by
 refine ⟨fun j hj=>?_,?_⟩
 ·have ha:=a.b j hj
  rcases hk with rfl | rfl<;>rcases hj with rfl | rfl
  ·exact ⟨hv,hz⟩
  ·exact ha
  ·exact ha
  ·exact ⟨hv,hz⟩
 ·rcases hk with rfl | rfl<;>exact a.w
def RX.take (r:RX) (k m:Nat) (b:List UInt8) (v:V):RX:=(r.putv k v (b.drop m)).came (1-k) false (decide (0<m))
def RX.fill (r:RX) (k m:Nat) (b l:List UInt8) (v:V):RX:=(r.putv (1-k) v (b++l.take m)).came (1-k) (decide (0<m)) false
section
variable {cl:Nat->Call} (hcl:Sem cl)
include hcl
theorem jkG {d rw q n k:Nat} {h:H} {l:List RX} {tl:List V} {r:RX} {b:List UInt8} {many:Int} (hd:2<=d) (w:RW h rw q l tl) (hr:l[n]?=some r) (hk:k=0\/k=1) (hb:(r.x.e k).ring=some b) (h0:0<=many) :
  ∃ v v' h',cl d (.fn F.jbH) [.p rw 0,.i (n:Int),.i (k:Int),.i many] h=some (v,h')/\VB h' v (b.take (min many b.length).toNat)/\RW h' rw q (l.set n (r.take k (min many b.length).toNat b v')) tl/\Ch (RC rw q) h h':=by
 suffices s : ∃ v h',cl d (.fn F.jbH) [.p rw 0,.i (n:Int),.i (k:Int),.i many] h=some (v,h') /\ ∃ v',VB h' v (b.take (min many b.length).toNat)/\RW h' rw q (l.set n (r.take k (min many b.length).toNat b v')) tl/\Ch (RC rw q) h h' by
  obtain ⟨v,h',e,v',p⟩:=s;exact ⟨v,v',h',e,p⟩
 obtain ⟨hw,hq,hne⟩:=w.rat hr
 have q1:=r_b hr hk
 have hn:=r_lt hr
 obtain ⟨hv,hz⟩:=(w.rok hr).b k hk
 rw [hb] at hv
 simp only [Option.getD_some] at hv
 obtain ⟨a,c,hva,hba⟩:=id hv
 have hlen:0+(n:Int).toNat*20+0+(k:Int).toNat*8+4<(rows l).length:=by rw [jax];omega
 have ek:(1:Int)-(k:Int)=((1-k:Nat):Int):=by omega
 generalize hm:(min many (b.length:Int)).toNat=m
 have hml:m<=b.length:=by omega
 have eb:decide (0<(m:Int))=decide (0<m):=by simp
 have main : ∀ (K:List Fr) (Q:Post) v',VB h v' (b.drop m)->(∀ z,v'.at?=some z->(r.v k).at?=some z) ->
   ∃ h2,cl (d-1) (.fn F.jay) [.p rw 0,.i (n:Int),.i (1-(k:Int)),.bool false,.bool (decide (0<(m:Int)))] (h.set q (.cells ((rows l).set (0+(n:Int).toNat*20+0+(k:Int).toNat*8+4) v') false))=some (.tup [],h2) /\
    VB h2 (r.v k) b/\RW h2 rw q (l.set n (r.take k m b v')) tl/\Ch (RC rw q) h h2:=by
  intro K Q v' hv' hz'
  rw [jg0 hr hk (by omega) (RX.putv_cells (r:=r) (v:=v') (b:=b.drop m) hk hb) (by omega)]
  have u1:Upd q (.cells (rows (l.set n (r.putv k v' (b.drop m)))) false) h (h.set q (.cells (rows (l.set n (r.putv k v' (b.drop m)))) false)):=Upd.set
  have w1:=w.set hr u1 ((w.rok hr).putv hk hv' fun z hzz=>hz z (hz' z hzz))
  obtain ⟨h2,e2,w2,c2⟩:=jfK hcl (d:=d-1) (k:=1-k) (by omega) w1 (get_set hr) (by omega) false (decide (0<m))
  rw [set_set] at w2
  refine ⟨h2,by rw [ek,eb];exact e2,hv.keep (by have:=c2.nx;simpa using this) fun z hzz=>?_,w2,(u1.ch (.inl rfl)).trans c2⟩
  have hzz':=hz z hzz
  rw [c2.get z (by simpa using hzz'.2.2) (fun e=>by rcases e with e | e;exact hzz'.1 e;exact hzz'.2.1 e),jab hzz'.1]
 have fin : ∀ (K':List Fr) (Q':Post),True:=fun _ _=>trivial
 refine at_ hcl (by omega) rfl rfl rfl ?_
 rw [hva] at q1
 by_cases hgt:(b.length:Int)<many
 ·have hmb:m=b.length:=by omega
  repeat' (first|refine zaa rfl ?_|refine zav rfl ‹_› (by first|assumption|rfl) ?_|refine zad (by repeat' constructor) ?_|refine zaj rfl rfl ?_|refine zau rfl rfl ?_|refine zax rfl rfl (by omega) ?_|refine zay rfl rfl (by omega) ?_|apply zab|apply zac|refine zbi rfl ‹_› ?_|apply zae)
  refine Ops.cut_l rfl (by rw [<- hva];exact hv) (by rw [<- hmb];rfl) hml fun v' hv' hz'=>?_
  obtain ⟨h2,e2,p1,p2,p3⟩:=main [] (fun _ _ _=>True) v' hv' (by rw [hva];exact hz')
  rw [hmb] at e2
  repeat' (first|refine zau rfl rfl ?_|refine zax rfl rfl (by omega) ?_|refine zay rfl rfl (by omega) ?_)
  refine Ops.store1 rfl rfl hv'.one hq hlen ?_
  repeat' (first|refine zaa rfl ?_|refine zaw rfl ‹_› ?_|refine zad (by repeat' constructor) ?_|refine zaj rfl rfl ?_|refine zam rfl rfl ⟨by omega,by omega⟩ ?_|apply zab|apply zac|apply zae)
  refine Ops.cut_h rfl (by rw [<- hva];exact p1) (by rw [<- hmb];rfl) hml fun v2 hv2 _=>?_
  repeat' (first|refine zaa rfl ?_|refine zad (by repeat' constructor) ?_|apply zbq|apply zae|refine zcc rfl ?_)
  exact ⟨v',hv2,p2,p3⟩
 ·obtain ⟨m',rfl⟩:=Int.eq_ofNat_of_zero_le h0
  obtain rfl:m'=m:=by omega
  repeat' (first|refine zaa rfl ?_|refine zav rfl ‹_› (by first|assumption|rfl) ?_|refine zad (by repeat' constructor) ?_|refine zaj rfl rfl ?_|refine zau rfl rfl ?_|refine zax rfl rfl (by omega) ?_|refine zay rfl rfl (by omega) ?_|apply zab|apply zac|refine zbj rfl ‹_› ?_|apply zbp|apply zae)
  refine Ops.cut_l rfl (by rw [<- hva];exact hv) rfl hml fun v' hv' hz'=>?_
  obtain ⟨h2,e2,p1,p2,p3⟩:=main [] (fun _ _ _=>True) v' hv' (by rw [hva];exact hz')
  repeat' (first|refine zau rfl rfl ?_|refine zax rfl rfl (by omega) ?_|refine zay rfl rfl (by omega) ?_)
  refine Ops.store1 rfl rfl hv'.one hq hlen ?_
  repeat' (first|refine zaa rfl ?_|refine zaw rfl ‹_› ?_|refine zad (by repeat' constructor) ?_|refine zaj rfl rfl ?_|refine zam rfl rfl ⟨by omega,by omega⟩ ?_|apply zab|apply zac|apply zae)
  refine Ops.cut_h rfl (by rw [<- hva];exact p1) rfl hml fun v2 hv2 _=>?_
  repeat' (first|refine zaa rfl ?_|refine zad (by repeat' constructor) ?_|apply zbq|apply zae|refine zcc rfl ?_)
  exact ⟨v',hv2,p2,p3⟩
end
end Am.Sigs
namespace Am.Sigs
open Am Go
def RX.doShut (r:RX) (k:Nat):RX := { r with x:=r.x.doShut k }
def Wi.close (x:Wi) (k:Nat):Wi:=let y:=x.came (1-k) (!(x.e k).shut) true;y.put k { y.e k with what:=3 }
def RX.close (r:RX) (k:Nat):RX := { r with x:=r.x.close k }
theorem RX.shut_cells {r:RX} {k:Nat} (hk:k=0\/k=1):(({ r with x:=r.x.put k { r.x.e k with shut:=true } } : RX)).cells=r.cells.set (k*8+5) (.bool true):=by
 obtain ⟨⟨e0,e1,cap,rs,bl,wt⟩,v0,v1,vw⟩:=r
 rcases hk with rfl | rfl<;>simp [Wi.put,Wi.e,RX.cells,En.rcells]
theorem RX.what_cells {r:RX} {k:Nat} {w:Int} (hk:k=0\/k=1):(({ r with x:=r.x.put k { r.x.e k with what:=w } } : RX)).cells=r.cells.set (k*8) (.i w):=by
 obtain ⟨⟨e0,e1,cap,rs,bl,wt⟩,v0,v1,vw⟩:=r
 rcases hk with rfl | rfl<;>simp [Wi.put,Wi.e,RX.cells,En.rcells]
theorem ROk.put {h:H} {rw q k:Nat} {r:RX} (a:ROk h rw q r) (hk:k=0\/k=1) {e:En} (he:e.ring=(r.x.e k).ring):ROk h rw q { r with x:=r.x.put k e } := by
 rcases hk with rfl | rfl
 ·exact a.same rfl rfl rfl he rfl rfl
 ·exact a.same rfl rfl rfl rfl he rfl
section
variable {cl:Nat->Call} (hcl:Sem cl)
include hcl
theorem jkD {d rw q n k:Nat} {h:H} {l:List RX} {tl:List V} {r:RX} (hd:2<=d) (w:RW h rw q l tl) (hr:l[n]?=some r) (hk:k=0\/k=1) :
  ∃ h',cl d (.fn F.jc3) [.p rw 0,.i (n:Int),.i (k:Int)] h=some (.tup [],h')/\RW h' rw q (l.set n (r.doShut k)) tl/\Ch (RC rw q) h h':=by
 refine jal (at_ hcl (by omega) rfl rfl rfl ?_)
 obtain ⟨hw,hq,hne⟩:=w.rat hr
 have q1:=jhK hr hk
 have hn:=r_lt hr
 have hlen:0+(n:Int).toNat*20+0+(k:Int).toNat*8+5<(rows l).length:=by rw [jax];omega
 have ek:(1:Int)-(k:Int)=((1-k:Nat):Int):=by omega
 cases hs:(r.x.e k).shut
 ·have e0:r.doShut k=RX.came { r with x:=r.x.put k { r.x.e k with shut:=true } } (1-k) true false:=by simp [RX.doShut,Wi.doShut,hs,RX.came]
  rw [hs] at q1
  have hc:=RX.shut_cells (r:=r) hk
  have hok:=(w.rok hr).put (e := { r.x.e k with shut:=true }) hk rfl
  rw [e0]
  generalize ({ r with x:=r.x.put k { r.x.e k with shut:=true } } : RX)=r1 at hc hok ⊢
  have u1:Upd q (.cells (rows (l.set n r1)) false) h (h.set q (.cells (rows (l.set n r1)) false)):=Upd.set
  have w1:=w.set hr u1 hok
  obtain ⟨h2,e2,w2,c2⟩:=jfK hcl (d:=d-1) (k:=1-k) (by omega) w1 (get_set hr) (by omega) true false
  rw [set_set] at w2
  rw [<- ek] at e2
  repeat' (first|refine zaa rfl ?_|refine zav rfl ‹_› (by first|assumption|rfl) ?_|refine zad (by repeat' constructor) ?_|refine zao rfl ?_|refine zau rfl rfl ?_|refine zax rfl rfl (by omega) ?_|refine zay rfl rfl (by omega) ?_|apply zab|apply zac|refine zbk rfl rfl ?_|apply zae)
  refine Ops.store1 rfl rfl rfl hq hlen ?_
  rw [jg0 hr hk (by omega) hc (by omega)]
  repeat' (first|refine zaa rfl ?_|refine zaw rfl ‹_› ?_|refine zad (by repeat' constructor) ?_|refine zam rfl rfl ⟨by omega,by omega⟩ ?_|apply zac|apply zae|refine zce rfl ?_)
  exact ⟨rfl,w2,(u1.ch (.inl rfl)).trans c2⟩
 ·have e0:r.doShut k=r:=by simp [RX.doShut,Wi.doShut,hs]
  rw [hs] at q1
  rw [e0,jdF hr]
  repeat' (first|refine zaa rfl ?_|refine zav rfl ‹_› (by first|assumption|rfl) ?_|refine zad (by repeat' constructor) ?_|refine zao rfl ?_|refine zau rfl rfl ?_|refine zax rfl rfl (by omega) ?_|refine zay rfl rfl (by omega) ?_|apply zab|apply zac|refine zbl rfl rfl ?_|apply zbp|apply zae|refine zce rfl ?_)
  exact ⟨rfl,w,Ch.refl _ _⟩
theorem jgY {d rw q n k:Nat} {h:H} {l:List RX} {tl:List V} {r:RX} (hd:2<=d) (w:RW h rw q l tl) (hr:l[n]?=some r) (hk:k=0\/k=1) :
  ∃ h',cl d (.fn F.jb4) [.p rw 0,.i (n:Int),.i (k:Int)] h=some (.tup [],h')/\RW h' rw q (l.set n (r.close k)) tl/\Ch (RC rw q) h h':=by
 refine jal (at_ hcl (by omega) rfl rfl rfl ?_)
 have q1:=jhK hr hk
 have hn0:=r_lt hr
 obtain ⟨hw,hq,hne⟩:=w.rat hr
 have ek:(1:Int)-(k:Int)=((1-k:Nat):Int):=by omega
 obtain ⟨h2,e2,w2,c2⟩:=jfK hcl (d:=d-1) (k:=1-k) (by omega) w hr (by omega) (!(r.x.e k).shut) true
 have eb:decide ((r.x.e k).shut=false) = !(r.x.e k).shut:=by cases (r.x.e k).shut<;>rfl
 rw [<- ek,<- eb] at e2
 have hr2:=get_set (r':=r.came (1-k) (!(r.x.e k).shut) true) hr
 have e0:r.close k = { r.came (1-k) (!(r.x.e k).shut) true with x:=(r.came (1-k) (!(r.x.e k).shut) true).x.put k { (r.came (1-k) (!(r.x.e k).shut) true).x.e k with what:=3 } } := rfl
 rw [e0,<- set_set (l:=l) (r:=r.came (1-k) (!(r.x.e k).shut) true)]
 clear e0 eb
 generalize l.set n (r.came (1-k) (!(r.x.e k).shut) true)=l2 at w2 hr2 ⊢
 generalize r.came (1-k) (!(r.x.e k).shut) true=r2 at hr2 ⊢
 have hn:=r_lt hr2
 have hlen:0+(n:Int).toNat*20+0+(k:Int).toNat*8+0<(rows l2).length:=by rw [jax];omega
 obtain ⟨hw2,hq2,_⟩:=w2.rat hr2
 have u:Upd q (.cells (rows (l2.set n { r2 with x:=r2.x.put k { r2.x.e k with what:=3 } })) false) h2 (h2.set q (.cells (rows (l2.set n { r2 with x:=r2.x.put k { r2.x.e k with what:=3 } })) false)):=Upd.set
 have w3:=w2.set hr2 u ((w2.rok hr2).put (e := { r2.x.e k with what:=3 }) hk rfl)
 repeat' (first|refine zaa rfl ?_|refine zav rfl ‹_› (by first|assumption|rfl) ?_|refine zaw rfl ‹_› ?_|refine zad (by repeat' constructor) ?_|refine zam rfl rfl ⟨by omega,by omega⟩ ?_|refine zao rfl ?_|refine zau rfl rfl ?_|refine zax rfl rfl (by omega) ?_|refine zay rfl rfl (by omega) ?_|apply zab|apply zac|apply zae)
 refine Ops.store1 rfl rfl rfl hq2 hlen ?_
 rw [jg0 (f:=0) hr2 hk (by omega) (RX.what_cells (r:=r2) (w:=3) hk) (by omega)]
 repeat' (first|refine zad (by repeat' constructor) ?_|refine zce rfl ?_)
 exact ⟨rfl,w3,c2.trans (u.ch (.inl rfl))⟩
def jiq (l:List RX) (n:Int):Prop := ∃ m r,n=((m:Nat):Int)/\l[m]?=some r/\r.x.e1.what=2
open Classical in
theorem rp_outer {d rw q:Nat} {h:H} {l:List RX} {tl:List V} {n:Int} (hd:1<=d) (w:RW h rw q l tl):cl d (.fn F.jaT) [.p rw 0,.i n] h=some (.bool (decide (jiq l n)),h):=by
 refine jaq (at_ hcl (by omega) rfl rfl rfl ?_)
 obtain ⟨a,c,hw,hac⟩:=w.head
 by_cases h0:0<=n
 case neg=>
  have hno : ¬ jiq l n:=fun ⟨m,r,e,_⟩=>by omega
  rw [decide_eq_false hno]
  repeat' (first|refine zaa rfl ?_|refine zad (by repeat' constructor) ?_|refine zba rfl ‹_› ?_|refine zbe rfl rfl ?_|refine zak rfl rfl ?_|refine zar rfl ‹_› rfl ?_|refine zat rfl rfl rfl ?_|apply zab|apply zac|apply zbq|apply zae|refine zcc rfl ?_)
  exact ⟨rfl,rfl⟩
 obtain ⟨m,rfl⟩:=Int.eq_ofNat_of_zero_le h0
 by_cases hlt:m<l.length
 case neg=>
  have hno : ¬ jiq l m:=fun ⟨m',r,e,hr,_⟩=>by have:=r_lt hr;omega
  rw [decide_eq_false hno]
  repeat' (first|refine zaa rfl ?_|refine zav rfl ‹_› rfl ?_|refine zad (by repeat' constructor) ?_|refine zaz rfl ‹_› ?_|refine zba rfl (by omega) ?_|refine zaf rfl rfl ?_|refine zak rfl rfl ?_|refine zaq rfl ‹_› rfl ?_|refine zar rfl (by omega) rfl ?_|refine zau rfl rfl ?_|apply zab|apply zac|apply zbq|apply zae|refine zcc rfl ?_)
  exact ⟨rfl,rfl⟩
 obtain ⟨rfl,rfl⟩:=hac (by rintro rfl;simp at hlt)
 obtain ⟨r,hr⟩ : ∃ r,l[m]?=some r:=⟨_,List.getElem?_eq_getElem hlt⟩
 have hq:=(w.rat hr).hq
 have q1:=jgB (k:=1) hr (.inr rfl)
 by_cases h2:(r.x.e 1).what=2
 ·have his:jiq l m:=⟨m,r,rfl,hr,h2⟩
  rw [decide_eq_true his]
  rw [h2] at q1
  repeat' (first|refine zaa rfl ?_|refine zav rfl ‹_› (by first|assumption|rfl) ?_|refine zad (by repeat' constructor) ?_|refine zaz rfl (by first|assumption|omega) ?_|refine zaf rfl rfl ?_|refine zag rfl rfl ?_|refine zak rfl rfl ?_|refine zaq rfl (by first|assumption|omega) rfl ?_|refine zau rfl rfl ?_|refine zay rfl rfl (by omega) ?_|apply zab|apply zac|apply zbq|apply zae|refine zcc rfl ?_)
  exact ⟨rfl,rfl⟩
 ·have hno : ¬ jiq l m:=fun ⟨m',r',e,hr',h3⟩=>by
   obtain rfl:m'=m:=by omega
   rw [hr] at hr';cases hr';exact h2 h3
  rw [decide_eq_false hno]
  repeat' (first|refine zaa rfl ?_|refine zav rfl ‹_› (by first|assumption|rfl) ?_|refine zad (by repeat' constructor) ?_|refine zaz rfl (by first|assumption|omega) ?_|refine zaf rfl rfl ?_|refine zag rfl rfl ?_|refine zak rfl rfl ?_|refine zaq rfl (by first|assumption|omega) rfl ?_|refine zau rfl rfl ?_|refine zay rfl rfl (by omega) ?_|apply zab|apply zac|apply zbq|apply zae|refine zcc rfl ?_)
  exact ⟨by rw [decide_eq_false h2],rfl⟩
theorem ji4 {d rw q n k:Nat} {h:H} {l:List RX} {tl:List V} {r:RX} {b c:List UInt8} {vc:V} (hd:2<=d) (w:RW h rw q l tl) (hr:l[n]?=some r) (hk:k=0\/k=1) (hb:(r.x.e (1-k)).ring=some b) (hcap:b.length<=r.x.cap) (hc1:r.x.cap<=65536)
  (hc:VB h vc c) (hcl2:c.length<=1000) (hca:c≠[] -> ∀ z,vc.at?=some z->z≠q/\z≠rw/\z<h.nx) :
  ∃ v' h',cl d (.fn F.jbd) [.p rw 0,.i (n:Int),.i (k:Int),vc] h=some (.i ((min c.length (r.x.cap-b.length):Nat):Int),h')/\RW h' rw q (l.set n (r.fill k (min c.length (r.x.cap-b.length)) b c v')) tl/\Ch (RC rw q) h h':=by
 suffices s : ∃ v h',cl d (.fn F.jbd) [.p rw 0,.i (n:Int),.i (k:Int),vc] h=some (v,h') /\ ∃ v',v = .i ((min c.length (r.x.cap-b.length):Nat):Int)/\RW h' rw q (l.set n (r.fill k (min c.length (r.x.cap-b.length)) b c v')) tl/\Ch (RC rw q) h h' by
  obtain ⟨_,h',e,v',rfl,p⟩:=s;exact ⟨v',h',e,p⟩
 obtain ⟨hw,hq,hne⟩:=w.rat hr
 have hk':1-k=0\/1-k=1:=by omega
 have ek:(1:Int)-(k:Int)=((1-k:Nat):Int):=by omega
 have q1:=r_b hr hk'
 have q2:=r_cap hr
 rw [<- ek] at q1
 have hn:=r_lt hr
 obtain ⟨hv,hz⟩:=(w.rok hr).b (1-k) hk'
 rw [hb] at hv
 simp only [Option.getD_some] at hv
 obtain ⟨a,ca,hva,hba⟩:=id hv
 obtain ⟨a2,ca2,rfl,hba2⟩:=id hc
 have hlen:0+(n:Int).toNat*20+0+((1:Int)-(k:Int)).toNat*8+4<(rows l).length:=by rw [jax,ek];omega
 generalize hm:min c.length (r.x.cap-b.length)=m
 have hml:m<=c.length:=by omega
 have eb:decide (0<(m:Int))=decide (0<m):=by simp
 have main : ∀ (h2:H) (v':V),Row h.nx h2 1 v' (b++c.take m).length (bts (b++c.take m))->h.nx<=h2.nx->(∀ j,j<h.nx->h2.get j=h.get j) ->
   h2.get q=some (.cells (rows l) false)/\v'.one=true /\
   ∃ h3,cl (d-1) (.fn F.jay) [.p rw 0,.i (n:Int),.i (1-(k:Int)),.bool (decide (0<(m:Int))),.bool false] (h2.set q (.cells ((rows l).set (0+(n:Int).toNat*20+0+((1:Int)-(k:Int)).toNat*8+4) v') false))=some (.tup [],h3) /\
    RW h3 rw q (l.set n (r.fill k m b c v')) tl/\Ch (RC rw q) h h3:=by
  intro h2 v' row hnx hold
  obtain ⟨hv',hz'⟩:=VB.ofRow row
  have ch:Ch (RC rw q) h h2:=⟨hnx,fun j hj _=>hold j hj⟩
  have lq:=w.lq
  have lw:=w.lw
  have hq2:h2.get q=some (.cells (rows l) false):=by rw [hold q lq,hq]
  have w2:RW h2 rw q l tl:=⟨by omega,by omega,hne,fun hl=>⟨by rw [hold rw lw,(w.at_ hl).hw],hq2,hne⟩,fun e=>by rw [hold rw lw,w.nil e],fun s hs=>(w.ok s hs).keep ch⟩
  refine ⟨hq2,row.one,?_⟩
  rw [jg0 hr hk' (by omega) (RX.putv_cells (r:=r) (v:=v') (b:=b++c.take m) hk' hb) (by omega)]
  have u1:Upd q (.cells (rows (l.set n (r.putv (1-k) v' (b++c.take m)))) false) h2 (h2.set q (.cells (rows (l.set n (r.putv (1-k) v' (b++c.take m)))) false)):=Upd.set
  have w3:=w2.set hr u1 ((w2.rok hr).putv hk' hv' fun z hzz=>by have:=hz' z hzz;omega)
  obtain ⟨h4,e4,w4,c4⟩:=jfK hcl (d:=d-1) (k:=1-k) (by omega) w3 (get_set hr) hk' (decide (0<m)) false
  rw [set_set] at w4
  exact ⟨h4,by rw [ek,eb];exact e4,w4,(ch.trans (u1.ch (.inl rfl))).trans c4⟩
 refine at_ hcl (by omega) rfl rfl rfl ?_
 rw [hva] at q1
 by_cases hgt:(r.x.cap:Int)-(b.length:Int)<(c.length:Int)
 ·have hmb:(m:Int)=(r.x.cap:Int)-(b.length:Int):=by omega
  repeat' (first|refine zaa rfl ?_|refine zav rfl ‹_› (by first|assumption|rfl) ?_|refine zad (by repeat' constructor) ?_|refine zaj rfl rfl ?_|refine zam rfl rfl ⟨by omega,by omega⟩ ?_|refine zau rfl rfl ?_|refine zax rfl rfl (by omega) ?_|refine zay rfl rfl (by omega) ?_|apply zab|apply zac|refine zbi rfl ‹_› ?_|apply zae)
  rw [<- hmb]
  refine Ops.appB (N:=h.nx) (q:=[]) rfl rfl (Row.nil _ _ _) (Nat.le_refl _) (by rw [<- hva];exact hv) (by simp;omega) (fun _ _ _=>rfl) fun v1 h1 row1 hx1 hold1=>?_
  have hold1' : ∀ j,j<h.nx->h1.get j=h.get j:=fun j hj=>hold1 j hj (by intro e;cases e)
  have hw1:h1.get rw=some (.cells (.slice (some (q,0)) l.length (.grow 20) :: tl) false):=by rw [hold1' rw w.lw,hw]
  have hq1:h1.get q=some (.cells (rows l) false):=by rw [hold1' q w.lq,hq]
  have hc':VB h1 (.slice a2 c.length ca2) c:=hc.keep2 hx1 fun hl z hzz=>hold1' z (hca hl z hzz).2.2
  have hne1 : ∀ j,j<h.nx->v1.at?≠some j:=fun j hj e=>by have:=row1.at_ge e;omega
  repeat' (first|refine zaa rfl ?_|refine zav rfl ‹_› (by first|assumption|rfl) ?_|refine zad (by repeat' constructor) ?_|refine zam rfl rfl ⟨by omega,by omega⟩ ?_|refine zau rfl rfl ?_|apply zab|apply zac|apply zae)
  refine Ops.cut_h rfl hc' rfl hml fun v2 hv2 _=>?_
  repeat' (first|refine zau rfl rfl ?_|refine zay rfl rfl (by omega) ?_)
  refine Ops.appB (N:=h.nx) rfl rfl row1 hx1 hv2 (by simp;omega) (fun h' hnx' ho'=>jb9 rfl (by rw [ho' rw (by have:=w.lw;omega) (hne1 rw w.lw),hw1]) rfl rfl jc1) fun v3 h3 row3 hx3 hold3=>?_
  obtain ⟨hq3,hone,h4,e4,w4,c4⟩:=main h3 v3 (by simpa using row3) (by omega) fun j hj=>by rw [hold3 j (by omega) (hne1 j hj),hold1' j hj]
  repeat' (first|refine zau rfl rfl ?_|refine zax rfl rfl (by omega) ?_)
  refine Ops.store1 rfl rfl hone hq3 hlen ?_
  repeat' (first|refine zaa rfl ?_|refine zaw rfl ‹_› ?_|refine zad (by repeat' constructor) ?_|refine zaj rfl rfl ?_|refine zam rfl rfl ⟨by omega,by omega⟩ ?_|apply zab|apply zac|apply zbq|apply zae|refine zcc rfl ?_)
  exact ⟨v3,rfl,w4,c4⟩
 ·have hmb:m=c.length:=by omega
  rw [hmb] at main hml ⊢
  clear hmb hm eb
  repeat' (first|refine zaa rfl ?_|refine zav rfl ‹_› (by first|assumption|rfl) ?_|refine zad (by repeat' constructor) ?_|refine zaj rfl rfl ?_|refine zam rfl rfl ⟨by omega,by omega⟩ ?_|refine zau rfl rfl ?_|refine zax rfl rfl (by omega) ?_|refine zay rfl rfl (by omega) ?_|apply zab|apply zac|refine zbj rfl ‹_› ?_|apply zbp|apply zae)
  refine Ops.appB (N:=h.nx) (q:=[]) rfl rfl (Row.nil _ _ _) (Nat.le_refl _) (by rw [<- hva];exact hv) (by simp;omega) (fun _ _ _=>rfl) fun v1 h1 row1 hx1 hold1=>?_
  have hold1' : ∀ j,j<h.nx->h1.get j=h.get j:=fun j hj=>hold1 j hj (by intro e;cases e)
  have hw1:h1.get rw=some (.cells (.slice (some (q,0)) l.length (.grow 20) :: tl) false):=by rw [hold1' rw w.lw,hw]
  have hq1:h1.get q=some (.cells (rows l) false):=by rw [hold1' q w.lq,hq]
  have hc':VB h1 (.slice a2 c.length ca2) c:=hc.keep2 hx1 fun hl z hzz=>hold1' z (hca hl z hzz).2.2
  have hne1 : ∀ j,j<h.nx->v1.at?≠some j:=fun j hj e=>by have:=row1.at_ge e;omega
  repeat' (first|refine zaa rfl ?_|refine zav rfl ‹_› (by first|assumption|rfl) ?_|refine zad (by repeat' constructor) ?_|refine zam rfl rfl ⟨by omega,by omega⟩ ?_|refine zau rfl rfl ?_|apply zab|apply zac|apply zae)
  refine Ops.cut_h rfl hc' rfl hml fun v2 hv2 _=>?_
  repeat' (first|refine zau rfl rfl ?_|refine zay rfl rfl (by omega) ?_)
  refine Ops.appB (N:=h.nx) rfl rfl row1 hx1 hv2 (by simp;omega) (fun h' hnx' ho'=>jb9 rfl (by rw [ho' rw (by have:=w.lw;omega) (hne1 rw w.lw),hw1]) rfl rfl jc1) fun v3 h3 row3 hx3 hold3=>?_
  obtain ⟨hq3,hone,h4,e4,w4,c4⟩:=main h3 v3 (by simpa using row3) (by omega) fun j hj=>by rw [hold3 j (by omega) (hne1 j hj),hold1' j hj]
  repeat' (first|refine zau rfl rfl ?_|refine zax rfl rfl (by omega) ?_)
  refine Ops.store1 rfl rfl hone hq3 hlen ?_
  repeat' (first|refine zaa rfl ?_|refine zaw rfl ‹_› ?_|refine zad (by repeat' constructor) ?_|refine zaj rfl rfl ?_|refine zam rfl rfl ⟨by omega,by omega⟩ ?_|apply zab|apply zac|apply zbq|apply zae|refine zcc rfl ?_)
  exact ⟨v3,rfl,w4,c4⟩
end
end Am.Sigs
namespace Am.Sigs
open Am Go
abbrev Ws:=List Wi
def AtW (ws:Ws) (n k:Nat) (fd:Int):Prop := ∃ x,ws[n]?=some x/\(k=0\/k=1)/\(x.e k).what=1/\(x.e k).fd=fd
def Uniq (ws:Ws):Prop := ∀ n k n' k' fd,AtW ws n k fd->AtW ws n' k' fd->n=n'/\k=k'
open Classical in
noncomputable def atS (ws:Ws) (fd:Int):Option (Nat × Nat):=if h : ∃ p:Nat × Nat,AtW ws p.1 p.2 fd then some h.choose else none
theorem jdj {ws:Ws} {n k:Nat} {fd:Int} (u:Uniq ws) (h:AtW ws n k fd):atS ws fd=some (n,k):=by
 unfold atS
 have hx : ∃ p:Nat × Nat,AtW ws p.1 p.2 fd:=⟨(n,k),h⟩
 rw [dif_pos hx]
 have:=u _ _ _ _ _ hx.choose_spec h
 congr 1
 exact Prod.ext this.1 this.2
theorem jeA {ws:Ws} {fd:Int} (h : ∀ n k,¬ AtW ws n k fd):atS ws fd=none:=by
 unfold atS
 rw [dif_neg fun ⟨p,hp⟩=>h _ _ hp]
theorem jlJ {l:List RX} {n k:Nat} {fd:Int} : IsAt l n k fd↔AtW (l.map RX.x) n k fd:=by
 unfold IsAt AtW
 constructor
 ·rintro ⟨r,h1,h2⟩;exact ⟨r.x,by simp [h1],h2⟩
 ·rintro ⟨x,h1,h2⟩
  rw [List.getElem?_map] at h1
  cases hr:l[n]? with
  | none=>rw [hr] at h1;cases h1
  | some r=>rw [hr] at h1;cases h1;exact ⟨r,rfl,h2⟩
theorem jl6 {ws:Ws} {n k:Nat} {fd:Int} (h:AtW ws n k fd) : ∃ x,ws[n]?=some x/\(k=0\/k=1):=by
 obtain ⟨x,h1,h2,_⟩:=h;exact ⟨x,h1,h2⟩
theorem map_set {l:List RX} {n:Nat} {r:RX} : (l.set n r).map RX.x=(l.map RX.x).set n r.x:=List.map_set
noncomputable def jcg {α : Type} (ws:Ws) (fd:Int) (no : α) (f:Nat->Nat->Wi -> α) : α := match atS ws fd with
 | none=>no
 | some (n,k)=>match ws[n]? with
  | none=>no
  | some x=>f n k x
theorem ja9 {α : Type} {ws:Ws} {fd:Int} {no : α} {f:Nat->Nat->Wi -> α} (h : ∀ n k,¬ AtW ws n k fd):jcg ws fd no f=no:=by
 unfold jcg;rw [jeA h]
theorem jaA {α : Type} {ws:Ws} {fd:Int} {no : α} {f:Nat->Nat->Wi -> α} {n k:Nat} {x:Wi} (u:Uniq ws) (h:AtW ws n k fd) (hx:ws[n]?=some x):jcg ws fd no f=f n k x:=by
 unfold jcg;rw [jdj u h];simp only [hx]
noncomputable def jbP (ws:Ws) (fd many:Int):(List UInt8 × Bool × Int) × Ws :=
 jcg ws fd (([],false,110),ws) fun n k x=>match (x.e k).ring with
  | none=>(([],false,111),ws)
  | some q=>if many<1 then (([],false,2),ws) else if x.reset then (([],false,115),ws)
   else if q≠[] then ((q.take (min many q.length).toNat,false,0),ws.set n (x.take k (min many q.length).toNat q))
   else if x.silent k then (([],true,0),ws) else (([],false,113),ws)
noncomputable def jb1 (ws:Ws) (fd:Int) (b:List UInt8):(Int × Int) × Ws :=
 jcg ws fd ((0,110),ws) fun n k x=>if (x.e k).writes=false then ((0,111),ws) else if x.reset then ((0,115),ws)
  else if (x.e k).shut=true\/(x.e (1-k)).what=3 then ((0,116-2),ws) else if b=[] then ((0,0),ws)
  else match (x.e (1-k)).ring with
   | none=>((0,111),ws)
   | some q=>if min b.length (x.cap-q.length)=0 then ((0,113),ws.set n (x.fill k 0 q b)) else (((min b.length (x.cap-q.length):Nat),0),ws.set n (x.fill k (min b.length (x.cap-q.length)) q b))
noncomputable def jcW (ws:Ws) (fd:Int):Int × Ws :=
 jcg ws fd (110,ws) fun n k x=>if (x.e k).ring=none\/(x.e k).writes=false then (111,ws) else (0,ws.set n (x.doShut k))
noncomputable def jgs (ws:Ws) (fd:Int):Int × Int:=jcg ws fd (0,110) fun n _ _=>(n,0)
def OutW (ws:Ws) (n:Int) (x:Wi):Prop:=0<=n/\ws[n.toNat]?=some x/\x.e1.what=2
def jcu {α : Type} (ws:Ws) (n:Int) (no : α) (f:Nat->Wi -> α) : α := if 0<=n then match ws[n.toNat]? with
  | none=>no
  | some x=>if x.e1.what=2 then f n.toNat x else no
 else no
theorem jby {α : Type} {ws:Ws} {n:Int} {no : α} {f:Nat->Wi -> α} (h : ∀ x,¬ OutW ws n x):jcu ws n no f=no:=by
 unfold jcu
 split
 ·next h0=>
  split
  ·rfl
  ·next x hx=>
   split
   ·next h2=>exact absurd ⟨h0,hx,h2⟩ (h x)
   ·rfl
 ·rfl
theorem jbz {α : Type} {ws:Ws} {n:Nat} {no : α} {f:Nat->Wi -> α} {x:Wi} (hx:ws[n]?=some x) (h2:x.e1.what=2):jcu ws (n:Int) no f=f n x:=by
 unfold jcu
 rw [if_pos (by omega)]
 simp only [Int.toNat_natCast,hx,h2,if_true]
def putS (ws:Ws) (n:Int) (b:List UInt8):(Int × Int) × Ws :=
 jcu ws n ((0,116),ws) fun n x=>if x.reset then ((0,115),ws) else if x.e1.shut=true\/x.e0.what=3 then ((0,114),ws)
  else match x.e0.ring with
   | none=>((0,0),ws)
   | some q=>(((min b.length (x.cap-q.length):Nat),0),ws.set n (x.fill 1 (min b.length (x.cap-q.length)) q b))
def jco (ws:Ws) (n many:Int):(List UInt8 × Int) × Ws :=
 jcu ws n (([],116),ws) fun n x=>if many<0 then (([],2),ws) else if x.reset then (([],115),ws)
  else match x.e1.ring with
   | none=>(([],0),ws)
   | some q=>((q.take (min many q.length).toNat,0),ws.set n (x.take 1 (min many q.length).toNat q))
def jaJ (ws:Ws) (n:Int):Int × Ws:=jcu ws n (116,ws) fun n x=>(0,ws.set n (x.doShut 1))
def ja3 (ws:Ws) (n:Int):Int × Ws:=jcu ws n (116,ws) fun n x=>(0,ws.set n (x.close 1))
def Wi.doReset (x:Wi):Wi:=if x.reset then x else
 let y:Wi := { x with reset:=true }
 let y:=(y.setq 0 []).came 0 true true
 (y.setq 1 []).came 1 true true
def jbV (ws:Ws) (n:Int):Int × Ws:=jcu ws n (116,ws) fun n x=>(0,ws.set n x.doReset)
structure WiOk (x:Wi):Prop where
 cap0:1<=x.cap
 cap1:x.cap<=65536
 len : ∀ k,k=0\/k=1 -> ∀ q,(x.e k).ring=some q->q.length<=x.cap
 pair : ∀ k,k=0\/k=1->((x.e k).writes=true↔(x.e (1-k)).ring≠none)
 out:x.e1.what=2->x.e0.ring≠none/\x.e1.ring≠none
 bl:0<=x.backlog/\x.backlog<=64
structure WsOk (ws:Ws):Prop where
 uniq:Uniq ws
 ok : ∀ x∈ws,WiOk x
 len:ws.length<=1000
 wait : ∀ x∈ws,x.waiting.length<=64 /\ ∀ m∈x.waiting,∃ y:Wi,0<=m/\ws[m.toNat]?=some y/\y.e0.what=0
def jcK (ws:Ws) (m:Int):Ws:=match ws[m.toNat]? with
 | none=>ws
 | some x=>ws.set m.toNat (x.close 0)
def ja7:Ws->List Int->Ws
 | ws,[]=>ws
 | ws,m :: r=>ja7 (jcK ws m) r
def noWait (ws:Ws) (n:Nat):Ws:=match ws[n]? with
 | none=>ws
 | some x=>ws.set n { x with waiting:=[] }
noncomputable def jbR (ws:Ws) (fd:Int):Int × Ws :=
 jcg ws fd (110,ws) fun n k x=>(0,noWait (ja7 (ws.set n (x.close k)) x.waiting) n)
theorem Wi.close_waiting {x:Wi} {k:Nat} (hk:k=0\/k=1):(x.close k).waiting=x.waiting:=by rcases hk with rfl | rfl<;>rfl
theorem Wi.close_ring {x:Wi} {k j:Nat} (hk:k=0\/k=1) (hj:j=0\/j=1):((x.close k).e j).ring=(x.e j).ring:=by rcases hk with rfl | rfl<;>rcases hj with rfl | rfl<;>rfl
end Am.Sigs
namespace Am.Sigs
open Am Go
theorem jaS {l:List RX} {n:Nat} {r:RX} (hr:l[n]?=some r):(l.map RX.x)[n]?=some r.x:=by simp [hr]
theorem WsOk.wi {l:List RX} {n:Nat} {r:RX} (o:WsOk (l.map RX.x)) (hr:l[n]?=some r):WiOk r.x:=o.ok _ (List.mem_of_getElem? (jaS hr))
theorem jk2 {r:RX} {k m:Nat} {b:List UInt8} {v:V} (hk:k=0\/k=1):(r.take k m b v).x=r.x.take k m b:=by rcases hk with rfl | rfl<;>rfl
theorem jjw {r:RX} {k m:Nat} {b l:List UInt8} {v:V} (hk:k=0\/k=1):(r.fill k m b l v).x=r.x.fill k m b l:=by rcases hk with rfl | rfl<;>rfl
section
variable {cl:Nat->Call} (hcl:Sem cl)
include hcl
theorem jdw {d rw q:Nat} {h:H} {l:List RX} {tl:List V} {fd:Int} (hd:1<=d) (w:RW h rw q l tl) (o:WsOk (l.map RX.x)) :
  ((∀ n k,¬ AtW (l.map RX.x) n k fd)/\cl d (.fn F.jaK) [.p rw 0,.i fd] h=some (.tup [.i (-1),.i (-1)],h)) \/
  ∃ (n k:Nat) (r:RX),AtW (l.map RX.x) n k fd/\l[n]?=some r/\(k=0\/k=1)/\cl d (.fn F.jaK) [.p rw 0,.i fd] h=some (.tup [.i (n:Int),.i (k:Int)],h):=by
 obtain ⟨n,k,e,p⟩:=rp_at hcl (fd:=fd) hd w (by simpa using o.len)
 rcases p with ⟨rfl,rfl,p⟩ | ⟨n,k,rfl,rfl,p⟩
 ·exact .inl ⟨fun n k hk=>p n k (jlJ.2 hk),e⟩
 ·obtain ⟨r,hr,hk,_⟩:=id p
  exact .inr ⟨n,k,r,jlJ.1 p,hr,hk,e⟩
theorem rq_Read {d rw q:Nat} {h:H} {l:List RX} {tl:List V} {fd many:Int} (hd:3<=d) (w:RW h rw q l tl) (o:WsOk (l.map RX.x)) :
  ∃ v l' h',cl d (.fn F.jbg) [.p rw 0,.i fd,.i many] h=some (.tup [v,.bool (jbP (l.map RX.x) fd many).1.2.1,.i (jbP (l.map RX.x) fd many).1.2.2],h') /\
   VB h' v (jbP (l.map RX.x) fd many).1.1/\RW h' rw q l' tl/\l'.map RX.x=(jbP (l.map RX.x) fd many).2/\Ch (RC rw q) h h':=by
 suffices s : ∃ v' h',cl d (.fn F.jbg) [.p rw 0,.i fd,.i many] h=some (v',h') /\ ∃ v l',v' = .tup [v,.bool (jbP (l.map RX.x) fd many).1.2.1,.i (jbP (l.map RX.x) fd many).1.2.2] /\
   VB h' v (jbP (l.map RX.x) fd many).1.1/\RW h' rw q l' tl/\l'.map RX.x=(jbP (l.map RX.x) fd many).2/\Ch (RC rw q) h h' by
  obtain ⟨_,h',e,v,l',rfl,p⟩:=s;exact ⟨v,l',h',e,p⟩
 refine at_ hcl (by omega) rfl rfl rfl ?_
 rcases jdw hcl (d:=d-1) (fd:=fd) (by omega) w o with ⟨hno,ea⟩ | ⟨n,k,r,hat,hr,hk,ea⟩
 ·have hS:jbP (l.map RX.x) fd many=(([],false,110),l.map RX.x):=ja9 hno
  rw [hS]
  repeat' (first|refine zaa rfl ?_|refine zaw rfl ‹_› ?_|refine zad (by repeat' constructor) ?_|refine zaf rfl rfl ?_|refine zau rfl rfl ?_|apply zab|apply zac|refine zbi rfl (by omega) ?_|apply zbq|apply zae|apply zbu|refine zcf rfl ?_)
  exact ⟨_,l,rfl,VB.nil h,w,rfl,Ch.refl _ _⟩
 obtain ⟨hw,hq,hne⟩:=w.rat hr
 have hn:=r_lt hr
 have q1:=jfO hr hk
 have q2:=jfN hr
 have q3:=r_b hr hk
 have ek:(1:Int)-(k:Int)=((1-k:Nat):Int):=by omega
 have hk':1-k=0\/1-k=1:=by omega
 have q4:=jgB hr hk'
 have q5:=jhK hr hk'
 rw [<- ek] at q4 q5
 have hS:jbP (l.map RX.x) fd many=_:=jaA o.uniq hat (jaS hr)
 cases hring:(r.x.e k).ring with
 | none=>
  rw [hS]
  simp only [hring]
  rw [hring] at q1
  repeat' (first|refine zaa rfl ?_|refine zav rfl ‹_› (by first|assumption|rfl) ?_|refine zaw rfl ‹_› ?_|refine zad (by repeat' constructor) ?_|refine zaf rfl rfl ?_|refine zao rfl ?_|refine zau rfl rfl ?_|refine zax rfl rfl (by omega) ?_|refine zay rfl rfl (by omega) ?_|apply zab|apply zac|refine zbj rfl (by omega) ?_|refine zbk rfl rfl ?_|apply zbp|apply zbq|apply zae|apply zbu|refine zcf rfl ?_)
  exact ⟨_,l,rfl,VB.nil h,w,rfl,Ch.refl _ _⟩
 | some b=>
  rw [hring] at q1
  simp only [hring] at hS
  by_cases hm:many<1
  ·rw [if_pos hm] at hS;rw [hS]
   repeat' (first|refine zaa rfl ?_|refine zav rfl ‹_› (by first|assumption|rfl) ?_|refine zaw rfl ‹_› ?_|refine zad (by repeat' constructor) ?_|refine zaf rfl rfl ?_|refine zao rfl ?_|refine zau rfl rfl ?_|refine zax rfl rfl (by omega) ?_|refine zay rfl rfl (by omega) ?_|apply zab|apply zac|refine zbi rfl ‹_› ?_|refine zbj rfl (by omega) ?_|refine zbl rfl rfl ?_|apply zbp|apply zbq|apply zae|apply zbu|refine zcf rfl ?_)
   exact ⟨_,l,rfl,VB.nil h,w,rfl,Ch.refl _ _⟩
  rw [if_neg hm] at hS
  cases hrs:r.x.reset
  case true=>
   rw [hrs,if_pos rfl] at hS;rw [hS]
   rw [hrs] at q2
   repeat' (first|refine zaa rfl ?_|refine zav rfl ‹_› (by first|assumption|rfl) ?_|refine zaw rfl ‹_› ?_|refine zad (by repeat' constructor) ?_|refine zaf rfl rfl ?_|refine zao rfl ?_|refine zau rfl rfl ?_|refine zax rfl rfl (by omega) ?_|refine zay rfl rfl (by omega) ?_|apply zab|apply zac|refine zbj rfl (by first|assumption|omega) ?_|refine zbk rfl rfl ?_|refine zbl rfl rfl ?_|apply zbp|apply zbq|apply zae|apply zbu|refine zcf rfl ?_)
   exact ⟨_,l,rfl,VB.nil h,w,rfl,Ch.refl _ _⟩
  rw [hrs,if_neg (by simp)] at hS
  rw [hrs] at q2
  obtain ⟨hv,hz⟩:=(w.rok hr).b k hk
  rw [hring] at hv
  simp only [Option.getD_some] at hv
  obtain ⟨a,c,hva,_⟩:=id hv
  rw [hva] at q3
  by_cases hb:b=[]
  ·subst hb
   rw [if_neg (by simp)] at hS
   have q3:(rows l)[0+(n:Int).toNat*20+0+(k:Int).toNat*8+4]?=some (V.slice a 0 c):=q3
   cases hsi:r.x.silent k
   ·rw [hsi,if_neg (by simp)] at hS;rw [hS]
    simp only [Wi.silent,Bool.or_eq_false_iff,beq_eq_false_iff_ne] at hsi
    rw [hsi.2] at q5
    have h3:=hsi.1
    repeat' (first|refine zaa rfl ?_|refine zav rfl ‹_› (by first|assumption|rfl) ?_|refine zaw rfl ‹_› ?_|refine zad (by repeat' constructor) ?_|refine zbb rfl ‹_› ?_|refine zaf rfl rfl ?_|refine zag rfl rfl ?_|refine zaj rfl rfl ?_|refine zam rfl rfl ⟨by omega,by omega⟩ ?_|refine zar rfl ‹_› rfl ?_|refine zao rfl ?_|refine zau rfl rfl ?_|refine zax rfl rfl (by omega) ?_|refine zay rfl rfl (by omega) ?_|apply zab|apply zac|refine zbj rfl (by first|assumption|omega) ?_|refine zbl rfl rfl ?_|apply zbp|apply zbq|apply zae|refine zcf rfl ?_)
    exact ⟨_,l,rfl,VB.nil h,w,rfl,Ch.refl _ _⟩
   ·rw [hsi,if_pos rfl] at hS;rw [hS]
    by_cases h3:(r.x.e (1-k)).what=3
    ·repeat' (first|refine zaa rfl ?_|refine zav rfl ‹_› (by first|assumption|rfl) ?_|refine zaw rfl ‹_› ?_|refine zad (by repeat' constructor) ?_|refine zbc rfl ‹_› ?_|refine zaf rfl rfl ?_|refine zag rfl rfl ?_|refine zaj rfl rfl ?_|refine zam rfl rfl ⟨by omega,by omega⟩ ?_|refine zaq rfl ‹_› rfl ?_|refine zao rfl ?_|refine zau rfl rfl ?_|refine zax rfl rfl (by omega) ?_|refine zay rfl rfl (by omega) ?_|apply zab|apply zac|refine zbj rfl (by first|assumption|omega) ?_|refine zbk rfl rfl ?_|refine zbl rfl rfl ?_|apply zbp|apply zbq|apply zae|apply zbu|refine zcf rfl ?_)
     exact ⟨_,l,rfl,VB.nil h,w,rfl,Ch.refl _ _⟩
    ·have hsh:(r.x.e (1-k)).shut=true:=by simpa [Wi.silent,h3] using hsi
     rw [hsh] at q5
     repeat' (first|refine zaa rfl ?_|refine zav rfl ‹_› (by first|assumption|rfl) ?_|refine zaw rfl ‹_› ?_|refine zad (by repeat' constructor) ?_|refine zbb rfl ‹_› ?_|refine zaf rfl rfl ?_|refine zag rfl rfl ?_|refine zaj rfl rfl ?_|refine zam rfl rfl ⟨by omega,by omega⟩ ?_|refine zar rfl ‹_› rfl ?_|refine zao rfl ?_|refine zau rfl rfl ?_|refine zax rfl rfl (by omega) ?_|refine zay rfl rfl (by omega) ?_|apply zab|apply zac|refine zbj rfl (by first|assumption|omega) ?_|refine zbk rfl rfl ?_|refine zbl rfl rfl ?_|apply zbp|apply zbq|apply zae|apply zbu|refine zcf rfl ?_)
     exact ⟨_,l,rfl,VB.nil h,w,rfl,Ch.refl _ _⟩
  ·rw [if_pos hb] at hS;rw [hS]
   have hpos:0<(b.length:Int):=by cases b<;>simp_all
   obtain ⟨v,v',h',e2,p1,p2,p3⟩:=jkG hcl (d:=d-1) (many:=many) (by omega) w hr hk hring (by omega)
   repeat' (first|refine zaa rfl ?_|refine zav rfl ‹_› (by first|assumption|rfl) ?_|refine zaw rfl ‹_› ?_|refine zad (by repeat' constructor) ?_|refine zaf rfl rfl ?_|refine zaj rfl rfl ?_|refine zao rfl ?_|refine zau rfl rfl ?_|refine zax rfl rfl (by omega) ?_|refine zay rfl rfl (by omega) ?_|apply zab|apply zac|refine zbi rfl ‹_› ?_|refine zbj rfl (by first|assumption|omega) ?_|refine zbl rfl rfl ?_|apply zbp|apply zbq|apply zae|apply zbu|refine zcf rfl ?_)
   exact ⟨v,_,rfl,p1,p2,by rw [map_set,jk2 hk],p3⟩
end
end Am.Sigs
namespace Am.Sigs
open Am Go
theorem isOut_wx {l:List RX} {n:Int} : jiq l n ↔ ∃ x,OutW (l.map RX.x) n x:=by
 unfold jiq OutW
 constructor
 ·rintro ⟨m,r,rfl,hr,h2⟩;exact ⟨r.x,by omega,by simpa using ⟨r,hr,rfl⟩,h2⟩
 ·rintro ⟨x,h0,hx,h2⟩
  rw [List.getElem?_map] at hx
  cases hr:l[n.toNat]? with
  | none=>rw [hr] at hx;cases hx
  | some r=>rw [hr] at hx;cases hx;exact ⟨n.toNat,r,by omega,hr,h2⟩
section
variable {cl:Nat->Call} (hcl:Sem cl)
include hcl
open Classical in
theorem jfM {d rw q:Nat} {h:H} {l:List RX} {tl:List V} {n:Int} (hd:1<=d) (w:RW h rw q l tl) :
  ((∀ x,¬ OutW (l.map RX.x) n x)/\cl d (.fn F.jaT) [.p rw 0,.i n] h=some (.bool false,h)) \/
  ∃ (m:Nat) (r:RX),n=m/\l[m]?=some r/\r.x.e1.what=2/\cl d (.fn F.jaT) [.p rw 0,.i n] h=some (.bool true,h):=by
 have e:=rp_outer hcl (n:=n) hd w
 by_cases ho:jiq l n
 ·rw [decide_eq_true ho] at e
  obtain ⟨m,r,rfl,hr,h2⟩:=ho
  exact .inr ⟨m,r,rfl,hr,h2,e⟩
 ·rw [decide_eq_false ho] at e
  exact .inl ⟨fun x hx=>ho (isOut_wx.2 ⟨x,hx⟩),e⟩
theorem rq_Write {d rw q:Nat} {h:H} {l:List RX} {tl:List V} {fd:Int} {b:List UInt8} {vb:V} (hd:3<=d) (w:RW h rw q l tl) (o:WsOk (l.map RX.x)) (hb:VB h vb b) (hbl:b.length<=1000) (hba:b≠[] -> ∀ z,vb.at?=some z->z≠q/\z≠rw/\z<h.nx) :
  ∃ l' h',cl d (.fn F.jaU) [.p rw 0,.i fd,vb] h=some (.tup [.i (jb1 (l.map RX.x) fd b).1.1,.i (jb1 (l.map RX.x) fd b).1.2],h') /\
   RW h' rw q l' tl/\l'.map RX.x=(jb1 (l.map RX.x) fd b).2/\Ch (RC rw q) h h':=by
 suffices s : ∃ v' h',cl d (.fn F.jaU) [.p rw 0,.i fd,vb] h=some (v',h') /\ ∃ l',v' = .tup [.i (jb1 (l.map RX.x) fd b).1.1,.i (jb1 (l.map RX.x) fd b).1.2] /\
   RW h' rw q l' tl/\l'.map RX.x=(jb1 (l.map RX.x) fd b).2/\Ch (RC rw q) h h' by
  obtain ⟨_,h',e,l',rfl,p⟩:=s;exact ⟨l',h',e,p⟩
 refine at_ hcl (by omega) rfl rfl rfl ?_
 rcases jdw hcl (d:=d-1) (fd:=fd) (by omega) w o with ⟨hno,ea⟩ | ⟨n,k,r,hat,hr,hk,ea⟩
 ·have hS:jb1 (l.map RX.x) fd b=((0,110),l.map RX.x):=ja9 hno
  rw [hS]
  repeat' (first|refine zaa rfl ?_|refine zaw rfl ‹_› ?_|refine zad (by repeat' constructor) ?_|refine zaf rfl rfl ?_|refine zau rfl rfl ?_|apply zab|apply zac|refine zbi rfl (by omega) ?_|apply zbq|apply zae|apply zbu|refine zcf rfl ?_)
  exact ⟨l,rfl,w,rfl,Ch.refl _ _⟩
 obtain ⟨hw,hq,hne⟩:=w.rat hr
 have hn:=r_lt hr
 have q1:=jhd hr hk
 have q2:=jfN hr
 have q3:=jhK hr hk
 have ek:(1:Int)-(k:Int)=((1-k:Nat):Int):=by omega
 have hk':1-k=0\/1-k=1:=by omega
 have q4:=jgB hr hk'
 rw [<- ek] at q4
 have hS:jb1 (l.map RX.x) fd b=_:=jaA o.uniq hat (jaS hr)
 cases hwr:(r.x.e k).writes
 ·rw [hwr,if_pos rfl] at hS;rw [hS]
  rw [hwr] at q1
  repeat' (first|refine zaa rfl ?_|refine zav rfl ‹_› (by first|assumption|rfl) ?_|refine zaw rfl ‹_› ?_|refine zad (by repeat' constructor) ?_|refine zaf rfl rfl ?_|refine zao rfl ?_|refine zau rfl rfl ?_|refine zax rfl rfl (by omega) ?_|refine zay rfl rfl (by omega) ?_|apply zab|apply zac|refine zbj rfl (by omega) ?_|refine zbk rfl rfl ?_|apply zbp|apply zbq|apply zae|apply zbu|refine zcf rfl ?_)
  exact ⟨l,rfl,w,rfl,Ch.refl _ _⟩
 rw [hwr,if_neg (by simp)] at hS
 rw [hwr] at q1
 cases hrs:r.x.reset
 case true=>
  rw [hrs,if_pos rfl] at hS;rw [hS]
  rw [hrs] at q2
  repeat' (first|refine zaa rfl ?_|refine zav rfl ‹_› (by first|assumption|rfl) ?_|refine zaw rfl ‹_› ?_|refine zad (by repeat' constructor) ?_|refine zaf rfl rfl ?_|refine zao rfl ?_|refine zau rfl rfl ?_|refine zax rfl rfl (by omega) ?_|refine zay rfl rfl (by omega) ?_|apply zab|apply zac|refine zbj rfl (by first|assumption|omega) ?_|refine zbk rfl rfl ?_|refine zbl rfl rfl ?_|apply zbp|apply zbq|apply zae|apply zbu|refine zcf rfl ?_)
  exact ⟨l,rfl,w,rfl,Ch.refl _ _⟩
 rw [hrs,if_neg (by simp)] at hS
 rw [hrs] at q2
 cases hsh:(r.x.e k).shut
 case true=>
  rw [if_pos (.inl hsh)] at hS;rw [hS]
  rw [hsh] at q3
  repeat' (first|refine zaa rfl ?_|refine zav rfl ‹_› (by first|assumption|rfl) ?_|refine zaw rfl ‹_› ?_|refine zad (by repeat' constructor) ?_|refine zbe rfl rfl ?_|refine zaf rfl rfl ?_|refine zas rfl rfl rfl ?_|refine zao rfl ?_|refine zau rfl rfl ?_|refine zax rfl rfl (by omega) ?_|refine zay rfl rfl (by omega) ?_|apply zab|apply zac|refine zbj rfl (by first|assumption|omega) ?_|refine zbk rfl rfl ?_|refine zbl rfl rfl ?_|apply zbp|apply zbq|apply zae|apply zbu|refine zcf rfl ?_)
  exact ⟨l,rfl,w,rfl,Ch.refl _ _⟩
 rw [hsh] at q3
 by_cases h3:(r.x.e (1-k)).what=3
 ·rw [if_pos (.inr h3)] at hS;rw [hS]
  repeat' (first|refine zaa rfl ?_|refine zav rfl ‹_› (by first|assumption|rfl) ?_|refine zaw rfl ‹_› ?_|refine zad (by repeat' constructor) ?_|refine zbd rfl rfl ?_|refine zaf rfl rfl ?_|refine zag rfl rfl ?_|refine zam rfl rfl ⟨by omega,by omega⟩ ?_|refine zat rfl rfl rfl ?_|refine zao rfl ?_|refine zau rfl rfl ?_|refine zax rfl rfl (by omega) ?_|refine zay rfl rfl (by omega) ?_|apply zab|apply zac|refine zbi rfl ‹_› ?_|refine zbj rfl (by first|assumption|omega) ?_|refine zbl rfl rfl ?_|apply zbp|apply zbq|apply zae|apply zbu|refine zcf rfl ?_)
  exact ⟨l,rfl,w,rfl,Ch.refl _ _⟩
 rw [if_neg (by rintro (e | e);(rw [hsh] at e;cases e);exact h3 e)] at hS
 obtain ⟨a,c,rfl,_⟩:=id hb
 by_cases hbn:b=[]
 ·rw [if_pos hbn] at hS;rw [hS]
  subst hbn
  repeat' (first|refine zaa rfl ?_|refine zav rfl ‹_› (by first|assumption|rfl) ?_|refine zaw rfl ‹_› ?_|refine zad (by repeat' constructor) ?_|refine zbd rfl rfl ?_|refine zaf rfl rfl ?_|refine zag rfl rfl ?_|refine zam rfl rfl ⟨by omega,by omega⟩ ?_|refine zat rfl rfl rfl ?_|refine zao rfl ?_|refine zau rfl rfl ?_|refine zax rfl rfl (by omega) ?_|refine zay rfl rfl (by omega) ?_|apply zab|apply zac|refine zbj rfl (by first|assumption|omega) ?_|refine zbk rfl rfl ?_|refine zbl rfl rfl ?_|apply zbp|apply zbq|apply zae|apply zbu|refine zcf rfl ?_)
  exact ⟨l,rfl,w,rfl,Ch.refl _ _⟩
 rw [if_neg hbn] at hS
 have hpos : ¬ (b.length:Int)=0:=by have:=List.length_pos_iff.2 hbn;omega
 have hne0:=(o.wi hr).pair k hk
 cases hring:(r.x.e (1-k)).ring with
 | none=>exact absurd hring (hne0.1 hwr)
 | some b'=>
  simp only [hring] at hS
  obtain ⟨v',h',e2,p2,p3⟩:=ji4 hcl (d:=d-1) (k:=k) (by omega) w hr hk hring ((o.wi hr).len _ hk' _ hring) (o.wi hr).cap1 hb hbl hba
  generalize hm:min b.length (r.x.cap-b'.length)=m at hS e2 p2
  by_cases hm0:m=0
  ·subst hm0
   rw [if_pos rfl] at hS;rw [hS]
   have e2:cl (d-1) (.fn F.jbd) _ h=some (.i 0,h'):=e2
   repeat' (first|refine zaa rfl ?_|refine zav rfl ‹_› (by first|assumption|rfl) ?_|refine zaw rfl ‹_› ?_|refine zad (by repeat' constructor) ?_|refine zbd rfl rfl ?_|refine zaf rfl rfl ?_|refine zag rfl rfl ?_|refine zam rfl rfl ⟨by omega,by omega⟩ ?_|refine zat rfl rfl rfl ?_|refine zao rfl ?_|refine zau rfl rfl ?_|refine zax rfl rfl (by omega) ?_|refine zay rfl rfl (by omega) ?_|apply zab|apply zac|refine zbi rfl (by first|assumption|omega) ?_|refine zbj rfl (by first|assumption|omega) ?_|refine zbl rfl rfl ?_|apply zbp|apply zbq|apply zae|apply zbu|refine zcf rfl ?_)
   exact ⟨_,rfl,p2,by rw [map_set,jjw hk],p3⟩
  ·rw [if_neg hm0] at hS;rw [hS]
   have hm1 : ¬ (m:Int)=0:=by omega
   repeat' (first|refine zaa rfl ?_|refine zav rfl ‹_› (by first|assumption|rfl) ?_|refine zaw rfl ‹_› ?_|refine zad (by repeat' constructor) ?_|refine zbd rfl rfl ?_|refine zaf rfl rfl ?_|refine zag rfl rfl ?_|refine zam rfl rfl ⟨by omega,by omega⟩ ?_|refine zat rfl rfl rfl ?_|refine zao rfl ?_|refine zau rfl rfl ?_|refine zax rfl rfl (by omega) ?_|refine zay rfl rfl (by omega) ?_|apply zab|apply zac|refine zbj rfl (by first|assumption|omega) ?_|refine zbl rfl rfl ?_|apply zbp|apply zbq|apply zae|refine zcf rfl ?_)
   exact ⟨_,rfl,p2,by rw [map_set,jjw hk],p3⟩
theorem rq_Shut {d rw q:Nat} {h:H} {l:List RX} {tl:List V} {fd:Int} (hd:3<=d) (w:RW h rw q l tl) (o:WsOk (l.map RX.x)) :
  ∃ l' h',cl d (.fn F.jbf) [.p rw 0,.i fd] h=some (.i (jcW (l.map RX.x) fd).1,h')/\RW h' rw q l' tl/\l'.map RX.x=(jcW (l.map RX.x) fd).2/\Ch (RC rw q) h h':=by
 suffices s : ∃ v' h',cl d (.fn F.jbf) [.p rw 0,.i fd] h=some (v',h') /\ ∃ l',v' = .i (jcW (l.map RX.x) fd).1/\RW h' rw q l' tl/\l'.map RX.x=(jcW (l.map RX.x) fd).2/\Ch (RC rw q) h h' by
  obtain ⟨_,h',e,l',rfl,p⟩:=s;exact ⟨l',h',e,p⟩
 refine at_ hcl (by omega) rfl rfl rfl ?_
 rcases jdw hcl (d:=d-1) (fd:=fd) (by omega) w o with ⟨hno,ea⟩ | ⟨n,k,r,hat,hr,hk,ea⟩
 ·have hS:jcW (l.map RX.x) fd=(110,l.map RX.x):=ja9 hno
  rw [hS]
  repeat' (first|refine zaa rfl ?_|refine zaw rfl ‹_› ?_|refine zad (by repeat' constructor) ?_|refine zaf rfl rfl ?_|refine zau rfl rfl ?_|apply zab|apply zac|refine zbi rfl (by omega) ?_|apply zbq|apply zae|refine zcc rfl ?_|apply zbu)
  exact ⟨l,rfl,w,rfl,Ch.refl _ _⟩
 obtain ⟨hw,hq,hne⟩:=w.rat hr
 have hn:=r_lt hr
 have q1:=jhd hr hk
 have q2:=jfO hr hk
 have hS:jcW (l.map RX.x) fd=_:=jaA o.uniq hat (jaS hr)
 cases hring:(r.x.e k).ring with
 | none=>
  rw [if_pos (.inl hring)] at hS;rw [hS]
  rw [hring] at q2
  repeat' (first|refine zaa rfl ?_|refine zav rfl ‹_› (by first|assumption|rfl) ?_|refine zaw rfl ‹_› ?_|refine zad (by repeat' constructor) ?_|refine zbe rfl rfl ?_|refine zaf rfl rfl ?_|refine zas rfl rfl rfl ?_|refine zao rfl ?_|refine zau rfl rfl ?_|refine zax rfl rfl (by omega) ?_|refine zay rfl rfl (by omega) ?_|apply zab|apply zac|refine zbj rfl (by first|assumption|omega) ?_|refine zbk rfl rfl ?_|apply zbp|apply zbq|apply zae|refine zcc rfl ?_|apply zbu)
  exact ⟨l,rfl,w,rfl,Ch.refl _ _⟩
 | some b=>
  rw [hring] at q2
  cases hwr:(r.x.e k).writes
  ·rw [if_pos (.inr hwr)] at hS;rw [hS]
   rw [hwr] at q1
   repeat' (first|refine zaa rfl ?_|refine zav rfl ‹_› (by first|assumption|rfl) ?_|refine zaw rfl ‹_› ?_|refine zad (by repeat' constructor) ?_|refine zbd rfl rfl ?_|refine zaf rfl rfl ?_|refine zat rfl rfl rfl ?_|refine zao rfl ?_|refine zau rfl rfl ?_|refine zax rfl rfl (by omega) ?_|refine zay rfl rfl (by omega) ?_|apply zab|apply zac|refine zbj rfl (by omega) ?_|refine zbk rfl rfl ?_|apply zbp|apply zbq|apply zae|refine zcc rfl ?_|apply zbu)
   exact ⟨l,rfl,w,rfl,Ch.refl _ _⟩
  ·rw [if_neg (by rintro (e | e);(rw [hring] at e;cases e);rw [hwr] at e;cases e)] at hS
   rw [hS]
   rw [hwr] at q1
   obtain ⟨h',e2,p2,p3⟩:=jkD hcl (d:=d-1) (by omega) w hr hk
   repeat' (first|refine zaa rfl ?_|refine zav rfl ‹_› (by first|assumption|rfl) ?_|refine zaw rfl ‹_› ?_|refine zad (by repeat' constructor) ?_|refine zbd rfl rfl ?_|refine zaf rfl rfl ?_|refine zat rfl rfl rfl ?_|refine zao rfl ?_|refine zau rfl rfl ?_|refine zax rfl rfl (by omega) ?_|refine zay rfl rfl (by omega) ?_|apply zab|apply zac|refine zbj rfl (by omega) ?_|refine zbl rfl rfl ?_|apply zbp|apply zbq|apply zae|refine zcc rfl ?_)
   exact ⟨_,rfl,p2,by rw [map_set];rfl,p3⟩
theorem rq_Wire {d rw q:Nat} {h:H} {l:List RX} {tl:List V} {fd:Int} (hd:2<=d) (w:RW h rw q l tl) (o:WsOk (l.map RX.x)) :
  cl d (.fn F.jbA) [.p rw 0,.i fd] h=some (.tup [.i (jgs (l.map RX.x) fd).1,.i (jgs (l.map RX.x) fd).2],h):=by
 refine jaq (at_ hcl (by omega) rfl rfl rfl ?_)
 rcases jdw hcl (d:=d-1) (fd:=fd) (by omega) w o with ⟨hno,ea⟩ | ⟨n,k,r,hat,hr,hk,ea⟩
 ·have hS:jgs (l.map RX.x) fd=(0,110):=ja9 hno
  rw [hS]
  repeat' (first|refine zaa rfl ?_|refine zaw rfl ‹_› ?_|refine zad (by repeat' constructor) ?_|refine zaf rfl rfl ?_|refine zau rfl rfl ?_|apply zab|apply zac|refine zbi rfl (by omega) ?_|apply zbq|apply zae|apply zbu|refine zcf rfl ?_)
  exact ⟨rfl,rfl⟩
 ·have hS:jgs (l.map RX.x) fd=((n:Int),0):=jaA o.uniq hat (jaS hr)
  rw [hS]
  repeat' (first|refine zaa rfl ?_|refine zaw rfl ‹_› ?_|refine zad (by repeat' constructor) ?_|refine zaf rfl rfl ?_|refine zau rfl rfl ?_|apply zab|apply zac|refine zbj rfl (by omega) ?_|apply zbp|apply zbq|apply zae|refine zcf rfl ?_)
  exact ⟨rfl,rfl⟩
theorem ji3 {d rw q:Nat} {h:H} {l:List RX} {tl:List V} {n:Int} (hd:3<=d) (w:RW h rw q l tl) :
  ∃ l' h',cl d (.fn F.jaI) [.p rw 0,.i n] h=some (.i (jaJ (l.map RX.x) n).1,h')/\RW h' rw q l' tl/\l'.map RX.x=(jaJ (l.map RX.x) n).2/\Ch (RC rw q) h h':=by
 suffices s : ∃ v' h',cl d (.fn F.jaI) [.p rw 0,.i n] h=some (v',h') /\ ∃ l',v' = .i (jaJ (l.map RX.x) n).1/\RW h' rw q l' tl/\l'.map RX.x=(jaJ (l.map RX.x) n).2/\Ch (RC rw q) h h' by
  obtain ⟨_,h',e,l',rfl,p⟩:=s;exact ⟨l',h',e,p⟩
 refine at_ hcl (by omega) rfl rfl rfl ?_
 rcases jfM hcl (d:=d-1) (n:=n) (by omega) w with ⟨hno,ea⟩ | ⟨m,r,rfl,hr,h2,ea⟩
 ·have hS:jaJ (l.map RX.x) n=(116,l.map RX.x):=jby hno
  rw [hS]
  repeat' (first|refine zaa rfl ?_|refine zaw rfl ‹_› ?_|refine zad (by repeat' constructor) ?_|refine zao rfl ?_|apply zab|apply zac|refine zbk rfl rfl ?_|apply zbq|apply zae|refine zcc rfl ?_|apply zbu)
  exact ⟨l,rfl,w,rfl,Ch.refl _ _⟩
 ·have hS:jaJ (l.map RX.x) m=_:=jbz (jaS hr) h2
  rw [hS]
  obtain ⟨h',e2,p2,p3⟩:=jkD hcl (d:=d-1) (k:=1) (by omega) w hr (.inr rfl)
  repeat' (first|refine zaa rfl ?_|refine zaw rfl ‹_› ?_|refine zad (by repeat' constructor) ?_|refine zao rfl ?_|apply zab|apply zac|refine zbl rfl rfl ?_|apply zbp|apply zbq|apply zae|refine zcc rfl ?_)
  exact ⟨_,rfl,p2,by rw [map_set];rfl,p3⟩
theorem jhB {d rw q:Nat} {h:H} {l:List RX} {tl:List V} {n:Int} (hd:3<=d) (w:RW h rw q l tl) :
  ∃ l' h',cl d (.fn F.jaF) [.p rw 0,.i n] h=some (.i (ja3 (l.map RX.x) n).1,h')/\RW h' rw q l' tl/\l'.map RX.x=(ja3 (l.map RX.x) n).2/\Ch (RC rw q) h h':=by
 suffices s : ∃ v' h',cl d (.fn F.jaF) [.p rw 0,.i n] h=some (v',h') /\ ∃ l',v' = .i (ja3 (l.map RX.x) n).1/\RW h' rw q l' tl/\l'.map RX.x=(ja3 (l.map RX.x) n).2/\Ch (RC rw q) h h' by
  obtain ⟨_,h',e,l',rfl,p⟩:=s;exact ⟨l',h',e,p⟩
 refine at_ hcl (by omega) rfl rfl rfl ?_
 rcases jfM hcl (d:=d-1) (n:=n) (by omega) w with ⟨hno,ea⟩ | ⟨m,r,rfl,hr,h2,ea⟩
 ·have hS:ja3 (l.map RX.x) n=(116,l.map RX.x):=jby hno
  rw [hS]
  repeat' (first|refine zaa rfl ?_|refine zaw rfl ‹_› ?_|refine zad (by repeat' constructor) ?_|refine zao rfl ?_|apply zab|apply zac|refine zbk rfl rfl ?_|apply zbq|apply zae|refine zcc rfl ?_|apply zbu)
  exact ⟨l,rfl,w,rfl,Ch.refl _ _⟩
 ·have hS:ja3 (l.map RX.x) m=_:=jbz (jaS hr) h2
  rw [hS]
  obtain ⟨h',e2,p2,p3⟩:=jgY hcl (d:=d-1) (k:=1) (by omega) w hr (.inr rfl)
  repeat' (first|refine zaa rfl ?_|refine zaw rfl ‹_› ?_|refine zad (by repeat' constructor) ?_|refine zao rfl ?_|apply zab|apply zac|refine zbl rfl rfl ?_|apply zbp|apply zbq|apply zae|refine zcc rfl ?_)
  exact ⟨_,rfl,p2,by rw [map_set];rfl,p3⟩
theorem rq_Put {d rw q:Nat} {h:H} {l:List RX} {tl:List V} {n:Int} {b:List UInt8} {vb:V} (hd:3<=d) (w:RW h rw q l tl) (o:WsOk (l.map RX.x)) (hb:VB h vb b) (hbl:b.length<=1000) (hba:b≠[] -> ∀ z,vb.at?=some z->z≠q/\z≠rw/\z<h.nx) :
  ∃ l' h',cl d (.fn F.jbo) [.p rw 0,.i n,vb] h=some (.tup [.i (putS (l.map RX.x) n b).1.1,.i (putS (l.map RX.x) n b).1.2],h')/\RW h' rw q l' tl/\l'.map RX.x=(putS (l.map RX.x) n b).2/\Ch (RC rw q) h h':=by
 suffices s : ∃ v' h',cl d (.fn F.jbo) [.p rw 0,.i n,vb] h=some (v',h') /\ ∃ l',v' = .tup [.i (putS (l.map RX.x) n b).1.1,.i (putS (l.map RX.x) n b).1.2]/\RW h' rw q l' tl/\l'.map RX.x=(putS (l.map RX.x) n b).2/\Ch (RC rw q) h h' by
  obtain ⟨_,h',e,l',rfl,p⟩:=s;exact ⟨l',h',e,p⟩
 refine at_ hcl (by omega) rfl rfl rfl ?_
 rcases jfM hcl (d:=d-1) (n:=n) (by omega) w with ⟨hno,ea⟩ | ⟨m,r,rfl,hr,h2,ea⟩
 ·have hS:putS (l.map RX.x) n b=((0,116),l.map RX.x):=jby hno
  rw [hS]
  repeat' (first|refine zaa rfl ?_|refine zaw rfl ‹_› ?_|refine zad (by repeat' constructor) ?_|refine zao rfl ?_|apply zab|apply zac|refine zbk rfl rfl ?_|apply zbq|apply zae|apply zbu|refine zcf rfl ?_)
  exact ⟨l,rfl,w,rfl,Ch.refl _ _⟩
 obtain ⟨hw,hq,hne⟩:=w.rat hr
 have hn:=r_lt hr
 have q2:=jfN hr
 have q3:=jhK (k:=1) hr (.inr rfl)
 have q4:=jgB (k:=0) hr (.inl rfl)
 have hS:putS (l.map RX.x) m b=_:=jbz (jaS hr) h2
 cases hrs:r.x.reset
 case true=>
  rw [hrs,if_pos rfl] at hS;rw [hS]
  rw [hrs] at q2
  repeat' (first|refine zaa rfl ?_|refine zav rfl ‹_› (by first|assumption|rfl) ?_|refine zaw rfl ‹_› ?_|refine zad (by repeat' constructor) ?_|refine zao rfl ?_|refine zau rfl rfl ?_|refine zay rfl rfl (by omega) ?_|apply zab|apply zac|refine zbk rfl rfl ?_|refine zbl rfl rfl ?_|apply zbp|apply zbq|apply zae|apply zbu|refine zcf rfl ?_)
  exact ⟨l,rfl,w,rfl,Ch.refl _ _⟩
 rw [hrs,if_neg (by simp)] at hS
 rw [hrs] at q2
 cases hsh:r.x.e1.shut
 case true=>
  rw [if_pos (.inl hsh)] at hS;rw [hS]
  rw [show (r.x.e 1).shut=true from hsh] at q3
  repeat' (first|refine zaa rfl ?_|refine zav rfl ‹_› (by first|assumption|rfl) ?_|refine zaw rfl ‹_› ?_|refine zad (by repeat' constructor) ?_|refine zbe rfl rfl ?_|refine zas rfl rfl rfl ?_|refine zao rfl ?_|refine zau rfl rfl ?_|refine zay rfl rfl (by omega) ?_|apply zab|apply zac|refine zbk rfl rfl ?_|refine zbl rfl rfl ?_|apply zbp|apply zbq|apply zae|apply zbu|refine zcf rfl ?_)
  exact ⟨l,rfl,w,rfl,Ch.refl _ _⟩
 rw [show (r.x.e 1).shut=false from hsh] at q3
 have q4:(rows l)[0+(m:Int).toNat*20+0+((0:Nat):Int).toNat*8+0]?=some (.i r.x.e0.what):=q4
 by_cases h3:r.x.e0.what=3
 ·rw [if_pos (.inr h3)] at hS;rw [hS]
  repeat' (first|refine zaa rfl ?_|refine zav rfl ‹_› (by first|assumption|rfl) ?_|refine zaw rfl ‹_› ?_|refine zad (by repeat' constructor) ?_|refine zbd rfl rfl ?_|refine zag rfl rfl ?_|refine zat rfl rfl rfl ?_|refine zao rfl ?_|refine zau rfl rfl ?_|refine zay rfl rfl (by omega) ?_|apply zab|apply zac|refine zbi rfl ‹_› ?_|refine zbl rfl rfl ?_|apply zbp|apply zbq|apply zae|apply zbu|refine zcf rfl ?_)
  exact ⟨l,rfl,w,rfl,Ch.refl _ _⟩
 rw [if_neg (by rintro (e | e);(rw [hsh] at e;cases e);exact h3 e)] at hS
 obtain ⟨b',hring⟩:=Option.ne_none_iff_exists'.1 ((o.wi hr).out h2).1
 simp only [hring] at hS
 obtain ⟨v',h',e2,p2,p3⟩:=ji4 hcl (d:=d-1) (k:=1) (b:=b') (by omega) w hr (.inr rfl) hring ((o.wi hr).len 0 (.inl rfl) _ hring) (o.wi hr).cap1 hb hbl hba
 rw [hS]
 repeat' (first|refine zaa rfl ?_|refine zav rfl ‹_› (by first|assumption|rfl) ?_|refine zaw rfl ‹_› ?_|refine zad (by repeat' constructor) ?_|refine zbd rfl rfl ?_|refine zag rfl rfl ?_|refine zat rfl rfl rfl ?_|refine zao rfl ?_|refine zau rfl rfl ?_|refine zay rfl rfl (by omega) ?_|apply zab|apply zac|refine zbj rfl ‹_› ?_|refine zbl rfl rfl ?_|apply zbp|apply zbq|apply zae|refine zcf rfl ?_)
 exact ⟨_,rfl,p2,by rw [map_set,jjw (.inr rfl)],p3⟩
theorem rq_Take {d rw q:Nat} {h:H} {l:List RX} {tl:List V} {n many:Int} (hd:3<=d) (w:RW h rw q l tl) (o:WsOk (l.map RX.x)) :
  ∃ v l' h',cl d (.fn F.jbe) [.p rw 0,.i n,.i many] h=some (.tup [v,.i (jco (l.map RX.x) n many).1.2],h')/\VB h' v (jco (l.map RX.x) n many).1.1/\RW h' rw q l' tl/\l'.map RX.x=(jco (l.map RX.x) n many).2/\Ch (RC rw q) h h':=by
 suffices s : ∃ v' h',cl d (.fn F.jbe) [.p rw 0,.i n,.i many] h=some (v',h') /\ ∃ v l',v' = .tup [v,.i (jco (l.map RX.x) n many).1.2]/\VB h' v (jco (l.map RX.x) n many).1.1/\RW h' rw q l' tl/\l'.map RX.x=(jco (l.map RX.x) n many).2/\Ch (RC rw q) h h' by
  obtain ⟨_,h',e,v,l',rfl,p⟩:=s;exact ⟨v,l',h',e,p⟩
 refine at_ hcl (by omega) rfl rfl rfl ?_
 rcases jfM hcl (d:=d-1) (n:=n) (by omega) w with ⟨hno,ea⟩ | ⟨m,r,rfl,hr,h2,ea⟩
 ·have hS:jco (l.map RX.x) n many=(([],116),l.map RX.x):=jby hno
  rw [hS]
  repeat' (first|refine zaa rfl ?_|refine zaw rfl ‹_› ?_|refine zad (by repeat' constructor) ?_|refine zao rfl ?_|apply zab|apply zac|refine zbk rfl rfl ?_|apply zbq|apply zae|apply zbu|refine zcf rfl ?_)
  exact ⟨_,l,rfl,VB.nil h,w,rfl,Ch.refl _ _⟩
 obtain ⟨hw,hq,hne⟩:=w.rat hr
 have hn:=r_lt hr
 have q2:=jfN hr
 have hS:jco (l.map RX.x) m many=_:=jbz (jaS hr) h2
 by_cases hm:many<0
 ·rw [if_pos hm] at hS;rw [hS]
  repeat' (first|refine zaa rfl ?_|refine zaw rfl ‹_› ?_|refine zad (by repeat' constructor) ?_|refine zaf rfl rfl ?_|refine zao rfl ?_|apply zab|apply zac|refine zbi rfl ‹_› ?_|refine zbl rfl rfl ?_|apply zbp|apply zbq|apply zae|apply zbu|refine zcf rfl ?_)
  exact ⟨_,l,rfl,VB.nil h,w,rfl,Ch.refl _ _⟩
 rw [if_neg hm] at hS
 cases hrs:r.x.reset
 case true=>
  rw [hrs,if_pos rfl] at hS;rw [hS]
  rw [hrs] at q2
  repeat' (first|refine zaa rfl ?_|refine zav rfl ‹_› (by first|assumption|rfl) ?_|refine zaw rfl ‹_› ?_|refine zad (by repeat' constructor) ?_|refine zaf rfl rfl ?_|refine zao rfl ?_|refine zau rfl rfl ?_|refine zay rfl rfl (by omega) ?_|apply zab|apply zac|refine zbj rfl ‹_› ?_|refine zbk rfl rfl ?_|refine zbl rfl rfl ?_|apply zbp|apply zbq|apply zae|apply zbu|refine zcf rfl ?_)
  exact ⟨_,l,rfl,VB.nil h,w,rfl,Ch.refl _ _⟩
 rw [hrs,if_neg (by simp)] at hS
 rw [hrs] at q2
 obtain ⟨b',hring⟩:=Option.ne_none_iff_exists'.1 ((o.wi hr).out h2).2
 simp only [hring] at hS
 obtain ⟨v,v',h',e2,p1,p2,p3⟩:=jkG hcl (d:=d-1) (k:=1) (many:=many) (by omega) w hr (.inr rfl) hring (by omega)
 rw [hS]
 repeat' (first|refine zaa rfl ?_|refine zav rfl ‹_› (by first|assumption|rfl) ?_|refine zaw rfl ‹_› ?_|refine zad (by repeat' constructor) ?_|refine zaf rfl rfl ?_|refine zao rfl ?_|refine zau rfl rfl ?_|refine zay rfl rfl (by omega) ?_|apply zab|apply zac|refine zbj rfl ‹_› ?_|refine zbl rfl rfl ?_|apply zbp|apply zbq|apply zae|refine zcf rfl ?_)
 exact ⟨v,_,rfl,p1,p2,by rw [map_set,jk2 (.inr rfl)],p3⟩
end
end Am.Sigs
namespace Am.Sigs
open Am Go
theorem Run.unroll {call:Call} {fuel n:Nat} {live:List Nat} {body:AC} {K:List Fr} {e:Env} {h:H} {Q:Post} (hf:fuel=n+1) (k:Run call fuel body (.loop live body n :: K) (e.only live) h Q):Run call fuel (.loop live body) K e h Q:=by
 obtain ⟨x,e1,h1,hd,x2,e2,h2,ha,hq⟩:=k
 have it:iter (D call fuel body) live fuel e h=match D call fuel body (e.only live) h with
  | some (.normal,e',h')=>iter (D call fuel body) live n e' h'
  | r=>r:=by rw [hf];rfl
 cases x<;>simp only [after] at ha
 ·split at ha
  ·next x3 e3 h3 hb=>exact ⟨x3,e3,h3,by simp only [D,it,hd,hb],x2,e2,h2,ha,hq⟩
  ·cases ha
 ·exact ⟨_,e1,h1,by simp only [D,it,hd],x2,e2,h2,ha,hq⟩
 ·exact ⟨_,e1,h1,by simp only [D,it,hd],x2,e2,h2,ha,hq⟩
theorem End.unroll {call:Call} {fuel n:Nat} {live:List Nat} {body:AC} {K:List Fr} {e:Env} {h:H} {Q:Post} (k:Run call fuel body (.loop live body n :: K) (e.only live) h Q):End call fuel (.loop live body (n+1) :: K) .normal e h Q:=by
 obtain ⟨x,e1,h1,hd,x2,e2,h2,ha,hq⟩:=k
 cases x<;>simp only [after] at ha
 ·split at ha
  ·next x3 e3 h3 hb=>exact ⟨x2,e2,h2,by simp only [after,iter,hd,hb,ha],hq⟩
  ·cases ha
 ·exact ⟨x2,e2,h2,by simp only [after,iter,hd,ha],hq⟩
 ·exact ⟨x2,e2,h2,by simp only [after,iter,hd,ha],hq⟩
def RX.noWait (r:RX):RX := { r with x := { r.x with waiting:=[] },vw := .nils }
theorem RX.noWait_cells (r:RX):r.noWait.cells=r.cells.set 19 .nils:=by
 obtain ⟨⟨e0,e1,cap,rs,bl,wt⟩,v0,v1,vw⟩:=r
 simp [RX.noWait,RX.cells,En.rcells]
theorem ROk.noWait {h:H} {rw q:Nat} {r:RX} (a:ROk h rw q r):ROk h rw q r.noWait :=
 ⟨fun k hk=>by have:=a.b k hk;rcases hk with rfl | rfl<;>exact this,VI.nil h,fun z hz=>by cases hz⟩
theorem VI.cell {h:H} {l:List Int} {a:Option (Nat × Nat)} {c:Cap} {i:Nat} {x:Int} (hv:VI h (.slice a l.length c) l) (hi:l[i]?=some x) : ∃ b o cs ro,a=some (b,o)/\h.get b=some (.cells cs ro)/\cs[o+(i:Int).toNat*1]?=some (.i x):=by
 obtain ⟨a',c',e,_,_,g⟩:=hv
 cases e
 obtain ⟨b,o,cs,ro,rfl,h1,h2,h3⟩:=g (by rintro rfl;simp at hi)
 exact ⟨b,o,cs,ro,rfl,h2,by rw [show o+(i:Int).toNat*1=o+i by omega];exact h3 _ _ hi⟩
section
variable {cl:Nat->Call} (hcl:Sem cl)
include hcl
theorem rq_Close {d rw q:Nat} {h:H} {l:List RX} {tl:List V} {fd:Int} (hd:3<=d) (w:RW h rw q l tl) (o:WsOk (l.map RX.x)) :
  ∃ l' h',cl d (.fn F.jaX) [.p rw 0,.i fd] h=some (.i (jbR (l.map RX.x) fd).1,h')/\RW h' rw q l' tl/\l'.map RX.x=(jbR (l.map RX.x) fd).2/\Ch (RC rw q) h h':=by
 suffices s : ∃ v' h',cl d (.fn F.jaX) [.p rw 0,.i fd] h=some (v',h') /\ ∃ l',v' = .i (jbR (l.map RX.x) fd).1/\RW h' rw q l' tl/\l'.map RX.x=(jbR (l.map RX.x) fd).2/\Ch (RC rw q) h h' by
  obtain ⟨_,h',e,l',rfl,p⟩:=s;exact ⟨l',h',e,p⟩
 refine at_ hcl (by omega) rfl rfl rfl ?_
 rcases jdw hcl (d:=d-1) (fd:=fd) (by omega) w o with ⟨hno,ea⟩ | ⟨n,k,r,hat,hr,hk,ea⟩
 ·have hS:jbR (l.map RX.x) fd=(110,l.map RX.x):=ja9 hno
  rw [hS]
  repeat' (first|refine zaa rfl ?_|refine zaw rfl ‹_› ?_|refine zad (by repeat' constructor) ?_|refine zaf rfl rfl ?_|refine zau rfl rfl ?_|apply zab|apply zac|refine zbi rfl (by omega) ?_|apply zbq|apply zae|refine zcc rfl ?_|apply zbu)
  exact ⟨l,rfl,w,rfl,Ch.refl _ _⟩
 have hS:jbR (l.map RX.x) fd=_:=jaA o.uniq hat (jaS hr)
 rw [hS]
 obtain ⟨wl,ww⟩:=o.wait _ (List.mem_of_getElem? (jaS hr))
 obtain ⟨h1,e1,w1,c1⟩:=jgY hcl (d:=d-1) (by omega) w hr hk
 have hn:=r_lt hr
 have hr1:=get_set (r':=r.close k) hr
 have hx1:(l.set n (r.close k)).map RX.x=(l.map RX.x).set n (r.x.close k):=map_set
 have hv1:(r.close k).vw=r.vw:=rfl
 have hwt1:(r.close k).x.waiting=r.x.waiting:=Wi.close_waiting hk
 rw [<- hx1]
 have hlen1:(l.set n (r.close k)).length=l.length:=by simp
 generalize hL:r.x.waiting=L at wl ww hwt1 ⊢
 have hvi:=(w.rok hr).w.1
 rw [hL] at hvi
 obtain ⟨a,cp,hva,_⟩:=id hvi
 have hwlt : ∀ m∈L,∃ j:Nat,m=j/\j<l.length:=by
  intro m hm
  obtain ⟨y,m0,hy,_⟩:=ww m hm
  refine ⟨m.toNat,by omega,?_⟩
  rcases Nat.lt_or_ge m.toNat l.length with h | h
  ·exact h
  ·rw [List.getElem?_eq_none (by simpa using h)] at hy;cases hy
 clear hS hat ww o w
 generalize l.set n (r.close k)=l1 at w1 hr1 hx1 hlen1 ⊢
 generalize r.close k=r1 at hr1 hv1 hwt1
 repeat' (first|refine zaa rfl ?_|refine zaw rfl ‹_› ?_|refine zad (by repeat' constructor) ?_|refine zaf rfl rfl ?_|refine zau rfl rfl ?_|apply zab|apply zac|refine zbj rfl (by omega) ?_|apply zbo|apply zbp|apply zae)
 refine Run.loop (fun m e g=>∃ (i:Nat) (l2:List RX) (r2:RX),m=L.length-i/\i<=L.length/\e=[(0,.p rw 0),(5,.i n),(7,.i i)]/\RW g rw q l2 tl/\l2.length=l.length/\l2[n]?=some r2/\r2.vw=r.vw/\r2.x.waiting=L /\
   ja7 (l2.map RX.x) (L.drop i)=ja7 (l1.map RX.x) L/\Ch (RC rw q) h g)
  (k:=L.length) (by show _<100000;omega) ⟨0,l1,r1,rfl,by omega,rfl,w1,hlen1,hr1,hv1,hwt1,rfl,c1⟩ ?_
 rintro _ _ g ⟨i,l2,r2,rfl,hi,rfl,w2,hlen2,hr2,hv2,hwt2,hcl2,c2⟩ f ih
 obtain ⟨hw,hq,hne⟩:=w2.rat hr2
 have hn2:=r_lt hr2
 have q1:=jjq hr2
 rw [hv2,hva] at q1
 have hvi2:=(w2.rok hr2).w.1
 rw [hv2,hva,hwt2] at hvi2
 by_cases hlt:i<L.length
 ·have hLi:=List.getElem?_eq_getElem hlt
  have hdrop:L.drop i=L[i] :: L.drop (i+1):=List.drop_eq_getElem_cons hlt
  obtain ⟨j,hj,hjl⟩:=hwlt L[i] (List.getElem_mem hlt)
  rw [hj] at hLi hdrop
  obtain ⟨b,of,cs,ro,rfl,hcs,hci⟩:=hvi2.cell hLi
  obtain ⟨r3,hr3⟩ : ∃ r3,l2[j]?=some r3:=⟨_,List.getElem?_eq_getElem (by omega)⟩
  obtain ⟨g3,e3,w3,c3⟩:=jgY hcl (d:=d-1) (k:=0) (by omega) w2 hr3 (.inl rfl)
  have hi1:((i+1:Nat):Int)=(i:Int)+1:=by omega
  have e3:cl (d-1) (.fn F.jb4) [.p rw 0,.i (j:Int),.i 0] g=some (.tup [],g3):=e3
  have hnext : ∃ r4,(l2.set j (r3.close 0))[n]?=some r4/\r4.vw=r.vw/\r4.x.waiting=L:=by
   by_cases hjn:j=n
   ·subst hjn
    rw [hr2] at hr3;cases hr3
    exact ⟨_,get_set hr2,hv2,hwt2⟩
   ·exact ⟨r2,by rw [List.getElem?_set,if_neg hjn,hr2],hv2,hwt2⟩
  obtain ⟨r4,hr4,hv4,hwt4⟩:=hnext
  have hstep:ja7 ((l2.set j (r3.close 0)).map RX.x) (L.drop (i+1))=ja7 (l1.map RX.x) L:=by
   rw [<- hcl2,hdrop]
   show _=ja7 (jcK (l2.map RX.x) (j:Int)) _
   unfold jcK
   rw [Int.toNat_natCast,jaS hr3,map_set];rfl
  clear hcl2 hdrop hr1 hvi hvi2 hx1
  repeat' (first|refine zaa rfl ?_|refine zav rfl ‹_› (by first|assumption|rfl) ?_|refine zaw rfl ‹_› ?_|refine zad (by repeat' constructor) ?_|refine zaf rfl rfl ?_|refine zal rfl rfl ⟨by omega,by omega⟩ ?_|refine zau rfl rfl ?_|refine zay rfl rfl (by omega) ?_|apply zab|apply zac|refine zbi rfl (by omega) ?_|apply zbo|apply zbp|apply zae|apply zbw)
  exact ih (L.length-(i+1)) (by omega) _ _ ⟨i+1,_,r4,rfl,by omega,by rw [hi1],w3,by rw [List.length_set,hlen2],hr4,hv4,hwt4,hstep,c2.trans c3⟩
 ·obtain rfl:i=L.length:=by omega
  rw [List.drop_length] at hcl2
  have hcl2:l2.map RX.x=ja7 (l1.map RX.x) L:=hcl2
  have hlen:0+(n:Int).toNat*20+19<(rows l2).length:=by rw [jax];omega
  have u:Upd q (.cells (rows (l2.set n r2.noWait)) false) g (g.set q (.cells (rows (l2.set n r2.noWait)) false)):=Upd.set
  have w4:=w2.set hr2 u (w2.rok hr2).noWait
  clear ih
  repeat' (first|refine zaa rfl ?_|refine zav rfl ‹_› (by first|assumption|rfl) ?_|refine zad (by repeat' constructor) ?_|refine zaf rfl rfl ?_|refine zau rfl rfl ?_|refine zay rfl rfl (by omega) ?_|apply zab|apply zac|refine zbj rfl (by omega) ?_|apply zbr|apply zae|apply zbv|apply zby|apply zcb)
  refine Ops.store1 rfl rfl rfl hq hlen ?_
  rw [jdI hr2 (by omega) (RX.noWait_cells r2) (by omega)]
  repeat' (first|refine zaa rfl ?_|refine zad (by repeat' constructor) ?_|apply zab|apply zac|apply zbq|apply zae|refine zcc rfl ?_)
  refine ⟨_,rfl,w4,?_,c2.trans (u.ch (.inl rfl))⟩
  show _=noWait _ n
  unfold noWait
  rw [<- hcl2,jaS hr2,map_set];rfl
end
end Am.Sigs
namespace Am.Sigs
open Am Go
def RX.reset (r:RX):RX := { r with x := { r.x with reset:=true } }
theorem RX.reset_cells (r:RX):r.reset.cells=r.cells.set 17 (.bool true):=by
 obtain ⟨⟨e0,e1,cap,rs,bl,wt⟩,v0,v1,vw⟩:=r
 simp [RX.reset,RX.cells,En.rcells]
def RX.doReset (r:RX):RX:=(((r.reset.putv 0 .nils []).came 0 true true).putv 1 .nils []).came 1 true true
theorem RX.doReset_x {r:RX} (h:r.x.reset=false):r.doReset.x=r.x.doReset:=by
 unfold Wi.doReset;rw [if_neg (by simp [h])];rfl
section
variable {cl:Nat->Call} (hcl:Sem cl)
include hcl
theorem rq_Reset {d rw q:Nat} {h:H} {l:List RX} {tl:List V} {n:Int} (hd:3<=d) (w:RW h rw q l tl) (o:WsOk (l.map RX.x)) :
  ∃ l' h',cl d (.fn F.jaV) [.p rw 0,.i n] h=some (.i (jbV (l.map RX.x) n).1,h')/\RW h' rw q l' tl/\l'.map RX.x=(jbV (l.map RX.x) n).2/\Ch (RC rw q) h h':=by
 suffices s : ∃ v' h',cl d (.fn F.jaV) [.p rw 0,.i n] h=some (v',h') /\ ∃ l',v' = .i (jbV (l.map RX.x) n).1/\RW h' rw q l' tl/\l'.map RX.x=(jbV (l.map RX.x) n).2/\Ch (RC rw q) h h' by
  obtain ⟨_,h',e,l',rfl,p⟩:=s;exact ⟨l',h',e,p⟩
 refine at_ hcl (by omega) rfl rfl rfl ?_
 rcases jfM hcl (d:=d-1) (n:=n) (by omega) w with ⟨hno,ea⟩ | ⟨m,r,rfl,hr,h2,ea⟩
 ·have hS:jbV (l.map RX.x) n=(116,l.map RX.x):=jby hno
  rw [hS]
  repeat' (first|refine zaa rfl ?_|refine zaw rfl ‹_› ?_|refine zad (by repeat' constructor) ?_|refine zao rfl ?_|apply zab|apply zac|refine zbk rfl rfl ?_|apply zbq|apply zae|refine zcc rfl ?_|apply zbu)
  exact ⟨l,rfl,w,rfl,Ch.refl _ _⟩
 have hS:jbV (l.map RX.x) m=_:=jbz (jaS hr) h2
 obtain ⟨hw,hq,hne⟩:=w.rat hr
 have hn:=r_lt hr
 have q2:=jfN hr
 cases hrs:r.x.reset
 case true=>
  rw [show r.x.doReset=r.x by unfold Wi.doReset;rw [if_pos hrs]] at hS
  rw [hS]
  rw [hrs] at q2
  repeat' (first|refine zaa rfl ?_|refine zav rfl ‹_› (by first|assumption|rfl) ?_|refine zaw rfl ‹_› ?_|refine zad (by repeat' constructor) ?_|refine zao rfl ?_|refine zau rfl rfl ?_|refine zay rfl rfl (by omega) ?_|apply zab|apply zac|refine zbk rfl rfl ?_|refine zbl rfl rfl ?_|apply zbp|apply zbq|apply zae|refine zcc rfl ?_|apply zbu)
  refine ⟨l,rfl,w,?_,Ch.refl _ _⟩
  rw [<- map_set,jdF hr]
 rw [hrs] at q2
 rw [hS,<- RX.doReset_x hrs]
 obtain ⟨b0,hb0⟩:=Option.ne_none_iff_exists'.1 ((o.wi hr).out h2).1
 obtain ⟨b1,hb1⟩:=Option.ne_none_iff_exists'.1 ((o.wi hr).out h2).2
 have u1:Upd q (.cells (rows (l.set m r.reset)) false) h (h.set q (.cells (rows (l.set m r.reset)) false)):=Upd.set
 have ok1:ROk h rw q r.reset:=(w.rok hr).same rfl rfl rfl rfl rfl rfl
 have w1:=w.set hr u1 ok1
 have c1:Ch (RC rw q) h (h.set q (.cells (rows (l.set m r.reset)) false)):=u1.ch (.inl rfl)
 have hlen:0+(m:Int).toNat*20+17<(rows l).length:=by rw [jax];omega
 have hr1:=get_set (r':=r.reset) hr
 have hs1 : ∀ s,l.set m s=(l.set m r.reset).set m s:=fun s=>set_set.symm
 rw [map_set.symm,hs1]
 unfold RX.doReset
 have hb0':(r.reset.x.e 0).ring=some b0:=hb0
 have hb1':(r.reset.x.e 1).ring=some b1:=hb1
 repeat' (first|refine zaa rfl ?_|refine zav rfl ‹_› (by first|assumption|rfl) ?_|refine zaw rfl ‹_› ?_|refine zad (by repeat' constructor) ?_|refine zao rfl ?_|refine zau rfl rfl ?_|refine zay rfl rfl (by omega) ?_|apply zab|apply zac|refine zbl rfl rfl ?_|apply zbp|apply zae)
 refine Ops.store1 rfl rfl rfl hq hlen ?_
 rw [jdI hr (by omega) (RX.reset_cells r) (by omega)]
 clear q2 hs1 hS ea u1 ok1 hlen hrs hb0 hb1 h2 o hw hq
 generalize h.set q (.cells (rows (l.set m r.reset)) false)=g at w1 c1 ⊢
 generalize l.set m r.reset=l1 at w1 hr1 ⊢
 generalize r.reset=r1 at hr1 hb0' hb1' ⊢
 clear hn
 have round : ∀ (k:Nat) (b:List UInt8) (g:H) (l1:List RX) (r1:RX),k=0\/k=1->RW g rw q l1 tl->l1[m]?=some r1->(r1.x.e k).ring=some b ->
   ∃ g',cl (d-1) (.fn F.jay) [.p rw 0,.i (m:Int),.i (k:Int),.bool true,.bool true] (g.set q (.cells ((rows l1).set (0+(m:Int).toNat*20+0+(k:Int).toNat*8+4) .nils) false))=some (.tup [],g') /\
    RW g' rw q (l1.set m ((r1.putv k .nils []).came k true true)) tl/\Ch (RC rw q) g g':=by
  intro k b g l1 r1 hk w hr hb
  rw [jg0 hr hk (by omega) (RX.putv_cells (r:=r1) (v := .nils) (b:=[]) hk hb) (by omega)]
  have u:Upd q (.cells (rows (l1.set m (r1.putv k .nils []))) false) g (g.set q (.cells (rows (l1.set m (r1.putv k .nils []))) false)):=Upd.set
  have w2:=w.set hr u ((w.rok hr).putv hk (VB.nil g) fun z hz=>by cases hz)
  obtain ⟨g',e,w3,c⟩:=jfK hcl (d:=d-1) (k:=k) (by omega) w2 (get_set hr) hk true true
  rw [set_set] at w3
  exact ⟨g',e,w3,(u.ch (.inl rfl)).trans c⟩
 obtain ⟨g2,e2,w2,c2⟩:=round 0 b0 g l1 r1 (.inl rfl) w1 hr1 hb0'
 have hr2:=get_set (r':=(r1.putv 0 .nils []).came 0 true true) hr1
 obtain ⟨g3,e3,w3,c3⟩:=round 1 b1 g2 _ _ (.inr rfl) w2 hr2 hb1'
 rw [set_set] at w3
 obtain ⟨hw1,hq1,_⟩:=w1.rat hr1
 obtain ⟨hw2,hq2,_⟩:=w2.rat hr2
 have hn1:=r_lt hr1
 have hn2:=r_lt hr2
 clear round
 repeat' (first|refine zaa rfl ?_|refine zad (by repeat' constructor) ?_|apply zab|apply zac|apply zbo|apply zae)
 refine Run.unroll (n:=99999) rfl ?_
 repeat' (first|refine zaa rfl ?_|refine zav rfl ‹_› rfl ?_|refine zad (by repeat' constructor) ?_|refine zaf rfl rfl ?_|refine zau rfl rfl ?_|refine zay rfl rfl (by omega) ?_|apply zab|apply zac|refine zbi rfl (by omega) ?_|apply zbo|apply zbp|apply zae)
 refine Ops.store1 rfl rfl rfl hq1 (by rw [jax];omega) ?_
 repeat' (first|refine zaa rfl ?_|refine zaw rfl ‹_› ?_|refine zad (by repeat' constructor) ?_|refine zal rfl rfl ⟨by omega,by omega⟩ ?_|apply zac|apply zae|apply zbw)
 refine End.unroll ?_
 repeat' (first|refine zaa rfl ?_|refine zav rfl ‹_› rfl ?_|refine zad (by repeat' constructor) ?_|refine zaf rfl rfl ?_|refine zau rfl rfl ?_|refine zay rfl rfl (by omega) ?_|apply zab|apply zac|refine zbi rfl (by omega) ?_|apply zbo|apply zbp|apply zae)
 refine Ops.store1 rfl rfl rfl hq2 (by rw [jax];omega) ?_
 repeat' (first|refine zaa rfl ?_|refine zaw rfl ‹_› ?_|refine zad (by repeat' constructor) ?_|refine zal rfl rfl ⟨by omega,by omega⟩ ?_|apply zac|apply zae|apply zbw)
 refine End.unroll ?_
 repeat' (first|refine zaa rfl ?_|refine zad (by repeat' constructor) ?_|refine zaf rfl rfl ?_|apply zab|apply zac|refine zbj rfl (by omega) ?_|apply zbq|apply zbr|apply zae|refine zcc rfl ?_|apply zbv|apply zby|apply zcb)
 exact ⟨_,rfl,w3,rfl,(c1.trans c2).trans c3⟩
end
end Am.Sigs
namespace Am.Sigs
open Am Go
structure WAt (h:H) (w:Nat) (wl:List V) (s wsb wn:Nat) (wcap:Cap) (wsl:List V):Prop where
 hw:h.get w=some (.cells wl false)
 hs:wl[0+289]?=some (.p s 0)
 hws:wl[0+288]?=some (.slice (some (wsb,0)) wn wcap)
 hb:h.get wsb=some (.cells wsl false)
theorem WAt.keep {h h':H} {w:Nat} {wl:List V} {s wsb wn:Nat} {wcap:Cap} {wsl:List V} (a:WAt h w wl s wsb wn wcap wsl) (h1:h'.get w=h.get w) (h2:h'.get wsb=h.get wsb):WAt h' w wl s wsb wn wcap wsl :=
 ⟨by rw [h1,a.hw],a.hs,a.hws,by rw [h2,a.hb]⟩
structure FdAt (wl wsl:List V) (wn fd n k wb:Nat):Prop where
 small:fd<=95
 op:wl[fd*3]?=some (.bool true)
 wi:wl[fd*3+1]?=some (.i (n:Int))
 en:wl[fd*3+2]?=some (.i (k:Int))
 lt:n<wn
 at_:wsl[n]?=some (.p wb 0)
 k01:k=0\/k=1
theorem jlH {l:List V} {o:Nat} {a b c:V} (h0:l[o]?=some a) (h1:l[o+1]?=some b) (h2:l[o+2]?=some c):(l.drop o).take 3=[a,b,c]:=by
 apply List.ext_getElem?
 intro i
 rw [List.getElem?_take,List.getElem?_drop]
 match i with
 | 0=>simpa using h0
 | 1=>simpa using h1
 | 2=>simpa using h2
 | n+3=>
  have : ¬ n+3<3:=by omega
  rw [if_neg this];rfl
theorem len_of {l:List V} {o:Nat} {a:V} (h:l[o]?=some a):o<l.length:=by
 rcases Nat.lt_or_ge o l.length with h1 | h1
 ·exact h1
 ·rw [List.getElem?_eq_none h1] at h;cases h
theorem resN {e:Env} {h:H} {s n b o:Nat} {l:List V} {ro:Bool} {rs:List RV} {r:List V} (hs:e.get s=some (.ptr (some (b,o)))) (hl:h.get b=some (.cells l ro)) (hn:o+n<=l.length) (hr:jcQ e h rs=some r) :
  jcQ e h (.cellN s n :: rs)=some (.agg ((l.drop o).take n) :: r):=by simp only [jcQ,hs,jcI hl hn,hr]
section
variable {cl:Nat->Call} (hcl:Sem cl)
include hcl
theorem jiu {d b s:Nat} {h:H} {l:List V} {ro:Bool} (hd:1<=d) (hb:h.get b=some (.cells l ro)) (hs:l[0+289]?=some (.p s 0)):cl d (.fn F.jdn) [.p b 0] h=some (.bool false,h):=by
 refine jaq (at_ hcl (by omega) rfl rfl rfl ?_)
 repeat' (first|refine zaa rfl ?_|refine zav rfl ‹_› ‹_› ?_|refine zad (by repeat' constructor) ?_|refine zbd rfl rfl ?_|refine zat rfl rfl rfl ?_|refine zau rfl rfl ?_|apply zab|apply zac|apply zbq|apply zae|refine zcc rfl ?_)
 exact ⟨rfl,rfl⟩
theorem jiv {d w s wsb wn fd n k wb:Nat} {h:H} {wl wsl:List V} {wcap:Cap} (hd:2<=d) (A:WAt h w wl s wsb wn wcap wsl) (B:FdAt wl wsl wn fd n k wb) (l1:w<h.nx) (l2:wsb<h.nx) :
  ∃ h',cl d (.fn F.jbu) [.p w 0,.i (fd:Int)] h=some (.tup [.agg [.bool true,.i (n:Int),.i (k:Int)],.p wb 0,.i 0],h')/\Ch (fun _=>False) h h'/\h'.nx=h.nx+1:=by
 obtain ⟨hw,hs,hws,hb⟩:=A
 obtain ⟨f1,f2,f3,f4,f5,f6,f7⟩:=B
 refine jal (at_ hcl (by omega) rfl rfl rfl ?_)
 repeat' (first|apply zab|apply zac)
 refine Ops.make rfl rfl ?_
 have hw1:=(jac (h:=h) (o := .cells [.bool false,.i 0,.i 0] false) l1).trans hw
 have hb1:=(jac (h:=h) (o := .cells [.bool false,.i 0,.i 0] false) l2).trans hb
 have hn:=jiu hcl (d:=d-1) (by omega) hw1 hs
 have f2':wl[0+0+(fd:Int).toNat*3+0]?=some (.bool true):=by rw [show 0+0+(fd:Int).toNat*3+0=fd*3 by omega];exact f2
 have f3':wl[0+0+(fd:Int).toNat*3+1]?=some (.i (n:Int)):=by rw [show 0+0+(fd:Int).toNat*3+1=fd*3+1 by omega];exact f3
 have f6':wsl[0+(n:Int).toNat*1]?=some (.p wb 0):=by rw [show 0+(n:Int).toNat*1=n by omega];exact f6
 have h3:=jlH f2 f3 f4
 have hlen:=len_of f4
 repeat' (first|refine zaa rfl ?_|refine zav rfl ‹_› ‹_› ?_|refine zaw rfl ‹_› ?_|refine zad (by repeat' constructor) ?_|refine zbb rfl (by omega) ?_|refine zaf rfl rfl ?_|refine zaj rfl rfl ?_|refine zar rfl (by omega) rfl ?_|refine zao rfl ?_|refine zau rfl rfl ?_|refine zax rfl rfl (by omega) ?_|apply zab|apply zac|refine zbl rfl rfl ?_|apply zbo|apply zbp|apply zae|apply zbw)
 refine Ops.loadN rfl hw1 (by omega) ?_
 rw [show 0+0+(fd:Int).toNat*3=fd*3 by omega,h3]
 have f3'':wl[fd*3+1]?=some (.i (n:Int)):=f3
 repeat' (first|refine zaa rfl ?_|refine zav rfl ‹_› ‹_› ?_|refine zau rfl rfl ?_|refine zax rfl rfl (by omega) ?_|refine zay rfl rfl (by omega) ?_)
 have hw2:((h.new (.cells [.bool false,.i 0,.i 0] false)).set h.nx (.cells (jas [.bool false,.i 0,.i 0] 0 [.bool true,.i (n:Int),.i (k:Int)]) false)).get w=some (.cells wl false):=by rw [jab (by omega),hw1]
 have hb2:((h.new (.cells [.bool false,.i 0,.i 0] false)).set h.nx (.cells (jas [.bool false,.i 0,.i 0] 0 [.bool true,.i (n:Int),.i (k:Int)]) false)).get wsb=some (.cells wsl false):=by rw [jab (by omega),hb1]
 refine Ops.storeN_chk rfl rfl rfl rfl (jad _) (Nat.le_of_ble_eq_true rfl) (jb9 rfl hw2 hws rfl (jb9 rfl hw2 f3' rfl (jb9 rfl hb2 f6' rfl jc1))) ?_
 repeat' (first|refine zaa rfl ?_|refine zad (by repeat' constructor) ?_|apply zbq|apply zae)
 refine zcf (resN rfl (jaa _) (Nat.le_of_ble_eq_true rfl) rfl) ?_
 exact ⟨rfl,⟨by simp,fun j hj _=>by rw [jab (by omega),jac hj]⟩,rfl⟩
end
end Am.Sigs
