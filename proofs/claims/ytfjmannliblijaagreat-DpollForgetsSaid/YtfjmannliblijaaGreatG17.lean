/- Our own library, part 17. -/
import Derived.Test.YtfjmannliblijaaGreatG16
set_option maxHeartbeats 8000000
set_option linter.all false
namespace Am.Sigs
open Am Go
theorem jhD {l:List Int} {cs:List V} {o:Nat} (hc : ∀ (i:Nat) (x:Int),l[i]?=some x->cs[o+i]?=some (.i x)) (h0:0<l.length):o+l.length<=cs.length/\(cs.drop o).take l.length=ints l:=by
 have h1:o+l.length<=cs.length:=by
  have:=hc (l.length-1) _ (za om)
  rcases zw (o+(l.length-1)) cs.length with h | h
  ·omega
  ·rw [zc h] at this;cases this
 refine ⟨h1,List.ext_getElem? fun i=>?_⟩
 rw [List.getElem?_take,List.getElem?_map]
 by_cases hi:i<l.length
 ·rw [if_pos hi,zl,hc i _ (za hi),za hi];rfl
 ·rw [if_neg hi,zc om];rfl
theorem ints_one (l:List Int):(ints l).all V.one=true:=by
 rw [List.all_eq_true]
 intro v hv
 obtain ⟨n,_,rfl⟩:=List.mem_map.1 hv
 rfl
section
variable {call:Call} {fuel base:Nat} {ops:List Ins} {keep:List Nat} {K:List Fr} {e:Env} {h:H} {Q:Post} {ix:Nat} {dst:Option Nat} {c:List (Nat × I × Option (Nat × Bool))}
theorem Ops.appI {N:Nat} {x y:Opd} {sv v:V} {q l:List Int} (hx:x.ev e=some sv) (hy:y.ev e=some v) (r:Row N h 1 sv q.length (ints q)) (hN:N<=h.nx) (hv:VI h v l) (hn:q.length+l.length<=1000000)
  (hc : ∀ h':H,h.nx<=h'.nx->(∀ j,j<h.nx->sv.at?≠some j->h'.get j=h.get j)->jaO e h' c=true)
  (k : ∀ v' h',Row N h' 1 v' (q++l).length (ints (q++l))->h.nx<=h'.nx->(∀ j,j<h.nx->sv.at?≠some j->h'.get j=h.get j)->Ops call fuel base ops keep K (layv e dst v') h' Q) :
  Ops call fuel base (⟨ix,dst,.append 1 8 x y,none,none,c⟩ :: ops) keep K e h Q:=by
 obtain ⟨a,cp,rfl,n,f,g⟩:=hv
 by_cases hl:l=[]
 ·subst hl
  have hsrc:ja3 h 1 0 (.slice a 0 cp)=some []:=by cases a<;>rfl
  refine Ops.step_chk (v:=sv) (h':=h) (I.run_eff rfl ?_) (hc h (zp _) fun _ _ _=>rfl) (k sv h (by simpa using r) (zp _) fun _ _ _=>rfl)
  obtain ⟨cap,⟨sa,rfl⟩,_⟩:=r.shape
  simp only [I.eff,hx,hy,jbk,lenOf,List.length_nil,hsrc]
  have hcond:(Nat.ble ((q.length+0)*8) (2 ^ 46)&&Nat.ble (q.length+0) (2 ^ 46))=true:=by simp only [zn,Nat.ble_eq];omega
  rw [hcond];rfl
 ·obtain ⟨b,o,cs,ro,rfl,h1,h2,h3⟩:=g hl
  have hpos:0<l.length:=List.length_pos_iff.2 hl
  obtain ⟨p1,p2⟩:=jhD h3 hpos
  obtain ⟨v',h',e1,e2,e3,e4,e5⟩:=jeB (bytes:=8) (cap:=cp) (m:=l.length) (so:=o) (new:=ints l) r hN hpos h2 om (by rw [Nat.mul_one];exact p2) (ints_one l) om om om
  refine Ops.step_chk (I.run_eff rfl (by simp only [I.eff,hx,hy,e1])) (hc h' om e5) (k v' h' ?_ om e5)
  rw [ze];simpa [ints] using e2
theorem Ops.app1c {N q':Nat} {s y:Opd} {sv:V} {cs:List Int} {x:Int} {cap:Cap} (hs:s.ev e=some sv) (hy:y.ev e=some (.slice (some (q',0)) 1 cap)) (r:Row N h 1 sv cs.length (ints cs)) (hN:N<=h.nx) (hq:h.get q'=some (.cells [.i x] false))
  (hn:cs.length+1<=1000000) (hne:sv.at?≠some q') (hc : ∀ h':H,(∀ j,j<h.nx->sv.at?≠some j->h'.get j=h.get j)->jaO e h' c=true)
  (k : ∀ v' h',Row N h' 1 v' (cs++[x]).length (ints (cs++[x]))->h.nx<=h'.nx->(∀ j,j<h.nx->sv.at?≠some j->h'.get j=h.get j)->Ops call fuel base ops keep K (layv e dst v') h' Q) :
  Ops call fuel base (⟨ix,dst,.append 1 8 s y,none,none,c⟩ :: ops) keep K e h Q:=by
 obtain ⟨v',h',e1,e2,e3,e4,e5⟩:=jeq (bytes:=8) (cap:=cap) r hN hq rfl rfl om om om hne
 refine Ops.step_chk (I.run_eff rfl (by simp only [I.eff,hs,hy,e1])) (hc h' e5) (k v' h' ?_ e3 e5)
 rw [ze];simpa [ints] using e2
end
theorem RX.in_cells {r:RX} {k:Nat} {w:Int} (hk:k=0\/k=1):(({ r with x:=r.x.put k { r.x.e k with inn:=w } } : RX)).cells=r.cells.set (k*8+6) (.int .u64 w):=by
 obtain ⟨⟨e0,e1,cap,rs,bl,wt⟩,v0,v1,vw⟩:=r
 rcases hk with rfl | rfl<;>simp [Wi.put,Wi.e,RX.cells,En.rcells]
section
variable {cl:Nat->Call} (hcl:Sem cl)
include hcl
theorem cn_end {E:Env} {d rw q bx:Nat} {g:H} {l:List RX} {tl:List V} {x:Wi} (w:RW g rw q l tl) (f:Fresh x) (hbx:g.get bx=some (.cells (RX.fresh x).cells false)) (hl:l.length<=1000) :
  Run (cl (d-1)) fuel c81_1 [] ((0,.p rw 0) :: (8,.p bx 0) :: E) g
   (Fin c81.res fun v h'=>∃ q',v = .tup [.i (l.length:Int),.i 0]/\RW h' rw q' (l++[RX.fresh x]) tl/\Ch (RC rw q) g h'/\g.nx<=q'):=by
 obtain ⟨v,hw,row,hvq,hone⟩:=w.row
 have hw1:(g.reserve 1).get rw=_:=hw
 have hbx1:(g.reserve 1).get bx=_:=hbx
 refine Run.seq (Run.region ?_)
 refine qx1 ?_
 refine Ops.loadN rfl hbx1 (by rw [RX.len];omega) ?_
 rw [zj,zg (by rw [RX.len];omega)]
 refine Ops.bslice1_at (new:=(RX.fresh x).cells) rfl rfl (RX.len _) rfl ?_
 have hG:((g.reserve 1).set (g.nx+0) (.cells (RX.fresh x).cells false)).nx=g.nx+1:=rfl
 have hGs:((g.reserve 1).set (g.nx+0) (.cells (RX.fresh x).cells false)).get (g.nx+0)=some (.cells (RX.fresh x).cells false):=jab _
 have hGo : ∀ j,j<g.nx->((g.reserve 1).set (g.nx+0) (.cells (RX.fresh x).cells false)).get j=g.get j:=fun j hj=>by rw [jaa om];rfl
 generalize (g.reserve 1).set (g.nx+0) (.cells (RX.fresh x).cells false)=G at hG hGs hGo ⊢
 have lq:=w.lq
 have lw:=w.lw
 have rowG:Row 0 G 20 v l.length (rows l):=row.keep om fun z hz=>hGo z (by have:=hvq z hz;omega)
 refine Ops.app1 (N:=0) rfl rfl rowG (Nat.zero_le _) hGs (RX.len _) (RX.cells_one (r:=RX.fresh x) rfl rfl rfl) om om om (fun e=>by have:=hvq _ e;omega) fun h1 row1 hlt hk=>?_
 have hk' : ∀ j,j<g.nx->j≠q->h1.get j=g.get j:=fun j hj hn=>by rw [hk j om (fun e=>hn (hvq j e)),hGo j hj]
 have hrow:h1.get G.nx=some (.cells (rows l++(RX.fresh x).cells) false):=by
  rcases row1 with ⟨h0,_⟩ | ⟨b,_,_,e,h4,_⟩
  ·omega
  ·cases e;exact h4
 obtain ⟨w2,c2⟩:=w.push f hrow om hlt hk'
 have hw2:h1.get rw=some (.cells (v :: tl) false):=by rw [hk' rw lw w.ne,hw]
 refine qx1 ?_
 refine Ops.store1 rfl rfl rfl hw2 Zd ?_
 refine qx1 ?_
 have el:((l.length+1:Nat):Int)-1=(l.length:Int):=by omega
 refine ⟨_,?_,w2,c2,by omega⟩
 rw [el]
theorem cn_mid {E:Env} {d rw q bx n:Nat} {g:H} {l:List RX} {tl:List V} {x:Wi} {r:RX} (w:RW g rw q l tl) (f:Fresh x) (hbx:g.get bx=some (.cells (RX.fresh x).cells false)) (hbn:bx≠q/\bx≠rw/\bx<g.nx) (hl:l.length<=1000) (hr:l[n]?=some r) (hwt:r.x.waiting.length<=64) :
  Run (cl (d-1)) fuel c81_4 [] ((0,.p rw 0) :: (1,.i (n:Int)) :: (8,.p bx 0) :: (10,.nils) :: E) g
   (Fin c81.res fun v h'=>∃ q' v',v = .tup [.i (l.length:Int),.i 0] /\
    RW h' rw q' (l.set n { (r.setw v' (r.x.waiting++[(l.length:Int)])) with x:=(r.setw v' (r.x.waiting++[(l.length:Int)])).x.put 0 { (r.setw v' (r.x.waiting++[(l.length:Int)])).x.e 0 with inn:=upu (r.x.e 0).inn } } ++ [RX.fresh x]) tl/\Ch (RC rw q) g h'/\g.nx<=q'):=by
 obtain ⟨C,hC⟩ : ∃ C,C=c81_1:=⟨_,rfl⟩
 simp only [c81_4,c81_3,c81_2,yB]
 rw [<- hC]
 obtain ⟨hw,hq,hne⟩:=w.rat hr
 have hn:=r_lt hr
 have q1:=jk0 hr
 have q2:=r_in (k:=0) hr (.inl rfl)
 have hvi:=(w.rok hr).w.1
 have lw:=w.lw
 have lq:=w.lq
 refine qx1 ?_
 refine Ops.appI (N:=g.nx) (q:=[]) rfl rfl (Row.nil _ _ _) (zp _) hvi Zc (fun _ _ _=>rfl) fun v1 h1 row1 hx1 hold1=>?_
 have hold1' : ∀ j,j<g.nx->h1.get j=g.get j:=fun j hj=>hold1 j hj (by intro e;cases e)
 have hw1:h1.get rw=some (.cells (.slice (some (q,0)) l.length (.grow 20) :: tl) false):=by rw [hold1' rw lw,hw]
 have hq1:h1.get q=some (.cells (rows l) false):=by rw [hold1' q lq,hq]
 have hne1 : ∀ j,j<g.nx->v1.at?≠some j:=fun j hj e=>by have:=row1.at_ge e;omega
 refine qx1 ?_
 refine Run.region ?_
 have hw1:(h1.reserve 1).get rw=_:=hw1
 have hq1:(h1.reserve 1).get q=_:=hq1
 refine qx1 ?_
 refine Ops.bslice1_at (new:=[.i (l.length:Int)]) rfl rfl rfl rfl ?_
 have hG:((h1.reserve 1).set (h1.nx+0) (.cells [.i (l.length:Int)] false)).nx=h1.nx+1:=rfl
 have hGs:((h1.reserve 1).set (h1.nx+0) (.cells [.i (l.length:Int)] false)).get (h1.nx+0)=some (.cells [.i (l.length:Int)] false):=jab _
 have hGo : ∀ j,j<h1.nx->((h1.reserve 1).set (h1.nx+0) (.cells [.i (l.length:Int)] false)).get j=h1.get j:=fun j hj=>by rw [jaa om];rfl
 generalize (h1.reserve 1).set (h1.nx+0) (.cells [.i (l.length:Int)] false)=G at hG hGs hGo ⊢
 have rowG:=row1.keep (h':=G) om fun z hz=>hGo z (row1.at_ge hz).2
 have hwG:G.get rw=some (.cells (.slice (some (q,0)) l.length (.grow 20) :: tl) false):=by rw [hGo rw om,hold1' rw lw,hw]
 refine Ops.app1c (N:=g.nx) (cs:=[]++r.x.waiting) rfl rfl rowG om hGs Zc (fun e=>by have:=row1.at_ge e;omega) (fun h' ho=>jbq rfl (by rw [ho rw om (hne1 rw lw),hwG]) rfl rfl jb3) fun v2 h2 row2 hx2 hold2=>?_
 have old2:Old g h2:=⟨by omega,fun j hj=>by rw [hold2 j om (hne1 j hj),hGo j om,hold1' j hj]⟩
 have w2:=w.old old2
 obtain ⟨p1,p2⟩:=VI.ofRow row2
 rw [List.nil_append] at p1
 have hbx2:h2.get bx=some (.cells (RX.fresh x).cells false):=by rw [old2.2 bx hbn.2.2,hbx]
 have ok':=(w2.rok hr).setw p1 fun z hz=>by have:=p2 z hz;omega
 have u:Upd q (.cells (rows (l.set n (r.setw v2 (r.x.waiting++[(l.length:Int)])))) false) h2 (h2.set q (.cells (rows (l.set n (r.setw v2 (r.x.waiting++[(l.length:Int)])))) false)):=Upd.set
 have w3:=w2.set hr u ok'
 obtain ⟨hw2,hq2,_⟩:=w2.rat hr
 have hlen:0+(n:Int).toNat*20+19<(rows l).length:=by rw [ja0];omega
 refine qx1 ?_
 refine Ops.store1 rfl rfl p1.one hq2 hlen ?_
 rw [jee hr om (RX.setw_cells r v2 (r.x.waiting++[(l.length:Int)])) om]
 have hr3:=get_set (r':=r.setw v2 (r.x.waiting++[(l.length:Int)])) hr
 have c3:Ch (RC rw q) g (h2.set q (.cells (rows (l.set n (r.setw v2 (r.x.waiting++[(l.length:Int)])))) false)):=old2.ch.trans (u.ch (.inl rfl))
 have hbx3:(h2.set q (.cells (rows (l.set n (r.setw v2 (r.x.waiting++[(l.length:Int)])))) false)).get bx=some (.cells (RX.fresh x).cells false):=by rw [jaa hbn.1,hbx2]
 have hset : ∀ s,l.set n s=(l.set n (r.setw v2 (r.x.waiting++[(l.length:Int)]))).set n s:=fun s=>set_set.symm
 have hl3:(l.set n (r.setw v2 (r.x.waiting++[(l.length:Int)]))).length=l.length:=by simp
 have hinn:((r.setw v2 (r.x.waiting++[(l.length:Int)])).x.e 0).inn=(r.x.e 0).inn:=rfl
 suffices s:True by
  generalize h2.set q (.cells (rows (l.set n (r.setw v2 (r.x.waiting++[(l.length:Int)])))) false)=g3 at w3 c3 hbx3 ⊢
  obtain ⟨hw3,hq3,_⟩:=w3.rat hr3
  have hn3:=r_lt hr3
  have q3:=r_in (k:=0) hr3 (.inl rfl)
  have hlen3:0+(n:Int).toNat*20+0+Int.toNat 0*8+6<(rows (l.set n (r.setw v2 (r.x.waiting++[(l.length:Int)])))).length:=by rw [ja0];omega
  have e3:=jhs (f:=6) (o:=0+(n:Int).toNat*20+0+Int.toNat 0*8+6) hr3 (.inl rfl) om (RX.in_cells (k:=0) (w:=upu (r.x.e 0).inn) (.inl rfl)) Zd
  have u4:Upd q (.cells (rows ((l.set n (r.setw v2 (r.x.waiting++[(l.length:Int)]))).set n { (r.setw v2 (r.x.waiting++[(l.length:Int)])) with x:=(r.setw v2 (r.x.waiting++[(l.length:Int)])).x.put 0 { (r.setw v2 (r.x.waiting++[(l.length:Int)])).x.e 0 with inn:=upu (r.x.e 0).inn } })) false) g3 _:=Upd.set
  have w4:=w3.set hr3 u4 ((w3.rok hr3).put (e := { (r.setw v2 (r.x.waiting++[(l.length:Int)])).x.e 0 with inn:=upu (r.x.e 0).inn }) (.inl rfl) rfl)
  have hbx4:=(u4.get bx hbn.1).trans hbx3
  clear hset
  refine qx1 ?_
  refine Ops.store1 rfl rfl rfl hq3 hlen3 ?_
  have e3:(rows (l.set n (r.setw v2 (r.x.waiting++[(l.length:Int)])))).set (0+(n:Int).toNat*20+0+Int.toNat 0*8+6) (.int .u64 (IntKind.wrap .u64 (((r.setw v2 (r.x.waiting++[(l.length:Int)])).x.e 0).inn+1)))=_:=e3
  rw [e3]
  refine qx1 ?_
  rw [hC]
  refine Run.fin_mono (cn_end hcl (d:=d) (E:=[]) w4 f hbx4 Zc) ?_
  rintro v h' ⟨q',rfl,p4,p5,p6⟩
  rw [set_set] at p4
  exact ⟨q',v2,by simp,p4,(c3.trans (u4.ch (.inl rfl))).trans p5,zz (zz c3.nx (Nat.le_of_eq u4.nx.symm)) p6⟩
 exact trivial
end
def jbc (many:Int):Wi:=⟨⟨0,0,some [],true,false,0,0⟩,⟨2,0,some [],true,false,0,0⟩,many.toNat,false,0,[]⟩
def jar (ws:Ws) (n many:Int):(Int × Int) × Ws :=
 if n<0 then ((0,116),ws) else match ws[n.toNat]? with
 | none=>((0,116),ws)
 | some x=>if x.backlog=0\/x.e0.what≠1 then ((0,116),ws) else if many<1\/65536<many then ((0,2),ws)
  else if x.backlog<=x.waiting.length then ((0,113),ws) else if 1000<=ws.length then ((0,112),ws)
  else ((ws.length,0),ws.set n.toNat { x with waiting:=x.waiting++[(ws.length:Int)],e0 := { x.e0 with inn:=upu x.e0.inn } } ++ [jbc many])
section
variable {cl:Nat->Call} (hcl:Sem cl)
include hcl
theorem jla {d rw q:Nat} {h:H} {l:List RX} {tl:List V} {n many:Int} (hd:3<=d) (w:RW h rw q l tl) (o:WsOk (l.map RX.x)) :
  ∃ q' l' h',cl d (.fn F.jaM) [.p rw 0,.i n,.i many] h=some (.tup [.i (jar (l.map RX.x) n many).1.1,.i (jar (l.map RX.x) n many).1.2],h')/\RW h' rw q' l' tl/\l'.map RX.x=(jar (l.map RX.x) n many).2/\Ch (RC rw q) h h'/\(q'=q\/h.nx<=q'):=by
 suffices s : ∃ v' h',cl d (.fn F.jaM) [.p rw 0,.i n,.i many] h=some (v',h') /\ ∃ q' l',v' = .tup [.i (jar (l.map RX.x) n many).1.1,.i (jar (l.map RX.x) n many).1.2]/\RW h' rw q' l' tl/\l'.map RX.x=(jar (l.map RX.x) n many).2/\Ch (RC rw q) h h'/\(q'=q\/h.nx<=q') by
  obtain ⟨_,h',e,q',l',rfl,p⟩:=s;exact ⟨q',l',h',e,p⟩
 refine at_ hcl om rfl rfl rfl ?_
 have hwl:(l.map RX.x).length=l.length:=by simp
 have hol:=o.len
 rw [hwl] at hol
 obtain ⟨aw,cw,hwh,hac⟩:=w.head
 by_cases h0:n<0
 ·have hS:jar (l.map RX.x) n many=((0,116),l.map RX.x):=if_pos h0
  rw [hS]
  refine qx1 ?_
  exact ⟨q,l,rfl,w,rfl,Ch.refl _ _,.inl rfl⟩
 have hS:jar (l.map RX.x) n many=_:=if_neg h0
 obtain ⟨m,rfl⟩:=zy (show 0<=n by omega)
 rw [zu] at hS
 by_cases hlt:m<l.length
 case neg=>
  rw [zc (by simpa using hlt)] at hS
  simp only at hS
  rw [hS]
  refine qx1 ?_
  exact ⟨q,l,rfl,w,rfl,Ch.refl _ _,.inl rfl⟩
 obtain ⟨r,hr⟩ : ∃ r,l[m]?=some r:=⟨_,za hlt⟩
 obtain ⟨rfl,rfl⟩:=hac (by rintro rfl;simp at hlt)
 rw [jaY hr] at hS
 simp only at hS
 have hq:=(w.rat hr).hq
 have q1:=jiO hr
 have q2:=jh5 (k:=0) hr (.inl rfl)
 have q3:=jk0 hr
 have q2:(rows l)[0+(m:Int).toNat*20+0+((0:Nat):Int).toNat*8+0]?=some (.i r.x.e0.what):=q2
 by_cases hb0:r.x.backlog=0
 ·rw [if_pos (.inl hb0)] at hS;rw [hS]
  refine qx1 ?_
  exact ⟨q,l,rfl,w,rfl,Ch.refl _ _,.inl rfl⟩
 by_cases hw1:r.x.e0.what=1
 case neg=>
  rw [if_pos (.inr hw1)] at hS;rw [hS]
  refine qx1 ?_
  exact ⟨q,l,rfl,w,rfl,Ch.refl _ _,.inl rfl⟩
 rw [if_neg (by rintro (e | e);(exact hb0 e);exact e hw1)] at hS
 have hnw : ¬ r.x.e0.what≠1:=fun e=>e hw1
 by_cases hm:many<1\/65536<many
 ·rw [if_pos hm] at hS;rw [hS]
  repeat' (first|refine qxy ?_|refine zbf rfl (fun _=>?_) fun _=>?_|refine zbg rfl (fun _=>?_) fun _=>?_|refine zbh rfl (fun _=>?_) fun _=>?_|refine zbm rfl (fun _=>?_) fun _=>?_|refine zbn rfl (fun _=>?_) fun _=>?_)
  all_goals first | exact ⟨q,l,rfl,w,rfl,Ch.refl _ _,.inl rfl⟩ | (exfalso;omega)
 rw [if_neg hm] at hS
 have hm1:1<=many:=by omega
 have hm2:many<=65536:=by omega
 clear hm
 obtain ⟨av,cv,hva,_⟩:=(w.rok hr).w.1
 rw [hva] at q3
 have hwt:=(o.wait _ (zb (jaY hr))).1
 by_cases hbk:r.x.backlog<=r.x.waiting.length
 ·rw [if_pos hbk] at hS;rw [hS]
  refine qx1 ?_
  exact ⟨q,l,rfl,w,rfl,Ch.refl _ _,.inl rfl⟩
 rw [if_neg hbk] at hS
 rw [hwl] at hS
 by_cases hfull:1000<=l.length
 ·rw [if_pos hfull] at hS;rw [hS]
  refine qx1 ?_
  exact ⟨q,l,rfl,w,rfl,Ch.refl _ _,.inl rfl⟩
 rw [if_neg hfull] at hS
 rw [hS]
 obtain ⟨nn,rfl⟩:=zy (show 0<=many by omega)
 obtain ⟨C,hC⟩ : ∃ C,C=c81_4:=⟨_,rfl⟩
 have hCk : ∀ (E:Env) (x:Wi) (bx:Nat) (G:H),Fresh x->RW G rw q l tl->G.get bx=some (.cells (RX.fresh x).cells false)->bx≠q/\bx≠rw/\bx<G.nx->_ :=
  fun E x bx G f w1 hbx hz=>cn_mid hcl (E:=E) (d:=d) w1 f hbx hz hol hr hwt
 rw [<- hC] at hCk
 simp only [c81,c81_12,c81_11,c81_10,c81_9,c81_8,c81_7,yB,yH,yN]
 rw [<- hC]
 clear hC hS
 refine qm1 ?_
 refine Run.unroll (n:=99999) rfl ?_
 refine qm1 ?_
 refine End.unroll ?_
 refine qm1 ?_
 refine End.unroll ?_
 refine qm1 ?_
 refine Run.opqh fun G hG=>?_
 have oG:Old h G:=by
  rw [hG]
  repeat (first | exact Old.refl _ | refine Old.new ?_ | refine Old.set ?_ (zp _))
 have hGn:h.nx<G.nx:=by rw [hG];simp
 have hbx:G.get h.nx=some (.cells (RX.fresh (jbc nn)).cells false):=by
  rw [hG];exact jab _
 clear hG
 have lq:=w.lq
 have lw:=w.lw
 refine Run.fin_mono (hCk [] (jbc nn) h.nx G ⟨rfl,rfl,rfl⟩ (w.old oG) hbx ⟨by omega,by omega,hGn⟩) ?_
 rintro v h2 ⟨q',v',rfl,p1,p2,p3⟩
 refine ⟨q',_,rfl,p1,?_,oG.ch.trans p2,.inr (by have:=oG.1;omega)⟩
 rw [List.map_append,map_set];rfl
end
def tail (now:Int) (hd:Nat->Bool) (ct:Nat->Int) (no si:Int):List V :=
 .int .u64 now :: (tab 32 (fun i=>.bool (hd i))++(tab 32 (fun i=>.i (ct i))++[.i no,.i si]))
section
variable {v:V} {now no si:Int} {hd:Nat->Bool} {ct:Nat->Int}
theorem t_hd {i o:Nat} (hi:i<32) (ho:o=2+i):(v :: tail now hd ct no si)[o]?=some (.bool (hd i)):=by
 subst ho
 rw [show 2+i=i+1+1 by omega]
 show (tab 32 (fun i=>V.bool (hd i))++_)[i]?=_
 rw [zd,if_pos (by simpa using hi),jcl hi]
theorem t_ct {i o:Nat} (hi:i<32) (ho:o=34+i):(v :: tail now hd ct no si)[o]?=some (.i (ct i)):=by
 subst ho
 rw [show 34+i=(32+i)+1+1 by omega]
 show (tab 32 (fun i=>V.bool (hd i))++(tab 32 (fun i=>V.i (ct i))++_))[32+i]?=_
 rw [zd,if_neg Zd,tab_length,Nat.add_sub_cancel_left,zd,if_pos (by simpa using hi),jcl hi]
theorem t_no {o:Nat} (ho:o=66):(v :: tail now hd ct no si)[o]?=some (.i no):=by
 subst ho
 show (tab 32 (fun i=>V.bool (hd i))++(tab 32 (fun i=>V.i (ct i))++[.i no,.i si]))[64]?=_
 rw [zd,if_neg Zd,tab_length,zd,if_neg Zd,tab_length];rfl
theorem t_si {o:Nat} (ho:o=67):(v :: tail now hd ct no si)[o]?=some (.i si):=by
 subst ho
 show (tab 32 (fun i=>V.bool (hd i))++(tab 32 (fun i=>V.i (ct i))++[.i no,.i si]))[65]?=_
 rw [zd,if_neg Zd,tab_length,zd,if_neg Zd,tab_length];rfl
theorem jcB:(tail now hd ct no si).length=67:=by simp [tail]
end
theorem RW.tl {h:H} {rw q:Nat} {l:List RX} {tl tl':List V} {v:V} (w:RW h rw q l tl) (hv:h.get rw=some (.cells (v :: tl) false)):RW (h.set rw (.cells (v :: tl') false)) rw q l tl':=by
 have ch:Ch (RC rw q) h (h.set rw (.cells (v :: tl') false)):=Ch.set (.inr rfl)
 refine ⟨w.lw,w.lq,w.ne,fun hl=>?_,fun hl=>?_,fun s hs=>(w.ok s hs).keep ch⟩
 ·have a:=w.at_ hl
  rw [a.hw] at hv
  cases hv
  exact ⟨by rw [jab],by rw [jaa w.ne.symm,a.hq],w.ne⟩
 ·have a:=w.nil hl
  rw [a] at hv
  cases hv
  rw [jab]
def jf1 (now t:Int):Int:=if 18446744073709551615-now<t then 18446744073709551615 else now+t
section
variable {cl:Nat->Call} (hcl:Sem cl)
include hcl
theorem rq_Pass {d rw q:Nat} {h:H} {l:List RX} {now no si t:Int} {hdl:Nat->Bool} {ct:Nat->Int} (hd:1<=d) (w:RW h rw q l (tail now hdl ct no si)) (n0:0<=now) (n1:now<=18446744073709551615) (t0:0<=t) (t1:t<=18446744073709551615) :
  ∃ h',cl d (.fn F.jbG) [.p rw 0,.int .u64 t] h=some (.tup [],h')/\RW h' rw q l (tail (jf1 now t) hdl ct no si)/\Ch (RC rw q) h h':=by
 refine jai (at_ hcl om rfl rfl rfl ?_)
 obtain ⟨a,c,hw,_⟩:=w.head
 have q1:(V.slice a l.length c :: tail now hdl ct no si)[0+1]?=some (.int .u64 now):=rfl
 have hlen:0+1<(V.slice a l.length c :: tail now hdl ct no si).length:=by simp [jcB]
 unfold jf1
 by_cases hb:18446744073709551615-now<t
 ·rw [if_pos hb]
  refine qx1 ?_
  refine Ops.store1 rfl rfl rfl hw hlen ?_
  refine qx1 ?_
  exact ⟨rfl,w.tl hw,Ch.set (.inr rfl)⟩
 ·rw [if_neg hb]
  refine qx1 ?_
  refine Ops.store1 rfl rfl rfl hw hlen ?_
  refine qx1 ?_
  exact ⟨rfl,w.tl hw,Ch.set (.inr rfl)⟩
def sumC (ct:Nat->Int):Nat->Int
 | 0=>0
 | n+1=>sumC ct n+ct (n+1)
omit hcl in
theorem jlU {ct:Nat->Int} (hc : ∀ i,0<=ct i/\ct i<=1000000) : ∀ n,0<=sumC ct n/\sumC ct n<=1000000*n
 | 0=>by simp [sumC]
 | n+1=>by have:=jlU hc n;have:=hc (n+1);simp only [sumC];omega
theorem jkZ {d rw q:Nat} {h:H} {l:List RX} {now no si:Int} {hdl:Nat->Bool} {ct:Nat->Int} (hd:1<=d) (w:RW h rw q l (tail now hdl ct no si)) (hc : ∀ i,0<=ct i/\ct i<=1000000) :
  cl d (.fn F.jc2) [.p rw 0] h=some (.i (sumC ct 31),h):=by
 refine jaj (at_ hcl om rfl rfl rfl ?_)
 obtain ⟨a,c,hw,_⟩:=w.head
 refine qx1 ?_
 refine Run.loop (fun m e g=>∃ s:Nat,m=31-s/\s<=31/\e=[(0,.p rw 0),(3,.i (sumC ct s)),(4,.i ((s+1:Nat):Int))]/\g=h)
  (k:=31) Ze ⟨0,rfl,by omega,rfl,rfl⟩ ?_
 rintro _ _ h ⟨s,rfl,hs,rfl,rfl⟩ f ih
 by_cases hlt:s<31
 ·have q1:(V.slice a l.length c :: tail now hdl ct no si)[0+34+(((s+1:Nat):Int)).toNat*1]?=some (.i (ct (s+1))):=t_ct om om
  have hb:=jlU hc s
  have hb2:=hc (s+1)
  have hcond:((s+1:Nat):Int)<=31:=by omega
  have hs1:((s+1+1:Nat):Int)=((s+1:Nat):Int)+1:=by omega
  refine qx1 ?_
  exact ih (31-(s+1)) om _ _ ⟨s+1,rfl,by omega,by rw [hs1];rfl,rfl⟩
 ·obtain rfl:s=31:=by omega
  have hcond : ¬ ((31+1:Nat):Int)<=31:=by omega
  refine qx1 ?_
  exact ⟨rfl,rfl⟩
end
def NtOk (ws:Ws) (no si:Int):Prop:=no = -1 \/ ∃ (n k:Nat) (x:Wi),no=n/\si=k/\(k=0\/k=1)/\ws[n]?=some x/\x.e0.ring≠none/\x.e1.ring≠none
def jap (ws:Ws) (sum no si:Int):Ws :=
 if no<0 then ws else match ws[no.toNat]? with
 | none=>ws
 | some x=>match (x.e si.toNat).ring with
  | none=>ws
  | some q=>if sum=0 then ws.set no.toNat (x.take si.toNat q.length q)
   else if q=[] then ws.set no.toNat (x.fill (1-si.toNat) (min 1 x.cap) [] [1]) else ws
section
variable {cl:Nat->Call} (hcl:Sem cl)
include hcl
theorem jbP {d rw q:Nat} {h:H} {l:List RX} {now no si:Int} {hdl:Nat->Bool} {ct:Nat->Int} (hd:3<=d) (w:RW h rw q l (tail now hdl ct no si)) (o:WsOk (l.map RX.x)) (hnt:NtOk (l.map RX.x) no si) (hc : ∀ i,0<=ct i/\ct i<=1000000) :
  ∃ l' h',cl d (.fn F.jbz) [.p rw 0] h=some (.tup [],h')/\RW h' rw q l' (tail now hdl ct no si)/\l'.map RX.x=jap (l.map RX.x) (sumC ct 31) no si/\Ch (RC rw q) h h':=by
 suffices s : ∃ v' h',cl d (.fn F.jbz) [.p rw 0] h=some (v',h') /\ ∃ l',v' = .tup []/\RW h' rw q l' (tail now hdl ct no si)/\l'.map RX.x=jap (l.map RX.x) (sumC ct 31) no si/\Ch (RC rw q) h h' by
  obtain ⟨_,h',e,l',rfl,p⟩:=s;exact ⟨l',h',e,p⟩
 refine at_ hcl om rfl rfl rfl ?_
 have ep:=jkZ hcl (d:=d-1) om w hc
 rcases hnt with rfl | ⟨n,k,x,rfl,rfl,hk,hx,hx0,hx1⟩
 ·obtain ⟨a,c,hw,_⟩:=w.head
  have q1:(V.slice a l.length c :: tail now hdl ct (-1) si)[0+66]?=some (.i (-1)):=t_no rfl
  have hS:jap (l.map RX.x) (sumC ct 31) (-1) si=l.map RX.x:=if_pos om
  rw [hS]
  refine qx1 ?_
  exact ⟨l,rfl,w,rfl,Ch.refl _ _⟩
 obtain ⟨r,hr,rfl⟩ : ∃ r,l[n]?=some r/\r.x=x:=by
  rw [List.getElem?_map] at hx
  cases hr:l[n]? with
  | none=>rw [hr] at hx;cases hx
  | some r=>rw [hr] at hx;cases hx;exact ⟨r,rfl,rfl⟩
 obtain ⟨hw,hq,hne⟩:=w.rat hr
 have hn:=r_lt hr
 have q1:(V.slice (some (q,0)) l.length (.grow 20) :: tail now hdl ct (n:Int) (k:Int))[0+66]?=some (.i (n:Int)):=t_no rfl
 have q2:(V.slice (some (q,0)) l.length (.grow 20) :: tail now hdl ct (n:Int) (k:Int))[0+67]?=some (.i (k:Int)):=t_si rfl
 have hring : ∃ b,(r.x.e k).ring=some b:=by
  rcases hk with rfl | rfl
  ·exact Option.ne_none_iff_exists'.1 hx0
  ·exact Option.ne_none_iff_exists'.1 hx1
 obtain ⟨b,hb⟩:=hring
 obtain ⟨hv,_⟩:=(w.rok hr).b k hk
 rw [hb] at hv
 simp only [Option.getD_some] at hv
 obtain ⟨a,c,hva,_⟩:=id hv
 have q3:=r_b hr hk
 rw [hva] at q3
 have hS:jap (l.map RX.x) (sumC ct 31) (n:Int) (k:Int)=if sumC ct 31=0 then (l.map RX.x).set n (r.x.take k b.length b) else if b=[] then (l.map RX.x).set n (r.x.fill (1-k) (min 1 r.x.cap) [] [1]) else l.map RX.x:=by
  unfold jap
  rw [if_neg om,zu,zu,jaY hr]
  simp only [hb]
 rw [hS]
 by_cases hsum:sumC ct 31=0
 ·rw [if_pos hsum]
  obtain ⟨v,v',h',e2,p1,p2,p3⟩:=jmh hcl (d:=d-1) (many:=(b.length:Int)) om w hr hk hb om
  rw [show (min (b.length:Int) b.length).toNat=b.length by omega] at p2
  refine qx1 ?_
  exact ⟨_,rfl,p2,by rw [map_set,jlS hk],p3⟩
 rw [if_neg hsum]
 by_cases hbn:b=[]
 ·rw [if_pos hbn]
  subst hbn
  have q3:(rows l)[0+(n:Int).toNat*20+0+(k:Int).toNat*8+4]?=some (V.slice a 0 c):=q3
  have ek:(1:Int)-(k:Int)=((1-k:Nat):Int):=by omega
  have ekk:1-(1-k)=k:=by omega
  have lw:=w.lw
  have lq:=w.lq
  have hGo : ∀ j,j<h.nx->((h.reserve 1).set (h.nx+0) (.cells [.int .u8 1] false)).get j=h.get j:=fun j hj=>by rw [jaa om];rfl
  have oG:Old h ((h.reserve 1).set (h.nx+0) (.cells [.int .u8 1] false)):=⟨by show h.nx<=h.nx+1;omega,hGo⟩
  have hvb:VB ((h.reserve 1).set (h.nx+0) (.cells [.int .u8 1] false)) (.slice (some (h.nx+0,0)) 1 (.fix 1)) [1] :=
   ⟨some (h.nx+0,0),.fix 1,rfl,fun e=>by (cases e),zp _,fun _=>⟨h.nx+0,0,_,false,rfl,by show h.nx+0<h.nx+1;omega,jab _,fun i x hi=>by
    match i,hi with
    | 0,hi=>cases hi;rfl
    | i+1,hi=>simp at hi⟩⟩
  obtain ⟨v',h',e2,p2,p3⟩:=jjF hcl (d:=d-1) (k:=1-k) (b:=[]) om (w.old oG) hr om (by rw [ekk];exact hb) Zd (o.wi hr).cap1 hvb Zd (fun _ z hz=>by
   cases hz
   exact ⟨by omega,by omega,by show h.nx+0<h.nx+1;omega⟩)
  rw [<- ek] at e2
  have hm1:min ([1]:List UInt8).length (r.x.cap-([]:List UInt8).length)=min 1 r.x.cap:=by simp
  rw [hm1] at p2
  refine qx1 ?_
  refine Run.region ?_
  have hwR:(h.reserve 1).get rw=_:=hw
  refine qx1 ?_
  refine Ops.bslice1_at (new:=[.int .u8 1]) rfl rfl rfl rfl ?_
  refine qx1 ?_
  exact ⟨_,rfl,p2,by rw [map_set,jk9 om],oG.ch.trans p3⟩
 ·rw [if_neg hbn]
  have hpos : ¬ (b.length:Int)=0:=by have:=List.length_pos_iff.2 hbn;omega
  refine qx1 ?_
  exact ⟨l,rfl,w,rfl,Ch.refl _ _⟩
end
def put1 {α : Type} (f:Nat -> α) (s:Nat) (v : α):Nat -> α := fun i=>if i=s then v else f i
section
variable {v:V} {now no si:Int} {hd:Nat->Bool} {ct:Nat->Int}
theorem jkp {i o:Nat} {b:Bool} (hi:i<32) (ho:o=2+i):(v :: tail now hd ct no si).set o (.bool b)=v :: tail now (put1 hd i b) ct no si:=by
 subst ho
 rw [show 2+i=i+1+1 by omega]
 show v :: V.int .u64 now :: ((tab 32 (fun i=>V.bool (hd i))++_).set i (.bool b))=_
 rw [List.set_append,if_pos (by simpa using hi),jdH]
 unfold tail
 rw [jcu (g:=fun j=>V.bool (put1 hd i b j)) (fun k _=>by unfold put1;split<;>rfl)]
theorem jgi {i o:Nat} {b:Int} (hi:i<32) (ho:o=34+i):(v :: tail now hd ct no si).set o (.i b)=v :: tail now hd (put1 ct i b) no si:=by
 subst ho
 rw [show 34+i=(32+i)+1+1 by omega]
 show v :: V.int .u64 now :: ((tab 32 (fun i=>V.bool (hd i))++(tab 32 (fun i=>V.i (ct i))++[V.i no,V.i si])).set (32+i) (.i b))=_
 rw [List.set_append,if_neg Zd,tab_length,Nat.add_sub_cancel_left,List.set_append,if_pos (by simpa using hi),jdH]
 unfold tail
 rw [jcu (n:=32) (f:=fun j=>if j=i then V.i b else V.i (ct j)) (g:=fun j=>V.i (put1 ct i b j)) (fun k _=>by unfold put1;split<;>rfl)]
end
def jdx (s:Int):Prop:=1<=s/\s<=31
instance (s:Int):Decidable (jdx s):=inferInstanceAs (Decidable (_/\_))
def jdP (hd:Nat->Bool) (s:Int) (on:Bool):Nat->Bool:=if jdx s then put1 hd s.toNat on else hd
def jcn (ct:Nat->Int) (s:Int) (on:Bool):Nat->Int:=if jdx s/\on=false then put1 ct s.toNat 0 else ct
section
variable {cl:Nat->Call} (hcl:Sem cl)
include hcl
theorem rq_Handle {d rw q:Nat} {h:H} {l:List RX} {now no si s:Int} {on:Bool} {hdl:Nat->Bool} {ct:Nat->Int} (hd:4<=d) (w:RW h rw q l (tail now hdl ct no si)) (o:WsOk (l.map RX.x)) (hnt:NtOk (l.map RX.x) no si) (hc : ∀ i,0<=ct i/\ct i<=1000000) :
  ∃ l' h',cl d (.fn F.jaP) [.p rw 0,.i s,.bool on] h=some (.i (if jdx s then 0 else 100),h')/\RW h' rw q l' (tail now (jdP hdl s on) (jcn ct s on) no si)/\l'.map RX.x=jap (l.map RX.x) (sumC (jcn ct s on) 31) no si/\Ch (RC rw q) h h':=by
 suffices k : ∃ v' h',cl d (.fn F.jaP) [.p rw 0,.i s,.bool on] h=some (v',h') /\ ∃ l',v' = .i (if jdx s then 0 else 100)/\RW h' rw q l' (tail now (jdP hdl s on) (jcn ct s on) no si)/\l'.map RX.x=jap (l.map RX.x) (sumC (jcn ct s on) 31) no si/\Ch (RC rw q) h h' by
  obtain ⟨_,h',e,l',rfl,p⟩:=k;exact ⟨l',h',e,p⟩
 refine at_ hcl om rfl rfl rfl ?_
 by_cases hs:jdx s
 case neg=>
  rw [if_neg hs,show jdP hdl s on=hdl by unfold jdP;rw [if_neg hs],show jcn ct s on=ct by unfold jcn;rw [if_neg (fun e=>hs e.1)]]
  obtain ⟨l',h',e,p⟩:=jbP hcl (d:=d-1) om w o hnt hc
  have hs':s<1\/(¬ s<1/\31<s):=by unfold jdx at hs;omega
  clear hs
  rcases hs' with hs' | ⟨hs1,hs'⟩
  ·refine qx1 ?_
   exact ⟨l',rfl,p⟩
  ·refine qx1 ?_
   exact ⟨l',rfl,p⟩
 rw [if_pos hs]
 obtain ⟨s1,s2⟩:=id hs
 obtain ⟨m,rfl⟩:=zy (show 0<=s by omega)
 obtain ⟨a,c,hw,_⟩:=w.head
 have hlen : ∀ {hd2:Nat->Bool} {o:Nat},o<68->o<(V.slice a l.length c :: tail now hd2 ct no si).length:=fun ho=>by simp [jcB];omega
 rw [show jdP hdl (m:Int) on=put1 hdl m on by unfold jdP;rw [if_pos hs,zu]]
 have w1:=w.tl (tl':=tail now (put1 hdl m on) ct no si) hw
 have c1:Ch (RC rw q) h (h.set rw (.cells (V.slice a l.length c :: tail now (put1 hdl m on) ct no si) false)):=Ch.set (.inr rfl)
 cases on
 ·rw [show jcn ct (m:Int) false=put1 ct m 0 by unfold jcn;rw [if_pos ⟨hs,rfl⟩,zu]]
  have w2:=w1.tl (tl':=tail now (put1 hdl m false) (put1 ct m 0) no si) (jab _)
  have c2:=c1.trans (Ch.set (B:=RC rw q) (ob := .cells (V.slice a l.length c :: tail now (put1 hdl m false) (put1 ct m 0) no si) false) (.inr rfl))
  have hc0 : ∀ i,0<=put1 ct m 0 i/\put1 ct m 0 i<=1000000:=fun i=>by
   unfold put1
   by_cases e:i=m
   ·rw [if_pos e];omega
   ·rw [if_neg e];exact hc i
  obtain ⟨l',h',e,p1,p2,p3⟩:=jbP hcl (d:=d-1) om w2 o hnt hc0
  refine qx1 ?_
  refine Ops.store1 rfl rfl rfl hw (hlen om) ?_
  rw [jkp (i:=m) om om]
  refine qx1 ?_
  refine Ops.store1 rfl rfl rfl (jab _) (hlen om) ?_
  rw [jgi (i:=m) om om]
  refine qx1 ?_
  exact ⟨l',rfl,p1,p2,c2.trans p3⟩
 ·rw [show jcn ct (m:Int) true=ct by unfold jcn;rw [if_neg (fun e=>by cases e.2)]]
  obtain ⟨l',h',e,p1,p2,p3⟩:=jbP hcl (d:=d-1) om w1 o hnt hc
  refine qx1 ?_
  refine Ops.store1 rfl rfl rfl hw (hlen om) ?_
  rw [jkp (i:=m) om om]
  refine qx1 ?_
  exact ⟨l',rfl,p1,p2,c1.trans p3⟩
end
def jdj (hd:Nat->Bool) (ct:Nat->Int) (s:Int):Nat->Int:=if jdx s/\hd s.toNat=true then put1 ct s.toNat (ct s.toNat+1) else ct
section
variable {cl:Nat->Call} (hcl:Sem cl)
include hcl
theorem rq_Raise {d rw q:Nat} {h:H} {l:List RX} {now no si s:Int} {hdl:Nat->Bool} {ct:Nat->Int} (hd:4<=d) (w:RW h rw q l (tail now hdl ct no si)) (o:WsOk (l.map RX.x)) (hnt:NtOk (l.map RX.x) no si) (hc : ∀ i,0<=ct i/\ct i<=999999) :
  ∃ l' h',cl d (.fn F.jaW) [.p rw 0,.i s] h=some (.i (if jdx s then 0 else 100),h')/\RW h' rw q l' (tail now hdl (jdj hdl ct s) no si)/\l'.map RX.x=jap (l.map RX.x) (sumC (jdj hdl ct s) 31) no si/\Ch (RC rw q) h h':=by
 suffices k : ∃ v' h',cl d (.fn F.jaW) [.p rw 0,.i s] h=some (v',h') /\ ∃ l',v' = .i (if jdx s then 0 else 100)/\RW h' rw q l' (tail now hdl (jdj hdl ct s) no si)/\l'.map RX.x=jap (l.map RX.x) (sumC (jdj hdl ct s) 31) no si/\Ch (RC rw q) h h' by
  obtain ⟨_,h',e,l',rfl,p⟩:=k;exact ⟨l',h',e,p⟩
 refine at_ hcl om rfl rfl rfl ?_
 have hc0 : ∀ i,0<=ct i/\ct i<=1000000:=fun i=>⟨(hc i).1,by have:=(hc i).2;omega⟩
 by_cases hs:jdx s
 case neg=>
  rw [if_neg hs,show jdj hdl ct s=ct by unfold jdj;rw [if_neg (fun e=>hs e.1)]]
  obtain ⟨l',h',e,p⟩:=jbP hcl (d:=d-1) om w o hnt hc0
  have hs':s<1\/(¬ s<1/\31<s):=by unfold jdx at hs;omega
  clear hs
  rcases hs' with hs' | ⟨hs1,hs'⟩
  ·refine qx1 ?_
   exact ⟨l',rfl,p⟩
  ·refine qx1 ?_
   exact ⟨l',rfl,p⟩
 rw [if_pos hs]
 obtain ⟨s1,s2⟩:=id hs
 obtain ⟨m,rfl⟩:=zy (show 0<=s by omega)
 obtain ⟨a,c,hw,_⟩:=w.head
 have q1:(V.slice a l.length c :: tail now hdl ct no si)[0+2+(m:Int).toNat*1]?=some (.bool (hdl m)):=t_hd om om
 have q2:(V.slice a l.length c :: tail now hdl ct no si)[0+34+(m:Int).toNat*1]?=some (.i (ct m)):=t_ct om om
 have hlen:0+34+(m:Int).toNat*1<(V.slice a l.length c :: tail now hdl ct no si).length:=by simp [jcB];omega
 have hcm:=hc m
 cases hh:hdl m
 ·rw [show jdj hdl ct (m:Int)=ct by unfold jdj;rw [if_neg (fun e=>by rw [zu,hh] at e;cases e.2)]]
  rw [hh] at q1
  obtain ⟨l',h',e,p⟩:=jbP hcl (d:=d-1) om w o hnt hc0
  refine qx1 ?_
  exact ⟨l',rfl,p⟩
 ·rw [show jdj hdl ct (m:Int)=put1 ct m (ct m+1) by unfold jdj;rw [if_pos ⟨hs,by rw [zu];exact hh⟩,zu]]
  rw [hh] at q1
  have w1:=w.tl (tl':=tail now hdl (put1 ct m (ct m+1)) no si) hw
  have c1:Ch (RC rw q) h (h.set rw (.cells (V.slice a l.length c :: tail now hdl (put1 ct m (ct m+1)) no si) false)):=Ch.set (.inr rfl)
  have hc1 : ∀ i,0<=put1 ct m (ct m+1) i/\put1 ct m (ct m+1) i<=1000000:=fun i=>by
   unfold put1
   by_cases e:i=m
   ·rw [if_pos e];omega
   ·rw [if_neg e];exact hc0 i
  obtain ⟨l',h',e,p1,p2,p3⟩:=jbP hcl (d:=d-1) om w1 o hnt hc1
  refine qx1 ?_
  refine Ops.store1 rfl rfl rfl hw hlen ?_
  rw [jgi (i:=m) om om]
  refine qx1 ?_
  exact ⟨l',rfl,p1,p2,c1.trans p3⟩
end
section
variable {v:V} {now no si:Int} {hd:Nat->Bool} {ct:Nat->Int}
theorem t_set_no {o:Nat} {b:Int} (ho:o=66):(v :: tail now hd ct no si).set o (.i b)=v :: tail now hd ct b si:=by
 subst ho
 show v :: V.int .u64 now :: ((tab 32 (fun i=>V.bool (hd i))++(tab 32 (fun i=>V.i (ct i))++[V.i no,V.i si])).set 64 (.i b))=_
 rw [List.set_append,if_neg Zd,tab_length,List.set_append,if_neg Zd,tab_length];rfl
theorem t_set_si {o:Nat} {b:Int} (ho:o=67):(v :: tail now hd ct no si).set o (.i b)=v :: tail now hd ct no b:=by
 subst ho
 show v :: V.int .u64 now :: ((tab 32 (fun i=>V.bool (hd i))++(tab 32 (fun i=>V.i (ct i))++[V.i no,V.i si])).set 65 (.i b))=_
 rw [List.set_append,if_neg Zd,tab_length,List.set_append,if_neg Zd,tab_length];rfl
end
noncomputable def ntS (ws:Ws) (a b:Int):Int × Option (Nat × Nat) :=
 jcb ws a (110,none) fun n k x=>jcb ws b (110,none) fun m i _=>if n=m/\k≠i/\x.e0.ring≠none/\x.e1.ring≠none then (0,some (n,k)) else (111,none)
noncomputable def ntW (ws:Ws) (sum:Int) (a b:Int):Ws:=match (ntS ws a b).2 with
 | none=>ws
 | some (n,k)=>jap ws sum n k
noncomputable def ntNo (ws:Ws) (a b no:Int):Int:=match (ntS ws a b).2 with
 | none=>no
 | some (n,_)=>n
noncomputable def ntSi (ws:Ws) (a b si:Int):Int:=match (ntS ws a b).2 with
 | none=>si
 | some (_,k)=>k
section
variable {cl:Nat->Call} (hcl:Sem cl)
include hcl
theorem jiE {d rw q:Nat} {h:H} {l:List RX} {now no si a b:Int} {hdl:Nat->Bool} {ct:Nat->Int} (hd:4<=d) (w:RW h rw q l (tail now hdl ct no si)) (o:WsOk (l.map RX.x)) (hc : ∀ i,0<=ct i/\ct i<=1000000) :
  ∃ l' h',cl d (.fn F.jaB) [.p rw 0,.i a,.i b] h=some (.i (ntS (l.map RX.x) a b).1,h')/\RW h' rw q l' (tail now hdl ct (ntNo (l.map RX.x) a b no) (ntSi (l.map RX.x) a b si))/\l'.map RX.x=ntW (l.map RX.x) (sumC ct 31) a b/\Ch (RC rw q) h h':=by
 suffices k : ∃ v' h',cl d (.fn F.jaB) [.p rw 0,.i a,.i b] h=some (v',h') /\ ∃ l',v' = .i (ntS (l.map RX.x) a b).1/\RW h' rw q l' (tail now hdl ct (ntNo (l.map RX.x) a b no) (ntSi (l.map RX.x) a b si))/\l'.map RX.x=ntW (l.map RX.x) (sumC ct 31) a b/\Ch (RC rw q) h h' by
  obtain ⟨_,h',e,l',rfl,p⟩:=k;exact ⟨l',h',e,p⟩
 refine at_ hcl om rfl rfl rfl ?_
 unfold ntNo ntSi ntW
 rcases jeu hcl (d:=d-1) (fd:=a) om w o with ⟨hno,ea⟩ | ⟨n,k,r,hat,hr,hk,ea⟩
 ·have hS:ntS (l.map RX.x) a b=(110,none):=jaD hno
  rw [hS]
  rcases jeu hcl (d:=d-1) (fd:=b) om w o with ⟨_,eb⟩ | ⟨_,_,_,_,_,_,eb⟩
  ·refine qx1 ?_
   exact ⟨l,rfl,w,rfl,Ch.refl _ _⟩
  ·refine qx1 ?_
   exact ⟨l,rfl,w,rfl,Ch.refl _ _⟩
 have hS1:ntS (l.map RX.x) a b=_:=jaE o.uniq hat (jaY hr)
 rcases jeu hcl (d:=d-1) (fd:=b) om w o with ⟨hno,eb⟩ | ⟨m,i,r2,hat2,hr2,hk2,eb⟩
 ·rw [jaD hno] at hS1
  rw [hS1]
  refine qx1 ?_
  exact ⟨l,rfl,w,rfl,Ch.refl _ _⟩
 rw [jaE o.uniq hat2 (jaY hr2)] at hS1
 obtain ⟨hw,hq,hne⟩:=w.rat hr
 have hn:=r_lt hr
 have q1:=jg4 (k:=0) hr (.inl rfl)
 have q2:=jg4 (k:=1) hr (.inr rfl)
 have q1:(rows l)[0+(n:Int).toNat*20+0+((0:Nat):Int).toNat*8+2]?=some (.bool r.x.e0.ring.isSome):=q1
 have q2:(rows l)[0+(n:Int).toNat*20+0+((1:Nat):Int).toNat*8+2]?=some (.bool r.x.e1.ring.isSome):=q2
 by_cases hg:n=m/\k≠i/\r.x.e0.ring≠none/\r.x.e1.ring≠none
 case neg=>
  rw [if_neg hg] at hS1
  rw [hS1]
  by_cases h1:n=m
  case neg=>
   have h1':(n:Int)≠(m:Int):=by omega
   refine qx1 ?_
   exact ⟨l,rfl,w,rfl,Ch.refl _ _⟩
  have h1' : ¬ (n:Int)≠(m:Int):=by omega
  by_cases h2:k=i
  ·have h2':(k:Int)=(i:Int):=by omega
   refine qx1 ?_
   exact ⟨l,rfl,w,rfl,Ch.refl _ _⟩
  have h2' : ¬ (k:Int)=(i:Int):=by omega
  cases h3:r.x.e0.ring with
  | none=>
   rw [h3] at q1
   refine qx1 ?_
   exact ⟨l,rfl,w,rfl,Ch.refl _ _⟩
  | some b0=>
   rw [h3] at q1
   cases h4:r.x.e1.ring with
   | none=>
    rw [h4] at q2
    refine qx1 ?_
    exact ⟨l,rfl,w,rfl,Ch.refl _ _⟩
   | some b1=>exact absurd ⟨h1,h2,by rw [h3];simp,by rw [h4];simp⟩ hg
 rw [if_pos hg] at hS1
 rw [hS1]
 obtain ⟨rfl,g2,g3,g4⟩:=hg
 have h1' : ¬ (n:Int)≠(n:Int):=by omega
 have h2' : ¬ (k:Int)=(i:Int):=by omega
 obtain ⟨b0,h3⟩:=Option.ne_none_iff_exists'.1 g3
 obtain ⟨b1,h4⟩:=Option.ne_none_iff_exists'.1 g4
 rw [h3] at q1
 rw [h4] at q2
 have w1:=w.tl (tl':=tail now hdl ct (n:Int) si) hw
 have w2:=w1.tl (tl':=tail now hdl ct (n:Int) (k:Int)) (jab _)
 have c2:Ch (RC rw q) h _:=(Ch.set (.inr rfl)).trans (Ch.set (b:=rw) (h:=h.set rw (.cells (.slice (some (q,0)) l.length (.grow 20) :: tail now hdl ct (n:Int) si) false)) (ob := .cells (.slice (some (q,0)) l.length (.grow 20) :: tail now hdl ct (n:Int) (k:Int)) false) (.inr rfl))
 obtain ⟨l',h',e,p1,p2,p3⟩:=jbP hcl (d:=d-1) om w2 o (.inr ⟨n,k,r.x,rfl,rfl,hk,jaY hr,g3,g4⟩) hc
 have hlen : ∀ {n2:Int} {o:Nat},o<68->o<(V.slice (some (q,0)) l.length (.grow 20) :: tail now hdl ct n2 si).length:=fun ho=>by simp [jcB];omega
 refine qx1 ?_
 refine Ops.store1 rfl rfl rfl hw (hlen om) ?_
 rw [t_set_no om]
 refine qx1 ?_
 refine Ops.store1 rfl rfl rfl (jab _) (hlen om) ?_
 rw [t_set_si om]
 refine qx1 ?_
 exact ⟨l',rfl,p1,p2,c2.trans p3⟩
end
def ctZ (ct:Nat->Int) (n:Nat):Nat->Int:=fun i=>if 1<=i/\i<=n then 0 else ct i
theorem ctZ_zero (ct:Nat->Int):ctZ ct 0=ct:=by
 funext i;unfold ctZ;rw [if_neg om]
theorem jkD (ct:Nat->Int) (n:Nat):put1 (ctZ ct n) (n+1) 0=ctZ ct (n+1):=by
 funext i;unfold ctZ put1
 by_cases h:i=n+1
 ·rw [if_pos h,if_pos om]
 ·rw [if_neg h]
  show (if 1<=i/\i<=n then 0 else ct i)=_
  by_cases h2:1<=i/\i<=n
  ·rw [if_pos h2,if_pos om]
  ·rw [if_neg h2,if_neg om]
theorem ctZ_gt (ct:Nat->Int) (n:Nat):ctZ ct n (n+1)=ct (n+1):=by
 unfold ctZ;rw [if_neg om]
def jca (ct:Nat->Int):Nat->List (Int × Int)
 | 0=>[]
 | n+1=>jca ct n++if 0<ct (n+1) then [(((n+1:Nat):Int),ct (n+1))] else []
theorem jgy (ct:Nat->Int) : ∀ n,(jca ct n).length<=n
 | 0=>zp _
 | n+1=>by
  have:=jgy ct n
  simp only [jca,ze]
  split<;>simp<;>omega
def jce (l:List (Int × Int)):List V:=(l.map fun p=>[V.i p.1,V.i p.2]).flatten
section
variable {cl:Nat->Call} (hcl:Sem cl)
include hcl
theorem jkY {d rw q:Nat} {h:H} {l:List RX} {now no si:Int} {hdl:Nat->Bool} {ct:Nat->Int} (hd:4<=d) (w:RW h rw q l (tail now hdl ct no si)) (o:WsOk (l.map RX.x)) (hnt:NtOk (l.map RX.x) no si) (hc : ∀ i,0<=ct i/\ct i<=1000000) :
  ∃ v l' h',cl d (.fn F.jaL) [.p rw 0] h=some (v,h')/\Row h.nx h' 2 v (jca ct 31).length (jce (jca ct 31))/\RW h' rw q l' (tail now hdl (ctZ ct 31) no si)/\l'.map RX.x=jap (l.map RX.x) (sumC (ctZ ct 31) 31) no si/\Ch (RC rw q) h h':=by
 suffices k : ∃ v h',cl d (.fn F.jaL) [.p rw 0] h=some (v,h') /\ ∃ l',Row h.nx h' 2 v (jca ct 31).length (jce (jca ct 31))/\RW h' rw q l' (tail now hdl (ctZ ct 31) no si)/\l'.map RX.x=jap (l.map RX.x) (sumC (ctZ ct 31) 31) no si/\Ch (RC rw q) h h' by
  obtain ⟨v,h',e,l',p⟩:=k;exact ⟨v,l',h',e,p⟩
 refine at_ hcl om rfl rfl rfl ?_
 obtain ⟨a,c,hw,_⟩:=w.head
 refine qx1 ?_
 refine Run.loop (fun m e g=>∃ (s:Nat) (v:V),m=31-s/\s<=31/\e=[(0,.p rw 0),(3,v),(4,.i ((s+1:Nat):Int))]/\Row h.nx g 2 v (jca ct s).length (jce (jca ct s))/\Old (h.set rw (.cells (V.slice a l.length c :: tail now hdl (ctZ ct s) no si) false)) g)
  (k:=31) Ze ⟨0,.nils,rfl,by omega,rfl,Row.nil _ _ _,?_⟩ ?_
 ·rw [ctZ_zero]
  refine ⟨zp _,fun j hj=>?_⟩
  by_cases e:j=rw
  ·subst e;rw [jab,hw]
  ·rw [jaa e]
 rintro _ _ g ⟨s,v,rfl,hs,rfl,row,old⟩ f ih
 have w1:=w.tl (tl':=tail now hdl (ctZ ct s) no si) hw
 have wg:=w1.old old
 have onx:h.nx<=g.nx:=old.1
 have hwg:g.get rw=some (.cells (V.slice a l.length c :: tail now hdl (ctZ ct s) no si) false):=by
  rw [old.2 rw w.lw,jab]
 by_cases hlt:s<31
 case neg=>
  obtain rfl:s=31:=by omega
  have hcond : ¬ ((31+1:Nat):Int)<=31:=by omega
  have hc0 : ∀ i,0<=ctZ ct 31 i/\ctZ ct 31 i<=1000000:=fun i=>by
   unfold ctZ
   by_cases e:1<=i/\i<=31
   ·rw [if_pos e];omega
   ·rw [if_neg e];exact hc i
  obtain ⟨l',h',e,p1,p2,p3⟩:=jbP hcl (d:=d-1) om wg o hnt hc0
  have c1:Ch (RC rw q) h (h.set rw (.cells (V.slice a l.length c :: tail now hdl (ctZ ct 31) no si) false)):=Ch.set (.inr rfl)
  refine qx1 ?_
  refine ⟨l',row.keep p3.nx fun z hz=>p3.get z (row.at_ge hz).2 fun e=>?_,p1,p2,(c1.trans old.ch).trans p3⟩
  have:=(row.at_ge hz).1
  have:=w.lw
  have:=w.lq
  rcases e with e | e<;>omega
 have q1:(V.slice a l.length c :: tail now hdl (ctZ ct s) no si)[0+34+(((s+1:Nat):Int)).toNat*1]?=some (.i (ct (s+1))):=by
  rw [<- ctZ_gt ct s];exact t_ct om om
 have hlen:0+34+(((s+1:Nat):Int)).toNat*1<(V.slice a l.length c :: tail now hdl (ctZ ct s) no si).length:=by simp [jcB];omega
 have hcond:((s+1:Nat):Int)<=31:=by omega
 have hs1:((s+1+1:Nat):Int)=((s+1:Nat):Int)+1:=by omega
 have hb2:=hc (s+1)
 have hsl:=jgy ct s
 by_cases hpos:0<ct (s+1)
 ·have hpos':ct (s+1)>0:=hpos
  have hL:jca ct (s+1)=jca ct s++[(((s+1:Nat):Int),ct (s+1))]:=by simp only [jca,if_pos hpos]
  refine qx1 ?_
  refine Ops.push (N:=h.nx) (new:=[.i ((s+1:Nat):Int),.i (ct (s+1))]) rfl rfl rfl rfl om rfl rfl row onx om om fun v' g' row' hx' hz' hk'=>?_
  have hwg':g'.get rw=some (.cells (V.slice a l.length c :: tail now hdl (ctZ ct s) no si) false):=by
   rw [hk' rw (zq w.lw onx) (fun e=>by have:=row.at_ge e;have:=w.lw;omega),hwg]
  refine qx1 ?_
  refine Ops.store1 rfl rfl rfl hwg' hlen ?_
  rw [jgi (i:=s+1) om om,jkD]
  refine qx1 ?_
  refine ih (31-(s+1)) om _ _ ⟨s+1,v',rfl,by omega,by rw [hs1],?_,?_,?_⟩
  ·rw [hL,ze]
   have:jce (jca ct s++[(((s+1:Nat):Int),ct (s+1))])=jce (jca ct s)++[.i ((s+1:Nat):Int),.i (ct (s+1))]:=by simp [jce]
   rw [this]
   refine Row.keep row' Zd fun z hz=>jaa ?_
   have:=hz' z hz
   have:=w.lw
   omega
  ·show h.nx<=g'.nx
   omega
  ·intro j hj
   have hj':j<h.nx:=hj
   by_cases e:j=rw
   ·subst e;rw [jab,jab]
   ·rw [jaa e,jaa e,hk' j om (fun e=>by have:=row.at_ge e;omega),old.2 j hj,jaa e]
 ·have hpos' : ¬ ct (s+1)>0:=hpos
  have hL:jca ct (s+1)=jca ct s:=by simp only [jca,if_neg hpos,List.append_nil]
  refine qx1 ?_
  refine Ops.store1 rfl rfl rfl hwg hlen ?_
  rw [jgi (i:=s+1) om om,jkD]
  refine qx1 ?_
  refine ih (31-(s+1)) om _ _ ⟨s+1,v,rfl,by omega,by rw [hs1],?_,?_,?_⟩
  ·rw [hL]
   refine Row.keep row Zd fun z hz=>jaa ?_
   have:=row.at_ge hz
   have:=w.lw
   omega
  ·exact onx
  ·intro j hj
   by_cases e:j=rw
   ·subst e;rw [jab,jab]
   ·rw [jaa e,jaa e,old.2 j hj,jaa e]
end
section
variable {cl:Nat->Call} (hcl:Sem cl)
include hcl
end
def WsOne (ws:Ws):Prop := ∀ (i j:Nat) (x y:Wi) (p q:Nat) (m:Int),ws[i]?=some x->ws[j]?=some y->x.waiting[p]?=some m->y.waiting[q]?=some m->i=j/\p=q
structure WsK (ws:Ws):Prop where
 ok:WsOk ws
 one:WsOne ws
def Wi.SubFd (x y:Wi):Prop := ∀ k,k=0\/k=1->(y.e k).what=1->(x.e k).what=1/\(y.e k).fd=(x.e k).fd
theorem Wi.SubFd.refl (x:Wi):x.SubFd x:=fun _ _ h=>⟨h,rfl⟩
theorem Wi.SubFd.trans {x y z:Wi} (a:x.SubFd y) (b:y.SubFd z):x.SubFd z:=fun k hk h=>⟨(a k hk (b k hk h).1).1,by rw [(b k hk h).2,(a k hk (b k hk h).1).2]⟩
theorem w_lt {ws:Ws} {n:Nat} {x:Wi} (hr:ws[n]?=some x):n<ws.length:=by
 rcases zw n ws.length with h | h
 ·exact h
 ·rw [zc h] at hr;cases hr
theorem jn1 {ws:Ws} {n:Nat} (h:n<ws.length) : ∃ x,ws[n]?=some x:=⟨_,za h⟩
theorem jdB {ws:Ws} {n m:Nat} {y z:Wi} (h:(ws.set n y)[m]?=some z):(m=n/\z=y)\/(m≠n/\ws[m]?=some z):=by
 rw [zh] at h
 by_cases e:n=m
 ·rw [if_pos e] at h
  by_cases hl:n<ws.length
  ·rw [if_pos hl] at h;cases h;exact .inl ⟨e.symm,rfl⟩
  ·rw [if_neg hl] at h;cases h
 ·rw [if_neg e] at h;exact .inr ⟨fun h=>e h.symm,h⟩
theorem WsK.mild {ws ws':Ws} (K:WsK ws) (hl:ws'.length=ws.length)
  (h : ∀ (i:Nat) (z':Wi),ws'[i]?=some z' -> ∃ z,ws[i]?=some z/\z.SubFd z'/\WiOk z'/\(∃ c,z'.waiting=z.waiting.drop c)/\(z.e0.what=0->(∃ (j:Nat) (u:Wi),ws'[j]?=some u/\(i:Int)∈u.waiting)->z'.e0.what=0)):WsK ws':=by
 refine ⟨⟨?_,fun x hx=>?_,by rw [hl];exact K.ok.len,fun x hx=>?_⟩,?_⟩
 ·have sub : ∀ n k fd,AtW ws' n k fd->AtW ws n k fd:=by
   rintro n k fd ⟨x,hx,hk,h1,h2⟩
   obtain ⟨z,e1,e2,_⟩:=h n x hx
   exact ⟨z,e1,hk,(e2 k hk h1).1,by rw [<- (e2 k hk h1).2,h2]⟩
  exact fun n k n' k' fd a b=>K.ok.uniq n k n' k' fd (sub _ _ _ a) (sub _ _ _ b)
 ·obtain ⟨i,hi⟩:=List.mem_iff_getElem?.1 hx
  obtain ⟨z,_,_,e,_⟩:=h i x hi
  exact e
 ·obtain ⟨i,hi⟩:=List.mem_iff_getElem?.1 hx
  obtain ⟨z,e1,_,_,⟨c,e2⟩,_⟩:=h i x hi
  obtain ⟨p1,p2⟩:=K.ok.wait z (zb e1)
  refine ⟨by rw [e2,List.length_drop];omega,fun m hm=>?_⟩
  obtain ⟨y,y0,y1,y2⟩:=p2 m (by rw [e2] at hm;exact List.mem_of_mem_drop hm)
  obtain ⟨y',hy'⟩:=jn1 (ws:=ws') (n:=m.toNat) (by rw [hl];exact w_lt y1)
  obtain ⟨u,u1,_,_,_,u2⟩:=h _ _ hy'
  rw [y1] at u1;cases u1
  exact ⟨y',y0,hy',u2 y2 ⟨i,x,hi,by rw [Int.toNat_of_nonneg y0];exact hm⟩⟩
 ·intro i j x y p q m hx hy hp hq
  obtain ⟨a,a1,_,_,⟨c,a2⟩,_⟩:=h i x hx
  obtain ⟨b,b1,_,_,⟨c',b2⟩,_⟩:=h j y hy
  rw [a2,zl] at hp
  rw [b2,zl] at hq
  obtain ⟨e1,e2⟩:=K.one i j a b (c+p) (c'+q) m a1 b1 hp hq
  refine ⟨e1,?_⟩
  subst e1
  rw [hx] at hy;cases hy
  rw [a1] at b1;cases b1
  have:=a2.symm.trans b2
  have h1:=congrArg List.length this
  rw [List.length_drop,List.length_drop] at h1
  have h2:c+p<a.waiting.length:=by
   rcases zw (c+p) a.waiting.length with h | h
   ·exact h
   ·rw [zc h] at hp;cases hp
  omega
theorem WsK.set {ws:Ws} {n:Nat} {x y:Wi} (K:WsK ws) (hx:ws[n]?=some x) (hs:x.SubFd y) (hok:WiOk x->WiOk y) (hw:y.waiting=x.waiting) (h0:x.e0.what=0->y.e0.what=0):WsK (ws.set n y):=by
 refine K.mild Zd fun i z' hz=>?_
 rcases jdB hz with ⟨rfl,rfl⟩ | ⟨_,hz⟩
 ·exact ⟨x,hx,hs,hok (K.ok.ok x (zb hx)),⟨0,by rw [hw];rfl⟩,fun h _=>h0 h⟩
 ·exact ⟨z',hz,Wi.SubFd.refl _,K.ok.ok z' (zb hz),⟨0,rfl⟩,fun h _=>h⟩
theorem WsK.set_wait {ws:Ws} {n c:Nat} {x:Wi} (K:WsK ws) (hx:ws[n]?=some x):WsK (ws.set n { x with waiting:=x.waiting.drop c }):=by
 refine K.mild Zd fun i z' hz=>?_
 rcases jdB hz with ⟨rfl,rfl⟩ | ⟨_,hz⟩
 ·have:=K.ok.ok x (zb hx)
  exact ⟨x,hx,Wi.SubFd.refl _,⟨this.cap0,this.cap1,this.len,this.pair,this.out,this.bl,this.wh⟩,⟨c,rfl⟩,fun h _=>h⟩
 ·exact ⟨z',hz,Wi.SubFd.refl _,K.ok.ok z' (zb hz),⟨0,rfl⟩,fun h _=>h⟩
theorem WiOk.of {x y:Wi} (a:WiOk x) (hc:y.cap=x.cap) (hw : ∀ k,k=0\/k=1->(y.e k).writes=(x.e k).writes) (hr : ∀ k,k=0\/k=1->((y.e k).ring=none↔(x.e k).ring=none)) (hl : ∀ k,k=0\/k=1 -> ∀ q,(y.e k).ring=some q->q.length<=x.cap) (ho:y.e1.what=2->x.e1.what=2) (hb:y.backlog=x.backlog:=by rfl) (hv:WhV x->WhV y:=by exact fun h=>h):WiOk y:=by
 refine ⟨by rw [hc];exact a.cap0,by rw [hc];exact a.cap1,fun k hk q hq=>by rw [hc];exact hl k hk q hq,fun k hk=>?_,fun h2=>?_,by rw [hb];exact a.bl,hv a.wh⟩
 ·rw [hw k hk,a.pair k hk,ne_eq,ne_eq]
  refine not_congr ?_
  rcases hk with rfl | rfl
  ·exact (hr 1 (.inr rfl)).symm
  ·exact (hr 0 (.inl rfl)).symm
 ·have:=a.out (ho h2)
  exact ⟨fun e=>this.1 ((hr 0 (.inl rfl)).1 e),fun e=>this.2 ((hr 1 (.inr rfl)).1 e)⟩
theorem WiOk.nil {x:Wi} (a:WiOk x) : ∀ k,k=0\/k=1 -> ∀ q,(x.e k).ring=some q->q.length<=x.cap:=a.len
theorem jfG {x:Wi} {k:Nat} {i o:Bool} (hk:k=0\/k=1):x.SubFd (x.came k i o):=by
 intro j hj
 rcases hk with rfl | rfl<;>rcases hj with rfl | rfl<;>exact fun h=>⟨h,rfl⟩
theorem jfF {x:Wi} {k:Nat} {i o:Bool} (hk:k=0\/k=1) (a:WiOk x):WiOk (x.came k i o):=by
 rcases hk with rfl | rfl
 ·refine a.of rfl (fun j hj=>?_) (fun j hj=>?_) (fun j hj q hq=>?_) fun h=>h
  ·rcases hj with rfl | rfl<;>rfl
  ·rcases hj with rfl | rfl<;>exact Iff.rfl
  ·rcases hj with rfl | rfl
   ·exact a.len 0 Zd q hq
   ·exact a.len 1 Zd q hq
 ·refine a.of rfl (fun j hj=>?_) (fun j hj=>?_) (fun j hj q hq=>?_) fun h=>h
  ·rcases hj with rfl | rfl<;>rfl
  ·rcases hj with rfl | rfl<;>exact Iff.rfl
  ·rcases hj with rfl | rfl
   ·exact a.len 0 Zd q hq
   ·exact a.len 1 Zd q hq
theorem jix {x:Wi} {k:Nat} {i o:Bool} (hk:k=0\/k=1):(x.came k i o).e0.what=x.e0.what:=by rcases hk with rfl | rfl<;>rfl
theorem jiw {x:Wi} {k:Nat} {i o:Bool} (hk:k=0\/k=1):(x.came k i o).waiting=x.waiting:=by rcases hk with rfl | rfl<;>rfl
theorem jhT {x:Wi} {k:Nat} {q:List UInt8} (hk:k=0\/k=1):x.SubFd (x.setq k q):=by
 intro j hj
 rcases hk with rfl | rfl<;>rcases hj with rfl | rfl<;>exact fun h=>⟨h,rfl⟩
theorem jhS {x:Wi} {k:Nat} {q q':List UInt8} (hk:k=0\/k=1) (hq:(x.e k).ring=some q) (hl:q'.length<=x.cap) (a:WiOk x):WiOk (x.setq k q'):=by
 rcases hk with rfl | rfl
 ·have hq:x.e0.ring=some q:=hq
  refine a.of rfl (fun j hj=>?_) (fun j hj=>?_) (fun j hj q2 hq2=>?_) fun h=>h
  ·rcases hj with rfl | rfl<;>rfl
  ·rcases hj with rfl | rfl
   ·show (some q'=none)↔x.e0.ring=none
    rw [hq];simp
   ·exact Iff.rfl
  ·rcases hj with rfl | rfl
   ·have:some q'=some q2:=hq2
    cases this;exact hl
   ·exact a.len 1 Zd q2 hq2
 ·have hq:x.e1.ring=some q:=hq
  refine a.of rfl (fun j hj=>?_) (fun j hj=>?_) (fun j hj q2 hq2=>?_) fun h=>h
  ·rcases hj with rfl | rfl<;>rfl
  ·rcases hj with rfl | rfl
   ·exact Iff.rfl
   ·show (some q'=none)↔x.e1.ring=none
    rw [hq];simp
  ·rcases hj with rfl | rfl
   ·exact a.len 0 Zd q2 hq2
   ·have:some q'=some q2:=hq2
    cases this;exact hl
theorem jma {x:Wi} {k:Nat} {q:List UInt8} (hk:k=0\/k=1):(x.setq k q).e0.what=x.e0.what:=by rcases hk with rfl | rfl<;>rfl
theorem jlZ {x:Wi} {k:Nat} {q:List UInt8} (hk:k=0\/k=1):(x.setq k q).waiting=x.waiting:=by rcases hk with rfl | rfl<;>rfl
theorem jbZ {k:Nat} (hk:k=0\/k=1):1-k=0\/1-k=1:=by omega
theorem WsK.take {ws:Ws} {n k m:Nat} {x:Wi} {q:List UInt8} (K:WsK ws) (hx:ws[n]?=some x) (hk:k=0\/k=1) (hq:(x.e k).ring=some q):WsK (ws.set n (x.take k m q)):=by
 have hl:=(K.ok.ok x (zb hx)).len k hk q hq
 exact K.set hx ((jhT hk).trans (jfG (jbZ hk))) (fun a=>jfF (jbZ hk) (jhS hk hq (by rw [List.length_drop];omega) a)) (by unfold Wi.take;rw [jiw (jbZ hk),jlZ hk]) (by unfold Wi.take;rw [jix (jbZ hk),jma hk];exact id)
theorem WsK.fill {ws:Ws} {n k m:Nat} {x:Wi} {q b:List UInt8} (K:WsK ws) (hx:ws[n]?=some x) (hk:k=0\/k=1) (hq:(x.e (1-k)).ring=some q) (hm:m<=x.cap-q.length):WsK (ws.set n (x.fill k m q b)):=by
 have hl:=(K.ok.ok x (zb hx)).len (1-k) (jbZ hk) q hq
 exact K.set hx ((jhT (jbZ hk)).trans (jfG (jbZ hk))) (fun a=>jfF (jbZ hk) (jhS (jbZ hk) hq (by rw [ze,List.length_take];omega) a)) (by unfold Wi.fill;rw [jiw (jbZ hk),jlZ (jbZ hk)]) (by unfold Wi.fill;rw [jix (jbZ hk),jma (jbZ hk)];exact id)
theorem WsK.doShut {ws:Ws} {n k:Nat} {x:Wi} (K:WsK ws) (hx:ws[n]?=some x) (hk:k=0\/k=1):WsK (ws.set n (x.doShut k)):=by
 have e:x.SubFd (x.doShut k)/\(WiOk x->WiOk (x.doShut k))/\(x.doShut k).waiting=x.waiting/\(x.e0.what=0->(x.doShut k).e0.what=0):=by
  unfold Wi.doShut
  split
  ·exact ⟨Wi.SubFd.refl x,id,rfl,id⟩
  ·have p:x.SubFd (x.put k { x.e k with shut:=true })/\(WiOk x->WiOk (x.put k { x.e k with shut:=true }))/\(x.put k { x.e k with shut:=true }).waiting=x.waiting/\(x.put k { x.e k with shut:=true }).e0.what=x.e0.what:=by
    rcases hk with rfl | rfl
    ·refine ⟨fun j hj=>by (rcases hj with rfl | rfl<;>exact fun h=>⟨h,rfl⟩),fun a=>⟨a.cap0,a.cap1,fun j hj=>?_,fun j hj=>?_,a.out,a.bl,a.wh⟩,rfl,rfl⟩
     ·have:=a.len j hj;rcases hj with rfl | rfl<;>exact this
     ·have:=a.pair j hj;rcases hj with rfl | rfl<;>exact this
    ·refine ⟨fun j hj=>by (rcases hj with rfl | rfl<;>exact fun h=>⟨h,rfl⟩),fun a=>⟨a.cap0,a.cap1,fun j hj=>?_,fun j hj=>?_,a.out,a.bl,a.wh⟩,rfl,rfl⟩
     ·have:=a.len j hj;rcases hj with rfl | rfl<;>exact this
     ·have:=a.pair j hj;rcases hj with rfl | rfl<;>exact this
   exact ⟨p.1.trans (jfG (jbZ hk)),fun a=>jfF (jbZ hk) (p.2.1 a),by rw [jiw (jbZ hk),p.2.2.1],fun h=>by rw [jix (jbZ hk),p.2.2.2,h]⟩
 exact K.set hx e.1 e.2.1 e.2.2.1 e.2.2.2
theorem jha {x:Wi} {k:Nat} (hk:k=0\/k=1):x.SubFd (x.close k)/\(WiOk x->WiOk (x.close k))/\(x.close k).waiting=x.waiting/\(x.e0.what=0->k=1->(x.close k).e0.what=0):=by
 have c1:x.SubFd (x.came (1-k) (!(x.e k).shut) true):=jfG (jbZ hk)
 have c2:WiOk x->WiOk (x.came (1-k) (!(x.e k).shut) true):=jfF (jbZ hk)
 have c3:(x.came (1-k) (!(x.e k).shut) true).waiting=x.waiting:=jiw (jbZ hk)
 have c4:(x.came (1-k) (!(x.e k).shut) true).e0.what=x.e0.what:=jix (jbZ hk)
 unfold Wi.close
 generalize x.came (1-k) (!(x.e k).shut) true=y at c1 c2 c3 c4 ⊢
 have p:y.SubFd (y.put k { y.e k with what:=3 })/\(WiOk y->WiOk (y.put k { y.e k with what:=3 }))/\(y.put k { y.e k with what:=3 }).waiting=y.waiting/\(k=1->(y.put k { y.e k with what:=3 }).e0.what=y.e0.what):=by
  rcases hk with rfl | rfl
  ·refine ⟨fun j hj=>?_,fun a=>⟨a.cap0,a.cap1,fun j hj=>?_,fun j hj=>?_,a.out,a.bl,⟨⟨by show (0:Int)<=3;omega,by show (3:Int)<=3;omega⟩,a.wh.2⟩⟩,rfl,fun e=>by cases e⟩
   ·rcases hj with rfl | rfl
    ·intro h
     have h:(3:Int)=1:=h
     omega
    ·exact fun h=>⟨h,rfl⟩
   ·have:=a.len j hj;rcases hj with rfl | rfl<;>exact this
   ·have:=a.pair j hj;rcases hj with rfl | rfl<;>exact this
  ·refine ⟨fun j hj=>?_,fun a=>⟨a.cap0,a.cap1,fun j hj=>?_,fun j hj=>?_,fun h=>?_,a.bl,⟨a.wh.1,by show (0:Int)<=3;omega,by show (3:Int)<=3;omega⟩⟩,rfl,fun _=>rfl⟩
   ·rcases hj with rfl | rfl
    ·exact fun h=>⟨h,rfl⟩
    ·intro h
     have h:(3:Int)=1:=h
     omega
   ·have:=a.len j hj;rcases hj with rfl | rfl<;>exact this
   ·have:=a.pair j hj;rcases hj with rfl | rfl<;>exact this
   ·have h:(3:Int)=2:=h
    omega
 exact ⟨c1.trans p.1,fun a=>p.2.1 (c2 a),by rw [p.2.2.1,c3],fun h hk=>by rw [p.2.2.2 hk,c4,h]⟩
theorem jkb {vs:Ws} {m:Int} : (jdf vs m).length=vs.length /\ ∀ (i:Nat) (z':Wi),(jdf vs m)[i]?=some z' -> ∃ z,vs[i]?=some z/\z.SubFd z'/\(WiOk z->WiOk z')/\z'.waiting=z.waiting/\(m.toNat≠i->z'=z):=by
 unfold jdf
 split
 ·exact ⟨rfl,fun i z' h=>⟨z',h,Wi.SubFd.refl _,id,rfl,fun _=>rfl⟩⟩
 ·next x hx=>
  refine ⟨by simp,fun i z' h=>?_⟩
  rcases jdB h with ⟨rfl,rfl⟩ | ⟨hne,h⟩
  ·have c:=jha (x:=x) (k:=0) (.inl rfl)
   exact ⟨x,hx,c.1,c.2.1,c.2.2.1,fun h=>absurd rfl h⟩
  ·exact ⟨z',h,Wi.SubFd.refl _,id,rfl,fun _=>rfl⟩
theorem jfO : ∀ (L:List Int) (vs:Ws),(ja7 vs L).length=vs.length /\ ∀ (i:Nat) (z':Wi),(ja7 vs L)[i]?=some z' -> ∃ z,vs[i]?=some z/\z.SubFd z'/\(WiOk z->WiOk z')/\z'.waiting=z.waiting/\((∀ m∈L,m.toNat≠i)->z'=z)
 | [],vs=>⟨rfl,fun i z' h=>⟨z',h,Wi.SubFd.refl _,id,rfl,fun _=>rfl⟩⟩
 | m :: L,vs=>by
  obtain ⟨a1,a2⟩:=jfO L (jdf vs m)
  obtain ⟨b1,b2⟩:=jkb (vs:=vs) (m:=m)
  refine ⟨by rw [ja7,a1,b1],fun i z' h=>?_⟩
  obtain ⟨y,h1,s1,o1,w1,n1⟩:=a2 i z' h
  obtain ⟨z,h2,s2,o2,w2,n2⟩:=b2 i y h1
  refine ⟨z,h2,s2.trans s1,fun a=>o1 (o2 a),by rw [w1,w2],fun hn=>?_⟩
  rw [n1 fun m' hm'=>hn m' (zk _ hm'),n2 (hn m (zi ..))]
theorem WsK.close {ws:Ws} {n k:Nat} {x:Wi} (K:WsK ws) (hx:ws[n]?=some x) (hk:k=0\/k=1) (h1:(x.e k).what=1):WsK (noWait (ja7 (ws.set n (x.close k)) x.waiting) n):=by
 obtain ⟨a1,a2⟩:=jfO x.waiting (ws.set n (x.close k))
 have c:=jha (x:=x) hk
 have hn:=w_lt hx
 obtain ⟨u,hu⟩:=jn1 (ws:=ja7 (ws.set n (x.close k)) x.waiting) (n:=n) (by rw [a1];simpa using hn)
 have e:noWait (ja7 (ws.set n (x.close k)) x.waiting) n=(ja7 (ws.set n (x.close k)) x.waiting).set n { u with waiting:=[] } := by
  unfold noWait;rw [hu]
 rw [e]
 refine K.mild (by rw [List.length_set,a1,List.length_set]) fun i z' hz=>?_
 have back : ∀ (i:Nat) (z:Wi),(ws.set n (x.close k))[i]?=some z -> ∃ y,ws[i]?=some y/\y.SubFd z/\(WiOk y->WiOk z)/\z.waiting=y.waiting/\(y.e0.what=0->z.e0.what=0):=by
  intro i z hz
  rcases jdB hz with ⟨rfl,rfl⟩ | ⟨_,hz⟩
  ·refine ⟨x,hx,c.1,c.2.1,c.2.2.1,fun h=>c.2.2.2 h ?_⟩
   rcases hk with rfl | rfl
   ·have h1:x.e0.what=1:=h1
    omega
   ·rfl
  ·exact ⟨z,hz,Wi.SubFd.refl _,id,rfl,id⟩
 rcases jdB hz with ⟨rfl,rfl⟩ | ⟨hne,hz⟩
 ·obtain ⟨z,z1,z2,z3,z4,z5⟩:=a2 _ _ hu
  obtain ⟨y,y1,y2,y3,y4,y5⟩:=back _ _ z1
  have yo:=z3 (y3 (K.ok.ok y (zb y1)))
  refine ⟨y,y1,fun j hj h=>(y2.trans z2) j hj (by rcases hj with rfl | rfl<;>exact h) |>.imp id fun e=>by (rcases hj with rfl | rfl<;>exact e),⟨yo.cap0,yo.cap1,yo.len,yo.pair,yo.out,yo.bl,yo.wh⟩,⟨y.waiting.length,by simp⟩,?_⟩
  rintro h0 ⟨j,v,hv,hm⟩
  show u.e0.what=0
  rw [z5 ?_]
  ·exact y5 h0
  rintro m hm2 rfl
  rcases jdB hv with ⟨rfl,rfl⟩ | ⟨hj,hv⟩
  ·simp at hm
  ·obtain ⟨z',z1',_,_,z4',_⟩:=a2 _ _ hv
   rcases jdB z1' with ⟨rfl,_⟩ | ⟨_,z1'⟩
   ·exact hj rfl
   rw [z4'] at hm
   have m0:0<=m:=by obtain ⟨y,y0,_⟩:=(K.ok.wait x (zb hx)).2 m hm2;exact y0
   rw [Int.toNat_of_nonneg m0] at hm
   obtain ⟨p,hp⟩:=List.mem_iff_getElem?.1 hm
   obtain ⟨q,hq⟩:=List.mem_iff_getElem?.1 hm2
   exact hj (K.one j _ z' x p q m z1' hx hp hq).1
 ·obtain ⟨z,z1,z2,z3,z4,z5⟩:=a2 _ _ hz
  obtain ⟨y,y1,y2,y3,y4,y5⟩:=back _ _ z1
  refine ⟨y,y1,y2.trans z2,z3 (y3 (K.ok.ok y (zb y1))),⟨0,by rw [z4,y4];rfl⟩,?_⟩
  rintro h0 ⟨j,v,hv,hm⟩
  rw [z5 ?_]
  ·exact y5 h0
  rintro m hm2 rfl
  rcases jdB hv with ⟨rfl,rfl⟩ | ⟨hj,hv⟩
  ·simp at hm
  ·obtain ⟨z',z1',_,_,z4',_⟩:=a2 _ _ hv
   rcases jdB z1' with ⟨rfl,_⟩ | ⟨_,z1'⟩
   ·exact hj rfl
   rw [z4'] at hm
   have m0:0<=m:=by obtain ⟨y,y0,_⟩:=(K.ok.wait x (zb hx)).2 m hm2;exact y0
   rw [Int.toNat_of_nonneg m0] at hm
   obtain ⟨p,hp⟩:=List.mem_iff_getElem?.1 hm
   obtain ⟨q,hq⟩:=List.mem_iff_getElem?.1 hm2
   exact hj (K.one j n z' x p q m z1' hx hp hq).1
theorem atS_at {ws:Ws} {fd:Int} {n k:Nat} (h:atS ws fd=some (n,k)):AtW ws n k fd:=by
 unfold atS at h
 split at h
 ·next hx=>
  have:=hx.choose_spec
  rw [Option.some.inj h] at this
  exact this
 ·cases h
theorem jmC {ws:Ws} {fd:Int} (h:atS ws fd=none) : ∀ n k,¬ AtW ws n k fd:=by
 intro n k a
 unfold atS at h
 rw [dif_pos ⟨(n,k),a⟩] at h
 cases h
theorem jbm {α : Type} {P : α -> Prop} {ws:Ws} {fd:Int} {no : α} {f:Nat->Nat->Wi -> α} (hno:P no) (h : ∀ n k x,ws[n]?=some x->(k=0\/k=1)->(x.e k).what=1->P (f n k x)):P (jcb ws fd no f):=by
 unfold jcb
 cases e:atS ws fd with
 | none=>exact hno
 | some p=>
  obtain ⟨n,k⟩:=p
  obtain ⟨x,hx,hk,h1,_⟩:=atS_at e
  simp only [hx]
  exact h n k x hx hk h1
theorem jbn {α : Type} {P : α -> Prop} {ws:Ws} {n:Int} {no : α} {f:Nat->Wi -> α} (hno:P no) (h : ∀ n x,ws[n]?=some x->x.e1.what=2->P (f n x)):P (jcA ws n no f):=by
 unfold jcA
 split
 ·split
  ·exact hno
  ·next x hx=>
   split
   ·next h2=>exact h _ _ hx h2
   ·exact hno
 ·exact hno
theorem readS_ok {ws:Ws} {fd many:Int} (K:WsK ws):WsK (jbV ws fd many).2:=by
 unfold jbV
 refine jbm (P:=fun r:_ × Ws=>WsK r.2) K fun n k x hx hk h1=>?_
 split
 ·exact K
 ·next q hq=>
  repeat' split
  all_goals first | exact K | exact K.take hx hk hq
theorem writeS_ok {ws:Ws} {fd:Int} {b:List UInt8} (K:WsK ws):WsK (jb5 ws fd b).2:=by
 unfold jb5
 refine jbm (P:=fun r:_ × Ws=>WsK r.2) K fun n k x hx hk h1=>?_
 split
 ·exact K
 split
 ·exact K
 split
 ·exact K
 split
 ·exact K
 split
 ·exact K
 ·next q hq=>
  split
  ·exact K.fill hx hk hq (Nat.zero_le _)
  ·exact K.fill hx hk hq (Nat.min_le_right _ _)
theorem shutS_ok {ws:Ws} {fd:Int} (K:WsK ws):WsK (jdo ws fd).2:=by
 unfold jdo
 refine jbm (P:=fun r:_ × Ws=>WsK r.2) K fun n k x hx hk h1=>?_
 split
 ·exact K
 ·exact K.doShut hx hk
theorem closeS_ok {ws:Ws} {fd:Int} (K:WsK ws):WsK (jbY ws fd).2:=by
 unfold jbY
 exact jbm (P:=fun r:_ × Ws=>WsK r.2) K fun n k x hx hk h1=>K.close hx hk h1
theorem putS_ok {ws:Ws} {n:Int} {b:List UInt8} (K:WsK ws):WsK (putS ws n b).2:=by
 unfold putS
 refine jbn (P:=fun r:_ × Ws=>WsK r.2) K fun n x hx h2=>?_
 split
 ·exact K
 split
 ·exact K
 split
 ·exact K
 ·next q hq=>exact K.fill hx (.inr rfl) hq (Nat.min_le_right _ _)
theorem takeS_ok {ws:Ws} {n many:Int} (K:WsK ws):WsK (jc4 ws n many).2:=by
 unfold jc4
 refine jbn (P:=fun r:_ × Ws=>WsK r.2) K fun n x hx h2=>?_
 split
 ·exact K
 split
 ·exact K
 split
 ·exact K
 ·next q hq=>exact K.take hx (.inr rfl) hq
theorem jiV {ws:Ws} {n:Int} (K:WsK ws):WsK (jaG ws n).2 :=
 jbn (P:=fun r:_ × Ws=>WsK r.2) K fun _ _ hx _=>K.doShut hx (.inr rfl)
theorem jij {ws:Ws} {n:Int} (K:WsK ws):WsK (ja5 ws n).2 :=
 jbn (P:=fun r:_ × Ws=>WsK r.2) K fun _ _ hx _=>
  have c:=jha (k:=1) (.inr rfl)
  K.set hx c.1 c.2.1 c.2.2.1 fun h=>c.2.2.2 h rfl
theorem resetS_ok {ws:Ws} {n:Int} (K:WsK ws):WsK (jcd ws n).2:=by
 unfold jcd
 refine jbn (P:=fun r:_ × Ws=>WsK r.2) K fun n x hx h2=>?_
 have o:=K.ok.ok x (zb hx)
 obtain ⟨q0,q1⟩:=o.out h2
 obtain ⟨a,ha⟩ : ∃ a,x.e0.ring=some a:=Option.ne_none_iff_exists'.1 q0
 obtain ⟨b,hb⟩ : ∃ b,x.e1.ring=some b:=Option.ne_none_iff_exists'.1 q1
 have e:x.SubFd x.doReset/\(WiOk x->WiOk x.doReset)/\x.doReset.waiting=x.waiting/\x.doReset.e0.what=x.e0.what:=by
  unfold Wi.doReset
  split
  ·exact ⟨Wi.SubFd.refl x,id,rfl,rfl⟩
  ·have z0:(0:Nat)=0\/(0:Nat)=1 := .inl rfl
   have z1:(1:Nat)=0\/(1:Nat)=1 := .inr rfl
   have p0:x.SubFd { x with reset:=true } /\ (WiOk x->WiOk { x with reset:=true }):=by
    refine ⟨fun j hj=>by (rcases hj with rfl | rfl<;>exact fun h=>⟨h,rfl⟩),fun a=>⟨a.cap0,a.cap1,fun j hj=>?_,fun j hj=>?_,a.out,a.bl,a.wh⟩⟩
    ·have:=a.len j hj;rcases hj with rfl | rfl<;>exact this
    ·have:=a.pair j hj;rcases hj with rfl | rfl<;>exact this
   refine ⟨(((p0.1.trans (jhT z0)).trans (jfG z0)).trans (jhT z1)).trans (jfG z1),fun o=>jfF z1 (jhS (q:=b) z1 hb (Nat.zero_le _) (jfF z0 (jhS (q:=a) z0 ha (Nat.zero_le _) (p0.2 o)))),rfl,rfl⟩
 exact K.set hx e.1 e.2.1 e.2.2.1 fun h=>by rw [e.2.2.2,h]
theorem jd2 {ws:Ws} {x:Wi} {n k:Nat} {fd:Int} (h:AtW (ws++[x]) n k fd):AtW ws n k fd\/(n=ws.length/\(k=0\/k=1)/\(x.e k).what=1/\(x.e k).fd=fd):=by
 obtain ⟨y,hy,hk,h1,h2⟩:=h
 rcases zw n ws.length with hl | hl
 ·rw [zd,if_pos hl] at hy
  exact .inl ⟨y,hy,hk,h1,h2⟩
 ·rw [zd,if_neg om] at hy
  have:n-ws.length=0:=by
   rcases Nat.eq_zero_or_pos (n-ws.length) with e | e
   ·exact e
   ·rw [zc (show 1<=_ from e)] at hy;cases hy
  rw [this] at hy
  cases hy
  exact .inr ⟨by omega,hk,h1,h2⟩
theorem jig {ws:Ws} {x y:Wi} {n:Nat} (h:(ws++[x])[n]?=some y):ws[n]?=some y\/(n=ws.length/\y=x):=by
 rcases zw n ws.length with hl | hl
 ·rw [zd,if_pos hl] at h
  exact .inl h
 ·rw [zd,if_neg om] at h
  have:n-ws.length=0:=by
   rcases Nat.eq_zero_or_pos (n-ws.length) with e | e
   ·exact e
   ·rw [zc (show 1<=_ from e)] at h;cases h
  rw [this] at h
  cases h
  exact .inr ⟨by omega,rfl⟩
theorem jeh {ws:Ws} {x y:Wi} {n:Nat} (h:ws[n]?=some y):(ws++[x])[n]?=some y:=by rw [zd,if_pos (w_lt h),h]
theorem push_uniq {ws:Ws} {x:Wi} (u:Uniq ws) (hf : ∀ k,k=0\/k=1->(x.e k).what=1 -> ∀ n j,¬ AtW ws n j (x.e k).fd) (h2:x.e0.what=1->x.e1.what=1->x.e0.fd≠x.e1.fd):Uniq (ws++[x]):=by
 intro n k n' k' fd a b
 rcases jd2 a with a | ⟨rfl,hk,w1,f1⟩
 ·rcases jd2 b with b | ⟨rfl,hk',w1,f1⟩
  ·exact u _ _ _ _ _ a b
  ·exact absurd (by rw [f1];exact a) (hf k' hk' w1 n k)
 ·rcases jd2 b with b | ⟨rfl,hk',w2,f2⟩
  ·exact absurd (by rw [f1];exact b) (hf k hk w1 n' k')
  ·refine ⟨rfl,?_⟩
   rcases hk with rfl | rfl<;>rcases hk' with rfl | rfl
   ·rfl
   ·exact absurd (f1.trans f2.symm) (h2 w1 w2)
   ·exact absurd (f2.trans f1.symm) (h2 w2 w1)
   ·rfl
theorem WsK.push {ws:Ws} {x:Wi} (K:WsK ws) (ox:WiOk x) (hw:x.waiting=[]) (hl:ws.length<1000) (hf : ∀ k,k=0\/k=1->(x.e k).what=1 -> ∀ n j,¬ AtW ws n j (x.e k).fd) (h2:x.e0.what=1->x.e1.what=1->x.e0.fd≠x.e1.fd):WsK (ws++[x]):=by
 refine ⟨⟨push_uniq K.ok.uniq hf h2,fun y hy=>?_,by rw [ze];show ws.length+1<=1000;omega,fun y hy=>?_⟩,?_⟩
 ·rcases List.mem_append.1 hy with h | h
  ·exact K.ok.ok y h
  ·obtain rfl:y=x:=by simpa using h
   exact ox
 ·rcases List.mem_append.1 hy with h | h
  ·obtain ⟨p1,p2⟩:=K.ok.wait y h
   refine ⟨p1,fun m hm=>?_⟩
   obtain ⟨z,z0,z1,z2⟩:=p2 m hm
   exact ⟨z,z0,jeh z1,z2⟩
  ·obtain rfl:y=x:=by simpa using h
   rw [hw];simp
 ·intro i j a b p q m ha hb hp hq
  rcases jig ha with ha | ⟨rfl,rfl⟩
  ·rcases jig hb with hb | ⟨rfl,rfl⟩
   ·exact K.one i j a b p q m ha hb hp hq
   ·rw [hw] at hq;simp at hq
  ·rw [hw] at hp;simp at hp
theorem jdR {ws:Ws} {n:Nat} {f:Int} (h:f∈jau ws n) : ∃ i:Nat,f=i/\i<n/\atS ws f=none:=by
 unfold jau at h
 obtain ⟨i,hi,rfl⟩:=List.mem_map.1 h
 obtain ⟨p1,p2⟩:=List.mem_filter.1 hi
 refine ⟨i,rfl,by simpa using p1,?_⟩
 simpa using p2
theorem jgK (ws:Ws) (n:Nat):(jau ws n).Nodup:=by
 unfold jau
 exact (List.Pairwise.filter _ List.nodup_range).map _ fun a b (h:a≠b)=>by show (a:Int)≠(b:Int);omega
theorem jdv {ws:Ws} {kind n:Int} (hk:kind=0\/kind=1\/kind=2\/kind=3) (K:WsK ws):WsK (jah ws kind n).2:=by
 unfold jah
 split
 ·exact K
 next hb=>
 split
 ·exact K
 next f0 fs hF=>
 split
 ·exact K
 next hbad=>
 have hn:1<=n/\n<=65536:=by omega
 have hnt:1<=n.toNat/\n.toNat<=65536:=by omega
 obtain ⟨i0,e0,_,a0⟩:=jdR (ws:=ws) (n:=96) (f:=f0) (by rw [hF];simp)
 have n0:=jmC a0
 have nd:=jgK ws 96
 rw [hF] at nd
 have h1:kind<2 -> ∃ f1,fs.headD 0=f1/\f0≠f1 /\ ∀ n k,¬ AtW ws n k f1:=by
  intro h
  cases fs with
  | nil=>exact absurd (.inl ⟨rfl,h⟩) hbad
  | cons f1 r=>
   obtain ⟨i1,e1,_,a1⟩:=jdR (ws:=ws) (n:=96) (f:=f1) (by rw [hF];simp)
   refine ⟨f1,rfl,fun e=>?_,jmC a1⟩
   subst e
   exact absurd nd Zd
 have hlen:ws.length<1000:=by omega
 have two1 : ∀ {x:Wi},x.e0.fd=f0->(x.e1.what=1->x.e1.fd=fs.headD 0/\kind<2) -> ∀ k,k=0\/k=1->(x.e k).what=1 -> ∀ n j,¬ AtW ws n j (x.e k).fd:=by
  intro x p0 p1 k hk h
  rcases hk with rfl | rfl
  ·show ∀ n j,¬ AtW ws n j x.e0.fd
   rw [p0];exact n0
  ·obtain ⟨q1,q2⟩:=p1 h
   obtain ⟨f1,r1,_,r2⟩:=h1 q2
   show ∀ n j,¬ AtW ws n j x.e1.fd
   rw [q1,r1];exact r2
 have mk : ∀ (x:Wi),(∀ k,k=0\/k=1 -> ∀ q,(x.e k).ring=some q->q=[])->x.cap=n.toNat->(∀ k,k=0\/k=1->((x.e k).writes=true↔(x.e (1-k)).ring≠none))->(x.e1.what=2->x.e0.ring≠none/\x.e1.ring≠none)->0<=x.backlog/\x.backlog<=64->WhV x->WiOk x:=by
  intro x p1 p2 p3 p4 p5 p6
  exact ⟨by rw [p2];exact hnt.1,by rw [p2];exact hnt.2,fun k hk q hq=>by rw [p1 k hk q hq];exact Nat.zero_le _,p3,p4,p5,p6⟩
 rcases hk with rfl | rfl | rfl | rfl
 ·have e:newW 0 n f0 (fs.headD 0)=⟨⟨1,f0,some [],false,false,0,0⟩,⟨1,fs.headD 0,none,true,false,0,0⟩,n.toNat,false,0,[]⟩:=rfl
  refine K.push (mk _ (fun k hk q hq=>?_) rfl (fun k hk=>?_) (fun h=>?_) ?_ ⟨⟨of_decide_eq_true rfl,of_decide_eq_true rfl⟩,of_decide_eq_true rfl,of_decide_eq_true rfl⟩) rfl hlen (two1 rfl fun _=>⟨rfl,by omega⟩) fun _ _=>?_
  ·rcases hk with rfl | rfl
   ·have:some []=some q:=hq
    cases this;rfl
   ·have:none=some q:=hq
    cases this
  ·rcases hk with rfl | rfl
   ·show (false=true↔(none:Option (List UInt8))≠none);simp
   ·show (true=true↔some ([]:List UInt8)≠none);simp
  ·have h:(1:Int)=2:=h
   omega
  ·show (0:Int)<=0/\(0:Int)<=64;omega
  ·obtain ⟨f1,r1,r0,_⟩:=h1 om
   show f0≠fs.headD 0
   rw [r1];exact r0
 ·refine K.push (mk _ (fun k hk q hq=>?_) rfl (fun k hk=>?_) (fun h=>?_) ?_ ⟨⟨of_decide_eq_true rfl,of_decide_eq_true rfl⟩,of_decide_eq_true rfl,of_decide_eq_true rfl⟩) rfl hlen (two1 rfl fun _=>⟨rfl,by omega⟩) fun _ _=>?_
  ·rcases hk with rfl | rfl
   ·have:some []=some q:=hq
    cases this;rfl
   ·have:some []=some q:=hq
    cases this;rfl
  ·rcases hk with rfl | rfl
   ·show (true=true↔some ([]:List UInt8)≠none);simp
   ·show (true=true↔some ([]:List UInt8)≠none);simp
  ·have h:(1:Int)=2:=h
   omega
  ·show (0:Int)<=0/\(0:Int)<=64;omega
  ·obtain ⟨f1,r1,r0,_⟩:=h1 om
   show f0≠fs.headD 0
   rw [r1];exact r0
 ·refine K.push (mk _ (fun k hk q hq=>?_) rfl (fun k hk=>?_) (fun h=>?_) ?_ ⟨⟨of_decide_eq_true rfl,of_decide_eq_true rfl⟩,of_decide_eq_true rfl,of_decide_eq_true rfl⟩) rfl hlen (two1 rfl fun h=>?_) fun _ h=>?_
  ·rcases hk with rfl | rfl
   ·have:some []=some q:=hq
    cases this;rfl
   ·have:some []=some q:=hq
    cases this;rfl
  ·rcases hk with rfl | rfl
   ·show (true=true↔some ([]:List UInt8)≠none);simp
   ·show (true=true↔some ([]:List UInt8)≠none);simp
  ·exact ⟨by show some []≠none;simp,by show some []≠none;simp⟩
  ·show (0:Int)<=0/\(0:Int)<=64;omega
  ·have h:(2:Int)=1:=h
   omega
  ·have h:(2:Int)=1:=h
   omega
 ·refine K.push (mk _ (fun k hk q hq=>?_) rfl (fun k hk=>?_) (fun h=>?_) ?_ ⟨⟨of_decide_eq_true rfl,of_decide_eq_true rfl⟩,of_decide_eq_true rfl,of_decide_eq_true rfl⟩) rfl hlen (two1 rfl fun h=>?_) fun _ h=>?_
  ·rcases hk with rfl | rfl
   ·have:none=some q:=hq
    cases this
   ·have:none=some q:=hq
    cases this
  ·rcases hk with rfl | rfl
   ·show (false=true↔(none:Option (List UInt8))≠none);simp
   ·show (false=true↔(none:Option (List UInt8))≠none);simp
  ·have h:(0:Int)=2:=h
   omega
  ·show 0<=n/\n<=64;omega
  ·have h:(0:Int)=1:=h
   omega
  ·have h:(0:Int)=1:=h
   omega
theorem jfn {ws:Ws} {m n k:Nat} {f fd:Int} {y:Wi} (hy:ws[m]?=some y) (h:AtW (ws.set m (y.put 0 { y.e 0 with what:=1,fd:=f })) n k fd):(n=m/\k=0/\fd=f)\/(AtW ws n k fd/\(n=m->k=1)):=by
 obtain ⟨x,hx,hk,h1,h2⟩:=h
 rcases jdB hx with ⟨rfl,rfl⟩ | ⟨hne,hx⟩
 ·rcases hk with rfl | rfl
  ·exact .inl ⟨rfl,rfl,h2.symm⟩
  ·exact .inr ⟨⟨y,hy,.inr rfl,h1,h2⟩,fun _=>rfl⟩
 ·exact .inr ⟨⟨x,hx,hk,h1,h2⟩,fun e=>absurd e hne⟩
theorem WsK.seat {ws:Ws} {m:Nat} {f:Int} {y:Wi} (K:WsK ws) (hy:ws[m]?=some y) (hf : ∀ n k,¬ AtW ws n k f) (hw : ∀ (j:Nat) (u:Wi),ws[j]?=some u->(m:Int) ∉ u.waiting):WsK (ws.set m (y.put 0 { y.e 0 with what:=1,fd:=f })):=by
 have key : ∀ (i:Nat) (z':Wi),(ws.set m (y.put 0 { y.e 0 with what:=1,fd:=f }))[i]?=some z' -> ∃ z,ws[i]?=some z/\z'.waiting=z.waiting/\WiOk z'/\(i≠m->z'=z):=by
  intro i z' hz
  rcases jdB hz with ⟨rfl,rfl⟩ | ⟨hne,hz⟩
  ·have a:=K.ok.ok y (zb hy)
   refine ⟨y,hy,rfl,⟨a.cap0,a.cap1,fun j hj=>?_,fun j hj=>?_,a.out,a.bl,⟨by show (0:Int)<=1;omega,by show (1:Int)<=3;omega⟩,a.wh.2⟩,fun h=>absurd rfl h⟩
   ·have:=a.len j hj;rcases hj with rfl | rfl<;>exact this
   ·have:=a.pair j hj;rcases hj with rfl | rfl<;>exact this
  ·exact ⟨z',hz,rfl,K.ok.ok z' (zb hz),fun _=>rfl⟩
 refine ⟨⟨?_,fun x hx=>?_,by rw [List.length_set];exact K.ok.len,fun x hx=>?_⟩,?_⟩
 ·intro n k n' k' fd a b
  rcases jfn hy a with ⟨h1,h2,h3⟩ | ⟨a2,_⟩
  ·rcases jfn hy b with ⟨h4,h5,_⟩ | ⟨b2,_⟩
   ·exact ⟨h1.trans h4.symm,h2.trans h5.symm⟩
   ·rw [h3] at b2;exact absurd b2 (hf _ _)
  ·rcases jfn hy b with ⟨_,_,h3⟩ | ⟨b2,_⟩
   ·rw [h3] at a2;exact absurd a2 (hf _ _)
   ·exact K.ok.uniq _ _ _ _ _ a2 b2
 ·obtain ⟨i,hi⟩:=List.mem_iff_getElem?.1 hx
  obtain ⟨_,_,_,h,_⟩:=key i x hi
  exact h
 ·obtain ⟨i,hi⟩:=List.mem_iff_getElem?.1 hx
  obtain ⟨z,z1,z2,_,_⟩:=key i x hi
  rw [z2]
  obtain ⟨p1,p2⟩:=K.ok.wait z (zb z1)
  refine ⟨p1,fun q hq=>?_⟩
  obtain ⟨u,u0,u1,u2⟩:=p2 q hq
  have hne:m≠q.toNat:=by
   rintro rfl
   refine hw i z z1 ?_
   rw [Int.toNat_of_nonneg u0];exact hq
  exact ⟨u,u0,by rw [zh,if_neg hne,u1],u2⟩
 ·intro i j a b p q v ha hb hp hq
  obtain ⟨a',a1,a2,_⟩:=key i a ha
  obtain ⟨b',b1,b2,_⟩:=key j b hb
  rw [a2] at hp
  rw [b2] at hq
  exact K.one i j a' b' p q v a1 b1 hp hq
theorem jgo {ws:Ws} {n m k:Nat} {fd:Int} {x:Wi} {wt:List Int} (hx:ws[n]?=some x):AtW (ws.set n { x with waiting:=wt }) m k fd↔AtW ws m k fd:=by
 constructor
 ·rintro ⟨y,hy,hk,h1,h2⟩
  rcases jdB hy with ⟨rfl,rfl⟩ | ⟨_,hy⟩
  ·exact ⟨x,hx,hk,by rcases hk with rfl | rfl<;>exact h1,by rcases hk with rfl | rfl<;>exact h2⟩
  ·exact ⟨y,hy,hk,h1,h2⟩
 ·rintro ⟨y,hy,hk,h1,h2⟩
  by_cases e:m=n
  ·subst e
   rw [hx] at hy;cases hy
   exact ⟨_,by rw [zh,if_pos rfl,if_pos (w_lt hx)],hk,by rcases hk with rfl | rfl<;>exact h1,by rcases hk with rfl | rfl<;>exact h2⟩
  ·exact ⟨y,by rw [zh,if_neg (fun h=>e h.symm),hy],hk,h1,h2⟩
theorem jhJ {ws:Ws} {fd:Int} (K:WsK ws):WsK (jax ws fd).2:=by
 unfold jax
 refine jbm (P:=fun r:_ × Ws=>WsK r.2) K fun n k x hx hk h1=>?_
 split
 ·exact K
 split
 ·exact K
 next m rest hw=>
 split
 ·exact K
 next f fs hF=>
 split
 ·exact K
 next y hy=>
 have e:({ x with waiting:=rest } : Wi) = { x with waiting:=x.waiting.drop 1 } := by rw [hw];rfl
 have K1:=K.set_wait (c:=1) hx
 rw [<- e] at K1
 obtain ⟨i,_,_,hf⟩:=jdR (ws:=ws) (n:=96) (f:=f) (by rw [hF];simp)
 have nf:=jmC hf
 refine K1.seat hy (fun a b h=>nf a b ((jgo hx).1 h)) fun j u hu hm=>?_
 have m0:0<=m:=by
  obtain ⟨z,z0,_⟩:=(K.ok.wait x (zb hx)).2 m (by rw [hw];simp)
  exact z0
 rw [Int.toNat_of_nonneg m0] at hm
 obtain ⟨q,hq⟩:=List.mem_iff_getElem?.1 hm
 rcases jdB hu with ⟨rfl,rfl⟩ | ⟨hne,hu⟩
 ·have:=(K.one j j x x 0 (q+1) m hx hx (by rw [hw];rfl) (by rw [hw];exact hq)).2
  omega
 ·exact hne (K.one j n u x q 0 m hu hx hq (by rw [hw];rfl)).1
theorem WsK.waits {ws:Ws} {n:Nat} {x y y2:Wi} {m:Int} (K:WsK ws) (hx:ws[n]?=some x) (hs:x.SubFd y) (hok:WiOk y) (hw:y.waiting=x.waiting++[m]) (h64:x.waiting.length<64) (h0:x.e0.what=0->y.e0.what=0)
  (m0:0<=m) (hm:ws[m.toNat]?=some y2) (hm2:y2.e0.what=0) (hno : ∀ (j:Nat) (u:Wi),ws[j]?=some u->m ∉ u.waiting):WsK (ws.set n y):=by
 have old : ∀ (p:Nat) (v:Int),y.waiting[p]?=some v->(x.waiting[p]?=some v)\/(v=m/\p=x.waiting.length):=by
  intro p v h
  rw [hw] at h
  rcases zw p x.waiting.length with hl | hl
  ·rw [zd,if_pos hl] at h;exact .inl h
  ·rw [zd,if_neg om] at h
   have:p-x.waiting.length=0:=by
    rcases Nat.eq_zero_or_pos (p-x.waiting.length) with e | e
    ·exact e
    ·rw [zc (show 1<=_ from e)] at h;cases h
   rw [this] at h;cases h
   exact .inr ⟨rfl,by omega⟩
 have tgt : ∀ (v:Int) (u:Wi),0<=v->ws[v.toNat]?=some u->u.e0.what=0 -> ∃ u':Wi,0<=v/\(ws.set n y)[v.toNat]?=some u'/\u'.e0.what=0:=by
  intro v u v0 hu hu0
  by_cases e:n=v.toNat
  ·rw [<- e,hx] at hu;cases hu
   exact ⟨y,v0,by rw [zh,if_pos e,if_pos (w_lt hx)],h0 hu0⟩
  ·exact ⟨u,v0,by rw [zh,if_neg e,hu],hu0⟩
 refine ⟨⟨?_,fun z hz=>?_,by rw [List.length_set];exact K.ok.len,fun z hz=>?_⟩,?_⟩
 ·have sub : ∀ i k fd,AtW (ws.set n y) i k fd->AtW ws i k fd:=by
   rintro i k fd ⟨z,hz,hk,h1,h2⟩
   rcases jdB hz with ⟨rfl,rfl⟩ | ⟨_,hz⟩
   ·exact ⟨x,hx,hk,(hs k hk h1).1,by rw [<- (hs k hk h1).2,h2]⟩
   ·exact ⟨z,hz,hk,h1,h2⟩
  exact fun a k b k' fd p q=>K.ok.uniq a k b k' fd (sub _ _ _ p) (sub _ _ _ q)
 ·rcases List.mem_or_eq_of_mem_set hz with h | rfl
  ·exact K.ok.ok z h
  ·exact hok
 ·rcases List.mem_or_eq_of_mem_set hz with h | rfl
  ·obtain ⟨p1,p2⟩:=K.ok.wait z h
   refine ⟨p1,fun v hv=>?_⟩
   obtain ⟨u,u0,u1,u2⟩:=p2 v hv
   exact tgt v u u0 u1 u2
  ·obtain ⟨p1,p2⟩:=K.ok.wait x (zb hx)
   rw [hw]
   refine ⟨by rw [ze];show _+1<=64;omega,fun v hv=>?_⟩
   rcases List.mem_append.1 hv with h | h
   ·obtain ⟨u,u0,u1,u2⟩:=p2 v h
    exact tgt v u u0 u1 u2
   ·obtain rfl:v=m:=by simpa using h
    exact tgt v y2 m0 hm hm2
 ·intro i j a b p q v ha hb hp hq
  rcases jdB ha with ⟨rfl,rfl⟩ | ⟨hi,ha2⟩
  ·rcases jdB hb with ⟨rfl,rfl⟩ | ⟨hj,hb2⟩
   ·refine ⟨rfl,?_⟩
    rcases old p v hp with h1 | ⟨rfl,h1⟩
    ·rcases old q v hq with h2 | ⟨rfl,h2⟩
     ·exact (K.one j j x x p q v hx hx h1 h2).2
     ·exact absurd (zb h1) (hno j x hx)
    ·rcases old q v hq with h2 | ⟨_,h2⟩
     ·exact absurd (zb h2) (hno j x hx)
     ·omega
   ·rcases old p v hp with h1 | ⟨rfl,h1⟩
    ·exact K.one _ j x b p q v hx hb2 h1 hq
    ·exact absurd (zb hq) (hno j b hb2)
  ·rcases jdB hb with ⟨rfl,rfl⟩ | ⟨hj,hb2⟩
   ·rcases old q v hq with h1 | ⟨rfl,h1⟩
    ·exact K.one i _ a x p q v ha2 hx hp h1
    ·exact absurd (zb hp) (hno i a ha2)
   ·exact K.one i j a b p q v ha2 hb2 hp hq
theorem jjQ {many:Int} (h1:1<=many) (h2:many<=65536):WiOk (jbc many):=by
 refine ⟨by show 1<=many.toNat;omega,by show many.toNat<=65536;omega,fun k hk q hq=>?_,fun k hk=>?_,fun _=>⟨by show some []≠none;simp,by show some []≠none;simp⟩,by show (0:Int)<=0/\(0:Int)<=64;omega,⟨of_decide_eq_true rfl,of_decide_eq_true rfl⟩,of_decide_eq_true rfl,of_decide_eq_true rfl⟩
 ·rcases hk with rfl | rfl
  ·have:some []=some q:=hq
   cases this;exact Nat.zero_le _
  ·have:some []=some q:=hq
   cases this;exact Nat.zero_le _
 ·rcases hk with rfl | rfl
  ·show (true=true↔some ([]:List UInt8)≠none);simp
  ·show (true=true↔some ([]:List UInt8)≠none);simp
theorem jgY {ws:Ws} {n many:Int} (K:WsK ws):WsK (jar ws n many).2:=by
 unfold jar
 split
 ·exact K
 split
 ·exact K
 next x hx=>
 split
 ·exact K
 split
 ·exact K
 next hm=>
 split
 ·exact K
 next hbl=>
 split
 ·exact K
 next hlen=>
 have a:=K.ok.ok x (zb hx)
 have K2:WsK (ws++[jbc many]):=by
  refine K.push (jjQ om om) rfl om (fun k hk h=>?_) fun h=>?_
  ·rcases hk with rfl | rfl
   ·have h:(0:Int)=1:=h
    omega
   ·have h:(2:Int)=1:=h
    omega
  ·have h:(0:Int)=1:=h
   omega
 have hn:=w_lt hx
 have hmn:(ws++[jbc many])[((ws.length:Nat):Int).toNat]?=some (jbc many):=by simp
 have K3:=K2.waits (n:=n.toNat) (x:=x) (y := { x with waiting:=x.waiting++[(ws.length:Int)],e0 := { x.e0 with inn:=upu x.e0.inn } }) (y2:=jbc many) (m:=(ws.length:Int)) (jeh hx)
  (fun j hj=>by rcases hj with rfl | rfl<;>exact fun h=>⟨h,rfl⟩) ⟨a.cap0,a.cap1,fun j hj=>by have:=a.len j hj;(rcases hj with rfl | rfl<;>exact this),fun j hj=>by have:=a.pair j hj;(rcases hj with rfl | rfl<;>exact this),a.out,a.bl,a.wh⟩ rfl
  (by have:=a.bl;omega) (fun h=>h) om hmn rfl fun j u hu hmem=>by
   rcases jig hu with hu | ⟨_,rfl⟩
   ·obtain ⟨z,z0,z1,_⟩:=(K.ok.wait u (zb hu)).2 _ hmem
    have:=w_lt z1
    simp at this
   ·have:(ws.length:Int)∈([]:List Int):=hmem
    simp at this
 rw [List.set_append_left _ _ hn] at K3
 exact K3
def Wi.RK (x y:Wi):Prop := ∀ k,k=0\/k=1->(x.e k).ring≠none->(y.e k).ring≠none
theorem Wi.RK.refl (x:Wi):x.RK x:=fun _ _ h=>h
theorem Wi.RK.trans {x y z:Wi} (a:x.RK y) (b:y.RK z):x.RK z:=fun k hk h=>b k hk (a k hk h)
def WsR (ws ws':Ws):Prop := ∀ (n:Nat) (x:Wi),ws[n]?=some x -> ∃ y,ws'[n]?=some y/\x.RK y
theorem WsR.refl (ws:Ws):WsR ws ws:=fun _ x h=>⟨x,h,Wi.RK.refl x⟩
theorem WsR.trans {a b c:Ws} (x:WsR a b) (y:WsR b c):WsR a c:=fun n u hu=>by
 obtain ⟨v,hv,h1⟩:=x n u hu
 obtain ⟨w,hw,h2⟩:=y n v hv
 exact ⟨w,hw,h1.trans h2⟩
theorem WsR.set {ws:Ws} {n:Nat} {x y:Wi} (hx:ws[n]?=some x) (h:x.RK y):WsR ws (ws.set n y):=fun m u hu=>by
 by_cases e:n=m
 ·subst e
  rw [hx] at hu;cases hu
  exact ⟨y,by rw [zh,if_pos rfl,if_pos (w_lt hx)],h⟩
 ·exact ⟨u,by rw [zh,if_neg e,hu],Wi.RK.refl u⟩
theorem WsR.push {ws:Ws} {x:Wi} : WsR ws (ws++[x]):=fun _ u hu=>⟨u,jeh hu,Wi.RK.refl u⟩
theorem NtOk.keep {ws ws':Ws} {no si:Int} (a:NtOk ws no si) (r:WsR ws ws'):NtOk ws' no si:=by
 rcases a with a | ⟨n,k,x,h1,h2,h3,h4,h5,h6⟩
 ·exact .inl a
 ·obtain ⟨y,hy,rk⟩:=r n x h4
  exact .inr ⟨n,k,y,h1,h2,h3,hy,rk 0 (.inl rfl) h5,rk 1 (.inr rfl) h6⟩
theorem jfE {x:Wi} {k:Nat} {i o:Bool} (hk:k=0\/k=1):x.RK (x.came k i o):=by
 intro j hj
 rcases hk with rfl | rfl<;>rcases hj with rfl | rfl<;>exact fun h=>h
theorem jhR {x:Wi} {k:Nat} {q:List UInt8} (hk:k=0\/k=1):x.RK (x.setq k q):=by
 intro j hj
 rcases hk with rfl | rfl<;>rcases hj with rfl | rfl
 ·intro _;show some q≠none;simp
 ·exact fun h=>h
 ·exact fun h=>h
 ·intro _;show some q≠none;simp
theorem jj6 {x:Wi} {k m:Nat} {q:List UInt8} (hk:k=0\/k=1):x.RK (x.take k m q):=(jhR hk).trans (jfE (jbZ hk))
theorem jjY {x:Wi} {k m:Nat} {q b:List UInt8} (hk:k=0\/k=1):x.RK (x.fill k m q b):=(jhR (jbZ hk)).trans (jfE (jbZ hk))
theorem jmk {x:Wi} {k:Nat} {e:En} (hk:k=0\/k=1) (h:e.ring=(x.e k).ring):x.RK (x.put k e):=by
 intro j hj
 rcases hk with rfl | rfl<;>rcases hj with rfl | rfl
 ·intro h1;show e.ring≠none;rw [h];exact h1
 ·exact fun h=>h
 ·exact fun h=>h
 ·intro h1;show e.ring≠none;rw [h];exact h1
theorem jlX {x:Wi} {k:Nat} (hk:k=0\/k=1):x.RK (x.doShut k):=by
 unfold Wi.doShut
 split
 ·exact Wi.RK.refl x
 ·exact (jmk (e := { x.e k with shut:=true }) hk rfl).trans (jfE (jbZ hk))
theorem jiv {x:Wi} {k:Nat} (hk:k=0\/k=1):x.RK (x.close k):=by
 unfold Wi.close
 exact (jfE (jbZ hk)).trans (jmk hk rfl)
theorem reset_rk {x:Wi} : x.RK x.doReset:=by
 unfold Wi.doReset
 split
 ·exact Wi.RK.refl x
 ·have z0:(0:Nat)=0\/(0:Nat)=1 := .inl rfl
  have z1:(1:Nat)=0\/(1:Nat)=1 := .inr rfl
  have p0:x.RK { x with reset:=true } := fun j hj=>by rcases hj with rfl | rfl<;>exact fun h=>h
  exact (((p0.trans (jhR z0)).trans (jfE z0)).trans (jhR z1)).trans (jfE z1)
theorem readS_r {ws:Ws} {fd many:Int} : WsR ws (jbV ws fd many).2:=by
 unfold jbV
 refine jbm (P:=fun r:_ × Ws=>WsR ws r.2) (WsR.refl ws) fun n k x hx hk h1=>?_
 split
 ·exact WsR.refl ws
 ·repeat' split
  all_goals first | exact WsR.refl ws | exact WsR.set hx (jj6 hk)
theorem writeS_r {ws:Ws} {fd:Int} {b:List UInt8} : WsR ws (jb5 ws fd b).2:=by
 unfold jb5
 refine jbm (P:=fun r:_ × Ws=>WsR ws r.2) (WsR.refl ws) fun n k x hx hk h1=>?_
 repeat' split
 all_goals first | exact WsR.refl ws | exact WsR.set hx (jjY hk)
theorem shutS_r {ws:Ws} {fd:Int} : WsR ws (jdo ws fd).2:=by
 unfold jdo
 refine jbm (P:=fun r:_ × Ws=>WsR ws r.2) (WsR.refl ws) fun n k x hx hk h1=>?_
 split
 ·exact WsR.refl ws
 ·exact WsR.set hx (jlX hk)
theorem jhG : ∀ (L:List Int) (ws:Ws),WsR ws (ja7 ws L)
 | [],ws=>WsR.refl ws
 | m :: L,ws=>by
  refine WsR.trans ?_ (jhG L _)
  unfold jdf
  split
  ·exact WsR.refl ws
  ·next x hx=>exact WsR.set hx (jiv (.inl rfl))
theorem noWait_r {ws:Ws} {n:Nat} : WsR ws (noWait ws n):=by
 unfold noWait
 split
 ·exact WsR.refl ws
 ·next x hx=>exact WsR.set hx fun j hj=>by rcases hj with rfl | rfl<;>exact fun h=>h
theorem closeS_r {ws:Ws} {fd:Int} : WsR ws (jbY ws fd).2:=by
 unfold jbY
 exact jbm (P:=fun r:_ × Ws=>WsR ws r.2) (WsR.refl ws) fun n k x hx hk h1=>((WsR.set hx (jiv hk)).trans (jhG _ _)).trans noWait_r
theorem putS_r {ws:Ws} {n:Int} {b:List UInt8} : WsR ws (putS ws n b).2:=by
 unfold putS
 refine jbn (P:=fun r:_ × Ws=>WsR ws r.2) (WsR.refl ws) fun n x hx h2=>?_
 repeat' split
 all_goals first | exact WsR.refl ws | exact WsR.set hx (jjY (.inr rfl))
theorem takeS_r {ws:Ws} {n many:Int} : WsR ws (jc4 ws n many).2:=by
 unfold jc4
 refine jbn (P:=fun r:_ × Ws=>WsR ws r.2) (WsR.refl ws) fun n x hx h2=>?_
 repeat' split
 all_goals first | exact WsR.refl ws | exact WsR.set hx (jj6 (.inr rfl))
theorem jjN {ws:Ws} {n:Int} : WsR ws (jaG ws n).2:=jbn (P:=fun r:_ × Ws=>WsR ws r.2) (WsR.refl ws) fun _ _ hx _=>WsR.set hx (jlX (.inr rfl))
theorem jiW {ws:Ws} {n:Int} : WsR ws (ja5 ws n).2:=jbn (P:=fun r:_ × Ws=>WsR ws r.2) (WsR.refl ws) fun _ _ hx _=>WsR.set hx (jiv (.inr rfl))
theorem resetS_r {ws:Ws} {n:Int} : WsR ws (jcd ws n).2:=jbn (P:=fun r:_ × Ws=>WsR ws r.2) (WsR.refl ws) fun _ _ hx _=>WsR.set hx reset_rk
theorem makeS_r {ws:Ws} {kind n:Int} : WsR ws (jah ws kind n).2:=by
 unfold jah
 repeat' split
 all_goals first | exact WsR.refl ws | exact WsR.push
theorem acceptS_r {ws:Ws} {fd:Int} : WsR ws (jax ws fd).2:=by
 unfold jax
 refine jbm (P:=fun r:_ × Ws=>WsR ws r.2) (WsR.refl ws) fun n k x hx hk h1=>?_
 split
 ·exact WsR.refl ws
 split
 ·exact WsR.refl ws
 split
 ·exact WsR.refl ws
 split
 ·exact WsR.refl ws
 next y hy=>
 refine WsR.trans (WsR.set (y := { x with waiting:=_ }) hx fun j hj=>?_) (WsR.set hy (jmk (.inl rfl) rfl))
 rcases hj with rfl | rfl<;>exact fun h=>h
theorem jlA {ws:Ws} {n many:Int} : WsR ws (jar ws n many).2:=by
 unfold jar
 split
 ·exact WsR.refl ws
 split
 ·exact WsR.refl ws
 next x hx=>
 repeat' split
 all_goals first | exact WsR.refl ws | skip
 refine WsR.trans (WsR.set hx fun j hj=>?_) WsR.push
 rcases hj with rfl | rfl<;>exact fun h=>h
theorem jek {ws:Ws} {sum no si:Int} (nt:NtOk ws no si):WsR ws (jap ws sum no si):=by
 unfold jap
 split
 ·exact WsR.refl ws
 next h0=>
 split
 ·exact WsR.refl ws
 next x hx=>
 split
 ·exact WsR.refl ws
 rcases nt with h | ⟨n,k,y,h1,h2,h3,h4,h5,h6⟩
 ·omega
 have hk:si.toNat=0\/si.toNat=1:=by omega
 split
 ·exact WsR.set hx (jj6 hk)
 split
 ·exact WsR.set hx (jjY (jbZ hk))
 ·exact WsR.refl ws
theorem jdu {ws:Ws} {sum no si:Int} (K:WsK ws) (nt:NtOk ws no si):WsK (jap ws sum no si):=by
 unfold jap
 split
 ·exact K
 next h0=>
 split
 ·exact K
 next x hx=>
 split
 ·exact K
 next q hq=>
 rcases nt with h | ⟨n,k,y,h1,h2,h3,h4,h5,h6⟩
 ·omega
 have hk:si.toNat=0\/si.toNat=1:=by omega
 split
 ·exact K.take hx hk hq
 split
 ·next e=>
  have e2:1-(1-si.toNat)=si.toNat:=by omega
  have hc:=(K.ok.ok x (zb hx)).cap0
  exact K.fill hx (jbZ hk) (q:=[]) (by rw [e2,hq,e]) (by show min 1 x.cap<=x.cap-0;omega)
 ·exact K
theorem jnb {ws:Ws} {a b no si:Int} (nt:NtOk ws no si):NtOk ws (ntNo ws a b no) (ntSi ws a b si):=by
 have key : ∀ n k,(ntS ws a b).2=some (n,k)->(k=0\/k=1) /\ ∃ x,ws[n]?=some x/\x.e0.ring≠none/\x.e1.ring≠none:=by
  unfold ntS
  refine jbm (P:=fun r:Int × Option (Nat × Nat)=>∀ n k,r.2=some (n,k)->(k=0\/k=1) /\ ∃ x,ws[n]?=some x/\x.e0.ring≠none/\x.e1.ring≠none) (fun _ _ h=>by cases h) fun n k x hx hk h1=>?_
  refine jbm (P:=fun r:Int × Option (Nat × Nat)=>∀ n k,r.2=some (n,k)->(k=0\/k=1) /\ ∃ x,ws[n]?=some x/\x.e0.ring≠none/\x.e1.ring≠none) (fun _ _ h=>by cases h) fun m i y hy hi h2=>?_
  intro n' k' h
  split at h
  ·next hc=>
   cases h
   exact ⟨hk,x,hx,hc.2.2.1,hc.2.2.2⟩
  ·cases h
 unfold ntNo ntSi
 cases e:(ntS ws a b).2 with
 | none=>exact nt
 | some p=>
  obtain ⟨n,k⟩:=p
  obtain ⟨hk,x,hx,h1,h2⟩:=key n k e
  exact .inr ⟨n,k,x,rfl,rfl,hk,hx,h1,h2⟩
theorem jna {ws:Ws} {sum a b:Int} : ∃ no si,NtOk ws no si/\ntW ws sum a b=jap ws sum no si:=by
 have:=jnb (ws:=ws) (a:=a) (b:=b) (no := -1) (si:=0) (.inl rfl)
 unfold ntNo ntSi at this
 unfold ntW
 cases e:(ntS ws a b).2 with
 | none=>exact ⟨-1,0,.inl rfl,rfl⟩
 | some p=>
  obtain ⟨n,k⟩:=p
  rw [e] at this
  exact ⟨n,k,this,rfl⟩
end Am.Sigs
