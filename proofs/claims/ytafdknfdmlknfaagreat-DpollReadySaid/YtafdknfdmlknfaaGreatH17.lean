/- Our own library, part 17. -/
import Derived.Test.YtafdknfdmlknfaaGreatH16
set_option maxHeartbeats 8000000
set_option maxRecDepth 800
set_option linter.all false
namespace Am.Sigs
open Am Go
theorem ji0 {l:List Int} {cs:List V} {o:Nat} (hc : ∀ (i:Nat) (x:Int),l[i]?=some x->cs[o+i]?=some (.i x)) (h0:0<l.length):o+l.length<=cs.length/\(cs.drop o).take l.length=ints l:=by
 have h1:o+l.length<=cs.length:=by
  have:=hc (l.length-1) _ (za om)
  rcases zA (o+(l.length-1)) cs.length with h | h
  ·omega
  ·rw [zc h] at this;cases this
 refine ⟨h1,zW fun i=>?_⟩
 rw [zQ,List.getElem?_map]
 by_cases hi:i<l.length
 ·rw [zG hi,zn,hc i _ (za hi),za hi];rfl
 ·rw [zF hi,zc om];rfl
theorem ints_one (l:List Int):(ints l).all V.one=true:=by
 rw [zV]
 intro v hv
 obtain ⟨n,_,rfl⟩:=List.mem_map.1 hv
 rfl
section
variable {call:Call} {fuel base:Nat} {ops:List Ins} {keep:List Nat} {K:List Fr} {e:Env} {h:H} {Q:Post} {ix:Nat} {dst:Option Nat} {c:List (Nat × I × Option (Nat × Bool))}
theorem Ops.appI {N:Nat} {x y:Opd} {sv v:V} {q l:List Int} (hx:x.ev e=some sv) (hy:y.ev e=some v) (r:Row N h 1 sv q.length (ints q)) (hN:N<=h.nx) (hv:VI h v l) (hn:q.length+l.length<=1000000)
  (hc : ∀ h':H,h.nx<=h'.nx->(∀ j,j<h.nx->sv.at?≠some j->h'.get j=h.get j)->jaO e h' c=true)
  (k : ∀ v' h',Row N h' 1 v' (q++l).length (ints (q++l))->h.nx<=h'.nx->(∀ j,j<h.nx->sv.at?≠some j->h'.get j=h.get j)->Ops call fuel base ops keep K (layv e dst v') h' Q) :
  Ops call fuel base (⟨ix,dst,.append 1 8 x y,none,none,c⟩ :: ops) keep K e h Q:=by
 obtain ⟨a,cp,rfl,n,f,g⟩:=hv
 by_cases hl:l=[]
 ·subst hl
  have hsrc:ja2 h 1 0 (.slice a 0 cp)=some []:=by cases a<;>rfl
  refine Ops.step_chk (v:=sv) (h':=h) (Zw rfl ?_) (hc h (zr _) fun _ _ _=>rfl) (k sv h (by simpa using r) (zr _) fun _ _ _=>rfl)
  obtain ⟨cap,⟨sa,rfl⟩,_⟩:=r.shape
  simp only [I.eff,hx,hy,jaK,lenOf,List.length_nil,hsrc]
  have hcond:(Nat.ble ((q.length+0)*8) (2 ^ 46)&&Nat.ble (q.length+0) (2 ^ 46))=true:=by simp only [zq,zT];omega
  rw [hcond];rfl
 ·obtain ⟨b,o,cs,ro,rfl,h1,h2,h3⟩:=g hl
  have hpos:0<l.length:=List.length_pos_iff.2 hl
  obtain ⟨p1,p2⟩:=ji0 h3 hpos
  obtain ⟨v',h',e1,e2,e3,e4,e5⟩:=jfj (bytes:=8) (cap:=cp) (m:=l.length) (so:=o) (new:=ints l) r hN hpos h2 om (by rw [Nat.mul_one];exact p2) (ints_one l) om om om
  refine Ops.step_chk (Zw rfl (by simp only [I.eff,hx,hy,e1])) (hc h' om e5) (k v' h' ?_ om e5)
  rw [zg];simpa [ints] using e2
theorem Ops.app1c {N q':Nat} {s y:Opd} {sv:V} {cs:List Int} {x:Int} {cap:Cap} (hs:s.ev e=some sv) (hy:y.ev e=some (.slice (some (q',0)) 1 cap)) (r:Row N h 1 sv cs.length (ints cs)) (hN:N<=h.nx) (hq:h.get q'=some (.cells [.i x] false))
  (hn:cs.length+1<=1000000) (hne:sv.at?≠some q') (hc : ∀ h':H,(∀ j,j<h.nx->sv.at?≠some j->h'.get j=h.get j)->jaO e h' c=true)
  (k : ∀ v' h',Row N h' 1 v' (cs++[x]).length (ints (cs++[x]))->h.nx<=h'.nx->(∀ j,j<h.nx->sv.at?≠some j->h'.get j=h.get j)->Ops call fuel base ops keep K (layv e dst v') h' Q) :
  Ops call fuel base (⟨ix,dst,.append 1 8 s y,none,none,c⟩ :: ops) keep K e h Q:=by
 obtain ⟨v',h',e1,e2,e3,e4,e5⟩:=jdA (bytes:=8) (cap:=cap) r hN hq rfl rfl om om om hne
 refine Ops.step_chk (Zw rfl (by simp only [I.eff,hs,hy,e1])) (hc h' e5) (k v' h' ?_ e3 e5)
 rw [zg];simpa [ints] using e2
end
theorem RX.in_cells {r:RX} {k:Nat} {w:Int} (hk:k=0\/k=1):(({ r with x:=r.x.put k { r.x.e k with inn:=w } } : RX)).cells=r.cells.set (k*8+6) (.int .u64 w):=by
 obtain ⟨⟨e0,e1,cap,rs,bl,wt⟩,v0,v1,vw⟩:=r
 rcases hk with rfl | rfl<;>simp [Wi.put,Wi.e,RX.cells,En.rcells]
section
variable {cl:Nat->Call} (hcl:Sem cl)
include hcl
theorem cn_end {E:Env} {d rw q bx:Nat} {g:H} {l:List RX} {tl:List V} {x:Wi} (w:RW g rw q l tl) (f:Fresh x) (hbx:g.get bx=some (.cells (RX.fresh x).cells false)) (hl:l.length<=1000) :
  Run (cl (d-1)) fuel c81_1 [] ((0,.p rw 0) :: (8,.p bx 0) :: E) g
   (Fin c81.res fun v h'=>∃ q',v = .tup [.i (l.length:Int),.i 0]/\RW h' rw q' (l++[RX.fresh x]) tl/\Ch (RC rw q) g h'/\g.nx<=q'):=by
 obtain ⟨v,hw,row,hvq,hone⟩:=w.row
 have hw1:(g.reserve 1).get rw=_:=hw
 have hbx1:(g.reserve 1).get bx=_:=hbx
 refine zab (Run.region ?_)
 refine Ga ?_
 refine zcw rfl hbx1 (by rw [RX.len];omega) ?_
 rw [zl,zh (by rw [RX.len];omega)]
 refine Ops.bslice1_at (new:=(RX.fresh x).cells) rfl rfl (RX.len _) rfl ?_
 have hG:((g.reserve 1).set (g.nx+0) (.cells (RX.fresh x).cells false)).nx=g.nx+1:=rfl
 have hGs:((g.reserve 1).set (g.nx+0) (.cells (RX.fresh x).cells false)).get (g.nx+0)=some (.cells (RX.fresh x).cells false):=jab _
 have hGo : ∀ j,j<g.nx->((g.reserve 1).set (g.nx+0) (.cells (RX.fresh x).cells false)).get j=g.get j:=fun j hj=>by rw [jaa om];rfl
 generalize (g.reserve 1).set (g.nx+0) (.cells (RX.fresh x).cells false)=G at hG hGs hGo ⊢
 have lq:=w.lq
 have lw:=w.lw
 have rowG:Row 0 G 20 v l.length (rows l):=row.keep om fun z hz=>hGo z (by have:=hvq z hz;omega)
 refine Ops.app1 (N:=0) rfl rfl rowG (Zm _) hGs (RX.len _) (RX.cells_one (r:=RX.fresh x) rfl rfl rfl) om om om (fun e=>by have:=hvq _ e;omega) fun h1 row1 hlt hk=>?_
 have hk' : ∀ j,j<g.nx->j≠q->h1.get j=g.get j:=fun j hj hn=>by rw [hk j om (fun e=>hn (hvq j e)),hGo j hj]
 have hrow:h1.get G.nx=some (.cells (rows l++(RX.fresh x).cells) false):=by
  rcases row1 with ⟨h0,_⟩ | ⟨b,_,_,e,h4,_⟩
  ·omega
  ·cases e;exact h4
 obtain ⟨w2,c2⟩:=w.push f hrow om hlt hk'
 have hw2:h1.get rw=some (.cells (v :: tl) false):=by rw [hk' rw lw w.ne,hw]
 refine Ga ?_
 refine zcs rfl rfl rfl hw2 Zd ?_
 refine Ga ?_
 have el:((l.length+1:Nat):Int)-1=(l.length:Int):=by omega
 refine ⟨_,?_,w2,c2,by omega⟩
 rw [el]
theorem cn_mid {E:Env} {d rw q bx n:Nat} {g:H} {l:List RX} {tl:List V} {x:Wi} {r:RX} (w:RW g rw q l tl) (f:Fresh x) (hbx:g.get bx=some (.cells (RX.fresh x).cells false)) (hbn:bx≠q/\bx≠rw/\bx<g.nx) (hl:l.length<=1000) (hr:l[n]?=some r) (hwt:r.x.waiting.length<=64) :
  Run (cl (d-1)) fuel c81_4 [] ((0,.p rw 0) :: (1,.i (n:Int)) :: (8,.p bx 0) :: (10,.nils) :: E) g
   (Fin c81.res fun v h'=>∃ q' v',v = .tup [.i (l.length:Int),.i 0] /\
    RW h' rw q' (l.set n { (r.setw v' (r.x.waiting++[(l.length:Int)])) with x:=(r.setw v' (r.x.waiting++[(l.length:Int)])).x.put 0 { (r.setw v' (r.x.waiting++[(l.length:Int)])).x.e 0 with inn:=upu (r.x.e 0).inn } } ++ [RX.fresh x]) tl/\Ch (RC rw q) g h'/\g.nx<=q'):=by
 obtain ⟨C,hC⟩ : ∃ C,C=c81_1:=⟨_,rfl⟩
 simp only [c81_4,c81_3,c81_2,yB]
 rw [<- hC]
 obtain ⟨hw,hq,hne⟩:=w.rat hr
 have hn:=r_lt hr
 have q1:=jlK hr
 have q2:=r_in (k:=0) hr (.inl rfl)
 have hvi:=(w.rok hr).w.1
 have lw:=w.lw
 have lq:=w.lq
 refine Ga ?_
 refine Ops.appI (N:=g.nx) (q:=[]) rfl rfl (Row.nil _ _ _) (zr _) hvi Zc (fun _ _ _=>rfl) fun v1 h1 row1 hx1 hold1=>?_
 have hold1' : ∀ j,j<g.nx->h1.get j=g.get j:=fun j hj=>hold1 j hj (by intro e;cases e)
 have hw1:h1.get rw=some (.cells (.slice (some (q,0)) l.length (.grow 20) :: tl) false):=by rw [hold1' rw lw,hw]
 have hq1:h1.get q=some (.cells (rows l) false):=by rw [hold1' q lq,hq]
 have hne1 : ∀ j,j<g.nx->v1.at?≠some j:=fun j hj e=>by have:=row1.at_ge e;omega
 refine Ga ?_
 refine Run.region ?_
 have hw1:(h1.reserve 1).get rw=_:=hw1
 have hq1:(h1.reserve 1).get q=_:=hq1
 refine Ga ?_
 refine Ops.bslice1_at (new:=[.i (l.length:Int)]) rfl rfl rfl rfl ?_
 have hG:((h1.reserve 1).set (h1.nx+0) (.cells [.i (l.length:Int)] false)).nx=h1.nx+1:=rfl
 have hGs:((h1.reserve 1).set (h1.nx+0) (.cells [.i (l.length:Int)] false)).get (h1.nx+0)=some (.cells [.i (l.length:Int)] false):=jab _
 have hGo : ∀ j,j<h1.nx->((h1.reserve 1).set (h1.nx+0) (.cells [.i (l.length:Int)] false)).get j=h1.get j:=fun j hj=>by rw [jaa om];rfl
 generalize (h1.reserve 1).set (h1.nx+0) (.cells [.i (l.length:Int)] false)=G at hG hGs hGo ⊢
 have rowG:=row1.keep (h':=G) om fun z hz=>hGo z (row1.at_ge hz).2
 have hwG:G.get rw=some (.cells (.slice (some (q,0)) l.length (.grow 20) :: tl) false):=by rw [hGo rw om,hold1' rw lw,hw]
 refine Ops.app1c (N:=g.nx) (cs:=[]++r.x.waiting) rfl rfl rowG om hGs Zc (fun e=>by have:=row1.at_ge e;omega) (fun h' ho=>jaN rfl (by rw [ho rw om (hne1 rw lw),hwG]) rfl rfl jbn) fun v2 h2 row2 hx2 hold2=>?_
 have old2:Old g h2:=⟨by omega,fun j hj=>by rw [hold2 j om (hne1 j hj),hGo j om,hold1' j hj]⟩
 have w2:=w.old old2
 obtain ⟨p1,p2⟩:=VI.ofRow row2
 rw [Zi] at p1
 have hbx2:h2.get bx=some (.cells (RX.fresh x).cells false):=by rw [old2.2 bx hbn.2.2,hbx]
 have ok':=(w2.rok hr).setw p1 fun z hz=>by have:=p2 z hz;omega
 have u:Upd q (.cells (rows (l.set n (r.setw v2 (r.x.waiting++[(l.length:Int)])))) false) h2 (h2.set q (.cells (rows (l.set n (r.setw v2 (r.x.waiting++[(l.length:Int)])))) false)):=ZA
 have w3:=w2.set hr u ok'
 obtain ⟨hw2,hq2,_⟩:=w2.rat hr
 have hlen:0+(n:Int).toNat*20+19<(rows l).length:=by rw [ja4];omega
 refine Ga ?_
 refine zcs rfl rfl p1.one hq2 hlen ?_
 rw [je4 hr om (RX.setw_cells r v2 (r.x.waiting++[(l.length:Int)])) om]
 have hr3:=get_set (r':=r.setw v2 (r.x.waiting++[(l.length:Int)])) hr
 have c3:Ch (RC rw q) g (h2.set q (.cells (rows (l.set n (r.setw v2 (r.x.waiting++[(l.length:Int)])))) false)):=old2.ch.trans (u.ch (.inl rfl))
 have hbx3:(h2.set q (.cells (rows (l.set n (r.setw v2 (r.x.waiting++[(l.length:Int)])))) false)).get bx=some (.cells (RX.fresh x).cells false):=by rw [jaa hbn.1,hbx2]
 have hset : ∀ s,l.set n s=(l.set n (r.setw v2 (r.x.waiting++[(l.length:Int)]))).set n s:=fun s=>set_set.symm
 have hl3:(l.set n (r.setw v2 (r.x.waiting++[(l.length:Int)]))).length=l.length:=by simp
 have hinn:((r.setw v2 (r.x.waiting++[(l.length:Int)])).x.e 0).inn=(r.x.e 0).inn:=rfl
 suffices s:True by
  generalize h2.set q (.cells (rows (l.set n (r.setw v2 (r.x.waiting++[(l.length:Int)])))) false)=g3 at w3 c3 hbx3 ⊢
  obtain ⟨hw3,hq3,_⟩:=w3.rat hr3
  have hn3:=r_lt hr3
  have q3:=r_in (k:=0) hr3 (.inl rfl)
  have hlen3:0+(n:Int).toNat*20+0+Int.toNat 0*8+6<(rows (l.set n (r.setw v2 (r.x.waiting++[(l.length:Int)])))).length:=by rw [ja4];omega
  have e3:=jie (f:=6) (o:=0+(n:Int).toNat*20+0+Int.toNat 0*8+6) hr3 (.inl rfl) om (RX.in_cells (k:=0) (w:=upu (r.x.e 0).inn) (.inl rfl)) Zd
  have u4:Upd q (.cells (rows ((l.set n (r.setw v2 (r.x.waiting++[(l.length:Int)]))).set n { (r.setw v2 (r.x.waiting++[(l.length:Int)])) with x:=(r.setw v2 (r.x.waiting++[(l.length:Int)])).x.put 0 { (r.setw v2 (r.x.waiting++[(l.length:Int)])).x.e 0 with inn:=upu (r.x.e 0).inn } })) false) g3 _:=ZA
  have w4:=w3.set hr3 u4 ((w3.rok hr3).put (e := { (r.setw v2 (r.x.waiting++[(l.length:Int)])).x.e 0 with inn:=upu (r.x.e 0).inn }) (.inl rfl) rfl)
  have hbx4:=(u4.get bx hbn.1).trans hbx3
  clear hset
  refine Ga ?_
  refine zcs rfl rfl rfl hq3 hlen3 ?_
  have e3:(rows (l.set n (r.setw v2 (r.x.waiting++[(l.length:Int)])))).set (0+(n:Int).toNat*20+0+Int.toNat 0*8+6) (.int .u64 (IntKind.wrap .u64 (((r.setw v2 (r.x.waiting++[(l.length:Int)])).x.e 0).inn+1)))=_:=e3
  rw [e3]
  refine Ga ?_
  rw [hC]
  refine Run.fin_mono (cn_end hcl (d:=d) (E:=[]) w4 f hbx4 Zc) ?_
  rintro v h' ⟨q',rfl,p4,p5,p6⟩
  rw [set_set] at p4
  exact ⟨q',v2,by simp,p4,(c3.trans (u4.ch (.inl rfl))).trans p5,zE (zE c3.nx (Nat.le_of_eq u4.nx.symm)) p6⟩
 exact trivial
end
def jbf (many:Int):Wi:=⟨⟨0,0,some [],true,false,0,0⟩,⟨2,0,some [],true,false,0,0⟩,many.toNat,false,0,[]⟩
def jar (ws:Ws) (n many:Int):(Int × Int) × Ws :=
 if n<0 then ((0,116),ws) else match ws[n.toNat]? with
 | none=>((0,116),ws)
 | some x=>if x.backlog=0\/x.e0.what≠1 then ((0,116),ws) else if many<1\/65536<many then ((0,2),ws)
  else if x.backlog<=x.waiting.length then ((0,113),ws) else if 1000<=ws.length then ((0,112),ws)
  else ((ws.length,0),ws.set n.toNat { x with waiting:=x.waiting++[(ws.length:Int)],e0 := { x.e0 with inn:=upu x.e0.inn } } ++ [jbf many])
section
variable {cl:Nat->Call} (hcl:Sem cl)
include hcl
theorem jmx {d rw q:Nat} {h:H} {l:List RX} {tl:List V} {n many:Int} (hd:3<=d) (w:RW h rw q l tl) (o:WsOk (l.map RX.x)) :
  ∃ q' l' h',cl d (.fn 81) [.p rw 0,.i n,.i many] h=some (.tup [.i (jar (l.map RX.x) n many).1.1,.i (jar (l.map RX.x) n many).1.2],h')/\RW h' rw q' l' tl/\l'.map RX.x=(jar (l.map RX.x) n many).2/\Ch (RC rw q) h h'/\(q'=q\/h.nx<=q'):=by
 suffices s : ∃ v' h',cl d (.fn 81) [.p rw 0,.i n,.i many] h=some (v',h') /\ ∃ q' l',v' = .tup [.i (jar (l.map RX.x) n many).1.1,.i (jar (l.map RX.x) n many).1.2]/\RW h' rw q' l' tl/\l'.map RX.x=(jar (l.map RX.x) n many).2/\Ch (RC rw q) h h'/\(q'=q\/h.nx<=q') by
  obtain ⟨_,h',e,q',l',rfl,p⟩:=s;exact ⟨q',l',h',e,p⟩
 refine aT hcl ?_
 have hwl:(l.map RX.x).length=l.length:=by simp
 have hol:=o.len
 rw [hwl] at hol
 obtain ⟨aw,cw,hwh,hac⟩:=w.head
 by_cases h0:n<0
 ·have hS:jar (l.map RX.x) n many=((0,116),l.map RX.x):=zG h0
  rw [hS]
  refine Ga ?_
  exact ⟨q,l,rfl,w,rfl,Zy _ _,.inl rfl⟩
 have hS:jar (l.map RX.x) n many=_:=zF h0
 obtain ⟨m,rfl⟩:=zC (show 0<=n by omega)
 rw [zz] at hS
 by_cases hlt:m<l.length
 case neg=>
  rw [zc (by simpa using hlt)] at hS
  simp only at hS
  rw [hS]
  refine Ga ?_
  exact ⟨q,l,rfl,w,rfl,Zy _ _,.inl rfl⟩
 obtain ⟨r,hr⟩ : ∃ r,l[m]?=some r:=⟨_,za hlt⟩
 obtain ⟨rfl,rfl⟩:=hac (by rintro rfl;simp at hlt)
 rw [jbc hr] at hS
 simp only at hS
 have hq:=(w.rat hr).hq
 have q1:=jjO hr
 have q2:=jiu (k:=0) hr (.inl rfl)
 have q3:=jlK hr
 have q2:(rows l)[0+(m:Int).toNat*20+0+((0:Nat):Int).toNat*8+0]?=some (.i r.x.e0.what):=q2
 by_cases hb0:r.x.backlog=0
 ·rw [zG (.inl hb0)] at hS;rw [hS]
  refine Ga ?_
  exact ⟨q,l,rfl,w,rfl,Zy _ _,.inl rfl⟩
 by_cases hw1:r.x.e0.what=1
 case neg=>
  rw [zG (.inr hw1)] at hS;rw [hS]
  refine Ga ?_
  exact ⟨q,l,rfl,w,rfl,Zy _ _,.inl rfl⟩
 rw [zF (by rintro (e | e);(exact hb0 e);exact e hw1)] at hS
 have hnw : ¬ r.x.e0.what≠1:=fun e=>e hw1
 by_cases hm:many<1\/65536<many
 ·rw [zG hm] at hS;rw [hS]
  repeat' (first|refine qxy ?_|(refine zsp ?_ ?_<;>intro _)|fail)
  all_goals first | exact ⟨q,l,rfl,w,rfl,Zy _ _,.inl rfl⟩ | (exfalso;omega)
 rw [zF hm] at hS
 have hm1:1<=many:=by omega
 have hm2:many<=65536:=by omega
 clear hm
 obtain ⟨av,cv,hva,_⟩:=(w.rok hr).w.1
 rw [hva] at q3
 have hwt:=(o.wait _ (zb (jbc hr))).1
 by_cases hbk:r.x.backlog<=r.x.waiting.length
 ·rw [zG hbk] at hS;rw [hS]
  refine Ga ?_
  exact ⟨q,l,rfl,w,rfl,Zy _ _,.inl rfl⟩
 rw [zF hbk] at hS
 rw [hwl] at hS
 by_cases hfull:1000<=l.length
 ·rw [zG hfull] at hS;rw [hS]
  refine Ga ?_
  exact ⟨q,l,rfl,w,rfl,Zy _ _,.inl rfl⟩
 rw [zF hfull] at hS
 rw [hS]
 obtain ⟨nn,rfl⟩:=zC (show 0<=many by omega)
 obtain ⟨C,hC⟩ : ∃ C,C=c81_4:=⟨_,rfl⟩
 have hCk : ∀ (E:Env) (x:Wi) (bx:Nat) (G:H),Fresh x->RW G rw q l tl->G.get bx=some (.cells (RX.fresh x).cells false)->bx≠q/\bx≠rw/\bx<G.nx->_ :=
  fun E x bx G f w1 hbx hz=>cn_mid hcl (E:=E) (d:=d) w1 f hbx hz hol hr hwt
 rw [<- hC] at hCk
 simp only [c81,c81_12,c81_11,c81_10,c81_9,c81_8,c81_7,yB,yF,yH]
 rw [<- hC]
 clear hC hS
 refine qm ?_
 refine Run.unroll (n:=99999) rfl ?_
 refine qm ?_
 refine ZC ?_
 refine qm ?_
 refine ZC ?_
 refine qm ?_
 refine Run.opqh fun G hG=>?_
 have oG:Old h G:=by
  rw [hG]
  repeat (first | exact ZD _ | refine Old.new ?_ | refine Old.set ?_ (zr _))
 have hGn:h.nx<G.nx:=by rw [hG];simp
 have hbx:G.get h.nx=some (.cells (RX.fresh (jbf nn)).cells false):=by
  rw [hG];exact jab _
 clear hG
 have lq:=w.lq
 have lw:=w.lw
 refine Run.fin_mono (hCk [] (jbf nn) h.nx G ⟨rfl,rfl,rfl⟩ (w.old oG) hbx ⟨by omega,by omega,hGn⟩) ?_
 rintro v h2 ⟨q',v',rfl,p1,p2,p3⟩
 refine ⟨q',_,rfl,p1,?_,oG.ch.trans p2,.inr (by have:=oG.1;omega)⟩
 rw [List.map_append,map_set];rfl
end
def tail (now:Int) (hd:Nat->Bool) (ct:Nat->Int) (no si:Int):List V :=
 .int .u64 now :: (tab 32 (fun i=>.bool (hd i))++(tab 32 (fun i=>.i (ct i))++[.i no,.i si]))
section
variable {v:V} {now no si:Int} {hd:Nat->Bool} {ct:Nat->Int}
theorem t_hd {i o:Nat} (hi:i<32) (ho:o=2+i):(v :: tail now hd ct no si)[o]?=some (.bool (hd i)):=by
 subst ho
 rw [show 2+i=i+1+1 by omega]
 show (tab 32 (fun i=>V.bool (hd i))++_)[i]?=_
 rw [ze,zG (by simpa using hi),jcy hi]
theorem t_ct {i o:Nat} (hi:i<32) (ho:o=34+i):(v :: tail now hd ct no si)[o]?=some (.i (ct i)):=by
 subst ho
 rw [show 34+i=(32+i)+1+1 by omega]
 show (tab 32 (fun i=>V.bool (hd i))++(tab 32 (fun i=>V.i (ct i))++_))[32+i]?=_
 rw [ze,zF Zd,tab_length,Zp,ze,zG (by simpa using hi),jcy hi]
theorem t_no {o:Nat} (ho:o=66):(v :: tail now hd ct no si)[o]?=some (.i no):=by
 subst ho
 show (tab 32 (fun i=>V.bool (hd i))++(tab 32 (fun i=>V.i (ct i))++[.i no,.i si]))[64]?=_
 rw [ze,zF Zd,tab_length,ze,zF Zd,tab_length];rfl
theorem t_si {o:Nat} (ho:o=67):(v :: tail now hd ct no si)[o]?=some (.i si):=by
 subst ho
 show (tab 32 (fun i=>V.bool (hd i))++(tab 32 (fun i=>V.i (ct i))++[.i no,.i si]))[65]?=_
 rw [ze,zF Zd,tab_length,ze,zF Zd,tab_length];rfl
theorem jcW:(tail now hd ct no si).length=67:=by simp [tail]
end
theorem RW.tl {h:H} {rw q:Nat} {l:List RX} {tl tl':List V} {v:V} (w:RW h rw q l tl) (hv:h.get rw=some (.cells (v :: tl) false)):RW (h.set rw (.cells (v :: tl') false)) rw q l tl':=by
 have ch:Ch (RC rw q) h (h.set rw (.cells (v :: tl') false)):=Ch.set (.inr rfl)
 refine ⟨w.lw,w.lq,w.ne,fun hl=>?_,fun hl=>?_,fun s hs=>(w.ok s hs).keep ch⟩
 ·have a:=w.at_ hl
  rw [a.hw] at hv
  cases hv
  exact ⟨by rw [jab],by rw [jaa w.ne.symm,a.hq],w.ne⟩
 ·have a:=w.nil hl
  rw [a] at hv
  cases hv
  rw [jab]
def jdJ (now t:Int):Int:=if 18446744073709551615-now<t then 18446744073709551615 else now+t
section
variable {cl:Nat->Call} (hcl:Sem cl)
include hcl
theorem rq_Pass {d rw q:Nat} {h:H} {l:List RX} {now no si t:Int} {hdl:Nat->Bool} {ct:Nat->Int} (hd:1<=d) (w:RW h rw q l (tail now hdl ct no si)) (n0:0<=now) (n1:now<=18446744073709551615) (t0:0<=t) (t1:t<=18446744073709551615) :
  ∃ h',cl d (.fn 83) [.p rw 0,.int .u64 t] h=some (.tup [],h')/\RW h' rw q l (tail (jdJ now t) hdl ct no si)/\Ch (RC rw q) h h':=by
 refine jai (aT hcl ?_)
 obtain ⟨a,c,hw,_⟩:=w.head
 have q1:(V.slice a l.length c :: tail now hdl ct no si)[0+1]?=some (.int .u64 now):=rfl
 have hlen:0+1<(V.slice a l.length c :: tail now hdl ct no si).length:=by simp [jcW]
 unfold jdJ
 by_cases hb:18446744073709551615-now<t
 ·rw [zG hb]
  refine Ga ?_
  refine zcs rfl rfl rfl hw hlen ?_
  refine Ga ?_
  exact ⟨rfl,w.tl hw,Ch.set (.inr rfl)⟩
 ·rw [zF hb]
  refine Ga ?_
  refine zcs rfl rfl rfl hw hlen ?_
  refine Ga ?_
  exact ⟨rfl,w.tl hw,Ch.set (.inr rfl)⟩
def sumC (ct:Nat->Int):Nat->Int
 | 0=>0
 | n+1=>sumC ct n+ct (n+1)
omit hcl in
theorem jnw {ct:Nat->Int} (hc : ∀ i,0<=ct i/\ct i<=1000000) : ∀ n,0<=sumC ct n/\sumC ct n<=1000000*n
 | 0=>by simp [sumC]
 | n+1=>by have:=jnw hc n;have:=hc (n+1);simp only [sumC];omega
theorem jmw {d rw q:Nat} {h:H} {l:List RX} {now no si:Int} {hdl:Nat->Bool} {ct:Nat->Int} (hd:1<=d) (w:RW h rw q l (tail now hdl ct no si)) (hc : ∀ i,0<=ct i/\ct i<=1000000) :
  cl d (.fn 138) [.p rw 0] h=some (.i (sumC ct 31),h):=by
 refine jan (aT hcl ?_)
 obtain ⟨a,c,hw,_⟩:=w.head
 refine Ga ?_
 refine Zx (fun m e g=>∃ s:Nat,m=31-s/\s<=31/\e=[(0,.p rw 0),(3,.i (sumC ct s)),(4,.i ((s+1:Nat):Int))]/\g=h)
  (k:=31) Ze ⟨0,rfl,by omega,rfl,rfl⟩ ?_
 rintro _ _ h ⟨s,rfl,hs,rfl,rfl⟩ f ih
 by_cases hlt:s<31
 ·have q1:(V.slice a l.length c :: tail now hdl ct no si)[0+34+(((s+1:Nat):Int)).toNat*1]?=some (.i (ct (s+1))):=t_ct om om
  have hb:=jnw hc s
  have hb2:=hc (s+1)
  have hcond:((s+1:Nat):Int)<=31:=by omega
  have hs1:((s+1+1:Nat):Int)=((s+1:Nat):Int)+1:=by omega
  refine Ga ?_
  exact ih (31-(s+1)) om _ _ ⟨s+1,rfl,by omega,by rw [hs1];rfl,rfl⟩
 ·obtain rfl:s=31:=by omega
  have hcond : ¬ ((31+1:Nat):Int)<=31:=by omega
  refine Ga ?_
  exact ⟨rfl,rfl⟩
end
def NtOk (ws:Ws) (no si:Int):Prop:=no = -1 \/ ∃ (n k:Nat) (x:Wi),no=n/\si=k/\(k=0\/k=1)/\ws[n]?=some x/\x.e0.ring≠none/\x.e1.ring≠none
def jao (ws:Ws) (sum no si:Int):Ws :=
 if no<0 then ws else match ws[no.toNat]? with
 | none=>ws
 | some x=>match (x.e si.toNat).ring with
  | none=>ws
  | some q=>if sum=0 then ws.set no.toNat (x.take si.toNat q.length q)
   else if q=[] then ws.set no.toNat (x.fill (1-si.toNat) (min 1 x.cap) [] [1]) else ws
section
variable {cl:Nat->Call} (hcl:Sem cl)
include hcl
theorem jbZ {d rw q:Nat} {h:H} {l:List RX} {now no si:Int} {hdl:Nat->Bool} {ct:Nat->Int} (hd:3<=d) (w:RW h rw q l (tail now hdl ct no si)) (o:WsOk (l.map RX.x)) (hnt:NtOk (l.map RX.x) no si) (hc : ∀ i,0<=ct i/\ct i<=1000000) :
  ∃ l' h',cl d (.fn 121) [.p rw 0] h=some (.tup [],h')/\RW h' rw q l' (tail now hdl ct no si)/\l'.map RX.x=jao (l.map RX.x) (sumC ct 31) no si/\Ch (RC rw q) h h':=by
 suffices s : ∃ v' h',cl d (.fn 121) [.p rw 0] h=some (v',h') /\ ∃ l',v' = .tup []/\RW h' rw q l' (tail now hdl ct no si)/\l'.map RX.x=jao (l.map RX.x) (sumC ct 31) no si/\Ch (RC rw q) h h' by
  obtain ⟨_,h',e,l',rfl,p⟩:=s;exact ⟨l',h',e,p⟩
 refine aT hcl ?_
 have ep:=jmw hcl (d:=d-1) om w hc
 rcases hnt with rfl | ⟨n,k,x,rfl,rfl,hk,hx,hx0,hx1⟩
 ·obtain ⟨a,c,hw,_⟩:=w.head
  have q1:(V.slice a l.length c :: tail now hdl ct (-1) si)[0+66]?=some (.i (-1)):=t_no rfl
  have hS:jao (l.map RX.x) (sumC ct 31) (-1) si=l.map RX.x:=zG om
  rw [hS]
  refine Ga ?_
  exact ⟨l,rfl,w,rfl,Zy _ _⟩
 obtain ⟨r,hr,rfl⟩ : ∃ r,l[n]?=some r/\r.x=x:=by
  rw [List.getElem?_map] at hx
  cases hr:l[n]? with
  | none=>rw [hr] at hx;cases hx
  | some r=>rw [hr] at hx;cases hx;exact ⟨r,rfl,rfl⟩
 obtain ⟨hw,hq,hne⟩:=w.rat hr
 have hn:=r_lt hr
 have q1:(V.slice (some (q,0)) l.length (.grow 20) :: tail now hdl ct (n:Int) (k:Int))[0+66]?=some (.i (n:Int)):=t_no rfl
 have q2:(V.slice (some (q,0)) l.length (.grow 20) :: tail now hdl ct (n:Int) (k:Int))[0+67]?=some (.i (k:Int)):=t_si rfl
 have hring : ∃ b,(r.x.e k).ring=some b:=by
  rcases hk with rfl | rfl
  ·exact zN.1 hx0
  ·exact zN.1 hx1
 obtain ⟨b,hb⟩:=hring
 obtain ⟨hv,_⟩:=(w.rok hr).b k hk
 rw [hb] at hv
 simp only [Option.getD_some] at hv
 obtain ⟨a,c,hva,_⟩:=id hv
 have q3:=r_b hr hk
 rw [hva] at q3
 have hS:jao (l.map RX.x) (sumC ct 31) (n:Int) (k:Int)=if sumC ct 31=0 then (l.map RX.x).set n (r.x.take k b.length b) else if b=[] then (l.map RX.x).set n (r.x.fill (1-k) (min 1 r.x.cap) [] [1]) else l.map RX.x:=by
  unfold jao
  rw [zF om,zz,zz,jbc hr]
  simp only [hb]
 rw [hS]
 by_cases hsum:sumC ct 31=0
 ·rw [zG hsum]
  obtain ⟨v,v',h',e2,p1,p2,p3⟩:=jnA hcl (d:=d-1) (many:=(b.length:Int)) om w hr hk hb om
  rw [show (min (b.length:Int) b.length).toNat=b.length by omega] at p2
  refine Ga ?_
  exact ⟨_,rfl,p2,by rw [map_set,jnt hk],p3⟩
 rw [zF hsum]
 by_cases hbn:b=[]
 ·rw [zG hbn]
  subst hbn
  have q3:(rows l)[0+(n:Int).toNat*20+0+(k:Int).toNat*8+4]?=some (V.slice a 0 c):=q3
  have ek:(1:Int)-(k:Int)=((1-k:Nat):Int):=by omega
  have ekk:1-(1-k)=k:=by omega
  have lw:=w.lw
  have lq:=w.lq
  have hGo : ∀ j,j<h.nx->((h.reserve 1).set (h.nx+0) (.cells [.int .u8 1] false)).get j=h.get j:=fun j hj=>by rw [jaa om];rfl
  have oG:Old h ((h.reserve 1).set (h.nx+0) (.cells [.int .u8 1] false)):=⟨by show h.nx<=h.nx+1;omega,hGo⟩
  have hvb:VB ((h.reserve 1).set (h.nx+0) (.cells [.int .u8 1] false)) (.slice (some (h.nx+0,0)) 1 (.fix 1)) [1] :=
   ⟨some (h.nx+0,0),.fix 1,rfl,fun e=>by (cases e),zr _,fun _=>⟨h.nx+0,0,_,false,rfl,by show h.nx+0<h.nx+1;omega,jab _,fun i x hi=>by
    match i,hi with
    | 0,hi=>cases hi;rfl
    | i+1,hi=>simp at hi⟩⟩
  obtain ⟨v',h',e2,p2,p3⟩:=jkM hcl (d:=d-1) (k:=1-k) (b:=[]) om (w.old oG) hr om (by rw [ekk];exact hb) Zd (o.wi hr).cap1 hvb Zd (fun _ z hz=>by
   cases hz
   exact ⟨by omega,by omega,by show h.nx+0<h.nx+1;omega⟩)
  rw [<- ek] at e2
  have hm1:min ([1]:List UInt8).length (r.x.cap-([]:List UInt8).length)=min 1 r.x.cap:=by simp
  rw [hm1] at p2
  refine Ga ?_
  refine Run.region ?_
  have hwR:(h.reserve 1).get rw=_:=hw
  refine Ga ?_
  refine Ops.bslice1_at (new:=[.int .u8 1]) rfl rfl rfl rfl ?_
  refine Ga ?_
  exact ⟨_,rfl,p2,by rw [map_set,jlU om],oG.ch.trans p3⟩
 ·rw [zF hbn]
  have hpos : ¬ (b.length:Int)=0:=by have:=List.length_pos_iff.2 hbn;omega
  refine Ga ?_
  exact ⟨l,rfl,w,rfl,Zy _ _⟩
end
def put1 {α : Type} (f:Nat -> α) (s:Nat) (v : α):Nat -> α := fun i=>if i=s then v else f i
section
variable {v:V} {now no si:Int} {hd:Nat->Bool} {ct:Nat->Int}
theorem jl8 {i o:Nat} {b:Bool} (hi:i<32) (ho:o=2+i):(v :: tail now hd ct no si).set o (.bool b)=v :: tail now (put1 hd i b) ct no si:=by
 subst ho
 rw [show 2+i=i+1+1 by omega]
 show v :: V.int .u64 now :: ((tab 32 (fun i=>V.bool (hd i))++_).set i (.bool b))=_
 rw [zX,zG (by simpa using hi),jef]
 unfold tail
 rw [jc9 (g:=fun j=>V.bool (put1 hd i b j)) (fun k _=>by unfold put1;split<;>rfl)]
theorem jgS {i o:Nat} {b:Int} (hi:i<32) (ho:o=34+i):(v :: tail now hd ct no si).set o (.i b)=v :: tail now hd (put1 ct i b) no si:=by
 subst ho
 rw [show 34+i=(32+i)+1+1 by omega]
 show v :: V.int .u64 now :: ((tab 32 (fun i=>V.bool (hd i))++(tab 32 (fun i=>V.i (ct i))++[V.i no,V.i si])).set (32+i) (.i b))=_
 rw [zX,zF Zd,tab_length,Zp,zX,zG (by simpa using hi),jef]
 unfold tail
 rw [jc9 (n:=32) (f:=fun j=>if j=i then V.i b else V.i (ct j)) (g:=fun j=>V.i (put1 ct i b j)) (fun k _=>by unfold put1;split<;>rfl)]
end
def jdM (s:Int):Prop:=1<=s/\s<=31
instance (s:Int):Decidable (jdM s):=inferInstanceAs (Decidable (_/\_))
def jeo (hd:Nat->Bool) (s:Int) (on:Bool):Nat->Bool:=if jdM s then put1 hd s.toNat on else hd
def jc2 (ct:Nat->Int) (s:Int) (on:Bool):Nat->Int:=if jdM s/\on=false then put1 ct s.toNat 0 else ct
section
variable {cl:Nat->Call} (hcl:Sem cl)
include hcl
theorem rq_Handle {d rw q:Nat} {h:H} {l:List RX} {now no si s:Int} {on:Bool} {hdl:Nat->Bool} {ct:Nat->Int} (hd:4<=d) (w:RW h rw q l (tail now hdl ct no si)) (o:WsOk (l.map RX.x)) (hnt:NtOk (l.map RX.x) no si) (hc : ∀ i,0<=ct i/\ct i<=1000000) :
  ∃ l' h',cl d (.fn 85) [.p rw 0,.i s,.bool on] h=some (.i (if jdM s then 0 else 100),h')/\RW h' rw q l' (tail now (jeo hdl s on) (jc2 ct s on) no si)/\l'.map RX.x=jao (l.map RX.x) (sumC (jc2 ct s on) 31) no si/\Ch (RC rw q) h h':=by
 suffices k : ∃ v' h',cl d (.fn 85) [.p rw 0,.i s,.bool on] h=some (v',h') /\ ∃ l',v' = .i (if jdM s then 0 else 100)/\RW h' rw q l' (tail now (jeo hdl s on) (jc2 ct s on) no si)/\l'.map RX.x=jao (l.map RX.x) (sumC (jc2 ct s on) 31) no si/\Ch (RC rw q) h h' by
  obtain ⟨_,h',e,l',rfl,p⟩:=k;exact ⟨l',h',e,p⟩
 refine aT hcl ?_
 by_cases hs:jdM s
 case neg=>
  rw [zF hs,show jeo hdl s on=hdl by unfold jeo;rw [zF hs],show jc2 ct s on=ct by unfold jc2;rw [zF (fun e=>hs e.1)]]
  obtain ⟨l',h',e,p⟩:=jbZ hcl (d:=d-1) om w o hnt hc
  have hs':s<1\/(¬ s<1/\31<s):=by unfold jdM at hs;omega
  clear hs
  rcases hs' with hs' | ⟨hs1,hs'⟩
  ·refine Ga ?_
   exact ⟨l',rfl,p⟩
  ·refine Ga ?_
   exact ⟨l',rfl,p⟩
 rw [zG hs]
 obtain ⟨s1,s2⟩:=id hs
 obtain ⟨m,rfl⟩:=zC (show 0<=s by omega)
 obtain ⟨a,c,hw,_⟩:=w.head
 have hlen : ∀ {hd2:Nat->Bool} {o:Nat},o<68->o<(V.slice a l.length c :: tail now hd2 ct no si).length:=fun ho=>by simp [jcW];omega
 rw [show jeo hdl (m:Int) on=put1 hdl m on by unfold jeo;rw [zG hs,zz]]
 have w1:=w.tl (tl':=tail now (put1 hdl m on) ct no si) hw
 have c1:Ch (RC rw q) h (h.set rw (.cells (V.slice a l.length c :: tail now (put1 hdl m on) ct no si) false)):=Ch.set (.inr rfl)
 cases on
 ·rw [show jc2 ct (m:Int) false=put1 ct m 0 by unfold jc2;rw [zG ⟨hs,rfl⟩,zz]]
  have w2:=w1.tl (tl':=tail now (put1 hdl m false) (put1 ct m 0) no si) (jab _)
  have c2:=c1.trans (Ch.set (B:=RC rw q) (ob := .cells (V.slice a l.length c :: tail now (put1 hdl m false) (put1 ct m 0) no si) false) (.inr rfl))
  have hc0 : ∀ i,0<=put1 ct m 0 i/\put1 ct m 0 i<=1000000:=fun i=>by
   unfold put1
   by_cases e:i=m
   ·rw [zG e];omega
   ·rw [zF e];exact hc i
  obtain ⟨l',h',e,p1,p2,p3⟩:=jbZ hcl (d:=d-1) om w2 o hnt hc0
  refine Ga ?_
  refine zcs rfl rfl rfl hw (hlen om) ?_
  rw [jl8 (i:=m) om om]
  refine Ga ?_
  refine zcs rfl rfl rfl (jab _) (hlen om) ?_
  rw [jgS (i:=m) om om]
  refine Ga ?_
  exact ⟨l',rfl,p1,p2,c2.trans p3⟩
 ·rw [show jc2 ct (m:Int) true=ct by unfold jc2;rw [zF (fun e=>by cases e.2)]]
  obtain ⟨l',h',e,p1,p2,p3⟩:=jbZ hcl (d:=d-1) om w1 o hnt hc
  refine Ga ?_
  refine zcs rfl rfl rfl hw (hlen om) ?_
  rw [jl8 (i:=m) om om]
  refine Ga ?_
  exact ⟨l',rfl,p1,p2,c1.trans p3⟩
end
def jd6 (hd:Nat->Bool) (ct:Nat->Int) (s:Int):Nat->Int:=if jdM s/\hd s.toNat=true then put1 ct s.toNat (ct s.toNat+1) else ct
section
variable {cl:Nat->Call} (hcl:Sem cl)
include hcl
theorem rq_Raise {d rw q:Nat} {h:H} {l:List RX} {now no si s:Int} {hdl:Nat->Bool} {ct:Nat->Int} (hd:4<=d) (w:RW h rw q l (tail now hdl ct no si)) (o:WsOk (l.map RX.x)) (hnt:NtOk (l.map RX.x) no si) (hc : ∀ i,0<=ct i/\ct i<=999999) :
  ∃ l' h',cl d (.fn 87) [.p rw 0,.i s] h=some (.i (if jdM s then 0 else 100),h')/\RW h' rw q l' (tail now hdl (jd6 hdl ct s) no si)/\l'.map RX.x=jao (l.map RX.x) (sumC (jd6 hdl ct s) 31) no si/\Ch (RC rw q) h h':=by
 suffices k : ∃ v' h',cl d (.fn 87) [.p rw 0,.i s] h=some (v',h') /\ ∃ l',v' = .i (if jdM s then 0 else 100)/\RW h' rw q l' (tail now hdl (jd6 hdl ct s) no si)/\l'.map RX.x=jao (l.map RX.x) (sumC (jd6 hdl ct s) 31) no si/\Ch (RC rw q) h h' by
  obtain ⟨_,h',e,l',rfl,p⟩:=k;exact ⟨l',h',e,p⟩
 refine aT hcl ?_
 have hc0 : ∀ i,0<=ct i/\ct i<=1000000:=fun i=>⟨(hc i).1,by have:=(hc i).2;omega⟩
 by_cases hs:jdM s
 case neg=>
  rw [zF hs,show jd6 hdl ct s=ct by unfold jd6;rw [zF (fun e=>hs e.1)]]
  obtain ⟨l',h',e,p⟩:=jbZ hcl (d:=d-1) om w o hnt hc0
  have hs':s<1\/(¬ s<1/\31<s):=by unfold jdM at hs;omega
  clear hs
  rcases hs' with hs' | ⟨hs1,hs'⟩
  ·refine Ga ?_
   exact ⟨l',rfl,p⟩
  ·refine Ga ?_
   exact ⟨l',rfl,p⟩
 rw [zG hs]
 obtain ⟨s1,s2⟩:=id hs
 obtain ⟨m,rfl⟩:=zC (show 0<=s by omega)
 obtain ⟨a,c,hw,_⟩:=w.head
 have q1:(V.slice a l.length c :: tail now hdl ct no si)[0+2+(m:Int).toNat*1]?=some (.bool (hdl m)):=t_hd om om
 have q2:(V.slice a l.length c :: tail now hdl ct no si)[0+34+(m:Int).toNat*1]?=some (.i (ct m)):=t_ct om om
 have hlen:0+34+(m:Int).toNat*1<(V.slice a l.length c :: tail now hdl ct no si).length:=by simp [jcW];omega
 have hcm:=hc m
 cases hh:hdl m
 ·rw [show jd6 hdl ct (m:Int)=ct by unfold jd6;rw [zF (fun e=>by rw [zz,hh] at e;cases e.2)]]
  rw [hh] at q1
  obtain ⟨l',h',e,p⟩:=jbZ hcl (d:=d-1) om w o hnt hc0
  refine Ga ?_
  exact ⟨l',rfl,p⟩
 ·rw [show jd6 hdl ct (m:Int)=put1 ct m (ct m+1) by unfold jd6;rw [zG ⟨hs,by rw [zz];exact hh⟩,zz]]
  rw [hh] at q1
  have w1:=w.tl (tl':=tail now hdl (put1 ct m (ct m+1)) no si) hw
  have c1:Ch (RC rw q) h (h.set rw (.cells (V.slice a l.length c :: tail now hdl (put1 ct m (ct m+1)) no si) false)):=Ch.set (.inr rfl)
  have hc1 : ∀ i,0<=put1 ct m (ct m+1) i/\put1 ct m (ct m+1) i<=1000000:=fun i=>by
   unfold put1
   by_cases e:i=m
   ·rw [zG e];omega
   ·rw [zF e];exact hc0 i
  obtain ⟨l',h',e,p1,p2,p3⟩:=jbZ hcl (d:=d-1) om w1 o hnt hc1
  refine Ga ?_
  refine zcs rfl rfl rfl hw hlen ?_
  rw [jgS (i:=m) om om]
  refine Ga ?_
  exact ⟨l',rfl,p1,p2,c1.trans p3⟩
end
section
variable {v:V} {now no si:Int} {hd:Nat->Bool} {ct:Nat->Int}
theorem t_set_no {o:Nat} {b:Int} (ho:o=66):(v :: tail now hd ct no si).set o (.i b)=v :: tail now hd ct b si:=by
 subst ho
 show v :: V.int .u64 now :: ((tab 32 (fun i=>V.bool (hd i))++(tab 32 (fun i=>V.i (ct i))++[V.i no,V.i si])).set 64 (.i b))=_
 rw [zX,zF Zd,tab_length,zX,zF Zd,tab_length];rfl
theorem t_set_si {o:Nat} {b:Int} (ho:o=67):(v :: tail now hd ct no si).set o (.i b)=v :: tail now hd ct no b:=by
 subst ho
 show v :: V.int .u64 now :: ((tab 32 (fun i=>V.bool (hd i))++(tab 32 (fun i=>V.i (ct i))++[V.i no,V.i si])).set 65 (.i b))=_
 rw [zX,zF Zd,tab_length,zX,zF Zd,tab_length];rfl
end
noncomputable def ntS (ws:Ws) (a b:Int):Int × Option (Nat × Nat) :=
 jcs ws a (110,none) fun n k x=>jcs ws b (110,none) fun m i _=>if n=m/\k≠i/\x.e0.ring≠none/\x.e1.ring≠none then (0,some (n,k)) else (111,none)
noncomputable def ntW (ws:Ws) (sum:Int) (a b:Int):Ws:=match (ntS ws a b).2 with
 | none=>ws
 | some (n,k)=>jao ws sum n k
noncomputable def ntNo (ws:Ws) (a b no:Int):Int:=match (ntS ws a b).2 with
 | none=>no
 | some (n,_)=>n
noncomputable def ntSi (ws:Ws) (a b si:Int):Int:=match (ntS ws a b).2 with
 | none=>si
 | some (_,k)=>k
section
variable {cl:Nat->Call} (hcl:Sem cl)
include hcl
theorem jjC {d rw q:Nat} {h:H} {l:List RX} {now no si a b:Int} {hdl:Nat->Bool} {ct:Nat->Int} (hd:4<=d) (w:RW h rw q l (tail now hdl ct no si)) (o:WsOk (l.map RX.x)) (hc : ∀ i,0<=ct i/\ct i<=1000000) :
  ∃ l' h',cl d (.fn 90) [.p rw 0,.i a,.i b] h=some (.i (ntS (l.map RX.x) a b).1,h')/\RW h' rw q l' (tail now hdl ct (ntNo (l.map RX.x) a b no) (ntSi (l.map RX.x) a b si))/\l'.map RX.x=ntW (l.map RX.x) (sumC ct 31) a b/\Ch (RC rw q) h h':=by
 suffices k : ∃ v' h',cl d (.fn 90) [.p rw 0,.i a,.i b] h=some (v',h') /\ ∃ l',v' = .i (ntS (l.map RX.x) a b).1/\RW h' rw q l' (tail now hdl ct (ntNo (l.map RX.x) a b no) (ntSi (l.map RX.x) a b si))/\l'.map RX.x=ntW (l.map RX.x) (sumC ct 31) a b/\Ch (RC rw q) h h' by
  obtain ⟨_,h',e,l',rfl,p⟩:=k;exact ⟨l',h',e,p⟩
 refine aT hcl ?_
 unfold ntNo ntSi ntW
 rcases jeL hcl (d:=d-1) (fd:=a) om w o with ⟨hno,ea⟩ | ⟨n,k,r,hat,hr,hk,ea⟩
 ·have hS:ntS (l.map RX.x) a b=(110,none):=jaG hno
  rw [hS]
  rcases jeL hcl (d:=d-1) (fd:=b) om w o with ⟨_,eb⟩ | ⟨_,_,_,_,_,_,eb⟩
  ·refine Ga ?_
   exact ⟨l,rfl,w,rfl,Zy _ _⟩
  ·refine Ga ?_
   exact ⟨l,rfl,w,rfl,Zy _ _⟩
 have hS1:ntS (l.map RX.x) a b=_:=jaH o.uniq hat (jbc hr)
 rcases jeL hcl (d:=d-1) (fd:=b) om w o with ⟨hno,eb⟩ | ⟨m,i,r2,hat2,hr2,hk2,eb⟩
 ·rw [jaG hno] at hS1
  rw [hS1]
  refine Ga ?_
  exact ⟨l,rfl,w,rfl,Zy _ _⟩
 rw [jaH o.uniq hat2 (jbc hr2)] at hS1
 obtain ⟨hw,hq,hne⟩:=w.rat hr
 have hn:=r_lt hr
 have q1:=jhr (k:=0) hr (.inl rfl)
 have q2:=jhr (k:=1) hr (.inr rfl)
 have q1:(rows l)[0+(n:Int).toNat*20+0+((0:Nat):Int).toNat*8+2]?=some (.bool r.x.e0.ring.isSome):=q1
 have q2:(rows l)[0+(n:Int).toNat*20+0+((1:Nat):Int).toNat*8+2]?=some (.bool r.x.e1.ring.isSome):=q2
 by_cases hg:n=m/\k≠i/\r.x.e0.ring≠none/\r.x.e1.ring≠none
 case neg=>
  rw [zF hg] at hS1
  rw [hS1]
  by_cases h1:n=m
  case neg=>
   have h1':(n:Int)≠(m:Int):=by omega
   refine Ga ?_
   exact ⟨l,rfl,w,rfl,Zy _ _⟩
  have h1' : ¬ (n:Int)≠(m:Int):=by omega
  by_cases h2:k=i
  ·have h2':(k:Int)=(i:Int):=by omega
   refine Ga ?_
   exact ⟨l,rfl,w,rfl,Zy _ _⟩
  have h2' : ¬ (k:Int)=(i:Int):=by omega
  cases h3:r.x.e0.ring with
  | none=>
   rw [h3] at q1
   refine Ga ?_
   exact ⟨l,rfl,w,rfl,Zy _ _⟩
  | some b0=>
   rw [h3] at q1
   cases h4:r.x.e1.ring with
   | none=>
    rw [h4] at q2
    refine Ga ?_
    exact ⟨l,rfl,w,rfl,Zy _ _⟩
   | some b1=>exact zM ⟨h1,h2,by rw [h3];simp,by rw [h4];simp⟩ hg
 rw [zG hg] at hS1
 rw [hS1]
 obtain ⟨rfl,g2,g3,g4⟩:=hg
 have h1' : ¬ (n:Int)≠(n:Int):=by omega
 have h2' : ¬ (k:Int)=(i:Int):=by omega
 obtain ⟨b0,h3⟩:=zN.1 g3
 obtain ⟨b1,h4⟩:=zN.1 g4
 rw [h3] at q1
 rw [h4] at q2
 have w1:=w.tl (tl':=tail now hdl ct (n:Int) si) hw
 have w2:=w1.tl (tl':=tail now hdl ct (n:Int) (k:Int)) (jab _)
 have c2:Ch (RC rw q) h _:=(Ch.set (.inr rfl)).trans (Ch.set (b:=rw) (h:=h.set rw (.cells (.slice (some (q,0)) l.length (.grow 20) :: tail now hdl ct (n:Int) si) false)) (ob := .cells (.slice (some (q,0)) l.length (.grow 20) :: tail now hdl ct (n:Int) (k:Int)) false) (.inr rfl))
 obtain ⟨l',h',e,p1,p2,p3⟩:=jbZ hcl (d:=d-1) om w2 o (.inr ⟨n,k,r.x,rfl,rfl,hk,jbc hr,g3,g4⟩) hc
 have hlen : ∀ {n2:Int} {o:Nat},o<68->o<(V.slice (some (q,0)) l.length (.grow 20) :: tail now hdl ct n2 si).length:=fun ho=>by simp [jcW];omega
 refine Ga ?_
 refine zcs rfl rfl rfl hw (hlen om) ?_
 rw [t_set_no om]
 refine Ga ?_
 refine zcs rfl rfl rfl (jab _) (hlen om) ?_
 rw [t_set_si om]
 refine Ga ?_
 exact ⟨l',rfl,p1,p2,c2.trans p3⟩
end
def ctZ (ct:Nat->Int) (n:Nat):Nat->Int:=fun i=>if 1<=i/\i<=n then 0 else ct i
theorem ctZ_zero (ct:Nat->Int):ctZ ct 0=ct:=by
 funext i;unfold ctZ;rw [zF om]
theorem jlX (ct:Nat->Int) (n:Nat):put1 (ctZ ct n) (n+1) 0=ctZ ct (n+1):=by
 funext i;unfold ctZ put1
 by_cases h:i=n+1
 ·rw [zG h,zG om]
 ·rw [zF h]
  show (if 1<=i/\i<=n then 0 else ct i)=_
  by_cases h2:1<=i/\i<=n
  ·rw [zG h2,zG om]
  ·rw [zF h2,zF om]
theorem ctZ_gt (ct:Nat->Int) (n:Nat):ctZ ct n (n+1)=ct (n+1):=by
 unfold ctZ;rw [zF om]
def jcg (ct:Nat->Int):Nat->List (Int × Int)
 | 0=>[]
 | n+1=>jcg ct n++if 0<ct (n+1) then [(((n+1:Nat):Int),ct (n+1))] else []
theorem jhk (ct:Nat->Int) : ∀ n,(jcg ct n).length<=n
 | 0=>zr _
 | n+1=>by
  have:=jhk ct n
  simp only [jcg,zg]
  split<;>simp<;>omega
def jav (l:List (Int × Int)):List V:=(l.map fun p=>[V.i p.1,V.i p.2]).flatten
section
variable {cl:Nat->Call} (hcl:Sem cl)
include hcl
theorem jmv {d rw q:Nat} {h:H} {l:List RX} {now no si:Int} {hdl:Nat->Bool} {ct:Nat->Int} (hd:4<=d) (w:RW h rw q l (tail now hdl ct no si)) (o:WsOk (l.map RX.x)) (hnt:NtOk (l.map RX.x) no si) (hc : ∀ i,0<=ct i/\ct i<=1000000) :
  ∃ v l' h',cl d (.fn 88) [.p rw 0] h=some (v,h')/\Row h.nx h' 2 v (jcg ct 31).length (jav (jcg ct 31))/\RW h' rw q l' (tail now hdl (ctZ ct 31) no si)/\l'.map RX.x=jao (l.map RX.x) (sumC (ctZ ct 31) 31) no si/\Ch (RC rw q) h h':=by
 suffices k : ∃ v h',cl d (.fn 88) [.p rw 0] h=some (v,h') /\ ∃ l',Row h.nx h' 2 v (jcg ct 31).length (jav (jcg ct 31))/\RW h' rw q l' (tail now hdl (ctZ ct 31) no si)/\l'.map RX.x=jao (l.map RX.x) (sumC (ctZ ct 31) 31) no si/\Ch (RC rw q) h h' by
  obtain ⟨v,h',e,l',p⟩:=k;exact ⟨v,l',h',e,p⟩
 refine aT hcl ?_
 obtain ⟨a,c,hw,_⟩:=w.head
 refine Ga ?_
 refine Zx (fun m e g=>∃ (s:Nat) (v:V),m=31-s/\s<=31/\e=[(0,.p rw 0),(3,v),(4,.i ((s+1:Nat):Int))]/\Row h.nx g 2 v (jcg ct s).length (jav (jcg ct s))/\Old (h.set rw (.cells (V.slice a l.length c :: tail now hdl (ctZ ct s) no si) false)) g)
  (k:=31) Ze ⟨0,.nils,rfl,by omega,rfl,Row.nil _ _ _,?_⟩ ?_
 ·rw [ctZ_zero]
  refine ⟨zr _,fun j hj=>?_⟩
  by_cases e:j=rw
  ·subst e;rw [jab,hw]
  ·rw [jaa e]
 rintro _ _ g ⟨s,v,rfl,hs,rfl,row,old⟩ f ih
 have w1:=w.tl (tl':=tail now hdl (ctZ ct s) no si) hw
 have wg:=w1.old old
 have onx:h.nx<=g.nx:=old.1
 have hwg:g.get rw=some (.cells (V.slice a l.length c :: tail now hdl (ctZ ct s) no si) false):=by
  rw [old.2 rw w.lw,jab]
 by_cases hlt:s<31
 case neg=>
  obtain rfl:s=31:=by omega
  have hcond : ¬ ((31+1:Nat):Int)<=31:=by omega
  have hc0 : ∀ i,0<=ctZ ct 31 i/\ctZ ct 31 i<=1000000:=fun i=>by
   unfold ctZ
   by_cases e:1<=i/\i<=31
   ·rw [zG e];omega
   ·rw [zF e];exact hc i
  obtain ⟨l',h',e,p1,p2,p3⟩:=jbZ hcl (d:=d-1) om wg o hnt hc0
  have c1:Ch (RC rw q) h (h.set rw (.cells (V.slice a l.length c :: tail now hdl (ctZ ct 31) no si) false)):=Ch.set (.inr rfl)
  refine Ga ?_
  refine ⟨l',row.keep p3.nx fun z hz=>p3.get z (row.at_ge hz).2 fun e=>?_,p1,p2,(c1.trans old.ch).trans p3⟩
  have:=(row.at_ge hz).1
  have:=w.lw
  have:=w.lq
  rcases e with e | e<;>omega
 have q1:(V.slice a l.length c :: tail now hdl (ctZ ct s) no si)[0+34+(((s+1:Nat):Int)).toNat*1]?=some (.i (ct (s+1))):=by
  rw [<- ctZ_gt ct s];exact t_ct om om
 have hlen:0+34+(((s+1:Nat):Int)).toNat*1<(V.slice a l.length c :: tail now hdl (ctZ ct s) no si).length:=by simp [jcW];omega
 have hcond:((s+1:Nat):Int)<=31:=by omega
 have hs1:((s+1+1:Nat):Int)=((s+1:Nat):Int)+1:=by omega
 have hb2:=hc (s+1)
 have hsl:=jhk ct s
 by_cases hpos:0<ct (s+1)
 ·have hpos':ct (s+1)>0:=hpos
  have hL:jcg ct (s+1)=jcg ct s++[(((s+1:Nat):Int),ct (s+1))]:=by simp only [jcg,zG hpos]
  refine Ga ?_
  refine Ops.push (N:=h.nx) (new:=[.i ((s+1:Nat):Int),.i (ct (s+1))]) rfl rfl rfl rfl om rfl rfl row onx om om fun v' g' row' hx' hz' hk'=>?_
  have hwg':g'.get rw=some (.cells (V.slice a l.length c :: tail now hdl (ctZ ct s) no si) false):=by
   rw [hk' rw (zu w.lw onx) (fun e=>by have:=row.at_ge e;have:=w.lw;omega),hwg]
  refine Ga ?_
  refine zcs rfl rfl rfl hwg' hlen ?_
  rw [jgS (i:=s+1) om om,jlX]
  refine Ga ?_
  refine ih (31-(s+1)) om _ _ ⟨s+1,v',rfl,by omega,by rw [hs1],?_,?_,?_⟩
  ·rw [hL,zg]
   have:jav (jcg ct s++[(((s+1:Nat):Int),ct (s+1))])=jav (jcg ct s)++[.i ((s+1:Nat):Int),.i (ct (s+1))]:=by simp [jav]
   rw [this]
   refine Row.keep row' Zd fun z hz=>jaa ?_
   have:=hz' z hz
   have:=w.lw
   omega
  ·show h.nx<=g'.nx
   omega
  ·intro j hj
   have hj':j<h.nx:=hj
   by_cases e:j=rw
   ·subst e;rw [jab,jab]
   ·rw [jaa e,jaa e,hk' j om (fun e=>by have:=row.at_ge e;omega),old.2 j hj,jaa e]
 ·have hpos' : ¬ ct (s+1)>0:=hpos
  have hL:jcg ct (s+1)=jcg ct s:=by simp only [jcg,zF hpos,List.append_nil]
  refine Ga ?_
  refine zcs rfl rfl rfl hwg hlen ?_
  rw [jgS (i:=s+1) om om,jlX]
  refine Ga ?_
  refine ih (31-(s+1)) om _ _ ⟨s+1,v,rfl,by omega,by rw [hs1],?_,?_,?_⟩
  ·rw [hL]
   refine Row.keep row Zd fun z hz=>jaa ?_
   have:=row.at_ge hz
   have:=w.lw
   omega
  ·exact onx
  ·intro j hj
   by_cases e:j=rw
   ·subst e;rw [jab,jab]
   ·rw [jaa e,jaa e,old.2 j hj,jaa e]
end
section
variable {cl:Nat->Call} (hcl:Sem cl)
include hcl
end
def WsOne (ws:Ws):Prop := ∀ (i j:Nat) (x y:Wi) (p q:Nat) (m:Int),ws[i]?=some x->ws[j]?=some y->x.waiting[p]?=some m->y.waiting[q]?=some m->i=j/\p=q
structure WsK (ws:Ws):Prop where
 ok:WsOk ws
 one:WsOne ws
def Wi.SubFd (x y:Wi):Prop := ∀ k,k=0\/k=1->(y.e k).what=1->(x.e k).what=1/\(y.e k).fd=(x.e k).fd
theorem Wi.SubFd.refl (x:Wi):x.SubFd x:=fun _ _ h=>⟨h,rfl⟩
theorem Wi.SubFd.trans {x y z:Wi} (a:x.SubFd y) (b:y.SubFd z):x.SubFd z:=fun k hk h=>⟨(a k hk (b k hk h).1).1,by rw [(b k hk h).2,(a k hk (b k hk h).1).2]⟩
theorem w_lt {ws:Ws} {n:Nat} {x:Wi} (hr:ws[n]?=some x):n<ws.length:=by
 rcases zA n ws.length with h | h
 ·exact h
 ·rw [zc h] at hr;cases hr
theorem jpf {ws:Ws} {n:Nat} (h:n<ws.length) : ∃ x,ws[n]?=some x:=⟨_,za h⟩
theorem jdY {ws:Ws} {n m:Nat} {y z:Wi} (h:(ws.set n y)[m]?=some z):(m=n/\z=y)\/(m≠n/\ws[m]?=some z):=by
 rw [zi] at h
 by_cases e:n=m
 ·rw [zG e] at h
  by_cases hl:n<ws.length
  ·rw [zG hl] at h;cases h;exact .inl ⟨e.symm,rfl⟩
  ·rw [zF hl] at h;cases h
 ·rw [zF e] at h;exact .inr ⟨fun h=>e h.symm,h⟩
theorem WsK.mild {ws ws':Ws} (K:WsK ws) (hl:ws'.length=ws.length)
  (h : ∀ (i:Nat) (z':Wi),ws'[i]?=some z' -> ∃ z,ws[i]?=some z/\z.SubFd z'/\WiOk z'/\(∃ c,z'.waiting=z.waiting.drop c)/\(z.e0.what=0->(∃ (j:Nat) (u:Wi),ws'[j]?=some u/\(i:Int)∈u.waiting)->z'.e0.what=0)):WsK ws':=by
 refine ⟨⟨?_,fun x hx=>?_,by rw [hl];exact K.ok.len,fun x hx=>?_⟩,?_⟩
 ·have sub : ∀ n k fd,AtW ws' n k fd->AtW ws n k fd:=by
   rintro n k fd ⟨x,hx,hk,h1,h2⟩
   obtain ⟨z,e1,e2,_⟩:=h n x hx
   exact ⟨z,e1,hk,(e2 k hk h1).1,by rw [<- (e2 k hk h1).2,h2]⟩
  exact fun n k n' k' fd a b=>K.ok.uniq n k n' k' fd (sub _ _ _ a) (sub _ _ _ b)
 ·obtain ⟨i,hi⟩:=Zo.1 hx
  obtain ⟨z,_,_,e,_⟩:=h i x hi
  exact e
 ·obtain ⟨i,hi⟩:=Zo.1 hx
  obtain ⟨z,e1,_,_,⟨c,e2⟩,_⟩:=h i x hi
  obtain ⟨p1,p2⟩:=K.ok.wait z (zb e1)
  refine ⟨by rw [e2,List.length_drop];omega,fun m hm=>?_⟩
  obtain ⟨y,y0,y1,y2⟩:=p2 m (by rw [e2] at hm;exact List.mem_of_mem_drop hm)
  obtain ⟨y',hy'⟩:=jpf (ws:=ws') (n:=m.toNat) (by rw [hl];exact w_lt y1)
  obtain ⟨u,u1,_,_,_,u2⟩:=h _ _ hy'
  rw [y1] at u1;cases u1
  exact ⟨y',y0,hy',u2 y2 ⟨i,x,hi,by rw [Int.toNat_of_nonneg y0];exact hm⟩⟩
 ·intro i j x y p q m hx hy hp hq
  obtain ⟨a,a1,_,_,⟨c,a2⟩,_⟩:=h i x hx
  obtain ⟨b,b1,_,_,⟨c',b2⟩,_⟩:=h j y hy
  rw [a2,zn] at hp
  rw [b2,zn] at hq
  obtain ⟨e1,e2⟩:=K.one i j a b (c+p) (c'+q) m a1 b1 hp hq
  refine ⟨e1,?_⟩
  subst e1
  rw [hx] at hy;cases hy
  rw [a1] at b1;cases b1
  have:=a2.symm.trans b2
  have h1:=congrArg List.length this
  rw [List.length_drop,List.length_drop] at h1
  have h2:c+p<a.waiting.length:=by
   rcases zA (c+p) a.waiting.length with h | h
   ·exact h
   ·rw [zc h] at hp;cases hp
  omega
theorem WsK.set {ws:Ws} {n:Nat} {x y:Wi} (K:WsK ws) (hx:ws[n]?=some x) (hs:x.SubFd y) (hok:WiOk x->WiOk y) (hw:y.waiting=x.waiting) (h0:x.e0.what=0->y.e0.what=0):WsK (ws.set n y):=by
 refine K.mild Zd fun i z' hz=>?_
 rcases jdY hz with ⟨rfl,rfl⟩ | ⟨_,hz⟩
 ·exact ⟨x,hx,hs,hok (K.ok.ok x (zb hx)),⟨0,by rw [hw];rfl⟩,fun h _=>h0 h⟩
 ·exact ⟨z',hz,Wi.SubFd.refl _,K.ok.ok z' (zb hz),⟨0,rfl⟩,fun h _=>h⟩
theorem WsK.set_wait {ws:Ws} {n c:Nat} {x:Wi} (K:WsK ws) (hx:ws[n]?=some x):WsK (ws.set n { x with waiting:=x.waiting.drop c }):=by
 refine K.mild Zd fun i z' hz=>?_
 rcases jdY hz with ⟨rfl,rfl⟩ | ⟨_,hz⟩
 ·have:=K.ok.ok x (zb hx)
  exact ⟨x,hx,Wi.SubFd.refl _,⟨this.cap0,this.cap1,this.len,this.pair,this.out,this.bl,this.wh⟩,⟨c,rfl⟩,fun h _=>h⟩
 ·exact ⟨z',hz,Wi.SubFd.refl _,K.ok.ok z' (zb hz),⟨0,rfl⟩,fun h _=>h⟩
theorem WiOk.of {x y:Wi} (a:WiOk x) (hc:y.cap=x.cap) (hw : ∀ k,k=0\/k=1->(y.e k).writes=(x.e k).writes) (hr : ∀ k,k=0\/k=1->((y.e k).ring=none↔(x.e k).ring=none)) (hl : ∀ k,k=0\/k=1 -> ∀ q,(y.e k).ring=some q->q.length<=x.cap) (ho:y.e1.what=2->x.e1.what=2) (hb:y.backlog=x.backlog:=by rfl) (hv:WhV x->WhV y:=by exact fun h=>h):WiOk y:=by
 refine ⟨by rw [hc];exact a.cap0,by rw [hc];exact a.cap1,fun k hk q hq=>by rw [hc];exact hl k hk q hq,fun k hk=>?_,fun h2=>?_,by rw [hb];exact a.bl,hv a.wh⟩
 ·rw [hw k hk,a.pair k hk,ne_eq,ne_eq]
  refine not_congr ?_
  rcases hk with rfl | rfl
  ·exact (hr 1 (.inr rfl)).symm
  ·exact (hr 0 (.inl rfl)).symm
 ·have:=a.out (ho h2)
  exact ⟨fun e=>this.1 ((hr 0 (.inl rfl)).1 e),fun e=>this.2 ((hr 1 (.inr rfl)).1 e)⟩
theorem WiOk.nil {x:Wi} (a:WiOk x) : ∀ k,k=0\/k=1 -> ∀ q,(x.e k).ring=some q->q.length<=x.cap:=a.len
theorem jgz {x:Wi} {k:Nat} {i o:Bool} (hk:k=0\/k=1):x.SubFd (x.came k i o):=by
 intro j hj
 rcases hk with rfl | rfl<;>rcases hj with rfl | rfl<;>exact fun h=>⟨h,rfl⟩
theorem jgy {x:Wi} {k:Nat} {i o:Bool} (hk:k=0\/k=1) (a:WiOk x):WiOk (x.came k i o):=by
 rcases hk with rfl | rfl
 ·refine a.of rfl (fun j hj=>?_) (fun j hj=>?_) (fun j hj q hq=>?_) fun h=>h
  ·rcases hj with rfl | rfl<;>rfl
  ·rcases hj with rfl | rfl<;>exact Iff.rfl
  ·rcases hj with rfl | rfl
   ·exact a.len 0 Zd q hq
   ·exact a.len 1 Zd q hq
 ·refine a.of rfl (fun j hj=>?_) (fun j hj=>?_) (fun j hj q hq=>?_) fun h=>h
  ·rcases hj with rfl | rfl<;>rfl
  ·rcases hj with rfl | rfl<;>exact Iff.rfl
  ·rcases hj with rfl | rfl
   ·exact a.len 0 Zd q hq
   ·exact a.len 1 Zd q hq
theorem jjs {x:Wi} {k:Nat} {i o:Bool} (hk:k=0\/k=1):(x.came k i o).e0.what=x.e0.what:=by rcases hk with rfl | rfl<;>rfl
theorem jjr {x:Wi} {k:Nat} {i o:Bool} (hk:k=0\/k=1):(x.came k i o).waiting=x.waiting:=by rcases hk with rfl | rfl<;>rfl
theorem jiK {x:Wi} {k:Nat} {q:List UInt8} (hk:k=0\/k=1):x.SubFd (x.setq k q):=by
 intro j hj
 rcases hk with rfl | rfl<;>rcases hj with rfl | rfl<;>exact fun h=>⟨h,rfl⟩
theorem jiJ {x:Wi} {k:Nat} {q q':List UInt8} (hk:k=0\/k=1) (hq:(x.e k).ring=some q) (hl:q'.length<=x.cap) (a:WiOk x):WiOk (x.setq k q'):=by
 rcases hk with rfl | rfl
 ·have hq:x.e0.ring=some q:=hq
  refine a.of rfl (fun j hj=>?_) (fun j hj=>?_) (fun j hj q2 hq2=>?_) fun h=>h
  ·rcases hj with rfl | rfl<;>rfl
  ·rcases hj with rfl | rfl
   ·show (some q'=none)↔x.e0.ring=none
    rw [hq];simp
   ·exact Iff.rfl
  ·rcases hj with rfl | rfl
   ·have:some q'=some q2:=hq2
    cases this;exact hl
   ·exact a.len 1 Zd q2 hq2
 ·have hq:x.e1.ring=some q:=hq
  refine a.of rfl (fun j hj=>?_) (fun j hj=>?_) (fun j hj q2 hq2=>?_) fun h=>h
  ·rcases hj with rfl | rfl<;>rfl
  ·rcases hj with rfl | rfl
   ·exact Iff.rfl
   ·show (some q'=none)↔x.e1.ring=none
    rw [hq];simp
  ·rcases hj with rfl | rfl
   ·exact a.len 0 Zd q2 hq2
   ·have:some q'=some q2:=hq2
    cases this;exact hl
theorem jn3 {x:Wi} {k:Nat} {q:List UInt8} (hk:k=0\/k=1):(x.setq k q).e0.what=x.e0.what:=by rcases hk with rfl | rfl<;>rfl
theorem jn2 {x:Wi} {k:Nat} {q:List UInt8} (hk:k=0\/k=1):(x.setq k q).waiting=x.waiting:=by rcases hk with rfl | rfl<;>rfl
theorem jcq {k:Nat} (hk:k=0\/k=1):1-k=0\/1-k=1:=by omega
theorem WsK.take {ws:Ws} {n k m:Nat} {x:Wi} {q:List UInt8} (K:WsK ws) (hx:ws[n]?=some x) (hk:k=0\/k=1) (hq:(x.e k).ring=some q):WsK (ws.set n (x.take k m q)):=by
 have hl:=(K.ok.ok x (zb hx)).len k hk q hq
 exact K.set hx ((jiK hk).trans (jgz (jcq hk))) (fun a=>jgy (jcq hk) (jiJ hk hq (by rw [List.length_drop];omega) a)) (by unfold Wi.take;rw [jjr (jcq hk),jn2 hk]) (by unfold Wi.take;rw [jjs (jcq hk),jn3 hk];exact id)
theorem WsK.fill {ws:Ws} {n k m:Nat} {x:Wi} {q b:List UInt8} (K:WsK ws) (hx:ws[n]?=some x) (hk:k=0\/k=1) (hq:(x.e (1-k)).ring=some q) (hm:m<=x.cap-q.length):WsK (ws.set n (x.fill k m q b)):=by
 have hl:=(K.ok.ok x (zb hx)).len (1-k) (jcq hk) q hq
 exact K.set hx ((jiK (jcq hk)).trans (jgz (jcq hk))) (fun a=>jgy (jcq hk) (jiJ (jcq hk) hq (by rw [zg,List.length_take];omega) a)) (by unfold Wi.fill;rw [jjr (jcq hk),jn2 (jcq hk)]) (by unfold Wi.fill;rw [jjs (jcq hk),jn3 (jcq hk)];exact id)
theorem WsK.doShut {ws:Ws} {n k:Nat} {x:Wi} (K:WsK ws) (hx:ws[n]?=some x) (hk:k=0\/k=1):WsK (ws.set n (x.doShut k)):=by
 have e:x.SubFd (x.doShut k)/\(WiOk x->WiOk (x.doShut k))/\(x.doShut k).waiting=x.waiting/\(x.e0.what=0->(x.doShut k).e0.what=0):=by
  unfold Wi.doShut
  split
  ·exact ⟨Wi.SubFd.refl x,id,rfl,id⟩
  ·have p:x.SubFd (x.put k { x.e k with shut:=true })/\(WiOk x->WiOk (x.put k { x.e k with shut:=true }))/\(x.put k { x.e k with shut:=true }).waiting=x.waiting/\(x.put k { x.e k with shut:=true }).e0.what=x.e0.what:=by
    rcases hk with rfl | rfl
    ·refine ⟨fun j hj=>by (rcases hj with rfl | rfl<;>exact fun h=>⟨h,rfl⟩),fun a=>⟨a.cap0,a.cap1,fun j hj=>?_,fun j hj=>?_,a.out,a.bl,a.wh⟩,rfl,rfl⟩
     ·have:=a.len j hj;rcases hj with rfl | rfl<;>exact this
     ·have:=a.pair j hj;rcases hj with rfl | rfl<;>exact this
    ·refine ⟨fun j hj=>by (rcases hj with rfl | rfl<;>exact fun h=>⟨h,rfl⟩),fun a=>⟨a.cap0,a.cap1,fun j hj=>?_,fun j hj=>?_,a.out,a.bl,a.wh⟩,rfl,rfl⟩
     ·have:=a.len j hj;rcases hj with rfl | rfl<;>exact this
     ·have:=a.pair j hj;rcases hj with rfl | rfl<;>exact this
   exact ⟨p.1.trans (jgz (jcq hk)),fun a=>jgy (jcq hk) (p.2.1 a),by rw [jjr (jcq hk),p.2.2.1],fun h=>by rw [jjs (jcq hk),p.2.2.2,h]⟩
 exact K.set hx e.1 e.2.1 e.2.2.1 e.2.2.2
theorem jhN {x:Wi} {k:Nat} (hk:k=0\/k=1):x.SubFd (x.close k)/\(WiOk x->WiOk (x.close k))/\(x.close k).waiting=x.waiting/\(x.e0.what=0->k=1->(x.close k).e0.what=0):=by
 have c1:x.SubFd (x.came (1-k) (!(x.e k).shut) true):=jgz (jcq hk)
 have c2:WiOk x->WiOk (x.came (1-k) (!(x.e k).shut) true):=jgy (jcq hk)
 have c3:(x.came (1-k) (!(x.e k).shut) true).waiting=x.waiting:=jjr (jcq hk)
 have c4:(x.came (1-k) (!(x.e k).shut) true).e0.what=x.e0.what:=jjs (jcq hk)
 unfold Wi.close
 generalize x.came (1-k) (!(x.e k).shut) true=y at c1 c2 c3 c4 ⊢
 have p:y.SubFd (y.put k { y.e k with what:=3 })/\(WiOk y->WiOk (y.put k { y.e k with what:=3 }))/\(y.put k { y.e k with what:=3 }).waiting=y.waiting/\(k=1->(y.put k { y.e k with what:=3 }).e0.what=y.e0.what):=by
  rcases hk with rfl | rfl
  ·refine ⟨fun j hj=>?_,fun a=>⟨a.cap0,a.cap1,fun j hj=>?_,fun j hj=>?_,a.out,a.bl,⟨⟨by show (0:Int)<=3;omega,by show (3:Int)<=3;omega⟩,a.wh.2⟩⟩,rfl,fun e=>by cases e⟩
   ·rcases hj with rfl | rfl
    ·intro h
     have h:(3:Int)=1:=h
     omega
    ·exact fun h=>⟨h,rfl⟩
   ·have:=a.len j hj;rcases hj with rfl | rfl<;>exact this
   ·have:=a.pair j hj;rcases hj with rfl | rfl<;>exact this
  ·refine ⟨fun j hj=>?_,fun a=>⟨a.cap0,a.cap1,fun j hj=>?_,fun j hj=>?_,fun h=>?_,a.bl,⟨a.wh.1,by show (0:Int)<=3;omega,by show (3:Int)<=3;omega⟩⟩,rfl,fun _=>rfl⟩
   ·rcases hj with rfl | rfl
    ·exact fun h=>⟨h,rfl⟩
    ·intro h
     have h:(3:Int)=1:=h
     omega
   ·have:=a.len j hj;rcases hj with rfl | rfl<;>exact this
   ·have:=a.pair j hj;rcases hj with rfl | rfl<;>exact this
   ·have h:(3:Int)=2:=h
    omega
 exact ⟨c1.trans p.1,fun a=>p.2.1 (c2 a),by rw [p.2.2.1,c3],fun h hk=>by rw [p.2.2.2 hk,c4,h]⟩
theorem jlq {vs:Ws} {m:Int} : (jd0 vs m).length=vs.length /\ ∀ (i:Nat) (z':Wi),(jd0 vs m)[i]?=some z' -> ∃ z,vs[i]?=some z/\z.SubFd z'/\(WiOk z->WiOk z')/\z'.waiting=z.waiting/\(m.toNat≠i->z'=z):=by
 unfold jd0
 split
 ·exact ⟨rfl,fun i z' h=>⟨z',h,Wi.SubFd.refl _,id,rfl,fun _=>rfl⟩⟩
 ·next x hx=>
  refine ⟨by simp,fun i z' h=>?_⟩
  rcases jdY h with ⟨rfl,rfl⟩ | ⟨hne,h⟩
  ·have c:=jhN (x:=x) (k:=0) (.inl rfl)
   exact ⟨x,hx,c.1,c.2.1,c.2.2.1,fun h=>zM rfl h⟩
  ·exact ⟨z',h,Wi.SubFd.refl _,id,rfl,fun _=>rfl⟩
theorem jg7 : ∀ (L:List Int) (vs:Ws),(jaA vs L).length=vs.length /\ ∀ (i:Nat) (z':Wi),(jaA vs L)[i]?=some z' -> ∃ z,vs[i]?=some z/\z.SubFd z'/\(WiOk z->WiOk z')/\z'.waiting=z.waiting/\((∀ m∈L,m.toNat≠i)->z'=z)
 | [],vs=>⟨rfl,fun i z' h=>⟨z',h,Wi.SubFd.refl _,id,rfl,fun _=>rfl⟩⟩
 | m :: L,vs=>by
  obtain ⟨a1,a2⟩:=jg7 L (jd0 vs m)
  obtain ⟨b1,b2⟩:=jlq (vs:=vs) (m:=m)
  refine ⟨by rw [jaA,a1,b1],fun i z' h=>?_⟩
  obtain ⟨y,h1,s1,o1,w1,n1⟩:=a2 i z' h
  obtain ⟨z,h2,s2,o2,w2,n2⟩:=b2 i y h1
  refine ⟨z,h2,s2.trans s1,fun a=>o1 (o2 a),by rw [w1,w2],fun hn=>?_⟩
  rw [n1 fun m' hm'=>hn m' (zm _ hm'),n2 (hn m (zj ..))]
theorem WsK.close {ws:Ws} {n k:Nat} {x:Wi} (K:WsK ws) (hx:ws[n]?=some x) (hk:k=0\/k=1) (h1:(x.e k).what=1):WsK (noWait (jaA (ws.set n (x.close k)) x.waiting) n):=by
 obtain ⟨a1,a2⟩:=jg7 x.waiting (ws.set n (x.close k))
 have c:=jhN (x:=x) hk
 have hn:=w_lt hx
 obtain ⟨u,hu⟩:=jpf (ws:=jaA (ws.set n (x.close k)) x.waiting) (n:=n) (by rw [a1];simpa using hn)
 have e:noWait (jaA (ws.set n (x.close k)) x.waiting) n=(jaA (ws.set n (x.close k)) x.waiting).set n { u with waiting:=[] } := by
  unfold noWait;rw [hu]
 rw [e]
 refine K.mild (by rw [List.length_set,a1,List.length_set]) fun i z' hz=>?_
 have back : ∀ (i:Nat) (z:Wi),(ws.set n (x.close k))[i]?=some z -> ∃ y,ws[i]?=some y/\y.SubFd z/\(WiOk y->WiOk z)/\z.waiting=y.waiting/\(y.e0.what=0->z.e0.what=0):=by
  intro i z hz
  rcases jdY hz with ⟨rfl,rfl⟩ | ⟨_,hz⟩
  ·refine ⟨x,hx,c.1,c.2.1,c.2.2.1,fun h=>c.2.2.2 h ?_⟩
   rcases hk with rfl | rfl
   ·have h1:x.e0.what=1:=h1
    omega
   ·rfl
  ·exact ⟨z,hz,Wi.SubFd.refl _,id,rfl,id⟩
 rcases jdY hz with ⟨rfl,rfl⟩ | ⟨hne,hz⟩
 ·obtain ⟨z,z1,z2,z3,z4,z5⟩:=a2 _ _ hu
  obtain ⟨y,y1,y2,y3,y4,y5⟩:=back _ _ z1
  have yo:=z3 (y3 (K.ok.ok y (zb y1)))
  refine ⟨y,y1,fun j hj h=>(y2.trans z2) j hj (by rcases hj with rfl | rfl<;>exact h) |>.imp id fun e=>by (rcases hj with rfl | rfl<;>exact e),⟨yo.cap0,yo.cap1,yo.len,yo.pair,yo.out,yo.bl,yo.wh⟩,⟨y.waiting.length,by simp⟩,?_⟩
  rintro h0 ⟨j,v,hv,hm⟩
  show u.e0.what=0
  rw [z5 ?_]
  ·exact y5 h0
  rintro m hm2 rfl
  rcases jdY hv with ⟨rfl,rfl⟩ | ⟨hj,hv⟩
  ·simp at hm
  ·obtain ⟨z',z1',_,_,z4',_⟩:=a2 _ _ hv
   rcases jdY z1' with ⟨rfl,_⟩ | ⟨_,z1'⟩
   ·exact hj rfl
   rw [z4'] at hm
   have m0:0<=m:=by obtain ⟨y,y0,_⟩:=(K.ok.wait x (zb hx)).2 m hm2;exact y0
   rw [Int.toNat_of_nonneg m0] at hm
   obtain ⟨p,hp⟩:=Zo.1 hm
   obtain ⟨q,hq⟩:=Zo.1 hm2
   exact hj (K.one j _ z' x p q m z1' hx hp hq).1
 ·obtain ⟨z,z1,z2,z3,z4,z5⟩:=a2 _ _ hz
  obtain ⟨y,y1,y2,y3,y4,y5⟩:=back _ _ z1
  refine ⟨y,y1,y2.trans z2,z3 (y3 (K.ok.ok y (zb y1))),⟨0,by rw [z4,y4];rfl⟩,?_⟩
  rintro h0 ⟨j,v,hv,hm⟩
  rw [z5 ?_]
  ·exact y5 h0
  rintro m hm2 rfl
  rcases jdY hv with ⟨rfl,rfl⟩ | ⟨hj,hv⟩
  ·simp at hm
  ·obtain ⟨z',z1',_,_,z4',_⟩:=a2 _ _ hv
   rcases jdY z1' with ⟨rfl,_⟩ | ⟨_,z1'⟩
   ·exact hj rfl
   rw [z4'] at hm
   have m0:0<=m:=by obtain ⟨y,y0,_⟩:=(K.ok.wait x (zb hx)).2 m hm2;exact y0
   rw [Int.toNat_of_nonneg m0] at hm
   obtain ⟨p,hp⟩:=Zo.1 hm
   obtain ⟨q,hq⟩:=Zo.1 hm2
   exact hj (K.one j n z' x p q m z1' hx hp hq).1
theorem atS_at {ws:Ws} {fd:Int} {n k:Nat} (h:atS ws fd=some (n,k)):AtW ws n k fd:=by
 unfold atS at h
 split at h
 ·next hx=>
  have:=hx.choose_spec
  rw [Option.some.inj h] at this
  exact this
 ·cases h
theorem jog {ws:Ws} {fd:Int} (h:atS ws fd=none) : ∀ n k,¬ AtW ws n k fd:=by
 intro n k a
 unfold atS at h
 rw [dif_pos ⟨(n,k),a⟩] at h
 cases h
theorem jbp {α : Type} {P : α -> Prop} {ws:Ws} {fd:Int} {no : α} {f:Nat->Nat->Wi -> α} (hno:P no) (h : ∀ n k x,ws[n]?=some x->(k=0\/k=1)->(x.e k).what=1->P (f n k x)):P (jcs ws fd no f):=by
 unfold jcs
 cases e:atS ws fd with
 | none=>exact hno
 | some p=>
  obtain ⟨n,k⟩:=p
  obtain ⟨x,hx,hk,h1,_⟩:=atS_at e
  simp only [hx]
  exact h n k x hx hk h1
theorem jbr {α : Type} {P : α -> Prop} {ws:Ws} {n:Int} {no : α} {f:Nat->Wi -> α} (hno:P no) (h : ∀ n x,ws[n]?=some x->x.e1.what=2->P (f n x)):P (jcV ws n no f):=by
 unfold jcV
 split
 ·split
  ·exact hno
  ·next x hx=>
   split
   ·next h2=>exact h _ _ hx h2
   ·exact hno
 ·exact hno
theorem readS_ok {ws:Ws} {fd many:Int} (K:WsK ws):WsK (jbU ws fd many).2:=by
 unfold jbU
 refine jbp (P:=fun r:_ × Ws=>WsK r.2) K fun n k x hx hk h1=>?_
 split
 ·exact K
 ·next q hq=>
  repeat' split
  all_goals first | exact K | exact K.take hx hk hq
theorem writeS_ok {ws:Ws} {fd:Int} {b:List UInt8} (K:WsK ws):WsK (jb8 ws fd b).2:=by
 unfold jb8
 refine jbp (P:=fun r:_ × Ws=>WsK r.2) K fun n k x hx hk h1=>?_
 split
 ·exact K
 split
 ·exact K
 split
 ·exact K
 split
 ·exact K
 split
 ·exact K
 ·next q hq=>
  split
  ·exact K.fill hx hk hq (Zm _)
  ·exact K.fill hx hk hq (Nat.min_le_right _ _)
theorem shutS_ok {ws:Ws} {fd:Int} (K:WsK ws):WsK (jd5 ws fd).2:=by
 unfold jd5
 refine jbp (P:=fun r:_ × Ws=>WsK r.2) K fun n k x hx hk h1=>?_
 split
 ·exact K
 ·exact K.doShut hx hk
theorem closeS_ok {ws:Ws} {fd:Int} (K:WsK ws):WsK (jca ws fd).2:=by
 unfold jca
 exact jbp (P:=fun r:_ × Ws=>WsK r.2) K fun n k x hx hk h1=>K.close hx hk h1
theorem putS_ok {ws:Ws} {n:Int} {b:List UInt8} (K:WsK ws):WsK (putS ws n b).2:=by
 unfold putS
 refine jbr (P:=fun r:_ × Ws=>WsK r.2) K fun n x hx h2=>?_
 split
 ·exact K
 split
 ·exact K
 split
 ·exact K
 ·next q hq=>exact K.fill hx (.inr rfl) hq (Nat.min_le_right _ _)
theorem takeS_ok {ws:Ws} {n many:Int} (K:WsK ws):WsK (jcb ws n many).2:=by
 unfold jcb
 refine jbr (P:=fun r:_ × Ws=>WsK r.2) K fun n x hx h2=>?_
 split
 ·exact K
 split
 ·exact K
 split
 ·exact K
 ·next q hq=>exact K.take hx (.inr rfl) hq
theorem jjX {ws:Ws} {n:Int} (K:WsK ws):WsK (ja6 ws n).2 :=
 jbr (P:=fun r:_ × Ws=>WsK r.2) K fun _ _ hx _=>K.doShut hx (.inr rfl)
theorem jja {ws:Ws} {n:Int} (K:WsK ws):WsK (ja1 ws n).2 :=
 jbr (P:=fun r:_ × Ws=>WsK r.2) K fun _ _ hx _=>
  have c:=jhN (k:=1) (.inr rfl)
  K.set hx c.1 c.2.1 c.2.2.1 fun h=>c.2.2.2 h rfl
theorem resetS_ok {ws:Ws} {n:Int} (K:WsK ws):WsK (jbL ws n).2:=by
 unfold jbL
 refine jbr (P:=fun r:_ × Ws=>WsK r.2) K fun n x hx h2=>?_
 have o:=K.ok.ok x (zb hx)
 obtain ⟨q0,q1⟩:=o.out h2
 obtain ⟨a,ha⟩ : ∃ a,x.e0.ring=some a:=zN.1 q0
 obtain ⟨b,hb⟩ : ∃ b,x.e1.ring=some b:=zN.1 q1
 have e:x.SubFd x.doReset/\(WiOk x->WiOk x.doReset)/\x.doReset.waiting=x.waiting/\x.doReset.e0.what=x.e0.what:=by
  unfold Wi.doReset
  split
  ·exact ⟨Wi.SubFd.refl x,id,rfl,rfl⟩
  ·have z0:(0:Nat)=0\/(0:Nat)=1 := .inl rfl
   have z1:(1:Nat)=0\/(1:Nat)=1 := .inr rfl
   have p0:x.SubFd { x with reset:=true } /\ (WiOk x->WiOk { x with reset:=true }):=by
    refine ⟨fun j hj=>by (rcases hj with rfl | rfl<;>exact fun h=>⟨h,rfl⟩),fun a=>⟨a.cap0,a.cap1,fun j hj=>?_,fun j hj=>?_,a.out,a.bl,a.wh⟩⟩
    ·have:=a.len j hj;rcases hj with rfl | rfl<;>exact this
    ·have:=a.pair j hj;rcases hj with rfl | rfl<;>exact this
   refine ⟨(((p0.1.trans (jiK z0)).trans (jgz z0)).trans (jiK z1)).trans (jgz z1),fun o=>jgy z1 (jiJ (q:=b) z1 hb (Zm _) (jgy z0 (jiJ (q:=a) z0 ha (Zm _) (p0.2 o)))),rfl,rfl⟩
 exact K.set hx e.1 e.2.1 e.2.2.1 fun h=>by rw [e.2.2.2,h]
theorem jdR {ws:Ws} {x:Wi} {n k:Nat} {fd:Int} (h:AtW (ws++[x]) n k fd):AtW ws n k fd\/(n=ws.length/\(k=0\/k=1)/\(x.e k).what=1/\(x.e k).fd=fd):=by
 obtain ⟨y,hy,hk,h1,h2⟩:=h
 rcases zA n ws.length with hl | hl
 ·rw [ze,zG hl] at hy
  exact .inl ⟨y,hy,hk,h1,h2⟩
 ·rw [ze,zF om] at hy
  have:n-ws.length=0:=by
   rcases Nat.eq_zero_or_pos (n-ws.length) with e | e
   ·exact e
   ·rw [zc (show 1<=_ from e)] at hy;cases hy
  rw [this] at hy
  cases hy
  exact .inr ⟨by omega,hk,h1,h2⟩
theorem jiX {ws:Ws} {x y:Wi} {n:Nat} (h:(ws++[x])[n]?=some y):ws[n]?=some y\/(n=ws.length/\y=x):=by
 rcases zA n ws.length with hl | hl
 ·rw [ze,zG hl] at h
  exact .inl h
 ·rw [ze,zF om] at h
  have:n-ws.length=0:=by
   rcases Nat.eq_zero_or_pos (n-ws.length) with e | e
   ·exact e
   ·rw [zc (show 1<=_ from e)] at h;cases h
  rw [this] at h
  cases h
  exact .inr ⟨by omega,rfl⟩
theorem je6 {ws:Ws} {x y:Wi} {n:Nat} (h:ws[n]?=some y):(ws++[x])[n]?=some y:=by rw [ze,zG (w_lt h),h]
theorem push_uniq {ws:Ws} {x:Wi} (u:Uniq ws) (hf : ∀ k,k=0\/k=1->(x.e k).what=1 -> ∀ n j,¬ AtW ws n j (x.e k).fd) (h2:x.e0.what=1->x.e1.what=1->x.e0.fd≠x.e1.fd):Uniq (ws++[x]):=by
 intro n k n' k' fd a b
 rcases jdR a with a | ⟨rfl,hk,w1,f1⟩
 ·rcases jdR b with b | ⟨rfl,hk',w1,f1⟩
  ·exact u _ _ _ _ _ a b
  ·exact zM (by rw [f1];exact a) (hf k' hk' w1 n k)
 ·rcases jdR b with b | ⟨rfl,hk',w2,f2⟩
  ·exact zM (by rw [f1];exact b) (hf k hk w1 n' k')
  ·refine ⟨rfl,?_⟩
   rcases hk with rfl | rfl<;>rcases hk' with rfl | rfl
   ·rfl
   ·exact zM (f1.trans f2.symm) (h2 w1 w2)
   ·exact zM (f2.trans f1.symm) (h2 w2 w1)
   ·rfl
theorem WsK.push {ws:Ws} {x:Wi} (K:WsK ws) (ox:WiOk x) (hw:x.waiting=[]) (hl:ws.length<1000) (hf : ∀ k,k=0\/k=1->(x.e k).what=1 -> ∀ n j,¬ AtW ws n j (x.e k).fd) (h2:x.e0.what=1->x.e1.what=1->x.e0.fd≠x.e1.fd):WsK (ws++[x]):=by
 refine ⟨⟨push_uniq K.ok.uniq hf h2,fun y hy=>?_,by rw [zg];show ws.length+1<=1000;omega,fun y hy=>?_⟩,?_⟩
 ·rcases zR.1 hy with h | h
  ·exact K.ok.ok y h
  ·obtain rfl:y=x:=by simpa using h
   exact ox
 ·rcases zR.1 hy with h | h
  ·obtain ⟨p1,p2⟩:=K.ok.wait y h
   refine ⟨p1,fun m hm=>?_⟩
   obtain ⟨z,z0,z1,z2⟩:=p2 m hm
   exact ⟨z,z0,je6 z1,z2⟩
  ·obtain rfl:y=x:=by simpa using h
   rw [hw];simp
 ·intro i j a b p q m ha hb hp hq
  rcases jiX ha with ha | ⟨rfl,rfl⟩
  ·rcases jiX hb with hb | ⟨rfl,rfl⟩
   ·exact K.one i j a b p q m ha hb hp hq
   ·rw [hw] at hq;simp at hq
  ·rw [hw] at hp;simp at hp
theorem jeq {ws:Ws} {n:Nat} {f:Int} (h:f∈jaw ws n) : ∃ i:Nat,f=i/\i<n/\atS ws f=none:=by
 unfold jaw at h
 obtain ⟨i,hi,rfl⟩:=List.mem_map.1 h
 obtain ⟨p1,p2⟩:=List.mem_filter.1 hi
 refine ⟨i,rfl,by simpa using p1,?_⟩
 simpa using p2
theorem jhA (ws:Ws) (n:Nat):(jaw ws n).Nodup:=by
 unfold jaw
 exact (List.Pairwise.filter _ List.nodup_range).map _ fun a b (h:a≠b)=>by show (a:Int)≠(b:Int);omega
theorem jdL {ws:Ws} {kind n:Int} (hk:kind=0\/kind=1\/kind=2\/kind=3) (K:WsK ws):WsK (jah ws kind n).2:=by
 unfold jah
 split
 ·exact K
 next hb=>
 split
 ·exact K
 next f0 fs hF=>
 split
 ·exact K
 next hbad=>
 have hn:1<=n/\n<=65536:=by omega
 have hnt:1<=n.toNat/\n.toNat<=65536:=by omega
 obtain ⟨i0,e0,_,a0⟩:=jeq (ws:=ws) (n:=96) (f:=f0) (by rw [hF];simp)
 have n0:=jog a0
 have nd:=jhA ws 96
 rw [hF] at nd
 have h1:kind<2 -> ∃ f1,fs.headD 0=f1/\f0≠f1 /\ ∀ n k,¬ AtW ws n k f1:=by
  intro h
  cases fs with
  | nil=>exact zM (.inl ⟨rfl,h⟩) hbad
  | cons f1 r=>
   obtain ⟨i1,e1,_,a1⟩:=jeq (ws:=ws) (n:=96) (f:=f1) (by rw [hF];simp)
   refine ⟨f1,rfl,fun e=>?_,jog a1⟩
   subst e
   exact zM nd Zd
 have hlen:ws.length<1000:=by omega
 have two1 : ∀ {x:Wi},x.e0.fd=f0->(x.e1.what=1->x.e1.fd=fs.headD 0/\kind<2) -> ∀ k,k=0\/k=1->(x.e k).what=1 -> ∀ n j,¬ AtW ws n j (x.e k).fd:=by
  intro x p0 p1 k hk h
  rcases hk with rfl | rfl
  ·show ∀ n j,¬ AtW ws n j x.e0.fd
   rw [p0];exact n0
  ·obtain ⟨q1,q2⟩:=p1 h
   obtain ⟨f1,r1,_,r2⟩:=h1 q2
   show ∀ n j,¬ AtW ws n j x.e1.fd
   rw [q1,r1];exact r2
 have mk : ∀ (x:Wi),(∀ k,k=0\/k=1 -> ∀ q,(x.e k).ring=some q->q=[])->x.cap=n.toNat->(∀ k,k=0\/k=1->((x.e k).writes=true↔(x.e (1-k)).ring≠none))->(x.e1.what=2->x.e0.ring≠none/\x.e1.ring≠none)->0<=x.backlog/\x.backlog<=64->WhV x->WiOk x:=by
  intro x p1 p2 p3 p4 p5 p6
  exact ⟨by rw [p2];exact hnt.1,by rw [p2];exact hnt.2,fun k hk q hq=>by rw [p1 k hk q hq];exact Zm _,p3,p4,p5,p6⟩
 rcases hk with rfl | rfl | rfl | rfl
 ·have e:newW 0 n f0 (fs.headD 0)=⟨⟨1,f0,some [],false,false,0,0⟩,⟨1,fs.headD 0,none,true,false,0,0⟩,n.toNat,false,0,[]⟩:=rfl
  refine K.push (mk _ (fun k hk q hq=>?_) rfl (fun k hk=>?_) (fun h=>?_) ?_ ⟨⟨zL rfl,zL rfl⟩,zL rfl,zL rfl⟩) rfl hlen (two1 rfl fun _=>⟨rfl,by omega⟩) fun _ _=>?_
  ·rcases hk with rfl | rfl
   ·have:some []=some q:=hq
    cases this;rfl
   ·have:none=some q:=hq
    cases this
  ·rcases hk with rfl | rfl
   ·show (false=true↔(none:Option (List UInt8))≠none);simp
   ·show (true=true↔some ([]:List UInt8)≠none);simp
  ·have h:(1:Int)=2:=h
   omega
  ·show (0:Int)<=0/\(0:Int)<=64;omega
  ·obtain ⟨f1,r1,r0,_⟩:=h1 om
   show f0≠fs.headD 0
   rw [r1];exact r0
 ·refine K.push (mk _ (fun k hk q hq=>?_) rfl (fun k hk=>?_) (fun h=>?_) ?_ ⟨⟨zL rfl,zL rfl⟩,zL rfl,zL rfl⟩) rfl hlen (two1 rfl fun _=>⟨rfl,by omega⟩) fun _ _=>?_
  ·rcases hk with rfl | rfl
   ·have:some []=some q:=hq
    cases this;rfl
   ·have:some []=some q:=hq
    cases this;rfl
  ·rcases hk with rfl | rfl
   ·show (true=true↔some ([]:List UInt8)≠none);simp
   ·show (true=true↔some ([]:List UInt8)≠none);simp
  ·have h:(1:Int)=2:=h
   omega
  ·show (0:Int)<=0/\(0:Int)<=64;omega
  ·obtain ⟨f1,r1,r0,_⟩:=h1 om
   show f0≠fs.headD 0
   rw [r1];exact r0
 ·refine K.push (mk _ (fun k hk q hq=>?_) rfl (fun k hk=>?_) (fun h=>?_) ?_ ⟨⟨zL rfl,zL rfl⟩,zL rfl,zL rfl⟩) rfl hlen (two1 rfl fun h=>?_) fun _ h=>?_
  ·rcases hk with rfl | rfl
   ·have:some []=some q:=hq
    cases this;rfl
   ·have:some []=some q:=hq
    cases this;rfl
  ·rcases hk with rfl | rfl
   ·show (true=true↔some ([]:List UInt8)≠none);simp
   ·show (true=true↔some ([]:List UInt8)≠none);simp
  ·exact ⟨by show some []≠none;simp,by show some []≠none;simp⟩
  ·show (0:Int)<=0/\(0:Int)<=64;omega
  ·have h:(2:Int)=1:=h
   omega
  ·have h:(2:Int)=1:=h
   omega
 ·refine K.push (mk _ (fun k hk q hq=>?_) rfl (fun k hk=>?_) (fun h=>?_) ?_ ⟨⟨zL rfl,zL rfl⟩,zL rfl,zL rfl⟩) rfl hlen (two1 rfl fun h=>?_) fun _ h=>?_
  ·rcases hk with rfl | rfl
   ·have:none=some q:=hq
    cases this
   ·have:none=some q:=hq
    cases this
  ·rcases hk with rfl | rfl
   ·show (false=true↔(none:Option (List UInt8))≠none);simp
   ·show (false=true↔(none:Option (List UInt8))≠none);simp
  ·have h:(0:Int)=2:=h
   omega
  ·show 0<=n/\n<=64;omega
  ·have h:(0:Int)=1:=h
   omega
  ·have h:(0:Int)=1:=h
   omega
theorem jfR {ws:Ws} {m n k:Nat} {f fd:Int} {y:Wi} (hy:ws[m]?=some y) (h:AtW (ws.set m (y.put 0 { y.e 0 with what:=1,fd:=f })) n k fd):(n=m/\k=0/\fd=f)\/(AtW ws n k fd/\(n=m->k=1)):=by
 obtain ⟨x,hx,hk,h1,h2⟩:=h
 rcases jdY hx with ⟨rfl,rfl⟩ | ⟨hne,hx⟩
 ·rcases hk with rfl | rfl
  ·exact .inl ⟨rfl,rfl,h2.symm⟩
  ·exact .inr ⟨⟨y,hy,.inr rfl,h1,h2⟩,fun _=>rfl⟩
 ·exact .inr ⟨⟨x,hx,hk,h1,h2⟩,fun e=>zM e hne⟩
theorem WsK.seat {ws:Ws} {m:Nat} {f:Int} {y:Wi} (K:WsK ws) (hy:ws[m]?=some y) (hf : ∀ n k,¬ AtW ws n k f) (hw : ∀ (j:Nat) (u:Wi),ws[j]?=some u->(m:Int) ∉ u.waiting):WsK (ws.set m (y.put 0 { y.e 0 with what:=1,fd:=f })):=by
 have key : ∀ (i:Nat) (z':Wi),(ws.set m (y.put 0 { y.e 0 with what:=1,fd:=f }))[i]?=some z' -> ∃ z,ws[i]?=some z/\z'.waiting=z.waiting/\WiOk z'/\(i≠m->z'=z):=by
  intro i z' hz
  rcases jdY hz with ⟨rfl,rfl⟩ | ⟨hne,hz⟩
  ·have a:=K.ok.ok y (zb hy)
   refine ⟨y,hy,rfl,⟨a.cap0,a.cap1,fun j hj=>?_,fun j hj=>?_,a.out,a.bl,⟨by show (0:Int)<=1;omega,by show (1:Int)<=3;omega⟩,a.wh.2⟩,fun h=>zM rfl h⟩
   ·have:=a.len j hj;rcases hj with rfl | rfl<;>exact this
   ·have:=a.pair j hj;rcases hj with rfl | rfl<;>exact this
  ·exact ⟨z',hz,rfl,K.ok.ok z' (zb hz),fun _=>rfl⟩
 refine ⟨⟨?_,fun x hx=>?_,by rw [List.length_set];exact K.ok.len,fun x hx=>?_⟩,?_⟩
 ·intro n k n' k' fd a b
  rcases jfR hy a with ⟨h1,h2,h3⟩ | ⟨a2,_⟩
  ·rcases jfR hy b with ⟨h4,h5,_⟩ | ⟨b2,_⟩
   ·exact ⟨h1.trans h4.symm,h2.trans h5.symm⟩
   ·rw [h3] at b2;exact zM b2 (hf _ _)
  ·rcases jfR hy b with ⟨_,_,h3⟩ | ⟨b2,_⟩
   ·rw [h3] at a2;exact zM a2 (hf _ _)
   ·exact K.ok.uniq _ _ _ _ _ a2 b2
 ·obtain ⟨i,hi⟩:=Zo.1 hx
  obtain ⟨_,_,_,h,_⟩:=key i x hi
  exact h
 ·obtain ⟨i,hi⟩:=Zo.1 hx
  obtain ⟨z,z1,z2,_,_⟩:=key i x hi
  rw [z2]
  obtain ⟨p1,p2⟩:=K.ok.wait z (zb z1)
  refine ⟨p1,fun q hq=>?_⟩
  obtain ⟨u,u0,u1,u2⟩:=p2 q hq
  have hne:m≠q.toNat:=by
   rintro rfl
   refine hw i z z1 ?_
   rw [Int.toNat_of_nonneg u0];exact hq
  exact ⟨u,u0,by rw [zi,zF hne,u1],u2⟩
 ·intro i j a b p q v ha hb hp hq
  obtain ⟨a',a1,a2,_⟩:=key i a ha
  obtain ⟨b',b1,b2,_⟩:=key j b hb
  rw [a2] at hp
  rw [b2] at hq
  exact K.one i j a' b' p q v a1 b1 hp hq
theorem jgZ {ws:Ws} {n m k:Nat} {fd:Int} {x:Wi} {wt:List Int} (hx:ws[n]?=some x):AtW (ws.set n { x with waiting:=wt }) m k fd↔AtW ws m k fd:=by
 constructor
 ·rintro ⟨y,hy,hk,h1,h2⟩
  rcases jdY hy with ⟨rfl,rfl⟩ | ⟨_,hy⟩
  ·exact ⟨x,hx,hk,by rcases hk with rfl | rfl<;>exact h1,by rcases hk with rfl | rfl<;>exact h2⟩
  ·exact ⟨y,hy,hk,h1,h2⟩
 ·rintro ⟨y,hy,hk,h1,h2⟩
  by_cases e:m=n
  ·subst e
   rw [hx] at hy;cases hy
   exact ⟨_,by rw [zi,zG rfl,zG (w_lt hx)],hk,by rcases hk with rfl | rfl<;>exact h1,by rcases hk with rfl | rfl<;>exact h2⟩
  ·exact ⟨y,by rw [zi,zF (fun h=>e h.symm),hy],hk,h1,h2⟩
theorem ji7 {ws:Ws} {fd:Int} (K:WsK ws):WsK (jaz ws fd).2:=by
 unfold jaz
 refine jbp (P:=fun r:_ × Ws=>WsK r.2) K fun n k x hx hk h1=>?_
 split
 ·exact K
 split
 ·exact K
 next m rest hw=>
 split
 ·exact K
 next f fs hF=>
 split
 ·exact K
 next y hy=>
 have e:({ x with waiting:=rest } : Wi) = { x with waiting:=x.waiting.drop 1 } := by rw [hw];rfl
 have K1:=K.set_wait (c:=1) hx
 rw [<- e] at K1
 obtain ⟨i,_,_,hf⟩:=jeq (ws:=ws) (n:=96) (f:=f) (by rw [hF];simp)
 have nf:=jog hf
 refine K1.seat hy (fun a b h=>nf a b ((jgZ hx).1 h)) fun j u hu hm=>?_
 have m0:0<=m:=by
  obtain ⟨z,z0,_⟩:=(K.ok.wait x (zb hx)).2 m (by rw [hw];simp)
  exact z0
 rw [Int.toNat_of_nonneg m0] at hm
 obtain ⟨q,hq⟩:=Zo.1 hm
 rcases jdY hu with ⟨rfl,rfl⟩ | ⟨hne,hu⟩
 ·have:=(K.one j j x x 0 (q+1) m hx hx (by rw [hw];rfl) (by rw [hw];exact hq)).2
  omega
 ·exact hne (K.one j n u x q 0 m hu hx hq (by rw [hw];rfl)).1
theorem WsK.waits {ws:Ws} {n:Nat} {x y y2:Wi} {m:Int} (K:WsK ws) (hx:ws[n]?=some x) (hs:x.SubFd y) (hok:WiOk y) (hw:y.waiting=x.waiting++[m]) (h64:x.waiting.length<64) (h0:x.e0.what=0->y.e0.what=0)
  (m0:0<=m) (hm:ws[m.toNat]?=some y2) (hm2:y2.e0.what=0) (hno : ∀ (j:Nat) (u:Wi),ws[j]?=some u->m ∉ u.waiting):WsK (ws.set n y):=by
 have old : ∀ (p:Nat) (v:Int),y.waiting[p]?=some v->(x.waiting[p]?=some v)\/(v=m/\p=x.waiting.length):=by
  intro p v h
  rw [hw] at h
  rcases zA p x.waiting.length with hl | hl
  ·rw [ze,zG hl] at h;exact .inl h
  ·rw [ze,zF om] at h
   have:p-x.waiting.length=0:=by
    rcases Nat.eq_zero_or_pos (p-x.waiting.length) with e | e
    ·exact e
    ·rw [zc (show 1<=_ from e)] at h;cases h
   rw [this] at h;cases h
   exact .inr ⟨rfl,by omega⟩
 have tgt : ∀ (v:Int) (u:Wi),0<=v->ws[v.toNat]?=some u->u.e0.what=0 -> ∃ u':Wi,0<=v/\(ws.set n y)[v.toNat]?=some u'/\u'.e0.what=0:=by
  intro v u v0 hu hu0
  by_cases e:n=v.toNat
  ·rw [<- e,hx] at hu;cases hu
   exact ⟨y,v0,by rw [zi,zG e,zG (w_lt hx)],h0 hu0⟩
  ·exact ⟨u,v0,by rw [zi,zF e,hu],hu0⟩
 refine ⟨⟨?_,fun z hz=>?_,by rw [List.length_set];exact K.ok.len,fun z hz=>?_⟩,?_⟩
 ·have sub : ∀ i k fd,AtW (ws.set n y) i k fd->AtW ws i k fd:=by
   rintro i k fd ⟨z,hz,hk,h1,h2⟩
   rcases jdY hz with ⟨rfl,rfl⟩ | ⟨_,hz⟩
   ·exact ⟨x,hx,hk,(hs k hk h1).1,by rw [<- (hs k hk h1).2,h2]⟩
   ·exact ⟨z,hz,hk,h1,h2⟩
  exact fun a k b k' fd p q=>K.ok.uniq a k b k' fd (sub _ _ _ p) (sub _ _ _ q)
 ·rcases List.mem_or_eq_of_mem_set hz with h | rfl
  ·exact K.ok.ok z h
  ·exact hok
 ·rcases List.mem_or_eq_of_mem_set hz with h | rfl
  ·obtain ⟨p1,p2⟩:=K.ok.wait z h
   refine ⟨p1,fun v hv=>?_⟩
   obtain ⟨u,u0,u1,u2⟩:=p2 v hv
   exact tgt v u u0 u1 u2
  ·obtain ⟨p1,p2⟩:=K.ok.wait x (zb hx)
   rw [hw]
   refine ⟨by rw [zg];show _+1<=64;omega,fun v hv=>?_⟩
   rcases zR.1 hv with h | h
   ·obtain ⟨u,u0,u1,u2⟩:=p2 v h
    exact tgt v u u0 u1 u2
   ·obtain rfl:v=m:=by simpa using h
    exact tgt v y2 m0 hm hm2
 ·intro i j a b p q v ha hb hp hq
  rcases jdY ha with ⟨rfl,rfl⟩ | ⟨hi,ha2⟩
  ·rcases jdY hb with ⟨rfl,rfl⟩ | ⟨hj,hb2⟩
   ·refine ⟨rfl,?_⟩
    rcases old p v hp with h1 | ⟨rfl,h1⟩
    ·rcases old q v hq with h2 | ⟨rfl,h2⟩
     ·exact (K.one j j x x p q v hx hx h1 h2).2
     ·exact zM (zb h1) (hno j x hx)
    ·rcases old q v hq with h2 | ⟨_,h2⟩
     ·exact zM (zb h2) (hno j x hx)
     ·omega
   ·rcases old p v hp with h1 | ⟨rfl,h1⟩
    ·exact K.one _ j x b p q v hx hb2 h1 hq
    ·exact zM (zb hq) (hno j b hb2)
  ·rcases jdY hb with ⟨rfl,rfl⟩ | ⟨hj,hb2⟩
   ·rcases old q v hq with h1 | ⟨rfl,h1⟩
    ·exact K.one i _ a x p q v ha2 hx hp h1
    ·exact zM (zb hp) (hno i a ha2)
   ·exact K.one i j a b p q v ha2 hb2 hp hq
theorem jla {many:Int} (h1:1<=many) (h2:many<=65536):WiOk (jbf many):=by
 refine ⟨by show 1<=many.toNat;omega,by show many.toNat<=65536;omega,fun k hk q hq=>?_,fun k hk=>?_,fun _=>⟨by show some []≠none;simp,by show some []≠none;simp⟩,by show (0:Int)<=0/\(0:Int)<=64;omega,⟨zL rfl,zL rfl⟩,zL rfl,zL rfl⟩
 ·rcases hk with rfl | rfl
  ·have:some []=some q:=hq
   cases this;exact Zm _
  ·have:some []=some q:=hq
   cases this;exact Zm _
 ·rcases hk with rfl | rfl
  ·show (true=true↔some ([]:List UInt8)≠none);simp
  ·show (true=true↔some ([]:List UInt8)≠none);simp
theorem jhL {ws:Ws} {n many:Int} (K:WsK ws):WsK (jar ws n many).2:=by
 unfold jar
 split
 ·exact K
 split
 ·exact K
 next x hx=>
 split
 ·exact K
 split
 ·exact K
 next hm=>
 split
 ·exact K
 next hbl=>
 split
 ·exact K
 next hlen=>
 have a:=K.ok.ok x (zb hx)
 have K2:WsK (ws++[jbf many]):=by
  refine K.push (jla om om) rfl om (fun k hk h=>?_) fun h=>?_
  ·rcases hk with rfl | rfl
   ·have h:(0:Int)=1:=h
    omega
   ·have h:(2:Int)=1:=h
    omega
  ·have h:(0:Int)=1:=h
   omega
 have hn:=w_lt hx
 have hmn:(ws++[jbf many])[((ws.length:Nat):Int).toNat]?=some (jbf many):=by simp
 have K3:=K2.waits (n:=n.toNat) (x:=x) (y := { x with waiting:=x.waiting++[(ws.length:Int)],e0 := { x.e0 with inn:=upu x.e0.inn } }) (y2:=jbf many) (m:=(ws.length:Int)) (je6 hx)
  (fun j hj=>by rcases hj with rfl | rfl<;>exact fun h=>⟨h,rfl⟩) ⟨a.cap0,a.cap1,fun j hj=>by have:=a.len j hj;(rcases hj with rfl | rfl<;>exact this),fun j hj=>by have:=a.pair j hj;(rcases hj with rfl | rfl<;>exact this),a.out,a.bl,a.wh⟩ rfl
  (by have:=a.bl;omega) (fun h=>h) om hmn rfl fun j u hu hmem=>by
   rcases jiX hu with hu | ⟨_,rfl⟩
   ·obtain ⟨z,z0,z1,_⟩:=(K.ok.wait u (zb hu)).2 _ hmem
    have:=w_lt z1
    simp at this
   ·have:(ws.length:Int)∈([]:List Int):=hmem
    simp at this
 rw [List.set_append_left _ _ hn] at K3
 exact K3
def Wi.RK (x y:Wi):Prop := ∀ k,k=0\/k=1->(x.e k).ring≠none->(y.e k).ring≠none
theorem Wi.RK.refl (x:Wi):x.RK x:=fun _ _ h=>h
theorem Wi.RK.trans {x y z:Wi} (a:x.RK y) (b:y.RK z):x.RK z:=fun k hk h=>b k hk (a k hk h)
def WsR (ws ws':Ws):Prop := ∀ (n:Nat) (x:Wi),ws[n]?=some x -> ∃ y,ws'[n]?=some y/\x.RK y
theorem WsR.refl (ws:Ws):WsR ws ws:=fun _ x h=>⟨x,h,Wi.RK.refl x⟩
theorem WsR.trans {a b c:Ws} (x:WsR a b) (y:WsR b c):WsR a c:=fun n u hu=>by
 obtain ⟨v,hv,h1⟩:=x n u hu
 obtain ⟨w,hw,h2⟩:=y n v hv
 exact ⟨w,hw,h1.trans h2⟩
theorem WsR.set {ws:Ws} {n:Nat} {x y:Wi} (hx:ws[n]?=some x) (h:x.RK y):WsR ws (ws.set n y):=fun m u hu=>by
 by_cases e:n=m
 ·subst e
  rw [hx] at hu;cases hu
  exact ⟨y,by rw [zi,zG rfl,zG (w_lt hx)],h⟩
 ·exact ⟨u,by rw [zi,zF e,hu],Wi.RK.refl u⟩
theorem WsR.push {ws:Ws} {x:Wi} : WsR ws (ws++[x]):=fun _ u hu=>⟨u,je6 hu,Wi.RK.refl u⟩
theorem NtOk.keep {ws ws':Ws} {no si:Int} (a:NtOk ws no si) (r:WsR ws ws'):NtOk ws' no si:=by
 rcases a with a | ⟨n,k,x,h1,h2,h3,h4,h5,h6⟩
 ·exact .inl a
 ·obtain ⟨y,hy,rk⟩:=r n x h4
  exact .inr ⟨n,k,y,h1,h2,h3,hy,rk 0 (.inl rfl) h5,rk 1 (.inr rfl) h6⟩
theorem jgx {x:Wi} {k:Nat} {i o:Bool} (hk:k=0\/k=1):x.RK (x.came k i o):=by
 intro j hj
 rcases hk with rfl | rfl<;>rcases hj with rfl | rfl<;>exact fun h=>h
theorem jiI {x:Wi} {k:Nat} {q:List UInt8} (hk:k=0\/k=1):x.RK (x.setq k q):=by
 intro j hj
 rcases hk with rfl | rfl<;>rcases hj with rfl | rfl
 ·intro _;show some q≠none;simp
 ·exact fun h=>h
 ·exact fun h=>h
 ·intro _;show some q≠none;simp
theorem jkC {x:Wi} {k m:Nat} {q:List UInt8} (hk:k=0\/k=1):x.RK (x.take k m q):=(jiI hk).trans (jgx (jcq hk))
theorem jlk {x:Wi} {k m:Nat} {q b:List UInt8} (hk:k=0\/k=1):x.RK (x.fill k m q b):=(jiI (jcq hk)).trans (jgx (jcq hk))
theorem jnD {x:Wi} {k:Nat} {e:En} (hk:k=0\/k=1) (h:e.ring=(x.e k).ring):x.RK (x.put k e):=by
 intro j hj
 rcases hk with rfl | rfl<;>rcases hj with rfl | rfl
 ·intro h1;show e.ring≠none;rw [h];exact h1
 ·exact fun h=>h
 ·exact fun h=>h
 ·intro h1;show e.ring≠none;rw [h];exact h1
theorem jn0 {x:Wi} {k:Nat} (hk:k=0\/k=1):x.RK (x.doShut k):=by
 unfold Wi.doShut
 split
 ·exact Wi.RK.refl x
 ·exact (jnD (e := { x.e k with shut:=true }) hk rfl).trans (jgx (jcq hk))
theorem jjq {x:Wi} {k:Nat} (hk:k=0\/k=1):x.RK (x.close k):=by
 unfold Wi.close
 exact (jgx (jcq hk)).trans (jnD hk rfl)
theorem reset_rk {x:Wi} : x.RK x.doReset:=by
 unfold Wi.doReset
 split
 ·exact Wi.RK.refl x
 ·have z0:(0:Nat)=0\/(0:Nat)=1 := .inl rfl
  have z1:(1:Nat)=0\/(1:Nat)=1 := .inr rfl
  have p0:x.RK { x with reset:=true } := fun j hj=>by rcases hj with rfl | rfl<;>exact fun h=>h
  exact (((p0.trans (jiI z0)).trans (jgx z0)).trans (jiI z1)).trans (jgx z1)
theorem readS_r {ws:Ws} {fd many:Int} : WsR ws (jbU ws fd many).2:=by
 unfold jbU
 refine jbp (P:=fun r:_ × Ws=>WsR ws r.2) (WsR.refl ws) fun n k x hx hk h1=>?_
 split
 ·exact WsR.refl ws
 ·repeat' split
  all_goals first | exact WsR.refl ws | exact WsR.set hx (jkC hk)
theorem writeS_r {ws:Ws} {fd:Int} {b:List UInt8} : WsR ws (jb8 ws fd b).2:=by
 unfold jb8
 refine jbp (P:=fun r:_ × Ws=>WsR ws r.2) (WsR.refl ws) fun n k x hx hk h1=>?_
 repeat' split
 all_goals first | exact WsR.refl ws | exact WsR.set hx (jlk hk)
theorem shutS_r {ws:Ws} {fd:Int} : WsR ws (jd5 ws fd).2:=by
 unfold jd5
 refine jbp (P:=fun r:_ × Ws=>WsR ws r.2) (WsR.refl ws) fun n k x hx hk h1=>?_
 split
 ·exact WsR.refl ws
 ·exact WsR.set hx (jn0 hk)
theorem ji4 : ∀ (L:List Int) (ws:Ws),WsR ws (jaA ws L)
 | [],ws=>WsR.refl ws
 | m :: L,ws=>by
  refine WsR.trans ?_ (ji4 L _)
  unfold jd0
  split
  ·exact WsR.refl ws
  ·next x hx=>exact WsR.set hx (jjq (.inl rfl))
theorem noWait_r {ws:Ws} {n:Nat} : WsR ws (noWait ws n):=by
 unfold noWait
 split
 ·exact WsR.refl ws
 ·next x hx=>exact WsR.set hx fun j hj=>by rcases hj with rfl | rfl<;>exact fun h=>h
theorem closeS_r {ws:Ws} {fd:Int} : WsR ws (jca ws fd).2:=by
 unfold jca
 exact jbp (P:=fun r:_ × Ws=>WsR ws r.2) (WsR.refl ws) fun n k x hx hk h1=>((WsR.set hx (jjq hk)).trans (ji4 _ _)).trans noWait_r
theorem putS_r {ws:Ws} {n:Int} {b:List UInt8} : WsR ws (putS ws n b).2:=by
 unfold putS
 refine jbr (P:=fun r:_ × Ws=>WsR ws r.2) (WsR.refl ws) fun n x hx h2=>?_
 repeat' split
 all_goals first | exact WsR.refl ws | exact WsR.set hx (jlk (.inr rfl))
theorem takeS_r {ws:Ws} {n many:Int} : WsR ws (jcb ws n many).2:=by
 unfold jcb
 refine jbr (P:=fun r:_ × Ws=>WsR ws r.2) (WsR.refl ws) fun n x hx h2=>?_
 repeat' split
 all_goals first | exact WsR.refl ws | exact WsR.set hx (jkC (.inr rfl))
theorem jkX {ws:Ws} {n:Int} : WsR ws (ja6 ws n).2:=jbr (P:=fun r:_ × Ws=>WsR ws r.2) (WsR.refl ws) fun _ _ hx _=>WsR.set hx (jn0 (.inr rfl))
theorem jjY {ws:Ws} {n:Int} : WsR ws (ja1 ws n).2:=jbr (P:=fun r:_ × Ws=>WsR ws r.2) (WsR.refl ws) fun _ _ hx _=>WsR.set hx (jjq (.inr rfl))
theorem resetS_r {ws:Ws} {n:Int} : WsR ws (jbL ws n).2:=jbr (P:=fun r:_ × Ws=>WsR ws r.2) (WsR.refl ws) fun _ _ hx _=>WsR.set hx reset_rk
theorem makeS_r {ws:Ws} {kind n:Int} : WsR ws (jah ws kind n).2:=by
 unfold jah
 repeat' split
 all_goals first | exact WsR.refl ws | exact WsR.push
theorem acceptS_r {ws:Ws} {fd:Int} : WsR ws (jaz ws fd).2:=by
 unfold jaz
 refine jbp (P:=fun r:_ × Ws=>WsR ws r.2) (WsR.refl ws) fun n k x hx hk h1=>?_
 split
 ·exact WsR.refl ws
 split
 ·exact WsR.refl ws
 split
 ·exact WsR.refl ws
 split
 ·exact WsR.refl ws
 next y hy=>
 refine WsR.trans (WsR.set (y := { x with waiting:=_ }) hx fun j hj=>?_) (WsR.set hy (jnD (.inl rfl) rfl))
 rcases hj with rfl | rfl<;>exact fun h=>h
theorem jmX {ws:Ws} {n many:Int} : WsR ws (jar ws n many).2:=by
 unfold jar
 split
 ·exact WsR.refl ws
 split
 ·exact WsR.refl ws
 next x hx=>
 repeat' split
 all_goals first | exact WsR.refl ws | skip
 refine WsR.trans (WsR.set hx fun j hj=>?_) WsR.push
 rcases hj with rfl | rfl<;>exact fun h=>h
theorem jeB {ws:Ws} {sum no si:Int} (nt:NtOk ws no si):WsR ws (jao ws sum no si):=by
 unfold jao
 split
 ·exact WsR.refl ws
 next h0=>
 split
 ·exact WsR.refl ws
 next x hx=>
 split
 ·exact WsR.refl ws
 rcases nt with h | ⟨n,k,y,h1,h2,h3,h4,h5,h6⟩
 ·omega
 have hk:si.toNat=0\/si.toNat=1:=by omega
 split
 ·exact WsR.set hx (jkC hk)
 split
 ·exact WsR.set hx (jlk (jcq hk))
 ·exact WsR.refl ws
theorem jdK {ws:Ws} {sum no si:Int} (K:WsK ws) (nt:NtOk ws no si):WsK (jao ws sum no si):=by
 unfold jao
 split
 ·exact K
 next h0=>
 split
 ·exact K
 next x hx=>
 split
 ·exact K
 next q hq=>
 rcases nt with h | ⟨n,k,y,h1,h2,h3,h4,h5,h6⟩
 ·omega
 have hk:si.toNat=0\/si.toNat=1:=by omega
 split
 ·exact K.take hx hk hq
 split
 ·next e=>
  have e2:1-(1-si.toNat)=si.toNat:=by omega
  have hc:=(K.ok.ok x (zb hx)).cap0
  exact K.fill hx (jcq hk) (q:=[]) (by rw [e2,hq,e]) (by show min 1 x.cap<=x.cap-0;omega)
 ·exact K
theorem joG {ws:Ws} {a b no si:Int} (nt:NtOk ws no si):NtOk ws (ntNo ws a b no) (ntSi ws a b si):=by
 have key : ∀ n k,(ntS ws a b).2=some (n,k)->(k=0\/k=1) /\ ∃ x,ws[n]?=some x/\x.e0.ring≠none/\x.e1.ring≠none:=by
  unfold ntS
  refine jbp (P:=fun r:Int × Option (Nat × Nat)=>∀ n k,r.2=some (n,k)->(k=0\/k=1) /\ ∃ x,ws[n]?=some x/\x.e0.ring≠none/\x.e1.ring≠none) (fun _ _ h=>by cases h) fun n k x hx hk h1=>?_
  refine jbp (P:=fun r:Int × Option (Nat × Nat)=>∀ n k,r.2=some (n,k)->(k=0\/k=1) /\ ∃ x,ws[n]?=some x/\x.e0.ring≠none/\x.e1.ring≠none) (fun _ _ h=>by cases h) fun m i y hy hi h2=>?_
  intro n' k' h
  split at h
  ·next hc=>
   cases h
   exact ⟨hk,x,hx,hc.2.2.1,hc.2.2.2⟩
  ·cases h
 unfold ntNo ntSi
 cases e:(ntS ws a b).2 with
 | none=>exact nt
 | some p=>
  obtain ⟨n,k⟩:=p
  obtain ⟨hk,x,hx,h1,h2⟩:=key n k e
  exact .inr ⟨n,k,x,rfl,rfl,hk,hx,h1,h2⟩
theorem joF {ws:Ws} {sum a b:Int} : ∃ no si,NtOk ws no si/\ntW ws sum a b=jao ws sum no si:=by
 have:=joG (ws:=ws) (a:=a) (b:=b) (no := -1) (si:=0) (.inl rfl)
 unfold ntNo ntSi at this
 unfold ntW
 cases e:(ntS ws a b).2 with
 | none=>exact ⟨-1,0,.inl rfl,rfl⟩
 | some p=>
  obtain ⟨n,k⟩:=p
  rw [e] at this
  exact ⟨n,k,this,rfl⟩
end Am.Sigs
