/- Our own library, part 19. -/
import Derived.Test.YtbfpbbppgffpnaaGreatDoorN18
set_option maxHeartbeats 8000000
set_option linter.all false
namespace Am.Sigs
open Am Go
theorem jeP {ws ws':Ws} {fd:Int} (h : ∀ n k,AtW ws' n k fd↔AtW ws n k fd):atS ws' fd=atS ws fd:=by
 have e:(fun p:Nat × Nat=>AtW ws' p.1 p.2 fd)=fun p=>AtW ws p.1 p.2 fd:=by funext p;exact propext (h p.1 p.2)
 have e2:(∃ p:Nat × Nat,AtW ws' p.1 p.2 fd) = ∃ p:Nat × Nat,AtW ws p.1 p.2 fd:=congrArg Exists e
 unfold atS
 by_cases hx : ∃ p:Nat × Nat,AtW ws p.1 p.2 fd
 ·have hx' : ∃ p:Nat × Nat,AtW ws' p.1 p.2 fd:=e2 ▸ hx
  rw [dif_pos hx,dif_pos hx']
  congr 2
 ·have hx' : ¬ ∃ p:Nat × Nat,AtW ws' p.1 p.2 fd:=e2 ▸ hx
  rw [dif_neg hx,dif_neg hx']
section
variable {h h':H} {w s:Nat} {ow:Nat->Nat} {f:Nat->Option (Nat × Nat)} {l:List WX} {now:Int} {tb:Tb} {no:Option (Nat × Nat)} {n k m:Nat} {t:WX}
def WX.noWait (t:WX):WX := { t with x := { t.x with waiting:=[] },wv := .nils }
theorem WF.noWait (a:WF h w s ow f l now tb no) (ht:l[n]?=some t):WF (h.set t.wb (t.noWait.x.obj t.r0 t.r1 .nils)) w s ow f (l.set n t.noWait) now tb no:=by
 have X:=a.ok n t ht
 have o0:=X.ox
 have hne : ∀ j,ow j≠10*n+10->j≠t.wb:=fun j hj e=>hj (by rw [e,o0])
 refine a.turn ht (zq _) (fun j _ hn=>jaa (hne j fun e=>hn om)) ⟨jab _,X.ox,X.lx,fun i hi q hq=>?_,VI.nil _,fun e=>absurd rfl e⟩ rfl
 obtain ⟨p1,p2,p3,p4,p5⟩:=X.ring i hi q hq
 exact ⟨p1.keep (jaa (hne _ om)) (jaa (hne _ om)),p2,p3,p4,p5⟩
end
section
variable {cl:Nat->Call} (hcl:Sem cl) {h:H} {w s:Nat} {ow:Nat->Nat} {ws:Ws} {now:Int} {tb:Tb} {no:Option (Nat × Nat)}
include hcl
theorem ww_Close {d:Nat} {fd:Int} (hd:4<=d) (a:WSt h w s ow ws now tb no) (o:WsOk ws) :
  ∃ h',cl d (.fn F.jc2) [.p w 0,.i fd] h=some (.i (jcu ws fd).1,h')/\WSt h' w s ow (jcu ws fd).2 now tb no/\To h h' ow ow:=by
 obtain ⟨l,a,rfl⟩:=a
 rcases jd0 hcl (d:=d-1) (fd:=fd) om a o.uniq with ⟨hno,h1,e1,o1,x1⟩ | ⟨n,k,m,t,rfl,hm,hat,ht,hk,h1,e1,o1,x1⟩
 ·have hS:jcu (wxs l) fd=(110,wxs l):=jaA hno
  rw [hS]
  suffices q : ∃ h',cl d (.fn F.jc2) [.p w 0,.i fd] h=some (.i 110,h')/\Old h h' by
   obtain ⟨h',e,q⟩:=q
   exact ⟨h',e,⟨l,a.old q,rfl⟩,To.of_old q⟩
  refine jag (at_ hcl om rfl rfl rfl ?_)
  refine qm1 ?_
  exact ⟨rfl,o1.new.set o1.1⟩
 have hS:jcu (wxs l) (m:Int)=_:=ja7 o.uniq hat (jaj ht)
 rw [hS]
 suffices q : ∃ h',cl d (.fn F.jc2) [.p w 0,.i m] h=some (.i 0,h')/\WSt h' w s ow (noWait (jaB ((wxs l).set n (t.x.close k)) t.x.waiting) n) now tb no/\To h h' ow ow by exact q
 clear hS
 obtain ⟨wl,ww⟩:=o.wait _ (zc (jaj ht))
 have u:=o.uniq
 clear o
 have o2:Old h ((h1.new (.cells [.bool false,.i 0,.i 0] false)).set h1.nx (.cells [.bool true,.i (n:Int),.i (k:Int)] false)):=o1.new.set o1.1
 have a2:=a.old o2
 have hp2:((h1.new (.cells [.bool false,.i 0,.i 0] false)).set h1.nx (.cells [.bool true,.i (n:Int),.i (k:Int)] false)).get h1.nx=some (.cells [.bool true,.i (n:Int),.i (k:Int)] false):=jab _
 have hnx2:h1.nx<((h1.new (.cells [.bool false,.i 0,.i 0] false)).set h1.nx (.cells [.bool true,.i (n:Int),.i (k:Int)] false)).nx:=by simp
 generalize hh2:(h1.new (.cells [.bool false,.i 0,.i 0] false)).set h1.nx (.cells [.bool true,.i (n:Int),.i (k:Int)] false)=h2 at o2 a2 hp2 hnx2
 obtain ⟨sa,sc,hw2,_⟩:=a2.wf.head
 have W3:=a2.wf.place (i:=m) (o:=0+(m:Int).toNat*3) (p:=none) om om hw2
 have T3:To h2 (h2.set w (.cells (jao (wc (fun i=>atS (wxs l) (i:Int)) (.slice sa l.length sc) s now no) (0+(m:Int).toNat*3) (plc none)) false)) ow ow:=⟨Ch.set (by show ow w≠0;rw [a.wf.tw];omega),fun _ _=>rfl⟩
 have hp3:(h2.set w (.cells (jao (wc (fun i=>atS (wxs l) (i:Int)) (.slice sa l.length sc) s now no) (0+(m:Int).toNat*3) (plc none)) false)).get h1.nx=some (.cells [.bool true,.i (n:Int),.i (k:Int)] false):=by
  have:=a.wf.lw
  have:=o1.1
  rw [jaa om,hp2]
 have hlen3:0+(m:Int).toNat*3+3<=(wc (fun i=>atS (wxs l) (i:Int)) (.slice sa l.length sc) s now no).length:=by rw [jbr];omega
 generalize hh3:h2.set w (.cells (jao (wc (fun i=>atS (wxs l) (i:Int)) (.slice sa l.length sc) s now no) (0+(m:Int).toNat*3) (plc none)) false)=h3 at W3 T3 hp3
 have X3:=W3.ok n t ht
 obtain ⟨h4,e4,u4⟩:=jjf hcl (d:=d-1) om X3.hx hk
 have W4:=W3.upd ht u4 (Wi.close_waiting hk) (Wi.close_cap hk) (fun i hi=>Wi.close_ring hk hi)
 have T4:To h h4 ow ow:=To.old o2 (T3.trans (X3.toU u4))
 have ht4:(l.set n { t with x:=t.x.close k })[n]?=some { t with x:=t.x.close k } := by rw [zi,if_pos rfl,if_pos (x_lt ht)]
 have hx4:h4.get t.wb=some (.cells ((t.x.close k).cells t.r0 t.r1 t.wv) false):=u4.self
 have hwt4:(t.x.close k).waiting=t.x.waiting:=Wi.close_waiting hk
 have hl4:wxs (l.set n { t with x:=t.x.close k })=(wxs l).set n (t.x.close k):=jbj
 rw [<- hl4]
 have hat4 : ∀ i j fd',AtW (wxs (l.set n { t with x:=t.x.close k })) i j fd'↔AtW (wxs l) i j fd' /\ ¬ (i=n/\j=k):=by
  rw [hl4];exact AtW_close (jaj ht) hk
 have hlen4:(l.set n { t with x:=t.x.close k }).length=l.length:=by simp
 generalize hL:t.x.waiting=L at wl ww hwt4 ⊢
 have hy4 : ∀ j∈L,∃ y:Wi,0<=j/\(wxs (l.set n { t with x:=t.x.close k }))[j.toNat]?=some y/\y.e0.what≠1:=by
  intro j hj
  obtain ⟨y,y0,y1,y2⟩:=ww j hj
  rw [hl4,zi]
  by_cases e:n=j.toNat
  ·rw [if_pos e,if_pos (by rw [List.length_map];exact x_lt ht)]
   rw [<- e,jaj ht] at y1
   cases y1
   refine ⟨_,y0,rfl,?_⟩
   have:(t.x.e 0).what=0:=y2
   rcases hk with rfl | rfl
   ·show (3:Int)≠1;omega
   ·show (((t.x.close 1).e (1-1)).what)≠1
    rw [(Wi.close_other (.inr rfl)).1];show (t.x.e 0).what≠1;omega
  ·rw [if_neg e]
   exact ⟨y,y0,y1,by omega⟩
 have fin : ∀ (g:H) (l':List WX),WF g w s ow (fun j=>if j=m then none else atS (wxs l) (j:Int)) l' now tb no->(∀ i j fd',AtW (wxs l') i j fd'↔AtW (wxs (l.set n { t with x:=t.x.close k })) i j fd')->WW g w s ow l' now tb no:=by
  intro g l' W hA
  refine ⟨W.congr fun j hj=>?_,fun i j fd' hf=>a.fds i j fd' ((hat4 _ _ _).1 ((hA _ _ _).1 hf)).1⟩
  by_cases e:j=m
  ·subst e
   rw [if_pos rfl]
   refine jeO fun i j' hf=>?_
   have h5:=(hat4 _ _ _).1 ((hA _ _ _).1 hf)
   exact h5.2 (u _ _ _ _ _ h5.1 hat)
  ·rw [if_neg e]
   refine jeP fun i j'=>?_
   rw [hA,hat4]
   refine ⟨fun h5=>h5.1,fun h5=>⟨h5,fun h6=>?_⟩⟩
   obtain ⟨rfl,rfl⟩:=h6
   obtain ⟨x1,q1,_,_,q2⟩:=h5
   obtain ⟨x2,q3,_,_,q4⟩:=hat
   rw [q1] at q3;cases q3
   rw [q2] at q4
   omega
 have hvi:=X3.wait.1
 rw [hL] at hvi
 obtain ⟨av,cp,hva,_⟩:=id hvi
 generalize l.set n { t with x:=t.x.close k } = l1 at W4 ht4 hlen4 hy4 fin ⊢
 generalize t.x.close k=y1 at ht4 hx4 hwt4
 rw [hva] at hx4
 clear hat4 hl4 ww hat u u4 W3 X3 T3 hL hvi a a2
 have q1:(y1.cells t.r0 t.r1 (.slice av L.length cp))[0+16]?=some (.slice av L.length cp):=by simp [Wi.cells,En.cells]
 refine jag (at_ hcl om rfl rfl rfl ?_)
 refine qm1 ?_
 rw [show (h1.new (.cells [.bool false,.i 0,.i 0] false)).set h1.nx (.cells (jao [.bool false,.i 0,.i 0] 0 [.bool true,.i (n:Int),.i (k:Int)]) false)=h2 from hh2]
 refine Ops.storeN rfl rfl rfl rfl hw2 hlen3 ?_
 rw [show jao (wc (fun i=>atS (wxs l) (i:Int)) (.slice sa l.length sc) s now no) (0+(m:Int).toNat*3) [.bool false,.i 0,.i 0]=jao (wc (fun i=>atS (wxs l) (i:Int)) (.slice sa l.length sc) s now no) (0+(m:Int).toNat*3) (plc none) from rfl,hh3]
 clear hw2 hlen3 hh3 hh2
 refine qx1 ?_
 refine Run.loop (fun r e g=>∃ (i:Nat) (l2:List WX) (t2:WX),r=L.length-i/\i<=L.length/\e=[(0,.p w 0),(6,.p t.wb 0),(33,.slice av L.length cp),(34,.i L.length),(35,.i i)] /\
   WF g w s ow (fun j=>if j=m then none else atS (wxs l) (j:Int)) l2 now tb no/\l2[n]?=some t2/\t2.wv=t.wv/\t2.wb=t.wb/\t2.x.waiting=L/\jaB (wxs l2) (L.drop i)=jaB (wxs l1) L /\
   (∀ i j fd',AtW (wxs l2) i j fd'↔AtW (wxs l1) i j fd')/\(∀ j∈L,∃ y:Wi,0<=j/\(wxs l2)[j.toNat]?=some y/\y.e0.what≠1)/\To h g ow ow)
  (k:=L.length) Ze ⟨0,l1,_,rfl,by omega,rfl,W4,ht4,rfl,rfl,hwt4,rfl,fun _ _ _=>Iff.rfl,hy4,T4⟩ ?_
 clear W4 ht4 hy4 T4 q1 hx4 hwt4 e4 e1 hp3
 rintro _ _ g ⟨i,l2,t2,rfl,hi,rfl,W,ht2,hwv,hwb,hwt,hall,hA,hy,T⟩ fu ih
 have X:=W.ok n t2 ht2
 have hvi:=X.wait.1
 rw [hwt,hwv,hva] at hvi
 by_cases hlt:i<L.length
 ·have hLi:=za hlt
  have hdrop:L.drop i=L[i] :: L.drop (i+1):=List.drop_eq_getElem_cons hlt
  obtain ⟨y,y0,y1',y2⟩:=hy L[i] (List.getElem_mem hlt)
  obtain ⟨j,hj⟩:=zz y0
  rw [hj] at hLi hdrop y1'
  rw [zw] at y1'
  obtain ⟨b,of,cs,ro,rfl,hcs,hci⟩:=hvi.cell hLi
  obtain ⟨t3,ht3,rfl⟩:=jhn y1'
  have X3:=W.ok j t3 ht3
  obtain ⟨g3,e3,u3⟩:=jjf hcl (d:=d-1) (k:=0) om X3.hx (.inl rfl)
  have W3:=W.upd ht3 u3 (Wi.close_waiting (.inl rfl)) (Wi.close_cap (.inl rfl)) (fun i hi=>Wi.close_ring (.inl rfl) hi)
  have T3:=T.trans (X3.toU u3)
  have hs3:t3.x.SameFd (t3.x.close 0):=Wi.close_same (.inl rfl) y2
  obtain ⟨sa,sc,hw3,hz3⟩:=W.head
  obtain ⟨z3,rfl,_,_,hwp⟩:=hz3 (jde ht3)
  have c1:(wc (fun j=>if j=m then none else atS (wxs l) (j:Int)) (.slice (some (z3,0)) l2.length sc) s now no)[0+288]?=some (.slice (some (z3,0)) l2.length sc):=jaO rfl
  have c2:(wps l2)[0+(j:Int).toNat*1]?=some (.p t3.wb 0):=by rw [show 0+(j:Int).toNat*1=j by omega];exact jcS ht3
  have hj2:=x_lt ht3
  have hi1:((i+1:Nat):Int)=(i:Int)+1:=by omega
  have e3:cl (d-1) (.fn F.jea) [.p t3.wb 0,.i 0] g=some (.tup [],g3):=e3
  have hnext : ∃ t4,(l2.set j { t3 with x:=t3.x.close 0 })[n]?=some t4/\t4.wv=t.wv/\t4.wb=t.wb/\t4.x.waiting=L:=by
   by_cases hjn:j=n
   ·subst hjn
    rw [ht2] at ht3;cases ht3
    exact ⟨{ t2 with x:=t2.x.close 0 },by rw [zi,if_pos rfl,if_pos (x_lt ht2)],hwv,hwb,hwt⟩
   ·exact ⟨t2,by rw [zi,if_neg hjn,ht2],hwv,hwb,hwt⟩
  obtain ⟨t4,ht4,hwv4,hwb4,hwt4⟩:=hnext
  have hstep:jaB (wxs (l2.set j { t3 with x:=t3.x.close 0 })) (L.drop (i+1))=jaB (wxs l1) L:=by
   rw [<- hall,hdrop]
   show _=jaB (jd7 (wxs l2) (j:Int)) _
   unfold jd7
   rw [zw,y1',jbj]
  have hA3 : ∀ i j' fd',AtW (wxs (l2.set j { t3 with x:=t3.x.close 0 })) i j' fd'↔AtW (wxs l1) i j' fd':=fun i j' fd'=>by
   rw [jbj,jjT y1' hs3,hA]
  have hy3 : ∀ j'∈L,∃ y:Wi,0<=j'/\(wxs (l2.set j { t3 with x:=t3.x.close 0 }))[j'.toNat]?=some y/\y.e0.what≠1:=by
   intro j' hj'
   obtain ⟨y,z0,z1,z2⟩:=hy j' hj'
   rw [jbj,zi]
   by_cases e:j=j'.toNat
   ·rw [if_pos e,if_pos (by rw [List.length_map];exact hj2)]
    exact ⟨_,z0,rfl,by show (3:Int)≠1;omega⟩
   ·rw [if_neg e];exact ⟨y,z0,z1,z2⟩
  clear hall hdrop hA hy hvi T X X3 W u3 hs3 fin y0 y2
  refine qx1 ?_
  exact ih (L.length-(i+1)) om _ _ ⟨i+1,_,t4,rfl,by omega,by rw [hi1],W3,ht4,hwv4,hwb4,hwt4,hstep,hA3,hy3,T3⟩
 ·obtain rfl:i=L.length:=by omega
  rw [List.drop_length] at hall
  have hall:wxs l2=jaB (wxs l1) L:=hall
  have W5:=W.noWait ht2
  have hx2:=X.hx
  unfold Wi.obj at hx2
  rw [hwb] at hx2 W5
  have hlen:0+16<(t2.x.cells t2.r0 t2.r1 t2.wv).length:=by rw [Wi.cells_length];omega
  have eo:Obj.cells ((t2.x.cells t2.r0 t2.r1 t2.wv).set (0+16) .nils) false=t2.noWait.x.obj t2.r0 t2.r1 .nils:=by rfl
  have hsame:t2.x.SameFd t2.noWait.x:=fun _ hk=>by rcases hk with rfl | rfl<;>exact ⟨Iff.rfl,fun _=>rfl⟩
  have F2:=fin _ _ W5 fun i j fd'=>by rw [jbj,jjT (jaj ht2) hsame,hA]
  have ox:=X.ox
  rw [hwb] at ox
  clear ih hy hA fin
  refine qx1 ?_
  refine Ops.store1 rfl rfl rfl hx2 hlen ?_
  rw [eo]
  refine qx1 ?_
  refine ⟨rfl,⟨_,F2,?_⟩,T.trans ⟨Ch.set (by show ow t.wb≠0;omega),fun _ _=>rfl⟩⟩
  show _=noWait _ n
  unfold noWait
  rw [<- hall,jaj ht2,jbj];rfl
end
theorem jiY {l:List Int} {cs:List V} {o:Nat} (hc : ∀ (i:Nat) (x:Int),l[i]?=some x->cs[o+i]?=some (.i x)) (h0:0<l.length):o+l.length<=cs.length/\(cs.drop o).take l.length=ints l:=by
 have h1:o+l.length<=cs.length:=by
  have:=hc (l.length-1) _ (za om)
  rcases zx (o+(l.length-1)) cs.length with h | h
  ·omega
  ·rw [zd h] at this;cases this
 refine ⟨h1,List.ext_getElem? fun i=>?_⟩
 rw [List.getElem?_take,List.getElem?_map]
 by_cases hi:i<l.length
 ·rw [if_pos hi,zm,hc i _ (za hi),za hi];rfl
 ·rw [if_neg hi,zd om];rfl
theorem ints_one (l:List Int):(ints l).all V.one=true:=by
 rw [List.all_eq_true]
 intro v hv
 obtain ⟨n,_,rfl⟩:=List.mem_map.1 hv
 rfl
section
variable {call:Call} {fuel base:Nat} {ops:List Ins} {keep:List Nat} {K:List Fr} {e:Env} {h:H} {Q:Post} {ix:Nat} {dst:Option Nat} {c:List (Nat × I × Option (Nat × Bool))}
theorem Ops.appI {N:Nat} {x y:Opd} {sv v:V} {q l:List Int} (hx:x.ev e=some sv) (hy:y.ev e=some v) (r:Row N h 1 sv q.length (ints q)) (hN:N<=h.nx) (hv:VI h v l) (hn:q.length+l.length<=1000000)
  (hc : ∀ h':H,h.nx<=h'.nx->(∀ j,j<h.nx->sv.at?≠some j->h'.get j=h.get j)->jaK e h' c=true)
  (k : ∀ v' h',Row N h' 1 v' (q++l).length (ints (q++l))->h.nx<=h'.nx->(∀ j,j<h.nx->sv.at?≠some j->h'.get j=h.get j)->Ops call fuel base ops keep K (layv e dst v') h' Q) :
  Ops call fuel base (⟨ix,dst,.append 1 8 x y,none,none,c⟩ :: ops) keep K e h Q:=by
 obtain ⟨a,cp,rfl,n,f,g⟩:=hv
 by_cases hl:l=[]
 ·subst hl
  have hsrc:jax h 1 0 (.slice a 0 cp)=some []:=by cases a<;>rfl
  refine Ops.step_chk (v:=sv) (h':=h) (I.run_eff rfl ?_) (hc h (zq _) fun _ _ _=>rfl) (k sv h (by simpa using r) (zq _) fun _ _ _=>rfl)
  obtain ⟨cap,⟨sa,rfl⟩,_⟩:=r.shape
  simp only [I.eff,hx,hy,jaC,lenOf,List.length_nil,hsrc]
  have hcond:(Nat.ble ((q.length+0)*8) (2 ^ 46)&&Nat.ble (q.length+0) (2 ^ 46))=true:=by simp only [zp,Nat.ble_eq];omega
  rw [hcond];rfl
 ·obtain ⟨b,o,cs,ro,rfl,h1,h2,h3⟩:=g hl
  have hpos:0<l.length:=List.length_pos_iff.2 hl
  obtain ⟨p1,p2⟩:=jiY h3 hpos
  obtain ⟨v',h',e1,e2,e3,e4,e5⟩:=jfx (bytes:=8) (cap:=cp) (m:=l.length) (so:=o) (new:=ints l) r hN hpos h2 om (by rw [Nat.mul_one];exact p2) (ints_one l) om om om
  refine Ops.step_chk (I.run_eff rfl (by simp only [I.eff,hx,hy,e1])) (hc h' om e5) (k v' h' ?_ om e5)
  rw [zg];simpa [ints] using e2
theorem Ops.app1c {N q':Nat} {s y:Opd} {sv:V} {cs:List Int} {x:Int} {cap:Cap} (hs:s.ev e=some sv) (hy:y.ev e=some (.slice (some (q',0)) 1 cap)) (r:Row N h 1 sv cs.length (ints cs)) (hN:N<=h.nx) (hq:h.get q'=some (.cells [.i x] false))
  (hn:cs.length+1<=1000000) (hne:sv.at?≠some q') (hc : ∀ h':H,(∀ j,j<h.nx->sv.at?≠some j->h'.get j=h.get j)->jaK e h' c=true)
  (k : ∀ v' h',Row N h' 1 v' (cs++[x]).length (ints (cs++[x]))->h.nx<=h'.nx->(∀ j,j<h.nx->sv.at?≠some j->h'.get j=h.get j)->Ops call fuel base ops keep K (layv e dst v') h' Q) :
  Ops call fuel base (⟨ix,dst,.append 1 8 s y,none,none,c⟩ :: ops) keep K e h Q:=by
 obtain ⟨v',h',e1,e2,e3,e4,e5⟩:=jeQ (bytes:=8) (cap:=cap) r hN hq rfl rfl om om om hne
 refine Ops.step_chk (I.run_eff rfl (by simp only [I.eff,hs,hy,e1])) (hc h' e5) (k v' h' ?_ e3 e5)
 rw [zg];simpa [ints] using e2
end
theorem RX.in_cells {r:RX} {k:Nat} {w:Int} (hk:k=0\/k=1):(({ r with x:=r.x.put k { r.x.e k with inn:=w } } : RX)).cells=r.cells.set (k*8+6) (.int .u64 w):=by
 obtain ⟨⟨e0,e1,cap,rs,bl,wt⟩,v0,v1,vw⟩:=r
 rcases hk with rfl | rfl<;>simp [Wi.put,Wi.e,RX.cells,En.rcells]
section
variable {cl:Nat->Call} (hcl:Sem cl)
include hcl
theorem cn_end {E:Env} {d rw q bx:Nat} {g:H} {l:List RX} {tl:List V} {x:Wi} (w:RW g rw q l tl) (f:Fresh x) (hbx:g.get bx=some (.cells (RX.fresh x).cells false)) (hl:l.length<=1000) :
  Run (cl (d-1)) fuel c55_1 [] ((0,.p rw 0) :: (8,.p bx 0) :: E) g
   (Fin c55.res fun v h'=>∃ q',v = .tup [.i (l.length:Int),.i 0]/\RW h' rw q' (l++[RX.fresh x]) tl/\Ch (RC rw q) g h'/\g.nx<=q'):=by
 obtain ⟨v,hw,row,hvq,hone⟩:=w.row
 have hw1:(g.reserve 1).get rw=_:=hw
 have hbx1:(g.reserve 1).get bx=_:=hbx
 refine Run.seq (Run.region ?_)
 refine qx1 ?_
 refine Ops.loadN rfl hbx1 (by rw [RX.len];omega) ?_
 rw [zk,zh (by rw [RX.len];omega)]
 refine Ops.bslice1_at (new:=(RX.fresh x).cells) rfl rfl (RX.len _) rfl ?_
 have hG:((g.reserve 1).set (g.nx+0) (.cells (RX.fresh x).cells false)).nx=g.nx+1:=rfl
 have hGs:((g.reserve 1).set (g.nx+0) (.cells (RX.fresh x).cells false)).get (g.nx+0)=some (.cells (RX.fresh x).cells false):=jab _
 have hGo : ∀ j,j<g.nx->((g.reserve 1).set (g.nx+0) (.cells (RX.fresh x).cells false)).get j=g.get j:=fun j hj=>by rw [jaa om];rfl
 generalize (g.reserve 1).set (g.nx+0) (.cells (RX.fresh x).cells false)=G at hG hGs hGo ⊢
 have lq:=w.lq
 have lw:=w.lw
 have rowG:Row 0 G 20 v l.length (rows l):=row.keep om fun z hz=>hGo z (by have:=hvq z hz;omega)
 refine Ops.app1 (N:=0) rfl rfl rowG (Nat.zero_le _) hGs (RX.len _) (RX.cells_one (r:=RX.fresh x) rfl rfl rfl) om om om (fun e=>by have:=hvq _ e;omega) fun h1 row1 hlt hk=>?_
 have hk' : ∀ j,j<g.nx->j≠q->h1.get j=g.get j:=fun j hj hn=>by rw [hk j om (fun e=>hn (hvq j e)),hGo j hj]
 have hrow:h1.get G.nx=some (.cells (rows l++(RX.fresh x).cells) false):=by
  rcases row1 with ⟨h0,_⟩ | ⟨b,_,_,e,h4,_⟩
  ·omega
  ·cases e;exact h4
 obtain ⟨w2,c2⟩:=w.push f hrow om hlt hk'
 have hw2:h1.get rw=some (.cells (v :: tl) false):=by rw [hk' rw lw w.ne,hw]
 refine qx1 ?_
 refine Ops.store1 rfl rfl rfl hw2 Zd ?_
 refine qx1 ?_
 have el:((l.length+1:Nat):Int)-1=(l.length:Int):=by omega
 refine ⟨_,?_,w2,c2,by omega⟩
 rw [el]
theorem cn_mid {E:Env} {d rw q bx n:Nat} {g:H} {l:List RX} {tl:List V} {x:Wi} {r:RX} (w:RW g rw q l tl) (f:Fresh x) (hbx:g.get bx=some (.cells (RX.fresh x).cells false)) (hbn:bx≠q/\bx≠rw/\bx<g.nx) (hl:l.length<=1000) (hr:l[n]?=some r) (hwt:r.x.waiting.length<=64) :
  Run (cl (d-1)) fuel c55_4 [] ((0,.p rw 0) :: (1,.i (n:Int)) :: (8,.p bx 0) :: (10,.nils) :: E) g
   (Fin c55.res fun v h'=>∃ q' v',v = .tup [.i (l.length:Int),.i 0] /\
    RW h' rw q' (l.set n { (r.setw v' (r.x.waiting++[(l.length:Int)])) with x:=(r.setw v' (r.x.waiting++[(l.length:Int)])).x.put 0 { (r.setw v' (r.x.waiting++[(l.length:Int)])).x.e 0 with inn:=upu (r.x.e 0).inn } } ++ [RX.fresh x]) tl/\Ch (RC rw q) g h'/\g.nx<=q'):=by
 obtain ⟨C,hC⟩ : ∃ C,C=c55_1:=⟨_,rfl⟩
 simp only [c55_4,c55_3,c55_2,yB]
 rw [<- hC]
 obtain ⟨hw,hq,hne⟩:=w.rat hr
 have hn:=r_lt hr
 have q1:=jmb hr
 have q2:=r_in (k:=0) hr (.inl rfl)
 have hvi:=(w.rok hr).w.1
 have lw:=w.lw
 have lq:=w.lq
 refine qx1 ?_
 refine Ops.appI (N:=g.nx) (q:=[]) rfl rfl (Row.nil _ _ _) (zq _) hvi Zc (fun _ _ _=>rfl) fun v1 h1 row1 hx1 hold1=>?_
 have hold1' : ∀ j,j<g.nx->h1.get j=g.get j:=fun j hj=>hold1 j hj (by intro e;cases e)
 have hw1:h1.get rw=some (.cells (.slice (some (q,0)) l.length (.grow 20) :: tl) false):=by rw [hold1' rw lw,hw]
 have hq1:h1.get q=some (.cells (rows l) false):=by rw [hold1' q lq,hq]
 have hne1 : ∀ j,j<g.nx->v1.at?≠some j:=fun j hj e=>by have:=row1.at_ge e;omega
 refine qx1 ?_
 refine Run.region ?_
 have hw1:(h1.reserve 1).get rw=_:=hw1
 have hq1:(h1.reserve 1).get q=_:=hq1
 refine qx1 ?_
 refine Ops.bslice1_at (new:=[.i (l.length:Int)]) rfl rfl rfl rfl ?_
 have hG:((h1.reserve 1).set (h1.nx+0) (.cells [.i (l.length:Int)] false)).nx=h1.nx+1:=rfl
 have hGs:((h1.reserve 1).set (h1.nx+0) (.cells [.i (l.length:Int)] false)).get (h1.nx+0)=some (.cells [.i (l.length:Int)] false):=jab _
 have hGo : ∀ j,j<h1.nx->((h1.reserve 1).set (h1.nx+0) (.cells [.i (l.length:Int)] false)).get j=h1.get j:=fun j hj=>by rw [jaa om];rfl
 generalize (h1.reserve 1).set (h1.nx+0) (.cells [.i (l.length:Int)] false)=G at hG hGs hGo ⊢
 have rowG:=row1.keep (h':=G) om fun z hz=>hGo z (row1.at_ge hz).2
 have hwG:G.get rw=some (.cells (.slice (some (q,0)) l.length (.grow 20) :: tl) false):=by rw [hGo rw om,hold1' rw lw,hw]
 refine Ops.app1c (N:=g.nx) (cs:=[]++r.x.waiting) rfl rfl rowG om hGs Zc (fun e=>by have:=row1.at_ge e;omega) (fun h' ho=>jat rfl (by rw [ho rw om (hne1 rw lw),hwG]) rfl rfl ja6) fun v2 h2 row2 hx2 hold2=>?_
 have old2:Old g h2:=⟨by omega,fun j hj=>by rw [hold2 j om (hne1 j hj),hGo j om,hold1' j hj]⟩
 have w2:=w.old old2
 obtain ⟨p1,p2⟩:=VI.ofRow row2
 rw [List.nil_append] at p1
 have hbx2:h2.get bx=some (.cells (RX.fresh x).cells false):=by rw [old2.2 bx hbn.2.2,hbx]
 have ok':=(w2.rok hr).setw p1 fun z hz=>by have:=p2 z hz;omega
 have u:Upd q (.cells (rows (l.set n (r.setw v2 (r.x.waiting++[(l.length:Int)])))) false) h2 (h2.set q (.cells (rows (l.set n (r.setw v2 (r.x.waiting++[(l.length:Int)])))) false)):=Upd.set
 have w3:=w2.set hr u ok'
 obtain ⟨hw2,hq2,_⟩:=w2.rat hr
 have hlen:0+(n:Int).toNat*20+19<(rows l).length:=by rw [jay];omega
 refine qx1 ?_
 refine Ops.store1 rfl rfl p1.one hq2 hlen ?_
 rw [jeE hr om (RX.setw_cells r v2 (r.x.waiting++[(l.length:Int)])) om]
 have hr3:=get_set (r':=r.setw v2 (r.x.waiting++[(l.length:Int)])) hr
 have c3:Ch (RC rw q) g (h2.set q (.cells (rows (l.set n (r.setw v2 (r.x.waiting++[(l.length:Int)])))) false)):=old2.ch.trans (u.ch (.inl rfl))
 have hbx3:(h2.set q (.cells (rows (l.set n (r.setw v2 (r.x.waiting++[(l.length:Int)])))) false)).get bx=some (.cells (RX.fresh x).cells false):=by rw [jaa hbn.1,hbx2]
 have hset : ∀ s,l.set n s=(l.set n (r.setw v2 (r.x.waiting++[(l.length:Int)]))).set n s:=fun s=>set_set.symm
 have hl3:(l.set n (r.setw v2 (r.x.waiting++[(l.length:Int)]))).length=l.length:=by simp
 have hinn:((r.setw v2 (r.x.waiting++[(l.length:Int)])).x.e 0).inn=(r.x.e 0).inn:=rfl
 suffices s:True by
  generalize h2.set q (.cells (rows (l.set n (r.setw v2 (r.x.waiting++[(l.length:Int)])))) false)=g3 at w3 c3 hbx3 ⊢
  obtain ⟨hw3,hq3,_⟩:=w3.rat hr3
  have hn3:=r_lt hr3
  have q3:=r_in (k:=0) hr3 (.inl rfl)
  have hlen3:0+(n:Int).toNat*20+0+Int.toNat 0*8+6<(rows (l.set n (r.setw v2 (r.x.waiting++[(l.length:Int)])))).length:=by rw [jay];omega
  have e3:=jix (f:=6) (o:=0+(n:Int).toNat*20+0+Int.toNat 0*8+6) hr3 (.inl rfl) om (RX.in_cells (k:=0) (w:=upu (r.x.e 0).inn) (.inl rfl)) Zd
  have u4:Upd q (.cells (rows ((l.set n (r.setw v2 (r.x.waiting++[(l.length:Int)]))).set n { (r.setw v2 (r.x.waiting++[(l.length:Int)])) with x:=(r.setw v2 (r.x.waiting++[(l.length:Int)])).x.put 0 { (r.setw v2 (r.x.waiting++[(l.length:Int)])).x.e 0 with inn:=upu (r.x.e 0).inn } })) false) g3 _:=Upd.set
  have w4:=w3.set hr3 u4 ((w3.rok hr3).put (e := { (r.setw v2 (r.x.waiting++[(l.length:Int)])).x.e 0 with inn:=upu (r.x.e 0).inn }) (.inl rfl) rfl)
  have hbx4:=(u4.get bx hbn.1).trans hbx3
  clear hset
  refine qx1 ?_
  refine Ops.store1 rfl rfl rfl hq3 hlen3 ?_
  have e3:(rows (l.set n (r.setw v2 (r.x.waiting++[(l.length:Int)])))).set (0+(n:Int).toNat*20+0+Int.toNat 0*8+6) (.int .u64 (IntKind.wrap .u64 (((r.setw v2 (r.x.waiting++[(l.length:Int)])).x.e 0).inn+1)))=_:=e3
  rw [e3]
  refine qx1 ?_
  rw [hC]
  refine Run.fin_mono (cn_end hcl (d:=d) (E:=[]) w4 f hbx4 Zc) ?_
  rintro v h' ⟨q',rfl,p4,p5,p6⟩
  rw [set_set] at p4
  exact ⟨q',v2,by simp,p4,(c3.trans (u4.ch (.inl rfl))).trans p5,zA (zA c3.nx (Nat.le_of_eq u4.nx.symm)) p6⟩
 exact trivial
end
def jbi (many:Int):Wi:=⟨⟨0,0,some [],true,false,0,0⟩,⟨2,0,some [],true,false,0,0⟩,many.toNat,false,0,[]⟩
def jar (ws:Ws) (n many:Int):(Int × Int) × Ws :=
 if n<0 then ((0,116),ws) else match ws[n.toNat]? with
 | none=>((0,116),ws)
 | some x=>if x.backlog=0\/x.e0.what≠1 then ((0,116),ws) else if many<1\/65536<many then ((0,2),ws)
  else if x.backlog<=x.waiting.length then ((0,113),ws) else if 1000<=ws.length then ((0,112),ws)
  else ((ws.length,0),ws.set n.toNat { x with waiting:=x.waiting++[(ws.length:Int)],e0 := { x.e0 with inn:=upu x.e0.inn } } ++ [jbi many])
section
variable {cl:Nat->Call} (hcl:Sem cl)
include hcl
theorem jiJ {d rw q:Nat} {h:H} {l:List RX} {tl:List V} {n many:Int} (hd:3<=d) (w:RW h rw q l tl) (o:WsOk (l.map RX.x)) :
  ∃ q' l' h',cl d (.fn F.jaT) [.p rw 0,.i n,.i many] h=some (.tup [.i (jar (l.map RX.x) n many).1.1,.i (jar (l.map RX.x) n many).1.2],h')/\RW h' rw q' l' tl/\l'.map RX.x=(jar (l.map RX.x) n many).2/\Ch (RC rw q) h h'/\(q'=q\/h.nx<=q'):=by
 suffices s : ∃ v' h',cl d (.fn F.jaT) [.p rw 0,.i n,.i many] h=some (v',h') /\ ∃ q' l',v' = .tup [.i (jar (l.map RX.x) n many).1.1,.i (jar (l.map RX.x) n many).1.2]/\RW h' rw q' l' tl/\l'.map RX.x=(jar (l.map RX.x) n many).2/\Ch (RC rw q) h h'/\(q'=q\/h.nx<=q') by
  obtain ⟨_,h',e,q',l',rfl,p⟩:=s;exact ⟨q',l',h',e,p⟩
 refine at_ hcl om rfl rfl rfl ?_
 have hwl:(l.map RX.x).length=l.length:=by simp
 have hol:=o.len
 rw [hwl] at hol
 obtain ⟨aw,cw,hwh,hac⟩:=w.head
 by_cases h0:n<0
 ·have hS:jar (l.map RX.x) n many=((0,116),l.map RX.x):=if_pos h0
  rw [hS]
  refine qx1 ?_
  exact ⟨q,l,rfl,w,rfl,Ch.refl _ _,.inl rfl⟩
 have hS:jar (l.map RX.x) n many=_:=if_neg h0
 obtain ⟨m,rfl⟩:=zz (show 0<=n by omega)
 rw [zw] at hS
 by_cases hlt:m<l.length
 case neg=>
  rw [zd (by simpa using hlt)] at hS
  simp only at hS
  rw [hS]
  refine qx1 ?_
  exact ⟨q,l,rfl,w,rfl,Ch.refl _ _,.inl rfl⟩
 obtain ⟨r,hr⟩ : ∃ r,l[m]?=some r:=⟨_,za hlt⟩
 obtain ⟨rfl,rfl⟩:=hac (by rintro rfl;simp at hlt)
 rw [jaJ hr] at hS
 simp only at hS
 have hq:=(w.rat hr).hq
 have q1:=jhF hr
 have q2:=jiO (k:=0) hr (.inl rfl)
 have q3:=jmb hr
 have q2:(rows l)[0+(m:Int).toNat*20+0+((0:Nat):Int).toNat*8+0]?=some (.i r.x.e0.what):=q2
 by_cases hb0:r.x.backlog=0
 ·rw [if_pos (.inl hb0)] at hS;rw [hS]
  refine qx1 ?_
  exact ⟨q,l,rfl,w,rfl,Ch.refl _ _,.inl rfl⟩
 by_cases hw1:r.x.e0.what=1
 case neg=>
  rw [if_pos (.inr hw1)] at hS;rw [hS]
  refine qx1 ?_
  exact ⟨q,l,rfl,w,rfl,Ch.refl _ _,.inl rfl⟩
 rw [if_neg (by rintro (e | e);(exact hb0 e);exact e hw1)] at hS
 have hnw : ¬ r.x.e0.what≠1:=fun e=>e hw1
 by_cases hm:many<1\/65536<many
 ·rw [if_pos hm] at hS;rw [hS]
  repeat' (first|refine qxy ?_|refine zbf rfl (fun _=>?_) fun _=>?_|refine zbg rfl (fun _=>?_) fun _=>?_|refine zbh rfl (fun _=>?_) fun _=>?_|refine zbm rfl (fun _=>?_) fun _=>?_|refine zbn rfl (fun _=>?_) fun _=>?_)
  all_goals first | exact ⟨q,l,rfl,w,rfl,Ch.refl _ _,.inl rfl⟩ | (exfalso;omega)
 rw [if_neg hm] at hS
 have hm1:1<=many:=by omega
 have hm2:many<=65536:=by omega
 clear hm
 obtain ⟨av,cv,hva,_⟩:=(w.rok hr).w.1
 rw [hva] at q3
 have hwt:=(o.wait _ (zc (jaJ hr))).1
 by_cases hbk:r.x.backlog<=r.x.waiting.length
 ·rw [if_pos hbk] at hS;rw [hS]
  refine qx1 ?_
  exact ⟨q,l,rfl,w,rfl,Ch.refl _ _,.inl rfl⟩
 rw [if_neg hbk] at hS
 rw [hwl] at hS
 by_cases hfull:1000<=l.length
 ·rw [if_pos hfull] at hS;rw [hS]
  refine qx1 ?_
  exact ⟨q,l,rfl,w,rfl,Ch.refl _ _,.inl rfl⟩
 rw [if_neg hfull] at hS
 rw [hS]
 obtain ⟨nn,rfl⟩:=zz (show 0<=many by omega)
 obtain ⟨C,hC⟩ : ∃ C,C=c55_4:=⟨_,rfl⟩
 have hCk : ∀ (E:Env) (x:Wi) (bx:Nat) (G:H),Fresh x->RW G rw q l tl->G.get bx=some (.cells (RX.fresh x).cells false)->bx≠q/\bx≠rw/\bx<G.nx->_ :=
  fun E x bx G f w1 hbx hz=>cn_mid hcl (E:=E) (d:=d) w1 f hbx hz hol hr hwt
 rw [<- hC] at hCk
 simp only [c55,c55_12,c55_11,c55_10,c55_9,c55_8,c55_7,yB,yH,yN]
 rw [<- hC]
 clear hC hS
 refine qm1 ?_
 refine Run.unroll (n:=99999) rfl ?_
 refine qm1 ?_
 refine End.unroll ?_
 refine qm1 ?_
 refine End.unroll ?_
 refine qm1 ?_
 refine Run.opqh fun G hG=>?_
 have oG:Old h G:=by
  rw [hG]
  repeat (first | exact Old.refl _ | refine Old.new ?_ | refine Old.set ?_ (zq _))
 have hGn:h.nx<G.nx:=by rw [hG];simp
 have hbx:G.get h.nx=some (.cells (RX.fresh (jbi nn)).cells false):=by
  rw [hG];exact jab _
 clear hG
 have lq:=w.lq
 have lw:=w.lw
 refine Run.fin_mono (hCk [] (jbi nn) h.nx G ⟨rfl,rfl,rfl⟩ (w.old oG) hbx ⟨by omega,by omega,hGn⟩) ?_
 rintro v h2 ⟨q',v',rfl,p1,p2,p3⟩
 refine ⟨q',_,rfl,p1,?_,oG.ch.trans p2,.inr (by have:=oG.1;omega)⟩
 rw [List.map_append,map_set];rfl
end
def tail (now:Int) (hd:Nat->Bool) (ct:Nat->Int) (no si:Int):List V :=
 .int .u64 now :: (tab 32 (fun i=>.bool (hd i))++(tab 32 (fun i=>.i (ct i))++[.i no,.i si]))
section
variable {v:V} {now no si:Int} {hd:Nat->Bool} {ct:Nat->Int}
theorem t_hd {i o:Nat} (hi:i<32) (ho:o=2+i):(v :: tail now hd ct no si)[o]?=some (.bool (hd i)):=by
 subst ho
 rw [show 2+i=i+1+1 by omega]
 show (tab 32 (fun i=>V.bool (hd i))++_)[i]?=_
 rw [ze,if_pos (by simpa using hi),jdB hi]
theorem t_ct {i o:Nat} (hi:i<32) (ho:o=34+i):(v :: tail now hd ct no si)[o]?=some (.i (ct i)):=by
 subst ho
 rw [show 34+i=(32+i)+1+1 by omega]
 show (tab 32 (fun i=>V.bool (hd i))++(tab 32 (fun i=>V.i (ct i))++_))[32+i]?=_
 rw [ze,if_neg Zd,tab_length,Nat.add_sub_cancel_left,ze,if_pos (by simpa using hi),jdB hi]
theorem t_no {o:Nat} (ho:o=66):(v :: tail now hd ct no si)[o]?=some (.i no):=by
 subst ho
 show (tab 32 (fun i=>V.bool (hd i))++(tab 32 (fun i=>V.i (ct i))++[.i no,.i si]))[64]?=_
 rw [ze,if_neg Zd,tab_length,ze,if_neg Zd,tab_length];rfl
theorem t_si {o:Nat} (ho:o=67):(v :: tail now hd ct no si)[o]?=some (.i si):=by
 subst ho
 show (tab 32 (fun i=>V.bool (hd i))++(tab 32 (fun i=>V.i (ct i))++[.i no,.i si]))[65]?=_
 rw [ze,if_neg Zd,tab_length,ze,if_neg Zd,tab_length];rfl
theorem jcX:(tail now hd ct no si).length=67:=by simp [tail]
end
theorem RW.tl {h:H} {rw q:Nat} {l:List RX} {tl tl':List V} {v:V} (w:RW h rw q l tl) (hv:h.get rw=some (.cells (v :: tl) false)):RW (h.set rw (.cells (v :: tl') false)) rw q l tl':=by
 have ch:Ch (RC rw q) h (h.set rw (.cells (v :: tl') false)):=Ch.set (.inr rfl)
 refine ⟨w.lw,w.lq,w.ne,fun hl=>?_,fun hl=>?_,fun s hs=>(w.ok s hs).keep ch⟩
 ·have a:=w.at_ hl
  rw [a.hw] at hv
  cases hv
  exact ⟨by rw [jab],by rw [jaa w.ne.symm,a.hq],w.ne⟩
 ·have a:=w.nil hl
  rw [a] at hv
  cases hv
  rw [jab]
def jcn (now t:Int):Int:=if 18446744073709551615-now<t then 18446744073709551615 else now+t
section
variable {cl:Nat->Call} (hcl:Sem cl)
include hcl
theorem jnA {d rw q:Nat} {h:H} {l:List RX} {now no si t:Int} {hdl:Nat->Bool} {ct:Nat->Int} (hd:1<=d) (w:RW h rw q l (tail now hdl ct no si)) (n0:0<=now) (n1:now<=18446744073709551615) (t0:0<=t) (t1:t<=18446744073709551615) :
  ∃ h',cl d (.fn F.jaE) [.p rw 0,.int .u64 t] h=some (.tup [],h')/\RW h' rw q l (tail (jcn now t) hdl ct no si)/\Ch (RC rw q) h h':=by
 refine jag (at_ hcl om rfl rfl rfl ?_)
 obtain ⟨a,c,hw,_⟩:=w.head
 have q1:(V.slice a l.length c :: tail now hdl ct no si)[0+1]?=some (.int .u64 now):=rfl
 have hlen:0+1<(V.slice a l.length c :: tail now hdl ct no si).length:=by simp [jcX]
 unfold jcn
 by_cases hb:18446744073709551615-now<t
 ·rw [if_pos hb]
  refine qx1 ?_
  refine Ops.store1 rfl rfl rfl hw hlen ?_
  refine qx1 ?_
  exact ⟨rfl,w.tl hw,Ch.set (.inr rfl)⟩
 ·rw [if_neg hb]
  refine qx1 ?_
  refine Ops.store1 rfl rfl rfl hw hlen ?_
  refine qx1 ?_
  exact ⟨rfl,w.tl hw,Ch.set (.inr rfl)⟩
def sumC (ct:Nat->Int):Nat->Int
 | 0=>0
 | n+1=>sumC ct n+ct (n+1)
omit hcl in
theorem jny {ct:Nat->Int} (hc : ∀ i,0<=ct i/\ct i<=1000000) : ∀ n,0<=sumC ct n/\sumC ct n<=1000000*n
 | 0=>by simp [sumC]
 | n+1=>by have:=jny hc n;have:=hc (n+1);simp only [sumC];omega
theorem jiI {d rw q:Nat} {h:H} {l:List RX} {now no si:Int} {hdl:Nat->Bool} {ct:Nat->Int} (hd:1<=d) (w:RW h rw q l (tail now hdl ct no si)) (hc : ∀ i,0<=ct i/\ct i<=1000000) :
  cl d (.fn F.jcJ) [.p rw 0] h=some (.i (sumC ct 31),h):=by
 refine jal (at_ hcl om rfl rfl rfl ?_)
 obtain ⟨a,c,hw,_⟩:=w.head
 refine qx1 ?_
 refine Run.loop (fun m e g=>∃ s:Nat,m=31-s/\s<=31/\e=[(0,.p rw 0),(3,.i (sumC ct s)),(4,.i ((s+1:Nat):Int))]/\g=h)
  (k:=31) Ze ⟨0,rfl,by omega,rfl,rfl⟩ ?_
 rintro _ _ h ⟨s,rfl,hs,rfl,rfl⟩ f ih
 by_cases hlt:s<31
 ·have q1:(V.slice a l.length c :: tail now hdl ct no si)[0+34+(((s+1:Nat):Int)).toNat*1]?=some (.i (ct (s+1))):=t_ct om om
  have hb:=jny hc s
  have hb2:=hc (s+1)
  have hcond:((s+1:Nat):Int)<=31:=by omega
  have hs1:((s+1+1:Nat):Int)=((s+1:Nat):Int)+1:=by omega
  refine qx1 ?_
  exact ih (31-(s+1)) om _ _ ⟨s+1,rfl,by omega,by rw [hs1];rfl,rfl⟩
 ·obtain rfl:s=31:=by omega
  have hcond : ¬ ((31+1:Nat):Int)<=31:=by omega
  refine qx1 ?_
  exact ⟨rfl,rfl⟩
end
def NtOk (ws:Ws) (no si:Int):Prop:=no = -1 \/ ∃ (n k:Nat) (x:Wi),no=n/\si=k/\(k=0\/k=1)/\ws[n]?=some x/\x.e0.ring≠none/\x.e1.ring≠none
def jap (ws:Ws) (sum no si:Int):Ws :=
 if no<0 then ws else match ws[no.toNat]? with
 | none=>ws
 | some x=>match (x.e si.toNat).ring with
  | none=>ws
  | some q=>if sum=0 then ws.set no.toNat (x.take si.toNat q.length q)
   else if q=[] then ws.set no.toNat (x.fill (1-si.toNat) (min 1 x.cap) [] [1]) else ws
section
variable {cl:Nat->Call} (hcl:Sem cl)
include hcl
theorem jcd {d rw q:Nat} {h:H} {l:List RX} {now no si:Int} {hdl:Nat->Bool} {ct:Nat->Int} (hd:3<=d) (w:RW h rw q l (tail now hdl ct no si)) (o:WsOk (l.map RX.x)) (hnt:NtOk (l.map RX.x) no si) (hc : ∀ i,0<=ct i/\ct i<=1000000) :
  ∃ l' h',cl d (.fn F.jb9) [.p rw 0] h=some (.tup [],h')/\RW h' rw q l' (tail now hdl ct no si)/\l'.map RX.x=jap (l.map RX.x) (sumC ct 31) no si/\Ch (RC rw q) h h':=by
 suffices s : ∃ v' h',cl d (.fn F.jb9) [.p rw 0] h=some (v',h') /\ ∃ l',v' = .tup []/\RW h' rw q l' (tail now hdl ct no si)/\l'.map RX.x=jap (l.map RX.x) (sumC ct 31) no si/\Ch (RC rw q) h h' by
  obtain ⟨_,h',e,l',rfl,p⟩:=s;exact ⟨l',h',e,p⟩
 refine at_ hcl om rfl rfl rfl ?_
 have ep:=jiI hcl (d:=d-1) om w hc
 rcases hnt with rfl | ⟨n,k,x,rfl,rfl,hk,hx,hx0,hx1⟩
 ·obtain ⟨a,c,hw,_⟩:=w.head
  have q1:(V.slice a l.length c :: tail now hdl ct (-1) si)[0+66]?=some (.i (-1)):=t_no rfl
  have hS:jap (l.map RX.x) (sumC ct 31) (-1) si=l.map RX.x:=if_pos om
  rw [hS]
  refine qx1 ?_
  exact ⟨l,rfl,w,rfl,Ch.refl _ _⟩
 obtain ⟨r,hr,rfl⟩ : ∃ r,l[n]?=some r/\r.x=x:=by
  rw [List.getElem?_map] at hx
  cases hr:l[n]? with
  | none=>rw [hr] at hx;cases hx
  | some r=>rw [hr] at hx;cases hx;exact ⟨r,rfl,rfl⟩
 obtain ⟨hw,hq,hne⟩:=w.rat hr
 have hn:=r_lt hr
 have q1:(V.slice (some (q,0)) l.length (.grow 20) :: tail now hdl ct (n:Int) (k:Int))[0+66]?=some (.i (n:Int)):=t_no rfl
 have q2:(V.slice (some (q,0)) l.length (.grow 20) :: tail now hdl ct (n:Int) (k:Int))[0+67]?=some (.i (k:Int)):=t_si rfl
 have hring : ∃ b,(r.x.e k).ring=some b:=by
  rcases hk with rfl | rfl
  ·exact Option.ne_none_iff_exists'.1 hx0
  ·exact Option.ne_none_iff_exists'.1 hx1
 obtain ⟨b,hb⟩:=hring
 obtain ⟨hv,_⟩:=(w.rok hr).b k hk
 rw [hb] at hv
 simp only [Option.getD_some] at hv
 obtain ⟨a,c,hva,_⟩:=id hv
 have q3:=r_b hr hk
 rw [hva] at q3
 have hS:jap (l.map RX.x) (sumC ct 31) (n:Int) (k:Int)=if sumC ct 31=0 then (l.map RX.x).set n (r.x.take k b.length b) else if b=[] then (l.map RX.x).set n (r.x.fill (1-k) (min 1 r.x.cap) [] [1]) else l.map RX.x:=by
  unfold jap
  rw [if_neg om,zw,zw,jaJ hr]
  simp only [hb]
 rw [hS]
 by_cases hsum:sumC ct 31=0
 ·rw [if_pos hsum]
  obtain ⟨v,v',h',e2,p1,p2,p3⟩:=jnF hcl (d:=d-1) (many:=(b.length:Int)) om w hr hk hb om
  rw [show (min (b.length:Int) b.length).toNat=b.length by omega] at p2
  refine qx1 ?_
  exact ⟨_,rfl,p2,by rw [map_set,jnv hk],p3⟩
 rw [if_neg hsum]
 by_cases hbn:b=[]
 ·rw [if_pos hbn]
  subst hbn
  have q3:(rows l)[0+(n:Int).toNat*20+0+(k:Int).toNat*8+4]?=some (V.slice a 0 c):=q3
  have ek:(1:Int)-(k:Int)=((1-k:Nat):Int):=by omega
  have ekk:1-(1-k)=k:=by omega
  have lw:=w.lw
  have lq:=w.lq
  have hGo : ∀ j,j<h.nx->((h.reserve 1).set (h.nx+0) (.cells [.int .u8 1] false)).get j=h.get j:=fun j hj=>by rw [jaa om];rfl
  have oG:Old h ((h.reserve 1).set (h.nx+0) (.cells [.int .u8 1] false)):=⟨by show h.nx<=h.nx+1;omega,hGo⟩
  have hvb:VB ((h.reserve 1).set (h.nx+0) (.cells [.int .u8 1] false)) (.slice (some (h.nx+0,0)) 1 (.fix 1)) [1] :=
   ⟨some (h.nx+0,0),.fix 1,rfl,fun e=>by (cases e),zq _,fun _=>⟨h.nx+0,0,_,false,rfl,by show h.nx+0<h.nx+1;omega,jab _,fun i x hi=>by
    match i,hi with
    | 0,hi=>cases hi;rfl
    | i+1,hi=>simp at hi⟩⟩
  obtain ⟨v',h',e2,p2,p3⟩:=jlj hcl (d:=d-1) (k:=1-k) (b:=[]) om (w.old oG) hr om (by rw [ekk];exact hb) Zd (o.wi hr).cap1 hvb Zd (fun _ z hz=>by
   cases hz
   exact ⟨by omega,by omega,by show h.nx+0<h.nx+1;omega⟩)
  rw [<- ek] at e2
  have hm1:min ([1]:List UInt8).length (r.x.cap-([]:List UInt8).length)=min 1 r.x.cap:=by simp
  rw [hm1] at p2
  refine qx1 ?_
  refine Run.region ?_
  have hwR:(h.reserve 1).get rw=_:=hw
  refine qx1 ?_
  refine Ops.bslice1_at (new:=[.int .u8 1]) rfl rfl rfl rfl ?_
  refine qx1 ?_
  exact ⟨_,rfl,p2,by rw [map_set,jml om],oG.ch.trans p3⟩
 ·rw [if_neg hbn]
  have hpos : ¬ (b.length:Int)=0:=by have:=List.length_pos_iff.2 hbn;omega
  refine qx1 ?_
  exact ⟨l,rfl,w,rfl,Ch.refl _ _⟩
end
def put1 {α : Type} (f:Nat -> α) (s:Nat) (v : α):Nat -> α := fun i=>if i=s then v else f i
section
variable {v:V} {now no si:Int} {hd:Nat->Bool} {ct:Nat->Int}
theorem jlM {i o:Nat} {b:Bool} (hi:i<32) (ho:o=2+i):(v :: tail now hd ct no si).set o (.bool b)=v :: tail now (put1 hd i b) ct no si:=by
 subst ho
 rw [show 2+i=i+1+1 by omega]
 show v :: V.int .u64 now :: ((tab 32 (fun i=>V.bool (hd i))++_).set i (.bool b))=_
 rw [List.set_append,if_pos (by simpa using hi),jfi]
 unfold tail
 rw [jdC (g:=fun j=>V.bool (put1 hd i b j)) (fun k _=>by unfold put1;split<;>rfl)]
theorem jhi {i o:Nat} {b:Int} (hi:i<32) (ho:o=34+i):(v :: tail now hd ct no si).set o (.i b)=v :: tail now hd (put1 ct i b) no si:=by
 subst ho
 rw [show 34+i=(32+i)+1+1 by omega]
 show v :: V.int .u64 now :: ((tab 32 (fun i=>V.bool (hd i))++(tab 32 (fun i=>V.i (ct i))++[V.i no,V.i si])).set (32+i) (.i b))=_
 rw [List.set_append,if_neg Zd,tab_length,Nat.add_sub_cancel_left,List.set_append,if_pos (by simpa using hi),jfi]
 unfold tail
 rw [jdC (n:=32) (f:=fun j=>if j=i then V.i b else V.i (ct j)) (g:=fun j=>V.i (put1 ct i b j)) (fun k _=>by unfold put1;split<;>rfl)]
end
def jdU (s:Int):Prop:=1<=s/\s<=31
instance (s:Int):Decidable (jdU s):=inferInstanceAs (Decidable (_/\_))
def jex (hd:Nat->Bool) (s:Int) (on:Bool):Nat->Bool:=if jdU s then put1 hd s.toNat on else hd
def jc6 (ct:Nat->Int) (s:Int) (on:Bool):Nat->Int:=if jdU s/\on=false then put1 ct s.toNat 0 else ct
section
variable {cl:Nat->Call} (hcl:Sem cl)
include hcl
theorem rq_Handle {d rw q:Nat} {h:H} {l:List RX} {now no si s:Int} {on:Bool} {hdl:Nat->Bool} {ct:Nat->Int} (hd:4<=d) (w:RW h rw q l (tail now hdl ct no si)) (o:WsOk (l.map RX.x)) (hnt:NtOk (l.map RX.x) no si) (hc : ∀ i,0<=ct i/\ct i<=1000000) :
  ∃ l' h',cl d (.fn F.jaV) [.p rw 0,.i s,.bool on] h=some (.i (if jdU s then 0 else 100),h')/\RW h' rw q l' (tail now (jex hdl s on) (jc6 ct s on) no si)/\l'.map RX.x=jap (l.map RX.x) (sumC (jc6 ct s on) 31) no si/\Ch (RC rw q) h h':=by
 suffices k : ∃ v' h',cl d (.fn F.jaV) [.p rw 0,.i s,.bool on] h=some (v',h') /\ ∃ l',v' = .i (if jdU s then 0 else 100)/\RW h' rw q l' (tail now (jex hdl s on) (jc6 ct s on) no si)/\l'.map RX.x=jap (l.map RX.x) (sumC (jc6 ct s on) 31) no si/\Ch (RC rw q) h h' by
  obtain ⟨_,h',e,l',rfl,p⟩:=k;exact ⟨l',h',e,p⟩
 refine at_ hcl om rfl rfl rfl ?_
 by_cases hs:jdU s
 case neg=>
  rw [if_neg hs,show jex hdl s on=hdl by unfold jex;rw [if_neg hs],show jc6 ct s on=ct by unfold jc6;rw [if_neg (fun e=>hs e.1)]]
  obtain ⟨l',h',e,p⟩:=jcd hcl (d:=d-1) om w o hnt hc
  have hs':s<1\/(¬ s<1/\31<s):=by unfold jdU at hs;omega
  clear hs
  rcases hs' with hs' | ⟨hs1,hs'⟩
  ·refine qx1 ?_
   exact ⟨l',rfl,p⟩
  ·refine qx1 ?_
   exact ⟨l',rfl,p⟩
 rw [if_pos hs]
 obtain ⟨s1,s2⟩:=id hs
 obtain ⟨m,rfl⟩:=zz (show 0<=s by omega)
 obtain ⟨a,c,hw,_⟩:=w.head
 have hlen : ∀ {hd2:Nat->Bool} {o:Nat},o<68->o<(V.slice a l.length c :: tail now hd2 ct no si).length:=fun ho=>by simp [jcX];omega
 rw [show jex hdl (m:Int) on=put1 hdl m on by unfold jex;rw [if_pos hs,zw]]
 have w1:=w.tl (tl':=tail now (put1 hdl m on) ct no si) hw
 have c1:Ch (RC rw q) h (h.set rw (.cells (V.slice a l.length c :: tail now (put1 hdl m on) ct no si) false)):=Ch.set (.inr rfl)
 cases on
 ·rw [show jc6 ct (m:Int) false=put1 ct m 0 by unfold jc6;rw [if_pos ⟨hs,rfl⟩,zw]]
  have w2:=w1.tl (tl':=tail now (put1 hdl m false) (put1 ct m 0) no si) (jab _)
  have c2:=c1.trans (Ch.set (B:=RC rw q) (ob := .cells (V.slice a l.length c :: tail now (put1 hdl m false) (put1 ct m 0) no si) false) (.inr rfl))
  have hc0 : ∀ i,0<=put1 ct m 0 i/\put1 ct m 0 i<=1000000:=fun i=>by
   unfold put1
   by_cases e:i=m
   ·rw [if_pos e];omega
   ·rw [if_neg e];exact hc i
  obtain ⟨l',h',e,p1,p2,p3⟩:=jcd hcl (d:=d-1) om w2 o hnt hc0
  refine qx1 ?_
  refine Ops.store1 rfl rfl rfl hw (hlen om) ?_
  rw [jlM (i:=m) om om]
  refine qx1 ?_
  refine Ops.store1 rfl rfl rfl (jab _) (hlen om) ?_
  rw [jhi (i:=m) om om]
  refine qx1 ?_
  exact ⟨l',rfl,p1,p2,c2.trans p3⟩
 ·rw [show jc6 ct (m:Int) true=ct by unfold jc6;rw [if_neg (fun e=>by cases e.2)]]
  obtain ⟨l',h',e,p1,p2,p3⟩:=jcd hcl (d:=d-1) om w1 o hnt hc
  refine qx1 ?_
  refine Ops.store1 rfl rfl rfl hw (hlen om) ?_
  rw [jlM (i:=m) om om]
  refine qx1 ?_
  exact ⟨l',rfl,p1,p2,c1.trans p3⟩
end
def jdG (hd:Nat->Bool) (ct:Nat->Int) (s:Int):Nat->Int:=if jdU s/\hd s.toNat=true then put1 ct s.toNat (ct s.toNat+1) else ct
section
variable {cl:Nat->Call} (hcl:Sem cl)
include hcl
theorem jlV {d rw q:Nat} {h:H} {l:List RX} {now no si s:Int} {hdl:Nat->Bool} {ct:Nat->Int} (hd:4<=d) (w:RW h rw q l (tail now hdl ct no si)) (o:WsOk (l.map RX.x)) (hnt:NtOk (l.map RX.x) no si) (hc : ∀ i,0<=ct i/\ct i<=999999) :
  ∃ l' h',cl d (.fn F.jbc) [.p rw 0,.i s] h=some (.i (if jdU s then 0 else 100),h')/\RW h' rw q l' (tail now hdl (jdG hdl ct s) no si)/\l'.map RX.x=jap (l.map RX.x) (sumC (jdG hdl ct s) 31) no si/\Ch (RC rw q) h h':=by
 suffices k : ∃ v' h',cl d (.fn F.jbc) [.p rw 0,.i s] h=some (v',h') /\ ∃ l',v' = .i (if jdU s then 0 else 100)/\RW h' rw q l' (tail now hdl (jdG hdl ct s) no si)/\l'.map RX.x=jap (l.map RX.x) (sumC (jdG hdl ct s) 31) no si/\Ch (RC rw q) h h' by
  obtain ⟨_,h',e,l',rfl,p⟩:=k;exact ⟨l',h',e,p⟩
 refine at_ hcl om rfl rfl rfl ?_
 have hc0 : ∀ i,0<=ct i/\ct i<=1000000:=fun i=>⟨(hc i).1,by have:=(hc i).2;omega⟩
 by_cases hs:jdU s
 case neg=>
  rw [if_neg hs,show jdG hdl ct s=ct by unfold jdG;rw [if_neg (fun e=>hs e.1)]]
  obtain ⟨l',h',e,p⟩:=jcd hcl (d:=d-1) om w o hnt hc0
  have hs':s<1\/(¬ s<1/\31<s):=by unfold jdU at hs;omega
  clear hs
  rcases hs' with hs' | ⟨hs1,hs'⟩
  ·refine qx1 ?_
   exact ⟨l',rfl,p⟩
  ·refine qx1 ?_
   exact ⟨l',rfl,p⟩
 rw [if_pos hs]
 obtain ⟨s1,s2⟩:=id hs
 obtain ⟨m,rfl⟩:=zz (show 0<=s by omega)
 obtain ⟨a,c,hw,_⟩:=w.head
 have q1:(V.slice a l.length c :: tail now hdl ct no si)[0+2+(m:Int).toNat*1]?=some (.bool (hdl m)):=t_hd om om
 have q2:(V.slice a l.length c :: tail now hdl ct no si)[0+34+(m:Int).toNat*1]?=some (.i (ct m)):=t_ct om om
 have hlen:0+34+(m:Int).toNat*1<(V.slice a l.length c :: tail now hdl ct no si).length:=by simp [jcX];omega
 have hcm:=hc m
 cases hh:hdl m
 ·rw [show jdG hdl ct (m:Int)=ct by unfold jdG;rw [if_neg (fun e=>by rw [zw,hh] at e;cases e.2)]]
  rw [hh] at q1
  obtain ⟨l',h',e,p⟩:=jcd hcl (d:=d-1) om w o hnt hc0
  refine qx1 ?_
  exact ⟨l',rfl,p⟩
 ·rw [show jdG hdl ct (m:Int)=put1 ct m (ct m+1) by unfold jdG;rw [if_pos ⟨hs,by rw [zw];exact hh⟩,zw]]
  rw [hh] at q1
  have w1:=w.tl (tl':=tail now hdl (put1 ct m (ct m+1)) no si) hw
  have c1:Ch (RC rw q) h (h.set rw (.cells (V.slice a l.length c :: tail now hdl (put1 ct m (ct m+1)) no si) false)):=Ch.set (.inr rfl)
  have hc1 : ∀ i,0<=put1 ct m (ct m+1) i/\put1 ct m (ct m+1) i<=1000000:=fun i=>by
   unfold put1
   by_cases e:i=m
   ·rw [if_pos e];omega
   ·rw [if_neg e];exact hc0 i
  obtain ⟨l',h',e,p1,p2,p3⟩:=jcd hcl (d:=d-1) om w1 o hnt hc1
  refine qx1 ?_
  refine Ops.store1 rfl rfl rfl hw hlen ?_
  rw [jhi (i:=m) om om]
  refine qx1 ?_
  exact ⟨l',rfl,p1,p2,c1.trans p3⟩
end
section
variable {v:V} {now no si:Int} {hd:Nat->Bool} {ct:Nat->Int}
theorem t_set_no {o:Nat} {b:Int} (ho:o=66):(v :: tail now hd ct no si).set o (.i b)=v :: tail now hd ct b si:=by
 subst ho
 show v :: V.int .u64 now :: ((tab 32 (fun i=>V.bool (hd i))++(tab 32 (fun i=>V.i (ct i))++[V.i no,V.i si])).set 64 (.i b))=_
 rw [List.set_append,if_neg Zd,tab_length,List.set_append,if_neg Zd,tab_length];rfl
theorem t_set_si {o:Nat} {b:Int} (ho:o=67):(v :: tail now hd ct no si).set o (.i b)=v :: tail now hd ct no b:=by
 subst ho
 show v :: V.int .u64 now :: ((tab 32 (fun i=>V.bool (hd i))++(tab 32 (fun i=>V.i (ct i))++[V.i no,V.i si])).set 65 (.i b))=_
 rw [List.set_append,if_neg Zd,tab_length,List.set_append,if_neg Zd,tab_length];rfl
end
noncomputable def ntS (ws:Ws) (a b:Int):Int × Option (Nat × Nat) :=
 jbU ws a (110,none) fun n k x=>jbU ws b (110,none) fun m i _=>if n=m/\k≠i/\x.e0.ring≠none/\x.e1.ring≠none then (0,some (n,k)) else (111,none)
noncomputable def ntW (ws:Ws) (sum:Int) (a b:Int):Ws:=match (ntS ws a b).2 with
 | none=>ws
 | some (n,k)=>jap ws sum n k
noncomputable def ntNo (ws:Ws) (a b no:Int):Int:=match (ntS ws a b).2 with
 | none=>no
 | some (n,_)=>n
noncomputable def ntSi (ws:Ws) (a b si:Int):Int:=match (ntS ws a b).2 with
 | none=>si
 | some (_,k)=>k
section
variable {cl:Nat->Call} (hcl:Sem cl)
include hcl
theorem jkh {d rw q:Nat} {h:H} {l:List RX} {now no si a b:Int} {hdl:Nat->Bool} {ct:Nat->Int} (hd:4<=d) (w:RW h rw q l (tail now hdl ct no si)) (o:WsOk (l.map RX.x)) (hc : ∀ i,0<=ct i/\ct i<=1000000) :
  ∃ l' h',cl d (.fn F.jaH) [.p rw 0,.i a,.i b] h=some (.i (ntS (l.map RX.x) a b).1,h')/\RW h' rw q l' (tail now hdl ct (ntNo (l.map RX.x) a b no) (ntSi (l.map RX.x) a b si))/\l'.map RX.x=ntW (l.map RX.x) (sumC ct 31) a b/\Ch (RC rw q) h h':=by
 suffices k : ∃ v' h',cl d (.fn F.jaH) [.p rw 0,.i a,.i b] h=some (v',h') /\ ∃ l',v' = .i (ntS (l.map RX.x) a b).1/\RW h' rw q l' (tail now hdl ct (ntNo (l.map RX.x) a b no) (ntSi (l.map RX.x) a b si))/\l'.map RX.x=ntW (l.map RX.x) (sumC ct 31) a b/\Ch (RC rw q) h h' by
  obtain ⟨_,h',e,l',rfl,p⟩:=k;exact ⟨l',h',e,p⟩
 refine at_ hcl om rfl rfl rfl ?_
 unfold ntNo ntSi ntW
 rcases jdD hcl (d:=d-1) (fd:=a) om w o with ⟨hno,ea⟩ | ⟨n,k,r,hat,hr,hk,ea⟩
 ·have hS:ntS (l.map RX.x) a b=(110,none):=jaA hno
  rw [hS]
  rcases jdD hcl (d:=d-1) (fd:=b) om w o with ⟨_,eb⟩ | ⟨_,_,_,_,_,_,eb⟩
  ·refine qx1 ?_
   exact ⟨l,rfl,w,rfl,Ch.refl _ _⟩
  ·refine qx1 ?_
   exact ⟨l,rfl,w,rfl,Ch.refl _ _⟩
 have hS1:ntS (l.map RX.x) a b=_:=ja7 o.uniq hat (jaJ hr)
 rcases jdD hcl (d:=d-1) (fd:=b) om w o with ⟨hno,eb⟩ | ⟨m,i,r2,hat2,hr2,hk2,eb⟩
 ·rw [jaA hno] at hS1
  rw [hS1]
  refine qx1 ?_
  exact ⟨l,rfl,w,rfl,Ch.refl _ _⟩
 rw [ja7 o.uniq hat2 (jaJ hr2)] at hS1
 obtain ⟨hw,hq,hne⟩:=w.rat hr
 have hn:=r_lt hr
 have q1:=jhE (k:=0) hr (.inl rfl)
 have q2:=jhE (k:=1) hr (.inr rfl)
 have q1:(rows l)[0+(n:Int).toNat*20+0+((0:Nat):Int).toNat*8+2]?=some (.bool r.x.e0.ring.isSome):=q1
 have q2:(rows l)[0+(n:Int).toNat*20+0+((1:Nat):Int).toNat*8+2]?=some (.bool r.x.e1.ring.isSome):=q2
 by_cases hg:n=m/\k≠i/\r.x.e0.ring≠none/\r.x.e1.ring≠none
 case neg=>
  rw [if_neg hg] at hS1
  rw [hS1]
  by_cases h1:n=m
  case neg=>
   have h1':(n:Int)≠(m:Int):=by omega
   refine qx1 ?_
   exact ⟨l,rfl,w,rfl,Ch.refl _ _⟩
  have h1' : ¬ (n:Int)≠(m:Int):=by omega
  by_cases h2:k=i
  ·have h2':(k:Int)=(i:Int):=by omega
   refine qx1 ?_
   exact ⟨l,rfl,w,rfl,Ch.refl _ _⟩
  have h2' : ¬ (k:Int)=(i:Int):=by omega
  cases h3:r.x.e0.ring with
  | none=>
   rw [h3] at q1
   refine qx1 ?_
   exact ⟨l,rfl,w,rfl,Ch.refl _ _⟩
  | some b0=>
   rw [h3] at q1
   cases h4:r.x.e1.ring with
   | none=>
    rw [h4] at q2
    refine qx1 ?_
    exact ⟨l,rfl,w,rfl,Ch.refl _ _⟩
   | some b1=>exact absurd ⟨h1,h2,by rw [h3];simp,by rw [h4];simp⟩ hg
 rw [if_pos hg] at hS1
 rw [hS1]
 obtain ⟨rfl,g2,g3,g4⟩:=hg
 have h1' : ¬ (n:Int)≠(n:Int):=by omega
 have h2' : ¬ (k:Int)=(i:Int):=by omega
 obtain ⟨b0,h3⟩:=Option.ne_none_iff_exists'.1 g3
 obtain ⟨b1,h4⟩:=Option.ne_none_iff_exists'.1 g4
 rw [h3] at q1
 rw [h4] at q2
 have w1:=w.tl (tl':=tail now hdl ct (n:Int) si) hw
 have w2:=w1.tl (tl':=tail now hdl ct (n:Int) (k:Int)) (jab _)
 have c2:Ch (RC rw q) h _:=(Ch.set (.inr rfl)).trans (Ch.set (b:=rw) (h:=h.set rw (.cells (.slice (some (q,0)) l.length (.grow 20) :: tail now hdl ct (n:Int) si) false)) (ob := .cells (.slice (some (q,0)) l.length (.grow 20) :: tail now hdl ct (n:Int) (k:Int)) false) (.inr rfl))
 obtain ⟨l',h',e,p1,p2,p3⟩:=jcd hcl (d:=d-1) om w2 o (.inr ⟨n,k,r.x,rfl,rfl,hk,jaJ hr,g3,g4⟩) hc
 have hlen : ∀ {n2:Int} {o:Nat},o<68->o<(V.slice (some (q,0)) l.length (.grow 20) :: tail now hdl ct n2 si).length:=fun ho=>by simp [jcX];omega
 refine qx1 ?_
 refine Ops.store1 rfl rfl rfl hw (hlen om) ?_
 rw [t_set_no om]
 refine qx1 ?_
 refine Ops.store1 rfl rfl rfl (jab _) (hlen om) ?_
 rw [t_set_si om]
 refine qx1 ?_
 exact ⟨l',rfl,p1,p2,c2.trans p3⟩
end
def ctZ (ct:Nat->Int) (n:Nat):Nat->Int:=fun i=>if 1<=i/\i<=n then 0 else ct i
theorem ctZ_zero (ct:Nat->Int):ctZ ct 0=ct:=by
 funext i;unfold ctZ;rw [if_neg om]
theorem jmn (ct:Nat->Int) (n:Nat):put1 (ctZ ct n) (n+1) 0=ctZ ct (n+1):=by
 funext i;unfold ctZ put1
 by_cases h:i=n+1
 ·rw [if_pos h,if_pos om]
 ·rw [if_neg h]
  show (if 1<=i/\i<=n then 0 else ct i)=_
  by_cases h2:1<=i/\i<=n
  ·rw [if_pos h2,if_pos om]
  ·rw [if_neg h2,if_neg om]
theorem ctZ_gt (ct:Nat->Int) (n:Nat):ctZ ct n (n+1)=ct (n+1):=by
 unfold ctZ;rw [if_neg om]
def jcw (ct:Nat->Int):Nat->List (Int × Int)
 | 0=>[]
 | n+1=>jcw ct n++if 0<ct (n+1) then [(((n+1:Nat):Int),ct (n+1))] else []
theorem jh6 (ct:Nat->Int) : ∀ n,(jcw ct n).length<=n
 | 0=>zq _
 | n+1=>by
  have:=jh6 ct n
  simp only [jcw,zg]
  split<;>simp<;>omega
def jcz (l:List (Int × Int)):List V:=(l.map fun p=>[V.i p.1,V.i p.2]).flatten
section
variable {cl:Nat->Call} (hcl:Sem cl)
include hcl
theorem jmC {d rw q:Nat} {h:H} {l:List RX} {now no si:Int} {hdl:Nat->Bool} {ct:Nat->Int} (hd:4<=d) (w:RW h rw q l (tail now hdl ct no si)) (o:WsOk (l.map RX.x)) (hnt:NtOk (l.map RX.x) no si) (hc : ∀ i,0<=ct i/\ct i<=1000000) :
  ∃ v l' h',cl d (.fn F.jaS) [.p rw 0] h=some (v,h')/\Row h.nx h' 2 v (jcw ct 31).length (jcz (jcw ct 31))/\RW h' rw q l' (tail now hdl (ctZ ct 31) no si)/\l'.map RX.x=jap (l.map RX.x) (sumC (ctZ ct 31) 31) no si/\Ch (RC rw q) h h':=by
 suffices k : ∃ v h',cl d (.fn F.jaS) [.p rw 0] h=some (v,h') /\ ∃ l',Row h.nx h' 2 v (jcw ct 31).length (jcz (jcw ct 31))/\RW h' rw q l' (tail now hdl (ctZ ct 31) no si)/\l'.map RX.x=jap (l.map RX.x) (sumC (ctZ ct 31) 31) no si/\Ch (RC rw q) h h' by
  obtain ⟨v,h',e,l',p⟩:=k;exact ⟨v,l',h',e,p⟩
 refine at_ hcl om rfl rfl rfl ?_
 obtain ⟨a,c,hw,_⟩:=w.head
 refine qx1 ?_
 refine Run.loop (fun m e g=>∃ (s:Nat) (v:V),m=31-s/\s<=31/\e=[(0,.p rw 0),(3,v),(4,.i ((s+1:Nat):Int))]/\Row h.nx g 2 v (jcw ct s).length (jcz (jcw ct s))/\Old (h.set rw (.cells (V.slice a l.length c :: tail now hdl (ctZ ct s) no si) false)) g)
  (k:=31) Ze ⟨0,.nils,rfl,by omega,rfl,Row.nil _ _ _,?_⟩ ?_
 ·rw [ctZ_zero]
  refine ⟨zq _,fun j hj=>?_⟩
  by_cases e:j=rw
  ·subst e;rw [jab,hw]
  ·rw [jaa e]
 rintro _ _ g ⟨s,v,rfl,hs,rfl,row,old⟩ f ih
 have w1:=w.tl (tl':=tail now hdl (ctZ ct s) no si) hw
 have wg:=w1.old old
 have onx:h.nx<=g.nx:=old.1
 have hwg:g.get rw=some (.cells (V.slice a l.length c :: tail now hdl (ctZ ct s) no si) false):=by
  rw [old.2 rw w.lw,jab]
 by_cases hlt:s<31
 case neg=>
  obtain rfl:s=31:=by omega
  have hcond : ¬ ((31+1:Nat):Int)<=31:=by omega
  have hc0 : ∀ i,0<=ctZ ct 31 i/\ctZ ct 31 i<=1000000:=fun i=>by
   unfold ctZ
   by_cases e:1<=i/\i<=31
   ·rw [if_pos e];omega
   ·rw [if_neg e];exact hc i
  obtain ⟨l',h',e,p1,p2,p3⟩:=jcd hcl (d:=d-1) om wg o hnt hc0
  have c1:Ch (RC rw q) h (h.set rw (.cells (V.slice a l.length c :: tail now hdl (ctZ ct 31) no si) false)):=Ch.set (.inr rfl)
  refine qx1 ?_
  refine ⟨l',row.keep p3.nx fun z hz=>p3.get z (row.at_ge hz).2 fun e=>?_,p1,p2,(c1.trans old.ch).trans p3⟩
  have:=(row.at_ge hz).1
  have:=w.lw
  have:=w.lq
  rcases e with e | e<;>omega
 have q1:(V.slice a l.length c :: tail now hdl (ctZ ct s) no si)[0+34+(((s+1:Nat):Int)).toNat*1]?=some (.i (ct (s+1))):=by
  rw [<- ctZ_gt ct s];exact t_ct om om
 have hlen:0+34+(((s+1:Nat):Int)).toNat*1<(V.slice a l.length c :: tail now hdl (ctZ ct s) no si).length:=by simp [jcX];omega
 have hcond:((s+1:Nat):Int)<=31:=by omega
 have hs1:((s+1+1:Nat):Int)=((s+1:Nat):Int)+1:=by omega
 have hb2:=hc (s+1)
 have hsl:=jh6 ct s
 by_cases hpos:0<ct (s+1)
 ·have hpos':ct (s+1)>0:=hpos
  have hL:jcw ct (s+1)=jcw ct s++[(((s+1:Nat):Int),ct (s+1))]:=by simp only [jcw,if_pos hpos]
  refine qx1 ?_
  refine Ops.push (N:=h.nx) (new:=[.i ((s+1:Nat):Int),.i (ct (s+1))]) rfl rfl rfl rfl om rfl rfl row onx om om fun v' g' row' hx' hz' hk'=>?_
  have hwg':g'.get rw=some (.cells (V.slice a l.length c :: tail now hdl (ctZ ct s) no si) false):=by
   rw [hk' rw (zr w.lw onx) (fun e=>by have:=row.at_ge e;have:=w.lw;omega),hwg]
  refine qx1 ?_
  refine Ops.store1 rfl rfl rfl hwg' hlen ?_
  rw [jhi (i:=s+1) om om,jmn]
  refine qx1 ?_
  refine ih (31-(s+1)) om _ _ ⟨s+1,v',rfl,by omega,by rw [hs1],?_,?_,?_⟩
  ·rw [hL,zg]
   have:jcz (jcw ct s++[(((s+1:Nat):Int),ct (s+1))])=jcz (jcw ct s)++[.i ((s+1:Nat):Int),.i (ct (s+1))]:=by simp [jcz]
   rw [this]
   refine Row.keep row' Zd fun z hz=>jaa ?_
   have:=hz' z hz
   have:=w.lw
   omega
  ·show h.nx<=g'.nx
   omega
  ·intro j hj
   have hj':j<h.nx:=hj
   by_cases e:j=rw
   ·subst e;rw [jab,jab]
   ·rw [jaa e,jaa e,hk' j om (fun e=>by have:=row.at_ge e;omega),old.2 j hj,jaa e]
 ·have hpos' : ¬ ct (s+1)>0:=hpos
  have hL:jcw ct (s+1)=jcw ct s:=by simp only [jcw,if_neg hpos,List.append_nil]
  refine qx1 ?_
  refine Ops.store1 rfl rfl rfl hwg hlen ?_
  rw [jhi (i:=s+1) om om,jmn]
  refine qx1 ?_
  refine ih (31-(s+1)) om _ _ ⟨s+1,v,rfl,by omega,by rw [hs1],?_,?_,?_⟩
  ·rw [hL]
   refine Row.keep row Zd fun z hz=>jaa ?_
   have:=row.at_ge hz
   have:=w.lw
   omega
  ·exact onx
  ·intro j hj
   by_cases e:j=rw
   ·subst e;rw [jab,jab]
   ·rw [jaa e,jaa e,old.2 j hj,jaa e]
end
noncomputable def fdsL (ws:Ws) (n:Nat):List Int:=((List.range n).filter fun i:Nat=>(atS ws (i:Int)).isSome).map fun i:Nat=>(i:Int)
theorem jgd (ws:Ws) (n:Nat):fdsL ws (n+1)=fdsL ws n++if (atS ws (n:Int)).isSome then [(n:Int)] else []:=by
 unfold fdsL
 rw [List.range_succ,List.filter_append,List.map_append]
 congr 1
 by_cases h:(atS ws (n:Int)).isSome<;>simp [h]
theorem jho (ws:Ws) (n:Nat):(fdsL ws n).length<=n:=by
 unfold fdsL
 rw [List.length_map]
 exact zA (List.length_filter_le _ _) Zd
section
variable {cl:Nat->Call} (hcl:Sem cl)
include hcl
theorem rq_Fds {d rw q:Nat} {h:H} {l:List RX} {tl:List V} (hd:2<=d) (w:RW h rw q l tl) (o:WsOk (l.map RX.x)) :
  ∃ v h',cl d (.fn F.jd2) [.p rw 0] h=some (v,h')/\Row h.nx h' 1 v (fdsL (l.map RX.x) 96).length (ints (fdsL (l.map RX.x) 96))/\Old h h':=by
 refine at_ hcl om rfl rfl rfl ?_
 refine qx1 ?_
 refine Run.loop (fun m e g=>∃ (n:Nat) (v:V),m=96-n/\n<=96/\e=[(0,.p rw 0),(3,v),(4,.i n)]/\Row h.nx g 1 v (fdsL (l.map RX.x) n).length (ints (fdsL (l.map RX.x) n))/\Old h g)
  (k:=96) Ze ⟨0,.nils,rfl,by omega,rfl,Row.nil _ _ _,Old.refl h⟩ ?_
 rintro _ _ g ⟨n,v,rfl,hn,rfl,row,old⟩ f ih
 have wg:=w.old old
 by_cases hlt:n<=95
 case neg=>
  obtain rfl:n=96:=by omega
  have hlt' : ¬ ((96:Nat):Int)<=95:=by omega
  refine qx1 ?_
  exact ⟨row,old⟩
 have hn1:((n+1:Nat):Int)=(n:Int)+1:=by omega
 rcases jdD hcl (d:=d-1) (fd:=(n:Int)) om wg o with ⟨hno,ea⟩ | ⟨m,k,r,hat,hr,hk,ea⟩
 ·have hs:fdsL (l.map RX.x) (n+1)=fdsL (l.map RX.x) n:=by rw [jgd,jeO hno];simp
  refine qx1 ?_
  exact ih (96-(n+1)) om _ _ ⟨n+1,v,rfl,by omega,by rw [hn1],by rw [hs];exact row,old⟩
 ·have hs:fdsL (l.map RX.x) (n+1)=fdsL (l.map RX.x) n++[(n:Int)]:=by rw [jgd,jdy o.uniq hat];rfl
  refine qx1 ?_
  refine Ops.push (N:=h.nx) (new:=[.i (n:Int)]) rfl rfl rfl rfl om rfl rfl row old.1 (by have:=jho (l.map RX.x) n;omega) (by have:=jho (l.map RX.x) n;omega) fun v' g' row' hx' hz' hk'=>?_
  refine qx1 ?_
  refine ih (96-(n+1)) om _ _ ⟨n+1,v',rfl,by omega,by rw [hn1],?_,zA old.1 hx',fun j hj=>?_⟩
  ·rw [hs,zg]
   simpa [ints] using row'
  ·rw [hk' j (zr hj old.1) (fun e=>by have:=row.at_ge e;omega),old.2 j hj]
end
def WsOne (ws:Ws):Prop := ∀ (i j:Nat) (x y:Wi) (p q:Nat) (m:Int),ws[i]?=some x->ws[j]?=some y->x.waiting[p]?=some m->y.waiting[q]?=some m->i=j/\p=q
structure WsK (ws:Ws):Prop where
 ok:WsOk ws
 one:WsOne ws
def Wi.SubFd (x y:Wi):Prop := ∀ k,k=0\/k=1->(y.e k).what=1->(x.e k).what=1/\(y.e k).fd=(x.e k).fd
theorem Wi.SubFd.refl (x:Wi):x.SubFd x:=fun _ _ h=>⟨h,rfl⟩
theorem Wi.SubFd.trans {x y z:Wi} (a:x.SubFd y) (b:y.SubFd z):x.SubFd z:=fun k hk h=>⟨(a k hk (b k hk h).1).1,by rw [(b k hk h).2,(a k hk (b k hk h).1).2]⟩
theorem w_lt {ws:Ws} {n:Nat} {x:Wi} (hr:ws[n]?=some x):n<ws.length:=by
 rcases zx n ws.length with h | h
 ·exact h
 ·rw [zd h] at hr;cases hr
theorem jpe {ws:Ws} {n:Nat} (h:n<ws.length) : ∃ x,ws[n]?=some x:=⟨_,za h⟩
theorem jeh {ws:Ws} {n m:Nat} {y z:Wi} (h:(ws.set n y)[m]?=some z):(m=n/\z=y)\/(m≠n/\ws[m]?=some z):=by
 rw [zi] at h
 by_cases e:n=m
 ·rw [if_pos e] at h
  by_cases hl:n<ws.length
  ·rw [if_pos hl] at h;cases h;exact .inl ⟨e.symm,rfl⟩
  ·rw [if_neg hl] at h;cases h
 ·rw [if_neg e] at h;exact .inr ⟨fun h=>e h.symm,h⟩
theorem WsK.mild {ws ws':Ws} (K:WsK ws) (hl:ws'.length=ws.length)
  (h : ∀ (i:Nat) (z':Wi),ws'[i]?=some z' -> ∃ z,ws[i]?=some z/\z.SubFd z'/\WiOk z'/\(∃ c,z'.waiting=z.waiting.drop c)/\(z.e0.what=0->(∃ (j:Nat) (u:Wi),ws'[j]?=some u/\(i:Int)∈u.waiting)->z'.e0.what=0)):WsK ws':=by
 refine ⟨⟨?_,fun x hx=>?_,by rw [hl];exact K.ok.len,fun x hx=>?_⟩,?_⟩
 ·have sub : ∀ n k fd,AtW ws' n k fd->AtW ws n k fd:=by
   rintro n k fd ⟨x,hx,hk,h1,h2⟩
   obtain ⟨z,e1,e2,_⟩:=h n x hx
   exact ⟨z,e1,hk,(e2 k hk h1).1,by rw [<- (e2 k hk h1).2,h2]⟩
  exact fun n k n' k' fd a b=>K.ok.uniq n k n' k' fd (sub _ _ _ a) (sub _ _ _ b)
 ·obtain ⟨i,hi⟩:=List.mem_iff_getElem?.1 hx
  obtain ⟨z,_,_,e,_⟩:=h i x hi
  exact e
 ·obtain ⟨i,hi⟩:=List.mem_iff_getElem?.1 hx
  obtain ⟨z,e1,_,_,⟨c,e2⟩,_⟩:=h i x hi
  obtain ⟨p1,p2⟩:=K.ok.wait z (zc e1)
  refine ⟨by rw [e2,List.length_drop];omega,fun m hm=>?_⟩
  obtain ⟨y,y0,y1,y2⟩:=p2 m (by rw [e2] at hm;exact List.mem_of_mem_drop hm)
  obtain ⟨y',hy'⟩:=jpe (ws:=ws') (n:=m.toNat) (by rw [hl];exact w_lt y1)
  obtain ⟨u,u1,_,_,_,u2⟩:=h _ _ hy'
  rw [y1] at u1;cases u1
  exact ⟨y',y0,hy',u2 y2 ⟨i,x,hi,by rw [Int.toNat_of_nonneg y0];exact hm⟩⟩
 ·intro i j x y p q m hx hy hp hq
  obtain ⟨a,a1,_,_,⟨c,a2⟩,_⟩:=h i x hx
  obtain ⟨b,b1,_,_,⟨c',b2⟩,_⟩:=h j y hy
  rw [a2,zm] at hp
  rw [b2,zm] at hq
  obtain ⟨e1,e2⟩:=K.one i j a b (c+p) (c'+q) m a1 b1 hp hq
  refine ⟨e1,?_⟩
  subst e1
  rw [hx] at hy;cases hy
  rw [a1] at b1;cases b1
  have:=a2.symm.trans b2
  have h1:=congrArg List.length this
  rw [List.length_drop,List.length_drop] at h1
  have h2:c+p<a.waiting.length:=by
   rcases zx (c+p) a.waiting.length with h | h
   ·exact h
   ·rw [zd h] at hp;cases hp
  omega
theorem WsK.set {ws:Ws} {n:Nat} {x y:Wi} (K:WsK ws) (hx:ws[n]?=some x) (hs:x.SubFd y) (hok:WiOk x->WiOk y) (hw:y.waiting=x.waiting) (h0:x.e0.what=0->y.e0.what=0):WsK (ws.set n y):=by
 refine K.mild Zd fun i z' hz=>?_
 rcases jeh hz with ⟨rfl,rfl⟩ | ⟨_,hz⟩
 ·exact ⟨x,hx,hs,hok (K.ok.ok x (zc hx)),⟨0,by rw [hw];rfl⟩,fun h _=>h0 h⟩
 ·exact ⟨z',hz,Wi.SubFd.refl _,K.ok.ok z' (zc hz),⟨0,rfl⟩,fun h _=>h⟩
theorem WsK.set_wait {ws:Ws} {n c:Nat} {x:Wi} (K:WsK ws) (hx:ws[n]?=some x):WsK (ws.set n { x with waiting:=x.waiting.drop c }):=by
 refine K.mild Zd fun i z' hz=>?_
 rcases jeh hz with ⟨rfl,rfl⟩ | ⟨_,hz⟩
 ·have:=K.ok.ok x (zc hx)
  exact ⟨x,hx,Wi.SubFd.refl _,⟨this.cap0,this.cap1,this.len,this.pair,this.out,this.bl,this.wh⟩,⟨c,rfl⟩,fun h _=>h⟩
 ·exact ⟨z',hz,Wi.SubFd.refl _,K.ok.ok z' (zc hz),⟨0,rfl⟩,fun h _=>h⟩
theorem WiOk.of {x y:Wi} (a:WiOk x) (hc:y.cap=x.cap) (hw : ∀ k,k=0\/k=1->(y.e k).writes=(x.e k).writes) (hr : ∀ k,k=0\/k=1->((y.e k).ring=none↔(x.e k).ring=none)) (hl : ∀ k,k=0\/k=1 -> ∀ q,(y.e k).ring=some q->q.length<=x.cap) (ho:y.e1.what=2->x.e1.what=2) (hb:y.backlog=x.backlog:=by rfl) (hv:WhV x->WhV y:=by exact fun h=>h):WiOk y:=by
 refine ⟨by rw [hc];exact a.cap0,by rw [hc];exact a.cap1,fun k hk q hq=>by rw [hc];exact hl k hk q hq,fun k hk=>?_,fun h2=>?_,by rw [hb];exact a.bl,hv a.wh⟩
 ·rw [hw k hk,a.pair k hk,ne_eq,ne_eq]
  refine not_congr ?_
  rcases hk with rfl | rfl
  ·exact (hr 1 (.inr rfl)).symm
  ·exact (hr 0 (.inl rfl)).symm
 ·have:=a.out (ho h2)
  exact ⟨fun e=>this.1 ((hr 0 (.inl rfl)).1 e),fun e=>this.2 ((hr 1 (.inr rfl)).1 e)⟩
theorem WiOk.nil {x:Wi} (a:WiOk x) : ∀ k,k=0\/k=1 -> ∀ q,(x.e k).ring=some q->q.length<=x.cap:=a.len
theorem jgD {x:Wi} {k:Nat} {i o:Bool} (hk:k=0\/k=1):x.SubFd (x.came k i o):=by
 intro j hj
 rcases hk with rfl | rfl<;>rcases hj with rfl | rfl<;>exact fun h=>⟨h,rfl⟩
theorem jgC {x:Wi} {k:Nat} {i o:Bool} (hk:k=0\/k=1) (a:WiOk x):WiOk (x.came k i o):=by
 rcases hk with rfl | rfl
 ·refine a.of rfl (fun j hj=>?_) (fun j hj=>?_) (fun j hj q hq=>?_) fun h=>h
  ·rcases hj with rfl | rfl<;>rfl
  ·rcases hj with rfl | rfl<;>exact Iff.rfl
  ·rcases hj with rfl | rfl
   ·exact a.len 0 Zd q hq
   ·exact a.len 1 Zd q hq
 ·refine a.of rfl (fun j hj=>?_) (fun j hj=>?_) (fun j hj q hq=>?_) fun h=>h
  ·rcases hj with rfl | rfl<;>rfl
  ·rcases hj with rfl | rfl<;>exact Iff.rfl
  ·rcases hj with rfl | rfl
   ·exact a.len 0 Zd q hq
   ·exact a.len 1 Zd q hq
theorem jjO {x:Wi} {k:Nat} {i o:Bool} (hk:k=0\/k=1):(x.came k i o).e0.what=x.e0.what:=by rcases hk with rfl | rfl<;>rfl
theorem jjN {x:Wi} {k:Nat} {i o:Bool} (hk:k=0\/k=1):(x.came k i o).waiting=x.waiting:=by rcases hk with rfl | rfl<;>rfl
theorem jjv {x:Wi} {k:Nat} {q:List UInt8} (hk:k=0\/k=1):x.SubFd (x.setq k q):=by
 intro j hj
 rcases hk with rfl | rfl<;>rcases hj with rfl | rfl<;>exact fun h=>⟨h,rfl⟩
theorem jju {x:Wi} {k:Nat} {q q':List UInt8} (hk:k=0\/k=1) (hq:(x.e k).ring=some q) (hl:q'.length<=x.cap) (a:WiOk x):WiOk (x.setq k q'):=by
 rcases hk with rfl | rfl
 ·have hq:x.e0.ring=some q:=hq
  refine a.of rfl (fun j hj=>?_) (fun j hj=>?_) (fun j hj q2 hq2=>?_) fun h=>h
  ·rcases hj with rfl | rfl<;>rfl
  ·rcases hj with rfl | rfl
   ·show (some q'=none)↔x.e0.ring=none
    rw [hq];simp
   ·exact Iff.rfl
  ·rcases hj with rfl | rfl
   ·have:some q'=some q2:=hq2
    cases this;exact hl
   ·exact a.len 1 Zd q2 hq2
 ·have hq:x.e1.ring=some q:=hq
  refine a.of rfl (fun j hj=>?_) (fun j hj=>?_) (fun j hj q2 hq2=>?_) fun h=>h
  ·rcases hj with rfl | rfl<;>rfl
  ·rcases hj with rfl | rfl
   ·exact Iff.rfl
   ·show (some q'=none)↔x.e1.ring=none
    rw [hq];simp
  ·rcases hj with rfl | rfl
   ·exact a.len 0 Zd q2 hq2
   ·have:some q'=some q2:=hq2
    cases this;exact hl
theorem jn4 {x:Wi} {k:Nat} {q:List UInt8} (hk:k=0\/k=1):(x.setq k q).e0.what=x.e0.what:=by rcases hk with rfl | rfl<;>rfl
theorem jn3 {x:Wi} {k:Nat} {q:List UInt8} (hk:k=0\/k=1):(x.setq k q).waiting=x.waiting:=by rcases hk with rfl | rfl<;>rfl
theorem jcv {k:Nat} (hk:k=0\/k=1):1-k=0\/1-k=1:=by omega
theorem WsK.take {ws:Ws} {n k m:Nat} {x:Wi} {q:List UInt8} (K:WsK ws) (hx:ws[n]?=some x) (hk:k=0\/k=1) (hq:(x.e k).ring=some q):WsK (ws.set n (x.take k m q)):=by
 have hl:=(K.ok.ok x (zc hx)).len k hk q hq
 exact K.set hx ((jjv hk).trans (jgD (jcv hk))) (fun a=>jgC (jcv hk) (jju hk hq (by rw [List.length_drop];omega) a)) (by unfold Wi.take;rw [jjN (jcv hk),jn3 hk]) (by unfold Wi.take;rw [jjO (jcv hk),jn4 hk];exact id)
theorem WsK.fill {ws:Ws} {n k m:Nat} {x:Wi} {q b:List UInt8} (K:WsK ws) (hx:ws[n]?=some x) (hk:k=0\/k=1) (hq:(x.e (1-k)).ring=some q) (hm:m<=x.cap-q.length):WsK (ws.set n (x.fill k m q b)):=by
 have hl:=(K.ok.ok x (zc hx)).len (1-k) (jcv hk) q hq
 exact K.set hx ((jjv (jcv hk)).trans (jgD (jcv hk))) (fun a=>jgC (jcv hk) (jju (jcv hk) hq (by rw [zg,List.length_take];omega) a)) (by unfold Wi.fill;rw [jjN (jcv hk),jn3 (jcv hk)]) (by unfold Wi.fill;rw [jjO (jcv hk),jn4 (jcv hk)];exact id)
theorem WsK.doShut {ws:Ws} {n k:Nat} {x:Wi} (K:WsK ws) (hx:ws[n]?=some x) (hk:k=0\/k=1):WsK (ws.set n (x.doShut k)):=by
 have e:x.SubFd (x.doShut k)/\(WiOk x->WiOk (x.doShut k))/\(x.doShut k).waiting=x.waiting/\(x.e0.what=0->(x.doShut k).e0.what=0):=by
  unfold Wi.doShut
  split
  ·exact ⟨Wi.SubFd.refl x,id,rfl,id⟩
  ·have p:x.SubFd (x.put k { x.e k with shut:=true })/\(WiOk x->WiOk (x.put k { x.e k with shut:=true }))/\(x.put k { x.e k with shut:=true }).waiting=x.waiting/\(x.put k { x.e k with shut:=true }).e0.what=x.e0.what:=by
    rcases hk with rfl | rfl
    ·refine ⟨fun j hj=>by (rcases hj with rfl | rfl<;>exact fun h=>⟨h,rfl⟩),fun a=>⟨a.cap0,a.cap1,fun j hj=>?_,fun j hj=>?_,a.out,a.bl,a.wh⟩,rfl,rfl⟩
     ·have:=a.len j hj;rcases hj with rfl | rfl<;>exact this
     ·have:=a.pair j hj;rcases hj with rfl | rfl<;>exact this
    ·refine ⟨fun j hj=>by (rcases hj with rfl | rfl<;>exact fun h=>⟨h,rfl⟩),fun a=>⟨a.cap0,a.cap1,fun j hj=>?_,fun j hj=>?_,a.out,a.bl,a.wh⟩,rfl,rfl⟩
     ·have:=a.len j hj;rcases hj with rfl | rfl<;>exact this
     ·have:=a.pair j hj;rcases hj with rfl | rfl<;>exact this
   exact ⟨p.1.trans (jgD (jcv hk)),fun a=>jgC (jcv hk) (p.2.1 a),by rw [jjN (jcv hk),p.2.2.1],fun h=>by rw [jjO (jcv hk),p.2.2.2,h]⟩
 exact K.set hx e.1 e.2.1 e.2.2.1 e.2.2.2
theorem jig {x:Wi} {k:Nat} (hk:k=0\/k=1):x.SubFd (x.close k)/\(WiOk x->WiOk (x.close k))/\(x.close k).waiting=x.waiting/\(x.e0.what=0->k=1->(x.close k).e0.what=0):=by
 have c1:x.SubFd (x.came (1-k) (!(x.e k).shut) true):=jgD (jcv hk)
 have c2:WiOk x->WiOk (x.came (1-k) (!(x.e k).shut) true):=jgC (jcv hk)
 have c3:(x.came (1-k) (!(x.e k).shut) true).waiting=x.waiting:=jjN (jcv hk)
 have c4:(x.came (1-k) (!(x.e k).shut) true).e0.what=x.e0.what:=jjO (jcv hk)
 unfold Wi.close
 generalize x.came (1-k) (!(x.e k).shut) true=y at c1 c2 c3 c4 ⊢
 have p:y.SubFd (y.put k { y.e k with what:=3 })/\(WiOk y->WiOk (y.put k { y.e k with what:=3 }))/\(y.put k { y.e k with what:=3 }).waiting=y.waiting/\(k=1->(y.put k { y.e k with what:=3 }).e0.what=y.e0.what):=by
  rcases hk with rfl | rfl
  ·refine ⟨fun j hj=>?_,fun a=>⟨a.cap0,a.cap1,fun j hj=>?_,fun j hj=>?_,a.out,a.bl,⟨⟨by show (0:Int)<=3;omega,by show (3:Int)<=3;omega⟩,a.wh.2⟩⟩,rfl,fun e=>by cases e⟩
   ·rcases hj with rfl | rfl
    ·intro h
     have h:(3:Int)=1:=h
     omega
    ·exact fun h=>⟨h,rfl⟩
   ·have:=a.len j hj;rcases hj with rfl | rfl<;>exact this
   ·have:=a.pair j hj;rcases hj with rfl | rfl<;>exact this
  ·refine ⟨fun j hj=>?_,fun a=>⟨a.cap0,a.cap1,fun j hj=>?_,fun j hj=>?_,fun h=>?_,a.bl,⟨a.wh.1,by show (0:Int)<=3;omega,by show (3:Int)<=3;omega⟩⟩,rfl,fun _=>rfl⟩
   ·rcases hj with rfl | rfl
    ·exact fun h=>⟨h,rfl⟩
    ·intro h
     have h:(3:Int)=1:=h
     omega
   ·have:=a.len j hj;rcases hj with rfl | rfl<;>exact this
   ·have:=a.pair j hj;rcases hj with rfl | rfl<;>exact this
   ·have h:(3:Int)=2:=h
    omega
 exact ⟨c1.trans p.1,fun a=>p.2.1 (c2 a),by rw [p.2.2.1,c3],fun h hk=>by rw [p.2.2.2 hk,c4,h]⟩
theorem jl3 {vs:Ws} {m:Int} : (jd7 vs m).length=vs.length /\ ∀ (i:Nat) (z':Wi),(jd7 vs m)[i]?=some z' -> ∃ z,vs[i]?=some z/\z.SubFd z'/\(WiOk z->WiOk z')/\z'.waiting=z.waiting/\(m.toNat≠i->z'=z):=by
 unfold jd7
 split
 ·exact ⟨rfl,fun i z' h=>⟨z',h,Wi.SubFd.refl _,id,rfl,fun _=>rfl⟩⟩
 ·next x hx=>
  refine ⟨by simp,fun i z' h=>?_⟩
  rcases jeh h with ⟨rfl,rfl⟩ | ⟨hne,h⟩
  ·have c:=jig (x:=x) (k:=0) (.inl rfl)
   exact ⟨x,hx,c.1,c.2.1,c.2.2.1,fun h=>absurd rfl h⟩
  ·exact ⟨z',h,Wi.SubFd.refl _,id,rfl,fun _=>rfl⟩
theorem jgO : ∀ (L:List Int) (vs:Ws),(jaB vs L).length=vs.length /\ ∀ (i:Nat) (z':Wi),(jaB vs L)[i]?=some z' -> ∃ z,vs[i]?=some z/\z.SubFd z'/\(WiOk z->WiOk z')/\z'.waiting=z.waiting/\((∀ m∈L,m.toNat≠i)->z'=z)
 | [],vs=>⟨rfl,fun i z' h=>⟨z',h,Wi.SubFd.refl _,id,rfl,fun _=>rfl⟩⟩
 | m :: L,vs=>by
  obtain ⟨a1,a2⟩:=jgO L (jd7 vs m)
  obtain ⟨b1,b2⟩:=jl3 (vs:=vs) (m:=m)
  refine ⟨by rw [jaB,a1,b1],fun i z' h=>?_⟩
  obtain ⟨y,h1,s1,o1,w1,n1⟩:=a2 i z' h
  obtain ⟨z,h2,s2,o2,w2,n2⟩:=b2 i y h1
  refine ⟨z,h2,s2.trans s1,fun a=>o1 (o2 a),by rw [w1,w2],fun hn=>?_⟩
  rw [n1 fun m' hm'=>hn m' (zl _ hm'),n2 (hn m (zj ..))]
theorem WsK.close {ws:Ws} {n k:Nat} {x:Wi} (K:WsK ws) (hx:ws[n]?=some x) (hk:k=0\/k=1) (h1:(x.e k).what=1):WsK (noWait (jaB (ws.set n (x.close k)) x.waiting) n):=by
 obtain ⟨a1,a2⟩:=jgO x.waiting (ws.set n (x.close k))
 have c:=jig (x:=x) hk
 have hn:=w_lt hx
 obtain ⟨u,hu⟩:=jpe (ws:=jaB (ws.set n (x.close k)) x.waiting) (n:=n) (by rw [a1];simpa using hn)
 have e:noWait (jaB (ws.set n (x.close k)) x.waiting) n=(jaB (ws.set n (x.close k)) x.waiting).set n { u with waiting:=[] } := by
  unfold noWait;rw [hu]
 rw [e]
 refine K.mild (by rw [List.length_set,a1,List.length_set]) fun i z' hz=>?_
 have back : ∀ (i:Nat) (z:Wi),(ws.set n (x.close k))[i]?=some z -> ∃ y,ws[i]?=some y/\y.SubFd z/\(WiOk y->WiOk z)/\z.waiting=y.waiting/\(y.e0.what=0->z.e0.what=0):=by
  intro i z hz
  rcases jeh hz with ⟨rfl,rfl⟩ | ⟨_,hz⟩
  ·refine ⟨x,hx,c.1,c.2.1,c.2.2.1,fun h=>c.2.2.2 h ?_⟩
   rcases hk with rfl | rfl
   ·have h1:x.e0.what=1:=h1
    omega
   ·rfl
  ·exact ⟨z,hz,Wi.SubFd.refl _,id,rfl,id⟩
 rcases jeh hz with ⟨rfl,rfl⟩ | ⟨hne,hz⟩
 ·obtain ⟨z,z1,z2,z3,z4,z5⟩:=a2 _ _ hu
  obtain ⟨y,y1,y2,y3,y4,y5⟩:=back _ _ z1
  have yo:=z3 (y3 (K.ok.ok y (zc y1)))
  refine ⟨y,y1,fun j hj h=>(y2.trans z2) j hj (by rcases hj with rfl | rfl<;>exact h) |>.imp id fun e=>by (rcases hj with rfl | rfl<;>exact e),⟨yo.cap0,yo.cap1,yo.len,yo.pair,yo.out,yo.bl,yo.wh⟩,⟨y.waiting.length,by simp⟩,?_⟩
  rintro h0 ⟨j,v,hv,hm⟩
  show u.e0.what=0
  rw [z5 ?_]
  ·exact y5 h0
  rintro m hm2 rfl
  rcases jeh hv with ⟨rfl,rfl⟩ | ⟨hj,hv⟩
  ·simp at hm
  ·obtain ⟨z',z1',_,_,z4',_⟩:=a2 _ _ hv
   rcases jeh z1' with ⟨rfl,_⟩ | ⟨_,z1'⟩
   ·exact hj rfl
   rw [z4'] at hm
   have m0:0<=m:=by obtain ⟨y,y0,_⟩:=(K.ok.wait x (zc hx)).2 m hm2;exact y0
   rw [Int.toNat_of_nonneg m0] at hm
   obtain ⟨p,hp⟩:=List.mem_iff_getElem?.1 hm
   obtain ⟨q,hq⟩:=List.mem_iff_getElem?.1 hm2
   exact hj (K.one j _ z' x p q m z1' hx hp hq).1
 ·obtain ⟨z,z1,z2,z3,z4,z5⟩:=a2 _ _ hz
  obtain ⟨y,y1,y2,y3,y4,y5⟩:=back _ _ z1
  refine ⟨y,y1,y2.trans z2,z3 (y3 (K.ok.ok y (zc y1))),⟨0,by rw [z4,y4];rfl⟩,?_⟩
  rintro h0 ⟨j,v,hv,hm⟩
  rw [z5 ?_]
  ·exact y5 h0
  rintro m hm2 rfl
  rcases jeh hv with ⟨rfl,rfl⟩ | ⟨hj,hv⟩
  ·simp at hm
  ·obtain ⟨z',z1',_,_,z4',_⟩:=a2 _ _ hv
   rcases jeh z1' with ⟨rfl,_⟩ | ⟨_,z1'⟩
   ·exact hj rfl
   rw [z4'] at hm
   have m0:0<=m:=by obtain ⟨y,y0,_⟩:=(K.ok.wait x (zc hx)).2 m hm2;exact y0
   rw [Int.toNat_of_nonneg m0] at hm
   obtain ⟨p,hp⟩:=List.mem_iff_getElem?.1 hm
   obtain ⟨q,hq⟩:=List.mem_iff_getElem?.1 hm2
   exact hj (K.one j n z' x p q m z1' hx hp hq).1
end Am.Sigs
