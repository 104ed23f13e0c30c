/- Our own library, part 16. -/
import Derived.Test.YtloklombgjlofaaGreatQ15
set_option maxHeartbeats 8000000
set_option maxRecDepth 800
set_option linter.all false
namespace Am.Sigs
open Am Go
def newW (kind n f0 f1:Int):Wi :=
 if kind=0 then ⟨⟨1,f0,some [],false,false,0,0⟩,⟨1,f1,none,true,false,0,0⟩,n.toNat,false,0,[]⟩
 else if kind=1 then ⟨⟨1,f0,some [],true,false,0,0⟩,⟨1,f1,some [],true,false,0,0⟩,n.toNat,false,0,[]⟩
 else if kind=2 then ⟨⟨1,f0,some [],true,false,0,0⟩,⟨2,0,some [],true,false,0,0⟩,n.toNat,false,0,[]⟩
 else ⟨⟨1,f0,none,false,false,0,0⟩,⟨0,0,none,false,false,0,0⟩,n.toNat,false,n,[]⟩
theorem jei (kind n f0 f1:Int):Fresh (newW kind n f0 f1):=by
 unfold newW;split<;>(try split)<;>(try split)<;>exact ⟨rfl,rfl,rfl⟩
noncomputable def jag (ws:Ws) (kind n:Int):(List Int × Int) × Ws :=
 if n<1\/65536<n\/(kind=3/\64<n) then (([],2),ws)
 else match jat ws 96 with
  | []=>(([],112),ws)
  | f0 :: fs=>if (fs=[]/\kind<2)\/1000<=ws.length then (([],112),ws)
   else (((f0 :: fs).take (if kind<2 then 2 else 1),0),ws++[newW kind n f0 (fs.headD 0)])
theorem Old.new {h h1:H} {o:Obj} (a:Old h h1):Old h (h1.new o):=a.trans ⟨by simp,fun _ hj=>jad hj⟩
theorem Old.set {h h1:H} {o:Obj} {b:Nat} (a:Old h h1) (hb:h.nx<=b):Old h (h1.set b o):=⟨a.1,fun j hj=>by rw [jaa om,a.2 j hj]⟩
theorem Run.opqh {call:Call} {fuel:Nat} {c:AC} {K:List Fr} {e:Env} {h:H} {Q:Post} (k : ∀ G,G=h->Run call fuel c K e G Q):Run call fuel c K e h Q:=k h rfl
section
variable {cl:Nat->Call} (hcl:Sem cl)
include hcl
theorem jie {d rw q:Nat} {h:H} {l:List RX} {tl:List V} {kind n:Int} (hd:3<=d) (hk:kind=0\/kind=1\/kind=2\/kind=3) (w:RW h rw q l tl) (o:WsOk (l.map RX.x)) :
  ∃ v q' l' h',cl d (.fn F.jau) [.p rw 0,.i kind,.i n] h=some (.tup [v,.i (jag (l.map RX.x) kind n).1.2],h')/\VI h' v (jag (l.map RX.x) kind n).1.1/\RW h' rw q' l' tl/\l'.map RX.x=(jag (l.map RX.x) kind n).2/\Ch (RC rw q) h h'/\(q'=q\/h.nx<=q'):=by
 suffices s : ∃ v' h',cl d (.fn F.jau) [.p rw 0,.i kind,.i n] h=some (v',h') /\ ∃ v q' l',v' = .tup [v,.i (jag (l.map RX.x) kind n).1.2]/\VI h' v (jag (l.map RX.x) kind n).1.1/\RW h' rw q' l' tl/\l'.map RX.x=(jag (l.map RX.x) kind n).2/\Ch (RC rw q) h h'/\(q'=q\/h.nx<=q') by
  obtain ⟨_,h',e,v,q',l',rfl,p⟩:=s;exact ⟨v,q',l',h',e,p⟩
 refine at_ hcl om rfl rfl rfl ?_
 by_cases hb:n<1\/65536<n\/(kind=3/\64<n)
 ·have hS:jag (l.map RX.x) kind n=(([],2),l.map RX.x):=if_pos hb
  rw [hS]
  repeat' (first|refine qxy ?_|refine zbf rfl (fun _=>?_) fun _=>?_|refine zbg rfl (fun _=>?_) fun _=>?_|refine zbh rfl (fun _=>?_) fun _=>?_|refine zbm rfl (fun _=>?_) fun _=>?_|refine zbn rfl (fun _=>?_) fun _=>?_)
  all_goals first | exact ⟨_,q,l,rfl,VI.nil h,w,rfl,Ch.refl _ _,.inl rfl⟩ | (exfalso;omega)
 have hS:jag (l.map RX.x) kind n=_:=if_neg hb
 have hn1:1<=n:=by omega
 have hn2:n<=65536:=by omega
 have hn3 : ¬ (kind=3/\64<n):=fun e=>hb (.inr (.inr e))
 clear hb
 obtain ⟨vf,g,ef,pf,old,zf⟩:=jng hcl (d:=d-1) om w o
 have wg:=w.old old
 obtain ⟨af,cf,rfl,_⟩:=id pf
 obtain ⟨aw,cw,hwg,_⟩:=wg.head
 have hwl:(l.map RX.x).length=l.length:=by simp
 have hol:=o.len
 rw [hwl] at hol
 obtain ⟨C,hC⟩ : ∃ C,C=c45_2:=⟨_,rfl⟩
 have hCk : ∀ (E:Env) (x:Wi) (ends bx:Nat) (G:H) (vv:V) (fl:List Int),Fresh x->RW G rw q l tl->G.get bx=some (.cells (RX.fresh x).cells false)->VI G vv fl->ends<=fl.length->(∀ z,vv.at?=some z->z≠q/\z≠rw/\z<G.nx) ->
   Run (cl (d-1)) fuel C [] ((0,.p rw 0) :: (8,.i (ends:Int)) :: (9,vv) :: (10,.p bx 0) :: E) G
   (Fin c45.res fun v h'=>∃ v' q',v = .tup [v',.i 0]/\VI h' v' (fl.take ends)/\RW h' rw q' (l++[RX.fresh x]) tl/\Ch (RC rw q) G h'/\G.nx<=q'):=by
  intro E x ends bx G vv fl f w1 hbx hv he hz
  rw [hC];exact mk_end hcl w1 f hbx hol hv he hz
 simp only [c45,c45_12,c45_11,c45_10,c45_9,c45_8,c45_4,c45_3,yB,yC,yH,yN]
 rw [<- hC]
 clear hC
 cases hF:jat (l.map RX.x) 96 with
 | nil=>
  simp only [hF] at hS;rw [hS]
  rw [hF] at ef
  have ef:cl (d-1) (.fn F.jbg) [.p rw 0] h=some (.slice af 0 cf,g):=ef
  clear pf hCk w
  rcases hk with rfl | rfl | rfl | rfl
  all_goals
   repeat' (first|refine qxy ?_|refine zbf rfl (fun _=>?_) fun _=>?_|refine zbg rfl (fun _=>?_) fun _=>?_|refine zbh rfl (fun _=>?_) fun _=>?_|refine zbm rfl (fun _=>?_) fun _=>?_|refine zbn rfl (fun _=>?_) fun _=>?_)
   exact ⟨_,q,l,rfl,VI.nil _,wg,rfl,old.ch,.inl rfl⟩
 | cons f0 fs=>
  simp only [hF] at hS
  rw [hF] at ef pf
  obtain ⟨bf,off,csf,rof,rfl,hcsf,hcf0⟩:=pf.cell (i:=0) (x:=f0) rfl
  have hfl:(((f0 :: fs:List Int).length:Nat):Int)=(fs.length:Int)+1:=by simp
  by_cases hbad:(fs=[]/\kind<2)\/1000<=(l.map RX.x).length
  ·rw [if_pos hbad] at hS;rw [hS]
   rw [hwl] at hbad
   have hfs:fs=[]->fs.length=0:=fun e=>by rw [e];rfl
   clear hCk
   rcases hk with rfl | rfl | rfl | rfl
   all_goals
    rcases hbad with ⟨h1,h2⟩ | h1
    ·first
      | (exfalso;omega)
      | skip
     all_goals
      have h3:=hfs h1
      repeat' (first|refine qxy ?_|refine zbf rfl (fun _=>?_) fun _=>?_|refine zbg rfl (fun _=>?_) fun _=>?_|refine zbh rfl (fun _=>?_) fun _=>?_|refine zbm rfl (fun _=>?_) fun _=>?_|refine zbn rfl (fun _=>?_) fun _=>?_)
      all_goals first | exact ⟨_,q,l,rfl,VI.nil _,wg,rfl,old.ch,.inl rfl⟩ | (exfalso;omega)
    ·repeat' (first|refine qxy ?_|refine zbf rfl (fun _=>?_) fun _=>?_|refine zbg rfl (fun _=>?_) fun _=>?_|refine zbh rfl (fun _=>?_) fun _=>?_|refine zbm rfl (fun _=>?_) fun _=>?_|refine zbn rfl (fun _=>?_) fun _=>?_)
     all_goals first | exact ⟨_,q,l,rfl,VI.nil _,wg,rfl,old.ch,.inl rfl⟩ | (exfalso;omega)
  rw [if_neg hbad] at hS
  rw [hwl] at hbad
  have hlen:l.length<1000:=by omega
  have hbf:=zf bf rfl
  obtain ⟨nn,rfl⟩:=zx (show 0<=n by omega)
  have lq:=w.lq
  have lw:=w.lw
  rcases hk with rfl | rfl | rfl | rfl
  ·cases fs with
   | nil=>exact absurd (.inl ⟨rfl,by omega⟩) hbad
   | cons f1 fs=>
    obtain ⟨_,_,_,_,e1,e2,hcf1⟩:=pf.cell (i:=1) (x:=f1) rfl
    cases e1
    rw [hcsf] at e2;cases e2
    have hold : ∀ G:H,Old g G->RW G rw q l tl/\VI G (.slice (some (bf,off)) (f0 :: f1 :: fs).length cf) (f0 :: f1 :: fs):=fun G oG=>⟨wg.old oG,pf.keep oG.1 fun z hz=>oG.2 z (by have:=zf z hz;omega)⟩
    clear wg hF hbad w hfl
    refine qm1 ?_
    refine Run.unroll (n:=99999) rfl ?_
    refine qm1 ?_
    refine End.unroll ?_
    refine qm1 ?_
    refine End.unroll ?_
    refine qm1 ?_
    refine Run.unroll (n:=99999) rfl ?_
    refine qm1 ?_
    refine End.unroll ?_
    refine qm1 ?_
    refine End.unroll ?_
    refine qm1 ?_
    refine Run.opqh fun G hG=>?_
    have oG:Old g G:=by
     rw [hG]
     repeat (first | exact Old.refl _ | refine Old.new ?_ | refine Old.set ?_ (zp _))
    have hGn:g.nx<G.nx:=by rw [hG];simp
    have hbx:G.get g.nx=some (.cells (RX.fresh (newW 0 nn f0 f1)).cells false):=by
     rw [hG];exact jab _
    clear hG
    obtain ⟨w1,pv⟩:=hold G oG
    have hS0:jag (l.map RX.x) 0 nn=(((f0 :: f1 :: fs).take 2,0),l.map RX.x++[newW 0 nn f0 f1]):=hS
    rw [hS0]
    refine Run.fin_mono (hCk _ (newW 0 nn f0 f1) 2 g.nx G _ (f0 :: f1 :: fs) (jei _ _ _ _) w1 hbx pv Zd fun z hz=>?_) ?_
    ·have:=zf z hz
     have:=w1.lq
     have:=lq
     have:=lw
     have:=oG.1
     omega
    ·rintro v h2 ⟨v',q',rfl,p1,p2,p3,p4⟩
     exact ⟨v',q',_,rfl,p1,p2,by rw [List.map_append];rfl,(old.ch.trans oG.ch).trans p3,.inr (by have:=old.1;have:=oG.1;omega)⟩
  ·cases fs with
   | nil=>exact absurd (.inl ⟨rfl,by omega⟩) hbad
   | cons f1 fs=>
    obtain ⟨_,_,_,_,e1,e2,hcf1⟩:=pf.cell (i:=1) (x:=f1) rfl
    cases e1
    rw [hcsf] at e2;cases e2
    have hold : ∀ G:H,Old g G->RW G rw q l tl/\VI G (.slice (some (bf,off)) (f0 :: f1 :: fs).length cf) (f0 :: f1 :: fs):=fun G oG=>⟨wg.old oG,pf.keep oG.1 fun z hz=>oG.2 z (by have:=zf z hz;omega)⟩
    clear wg hF hbad w hfl
    refine qm1 ?_
    refine Run.unroll (n:=99999) rfl ?_
    refine qm1 ?_
    refine End.unroll ?_
    refine qm1 ?_
    refine End.unroll ?_
    refine qm1 ?_
    refine Run.unroll (n:=99999) rfl ?_
    refine qm1 ?_
    refine End.unroll ?_
    refine qm1 ?_
    refine End.unroll ?_
    refine qm1 ?_
    refine Run.opqh fun G hG=>?_
    have oG:Old g G:=by
     rw [hG]
     repeat (first | exact Old.refl _ | refine Old.new ?_ | refine Old.set ?_ (zp _))
    have hGn:g.nx<G.nx:=by rw [hG];simp
    have hbx:G.get g.nx=some (.cells (RX.fresh (newW 1 nn f0 f1)).cells false):=by
     rw [hG];exact jab _
    clear hG
    obtain ⟨w1,pv⟩:=hold G oG
    have hS0:jag (l.map RX.x) 1 nn=(((f0 :: f1 :: fs).take 2,0),l.map RX.x++[newW 1 nn f0 f1]):=hS
    rw [hS0]
    refine Run.fin_mono (hCk _ (newW 1 nn f0 f1) 2 g.nx G _ (f0 :: f1 :: fs) (jei _ _ _ _) w1 hbx pv Zd fun z hz=>?_) ?_
    ·have:=zf z hz
     have:=w1.lq
     have:=lq
     have:=lw
     have:=oG.1
     omega
    ·rintro v h2 ⟨v',q',rfl,p1,p2,p3,p4⟩
     exact ⟨v',q',_,rfl,p1,p2,by rw [List.map_append];rfl,(old.ch.trans oG.ch).trans p3,.inr (by have:=old.1;have:=oG.1;omega)⟩
  ··have hold : ∀ G:H,Old g G->RW G rw q l tl/\VI G (.slice (some (bf,off)) (f0 :: fs).length cf) (f0 :: fs):=fun G oG=>⟨wg.old oG,pf.keep oG.1 fun z hz=>oG.2 z (by have:=zf z hz;omega)⟩
    clear wg hF hbad w
    refine qm1 ?_
    refine Run.unroll (n:=99999) rfl ?_
    refine qm1 ?_
    refine End.unroll ?_
    refine qm1 ?_
    refine End.unroll ?_
    refine qm1 ?_
    refine Run.unroll (n:=99999) rfl ?_
    refine qm1 ?_
    refine End.unroll ?_
    refine qm1 ?_
    refine Run.opqh fun G hG=>?_
    have oG:Old g G:=by
     rw [hG]
     repeat (first | exact Old.refl _ | refine Old.new ?_ | refine Old.set ?_ (zp _))
    have hGn:g.nx<G.nx:=by rw [hG];simp
    have hbx:G.get g.nx=some (.cells (RX.fresh (newW 2 nn f0 (fs.headD 0))).cells false):=by
     rw [hG];exact jab _
    clear hG
    obtain ⟨w1,pv⟩:=hold G oG
    have hS0:jag (l.map RX.x) 2 nn=(((f0 :: fs).take 1,0),l.map RX.x++[newW 2 nn f0 (fs.headD 0)]):=hS
    rw [hS0]
    refine Run.fin_mono (hCk _ (newW 2 nn f0 (fs.headD 0)) 1 g.nx G _ (f0 :: fs) (jei _ _ _ _) w1 hbx pv Zd fun z hz=>?_) ?_
    ·have:=zf z hz
     have:=w1.lq
     have:=lq
     have:=lw
     have:=oG.1
     omega
    ·rintro v h2 ⟨v',q',rfl,p1,p2,p3,p4⟩
     exact ⟨v',q',_,rfl,p1,p2,by rw [List.map_append];rfl,(old.ch.trans oG.ch).trans p3,.inr (by have:=old.1;have:=oG.1;omega)⟩
  ··have hold : ∀ G:H,Old g G->RW G rw q l tl/\VI G (.slice (some (bf,off)) (f0 :: fs).length cf) (f0 :: fs):=fun G oG=>⟨wg.old oG,pf.keep oG.1 fun z hz=>oG.2 z (by have:=zf z hz;omega)⟩
    clear wg hF hbad w
    refine qm1 ?_
    refine Run.unroll (n:=99999) rfl ?_
    refine qm1 ?_
    refine End.unroll ?_
    refine qm1 ?_
    refine End.unroll ?_
    refine qm1 ?_
    refine Run.unroll (n:=99999) rfl ?_
    refine qm1 ?_
    refine End.unroll ?_
    refine qm1 ?_
    refine Run.opqh fun G hG=>?_
    have oG:Old g G:=by
     rw [hG]
     repeat (first | exact Old.refl _ | refine Old.new ?_ | refine Old.set ?_ (zp _))
    have hGn:g.nx<G.nx:=by rw [hG];simp
    have hbx:G.get g.nx=some (.cells (RX.fresh (newW 3 nn f0 (fs.headD 0))).cells false):=by
     rw [hG];exact jab _
    clear hG
    obtain ⟨w1,pv⟩:=hold G oG
    have hS0:jag (l.map RX.x) 3 nn=(((f0 :: fs).take 1,0),l.map RX.x++[newW 3 nn f0 (fs.headD 0)]):=hS
    rw [hS0]
    refine Run.fin_mono (hCk _ (newW 3 nn f0 (fs.headD 0)) 1 g.nx G _ (f0 :: fs) (jei _ _ _ _) w1 hbx pv Zd fun z hz=>?_) ?_
    ·have:=zf z hz
     have:=w1.lq
     have:=lq
     have:=lw
     have:=oG.1
     omega
    ·rintro v h2 ⟨v',q',rfl,p1,p2,p3,p4⟩
     exact ⟨v',q',_,rfl,p1,p2,by rw [List.map_append];rfl,(old.ch.trans oG.ch).trans p3,.inr (by have:=old.1;have:=oG.1;omega)⟩
end
theorem jhN {l:List Int} {cs:List V} {o:Nat} (hc : ∀ (i:Nat) (x:Int),l[i]?=some x->cs[o+i]?=some (.i x)) (h0:0<l.length):o+l.length<=cs.length/\(cs.drop o).take l.length=ints l:=by
 have h1:o+l.length<=cs.length:=by
  have:=hc (l.length-1) _ (za om)
  rcases zw (o+(l.length-1)) cs.length with h | h
  ·omega
  ·rw [zc h] at this;cases this
 refine ⟨h1,List.ext_getElem? fun i=>?_⟩
 rw [List.getElem?_take,List.getElem?_map]
 by_cases hi:i<l.length
 ·rw [if_pos hi,zl,hc i _ (za hi),za hi];rfl
 ·rw [if_neg hi,zc om];rfl
theorem ints_one (l:List Int):(ints l).all V.one=true:=by
 rw [List.all_eq_true]
 intro v hv
 obtain ⟨n,_,rfl⟩:=List.mem_map.1 hv
 rfl
section
variable {call:Call} {fuel base:Nat} {ops:List Ins} {keep:List Nat} {K:List Fr} {e:Env} {h:H} {Q:Post} {ix:Nat} {dst:Option Nat} {c:List (Nat × I × Option (Nat × Bool))}
theorem Ops.appI {N:Nat} {x y:Opd} {sv v:V} {q l:List Int} (hx:x.ev e=some sv) (hy:y.ev e=some v) (r:Row N h 1 sv q.length (ints q)) (hN:N<=h.nx) (hv:VI h v l) (hn:q.length+l.length<=1000000)
  (hc : ∀ h':H,h.nx<=h'.nx->(∀ j,j<h.nx->sv.at?≠some j->h'.get j=h.get j)->jaG e h' c=true)
  (k : ∀ v' h',Row N h' 1 v' (q++l).length (ints (q++l))->h.nx<=h'.nx->(∀ j,j<h.nx->sv.at?≠some j->h'.get j=h.get j)->Ops call fuel base ops keep K (layv e dst v') h' Q) :
  Ops call fuel base (⟨ix,dst,.append 1 8 x y,none,none,c⟩ :: ops) keep K e h Q:=by
 obtain ⟨a,cp,rfl,n,f,g⟩:=hv
 by_cases hl:l=[]
 ·subst hl
  have hsrc:ja3 h 1 0 (.slice a 0 cp)=some []:=by cases a<;>rfl
  refine Ops.step_chk (v:=sv) (h':=h) (I.run_eff rfl ?_) (hc h (zp _) fun _ _ _=>rfl) (k sv h (by simpa using r) (zp _) fun _ _ _=>rfl)
  obtain ⟨cap,⟨sa,rfl⟩,_⟩:=r.shape
  simp only [I.eff,hx,hy,jbc,lenOf,List.length_nil,hsrc]
  have hcond:(Nat.ble ((q.length+0)*8) (2 ^ 46)&&Nat.ble (q.length+0) (2 ^ 46))=true:=by simp only [zn,Nat.ble_eq];omega
  rw [hcond];rfl
 ·obtain ⟨b,o,cs,ro,rfl,h1,h2,h3⟩:=g hl
  have hpos:0<l.length:=List.length_pos_iff.2 hl
  obtain ⟨p1,p2⟩:=jhN h3 hpos
  obtain ⟨v',h',e1,e2,e3,e4,e5⟩:=jeB (bytes:=8) (cap:=cp) (m:=l.length) (so:=o) (new:=ints l) r hN hpos h2 om (by rw [Nat.mul_one];exact p2) (ints_one l) om om om
  refine Ops.step_chk (I.run_eff rfl (by simp only [I.eff,hx,hy,e1])) (hc h' om e5) (k v' h' ?_ om e5)
  rw [ze];simpa [ints] using e2
theorem Ops.app1c {N q':Nat} {s y:Opd} {sv:V} {cs:List Int} {x:Int} {cap:Cap} (hs:s.ev e=some sv) (hy:y.ev e=some (.slice (some (q',0)) 1 cap)) (r:Row N h 1 sv cs.length (ints cs)) (hN:N<=h.nx) (hq:h.get q'=some (.cells [.i x] false))
  (hn:cs.length+1<=1000000) (hne:sv.at?≠some q') (hc : ∀ h':H,(∀ j,j<h.nx->sv.at?≠some j->h'.get j=h.get j)->jaG e h' c=true)
  (k : ∀ v' h',Row N h' 1 v' (cs++[x]).length (ints (cs++[x]))->h.nx<=h'.nx->(∀ j,j<h.nx->sv.at?≠some j->h'.get j=h.get j)->Ops call fuel base ops keep K (layv e dst v') h' Q) :
  Ops call fuel base (⟨ix,dst,.append 1 8 s y,none,none,c⟩ :: ops) keep K e h Q:=by
 obtain ⟨v',h',e1,e2,e3,e4,e5⟩:=jen (bytes:=8) (cap:=cap) r hN hq rfl rfl om om om hne
 refine Ops.step_chk (I.run_eff rfl (by simp only [I.eff,hs,hy,e1])) (hc h' e5) (k v' h' ?_ e3 e5)
 rw [ze];simpa [ints] using e2
end
theorem RX.in_cells {r:RX} {k:Nat} {w:Int} (hk:k=0\/k=1):(({ r with x:=r.x.put k { r.x.e k with inn:=w } } : RX)).cells=r.cells.set (k*8+6) (.int .u64 w):=by
 obtain ⟨⟨e0,e1,cap,rs,bl,wt⟩,v0,v1,vw⟩:=r
 rcases hk with rfl | rfl<;>simp [Wi.put,Wi.e,RX.cells,En.rcells]
section
variable {cl:Nat->Call} (hcl:Sem cl)
include hcl
theorem cn_end {E:Env} {d rw q bx:Nat} {g:H} {l:List RX} {tl:List V} {x:Wi} (w:RW g rw q l tl) (f:Fresh x) (hbx:g.get bx=some (.cells (RX.fresh x).cells false)) (hl:l.length<=1000) :
  Run (cl (d-1)) fuel c96_1 [] ((0,.p rw 0) :: (8,.p bx 0) :: E) g
   (Fin c96.res fun v h'=>∃ q',v = .tup [.i (l.length:Int),.i 0]/\RW h' rw q' (l++[RX.fresh x]) tl/\Ch (RC rw q) g h'/\g.nx<=q'):=by
 obtain ⟨v,hw,row,hvq,hone⟩:=w.row
 have hw1:(g.reserve 1).get rw=_:=hw
 have hbx1:(g.reserve 1).get bx=_:=hbx
 refine Run.seq (Run.region ?_)
 refine qx1 ?_
 refine Ops.loadN rfl hbx1 (by rw [RX.len];omega) ?_
 rw [zj,zg (by rw [RX.len];omega)]
 refine Ops.bslice1_at (new:=(RX.fresh x).cells) rfl rfl (RX.len _) rfl ?_
 have hG:((g.reserve 1).set (g.nx+0) (.cells (RX.fresh x).cells false)).nx=g.nx+1:=rfl
 have hGs:((g.reserve 1).set (g.nx+0) (.cells (RX.fresh x).cells false)).get (g.nx+0)=some (.cells (RX.fresh x).cells false):=jab _
 have hGo : ∀ j,j<g.nx->((g.reserve 1).set (g.nx+0) (.cells (RX.fresh x).cells false)).get j=g.get j:=fun j hj=>by rw [jaa om];rfl
 generalize (g.reserve 1).set (g.nx+0) (.cells (RX.fresh x).cells false)=G at hG hGs hGo ⊢
 have lq:=w.lq
 have lw:=w.lw
 have rowG:Row 0 G 20 v l.length (rows l):=row.keep om fun z hz=>hGo z (by have:=hvq z hz;omega)
 refine Ops.app1 (N:=0) rfl rfl rowG (Nat.zero_le _) hGs (RX.len _) (RX.cells_one (r:=RX.fresh x) rfl rfl rfl) om om om (fun e=>by have:=hvq _ e;omega) fun h1 row1 hlt hk=>?_
 have hk' : ∀ j,j<g.nx->j≠q->h1.get j=g.get j:=fun j hj hn=>by rw [hk j om (fun e=>hn (hvq j e)),hGo j hj]
 have hrow:h1.get G.nx=some (.cells (rows l++(RX.fresh x).cells) false):=by
  rcases row1 with ⟨h0,_⟩ | ⟨b,_,_,e,h4,_⟩
  ·omega
  ·cases e;exact h4
 obtain ⟨w2,c2⟩:=w.push f hrow om hlt hk'
 have hw2:h1.get rw=some (.cells (v :: tl) false):=by rw [hk' rw lw w.ne,hw]
 refine qx1 ?_
 refine Ops.store1 rfl rfl rfl hw2 Zd ?_
 refine qx1 ?_
 have el:((l.length+1:Nat):Int)-1=(l.length:Int):=by omega
 refine ⟨_,?_,w2,c2,by omega⟩
 rw [el]
theorem cn_mid {E:Env} {d rw q bx n:Nat} {g:H} {l:List RX} {tl:List V} {x:Wi} {r:RX} (w:RW g rw q l tl) (f:Fresh x) (hbx:g.get bx=some (.cells (RX.fresh x).cells false)) (hbn:bx≠q/\bx≠rw/\bx<g.nx) (hl:l.length<=1000) (hr:l[n]?=some r) (hwt:r.x.waiting.length<=64) :
  Run (cl (d-1)) fuel c96_4 [] ((0,.p rw 0) :: (1,.i (n:Int)) :: (8,.p bx 0) :: (10,.nils) :: E) g
   (Fin c96.res fun v h'=>∃ q' v',v = .tup [.i (l.length:Int),.i 0] /\
    RW h' rw q' (l.set n { (r.setw v' (r.x.waiting++[(l.length:Int)])) with x:=(r.setw v' (r.x.waiting++[(l.length:Int)])).x.put 0 { (r.setw v' (r.x.waiting++[(l.length:Int)])).x.e 0 with inn:=upu (r.x.e 0).inn } } ++ [RX.fresh x]) tl/\Ch (RC rw q) g h'/\g.nx<=q'):=by
 obtain ⟨C,hC⟩ : ∃ C,C=c96_1:=⟨_,rfl⟩
 simp only [c96_4,c96_3,c96_2,yB]
 rw [<- hC]
 obtain ⟨hw,hq,hne⟩:=w.rat hr
 have hn:=r_lt hr
 have q1:=jli hr
 have q2:=r_in (k:=0) hr (.inl rfl)
 have hvi:=(w.rok hr).w.1
 have lw:=w.lw
 have lq:=w.lq
 refine qx1 ?_
 refine Ops.appI (N:=g.nx) (q:=[]) rfl rfl (Row.nil _ _ _) (zp _) hvi Zc (fun _ _ _=>rfl) fun v1 h1 row1 hx1 hold1=>?_
 have hold1' : ∀ j,j<g.nx->h1.get j=g.get j:=fun j hj=>hold1 j hj (by intro e;cases e)
 have hw1:h1.get rw=some (.cells (.slice (some (q,0)) l.length (.grow 20) :: tl) false):=by rw [hold1' rw lw,hw]
 have hq1:h1.get q=some (.cells (rows l) false):=by rw [hold1' q lq,hq]
 have hne1 : ∀ j,j<g.nx->v1.at?≠some j:=fun j hj e=>by have:=row1.at_ge e;omega
 refine qx1 ?_
 refine Run.region ?_
 have hw1:(h1.reserve 1).get rw=_:=hw1
 have hq1:(h1.reserve 1).get q=_:=hq1
 refine qx1 ?_
 refine Ops.bslice1_at (new:=[.i (l.length:Int)]) rfl rfl rfl rfl ?_
 have hG:((h1.reserve 1).set (h1.nx+0) (.cells [.i (l.length:Int)] false)).nx=h1.nx+1:=rfl
 have hGs:((h1.reserve 1).set (h1.nx+0) (.cells [.i (l.length:Int)] false)).get (h1.nx+0)=some (.cells [.i (l.length:Int)] false):=jab _
 have hGo : ∀ j,j<h1.nx->((h1.reserve 1).set (h1.nx+0) (.cells [.i (l.length:Int)] false)).get j=h1.get j:=fun j hj=>by rw [jaa om];rfl
 generalize (h1.reserve 1).set (h1.nx+0) (.cells [.i (l.length:Int)] false)=G at hG hGs hGo ⊢
 have rowG:=row1.keep (h':=G) om fun z hz=>hGo z (row1.at_ge hz).2
 have hwG:G.get rw=some (.cells (.slice (some (q,0)) l.length (.grow 20) :: tl) false):=by rw [hGo rw om,hold1' rw lw,hw]
 refine Ops.app1c (N:=g.nx) (cs:=[]++r.x.waiting) rfl rfl rowG om hGs Zc (fun e=>by have:=row1.at_ge e;omega) (fun h' ho=>jbw rfl (by rw [ho rw om (hne1 rw lw),hwG]) rfl rfl jcm) fun v2 h2 row2 hx2 hold2=>?_
 have old2:Old g h2:=⟨by omega,fun j hj=>by rw [hold2 j om (hne1 j hj),hGo j om,hold1' j hj]⟩
 have w2:=w.old old2
 obtain ⟨p1,p2⟩:=VI.ofRow row2
 rw [List.nil_append] at p1
 have hbx2:h2.get bx=some (.cells (RX.fresh x).cells false):=by rw [old2.2 bx hbn.2.2,hbx]
 have ok':=(w2.rok hr).setw p1 fun z hz=>by have:=p2 z hz;omega
 have u:Upd q (.cells (rows (l.set n (r.setw v2 (r.x.waiting++[(l.length:Int)])))) false) h2 (h2.set q (.cells (rows (l.set n (r.setw v2 (r.x.waiting++[(l.length:Int)])))) false)):=Upd.set
 have w3:=w2.set hr u ok'
 obtain ⟨hw2,hq2,_⟩:=w2.rat hr
 have hlen:0+(n:Int).toNat*20+19<(rows l).length:=by rw [ja0];omega
 refine qx1 ?_
 refine Ops.store1 rfl rfl p1.one hq2 hlen ?_
 rw [jed hr om (RX.setw_cells r v2 (r.x.waiting++[(l.length:Int)])) om]
 have hr3:=get_set (r':=r.setw v2 (r.x.waiting++[(l.length:Int)])) hr
 have c3:Ch (RC rw q) g (h2.set q (.cells (rows (l.set n (r.setw v2 (r.x.waiting++[(l.length:Int)])))) false)):=old2.ch.trans (u.ch (.inl rfl))
 have hbx3:(h2.set q (.cells (rows (l.set n (r.setw v2 (r.x.waiting++[(l.length:Int)])))) false)).get bx=some (.cells (RX.fresh x).cells false):=by rw [jaa hbn.1,hbx2]
 have hset : ∀ s,l.set n s=(l.set n (r.setw v2 (r.x.waiting++[(l.length:Int)]))).set n s:=fun s=>set_set.symm
 have hl3:(l.set n (r.setw v2 (r.x.waiting++[(l.length:Int)]))).length=l.length:=by simp
 have hinn:((r.setw v2 (r.x.waiting++[(l.length:Int)])).x.e 0).inn=(r.x.e 0).inn:=rfl
 suffices s:True by
  generalize h2.set q (.cells (rows (l.set n (r.setw v2 (r.x.waiting++[(l.length:Int)])))) false)=g3 at w3 c3 hbx3 ⊢
  obtain ⟨hw3,hq3,_⟩:=w3.rat hr3
  have hn3:=r_lt hr3
  have q3:=r_in (k:=0) hr3 (.inl rfl)
  have hlen3:0+(n:Int).toNat*20+0+Int.toNat 0*8+6<(rows (l.set n (r.setw v2 (r.x.waiting++[(l.length:Int)])))).length:=by rw [ja0];omega
  have e3:=jht (f:=6) (o:=0+(n:Int).toNat*20+0+Int.toNat 0*8+6) hr3 (.inl rfl) om (RX.in_cells (k:=0) (w:=upu (r.x.e 0).inn) (.inl rfl)) Zd
  have u4:Upd q (.cells (rows ((l.set n (r.setw v2 (r.x.waiting++[(l.length:Int)]))).set n { (r.setw v2 (r.x.waiting++[(l.length:Int)])) with x:=(r.setw v2 (r.x.waiting++[(l.length:Int)])).x.put 0 { (r.setw v2 (r.x.waiting++[(l.length:Int)])).x.e 0 with inn:=upu (r.x.e 0).inn } })) false) g3 _:=Upd.set
  have w4:=w3.set hr3 u4 ((w3.rok hr3).put (e := { (r.setw v2 (r.x.waiting++[(l.length:Int)])).x.e 0 with inn:=upu (r.x.e 0).inn }) (.inl rfl) rfl)
  have hbx4:=(u4.get bx hbn.1).trans hbx3
  clear hset
  refine qx1 ?_
  refine Ops.store1 rfl rfl rfl hq3 hlen3 ?_
  have e3:(rows (l.set n (r.setw v2 (r.x.waiting++[(l.length:Int)])))).set (0+(n:Int).toNat*20+0+Int.toNat 0*8+6) (.int .u64 (IntKind.wrap .u64 (((r.setw v2 (r.x.waiting++[(l.length:Int)])).x.e 0).inn+1)))=_:=e3
  rw [e3]
  refine qx1 ?_
  rw [hC]
  refine Run.fin_mono (cn_end hcl (d:=d) (E:=[]) w4 f hbx4 Zc) ?_
  rintro v h' ⟨q',rfl,p4,p5,p6⟩
  rw [set_set] at p4
  exact ⟨q',v2,by simp,p4,(c3.trans (u4.ch (.inl rfl))).trans p5,zy (zy c3.nx (Nat.le_of_eq u4.nx.symm)) p6⟩
 exact trivial
end
def jbe (many:Int):Wi:=⟨⟨0,0,some [],true,false,0,0⟩,⟨2,0,some [],true,false,0,0⟩,many.toNat,false,0,[]⟩
def jas (ws:Ws) (n many:Int):(Int × Int) × Ws :=
 if n<0 then ((0,116),ws) else match ws[n.toNat]? with
 | none=>((0,116),ws)
 | some x=>if x.backlog=0\/x.e0.what≠1 then ((0,116),ws) else if many<1\/65536<many then ((0,2),ws)
  else if x.backlog<=x.waiting.length then ((0,113),ws) else if 1000<=ws.length then ((0,112),ws)
  else ((ws.length,0),ws.set n.toNat { x with waiting:=x.waiting++[(ws.length:Int)],e0 := { x.e0 with inn:=upu x.e0.inn } } ++ [jbe many])
section
variable {cl:Nat->Call} (hcl:Sem cl)
include hcl
theorem jlV {d rw q:Nat} {h:H} {l:List RX} {tl:List V} {n many:Int} (hd:3<=d) (w:RW h rw q l tl) (o:WsOk (l.map RX.x)) :
  ∃ q' l' h',cl d (.fn F.jaQ) [.p rw 0,.i n,.i many] h=some (.tup [.i (jas (l.map RX.x) n many).1.1,.i (jas (l.map RX.x) n many).1.2],h')/\RW h' rw q' l' tl/\l'.map RX.x=(jas (l.map RX.x) n many).2/\Ch (RC rw q) h h'/\(q'=q\/h.nx<=q'):=by
 suffices s : ∃ v' h',cl d (.fn F.jaQ) [.p rw 0,.i n,.i many] h=some (v',h') /\ ∃ q' l',v' = .tup [.i (jas (l.map RX.x) n many).1.1,.i (jas (l.map RX.x) n many).1.2]/\RW h' rw q' l' tl/\l'.map RX.x=(jas (l.map RX.x) n many).2/\Ch (RC rw q) h h'/\(q'=q\/h.nx<=q') by
  obtain ⟨_,h',e,q',l',rfl,p⟩:=s;exact ⟨q',l',h',e,p⟩
 refine at_ hcl om rfl rfl rfl ?_
 have hwl:(l.map RX.x).length=l.length:=by simp
 have hol:=o.len
 rw [hwl] at hol
 obtain ⟨aw,cw,hwh,hac⟩:=w.head
 by_cases h0:n<0
 ·have hS:jas (l.map RX.x) n many=((0,116),l.map RX.x):=if_pos h0
  rw [hS]
  refine qx1 ?_
  exact ⟨q,l,rfl,w,rfl,Ch.refl _ _,.inl rfl⟩
 have hS:jas (l.map RX.x) n many=_:=if_neg h0
 obtain ⟨m,rfl⟩:=zx (show 0<=n by omega)
 rw [zu] at hS
 by_cases hlt:m<l.length
 case neg=>
  rw [zc (by simpa using hlt)] at hS
  simp only at hS
  rw [hS]
  refine qx1 ?_
  exact ⟨q,l,rfl,w,rfl,Ch.refl _ _,.inl rfl⟩
 obtain ⟨r,hr⟩ : ∃ r,l[m]?=some r:=⟨_,za hlt⟩
 obtain ⟨rfl,rfl⟩:=hac (by rintro rfl;simp at hlt)
 rw [jaZ hr] at hS
 simp only at hS
 have hq:=(w.rat hr).hq
 have q1:=jjm hr
 have q2:=jhA (k:=0) hr (.inl rfl)
 have q3:=jli hr
 have q2:(rows l)[0+(m:Int).toNat*20+0+((0:Nat):Int).toNat*8+0]?=some (.i r.x.e0.what):=q2
 by_cases hb0:r.x.backlog=0
 ·rw [if_pos (.inl hb0)] at hS;rw [hS]
  refine qx1 ?_
  exact ⟨q,l,rfl,w,rfl,Ch.refl _ _,.inl rfl⟩
 by_cases hw1:r.x.e0.what=1
 case neg=>
  rw [if_pos (.inr hw1)] at hS;rw [hS]
  refine qx1 ?_
  exact ⟨q,l,rfl,w,rfl,Ch.refl _ _,.inl rfl⟩
 rw [if_neg (by rintro (e | e);(exact hb0 e);exact e hw1)] at hS
 have hnw : ¬ r.x.e0.what≠1:=fun e=>e hw1
 by_cases hm:many<1\/65536<many
 ·rw [if_pos hm] at hS;rw [hS]
  repeat' (first|refine qxy ?_|refine zbf rfl (fun _=>?_) fun _=>?_|refine zbg rfl (fun _=>?_) fun _=>?_|refine zbh rfl (fun _=>?_) fun _=>?_|refine zbm rfl (fun _=>?_) fun _=>?_|refine zbn rfl (fun _=>?_) fun _=>?_)
  all_goals first | exact ⟨q,l,rfl,w,rfl,Ch.refl _ _,.inl rfl⟩ | (exfalso;omega)
 rw [if_neg hm] at hS
 have hm1:1<=many:=by omega
 have hm2:many<=65536:=by omega
 clear hm
 obtain ⟨av,cv,hva,_⟩:=(w.rok hr).w.1
 rw [hva] at q3
 have hwt:=(o.wait _ (zb (jaZ hr))).1
 by_cases hbk:r.x.backlog<=r.x.waiting.length
 ·rw [if_pos hbk] at hS;rw [hS]
  refine qx1 ?_
  exact ⟨q,l,rfl,w,rfl,Ch.refl _ _,.inl rfl⟩
 rw [if_neg hbk] at hS
 rw [hwl] at hS
 by_cases hfull:1000<=l.length
 ·rw [if_pos hfull] at hS;rw [hS]
  refine qx1 ?_
  exact ⟨q,l,rfl,w,rfl,Ch.refl _ _,.inl rfl⟩
 rw [if_neg hfull] at hS
 rw [hS]
 obtain ⟨nn,rfl⟩:=zx (show 0<=many by omega)
 obtain ⟨C,hC⟩ : ∃ C,C=c96_4:=⟨_,rfl⟩
 have hCk : ∀ (E:Env) (x:Wi) (bx:Nat) (G:H),Fresh x->RW G rw q l tl->G.get bx=some (.cells (RX.fresh x).cells false)->bx≠q/\bx≠rw/\bx<G.nx->_ :=
  fun E x bx G f w1 hbx hz=>cn_mid hcl (E:=E) (d:=d) w1 f hbx hz hol hr hwt
 rw [<- hC] at hCk
 simp only [c96,c96_12,c96_11,c96_10,c96_9,c96_8,c96_7,yB,yH,yN]
 rw [<- hC]
 clear hC hS
 refine qm1 ?_
 refine Run.unroll (n:=99999) rfl ?_
 refine qm1 ?_
 refine End.unroll ?_
 refine qm1 ?_
 refine End.unroll ?_
 refine qm1 ?_
 refine Run.opqh fun G hG=>?_
 have oG:Old h G:=by
  rw [hG]
  repeat (first | exact Old.refl _ | refine Old.new ?_ | refine Old.set ?_ (zp _))
 have hGn:h.nx<G.nx:=by rw [hG];simp
 have hbx:G.get h.nx=some (.cells (RX.fresh (jbe nn)).cells false):=by
  rw [hG];exact jab _
 clear hG
 have lq:=w.lq
 have lw:=w.lw
 refine Run.fin_mono (hCk [] (jbe nn) h.nx G ⟨rfl,rfl,rfl⟩ (w.old oG) hbx ⟨by omega,by omega,hGn⟩) ?_
 rintro v h2 ⟨q',v',rfl,p1,p2,p3⟩
 refine ⟨q',_,rfl,p1,?_,oG.ch.trans p2,.inr (by have:=oG.1;omega)⟩
 rw [List.map_append,map_set];rfl
end
def tail (now:Int) (hd:Nat->Bool) (ct:Nat->Int) (no si:Int):List V :=
 .int .u64 now :: (tab 32 (fun i=>.bool (hd i))++(tab 32 (fun i=>.i (ct i))++[.i no,.i si]))
section
variable {v:V} {now no si:Int} {hd:Nat->Bool} {ct:Nat->Int}
theorem t_hd {i o:Nat} (hi:i<32) (ho:o=2+i):(v :: tail now hd ct no si)[o]?=some (.bool (hd i)):=by
 subst ho
 rw [show 2+i=i+1+1 by omega]
 show (tab 32 (fun i=>V.bool (hd i))++_)[i]?=_
 rw [zd,if_pos (by simpa using hi),jbC hi]
theorem t_ct {i o:Nat} (hi:i<32) (ho:o=34+i):(v :: tail now hd ct no si)[o]?=some (.i (ct i)):=by
 subst ho
 rw [show 34+i=(32+i)+1+1 by omega]
 show (tab 32 (fun i=>V.bool (hd i))++(tab 32 (fun i=>V.i (ct i))++_))[32+i]?=_
 rw [zd,if_neg Zd,tab_length,Nat.add_sub_cancel_left,zd,if_pos (by simpa using hi),jbC hi]
theorem t_no {o:Nat} (ho:o=66):(v :: tail now hd ct no si)[o]?=some (.i no):=by
 subst ho
 show (tab 32 (fun i=>V.bool (hd i))++(tab 32 (fun i=>V.i (ct i))++[.i no,.i si]))[64]?=_
 rw [zd,if_neg Zd,tab_length,zd,if_neg Zd,tab_length];rfl
theorem t_si {o:Nat} (ho:o=67):(v :: tail now hd ct no si)[o]?=some (.i si):=by
 subst ho
 show (tab 32 (fun i=>V.bool (hd i))++(tab 32 (fun i=>V.i (ct i))++[.i no,.i si]))[65]?=_
 rw [zd,if_neg Zd,tab_length,zd,if_neg Zd,tab_length];rfl
theorem jcD:(tail now hd ct no si).length=67:=by simp [tail]
end
theorem RW.tl {h:H} {rw q:Nat} {l:List RX} {tl tl':List V} {v:V} (w:RW h rw q l tl) (hv:h.get rw=some (.cells (v :: tl) false)):RW (h.set rw (.cells (v :: tl') false)) rw q l tl':=by
 have ch:Ch (RC rw q) h (h.set rw (.cells (v :: tl') false)):=Ch.set (.inr rfl)
 refine ⟨w.lw,w.lq,w.ne,fun hl=>?_,fun hl=>?_,fun s hs=>(w.ok s hs).keep ch⟩
 ·have a:=w.at_ hl
  rw [a.hw] at hv
  cases hv
  exact ⟨by rw [jab],by rw [jaa w.ne.symm,a.hq],w.ne⟩
 ·have a:=w.nil hl
  rw [a] at hv
  cases hv
  rw [jab]
def jgc (now t:Int):Int:=if 18446744073709551615-now<t then 18446744073709551615 else now+t
section
variable {cl:Nat->Call} (hcl:Sem cl)
include hcl
theorem rq_Pass {d rw q:Nat} {h:H} {l:List RX} {now no si t:Int} {hdl:Nat->Bool} {ct:Nat->Int} (hd:1<=d) (w:RW h rw q l (tail now hdl ct no si)) (n0:0<=now) (n1:now<=18446744073709551615) (t0:0<=t) (t1:t<=18446744073709551615) :
  ∃ h',cl d (.fn F.jbF) [.p rw 0,.int .u64 t] h=some (.tup [],h')/\RW h' rw q l (tail (jgc now t) hdl ct no si)/\Ch (RC rw q) h h':=by
 refine jal (at_ hcl om rfl rfl rfl ?_)
 obtain ⟨a,c,hw,_⟩:=w.head
 have q1:(V.slice a l.length c :: tail now hdl ct no si)[0+1]?=some (.int .u64 now):=rfl
 have hlen:0+1<(V.slice a l.length c :: tail now hdl ct no si).length:=by simp [jcD]
 unfold jgc
 by_cases hb:18446744073709551615-now<t
 ·rw [if_pos hb]
  refine qx1 ?_
  refine Ops.store1 rfl rfl rfl hw hlen ?_
  refine qx1 ?_
  exact ⟨rfl,w.tl hw,Ch.set (.inr rfl)⟩
 ·rw [if_neg hb]
  refine qx1 ?_
  refine Ops.store1 rfl rfl rfl hw hlen ?_
  refine qx1 ?_
  exact ⟨rfl,w.tl hw,Ch.set (.inr rfl)⟩
def sumC (ct:Nat->Int):Nat->Int
 | 0=>0
 | n+1=>sumC ct n+ct (n+1)
omit hcl in
theorem jmR {ct:Nat->Int} (hc : ∀ i,0<=ct i/\ct i<=1000000) : ∀ n,0<=sumC ct n/\sumC ct n<=1000000*n
 | 0=>by simp [sumC]
 | n+1=>by have:=jmR hc n;have:=hc (n+1);simp only [sumC];omega
theorem jlU {d rw q:Nat} {h:H} {l:List RX} {now no si:Int} {hdl:Nat->Bool} {ct:Nat->Int} (hd:1<=d) (w:RW h rw q l (tail now hdl ct no si)) (hc : ∀ i,0<=ct i/\ct i<=1000000) :
  cl d (.fn F.jc1) [.p rw 0] h=some (.i (sumC ct 31),h):=by
 refine jak (at_ hcl om rfl rfl rfl ?_)
 obtain ⟨a,c,hw,_⟩:=w.head
 refine qx1 ?_
 refine Run.loop (fun m e g=>∃ s:Nat,m=31-s/\s<=31/\e=[(0,.p rw 0),(3,.i (sumC ct s)),(4,.i ((s+1:Nat):Int))]/\g=h)
  (k:=31) Ze ⟨0,rfl,by omega,rfl,rfl⟩ ?_
 rintro _ _ h ⟨s,rfl,hs,rfl,rfl⟩ f ih
 by_cases hlt:s<31
 ·have q1:(V.slice a l.length c :: tail now hdl ct no si)[0+34+(((s+1:Nat):Int)).toNat*1]?=some (.i (ct (s+1))):=t_ct om om
  have hb:=jmR hc s
  have hb2:=hc (s+1)
  have hcond:((s+1:Nat):Int)<=31:=by omega
  have hs1:((s+1+1:Nat):Int)=((s+1:Nat):Int)+1:=by omega
  refine qx1 ?_
  exact ih (31-(s+1)) om _ _ ⟨s+1,rfl,by omega,by rw [hs1];rfl,rfl⟩
 ·obtain rfl:s=31:=by omega
  have hcond : ¬ ((31+1:Nat):Int)<=31:=by omega
  refine qx1 ?_
  exact ⟨rfl,rfl⟩
end
def NtOk (ws:Ws) (no si:Int):Prop:=no = -1 \/ ∃ (n k:Nat) (x:Wi),no=n/\si=k/\(k=0\/k=1)/\ws[n]?=some x/\x.e0.ring≠none/\x.e1.ring≠none
def jar (ws:Ws) (sum no si:Int):Ws :=
 if no<0 then ws else match ws[no.toNat]? with
 | none=>ws
 | some x=>match (x.e si.toNat).ring with
  | none=>ws
  | some q=>if sum=0 then ws.set no.toNat (x.take si.toNat q.length q)
   else if q=[] then ws.set no.toNat (x.fill (1-si.toNat) (min 1 x.cap) [] [1]) else ws
section
variable {cl:Nat->Call} (hcl:Sem cl)
include hcl
theorem jbO {d rw q:Nat} {h:H} {l:List RX} {now no si:Int} {hdl:Nat->Bool} {ct:Nat->Int} (hd:3<=d) (w:RW h rw q l (tail now hdl ct no si)) (o:WsOk (l.map RX.x)) (hnt:NtOk (l.map RX.x) no si) (hc : ∀ i,0<=ct i/\ct i<=1000000) :
  ∃ l' h',cl d (.fn F.jb0) [.p rw 0] h=some (.tup [],h')/\RW h' rw q l' (tail now hdl ct no si)/\l'.map RX.x=jar (l.map RX.x) (sumC ct 31) no si/\Ch (RC rw q) h h':=by
 suffices s : ∃ v' h',cl d (.fn F.jb0) [.p rw 0] h=some (v',h') /\ ∃ l',v' = .tup []/\RW h' rw q l' (tail now hdl ct no si)/\l'.map RX.x=jar (l.map RX.x) (sumC ct 31) no si/\Ch (RC rw q) h h' by
  obtain ⟨_,h',e,l',rfl,p⟩:=s;exact ⟨l',h',e,p⟩
 refine at_ hcl om rfl rfl rfl ?_
 have ep:=jlU hcl (d:=d-1) om w hc
 rcases hnt with rfl | ⟨n,k,x,rfl,rfl,hk,hx,hx0,hx1⟩
 ·obtain ⟨a,c,hw,_⟩:=w.head
  have q1:(V.slice a l.length c :: tail now hdl ct (-1) si)[0+66]?=some (.i (-1)):=t_no rfl
  have hS:jar (l.map RX.x) (sumC ct 31) (-1) si=l.map RX.x:=if_pos om
  rw [hS]
  refine qx1 ?_
  exact ⟨l,rfl,w,rfl,Ch.refl _ _⟩
 obtain ⟨r,hr,rfl⟩ : ∃ r,l[n]?=some r/\r.x=x:=by
  rw [List.getElem?_map] at hx
  cases hr:l[n]? with
  | none=>rw [hr] at hx;cases hx
  | some r=>rw [hr] at hx;cases hx;exact ⟨r,rfl,rfl⟩
 obtain ⟨hw,hq,hne⟩:=w.rat hr
 have hn:=r_lt hr
 have q1:(V.slice (some (q,0)) l.length (.grow 20) :: tail now hdl ct (n:Int) (k:Int))[0+66]?=some (.i (n:Int)):=t_no rfl
 have q2:(V.slice (some (q,0)) l.length (.grow 20) :: tail now hdl ct (n:Int) (k:Int))[0+67]?=some (.i (k:Int)):=t_si rfl
 have hring : ∃ b,(r.x.e k).ring=some b:=by
  rcases hk with rfl | rfl
  ·exact Option.ne_none_iff_exists'.1 hx0
  ·exact Option.ne_none_iff_exists'.1 hx1
 obtain ⟨b,hb⟩:=hring
 obtain ⟨hv,_⟩:=(w.rok hr).b k hk
 rw [hb] at hv
 simp only [Option.getD_some] at hv
 obtain ⟨a,c,hva,_⟩:=id hv
 have q3:=r_b hr hk
 rw [hva] at q3
 have hS:jar (l.map RX.x) (sumC ct 31) (n:Int) (k:Int)=if sumC ct 31=0 then (l.map RX.x).set n (r.x.take k b.length b) else if b=[] then (l.map RX.x).set n (r.x.fill (1-k) (min 1 r.x.cap) [] [1]) else l.map RX.x:=by
  unfold jar
  rw [if_neg om,zu,zu,jaZ hr]
  simp only [hb]
 rw [hS]
 by_cases hsum:sumC ct 31=0
 ·rw [if_pos hsum]
  obtain ⟨v,v',h',e2,p1,p2,p3⟩:=jnf hcl (d:=d-1) (many:=(b.length:Int)) om w hr hk hb om
  rw [show (min (b.length:Int) b.length).toNat=b.length by omega] at p2
  refine qx1 ?_
  exact ⟨_,rfl,p2,by rw [map_set,jmP hk],p3⟩
 rw [if_neg hsum]
 by_cases hbn:b=[]
 ·rw [if_pos hbn]
  subst hbn
  have q3:(rows l)[0+(n:Int).toNat*20+0+(k:Int).toNat*8+4]?=some (V.slice a 0 c):=q3
  have ek:(1:Int)-(k:Int)=((1-k:Nat):Int):=by omega
  have ekk:1-(1-k)=k:=by omega
  have lw:=w.lw
  have lq:=w.lq
  have hGo : ∀ j,j<h.nx->((h.reserve 1).set (h.nx+0) (.cells [.int .u8 1] false)).get j=h.get j:=fun j hj=>by rw [jaa om];rfl
  have oG:Old h ((h.reserve 1).set (h.nx+0) (.cells [.int .u8 1] false)):=⟨by show h.nx<=h.nx+1;omega,hGo⟩
  have hvb:VB ((h.reserve 1).set (h.nx+0) (.cells [.int .u8 1] false)) (.slice (some (h.nx+0,0)) 1 (.fix 1)) [1] :=
   ⟨some (h.nx+0,0),.fix 1,rfl,fun e=>by (cases e),zp _,fun _=>⟨h.nx+0,0,_,false,rfl,by show h.nx+0<h.nx+1;omega,jab _,fun i x hi=>by
    match i,hi with
    | 0,hi=>cases hi;rfl
    | i+1,hi=>simp at hi⟩⟩
  obtain ⟨v',h',e2,p2,p3⟩:=jkf hcl (d:=d-1) (k:=1-k) (b:=[]) om (w.old oG) hr om (by rw [ekk];exact hb) Zd (o.wi hr).cap1 hvb Zd (fun _ z hz=>by
   cases hz
   exact ⟨by omega,by omega,by show h.nx+0<h.nx+1;omega⟩)
  rw [<- ek] at e2
  have hm1:min ([1]:List UInt8).length (r.x.cap-([]:List UInt8).length)=min 1 r.x.cap:=by simp
  rw [hm1] at p2
  refine qx1 ?_
  refine Run.region ?_
  have hwR:(h.reserve 1).get rw=_:=hw
  refine qx1 ?_
  refine Ops.bslice1_at (new:=[.int .u8 1]) rfl rfl rfl rfl ?_
  refine qx1 ?_
  exact ⟨_,rfl,p2,by rw [map_set,jl1 om],oG.ch.trans p3⟩
 ·rw [if_neg hbn]
  have hpos : ¬ (b.length:Int)=0:=by have:=List.length_pos_iff.2 hbn;omega
  refine qx1 ?_
  exact ⟨l,rfl,w,rfl,Ch.refl _ _⟩
end
def put1 {α : Type} (f:Nat -> α) (s:Nat) (v : α):Nat -> α := fun i=>if i=s then v else f i
section
variable {v:V} {now no si:Int} {hd:Nat->Bool} {ct:Nat->Int}
theorem jkV {i o:Nat} {b:Bool} (hi:i<32) (ho:o=2+i):(v :: tail now hd ct no si).set o (.bool b)=v :: tail now (put1 hd i b) ct no si:=by
 subst ho
 rw [show 2+i=i+1+1 by omega]
 show v :: V.int .u64 now :: ((tab 32 (fun i=>V.bool (hd i))++_).set i (.bool b))=_
 rw [List.set_append,if_pos (by simpa using hi),jdd]
 unfold tail
 rw [jbS (g:=fun j=>V.bool (put1 hd i b j)) (fun k _=>by unfold put1;split<;>rfl)]
theorem jgi {i o:Nat} {b:Int} (hi:i<32) (ho:o=34+i):(v :: tail now hd ct no si).set o (.i b)=v :: tail now hd (put1 ct i b) no si:=by
 subst ho
 rw [show 34+i=(32+i)+1+1 by omega]
 show v :: V.int .u64 now :: ((tab 32 (fun i=>V.bool (hd i))++(tab 32 (fun i=>V.i (ct i))++[V.i no,V.i si])).set (32+i) (.i b))=_
 rw [List.set_append,if_neg Zd,tab_length,Nat.add_sub_cancel_left,List.set_append,if_pos (by simpa using hi),jdd]
 unfold tail
 rw [jbS (n:=32) (f:=fun j=>if j=i then V.i b else V.i (ct j)) (g:=fun j=>V.i (put1 ct i b j)) (fun k _=>by unfold put1;split<;>rfl)]
end
def jd1 (s:Int):Prop:=1<=s/\s<=31
instance (s:Int):Decidable (jd1 s):=inferInstanceAs (Decidable (_/\_))
def jdM (hd:Nat->Bool) (s:Int) (on:Bool):Nat->Bool:=if jd1 s then put1 hd s.toNat on else hd
def jck (ct:Nat->Int) (s:Int) (on:Bool):Nat->Int:=if jd1 s/\on=false then put1 ct s.toNat 0 else ct
section
variable {cl:Nat->Call} (hcl:Sem cl)
include hcl
theorem rq_Handle {d rw q:Nat} {h:H} {l:List RX} {now no si s:Int} {on:Bool} {hdl:Nat->Bool} {ct:Nat->Int} (hd:4<=d) (w:RW h rw q l (tail now hdl ct no si)) (o:WsOk (l.map RX.x)) (hnt:NtOk (l.map RX.x) no si) (hc : ∀ i,0<=ct i/\ct i<=1000000) :
  ∃ l' h',cl d (.fn F.jaS) [.p rw 0,.i s,.bool on] h=some (.i (if jd1 s then 0 else 100),h')/\RW h' rw q l' (tail now (jdM hdl s on) (jck ct s on) no si)/\l'.map RX.x=jar (l.map RX.x) (sumC (jck ct s on) 31) no si/\Ch (RC rw q) h h':=by
 suffices k : ∃ v' h',cl d (.fn F.jaS) [.p rw 0,.i s,.bool on] h=some (v',h') /\ ∃ l',v' = .i (if jd1 s then 0 else 100)/\RW h' rw q l' (tail now (jdM hdl s on) (jck ct s on) no si)/\l'.map RX.x=jar (l.map RX.x) (sumC (jck ct s on) 31) no si/\Ch (RC rw q) h h' by
  obtain ⟨_,h',e,l',rfl,p⟩:=k;exact ⟨l',h',e,p⟩
 refine at_ hcl om rfl rfl rfl ?_
 by_cases hs:jd1 s
 case neg=>
  rw [if_neg hs,show jdM hdl s on=hdl by unfold jdM;rw [if_neg hs],show jck ct s on=ct by unfold jck;rw [if_neg (fun e=>hs e.1)]]
  obtain ⟨l',h',e,p⟩:=jbO hcl (d:=d-1) om w o hnt hc
  have hs':s<1\/(¬ s<1/\31<s):=by unfold jd1 at hs;omega
  clear hs
  rcases hs' with hs' | ⟨hs1,hs'⟩
  ·refine qx1 ?_
   exact ⟨l',rfl,p⟩
  ·refine qx1 ?_
   exact ⟨l',rfl,p⟩
 rw [if_pos hs]
 obtain ⟨s1,s2⟩:=id hs
 obtain ⟨m,rfl⟩:=zx (show 0<=s by omega)
 obtain ⟨a,c,hw,_⟩:=w.head
 have hlen : ∀ {hd2:Nat->Bool} {o:Nat},o<68->o<(V.slice a l.length c :: tail now hd2 ct no si).length:=fun ho=>by simp [jcD];omega
 rw [show jdM hdl (m:Int) on=put1 hdl m on by unfold jdM;rw [if_pos hs,zu]]
 have w1:=w.tl (tl':=tail now (put1 hdl m on) ct no si) hw
 have c1:Ch (RC rw q) h (h.set rw (.cells (V.slice a l.length c :: tail now (put1 hdl m on) ct no si) false)):=Ch.set (.inr rfl)
 cases on
 ·rw [show jck ct (m:Int) false=put1 ct m 0 by unfold jck;rw [if_pos ⟨hs,rfl⟩,zu]]
  have w2:=w1.tl (tl':=tail now (put1 hdl m false) (put1 ct m 0) no si) (jab _)
  have c2:=c1.trans (Ch.set (B:=RC rw q) (ob := .cells (V.slice a l.length c :: tail now (put1 hdl m false) (put1 ct m 0) no si) false) (.inr rfl))
  have hc0 : ∀ i,0<=put1 ct m 0 i/\put1 ct m 0 i<=1000000:=fun i=>by
   unfold put1
   by_cases e:i=m
   ·rw [if_pos e];omega
   ·rw [if_neg e];exact hc i
  obtain ⟨l',h',e,p1,p2,p3⟩:=jbO hcl (d:=d-1) om w2 o hnt hc0
  refine qx1 ?_
  refine Ops.store1 rfl rfl rfl hw (hlen om) ?_
  rw [jkV (i:=m) om om]
  refine qx1 ?_
  refine Ops.store1 rfl rfl rfl (jab _) (hlen om) ?_
  rw [jgi (i:=m) om om]
  refine qx1 ?_
  exact ⟨l',rfl,p1,p2,c2.trans p3⟩
 ·rw [show jck ct (m:Int) true=ct by unfold jck;rw [if_neg (fun e=>by cases e.2)]]
  obtain ⟨l',h',e,p1,p2,p3⟩:=jbO hcl (d:=d-1) om w1 o hnt hc
  refine qx1 ?_
  refine Ops.store1 rfl rfl rfl hw (hlen om) ?_
  rw [jkV (i:=m) om om]
  refine qx1 ?_
  exact ⟨l',rfl,p1,p2,c1.trans p3⟩
end
theorem Wi.take_silent {x:Wi} {k m:Nat} {q:List UInt8} (hk:k=0\/k=1):(x.take k m q).silent k=x.silent k:=by
 rcases hk with rfl | rfl<;>simp [Wi.take,Wi.setq,Wi.came,Wi.put,Wi.e,En.came,Wi.silent]
section
variable {cl:Nat->Call} (hcl:Sem cl)
include hcl
theorem jkS {d w s wsb wn n wb r0 r1:Nat} {h:H} {wl wsl:List V} {wcap:Cap} {x:Wi} {wv:V} (hd:2<=d) (A:WAt h w wl s wsb wn wcap wsl) (hn:n<wn) (hat:wsl[n]?=some (.p wb 0)) (hx:h.get wb=some (x.obj r0 r1 wv)) (h2:x.e1.what=2) :
  cl d (.fn F.jcf) [.p w 0,.i (n:Int)] h=some (.tup [.p wb 0,.i 0],h):=by
 obtain ⟨hw,hs,hws,hb⟩:=A
 refine jak (at_ hcl om rfl rfl rfl ?_)
 have hno:=jjV hcl (d:=d-1) om hw hs
 have f1:wsl[0+(n:Int).toNat*1]?=some (.p wb 0):=by rw [show 0+(n:Int).toNat*1=n by omega];exact hat
 have f2:(x.cells r0 r1 wv)[0+0+(1:Int).toNat*7+0]?=some (.i 2):=by rw [<- h2];exact Wi.what_cell (k:=1) (.inr rfl) rfl
 unfold Wi.obj at hx
 refine qx1 ?_
 exact ⟨rfl,rfl⟩
theorem wp_Put {d w s wsb wn n wb r0 r1 b:Nat} {h0:H} {wl wsl:List V} {wcap:Cap} {x:Wi} {wv:V} {q l:List UInt8} {a:Option (Nat × Nat)} {c:Cap} (hd:8<=d) (A:WAt h0 w wl s wsb wn wcap wsl) (hn:n<wn) (hat:wsl[n]?=some (.p wb 0)) (hx:h0.get wb=some (x.obj r0 r1 wv))
  (h2:x.e1.what=2) (hr:x.reset=false) (hs1:x.e1.shut=false) (h3:x.e0.what≠3) (hq:x.e0.ring=some q) (R:ja2 h0 r0 b q x.cap) (l1:wb<h0.nx) (l2:r0<h0.nx) (l3:b<h0.nx) (n1:r0≠b) (n2:wb≠r0) (n3:wb≠b) (hl:BytesAt h0 a c l) (hll:l.length<=1000000000)
  (hne : ∀ z o,a=some (z,o)->l≠[]->z≠b/\z≠r0) :
  ∃ h',cl d (.fn F.jbp) [.p w 0,.i (n:Int),.slice a l.length c] h0=some (.tup [.i ((min l.length (x.cap-q.length):Nat):Int),.i 0],h')/\h'.get wb=some ((x.fill 1 (min l.length (x.cap-q.length)) q l).obj r0 r1 wv) /\
   ja2 h' r0 b (q++l.take (min l.length (x.cap-q.length))) x.cap/\Ch (fun j=>j=wb\/j=r0\/j=b) h0 h':=by
 have ho:=jkS hcl (d:=d-1) om A hn hat hx h2
 obtain ⟨h1,e1,p1,p2,p3⟩:=jmK hcl (d:=d-1) (k:=1) om hx (.inr rfl) hq R l1 l2 l3 n1 n2 n3 hl hll hne
 have f1:(x.cells r0 r1 wv)[0+14]?=some (.bool false):=by rw [<- hr];exact Wi.reset_cell rfl
 have f2:(x.cells r0 r1 wv)[0+0+(1:Int).toNat*7+4]?=some (.bool false):=by rw [<- hs1];exact Wi.shut_cell (k:=1) (.inr rfl) rfl
 have f3:(x.cells r0 r1 wv)[0+0+(0:Int).toNat*7+0]?=some (.i x.e0.what):=Wi.what_cell (k:=0) (.inl rfl) rfl
 unfold Wi.obj at hx
 refine jal (at_ hcl om rfl rfl rfl ?_)
 refine qx1 ?_
 exact ⟨rfl,p1,p2,p3⟩
theorem wp_Take {d w s wsb wn n wb r0 r1 b:Nat} {h0:H} {wl wsl:List V} {wcap:Cap} {x:Wi} {wv:V} {q:List UInt8} {t:Int} (hd:9<=d) (A:WAt h0 w wl s wsb wn wcap wsl) (hn:n<wn) (hat:wsl[n]?=some (.p wb 0)) (hx:h0.get wb=some (x.obj r0 r1 wv))
  (h2:x.e1.what=2) (hr:x.reset=false) (ht:0<=t) (hq:x.e1.ring=some q) (R:ja2 h0 r1 b q x.cap) (l1:wb<h0.nx) (l2:r1<h0.nx) (l3:b<h0.nx) (n1:r1≠b) (n2:wb≠r1) (n3:wb≠b) :
  ∃ v h',cl d (.fn F.jbl) [.p w 0,.i (n:Int),.i t] h0=some (.tup [v,.i 0],h')/\Row h0.nx h' 1 v (min t q.length).toNat (bts (q.take (min t q.length).toNat))/\((min t q.length).toNat=0->v = .nils)/\h'.get wb=some ((x.take 1 (min t q.length).toNat q).obj r0 r1 wv) /\
   ja2 h' r1 b (q.drop (min t q.length).toNat) x.cap/\Ch (fun j=>j=wb\/j=r1) h0 h':=by
 have ho:=jkS hcl (d:=d-1) om A hn hat hx h2
 obtain ⟨v,h1,e1,row,hnil,p1,p2,p3⟩:=jmI hcl (d:=d-1) (k:=1) (n:=t) om hx (.inr rfl) hq R l1 l2 l3 n1 n2 n3
 have f1:(x.cells r0 r1 wv)[0+14]?=some (.bool false):=by rw [<- hr];exact Wi.reset_cell rfl
 unfold Wi.obj at hx
 suffices ∃ v2 h',cl d (.fn F.jbl) [.p w 0,.i (n:Int),.i t] h0=some (v2,h')/\v2 = .tup [v,.i 0]/\h'=h1 by
  obtain ⟨v2,h',q1,q2,q3⟩:=this
  subst q2 q3
  exact ⟨v,h',q1,row,hnil,p1,p2,p3⟩
 refine at_ hcl om rfl rfl rfl ?_
 refine qx1 ?_
 exact ⟨rfl,rfl⟩
theorem wp_Read {d w s wsb wn fd n k wb r0 r1 b:Nat} {h0:H} {wl wsl:List V} {wcap:Cap} {x:Wi} {wv:V} {q:List UInt8} {t:Int} (hd:9<=d) (A:WAt h0 w wl s wsb wn wcap wsl) (B:FdAt wl wsl wn fd n k wb) (hx:h0.get wb=some (x.obj r0 r1 wv))
  (hr:x.reset=false) (ht:1<=t) (hq:(x.e k).ring=some q) (R:ja2 h0 (two r0 r1 k) b q x.cap) (lw:w<h0.nx) (lb:wsb<h0.nx) (l1:wb<h0.nx) (l2:two r0 r1 k<h0.nx) (l3:b<h0.nx) (n1:two r0 r1 k≠b) (n2:wb≠two r0 r1 k) (n3:wb≠b) :
  ∃ v h',cl d (.fn F.jaN) [.p w 0,.i (fd:Int),.i t] h0=some (.tup [v,.bool (decide (q=[])&&x.silent k),.i (if q=[]/\x.silent k=false then 113 else 0)],h') /\
   Row h0.nx h' 1 v (min t q.length).toNat (bts (q.take (min t q.length).toNat))/\((min t q.length).toNat=0->v = .nils)/\h'.get wb=some ((x.take k (min t q.length).toNat q).obj r0 r1 wv) /\
   ja2 h' (two r0 r1 k) b (q.drop (min t q.length).toNat) x.cap/\Ch (fun j=>j=wb\/j=two r0 r1 k) h0 h':=by
 obtain ⟨h1,e1,c1,x1⟩:=jjW hcl (d:=d-1) om A B lw lb
 have hk:=B.k01
 let h2:=(h1.new (.cells [.bool false,.i 0,.i 0] false)).set h1.nx (.cells [.bool true,.i (n:Int),.i (k:Int)] false)
 have g2 : ∀ j,j<h0.nx->h2.get j=h0.get j:=fun j hj=>by
  show (H.set _ _ _).get j=_
  rw [jaa om,jad om,c1.get j hj id]
 have y2:h2.nx=h0.nx+2:=by show h1.nx+1=_;omega
 have hx2:h2.get wb=some (x.obj r0 r1 wv):=by rw [g2 wb l1,hx]
 have R2:=R.keep (g2 _ l2) (g2 _ l3)
 obtain ⟨v,h3,e3,row,hnil,p1,p2,p3⟩:=jmI hcl (d:=d-1) (k:=k) (n:=t) om hx2 hk hq R2 om om om n1 n2 n3
 have hsil:=jiS hcl (d:=d-1) om p1 hk
 rw [Wi.take_silent hk] at hsil
 have f1:(x.cells r0 r1 wv)[0+14]?=some (.bool false):=by rw [<- hr];exact Wi.reset_cell rfl
 have f2:=Wi.ring_cell (x:=x) (r0:=r0) (r1:=r1) (wv:=wv) hk hq (o:=0+0+(k:Int).toNat*7+2) om
 have hp3:h3.get h1.nx=some (.cells [.bool true,.i (n:Int),.i (k:Int)] false):=by
  rw [p3.get h1.nx om om];exact jab _
 have fin:Row h0.nx h3 1 v (min t q.length).toNat (bts (q.take (min t q.length).toNat))/\((min t q.length).toNat=0->v = .nils)/\h3.get wb=some ((x.take k (min t q.length).toNat q).obj r0 r1 wv) /\
   ja2 h3 (two r0 r1 k) b (q.drop (min t q.length).toNat) x.cap/\Ch (fun j=>j=wb\/j=two r0 r1 k) h0 h3 :=
  ⟨row.weaken om,hnil,p1,p2,by have:=p3.nx;omega,fun j hj hn=>by rw [p3.get j om hn,g2 j hj]⟩
 suffices ∃ v2 h',cl d (.fn F.jaN) [.p w 0,.i (fd:Int),.i t] h0=some (v2,h')/\v2 = .tup [v,.bool (decide (q=[])&&x.silent k),.i (if q=[]/\x.silent k=false then 113 else 0)]/\h'=h3 by
  obtain ⟨v2,h',q1,q2,q3⟩:=this
  subst q2 q3
  exact ⟨v,h',q1,fin⟩
 clear fin p2
 obtain ⟨c,⟨a,rfl⟩,hrow⟩:=row.shape
 unfold Wi.obj at hx2
 have hq0:q=[]↔(min t (q.length:Int)).toNat=0:=by
  rw [<- zm];omega
 refine at_ hcl om rfl rfl rfl ?_
 refine qo1 ?_
 refine Ops.callf rfl e1 ?_
 refine qo1 ?_
 refine Ops.make rfl rfl ?_
 refine qx1 ?_
 refine Ops.storeN rfl rfl rfl rfl (jac _) (zr rfl) ?_
 have gp:h2.get h1.nx=some (.cells [.bool true,.i (n:Int),.i (k:Int)] false):=jab _
 rw [show ((h1.new (.cells [.bool false,.i 0,.i 0] false)).set h1.nx (.cells (jax [.bool false,.i 0,.i 0] 0 [.bool true,.i (n:Int),.i (k:Int)]) false))=h2 from rfl]
 clear_value h2
 by_cases hq1:q=[]
 ·have hm:(min t (q.length:Int)).toNat=0:=hq0.1 hq1
  have hv:=hnil hm
  rw [hm] at e3 hv
  rw [hm,hv]
  cases hsl:x.silent k
  ·rw [hsl] at hsil
   refine qx1 ?_
   exact ⟨by simp [hq1,hsl],rfl⟩
  ·rw [hsl] at hsil
   refine qx1 ?_
   exact ⟨by simp [hq1,hsl],rfl⟩
 ·have hm : ¬ (min t (q.length:Int)).toNat=0:=fun e=>hq1 (hq0.2 e)
  refine qx1 ?_
  exact ⟨by simp [hq1],rfl⟩
end
theorem Wi.came_ff (x:Wi) (k:Nat):x.came k false false=x:=by
 match k with
 | 0=>simp [Wi.came,Wi.put,Wi.e,En.came]
 | n+1=>simp [Wi.came,Wi.put,Wi.e,En.came]
theorem Wi.fill_zero {x:Wi} {r0 r1 k:Nat} {wv:V} {q l:List UInt8} (hk:k=0\/k=1) (hq:(x.e (1-k)).ring=some q):(x.fill k 0 q l).obj r0 r1 wv=x.obj r0 r1 wv:=by
 unfold Wi.fill Wi.obj
 rw [show decide (0<0)=false from rfl,Wi.came_ff,Wi.setq_cells om hq]
section
variable {cl:Nat->Call} (hcl:Sem cl)
include hcl
theorem wp_Write {d w s wsb wn fd n k wb r0 r1 b:Nat} {h0:H} {wl wsl:List V} {wcap:Cap} {x:Wi} {wv:V} {q l:List UInt8} {a:Option (Nat × Nat)} {c:Cap} (hd:9<=d) (A:WAt h0 w wl s wsb wn wcap wsl) (B:FdAt wl wsl wn fd n k wb) (hx:h0.get wb=some (x.obj r0 r1 wv))
  (hwr:(x.e k).writes=true) (hr:x.reset=false) (hsh:(x.e k).shut=false) (h3:(x.e (1-k)).what≠3) (hq:(x.e (1-k)).ring=some q) (R:ja2 h0 (two r0 r1 (1-k)) b q x.cap) (lw:w<h0.nx) (lb:wsb<h0.nx) (l1:wb<h0.nx) (l2:two r0 r1 (1-k)<h0.nx) (l3:b<h0.nx)
  (n1:two r0 r1 (1-k)≠b) (n2:wb≠two r0 r1 (1-k)) (n3:wb≠b) (hl:BytesAt h0 a c l) (hll:l.length<=1000000000) (hne : ∀ z o,a=some (z,o)->l≠[]->z≠b/\z≠two r0 r1 (1-k)) :
  ∃ h',cl d (.fn F.jaD) [.p w 0,.i (fd:Int),.slice a l.length c] h0=some (.tup [.i ((min l.length (x.cap-q.length):Nat):Int),.i (if min l.length (x.cap-q.length)=0/\l≠[] then 113 else 0)],h') /\
   h'.get wb=some ((x.fill k (min l.length (x.cap-q.length)) q l).obj r0 r1 wv)/\ja2 h' (two r0 r1 (1-k)) b (q++l.take (min l.length (x.cap-q.length))) x.cap/\Ch (fun j=>j=wb\/j=two r0 r1 (1-k)\/j=b) h0 h':=by
 obtain ⟨h1,e1,c1,x1⟩:=jjW hcl (d:=d-1) om A B lw lb
 have hk:=B.k01
 let h2:=(h1.new (.cells [.bool false,.i 0,.i 0] false)).set h1.nx (.cells [.bool true,.i (n:Int),.i (k:Int)] false)
 have g2 : ∀ j,j<h0.nx->h2.get j=h0.get j:=fun j hj=>by
  show (H.set _ _ _).get j=_
  rw [jaa om,jad om,c1.get j hj id]
 have y2:h2.nx=h0.nx+2:=by show h1.nx+1=_;omega
 have hx2:h2.get wb=some (x.obj r0 r1 wv):=by rw [g2 wb l1,hx]
 have R2:=R.keep (g2 _ l2) (g2 _ l3)
 have hl2:BytesAt h2 a c l:=⟨hl.none_,hl.fits,fun hn=>by
  obtain ⟨z,o,cs,ro,q1,q2,q3,q4⟩:=hl.at_ hn
  exact ⟨z,o,cs,ro,q1,by omega,by rw [g2 z q2,q3],q4⟩⟩
 obtain ⟨h3',e3,p1,p2,p3⟩:=jmK hcl (d:=d-1) (k:=k) om hx2 hk hq R2 om om om n1 n2 n3 hl2 hll hne
 have f1:(x.cells r0 r1 wv)[0+14]?=some (.bool false):=by rw [<- hr];exact Wi.reset_cell rfl
 have f2:(x.cells r0 r1 wv)[0+0+(k:Int).toNat*7+3]?=some (.bool true):=by rw [<- hwr];exact Wi.writes_cell hk om
 have f3:(x.cells r0 r1 wv)[0+0+(k:Int).toNat*7+4]?=some (.bool false):=by rw [<- hsh];exact Wi.shut_cell hk om
 have f4:(x.cells r0 r1 wv)[0+0+((1:Int)-(k:Int)).toNat*7+0]?=some (.i (x.e (1-k)).what):=Wi.what_cell om om
 have gp:h2.get h1.nx=some (.cells [.bool true,.i (n:Int),.i (k:Int)] false):=jab _
 have hp3:h3'.get h1.nx=some (.cells [.bool true,.i (n:Int),.i (k:Int)] false):=by
  rw [p3.get h1.nx om (by
   rintro (e | e | e)<;>omega)];exact gp
 generalize hm:min l.length (x.cap-q.length)=m at e3 p1 p2 ⊢
 unfold Wi.obj at hx2
 refine jal (at_ hcl om rfl rfl rfl ?_)
 refine qo1 ?_
 refine Ops.callf rfl e1 ?_
 refine qo1 ?_
 refine Ops.make rfl rfl ?_
 refine qx1 ?_
 refine Ops.storeN rfl rfl rfl rfl (jac _) (zr rfl) ?_
 rw [show ((h1.new (.cells [.bool false,.i 0,.i 0] false)).set h1.nx (.cells (jax [.bool false,.i 0,.i 0] 0 [.bool true,.i (n:Int),.i (k:Int)]) false))=h2 from rfl]
 clear_value h2
 by_cases hl0:l=[]
 ·have hm0:m=0:=by rw [<- hm,hl0];simp
  have hlen0:(l.length:Int)=0:=by rw [hl0];rfl
  refine qx1 ?_
  refine ⟨by simp [hm0,hl0],?_,?_,by omega,fun j hj _=>g2 j hj⟩
  ·rw [hm0,Wi.fill_zero hk hq,Wi.obj,hx2]
  ·rw [hm0];simpa using R2
 ·have hlen0 : ¬ (l.length:Int)=0:=by
   have:l.length≠0:=fun e=>hl0 (zm.1 e)
   omega
  have fin:h3'.get wb=some ((x.fill k m q l).obj r0 r1 wv)/\ja2 h3' (two r0 r1 (1-k)) b (q++l.take m) x.cap/\Ch (fun j=>j=wb\/j=two r0 r1 (1-k)\/j=b) h0 h3' :=
   ⟨p1,p2,by have:=p3.nx;omega,fun j hj hn=>by rw [p3.get j om hn,g2 j hj]⟩
  by_cases hm0:m=0
  ·refine qx1 ?_
   exact ⟨by simp [hm0,hl0],fin⟩
  ·refine qx1 ?_
   exact ⟨by simp [hm0],fin⟩
end
def pc:Option (Nat × Nat)->Nat->V
 | none,0=>.bool false
 | none,_=>.i 0
 | some _,0=>.bool true
 | some p,1=>.i (p.1:Int)
 | some p,_=>.i (p.2:Int)
def plc (p:Option (Nat × Nat)):List V:=[pc p 0,pc p 1,pc p 2]
def jdF (f:Nat->Option (Nat × Nat)):List V:=tab 288 fun j=>pc (f (j/3)) (j%3)
theorem jaB (f:Nat->Option (Nat × Nat)):(jdF f).length=288:=by simp [jdF]
theorem jeY {f:Nat->Option (Nat × Nat)} {i j o:Nat} (hi:i<96) (hj:j<3) (ho:o=i*3+j):(jdF f)[o]?=some (pc (f i) j):=by
 subst ho
 unfold jdF
 rw [jbC om,show (i*3+j)/3=i by omega,show (i*3+j)%3=j by omega]
theorem fdTab_set {f g:Nat->Option (Nat × Nat)} {i o:Nat} {p:Option (Nat × Nat)} (hi:i<96) (ho:o=i*3) (hg : ∀ j,j<96->g j=if j=i then p else f j):jax (jdF f) o (plc p)=jdF g:=by
 subst ho
 show (((jdF f).set (i*3) (pc p 0)).set (i*3+1) (pc p 1)).set (i*3+1+1) (pc p 2)=_
 unfold jdF
 rw [jdd,jdd,jdd]
 refine jbS fun j hj=>?_
 rw [hg (j/3) om]
 by_cases h2:j=i*3+1+1
 ·subst h2
  rw [if_pos rfl,if_pos om,show (i*3+1+1)%3=2 by omega]
 rw [if_neg h2]
 by_cases h1:j=i*3+1
 ·subst h1
  rw [if_pos rfl,if_pos om,show (i*3+1)%3=1 by omega]
 rw [if_neg h1]
 by_cases h0:j=i*3
 ·subst h0
  rw [if_pos rfl,if_pos om,show (i*3)%3=0 by omega]
 rw [if_neg h0,if_neg om]
theorem jkD {f g:Nat->Option (Nat × Nat)} (h : ∀ j,j<96->f j=g j):jdF f=jdF g:=jbS fun j hj=>by rw [h (j/3) om]
def wc (f:Nat->Option (Nat × Nat)) (wv:V) (s:Nat) (now:Int) (no:Option (Nat × Nat)):List V:=jdF f++([wv,.p s 0,.int .u64 now]++plc no)
section
variable {f:Nat->Option (Nat × Nat)} {wv:V} {s o:Nat} {now:Int} {no:Option (Nat × Nat)}
theorem jbz:(wc f wv s now no).length=294:=by simp [wc,jaB,plc]
theorem joO {i j:Nat} (hi:i<96) (hj:j<3) (ho:o=i*3+j):(wc f wv s now no)[o]?=some (pc (f i) j):=by
 unfold wc
 rw [zd,if_pos (by rw [jaB];omega),jeY hi hj ho]
theorem joa {j:Nat} (ho:o=288+j):(wc f wv s now no)[o]?=([wv,.p s 0,.int .u64 now]++plc no)[j]?:=by
 subst ho
 unfold wc
 rw [zd,if_neg (by rw [jaB];omega),jaB,Nat.add_sub_cancel_left]
theorem jbd (ho:o=288):(wc f wv s now no)[o]?=some wv:=joa (j:=0) ho
theorem jfs (ho:o=289):(wc f wv s now no)[o]?=some (.p s 0):=joa (j:=1) ho
theorem wc_now (ho:o=290):(wc f wv s now no)[o]?=some (.int .u64 now):=joa (j:=2) ho
theorem job {j:Nat} (hj:j<3) (ho:o=291+j):(wc f wv s now no)[o]?=some (pc no j):=by
 rw [joa (j:=3+j) om]
 rcases (by omega:j=0\/j=1\/j=2) with rfl | rfl | rfl<;>rfl
theorem jok {o:Nat} {j:Nat} {v:V} (ho:o=288+j):(wc f wv s now no).set o v=jdF f++(([wv,.p s 0,.int .u64 now]++plc no).set j v):=by
 subst ho
 unfold wc
 rw [List.set_append,if_neg (by rw [jaB];omega),jaB,Nat.add_sub_cancel_left]
theorem jdH {v:V} (ho:o=288):(wc f wv s now no).set o v=wc f v s now no:=by rw [jok (j:=0) ho];rfl
theorem jlJ {n:Int} (ho:o=290):(wc f wv s now no).set o (.int .u64 n)=wc f wv s n no:=by rw [jok (j:=2) ho];rfl
theorem jfX {a b vs:List V} {o:Nat} (h:o+vs.length<=a.length):jax (a++b) o vs=jax a o vs++b:=by
 induction vs generalizing a o with
 | nil=>rfl
 | cons v r ih=>
  have h':o+(r.length+1)<=a.length:=h
  rw [jdv,jdv,List.set_append,if_pos om,ih Zc]
theorem jfY {a b vs:List V} {o:Nat} (h:a.length<=o):jax (a++b) o vs=a++jax b (o-a.length) vs:=by
 induction vs generalizing b o with
 | nil=>rfl
 | cons v r ih=>
  rw [jdv,jdv,List.set_append,if_neg om,ih om,show o+1-a.length=o-a.length+1 by omega]
theorem jeF {g:Nat->Option (Nat × Nat)} {i:Nat} {p:Option (Nat × Nat)} (hi:i<96) (ho:o=i*3) (hg : ∀ j,j<96->g j=if j=i then p else f j):jax (wc f wv s now no) o (plc p)=wc g wv s now no:=by
 unfold wc
 rw [jfX (by rw [jaB];show o+3<=_;omega),fdTab_set hi ho hg]
theorem wc_set_no {p:Option (Nat × Nat)} (ho:o=291):jax (wc f wv s now no) o (plc p)=wc f wv s now p:=by
 subst ho
 unfold wc
 rw [jfY (by rw [jaB];omega),jaB]
 rfl
end
structure WX where
 x:Wi
 wb:Nat
 r0:Nat
 b0:Nat
 r1:Nat
 b1:Nat
 wv:V
def WX.r (t:WX):Nat->Nat:=two t.r0 t.r1
def WX.b (t:WX):Nat->Nat:=two t.b0 t.b1
theorem VI.keep2 {h h':H} {v:V} {l:List Int} (a:VI h v l) (hx:h.nx<=h'.nx) (hk:l≠[] -> ∀ z,v.at?=some z->h'.get z=h.get z):VI h' v l:=by
 obtain ⟨a,c,rfl,n,f,g⟩:=a
 refine ⟨a,c,rfl,n,f,fun hl=>?_⟩
 obtain ⟨b,o,cs,ro,rfl,h1,h2,h3⟩:=g hl
 exact ⟨b,o,cs,ro,rfl,by omega,by rw [hk hl b rfl,h2],h3⟩
structure XOk (h:H) (ow:Nat->Nat) (n:Nat) (t:WX):Prop where
 hx:h.get t.wb=some (t.x.obj t.r0 t.r1 t.wv)
 ox:ow t.wb=10*n+10
 lx:t.wb<h.nx
 ring : ∀ k,k=0\/k=1 -> ∀ q,(t.x.e k).ring=some q->ja2 h (t.r k) (t.b k) q t.x.cap/\ow (t.r k)=10*n+11+2*k/\ow (t.b k)=10*n+12+2*k/\t.r k<h.nx/\t.b k<h.nx
 wait:VI h t.wv t.x.waiting/\(t.x.waiting≠[] -> ∀ z,t.wv.at?=some z->ow z=10*n+15/\z<h.nx)
theorem XOk.keep {h h':H} {ow:Nat->Nat} {n:Nat} {t:WX} (a:XOk h ow n t) (hx:h.nx<=h'.nx) (hk : ∀ j,10*n+10<=ow j->ow j<=10*n+19->h'.get j=h.get j):XOk h' ow n t:=by
 refine ⟨by rw [hk _ (by rw [a.ox];omega) (by rw [a.ox];omega),a.hx],a.ox,zq a.lx hx,fun k h01 q hq=>?_,?_⟩
 ·obtain ⟨p1,p2,p3,p4,p5⟩:=a.ring k h01 q hq
  refine ⟨p1.keep (hk _ ?_ ?_) (hk _ ?_ ?_),p2,p3,zq p4 hx,zq p5 hx⟩<;>omega
 ·refine ⟨a.wait.1.keep2 hx fun hl z hz=>?_,fun hl z hz=>⟨(a.wait.2 hl z hz).1,zq (a.wait.2 hl z hz).2 hx⟩⟩
  have:=(a.wait.2 hl z hz).1
  exact hk z om om
theorem XOk.tag {h:H} {ow ow':Nat->Nat} {n:Nat} {t:WX} (a:XOk h ow n t) (hk : ∀ j,j<h.nx->ow' j=ow j):XOk h ow' n t:=by
 refine ⟨a.hx,by rw [hk _ a.lx,a.ox],a.lx,fun k h01 q hq=>?_,a.wait.1,fun hl z hz=>?_⟩
 ·obtain ⟨p1,p2,p3,p4,p5⟩:=a.ring k h01 q hq
  exact ⟨p1,by rw [hk _ p4,p2],by rw [hk _ p5,p3],p4,p5⟩
 ·obtain ⟨p1,p2⟩:=a.wait.2 hl z hz
  exact ⟨by rw [hk _ p2,p1],p2⟩
abbrev wxs (l:List WX):Ws:=l.map WX.x
abbrev wps (l:List WX):List V:=l.map fun t=>.p t.wb 0
structure WF (h:H) (w s:Nat) (ow:Nat->Nat) (f:Nat->Option (Nat × Nat)) (l:List WX) (now:Int) (t:Tb) (no:Option (Nat × Nat)):Prop where
 hw : ∃ wv,h.get w=some (.cells (wc f wv s now no) false)/\Row 0 h 1 wv l.length (wps l) /\ ∀ z,wv.at?=some z->ow z=2
 hs:h.get s=some t.obj
 tw:ow w=1
 ts:ow s=3
 lw:w<h.nx
 ls:s<h.nx
 top : ∀ j,h.nx<=j->ow j=0
 ok : ∀ n t,l[n]?=some t->XOk h ow n t
section
variable {h h':H} {w s:Nat} {ow:Nat->Nat} {f:Nat->Option (Nat × Nat)} {l:List WX} {now:Int} {t tb:Tb} {no:Option (Nat × Nat)}
theorem WF.keep (a:WF h w s ow f l now t no) (hx:h.nx<=h'.nx) (hk : ∀ j,ow j≠0->h'.get j=h.get j):WF h' w s ow f l now t no:=by
 obtain ⟨wv,p1,p2,p3⟩:=a.hw
 exact ⟨⟨wv,by rw [hk w (by rw [a.tw];omega),p1],p2.keep hx fun z hz=>hk z (by rw [p3 z hz];omega),p3⟩,by rw [hk s (by rw [a.ts];omega),a.hs],a.tw,a.ts,zq a.lw hx,zq a.ls hx,
  fun j hj=>a.top j (zy hx hj),fun n t ht=>(a.ok n t ht).keep hx fun j h1 _=>hk j om⟩
theorem WF.lt_of (a:WF h w s ow f l now t no) {j:Nat} (hj:ow j≠0):j<h.nx:=by
 rcases zw j h.nx with h1 | h1
 ·exact h1
 ·exact absurd (a.top j h1) hj
theorem WF.old (a:WF h w s ow f l now t no) (o:Old h h'):WF h' w s ow f l now t no:=a.keep o.1 fun j hj=>o.2 j (a.lt_of hj)
theorem WF.congr {g:Nat->Option (Nat × Nat)} (a:WF h w s ow f l now t no) (e : ∀ j,j<96->g j=f j):WF h w s ow g l now t no:=by
 obtain ⟨wv,p1,p2,p3⟩:=a.hw
 refine ⟨⟨wv,?_,p2,p3⟩,a.hs,a.tw,a.ts,a.lw,a.ls,a.top,a.ok⟩
 rw [p1];unfold wc;rw [jkD e]
theorem WF.head (a:WF h w s ow f l now t no) : ∃ sa c,h.get w=some (.cells (wc f (.slice sa l.length c) s now no) false)/\(l≠[] -> ∃ z,sa=some (z,0)/\z<h.nx/\ow z=2/\h.get z=some (.cells (wps l) false)):=by
 obtain ⟨wv,p1,p2,p3⟩:=a.hw
 rcases p2 with ⟨h1,h2,rfl⟩ | ⟨z,h1,h2,rfl,h4,h5⟩
 ·refine ⟨none,.fix 0,by rw [p1,h1],fun hl=>absurd (zm.1 h1) hl⟩
 ·exact ⟨_,_,p1,fun _=>⟨z,rfl,h2,p3 z rfl,h4⟩⟩
end
theorem jam {l:List WX} {n:Nat} {t:WX} (h:l[n]?=some t):(wxs l)[n]?=some t.x:=by simp [h]
theorem jiB {l:List WX} {n:Nat} {x:Wi} (h:(wxs l)[n]?=some x) : ∃ t,l[n]?=some t/\t.x=x:=by
 rw [List.getElem?_map] at h
 cases hr:l[n]? with
 | none=>rw [hr] at h;cases h
 | some r=>rw [hr] at h;cases h;exact ⟨r,rfl,rfl⟩
theorem x_lt {l:List WX} {n:Nat} {t:WX} (hr:l[n]?=some t):n<l.length:=by
 rcases zw n l.length with h | h
 ·exact h
 ·rw [zc h] at hr;cases hr
theorem set_wps {l:List WX} {n:Nat} {t t':WX} (ht:l[n]?=some t) (hb:t'.wb=t.wb):wps (l.set n t')=wps l:=by
 apply List.ext_getElem?
 intro i
 rw [List.getElem?_map,List.getElem?_map,zh]
 by_cases e:n=i
 ·subst e;rw [if_pos rfl,if_pos (x_lt ht),ht];simp [hb]
 ·rw [if_neg e]
theorem jbf {l:List WX} {n:Nat} {t:WX} : wxs (l.set n t)=(wxs l).set n t.x:=List.map_set
section
variable {h h':H} {w s:Nat} {ow:Nat->Nat} {f:Nat->Option (Nat × Nat)} {l:List WX} {now:Int} {tb:Tb} {no:Option (Nat × Nat)}
theorem WF.turn (a:WF h w s ow f l now tb no) {n:Nat} {t t':WX} (ht:l[n]?=some t) (hx:h.nx<=h'.nx) (hk : ∀ j,ow j≠0 -> ¬ (10*n+10<=ow j/\ow j<=10*n+19)->h'.get j=h.get j) (ok:XOk h' ow n t') (hb:t'.wb=t.wb):WF h' w s ow f (l.set n t') now tb no:=by
 obtain ⟨wv,p1,p2,p3⟩:=a.hw
 refine ⟨⟨wv,by rw [hk w (by rw [a.tw];omega) (by rw [a.tw];omega),p1],?_,p3⟩,by rw [hk s (by rw [a.ts];omega) (by rw [a.ts];omega),a.hs],a.tw,a.ts,zq a.lw hx,zq a.ls hx,fun j hj=>a.top j (zy hx hj),fun m t2 ht2=>?_⟩
 ·rw [List.length_set,set_wps ht hb]
  exact p2.keep hx fun z hz=>hk z (by rw [p3 z hz];omega) (by rw [p3 z hz];omega)
 ·rw [zh] at ht2
  by_cases e:n=m
  ·subst e
   rw [if_pos rfl,if_pos (x_lt ht)] at ht2
   cases ht2
   exact ok
  ·rw [if_neg e] at ht2
   exact (a.ok m t2 ht2).keep hx fun j h1 h2=>hk j om om
theorem WF.step (a:WF h w s ow f l now tb no) {n:Nat} {t:WX} {x':Wi} {B:Nat->Prop} (ht:l[n]?=some t) (ch:Ch B h h') (hB : ∀ j,j<h.nx->B j->10*n+10<=ow j/\ow j<=10*n+14) (ho:h'.get t.wb=some (x'.obj t.r0 t.r1 t.wv)) (hwt:x'.waiting=t.x.waiting)
  (hr : ∀ k,k=0\/k=1 -> ∀ q',(x'.e k).ring=some q' -> ∃ q,(t.x.e k).ring=some q/\ja2 h' (t.r k) (t.b k) q' x'.cap):WF h' w s ow f (l.set n { t with x:=x' }) now tb no:=by
 have k:=a.ok n t ht
 have hg : ∀ j,ow j≠0 -> ¬ (10*n+10<=ow j/\ow j<=10*n+14)->h'.get j=h.get j:=fun j hj hn=>ch.get j (a.lt_of hj) fun hb=>hn (hB j (a.lt_of hj) hb)
 refine a.turn ht ch.nx (fun j hj hn=>hg j hj fun ⟨e1,e2⟩=>hn ⟨e1,by omega⟩) ⟨ho,k.ox,zq k.lx ch.nx,fun i hi q' hq'=>?_,?_⟩ rfl
 ·obtain ⟨q,e1,e2⟩:=hr i hi q' hq'
  obtain ⟨_,p2,p3,p4,p5⟩:=k.ring i hi q e1
  exact ⟨e2,p2,p3,zq p4 ch.nx,zq p5 ch.nx⟩
 ·show VI h' t.wv x'.waiting/\(x'.waiting≠[]->_)
  rw [hwt]
  refine ⟨k.wait.1.keep2 ch.nx fun hl z hz=>?_,fun hl z hz=>⟨(k.wait.2 hl z hz).1,zq (k.wait.2 hl z hz).2 ch.nx⟩⟩
  have:=(k.wait.2 hl z hz).1
  exact hg z om om
theorem WF.upd (a:WF h w s ow f l now tb no) {n:Nat} {t:WX} {x':Wi} (ht:l[n]?=some t) (u:Upd t.wb (x'.obj t.r0 t.r1 t.wv) h h') (hwt:x'.waiting=t.x.waiting) (hc:x'.cap=t.x.cap) (hr : ∀ k,k=0\/k=1->(x'.e k).ring=(t.x.e k).ring):WF h' w s ow f (l.set n { t with x:=x' }) now tb no:=by
 have k:=a.ok n t ht
 refine a.step ht (u.ch (B:=fun j=>j=t.wb) rfl) (fun j _ e=>by rw [e,k.ox];omega) u.self hwt fun i hi q' hq'=>?_
 rw [hr i hi] at hq'
 obtain ⟨p1,p2,p3,p4,p5⟩:=k.ring i hi q' hq'
 have k2:=k.ox
 refine ⟨q',hq',?_⟩
 rw [hc]
 refine p1.keep (u.get _ fun e=>?_) (u.get _ fun e=>?_)
 ·rw [e] at p2;omega
 ·rw [e] at p3;omega
end
structure WW (h:H) (w s:Nat) (ow:Nat->Nat) (l:List WX) (now:Int) (t:Tb) (no:Option (Nat × Nat)):Prop where
 wf:WF h w s ow (fun i=>atS (wxs l) (i:Int)) l now t no
 fds : ∀ n k fd,AtW (wxs l) n k fd->0<=fd/\fd<=95
def Wi.SameFd (x y:Wi):Prop := ∀ k,k=0\/k=1->((y.e k).what=1↔(x.e k).what=1)/\((x.e k).what=1->(y.e k).fd=(x.e k).fd)
theorem Wi.SameFd.refl (x:Wi):x.SameFd x:=fun _ _=>⟨Iff.rfl,fun _=>rfl⟩
theorem Wi.SameFd.trans {x y z:Wi} (a:x.SameFd y) (b:y.SameFd z):x.SameFd z:=fun k hk=>⟨(b k hk).1.trans (a k hk).1,fun h=>by rw [(b k hk).2 ((a k hk).1.2 h),(a k hk).2 h]⟩
theorem jiQ {ws:Ws} {n:Nat} {x y:Wi} (hx:ws[n]?=some x) (hs:x.SameFd y) (m k:Nat) (fd:Int):AtW (ws.set n y) m k fd↔AtW ws m k fd:=by
 unfold AtW
 rw [zh]
 by_cases e:n=m
 ·subst e
  have hlt:n<ws.length:=by
   rcases zw n ws.length with h | h
   ·exact h
   ·rw [zc h] at hx;cases hx
  rw [if_pos rfl,if_pos hlt,hx]
  constructor
  ·rintro ⟨_,e0,hk,h1,h2⟩;cases e0;exact ⟨x,rfl,hk,(hs k hk).1.1 h1,by rw [<- (hs k hk).2 ((hs k hk).1.1 h1),h2]⟩
  ·rintro ⟨_,e0,hk,h1,h2⟩;cases e0;exact ⟨y,rfl,hk,(hs k hk).1.2 h1,by rw [(hs k hk).2 h1,h2]⟩
 ·rw [if_neg e]
theorem jjN {ws ws':Ws} (h : ∀ n k fd,AtW ws' n k fd↔AtW ws n k fd) (fd:Int):atS ws' fd=atS ws fd:=by
 have e:AtW ws'=AtW ws:=by funext n k fd;exact propext (h n k fd)
 unfold atS
 rw [e]
section
variable {h h':H} {w s:Nat} {ow:Nat->Nat} {l:List WX} {now:Int} {t:Tb} {no:Option (Nat × Nat)}
theorem WW.old (a:WW h w s ow l now t no) (o:Old h h'):WW h' w s ow l now t no:=⟨a.wf.old o,a.fds⟩
theorem WF.same {n:Nat} {x:Wi} {y:WX} (a:WF h' w s ow (fun i=>atS (wxs l) (i:Int)) (l.set n y) now t no) (fds : ∀ n k fd,AtW (wxs l) n k fd->0<=fd/\fd<=95) (hx:(wxs l)[n]?=some x) (hs:x.SameFd y.x):WW h' w s ow (l.set n y) now t no:=by
 have hat:=jiQ hx hs
 refine ⟨a.congr fun j _=>by rw [jbf,jjN hat],fun m k fd hm=>fds m k fd ?_⟩
 rw [jbf] at hm
 exact (hat m k fd).1 hm
end
def WSt (h:H) (w s:Nat) (ow:Nat->Nat) (ws:Ws) (now:Int) (t:Tb) (no:Option (Nat × Nat)):Prop := ∃ l,WW h w s ow l now t no/\wxs l=ws
structure To (h h':H) (ow ow':Nat->Nat):Prop where
 ch:Ch (fun j=>ow j≠0) h h'
 tag : ∀ j,j<h.nx->ow' j=ow j
theorem To.refl (h:H) (ow:Nat->Nat):To h h ow ow:=⟨Ch.refl _ _,fun _ _=>rfl⟩
theorem To.trans {h h1 h2:H} {a b c:Nat->Nat} (x:To h h1 a b) (y:To h1 h2 b c):To h h2 a c :=
 ⟨x.ch.trans_new y.ch fun j hj hb=>by rw [x.tag j hj] at hb;exact hb,fun j hj=>by rw [y.tag j (zq hj x.ch.nx),x.tag j hj]⟩
theorem To.old {h h1 h2:H} {a b:Nat->Nat} (x:Old h h1) (y:To h1 h2 a b):To h h2 a b:=To.trans ⟨x.ch,fun _ _=>rfl⟩ y
theorem To.of_old {h h1:H} {a:Nat->Nat} (x:Old h h1):To h h1 a a:=⟨x.ch,fun _ _=>rfl⟩
theorem WSt.old {h h':H} {w s:Nat} {ow:Nat->Nat} {ws:Ws} {now:Int} {t:Tb} {no:Option (Nat × Nat)} (a:WSt h w s ow ws now t no) (o:Old h h'):WSt h' w s ow ws now t no:=by
 obtain ⟨l,a,e⟩:=a;exact ⟨l,a.old o,e⟩
theorem Old.ofCh {h h':H} (c:Ch (fun _=>False) h h'):Old h h':=⟨c.nx,fun j hj=>c.get j hj id⟩
theorem jcI {l:List WX} {n:Nat} {t:WX} (h:l[n]?=some t):l≠[]:=by rintro rfl;simp at h
theorem jdq {l:List WX} {n:Nat} {t:WX} (h:l[n]?=some t):(wps l)[n]?=some (.p t.wb 0):=by simp [h]
section
variable {h h':H} {w s:Nat} {ow:Nat->Nat} {f:Nat->Option (Nat × Nat)} {l:List WX} {now:Int} {tb:Tb} {no:Option (Nat × Nat)}
theorem WF.wat (a:WF h w s ow f l now tb no) (hl:l≠[]) : ∃ z c,WAt h w (wc f (.slice (some (z,0)) l.length c) s now no) s z l.length c (wps l)/\z<h.nx/\ow z=2:=by
 obtain ⟨sa,c,p1,p2⟩:=a.head
 obtain ⟨z,rfl,p3,p4,p5⟩:=p2 hl
 exact ⟨z,c,⟨p1,jfs rfl,jbd rfl,p5⟩,p3,p4⟩
theorem WW.fdat (a:WW h w s ow l now tb no) (u:Uniq (wxs l)) {n k m:Nat} {t:WX} (hat:AtW (wxs l) n k (m:Int)) (ht:l[n]?=some t) {wv:V} : FdAt (wc (fun i=>atS (wxs l) (i:Int)) wv s now no) (wps l) l.length m n k t.wb:=by
 have hm:=a.fds n k m hat
 have e:=jd5 u hat
 obtain ⟨_,_,hk⟩:=jo7 hat
 have c0 : ∀ j,j<3->(wc (fun i=>atS (wxs l) (i:Int)) wv s now no)[m*3+j]?=some (pc (some (n,k)) j):=fun j hj=>by
  rw [joO (i:=m) (j:=j) om hj rfl];show some (pc (atS (wxs l) (m:Int)) j)=_;rw [e]
 exact ⟨by omega,c0 0 om,c0 1 om,c0 2 om,x_lt ht,jdq ht,hk⟩
end
section
variable {cl:Nat->Call} (hcl:Sem cl) {h:H} {w s:Nat} {ow:Nat->Nat} {f:Nat->Option (Nat × Nat)} {l:List WX} {now:Int} {tb:Tb} {no:Option (Nat × Nat)}
include hcl
theorem jch {d:Nat} (hd:1<=d) (a:WF h w s ow f l now tb no):cl d (.fn F.jdA) [.p w 0] h=some (.bool false,h):=by
 obtain ⟨sa,c,p1,_⟩:=a.head
 exact jjV hcl hd p1 (jfs rfl)
theorem jlG {d:Nat} {fd:Int} (hd:2<=d) (a:WW h w s ow l now tb no) (hno : ∀ n k,¬ AtW (wxs l) n k fd) :
  ∃ h',cl d (.fn F.jbx) [.p w 0,.i fd] h=some (.tup [.agg [.bool false,.i 0,.i 0],.ptr none,.i 110],h')/\Old h h'/\h'.nx=h.nx+1:=by
 have o1:Old h (h.new (.cells [.bool false,.i 0,.i 0] false)):=(Old.refl h).new
 have hn:=jch hcl (d:=d-1) om (a.wf.old o1)
 obtain ⟨sa,c,hw,_⟩:=(a.wf.old o1).head
 refine jal (at_ hcl om rfl rfl rfl ?_)
 refine qo1 ?_
 refine Ops.make rfl rfl ?_
 by_cases h1:fd<0
 ·refine qx1 ?_
  refine Ops.storeN rfl rfl rfl rfl (jac _) (zr rfl) ?_
  refine qx1 ?_
  refine zcf (resN rfl (jab _) (zr rfl) rfl) ?_
  exact ⟨rfl,o1.set om,rfl⟩
 by_cases h2:95<fd
 ·refine qx1 ?_
  refine Ops.storeN rfl rfl rfl rfl (jac _) (zr rfl) ?_
  refine qx1 ?_
  refine zcf (resN rfl (jab _) (zr rfl) rfl) ?_
  exact ⟨rfl,o1.set om,rfl⟩
 obtain ⟨m,rfl⟩:=zx (by omega:0<=fd)
 have e:atS (wxs l) (m:Int)=none:=jfj hno
 have f2:(wc (fun i=>atS (wxs l) (i:Int)) (.slice sa l.length c) s now no)[0+0+(m:Int).toNat*3+0]?=some (.bool false):=by
  rw [joO (i:=m) (j:=0) om om om]
  show some (pc (atS (wxs l) (m:Int)) 0)=_;rw [e];rfl
 refine qx1 ?_
 refine Ops.storeN rfl rfl rfl rfl (jac _) (zr rfl) ?_
 refine qx1 ?_
 refine zcf (resN rfl (jab _) (zr rfl) rfl) ?_
 exact ⟨rfl,o1.set om,rfl⟩
theorem jdc {d:Nat} {fd:Int} (hd:2<=d) (a:WW h w s ow l now tb no) (u:Uniq (wxs l)) :
  ((∀ n k,¬ AtW (wxs l) n k fd) /\ ∃ h',cl d (.fn F.jbx) [.p w 0,.i fd] h=some (.tup [.agg [.bool false,.i 0,.i 0],.ptr none,.i 110],h')/\Old h h'/\h'.nx=h.nx+1) \/
  ∃ (n k m:Nat) (t:WX),fd=m/\m<=95/\AtW (wxs l) n k fd/\l[n]?=some t/\(k=0\/k=1) /\ ∃ h',cl d (.fn F.jbx) [.p w 0,.i fd] h=some (.tup [.agg [.bool true,.i (n:Int),.i (k:Int)],.p t.wb 0,.i 0],h')/\Old h h'/\h'.nx=h.nx+1:=by
 by_cases hex : ∃ p:Nat × Nat,AtW (wxs l) p.1 p.2 fd
 ·obtain ⟨⟨n,k⟩,hat⟩:=hex
  have hat:AtW (wxs l) n k fd:=hat
  have hm:=a.fds n k fd hat
  obtain ⟨m,rfl⟩:=zx hm.1
  obtain ⟨x,hx,hk⟩:=jo7 hat
  obtain ⟨t,ht,_⟩:=jiB hx
  obtain ⟨z,c,A,lz,_⟩:=a.wf.wat (jcI ht)
  obtain ⟨h',e1,e2,e3⟩:=jjW hcl hd A (a.fdat u hat ht) a.wf.lw lz
  exact .inr ⟨n,k,m,t,rfl,by omega,hat,ht,hk,h',e1,Old.ofCh e2,e3⟩
 ·have hno : ∀ n k,¬ AtW (wxs l) n k fd:=fun n k hat=>hex ⟨(n,k),hat⟩
  exact .inl ⟨hno,jlG hcl hd a hno⟩
theorem jeE {d:Nat} {n:Int} (hd:2<=d) (a:WF h w s ow f l now tb no) :
  ((∀ x,¬ OutW (wxs l) n x)/\cl d (.fn F.jcf) [.p w 0,.i n] h=some (.tup [.ptr none,.i 116],h)) \/
  ∃ (m:Nat) (t:WX),n=m/\l[m]?=some t/\t.x.e1.what=2/\cl d (.fn F.jcf) [.p w 0,.i n] h=some (.tup [.p t.wb 0,.i 0],h):=by
 have hn:=jch hcl (d:=d-1) om a
 obtain ⟨sa,c,hw,hz⟩:=a.head
 have f1:(wc f (.slice sa l.length c) s now no)[0+288]?=some (.slice sa l.length c):=jbd rfl
 by_cases h1:n<0
 ·refine .inl ⟨fun x hx=>by have:=hx.1;omega,jak (at_ hcl om rfl rfl rfl ?_)⟩
  refine qx1 ?_
  exact ⟨rfl,rfl⟩
 by_cases h2:(l.length:Int)<=n
 ·refine .inl ⟨fun x hx=>?_,jak (at_ hcl om rfl rfl rfl ?_)⟩
  ·have:=hx.2.1
   rw [zc Zc] at this;cases this
  refine qx1 ?_
  exact ⟨rfl,rfl⟩
 obtain ⟨m,rfl⟩:=zx (by omega:0<=n)
 have ht:l[m]?=some l[m]:=za om
 generalize l[m]=t at ht
 obtain ⟨z,rfl,lz,oz,hb⟩:=hz (jcI ht)
 have f2:(wps l)[0+(m:Int).toNat*1]?=some (.p t.wb 0):=by rw [show 0+(m:Int).toNat*1=m by omega];exact jdq ht
 have f3:(t.x.cells t.r0 t.r1 t.wv)[0+0+(1:Int).toNat*7+0]?=some (.i t.x.e1.what):=Wi.what_cell (k:=1) (.inr rfl) rfl
 have hx:=(a.ok m t ht).hx
 unfold Wi.obj at hx
 by_cases h3:t.x.e1.what=2
 ·refine .inr ⟨m,t,rfl,ht,h3,jak (at_ hcl om rfl rfl rfl ?_)⟩
  refine qx1 ?_
  exact ⟨rfl,rfl⟩
 ·refine .inl ⟨fun x hx=>?_,jak (at_ hcl om rfl rfl rfl ?_)⟩
  ·have e:=hx.2.1
   rw [zu,jam ht] at e
   cases e
   exact h3 hx.2.2
  refine qx1 ?_
  exact ⟨rfl,rfl⟩
end
section
variable {cl:Nat->Call} (hcl:Sem cl)
include hcl
theorem wr_out {d b4 b8 b9 b10 wb cap rk ro:Nat} {g:H} {own oth:En} {wl:List V} {rst i hup:Bool} {a c:Int} (hd:3<=d) (g4:g.get b4=some jfR) (g8:g.get b8=some (.cells (own.cells rk) false)) (g9:g.get b9=some (.cells (oth.cells ro) false))
  (g10:g.get b10=some (.cells [.bool true,.bool i,.bool false,.bool hup,.bool rst,.int .u64 a,.int .u64 c] false)) (gx:g.get wb=some (.cells wl false)) (hx:wl[0+14]?=some (.bool rst)) (n1:b4≠b10) (n2:b8≠b10) (n3:b9≠b10) (n4:wb≠b10)
  (hR:own.writes=true -> ∃ q b,oth.ring=some q/\ja2 g ro b q cap) :
  Run (cl (d-1)) fuel c67_0 [] [(4,.p b4 0),(6,.p wb 0),(8,.p b8 0),(9,.p b9 0),(10,.p b10 0)] g
   (Fin c67.res fun v' h'=>v' = .agg [.bool true,.bool i,.bool (own.writes && !own.shut&&(decide (((oth.ring.getD []).length:Int)<cap)||hup||rst)),.bool hup,.bool rst,.int .u64 a,.int .u64 c]/\Ch (fun j=>j=b4\/j=b10) g h'):=by
 obtain ⟨w0,f0,q0,wr0,s0,i0,o0⟩:=own
 obtain ⟨w1,f1,q1,wr1,s1,i1,o1⟩:=oth
 simp only [En.cells] at g8 g9
 cases wr0
 case false=>
  refine qm1 ?_
  exact je6 rfl (jab _) rfl ⟨rfl,(Ch.set (.inr rfl)).trans (Ch.set (.inl rfl))⟩
 obtain ⟨q,b,hq,R⟩:=hR rfl
 have hq:q1=some q:=hq
 subst hq
 simp only [En.ptr] at g9
 cases s0
 case true=>
  refine qm1 ?_
  exact je6 rfl (jab _) rfl ⟨rfl,(Ch.set (.inr rfl)).trans (Ch.set (.inl rfl))⟩
 cases hup
 case true=>
  refine qm1 ?_
  exact je6 rfl (jab _) rfl ⟨by simp [jax],(Ch.set (.inr rfl)).trans (Ch.set (.inl rfl))⟩
 cases rst
 case true=>
  refine qm1 ?_
  exact je6 rfl (jab _) rfl ⟨by simp [jax],(Ch.set (.inr rfl)).trans (Ch.set (.inl rfl))⟩
 obtain ⟨buf,frm,inn,out,C,V⟩:=R
 have hroom:=jnd hcl (d:=d-1) om C V.fit V.small
 have e1:decide (0<((cap-q.length:Nat):Int))=decide ((q.length:Int)<cap):=by
  have:=V.fit
  by_cases h1:(q.length:Int)<cap
  ·rw [decide_eq_true h1,decide_eq_true om]
  ·rw [decide_eq_false h1,decide_eq_false om]
 clear C V hR
 refine qm1 ?_
 rw [e1]
 exact je6 rfl (jab _) rfl ⟨by simp [jax],(Ch.set (.inr rfl)).trans (Ch.set (.inl rfl))⟩
theorem Fin.mono {res:List RV} {R R':V->H->Prop} {x:Ex} {e:Env} {h:H} (k:Fin res R x e h) (hR : ∀ v,R v h->R' v h):Fin res R' x e h:=by
 obtain ⟨p1,l,p2,p3⟩:=k;exact ⟨p1,l,p2,hR _ p3⟩
theorem wr_in {d b4 b5 b8 b9 b10 r0 r1 bo k n t0:Nat} {g:H} {x:Wi} {wv:V} {hup:Bool} (hd:3<=d) (hk:k=0\/k=1) (g4:g.get b4=some jfR) (g5:g.get b5=some (.cells [.bool true,.i (n:Int),.i (k:Int)] false)) (g8:g.get b8=some (.cells ((x.e k).cells (two r0 r1 k)) false)) (g9:g.get b9=some (.cells ((x.e (1-k)).cells (two r0 r1 (1-k))) false))
  (g10:g.get b10=some (.cells [.bool true,.bool false,.bool false,.bool hup,.bool x.reset,.int .u64 (x.e k).inn,.int .u64 (x.e k).out] false)) (gx:g.get t0=some (x.obj r0 r1 wv)) (n1:b4≠b10) (n2:b8≠b10) (n3:b9≠b10) (n4:t0≠b10)
  (hhup:hup=((x.e (1-k)).what == 3)) (hO : ∀ q,(x.e k).ring=some q->ja2 g (two r0 r1 k) bo q x.cap) (hR:(x.e k).writes=true -> ∃ q bt,(x.e (1-k)).ring=some q/\ja2 g (two r0 r1 (1-k)) bt q x.cap/\two r0 r1 (1-k)≠b10/\bt≠b10) :
  Run (cl (d-1)) fuel c67_1 [] [(4,.p b4 0),(5,.p b5 0),(6,.p t0 0),(8,.p b8 0),(9,.p b9 0),(10,.p b10 0)] g
   (Fin c67.res fun v' h'=>v' = .agg [.bool true,.bool (x.rIn k),.bool (x.rOut k),.bool ((x.e (1-k)).what == 3),.bool x.reset,.int .u64 (x.e k).inn,.int .u64 (x.e k).out]/\Ch (fun j=>j=b4\/j=b10) g h'):=by
 refine Run.seq (Run.cut (fun y e' g'=>y = .normal/\e'=[(4,.p b4 0),(6,.p t0 0),(8,.p b8 0),(9,.p b9 0),(10,.p b10 0)] /\
  Upd b10 (.cells [.bool true,.bool (x.rIn k),.bool false,.bool hup,.bool x.reset,.int .u64 (x.e k).inn,.int .u64 (x.e k).out] false) g g') ?_ ?_)
 case refine_2=>
  rintro _ _ g' ⟨rfl,rfl,u⟩
  refine End.seq ?_
  have:=wr_out hcl (d:=d) (cap:=x.cap) (wl:=x.cells r0 r1 wv) hd (by rw [u.get _ n1,g4]) (by rw [u.get _ n2,g8]) (by rw [u.get _ n3,g9]) u.self (by rw [u.get _ n4,gx];rfl) (Wi.reset_cell rfl) n1 n2 n3 n4 fun hw=>by
   obtain ⟨q,bt,q1,q2,n6,n7⟩:=hR hw
   exact ⟨q,bt,q1,q2.keep (u.get _ n6) (u.get _ n7)⟩
  refine Run.fin_mono this fun v h' ⟨p1,p2⟩=>⟨?_,(u.ch (.inr rfl)).trans p2⟩
  rw [p1,hhup];rfl
 have hsil:=jiS hcl (d:=d-1) om gx hk
 have hx14:=Wi.reset_cell (x:=x) (r0:=r0) (r1:=r1) (wv:=wv) (o:=0+14) rfl
 unfold Wi.obj at gx
 have hrin:x.rIn k=match (x.e k).ring with
  | none=>false
  | some q=>!q.isEmpty||x.silent k||x.reset:=by
  unfold Wi.rIn Wi.silent
  cases (x.e k).ring with
  | none=>rfl
  | some q=>simp [Bool.or_assoc]
 rw [hrin]
 clear hrin hR
 cases hring:(x.e k).ring with
 | none=>
  have c8:((x.e k).cells (two r0 r1 k))[0+2]?=some (.ptr none):=by simp [En.cells,hring,En.ptr]
  refine qm1 ?_
  exact End.nil ⟨rfl,rfl,Upd.set⟩
 | some q=>
  have c8:((x.e k).cells (two r0 r1 k))[0+2]?=some (.p (two r0 r1 k) 0):=by simp [En.cells,hring,En.ptr]
  obtain ⟨buf,frm,inn,out,C,V⟩:=hO q hring
  have hlen:=jkZ hcl (d:=d-1) om C
  clear C V hO
  cases q with
  | cons y q=>
   have hpos:0<(((y :: q:List UInt8).length:Nat):Int):=by simp
   have eT:decide (0<(((y :: q:List UInt8).length:Nat):Int))=true:=decide_eq_true hpos
   refine qm1 ?_
   exact End.nil ⟨rfl,rfl,Upd.set⟩
  | nil=>
   have hlen:cl (d-1) (.fn F.jeP) [.p (two r0 r1 k) 0] g=some (.i 0,g):=hlen
   cases hsl:x.silent k
   ·rw [hsl] at hsil
    cases hrs:x.reset
    ·rw [hrs] at hx14 g10
     refine qm1 ?_
     exact End.nil ⟨rfl,rfl,Upd.set⟩
    ·rw [hrs] at hx14 g10
     refine qm1 ?_
     exact End.nil ⟨rfl,rfl,Upd.set⟩
   ·rw [hsl] at hsil
    refine qm1 ?_
    exact End.nil ⟨rfl,rfl,Upd.set⟩
end
section
variable {x:Wi} {k m:Nat} {q:List UInt8}
theorem Wi.take_self (hk:k=0\/k=1):((x.take k m q).e k).ring=some (q.drop m):=by
 rcases hk with rfl | rfl<;>simp [Wi.take,Wi.setq,Wi.came,Wi.put,Wi.e,En.came]
theorem Wi.take_other (hk:k=0\/k=1):((x.take k m q).e (1-k)).ring=(x.e (1-k)).ring:=by
 rcases hk with rfl | rfl<;>simp [Wi.take,Wi.setq,Wi.came,Wi.put,Wi.e,En.came]
theorem Wi.take_same (hk:k=0\/k=1):x.SameFd (x.take k m q):=by
 rintro i (rfl | rfl)<;>rcases hk with rfl | rfl<;>exact ⟨Iff.rfl,fun _=>rfl⟩
theorem Wi.take_wait (hk:k=0\/k=1):(x.take k m q).waiting=x.waiting:=by rcases hk with rfl | rfl<;>rfl
theorem Wi.take_cap (hk:k=0\/k=1):(x.take k m q).cap=x.cap:=by rcases hk with rfl | rfl<;>rfl
theorem Wi.setq_eq (hk:k=0\/k=1) (hq:(x.e k).ring=some q):x.setq k q=x:=by
 obtain ⟨⟨w0,f0,q0,wr0,s0,i0,o0⟩,⟨w1,f1,q1,wr1,s1,i1,o1⟩,cap,rs,bl,wt⟩:=x
 rcases hk with rfl | rfl<;>simp only [Wi.e] at hq<;>simp [Wi.setq,Wi.put,Wi.e,hq]
theorem Wi.take_zero (hk:k=0\/k=1) (hq:(x.e k).ring=some q):x.take k 0 q=x:=by
 unfold Wi.take
 rw [zj,Wi.setq_eq hk hq]
 exact Wi.came_ff x _
theorem jid {α : Type} {l:List α} {n:Nat} {x : α} (h:l[n]?=some x):l.set n x=l:=by
 apply List.ext_getElem?
 intro i
 rw [zh]
 by_cases e:n=i
 ·subst e
  have:n<l.length:=by
   rcases zw n l.length with h1 | h1
   ·exact h1
   ·rw [zc h1] at h;cases h
  rw [if_pos rfl,if_pos this,h]
 ·rw [if_neg e]
theorem jeU {i k:Nat} (hi:i=0\/i=1) (hk:k=0\/k=1) (h:i≠k):i=1-k:=by omega
end
section
variable {h h':H} {w s:Nat} {ow:Nat->Nat} {f:Nat->Option (Nat × Nat)} {l:List WX} {now:Int} {tb:Tb} {no:Option (Nat × Nat)} {n k m:Nat} {t:WX} {q:List UInt8}
theorem WF.take (a:WF h w s ow f l now tb no) (ht:l[n]?=some t) (hk:k=0\/k=1) (hq:(t.x.e k).ring=some q) (ch:Ch (fun j=>j=t.wb\/j=t.r k) h h') (ho:h'.get t.wb=some ((t.x.take k m q).obj t.r0 t.r1 t.wv)) (hR:ja2 h' (t.r k) (t.b k) (q.drop m) t.x.cap) :
  WF h' w s ow f (l.set n { t with x:=t.x.take k m q }) now tb no:=by
 have X:=a.ok n t ht
 have hox:=X.ox
 obtain ⟨_,o1,_⟩:=X.ring k hk q hq
 refine a.step ht ch (fun j _ hb=>?_) ho (Wi.take_wait hk) fun i hi q' hq'=>?_
 ·rcases hb with rfl | rfl<;>omega
 ·rw [Wi.take_cap hk]
  by_cases hik:i=k
  ·subst hik
   rw [Wi.take_self hk] at hq'
   cases hq'
   exact ⟨q,hq,hR⟩
  ·obtain rfl:=jeU hi hk hik
   rw [Wi.take_other hk] at hq'
   obtain ⟨p1,p2,p3,p4,p5⟩:=X.ring _ hi q' hq'
   refine ⟨q',hq',p1.keep (ch.get _ p4 ?_) (ch.get _ p5 ?_)⟩
   ·rintro (e | e)
    ·rw [e] at p2;omega
    ·rw [e] at p2;omega
   ·rintro (e | e)
    ·rw [e] at p3;omega
    ·rw [e] at p3;omega
theorem VB.ofRow2 {v:V} {N:Nat} {b:List UInt8} (r:Row N h 1 v b.length (bts b)):VB h v b /\ ∀ z,v.at?=some z->N<=z:=by
 obtain ⟨p1,p2⟩:=VB.ofRow r
 exact ⟨p1,fun z hz=>(p2 z hz).1⟩
theorem jkU {q:List UInt8} {n:Int} : (q.take (min n (q.length:Int)).toNat).length=(min n (q.length:Int)).toNat:=by simp;omega
theorem XOk.apart (a:XOk h ow n t) (hk:k=0\/k=1) (hq:(t.x.e k).ring=some q):ja2 h (t.r k) (t.b k) q t.x.cap/\t.r k<h.nx/\t.b k<h.nx/\t.r k≠t.b k/\t.wb≠t.r k/\t.wb≠t.b k:=by
 have o0:=a.ox
 obtain ⟨p1,p2,p3,p4,p5⟩:=a.ring k hk q hq
 refine ⟨p1,p4,p5,fun e=>?_,fun e=>?_,fun e=>?_⟩
 ·rw [e] at p2;omega
 ·rw [e] at o0;omega
 ·rw [e] at o0;omega
end
section
variable {cl:Nat->Call} (hcl:Sem cl) {h:H} {w s:Nat} {ow:Nat->Nat} {ws:Ws} {now:Int} {tb:Tb} {no:Option (Nat × Nat)}
include hcl
theorem ww_Read {d:Nat} {fd many:Int} (hd:10<=d) (a:WSt h w s ow ws now tb no) (o:WsOk ws) :
  ∃ v h',cl d (.fn F.jaN) [.p w 0,.i fd,.i many] h=some (.tup [v,.bool (jbX ws fd many).1.2.1,.i (jbX ws fd many).1.2.2],h')/\VB h' v (jbX ws fd many).1.1/\(∀ z,v.at?=some z->h.nx<=z)/\WSt h' w s ow (jbX ws fd many).2 now tb no/\To h h' ow ow:=by
 obtain ⟨l,a,rfl⟩:=a
 rcases jdc hcl (d:=d-1) (fd:=fd) om a o.uniq with ⟨hno,h1,e1,o1,x1⟩ | ⟨n,k,m,t,rfl,hm,hat,ht,hk,h1,e1,o1,x1⟩
 ·have hS:jbX (wxs l) fd many=(([],false,110),wxs l):=jaH hno
  rw [hS]
  suffices q : ∃ v' h',cl d (.fn F.jaN) [.p w 0,.i fd,.i many] h=some (v',h')/\v' = .tup [.nils,.bool false,.i 110]/\Old h h' by
   obtain ⟨_,h',e,rfl,q⟩:=q
   exact ⟨.nils,h',e,VB.nil _,fun z hz=>(by cases hz),⟨l,a.old q,rfl⟩,To.of_old q⟩
  refine at_ hcl om rfl rfl rfl ?_
  refine qm1 ?_
  exact ⟨rfl,o1.new.set o1.1⟩
 have X:=a.wf.ok n t ht
 have hS:jbX (wxs l) (m:Int) many=_:=jaI o.uniq hat (jam ht)
 cases hring:(t.x.e k).ring with
 | none=>
  simp only [hring] at hS
  rw [hS]
  suffices q : ∃ v' h',cl d (.fn F.jaN) [.p w 0,.i m,.i many] h=some (v',h')/\v' = .tup [.nils,.bool false,.i 111]/\Old h h' by
   obtain ⟨_,h',e,rfl,q⟩:=q
   exact ⟨.nils,h',e,VB.nil _,fun z hz=>(by cases hz),⟨l,a.old q,rfl⟩,To.of_old q⟩
  have hx1:h1.get t.wb=some (.cells (t.x.cells t.r0 t.r1 t.wv) false):=by rw [o1.2 _ X.lx];exact X.hx
  have lx:=X.lx
  have f1:(t.x.cells t.r0 t.r1 t.wv)[0+0+(k:Int).toNat*7+2]?=some (.ptr none):=by
   rcases hk with rfl | rfl
   ·have hring:t.x.e0.ring=none:=hring
    simp [Wi.cells,En.cells,hring,En.ptr]
   ·have hring:t.x.e1.ring=none:=hring
    simp [Wi.cells,En.cells,hring,En.ptr]
  refine at_ hcl om rfl rfl rfl ?_
  refine qm1 ?_
  exact ⟨rfl,o1.new.set o1.1⟩
 | some q=>
  simp only [hring] at hS
  have f2:=Wi.ring_cell (x:=t.x) (r0:=t.r0) (r1:=t.r1) (wv:=t.wv) hk hring (o:=0+0+(k:Int).toNat*7+2) om
  have hx1:h1.get t.wb=some (.cells (t.x.cells t.r0 t.r1 t.wv) false):=by rw [o1.2 _ X.lx];exact X.hx
  have lx:=X.lx
  by_cases hm1:many<1
  ·rw [if_pos hm1] at hS
   rw [hS]
   suffices q : ∃ v' h',cl d (.fn F.jaN) [.p w 0,.i m,.i many] h=some (v',h')/\v' = .tup [.nils,.bool false,.i 2]/\Old h h' by
    obtain ⟨_,h',e,rfl,q⟩:=q
    exact ⟨.nils,h',e,VB.nil _,fun z hz=>(by cases hz),⟨l,a.old q,rfl⟩,To.of_old q⟩
   refine at_ hcl om rfl rfl rfl ?_
   refine qm1 ?_
   exact ⟨rfl,o1.new.set o1.1⟩
  rw [if_neg hm1] at hS
  cases hrs:t.x.reset
  case true=>
   rw [hrs,if_pos rfl] at hS
   rw [hS]
   suffices q : ∃ v' h',cl d (.fn F.jaN) [.p w 0,.i m,.i many] h=some (v',h')/\v' = .tup [.nils,.bool false,.i 115]/\Old h h' by
    obtain ⟨_,h',e,rfl,q⟩:=q
    exact ⟨.nils,h',e,VB.nil _,fun z hz=>(by cases hz),⟨l,a.old q,rfl⟩,To.of_old q⟩
   have f1:(t.x.cells t.r0 t.r1 t.wv)[0+14]?=some (.bool true):=by rw [<- hrs];exact Wi.reset_cell rfl
   refine at_ hcl om rfl rfl rfl ?_
   refine qm1 ?_
   exact ⟨rfl,o1.new.set o1.1⟩
  rw [hrs,if_neg Zd] at hS
  obtain ⟨p1,p2,p3,p4,p5,p6⟩:=X.apart hk hring
  obtain ⟨z,c,A,lz,oz⟩:=a.wf.wat (jcI ht)
  obtain ⟨v,h',e,row,hnil,r1,r2,r3⟩:=wp_Read hcl (d:=d) (t:=many) om A (a.fdat o.uniq hat ht) X.hx hrs om hring p1 a.wf.lw lz X.lx p2 p3 p4 p5 p6
  have W:=a.wf.take ht hk hring r3 r1 r2
  have W2:=WF.same W a.fds (jam ht) (Wi.take_same hk)
  have T:To h h' ow ow:=⟨r3.weaken fun j hj hb=>by
   have o1:=X.ox
   obtain ⟨_,o2,_⟩:=X.ring k hk q hring
   rcases hb with rfl | rfl
   ·omega
   ·show ow (t.r k)≠0;omega,fun _ _=>rfl⟩
  have row:Row h.nx h' 1 v (q.take (min many (q.length:Int)).toNat).length (bts (q.take (min many (q.length:Int)).toNat)):=by rw [jkU];exact row
  obtain ⟨vb,vz⟩:=VB.ofRow2 row
  refine ⟨v,h',?_,?_,vz,⟨_,W2,?_⟩,T⟩
  ·rw [e,hS]
   by_cases hq:q=[]
   ·cases hsl:t.x.silent k<;>simp [hq]
   ·simp [hq]
  ·rw [hS]
   by_cases hq:q=[]
   ·subst hq
    cases hsl:t.x.silent k<;>simpa using vb
   ·rw [if_pos hq];exact vb
  ·rw [jbf,hS]
   by_cases hq:q=[]
   ·subst hq
    have:(wxs l).set n (t.x.take k (min many (([]:List UInt8).length:Int)).toNat [])=wxs l:=by
     rw [show (min many (([]:List UInt8).length:Int)).toNat=0 by simp;omega,Wi.take_zero hk hring]
     exact jid (jam ht)
    rw [this]
    cases hsl:t.x.silent k<;>simp
   ·rw [if_pos hq]
theorem ww_Take {d:Nat} {n many:Int} (hd:10<=d) (a:WSt h w s ow ws now tb no) (o:WsOk ws) :
  ∃ v h',cl d (.fn F.jbl) [.p w 0,.i n,.i many] h=some (.tup [v,.i (jc5 ws n many).1.2],h')/\VB h' v (jc5 ws n many).1.1/\(∀ z,v.at?=some z->h.nx<=z)/\WSt h' w s ow (jc5 ws n many).2 now tb no/\To h h' ow ow:=by
 obtain ⟨l,a,rfl⟩:=a
 rcases jeE hcl (d:=d-1) (n:=n) om a.wf with ⟨hno,e1⟩ | ⟨m,t,rfl,ht,h2,e1⟩
 ·have hS:jc5 (wxs l) n many=(([],116),wxs l):=jb2 hno
  rw [hS]
  suffices q : ∃ v' h',cl d (.fn F.jbl) [.p w 0,.i n,.i many] h=some (v',h')/\v' = .tup [.nils,.i 116]/\Old h h' by
   obtain ⟨_,h',e,rfl,q⟩:=q
   exact ⟨.nils,h',e,VB.nil _,fun z hz=>(by cases hz),⟨l,a.old q,rfl⟩,To.of_old q⟩
  refine at_ hcl om rfl rfl rfl ?_
  refine qm1 ?_
  exact ⟨rfl,Old.refl _⟩
 have X:=a.wf.ok m t ht
 have hS:jc5 (wxs l) (m:Int) many=_:=jb3 (jam ht) h2
 have hx:=X.hx
 unfold Wi.obj at hx
 by_cases hm:many<0
 ·rw [if_pos hm] at hS;rw [hS]
  suffices q : ∃ v' h',cl d (.fn F.jbl) [.p w 0,.i m,.i many] h=some (v',h')/\v' = .tup [.nils,.i 2]/\Old h h' by
   obtain ⟨_,h',e,rfl,q⟩:=q
   exact ⟨.nils,h',e,VB.nil _,fun z hz=>(by cases hz),⟨l,a.old q,rfl⟩,To.of_old q⟩
  refine at_ hcl om rfl rfl rfl ?_
  refine qm1 ?_
  exact ⟨rfl,Old.refl _⟩
 rw [if_neg hm] at hS
 cases hrs:t.x.reset
 case true=>
  rw [hrs,if_pos rfl] at hS;rw [hS]
  suffices q : ∃ v' h',cl d (.fn F.jbl) [.p w 0,.i m,.i many] h=some (v',h')/\v' = .tup [.nils,.i 115]/\Old h h' by
   obtain ⟨_,h',e,rfl,q⟩:=q
   exact ⟨.nils,h',e,VB.nil _,fun z hz=>(by cases hz),⟨l,a.old q,rfl⟩,To.of_old q⟩
  have f1:(t.x.cells t.r0 t.r1 t.wv)[0+14]?=some (.bool true):=by rw [<- hrs];exact Wi.reset_cell rfl
  refine at_ hcl om rfl rfl rfl ?_
  refine qm1 ?_
  exact ⟨rfl,Old.refl _⟩
 rw [hrs,if_neg Zd] at hS
 obtain ⟨q,hring⟩:=Option.ne_none_iff_exists'.1 ((o.ok _ (zb (jam ht))).out h2).2
 simp only [hring] at hS
 obtain ⟨p1,p2,p3,p4,p5,p6⟩:=X.apart (k:=1) (.inr rfl) hring
 obtain ⟨z,c,A,lz,oz⟩:=a.wf.wat (jcI ht)
 obtain ⟨v,h',e,row,hnil,r1,r2,r3⟩:=wp_Take hcl (d:=d) (t:=many) om A (x_lt ht) (jdq ht) X.hx h2 hrs om hring p1 X.lx p2 p3 p4 p5 p6
 have W:=a.wf.take ht (k:=1) (.inr rfl) hring r3 r1 r2
 have W2:=WF.same W a.fds (jam ht) (Wi.take_same (.inr rfl))
 have T:To h h' ow ow:=⟨r3.weaken fun j hj hb=>by
  have o1:=X.ox
  obtain ⟨_,o2,_⟩:=X.ring 1 (.inr rfl) q hring
  rcases hb with rfl | rfl
  ·omega
  ·show ow (t.r 1)≠0;omega,fun _ _=>rfl⟩
 have row:Row h.nx h' 1 v (q.take (min many (q.length:Int)).toNat).length (bts (q.take (min many (q.length:Int)).toNat)):=by rw [jkU];exact row
 obtain ⟨vb,vz⟩:=VB.ofRow2 row
 rw [hS]
 exact ⟨v,h',e,vb,vz,⟨_,W2,jbf⟩,T⟩
theorem ww_Wire {d:Nat} {fd:Int} (hd:3<=d) (a:WSt h w s ow ws now tb no) (o:WsOk ws) :
  ∃ h',cl d (.fn F.jfT) [.p w 0,.i fd] h=some (.tup [.i (jhl ws fd).1,.i (jhl ws fd).2],h')/\Old h h':=by
 obtain ⟨l,a,rfl⟩:=a
 rcases jdc hcl (d:=d-1) (fd:=fd) om a o.uniq with ⟨hno,h1,e1,o1,x1⟩ | ⟨n,k,m,t,rfl,hm,hat,ht,hk,h1,e1,o1,x1⟩
 ·have hS:jhl (wxs l) fd=(0,110):=jaH hno
  rw [hS]
  refine jal (at_ hcl om rfl rfl rfl ?_)
  refine qm1 ?_
  exact ⟨rfl,o1.new.set o1.1⟩
 ·have hS:jhl (wxs l) (m:Int)=((n:Int),0):=jaI o.uniq hat (jam ht)
  rw [hS]
  refine jal (at_ hcl om rfl rfl rfl ?_)
  refine qm1 ?_
  exact ⟨rfl,o1.new.set o1.1⟩
end
theorem Wi.en_cells {x:Wi} {r0 r1 k o:Nat} {wv:V} (hk:k=0\/k=1) (ho:o=k*7):((x.cells r0 r1 wv).drop o).take 7=(x.e k).cells (two r0 r1 k):=by
 subst ho
 rcases hk with rfl | rfl<;>rfl
theorem En.cells_one (x:En) (r:Nat):(x.cells r).all V.one=true:=by
 obtain ⟨w,f,q,wr,s,i,o⟩:=x
 cases q<;>rfl
theorem chk_loadN {e:Env} {h:H} {d n:Nat} {a:Opd} {g:Option (Nat × Bool)} {r:List (Nat × I × Option (Nat × Bool))} {b o:Nat} {l:List V} {ro:Bool} {v:List V} (ha:a.ev e=some (.ptr (some (b,o)))) (hb:h.get b=some (.cells l ro)) (hn:o+n<=l.length)
  (hv:(l.drop o).take n=v) (hd:e.get d=some (.agg v)) (k:jaG e h r=true):jaG e h ((d,.loadN n a,g) :: r)=true:=by
 simp only [jaG,I.read,ha,jdg hb hn,hv,hd,V.same_refl,k,Bool.and_true]
 cases wanted e g<;>rfl
section
variable {cl:Nat->Call} (hcl:Sem cl)
include hcl
end
end Am.Sigs
