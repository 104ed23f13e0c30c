/- Our own library, part 24. -/
import Derived.Test.YtkcenemffnfoeaaGreatDoorR23
import Derived.Test.YtkcenemffnfoeaaGreatDoorR22
import Derived.Test.YtkcenemffnfoeaaGreatDoorR17
import Derived.Test.YtkcenemffnfoeaaGreatDoorR20
import Derived.Test.YtkcenemffnfoeaaGreatDoorR14
import Derived.Test.YtkcenemffnfoeaaGreatDoorR18
set_option maxHeartbeats 8000000
set_option linter.all false
namespace Am.Sigs
open Am Go
noncomputable def selS (ws:Ws) (F:Nat->Bool) (q:Rdy->Bool) (top:Int):Nat->Bool:=fun m=>F m&&decide ((m:Int)<top)&&q (rdyS ws (m:Int))
noncomputable def selK (ws:Ws) (F:Nat->Bool) (q:Rdy->Bool) (top:Int) (k:Nat):Nat->Bool:=fun m=>decide (m<k)&&selS ws F q top m
open Classical in
noncomputable def jbi (ws:Ws) (f g:Nat->Bool) (top:Int):Int:=if top<0\/64<top then 2 else if jcK ws f g top then 110 else 0
theorem jn3 (ws:Ws) (F:Nat->Bool) (q:Rdy->Bool) (top:Int):setV (selK ws F q top 0)=[.int .u32 0,.int .u32 0]:=by
 rw [<- jfg];exact jbx fun i _=>by simp [selK]
theorem selK_64 (ws:Ws) (F:Nat->Bool) (q:Rdy->Bool) (top:Int):setV (selK ws F q top 64)=setV (selS ws F q top):=jbx fun i hi=>by simp [selK,hi]
theorem jis {ws:Ws} {F:Nat->Bool} {q:Rdy->Bool} {top:Int} {k:Nat} (hk:selS ws F q top k=false):setV (selK ws F q top (k+1))=setV (selK ws F q top k):=jbx fun i _=>by
 unfold selK
 by_cases e:i=k
 ·rw [e,hk];simp
 ·rw [show decide (i<k+1)=decide (i<k) by simp;omega]
theorem jlc {ws:Ws} {F:Nat->Bool} {q:Rdy->Bool} {top:Int} {k:Nat} (hk:selS ws F q top k=true) (h64:k<64):setV (selK ws F q top (k+1))=setV (jl7 (selK ws F q top k) (k:Int)):=jbx fun i _=>by
 rw [jl7,if_pos (show fitS (k:Int) from ⟨by omega,by omega⟩),zw]
 unfold selK addS
 by_cases e:i=k
 ·rw [e,hk];simp
 ·rw [show decide (i<k+1)=decide (i<k) by simp;omega];simp [e]
theorem selS_not {ws:Ws} {f g:Nat->Bool} {top:Int} {m:Nat} (hk:askS f g top m=false):selS ws f inR top m=false/\selS ws g outR top m=false:=by
 simp only [askS,jcO,orS,Bool.and_eq_false_iff,Bool.or_eq_false_iff] at hk
 unfold selS
 rcases hk with ⟨a,b⟩ | c
 ·simp [a,b]
 ·simp [c]
theorem selS_is {ws:Ws} {f g:Nat->Bool} {top:Int} {m:Nat} (hk:askS f g top m=true):selS ws f inR top m=(f m&&inR (rdyS ws (m:Int)))/\selS ws g outR top m=(g m&&outR (rdyS ws (m:Int))):=by
 simp only [askS,jcO,zp] at hk
 unfold selS
 rw [hk.2];simp
theorem and_mask (a b c d:Bool):IntKind.i64.wrap ((BitVec.ofInt 64 ((if a then 2 else 0)+(if b then 4 else 0)) &&& BitVec.ofInt 64 ((if c then 2 else 0)+(if d then 4 else 0))).toNat:Int)=(if a&&c then 2 else 0)+(if b&&d then 4 else 0):=by
 cases a<;>cases b<;>cases c<;>cases d<;>decide
section
variable {cl:Nat->Call} (hcl:Sem cl) {h:H}
include hcl
variable {w s:Nat} {ow:Nat->Nat} {ws:Ws} {now:Int} {tb:Tb} {no:Option (Nat × Nat)} {f g:Nat->Bool}
omit hcl in
theorem jkj {d fuel b3 b4 b5:Nat} {H9:H} {vr vs:List V} {n er:Int} {Q:V->H->Prop} (k3:H9.get b3=some (.cells vr false)) (k4:H9.get b4=some (.cells vs false)) (k5:H9.get b5=some (.cells [.i n] false))
  (lr:vr.length=2) (ls:vs.length=2) (q:Q (.tup [.agg vr,.agg vs,.i n,.i er]) H9):End (cl d) fuel [] .ret [(8,.p b3 0),(9,.p b4 0),(10,.p b5 0),(11,.i er)] H9 (Fin c13.res Q):=by
 have e3 : ∀ v:List V,v.length=2->List.take 2 (List.drop 0 v)=v:=fun v hv=>by rw [zk,zh om]
 have r5:jdj [(8,.p b3 0),(9,.p b4 0),(10,.p b5 0),(11,.i er)] H9 [.cell1 10,.tmp 11]=some [.i n,.i er]:=by
  show (match H9.load1 b5 0,some [V.i er] with | some v,some l=>some (v :: l) | _,_=>none)=_
  rw [je0 k5 rfl]
 have r3:=resN (e:=[(8,.p b3 0),(9,.p b4 0),(10,.p b5 0),(11,.i er)]) (s:=8) (n:=2) rfl k3 om (resN (s:=9) (n:=2) rfl k4 om r5)
 rw [e3 vr lr,e3 vs ls] at r3
 exact End.fin2 r3 q
theorem jjd {d:Nat} {top:Int} (hd:11<=d) (a:WSt h w s ow ws now tb no) (o:WsOk ws) :
  ∃ (R S:Nat->Bool) (h':H),cl d (.fn F.jhG) [.p w 0,.i top,.agg (setV f),.agg (setV g)] h=some (.tup [.agg (setV R),.agg (setV S),.i ((cntS R 64+cntS S 64:Nat):Int),.i (jbi ws f g top)],h')/\Old h h' /\
   (jbi ws f g top=0->R=selS ws f inR top/\S=selS ws g outR top)/\(jbi ws f g top≠0->R=(fun _=>false)/\S=(fun _=>false)):=by
 suffices q : ∃ v' h',cl d (.fn F.jhG) [.p w 0,.i top,.agg (setV f),.agg (setV g)] h=some (v',h')/\Old h h' /\ ∃ vr vs n,v' = .tup [.agg vr,.agg vs,.i n,.i (jbi ws f g top)] /\
   (jbi ws f g top=0->vr=setV (selS ws f inR top)/\vs=setV (selS ws g outR top)/\n=((cntS (selS ws f inR top) 64+cntS (selS ws g outR top) 64:Nat):Int))/\(jbi ws f g top≠0->vr=[.int .u32 0,.int .u32 0]/\vs=[.int .u32 0,.int .u32 0]/\n=0) by
  obtain ⟨_,h',e,og,vr,vs,n,rfl,q1,q2⟩:=q
  by_cases hz:jbi ws f g top=0
  ·obtain ⟨rfl,rfl,rfl⟩:=q1 hz
   exact ⟨_,_,h',e,og,fun _=>⟨rfl,rfl⟩,fun h=>absurd hz h⟩
  ·obtain ⟨rfl,rfl,rfl⟩:=q2 hz
   refine ⟨fun _=>false,fun _=>false,h',?_,og,fun h=>absurd h hz,fun _=>⟨rfl,rfl⟩⟩
   rw [jfg,show cntS (fun _=>false) 64=0 from rfl];exact e
 have oH:Old h ((((((h.new (.cells [.p w 0] false)).new (.cells (setV f) false)).new (.cells (setV g) false)).new (.cells [.int .u32 0,.int .u32 0] false)).new (.cells [.int .u32 0,.int .u32 0] false)).new (.cells [.i 0] false)):=(Old.refl h).new.new.new.new.new.new
 have b0:((((((h.new (.cells [.p w 0] false)).new (.cells (setV f) false)).new (.cells (setV g) false)).new (.cells [.int .u32 0,.int .u32 0] false)).new (.cells [.int .u32 0,.int .u32 0] false)).new (.cells [.i 0] false)).get h.nx=some (.cells [.p w 0] false):=qgt
 have b1:((((((h.new (.cells [.p w 0] false)).new (.cells (setV f) false)).new (.cells (setV g) false)).new (.cells [.int .u32 0,.int .u32 0] false)).new (.cells [.int .u32 0,.int .u32 0] false)).new (.cells [.i 0] false)).get (h.nx+1)=some (.cells (setV f) false):=qgt
 have b2:((((((h.new (.cells [.p w 0] false)).new (.cells (setV f) false)).new (.cells (setV g) false)).new (.cells [.int .u32 0,.int .u32 0] false)).new (.cells [.int .u32 0,.int .u32 0] false)).new (.cells [.i 0] false)).get (h.nx+2)=some (.cells (setV g) false):=qgt
 have b3:((((((h.new (.cells [.p w 0] false)).new (.cells (setV f) false)).new (.cells (setV g) false)).new (.cells [.int .u32 0,.int .u32 0] false)).new (.cells [.int .u32 0,.int .u32 0] false)).new (.cells [.i 0] false)).get (h.nx+3)=some (.cells [.int .u32 0,.int .u32 0] false):=qgt
 have b4:((((((h.new (.cells [.p w 0] false)).new (.cells (setV f) false)).new (.cells (setV g) false)).new (.cells [.int .u32 0,.int .u32 0] false)).new (.cells [.int .u32 0,.int .u32 0] false)).new (.cells [.i 0] false)).get (h.nx+4)=some (.cells [.int .u32 0,.int .u32 0] false):=qgt
 have b5:((((((h.new (.cells [.p w 0] false)).new (.cells (setV f) false)).new (.cells (setV g) false)).new (.cells [.int .u32 0,.int .u32 0] false)).new (.cells [.int .u32 0,.int .u32 0] false)).new (.cells [.i 0] false)).get (h.nx+5)=some (.cells [.i 0] false):=qgt
 have x1:((((((h.new (.cells [.p w 0] false)).new (.cells (setV f) false)).new (.cells (setV g) false)).new (.cells [.int .u32 0,.int .u32 0] false)).new (.cells [.int .u32 0,.int .u32 0] false)).new (.cells [.i 0] false)).nx=h.nx+6:=rfl
 refine at_ hcl om rfl rfl rfl ?_
 refine Run.seq (Run.region0 (Ops.make rfl rfl (Ops.make rfl rfl (Ops.make rfl rfl (Ops.make rfl rfl (Ops.make rfl rfl (Ops.make rfl rfl (Ops.mv rfl (Ops.nil qkp (End.seq ?_))))))))))
 change Run (cl (d-1)) fuel _ _ [(1,.i top),(4,.p h.nx 0),(6,.p (h.nx+1) 0),(7,.p (h.nx+2) 0),(8,.p (h.nx+3) 0),(9,.p (h.nx+4) 0),(10,.p (h.nx+5) 0)] ((((((h.new (.cells [.p w 0] false)).new (.cells (setV f) false)).new (.cells (setV g) false)).new (.cells [.int .u32 0,.int .u32 0] false)).new (.cells [.int .u32 0,.int .u32 0] false)).new (.cells [.i 0] false)) _
 generalize (((((h.new (.cells [.p w 0] false)).new (.cells (setV f) false)).new (.cells (setV g) false)).new (.cells [.int .u32 0,.int .u32 0] false)).new (.cells [.int .u32 0,.int .u32 0] false)).new (.cells [.i 0] false)=H0 at oH b0 b1 b2 b3 b4 b5 x1 ⊢
 have ax:=a.old oH
 have hx1:=oH.1
 refine Run.seq ?_
 by_cases ht:top<0\/64<top
 ·have he:jbi ws f g top=2:=if_pos ht
  rw [he]
  clear a ax o he
  have ht2:top<0\/(¬ top<0/\64<top):=by omega
  rcases ht2 with h1 | ⟨h1,h2⟩
  all_goals
   repeat' (first|refine qxy ?_|refine zbf rfl (fun _=>?_) fun _=>?_|refine zbg rfl (fun _=>?_) fun _=>?_|refine zbh rfl (fun _=>?_) fun _=>?_|refine zbm rfl (fun _=>?_) fun _=>?_|refine zbn rfl (fun _=>?_) fun _=>?_)
   refine Ops.loadN rfl b3 (zu rfl) ?_
   refine Ops.loadN rfl b4 (zu rfl) ?_
   refine Ops.storeN_chk (b:=h.nx+3) (o:=0) (vs:=[.int .u32 0,.int .u32 0]) rfl rfl rfl rfl b3 (zu rfl) ?_ ?_
   ·exact jcL (b:=h.nx+4) (o:=0) (l:=[.int .u32 0,.int .u32 0]) (ro:=false) rfl (by rw [jaa om];exact b4) (zu rfl) rfl rfl ja2
   refine Ops.storeN (b:=h.nx+4) (o:=0) (vs:=[.int .u32 0,.int .u32 0]) rfl rfl rfl rfl (by rw [jaa om];exact b4) (zu rfl) ?_
   repeat' (first|refine qxy ?_|refine zbf rfl (fun _=>?_) fun _=>?_|refine zbg rfl (fun _=>?_) fun _=>?_|refine zbh rfl (fun _=>?_) fun _=>?_|refine zbm rfl (fun _=>?_) fun _=>?_|refine zbn rfl (fun _=>?_) fun _=>?_)
   refine Ops.store1 (b:=h.nx+5) (o:=0) (l:=[.i 0]) rfl rfl rfl (by rw [jaa om,jaa om];exact b5) Nat.zero_lt_one ?_
   have k3:(((H0.set (h.nx+3) (.cells [.int .u32 0,.int .u32 0] false)).set (h.nx+4) (.cells [.int .u32 0,.int .u32 0] false)).set (h.nx+5) (.cells [.i 0] false)).get (h.nx+3)=some (.cells [.int .u32 0,.int .u32 0] false):=by rw [jaa om,jaa om,jab]
   have k4:(((H0.set (h.nx+3) (.cells [.int .u32 0,.int .u32 0] false)).set (h.nx+4) (.cells [.int .u32 0,.int .u32 0] false)).set (h.nx+5) (.cells [.i 0] false)).get (h.nx+4)=some (.cells [.int .u32 0,.int .u32 0] false):=by rw [jaa om,jab]
   have k5:(((H0.set (h.nx+3) (.cells [.int .u32 0,.int .u32 0] false)).set (h.nx+4) (.cells [.int .u32 0,.int .u32 0] false)).set (h.nx+5) (.cells [.i 0] false)).get (h.nx+5)=some (.cells [.i 0] false):=jab _
   have o9:Old h (((H0.set (h.nx+3) (.cells [.int .u32 0,.int .u32 0] false)).set (h.nx+4) (.cells [.int .u32 0,.int .u32 0] false)).set (h.nx+5) (.cells [.i 0] false)):=((oH.set om).set om).set om
   change Ops _ _ _ _ _ _ _ (((H0.set (h.nx+3) (.cells [.int .u32 0,.int .u32 0] false)).set (h.nx+4) (.cells [.int .u32 0,.int .u32 0] false)).set (h.nx+5) (.cells [.i 0] false)) _
   generalize ((H0.set (h.nx+3) (.cells [.int .u32 0,.int .u32 0] false)).set (h.nx+4) (.cells [.int .u32 0,.int .u32 0] false)).set (h.nx+5) (.cells [.i 0] false)=H9 at k3 k4 k5 o9 ⊢
   repeat' (first|refine qxy ?_|refine zbf rfl (fun _=>?_) fun _=>?_|refine zbg rfl (fun _=>?_) fun _=>?_|refine zbh rfl (fun _=>?_) fun _=>?_|refine zbm rfl (fun _=>?_) fun _=>?_|refine zbn rfl (fun _=>?_) fun _=>?_)
   exact jkj k3 k4 k5 rfl rfl ⟨o9,_,_,_,rfl,fun e=>absurd e (by decide),fun _=>⟨rfl,rfl,rfl⟩⟩
 obtain ⟨n1,n2⟩ : ¬ top<0 /\ ¬ 64<top:=by omega
 obtain ⟨cb,h1,e1,hb,o1⟩:=sl_closed hcl (d:=d-1) (top:=top) (f:=f) (g:=g) (h:=H0) om ax o
 have c0:h1.get h.nx=some (.cells [.p w 0] false):=by rw [o1.2 _ om,b0]
 have c1:h1.get (h.nx+1)=some (.cells (setV f) false):=by rw [o1.2 _ om,b1]
 have c2:h1.get (h.nx+2)=some (.cells (setV g) false):=by rw [o1.2 _ om,b2]
 have c3:h1.get (h.nx+3)=some (.cells [.int .u32 0,.int .u32 0] false):=by rw [o1.2 _ om,b3]
 have c4:h1.get (h.nx+4)=some (.cells [.int .u32 0,.int .u32 0] false):=by rw [o1.2 _ om,b4]
 have c5:h1.get (h.nx+5)=some (.cells [.i 0] false):=by rw [o1.2 _ om,b5]
 have oX:=oH.trans o1
 have ay:=a.old oX
 have y1:=o1.1
 have hz:jbi ws f g top=if cb=true then 110 else 0:=by
  unfold jbi
  rw [if_neg ht]
  by_cases hc:jcK ws f g top
  ·rw [if_pos hc,if_pos (hb.2 hc)]
  ·rw [if_neg hc,if_neg (fun h=>hc (hb.1 h))]
 rw [hz]
 clear hb hz
 cases cb with
 | true=>
  rw [if_pos rfl]
  clear a ax ay o ht
  refine qx1 ?_
  refine Ops.loadN rfl b1 (zq _) ?_
  rw [show List.take 2 (List.drop 0 (setV f))=setV f from rfl]
  refine qx1 ?_
  refine Ops.loadN rfl b2 (zq _) ?_
  rw [show List.take 2 (List.drop 0 (setV g))=setV g from rfl]
  refine qx1 ?_
  refine Ops.loadN rfl c3 (zu rfl) ?_
  refine Ops.loadN rfl c4 (zu rfl) ?_
  refine Ops.storeN_chk (b:=h.nx+3) (o:=0) (vs:=[.int .u32 0,.int .u32 0]) rfl rfl rfl rfl c3 (zu rfl) ?_ ?_
  ·exact jcL (b:=h.nx+4) (o:=0) (l:=[.int .u32 0,.int .u32 0]) (ro:=false) rfl (by rw [jaa om];exact c4) (zu rfl) rfl rfl ja2
  refine Ops.storeN (b:=h.nx+4) (o:=0) (vs:=[.int .u32 0,.int .u32 0]) rfl rfl rfl rfl (by rw [jaa om];exact c4) (zu rfl) ?_
  refine Ops.store1 (b:=h.nx+5) (o:=0) (l:=[.i 0]) rfl rfl rfl (by rw [jaa om,jaa om];exact c5) Nat.zero_lt_one ?_
  have k3:(((h1.set (h.nx+3) (.cells [.int .u32 0,.int .u32 0] false)).set (h.nx+4) (.cells [.int .u32 0,.int .u32 0] false)).set (h.nx+5) (.cells [.i 0] false)).get (h.nx+3)=some (.cells [.int .u32 0,.int .u32 0] false):=by rw [jaa om,jaa om,jab]
  have k4:(((h1.set (h.nx+3) (.cells [.int .u32 0,.int .u32 0] false)).set (h.nx+4) (.cells [.int .u32 0,.int .u32 0] false)).set (h.nx+5) (.cells [.i 0] false)).get (h.nx+4)=some (.cells [.int .u32 0,.int .u32 0] false):=by rw [jaa om,jab]
  have k5:(((h1.set (h.nx+3) (.cells [.int .u32 0,.int .u32 0] false)).set (h.nx+4) (.cells [.int .u32 0,.int .u32 0] false)).set (h.nx+5) (.cells [.i 0] false)).get (h.nx+5)=some (.cells [.i 0] false):=jab _
  have o9:Old h (((h1.set (h.nx+3) (.cells [.int .u32 0,.int .u32 0] false)).set (h.nx+4) (.cells [.int .u32 0,.int .u32 0] false)).set (h.nx+5) (.cells [.i 0] false)):=((oX.set om).set om).set om
  change Ops _ _ _ _ _ _ _ (((h1.set (h.nx+3) (.cells [.int .u32 0,.int .u32 0] false)).set (h.nx+4) (.cells [.int .u32 0,.int .u32 0] false)).set (h.nx+5) (.cells [.i 0] false)) _
  generalize ((h1.set (h.nx+3) (.cells [.int .u32 0,.int .u32 0] false)).set (h.nx+4) (.cells [.int .u32 0,.int .u32 0] false)).set (h.nx+5) (.cells [.i 0] false)=H9 at k3 k4 k5 o9 ⊢
  refine qx1 ?_
  exact jkj k3 k4 k5 rfl rfl ⟨o9,_,_,_,rfl,fun e=>absurd e (by decide),fun _=>⟨rfl,rfl,rfl⟩⟩
 | false=>
  rw [if_neg (by decide)]
  refine qx1 ?_
  refine Ops.loadN rfl b1 (zq _) ?_
  rw [show List.take 2 (List.drop 0 (setV f))=setV f from rfl]
  refine qx1 ?_
  refine Ops.loadN rfl b2 (zq _) ?_
  rw [show List.take 2 (List.drop 0 (setV g))=setV g from rfl]
  refine qx1 ?_
  refine Ops.loadN rfl c1 (zq _) ?_
  rw [show List.take 2 (List.drop 0 (setV f))=setV f from rfl]
  refine qx1 ?_
  refine Ops.loadN rfl c2 (zq _) ?_
  rw [show List.take 2 (List.drop 0 (setV g))=setV g from rfl]
  refine qx1 ?_
  refine Ops.callf rfl (jlb hcl (d:=d-1) (f:=f) (g:=g) om) ?_
  refine qx1 ?_
  have oH2:Old h (((h1.new (.cells [.i top] false)).new (.cells (setV f) false)).new (.cells (setV g) false)):=oX.new.new.new
  have d0:(((h1.new (.cells [.i top] false)).new (.cells (setV f) false)).new (.cells (setV g) false)).get h.nx=some (.cells [.p w 0] false):=by rw [jac Zc,jac Zc,jac om,c0]
  have d3:(((h1.new (.cells [.i top] false)).new (.cells (setV f) false)).new (.cells (setV g) false)).get (h.nx+3)=some (.cells [.int .u32 0,.int .u32 0] false):=by rw [jac Zc,jac Zc,jac om,c3]
  have d4:(((h1.new (.cells [.i top] false)).new (.cells (setV f) false)).new (.cells (setV g) false)).get (h.nx+4)=some (.cells [.int .u32 0,.int .u32 0] false):=by rw [jac Zc,jac Zc,jac om,c4]
  have d5:(((h1.new (.cells [.i top] false)).new (.cells (setV f) false)).new (.cells (setV g) false)).get (h.nx+5)=some (.cells [.i 0] false):=by rw [jac Zc,jac Zc,jac om,c5]
  have q0:(((h1.new (.cells [.i top] false)).new (.cells (setV f) false)).new (.cells (setV g) false)).get h1.nx=some (.cells [.i top] false):=qgt
  have q1:(((h1.new (.cells [.i top] false)).new (.cells (setV f) false)).new (.cells (setV g) false)).get (h1.nx+1)=some (.cells (setV f) false):=qgt
  have q2:(((h1.new (.cells [.i top] false)).new (.cells (setV f) false)).new (.cells (setV g) false)).get (h1.nx+2)=some (.cells (setV g) false):=qgt
  have x2:(((h1.new (.cells [.i top] false)).new (.cells (setV f) false)).new (.cells (setV g) false)).nx=h1.nx+3:=rfl
  generalize ((h1.new (.cells [.i top] false)).new (.cells (setV f) false)).new (.cells (setV g) false)=H2 at oH2 d0 d3 d4 d5 q0 q1 q2 x2 ⊢
  refine Run.rangeFunc_lo rfl qkp fun LO hLO=>?_
  rw [x2]
  have oL:Old h (H2.new (LO .ready none)):=oH2.new
  obtain ⟨v',h',hc,hIJ⟩:=jhE hcl (d:=d-1) (L:=h1.nx+3) (c1:=h1.nx+1) (c2:=h1.nx+2) (c3:=h1.nx) (f:=f) (g:=g) (top:=top) (h:=H2.new (LO .ready none)) om
   (fun m e=>e.get h.nx=some (.cells [.p w 0] false)/\e.get (h.nx+3)=some (.cells (setV (selK ws f inR top m)) false)/\e.get (h.nx+4)=some (.cells (setV (selK ws g outR top m)) false)/\e.get (h.nx+5)=some (.cells [.i ((cntS (selS ws f inR top) m+cntS (selS ws g outR top) m:Nat):Int)] false)/\e.get h1.nx=some (.cells [.i top] false)/\e.get (h1.nx+1)=some (.cells (setV f) false)/\e.get (h1.nx+2)=some (.cells (setV g) false)/\e.get (h1.nx+3)=some (LO .ready none)/\h1.nx+4<=e.nx/\Old h e)
   (fun _=>False)
   (fun m e ⟨_,_,_,_,p5,p6,p7,_,p9,_⟩=>⟨p6,p7,p5,by omega,by omega,by omega⟩)
   (by
    rintro m e e' ⟨p0,p1,p2,p3,p4,p5,p6,p7,p8,p9⟩ og
    exact ⟨by rw [og.2 _ om,p0],by rw [og.2 _ om,p1],by rw [og.2 _ om,p2],by rw [og.2 _ om,p3],by rw [og.2 _ om,p4],by rw [og.2 _ om,p5],by rw [og.2 _ om,p6],by rw [og.2 _ om,p7],zA p8 og.1,p9.trans og⟩)
   (by
    rintro m e hm hk ⟨p0,p1,p2,p3,p⟩
    obtain ⟨hkf,hkg⟩:=selS_not (ws:=ws) hk
    refine ⟨p0,by rw [jis hkf,p1],by rw [jis hkg,p2],?_,p⟩
    rw [cntS,cntS,hkf,hkg];simpa using p3)
   (by
    rintro m e hm hk ⟨p0,p1,p2,p3,p4,p5,p6,p7,p8,p9⟩
    have oq:Old h (e.set (h1.nx+3) (LO .busy none)):=p9.set om
    obtain ⟨e1,er,oe⟩:=jie hcl (d:=d-1-1-1) (fd:=(m:Int)) om (a.old oq) o
    rw [jgR] at er
    obtain ⟨e2,es,oe'⟩:=sl_is hcl (d:=d-1-1-1) (r:=rdyS ws (m:Int)) (h:=e1) om
    obtain ⟨hf,hg⟩:=selS_is (ws:=ws) hk
    have hA:=and_mask (f m) (g m) (inR (rdyS ws (m:Int))) (outR (rdyS ws (m:Int)))
    rw [<- hf,<- hg] at hA
    have hA:IntKind.i64.wrap ((BitVec.ofInt 64 (jmS f g m) &&& BitVec.ofInt 64 (isR (rdyS ws (m:Int)))).toNat:Int)=_:=hA
    have oe2:Old (e.set (h1.nx+3) (LO .busy none)) e2:=oe.trans oe'
    have r0 : ∀ j,j<e.nx->j≠h1.nx+3->e2.get j=e.get j:=fun j h1 h2=>by rw [oe2.2 _ (by simpa using h1),jaa h2]
    have r3:e2.get (h.nx+3)=some (.cells (setV (selK ws f inR top m)) false):=by rw [r0 _ om om,p1]
    have r4:e2.get (h.nx+4)=some (.cells (setV (selK ws g outR top m)) false):=by rw [r0 _ om om,p2]
    have r5:e2.get (h.nx+5)=some (.cells [.i ((cntS (selS ws f inR top) m+cntS (selS ws g outR top) m:Nat):Int)] false):=by rw [r0 _ om om,p3]
    have r7:e2.get (h1.nx+3)=some (LO .busy none):=by rw [oe2.2 _ Zc,jab]
    have ox:e.nx<=e2.nx:=by have:=oe2.1;simpa using this
    have of:Old h e2:=oq.trans oe2
    have fin : ∀ X:H,e.nx<=X.nx->(∀ j,j<e.nx->j≠h.nx+3->j≠h.nx+4->j≠h.nx+5->j≠h1.nx+3->X.get j=e.get j)->X.get (h.nx+3)=some (.cells (setV (selK ws f inR top (m+1))) false)->X.get (h.nx+4)=some (.cells (setV (selK ws g outR top (m+1))) false) ->
      X.get (h.nx+5)=some (.cells [.i ((cntS (selS ws f inR top) (m+1)+cntS (selS ws g outR top) (m+1):Nat):Int)] false) ->
      ((X.set (h1.nx+3) (LO .ready none)).get h.nx=some (.cells [.p w 0] false)/\(X.set (h1.nx+3) (LO .ready none)).get (h.nx+3)=some (.cells (setV (selK ws f inR top (m+1))) false)/\(X.set (h1.nx+3) (LO .ready none)).get (h.nx+4)=some (.cells (setV (selK ws g outR top (m+1))) false)/\(X.set (h1.nx+3) (LO .ready none)).get (h.nx+5)=some (.cells [.i ((cntS (selS ws f inR top) (m+1)+cntS (selS ws g outR top) (m+1):Nat):Int)] false)/\(X.set (h1.nx+3) (LO .ready none)).get h1.nx=some (.cells [.i top] false)/\(X.set (h1.nx+3) (LO .ready none)).get (h1.nx+1)=some (.cells (setV f) false)/\(X.set (h1.nx+3) (LO .ready none)).get (h1.nx+2)=some (.cells (setV g) false)/\(X.set (h1.nx+3) (LO .ready none)).get (h1.nx+3)=some (LO .ready none)/\h1.nx+4<=(X.set (h1.nx+3) (LO .ready none)).nx/\Old h (X.set (h1.nx+3) (LO .ready none)))/\OldN (H2.new (LO .ready none)).nx e (X.set (h1.nx+3) (LO .ready none)):=by
     intro X xn xo x3 x4 x5
     refine ⟨⟨?_,?_,?_,?_,?_,?_,?_,jab _,by simp;omega,⟨by simp;omega,fun j hj=>?_⟩⟩,by simpa using xn,fun j hj hj2=>?_⟩
     ·rw [jaa om,xo _ om om om om om,p0]
     ·rw [jaa om,x3]
     ·rw [jaa om,x4]
     ·rw [jaa om,x5]
     ·rw [jaa om,xo _ om om om om om,p4]
     ·rw [jaa om,xo _ om om om om om,p5]
     ·rw [jaa om,xo _ om om om om om,p6]
     ·rw [jaa om,xo _ om om om om om,p9.2 _ hj]
     ·have hj:h1.nx+3+1<=j:=by simpa [x2] using hj
      rw [jaa om,xo _ hj2 om om om om]
    have hN:cntS (selS ws f inR top) m+cntS (selS ws g outR top) m<=128:=by have:=jkJ (selS ws f inR top) m;have:=jkJ (selS ws g outR top) m;omega
    have hN1:cntS (selS ws f inR top) (m+1)+cntS (selS ws g outR top) (m+1)=cntS (selS ws f inR top) m+cntS (selS ws g outR top) m+(if selS ws f inR top m then 1 else 0)+(if selS ws g outR top m then 1 else 0):=by simp only [cntS];omega
    rw [hN1] at fin
    generalize cntS (selS ws f inR top) m+cntS (selS ws g outR top) m=n at r5 hN hN1 fin
    have yF:selS ws f inR top m=false->setV (selK ws f inR top (m+1))=setV (selK ws f inR top m):=fun h=>jis h
    have yG:selS ws g outR top m=false->setV (selK ws g outR top (m+1))=setV (selK ws g outR top m):=fun h=>jis h
    have wF : ∀ E,selS ws f inR top m=true -> ∃ E',cl (d-1-1-1) (.fn F.jdm) [.agg (setV (selK ws f inR top m)),.i (m:Int)] E=some (.tup [.agg (setV (selK ws f inR top (m+1))),.i 0],E')/\Old E E':=fun E hs=>by
     rw [jlc hs hm]
     have:=jkD hcl (d:=d-1-1-1) (f:=selK ws f inR top m) (fd:=(m:Int)) (h:=E) om
     rwa [if_pos (show fitS (m:Int) from ⟨by omega,by omega⟩)] at this
    have wG : ∀ E,selS ws g outR top m=true -> ∃ E',cl (d-1-1-1) (.fn F.jdm) [.agg (setV (selK ws g outR top m)),.i (m:Int)] E=some (.tup [.agg (setV (selK ws g outR top (m+1))),.i 0],E')/\Old E E':=fun E hs=>by
     rw [jlc hs hm]
     have:=jkD hcl (d:=d-1-1-1) (f:=selK ws g outR top m) (fd:=(m:Int)) (h:=E) om
     rwa [if_pos (show fitS (m:Int) from ⟨by omega,by omega⟩)] at this
    have lF:(setV (selK ws f inR top m)).length=2:=rfl
    have lG:(setV (selK ws g outR top m)).length=2:=rfl
    have lF1:(setV (selK ws f inR top (m+1))).length=2:=rfl
    have lG1:(setV (selK ws g outR top (m+1))).length=2:=rfl
    have aF1:(setV (selK ws f inR top (m+1))).all V.one=true:=rfl
    have aG1:(setV (selK ws g outR top (m+1))).all V.one=true:=rfl
    generalize jmS f g m=mk0 at hA ⊢
    generalize rdyS ws (m:Int)=r at er es hA hf hg
    have er:cl (d-1-1-1) (.fn F.jdt) [.p w 0,.i (m:Int)] (e.set (h1.nx+3) (LO .busy none))=some (.agg r.cells,e1):=er
    generalize isR r=ri at es hA
    generalize r.cells=rc at er es
    refine ⟨true,?_⟩
    suffices q : ∃ v' g',cl (d-1-1) (.yld (h1.nx+3)) [.i (m:Int),.i mk0] e=some (v',g')/\(v' = .bool true/\(g'.get h.nx=some (.cells [.p w 0] false)/\g'.get (h.nx+3)=some (.cells (setV (selK ws f inR top (m+1))) false)/\g'.get (h.nx+4)=some (.cells (setV (selK ws g outR top (m+1))) false)/\g'.get (h.nx+5)=some (.cells [.i ((cntS (selS ws f inR top) (m+1)+cntS (selS ws g outR top) (m+1):Nat):Int)] false)/\g'.get h1.nx=some (.cells [.i top] false)/\g'.get (h1.nx+1)=some (.cells (setV f) false)/\g'.get (h1.nx+2)=some (.cells (setV g) false)/\g'.get (h1.nx+3)=some (LO .ready none)/\h1.nx+4<=g'.nx/\Old h g')/\OldN (H2.new (LO .ready none)).nx e g') by
     obtain ⟨_,g',e,rfl,q⟩:=q
     exact ⟨g',e,fun _=>q,fun e=>by cases e⟩
    refine yl_ hcl om hLO p7 rfl ?_
    clear a o ax ay hk hf hg oq oe oe'
    clear oH oH2 oL b0 b1 b2 b3 b4 b5 c0 c1 c2 c3 c4 c5 d0 d3 d4 d5 q0 q1 q2 ht n1 n2
    refine qx1 ?_
    refine End.nil ⟨rfl,p7,?_⟩
    clear p1 p2 p3 p4 p5 p6 p7 p9
    rw [hN1]
    generalize hT:setV (selK ws f inR top m)=tF at r3 yF wF lF
    generalize hT1:setV (selK ws f inR top (m+1))=tF1 at fin yF wF lF1 aF1 ⊢
    generalize hU:setV (selK ws g outR top m)=tG at r4 yG wG lG
    generalize hU1:setV (selK ws g outR top (m+1))=tG1 at fin yG wG lG1 aG1 ⊢
    have sF:List.take 2 (List.drop 0 tF)=tF:=by rw [zk,zh om]
    have sG:List.take 2 (List.drop 0 tG)=tG:=by rw [zk,zh om]
    clear hT hT1 hU hU1 hN1
    generalize selS ws f inR top m=bF at hA fin yF wF
    generalize selS ws g outR top m=bG at hA fin yG wG
    have hA:IntKind.i64.wrap ((BitVec.ofInt IntKind.i64.bits mk0 &&& BitVec.ofInt IntKind.i64.bits ri).toNat:Int)=(if bF then 2 else 0)+(if bG then 4 else 0):=hA
    have cF:IntKind.i64.wrap ((BitVec.ofInt IntKind.i64.bits (IntKind.i64.wrap ((BitVec.ofInt IntKind.i64.bits mk0 &&& BitVec.ofInt IntKind.i64.bits ri).toNat:Int)) &&& BitVec.ofInt IntKind.i64.bits 2).toNat:Int)=if bF then 2 else 0:=by
     rw [hA];cases bF<;>cases bG<;>decide
    have cG:IntKind.i64.wrap ((BitVec.ofInt IntKind.i64.bits (IntKind.i64.wrap ((BitVec.ofInt IntKind.i64.bits mk0 &&& BitVec.ofInt IntKind.i64.bits ri).toNat:Int)) &&& BitVec.ofInt IntKind.i64.bits 4).toNat:Int)=if bG then 4 else 0:=by
     rw [hA];cases bF<;>cases bG<;>decide
    clear hA
    cases bF with
    | false=>
     obtain rfl:=yF rfl
     have cF : ¬ IntKind.i64.wrap ((BitVec.ofInt IntKind.i64.bits (IntKind.i64.wrap ((BitVec.ofInt IntKind.i64.bits mk0 &&& BitVec.ofInt IntKind.i64.bits ri).toNat:Int)) &&& BitVec.ofInt IntKind.i64.bits 2).toNat:Int)≠0:=by rw [cF];decide
     clear yF wF
     cases bG with
     | false=>
      obtain rfl:=yG rfl
      have cG : ¬ IntKind.i64.wrap ((BitVec.ofInt IntKind.i64.bits (IntKind.i64.wrap ((BitVec.ofInt IntKind.i64.bits mk0 &&& BitVec.ofInt IntKind.i64.bits ri).toNat:Int)) &&& BitVec.ofInt IntKind.i64.bits 4).toNat:Int)≠0:=by rw [cG];decide
      clear yG wG
      have fin:=fin e2 ox (fun j h1 _ _ _ h2=>r0 j h1 h2) r3 r4 r5
      refine qx1 ?_
      refine End.nil ⟨⟨.busy,none,r7⟩,rfl,fin⟩
     | true=>
      have cG:IntKind.i64.wrap ((BitVec.ofInt IntKind.i64.bits (IntKind.i64.wrap ((BitVec.ofInt IntKind.i64.bits mk0 &&& BitVec.ofInt IntKind.i64.bits ri).toNat:Int)) &&& BitVec.ofInt IntKind.i64.bits 4).toNat:Int)≠0:=by rw [cG];decide
      clear yG
      obtain ⟨e4,ew,o4⟩:=wG e2 rfl
      clear wG
      have z4:e4.get (h.nx+4)=some (.cells tG false):=by rw [o4.2 _ om,r4]
      have z5:e4.get (h.nx+5)=some (.cells [.i ((n:Nat):Int)] false):=by rw [o4.2 _ om,r5]
      have zx:=o4.1
      have fin:=fin ((e4.set (h.nx+4) (.cells tG1 false)).set (h.nx+5) (.cells [.i ((n:Int)+1)] false)) Zc
       (fun j h1 h2 h3 h4 h5=>by rw [jaa h4,jaa h3,o4.2 _ om,r0 j h1 h5])
       (by rw [jaa om,jaa om,o4.2 _ om,r3])
       (by rw [jaa om,jab]) (by rw [jab];simp)
      have r7':((e4.set (h.nx+4) (.cells tG1 false)).set (h.nx+5) (.cells [.i ((n:Int)+1)] false)).get (h1.nx+3)=some (LO .busy none):=by rw [jaa om,jaa om,o4.2 _ om,r7]
      refine qx1 ?_
      refine Ops.loadN rfl r4 om ?_
      rw [sG]
      refine qx1 ?_
      refine Ops.storeN (b:=h.nx+4) (o:=0) rfl rfl lG1 aG1 z4 om ?_
      rw [jak tG1 tG om]
      refine qx1 ?_
      refine Ops.store1 (b:=h.nx+5) (o:=0) (l:=[.i ((n:Nat):Int)]) rfl rfl rfl (by rw [jaa om];exact z5) Nat.zero_lt_one ?_
      refine qx1 ?_
      refine End.nil ⟨⟨.busy,none,r7'⟩,rfl,fin⟩
    | true=>
     have cF:IntKind.i64.wrap ((BitVec.ofInt IntKind.i64.bits (IntKind.i64.wrap ((BitVec.ofInt IntKind.i64.bits mk0 &&& BitVec.ofInt IntKind.i64.bits ri).toNat:Int)) &&& BitVec.ofInt IntKind.i64.bits 2).toNat:Int)≠0:=by rw [cF];decide
     clear yF
     obtain ⟨e3,ew,o3⟩:=wF e2 rfl
     clear wF
     have z3:e3.get (h.nx+3)=some (.cells tF false):=by rw [o3.2 _ om,r3]
     have z5:e3.get (h.nx+5)=some (.cells [.i ((n:Nat):Int)] false):=by rw [o3.2 _ om,r5]
     have zx:=o3.1
     cases bG with
     | false=>
      obtain rfl:=yG rfl
      have cG : ¬ IntKind.i64.wrap ((BitVec.ofInt IntKind.i64.bits (IntKind.i64.wrap ((BitVec.ofInt IntKind.i64.bits mk0 &&& BitVec.ofInt IntKind.i64.bits ri).toNat:Int)) &&& BitVec.ofInt IntKind.i64.bits 4).toNat:Int)≠0:=by rw [cG];decide
      clear yG wG
      have fin:=fin ((e3.set (h.nx+3) (.cells tF1 false)).set (h.nx+5) (.cells [.i ((n:Int)+1)] false)) Zc
       (fun j h1 h2 h3 h4 h5=>by rw [jaa h4,jaa h2,o3.2 _ om,r0 j h1 h5])
       (by rw [jaa om,jab])
       (by rw [jaa om,jaa om,o3.2 _ om,r4]) (by rw [jab];simp)
      have r7':((e3.set (h.nx+3) (.cells tF1 false)).set (h.nx+5) (.cells [.i ((n:Int)+1)] false)).get (h1.nx+3)=some (LO .busy none):=by rw [jaa om,jaa om,o3.2 _ om,r7]
      refine qx1 ?_
      refine Ops.loadN rfl r3 om ?_
      rw [sF]
      refine qx1 ?_
      refine Ops.storeN (b:=h.nx+3) (o:=0) rfl rfl lF1 aF1 z3 om ?_
      rw [jak tF1 tF om]
      refine qx1 ?_
      refine Ops.store1 (b:=h.nx+5) (o:=0) (l:=[.i ((n:Nat):Int)]) rfl rfl rfl (by rw [jaa om];exact z5) Nat.zero_lt_one ?_
      refine qx1 ?_
      refine End.nil ⟨⟨.busy,none,r7'⟩,rfl,fin⟩
     | true=>
      have cG:IntKind.i64.wrap ((BitVec.ofInt IntKind.i64.bits (IntKind.i64.wrap ((BitVec.ofInt IntKind.i64.bits mk0 &&& BitVec.ofInt IntKind.i64.bits ri).toNat:Int)) &&& BitVec.ofInt IntKind.i64.bits 4).toNat:Int)≠0:=by rw [cG];decide
      clear yG
      obtain ⟨E1,hE⟩ : ∃ E1,E1=(e3.set (h.nx+3) (.cells tF1 false)).set (h.nx+5) (.cells [.i ((n:Int)+1)] false):=⟨_,rfl⟩
      have E3:E1.get (h.nx+3)=some (.cells tF1 false):=by rw [hE,jaa om,jab]
      have E4:E1.get (h.nx+4)=some (.cells tG false):=by rw [hE,jaa om,jaa om,o3.2 _ om,r4]
      have E5:E1.get (h.nx+5)=some (.cells [.i ((n:Int)+1)] false):=by rw [hE,jab]
      have E7:E1.get (h1.nx+3)=some (LO .busy none):=by rw [hE,jaa om,jaa om,o3.2 _ om,r7]
      have Ex:e2.nx<=E1.nx:=by rw [hE];simp;omega
      have Er : ∀ j,j<e.nx->j≠h.nx+3->j≠h.nx+5->j≠h1.nx+3->E1.get j=e.get j:=fun j h1 h2 h4 h5=>by rw [hE,jaa h4,jaa h2,o3.2 _ om,r0 j h1 h5]
      obtain ⟨e4,ew4,o4⟩:=wG E1 rfl
      clear wG
      have y4:e4.get (h.nx+4)=some (.cells tG false):=by rw [o4.2 _ om,E4]
      have y5:e4.get (h.nx+5)=some (.cells [.i ((n:Int)+1)] false):=by rw [o4.2 _ om,E5]
      have zx4:=o4.1
      have fin:=fin ((e4.set (h.nx+4) (.cells tG1 false)).set (h.nx+5) (.cells [.i ((n:Int)+1+1)] false)) Zc
       (fun j h1 h2 h3 h4 h5=>by rw [jaa h4,jaa h3,o4.2 _ om,Er j h1 h2 h4 h5])
       (by rw [jaa om,jaa om,o4.2 _ om,E3])
       (by rw [jaa om,jab]) (by rw [jab];simp)
      have r7':((e4.set (h.nx+4) (.cells tG1 false)).set (h.nx+5) (.cells [.i ((n:Int)+1+1)] false)).get (h1.nx+3)=some (LO .busy none):=by rw [jaa om,jaa om,o4.2 _ om,E7]
      refine qx1 ?_
      refine Ops.loadN rfl r3 om ?_
      rw [sF]
      refine qx1 ?_
      refine Ops.storeN (b:=h.nx+3) (o:=0) rfl rfl lF1 aF1 z3 om ?_
      rw [jak tF1 tF om]
      refine qx1 ?_
      refine Ops.store1 (b:=h.nx+5) (o:=0) (l:=[.i ((n:Nat):Int)]) rfl rfl rfl (by rw [jaa om];exact z5) Nat.zero_lt_one ?_
      have hE:(e3.set (h.nx+3) (.cells tF1 false)).set (h.nx+5) (.cells (List.set [.i ((n:Nat):Int)] 0 (.i ((n:Int)+1))) false)=E1:=hE.symm
      rw [hE]
      clear hE z3 z5 r3 r4 r5 r0 Er
      refine qx1 ?_
      refine Ops.loadN rfl E4 om ?_
      rw [sG]
      refine qx1 ?_
      refine Ops.storeN (b:=h.nx+4) (o:=0) rfl rfl lG1 aG1 y4 om ?_
      rw [jak tG1 tG om]
      refine qx1 ?_
      refine Ops.store1 (b:=h.nx+5) (o:=0) (l:=[.i ((n:Int)+1)]) rfl rfl rfl (by rw [jaa om];exact y5) Nat.zero_lt_one ?_
      refine qx1 ?_
      refine End.nil ⟨⟨.busy,none,r7'⟩,rfl,fin⟩)
   ⟨by rw [jac om,d0],by rw [jac om,d3,jn3],by rw [jac om,d4,jn3],by rw [jac om,d5];rfl,by rw [jac om,q0],by rw [jac om,q1],by rw [jac om,q2],by rw [<- x2,jad],by simp [x2],oL⟩
  refine hIJ.elim ?_ fun hF=>hF.elim
  rintro ⟨p0,p1,p2,p3,p4,p5,p6,p7,p8,p9⟩
  refine ⟨v',h',hc,.normal,p7,?_⟩
  rw [selK_64] at p1 p2
  have k3:(h'.kill (h1.nx+3)).get (h.nx+3)=some (.cells (setV (selS ws f inR top)) false):=by rw [jaf om,p1]
  have k4:(h'.kill (h1.nx+3)).get (h.nx+4)=some (.cells (setV (selS ws g outR top)) false):=by rw [jaf om,p2]
  have k5:(h'.kill (h1.nx+3)).get (h.nx+5)=some (.cells [.i (((cntS (selS ws f inR top) 64+cntS (selS ws g outR top) 64:Nat):Int))] false):=by rw [jaf om,p3]
  have o9:Old h (h'.kill (h1.nx+3)):=⟨p9.1,fun j hj=>by rw [jaf om,p9.2 j hj]⟩
  generalize h'.kill (h1.nx+3)=H3 at k3 k4 k5 o9 ⊢
  clear p0 p1 p2 p3 p4 p5 p6 p7 p8 p9 hc hLO a ax ay o
  have lR:(setV (selS ws f inR top)).length=2:=rfl
  have lS:(setV (selS ws g outR top)).length=2:=rfl
  have a1:(setV (selS ws f inR top)).all V.one=true:=rfl
  have a2:(setV (selS ws g outR top)).all V.one=true:=rfl
  generalize hv1:setV (selS ws f inR top)=v1 at k3 lR a1 ⊢
  generalize hv2:setV (selS ws g outR top)=v2 at k4 lS a2 ⊢
  generalize hn:((cntS (selS ws f inR top) 64+cntS (selS ws g outR top) 64:Nat):Int)=n at k5 ⊢
  have t1:List.take 2 (List.drop 0 v1)=v1:=by rw [zk,zh om]
  have t2:List.take 2 (List.drop 0 v2)=v2:=by rw [zk,zh om]
  refine qx1 ?_
  refine Ops.loadN rfl k3 om ?_
  rw [t1]
  refine Ops.loadN rfl k4 om ?_
  rw [t2]
  refine qx1 ?_
  refine Ops.storeN_chk (b:=h.nx+3) (o:=0) rfl rfl lR a1 k3 om ?_ ?_
  ·rw [jak v1 v1 rfl]
   exact jcL (b:=h.nx+4) (o:=0) (l:=v2) (ro:=false) rfl (by rw [jaa om];exact k4) om t2 rfl (jau (b:=h.nx+5) (o:=0) (l:=[.i n]) (ro:=false) rfl (by rw [jaa om];exact k5) rfl rfl ja2)
  rw [jak v1 v1 rfl]
  refine Ops.storeN_chk (b:=h.nx+4) (o:=0) (l:=v2) rfl rfl lS a2 (by rw [jaa om];exact k4) om ?_ ?_
  ·exact jau (b:=h.nx+5) (o:=0) (l:=[.i n]) (ro:=false) rfl (by rw [jaa om,jaa om];exact k5) rfl rfl ja2
  rw [jak v2 v2 rfl]
  refine Ops.store1 (b:=h.nx+5) (o:=0) (l:=[.i n]) rfl rfl rfl (by rw [jaa om,jaa om];exact k5) Nat.zero_lt_one ?_
  have z3:(((H3.set (h.nx+3) (.cells v1 false)).set (h.nx+4) (.cells v2 false)).set (h.nx+5) (.cells [.i n] false)).get (h.nx+3)=some (.cells v1 false):=by rw [jaa om,jaa om,jab]
  have z4:(((H3.set (h.nx+3) (.cells v1 false)).set (h.nx+4) (.cells v2 false)).set (h.nx+5) (.cells [.i n] false)).get (h.nx+4)=some (.cells v2 false):=by rw [jaa om,jab]
  have z5:(((H3.set (h.nx+3) (.cells v1 false)).set (h.nx+4) (.cells v2 false)).set (h.nx+5) (.cells [.i n] false)).get (h.nx+5)=some (.cells [.i n] false):=jab _
  have oz:Old h (((H3.set (h.nx+3) (.cells v1 false)).set (h.nx+4) (.cells v2 false)).set (h.nx+5) (.cells [.i n] false)):=((o9.set om).set om).set om
  change Ops _ _ _ _ _ _ _ (((H3.set (h.nx+3) (.cells v1 false)).set (h.nx+4) (.cells v2 false)).set (h.nx+5) (.cells [.i n] false)) _
  generalize ((H3.set (h.nx+3) (.cells v1 false)).set (h.nx+4) (.cells v2 false)).set (h.nx+5) (.cells [.i n] false)=H9 at z3 z4 z5 oz ⊢
  clear k3 k4 k5 o9
  refine qx1 ?_
  exact jkj z3 z4 z5 lR lS ⟨oz,_,_,_,rfl,fun _=>⟨rfl,rfl,rfl⟩,fun e=>absurd rfl e⟩
end
section
variable {cl:Nat->Call} (hcl:Sem cl) {h:H}
include hcl
variable {w s:Nat} {ow:Nat->Nat} {ws:Ws} {now:Int} {tb:Tb} {no:Option (Nat × Nat)} {f g:Nat->Bool}
theorem sl_Holds {d:Nat} {top:Int} (hd:12<=d) (a:WSt h w s ow ws now tb no) (o:WsOk ws) :
  ∃ (b:Bool) (h':H),cl d (.fn F.jgH) [.p w 0,.i top,.agg (setV f),.agg (setV g)] h=some (.bool b,h')/\Old h h' /\
   (b=true↔jbi ws f g top≠0\/0<cntS (selS ws f inR top) 64+cntS (selS ws g outR top) 64):=by
 suffices q : ∃ v' h',cl d (.fn F.jgH) [.p w 0,.i top,.agg (setV f),.agg (setV g)] h=some (v',h') /\ ∃ b:Bool,v' = .bool b/\Old h h'/\(b=true↔jbi ws f g top≠0\/0<cntS (selS ws f inR top) 64+cntS (selS ws g outR top) 64) by
  obtain ⟨_,h',e,b,rfl,q⟩:=q;exact ⟨b,h',e,q⟩
 have oH:Old h ((h.new (.cells (setV f) false)).new (.cells (setV g) false)):=(Old.refl h).new.new
 have b0:((h.new (.cells (setV f) false)).new (.cells (setV g) false)).get h.nx=some (.cells (setV f) false):=qgt
 have b1:((h.new (.cells (setV f) false)).new (.cells (setV g) false)).get (h.nx+1)=some (.cells (setV g) false):=qgt
 refine at_ hcl om rfl rfl rfl ?_
 refine Run.seq (Run.region0 (Ops.make rfl rfl (Ops.make rfl rfl (Ops.mv rfl (Ops.nil qkp (End.seq ?_))))))
 change Run (cl (d-1)) fuel _ _ [(0,.p w 0),(1,.i top),(6,.p h.nx 0),(7,.p (h.nx+1) 0)] ((h.new (.cells (setV f) false)).new (.cells (setV g) false)) _
 generalize (h.new (.cells (setV f) false)).new (.cells (setV g) false)=H0 at oH b0 b1 ⊢
 obtain ⟨R,S,h1,e1,o1,q1,q2⟩:=jjd hcl (d:=d-1) (top:=top) (f:=f) (g:=g) (h:=H0) om (a.old oH) o
 have hb : ∀ b:Bool,b=(decide (jbi ws f g top≠0)||decide (0<cntS R 64+cntS S 64))->(b=true↔jbi ws f g top≠0\/0<cntS (selS ws f inR top) 64+cntS (selS ws g outR top) 64):=by
  intro b hb
  by_cases hz:jbi ws f g top=0
  ·obtain ⟨rfl,rfl⟩:=q1 hz
   simp [hb,hz]
  ·simp [hb,hz]
 have oX:=oH.trans o1
 clear q1 q2 a o
 generalize jbi ws f g top=er at e1 hb ⊢
 generalize cntS R 64+cntS S 64=n at e1 hb ⊢
 have lR:(setV R).length=2:=rfl
 have lS:(setV S).length=2:=rfl
 have aR:(setV R).all V.one=true:=rfl
 have aS:(setV S).all V.one=true:=rfl
 refine qx1 ?_
 refine Ops.loadN rfl b0 (zq _) ?_
 rw [show List.take 2 (List.drop 0 (setV f))=setV f from rfl]
 refine qx1 ?_
 refine Ops.loadN rfl b1 (zq _) ?_
 rw [show List.take 2 (List.drop 0 (setV g))=setV g from rfl]
 refine qx1 ?_
 refine Ops.make rfl rfl (Ops.make rfl rfl ?_)
 refine Ops.storeN (b:=h1.nx) (o:=0) (l:=[.int .u32 0,.int .u32 0]) rfl rfl lR aR (by rw [jac Zd,jad]) (zu rfl) ?_
 refine Ops.storeN (b:=h1.nx+1) (o:=0) (l:=[.int .u32 0,.int .u32 0]) rfl rfl lS aS (by rw [jaa om];exact jad _) (zu rfl) ?_
 have o9:Old h ((((h1.new (.cells [.int .u32 0,.int .u32 0] false)).new (.cells [.int .u32 0,.int .u32 0] false)).set h1.nx (.cells (jao [.int .u32 0,.int .u32 0] 0 (setV R)) false)).set (h1.nx+1) (.cells (jao [.int .u32 0,.int .u32 0] 0 (setV S)) false)):=by
  have:=oX.1
  exact (oX.new.new.set this).set om
 change Ops _ _ _ _ _ _ _ ((((h1.new (.cells [.int .u32 0,.int .u32 0] false)).new (.cells [.int .u32 0,.int .u32 0] false)).set h1.nx (.cells (jao [.int .u32 0,.int .u32 0] 0 (setV R)) false)).set (h1.nx+1) (.cells (jao [.int .u32 0,.int .u32 0] 0 (setV S)) false)) _
 generalize (((h1.new (.cells [.int .u32 0,.int .u32 0] false)).new (.cells [.int .u32 0,.int .u32 0] false)).set h1.nx (.cells (jao [.int .u32 0,.int .u32 0] 0 (setV R)) false)).set (h1.nx+1) (.cells (jao [.int .u32 0,.int .u32 0] 0 (setV S)) false)=H9 at o9 ⊢
 clear b0 b1 e1 o1 oH oX lR lS aR aS
 by_cases he:er=0
 ·subst he
  by_cases hn:n=0
  ·subst hn
   refine qx1 ?_
   exact ⟨_,rfl,o9,hb _ Zd⟩
  ·have hn:(0:Int)<n:=by omega
   refine qx1 ?_
   exact ⟨_,rfl,o9,hb _ Zd⟩
 ·refine qx1 ?_
  exact ⟨_,rfl,o9,hb _ (by simp [he])⟩
theorem sl_Top {d:Nat} (hd:3<=d) : ∃ (T:Int) (h':H),cl d (.fn F.sel_Top) [.agg (setV f),.agg (setV g)] h=some (.i (T+1),h')/\Old h h' /\ -1<=T/\T<=63/\(∀ i:Nat,i<64->orS f g i=true->(i:Int)<=T)/\(0<=T->orS f g T.toNat=true):=by
 have b0:((h.new (.cells (setV f) false)).new (.cells (setV g) false)).get h.nx=some (.cells (setV f) false):=qgt
 have b1:((h.new (.cells (setV f) false)).new (.cells (setV g) false)).get (h.nx+1)=some (.cells (setV g) false):=qgt
 have oH:Old h ((h.new (.cells (setV f) false)).new (.cells (setV g) false)):=(Old.refl h).new.new
 obtain ⟨h1,e1,o1⟩:=jnX hcl (d:=d-1) (f:=f) (g:=g) (h:=(h.new (.cells (setV f) false)).new (.cells (setV g) false)) om
 obtain ⟨T,h2,e2,o2,t1,t2,t3,t4⟩:=fs_top hcl (d:=d-1) (f:=orS f g) (h:=h1) om
 refine ⟨T,h2,?_,(oH.trans o1).trans o2,t1,t2,t3,t4⟩
 refine jam (at_ hcl om rfl rfl rfl ?_)
 clear t3 t4
 refine Run.seq (Run.region0 (Ops.make rfl rfl (Ops.make rfl rfl (Ops.mv rfl (Ops.nil qkp (End.seq ?_))))))
 change Run (cl (d-1)) fuel _ _ [(2,.p h.nx 0),(3,.p (h.nx+1) 0)] ((h.new (.cells (setV f) false)).new (.cells (setV g) false)) _
 refine qx1 ?_
 refine Ops.loadN rfl b0 (zq _) ?_
 rw [show List.take 2 (List.drop 0 (setV f))=setV f from rfl]
 refine qx1 ?_
 refine Ops.loadN rfl b1 (zq _) ?_
 rw [show List.take 2 (List.drop 0 (setV g))=setV g from rfl]
 refine qx1 ?_
 exact ⟨rfl,rfl⟩
end
section
variable {cl:Nat->Call} (hcl:Sem cl) {h:H} {w s:Nat} {ow:Nat->Nat} {ws:Ws} {now:Int} {tb:Tb} {no:Option (Nat × Nat)}
include hcl
end
noncomputable def jcz (ws:Ws):Nat->List V
 | 0=>[]
 | n+1=>jcz ws n++(rdyS ws (n:Int)).cells
theorem jfF (ws:Ws) : ∀ n,(jcz ws n).length=n*7
 | 0=>rfl
 | n+1=>by
  have:=jfF ws n
  simp [jcz,Rdy.cells];omega
theorem jfG (ws:Ws) : ∀ {n i:Nat},i<n->((jcz ws n).drop (i*7)).take 7=(rdyS ws (i:Int)).cells
 | n+1,i,h=>by
  have hl:=jfF ws n
  rcases zy i n with h1 | h1
  ·rw [jcz,List.drop_append_of_le_length om,List.take_append_of_le_length (by rw [List.length_drop];omega)]
   exact jfG ws h1
  ·obtain rfl:i=n:=by omega
   rw [jcz,show i*7=(jcz ws i).length by omega,List.drop_left]
   rfl
noncomputable def runS (L:List OpX) (st:St):St:=L.foldl (fun st x=>doS x.k x.a x.n x.t x.D st) st
theorem runS_take {L:List OpX} {i:Nat} {x:OpX} (hx:L[i]?=some x) (st:St):runS (L.take (i+1)) st=doS x.k x.a x.n x.t x.D (runS (L.take i) st):=by
 unfold runS
 rw [List.take_add_one,hx]
 simp
section
variable {cl:Nat->Call} (hcl:Sem cl)
include hcl
theorem bt_ok {d f:Nat} {h:H} {lv:V} {L:List OpX} (hf:jds prog.prims f=none) (hf2:jds prog.fns f=some c10) (hd:17<=d) (hL:jms h lv L) (hwf : ∀ j,h.nx<=j->h.get j=none) :
  ∃ v h',cl d (.fn f) [lv] h=some (v,h')/\(v = .tup [.ptr none,.nils,.bool false]/\h'=h \/
   fewL L /\ ∃ p w s rw ow ro ov,v = .tup [.p p 0,ov,.bool true]/\BX h h' p w s rw ow ro (runS L st0) L.length/\Row h.nx h' 7 ov 96 (jcz (runS L st0).ws 96) /\ ∀ q,ov.at?=some q->ow q=0 /\ ¬ ro q/\q≠p):=by
 obtain ⟨gv,eg,hg⟩:=gr_ok hcl (d:=d-1) om hL
 refine at_ hcl om hf hf2 rfl ?_
 rcases hg with rfl | ⟨rfl,hfew⟩
 ·refine qx1 ?_
  exact .inl ⟨rfl,rfl⟩
 obtain ⟨p,w,s,rw,ow,ro,h1,e1,b1⟩:=nw_fresh hcl (d:=d-1) om h hwf
 obtain ⟨ad,c,rfl,hin⟩:=hL
 obtain ⟨hok,hel⟩:=hin hfew.1
 have hfl:=hfew.1
 refine qx1 ?_
 refine Run.loop (fun m e g=>∃ (i:Nat) (ow:Nat->Nat) (ro:Nat->Prop),m=L.length-i/\i<=L.length/\e=[(0,.slice ad L.length c),(5,.p p 0),(6,.i (i:Int))]/\BX h g p w s rw ow ro (runS (L.take i) st0) i)
  (k:=L.length) Ze ⟨0,ow,ro,rfl,by omega,rfl,b1⟩ ?_
 clear b1 e1 ow ro h1
 rintro _ _ g ⟨i,ow,ro,rfl,hi,rfl,bx⟩ n2 ih
 by_cases hlt:(i:Int)<L.length
 case pos=>
  obtain ⟨x,hx⟩:=jmy (l:=L) (i:=i) om
  have hxm:=zc hx
  obtain ⟨b,cs,ro',rfl,lb,hb,hlen,hc⟩:=hel (by rintro rfl;simp at hx)
  have hbg:g.get b=some (.cells cs ro'):=by rw [bx.old.2 b lb,hb]
  have h5:(cs.drop (0+(i:Int).toNat*5)).take 5=x.V:=by rw [Nat.zero_add,zw];exact hc i x hx
  obtain ⟨g2,ow2,ro2,e2,bx2,_⟩:=bx_do hcl (d:=d-1) om bx om (hok x hxm) (hfew.2 x hxm)
  have hi1:(i:Int)+1=((i+1:Nat):Int):=by omega
  rw [<- runS_take hx] at bx2
  clear hok hel hfew bx hc
  refine qx1 ?_
  refine Ops.loadN rfl hbg om ?_
  rw [h5]
  refine qx1 ?_
  rw [hi1]
  exact ih (L.length-(i+1)) om _ _ ⟨i+1,ow2,ro2,rfl,by omega,rfl,bx2⟩
 obtain rfl:i=L.length:=by omega
 rw [List.take_length] at bx
 generalize runS L st0=st at bx ⊢
 clear ih hel hok
 have lp:=bx.lp
 refine qx1 ?_
 refine Run.loop (fun m e g=>∃ (i:Nat) (ow:Nat->Nat) (ro:Nat->Prop) (ov:V),m=96-i/\i<=96/\e=[(5,.p p 0),(8,ov),(9,.i (i:Int))]/\BX h g p w s rw ow ro st L.length/\Row h.nx g 7 ov i (jcz st.ws i) /\ ∀ q,ov.at?=some q->ow q=0 /\ ¬ ro q/\q≠p)
  (k:=96) Ze ⟨0,ow,ro,.nils,rfl,by omega,rfl,bx,Row.nil _ _ _,fun q hq=>by cases hq⟩ ?_
 clear bx ow ro
 rintro _ _ g ⟨i,ow,ro,ov,rfl,hi,rfl,bx,row,hown⟩ n2 ih
 by_cases hlt:i<96
 case neg=>
  obtain rfl:i=96:=by omega
  have hlt' : ¬ ((96:Nat):Int)<=95:=by omega
  clear ih
  refine qx1 ?_
  exact .inr ⟨hfew,p,w,s,rw,ow,ro,ov,rfl,bx,row,hown⟩
 have hlt':(i:Int)<=95:=by omega
 have hi1:(i:Int)+1=((i+1:Nat):Int):=by omega
 have hp:=bx.b.hp
 obtain ⟨g2,ro2,e2,bx2,f2,k2⟩:=bx_ready hcl (d:=d-1) (fd:=(i:Int)) om bx
 have row2:Row h.nx g2 7 ov i (jcz st.ws i):=by
  rcases row with r | ⟨q,h1,h2,e,h4,h5⟩
  ·exact .inl r
  ·exact .inr ⟨q,h1,zr h2 f2.ch.nx,e,k2 _ _ h2 h4,h5⟩
 have hlt2 : ∀ q,ov.at?=some q->h.nx<=q/\q<g.nx:=fun q hq=>row.at_ge hq
 clear hfew row k2
 refine qx1 ?_
 refine Ops.push (N:=h.nx) (new:=(rdyS st.ws (i:Int)).cells) rfl rfl rfl rfl om rfl rfl row2 bx2.old.1 om om fun v' g3 row' hx' hz' hk'=>?_
 refine qx1 ?_
 rw [hi1]
 have b3:BB g3 p w s rw ow ro2 (fun j=>j<h.nx) st st:=bx2.b.off hx' fun j hj ho=>hk' j hj fun e=>by
  obtain ⟨q1,q2,q3⟩:=hown j e
  obtain ⟨q4,q5⟩:=hlt2 j e
  rcases ho with ho | ho | ho | ho
  ·exact ho q1
  ·exact q2 ((f2.rtag j q5).1 ho)
  ·have ho:j<h.nx:=ho
   omega
  ·exact q3 ho
 have old3:Old h g3:=⟨zA bx2.old.1 hx',fun j hj=>by rw [hk' j (zr hj bx2.old.1) fun e=>by have:=hlt2 j e;omega,bx2.old.2 j hj]⟩
 refine ih (96-(i+1)) om _ _ ⟨i+1,ow,ro2,v',rfl,by omega,rfl,⟨b3,bx2.so,old3,bx2.own,bx2.lp⟩,row',fun q hq=>?_⟩
 have hq1:=hz' q hq
 exact ⟨bx2.b.W.top hq1,fun e=>by have:=bx2.b.ro_lt (.inl e);omega,fun e=>by have:=bx2.b.lp;omega⟩
end
section
variable {cl:Nat->Call} (hcl:Sem cl) {h:H} {w s:Nat} {ow:Nat->Nat} {ws:Ws} {now:Int} {tb:Tb} {no:Option (Nat × Nat)}
include hcl
end
end Am.Sigs
namespace Am
open Go Am.Sigs
structure Hd (p:Prop):Prop where
 g:p
structure Kc (h:H) (b:Nat) (l:List V) (ro:Bool):Prop where
 lt:b<h.nx
 at_:h.get b=some (.cells l ro)
theorem Kc.old {h h':H} {b:Nat} {l:List V} {ro:Bool} (k:Kc h b l ro) (o:Old h h'):Kc h' b l ro :=
 ⟨zr k.lt o.1,by rw [o.2 _ k.lt,k.at_]⟩
section
variable {call:Call} {fuel base:Nat} {K:List Fr} {e:Env} {h h' h0:H} {Q:Post} {ix:Nat} {dst:Option Nat} {ops:List Ins} {keep:List Nat} {at_:Option Nat} {c:List (Nat × I × Option (Nat × Bool))}
theorem tagLd {a:Opd} (k:Ops call fuel base (⟨ix,dst,.load1 a,none,at_,c⟩ :: ops) keep K e h Q):Ops call fuel base (⟨ix,dst,.load1 a,none,at_,c⟩ :: ops) keep K e h Q:=k
theorem tagLn {a:Opd} {n:Nat} (k:Ops call fuel base (⟨ix,dst,.loadN n a,none,at_,c⟩ :: ops) keep K e h Q):Ops call fuel base (⟨ix,dst,.loadN n a,none,at_,c⟩ :: ops) keep K e h Q:=k
theorem tagCl {f:FuncId} {l:List Opd} (k:Ops call fuel base (⟨ix,dst,.call f l,none,at_,c⟩ :: ops) keep K e h Q):Ops call fuel base (⟨ix,dst,.call f l,none,at_,c⟩ :: ops) keep K e h Q:=k
theorem tagEq {x y:Opd} {t:EK} {b:Bool} (k:Ops call fuel base (⟨ix,dst,.eq t b x y,none,at_,c⟩ :: ops) keep K e h Q):Ops call fuel base (⟨ix,dst,.eq t b x y,none,at_,c⟩ :: ops) keep K e h Q:=k
theorem tagIa {x y:Opd} {m n:Nat} (k:Ops call fuel base (⟨ix,dst,.ixaA m n x y,none,at_,c⟩ :: ops) keep K e h Q):Ops call fuel base (⟨ix,dst,.ixaA m n x y,none,at_,c⟩ :: ops) keep K e h Q:=k
theorem tagIs {x y:Opd} {n:Nat} (k:Ops call fuel base (⟨ix,dst,.ixaS n x y,none,at_,c⟩ :: ops) keep K e h Q):Ops call fuel base (⟨ix,dst,.ixaS n x y,none,at_,c⟩ :: ops) keep K e h Q:=k
theorem tagNil (k:Ops call fuel base [] keep K e h Q):Ops call fuel base [] keep K e h Q:=k
theorem Ops.loadK {a:Opd} {b o:Nat} {l:List V} {ro:Bool} {v:V} (ha:a.ev e=some (.ptr (some (b,o)))) (oo:Old h0 h) (k:Kc h0 b l ro) (hv:l[o]?=some v) (kk:Ops call fuel base ops keep K (layv e dst v) h Q) :
  Ops call fuel base (⟨ix,dst,.load1 a,none,at_,[]⟩ :: ops) keep K e h Q:=Ops.load1 ha (k.old oo).at_ hv kk
theorem chk_1 {d:Nat} {a:Opd} {g:Option (Nat × Bool)} {r:List (Nat × I × Option (Nat × Bool))} {b o:Nat} {l:List V} {ro:Bool} {v:V} (ha:a.ev e=some (.ptr (some (b,o)))) (oo:Old h0 h) (k:Kc h0 b l ro) (hv:l[o]?=some v)
  (hd:e.get d=some v) (kk:jaA e h r=true):jaA e h ((d,.load1 a,g) :: r)=true:=jau ha (k.old oo).at_ hv hd kk
theorem Run.region2 {ops:List Ins} {keep:List Nat} (k : ∀ HR,Old h HR->HR.nx=h.nx+2->Ops call fuel h.nx ops keep K e HR Q):Run call fuel (.region 2 ops keep) K e h Q :=
 Run.region (k _ ⟨by simp [H.reserve],fun _ _=>rfl⟩ rfl)
end
end Am
namespace Am.Sigs
open Am Go
theorem jlq {l:List Int} {i o:Nat} {x:Int} (h:l[i]?=some x) (ho:o=i):(ints l)[o]?=some (.i x):=by subst ho;simp [h]
section
variable {cl:Nat->Call} (hcl:Sem cl) {h:H} {ws:Ws}
include hcl
end
structure RS (h g:H) (u v:V) (A B:List Int):Prop where
 a:Row h.nx g 1 u A.length (ints A)
 b:Row h.nx g 1 v B.length (ints B)
 ap : ∀ z,u.at?=some z->v.at?≠some z
 old:Old h g
theorem RS.keep {h g g':H} {u v:V} {A B:List Int} (r:RS h g u v A B) (o:Old g g'):RS h g' u v A B :=
 ⟨r.a.keep o.1 fun z hz=>o.2 z (r.a.at_ge hz).2,r.b.keep o.1 fun z hz=>o.2 z (r.b.at_ge hz).2,r.ap,r.old.trans o⟩
theorem RS.swap {h g:H} {u v:V} {A B:List Int} (r:RS h g u v A B):RS h g v u B A:=⟨r.b,r.a,fun z hz e=>r.ap z e hz,r.old⟩
theorem RS.push {h g g':H} {u v u':V} {A B:List Int} {x:Int} (r:RS h g u v A B) (row:Row h.nx g' 1 u' (A.length+1) (ints A++[.i x])) (x1:g.nx<=g'.nx) (z1 : ∀ q,u'.at?=some q->g.nx<=q) (y1 : ∀ j,j<g.nx->u.at?≠some j->g'.get j=g.get j):RS h g' u' v (A++[x]) B:=by
 have hn:=r.old.1
 refine ⟨by simpa using row,r.b.keep x1 fun z hz=>y1 z (r.b.at_ge hz).2 fun e=>r.ap z e hz,fun z hz e=>?_,⟨by omega,fun j hj=>?_⟩⟩
 ·have:=z1 z hz
  have:=(r.b.at_ge e).2
  omega
 ·rw [y1 j om fun e=>by have:=(r.a.at_ge e).1;omega,r.old.2 j hj]
theorem jfP {f:Nat->Bool} {m:Nat} (h : ∀ i,m<=i->f i=false) : ∀ {n:Nat},m<=n->jat f n=jat f m
 | 0,hn=>by
  obtain rfl:m=0:=by omega
  rfl
 | n+1,hn=>by
  by_cases e:m=n+1
  ·rw [e]
  ·rw [jat,h n om]
   simpa using jfP h (show m<=n by omega)
section
variable {cl:Nat->Call} (hcl:Sem cl) {h:H} {ws:Ws}
include hcl
theorem jiv {d N:Nat} {lv:V} {L:List Int} {n:Int} (hd:1<=d) (r:Row N h 1 lv L.length (ints L)) (hl:L.length<=10000):cl d (.fn F.jbD) [lv,.i n] h=some (.bool (decide (n∈L)),h):=by
 obtain ⟨c,⟨a,rfl⟩,hr⟩:=r.shape
 refine jam (at_ hcl om rfl rfl rfl ?_)
 clear r
 refine qx1 ?_
 refine Run.loop (fun m e g=>∃ i:Nat,m=L.length-i/\i<=L.length/\(∀ (j:Nat) (y:Int),j<i->L[j]?=some y->y≠n)/\e=[(0,.slice a L.length c),(1,.i n),(5,.i (i:Int))]/\g=h)
  (k:=L.length) Ze ⟨0,rfl,by omega,fun j y hj=>by omega,rfl,rfl⟩ ?_
 rintro _ _ h ⟨i,rfl,hi,hno,rfl,rfl⟩ f ih
 by_cases hlt:(i:Int)<(L.length:Int)
 case neg=>
  have hn:n ∉ L:=fun hm=>by
   obtain ⟨j,hj⟩:=List.mem_iff_getElem?.1 hm
   refine hno j n ?_ hj rfl
   rcases zy j L.length with hh | hh
   ·omega
   ·rw [zd hh] at hj;cases hj
  rw [decide_eq_false hn]
  clear ih hr hno
  refine qx1 ?_
  exact ⟨rfl,rfl⟩
 obtain ⟨y,hy⟩:=jmy (l:=L) (i:=i) om
 obtain ⟨q,_,lq,e,gq⟩:=hr i om
 cases e
 have hq:(ints L)[0+(i:Int).toNat*1]?=some (.i y):=jlq hy om
 by_cases hyn:y=n
 ·have hm:n∈L:=by rw [<- hyn];exact zc hy
  rw [decide_eq_true hm]
  clear ih hr hno hm
  refine qx1 ?_
  exact ⟨rfl,rfl⟩
 ·have hi1:(i:Int)+1=((i+1:Nat):Int):=by omega
  have hno2 : ∀ (j:Nat) (z:Int),j<i+1->L[j]?=some z->z≠n:=fun j z hj hz=>by
   by_cases e:j=i
   ·subst e;rw [hy] at hz;cases hz;exact hyn
   ·exact hno j z om hz
  clear hr hno
  refine qx1 ?_
  rw [hi1]
  exact ih (L.length-(i+1)) om _ _ ⟨i+1,rfl,by omega,hno2,rfl,rfl⟩
theorem jjl {d N M:Nat} {u v:V} {L:List Int} (hd:1<=d) (a:Row N h 1 u L.length (ints L)) (b:Row M h 1 v L.length (ints L)) (hl:L.length<=10000):cl d (.fn F.je7) [u,v] h=some (.bool true,h):=by
 obtain ⟨c,⟨aa,rfl⟩,ha⟩:=a.shape
 obtain ⟨c',⟨ab,rfl⟩,hb⟩:=b.shape
 refine jam (at_ hcl om rfl rfl rfl ?_)
 have n1 : ¬ (L.length:Int)≠(L.length:Int):=fun e=>e rfl
 clear a b
 refine qx1 ?_
 refine Run.loop (fun m e g=>∃ i:Nat,m=L.length-i/\i<=L.length/\e=[(0,.slice aa L.length c),(1,.slice ab L.length c'),(5,.i (i:Int))]/\g=h)
  (k:=L.length) Ze ⟨0,rfl,by omega,rfl,rfl⟩ ?_
 rintro _ _ h ⟨i,rfl,hi,rfl,rfl⟩ f ih
 by_cases hlt:(i:Int)<(L.length:Int)
 case neg=>
  clear ih ha hb
  refine qx1 ?_
  exact ⟨rfl,rfl⟩
 obtain ⟨y,hy⟩:=jmy (l:=L) (i:=i) om
 obtain ⟨q,_,_,e,gq⟩:=ha i om
 cases e
 obtain ⟨q',_,_,e,gq'⟩:=hb i om
 cases e
 have hq:(ints L)[0+(i:Int).toNat*1]?=some (.i y):=jlq hy om
 have n2 : ¬ y≠y:=fun e=>e rfl
 have hi1:(i:Int)+1=((i+1:Nat):Int):=by omega
 clear ha hb
 refine qx1 ?_
 rw [hi1]
 exact ih (L.length-(i+1)) om _ _ ⟨i+1,rfl,by omega,rfl,rfl⟩
end
section
variable {cl:Nat->Call} (hcl:Sem cl) {h g:H} {ws:Ws}
include hcl
def DM (h:H) (iv rv wv:V) (top:Int) (i bx:Nat) (A B:List Int) (c:List V):Post:=fun x e g'=>x = .normal /\ ∃ u v sb,e=(0,iv) :: (1,.i top) :: (2,rv) :: (3,wv) :: (12,u) :: (13,v) :: (14,.i (i:Int)) :: (15,.p bx 0) :: sb/\RS h g' u v A B/\g'.get bx=some (.cells c false)/\bx<g'.nx/\u.at?≠some bx/\v.at?≠some bx
theorem ds_r {d i bx:Nat} {iv rv wv u v:V} {top:Int} {b:Bool} {r:Rdy} {A B:List Int} {sb:Env} (hi:i<=100) (hA:A.length<=1000) (rs:RS h g u v A B) (e1:cl d (.fn F.jbD) [rv,.i (i:Int)] g=some (.bool b,g)) (gb:g.get bx=some (.cells r.cells false)) (lb:bx<g.nx) (ub:u.at?≠some bx) (vb:v.at?≠some bx) :
  Run (cl d) fuel (.seq (.region 0 [.mk4 0 (some 64) (.mv (.t 2)) none,.mk4 1 (some 65) (.mv (.t 14)) none,.mk4 2 (some 66) (.call F.jbD [(.t 64),(.t 65)]) none,.mk4 3 (some 67) (.mv (.t 66)) none,.mk4 4 (some 68) (.faddr 1 (.t 15)) (some (67,true)),.mk4 5 (some 69) (.load1 (.t 68)) (some (67,true)),.mk4 6 (some 70) (.mv (.t 69)) (some (67,true)),.mk4 7 (some 71) (.faddr 3 (.t 15)) (some (70,false)),.mk4 8 (some 72) (.load1 (.t 71)) (some (70,false)),.mk4 9 (some 73) (.pick (.t 70) (.c (.bool true)) (.t 72)) (some (67,true)),.mk4 10 (some 74) (.mv (.t 73)) (some (67,true)),.mk4 11 (some 75) (.faddr 4 (.t 15)) (some (74,false)),.mk4 12 (some 76) (.load1 (.t 75)) (some (74,false)),.mk4 13 (some 77) (.pick (.t 74) (.c (.bool true)) (.t 76)) (some (67,true)),.mk4 14 (some 78) (.pick (.t 67) (.t 77) (.c (.bool false))) none] [0,1,2,3,12,13,14,15,78]) c14_1) [] ((0,iv) :: (1,.i top) :: (2,rv) :: (3,wv) :: (12,u) :: (13,v) :: (14,.i (i:Int)) :: (15,.p bx 0) :: sb) g
   (DM h iv rv wv top i bx (A++if b&&inR r then [(i:Int)] else []) B r.cells):=by
 obtain ⟨C,hC⟩ : ∃ C,C=c14_1:=⟨_,rfl⟩
 rw [<- hC]
 refine zab (Run.cut (fun x e g'=>x = .normal/\e=[(0,iv),(1,.i top),(2,rv),(3,wv),(12,u),(13,v),(14,.i (i:Int)),(15,.p bx 0),(78,.bool (b&&inR r))]/\g'=g) ?_ ?_)
 ·obtain ⟨op,inn,out,hup,err,rd,wr⟩:=r
  simp only [Rdy.cells] at gb
  clear rs ub vb
  cases b
  ·refine qx1 ?_
   exact End.nil ⟨rfl,rfl,rfl⟩
  cases inn
  ·cases hup
   ·cases err
    all_goals
     repeat' (first|refine qxy ?_|refine zbf rfl (fun _=>?_) fun _=>?_|refine zbg rfl (fun _=>?_) fun _=>?_|refine zbh rfl (fun _=>?_) fun _=>?_|refine zbm rfl (fun _=>?_) fun _=>?_|refine zbn rfl (fun _=>?_) fun _=>?_)
     exact End.nil ⟨rfl,rfl,rfl⟩
   ·refine qx1 ?_
    exact End.nil ⟨rfl,rfl,rfl⟩
  ·refine qx1 ?_
   exact End.nil ⟨rfl,rfl,rfl⟩
 ·rintro _ _ _ ⟨rfl,rfl,rfl⟩
  generalize (b&&inR r)=q
  refine End.seq ?_
  rw [hC]
  cases q
  ·refine qx1 ?_
   exact End.nil ⟨rfl,u,v,_,rfl,by simpa using rs,gb,lb,ub,vb⟩
  ·have on:=rs.old.1
   refine qx1 ?_
   refine Ops.push (N:=h.nx) (new:=[.i (i:Int)]) rfl rfl rfl rfl om rfl rfl rs.a on om om fun u' g' row' x1 z1 y1=>?_
   refine qx1 ?_
   exact End.nil ⟨rfl,u',v,_,rfl,by simpa using rs.push row' x1 z1 y1,by rw [y1 _ lb ub,gb],by omega,fun e=>by have:=z1 _ e;omega,vb⟩
def DW (h:H) (iv rv wv:V) (top:Int) (i:Nat) (A B:List Int):Post:=fun x e g'=>x = .normal /\ ∃ u v sb,e=(0,iv) :: (1,.i top) :: (2,rv) :: (3,wv) :: (12,u) :: (13,v) :: (14,.i (i:Int)) :: sb/\RS h g' u v A B
theorem ds_w {d i bx:Nat} {iv rv wv u v:V} {top:Int} {b:Bool} {r:Rdy} {A B:List Int} {sb:Env} (hi:i<=100) (hB:B.length<=1000) (rs:RS h g u v A B) (e1:cl d (.fn F.jbD) [wv,.i (i:Int)] g=some (.bool b,g)) (gb:g.get bx=some (.cells r.cells false)) :
  Run (cl d) fuel c14_2 [] ((0,iv) :: (1,.i top) :: (2,rv) :: (3,wv) :: (12,u) :: (13,v) :: (14,.i (i:Int)) :: (15,.p bx 0) :: sb) g
   (DW h iv rv wv top i A (B++if b&&outR r then [(i:Int)] else [])):=by
 obtain ⟨C,hC⟩ : ∃ C,C=c14_0:=⟨_,rfl⟩
 simp only [c14_2,<- hC,yB]
 refine zab (Run.cut (fun x e g'=>x = .normal/\e=[(0,iv),(1,.i top),(2,rv),(3,wv),(12,u),(13,v),(14,.i (i:Int)),(97,.bool (b&&outR r))]/\g'=g) ?_ ?_)
 ·obtain ⟨op,inn,out,hup,err,rd,wr⟩:=r
  simp only [Rdy.cells] at gb
  clear rs
  cases b
  ·refine qx1 ?_
   exact End.nil ⟨rfl,rfl,rfl⟩
  cases out
  ·cases hup
   ·cases err
    all_goals
     repeat' (first|refine qxy ?_|refine zbf rfl (fun _=>?_) fun _=>?_|refine zbg rfl (fun _=>?_) fun _=>?_|refine zbh rfl (fun _=>?_) fun _=>?_|refine zbm rfl (fun _=>?_) fun _=>?_|refine zbn rfl (fun _=>?_) fun _=>?_)
     exact End.nil ⟨rfl,rfl,rfl⟩
   ·refine qx1 ?_
    exact End.nil ⟨rfl,rfl,rfl⟩
  ·refine qx1 ?_
   exact End.nil ⟨rfl,rfl,rfl⟩
 ·rintro _ _ _ ⟨rfl,rfl,rfl⟩
  generalize (b&&outR r)=q
  refine End.seq ?_
  rw [hC]
  cases q
  ·refine qx1 ?_
   exact End.nil ⟨rfl,u,v,_,rfl,by simpa using rs⟩
  ·have on:=rs.old.1
   refine qx1 ?_
   refine Ops.push (N:=h.nx) (new:=[.i (i:Int)]) rfl rfl rfl rfl om rfl rfl rs.b on om om fun v' g' row' x1 z1 y1=>?_
   refine qx1 ?_
   exact End.nil ⟨rfl,u,v',_,rfl,by simpa using (rs.swap.push row' x1 z1 y1).swap⟩
theorem ds_body {d i qi N2 N3:Nat} {ci:Cap} {rv wv u v:V} {top:Int} {Lr Lw A B:List Int} {sb:Env} (hd:1<=d) (hi:i<96) (hA:A.length<=1000) (hB:B.length<=1000) (rs:RS h g u v A B) (gi:g.get qi=some (.cells (jcz ws 96) false)) (rr:Row N2 h 1 rv Lr.length (ints Lr)) (rw_:Row N3 h 1 wv Lw.length (ints Lw)) (hl:Lr.length<=10000/\Lw.length<=10000) :
  Run (cl d) fuel c14_4 [] ((0,.slice (some (qi,0)) 96 ci) :: (1,.i top) :: (2,rv) :: (3,wv) :: (12,u) :: (13,v) :: (14,.i (i:Int)) :: sb) g
   (DW h (.slice (some (qi,0)) 96 ci) rv wv top i (A++if decide ((i:Int)∈Lr)&&inR (rdyS ws (i:Int)) then [(i:Int)] else []) (B++if decide ((i:Int)∈Lw)&&outR (rdyS ws (i:Int)) then [(i:Int)] else [])):=by
 have hrl:(jcz ws 96).length=672:=jfF ws 96
 have hrg:=jfG ws (n:=96) (i:=i) hi
 generalize jcz ws 96=cs at hrl hrg gi
 obtain ⟨C,hC⟩ : ∃ C,C=c14_3:=⟨_,rfl⟩
 simp only [c14_4,<- hC,yB]
 refine qx1 ?_
 refine Ops.loadN rfl gi (by rw [hrl];omega) ?_
 rw [show 0+(i:Int).toNat*7=i*7 by omega,hrg]
 refine Ops.make (ob := .cells Rdy.no.cells false) (mk:=fun b=>.p b 0) rfl rfl ?_
 refine Ops.storeN rfl rfl rfl rfl (jad _) (by decide) ?_
 rw [show jao Rdy.no.cells 0 (rdyS ws (i:Int)).cells=(rdyS ws (i:Int)).cells from rfl]
 have o1:Old g ((g.new (.cells Rdy.no.cells false)).set g.nx (.cells (rdyS ws (i:Int)).cells false)):=(Old.refl g).new.set (zq _)
 have b1:((g.new (.cells Rdy.no.cells false)).set g.nx (.cells (rdyS ws (i:Int)).cells false)).get g.nx=some (.cells (rdyS ws (i:Int)).cells false):=jab _
 have x1:((g.new (.cells Rdy.no.cells false)).set g.nx (.cells (rdyS ws (i:Int)).cells false)).nx=g.nx+1:=rfl
 generalize (g.new (.cells Rdy.no.cells false)).set g.nx (.cells (rdyS ws (i:Int)).cells false)=g1 at o1 b1 x1 ⊢
 have rs1:=rs.keep o1
 have er:=jiv hcl (d:=d) (n:=(i:Int)) hd (rr.keep rs1.old.1 fun z hz=>rs1.old.2 z (rr.at_ge hz).2) hl.1
 have T1:=fun sb=>ds_r (sb:=sb) (d:=d) (iv := .slice (some (qi,0)) 96 ci) (wv:=wv) (top:=top) (cl:=cl) hcl om hA rs1 er b1 om (fun e=>by have:=(rs.a.at_ge e).2;omega) (fun e=>by have:=(rs.b.at_ge e).2;omega)
 refine qx1 ?_
 rw [hC]
 refine zab (Run.cut _ (T1 _) ?_)
 rintro _ _ g2 ⟨rfl,u',v',sb',rfl,rs2,b2,l2,u2,v2⟩
 refine End.seq ?_
 have ew:=jiv hcl (d:=d) (h:=g2) (n:=(i:Int)) hd (rw_.keep rs2.old.1 fun z hz=>rs2.old.2 z (rw_.at_ge hz).2) hl.2
 exact ds_w hcl om hB rs2 ew b2
omit hcl in
theorem ofS_dec {L:List Int} {i:Nat} : ofS L i=decide ((i:Int)∈L):=rfl
omit hcl in
theorem jj9 {L:List Int} {q:Rdy->Bool} {top:Int} {i:Nat} (hi:(i:Int)<top):jat (selS ws (ofS L) q top) (i+1)=jat (selS ws (ofS L) q top) i++if decide ((i:Int)∈L)&&q (rdyS ws (i:Int)) then [(i:Int)] else []:=by
 rw [jat]
 congr 1
 show (if (ofS L i&&decide ((i:Int)<top)&&q (rdyS ws (i:Int)))=true then _ else _)=_
 rw [decide_eq_true hi,Bool.and_true,ofS_dec]
theorem jky {d N1 N2 N3:Nat} {iv rv wv:V} {top:Int} {Lr Lw:List Int} (hd:2<=d) (ri:Row N1 h 7 iv 96 (jcz ws 96)) (rr:Row N2 h 1 rv Lr.length (ints Lr)) (rw_:Row N3 h 1 wv Lw.length (ints Lw)) (hl:Lr.length<=10000/\Lw.length<=10000) :
  ∃ v' h',cl d (.fn F.jdQ) [iv,.i top,rv,wv] h=some (v',h')/\Old h h' /\ ∃ u v A B,v' = .tup [u,v,.i (jbi ws (ofS Lr) (ofS Lw) top)]/\Row h.nx h' 1 u A.length (ints A)/\Row h.nx h' 1 v B.length (ints B) /\
   (jbi ws (ofS Lr) (ofS Lw) top=0->A=jat (selS ws (ofS Lr) inR top) 64/\B=jat (selS ws (ofS Lw) outR top) 64)/\(jbi ws (ofS Lr) (ofS Lw) top≠0->A=[]/\B=[]):=by
 obtain ⟨ci,⟨ai,rfl⟩,hi⟩:=ri.shape
 obtain ⟨qi,_,li,ei,gi⟩:=hi 0 om
 cases ei
 replace gi:=Hd.mk gi
 have hrg:Hd (∀ i:Nat,i<96->(jcz ws 96)[0+(i:Int).toNat*7+0]?=some (.bool (rdyS ws (i:Int)).op)):=⟨fun i h96=>by
  have e:=jfG ws (n:=96) h96
  have:(((jcz ws 96).drop (i*7)).take 7)[0]?=some (.bool (rdyS ws (i:Int)).op):=by rw [e];rfl
  rw [List.getElem?_take,if_pos om,zm] at this
  rw [show 0+(i:Int).toNat*7+0=i*7+0 by omega];exact this⟩
 obtain ⟨C,hC⟩ : ∃ C,C=c14_4:=⟨_,rfl⟩
 clear ri hi
 refine at_ hcl om rfl rfl rfl ?_
 simp only [c14,c14_9,c14_6,c14_5,<- hC,yB,yC]
 by_cases t0:top<0
 ·have hE:jbi ws (ofS Lr) (ofS Lw) top=2:=if_pos (.inl t0)
  rw [hE]
  clear rr rw_
  refine qx1 ?_
  exact ⟨Old.refl h,.nils,.nils,[],[],rfl,Row.nil _ _ _,Row.nil _ _ _,fun e=>by omega,fun _=>⟨rfl,rfl⟩⟩
 by_cases t1:top>64
 ·have hE:jbi ws (ofS Lr) (ofS Lw) top=2:=if_pos (.inr om)
  rw [hE]
  clear rr rw_
  refine qx1 ?_
  exact ⟨Old.refl h,.nils,.nils,[],[],rfl,Row.nil _ _ _,Row.nil _ _ _,fun e=>by omega,fun _=>⟨rfl,rfl⟩⟩
 have hE1:jcK ws (ofS Lr) (ofS Lw) top->jbi ws (ofS Lr) (ofS Lw) top=110:=fun hc=>by unfold jbi;rw [if_neg om,if_pos hc]
 have hE0 : ¬ jcK ws (ofS Lr) (ofS Lw) top->jbi ws (ofS Lr) (ofS Lw) top=0:=fun hc=>by unfold jbi;rw [if_neg om,if_neg hc]
 have rr':=Hd.mk rr
 have rw':=Hd.mk rw_
 clear rr rw_
 refine qx1 ?_
 refine Run.loop (fun m e g=>∃ i:Nat,m=64-i/\(i:Int)<=top/\(∀ m:Nat,m<i -> ¬ (askS (ofS Lr) (ofS Lw) top m=true/\(rdyS ws (m:Int)).op=false))/\e=[(0,.slice (some (qi,0)) 96 ci),(1,.i top),(2,rv),(3,wv),(11,.i (i:Int))]/\g=h)
  (k:=64) Ze ⟨0,rfl,by omega,fun m hm=>by omega,rfl,rfl⟩ ?_
 rintro _ _ h ⟨i,rfl,hit,hno,rfl,rfl⟩ f ih
 by_cases hlt:(i:Int)<top
 case pos=>
  have er:=jiv hcl (d:=d-1) (n:=(i:Int)) om rr'.g hl.1
  have ew:=jiv hcl (d:=d-1) (n:=(i:Int)) om rw'.g hl.2
  have hi1:(i:Int)+1=((i+1:Nat):Int):=by omega
  have i96 : ¬ (i:Int)>=(96:Nat):=by omega
  have gq:=gi.g
  have rq:=hrg.g i om
  have hask:askS (ofS Lr) (ofS Lw) top i=(decide ((i:Int)∈Lr)||decide ((i:Int)∈Lw)):=by
   show ((ofS Lr i||ofS Lw i)&&decide ((i:Int)<top))=_
   rw [decide_eq_true hlt,Bool.and_true];rfl
  have next : ¬ (askS (ofS Lr) (ofS Lw) top i=true/\(rdyS ws (i:Int)).op=false) -> ∀ m:Nat,m<i+1 -> ¬ (askS (ofS Lr) (ofS Lw) top m=true/\(rdyS ws (m:Int)).op=false):=fun hn m hm=>by
   by_cases e:m=i
   ·rw [e];exact hn
   ·exact hno m om
  generalize jcz ws 96=cs at gq rq
  generalize hop:(rdyS ws (i:Int)).op=op at rq next
  generalize hbr:decide ((i:Int)∈Lr)=br at er hask
  generalize hbw:decide ((i:Int)∈Lw)=bw at ew hask
  have stop:askS (ofS Lr) (ofS Lw) top i=true->op=false->jbi ws (ofS Lr) (ofS Lw) top=110:=fun h1 h2=>hE1 ⟨i,by omega,h1,by rw [hop,h2]⟩
  have go:(br||bw)=true/\op=false \/ ¬ ((br||bw)=true/\op=false):=Classical.em _
  clear hno rr' rw' hrg gi hE0 hE1
  rcases go with ⟨ho,rfl⟩ | ho
  ·have hE:=stop (by rw [hask];exact ho) rfl
   rw [hE]
   clear ih next stop hask hbr hbw
   cases br
   ·cases bw
    ·cases ho
    ·refine qx1 ?_
     exact ⟨Old.refl h,.nils,.nils,[],[],rfl,Row.nil _ _ _,Row.nil _ _ _,fun e=>by omega,fun _=>⟨rfl,rfl⟩⟩
   ·clear ew
    refine qx1 ?_
    exact ⟨Old.refl h,.nils,.nils,[],[],rfl,Row.nil _ _ _,Row.nil _ _ _,fun e=>by omega,fun _=>⟨rfl,rfl⟩⟩
  ·have hn:=next (by rw [hask];exact ho)
   clear next stop hask hbr hbw
   cases br
   ·cases bw
    ·refine qx1 ?_
     rw [hi1]
     exact ih (64-(i+1)) om _ _ ⟨i+1,rfl,by omega,hn,rfl,rfl⟩
    ·cases op
     ·exact absurd ⟨rfl,rfl⟩ ho
     ·refine qx1 ?_
      rw [hi1]
      exact ih (64-(i+1)) om _ _ ⟨i+1,rfl,by omega,hn,rfl,rfl⟩
   ·cases op
    ·exact absurd ⟨rfl,rfl⟩ ho
    ·clear ew
     refine qx1 ?_
     rw [hi1]
     exact ih (64-(i+1)) om _ _ ⟨i+1,rfl,by omega,hn,rfl,rfl⟩
 obtain ⟨tn,rfl⟩:=zz (show 0<=top by omega)
 obtain rfl:i=tn:=by omega
 have hnc : ¬ jcK ws (ofS Lr) (ofS Lw) (i:Int):=by
  rintro ⟨m,hm,h1,h2⟩
  have hmt:m<i:=by
   simp only [askS,jcO,zp,decide_eq_true_eq] at h1
   omega
  exact hno m hmt ⟨h1,h2⟩
 rw [hE0 hnc]
 clear ih hno hnc hE0 hE1 hrg
 refine qx1 ?_
 refine Run.loop (fun m e g=>∃ (j:Nat) (u v:V),m=64-j/\j<=i/\e=[(0,.slice (some (qi,0)) 96 ci),(1,.i (i:Int)),(2,rv),(3,wv),(12,u),(13,v),(14,.i (j:Int))]/\RS h g u v (jat (selS ws (ofS Lr) inR i) j) (jat (selS ws (ofS Lw) outR i) j))
  (k:=64) Ze ⟨0,.nils,.nils,rfl,by omega,rfl,⟨Row.nil _ _ _,Row.nil _ _ _,(fun z hz=>by cases hz),Old.refl _⟩⟩ ?_
 rintro _ _ g ⟨j,u,v,rfl,hj,rfl,rs⟩ f' ih
 have lA:=jcJ (selS ws (ofS Lr) inR i) j
 have lB:=jcJ (selS ws (ofS Lw) outR i) j
 by_cases hlt2:(j:Int)<(i:Int)
 case neg=>
  obtain rfl:j=i:=by omega
  clear ih gi rr' rw'
  refine qx1 ?_
  have hz : ∀ (L:List Int) (q:Rdy->Bool) (m:Nat),j<=m->selS ws (ofS L) q (j:Int) m=false:=fun L q m hm=>by
   unfold selS
   rw [decide_eq_false om];simp
  exact ⟨rs.old,u,v,_,_,rfl,rs.a,rs.b,fun _=>⟨(jfP (hz _ _) om).symm,(jfP (hz _ _) om).symm⟩,fun e=>absurd rfl e⟩
 have j96:(j:Int)<(96:Nat):=by omega
 have hj1:(j:Int)+1=((j+1:Nat):Int):=by omega
 have T:=fun sb=>ds_body (sb:=sb) hcl (d:=d-1) (i:=j) (ci:=ci) (rv:=rv) (wv:=wv) (top:=(i:Int)) om om om om rs (by rw [rs.old.2 _ li];exact gi.g) rr'.g rw'.g hl
 rw [<- jj9 hlt2,<- jj9 hlt2,<- hC] at T
 clear gi rr' rw'
 refine qx1 ?_
 refine Run.cut _ (T _) ?_
 rintro _ _ g' ⟨rfl,u',v',sb',rfl,rs'⟩
 refine qx1 ?_
 rw [hj1]
 exact ih (64-(j+1)) om _ _ ⟨j+1,u',v',rfl,by omega,rfl,rs'⟩
end
end Am.Sigs
namespace Am
open Go Am.Sigs
section
variable {call:Call} {fuel base:Nat} {K:List Fr} {e:Env} {h h' h0:H} {Q:Post} {ix:Nat} {dst:Option Nat} {ops:List Ins} {keep:List Nat} {at_:Option Nat} {c:List (Nat × I × Option (Nat × Bool))}
theorem Ops.loadS {a:Opd} {b:Nat} {f:Nat->Bool} (ha:a.ev e=some (.ptr (some (b,0)))) (o:Old h0 h) (k:Kc h0 b (setV f) false) (kk:Ops call fuel base ops keep K (layv e dst (.agg (setV f))) h Q) :
  Ops call fuel base (⟨ix,dst,.loadN 2 a,none,at_,[]⟩ :: ops) keep K e h Q:=Ops.loadN ha (k.old o).at_ (zq _) kk
theorem chk_set {d:Nat} {a:Opd} {g:Option (Nat × Bool)} {r:List (Nat × I × Option (Nat × Bool))} {b:Nat} {f:Nat->Bool} (ha:a.ev e=some (.ptr (some (b,0)))) (o:Old h0 h) (k:Kc h0 b (setV f) false)
  (hd:e.get d=some (.agg (setV f))) (kk:jaA e h r=true):jaA e h ((d,.loadN 2 a,g) :: r)=true:=by
 have hl:h.load b 0 2=some (setV f):=jce (k.old o).at_ (zq _)
 simp only [jaA,I.read,ha,hl,hd,V.same_refl,kk,Bool.and_true]
 cases wanted e g<;>rfl
theorem Ops.eqS {x y:Opd} {f g:Nat->Bool} (hx:x.ev e=some (.agg (setV f))) (hy:y.ev e=some (.agg (setV g))) (he:setV f=setV g) (kk:Ops call fuel base ops keep K (layv e dst (.bool true)) h Q) :
  Ops call fuel base (⟨ix,dst,.eq (.agg [.int .u32,.int .u32]) false x y,none,at_,[]⟩ :: ops) keep K e h Q:=by
 refine Ops.pure rfl ?_ kk
 simp only [I.pure,hx,hy,he,eqOp,cond_false]
 simp [jaY,jlo,setV]
theorem Ops.mkS {x:Opd} {f:Nat->Bool} {d i1 i2:Nat} (hx:x.ev ((d,.p h.nx 0) :: e)=some (.agg (setV f)))
  (kk : ∀ H5,Old h H5->Kc H5 h.nx (setV f) false->H5.nx=h.nx+1->Ops call fuel base ops keep K (layv ((d,.p h.nx 0) :: e) none .undef) H5 Q) :
  Ops call fuel base (⟨i1,some d,.alloc 2 [.int .u32 0,.int .u32 0],none,none,[]⟩ :: ⟨i2,none,.store 2 (.t d) x,none,none,[]⟩ :: ops) keep K e h Q:=by
 refine Ops.make rfl rfl ?_
 refine Ops.storeN (b:=h.nx) (o:=0) (l:=[.int .u32 0,.int .u32 0]) (by simp [layv,Opd.ev,Env.get]) hx rfl rfl (jad _) (zu rfl) ?_
 rw [jak (setV f) [.int .u32 0,.int .u32 0] rfl]
 exact kk _ ((Old.refl h).new.set (zq _)) ⟨Nat.lt_succ_self _,jab _⟩ rfl
theorem Ops.mk2S {x y:Opd} {f g:Nat->Bool} {d1 d2 i1 i2 i3 i4:Nat} {h8:H} (o:Old h8 h) (hn:h8.nx+2<=h.nx) (h12:d2≠d1) (hx:x.ev ((d2,.p (h8.nx+1) 0) :: (d1,.p (h8.nx+0) 0) :: e)=some (.agg (setV f))) (hy:y.ev ((d2,.p (h8.nx+1) 0) :: (d1,.p (h8.nx+0) 0) :: e)=some (.agg (setV g)))
  (kk : ∀ H5,Old h8 H5->Kc H5 (h8.nx+0) (setV f) false->Kc H5 (h8.nx+1) (setV g) false->H5.nx=h.nx->Ops call fuel h8.nx ops keep K ((d2,.p (h8.nx+1) 0) :: (d1,.p (h8.nx+0) 0) :: e) H5 Q) :
  Ops call fuel h8.nx (⟨i1,some d1,.alloc 2 [.int .u32 0,.int .u32 0],none,some 0,[]⟩ :: ⟨i2,some d2,.alloc 2 [.int .u32 0,.int .u32 0],none,some 1,[]⟩ :: ⟨i3,none,.store 2 (.t d1) x,none,none,[]⟩ :: ⟨i4,none,.store 2 (.t d2) y,none,none,[]⟩ :: ops) keep K e h Q:=by
 have e1:(Opd.t d1).ev ((d2,.p (h8.nx+1) 0) :: (d1,.p (h8.nx+0) 0) :: e)=some (.p (h8.nx+0) 0):=by
  have hb:Nat.beq d2 d1=false:=by
   cases hh:Nat.beq d2 d1
   ·rfl
   ·exact absurd (Nat.eq_of_beq_eq_true hh) h12
  simp [Opd.ev,Env.get,hb]
 refine Ops.make_at rfl rfl (Ops.make_at rfl rfl ?_)
 refine Ops.storeN (b:=h8.nx+0) (o:=0) (l:=[.int .u32 0,.int .u32 0]) e1 hx rfl rfl (by rw [jaa om,jab]) (zu rfl) ?_
 rw [jak (setV f) [.int .u32 0,.int .u32 0] rfl]
 refine Ops.storeN (b:=h8.nx+1) (o:=0) (l:=[.int .u32 0,.int .u32 0]) (by simp [layv,Opd.ev,Env.get]) hy rfl rfl (by rw [jaa om,jab]) (zu rfl) ?_
 rw [jak (setV g) [.int .u32 0,.int .u32 0] rfl]
 exact kk _ ((((o.set om).set om).set om).set om) ⟨by show h8.nx+0<h.nx;omega,by rw [jaa om,jab]⟩ ⟨by show h8.nx+1<h.nx;omega,jab _⟩ rfl
end
end Am
namespace Am.Sigs
open Am Go
theorem jnf {u:Nat} (h:u<10):dec u=[UInt8.ofNat (48+u)]:=by
 rw [jjO om,Lib.decDigits,dif_pos h]
theorem jnH {u:Nat} (h : ¬ u<10) (hu:u<18446744073709551616):dec u=dec (u/10)++[UInt8.ofNat (48+u%10)]:=by
 rw [jjO hu,jjO om,Lib.decDigits,dif_neg h]
theorem jng {u:Nat} : ∀ {m:Nat},u<10 ^ (m+1)->u<18446744073709551616->(dec u).length<=m+1:=by
 intro m
 induction m generalizing u with
 | zero=>intro h _;rw [jnf (by simpa using h)];simp
 | succ m ih=>
  intro h h2
  by_cases h3:u<10
  ·rw [jnf h3];simp
  ·rw [jnH h3 h2,zg]
   have:=ih (u:=u/10) (by rw [Nat.pow_succ] at h;omega) om
   simp;omega
section
variable {call:Call} {fuel base:Nat} {ops:List Ins} {keep:List Nat} {K:List Fr} {e:Env} {h:H} {Q:Post}
theorem Ops.str1 {i1 i2 d1 d2:Nat} {x:Opd} {n:Int} {b:UInt8} (hx:x.ev e=some (.int .u8 n)) (hb:n=(b.toNat:Int))
  (k:Ops call fuel base ops keep K (layv (layv e (some d1) (.slice (some (h.nx,0)) 1 (.fix 1))) (some d2) (.str [b])) (h.new (.cells [jc3 b] false)) Q) :
  Ops call fuel base (⟨i1,some d1,.bslice 1 1 [.int .u8 0] [(0,x)],none,none,[]⟩ :: ⟨i2,some d2,.ofBytes (.t d1),none,none,[]⟩ :: ops) keep K e h Q:=by
 subst hb
 refine Ops.make (ob := .cells [jc3 b] false) (mk:=fun b=>.slice (some (b,0)) 1 (.fix 1)) rfl ?_ ?_
 ·simp only [I.make,jb0,List.map,hx];rfl
 ·refine Ops.step (v := .str [b]) (h':=h.new (.cells [jc3 b] false)) (I.run_read rfl ?_) k
  have he:(Opd.t d1).ev (layv e (some d1) (.slice (some (h.nx,0)) 1 (.fix 1)))=some (.slice (some (h.nx,0)) 1 (.fix 1)):=by
   show (layv e (some d1) _).get d1=_
   rw [jb5];simp
  simp only [I.read,he]
  have:((1:Nat) == 0)=false:=rfl
  rw [this,cond_false,jce (jad _) Zd]
  simp [jdr,jge]
end
theorem jnz {m:Nat} (h:m<10):IntKind.u8.wrap (48+(m:Int))=((UInt8.ofNat (48+m)).toNat:Int):=by
 rw [UInt8.toNat_ofNat',IntKind.wrap_u8]
 omega
section
variable {cl:Nat->Call} (hcl:Sem cl)
include hcl
theorem jji {d u:Nat} {h:H} (hd:1<=d) (hu:u<18446744073709551616) :
  ∃ h',cl d (.fn F.jdR) [.int .u64 (u:Int)] h=some (.str (dec u),h')/\Old h h':=by
 refine jai (at_ hcl om rfl rfl rfl ?_)
 refine qx1 ?_
 refine Run.loop (fun m e g=>∃ (n:Nat) (s:List UInt8),n<10 ^ (m+1)/\m+s.length<=19/\n<18446744073709551616/\dec u=dec n++s/\e=[(0,.int .u64 (n:Int)),(3,.str s)]/\Old h g)
  (k:=19) Ze ⟨u,[],by omega,by simp,hu,by simp,rfl,Old.refl h⟩ ?_
 rintro m _ g ⟨n,s,hm,hsl,hn,hs,rfl,old⟩ f ih
 by_cases hlt:n<10
 ·have hlt' : ¬ (9:Int)<(n:Int):=by omega
  refine qx1 ?_
  refine Ops.str1 (b:=UInt8.ofNat (48+n)) rfl (jnz hlt) ?_
  refine qx1 ?_
  refine Ops.sadd rfl rfl Zc ?_
  refine qx1 ?_
  exact ⟨by rw [hs,jnf hlt],old.trans ⟨by simp,fun _ hj=>jac hj⟩⟩
 ·have hlt':(9:Int)<(n:Int):=by omega
  have hm0:m≠0:=by rintro rfl;simp at hm;omega
  have e1:IntKind.u8.wrap (IntKind.u64.wrap (48+(n:Int).tmod 10))=((UInt8.ofNat (48+n%10)).toNat:Int):=by
   have:(n:Int).tmod 10=((n%10:Nat):Int):=(Int.ofNat_tmod n 10).symm
   rw [this,IntKind.wrap_u64,<- jnz (m:=n%10) om]
   congr 1;omega
  refine qx1 ?_
  refine Ops.str1 (b:=UInt8.ofNat (48+n%10)) rfl e1 ?_
  refine qx1 ?_
  refine Ops.sadd rfl rfl Zc ?_
  refine qx1 ?_
  refine ih (m-1) om _ _ ⟨n/10,[UInt8.ofNat (48+n%10)]++s,?_,by simp;omega,by omega,by rw [hs,jnH hlt hn,List.append_assoc],?_,old.trans ⟨by simp,fun _ hj=>jac hj⟩⟩
  ·rw [show m-1+1=m by omega];rw [Nat.pow_succ] at hm;omega
  ·have:(n:Int).tdiv 10=((n/10:Nat):Int):=(Int.ofNat_tdiv n 10).symm
   rw [this,IntKind.wrap_u64,Int.emod_eq_of_lt om om]
theorem jbG {d u:Nat} {h:H} (hd:2<=d) (hu:u<9223372036854775808) :
  ∃ h',cl d (.fn F.jck) [.i (u:Int)] h=some (.str (dec u),h')/\Old h h':=by
 obtain ⟨h1,e1,o1⟩:=jji hcl (d:=d-1) (u:=u) (h:=h) om om
 have e0:IntKind.u64.wrap (u:Int)=(u:Int):=by rw [IntKind.wrap_u64,Int.emod_eq_of_lt om om]
 refine jai (at_ hcl om rfl rfl rfl ?_)
 refine qx1 ?_
 rw [e0]
 refine qx1 ?_
 exact ⟨rfl,o1⟩
end
abbrev hexT:List UInt8:=[48,49,50,51,52,53,54,55,56,57,97,98,99,100,101,102]
def hx (n:Nat):UInt8:=hexT.getD n 0
def hexS (l:List UInt8):List UInt8:=(l.map fun b=>[hx (b.toNat/16),hx (b.toNat%16)]).flatten
theorem jiC (l:List UInt8):(hexS l).length=2*l.length:=by
 induction l with
 | nil=>rfl
 | cons a l ih=>simp only [hexS,List.map_cons,List.flatten_cons,zg] at ih ⊢;rw [ih];simp;omega
theorem jjD {l:List UInt8} {i:Nat} {b:UInt8} (h:l[i]?=some b):hexS (l.take (i+1))=hexS (l.take i)++[hx (b.toNat/16),hx (b.toNat%16)]:=by
 rw [List.take_add_one,h]
 simp [hexS]
theorem jlr {n:Nat} (h:n<16):hexT[n]?=some (hx n):=by
 match n,h with
 | 0,_=>rfl | 1,_=>rfl | 2,_=>rfl | 3,_=>rfl | 4,_=>rfl | 5,_=>rfl | 6,_=>rfl | 7,_=>rfl
 | 8,_=>rfl | 9,_=>rfl | 10,_=>rfl | 11,_=>rfl | 12,_=>rfl | 13,_=>rfl | 14,_=>rfl | 15,_=>rfl
 | n+16,h=>exact absurd h om
section
variable {call:Call} {fuel base:Nat} {K:List Fr} {e:Env} {h:H} {Q:Post} {ix:Nat} {dst at_:Option Nat} {ops:List Ins} {keep:List Nat}
theorem Ops.ixHex {x i:Opd} {s:List UInt8} {k:IntKind} {n:Nat} {b:UInt8} (hx:x.ev e=some (.str s)) (hi:i.ev e=some (.int k (n:Int))) (hs:s[n]?=some b) (kk:Ops call fuel base ops keep K (layv e dst (.int .u8 (b.toNat:Int))) h Q) :
  Ops call fuel base (⟨ix,dst,.ixStr x i,none,at_,[]⟩ :: ops) keep K e h Q:=by
 refine Ops.pure rfl ?_ kk
 simp only [I.pure,hx,hi]
 have hlt:n<s.length:=by
  rcases zy n s.length with h | h
  ·exact h
  ·rw [zd h] at hs;cases hs
 have hb:jf0 (n:Int) s.length=true:=jcN.2 ⟨by omega,by omega⟩
 rw [hb]
 simp only [cond_true,zw,hs,jc3]
theorem Ops.bslice2_at {b:Nat} {x y:Opd} {xv yv z0 z1:V} (hx:x.ev e=some xv) (hy:y.ev e=some yv) (h1:xv.cells=[xv]) (h2:yv.cells=[yv])
  (k:Ops call fuel base ops keep K (layv e dst (.slice (some (base+b,0)) 2 (.fix 2))) (h.set (base+b) (.cells [xv,yv] false)) Q) :
  Ops call fuel base (⟨ix,dst,.bslice 1 2 [z0,z1] [(0,x),(1,y)],none,some b,[]⟩ :: ops) keep K e h Q:=by
 refine Ops.make_at (ob := .cells [xv,yv] false) (mk:=fun b=>.slice (some (b,0)) 2 (.fix 2)) rfl ?_ k
 have hf:jaV [z0,z1] [(0,1,xv),(1,1,yv)]=some [xv,yv]:=by
  simp [jaV,h1,h2,jao];rfl
 simp only [I.make,jb0,List.map,hx,hy,Nat.zero_mul,Nat.one_mul,hf]
end
section
variable {cl:Nat->Call} (hcl:Sem cl)
include hcl
theorem sp_hex {d N:Nat} {l:List UInt8} {v:V} {h:H} (hd:1<=d) (r:Row N h 1 v l.length (bts l)) (hl:l.length<=90000) :
  ∃ h',cl d (.fn F.world_hex) [v] h=some (.str (hexS l),h')/\Old h h':=by
 obtain ⟨a,c,rfl,hq⟩ : ∃ a c,v = .slice a l.length c/\(l≠[] -> ∃ q,a=some (q,0)/\q<h.nx/\h.get q=some (.cells (bts l) false)):=by
  rcases r with ⟨h2,e⟩ | ⟨q,h1,h2,rfl,h4,h5⟩
  ·rw [h2,e.2];exact ⟨none,.fix 0,rfl,fun h=>absurd (zn.1 h2) h⟩
  ·exact ⟨_,_,rfl,fun _=>⟨q,rfl,h2,h4⟩⟩
 refine jai (at_ hcl om rfl rfl rfl ?_)
 refine qx1 ?_
 refine Run.loop (fun m e g=>∃ (i:Nat) (v:V),m=l.length-i/\i<=l.length/\e=[(3,v),(6,.slice a l.length c),(7,.i (l.length:Int)),(8,.i (i:Int))]/\Row h.nx g 1 v (2*i) (bts (hexS (l.take i)))/\Old h g)
  (k:=l.length) Ze ⟨0,.nils,by omega,by omega,rfl,Row.nil _ _ _,Old.refl h⟩ ?_
 rintro _ _ g ⟨i,v,rfl,hi,rfl,row,old⟩ f ih
 by_cases hlt:i<l.length
 case neg=>
  obtain rfl:i=l.length:=by omega
  rw [List.take_length] at row
  refine qx1 ?_
  refine Ops.ofRow rfl row ?_
  refine qx1 ?_
  exact ⟨rfl,old⟩
 obtain ⟨q,rfl,hq1,hq2⟩:=hq (by rintro rfl;simp at hlt)
 have hq3:g.get q=some (.cells (bts l) false):=by rw [old.2 q hq1,hq2]
 obtain ⟨b,hb⟩ : ∃ b,l[i]?=some b:=⟨_,za hlt⟩
 have hb2:(bts l)[0+i*1]?=some (jc3 b):=by rw [Nat.zero_add,Nat.mul_one];simp [bts,hb]
 unfold jc3 at hb2
 refine qx1 ?_
 refine Run.region ?_
 refine qx1 ?_
 have e1:(b.toNat:Int).fdiv (2 ^ (Int.toNat 4).min IntKind.u8.bits)=((b.toNat/16:Nat):Int):=by
  show (b.toNat:Int).fdiv 16=_
  rw [Int.fdiv_eq_ediv_of_nonneg _ om];omega
 rw [e1]
 have hb256:=b.toNat_lt
 refine Ops.ixHex (n:=b.toNat/16) rfl rfl (jlr om) ?_
 refine qx1 ?_
 have e2:IntKind.u8.wrap ((BitVec.ofInt IntKind.u8.bits (b.toNat:Int) &&& BitVec.ofInt IntKind.u8.bits 15).toNat:Int)=((b.toNat%16:Nat):Int):=by
  have q1:(BitVec.ofInt IntKind.u8.bits (b.toNat:Int)).toNat=b.toNat:=by
   show (BitVec.ofInt 8 (b.toNat:Int)).toNat=b.toNat
   rw [BitVec.toNat_ofInt];omega
  have q2:(BitVec.ofInt IntKind.u8.bits 15).toNat=15:=rfl
  rw [BitVec.toNat_and,q1,q2,show (15:Nat)=2 ^ 4-1 from rfl,Nat.and_two_pow_sub_one_eq_mod,IntKind.wrap_u8]
  omega
 rw [e2]
 refine Ops.ixHex (n:=b.toNat%16) rfl rfl (jlr om) ?_
 refine Ops.bslice2_at (xv:=jc3 (hx (b.toNat/16))) (yv:=jc3 (hx (b.toNat%16))) rfl rfl rfl rfl ?_
 have row2:Row h.nx ((g.reserve 1).set (g.nx+0) (.cells [jc3 (hx (b.toNat/16)),jc3 (hx (b.toNat%16))] false)) 1 v (2*i) (bts (hexS (l.take i))):=by
  refine row.keep Zd fun z hz=>?_
  have:=(row.at_ge hz).2
  rw [jaa om,H.get_reserve]
 refine Ops.appendN (sb:=g.nx+0) (so:=0) (m:=2) (new:=[jc3 (hx (b.toNat/16)),jc3 (hx (b.toNat%16))]) rfl rfl row2 ?_ om (jab ..) Zd rfl rfl om om om fun v' h' r2 z1 z2 z3=>?_
 ·have:=old.1;simp;omega
 refine qx1 ?_
 refine ih (l.length-(i+1)) om _ _ ⟨i+1,v',rfl,by omega,rfl,?_,?_⟩
 ·rw [jjD hb,show 2*(i+1)=2*i+2 by omega]
  simpa [bts] using r2
 ·refine ⟨by have:=old.1;rw [z1];simp;omega,fun j hj=>?_⟩
  rw [z3 j (by have:=old.1;simp;omega) fun e=>by have:=(row.at_ge e).1;omega]
  have:=old.1
  rw [jaa om,H.get_reserve,old.2 j hj]
end
def Pw (h:H):Prop:=0<h.nx /\ ∃ l ro,h.get 0=some (.cells l ro)/\jjy 20 1 l=true
theorem Pw.old {h h':H} (p:Pw h) (o:Old h h'):Pw h':=⟨zr p.1 o.1,by obtain ⟨l,ro,h1,h2⟩:=p.2;exact ⟨l,ro,by rw [o.2 0 p.1,h1],h2⟩⟩
theorem Pw.ch {h h':H} {B:Nat->Prop} (p:Pw h) (c:Ch B h h') (h0 : ¬ B 0):Pw h':=⟨zr p.1 c.nx,by obtain ⟨l,ro,h1,h2⟩:=p.2;exact ⟨l,ro,by rw [c.get 0 p.1 h0,h1],h2⟩⟩
theorem jhR {h:H} {u:Nat} (p:Pw h):jcq 0 u h=some (.str (dec u),h):=by
 obtain ⟨_,l,ro,h1,h2⟩:=p
 unfold jcq
 cases Nat.blt u 100 with
 | true=>rfl
 | false=>simp only [cond_false,h1,h2,cond_true]
def jeO:Int->List UInt8
 | 0=>[110,111,110,101]
 | 1=>[105,110]
 | 2=>[111,117,116]
 | _=>[99,108,111,115,101,100]
theorem jj5 (i:Int):(jeO i).length<=6:=by unfold jeO;split<;>simp
def jh6 (r:Option (List UInt8)) (cap:Nat):List UInt8:=match r with
 | none=>[45]
 | some b=>hexS b++[47]++dec cap
def jbw (what:Int) (shut:Bool) (r:Option (List UInt8)) (cap:Nat):List (List UInt8):=jeO what :: ((if shut then [[115,104,117,116]] else [])++[jh6 r cap])
section
variable {cl:Nat->Call} (hcl:Sem cl)
include hcl
theorem jcC {d u:Nat} {h:H} (hd:1<=d) (hu:u<9223372036854775808) (p:Pw h):cl d (.fn F.jiZ) [.i (u:Int)] h=some (.str (dec u),h):=by
 rw [jnN hcl hd (p:=jj1 0) rfl]
 have h1:Nat.ble u 9223372036854775807=true:=Nat.ble_eq_true_of_le om
 show (bif Nat.ble u 9223372036854775807 then jcq 0 u h else none)=_
 rw [h1,cond_true,jhR p]
theorem w_FmtU {d u:Nat} {h:H} (hd:1<=d) (hu:u<18446744073709551616) (p:Pw h):cl d (.fn F.jfa) [.int .u64 (u:Int),.i 10] h=some (.str (dec u),h):=by
 rw [jnN hcl hd (p:=jj2 0) rfl]
 have h1:Nat.ble u 18446744073709551615=true:=Nat.ble_eq_true_of_le om
 show (bif Nat.ble u 18446744073709551615 then jcq 0 u h else none)=_
 rw [h1,cond_true,jhR p]
theorem w_Join {d b o n:Nat} {c:Cap} {h:H} {l:List V} {ro:Bool} {xs:List (List UInt8)} {s:List UInt8} (hd:1<=d) (hg:h.get b=some (.cells l ro)) (hx:(l.drop o).take n=xs.map V.str) (hn:xs.length=n) (hs:(Lib.join xs s).length<=100000000) (hn2:n<=1000000) :
  cl d (.fn F.jfX) [.slice (some (b,o)) n c,.str s] h=some (.str (Lib.join xs s),h):=by
 rw [jnN hcl hd (p:=ji6) rfl]
 have h1:(Nat.beq xs.length n&&(Nat.ble n 140737488355328&&Nat.ble (Lib.join xs s).length 140737488355328))=true:=by
  rw [show Nat.beq xs.length n=true by rw [hn];exact Nat.beq_refl n,Nat.ble_eq_true_of_le om,Nat.ble_eq_true_of_le om];rfl
 simp only [ji6]
 rw [hg]
 dsimp only
 rw [hx,jkX]
 dsimp only
 rw [h1,cond_true]
end
end Am.Sigs
