/- Our own library, part 21. -/
import Derived.Test.YtfjmannliblijaaGreatG20
import Derived.Test.YtfjmannliblijaaGreatG19
import Derived.Test.YtfjmannliblijaaGreatG15
import Derived.Test.YtfjmannliblijaaGreatG18
import Derived.Test.YtfjmannliblijaaGreatG11
set_option maxHeartbeats 8000000
set_option maxRecDepth 800
set_option linter.all false
namespace Am.Sigs
open Am Go
noncomputable def selS (ws:Ws) (F:Nat->Bool) (q:Rdy->Bool) (top:Int):Nat->Bool:=fun m=>F m&&decide ((m:Int)<top)&&q (rdyS ws (m:Int))
noncomputable def selK (ws:Ws) (F:Nat->Bool) (q:Rdy->Bool) (top:Int) (k:Nat):Nat->Bool:=fun m=>decide (m<k)&&selS ws F q top m
open Classical in
noncomputable def jcc (ws:Ws) (f g:Nat->Bool) (top:Int):Int:=if top<0\/64<top then 2 else if jdY ws f g top then 110 else 0
theorem jmW (ws:Ws) (F:Nat->Bool) (q:Rdy->Bool) (top:Int):setV (selK ws F q top 0)=[.int .u32 0,.int .u32 0]:=by
 rw [<- jeN];exact jbB fun i _=>by simp [selK]
theorem selK_64 (ws:Ws) (F:Nat->Bool) (q:Rdy->Bool) (top:Int):setV (selK ws F q top 64)=setV (selS ws F q top):=jbB fun i hi=>by simp [selK,hi]
theorem jhV {ws:Ws} {F:Nat->Bool} {q:Rdy->Bool} {top:Int} {k:Nat} (hk:selS ws F q top k=false):setV (selK ws F q top (k+1))=setV (selK ws F q top k):=jbB fun i _=>by
 unfold selK
 by_cases e:i=k
 ·rw [e,hk];simp
 ·rw [show decide (i<k+1)=decide (i<k) by simp;omega]
theorem jks {ws:Ws} {F:Nat->Bool} {q:Rdy->Bool} {top:Int} {k:Nat} (hk:selS ws F q top k=true) (h64:k<64):setV (selK ws F q top (k+1))=setV (jmI (selK ws F q top k) (k:Int)):=jbB fun i _=>by
 rw [jmI,if_pos (show fitS (k:Int) from ⟨by omega,by omega⟩),zu]
 unfold selK addS
 by_cases e:i=k
 ·rw [e,hk];simp
 ·rw [show decide (i<k+1)=decide (i<k) by simp;omega];simp [e]
theorem selS_not {ws:Ws} {f g:Nat->Bool} {top:Int} {m:Nat} (hk:askS f g top m=false):selS ws f inR top m=false/\selS ws g outR top m=false:=by
 simp only [askS,jcL,orS,Bool.and_eq_false_iff,Bool.or_eq_false_iff] at hk
 unfold selS
 rcases hk with ⟨a,b⟩ | c
 ·simp [a,b]
 ·simp [c]
theorem selS_is {ws:Ws} {f g:Nat->Bool} {top:Int} {m:Nat} (hk:askS f g top m=true):selS ws f inR top m=(f m&&inR (rdyS ws (m:Int)))/\selS ws g outR top m=(g m&&outR (rdyS ws (m:Int))):=by
 simp only [askS,jcL,zn] at hk
 unfold selS
 rw [hk.2];simp
theorem and_mask (a b c d:Bool):IntKind.i64.wrap ((BitVec.ofInt 64 ((if a then 2 else 0)+(if b then 4 else 0)) &&& BitVec.ofInt 64 ((if c then 2 else 0)+(if d then 4 else 0))).toNat:Int)=(if a&&c then 2 else 0)+(if b&&d then 4 else 0):=by
 cases a<;>cases b<;>cases c<;>cases d<;>decide
section
variable {cl:Nat->Call} (hcl:Sem cl) {h:H}
include hcl
variable {w s:Nat} {ow:Nat->Nat} {ws:Ws} {now:Int} {tb:Tb} {no:Option (Nat × Nat)} {f g:Nat->Bool}
omit hcl in
theorem jjB {d fuel b3 b4 b5:Nat} {H9:H} {vr vs:List V} {n er:Int} {Q:V->H->Prop} (k3:H9.get b3=some (.cells vr false)) (k4:H9.get b4=some (.cells vs false)) (k5:H9.get b5=some (.cells [.i n] false))
  (lr:vr.length=2) (ls:vs.length=2) (q:Q (.tup [.agg vr,.agg vs,.i n,.i er]) H9):End (cl d) fuel [] .ret [(8,.p b3 0),(9,.p b4 0),(10,.p b5 0),(11,.i er)] H9 (Fin c180.res Q):=by
 have e3 : ∀ v:List V,v.length=2->List.take 2 (List.drop 0 v)=v:=fun v hv=>by rw [zj,zg om]
 have r5:jda [(8,.p b3 0),(9,.p b4 0),(10,.p b5 0),(11,.i er)] H9 [.cell1 10,.tmp 11]=some [.i n,.i er]:=by
  show (match H9.load1 b5 0,some [V.i er] with | some v,some l=>some (v :: l) | _,_=>none)=_
  rw [jdw k5 rfl]
 have r3:=resN (e:=[(8,.p b3 0),(9,.p b4 0),(10,.p b5 0),(11,.i er)]) (s:=8) (n:=2) rfl k3 om (resN (s:=9) (n:=2) rfl k4 om r5)
 rw [e3 vr lr,e3 vs ls] at r3
 exact End.fin2 r3 q
theorem jiC {d:Nat} {top:Int} (hd:11<=d) (a:WSt h w s ow ws now tb no) (o:WsOk ws) :
  ∃ (R S:Nat->Bool) (h':H),cl d (.fn F.jfw) [.p w 0,.i top,.agg (setV f),.agg (setV g)] h=some (.tup [.agg (setV R),.agg (setV S),.i ((cntS R 64+cntS S 64:Nat):Int),.i (jcc ws f g top)],h')/\Old h h' /\
   (jcc ws f g top=0->R=selS ws f inR top/\S=selS ws g outR top)/\(jcc ws f g top≠0->R=(fun _=>false)/\S=(fun _=>false)):=by
 suffices q : ∃ v' h',cl d (.fn F.jfw) [.p w 0,.i top,.agg (setV f),.agg (setV g)] h=some (v',h')/\Old h h' /\ ∃ vr vs n,v' = .tup [.agg vr,.agg vs,.i n,.i (jcc ws f g top)] /\
   (jcc ws f g top=0->vr=setV (selS ws f inR top)/\vs=setV (selS ws g outR top)/\n=((cntS (selS ws f inR top) 64+cntS (selS ws g outR top) 64:Nat):Int))/\(jcc ws f g top≠0->vr=[.int .u32 0,.int .u32 0]/\vs=[.int .u32 0,.int .u32 0]/\n=0) by
  obtain ⟨_,h',e,og,vr,vs,n,rfl,q1,q2⟩:=q
  by_cases hz:jcc ws f g top=0
  ·obtain ⟨rfl,rfl,rfl⟩:=q1 hz
   exact ⟨_,_,h',e,og,fun _=>⟨rfl,rfl⟩,fun h=>absurd hz h⟩
  ·obtain ⟨rfl,rfl,rfl⟩:=q2 hz
   refine ⟨fun _=>false,fun _=>false,h',?_,og,fun h=>absurd h hz,fun _=>⟨rfl,rfl⟩⟩
   rw [jeN,show cntS (fun _=>false) 64=0 from rfl];exact e
 have oH:Old h ((((((h.new (.cells [.p w 0] false)).new (.cells (setV f) false)).new (.cells (setV g) false)).new (.cells [.int .u32 0,.int .u32 0] false)).new (.cells [.int .u32 0,.int .u32 0] false)).new (.cells [.i 0] false)):=(Old.refl h).new.new.new.new.new.new
 have b0:((((((h.new (.cells [.p w 0] false)).new (.cells (setV f) false)).new (.cells (setV g) false)).new (.cells [.int .u32 0,.int .u32 0] false)).new (.cells [.int .u32 0,.int .u32 0] false)).new (.cells [.i 0] false)).get h.nx=some (.cells [.p w 0] false):=qgt
 have b1:((((((h.new (.cells [.p w 0] false)).new (.cells (setV f) false)).new (.cells (setV g) false)).new (.cells [.int .u32 0,.int .u32 0] false)).new (.cells [.int .u32 0,.int .u32 0] false)).new (.cells [.i 0] false)).get (h.nx+1)=some (.cells (setV f) false):=qgt
 have b2:((((((h.new (.cells [.p w 0] false)).new (.cells (setV f) false)).new (.cells (setV g) false)).new (.cells [.int .u32 0,.int .u32 0] false)).new (.cells [.int .u32 0,.int .u32 0] false)).new (.cells [.i 0] false)).get (h.nx+2)=some (.cells (setV g) false):=qgt
 have b3:((((((h.new (.cells [.p w 0] false)).new (.cells (setV f) false)).new (.cells (setV g) false)).new (.cells [.int .u32 0,.int .u32 0] false)).new (.cells [.int .u32 0,.int .u32 0] false)).new (.cells [.i 0] false)).get (h.nx+3)=some (.cells [.int .u32 0,.int .u32 0] false):=qgt
 have b4:((((((h.new (.cells [.p w 0] false)).new (.cells (setV f) false)).new (.cells (setV g) false)).new (.cells [.int .u32 0,.int .u32 0] false)).new (.cells [.int .u32 0,.int .u32 0] false)).new (.cells [.i 0] false)).get (h.nx+4)=some (.cells [.int .u32 0,.int .u32 0] false):=qgt
 have b5:((((((h.new (.cells [.p w 0] false)).new (.cells (setV f) false)).new (.cells (setV g) false)).new (.cells [.int .u32 0,.int .u32 0] false)).new (.cells [.int .u32 0,.int .u32 0] false)).new (.cells [.i 0] false)).get (h.nx+5)=some (.cells [.i 0] false):=qgt
 have x1:((((((h.new (.cells [.p w 0] false)).new (.cells (setV f) false)).new (.cells (setV g) false)).new (.cells [.int .u32 0,.int .u32 0] false)).new (.cells [.int .u32 0,.int .u32 0] false)).new (.cells [.i 0] false)).nx=h.nx+6:=rfl
 refine at_ hcl om rfl rfl rfl ?_
 refine Run.seq (Run.region0 (Ops.make rfl rfl (Ops.make rfl rfl (Ops.make rfl rfl (Ops.make rfl rfl (Ops.make rfl rfl (Ops.make rfl rfl (Ops.mv rfl (Ops.nil qkp (End.seq ?_))))))))))
 change Run (cl (d-1)) fuel _ _ [(1,.i top),(4,.p h.nx 0),(6,.p (h.nx+1) 0),(7,.p (h.nx+2) 0),(8,.p (h.nx+3) 0),(9,.p (h.nx+4) 0),(10,.p (h.nx+5) 0)] ((((((h.new (.cells [.p w 0] false)).new (.cells (setV f) false)).new (.cells (setV g) false)).new (.cells [.int .u32 0,.int .u32 0] false)).new (.cells [.int .u32 0,.int .u32 0] false)).new (.cells [.i 0] false)) _
 generalize (((((h.new (.cells [.p w 0] false)).new (.cells (setV f) false)).new (.cells (setV g) false)).new (.cells [.int .u32 0,.int .u32 0] false)).new (.cells [.int .u32 0,.int .u32 0] false)).new (.cells [.i 0] false)=H0 at oH b0 b1 b2 b3 b4 b5 x1 ⊢
 have ax:=a.old oH
 have hx1:=oH.1
 refine Run.seq ?_
 by_cases ht:top<0\/64<top
 ·have he:jcc ws f g top=2:=if_pos ht
  rw [he]
  clear a ax o he
  have ht2:top<0\/(¬ top<0/\64<top):=by omega
  rcases ht2 with h1 | ⟨h1,h2⟩
  all_goals
   repeat' (first|refine qxy ?_|refine zbf rfl (fun _=>?_) fun _=>?_|refine zbg rfl (fun _=>?_) fun _=>?_|refine zbh rfl (fun _=>?_) fun _=>?_|refine zbm rfl (fun _=>?_) fun _=>?_|refine zbn rfl (fun _=>?_) fun _=>?_)
   refine Ops.loadN rfl b3 (zr rfl) ?_
   refine Ops.loadN rfl b4 (zr rfl) ?_
   refine Ops.storeN_chk (b:=h.nx+3) (o:=0) (vs:=[.int .u32 0,.int .u32 0]) rfl rfl rfl rfl b3 (zr rfl) ?_ ?_
   ·exact jc1 (b:=h.nx+4) (o:=0) (l:=[.int .u32 0,.int .u32 0]) (ro:=false) rfl (by rw [jaa om];exact b4) (zr rfl) rfl rfl jb3
   refine Ops.storeN (b:=h.nx+4) (o:=0) (vs:=[.int .u32 0,.int .u32 0]) rfl rfl rfl rfl (by rw [jaa om];exact b4) (zr rfl) ?_
   repeat' (first|refine qxy ?_|refine zbf rfl (fun _=>?_) fun _=>?_|refine zbg rfl (fun _=>?_) fun _=>?_|refine zbh rfl (fun _=>?_) fun _=>?_|refine zbm rfl (fun _=>?_) fun _=>?_|refine zbn rfl (fun _=>?_) fun _=>?_)
   refine Ops.store1 (b:=h.nx+5) (o:=0) (l:=[.i 0]) rfl rfl rfl (by rw [jaa om,jaa om];exact b5) Nat.zero_lt_one ?_
   have k3:(((H0.set (h.nx+3) (.cells [.int .u32 0,.int .u32 0] false)).set (h.nx+4) (.cells [.int .u32 0,.int .u32 0] false)).set (h.nx+5) (.cells [.i 0] false)).get (h.nx+3)=some (.cells [.int .u32 0,.int .u32 0] false):=by rw [jaa om,jaa om,jab]
   have k4:(((H0.set (h.nx+3) (.cells [.int .u32 0,.int .u32 0] false)).set (h.nx+4) (.cells [.int .u32 0,.int .u32 0] false)).set (h.nx+5) (.cells [.i 0] false)).get (h.nx+4)=some (.cells [.int .u32 0,.int .u32 0] false):=by rw [jaa om,jab]
   have k5:(((H0.set (h.nx+3) (.cells [.int .u32 0,.int .u32 0] false)).set (h.nx+4) (.cells [.int .u32 0,.int .u32 0] false)).set (h.nx+5) (.cells [.i 0] false)).get (h.nx+5)=some (.cells [.i 0] false):=jab _
   have o9:Old h (((H0.set (h.nx+3) (.cells [.int .u32 0,.int .u32 0] false)).set (h.nx+4) (.cells [.int .u32 0,.int .u32 0] false)).set (h.nx+5) (.cells [.i 0] false)):=((oH.set om).set om).set om
   change Ops _ _ _ _ _ _ _ (((H0.set (h.nx+3) (.cells [.int .u32 0,.int .u32 0] false)).set (h.nx+4) (.cells [.int .u32 0,.int .u32 0] false)).set (h.nx+5) (.cells [.i 0] false)) _
   generalize ((H0.set (h.nx+3) (.cells [.int .u32 0,.int .u32 0] false)).set (h.nx+4) (.cells [.int .u32 0,.int .u32 0] false)).set (h.nx+5) (.cells [.i 0] false)=H9 at k3 k4 k5 o9 ⊢
   repeat' (first|refine qxy ?_|refine zbf rfl (fun _=>?_) fun _=>?_|refine zbg rfl (fun _=>?_) fun _=>?_|refine zbh rfl (fun _=>?_) fun _=>?_|refine zbm rfl (fun _=>?_) fun _=>?_|refine zbn rfl (fun _=>?_) fun _=>?_)
   exact jjB k3 k4 k5 rfl rfl ⟨o9,_,_,_,rfl,fun e=>absurd e (by decide),fun _=>⟨rfl,rfl,rfl⟩⟩
 obtain ⟨n1,n2⟩ : ¬ top<0 /\ ¬ 64<top:=by omega
 obtain ⟨cb,h1,e1,hb,o1⟩:=sl_closed hcl (d:=d-1) (top:=top) (f:=f) (g:=g) (h:=H0) om ax o
 have c0:h1.get h.nx=some (.cells [.p w 0] false):=by rw [o1.2 _ om,b0]
 have c1:h1.get (h.nx+1)=some (.cells (setV f) false):=by rw [o1.2 _ om,b1]
 have c2:h1.get (h.nx+2)=some (.cells (setV g) false):=by rw [o1.2 _ om,b2]
 have c3:h1.get (h.nx+3)=some (.cells [.int .u32 0,.int .u32 0] false):=by rw [o1.2 _ om,b3]
 have c4:h1.get (h.nx+4)=some (.cells [.int .u32 0,.int .u32 0] false):=by rw [o1.2 _ om,b4]
 have c5:h1.get (h.nx+5)=some (.cells [.i 0] false):=by rw [o1.2 _ om,b5]
 have oX:=oH.trans o1
 have ay:=a.old oX
 have y1:=o1.1
 have hz:jcc ws f g top=if cb=true then 110 else 0:=by
  unfold jcc
  rw [if_neg ht]
  by_cases hc:jdY ws f g top
  ·rw [if_pos hc,if_pos (hb.2 hc)]
  ·rw [if_neg hc,if_neg (fun h=>hc (hb.1 h))]
 rw [hz]
 clear hb hz
 cases cb with
 | true=>
  rw [if_pos rfl]
  clear a ax ay o ht
  refine qx1 ?_
  refine Ops.loadN rfl b1 (zp _) ?_
  rw [show List.take 2 (List.drop 0 (setV f))=setV f from rfl]
  refine qx1 ?_
  refine Ops.loadN rfl b2 (zp _) ?_
  rw [show List.take 2 (List.drop 0 (setV g))=setV g from rfl]
  refine qx1 ?_
  refine Ops.loadN rfl c3 (zr rfl) ?_
  refine Ops.loadN rfl c4 (zr rfl) ?_
  refine Ops.storeN_chk (b:=h.nx+3) (o:=0) (vs:=[.int .u32 0,.int .u32 0]) rfl rfl rfl rfl c3 (zr rfl) ?_ ?_
  ·exact jc1 (b:=h.nx+4) (o:=0) (l:=[.int .u32 0,.int .u32 0]) (ro:=false) rfl (by rw [jaa om];exact c4) (zr rfl) rfl rfl jb3
  refine Ops.storeN (b:=h.nx+4) (o:=0) (vs:=[.int .u32 0,.int .u32 0]) rfl rfl rfl rfl (by rw [jaa om];exact c4) (zr rfl) ?_
  refine Ops.store1 (b:=h.nx+5) (o:=0) (l:=[.i 0]) rfl rfl rfl (by rw [jaa om,jaa om];exact c5) Nat.zero_lt_one ?_
  have k3:(((h1.set (h.nx+3) (.cells [.int .u32 0,.int .u32 0] false)).set (h.nx+4) (.cells [.int .u32 0,.int .u32 0] false)).set (h.nx+5) (.cells [.i 0] false)).get (h.nx+3)=some (.cells [.int .u32 0,.int .u32 0] false):=by rw [jaa om,jaa om,jab]
  have k4:(((h1.set (h.nx+3) (.cells [.int .u32 0,.int .u32 0] false)).set (h.nx+4) (.cells [.int .u32 0,.int .u32 0] false)).set (h.nx+5) (.cells [.i 0] false)).get (h.nx+4)=some (.cells [.int .u32 0,.int .u32 0] false):=by rw [jaa om,jab]
  have k5:(((h1.set (h.nx+3) (.cells [.int .u32 0,.int .u32 0] false)).set (h.nx+4) (.cells [.int .u32 0,.int .u32 0] false)).set (h.nx+5) (.cells [.i 0] false)).get (h.nx+5)=some (.cells [.i 0] false):=jab _
  have o9:Old h (((h1.set (h.nx+3) (.cells [.int .u32 0,.int .u32 0] false)).set (h.nx+4) (.cells [.int .u32 0,.int .u32 0] false)).set (h.nx+5) (.cells [.i 0] false)):=((oX.set om).set om).set om
  change Ops _ _ _ _ _ _ _ (((h1.set (h.nx+3) (.cells [.int .u32 0,.int .u32 0] false)).set (h.nx+4) (.cells [.int .u32 0,.int .u32 0] false)).set (h.nx+5) (.cells [.i 0] false)) _
  generalize ((h1.set (h.nx+3) (.cells [.int .u32 0,.int .u32 0] false)).set (h.nx+4) (.cells [.int .u32 0,.int .u32 0] false)).set (h.nx+5) (.cells [.i 0] false)=H9 at k3 k4 k5 o9 ⊢
  refine qx1 ?_
  exact jjB k3 k4 k5 rfl rfl ⟨o9,_,_,_,rfl,fun e=>absurd e (by decide),fun _=>⟨rfl,rfl,rfl⟩⟩
 | false=>
  rw [if_neg (by decide)]
  refine qx1 ?_
  refine Ops.loadN rfl b1 (zp _) ?_
  rw [show List.take 2 (List.drop 0 (setV f))=setV f from rfl]
  refine qx1 ?_
  refine Ops.loadN rfl b2 (zp _) ?_
  rw [show List.take 2 (List.drop 0 (setV g))=setV g from rfl]
  refine qx1 ?_
  refine Ops.loadN rfl c1 (zp _) ?_
  rw [show List.take 2 (List.drop 0 (setV f))=setV f from rfl]
  refine qx1 ?_
  refine Ops.loadN rfl c2 (zp _) ?_
  rw [show List.take 2 (List.drop 0 (setV g))=setV g from rfl]
  refine qx1 ?_
  refine Ops.callf rfl (jkr hcl (d:=d-1) (f:=f) (g:=g) om) ?_
  refine qx1 ?_
  have oH2:Old h (((h1.new (.cells [.i top] false)).new (.cells (setV f) false)).new (.cells (setV g) false)):=oX.new.new.new
  have d0:(((h1.new (.cells [.i top] false)).new (.cells (setV f) false)).new (.cells (setV g) false)).get h.nx=some (.cells [.p w 0] false):=by rw [jac Zc,jac Zc,jac om,c0]
  have d3:(((h1.new (.cells [.i top] false)).new (.cells (setV f) false)).new (.cells (setV g) false)).get (h.nx+3)=some (.cells [.int .u32 0,.int .u32 0] false):=by rw [jac Zc,jac Zc,jac om,c3]
  have d4:(((h1.new (.cells [.i top] false)).new (.cells (setV f) false)).new (.cells (setV g) false)).get (h.nx+4)=some (.cells [.int .u32 0,.int .u32 0] false):=by rw [jac Zc,jac Zc,jac om,c4]
  have d5:(((h1.new (.cells [.i top] false)).new (.cells (setV f) false)).new (.cells (setV g) false)).get (h.nx+5)=some (.cells [.i 0] false):=by rw [jac Zc,jac Zc,jac om,c5]
  have q0:(((h1.new (.cells [.i top] false)).new (.cells (setV f) false)).new (.cells (setV g) false)).get h1.nx=some (.cells [.i top] false):=qgt
  have q1:(((h1.new (.cells [.i top] false)).new (.cells (setV f) false)).new (.cells (setV g) false)).get (h1.nx+1)=some (.cells (setV f) false):=qgt
  have q2:(((h1.new (.cells [.i top] false)).new (.cells (setV f) false)).new (.cells (setV g) false)).get (h1.nx+2)=some (.cells (setV g) false):=qgt
  have x2:(((h1.new (.cells [.i top] false)).new (.cells (setV f) false)).new (.cells (setV g) false)).nx=h1.nx+3:=rfl
  generalize ((h1.new (.cells [.i top] false)).new (.cells (setV f) false)).new (.cells (setV g) false)=H2 at oH2 d0 d3 d4 d5 q0 q1 q2 x2 ⊢
  refine Run.rangeFunc_lo rfl qkp fun LO hLO=>?_
  rw [x2]
  have oL:Old h (H2.new (LO .ready none)):=oH2.new
  obtain ⟨v',h',hc,hIJ⟩:=jhy hcl (d:=d-1) (L:=h1.nx+3) (c1:=h1.nx+1) (c2:=h1.nx+2) (c3:=h1.nx) (f:=f) (g:=g) (top:=top) (h:=H2.new (LO .ready none)) om
   (fun m e=>e.get h.nx=some (.cells [.p w 0] false)/\e.get (h.nx+3)=some (.cells (setV (selK ws f inR top m)) false)/\e.get (h.nx+4)=some (.cells (setV (selK ws g outR top m)) false)/\e.get (h.nx+5)=some (.cells [.i ((cntS (selS ws f inR top) m+cntS (selS ws g outR top) m:Nat):Int)] false)/\e.get h1.nx=some (.cells [.i top] false)/\e.get (h1.nx+1)=some (.cells (setV f) false)/\e.get (h1.nx+2)=some (.cells (setV g) false)/\e.get (h1.nx+3)=some (LO .ready none)/\h1.nx+4<=e.nx/\Old h e)
   (fun _=>False)
   (fun m e ⟨_,_,_,_,p5,p6,p7,_,p9,_⟩=>⟨p6,p7,p5,by omega,by omega,by omega⟩)
   (by
    rintro m e e' ⟨p0,p1,p2,p3,p4,p5,p6,p7,p8,p9⟩ og
    exact ⟨by rw [og.2 _ om,p0],by rw [og.2 _ om,p1],by rw [og.2 _ om,p2],by rw [og.2 _ om,p3],by rw [og.2 _ om,p4],by rw [og.2 _ om,p5],by rw [og.2 _ om,p6],by rw [og.2 _ om,p7],zz p8 og.1,p9.trans og⟩)
   (by
    rintro m e hm hk ⟨p0,p1,p2,p3,p⟩
    obtain ⟨hkf,hkg⟩:=selS_not (ws:=ws) hk
    refine ⟨p0,by rw [jhV hkf,p1],by rw [jhV hkg,p2],?_,p⟩
    rw [cntS,cntS,hkf,hkg];simpa using p3)
   (by
    rintro m e hm hk ⟨p0,p1,p2,p3,p4,p5,p6,p7,p8,p9⟩
    have oq:Old h (e.set (h1.nx+3) (LO .busy none)):=p9.set om
    obtain ⟨e1,er,oe⟩:=jgg hcl (d:=d-1-1-1) (fd:=(m:Int)) om (a.old oq) o
    rw [jic] at er
    obtain ⟨e2,es,oe'⟩:=sl_is hcl (d:=d-1-1-1) (r:=rdyS ws (m:Int)) (h:=e1) om
    obtain ⟨hf,hg⟩:=selS_is (ws:=ws) hk
    have hA:=and_mask (f m) (g m) (inR (rdyS ws (m:Int))) (outR (rdyS ws (m:Int)))
    rw [<- hf,<- hg] at hA
    have hA:IntKind.i64.wrap ((BitVec.ofInt 64 (jmu f g m) &&& BitVec.ofInt 64 (isR (rdyS ws (m:Int)))).toNat:Int)=_:=hA
    have oe2:Old (e.set (h1.nx+3) (LO .busy none)) e2:=oe.trans oe'
    have r0 : ∀ j,j<e.nx->j≠h1.nx+3->e2.get j=e.get j:=fun j h1 h2=>by rw [oe2.2 _ (by simpa using h1),jaa h2]
    have r3:e2.get (h.nx+3)=some (.cells (setV (selK ws f inR top m)) false):=by rw [r0 _ om om,p1]
    have r4:e2.get (h.nx+4)=some (.cells (setV (selK ws g outR top m)) false):=by rw [r0 _ om om,p2]
    have r5:e2.get (h.nx+5)=some (.cells [.i ((cntS (selS ws f inR top) m+cntS (selS ws g outR top) m:Nat):Int)] false):=by rw [r0 _ om om,p3]
    have r7:e2.get (h1.nx+3)=some (LO .busy none):=by rw [oe2.2 _ Zc,jab]
    have ox:e.nx<=e2.nx:=by have:=oe2.1;simpa using this
    have of:Old h e2:=oq.trans oe2
    have fin : ∀ X:H,e.nx<=X.nx->(∀ j,j<e.nx->j≠h.nx+3->j≠h.nx+4->j≠h.nx+5->j≠h1.nx+3->X.get j=e.get j)->X.get (h.nx+3)=some (.cells (setV (selK ws f inR top (m+1))) false)->X.get (h.nx+4)=some (.cells (setV (selK ws g outR top (m+1))) false) ->
      X.get (h.nx+5)=some (.cells [.i ((cntS (selS ws f inR top) (m+1)+cntS (selS ws g outR top) (m+1):Nat):Int)] false) ->
      ((X.set (h1.nx+3) (LO .ready none)).get h.nx=some (.cells [.p w 0] false)/\(X.set (h1.nx+3) (LO .ready none)).get (h.nx+3)=some (.cells (setV (selK ws f inR top (m+1))) false)/\(X.set (h1.nx+3) (LO .ready none)).get (h.nx+4)=some (.cells (setV (selK ws g outR top (m+1))) false)/\(X.set (h1.nx+3) (LO .ready none)).get (h.nx+5)=some (.cells [.i ((cntS (selS ws f inR top) (m+1)+cntS (selS ws g outR top) (m+1):Nat):Int)] false)/\(X.set (h1.nx+3) (LO .ready none)).get h1.nx=some (.cells [.i top] false)/\(X.set (h1.nx+3) (LO .ready none)).get (h1.nx+1)=some (.cells (setV f) false)/\(X.set (h1.nx+3) (LO .ready none)).get (h1.nx+2)=some (.cells (setV g) false)/\(X.set (h1.nx+3) (LO .ready none)).get (h1.nx+3)=some (LO .ready none)/\h1.nx+4<=(X.set (h1.nx+3) (LO .ready none)).nx/\Old h (X.set (h1.nx+3) (LO .ready none)))/\OldN (H2.new (LO .ready none)).nx e (X.set (h1.nx+3) (LO .ready none)):=by
     intro X xn xo x3 x4 x5
     refine ⟨⟨?_,?_,?_,?_,?_,?_,?_,jab _,by simp;omega,⟨by simp;omega,fun j hj=>?_⟩⟩,by simpa using xn,fun j hj hj2=>?_⟩
     ·rw [jaa om,xo _ om om om om om,p0]
     ·rw [jaa om,x3]
     ·rw [jaa om,x4]
     ·rw [jaa om,x5]
     ·rw [jaa om,xo _ om om om om om,p4]
     ·rw [jaa om,xo _ om om om om om,p5]
     ·rw [jaa om,xo _ om om om om om,p6]
     ·rw [jaa om,xo _ om om om om om,p9.2 _ hj]
     ·have hj:h1.nx+3+1<=j:=by simpa [x2] using hj
      rw [jaa om,xo _ hj2 om om om om]
    have hN:cntS (selS ws f inR top) m+cntS (selS ws g outR top) m<=128:=by have:=jka (selS ws f inR top) m;have:=jka (selS ws g outR top) m;omega
    have hN1:cntS (selS ws f inR top) (m+1)+cntS (selS ws g outR top) (m+1)=cntS (selS ws f inR top) m+cntS (selS ws g outR top) m+(if selS ws f inR top m then 1 else 0)+(if selS ws g outR top m then 1 else 0):=by simp only [cntS];omega
    rw [hN1] at fin
    generalize cntS (selS ws f inR top) m+cntS (selS ws g outR top) m=n at r5 hN hN1 fin
    have yF:selS ws f inR top m=false->setV (selK ws f inR top (m+1))=setV (selK ws f inR top m):=fun h=>jhV h
    have yG:selS ws g outR top m=false->setV (selK ws g outR top (m+1))=setV (selK ws g outR top m):=fun h=>jhV h
    have wF : ∀ E,selS ws f inR top m=true -> ∃ E',cl (d-1-1-1) (.fn F.jdd) [.agg (setV (selK ws f inR top m)),.i (m:Int)] E=some (.tup [.agg (setV (selK ws f inR top (m+1))),.i 0],E')/\Old E E':=fun E hs=>by
     rw [jks hs hm]
     have:=jm2 hcl (d:=d-1-1-1) (f:=selK ws f inR top m) (fd:=(m:Int)) (h:=E) om
     rwa [if_pos (show fitS (m:Int) from ⟨by omega,by omega⟩)] at this
    have wG : ∀ E,selS ws g outR top m=true -> ∃ E',cl (d-1-1-1) (.fn F.jdd) [.agg (setV (selK ws g outR top m)),.i (m:Int)] E=some (.tup [.agg (setV (selK ws g outR top (m+1))),.i 0],E')/\Old E E':=fun E hs=>by
     rw [jks hs hm]
     have:=jm2 hcl (d:=d-1-1-1) (f:=selK ws g outR top m) (fd:=(m:Int)) (h:=E) om
     rwa [if_pos (show fitS (m:Int) from ⟨by omega,by omega⟩)] at this
    have lF:(setV (selK ws f inR top m)).length=2:=rfl
    have lG:(setV (selK ws g outR top m)).length=2:=rfl
    have lF1:(setV (selK ws f inR top (m+1))).length=2:=rfl
    have lG1:(setV (selK ws g outR top (m+1))).length=2:=rfl
    have aF1:(setV (selK ws f inR top (m+1))).all V.one=true:=rfl
    have aG1:(setV (selK ws g outR top (m+1))).all V.one=true:=rfl
    generalize jmu f g m=mk0 at hA ⊢
    generalize rdyS ws (m:Int)=r at er es hA hf hg
    have er:cl (d-1-1-1) (.fn F.jch) [.p w 0,.i (m:Int)] (e.set (h1.nx+3) (LO .busy none))=some (.agg r.cells,e1):=er
    generalize isR r=ri at es hA
    generalize r.cells=rc at er es
    refine ⟨true,?_⟩
    suffices q : ∃ v' g',cl (d-1-1) (.yld (h1.nx+3)) [.i (m:Int),.i mk0] e=some (v',g')/\(v' = .bool true/\(g'.get h.nx=some (.cells [.p w 0] false)/\g'.get (h.nx+3)=some (.cells (setV (selK ws f inR top (m+1))) false)/\g'.get (h.nx+4)=some (.cells (setV (selK ws g outR top (m+1))) false)/\g'.get (h.nx+5)=some (.cells [.i ((cntS (selS ws f inR top) (m+1)+cntS (selS ws g outR top) (m+1):Nat):Int)] false)/\g'.get h1.nx=some (.cells [.i top] false)/\g'.get (h1.nx+1)=some (.cells (setV f) false)/\g'.get (h1.nx+2)=some (.cells (setV g) false)/\g'.get (h1.nx+3)=some (LO .ready none)/\h1.nx+4<=g'.nx/\Old h g')/\OldN (H2.new (LO .ready none)).nx e g') by
     obtain ⟨_,g',e,rfl,q⟩:=q
     exact ⟨g',e,fun _=>q,fun e=>by cases e⟩
    refine yl_ hcl om hLO p7 rfl ?_
    clear a o ax ay hk hf hg oq oe oe'
    clear oH oH2 oL b0 b1 b2 b3 b4 b5 c0 c1 c2 c3 c4 c5 d0 d3 d4 d5 q0 q1 q2 ht n1 n2
    refine qx1 ?_
    refine End.nil ⟨rfl,p7,?_⟩
    clear p1 p2 p3 p4 p5 p6 p7 p9
    rw [hN1]
    generalize hT:setV (selK ws f inR top m)=tF at r3 yF wF lF
    generalize hT1:setV (selK ws f inR top (m+1))=tF1 at fin yF wF lF1 aF1 ⊢
    generalize hU:setV (selK ws g outR top m)=tG at r4 yG wG lG
    generalize hU1:setV (selK ws g outR top (m+1))=tG1 at fin yG wG lG1 aG1 ⊢
    have sF:List.take 2 (List.drop 0 tF)=tF:=by rw [zj,zg om]
    have sG:List.take 2 (List.drop 0 tG)=tG:=by rw [zj,zg om]
    clear hT hT1 hU hU1 hN1
    generalize selS ws f inR top m=bF at hA fin yF wF
    generalize selS ws g outR top m=bG at hA fin yG wG
    have hA:IntKind.i64.wrap ((BitVec.ofInt IntKind.i64.bits mk0 &&& BitVec.ofInt IntKind.i64.bits ri).toNat:Int)=(if bF then 2 else 0)+(if bG then 4 else 0):=hA
    have cF:IntKind.i64.wrap ((BitVec.ofInt IntKind.i64.bits (IntKind.i64.wrap ((BitVec.ofInt IntKind.i64.bits mk0 &&& BitVec.ofInt IntKind.i64.bits ri).toNat:Int)) &&& BitVec.ofInt IntKind.i64.bits 2).toNat:Int)=if bF then 2 else 0:=by
     rw [hA];cases bF<;>cases bG<;>decide
    have cG:IntKind.i64.wrap ((BitVec.ofInt IntKind.i64.bits (IntKind.i64.wrap ((BitVec.ofInt IntKind.i64.bits mk0 &&& BitVec.ofInt IntKind.i64.bits ri).toNat:Int)) &&& BitVec.ofInt IntKind.i64.bits 4).toNat:Int)=if bG then 4 else 0:=by
     rw [hA];cases bF<;>cases bG<;>decide
    clear hA
    cases bF with
    | false=>
     obtain rfl:=yF rfl
     have cF : ¬ IntKind.i64.wrap ((BitVec.ofInt IntKind.i64.bits (IntKind.i64.wrap ((BitVec.ofInt IntKind.i64.bits mk0 &&& BitVec.ofInt IntKind.i64.bits ri).toNat:Int)) &&& BitVec.ofInt IntKind.i64.bits 2).toNat:Int)≠0:=by rw [cF];decide
     clear yF wF
     cases bG with
     | false=>
      obtain rfl:=yG rfl
      have cG : ¬ IntKind.i64.wrap ((BitVec.ofInt IntKind.i64.bits (IntKind.i64.wrap ((BitVec.ofInt IntKind.i64.bits mk0 &&& BitVec.ofInt IntKind.i64.bits ri).toNat:Int)) &&& BitVec.ofInt IntKind.i64.bits 4).toNat:Int)≠0:=by rw [cG];decide
      clear yG wG
      have fin:=fin e2 ox (fun j h1 _ _ _ h2=>r0 j h1 h2) r3 r4 r5
      refine qx1 ?_
      refine End.nil ⟨⟨.busy,none,r7⟩,rfl,fin⟩
     | true=>
      have cG:IntKind.i64.wrap ((BitVec.ofInt IntKind.i64.bits (IntKind.i64.wrap ((BitVec.ofInt IntKind.i64.bits mk0 &&& BitVec.ofInt IntKind.i64.bits ri).toNat:Int)) &&& BitVec.ofInt IntKind.i64.bits 4).toNat:Int)≠0:=by rw [cG];decide
      clear yG
      obtain ⟨e4,ew,o4⟩:=wG e2 rfl
      clear wG
      have z4:e4.get (h.nx+4)=some (.cells tG false):=by rw [o4.2 _ om,r4]
      have z5:e4.get (h.nx+5)=some (.cells [.i ((n:Nat):Int)] false):=by rw [o4.2 _ om,r5]
      have zx:=o4.1
      have fin:=fin ((e4.set (h.nx+4) (.cells tG1 false)).set (h.nx+5) (.cells [.i ((n:Int)+1)] false)) Zc
       (fun j h1 h2 h3 h4 h5=>by rw [jaa h4,jaa h3,o4.2 _ om,r0 j h1 h5])
       (by rw [jaa om,jaa om,o4.2 _ om,r3])
       (by rw [jaa om,jab]) (by rw [jab];simp)
      have r7':((e4.set (h.nx+4) (.cells tG1 false)).set (h.nx+5) (.cells [.i ((n:Int)+1)] false)).get (h1.nx+3)=some (LO .busy none):=by rw [jaa om,jaa om,o4.2 _ om,r7]
      refine qx1 ?_
      refine Ops.loadN rfl r4 om ?_
      rw [sG]
      refine qx1 ?_
      refine Ops.storeN (b:=h.nx+4) (o:=0) rfl rfl lG1 aG1 z4 om ?_
      rw [jas tG1 tG om]
      refine qx1 ?_
      refine Ops.store1 (b:=h.nx+5) (o:=0) (l:=[.i ((n:Nat):Int)]) rfl rfl rfl (by rw [jaa om];exact z5) Nat.zero_lt_one ?_
      refine qx1 ?_
      refine End.nil ⟨⟨.busy,none,r7'⟩,rfl,fin⟩
    | true=>
     have cF:IntKind.i64.wrap ((BitVec.ofInt IntKind.i64.bits (IntKind.i64.wrap ((BitVec.ofInt IntKind.i64.bits mk0 &&& BitVec.ofInt IntKind.i64.bits ri).toNat:Int)) &&& BitVec.ofInt IntKind.i64.bits 2).toNat:Int)≠0:=by rw [cF];decide
     clear yF
     obtain ⟨e3,ew,o3⟩:=wF e2 rfl
     clear wF
     have z3:e3.get (h.nx+3)=some (.cells tF false):=by rw [o3.2 _ om,r3]
     have z5:e3.get (h.nx+5)=some (.cells [.i ((n:Nat):Int)] false):=by rw [o3.2 _ om,r5]
     have zx:=o3.1
     cases bG with
     | false=>
      obtain rfl:=yG rfl
      have cG : ¬ IntKind.i64.wrap ((BitVec.ofInt IntKind.i64.bits (IntKind.i64.wrap ((BitVec.ofInt IntKind.i64.bits mk0 &&& BitVec.ofInt IntKind.i64.bits ri).toNat:Int)) &&& BitVec.ofInt IntKind.i64.bits 4).toNat:Int)≠0:=by rw [cG];decide
      clear yG wG
      have fin:=fin ((e3.set (h.nx+3) (.cells tF1 false)).set (h.nx+5) (.cells [.i ((n:Int)+1)] false)) Zc
       (fun j h1 h2 h3 h4 h5=>by rw [jaa h4,jaa h2,o3.2 _ om,r0 j h1 h5])
       (by rw [jaa om,jab])
       (by rw [jaa om,jaa om,o3.2 _ om,r4]) (by rw [jab];simp)
      have r7':((e3.set (h.nx+3) (.cells tF1 false)).set (h.nx+5) (.cells [.i ((n:Int)+1)] false)).get (h1.nx+3)=some (LO .busy none):=by rw [jaa om,jaa om,o3.2 _ om,r7]
      refine qx1 ?_
      refine Ops.loadN rfl r3 om ?_
      rw [sF]
      refine qx1 ?_
      refine Ops.storeN (b:=h.nx+3) (o:=0) rfl rfl lF1 aF1 z3 om ?_
      rw [jas tF1 tF om]
      refine qx1 ?_
      refine Ops.store1 (b:=h.nx+5) (o:=0) (l:=[.i ((n:Nat):Int)]) rfl rfl rfl (by rw [jaa om];exact z5) Nat.zero_lt_one ?_
      refine qx1 ?_
      refine End.nil ⟨⟨.busy,none,r7'⟩,rfl,fin⟩
     | true=>
      have cG:IntKind.i64.wrap ((BitVec.ofInt IntKind.i64.bits (IntKind.i64.wrap ((BitVec.ofInt IntKind.i64.bits mk0 &&& BitVec.ofInt IntKind.i64.bits ri).toNat:Int)) &&& BitVec.ofInt IntKind.i64.bits 4).toNat:Int)≠0:=by rw [cG];decide
      clear yG
      obtain ⟨E1,hE⟩ : ∃ E1,E1=(e3.set (h.nx+3) (.cells tF1 false)).set (h.nx+5) (.cells [.i ((n:Int)+1)] false):=⟨_,rfl⟩
      have E3:E1.get (h.nx+3)=some (.cells tF1 false):=by rw [hE,jaa om,jab]
      have E4:E1.get (h.nx+4)=some (.cells tG false):=by rw [hE,jaa om,jaa om,o3.2 _ om,r4]
      have E5:E1.get (h.nx+5)=some (.cells [.i ((n:Int)+1)] false):=by rw [hE,jab]
      have E7:E1.get (h1.nx+3)=some (LO .busy none):=by rw [hE,jaa om,jaa om,o3.2 _ om,r7]
      have Ex:e2.nx<=E1.nx:=by rw [hE];simp;omega
      have Er : ∀ j,j<e.nx->j≠h.nx+3->j≠h.nx+5->j≠h1.nx+3->E1.get j=e.get j:=fun j h1 h2 h4 h5=>by rw [hE,jaa h4,jaa h2,o3.2 _ om,r0 j h1 h5]
      obtain ⟨e4,ew4,o4⟩:=wG E1 rfl
      clear wG
      have y4:e4.get (h.nx+4)=some (.cells tG false):=by rw [o4.2 _ om,E4]
      have y5:e4.get (h.nx+5)=some (.cells [.i ((n:Int)+1)] false):=by rw [o4.2 _ om,E5]
      have zx4:=o4.1
      have fin:=fin ((e4.set (h.nx+4) (.cells tG1 false)).set (h.nx+5) (.cells [.i ((n:Int)+1+1)] false)) Zc
       (fun j h1 h2 h3 h4 h5=>by rw [jaa h4,jaa h3,o4.2 _ om,Er j h1 h2 h4 h5])
       (by rw [jaa om,jaa om,o4.2 _ om,E3])
       (by rw [jaa om,jab]) (by rw [jab];simp)
      have r7':((e4.set (h.nx+4) (.cells tG1 false)).set (h.nx+5) (.cells [.i ((n:Int)+1+1)] false)).get (h1.nx+3)=some (LO .busy none):=by rw [jaa om,jaa om,o4.2 _ om,E7]
      refine qx1 ?_
      refine Ops.loadN rfl r3 om ?_
      rw [sF]
      refine qx1 ?_
      refine Ops.storeN (b:=h.nx+3) (o:=0) rfl rfl lF1 aF1 z3 om ?_
      rw [jas tF1 tF om]
      refine qx1 ?_
      refine Ops.store1 (b:=h.nx+5) (o:=0) (l:=[.i ((n:Nat):Int)]) rfl rfl rfl (by rw [jaa om];exact z5) Nat.zero_lt_one ?_
      have hE:(e3.set (h.nx+3) (.cells tF1 false)).set (h.nx+5) (.cells (List.set [.i ((n:Nat):Int)] 0 (.i ((n:Int)+1))) false)=E1:=hE.symm
      rw [hE]
      clear hE z3 z5 r3 r4 r5 r0 Er
      refine qx1 ?_
      refine Ops.loadN rfl E4 om ?_
      rw [sG]
      refine qx1 ?_
      refine Ops.storeN (b:=h.nx+4) (o:=0) rfl rfl lG1 aG1 y4 om ?_
      rw [jas tG1 tG om]
      refine qx1 ?_
      refine Ops.store1 (b:=h.nx+5) (o:=0) (l:=[.i ((n:Int)+1)]) rfl rfl rfl (by rw [jaa om];exact y5) Nat.zero_lt_one ?_
      refine qx1 ?_
      refine End.nil ⟨⟨.busy,none,r7'⟩,rfl,fin⟩)
   ⟨by rw [jac om,d0],by rw [jac om,d3,jmW],by rw [jac om,d4,jmW],by rw [jac om,d5];rfl,by rw [jac om,q0],by rw [jac om,q1],by rw [jac om,q2],by rw [<- x2,jad],by simp [x2],oL⟩
  refine hIJ.elim ?_ fun hF=>hF.elim
  rintro ⟨p0,p1,p2,p3,p4,p5,p6,p7,p8,p9⟩
  refine ⟨v',h',hc,.normal,p7,?_⟩
  rw [selK_64] at p1 p2
  have k3:(h'.kill (h1.nx+3)).get (h.nx+3)=some (.cells (setV (selS ws f inR top)) false):=by rw [jae om,p1]
  have k4:(h'.kill (h1.nx+3)).get (h.nx+4)=some (.cells (setV (selS ws g outR top)) false):=by rw [jae om,p2]
  have k5:(h'.kill (h1.nx+3)).get (h.nx+5)=some (.cells [.i (((cntS (selS ws f inR top) 64+cntS (selS ws g outR top) 64:Nat):Int))] false):=by rw [jae om,p3]
  have o9:Old h (h'.kill (h1.nx+3)):=⟨p9.1,fun j hj=>by rw [jae om,p9.2 j hj]⟩
  generalize h'.kill (h1.nx+3)=H3 at k3 k4 k5 o9 ⊢
  clear p0 p1 p2 p3 p4 p5 p6 p7 p8 p9 hc hLO a ax ay o
  have lR:(setV (selS ws f inR top)).length=2:=rfl
  have lS:(setV (selS ws g outR top)).length=2:=rfl
  have a1:(setV (selS ws f inR top)).all V.one=true:=rfl
  have a2:(setV (selS ws g outR top)).all V.one=true:=rfl
  generalize hv1:setV (selS ws f inR top)=v1 at k3 lR a1 ⊢
  generalize hv2:setV (selS ws g outR top)=v2 at k4 lS a2 ⊢
  generalize hn:((cntS (selS ws f inR top) 64+cntS (selS ws g outR top) 64:Nat):Int)=n at k5 ⊢
  have t1:List.take 2 (List.drop 0 v1)=v1:=by rw [zj,zg om]
  have t2:List.take 2 (List.drop 0 v2)=v2:=by rw [zj,zg om]
  refine qx1 ?_
  refine Ops.loadN rfl k3 om ?_
  rw [t1]
  refine Ops.loadN rfl k4 om ?_
  rw [t2]
  refine qx1 ?_
  refine Ops.storeN_chk (b:=h.nx+3) (o:=0) rfl rfl lR a1 k3 om ?_ ?_
  ·rw [jas v1 v1 rfl]
   exact jc1 (b:=h.nx+4) (o:=0) (l:=v2) (ro:=false) rfl (by rw [jaa om];exact k4) om t2 rfl (jbq (b:=h.nx+5) (o:=0) (l:=[.i n]) (ro:=false) rfl (by rw [jaa om];exact k5) rfl rfl jb3)
  rw [jas v1 v1 rfl]
  refine Ops.storeN_chk (b:=h.nx+4) (o:=0) (l:=v2) rfl rfl lS a2 (by rw [jaa om];exact k4) om ?_ ?_
  ·exact jbq (b:=h.nx+5) (o:=0) (l:=[.i n]) (ro:=false) rfl (by rw [jaa om,jaa om];exact k5) rfl rfl jb3
  rw [jas v2 v2 rfl]
  refine Ops.store1 (b:=h.nx+5) (o:=0) (l:=[.i n]) rfl rfl rfl (by rw [jaa om,jaa om];exact k5) Nat.zero_lt_one ?_
  have z3:(((H3.set (h.nx+3) (.cells v1 false)).set (h.nx+4) (.cells v2 false)).set (h.nx+5) (.cells [.i n] false)).get (h.nx+3)=some (.cells v1 false):=by rw [jaa om,jaa om,jab]
  have z4:(((H3.set (h.nx+3) (.cells v1 false)).set (h.nx+4) (.cells v2 false)).set (h.nx+5) (.cells [.i n] false)).get (h.nx+4)=some (.cells v2 false):=by rw [jaa om,jab]
  have z5:(((H3.set (h.nx+3) (.cells v1 false)).set (h.nx+4) (.cells v2 false)).set (h.nx+5) (.cells [.i n] false)).get (h.nx+5)=some (.cells [.i n] false):=jab _
  have oz:Old h (((H3.set (h.nx+3) (.cells v1 false)).set (h.nx+4) (.cells v2 false)).set (h.nx+5) (.cells [.i n] false)):=((o9.set om).set om).set om
  change Ops _ _ _ _ _ _ _ (((H3.set (h.nx+3) (.cells v1 false)).set (h.nx+4) (.cells v2 false)).set (h.nx+5) (.cells [.i n] false)) _
  generalize ((H3.set (h.nx+3) (.cells v1 false)).set (h.nx+4) (.cells v2 false)).set (h.nx+5) (.cells [.i n] false)=H9 at z3 z4 z5 oz ⊢
  clear k3 k4 k5 o9
  refine qx1 ?_
  exact jjB z3 z4 z5 lR lS ⟨oz,_,_,_,rfl,fun _=>⟨rfl,rfl,rfl⟩,fun e=>absurd rfl e⟩
end
section
variable {cl:Nat->Call} (hcl:Sem cl) {h:H}
include hcl
variable {w s:Nat} {ow:Nat->Nat} {ws:Ws} {now:Int} {tb:Tb} {no:Option (Nat × Nat)} {f g:Nat->Bool}
theorem sl_Holds {d:Nat} {top:Int} (hd:12<=d) (a:WSt h w s ow ws now tb no) (o:WsOk ws) :
  ∃ (b:Bool) (h':H),cl d (.fn F.jiD) [.p w 0,.i top,.agg (setV f),.agg (setV g)] h=some (.bool b,h')/\Old h h' /\
   (b=true↔jcc ws f g top≠0\/0<cntS (selS ws f inR top) 64+cntS (selS ws g outR top) 64):=by
 suffices q : ∃ v' h',cl d (.fn F.jiD) [.p w 0,.i top,.agg (setV f),.agg (setV g)] h=some (v',h') /\ ∃ b:Bool,v' = .bool b/\Old h h'/\(b=true↔jcc ws f g top≠0\/0<cntS (selS ws f inR top) 64+cntS (selS ws g outR top) 64) by
  obtain ⟨_,h',e,b,rfl,q⟩:=q;exact ⟨b,h',e,q⟩
 have oH:Old h ((h.new (.cells (setV f) false)).new (.cells (setV g) false)):=(Old.refl h).new.new
 have b0:((h.new (.cells (setV f) false)).new (.cells (setV g) false)).get h.nx=some (.cells (setV f) false):=qgt
 have b1:((h.new (.cells (setV f) false)).new (.cells (setV g) false)).get (h.nx+1)=some (.cells (setV g) false):=qgt
 refine at_ hcl om rfl rfl rfl ?_
 refine Run.seq (Run.region0 (Ops.make rfl rfl (Ops.make rfl rfl (Ops.mv rfl (Ops.nil qkp (End.seq ?_))))))
 change Run (cl (d-1)) fuel _ _ [(0,.p w 0),(1,.i top),(6,.p h.nx 0),(7,.p (h.nx+1) 0)] ((h.new (.cells (setV f) false)).new (.cells (setV g) false)) _
 generalize (h.new (.cells (setV f) false)).new (.cells (setV g) false)=H0 at oH b0 b1 ⊢
 obtain ⟨R,S,h1,e1,o1,q1,q2⟩:=jiC hcl (d:=d-1) (top:=top) (f:=f) (g:=g) (h:=H0) om (a.old oH) o
 have hb : ∀ b:Bool,b=(decide (jcc ws f g top≠0)||decide (0<cntS R 64+cntS S 64))->(b=true↔jcc ws f g top≠0\/0<cntS (selS ws f inR top) 64+cntS (selS ws g outR top) 64):=by
  intro b hb
  by_cases hz:jcc ws f g top=0
  ·obtain ⟨rfl,rfl⟩:=q1 hz
   simp [hb,hz]
  ·simp [hb,hz]
 have oX:=oH.trans o1
 clear q1 q2 a o
 generalize jcc ws f g top=er at e1 hb ⊢
 generalize cntS R 64+cntS S 64=n at e1 hb ⊢
 have lR:(setV R).length=2:=rfl
 have lS:(setV S).length=2:=rfl
 have aR:(setV R).all V.one=true:=rfl
 have aS:(setV S).all V.one=true:=rfl
 refine qx1 ?_
 refine Ops.loadN rfl b0 (zp _) ?_
 rw [show List.take 2 (List.drop 0 (setV f))=setV f from rfl]
 refine qx1 ?_
 refine Ops.loadN rfl b1 (zp _) ?_
 rw [show List.take 2 (List.drop 0 (setV g))=setV g from rfl]
 refine qx1 ?_
 refine Ops.make rfl rfl (Ops.make rfl rfl ?_)
 refine Ops.storeN (b:=h1.nx) (o:=0) (l:=[.int .u32 0,.int .u32 0]) rfl rfl lR aR (by rw [jac Zd,jad]) (zr rfl) ?_
 refine Ops.storeN (b:=h1.nx+1) (o:=0) (l:=[.int .u32 0,.int .u32 0]) rfl rfl lS aS (by rw [jaa om];exact jad _) (zr rfl) ?_
 have o9:Old h ((((h1.new (.cells [.int .u32 0,.int .u32 0] false)).new (.cells [.int .u32 0,.int .u32 0] false)).set h1.nx (.cells (jat [.int .u32 0,.int .u32 0] 0 (setV R)) false)).set (h1.nx+1) (.cells (jat [.int .u32 0,.int .u32 0] 0 (setV S)) false)):=by
  have:=oX.1
  exact (oX.new.new.set this).set om
 change Ops _ _ _ _ _ _ _ ((((h1.new (.cells [.int .u32 0,.int .u32 0] false)).new (.cells [.int .u32 0,.int .u32 0] false)).set h1.nx (.cells (jat [.int .u32 0,.int .u32 0] 0 (setV R)) false)).set (h1.nx+1) (.cells (jat [.int .u32 0,.int .u32 0] 0 (setV S)) false)) _
 generalize (((h1.new (.cells [.int .u32 0,.int .u32 0] false)).new (.cells [.int .u32 0,.int .u32 0] false)).set h1.nx (.cells (jat [.int .u32 0,.int .u32 0] 0 (setV R)) false)).set (h1.nx+1) (.cells (jat [.int .u32 0,.int .u32 0] 0 (setV S)) false)=H9 at o9 ⊢
 clear b0 b1 e1 o1 oH oX lR lS aR aS
 by_cases he:er=0
 ·subst he
  by_cases hn:n=0
  ·subst hn
   refine qx1 ?_
   exact ⟨_,rfl,o9,hb _ Zd⟩
  ·have hn:(0:Int)<n:=by omega
   refine qx1 ?_
   exact ⟨_,rfl,o9,hb _ Zd⟩
 ·refine qx1 ?_
  exact ⟨_,rfl,o9,hb _ (by simp [he])⟩
theorem jmU {d:Nat} (hd:3<=d) : ∃ (T:Int) (h':H),cl d (.fn F.jjC) [.agg (setV f),.agg (setV g)] h=some (.i (T+1),h')/\Old h h' /\ -1<=T/\T<=63/\(∀ i:Nat,i<64->orS f g i=true->(i:Int)<=T)/\(0<=T->orS f g T.toNat=true):=by
 have b0:((h.new (.cells (setV f) false)).new (.cells (setV g) false)).get h.nx=some (.cells (setV f) false):=qgt
 have b1:((h.new (.cells (setV f) false)).new (.cells (setV g) false)).get (h.nx+1)=some (.cells (setV g) false):=qgt
 have oH:Old h ((h.new (.cells (setV f) false)).new (.cells (setV g) false)):=(Old.refl h).new.new
 obtain ⟨h1,e1,o1⟩:=jn5 hcl (d:=d-1) (f:=f) (g:=g) (h:=(h.new (.cells (setV f) false)).new (.cells (setV g) false)) om
 obtain ⟨T,h2,e2,o2,t1,t2,t3,t4⟩:=fs_top hcl (d:=d-1) (f:=orS f g) (h:=h1) om
 refine ⟨T,h2,?_,(oH.trans o1).trans o2,t1,t2,t3,t4⟩
 refine jaj (at_ hcl om rfl rfl rfl ?_)
 clear t3 t4
 refine Run.seq (Run.region0 (Ops.make rfl rfl (Ops.make rfl rfl (Ops.mv rfl (Ops.nil qkp (End.seq ?_))))))
 change Run (cl (d-1)) fuel _ _ [(2,.p h.nx 0),(3,.p (h.nx+1) 0)] ((h.new (.cells (setV f) false)).new (.cells (setV g) false)) _
 refine qx1 ?_
 refine Ops.loadN rfl b0 (zp _) ?_
 rw [show List.take 2 (List.drop 0 (setV f))=setV f from rfl]
 refine qx1 ?_
 refine Ops.loadN rfl b1 (zp _) ?_
 rw [show List.take 2 (List.drop 0 (setV g))=setV g from rfl]
 refine qx1 ?_
 exact ⟨rfl,rfl⟩
end
def dc (w:Nat) (k:Int) (f:Nat->Int) (nt:Int):List V := .p w 0 :: .i k :: (tab 96 (fun i=>V.i (f i))++[.i nt])
section
variable {w i o:Nat} {k nt v:Int} {f g:Nat->Int}
theorem dc_f (hi:i<96) (ho:o=2+i):(dc w k f nt)[o]?=some (.i (f i)):=by
 subst ho
 rw [show 2+i=i+1+1 by omega]
 show (tab 96 (fun i=>V.i (f i))++[V.i nt])[i]?=_
 rw [List.getElem?_append_left (by simpa using hi),jcl hi]
theorem dc_n:(dc w k f nt)[0+98]?=some (.i nt):=by
 show (tab 96 (fun i=>V.i (f i))++[V.i nt])[96]?=_
 rw [List.getElem?_append_right Zd]
 simp
theorem jm8:(dc w k f nt).length=99:=by simp [dc]
theorem jnl (hi:i<96) (ho:o=2+i):(dc w k f nt).set o (.i v)=dc w k (put1 f i v) nt:=by
 subst ho
 rw [show 2+i=i+1+1 by omega]
 show V.p w 0 :: V.i k :: ((tab 96 (fun i=>V.i (f i))++[V.i nt]).set i (.i v))=_
 rw [List.set_append,if_pos (by simpa using hi),jdH]
 unfold dc
 rw [jcu (g:=fun j=>V.i (put1 f i v j)) (fun k _=>by unfold put1;split<;>rfl)]
theorem dc_congr (h : ∀ i,i<96->f i=g i):dc w k f nt=dc w k g nt:=by
 unfold dc;rw [jcu fun i hi=>by rw [h i hi]]
end
def isFd (fd:Int):Prop:=0<=fd/\fd<=95
section
variable {cl:Nat->Call} (hcl:Sem cl) {d D w s:Nat} {h:H} {ow:Nat->Nat} {ws:Ws} {now:Int} {tb:Tb} {no:Option (Nat × Nat)} {k nt fd n:Int} {f:Nat->Int}
include hcl
theorem jfD (hd:1<=d) (hD:h.get D=some (.cells (dc w k f nt) false)):cl d (.fn F.jfA) [.p D 0] h=some (.bool false,h):=by
 have h0:(dc w k f nt)[0+0]?=some (.p w 0):=rfl
 refine jaj (at_ hcl om rfl rfl rfl ?_)
 refine qx1 ?_
 exact ⟨rfl,rfl⟩
theorem jit (hd:1<=d) (hf:isFd fd):cl d (.fn F.jgT) [.i fd] h=some (.bool true,h):=by
 obtain ⟨f0,f1⟩:=hf
 refine jaj (at_ hcl om rfl rfl rfl ?_)
 refine qx1 ?_
 exact ⟨by rw [decide_eq_true f1],rfl⟩
theorem jfC (hd:1<=d) (hf : ¬ isFd fd):cl d (.fn F.jgT) [.i fd] h=some (.bool false,h):=by
 unfold isFd at hf
 refine jaj (at_ hcl om rfl rfl rfl ?_)
 by_cases f0:0<=fd
 ·have f1 : ¬ fd<=95:=by omega
  refine qx1 ?_
  exact ⟨by rw [decide_eq_false f1],rfl⟩
 ·refine qx1 ?_
  exact ⟨rfl,rfl⟩
theorem jkC (hd:2<=d) (hD:h.get D=some (.cells (dc w k f nt) false)) (hf:isFd fd):cl d (.fn F.jbW) [.p D 0,.i fd] h=some (.i (f fd.toNat),h):=by
 have e1:=jfD hcl (d:=d-1) om hD
 have e2:=jit hcl (d:=d-1) (h:=h) om hf
 obtain ⟨f0,f1⟩:=hf
 have h0:(dc w k f nt)[0+2+fd.toNat*1]?=some (.i (f fd.toNat)):=dc_f om om
 refine jaj (at_ hcl om rfl rfl rfl ?_)
 refine qx1 ?_
 exact ⟨rfl,rfl⟩
theorem jgX (hd:2<=d) (hD:h.get D=some (.cells (dc w k f nt) false)) (hf : ¬ isFd fd):cl d (.fn F.jbW) [.p D 0,.i fd] h=some (.i 0,h):=by
 have e1:=jfD hcl (d:=d-1) om hD
 have e2:=jfC hcl (d:=d-1) (h:=h) om hf
 refine jaj (at_ hcl om rfl rfl rfl ?_)
 refine qx1 ?_
 exact ⟨rfl,rfl⟩
theorem jjs (hd:2<=d) (hD:h.get D=some (.cells (dc w k f nt) false)) (hf:isFd fd):cl d (.fn F.jcH) [.p D 0,.i fd] h=some (.tup [],h.set D (.cells (dc w k (put1 f fd.toNat 0) nt) false)):=by
 have e1:=jfD hcl (d:=d-1) om hD
 have e2:=jit hcl (d:=d-1) (h:=h) om hf
 obtain ⟨f0,f1⟩:=hf
 rw [<- jnl (f:=f) (o:=0+2+fd.toNat*1) (v:=0) om om]
 have hl:0+2+fd.toNat*1<(dc w k f nt).length:=by rw [jm8];omega
 refine jaj (at_ hcl om rfl rfl rfl ?_)
 refine qx1 ?_
 refine Ops.store1 rfl rfl rfl hD hl ?_
 refine qx1 ?_
 exact ⟨rfl,rfl⟩
theorem jjr (hd:2<=d) (hD:h.get D=some (.cells (dc w k f nt) false)) (hf : ¬ isFd fd):cl d (.fn F.jcH) [.p D 0,.i fd] h=some (.tup [],h):=by
 have e1:=jfD hcl (d:=d-1) om hD
 have e2:=jfC hcl (d:=d-1) (h:=h) om hf
 refine jaj (at_ hcl om rfl rfl rfl ?_)
 refine qx1 ?_
 exact ⟨rfl,rfl⟩
noncomputable def mayD (ws:Ws) (k fd:Int):Int:=if (rdyS ws fd).op=false then 110 else if k=1/\64<=fd then 190 else 0
theorem dp_may (hd:5<=d) (a:WSt h w s ow ws now tb no) (o:WsOk ws) (hD:h.get D=some (.cells (dc w k f nt) false)) (lD:D<h.nx) :
  ∃ h',cl d (.fn F.jgd) [.p D 0,.i fd] h=some (.i (mayD ws k fd),h')/\Old h h':=by
 obtain ⟨h1,e1,o1⟩:=jgg hcl (d:=d-1) (fd:=fd) om a o
 rw [jic] at e1
 have hD1:h1.get D=some (.cells (dc w k f nt) false):=by rw [o1.2 D lD,hD]
 have q0:(dc w k f nt)[0+0]?=some (.p w 0):=rfl
 have q1:(dc w k f nt)[0+1]?=some (.i k):=rfl
 unfold mayD
 generalize rdyS ws fd=r at e1
 obtain ⟨op,_,_,_,_,_,_⟩:=r
 replace e1:cl (d-1) (.fn F.jch) [.p w 0,.i fd] h=some (.agg [.bool op,_,_,_,_,_,_],h1):=e1
 clear a o
 refine jai (at_ hcl om rfl rfl rfl ?_)
 cases op with
 | false=>
  rw [if_pos rfl]
  refine qx1 ?_
  exact ⟨rfl,o1⟩
 | true=>
  rw [if_neg (fun e=>Bool.noConfusion e)]
  by_cases h1:k=1
  ·by_cases h2:64<=fd
   ·rw [if_pos ⟨h1,h2⟩]
    refine qx1 ?_
    exact ⟨rfl,o1⟩
   ·rw [if_neg (fun e=>h2 e.2)]
    refine qx1 ?_
    exact ⟨rfl,o1⟩
  ·rw [if_neg (fun e=>h1 e.1)]
   refine qx1 ?_
   exact ⟨rfl,o1⟩
theorem jm7 (hd:6<=d) (hn:n=0\/n=2\/n=4\/n=6) (a:WSt h w s ow ws now tb no) (o:WsOk ws) (hD:h.get D=some (.cells (dc w k f 0) false)) (lD:D<h.nx) :
  ∃ e h',cl d (.fn F.jd9) [.p D 0,.i fd,.i n] h=some (.i e,h')/\Ch (fun j=>j=D) h h'/\h'.get D=some (.cells (dc w k (if e=0 then put1 f fd.toNat n else f) 0) false)/\(e=0->isFd fd)/\(¬ isFd fd->e=2)/\(isFd fd->n=0->e=0):=by
 suffices q : ∃ v h',cl d (.fn F.jd9) [.p D 0,.i fd,.i n] h=some (v,h') /\ ∃ e,v = .i e/\Ch (fun j=>j=D) h h'/\h'.get D=some (.cells (dc w k (if e=0 then put1 f fd.toNat n else f) 0) false)/\(e=0->isFd fd)/\(¬ isFd fd->e=2)/\(isFd fd->n=0->e=0) by
  obtain ⟨_,h',e,r,rfl,q⟩:=q;exact ⟨r,h',e,q⟩
 have e1:=jfD hcl (d:=d-1) om hD
 by_cases hf:isFd fd
 case neg=>
  have e2:=jfC hcl (d:=d-1) (h:=h) om hf
  refine at_ hcl om rfl rfl rfl ?_
  clear hn a o
  refine qx1 ?_
  exact ⟨2,rfl,Ch.refl _ _,by rw [if_neg om];exact hD,fun e=>absurd e om,fun _=>rfl,fun e=>absurd e hf⟩
 have e2:=jit hcl (d:=d-1) (h:=h) om hf
 obtain ⟨f0,f1⟩:=id hf
 have q98:(dc w k f 0)[0+98]?=some (.i 0):=dc_n
 by_cases n0:n=0
 ·subst n0
  have e3:=jjs hcl (d:=d-1) om hD hf
  refine at_ hcl om rfl rfl rfl ?_
  clear a o hn
  refine qx1 ?_
  exact ⟨0,rfl,Ch.set rfl,by rw [if_pos rfl];exact jab _,fun _=>hf,fun e=>absurd hf e,fun _ _=>rfl⟩
 obtain ⟨h1,e3,o1⟩:=dp_may hcl (d:=d-1) (fd:=fd) om a o hD lD
 have hD1:h1.get D=some (.cells (dc w k f 0) false):=by rw [o1.2 D lD,hD]
 generalize mayD ws k fd=m at e3
 have ne : ¬ fd+1=0:=by omega
 have hl:0+2+fd.toNat*1<(dc w k f 0).length:=by rw [jm8];omega
 have hs:=jnl (w:=w) (k:=k) (f:=f) (nt:=0) (i:=fd.toNat) (o:=0+2+fd.toNat*1) (v:=n) om om
 have hr : ∀ {C:AFn},C=c12->Run (cl (d-1)) fuel C.body [] [(0,.p D 0),(1,.i fd),(2,.i n)] h (Fin C.res fun v h'=>∃ e,v = .i e/\Ch (fun j=>j=D) h h'/\h'.get D=some (.cells (dc w k (if e=0 then put1 f fd.toNat n else f) 0) false)/\(e=0->isFd fd)/\(¬ isFd fd->e=2)/\(isFd fd->n=0->e=0)):=by
  rintro _ rfl
  have n0':=n0
  by_cases hm:m=0
  ·subst hm
   have ke : ∃ e:Int,V.i 0 = .i e/\Ch (fun j=>j=D) h (h1.set D (.cells (dc w k (put1 f fd.toNat n) 0) false))/\(h1.set D (.cells (dc w k (put1 f fd.toNat n) 0) false)).get D=some (.cells (dc w k (if e=0 then put1 f fd.toNat n else f) 0) false)/\(e=0->isFd fd)/\(¬ isFd fd->e=2)/\(isFd fd->n=0->e=0) :=
    ⟨0,rfl,o1.ch.trans (Ch.set rfl),by rw [if_pos rfl];exact jab _,fun _=>hf,fun e=>absurd hf e,fun _ _=>rfl⟩
   rw [<- hs] at ke
   generalize hW:dc w k f 0=W at hD hD1 q98 hl hs ke
   clear a o
   rcases hn with rfl | rfl | rfl | rfl
   ·exact absurd rfl n0
   all_goals
    clear n0
    repeat' (first|refine qxy ?_|refine zbf rfl (fun _=>?_) fun _=>?_|refine zbg rfl (fun _=>?_) fun _=>?_|refine zbh rfl (fun _=>?_) fun _=>?_|refine zbm rfl (fun _=>?_) fun _=>?_|refine zbn rfl (fun _=>?_) fun _=>?_)
    refine Ops.store1 rfl rfl rfl hD1 hl ?_
    repeat' (first|refine qxy ?_|refine zbf rfl (fun _=>?_) fun _=>?_|refine zbg rfl (fun _=>?_) fun _=>?_|refine zbh rfl (fun _=>?_) fun _=>?_|refine zbm rfl (fun _=>?_) fun _=>?_|refine zbn rfl (fun _=>?_) fun _=>?_)
    exact ke
  ·have ke : ∃ e:Int,V.i m = .i e/\Ch (fun j=>j=D) h h1/\h1.get D=some (.cells (dc w k (if e=0 then put1 f fd.toNat n else f) 0) false)/\(e=0->isFd fd)/\(¬ isFd fd->e=2)/\(isFd fd->n=0->e=0) :=
    ⟨m,rfl,o1.ch,by rw [if_neg hm];exact hD1,fun _=>hf,fun e=>absurd hf e,fun _ e=>absurd e n0⟩
   clear a o hs
   rcases hn with rfl | rfl | rfl | rfl
   ·exact absurd rfl n0
   all_goals
    clear n0
    repeat' (first|refine qxy ?_|refine zbf rfl (fun _=>?_) fun _=>?_|refine zbg rfl (fun _=>?_) fun _=>?_|refine zbh rfl (fun _=>?_) fun _=>?_|refine zbm rfl (fun _=>?_) fun _=>?_|refine zbn rfl (fun _=>?_) fun _=>?_)
    exact ke
 exact at_ hcl om rfl rfl rfl (hr rfl)
end
noncomputable def polL (ws:Ws) (l:List (Int × Int)):List Int:=l.map fun p=>je4 (rdyS ws p.1) p.1 p.2
theorem polL_len (ws:Ws) (l:List (Int × Int)):(polL ws l).length=l.length:=by simp [polL]
def cntP:List Int->Int
 | []=>0
 | x :: l=>min x 1+cntP l
theorem jgZ (x:Int) : ∀ l,cntP (l++[x])=cntP l+min x 1
 | []=>by simp [cntP]
 | y :: l=>by rw [List.cons_append,cntP,jgZ x l,cntP];omega
theorem jm9 {l:List Int} (h : ∀ x∈l,0<=x):0<=cntP l/\cntP l<=l.length:=by
 induction l with
 | nil=>simp [cntP]
 | cons x l ih=>
  have h1:=h x Zd
  have h2:=ih fun y hy=>h y (by simp [hy])
  rw [cntP,List.length_cons];omega
theorem jml (ws:Ws) (l:List (Int × Int)) : ∀ x∈polL ws l,0<=x:=by
 intro x hx
 obtain ⟨p,_,rfl⟩:=List.mem_map.1 hx
 exact (jih _ _ _).1
theorem jiT {ws:Ws} {l:List (Int × Int)} {i:Nat} {p:Int × Int} (hp:l[i]?=some p):polL ws (l.take (i+1))=polL ws (l.take i)++[je4 (rdyS ws p.1) p.1 p.2]:=by
 unfold polL
 rw [List.take_add_one,hp];simp
section
variable {cl:Nat->Call} (hcl:Sem cl) {h:H} {w s:Nat} {ow:Nat->Nat} {ws:Ws} {now:Int} {tb:Tb} {no:Option (Nat × Nat)}
include hcl
theorem jmm {d n:Nat} {a:Option (Nat × Nat)} {c:Cap} (hd:1<=d):cl d (.fn F.pol_told) [.p w 0,.slice a n c] h=some (.clo F.jei [.p (h.nx+1) 0,.p h.nx 0],(h.new (.cells [.p w 0] false)).new (.cells [.slice a n c] false)):=by
 refine jaj (at_ hcl om rfl rfl rfl ?_)
 refine qm1 ?_
 exact ⟨rfl,rfl⟩
theorem pl_poll {d:Nat} {v:V} {l:List (Int × Int)} (hd:10<=d) (a:WSt h w s ow ws now tb no) (o:WsOk ws) (hv:VP h v l) (hf:jnv l) (hl:l.length<=1000) :
  ∃ v' h',cl d (.fn F.pol_Poll) [.p w 0,v] h=some (v',h')/\Old h h'/\((¬ mayP l/\v' = .tup [.nils,.i 0,.i 2])\/(mayP l /\ ∃ ov,v' = .tup [ov,.i (cntP (polL ws l)),.i 0]/\Row h.nx h' 1 ov l.length (ints (polL ws l)))):=by
 obtain ⟨h1,e1,o1⟩:=jmZ hcl (d:=d-1) (w:=w) om hv hf om
 by_cases hm:mayP l
 case neg=>
  rw [if_neg hm] at e1
  refine at_ hcl om rfl rfl rfl ?_
  clear hf
  refine qx1 ?_
  exact ⟨o1,.inl ⟨hm,rfl⟩⟩
 rw [if_pos hm] at e1
 obtain ⟨av,cv,rfl,_⟩:=id hv
 refine at_ hcl om rfl rfl rfl ?_
 clear hf
 refine qm1 ?_
 refine Ops.callf rfl (jmm hcl (w:=w) om) ?_
 refine qx1 ?_
 have oH:Old h1 ((((h1.new (.cells [.nils] false)).new (.cells [.i 0] false)).set (h1.nx+1) (.cells [.i 0] false)).new (.cells [.p w 0] false)):=((Old.refl h1).new.new.set om).new
 have oH:Old h1 (((((h1.new (.cells [.nils] false)).new (.cells [.i 0] false)).set (h1.nx+1) (.cells [.i 0] false)).new (.cells [.p w 0] false)).new (.cells [.slice av l.length cv] false)):=oH.new
 have b0:(((((h1.new (.cells [.nils] false)).new (.cells [.i 0] false)).set (h1.nx+1) (.cells [.i 0] false)).new (.cells [.p w 0] false)).new (.cells [.slice av l.length cv] false)).get h1.nx=some (.cells [.nils] false):=qgt
 have b1:(((((h1.new (.cells [.nils] false)).new (.cells [.i 0] false)).set (h1.nx+1) (.cells [.i 0] false)).new (.cells [.p w 0] false)).new (.cells [.slice av l.length cv] false)).get (h1.nx+1)=some (.cells [.i 0] false):=qgt
 have b2:(((((h1.new (.cells [.nils] false)).new (.cells [.i 0] false)).set (h1.nx+1) (.cells [.i 0] false)).new (.cells [.p w 0] false)).new (.cells [.slice av l.length cv] false)).get (h1.nx+2)=some (.cells [.p w 0] false):=qgt
 have b3:(((((h1.new (.cells [.nils] false)).new (.cells [.i 0] false)).set (h1.nx+1) (.cells [.i 0] false)).new (.cells [.p w 0] false)).new (.cells [.slice av l.length cv] false)).get (h1.nx+3)=some (.cells [.slice av l.length cv] false):=qgt
 have x1:(((((h1.new (.cells [.nils] false)).new (.cells [.i 0] false)).set (h1.nx+1) (.cells [.i 0] false)).new (.cells [.p w 0] false)).new (.cells [.slice av l.length cv] false)).nx=h1.nx+4:=rfl
 change Run (cl (d-1)) fuel _ _ [(8,.p h1.nx 0),(9,.p (h1.nx+1) 0),(19,.clo F.jei [.p (h1.nx+3) 0,.p (h1.nx+2) 0])] (((((h1.new (.cells [.nils] false)).new (.cells [.i 0] false)).set (h1.nx+1) (.cells [.i 0] false)).new (.cells [.p w 0] false)).new (.cells [.slice av l.length cv] false)) _
 generalize ((((h1.new (.cells [.nils] false)).new (.cells [.i 0] false)).set (h1.nx+1) (.cells [.i 0] false)).new (.cells [.p w 0] false)).new (.cells [.slice av l.length cv] false)=H1 at oH b0 b1 b2 b3 x1 ⊢
 have hx1:=o1.1
 refine Run.rangeFunc_lo rfl qkp fun LO hLO=>?_
 rw [x1]
 have oL:Old h1 (H1.new (LO .ready none)):=oH.new
 obtain ⟨v',h',hc,hIJ⟩:=jiU hcl (d:=d-1) (L:=h1.nx+4) (c2:=h1.nx+2) (c3:=h1.nx+3) (h:=H1.new (LO .ready none)) (v := .slice av l.length cv) (l:=l) (w:=w) (s:=s) (ow:=ow) (ws:=ws) (now:=now) (tb:=tb) (no:=no) om o hm.2 hl
  (fun i g=>i<=l.length/\(∃ sv,g.get h1.nx=some (.cells [sv] false)/\Row (h1.nx+5) g 1 sv i (ints (polL ws (l.take i))))/\g.get (h1.nx+1)=some (.cells [.i (cntP (polL ws (l.take i)))] false)/\g.get (h1.nx+2)=some (.cells [.p w 0] false)/\g.get (h1.nx+3)=some (.cells [.slice av l.length cv] false)/\g.get (h1.nx+4)=some (LO .ready none)/\h1.nx+5<=g.nx/\Old h1 g)
  (fun _=>False)
  (fun i g ⟨_,_,_,p2,p3,_,p5,p6⟩=>⟨(a.old o1).old p6,(hv.keep o1).keep p6,p3,p2,by omega⟩)
  (by
   rintro i g g' ⟨p00,⟨sv,p0,pr⟩,p1,p2,p3,p4,p5,p6⟩ og
   exact ⟨p00,⟨sv,by rw [og.2 _ om,p0],pr.keep og.1 fun z hz=>og.2 z (pr.at_ge hz).2⟩,by rw [og.2 _ om,p1],by rw [og.2 _ om,p2],by rw [og.2 _ om,p3],by rw [og.2 _ om,p4],zz p5 og.1,p6.trans og⟩)
  (by
   rintro i g p hp ⟨p00,⟨sv,p0,pr⟩,p1,p2,p3,p4,p5,p6⟩
   have hlt:i<l.length:=by
    rcases zw i l.length with h | h
    ·exact h
    ·rw [zc h] at hp;cases hp
   have et:=jiT (ws:=ws) hp
   have hcn:=jm9 (jml ws (l.take i))
   rw [polL_len,List.length_take] at hcn
   have hx:=jih (rdyS ws p.1) p.1 p.2
   rw [et]
   generalize polL ws (l.take i)=pl at p1 pr hcn ⊢
   generalize je4 (rdyS ws p.1) p.1 p.2=px at hx ⊢
   have ec:=jgZ px pl
   have p2x:g.get (h1.nx+2)=some (.cells [.p w 0] false):=p2
   refine ⟨true,?_⟩
   suffices q : ∃ v' g',cl (d-1-1) (.yld (h1.nx+4)) [.i px] g=some (v',g')/\(v' = .bool true/\(i+1<=l.length/\(∃ sv,g'.get h1.nx=some (.cells [sv] false)/\Row (h1.nx+5) g' 1 sv (i+1) (ints (pl++[px])))/\g'.get (h1.nx+1)=some (.cells [.i (cntP (pl++[px]))] false)/\g'.get (h1.nx+2)=some (.cells [.p w 0] false)/\g'.get (h1.nx+3)=some (.cells [.slice av l.length cv] false)/\g'.get (h1.nx+4)=some (LO .ready none)/\h1.nx+5<=g'.nx/\Old h1 g')) by
    obtain ⟨_,g',e,rfl,q⟩:=q
    exact ⟨g',e,fun _=>q,fun e=>by cases e⟩
   obtain ⟨cp,⟨asv,rfl⟩,_⟩:=pr.shape
   refine yl_ hcl om hLO p4 rfl ?_
   clear a hv hm o hp p2 et
   refine qx1 ?_
   refine End.nil ⟨rfl,p4,?_⟩
   have pr2:Row (h1.nx+5) (g.set (h1.nx+4) (LO .busy none)) 1 (.slice asv i cp) i (ints pl):=pr.keep Zd fun z hz=>by have:=pr.at_ge hz;exact jaa om
   refine qx1 ?_
   refine Ops.push (N:=h1.nx+5) (new:=[.i px]) rfl rfl rfl rfl om rfl rfl pr2 (by simpa using p5) om om fun v2 g2 row' hx' hz' hk'=>?_
   have hx':g.nx<=g2.nx:=by simpa using hx'
   have hk2 : ∀ j,j<h1.nx+5->g2.get j=(g.set (h1.nx+4) (LO .busy none)).get j:=fun j hj=>hk' j Zc fun e=>by have:=pr2.at_ge e;omega
   have q0:g2.get h1.nx=some (.cells [.slice asv i cp] false):=by rw [hk2 _ om,jaa om,p0]
   have q1:g2.get (h1.nx+1)=some (.cells [.i (cntP pl)] false):=by rw [hk2 _ om,jaa om,p1]
   have hone:=row'.one
   refine Ops.store1 rfl rfl hone q0 Nat.zero_lt_one ?_
   refine qx1 ?_
   refine Ops.store1 (l:=[.i (cntP pl)]) rfl rfl rfl (by rw [jaa om,q1]) Nat.zero_lt_one ?_
   refine qx1 ?_
   refine End.nil ⟨⟨.busy,none,by rw [jaa om,jaa om,hk2 _ om,jab]⟩,rfl,by omega,⟨v2,?_,?_⟩,?_,?_,?_,jab _,by simp;omega,?_⟩
   ·rw [jaa om,jaa om];exact jab _
   ·have r2:Row (h1.nx+5) g2 1 v2 (i+1) (ints (pl++[px])):=by simpa [ints] using row'
    exact r2.keep Zd fun z hz=>by have:=hz' z hz;simp at this;rw [jaa om,jaa om,jaa om]
   ·rw [jaa om,ec];exact jab _
   ·rw [jaa om,jaa om,jaa om,hk2 _ om,jaa om,p2x]
   ·rw [jaa om,jaa om,jaa om,hk2 _ om,jaa om,p3]
   ·have p7:=p6.1
    exact ⟨by simp;omega,fun j hj=>by rw [jaa om,jaa om,jaa om,hk2 _ om,jaa om,p6.2 j hj]⟩)
  ⟨by omega,⟨.nils,by rw [jac om,b0],by simpa [polL] using Row.nil _ _ _⟩,by rw [jac om,b1];simp [polL,cntP],by rw [jac om,b2],by rw [jac om,b3],by rw [<- x1,jad],by simp [x1],oL⟩
 refine hIJ.elim ?_ fun hF=>hF.elim
 rintro ⟨p00,⟨sv,p0,pr⟩,p1,p2,p3,p4,p5,p6⟩
 rw [List.take_length] at p1 pr
 refine ⟨v',h',hc,.normal,p4,?_⟩
 have k0:(h'.kill (h1.nx+4)).get h1.nx=some (.cells [sv] false):=by rw [jae om,p0]
 have k1:(h'.kill (h1.nx+4)).get (h1.nx+1)=some (.cells [.i (cntP (polL ws l))] false):=by rw [jae om,p1]
 have o9:Old h (h'.kill (h1.nx+4)):=⟨by have:=p6.1;show h.nx<=h'.nx;omega,fun j hj=>by rw [jae om,p6.2 j om,o1.2 j hj]⟩
 have r9:Row h.nx (h'.kill (h1.nx+4)) 1 sv l.length (ints (polL ws l)):=by
  rcases pr with r | ⟨q,q1,q2,e,q4,q5⟩
  ·exact .inl r
  ·exact .inr ⟨q,by omega,q2,e,by rw [jae om,q4],q5⟩
 obtain ⟨cp,⟨asv,rfl⟩,_⟩:=pr.shape
 clear a hv o hLO
 refine qx1 ?_
 exact ⟨o9,.inr ⟨hm,_,rfl,r9⟩⟩
end
theorem jkE : ∀ a b:List Int,cntP (a++b)=cntP a+cntP b
 | [],b=>by simp [cntP]
 | x :: a,b=>by rw [List.cons_append,cntP,jkE a b,cntP];omega
theorem cntP_take {l:List Int} (h : ∀ x∈l,0<=x) (n:Nat):cntP (l.take n)<=cntP l:=by
 have e:=jkE (l.take n) (l.drop n)
 rw [List.take_append_drop] at e
 have:=(jm9 (l:=l.drop n) fun x hx=>h x (List.mem_of_mem_drop hx)).1
 omega
theorem jlr (ws:Ws) (l:List (Int × Int)) (i:Nat):polL ws (l.take i)=(polL ws l).take i:=by
 unfold polL;rw [List.map_take]
section
variable {cl:Nat->Call} (hcl:Sem cl) {h:H} {w s:Nat} {ow:Nat->Nat} {ws:Ws} {now:Int} {tb:Tb} {no:Option (Nat × Nat)}
include hcl
theorem pl_holds {d:Nat} {v:V} {l:List (Int × Int)} (hd:10<=d) (a:WSt h w s ow ws now tb no) (o:WsOk ws) (hv:VP h v l) (hf:jnv l) (hl:l.length<=1000) :
  ∃ h',cl d (.fn F.jg6) [.p w 0,v] h=some (.bool (if mayP l then decide (0<cntP (polL ws l)) else true),h')/\Old h h':=by
 suffices q : ∃ v' h',cl d (.fn F.jg6) [.p w 0,v] h=some (v',h')/\(v' = .bool (if mayP l then decide (0<cntP (polL ws l)) else true)/\Old h h') by
  obtain ⟨_,h',e,rfl,q⟩:=q;exact ⟨h',e,q⟩
 obtain ⟨h1,e1,o1⟩:=jmZ hcl (d:=d-1) (w:=w) om hv hf om
 by_cases hm:mayP l
 case neg=>
  rw [if_neg hm] at e1 ⊢
  refine at_ hcl om rfl rfl rfl ?_
  clear hf
  refine qx1 ?_
  exact ⟨rfl,o1⟩
 rw [if_pos hm] at e1 ⊢
 obtain ⟨av,cv,rfl,_⟩:=id hv
 refine at_ hcl om rfl rfl rfl ?_
 clear hf
 refine qm1 ?_
 refine Ops.callf rfl (jmm hcl (w:=w) om) ?_
 refine qx1 ?_
 have oH:Old h1 ((((h1.new (.cells [.bool false] false)).set h1.nx (.cells [.bool false] false)).new (.cells [.p w 0] false)).new (.cells [.slice av l.length cv] false)):=((Old.refl h1).new.set (zp _)).new.new
 have b0:((((h1.new (.cells [.bool false] false)).set h1.nx (.cells [.bool false] false)).new (.cells [.p w 0] false)).new (.cells [.slice av l.length cv] false)).get h1.nx=some (.cells [.bool false] false):=qgt
 have b2:((((h1.new (.cells [.bool false] false)).set h1.nx (.cells [.bool false] false)).new (.cells [.p w 0] false)).new (.cells [.slice av l.length cv] false)).get (h1.nx+1)=some (.cells [.p w 0] false):=qgt
 have b3:((((h1.new (.cells [.bool false] false)).set h1.nx (.cells [.bool false] false)).new (.cells [.p w 0] false)).new (.cells [.slice av l.length cv] false)).get (h1.nx+2)=some (.cells [.slice av l.length cv] false):=qgt
 have x1:((((h1.new (.cells [.bool false] false)).set h1.nx (.cells [.bool false] false)).new (.cells [.p w 0] false)).new (.cells [.slice av l.length cv] false)).nx=h1.nx+3:=rfl
 change Run (cl (d-1)) fuel _ _ [(5,.p h1.nx 0),(13,.clo F.jei [.p (h1.nx+2) 0,.p (h1.nx+1) 0])] ((((h1.new (.cells [.bool false] false)).set h1.nx (.cells [.bool false] false)).new (.cells [.p w 0] false)).new (.cells [.slice av l.length cv] false)) _
 generalize (((h1.new (.cells [.bool false] false)).set h1.nx (.cells [.bool false] false)).new (.cells [.p w 0] false)).new (.cells [.slice av l.length cv] false)=H1 at oH b0 b2 b3 x1 ⊢
 have hx1:=o1.1
 refine Run.rangeFunc_lo rfl qkp fun LO hLO=>?_
 rw [x1]
 have oL:Old h1 (H1.new (LO .ready none)):=oH.new
 obtain ⟨v',h',hc,hIJ⟩:=jiU hcl (d:=d-1) (L:=h1.nx+3) (c2:=h1.nx+1) (c3:=h1.nx+2) (h:=H1.new (LO .ready none)) (v := .slice av l.length cv) (l:=l) (w:=w) (s:=s) (ow:=ow) (ws:=ws) (now:=now) (tb:=tb) (no:=no) om o hm.2 hl
  (fun i g=>cntP (polL ws (l.take i))=0/\g.get h1.nx=some (.cells [.bool false] false)/\g.get (h1.nx+1)=some (.cells [.p w 0] false)/\g.get (h1.nx+2)=some (.cells [.slice av l.length cv] false)/\g.get (h1.nx+3)=some (LO .ready none)/\h1.nx+4<=g.nx/\Old h1 g)
  (fun g=>0<cntP (polL ws l)/\g.get h1.nx=some (.cells [.bool true] false)/\g.get (h1.nx+3)=some (LO .done (some (.exit 0)))/\h1.nx+4<=g.nx/\Old h1 g)
  (fun i g ⟨_,_,p2,p3,_,p5,p6⟩=>⟨(a.old o1).old p6,(hv.keep o1).keep p6,p3,p2,by omega⟩)
  (by
   rintro i g g' ⟨p00,p0,p2,p3,p4,p5,p6⟩ og
   exact ⟨p00,by rw [og.2 _ om,p0],by rw [og.2 _ om,p2],by rw [og.2 _ om,p3],by rw [og.2 _ om,p4],zz p5 og.1,p6.trans og⟩)
  (by
   rintro i g p hp ⟨p00,p0,p2,p3,p4,p5,p6⟩
   have et:=jiT (ws:=ws) hp
   have hx:=jih (rdyS ws p.1) p.1 p.2
   have ec:=jgZ (je4 (rdyS ws p.1) p.1 p.2) (polL ws (l.take i))
   rw [<- et] at ec
   have hle:=cntP_take (jml ws l) (i+1)
   rw [<- jlr] at hle
   generalize je4 (rdyS ws p.1) p.1 p.2=px at hx ec ⊢
   suffices q : ∃ v' g',cl (d-1-1) (.yld (h1.nx+3)) [.i px] g=some (v',g') /\ ∃ b:Bool,v' = .bool b/\(b=true->cntP (polL ws (l.take (i+1)))=0/\g'.get h1.nx=some (.cells [.bool false] false)/\g'.get (h1.nx+1)=some (.cells [.p w 0] false)/\g'.get (h1.nx+2)=some (.cells [.slice av l.length cv] false)/\g'.get (h1.nx+3)=some (LO .ready none)/\h1.nx+4<=g'.nx/\Old h1 g') /\
     (b=false->0<cntP (polL ws l)/\g'.get h1.nx=some (.cells [.bool true] false)/\g'.get (h1.nx+3)=some (LO .done (some (.exit 0)))/\h1.nx+4<=g'.nx/\Old h1 g') by
    obtain ⟨_,g',e,b,rfl,q⟩:=q
    exact ⟨b,g',e,q⟩
   refine yl_ hcl om hLO p4 rfl ?_
   clear a hv hm o hp et
   refine qx1 ?_
   refine End.nil ⟨rfl,p4,?_⟩
   by_cases hz:px=0
   ·refine qx1 ?_
    refine End.nil ⟨⟨.busy,none,qgt⟩,true,rfl,fun _=>⟨by omega,?_,?_,?_,jab _,by simpa using p5,(p6.set om).set om⟩,fun e=>by cases e⟩
    ·rw [jaa om,jaa om,p0]
    ·rw [jaa om,jaa om,p2]
    ·rw [jaa om,jaa om,p3]
   ·refine qx1 ?_
    refine Ops.store1 (l:=[.bool false]) rfl rfl rfl (by rw [jaa om,p0]) Nat.zero_lt_one ?_
    refine qx1 ?_
    refine End.nil ⟨⟨.busy,none,by rw [jaa om,jab]⟩,false,rfl,fun e=>(by cases e),fun _=>⟨by omega,?_,jab _,by simpa using p5,((p6.set om).set om).set om⟩⟩
    rw [jaa om];exact jab _)
  ⟨by simp [polL,cntP],by rw [jac om,b0],by rw [jac om,b2],by rw [jac om,b3],by rw [<- x1,jad],by simp [x1],oL⟩
 clear a hv o
 rcases hIJ with ⟨p00,p0,p2,p3,p4,p5,p6⟩ | ⟨p00,p0,p4,p5,p6⟩
 ·rw [List.take_length] at p00
  rw [decide_eq_false om]
  have k0:(h'.kill (h1.nx+3)).get h1.nx=some (.cells [.bool false] false):=by rw [jae om,p0]
  have o9:Old h (h'.kill (h1.nx+3)):=⟨by have:=p6.1;show h.nx<=h'.nx;omega,fun j hj=>by rw [jae om,p6.2 j om,o1.2 j hj]⟩
  refine ⟨v',h',hc,.normal,p4,?_⟩
  clear hLO
  refine qx1 ?_
  exact ⟨rfl,o9⟩
 ·rw [decide_eq_true p00]
  have k0:(h'.kill (h1.nx+3)).get h1.nx=some (.cells [.bool true] false):=by rw [jae om,p0]
  have o9:Old h (h'.kill (h1.nx+3)):=⟨by have:=p6.1;show h.nx<=h'.nx;omega,fun j hj=>by rw [jae om,p6.2 j om,o1.2 j hj]⟩
  refine ⟨v',h',hc,.exit 0,p4,?_⟩
  clear hLO
  refine qx1 ?_
  exact ⟨rfl,o9⟩
end
theorem Ops.invk {call:Call} {fuel base:Nat} {K:List Fr} {e:Env} {h h':H} {Q:Post} {ix:Nat} {dst:Option Nat} {ops:List Ins} {keep:List Nat} {at_:Option Nat} {tbl:List (TypeId × FuncId)} {x:Opd} {args:List Opd} {t t' f:Nat} {v r:V} {vs:List V}
  (hx:x.ev e=some (.iface t v)) (ha:evs e args=some vs) (hf:tbl.find? (fun p=>p.1 == t)=some (t',f)) (hc:call (.fn f) (v :: vs) h=some (r,h')) (k:Ops call fuel base ops keep K (layv e dst r) h' Q) :
  Ops call fuel base (⟨ix,dst,.invoke tbl x args,none,at_,[]⟩ :: ops) keep K e h Q :=
 Ops.step (I.run_eff rfl (by simp only [I.eff,hx,ha,hf,hc])) k
theorem Ops.ixA1 {call:Call} {fuel base:Nat} {K:List Fr} {e:Env} {h:H} {Q:Post} {ix:Nat} {dst:Option Nat} {ops:List Ins} {keep:List Nat} {at_:Option Nat} {x i:Opd} {l:List V} {v:V} {kd:IntKind} {n sz len:Nat} (hx:x.ev e=some (.agg l)) (hi:i.ev e=some (.int kd (n:Int))) (hn:n<len) (hv:l[n*sz]?=some v)
  (k:Ops call fuel base ops keep K (layv e dst v) h Q):Ops call fuel base (⟨ix,dst,.ixA len sz none x i,none,at_,[]⟩ :: ops) keep K e h Q:=by
 refine Ops.pure rfl ?_ k
 have hb:jfj (n:Int) len=true:=jcK.2 ⟨by omega,by omega⟩
 simp only [I.pure,hx,hi,hb,cond_true,part,zu,hv]
abbrev dz (w:Nat) (k:Int):List V:=dc w k (fun _=>0) 0
section
variable {cl:Nat->Call} (hcl:Sem cl) {d D w s:Nat} {h:H} {ow:Nat->Nat} {ws:Ws} {now:Int} {tb:Tb} {no:Option (Nat × Nat)} {k:Int}
include hcl
theorem jkB (hd:1<=d):cl d (.fn F.jff) [.p D 0] h=some (.clo F.jbp [.p h.nx 0],h.new (.cells [.p D 0] false)):=by
 refine jaj (at_ hcl om rfl rfl rfl ?_)
 refine qm1 ?_
 exact ⟨rfl,rfl⟩
theorem jhF {L c:Nat} (hd:1<=d) (hc:h.get c=some (.cells [.p D 0] false)) (hD:h.get D=some (.cells (dz w k) false)) :
  cl d (.fn F.jbp) [.yld L,.p c 0] h=some (.tup [],h):=by
 have hl:(dz w k).length=99:=jm8
 have hn:(dz w k)[0+98]?=some (.i 0):=dc_n
 have hw:((dz w k).drop (0+2)).take 96=tab 96 (fun _=>V.i 0):=by
  show (tab 96 (fun _=>V.i 0)++[V.i 0]).take 96=_
  rw [List.take_append_of_le_length Zd,zg Zd]
 refine jaj (at_ hcl om rfl rfl rfl ?_)
 generalize dz w k=l at hD hl hn hw
 refine qx1 ?_
 refine Ops.loadN rfl hD om ?_
 rw [hw]
 have ht : ∀ i:Nat,i<96->(tab 96 (fun _=>V.i 0))[i*1]?=some (.i 0):=fun i hi=>by rw [Nat.mul_one,jcl hi]
 generalize tab 96 (fun _=>V.i 0)=W at ht
 refine qx1 ?_
 refine Run.loop (fun m e g=>∃ i:Nat,m=96-i/\i<=96/\e=[(0,.yld L),(1,.p c 0),(8,.agg W),(9,.i (i:Int))]/\g=h) (k:=96) Ze ⟨0,rfl,by omega,rfl,rfl⟩ ?_
 rintro _ _ _ ⟨i,rfl,hi,rfl,rfl⟩ n ih
 by_cases hlt:i<96
 case neg=>
  obtain rfl:i=96:=by omega
  have hlt' : ¬ ((96:Nat):Int)<96:=by omega
  clear ih
  refine qx1 ?_
  exact ⟨rfl,rfl⟩
 have hlt':(i:Int)<96:=by omega
 have hi1:(i:Int)+1=((i+1:Nat):Int):=by omega
 have hne : ¬ (i:Int)+1=0:=by omega
 have hx:=ht i hlt
 clear ht hw
 refine qx1 ?_
 refine Ops.ixA1 rfl rfl hlt hx ?_
 refine qx1 ?_
 rw [hi1]
 exact ih (96-(i+1)) om _ _ ⟨i+1,rfl,by omega,rfl,rfl⟩
end
end Am.Sigs
namespace Am
open Go Am.Sigs
structure Hd (p:Prop):Prop where
 g:p
structure Kc (h:H) (b:Nat) (l:List V) (ro:Bool):Prop where
 lt:b<h.nx
 at_:h.get b=some (.cells l ro)
theorem Kc.old {h h':H} {b:Nat} {l:List V} {ro:Bool} (k:Kc h b l ro) (o:Old h h'):Kc h' b l ro :=
 ⟨zq k.lt o.1,by rw [o.2 _ k.lt,k.at_]⟩
section
variable {call:Call} {fuel base:Nat} {K:List Fr} {e:Env} {h h' h0:H} {Q:Post} {ix:Nat} {dst:Option Nat} {ops:List Ins} {keep:List Nat} {at_:Option Nat} {c:List (Nat × I × Option (Nat × Bool))}
theorem Run.region2 {ops:List Ins} {keep:List Nat} (k : ∀ HR,Old h HR->HR.nx=h.nx+2->Ops call fuel h.nx ops keep K e HR Q):Run call fuel (.region 2 ops keep) K e h Q :=
 Run.region (k _ ⟨by simp [H.reserve],fun _ _=>rfl⟩ rfl)
end
end Am
namespace Am.Sigs
open Am Go
def jlE (n:Int):UInt8:=UInt8.ofNat n.toNat
theorem byteI_V {n:Int} (h1:0<=n) (h2:n<=255):jfH (jlE n) = .int .u8 n:=by
 have:n.toNat<256:=by omega
 simp only [jfH,jlE,UInt8.toNat_ofNat',Nat.mod_eq_of_lt this]
 congr 1;omega
theorem jiI {h:H} : ∀ {l:List Int} {cs:List V},jby (jd8 .u8) h l cs->cs=bts (l.map jlE)
 | [],_,e=>e
 | x :: l,_,⟨u,w,e,h1,h2⟩=>by
  obtain ⟨rfl,h3⟩:=h1
  rw [e,jiI h2,<- byteI_V h3.1 h3.2];rfl
theorem bytes_of {h:H} {l:List Int} {u:V} {B:Nat} (r:jeg B (jd8 .u8) h l [u]) : ∃ a c,u = .slice a l.length (.fix c)/\(l.length<=B->BytesAt h a (.fix c) (l.map jlE)):=by
 obtain ⟨a,c,e,h1,h2,h3⟩:=r
 cases e
 refine ⟨a,c,rfl,fun hB=>⟨fun e=>?_,by show (l.map jlE).length<=c;simpa using h2,fun hn=>?_⟩⟩
 ·obtain ⟨rfl,rfl⟩:=h3 e;exact ⟨rfl,rfl⟩
 ·obtain ⟨b,cs,q1,q2,q3,q4⟩:=h1 hB (by rintro rfl;exact hn rfl)
  refine ⟨b,0,cs,true,q1,q2,q3,fun i x hi=>?_⟩
  rw [jiI q4,Nat.zero_add];exact jiz hi
theorem BytesAt.keep {h h':H} {a:Option (Nat × Nat)} {c:Cap} {l:List UInt8} (t:BytesAt h a c l) (hx:h.nx<=h'.nx) (hk : ∀ j o,j<h.nx->h.get j=some o->h'.get j=some o):BytesAt h' a c l :=
 ⟨t.none_,t.fits,fun hn=>by
  obtain ⟨b,o,cs,ro,q1,q2,q3,q4⟩:=t.at_ hn
  exact ⟨b,o,cs,ro,q1,by omega,hk _ _ q2 q3,q4⟩⟩
theorem BytesAt.lt {h:H} {a:Option (Nat × Nat)} {c:Cap} {l:List UInt8} (t:BytesAt h a c l) {N:Nat} (hN:h.nx<=N) {z o:Nat} (ha:a=some (z,o)) (hl:l≠[]):z<N:=by
 obtain ⟨b,o',cs,ro,q1,q2,_⟩:=t.at_ hl
 rw [q1] at ha;cases ha;omega
end Am.Sigs
namespace Am
open Go Am.Sigs
section
variable {call:Call} {fuel base:Nat} {K:List Fr} {e:Env} {h h' h0:H} {Q:Post} {ix:Nat} {dst:Option Nat} {ops:List Ins} {keep:List Nat} {at_:Option Nat} {c:List (Nat × I × Option (Nat × Bool))}
theorem Ops.mk2S {x y:Opd} {f g:Nat->Bool} {d1 d2 i1 i2 i3 i4:Nat} {h8:H} (o:Old h8 h) (hn:h8.nx+2<=h.nx) (h12:d2≠d1) (hx:x.ev ((d2,.p (h8.nx+1) 0) :: (d1,.p (h8.nx+0) 0) :: e)=some (.agg (setV f))) (hy:y.ev ((d2,.p (h8.nx+1) 0) :: (d1,.p (h8.nx+0) 0) :: e)=some (.agg (setV g)))
  (kk : ∀ H5,Old h8 H5->Kc H5 (h8.nx+0) (setV f) false->Kc H5 (h8.nx+1) (setV g) false->H5.nx=h.nx->Ops call fuel h8.nx ops keep K ((d2,.p (h8.nx+1) 0) :: (d1,.p (h8.nx+0) 0) :: e) H5 Q) :
  Ops call fuel h8.nx (⟨i1,some d1,.alloc 2 [.int .u32 0,.int .u32 0],none,some 0,[]⟩ :: ⟨i2,some d2,.alloc 2 [.int .u32 0,.int .u32 0],none,some 1,[]⟩ :: ⟨i3,none,.store 2 (.t d1) x,none,none,[]⟩ :: ⟨i4,none,.store 2 (.t d2) y,none,none,[]⟩ :: ops) keep K e h Q:=by
 have e1:(Opd.t d1).ev ((d2,.p (h8.nx+1) 0) :: (d1,.p (h8.nx+0) 0) :: e)=some (.p (h8.nx+0) 0):=by
  have hb:Nat.beq d2 d1=false:=by
   cases hh:Nat.beq d2 d1
   ·rfl
   ·exact absurd (Nat.eq_of_beq_eq_true hh) h12
  simp [Opd.ev,Env.get,hb]
 refine Ops.make_at rfl rfl (Ops.make_at rfl rfl ?_)
 refine Ops.storeN (b:=h8.nx+0) (o:=0) (l:=[.int .u32 0,.int .u32 0]) e1 hx rfl rfl (by rw [jaa om,jab]) (zr rfl) ?_
 rw [jas (setV f) [.int .u32 0,.int .u32 0] rfl]
 refine Ops.storeN (b:=h8.nx+1) (o:=0) (l:=[.int .u32 0,.int .u32 0]) (by simp [layv,Opd.ev,Env.get]) hy rfl rfl (by rw [jaa om,jab]) (zr rfl) ?_
 rw [jas (setV g) [.int .u32 0,.int .u32 0] rfl]
 exact kk _ ((((o.set om).set om).set om).set om) ⟨by show h8.nx+0<h.nx;omega,by rw [jaa om,jab]⟩ ⟨by show h8.nx+1<h.nx;omega,jab _⟩ rfl
end
end Am
namespace Am.Sigs
open Am Go
theorem Run.loop0 {call:Call} {fuel:Nat} {K:List Fr} {e:Env} {h:H} {Q:Post} {live:List Nat} {body:AC} (hk:0<fuel) (k : ∀ n,Run call fuel body (.loop live body n :: K) (e.only live) h Q):Run call fuel (.loop live body) K e h Q :=
 Run.loop (fun m e' h'=>m=0/\e'=e/\h'=h) (k:=0) hk ⟨rfl,rfl,rfl⟩ fun _ _ _ ⟨_,e2,e3⟩ n _=>by rw [e2,e3];exact k n
abbrev zf:Nat->Bool:=fun _=>false
abbrev sv0:List V:=[.int .u32 0,.int .u32 0]
theorem jnr:sv0=setV zf:=jeN.symm
theorem jnu (ws:Ws):jcc ws zf zf 0=0:=by
 unfold jcc
 rw [if_neg om,if_neg]
 rintro ⟨m,_,h,_⟩
 simp [askS,jcL,orS] at h
theorem jmN (ws:Ws) (q:Rdy->Bool) (t:Int):selS ws zf q t=zf:=by funext m;simp [selS]
inductive KZ (k:Int) (v:V):Prop
 | sel (h:k=1) (e:v = .iface 172 (.agg [.int .u32 0,.int .u32 0,.int .u32 0,.int .u32 0]))
 | pol (h:k≠1) (e:v = .iface 174 .nils)
section
variable {cl:Nat->Call} (hcl:Sem cl) {d D w s:Nat} {h:H} {ow:Nat->Nat} {ws:Ws} {now:Int} {tb:Tb} {no:Option (Nat × Nat)} {k:Int}
include hcl
theorem dp_kernel (hd:2<=d) (hD:h.get D=some (.cells (dz w k) false)) (lD:D<h.nx) : ∃ v h',cl d (.fn F.je7) [.p D 0] h=some (v,h')/\KZ k v/\Old h h':=by
 have e1:=jkB hcl (d:=d-1) (D:=D) (h:=(h.new (.cells [.int .u32 0,.int .u32 0,.int .u32 0,.int .u32 0] false)).new (.cells [.nils] false)) om
 have oX:Old h (((h.new (.cells [.int .u32 0,.int .u32 0,.int .u32 0,.int .u32 0] false)).new (.cells [.nils] false)).new (.cells [.p D 0] false)):=(Old.refl h).new.new.new
 have x0:(((h.new (.cells [.int .u32 0,.int .u32 0,.int .u32 0,.int .u32 0] false)).new (.cells [.nils] false)).new (.cells [.p D 0] false)).get h.nx=some (.cells [.int .u32 0,.int .u32 0,.int .u32 0,.int .u32 0] false):=qgt
 have x1:(((h.new (.cells [.int .u32 0,.int .u32 0,.int .u32 0,.int .u32 0] false)).new (.cells [.nils] false)).new (.cells [.p D 0] false)).get (h.nx+1)=some (.cells [.nils] false):=qgt
 have x2:(((h.new (.cells [.int .u32 0,.int .u32 0,.int .u32 0,.int .u32 0] false)).new (.cells [.nils] false)).new (.cells [.p D 0] false)).get (h.nx+2)=some (.cells [.p D 0] false):=qgt
 have xn:(((h.new (.cells [.int .u32 0,.int .u32 0,.int .u32 0,.int .u32 0] false)).new (.cells [.nils] false)).new (.cells [.p D 0] false)).nx=h.nx+3:=rfl
 have q1:(dz w k)[0+1]?=some (.i k):=rfl
 refine at_ hcl om rfl rfl rfl ?_
 refine qm1 ?_
 change Run _ _ _ _ [(0,.p D 0),(3,.p h.nx 0),(4,.p (h.nx+1) 0),(8,.clo F.jbp [.p (h.nx+2) 0])] _ _
 generalize ((h.new (.cells [.int .u32 0,.int .u32 0,.int .u32 0,.int .u32 0] false)).new (.cells [.nils] false)).new (.cells [.p D 0] false)=X at oX x0 x1 x2 xn ⊢
 have hDX:X.get D=some (.cells (dz w k) false):=by rw [oX.2 D lD,hD]
 refine Run.rangeFunc_lo rfl qkp fun LO hLO=>?_
 have e2:=jhF hcl (d:=d-1) (h:=X.new (LO .ready none)) (L:=X.nx) (c:=h.nx+2) om (by rw [jac om,x2]) (by rw [jac om,hDX])
 refine ⟨_,_,e2,.normal,jad _,?_⟩
 have gk : ∀ j,j<X.nx->((X.new (LO .ready none)).kill X.nx).get j=X.get j:=fun j hj=>by rw [jae om,jac hj]
 have k0:=(gk h.nx om).trans x0
 have k1:=(gk (h.nx+1) om).trans x1
 have kD:=(gk D om).trans hDX
 have o9:Old h ((X.new (LO .ready none)).kill X.nx):=⟨by simp;omega,fun j hj=>by rw [gk j om,oX.2 j hj]⟩
 clear hLO gk e2
 generalize (X.new (LO .ready none)).kill X.nx=H9 at k0 k1 kD o9 ⊢
 by_cases hk:k=1
 ·refine qx1 ?_
  refine Ops.loadN rfl k0 (zp _) ?_
  refine qx1 ?_
  exact ⟨.sel hk rfl,o9⟩
 ·refine qx1 ?_
  exact ⟨.pol hk rfl,o9⟩
theorem dp_sholds (hd:14<=d) (a:WSt h w s ow ws now tb no) (o:WsOk ws) : ∃ h',cl d (.fn F.dpoll_sets_holds) [.agg [.int .u32 0,.int .u32 0,.int .u32 0,.int .u32 0],.p w 0] h=some (.bool false,h')/\Old h h':=by
 have oX:Old h (h.new (.cells [.int .u32 0,.int .u32 0,.int .u32 0,.int .u32 0] false)):=(Old.refl h).new
 have x0:(h.new (.cells [.int .u32 0,.int .u32 0,.int .u32 0,.int .u32 0] false)).get h.nx=some (.cells [.int .u32 0,.int .u32 0,.int .u32 0,.int .u32 0] false):=jad _
 have xn:(h.new (.cells [.int .u32 0,.int .u32 0,.int .u32 0,.int .u32 0] false)).nx=h.nx+1:=rfl
 obtain ⟨T,h1,e1,o1,t0,_,_,t3⟩:=jmU hcl (d:=d-1) (f:=zf) (g:=zf) (h:=h.new (.cells [.int .u32 0,.int .u32 0,.int .u32 0,.int .u32 0] false)) om
 obtain rfl:T = -1:=by
  rcases Int.lt_or_le T 0 with h | h
  ·omega
  ·exact absurd (t3 h) (by simp [orS])
 obtain ⟨b,h2,e2,o2,hb⟩:=sl_Holds hcl (d:=d-1) (top:=0) (f:=zf) (g:=zf) (h:=h1) om ((a.old oX).old o1) o
 rw [jnu,jmN,jmN] at hb
 obtain rfl:b=false:=by
  cases b with
  | false=>rfl
  | true=>
   rcases hb.1 rfl with h | h
   ·exact absurd rfl h
   ·exact absurd h (by decide)
 rw [<- jnr] at e1 e2
 replace e1:cl (d-1) (.fn F.jjC) [.agg sv0,.agg sv0] (h.new (.cells [.int .u32 0,.int .u32 0,.int .u32 0,.int .u32 0] false))=some (.i 0,h1):=e1
 have y0:h1.get h.nx=some (.cells [.int .u32 0,.int .u32 0,.int .u32 0,.int .u32 0] false):=by rw [o1.2 _ om,x0]
 clear a o hb t3
 refine jai (at_ hcl om rfl rfl rfl ?_)
 refine qm1 ?_
 refine Ops.callf_chk rfl e1 ?_ ?_
 ·exact jc1 (b:=h.nx) (o:=0) (l:=[.int .u32 0,.int .u32 0,.int .u32 0,.int .u32 0]) (ro:=false) rfl y0 (zr rfl) rfl rfl (jc1 (b:=h.nx) (o:=2) (l:=[.int .u32 0,.int .u32 0,.int .u32 0,.int .u32 0]) (ro:=false) rfl y0 (zr rfl) rfl rfl jb3)
 refine qx1 ?_
 exact ⟨rfl,(oX.trans o1).trans o2⟩
theorem dp_stold (hd:13<=d) (a:WSt h w s ow ws now tb no) (o:WsOk ws) : ∃ v h',cl d (.fn F.jgR) [.agg [.int .u32 0,.int .u32 0,.int .u32 0,.int .u32 0],.p w 0] h=some (v,h')/\(∃ m,v = .tup [.map m,.i 0])/\Old h h':=by
 have oX:Old h (h.new (.cells [.int .u32 0,.int .u32 0,.int .u32 0,.int .u32 0] false)):=(Old.refl h).new
 have x0:(h.new (.cells [.int .u32 0,.int .u32 0,.int .u32 0,.int .u32 0] false)).get h.nx=some (.cells [.int .u32 0,.int .u32 0,.int .u32 0,.int .u32 0] false):=jad _
 have xn:(h.new (.cells [.int .u32 0,.int .u32 0,.int .u32 0,.int .u32 0] false)).nx=h.nx+1:=rfl
 refine at_ hcl om rfl rfl rfl ?_
 refine qm1 ?_
 change Run _ _ _ _ _ (h.new (.cells [.int .u32 0,.int .u32 0,.int .u32 0,.int .u32 0] false)) _
 generalize h.new (.cells [.int .u32 0,.int .u32 0,.int .u32 0,.int .u32 0] false)=X at oX x0 xn ⊢
 refine Run.region2 fun HR oR xR=>?_
 obtain ⟨T,h1,e1,o1,t0,_,_,t3⟩:=jmU hcl (d:=d-1) (f:=zf) (g:=zf) (h:=HR) om
 obtain rfl:T = -1:=by
  rcases Int.lt_or_le T 0 with h | h
  ·omega
  ·exact absurd (t3 h) (by simp [orS])
 obtain ⟨R,S,h2,e2,o2,r1,_⟩:=jiC hcl (d:=d-1) (top:=0) (f:=zf) (g:=zf) (h:=h1) om (((a.old oX).old oR).old o1) o
 obtain ⟨rfl,rfl⟩:=r1 (jnu ws)
 rw [jnu,jmN,jmN] at e2
 rw [<- jnr] at e1
 generalize hn:((cntS zf 64+cntS zf 64:Nat):Int)=n at e2
 replace e1:cl (d-1) (.fn F.jjC) [.agg sv0,.agg sv0] HR=some (.i 0,h1):=e1
 replace e2:cl (d-1) (.fn F.jfw) [.p w 0,.i 0,.agg sv0,.agg sv0] h1=some (.tup [.agg (setV zf),.agg (setV zf),.i n,.i 0],h2):=by rw [jnr];exact e2
 have y0:HR.get h.nx=some (.cells [.int .u32 0,.int .u32 0,.int .u32 0,.int .u32 0] false):=by rw [oR.2 _ om,x0]
 have y1:h1.get h.nx=some (.cells [.int .u32 0,.int .u32 0,.int .u32 0,.int .u32 0] false):=by rw [o1.2 _ om,y0]
 have x1:=o1.1
 have x2:=o2.1
 clear a o t3 r1 hn
 refine qx1 ?_
 refine Ops.loadN rfl y0 (zr rfl) ?_
 refine qx1 ?_
 refine Ops.loadN rfl y0 (zr rfl) ?_
 refine qx1 ?_
 refine Ops.loadN rfl y0 (zr rfl) ?_
 refine qx1 ?_
 refine Ops.loadN rfl y0 (zr rfl) ?_
 refine Ops.callf_chk rfl e1 ?_ ?_
 ·exact jc1 (b:=h.nx) (o:=0) (l:=[.int .u32 0,.int .u32 0,.int .u32 0,.int .u32 0]) (ro:=false) rfl y1 (zr rfl) rfl rfl (jc1 (b:=h.nx) (o:=2) (l:=[.int .u32 0,.int .u32 0,.int .u32 0,.int .u32 0]) (ro:=false) rfl y1 (zr rfl) rfl rfl jb3)
 refine qx1 ?_
 refine Ops.mk2S ((oR.trans o1).trans o2) om (by decide) rfl rfl fun H5 o5 k6 k7 x5=>?_
 obtain ⟨v1,h6,e6,r6,o6⟩:=jm5 hcl (d:=d-1) (f:=zf) (h:=H5.new (.map [] 0)) om
 obtain ⟨v2,h7,e7,r7,o7⟩:=jm5 hcl (d:=d-1) (f:=zf) (h:=h6) om
 obtain ⟨cp1,⟨a1,rfl⟩,_⟩:=r6.shape
 obtain ⟨cp2,⟨a2,rfl⟩,_⟩:=r7.shape
 have n6:(H5.new (.map [] 0)).get (X.nx+0)=some (.cells (setV zf) false):=by rw [jac k6.lt,k6.at_]
 have n7:h6.get (X.nx+1)=some (.cells (setV zf) false):=by rw [o6.2 _ (Nat.lt_succ_of_lt k7.lt),jac k7.lt,k7.at_]
 have o9:Old h h7:=((((oX.trans o5).new).trans o6).trans o7)
 have hz:((jay zf 64).length:Int)=0:=rfl
 have hz' : ¬ (0:Int)<((jay zf 64).length:Int):=by rw [hz];omega
 clear e1 e2 o1 o2 o5 oR y0 y1 r6 r7
 refine qm1 ?_
 refine Run.loop0 Ze fun n'=>?_
 refine qm1 ?_
 refine Run.loop0 Ze fun n'=>?_
 refine qx1 ?_
 exact ⟨⟨_,rfl⟩,o9⟩
theorem dp_lholds (hd:12<=d) (a:WSt h w s ow ws now tb no) (o:WsOk ws) : ∃ h',cl d (.fn F.dpoll_list_holds) [.nils,.p w 0] h=some (.bool false,h')/\Old h h':=by
 obtain ⟨h1,e1,o1⟩:=pl_holds hcl (d:=d-1) (v := .nils) (l:=[]) om a o ⟨_,_,rfl,fun e=>absurd rfl e⟩ (fun p hp=>by cases hp) (by decide)
 rw [if_pos ⟨by decide,fun p hp=>by cases hp⟩] at e1
 replace e1:cl (d-1) (.fn F.jg6) [.p w 0,.nils] h=some (.bool false,h1):=e1
 refine jai (at_ hcl om rfl rfl rfl ?_)
 refine qx1 ?_
 exact ⟨rfl,o1⟩
theorem dp_ltold (hd:12<=d) (a:WSt h w s ow ws now tb no) (o:WsOk ws) : ∃ v h',cl d (.fn F.jgS) [.nils,.p w 0] h=some (v,h')/\(∃ m,v = .tup [.map m,.i 0])/\Old h h':=by
 obtain ⟨v1,h1,e1,o1,q⟩:=pl_poll hcl (d:=d-1) (v := .nils) (l:=[]) om a o ⟨_,_,rfl,fun e=>absurd rfl e⟩ (fun p hp=>by cases hp) (by decide)
 obtain ⟨ov,rfl,r1⟩ : ∃ ov,v1 = .tup [ov,.i (cntP (polL ws [])),.i 0]/\Row h.nx h1 1 ov ([]:List (Int × Int)).length (ints (polL ws [])):=by
  rcases q with q | q
  ·exact absurd ⟨by decide,fun p hp=>by cases hp⟩ q.1
  ·exact q.2
 obtain ⟨cp1,⟨a1,rfl⟩,_⟩:=r1.shape
 have hz:(([]:List (Int × Int)).length:Int)=0:=rfl
 have hz' : ¬ (0:Int)<(([]:List (Int × Int)).length:Int):=by rw [hz];omega
 generalize cntP (polL ws [])=n at e1
 clear a o q r1
 refine at_ hcl om rfl rfl rfl ?_
 refine qm1 ?_
 refine Run.loop0 Ze fun n'=>?_
 refine qx1 ?_
 exact ⟨⟨_,rfl⟩,o1.new⟩
end
end Am.Sigs
