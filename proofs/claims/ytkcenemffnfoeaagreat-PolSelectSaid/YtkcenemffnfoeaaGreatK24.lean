/- Our own library, part 24: an abstract machine, sound for the model, and what the functions do over it. No condition. -/
import Derived.Test.YtkcenemffnfoeaaGreatK23
import Derived.Test.YtkcenemffnfoeaaGreatK15
import Derived.Test.YtkcenemffnfoeaaGreatK20
set_option maxHeartbeats 8000000
set_option linter.all false
namespace Am.Sigs
open Am Go
noncomputable def selS (ws:Ws) (F:Nat->Bool) (q:Rdy->Bool) (top:Int):Nat->Bool:=fun m=>F m&&decide ((m:Int)<top)&&q (rdyS ws (m:Int))
noncomputable def selK (ws:Ws) (F:Nat->Bool) (q:Rdy->Bool) (top:Int) (k:Nat):Nat->Bool:=fun m=>decide (m<k)&&selS ws F q top m
open Classical in
noncomputable def jbU (ws:Ws) (f g:Nat->Bool) (top:Int):Int:=if top<0\/64<top then 2 else if jee ws f g top then 110 else 0
theorem jn8 (ws:Ws) (F:Nat->Bool) (q:Rdy->Bool) (top:Int):setV (selK ws F q top 0)=[.int .u32 0,.int .u32 0]:=by
 rw [<- jdO];exact jbG fun i _=>by simp [selK]
theorem selK_64 (ws:Ws) (F:Nat->Bool) (q:Rdy->Bool) (top:Int):setV (selK ws F q top 64)=setV (selS ws F q top):=jbG fun i hi=>by simp [selK,hi]
theorem jim {ws:Ws} {F:Nat->Bool} {q:Rdy->Bool} {top:Int} {k:Nat} (hk:selS ws F q top k=false):setV (selK ws F q top (k+1))=setV (selK ws F q top k):=jbG fun i _=>by
 unfold selK
 by_cases e:i=k
 ·rw [e,hk];simp
 ·rw [show decide (i<k+1)=decide (i<k) by simp;omega]
theorem jlb {ws:Ws} {F:Nat->Bool} {q:Rdy->Bool} {top:Int} {k:Nat} (hk:selS ws F q top k=true) (h64:k<64):setV (selK ws F q top (k+1))=setV (jjb (selK ws F q top k) (k:Int)):=jbG fun i _=>by
 rw [jjb,if_pos (show fitS (k:Int) from ⟨by omega,by omega⟩),Int.toNat_natCast]
 unfold selK addS
 by_cases e:i=k
 ·rw [e,hk];simp
 ·rw [show decide (i<k+1)=decide (i<k) by simp;omega];simp [e]
theorem selS_not {ws:Ws} {f g:Nat->Bool} {top:Int} {m:Nat} (hk:askS f g top m=false):selS ws f inR top m=false/\selS ws g outR top m=false:=by
 simp only [askS,jcG,orS,Bool.and_eq_false_iff,Bool.or_eq_false_iff] at hk
 unfold selS
 rcases hk with ⟨a,b⟩ | c
 ·simp [a,b]
 ·simp [c]
theorem selS_is {ws:Ws} {f g:Nat->Bool} {top:Int} {m:Nat} (hk:askS f g top m=true):selS ws f inR top m=(f m&&inR (rdyS ws (m:Int)))/\selS ws g outR top m=(g m&&outR (rdyS ws (m:Int))):=by
 simp only [askS,jcG,Bool.and_eq_true] at hk
 unfold selS
 rw [hk.2];simp
theorem and_mask (a b c d:Bool):IntKind.i64.wrap ((BitVec.ofInt 64 ((if a then 2 else 0)+(if b then 4 else 0)) &&& BitVec.ofInt 64 ((if c then 2 else 0)+(if d then 4 else 0))).toNat:Int)=(if a&&c then 2 else 0)+(if b&&d then 4 else 0):=by
 cases a<;>cases b<;>cases c<;>cases d<;>decide
section
variable {cl:Nat->Call} (hcl:Sem cl) {h:H}
include hcl
variable {w s:Nat} {ow:Nat->Nat} {ws:Ws} {now:Int} {tb:Tb} {no:Option (Nat × Nat)} {f g:Nat->Bool}
omit hcl in
theorem jkm {d fuel b3 b4 b5:Nat} {H9:H} {vr vs:List V} {n er:Int} {Q:V->H->Prop} (k3:H9.get b3=some (.cells vr false)) (k4:H9.get b4=some (.cells vs false)) (k5:H9.get b5=some (.cells [.i n] false))
  (lr:vr.length=2) (ls:vs.length=2) (q:Q (.tup [.agg vr,.agg vs,.i n,.i er]) H9):End (cl d) fuel [] .ret [(8,.p b3 0),(9,.p b4 0),(10,.p b5 0),(11,.i er)] H9 (Fin c28.res Q):=by
 have e3 : ∀ v:List V,v.length=2->List.take 2 (List.drop 0 v)=v:=fun v hv=>by rw [List.drop_zero,List.take_of_length_le om]
 have r5:jda [(8,.p b3 0),(9,.p b4 0),(10,.p b5 0),(11,.i er)] H9 [.cell1 10,.tmp 11]=some [.i n,.i er]:=by
  show (match H9.load1 b5 0,some [V.i er] with | some v,some l=>some (v :: l) | _,_=>none)=_
  rw [jev k5 rfl]
 have r3:=resN (e:=[(8,.p b3 0),(9,.p b4 0),(10,.p b5 0),(11,.i er)]) (s:=8) (n:=2) rfl k3 om (resN (s:=9) (n:=2) rfl k4 om r5)
 rw [e3 vr lr,e3 vs ls] at r3
 exact End.fin2 r3 q
theorem jjh {d:Nat} {top:Int} (hd:11<=d) (a:WSt h w s ow ws now tb no) (o:WsOk ws) :
  ∃ (R S:Nat->Bool) (h':H),cl d (.fn F.jf6) [.p w 0,.i top,.agg (setV f),.agg (setV g)] h=some (.tup [.agg (setV R),.agg (setV S),.i ((cntS R 64+cntS S 64:Nat):Int),.i (jbU ws f g top)],h')/\Old h h' /\
   (jbU ws f g top=0->R=selS ws f inR top/\S=selS ws g outR top)/\(jbU ws f g top≠0->R=(fun _=>false)/\S=(fun _=>false)):=by
 suffices q : ∃ v' h',cl d (.fn F.jf6) [.p w 0,.i top,.agg (setV f),.agg (setV g)] h=some (v',h')/\Old h h' /\ ∃ vr vs n,v' = .tup [.agg vr,.agg vs,.i n,.i (jbU ws f g top)] /\
   (jbU ws f g top=0->vr=setV (selS ws f inR top)/\vs=setV (selS ws g outR top)/\n=((cntS (selS ws f inR top) 64+cntS (selS ws g outR top) 64:Nat):Int))/\(jbU ws f g top≠0->vr=[.int .u32 0,.int .u32 0]/\vs=[.int .u32 0,.int .u32 0]/\n=0) by
  obtain ⟨_,h',e,og,vr,vs,n,rfl,q1,q2⟩:=q
  by_cases hz:jbU ws f g top=0
  ·obtain ⟨rfl,rfl,rfl⟩:=q1 hz
   exact ⟨_,_,h',e,og,fun _=>⟨rfl,rfl⟩,fun h=>absurd hz h⟩
  ·obtain ⟨rfl,rfl,rfl⟩:=q2 hz
   refine ⟨fun _=>false,fun _=>false,h',?_,og,fun h=>absurd h hz,fun _=>⟨rfl,rfl⟩⟩
   rw [jdO,show cntS (fun _=>false) 64=0 from rfl];exact e
 have oH:Old h ((((((h.new (.cells [.p w 0] false)).new (.cells (setV f) false)).new (.cells (setV g) false)).new (.cells [.int .u32 0,.int .u32 0] false)).new (.cells [.int .u32 0,.int .u32 0] false)).new (.cells [.i 0] false)):=(Old.refl h).new.new.new.new.new.new
 have b0:((((((h.new (.cells [.p w 0] false)).new (.cells (setV f) false)).new (.cells (setV g) false)).new (.cells [.int .u32 0,.int .u32 0] false)).new (.cells [.int .u32 0,.int .u32 0] false)).new (.cells [.i 0] false)).get h.nx=some (.cells [.p w 0] false):=qgt
 have b1:((((((h.new (.cells [.p w 0] false)).new (.cells (setV f) false)).new (.cells (setV g) false)).new (.cells [.int .u32 0,.int .u32 0] false)).new (.cells [.int .u32 0,.int .u32 0] false)).new (.cells [.i 0] false)).get (h.nx+1)=some (.cells (setV f) false):=qgt
 have b2:((((((h.new (.cells [.p w 0] false)).new (.cells (setV f) false)).new (.cells (setV g) false)).new (.cells [.int .u32 0,.int .u32 0] false)).new (.cells [.int .u32 0,.int .u32 0] false)).new (.cells [.i 0] false)).get (h.nx+2)=some (.cells (setV g) false):=qgt
 have b3:((((((h.new (.cells [.p w 0] false)).new (.cells (setV f) false)).new (.cells (setV g) false)).new (.cells [.int .u32 0,.int .u32 0] false)).new (.cells [.int .u32 0,.int .u32 0] false)).new (.cells [.i 0] false)).get (h.nx+3)=some (.cells [.int .u32 0,.int .u32 0] false):=qgt
 have b4:((((((h.new (.cells [.p w 0] false)).new (.cells (setV f) false)).new (.cells (setV g) false)).new (.cells [.int .u32 0,.int .u32 0] false)).new (.cells [.int .u32 0,.int .u32 0] false)).new (.cells [.i 0] false)).get (h.nx+4)=some (.cells [.int .u32 0,.int .u32 0] false):=qgt
 have b5:((((((h.new (.cells [.p w 0] false)).new (.cells (setV f) false)).new (.cells (setV g) false)).new (.cells [.int .u32 0,.int .u32 0] false)).new (.cells [.int .u32 0,.int .u32 0] false)).new (.cells [.i 0] false)).get (h.nx+5)=some (.cells [.i 0] false):=qgt
 have x1:((((((h.new (.cells [.p w 0] false)).new (.cells (setV f) false)).new (.cells (setV g) false)).new (.cells [.int .u32 0,.int .u32 0] false)).new (.cells [.int .u32 0,.int .u32 0] false)).new (.cells [.i 0] false)).nx=h.nx+6:=rfl
 refine at_ hcl om rfl rfl rfl ?_
 refine Run.seq (Run.region0 (Ops.make rfl rfl (Ops.make rfl rfl (Ops.make rfl rfl (Ops.make rfl rfl (Ops.make rfl rfl (Ops.make rfl rfl (Ops.mv rfl (Ops.nil qkp (End.seq ?_))))))))))
 change Run (cl (d-1)) fuel _ _ [(1,.i top),(4,.p h.nx 0),(6,.p (h.nx+1) 0),(7,.p (h.nx+2) 0),(8,.p (h.nx+3) 0),(9,.p (h.nx+4) 0),(10,.p (h.nx+5) 0)] ((((((h.new (.cells [.p w 0] false)).new (.cells (setV f) false)).new (.cells (setV g) false)).new (.cells [.int .u32 0,.int .u32 0] false)).new (.cells [.int .u32 0,.int .u32 0] false)).new (.cells [.i 0] false)) _
 generalize (((((h.new (.cells [.p w 0] false)).new (.cells (setV f) false)).new (.cells (setV g) false)).new (.cells [.int .u32 0,.int .u32 0] false)).new (.cells [.int .u32 0,.int .u32 0] false)).new (.cells [.i 0] false)=H0 at oH b0 b1 b2 b3 b4 b5 x1 ⊢
 have ax:=a.old oH
 have hx1:=oH.1
 refine Run.seq ?_
 by_cases ht:top<0\/64<top
 ·have he:jbU ws f g top=2:=if_pos ht
  rw [he]
  clear a ax o he
  have ht2:top<0\/(¬ top<0/\64<top):=by omega
  rcases ht2 with h1 | ⟨h1,h2⟩
  all_goals
   repeat' (first|refine qxy ?_|refine zbf rfl (fun _=>?_) fun _=>?_|refine zbg rfl (fun _=>?_) fun _=>?_|refine zbh rfl (fun _=>?_) fun _=>?_|refine zbm rfl (fun _=>?_) fun _=>?_|refine zbn rfl (fun _=>?_) fun _=>?_)
   refine Ops.loadN rfl b3 (Nat.le_of_ble_eq_true rfl) ?_
   refine Ops.loadN rfl b4 (Nat.le_of_ble_eq_true rfl) ?_
   refine Ops.storeN_chk (b:=h.nx+3) (o:=0) (vs:=[.int .u32 0,.int .u32 0]) rfl rfl rfl rfl b3 (Nat.le_of_ble_eq_true rfl) ?_ ?_
   ·exact jfn (b:=h.nx+4) (o:=0) (l:=[.int .u32 0,.int .u32 0]) (ro:=false) rfl (by rw [jaa om];exact b4) (Nat.le_of_ble_eq_true rfl) rfl rfl jb3
   refine Ops.storeN (b:=h.nx+4) (o:=0) (vs:=[.int .u32 0,.int .u32 0]) rfl rfl rfl rfl (by rw [jaa om];exact b4) (Nat.le_of_ble_eq_true rfl) ?_
   repeat' (first|refine qxy ?_|refine zbf rfl (fun _=>?_) fun _=>?_|refine zbg rfl (fun _=>?_) fun _=>?_|refine zbh rfl (fun _=>?_) fun _=>?_|refine zbm rfl (fun _=>?_) fun _=>?_|refine zbn rfl (fun _=>?_) fun _=>?_)
   refine Ops.store1 (b:=h.nx+5) (o:=0) (l:=[.i 0]) rfl rfl rfl (by rw [jaa om,jaa om];exact b5) Nat.zero_lt_one ?_
   have k3:(((H0.set (h.nx+3) (.cells [.int .u32 0,.int .u32 0] false)).set (h.nx+4) (.cells [.int .u32 0,.int .u32 0] false)).set (h.nx+5) (.cells [.i 0] false)).get (h.nx+3)=some (.cells [.int .u32 0,.int .u32 0] false):=by rw [jaa om,jaa om,jab]
   have k4:(((H0.set (h.nx+3) (.cells [.int .u32 0,.int .u32 0] false)).set (h.nx+4) (.cells [.int .u32 0,.int .u32 0] false)).set (h.nx+5) (.cells [.i 0] false)).get (h.nx+4)=some (.cells [.int .u32 0,.int .u32 0] false):=by rw [jaa om,jab]
   have k5:(((H0.set (h.nx+3) (.cells [.int .u32 0,.int .u32 0] false)).set (h.nx+4) (.cells [.int .u32 0,.int .u32 0] false)).set (h.nx+5) (.cells [.i 0] false)).get (h.nx+5)=some (.cells [.i 0] false):=jab _
   have o9:Old h (((H0.set (h.nx+3) (.cells [.int .u32 0,.int .u32 0] false)).set (h.nx+4) (.cells [.int .u32 0,.int .u32 0] false)).set (h.nx+5) (.cells [.i 0] false)):=((oH.set om).set om).set om
   change Ops _ _ _ _ _ _ _ (((H0.set (h.nx+3) (.cells [.int .u32 0,.int .u32 0] false)).set (h.nx+4) (.cells [.int .u32 0,.int .u32 0] false)).set (h.nx+5) (.cells [.i 0] false)) _
   generalize ((H0.set (h.nx+3) (.cells [.int .u32 0,.int .u32 0] false)).set (h.nx+4) (.cells [.int .u32 0,.int .u32 0] false)).set (h.nx+5) (.cells [.i 0] false)=H9 at k3 k4 k5 o9 ⊢
   repeat' (first|refine qxy ?_|refine zbf rfl (fun _=>?_) fun _=>?_|refine zbg rfl (fun _=>?_) fun _=>?_|refine zbh rfl (fun _=>?_) fun _=>?_|refine zbm rfl (fun _=>?_) fun _=>?_|refine zbn rfl (fun _=>?_) fun _=>?_)
   exact jkm k3 k4 k5 rfl rfl ⟨o9,_,_,_,rfl,fun e=>absurd e (by decide),fun _=>⟨rfl,rfl,rfl⟩⟩
 obtain ⟨n1,n2⟩ : ¬ top<0 /\ ¬ 64<top:=by omega
 obtain ⟨cb,h1,e1,hb,o1⟩:=sl_closed hcl (d:=d-1) (top:=top) (f:=f) (g:=g) (h:=H0) om ax o
 have c0:h1.get h.nx=some (.cells [.p w 0] false):=by rw [o1.2 _ om,b0]
 have c1:h1.get (h.nx+1)=some (.cells (setV f) false):=by rw [o1.2 _ om,b1]
 have c2:h1.get (h.nx+2)=some (.cells (setV g) false):=by rw [o1.2 _ om,b2]
 have c3:h1.get (h.nx+3)=some (.cells [.int .u32 0,.int .u32 0] false):=by rw [o1.2 _ om,b3]
 have c4:h1.get (h.nx+4)=some (.cells [.int .u32 0,.int .u32 0] false):=by rw [o1.2 _ om,b4]
 have c5:h1.get (h.nx+5)=some (.cells [.i 0] false):=by rw [o1.2 _ om,b5]
 have oX:=oH.trans o1
 have ay:=a.old oX
 have y1:=o1.1
 have hz:jbU ws f g top=if cb=true then 110 else 0:=by
  unfold jbU
  rw [if_neg ht]
  by_cases hc:jee ws f g top
  ·rw [if_pos hc,if_pos (hb.2 hc)]
  ·rw [if_neg hc,if_neg (fun h=>hc (hb.1 h))]
 rw [hz]
 clear hb hz
 cases cb with
 | true=>
  rw [if_pos rfl]
  clear a ax ay o ht
  refine qx1 ?_
  refine Ops.loadN rfl b1 (Nat.le_refl _) ?_
  rw [show List.take 2 (List.drop 0 (setV f))=setV f from rfl]
  refine qx1 ?_
  refine Ops.loadN rfl b2 (Nat.le_refl _) ?_
  rw [show List.take 2 (List.drop 0 (setV g))=setV g from rfl]
  refine qx1 ?_
  refine Ops.loadN rfl c3 (Nat.le_of_ble_eq_true rfl) ?_
  refine Ops.loadN rfl c4 (Nat.le_of_ble_eq_true rfl) ?_
  refine Ops.storeN_chk (b:=h.nx+3) (o:=0) (vs:=[.int .u32 0,.int .u32 0]) rfl rfl rfl rfl c3 (Nat.le_of_ble_eq_true rfl) ?_ ?_
  ·exact jfn (b:=h.nx+4) (o:=0) (l:=[.int .u32 0,.int .u32 0]) (ro:=false) rfl (by rw [jaa om];exact c4) (Nat.le_of_ble_eq_true rfl) rfl rfl jb3
  refine Ops.storeN (b:=h.nx+4) (o:=0) (vs:=[.int .u32 0,.int .u32 0]) rfl rfl rfl rfl (by rw [jaa om];exact c4) (Nat.le_of_ble_eq_true rfl) ?_
  refine Ops.store1 (b:=h.nx+5) (o:=0) (l:=[.i 0]) rfl rfl rfl (by rw [jaa om,jaa om];exact c5) Nat.zero_lt_one ?_
  have k3:(((h1.set (h.nx+3) (.cells [.int .u32 0,.int .u32 0] false)).set (h.nx+4) (.cells [.int .u32 0,.int .u32 0] false)).set (h.nx+5) (.cells [.i 0] false)).get (h.nx+3)=some (.cells [.int .u32 0,.int .u32 0] false):=by rw [jaa om,jaa om,jab]
  have k4:(((h1.set (h.nx+3) (.cells [.int .u32 0,.int .u32 0] false)).set (h.nx+4) (.cells [.int .u32 0,.int .u32 0] false)).set (h.nx+5) (.cells [.i 0] false)).get (h.nx+4)=some (.cells [.int .u32 0,.int .u32 0] false):=by rw [jaa om,jab]
  have k5:(((h1.set (h.nx+3) (.cells [.int .u32 0,.int .u32 0] false)).set (h.nx+4) (.cells [.int .u32 0,.int .u32 0] false)).set (h.nx+5) (.cells [.i 0] false)).get (h.nx+5)=some (.cells [.i 0] false):=jab _
  have o9:Old h (((h1.set (h.nx+3) (.cells [.int .u32 0,.int .u32 0] false)).set (h.nx+4) (.cells [.int .u32 0,.int .u32 0] false)).set (h.nx+5) (.cells [.i 0] false)):=((oX.set om).set om).set om
  change Ops _ _ _ _ _ _ _ (((h1.set (h.nx+3) (.cells [.int .u32 0,.int .u32 0] false)).set (h.nx+4) (.cells [.int .u32 0,.int .u32 0] false)).set (h.nx+5) (.cells [.i 0] false)) _
  generalize ((h1.set (h.nx+3) (.cells [.int .u32 0,.int .u32 0] false)).set (h.nx+4) (.cells [.int .u32 0,.int .u32 0] false)).set (h.nx+5) (.cells [.i 0] false)=H9 at k3 k4 k5 o9 ⊢
  refine qx1 ?_
  exact jkm k3 k4 k5 rfl rfl ⟨o9,_,_,_,rfl,fun e=>absurd e (by decide),fun _=>⟨rfl,rfl,rfl⟩⟩
 | false=>
  rw [if_neg (by decide)]
  refine qx1 ?_
  refine Ops.loadN rfl b1 (Nat.le_refl _) ?_
  rw [show List.take 2 (List.drop 0 (setV f))=setV f from rfl]
  refine qx1 ?_
  refine Ops.loadN rfl b2 (Nat.le_refl _) ?_
  rw [show List.take 2 (List.drop 0 (setV g))=setV g from rfl]
  refine qx1 ?_
  refine Ops.loadN rfl c1 (Nat.le_refl _) ?_
  rw [show List.take 2 (List.drop 0 (setV f))=setV f from rfl]
  refine qx1 ?_
  refine Ops.loadN rfl c2 (Nat.le_refl _) ?_
  rw [show List.take 2 (List.drop 0 (setV g))=setV g from rfl]
  refine qx1 ?_
  refine Ops.callf rfl (jla hcl (d:=d-1) (f:=f) (g:=g) om) ?_
  refine qx1 ?_
  have oH2:Old h (((h1.new (.cells [.i top] false)).new (.cells (setV f) false)).new (.cells (setV g) false)):=oX.new.new.new
  have d0:(((h1.new (.cells [.i top] false)).new (.cells (setV f) false)).new (.cells (setV g) false)).get h.nx=some (.cells [.p w 0] false):=by rw [jac (by simp;omega),jac (by simp;omega),jac om,c0]
  have d3:(((h1.new (.cells [.i top] false)).new (.cells (setV f) false)).new (.cells (setV g) false)).get (h.nx+3)=some (.cells [.int .u32 0,.int .u32 0] false):=by rw [jac (by simp;omega),jac (by simp;omega),jac om,c3]
  have d4:(((h1.new (.cells [.i top] false)).new (.cells (setV f) false)).new (.cells (setV g) false)).get (h.nx+4)=some (.cells [.int .u32 0,.int .u32 0] false):=by rw [jac (by simp;omega),jac (by simp;omega),jac om,c4]
  have d5:(((h1.new (.cells [.i top] false)).new (.cells (setV f) false)).new (.cells (setV g) false)).get (h.nx+5)=some (.cells [.i 0] false):=by rw [jac (by simp;omega),jac (by simp;omega),jac om,c5]
  have q0:(((h1.new (.cells [.i top] false)).new (.cells (setV f) false)).new (.cells (setV g) false)).get h1.nx=some (.cells [.i top] false):=qgt
  have q1:(((h1.new (.cells [.i top] false)).new (.cells (setV f) false)).new (.cells (setV g) false)).get (h1.nx+1)=some (.cells (setV f) false):=qgt
  have q2:(((h1.new (.cells [.i top] false)).new (.cells (setV f) false)).new (.cells (setV g) false)).get (h1.nx+2)=some (.cells (setV g) false):=qgt
  have x2:(((h1.new (.cells [.i top] false)).new (.cells (setV f) false)).new (.cells (setV g) false)).nx=h1.nx+3:=rfl
  generalize ((h1.new (.cells [.i top] false)).new (.cells (setV f) false)).new (.cells (setV g) false)=H2 at oH2 d0 d3 d4 d5 q0 q1 q2 x2 ⊢
  refine Run.rangeFunc_lo rfl qkp fun LO hLO=>?_
  rw [x2]
  have oL:Old h (H2.new (LO .ready none)):=oH2.new
  obtain ⟨v',h',hc,hIJ⟩:=jhE hcl (d:=d-1) (L:=h1.nx+3) (c1:=h1.nx+1) (c2:=h1.nx+2) (c3:=h1.nx) (f:=f) (g:=g) (top:=top) (h:=H2.new (LO .ready none)) om
   (fun m e=>e.get h.nx=some (.cells [.p w 0] false)/\e.get (h.nx+3)=some (.cells (setV (selK ws f inR top m)) false)/\e.get (h.nx+4)=some (.cells (setV (selK ws g outR top m)) false)/\e.get (h.nx+5)=some (.cells [.i ((cntS (selS ws f inR top) m+cntS (selS ws g outR top) m:Nat):Int)] false)/\e.get h1.nx=some (.cells [.i top] false)/\e.get (h1.nx+1)=some (.cells (setV f) false)/\e.get (h1.nx+2)=some (.cells (setV g) false)/\e.get (h1.nx+3)=some (LO .ready none)/\h1.nx+4<=e.nx/\Old h e)
   (fun _=>False)
   (fun m e ⟨_,_,_,_,p5,p6,p7,_,p9,_⟩=>⟨p6,p7,p5,by omega,by omega,by omega⟩)
   (by
    rintro m e e' ⟨p0,p1,p2,p3,p4,p5,p6,p7,p8,p9⟩ og
    exact ⟨by rw [og.2 _ om,p0],by rw [og.2 _ om,p1],by rw [og.2 _ om,p2],by rw [og.2 _ om,p3],by rw [og.2 _ om,p4],by rw [og.2 _ om,p5],by rw [og.2 _ om,p6],by rw [og.2 _ om,p7],Nat.le_trans p8 og.1,p9.trans og⟩)
   (by
    rintro m e hm hk ⟨p0,p1,p2,p3,p⟩
    obtain ⟨hkf,hkg⟩:=selS_not (ws:=ws) hk
    refine ⟨p0,by rw [jim hkf,p1],by rw [jim hkg,p2],?_,p⟩
    rw [cntS,cntS,hkf,hkg];simpa using p3)
   (by
    rintro m e hm hk ⟨p0,p1,p2,p3,p4,p5,p6,p7,p8,p9⟩
    have oq:Old h (e.set (h1.nx+3) (LO .busy none)):=p9.set om
    obtain ⟨e1,er,oe⟩:=jeg hcl (d:=d-1-1-1) (fd:=(m:Int)) om (a.old oq) o
    rw [jeF] at er
    obtain ⟨e2,es,oe'⟩:=sl_is hcl (d:=d-1-1-1) (r:=rdyS ws (m:Int)) (h:=e1) om
    obtain ⟨hf,hg⟩:=selS_is (ws:=ws) hk
    have hA:=and_mask (f m) (g m) (inR (rdyS ws (m:Int))) (outR (rdyS ws (m:Int)))
    rw [<- hf,<- hg] at hA
    have hA:IntKind.i64.wrap ((BitVec.ofInt 64 (jna f g m) &&& BitVec.ofInt 64 (isR (rdyS ws (m:Int)))).toNat:Int)=_:=hA
    have oe2:Old (e.set (h1.nx+3) (LO .busy none)) e2:=oe.trans oe'
    have r0 : ∀ j,j<e.nx->j≠h1.nx+3->e2.get j=e.get j:=fun j h1 h2=>by rw [oe2.2 _ (by simpa using h1),jaa h2]
    have r3:e2.get (h.nx+3)=some (.cells (setV (selK ws f inR top m)) false):=by rw [r0 _ om om,p1]
    have r4:e2.get (h.nx+4)=some (.cells (setV (selK ws g outR top m)) false):=by rw [r0 _ om om,p2]
    have r5:e2.get (h.nx+5)=some (.cells [.i ((cntS (selS ws f inR top) m+cntS (selS ws g outR top) m:Nat):Int)] false):=by rw [r0 _ om om,p3]
    have r7:e2.get (h1.nx+3)=some (LO .busy none):=by rw [oe2.2 _ (by simp;omega),jab]
    have ox:e.nx<=e2.nx:=by have:=oe2.1;simpa using this
    have of:Old h e2:=oq.trans oe2
    have fin : ∀ X:H,e.nx<=X.nx->(∀ j,j<e.nx->j≠h.nx+3->j≠h.nx+4->j≠h.nx+5->j≠h1.nx+3->X.get j=e.get j)->X.get (h.nx+3)=some (.cells (setV (selK ws f inR top (m+1))) false)->X.get (h.nx+4)=some (.cells (setV (selK ws g outR top (m+1))) false) ->
      X.get (h.nx+5)=some (.cells [.i ((cntS (selS ws f inR top) (m+1)+cntS (selS ws g outR top) (m+1):Nat):Int)] false) ->
      ((X.set (h1.nx+3) (LO .ready none)).get h.nx=some (.cells [.p w 0] false)/\(X.set (h1.nx+3) (LO .ready none)).get (h.nx+3)=some (.cells (setV (selK ws f inR top (m+1))) false)/\(X.set (h1.nx+3) (LO .ready none)).get (h.nx+4)=some (.cells (setV (selK ws g outR top (m+1))) false)/\(X.set (h1.nx+3) (LO .ready none)).get (h.nx+5)=some (.cells [.i ((cntS (selS ws f inR top) (m+1)+cntS (selS ws g outR top) (m+1):Nat):Int)] false)/\(X.set (h1.nx+3) (LO .ready none)).get h1.nx=some (.cells [.i top] false)/\(X.set (h1.nx+3) (LO .ready none)).get (h1.nx+1)=some (.cells (setV f) false)/\(X.set (h1.nx+3) (LO .ready none)).get (h1.nx+2)=some (.cells (setV g) false)/\(X.set (h1.nx+3) (LO .ready none)).get (h1.nx+3)=some (LO .ready none)/\h1.nx+4<=(X.set (h1.nx+3) (LO .ready none)).nx/\Old h (X.set (h1.nx+3) (LO .ready none)))/\OldN (H2.new (LO .ready none)).nx e (X.set (h1.nx+3) (LO .ready none)):=by
     intro X xn xo x3 x4 x5
     refine ⟨⟨?_,?_,?_,?_,?_,?_,?_,jab _,by simp;omega,⟨by simp;omega,fun j hj=>?_⟩⟩,by simpa using xn,fun j hj hj2=>?_⟩
     ·rw [jaa om,xo _ om om om om om,p0]
     ·rw [jaa om,x3]
     ·rw [jaa om,x4]
     ·rw [jaa om,x5]
     ·rw [jaa om,xo _ om om om om om,p4]
     ·rw [jaa om,xo _ om om om om om,p5]
     ·rw [jaa om,xo _ om om om om om,p6]
     ·rw [jaa om,xo _ om om om om om,p9.2 _ hj]
     ·have hj:h1.nx+3+1<=j:=by simpa [x2] using hj
      rw [jaa om,xo _ hj2 om om om om]
    have hN:cntS (selS ws f inR top) m+cntS (selS ws g outR top) m<=128:=by have:=jkG (selS ws f inR top) m;have:=jkG (selS ws g outR top) m;omega
    have hN1:cntS (selS ws f inR top) (m+1)+cntS (selS ws g outR top) (m+1)=cntS (selS ws f inR top) m+cntS (selS ws g outR top) m+(if selS ws f inR top m then 1 else 0)+(if selS ws g outR top m then 1 else 0):=by simp only [cntS];omega
    rw [hN1] at fin
    generalize cntS (selS ws f inR top) m+cntS (selS ws g outR top) m=n at r5 hN hN1 fin
    have yF:selS ws f inR top m=false->setV (selK ws f inR top (m+1))=setV (selK ws f inR top m):=fun h=>jim h
    have yG:selS ws g outR top m=false->setV (selK ws g outR top (m+1))=setV (selK ws g outR top m):=fun h=>jim h
    have wF : ∀ E,selS ws f inR top m=true -> ∃ E',cl (d-1-1-1) (.fn F.jdd) [.agg (setV (selK ws f inR top m)),.i (m:Int)] E=some (.tup [.agg (setV (selK ws f inR top (m+1))),.i 0],E')/\Old E E':=fun E hs=>by
     rw [jlb hs hm]
     have:=jiE hcl (d:=d-1-1-1) (f:=selK ws f inR top m) (fd:=(m:Int)) (h:=E) om
     rwa [if_pos (show fitS (m:Int) from ⟨by omega,by omega⟩)] at this
    have wG : ∀ E,selS ws g outR top m=true -> ∃ E',cl (d-1-1-1) (.fn F.jdd) [.agg (setV (selK ws g outR top m)),.i (m:Int)] E=some (.tup [.agg (setV (selK ws g outR top (m+1))),.i 0],E')/\Old E E':=fun E hs=>by
     rw [jlb hs hm]
     have:=jiE hcl (d:=d-1-1-1) (f:=selK ws g outR top m) (fd:=(m:Int)) (h:=E) om
     rwa [if_pos (show fitS (m:Int) from ⟨by omega,by omega⟩)] at this
    have lF:(setV (selK ws f inR top m)).length=2:=rfl
    have lG:(setV (selK ws g outR top m)).length=2:=rfl
    have lF1:(setV (selK ws f inR top (m+1))).length=2:=rfl
    have lG1:(setV (selK ws g outR top (m+1))).length=2:=rfl
    have aF1:(setV (selK ws f inR top (m+1))).all V.one=true:=rfl
    have aG1:(setV (selK ws g outR top (m+1))).all V.one=true:=rfl
    generalize jna f g m=mk0 at hA ⊢
    generalize rdyS ws (m:Int)=r at er es hA hf hg
    have er:cl (d-1-1-1) (.fn F.jdg) [.p w 0,.i (m:Int)] (e.set (h1.nx+3) (LO .busy none))=some (.agg r.cells,e1):=er
    generalize isR r=ri at es hA
    generalize r.cells=rc at er es
    refine ⟨true,?_⟩
    suffices q : ∃ v' g',cl (d-1-1) (.yld (h1.nx+3)) [.i (m:Int),.i mk0] e=some (v',g')/\(v' = .bool true/\(g'.get h.nx=some (.cells [.p w 0] false)/\g'.get (h.nx+3)=some (.cells (setV (selK ws f inR top (m+1))) false)/\g'.get (h.nx+4)=some (.cells (setV (selK ws g outR top (m+1))) false)/\g'.get (h.nx+5)=some (.cells [.i ((cntS (selS ws f inR top) (m+1)+cntS (selS ws g outR top) (m+1):Nat):Int)] false)/\g'.get h1.nx=some (.cells [.i top] false)/\g'.get (h1.nx+1)=some (.cells (setV f) false)/\g'.get (h1.nx+2)=some (.cells (setV g) false)/\g'.get (h1.nx+3)=some (LO .ready none)/\h1.nx+4<=g'.nx/\Old h g')/\OldN (H2.new (LO .ready none)).nx e g') by
     obtain ⟨_,g',e,rfl,q⟩:=q
     exact ⟨g',e,fun _=>q,fun e=>by cases e⟩
    refine yl_ hcl om hLO p7 rfl ?_
    clear a o ax ay hk hf hg oq oe oe'
    clear oH oH2 oL b0 b1 b2 b3 b4 b5 c0 c1 c2 c3 c4 c5 d0 d3 d4 d5 q0 q1 q2 ht n1 n2
    refine qx1 ?_
    refine End.nil ⟨rfl,p7,?_⟩
    clear p1 p2 p3 p4 p5 p6 p7 p9
    rw [hN1]
    generalize hT:setV (selK ws f inR top m)=tF at r3 yF wF lF
    generalize hT1:setV (selK ws f inR top (m+1))=tF1 at fin yF wF lF1 aF1 ⊢
    generalize hU:setV (selK ws g outR top m)=tG at r4 yG wG lG
    generalize hU1:setV (selK ws g outR top (m+1))=tG1 at fin yG wG lG1 aG1 ⊢
    have sF:List.take 2 (List.drop 0 tF)=tF:=by rw [List.drop_zero,List.take_of_length_le om]
    have sG:List.take 2 (List.drop 0 tG)=tG:=by rw [List.drop_zero,List.take_of_length_le om]
    clear hT hT1 hU hU1 hN1
    generalize selS ws f inR top m=bF at hA fin yF wF
    generalize selS ws g outR top m=bG at hA fin yG wG
    have hA:IntKind.i64.wrap ((BitVec.ofInt IntKind.i64.bits mk0 &&& BitVec.ofInt IntKind.i64.bits ri).toNat:Int)=(if bF then 2 else 0)+(if bG then 4 else 0):=hA
    have cF:IntKind.i64.wrap ((BitVec.ofInt IntKind.i64.bits (IntKind.i64.wrap ((BitVec.ofInt IntKind.i64.bits mk0 &&& BitVec.ofInt IntKind.i64.bits ri).toNat:Int)) &&& BitVec.ofInt IntKind.i64.bits 2).toNat:Int)=if bF then 2 else 0:=by
     rw [hA];cases bF<;>cases bG<;>decide
    have cG:IntKind.i64.wrap ((BitVec.ofInt IntKind.i64.bits (IntKind.i64.wrap ((BitVec.ofInt IntKind.i64.bits mk0 &&& BitVec.ofInt IntKind.i64.bits ri).toNat:Int)) &&& BitVec.ofInt IntKind.i64.bits 4).toNat:Int)=if bG then 4 else 0:=by
     rw [hA];cases bF<;>cases bG<;>decide
    clear hA
    cases bF with
    | false=>
     obtain rfl:=yF rfl
     have cF : ¬ IntKind.i64.wrap ((BitVec.ofInt IntKind.i64.bits (IntKind.i64.wrap ((BitVec.ofInt IntKind.i64.bits mk0 &&& BitVec.ofInt IntKind.i64.bits ri).toNat:Int)) &&& BitVec.ofInt IntKind.i64.bits 2).toNat:Int)≠0:=by rw [cF];decide
     clear yF wF
     cases bG with
     | false=>
      obtain rfl:=yG rfl
      have cG : ¬ IntKind.i64.wrap ((BitVec.ofInt IntKind.i64.bits (IntKind.i64.wrap ((BitVec.ofInt IntKind.i64.bits mk0 &&& BitVec.ofInt IntKind.i64.bits ri).toNat:Int)) &&& BitVec.ofInt IntKind.i64.bits 4).toNat:Int)≠0:=by rw [cG];decide
      clear yG wG
      have fin:=fin e2 ox (fun j h1 _ _ _ h2=>r0 j h1 h2) r3 r4 r5
      refine qx1 ?_
      refine End.nil ⟨⟨.busy,none,r7⟩,rfl,fin⟩
     | true=>
      have cG:IntKind.i64.wrap ((BitVec.ofInt IntKind.i64.bits (IntKind.i64.wrap ((BitVec.ofInt IntKind.i64.bits mk0 &&& BitVec.ofInt IntKind.i64.bits ri).toNat:Int)) &&& BitVec.ofInt IntKind.i64.bits 4).toNat:Int)≠0:=by rw [cG];decide
      clear yG
      obtain ⟨e4,ew,o4⟩:=wG e2 rfl
      clear wG
      have z4:e4.get (h.nx+4)=some (.cells tG false):=by rw [o4.2 _ om,r4]
      have z5:e4.get (h.nx+5)=some (.cells [.i ((n:Nat):Int)] false):=by rw [o4.2 _ om,r5]
      have zx:=o4.1
      have fin:=fin ((e4.set (h.nx+4) (.cells tG1 false)).set (h.nx+5) (.cells [.i ((n:Int)+1)] false)) (by simp;omega)
       (fun j h1 h2 h3 h4 h5=>by rw [jaa h4,jaa h3,o4.2 _ om,r0 j h1 h5])
       (by rw [jaa om,jaa om,o4.2 _ om,r3])
       (by rw [jaa om,jab]) (by rw [jab];simp)
      have r7':((e4.set (h.nx+4) (.cells tG1 false)).set (h.nx+5) (.cells [.i ((n:Int)+1)] false)).get (h1.nx+3)=some (LO .busy none):=by rw [jaa om,jaa om,o4.2 _ om,r7]
      refine qx1 ?_
      refine Ops.loadN rfl r4 om ?_
      rw [sG]
      refine qx1 ?_
      refine Ops.storeN (b:=h.nx+4) (o:=0) rfl rfl lG1 aG1 z4 om ?_
      rw [jan tG1 tG om]
      refine qx1 ?_
      refine Ops.store1 (b:=h.nx+5) (o:=0) (l:=[.i ((n:Nat):Int)]) rfl rfl rfl (by rw [jaa om];exact z5) Nat.zero_lt_one ?_
      refine qx1 ?_
      refine End.nil ⟨⟨.busy,none,r7'⟩,rfl,fin⟩
    | true=>
     have cF:IntKind.i64.wrap ((BitVec.ofInt IntKind.i64.bits (IntKind.i64.wrap ((BitVec.ofInt IntKind.i64.bits mk0 &&& BitVec.ofInt IntKind.i64.bits ri).toNat:Int)) &&& BitVec.ofInt IntKind.i64.bits 2).toNat:Int)≠0:=by rw [cF];decide
     clear yF
     obtain ⟨e3,ew,o3⟩:=wF e2 rfl
     clear wF
     have z3:e3.get (h.nx+3)=some (.cells tF false):=by rw [o3.2 _ om,r3]
     have z5:e3.get (h.nx+5)=some (.cells [.i ((n:Nat):Int)] false):=by rw [o3.2 _ om,r5]
     have zx:=o3.1
     cases bG with
     | false=>
      obtain rfl:=yG rfl
      have cG : ¬ IntKind.i64.wrap ((BitVec.ofInt IntKind.i64.bits (IntKind.i64.wrap ((BitVec.ofInt IntKind.i64.bits mk0 &&& BitVec.ofInt IntKind.i64.bits ri).toNat:Int)) &&& BitVec.ofInt IntKind.i64.bits 4).toNat:Int)≠0:=by rw [cG];decide
      clear yG wG
      have fin:=fin ((e3.set (h.nx+3) (.cells tF1 false)).set (h.nx+5) (.cells [.i ((n:Int)+1)] false)) (by simp;omega)
       (fun j h1 h2 h3 h4 h5=>by rw [jaa h4,jaa h2,o3.2 _ om,r0 j h1 h5])
       (by rw [jaa om,jab])
       (by rw [jaa om,jaa om,o3.2 _ om,r4]) (by rw [jab];simp)
      have r7':((e3.set (h.nx+3) (.cells tF1 false)).set (h.nx+5) (.cells [.i ((n:Int)+1)] false)).get (h1.nx+3)=some (LO .busy none):=by rw [jaa om,jaa om,o3.2 _ om,r7]
      refine qx1 ?_
      refine Ops.loadN rfl r3 om ?_
      rw [sF]
      refine qx1 ?_
      refine Ops.storeN (b:=h.nx+3) (o:=0) rfl rfl lF1 aF1 z3 om ?_
      rw [jan tF1 tF om]
      refine qx1 ?_
      refine Ops.store1 (b:=h.nx+5) (o:=0) (l:=[.i ((n:Nat):Int)]) rfl rfl rfl (by rw [jaa om];exact z5) Nat.zero_lt_one ?_
      refine qx1 ?_
      refine End.nil ⟨⟨.busy,none,r7'⟩,rfl,fin⟩
     | true=>
      have cG:IntKind.i64.wrap ((BitVec.ofInt IntKind.i64.bits (IntKind.i64.wrap ((BitVec.ofInt IntKind.i64.bits mk0 &&& BitVec.ofInt IntKind.i64.bits ri).toNat:Int)) &&& BitVec.ofInt IntKind.i64.bits 4).toNat:Int)≠0:=by rw [cG];decide
      clear yG
      obtain ⟨E1,hE⟩ : ∃ E1,E1=(e3.set (h.nx+3) (.cells tF1 false)).set (h.nx+5) (.cells [.i ((n:Int)+1)] false):=⟨_,rfl⟩
      have E3:E1.get (h.nx+3)=some (.cells tF1 false):=by rw [hE,jaa om,jab]
      have E4:E1.get (h.nx+4)=some (.cells tG false):=by rw [hE,jaa om,jaa om,o3.2 _ om,r4]
      have E5:E1.get (h.nx+5)=some (.cells [.i ((n:Int)+1)] false):=by rw [hE,jab]
      have E7:E1.get (h1.nx+3)=some (LO .busy none):=by rw [hE,jaa om,jaa om,o3.2 _ om,r7]
      have Ex:e2.nx<=E1.nx:=by rw [hE];simp;omega
      have Er : ∀ j,j<e.nx->j≠h.nx+3->j≠h.nx+5->j≠h1.nx+3->E1.get j=e.get j:=fun j h1 h2 h4 h5=>by rw [hE,jaa h4,jaa h2,o3.2 _ om,r0 j h1 h5]
      obtain ⟨e4,ew4,o4⟩:=wG E1 rfl
      clear wG
      have y4:e4.get (h.nx+4)=some (.cells tG false):=by rw [o4.2 _ om,E4]
      have y5:e4.get (h.nx+5)=some (.cells [.i ((n:Int)+1)] false):=by rw [o4.2 _ om,E5]
      have zx4:=o4.1
      have fin:=fin ((e4.set (h.nx+4) (.cells tG1 false)).set (h.nx+5) (.cells [.i ((n:Int)+1+1)] false)) (by simp;omega)
       (fun j h1 h2 h3 h4 h5=>by rw [jaa h4,jaa h3,o4.2 _ om,Er j h1 h2 h4 h5])
       (by rw [jaa om,jaa om,o4.2 _ om,E3])
       (by rw [jaa om,jab]) (by rw [jab];simp)
      have r7':((e4.set (h.nx+4) (.cells tG1 false)).set (h.nx+5) (.cells [.i ((n:Int)+1+1)] false)).get (h1.nx+3)=some (LO .busy none):=by rw [jaa om,jaa om,o4.2 _ om,E7]
      refine qx1 ?_
      refine Ops.loadN rfl r3 om ?_
      rw [sF]
      refine qx1 ?_
      refine Ops.storeN (b:=h.nx+3) (o:=0) rfl rfl lF1 aF1 z3 om ?_
      rw [jan tF1 tF om]
      refine qx1 ?_
      refine Ops.store1 (b:=h.nx+5) (o:=0) (l:=[.i ((n:Nat):Int)]) rfl rfl rfl (by rw [jaa om];exact z5) Nat.zero_lt_one ?_
      have hE:(e3.set (h.nx+3) (.cells tF1 false)).set (h.nx+5) (.cells (List.set [.i ((n:Nat):Int)] 0 (.i ((n:Int)+1))) false)=E1:=hE.symm
      rw [hE]
      clear hE z3 z5 r3 r4 r5 r0 Er
      refine qx1 ?_
      refine Ops.loadN rfl E4 om ?_
      rw [sG]
      refine qx1 ?_
      refine Ops.storeN (b:=h.nx+4) (o:=0) rfl rfl lG1 aG1 y4 om ?_
      rw [jan tG1 tG om]
      refine qx1 ?_
      refine Ops.store1 (b:=h.nx+5) (o:=0) (l:=[.i ((n:Int)+1)]) rfl rfl rfl (by rw [jaa om];exact y5) Nat.zero_lt_one ?_
      refine qx1 ?_
      refine End.nil ⟨⟨.busy,none,r7'⟩,rfl,fin⟩)
   ⟨by rw [jac om,d0],by rw [jac om,d3,jn8],by rw [jac om,d4,jn8],by rw [jac om,d5];rfl,by rw [jac om,q0],by rw [jac om,q1],by rw [jac om,q2],by rw [<- x2,jad],by simp [x2],oL⟩
  refine hIJ.elim ?_ fun hF=>hF.elim
  rintro ⟨p0,p1,p2,p3,p4,p5,p6,p7,p8,p9⟩
  refine ⟨v',h',hc,.normal,p7,?_⟩
  rw [selK_64] at p1 p2
  have k3:(h'.kill (h1.nx+3)).get (h.nx+3)=some (.cells (setV (selS ws f inR top)) false):=by rw [jaf om,p1]
  have k4:(h'.kill (h1.nx+3)).get (h.nx+4)=some (.cells (setV (selS ws g outR top)) false):=by rw [jaf om,p2]
  have k5:(h'.kill (h1.nx+3)).get (h.nx+5)=some (.cells [.i (((cntS (selS ws f inR top) 64+cntS (selS ws g outR top) 64:Nat):Int))] false):=by rw [jaf om,p3]
  have o9:Old h (h'.kill (h1.nx+3)):=⟨p9.1,fun j hj=>by rw [jaf om,p9.2 j hj]⟩
  generalize h'.kill (h1.nx+3)=H3 at k3 k4 k5 o9 ⊢
  clear p0 p1 p2 p3 p4 p5 p6 p7 p8 p9 hc hLO a ax ay o
  have lR:(setV (selS ws f inR top)).length=2:=rfl
  have lS:(setV (selS ws g outR top)).length=2:=rfl
  have a1:(setV (selS ws f inR top)).all V.one=true:=rfl
  have a2:(setV (selS ws g outR top)).all V.one=true:=rfl
  generalize hv1:setV (selS ws f inR top)=v1 at k3 lR a1 ⊢
  generalize hv2:setV (selS ws g outR top)=v2 at k4 lS a2 ⊢
  generalize hn:((cntS (selS ws f inR top) 64+cntS (selS ws g outR top) 64:Nat):Int)=n at k5 ⊢
  have t1:List.take 2 (List.drop 0 v1)=v1:=by rw [List.drop_zero,List.take_of_length_le om]
  have t2:List.take 2 (List.drop 0 v2)=v2:=by rw [List.drop_zero,List.take_of_length_le om]
  refine qx1 ?_
  refine Ops.loadN rfl k3 om ?_
  rw [t1]
  refine Ops.loadN rfl k4 om ?_
  rw [t2]
  refine qx1 ?_
  refine Ops.storeN_chk (b:=h.nx+3) (o:=0) rfl rfl lR a1 k3 om ?_ ?_
  ·rw [jan v1 v1 rfl]
   exact jfn (b:=h.nx+4) (o:=0) (l:=v2) (ro:=false) rfl (by rw [jaa om];exact k4) om t2 rfl (jbt (b:=h.nx+5) (o:=0) (l:=[.i n]) (ro:=false) rfl (by rw [jaa om];exact k5) rfl rfl jb3)
  rw [jan v1 v1 rfl]
  refine Ops.storeN_chk (b:=h.nx+4) (o:=0) (l:=v2) rfl rfl lS a2 (by rw [jaa om];exact k4) om ?_ ?_
  ·exact jbt (b:=h.nx+5) (o:=0) (l:=[.i n]) (ro:=false) rfl (by rw [jaa om,jaa om];exact k5) rfl rfl jb3
  rw [jan v2 v2 rfl]
  refine Ops.store1 (b:=h.nx+5) (o:=0) (l:=[.i n]) rfl rfl rfl (by rw [jaa om,jaa om];exact k5) Nat.zero_lt_one ?_
  have z3:(((H3.set (h.nx+3) (.cells v1 false)).set (h.nx+4) (.cells v2 false)).set (h.nx+5) (.cells [.i n] false)).get (h.nx+3)=some (.cells v1 false):=by rw [jaa om,jaa om,jab]
  have z4:(((H3.set (h.nx+3) (.cells v1 false)).set (h.nx+4) (.cells v2 false)).set (h.nx+5) (.cells [.i n] false)).get (h.nx+4)=some (.cells v2 false):=by rw [jaa om,jab]
  have z5:(((H3.set (h.nx+3) (.cells v1 false)).set (h.nx+4) (.cells v2 false)).set (h.nx+5) (.cells [.i n] false)).get (h.nx+5)=some (.cells [.i n] false):=jab _
  have oz:Old h (((H3.set (h.nx+3) (.cells v1 false)).set (h.nx+4) (.cells v2 false)).set (h.nx+5) (.cells [.i n] false)):=((o9.set om).set om).set om
  change Ops _ _ _ _ _ _ _ (((H3.set (h.nx+3) (.cells v1 false)).set (h.nx+4) (.cells v2 false)).set (h.nx+5) (.cells [.i n] false)) _
  generalize ((H3.set (h.nx+3) (.cells v1 false)).set (h.nx+4) (.cells v2 false)).set (h.nx+5) (.cells [.i n] false)=H9 at z3 z4 z5 oz ⊢
  clear k3 k4 k5 o9
  refine qx1 ?_
  exact jkm z3 z4 z5 lR lS ⟨oz,_,_,_,rfl,fun _=>⟨rfl,rfl,rfl⟩,fun e=>absurd rfl e⟩
end
end Am.Sigs
namespace Am.Sigs
open Am Go
section
variable {cl:Nat->Call} (hcl:Sem cl) {h:H}
include hcl
variable {w s:Nat} {ow:Nat->Nat} {ws:Ws} {now:Int} {tb:Tb} {no:Option (Nat × Nat)} {f g:Nat->Bool}
theorem sl_Holds {d:Nat} {top:Int} (hd:12<=d) (a:WSt h w s ow ws now tb no) (o:WsOk ws) :
  ∃ (b:Bool) (h':H),cl d (.fn F.jji) [.p w 0,.i top,.agg (setV f),.agg (setV g)] h=some (.bool b,h')/\Old h h' /\
   (b=true↔jbU ws f g top≠0\/0<cntS (selS ws f inR top) 64+cntS (selS ws g outR top) 64):=by
 suffices q : ∃ v' h',cl d (.fn F.jji) [.p w 0,.i top,.agg (setV f),.agg (setV g)] h=some (v',h') /\ ∃ b:Bool,v' = .bool b/\Old h h'/\(b=true↔jbU ws f g top≠0\/0<cntS (selS ws f inR top) 64+cntS (selS ws g outR top) 64) by
  obtain ⟨_,h',e,b,rfl,q⟩:=q;exact ⟨b,h',e,q⟩
 have oH:Old h ((h.new (.cells (setV f) false)).new (.cells (setV g) false)):=(Old.refl h).new.new
 have b0:((h.new (.cells (setV f) false)).new (.cells (setV g) false)).get h.nx=some (.cells (setV f) false):=qgt
 have b1:((h.new (.cells (setV f) false)).new (.cells (setV g) false)).get (h.nx+1)=some (.cells (setV g) false):=qgt
 refine at_ hcl om rfl rfl rfl ?_
 refine Run.seq (Run.region0 (Ops.make rfl rfl (Ops.make rfl rfl (Ops.mv rfl (Ops.nil qkp (End.seq ?_))))))
 change Run (cl (d-1)) fuel _ _ [(0,.p w 0),(1,.i top),(6,.p h.nx 0),(7,.p (h.nx+1) 0)] ((h.new (.cells (setV f) false)).new (.cells (setV g) false)) _
 generalize (h.new (.cells (setV f) false)).new (.cells (setV g) false)=H0 at oH b0 b1 ⊢
 obtain ⟨R,S,h1,e1,o1,q1,q2⟩:=jjh hcl (d:=d-1) (top:=top) (f:=f) (g:=g) (h:=H0) om (a.old oH) o
 have hb : ∀ b:Bool,b=(decide (jbU ws f g top≠0)||decide (0<cntS R 64+cntS S 64))->(b=true↔jbU ws f g top≠0\/0<cntS (selS ws f inR top) 64+cntS (selS ws g outR top) 64):=by
  intro b hb
  by_cases hz:jbU ws f g top=0
  ·obtain ⟨rfl,rfl⟩:=q1 hz
   simp [hb,hz]
  ·simp [hb,hz]
 have oX:=oH.trans o1
 clear q1 q2 a o
 generalize jbU ws f g top=er at e1 hb ⊢
 generalize cntS R 64+cntS S 64=n at e1 hb ⊢
 have lR:(setV R).length=2:=rfl
 have lS:(setV S).length=2:=rfl
 have aR:(setV R).all V.one=true:=rfl
 have aS:(setV S).all V.one=true:=rfl
 refine qx1 ?_
 refine Ops.loadN rfl b0 (Nat.le_refl _) ?_
 rw [show List.take 2 (List.drop 0 (setV f))=setV f from rfl]
 refine qx1 ?_
 refine Ops.loadN rfl b1 (Nat.le_refl _) ?_
 rw [show List.take 2 (List.drop 0 (setV g))=setV g from rfl]
 refine qx1 ?_
 refine Ops.make rfl rfl (Ops.make rfl rfl ?_)
 refine Ops.storeN (b:=h1.nx) (o:=0) (l:=[.int .u32 0,.int .u32 0]) rfl rfl lR aR (by rw [jac (by simp),jad]) (Nat.le_of_ble_eq_true rfl) ?_
 refine Ops.storeN (b:=h1.nx+1) (o:=0) (l:=[.int .u32 0,.int .u32 0]) rfl rfl lS aS (by rw [jaa om];exact jad _) (Nat.le_of_ble_eq_true rfl) ?_
 have o9:Old h ((((h1.new (.cells [.int .u32 0,.int .u32 0] false)).new (.cells [.int .u32 0,.int .u32 0] false)).set h1.nx (.cells (jar [.int .u32 0,.int .u32 0] 0 (setV R)) false)).set (h1.nx+1) (.cells (jar [.int .u32 0,.int .u32 0] 0 (setV S)) false)):=by
  have:=oX.1
  exact (oX.new.new.set this).set om
 change Ops _ _ _ _ _ _ _ ((((h1.new (.cells [.int .u32 0,.int .u32 0] false)).new (.cells [.int .u32 0,.int .u32 0] false)).set h1.nx (.cells (jar [.int .u32 0,.int .u32 0] 0 (setV R)) false)).set (h1.nx+1) (.cells (jar [.int .u32 0,.int .u32 0] 0 (setV S)) false)) _
 generalize (((h1.new (.cells [.int .u32 0,.int .u32 0] false)).new (.cells [.int .u32 0,.int .u32 0] false)).set h1.nx (.cells (jar [.int .u32 0,.int .u32 0] 0 (setV R)) false)).set (h1.nx+1) (.cells (jar [.int .u32 0,.int .u32 0] 0 (setV S)) false)=H9 at o9 ⊢
 clear b0 b1 e1 o1 oH oX lR lS aR aS
 by_cases he:er=0
 ·subst he
  by_cases hn:n=0
  ·subst hn
   refine qx1 ?_
   exact ⟨_,rfl,o9,hb _ (by simp)⟩
  ·have hn:(0:Int)<n:=by omega
   refine qx1 ?_
   exact ⟨_,rfl,o9,hb _ (by simp)⟩
 ·refine qx1 ?_
  exact ⟨_,rfl,o9,hb _ (by simp [he])⟩
end
end Am.Sigs
namespace Am.Sigs
open Am Go
end Am.Sigs
namespace Am
open Go Am.Sigs
section
variable {call:Call} {fuel base:Nat} {K:List Fr} {e:Env} {h h' h0:H} {Q:Post} {ix:Nat} {dst:Option Nat} {ops:List Ins} {keep:List Nat} {at_:Option Nat} {c:List (Nat × I × Option (Nat × Bool))}
theorem Ops.loadS {a:Opd} {b:Nat} {f:Nat->Bool} (ha:a.ev e=some (.ptr (some (b,0)))) (o:Old h0 h) (k:Kc h0 b (setV f) false) (kk:Ops call fuel base ops keep K (layv e dst (.agg (setV f))) h Q) :
  Ops call fuel base (⟨ix,dst,.loadN 2 a,none,at_,[]⟩ :: ops) keep K e h Q:=Ops.loadN ha (k.old o).at_ (Nat.le_refl _) kk
theorem jkI {d:Nat} {a:Opd} {g:Option (Nat × Bool)} {r:List (Nat × I × Option (Nat × Bool))} {b:Nat} {f:Nat->Bool} (ha:a.ev e=some (.ptr (some (b,0)))) (o:Old h0 h) (k:Kc h0 b (setV f) false)
  (hd:e.get d=some (.agg (setV f))) (kk:jaH e h r=true):jaH e h ((d,.loadN 2 a,g) :: r)=true:=by
 have hl:h.load b 0 2=some (setV f):=jcD (k.old o).at_ (Nat.le_refl _)
 simp only [jaH,I.read,ha,hl,hd,V.same_refl,kk,Bool.and_true]
 cases wanted e g<;>rfl
theorem Ops.eqS {x y:Opd} {f g:Nat->Bool} (hx:x.ev e=some (.agg (setV f))) (hy:y.ev e=some (.agg (setV g))) (he:setV f=setV g) (kk:Ops call fuel base ops keep K (layv e dst (.bool true)) h Q) :
  Ops call fuel base (⟨ix,dst,.eq (.agg [.int .u32,.int .u32]) false x y,none,at_,[]⟩ :: ops) keep K e h Q:=by
 refine Ops.pure rfl ?_ kk
 simp only [I.pure,hx,hy,he,eqOp,cond_false]
 simp [ja8,jgW,setV]
theorem Ops.mkS {x:Opd} {f:Nat->Bool} {d i1 i2:Nat} (hx:x.ev ((d,.p h.nx 0) :: e)=some (.agg (setV f)))
  (kk : ∀ H5,Old h H5->Kc H5 h.nx (setV f) false->H5.nx=h.nx+1->Ops call fuel base ops keep K (layv ((d,.p h.nx 0) :: e) none .undef) H5 Q) :
  Ops call fuel base (⟨i1,some d,.alloc 2 [.int .u32 0,.int .u32 0],none,none,[]⟩ :: ⟨i2,none,.store 2 (.t d) x,none,none,[]⟩ :: ops) keep K e h Q:=by
 refine Ops.make rfl rfl ?_
 refine Ops.storeN (b:=h.nx) (o:=0) (l:=[.int .u32 0,.int .u32 0]) (by simp [layv,Opd.ev,Env.get]) hx rfl rfl (jad _) (Nat.le_of_ble_eq_true rfl) ?_
 rw [jan (setV f) [.int .u32 0,.int .u32 0] rfl]
 exact kk _ ((Old.refl h).new.set (Nat.le_refl _)) ⟨Nat.lt_succ_self _,jab _⟩ rfl
theorem Ops.mk2S {x y:Opd} {f g:Nat->Bool} {d1 d2 i1 i2 i3 i4:Nat} {h8:H} (o:Old h8 h) (hn:h8.nx+2<=h.nx) (h12:d2≠d1) (hx:x.ev ((d2,.p (h8.nx+1) 0) :: (d1,.p (h8.nx+0) 0) :: e)=some (.agg (setV f))) (hy:y.ev ((d2,.p (h8.nx+1) 0) :: (d1,.p (h8.nx+0) 0) :: e)=some (.agg (setV g)))
  (kk : ∀ H5,Old h8 H5->Kc H5 (h8.nx+0) (setV f) false->Kc H5 (h8.nx+1) (setV g) false->H5.nx=h.nx->Ops call fuel h8.nx ops keep K ((d2,.p (h8.nx+1) 0) :: (d1,.p (h8.nx+0) 0) :: e) H5 Q) :
  Ops call fuel h8.nx (⟨i1,some d1,.alloc 2 [.int .u32 0,.int .u32 0],none,some 0,[]⟩ :: ⟨i2,some d2,.alloc 2 [.int .u32 0,.int .u32 0],none,some 1,[]⟩ :: ⟨i3,none,.store 2 (.t d1) x,none,none,[]⟩ :: ⟨i4,none,.store 2 (.t d2) y,none,none,[]⟩ :: ops) keep K e h Q:=by
 have e1:(Opd.t d1).ev ((d2,.p (h8.nx+1) 0) :: (d1,.p (h8.nx+0) 0) :: e)=some (.p (h8.nx+0) 0):=by
  have hb:Nat.beq d2 d1=false:=by
   cases hh:Nat.beq d2 d1
   ·rfl
   ·exact absurd (Nat.eq_of_beq_eq_true hh) h12
  simp [Opd.ev,Env.get,hb]
 refine Ops.make_at rfl rfl (Ops.make_at rfl rfl ?_)
 refine Ops.storeN (b:=h8.nx+0) (o:=0) (l:=[.int .u32 0,.int .u32 0]) e1 hx rfl rfl (by rw [jaa om,jab]) (Nat.le_of_ble_eq_true rfl) ?_
 rw [jan (setV f) [.int .u32 0,.int .u32 0] rfl]
 refine Ops.storeN (b:=h8.nx+1) (o:=0) (l:=[.int .u32 0,.int .u32 0]) (by simp [layv,Opd.ev,Env.get]) hy rfl rfl (by rw [jaa om,jab]) (Nat.le_of_ble_eq_true rfl) ?_
 rw [jan (setV g) [.int .u32 0,.int .u32 0] rfl]
 exact kk _ ((((o.set om).set om).set om).set om) ⟨by show h8.nx+0<h.nx;omega,by rw [jaa om,jab]⟩ ⟨by show h8.nx+1<h.nx;omega,jab _⟩ rfl
end
end Am
namespace Am.Sigs
open Am Go
section
variable {cl:Nat->Call} (hcl:Sem cl)
include hcl
variable {h:H} {w s:Nat} {ow:Nat->Nat} {ws:Ws} {now:Int} {tb:Tb} {no:Option (Nat × Nat)} {f g:Nat->Bool}
theorem sl_sel {d:Nat} {top:Int} (hd:11<=d) (a:WSt h w s ow ws now tb no) (o:WsOk ws) :
  ∃ (R S:Nat->Bool) (n:Nat) (er:Int) (h':H),cl d (.fn F.jf6) [.p w 0,.i top,.agg (setV f),.agg (setV g)] h=some (.tup [.agg (setV R),.agg (setV S),.i (n:Int),.i er],h')/\Old h h' /\
   Hd (n=cntS R 64+cntS S 64/\er=jbU ws f g top/\(jbU ws f g top=0->R=selS ws f inR top/\S=selS ws g outR top)):=by
 obtain ⟨R,S,h',e,o',r1,_⟩:=jjh hcl hd a o (top:=top) (f:=f) (g:=g)
 exact ⟨R,S,_,_,h',e,o',⟨rfl,rfl,r1⟩⟩
end
end Am.Sigs
namespace Am.Sigs
open Am Go
def jcX:Bool->Bool->Int
 | false,false=>0
 | true,false=>2
 | false,true=>4
 | true,true=>6
def evI:Bool->Bool->Int
 | false,false=>0
 | true,false=>1
 | false,true=>4
 | true,true=>5
theorem evI_may (a b:Bool):jfh (evI a b):=by cases a<;>cases b<;>simp [jfh,evI]
theorem polI (r:Rdy) (m:Nat) (a b:Bool) (ho:r.op=true):jdo r (m:Int) (evI a b)=b2i r.hup 16+b2i (r.inn&&a) 1+b2i (r.out&&b) 4+b2i r.err 8:=by
 unfold jdo
 rw [if_neg om,if_neg (by rw [ho];decide)]
 cases a<;>cases b<;>simp [evI]
def tI (hup p q err:Bool):Int:=b2i hup 16+b2i p 1+b2i q 4+b2i err 8
theorem tI_nval (hup p q err:Bool):IntKind.i64.wrap ((BitVec.ofInt 64 (tI hup p q err) &&& BitVec.ofInt 64 32).toNat:Int)=0:=by
 cases hup<;>cases p<;>cases q<;>cases err<;>decide
theorem tI_in (hup p q err:Bool):IntKind.i64.wrap ((BitVec.ofInt 64 (tI hup p q err) &&& BitVec.ofInt 64 25).toNat:Int)=0↔(p||hup||err)=false:=by
 cases hup<;>cases p<;>cases q<;>cases err<;>decide
theorem tI_out (hup p q err:Bool):IntKind.i64.wrap ((BitVec.ofInt 64 (tI hup p q err) &&& BitVec.ofInt 64 28).toNat:Int)=0↔(q||hup||err)=false:=by
 cases hup<;>cases p<;>cases q<;>cases err<;>decide
theorem jn4 (hup p q err:Bool):tI hup p q err=0↔(p||hup||err)=false/\(q||hup||err)=false:=by
 cases hup<;>cases p<;>cases q<;>cases err<;>decide
def jjX (F:Nat->Bool) (a:Bool) (m:Nat):Nat->Bool:=if a then jjb F (m:Int) else F
theorem je1 {F:Nat->Bool} {a:Bool} {m:Nat} (hm:m<64) (i:Nat):jjX F a m i=(F i||(a&&decide (i=m))):=by
 unfold jjX
 cases a
 ·simp
 ·rw [if_pos rfl,jjb,if_pos (show fitS (m:Int) from ⟨by omega,by omega⟩),Int.toNat_natCast]
  simp [addS]
abbrev AskP:=Nat × Bool × Bool
def jcf (P:List AskP):List (Int × Int):=P.map fun x=>((x.1:Int),evI x.2.1 x.2.2)
def jeR (P:List AskP):List Int:=P.map fun x=>jcX x.2.1 x.2.2
structure PInv (ws:Ws) (F G:Nat->Bool) (P:List AskP):Prop where
 el : ∀ x∈P,x.1<64/\(rdyS ws (x.1:Int)).op=true/\F x.1=x.2.1/\G x.1=x.2.2/\(x.2.1||x.2.2)=true
 all : ∀ m,m<64->(F m||G m)=true -> ∃ x∈P,x.1=m
theorem PInv.none (ws:Ws):PInv ws (fun _=>false) (fun _=>false) []:=⟨fun x hx=>by (cases hx),fun m _ h=>by simp at h⟩
theorem PInv.add {ws:Ws} {F G:Nat->Bool} {P:List AskP} (p:PInv ws F G P) {m:Nat} {a b:Bool} (hm:m<64) (ho:(rdyS ws (m:Int)).op=true) (hF:F m=false) (hG:G m=false) (hab:(a||b)=true) :
  PInv ws (jjX F a m) (jjX G b m) (P++[(m,a,b)]):=by
 refine ⟨fun x hx=>?_,fun i hi h=>?_⟩
 ·rcases List.mem_append.1 hx with hx | hx
  ·obtain ⟨h1,h2,h3,h4,h5⟩:=p.el x hx
   have hne:x.1≠m:=fun e=>by rw [e] at h3 h4;rw [<- h3,<- h4,hF,hG] at h5;cases h5
   exact ⟨h1,h2,by rw [je1 hm,h3];simp [hne],by rw [je1 hm,h4];simp [hne],h5⟩
  ·obtain rfl:x=(m,a,b):=by simpa using hx
   exact ⟨hm,ho,by rw [je1 hm,hF];simp,by rw [je1 hm,hG];simp,hab⟩
 ·rw [je1 hm,je1 hm] at h
  by_cases e:i=m
  ·exact ⟨(m,a,b),by simp,e.symm⟩
  ·obtain ⟨x,hx,hx2⟩:=p.all i hi (by simpa [e] using h)
   exact ⟨x,by simp [hx],hx2⟩
theorem jiJ {f:Nat->Bool} : ∀ {n:Nat},0<cntS f n ↔ ∃ i,i<n/\f i=true
 | 0=>by simp [cntS]
 | n+1=>by
  have ih:=jiJ (f:=f) (n:=n)
  rw [cntS]
  constructor
  ·intro h
   by_cases hf:f n=true
   ·exact ⟨n,by omega,hf⟩
   ·rw [if_neg hf] at h
    obtain ⟨i,hi,h2⟩:=ih.1 om
    exact ⟨i,by omega,h2⟩
  ·rintro ⟨i,hi,h2⟩
   by_cases e:i=n
   ·rw [<- e,if_pos h2];omega
   ·have:=ih.2 ⟨i,by omega,h2⟩
    omega
theorem jlv : ∀ {l:List Int},(∀ x∈l,0<=x)->(0<cntP l ↔ ∃ x∈l,x≠0)
 | [],_=>by simp [cntP]
 | y :: l,h=>by
  have ih:=jlv (l:=l) fun x hx=>h x (by simp [hx])
  have h1:=(jiK (l:=l) fun x hx=>h x (by simp [hx])).1
  have h2:=h y (by simp)
  rw [cntP]
  constructor
  ·intro h3
   by_cases hy:y=0
   ·obtain ⟨x,hx,hx2⟩:=ih.1 om
    exact ⟨x,by simp [hx],hx2⟩
   ·exact ⟨y,by simp,hy⟩
  ·rintro ⟨x,hx,hx2⟩
   rcases List.mem_cons.1 hx with rfl | hx
   ·omega
   ·have:=ih.2 ⟨x,hx,hx2⟩
    omega
theorem PInv.err {ws:Ws} {F G:Nat->Bool} {P:List AskP} (p:PInv ws F G P):jbU ws F G 64=0:=by
 unfold jbU
 rw [if_neg om,if_neg]
 rintro ⟨m,hm,ha,hr⟩
 simp only [askS,jcG,orS,Bool.and_eq_true] at ha
 obtain ⟨x,hx,rfl⟩:=p.all m hm ha.1
 rw [(p.el x hx).2.1] at hr
 cases hr
theorem PInv.sel {ws:Ws} {F G:Nat->Bool} {P:List AskP} (p:PInv ws F G P) {x:AskP} (hx:x∈P):selS ws F inR 64 x.1=(x.2.1&&inR (rdyS ws (x.1:Int)))/\selS ws G outR 64 x.1=(x.2.2&&outR (rdyS ws (x.1:Int))):=by
 obtain ⟨h1,_,h3,h4,_⟩:=p.el x hx
 unfold selS
 rw [decide_eq_true (show (x.1:Int)<64 by omega),h3,h4]
 simp
theorem PInv.pol {ws:Ws} {F G:Nat->Bool} {P:List AskP} (p:PInv ws F G P) {x:AskP} (hx:x∈P):jdo (rdyS ws (x.1:Int)) (x.1:Int) (evI x.2.1 x.2.2)=tI (rdyS ws (x.1:Int)).hup ((rdyS ws (x.1:Int)).inn&&x.2.1) ((rdyS ws (x.1:Int)).out&&x.2.2) (rdyS ws (x.1:Int)).err :=
 polI _ _ _ _ (p.el x hx).2.1
theorem PInv.told {ws:Ws} {F G:Nat->Bool} {P:List AskP} (p:PInv ws F G P):0<cntS (selS ws F inR 64) 64+cntS (selS ws G outR 64) 64↔0<cntP (polL ws (jcf P)):=by
 rw [jlv (ji2 _ _)]
 have key:(0<cntS (selS ws F inR 64) 64+cntS (selS ws G outR 64) 64) ↔ ∃ i,i<64/\(selS ws F inR 64 i||selS ws G outR 64 i)=true:=by
  have e1:=jiJ (f:=selS ws F inR 64) (n:=64)
  have e2:=jiJ (f:=selS ws G outR 64) (n:=64)
  constructor
  ·intro h
   by_cases h1:0<cntS (selS ws F inR 64) 64
   ·obtain ⟨i,a,b⟩:=e1.1 h1;exact ⟨i,a,by rw [b];rfl⟩
   ·obtain ⟨i,a,b⟩:=e2.1 om;exact ⟨i,a,by rw [b,Bool.or_true]⟩
  ·rintro ⟨i,a,b⟩
   rcases Bool.or_eq_true _ _ ▸ b with b | b
   ·have:=e1.2 ⟨i,a,b⟩;omega
   ·have:=e2.2 ⟨i,a,b⟩;omega
 rw [key]
 constructor
 ·rintro ⟨i,hi,h⟩
  have hFG:(F i||G i)=true:=by
   revert h
   unfold selS
   cases F i<;>cases G i<;>simp
  obtain ⟨x,hx,rfl⟩:=p.all i hi hFG
  refine ⟨_,List.mem_map.2 ⟨_,List.mem_map.2 ⟨x,hx,rfl⟩,rfl⟩,?_⟩
  rw [(p.sel hx).1,(p.sel hx).2] at h
  show jdo _ _ _≠0
  rw [p.pol hx,Ne,jn4]
  revert h
  unfold inR outR
  cases x.2.1<;>cases x.2.2<;>cases (rdyS ws (x.1:Int)).inn<;>cases (rdyS ws (x.1:Int)).out<;>cases (rdyS ws (x.1:Int)).hup<;>cases (rdyS ws (x.1:Int)).err<;>simp
 ·rintro ⟨t,ht,h0⟩
  obtain ⟨y,hy,rfl⟩:=List.mem_map.1 ht
  obtain ⟨x,hx,rfl⟩:=List.mem_map.1 hy
  obtain ⟨h1,_,h3,h4,h5⟩:=p.el x hx
  refine ⟨x.1,h1,?_⟩
  rw [(p.sel hx).1,(p.sel hx).2]
  have h0:jdo _ _ _≠0:=h0
  rw [p.pol hx,Ne,jn4] at h0
  revert h0 h5
  unfold inR outR
  cases x.2.1<;>cases x.2.2<;>cases (rdyS ws (x.1:Int)).inn<;>cases (rdyS ws (x.1:Int)).out<;>cases (rdyS ws (x.1:Int)).hup<;>cases (rdyS ws (x.1:Int)).err<;>simp
section
variable {cl:Nat->Call} (hcl:Sem cl) {h:H}
include hcl
theorem pl_wants {d:Nat} (hd:1<=d) (a b:Bool):cl d (.fn F.pol_Wants) [.i (jcX a b)] h=some (.i (evI a b),h):=by
 refine jap (at_ hcl om rfl rfl rfl ?_)
 cases a<;>cases b<;>simp only [jcX,evI]
 ·refine qx1 ?_
  exact ⟨rfl,rfl⟩
 ·refine qx1 ?_
  exact ⟨rfl,rfl⟩
 ·refine qx1 ?_
  exact ⟨rfl,rfl⟩
 ·refine qx1 ?_
  exact ⟨rfl,rfl⟩
theorem pl_flags {d:Nat} (hd:1<=d) (a b hup p q err:Bool):cl d (.fn F.pol_Flags) [.i (jcX a b),.i (tI hup p q err)] h=some (.tup [.i (jcX (a&&(p||hup||err)) (b&&(q||hup||err))),.i 0],h):=by
 refine jap (at_ hcl om rfl rfl rfl ?_)
 have n0:IntKind.i64.wrap ((BitVec.ofInt IntKind.i64.bits (tI hup p q err) &&& BitVec.ofInt IntKind.i64.bits 32).toNat:Int)=0:=tI_nval hup p q err
 have n1:IntKind.i64.wrap ((BitVec.ofInt IntKind.i64.bits (tI hup p q err) &&& BitVec.ofInt IntKind.i64.bits 25).toNat:Int)=0↔(p||hup||err)=false:=tI_in hup p q err
 have n2:IntKind.i64.wrap ((BitVec.ofInt IntKind.i64.bits (tI hup p q err) &&& BitVec.ofInt IntKind.i64.bits 28).toNat:Int)=0↔(q||hup||err)=false:=tI_out hup p q err
 generalize tI hup p q err=t at *
 generalize (p||hup||err)=A at *
 generalize (q||hup||err)=B at *
 cases A<;>cases B
 ·have n1:=n1.2 rfl
  have n2:=n2.2 rfl
  refine qx1 ?_
  exact ⟨by cases a<;>cases b<;>rfl,rfl⟩
 ·have n1:=n1.2 rfl
  have n2 : ¬ _:=fun e=>absurd (n2.1 e) (by decide)
  refine qx1 ?_
  exact ⟨by cases a<;>cases b<;>rfl,rfl⟩
 ·have n1 : ¬ _:=fun e=>absurd (n1.1 e) (by decide)
  have n2:=n2.2 rfl
  refine qx1 ?_
  exact ⟨by cases a<;>cases b<;>rfl,rfl⟩
 ·have n1 : ¬ _:=fun e=>absurd (n1.1 e) (by decide)
  have n2 : ¬ _:=fun e=>absurd (n2.1 e) (by decide)
  refine qx1 ?_
  exact ⟨by cases a<;>cases b<;>rfl,rfl⟩
end
end Am.Sigs
namespace Am
open Go Am.Sigs
section
variable {call:Call} {fuel base:Nat} {K:List Fr} {e:Env} {h h' h0:H} {Q:Post} {ops:List Ins} {keep:List Nat}
theorem Ops.stS {x a:Opd} {f:Nat->Bool} {l:List V} {b ix:Nat} (ha:a.ev e=some (.p b 0)) (hx:x.ev e=some (.agg (setV f))) (k:Kc h b l false) (hl:l.length=2)
  (kk : ∀ H5,Ch (fun j=>j=b) h H5->Kc H5 b (setV f) false->Ops call fuel base ops keep K (layv e none .undef) H5 Q) :
  Ops call fuel base (⟨ix,none,.store 2 a x,none,none,[]⟩ :: ops) keep K e h Q:=by
 refine Ops.storeN (b:=b) (o:=0) (l:=l) ha hx rfl rfl k.at_ om ?_
 rw [jan (setV f) l (by rw [hl];rfl)]
 exact kk _ (Ch.set rfl) ⟨k.lt,jab _⟩
theorem Kc.ch {B:Nat->Prop} {b:Nat} {l:List V} {ro:Bool} (k:Kc h b l ro) (t:Ch B h h') (hb : ¬ B b):Kc h' b l ro :=
 ⟨Nat.lt_of_lt_of_le k.lt t.nx,by rw [t.get b k.lt hb,k.at_]⟩
end
end Am
namespace Am.Sigs
open Am Go
structure SI (hS g:H) (F G:Nat->Bool) (av wv:V) (P:List AskP):Prop where
 old:Old hS g
 k11:Kc g hS.nx (setV F) false
 k12:Kc g (hS.nx+1) (setV G) false
 ra:Row (hS.nx+2) g 2 av P.length (jbw (jcf P))
 rw_:Row (hS.nx+2) g 1 wv P.length (ints (jeR P))
 ap : ∀ q,av.at?=some q->wv.at?≠some q
section
variable {cl:Nat->Call} (hcl:Sem cl)
include hcl
theorem jon {d b m:Nat} {g:H} {F:Nat->Bool} (hd:3<=d) (hm:m<64) (k11:Kc g b (setV F) false) {K:List Fr} {Q:Post} {l1 l2 l8 l9 l12 l13 l14 l15 l17:V}
  (k : ∀ g',Ch (fun j=>j=b) g g'->Kc g' b (setV (jjb F (m:Int))) false->End (cl d) fuel K .normal [(1,l1),(2,l2),(7,.bool true),(8,l8),(9,l9),(11,.p b 0),(12,l12),(13,l13),(14,l14),(15,l15),(16,.i (m:Int)),(17,l17)] g' Q) {l104:V} :
  Run (cl d) fuel c8_12 K [(1,l1),(2,l2),(7,.bool true),(8,l8),(9,l9),(11,.p b 0),(12,l12),(13,l13),(14,l14),(15,l15),(16,.i (m:Int)),(17,l17),(104,l104)] g Q:=by
 obtain ⟨g2,e2,o2⟩:=jiE hcl (d:=d) (f:=F) (fd:=(m:Int)) (h:=g) om
 rw [if_pos (show fitS (m:Int) from ⟨by omega,by omega⟩)] at e2
 have og:=Old.refl g
 refine qz1 ?_
 refine Ops.mkS rfl fun H5 o5 k5 x5=>?_
 have o6:=Old.refl H5
 refine qz1 ?_
 refine Ops.stS rfl rfl ((k11.old o2).old o5) rfl fun H6 c6 k6=>?_
 have k2:=k H6 ((o2.trans o5).ch.trans c6) k6
 refine qz1 ?_
 exact k2
theorem jom {d b m:Nat} {g:H} {F:Nat->Bool} (hd:3<=d) (hm:m<64) (k11:Kc g b (setV F) false) {K:List Fr} {Q:Post} {l1 l2 l8 l9 l11 l13 l14 l15 l17:V}
  (k : ∀ g',Ch (fun j=>j=b) g g'->Kc g' b (setV (jjb F (m:Int))) false->End (cl d) fuel K .normal [(1,l1),(2,l2),(7,.bool true),(8,l8),(9,l9),(11,l11),(12,.p b 0),(13,l13),(14,l14),(15,l15),(16,.i (m:Int)),(17,l17)] g' Q) {l119:V} :
  Run (cl d) fuel c8_9 K [(1,l1),(2,l2),(7,.bool true),(8,l8),(9,l9),(11,l11),(12,.p b 0),(13,l13),(14,l14),(15,l15),(16,.i (m:Int)),(17,l17),(119,l119)] g Q:=by
 obtain ⟨g2,e2,o2⟩:=jiE hcl (d:=d) (f:=F) (fd:=(m:Int)) (h:=g) om
 rw [if_pos (show fitS (m:Int) from ⟨by omega,by omega⟩)] at e2
 have og:=Old.refl g
 refine qz1 ?_
 refine Ops.mkS rfl fun H5 o5 k5 x5=>?_
 have o6:=Old.refl H5
 refine qz1 ?_
 refine Ops.stS rfl rfl ((k11.old o2).old o5) rfl fun H6 c6 k6=>?_
 have k2:=k H6 ((o2.trans o5).ch.trans c6) k6
 refine qz1 ?_
 exact k2
omit hcl in
theorem SI.off {hS g g':H} {F G:Nat->Bool} {av wv:V} {P:List AskP} {b:Nat} (s:SI hS g F G av wv P) (c:Ch (fun j=>j=b) g g') (h0:hS.nx<=b) (h1:b<hS.nx+2) :
  Old hS g'/\Row (hS.nx+2) g' 2 av P.length (jbw (jcf P))/\Row (hS.nx+2) g' 1 wv P.length (ints (jeR P)) :=
 ⟨⟨Nat.le_trans s.old.1 c.nx,fun j hj=>by rw [c.get j (Nat.lt_of_lt_of_le hj s.old.1) (fun e=>by have e:j=b:=e;omega),s.old.2 j hj]⟩,
  s.ra.keep c.nx fun q hq=>by obtain ⟨q1,q2⟩:=s.ra.at_ge hq;exact c.get q q2 (fun e=>by have e:q=b:=e;omega),
  s.rw_.keep c.nx fun q hq=>by obtain ⟨q1,q2⟩:=s.rw_.at_ge hq;exact c.get q q2 (fun e=>by have e:q=b:=e;omega)⟩
omit hcl in
theorem SI.s11 {hS g g':H} {F G F':Nat->Bool} {av wv:V} {P:List AskP} (s:SI hS g F G av wv P) (c:Ch (fun j=>j=hS.nx) g g') (k:Kc g' hS.nx (setV F') false):SI hS g' F' G av wv P:=by
 obtain ⟨o,r1,r2⟩:=s.off c (Nat.le_refl _) om
 exact ⟨o,k,s.k12.ch c (fun e=>by have e:hS.nx+1=hS.nx:=e;omega),r1,r2,s.ap⟩
omit hcl in
theorem SI.s12 {hS g g':H} {F G G':Nat->Bool} {av wv:V} {P:List AskP} (s:SI hS g F G av wv P) (c:Ch (fun j=>j=hS.nx+1) g g') (k:Kc g' (hS.nx+1) (setV G') false):SI hS g' F G' av wv P:=by
 obtain ⟨o,r1,r2⟩:=s.off c om om
 exact ⟨o,s.k11.ch c (fun e=>by have e:hS.nx=hS.nx+1:=e;omega),k,r1,r2,s.ap⟩
theorem add_l {d m:Nat} {hS g:H} {F G:Nat->Bool} {av wv:V} {P:List AskP} {a b:Bool} (hd:3<=d) (s:SI hS g F G av wv P) (hP:P.length<=100) {K:List Fr} {Q:Post} {l1 l2 l8 l9 l11 l12 l15:V} {ex:Env} (he:ex=[] \/ ∃ x,ex=[(119,x)])
  (k : ∀ g' av' wv',Old hS g'->(∀ j,j<hS.nx+2->g'.get j=g.get j)->g.nx<=g'.nx->Row (hS.nx+2) g' 2 av' (P.length+1) (jbw (jcf (P++[(m,a,b)])))->Row (hS.nx+2) g' 1 wv' (P.length+1) (ints (jeR (P++[(m,a,b)])))->(∀ q,av'.at?=some q->wv'.at?≠some q) ->
   End (cl d) fuel K .normal [(1,l1),(2,l2),(7,.bool true),(8,l8),(9,l9),(11,l11),(12,l12),(13,av'),(14,wv'),(15,l15)] g' Q) :
  Run (cl d) fuel c8_10 K ([(1,l1),(2,l2),(7,.bool true),(8,l8),(9,l9),(11,l11),(12,l12),(13,av),(14,wv),(15,l15),(16,.i (m:Int)),(17,.i (jcX a b))]++ex) g Q:=by
 have e1:=pl_wants hcl (d:=d) (h:=g) om a b
 have hlt:=s.k12.lt
 have q1:jbw (jcf (P++[(m,a,b)]))=jbw (jcf P)++[.i (m:Int),.i (evI a b)]:=by simp [jcf,jbw]
 have q2:ints (jeR (P++[(m,a,b)]))=ints (jeR P)++[.i (jcX a b)]:=by simp [jeR,ints]
 rw [q1,q2] at k
 clear q1 q2
 rcases he with rfl | ⟨x119,rfl⟩
 all_goals
  simp only [List.append_nil,List.cons_append,List.nil_append]
  repeat' (first|refine qzy ?_|refine zbf rfl (fun _=>?_) fun _=>?_|refine zbg rfl (fun _=>?_) fun _=>?_|refine zbh rfl (fun _=>?_) fun _=>?_|refine zbm rfl (fun _=>?_) fun _=>?_|refine zbn rfl (fun _=>?_) fun _=>?_)
  refine Ops.push (N:=hS.nx+2) (new:=[.i (m:Int),.i (evI a b)]) rfl rfl rfl rfl om rfl rfl s.ra om om om fun v2 g2 r2 x2 z2 k2=>?_
  have w2:Row (hS.nx+2) g2 1 wv P.length (ints (jeR P)):=s.rw_.keep x2 fun q hq=>by
   obtain ⟨q1,q2⟩:=s.rw_.at_ge hq
   exact k2 q q2 fun e=>s.ap q e hq
  repeat' (first|refine qzy ?_|refine zbf rfl (fun _=>?_) fun _=>?_|refine zbg rfl (fun _=>?_) fun _=>?_|refine zbh rfl (fun _=>?_) fun _=>?_|refine zbm rfl (fun _=>?_) fun _=>?_|refine zbn rfl (fun _=>?_) fun _=>?_)
  refine Ops.push (N:=hS.nx+2) (new:=[.i (jcX a b)]) rfl rfl rfl rfl om rfl rfl w2 om om om fun v3 g3 r3 x3 z3 k3=>?_
  have hwl : ∀ q,wv.at?=some q->hS.nx+2<=q/\q<g.nx:=fun q hq=>s.rw_.at_ge hq
  have hal : ∀ q,av.at?=some q->hS.nx+2<=q:=fun q hq=>(s.ra.at_ge hq).1
  have same : ∀ j,j<hS.nx+2->g3.get j=g.get j:=fun j hj=>by
   rw [k3 j om fun e=>by have:=(hwl j e).1;omega,k2 j om fun e=>by have:=hal j e;omega]
  have r2':Row (hS.nx+2) g3 2 v2 (P.length+1) (jbw (jcf P)++[.i (m:Int),.i (evI a b)]):=r2.keep x3 fun q hq=>k3 q (r2.at_ge hq).2 fun e=>by have:=z2 q hq;have:=(hwl q e).2;omega
  have k4:=k g3 v2 v3 ⟨by have:=s.old.1;omega,fun j hj=>by rw [same j om,s.old.2 j hj]⟩ same om r2' r3 fun q hq e=>by have:=z3 q e;have:=(r2.at_ge hq).2;omega
  clear k s w2 r2 r3 r2' same hwl hal k2 k3 z2 z3 e1
  repeat' (first|refine qzy ?_|refine zbf rfl (fun _=>?_) fun _=>?_|refine zbg rfl (fun _=>?_) fun _=>?_|refine zbh rfl (fun _=>?_) fun _=>?_|refine zbm rfl (fun _=>?_) fun _=>?_|refine zbn rfl (fun _=>?_) fun _=>?_)
  exact k4
end
end Am.Sigs
namespace Am.Sigs
open Am Go
theorem want_of : ∀ n:Nat,n<4->IntKind.i64.wrap ((n:Int)*2)=jcX (decide (n%2=1)) (decide (2<=n))
 | 0,_=>by decide
 | 1,_=>by decide
 | 2,_=>by decide
 | 3,_=>by decide
theorem jm5 {a b:Bool} : jcX a b=0↔(a||b)=false:=by cases a<;>cases b<;>decide
theorem fl_eq (r:Rdy) (a b:Bool):jcX (a&&(r.inn&&a||r.hup||r.err)) (b&&(r.out&&b||r.hup||r.err))=jcX (a&&inR r) (b&&outR r):=by
 unfold inR outR;cases a<;>cases b<;>simp
theorem jly {P:List AskP} (hP:P.length<=60):mayP (jcf P):=⟨by simp [jcf];omega,fun p hp=>by
 obtain ⟨x,_,rfl⟩:=List.mem_map.1 hp
 exact evI_may _ _⟩
theorem jlz {ws:Ws} {F G:Nat->Bool} {P:List AskP} (p:PInv ws F G P):jnw (jcf P):=fun y hy=>by
 obtain ⟨x,hx,rfl⟩:=List.mem_map.1 hy
 have h1:=(p.el x hx).1
 have h2:0<=evI x.2.1 x.2.2/\evI x.2.1 x.2.2<=5:=by cases x.2.1<;>cases x.2.2<;>decide
 refine ⟨?_,?_⟩<;>constructor<;>simp [IntKind.min,IntKind.max,IntKind.bits,IntKind.signed]<;>omega
theorem SI.keep {hS g g':H} {F G:Nat->Bool} {av wv:V} {P:List AskP} (s:SI hS g F G av wv P) (o:Old g g'):SI hS g' F G av wv P :=
 ⟨s.old.trans o,s.k11.old o,s.k12.old o,s.ra.keep o.1 fun q hq=>o.2 q (s.ra.at_ge hq).2,s.rw_.keep o.1 fun q hq=>o.2 q (s.rw_.at_ge hq).2,s.ap⟩
theorem BytesAt.cell {h:H} {a:Option (Nat × Nat)} {c:Cap} {L:List UInt8} (b:BytesAt h a c L) {i:Nat} (hi:i<L.length) :
  ∃ (q o:Nat) (cs:List V) (ro:Bool) (z:Nat),a=some (q,o)/\Kc h q cs ro/\cs[o+(i:Int).toNat*1]?=some (.int .u8 (z:Int))/\z<256:=by
 obtain ⟨q,o,cs,ro,rfl,h1,h2,h3⟩:=b.at_ (by rintro rfl;simp at hi)
 refine ⟨q,o,cs,ro,L[i].toNat,rfl,⟨h1,h2⟩,?_,L[i].toNat_lt⟩
 rw [show o+(i:Int).toNat*1=o+i by omega]
 exact h3 i _ (List.getElem?_eq_getElem hi)
section
variable {cl:Nat->Call} (hcl:Sem cl)
include hcl
theorem sel_fin {d p w sg rw b11 b12:Nat} {g:H} {ow:Nat->Nat} {ws:Ws} {now:Int} {tb:Tb} {no:Option (Nat × Nat)} {F G:Nat->Bool} {v:V} {P:List AskP} (hd:17<=d) (W:WSt g w sg ow ws now tb no) (o:WsOk ws) (kp:Kc g p [.p w 0,.p rw 0] false) (k11:Kc g b11 (setV F) false) (k12:Kc g b12 (setV G) false)
  (hv:VP g v (jcf P)) (pi:PInv ws F G P) (hP:P.length<=60) {x14 x22 x23 x26 x29 x188:V} :
  Run (cl d) fuel c8_5 [] [(7,.bool true),(8,.p p 0),(11,.p b11 0),(12,.p b12 0),(13,v),(14,x14),(22,x22),(23,x23),(26,x26),(29,x29),(188,x188)] g (Fin c8.res fun v _=>v = .bool true):=by
 have hPl:(jcf P).length=P.length:=by simp [jcf]
 obtain ⟨g2,e2,o2⟩:=pl_holds hcl (d:=d) (h:=g) om W o hv (jlz pi) om
 rw [if_pos (jly hP)] at e2
 obtain ⟨hb,g3,e3,o3,q3⟩:=sl_Holds hcl (d:=d) (h:=g2) (top:=64) (f:=F) (g:=G) om (W.old o2) o
 have hq:decide (0<cntP (polL ws (jcf P)))=hb:=by
  have t:=pi.told
  rw [pi.err] at q3
  by_cases h:0<cntP (polL ws (jcf P))
  ·rw [decide_eq_true h];exact (q3.2 (.inr (t.2 h))).symm
  ·rw [decide_eq_false h]
   cases hb
   ·rfl
   ·rcases q3.1 rfl with h1 | h1
    ·exact absurd rfl h1
    ·exact absurd (t.1 h1) h
 rw [hq] at e2
 obtain ⟨c,⟨av,rfl⟩,_⟩ : ∃ c:Cap,(∃ a,v = .slice a P.length c)/\True:=by
  obtain ⟨a,c,rfl,_⟩:=hv
  exact ⟨c,⟨a,by rw [hPl]⟩,trivial⟩
 have og:=Old.refl g
 clear q3 pi hv W o hq
 refine qz1 ?_
 exact congrArg V.bool (decide_eq_true rfl)
theorem sel_last {d p w sg rw:Nat} {hS g:H} {ow:Nat->Nat} {ws:Ws} {now:Int} {tb:Tb} {no:Option (Nat × Nat)} {F G:Nat->Bool} {av wv:V} {P:List AskP} (hd:17<=d) (W:WSt g w sg ow ws now tb no) (o:WsOk ws) (kp:Kc g p [.p w 0,.p rw 0] false) (s:SI hS g F G av wv P) (pi:PInv ws F G P) (hP:P.length<=60) {x1 x2 x9 x15 x66:V} :
  Run (cl d) fuel c8_18 [] [(1,x1),(2,x2),(7,.bool true),(8,.p p 0),(9,x9),(11,.p hS.nx 0),(12,.p (hS.nx+1) 0),(13,av),(14,wv),(15,x15),(66,x66)] g (Fin c8.res fun v _=>v = .bool true):=by
 have k11:=s.k11
 have k12:=s.k12
 obtain ⟨ca,⟨aa,rfl⟩,ia⟩:=s.ra.shape
 obtain ⟨cw,⟨aw,rfl⟩,iw⟩:=s.rw_.shape
 refine Run.seq (Run.region2 fun HR oR xR=>?_)
 obtain ⟨R,S,n1,er1,h9,e9,o9,r1⟩:=sl_sel hcl (d:=d) (top:=64) (f:=F) (g:=G) (h:=HR) om (W.old oR) o
 refine qz1 ?_
 refine Ops.mk2S (oR.trans o9) (by have:=o9.1;omega) (by decide) rfl rfl fun HX oX kR kS xX=>?_
 clear e9 o9 oR xX xR
 obtain ⟨c1,c2,c3⟩:=r1.g
 obtain ⟨rfl,rfl⟩:=c3 pi.err
 obtain rfl:er1=0:=by rw [c2,pi.err]
 have told:=pi.told
 rw [<- c1] at told
 clear c1 c2 c3 r1
 replace kp:=kp.old oX
 replace k11:=k11.old oX
 replace k12:=k12.old oX
 replace W:=W.old oX
 have sX:=s.keep oX
 have hPl:(jcf P).length=P.length:=by simp [jcf]
 have ra:=sX.ra
 rw [<- hPl] at ra
 obtain ⟨pv,h3,ep,o3,hpv⟩:=pl_poll hcl (d:=d) (h:=HX) om W o (jn1 ra) (jlz pi) om
 rcases hpv with ⟨hm,_⟩ | ⟨_,tv,rfl,rt⟩
 ·exact absurd (jly hP) hm
 rw [hPl] at ep rt
 obtain ⟨ct,⟨at_,rfl⟩,it⟩:=rt.shape
 have hz0:(0:Int)<=cntP (polL ws (jcf P)):=(jiK (ji2 _ _)).1
 have hne : ¬ (decide ((n1:Int)>0)≠decide (cntP (polL ws (jcf P))>0)):=by
  by_cases h:0<cntP (polL ws (jcf P))
  ·have:=told.2 h
   rw [decide_eq_true h,decide_eq_true (show (n1:Int)>0 by omega)];simp
  ·rw [decide_eq_false h,decide_eq_false (show ¬ (n1:Int)>0 by intro hh;exact h (told.1 om))];simp
 have hpol : ∀ (i:Nat) (x:AskP),P[i]?=some x->(ints (polL ws (jcf P)))[0+(i:Int).toNat*1]?=some (.i (tI (rdyS ws (x.1:Int)).hup ((rdyS ws (x.1:Int)).inn&&x.2.1) ((rdyS ws (x.1:Int)).out&&x.2.2) (rdyS ws (x.1:Int)).err)):=fun i x hx=>by
  rw [show 0+(i:Int).toNat*1=i by omega,<- pi.pol (List.mem_of_getElem? hx)]
  simp [polL,jcf,hx]
 generalize cntP (polL ws (jcf P))=cn at *
 generalize polL ws (jcf P)=TL at *
 have oX2:=Old.refl HX
 have tr3:Kc h3 p [.p w 0,.p rw 0] false:=kp.old o3
 have hvP:=(jn1 ra).keep o3
 rw [hPl] at hvP
 clear told ra rt
 refine qz1 ?_
 have W3:=W.old o3
 have kR3:=kR.old o3
 have kS3:=kS.old o3
 have k113:=k11.old o3
 have k123:=k12.old o3
 clear ep oX2 kp kR kS k11 k12 W hne hz0 s
 refine Run.loop (fun m e g4=>∃ i:Nat,m=P.length-i/\i<=P.length/\e=[(7,.bool true),(8,.p p 0),(11,.p hS.nx 0),(12,.p (hS.nx+1) 0),(13,.slice aa P.length ca),(14,.slice aw P.length cw),(22,.p (g.nx+0) 0),(23,.p (g.nx+1) 0),(26,.slice at_ P.length ct),(29,.i (i:Int))]/\Old h3 g4)
  (k:=P.length) (by show _<100000;omega) ⟨0,rfl,by omega,rfl,Old.refl _⟩ ?_
 rintro _ _ g4 ⟨i,rfl,hi,rfl,og⟩ n2 ih
 by_cases hlt:(i:Int)<P.length
 case neg=>
  obtain ⟨C,hC⟩ : ∃ C,C=c8_5:=⟨_,rfl⟩
  rw [<- hC]
  clear ih ia iw it hpol
  refine qz1 ?_
  rw [hC]
  exact sel_fin hcl hd (W3.old og) o (tr3.old og) (k113.old og) (k123.old og) (hvP.keep og) pi hP
 obtain ⟨x,hx⟩:=jkb (l:=P) (i:=i) om
 have hxm:=List.mem_of_getElem? hx
 obtain ⟨q1,_,a2,a3,a4⟩:=ia i om
 cases a3
 obtain ⟨q2,_,w2,w3,w4⟩:=iw i om
 cases w3
 obtain ⟨q3,_,t2,t3,t4⟩:=it i om
 cases t3
 have o34:=o3.trans og
 have ka:=(Kc.mk (ro:=false) a2 a4).old (oX.trans o34)
 have kw:=(Kc.mk (ro:=false) w2 w4).old (oX.trans o34)
 have kt:=(Kc.mk (ro:=false) t2 t4).old og
 have kR4:=kR3.old og
 have kS4:=kS3.old og
 have hcw:(ints (jeR P))[0+(i:Int).toNat*1]?=some (.i (jcX x.2.1 x.2.2)):=by rw [show 0+(i:Int).toNat*1=i by omega];simp [jeR,hx]
 have hca:(jbw (jcf P))[0+(i:Int).toNat*2+0]?=some (.i (x.1:Int)):=by
  have h1:(jcf P)[i]?=some ((x.1:Int),evI x.2.1 x.2.2):=by simp [jcf,hx]
  have h2:=congrArg (fun l:List V=>l[0]?) (jeo h1)
  simp only [List.getElem?_take,List.getElem?_drop] at h2
  rw [show 0+(i:Int).toNat*2+0=i*2+0 by omega]
  simpa using h2
 have hct:=hpol i x hx
 have hsel:=pi.sel hxm
 have hel:=pi.el x hxm
 generalize rdyS ws (x.1:Int)=r at *
 have ef:=pl_flags hcl (d:=d) (h:=g4) om x.2.1 x.2.2 r.hup (r.inn&&x.2.1) (r.out&&x.2.2) r.err
 rw [fl_eq,<- hsel.1,<- hsel.2] at ef
 have eR:=jgZ hcl (d:=d) (f:=selS ws F inR 64) (fd:=(x.1:Int)) (h:=g4) om
 have eS:=jgZ hcl (d:=d) (f:=selS ws G outR 64) (fd:=(x.1:Int)) (h:=g4.new (.cells (setV (selS ws F inR 64)) false)) om
 rw [decide_eq_true (show fitS (x.1:Int) from ⟨by omega,by omega⟩),Bool.true_and,Int.toNat_natCast] at eR eS
 have oR:Old g4 (g4.new (.cells (setV (selS ws F inR 64)) false)):=(Old.refl _).new
 generalize hA:selS ws F inR 64 x.1=A at *
 generalize hB:selS ws G outR 64 x.1=B at *
 have oS:Old g4 ((g4.new (.cells (setV (selS ws F inR 64)) false)).new (.cells (setV (selS ws G outR 64)) false)):=oR.new
 generalize (g4.new (.cells (setV (selS ws F inR 64)) false)).new (.cells (setV (selS ws G outR 64)) false)=g6 at *
 generalize g4.new (.cells (setV (selS ws F inR 64)) false)=g5 at *
 generalize selS ws F inR 64=R at *
 generalize selS ws G outR 64=S at *
 have o4:=Old.refl g4
 have hi1:(i:Int)+1=((i+1:Nat):Int):=by omega
 clear hA hB hel hpol tr3 W3 kR3 kS3 k113 k123 hx hxm a4 w4 t4 ia iw it hvP sX pi hPl
 obtain ⟨m,a,b⟩:=x
 dsimp only at *
 generalize jcX a b=wab at *
 generalize tI r.hup (r.inn&&a) (r.out&&b) r.err=tab at *
 cases A<;>cases B<;>simp only [jcX] at ef
 ·refine qz1 ?_
  rw [hi1]
  exact ih (P.length-(i+1)) om _ _ ⟨i+1,rfl,by omega,rfl,og.trans oS⟩
 ·refine qz1 ?_
  rw [hi1]
  exact ih (P.length-(i+1)) om _ _ ⟨i+1,rfl,by omega,rfl,og.trans oS⟩
 ·refine qz1 ?_
  rw [hi1]
  exact ih (P.length-(i+1)) om _ _ ⟨i+1,rfl,by omega,rfl,og.trans oS⟩
 ·refine qz1 ?_
  rw [hi1]
  exact ih (P.length-(i+1)) om _ _ ⟨i+1,rfl,by omega,rfl,og.trans oS⟩
end
end Am.Sigs
namespace Am.Sigs
open Am Go
section
variable {cl:Nat->Call} (hcl:Sem cl)
include hcl
theorem sel_add1 {d m:Nat} {hS g:H} {F G:Nat->Bool} {av wv:V} {P:List AskP} {a b:Bool} (hd:3<=d) (hm:m<64) (hab:(a||b)=true) (s:SI hS g F G av wv P) (hP:P.length<=100) {K:List Fr} {Q:Post} {l1 l2 l8 l9 l15 l101:V}
  (k : ∀ g' av' wv',SI hS g' (jjX F a m) (jjX G b m) av' wv' (P++[(m,a,b)])->End (cl d) fuel K .normal [(1,l1),(2,l2),(7,.bool true),(8,l8),(9,l9),(11,.p hS.nx 0),(12,.p (hS.nx+1) 0),(13,av'),(14,wv'),(15,l15)] g' Q) :
  Run (cl d) fuel c8_13 K [(1,l1),(2,l2),(7,.bool true),(8,l8),(9,l9),(11,.p hS.nx 0),(12,.p (hS.nx+1) 0),(13,av),(14,wv),(15,l15),(16,.i (m:Int)),(17,.i (jcX a b)),(101,l101)] g Q:=by
 have last : ∀ {g1:H} {F1 G1:Nat->Bool} {ex:Env},(ex=[] \/ ∃ x,ex=[(119,x)])->SI hS g1 F1 G1 av wv P->F1=jjX F a m->G1=jjX G b m->Run (cl d) fuel c8_10 K ([(1,l1),(2,l2),(7,.bool true),(8,l8),(9,l9),(11,.p hS.nx 0),(12,.p (hS.nx+1) 0),(13,av),(14,wv),(15,l15),(16,.i (m:Int)),(17,.i (jcX a b))]++ex) g1 Q:=by
  intro g1 F1 G1 ex he s1 e1 e2
  subst e1 e2
  refine add_l hcl hd s1 hP he fun g' av' wv' o1 same x1 r1 r2 ap=>k g' av' wv' ⟨o1,⟨by have:=s1.k11.lt;omega,by rw [same _ om,s1.k11.at_]⟩,⟨by have:=s1.k12.lt;omega,by rw [same _ om,s1.k12.at_]⟩,by rw [List.length_append];exact r1,by rw [List.length_append];exact r2,ap⟩
 clear k
 obtain ⟨C,hC⟩ : ∃ C,C=c8_10:=⟨_,rfl⟩
 obtain ⟨C2,hC2⟩ : ∃ C,C=c8_9:=⟨_,rfl⟩
 obtain ⟨C3,hC3⟩ : ∃ C,C=c8_12:=⟨_,rfl⟩
 simp only [c8_13,<- hC,<- hC2,<- hC3]
 cases a<;>cases b
 ·cases hab
 ·simp only [jcX] at last ⊢
  refine qz1 ?_
  rw [hC2]
  refine jom hcl hd hm s.k12 fun g' c6 k6=>?_
  have l1:=last (.inl rfl) (s.s12 c6 k6) rfl rfl
  rw [<- hC] at l1
  clear last s
  refine qz1 ?_
  exact l1
 ·simp only [jcX] at last ⊢
  refine qz1 ?_
  rw [hC3]
  refine jon hcl hd hm s.k11 fun g' c6 k6=>?_
  have l1:=fun x=>last (.inr ⟨x,rfl⟩) (s.s11 c6 k6) rfl rfl
  rw [<- hC] at l1
  clear last s
  refine qz1 ?_
  exact l1 _
 ·simp only [jcX] at last ⊢
  refine qz1 ?_
  rw [hC3]
  refine jon hcl hd hm s.k11 fun g' c6 k6=>?_
  have s1:=s.s11 c6 k6
  clear s
  refine qz1 ?_
  rw [hC2]
  refine jom hcl hd hm s1.k12 fun g' c6 k6=>?_
  have l1:=last (.inl rfl) (s1.s12 c6 k6) rfl rfl
  rw [<- hC] at l1
  clear last s1
  refine qz1 ?_
  exact l1
theorem jj5 {h0:H} (hnx:h0.nx=203) (hwf : ∀ b,203<=b->h0.get b=none) {l:List (Int × Int × Int × Int × List Int × Unit)} {u1:V} (rl:jc3 200 jmW h0 l [u1]) {fl:List Int} {u2:V} (rf:jc3 60 (jdU .u8) h0 fl [u2]) {wl:List Int} {u3:V} (rw0:jc3 100 (jdU .u8) h0 wl [u3]) :
  ∃ h',cl 31 (.fn F.jbQ) [u1,u2,u3] h0=some (.bool true,h'):=by
 suffices q : ∃ v h',cl 31 (.fn F.jbQ) [u1,u2,u3] h0=some (v,h')/\v = .bool true by
  obtain ⟨_,h',e,rfl⟩:=q;exact ⟨h',e⟩
 obtain ⟨a2,c2,rfl,hB2⟩:=jiP rf
 obtain ⟨a3,c3,rfl,hB3⟩:=jiP rw0
 obtain ⟨h1,ea,x1,wf1,k1⟩:=jjW hcl jkM hnx hwf om
 obtain ⟨L,_,hL0⟩:=jlm rl
 have hL:=hL0.keep (h':=h1) om fun j o _ hj=>k1 j o hj
 clear rl rf rw0 hL0 hwf
 refine at_ hcl om rfl rfl rfl ?_
 by_cases g1:(fl.length:Int)>60
 ·clear hL hB2 hB3
  refine qz1 ?_
  rfl
 by_cases g2:(wl.length:Int)<fl.length
 ·clear hL hB2 hB3
  refine qz1 ?_
  rfl
 by_cases g3:(wl.length:Int)>100
 ·clear hL hB2 hB3
  refine qz1 ?_
  rfl
 obtain ⟨bv,h2,eb,hb⟩:=bt_ok hcl (d:=30) (f:=F.jdQ) rfl rfl om hL (by rw [x1];exact wf1)
 rcases hb with ⟨rfl,rfl⟩ | ⟨-,p,w,s,rw,ow,ro,ov,rfl,bx,row,-⟩
 ·clear hL hB2 hB3
  refine qz1 ?_
  rfl
 have W:=bx.b.W
 have o:=bx.so.K.ok
 have kp:Kc h2 p [.p w 0,.p rw 0] false:=⟨bx.b.lp,bx.b.hp⟩
 have k2 : ∀ j ob,j<h0.nx->h0.get j=some ob->h2.get j=some ob:=fun j ob hj hh=>by
  have:=k1 j ob hh
  rw [bx.old.2 j om,this]
 have b2:=(hB2 om).keep (h':=h2) (by have:=bx.old.1;omega) k2
 have b3:=(hB3 om).keep (h':=h2) (by have:=bx.old.1;omega) k2
 obtain ⟨co,⟨ao,rfl⟩,io⟩:=row.shape
 generalize runS L st0=st at *
 clear hL hB2 hB3 k1 k2 wf1 bx row
 refine qz1 ?_
 refine Ops.make rfl rfl ?_
 refine qz1 ?_
 refine Ops.make rfl rfl ?_
 have oZ:Old h2 ((h2.new (.cells [.int .u32 0,.int .u32 0] false)).new (.cells [.int .u32 0,.int .u32 0] false)):=(Old.refl h2).new.new
 have s0:SI h2 ((h2.new (.cells [.int .u32 0,.int .u32 0] false)).new (.cells [.int .u32 0,.int .u32 0] false)) (fun _=>false) (fun _=>false) .nils .nils [] :=
  ⟨oZ,⟨by simp;omega,by rw [jdO,jac (by simp),jad]⟩,⟨by simp,by rw [jdO];exact jad _⟩,Row.nil _ _ _,Row.nil _ _ _,fun q hq=>by cases hq⟩
 have xZ:(h2.new (.cells [.int .u32 0,.int .u32 0] false)).nx=h2.nx+1:=rfl
 change Ops _ _ _ _ _ _ _ ((h2.new (.cells [.int .u32 0,.int .u32 0] false)).new (.cells [.int .u32 0,.int .u32 0] false)) _
 generalize (h2.new (.cells [.int .u32 0,.int .u32 0] false)).new (.cells [.int .u32 0,.int .u32 0] false)=gZ at *
 clear eb ea oZ
 obtain ⟨CL,hCL⟩ : ∃ C,C=c8_18:=⟨_,rfl⟩
 simp only [c8_19,<- hCL]
 refine qz1 ?_
 refine Run.loop (fun m e g=>∃ (i:Nat) (F G:Nat->Bool) (av wv:V) (P:List AskP),m=fl.length-i/\i<=fl.length/\e=[(1,.slice a2 fl.length (.fix c2)),(2,.slice a3 wl.length (.fix c3)),(7,.bool true),(8,.p p 0),(9,.slice ao 96 co),(11,.p h2.nx 0),(12,.p (h2.nx+1) 0),(13,av),(14,wv),(15,.i (i:Int))]/\SI h2 g F G av wv P/\PInv st.ws F G P/\P.length<=i)
  (k:=fl.length) (by show _<100000;omega) ⟨0,_,_,_,_,[],rfl,by omega,rfl,s0,PInv.none _,Nat.le_refl _⟩ ?_
 clear s0 gZ
 rintro _ _ g ⟨i,F,G,av,wv,P,rfl,hi,rfl,s,pi,hP⟩ n2 ih
 by_cases hlt:(i:Int)<fl.length
 case neg=>
  clear ih io b2 b3
  refine qz1 ?_
  rw [hCL]
  exact sel_last hcl (d:=31-1) om (W.old s.old) o (kp.old s.old) s pi om
 have hi1:(i:Int)+1=((i+1:Nat):Int):=by omega
 obtain ⟨q2,o2,cs2,ro2,z2,rfl,kf,hc2,hz2⟩:=b2.cell (i:=i) (by rw [List.length_map];omega)
 obtain ⟨q3,o3,cs3,ro3,z3,rfl,kw,hc3,hz3⟩:=b3.cell (i:=i) (by rw [List.length_map];omega)
 replace kf:=kf.old s.old
 replace kw:=kw.old s.old
 have e1:IntKind.i64.wrap (z2:Int)=(z2:Int):=jeM ⟨by omega,by omega⟩
 have e2:(z2:Int).tmod 64=((z2%64:Nat):Int):=by rw [Int.tmod_eq_emod_of_nonneg om];simp
 have e3:IntKind.i64.wrap (z3:Int)=(z3:Int):=jeM ⟨by omega,by omega⟩
 have e4:(z3:Int).tmod 4=((z3%4:Nat):Int):=by rw [Int.tmod_eq_emod_of_nonneg om];simp
 have e5:=want_of (z3%4) om
 have og:=Old.refl g
 obtain ⟨C,hC⟩ : ∃ C,C=c8_14:=⟨_,rfl⟩
 simp only [c8_17,c8_16,c8_15,<- hC]
 refine qz1 ?_
 rw [e1,e2,e3,e4,e5]
 rw [hC]
 generalize hm:z2%64=m at *
 have hm64:m<64:=by omega
 generalize decide (z3%4%2=1)=a at *
 generalize decide (2<=z3%4)=b at *
 clear e1 e2 e3 e4 e5 hc2 hc3 kf kw b2 b3 hz2 hz3 hm hC C
 obtain ⟨qo,_,y2,y3,y4⟩:=io m om
 cases y3
 have ko:=(Kc.mk (ro:=false) y2 y4).old s.old
 have hco:(jdI st.ws 96)[0+(m:Int).toNat*7+0]?=some (.bool (rdyS st.ws (m:Int)).op):=by
  have h2:=congrArg (fun l:List V=>l[0]?) (jhL st.ws (n:=96) (i:=m) om)
  simp only [List.getElem?_take,List.getElem?_drop] at h2
  rw [show 0+(m:Int).toNat*7+0=m*7+0 by omega]
  simpa [Rdy.cells] using h2
 clear io y4
 generalize jdI st.ws 96=RR at *
 have next : ∀ g' av' wv' F' G' P',SI h2 g' F' G' av' wv' P'->PInv st.ws F' G' P'->P'.length<=i+1->_:=fun g' av' wv' F' G' P' s' pi' hP'=>ih (fl.length-(i+1)) om [(1,.slice (some (q2,o2)) fl.length (.fix c2)),(2,.slice (some (q3,o3)) wl.length (.fix c3)),(7,.bool true),(8,.p p 0),(9,.slice (some (qo,0)) 96 co),(11,.p h2.nx 0),(12,.p (h2.nx+1) 0),(13,av'),(14,wv'),(15,.i ((i+1:Nat):Int))] g' ⟨i+1,F',G',av',wv',P',rfl,by omega,rfl,s',pi',hP'⟩
 clear ih
 generalize hop:(rdyS st.ws (m:Int)).op=op at *
 cases op
 ·have nx:=next g av wv F G P s pi om
  clear next
  refine qz1 ?_
  rw [hi1]
  exact nx
 have eF:=jgZ hcl (d:=31-1) (f:=F) (fd:=(m:Int)) (h:=g) om
 have eG:=jgZ hcl (d:=31-1) (f:=G) (fd:=(m:Int)) (h:=g.new (.cells (setV F) false)) om
 rw [decide_eq_true (show fitS (m:Int) from ⟨by omega,by omega⟩),Bool.true_and,Int.toNat_natCast] at eF eG
 have oF:Old g (g.new (.cells (setV F) false)):=(Old.refl _).new
 have oG:Old g ((g.new (.cells (setV F) false)).new (.cells (setV G) false)):=oF.new
 generalize (g.new (.cells (setV F) false)).new (.cells (setV G) false)=gG at *
 generalize g.new (.cells (setV F) false)=gF at *
 have k11:=s.k11
 have k12:=s.k12
 generalize hF:F m=fm at *
 cases fm
 case true=>
  have nx:=next gF av wv F G P (s.keep oF) pi om
  clear next eG
  refine qz1 ?_
  rw [hi1]
  exact nx
 generalize hG:G m=gm at *
 cases gm
 case true=>
  have nx:=next gG av wv F G P (s.keep oG) pi om
  clear next
  refine qz1 ?_
  rw [hi1]
  exact nx
 by_cases hab:(a||b)=true
 case neg=>
  have nx:=next gG av wv F G P (s.keep oG) pi om
  have hw:=jm5.2 (by simpa using hab)
  clear next
  refine qz1 ?_
  rw [hi1]
  exact nx
 have hw : ¬ jcX a b=0:=fun e=>by rw [jm5.1 e] at hab;cases hab
 obtain ⟨C,hC⟩ : ∃ C,C=c8_13:=⟨_,rfl⟩
 simp only [c8_14,<- hC]
 have s2:=s.keep oG
 clear s
 refine qz1 ?_
 rw [hC]
 refine sel_add1 hcl (d:=31-1) om hm64 hab s2 om fun g' av' wv' s3=>?_
 have nx:=next g' av' wv' _ _ _ s3 (pi.add hm64 hop hF hG hab) (by rw [List.length_append];simp;omega)
 clear next
 refine qz1 ?_
 rw [hi1]
 exact nx
end
end Am.Sigs
