/- Our own library, part 22: an abstract machine, sound for the model, and what the functions do over it. No condition. -/
import Derived.Test.YtkcenemffnfoeaaGreatK21
import Derived.Test.YtkcenemffnfoeaaGreatK19
import Derived.Test.YtkcenemffnfoeaaGreatK20
set_option maxHeartbeats 8000000
set_option linter.all false
namespace Am.Sigs
open Am Go
noncomputable def selS (ws:Ws) (F:Nat->Bool) (q:Rdy->Bool) (top:Int):Nat->Bool:=fun m=>F m&&decide ((m:Int)<top)&&q (rdyS ws (m:Int))
noncomputable def selK (ws:Ws) (F:Nat->Bool) (q:Rdy->Bool) (top:Int) (k:Nat):Nat->Bool:=fun m=>decide (m<k)&&selS ws F q top m
open Classical in
noncomputable def jbj (ws:Ws) (f g:Nat->Bool) (top:Int):Int:=if top<0\/64<top then 2 else if jbP ws f g top then 110 else 0
theorem jnZ (ws:Ws) (F:Nat->Bool) (q:Rdy->Bool) (top:Int):setV (selK ws F q top 0)=[.int .u32 0,.int .u32 0]:=by
 rw [<- jfh];exact jaX fun i _=>by simp [selK]
theorem selK_64 (ws:Ws) (F:Nat->Bool) (q:Rdy->Bool) (top:Int):setV (selK ws F q top 64)=setV (selS ws F q top):=jaX fun i hi=>by simp [selK,hi]
theorem ji2 {ws:Ws} {F:Nat->Bool} {q:Rdy->Bool} {top:Int} {k:Nat} (hk:selS ws F q top k=false):setV (selK ws F q top (k+1))=setV (selK ws F q top k):=jaX fun i _=>by
 unfold selK
 by_cases e:i=k
 ·rw [e,hk];simp
 ·rw [show decide (i<k+1)=decide (i<k) by simp;omega]
theorem jl3 {ws:Ws} {F:Nat->Bool} {q:Rdy->Bool} {top:Int} {k:Nat} (hk:selS ws F q top k=true) (h64:k<64):setV (selK ws F q top (k+1))=setV (jlY (selK ws F q top k) (k:Int)):=jaX fun i _=>by
 rw [jlY,if_pos (show fitS (k:Int) from ⟨by omega,by omega⟩),Int.toNat_natCast]
 unfold selK addS
 by_cases e:i=k
 ·rw [e,hk];simp
 ·rw [show decide (i<k+1)=decide (i<k) by simp;omega];simp [e]
theorem selS_not {ws:Ws} {f g:Nat->Bool} {top:Int} {m:Nat} (hk:askS f g top m=false):selS ws f inR top m=false/\selS ws g outR top m=false:=by
 simp only [askS,jcf,orS,Bool.and_eq_false_iff,Bool.or_eq_false_iff] at hk
 unfold selS
 rcases hk with ⟨a,b⟩ | c
 ·simp [a,b]
 ·simp [c]
theorem selS_is {ws:Ws} {f g:Nat->Bool} {top:Int} {m:Nat} (hk:askS f g top m=true):selS ws f inR top m=(f m&&inR (rdyS ws (m:Int)))/\selS ws g outR top m=(g m&&outR (rdyS ws (m:Int))):=by
 simp only [askS,jcf,Bool.and_eq_true] at hk
 unfold selS
 rw [hk.2];simp
theorem and_mask (a b c d:Bool):IntKind.i64.wrap ((BitVec.ofInt 64 ((if a then 2 else 0)+(if b then 4 else 0)) &&& BitVec.ofInt 64 ((if c then 2 else 0)+(if d then 4 else 0))).toNat:Int)=(if a&&c then 2 else 0)+(if b&&d then 4 else 0):=by
 cases a<;>cases b<;>cases c<;>cases d<;>decide
section
variable {cl:Nat->Call} (hcl:Sem cl) {h:H}
include hcl
variable {w s:Nat} {ow:Nat->Nat} {ws:Ws} {now:Int} {tb:Tb} {no:Option (Nat × Nat)} {f g:Nat->Bool}
omit hcl in
theorem jk9 {d fuel b3 b4 b5:Nat} {H9:H} {vr vs:List V} {n er:Int} {Q:V->H->Prop} (k3:H9.get b3=some (.cells vr false)) (k4:H9.get b4=some (.cells vs false)) (k5:H9.get b5=some (.cells [.i n] false))
  (lr:vr.length=2) (ls:vs.length=2) (q:Q (.tup [.agg vr,.agg vs,.i n,.i er]) H9):End (cl d) fuel [] .ret [(8,.p b3 0),(9,.p b4 0),(10,.p b5 0),(11,.i er)] H9 (Fin c28.res Q):=by
 have e3 : ∀ v:List V,v.length=2->List.take 2 (List.drop 0 v)=v:=fun v hv=>by rw [List.drop_zero,List.take_of_length_le om]
 have r5:jdk [(8,.p b3 0),(9,.p b4 0),(10,.p b5 0),(11,.i er)] H9 [.cell1 10,.tmp 11]=some [.i n,.i er]:=by
  show (match H9.load1 b5 0,some [V.i er] with | some v,some l=>some (v :: l) | _,_=>none)=_
  rw [je9 k5 rfl]
 have r3:=resN (e:=[(8,.p b3 0),(9,.p b4 0),(10,.p b5 0),(11,.i er)]) (s:=8) (n:=2) rfl k3 om (resN (s:=9) (n:=2) rfl k4 om r5)
 rw [e3 vr lr,e3 vs ls] at r3
 exact End.fin2 r3 q
theorem jdU {d:Nat} {top:Int} (hd:11<=d) (a:WSt h w s ow ws now tb no) (o:WsOk ws) :
  ∃ (R S:Nat->Bool) (h':H),cl d (.fn F.jfD) [.p w 0,.i top,.agg (setV f),.agg (setV g)] h=some (.tup [.agg (setV R),.agg (setV S),.i ((cntS R 64+cntS S 64:Nat):Int),.i (jbj ws f g top)],h')/\Old h h' /\
   (jbj ws f g top=0->R=selS ws f inR top/\S=selS ws g outR top)/\(jbj ws f g top≠0->R=(fun _=>false)/\S=(fun _=>false)):=by
 suffices q : ∃ v' h',cl d (.fn F.jfD) [.p w 0,.i top,.agg (setV f),.agg (setV g)] h=some (v',h')/\Old h h' /\ ∃ vr vs n,v' = .tup [.agg vr,.agg vs,.i n,.i (jbj ws f g top)] /\
   (jbj ws f g top=0->vr=setV (selS ws f inR top)/\vs=setV (selS ws g outR top)/\n=((cntS (selS ws f inR top) 64+cntS (selS ws g outR top) 64:Nat):Int))/\(jbj ws f g top≠0->vr=[.int .u32 0,.int .u32 0]/\vs=[.int .u32 0,.int .u32 0]/\n=0) by
  obtain ⟨_,h',e,og,vr,vs,n,rfl,q1,q2⟩:=q
  by_cases hz:jbj ws f g top=0
  ·obtain ⟨rfl,rfl,rfl⟩:=q1 hz
   exact ⟨_,_,h',e,og,fun _=>⟨rfl,rfl⟩,fun h=>absurd hz h⟩
  ·obtain ⟨rfl,rfl,rfl⟩:=q2 hz
   refine ⟨fun _=>false,fun _=>false,h',?_,og,fun h=>absurd h hz,fun _=>⟨rfl,rfl⟩⟩
   rw [jfh,show cntS (fun _=>false) 64=0 from rfl];exact e
 have oH:Old h ((((((h.new (.cells [.p w 0] false)).new (.cells (setV f) false)).new (.cells (setV g) false)).new (.cells [.int .u32 0,.int .u32 0] false)).new (.cells [.int .u32 0,.int .u32 0] false)).new (.cells [.i 0] false)):=(Old.refl h).new.new.new.new.new.new
 have b0:((((((h.new (.cells [.p w 0] false)).new (.cells (setV f) false)).new (.cells (setV g) false)).new (.cells [.int .u32 0,.int .u32 0] false)).new (.cells [.int .u32 0,.int .u32 0] false)).new (.cells [.i 0] false)).get h.nx=some (.cells [.p w 0] false):=qgt
 have b1:((((((h.new (.cells [.p w 0] false)).new (.cells (setV f) false)).new (.cells (setV g) false)).new (.cells [.int .u32 0,.int .u32 0] false)).new (.cells [.int .u32 0,.int .u32 0] false)).new (.cells [.i 0] false)).get (h.nx+1)=some (.cells (setV f) false):=qgt
 have b2:((((((h.new (.cells [.p w 0] false)).new (.cells (setV f) false)).new (.cells (setV g) false)).new (.cells [.int .u32 0,.int .u32 0] false)).new (.cells [.int .u32 0,.int .u32 0] false)).new (.cells [.i 0] false)).get (h.nx+2)=some (.cells (setV g) false):=qgt
 have b3:((((((h.new (.cells [.p w 0] false)).new (.cells (setV f) false)).new (.cells (setV g) false)).new (.cells [.int .u32 0,.int .u32 0] false)).new (.cells [.int .u32 0,.int .u32 0] false)).new (.cells [.i 0] false)).get (h.nx+3)=some (.cells [.int .u32 0,.int .u32 0] false):=qgt
 have b4:((((((h.new (.cells [.p w 0] false)).new (.cells (setV f) false)).new (.cells (setV g) false)).new (.cells [.int .u32 0,.int .u32 0] false)).new (.cells [.int .u32 0,.int .u32 0] false)).new (.cells [.i 0] false)).get (h.nx+4)=some (.cells [.int .u32 0,.int .u32 0] false):=qgt
 have b5:((((((h.new (.cells [.p w 0] false)).new (.cells (setV f) false)).new (.cells (setV g) false)).new (.cells [.int .u32 0,.int .u32 0] false)).new (.cells [.int .u32 0,.int .u32 0] false)).new (.cells [.i 0] false)).get (h.nx+5)=some (.cells [.i 0] false):=qgt
 have x1:((((((h.new (.cells [.p w 0] false)).new (.cells (setV f) false)).new (.cells (setV g) false)).new (.cells [.int .u32 0,.int .u32 0] false)).new (.cells [.int .u32 0,.int .u32 0] false)).new (.cells [.i 0] false)).nx=h.nx+6:=rfl
 refine at_ hcl om rfl rfl rfl ?_
 refine Run.seq (Run.region0 (Ops.make rfl rfl (Ops.make rfl rfl (Ops.make rfl rfl (Ops.make rfl rfl (Ops.make rfl rfl (Ops.make rfl rfl (Ops.mv rfl (Ops.nil qkp (End.seq ?_))))))))))
 change Run (cl (d-1)) fuel _ _ [(1,.i top),(4,.p h.nx 0),(6,.p (h.nx+1) 0),(7,.p (h.nx+2) 0),(8,.p (h.nx+3) 0),(9,.p (h.nx+4) 0),(10,.p (h.nx+5) 0)] ((((((h.new (.cells [.p w 0] false)).new (.cells (setV f) false)).new (.cells (setV g) false)).new (.cells [.int .u32 0,.int .u32 0] false)).new (.cells [.int .u32 0,.int .u32 0] false)).new (.cells [.i 0] false)) _
 generalize (((((h.new (.cells [.p w 0] false)).new (.cells (setV f) false)).new (.cells (setV g) false)).new (.cells [.int .u32 0,.int .u32 0] false)).new (.cells [.int .u32 0,.int .u32 0] false)).new (.cells [.i 0] false)=H0 at oH b0 b1 b2 b3 b4 b5 x1 ⊢
 have ax:=a.old oH
 have hx1:=oH.1
 refine Run.seq ?_
 by_cases ht:top<0\/64<top
 ·have he:jbj ws f g top=2:=if_pos ht
  rw [he]
  clear a ax o he
  have ht2:top<0\/(¬ top<0/\64<top):=by omega
  rcases ht2 with h1 | ⟨h1,h2⟩
  all_goals
   repeat' (first|refine qxy ?_|refine zbf rfl (fun _=>?_) fun _=>?_|refine zbg rfl (fun _=>?_) fun _=>?_|refine zbh rfl (fun _=>?_) fun _=>?_|refine zbm rfl (fun _=>?_) fun _=>?_|refine zbn rfl (fun _=>?_) fun _=>?_)
   refine Ops.loadN rfl b3 (Nat.le_of_ble_eq_true rfl) ?_
   refine Ops.loadN rfl b4 (Nat.le_of_ble_eq_true rfl) ?_
   refine Ops.storeN_chk (b:=h.nx+3) (o:=0) (vs:=[.int .u32 0,.int .u32 0]) rfl rfl rfl rfl b3 (Nat.le_of_ble_eq_true rfl) ?_ ?_
   ·exact jfz (b:=h.nx+4) (o:=0) (l:=[.int .u32 0,.int .u32 0]) (ro:=false) rfl (by rw [jaa om];exact b4) (Nat.le_of_ble_eq_true rfl) rfl rfl jb9
   refine Ops.storeN (b:=h.nx+4) (o:=0) (vs:=[.int .u32 0,.int .u32 0]) rfl rfl rfl rfl (by rw [jaa om];exact b4) (Nat.le_of_ble_eq_true rfl) ?_
   repeat' (first|refine qxy ?_|refine zbf rfl (fun _=>?_) fun _=>?_|refine zbg rfl (fun _=>?_) fun _=>?_|refine zbh rfl (fun _=>?_) fun _=>?_|refine zbm rfl (fun _=>?_) fun _=>?_|refine zbn rfl (fun _=>?_) fun _=>?_)
   refine Ops.store1 (b:=h.nx+5) (o:=0) (l:=[.i 0]) rfl rfl rfl (by rw [jaa om,jaa om];exact b5) Nat.zero_lt_one ?_
   have k3:(((H0.set (h.nx+3) (.cells [.int .u32 0,.int .u32 0] false)).set (h.nx+4) (.cells [.int .u32 0,.int .u32 0] false)).set (h.nx+5) (.cells [.i 0] false)).get (h.nx+3)=some (.cells [.int .u32 0,.int .u32 0] false):=by rw [jaa om,jaa om,jab]
   have k4:(((H0.set (h.nx+3) (.cells [.int .u32 0,.int .u32 0] false)).set (h.nx+4) (.cells [.int .u32 0,.int .u32 0] false)).set (h.nx+5) (.cells [.i 0] false)).get (h.nx+4)=some (.cells [.int .u32 0,.int .u32 0] false):=by rw [jaa om,jab]
   have k5:(((H0.set (h.nx+3) (.cells [.int .u32 0,.int .u32 0] false)).set (h.nx+4) (.cells [.int .u32 0,.int .u32 0] false)).set (h.nx+5) (.cells [.i 0] false)).get (h.nx+5)=some (.cells [.i 0] false):=jab _
   have o9:Old h (((H0.set (h.nx+3) (.cells [.int .u32 0,.int .u32 0] false)).set (h.nx+4) (.cells [.int .u32 0,.int .u32 0] false)).set (h.nx+5) (.cells [.i 0] false)):=((oH.set om).set om).set om
   change Ops _ _ _ _ _ _ _ (((H0.set (h.nx+3) (.cells [.int .u32 0,.int .u32 0] false)).set (h.nx+4) (.cells [.int .u32 0,.int .u32 0] false)).set (h.nx+5) (.cells [.i 0] false)) _
   generalize ((H0.set (h.nx+3) (.cells [.int .u32 0,.int .u32 0] false)).set (h.nx+4) (.cells [.int .u32 0,.int .u32 0] false)).set (h.nx+5) (.cells [.i 0] false)=H9 at k3 k4 k5 o9 ⊢
   repeat' (first|refine qxy ?_|refine zbf rfl (fun _=>?_) fun _=>?_|refine zbg rfl (fun _=>?_) fun _=>?_|refine zbh rfl (fun _=>?_) fun _=>?_|refine zbm rfl (fun _=>?_) fun _=>?_|refine zbn rfl (fun _=>?_) fun _=>?_)
   exact jk9 k3 k4 k5 rfl rfl ⟨o9,_,_,_,rfl,fun e=>absurd e (by decide),fun _=>⟨rfl,rfl,rfl⟩⟩
 obtain ⟨n1,n2⟩ : ¬ top<0 /\ ¬ 64<top:=by omega
 obtain ⟨cb,h1,e1,hb,o1⟩:=sl_closed hcl (d:=d-1) (top:=top) (f:=f) (g:=g) (h:=H0) om ax o
 have c0:h1.get h.nx=some (.cells [.p w 0] false):=by rw [o1.2 _ om,b0]
 have c1:h1.get (h.nx+1)=some (.cells (setV f) false):=by rw [o1.2 _ om,b1]
 have c2:h1.get (h.nx+2)=some (.cells (setV g) false):=by rw [o1.2 _ om,b2]
 have c3:h1.get (h.nx+3)=some (.cells [.int .u32 0,.int .u32 0] false):=by rw [o1.2 _ om,b3]
 have c4:h1.get (h.nx+4)=some (.cells [.int .u32 0,.int .u32 0] false):=by rw [o1.2 _ om,b4]
 have c5:h1.get (h.nx+5)=some (.cells [.i 0] false):=by rw [o1.2 _ om,b5]
 have oX:=oH.trans o1
 have ay:=a.old oX
 have y1:=o1.1
 have hz:jbj ws f g top=if cb=true then 110 else 0:=by
  unfold jbj
  rw [if_neg ht]
  by_cases hc:jbP ws f g top
  ·rw [if_pos hc,if_pos (hb.2 hc)]
  ·rw [if_neg hc,if_neg (fun h=>hc (hb.1 h))]
 rw [hz]
 clear hb hz
 cases cb with
 | true=>
  rw [if_pos rfl]
  clear a ax ay o ht
  refine qx1 ?_
  refine Ops.loadN rfl b1 (Nat.le_refl _) ?_
  rw [show List.take 2 (List.drop 0 (setV f))=setV f from rfl]
  refine qx1 ?_
  refine Ops.loadN rfl b2 (Nat.le_refl _) ?_
  rw [show List.take 2 (List.drop 0 (setV g))=setV g from rfl]
  refine qx1 ?_
  refine Ops.loadN rfl c3 (Nat.le_of_ble_eq_true rfl) ?_
  refine Ops.loadN rfl c4 (Nat.le_of_ble_eq_true rfl) ?_
  refine Ops.storeN_chk (b:=h.nx+3) (o:=0) (vs:=[.int .u32 0,.int .u32 0]) rfl rfl rfl rfl c3 (Nat.le_of_ble_eq_true rfl) ?_ ?_
  ·exact jfz (b:=h.nx+4) (o:=0) (l:=[.int .u32 0,.int .u32 0]) (ro:=false) rfl (by rw [jaa om];exact c4) (Nat.le_of_ble_eq_true rfl) rfl rfl jb9
  refine Ops.storeN (b:=h.nx+4) (o:=0) (vs:=[.int .u32 0,.int .u32 0]) rfl rfl rfl rfl (by rw [jaa om];exact c4) (Nat.le_of_ble_eq_true rfl) ?_
  refine Ops.store1 (b:=h.nx+5) (o:=0) (l:=[.i 0]) rfl rfl rfl (by rw [jaa om,jaa om];exact c5) Nat.zero_lt_one ?_
  have k3:(((h1.set (h.nx+3) (.cells [.int .u32 0,.int .u32 0] false)).set (h.nx+4) (.cells [.int .u32 0,.int .u32 0] false)).set (h.nx+5) (.cells [.i 0] false)).get (h.nx+3)=some (.cells [.int .u32 0,.int .u32 0] false):=by rw [jaa om,jaa om,jab]
  have k4:(((h1.set (h.nx+3) (.cells [.int .u32 0,.int .u32 0] false)).set (h.nx+4) (.cells [.int .u32 0,.int .u32 0] false)).set (h.nx+5) (.cells [.i 0] false)).get (h.nx+4)=some (.cells [.int .u32 0,.int .u32 0] false):=by rw [jaa om,jab]
  have k5:(((h1.set (h.nx+3) (.cells [.int .u32 0,.int .u32 0] false)).set (h.nx+4) (.cells [.int .u32 0,.int .u32 0] false)).set (h.nx+5) (.cells [.i 0] false)).get (h.nx+5)=some (.cells [.i 0] false):=jab _
  have o9:Old h (((h1.set (h.nx+3) (.cells [.int .u32 0,.int .u32 0] false)).set (h.nx+4) (.cells [.int .u32 0,.int .u32 0] false)).set (h.nx+5) (.cells [.i 0] false)):=((oX.set om).set om).set om
  change Ops _ _ _ _ _ _ _ (((h1.set (h.nx+3) (.cells [.int .u32 0,.int .u32 0] false)).set (h.nx+4) (.cells [.int .u32 0,.int .u32 0] false)).set (h.nx+5) (.cells [.i 0] false)) _
  generalize ((h1.set (h.nx+3) (.cells [.int .u32 0,.int .u32 0] false)).set (h.nx+4) (.cells [.int .u32 0,.int .u32 0] false)).set (h.nx+5) (.cells [.i 0] false)=H9 at k3 k4 k5 o9 ⊢
  refine qx1 ?_
  exact jk9 k3 k4 k5 rfl rfl ⟨o9,_,_,_,rfl,fun e=>absurd e (by decide),fun _=>⟨rfl,rfl,rfl⟩⟩
 | false=>
  rw [if_neg (by decide)]
  refine qx1 ?_
  refine Ops.loadN rfl b1 (Nat.le_refl _) ?_
  rw [show List.take 2 (List.drop 0 (setV f))=setV f from rfl]
  refine qx1 ?_
  refine Ops.loadN rfl b2 (Nat.le_refl _) ?_
  rw [show List.take 2 (List.drop 0 (setV g))=setV g from rfl]
  refine qx1 ?_
  refine Ops.loadN rfl c1 (Nat.le_refl _) ?_
  rw [show List.take 2 (List.drop 0 (setV f))=setV f from rfl]
  refine qx1 ?_
  refine Ops.loadN rfl c2 (Nat.le_refl _) ?_
  rw [show List.take 2 (List.drop 0 (setV g))=setV g from rfl]
  refine qx1 ?_
  refine Ops.callf rfl (jl2 hcl (d:=d-1) (f:=f) (g:=g) om) ?_
  refine qx1 ?_
  have oH2:Old h (((h1.new (.cells [.i top] false)).new (.cells (setV f) false)).new (.cells (setV g) false)):=oX.new.new.new
  have d0:(((h1.new (.cells [.i top] false)).new (.cells (setV f) false)).new (.cells (setV g) false)).get h.nx=some (.cells [.p w 0] false):=by rw [jac (by simp;omega),jac (by simp;omega),jac om,c0]
  have d3:(((h1.new (.cells [.i top] false)).new (.cells (setV f) false)).new (.cells (setV g) false)).get (h.nx+3)=some (.cells [.int .u32 0,.int .u32 0] false):=by rw [jac (by simp;omega),jac (by simp;omega),jac om,c3]
  have d4:(((h1.new (.cells [.i top] false)).new (.cells (setV f) false)).new (.cells (setV g) false)).get (h.nx+4)=some (.cells [.int .u32 0,.int .u32 0] false):=by rw [jac (by simp;omega),jac (by simp;omega),jac om,c4]
  have d5:(((h1.new (.cells [.i top] false)).new (.cells (setV f) false)).new (.cells (setV g) false)).get (h.nx+5)=some (.cells [.i 0] false):=by rw [jac (by simp;omega),jac (by simp;omega),jac om,c5]
  have q0:(((h1.new (.cells [.i top] false)).new (.cells (setV f) false)).new (.cells (setV g) false)).get h1.nx=some (.cells [.i top] false):=qgt
  have q1:(((h1.new (.cells [.i top] false)).new (.cells (setV f) false)).new (.cells (setV g) false)).get (h1.nx+1)=some (.cells (setV f) false):=qgt
  have q2:(((h1.new (.cells [.i top] false)).new (.cells (setV f) false)).new (.cells (setV g) false)).get (h1.nx+2)=some (.cells (setV g) false):=qgt
  have x2:(((h1.new (.cells [.i top] false)).new (.cells (setV f) false)).new (.cells (setV g) false)).nx=h1.nx+3:=rfl
  generalize ((h1.new (.cells [.i top] false)).new (.cells (setV f) false)).new (.cells (setV g) false)=H2 at oH2 d0 d3 d4 d5 q0 q1 q2 x2 ⊢
  refine Run.rangeFunc_lo rfl qkp fun LO hLO=>?_
  rw [x2]
  have oL:Old h (H2.new (LO .ready none)):=oH2.new
  obtain ⟨v',h',hc,hIJ⟩:=jhY hcl (d:=d-1) (L:=h1.nx+3) (c1:=h1.nx+1) (c2:=h1.nx+2) (c3:=h1.nx) (f:=f) (g:=g) (top:=top) (h:=H2.new (LO .ready none)) om
   (fun m e=>e.get h.nx=some (.cells [.p w 0] false)/\e.get (h.nx+3)=some (.cells (setV (selK ws f inR top m)) false)/\e.get (h.nx+4)=some (.cells (setV (selK ws g outR top m)) false)/\e.get (h.nx+5)=some (.cells [.i ((cntS (selS ws f inR top) m+cntS (selS ws g outR top) m:Nat):Int)] false)/\e.get h1.nx=some (.cells [.i top] false)/\e.get (h1.nx+1)=some (.cells (setV f) false)/\e.get (h1.nx+2)=some (.cells (setV g) false)/\e.get (h1.nx+3)=some (LO .ready none)/\h1.nx+4<=e.nx/\Old h e)
   (fun _=>False)
   (fun m e ⟨_,_,_,_,p5,p6,p7,_,p9,_⟩=>⟨p6,p7,p5,by omega,by omega,by omega⟩)
   (by
    rintro m e e' ⟨p0,p1,p2,p3,p4,p5,p6,p7,p8,p9⟩ og
    exact ⟨by rw [og.2 _ om,p0],by rw [og.2 _ om,p1],by rw [og.2 _ om,p2],by rw [og.2 _ om,p3],by rw [og.2 _ om,p4],by rw [og.2 _ om,p5],by rw [og.2 _ om,p6],by rw [og.2 _ om,p7],Nat.le_trans p8 og.1,p9.trans og⟩)
   (by
    rintro m e hm hk ⟨p0,p1,p2,p3,p⟩
    obtain ⟨hkf,hkg⟩:=selS_not (ws:=ws) hk
    refine ⟨p0,by rw [ji2 hkf,p1],by rw [ji2 hkg,p2],?_,p⟩
    rw [cntS,cntS,hkf,hkg];simpa using p3)
   (by
    rintro m e hm hk ⟨p0,p1,p2,p3,p4,p5,p6,p7,p8,p9⟩
    have oq:Old h (e.set (h1.nx+3) (LO .busy none)):=p9.set om
    obtain ⟨e1,er,oe⟩:=jir hcl (d:=d-1-1-1) (fd:=(m:Int)) om (a.old oq) o
    rw [jiB] at er
    obtain ⟨e2,es,oe'⟩:=sl_is hcl (d:=d-1-1-1) (r:=rdyS ws (m:Int)) (h:=e1) om
    obtain ⟨hf,hg⟩:=selS_is (ws:=ws) hk
    have hA:=and_mask (f m) (g m) (inR (rdyS ws (m:Int))) (outR (rdyS ws (m:Int)))
    rw [<- hf,<- hg] at hA
    have hA:IntKind.i64.wrap ((BitVec.ofInt 64 (jn0 f g m) &&& BitVec.ofInt 64 (isR (rdyS ws (m:Int)))).toNat:Int)=_:=hA
    have oe2:Old (e.set (h1.nx+3) (LO .busy none)) e2:=oe.trans oe'
    have r0 : ∀ j,j<e.nx->j≠h1.nx+3->e2.get j=e.get j:=fun j h1 h2=>by rw [oe2.2 _ (by simpa using h1),jaa h2]
    have r3:e2.get (h.nx+3)=some (.cells (setV (selK ws f inR top m)) false):=by rw [r0 _ om om,p1]
    have r4:e2.get (h.nx+4)=some (.cells (setV (selK ws g outR top m)) false):=by rw [r0 _ om om,p2]
    have r5:e2.get (h.nx+5)=some (.cells [.i ((cntS (selS ws f inR top) m+cntS (selS ws g outR top) m:Nat):Int)] false):=by rw [r0 _ om om,p3]
    have r7:e2.get (h1.nx+3)=some (LO .busy none):=by rw [oe2.2 _ (by simp;omega),jab]
    have ox:e.nx<=e2.nx:=by have:=oe2.1;simpa using this
    have of:Old h e2:=oq.trans oe2
    have fin : ∀ X:H,e.nx<=X.nx->(∀ j,j<e.nx->j≠h.nx+3->j≠h.nx+4->j≠h.nx+5->j≠h1.nx+3->X.get j=e.get j)->X.get (h.nx+3)=some (.cells (setV (selK ws f inR top (m+1))) false)->X.get (h.nx+4)=some (.cells (setV (selK ws g outR top (m+1))) false) ->
      X.get (h.nx+5)=some (.cells [.i ((cntS (selS ws f inR top) (m+1)+cntS (selS ws g outR top) (m+1):Nat):Int)] false) ->
      ((X.set (h1.nx+3) (LO .ready none)).get h.nx=some (.cells [.p w 0] false)/\(X.set (h1.nx+3) (LO .ready none)).get (h.nx+3)=some (.cells (setV (selK ws f inR top (m+1))) false)/\(X.set (h1.nx+3) (LO .ready none)).get (h.nx+4)=some (.cells (setV (selK ws g outR top (m+1))) false)/\(X.set (h1.nx+3) (LO .ready none)).get (h.nx+5)=some (.cells [.i ((cntS (selS ws f inR top) (m+1)+cntS (selS ws g outR top) (m+1):Nat):Int)] false)/\(X.set (h1.nx+3) (LO .ready none)).get h1.nx=some (.cells [.i top] false)/\(X.set (h1.nx+3) (LO .ready none)).get (h1.nx+1)=some (.cells (setV f) false)/\(X.set (h1.nx+3) (LO .ready none)).get (h1.nx+2)=some (.cells (setV g) false)/\(X.set (h1.nx+3) (LO .ready none)).get (h1.nx+3)=some (LO .ready none)/\h1.nx+4<=(X.set (h1.nx+3) (LO .ready none)).nx/\Old h (X.set (h1.nx+3) (LO .ready none)))/\OldN (H2.new (LO .ready none)).nx e (X.set (h1.nx+3) (LO .ready none)):=by
     intro X xn xo x3 x4 x5
     refine ⟨⟨?_,?_,?_,?_,?_,?_,?_,jab _,by simp;omega,⟨by simp;omega,fun j hj=>?_⟩⟩,by simpa using xn,fun j hj hj2=>?_⟩
     ·rw [jaa om,xo _ om om om om om,p0]
     ·rw [jaa om,x3]
     ·rw [jaa om,x4]
     ·rw [jaa om,x5]
     ·rw [jaa om,xo _ om om om om om,p4]
     ·rw [jaa om,xo _ om om om om om,p5]
     ·rw [jaa om,xo _ om om om om om,p6]
     ·rw [jaa om,xo _ om om om om om,p9.2 _ hj]
     ·have hj:h1.nx+3+1<=j:=by simpa [x2] using hj
      rw [jaa om,xo _ hj2 om om om om]
    have hN:cntS (selS ws f inR top) m+cntS (selS ws g outR top) m<=128:=by have:=jcd (selS ws f inR top) m;have:=jcd (selS ws g outR top) m;omega
    have hN1:cntS (selS ws f inR top) (m+1)+cntS (selS ws g outR top) (m+1)=cntS (selS ws f inR top) m+cntS (selS ws g outR top) m+(if selS ws f inR top m then 1 else 0)+(if selS ws g outR top m then 1 else 0):=by simp only [cntS];omega
    rw [hN1] at fin
    generalize cntS (selS ws f inR top) m+cntS (selS ws g outR top) m=n at r5 hN hN1 fin
    have yF:selS ws f inR top m=false->setV (selK ws f inR top (m+1))=setV (selK ws f inR top m):=fun h=>ji2 h
    have yG:selS ws g outR top m=false->setV (selK ws g outR top (m+1))=setV (selK ws g outR top m):=fun h=>ji2 h
    have wF : ∀ E,selS ws f inR top m=true -> ∃ E',cl (d-1-1-1) (.fn F.jdm) [.agg (setV (selK ws f inR top m)),.i (m:Int)] E=some (.tup [.agg (setV (selK ws f inR top (m+1))),.i 0],E')/\Old E E':=fun E hs=>by
     rw [jl3 hs hm]
     have:=jlc hcl (d:=d-1-1-1) (f:=selK ws f inR top m) (fd:=(m:Int)) (h:=E) om
     rwa [if_pos (show fitS (m:Int) from ⟨by omega,by omega⟩)] at this
    have wG : ∀ E,selS ws g outR top m=true -> ∃ E',cl (d-1-1-1) (.fn F.jdm) [.agg (setV (selK ws g outR top m)),.i (m:Int)] E=some (.tup [.agg (setV (selK ws g outR top (m+1))),.i 0],E')/\Old E E':=fun E hs=>by
     rw [jl3 hs hm]
     have:=jlc hcl (d:=d-1-1-1) (f:=selK ws g outR top m) (fd:=(m:Int)) (h:=E) om
     rwa [if_pos (show fitS (m:Int) from ⟨by omega,by omega⟩)] at this
    have lF:(setV (selK ws f inR top m)).length=2:=rfl
    have lG:(setV (selK ws g outR top m)).length=2:=rfl
    have lF1:(setV (selK ws f inR top (m+1))).length=2:=rfl
    have lG1:(setV (selK ws g outR top (m+1))).length=2:=rfl
    have aF1:(setV (selK ws f inR top (m+1))).all V.one=true:=rfl
    have aG1:(setV (selK ws g outR top (m+1))).all V.one=true:=rfl
    generalize jn0 f g m=mk0 at hA ⊢
    generalize rdyS ws (m:Int)=r at er es hA hf hg
    have er:cl (d-1-1-1) (.fn F.jdq) [.p w 0,.i (m:Int)] (e.set (h1.nx+3) (LO .busy none))=some (.agg r.cells,e1):=er
    generalize isR r=ri at es hA
    generalize r.cells=rc at er es
    refine ⟨true,?_⟩
    suffices q : ∃ v' g',cl (d-1-1) (.yld (h1.nx+3)) [.i (m:Int),.i mk0] e=some (v',g')/\(v' = .bool true/\(g'.get h.nx=some (.cells [.p w 0] false)/\g'.get (h.nx+3)=some (.cells (setV (selK ws f inR top (m+1))) false)/\g'.get (h.nx+4)=some (.cells (setV (selK ws g outR top (m+1))) false)/\g'.get (h.nx+5)=some (.cells [.i ((cntS (selS ws f inR top) (m+1)+cntS (selS ws g outR top) (m+1):Nat):Int)] false)/\g'.get h1.nx=some (.cells [.i top] false)/\g'.get (h1.nx+1)=some (.cells (setV f) false)/\g'.get (h1.nx+2)=some (.cells (setV g) false)/\g'.get (h1.nx+3)=some (LO .ready none)/\h1.nx+4<=g'.nx/\Old h g')/\OldN (H2.new (LO .ready none)).nx e g') by
     obtain ⟨_,g',e,rfl,q⟩:=q
     exact ⟨g',e,fun _=>q,fun e=>by cases e⟩
    refine yl_ hcl om hLO p7 rfl ?_
    clear a o ax ay hk hf hg oq oe oe'
    clear oH oH2 oL b0 b1 b2 b3 b4 b5 c0 c1 c2 c3 c4 c5 d0 d3 d4 d5 q0 q1 q2 ht n1 n2
    refine qx1 ?_
    refine End.nil ⟨rfl,p7,?_⟩
    clear p1 p2 p3 p4 p5 p6 p7 p9
    rw [hN1]
    generalize hT:setV (selK ws f inR top m)=tF at r3 yF wF lF
    generalize hT1:setV (selK ws f inR top (m+1))=tF1 at fin yF wF lF1 aF1 ⊢
    generalize hU:setV (selK ws g outR top m)=tG at r4 yG wG lG
    generalize hU1:setV (selK ws g outR top (m+1))=tG1 at fin yG wG lG1 aG1 ⊢
    have sF:List.take 2 (List.drop 0 tF)=tF:=by rw [List.drop_zero,List.take_of_length_le om]
    have sG:List.take 2 (List.drop 0 tG)=tG:=by rw [List.drop_zero,List.take_of_length_le om]
    clear hT hT1 hU hU1 hN1
    generalize selS ws f inR top m=bF at hA fin yF wF
    generalize selS ws g outR top m=bG at hA fin yG wG
    have hA:IntKind.i64.wrap ((BitVec.ofInt IntKind.i64.bits mk0 &&& BitVec.ofInt IntKind.i64.bits ri).toNat:Int)=(if bF then 2 else 0)+(if bG then 4 else 0):=hA
    have cF:IntKind.i64.wrap ((BitVec.ofInt IntKind.i64.bits (IntKind.i64.wrap ((BitVec.ofInt IntKind.i64.bits mk0 &&& BitVec.ofInt IntKind.i64.bits ri).toNat:Int)) &&& BitVec.ofInt IntKind.i64.bits 2).toNat:Int)=if bF then 2 else 0:=by
     rw [hA];cases bF<;>cases bG<;>decide
    have cG:IntKind.i64.wrap ((BitVec.ofInt IntKind.i64.bits (IntKind.i64.wrap ((BitVec.ofInt IntKind.i64.bits mk0 &&& BitVec.ofInt IntKind.i64.bits ri).toNat:Int)) &&& BitVec.ofInt IntKind.i64.bits 4).toNat:Int)=if bG then 4 else 0:=by
     rw [hA];cases bF<;>cases bG<;>decide
    clear hA
    cases bF with
    | false=>
     obtain rfl:=yF rfl
     have cF : ¬ IntKind.i64.wrap ((BitVec.ofInt IntKind.i64.bits (IntKind.i64.wrap ((BitVec.ofInt IntKind.i64.bits mk0 &&& BitVec.ofInt IntKind.i64.bits ri).toNat:Int)) &&& BitVec.ofInt IntKind.i64.bits 2).toNat:Int)≠0:=by rw [cF];decide
     clear yF wF
     cases bG with
     | false=>
      obtain rfl:=yG rfl
      have cG : ¬ IntKind.i64.wrap ((BitVec.ofInt IntKind.i64.bits (IntKind.i64.wrap ((BitVec.ofInt IntKind.i64.bits mk0 &&& BitVec.ofInt IntKind.i64.bits ri).toNat:Int)) &&& BitVec.ofInt IntKind.i64.bits 4).toNat:Int)≠0:=by rw [cG];decide
      clear yG wG
      have fin:=fin e2 ox (fun j h1 _ _ _ h2=>r0 j h1 h2) r3 r4 r5
      refine qx1 ?_
      refine End.nil ⟨⟨.busy,none,r7⟩,rfl,fin⟩
     | true=>
      have cG:IntKind.i64.wrap ((BitVec.ofInt IntKind.i64.bits (IntKind.i64.wrap ((BitVec.ofInt IntKind.i64.bits mk0 &&& BitVec.ofInt IntKind.i64.bits ri).toNat:Int)) &&& BitVec.ofInt IntKind.i64.bits 4).toNat:Int)≠0:=by rw [cG];decide
      clear yG
      obtain ⟨e4,ew,o4⟩:=wG e2 rfl
      clear wG
      have z4:e4.get (h.nx+4)=some (.cells tG false):=by rw [o4.2 _ om,r4]
      have z5:e4.get (h.nx+5)=some (.cells [.i ((n:Nat):Int)] false):=by rw [o4.2 _ om,r5]
      have zx:=o4.1
      have fin:=fin ((e4.set (h.nx+4) (.cells tG1 false)).set (h.nx+5) (.cells [.i ((n:Int)+1)] false)) (by simp;omega)
       (fun j h1 h2 h3 h4 h5=>by rw [jaa h4,jaa h3,o4.2 _ om,r0 j h1 h5])
       (by rw [jaa om,jaa om,o4.2 _ om,r3])
       (by rw [jaa om,jab]) (by rw [jab];simp)
      have r7':((e4.set (h.nx+4) (.cells tG1 false)).set (h.nx+5) (.cells [.i ((n:Int)+1)] false)).get (h1.nx+3)=some (LO .busy none):=by rw [jaa om,jaa om,o4.2 _ om,r7]
      refine qx1 ?_
      refine Ops.loadN rfl r4 om ?_
      rw [sG]
      refine qx1 ?_
      refine Ops.storeN (b:=h.nx+4) (o:=0) rfl rfl lG1 aG1 z4 om ?_
      rw [jan tG1 tG om]
      refine qx1 ?_
      refine Ops.store1 (b:=h.nx+5) (o:=0) (l:=[.i ((n:Nat):Int)]) rfl rfl rfl (by rw [jaa om];exact z5) Nat.zero_lt_one ?_
      refine qx1 ?_
      refine End.nil ⟨⟨.busy,none,r7'⟩,rfl,fin⟩
    | true=>
     have cF:IntKind.i64.wrap ((BitVec.ofInt IntKind.i64.bits (IntKind.i64.wrap ((BitVec.ofInt IntKind.i64.bits mk0 &&& BitVec.ofInt IntKind.i64.bits ri).toNat:Int)) &&& BitVec.ofInt IntKind.i64.bits 2).toNat:Int)≠0:=by rw [cF];decide
     clear yF
     obtain ⟨e3,ew,o3⟩:=wF e2 rfl
     clear wF
     have z3:e3.get (h.nx+3)=some (.cells tF false):=by rw [o3.2 _ om,r3]
     have z5:e3.get (h.nx+5)=some (.cells [.i ((n:Nat):Int)] false):=by rw [o3.2 _ om,r5]
     have zx:=o3.1
     cases bG with
     | false=>
      obtain rfl:=yG rfl
      have cG : ¬ IntKind.i64.wrap ((BitVec.ofInt IntKind.i64.bits (IntKind.i64.wrap ((BitVec.ofInt IntKind.i64.bits mk0 &&& BitVec.ofInt IntKind.i64.bits ri).toNat:Int)) &&& BitVec.ofInt IntKind.i64.bits 4).toNat:Int)≠0:=by rw [cG];decide
      clear yG wG
      have fin:=fin ((e3.set (h.nx+3) (.cells tF1 false)).set (h.nx+5) (.cells [.i ((n:Int)+1)] false)) (by simp;omega)
       (fun j h1 h2 h3 h4 h5=>by rw [jaa h4,jaa h2,o3.2 _ om,r0 j h1 h5])
       (by rw [jaa om,jab])
       (by rw [jaa om,jaa om,o3.2 _ om,r4]) (by rw [jab];simp)
      have r7':((e3.set (h.nx+3) (.cells tF1 false)).set (h.nx+5) (.cells [.i ((n:Int)+1)] false)).get (h1.nx+3)=some (LO .busy none):=by rw [jaa om,jaa om,o3.2 _ om,r7]
      refine qx1 ?_
      refine Ops.loadN rfl r3 om ?_
      rw [sF]
      refine qx1 ?_
      refine Ops.storeN (b:=h.nx+3) (o:=0) rfl rfl lF1 aF1 z3 om ?_
      rw [jan tF1 tF om]
      refine qx1 ?_
      refine Ops.store1 (b:=h.nx+5) (o:=0) (l:=[.i ((n:Nat):Int)]) rfl rfl rfl (by rw [jaa om];exact z5) Nat.zero_lt_one ?_
      refine qx1 ?_
      refine End.nil ⟨⟨.busy,none,r7'⟩,rfl,fin⟩
     | true=>
      have cG:IntKind.i64.wrap ((BitVec.ofInt IntKind.i64.bits (IntKind.i64.wrap ((BitVec.ofInt IntKind.i64.bits mk0 &&& BitVec.ofInt IntKind.i64.bits ri).toNat:Int)) &&& BitVec.ofInt IntKind.i64.bits 4).toNat:Int)≠0:=by rw [cG];decide
      clear yG
      obtain ⟨E1,hE⟩ : ∃ E1,E1=(e3.set (h.nx+3) (.cells tF1 false)).set (h.nx+5) (.cells [.i ((n:Int)+1)] false):=⟨_,rfl⟩
      have E3:E1.get (h.nx+3)=some (.cells tF1 false):=by rw [hE,jaa om,jab]
      have E4:E1.get (h.nx+4)=some (.cells tG false):=by rw [hE,jaa om,jaa om,o3.2 _ om,r4]
      have E5:E1.get (h.nx+5)=some (.cells [.i ((n:Int)+1)] false):=by rw [hE,jab]
      have E7:E1.get (h1.nx+3)=some (LO .busy none):=by rw [hE,jaa om,jaa om,o3.2 _ om,r7]
      have Ex:e2.nx<=E1.nx:=by rw [hE];simp;omega
      have Er : ∀ j,j<e.nx->j≠h.nx+3->j≠h.nx+5->j≠h1.nx+3->E1.get j=e.get j:=fun j h1 h2 h4 h5=>by rw [hE,jaa h4,jaa h2,o3.2 _ om,r0 j h1 h5]
      obtain ⟨e4,ew4,o4⟩:=wG E1 rfl
      clear wG
      have y4:e4.get (h.nx+4)=some (.cells tG false):=by rw [o4.2 _ om,E4]
      have y5:e4.get (h.nx+5)=some (.cells [.i ((n:Int)+1)] false):=by rw [o4.2 _ om,E5]
      have zx4:=o4.1
      have fin:=fin ((e4.set (h.nx+4) (.cells tG1 false)).set (h.nx+5) (.cells [.i ((n:Int)+1+1)] false)) (by simp;omega)
       (fun j h1 h2 h3 h4 h5=>by rw [jaa h4,jaa h3,o4.2 _ om,Er j h1 h2 h4 h5])
       (by rw [jaa om,jaa om,o4.2 _ om,E3])
       (by rw [jaa om,jab]) (by rw [jab];simp)
      have r7':((e4.set (h.nx+4) (.cells tG1 false)).set (h.nx+5) (.cells [.i ((n:Int)+1+1)] false)).get (h1.nx+3)=some (LO .busy none):=by rw [jaa om,jaa om,o4.2 _ om,E7]
      refine qx1 ?_
      refine Ops.loadN rfl r3 om ?_
      rw [sF]
      refine qx1 ?_
      refine Ops.storeN (b:=h.nx+3) (o:=0) rfl rfl lF1 aF1 z3 om ?_
      rw [jan tF1 tF om]
      refine qx1 ?_
      refine Ops.store1 (b:=h.nx+5) (o:=0) (l:=[.i ((n:Nat):Int)]) rfl rfl rfl (by rw [jaa om];exact z5) Nat.zero_lt_one ?_
      have hE:(e3.set (h.nx+3) (.cells tF1 false)).set (h.nx+5) (.cells (List.set [.i ((n:Nat):Int)] 0 (.i ((n:Int)+1))) false)=E1:=hE.symm
      rw [hE]
      clear hE z3 z5 r3 r4 r5 r0 Er
      refine qx1 ?_
      refine Ops.loadN rfl E4 om ?_
      rw [sG]
      refine qx1 ?_
      refine Ops.storeN (b:=h.nx+4) (o:=0) rfl rfl lG1 aG1 y4 om ?_
      rw [jan tG1 tG om]
      refine qx1 ?_
      refine Ops.store1 (b:=h.nx+5) (o:=0) (l:=[.i ((n:Int)+1)]) rfl rfl rfl (by rw [jaa om];exact y5) Nat.zero_lt_one ?_
      refine qx1 ?_
      refine End.nil ⟨⟨.busy,none,r7'⟩,rfl,fin⟩)
   ⟨by rw [jac om,d0],by rw [jac om,d3,jnZ],by rw [jac om,d4,jnZ],by rw [jac om,d5];rfl,by rw [jac om,q0],by rw [jac om,q1],by rw [jac om,q2],by rw [<- x2,jad],by simp [x2],oL⟩
  refine hIJ.elim ?_ fun hF=>hF.elim
  rintro ⟨p0,p1,p2,p3,p4,p5,p6,p7,p8,p9⟩
  refine ⟨v',h',hc,.normal,p7,?_⟩
  rw [selK_64] at p1 p2
  have k3:(h'.kill (h1.nx+3)).get (h.nx+3)=some (.cells (setV (selS ws f inR top)) false):=by rw [jaf om,p1]
  have k4:(h'.kill (h1.nx+3)).get (h.nx+4)=some (.cells (setV (selS ws g outR top)) false):=by rw [jaf om,p2]
  have k5:(h'.kill (h1.nx+3)).get (h.nx+5)=some (.cells [.i (((cntS (selS ws f inR top) 64+cntS (selS ws g outR top) 64:Nat):Int))] false):=by rw [jaf om,p3]
  have o9:Old h (h'.kill (h1.nx+3)):=⟨p9.1,fun j hj=>by rw [jaf om,p9.2 j hj]⟩
  generalize h'.kill (h1.nx+3)=H3 at k3 k4 k5 o9 ⊢
  clear p0 p1 p2 p3 p4 p5 p6 p7 p8 p9 hc hLO a ax ay o
  have lR:(setV (selS ws f inR top)).length=2:=rfl
  have lS:(setV (selS ws g outR top)).length=2:=rfl
  have a1:(setV (selS ws f inR top)).all V.one=true:=rfl
  have a2:(setV (selS ws g outR top)).all V.one=true:=rfl
  generalize hv1:setV (selS ws f inR top)=v1 at k3 lR a1 ⊢
  generalize hv2:setV (selS ws g outR top)=v2 at k4 lS a2 ⊢
  generalize hn:((cntS (selS ws f inR top) 64+cntS (selS ws g outR top) 64:Nat):Int)=n at k5 ⊢
  have t1:List.take 2 (List.drop 0 v1)=v1:=by rw [List.drop_zero,List.take_of_length_le om]
  have t2:List.take 2 (List.drop 0 v2)=v2:=by rw [List.drop_zero,List.take_of_length_le om]
  refine qx1 ?_
  refine Ops.loadN rfl k3 om ?_
  rw [t1]
  refine Ops.loadN rfl k4 om ?_
  rw [t2]
  refine qx1 ?_
  refine Ops.storeN_chk (b:=h.nx+3) (o:=0) rfl rfl lR a1 k3 om ?_ ?_
  ·rw [jan v1 v1 rfl]
   exact jfz (b:=h.nx+4) (o:=0) (l:=v2) (ro:=false) rfl (by rw [jaa om];exact k4) om t2 rfl (jbi (b:=h.nx+5) (o:=0) (l:=[.i n]) (ro:=false) rfl (by rw [jaa om];exact k5) rfl rfl jb9)
  rw [jan v1 v1 rfl]
  refine Ops.storeN_chk (b:=h.nx+4) (o:=0) (l:=v2) rfl rfl lS a2 (by rw [jaa om];exact k4) om ?_ ?_
  ·exact jbi (b:=h.nx+5) (o:=0) (l:=[.i n]) (ro:=false) rfl (by rw [jaa om,jaa om];exact k5) rfl rfl jb9
  rw [jan v2 v2 rfl]
  refine Ops.store1 (b:=h.nx+5) (o:=0) (l:=[.i n]) rfl rfl rfl (by rw [jaa om,jaa om];exact k5) Nat.zero_lt_one ?_
  have z3:(((H3.set (h.nx+3) (.cells v1 false)).set (h.nx+4) (.cells v2 false)).set (h.nx+5) (.cells [.i n] false)).get (h.nx+3)=some (.cells v1 false):=by rw [jaa om,jaa om,jab]
  have z4:(((H3.set (h.nx+3) (.cells v1 false)).set (h.nx+4) (.cells v2 false)).set (h.nx+5) (.cells [.i n] false)).get (h.nx+4)=some (.cells v2 false):=by rw [jaa om,jab]
  have z5:(((H3.set (h.nx+3) (.cells v1 false)).set (h.nx+4) (.cells v2 false)).set (h.nx+5) (.cells [.i n] false)).get (h.nx+5)=some (.cells [.i n] false):=jab _
  have oz:Old h (((H3.set (h.nx+3) (.cells v1 false)).set (h.nx+4) (.cells v2 false)).set (h.nx+5) (.cells [.i n] false)):=((o9.set om).set om).set om
  change Ops _ _ _ _ _ _ _ (((H3.set (h.nx+3) (.cells v1 false)).set (h.nx+4) (.cells v2 false)).set (h.nx+5) (.cells [.i n] false)) _
  generalize ((H3.set (h.nx+3) (.cells v1 false)).set (h.nx+4) (.cells v2 false)).set (h.nx+5) (.cells [.i n] false)=H9 at z3 z4 z5 oz ⊢
  clear k3 k4 k5 o9
  refine qx1 ?_
  exact jk9 z3 z4 z5 lR lS ⟨oz,_,_,_,rfl,fun _=>⟨rfl,rfl,rfl⟩,fun e=>absurd rfl e⟩
end
end Am.Sigs
namespace Am.Sigs
open Am Go
section
variable {cl:Nat->Call} (hcl:Sem cl) {h:H}
include hcl
variable {w s:Nat} {ow:Nat->Nat} {ws:Ws} {now:Int} {tb:Tb} {no:Option (Nat × Nat)} {f g:Nat->Bool}
theorem sl_Top {d:Nat} (hd:3<=d) : ∃ (T:Int) (h':H),cl d (.fn F.sel_Top) [.agg (setV f),.agg (setV g)] h=some (.i (T+1),h')/\Old h h' /\ -1<=T/\T<=63/\(∀ i:Nat,i<64->orS f g i=true->(i:Int)<=T)/\(0<=T->orS f g T.toNat=true):=by
 have b0:((h.new (.cells (setV f) false)).new (.cells (setV g) false)).get h.nx=some (.cells (setV f) false):=qgt
 have b1:((h.new (.cells (setV f) false)).new (.cells (setV g) false)).get (h.nx+1)=some (.cells (setV g) false):=qgt
 have oH:Old h ((h.new (.cells (setV f) false)).new (.cells (setV g) false)):=(Old.refl h).new.new
 obtain ⟨h1,e1,o1⟩:=jkj hcl (d:=d-1) (f:=f) (g:=g) (h:=(h.new (.cells (setV f) false)).new (.cells (setV g) false)) om
 obtain ⟨T,h2,e2,o2,t1,t2,t3,t4⟩:=fs_top hcl (d:=d-1) (f:=orS f g) (h:=h1) om
 refine ⟨T,h2,?_,(oH.trans o1).trans o2,t1,t2,t3,t4⟩
 refine jao (at_ hcl om rfl rfl rfl ?_)
 clear t3 t4
 refine Run.seq (Run.region0 (Ops.make rfl rfl (Ops.make rfl rfl (Ops.mv rfl (Ops.nil qkp (End.seq ?_))))))
 change Run (cl (d-1)) fuel _ _ [(2,.p h.nx 0),(3,.p (h.nx+1) 0)] ((h.new (.cells (setV f) false)).new (.cells (setV g) false)) _
 refine qx1 ?_
 refine Ops.loadN rfl b0 (Nat.le_refl _) ?_
 rw [show List.take 2 (List.drop 0 (setV f))=setV f from rfl]
 refine qx1 ?_
 refine Ops.loadN rfl b1 (Nat.le_refl _) ?_
 rw [show List.take 2 (List.drop 0 (setV g))=setV g from rfl]
 refine qx1 ?_
 exact ⟨rfl,rfl⟩
end
end Am.Sigs
namespace Am.Sigs
open Am Go
theorem jgS (ws:Ws) (f g:Nat->Bool):jbj ws f g 64=0\/jbj ws f g 64=110:=by
 unfold jbj
 rw [if_neg om]
 split
 ·exact .inr rfl
 ·exact .inl rfl
theorem jmi (ws:Ws) (f g:Nat->Bool) {top:Int} (h0:0<=top) (h1:top<=64):jbj ws f g top=0\/jbj ws f g top=110:=by
 unfold jbj
 rw [if_neg om]
 split
 ·exact .inr rfl
 ·exact .inl rfl
theorem jmL {ws:Ws} {f g:Nat->Bool} {top:Int} (h:jbP ws f g top):jbP ws f g 64:=by
 obtain ⟨m,hm,ha,hr⟩:=h
 refine ⟨m,hm,?_,hr⟩
 simp only [askS,jcf,Bool.and_eq_true,decide_eq_true_eq] at ha ⊢
 exact ⟨ha.1,by omega⟩
theorem jgb {ws:Ws} {f g:Nat->Bool} {top:Int} (h0:0<=top) (h1:top<=64) (h:jbj ws f g 64=0):jbj ws f g top=0:=by
 unfold jbj at h ⊢
 rw [if_neg om] at h ⊢
 by_cases hc:jbP ws f g top
 ·rw [if_pos (jmL hc)] at h;cases h
 ·rw [if_neg hc]
theorem jib (ws:Ws) (F:Nat->Bool) (q:Rdy->Bool) (top:Int):setV (selS ws F q top)=setV (jcf (selS ws F q 64) top):=jaX fun i hi=>by
 unfold selS jcf
 have:decide ((i:Int)<64)=true:=by simp;omega
 dsimp only
 rw [this]
 cases F i<;>cases q (rdyS ws (i:Int))<;>simp
theorem jkr {f g:Nat->Bool} (h : ∀ i,f i=true->g i=true) : ∀ n,cntS f n<=cntS g n
 | 0=>Nat.le_refl _
 | n+1=>by
  have:=jkr h n
  have h1:=h n
  simp only [cntS]
  cases hf:f n<;>cases hg:g n<;>simp_all<;>omega
theorem jnk {ws:Ws} {F:Nat->Bool} {q:Rdy->Bool} {top:Int} (h1:top<=64):cntS (selS ws F q top) 64<=cntS (selS ws F q 64) 64:=jkr (fun i hi=>by
 simp only [selS,Bool.and_eq_true,decide_eq_true_eq] at hi ⊢
 exact ⟨⟨hi.1.1,by omega⟩,hi.2⟩) 64
end Am.Sigs
namespace Am
open Go Am.Sigs
structure Hd (p:Prop):Prop where
 g:p
structure Kc (h:H) (b:Nat) (l:List V) (ro:Bool):Prop where
 lt:b<h.nx
 at_:h.get b=some (.cells l ro)
theorem Kc.old {h h':H} {b:Nat} {l:List V} {ro:Bool} (k:Kc h b l ro) (o:Old h h'):Kc h' b l ro :=
 ⟨Nat.lt_of_lt_of_le k.lt o.1,by rw [o.2 _ k.lt,k.at_]⟩
section
variable {call:Call} {fuel base:Nat} {K:List Fr} {e:Env} {h h' h0:H} {Q:Post} {ix:Nat} {dst:Option Nat} {ops:List Ins} {keep:List Nat} {at_:Option Nat} {c:List (Nat × I × Option (Nat × Bool))}
theorem tagLd {a:Opd} (k:Ops call fuel base (⟨ix,dst,.load1 a,none,at_,c⟩ :: ops) keep K e h Q):Ops call fuel base (⟨ix,dst,.load1 a,none,at_,c⟩ :: ops) keep K e h Q:=k
theorem tagLn {a:Opd} {n:Nat} (k:Ops call fuel base (⟨ix,dst,.loadN n a,none,at_,c⟩ :: ops) keep K e h Q):Ops call fuel base (⟨ix,dst,.loadN n a,none,at_,c⟩ :: ops) keep K e h Q:=k
theorem tagCl {f:FuncId} {l:List Opd} (k:Ops call fuel base (⟨ix,dst,.call f l,none,at_,c⟩ :: ops) keep K e h Q):Ops call fuel base (⟨ix,dst,.call f l,none,at_,c⟩ :: ops) keep K e h Q:=k
theorem tagEq {x y:Opd} {t:EK} {b:Bool} (k:Ops call fuel base (⟨ix,dst,.eq t b x y,none,at_,c⟩ :: ops) keep K e h Q):Ops call fuel base (⟨ix,dst,.eq t b x y,none,at_,c⟩ :: ops) keep K e h Q:=k
theorem tagIa {x y:Opd} {m n:Nat} (k:Ops call fuel base (⟨ix,dst,.ixaA m n x y,none,at_,c⟩ :: ops) keep K e h Q):Ops call fuel base (⟨ix,dst,.ixaA m n x y,none,at_,c⟩ :: ops) keep K e h Q:=k
theorem tagIs {x y:Opd} {n:Nat} (k:Ops call fuel base (⟨ix,dst,.ixaS n x y,none,at_,c⟩ :: ops) keep K e h Q):Ops call fuel base (⟨ix,dst,.ixaS n x y,none,at_,c⟩ :: ops) keep K e h Q:=k
theorem tagNil (k:Ops call fuel base [] keep K e h Q):Ops call fuel base [] keep K e h Q:=k
theorem Ops.loadS {a:Opd} {b:Nat} {f:Nat->Bool} (ha:a.ev e=some (.ptr (some (b,0)))) (k:Kc h0 b (setV f) false) (o:Old h0 h) (kk:Ops call fuel base ops keep K (layv e dst (.agg (setV f))) h Q) :
  Ops call fuel base (⟨ix,dst,.loadN 2 a,none,at_,[]⟩ :: ops) keep K e h Q:=Ops.loadN ha (k.old o).at_ (Nat.le_refl _) kk
theorem Ops.loadK {a:Opd} {b o:Nat} {l:List V} {ro:Bool} {v:V} (ha:a.ev e=some (.ptr (some (b,o)))) (k:Kc h0 b l ro) (oo:Old h0 h) (hv:l[o]?=some v) (kk:Ops call fuel base ops keep K (layv e dst v) h Q) :
  Ops call fuel base (⟨ix,dst,.load1 a,none,at_,[]⟩ :: ops) keep K e h Q:=Ops.load1 ha (k.old oo).at_ hv kk
theorem chk_set {d:Nat} {a:Opd} {g:Option (Nat × Bool)} {r:List (Nat × I × Option (Nat × Bool))} {b:Nat} {f:Nat->Bool} (ha:a.ev e=some (.ptr (some (b,0)))) (k:Kc h0 b (setV f) false) (o:Old h0 h)
  (hd:e.get d=some (.agg (setV f))) (kk:jaC e h r=true):jaC e h ((d,.loadN 2 a,g) :: r)=true:=by
 have hl:h.load b 0 2=some (setV f):=jcP (k.old o).at_ (Nat.le_refl _)
 simp only [jaC,I.read,ha,hl,hd,V.same_refl,kk,Bool.and_true]
 cases wanted e g<;>rfl
theorem chk_1 {d:Nat} {a:Opd} {g:Option (Nat × Bool)} {r:List (Nat × I × Option (Nat × Bool))} {b o:Nat} {l:List V} {ro:Bool} {v:V} (ha:a.ev e=some (.ptr (some (b,o)))) (k:Kc h0 b l ro) (oo:Old h0 h) (hv:l[o]?=some v)
  (hd:e.get d=some v) (kk:jaC e h r=true):jaC e h ((d,.load1 a,g) :: r)=true:=jbi ha (k.old oo).at_ hv hd kk
theorem Ops.eqS {x y:Opd} {f g:Nat->Bool} (hx:x.ev e=some (.agg (setV f))) (hy:y.ev e=some (.agg (setV g))) (he:setV f=setV g) (kk:Ops call fuel base ops keep K (layv e dst (.bool true)) h Q) :
  Ops call fuel base (⟨ix,dst,.eq (.agg [.int .u32,.int .u32]) false x y,none,at_,[]⟩ :: ops) keep K e h Q:=by
 refine Ops.pure rfl ?_ kk
 simp only [I.pure,hx,hy,he,eqOp,cond_false]
 simp [ja4,jhr,setV]
theorem Ops.mkS {x:Opd} {f:Nat->Bool} {d i1 i2:Nat} (hx:x.ev ((d,.p h.nx 0) :: e)=some (.agg (setV f)))
  (kk : ∀ H5,Old h H5->Kc H5 h.nx (setV f) false->H5.nx=h.nx+1->Ops call fuel base ops keep K (layv ((d,.p h.nx 0) :: e) none .undef) H5 Q) :
  Ops call fuel base (⟨i1,some d,.alloc 2 [.int .u32 0,.int .u32 0],none,none,[]⟩ :: ⟨i2,none,.store 2 (.t d) x,none,none,[]⟩ :: ops) keep K e h Q:=by
 refine Ops.make rfl rfl ?_
 refine Ops.storeN (b:=h.nx) (o:=0) (l:=[.int .u32 0,.int .u32 0]) (by simp [layv,Opd.ev,Env.get]) hx rfl rfl (jad _) (Nat.le_of_ble_eq_true rfl) ?_
 rw [jan (setV f) [.int .u32 0,.int .u32 0] rfl]
 exact kk _ ((Old.refl h).new.set (Nat.le_refl _)) ⟨Nat.lt_succ_self _,jab _⟩ rfl
theorem Ops.mk2S {x y:Opd} {f g:Nat->Bool} {d1 d2 i1 i2 i3 i4:Nat} {h8:H} (o:Old h8 h) (hn:h8.nx+2<=h.nx) (h12:d2≠d1) (hx:x.ev ((d2,.p (h8.nx+1) 0) :: (d1,.p (h8.nx+0) 0) :: e)=some (.agg (setV f))) (hy:y.ev ((d2,.p (h8.nx+1) 0) :: (d1,.p (h8.nx+0) 0) :: e)=some (.agg (setV g)))
  (kk : ∀ H5,Old h8 H5->Kc H5 (h8.nx+0) (setV f) false->Kc H5 (h8.nx+1) (setV g) false->H5.nx=h.nx->Ops call fuel h8.nx ops keep K ((d2,.p (h8.nx+1) 0) :: (d1,.p (h8.nx+0) 0) :: e) H5 Q) :
  Ops call fuel h8.nx (⟨i1,some d1,.alloc 2 [.int .u32 0,.int .u32 0],none,some 0,[]⟩ :: ⟨i2,some d2,.alloc 2 [.int .u32 0,.int .u32 0],none,some 1,[]⟩ :: ⟨i3,none,.store 2 (.t d1) x,none,none,[]⟩ :: ⟨i4,none,.store 2 (.t d2) y,none,none,[]⟩ :: ops) keep K e h Q:=by
 have e1:(Opd.t d1).ev ((d2,.p (h8.nx+1) 0) :: (d1,.p (h8.nx+0) 0) :: e)=some (.p (h8.nx+0) 0):=by
  have hb:Nat.beq d2 d1=false:=by
   cases hh:Nat.beq d2 d1
   ·rfl
   ·exact absurd (Nat.eq_of_beq_eq_true hh) h12
  simp [Opd.ev,Env.get,hb]
 refine Ops.make_at rfl rfl (Ops.make_at rfl rfl ?_)
 refine Ops.storeN (b:=h8.nx+0) (o:=0) (l:=[.int .u32 0,.int .u32 0]) e1 hx rfl rfl (by rw [jaa om,jab]) (Nat.le_of_ble_eq_true rfl) ?_
 rw [jan (setV f) [.int .u32 0,.int .u32 0] rfl]
 refine Ops.storeN (b:=h8.nx+1) (o:=0) (l:=[.int .u32 0,.int .u32 0]) (by simp [layv,Opd.ev,Env.get]) hy rfl rfl (by rw [jaa om,jab]) (Nat.le_of_ble_eq_true rfl) ?_
 rw [jan (setV g) [.int .u32 0,.int .u32 0] rfl]
 exact kk _ ((((o.set om).set om).set om).set om) ⟨by show h8.nx+0<h.nx;omega,by rw [jaa om,jab]⟩ ⟨by show h8.nx+1<h.nx;omega,jab _⟩ rfl
theorem Run.region2 {ops:List Ins} {keep:List Nat} (k : ∀ HR,Old h HR->HR.nx=h.nx+2->Ops call fuel h.nx ops keep K e HR Q):Run call fuel (.region 2 ops keep) K e h Q :=
 Run.region (k _ ⟨by simp [H.reserve],fun _ _=>rfl⟩ rfl)
end
end Am
namespace Am.Sigs
open Am Go
theorem jmM {ws:Ws} {a b c d:Nat->Bool} {t:Int} : jbP ws (orS a c) (orS b d) t↔jbP ws a b t\/jbP ws c d t:=by
 constructor
 ·rintro ⟨m,hm,ha,hr⟩
  have:askS a b t m=true\/askS c d t m=true:=by
   revert ha
   simp only [askS,jcf,orS]
   cases a m<;>cases b m<;>cases c m<;>cases d m<;>simp
  rcases this with h | h
  ·exact .inl ⟨m,hm,h,hr⟩
  ·exact .inr ⟨m,hm,h,hr⟩
 ·rintro (⟨m,hm,ha,hr⟩ | ⟨m,hm,ha,hr⟩)<;>refine ⟨m,hm,?_,hr⟩<;>revert ha<;>simp only [askS,jcf,orS]<;>cases a m<;>cases b m<;>cases c m<;>cases d m<;>simp
theorem selErr_or {ws:Ws} {a b c d:Nat->Bool} : jbj ws (orS a c) (orS b d) 64=if jbj ws a b 64=0/\jbj ws c d 64=0 then 0 else 110:=by
 unfold jbj
 rw [if_neg (show ¬ ((64:Int)<0\/(64:Int)<64) by omega)]
 by_cases h1:jbP ws a b 64<;>by_cases h2:jbP ws c d 64<;>simp [jmM,h1,h2]
theorem jnj (ws:Ws) (a c:Nat->Bool) (q:Rdy->Bool) (t:Int):selS ws (orS a c) q t=orS (selS ws a q t) (selS ws c q t):=by
 funext m
 simp only [selS,orS]
 cases a m<;>cases c m<;>simp
theorem jjy {ws:Ws} {a b:Nat->Bool} {q:Rdy->Bool} {T:Int} (h : ∀ i:Nat,i<64->orS a b i=true->(i:Int)<=T):setV (selS ws a q (T+1))=setV (selS ws a q 64):=jaX fun i hi=>by
 have h1:=h i hi
 unfold selS
 by_cases ha:a i=true
 ·have h2:=h1 (by simp [orS,ha])
  rw [decide_eq_true (show (i:Int)<T+1 by omega),decide_eq_true (show (i:Int)<64 by omega)]
 ·simp [ha]
theorem selS_topR {ws:Ws} {a b:Nat->Bool} {q:Rdy->Bool} {T:Int} (h : ∀ i:Nat,i<64->orS a b i=true->(i:Int)<=T):setV (selS ws b q (T+1))=setV (selS ws b q 64) :=
 jjy (a:=b) (b:=a) fun i hi hh=>h i hi (by rw [<- hh];simp [orS,Bool.or_comm])
theorem jkp {f g:Nat->Bool} (h:setV f=setV g):cntS f 64=cntS g 64:=jcs (setV_inj h)
theorem jkq {f:Nat->Bool} : ∀ {n:Nat},(∀ i,i<n->f i=false)->cntS f n=0
 | 0,_=>rfl
 | n+1,h=>by rw [cntS,jkq fun i hi=>h i om,h n om];rfl
theorem jkd (ws:Ws) (a:Nat->Bool) (q:Rdy->Bool) (t:Int):cntS (jke (selS ws a q t) a) 64=0:=jkq fun i _=>by
 unfold jke selS
 cases a i<;>simp
section
variable {cl:Nat->Call} (hcl:Sem cl)
include hcl
theorem jev {d n:Nat} {h H:H} {a:Option (Nat × Nat)} {c:Cap} {L:List UInt8} (hd:4<=d) (hB:BytesAt h a c L) (o:Old h H) (hn:L.length=n) (hl:n<=200) :
  ∃ (sa:Option (Nat × Nat)) (m:Nat) (sc:Cap) (h3 h4:_) (A:Nat->Bool),cl d (.fn F.jc8) [.slice a n c] H=some (.slice sa m sc,h3)/\cl d (.fn F.jcL) [.slice sa m sc] h3=some (.agg (setV A),h4)/\Old H h4:=by
 subst hn
 have b1:=hB.keep (h':=H) o.1 fun j ob hj hh=>by rw [o.2 j hj,hh]
 obtain ⟨sv,h3,e3,r3,o3⟩:=fs_some hcl (d:=d) (h:=H) om b1 om
 have hv3:=(VI.ofRow (l:=L.map fun z=>((z.toNat%64:Nat):Int)) (by simpa using r3)).1
 obtain ⟨h4,e4,o4⟩:=fs_set hcl (d:=d) (h:=h3) om hv3 (fun z hz=>by
  obtain ⟨y,_,rfl⟩:=List.mem_map.1 hz
  exact ⟨by omega,by omega⟩) (by rw [List.length_map];omega)
 obtain ⟨cp,⟨as,rfl⟩,_⟩:=r3.shape
 exact ⟨_,_,_,_,_,_,e3,e4,o3.trans o4⟩
variable {h:H} {w s:Nat} {ow:Nat->Nat} {ws:Ws} {now:Int} {tb:Tb} {no:Option (Nat × Nat)} {f g:Nat->Bool}
theorem jnX {d:Nat} {top:Int} (hd:11<=d) (a:WSt h w s ow ws now tb no) (o:WsOk ws) :
  ∃ (R S:Nat->Bool) (n:Nat) (er:Int) (h':H),cl d (.fn F.jfD) [.p w 0,.i top,.agg (setV f),.agg (setV g)] h=some (.tup [.agg (setV R),.agg (setV S),.i (n:Int),.i er],h')/\Old h h' /\
   Hd (n=cntS R 64+cntS S 64/\er=jbj ws f g top/\(jbj ws f g top=0->R=selS ws f inR top/\S=selS ws g outR top)):=by
 obtain ⟨R,S,h',e,o',r1,_⟩:=jdU hcl hd a o (top:=top) (f:=f) (g:=g)
 exact ⟨R,S,_,_,h',e,o',⟨rfl,rfl,r1⟩⟩
end
end Am.Sigs
namespace Am.Sigs
open Am Go
abbrev jg7:H->Int × List Int × List Int × Unit->List V->Prop:=jcM (jdd .i64) (jcM (jbI 200 (jdd .u8)) (jcM (jbI 200 (jdd .u8)) jlA))
theorem jjk {h:H} {x:Int × List Int × List Int × Unit} {vs:List V} (r:jg7 h x vs) : ∃ a b c e,vs=[.i x.1,.slice a x.2.1.length (.fix c),.slice b x.2.2.1.length (.fix e)]/\(x.2.1.length<=200->BytesAt h a (.fix c) (x.2.1.map jkv))/\(x.2.2.1.length<=200->BytesAt h b (.fix e) (x.2.2.1.map jkv)):=by
 obtain ⟨_,_,rfl,⟨rfl,_⟩,u,_,rfl,r2,u3,w,rfl,r3,hw⟩:=r
 obtain rfl:w=[]:=hw
 obtain ⟨p,q,e1,g1⟩:=r2
 subst e1
 obtain ⟨p',q',e2,g2⟩:=r3
 subst e2
 obtain ⟨a,c,e3,h1⟩:=jjh (u := .slice p x.2.1.length (.fix q)) ⟨p,q,rfl,g1⟩
 obtain ⟨b,e,e4,h2⟩:=jjh (u := .slice p' x.2.2.1.length (.fix q')) ⟨p',q',rfl,g2⟩
 cases e3;cases e4
 exact ⟨_,_,_,_,rfl,h1,h2⟩
section
variable {cl:Nat->Call} (hcl:Sem cl)
theorem jls:ran (jbA prog fuel 30 (.fn F.jc2) [] ⟨204,.lf⟩) (jhC 634)=true:=by kernel_rfl
include hcl
theorem jkF {h0:H} (hnx:h0.nx=203) (hwf : ∀ b,203<=b->h0.get b=none) {l:List (Int × Int × Int × Int × List Int × Unit)} {u1:V} (rl:jbI 200 jm6 h0 l [u1]) {x:Int × List Int × List Int × Unit} {u2:List V} (rx:jg7 h0 x u2) :
  ∃ h',cl 31 (.fn F.jbX) [u1,.agg u2] h0=some (.bool true,h'):=by
 suffices q : ∃ v h',cl 31 (.fn F.jbX) [u1,.agg u2] h0=some (v,h')/\v = .bool true by
  obtain ⟨_,h',e,rfl⟩:=q;exact ⟨h',e⟩
 obtain ⟨a,b,c,e,rfl,hB1,hB2⟩:=jjk rx
 have wf0 : ∀ j,204<=j->(h0.new (.cells [.i x.1,.slice a x.2.1.length (.fix c),.slice b x.2.2.1.length (.fix e)] false)).get j=none:=fun j hj=>by
  rw [H.get_new,if_neg om];exact hwf j om
 obtain ⟨h1,ea,x1,wf1,k1⟩:=jhB hcl jls (h0:=h0.new (.cells [.i x.1,.slice a x.2.1.length (.fix c),.slice b x.2.2.1.length (.fix e)] false)) (by simp [hnx]) wf0 om
 have g0:h1.get h0.nx=some (.cells [.i x.1,.slice a x.2.1.length (.fix c),.slice b x.2.2.1.length (.fix e)] false):=k1 _ _ (jad _)
 refine at_ hcl om rfl rfl rfl ?_
 refine Run.seq (Run.region0 (Ops.make rfl rfl (Ops.mv rfl (Ops.nil qkp (End.seq ?_)))))
 change Run (cl 30) fuel _ _ [(0,u1),(3,.p h0.nx 0)] (h0.new (.cells [.i x.1,.slice a x.2.1.length (.fix c),.slice b x.2.2.1.length (.fix e)] false)) _
 have kk : ∀ j o,h0.get j=some o->h1.get j=some o:=fun j o hj=>k1 j o (by
  rw [H.get_new,if_neg (fun e=>by rw [e,hwf _ om] at hj;cases hj)];exact hj)
 obtain ⟨L,_,hL0⟩:=jiO rl
 have hL:=hL0.keep (h':=h1) om fun j o _ hj=>kk j o hj
 clear rl rx
 by_cases a1:(x.2.1.length:Int)>200
 ·clear hL hL0 hB1 hB2
  refine qx1 ?_
  rfl
 by_cases a2:(x.2.2.1.length:Int)>200
 ·clear hL hL0 hB1 hB2
  refine qx1 ?_
  rfl
 by_cases a3:x.1<0
 ·clear hL hL0 hB1 hB2
  refine qx1 ?_
  rfl
 by_cases a4:x.1>64
 ·clear hL hL0 hB1 hB2
  refine qx1 ?_
  rfl
 obtain ⟨bv,h2,eb,hb⟩:=jox hcl (d:=30) (f:=F.jc1) rfl rfl om hL (by rw [x1];exact wf1)
 rcases hb with ⟨rfl,rfl⟩ | ⟨-,p,w,s,rw,ow,ro,ov,rfl,bx,-,-⟩
 ·clear hL hL0 hB1 hB2
  refine qx1 ?_
  rfl
 have W:=bx.b.W
 have o:=bx.so.K.ok
 have kp:Kc h2 p [.p w 0,.p rw 0] false:=⟨bx.b.lp,bx.b.hp⟩
 have k0:Kc h2 h0.nx [.i x.1,.slice a x.2.1.length (.fix c),.slice b x.2.2.1.length (.fix e)] false:=Kc.old ⟨by omega,g0⟩ bx.old
 have k2 : ∀ j ob,j<h0.nx->h0.get j=some ob->h2.get j=some ob:=fun j ob hj hh=>by
  rw [bx.old.2 j om,kk j ob hh]
 have b1:=(hB1 om).keep (h':=h2) (by have:=bx.old.1;omega) k2
 have b2:=(hB2 om).keep (h':=h2) (by have:=bx.old.1;omega) k2
 have a1 : ¬ (x.2.1.length:Int)>200:=a1
 clear hL hL0 hB1 hB2 k2 kk wf1 wf0 hwf k1
 have of2:=Old.refl h2
 obtain ⟨sa,sm,sc,h3,h4,A,e3,e4,o4⟩:=jev hcl (d:=30) om b1 of2 (by rw [List.length_map]) om
 have og3:=of2
 refine qz1 ?_
 refine Ops.mkS rfl fun H5 oA kA xA=>?_
 have o25:=o4.trans oA
 replace kp:=kp.old o25
 replace k0:=k0.old o25
 obtain ⟨sa',sm',sc',h6,h7,B,e6,e7,o7⟩:=jev hcl (d:=30) om b2 o25 (by rw [List.length_map]) om
 clear e3 e4 oA of2 og3 b1 g0 ea eb
 have of5:=Old.refl H5
 refine qz1 ?_
 refine Ops.mkS rfl fun H8 oB kB xB=>?_
 have o58:=o7.trans oB
 replace kp:=kp.old o58
 replace k0:=k0.old o58
 replace kA:=kA.old o58
 clear e6 e7 oB of5 b2
 have o28:=o25.trans o58
 have of8:=Old.refl H8
 refine qz1 ?_
 refine Run.region2 fun HR oR xR=>?_
 obtain ⟨R,S,n1,er1,h9,e9,o9,r1⟩:=jnX hcl (d:=30) (top:=64) (f:=A) (g:=B) (h:=HR) om ((W.old o28).old oR) o
 clear of8
 refine qz1 ?_
 refine Ops.mk2S (oR.trans o9) (by have:=o9.1;omega) (by decide) rfl rfl fun H10 oX kR kS xX=>?_
 replace kp:=kp.old oX
 replace k0:=k0.old oX
 replace kA:=kA.old oX
 replace kB:=kB.old oX
 have o2X:=o28.trans oX
 clear e9 oR o9 oX o58 o25 o28
 have ofX:=Old.refl H10
 refine qz1 ?_
 refine Run.region2 fun HR2 oR2 xR2=>?_
 obtain ⟨T,U,n2,er2,h11,e11,o11,r3⟩:=jnX hcl (d:=30) (top:=x.1) (f:=A) (g:=B) (h:=HR2) om ((W.old o2X).old oR2) o
 clear ofX
 refine qz1 ?_
 refine Ops.mk2S (oR2.trans o11) (by have:=o11.1;omega) (by decide) rfl rfl fun H12 oY kT kU xY=>?_
 replace k0:=k0.old oY
 replace kR:=kR.old oY
 replace kS:=kS.old oY
 clear e11 oR2 o11 oY kA kB kp o2X
 have ofY:=Old.refl H12
 obtain ⟨c1,c2,c3⟩:=r1.g
 obtain ⟨c4,c5,c6⟩:=r3.g
 rcases jgS (runS L st0).ws A B with z64 | z64
 ·have zt:=jgb (ws:=(runS L st0).ws) (f:=A) (g:=B) (top:=x.1) om om z64
  obtain ⟨rfl,rfl⟩:=c3 z64
  obtain ⟨rfl,rfl⟩:=c6 zt
  obtain rfl:er1=0:=by rw [c2,z64]
  obtain rfl:er2=0:=by rw [c5,zt]
  have eT:=jib (runS L st0).ws A inR x.1
  have eU:=jib (runS L st0).ws B outR x.1
  have lT:=jnk (ws:=(runS L st0).ws) (F:=A) (q:=inR) (top:=x.1) om
  have lU:=jnk (ws:=(runS L st0).ws) (F:=B) (q:=outR) (top:=x.1) om
  have mT:=jcd (selS (runS L st0).ws A inR x.1) 64
  have mU:=jcd (selS (runS L st0).ws B outR x.1) 64
  clear r1 r3 c2 c3 c5 c6 z64 zt W bx o
  generalize selS (runS L st0).ws A inR x.1=T at *
  generalize selS (runS L st0).ws B outR x.1=U at *
  generalize selS (runS L st0).ws A inR 64=R at *
  generalize selS (runS L st0).ws B outR 64=S at *
  obtain ⟨h13,e13,o13⟩:=jiW hcl (d:=30) (f:=R) (n:=x.1) (h:=H12) om
  obtain ⟨h14,e14,o14⟩:=jiW hcl (d:=30) (f:=S) (n:=x.1) (h:=h13) om
  obtain ⟨h15,e15,o15⟩:=jin hcl (d:=30) (f:=T) (h:=h14) om
  obtain ⟨h16,e16,o16⟩:=jin hcl (d:=30) (f:=U) (h:=h15) om
  replace o14:=o13.trans o14
  replace o15:=o14.trans o15
  replace o16:=o15.trans o16
  generalize cntS T 64=nT at *
  generalize cntS U 64=nU at *
  generalize cntS R 64=nR at *
  generalize cntS S 64=nS at *
  refine qz1 ?_
  exact congrArg V.bool (decide_eq_true om)
 ·obtain rfl:er1=110:=by rw [c2,z64]
  clear c1 c4 c2 c3 c6 z64 r1 r3 W bx o
  rcases jmi (runS L st0).ws A B (top:=x.1) om om with zt | zt
  ·obtain rfl:er2=0:=by rw [c5,zt]
   clear c5 zt
   refine qz1 ?_
   rfl
  ·obtain rfl:er2=110:=by rw [c5,zt]
   clear c5 zt
   refine qz1 ?_
   rfl
end
end Am.Sigs
namespace Am.Sigs
open Am Go
section
variable {cl:Nat->Call} (hcl:Sem cl)
theorem jlr:ran (jbA prog fuel 30 (.fn F.jc2) [] ⟨207,.lf⟩) (jhC 637)=true:=by kernel_rfl
include hcl
theorem jkC {h0:H} (hnx:h0.nx=205) (hwf : ∀ b,205<=b->h0.get b=none) {l:List (Int × Int × Int × Int × List Int × Unit)} {u1:V} (rl:jbI 200 jm6 h0 l [u1]) {x:Int × List Int × List Int × Unit} {u2:List V} (rx:jg7 h0 x u2) {y:Int × List Int × List Int × Unit} {u3:List V} (ry:jg7 h0 y u3) :
  ∃ h',cl 31 (.fn F.jbW) [u1,.agg u2,.agg u3] h0=some (.bool true,h'):=by
 suffices q : ∃ v h',cl 31 (.fn F.jbW) [u1,.agg u2,.agg u3] h0=some (v,h')/\v = .bool true by
  obtain ⟨_,h',e,rfl⟩:=q;exact ⟨h',e⟩
 obtain ⟨a,b,c,e,rfl,hB1,hB2⟩:=jjk rx
 obtain ⟨a',b',c',e',rfl,hB3,hB4⟩:=jjk ry
 have wf0 : ∀ j,207<=j->((h0.new (.cells [.i x.1,.slice a x.2.1.length (.fix c),.slice b x.2.2.1.length (.fix e)] false)).new (.cells [.i y.1,.slice a' y.2.1.length (.fix c'),.slice b' y.2.2.1.length (.fix e')] false)).get j=none:=fun j hj=>by
  rw [H.get_new,if_neg (by simp;omega),H.get_new,if_neg om];exact hwf j om
 obtain ⟨h1,ea,x1,wf1,k1⟩:=jhB hcl jlr (h0:=(h0.new (.cells [.i x.1,.slice a x.2.1.length (.fix c),.slice b x.2.2.1.length (.fix e)] false)).new (.cells [.i y.1,.slice a' y.2.1.length (.fix c'),.slice b' y.2.2.1.length (.fix e')] false)) (by simp [hnx]) wf0 om
 have g0:h1.get h0.nx=some (.cells [.i x.1,.slice a x.2.1.length (.fix c),.slice b x.2.2.1.length (.fix e)] false):=k1 _ _ qgt
 have g1:h1.get (h0.nx+1)=some (.cells [.i y.1,.slice a' y.2.1.length (.fix c'),.slice b' y.2.2.1.length (.fix e')] false):=k1 _ _ qgt
 refine at_ hcl om rfl rfl rfl ?_
 refine Run.seq (Run.region0 (Ops.make rfl rfl (Ops.make rfl rfl (Ops.mv rfl (Ops.nil qkp (End.seq ?_))))))
 change Run (cl 30) fuel _ _ [(0,u1),(4,.p h0.nx 0),(5,.p (h0.nx+1) 0)] ((h0.new (.cells [.i x.1,.slice a x.2.1.length (.fix c),.slice b x.2.2.1.length (.fix e)] false)).new (.cells [.i y.1,.slice a' y.2.1.length (.fix c'),.slice b' y.2.2.1.length (.fix e')] false)) _
 have kk : ∀ j o,h0.get j=some o->h1.get j=some o:=fun j o hj=>k1 j o (by
  have hl:j<h0.nx:=by
   rcases Nat.lt_or_ge j 205 with h | h
   ·omega
   ·rw [hwf _ h] at hj;cases hj
  rw [H.get_new,if_neg (by simp;omega),H.get_new,if_neg om];exact hj)
 obtain ⟨L,_,hL0⟩:=jiO rl
 have hL:=hL0.keep (h':=h1) om fun j o _ hj=>kk j o hj
 clear rl rx ry
 by_cases a1:(x.2.1.length:Int)>200
 ·clear hL hL0 hB1 hB2 hB3 hB4
  refine qx1 ?_
  rfl
 by_cases a2:(x.2.2.1.length:Int)>200
 ·clear hL hL0 hB1 hB2 hB3 hB4
  refine qx1 ?_
  rfl
 by_cases a3:(y.2.1.length:Int)>200
 ·clear hL hL0 hB1 hB2 hB3 hB4
  refine qx1 ?_
  rfl
 by_cases a4:(y.2.2.1.length:Int)>200
 ·clear hL hL0 hB1 hB2 hB3 hB4
  refine qx1 ?_
  rfl
 obtain ⟨bv,h2,eb,hb⟩:=jox hcl (d:=30) (f:=F.jc1) rfl rfl om hL (by rw [x1];exact wf1)
 rcases hb with ⟨rfl,rfl⟩ | ⟨-,p,w,s,rw,ow,ro,ov,rfl,bx,-,-⟩
 ·clear hL hL0 hB1 hB2 hB3 hB4
  refine qx1 ?_
  rfl
 have W:=bx.b.W
 have o:=bx.so.K.ok
 have kp:Kc h2 p [.p w 0,.p rw 0] false:=⟨bx.b.lp,bx.b.hp⟩
 have kx:Kc h2 h0.nx [.i x.1,.slice a x.2.1.length (.fix c),.slice b x.2.2.1.length (.fix e)] false:=Kc.old ⟨by omega,g0⟩ bx.old
 have ky:Kc h2 (h0.nx+1) [.i y.1,.slice a' y.2.1.length (.fix c'),.slice b' y.2.2.1.length (.fix e')] false:=Kc.old ⟨by omega,g1⟩ bx.old
 have k2 : ∀ j ob,j<h0.nx->h0.get j=some ob->h2.get j=some ob:=fun j ob hj hh=>by
  rw [bx.old.2 j om,kk j ob hh]
 have b1:=(hB1 om).keep (h':=h2) (by have:=bx.old.1;omega) k2
 have b2:=(hB2 om).keep (h':=h2) (by have:=bx.old.1;omega) k2
 have b3:=(hB3 om).keep (h':=h2) (by have:=bx.old.1;omega) k2
 have b4:=(hB4 om).keep (h':=h2) (by have:=bx.old.1;omega) k2
 clear hL hL0 hB1 hB2 hB3 hB4 k2 kk wf1 wf0 hwf k1
 have of:=Old.refl h2
 obtain ⟨saA,smA,scA,hA3,hA4,A,eA3,eA4,oA4⟩:=jev hcl (d:=30) om b1 of (by rw [List.length_map]) om
 refine qz1 ?_
 refine Ops.mkS rfl fun HA oA kA xA=>?_
 replace oA:=oA4.trans oA
 replace kp:=kp.old oA
 replace kx:=kx.old oA
 replace ky:=ky.old oA
 have ot:=oA
 replace of:=Old.refl HA
 clear eA3 eA4 oA oA4
 obtain ⟨saB,smB,scB,hB3,hB4,B,eB3,eB4,oB4⟩:=jev hcl (d:=30) om b2 ot (by rw [List.length_map]) om
 refine qz1 ?_
 refine Ops.mkS rfl fun HB oB kB xB=>?_
 replace oB:=oB4.trans oB
 replace kp:=kp.old oB
 replace kx:=kx.old oB
 replace ky:=ky.old oB
 replace kA:=kA.old oB
 replace ot:=ot.trans oB
 replace of:=Old.refl HB
 clear eB3 eB4 oB oB4
 obtain ⟨saC,smC,scC,hC3,hC4,C,eC3,eC4,oC4⟩:=jev hcl (d:=30) om b3 ot (by rw [List.length_map]) om
 refine qz1 ?_
 refine Ops.mkS rfl fun HC oC kC xC=>?_
 replace oC:=oC4.trans oC
 replace kp:=kp.old oC
 replace kx:=kx.old oC
 replace ky:=ky.old oC
 replace kA:=kA.old oC
 replace kB:=kB.old oC
 replace ot:=ot.trans oC
 replace of:=Old.refl HC
 clear eC3 eC4 oC oC4
 obtain ⟨saD,smD,scD,hD3,hD4,D,eD3,eD4,oD4⟩:=jev hcl (d:=30) om b4 ot (by rw [List.length_map]) om
 refine qz1 ?_
 refine Ops.mkS rfl fun HD oD kD xD=>?_
 replace oD:=oD4.trans oD
 replace kp:=kp.old oD
 replace kx:=kx.old oD
 replace ky:=ky.old oD
 replace kA:=kA.old oD
 replace kB:=kB.old oD
 replace kC:=kC.old oD
 replace ot:=ot.trans oD
 replace of:=Old.refl HD
 clear eD3 eD4 oD oD4
 clear b1 b2 b3 b4 kx ky g0 g1 ea eb
 refine qz1 ?_
 refine Run.region2 fun HR1 oR1 xR1=>?_
 obtain ⟨R,S,h91,e91,o91,r1a,r1b⟩:=jdU hcl (d:=30) (top:=64) (f:=A) (g:=B) (h:=HR1) om ((W.old ot).old oR1) o
 have v9:=o91.1
 replace o91:=oR1.trans o91
 refine qz1 ?_
 refine Ops.mk2S o91 om (by decide) rfl rfl fun HX1 oX1 kR kS xX1=>?_
 replace kp:=kp.old oX1
 replace kA:=kA.old oX1
 replace kB:=kB.old oX1
 replace kC:=kC.old oX1
 replace kD:=kD.old oX1
 replace ot:=ot.trans oX1
 replace of:=Old.refl HX1
 clear e91 o91 oX1 oR1
 refine qz1 ?_
 refine Run.region2 fun HR2 oR2 xR2=>?_
 obtain ⟨T,U,h92,e92,o92,r2a,r2b⟩:=jdU hcl (d:=30) (top:=64) (f:=C) (g:=D) (h:=HR2) om ((W.old ot).old oR2) o
 have v9:=o92.1
 replace o92:=oR2.trans o92
 refine qz1 ?_
 refine Ops.mk2S o92 om (by decide) rfl rfl fun HX2 oX2 kT kU xX2=>?_
 replace kp:=kp.old oX2
 replace kA:=kA.old oX2
 replace kB:=kB.old oX2
 replace kC:=kC.old oX2
 replace kD:=kD.old oX2
 replace kR:=kR.old oX2
 replace kS:=kS.old oX2
 replace ot:=ot.trans oX2
 replace of:=Old.refl HX2
 clear e92 o92 oX2 oR2
 refine qz1 ?_
 refine Run.region2 fun HR3 oR3 xR3=>?_
 obtain ⟨p1,q1,oP1⟩:=jkj hcl (d:=30) (f:=A) (g:=C) (h:=HR3) om
 have v1:=oP1.1
 replace oP1:=oR3.trans oP1
 obtain ⟨p2,q2,oP2⟩:=jkj hcl (d:=30) (f:=B) (g:=D) (h:=p1) om
 have v2:=oP2.1
 replace oP2:=oP1.trans oP2
 obtain ⟨X,Y,h93,e93,o93,r3a,r3b⟩:=jdU hcl (d:=30) (top:=64) (f:=orS A C) (g:=orS B D) (h:=p2) om ((W.old ot).old oP2) o
 have v9:=o93.1
 replace o93:=oP2.trans o93
 refine qz1 ?_
 refine Ops.mk2S o93 om (by decide) rfl rfl fun HX3 oX3 kX kY xX3=>?_
 replace kp:=kp.old oX3
 replace kA:=kA.old oX3
 replace kB:=kB.old oX3
 replace kC:=kC.old oX3
 replace kD:=kD.old oX3
 replace kR:=kR.old oX3
 replace kS:=kS.old oX3
 replace kT:=kT.old oX3
 replace kU:=kU.old oX3
 replace ot:=ot.trans oX3
 replace of:=Old.refl HX3
 clear e93 o93 oX3 oR3 q1 oP1 q2 oP2
 have z1:=jgS (runS L st0).ws A B
 have z2:=jgS (runS L st0).ws C D
 have z3:jbj (runS L st0).ws (orS A C) (orS B D) 64=_:=selErr_or
 by_cases w1:jbj (runS L st0).ws A B 64=0
 case neg=>
  rw [if_neg (fun e=>w1 e.1)] at z3
  rw [z3]
  clear r1a r1b r2a r2b r3a r3b W bx o z1 z2 z3 kp kA kB kC kD kR kS kT kU kX kY
  generalize jbj (runS L st0).ws A B 64=q1 at *
  refine qz1 ?_
  rfl
 by_cases w2:jbj (runS L st0).ws C D 64=0
 case neg=>
  rw [if_neg (fun e=>w2 e.2)] at z3
  rw [w1,z3]
  clear r1a r1b r2a r2b r3a r3b W bx o z1 z2 z3 kp kA kB kC kD kR kS kT kU kX kY w1
  generalize jbj (runS L st0).ws C D 64=q1 at *
  refine qz1 ?_
  rfl
 rw [if_pos ⟨w1,w2⟩] at z3
 rw [w1,w2,z3]
 obtain ⟨rfl,rfl⟩:=r1a w1
 obtain ⟨rfl,rfl⟩:=r2a w2
 obtain ⟨rfl,rfl⟩:=r3a z3
 clear r1a r1b r2a r2b r3a r3b z1 z2
 refine qz1 ?_
 refine Run.region2 fun HR4 oR4 xR4=>?_
 obtain ⟨tp,p1,q1,oP1,t1,t2,t3,_⟩:=sl_Top hcl (d:=30) (f:=A) (g:=B) (h:=HR4) om
 have v1:=oP1.1
 replace oP1:=oR4.trans oP1
 obtain ⟨V1,V2,h94,e94,o94,r4a,r4b⟩:=jdU hcl (d:=30) (top:=tp+1) (f:=A) (g:=B) (h:=p1) om ((W.old ot).old oP1) o
 have v9:=o94.1
 replace o94:=oP1.trans o94
 refine qz1 ?_
 refine Ops.mk2S o94 om (by decide) rfl rfl fun HX4 oX4 kV1 kV2 xX4=>?_
 replace kp:=kp.old oX4
 replace kA:=kA.old oX4
 replace kB:=kB.old oX4
 replace kC:=kC.old oX4
 replace kD:=kD.old oX4
 replace kR:=kR.old oX4
 replace kS:=kS.old oX4
 replace kT:=kT.old oX4
 replace kU:=kU.old oX4
 replace kX:=kX.old oX4
 replace kY:=kY.old oX4
 replace ot:=ot.trans oX4
 replace of:=Old.refl HX4
 clear e94 o94 oX4 oR4 q1 oP1
 have w4:=jgb (ws:=(runS L st0).ws) (f:=A) (g:=B) (top:=tp+1) om om w1
 obtain ⟨rfl,rfl⟩:=r4a w4
 rw [w4]
 have s1:=jjy (ws:=(runS L st0).ws) (a:=A) (b:=B) (q:=inR) t3
 have s2:=selS_topR (ws:=(runS L st0).ws) (a:=A) (b:=B) (q:=outR) t3
 have s3:=congrArg setV (jnj (runS L st0).ws A C inR 64)
 have s4:=congrArg setV (jnj (runS L st0).ws B D outR 64)
 have n1:=jkp s1
 have n2:=jkp s2
 have n3:=jkd (runS L st0).ws (orS A C) inR 64
 have n4:=jkd (runS L st0).ws (orS B D) outR 64
 clear r4a r4b w1 w2 w4 z3 t1 t2 t3 W bx o kp ot
 generalize selS (runS L st0).ws A inR (tp+1)=V1 at *
 generalize selS (runS L st0).ws B outR (tp+1)=V2 at *
 generalize selS (runS L st0).ws A inR 64=R at *
 generalize selS (runS L st0).ws B outR 64=S at *
 generalize selS (runS L st0).ws C inR 64=T at *
 generalize selS (runS L st0).ws D outR 64=U at *
 generalize selS (runS L st0).ws (orS A C) inR 64=X at *
 generalize selS (runS L st0).ws (orS B D) outR 64=Y at *
 have m1:=jcd X 64
 have m2:=jcd Y 64
 obtain ⟨g0,f0,u0⟩:=jkj hcl (d:=30) (f:=R) (g:=T) (h:=HX4) om
 obtain ⟨g1,f1,u1⟩:=jkj hcl (d:=30) (f:=S) (g:=U) (h:=g0) om
 replace u1:=u0.trans u1
 obtain ⟨g2,f2,u2⟩:=jin hcl (d:=30) (f:=X) (h:=g1) om
 replace u2:=u1.trans u2
 obtain ⟨g3,f3,u3⟩:=jin hcl (d:=30) (f:=Y) (h:=g2) om
 replace u3:=u2.trans u3
 obtain ⟨g4,f4,u4⟩:=jkj hcl (d:=30) (f:=A) (g:=C) (h:=g3) om
 replace u4:=u3.trans u4
 obtain ⟨g5,f5,u5⟩:=jn7 hcl (d:=30) (f:=X) (g:=orS A C) (h:=g4) om
 replace u5:=u4.trans u5
 obtain ⟨g6,f6,u6⟩:=jin hcl (d:=30) (f:=jke X (orS A C)) (h:=g5) om
 replace u6:=u5.trans u6
 obtain ⟨g7,f7,u7⟩:=jkj hcl (d:=30) (f:=B) (g:=D) (h:=g6) om
 replace u7:=u6.trans u7
 obtain ⟨g8,f8,u8⟩:=jn7 hcl (d:=30) (f:=Y) (g:=orS B D) (h:=g7) om
 replace u8:=u7.trans u8
 obtain ⟨g9,f9,u9⟩:=jin hcl (d:=30) (f:=jke Y (orS B D)) (h:=g8) om
 replace u9:=u8.trans u9
 rw [n3] at f6
 rw [n4] at f9
 refine qz1 ?_
 exact congrArg V.bool (decide_eq_true rfl)
end
end Am.Sigs
