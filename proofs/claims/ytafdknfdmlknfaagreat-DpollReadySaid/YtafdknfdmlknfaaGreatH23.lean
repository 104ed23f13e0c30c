/- Our own library, part 23. -/
import Derived.Test.YtafdknfdmlknfaaGreatH22
import Derived.Test.YtafdknfdmlknfaaGreatH20
import Derived.Test.YtafdknfdmlknfaaGreatH21
import Derived.Test.YtafdknfdmlknfaaGreatH15
set_option maxHeartbeats 8000000
set_option maxRecDepth 800
set_option linter.all false
namespace Am.Sigs
open Am Go
noncomputable def selS (ws:Ws) (F:Nat->Bool) (q:Rdy->Bool) (top:Int):Nat->Bool:=fun m=>F m&&decide ((m:Int)<top)&&q (rdyS ws (m:Int))
noncomputable def selK (ws:Ws) (F:Nat->Bool) (q:Rdy->Bool) (top:Int) (k:Nat):Nat->Bool:=fun m=>decide (m<k)&&selS ws F q top m
open Classical in
noncomputable def jch (ws:Ws) (f g:Nat->Bool) (top:Int):Int:=if top<0\/64<top then 2 else if jey ws f g top then 110 else 0
theorem jo7 (ws:Ws) (F:Nat->Bool) (q:Rdy->Bool) (top:Int):setV (selK ws F q top 0)=[.int .u32 0,.int .u32 0]:=by
 rw [<- jfx];exact jbv fun i _=>by simp [selK]
theorem selK_64 (ws:Ws) (F:Nat->Bool) (q:Rdy->Bool) (top:Int):setV (selK ws F q top 64)=setV (selS ws F q top):=jbv fun i hi=>by simp [selK,hi]
theorem jiM {ws:Ws} {F:Nat->Bool} {q:Rdy->Bool} {top:Int} {k:Nat} (hk:selS ws F q top k=false):setV (selK ws F q top (k+1))=setV (selK ws F q top k):=jbv fun i _=>by
 unfold selK
 by_cases e:i=k
 ·rw [e,hk];simp
 ·rw [show decide (i<k+1)=decide (i<k) by simp;omega]
theorem jlC {ws:Ws} {F:Nat->Bool} {q:Rdy->Bool} {top:Int} {k:Nat} (hk:selS ws F q top k=true) (h64:k<64):setV (selK ws F q top (k+1))=setV (jcU (selK ws F q top k) (k:Int)):=jbv fun i _=>by
 rw [jcU,zG (show fitS (k:Int) from ⟨by omega,by omega⟩),zz]
 unfold selK addS
 by_cases e:i=k
 ·rw [e,hk];simp
 ·rw [show decide (i<k+1)=decide (i<k) by simp;omega];simp [e]
theorem selS_not {ws:Ws} {f g:Nat->Bool} {top:Int} {m:Nat} (hk:askS f g top m=false):selS ws f inR top m=false/\selS ws g outR top m=false:=by
 simp only [askS,jdf,orS,Bool.and_eq_false_iff,Bool.or_eq_false_iff] at hk
 unfold selS
 rcases hk with ⟨a,b⟩ | c
 ·simp [a,b]
 ·simp [c]
theorem selS_is {ws:Ws} {f g:Nat->Bool} {top:Int} {m:Nat} (hk:askS f g top m=true):selS ws f inR top m=(f m&&inR (rdyS ws (m:Int)))/\selS ws g outR top m=(g m&&outR (rdyS ws (m:Int))):=by
 simp only [askS,jdf,zq] at hk
 unfold selS
 rw [hk.2];simp
theorem and_mask (a b c d:Bool):IntKind.i64.wrap ((BitVec.ofInt 64 ((if a then 2 else 0)+(if b then 4 else 0)) &&& BitVec.ofInt 64 ((if c then 2 else 0)+(if d then 4 else 0))).toNat:Int)=(if a&&c then 2 else 0)+(if b&&d then 4 else 0):=by
 cases a<;>cases b<;>cases c<;>cases d<;>decide
section
variable {cl:Nat->Call} (hcl:Sem cl) {h:H}
include hcl
variable {w s:Nat} {ow:Nat->Nat} {ws:Ws} {now:Int} {tb:Tb} {no:Option (Nat × Nat)} {f g:Nat->Bool}
omit hcl in
theorem jkJ {d fuel b3 b4 b5:Nat} {H9:H} {vr vs:List V} {n er:Int} {Q:V->H->Prop} (k3:H9.get b3=some (.cells vr false)) (k4:H9.get b4=some (.cells vs false)) (k5:H9.get b5=some (.cells [.i n] false))
  (lr:vr.length=2) (ls:vs.length=2) (q:Q (.tup [.agg vr,.agg vs,.i n,.i er]) H9):End (cl d) fuel [] .ret [(8,.p b3 0),(9,.p b4 0),(10,.p b5 0),(11,.i er)] H9 (Fin c180.res Q):=by
 have e3 : ∀ v:List V,v.length=2->List.take 2 (List.drop 0 v)=v:=fun v hv=>by rw [zl,zh om]
 have r5:jdv [(8,.p b3 0),(9,.p b4 0),(10,.p b5 0),(11,.i er)] H9 [.cell1 10,.tmp 11]=some [.i n,.i er]:=by
  show (match H9.load1 b5 0,some [V.i er] with | some v,some l=>some (v :: l) | _,_=>none)=_
  rw [jcQ k5 rfl]
 have r3:=resN (e:=[(8,.p b3 0),(9,.p b4 0),(10,.p b5 0),(11,.i er)]) (s:=8) (n:=2) rfl k3 om (resN (s:=9) (n:=2) rfl k4 om r5)
 rw [e3 vr lr,e3 vs ls] at r3
 exact End.fin2 r3 q
theorem jjA {d:Nat} {top:Int} (hd:11<=d) (a:WSt h w s ow ws now tb no) (o:WsOk ws) :
  ∃ (R S:Nat->Bool) (h':H),cl d (.fn 180) [.p w 0,.i top,.agg (setV f),.agg (setV g)] h=some (.tup [.agg (setV R),.agg (setV S),.i ((cntS R 64+cntS S 64:Nat):Int),.i (jch ws f g top)],h')/\Old h h' /\
   (jch ws f g top=0->R=selS ws f inR top/\S=selS ws g outR top)/\(jch ws f g top≠0->R=(fun _=>false)/\S=(fun _=>false)):=by
 suffices q : ∃ v' h',cl d (.fn 180) [.p w 0,.i top,.agg (setV f),.agg (setV g)] h=some (v',h')/\Old h h' /\ ∃ vr vs n,v' = .tup [.agg vr,.agg vs,.i n,.i (jch ws f g top)] /\
   (jch ws f g top=0->vr=setV (selS ws f inR top)/\vs=setV (selS ws g outR top)/\n=((cntS (selS ws f inR top) 64+cntS (selS ws g outR top) 64:Nat):Int))/\(jch ws f g top≠0->vr=[.int .u32 0,.int .u32 0]/\vs=[.int .u32 0,.int .u32 0]/\n=0) by
  obtain ⟨_,h',e,og,vr,vs,n,rfl,q1,q2⟩:=q
  by_cases hz:jch ws f g top=0
  ·obtain ⟨rfl,rfl,rfl⟩:=q1 hz
   exact ⟨_,_,h',e,og,fun _=>⟨rfl,rfl⟩,fun h=>zM hz h⟩
  ·obtain ⟨rfl,rfl,rfl⟩:=q2 hz
   refine ⟨fun _=>false,fun _=>false,h',?_,og,fun h=>zM h hz,fun _=>⟨rfl,rfl⟩⟩
   rw [jfx,show cntS (fun _=>false) 64=0 from rfl];exact e
 have oH:Old h ((((((h.new (.cells [.p w 0] false)).new (.cells (setV f) false)).new (.cells (setV g) false)).new (.cells [.int .u32 0,.int .u32 0] false)).new (.cells [.int .u32 0,.int .u32 0] false)).new (.cells [.i 0] false)):=(ZD h).new.new.new.new.new.new
 have b0:((((((h.new (.cells [.p w 0] false)).new (.cells (setV f) false)).new (.cells (setV g) false)).new (.cells [.int .u32 0,.int .u32 0] false)).new (.cells [.int .u32 0,.int .u32 0] false)).new (.cells [.i 0] false)).get h.nx=some (.cells [.p w 0] false):=qgt
 have b1:((((((h.new (.cells [.p w 0] false)).new (.cells (setV f) false)).new (.cells (setV g) false)).new (.cells [.int .u32 0,.int .u32 0] false)).new (.cells [.int .u32 0,.int .u32 0] false)).new (.cells [.i 0] false)).get (h.nx+1)=some (.cells (setV f) false):=qgt
 have b2:((((((h.new (.cells [.p w 0] false)).new (.cells (setV f) false)).new (.cells (setV g) false)).new (.cells [.int .u32 0,.int .u32 0] false)).new (.cells [.int .u32 0,.int .u32 0] false)).new (.cells [.i 0] false)).get (h.nx+2)=some (.cells (setV g) false):=qgt
 have b3:((((((h.new (.cells [.p w 0] false)).new (.cells (setV f) false)).new (.cells (setV g) false)).new (.cells [.int .u32 0,.int .u32 0] false)).new (.cells [.int .u32 0,.int .u32 0] false)).new (.cells [.i 0] false)).get (h.nx+3)=some (.cells [.int .u32 0,.int .u32 0] false):=qgt
 have b4:((((((h.new (.cells [.p w 0] false)).new (.cells (setV f) false)).new (.cells (setV g) false)).new (.cells [.int .u32 0,.int .u32 0] false)).new (.cells [.int .u32 0,.int .u32 0] false)).new (.cells [.i 0] false)).get (h.nx+4)=some (.cells [.int .u32 0,.int .u32 0] false):=qgt
 have b5:((((((h.new (.cells [.p w 0] false)).new (.cells (setV f) false)).new (.cells (setV g) false)).new (.cells [.int .u32 0,.int .u32 0] false)).new (.cells [.int .u32 0,.int .u32 0] false)).new (.cells [.i 0] false)).get (h.nx+5)=some (.cells [.i 0] false):=qgt
 have x1:((((((h.new (.cells [.p w 0] false)).new (.cells (setV f) false)).new (.cells (setV g) false)).new (.cells [.int .u32 0,.int .u32 0] false)).new (.cells [.int .u32 0,.int .u32 0] false)).new (.cells [.i 0] false)).nx=h.nx+6:=rfl
 refine aT hcl ?_
 refine zab (zac (zcu rfl rfl (zcu rfl rfl (zcu rfl rfl (zcu rfl rfl (zcu rfl rfl (zcu rfl rfl (Ops.mv rfl (Ops.nil qkp (End.seq ?_))))))))))
 change Run (cl (d-1)) fuel _ _ [(1,.i top),(4,.p h.nx 0),(6,.p (h.nx+1) 0),(7,.p (h.nx+2) 0),(8,.p (h.nx+3) 0),(9,.p (h.nx+4) 0),(10,.p (h.nx+5) 0)] ((((((h.new (.cells [.p w 0] false)).new (.cells (setV f) false)).new (.cells (setV g) false)).new (.cells [.int .u32 0,.int .u32 0] false)).new (.cells [.int .u32 0,.int .u32 0] false)).new (.cells [.i 0] false)) _
 generalize (((((h.new (.cells [.p w 0] false)).new (.cells (setV f) false)).new (.cells (setV g) false)).new (.cells [.int .u32 0,.int .u32 0] false)).new (.cells [.int .u32 0,.int .u32 0] false)).new (.cells [.i 0] false)=H0 at oH b0 b1 b2 b3 b4 b5 x1 ⊢
 have ax:=a.old oH
 have hx1:=oH.1
 refine zab ?_
 by_cases ht:top<0\/64<top
 ·have he:jch ws f g top=2:=zG ht
  rw [he]
  clear a ax o he
  have ht2:top<0\/(¬ top<0/\64<top):=by omega
  rcases ht2 with h1 | ⟨h1,h2⟩
  all_goals
   repeat' (first|refine qxy ?_|(refine zsp ?_ ?_<;>intro _)|fail)
   refine zcw rfl b3 (zw rfl) ?_
   refine zcw rfl b4 (zw rfl) ?_
   refine Ops.storeN_chk (b:=h.nx+3) (o:=0) (vs:=[.int .u32 0,.int .u32 0]) rfl rfl rfl rfl b3 (zw rfl) ?_ ?_
   ·exact jcJ (b:=h.nx+4) (o:=0) (l:=[.int .u32 0,.int .u32 0]) (ro:=false) rfl (by rw [jaa om];exact b4) (zw rfl) rfl rfl jbn
   refine zct (b:=h.nx+4) (o:=0) (vs:=[.int .u32 0,.int .u32 0]) rfl rfl rfl rfl (by rw [jaa om];exact b4) (zw rfl) ?_
   repeat' (first|refine qxy ?_|(refine zsp ?_ ?_<;>intro _)|fail)
   refine zcs (b:=h.nx+5) (o:=0) (l:=[.i 0]) rfl rfl rfl (by rw [jaa om,jaa om];exact b5) zP ?_
   have k3:(((H0.set (h.nx+3) (.cells [.int .u32 0,.int .u32 0] false)).set (h.nx+4) (.cells [.int .u32 0,.int .u32 0] false)).set (h.nx+5) (.cells [.i 0] false)).get (h.nx+3)=some (.cells [.int .u32 0,.int .u32 0] false):=by rw [jaa om,jaa om,jab]
   have k4:(((H0.set (h.nx+3) (.cells [.int .u32 0,.int .u32 0] false)).set (h.nx+4) (.cells [.int .u32 0,.int .u32 0] false)).set (h.nx+5) (.cells [.i 0] false)).get (h.nx+4)=some (.cells [.int .u32 0,.int .u32 0] false):=by rw [jaa om,jab]
   have k5:(((H0.set (h.nx+3) (.cells [.int .u32 0,.int .u32 0] false)).set (h.nx+4) (.cells [.int .u32 0,.int .u32 0] false)).set (h.nx+5) (.cells [.i 0] false)).get (h.nx+5)=some (.cells [.i 0] false):=jab _
   have o9:Old h (((H0.set (h.nx+3) (.cells [.int .u32 0,.int .u32 0] false)).set (h.nx+4) (.cells [.int .u32 0,.int .u32 0] false)).set (h.nx+5) (.cells [.i 0] false)):=((oH.set om).set om).set om
   change Ops _ _ _ _ _ _ _ (((H0.set (h.nx+3) (.cells [.int .u32 0,.int .u32 0] false)).set (h.nx+4) (.cells [.int .u32 0,.int .u32 0] false)).set (h.nx+5) (.cells [.i 0] false)) _
   generalize ((H0.set (h.nx+3) (.cells [.int .u32 0,.int .u32 0] false)).set (h.nx+4) (.cells [.int .u32 0,.int .u32 0] false)).set (h.nx+5) (.cells [.i 0] false)=H9 at k3 k4 k5 o9 ⊢
   repeat' (first|refine qxy ?_|(refine zsp ?_ ?_<;>intro _)|fail)
   exact jkJ k3 k4 k5 rfl rfl ⟨o9,_,_,_,rfl,fun e=>zM e (by decide),fun _=>⟨rfl,rfl,rfl⟩⟩
 obtain ⟨n1,n2⟩ : ¬ top<0 /\ ¬ 64<top:=by omega
 obtain ⟨cb,h1,e1,hb,o1⟩:=sl_closed hcl (d:=d-1) (top:=top) (f:=f) (g:=g) (h:=H0) om ax o
 have c0:h1.get h.nx=some (.cells [.p w 0] false):=by rw [o1.2 _ om,b0]
 have c1:h1.get (h.nx+1)=some (.cells (setV f) false):=by rw [o1.2 _ om,b1]
 have c2:h1.get (h.nx+2)=some (.cells (setV g) false):=by rw [o1.2 _ om,b2]
 have c3:h1.get (h.nx+3)=some (.cells [.int .u32 0,.int .u32 0] false):=by rw [o1.2 _ om,b3]
 have c4:h1.get (h.nx+4)=some (.cells [.int .u32 0,.int .u32 0] false):=by rw [o1.2 _ om,b4]
 have c5:h1.get (h.nx+5)=some (.cells [.i 0] false):=by rw [o1.2 _ om,b5]
 have oX:=oH.trans o1
 have ay:=a.old oX
 have y1:=o1.1
 have hz:jch ws f g top=if cb=true then 110 else 0:=by
  unfold jch
  rw [zF ht]
  by_cases hc:jey ws f g top
  ·rw [zG hc,zG (hb.2 hc)]
  ·rw [zF hc,zF (fun h=>hc (hb.1 h))]
 rw [hz]
 clear hb hz
 cases cb with
 | true=>
  rw [zG rfl]
  clear a ax ay o ht
  refine Ga ?_
  refine zcw rfl b1 (zr _) ?_
  rw [show List.take 2 (List.drop 0 (setV f))=setV f from rfl]
  refine Ga ?_
  refine zcw rfl b2 (zr _) ?_
  rw [show List.take 2 (List.drop 0 (setV g))=setV g from rfl]
  refine Ga ?_
  refine zcw rfl c3 (zw rfl) ?_
  refine zcw rfl c4 (zw rfl) ?_
  refine Ops.storeN_chk (b:=h.nx+3) (o:=0) (vs:=[.int .u32 0,.int .u32 0]) rfl rfl rfl rfl c3 (zw rfl) ?_ ?_
  ·exact jcJ (b:=h.nx+4) (o:=0) (l:=[.int .u32 0,.int .u32 0]) (ro:=false) rfl (by rw [jaa om];exact c4) (zw rfl) rfl rfl jbn
  refine zct (b:=h.nx+4) (o:=0) (vs:=[.int .u32 0,.int .u32 0]) rfl rfl rfl rfl (by rw [jaa om];exact c4) (zw rfl) ?_
  refine zcs (b:=h.nx+5) (o:=0) (l:=[.i 0]) rfl rfl rfl (by rw [jaa om,jaa om];exact c5) zP ?_
  have k3:(((h1.set (h.nx+3) (.cells [.int .u32 0,.int .u32 0] false)).set (h.nx+4) (.cells [.int .u32 0,.int .u32 0] false)).set (h.nx+5) (.cells [.i 0] false)).get (h.nx+3)=some (.cells [.int .u32 0,.int .u32 0] false):=by rw [jaa om,jaa om,jab]
  have k4:(((h1.set (h.nx+3) (.cells [.int .u32 0,.int .u32 0] false)).set (h.nx+4) (.cells [.int .u32 0,.int .u32 0] false)).set (h.nx+5) (.cells [.i 0] false)).get (h.nx+4)=some (.cells [.int .u32 0,.int .u32 0] false):=by rw [jaa om,jab]
  have k5:(((h1.set (h.nx+3) (.cells [.int .u32 0,.int .u32 0] false)).set (h.nx+4) (.cells [.int .u32 0,.int .u32 0] false)).set (h.nx+5) (.cells [.i 0] false)).get (h.nx+5)=some (.cells [.i 0] false):=jab _
  have o9:Old h (((h1.set (h.nx+3) (.cells [.int .u32 0,.int .u32 0] false)).set (h.nx+4) (.cells [.int .u32 0,.int .u32 0] false)).set (h.nx+5) (.cells [.i 0] false)):=((oX.set om).set om).set om
  change Ops _ _ _ _ _ _ _ (((h1.set (h.nx+3) (.cells [.int .u32 0,.int .u32 0] false)).set (h.nx+4) (.cells [.int .u32 0,.int .u32 0] false)).set (h.nx+5) (.cells [.i 0] false)) _
  generalize ((h1.set (h.nx+3) (.cells [.int .u32 0,.int .u32 0] false)).set (h.nx+4) (.cells [.int .u32 0,.int .u32 0] false)).set (h.nx+5) (.cells [.i 0] false)=H9 at k3 k4 k5 o9 ⊢
  refine Ga ?_
  exact jkJ k3 k4 k5 rfl rfl ⟨o9,_,_,_,rfl,fun e=>zM e (by decide),fun _=>⟨rfl,rfl,rfl⟩⟩
 | false=>
  rw [zF (by decide)]
  refine Ga ?_
  refine zcw rfl b1 (zr _) ?_
  rw [show List.take 2 (List.drop 0 (setV f))=setV f from rfl]
  refine Ga ?_
  refine zcw rfl b2 (zr _) ?_
  rw [show List.take 2 (List.drop 0 (setV g))=setV g from rfl]
  refine Ga ?_
  refine zcw rfl c1 (zr _) ?_
  rw [show List.take 2 (List.drop 0 (setV f))=setV f from rfl]
  refine Ga ?_
  refine zcw rfl c2 (zr _) ?_
  rw [show List.take 2 (List.drop 0 (setV g))=setV g from rfl]
  refine Ga ?_
  refine zaw rfl (jlB hcl (d:=d-1) (f:=f) (g:=g) om) ?_
  refine Ga ?_
  have oH2:Old h (((h1.new (.cells [.i top] false)).new (.cells (setV f) false)).new (.cells (setV g) false)):=oX.new.new.new
  have d0:(((h1.new (.cells [.i top] false)).new (.cells (setV f) false)).new (.cells (setV g) false)).get h.nx=some (.cells [.p w 0] false):=by rw [jac Zc,jac Zc,jac om,c0]
  have d3:(((h1.new (.cells [.i top] false)).new (.cells (setV f) false)).new (.cells (setV g) false)).get (h.nx+3)=some (.cells [.int .u32 0,.int .u32 0] false):=by rw [jac Zc,jac Zc,jac om,c3]
  have d4:(((h1.new (.cells [.i top] false)).new (.cells (setV f) false)).new (.cells (setV g) false)).get (h.nx+4)=some (.cells [.int .u32 0,.int .u32 0] false):=by rw [jac Zc,jac Zc,jac om,c4]
  have d5:(((h1.new (.cells [.i top] false)).new (.cells (setV f) false)).new (.cells (setV g) false)).get (h.nx+5)=some (.cells [.i 0] false):=by rw [jac Zc,jac Zc,jac om,c5]
  have q0:(((h1.new (.cells [.i top] false)).new (.cells (setV f) false)).new (.cells (setV g) false)).get h1.nx=some (.cells [.i top] false):=qgt
  have q1:(((h1.new (.cells [.i top] false)).new (.cells (setV f) false)).new (.cells (setV g) false)).get (h1.nx+1)=some (.cells (setV f) false):=qgt
  have q2:(((h1.new (.cells [.i top] false)).new (.cells (setV f) false)).new (.cells (setV g) false)).get (h1.nx+2)=some (.cells (setV g) false):=qgt
  have x2:(((h1.new (.cells [.i top] false)).new (.cells (setV f) false)).new (.cells (setV g) false)).nx=h1.nx+3:=rfl
  generalize ((h1.new (.cells [.i top] false)).new (.cells (setV f) false)).new (.cells (setV g) false)=H2 at oH2 d0 d3 d4 d5 q0 q1 q2 x2 ⊢
  refine Zz rfl qkp fun LO hLO=>?_
  rw [x2]
  have oL:Old h (H2.new (LO .ready none)):=oH2.new
  obtain ⟨v',h',hc,hIJ⟩:=jim hcl (d:=d-1) (L:=h1.nx+3) (c1:=h1.nx+1) (c2:=h1.nx+2) (c3:=h1.nx) (f:=f) (g:=g) (top:=top) (h:=H2.new (LO .ready none)) om
   (fun m e=>e.get h.nx=some (.cells [.p w 0] false)/\e.get (h.nx+3)=some (.cells (setV (selK ws f inR top m)) false)/\e.get (h.nx+4)=some (.cells (setV (selK ws g outR top m)) false)/\e.get (h.nx+5)=some (.cells [.i ((cntS (selS ws f inR top) m+cntS (selS ws g outR top) m:Nat):Int)] false)/\e.get h1.nx=some (.cells [.i top] false)/\e.get (h1.nx+1)=some (.cells (setV f) false)/\e.get (h1.nx+2)=some (.cells (setV g) false)/\e.get (h1.nx+3)=some (LO .ready none)/\h1.nx+4<=e.nx/\Old h e)
   (fun _=>False)
   (fun m e ⟨_,_,_,_,p5,p6,p7,_,p9,_⟩=>⟨p6,p7,p5,by omega,by omega,by omega⟩)
   (by
    rintro m e e' ⟨p0,p1,p2,p3,p4,p5,p6,p7,p8,p9⟩ og
    exact ⟨by rw [og.2 _ om,p0],by rw [og.2 _ om,p1],by rw [og.2 _ om,p2],by rw [og.2 _ om,p3],by rw [og.2 _ om,p4],by rw [og.2 _ om,p5],by rw [og.2 _ om,p6],by rw [og.2 _ om,p7],zE p8 og.1,p9.trans og⟩)
   (by
    rintro m e hm hk ⟨p0,p1,p2,p3,p⟩
    obtain ⟨hkf,hkg⟩:=selS_not (ws:=ws) hk
    refine ⟨p0,by rw [jiM hkf,p1],by rw [jiM hkg,p2],?_,p⟩
    rw [cntS,cntS,hkf,hkg];simpa using p3)
   (by
    rintro m e hm hk ⟨p0,p1,p2,p3,p4,p5,p6,p7,p8,p9⟩
    have oq:Old h (e.set (h1.nx+3) (LO .busy none)):=p9.set om
    obtain ⟨e1,er,oe⟩:=jfm hcl (d:=d-1-1-1) (fd:=(m:Int)) om (a.old oq) o
    rw [jhp] at er
    obtain ⟨e2,es,oe'⟩:=sl_is hcl (d:=d-1-1-1) (r:=rdyS ws (m:Int)) (h:=e1) om
    obtain ⟨hf,hg⟩:=selS_is (ws:=ws) hk
    have hA:=and_mask (f m) (g m) (inR (rdyS ws (m:Int))) (outR (rdyS ws (m:Int)))
    rw [<- hf,<- hg] at hA
    have hA:IntKind.i64.wrap ((BitVec.ofInt 64 (jnN f g m) &&& BitVec.ofInt 64 (isR (rdyS ws (m:Int)))).toNat:Int)=_:=hA
    have oe2:Old (e.set (h1.nx+3) (LO .busy none)) e2:=oe.trans oe'
    have r0 : ∀ j,j<e.nx->j≠h1.nx+3->e2.get j=e.get j:=fun j h1 h2=>by rw [oe2.2 _ (by simpa using h1),jaa h2]
    have r3:e2.get (h.nx+3)=some (.cells (setV (selK ws f inR top m)) false):=by rw [r0 _ om om,p1]
    have r4:e2.get (h.nx+4)=some (.cells (setV (selK ws g outR top m)) false):=by rw [r0 _ om om,p2]
    have r5:e2.get (h.nx+5)=some (.cells [.i ((cntS (selS ws f inR top) m+cntS (selS ws g outR top) m:Nat):Int)] false):=by rw [r0 _ om om,p3]
    have r7:e2.get (h1.nx+3)=some (LO .busy none):=by rw [oe2.2 _ Zc,jab]
    have ox:e.nx<=e2.nx:=by have:=oe2.1;simpa using this
    have of:Old h e2:=oq.trans oe2
    have fin : ∀ X:H,e.nx<=X.nx->(∀ j,j<e.nx->j≠h.nx+3->j≠h.nx+4->j≠h.nx+5->j≠h1.nx+3->X.get j=e.get j)->X.get (h.nx+3)=some (.cells (setV (selK ws f inR top (m+1))) false)->X.get (h.nx+4)=some (.cells (setV (selK ws g outR top (m+1))) false) ->
      X.get (h.nx+5)=some (.cells [.i ((cntS (selS ws f inR top) (m+1)+cntS (selS ws g outR top) (m+1):Nat):Int)] false) ->
      ((X.set (h1.nx+3) (LO .ready none)).get h.nx=some (.cells [.p w 0] false)/\(X.set (h1.nx+3) (LO .ready none)).get (h.nx+3)=some (.cells (setV (selK ws f inR top (m+1))) false)/\(X.set (h1.nx+3) (LO .ready none)).get (h.nx+4)=some (.cells (setV (selK ws g outR top (m+1))) false)/\(X.set (h1.nx+3) (LO .ready none)).get (h.nx+5)=some (.cells [.i ((cntS (selS ws f inR top) (m+1)+cntS (selS ws g outR top) (m+1):Nat):Int)] false)/\(X.set (h1.nx+3) (LO .ready none)).get h1.nx=some (.cells [.i top] false)/\(X.set (h1.nx+3) (LO .ready none)).get (h1.nx+1)=some (.cells (setV f) false)/\(X.set (h1.nx+3) (LO .ready none)).get (h1.nx+2)=some (.cells (setV g) false)/\(X.set (h1.nx+3) (LO .ready none)).get (h1.nx+3)=some (LO .ready none)/\h1.nx+4<=(X.set (h1.nx+3) (LO .ready none)).nx/\Old h (X.set (h1.nx+3) (LO .ready none)))/\OldN (H2.new (LO .ready none)).nx e (X.set (h1.nx+3) (LO .ready none)):=by
     intro X xn xo x3 x4 x5
     refine ⟨⟨?_,?_,?_,?_,?_,?_,?_,jab _,by simp;omega,⟨by simp;omega,fun j hj=>?_⟩⟩,by simpa using xn,fun j hj hj2=>?_⟩
     ·rw [jaa om,xo _ om om om om om,p0]
     ·rw [jaa om,x3]
     ·rw [jaa om,x4]
     ·rw [jaa om,x5]
     ·rw [jaa om,xo _ om om om om om,p4]
     ·rw [jaa om,xo _ om om om om om,p5]
     ·rw [jaa om,xo _ om om om om om,p6]
     ·rw [jaa om,xo _ om om om om om,p9.2 _ hj]
     ·have hj:h1.nx+3+1<=j:=by simpa [x2] using hj
      rw [jaa om,xo _ hj2 om om om om]
    have hN:cntS (selS ws f inR top) m+cntS (selS ws g outR top) m<=128:=by have:=jlo (selS ws f inR top) m;have:=jlo (selS ws g outR top) m;omega
    have hN1:cntS (selS ws f inR top) (m+1)+cntS (selS ws g outR top) (m+1)=cntS (selS ws f inR top) m+cntS (selS ws g outR top) m+(if selS ws f inR top m then 1 else 0)+(if selS ws g outR top m then 1 else 0):=by simp only [cntS];omega
    rw [hN1] at fin
    generalize cntS (selS ws f inR top) m+cntS (selS ws g outR top) m=n at r5 hN hN1 fin
    have yF:selS ws f inR top m=false->setV (selK ws f inR top (m+1))=setV (selK ws f inR top m):=fun h=>jiM h
    have yG:selS ws g outR top m=false->setV (selK ws g outR top (m+1))=setV (selK ws g outR top m):=fun h=>jiM h
    have wF : ∀ E,selS ws f inR top m=true -> ∃ E',cl (d-1-1-1) (.fn 97) [.agg (setV (selK ws f inR top m)),.i (m:Int)] E=some (.tup [.agg (setV (selK ws f inR top (m+1))),.i 0],E')/\Old E E':=fun E hs=>by
     rw [jlC hs hm]
     have:=jh9 hcl (d:=d-1-1-1) (f:=selK ws f inR top m) (fd:=(m:Int)) (h:=E) om
     rwa [zG (show fitS (m:Int) from ⟨by omega,by omega⟩)] at this
    have wG : ∀ E,selS ws g outR top m=true -> ∃ E',cl (d-1-1-1) (.fn 97) [.agg (setV (selK ws g outR top m)),.i (m:Int)] E=some (.tup [.agg (setV (selK ws g outR top (m+1))),.i 0],E')/\Old E E':=fun E hs=>by
     rw [jlC hs hm]
     have:=jh9 hcl (d:=d-1-1-1) (f:=selK ws g outR top m) (fd:=(m:Int)) (h:=E) om
     rwa [zG (show fitS (m:Int) from ⟨by omega,by omega⟩)] at this
    have lF:(setV (selK ws f inR top m)).length=2:=rfl
    have lG:(setV (selK ws g outR top m)).length=2:=rfl
    have lF1:(setV (selK ws f inR top (m+1))).length=2:=rfl
    have lG1:(setV (selK ws g outR top (m+1))).length=2:=rfl
    have aF1:(setV (selK ws f inR top (m+1))).all V.one=true:=rfl
    have aG1:(setV (selK ws g outR top (m+1))).all V.one=true:=rfl
    generalize jnN f g m=mk0 at hA ⊢
    generalize rdyS ws (m:Int)=r at er es hA hf hg
    have er:cl (d-1-1-1) (.fn 15) [.p w 0,.i (m:Int)] (e.set (h1.nx+3) (LO .busy none))=some (.agg r.cells,e1):=er
    generalize isR r=ri at es hA
    generalize r.cells=rc at er es
    refine ⟨true,?_⟩
    suffices q : ∃ v' g',cl (d-1-1) (.yld (h1.nx+3)) [.i (m:Int),.i mk0] e=some (v',g')/\(v' = .bool true/\(g'.get h.nx=some (.cells [.p w 0] false)/\g'.get (h.nx+3)=some (.cells (setV (selK ws f inR top (m+1))) false)/\g'.get (h.nx+4)=some (.cells (setV (selK ws g outR top (m+1))) false)/\g'.get (h.nx+5)=some (.cells [.i ((cntS (selS ws f inR top) (m+1)+cntS (selS ws g outR top) (m+1):Nat):Int)] false)/\g'.get h1.nx=some (.cells [.i top] false)/\g'.get (h1.nx+1)=some (.cells (setV f) false)/\g'.get (h1.nx+2)=some (.cells (setV g) false)/\g'.get (h1.nx+3)=some (LO .ready none)/\h1.nx+4<=g'.nx/\Old h g')/\OldN (H2.new (LO .ready none)).nx e g') by
     obtain ⟨_,g',e,rfl,q⟩:=q
     exact ⟨g',e,fun _=>q,fun e=>by cases e⟩
    refine yl_ hcl om hLO p7 rfl ?_
    clear a o ax ay hk hf hg oq oe oe'
    clear oH oH2 oL b0 b1 b2 b3 b4 b5 c0 c1 c2 c3 c4 c5 d0 d3 d4 d5 q0 q1 q2 ht n1 n2
    refine Ga ?_
    refine Zv ⟨rfl,p7,?_⟩
    clear p1 p2 p3 p4 p5 p6 p7 p9
    rw [hN1]
    generalize hT:setV (selK ws f inR top m)=tF at r3 yF wF lF
    generalize hT1:setV (selK ws f inR top (m+1))=tF1 at fin yF wF lF1 aF1 ⊢
    generalize hU:setV (selK ws g outR top m)=tG at r4 yG wG lG
    generalize hU1:setV (selK ws g outR top (m+1))=tG1 at fin yG wG lG1 aG1 ⊢
    have sF:List.take 2 (List.drop 0 tF)=tF:=by rw [zl,zh om]
    have sG:List.take 2 (List.drop 0 tG)=tG:=by rw [zl,zh om]
    clear hT hT1 hU hU1 hN1
    generalize selS ws f inR top m=bF at hA fin yF wF
    generalize selS ws g outR top m=bG at hA fin yG wG
    have hA:IntKind.i64.wrap ((BitVec.ofInt IntKind.i64.bits mk0 &&& BitVec.ofInt IntKind.i64.bits ri).toNat:Int)=(if bF then 2 else 0)+(if bG then 4 else 0):=hA
    have cF:IntKind.i64.wrap ((BitVec.ofInt IntKind.i64.bits (IntKind.i64.wrap ((BitVec.ofInt IntKind.i64.bits mk0 &&& BitVec.ofInt IntKind.i64.bits ri).toNat:Int)) &&& BitVec.ofInt IntKind.i64.bits 2).toNat:Int)=if bF then 2 else 0:=by
     rw [hA];cases bF<;>cases bG<;>decide
    have cG:IntKind.i64.wrap ((BitVec.ofInt IntKind.i64.bits (IntKind.i64.wrap ((BitVec.ofInt IntKind.i64.bits mk0 &&& BitVec.ofInt IntKind.i64.bits ri).toNat:Int)) &&& BitVec.ofInt IntKind.i64.bits 4).toNat:Int)=if bG then 4 else 0:=by
     rw [hA];cases bF<;>cases bG<;>decide
    clear hA
    cases bF with
    | false=>
     obtain rfl:=yF rfl
     have cF : ¬ IntKind.i64.wrap ((BitVec.ofInt IntKind.i64.bits (IntKind.i64.wrap ((BitVec.ofInt IntKind.i64.bits mk0 &&& BitVec.ofInt IntKind.i64.bits ri).toNat:Int)) &&& BitVec.ofInt IntKind.i64.bits 2).toNat:Int)≠0:=by rw [cF];decide
     clear yF wF
     cases bG with
     | false=>
      obtain rfl:=yG rfl
      have cG : ¬ IntKind.i64.wrap ((BitVec.ofInt IntKind.i64.bits (IntKind.i64.wrap ((BitVec.ofInt IntKind.i64.bits mk0 &&& BitVec.ofInt IntKind.i64.bits ri).toNat:Int)) &&& BitVec.ofInt IntKind.i64.bits 4).toNat:Int)≠0:=by rw [cG];decide
      clear yG wG
      have fin:=fin e2 ox (fun j h1 _ _ _ h2=>r0 j h1 h2) r3 r4 r5
      refine Ga ?_
      refine Zv ⟨⟨.busy,none,r7⟩,rfl,fin⟩
     | true=>
      have cG:IntKind.i64.wrap ((BitVec.ofInt IntKind.i64.bits (IntKind.i64.wrap ((BitVec.ofInt IntKind.i64.bits mk0 &&& BitVec.ofInt IntKind.i64.bits ri).toNat:Int)) &&& BitVec.ofInt IntKind.i64.bits 4).toNat:Int)≠0:=by rw [cG];decide
      clear yG
      obtain ⟨e4,ew,o4⟩:=wG e2 rfl
      clear wG
      have z4:e4.get (h.nx+4)=some (.cells tG false):=by rw [o4.2 _ om,r4]
      have z5:e4.get (h.nx+5)=some (.cells [.i ((n:Nat):Int)] false):=by rw [o4.2 _ om,r5]
      have zx:=o4.1
      have fin:=fin ((e4.set (h.nx+4) (.cells tG1 false)).set (h.nx+5) (.cells [.i ((n:Int)+1)] false)) Zc
       (fun j h1 h2 h3 h4 h5=>by rw [jaa h4,jaa h3,o4.2 _ om,r0 j h1 h5])
       (by rw [jaa om,jaa om,o4.2 _ om,r3])
       (by rw [jaa om,jab]) (by rw [jab];simp)
      have r7':((e4.set (h.nx+4) (.cells tG1 false)).set (h.nx+5) (.cells [.i ((n:Int)+1)] false)).get (h1.nx+3)=some (LO .busy none):=by rw [jaa om,jaa om,o4.2 _ om,r7]
      refine Ga ?_
      refine zcw rfl r4 om ?_
      rw [sG]
      refine Ga ?_
      refine zct (b:=h.nx+4) (o:=0) rfl rfl lG1 aG1 z4 om ?_
      rw [jas tG1 tG om]
      refine Ga ?_
      refine zcs (b:=h.nx+5) (o:=0) (l:=[.i ((n:Nat):Int)]) rfl rfl rfl (by rw [jaa om];exact z5) zP ?_
      refine Ga ?_
      refine Zv ⟨⟨.busy,none,r7'⟩,rfl,fin⟩
    | true=>
     have cF:IntKind.i64.wrap ((BitVec.ofInt IntKind.i64.bits (IntKind.i64.wrap ((BitVec.ofInt IntKind.i64.bits mk0 &&& BitVec.ofInt IntKind.i64.bits ri).toNat:Int)) &&& BitVec.ofInt IntKind.i64.bits 2).toNat:Int)≠0:=by rw [cF];decide
     clear yF
     obtain ⟨e3,ew,o3⟩:=wF e2 rfl
     clear wF
     have z3:e3.get (h.nx+3)=some (.cells tF false):=by rw [o3.2 _ om,r3]
     have z5:e3.get (h.nx+5)=some (.cells [.i ((n:Nat):Int)] false):=by rw [o3.2 _ om,r5]
     have zx:=o3.1
     cases bG with
     | false=>
      obtain rfl:=yG rfl
      have cG : ¬ IntKind.i64.wrap ((BitVec.ofInt IntKind.i64.bits (IntKind.i64.wrap ((BitVec.ofInt IntKind.i64.bits mk0 &&& BitVec.ofInt IntKind.i64.bits ri).toNat:Int)) &&& BitVec.ofInt IntKind.i64.bits 4).toNat:Int)≠0:=by rw [cG];decide
      clear yG wG
      have fin:=fin ((e3.set (h.nx+3) (.cells tF1 false)).set (h.nx+5) (.cells [.i ((n:Int)+1)] false)) Zc
       (fun j h1 h2 h3 h4 h5=>by rw [jaa h4,jaa h2,o3.2 _ om,r0 j h1 h5])
       (by rw [jaa om,jab])
       (by rw [jaa om,jaa om,o3.2 _ om,r4]) (by rw [jab];simp)
      have r7':((e3.set (h.nx+3) (.cells tF1 false)).set (h.nx+5) (.cells [.i ((n:Int)+1)] false)).get (h1.nx+3)=some (LO .busy none):=by rw [jaa om,jaa om,o3.2 _ om,r7]
      refine Ga ?_
      refine zcw rfl r3 om ?_
      rw [sF]
      refine Ga ?_
      refine zct (b:=h.nx+3) (o:=0) rfl rfl lF1 aF1 z3 om ?_
      rw [jas tF1 tF om]
      refine Ga ?_
      refine zcs (b:=h.nx+5) (o:=0) (l:=[.i ((n:Nat):Int)]) rfl rfl rfl (by rw [jaa om];exact z5) zP ?_
      refine Ga ?_
      refine Zv ⟨⟨.busy,none,r7'⟩,rfl,fin⟩
     | true=>
      have cG:IntKind.i64.wrap ((BitVec.ofInt IntKind.i64.bits (IntKind.i64.wrap ((BitVec.ofInt IntKind.i64.bits mk0 &&& BitVec.ofInt IntKind.i64.bits ri).toNat:Int)) &&& BitVec.ofInt IntKind.i64.bits 4).toNat:Int)≠0:=by rw [cG];decide
      clear yG
      obtain ⟨E1,hE⟩ : ∃ E1,E1=(e3.set (h.nx+3) (.cells tF1 false)).set (h.nx+5) (.cells [.i ((n:Int)+1)] false):=⟨_,rfl⟩
      have E3:E1.get (h.nx+3)=some (.cells tF1 false):=by rw [hE,jaa om,jab]
      have E4:E1.get (h.nx+4)=some (.cells tG false):=by rw [hE,jaa om,jaa om,o3.2 _ om,r4]
      have E5:E1.get (h.nx+5)=some (.cells [.i ((n:Int)+1)] false):=by rw [hE,jab]
      have E7:E1.get (h1.nx+3)=some (LO .busy none):=by rw [hE,jaa om,jaa om,o3.2 _ om,r7]
      have Ex:e2.nx<=E1.nx:=by rw [hE];simp;omega
      have Er : ∀ j,j<e.nx->j≠h.nx+3->j≠h.nx+5->j≠h1.nx+3->E1.get j=e.get j:=fun j h1 h2 h4 h5=>by rw [hE,jaa h4,jaa h2,o3.2 _ om,r0 j h1 h5]
      obtain ⟨e4,ew4,o4⟩:=wG E1 rfl
      clear wG
      have y4:e4.get (h.nx+4)=some (.cells tG false):=by rw [o4.2 _ om,E4]
      have y5:e4.get (h.nx+5)=some (.cells [.i ((n:Int)+1)] false):=by rw [o4.2 _ om,E5]
      have zx4:=o4.1
      have fin:=fin ((e4.set (h.nx+4) (.cells tG1 false)).set (h.nx+5) (.cells [.i ((n:Int)+1+1)] false)) Zc
       (fun j h1 h2 h3 h4 h5=>by rw [jaa h4,jaa h3,o4.2 _ om,Er j h1 h2 h4 h5])
       (by rw [jaa om,jaa om,o4.2 _ om,E3])
       (by rw [jaa om,jab]) (by rw [jab];simp)
      have r7':((e4.set (h.nx+4) (.cells tG1 false)).set (h.nx+5) (.cells [.i ((n:Int)+1+1)] false)).get (h1.nx+3)=some (LO .busy none):=by rw [jaa om,jaa om,o4.2 _ om,E7]
      refine Ga ?_
      refine zcw rfl r3 om ?_
      rw [sF]
      refine Ga ?_
      refine zct (b:=h.nx+3) (o:=0) rfl rfl lF1 aF1 z3 om ?_
      rw [jas tF1 tF om]
      refine Ga ?_
      refine zcs (b:=h.nx+5) (o:=0) (l:=[.i ((n:Nat):Int)]) rfl rfl rfl (by rw [jaa om];exact z5) zP ?_
      have hE:(e3.set (h.nx+3) (.cells tF1 false)).set (h.nx+5) (.cells (List.set [.i ((n:Nat):Int)] 0 (.i ((n:Int)+1))) false)=E1:=hE.symm
      rw [hE]
      clear hE z3 z5 r3 r4 r5 r0 Er
      refine Ga ?_
      refine zcw rfl E4 om ?_
      rw [sG]
      refine Ga ?_
      refine zct (b:=h.nx+4) (o:=0) rfl rfl lG1 aG1 y4 om ?_
      rw [jas tG1 tG om]
      refine Ga ?_
      refine zcs (b:=h.nx+5) (o:=0) (l:=[.i ((n:Int)+1)]) rfl rfl rfl (by rw [jaa om];exact y5) zP ?_
      refine Ga ?_
      refine Zv ⟨⟨.busy,none,r7'⟩,rfl,fin⟩)
   ⟨by rw [jac om,d0],by rw [jac om,d3,jo7],by rw [jac om,d4,jo7],by rw [jac om,d5];rfl,by rw [jac om,q0],by rw [jac om,q1],by rw [jac om,q2],by rw [<- x2,jad],by simp [x2],oL⟩
  refine hIJ.elim ?_ fun hF=>hF.elim
  rintro ⟨p0,p1,p2,p3,p4,p5,p6,p7,p8,p9⟩
  refine ⟨v',h',hc,.normal,p7,?_⟩
  rw [selK_64] at p1 p2
  have k3:(h'.kill (h1.nx+3)).get (h.nx+3)=some (.cells (setV (selS ws f inR top)) false):=by rw [jae om,p1]
  have k4:(h'.kill (h1.nx+3)).get (h.nx+4)=some (.cells (setV (selS ws g outR top)) false):=by rw [jae om,p2]
  have k5:(h'.kill (h1.nx+3)).get (h.nx+5)=some (.cells [.i (((cntS (selS ws f inR top) 64+cntS (selS ws g outR top) 64:Nat):Int))] false):=by rw [jae om,p3]
  have o9:Old h (h'.kill (h1.nx+3)):=⟨p9.1,fun j hj=>by rw [jae om,p9.2 j hj]⟩
  generalize h'.kill (h1.nx+3)=H3 at k3 k4 k5 o9 ⊢
  clear p0 p1 p2 p3 p4 p5 p6 p7 p8 p9 hc hLO a ax ay o
  have lR:(setV (selS ws f inR top)).length=2:=rfl
  have lS:(setV (selS ws g outR top)).length=2:=rfl
  have a1:(setV (selS ws f inR top)).all V.one=true:=rfl
  have a2:(setV (selS ws g outR top)).all V.one=true:=rfl
  generalize hv1:setV (selS ws f inR top)=v1 at k3 lR a1 ⊢
  generalize hv2:setV (selS ws g outR top)=v2 at k4 lS a2 ⊢
  generalize hn:((cntS (selS ws f inR top) 64+cntS (selS ws g outR top) 64:Nat):Int)=n at k5 ⊢
  have t1:List.take 2 (List.drop 0 v1)=v1:=by rw [zl,zh om]
  have t2:List.take 2 (List.drop 0 v2)=v2:=by rw [zl,zh om]
  refine Ga ?_
  refine zcw rfl k3 om ?_
  rw [t1]
  refine zcw rfl k4 om ?_
  rw [t2]
  refine Ga ?_
  refine Ops.storeN_chk (b:=h.nx+3) (o:=0) rfl rfl lR a1 k3 om ?_ ?_
  ·rw [jas v1 v1 rfl]
   exact jcJ (b:=h.nx+4) (o:=0) (l:=v2) (ro:=false) rfl (by rw [jaa om];exact k4) om t2 rfl (jaN (b:=h.nx+5) (o:=0) (l:=[.i n]) (ro:=false) rfl (by rw [jaa om];exact k5) rfl rfl jbn)
  rw [jas v1 v1 rfl]
  refine Ops.storeN_chk (b:=h.nx+4) (o:=0) (l:=v2) rfl rfl lS a2 (by rw [jaa om];exact k4) om ?_ ?_
  ·exact jaN (b:=h.nx+5) (o:=0) (l:=[.i n]) (ro:=false) rfl (by rw [jaa om,jaa om];exact k5) rfl rfl jbn
  rw [jas v2 v2 rfl]
  refine zcs (b:=h.nx+5) (o:=0) (l:=[.i n]) rfl rfl rfl (by rw [jaa om,jaa om];exact k5) zP ?_
  have z3:(((H3.set (h.nx+3) (.cells v1 false)).set (h.nx+4) (.cells v2 false)).set (h.nx+5) (.cells [.i n] false)).get (h.nx+3)=some (.cells v1 false):=by rw [jaa om,jaa om,jab]
  have z4:(((H3.set (h.nx+3) (.cells v1 false)).set (h.nx+4) (.cells v2 false)).set (h.nx+5) (.cells [.i n] false)).get (h.nx+4)=some (.cells v2 false):=by rw [jaa om,jab]
  have z5:(((H3.set (h.nx+3) (.cells v1 false)).set (h.nx+4) (.cells v2 false)).set (h.nx+5) (.cells [.i n] false)).get (h.nx+5)=some (.cells [.i n] false):=jab _
  have oz:Old h (((H3.set (h.nx+3) (.cells v1 false)).set (h.nx+4) (.cells v2 false)).set (h.nx+5) (.cells [.i n] false)):=((o9.set om).set om).set om
  change Ops _ _ _ _ _ _ _ (((H3.set (h.nx+3) (.cells v1 false)).set (h.nx+4) (.cells v2 false)).set (h.nx+5) (.cells [.i n] false)) _
  generalize ((H3.set (h.nx+3) (.cells v1 false)).set (h.nx+4) (.cells v2 false)).set (h.nx+5) (.cells [.i n] false)=H9 at z3 z4 z5 oz ⊢
  clear k3 k4 k5 o9
  refine Ga ?_
  exact jkJ z3 z4 z5 lR lS ⟨oz,_,_,_,rfl,fun _=>⟨rfl,rfl,rfl⟩,fun e=>zM rfl e⟩
end
section
variable {cl:Nat->Call} (hcl:Sem cl) {h:H}
include hcl
variable {w s:Nat} {ow:Nat->Nat} {ws:Ws} {now:Int} {tb:Tb} {no:Option (Nat × Nat)} {f g:Nat->Bool}
theorem sl_Holds {d:Nat} {top:Int} (hd:12<=d) (a:WSt h w s ow ws now tb no) (o:WsOk ws) :
  ∃ (b:Bool) (h':H),cl d (.fn 178) [.p w 0,.i top,.agg (setV f),.agg (setV g)] h=some (.bool b,h')/\Old h h' /\
   (b=true↔jch ws f g top≠0\/0<cntS (selS ws f inR top) 64+cntS (selS ws g outR top) 64):=by
 suffices q : ∃ v' h',cl d (.fn 178) [.p w 0,.i top,.agg (setV f),.agg (setV g)] h=some (v',h') /\ ∃ b:Bool,v' = .bool b/\Old h h'/\(b=true↔jch ws f g top≠0\/0<cntS (selS ws f inR top) 64+cntS (selS ws g outR top) 64) by
  obtain ⟨_,h',e,b,rfl,q⟩:=q;exact ⟨b,h',e,q⟩
 have oH:Old h ((h.new (.cells (setV f) false)).new (.cells (setV g) false)):=(ZD h).new.new
 have b0:((h.new (.cells (setV f) false)).new (.cells (setV g) false)).get h.nx=some (.cells (setV f) false):=qgt
 have b1:((h.new (.cells (setV f) false)).new (.cells (setV g) false)).get (h.nx+1)=some (.cells (setV g) false):=qgt
 refine aT hcl ?_
 refine zab (zac (zcu rfl rfl (zcu rfl rfl (Ops.mv rfl (Ops.nil qkp (End.seq ?_))))))
 change Run (cl (d-1)) fuel _ _ [(0,.p w 0),(1,.i top),(6,.p h.nx 0),(7,.p (h.nx+1) 0)] ((h.new (.cells (setV f) false)).new (.cells (setV g) false)) _
 generalize (h.new (.cells (setV f) false)).new (.cells (setV g) false)=H0 at oH b0 b1 ⊢
 obtain ⟨R,S,h1,e1,o1,q1,q2⟩:=jjA hcl (d:=d-1) (top:=top) (f:=f) (g:=g) (h:=H0) om (a.old oH) o
 have hb : ∀ b:Bool,b=(decide (jch ws f g top≠0)||decide (0<cntS R 64+cntS S 64))->(b=true↔jch ws f g top≠0\/0<cntS (selS ws f inR top) 64+cntS (selS ws g outR top) 64):=by
  intro b hb
  by_cases hz:jch ws f g top=0
  ·obtain ⟨rfl,rfl⟩:=q1 hz
   simp [hb,hz]
  ·simp [hb,hz]
 have oX:=oH.trans o1
 clear q1 q2 a o
 generalize jch ws f g top=er at e1 hb ⊢
 generalize cntS R 64+cntS S 64=n at e1 hb ⊢
 have lR:(setV R).length=2:=rfl
 have lS:(setV S).length=2:=rfl
 have aR:(setV R).all V.one=true:=rfl
 have aS:(setV S).all V.one=true:=rfl
 refine Ga ?_
 refine zcw rfl b0 (zr _) ?_
 rw [show List.take 2 (List.drop 0 (setV f))=setV f from rfl]
 refine Ga ?_
 refine zcw rfl b1 (zr _) ?_
 rw [show List.take 2 (List.drop 0 (setV g))=setV g from rfl]
 refine Ga ?_
 refine zcu rfl rfl (zcu rfl rfl ?_)
 refine zct (b:=h1.nx) (o:=0) (l:=[.int .u32 0,.int .u32 0]) rfl rfl lR aR (by rw [jac Zd,jad]) (zw rfl) ?_
 refine zct (b:=h1.nx+1) (o:=0) (l:=[.int .u32 0,.int .u32 0]) rfl rfl lS aS (by rw [jaa om];exact jad _) (zw rfl) ?_
 have o9:Old h ((((h1.new (.cells [.int .u32 0,.int .u32 0] false)).new (.cells [.int .u32 0,.int .u32 0] false)).set h1.nx (.cells (jat [.int .u32 0,.int .u32 0] 0 (setV R)) false)).set (h1.nx+1) (.cells (jat [.int .u32 0,.int .u32 0] 0 (setV S)) false)):=by
  have:=oX.1
  exact (oX.new.new.set this).set om
 change Ops _ _ _ _ _ _ _ ((((h1.new (.cells [.int .u32 0,.int .u32 0] false)).new (.cells [.int .u32 0,.int .u32 0] false)).set h1.nx (.cells (jat [.int .u32 0,.int .u32 0] 0 (setV R)) false)).set (h1.nx+1) (.cells (jat [.int .u32 0,.int .u32 0] 0 (setV S)) false)) _
 generalize (((h1.new (.cells [.int .u32 0,.int .u32 0] false)).new (.cells [.int .u32 0,.int .u32 0] false)).set h1.nx (.cells (jat [.int .u32 0,.int .u32 0] 0 (setV R)) false)).set (h1.nx+1) (.cells (jat [.int .u32 0,.int .u32 0] 0 (setV S)) false)=H9 at o9 ⊢
 clear b0 b1 e1 o1 oH oX lR lS aR aS
 by_cases he:er=0
 ·subst he
  by_cases hn:n=0
  ·subst hn
   refine Ga ?_
   exact ⟨_,rfl,o9,hb _ Zd⟩
  ·have hn:(0:Int)<n:=by omega
   refine Ga ?_
   exact ⟨_,rfl,o9,hb _ Zd⟩
 ·refine Ga ?_
  exact ⟨_,rfl,o9,hb _ (by simp [he])⟩
theorem jo5 {d:Nat} (hd:3<=d) : ∃ (T:Int) (h':H),cl d (.fn 179) [.agg (setV f),.agg (setV g)] h=some (.i (T+1),h')/\Old h h' /\ -1<=T/\T<=63/\(∀ i:Nat,i<64->orS f g i=true->(i:Int)<=T)/\(0<=T->orS f g T.toNat=true):=by
 have b0:((h.new (.cells (setV f) false)).new (.cells (setV g) false)).get h.nx=some (.cells (setV f) false):=qgt
 have b1:((h.new (.cells (setV f) false)).new (.cells (setV g) false)).get (h.nx+1)=some (.cells (setV g) false):=qgt
 have oH:Old h ((h.new (.cells (setV f) false)).new (.cells (setV g) false)):=(ZD h).new.new
 obtain ⟨h1,e1,o1⟩:=jpj hcl (d:=d-1) (f:=f) (g:=g) (h:=(h.new (.cells (setV f) false)).new (.cells (setV g) false)) om
 obtain ⟨T,h2,e2,o2,t1,t2,t3,t4⟩:=fs_top hcl (d:=d-1) (f:=orS f g) (h:=h1) om
 refine ⟨T,h2,?_,(oH.trans o1).trans o2,t1,t2,t3,t4⟩
 refine jan (aT hcl ?_)
 clear t3 t4
 refine zab (zac (zcu rfl rfl (zcu rfl rfl (Ops.mv rfl (Ops.nil qkp (End.seq ?_))))))
 change Run (cl (d-1)) fuel _ _ [(2,.p h.nx 0),(3,.p (h.nx+1) 0)] ((h.new (.cells (setV f) false)).new (.cells (setV g) false)) _
 refine Ga ?_
 refine zcw rfl b0 (zr _) ?_
 rw [show List.take 2 (List.drop 0 (setV f))=setV f from rfl]
 refine Ga ?_
 refine zcw rfl b1 (zr _) ?_
 rw [show List.take 2 (List.drop 0 (setV g))=setV g from rfl]
 refine Ga ?_
 exact ⟨rfl,rfl⟩
end
def dc (w:Nat) (k:Int) (f:Nat->Int) (nt:Int):List V := .p w 0 :: .i k :: (tab 96 (fun i=>V.i (f i))++[.i nt])
section
variable {w i o:Nat} {k nt v:Int} {f g:Nat->Int}
theorem dc_f (hi:i<96) (ho:o=2+i):(dc w k f nt)[o]?=some (.i (f i)):=by
 subst ho
 rw [show 2+i=i+1+1 by omega]
 show (tab 96 (fun i=>V.i (f i))++[V.i nt])[i]?=_
 rw [List.getElem?_append_left (by simpa using hi),jcy hi]
theorem dc_n:(dc w k f nt)[0+98]?=some (.i nt):=by
 show (tab 96 (fun i=>V.i (f i))++[V.i nt])[96]?=_
 rw [List.getElem?_append_right Zd]
 simp
theorem jod:(dc w k f nt).length=99:=by simp [dc]
theorem joN (hi:i<96) (ho:o=2+i):(dc w k f nt).set o (.i v)=dc w k (put1 f i v) nt:=by
 subst ho
 rw [show 2+i=i+1+1 by omega]
 show V.p w 0 :: V.i k :: ((tab 96 (fun i=>V.i (f i))++[V.i nt]).set i (.i v))=_
 rw [zX,zG (by simpa using hi),jef]
 unfold dc
 rw [jc9 (g:=fun j=>V.i (put1 f i v j)) (fun k _=>by unfold put1;split<;>rfl)]
theorem dc_congr (h : ∀ i,i<96->f i=g i):dc w k f nt=dc w k g nt:=by
 unfold dc;rw [jc9 fun i hi=>by rw [h i hi]]
end
def isFd (fd:Int):Prop:=0<=fd/\fd<=95
section
variable {cl:Nat->Call} (hcl:Sem cl) {d D w s:Nat} {h:H} {ow:Nat->Nat} {ws:Ws} {now:Int} {tb:Tb} {no:Option (Nat × Nat)} {k nt fd n:Int} {f:Nat->Int}
include hcl
theorem jhK (hd:1<=d) (hD:h.get D=some (.cells (dc w k f nt) false)):cl d (.fn 42) [.p D 0] h=some (.bool false,h):=by
 have h0:(dc w k f nt)[0+0]?=some (.p w 0):=rfl
 refine jan (aT hcl ?_)
 refine Ga ?_
 exact ⟨rfl,rfl⟩
theorem jjn (hd:1<=d) (hf:isFd fd):cl d (.fn 43) [.i fd] h=some (.bool true,h):=by
 obtain ⟨f0,f1⟩:=hf
 refine jan (aT hcl ?_)
 refine Ga ?_
 exact ⟨by rw [zJ f1],rfl⟩
theorem ji3 (hd:1<=d) (hf : ¬ isFd fd):cl d (.fn 43) [.i fd] h=some (.bool false,h):=by
 unfold isFd at hf
 refine jan (aT hcl ?_)
 by_cases f0:0<=fd
 ·have f1 : ¬ fd<=95:=by omega
  refine Ga ?_
  exact ⟨by rw [zH f1],rfl⟩
 ·refine Ga ?_
  exact ⟨rfl,rfl⟩
theorem dp_Wants (hd:2<=d) (hD:h.get D=some (.cells (dc w k f nt) false)) (hf:isFd fd):cl d (.fn 16) [.p D 0,.i fd] h=some (.i (f fd.toNat),h):=by
 have e1:=jhK hcl (d:=d-1) om hD
 have e2:=jjn hcl (d:=d-1) (h:=h) om hf
 obtain ⟨f0,f1⟩:=hf
 have h0:(dc w k f nt)[0+2+fd.toNat*1]?=some (.i (f fd.toNat)):=dc_f om om
 refine jan (aT hcl ?_)
 refine Ga ?_
 exact ⟨rfl,rfl⟩
theorem jkv (hd:2<=d) (hD:h.get D=some (.cells (dc w k f nt) false)) (hf:isFd fd):cl d (.fn 13) [.p D 0,.i fd] h=some (.tup [],h.set D (.cells (dc w k (put1 f fd.toNat 0) nt) false)):=by
 have e1:=jhK hcl (d:=d-1) om hD
 have e2:=jjn hcl (d:=d-1) (h:=h) om hf
 obtain ⟨f0,f1⟩:=hf
 rw [<- joN (f:=f) (o:=0+2+fd.toNat*1) (v:=0) om om]
 have hl:0+2+fd.toNat*1<(dc w k f nt).length:=by rw [jod];omega
 refine jan (aT hcl ?_)
 refine Ga ?_
 refine zcs rfl rfl rfl hD hl ?_
 refine Ga ?_
 exact ⟨rfl,rfl⟩
theorem jku (hd:2<=d) (hD:h.get D=some (.cells (dc w k f nt) false)) (hf : ¬ isFd fd):cl d (.fn 13) [.p D 0,.i fd] h=some (.tup [],h):=by
 have e1:=jhK hcl (d:=d-1) om hD
 have e2:=ji3 hcl (d:=d-1) (h:=h) om hf
 refine jan (aT hcl ?_)
 refine Ga ?_
 exact ⟨rfl,rfl⟩
noncomputable def mayD (ws:Ws) (k fd:Int):Int:=if (rdyS ws fd).op=false then 110 else if k=1/\64<=fd then 190 else 0
theorem dp_may (hd:5<=d) (a:WSt h w s ow ws now tb no) (o:WsOk ws) (hD:h.get D=some (.cells (dc w k f nt) false)) (lD:D<h.nx) :
  ∃ h',cl d (.fn 44) [.p D 0,.i fd] h=some (.i (mayD ws k fd),h')/\Old h h':=by
 obtain ⟨h1,e1,o1⟩:=jfm hcl (d:=d-1) (fd:=fd) om a o
 rw [jhp] at e1
 have hD1:h1.get D=some (.cells (dc w k f nt) false):=by rw [o1.2 D lD,hD]
 have q0:(dc w k f nt)[0+0]?=some (.p w 0):=rfl
 have q1:(dc w k f nt)[0+1]?=some (.i k):=rfl
 unfold mayD
 generalize rdyS ws fd=r at e1
 obtain ⟨op,_,_,_,_,_,_⟩:=r
 replace e1:cl (d-1) (.fn 15) [.p w 0,.i fd] h=some (.agg [.bool op,_,_,_,_,_,_],h1):=e1
 clear a o
 refine jai (aT hcl ?_)
 cases op with
 | false=>
  rw [zG rfl]
  refine Ga ?_
  exact ⟨rfl,o1⟩
 | true=>
  rw [zF (fun e=>Bool.noConfusion e)]
  by_cases h1:k=1
  ·by_cases h2:64<=fd
   ·rw [zG ⟨h1,h2⟩]
    refine Ga ?_
    exact ⟨rfl,o1⟩
   ·rw [zF (fun e=>h2 e.2)]
    refine Ga ?_
    exact ⟨rfl,o1⟩
  ·rw [zF (fun e=>h1 e.1)]
   refine Ga ?_
   exact ⟨rfl,o1⟩
end
noncomputable def polL (ws:Ws) (l:List (Int × Int)):List Int:=l.map fun p=>jcL (rdyS ws p.1) p.1 p.2
theorem polL_len (ws:Ws) (l:List (Int × Int)):(polL ws l).length=l.length:=by simp [polL]
def cntP:List Int->Int
 | []=>0
 | x :: l=>min x 1+cntP l
theorem jhM (x:Int) : ∀ l,cntP (l++[x])=cntP l+min x 1
 | []=>by simp [cntP]
 | y :: l=>by rw [zZ,cntP,jhM x l,cntP];omega
theorem jlp {l:List Int} (h : ∀ x∈l,0<=x):0<=cntP l/\cntP l<=l.length:=by
 induction l with
 | nil=>simp [cntP]
 | cons x l ih=>
  have h1:=h x Zd
  have h2:=ih fun y hy=>h y (by simp [hy])
  rw [cntP,List.length_cons];omega
theorem jkV (ws:Ws) (l:List (Int × Int)) : ∀ x∈polL ws l,0<=x:=by
 intro x hx
 obtain ⟨p,_,rfl⟩:=List.mem_map.1 hx
 exact (jiY _ _ _).1
theorem jjV {ws:Ws} {l:List (Int × Int)} {i:Nat} {p:Int × Int} (hp:l[i]?=some p):polL ws (l.take (i+1))=polL ws (l.take i)++[jcL (rdyS ws p.1) p.1 p.2]:=by
 unfold polL
 rw [List.take_add_one,hp];simp
section
variable {cl:Nat->Call} (hcl:Sem cl) {h:H} {w s:Nat} {ow:Nat->Nat} {ws:Ws} {now:Int} {tb:Tb} {no:Option (Nat × Nat)}
include hcl
theorem jnE {d n:Nat} {a:Option (Nat × Nat)} {c:Cap} (hd:1<=d):cl d (.fn 202) [.p w 0,.slice a n c] h=some (.clo 203 [.p (h.nx+1) 0,.p h.nx 0],(h.new (.cells [.p w 0] false)).new (.cells [.slice a n c] false)):=by
 refine jan (aT hcl ?_)
 refine qm ?_
 exact ⟨rfl,rfl⟩
theorem pl_poll {d:Nat} {v:V} {l:List (Int × Int)} (hd:10<=d) (a:WSt h w s ow ws now tb no) (o:WsOk ws) (hv:VP h v l) (hf:jnY l) (hl:l.length<=1000) :
  ∃ v' h',cl d (.fn 199) [.p w 0,v] h=some (v',h')/\Old h h'/\((¬ mayP l/\v' = .tup [.nils,.i 0,.i 2])\/(mayP l /\ ∃ ov,v' = .tup [ov,.i (cntP (polL ws l)),.i 0]/\Row h.nx h' 1 ov l.length (ints (polL ws l)))):=by
 obtain ⟨h1,e1,o1⟩:=jo9 hcl (d:=d-1) (w:=w) om hv hf om
 by_cases hm:mayP l
 case neg=>
  rw [zF hm] at e1
  refine aT hcl ?_
  clear hf
  refine Ga ?_
  exact ⟨o1,.inl ⟨hm,rfl⟩⟩
 rw [zG hm] at e1
 obtain ⟨av,cv,rfl,_⟩:=id hv
 refine aT hcl ?_
 clear hf
 refine qm ?_
 refine zaw rfl (jnE hcl (w:=w) om) ?_
 refine Ga ?_
 have oH:Old h1 ((((h1.new (.cells [.nils] false)).new (.cells [.i 0] false)).set (h1.nx+1) (.cells [.i 0] false)).new (.cells [.p w 0] false)):=((ZD h1).new.new.set om).new
 have oH:Old h1 (((((h1.new (.cells [.nils] false)).new (.cells [.i 0] false)).set (h1.nx+1) (.cells [.i 0] false)).new (.cells [.p w 0] false)).new (.cells [.slice av l.length cv] false)):=oH.new
 have b0:(((((h1.new (.cells [.nils] false)).new (.cells [.i 0] false)).set (h1.nx+1) (.cells [.i 0] false)).new (.cells [.p w 0] false)).new (.cells [.slice av l.length cv] false)).get h1.nx=some (.cells [.nils] false):=qgt
 have b1:(((((h1.new (.cells [.nils] false)).new (.cells [.i 0] false)).set (h1.nx+1) (.cells [.i 0] false)).new (.cells [.p w 0] false)).new (.cells [.slice av l.length cv] false)).get (h1.nx+1)=some (.cells [.i 0] false):=qgt
 have b2:(((((h1.new (.cells [.nils] false)).new (.cells [.i 0] false)).set (h1.nx+1) (.cells [.i 0] false)).new (.cells [.p w 0] false)).new (.cells [.slice av l.length cv] false)).get (h1.nx+2)=some (.cells [.p w 0] false):=qgt
 have b3:(((((h1.new (.cells [.nils] false)).new (.cells [.i 0] false)).set (h1.nx+1) (.cells [.i 0] false)).new (.cells [.p w 0] false)).new (.cells [.slice av l.length cv] false)).get (h1.nx+3)=some (.cells [.slice av l.length cv] false):=qgt
 have x1:(((((h1.new (.cells [.nils] false)).new (.cells [.i 0] false)).set (h1.nx+1) (.cells [.i 0] false)).new (.cells [.p w 0] false)).new (.cells [.slice av l.length cv] false)).nx=h1.nx+4:=rfl
 change Run (cl (d-1)) fuel _ _ [(8,.p h1.nx 0),(9,.p (h1.nx+1) 0),(19,.clo 203 [.p (h1.nx+3) 0,.p (h1.nx+2) 0])] (((((h1.new (.cells [.nils] false)).new (.cells [.i 0] false)).set (h1.nx+1) (.cells [.i 0] false)).new (.cells [.p w 0] false)).new (.cells [.slice av l.length cv] false)) _
 generalize ((((h1.new (.cells [.nils] false)).new (.cells [.i 0] false)).set (h1.nx+1) (.cells [.i 0] false)).new (.cells [.p w 0] false)).new (.cells [.slice av l.length cv] false)=H1 at oH b0 b1 b2 b3 x1 ⊢
 have hx1:=o1.1
 refine Zz rfl qkp fun LO hLO=>?_
 rw [x1]
 have oL:Old h1 (H1.new (LO .ready none)):=oH.new
 obtain ⟨v',h',hc,hIJ⟩:=jjW hcl (d:=d-1) (L:=h1.nx+4) (c2:=h1.nx+2) (c3:=h1.nx+3) (h:=H1.new (LO .ready none)) (v := .slice av l.length cv) (l:=l) (w:=w) (s:=s) (ow:=ow) (ws:=ws) (now:=now) (tb:=tb) (no:=no) om o hm.2 hl
  (fun i g=>i<=l.length/\(∃ sv,g.get h1.nx=some (.cells [sv] false)/\Row (h1.nx+5) g 1 sv i (ints (polL ws (l.take i))))/\g.get (h1.nx+1)=some (.cells [.i (cntP (polL ws (l.take i)))] false)/\g.get (h1.nx+2)=some (.cells [.p w 0] false)/\g.get (h1.nx+3)=some (.cells [.slice av l.length cv] false)/\g.get (h1.nx+4)=some (LO .ready none)/\h1.nx+5<=g.nx/\Old h1 g)
  (fun _=>False)
  (fun i g ⟨_,_,_,p2,p3,_,p5,p6⟩=>⟨(a.old o1).old p6,(hv.keep o1).keep p6,p3,p2,by omega⟩)
  (by
   rintro i g g' ⟨p00,⟨sv,p0,pr⟩,p1,p2,p3,p4,p5,p6⟩ og
   exact ⟨p00,⟨sv,by rw [og.2 _ om,p0],pr.keep og.1 fun z hz=>og.2 z (pr.at_ge hz).2⟩,by rw [og.2 _ om,p1],by rw [og.2 _ om,p2],by rw [og.2 _ om,p3],by rw [og.2 _ om,p4],zE p5 og.1,p6.trans og⟩)
  (by
   rintro i g p hp ⟨p00,⟨sv,p0,pr⟩,p1,p2,p3,p4,p5,p6⟩
   have hlt:i<l.length:=by
    rcases zA i l.length with h | h
    ·exact h
    ·rw [zc h] at hp;cases hp
   have et:=jjV (ws:=ws) hp
   have hcn:=jlp (jkV ws (l.take i))
   rw [polL_len,List.length_take] at hcn
   have hx:=jiY (rdyS ws p.1) p.1 p.2
   rw [et]
   generalize polL ws (l.take i)=pl at p1 pr hcn ⊢
   generalize jcL (rdyS ws p.1) p.1 p.2=px at hx ⊢
   have ec:=jhM px pl
   have p2x:g.get (h1.nx+2)=some (.cells [.p w 0] false):=p2
   refine ⟨true,?_⟩
   suffices q : ∃ v' g',cl (d-1-1) (.yld (h1.nx+4)) [.i px] g=some (v',g')/\(v' = .bool true/\(i+1<=l.length/\(∃ sv,g'.get h1.nx=some (.cells [sv] false)/\Row (h1.nx+5) g' 1 sv (i+1) (ints (pl++[px])))/\g'.get (h1.nx+1)=some (.cells [.i (cntP (pl++[px]))] false)/\g'.get (h1.nx+2)=some (.cells [.p w 0] false)/\g'.get (h1.nx+3)=some (.cells [.slice av l.length cv] false)/\g'.get (h1.nx+4)=some (LO .ready none)/\h1.nx+5<=g'.nx/\Old h1 g')) by
    obtain ⟨_,g',e,rfl,q⟩:=q
    exact ⟨g',e,fun _=>q,fun e=>by cases e⟩
   obtain ⟨cp,⟨asv,rfl⟩,_⟩:=pr.shape
   refine yl_ hcl om hLO p4 rfl ?_
   clear a hv hm o hp p2 et
   refine Ga ?_
   refine Zv ⟨rfl,p4,?_⟩
   have pr2:Row (h1.nx+5) (g.set (h1.nx+4) (LO .busy none)) 1 (.slice asv i cp) i (ints pl):=pr.keep Zd fun z hz=>by have:=pr.at_ge hz;exact jaa om
   refine Ga ?_
   refine Ops.push (N:=h1.nx+5) (new:=[.i px]) rfl rfl rfl rfl om rfl rfl pr2 (by simpa using p5) om om fun v2 g2 row' hx' hz' hk'=>?_
   have hx':g.nx<=g2.nx:=by simpa using hx'
   have hk2 : ∀ j,j<h1.nx+5->g2.get j=(g.set (h1.nx+4) (LO .busy none)).get j:=fun j hj=>hk' j Zc fun e=>by have:=pr2.at_ge e;omega
   have q0:g2.get h1.nx=some (.cells [.slice asv i cp] false):=by rw [hk2 _ om,jaa om,p0]
   have q1:g2.get (h1.nx+1)=some (.cells [.i (cntP pl)] false):=by rw [hk2 _ om,jaa om,p1]
   have hone:=row'.one
   refine zcs rfl rfl hone q0 zP ?_
   refine Ga ?_
   refine zcs (l:=[.i (cntP pl)]) rfl rfl rfl (by rw [jaa om,q1]) zP ?_
   refine Ga ?_
   refine Zv ⟨⟨.busy,none,by rw [jaa om,jaa om,hk2 _ om,jab]⟩,rfl,by omega,⟨v2,?_,?_⟩,?_,?_,?_,jab _,by simp;omega,?_⟩
   ·rw [jaa om,jaa om];exact jab _
   ·have r2:Row (h1.nx+5) g2 1 v2 (i+1) (ints (pl++[px])):=by simpa [ints] using row'
    exact r2.keep Zd fun z hz=>by have:=hz' z hz;simp at this;rw [jaa om,jaa om,jaa om]
   ·rw [jaa om,ec];exact jab _
   ·rw [jaa om,jaa om,jaa om,hk2 _ om,jaa om,p2x]
   ·rw [jaa om,jaa om,jaa om,hk2 _ om,jaa om,p3]
   ·have p7:=p6.1
    exact ⟨by simp;omega,fun j hj=>by rw [jaa om,jaa om,jaa om,hk2 _ om,jaa om,p6.2 j hj]⟩)
  ⟨by omega,⟨.nils,by rw [jac om,b0],by simpa [polL] using Row.nil _ _ _⟩,by rw [jac om,b1];simp [polL,cntP],by rw [jac om,b2],by rw [jac om,b3],by rw [<- x1,jad],by simp [x1],oL⟩
 refine hIJ.elim ?_ fun hF=>hF.elim
 rintro ⟨p00,⟨sv,p0,pr⟩,p1,p2,p3,p4,p5,p6⟩
 rw [List.take_length] at p1 pr
 refine ⟨v',h',hc,.normal,p4,?_⟩
 have k0:(h'.kill (h1.nx+4)).get h1.nx=some (.cells [sv] false):=by rw [jae om,p0]
 have k1:(h'.kill (h1.nx+4)).get (h1.nx+1)=some (.cells [.i (cntP (polL ws l))] false):=by rw [jae om,p1]
 have o9:Old h (h'.kill (h1.nx+4)):=⟨by have:=p6.1;show h.nx<=h'.nx;omega,fun j hj=>by rw [jae om,p6.2 j om,o1.2 j hj]⟩
 have r9:Row h.nx (h'.kill (h1.nx+4)) 1 sv l.length (ints (polL ws l)):=by
  rcases pr with r | ⟨q,q1,q2,e,q4,q5⟩
  ·exact .inl r
  ·exact .inr ⟨q,by omega,q2,e,by rw [jae om,q4],q5⟩
 obtain ⟨cp,⟨asv,rfl⟩,_⟩:=pr.shape
 clear a hv o hLO
 refine Ga ?_
 exact ⟨o9,.inr ⟨hm,_,rfl,r9⟩⟩
end
theorem jlZ : ∀ a b:List Int,cntP (a++b)=cntP a+cntP b
 | [],b=>by simp [cntP]
 | x :: a,b=>by rw [zZ,cntP,jlZ a b,cntP];omega
theorem cntP_take {l:List Int} (h : ∀ x∈l,0<=x) (n:Nat):cntP (l.take n)<=cntP l:=by
 have e:=jlZ (l.take n) (l.drop n)
 rw [List.take_append_drop] at e
 have:=(jlp (l:=l.drop n) fun x hx=>h x (List.mem_of_mem_drop hx)).1
 omega
theorem jmE (ws:Ws) (l:List (Int × Int)) (i:Nat):polL ws (l.take i)=(polL ws l).take i:=by
 unfold polL;rw [List.map_take]
section
variable {cl:Nat->Call} (hcl:Sem cl) {h:H} {w s:Nat} {ow:Nat->Nat} {ws:Ws} {now:Int} {tb:Tb} {no:Option (Nat × Nat)}
include hcl
theorem pl_holds {d:Nat} {v:V} {l:List (Int × Int)} (hd:10<=d) (a:WSt h w s ow ws now tb no) (o:WsOk ws) (hv:VP h v l) (hf:jnY l) (hl:l.length<=1000) :
  ∃ h',cl d (.fn 198) [.p w 0,v] h=some (.bool (if mayP l then decide (0<cntP (polL ws l)) else true),h')/\Old h h':=by
 suffices q : ∃ v' h',cl d (.fn 198) [.p w 0,v] h=some (v',h')/\(v' = .bool (if mayP l then decide (0<cntP (polL ws l)) else true)/\Old h h') by
  obtain ⟨_,h',e,rfl,q⟩:=q;exact ⟨h',e,q⟩
 obtain ⟨h1,e1,o1⟩:=jo9 hcl (d:=d-1) (w:=w) om hv hf om
 by_cases hm:mayP l
 case neg=>
  rw [zF hm] at e1 ⊢
  refine aT hcl ?_
  clear hf
  refine Ga ?_
  exact ⟨rfl,o1⟩
 rw [zG hm] at e1 ⊢
 obtain ⟨av,cv,rfl,_⟩:=id hv
 refine aT hcl ?_
 clear hf
 refine qm ?_
 refine zaw rfl (jnE hcl (w:=w) om) ?_
 refine Ga ?_
 have oH:Old h1 ((((h1.new (.cells [.bool false] false)).set h1.nx (.cells [.bool false] false)).new (.cells [.p w 0] false)).new (.cells [.slice av l.length cv] false)):=((ZD h1).new.set (zr _)).new.new
 have b0:((((h1.new (.cells [.bool false] false)).set h1.nx (.cells [.bool false] false)).new (.cells [.p w 0] false)).new (.cells [.slice av l.length cv] false)).get h1.nx=some (.cells [.bool false] false):=qgt
 have b2:((((h1.new (.cells [.bool false] false)).set h1.nx (.cells [.bool false] false)).new (.cells [.p w 0] false)).new (.cells [.slice av l.length cv] false)).get (h1.nx+1)=some (.cells [.p w 0] false):=qgt
 have b3:((((h1.new (.cells [.bool false] false)).set h1.nx (.cells [.bool false] false)).new (.cells [.p w 0] false)).new (.cells [.slice av l.length cv] false)).get (h1.nx+2)=some (.cells [.slice av l.length cv] false):=qgt
 have x1:((((h1.new (.cells [.bool false] false)).set h1.nx (.cells [.bool false] false)).new (.cells [.p w 0] false)).new (.cells [.slice av l.length cv] false)).nx=h1.nx+3:=rfl
 change Run (cl (d-1)) fuel _ _ [(5,.p h1.nx 0),(13,.clo 203 [.p (h1.nx+2) 0,.p (h1.nx+1) 0])] ((((h1.new (.cells [.bool false] false)).set h1.nx (.cells [.bool false] false)).new (.cells [.p w 0] false)).new (.cells [.slice av l.length cv] false)) _
 generalize (((h1.new (.cells [.bool false] false)).set h1.nx (.cells [.bool false] false)).new (.cells [.p w 0] false)).new (.cells [.slice av l.length cv] false)=H1 at oH b0 b2 b3 x1 ⊢
 have hx1:=o1.1
 refine Zz rfl qkp fun LO hLO=>?_
 rw [x1]
 have oL:Old h1 (H1.new (LO .ready none)):=oH.new
 obtain ⟨v',h',hc,hIJ⟩:=jjW hcl (d:=d-1) (L:=h1.nx+3) (c2:=h1.nx+1) (c3:=h1.nx+2) (h:=H1.new (LO .ready none)) (v := .slice av l.length cv) (l:=l) (w:=w) (s:=s) (ow:=ow) (ws:=ws) (now:=now) (tb:=tb) (no:=no) om o hm.2 hl
  (fun i g=>cntP (polL ws (l.take i))=0/\g.get h1.nx=some (.cells [.bool false] false)/\g.get (h1.nx+1)=some (.cells [.p w 0] false)/\g.get (h1.nx+2)=some (.cells [.slice av l.length cv] false)/\g.get (h1.nx+3)=some (LO .ready none)/\h1.nx+4<=g.nx/\Old h1 g)
  (fun g=>0<cntP (polL ws l)/\g.get h1.nx=some (.cells [.bool true] false)/\g.get (h1.nx+3)=some (LO .done (some (.exit 0)))/\h1.nx+4<=g.nx/\Old h1 g)
  (fun i g ⟨_,_,p2,p3,_,p5,p6⟩=>⟨(a.old o1).old p6,(hv.keep o1).keep p6,p3,p2,by omega⟩)
  (by
   rintro i g g' ⟨p00,p0,p2,p3,p4,p5,p6⟩ og
   exact ⟨p00,by rw [og.2 _ om,p0],by rw [og.2 _ om,p2],by rw [og.2 _ om,p3],by rw [og.2 _ om,p4],zE p5 og.1,p6.trans og⟩)
  (by
   rintro i g p hp ⟨p00,p0,p2,p3,p4,p5,p6⟩
   have et:=jjV (ws:=ws) hp
   have hx:=jiY (rdyS ws p.1) p.1 p.2
   have ec:=jhM (jcL (rdyS ws p.1) p.1 p.2) (polL ws (l.take i))
   rw [<- et] at ec
   have hle:=cntP_take (jkV ws l) (i+1)
   rw [<- jmE] at hle
   generalize jcL (rdyS ws p.1) p.1 p.2=px at hx ec ⊢
   suffices q : ∃ v' g',cl (d-1-1) (.yld (h1.nx+3)) [.i px] g=some (v',g') /\ ∃ b:Bool,v' = .bool b/\(b=true->cntP (polL ws (l.take (i+1)))=0/\g'.get h1.nx=some (.cells [.bool false] false)/\g'.get (h1.nx+1)=some (.cells [.p w 0] false)/\g'.get (h1.nx+2)=some (.cells [.slice av l.length cv] false)/\g'.get (h1.nx+3)=some (LO .ready none)/\h1.nx+4<=g'.nx/\Old h1 g') /\
     (b=false->0<cntP (polL ws l)/\g'.get h1.nx=some (.cells [.bool true] false)/\g'.get (h1.nx+3)=some (LO .done (some (.exit 0)))/\h1.nx+4<=g'.nx/\Old h1 g') by
    obtain ⟨_,g',e,b,rfl,q⟩:=q
    exact ⟨b,g',e,q⟩
   refine yl_ hcl om hLO p4 rfl ?_
   clear a hv hm o hp et
   refine Ga ?_
   refine Zv ⟨rfl,p4,?_⟩
   by_cases hz:px=0
   ·refine Ga ?_
    refine Zv ⟨⟨.busy,none,qgt⟩,true,rfl,fun _=>⟨by omega,?_,?_,?_,jab _,by simpa using p5,(p6.set om).set om⟩,fun e=>by cases e⟩
    ·rw [jaa om,jaa om,p0]
    ·rw [jaa om,jaa om,p2]
    ·rw [jaa om,jaa om,p3]
   ·refine Ga ?_
    refine zcs (l:=[.bool false]) rfl rfl rfl (by rw [jaa om,p0]) zP ?_
    refine Ga ?_
    refine Zv ⟨⟨.busy,none,by rw [jaa om,jab]⟩,false,rfl,fun e=>(by cases e),fun _=>⟨by omega,?_,jab _,by simpa using p5,((p6.set om).set om).set om⟩⟩
    rw [jaa om];exact jab _)
  ⟨by simp [polL,cntP],by rw [jac om,b0],by rw [jac om,b2],by rw [jac om,b3],by rw [<- x1,jad],by simp [x1],oL⟩
 clear a hv o
 rcases hIJ with ⟨p00,p0,p2,p3,p4,p5,p6⟩ | ⟨p00,p0,p4,p5,p6⟩
 ·rw [List.take_length] at p00
  rw [zH om]
  have k0:(h'.kill (h1.nx+3)).get h1.nx=some (.cells [.bool false] false):=by rw [jae om,p0]
  have o9:Old h (h'.kill (h1.nx+3)):=⟨by have:=p6.1;show h.nx<=h'.nx;omega,fun j hj=>by rw [jae om,p6.2 j om,o1.2 j hj]⟩
  refine ⟨v',h',hc,.normal,p4,?_⟩
  clear hLO
  refine Ga ?_
  exact ⟨rfl,o9⟩
 ·rw [zJ p00]
  have k0:(h'.kill (h1.nx+3)).get h1.nx=some (.cells [.bool true] false):=by rw [jae om,p0]
  have o9:Old h (h'.kill (h1.nx+3)):=⟨by have:=p6.1;show h.nx<=h'.nx;omega,fun j hj=>by rw [jae om,p6.2 j om,o1.2 j hj]⟩
  refine ⟨v',h',hc,.exit 0,p4,?_⟩
  clear hLO
  refine Ga ?_
  exact ⟨rfl,o9⟩
end
theorem Ops.invk {call:Call} {fuel base:Nat} {K:List Fr} {e:Env} {h h':H} {Q:Post} {ix:Nat} {dst:Option Nat} {ops:List Ins} {keep:List Nat} {at_:Option Nat} {tbl:List (TypeId × FuncId)} {x:Opd} {args:List Opd} {t t' f:Nat} {v r:V} {vs:List V}
  (hx:x.ev e=some (.iface t v)) (ha:evs e args=some vs) (hf:tbl.find? (fun p=>p.1 == t)=some (t',f)) (hc:call (.fn f) (v :: vs) h=some (r,h')) (k:Ops call fuel base ops keep K (layv e dst r) h' Q) :
  Ops call fuel base (⟨ix,dst,.invoke tbl x args,none,at_,[]⟩ :: ops) keep K e h Q :=
 Ops.step (Zw rfl (by simp only [I.eff,hx,ha,hf,hc])) k
theorem Ops.ixA1 {call:Call} {fuel base:Nat} {K:List Fr} {e:Env} {h:H} {Q:Post} {ix:Nat} {dst:Option Nat} {ops:List Ins} {keep:List Nat} {at_:Option Nat} {x i:Opd} {l:List V} {v:V} {kd:IntKind} {n sz len:Nat} (hx:x.ev e=some (.agg l)) (hi:i.ev e=some (.int kd (n:Int))) (hn:n<len) (hv:l[n*sz]?=some v)
  (k:Ops call fuel base ops keep K (layv e dst v) h Q):Ops call fuel base (⟨ix,dst,.ixA len sz none x i,none,at_,[]⟩ :: ops) keep K e h Q:=by
 refine zau rfl ?_ k
 have hb:jfM (n:Int) len=true:=jde.2 ⟨by omega,by omega⟩
 simp only [I.pure,hx,hi,hb,cond_true,part,zz,hv]
abbrev dz (w:Nat) (k:Int):List V:=dc w k (fun _=>0) 0
section
variable {cl:Nat->Call} (hcl:Sem cl) {d D w s:Nat} {h:H} {ow:Nat->Nat} {ws:Ws} {now:Int} {tb:Tb} {no:Option (Nat × Nat)} {k:Int}
include hcl
theorem jlW (hd:1<=d):cl d (.fn 48) [.p D 0] h=some (.clo 101 [.p h.nx 0],h.new (.cells [.p D 0] false)):=by
 refine jan (aT hcl ?_)
 refine qm ?_
 exact ⟨rfl,rfl⟩
end
theorem vp_of {h:H} {x:List (Int × Int)} {ad:Option (Nat × Nat)} {c:Cap} (hx:x≠[] -> ∃ b ro,ad=some (b,0)/\b<h.nx/\h.get b=some (.cells (jav x) ro)):VP h (.slice ad x.length c) x:=by
 refine ⟨ad,c,rfl,fun hn=>?_⟩
 obtain ⟨b,ro,rfl,h1,h2⟩:=hx hn
 exact ⟨b,0,_,ro,rfl,h1,h2,by rw [je8];omega,fun i p hp=>by rw [zS];exact je9 hp⟩
section
variable {cl:Nat->Call} (hcl:Sem cl)
include hcl
end
section
variable {cl:Nat->Call} (hcl:Sem cl)
include hcl
end
theorem vp_row {h:H} {v:V} {l:List (Int × Int)} {N:Nat} (r:Row N h 2 v l.length (jav l)):VP h v l:=by
 rcases r with ⟨h1,h2,rfl⟩ | ⟨b,h1,h2,rfl,h4,h5⟩
 ·have:l=[]:=by simpa using h1
  subst this
  exact ⟨none,.fix 0,rfl,fun e=>zM rfl e⟩
 ·exact vp_of fun _=>⟨b,false,rfl,h2,h4⟩
section
variable {call:Call} {fuel base:Nat} {K:List Fr} {e:Env} {h:H} {Q:Post} {ix:Nat} {dst:Option Nat} {ops:List Ins} {keep:List Nat}
end
section
variable {cl:Nat->Call} (hcl:Sem cl)
include hcl
end
end Am.Sigs
namespace Am
open Go Am.Sigs
structure Hd (p:Prop):Prop where
 g:p
structure Kc (h:H) (b:Nat) (l:List V) (ro:Bool):Prop where
 lt:b<h.nx
 at_:h.get b=some (.cells l ro)
theorem Kc.old {h h':H} {b:Nat} {l:List V} {ro:Bool} (k:Kc h b l ro) (o:Old h h'):Kc h' b l ro :=
 ⟨zu k.lt o.1,by rw [o.2 _ k.lt,k.at_]⟩
section
variable {call:Call} {fuel base:Nat} {K:List Fr} {e:Env} {h h' h0:H} {Q:Post} {ix:Nat} {dst:Option Nat} {ops:List Ins} {keep:List Nat} {at_:Option Nat} {c:List (Nat × I × Option (Nat × Bool))}
theorem Run.region2 {ops:List Ins} {keep:List Nat} (k : ∀ HR,Old h HR->HR.nx=h.nx+2->Ops call fuel h.nx ops keep K e HR Q):Run call fuel (.region 2 ops keep) K e h Q :=
 Run.region (k _ ⟨by simp [H.reserve],fun _ _=>rfl⟩ rfl)
end
end Am
namespace Am
open Go Am.Sigs
section
variable {call:Call} {fuel base:Nat} {K:List Fr} {e:Env} {h h' h0:H} {Q:Post} {ix:Nat} {dst:Option Nat} {ops:List Ins} {keep:List Nat} {at_:Option Nat} {c:List (Nat × I × Option (Nat × Bool))}
theorem Ops.mk2S {x y:Opd} {f g:Nat->Bool} {d1 d2 i1 i2 i3 i4:Nat} {h8:H} (o:Old h8 h) (hn:h8.nx+2<=h.nx) (h12:d2≠d1) (hx:x.ev ((d2,.p (h8.nx+1) 0) :: (d1,.p (h8.nx+0) 0) :: e)=some (.agg (setV f))) (hy:y.ev ((d2,.p (h8.nx+1) 0) :: (d1,.p (h8.nx+0) 0) :: e)=some (.agg (setV g)))
  (kk : ∀ H5,Old h8 H5->Kc H5 (h8.nx+0) (setV f) false->Kc H5 (h8.nx+1) (setV g) false->H5.nx=h.nx->Ops call fuel h8.nx ops keep K ((d2,.p (h8.nx+1) 0) :: (d1,.p (h8.nx+0) 0) :: e) H5 Q) :
  Ops call fuel h8.nx (⟨i1,some d1,.alloc 2 [.int .u32 0,.int .u32 0],none,some 0,[]⟩ :: ⟨i2,some d2,.alloc 2 [.int .u32 0,.int .u32 0],none,some 1,[]⟩ :: ⟨i3,none,.store 2 (.t d1) x,none,none,[]⟩ :: ⟨i4,none,.store 2 (.t d2) y,none,none,[]⟩ :: ops) keep K e h Q:=by
 have e1:(Opd.t d1).ev ((d2,.p (h8.nx+1) 0) :: (d1,.p (h8.nx+0) 0) :: e)=some (.p (h8.nx+0) 0):=by
  have hb:Nat.beq d2 d1=false:=by
   cases hh:Nat.beq d2 d1
   ·rfl
   ·exact zM (Nat.eq_of_beq_eq_true hh) h12
  simp [Opd.ev,Env.get,hb]
 refine Ops.make_at rfl rfl (Ops.make_at rfl rfl ?_)
 refine zct (b:=h8.nx+0) (o:=0) (l:=[.int .u32 0,.int .u32 0]) e1 hx rfl rfl (by rw [jaa om,jab]) (zw rfl) ?_
 rw [jas (setV f) [.int .u32 0,.int .u32 0] rfl]
 refine zct (b:=h8.nx+1) (o:=0) (l:=[.int .u32 0,.int .u32 0]) (by simp [layv,Opd.ev,Env.get]) hy rfl rfl (by rw [jaa om,jab]) (zw rfl) ?_
 rw [jas (setV g) [.int .u32 0,.int .u32 0] rfl]
 exact kk _ ((((o.set om).set om).set om).set om) ⟨by show h8.nx+0<h.nx;omega,by rw [jaa om,jab]⟩ ⟨by show h8.nx+1<h.nx;omega,jab _⟩ rfl
end
end Am
namespace Am.Sigs
open Am Go
section
variable {cl:Nat->Call} (hcl:Sem cl) {f g:Nat->Bool} {h:H}
include hcl
end
section
variable {cl:Nat->Call} (hcl:Sem cl)
include hcl
variable {h:H} {w s:Nat} {ow:Nat->Nat} {ws:Ws} {now:Int} {tb:Tb} {no:Option (Nat × Nat)} {f g:Nat->Bool}
end
def ja8:Bool->Bool->Int
 | false,false=>0
 | true,false=>2
 | false,true=>4
 | true,true=>6
def evI:Bool->Bool->Int
 | false,false=>0
 | true,false=>1
 | false,true=>4
 | true,true=>5
theorem evI_may (a b:Bool):jeM (evI a b):=by cases a<;>cases b<;>simp [jeM,evI]
theorem polI (r:Rdy) (m:Nat) (a b:Bool) (ho:r.op=true):jcL r (m:Int) (evI a b)=b2i r.hup 16+b2i (r.inn&&a) 1+b2i (r.out&&b) 4+b2i r.err 8:=by
 unfold jcL
 rw [zF om,zF (by rw [ho];decide)]
 cases a<;>cases b<;>simp [evI]
def tI (hup p q err:Bool):Int:=b2i hup 16+b2i p 1+b2i q 4+b2i err 8
theorem tI_nval (hup p q err:Bool):IntKind.i64.wrap ((BitVec.ofInt 64 (tI hup p q err) &&& BitVec.ofInt 64 32).toNat:Int)=0:=by
 cases hup<;>cases p<;>cases q<;>cases err<;>decide
theorem tI_in (hup p q err:Bool):IntKind.i64.wrap ((BitVec.ofInt 64 (tI hup p q err) &&& BitVec.ofInt 64 25).toNat:Int)=0↔(p||hup||err)=false:=by
 cases hup<;>cases p<;>cases q<;>cases err<;>decide
theorem tI_out (hup p q err:Bool):IntKind.i64.wrap ((BitVec.ofInt 64 (tI hup p q err) &&& BitVec.ofInt 64 28).toNat:Int)=0↔(q||hup||err)=false:=by
 cases hup<;>cases p<;>cases q<;>cases err<;>decide
theorem jo3 (hup p q err:Bool):tI hup p q err=0↔(p||hup||err)=false/\(q||hup||err)=false:=by
 cases hup<;>cases p<;>cases q<;>cases err<;>decide
def flI (a b:Bool) (r:Rdy):Int:=ja8 (a&&inR r) (b&&outR r)
def jox (F:Nat->Bool) (a:Bool) (m:Nat):Nat->Bool:=if a then jcU F (m:Int) else F
theorem jeH {F:Nat->Bool} {a:Bool} {m:Nat} (hm:m<64) (i:Nat):jox F a m i=(F i||(a&&decide (i=m))):=by
 unfold jox
 cases a
 ·simp
 ·rw [zG rfl,jcU,zG (show fitS (m:Int) from ⟨by omega,by omega⟩),zz]
  simp [addS]
abbrev AskP:=Nat × Bool × Bool
def jbX (P:List AskP):List (Int × Int):=P.map fun x=>((x.1:Int),evI x.2.1 x.2.2)
structure PInv (ws:Ws) (F G:Nat->Bool) (P:List AskP):Prop where
 el : ∀ x∈P,x.1<64/\(rdyS ws (x.1:Int)).op=true/\F x.1=x.2.1/\G x.1=x.2.2/\(x.2.1||x.2.2)=true
 all : ∀ m,m<64->(F m||G m)=true -> ∃ x∈P,x.1=m
theorem PInv.none (ws:Ws):PInv ws (fun _=>false) (fun _=>false) []:=⟨fun x hx=>by (cases hx),fun m _ h=>by simp at h⟩
theorem PInv.add {ws:Ws} {F G:Nat->Bool} {P:List AskP} (p:PInv ws F G P) {m:Nat} {a b:Bool} (hm:m<64) (ho:(rdyS ws (m:Int)).op=true) (hF:F m=false) (hG:G m=false) (hab:(a||b)=true) :
  PInv ws (jox F a m) (jox G b m) (P++[(m,a,b)]):=by
 refine ⟨fun x hx=>?_,fun i hi h=>?_⟩
 ·rcases zR.1 hx with hx | hx
  ·obtain ⟨h1,h2,h3,h4,h5⟩:=p.el x hx
   have hne:x.1≠m:=fun e=>by rw [e] at h3 h4;rw [<- h3,<- h4,hF,hG] at h5;cases h5
   exact ⟨h1,h2,by rw [jeH hm,h3];simp [hne],by rw [jeH hm,h4];simp [hne],h5⟩
  ·obtain rfl:x=(m,a,b):=by simpa using hx
   exact ⟨hm,ho,by rw [jeH hm,hF];simp,by rw [jeH hm,hG];simp,hab⟩
 ·rw [jeH hm,jeH hm] at h
  by_cases e:i=m
  ·exact ⟨(m,a,b),by simp,e.symm⟩
  ·obtain ⟨x,hx,hx2⟩:=p.all i hi (by simpa [e] using h)
   exact ⟨x,by simp [hx],hx2⟩
theorem jjp {f:Nat->Bool} : ∀ {n:Nat},0<cntS f n ↔ ∃ i,i<n/\f i=true
 | 0=>by simp [cntS]
 | n+1=>by
  have ih:=jjp (f:=f) (n:=n)
  rw [cntS]
  constructor
  ·intro h
   by_cases hf:f n=true
   ·exact ⟨n,by omega,hf⟩
   ·rw [zF hf] at h
    obtain ⟨i,hi,h2⟩:=ih.1 om
    exact ⟨i,by omega,h2⟩
  ·rintro ⟨i,hi,h2⟩
   by_cases e:i=n
   ·rw [<- e,zG h2];omega
   ·have:=ih.2 ⟨i,by omega,h2⟩
    omega
theorem jlY : ∀ {l:List Int},(∀ x∈l,0<=x)->(0<cntP l ↔ ∃ x∈l,x≠0)
 | [],_=>by simp [cntP]
 | y :: l,h=>by
  have ih:=jlY (l:=l) fun x hx=>h x (by simp [hx])
  have h1:=(jlp (l:=l) fun x hx=>h x (by simp [hx])).1
  have h2:=h y Zd
  rw [cntP]
  constructor
  ·intro h3
   by_cases hy:y=0
   ·obtain ⟨x,hx,hx2⟩:=ih.1 om
    exact ⟨x,by simp [hx],hx2⟩
   ·exact ⟨y,by simp,hy⟩
  ·rintro ⟨x,hx,hx2⟩
   rcases Zn.1 hx with rfl | hx
   ·omega
   ·have:=ih.2 ⟨x,hx,hx2⟩
    omega
theorem PInv.err {ws:Ws} {F G:Nat->Bool} {P:List AskP} (p:PInv ws F G P):jch ws F G 64=0:=by
 unfold jch
 rw [zF om,zF]
 rintro ⟨m,hm,ha,hr⟩
 simp only [askS,jdf,orS,zq] at ha
 obtain ⟨x,hx,rfl⟩:=p.all m hm ha.1
 rw [(p.el x hx).2.1] at hr
 cases hr
theorem PInv.sel {ws:Ws} {F G:Nat->Bool} {P:List AskP} (p:PInv ws F G P) {x:AskP} (hx:x∈P):selS ws F inR 64 x.1=(x.2.1&&inR (rdyS ws (x.1:Int)))/\selS ws G outR 64 x.1=(x.2.2&&outR (rdyS ws (x.1:Int))):=by
 obtain ⟨h1,_,h3,h4,_⟩:=p.el x hx
 unfold selS
 rw [zJ (show (x.1:Int)<64 by omega),h3,h4]
 simp
theorem PInv.pol {ws:Ws} {F G:Nat->Bool} {P:List AskP} (p:PInv ws F G P) {x:AskP} (hx:x∈P):jcL (rdyS ws (x.1:Int)) (x.1:Int) (evI x.2.1 x.2.2)=tI (rdyS ws (x.1:Int)).hup ((rdyS ws (x.1:Int)).inn&&x.2.1) ((rdyS ws (x.1:Int)).out&&x.2.2) (rdyS ws (x.1:Int)).err :=
 polI _ _ _ _ (p.el x hx).2.1
theorem PInv.told {ws:Ws} {F G:Nat->Bool} {P:List AskP} (p:PInv ws F G P):0<cntS (selS ws F inR 64) 64+cntS (selS ws G outR 64) 64↔0<cntP (polL ws (jbX P)):=by
 rw [jlY (jkV _ _)]
 have key:(0<cntS (selS ws F inR 64) 64+cntS (selS ws G outR 64) 64) ↔ ∃ i,i<64/\(selS ws F inR 64 i||selS ws G outR 64 i)=true:=by
  have e1:=jjp (f:=selS ws F inR 64) (n:=64)
  have e2:=jjp (f:=selS ws G outR 64) (n:=64)
  constructor
  ·intro h
   by_cases h1:0<cntS (selS ws F inR 64) 64
   ·obtain ⟨i,a,b⟩:=e1.1 h1;exact ⟨i,a,by rw [b];rfl⟩
   ·obtain ⟨i,a,b⟩:=e2.1 om;exact ⟨i,a,by rw [b,Bool.or_true]⟩
  ·rintro ⟨i,a,b⟩
   rcases Bool.or_eq_true _ _ ▸ b with b | b
   ·have:=e1.2 ⟨i,a,b⟩;omega
   ·have:=e2.2 ⟨i,a,b⟩;omega
 rw [key]
 constructor
 ·rintro ⟨i,hi,h⟩
  have hFG:(F i||G i)=true:=by
   revert h
   unfold selS
   cases F i<;>cases G i<;>simp
  obtain ⟨x,hx,rfl⟩:=p.all i hi hFG
  refine ⟨_,List.mem_map.2 ⟨_,List.mem_map.2 ⟨x,hx,rfl⟩,rfl⟩,?_⟩
  rw [(p.sel hx).1,(p.sel hx).2] at h
  show jcL _ _ _≠0
  rw [p.pol hx,Ne,jo3]
  revert h
  unfold inR outR
  cases x.2.1<;>cases x.2.2<;>cases (rdyS ws (x.1:Int)).inn<;>cases (rdyS ws (x.1:Int)).out<;>cases (rdyS ws (x.1:Int)).hup<;>cases (rdyS ws (x.1:Int)).err<;>simp
 ·rintro ⟨t,ht,h0⟩
  obtain ⟨y,hy,rfl⟩:=List.mem_map.1 ht
  obtain ⟨x,hx,rfl⟩:=List.mem_map.1 hy
  obtain ⟨h1,_,h3,h4,h5⟩:=p.el x hx
  refine ⟨x.1,h1,?_⟩
  rw [(p.sel hx).1,(p.sel hx).2]
  have h0:jcL _ _ _≠0:=h0
  rw [p.pol hx,Ne,jo3] at h0
  revert h0 h5
  unfold inR outR
  cases x.2.1<;>cases x.2.2<;>cases (rdyS ws (x.1:Int)).inn<;>cases (rdyS ws (x.1:Int)).out<;>cases (rdyS ws (x.1:Int)).hup<;>cases (rdyS ws (x.1:Int)).err<;>simp
section
variable {cl:Nat->Call} (hcl:Sem cl) {h:H}
include hcl
theorem pl_wants {d:Nat} (hd:1<=d) (a b:Bool):cl d (.fn 98) [.i (ja8 a b)] h=some (.i (evI a b),h):=by
 refine jan (aT hcl ?_)
 cases a<;>cases b<;>simp only [ja8,evI]
 ·refine Ga ?_
  exact ⟨rfl,rfl⟩
 ·refine Ga ?_
  exact ⟨rfl,rfl⟩
 ·refine Ga ?_
  exact ⟨rfl,rfl⟩
 ·refine Ga ?_
  exact ⟨rfl,rfl⟩
theorem pl_flags {d:Nat} (hd:1<=d) (a b hup p q err:Bool):cl d (.fn 200) [.i (ja8 a b),.i (tI hup p q err)] h=some (.tup [.i (ja8 (a&&(p||hup||err)) (b&&(q||hup||err))),.i 0],h):=by
 refine jan (aT hcl ?_)
 have n0:IntKind.i64.wrap ((BitVec.ofInt IntKind.i64.bits (tI hup p q err) &&& BitVec.ofInt IntKind.i64.bits 32).toNat:Int)=0:=tI_nval hup p q err
 have n1:IntKind.i64.wrap ((BitVec.ofInt IntKind.i64.bits (tI hup p q err) &&& BitVec.ofInt IntKind.i64.bits 25).toNat:Int)=0↔(p||hup||err)=false:=tI_in hup p q err
 have n2:IntKind.i64.wrap ((BitVec.ofInt IntKind.i64.bits (tI hup p q err) &&& BitVec.ofInt IntKind.i64.bits 28).toNat:Int)=0↔(q||hup||err)=false:=tI_out hup p q err
 generalize tI hup p q err=t at *
 generalize (p||hup||err)=A at *
 generalize (q||hup||err)=B at *
 cases A<;>cases B
 ·have n1:=n1.2 rfl
  have n2:=n2.2 rfl
  refine Ga ?_
  exact ⟨by cases a<;>cases b<;>rfl,rfl⟩
 ·have n1:=n1.2 rfl
  have n2 : ¬ _:=fun e=>zM (n2.1 e) (by decide)
  refine Ga ?_
  exact ⟨by cases a<;>cases b<;>rfl,rfl⟩
 ·have n1 : ¬ _:=fun e=>zM (n1.1 e) (by decide)
  have n2:=n2.2 rfl
  refine Ga ?_
  exact ⟨by cases a<;>cases b<;>rfl,rfl⟩
 ·have n1 : ¬ _:=fun e=>zM (n1.1 e) (by decide)
  have n2 : ¬ _:=fun e=>zM (n2.1 e) (by decide)
  refine Ga ?_
  exact ⟨by cases a<;>cases b<;>rfl,rfl⟩
end
end Am.Sigs
namespace Am
section
variable {call:Call} {fuel base:Nat} {K:List Fr} {e:Env} {h:H} {Q:Post} {i1 i2 d1 d2:Nat} {ops:List Ins} {keep:List Nat}
theorem Ops.push_r {N sz bytes n:Nat} {x s:Opd} {xv sv:V} {zero cs new:List V} (hx:x.ev e=some xv) (hnew:xv.cells=new) (hl:new.length=sz) (h1:new.all V.one=true) (hz:1<=sz) (hzl:zero.length=sz)
  (hs:s.ev (layv e (some d1) (.slice (some (base+0,0)) 1 (.fix 1)))=some sv) (r:Row N h sz sv n cs) (hN:N<=h.nx) (hb:(n+1)*bytes<=2 ^ 46) (hn:n+1<=2 ^ 46) (hne:sv.at?≠some (base+0))
  (k : ∀ v' h',Row N h' sz v' (n+1) (cs++new)->h.nx<=h'.nx->(∀ q,v'.at?=some q->h.nx<=q)->(∀ j,j<h.nx->j≠base+0->sv.at?≠some j->h'.get j=h.get j) ->
   Ops call fuel base ops keep K (layv (layv e (some d1) (.slice (some (base+0,0)) 1 (.fix 1))) (some d2) v') h' Q) :
  Ops call fuel base (⟨i1,some d1,.bslice sz 1 zero [(0,x)],none,some 0,[]⟩ :: ⟨i2,some d2,.append sz bytes s (.t d1),none,none,[]⟩ :: ops) keep K e h Q:=by
 have hf:jaJ zero [(0*sz,sz,xv)]=some new:=by
  have e1:(xv.cells.length == sz&&Nat.ble (0*sz+sz) zero.length)=true:=by simp [hnew,hl,hzl]
  simp only [jaJ]
  rw [e1,cond_true,hnew,Nat.zero_mul,jas _ _ om]
 refine Ops.make_at (ob := .cells new false) (mk:=fun b=>.slice (some (b,0)) 1 (.fix 1)) rfl ?_ ?_
 ·simp only [I.make,jbE,List.map,hx,hf]
 ·have r':Row N (h.set (base+0) (.cells new false)) sz sv n cs:=r.keep Zd fun q hq=>jaa fun e=>hne (by rw [hq,e])
  obtain ⟨v',h',e1,e2,e3,e4,e5⟩:=jdA (bytes:=bytes) (cap := .fix 1) r' (by simpa using hN) (jab _) hl h1 hz hb hn hne
  refine Ops.step (h':=h') (v:=v') (Zw rfl ?_) (k v' h' e2 (by simp at e3;omega) (fun q hq=>?_) (fun j hj hb hv=>?_))
  ·have h2:(Opd.t d1).ev (layv e (some d1) (.slice (some (base+0,0)) 1 (.fix 1)))=some (.slice (some (base+0,0)) 1 (.fix 1)):=by
    simp [Opd.ev,layv,Env.get]
   simp only [I.eff,hs,h2,e1]
  ·rw [e4] at hq;cases hq;simp
  ·rw [e5 j (by simpa using hj) hv,jaa hb]
end
end Am
namespace Am.Sigs
open Am Go
def askL (fr fw:Nat->Bool):Nat->List AskP
 | 0=>[]
 | n+1=>askL fr fw n++if (fr n||fw n)=true then [(n,fr n,fw n)] else []
theorem jfO (fr fw:Nat->Bool) : ∀ n,(askL fr fw n).length<=n
 | 0=>zr _
 | n+1=>by
  have:=jfO fr fw n
  simp only [askL,zg]
  split<;>simp<;>omega
abbrev jiA (fr fw:Nat->Bool):Nat->Int:=fun i=>ja8 (fr i) (fw i)
abbrev dw (w:Nat) (k:Int) (fr fw:Nat->Bool):List V:=dc w k (jiA fr fw) 0
section
variable {cl:Nat->Call} (hcl:Sem cl) {d D w s:Nat} {h:H} {ow:Nat->Nat} {ws:Ws} {now:Int} {tb:Tb} {no:Option (Nat × Nat)} {k:Int} {fr fw:Nat->Bool}
include hcl
theorem ji2 {L c:Nat} (hd:2<=d) (I:Nat->H->Prop)
  (hc : ∀ i g,I i g->g.get c=some (.cells [.p D 0] false)/\g.get D=some (.cells (dw w k fr fw) false))
  (hskip : ∀ i g,i<96->(fr i||fw i)=false->I i g->I (i+1) g)
  (hy : ∀ i g,i<96->(fr i||fw i)=true->I i g -> ∃ g',cl (d-1) (.yld L) [.i (i:Int),.i (ja8 (fr i) (fw i))] g=some (.bool true,g')/\I (i+1) g')
  (h0:I 0 h) : ∃ h',cl d (.fn 101) [.yld L,.p c 0] h=some (.tup [],h')/\I 96 h':=by
 have hl:(dw w k fr fw).length=99:=jod
 have hn:(dw w k fr fw)[0+98]?=some (.i 0):=dc_n
 have hw:((dw w k fr fw).drop (0+2)).take 96=tab 96 (fun i=>V.i (jiA fr fw i)):=by
  show (tab 96 (fun i=>V.i (jiA fr fw i))++[V.i 0]).take 96=_
  rw [List.take_append_of_le_length Zd,zh Zd]
 obtain ⟨hc0,hD0⟩:=hc _ _ h0
 refine jai (aT hcl ?_)
 generalize dw w k fr fw=l at hc hD0 hl hn hw
 refine Ga ?_
 refine zcw rfl hD0 om ?_
 rw [hw]
 have ht : ∀ i:Nat,i<96->(tab 96 (fun i=>V.i (jiA fr fw i)))[i*1]?=some (.i (ja8 (fr i) (fw i))):=fun i hi=>by rw [Nat.mul_one,jcy hi]
 generalize tab 96 (fun i=>V.i (jiA fr fw i))=W at ht
 refine Ga ?_
 clear hc0 hD0 hw
 refine Zx (fun m e g=>∃ i:Nat,m=96-i/\i<=96/\e=[(0,.yld L),(1,.p c 0),(8,.agg W),(9,.i (i:Int))]/\I i g) (k:=96) Ze ⟨0,rfl,by omega,rfl,h0⟩ ?_
 rintro _ _ g ⟨i,rfl,hi,rfl,hI⟩ n ih
 by_cases hlt:i<96
 case neg=>
  obtain rfl:i=96:=by omega
  have hlt' : ¬ ((96:Nat):Int)<96:=by omega
  clear ih hy hskip hc
  refine Ga ?_
  exact ⟨rfl,hI⟩
 have hlt':(i:Int)<96:=by omega
 have hi1:(i:Int)+1=((i+1:Nat):Int):=by omega
 have hne : ¬ (i:Int)+1=0:=by omega
 have hx:=ht i hlt
 obtain ⟨gc,gD⟩:=hc _ _ hI
 clear ht hc
 cases hfg:(fr i||fw i) with
 | false=>
  have q:=hskip i g hlt hfg hI
  simp only [Bool.or_eq_false_iff] at hfg
  rw [hfg.1,hfg.2] at hx
  replace hx:W[i*1]?=some (.i 0):=hx
  clear hskip hy hI hfg
  refine Ga ?_
  refine Ops.ixA1 rfl rfl hlt hx ?_
  refine Ga ?_
  rw [hi1]
  exact ih (96-(i+1)) om _ _ ⟨i+1,rfl,by omega,rfl,q⟩
 | true=>
  obtain ⟨g',e3,q⟩:=hy i g hlt hfg hI
  have hw0 : ¬ ja8 (fr i) (fw i)=0:=by
   cases ha:fr i<;>cases hb:fw i
   ·rw [ha,hb] at hfg;cases hfg
   all_goals exact fun e=>by cases e
  generalize ja8 (fr i) (fw i)=wv at hx e3 hw0
  clear hskip hy hI hfg
  refine Ga ?_
  refine Ops.ixA1 rfl rfl hlt hx ?_
  refine Ga ?_
  refine Ops.yield rfl rfl e3 ?_
  refine Ga ?_
  rw [hi1]
  exact ih (96-(i+1)) om _ _ ⟨i+1,rfl,by omega,rfl,q⟩
end
abbrev zf:Nat->Bool:=fun _=>false
inductive KZ (k:Int) (v:V):Prop
 | sel (h:k=1) (e:v = .iface 172 (.agg [.int .u32 0,.int .u32 0,.int .u32 0,.int .u32 0]))
 | pol (h:k≠1) (e:v = .iface 174 .nils)
section
variable {cl:Nat->Call} (hcl:Sem cl) {d D w s:Nat} {h:H} {ow:Nat->Nat} {ws:Ws} {now:Int} {tb:Tb} {no:Option (Nat × Nat)} {k:Int}
include hcl
end
theorem Run.region1 {call:Call} {fuel:Nat} {K:List Fr} {e:Env} {h:H} {Q:Post} {ops:List Ins} {keep:List Nat} (k : ∀ HR,Old h HR->HR.nx=h.nx+1->Ops call fuel h.nx ops keep K e HR Q):Run call fuel (.region 1 ops keep) K e h Q :=
 Run.region (k _ ⟨by simp [H.reserve],fun _ _=>rfl⟩ rfl)
section
variable {cl:Nat->Call} (hcl:Sem cl) {d D w s:Nat} {h:H} {ow:Nat->Nat} {ws:Ws} {now:Int} {tb:Tb} {no:Option (Nat × Nat)} {k:Int}
include hcl
end
end Am.Sigs
namespace Am
theorem Ops.loadA {call:Call} {fuel base:Nat} {K:List Fr} {e:Env} {h:H} {Q:Post} {ix:Nat} {dst at_:Option Nat} {ops:List Ins} {keep:List Nat} {a:Opd} {b o n:Nat} {l v:List V} {ro:Bool} (ha:a.ev e=some (.ptr (some (b,o)))) (hb:h.get b=some (.cells l ro)) (hn:o+n<=l.length) (hv:(l.drop o).take n=v)
  (k:Ops call fuel base ops keep K (layv e dst (.agg v)) h Q):Ops call fuel base (⟨ix,dst,.loadN n a,none,at_,[]⟩ :: ops) keep K e h Q:=zcw ha hb hn (by rw [hv];exact k)
end Am
namespace Am.Sigs
open Am Go
inductive KD (h:H) (k:Int) (fr fw:Nat->Bool) (v:V):Prop
 | sel (hk:k=1) (e:v = .iface 172 (.agg (setV fr++setV fw)))
 | pol (hk:k≠1) (lv:V) (e:v = .iface 174 lv) (r:VP h lv (jbX (askL fr fw 96)))
theorem KD.keep {h h':H} {k:Int} {fr fw:Nat->Bool} {v:V} (a:KD h k fr fw v) (o:Old h h'):KD h' k fr fw v:=by
 obtain ⟨hk,e⟩ | ⟨hk,lv,e,r⟩:=a
 ·exact .sel hk e
 ·exact .pol hk lv e (r.keep o)
theorem jgX (l:List AskP):(jbX l).length=l.length:=by simp [jbX]
def Put (k:Int) (f R:Nat->Bool) (i:Nat):Prop:=k=1 -> ∀ m,m<64->R m=(f m&&decide (m<i))
theorem Put.zero {k:Int} {f:Nat->Bool} : Put k f (fun _=>false) 0:=fun _ m _=>by simp
theorem Put.skip {k:Int} {f R:Nat->Bool} {i:Nat} (p:Put k f R i) (h:f i=false):Put k f R (i+1):=fun hk m hm=>by
 rw [p hk m hm]
 by_cases e:m=i
 ·rw [e,h];rfl
 ·rw [show decide (m<i+1)=decide (m<i) by simp;omega]
theorem Put.add {k:Int} {f R:Nat->Bool} {i:Nat} (p:Put k f R i) (h:f i=true) (hb:k=1->i<64):Put k f (jcU R (i:Int)) (i+1):=fun hk m hm=>by
 have h6:=hb hk
 rw [jcU,zG (show fitS (i:Int) from ⟨by omega,by omega⟩),zz]
 show (R m||decide (m=i))=_
 rw [p hk m hm]
 by_cases e:m=i
 ·rw [e,h];simp
 ·rw [show decide (m<i+1)=decide (m<i) by simp;omega];simp [e]
section
variable {cl:Nat->Call} (hcl:Sem cl) {d D w s:Nat} {h:H} {ow:Nat->Nat} {ws:Ws} {now:Int} {tb:Tb} {no:Option (Nat × Nat)} {k:Int} {fr fw:Nat->Bool}
include hcl
theorem jln {g:H} {b3 b4 N i:Nat} {sv:V} {P:List AskP} {a b:Bool} (hd:1<=d) (hN:N<=g.nx) (l4:b4<N) (g4:g.get b4=some (.cells [sv] false)) (r:Row N g 2 sv P.length (jav (jbX P))) (hP:P.length<=96) {Q:Post}
  (kk : ∀ g' v2,g'.get b4=some (.cells [v2] false)->Row N g' 2 v2 (P++[(i,a,b)]).length (jav (jbX (P++[(i,a,b)])))->g.nx<=g'.nx->(∀ j,j<N->j≠b4->g'.get j=g.get j)->Q .normal [] g') :
  Run (cl d) fuel c45_1 [] [(4,.p b4 0),(5,.i (i:Int)),(6,.i (ja8 a b))] g Q/\Run (cl d) fuel c45_1 [] [(3,.p b3 0),(4,.p b4 0),(5,.i (i:Int)),(6,.i (ja8 a b)),(24,.bool false)] g Q:=by
 have e1:=fun G=>pl_wants hcl (d:=d) (h:=G) hd a b
 obtain ⟨cp,⟨asv,rfl⟩,_⟩:=id r.shape
 have rb:=fun z hz=>r.at_ge (q:=z) hz
 constructor
 all_goals
  refine Run.region1 fun HR oR xR=>?_
  have r4:HR.get b4=some (.cells [.slice asv P.length cp] false):=by rw [oR.2 _ om,g4]
  have rR:Row N HR 2 (.slice asv P.length cp) P.length (jav (jbX P)):=r.keep oR.1 fun z hz=>oR.2 z (r.at_ge hz).2
  repeat' (first|refine qxy ?_|(refine zsp ?_ ?_<;>intro _)|fail)
  refine Ops.callf_chk rfl (e1 _) ?_ ?_
  ·exact jaN rfl r4 rfl rfl jbn
  repeat' (first|refine qxy ?_|(refine zsp ?_ ?_<;>intro _)|fail)
  refine Ops.push_r (N:=N) (new:=[.i (i:Int),.i (evI a b)]) rfl rfl rfl rfl om rfl rfl rR om om om (fun e=>by have:=(rb _ e).2;omega) fun v2 g2 row' hx' hz' hk'=>?_
  have q4:g2.get b4=some (.cells [.slice asv P.length cp] false):=by rw [hk' _ om om (fun e=>by have:=(rb _ e).1;omega),r4]
  have hone:=row'.one
  refine zcs rfl rfl hone q4 zP ?_
  repeat' (first|refine qxy ?_|(refine zsp ?_ ?_<;>intro _)|fail)
  refine Zv (kk _ v2 (jab _) ?_ Zc fun j hj hb=>?_)
  ·have r2:Row N g2 2 v2 (P++[(i,a,b)]).length (jav (jbX (P++[(i,a,b)]))):=by simpa [jbX,jav] using row'
   exact r2.keep Zd fun z hz=>by have:=hz' z hz;exact jaa om
  ·rw [jaa hb,hk' _ om om (fun e=>by have:=(rb _ e).1;omega),oR.2 _ om]
theorem dk_body {g:H} {b3 b4 N i:Nat} {sv:V} {P:List AskP} {a b:Bool} {R S:Nat->Bool} (hd:3<=d) (hab:(a||b)=true) (hN:N<=g.nx) (l3:b3<N) (l4:b4<N) (ne:b3≠b4)
  (g3:g.get b3=some (.cells (setV R++setV S) false)) (g4:g.get b4=some (.cells [sv] false)) (r:Row N g 2 sv P.length (jav (jbX P))) (hP:P.length<=96) {Q:Post}
  (kk : ∀ g' v2,g'.get b3=some (.cells (setV (if a then jcU R (i:Int) else R)++setV (if b then jcU S (i:Int) else S)) false)->g'.get b4=some (.cells [v2] false)->Row N g' 2 v2 (P++[(i,a,b)]).length (jav (jbX (P++[(i,a,b)])))->g.nx<=g'.nx->(∀ j,j<N->j≠b3->j≠b4->g'.get j=g.get j)->Q .normal [] g') :
  Run (cl d) fuel c45_3 [] [(3,.p b3 0),(4,.p b4 0),(5,.i (i:Int)),(6,.i (ja8 a b))] g Q:=by
 obtain ⟨C1,hC1⟩ : ∃ C,C=c45_1:=⟨_,rfl⟩
 simp only [c45_3,c45_2,c45_0,<- hC1,yA,yD]
 have rb:=fun z hz=>r.at_ge (q:=z) hz
 cases a with
 | false=>
  cases b with
  | false=>cases hab
  | true=>
   obtain ⟨h1,e1,o1⟩:=jh9 hcl (d:=d) (f:=S) (fd:=(i:Int)) (h:=g) om
   have T:=(jln hcl (d:=d) (g:=h1.set b3 (.cells (setV R++setV (jcU S (i:Int))) false)) (b3:=b3) (b4:=b4) (N:=N) (i:=i) (sv:=sv) (P:=P) (a:=false) (b:=true) (Q:=Q) om (by have:=o1.1;show N<=h1.nx;omega) l4 (by rw [jaa (fun e=>ne e.symm),o1.2 _ om,g4])
    (r.keep (by have:=o1.1;show g.nx<=h1.nx;omega) fun z hz=>by have:=rb z hz;rw [jaa om,o1.2 _ om]) hP
    fun g' v2 k4 rr kx kj=>kk g' v2 (by rw [kj _ l3 ne];exact jab _) k4 rr (by have:=o1.1;have:h1.nx<=g'.nx:=kx;omega) fun j hj h3 h4=>by rw [kj j hj h4,jaa h3,o1.2 _ om]).1
   have y3:h1.get b3=some (.cells (setV R++setV S) false):=by rw [o1.2 _ om,g3]
   rw [<- hC1] at T
   generalize (if fitS (i:Int) then (0:Int) else 10)=er at e1
   have hw:ja8 false true=4:=rfl
   rw [hw] at T ⊢
   clear kk r
   refine Ga ?_
   refine Ops.loadA (v:=setV S) rfl g3 (zw rfl) rfl ?_
   refine Ga ?_
   refine zct (vs:=setV (jcU S (i:Int))) rfl rfl rfl rfl y3 (zw rfl) ?_
   refine Ga ?_
   exact T
 | true=>
  obtain ⟨h1,e1,o1⟩:=jh9 hcl (d:=d) (f:=R) (fd:=(i:Int)) (h:=g) om
  have y3:h1.get b3=some (.cells (setV R++setV S) false):=by rw [o1.2 _ om,g3]
  generalize (if fitS (i:Int) then (0:Int) else 10)=er at e1
  cases b with
  | false=>
   have T:=(jln hcl (d:=d) (g:=h1.set b3 (.cells (setV (jcU R (i:Int))++setV S) false)) (b3:=b3) (b4:=b4) (N:=N) (i:=i) (sv:=sv) (P:=P) (a:=true) (b:=false) (Q:=Q) om (by have:=o1.1;show N<=h1.nx;omega) l4 (by rw [jaa (fun e=>ne e.symm),o1.2 _ om,g4])
    (r.keep (by have:=o1.1;show g.nx<=h1.nx;omega) fun z hz=>by have:=rb z hz;rw [jaa om,o1.2 _ om]) hP
    fun g' v2 k4 rr kx kj=>kk g' v2 (by rw [kj _ l3 ne];exact jab _) k4 rr (by have:=o1.1;have:h1.nx<=g'.nx:=kx;omega) fun j hj h3 h4=>by rw [kj j hj h4,jaa h3,o1.2 _ om]).2
   rw [<- hC1] at T
   have hw:ja8 true false=2:=rfl
   rw [hw] at T ⊢
   clear kk r
   refine Ga ?_
   refine Ops.loadA (v:=setV R) rfl g3 (zw rfl) rfl ?_
   refine Ga ?_
   refine zct (vs:=setV (jcU R (i:Int))) rfl rfl rfl rfl y3 (zw rfl) ?_
   refine Ga ?_
   exact T
  | true=>
   obtain ⟨h2,e2,o2⟩:=jh9 hcl (d:=d) (f:=S) (fd:=(i:Int)) (h:=h1.set b3 (.cells (setV (jcU R (i:Int))++setV S) false)) om
   generalize (if fitS (i:Int) then (0:Int) else 10)=er2 at e2
   have o1x:=o1.1
   have o2x:h1.nx<=h2.nx:=o2.1
   have z3:h2.get b3=some (.cells (setV (jcU R (i:Int))++setV S) false):=by rw [o2.2 _ (by show b3<h1.nx;omega)];exact jab _
   have gk : ∀ j,j<g.nx->j≠b3->h2.get j=g.get j:=fun j hj hb=>by rw [o2.2 _ (by show j<h1.nx;omega),jaa hb,o1.2 _ hj]
   have T:=(jln hcl (d:=d) (g:=h2.set b3 (.cells (setV (jcU R (i:Int))++setV (jcU S (i:Int))) false)) (b3:=b3) (b4:=b4) (N:=N) (i:=i) (sv:=sv) (P:=P) (a:=true) (b:=true) (Q:=Q) om (by show N<=h2.nx;omega) l4 (by rw [jaa (fun e=>ne e.symm),gk _ om (fun e=>ne e.symm),g4])
    (r.keep (by show g.nx<=h2.nx;omega) fun z hz=>by have:=rb z hz;rw [jaa om,gk _ om om]) hP
    fun g' v2 k4 rr kx kj=>kk g' v2 (by rw [kj _ l3 ne];exact jab _) k4 rr (by have:h2.nx<=g'.nx:=kx;omega) fun j hj h3 h4=>by rw [kj j hj h4,jaa h3,gk _ om h3]).1
   rw [<- hC1] at T
   have hw:ja8 true true=6:=rfl
   rw [hw] at T ⊢
   clear kk r
   refine Ga ?_
   refine Ops.loadA (v:=setV R) rfl g3 (zw rfl) rfl ?_
   refine Ga ?_
   refine zct (vs:=setV (jcU R (i:Int))) rfl rfl rfl rfl y3 (zw rfl) ?_
   refine Ga ?_
   refine Ops.loadA (v:=setV S) (l:=setV (jcU R (i:Int))++setV S) rfl (jab _) (zw rfl) rfl ?_
   refine Ga ?_
   refine zct (vs:=setV (jcU S (i:Int))) rfl rfl rfl rfl z3 (zw rfl) ?_
   refine Ga ?_
   exact T
end
end Am.Sigs
