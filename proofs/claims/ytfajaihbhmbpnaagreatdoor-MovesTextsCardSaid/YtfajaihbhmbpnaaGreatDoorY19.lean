/- Our own library, part 19. -/
import Derived.Test.YtfajaihbhmbpnaaGreatDoorY18
import Derived.Test.YtfajaihbhmbpnaaGreatDoorY17
set_option maxHeartbeats 8000000
set_option maxRecDepth 800
set_option linter.all false
namespace Am.Sigs
open Am Go
theorem mvW_len (m:Mv):(mvW m).length<=3:=by
 unfold mvW
 (repeat' split)<;>simp
theorem jer : ∀ (l:List Mv),(l.map mvW).flatten.length<=3*l.length
 | []=>by simp
 | m :: l=>by
  have h1:=mvW_len m
  have h2:=jer l
  simp only [List.map_cons,zM,ze,List.length_cons]
  omega
theorem jdx {x:Sp} (f:SpFit x):(jaD x).length<=200000:=by
 have h1:=jc6 (u:=x.ticks.toNat) (m:=19) (by have:=f.t1;omega) (by have:=f.t1;omega)
 have h2:=jga x.order x.order.length
 have h3:=jgs (l:=x.moves) (fun m hm=>by have:=(f.mv m hm).may.2.2.2.2.1;omega) x.moves.length
 have h4:=f.may.1
 have h5:=f.may.2.1
 unfold jaD
 simp only [ze]
 split<;>simp<;>omega
section
variable {cl:Nat->Call} (hcl:Sem cl) {d:Nat} {h0 h:H} {x:SpX} {P Q:Nat->Prop} {b:Nat} {sv:V} {L:List (List UInt8)} {sb:Env}
include hcl
theorem jit (gv:Gv h0) (hd:2<=d) (A:StepAt h0 P Q x) (fit : ∀ y∈x.ml,MvFit y.m) (o:Old h0 h) (hg:h.get b=some (.cells x.V false)) (sr:SR h0.nx h sv L) (hL0:L≠[]) (hL:L.length<=100) (hl:x.ml.length<=50) (hj:(jaP 32 (L++(x.sp.moves.map mvW).flatten)).length<=1000000) :
  Run (cl d) fuel c32_11 [] ((1,.p b 0) :: (3,sv) :: sb) h (Fin c32.res fun v h'=>v = .str (jaP 32 (L++(x.sp.moves.map mvW).flatten))/\Old h0 h'):=by
 obtain ⟨ad,c,em,hn,_,hA⟩:=id A.mv
 have q3:(x.V)[0+3]?=some (.slice ad x.ml.length c):=by rw [<- em];rfl
 obtain ⟨C5,hC5⟩ : ∃ C,C=c32_5:=⟨_,rfl⟩
 simp only [c32_11,c32_6,<- hC5,yB,yH]
 refine qx ?_
 refine zW (fun k e g=>∃ (i:Nat) (sv:V) (sbe:Env),k=x.ml.length-i/\i<=x.ml.length/\e=(3,sv) :: (43,.slice ad x.ml.length c) :: (44,.i (x.ml.length:Int)) :: (45,.i (i:Int)) :: sbe/\SR h0.nx g sv (L++((x.ml.take i).map fun y=>mvW y.m).flatten)/\Old h0 g)
  (k:=x.ml.length) Ze ⟨0,sv,[],by omega,by omega,rfl,by simpa using sr,o⟩ ?_
 clear sr o hg
 rintro _ _ g ⟨i,sv3,sbe,rfl,hi,rfl,sr,o⟩ f ih
 by_cases hlt:i<x.ml.length
 case neg=>
  obtain rfl:i=x.ml.length:=by omega
  rw [List.take_length] at sr
  have hmm:(x.ml.map fun y=>mvW y.m)=x.sp.moves.map mvW:=by simp [SpX.sp]
  rw [hmm] at sr
  have hcnt:=jer x.sp.moves
  have hml:x.sp.moves.length=x.ml.length:=by simp [SpX.sp]
  obtain ⟨w,ws,ew⟩ : ∃ w ws,L++(x.sp.moves.map mvW).flatten=w :: ws:=by
   cases L with
   | nil=>exact zC rfl hL0
   | cons w ws=>exact ⟨w,_,rfl⟩
  have hlen:(L++(x.sp.moves.map mvW).flatten).length<=1000:=by simp only [ze];omega
  rw [ew] at sr hj hlen ⊢
  rw [<- jg0] at hj ⊢
  have e1:=jjJ (d:=d) (t:=[32]) hcl om sr om hlen
  clear ih hcnt
  refine qx ?_
  exact ⟨rfl,o⟩
 obtain ⟨y,hy⟩ : ∃ y,x.ml[i]?=some y:=⟨_,za hlt⟩
 have hne:x.ml≠[]:=by rintro e;rw [e] at hlt;simp at hlt
 obtain ⟨bb,oo,cs,rr,rfl,lbb,_,gb,hc⟩:=hA hne
 have h4:(cs.drop (oo+(i:Int).toNat*4)).take 4=y.V:=by rw [zq];exact hc i y hy
 have hlen4:=je2 h4 rfl
 have gbg:g.get bb=some (.cells cs rr):=by rw [o.2 bb lbb,gb]
 obtain ⟨vy,zy⟩:=A.dv y (zb hy)
 have fy:=fit y (zb hy)
 obtain ⟨m,dv⟩:=y
 have o1:Old g ((g.new (.cells [.i 0,.i 0,.i 0,.nils] false)).set g.nx (.cells (mvV m dv) false)):=(zX g).new.set (zn _)
 have g1:((g.new (.cells [.i 0,.i 0,.i 0,.nils] false)).set g.nx (.cells (mvV m dv) false)).get g.nx=some (.cells (mvV m dv) false):=jab _
 have n1:g.nx<((g.new (.cells [.i 0,.i 0,.i 0,.nils] false)).set g.nx (.cells (mvV m dv) false)).nx:=by simp
 have hV1:(mvV m dv).all V.one=true:=by
  obtain ⟨a,c',e,_⟩:=id vy
  have e:dv = .slice a m.D.length c':=e
  subst e;rfl
 have ht:((x.ml.take (i+1)).map fun y=>mvW y.m).flatten=((x.ml.take i).map fun y=>mvW y.m).flatten++mvW m:=by rw [List.take_add_one,hy];simp
 have hcnt:((x.ml.take i).map fun y=>mvW y.m).flatten.length<=3*i:=by
  have:=jer ((x.ml.take i).map MvX.m)
  rw [List.map_map] at this
  simp only [List.length_map,List.length_take] at this
  have e:((x.ml.take i).map (mvW ∘ MvX.m))=(x.ml.take i).map fun y=>mvW y.m:=rfl
  rw [e] at this
  omega
 have hi1:(i:Int)+1=((i+1:Nat):Int):=by omega
 clear A hc hA gb hn
 refine qx ?_
 refine zcw rfl gbg hlen4 ?_
 rw [h4]
 refine zcu (ob := .cells [.i 0,.i 0,.i 0,.nils] false) (mk:=fun b=>.p b 0) rfl rfl ?_
 refine zct (n:=4) (o:=0) (vs:=mvV m dv) rfl rfl rfl hV1 (jac _) Zd ?_
 rw [show jal ([.i 0,.i 0,.i 0,.nils]:List V) 0 (mvV m dv)=mvV m dv from rfl]
 generalize hG:(g.new (.cells [.i 0,.i 0,.i 0,.nils] false)).set g.nx (.cells (mvV m dv) false)=G at o1 g1 n1
 clear hG
 have T:=wl_move hcl (d:=d) (h:=G) (m:=m) (dv:=dv) (sv:=sv3) (v43 := .slice (some (bb,oo)) x.ml.length c) (v44 := .i (x.ml.length:Int)) (v45 := .i (i:Int)) (L:=L++((x.ml.take i).map fun y=>mvW y.m).flatten) (mb:=g.nx) (sb:=[]) gv hd fy (o.trans o1) o.1 n1 g1 vy (sr.keep (zn _) o1) (by simp only [ze];omega)
 rw [<- hC5] at T
 clear sr g1 gbg vy zy
 refine qx ?_
 refine Run.cut _ T ?_
 rintro _ e5 h5 ⟨rfl,sv5,sb5,rfl,sr5,o5⟩
 simp only [zL,List.nil_append]
 refine qx ?_
 rw [hi1]
 exact ih (x.ml.length-(i+1)) om _ _ ⟨i+1,sv5,_,rfl,by omega,rfl,by rw [ht,<- List.append_assoc];exact sr5,o5⟩
theorem jis (gv:Gv h0) (hd:2<=d) (A:StepAt h0 P Q x) (f:SpFit x.sp) (o:Old h0 h) (hb:b<h.nx) (hg:h.get b=some (.cells x.V false)) (sr:SR h0.nx h sv L) (hL0:L≠[]) (hL:L.length<=10) (hj:(jaP 32 (L++(ordW x.ol++(x.sp.moves.map mvW).flatten))).length<=1000000) :
  Run (cl d) fuel c32_12 [] ((1,.p b 0) :: (3,sv) :: sb) h (Fin c32.res fun v h'=>v = .str (jaP 32 (L++(ordW x.ol++(x.sp.moves.map mvW).flatten)))/\Old h0 h'):=by
 obtain ⟨ad,c,eo,hn,_,hA⟩:=id A.ov.1
 have q2:(x.V)[0+2]?=some (.slice ad x.ol.length c):=by rw [<- eo];rfl
 have hml:x.ml.length<=50:=by have:=f.may.1;simpa [SpX.sp] using this
 have hol:x.ol.length<=50:=f.may.2.1
 have hon : ∀ n∈x.ol,0<=n/\n<=999:=f.may.2.2.1
 have fit : ∀ y∈x.ml,MvFit y.m:=fun y hy=>f.mv y.m (List.mem_map_of_mem hy)
 obtain ⟨C11,hC11⟩ : ∃ C,C=c32_11:=⟨_,rfl⟩
 by_cases h00:x.ol=[]
 ·rw [h00] at hj ⊢
  have T:=fun sb=>jit hcl (sb:=sb) gv hd A fit o hg sr hL0 om hml hj
  rw [<- hC11] at T
  simp only [c32_12,<- hC11,yC]
  have h1 : ¬ (0:Int)<((x.ol.length:Nat):Int):=by rw [h00];simp
  clear A hA
  refine qx ?_
  exact T _
 have h1:(0:Int)<((x.ol.length:Nat):Int):=by have:=List.length_pos_iff.2 h00;omega
 have hO:ordW x.ol=[jb0,jaP 44 (x.ol.map fun n=>dec n.toNat)]:=by rw [ordW,zt h00]
 rw [hO] at hj ⊢
 obtain ⟨C8,hC8⟩ : ∃ C,C=c32_8:=⟨_,rfl⟩
 obtain ⟨C9,hC9⟩ : ∃ C,C=c32_9:=⟨_,rfl⟩
 simp only [c32_12,c32_10,<- hC11,<- hC8,<- hC9,yC]
 refine qx ?_
 refine zW (fun k e g=>∃ (i:Nat) (s4:V) (sbe:Env),k=x.ol.length-i/\i<=x.ol.length/\e=(1,.p b 0) :: (3,sv) :: (4,s4) :: (25,.slice ad x.ol.length c) :: (26,.i (x.ol.length:Int)) :: (27,.i (i:Int)) :: sbe/\Row h.nx g 1 s4 i (strs ((x.ol.take i).map fun n=>dec n.toNat))/\Old h g)
  (k:=x.ol.length) Ze ⟨0,.nils,[],by omega,by omega,rfl,Row.nil _ _ _,zX h⟩ ?_
 rintro _ _ g ⟨i,s4,sbe,rfl,hi,rfl,row,og⟩ f0 ih
 by_cases hlt:i<x.ol.length
 case neg=>
  obtain rfl:i=x.ol.length:=by omega
  rw [List.take_length] at row
  have row':Row h.nx g 1 s4 (x.ol.map fun n=>dec n.toNat).length (strs (x.ol.map fun n=>dec n.toNat)):=by simpa using row
  have sr4:=Row.sr row' (by simp [h00])
  have hwl : ∀ w∈x.ol.map (fun n=>dec n.toNat),w.length<=20:=by
   intro w hw
   obtain ⟨n,hn',rfl⟩:=List.mem_map.1 hw
   have:=hon n hn'
   exact jc6 (m:=19) om om
  obtain ⟨w,ws,ew⟩ : ∃ w ws,x.ol.map (fun n=>dec n.toNat)=w :: ws:=by
   cases hc:x.ol.map (fun n=>dec n.toNat) with
   | nil=>exact zC (List.map_eq_nil_iff.1 hc) h00
   | cons w ws=>exact ⟨w,ws,rfl⟩
  have hlw:(w :: ws).length=x.ol.length:=by rw [<- ew];simp
  rw [ew] at sr4 hj hwl ⊢
  have hjl:(jaP 44 (w :: ws)).length<=2000:=by
   have h2:=jgL (c:=44) (ws:=ws) (k:=20) (fun v hv=>hwl v (zj _ hv))
   have h3:=hwl w Zd
   simp only [List.length_cons] at hlw
   simp only [jaP,ze];omega
  have e1:=jjJ (d:=d) (t:=[44]) hcl om sr4 (by rw [jg0];omega) om
  rw [jg0] at e1
  generalize hjw:jaP 44 (w :: ws)=j at e1 hj hjl ⊢
  clear ih
  refine qx ?_
  subst hC9
  refine qx ?_
  refine zcu (ob := .cells [.str jb0,.str j] false) (mk:=fun b=>.slice (some (b,0)) 2 (.fix 2)) rfl rfl ?_
  have og2:Old h (g.new (.cells [.str jb0,.str j] false)):=og.new
  have srg:SR h0.nx (g.new (.cells [.str jb0,.str j] false)) sv L:=sr.keep (zn _) og2
  refine Ops.strA (sb:=g.nx) (so:=0) (m:=2) (new:=[jb0,j]) rfl rfl (o.trans og2) srg om (jac _) Zd rfl om (fun _ _=>rfl) fun v5 h5 sr5 o5 hx5 hk5=>?_
  have hne:sv.at?≠some b:=sr.ne_int hg
  have hg5:h5.get b=some (.cells x.V false):=by
   rw [hk5 b (by have:=og2.1;omega) hne,og2.2 b hb,hg]
  have hj5:(jaP 32 ((L++[jb0,j])++(x.sp.moves.map mvW).flatten)).length<=1000000:=by
   rw [List.append_assoc];exact hj
  have T:=fun sb=>jit hcl (sb:=sb) gv hd A fit o5 hg5 sr5 Zd Zc hml hj5
  rw [List.append_assoc] at T
  rw [<- hC11] at T
  clear A hA sr sr4 sr5 row row'
  refine qx ?_
  exact T _
 obtain ⟨n,hno⟩ : ∃ n,x.ol[i]?=some n:=⟨_,za hlt⟩
 obtain ⟨bb,oo,cs,rr,rfl,lbb,gb,hc⟩:=hA h00
 have hq:cs[oo+(i:Int).toNat*1]?=some (.i n):=by rw [Nat.mul_one,zq];exact hc i n hno
 have gbg:g.get bb=some (.cells cs rr):=by rw [(o.trans og).2 bb lbb,gb]
 have hnn:=hon n (zb hno)
 have e1:=jfE hcl (d:=d) (u:=n.toNat) (h:=g) om om ((gv.old o).old og).pw
 rw [Int.toNat_of_nonneg hnn.1] at e1
 have ht:(x.ol.take (i+1)).map (fun n=>dec n.toNat)=(x.ol.take i).map (fun n=>dec n.toNat)++[dec n.toNat]:=by rw [List.take_add_one,hno];simp
 have hi1:(i:Int)+1=((i+1:Nat):Int):=by omega
 subst hC8
 clear A hA hc hon
 refine qx ?_
 refine Ops.push (N:=h.nx) (new:=[.str (dec n.toNat)]) rfl rfl rfl rfl om rfl rfl row og.1 om om fun v2 g2 row' hx' hz' hk'=>?_
 refine qx ?_
 rw [hi1]
 exact ih (x.ol.length-(i+1)) om _ _ ⟨i+1,v2,_,rfl,by omega,rfl,by rw [ht];simpa [strs] using row',og.trans' hx' fun j hj'=>hk' j (by have:=og.1;omega) fun e=>by have:=(row.at_ge e).1;omega⟩
theorem jjI {y:SpX} (gv:Gv h) (hd:3<=d) (A:StepAt h P Q y) (f:SpFit y.sp) :
  ∃ h',cl d (.fn 32) [.agg y.V] h=some (.str (jaD y.sp),h')/\Old h h':=by
 have hlen:=jdx f
 rw [jfA f] at hlen ⊢
 have ha:=A.ov.1
 have hV1:(y.V).all V.one=true:=by
  obtain ⟨a,c,e,_⟩:=id A.ov.1
  obtain ⟨a',c',e',_⟩:=id A.mv
  simp only [SpX.V,e,e'];rfl
 have ht:(y.t.toNat:Int)=y.t:=Int.toNat_of_nonneg A.t0
 have eF:=w_FmtU hcl (d:=d-1) (u:=y.t.toNat) (h:=h.new (.cells y.V false)) om (by have:=A.t1;omega) (gv.old (zX h).new).pw
 rw [ht] at eF
 refine ja5 (aT hcl ?_)
 obtain ⟨C12,hC12⟩ : ∃ C,C=c32_12:=⟨_,rfl⟩
 simp only [c32,c32_14,c32_13,<- hC12,yB,yH]
 have hg1:=jac (h:=h) (.cells y.V false)
 have o1:Old h (h.new (.cells y.V false)):=(zX h).new
 have q0:(y.V)[0+0]?=some (.int .u64 y.t):=rfl
 have q1:(y.V)[0+1]?=some (.bool y.intr):=rfl
 refine Run.seq (zac ?_)
 refine zcu (ob := .cells y.V false) (mk:=fun b=>.p b 0) rfl rfl ?_
 have hb1:h.nx<(h.new (.cells y.V false)).nx:=by simp
 generalize h.new (.cells y.V false)=H1 at hg1 o1 eF hb1 ⊢
 refine qx ?_
 refine zcu (ob := .cells [.str jec,.str (dec y.t.toNat)] false) (mk:=fun b=>.slice (some (b,0)) 2 (.fix 2)) rfl rfl ?_
 have o2:Old h (H1.new (.cells [.str jec,.str (dec y.t.toNat)] false)):=o1.new
 have sr2:SR h.nx (H1.new (.cells [.str jec,.str (dec y.t.toNat)] false)) (.slice (some (H1.nx,0)) 2 (.fix 2)) [jec,dec y.t.toNat]:=⟨H1.nx,.fix 2,o1.1,by simp,rfl,.inr rfl,jac _⟩
 have hg2:(H1.new (.cells [.str jec,.str (dec y.t.toNat)] false)).get h.nx=some (.cells y.V false):=by rw [jaj hb1,hg1]
 have hb2:h.nx<(H1.new (.cells [.str jec,.str (dec y.t.toNat)] false)).nx:=by simp;omega
 generalize H1.new (.cells [.str jec,.str (dec y.t.toNat)] false)=H2 at o2 sr2 hg2 hb2 ⊢
 have hw:jaP 32 (jbQ y.sp)=jaP 32 ((jec :: dec y.t.toNat :: (if y.intr=true then [jfq] else []))++(ordW y.ol++(y.sp.moves.map mvW).flatten)):=rfl
 rw [hw] at hlen ⊢
 cases hin:y.intr with
 | false=>
  rw [hin] at hlen q1
  have T:=fun sb=>jis hcl (sb:=sb) (d:=d-1) gv om A f o2 hb2 hg2 sr2 Zd Zd (by simpa using zu hlen om)
  rw [<- hC12] at T
  clear A ha
  refine qx ?_
  exact T _
 | true=>
  rw [hin] at hlen q1
  clear ha
  refine qx ?_
  refine Ops.strP (t:=jfq) rfl rfl o2 sr2 Zd fun v5 h5 sr5 o5 hx5 hk5=>?_
  have hg5:h5.get h.nx=some (.cells y.V false):=by rw [hk5 _ hb2 (sr2.ne_int hg2),hg2]
  have T:=fun sb=>jis hcl (sb:=sb) (d:=d-1) gv om A f o5 om hg5 sr5 Zd Zd (by simpa using zu hlen om)
  rw [<- hC12] at T
  clear A
  refine qx ?_
  exact T _
end
def opS (w:List UInt8):Nat->Nat
 | 0=>0
 | k+1=>if w=jax ((k+1:Nat):Int) then k+1 else opS w k
theorem opS_eq (w:List UInt8):((opS w 7:Nat):Int)=opW w:=by
 simp only [opS,opW]
 have e : ∀ k:Nat,((k+1:Nat):Int)=(k:Int)+1:=fun k=>rfl
 (repeat' split)<;>first | rfl | (exfalso;simp_all)
def pfR:List UInt8->List (List UInt8)->Mv->Option Mv
 | [],_,m=>some m
 | _ :: _,[],_=>none
 | c :: ps,a :: t,m=>if c=119 then (match numP a with | some n=>pfR ps t { m with wire:=n } | none=>none)
  else if c=110 then (match numP a with | some n=>pfR ps t { m with n:=n } | none=>none)
  else (match bytS a with | some D=>pfR ps t { m with D:=D } | none=>none)
theorem opW_cases (w:List UInt8):opW w=0\/opW w=1\/opW w=2\/opW w=3\/opW w=4\/opW w=5\/opW w=6\/opW w=7:=by
 have:=opW_le w;omega
theorem mvR_eq (w:List UInt8) (rest:List (List UInt8)):mvR (w :: rest)=if jap (opW w)=[]\/rest.length<(jap (opW w)).length then none else (pfR (jap (opW w)) rest ⟨opW w,0,0,[]⟩).map fun m=>(m,rest.drop (jap (opW w)).length):=by
 rcases opW_cases w with h | h | h | h | h | h | h | h
 all_goals
  match rest with
  | []=>simp [mvR,h,jap]
  | [a]=>cases ha:numP a<;>simp [mvR,h,jap,pfR,ha]
  | a :: b :: t=>cases ha:numP a<;>cases hb:numP b<;>cases hb2:bytS b<;>simp [mvR,h,jap,pfR,ha,hb,hb2]
def pmF (w:List UInt8) (rest:List (List UInt8)):Option Mv:=if jap (opW w)=[]\/rest.length<(jap (opW w)).length then none else pfR (jap (opW w)) rest ⟨opW w,0,0,[]⟩
theorem mvR_pm (w:List UInt8) (rest:List (List UInt8)):mvR (w :: rest)=(pmF w rest).map fun m=>(m,rest.drop (jap (opW w)).length):=by
 rw [mvR_eq,pmF]
 split<;>rfl
section
variable {cl:Nat->Call} (hcl:Sem cl) {d:Nat}
include hcl
theorem mr_search {h:H} {K:List Fr} {Q:Post} {yl:V} {cb q o k n mb:Nat} {w:List UInt8} {ws:List (List UInt8)} {sb:Env} (gv:Gv h) (hc:h.get cb=some (.cells [.slice (some (q,o)) n (.fix k)] false)) (hn:0<n) (hq:h.get q=some (.cells (strs ws) false)) (hw:ws[o]?=some w) (hcb:cb≠mb) (hqb:q≠mb) (hm:h.get mb=some (.cells (mvV ⟨7,0,0,[]⟩ .nils) false)) (hmb:gW≠mb)
  (T : ∀ h' sbe,Upd mb (.cells (mvV ⟨opW w,0,0,[]⟩ .nils) false) h h'->End (cl d) fuel K .normal ((0,yl) :: (1,.p cb 0) :: (3,.p mb 0) :: sbe) h' Q) :
  Run (cl d) fuel (.block 2 (.loop [0,1,3] c107_9)) K ((0,yl) :: (1,.p cb 0) :: (3,.p mb 0) :: sb) h Q:=by
 rw [<- opS_eq] at T
 have hs:(strs ws)[o+(0:Int).toNat*1]?=some (.str w):=by
  simp only [Int.toNat_zero,Nat.zero_mul,Nat.add_zero]
  rw [List.getElem?_map,hw];rfl
 have hn':(0:Int)<((n:Nat):Int):=by omega
 obtain ⟨wro,hW⟩:=gv.wd
 generalize hR:opS w 7=R at T
 refine Run.block ?_
 refine zW (fun j e g=>∃ sbe:Env,j<=7/\e=(0,yl) :: (1,.p cb 0) :: (3,.p mb 0) :: sbe/\Upd mb (.cells (mvV ⟨(j:Int),0,0,[]⟩ .nils) false) h g/\opS w j=R)
  (k:=7) Ze ⟨sb,by omega,rfl,Upd.refl hm,hR⟩ ?_
 clear hR hm
 rintro j _ g ⟨sbe,hj,rfl,u,hR⟩ f ih
 have g1:=u.self
 have g2:g.get cb=_:=(u.get cb hcb).trans hc
 have g3:g.get q=_:=(u.get q hqb).trans hq
 have g4:g.get gW=_:=(u.get gW hmb).trans hW
 have q0:(mvV ⟨(j:Int),0,0,[]⟩ .nils)[0+0]?=some (.i (j:Int)):=rfl
 cases j with
 | zero=>
  obtain rfl:0=R:=hR
  have h0 : ¬ (0:Int)<((0:Nat):Int):=by decide
  have T':=fun sbe=>T g sbe u
  clear ih T
  refine qx ?_
  exact T' _
 | succ j=>
  have hwt:(strs jcS)[0+((j+1:Nat):Int).toNat*1]?=some (.str (jax ((j+1:Nat):Int))):=by
   have hj8:j<7:=by omega
   match j,hj8 with
   | 0,_=>rfl | 1,_=>rfl | 2,_=>rfl | 3,_=>rfl | 4,_=>rfl | 5,_=>rfl | 6,_=>rfl
  have h0:(0:Int)<((j+1:Nat):Int):=by omega
  have hj1:((j+1:Nat):Int)-1=(j:Int):=by omega
  have hj9:0<=((j+1:Nat):Int)/\((j+1:Nat):Int)<8:=by omega
  rw [opS] at hR
  by_cases he:w=jax ((j+1:Nat):Int)
  ·rw [zw he] at hR
   subst hR
   have hb:(!(jax ((j+1:Nat):Int) == w))=false:=by rw [<- he];simp
   have T':=fun sbe=>T g sbe u
   clear ih T he
   generalize jax ((j+1:Nat):Int)=wj at *
   refine qx ?_
   exact T' _
  ·rw [zt he] at hR
   have hb:(!(jax ((j+1:Nat):Int) == w))=true:=by
    have:(jax ((j+1:Nat):Int) == w)=false:=by simpa using fun e=>he e.symm
    rw [this];rfl
   have u2:Upd mb (.cells (mvV ⟨(j:Int),0,0,[]⟩ .nils) false) h (g.set mb (.cells (mvV ⟨(j:Int),0,0,[]⟩ .nils) false)):=u.trans Upd.set
   have hst:(mvV ⟨((j+1:Nat):Int),0,0,[]⟩ .nils).set (0+0) (.i (((j+1:Nat):Int)-1))=mvV ⟨(j:Int),0,0,[]⟩ .nils:=by rw [hj1];rfl
   clear T he
   generalize jax ((j+1:Nat):Int)=wj at *
   refine Ga ?_
   refine ih j om _ _ ⟨_,by omega,rfl,?_,hR⟩
   rw [hst]
   exact u2
theorem mr_parts {h:H} {K:List Fr} {Q:Post} {yl:V} {cb q o k mb:Nat} {w:List UInt8} {rest ws:List (List UInt8)} {sb:Env} (gv:Gv h) (hd:5<=d) (hcb0:cb<h.nx) (hqb0:q<h.nx) (hmb0:mb<h.nx) (hc:h.get cb=some (.cells [.slice (some (q,o)) (rest.length+1) (.fix k)] false)) (hq:h.get q=some (.cells (strs ws) false)) (hw:ws.drop o=w :: rest) (hl : ∀ a∈ws,a.length<=50000) (hr:rest.length<=60000) (hcb:cb≠mb) (hqb:q≠mb) (hmS:gS≠mb) (hmR:gR≠mb) (hmW:gW≠mb) (hmP:2≠mb) (hm:h.get mb=some (.cells (mvV ⟨opW w,0,0,[]⟩ .nils) false))
  (T : ∀ h' m dv fine sbe,Ch (· = mb) h h'->h'.get mb=some (.cells (mvV m dv) false)->dv.one=true->fine=(pmF w rest).isSome->(∀ m',pmF w rest=some m'->m=m'/\VB h' dv m.D /\ ∀ z,dv.at?=some z->h.nx<=z) ->
   Run (cl d) fuel c107_7 K ((0,yl) :: (1,.p cb 0) :: (3,.p mb 0) :: (4,.str (jap (opW w))) :: (5,.bool fine) :: sbe) h' Q) :
  Run (cl d) fuel c107_8 K ((0,yl) :: (1,.p cb 0) :: (3,.p mb 0) :: (4,.str (jap (opW w))) :: sb) h Q:=by
 have hgv : ∀ g,Ch (· = mb) h g->Gv g:=fun g c=>⟨gv.pw.ch c hmP,zo gv.lS c.nx,zo gv.lR c.nx,zo gv.lW c.nx,jeu (c.get _ gv.lS hmS) gv.eS,jeu (c.get _ gv.lR hmR) gv.eR,by obtain ⟨ro,e⟩:=gv.wd;exact ⟨ro,by rw [c.get _ gv.lW hmW,e]⟩⟩
 have hpl:=parts_len (opW w)
 have hpm:=jhi (op:=opW w)
 generalize hF:pmF w rest=Fv at T
 unfold pmF at hF
 generalize hps:jap (opW w)=ps at *
 generalize hm0:(⟨opW w,0,0,[]⟩:Mv)=m0 at hm hF
 have hwsl : ∀ (i:Nat) (a:List UInt8),rest[i]?=some a->(strs ws)[o+((1:Int)+(i:Int)).toNat*1]?=some (.str a)/\a.length<=50000:=by
  intro i a ha
  have h1:ws[o+(i+1)]?=some a:=by
   rw [<- zk,hw,List.getElem?_cons_succ,ha]
  refine ⟨?_,hl a (zb h1)⟩
  rw [show o+((1:Int)+(i:Int)).toNat*1=o+(i+1) by omega,List.getElem?_map,h1];rfl
 obtain ⟨C7,hC7⟩ : ∃ C,C=c107_7:=⟨_,rfl⟩
 obtain ⟨C5,hC5⟩ : ∃ C,C=c107_5:=⟨_,rfl⟩
 rw [<- hC7] at T
 obtain ⟨fine0,hf0⟩ : ∃ b:Bool,b=(decide (¬ ps=[])&&decide (((ps.length:Nat):Int)<((rest.length+1:Nat):Int))):=⟨_,rfl⟩
 have L:Run (cl d) fuel (.loop [0,1,3,4,5,6] c107_6) (.block 4 :: .seq C7 :: K) [(0,yl),(1,.p cb 0),(3,.p mb 0),(4,.str ps),(5,.bool fine0),(6,.i 0)] h Q:=by
  simp only [c107_6,<- hC5,yF]
  refine zW (fun j e g=>∃ (i:Nat) (m:Mv) (dv:V) (fine:Bool) (sbe:Env),j=(if fine then ps.length-i+1 else 0)/\e=(0,yl) :: (1,.p cb 0) :: (3,.p mb 0) :: (4,.str ps) :: (5,.bool fine) :: (6,.i (i:Int)) :: sbe/\i<=3/\Ch (· = mb) h g/\g.get mb=some (.cells (mvV m dv) false)/\dv.one=true/\(fine=false->Fv=none)/\(fine=true->i<=ps.length/\ps.length<=rest.length/\Fv=pfR (ps.drop i) (rest.drop i) m/\VB g dv m.D /\ ∀ z,dv.at?=some z->h.nx<=z))
   (k:=if fine0 then ps.length-0+1 else 0) (by show _<100000;split<;>omega) ⟨0,m0,.nils,fine0,[],rfl,rfl,by omega,Ch.refl _ _,hm,rfl,?_,?_⟩ ?_
  ·intro hf
   rw [hf] at hf0
   rw [<- hF]
   simp only [Bool.false_eq,Bool.and_eq_false_iff,decide_eq_false_iff_not,Classical.not_not] at hf0
   rw [zw]
   rcases hf0 with h1 | h1
   ·exact .inl h1
   ·exact .inr om
  ·intro hf
   rw [hf] at hf0
   simp only [Bool.true_eq,zm,zz] at hf0
   refine ⟨by omega,by omega,?_,?_,fun z hz=>by cases hz⟩
   ·rw [<- hF,zt (by rintro (h1 | h1);exact hf0.1 h1;omega),zi,zi]
   ·rw [<- hm0];exact VB.nil h
  rintro _ _ g ⟨i,m,dv,fine,sbe,rfl,rfl,hi3,c,gm,d1,ff,ft⟩ f ih
  cases fine with
  | false=>
   have hFn:=ff rfl
   have T':=fun sbe=>T g m dv false sbe c gm d1 (by rw [hFn];rfl) (fun m' e=>by rw [hFn] at e;cases e)
   clear ih T ff ft
   by_cases hlt:((i:Nat):Int)<((ps.length:Nat):Int)
   ·refine qx ?_
    exact T' _
   ·refine qx ?_
    exact T' _
  | true=>
   obtain ⟨k1,k2,k3,k4,k5⟩:=ft rfl
   clear ff ft
   by_cases hlt:i<ps.length
   case neg=>
    obtain rfl:i=ps.length:=by omega
    rw [List.drop_length,pfR] at k3
    have T':=fun sbe=>T g m dv true sbe c gm d1 (by rw [k3];rfl) (fun m' e=>by rw [k3] at e;cases e;exact ⟨rfl,k4,k5⟩)
    have hnl : ¬ ((ps.length:Nat):Int)<((ps.length:Nat):Int):=by omega
    clear ih T
    refine qx ?_
    exact T' _
   obtain ⟨p,hp⟩ : ∃ p,ps[i]?=some p:=⟨_,za hlt⟩
   obtain ⟨a,ha⟩ : ∃ a,rest[i]?=some a:=⟨_,za om⟩
   obtain ⟨hwa,hal⟩:=hwsl i a ha
   have hpc:=hpm p (zb hp)
   have hdp:ps.drop i=p :: ps.drop (i+1):=by
    rw [List.drop_eq_getElem_cons hlt];congr 1
    rw [za hlt] at hp;exact Option.some.inj hp
   have hdr:rest.drop i=a :: rest.drop (i+1):=by
    have hlr:i<rest.length:=by omega
    rw [List.drop_eq_getElem_cons hlr];congr 1
    rw [za hlr] at ha;exact Option.some.inj ha
   rw [hdp,hdr,pfR] at k3
   have gg:=hgv g c
   have gc:g.get cb=_:=(c.get cb hcb0 hcb).trans hc
   have gq:g.get q=_:=(c.get q hqb0 hqb).trans hq
   have hix:0<=(1:Int)+(i:Int)/\(1:Int)+(i:Int)<((rest.length+1:Nat):Int):=by omega
   have hltI:((i:Nat):Int)<((ps.length:Nat):Int):=by omega
   have hi1:(i:Int)+1=((i+1:Nat):Int):=by omega
   have hmbg:mb<g.nx:=zo hmb0 c.nx
   clear T hF hf0
   subst hC5
   rcases hpc with rfl | rfl | rfl
   ·rw [zw rfl] at k3
    obtain ⟨n,e1,hn⟩:=je7 hcl (d:=d) (h:=g) (s:=a) gg om hal
    have kk:((119:UInt8).toNat:Int)=119:=rfl
    refine qx ?_
    refine zY (n:=i) rfl rfl hp ?_
    refine Ga ?_
    have hst:(mvV m dv).set (0+1) (.i n)=mvV { m with wire:=n } dv:=rfl
    rw [hi1,hst]
    refine ih (if (numP a).isSome then ps.length-(i+1)+1 else 0) (by split<;>simp<;>omega) _ _ ⟨i+1,_,dv,_,_,rfl,rfl,by omega,c.trans (Ch.set rfl),jab _,d1,fun hf=>?_,fun hf=>?_⟩
    ·rw [k3]
     cases hna:numP a with
     | none=>rfl
     | some x=>rw [hna] at hf;cases hf
    ·cases hna:numP a with
     | none=>rw [hna] at hf;cases hf
     | some x=>
      rw [hna] at k3
      obtain rfl:=hn x hna
      exact ⟨by omega,k2,k3,k4.keep2 Zd (fun hne z hz=>jaa fun e=>by have:=k5 z hz;omega),k5⟩
   ·rw [zt (by decide),zw rfl] at k3
    obtain ⟨n,e1,hn⟩:=je7 hcl (d:=d) (h:=g) (s:=a) gg om hal
    have kk : ¬ ((110:UInt8).toNat:Int)=119:=by decide
    have kk2:((110:UInt8).toNat:Int)=110:=rfl
    refine qx ?_
    refine zY (n:=i) rfl rfl hp ?_
    refine Ga ?_
    have hst:(mvV m dv).set (0+2) (.i n)=mvV { m with n:=n } dv:=rfl
    rw [hi1,hst]
    refine ih (if (numP a).isSome then ps.length-(i+1)+1 else 0) (by split<;>simp<;>omega) _ _ ⟨i+1,_,dv,_,_,rfl,rfl,by omega,c.trans (Ch.set rfl),jab _,d1,fun hf=>?_,fun hf=>?_⟩
    ·rw [k3]
     cases hna:numP a with
     | none=>rfl
     | some x=>rw [hna] at hf;cases hf
    ·cases hna:numP a with
     | none=>rw [hna] at hf;cases hf
     | some x=>
      rw [hna] at k3
      obtain rfl:=hn x hna
      exact ⟨by omega,k2,k3,k4.keep2 Zd (fun hne z hz=>jaa fun e=>by have:=k5 z hz;omega),k5⟩
   ·rw [zt (by decide),zt (by decide)] at k3
    obtain ⟨v,g2,e1,o2,hv1,hv2⟩:=st_bytes hcl (d:=d) (h:=g) (s:=a) gg om hal
    have kk : ¬ ((100:UInt8).toNat:Int)=119:=by decide
    have kk2 : ¬ ((100:UInt8).toNat:Int)=110:=by decide
    have gm2:g2.get mb=some (.cells (mvV m dv) false):=by rw [o2.2 mb hmbg,gm]
    refine qx ?_
    refine zY (n:=i) rfl rfl hp ?_
    refine qx ?_
    refine zcs rfl rfl hv1 gm2 Zd ?_
    refine qx ?_
    have hst:(mvV m dv).set (0+3) v=mvV m v:=rfl
    rw [hi1,hst]
    have c2:Ch (· = mb) h (g2.set mb (.cells (mvV m v) false)):=(c.trans o2.ch).trans (Ch.set rfl)
    cases hba:bytS a with
    | none=>
     rw [hba] at k3
     exact ih 0 Zd _ _ ⟨i+1,m,v,false,_,rfl,rfl,by omega,c2,jab _,hv1,fun _=>k3,fun hf=>by cases hf⟩
    | some D=>
     rw [hba] at k3
     obtain ⟨b1,b2⟩:=hv2 D hba
     refine ih (ps.length-(i+1)+1) Zc _ _ ⟨i+1,{ m with D:=D },v,true,_,rfl,rfl,by omega,c2,jab _,hv1,(fun hf=>by cases hf),fun _=>⟨by omega,k2,k3,b1.keep2 Zd (fun hne z hz=>jaa fun e=>by have:=b2 z hz;omega),fun z hz=>zu c.nx (b2 z hz)⟩⟩
 simp only [c107_8,<- hC7,yN]
 by_cases h1:ps=[]
 ·have hb:(!(ps == ([]:List UInt8)))=false:=by rw [h1];rfl
  have hff:fine0=false:=by rw [hf0,h1];simp
  rw [hff] at L
  clear T hwsl hf0
  refine qx ?_
  exact L
 ·have hb:(!(ps == ([]:List UInt8)))=true:=by
   cases ps with
   | nil=>exact zC rfl h1
   | cons a l=>rfl
  have hff:fine0=decide (((ps.length:Nat):Int)<((rest.length+1:Nat):Int)):=by rw [hf0];simp [h1]
  rw [hff] at L
  clear T hwsl hf0
  refine qx ?_
  exact L
end
structure MI (h1:H) (cb X B Lp q:Nat) (ws:List (List UInt8)) (t:Int) (iv:Bool) (ov:V) (lo:Obj) (r:List (List UInt8)) (ML:List MvX) (g:H):Prop where
 ch:Ch (fun j=>j=cb\/j=X\/j=B\/j=Lp) h1 g
 cb_ : ∃ o k,g.get cb=some (.cells [.slice (some (q,o)) r.length (.fix k)] false)/\r.length<=k/\ws.drop o=r
 X_ : ∃ mv,g.get X=some (.cells [.int .u64 t,.bool iv,ov,mv] false)/\Row h1.nx g 4 mv ML.length (ML.map MvX.V).flatten
 B_:g.get B=some (.cells [.bool false] false)
 L_:g.get Lp=some lo
 dv : ∀ y∈ML,VB g y.dv y.m.D /\ ∀ z,y.dv.at?=some z->h1.nx<=z
structure MX (h0 h1:H) (cb X B Lp q:Nat) (ws:List (List UInt8)):Prop where
 gv:Gv h0
 o:Old h0 h1
 c1:h0.nx<=cb
 c2:cb<h1.nx
 x1:h0.nx<=X
 x2:X<h1.nx
 b1:h0.nx<=B
 b2:B<h1.nx
 l1:h0.nx<=Lp
 l2:Lp<h1.nx
 q1:h0.nx<=q
 q2:q<h1.nx
 ne:cb≠X/\cb≠B/\cb≠Lp/\X≠B/\X≠Lp/\B≠Lp/\q≠cb/\q≠X/\q≠B/\q≠Lp
 qw:h1.get q=some (.cells (strs ws) false)
def MJ (h1:H) (cb X B Lp:Nat) (lo:Obj) (g:H):Prop:=Ch (fun j=>j=cb\/j=X\/j=B\/j=Lp) h1 g/\(∃ xs,g.get X=some (.cells xs false)/\xs.length=4/\xs.all V.one=true)/\g.get B=some (.cells [.bool false] false)/\g.get Lp=some lo
section
variable {h0 h1 g g':H} {cb X B Lp q:Nat} {ws r:List (List UInt8)} {t:Int} {iv:Bool} {ov:V} {lo:Obj} {ML:List MvX}
theorem MX.old0 (x:MX h0 h1 cb X B Lp q ws) (c:Ch (fun j=>j=cb\/j=X\/j=B\/j=Lp) h1 g):Old h0 g :=
 ⟨zu x.o.1 c.nx,fun j hj=>by
  rw [c.get j (zo hj x.o.1) (by have:=x.c1;have:=x.x1;have:=x.b1;have:=x.l1;omega),x.o.2 j hj]⟩
theorem MI.keep (a:MI h1 cb X B Lp q ws t iv ov lo r ML g) (x:MX h0 h1 cb X B Lp q ws) (o:Old g g'):MI h1 cb X B Lp q ws t iv ov lo r ML g':=by
 have hn:=a.ch.nx
 refine ⟨a.ch.trans o.ch,?_,?_,?_,?_,fun y hy=>⟨(a.dv y hy).1.keep2 o.1 fun hne z hz=>o.2 z ((a.dv y hy).1.lt hne hz),(a.dv y hy).2⟩⟩
 ·obtain ⟨p,k,e1,e2⟩:=a.cb_
  exact ⟨p,k,by rw [o.2 cb (zo x.c2 hn),e1],e2⟩
 ·obtain ⟨mv,e1,e2⟩:=a.X_
  exact ⟨mv,by rw [o.2 X (zo x.x2 hn),e1],e2.keep o.1 fun z hz=>o.2 z (e2.at_ge hz).2⟩
 ·rw [o.2 B (zo x.b2 hn),a.B_]
 ·rw [o.2 Lp (zo x.l2 hn),a.L_]
theorem jdR : ∀ {l:List MvX} {b:UInt8},jbw b∈(l.map MvX.V).flatten -> ∃ y∈l,y.dv=jbw b
 | [],_,h=>by simp at h
 | y :: l,b,h=>by
  rw [List.map_cons,zM] at h
  rcases zF.1 h with h | h
  ·refine ⟨y,by simp,?_⟩
   simp only [MvX.V,mvV,zP,List.not_mem_nil,or_false] at h
   rcases h with h | h | h | h
   ·cases h
   ·cases h
   ·cases h
   ·exact h.symm
  ·obtain ⟨z,h1,h2⟩:=jdR h
   exact ⟨z,zj _ h1,h2⟩
theorem jcu {N n:Nat} {sv dv:V} {D:List UInt8} {l:List MvX} (row:Row N g 4 sv n (l.map MvX.V).flatten) (hl : ∀ y∈l,∃ h D,VB h y.dv D) (v:VB g dv D) (hD:D≠[]) {z:Nat} (hz:dv.at?=some z):sv.at?≠some z:=by
 intro e
 obtain ⟨a,c,rfl,_,_,f⟩:=v
 obtain ⟨b,o,cs,ro,rfl,_,f2,f3⟩:=f hD
 obtain rfl:b=z:=by simpa [V.at?] using hz
 rcases row with ⟨_,_,rfl⟩ | ⟨p,_,_,rfl,p4,_⟩
 ·cases e
 ·obtain rfl:p=b:=by simpa [V.at?] using e
  rw [f2] at p4
  cases p4
  cases D with
  | nil=>exact hD rfl
  | cons x D=>
   have hx:=f3 0 x rfl
   obtain ⟨y,hy,he⟩:=jdR (zb hx)
   obtain ⟨_,_,a2,c2,e2,_⟩:=hl y hy
   rw [he] at e2;cases e2
end
theorem jkg {m:Mv} {dv:V} (h:dv.one=true):(mvV m dv).all V.one=true:=by
 show (true&&(true&&(true&&(dv.one&&true))))=true
 rw [h];rfl
theorem jdM {t:Int} {iv:Bool} {ov mv:V} (h1:ov.one=true) (h2:mv.one=true):([.int .u64 t,.bool iv,ov,mv]:List V).all V.one=true:=by
 show (true&&(true&&(ov.one&&(mv.one&&true))))=true
 rw [h1,h2];rfl
section
variable {cl:Nat->Call} (hcl:Sem cl) {d:Nat} {h0 h1 g:H} {cb X B Lp q:Nat} {ws r:List (List UInt8)} {t:Int} {iv:Bool} {ov:V} {ML:List MvX} {LO:LoopState->Option Ex->Obj}
include hcl
theorem rd_yield {m:Mv} {dv:V} {fine:Bool} {assign:AC} (hA:assign = .seq (.region 0 [.mk4 0 (some 11) (.alloc 4 [.i 0,.i 0,.i 0,.nils]) none,.mk4 1 none (.store 4 (.t 11) (.t 88)) none] [2,3,11,89]) (.region 0 [.mk4 0 (some 12) (.mv (.t 89)) none] [2,3,11,12]))
  (hd:1<=d) (hLO:LO=(fun st pd=>.loop st pd [88,89] [(2,.p X 0),(3,.p B 0)] assign (.block 3 c37_1))) (x:MX h0 h1 cb X B Lp q ws) (a:MI h1 cb X B Lp q ws t iv ov (LO .ready none) r ML g) (hov:ov.one=true) (h1d:dv.one=true) (hv:fine=true->VB g dv m.D /\ ∀ z,dv.at?=some z->h1.nx<=z) (hML:ML.length<=100000) :
  ∃ g',cl d (.yld Lp) [.agg (mvV m dv),.bool fine] g=some (.bool fine,g')/\(fine=true->MI h1 cb X B Lp q ws t iv ov (LO .ready none) r (ML++[⟨m,dv⟩]) g')/\(fine=false->MJ h1 cb X B Lp (LO .done (some .ret)) g'):=by
 suffices w : ∃ v' g',cl d (.yld Lp) [.agg (mvV m dv),.bool fine] g=some (v',g')/\(v' = .bool fine/\(fine=true->MI h1 cb X B Lp q ws t iv ov (LO .ready none) r (ML++[⟨m,dv⟩]) g')/\(fine=false->MJ h1 cb X B Lp (LO .done (some .ret)) g')) by
  obtain ⟨_,g',e,rfl,k⟩:=w
  exact ⟨g',e,k⟩
 have hn:=a.ch.nx
 have hl2:=x.l2;have hx2:=x.x2;have hb2:=x.b2;have hc2:=x.c2
 obtain ⟨n1,n2,n3,n4,n5,n6,n7,n8,n9,n10⟩:=x.ne
 obtain ⟨mv,gX,row⟩:=id a.X_
 have gB:=a.B_
 have hmvone:mv.one=true:=by rcases row with ⟨_,_,rfl⟩ | ⟨_,_,_,rfl,_⟩<;>rfl
 refine yl_ hcl om hLO a.L_ rfl ?_
 subst hA
 refine Run.seq (zac ?_)
 refine zcu (ob := .cells [.i 0,.i 0,.i 0,.nils] false) (mk:=fun b=>.p b 0) rfl rfl ?_
 refine zct (n:=4) (o:=0) (vs:=mvV m dv) rfl rfl rfl (jkg h1d) (jac _) Zd ?_
 rw [show jal ([.i 0,.i 0,.i 0,.nils]:List V) 0 (mvV m dv)=mvV m dv from rfl]
 have o1:Old g ((g.new (.cells [.i 0,.i 0,.i 0,.nils] false)).set g.nx (.cells (mvV m dv) false)):=(zX g).new.set (zn _)
 have gm1:((g.new (.cells [.i 0,.i 0,.i 0,.nils] false)).set g.nx (.cells (mvV m dv) false)).get g.nx=some (.cells (mvV m dv) false):=jab _
 have hm1:g.nx<((g.new (.cells [.i 0,.i 0,.i 0,.nils] false)).set g.nx (.cells (mvV m dv) false)).nx:=by simp
 have a1:=a.keep x o1
 generalize (g.new (.cells [.i 0,.i 0,.i 0,.nils] false)).set g.nx (.cells (mvV m dv) false)=G at o1 gm1 hm1 a1 ⊢
 have hv1:fine=true->VB G dv m.D /\ ∀ z,dv.at?=some z->h1.nx<=z:=fun hf=>⟨(hv hf).1.keep2 o1.1 fun hne z hz=>o1.2 z ((hv hf).1.lt hne hz),(hv hf).2⟩
 have hdv : ∀ y∈ML,∃ h D,VB h y.dv D:=fun y hy=>⟨_,_,(a1.dv y hy).1⟩
 have hmvlt : ∀ z,mv.at?=some z->h1.nx<=z/\z<g.nx:=fun z hz=>row.at_ge hz
 have gX:G.get X=some (.cells [.int .u64 t,.bool iv,ov,mv] false):=by rw [o1.2 X om,gX]
 have row:Row h1.nx G 4 mv ML.length (ML.map MvX.V).flatten:=row.keep o1.1 fun z hz=>o1.2 z (hmvlt z hz).2
 clear hv a gB
 generalize hmb:g.nx=mb at gm1 hm1 o1 hn ⊢
 have gB:=a1.B_
 have gL:=a1.L_
 have hnG:=o1.1
 refine qx ?_
 refine End.nil ⟨rfl,gL,?_⟩
 have gX2:(G.set Lp (LO .busy none)).get X=some (.cells [.int .u64 t,.bool iv,ov,mv] false):=by rw [jaa n5,gX]
 have gB2:(G.set Lp (LO .busy none)).get B=some (.cells [.bool false] false):=by rw [jaa n6,gB]
 have gm2:(G.set Lp (LO .busy none)).get mb=some (.cells (mvV m dv) false):=by rw [jaa om,gm1]
 have gL2:(G.set Lp (LO .busy none)).get Lp=some (LO .busy none):=jab _
 have hx3:(G.set Lp (LO .busy none)).nx=G.nx:=rfl
 have row2:Row h1.nx (G.set Lp (LO .busy none)) 4 mv ML.length (ML.map MvX.V).flatten:=row.keep Zd fun z hz=>by have:=row.at_ge hz;exact jaa om
 have hk2 : ∀ j,j≠Lp->(G.set Lp (LO .busy none)).get j=G.get j:=fun j hj=>jaa hj
 generalize G.set Lp (LO .busy none)=G2 at gX2 gB2 gm2 gL2 hx3 row2 hk2 ⊢
 cases fine with
 | false=>
  clear hv1 row row2 o1
  have hall:=jdM (t:=t) (iv:=iv) hov hmvone
  refine qx ?_
  refine zcw rfl gX2 Zd ?_
  refine zct (vs:=[.int .u64 t,.bool iv,ov,mv]) rfl rfl rfl hall gX2 Zd ?_
  rw [show jal ([.int .u64 t,.bool iv,ov,mv]:List V) 0 [.int .u64 t,.bool iv,ov,mv]=[.int .u64 t,.bool iv,ov,mv] from rfl]
  refine zcs (l:=[.bool false]) rfl rfl rfl (by rw [jaa (Ne.symm n4),gB2]) Zd ?_
  refine qx ?_
  refine End.nil ⟨⟨_,_,by rw [jaa (Ne.symm n6),jaa (Ne.symm n5)];exact gL2⟩,rfl,(fun hf=>by cases hf),fun _=>⟨?_,⟨_,by rw [jaa n5,jaa n4];exact jab _,rfl,hall⟩,by rw [jaa n6];exact jab _,jab _⟩⟩
  have c0:Ch (fun j=>j=cb\/j=X\/j=B\/j=Lp) h1 G2:=a1.ch.trans ⟨by rw [hx3];exact zn _,fun j _ hn=>hk2 j fun e=>hn (.inr (.inr (.inr e)))⟩
  exact ((c0.trans (Ch.set (.inr (.inl rfl)))).trans (Ch.set (.inr (.inr (.inl rfl))))).trans (Ch.set (.inr (.inr (.inr rfl))))
 | true=>
  obtain ⟨v1,v2⟩:=hv1 rfl
  have q3:([.int .u64 t,.bool iv,ov,mv]:List V)[0+3]?=some mv:=rfl
  have hlen:(mvV m dv).length=4:=rfl
  clear hv1 o1 hmvone
  have hmv1:=jkg (m:=m) h1d
  have hnb : ∀ z,(∃ y∈ML++[⟨m,dv⟩],y.m.D≠[]/\y.dv.at?=some z)->mv.at?≠some z/\h1.nx<=z/\z<G.nx:=by
   rintro z ⟨y,hy,hD,hz⟩
   rcases zF.1 hy with hy | hy
   ·obtain ⟨p1,p2⟩:=a1.dv y hy
    exact ⟨jcu row hdv p1 hD hz,p2 z hz,p1.lt hD hz⟩
   ·obtain rfl:=List.mem_singleton.1 hy
    exact ⟨jcu row hdv v1 hD hz,v2 z hz,v1.lt hD hz⟩
  clear row
  refine qx ?_
  refine zcw rfl gm2 Zd ?_
  rw [show ((mvV m dv).drop 0).take 4=mvV m dv from rfl]
  refine Ops.push (N:=h1.nx) (n:=ML.length) (new:=mvV m dv) rfl rfl rfl hmv1 om rfl rfl row2 om om om fun w g3 row3 hx4 hz4 hk4=>?_
  have hw1:w.one=true:=by rcases row3 with ⟨e,_⟩ | ⟨_,_,_,rfl,_⟩<;>first | rfl | (omega)
  have hlt : ∀ j,j<h1.nx->g3.get j=G2.get j:=fun j hj=>hk4 j om fun e=>by have:=(row2.at_ge e).1;omega
  have gX3:g3.get X=some (.cells [.int .u64 t,.bool iv,ov,mv] false):=by rw [hlt X hx2,gX2]
  have hwz : ∀ z,w.at?=some z->h1.nx<=z:=fun z hz=>(row3.at_ge hz).1
  refine qx ?_
  refine zcs rfl rfl hw1 gX3 Zd ?_
  rw [show ([.int .u64 t,.bool iv,ov,mv]:List V).set (0+3) w=[.int .u64 t,.bool iv,ov,w] from rfl]
  refine qx ?_
  have gf : ∀ j,j≠X->j≠Lp->((g3.set X (.cells [.int .u64 t,.bool iv,ov,w] false)).set Lp (LO .ready none)).get j=g3.get j:=fun j e1 e2=>by rw [jaa e2,jaa e1]
  obtain ⟨p,k,e1,e2⟩:=a1.cb_
  refine End.nil ⟨⟨_,_,by rw [jaa (Ne.symm n5),hlt Lp hl2,gL2]⟩,rfl,fun _=>⟨?_,⟨p,k,?_,e2⟩,⟨w,?_,?_⟩,?_,jab _,fun y hy=>?_⟩,fun hf=>by cases hf⟩
  ·have c0:Ch (fun j=>j=cb\/j=X\/j=B\/j=Lp) h1 G2:=a1.ch.trans ⟨by rw [hx3];exact zn _,fun j _ hn=>hk2 j fun e=>hn (.inr (.inr (.inr e)))⟩
   have c1:Ch (fun j=>j=cb\/j=X\/j=B\/j=Lp) h1 g3:=⟨by omega,fun j hj hn=>by rw [hlt j hj,c0.get j hj hn]⟩
   exact (c1.trans (Ch.set (.inr (.inl rfl)))).trans (Ch.set (.inr (.inr (.inr rfl))))
  ·show ((g3.set X _).set Lp (LO .ready none)).get cb=_
   rw [gf cb n1 n3,hlt cb hc2,hk2 cb n3,e1]
  ·show ((g3.set X _).set Lp (LO .ready none)).get X=_
   rw [jaa n5];exact jab _
  ·have hr:((ML++[(⟨m,dv⟩:MvX)]).map MvX.V).flatten=(ML.map MvX.V).flatten++mvV m dv:=by simp
   rw [hr,show (ML++[(⟨m,dv⟩:MvX)]).length=ML.length+1 by simp]
   exact row3.keep Zd fun z hz=>gf z (by have:=hwz z hz;omega) (by have:=hwz z hz;omega)
  ·show ((g3.set X _).set Lp (LO .ready none)).get B=_
   rw [gf B (Ne.symm n4) n6,hlt B hb2,gB2]
  ·have hVB:VB G y.dv y.m.D /\ ∀ z,y.dv.at?=some z->h1.nx<=z:=by
    rcases zF.1 hy with hy' | hy'
    ·exact a1.dv y hy'
    ·obtain rfl:=List.mem_singleton.1 hy'
     exact ⟨v1,v2⟩
   refine ⟨hVB.1.keep2 Zc fun hD z hz=>?_,hVB.2⟩
   obtain ⟨z1,z2,z3⟩:=hnb z ⟨y,hy,hD,hz⟩
   show ((g3.set X _).set Lp (LO .ready none)).get z=_
   rw [gf z om om,hk4 z om z1,hk2 z om]
end
theorem MI.cut {h0 h1 g:H} {cb X B Lp q o k:Nat} {ws r r':List (List UInt8)} {t:Int} {iv:Bool} {ov:V} {lo:Obj} {ML:List MvX} (a:MI h1 cb X B Lp q ws t iv ov lo r ML g) (x:MX h0 h1 cb X B Lp q ws) (hk:r'.length<=k) (hw:ws.drop o=r') :
  MI h1 cb X B Lp q ws t iv ov lo r' ML (g.set cb (.cells [.slice (some (q,o)) r'.length (.fix k)] false)):=by
 obtain ⟨n1,n2,n3,n4,n5,n6,n7,n8,n9,n10⟩:=x.ne
 have hc:=x.c2
 refine ⟨a.ch.trans (Ch.set (.inl rfl)),⟨o,k,jab _,hk,hw⟩,?_,by rw [jaa (Ne.symm n2),a.B_],by rw [jaa (Ne.symm n3),a.L_],fun y hy=>⟨(a.dv y hy).1.keep2 Zd fun hne z hz=>jaa fun e=>by have:=(a.dv y hy).2 z hz;omega,(a.dv y hy).2⟩⟩
 obtain ⟨mv,e1,e2⟩:=a.X_
 exact ⟨mv,by rw [jaa (Ne.symm n1),e1],e2.keep Zd fun z hz=>jaa fun e=>by have:=(e2.at_ge hz).1;omega⟩
section
variable {cl:Nat->Call} (hcl:Sem cl) {d:Nat} {h0 h1 g:H} {cb X B Lp q:Nat} {ws r:List (List UInt8)} {t:Int} {iv:Bool} {ov:V} {LO:LoopState->Option Ex->Obj}
include hcl
theorem rd_moves {assign:AC} (hA:assign = .seq (.region 0 [.mk4 0 (some 11) (.alloc 4 [.i 0,.i 0,.i 0,.nils]) none,.mk4 1 none (.store 4 (.t 11) (.t 88)) none] [2,3,11,89]) (.region 0 [.mk4 0 (some 12) (.mv (.t 89)) none] [2,3,11,12]))
  (hd:7<=d) (hLO:LO=(fun st pd=>.loop st pd [88,89] [(2,.p X 0),(3,.p B 0)] assign (.block 3 c37_1))) (x:MX h0 h1 cb X B Lp q ws) (a:MI h1 cb X B Lp q ws t iv ov (LO .ready none) r [] g) (hov:ov.one=true) (hl : ∀ a∈ws,a.length<=50000) (hr:r.length<=50000) :
  ∃ v g',cl d (.fn 107) [.yld Lp,.p cb 0] g=some (v,g')/\((∃ ML,mvsR r.length r=some (ML.map MvX.m)/\MI h1 cb X B Lp q ws t iv ov (LO .ready none) [] ML g')\/(mvsR r.length r=none/\MJ h1 cb X B Lp (LO .done (some .ret)) g')):=by
 obtain ⟨n1,n2,n3,n4,n5,n6,n7,n8,n9,n10⟩:=x.ne
 have hl2:=x.l2;have hx2:=x.x2;have hb2:=x.b2;have hc2:=x.c2;have hq2:=x.q2
 refine aT hcl ?_
 generalize hR:mvsR r.length r=R
 obtain ⟨C10,hC10⟩ : ∃ C,C=c107_10:=⟨_,rfl⟩
 simp only [c107,<- hC10,yC]
 refine qx ?_
 refine zW (fun j e g=>∃ (r':List (List UInt8)) (ML:List MvX) (sbe:Env),j=r'.length/\ML.length+r'.length<=50000/\e=(0,.yld Lp) :: (1,.p cb 0) :: sbe/\MI h1 cb X B Lp q ws t iv ov (LO .ready none) r' ML g/\(mvsR r'.length r').map (ML.map MvX.m ++ ·)=R)
  (k:=r.length) Ze ⟨r,[],[],rfl,by simpa using hr,rfl,a,by rw [hR];cases R<;>simp⟩ ?_
 clear a hR hr
 rintro _ _ g ⟨r',ML,sbe,rfl,hlen,rfl,a,hR⟩ f ih
 obtain ⟨o,k,hcb,hk,hw⟩:=id a.cb_
 match r',hlen,a,hR,hcb,hk,hw,ih with
 | [],hlen,a,hR,hcb,hk,hw,ih=>
  have hR':some (ML.map MvX.m)=R:=by rw [<- hR];simp [mvsR]
  subst hR'
  have h0 : ¬ (0:Int)<((([]:List (List UInt8)).length:Nat):Int):=by simp
  clear ih
  refine qx ?_
  exact .inl ⟨ML,rfl,a⟩
 | w :: rest,hlen,a,hR,hcb,hk,hw,ih=>
  have hp:(0:Int)<(((w :: rest).length:Nat):Int):=by simp
  have hgn:=a.ch.nx
  have gq:g.get q=some (.cells (strs ws) false):=by rw [a.ch.get q hq2 om,x.qw]
  have hwo:ws[o]?=some w:=by have e:=congrArg (fun l:List (List UInt8)=>l[0]?) hw;simpa [zk] using e
  have og0:=x.old0 a.ch
  have gv:=x.gv.old og0
  have g1:=x.gv
  have nS:=x.gv.lS;have nR:=x.gv.lR;have nW:=x.gv.lW;have nP:=x.gv.pw.1
  have h0g:=og0.1
  have hlr:(w :: rest).length=rest.length+1:=rfl
  rw [mvsR_step Zd,mvR_pm] at hR
  obtain ⟨C9,hC9⟩ : ∃ C,C=(.block 2 (.loop [0,1,3] c107_9):AC):=⟨_,rfl⟩
  obtain ⟨C8,hC8⟩ : ∃ C,C=c107_8:=⟨_,rfl⟩
  rw [hC10] at ih ⊢
  simp only [c107_10,<- hC9,<- hC8,yN] at ih ⊢
  refine qx ?_
  refine zcu (ob := .cells [.i 0,.i 0,.i 0,.nils] false) (mk:=fun b=>.p b 0) rfl rfl ?_
  refine zct (n:=4) (o:=0) (vs:=mvV ⟨7,0,0,[]⟩ .nils) rfl rfl rfl rfl (jac _) Zd ?_
  rw [show jal ([.i 0,.i 0,.i 0,.nils]:List V) 0 (mvV ⟨7,0,0,[]⟩ .nils)=mvV ⟨7,0,0,[]⟩ .nils from rfl]
  have o1:Old g ((g.new (.cells [.i 0,.i 0,.i 0,.nils] false)).set g.nx (.cells (mvV ⟨7,0,0,[]⟩ .nils) false)):=(zX g).new.set (zn _)
  have gm1:((g.new (.cells [.i 0,.i 0,.i 0,.nils] false)).set g.nx (.cells (mvV ⟨7,0,0,[]⟩ .nils) false)).get g.nx=some (.cells (mvV ⟨7,0,0,[]⟩ .nils) false):=jab _
  have hm1:g.nx<((g.new (.cells [.i 0,.i 0,.i 0,.nils] false)).set g.nx (.cells (mvV ⟨7,0,0,[]⟩ .nils) false)).nx:=by simp
  generalize (g.new (.cells [.i 0,.i 0,.i 0,.nils] false)).set g.nx (.cells (mvV ⟨7,0,0,[]⟩ .nils) false)=G at o1 gm1 hm1 ⊢
  have Gc:G.get cb=_:=(o1.2 cb om).trans hcb
  have Gq:G.get q=_:=(o1.2 q om).trans gq
  have Gv1:=gv.old o1
  refine qx ?_
  subst hC9
  refine mr_search hcl (n:=(w :: rest).length) (mb:=g.nx) Gv1 Gc Zd Gq hwo om om gm1 om fun h2 sb2 u=>?_
  have o2:Old g h2:=o1.trans' (by rw [u.nx];exact zn _) fun j hj=>u.get j om
  have gm2:=u.self
  have hm2:g.nx<h2.nx:=by rw [u.nx];exact hm1
  have gv2:=gv.old o2
  have q0:(mvV ⟨opW w,0,0,[]⟩ .nils)[0+0]?=some (.i (opW w)):=rfl
  have e2:=jek hcl (d:=d-1) (h:=h2) (op:=opW w) om
  clear u Gc Gq Gv1 gm1 o1 hm1
  refine qx ?_
  have hc3:h2.get cb=some (.cells [.slice (some (q,o)) (rest.length+1) (.fix k)] false):=(o2.2 cb om).trans hcb
  have hq3:=(o2.2 q om).trans gq
  obtain ⟨C7,hC7⟩ : ∃ C,C=c107_7:=⟨_,rfl⟩
  rw [hC8] at ih ⊢
  refine mr_parts hcl (K:=_) (mb:=g.nx) (ws:=ws) gv2 om om om hm2 hc3 hq3 hw hl (by simp at hlen;omega) om om om om om om gm2 fun h3 m dv fine sb3 c3 gm3 d3 hf3 hT=>?_
  have o3:Old g h3:=o2.trans' c3.nx fun j hj=>c3.get j om om
  have a3:=a.keep x o3
  obtain ⟨h4,e4,y1,y2⟩:=rd_yield hcl (d:=d-1) (m:=m) (dv:=dv) (fine:=fine) hA om hLO x a3 hov d3 (fun hf=>by
   have hs:(pmF w rest).isSome=true:=by rw [<- hf3,hf]
   obtain ⟨m',hm'⟩:=Option.isSome_iff_exists.1 hs
   obtain ⟨rfl,v1,v2⟩:=hT m' hm'
   exact ⟨v1,fun z hz=>by have:=v2 z hz;omega⟩) om
  have hmE : ∀ m',pmF w rest=some m'->m=m':=fun m' e=>(hT m' e).1
  clear hT gm2 hc3 hq3 gv2 e2 q0 o2 a3
  cases fine with
  | false=>
   have hnone:pmF w rest=none:=by
    cases hp2:pmF w rest with
    | none=>rfl
    | some m'=>rw [hp2] at hf3;cases hf3
   rw [hnone] at hR
   have hR':none=R:=hR
   subst hR'
   have y2:=y2 rfl
   clear ih y1
   refine qx ?_
   refine zcw rfl gm3 Zd ?_
   rw [show ((mvV m dv).drop 0).take 4=mvV m dv from rfl]
   refine qx ?_
   refine Ops.yield rfl rfl e4 ?_
   refine qx ?_
   exact .inr ⟨rfl,y2⟩
  | true=>
   have hs:(pmF w rest).isSome=true:=hf3.symm
   obtain ⟨m',hm'⟩:=Option.isSome_iff_exists.1 hs
   have y1:=y1 rfl
   have hcond : ¬ rest.length<(jap (opW w)).length:=fun hlt=>by
    rw [pmF,zw (.inr hlt)] at hm'
    cases hm'
   rw [hm'] at hR
   have hmm:m=m':=hmE m' hm'
   subst hmm
   obtain ⟨o4,k4,hcb4,hk4,hw4⟩:=id y1.cb_
   generalize hps:jap (opW w)=ps at *
   have hadd:(1:Int)+((ps.length:Nat):Int)=((1+ps.length:Nat):Int):=by omega
   have hpl:ps.length<=50000:=by simp at hlen;omega
   clear y2 hm' hmE hf3
   refine qx ?_
   refine zcw rfl gm3 Zd ?_
   rw [show ((mvV m dv).drop 0).take 4=mvV m dv from rfl]
   refine qx ?_
   refine Ops.yield rfl rfl e4 ?_
   refine qx ?_
   rw [hadd]
   refine Ops.slice_l (sz:=1) rfl rfl (by rw [hlr];omega) hk4 ?_
   refine zcs (l:=[.slice (some (q,o4)) (w :: rest).length (.fix k4)]) rfl rfl rfl hcb4 Zd ?_
   refine qx ?_
   have hrl:(w :: rest).length-(1+ps.length)=(rest.drop ps.length).length:=by rw [hlr,List.length_drop];omega
   have hst:([.slice (some (q,o4)) (w :: rest).length (.fix k4)]:List V).set 0 (.slice (some (q,o4+(1+ps.length)*1)) ((w :: rest).length-(1+ps.length)) ((Cap.fix k4).less (1+ps.length)))=[.slice (some (q,o4+(1+ps.length)*1)) (rest.drop ps.length).length (.fix (k4-(1+ps.length)))]:=by rw [hrl];rfl
   have hw5:ws.drop (o4+(1+ps.length)*1)=rest.drop ps.length:=by
    rw [Nat.mul_one,<- List.drop_drop,hw4,Nat.add_comm 1,List.drop_succ_cons]
   rw [hst]
   refine ih (rest.drop ps.length).length (by rw [List.length_drop,hlr];omega) _ _ ⟨rest.drop ps.length,ML++[⟨m,dv⟩],_,rfl,?_,rfl,y1.cut x ?_ hw5,?_⟩
   ·simp only [ze,List.length_drop,List.length_cons,List.length_nil] at hlen ⊢;omega
   ·rw [List.length_drop];rw [hlr] at hk4;omega
   ·rw [<- hR]
    simp only [Option.map_some]
    cases mvsR (rest.drop ps.length).length (rest.drop ps.length)<;>simp
end
def RdP (h:H) (s:List UInt8) (v:V) (h':H):Prop :=
 ∃ xs b,v = .tup [.agg xs,.bool b]/\Old h h'/\xs.length=4/\xs.all V.one=true /\
  (b=true -> ∃ y:SpX,xs=y.V/\StepAt h' (h.nx <= ·) (h.nx <= ·) y/\SpFit y.sp/\jaD y.sp=s)/\(b=false -> ∀ x,SpFit x->jaD x≠s)
theorem jic {s:List UInt8} (h:pwW (jae 32 s)=none) : ∀ x,SpFit x->jaD x≠s:=fun x f e=>by
 rw [<- e,jdl f] at h;cases h
theorem mvR_fit {l t:List (List UInt8)} {m:Mv} (h:mvR l=some (m,t)):0<=m.wire/\m.wire<9223372036854775808/\0<=m.n/\m.n<9223372036854775808:=by
 have key : ∀ {a n},numP a=some n->0<=n/\n<9223372036854775808:=fun e=>⟨(jbS e).1,(jbS e).2.1⟩
 unfold mvR at h
 split at h
 ·split at h
  ·split at h
   ·next e1 e2=>cases h;have:=key e1;simp only;omega
   ·cases h
  ·split at h
   ·split at h
    ·next e1 e2=>cases h;have:=key e1;have:=key e2;simp only;omega
    ·cases h
   ·split at h
    ·split at h
     ·next e1=>cases h;have:=key e1;simp only;omega
     ·cases h
    ·split at h
     ·cases h
     ·split at h
      ·next e1=>cases h;have:=key e1;simp only;omega
      ·cases h
 ·split at h
  ·cases h
  ·split at h
   ·split at h
    ·next e1=>cases h;have:=key e1;simp only;omega
    ·cases h
   ·split at h
    ·cases h
    ·split at h
     ·next e1=>cases h;have:=key e1;simp only;omega
     ·cases h
 ·cases h
theorem jiM : ∀ {f:Nat} {l:List (List UInt8)} {M:List Mv},mvsR f l=some M -> ∀ m∈M,m.wire<9223372036854775808/\m.n<9223372036854775808
 | _,[],M,h,m,hm=>by
  have:M=[]:=by cases ‹Nat› <;> (simp [mvsR] at h;exact h)
  rw [this] at hm;cases hm
 | 0,_ :: _,M,h,m,hm=>by simp [mvsR] at h
 | f+1,w :: r,M,h,m,hm=>by
  rw [mvsR] at h
  split at h
  ·cases h
  ·next m' t e=>
   split at h
   ·cases h
   ·next l e2=>
    cases h
    rcases zP.1 hm with rfl | hm
    ·have:=mvR_fit e;omega
    ·exact jiM e2 m hm
theorem jkJ {base cut mx:Nat} : ∀ {s:List UInt8} {n m:Nat},n<=mx->puN base cut mx s n=(m,0)->m<=mx
 | [],n,m,h,e=>by
  simp only [puN,Prod.mk.injEq,and_true] at e;omega
 | c :: r,n,m,h,e=>by
  unfold puN at e
  split at e
  ·simp at e
  ·split at e
   ·simp at e
   ·split at e
    ·simp at e
    ·exact jkJ om e
section
variable {call:Call} {fuel base:Nat} {ops:List Ins} {keep:List Nat} {K:List Fr} {e:Env} {h:H} {Q:Post} {ix:Nat} {dst at_:Option Nat}
theorem jgA {d n:Nat} {a:Opd} {b o:Nat} {l:List V} {ro:Bool} (ha:a.ev e=some (.ptr (some (b,o)))) (hg:h.get b=some (.cells l ro)) (hn:o+n<=l.length) (hd:e.get d=some (.agg ((l.drop o).take n))):jau e h [(d,.loadN n a,none)]=true:=by
 have h1:I.read e h (.loadN n a)=some (.agg ((l.drop o).take n)):=by simp only [I.read,ha,jby hg hn]
 simp only [jau,wanted,cond_true,h1,hd,V.same_refl,Bool.and_true]
end
theorem jkq {call:Call} {fuel:Nat} {h:H} {X B:Nat} {xs:List V} {v:V} {ro ro2:Bool} {R:V->H->Prop} {e:Env} (e1:e.get 2=some (.p X 0)) (e2:e.get 3=some (.p B 0)) (hX:h.get X=some (.cells xs ro)) (hl:xs.length=4) (hB:h.get B=some (.cells [v] ro2)) (k:R (.tup [.agg xs,v]) h) :
  End call fuel [] .ret e h (Fin [.cellN 2 4,.cell1 3] R):=by
 refine End.fin2 (a := .agg xs) (b:=v) (l:=[]) ?_ k
 have h1:h.load X 0 4=some xs:=by rw [jby hX om,zi,zf om]
 have h2:h.load1 B 0=some v:=by simp only [H.load1,hB];rfl
 simp only [jcb,e1,e2,h1,h2]
theorem jeX {call:Call} {fuel:Nat} {h:H} {X B:Nat} {xs:List V} {v:V} {ro ro2:Bool} {R:V->H->Prop} {sb:Env} (hX:h.get X=some (.cells xs ro)) (hl:xs.length=4) (hB:h.get B=some (.cells [v] ro2)) (k:R (.tup [.agg xs,v]) h) :
  End call fuel [] .ret ((2,.p X 0) :: (3,.p B 0) :: sb) h (Fin [.cellN 2 4,.cell1 3] R):=jkq rfl rfl hX hl hB k
theorem jk9 {h g:H} {X B:Nat} {s:List UInt8} {xs:List V} (o:Old h g) (hx:h.nx<=X) (hb:h.nx<=B) (hl:xs.length=4) (h1:xs.all V.one=true) (hno : ∀ x,SpFit x->jaD x≠s):RdP h s (.tup [.agg xs,.bool false]) ((g.set X (.cells xs false)).set B (.cells [.bool false] false)) :=
 ⟨xs,false,rfl,(o.set hx).set hb,hl,h1,(fun e=>by cases e),fun _=>hno⟩
section
variable {cl:Nat->Call} (hcl:Sem cl) {d:Nat} {h g:H} {X B:Nat} {s:List UInt8} {sb:Env}
include hcl
theorem rd_end {y:SpX} (hd:11<=d) (gv:Gv g) (o:Old h g) (hx:h.nx<=X) (hx2:X<g.nx) (hb:h.nx<=B) (hb2:B<g.nx) (hne:X≠B) (hX:g.get X=some (.cells y.V false)) (hB:g.get B=some (.cells [.bool false] false)) (A:StepAt g (fun z=>h.nx<=z/\z≠B) (fun z=>h.nx<=z/\z≠B) y) (hp:pwW (jae 32 s)=some y.sp) (hm : ∀ m∈y.sp.moves,m.wire<9223372036854775808/\m.n<9223372036854775808) :
  Run (cl d) fuel c37_2 [] ((0,.str s) :: (2,.p X 0) :: (3,.p B 0) :: sb) g (Fin c37.res fun v h'=>RdP h s v h'):=by
 have hV1:(y.V).all V.one=true:=by
  obtain ⟨a,c,e,_⟩:=id A.ov.1
  obtain ⟨a',c',e',_⟩:=id A.mv
  simp only [SpX.V,e,e'];rfl
 have hVl:(y.V).length=4:=rfl
 have hset:jal y.V 0 y.V=y.V:=rfl
 have htk:((y.V).drop 0).take 4=y.V:=rfl
 obtain ⟨g1,e1,o1⟩:=jfD hcl (d:=d) (h:=g) hd A
 have gX1:g1.get X=some (.cells y.V false):=by rw [o1.2 X hx2,hX]
 have gB1:g1.get B=some (.cells [.bool false] false):=by rw [o1.2 B hb2,hB]
 by_cases hmay:y.sp.may
 case neg=>
  rw [zt hmay] at e1
  have hno : ∀ x,SpFit x->jaD x≠s:=fun x f e=>by
   rw [<- e,jdl f] at hp
   cases hp
   exact hmay f.may
  clear A hm
  refine qx ?_
  refine zcw rfl hX Zd ?_
  rw [htk]
  refine qx ?_
  refine zcw rfl hX Zd ?_
  rw [htk]
  refine Ops.callf_chk rfl e1 (jgA rfl gX1 Zd (by rw [htk];rfl)) ?_
  refine qx ?_
  refine zct (vs:=y.V) rfl rfl rfl hV1 gX1 Zd ?_
  rw [hset]
  refine zcs (l:=[.bool false]) rfl rfl rfl (by rw [jaa (Ne.symm hne),gB1]) Zd ?_
  refine qx ?_
  exact jeX (xs:=y.V) (by rw [jaa hne];exact jab _) rfl (jab _) (jk9 (o.trans o1) hx hb rfl hV1 hno)
 rw [zw hmay] at e1
 have fit:SpFit y.sp:=⟨hmay,A.t0,by have:=A.t1;show y.t<_;omega,fun m hm'=>⟨hmay.2.2.2 m hm',(hm m hm').1,(hm m hm').2⟩⟩
 obtain ⟨g2,e2,o2⟩:=jjI hcl (d:=d) (h:=g1) (gv.old o1) om (A.old o1) fit
 have gX2:g2.get X=some (.cells y.V false):=by rw [o2.2 X (zo hx2 o1.1),gX1]
 have gB2:g2.get B=some (.cells [.bool false] false):=by rw [o2.2 B (zo hb2 o1.1),gB1]
 have A2:=(A.old o1).old o2
 clear hm
 refine qx ?_
 refine zcw rfl hX Zd ?_
 rw [htk]
 refine qx ?_
 refine zcw rfl hX Zd ?_
 rw [htk]
 refine Ops.callf_chk rfl e1 (jgA rfl gX1 Zd (by rw [htk];rfl)) ?_
 refine qx ?_
 refine zcw rfl gX1 Zd ?_
 rw [htk]
 refine qx ?_
 refine Ops.callf_chk rfl e2 (jgA rfl gX2 Zd (by rw [htk];rfl)) ?_
 refine qx ?_
 refine zct (vs:=y.V) rfl rfl rfl hV1 gX2 Zd ?_
 rw [hset]
 refine zcs (l:=[.bool false]) rfl rfl rfl (by rw [jaa (Ne.symm hne),gB2]) Zd ?_
 refine qx ?_
 have o3:Old h g2:=(o.trans o1).trans o2
 by_cases hls:jaD y.sp=s
 ·have hb1:(jaD y.sp == s)=true:=by simp [hls]
  refine jeX (xs:=y.V) (by rw [jaa hne];exact jab _) rfl (jab _) ⟨y.V,true,by rw [hb1],(o3.set hx).set hb,rfl,hV1,fun _=>⟨y,rfl,?_,fit,hls⟩,fun e=>by cases e⟩
  have hk : ∀ z,z<g2.nx->(h.nx<=z/\z≠B)->((g2.set X (.cells y.V false)).set B (.cells ([V.bool false].set 0 (.bool (jaD y.sp == s))) false)).get z=g2.get z/\h.nx<=z:=by
   intro z _ hz
   refine ⟨?_,hz.1⟩
   rw [jaa hz.2]
   by_cases e:z=X
   ·subst e;rw [jab,gX2]
   ·rw [jaa e]
  exact A2.keep Zd hk hk
 ·have hb1:(jaD y.sp == s)=false:=by simp [hls]
  refine jeX (xs:=y.V) (by rw [jaa hne];exact jab _) rfl (jab _) ?_
  rw [hb1]
  exact jk9 o3 hx hb rfl hV1 fun x f e=>by
   have hp2:=hp
   rw [<- e,jdl f] at hp2
   cases hp2
   exact hls e
end
def pwA (t:Int) (iv:Bool):Option (List Int × List (List UInt8))->Option Sp
 | none=>none
 | some (o,r)=>(mvsR r.length r).map fun M=>⟨t,iv,o,M⟩
theorem pwW_A {a b:List UInt8} {r:List (List UInt8)} {n:Nat} (ha:a=jec) (hb:puS 10 1844674407370955162 18446744073709551615 b=(n,0)):pwW (a :: b :: r)=pwA n (pwI r).1 (pwO (pwI r).2):=by
 rw [pwW,zw ha,hb]
 simp only
 cases pwO (pwI r).2 with
 | none=>rfl
 | some x=>
  obtain ⟨o,t⟩:=x
  simp only [pwA]
  cases mvsR t.length t<;>rfl
structure RS (h:H) (X B q:Nat) (ws:List (List UInt8)) (t:Int) (iv:Bool) (ov:V) (g:H):Prop where
 gv:Gv h
 o:Old h g
 x1:h.nx<=X
 x2:X<g.nx
 b1:h.nx<=B
 b2:B<g.nx
 q1:h.nx<=q
 q2:q<g.nx
 ne:X≠B/\q≠X/\q≠B
 X_:g.get X=some (.cells [.int .u64 t,.bool iv,ov,.nils] false)
 B_:g.get B=some (.cells [.bool false] false)
 q_:g.get q=some (.cells (strs ws) false)
theorem RS.keep {h g g':H} {X B q:Nat} {ws:List (List UInt8)} {t:Int} {iv:Bool} {ov:V} (a:RS h X B q ws t iv ov g) (o:Old g g'):RS h X B q ws t iv ov g' :=
 ⟨a.gv,a.o.trans o,a.x1,zo a.x2 o.1,a.b1,zo a.b2 o.1,a.q1,zo a.q2 o.1,a.ne,by rw [o.2 _ a.x2,a.X_],by rw [o.2 _ a.b2,a.B_],by rw [o.2 _ a.q2,a.q_]⟩
theorem RS.set {h g:H} {X B q:Nat} {ws:List (List UInt8)} {t t':Int} {iv iv':Bool} {ov ov':V} (a:RS h X B q ws t iv ov g):RS h X B q ws t' iv' ov' (g.set X (.cells [.int .u64 t',.bool iv',ov',.nils] false)) :=
 ⟨a.gv,a.o.set a.x1,a.x1,a.x2,a.b1,a.b2,a.q1,a.q2,a.ne,jab _,by rw [jaa (Ne.symm a.ne.1),a.B_],by rw [jaa a.ne.2.1,a.q_]⟩
section
variable {cl:Nat->Call} (hcl:Sem cl) {d:Nat} {h g:H} {X B q o k:Nat} {s:List UInt8} {ws r:List (List UInt8)} {t:Int} {iv:Bool} {ov:V} {ol:List Int} {sb:Env}
include hcl
theorem rd_clo {wv:V} (hd:1<=d) (hw:wv.one=true):cl d (.fn 76) [wv] g=some (.clo 107 [.p g.nx 0],g.new (.cells [wv] false)):=by
 refine jam (aT hcl ?_)
 have hc:wv.cells=[wv]:=by cases wv<;>first | rfl | (simp [V.one] at hw)
 refine Run.seq (zac ?_)
 refine zcu (ob := .cells [wv] false) (mk:=fun b=>.p b 0) rfl (by show some _=_;rw [hc]) ?_
 refine qx ?_
 exact ⟨rfl,rfl⟩
theorem jld (hd:12<=d) (a:RS h X B q ws t iv ov g) (hk:r.length<=k) (hw:ws.drop o=r) (hl : ∀ a∈ws,a.length<=50000) (hr:r.length<=50000) (t0:0<=t) (t1:t<=18446744073709551615) (hov:VI g ov ol) (hoz : ∀ z,ov.at?=some z->h.nx<=z/\z≠X/\z≠B) (ho1:ov.one=true)
  (hp:pwW (jae 32 s)=pwA t iv (some (ol,r))) :
  Run (cl d) fuel c37_8 [] ((0,.str s) :: (2,.p X 0) :: (3,.p B 0) :: (4,.slice (some (q,o)) r.length (.fix k)) :: sb) g (Fin c37.res fun v h'=>RdP h s v h'):=by
 have e1:=rd_clo hcl (d:=d) (g:=g) (wv := .slice (some (q,o)) r.length (.fix k)) om rfl
 have hx2:=a.x2;have hb2:=a.b2;have hq2:=a.q2;have hx1:=a.x1;have hb1:=a.b1;have hq1:=a.q1
 obtain ⟨m1,m2,m3⟩:=a.ne
 obtain ⟨C2,hC2⟩ : ∃ C,C=c37_2:=⟨_,rfl⟩
 simp only [c37_8,<- hC2,yC]
 refine qx ?_
 have o1:Old g (g.new (.cells [.slice (some (q,o)) r.length (.fix k)] false)):=(zX g).new
 have a1:=a.keep o1
 have gc:=jac (h:=g) (.cells [.slice (some (q,o)) r.length (.fix k)] false)
 have hn1:(g.new (.cells [.slice (some (q,o)) r.length (.fix k)] false)).nx=g.nx+1:=rfl
 clear e1
 generalize g.new (.cells [.slice (some (q,o)) r.length (.fix k)] false)=G at o1 a1 gc hn1 ⊢
 refine Run.rangeFunc_lo rfl qkp fun LO hLO=>?_
 have o2:Old G (G.new (LO .ready none)):=(zX G).new
 have mx:MX h (G.new (LO .ready none)) g.nx X B G.nx q ws:=⟨a.gv,a1.o.trans o2,by have:=a.o.1;omega,by simp;omega,hx1,by simp;omega,hb1,by simp;omega,by have:=a1.o.1;omega,by simp,hq1,by simp;omega,by omega,by rw [o2.2 q om,a1.q_]⟩
 have mi:MI (G.new (LO .ready none)) g.nx X B G.nx q ws t iv ov (LO .ready none) r [] (G.new (LO .ready none)) :=
  ⟨Ch.refl _ _,⟨o,k,by rw [o2.2 _ om,gc],hk,hw⟩,⟨.nils,by rw [o2.2 X om,a1.X_],Row.nil _ _ _⟩,by rw [o2.2 B om,a1.B_],jac _,fun y hy=>by cases hy⟩
 obtain ⟨v,g',ec,hor⟩:=rd_moves hcl (d:=d) (t:=t) (iv:=iv) (ov:=ov) (r:=r) rfl om hLO mx mi ho1 hl hr
 refine ⟨v,g',ec,?_⟩
 rcases hor with ⟨ML,hM,i⟩ | ⟨hM,ch,⟨xs,jX,jl,j1⟩,jB,jL⟩
 ·refine ⟨.normal,i.L_,?_⟩
  have hch:=i.ch.nx
  simp only [H.nx_new] at hch
  have ok:Old h (g'.kill G.nx):=⟨(mx.old0 i.ch).1,fun j hj=>by rw [jak (by have:=a1.o.1;omega),(mx.old0 i.ch).2 j hj]⟩
  obtain ⟨mv,iX,row⟩:=i.X_
  rw [pwA,hM,Option.map_some] at hp
  have kX:(g'.kill G.nx).get X=some (.cells [.int .u64 t,.bool iv,ov,mv] false):=by rw [jak om,iX]
  have kB:(g'.kill G.nx).get B=some (.cells [.bool false] false):=by rw [jak om,i.B_]
  have hA:StepAt (g'.kill G.nx) (fun z=>h.nx<=z/\z≠B) (fun z=>h.nx<=z/\z≠B) ⟨t,iv,ol,ov,ML,mv⟩:=by
   have hN : ∀ z,(G.new (LO .ready none)).nx<=z->h.nx<=z/\z≠B:=fun z hz=>by simp only [H.nx_new] at hz;omega
   refine ⟨⟨?_,fun _ z hz=>⟨(hoz z hz).1,(hoz z hz).2.2⟩⟩,?_,fun y hy=>?_,t0,t1⟩
   ·have o3:=o1.trans o2
    refine (hov.keep2 o3.1 fun hne z hz=>o3.2 z (hov.lt hne hz)).keep2 Zc fun hne z hz=>?_
    have hz1:=hov.lt hne hz
    have hz2:=hoz z hz
    rw [jak om,i.ch.get z Zc om]
   ·refine (At4.of_row (f:=MvX.V) (fun _=>rfl) row).keep Zd fun z hz hzN=>⟨jak (by simp only [H.nx_new] at hzN;omega),hN z hzN⟩
   ·obtain ⟨v1,v2⟩:=i.dv y hy
    exact ⟨v1.keep2 Zd fun _ z hz=>jak (by have:=v2 z hz;simp only [H.nx_new] at this;omega),fun _ z hz=>hN z (v2 z hz)⟩
  have T:=fun sb=>rd_end hcl (d:=d) (h:=h) (g:=g'.kill G.nx) (X:=X) (B:=B) (s:=s) (sb:=sb) (y:=⟨t,iv,ol,ov,ML,mv⟩) om (a.gv.old ok) ok hx1 Zc hb1 Zc m1 kX kB hA hp (by
   intro m hm
   exact jiM hM m hm)
  rw [<- hC2] at T
  clear hA hov hoz hp
  refine qx ?_
  exact T _
 ·refine ⟨.ret,jL,?_⟩
  have hch:=ch.nx
  simp only [H.nx_new] at hch
  have ok:Old h (g'.kill G.nx):=⟨(mx.old0 ch).1,fun j hj=>by rw [jak (by have:=a1.o.1;omega),(mx.old0 ch).2 j hj]⟩
  rw [pwA,hM,Option.map_none] at hp
  refine qx ?_
  exact jkq (xs:=xs) rfl rfl (by rw [jak om,jX]) jl (by rw [jak om,jB]) ⟨xs,false,rfl,ok,jl,j1,(fun e=>by cases e),fun _=>jic hp⟩
end
theorem jhn : ∀ {a:List (List UInt8)} {w:List UInt8} {l:List Int},ordR a=some l->ordR (a++[w])=(numP w).map fun n=>l++[n]
 | [],w,l,h=>by
  cases h
  cases hn:numP w<;>simp [ordR,hn]
 | x :: a,w,l,h=>by
  rw [ordR] at h
  split at h
  ·next n l' e1 e2=>
   cases h
   rw [zL,ordR,e1,jhn e2]
   cases numP w<;>rfl
  ·cases h
theorem jho : ∀ {a b:List (List UInt8)},ordR a=none->ordR (a++b)=none
 | [],b,h=>by cases h
 | x :: a,b,h=>by
  rw [ordR] at h
  rw [zL,ordR]
  cases hn:numP x with
  | none=>rfl
  | some n=>
   rw [hn] at h
   cases ha:ordR a with
   | none=>rw [jho ha]
   | some l=>rw [ha] at h;cases h
theorem jbr {c:UInt8} : ∀ {s w:List UInt8},w∈jae c s->w.length<=s.length
 | [],w,h=>by simp [jae] at h;simp [h]
 | x :: r,w,h=>by
  unfold jae at h
  split at h
  ·rcases zP.1 h with rfl | h
   ·simp
   ·have:=jbr h;simp;omega
  ·split at h
   ·next e=>exact zC e (jcq c r)
   ·next v vs e=>
    rcases zP.1 h with rfl | h
    ·have:=jbr (c:=c) (s:=r) (w:=v) (by rw [e];simp);simp;omega
    ·have:=jbr (c:=c) (s:=r) (w:=w) (by rw [e];exact zj _ h);simp;omega
theorem RS.keep2 {h g g':H} {X B q M:Nat} {ws:List (List UInt8)} {t:Int} {iv:Bool} {ov:V} (a:RS h X B q ws t iv ov g) (hx:g.nx<=g'.nx) (hk : ∀ j,j<M->g'.get j=g.get j) (h0:h.nx<=M) (h1:X<M) (h2:B<M) (h3:q<M):RS h X B q ws t iv ov g' :=
 ⟨a.gv,⟨zu a.o.1 hx,fun j hj=>by rw [hk j om,a.o.2 j hj]⟩,a.x1,zo a.x2 hx,a.b1,zo a.b2 hx,a.q1,zo a.q2 hx,a.ne,by rw [hk _ h1,a.X_],by rw [hk _ h2,a.B_],by rw [hk _ h3,a.q_]⟩
section
variable {cl:Nat->Call} (hcl:Sem cl) {d:Nat} {h g:H} {X B q o k:Nat} {s:List UInt8} {ws r:List (List UInt8)} {t:Int} {iv:Bool} {sb:Env}
include hcl
theorem ji7 (hd:12<=d) (a:RS h X B q ws t iv .nils g) (hk:r.length<=k) (hw:ws.drop o=r) (hl : ∀ a∈ws,a.length<=20000) (hr:r.length<=20000) (t0:0<=t) (t1:t<=18446744073709551615) (hp:pwW (jae 32 s)=pwA t iv (pwO r)) :
  Run (cl d) fuel c37_10 [] ((0,.str s) :: (2,.p X 0) :: (3,.p B 0) :: (4,.slice (some (q,o)) r.length (.fix k)) :: sb) g (Fin c37.res fun v h'=>RdP h s v h'):=by
 have hl5 : ∀ a∈ws,a.length<=50000:=fun a ha=>by have:=hl a ha;omega
 have gq:=a.q_
 have hx2:=a.x2;have hb2:=a.b2;have hq2:=a.q2;have hx1:=a.x1;have hb1:=a.b1;have hq1:=a.q1
 obtain ⟨m1,m2,m3⟩:=a.ne
 obtain ⟨C8,hC8⟩ : ∃ C,C=c37_8:=⟨_,rfl⟩
 obtain ⟨C7,hC7⟩ : ∃ C,C=c37_7:=⟨_,rfl⟩
 have N:pwO r=some ([],r) -> ∀ sb,Run (cl d) fuel C8 [] ((0,.str s) :: (2,.p X 0) :: (3,.p B 0) :: (4,.slice (some (q,o)) r.length (.fix k)) :: sb) g (Fin c37.res fun v h'=>RdP h s v h'):=fun e sb=>by
  rw [e] at hp
  rw [hC8]
  exact jld hcl hd a hk hw hl5 om t0 t1 (VI.nil g) (fun z hz=>by cases hz) rfl hp
 simp only [c37_10,<- hC8,<- hC7,uF]
 match r,hk,hw,hr,hp,N with
 | [],hk,hw,hr,hp,N=>
  have h1 : ¬ (1:Int)<((([]:List (List UInt8)).length:Nat):Int):=by simp
  have N:=N rfl
  refine qx ?_
  exact N _
 | [w],hk,hw,hr,hp,N=>
  have h1 : ¬ (1:Int)<((([w]:List (List UInt8)).length:Nat):Int):=by simp
  have N:=N rfl
  refine qx ?_
  exact N _
 | w :: o' :: t',hk,hw,hr,hp,N=>
  have h1:(1:Int)<(((w :: o' :: t').length:Nat):Int):=by simp;omega
  have h00:0<=(0:Int)/\(0:Int)<(((w :: o' :: t').length:Nat):Int):=by simp;omega
  have h01:0<=(1:Int)/\(1:Int)<(((w :: o' :: t').length:Nat):Int):=by simp;omega
  have w0:ws[o]?=some w:=by have e:=congrArg (fun l:List (List UInt8)=>l[0]?) hw;simpa [zk] using e
  have w1:ws[o+1]?=some o':=by have e:=congrArg (fun l:List (List UInt8)=>l[1]?) hw;simpa [zk] using e
  have q0:(strs ws)[o+(0:Int).toNat*1]?=some (.str w):=by
   show (strs ws)[o+0]?=_
   rw [Nat.add_zero,List.getElem?_map,w0];rfl
  have q1:(strs ws)[o+(1:Int).toNat*1]?=some (.str o'):=by
   show (strs ws)[o+1]?=_
   rw [List.getElem?_map,w1];rfl
  by_cases he:w=jb0
  case neg=>
   have hb:(w == [111,114,100,101,114])=false:=by simpa using he
   have N:=N (by rw [pwO,zt he])
   refine qx ?_
   exact N _
  have hb:(w == [111,114,100,101,114])=true:=by simpa using he
  clear N
  rw [pwO,zw he] at hp
  have lo':=hl o' (zb w1)
  obtain ⟨v2,g1,e1,o1,q2',p1,p2,rfl,p4⟩:=jiz hcl (d:=d) (h:=g) (s:=o') (c:=44) om om (by have:=jc7 44 o';omega)
  have hlen2:(jae 44 o').length<=20001:=by rw [jaG];have:=jc7 44 o';omega
  have hwl2 : ∀ (i:Nat) (w:List UInt8),(jae 44 o')[i]?=some w->w.length<=50000:=fun i w e=>by have:=jbr (zb e);omega
  have a1:=a.keep o1
  generalize hws2:jae 44 o'=ws2 at *
  subst hC7
  obtain ⟨C5,hC5⟩ : ∃ C,C=c37_5:=⟨_,rfl⟩
  simp only [c37_7,c37_6,<- hC5,yB,yJ]
  refine qx ?_
  refine zW (fun j e g2=>∃ (i:Nat) (oi:List Int) (ov:V) (sbe:Env),j=ws2.length-i/\i<=ws2.length/\e=(0,.str s) :: (2,.p X 0) :: (3,.p B 0) :: (4,.slice (some (q,o)) (w :: o' :: t').length (.fix k)) :: (63,.slice (some (q2',0)) ws2.length (.fix ws2.length)) :: (64,.i (ws2.length:Int)) :: (65,.i (i:Int)) :: sbe/\RS h X B q ws t iv ov g2/\Row g1.nx g2 1 ov i (ints oi)/\oi.length=i/\g1.nx<=g2.nx/\g2.get q2'=some (.cells (strs ws2) false)/\ordR (ws2.take i)=some oi)
   (k:=ws2.length) Ze ⟨0,[],.nils,[],by omega,by omega,rfl,a1,Row.nil _ _ _,rfl,zn _,p4,rfl⟩ ?_
  clear a1
  rintro _ _ g2 ⟨i,oi,ov,sbe,rfl,hi,rfl,a2,row,hoi,hx4,hq4,hor⟩ f ih
  have hx22:=a2.x2;have hb22:=a2.b2
  by_cases hlt:i<ws2.length
  case neg=>
   obtain rfl:i=ws2.length:=by omega
   rw [List.take_length] at hor
   rw [hor] at hp
   simp only at hp
   have hw3:ws.drop (o+2*1)=t':=by
    rw [Nat.mul_one,<- List.drop_drop,hw];rfl
   have hvi:=VI.ofRow (l:=oi) (by rw [hoi];exact row)
   have hone:ov.one=true:=by rcases row with ⟨_,_,rfl⟩ | ⟨_,_,_,rfl,_⟩<;>rfl
   have T:=fun sb=>jld hcl (sb:=sb) (r:=t') (o:=o+2*1) (k:=k-2) hd a2 (by simp at hk;omega) hw3 hl5 (by simp at hr;omega) t0 t1 hvi.1 (fun z hz=>by have:=(hvi.2 z hz).1;have:=o1.1;have:=a.o.1;omega) hone hp
   rw [<- hC8] at T
   clear ih
   refine qx ?_
   exact T _
  obtain ⟨wi,hwi⟩ : ∃ wi,ws2[i]?=some wi:=⟨_,za hlt⟩
  have hq5:(strs ws2)[0+(i:Int).toNat*1]?=some (.str wi):=by
   rw [zG,Nat.mul_one,zq,List.getElem?_map,hwi];rfl
  have gv2:=a.gv.old a2.o
  obtain ⟨n,e5,hn⟩:=je7 hcl (d:=d) (h:=g2) (s:=wi) gv2 om (hwl2 i wi hwi)
  have ht:ws2.take (i+1)=ws2.take i++[wi]:=by rw [List.take_add_one,hwi];rfl
  have hsn:=jhn (w:=wi) hor
  rw [<- ht] at hsn
  have hi1:(i:Int)+1=((i+1:Nat):Int):=by omega
  have gX:=a2.X_
  have gB:=a2.B_
  have hov1:ov.one=true:=by rcases row with ⟨_,_,rfl⟩ | ⟨_,_,_,rfl,_⟩<;>rfl
  have hall:=jdM (t:=t) (iv:=iv) (mv := .nils) hov1 rfl
  rw [hC5] at ih ⊢
  cases hnp:numP wi with
  | none=>
   rw [hnp] at hsn e5
   have hon:ordR ws2=none:=by
    rw [<- List.take_append_drop (i+1) ws2]
    exact jho hsn
   rw [hon] at hp
   have hpn:pwW (jae 32 s)=none:=hp
   clear ih hn
   refine qx ?_
   refine zcw rfl gX Zd ?_
   refine zct (vs:=[.int .u64 t,.bool iv,ov,.nils]) rfl rfl rfl hall gX Zd ?_
   rw [show jal ([.int .u64 t,.bool iv,ov,.nils]:List V) 0 [.int .u64 t,.bool iv,ov,.nils]=[.int .u64 t,.bool iv,ov,.nils] from rfl]
   refine zcs (l:=[.bool false]) rfl rfl rfl (by rw [jaa (Ne.symm m1),gB]) Zd ?_
   refine qx ?_
   exact jeX (xs:=[.int .u64 t,.bool iv,ov,.nils]) (by rw [jaa m1];exact jab _) rfl (jab _) (jk9 a2.o hx1 hb1 rfl hall (jic hpn))
  | some n'=>
   obtain rfl:=hn n' hnp
   rw [hnp] at hsn e5
   have q2:([.int .u64 t,.bool iv,ov,.nils]:List V)[0+2]?=some ov:=rfl
   clear hn hov1 hall
   refine qx ?_
   refine Ops.push (N:=g1.nx) (n:=i) (new:=[.i n]) rfl rfl rfl rfl om rfl rfl row hx4 om om fun w g3 row3 hx5 hz5 hk5=>?_
   have hk6 : ∀ j,j<g1.nx->g3.get j=g2.get j:=fun j hj=>hk5 j om fun e=>by have:=(row.at_ge e).1;omega
   have hn1:=o1.1
   have hn0:=a.o.1
   have a3:=a2.keep2 (M:=g1.nx) hx5 hk6 om om om om
   have hw1:w.one=true:=by rcases row3 with ⟨e,_⟩ | ⟨_,_,_,rfl,_⟩<;>first | rfl | (omega)
   refine qx ?_
   refine zcs rfl rfl hw1 a3.X_ Zd ?_
   rw [show ([.int .u64 t,.bool iv,ov,.nils]:List V).set (0+2) w=[.int .u64 t,.bool iv,w,.nils] from rfl]
   refine qx ?_
   rw [hi1]
   have hints:ints oi++[.i n]=ints (oi++[n]):=by simp [ints]
   rw [hints] at row3
   refine ih (ws2.length-(i+1)) om _ _ ⟨i+1,oi++[n],w,_,rfl,by omega,rfl,a3.set,row3.keep Zd fun z hz=>jaa fun e=>by have:=(row3.at_ge hz).1;omega,by simp [hoi],by simpa using (zu hx4 hx5),by rw [jaa om,hk6 _ p2,hq4],hsn⟩
end
def LF (s:List UInt8):Prop:=s.length<=400000/\(jae 32 s).length<=20000 /\ ∀ a∈jae 32 s,a.length<=20000
theorem LF.of {s:List UInt8} (h:s.length<=12000):LF s :=
 ⟨by omega,by rw [jaG];have:=jc7 32 s;omega,fun a ha=>by have:=jbr ha;omega⟩
section
variable {cl:Nat->Call} (hcl:Sem cl) {d:Nat} {h g:H} {X B q o k:Nat} {s:List UInt8} {ws r:List (List UInt8)} {t:Int} {sb:Env}
include hcl
theorem rd_intr (hd:12<=d) (a:RS h X B q ws t false .nils g) (hk:r.length<=k) (hw:ws.drop o=r) (hl : ∀ a∈ws,a.length<=20000) (hr:r.length<=20000) (t0:0<=t) (t1:t<=18446744073709551615) (hp:pwW (jae 32 s)=pwA t (pwI r).1 (pwO (pwI r).2)) :
  Run (cl d) fuel c37_11 [] ((0,.str s) :: (2,.p X 0) :: (3,.p B 0) :: (4,.slice (some (q,o)) r.length (.fix k)) :: sb) g (Fin c37.res fun v h'=>RdP h s v h'):=by
 have gq:=a.q_
 have gX:=a.X_
 obtain ⟨C10,hC10⟩ : ∃ C,C=c37_10:=⟨_,rfl⟩
 have N:(pwI r)=(false,r) -> ∀ sb,Run (cl d) fuel C10 [] ((0,.str s) :: (2,.p X 0) :: (3,.p B 0) :: (4,.slice (some (q,o)) r.length (.fix k)) :: sb) g (Fin c37.res fun v h'=>RdP h s v h'):=fun e sb=>by
  rw [e] at hp
  rw [hC10]
  exact ji7 hcl hd a hk hw hl hr t0 t1 hp
 simp only [c37_11,c37_9,<- hC10,uF,yE]
 match r,hk,hw,hr,hp,N with
 | [],hk,hw,hr,hp,N=>
  have h1 : ¬ (0:Int)<((([]:List (List UInt8)).length:Nat):Int):=by simp
  have N:=N rfl
  refine qx ?_
  exact N _
 | w :: t',hk,hw,hr,hp,N=>
  have h1:(0:Int)<(((w :: t').length:Nat):Int):=by simp
  have w0:ws[o]?=some w:=by have e:=congrArg (fun l:List (List UInt8)=>l[0]?) hw;simpa [zk] using e
  have q0:(strs ws)[o+(0:Int).toNat*1]?=some (.str w):=by
   show (strs ws)[o+0]?=_
   rw [Nat.add_zero,List.getElem?_map,w0];rfl
  by_cases he:w=jfq
  case neg=>
   have hb:(w == [105,110,116,114])=false:=by simpa using he
   have N:=N (by rw [pwI,zt he])
   refine qx ?_
   exact N _
  have hb:(w == [105,110,116,114])=true:=by simpa using he
  clear N
  rw [pwI,zw he] at hp
  have hw3:ws.drop (o+1*1)=t':=by rw [Nat.mul_one,<- List.drop_drop,hw];rfl
  have a3:RS h X B q ws t true .nils (g.set X (.cells [.int .u64 t,.bool true,.nils,.nils] false)):=a.set
  have T:=fun sb=>ji7 hcl (sb:=sb) (r:=t') (o:=o+1*1) (k:=k-1) hd a3 (by simp at hk;omega) hw3 hl (by simp at hr;omega) t0 t1 hp
  rw [<- hC10] at T
  clear he
  refine Ga ?_
  exact T _
theorem rd_read (gv:Gv h) (hd:13<=d) (hs:LF s) : ∃ v h',cl d (.fn 37) [.str s] h=some (v,h')/\RdP h s v h':=by
 have o1:Old h ((h.new (.cells [.int .u64 0,.bool false,.nils,.nils] false)).new (.cells [.bool false] false)):=(zX h).new.new
 have gX0:((h.new (.cells [.int .u64 0,.bool false,.nils,.nils] false)).new (.cells [.bool false] false)).get h.nx=some (.cells [.int .u64 0,.bool false,.nils,.nils] false):=qgt
 have gB0:((h.new (.cells [.int .u64 0,.bool false,.nils,.nils] false)).new (.cells [.bool false] false)).get (h.nx+1)=some (.cells [.bool false] false):=qgt
 have hn:((h.new (.cells [.int .u64 0,.bool false,.nils,.nils] false)).new (.cells [.bool false] false)).nx=h.nx+2:=rfl
 refine aT hcl ?_
 obtain ⟨C15,hC15⟩ : ∃ C,C=c37_15:=⟨_,rfl⟩
 simp only [c37,c37_16,<- hC15,yB,yH]
 refine Run.seq (zac ?_)
 refine zcu (ob := .cells [.int .u64 0,.bool false,.nils,.nils] false) (mk:=fun b=>.p b 0) rfl rfl ?_
 refine zcu (ob := .cells [.bool false] false) (mk:=fun b=>.p b 0) rfl rfl ?_
 rw [show (h.new (.cells [.int .u64 0,.bool false,.nils,.nils] false)).nx=h.nx+1 from rfl]
 generalize (h.new (.cells [.int .u64 0,.bool false,.nils,.nils] false)).new (.cells [.bool false] false)=G at o1 gX0 gB0 hn ⊢
 obtain ⟨v2,g1,e1,o2,q,p1,p2,rfl,p4⟩:=jiz hcl (d:=d-1) (h:=G) (s:=s) (c:=32) om (by have:=hs.1;omega) (by have:=hs.2.1;rw [jaG] at this;omega)
 have hlen:(jae 32 s).length<=20000:=hs.2.1
 have hwl : ∀ a∈jae 32 s,a.length<=20000:=hs.2.2
 have a1:RS h h.nx (h.nx+1) q (jae 32 s) 0 false .nils g1:=⟨gv,o1.trans o2,zn _,by have:=o2.1;omega,by omega,by have:=o2.1;omega,by omega,p2,by omega,by rw [o2.2 _ om,gX0],by rw [o2.2 _ om,gB0],p4⟩
 have gX:=a1.X_
 have gB:=a1.B_
 have ne1:=a1.ne.1
 have hall:=jdM (t:=0) (iv:=false) (ov := .nils) (mv := .nils) rfl rfl
 have hne:=jcq 32 s
 generalize hws:jae 32 s=ws at *
 have gq:=a1.q_
 have F0 : ∀ (t:Int) (g':H) (gg:g'.get h.nx=some (.cells [.int .u64 t,.bool false,.nils,.nils] false)) (gb:g'.get (h.nx+1)=some (.cells [.bool false] false)) (og:Old h g'),pwW ws=none->RdP h s (.tup [.agg [.int .u64 t,.bool false,.nils,.nils],.bool false]) ((g'.set h.nx (.cells [.int .u64 t,.bool false,.nils,.nils] false)).set (h.nx+1) (.cells [.bool false] false)):=fun t g' gg gb og hp=>
  jk9 og (zn _) om rfl (jdM rfl rfl) (jic (by rw [hws];exact hp))
 have oB:=a1.o
 refine qx ?_
 subst hC15
 match ws,hne,hlen,hwl,a1,gq,F0 with
 | [],hne,_,_,_,_,_=>exact zC rfl hne
 | [w],hne,hlen,hwl,a1,gq,F0=>
  have h1:((([w]:List (List UInt8)).length:Nat):Int)<2:=by simp
  refine qx ?_
  refine zcw rfl gX Zd ?_
  refine zct (vs:=[.int .u64 0,.bool false,.nils,.nils]) rfl rfl rfl (jdM rfl rfl) gX Zd ?_
  rw [show jal ([.int .u64 0,.bool false,.nils,.nils]:List V) 0 [.int .u64 0,.bool false,.nils,.nils]=[.int .u64 0,.bool false,.nils,.nils] from rfl]
  refine zcs (l:=[.bool false]) rfl rfl rfl (by rw [jaa om,gB]) Zd ?_
  refine qx ?_
  exact jeX (xs:=[.int .u64 0,.bool false,.nils,.nils]) (by rw [jaa ne1];exact jab _) rfl (jab _) (F0 0 _ gX gB oB rfl)
 | w :: w1 :: r,hne,hlen,hwl,a1,gq,F0=>
  have h1 : ¬ (((w :: w1 :: r).length:Nat):Int)<2:=by simp;omega
  have h00:0<=(0:Int)/\(0:Int)<(((w :: w1 :: r).length:Nat):Int):=by simp;omega
  have h01:0<=(1:Int)/\(1:Int)<(((w :: w1 :: r).length:Nat):Int):=by simp;omega
  have q0:(strs (w :: w1 :: r))[0+(0:Int).toNat*1]?=some (.str w):=rfl
  have q1:(strs (w :: w1 :: r))[0+(1:Int).toNat*1]?=some (.str w1):=rfl
  by_cases he:w=jec
  case neg=>
   have hb:(!(w == [115,116,101,112]))=true:=by
    have:(w == [115,116,101,112])=false:=by simpa using he
    rw [this];rfl
   have hpn:pwW (w :: w1 :: r)=none:=by rw [pwW,zt he]
   refine qx ?_
   refine zcw rfl gX Zd ?_
   refine zct (vs:=[.int .u64 0,.bool false,.nils,.nils]) rfl rfl rfl (jdM rfl rfl) gX Zd ?_
   rw [show jal ([.int .u64 0,.bool false,.nils,.nils]:List V) 0 [.int .u64 0,.bool false,.nils,.nils]=[.int .u64 0,.bool false,.nils,.nils] from rfl]
   refine zcs (l:=[.bool false]) rfl rfl rfl (by rw [jaa om,gB]) Zd ?_
   refine qx ?_
   exact jeX (xs:=[.int .u64 0,.bool false,.nils,.nils]) (by rw [jaa ne1];exact jab _) rfl (jab _) (F0 0 _ gX gB oB hpn)
  have hb:(!(w == [115,116,101,112]))=false:=by rw [he];rfl
  have lw1:=hwl w1 Zd
  obtain ⟨g3,e3,o3⟩:=jkI hcl (d:=d-1) (h:=g1) (s:=w1) (base:=10) (bits:=64) (cut:=1844674407370955162) (mx:=18446744073709551615) (gv.old oB) (.inl ⟨rfl,rfl,rfl,rfl⟩) om om
  have e3:cl (d-1) (.fn 74) [.str w1,.i 10,.i 64] g1=some (.tup [.int .u64 ((puS 10 1844674407370955162 18446744073709551615 w1).1:Int),if (puS 10 1844674407370955162 18446744073709551615 w1).2=0 then .nili else .ifc],g3):=e3
  have a3:=a1.keep o3
  generalize hpu:puS 10 1844674407370955162 18446744073709551615 w1=R at e3
  obtain ⟨n,er⟩:=R
  simp only at e3
  have hst:([.int .u64 0,.bool false,.nils,.nils]:List V).set (0+0) (.int .u64 (n:Int))=[.int .u64 (n:Int),.bool false,.nils,.nils]:=rfl
  obtain ⟨C11,hC11⟩ : ∃ C,C=c37_11:=⟨_,rfl⟩
  obtain ⟨C12,hC12⟩ : ∃ C,C=c37_12:=⟨_,rfl⟩
  have gX3:=a3.X_
  have a4:RS h h.nx (h.nx+1) q (w :: w1 :: r) (n:Int) false .nils (g3.set h.nx (.cells [.int .u64 (n:Int),.bool false,.nils,.nils] false)):=a3.set
  have gX4:=a4.X_
  have gB4:=a4.B_
  have oB4:=a4.o
  by_cases h0:er=0
  ·subst h0
   rw [zw rfl] at e3
   have hn:n<=18446744073709551615:=by
    unfold puS at hpu
    split at hpu
    ·cases hpu
    ·exact jkJ om hpu
   have T:=fun sb=>rd_intr hcl (d:=d-1) (s:=s) (sb:=sb) (r:=r) (o:=0+2*1) (k:=(w :: w1 :: r).length-2) om a4 Zd rfl hwl (by simp at hlen;omega) om om (by rw [hws];exact pwW_A he hpu)
   rw [<- hC11] at T
   clear F0 he
   simp only [c37_15,c37_14,c37_13,c37_12,<- hC11,yB,yF,yH]
   refine Ga ?_
   exact T _
  ·have hpn:pwW (w :: w1 :: r)=none:=by
    rw [pwW,zw he,hpu]
    cases er with
    | zero=>exact zC rfl h0
    | succ er=>rfl
   rw [zt h0] at e3
   clear he
   simp only [c37_15,c37_14,c37_13,<- hC12,yB,yF,yH]
   refine Ga ?_
   rw [hst]
   subst hC12
   refine qx ?_
   refine zcw rfl gX4 Zd ?_
   refine zct (vs:=[.int .u64 (n:Int),.bool false,.nils,.nils]) rfl rfl rfl (jdM rfl rfl) gX4 Zd ?_
   rw [show jal ([.int .u64 (n:Int),.bool false,.nils,.nils]:List V) 0 [.int .u64 (n:Int),.bool false,.nils,.nils]=[.int .u64 (n:Int),.bool false,.nils,.nils] from rfl]
   refine zcs (l:=[.bool false]) rfl rfl rfl (by rw [jaa om,gB4]) Zd ?_
   refine qx ?_
   exact jeX (xs:=[.int .u64 (n:Int),.bool false,.nils,.nils]) (by rw [jaa ne1];exact jab _) rfl (jab _) (F0 (n:Int) _ gX4 gB4 oB4 hpn)
end
theorem line_inj {x y:Sp} (f:SpFit x) (g:SpFit y) (e:jaD x=jaD y):x=y:=by
 have h1:=jdl f
 rw [e,jdl g] at h1
 cases h1;rfl
open Classical in
noncomputable def jba (l:List UInt8):Option Sp:=if h : ∃ x,SpFit x/\jaD x=l then some h.choose else none
theorem je6 {x:Sp} (f:SpFit x):jba (jaD x)=some x:=by
 have h : ∃ y,SpFit y/\jaD y=jaD x:=⟨x,f,rfl⟩
 unfold jba
 rw [dif_pos h]
 congr 1
 exact line_inj h.choose_spec.1 f h.choose_spec.2
theorem jhL {l:List UInt8} {x:Sp} (h:jba l=some x):SpFit x/\jaD x=l:=by
 unfold jba at h
 split at h
 ·next k=>cases h;exact k.choose_spec
 ·cases h
theorem je5 {l:List UInt8} (h : ∀ x,SpFit x->jaD x≠l):jba l=none:=by
 unfold jba
 rw [dif_neg]
 rintro ⟨x,f,e⟩
 exact h x f e
section
variable {call:Call} {fuel base:Nat} {ops:List Ins} {keep:List Nat} {K:List Fr} {e:Env} {h:H} {Q:Post} {ix:Nat} {dst:Option Nat} {c:List (Nat × I × Option (Nat × Bool))}
theorem Ops.store1_chk {a x:Opd} {b o:Nat} {l:List V} {v:V} (ha:a.ev e=some (.ptr (some (b,o)))) (hx:x.ev e=some v) (h1:v.one=true) (hb:h.get b=some (.cells l false)) (hn:o<l.length) (hk:jau e (h.set b (.cells (l.set o v) false)) c=true)
  (k:Ops call fuel base ops keep K (layv e dst .undef) (h.set b (.cells (l.set o v) false)) Q):Ops call fuel base (⟨ix,dst,.store 1 a x,none,none,c⟩ :: ops) keep K e h Q:=by
 have hc:v.cells=[v]:=by cases v<;>first | rfl | (simp [V.one] at h1)
 refine Ops.step_chk (I.run_eff rfl ?_) hk k
 have hs:=jel (o:=o) (vs:=[v]) hb (by simp only [List.length_singleton];omega) (by simp [h1])
 simp only [I.eff,ha,hx,hc,hs]
 rfl
theorem jfb {d:Nat} {a:Opd} {b o:Nat} {l:List V} {ro:Bool} {v:V} (ha:a.ev e=some (.ptr (some (b,o)))) (hg:h.get b=some (.cells l ro)) (hv:l[o]?=some v) (hd:e.get d=some v):jau e h [(d,.load1 a,none)]=true:=by
 have h1:I.read e h (.load1 a)=some v:=by simp only [I.read,ha,jgv hg hv]
 simp only [jau,wanted,cond_true,h1,hd,V.same_refl,Bool.and_true]
end
theorem jhU {N n:Nat} {g:H} {sv:V} {XL:List SpX} (row:Row N g 4 sv n (XL.map SpX.V).flatten) (hs : ∀ x∈XL,(∃ a c,x.ov = .slice a x.ol.length c) /\ ∃ a c,x.mv = .slice a x.ml.length c) {b i:Nat} {cs:List V} {ro:Bool} {k:IntKind} {m:Int} (hk:k ≠ .u64) (hg:g.get b=some (.cells cs ro)) (hc:cs[i]?=some (.int k m)):sv.at?≠some b:=by
 intro e
 rcases row with ⟨_,_,rfl⟩ | ⟨p,_,_,rfl,p4,_⟩
 ·cases e
 ·obtain rfl:p=b:=by simpa [V.at?] using e
  rw [hg] at p4
  cases p4
  have hm:=zb hc
  obtain ⟨l,hl,hm⟩:=List.mem_flatten.1 hm
  obtain ⟨x,hx,rfl⟩:=List.mem_map.1 hl
  obtain ⟨⟨a,c,e1⟩,a',c',e2⟩:=hs x hx
  simp only [SpX.V,e1,e2,zP,List.not_mem_nil,or_false] at hm
  rcases hm with hm | hm | hm | hm
  ·injection hm with h1 h2;exact hk h1
  ·cases hm
  ·cases hm
  ·cases hm
theorem StepAt.ne {N n:Nat} {g:H} {sv:V} {XL:List SpX} {P Q:Nat->Prop} {x:SpX} (row:Row N g 4 sv n (XL.map SpX.V).flatten) (hs : ∀ x∈XL,(∃ a c,x.ov = .slice a x.ol.length c) /\ ∃ a c,x.mv = .slice a x.ml.length c) (A:StepAt g P Q x) :
  StepAt g (fun z=>P z/\sv.at?≠some z) (fun z=>Q z/\sv.at?≠some z) x where
 ov:=⟨A.ov.1,fun hl z hz=>⟨A.ov.2 hl z hz,by
  obtain ⟨a,c,e,_,_,f⟩:=id A.ov.1
  obtain ⟨b,o,cs,ro,rfl,_,f2,f3⟩:=f hl
  rw [e] at hz
  obtain rfl:b=z:=by simpa [V.at?] using hz
  cases hol:x.ol with
  | nil=>exact zC hol hl
  | cons n l=>exact jhU row hs (by decide) f2 (f3 0 n (by rw [hol];rfl))⟩⟩
 mv:=by
  obtain ⟨ad,c,e,n,ft,f⟩:=A.mv
  refine ⟨ad,c,e,n,ft,fun hl=>?_⟩
  obtain ⟨b,o,cs,ro,e1,e2,e3,e4,e5⟩:=f hl
  refine ⟨b,o,cs,ro,e1,e2,⟨e3,?_⟩,e4,e5⟩
  cases hml:x.ml with
  | nil=>exact zC hml hl
  | cons y l=>
   have h4:=e5 0 y (by rw [hml];rfl)
   have:=cell4' (j:=0) h4 om
   exact jhU row hs (by decide) e4 this
 dv y hy:=⟨(A.dv y hy).1,fun hl z hz=>⟨(A.dv y hy).2 hl z hz,by
  obtain ⟨a,c,e,_,_,f⟩:=id (A.dv y hy).1
  obtain ⟨b,o,cs,ro,rfl,_,f2,f3⟩:=f hl
  rw [e] at hz
  obtain rfl:b=z:=by simpa [V.at?] using hz
  cases hD:y.m.D with
  | nil=>exact zC hD hl
  | cons n l=>exact jhU row hs (by decide) f2 (f3 0 n (by rw [hD];rfl))⟩⟩
 t0:=A.t0
 t1:=A.t1
section
variable {cl:Nat->Call} (hcl:Sem cl) {d:Nat} {h:H}
include hcl
theorem sf_t {l:List UInt8} {c:UInt8} (hd:1<=d) (hl:l.length<=500000):cl d (.fn 78) [.str (l++[c]),.str [c]] h=some (.bool true,h):=by
 refine jam (aT hcl ?_)
 have h1:((([c]:List UInt8).length:Nat):Int)<=(((l++[c]).length:Nat):Int):=by simp;omega
 have h2:(((l++[c]).length:Nat):Int)-((([c]:List UInt8).length:Nat):Int)=((l.length:Nat):Int):=by simp
 have hd1:(l++[c]).drop l.length=[c]:=List.drop_left' rfl
 refine qx ?_
 rw [h2]
 refine Ops.strFrom rfl rfl Zd ?_
 rw [hd1]
 refine qx ?_
 exact ⟨by simp,rfl⟩
theorem sf_f {l:List UInt8} {c:UInt8} (hd:1<=d) (hl:l.length<=500000) (hc:c ∉ l):cl d (.fn 78) [.str l,.str [c]] h=some (.bool false,h):=by
 refine jam (aT hcl ?_)
 by_cases h0:l=[]
 ·subst h0
  have h1 : ¬ ((([c]:List UInt8).length:Nat):Int)<=((([]:List UInt8).length:Nat):Int):=by simp
  refine qx ?_
  exact ⟨rfl,rfl⟩
 have hp:=List.length_pos_iff.2 h0
 have h1:((([c]:List UInt8).length:Nat):Int)<=((l.length:Nat):Int):=by simp;omega
 have h2:((l.length:Nat):Int)-((([c]:List UInt8).length:Nat):Int)=((l.length-1:Nat):Int):=by simp;omega
 have hb:(l.drop (l.length-1) == [c])=false:=by
  have:l.drop (l.length-1)≠[c]:=fun e=>hc (List.mem_of_mem_drop (by rw [e];simp:c∈l.drop (l.length-1)))
  simpa using this
 refine qx ?_
 rw [h2]
 refine Ops.strFrom rfl rfl om ?_
 refine qx ?_
 exact ⟨by rw [hb],rfl⟩
theorem hs_t {l:List UInt8} {c:UInt8} (hd:2<=d) (hl:l.length<=500000):cl d (.fn 39) [.str (l++[c]),.str [c]] h=some (.bool true,h):=by
 have e1:=sf_t hcl (d:=d-1) (h:=h) (l:=l) (c:=c) om hl
 refine jam (aT hcl ?_)
 refine qx ?_
 exact ⟨rfl,rfl⟩
theorem hs_f {l:List UInt8} {c:UInt8} (hd:2<=d) (hl:l.length<=500000) (hc:c ∉ l):cl d (.fn 39) [.str l,.str [c]] h=some (.bool false,h):=by
 have e1:=sf_f hcl (d:=d-1) (h:=h) (l:=l) (c:=c) om hl hc
 refine jam (aT hcl ?_)
 refine qx ?_
 exact ⟨rfl,rfl⟩
theorem ts_t {l:List UInt8} {c:UInt8} (hd:3<=d) (hl:l.length<=500000):cl d (.fn 38) [.str (l++[c]),.str [c]] h=some (.str l,h):=by
 have e1:=sf_t hcl (d:=d-2) (h:=h) (l:=l) (c:=c) om hl
 have e2:cl (d-1) (.fn 77) [.str (l++[c]),.str [c]] h=some (.str l,h):=by
  refine jam (aT hcl ?_)
  have h2:(((l++[c]).length:Nat):Int)-((([c]:List UInt8).length:Nat):Int)=((l.length:Nat):Int):=by simp
  refine qx ?_
  rw [h2]
  refine Ops.strTo rfl rfl Zd ?_
  rw [show (l++[c]).take l.length=l from List.take_left' rfl]
  refine qx ?_
  exact ⟨rfl,rfl⟩
 refine jam (aT hcl ?_)
 clear e1
 refine qx ?_
 exact ⟨rfl,rfl⟩
theorem ts_f {l:List UInt8} {c:UInt8} (hd:3<=d) (hl:l.length<=500000) (hc:c ∉ l):cl d (.fn 38) [.str l,.str [c]] h=some (.str l,h):=by
 have e1:=sf_f hcl (d:=d-2) (h:=h) (l:=l) (c:=c) om hl hc
 have e2:cl (d-1) (.fn 77) [.str l,.str [c]] h=some (.str l,h):=by
  refine jam (aT hcl ?_)
  refine qx ?_
  exact ⟨rfl,rfl⟩
 refine jam (aT hcl ?_)
 clear e1
 refine qx ?_
 exact ⟨rfl,rfl⟩
end
end Am.Sigs
