/- Our own library, part 10: an abstract machine, sound for the model, and what the functions do over it. No condition. -/
import Derived.Test.YtkcenemffnfoeaaGreatK09
set_option maxHeartbeats 8000000
set_option linter.all false
namespace Am
open Go
section
variable {call:Call} {fuel base:Nat} {K:List Fr} {e e':Env} {h h':H} {Q:Post} {ix:Nat} {dst:Option Nat} {ops:List Ins} {keep:List Nat} {at_:Option Nat} {j:Nat}
 {c:List (Nat × I × Option (Nat × Bool))}
theorem Ops.pure {i:I} {v:V} (hc:i.cls = .P) (hp:i.pure e=some v) (k:Ops call fuel base ops keep K (layv e dst v) h Q) :
  Ops call fuel base (⟨ix,dst,i,none,at_,[]⟩ :: ops) keep K e h Q:=Ops.step (I.run_pure hc hp) k
theorem Ops.mv {x:Opd} {v:V} (hx:x.ev e=some v) (k:Ops call fuel base ops keep K (layv e dst v) h Q) :
  Ops call fuel base (⟨ix,dst,.mv x,none,at_,[]⟩ :: ops) keep K e h Q:=Ops.pure rfl (by simp only [I.pure,hx]) k
theorem Ops.eql {x y:Opd} {kd:IntKind} {a b:Int} (hx:x.ev e=some (.int kd a)) (hy:y.ev e=some (.int kd b)) (k:Ops call fuel base ops keep K (layv e dst (.bool (decide (a=b)))) h Q) :
  Ops call fuel base (⟨ix,dst,.bin .eql x y,none,at_,[]⟩ :: ops) keep K e h Q:=by
 refine Ops.pure rfl ?_ k
 simp only [I.pure,hx,hy,binOp,jbT,jdl,beq_self_eq_true,Bool.or_true,cond_true]
 congr 2
theorem Ops.neq {x y:Opd} {kd:IntKind} {a b:Int} (hx:x.ev e=some (.int kd a)) (hy:y.ev e=some (.int kd b)) (k:Ops call fuel base ops keep K (layv e dst (.bool (decide (a≠b)))) h Q) :
  Ops call fuel base (⟨ix,dst,.bin .neq x y,none,at_,[]⟩ :: ops) keep K e h Q:=by
 refine Ops.pure rfl ?_ k
 simp only [I.pure,hx,hy,binOp,jbT,jdl,beq_self_eq_true,Bool.or_true,cond_true]
 congr 2
 by_cases e0:a=b<;>simp [e0]
theorem Ops.lss {x y:Opd} {kd:IntKind} {a b:Int} (hx:x.ev e=some (.int kd a)) (hy:y.ev e=some (.int kd b)) (k:Ops call fuel base ops keep K (layv e dst (.bool (decide (a<b)))) h Q) :
  Ops call fuel base (⟨ix,dst,.bin .lss x y,none,at_,[]⟩ :: ops) keep K e h Q:=by
 refine Ops.pure rfl ?_ k
 simp only [I.pure,hx,hy,binOp,jbT,jdl,beq_self_eq_true,Bool.or_true,cond_true]
theorem Ops.leq {x y:Opd} {kd:IntKind} {a b:Int} (hx:x.ev e=some (.int kd a)) (hy:y.ev e=some (.int kd b)) (k:Ops call fuel base ops keep K (layv e dst (.bool (decide (a<=b)))) h Q) :
  Ops call fuel base (⟨ix,dst,.bin .leq x y,none,at_,[]⟩ :: ops) keep K e h Q:=by
 refine Ops.pure rfl ?_ k
 simp only [I.pure,hx,hy,binOp,jbT,jdl,beq_self_eq_true,Bool.or_true,cond_true]
theorem Ops.gtr {x y:Opd} {kd:IntKind} {a b:Int} (hx:x.ev e=some (.int kd a)) (hy:y.ev e=some (.int kd b)) (k:Ops call fuel base ops keep K (layv e dst (.bool (decide (b<a)))) h Q) :
  Ops call fuel base (⟨ix,dst,.bin .gtr x y,none,at_,[]⟩ :: ops) keep K e h Q:=by
 refine Ops.pure rfl ?_ k
 simp only [I.pure,hx,hy,binOp,jbT,jdl,beq_self_eq_true,Bool.or_true,cond_true]
theorem Ops.geq {x y:Opd} {kd:IntKind} {a b:Int} (hx:x.ev e=some (.int kd a)) (hy:y.ev e=some (.int kd b)) (k:Ops call fuel base ops keep K (layv e dst (.bool (decide (b<=a)))) h Q) :
  Ops call fuel base (⟨ix,dst,.bin .geq x y,none,at_,[]⟩ :: ops) keep K e h Q:=by
 refine Ops.pure rfl ?_ k
 simp only [I.pure,hx,hy,binOp,jbT,jdl,beq_self_eq_true,Bool.or_true,cond_true]
abbrev fits (n:Int):Prop := -9223372036854775808<=n/\n<=9223372036854775807
theorem jdR {n:Int} (hn:fits n):IntKind.wrap .i64 n=n:=by
 obtain ⟨h1,h2⟩:=hn
 have e:IntKind.wrap .i64 n=if n%18446744073709551616>=9223372036854775808 then n%18446744073709551616-18446744073709551616 else n%18446744073709551616:=by
  unfold IntKind.wrap
  by_cases h:n%18446744073709551616>=9223372036854775808<;>simp [IntKind.bits,IntKind.signed,h]
 rw [e]
 split<;>omega
theorem Ops.add {x y:Opd} {a b:Int} (hx:x.ev e=some (.int .i64 a)) (hy:y.ev e=some (.int .i64 b)) (hf:fits (a+b)) (k:Ops call fuel base ops keep K (layv e dst (.i (a+b))) h Q) :
  Ops call fuel base (⟨ix,dst,.bin .add x y,none,at_,[]⟩ :: ops) keep K e h Q:=by
 refine Ops.pure rfl ?_ k
 simp only [I.pure,hx,hy,binOp,jbT,jdl,beq_self_eq_true,Bool.or_true,cond_true,jdR hf]
theorem Ops.sub {x y:Opd} {a b:Int} (hx:x.ev e=some (.int .i64 a)) (hy:y.ev e=some (.int .i64 b)) (hf:fits (a-b)) (k:Ops call fuel base ops keep K (layv e dst (.i (a-b))) h Q) :
  Ops call fuel base (⟨ix,dst,.bin .sub x y,none,at_,[]⟩ :: ops) keep K e h Q:=by
 refine Ops.pure rfl ?_ k
 simp only [I.pure,hx,hy,binOp,jbT,jdl,beq_self_eq_true,Bool.or_true,cond_true,jdR hf]
theorem jlx {n:Int} (h0:0<=n) (h1:n<=18446744073709551615):IntKind.wrap .u64 n=n:=by
 have e:IntKind.wrap .u64 n=n%18446744073709551616:=by simp [IntKind.wrap,IntKind.bits,IntKind.signed]
 rw [e];omega
theorem Ops.addu {x y:Opd} {a b:Int} (hx:x.ev e=some (.int .u64 a)) (hy:y.ev e=some (.int .u64 b)) (hf:0<=a+b/\a+b<=18446744073709551615) (k:Ops call fuel base ops keep K (layv e dst (.int .u64 (a+b))) h Q) :
  Ops call fuel base (⟨ix,dst,.bin .add x y,none,at_,[]⟩ :: ops) keep K e h Q:=by
 refine Ops.pure rfl ?_ k
 simp only [I.pure,hx,hy,binOp,jbT,jdl,beq_self_eq_true,Bool.or_true,cond_true,jlx hf.1 hf.2]
theorem Ops.subu {x y:Opd} {a b:Int} (hx:x.ev e=some (.int .u64 a)) (hy:y.ev e=some (.int .u64 b)) (hf:0<=a-b/\a-b<=18446744073709551615) (k:Ops call fuel base ops keep K (layv e dst (.int .u64 (a-b))) h Q) :
  Ops call fuel base (⟨ix,dst,.bin .sub x y,none,at_,[]⟩ :: ops) keep K e h Q:=by
 refine Ops.pure rfl ?_ k
 simp only [I.pure,hx,hy,binOp,jbT,jdl,beq_self_eq_true,Bool.or_true,cond_true,jlx hf.1 hf.2]
theorem Ops.min2 {x y:Opd} {kd:IntKind} {a b:Int} (hx:x.ev e=some (.int kd a)) (hy:y.ev e=some (.int kd b)) (k:Ops call fuel base ops keep K (layv e dst (.int kd (min a b))) h Q) :
  Ops call fuel base (⟨ix,dst,.minI [x,y],none,at_,[]⟩ :: ops) keep K e h Q:=by
 refine Ops.pure rfl ?_ k
 have:(if b<a then b else a)=min a b:=by omega
 simp only [I.pure,evs,hx,hy,jlf,minV,beq_self_eq_true,cond_true,this]
theorem Ops.not {p:Prop} {dp:Decidable p} {x:Opd} (hx:x.ev e=some (.bool (@decide p dp))) (k:Ops call fuel base ops keep K (layv e dst (.bool (decide (¬ p)))) h Q) :
  Ops call fuel base (⟨ix,dst,.un .not x,none,at_,[]⟩ :: ops) keep K e h Q:=by
 refine Ops.pure rfl ?_ k
 simp only [I.pure,hx,unOp]
 by_cases hp:p<;>simp [hp]
theorem Ops.not_b {t:Bool} {x:Opd} (hx:x.ev e=some (.bool t)) (k:Ops call fuel base ops keep K (layv e dst (.bool (decide (t=false)))) h Q) :
  Ops call fuel base (⟨ix,dst,.un .not x,none,at_,[]⟩ :: ops) keep K e h Q:=by
 refine Ops.pure rfl ?_ k
 simp only [I.pure,hx,unOp]
 cases t<;>simp
theorem Ops.ixaA {x i:Opd} {len sz b o:Nat} {kd:IntKind} {n:Int} (hx:x.ev e=some (.ptr (some (b,o)))) (hi:i.ev e=some (.int kd n)) (hn:0<=n/\n<len)
  (k:Ops call fuel base ops keep K (layv e dst (.ptr (some (b,o+n.toNat*sz)))) h Q):Ops call fuel base (⟨ix,dst,.ixaA len sz x i,none,at_,[]⟩ :: ops) keep K e h Q:=by
 refine Ops.pure rfl ?_ k
 obtain ⟨m,rfl⟩:=Int.eq_ofNat_of_zero_le hn.1
 have:Nat.blt m len=true:=by simp [Nat.blt];omega
 simp only [I.pure,hx,hi]
 simp only [jfZ,this,cond_true]
theorem Ops.ixaS {x i:Opd} {sz b o len:Nat} {cap:Cap} {kd:IntKind} {n:Int} (hx:x.ev e=some (.slice (some (b,o)) len cap)) (hi:i.ev e=some (.int kd n)) (hn:0<=n/\n<len)
  (k:Ops call fuel base ops keep K (layv e dst (.ptr (some (b,o+n.toNat*sz)))) h Q):Ops call fuel base (⟨ix,dst,.ixaS sz x i,none,at_,[]⟩ :: ops) keep K e h Q:=by
 refine Ops.pure rfl ?_ k
 obtain ⟨m,rfl⟩:=Int.eq_ofNat_of_zero_le hn.1
 have:Nat.blt m len=true:=by simp [Nat.blt];omega
 simp only [I.pure,hx,hi]
 simp only [jfZ,this,cond_true]
theorem Ops.load1 {a:Opd} {b o:Nat} {l:List V} {ro:Bool} {v:V} (ha:a.ev e=some (.ptr (some (b,o)))) (hb:h.get b=some (.cells l ro)) (hv:l[o]?=some v)
  (k:Ops call fuel base ops keep K (layv e dst v) h Q):Ops call fuel base (⟨ix,dst,.load1 a,none,at_,[]⟩ :: ops) keep K e h Q :=
 Ops.step (I.run_read rfl (by simp only [I.read,ha,je9 hb hv])) k
theorem Ops.loadN {a:Opd} {b o n:Nat} {l:List V} {ro:Bool} (ha:a.ev e=some (.ptr (some (b,o)))) (hb:h.get b=some (.cells l ro)) (hn:o+n<=l.length)
  (k:Ops call fuel base ops keep K (layv e dst (.agg ((l.drop o).take n))) h Q):Ops call fuel base (⟨ix,dst,.loadN n a,none,at_,[]⟩ :: ops) keep K e h Q :=
 Ops.step (I.run_read rfl (by simp only [I.read,ha,jcP hb hn])) k
theorem Ops.store1 {a x:Opd} {b o:Nat} {l:List V} {v:V} (ha:a.ev e=some (.ptr (some (b,o)))) (hx:x.ev e=some v) (h1:v.one=true) (hb:h.get b=some (.cells l false)) (hn:o<l.length)
  (k:Ops call fuel base ops keep K (layv e dst .undef) (h.set b (.cells (l.set o v) false)) Q):Ops call fuel base (⟨ix,dst,.store 1 a x,none,at_,[]⟩ :: ops) keep K e h Q:=by
 have hc:v.cells=[v]:=by cases v<;>first | rfl | (simp [V.one] at h1)
 refine Ops.step (I.run_eff rfl ?_) k
 have hs:=jfc (o:=o) (vs:=[v]) hb (by simp only [List.length_singleton];omega) (by simp [h1])
 simp only [I.eff,ha,hx,hc,hs]
 rfl
theorem Ops.storeN {a x:Opd} {b o n:Nat} {l vs:List V} (ha:a.ev e=some (.ptr (some (b,o)))) (hx:x.ev e=some (.agg vs)) (hl:vs.length=n) (h1:vs.all V.one=true) (hb:h.get b=some (.cells l false)) (hn:o+n<=l.length)
  (k:Ops call fuel base ops keep K (layv e dst .undef) (h.set b (.cells (jat l o vs) false)) Q):Ops call fuel base (⟨ix,dst,.store n a x,none,at_,[]⟩ :: ops) keep K e h Q:=by
 subst hl
 refine Ops.step (I.run_eff rfl ?_) k
 simp only [I.eff,ha,hx,V.cells,jfc hb hn h1,beq_self_eq_true,cond_true]
theorem Ops.callf {f:FuncId} {args:List Opd} {vs:List V} {v:V} (ha:evs e args=some vs) (hc:call (.fn f) vs h=some (v,h')) (k:Ops call fuel base ops keep K (layv e dst v) h' Q) :
  Ops call fuel base (⟨ix,dst,.call f args,none,at_,[]⟩ :: ops) keep K e h Q :=
 Ops.step (I.run_eff rfl (by simp only [I.eff,ha,hc])) k
theorem Ops.yield {l:Nat} {x:Opd} {args:List Opd} {vs:List V} {v:V} (hx:x.ev e=some (.yld l)) (ha:evs e args=some vs) (hc:call (.yld l) vs h=some (v,h')) (k:Ops call fuel base ops keep K (layv e dst v) h' Q) :
  Ops call fuel base (⟨ix,dst,.callv x args,none,at_,[]⟩ :: ops) keep K e h Q :=
 Ops.step (I.run_eff rfl (by simp only [I.eff,hx,ha,hc])) k
theorem Ops.make {i:I} {ob:Obj} {mk:Nat->V} (hc:i.cls = .A) (hm:i.make e=some (ob,mk)) (k:Ops call fuel base ops keep K (layv e dst (mk h.nx)) (h.new ob) Q) :
  Ops call fuel base (⟨ix,dst,i,none,none,[]⟩ :: ops) keep K e h Q:=Ops.step (I.run_make hc hm) k
theorem Ops.make_at {i:I} {ob:Obj} {mk:Nat->V} {b:Nat} (hc:i.cls = .A) (hm:i.make e=some (ob,mk)) (k:Ops call fuel base ops keep K (layv e dst (mk (base+b))) (h.set (base+b) ob) Q) :
  Ops call fuel base (⟨ix,dst,i,none,some b,[]⟩ :: ops) keep K e h Q:=Ops.step (I.run_make_at hc hm) k
theorem Ops.eqb {x y:Opd} {a b:Bool} (hx:x.ev e=some (.bool a)) (hy:y.ev e=some (.bool b)) (k:Ops call fuel base ops keep K (layv e dst (.bool (decide (a=b)))) h Q) :
  Ops call fuel base (⟨ix,dst,.eq .bool false x y,none,at_,[]⟩ :: ops) keep K e h Q:=by
 refine Ops.pure rfl ?_ k
 simp only [I.pure,hx,hy,eqOp,cond_false]
 cases a<;>cases b<;>rfl
theorem Ops.neb {x y:Opd} {a b:Bool} (hx:x.ev e=some (.bool a)) (hy:y.ev e=some (.bool b)) (k:Ops call fuel base ops keep K (layv e dst (.bool (decide (a≠b)))) h Q) :
  Ops call fuel base (⟨ix,dst,.eq .bool true x y,none,at_,[]⟩ :: ops) keep K e h Q:=by
 refine Ops.pure rfl ?_ k
 simp only [I.pure,hx,hy,eqOp,cond_true]
 cases a<;>cases b<;>rfl
theorem tagA {o:List Ins} (k:Ops call fuel base o keep K e h Q):Ops call fuel base o keep K e h Q:=k
theorem tagG {i:I} {g:Nat × Bool} (k:Ops call fuel base (⟨ix,dst,i,some g,at_,c⟩ :: ops) keep K e h Q):Ops call fuel base (⟨ix,dst,i,some g,at_,c⟩ :: ops) keep K e h Q:=k
theorem tagB {op:BinOp} {x y:Opd} (k:Ops call fuel base (⟨ix,dst,.bin op x y,none,at_,[]⟩ :: ops) keep K e h Q):Ops call fuel base (⟨ix,dst,.bin op x y,none,at_,[]⟩ :: ops) keep K e h Q:=k
theorem tagP {x a b:Opd} (k:Ops call fuel base (⟨ix,dst,.pick x a b,none,at_,[]⟩ :: ops) keep K e h Q):Ops call fuel base (⟨ix,dst,.pick x a b,none,at_,[]⟩ :: ops) keep K e h Q:=k
theorem tagR {a:AC} (k:Run call fuel a K e h Q):Run call fuel a K e h Q:=k
theorem tagC {x:Opd} {a b:AC} (k:Run call fuel (.cond x a b) K e h Q):Run call fuel (.cond x a b) K e h Q:=k
theorem tagE {x:Ex} (k:End call fuel K x e h Q):End call fuel K x e h Q:=k
theorem Ops.off_u {i:I} {w:Bool} (hg:e.get j=some (.tup [])) (k:Ops call fuel base ops keep K (layv e dst .undef) h Q) :
  Ops call fuel base (⟨ix,dst,i,some (j,w),at_,c⟩ :: ops) keep K e h Q:=by
 obtain ⟨e1,h1,hr1,q⟩:=k
 refine ⟨e1,h1,?_,q⟩
 simp only [ja6,wanted,hg,cond_false,hr1]
theorem Ops.on_p {p:Prop} {dp:Decidable p} {i:I} (hg:e.get j=some (.bool (@decide p dp))) (hp:p) (k:Ops call fuel base (⟨ix,dst,i,none,at_,c⟩ :: ops) keep K e h Q) :
  Ops call fuel base (⟨ix,dst,i,some (j,true),at_,c⟩ :: ops) keep K e h Q:=Ops.on (by rw [hg,decide_eq_true hp]) k
theorem Ops.off_p {p:Prop} {dp:Decidable p} {i:I} (hg:e.get j=some (.bool (@decide p dp))) (hp : ¬ p) (k:Ops call fuel base ops keep K (layv e dst .undef) h Q) :
  Ops call fuel base (⟨ix,dst,i,some (j,true),at_,c⟩ :: ops) keep K e h Q:=Ops.off (by rw [hg,decide_eq_false hp];rfl) k
theorem Ops.on_n {p:Prop} {dp:Decidable p} {i:I} (hg:e.get j=some (.bool (@decide p dp))) (hp : ¬ p) (k:Ops call fuel base (⟨ix,dst,i,none,at_,c⟩ :: ops) keep K e h Q) :
  Ops call fuel base (⟨ix,dst,i,some (j,false),at_,c⟩ :: ops) keep K e h Q:=Ops.on (by rw [hg,decide_eq_false hp]) k
theorem Ops.off_n {p:Prop} {dp:Decidable p} {i:I} (hg:e.get j=some (.bool (@decide p dp))) (hp:p) (k:Ops call fuel base ops keep K (layv e dst .undef) h Q) :
  Ops call fuel base (⟨ix,dst,i,some (j,false),at_,c⟩ :: ops) keep K e h Q:=Ops.off (by rw [hg,decide_eq_true hp];rfl) k
theorem Ops.guard_p {p:Prop} {dp:Decidable p} {i:I} (hg:e.get j=some (.bool (@decide p dp))) (k:p->Ops call fuel base (⟨ix,dst,i,none,at_,c⟩ :: ops) keep K e h Q) (k' : ¬ p->Ops call fuel base ops keep K (layv e dst .undef) h Q) :
  Ops call fuel base (⟨ix,dst,i,some (j,true),at_,c⟩ :: ops) keep K e h Q:=by
 by_cases hp:p
 ·exact Ops.on_p hg hp (k hp)
 ·exact Ops.off_p hg hp (k' hp)
theorem Ops.guard_n {p:Prop} {dp:Decidable p} {i:I} (hg:e.get j=some (.bool (@decide p dp))) (k : ¬ p->Ops call fuel base (⟨ix,dst,i,none,at_,c⟩ :: ops) keep K e h Q) (k':p->Ops call fuel base ops keep K (layv e dst .undef) h Q) :
  Ops call fuel base (⟨ix,dst,i,some (j,false),at_,c⟩ :: ops) keep K e h Q:=by
 by_cases hp:p
 ·exact Ops.off_n hg hp (k' hp)
 ·exact Ops.on_n hg hp (k hp)
theorem Ops.on_b {t:Bool} {i:I} {w:Bool} (hg:e.get j=some (.bool t)) (hp:t=w) (k:Ops call fuel base (⟨ix,dst,i,none,at_,c⟩ :: ops) keep K e h Q) :
  Ops call fuel base (⟨ix,dst,i,some (j,w),at_,c⟩ :: ops) keep K e h Q:=Ops.on (by rw [hg,hp]) k
theorem Ops.off_b {t:Bool} {i:I} {w:Bool} (hg:e.get j=some (.bool t)) (hp:t = !w) (k:Ops call fuel base ops keep K (layv e dst .undef) h Q) :
  Ops call fuel base (⟨ix,dst,i,some (j,w),at_,c⟩ :: ops) keep K e h Q:=Ops.off (by rw [hg,hp]) k
theorem Ops.pick_p {p:Prop} {dp:Decidable p} {x a b:Opd} {v:V} (hx:x.ev e=some (.bool (@decide p dp))) (hp:p) (hv:a.ev e=some v) (k:Ops call fuel base ops keep K (layv e dst v) h Q) :
  Ops call fuel base (⟨ix,dst,.pick x a b,none,at_,[]⟩ :: ops) keep K e h Q:=Ops.pure rfl (by simp only [I.pure,hx,decide_eq_true hp,hv]) k
theorem Ops.pick_n {p:Prop} {dp:Decidable p} {x a b:Opd} {v:V} (hx:x.ev e=some (.bool (@decide p dp))) (hp : ¬ p) (hv:b.ev e=some v) (k:Ops call fuel base ops keep K (layv e dst v) h Q) :
  Ops call fuel base (⟨ix,dst,.pick x a b,none,at_,[]⟩ :: ops) keep K e h Q:=Ops.pure rfl (by simp only [I.pure,hx,decide_eq_false hp,hv]) k
theorem Ops.pick_t {t:Bool} {x a b:Opd} {v:V} (hx:x.ev e=some (.bool t)) (hp:t=true) (hv:a.ev e=some v) (k:Ops call fuel base ops keep K (layv e dst v) h Q) :
  Ops call fuel base (⟨ix,dst,.pick x a b,none,at_,[]⟩ :: ops) keep K e h Q:=Ops.pure rfl (by simp only [I.pure,hx,hp,hv]) k
theorem Ops.pick_f {t:Bool} {x a b:Opd} {v:V} (hx:x.ev e=some (.bool t)) (hp:t=false) (hv:b.ev e=some v) (k:Ops call fuel base ops keep K (layv e dst v) h Q) :
  Ops call fuel base (⟨ix,dst,.pick x a b,none,at_,[]⟩ :: ops) keep K e h Q:=Ops.pure rfl (by simp only [I.pure,hx,hp,hv]) k
theorem Ops.pick_id {t:Bool} {x:Opd} (hx:x.ev e=some (.bool t)) (k:Ops call fuel base ops keep K (layv e dst (.bool t)) h Q) :
  Ops call fuel base (⟨ix,dst,.pick x (.c (.bool true)) (.c (.bool false)),none,at_,[]⟩ :: ops) keep K e h Q:=by
 refine Ops.pure rfl ?_ k
 have hp:I.pure e (.pick x (.c (.bool true)) (.c (.bool false)))=some (.bool t):=by
  simp only [I.pure,hx];cases t<;>rfl
 exact hp
theorem Run.cond_p {p:Prop} {dp:Decidable p} {x:Opd} {a b:AC} (hx:x.ev e=some (.bool (@decide p dp))) (hp:p) (k:Run call fuel a K e h Q):Run call fuel (.cond x a b) K e h Q:=Run.cond_true (by rw [hx,decide_eq_true hp]) k
theorem Run.cond_n {p:Prop} {dp:Decidable p} {x:Opd} {a b:AC} (hx:x.ev e=some (.bool (@decide p dp))) (hp : ¬ p) (k:Run call fuel b K e h Q):Run call fuel (.cond x a b) K e h Q:=Run.cond_false (by rw [hx,decide_eq_false hp]) k
theorem Run.cond_pn {p:Prop} {dp:Decidable p} {x:Opd} {a b:AC} (hx:x.ev e=some (.bool (@decide p dp))) (k:p->Run call fuel a K e h Q) (k' : ¬ p->Run call fuel b K e h Q):Run call fuel (.cond x a b) K e h Q:=by
 by_cases hp:p
 ·exact Run.cond_p hx hp (k hp)
 ·exact Run.cond_n hx hp (k' hp)
theorem Run.cond_t {t:Bool} {x:Opd} {a b:AC} (hx:x.ev e=some (.bool t)) (hp:t=true) (k:Run call fuel a K e h Q):Run call fuel (.cond x a b) K e h Q:=Run.cond_true (by rw [hx,hp]) k
theorem Run.cond_f {t:Bool} {x:Opd} {a b:AC} (hx:x.ev e=some (.bool t)) (hp:t=false) (k:Run call fuel b K e h Q):Run call fuel (.cond x a b) K e h Q:=Run.cond_false (by rw [hx,hp]) k
end
theorem Run.rangeFunc {call:Call} {fuel:Nat} {K:List Fr} {e e1:Env} {h h':H} {Q:Post} {f:Opd} {g:FuncId} {cap:List V} {ps live ps':List Nat} {assign body a' b':AC} {v:V} {st:LoopState} {en':Env}
  (hf:f.ev e=some (.clo g cap)) (hk:Kept e live e1) (hc:call (.fn g) (.yld h.nx :: cap) (h.new (.loop .ready none ps e1 assign body))=some (v,h'))
  (hl:h'.get h.nx=some (.loop st none ps' en' a' b')) (hst:st ≠ .busy) (k:End call fuel K .normal e (h'.kill h.nx) Q):Run call fuel (.rangeFunc f ps live assign body) K e h Q:=by
 refine ⟨.normal,e,h'.kill h.nx,?_,k⟩
 cases st<;>first | (exact absurd rfl hst) | simp only [D,hf,hk.eq,hc,hl]
theorem Run.rangeFunc_ex {call:Call} {fuel:Nat} {K:List Fr} {e e1:Env} {h h':H} {Q:Post} {f:Opd} {g:FuncId} {cap:List V} {ps live ps':List Nat} {assign body a' b':AC} {v:V} {st:LoopState} {en':Env} {ex:Ex}
  (hf:f.ev e=some (.clo g cap)) (hk:Kept e live e1) (hc:call (.fn g) (.yld h.nx :: cap) (h.new (.loop .ready none ps e1 assign body))=some (v,h'))
  (hl:h'.get h.nx=some (.loop st (some ex) ps' en' a' b')) (hst:st ≠ .busy) (k:End call fuel K ex e (h'.kill h.nx) Q):Run call fuel (.rangeFunc f ps live assign body) K e h Q:=by
 refine ⟨ex,e,h'.kill h.nx,?_,k⟩
 cases st<;>first | (exact absurd rfl hst) | simp only [D,hf,hk.eq,hc,hl]
def Ex.st:Ex->LoopState
 | .normal=>.ready
 | _=>.done
def Ex.pend:Ex->Option Ex
 | .normal=>none
 | x=>some x
def Ex.goes:Ex->Bool
 | .normal=>true
 | _=>false
theorem yield_at {P:Prog} {fuel d l:Nat} {args:List V} {h:H} {R:V->H->Prop} {pd:Option Ex} {ps:List Nat} {env e0:Env} {assign body:AC} (hd:0<d) (hl:h.get l=some (.loop .ready pd ps env assign body)) (he:jd7 env ps args=some e0)
  (k:Run (jbA P fuel (d-1)) fuel assign [] e0 h fun x e1 h1=>x = .normal/\h1.get l=some (.loop .ready pd ps env assign body) /\
   Run (jbA P fuel (d-1)) fuel body [] e1 (h1.set l (.loop .busy pd ps env assign body)) fun ex _ h3=>(∃ st3 pd3,h3.get l=some (.loop st3 pd3 ps env assign body))/\R (.bool ex.goes) (h3.set l (.loop ex.st ex.pend ps env assign body))) :
  ∃ v h',jbA P fuel d (.yld l) args h=some (v,h')/\R v h':=by
 obtain ⟨d,rfl⟩ : ∃ d',d=d'+1:=⟨d-1,by omega⟩
 obtain ⟨x,e1,h1,hd1,x2,e2,h2,ha,rfl,hl1,hb⟩:=k
 simp only [after] at ha
 cases ha
 obtain ⟨ex,e3,h3,hd3,x4,e4,h4,ha4,⟨st3,pd3,hl3⟩,hR⟩:=hb
 simp only [after] at ha4
 cases ha4
 refine ⟨.bool ex.goes,h3.set l (.loop ex.st ex.pend ps env assign body),?_,hR⟩
 simp only [Nat.add_sub_cancel] at hd1 hd3
 simp only [jbA,jd5,hl,he,hd1,hl1,hd3,hl3]
 cases ex<;>rfl
theorem Run.rangeFunc_lo {call:Call} {fuel:Nat} {K:List Fr} {e e1:Env} {h:H} {Q:Post} {f:Opd} {g:FuncId} {cap:List V} {ps live:List Nat} {assign body:AC}
  (hf:f.ev e=some (.clo g cap)) (hk:Kept e live e1)
  (k : ∀ LO:LoopState->Option Ex->Obj,LO=(fun st pd=>.loop st pd ps e1 assign body) ->
   ∃ v h',call (.fn g) (.yld h.nx :: cap) (h.new (LO .ready none))=some (v,h') /\ ∃ ex:Ex,h'.get h.nx=some (LO ex.st ex.pend)/\End call fuel K ex e (h'.kill h.nx) Q):Run call fuel (.rangeFunc f ps live assign body) K e h Q:=by
 obtain ⟨v,h',hc,ex,hl,hE⟩:=k _ rfl
 cases ex with
 | normal=>exact Run.rangeFunc hf hk hc hl (by intro e;cases e) hE
 | exit i=>exact Run.rangeFunc_ex hf hk hc hl (by intro e;cases e) hE
 | ret=>exact Run.rangeFunc_ex hf hk hc hl (by intro e;cases e) hE
theorem yield_lo {P:Prog} {fuel d l:Nat} {args:List V} {h:H} {R:V->H->Prop} {ps:List Nat} {env e0:Env} {assign body:AC} {LO:LoopState->Option Ex->Obj} (hd:0<d)
  (hLO:LO=(fun st pd=>.loop st pd ps env assign body)) (hl:h.get l=some (LO .ready none)) (he:jd7 env ps args=some e0)
  (k:Run (jbA P fuel (d-1)) fuel assign [] e0 h fun x e1 h1=>x = .normal/\h1.get l=some (LO .ready none) /\
   Run (jbA P fuel (d-1)) fuel body [] e1 (h1.set l (LO .busy none)) fun ex _ h3=>(∃ st3 pd3,h3.get l=some (LO st3 pd3))/\R (.bool ex.goes) (h3.set l (LO ex.st ex.pend))) :
  ∃ v h',jbA P fuel d (.yld l) args h=some (v,h')/\R v h':=by
 subst hLO
 exact yield_at hd hl he k
theorem jao {r:Option (V × H)} {v:V} {h:H} (k : ∃ v' h',r=some (v',h')/\v'=v/\h'=h):r=some (v,h):=by
 obtain ⟨_,_,e,rfl,rfl⟩:=k;exact e
theorem jak {r:Option (V × H)} {v:V} {R:H->Prop} (k : ∃ v' h',r=some (v',h')/\v'=v/\R h') : ∃ h',r=some (v,h')/\R h':=by
 obtain ⟨_,_,e,rfl,k⟩:=k;exact ⟨_,e,k⟩
structure Upd (b:Nat) (o:Obj) (h h':H):Prop where
 nx:h'.nx=h.nx
 self:h'.get b=some o
 get : ∀ j,j≠b->h'.get j=h.get j
theorem Upd.refl {b:Nat} {o:Obj} {h:H} (hb:h.get b=some o):Upd b o h h:=⟨rfl,hb,fun _ _=>rfl⟩
theorem Upd.set {b:Nat} {o:Obj} {h:H} : Upd b o h (h.set b o):=⟨rfl,jab o,fun _ hj=>jaa hj⟩
theorem Upd.trans {b:Nat} {o o':Obj} {h h' h'':H} (a:Upd b o h h') (c:Upd b o' h' h''):Upd b o' h h'' :=
 ⟨by rw [c.nx,a.nx],c.self,fun j hj=>by rw [c.get j hj,a.get j hj]⟩
theorem Upd.ch {b:Nat} {o:Obj} {h h':H} {B:Nat->Prop} (a:Upd b o h h') (hB:B b):Ch B h h':=⟨by rw [a.nx];exact Nat.le_refl _,fun j _ hn=>a.get j fun e=>hn (e ▸ hB)⟩
structure Fin (res:List RV) (R:V->H->Prop) (x:Ex) (e:Env) (h:H):Prop where
 out:(∀ id,x ≠ .exit id) /\ ∃ l,jdk e h res=some l/\R (jef l) h
theorem End.fin0 {call:Call} {fuel:Nat} {res:List RV} {e:Env} {h:H} {R:V->H->Prop} (hl:jdk e h res=some []) (k:R (.tup []) h) :
  End call fuel [] .ret e h (Fin res R):=End.nil ⟨(fun _ hx=>by cases hx),_,hl,k⟩
theorem End.fin1 {call:Call} {fuel:Nat} {res:List RV} {e:Env} {h:H} {v:V} {R:V->H->Prop} (hl:jdk e h res=some [v]) (k:R v h) :
  End call fuel [] .ret e h (Fin res R):=End.nil ⟨(fun _ hx=>by cases hx),_,hl,k⟩
theorem End.fin2 {call:Call} {fuel:Nat} {res:List RV} {e:Env} {h:H} {a b:V} {l:List V} {R:V->H->Prop} (hl:jdk e h res=some (a :: b :: l)) (k:R (.tup (a :: b :: l)) h) :
  End call fuel [] .ret e h (Fin res R):=End.nil ⟨(fun _ hx=>by cases hx),_,hl,k⟩
theorem End.fin0n {call:Call} {fuel:Nat} {res:List RV} {e:Env} {h:H} {R:V->H->Prop} (hl:jdk e h res=some []) (k:R (.tup []) h) :
  End call fuel [] .normal e h (Fin res R):=End.nil ⟨(fun _ hx=>by cases hx),_,hl,k⟩
theorem End.fin {call:Call} {fuel:Nat} {res:List RV} {e:Env} {h:H} {l:List V} {R:V->H->Prop} (hl:jdk e h res=some l) (k:R (jef l) h) :
  End call fuel [] .ret e h fun _ e' h'=>(∀ id,Ex.ret ≠ .exit id) /\ ∃ l,jdk e' h' res=some l/\R (jef l) h':=End.nil ⟨(fun _ hx=>by cases hx),l,hl,k⟩
theorem callN_at {P:Prog} {fuel d f:Nat} {fn:AFn} {args:List V} {h:H} {R:V->H->Prop} (hd:0<d) (hp:jdy P.prims f=none) (hf:jdy P.fns f=some fn) (hl:(args.length == fn.np)=true)
  (k:Run (jbA P fuel (d-1)) fuel fn.body [] (Env.ofArgs args 0) h (Fin fn.res R)) :
  ∃ v h',jbA P fuel d (.fn f) args h=some (v,h')/\R v h':=by
 obtain ⟨d,rfl⟩ : ∃ d',d=d'+1:=⟨d-1,by omega⟩
 obtain ⟨⟨x,e',h',h1,⟨⟨x',e2,h2,h3,⟨h4⟩⟩⟩⟩⟩:=k
 exact callN_of hp hf (runFn_of hl ⟨x,e',h',h1,⟨x',e2,h2,h3,h4⟩⟩)
theorem Run.cut {call:Call} {fuel:Nat} {K:List Fr} {e:Env} {h:H} {Q:Post} {c:AC} (M:Post) (k:Run call fuel c [] e h M) (k' : ∀ x e' h',M x e' h'->End call fuel K x e' h' Q):Run call fuel c K e h Q:=by
 obtain ⟨x,e1,h1,hd,x2,e2,h2,ha,hm⟩:=k
 simp only [after] at ha
 cases ha
 exact ⟨x,e1,h1,hd,k' _ _ _ hm⟩
abbrev zaa := @Ops.mv
abbrev zab := @Run.seq
abbrev zac := @Run.region0
abbrev zad := @Ops.nil
abbrev zae := @End.seq
abbrev zaf := @Ops.lss
abbrev zag := @Ops.eql
abbrev zah := @Ops.neq
abbrev zai := @Ops.leq
abbrev zaj := @Ops.gtr
abbrev zak := @Ops.geq
abbrev zal := @Ops.add
abbrev zam := @Ops.sub
abbrev zan := @Ops.not
abbrev zao := @Ops.not_b
abbrev zap := @Ops.pick_id
abbrev zaq := @Ops.pick_p
abbrev zar := @Ops.pick_n
abbrev zas := @Ops.pick_t
abbrev zat := @Ops.pick_f
abbrev zau := @Ops.pure
abbrev zav := @Ops.load1
abbrev zaw := @Ops.callf
abbrev zax := @Ops.ixaA
abbrev zay := @Ops.ixaS
abbrev zaz := @Ops.on_p
abbrev zba := @Ops.off_p
abbrev zbb := @Ops.on_n
abbrev zbc := @Ops.off_n
abbrev zbd := @Ops.on_b
abbrev zbe := @Ops.off_b
abbrev zbf := @Ops.guard_p
abbrev zbg := @Ops.guard_n
abbrev zbh := @Ops.guard
abbrev zbi := @Run.cond_p
abbrev zbj := @Run.cond_n
abbrev zbk := @Run.cond_t
abbrev zbl := @Run.cond_f
abbrev zbm := @Run.cond_pn
abbrev zbn := @Run.cond
abbrev zbo := @Run.block
abbrev zbp := @Run.skip
abbrev zbq := @Run.ret
abbrev zbr := @Run.exit
abbrev zbs := @Run.scope
abbrev zbt := @Run.label
abbrev zbu := @End.seq_ret
abbrev zbv := @End.seq_exit
abbrev zbw := @End.block
abbrev zbx := @End.block_ret
abbrev zby := @End.block_exit
abbrev zbz := @End.block_exit'
abbrev zca := @End.loop_ret
abbrev zcb := @End.loop_exit
abbrev zcc := @End.fin1
abbrev zcd := @End.fin0
abbrev zce := @End.fin0n
abbrev zcf := @End.fin2
abbrev zcg := @tagA
abbrev zch := @tagG
abbrev zci := @tagB
abbrev zcj := @tagP
abbrev zck := @tagR
abbrev zcl := @tagC
abbrev zcm := @tagE
abbrev zcn := @Ops.eqb
abbrev zco := @Ops.neb
abbrev zcp := @Ops.addu
abbrev zcq := @Ops.subu
abbrev zcr := @Ops.min2
abbrev zcs := @Ops.store1
abbrev zct := @Ops.storeN
abbrev zcu := @Ops.make
abbrev zcv := @Ops.off_u
abbrev zcw := @Ops.loadN
structure Hid (R:Prop):Prop where
 g:R
theorem qo1 {P R:Prop} (r:R) (k:Hid R->P:=by intro hid_;(repeat' (first|(refine zcg ?_;first|refine zaa rfl ?_|refine zad (by repeat (first|(apply Kept.cons;exact rfl)|apply Kept.nil|(apply Kept.miss;exact rfl))) ?_|(refine zch ?_;first|refine zcv rfl ?_|refine zaz rfl (by first|assumption|omega|exact fun h=>h rfl) ?_|refine zba rfl (by first|assumption|omega|exact fun h=>h rfl) ?_|refine zbb rfl (by first|assumption|omega|exact fun h=>h rfl) ?_|refine zbc rfl (by first|assumption|omega|exact fun h=>h rfl) ?_|refine zbd rfl (by first|rfl|assumption) ?_|refine zbe rfl (by first|rfl|assumption) ?_|refine zbf rfl (fun _=>?_) fun _=>?_|refine zbg rfl (fun _=>?_) fun _=>?_|refine zbh rfl (fun _=>?_) fun _=>?_)|(refine zci ?_;first|refine zaf rfl rfl ?_|refine zag rfl rfl ?_|refine zah rfl rfl ?_|refine zal rfl rfl ⟨by omega,by omega⟩ ?_|refine zai rfl rfl ?_|refine zaj rfl rfl ?_|refine zak rfl rfl ?_|refine zam rfl rfl ⟨by omega,by omega⟩ ?_|refine zcp rfl rfl ⟨by omega,by omega⟩ ?_|refine zcq rfl rfl ⟨by omega,by omega⟩ ?_|refine zau rfl rfl ?_)|(refine zcj ?_;first|refine zap rfl ?_|refine zaq rfl (by first|assumption|omega|exact fun h=>h rfl) rfl ?_|refine zar rfl (by first|assumption|omega|exact fun h=>h rfl) rfl ?_|refine zas rfl (by first|rfl|assumption) rfl ?_|refine zat rfl (by first|rfl|assumption) rfl ?_|refine zau rfl rfl ?_)|refine zan rfl ?_|refine zao rfl ?_|refine zcn rfl rfl ?_|refine zco rfl rfl ?_|refine zcr rfl rfl ?_|refine zau rfl rfl ?_|refine zax rfl rfl (by omega) ?_|refine zay rfl rfl (by omega) ?_)|(refine zck ?_;first|refine zab ?_|refine zac ?_|(refine zcl ?_;first|refine zbi rfl (by first|assumption|omega|exact fun h=>h rfl) ?_|refine zbj rfl (by first|assumption|omega|exact fun h=>h rfl) ?_|refine zbk rfl (by first|rfl|assumption) ?_|refine zbl rfl (by first|rfl|assumption) ?_|refine zbm rfl (fun _=>?_) fun _=>?_|refine zbn rfl (fun _=>?_) fun _=>?_)|refine zbo ?_|refine zbp ?_|refine zbq ?_|refine zbr ?_|refine zbs ?_|refine zbt ?_)|(refine zcm ?_;first|refine zae ?_|refine zbw ?_|refine zcc rfl ?_|refine zbu ?_|refine zbv ?_|refine zby ?_|refine zbz rfl ?_|refine zbx ?_|refine zcb ?_|refine zca ?_|refine zcd rfl ?_|refine zce rfl ?_|refine zcf rfl ?_)));exact hid_.g):P:=k ⟨r⟩
theorem qoy {P R:Prop} (r:R) (k:Hid R->P:=by intro hid_;(first|(refine zcg ?_;first|refine zaa rfl ?_|refine zad (by repeat (first|(apply Kept.cons;exact rfl)|apply Kept.nil|(apply Kept.miss;exact rfl))) ?_|(refine zch ?_;first|refine zcv rfl ?_|refine zaz rfl (by first|assumption|omega|exact fun h=>h rfl) ?_|refine zba rfl (by first|assumption|omega|exact fun h=>h rfl) ?_|refine zbb rfl (by first|assumption|omega|exact fun h=>h rfl) ?_|refine zbc rfl (by first|assumption|omega|exact fun h=>h rfl) ?_|refine zbd rfl (by first|rfl|assumption) ?_|refine zbe rfl (by first|rfl|assumption) ?_)|(refine zci ?_;first|refine zaf rfl rfl ?_|refine zag rfl rfl ?_|refine zah rfl rfl ?_|refine zal rfl rfl ⟨by omega,by omega⟩ ?_|refine zai rfl rfl ?_|refine zaj rfl rfl ?_|refine zak rfl rfl ?_|refine zam rfl rfl ⟨by omega,by omega⟩ ?_|refine zcp rfl rfl ⟨by omega,by omega⟩ ?_|refine zcq rfl rfl ⟨by omega,by omega⟩ ?_|refine zau rfl rfl ?_)|(refine zcj ?_;first|refine zap rfl ?_|refine zaq rfl (by first|assumption|omega|exact fun h=>h rfl) rfl ?_|refine zar rfl (by first|assumption|omega|exact fun h=>h rfl) rfl ?_|refine zas rfl (by first|rfl|assumption) rfl ?_|refine zat rfl (by first|rfl|assumption) rfl ?_|refine zau rfl rfl ?_)|refine zan rfl ?_|refine zao rfl ?_|refine zcn rfl rfl ?_|refine zco rfl rfl ?_|refine zcr rfl rfl ?_|refine zau rfl rfl ?_|refine zax rfl rfl (by omega) ?_|refine zay rfl rfl (by omega) ?_)|(refine zck ?_;first|refine zab ?_|refine zac ?_|(refine zcl ?_;first|refine zbi rfl (by first|assumption|omega|exact fun h=>h rfl) ?_|refine zbj rfl (by first|assumption|omega|exact fun h=>h rfl) ?_|refine zbk rfl (by first|rfl|assumption) ?_|refine zbl rfl (by first|rfl|assumption) ?_)|refine zbo ?_|refine zbp ?_|refine zbq ?_|refine zbr ?_|refine zbs ?_|refine zbt ?_)|(refine zcm ?_;first|refine zae ?_|refine zbw ?_|refine zcc rfl ?_|refine zbu ?_|refine zbv ?_|refine zby ?_|refine zbz rfl ?_|refine zbx ?_|refine zcb ?_|refine zca ?_|refine zcd rfl ?_|refine zce rfl ?_|refine zcf rfl ?_));(repeat' (first|(refine zcg ?_;first|refine zaa rfl ?_|refine zad (by repeat (first|(apply Kept.cons;exact rfl)|apply Kept.nil|(apply Kept.miss;exact rfl))) ?_|(refine zch ?_;first|refine zcv rfl ?_|refine zaz rfl (by first|assumption|omega|exact fun h=>h rfl) ?_|refine zba rfl (by first|assumption|omega|exact fun h=>h rfl) ?_|refine zbb rfl (by first|assumption|omega|exact fun h=>h rfl) ?_|refine zbc rfl (by first|assumption|omega|exact fun h=>h rfl) ?_|refine zbd rfl (by first|rfl|assumption) ?_|refine zbe rfl (by first|rfl|assumption) ?_)|(refine zci ?_;first|refine zaf rfl rfl ?_|refine zag rfl rfl ?_|refine zah rfl rfl ?_|refine zal rfl rfl ⟨by omega,by omega⟩ ?_|refine zai rfl rfl ?_|refine zaj rfl rfl ?_|refine zak rfl rfl ?_|refine zam rfl rfl ⟨by omega,by omega⟩ ?_|refine zcp rfl rfl ⟨by omega,by omega⟩ ?_|refine zcq rfl rfl ⟨by omega,by omega⟩ ?_|refine zau rfl rfl ?_)|(refine zcj ?_;first|refine zap rfl ?_|refine zaq rfl (by first|assumption|omega|exact fun h=>h rfl) rfl ?_|refine zar rfl (by first|assumption|omega|exact fun h=>h rfl) rfl ?_|refine zas rfl (by first|rfl|assumption) rfl ?_|refine zat rfl (by first|rfl|assumption) rfl ?_|refine zau rfl rfl ?_)|refine zan rfl ?_|refine zao rfl ?_|refine zcn rfl rfl ?_|refine zco rfl rfl ?_|refine zcr rfl rfl ?_|refine zau rfl rfl ?_|refine zax rfl rfl (by omega) ?_|refine zay rfl rfl (by omega) ?_)|(refine zck ?_;first|refine zab ?_|refine zac ?_|(refine zcl ?_;first|refine zbi rfl (by first|assumption|omega|exact fun h=>h rfl) ?_|refine zbj rfl (by first|assumption|omega|exact fun h=>h rfl) ?_|refine zbk rfl (by first|rfl|assumption) ?_|refine zbl rfl (by first|rfl|assumption) ?_)|refine zbo ?_|refine zbp ?_|refine zbq ?_|refine zbr ?_|refine zbs ?_|refine zbt ?_)|(refine zcm ?_;first|refine zae ?_|refine zbw ?_|refine zcc rfl ?_|refine zbu ?_|refine zbv ?_|refine zby ?_|refine zbz rfl ?_|refine zbx ?_|refine zcb ?_|refine zca ?_|refine zcd rfl ?_|refine zce rfl ?_|refine zcf rfl ?_)));exact hid_.g):P:=k ⟨r⟩
theorem qx1 {P R:Prop} (r:R) (k:Hid R->P:=by intro hid_;(repeat' (first|(refine zcg ?_;first|refine zaa rfl ?_|refine zav rfl (by repeat (first|assumption|exact jab _|refine Eq.trans (jaa (by first|assumption|omega)) ?_|exact jad _|refine Eq.trans (jac (by first|assumption|omega|(simp only [H.nx_set,H.nx_new,H.nx_kill];omega))) ?_)) (by first|assumption|rfl) ?_|refine zaw rfl (by assumption) ?_|refine zad (by repeat (first|(apply Kept.cons;exact rfl)|apply Kept.nil|(apply Kept.miss;exact rfl))) ?_|(refine zch ?_;first|refine zcv rfl ?_|refine zaz rfl (by first|assumption|omega|exact fun h=>h rfl) ?_|refine zba rfl (by first|assumption|omega|exact fun h=>h rfl) ?_|refine zbb rfl (by first|assumption|omega|exact fun h=>h rfl) ?_|refine zbc rfl (by first|assumption|omega|exact fun h=>h rfl) ?_|refine zbd rfl (by first|rfl|assumption) ?_|refine zbe rfl (by first|rfl|assumption) ?_|refine zbf rfl (fun _=>?_) fun _=>?_|refine zbg rfl (fun _=>?_) fun _=>?_|refine zbh rfl (fun _=>?_) fun _=>?_)|(refine zci ?_;first|refine zaf rfl rfl ?_|refine zag rfl rfl ?_|refine zah rfl rfl ?_|refine zal rfl rfl ⟨by omega,by omega⟩ ?_|refine zai rfl rfl ?_|refine zaj rfl rfl ?_|refine zak rfl rfl ?_|refine zam rfl rfl ⟨by omega,by omega⟩ ?_|refine zcp rfl rfl ⟨by omega,by omega⟩ ?_|refine zcq rfl rfl ⟨by omega,by omega⟩ ?_|refine zau rfl rfl ?_)|(refine zcj ?_;first|refine zap rfl ?_|refine zaq rfl (by first|assumption|omega|exact fun h=>h rfl) rfl ?_|refine zar rfl (by first|assumption|omega|exact fun h=>h rfl) rfl ?_|refine zas rfl (by first|rfl|assumption) rfl ?_|refine zat rfl (by first|rfl|assumption) rfl ?_|refine zau rfl rfl ?_)|refine zan rfl ?_|refine zao rfl ?_|refine zcn rfl rfl ?_|refine zco rfl rfl ?_|refine zcr rfl rfl ?_|refine zau rfl rfl ?_|refine zax rfl rfl (by omega) ?_|refine zay rfl rfl (by omega) ?_)|(refine zck ?_;first|refine zab ?_|refine zac ?_|(refine zcl ?_;first|refine zbi rfl (by first|assumption|omega|exact fun h=>h rfl) ?_|refine zbj rfl (by first|assumption|omega|exact fun h=>h rfl) ?_|refine zbk rfl (by first|rfl|assumption) ?_|refine zbl rfl (by first|rfl|assumption) ?_|refine zbm rfl (fun _=>?_) fun _=>?_|refine zbn rfl (fun _=>?_) fun _=>?_)|refine zbo ?_|refine zbp ?_|refine zbq ?_|refine zbr ?_|refine zbs ?_|refine zbt ?_)|(refine zcm ?_;first|refine zae ?_|refine zbw ?_|refine zcc rfl ?_|refine zbu ?_|refine zbv ?_|refine zby ?_|refine zbz rfl ?_|refine zbx ?_|refine zcb ?_|refine zca ?_|refine zcd rfl ?_|refine zce rfl ?_|refine zcf rfl ?_)));exact hid_.g):P:=k ⟨r⟩
theorem qxy {P R:Prop} (r:R) (k:Hid R->P:=by intro hid_;(first|(refine zcg ?_;first|refine zaa rfl ?_|refine zav rfl (by repeat (first|assumption|exact jab _|refine Eq.trans (jaa (by first|assumption|omega)) ?_|exact jad _|refine Eq.trans (jac (by first|assumption|omega|(simp only [H.nx_set,H.nx_new,H.nx_kill];omega))) ?_)) (by first|assumption|rfl) ?_|refine zaw rfl (by assumption) ?_|refine zad (by repeat (first|(apply Kept.cons;exact rfl)|apply Kept.nil|(apply Kept.miss;exact rfl))) ?_|(refine zch ?_;first|refine zcv rfl ?_|refine zaz rfl (by first|assumption|omega|exact fun h=>h rfl) ?_|refine zba rfl (by first|assumption|omega|exact fun h=>h rfl) ?_|refine zbb rfl (by first|assumption|omega|exact fun h=>h rfl) ?_|refine zbc rfl (by first|assumption|omega|exact fun h=>h rfl) ?_|refine zbd rfl (by first|rfl|assumption) ?_|refine zbe rfl (by first|rfl|assumption) ?_)|(refine zci ?_;first|refine zaf rfl rfl ?_|refine zag rfl rfl ?_|refine zah rfl rfl ?_|refine zal rfl rfl ⟨by omega,by omega⟩ ?_|refine zai rfl rfl ?_|refine zaj rfl rfl ?_|refine zak rfl rfl ?_|refine zam rfl rfl ⟨by omega,by omega⟩ ?_|refine zcp rfl rfl ⟨by omega,by omega⟩ ?_|refine zcq rfl rfl ⟨by omega,by omega⟩ ?_|refine zau rfl rfl ?_)|(refine zcj ?_;first|refine zap rfl ?_|refine zaq rfl (by first|assumption|omega|exact fun h=>h rfl) rfl ?_|refine zar rfl (by first|assumption|omega|exact fun h=>h rfl) rfl ?_|refine zas rfl (by first|rfl|assumption) rfl ?_|refine zat rfl (by first|rfl|assumption) rfl ?_|refine zau rfl rfl ?_)|refine zan rfl ?_|refine zao rfl ?_|refine zcn rfl rfl ?_|refine zco rfl rfl ?_|refine zcr rfl rfl ?_|refine zau rfl rfl ?_|refine zax rfl rfl (by omega) ?_|refine zay rfl rfl (by omega) ?_)|(refine zck ?_;first|refine zab ?_|refine zac ?_|(refine zcl ?_;first|refine zbi rfl (by first|assumption|omega|exact fun h=>h rfl) ?_|refine zbj rfl (by first|assumption|omega|exact fun h=>h rfl) ?_|refine zbk rfl (by first|rfl|assumption) ?_|refine zbl rfl (by first|rfl|assumption) ?_)|refine zbo ?_|refine zbp ?_|refine zbq ?_|refine zbr ?_|refine zbs ?_|refine zbt ?_)|(refine zcm ?_;first|refine zae ?_|refine zbw ?_|refine zcc rfl ?_|refine zbu ?_|refine zbv ?_|refine zby ?_|refine zbz rfl ?_|refine zbx ?_|refine zcb ?_|refine zca ?_|refine zcd rfl ?_|refine zce rfl ?_|refine zcf rfl ?_));(repeat' (first|(refine zcg ?_;first|refine zaa rfl ?_|refine zav rfl (by repeat (first|assumption|exact jab _|refine Eq.trans (jaa (by first|assumption|omega)) ?_|exact jad _|refine Eq.trans (jac (by first|assumption|omega|(simp only [H.nx_set,H.nx_new,H.nx_kill];omega))) ?_)) (by first|assumption|rfl) ?_|refine zaw rfl (by assumption) ?_|refine zad (by repeat (first|(apply Kept.cons;exact rfl)|apply Kept.nil|(apply Kept.miss;exact rfl))) ?_|(refine zch ?_;first|refine zcv rfl ?_|refine zaz rfl (by first|assumption|omega|exact fun h=>h rfl) ?_|refine zba rfl (by first|assumption|omega|exact fun h=>h rfl) ?_|refine zbb rfl (by first|assumption|omega|exact fun h=>h rfl) ?_|refine zbc rfl (by first|assumption|omega|exact fun h=>h rfl) ?_|refine zbd rfl (by first|rfl|assumption) ?_|refine zbe rfl (by first|rfl|assumption) ?_)|(refine zci ?_;first|refine zaf rfl rfl ?_|refine zag rfl rfl ?_|refine zah rfl rfl ?_|refine zal rfl rfl ⟨by omega,by omega⟩ ?_|refine zai rfl rfl ?_|refine zaj rfl rfl ?_|refine zak rfl rfl ?_|refine zam rfl rfl ⟨by omega,by omega⟩ ?_|refine zcp rfl rfl ⟨by omega,by omega⟩ ?_|refine zcq rfl rfl ⟨by omega,by omega⟩ ?_|refine zau rfl rfl ?_)|(refine zcj ?_;first|refine zap rfl ?_|refine zaq rfl (by first|assumption|omega|exact fun h=>h rfl) rfl ?_|refine zar rfl (by first|assumption|omega|exact fun h=>h rfl) rfl ?_|refine zas rfl (by first|rfl|assumption) rfl ?_|refine zat rfl (by first|rfl|assumption) rfl ?_|refine zau rfl rfl ?_)|refine zan rfl ?_|refine zao rfl ?_|refine zcn rfl rfl ?_|refine zco rfl rfl ?_|refine zcr rfl rfl ?_|refine zau rfl rfl ?_|refine zax rfl rfl (by omega) ?_|refine zay rfl rfl (by omega) ?_)|(refine zck ?_;first|refine zab ?_|refine zac ?_|(refine zcl ?_;first|refine zbi rfl (by first|assumption|omega|exact fun h=>h rfl) ?_|refine zbj rfl (by first|assumption|omega|exact fun h=>h rfl) ?_|refine zbk rfl (by first|rfl|assumption) ?_|refine zbl rfl (by first|rfl|assumption) ?_)|refine zbo ?_|refine zbp ?_|refine zbq ?_|refine zbr ?_|refine zbs ?_|refine zbt ?_)|(refine zcm ?_;first|refine zae ?_|refine zbw ?_|refine zcc rfl ?_|refine zbu ?_|refine zbv ?_|refine zby ?_|refine zbz rfl ?_|refine zbx ?_|refine zcb ?_|refine zca ?_|refine zcd rfl ?_|refine zce rfl ?_|refine zcf rfl ?_)));exact hid_.g):P:=k ⟨r⟩
theorem qs1 {P R:Prop} (r:R) (k:Hid R->P:=by intro hid_;(repeat' (first|(refine zcg ?_;first|refine zaa rfl ?_|refine zav rfl (by repeat (first|assumption|exact jab _|refine Eq.trans (jaa (by first|assumption|omega)) ?_|exact jad _|refine Eq.trans (jac (by first|assumption|omega|(simp only [H.nx_set,H.nx_new,H.nx_kill];omega))) ?_)) (by first|assumption|rfl) ?_|refine zaw rfl (by assumption) ?_|refine zcs rfl rfl rfl (by repeat (first|assumption|exact jab _|refine Eq.trans (jaa (by first|assumption|omega)) ?_|exact jad _|refine Eq.trans (jac (by first|assumption|omega|(simp only [H.nx_set,H.nx_new,H.nx_kill];omega))) ?_)) (Nat.le_of_ble_eq_true rfl) ?_|refine zad (by repeat (first|(apply Kept.cons;exact rfl)|apply Kept.nil|(apply Kept.miss;exact rfl))) ?_|(refine zch ?_;first|refine zcv rfl ?_|refine zaz rfl (by first|assumption|omega|exact fun h=>h rfl) ?_|refine zba rfl (by first|assumption|omega|exact fun h=>h rfl) ?_|refine zbb rfl (by first|assumption|omega|exact fun h=>h rfl) ?_|refine zbc rfl (by first|assumption|omega|exact fun h=>h rfl) ?_|refine zbd rfl (by first|rfl|assumption) ?_|refine zbe rfl (by first|rfl|assumption) ?_|refine zbf rfl (fun _=>?_) fun _=>?_|refine zbg rfl (fun _=>?_) fun _=>?_|refine zbh rfl (fun _=>?_) fun _=>?_)|(refine zci ?_;first|refine zaf rfl rfl ?_|refine zag rfl rfl ?_|refine zah rfl rfl ?_|refine zal rfl rfl ⟨by omega,by omega⟩ ?_|refine zai rfl rfl ?_|refine zaj rfl rfl ?_|refine zak rfl rfl ?_|refine zam rfl rfl ⟨by omega,by omega⟩ ?_|refine zcp rfl rfl ⟨by omega,by omega⟩ ?_|refine zcq rfl rfl ⟨by omega,by omega⟩ ?_|refine zau rfl rfl ?_)|(refine zcj ?_;first|refine zap rfl ?_|refine zaq rfl (by first|assumption|omega|exact fun h=>h rfl) rfl ?_|refine zar rfl (by first|assumption|omega|exact fun h=>h rfl) rfl ?_|refine zas rfl (by first|rfl|assumption) rfl ?_|refine zat rfl (by first|rfl|assumption) rfl ?_|refine zau rfl rfl ?_)|refine zan rfl ?_|refine zao rfl ?_|refine zcn rfl rfl ?_|refine zco rfl rfl ?_|refine zcr rfl rfl ?_|refine zau rfl rfl ?_|refine zax rfl rfl (by omega) ?_|refine zay rfl rfl (by omega) ?_)|(refine zck ?_;first|refine zab ?_|refine zac ?_|(refine zcl ?_;first|refine zbi rfl (by first|assumption|omega|exact fun h=>h rfl) ?_|refine zbj rfl (by first|assumption|omega|exact fun h=>h rfl) ?_|refine zbk rfl (by first|rfl|assumption) ?_|refine zbl rfl (by first|rfl|assumption) ?_|refine zbm rfl (fun _=>?_) fun _=>?_|refine zbn rfl (fun _=>?_) fun _=>?_)|refine zbo ?_|refine zbp ?_|refine zbq ?_|refine zbr ?_|refine zbs ?_|refine zbt ?_)|(refine zcm ?_;first|refine zae ?_|refine zbw ?_|refine zcc rfl ?_|refine zbu ?_|refine zbv ?_|refine zby ?_|refine zbz rfl ?_|refine zbx ?_|refine zcb ?_|refine zca ?_|refine zcd rfl ?_|refine zce rfl ?_|refine zcf rfl ?_)));exact hid_.g):P:=k ⟨r⟩
theorem qsy {P R:Prop} (r:R) (k:Hid R->P:=by intro hid_;(first|(refine zcg ?_;first|refine zaa rfl ?_|refine zav rfl (by repeat (first|assumption|exact jab _|refine Eq.trans (jaa (by first|assumption|omega)) ?_|exact jad _|refine Eq.trans (jac (by first|assumption|omega|(simp only [H.nx_set,H.nx_new,H.nx_kill];omega))) ?_)) (by first|assumption|rfl) ?_|refine zaw rfl (by assumption) ?_|refine zcs rfl rfl rfl (by repeat (first|assumption|exact jab _|refine Eq.trans (jaa (by first|assumption|omega)) ?_|exact jad _|refine Eq.trans (jac (by first|assumption|omega|(simp only [H.nx_set,H.nx_new,H.nx_kill];omega))) ?_)) (Nat.le_of_ble_eq_true rfl) ?_|refine zad (by repeat (first|(apply Kept.cons;exact rfl)|apply Kept.nil|(apply Kept.miss;exact rfl))) ?_|(refine zch ?_;first|refine zcv rfl ?_|refine zaz rfl (by first|assumption|omega|exact fun h=>h rfl) ?_|refine zba rfl (by first|assumption|omega|exact fun h=>h rfl) ?_|refine zbb rfl (by first|assumption|omega|exact fun h=>h rfl) ?_|refine zbc rfl (by first|assumption|omega|exact fun h=>h rfl) ?_|refine zbd rfl (by first|rfl|assumption) ?_|refine zbe rfl (by first|rfl|assumption) ?_)|(refine zci ?_;first|refine zaf rfl rfl ?_|refine zag rfl rfl ?_|refine zah rfl rfl ?_|refine zal rfl rfl ⟨by omega,by omega⟩ ?_|refine zai rfl rfl ?_|refine zaj rfl rfl ?_|refine zak rfl rfl ?_|refine zam rfl rfl ⟨by omega,by omega⟩ ?_|refine zcp rfl rfl ⟨by omega,by omega⟩ ?_|refine zcq rfl rfl ⟨by omega,by omega⟩ ?_|refine zau rfl rfl ?_)|(refine zcj ?_;first|refine zap rfl ?_|refine zaq rfl (by first|assumption|omega|exact fun h=>h rfl) rfl ?_|refine zar rfl (by first|assumption|omega|exact fun h=>h rfl) rfl ?_|refine zas rfl (by first|rfl|assumption) rfl ?_|refine zat rfl (by first|rfl|assumption) rfl ?_|refine zau rfl rfl ?_)|refine zan rfl ?_|refine zao rfl ?_|refine zcn rfl rfl ?_|refine zco rfl rfl ?_|refine zcr rfl rfl ?_|refine zau rfl rfl ?_|refine zax rfl rfl (by omega) ?_|refine zay rfl rfl (by omega) ?_)|(refine zck ?_;first|refine zab ?_|refine zac ?_|(refine zcl ?_;first|refine zbi rfl (by first|assumption|omega|exact fun h=>h rfl) ?_|refine zbj rfl (by first|assumption|omega|exact fun h=>h rfl) ?_|refine zbk rfl (by first|rfl|assumption) ?_|refine zbl rfl (by first|rfl|assumption) ?_)|refine zbo ?_|refine zbp ?_|refine zbq ?_|refine zbr ?_|refine zbs ?_|refine zbt ?_)|(refine zcm ?_;first|refine zae ?_|refine zbw ?_|refine zcc rfl ?_|refine zbu ?_|refine zbv ?_|refine zby ?_|refine zbz rfl ?_|refine zbx ?_|refine zcb ?_|refine zca ?_|refine zcd rfl ?_|refine zce rfl ?_|refine zcf rfl ?_));(repeat' (first|(refine zcg ?_;first|refine zaa rfl ?_|refine zav rfl (by repeat (first|assumption|exact jab _|refine Eq.trans (jaa (by first|assumption|omega)) ?_|exact jad _|refine Eq.trans (jac (by first|assumption|omega|(simp only [H.nx_set,H.nx_new,H.nx_kill];omega))) ?_)) (by first|assumption|rfl) ?_|refine zaw rfl (by assumption) ?_|refine zcs rfl rfl rfl (by repeat (first|assumption|exact jab _|refine Eq.trans (jaa (by first|assumption|omega)) ?_|exact jad _|refine Eq.trans (jac (by first|assumption|omega|(simp only [H.nx_set,H.nx_new,H.nx_kill];omega))) ?_)) (Nat.le_of_ble_eq_true rfl) ?_|refine zad (by repeat (first|(apply Kept.cons;exact rfl)|apply Kept.nil|(apply Kept.miss;exact rfl))) ?_|(refine zch ?_;first|refine zcv rfl ?_|refine zaz rfl (by first|assumption|omega|exact fun h=>h rfl) ?_|refine zba rfl (by first|assumption|omega|exact fun h=>h rfl) ?_|refine zbb rfl (by first|assumption|omega|exact fun h=>h rfl) ?_|refine zbc rfl (by first|assumption|omega|exact fun h=>h rfl) ?_|refine zbd rfl (by first|rfl|assumption) ?_|refine zbe rfl (by first|rfl|assumption) ?_)|(refine zci ?_;first|refine zaf rfl rfl ?_|refine zag rfl rfl ?_|refine zah rfl rfl ?_|refine zal rfl rfl ⟨by omega,by omega⟩ ?_|refine zai rfl rfl ?_|refine zaj rfl rfl ?_|refine zak rfl rfl ?_|refine zam rfl rfl ⟨by omega,by omega⟩ ?_|refine zcp rfl rfl ⟨by omega,by omega⟩ ?_|refine zcq rfl rfl ⟨by omega,by omega⟩ ?_|refine zau rfl rfl ?_)|(refine zcj ?_;first|refine zap rfl ?_|refine zaq rfl (by first|assumption|omega|exact fun h=>h rfl) rfl ?_|refine zar rfl (by first|assumption|omega|exact fun h=>h rfl) rfl ?_|refine zas rfl (by first|rfl|assumption) rfl ?_|refine zat rfl (by first|rfl|assumption) rfl ?_|refine zau rfl rfl ?_)|refine zan rfl ?_|refine zao rfl ?_|refine zcn rfl rfl ?_|refine zco rfl rfl ?_|refine zcr rfl rfl ?_|refine zau rfl rfl ?_|refine zax rfl rfl (by omega) ?_|refine zay rfl rfl (by omega) ?_)|(refine zck ?_;first|refine zab ?_|refine zac ?_|(refine zcl ?_;first|refine zbi rfl (by first|assumption|omega|exact fun h=>h rfl) ?_|refine zbj rfl (by first|assumption|omega|exact fun h=>h rfl) ?_|refine zbk rfl (by first|rfl|assumption) ?_|refine zbl rfl (by first|rfl|assumption) ?_)|refine zbo ?_|refine zbp ?_|refine zbq ?_|refine zbr ?_|refine zbs ?_|refine zbt ?_)|(refine zcm ?_;first|refine zae ?_|refine zbw ?_|refine zcc rfl ?_|refine zbu ?_|refine zbv ?_|refine zby ?_|refine zbz rfl ?_|refine zbx ?_|refine zcb ?_|refine zca ?_|refine zcd rfl ?_|refine zce rfl ?_|refine zcf rfl ?_)));exact hid_.g):P:=k ⟨r⟩
theorem qm1 {P R:Prop} (r:R) (k:Hid R->P:=by intro hid_;(repeat' (first|(refine zcg ?_;first|refine zaa rfl ?_|refine zav rfl (by repeat (first|assumption|exact jab _|refine Eq.trans (jaa (by first|assumption|omega)) ?_|exact jad _|refine Eq.trans (jac (by first|assumption|omega|(simp only [H.nx_set,H.nx_new,H.nx_kill];omega))) ?_)) (by first|assumption|rfl) ?_|refine zaw rfl (by assumption) ?_|refine zcs rfl rfl rfl (by repeat (first|assumption|exact jab _|refine Eq.trans (jaa (by first|assumption|omega)) ?_|exact jad _|refine Eq.trans (jac (by first|assumption|omega|(simp only [H.nx_set,H.nx_new,H.nx_kill];omega))) ?_)) (Nat.le_of_ble_eq_true rfl) ?_|refine zct rfl rfl rfl rfl (by repeat (first|assumption|exact jab _|refine Eq.trans (jaa (by first|assumption|omega)) ?_|exact jad _|refine Eq.trans (jac (by first|assumption|omega|(simp only [H.nx_set,H.nx_new,H.nx_kill];omega))) ?_)) (Nat.le_of_ble_eq_true rfl) ?_|refine zcw rfl (by repeat (first|assumption|exact jab _|refine Eq.trans (jaa (by first|assumption|omega)) ?_|exact jad _|refine Eq.trans (jac (by first|assumption|omega|(simp only [H.nx_set,H.nx_new,H.nx_kill];omega))) ?_)) (Nat.le_of_ble_eq_true rfl) ?_|refine zad (by repeat (first|(apply Kept.cons;exact rfl)|apply Kept.nil|(apply Kept.miss;exact rfl))) ?_|(refine zch ?_;first|refine zcv rfl ?_|refine zaz rfl (by first|assumption|omega|exact fun h=>h rfl) ?_|refine zba rfl (by first|assumption|omega|exact fun h=>h rfl) ?_|refine zbb rfl (by first|assumption|omega|exact fun h=>h rfl) ?_|refine zbc rfl (by first|assumption|omega|exact fun h=>h rfl) ?_|refine zbd rfl (by first|rfl|assumption) ?_|refine zbe rfl (by first|rfl|assumption) ?_|refine zbf rfl (fun _=>?_) fun _=>?_|refine zbg rfl (fun _=>?_) fun _=>?_|refine zbh rfl (fun _=>?_) fun _=>?_)|(refine zci ?_;first|refine zaf rfl rfl ?_|refine zag rfl rfl ?_|refine zah rfl rfl ?_|refine zal rfl rfl ⟨by omega,by omega⟩ ?_|refine zai rfl rfl ?_|refine zaj rfl rfl ?_|refine zak rfl rfl ?_|refine zam rfl rfl ⟨by omega,by omega⟩ ?_|refine zcp rfl rfl ⟨by omega,by omega⟩ ?_|refine zcq rfl rfl ⟨by omega,by omega⟩ ?_|refine zau rfl rfl ?_)|(refine zcj ?_;first|refine zap rfl ?_|refine zaq rfl (by first|assumption|omega|exact fun h=>h rfl) rfl ?_|refine zar rfl (by first|assumption|omega|exact fun h=>h rfl) rfl ?_|refine zas rfl (by first|rfl|assumption) rfl ?_|refine zat rfl (by first|rfl|assumption) rfl ?_|refine zau rfl rfl ?_)|refine zan rfl ?_|refine zao rfl ?_|refine zcn rfl rfl ?_|refine zco rfl rfl ?_|refine zcr rfl rfl ?_|refine zau rfl rfl ?_|refine zax rfl rfl (by omega) ?_|refine zay rfl rfl (by omega) ?_|refine zcu rfl rfl ?_)|(refine zck ?_;first|refine zab ?_|refine zac ?_|(refine zcl ?_;first|refine zbi rfl (by first|assumption|omega|exact fun h=>h rfl) ?_|refine zbj rfl (by first|assumption|omega|exact fun h=>h rfl) ?_|refine zbk rfl (by first|rfl|assumption) ?_|refine zbl rfl (by first|rfl|assumption) ?_|refine zbm rfl (fun _=>?_) fun _=>?_|refine zbn rfl (fun _=>?_) fun _=>?_)|refine zbo ?_|refine zbp ?_|refine zbq ?_|refine zbr ?_|refine zbs ?_|refine zbt ?_)|(refine zcm ?_;first|refine zae ?_|refine zbw ?_|refine zcc rfl ?_|refine zbu ?_|refine zbv ?_|refine zby ?_|refine zbz rfl ?_|refine zbx ?_|refine zcb ?_|refine zca ?_|refine zcd rfl ?_|refine zce rfl ?_|refine zcf rfl ?_)));exact hid_.g):P:=k ⟨r⟩
theorem qmy {P R:Prop} (r:R) (k:Hid R->P:=by intro hid_;(first|(refine zcg ?_;first|refine zaa rfl ?_|refine zav rfl (by repeat (first|assumption|exact jab _|refine Eq.trans (jaa (by first|assumption|omega)) ?_|exact jad _|refine Eq.trans (jac (by first|assumption|omega|(simp only [H.nx_set,H.nx_new,H.nx_kill];omega))) ?_)) (by first|assumption|rfl) ?_|refine zaw rfl (by assumption) ?_|refine zcs rfl rfl rfl (by repeat (first|assumption|exact jab _|refine Eq.trans (jaa (by first|assumption|omega)) ?_|exact jad _|refine Eq.trans (jac (by first|assumption|omega|(simp only [H.nx_set,H.nx_new,H.nx_kill];omega))) ?_)) (Nat.le_of_ble_eq_true rfl) ?_|refine zct rfl rfl rfl rfl (by repeat (first|assumption|exact jab _|refine Eq.trans (jaa (by first|assumption|omega)) ?_|exact jad _|refine Eq.trans (jac (by first|assumption|omega|(simp only [H.nx_set,H.nx_new,H.nx_kill];omega))) ?_)) (Nat.le_of_ble_eq_true rfl) ?_|refine zcw rfl (by repeat (first|assumption|exact jab _|refine Eq.trans (jaa (by first|assumption|omega)) ?_|exact jad _|refine Eq.trans (jac (by first|assumption|omega|(simp only [H.nx_set,H.nx_new,H.nx_kill];omega))) ?_)) (Nat.le_of_ble_eq_true rfl) ?_|refine zad (by repeat (first|(apply Kept.cons;exact rfl)|apply Kept.nil|(apply Kept.miss;exact rfl))) ?_|(refine zch ?_;first|refine zcv rfl ?_|refine zaz rfl (by first|assumption|omega|exact fun h=>h rfl) ?_|refine zba rfl (by first|assumption|omega|exact fun h=>h rfl) ?_|refine zbb rfl (by first|assumption|omega|exact fun h=>h rfl) ?_|refine zbc rfl (by first|assumption|omega|exact fun h=>h rfl) ?_|refine zbd rfl (by first|rfl|assumption) ?_|refine zbe rfl (by first|rfl|assumption) ?_)|(refine zci ?_;first|refine zaf rfl rfl ?_|refine zag rfl rfl ?_|refine zah rfl rfl ?_|refine zal rfl rfl ⟨by omega,by omega⟩ ?_|refine zai rfl rfl ?_|refine zaj rfl rfl ?_|refine zak rfl rfl ?_|refine zam rfl rfl ⟨by omega,by omega⟩ ?_|refine zcp rfl rfl ⟨by omega,by omega⟩ ?_|refine zcq rfl rfl ⟨by omega,by omega⟩ ?_|refine zau rfl rfl ?_)|(refine zcj ?_;first|refine zap rfl ?_|refine zaq rfl (by first|assumption|omega|exact fun h=>h rfl) rfl ?_|refine zar rfl (by first|assumption|omega|exact fun h=>h rfl) rfl ?_|refine zas rfl (by first|rfl|assumption) rfl ?_|refine zat rfl (by first|rfl|assumption) rfl ?_|refine zau rfl rfl ?_)|refine zan rfl ?_|refine zao rfl ?_|refine zcn rfl rfl ?_|refine zco rfl rfl ?_|refine zcr rfl rfl ?_|refine zau rfl rfl ?_|refine zax rfl rfl (by omega) ?_|refine zay rfl rfl (by omega) ?_|refine zcu rfl rfl ?_)|(refine zck ?_;first|refine zab ?_|refine zac ?_|(refine zcl ?_;first|refine zbi rfl (by first|assumption|omega|exact fun h=>h rfl) ?_|refine zbj rfl (by first|assumption|omega|exact fun h=>h rfl) ?_|refine zbk rfl (by first|rfl|assumption) ?_|refine zbl rfl (by first|rfl|assumption) ?_)|refine zbo ?_|refine zbp ?_|refine zbq ?_|refine zbr ?_|refine zbs ?_|refine zbt ?_)|(refine zcm ?_;first|refine zae ?_|refine zbw ?_|refine zcc rfl ?_|refine zbu ?_|refine zbv ?_|refine zby ?_|refine zbz rfl ?_|refine zbx ?_|refine zcb ?_|refine zca ?_|refine zcd rfl ?_|refine zce rfl ?_|refine zcf rfl ?_));(repeat' (first|(refine zcg ?_;first|refine zaa rfl ?_|refine zav rfl (by repeat (first|assumption|exact jab _|refine Eq.trans (jaa (by first|assumption|omega)) ?_|exact jad _|refine Eq.trans (jac (by first|assumption|omega|(simp only [H.nx_set,H.nx_new,H.nx_kill];omega))) ?_)) (by first|assumption|rfl) ?_|refine zaw rfl (by assumption) ?_|refine zcs rfl rfl rfl (by repeat (first|assumption|exact jab _|refine Eq.trans (jaa (by first|assumption|omega)) ?_|exact jad _|refine Eq.trans (jac (by first|assumption|omega|(simp only [H.nx_set,H.nx_new,H.nx_kill];omega))) ?_)) (Nat.le_of_ble_eq_true rfl) ?_|refine zct rfl rfl rfl rfl (by repeat (first|assumption|exact jab _|refine Eq.trans (jaa (by first|assumption|omega)) ?_|exact jad _|refine Eq.trans (jac (by first|assumption|omega|(simp only [H.nx_set,H.nx_new,H.nx_kill];omega))) ?_)) (Nat.le_of_ble_eq_true rfl) ?_|refine zcw rfl (by repeat (first|assumption|exact jab _|refine Eq.trans (jaa (by first|assumption|omega)) ?_|exact jad _|refine Eq.trans (jac (by first|assumption|omega|(simp only [H.nx_set,H.nx_new,H.nx_kill];omega))) ?_)) (Nat.le_of_ble_eq_true rfl) ?_|refine zad (by repeat (first|(apply Kept.cons;exact rfl)|apply Kept.nil|(apply Kept.miss;exact rfl))) ?_|(refine zch ?_;first|refine zcv rfl ?_|refine zaz rfl (by first|assumption|omega|exact fun h=>h rfl) ?_|refine zba rfl (by first|assumption|omega|exact fun h=>h rfl) ?_|refine zbb rfl (by first|assumption|omega|exact fun h=>h rfl) ?_|refine zbc rfl (by first|assumption|omega|exact fun h=>h rfl) ?_|refine zbd rfl (by first|rfl|assumption) ?_|refine zbe rfl (by first|rfl|assumption) ?_)|(refine zci ?_;first|refine zaf rfl rfl ?_|refine zag rfl rfl ?_|refine zah rfl rfl ?_|refine zal rfl rfl ⟨by omega,by omega⟩ ?_|refine zai rfl rfl ?_|refine zaj rfl rfl ?_|refine zak rfl rfl ?_|refine zam rfl rfl ⟨by omega,by omega⟩ ?_|refine zcp rfl rfl ⟨by omega,by omega⟩ ?_|refine zcq rfl rfl ⟨by omega,by omega⟩ ?_|refine zau rfl rfl ?_)|(refine zcj ?_;first|refine zap rfl ?_|refine zaq rfl (by first|assumption|omega|exact fun h=>h rfl) rfl ?_|refine zar rfl (by first|assumption|omega|exact fun h=>h rfl) rfl ?_|refine zas rfl (by first|rfl|assumption) rfl ?_|refine zat rfl (by first|rfl|assumption) rfl ?_|refine zau rfl rfl ?_)|refine zan rfl ?_|refine zao rfl ?_|refine zcn rfl rfl ?_|refine zco rfl rfl ?_|refine zcr rfl rfl ?_|refine zau rfl rfl ?_|refine zax rfl rfl (by omega) ?_|refine zay rfl rfl (by omega) ?_|refine zcu rfl rfl ?_)|(refine zck ?_;first|refine zab ?_|refine zac ?_|(refine zcl ?_;first|refine zbi rfl (by first|assumption|omega|exact fun h=>h rfl) ?_|refine zbj rfl (by first|assumption|omega|exact fun h=>h rfl) ?_|refine zbk rfl (by first|rfl|assumption) ?_|refine zbl rfl (by first|rfl|assumption) ?_)|refine zbo ?_|refine zbp ?_|refine zbq ?_|refine zbr ?_|refine zbs ?_|refine zbt ?_)|(refine zcm ?_;first|refine zae ?_|refine zbw ?_|refine zcc rfl ?_|refine zbu ?_|refine zbv ?_|refine zby ?_|refine zbz rfl ?_|refine zbx ?_|refine zcb ?_|refine zca ?_|refine zcd rfl ?_|refine zce rfl ?_|refine zcf rfl ?_)));exact hid_.g):P:=k ⟨r⟩
theorem qz1 {P R:Prop} (r:R) (k:Hid R->P:=by intro hid_;(repeat' (first|(refine zcg ?_;first|refine zaa rfl ?_|(refine tagLd ?_;first|refine Ops.loadK rfl (by assumption) (by assumption) (by first|rfl|assumption) ?_|refine zav rfl (by repeat (first|assumption|apply jab|refine Eq.trans (jaa (by first|assumption|omega)) ?_|apply jad|refine Eq.trans (jac (by first|assumption|omega|(simp only [H.nx_set,H.nx_new,H.nx_kill];omega))) ?_)) (by first|assumption|rfl) ?_)|(refine tagLn ?_;refine Ops.loadS rfl (by assumption) (by assumption) ?_)|(refine tagCl ?_;first|refine zaw rfl (by assumption) ?_|refine Ops.callf_chk rfl (by assumption) (by repeat (first|apply jb9|refine chk_set rfl (by assumption) (by assumption) rfl ?_|refine chk_1 rfl (by assumption) (by assumption) rfl rfl ?_)) ?_)|(refine tagNil ?_;refine zad (by repeat (first|(apply Kept.cons;exact rfl)|apply Kept.nil|(apply Kept.miss;exact rfl))) ?_)|(refine zch ?_;first|refine zcv rfl ?_|refine zaz rfl (by first|assumption|omega|exact fun h=>h rfl) ?_|refine zba rfl (by first|assumption|omega|exact fun h=>h rfl) ?_|refine zbb rfl (by first|assumption|omega|exact fun h=>h rfl) ?_|refine zbc rfl (by first|assumption|omega|exact fun h=>h rfl) ?_|refine zbd rfl (by first|rfl|assumption) ?_|refine zbe rfl (by first|rfl|assumption) ?_|refine zbf rfl (fun _=>?_) fun _=>?_|refine zbg rfl (fun _=>?_) fun _=>?_|refine zbh rfl (fun _=>?_) fun _=>?_)|(refine zci ?_;first|refine zaf rfl rfl ?_|refine zag rfl rfl ?_|refine zah rfl rfl ?_|refine zal rfl rfl ⟨by omega,by omega⟩ ?_|refine zai rfl rfl ?_|refine zaj rfl rfl ?_|refine zak rfl rfl ?_|refine zam rfl rfl ⟨by omega,by omega⟩ ?_|refine zcp rfl rfl ⟨by omega,by omega⟩ ?_|refine zcq rfl rfl ⟨by omega,by omega⟩ ?_|refine zau rfl rfl ?_)|(refine zcj ?_;first|refine zap rfl ?_|refine zaq rfl (by first|assumption|omega|exact fun h=>h rfl) rfl ?_|refine zar rfl (by first|assumption|omega|exact fun h=>h rfl) rfl ?_|refine zas rfl (by first|rfl|assumption) rfl ?_|refine zat rfl (by first|rfl|assumption) rfl ?_|refine zau rfl rfl ?_)|refine zan rfl ?_|refine zao rfl ?_|(refine tagEq ?_;first|refine zcn rfl rfl ?_|refine zco rfl rfl ?_|refine Ops.eqS rfl rfl (by assumption) ?_)|(refine tagIa ?_;refine zax rfl rfl (by omega) ?_)|(refine tagIs ?_;refine zay rfl rfl (by omega) ?_)|refine zcr rfl rfl ?_|refine zau rfl rfl ?_)|(refine zck ?_;first|refine zab ?_|refine zac ?_|(refine zcl ?_;first|refine zbi rfl (by first|assumption|omega|exact fun h=>h rfl) ?_|refine zbj rfl (by first|assumption|omega|exact fun h=>h rfl) ?_|refine zbk rfl (by first|rfl|assumption) ?_|refine zbl rfl (by first|rfl|assumption) ?_|refine zbm rfl (fun _=>?_) fun _=>?_|refine zbn rfl (fun _=>?_) fun _=>?_)|refine zbo ?_|refine zbp ?_|refine zbq ?_|refine zbr ?_|refine zbs ?_|refine zbt ?_)|(refine zcm ?_;first|refine zae ?_|refine zbw ?_|refine zcc rfl ?_|refine zbu ?_|refine zbv ?_|refine zby ?_|refine zbz rfl ?_|refine zbx ?_|refine zcb ?_|refine zca ?_|refine zcd rfl ?_|refine zce rfl ?_|refine zcf rfl ?_)));exact hid_.g):P:=k ⟨r⟩
theorem qgt {P:Prop} (k:P:=by simp only [H.get_set,H.get_new,H.get_kill,H.nx_set,H.nx_new,H.nx_kill];(repeat (first | rw [if_pos trivial] | rw [if_pos (by omega)] | rw [if_neg (by omega)]))<;>first | assumption | rfl):P:=k
theorem qkp {P:Prop} (k:P:=by repeat (first|(apply Kept.cons;exact rfl)|apply Kept.nil|(apply Kept.miss;exact rfl))):P:=k
end Am
namespace Am
open Go
def Row (N:Nat) (h:H) (sz:Nat) (v:V) (n:Nat) (cs:List V):Prop :=
 (n=0/\cs=[]/\v = .nils) \/ ∃ q,N<=q/\q<h.nx/\v = .slice (some (q,0)) n (.grow sz)/\h.get q=some (.cells cs false)/\cs.length=n*sz
theorem Row.nil (N:Nat) (h:H) (sz:Nat):Row N h sz .nils 0 [] := .inl ⟨rfl,rfl,rfl⟩
def V.at?:V->Option Nat
 | .slice (some a) _ _=>some a.1
 | _=>none
theorem Row.keep {N sz n:Nat} {h h':H} {v:V} {cs:List V} (r:Row N h sz v n cs) (hx:h.nx<=h'.nx) (hg : ∀ q,v.at?=some q->h'.get q=h.get q):Row N h' sz v n cs:=by
 rcases r with r | ⟨q,h1,h2,rfl,h4,h5⟩
 ·exact .inl r
 ·exact .inr ⟨q,h1,by omega,rfl,by rw [hg q rfl,h4],h5⟩
theorem Row.at_ge {N sz n:Nat} {h:H} {v:V} {cs:List V} (r:Row N h sz v n cs) {q:Nat} (hq:v.at?=some q):N<=q/\q<h.nx:=by
 rcases r with ⟨_,_,rfl⟩ | ⟨q',h1,h2,rfl,h4,h5⟩
 ·cases hq
 ·cases hq;exact ⟨h1,h2⟩
theorem Row.weaken {N N' sz n:Nat} {h:H} {v:V} {cs:List V} (hN:N'<=N) (r:Row N h sz v n cs):Row N' h sz v n cs:=by
 rcases r with r | ⟨q,h1,h2⟩
 ·exact .inl r
 ·exact .inr ⟨q,by omega,h2⟩
theorem Row.shape {N sz n:Nat} {h:H} {v:V} {cs:List V} (r:Row N h sz v n cs) :
  ∃ cap:Cap,(∃ a,v = .slice a n cap) /\ ∀ i,i<n -> ∃ q,N<=q/\q<h.nx/\v = .slice (some (q,0)) n cap/\h.get q=some (.cells cs false):=by
 rcases r with ⟨rfl,_,rfl⟩ | ⟨q,e1,e2,rfl,e4,_⟩
 ·exact ⟨.fix 0,⟨none,rfl⟩,fun i hi=>by omega⟩
 ·exact ⟨.grow sz,⟨_,rfl⟩,fun i _=>⟨q,e1,e2,rfl,e4⟩⟩
theorem jeC {N sz bytes n q':Nat} {h:H} {v:V} {cs new:List V} {cap:Cap} (r:Row N h sz v n cs) (hN:N<=h.nx) (hq:h.get q'=some (.cells new false)) (hl:new.length=sz) (h1:new.all V.one=true) (hz:1<=sz)
  (hb:(n+1)*bytes<=2 ^ 46) (hn:n+1<=2 ^ 46) (hne:v.at?≠some q') :
  ∃ v' h',jbf h sz bytes v (.slice (some (q',0)) 1 cap)=some (v',h')/\Row N h' sz v' (n+1) (cs++new)/\h.nx<=h'.nx/\v'.at?=some h.nx /\ ∀ j,j<h.nx->v.at?≠some j->h'.get j=h.get j:=by
 have hsrc:ja2 h sz 1 (.slice (some (q',0)) 1 cap)=some new:=by
  have:(1*sz == 0)=false:=by simp;omega
  simp only [ja2,this,cond_false]
  rw [jcP hq om,List.drop_zero,List.take_of_length_le om]
 have hcond:(Nat.ble ((n+1)*bytes) (2 ^ 46)&&Nat.ble (n+1) (2 ^ 46))=true:=by simp only [Bool.and_eq_true,Nat.ble_eq];exact ⟨hb,hn⟩
 have h10:((1:Nat) == 0)=false:=rfl
 rcases r with ⟨rfl,rfl,rfl⟩ | ⟨q,hq1,hq2,rfl,hq4,hq5⟩
 ·refine ⟨.slice (some (h.nx,0)) 1 (.grow sz),h.new (.cells new false),?_,.inr ⟨h.nx,hN,by simp,rfl,by rw [jad];rfl,by simp [hl]⟩,by simp,rfl,fun j hj _=>jac hj⟩
  simp only [jbf,lenOf,hsrc]
  rw [hcond]
  simp only [cond_true,h10,cond_false,newRow]
 ·have hg:(Nat.beq sz sz&&Nat.ble (0+n*sz) cs.length&&new.all V.one)=true:=by
   simp only [Bool.and_eq_true,Nat.ble_eq,h1,and_true]
   exact ⟨Nat.beq_refl _,by omega⟩
  have htk:(cs.drop 0).take (n*sz)=cs:=by rw [List.drop_zero,List.take_of_length_le om]
  refine ⟨.slice (some (h.nx,0)) (n+1) (.grow sz),(h.kill q).new (.cells (cs++new) false),?_,.inr ⟨h.nx,hN,by simp,rfl,?_,?_⟩,by simp,rfl,?_⟩
  ·simp only [jbf,lenOf,hsrc]
   rw [hcond]
   simp only [cond_true,h10,cond_false,hq4]
   rw [hg]
   simp only [cond_true,newRow,htk]
   rfl
  ·exact jad (h:=h.kill q) _
  ·simp [hq5,hl,Nat.add_mul]
  ·intro j hj hv
   have hjq:j≠q:=fun e=>hv (by subst e;rfl)
   rw [jac (by simpa using hj),jaf hjq]
section
variable {call:Call} {fuel base:Nat} {K:List Fr} {e:Env} {h:H} {Q:Post} {i1 i2 d1 d2:Nat} {ops:List Ins} {keep:List Nat}
theorem Ops.push {N sz bytes n:Nat} {x s:Opd} {xv sv:V} {zero cs new:List V} (hx:x.ev e=some xv) (hnew:xv.cells=new) (hl:new.length=sz) (h1:new.all V.one=true) (hz:1<=sz) (hzl:zero.length=sz)
  (hs:s.ev (layv e (some d1) (.slice (some (h.nx,0)) 1 (.fix 1)))=some sv) (r:Row N h sz sv n cs) (hN:N<=h.nx) (hb:(n+1)*bytes<=2 ^ 46) (hn:n+1<=2 ^ 46)
  (k : ∀ v' h',Row N h' sz v' (n+1) (cs++new)->h.nx<=h'.nx->(∀ q,v'.at?=some q->h.nx<=q)->(∀ j,j<h.nx->sv.at?≠some j->h'.get j=h.get j) ->
   Ops call fuel base ops keep K (layv (layv e (some d1) (.slice (some (h.nx,0)) 1 (.fix 1))) (some d2) v') h' Q) :
  Ops call fuel base (⟨i1,some d1,.bslice sz 1 zero [(0,x)],none,none,[]⟩ :: ⟨i2,some d2,.append sz bytes s (.t d1),none,none,[]⟩ :: ops) keep K e h Q:=by
 have hf:jbs zero [(0*sz,sz,xv)]=some new:=by
  have e1:(xv.cells.length == sz&&Nat.ble (0*sz+sz) zero.length)=true:=by simp [hnew,hl,hzl]
  simp only [jbs]
  rw [e1,cond_true,hnew,Nat.zero_mul,jan _ _ om]
 refine Ops.make (ob := .cells new false) (mk:=fun b=>.slice (some (b,0)) 1 (.fix 1)) rfl ?_ ?_
 ·simp only [I.make,jbO,List.map,hx,hf]
 ·have r':Row N (h.new (.cells new false)) sz sv n cs:=r.keep (by simp) fun q hq=>jac (r.at_ge hq).2
  obtain ⟨v',h',e1,e2,e3,e4,e5⟩:=jeC (bytes:=bytes) (cap := .fix 1) r' (by simp;omega) (jad _) hl h1 hz hb hn (fun hq=>by have:=(r.at_ge hq).2;omega)
  refine Ops.step (h':=h') (v:=v') (I.run_eff rfl ?_) (k v' h' e2 (by simp at e3;omega) (fun q hq=>?_) (fun j hj hv=>?_))
  ·have h2:(Opd.t d1).ev (layv e (some d1) (.slice (some (h.nx,0)) 1 (.fix 1)))=some (.slice (some (h.nx,0)) 1 (.fix 1)):=by
    simp [Opd.ev,layv,Env.get]
   simp only [I.eff,hs,h2,e1]
  ·rw [e4] at hq;cases hq;simp
  ·rw [e5 j (by simp;omega) hv,jac hj]
end
end Am
namespace Am
open Go
def EnvX (d:Option Nat) (e e2:Env):Prop := ∀ s,some s≠d->e2.get s=e.get s
theorem jdh (k:Nat) (v:V) (e:Env) (s:Nat):Env.get ((k,v) :: e) s=if k=s then some v else e.get s:=by
 simp only [Env.get,nbeq,jdD]
theorem jbJ (e:Env) (d:Option Nat) (v:V) (s:Nat):(layv e d v).get s=if d=some s then some v else e.get s:=by
 cases d with
 | none=>simp [layv]
 | some d=>simp only [layv,jdh,Option.some.injEq]
theorem EnvX.layv {d:Option Nat} {e e2:Env} (x:EnvX d e e2) (q:Option Nat) (v:V):EnvX d (layv e q v) (layv e2 q v):=by
 intro s hs
 rw [jbJ,jbJ]
 split
 ·rfl
 ·exact x s hs
theorem EnvX.refl (d:Option Nat) (e:Env):EnvX d e e:=fun _ _=>rfl
def Off (d:Option Nat) (a:Ins):Prop := ∀ s,d=some s->s ∉ a.looks/\s ∉ a.clooks/\a.dst≠some s
theorem Off.none (a:Ins):Off none a:=fun s h=>by cases h
section
variable {X:Nat->Option Obj} {h h2 h':H} {call:Am.Call} {base:Nat}
theorem jgX {e e2:Env} {i:I} (hs : ∀ s∈i.slots,e.get s=e2.get s) (h:H) (at_:Option Nat):i.run call e h at_=i.run call e2 h at_:=by
 unfold I.run
 rw [jm1 hs,jfG hs,jmA hs,eff_congr hs]
theorem jks {e e2:Env} : ∀ {l:List (Nat × I × Option (Nat × Bool))},(∀ s∈(l.flatMap fun c=>c.1 :: (jht c.2.2++c.2.1.slots)),e.get s=e2.get s) -> ∀ h,jaC e h l=jaC e2 h l
 | [],_,_=>rfl
 | (d,i,g) :: r,hs,h=>by
  simp only [List.flatMap_cons,List.mem_append,List.mem_cons] at hs
  simp only [jaC]
  rw [jcw (e:=e) (e2:=e2) (g:=g) (fun s h=>hs s (.inl (.inr (.inl h)))),jfG (e:=e) (e2:=e2) (i:=i) (fun s h=>hs s (.inl (.inr (.inr h)))),hs d (.inl (.inl rfl)),
   jks (l:=r) (fun s h=>hs s (.inr h)) h]
theorem Off.agree {d:Option Nat} {a:Ins} (ho:Off d a) {e e2:Env} (x:EnvX d e e2):(∀ s∈jht a.guard,e.get s=e2.get s)/\(∀ s∈a.i.slots,e.get s=e2.get s)/\(∀ s∈a.clooks,e.get s=e2.get s):=by
 refine ⟨fun s hs=>?_,fun s hs=>?_,fun s hs=>?_⟩
 ·refine (x s fun e=>?_).symm
  exact (ho s e.symm).1 (by unfold Ins.looks;simp [hs])
 ·refine (x s fun e=>?_).symm
  exact (ho s e.symm).1 (by unfold Ins.looks;simp [hs])
 ·refine (x s fun e=>?_).symm
  exact (ho s e.symm).2.1 hs
theorem jcK (hC:jf3 call) {d:Option Nat} : ∀ {l:List Ins} {e e' e2:Env} {h h' h2:H},EnvX d e e2->Ext X h h2->(∀ a∈l,∀ k,a.at_=some k->X (base+k)=none)->(∀ a∈l,Off d a) ->
  ja6 call base l e h=some (e',h') -> ∃ e2' h2',ja6 call base l e2 h2=some (e2',h2')/\EnvX d e' e2'/\(∀ s,d=some s->e2'.get s=e2.get s)/\Ext X h' h2'
 | [],e,e',e2,h,h',h2,x,y,_,_,hr=>by cases hr;exact ⟨_,_,rfl,x,fun _ _=>rfl,y⟩
 | a :: r,e,e',e2,h,h',h2,x,y,hX,hO,hr=>by
  have hX' : ∀ b∈r,∀ k,b.at_=some k->X (base+k)=none:=fun b hb=>hX b (List.mem_cons_of_mem _ hb)
  have hO' : ∀ b∈r,Off d b:=fun b hb=>hO b (List.mem_cons_of_mem _ hb)
  have ho:=hO a (List.mem_cons_self ..)
  obtain ⟨g1,g2,g3⟩:=ho.agree x
  have hkeep : ∀ (v:V) s,d=some s->(layv e2 a.dst v).get s=e2.get s:=fun v s hs=>by
   rw [jbJ,if_neg (ho s hs).2.2]
  simp only [ja6] at hr ⊢
  rw [<- jcw g1]
  revert hr
  cases wanted e a.guard with
  | false=>
   dsimp only [cond_false]
   intro hr
   obtain ⟨e3,h3,q1,q2,q3,q4⟩:=jcK hC (x.layv a.dst .undef) y hX' hO' hr
   exact ⟨e3,h3,q1,q2,fun s hs=>(q3 s hs).trans (hkeep _ s hs),q4⟩
  | true=>
   dsimp only [cond_true]
   intro hr
   split at hr
   ·next v h1 h1r=>
    rw [jgX g2] at h1r
    obtain ⟨h3,e3,x3⟩:=y.run hC (fun b hb=>by
     cases ha:a.at_ with
     | none=>rw [ha] at hb;cases hb
     | some k=>rw [ha] at hb;cases hb;exact hX a (List.mem_cons_self ..) k ha) h1r
    rw [e3]
    dsimp only
    revert hr
    rw [jks g3]
    cases hc:jaC e2 h1 a.chk with
    | false=>intro hr;cases hr
    | true=>
     dsimp only [cond_true]
     intro hr
     rw [x3.chk hc]
     obtain ⟨e4,h4,q1,q2,q3,q4⟩:=jcK hC (x.layv a.dst v) x3 hX' hO' hr
     exact ⟨e4,h4,q1,q2,fun s hs=>(q3 s hs).trans (hkeep _ s hs),q4⟩
   ·cases hr
theorem jc0 {s:Nat} : ∀ {l:List Ins} {e e':Env} {h h':H},(∀ a∈l,a.dst≠some s)->ja6 call base l e h=some (e',h')->e'.get s=e.get s
 | [],e,e',h,h',_,hr=>by cases hr;rfl
 | a :: r,e,e',h,h',hs,hr=>by
  have h0 : ∀ v,(layv e a.dst v).get s=e.get s:=fun v=>by rw [jbJ,if_neg (hs a (List.mem_cons_self ..))]
  have hs' : ∀ b∈r,b.dst≠some s:=fun b hb=>hs b (List.mem_cons_of_mem _ hb)
  simp only [ja6] at hr
  revert hr
  cases wanted e a.guard with
  | false=>dsimp only [cond_false];intro hr;rw [jc0 hs' hr,h0]
  | true=>
   dsimp only [cond_true]
   intro hr
   split at hr
   ·revert hr
    cases jaC e _ a.chk with
    | false=>intro hr;cases hr
    | true=>dsimp only [cond_true];intro hr;rw [jc0 hs' hr,h0]
   ·cases hr
theorem jcB {l':List Ins} : ∀ {l:List Ins} {e:Env} {h:H},ja6 call base (l++l') e h=match ja6 call base l e h with
  | some (e1,h1)=>ja6 call base l' e1 h1
  | none=>none
 | [],e,h=>rfl
 | a :: r,e,h=>by
  simp only [List.cons_append,ja6]
  cases wanted e a.guard with
  | false=>dsimp only [cond_false];exact jcB
  | true=>
   dsimp only [cond_true]
   cases a.i.run call e h (a.at_.map (base + ·)) with
   | none=>rfl
   | some p=>
    obtain ⟨v,h1⟩:=p
    dsimp only
    cases jaC e h1 a.chk with
    | false=>rfl
    | true=>dsimp only [cond_true];exact jcB
def jjm (a:Ins):Prop:=a.i.cls = .P\/a.i.cls = .R
theorem jfo {a:Ins} (hq:jjm a) {e:Env} {at_:Option Nat} {v:V} (hr:a.i.run call e h at_=some (v,h')):h'=h:=by
 unfold I.run at hr
 rcases hq with hq | hq<;>rw [hq] at hr<;>dsimp only at hr<;>split at hr<;>cases hr<;>rfl
theorem jfp : ∀ {l:List Ins} {e e':Env} {h h':H},(∀ a∈l,jjm a)->ja6 call base l e h=some (e',h')->h'=h
 | [],e,e',h,h',_,hr=>by cases hr;rfl
 | a :: r,e,e',h,h',hq,hr=>by
  have hq' : ∀ b∈r,jjm b:=fun b hb=>hq b (List.mem_cons_of_mem _ hb)
  simp only [ja6] at hr
  revert hr
  cases wanted e a.guard with
  | false=>exact jfp hq'
  | true=>
   dsimp only [cond_true]
   intro hr
   split at hr
   ·next h1r=>
    have:=jfo (hq a (List.mem_cons_self ..)) h1r
    subst this
    revert hr
    cases jaC e _ a.chk with
    | false=>intro hr;cases hr
    | true=>exact jfp hq'
   ·cases hr
theorem jey {a b:Opd} (h:Opd.same a b=true):a=b:=by
 cases a<;>cases b<;>simp [Opd.same] at h
 ·rw [h]
 ·rw [V.same_eq h]
theorem sameR_eq {a b:I} (h:I.sameR a b=true):a=b:=by
 unfold I.sameR at h
 split at h
 ·rw [jey h]
 ·simp only [Bool.and_eq_true,nbeq,decide_eq_true_eq] at h;rw [h.1,jey h.2]
 ·rw [jey h]
 ·simp only [Bool.and_eq_true,beq_iff_eq] at h
  obtain ⟨⟨⟨⟨rfl,h1⟩,rfl⟩,h2⟩,h3⟩:=h
  rw [V.same_eq h1,jey h2,jey h3]
 ·rw [jey h]
 ·cases h
theorem jnC {e:Env} {h:H} : ∀ {l:List (Nat × I × Option (Nat × Bool))},jaC e h l=true -> ∀ c∈l,wanted e c.2.2=true -> ∃ v,c.2.1.read e h=some v/\e.get c.1=some v
 | [],_,c,hc,_=>by cases hc
 | (d,i,g) :: r,hk,c,hc,hw=>by
  simp only [jaC,Bool.and_eq_true] at hk
  rcases List.mem_cons.1 hc with rfl | hc
  ·have:=hk.1
   dsimp only at hw
   rw [hw] at this
   dsimp only [cond_true] at this
   split at this
   ·next v u h1 h2=>rw [V.same_eq this] at h1;exact ⟨u,h1,h2⟩
   ·cases this
  ·exact jnC hk.2 c hc hw
theorem jd6 {d:Option Nat} {hb:H} {ef:Env} : ∀ {l:List Ins} {e e' e2:Env} {h h':H},EnvX d e e2->(∀ a∈l,jjm a/\a.chk=[])->(∀ a∈l,Off d a) ->
  (∀ a∈l,a.i.cls = .R->(∃ d,a.dst=some d/\d ∉ a.looks/\(wanted ef a.guard=true -> ∃ v,a.i.read ef hb=some v/\ef.get d=some v))) ->
  l.Pairwise (fun a b=>a.i.cls = .R -> ∀ s,b.dst=some s->s ∉ a.looks/\a.dst≠some s)->(∀ s,e'.get s=ef.get s) ->
  ja6 call base l e h=some (e',h') -> ∃ e2',ja6 call base l e2 hb=some (e2',hb)/\EnvX d e' e2'/\(∀ s,d=some s->e2'.get s=e2.get s)
 | [],e,e',e2,h,h',x,_,_,_,_,_,hr=>by cases hr;exact ⟨_,rfl,x,fun _ _=>rfl⟩
 | a :: r,e,e',e2,h,h',x,hq,hO,hk,hp,hf,hr=>by
  have hq' : ∀ b∈r,jjm b/\b.chk=[]:=fun b hb=>hq b (List.mem_cons_of_mem _ hb)
  have hO' : ∀ b∈r,Off d b:=fun b hb=>hO b (List.mem_cons_of_mem _ hb)
  have hk':=fun b hb=>hk b (List.mem_cons_of_mem a hb)
  obtain ⟨hp1,hp'⟩:=List.pairwise_cons.1 hp
  have ho:=hO a (List.mem_cons_self ..)
  have hka:=hk a (List.mem_cons_self ..)
  obtain ⟨hqa,hca⟩:=hq a (List.mem_cons_self ..)
  obtain ⟨g1,g2,g3⟩:=ho.agree x
  have hkeep : ∀ (v:V) s,d=some s->(layv e2 a.dst v).get s=e2.get s:=fun v s hs=>by
   rw [jbJ,if_neg (ho s hs).2.2]
  simp only [ja6] at hr ⊢
  rw [<- jcw g1]
  revert hr
  cases hw:wanted e a.guard with
  | false=>
   dsimp only [cond_false]
   intro hr
   obtain ⟨e3,q1,q2,q3⟩:=jd6 (x.layv a.dst .undef) hq' hO' hk' hp' hf hr
   exact ⟨e3,q1,q2,fun s hs=>(q3 s hs).trans (hkeep _ s hs)⟩
  | true=>
   dsimp only [cond_true]
   intro hr
   split at hr
   ·next v h1 h1r=>
    have hh:=jfo hqa h1r
    subst hh
    rw [hca] at hr ⊢
    simp only [jaC,cond_true] at hr ⊢
    have hrun:a.i.run call e2 hb (a.at_.map (base + ·))=some (v,hb):=by
     rw [<- jgX g2]
     unfold I.run at h1r ⊢
     rcases hqa with hc | hc
     ·rw [hc] at h1r ⊢
      dsimp only at h1r ⊢
      split at h1r
      ·cases h1r;rfl
      ·cases h1r
     ·rw [hc] at h1r ⊢
      dsimp only at h1r ⊢
      split at h1r
      ·next u hu=>
       cases h1r
       obtain ⟨da,hd1,hd2,hd3⟩:=hka hc
       have agree : ∀ s,s∈a.looks->ef.get s=e.get s:=by
        intro s hs
        rw [<- hf,jc0 (s:=s) (fun b hb e1=>(hp1 b hb hc s e1).1 hs) hr,jbJ,hd1,if_neg]
        intro e1;cases e1;exact hd2 hs
       have hv:ef.get da=some v:=by
        rw [<- hf,jc0 (s:=da) (fun b hb e1=>(hp1 b hb hc da e1).2 hd1) hr,jbJ,hd1,if_pos rfl]
       obtain ⟨v',r1,r2⟩:=hd3 (by rw [jcw (e2:=e) fun s hs=>agree s (by unfold Ins.looks;simp [hs])];exact hw)
       rw [hv] at r2;cases r2
       rw [jfG (e2:=e) fun s hs=>agree s (by unfold Ins.looks;simp [hs])] at r1
       rw [r1]
      ·cases h1r
    rw [hrun]
    dsimp only
    obtain ⟨e4,q1,q2,q3⟩:=jd6 (x.layv a.dst v) hq' hO' hk' hp' hf hr
    exact ⟨e4,q1,q2,fun s hs=>(q3 s hs).trans (hkeep _ s hs)⟩
   ·cases hr
structure Free (a b:Ins):Prop where
 off:Off b.dst a
 nolook : ∀ d,a.dst=some d->d ∉ b.looks
 cls:b.i.cls ≠ .P->(a.i.cls = .E->b.i.cls = .A)/\(a.i.cls = .A->b.i.cls = .A) /\
  (a.i.cls = .R->b.i.cls = .E -> ∃ d,a.dst=some d/\(d,a.i,a.guard)∈b.chk)
structure Ok1 (a:Ins):Prop where
 chk:a.i.cls ≠ .E->a.chk=[]
 own:a.i.cls = .R -> ∀ d,a.dst=some d->d ∉ a.looks
def Keep (a b:Ins):Prop:=a.i.cls = .R -> ∀ s,b.dst=some s->s ∉ a.looks/\a.dst≠some s
def One (call:Am.Call) (base:Nat) (b:Ins) (e:Env) (h:H) (v:V) (h1:H):Prop :=
 (wanted e b.guard=false/\v = .undef/\h1=h)\/(wanted e b.guard=true/\b.i.run call e h (b.at_.map (base + ·))=some (v,h1))
theorem comm (hC:jf3 call) {pre post:List Ins} {b:Ins} {e e':Env} {h h':H} (hr:ja6 call base (pre++b :: post) e h=some (e',h')) (hF : ∀ a∈pre,Free a b) (hok : ∀ a∈pre,Ok1 a) (hpw:pre.Pairwise Keep)
  (hat : ∀ k,b.at_=some k->h.get (base+k)=none/\base+k<h.nx /\ ∀ a∈pre,a.at_≠some k) (hA:b.i.cls = .A -> ∃ k,b.at_=some k) :
  ∃ v h1,One call base b e h v h1 /\ ∃ e2' h2',ja6 call base (pre++post) (layv e b.dst v) h1=some (e2',h2')/\(∀ s,e2'.get s=e'.get s)/\Ext (fun _=>none) h' h2':=by
 rw [jcB] at hr
 cases hp:ja6 call base pre e h with
 | none=>rw [hp] at hr;cases hr
 | some p=>
 obtain ⟨e1,h1⟩:=p
 rw [hp] at hr
 dsimp only at hr
 have hsame : ∀ s∈b.looks,e1.get s=e.get s:=fun s hs=>jc0 (fun a ha e0=>(hF a ha).nolook s e0 hs) hp
 have hg : ∀ s∈jht b.guard,e1.get s=e.get s:=fun s hs=>hsame s (by unfold Ins.looks;simp [hs])
 have hi : ∀ s∈b.i.slots,e1.get s=e.get s:=fun s hs=>hsame s (by unfold Ins.looks;simp [hs])
 have fin : ∀ (v:V) (hx hy:H),ja6 call base post (layv e1 b.dst v) hx=some (e',h') -> ∀ e3 h3,ja6 call base pre (layv e b.dst v) hy=some (e3,h3)->EnvX b.dst e1 e3 ->
   (∀ s,b.dst=some s->e3.get s=(layv e b.dst v).get s)->Ext (fun _=>none) hx h3 ->
   ∃ e2' h2',ja6 call base (pre++post) (layv e b.dst v) hy=some (e2',h2')/\(∀ s,e2'.get s=e'.get s)/\Ext (fun _=>none) h' h2':=by
  intro v hx hy h4 e3 h3 h5 h6 h7 h8
  rw [jcB,h5]
  dsimp only
  have hx':EnvX none (layv e1 b.dst v) e3:=by
   intro s _
   rw [jbJ]
   split
   ·next e0=>rw [h7 s e0,jbJ,if_pos e0]
   ·next e0=>exact h6 s fun e9=>e0 e9.symm
  obtain ⟨e4,h4',q1,q2,_,q4⟩:=jcK hC hx' h8 (fun _ _ _ _=>rfl) (fun a _=>Off.none a) h4
  exact ⟨e4,h4',q1,fun s=>q2 s (by simp),q4⟩
 have hx0 : ∀ v,EnvX b.dst e (layv e b.dst v):=fun v s hs=>by rw [jbJ,if_neg fun e0=>hs e0.symm]
 have hO : ∀ a∈pre,Off b.dst a:=fun a ha=>(hF a ha).off
 have plain : ∀ v,ja6 call base post (layv e1 b.dst v) h1=some (e',h') -> ∃ e2' h2',ja6 call base (pre++post) (layv e b.dst v) h=some (e2',h2')/\(∀ s,e2'.get s=e'.get s)/\Ext (fun _=>none) h' h2':=by
  intro v h4
  obtain ⟨e3,h3,q1,q2,q3,q4⟩:=jcK hC (hx0 v) (Ext.refl h) (fun _ _ _ _=>rfl) hO hp
  exact fin v h1 h h4 e3 h3 q1 q2 q3 q4
 simp only [ja6] at hr
 rw [jcw hg] at hr
 revert hr
 cases hw:wanted e b.guard with
 | false=>
  dsimp only [cond_false]
  intro hr
  exact ⟨.undef,h,.inl ⟨hw,rfl,rfl⟩,plain _ hr⟩
 | true=>
 dsimp only [cond_true]
 intro hr
 rw [jgX hi] at hr
 split at hr
 ·next v hb hbr=>
  revert hr
  cases hc:jaC e1 hb b.chk with
  | false=>intro hr;cases hr
  | true=>
  dsimp only [cond_true]
  intro hr
  cases hcl:b.i.cls with
  | P=>
   have hq:jjm b := .inl hcl
   have:=jfo hq hbr
   subst this
   refine ⟨v,h,.inr ⟨hw,?_⟩,plain v hr⟩
   unfold I.run at hbr ⊢
   rw [hcl] at hbr ⊢
   dsimp only at hbr ⊢
   split at hbr
   ·cases hbr;rfl
   ·cases hbr
  | R=>
   have hqa : ∀ a∈pre,jjm a:=fun a ha=>by
    have:=(hF a ha).cls (by rw [hcl];simp)
    cases ha':a.i.cls with
    | P=>exact .inl ha'
    | R=>exact .inr ha'
    | A=>have:=this.2.1 ha';rw [hcl] at this;cases this
    | E=>have:=this.1 ha';rw [hcl] at this;cases this
   have hh:=jfp hqa hp
   subst hh
   have:=jfo (.inr hcl) hbr
   subst this
   exact ⟨v,_,.inr ⟨hw,hbr⟩,plain v hr⟩
  | E=>
   have hqa : ∀ a∈pre,jjm a:=fun a ha=>by
    have:=(hF a ha).cls (by rw [hcl];simp)
    cases ha':a.i.cls with
    | P=>exact .inl ha'
    | R=>exact .inr ha'
    | A=>have:=this.2.1 ha';rw [hcl] at this;cases this
    | E=>have:=this.1 ha';rw [hcl] at this;cases this
   have hh:=jfp hqa hp
   subst hh
   have hqc : ∀ a∈pre,jjm a/\a.chk=[]:=fun a ha=>⟨hqa a ha,(hok a ha).chk fun e0=>by
    rcases hqa a ha with h9 | h9<;>rw [h9] at e0<;>cases e0⟩
   obtain ⟨e3,q1,q2,q3⟩:=jd6 (hb:=hb) (ef:=e1) (hx0 v) hqc hO (fun a ha hR=>by
    obtain ⟨d,h6,h7⟩:=((hF a ha).cls (by rw [hcl];simp)).2.2 hR hcl
    refine ⟨d,h6,(hok a ha).own hR d h6,fun h8=>?_⟩
    exact jnC hc _ h7 h8) hpw (fun _=>rfl) hp
   obtain ⟨e4,h4,r1⟩:=fin v hb hb hr e3 hb q1 q2 q3 (Ext.refl hb)
   exact ⟨v,hb,.inr ⟨hw,hbr⟩,e4,h4,r1⟩
  | A=>
   obtain ⟨k,hk⟩:=hA hcl
   obtain ⟨k1,k2,k3⟩:=hat k hk
   unfold I.run at hbr
   rw [hcl,hk] at hbr
   dsimp only [Option.map_some] at hbr
   split at hbr
   ·next ob mk hm=>
    cases hbr
    have hx:Ext (fun j=>if j=base+k then some ob else none) h (h.set (base+k) ob):=by
     refine ⟨rfl,fun j=>?_,fun j hj=>?_⟩
     ·rw [H.get_set]
      by_cases e0:j=base+k
      ·subst e0;simp [k1]
      ·simp [e0]
     ·by_cases e0:j=base+k
      ·subst e0;exact ⟨k2,k1⟩
      ·simp [e0] at hj
    obtain ⟨e3,h3,q1,q2,q3,q4⟩:=jcK hC (hx0 (mk (base+k))) hx (fun a ha k' hk'=>by
     have hne:base+k'≠base+k:=fun e0=>k3 a ha (by rw [hk'];congr 1;omega)
     exact if_neg hne) hO hp
    have hz:Ext (fun _=>none) (h1.set (base+k) ob) h3:=by
     refine ⟨q4.nx,fun j=>?_,fun j hj=>absurd rfl hj⟩
     rw [H.get_set,q4.get]
     by_cases e0:j=base+k
     ·have:=(q4.off j (by simp [e0])).2
      rw [this];simp [e0]
     ·simp [e0]
    obtain ⟨e4,h4,r1⟩:=fin _ _ _ hr e3 h3 q1 q2 q3 hz
    refine ⟨_,_,.inr ⟨hw,?_⟩,e4,h4,r1⟩
    unfold I.run
    rw [hcl,hk]
    dsimp only [Option.map_some]
    rw [hm]
   ·cases hbr
 ·cases hr
end
end Am
namespace Am
open Go
theorem jfq (t:Array Value) (dst:Option Nat) (x:Value):(putT t dst x).size=t.size:=by
 cases dst<;>simp [putT]
section
variable {P:Program} {C:Cx} {N:Nat} {m:Mp} {h h':H} {w:World} {e:Env} {t:Array Value} {v:V} {call:Am.Call}
theorem ERel.layv (he:ERel m e t) {dst:Option Nat} {x:Value} (hv:VRel m v x) (hd : ∀ d,dst=some d->d<t.size):ERel m (layv e dst v) (putT t dst x):=by
 intro s u hu
 rw [jbJ] at hu
 cases dst with
 | none=>rw [if_neg (by simp)] at hu;exact he s u hu
 | some d=>
  have:=hd d rfl
  by_cases e0:d=s
  ·subst e0
   simp at hu;subst hu
   exact ⟨x,by simp [putT,this],hv⟩
  ·rw [if_neg (by simpa using e0)] at hu
   obtain ⟨y,h1,h2⟩:=he s u hu
   exact ⟨y,by simp [putT,Array.getElem?_setIfInBounds_ne e0,h1],h2⟩
theorem VRel.bool {b:Bool} : ∀ {v:V},VRel m v (.bool b)->v = .bool b
 | .bool _,h=>by cases h;rfl
 | .int _ _,h=>by cases h
 | .str _,h=>by cases h
 | .ptr none,h=>by cases h
 | .ptr (some _),⟨_,_,h⟩=>by cases h
 | .slice none _ _,⟨_,_,h⟩=>by cases h
 | .slice (some _) _ _,⟨_,_,_,_,h,_⟩=>by cases h
 | .map none,h=>by cases h
 | .map (some _),⟨_,_,h⟩=>by cases h
 | .clo _ _,⟨_,h,_⟩=>by cases h
 | .yld _,⟨_,_,h⟩=>by cases h
 | .nilfn,h=>by cases h
 | .bm _ _ _,⟨_,h,_⟩=>by cases h
 | .iface _ _,⟨_,h,_⟩=>by cases h
 | .nili,h=>by cases h
 | .agg _,⟨_,h,_⟩=>by cases h
 | .tup _,⟨_,h,_⟩=>by cases h
theorem jma (he:ERel m e t) {g:Option (Nat × Bool)} {ops:Array Oper} {o:Oper} (hM:jim ops g o.guard=true) (hk : ∀ s b,g=some (s,b)->e.get s≠none) :
  Region.wanted o (yielded ops t)=wanted e g:=by
 unfold jim at hM
 split at hM
 ·next h1=>rw [Region.wanted,h1];rfl
 ·next s b j b' h1=>
  simp only [Bool.and_eq_true,beq_iff_eq] at hM
  obtain ⟨rfl,hM⟩:=hM
  split at hM
  ·next o' ho'=>
   have hd:o'.dst=some s:=by simpa using hM
   rw [Region.wanted,h1]
   dsimp only
   unfold yielded
   rw [ho']
   simp only [Option.bind_some,hd]
   have hne:=hk s b rfl
   cases hs:e.get s with
   | none=>exact absurd hs hne
   | some v=>
    obtain ⟨x,hx,hv⟩:=he s v hs
    rw [hx]
    simp only [wanted,hs]
    cases x with
    | bool q=>
     have:=hv.bool
     subst this
     cases q<;>cases b<;>rfl
    | _=>
     cases v with
     | bool q=>cases hv
     | _=>rfl
  ·cases hM
 ·cases hM
theorem jei {nt:Nat} {ops:Array Oper} {s:Ins} (hM:insM P C nt ops s=true) : ∃ o,ops[s.ix]?=some o/\s.dst=o.dst/\(∀ d,s.dst=some d->d<nt)/\jim ops s.guard o.guard=true/\iM P C s.i o.op=true:=by
 unfold insM at hM
 split at hM
 ·next o ho=>
  simp only [Bool.and_eq_true,beq_iff_eq] at hM
  refine ⟨o,ho,hM.1.1.1,?_,hM.1.2,hM.2⟩
  intro d hd
  have:=hM.1.1.2
  rw [hd] at this
  simp [Nat.blt] at this;omega
 ·cases hM
theorem jjV (hT:TOk P C) (hC:jeJ P C call) (hG:GOk C m) (hR:HRel P C m h w) (he:ERel m e t) (hN:N<=h.nx) {nt:Nat} (hnt:nt<=t.size) {ops:Array Oper} {s:Ins} (hM:insM P C nt ops s=true)
  (hg : ∀ q b,s.guard=some (q,b)->e.get q≠none) {base:Nat} (hat : ∀ k,s.at_=some k->N<=base+k/\base+k<h.nx/\m (base+k)=none/\h.get (base+k)=none) (h1:One call base s e h v h') :
  ∃ m' w' x,Step P C N m h w m' h' w'/\ERel m' (layv e s.dst v) (putT t s.dst x)/\(∀ j,j<h.nx->m j=none->h.get j=none->s.at_.map (base + ·)≠some j->m' j=none/\h'.get j=none) /\
   ∀ fn ro rest k ds cs,Steps P (lone (Fm fn ro t (.inRegion ops (s.ix :: rest) :: k) ds) cs w) (lone (Fm fn ro (putT t s.dst x) (.inRegion ops rest :: k) ds) cs w'):=by
 obtain ⟨o,ho,hdst,hlt,hgM,hiM⟩:=jei hM
 have hwant:=jma he hgM hg
 have hd : ∀ d,s.dst=some d->d<t.size:=fun d hd=>Nat.lt_of_lt_of_le (hlt d hd) hnt
 rcases h1 with ⟨hw,rfl,rfl⟩ | ⟨hw,hr⟩
 ·rw [hw] at hwant
  exact ⟨m,w,undef,Step.refl N hR,he.layv ⟨#[],rfl,rfl⟩ hd,fun j _ h1 h2 _=>⟨h1,h2⟩,fun fn ro rest k ds cs=>.one (by rw [hdst];exact jmb ho hwant)⟩
 ·rw [hw] at hwant
  have hval : ∀ {m' w' x},(execOp (evT t) o).run P w = .ok (.value x) w'->s.i ≠ .fail->Step P C N m h w m' h' w'->VRel m' v x->(∀ j,j<h.nx->m j=none->h.get j=none->s.at_.map (base + ·)≠some j->m' j=none/\h'.get j=none) ->
    ∃ m' w' x,Step P C N m h w m' h' w'/\ERel m' (layv e s.dst v) (putT t s.dst x)/\(∀ j,j<h.nx->m j=none->h.get j=none->s.at_.map (base + ·)≠some j->m' j=none/\h'.get j=none) /\
     ∀ fn ro rest k ds cs,Steps P (lone (Fm fn ro t (.inRegion ops (s.ix :: rest) :: k) ds) cs w) (lone (Fm fn ro (putT t s.dst x) (.inRegion ops rest :: k) ds) cs w'):=by
   intro m' w' x q1 q2 q3 q4 q5
   exact ⟨m',w',x,q3,(he.mono q3.mono).layv q4 hd,q5,fun fn ro rest k ds cs=>.one (by rw [hdst];exact jeN ho hwant (jny hiM q2) q1)⟩
  unfold I.run at hr
  cases hc:s.i.cls<;>rw [hc] at hr<;>dsimp only at hr
  ·split at hr
   ·next u hu=>
    cases hr
    obtain ⟨x,h2,h3⟩:=jmu (o:=o) hT hG he hc hiM hu w
    exact hval h2 (fun e0=>by rw [e0] at hu;simp [I.pure] at hu) (Step.refl N hR) h3 fun j _ h1 h2 _=>⟨h1,h2⟩
   ·cases hr
  ·split at hr
   ·next u hu=>
    cases hr
    obtain ⟨x,h2,h3⟩:=jmr (o:=o) hT hG hR he hc hiM hu
    exact hval h2 (fun e0=>by rw [e0] at hu;simp [I.read] at hu) (Step.refl N hR) h3 fun j _ h1 h2 _=>⟨h1,h2⟩
   ·cases hr
  ·split at hr
   ·next ob mk hm=>
    obtain ⟨co,x,w',ext,h2,h3,h4,h5⟩:=jm8 (o:=o) hT hG he hc hiM hm w
    have hf:s.i ≠ .fail:=fun e0=>by rw [e0] at hm;simp [I.make] at hm
    have hcase:s.at_=none \/ ∃ k,s.at_=some k:=by cases s.at_<;>simp
    rcases hcase with hat' | ⟨k,hat'⟩
    ·rw [hat'] at hr
     dsimp only [Option.map_none] at hr
     cases hr
     have hid:m h.nx=none:=by
      cases e0:m h.nx with
      | none=>rfl
      | some l=>have:=hR.dom _ _ e0;omega
     have hge:h.get h.nx=none:=by
      cases e0:h.get h.nx with
      | none=>rfl
      | some o1=>obtain ⟨l,_,e1,_⟩:=hR.obj _ _ e0;rw [hid] at e1;cases e1
     obtain ⟨h6,h7⟩:=h5 _ hid
     refine hval h2 hf (jfd hR hN hid hge (fun j=>H.get_new h j ob) (by simp) (by simp) h3 h4 h6) h7 fun j hj h1 h2 _=>⟨?_,?_⟩
     ·unfold Mp.add;rw [if_neg om];exact h1
     ·rw [H.get_new,if_neg om];exact h2
    ·rw [hat'] at hr
     dsimp only [Option.map_some] at hr
     cases hr
     obtain ⟨k1,k2,k3,k4⟩:=hat k hat'
     obtain ⟨h6,h7⟩:=h5 _ k3
     refine hval h2 hf (jfd hR k1 k3 k4 (fun j=>H.get_set h _ j ob) (by simp) (by simpa using k2) h3 h4 h6) h7 fun j hj h1 h2 h8=>?_
     have hne:j≠base+k:=fun e0=>h8 (by rw [hat',e0];rfl)
     refine ⟨?_,?_⟩
     ·unfold Mp.add;rw [if_neg hne];exact h1
     ·rw [H.get_set,if_neg hne];exact h2
   ·cases hr
  ·obtain ⟨m',w',x,h2,h3,h4⟩:=eff_steps (N:=h.nx) hT hC hG hR he (Nat.le_refl _) hc hiM hr ho hwant
   refine ⟨m',w',x,h2.weaken hN,(he.mono h2.mono).layv h3 hd,fun j hj q1 q2 _=>⟨h2.old j hj q1,h2.dead j hj q2⟩,?_⟩
   rw [hdst]
   exact h4
end
end Am
