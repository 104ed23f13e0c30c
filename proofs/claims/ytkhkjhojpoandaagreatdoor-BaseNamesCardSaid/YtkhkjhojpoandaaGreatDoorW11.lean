/- Our own library, part 11. -/
import Derived.Test.YtkhkjhojpoandaaGreatDoorW10
set_option maxHeartbeats 8000000
set_option maxRecDepth 800
set_option linter.all false
namespace Am
open Go
section
variable {call:Call} {fuel base:Nat} {K:List Fr} {e e':Env} {h h':H} {Q:Post} {ix:Nat} {dst:Option Nat} {ops:List Ins} {keep:List Nat} {at_:Option Nat} {j:Nat}
 {c:List (Nat × I × Option (Nat × Bool))}
theorem Ops.pure {i:I} {v:V} (hc:i.cls = .P) (hp:i.pure e=some v) (k:Ops call fuel base ops keep K (layv e dst v) h Q) :
  Ops call fuel base (⟨ix,dst,i,none,at_,[]⟩ :: ops) keep K e h Q:=Ops.step (I.run_pure hc hp) k
theorem Ops.mv {x:Opd} {v:V} (hx:x.ev e=some v) (k:Ops call fuel base ops keep K (layv e dst v) h Q) :
  Ops call fuel base (⟨ix,dst,.mv x,none,at_,[]⟩ :: ops) keep K e h Q:=Ops.pure rfl (by simp only [I.pure,hx]) k
theorem Ops.eql {x y:Opd} {kd:IntKind} {a b:Int} (hx:x.ev e=some (.int kd a)) (hy:y.ev e=some (.int kd b)) (k:Ops call fuel base ops keep K (layv e dst (.bool (decide (a=b)))) h Q) :
  Ops call fuel base (⟨ix,dst,.bin .eql x y,none,at_,[]⟩ :: ops) keep K e h Q:=by
 refine Ops.pure rfl ?_ k
 simp only [I.pure,hx,hy,binOp,jbb,jbe,beq_self_eq_true,Bool.or_true,cond_true]
 congr 2
theorem Ops.neq {x y:Opd} {kd:IntKind} {a b:Int} (hx:x.ev e=some (.int kd a)) (hy:y.ev e=some (.int kd b)) (k:Ops call fuel base ops keep K (layv e dst (.bool (decide (a≠b)))) h Q) :
  Ops call fuel base (⟨ix,dst,.bin .neq x y,none,at_,[]⟩ :: ops) keep K e h Q:=by
 refine Ops.pure rfl ?_ k
 simp only [I.pure,hx,hy,binOp,jbb,jbe,beq_self_eq_true,Bool.or_true,cond_true]
 congr 2
 by_cases e0:a=b<;>simp [e0]
theorem Ops.lss {x y:Opd} {kd:IntKind} {a b:Int} (hx:x.ev e=some (.int kd a)) (hy:y.ev e=some (.int kd b)) (k:Ops call fuel base ops keep K (layv e dst (.bool (decide (a<b)))) h Q) :
  Ops call fuel base (⟨ix,dst,.bin .lss x y,none,at_,[]⟩ :: ops) keep K e h Q:=by
 refine Ops.pure rfl ?_ k
 simp only [I.pure,hx,hy,binOp,jbb,jbe,beq_self_eq_true,Bool.or_true,cond_true]
theorem Ops.leq {x y:Opd} {kd:IntKind} {a b:Int} (hx:x.ev e=some (.int kd a)) (hy:y.ev e=some (.int kd b)) (k:Ops call fuel base ops keep K (layv e dst (.bool (decide (a<=b)))) h Q) :
  Ops call fuel base (⟨ix,dst,.bin .leq x y,none,at_,[]⟩ :: ops) keep K e h Q:=by
 refine Ops.pure rfl ?_ k
 simp only [I.pure,hx,hy,binOp,jbb,jbe,beq_self_eq_true,Bool.or_true,cond_true]
theorem Ops.gtr {x y:Opd} {kd:IntKind} {a b:Int} (hx:x.ev e=some (.int kd a)) (hy:y.ev e=some (.int kd b)) (k:Ops call fuel base ops keep K (layv e dst (.bool (decide (b<a)))) h Q) :
  Ops call fuel base (⟨ix,dst,.bin .gtr x y,none,at_,[]⟩ :: ops) keep K e h Q:=by
 refine Ops.pure rfl ?_ k
 simp only [I.pure,hx,hy,binOp,jbb,jbe,beq_self_eq_true,Bool.or_true,cond_true]
theorem Ops.geq {x y:Opd} {kd:IntKind} {a b:Int} (hx:x.ev e=some (.int kd a)) (hy:y.ev e=some (.int kd b)) (k:Ops call fuel base ops keep K (layv e dst (.bool (decide (b<=a)))) h Q) :
  Ops call fuel base (⟨ix,dst,.bin .geq x y,none,at_,[]⟩ :: ops) keep K e h Q:=by
 refine Ops.pure rfl ?_ k
 simp only [I.pure,hx,hy,binOp,jbb,jbe,beq_self_eq_true,Bool.or_true,cond_true]
abbrev fits (n:Int):Prop := -9223372036854775808<=n/\n<=9223372036854775807
theorem jh7 {n:Int} (hn:fits n):IntKind.wrap .i64 n=n:=by
 obtain ⟨h1,h2⟩:=hn
 have e:IntKind.wrap .i64 n=if n%18446744073709551616>=9223372036854775808 then n%18446744073709551616-18446744073709551616 else n%18446744073709551616:=by
  unfold IntKind.wrap
  by_cases h:n%18446744073709551616>=9223372036854775808<;>simp [IntKind.bits,IntKind.signed,h]
 rw [e]
 split<;>omega
theorem Ops.add {x y:Opd} {a b:Int} (hx:x.ev e=some (.int .i64 a)) (hy:y.ev e=some (.int .i64 b)) (hf:fits (a+b)) (k:Ops call fuel base ops keep K (layv e dst (.i (a+b))) h Q) :
  Ops call fuel base (⟨ix,dst,.bin .add x y,none,at_,[]⟩ :: ops) keep K e h Q:=by
 refine Ops.pure rfl ?_ k
 simp only [I.pure,hx,hy,binOp,jbb,jbe,beq_self_eq_true,Bool.or_true,cond_true,jh7 hf]
theorem Ops.sub {x y:Opd} {a b:Int} (hx:x.ev e=some (.int .i64 a)) (hy:y.ev e=some (.int .i64 b)) (hf:fits (a-b)) (k:Ops call fuel base ops keep K (layv e dst (.i (a-b))) h Q) :
  Ops call fuel base (⟨ix,dst,.bin .sub x y,none,at_,[]⟩ :: ops) keep K e h Q:=by
 refine Ops.pure rfl ?_ k
 simp only [I.pure,hx,hy,binOp,jbb,jbe,beq_self_eq_true,Bool.or_true,cond_true,jh7 hf]
theorem jli {n:Int} (h0:0<=n) (h1:n<=18446744073709551615):IntKind.wrap .u64 n=n:=by
 have e:IntKind.wrap .u64 n=n%18446744073709551616:=by simp [IntKind.wrap,IntKind.bits,IntKind.signed]
 rw [e];omega
theorem Ops.addu {x y:Opd} {a b:Int} (hx:x.ev e=some (.int .u64 a)) (hy:y.ev e=some (.int .u64 b)) (hf:0<=a+b/\a+b<=18446744073709551615) (k:Ops call fuel base ops keep K (layv e dst (.int .u64 (a+b))) h Q) :
  Ops call fuel base (⟨ix,dst,.bin .add x y,none,at_,[]⟩ :: ops) keep K e h Q:=by
 refine Ops.pure rfl ?_ k
 simp only [I.pure,hx,hy,binOp,jbb,jbe,beq_self_eq_true,Bool.or_true,cond_true,jli hf.1 hf.2]
theorem Ops.subu {x y:Opd} {a b:Int} (hx:x.ev e=some (.int .u64 a)) (hy:y.ev e=some (.int .u64 b)) (hf:0<=a-b/\a-b<=18446744073709551615) (k:Ops call fuel base ops keep K (layv e dst (.int .u64 (a-b))) h Q) :
  Ops call fuel base (⟨ix,dst,.bin .sub x y,none,at_,[]⟩ :: ops) keep K e h Q:=by
 refine Ops.pure rfl ?_ k
 simp only [I.pure,hx,hy,binOp,jbb,jbe,beq_self_eq_true,Bool.or_true,cond_true,jli hf.1 hf.2]
theorem Ops.min2 {x y:Opd} {kd:IntKind} {a b:Int} (hx:x.ev e=some (.int kd a)) (hy:y.ev e=some (.int kd b)) (k:Ops call fuel base ops keep K (layv e dst (.int kd (min a b))) h Q) :
  Ops call fuel base (⟨ix,dst,.minI [x,y],none,at_,[]⟩ :: ops) keep K e h Q:=by
 refine Ops.pure rfl ?_ k
 have:(if b<a then b else a)=min a b:=by omega
 simp only [I.pure,evs,hx,hy,jho,minV,beq_self_eq_true,cond_true,this]
theorem Ops.not {p:Prop} {dp:Decidable p} {x:Opd} (hx:x.ev e=some (.bool (@decide p dp))) (k:Ops call fuel base ops keep K (layv e dst (.bool (decide (¬ p)))) h Q) :
  Ops call fuel base (⟨ix,dst,.un .not x,none,at_,[]⟩ :: ops) keep K e h Q:=by
 refine Ops.pure rfl ?_ k
 simp only [I.pure,hx,unOp]
 by_cases hp:p<;>simp [hp]
theorem Ops.not_b {t:Bool} {x:Opd} (hx:x.ev e=some (.bool t)) (k:Ops call fuel base ops keep K (layv e dst (.bool (decide (t=false)))) h Q) :
  Ops call fuel base (⟨ix,dst,.un .not x,none,at_,[]⟩ :: ops) keep K e h Q:=by
 refine Ops.pure rfl ?_ k
 simp only [I.pure,hx,unOp]
 cases t<;>simp
theorem Ops.ixaA {x i:Opd} {len sz b o:Nat} {kd:IntKind} {n:Int} (hx:x.ev e=some (.ptr (some (b,o)))) (hi:i.ev e=some (.int kd n)) (hn:0<=n/\n<len)
  (k:Ops call fuel base ops keep K (layv e dst (.ptr (some (b,o+n.toNat*sz)))) h Q):Ops call fuel base (⟨ix,dst,.ixaA len sz x i,none,at_,[]⟩ :: ops) keep K e h Q:=by
 refine Ops.pure rfl ?_ k
 obtain ⟨m,rfl⟩:=Int.eq_ofNat_of_zero_le hn.1
 have:Nat.blt m len=true:=by simp [Nat.blt];omega
 simp only [I.pure,hx,hi]
 simp only [below,this,cond_true]
theorem Ops.ixaS {x i:Opd} {sz b o len:Nat} {cap:Cap} {kd:IntKind} {n:Int} (hx:x.ev e=some (.slice (some (b,o)) len cap)) (hi:i.ev e=some (.int kd n)) (hn:0<=n/\n<len)
  (k:Ops call fuel base ops keep K (layv e dst (.ptr (some (b,o+n.toNat*sz)))) h Q):Ops call fuel base (⟨ix,dst,.ixaS sz x i,none,at_,[]⟩ :: ops) keep K e h Q:=by
 refine Ops.pure rfl ?_ k
 obtain ⟨m,rfl⟩:=Int.eq_ofNat_of_zero_le hn.1
 have:Nat.blt m len=true:=by simp [Nat.blt];omega
 simp only [I.pure,hx,hi]
 simp only [below,this,cond_true]
theorem Ops.load1 {a:Opd} {b o:Nat} {l:List V} {ro:Bool} {v:V} (ha:a.ev e=some (.ptr (some (b,o)))) (hb:h.get b=some (.cells l ro)) (hv:l[o]?=some v)
  (k:Ops call fuel base ops keep K (layv e dst v) h Q):Ops call fuel base (⟨ix,dst,.load1 a,none,at_,[]⟩ :: ops) keep K e h Q :=
 Ops.step (I.run_read rfl (by simp only [I.read,ha,load1_of hb hv])) k
theorem Ops.loadN {a:Opd} {b o n:Nat} {l:List V} {ro:Bool} (ha:a.ev e=some (.ptr (some (b,o)))) (hb:h.get b=some (.cells l ro)) (hn:o+n<=l.length)
  (k:Ops call fuel base ops keep K (layv e dst (.agg ((l.drop o).take n))) h Q):Ops call fuel base (⟨ix,dst,.loadN n a,none,at_,[]⟩ :: ops) keep K e h Q :=
 Ops.step (I.run_read rfl (by simp only [I.read,ha,jnI hb hn])) k
theorem Ops.store1 {a x:Opd} {b o:Nat} {l:List V} {v:V} (ha:a.ev e=some (.ptr (some (b,o)))) (hx:x.ev e=some v) (h1:v.one=true) (hb:h.get b=some (.cells l false)) (hn:o<l.length)
  (k:Ops call fuel base ops keep K (layv e dst .undef) (h.set b (.cells (l.set o v) false)) Q):Ops call fuel base (⟨ix,dst,.store 1 a x,none,at_,[]⟩ :: ops) keep K e h Q:=by
 have hc:v.cells=[v]:=by cases v<;>first | rfl | (simp [V.one] at h1)
 refine Ops.step (I.run_eff rfl ?_) k
 have hs:=jlm (o:=o) (vs:=[v]) hb (by simp only [List.length_singleton];omega) (by simp [h1])
 simp only [I.eff,ha,hx,hc,hs]
 rfl
theorem Ops.storeN {a x:Opd} {b o n:Nat} {l vs:List V} (ha:a.ev e=some (.ptr (some (b,o)))) (hx:x.ev e=some (.agg vs)) (hl:vs.length=n) (h1:vs.all V.one=true) (hb:h.get b=some (.cells l false)) (hn:o+n<=l.length)
  (k:Ops call fuel base ops keep K (layv e dst .undef) (h.set b (.cells (jcj l o vs) false)) Q):Ops call fuel base (⟨ix,dst,.store n a x,none,at_,[]⟩ :: ops) keep K e h Q:=by
 subst hl
 refine Ops.step (I.run_eff rfl ?_) k
 simp only [I.eff,ha,hx,V.cells,jlm hb hn h1,beq_self_eq_true,cond_true]
theorem Ops.callf {f:FuncId} {args:List Opd} {vs:List V} {v:V} (ha:evs e args=some vs) (hc:call (.fn f) vs h=some (v,h')) (k:Ops call fuel base ops keep K (layv e dst v) h' Q) :
  Ops call fuel base (⟨ix,dst,.call f args,none,at_,[]⟩ :: ops) keep K e h Q :=
 Ops.step (I.run_eff rfl (by simp only [I.eff,ha,hc])) k
theorem Ops.yield {l:Nat} {x:Opd} {args:List Opd} {vs:List V} {v:V} (hx:x.ev e=some (.yld l)) (ha:evs e args=some vs) (hc:call (.yld l) vs h=some (v,h')) (k:Ops call fuel base ops keep K (layv e dst v) h' Q) :
  Ops call fuel base (⟨ix,dst,.callv x args,none,at_,[]⟩ :: ops) keep K e h Q :=
 Ops.step (I.run_eff rfl (by simp only [I.eff,hx,ha,hc])) k
theorem Ops.make {i:I} {ob:Obj} {mk:Nat->V} (hc:i.cls = .A) (hm:i.make e=some (ob,mk)) (k:Ops call fuel base ops keep K (layv e dst (mk h.nx)) (h.new ob) Q) :
  Ops call fuel base (⟨ix,dst,i,none,none,[]⟩ :: ops) keep K e h Q:=Ops.step (I.run_make hc hm) k
theorem Ops.eqb {x y:Opd} {a b:Bool} (hx:x.ev e=some (.bool a)) (hy:y.ev e=some (.bool b)) (k:Ops call fuel base ops keep K (layv e dst (.bool (decide (a=b)))) h Q) :
  Ops call fuel base (⟨ix,dst,.eq .bool false x y,none,at_,[]⟩ :: ops) keep K e h Q:=by
 refine Ops.pure rfl ?_ k
 simp only [I.pure,hx,hy,eqOp,cond_false]
 cases a<;>cases b<;>rfl
theorem Ops.neb {x y:Opd} {a b:Bool} (hx:x.ev e=some (.bool a)) (hy:y.ev e=some (.bool b)) (k:Ops call fuel base ops keep K (layv e dst (.bool (decide (a≠b)))) h Q) :
  Ops call fuel base (⟨ix,dst,.eq .bool true x y,none,at_,[]⟩ :: ops) keep K e h Q:=by
 refine Ops.pure rfl ?_ k
 simp only [I.pure,hx,hy,eqOp,cond_true]
 cases a<;>cases b<;>rfl
theorem tagA {o:List Ins} (k:Ops call fuel base o keep K e h Q):Ops call fuel base o keep K e h Q:=k
theorem tagG {i:I} {g:Nat × Bool} (k:Ops call fuel base (⟨ix,dst,i,some g,at_,c⟩ :: ops) keep K e h Q):Ops call fuel base (⟨ix,dst,i,some g,at_,c⟩ :: ops) keep K e h Q:=k
theorem tagB {op:BinOp} {x y:Opd} (k:Ops call fuel base (⟨ix,dst,.bin op x y,none,at_,[]⟩ :: ops) keep K e h Q):Ops call fuel base (⟨ix,dst,.bin op x y,none,at_,[]⟩ :: ops) keep K e h Q:=k
theorem tagP {x a b:Opd} (k:Ops call fuel base (⟨ix,dst,.pick x a b,none,at_,[]⟩ :: ops) keep K e h Q):Ops call fuel base (⟨ix,dst,.pick x a b,none,at_,[]⟩ :: ops) keep K e h Q:=k
theorem tagR {a:AC} (k:Run call fuel a K e h Q):Run call fuel a K e h Q:=k
theorem tagC {x:Opd} {a b:AC} (k:Run call fuel (.cond x a b) K e h Q):Run call fuel (.cond x a b) K e h Q:=k
theorem tagE {x:Ex} (k:End call fuel K x e h Q):End call fuel K x e h Q:=k
theorem Ops.off_u {i:I} {w:Bool} (hg:e.get j=some (.tup [])) (k:Ops call fuel base ops keep K (layv e dst .undef) h Q) :
  Ops call fuel base (⟨ix,dst,i,some (j,w),at_,c⟩ :: ops) keep K e h Q:=by
 obtain ⟨e1,h1,hr1,q⟩:=k
 refine ⟨e1,h1,?_,q⟩
 simp only [jaf,wanted,hg,cond_false,hr1]
theorem Ops.on_p {p:Prop} {dp:Decidable p} {i:I} (hg:e.get j=some (.bool (@decide p dp))) (hp:p) (k:Ops call fuel base (⟨ix,dst,i,none,at_,c⟩ :: ops) keep K e h Q) :
  Ops call fuel base (⟨ix,dst,i,some (j,true),at_,c⟩ :: ops) keep K e h Q:=Ops.on (by rw [hg,decide_eq_true hp]) k
theorem Ops.off_p {p:Prop} {dp:Decidable p} {i:I} (hg:e.get j=some (.bool (@decide p dp))) (hp : ¬ p) (k:Ops call fuel base ops keep K (layv e dst .undef) h Q) :
  Ops call fuel base (⟨ix,dst,i,some (j,true),at_,c⟩ :: ops) keep K e h Q:=Ops.off (by rw [hg,decide_eq_false hp];rfl) k
theorem Ops.on_n {p:Prop} {dp:Decidable p} {i:I} (hg:e.get j=some (.bool (@decide p dp))) (hp : ¬ p) (k:Ops call fuel base (⟨ix,dst,i,none,at_,c⟩ :: ops) keep K e h Q) :
  Ops call fuel base (⟨ix,dst,i,some (j,false),at_,c⟩ :: ops) keep K e h Q:=Ops.on (by rw [hg,decide_eq_false hp]) k
theorem Ops.off_n {p:Prop} {dp:Decidable p} {i:I} (hg:e.get j=some (.bool (@decide p dp))) (hp:p) (k:Ops call fuel base ops keep K (layv e dst .undef) h Q) :
  Ops call fuel base (⟨ix,dst,i,some (j,false),at_,c⟩ :: ops) keep K e h Q:=Ops.off (by rw [hg,decide_eq_true hp];rfl) k
theorem Ops.guard_p {p:Prop} {dp:Decidable p} {i:I} (hg:e.get j=some (.bool (@decide p dp))) (k:p->Ops call fuel base (⟨ix,dst,i,none,at_,c⟩ :: ops) keep K e h Q) (k' : ¬ p->Ops call fuel base ops keep K (layv e dst .undef) h Q) :
  Ops call fuel base (⟨ix,dst,i,some (j,true),at_,c⟩ :: ops) keep K e h Q:=by
 by_cases hp:p
 ·exact Ops.on_p hg hp (k hp)
 ·exact Ops.off_p hg hp (k' hp)
theorem Ops.guard_n {p:Prop} {dp:Decidable p} {i:I} (hg:e.get j=some (.bool (@decide p dp))) (k : ¬ p->Ops call fuel base (⟨ix,dst,i,none,at_,c⟩ :: ops) keep K e h Q) (k':p->Ops call fuel base ops keep K (layv e dst .undef) h Q) :
  Ops call fuel base (⟨ix,dst,i,some (j,false),at_,c⟩ :: ops) keep K e h Q:=by
 by_cases hp:p
 ·exact Ops.off_n hg hp (k' hp)
 ·exact Ops.on_n hg hp (k hp)
theorem Ops.on_b {t:Bool} {i:I} {w:Bool} (hg:e.get j=some (.bool t)) (hp:t=w) (k:Ops call fuel base (⟨ix,dst,i,none,at_,c⟩ :: ops) keep K e h Q) :
  Ops call fuel base (⟨ix,dst,i,some (j,w),at_,c⟩ :: ops) keep K e h Q:=Ops.on (by rw [hg,hp]) k
theorem Ops.off_b {t:Bool} {i:I} {w:Bool} (hg:e.get j=some (.bool t)) (hp:t = !w) (k:Ops call fuel base ops keep K (layv e dst .undef) h Q) :
  Ops call fuel base (⟨ix,dst,i,some (j,w),at_,c⟩ :: ops) keep K e h Q:=Ops.off (by rw [hg,hp]) k
theorem Ops.pick_p {p:Prop} {dp:Decidable p} {x a b:Opd} {v:V} (hx:x.ev e=some (.bool (@decide p dp))) (hp:p) (hv:a.ev e=some v) (k:Ops call fuel base ops keep K (layv e dst v) h Q) :
  Ops call fuel base (⟨ix,dst,.pick x a b,none,at_,[]⟩ :: ops) keep K e h Q:=Ops.pure rfl (by simp only [I.pure,hx,decide_eq_true hp,hv]) k
theorem Ops.pick_n {p:Prop} {dp:Decidable p} {x a b:Opd} {v:V} (hx:x.ev e=some (.bool (@decide p dp))) (hp : ¬ p) (hv:b.ev e=some v) (k:Ops call fuel base ops keep K (layv e dst v) h Q) :
  Ops call fuel base (⟨ix,dst,.pick x a b,none,at_,[]⟩ :: ops) keep K e h Q:=Ops.pure rfl (by simp only [I.pure,hx,decide_eq_false hp,hv]) k
theorem Ops.pick_t {t:Bool} {x a b:Opd} {v:V} (hx:x.ev e=some (.bool t)) (hp:t=true) (hv:a.ev e=some v) (k:Ops call fuel base ops keep K (layv e dst v) h Q) :
  Ops call fuel base (⟨ix,dst,.pick x a b,none,at_,[]⟩ :: ops) keep K e h Q:=Ops.pure rfl (by simp only [I.pure,hx,hp,hv]) k
theorem Ops.pick_f {t:Bool} {x a b:Opd} {v:V} (hx:x.ev e=some (.bool t)) (hp:t=false) (hv:b.ev e=some v) (k:Ops call fuel base ops keep K (layv e dst v) h Q) :
  Ops call fuel base (⟨ix,dst,.pick x a b,none,at_,[]⟩ :: ops) keep K e h Q:=Ops.pure rfl (by simp only [I.pure,hx,hp,hv]) k
theorem Ops.pick_id {t:Bool} {x:Opd} (hx:x.ev e=some (.bool t)) (k:Ops call fuel base ops keep K (layv e dst (.bool t)) h Q) :
  Ops call fuel base (⟨ix,dst,.pick x (.c (.bool true)) (.c (.bool false)),none,at_,[]⟩ :: ops) keep K e h Q:=by
 refine Ops.pure rfl ?_ k
 have hp:I.pure e (.pick x (.c (.bool true)) (.c (.bool false)))=some (.bool t):=by
  simp only [I.pure,hx];cases t<;>rfl
 exact hp
theorem Run.cond_p {p:Prop} {dp:Decidable p} {x:Opd} {a b:AC} (hx:x.ev e=some (.bool (@decide p dp))) (hp:p) (k:Run call fuel a K e h Q):Run call fuel (.cond x a b) K e h Q:=Run.cond_true (by rw [hx,decide_eq_true hp]) k
theorem Run.cond_n {p:Prop} {dp:Decidable p} {x:Opd} {a b:AC} (hx:x.ev e=some (.bool (@decide p dp))) (hp : ¬ p) (k:Run call fuel b K e h Q):Run call fuel (.cond x a b) K e h Q:=Run.cond_false (by rw [hx,decide_eq_false hp]) k
theorem Run.cond_pn {p:Prop} {dp:Decidable p} {x:Opd} {a b:AC} (hx:x.ev e=some (.bool (@decide p dp))) (k:p->Run call fuel a K e h Q) (k' : ¬ p->Run call fuel b K e h Q):Run call fuel (.cond x a b) K e h Q:=by
 by_cases hp:p
 ·exact Run.cond_p hx hp (k hp)
 ·exact Run.cond_n hx hp (k' hp)
theorem Run.cond_t {t:Bool} {x:Opd} {a b:AC} (hx:x.ev e=some (.bool t)) (hp:t=true) (k:Run call fuel a K e h Q):Run call fuel (.cond x a b) K e h Q:=Run.cond_true (by rw [hx,hp]) k
theorem Run.cond_f {t:Bool} {x:Opd} {a b:AC} (hx:x.ev e=some (.bool t)) (hp:t=false) (k:Run call fuel b K e h Q):Run call fuel (.cond x a b) K e h Q:=Run.cond_false (by rw [hx,hp]) k
end
theorem Run.rangeFunc {call:Call} {fuel:Nat} {K:List Fr} {e e1:Env} {h h':H} {Q:Post} {f:Opd} {g:FuncId} {cap:List V} {ps live ps':List Nat} {assign body a' b':AC} {v:V} {st:LoopState} {en':Env}
  (hf:f.ev e=some (.clo g cap)) (hk:Kept e live e1) (hc:call (.fn g) (.yld h.nx :: cap) (h.new (.loop .ready none ps e1 assign body))=some (v,h'))
  (hl:h'.get h.nx=some (.loop st none ps' en' a' b')) (hst:st ≠ .busy) (k:End call fuel K .normal e (h'.kill h.nx) Q):Run call fuel (.rangeFunc f ps live assign body) K e h Q:=by
 refine ⟨.normal,e,h'.kill h.nx,?_,k⟩
 cases st<;>first | (exact zw rfl hst) | simp only [D,hf,hk.eq,hc,hl]
def Ex.st:Ex->LoopState
 | .normal=>.ready
 | _=>.done
def Ex.pend:Ex->Option Ex
 | .normal=>none
 | x=>some x
structure Upd (b:Nat) (o:Obj) (h h':H):Prop where
 nx:h'.nx=h.nx
 self:h'.get b=some o
 get : ∀ j,j≠b->h'.get j=h.get j
theorem Upd.refl {b:Nat} {o:Obj} {h:H} (hb:h.get b=some o):Upd b o h h:=⟨rfl,hb,fun _ _=>rfl⟩
theorem Upd.set {b:Nat} {o:Obj} {h:H} : Upd b o h (h.set b o):=⟨rfl,jjq o,fun _ hj=>jdI hj⟩
theorem Upd.trans {b:Nat} {o o':Obj} {h h' h'':H} (a:Upd b o h h') (c:Upd b o' h' h''):Upd b o' h h'' :=
 ⟨by rw [c.nx,a.nx],c.self,fun j hj=>by rw [c.get j hj,a.get j hj]⟩
structure Fin (res:List RV) (R:V->H->Prop) (x:Ex) (e:Env) (h:H):Prop where
 out:(∀ id,x ≠ .exit id) /\ ∃ l,jcb e h res=some l/\R (jb1 l) h
theorem End.fin0 {call:Call} {fuel:Nat} {res:List RV} {e:Env} {h:H} {R:V->H->Prop} (hl:jcb e h res=some []) (k:R (.tup []) h) :
  End call fuel [] .ret e h (Fin res R):=End.nil ⟨(fun _ hx=>by cases hx),_,hl,k⟩
theorem End.fin1 {call:Call} {fuel:Nat} {res:List RV} {e:Env} {h:H} {v:V} {R:V->H->Prop} (hl:jcb e h res=some [v]) (k:R v h) :
  End call fuel [] .ret e h (Fin res R):=End.nil ⟨(fun _ hx=>by cases hx),_,hl,k⟩
theorem End.fin2 {call:Call} {fuel:Nat} {res:List RV} {e:Env} {h:H} {a b:V} {l:List V} {R:V->H->Prop} (hl:jcb e h res=some (a :: b :: l)) (k:R (.tup (a :: b :: l)) h) :
  End call fuel [] .ret e h (Fin res R):=End.nil ⟨(fun _ hx=>by cases hx),_,hl,k⟩
theorem End.fin0n {call:Call} {fuel:Nat} {res:List RV} {e:Env} {h:H} {R:V->H->Prop} (hl:jcb e h res=some []) (k:R (.tup []) h) :
  End call fuel [] .normal e h (Fin res R):=End.nil ⟨(fun _ hx=>by cases hx),_,hl,k⟩
theorem End.fin {call:Call} {fuel:Nat} {res:List RV} {e:Env} {h:H} {l:List V} {R:V->H->Prop} (hl:jcb e h res=some l) (k:R (jb1 l) h) :
  End call fuel [] .ret e h fun _ e' h'=>(∀ id,Ex.ret ≠ .exit id) /\ ∃ l,jcb e' h' res=some l/\R (jb1 l) h':=End.nil ⟨(fun _ hx=>by cases hx),l,hl,k⟩
theorem jlL {P:Prog} {fuel d f:Nat} {fn:AFn} {args:List V} {h:H} {R:V->H->Prop} (hd:0<d) (hp:jaQ P.prims f=none) (hf:jaQ P.fns f=some fn) (hl:(args.length == fn.np)=true)
  (k:Run (jaD P fuel (d-1)) fuel fn.body [] (Env.ofArgs args 0) h (Fin fn.res R)) :
  ∃ v h',jaD P fuel d (.fn f) args h=some (v,h')/\R v h':=by
 obtain ⟨d,rfl⟩ : ∃ d',d=d'+1:=⟨d-1,by omega⟩
 obtain ⟨⟨x,e',h',h1,⟨⟨x',e2,h2,h3,⟨h4⟩⟩⟩⟩⟩:=k
 exact callN_of hp hf (runFn_of hl ⟨x,e',h',h1,⟨x',e2,h2,h3,h4⟩⟩)
theorem Run.cut {call:Call} {fuel:Nat} {K:List Fr} {e:Env} {h:H} {Q:Post} {c:AC} (M:Post) (k:Run call fuel c [] e h M) (k' : ∀ x e' h',M x e' h'->End call fuel K x e' h' Q):Run call fuel c K e h Q:=by
 obtain ⟨x,e1,h1,hd,x2,e2,h2,ha,hm⟩:=k
 simp only [after] at ha
 cases ha
 exact ⟨x,e1,h1,hd,k' _ _ _ hm⟩
abbrev zaa := @Ops.mv
abbrev zab := @Run.seq
abbrev zac := @Run.region0
abbrev zad := @Ops.nil
abbrev zae := @End.seq
abbrev zaf := @Ops.lss
abbrev zag := @Ops.eql
abbrev zah := @Ops.neq
abbrev zai := @Ops.leq
abbrev zaj := @Ops.gtr
abbrev zak := @Ops.geq
abbrev zal := @Ops.add
abbrev zam := @Ops.sub
abbrev zan := @Ops.not
abbrev zao := @Ops.not_b
abbrev zap := @Ops.pick_id
abbrev zaq := @Ops.pick_p
abbrev zar := @Ops.pick_n
abbrev zas := @Ops.pick_t
abbrev zat := @Ops.pick_f
abbrev zau := @Ops.pure
abbrev zav := @Ops.load1
abbrev zaw := @Ops.callf
abbrev zax := @Ops.ixaA
abbrev zay := @Ops.ixaS
abbrev zaz := @Ops.on_p
abbrev zba := @Ops.off_p
abbrev zbb := @Ops.on_n
abbrev zbc := @Ops.off_n
abbrev zbd := @Ops.on_b
abbrev zbe := @Ops.off_b
abbrev zbf := @Ops.guard_p
abbrev zbg := @Ops.guard_n
abbrev zbh := @Ops.guard
abbrev zbi := @Run.cond_p
abbrev zbj := @Run.cond_n
abbrev zbk := @Run.cond_t
abbrev zbl := @Run.cond_f
abbrev zbm := @Run.cond_pn
abbrev zbn := @Run.cond
abbrev zbo := @Run.block
abbrev zbp := @Run.skip
abbrev zbq := @Run.ret
abbrev zbr := @Run.exit
abbrev zbs := @Run.scope
abbrev zbt := @Run.label
abbrev zbu := @End.seq_ret
abbrev zbv := @End.seq_exit
abbrev zbw := @End.block
abbrev zbx := @End.block_ret
abbrev zby := @End.block_exit
abbrev zbz := @End.block_exit'
abbrev zca := @End.loop_ret
abbrev zcb := @End.loop_exit
abbrev zcc := @End.fin1
abbrev zcd := @End.fin0
abbrev zce := @End.fin0n
abbrev zcf := @End.fin2
abbrev zcg := @tagA
abbrev zch := @tagG
abbrev zci := @tagB
abbrev zcj := @tagP
abbrev zck := @tagR
abbrev zcl := @tagC
abbrev zcm := @tagE
abbrev zcn := @Ops.eqb
abbrev zco := @Ops.neb
abbrev zcp := @Ops.addu
abbrev zcq := @Ops.subu
abbrev zcr := @Ops.min2
abbrev zcs := @Ops.store1
abbrev zct := @Ops.storeN
abbrev zcu := @Ops.make
abbrev zcv := @Ops.off_u
abbrev zcw := @Ops.loadN
structure Hid (R:Prop):Prop where
 g:R
theorem zsp {P A B:Prop} (r:A) (s:B) (k:Hid A->Hid B->P:=by intro h1_ h2_;first|exact zbf rfl h1_.g h2_.g|exact zbg rfl h1_.g h2_.g|exact zbh rfl h1_.g h2_.g|exact zbm rfl h1_.g h2_.g|exact zbn rfl h1_.g h2_.g):P:=k ⟨r⟩ ⟨s⟩
end Am
namespace Am
open Go
def Row (N:Nat) (h:H) (sz:Nat) (v:V) (n:Nat) (cs:List V):Prop :=
 (n=0/\cs=[]/\v = .nils) \/ ∃ q,N<=q/\q<h.nx/\v = .slice (some (q,0)) n (.grow sz)/\h.get q=some (.cells cs false)/\cs.length=n*sz
theorem Row.nil (N:Nat) (h:H) (sz:Nat):Row N h sz .nils 0 [] := .inl ⟨rfl,rfl,rfl⟩
def V.at?:V->Option Nat
 | .slice (some a) _ _=>some a.1
 | _=>none
theorem Row.keep {N sz n:Nat} {h h':H} {v:V} {cs:List V} (r:Row N h sz v n cs) (hx:h.nx<=h'.nx) (hg : ∀ q,v.at?=some q->h'.get q=h.get q):Row N h' sz v n cs:=by
 rcases r with r | ⟨q,h1,h2,rfl,h4,h5⟩
 ·exact .inl r
 ·exact .inr ⟨q,h1,by omega,rfl,by rw [hg q rfl,h4],h5⟩
theorem Row.at_ge {N sz n:Nat} {h:H} {v:V} {cs:List V} (r:Row N h sz v n cs) {q:Nat} (hq:v.at?=some q):N<=q/\q<h.nx:=by
 rcases r with ⟨_,_,rfl⟩ | ⟨q',h1,h2,rfl,h4,h5⟩
 ·cases hq
 ·cases hq;exact ⟨h1,h2⟩
theorem Row.weaken {N N' sz n:Nat} {h:H} {v:V} {cs:List V} (hN:N'<=N) (r:Row N h sz v n cs):Row N' h sz v n cs:=by
 rcases r with r | ⟨q,h1,h2⟩
 ·exact .inl r
 ·exact .inr ⟨q,by omega,h2⟩
theorem jmU {N sz bytes n q':Nat} {h:H} {v:V} {cs new:List V} {cap:Cap} (r:Row N h sz v n cs) (hN:N<=h.nx) (hq:h.get q'=some (.cells new false)) (hl:new.length=sz) (h1:new.all V.one=true) (hz:1<=sz)
  (hb:(n+1)*bytes<=2 ^ 46) (hn:n+1<=2 ^ 46) (hne:v.at?≠some q') :
  ∃ v' h',jbG h sz bytes v (.slice (some (q',0)) 1 cap)=some (v',h')/\Row N h' sz v' (n+1) (cs++new)/\h.nx<=h'.nx/\v'.at?=some h.nx /\ ∀ j,j<h.nx->v.at?≠some j->h'.get j=h.get j:=by
 have hsrc:jaW h sz 1 (.slice (some (q',0)) 1 cap)=some new:=by
  have:(1*sz == 0)=false:=by simp;omega
  simp only [jaW,this,cond_false]
  rw [jnI hq om,zi,zf om]
 have hcond:(Nat.ble ((n+1)*bytes) (2 ^ 46)&&Nat.ble (n+1) (2 ^ 46))=true:=by simp only [zm,zz];exact ⟨hb,hn⟩
 have h10:((1:Nat) == 0)=false:=rfl
 rcases r with ⟨rfl,rfl,rfl⟩ | ⟨q,hq1,hq2,rfl,hq4,hq5⟩
 ·refine ⟨.slice (some (h.nx,0)) 1 (.grow sz),h.new (.cells new false),?_,.inr ⟨h.nx,hN,by simp,rfl,by rw [jbQ];rfl,by simp [hl]⟩,by simp,rfl,fun j hj _=>jaZ hj⟩
  simp only [jbG,lenOf,hsrc]
  rw [hcond]
  simp only [cond_true,h10,cond_false,jbw]
 ·have hg:(Nat.beq sz sz&&Nat.ble (0+n*sz) cs.length&&new.all V.one)=true:=by
   simp only [zm,zz,h1,and_true]
   exact ⟨Nat.beq_refl _,by omega⟩
  have htk:(cs.drop 0).take (n*sz)=cs:=by rw [zi,zf om]
  refine ⟨.slice (some (h.nx,0)) (n+1) (.grow sz),(h.kill q).new (.cells (cs++new) false),?_,.inr ⟨h.nx,hN,by simp,rfl,?_,?_⟩,by simp,rfl,?_⟩
  ·simp only [jbG,lenOf,hsrc]
   rw [hcond]
   simp only [cond_true,h10,cond_false,hq4]
   rw [hg]
   simp only [cond_true,jbw,htk]
   rfl
  ·exact jbQ (h:=h.kill q) _
  ·simp [hq5,hl,Nat.add_mul]
  ·intro j hj hv
   have hjq:j≠q:=fun e=>hv (by subst e;rfl)
   rw [jaZ (by simpa using hj),jfu hjq]
section
variable {call:Call} {fuel base:Nat} {K:List Fr} {e:Env} {h:H} {Q:Post} {i1 i2 d1 d2:Nat} {ops:List Ins} {keep:List Nat}
theorem Ops.push {N sz bytes n:Nat} {x s:Opd} {xv sv:V} {zero cs new:List V} (hx:x.ev e=some xv) (hnew:xv.cells=new) (hl:new.length=sz) (h1:new.all V.one=true) (hz:1<=sz) (hzl:zero.length=sz)
  (hs:s.ev (layv e (some d1) (.slice (some (h.nx,0)) 1 (.fix 1)))=some sv) (r:Row N h sz sv n cs) (hN:N<=h.nx) (hb:(n+1)*bytes<=2 ^ 46) (hn:n+1<=2 ^ 46)
  (k : ∀ v' h',Row N h' sz v' (n+1) (cs++new)->h.nx<=h'.nx->(∀ q,v'.at?=some q->h.nx<=q)->(∀ j,j<h.nx->sv.at?≠some j->h'.get j=h.get j) ->
   Ops call fuel base ops keep K (layv (layv e (some d1) (.slice (some (h.nx,0)) 1 (.fix 1))) (some d2) v') h' Q) :
  Ops call fuel base (⟨i1,some d1,.bslice sz 1 zero [(0,x)],none,none,[]⟩ :: ⟨i2,some d2,.append sz bytes s (.t d1),none,none,[]⟩ :: ops) keep K e h Q:=by
 have hf:jaL zero [(0*sz,sz,xv)]=some new:=by
  have e1:(xv.cells.length == sz&&Nat.ble (0*sz+sz) zero.length)=true:=by simp [hnew,hl,hzl]
  simp only [jaL]
  rw [e1,cond_true,hnew,Nat.zero_mul,jiJ _ _ om]
 refine Ops.make (ob := .cells new false) (mk:=fun b=>.slice (some (b,0)) 1 (.fix 1)) rfl ?_ ?_
 ·simp only [I.make,jaS,List.map,hx,hf]
 ·have r':Row N (h.new (.cells new false)) sz sv n cs:=r.keep Zb fun q hq=>jaZ (r.at_ge hq).2
  obtain ⟨v',h',e1,e2,e3,e4,e5⟩:=jmU (bytes:=bytes) (cap := .fix 1) r' Za (jbQ _) hl h1 hz hb hn (fun hq=>by have:=(r.at_ge hq).2;omega)
  refine Ops.step (h':=h') (v:=v') (I.run_eff rfl ?_) (k v' h' e2 (by simp at e3;omega) (fun q hq=>?_) (fun j hj hv=>?_))
  ·have h2:(Opd.t d1).ev (layv e (some d1) (.slice (some (h.nx,0)) 1 (.fix 1)))=some (.slice (some (h.nx,0)) 1 (.fix 1)):=by
    simp [Opd.ev,layv,Env.get]
   simp only [I.eff,hs,h2,e1]
  ·rw [e4] at hq;cases hq;simp
  ·rw [e5 j Za hv,jaZ hj]
end
end Am
