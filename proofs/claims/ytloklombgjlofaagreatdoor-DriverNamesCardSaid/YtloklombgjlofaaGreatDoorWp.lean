/- Rules by which a run of the abstract machine is stepped through by hand. -/
import Derived.Test.YtloklombgjlofaaGreatDoorFrame2
namespace Am
open Go

/-- What is left to do behind a piece of code. -/
inductive Fr where
  | seq (b : AC)
  | block (id : Nat)
  | loop (live : List Nat) (body : AC) (n : Nat)
  deriving Inhabited

def after (call : Call) (fuel : Nat) : List Fr → Ex → Env → H → Res
  | [], x, e, h => some (x, e, h)
  | .seq b :: K, .normal, e, h => match D call fuel b e h with
    | some (x, e', h') => after call fuel K x e' h'
    | none => none
  | .seq _ :: K, x, e, h => after call fuel K x e h
  | .block id :: K, .exit id', e, h => if id' = id then after call fuel K .normal e h else after call fuel K (.exit id') e h
  | .block _ :: K, x, e, h => after call fuel K x e h
  | .loop live body n :: K, .normal, e, h => match iter (D call fuel body) live n e h with
    | some (x, e', h') => after call fuel K x e' h'
    | none => none
  | .loop _ _ _ :: K, x, e, h => after call fuel K x e h

abbrev Post := Ex → Env → H → Prop

/-- Ended so, what is left ends so that Q. -/
structure End (call : Call) (fuel : Nat) (K : List Fr) (x : Ex) (e : Env) (h : H) (Q : Post) : Prop where
  out : ∃ x' e' h', after call fuel K x e h = some (x', e', h') ∧ Q x' e' h'

structure Run (call : Call) (fuel : Nat) (c : AC) (K : List Fr) (e : Env) (h : H) (Q : Post) : Prop where
  out : ∃ x e' h', D call fuel c e h = some (x, e', h') ∧ End call fuel K x e' h' Q

/-- In a region. -/
structure Ops (call : Call) (fuel base : Nat) (ops : List Ins) (keep : List Nat) (K : List Fr) (e : Env) (h : H) (Q : Post) : Prop where
  out : ∃ e' h', runOps call base ops e h = some (e', h') ∧ End call fuel K .normal (e'.only keep) h' Q

inductive Kept (e : Env) : List Nat → Env → Prop where
  | nil : Kept e [] []
  | cons {s : Nat} {v : V} {r : List Nat} {t : Env} (h : e.get s = some v) (k : Kept e r t) : Kept e (s :: r) ((s, v) :: t)
  | miss {s : Nat} {r : List Nat} {t : Env} (h : e.get s = none) (k : Kept e r t) : Kept e (s :: r) t

theorem Kept.eq {e : Env} : ∀ {l : List Nat} {t : Env}, Kept e l t → e.only l = t
  | _, _, .nil => rfl
  | _, _, .cons h k => by simp only [Env.only, h, k.eq]
  | _, _, .miss h k => by simp only [Env.only, h, k.eq]

section
variable {call : Call} {fuel base : Nat} {K : List Fr} {e e' : Env} {h h' : H} {Q : Post}

theorem Run.skip (k : End call fuel K .normal e h Q) : Run call fuel .skip K e h Q := ⟨_, _, _, rfl, k⟩
theorem Run.label {l : Nat} (k : End call fuel K .normal e h Q) : Run call fuel (.label l) K e h Q := ⟨_, _, _, rfl, k⟩
theorem Run.exit {id : Nat} (k : End call fuel K (.exit id) e h Q) : Run call fuel (.exit id) K e h Q := ⟨_, _, _, rfl, k⟩
theorem Run.ret (k : End call fuel K .ret e h Q) : Run call fuel .ret K e h Q := ⟨_, _, _, rfl, k⟩
theorem Run.scope {c : AC} (k : Run call fuel c K e h Q) : Run call fuel (.scope c) K e h Q := ⟨k.out⟩

theorem Run.seq {a b : AC} (k : Run call fuel a (.seq b :: K) e h Q) : Run call fuel (.seq a b) K e h Q := by
  obtain ⟨x, e1, h1, hd, x2, e2, h2, ha, hq⟩ := k
  cases x <;> simp only [after] at ha
  · split at ha
    · next x3 e3 h3 hb => exact ⟨x3, e3, h3, by simp only [D, hd, hb], x2, e2, h2, ha, hq⟩
    · cases ha
  · exact ⟨_, e1, h1, by simp only [D, hd], x2, e2, h2, ha, hq⟩
  · exact ⟨_, e1, h1, by simp only [D, hd], x2, e2, h2, ha, hq⟩

theorem End.seq {b : AC} (k : Run call fuel b K e h Q) : End call fuel (.seq b :: K) .normal e h Q := by
  obtain ⟨x, e1, h1, hd, x2, e2, h2, ha, hq⟩ := k
  exact ⟨x2, e2, h2, by simp only [after, hd, ha], hq⟩
theorem End.seq_exit {b : AC} {id : Nat} (k : End call fuel K (.exit id) e h Q) : End call fuel (.seq b :: K) (.exit id) e h Q := ⟨k.out⟩
theorem End.seq_ret {b : AC} (k : End call fuel K .ret e h Q) : End call fuel (.seq b :: K) .ret e h Q := ⟨k.out⟩

theorem Run.block {id : Nat} {a : AC} (k : Run call fuel a (.block id :: K) e h Q) : Run call fuel (.block id a) K e h Q := by
  obtain ⟨x, e1, h1, hd, x2, e2, h2, ha, hq⟩ := k
  cases x <;> simp only [after] at ha
  · exact ⟨_, e1, h1, by simp only [D, hd], x2, e2, h2, ha, hq⟩
  · next id' =>
    split at ha
    · next e0 => subst e0; exact ⟨.normal, e1, h1, by simp [D, hd], x2, e2, h2, ha, hq⟩
    · next e0 =>
      have e1' : (id' == id) = false := by simpa using e0
      exact ⟨.exit id', e1, h1, by simp only [D, hd, e1', cond_false], x2, e2, h2, ha, hq⟩
  · exact ⟨_, e1, h1, by simp only [D, hd], x2, e2, h2, ha, hq⟩

theorem End.block {id : Nat} (k : End call fuel K .normal e h Q) : End call fuel (.block id :: K) .normal e h Q := ⟨k.out⟩
theorem End.block_ret {id : Nat} (k : End call fuel K .ret e h Q) : End call fuel (.block id :: K) .ret e h Q := ⟨k.out⟩
theorem End.block_exit {id : Nat} (k : End call fuel K .normal e h Q) : End call fuel (.block id :: K) (.exit id) e h Q := by
  obtain ⟨x2, e2, h2, ha, hq⟩ := k
  exact ⟨x2, e2, h2, by simp only [after, if_pos, ha], hq⟩
theorem End.block_exit' {id id' : Nat} (hne : Nat.beq id' id = false) (k : End call fuel K (.exit id') e h Q) : End call fuel (.block id :: K) (.exit id') e h Q := by
  obtain ⟨x2, e2, h2, ha, hq⟩ := k
  have : id' ≠ id := by rintro rfl; simp at hne
  exact ⟨x2, e2, h2, by simp only [after, if_neg this, ha], hq⟩

theorem End.loop_exit {live : List Nat} {body : AC} {n id : Nat} (k : End call fuel K (.exit id) e h Q) : End call fuel (.loop live body n :: K) (.exit id) e h Q := ⟨k.out⟩
theorem End.loop_ret {live : List Nat} {body : AC} {n : Nat} (k : End call fuel K .ret e h Q) : End call fuel (.loop live body n :: K) .ret e h Q := ⟨k.out⟩
theorem End.nil {x : Ex} (k : Q x e h) : End call fuel [] x e h Q := ⟨_, _, _, rfl, k⟩

theorem Run.cond_true {c : Opd} {a b : AC} (hc : c.ev e = some (.bool true)) (k : Run call fuel a K e h Q) : Run call fuel (.cond c a b) K e h Q := by
  obtain ⟨x, e1, h1, hd, q⟩ := k; exact ⟨x, e1, h1, by simp only [D, hc, hd], q⟩
theorem Run.cond_false {c : Opd} {a b : AC} (hc : c.ev e = some (.bool false)) (k : Run call fuel b K e h Q) : Run call fuel (.cond c a b) K e h Q := by
  obtain ⟨x, e1, h1, hd, q⟩ := k; exact ⟨x, e1, h1, by simp only [D, hc, hd], q⟩
theorem Run.cond {c : Opd} {a b : AC} {t : Bool} (hc : c.ev e = some (.bool t)) (ka : t = true → Run call fuel a K e h Q) (kb : t = false → Run call fuel b K e h Q) : Run call fuel (.cond c a b) K e h Q := by
  cases t
  · exact Run.cond_false hc (kb rfl)
  · exact Run.cond_true hc (ka rfl)

theorem Run.region {res : Nat} {ops : List Ins} {keep : List Nat} (k : Ops call fuel h.nx ops keep K e (h.reserve res) Q) : Run call fuel (.region res ops keep) K e h Q := by
  obtain ⟨e1, h1, hr, q⟩ := k
  exact ⟨.normal, e1.only keep, h1, by simp only [D, hr], q⟩
theorem reserve_zero : h.reserve 0 = h := rfl
theorem Run.region0 {ops : List Ins} {keep : List Nat} (k : Ops call fuel h.nx ops keep K e h Q) : Run call fuel (.region 0 ops keep) K e h Q := Run.region k

theorem Ops.nil {keep : List Nat} (hk : Kept e keep e') (k : End call fuel K .normal e' h Q) : Ops call fuel base [] keep K e h Q := ⟨e, h, rfl, by rw [hk.eq]; exact k⟩

theorem Ops.step {ix : Nat} {dst : Option Nat} {i : I} {at_ : Option Nat} {ops : List Ins} {keep : List Nat} {v : V}
    (hr : i.run call e h (at_.map (base + ·)) = some (v, h')) (k : Ops call fuel base ops keep K (layv e dst v) h' Q) :
    Ops call fuel base (⟨ix, dst, i, none, at_, []⟩ :: ops) keep K e h Q := by
  obtain ⟨e1, h1, hr1, q⟩ := k
  exact ⟨e1, h1, by simp only [runOps, wanted, cond_true, hr, chkAll, hr1], q⟩

theorem Ops.step_chk {ix : Nat} {dst : Option Nat} {i : I} {at_ : Option Nat} {c : List (Nat × I × Option (Nat × Bool))} {ops : List Ins} {keep : List Nat} {v : V}
    (hr : i.run call e h (at_.map (base + ·)) = some (v, h')) (hc : chkAll e h' c = true) (k : Ops call fuel base ops keep K (layv e dst v) h' Q) :
    Ops call fuel base (⟨ix, dst, i, none, at_, c⟩ :: ops) keep K e h Q := by
  obtain ⟨e1, h1, hr1, q⟩ := k
  exact ⟨e1, h1, by simp only [runOps, wanted, cond_true, hr, hc, hr1], q⟩

theorem Ops.guard {ix : Nat} {dst : Option Nat} {i : I} {g : Nat × Bool} {at_ : Option Nat} {c : List (Nat × I × Option (Nat × Bool))} {ops : List Ins} {keep : List Nat} {t : Bool}
    (hg : e.get g.1 = some (.bool t)) (k : t = g.2 → Ops call fuel base (⟨ix, dst, i, none, at_, c⟩ :: ops) keep K e h Q) (k' : t = !g.2 → Ops call fuel base ops keep K (layv e dst .undef) h Q) :
    Ops call fuel base (⟨ix, dst, i, some g, at_, c⟩ :: ops) keep K e h Q := by
  obtain ⟨j, w⟩ := g
  by_cases e0 : t = w
  · subst e0
    obtain ⟨e1, h1, hr1, q⟩ := k rfl
    refine ⟨e1, h1, ?_, q⟩
    simp only [runOps, wanted] at hr1 ⊢
    simpa only [hg, beq_self_eq_true] using hr1
  · have e2 : t = !w := by cases t <;> cases w <;> simp_all
    obtain ⟨e1, h1, hr1, q⟩ := k' e2
    refine ⟨e1, h1, ?_, q⟩
    have e3 : (t == w) = false := by simpa using e0
    simpa only [runOps, wanted, hg, e3, cond_false] using hr1

theorem Ops.on {ix : Nat} {dst : Option Nat} {i : I} {j : Nat} {w : Bool} {at_ : Option Nat} {c : List (Nat × I × Option (Nat × Bool))} {ops : List Ins} {keep : List Nat}
    (hg : e.get j = some (.bool w)) (k : Ops call fuel base (⟨ix, dst, i, none, at_, c⟩ :: ops) keep K e h Q) :
    Ops call fuel base (⟨ix, dst, i, some (j, w), at_, c⟩ :: ops) keep K e h Q :=
  Ops.guard (t := w) hg (fun _ => k) (fun h => by cases w <;> cases h)
theorem Ops.off {ix : Nat} {dst : Option Nat} {i : I} {j : Nat} {w : Bool} {at_ : Option Nat} {c : List (Nat × I × Option (Nat × Bool))} {ops : List Ins} {keep : List Nat}
    (hg : e.get j = some (.bool (!w))) (k : Ops call fuel base ops keep K (layv e dst .undef) h Q) :
    Ops call fuel base (⟨ix, dst, i, some (j, w), at_, c⟩ :: ops) keep K e h Q :=
  Ops.guard (t := !w) hg (fun h => by cases w <;> cases h) (fun _ => k)

theorem I.run_pure {i : I} {a : Option Nat} {v : V} (hc : i.cls = .P) (hp : i.pure e = some v) : i.run call e h a = some (v, h) := by simp only [I.run, hc, hp]
theorem I.run_read {i : I} {a : Option Nat} {v : V} (hc : i.cls = .R) (hp : i.read e h = some v) : i.run call e h a = some (v, h) := by simp only [I.run, hc, hp]
theorem I.run_make {i : I} {o : Obj} {mk : Nat → V} (hc : i.cls = .A) (hp : i.make e = some (o, mk)) : i.run call e h none = some (mk h.nx, h.new o) := by simp only [I.run, hc, hp]
theorem I.run_make_at {i : I} {o : Obj} {mk : Nat → V} {b : Nat} (hc : i.cls = .A) (hp : i.make e = some (o, mk)) : i.run call e h (some b) = some (mk b, h.set b o) := by simp only [I.run, hc, hp]
theorem I.run_eff {i : I} {a : Option Nat} {v : V} (hc : i.cls = .E) (hp : i.eff call e h = some (v, h')) : i.run call e h a = some (v, h') := by simp only [I.run, hc, hp]

/-- A loop: I k: at most k rounds are left behind this one. -/
theorem Run.loop {live : List Nat} {body : AC} (I : Nat → Env → H → Prop) {k : Nat} (hk : k < fuel) (h0 : I k e h)
    (step : ∀ k e h, I k e h → ∀ n, (∀ k' < k, ∀ e' h', I k' e' h' → End call fuel (.loop live body n :: K) .normal e' h' Q) → Run call fuel body (.loop live body n :: K) (e.only live) h Q) :
    Run call fuel (.loop live body) K e h Q := by
  have go : ∀ n k e h, k < n → I k e h → End call fuel (.loop live body n :: K) .normal e h Q := by
    intro n
    induction n with
    | zero => intro k e h hk; omega
    | succ n ih =>
      intro k e h hk hi
      obtain ⟨x, e1, h1, hd, x2, e2, h2, ha, hq⟩ := step k e h hi n fun k' hk' e' h' hi' => ih k' e' h' (by omega) hi'
      refine ⟨x2, e2, h2, ?_, hq⟩
      cases x <;> simp only [after] at ha
      · split at ha
        · next x3 e3 h3 hb => simp only [after, iter, hd, hb, ha]
        · cases ha
      · simp only [after, iter, hd, ha]
      · simp only [after, iter, hd, ha]
  obtain ⟨x2, e2, h2, ha, hq⟩ := go fuel k e h hk h0
  simp only [after] at ha
  split at ha
  · next x3 e3 h3 hb => exact ⟨x3, e3, h3, by simp only [D, hb], x2, e2, h2, ha, hq⟩
  · cases ha

/-- A function's body. -/
theorem runFn_of {fn : AFn} {args : List V} {R : V → H → Prop} (hl : (args.length == fn.np) = true)
    (k : Run call fuel fn.body [] (Env.ofArgs args 0) h fun x e' h' => (∀ id, x ≠ .exit id) ∧ ∃ l, resOf e' h' fn.res = some l ∧ R (packRes l) h') :
    ∃ v h', runFn call fuel fn args h = some (v, h') ∧ R v h' := by
  obtain ⟨x, e1, h1, hd, x2, e2, h2, ha, hx, l, hq, hR⟩ := k
  simp only [after] at ha
  cases ha
  refine ⟨packRes l, h1, ?_, hR⟩
  simp only [runFn, hl, cond_true, hd]
  cases x with
  | exit id => exact absurd rfl (hx id)
  | normal => simp only [hq]
  | ret => simp only [hq]

end

theorem callN_of {P : Prog} {fuel n f : Nat} {fn : AFn} {args : List V} {h : H} {R : V → H → Prop} (hp : assoc P.prims f = none) (hf : assoc P.fns f = some fn)
    (k : ∃ v h', runFn (callN P fuel n) fuel fn args h = some (v, h') ∧ R v h') : ∃ v h', callN P fuel (n + 1) (.fn f) args h = some (v, h') ∧ R v h' := by
  simpa only [callN, hp, hf] using k

end Am
