/- In a region whose order is drawn, an operation that does not depend on those ahead of it may come first. -/
import Derived.Test.YtloklombgjlofaaGreatDoorFrame2
namespace Am
open Go

/-- The same slots, but for one. -/
def EnvX (d : Option Nat) (e e2 : Env) : Prop := ∀ s, some s ≠ d → e2.get s = e.get s

theorem get_cons (k : Nat) (v : V) (e : Env) (s : Nat) : Env.get ((k, v) :: e) s = if k = s then some v else e.get s := by
  simp only [Env.get, nbeq, cond_dec]

theorem get_layv (e : Env) (d : Option Nat) (v : V) (s : Nat) : (layv e d v).get s = if d = some s then some v else e.get s := by
  cases d with
  | none => simp [layv]
  | some d => simp only [layv, get_cons, Option.some.injEq]

theorem EnvX.layv {d : Option Nat} {e e2 : Env} (x : EnvX d e e2) (q : Option Nat) (v : V) : EnvX d (layv e q v) (layv e2 q v) := by
  intro s hs
  rw [get_layv, get_layv]
  split
  · rfl
  · exact x s hs

theorem EnvX.refl (d : Option Nat) (e : Env) : EnvX d e e := fun _ _ => rfl

/-- Apart from the slot d. -/
def Off (d : Option Nat) (a : Ins) : Prop := ∀ s, d = some s → s ∉ a.looks ∧ s ∉ a.clooks ∧ a.dst ≠ some s

theorem Off.none (a : Ins) : Off none a := fun s h => by cases h

section
variable {X : Nat → Option Obj} {h h2 h' : H} {call : Am.Call} {base : Nat}

theorem run_congr {e e2 : Env} {i : I} (hs : ∀ s ∈ i.slots, e.get s = e2.get s) (h : H) (at_ : Option Nat) : i.run call e h at_ = i.run call e2 h at_ := by
  unfold I.run
  rw [pure_congr hs, read_congr hs, make_congr hs, eff_congr hs]

theorem chk_congr {e e2 : Env} : ∀ {l : List (Nat × I × Option (Nat × Bool))}, (∀ s ∈ (l.flatMap fun c => c.1 :: (gslots c.2.2 ++ c.2.1.slots)), e.get s = e2.get s) → ∀ h, chkAll e h l = chkAll e2 h l
  | [], _, _ => rfl
  | (d, i, g) :: r, hs, h => by
    simp only [List.flatMap_cons, List.mem_append, List.mem_cons] at hs
    simp only [chkAll]
    rw [wanted_congr (e := e) (e2 := e2) (g := g) (fun s h => hs s (.inl (.inr (.inl h)))), read_congr (e := e) (e2 := e2) (i := i) (fun s h => hs s (.inl (.inr (.inr h)))), hs d (.inl (.inl rfl)),
      chk_congr (l := r) (fun s h => hs s (.inr h)) h]

theorem Off.agree {d : Option Nat} {a : Ins} (ho : Off d a) {e e2 : Env} (x : EnvX d e e2) : (∀ s ∈ gslots a.guard, e.get s = e2.get s) ∧ (∀ s ∈ a.i.slots, e.get s = e2.get s) ∧ (∀ s ∈ a.clooks, e.get s = e2.get s) := by
  refine ⟨fun s hs => ?_, fun s hs => ?_, fun s hs => ?_⟩
  · refine (x s fun e => ?_).symm
    exact (ho s e.symm).1 (by unfold Ins.looks; simp [hs])
  · refine (x s fun e => ?_).symm
    exact (ho s e.symm).1 (by unfold Ins.looks; simp [hs])
  · refine (x s fun e => ?_).symm
    exact (ho s e.symm).2.1 hs

/-- The operations go on as they were, beside a slot and blocks that they do not know. -/
theorem runOps_past (hC : CallF call) {d : Option Nat} : ∀ {l : List Ins} {e e' e2 : Env} {h h' h2 : H}, EnvX d e e2 → Ext X h h2 → (∀ a ∈ l, ∀ k, a.at_ = some k → X (base + k) = none) → (∀ a ∈ l, Off d a) →
    runOps call base l e h = some (e', h') → ∃ e2' h2', runOps call base l e2 h2 = some (e2', h2') ∧ EnvX d e' e2' ∧ (∀ s, d = some s → e2'.get s = e2.get s) ∧ Ext X h' h2'
  | [], e, e', e2, h, h', h2, x, y, _, _, hr => by cases hr; exact ⟨_, _, rfl, x, fun _ _ => rfl, y⟩
  | a :: r, e, e', e2, h, h', h2, x, y, hX, hO, hr => by
    have hX' : ∀ b ∈ r, ∀ k, b.at_ = some k → X (base + k) = none := fun b hb => hX b (List.mem_cons_of_mem _ hb)
    have hO' : ∀ b ∈ r, Off d b := fun b hb => hO b (List.mem_cons_of_mem _ hb)
    have ho := hO a (List.mem_cons_self ..)
    obtain ⟨g1, g2, g3⟩ := ho.agree x
    have hkeep : ∀ (v : V) s, d = some s → (layv e2 a.dst v).get s = e2.get s := fun v s hs => by
      rw [get_layv, if_neg (ho s hs).2.2]
    simp only [runOps] at hr ⊢
    rw [← wanted_congr g1]
    revert hr
    cases wanted e a.guard with
    | false =>
      dsimp only [cond_false]
      intro hr
      obtain ⟨e3, h3, q1, q2, q3, q4⟩ := runOps_past hC (x.layv a.dst .undef) y hX' hO' hr
      exact ⟨e3, h3, q1, q2, fun s hs => (q3 s hs).trans (hkeep _ s hs), q4⟩
    | true =>
      dsimp only [cond_true]
      intro hr
      split at hr
      · next v h1 h1r =>
        rw [run_congr g2] at h1r
        obtain ⟨h3, e3, x3⟩ := y.run hC (fun b hb => by
          cases ha : a.at_ with
          | none => rw [ha] at hb; cases hb
          | some k => rw [ha] at hb; cases hb; exact hX a (List.mem_cons_self ..) k ha) h1r
        rw [e3]
        dsimp only
        revert hr
        rw [chk_congr g3]
        cases hc : chkAll e2 h1 a.chk with
        | false => intro hr; cases hr
        | true =>
          dsimp only [cond_true]
          intro hr
          rw [x3.chk hc]
          obtain ⟨e4, h4, q1, q2, q3, q4⟩ := runOps_past hC (x.layv a.dst v) x3 hX' hO' hr
          exact ⟨e4, h4, q1, q2, fun s hs => (q3 s hs).trans (hkeep _ s hs), q4⟩
      · cases hr

/-- Slots that no operation sets. -/
theorem runOps_keeps {s : Nat} : ∀ {l : List Ins} {e e' : Env} {h h' : H}, (∀ a ∈ l, a.dst ≠ some s) → runOps call base l e h = some (e', h') → e'.get s = e.get s
  | [], e, e', h, h', _, hr => by cases hr; rfl
  | a :: r, e, e', h, h', hs, hr => by
    have h0 : ∀ v, (layv e a.dst v).get s = e.get s := fun v => by rw [get_layv, if_neg (hs a (List.mem_cons_self ..))]
    have hs' : ∀ b ∈ r, b.dst ≠ some s := fun b hb => hs b (List.mem_cons_of_mem _ hb)
    simp only [runOps] at hr
    revert hr
    cases wanted e a.guard with
    | false => dsimp only [cond_false]; intro hr; rw [runOps_keeps hs' hr, h0]
    | true =>
      dsimp only [cond_true]
      intro hr
      split at hr
      · revert hr
        cases chkAll e _ a.chk with
        | false => intro hr; cases hr
        | true => dsimp only [cond_true]; intro hr; rw [runOps_keeps hs' hr, h0]
      · cases hr

theorem runOps_append {l' : List Ins} : ∀ {l : List Ins} {e : Env} {h : H}, runOps call base (l ++ l') e h = match runOps call base l e h with
    | some (e1, h1) => runOps call base l' e1 h1
    | none => none
  | [], e, h => rfl
  | a :: r, e, h => by
    simp only [List.cons_append, runOps]
    cases wanted e a.guard with
    | false => dsimp only [cond_false]; exact runOps_append
    | true =>
      dsimp only [cond_true]
      cases a.i.run call e h (a.at_.map (base + ·)) with
      | none => rfl
      | some p =>
        obtain ⟨v, h1⟩ := p
        dsimp only
        cases chkAll e h1 a.chk with
        | false => rfl
        | true => dsimp only [cond_true]; exact runOps_append

/-- Only looks. -/
def Quiet (a : Ins) : Prop := a.i.cls = .P ∨ a.i.cls = .R

theorem quiet_run {a : Ins} (hq : Quiet a) {e : Env} {at_ : Option Nat} {v : V} (hr : a.i.run call e h at_ = some (v, h')) : h' = h := by
  unfold I.run at hr
  rcases hq with hq | hq <;> rw [hq] at hr <;> dsimp only at hr <;> split at hr <;> cases hr <;> rfl

theorem quiet_ops : ∀ {l : List Ins} {e e' : Env} {h h' : H}, (∀ a ∈ l, Quiet a) → runOps call base l e h = some (e', h') → h' = h
  | [], e, e', h, h', _, hr => by cases hr; rfl
  | a :: r, e, e', h, h', hq, hr => by
    have hq' : ∀ b ∈ r, Quiet b := fun b hb => hq b (List.mem_cons_of_mem _ hb)
    simp only [runOps] at hr
    revert hr
    cases wanted e a.guard with
    | false => exact quiet_ops hq'
    | true =>
      dsimp only [cond_true]
      intro hr
      split at hr
      · next h1r =>
        have := quiet_run (hq a (List.mem_cons_self ..)) h1r
        subst this
        revert hr
        cases chkAll e _ a.chk with
        | false => intro hr; cases hr
        | true => exact quiet_ops hq'
      · cases hr

theorem same_opd {a b : Opd} (h : Opd.same a b = true) : a = b := by
  cases a <;> cases b <;> simp [Opd.same] at h
  · rw [h]
  · rw [V.same_eq h]

theorem sameR_eq {a b : I} (h : I.sameR a b = true) : a = b := by
  unfold I.sameR at h
  split at h
  all_goals first | rw [same_opd h] | (simp only [Bool.and_eq_true, nbeq, decide_eq_true_eq] at h; rw [h.1, same_opd h.2]) | (simp only [Bool.and_eq_true, beq_iff_eq] at h; obtain ⟨⟨⟨⟨rfl, h1⟩, rfl⟩, h2⟩, h3⟩ := h; rw [V.same_eq h1, same_opd h2, same_opd h3]) | cases h

theorem chk_mem {e : Env} {h : H} : ∀ {l : List (Nat × I × Option (Nat × Bool))}, chkAll e h l = true → ∀ c ∈ l, wanted e c.2.2 = true → ∃ v, c.2.1.read e h = some v ∧ e.get c.1 = some v
  | [], _, c, hc, _ => by cases hc
  | (d, i, g) :: r, hk, c, hc, hw => by
    simp only [chkAll, Bool.and_eq_true] at hk
    rcases List.mem_cons.1 hc with rfl | hc
    · have := hk.1
      dsimp only at hw
      rw [hw] at this
      dsimp only [cond_true] at this
      split at this
      · next v u h1 h2 => rw [V.same_eq this] at h1; exact ⟨u, h1, h2⟩
      · cases this
    · exact chk_mem hk.2 c hc hw

/-- Loads that come behind an effect, and are asked again there. -/
theorem runOps_behind {d : Option Nat} {hb : H} {ef : Env} : ∀ {l : List Ins} {e e' e2 : Env} {h h' : H}, EnvX d e e2 → (∀ a ∈ l, Quiet a ∧ a.chk = []) → (∀ a ∈ l, Off d a) →
    (∀ a ∈ l, a.i.cls = .R → (∃ d, a.dst = some d ∧ d ∉ a.looks ∧ (wanted ef a.guard = true → ∃ v, a.i.read ef hb = some v ∧ ef.get d = some v))) →
    l.Pairwise (fun a b => a.i.cls = .R → ∀ s, b.dst = some s → s ∉ a.looks ∧ a.dst ≠ some s) → (∀ s, e'.get s = ef.get s) →
    runOps call base l e h = some (e', h') → ∃ e2', runOps call base l e2 hb = some (e2', hb) ∧ EnvX d e' e2' ∧ (∀ s, d = some s → e2'.get s = e2.get s)
  | [], e, e', e2, h, h', x, _, _, _, _, _, hr => by cases hr; exact ⟨_, rfl, x, fun _ _ => rfl⟩
  | a :: r, e, e', e2, h, h', x, hq, hO, hk, hp, hf, hr => by
    have hq' : ∀ b ∈ r, Quiet b ∧ b.chk = [] := fun b hb => hq b (List.mem_cons_of_mem _ hb)
    have hO' : ∀ b ∈ r, Off d b := fun b hb => hO b (List.mem_cons_of_mem _ hb)
    have hk' := fun b hb => hk b (List.mem_cons_of_mem a hb)
    obtain ⟨hp1, hp'⟩ := List.pairwise_cons.1 hp
    have ho := hO a (List.mem_cons_self ..)
    have hka := hk a (List.mem_cons_self ..)
    obtain ⟨hqa, hca⟩ := hq a (List.mem_cons_self ..)
    obtain ⟨g1, g2, g3⟩ := ho.agree x
    have hkeep : ∀ (v : V) s, d = some s → (layv e2 a.dst v).get s = e2.get s := fun v s hs => by
      rw [get_layv, if_neg (ho s hs).2.2]
    simp only [runOps] at hr ⊢
    rw [← wanted_congr g1]
    revert hr
    cases hw : wanted e a.guard with
    | false =>
      dsimp only [cond_false]
      intro hr
      obtain ⟨e3, q1, q2, q3⟩ := runOps_behind (x.layv a.dst .undef) hq' hO' hk' hp' hf hr
      exact ⟨e3, q1, q2, fun s hs => (q3 s hs).trans (hkeep _ s hs)⟩
    | true =>
      dsimp only [cond_true]
      intro hr
      split at hr
      · next v h1 h1r =>
        have hh := quiet_run hqa h1r
        subst hh
        rw [hca] at hr ⊢
        simp only [chkAll, cond_true] at hr ⊢
        have hrun : a.i.run call e2 hb (a.at_.map (base + ·)) = some (v, hb) := by
          rw [← run_congr g2]
          unfold I.run at h1r ⊢
          rcases hqa with hc | hc
          · rw [hc] at h1r ⊢
            dsimp only at h1r ⊢
            split at h1r
            · cases h1r; rfl
            · cases h1r
          · rw [hc] at h1r ⊢
            dsimp only at h1r ⊢
            split at h1r
            · next u hu =>
              cases h1r
              obtain ⟨da, hd1, hd2, hd3⟩ := hka hc
              have agree : ∀ s, s ∈ a.looks → ef.get s = e.get s := by
                intro s hs
                rw [← hf, runOps_keeps (s := s) (fun b hb e1 => (hp1 b hb hc s e1).1 hs) hr, get_layv, hd1, if_neg]
                intro e1; cases e1; exact hd2 hs
              have hv : ef.get da = some v := by
                rw [← hf, runOps_keeps (s := da) (fun b hb e1 => (hp1 b hb hc da e1).2 hd1) hr, get_layv, hd1, if_pos rfl]
              obtain ⟨v', r1, r2⟩ := hd3 (by rw [wanted_congr (e2 := e) fun s hs => agree s (by unfold Ins.looks; simp [hs])]; exact hw)
              rw [hv] at r2; cases r2
              rw [read_congr (e2 := e) fun s hs => agree s (by unfold Ins.looks; simp [hs])] at r1
              rw [r1]
            · cases h1r
        rw [hrun]
        dsimp only
        obtain ⟨e4, q1, q2, q3⟩ := runOps_behind (x.layv a.dst v) hq' hO' hk' hp' hf hr
        exact ⟨e4, q1, q2, fun s hs => (q3 s hs).trans (hkeep _ s hs)⟩
      · cases hr

/-- a comes ahead of b in the list, but b may come first. -/
structure Free (a b : Ins) : Prop where
  off : Off b.dst a
  nolook : ∀ d, a.dst = some d → d ∉ b.looks
  cls : b.i.cls ≠ .P → (a.i.cls = .E → b.i.cls = .A) ∧ (a.i.cls = .A → b.i.cls = .A) ∧
    (a.i.cls = .R → b.i.cls = .E → ∃ d, a.dst = some d ∧ (d, a.i, a.guard) ∈ b.chk)

structure Ok1 (a : Ins) : Prop where
  chk : a.i.cls ≠ .E → a.chk = []
  own : a.i.cls = .R → ∀ d, a.dst = some d → d ∉ a.looks

/-- A load ahead: what follows does not touch its slots. -/
def Keep (a b : Ins) : Prop := a.i.cls = .R → ∀ s, b.dst = some s → s ∉ a.looks ∧ a.dst ≠ some s

/-- An operation and what it leaves. -/
def One (call : Am.Call) (base : Nat) (b : Ins) (e : Env) (h : H) (v : V) (h1 : H) : Prop :=
  (wanted e b.guard = false ∧ v = .undef ∧ h1 = h) ∨ (wanted e b.guard = true ∧ b.i.run call e h (b.at_.map (base + ·)) = some (v, h1))

theorem comm (hC : CallF call) {pre post : List Ins} {b : Ins} {e e' : Env} {h h' : H} (hr : runOps call base (pre ++ b :: post) e h = some (e', h')) (hF : ∀ a ∈ pre, Free a b) (hok : ∀ a ∈ pre, Ok1 a) (hpw : pre.Pairwise Keep)
    (hat : ∀ k, b.at_ = some k → h.get (base + k) = none ∧ base + k < h.nx ∧ ∀ a ∈ pre, a.at_ ≠ some k) (hA : b.i.cls = .A → ∃ k, b.at_ = some k) :
    ∃ v h1, One call base b e h v h1 ∧ ∃ e2' h2', runOps call base (pre ++ post) (layv e b.dst v) h1 = some (e2', h2') ∧ (∀ s, e2'.get s = e'.get s) ∧ Ext (fun _ => none) h' h2' := by
  rw [runOps_append] at hr
  cases hp : runOps call base pre e h with
  | none => rw [hp] at hr; cases hr
  | some p =>
  obtain ⟨e1, h1⟩ := p
  rw [hp] at hr
  dsimp only at hr
  -- what b looks at is as before
  have hsame : ∀ s ∈ b.looks, e1.get s = e.get s := fun s hs => runOps_keeps (fun a ha e0 => (hF a ha).nolook s e0 hs) hp
  have hg : ∀ s ∈ gslots b.guard, e1.get s = e.get s := fun s hs => hsame s (by unfold Ins.looks; simp [hs])
  have hi : ∀ s ∈ b.i.slots, e1.get s = e.get s := fun s hs => hsame s (by unfold Ins.looks; simp [hs])
  -- the end
  have fin : ∀ (v : V) (hx hy : H), runOps call base post (layv e1 b.dst v) hx = some (e', h') → ∀ e3 h3, runOps call base pre (layv e b.dst v) hy = some (e3, h3) → EnvX b.dst e1 e3 →
      (∀ s, b.dst = some s → e3.get s = (layv e b.dst v).get s) → Ext (fun _ => none) hx h3 →
      ∃ e2' h2', runOps call base (pre ++ post) (layv e b.dst v) hy = some (e2', h2') ∧ (∀ s, e2'.get s = e'.get s) ∧ Ext (fun _ => none) h' h2' := by
    intro v hx hy h4 e3 h3 h5 h6 h7 h8
    rw [runOps_append, h5]
    dsimp only
    have hx' : EnvX none (layv e1 b.dst v) e3 := by
      intro s _
      rw [get_layv]
      split
      · next e0 => rw [h7 s e0, get_layv, if_pos e0]
      · next e0 => exact h6 s fun e9 => e0 e9.symm
    obtain ⟨e4, h4', q1, q2, _, q4⟩ := runOps_past hC hx' h8 (fun _ _ _ _ => rfl) (fun a _ => Off.none a) h4
    exact ⟨e4, h4', q1, fun s => q2 s (by simp), q4⟩
  have hx0 : ∀ v, EnvX b.dst e (layv e b.dst v) := fun v s hs => by rw [get_layv, if_neg fun e0 => hs e0.symm]
  have hO : ∀ a ∈ pre, Off b.dst a := fun a ha => (hF a ha).off
  have plain : ∀ v, runOps call base post (layv e1 b.dst v) h1 = some (e', h') → ∃ e2' h2', runOps call base (pre ++ post) (layv e b.dst v) h = some (e2', h2') ∧ (∀ s, e2'.get s = e'.get s) ∧ Ext (fun _ => none) h' h2' := by
    intro v h4
    obtain ⟨e3, h3, q1, q2, q3, q4⟩ := runOps_past hC (hx0 v) (Ext.refl h) (fun _ _ _ _ => rfl) hO hp
    exact fin v h1 h h4 e3 h3 q1 q2 q3 q4
  simp only [runOps] at hr
  rw [wanted_congr hg] at hr
  revert hr
  cases hw : wanted e b.guard with
  | false =>
    dsimp only [cond_false]
    intro hr
    exact ⟨.undef, h, .inl ⟨hw, rfl, rfl⟩, plain _ hr⟩
  | true =>
  dsimp only [cond_true]
  intro hr
  rw [run_congr hi] at hr
  split at hr
  · next v hb hbr =>
    revert hr
    cases hc : chkAll e1 hb b.chk with
    | false => intro hr; cases hr
    | true =>
    dsimp only [cond_true]
    intro hr
    cases hcl : b.i.cls with
    | P =>
      have hq : Quiet b := .inl hcl
      have := quiet_run hq hbr
      subst this
      refine ⟨v, h, .inr ⟨hw, ?_⟩, plain v hr⟩
      unfold I.run at hbr ⊢
      rw [hcl] at hbr ⊢
      dsimp only at hbr ⊢
      split at hbr
      · cases hbr; rfl
      · cases hbr
    | R =>
      have hqa : ∀ a ∈ pre, Quiet a := fun a ha => by
        have := (hF a ha).cls (by rw [hcl]; simp)
        cases ha' : a.i.cls with
        | P => exact .inl ha'
        | R => exact .inr ha'
        | A => have := this.2.1 ha'; rw [hcl] at this; cases this
        | E => have := this.1 ha'; rw [hcl] at this; cases this
      have hh := quiet_ops hqa hp
      subst hh
      have := quiet_run (.inr hcl) hbr
      subst this
      exact ⟨v, _, .inr ⟨hw, hbr⟩, plain v hr⟩
    | E =>
      have hqa : ∀ a ∈ pre, Quiet a := fun a ha => by
        have := (hF a ha).cls (by rw [hcl]; simp)
        cases ha' : a.i.cls with
        | P => exact .inl ha'
        | R => exact .inr ha'
        | A => have := this.2.1 ha'; rw [hcl] at this; cases this
        | E => have := this.1 ha'; rw [hcl] at this; cases this
      have hh := quiet_ops hqa hp
      subst hh
      have hqc : ∀ a ∈ pre, Quiet a ∧ a.chk = [] := fun a ha => ⟨hqa a ha, (hok a ha).chk fun e0 => by
        rcases hqa a ha with h9 | h9 <;> rw [h9] at e0 <;> cases e0⟩
      obtain ⟨e3, q1, q2, q3⟩ := runOps_behind (hb := hb) (ef := e1) (hx0 v) hqc hO (fun a ha hR => by
        obtain ⟨d, h6, h7⟩ := ((hF a ha).cls (by rw [hcl]; simp)).2.2 hR hcl
        refine ⟨d, h6, (hok a ha).own hR d h6, fun h8 => ?_⟩
        exact chk_mem hc _ h7 h8) hpw (fun _ => rfl) hp
      obtain ⟨e4, h4, r1⟩ := fin v hb hb hr e3 hb q1 q2 q3 (Ext.refl hb)
      exact ⟨v, hb, .inr ⟨hw, hbr⟩, e4, h4, r1⟩
    | A =>
      obtain ⟨k, hk⟩ := hA hcl
      obtain ⟨k1, k2, k3⟩ := hat k hk
      unfold I.run at hbr
      rw [hcl, hk] at hbr
      dsimp only [Option.map_some] at hbr
      split at hbr
      · next ob mk hm =>
        cases hbr
        have hx : Ext (fun j => if j = base + k then some ob else none) h (h.set (base + k) ob) := by
          refine ⟨rfl, fun j => ?_, fun j hj => ?_⟩
          · rw [H.get_set]
            by_cases e0 : j = base + k
            · subst e0; simp [k1]
            · simp [e0]
          · by_cases e0 : j = base + k
            · subst e0; exact ⟨k2, k1⟩
            · simp [e0] at hj
        obtain ⟨e3, h3, q1, q2, q3, q4⟩ := runOps_past hC (hx0 (mk (base + k))) hx (fun a ha k' hk' => by
          have hne : base + k' ≠ base + k := fun e0 => k3 a ha (by rw [hk']; congr 1; omega)
          exact if_neg hne) hO hp
        have hz : Ext (fun _ => none) (h1.set (base + k) ob) h3 := by
          refine ⟨q4.nx, fun j => ?_, fun j hj => absurd rfl hj⟩
          rw [H.get_set, q4.get]
          by_cases e0 : j = base + k
          · have := (q4.off j (by simp [e0])).2
            rw [this]; simp [e0]
          · simp [e0]
        obtain ⟨e4, h4, r1⟩ := fin _ _ _ hr e3 h3 q1 q2 q3 hz
        refine ⟨_, _, .inr ⟨hw, ?_⟩, e4, h4, r1⟩
        unfold I.run
        rw [hcl, hk]
        dsimp only [Option.map_some]
        rw [hm]
      · cases hbr
  · cases hr

end
end Am
