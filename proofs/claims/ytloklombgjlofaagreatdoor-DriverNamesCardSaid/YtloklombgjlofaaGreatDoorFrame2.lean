/- Code, functions and calls: a block that is not known changes nothing. -/
import Derived.Test.YtloklombgjlofaaGreatDoorFrame
namespace Am
open Go

/-- Code that knows nothing of other blocks; the memory grows. -/
def BodyF (body : Env → H → Res) : Prop := ∀ e h ex e' h', body e h = some (ex, e', h') → h.nx ≤ h'.nx ∧ ∀ X h2, Ext X h h2 → ∃ h2', body e h2 = some (ex, e', h2') ∧ Ext X h' h2'

/-- The memory grows. -/
def CallG (call : Am.Call) : Prop := ∀ tgt args h v h', call tgt args h = some (v, h') → h.nx ≤ h'.nx

section
variable {X : Nat → Option Obj} {h h2 h' : H} {call : Am.Call} {e : Env} {v : V}

theorem store_nx {b o : Nat} {vs : List V} (hl : h.store b o vs = some h') : h'.nx = h.nx := by
  unfold H.store at hl
  split at hl
  · revert hl
    generalize (Nat.ble _ _ && _) = c
    cases c with
    | false => intro hl; cases hl
    | true => intro hl; cases hl; rfl
  · cases hl

theorem append_nx {sz bytes : Nat} {a b : V} (hl : appendV h sz bytes a b = some (v, h')) : h.nx ≤ h'.nx := by
  unfold appendV at hl
  split at hl
  · cases hl
  split at hl
  · cases hl
  split at hl
  · next base len cap =>
    revert hl
    generalize (Nat.ble _ _ && Nat.ble _ _) = c
    cases c with
    | false => intro hl; cases hl
    | true =>
    dsimp only [cond_true]
    generalize (_ == 0) = c
    cases c with
    | true => intro hl; cases hl; exact Nat.le_refl _
    | false =>
    dsimp only [cond_false]
    intro hl
    split at hl
    · simp only [newRow, Option.some.injEq, Prod.mk.injEq] at hl
      rw [← hl.2]; simp
    · revert hl
      generalize (Nat.ble _ _) = c
      cases c with
      | true =>
        dsimp only [cond_true]
        intro hl
        split at hl
        · next hs => cases hl; rw [store_nx hs]; exact Nat.le_refl _
        · cases hl
      | false =>
        dsimp only [cond_false]
        intro hl
        split at hl
        · simp only [newRow, Option.some.injEq, Prod.mk.injEq] at hl
          rw [← hl.2]; simp
        · cases hl
    · split at hl
      · revert hl
        generalize (_ && _ && _) = c
        cases c with
        | false => intro hl; cases hl
        | true =>
          dsimp only [cond_true]
          intro hl
          simp only [newRow, Option.some.injEq, Prod.mk.injEq] at hl
          rw [← hl.2]; simp
      · cases hl
  · cases hl

theorem copy_nx {sz : Nat} {a b : V} (hl : copyV h sz a b = some (v, h')) : h.nx ≤ h'.nx := by
  unfold copyV at hl
  split at hl
  · dsimp only at hl
    split at hl
    · cases hl
    revert hl
    generalize List.isEmpty _ = c
    cases c with
    | true => intro hl; cases hl; exact Nat.le_refl _
    | false =>
      dsimp only [cond_false]
      intro hl
      split at hl
      · cases hl
      · split at hl
        · next hs => cases hl; rw [store_nx hs]; exact Nat.le_refl _
        · cases hl
  · cases hl

theorem eff_nx (hG : CallG call) {i : I} (hr : i.eff call e h = some (v, h')) : h.nx ≤ h'.nx := by
  cases i <;> simp only [I.eff] at hr <;> try (cases hr; done)
  case mark a =>
    split at hr
    · split at hr
      · simp only [cond_eq_ite] at hr
        split at hr
        · cases hr; exact Nat.le_refl _
        · cases hr
      · cases hr
    · cases hr
  case store n a y =>
    split at hr
    · next u _ _ =>
      revert hr
      generalize (u.cells.length == n) = c
      cases c with
      | false => intro hr; cases hr
      | true =>
        dsimp only [cond_true]
        intro hr
        split at hr
        · next hs => cases hr; rw [store_nx hs]; exact Nat.le_refl _
        · cases hr
    · cases hr
  case mput ks a b c =>
    split at hr
    · split at hr
      · split at hr
        · cases hr; simp
        · cases hr; simp
        · cases hr
      · cases hr
    · cases hr
  case mentry ks z a b =>
    split at hr
    · split at hr
      · split at hr
        · cases hr; simp
        · cases hr; simp
        · cases hr
      · cases hr
    · cases hr
  case mestore a b c =>
    split at hr
    · split at hr
      · split at hr
        · split at hr
          · cases hr; simp
          · cases hr
        · cases hr
      · cases hr
    · cases hr
  case mdel ks a b =>
    split at hr
    · split at hr
      · cases hr; simp
      · cases hr
    · split at hr
      · split at hr
        · cases hr; simp
        · cases hr; simp
        · cases hr
      · cases hr
    · cases hr
  case range str a =>
    split at hr
    · cases hr; simp
    · cases hr; simp
    · split at hr
      · cases hr; simp
      · cases hr
    · cases hr
  case next str a =>
    split at hr
    · split at hr
      · split at hr
        · cases hr; exact Nat.le_refl _
        · revert hr
          generalize Nat.blt _ _ = c
          cases c with
          | false => intro hr; cases hr
          | true => intro hr; cases hr; simp
      · cases hr; exact Nat.le_refl _
      · split at hr
        · revert hr
          generalize allNew _ _ _ = c
          cases c with
          | true => intro hr; cases hr
          | false =>
            dsimp only [cond_false]
            intro hr
            split at hr
            · cases hr; exact Nat.le_refl _
            · revert hr
              generalize Nat.blt _ _ = c
              cases c with
              | false => intro hr; cases hr
              | true => intro hr; cases hr; simp
            · cases hr
        · cases hr
      · cases hr
    · cases hr
  case call f l =>
    split at hr
    · exact hG _ _ _ _ _ hr
    · cases hr
  case callv y l =>
    split at hr
    · exact hG _ _ _ _ _ hr
    · exact hG _ _ _ _ _ hr
    · cases hr
  case callb ms y l =>
    split at hr
    · exact hG _ _ _ _ _ hr
    · exact hG _ _ _ _ _ hr
    · split at hr
      · split at hr
        · exact hG _ _ _ _ _ hr
        · cases hr
      · cases hr
    · cases hr
  case invoke tbl y l =>
    split at hr
    · split at hr
      · exact hG _ _ _ _ _ hr
      · cases hr
    · cases hr
  case append a b y z =>
    split at hr
    · exact append_nx hr
    · cases hr
  case copy a y z =>
    split at hr
    · exact copy_nx hr
    · cases hr

theorem run_nx (hG : CallG call) {i : I} {at_ : Option Nat} (hr : i.run call e h at_ = some (v, h')) : h.nx ≤ h'.nx := by
  unfold I.run at hr
  cases hc : i.cls <;> simp only [hc] at hr
  · split at hr
    · cases hr; exact Nat.le_refl _
    · cases hr
  · split at hr
    · cases hr; exact Nat.le_refl _
    · cases hr
  · split at hr
    · split at hr
      · cases hr; simp
      · cases hr; simp
    · cases hr
  · exact eff_nx hG hr

/-- Operations, one after another. -/
theorem Ext.runOps (hC : CallF call) (hG : CallG call) {base : Nat} : ∀ {l : List Ins} {e e' : Env} {h h2 h' : H}, Ext X h h2 → (∀ k, base ≤ k → X k = none) → runOps call base l e h = some (e', h') →
    h.nx ≤ h'.nx ∧ ∃ h2', Am.runOps call base l e h2 = some (e', h2') ∧ Ext X h' h2'
  | [], e, e', h, h2, h', x, _, hr => by cases hr; exact ⟨Nat.le_refl _, _, rfl, x⟩
  | s :: r, e, e', h, h2, h', x, hX, hr => by
    simp only [Am.runOps] at hr ⊢
    revert hr
    cases wanted e s.guard with
    | false => exact fun hr => Ext.runOps hC hG x hX hr
    | true =>
      dsimp only [cond_true]
      intro hr
      split at hr
      · next v h1 h1r =>
        obtain ⟨h3, e3, x3⟩ := x.run hC (fun b hb => by
          cases ha : s.at_ with
          | none => rw [ha] at hb; cases hb
          | some k => rw [ha] at hb; cases hb; exact hX _ (Nat.le_add_right _ _)) h1r
        rw [e3]
        dsimp only
        revert hr
        cases hc : chkAll e h1 s.chk with
        | false => intro hr; cases hr
        | true =>
          dsimp only [cond_true]
          intro hr
          rw [x3.chk hc]
          have := Ext.runOps hC hG x3 hX hr
          exact ⟨Nat.le_trans (run_nx hG h1r) this.1, this.2⟩
      · cases hr

theorem iterF {body : Env → H → Res} (hB : BodyF body) (live : List Nat) : ∀ n, BodyF (iter body live n)
  | 0 => fun e h ex e' h' hr => by cases hr
  | n + 1 => fun e h ex e' h' hr => by
    simp only [iter] at hr ⊢
    split at hr
    · next e1 h1 hb =>
      have h3 := hB _ _ _ _ _ hb
      have h4 := iterF hB live n _ _ _ _ _ hr
      refine ⟨Nat.le_trans h3.1 h4.1, fun X h2 x => ?_⟩
      obtain ⟨h5, e5, x5⟩ := h3.2 X h2 x
      rw [e5]
      exact h4.2 X h5 x5
    · next hb =>
      have h3 := hB _ _ _ _ _ hr
      refine ⟨h3.1, fun X h2 x => ?_⟩
      obtain ⟨h5, e5, x5⟩ := h3.2 X h2 x
      rw [e5]
      have hne : ex ≠ .normal := fun e0 => hb e' h' (by rw [hr, e0])
      split
      · next e1 => cases e1; exact absurd rfl hne
      · exact ⟨_, rfl, x5⟩

theorem D_F (hC : CallF call) (hG : CallG call) (fuel : Nat) : ∀ c, BodyF (D call fuel c)
  | .skip => fun e h ex e' h' hr => by cases hr; exact ⟨Nat.le_refl _, fun X h2 x => ⟨_, rfl, x⟩⟩
  | .label _ => fun e h ex e' h' hr => by cases hr; exact ⟨Nat.le_refl _, fun X h2 x => ⟨_, rfl, x⟩⟩
  | .exit _ => fun e h ex e' h' hr => by cases hr; exact ⟨Nat.le_refl _, fun X h2 x => ⟨_, rfl, x⟩⟩
  | .ret => fun e h ex e' h' hr => by cases hr; exact ⟨Nat.le_refl _, fun X h2 x => ⟨_, rfl, x⟩⟩
  | .scope b => D_F hC hG fuel b
  | .loop live b => iterF (D_F hC hG fuel b) live fuel
  | .region res ops keep => fun e h ex e' h' hr => by
    simp only [D] at hr ⊢
    split at hr
    · next e1 h1 hb =>
      cases hr
      refine ⟨?_, fun X h2 x => ?_⟩
      · have := (Ext.runOps hC hG (Ext.refl _) (fun _ _ => rfl) hb).1
        simp at this; omega
      · have := (Ext.runOps hC hG (x.reserve res) (fun k hk => x.none_nx hk) hb).2
        obtain ⟨h3, e3, x3⟩ := this
        rw [x.nx, e3]
        exact ⟨_, rfl, x3⟩
    · cases hr
  | .seq a b => fun e h ex e' h' hr => by
    simp only [D] at hr ⊢
    split at hr
    · next e1 h1 hb =>
      have h3 := D_F hC hG fuel a _ _ _ _ _ hb
      have h4 := D_F hC hG fuel b _ _ _ _ _ hr
      refine ⟨Nat.le_trans h3.1 h4.1, fun X h2 x => ?_⟩
      obtain ⟨h5, e5, x5⟩ := h3.2 X h2 x
      rw [e5]
      exact h4.2 X h5 x5
    · next hb =>
      have h3 := D_F hC hG fuel a _ _ _ _ _ hr
      refine ⟨h3.1, fun X h2 x => ?_⟩
      obtain ⟨h5, e5, x5⟩ := h3.2 X h2 x
      rw [e5]
      have hne : ex ≠ .normal := fun e0 => hb e' h' (by rw [hr, e0])
      split
      · next e1 => cases e1; exact absurd rfl hne
      · exact ⟨_, rfl, x5⟩
  | .cond c a b => fun e h ex e' h' hr => by
    simp only [D] at hr ⊢
    split at hr
    · exact D_F hC hG fuel a _ _ _ _ _ hr
    · exact D_F hC hG fuel b _ _ _ _ _ hr
    · cases hr
  | .block id b => fun e h ex e' h' hr => by
    simp only [D] at hr ⊢
    split at hr
    · next id' e1 h1 hb =>
      have h3 := D_F hC hG fuel b _ _ _ _ _ hb
      have hh : h' = h1 := by
        revert hr
        cases (id' == id) <;> intro hr <;> cases hr <;> rfl
      subst hh
      refine ⟨h3.1, fun X h2 x => ?_⟩
      obtain ⟨h5, e5, x5⟩ := h3.2 X h2 x
      rw [e5]
      dsimp only
      revert hr
      cases (id' == id) <;> intro hr <;> cases hr <;> exact ⟨_, rfl, x5⟩
    · next hb =>
      have h3 := D_F hC hG fuel b _ _ _ _ _ hr
      refine ⟨h3.1, fun X h2 x => ?_⟩
      obtain ⟨h5, e5, x5⟩ := h3.2 X h2 x
      rw [e5]
      have hne : ∀ id', ex ≠ .exit id' := fun id' e0 => hb id' e' h' (by rw [hr, e0])
      split
      · next e1 => cases e1; exact absurd rfl (hne _)
      · exact ⟨_, rfl, x5⟩
  | .rangeFunc f ps live a b => fun e h ex e' h' hr => by
    simp only [D] at hr ⊢
    split at hr
    · next g cap hf =>
      split at hr
      · next v h1 hc =>
        have g1 := hG _ _ _ _ _ hc
        simp only [H.nx_new] at g1
        split at hr
        · next st pend x1 x2 x3 x4 hl =>
          have key : h.nx ≤ h'.nx ∧ h' = h1.kill h.nx := by
            split at hr
            · cases hr
            · split at hr <;> cases hr <;> exact ⟨by simp; omega, rfl⟩
          refine ⟨key.1, fun X h2 x => ?_⟩
          obtain ⟨h5, e5, x5⟩ := hC _ _ _ _ _ hc X _ (x.new _)
          rw [x.nx, e5]
          dsimp only
          rw [x5.has hl]
          dsimp only
          have hk := x5.kill (x.none_nx (Nat.le_refl _))
          rw [key.2]
          split at hr
          · cases hr
          · split at hr <;> cases hr <;> exact ⟨_, rfl, hk⟩
        · cases hr
      · cases hr
    · cases hr

/-- One result. -/
def rvOf (e : Env) (h : H) : RV → Option V
  | .tmp s => e.get s
  | .cell1 s => match e.get s with
    | some (.ptr (some (b, o))) => h.load1 b o
    | _ => none
  | .cellN s n => match e.get s with
    | some (.ptr (some (b, o))) => match h.load b o n with
      | some l => some (.agg l)
      | none => none
    | _ => none

theorem resOf_cons (e : Env) (h : H) (r : RV) (rs : List RV) : resOf e h (r :: rs) = match rvOf e h r, resOf e h rs with
    | some v, some l => some (v :: l)
    | _, _ => none := by
  cases r <;> rfl

theorem rvOf_F {h h2 : H} (x : Ext X h h2) {e : Env} {r : RV} {v : V} (h1 : rvOf e h r = some v) : rvOf e h2 r = some v := by
  cases r with
  | tmp s => exact h1
  | cell1 s =>
    simp only [rvOf] at h1 ⊢
    split at h1
    · next hp => exact x.load1 h1
    · cases h1
  | cellN s n =>
    simp only [rvOf] at h1 ⊢
    split at h1
    · next hp =>
      split at h1
      · next hl => rw [x.load hl]; exact h1
      · cases h1
    · cases h1

theorem resOf_F {h h2 : H} (x : Ext X h h2) {e : Env} : ∀ {l : List RV} {vs : List V}, resOf e h l = some vs → resOf e h2 l = some vs
  | [], _, hr => hr
  | r :: rs, vs, hr => by
    rw [resOf_cons] at hr ⊢
    split at hr
    · next v l h1 h3 => rw [resOf_F x h3, rvOf_F x h1]; exact hr
    · cases hr

theorem runFn_F (hC : CallF call) (hG : CallG call) {fuel : Nat} {fn : AFn} {args : List V} (hr : runFn call fuel fn args h = some (v, h')) :
    h.nx ≤ h'.nx ∧ ∀ X h2, Ext X h h2 → ∃ h2', runFn call fuel fn args h2 = some (v, h2') ∧ Ext X h' h2' := by
  simp only [runFn] at hr ⊢
  revert hr
  generalize (args.length == fn.np) = c
  cases c with
  | false => intro hr; cases hr
  | true =>
    dsimp only [cond_true]
    intro hr
    split at hr
    · cases hr
    · next ex e1 h1 hne hd =>
      split at hr
      · next l hl =>
        cases hr
        have h3 := D_F hC hG fuel _ _ _ _ _ _ hd
        refine ⟨h3.1, fun X h2 x => ?_⟩
        obtain ⟨h5, e5, x5⟩ := h3.2 X h2 x
        rw [e5]
        split
        · next e6 => cases e6; exact absurd rfl (hne _)
        · next e6 => cases e6; rw [resOf_F x5 hl]; exact ⟨_, rfl, x5⟩
        · next e6 => cases e6
      · cases hr
    · cases hr

theorem runRound_F (hC : CallF call) (hG : CallG call) {fuel l : Nat} {args : List V} (hr : runRound call fuel l args h = some (v, h')) :
    h.nx ≤ h'.nx ∧ ∀ X h2, Ext X h h2 → ∃ h2', runRound call fuel l args h2 = some (v, h2') ∧ Ext X h' h2' := by
  simp only [runRound] at hr ⊢
  split at hr
  · next st pd ps env a b hl =>
    split at hr
    · cases hr
    · next e0 he0 =>
      split at hr
      · next e1 h1 ha =>
        have f1 := D_F hC hG fuel _ _ _ _ _ _ ha
        split at hr
        · next ps1 en1 a1 b1 hl1 =>
          split at hr
          · next ex e3 h3 hb =>
            have f2 := D_F hC hG fuel _ _ _ _ _ _ hb
            simp only [H.nx_set] at f2
            split at hr
            · next st3 pd3 ps3 en3 a3 b3 hl3 =>
              have key : h'.nx = h3.nx := by split at hr <;> cases hr <;> rfl
              refine ⟨by rw [key]; exact Nat.le_trans f1.1 f2.1, fun X h2 x => ?_⟩
              rw [x.has hl]
              dsimp only
              rw [he0]
              dsimp only
              obtain ⟨h5, e5, x5⟩ := f1.2 X h2 x
              rw [e5]
              dsimp only
              rw [x5.has hl1]
              dsimp only
              obtain ⟨h6, e6, x6⟩ := f2.2 X _ (x5.set (x5.none_of hl1) _)
              rw [e6]
              dsimp only
              rw [x6.has hl3]
              dsimp only
              split at hr <;> cases hr <;> exact ⟨_, rfl, x6.set (x6.none_of hl3) _⟩
            · cases hr
          · cases hr
        · cases hr
      · cases hr
  · cases hr

end

/-- Functions that are given, not run: they know nothing of other blocks. -/
def PrimsF (P : Prog) : Prop := ∀ f p, assoc P.prims f = some p → ∀ args h v h', p args h = some (v, h') → h.nx ≤ h'.nx ∧ ∀ X h2, Ext X h h2 → ∃ h2', p args h2 = some (v, h2') ∧ Ext X h' h2'

theorem callN_F {P : Prog} (hP : PrimsF P) (fuel : Nat) : ∀ n, CallF (callN P fuel n) ∧ CallG (callN P fuel n)
  | 0 => ⟨fun tgt args h v h' hr => by simp [callN] at hr, fun tgt args h v h' hr => by simp [callN] at hr⟩
  | n + 1 => by
    have ih := callN_F hP fuel n
    have key : ∀ tgt args h v h', callN P fuel (n + 1) tgt args h = some (v, h') → h.nx ≤ h'.nx ∧ ∀ X h2, Ext X h h2 → ∃ h2', callN P fuel (n + 1) tgt args h2 = some (v, h2') ∧ Ext X h' h2' := by
      intro tgt args h v h' hr
      cases tgt with
      | fn f =>
        simp only [callN] at hr ⊢
        split at hr
        · next p hp => exact hP f p hp _ _ _ _ hr
        · split at hr
          · exact runFn_F ih.1 ih.2 hr
          · cases hr
      | yld l =>
        simp only [callN] at hr ⊢
        exact runRound_F ih.1 ih.2 hr
    exact ⟨fun tgt args h v h' hr => (key tgt args h v h' hr).2, fun tgt args h v h' hr => (key tgt args h v h' hr).1⟩

end Am
