/- Code in the model. -/
import Derived.Test.YtloklombgjlofaaGreatDoorLoop
namespace Am
open Go

def Ends (ex : Ex) (k k' : List Item) : Prop :=
  match ex with
  | .normal => k' = k
  | .exit id => ∃ k'', k' = .code (.exit id) :: k'' ∧ exitTo id k'' = exitTo id k
  | .ret => ∃ k'', k' = .code .ret :: k''

/-- The model's run of some items. -/
def Out (P : Program) (C : Cx) (N : Nat) (fn : FuncId) (ro : Option Nat) (m : Mp) (h : H) (w : World) (t : Array Value) (todo : List Item) (ex : Ex) (e' : Env) (h' : H) : Prop :=
  ∀ k ds cs, ∃ m' w' t' ms k', Step P C N m h w m' h' w' ∧ ERel m' e' t' ∧ t'.size = t.size ∧ Mk m' h' w' ms ∧ (∀ r ∈ ms, w.heap.size ≤ r) ∧ (∀ l, ro = some l → ms = []) ∧
    Ends ex k k' ∧ Steps P (lone (Fm fn ro t (todo ++ k) ds) cs w) (lone (Fm fn ro t' k' (ms.map markOf ++ ds)) cs w')

/-- Code that does what the abstract code says. -/
def CodeOk (P : Program) (C : Cx) (nt : Nat) (body : Env → H → Res) (c : Code) : Prop := ∀ N fn ro m h w t e ex e' h', body e h = some (ex, e', h') → GOk C m → HRel P C m h w → ERel m e t → nt ≤ t.size → N ≤ h.nx → RoOk w ro →
  Out P C N fn ro m h w t [.code c] ex e' h'

section
variable {P : Program} {C : Cx} {N : Nat} {fn : FuncId} {ro : Option Nat} {m : Mp} {h h' h1 : H} {w : World} {t : Array Value} {todo todo' : List Item} {ex : Ex} {e e' e1 : Env}

theorem Out.same (hR : HRel P C m h w) (he : ERel m e t) (hs : ∀ k ds cs, ∃ k', Ends ex k k' ∧ Steps P (lone (Fm fn ro t (todo ++ k) ds) cs w) (lone (Fm fn ro t k' ds) cs w)) : Out P C N fn ro m h w t todo ex e h :=
  fun k ds cs => let ⟨k', h1, h2⟩ := hs k ds cs; ⟨m, w, t, [], k', Step.refl N hR, he, rfl, Mk.nil _ _ _, fun r hr => by simp at hr, fun _ _ => rfl, h1, h2⟩

theorem Out.pre (hs : ∀ k ds cs, step P (lone (Fm fn ro t (todo ++ k) ds) cs w) = .next (lone (Fm fn ro t (todo' ++ k) ds) cs w)) (o : Out P C N fn ro m h w t todo' ex e' h') : Out P C N fn ro m h w t todo ex e' h' := by
  intro k ds cs
  obtain ⟨m', w', t', ms, k', q1, q2, q3, q4, q5, q6, h1, h2⟩ := o k ds cs
  exact ⟨m', w', t', ms, k', q1, q2, q3, q4, q5, q6, h1, .head (hs k ds cs) h2⟩

/-- Then more. -/
theorem Out.then (o : Out P C N fn ro m h w t todo .normal e1 h1) (hG : GOk C m) (hro : RoOk w ro)
    (o2 : ∀ m1 w1 t1, GOk C m1 → HRel P C m1 h1 w1 → ERel m1 e1 t1 → t1.size = t.size → h.nx ≤ h1.nx → RoOk w1 ro → Out P C N fn ro m1 h1 w1 t1 todo' ex e' h') : Out P C N fn ro m h w t (todo ++ todo') ex e' h' := by
  intro k ds cs
  obtain ⟨m1, w1, t1, ms1, k1, q1, q2, q3, q4, q5, q6, h2, h3⟩ := o (todo' ++ k) ds cs
  have : k1 = todo' ++ k := h2
  subst this
  obtain ⟨m2, w2, t2, ms2, k2, r1, r2, r3, r4, r5, r6, h4, h5⟩ := o2 m1 w1 t1 (hG.mono q1.mono) q1.rel q2 q3 q1.nx (hro.step q1) k (ms1.map markOf ++ ds) cs
  refine ⟨m2, w2, t2, ms2 ++ ms1, k2, q1.trans r1, r2, r3.trans q3, (q4.step r1).append r4 (fun r hr => lt_of_some (q4.2 r hr).1) r5, fun r hr => ?_, fun l hl => by rw [q6 l hl, r6 l hl]; rfl, h4, ?_⟩
  · rcases List.mem_append.1 hr with hr | hr
    · exact Nat.le_trans q1.size (r5 r hr)
    · exact q5 r hr
  · rw [List.append_assoc, List.map_append, List.append_assoc]
    exact h3.trans h5

/-- It leaves before the rest. -/
theorem Out.leaves (o : Out P C N fn ro m h w t todo ex e' h') (hne : ex ≠ .normal) (hk : ∀ id k, ex = .exit id → exitTo id (todo' ++ k) = exitTo id k) : Out P C N fn ro m h w t (todo ++ todo') ex e' h' := by
  intro k ds cs
  obtain ⟨m1, w1, t1, ms1, k1, q1, q2, q3, q4, q5, q6, h2, h3⟩ := o (todo' ++ k) ds cs
  rw [List.append_assoc]
  refine ⟨m1, w1, t1, ms1, k1, q1, q2, q3, q4, q5, q6, ?_, h3⟩
  cases ex with
  | normal => exact absurd rfl hne
  | exit id =>
    obtain ⟨k2, h4, h5⟩ := h2
    exact ⟨k2, h4, h5.trans (hk id k rfl)⟩
  | ret => exact h2

theorem iter_ok {nt : Nat} {body : Env → H → Res} {c : Code} {live : List Nat} (hB : CodeOk P C nt body c) : ∀ n, CodeOk P C nt (iter body live n) (.loop c) := by
  have key : ∀ n N fn ro m h w t e ex e' h', iter body live n e h = some (ex, e', h') → GOk C m → HRel P C m h w → ERel m e t → nt ≤ t.size → N ≤ h.nx → RoOk w ro → Out P C N fn ro m h w t [.code c, .inLoop c] ex e' h' := by
    intro n
    induction n with
    | zero => intro N fn ro m h w t e ex e' h' hr; cases hr
    | succ n ih =>
      intro N fn ro m h w t e ex e' h' hr hG hR he hnt hN hro
      simp only [iter] at hr
      split at hr
      · next e1 h1 hb =>
        have o1 := hB N fn ro m h w t _ _ _ _ hb hG hR (he.only live) hnt hN hro
        refine o1.then hG hro fun m1 w1 t1 g1 r1 b1 z1 x1 y1 => ?_
        exact Out.pre (todo' := [.code c, .inLoop c]) (fun k ds cs => st_inLoop) (ih N fn ro m1 h1 w1 t1 _ _ _ _ hr g1 r1 b1 (by omega) (by omega) y1)
      · next hb =>
        have hne : ex ≠ .normal := fun e0 => hb e' h' (by rw [hr, e0])
        exact (hB N fn ro m h w t _ _ _ _ hr hG hR (he.only live) hnt hN hro).leaves (todo' := [.inLoop c]) hne fun id k _ => rfl
  intro n N fn ro m h w t e ex e' h' hr hG hR he hnt hN hro
  exact Out.pre (fun k ds cs => st_loop) (key n N fn ro m h w t e ex e' h' hr hG hR he hnt hN hro)

theorem st_rangeFunc_value {f : Operand} {ps : Array Tmp} {a b : Code} {l : Nat} {mk : List Deferred} {w1 : World} {k : List Item} {ds : List Deferred} {cs : List Frame} (hl : (Instr.enterLoop fn t ps a b ro).run P w = .ok (l, mk) w1) {x : Value} {w2 : World}
    (hr : (do let d ← resolve (evT t) { callee := .value f, args := #[.const (.func (.yield l) #[] #[])], argTypes := #[] } 0; invoke d.target d.args : Sem Next).run P w1 = .ok (.value x) w2) :
    step P (lone (Fm fn ro t (.code (.rangeFunc f ps a b) :: k) ds) cs w) = .next (lone (Fm fn ro t (.endRangeFunc l :: k) (mk ++ ds)) cs w2) := by
  refine step_lone_go ?_
  have he := eval_Fm fn ro t (.inRangeFunc l :: k) (mk ++ ds)
  simp only [Fm] at he
  simp [stepG, stepG.exec, Fm, Sem.runT_eq, hl, stepG.apply, he] at hr ⊢
  simp [hr, Frame.finish]

theorem rangeFunc_ok {call : Am.Call} (hC : CallOk P C call) {nt fuel : Nat} {f : Opd} {f' : Operand} {ps : List Nat} {ps' : Array Tmp} {live : List Nat} {ca cb : AC} {a b : Code} (hf : opdM C f f' = true) (hps : ps = ps'.toList) (hpn : ps.all (Nat.blt · nt) = true)
    (ha : codeM P C nt ca a = true) (hb : codeM P C nt cb b = true) : CodeOk P C nt (D call fuel (.rangeFunc f ps live ca cb)) (.rangeFunc f' ps' a b) := by
  intro N fn ro m h w t e ex e' h' hr hG hR he hnt hN hro k ds cs
  subst hps
  simp only [D] at hr
  split at hr
  · next g cap hfe =>
    split at hr
    · next v h2 hc =>
      obtain ⟨m1, w1, l, ms, q1, q2, ⟨loc, q3, q3'⟩, q4, q5, q6⟩ := enter_loop (fn := fn) (ro := ro) (e := e.only live) hR (Nat.le_refl h.nx) hro (he.only live) hnt hpn ha hb
      subst q3'
      obtain ⟨xs, hfx, hcap⟩ := opd_sound (t := t) hG he hf hfe
      have hargs : VRels m1 (.yld h.nx :: cap) (#[Value.func (.yield loc.β) #[] #[]] ++ xs).toList := by
        rw [Array.toList_append]
        exact ⟨_, _, rfl, ⟨loc, q3, rfl⟩, hcap.mono q2.mono⟩
      obtain ⟨m2, w2, x, r1, r2, r3⟩ := hC _ _ _ _ _ hc m1 w1 _ q2.rel (hG.mono q2.mono) hargs (Fm fn ro t (.inRangeFunc loc.β :: k) (ms.map markOf ++ ds)) cs
      have hres : (do let d ← resolve (evT t) { callee := .value f', args := #[.const (.func (.yield loc.β) #[] #[])], argTypes := #[] } 0; invoke d.target d.args : Sem Next).run P w1 = (callFunc g (#[Value.func (.yield loc.β) #[] #[]] ++ xs)).run P w1 := by
        simp only [Sem.run_bind, resolve, hfx, Deferred.ofValue, Sem.run_pure, Result.andThen_ok, invoke]
        simp [evT]
      split at hr
      · next st pd p1 en1 a1 b1 hl2 =>
        obtain ⟨loc2, L, nt2, s1, s2, s3, s4, s5, s6, s7, s8, s9, s10⟩ := loop_obj r1.rel hl2
        have : loc2 = loc := by rw [r1.mono _ _ q3] at s1; cases s1; rfl
        subst this
        have key : st ≠ .busy ∧ e' = e ∧ h' = h2.kill h.nx ∧ ex = pd.getD .normal := by
          split at hr
          · cases hr
          · next hst =>
            refine ⟨fun e0 => hst e0, ?_⟩
            split at hr <;> cases hr <;> exact ⟨rfl, rfl, rfl⟩
        obtain ⟨hst, rfl, rfl, hex⟩ := key
        have hlt := lt_of_some s2
        have u1 := step_loop (N := h.nx) (st' := .exhausted) r1.rel hl2 (r1.mono _ _ q3) s2 s4
        have u2 := step_kill (N := h.nx) (b := h.nx) u1.rel
        have u3 := u2.congr (h' := h2.kill h.nx) ⟨rfl, fun j => by rw [H.get_kill, H.get_set, H.get_kill]; by_cases e0 : j = h.nx <;> simp [e0], fun j hj => absurd rfl hj⟩
        have hend : (Instr.endLoop loc2.β).run P w2 = .ok L.pending { w2 with heap := w2.heap.setIfInBounds loc2.β (.loop { L with state := .exhausted, pending := L.pending }) } := by
          have hb2 : (L.state == LoopState.busy) = false := by
            cases hs : (L.state == LoopState.busy) with
            | false => rfl
            | true => exact absurd ((beq_iff_eq.1 hs).symm.trans s3).symm hst
          simp only [Instr.endLoop, Sem.run_bind, run_getLoop s2, Result.andThen_ok, hb2]
          simp [run_setLoop s2]
        have tot := (r1.weaken (N' := h.nx) (by simp)).trans (u1.trans u3)
        have tot2 := q2.trans tot
        have go : Steps P (lone (Fm fn ro t ([.code (.rangeFunc f' ps' a b)] ++ k) ds) cs w) (lone (Fm fn ro t (.endRangeFunc loc2.β :: k) (ms.map markOf ++ ds)) cs w2) := by
          rcases r3 with r3 | ⟨r3, r4⟩
          · exact .one (st_rangeFunc_value q1 (hres.trans r3))
          · refine .head (st_rangeFunc q1 (hres.trans r3)) ?_
            rw [finish_inRange] at r4
            exact r4
        refine ⟨m2, _, t, ms, (L.pending.map Item.code).toList ++ k, tot2.weaken hN, he.mono tot2.mono, rfl, q4.step tot, q5, q6, ?_, go.trans (.one (st_endRange hend))⟩
        subst hex
        cases pd with
        | none => rw [show L.pending = none from s4]; rfl
        | some x =>
          cases x with
          | normal => exact s4.elim
          | exit id => rw [show L.pending = some (.exit id) from s4]; exact ⟨k, rfl, rfl⟩
          | ret => rw [show L.pending = some .ret from s4]; exact ⟨k, rfl⟩
      · cases hr
    · cases hr
  · cases hr

theorem D_ok {call : Am.Call} (hT : TOk P C) (hC : CallOk P C call) (hF : CallF call) (hmix : P.follows .mixedOrders = true) {nt fuel : Nat} : ∀ (c : AC) (c' : Code), codeM P C nt c c' = true → CodeOk P C nt (D call fuel c) c'
  | .skip, c', hM => by
    cases c' <;> simp [codeM] at hM
    intro N fn ro m h w t e ex e' h' hr hG hR he hnt hN hro
    cases hr
    exact Out.same hR he fun k ds cs => ⟨k, rfl, .one st_skip⟩
  | .label l, c', hM => by
    cases c' <;> simp [codeM] at hM
    intro N fn ro m h w t e ex e' h' hr hG hR he hnt hN hro
    cases hr
    exact Out.same hR he fun k ds cs => ⟨k, rfl, .one st_label⟩
  | .exit id, c', hM => by
    cases c' <;> simp [codeM] at hM
    intro N fn ro m h w t e ex e' h' hr hG hR he hnt hN hro
    cases hr; subst hM
    exact Out.same hR he fun k ds cs => ⟨_, ⟨k, rfl, rfl⟩, .refl _ _⟩
  | .ret, c', hM => by
    cases c' <;> simp [codeM] at hM
    intro N fn ro m h w t e ex e' h' hr hG hR he hnt hN hro
    cases hr
    exact Out.same hR he fun k ds cs => ⟨_, ⟨k, rfl⟩, .refl _ _⟩
  | .scope b, c', hM => by
    cases c' <;> simp [codeM] at hM
    next b' =>
    intro N fn ro m h w t e ex e' h' hr hG hR he hnt hN hro
    have o := D_ok hT hC hF hmix b b' hM N fn ro m h w t e ex e' h' hr hG hR he hnt hN hro
    refine Out.pre (todo' := [.code b', .inScope b']) (fun k ds cs => st_scope) ?_
    by_cases hne : ex = .normal
    · subst hne
      exact o.then hG hro fun m1 w1 t1 g1 r1 b1 z1 x1 y1 => Out.same r1 b1 fun k ds cs => ⟨k, rfl, .one st_inScope⟩
    · exact o.leaves (todo' := [.inScope b']) hne fun id k _ => rfl
  | .region res ops keep, c', hM => by
    cases c' <;> simp [codeM] at hM
    next id ops' draw =>
    intro N fn ro m h w t e ex e' h' hr hG hR he hnt hN hro
    simp only [D] at hr
    split at hr
    · next e1 h1 hb =>
      cases hr
      intro k ds cs
      obtain ⟨m', w', t', q1, q2, q3, q4⟩ := region_sound hT hC hF hmix hM hG hR he hnt hN hb fn id ro k ds cs
      exact ⟨m', w', t', [], k, q1, q2.only keep, q3, Mk.nil _ _ _, fun r hr => by simp at hr, fun _ _ => rfl, rfl, q4⟩
    · cases hr
  | .seq a b, c', hM => by
    cases c' <;> simp [codeM] at hM
    next a' b' =>
    intro N fn ro m h w t e ex e' h' hr hG hR he hnt hN hro
    refine Out.pre (todo' := [.code a', .code b']) (fun k ds cs => st_seq) ?_
    simp only [D] at hr
    split at hr
    · next e1 h1 hb =>
      have o := D_ok hT hC hF hmix a a' hM.1 N fn ro m h w t e _ _ _ hb hG hR he hnt hN hro
      exact o.then hG hro fun m1 w1 t1 g1 r1 b1 z1 x1 y1 => D_ok hT hC hF hmix b b' hM.2 N fn ro m1 h1 w1 t1 _ _ _ _ hr g1 r1 b1 (by omega) (by omega) y1
    · next hb =>
      have hne : ex ≠ .normal := fun e0 => hb e' h' (by rw [hr, e0])
      exact (D_ok hT hC hF hmix a a' hM.1 N fn ro m h w t e _ _ _ hr hG hR he hnt hN hro).leaves (todo' := [.code b']) hne fun id k _ => rfl
  | .cond c a b, c', hM => by
    cases c' <;> simp [codeM] at hM
    next c' a' b' =>
    intro N fn ro m h w t e ex e' h' hr hG hR he hnt hN hro
    simp only [D] at hr
    split at hr
    · next hc =>
      refine Out.pre (todo' := [.code a']) (fun k ds cs => ?_) (D_ok hT hC hF hmix a a' hM.1.2 N fn ro m h w t e _ _ _ hr hG hR he hnt hN hro)
      exact st_cond (b := true) (opd_sound (t := t) hG he hM.1.1 hc)
    · next hc =>
      refine Out.pre (todo' := [.code b']) (fun k ds cs => ?_) (D_ok hT hC hF hmix b b' hM.2 N fn ro m h w t e _ _ _ hr hG hR he hnt hN hro)
      exact st_cond (b := false) (opd_sound (t := t) hG he hM.1.1 hc)
    · cases hr
  | .block id b, c', hM => by
    cases c' <;> simp [codeM] at hM
    next id' b' =>
    obtain ⟨rfl, hM⟩ := hM
    intro N fn ro m h w t e ex e' h' hr hG hR he hnt hN hro
    refine Out.pre (todo' := [.code b', .inBlock id]) (fun k ds cs => st_block) ?_
    simp only [D] at hr
    split at hr
    · next id2 e1 h1 hb =>
      have o := D_ok hT hC hF hmix b b' hM N fn ro m h w t e _ _ _ hb hG hR he hnt hN hro
      cases hi : (id2 == id) with
      | true =>
        rw [hi] at hr
        cases hr
        have := beq_iff_eq.1 hi
        subst this
        intro k ds cs
        obtain ⟨m1, w1, t1, ms1, k1, q1, q2, q3, q4, q5, q6, ⟨k2, rfl, h4⟩, h5⟩ := o (.inBlock id2 :: k) ds cs
        refine ⟨m1, w1, t1, ms1, k, q1, q2, q3, q4, q5, q6, rfl, ?_⟩
        exact Steps.trans h5 (.one (st_exit (h4.trans (by simp [exitTo]))))
      | false =>
        rw [hi] at hr
        cases hr
        refine o.leaves (todo' := [.inBlock id]) (by simp) fun id3 k e3 => ?_
        cases e3
        have : (id == id2) = false := by
          rw [← hi, Bool.beq_comm]
        simp [exitTo, this]
    · next hb =>
      have o := D_ok hT hC hF hmix b b' hM N fn ro m h w t e _ _ _ hr hG hR he hnt hN hro
      cases ex with
      | normal => exact o.then hG hro fun m1 w1 t1 g1 r1 b1 z1 x1 y1 => Out.same r1 b1 fun k ds cs => ⟨k, rfl, .one st_inBlock⟩
      | exit id2 => exact absurd hr (hb id2 e' h')
      | ret => exact o.leaves (todo' := [.inBlock id]) (by simp) fun id3 k e3 => by cases e3
  | .loop live b, c', hM => by
    cases c' <;> simp [codeM] at hM
    next b' => exact iter_ok (D_ok hT hC hF hmix b b' hM) fuel
  | .rangeFunc f ps live a b, c', hM => by
    cases c' <;> simp only [codeM, Bool.false_eq_true] at hM
    next f' ps' a' b' =>
    simp only [Bool.and_eq_true, beq_iff_eq] at hM
    obtain ⟨⟨⟨⟨h1, h2⟩, h3⟩, h4⟩, h5⟩ := hM
    exact rangeFunc_ok hC h1 h2 h3 h4 h5

end
end Am
