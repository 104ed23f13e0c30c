/- Rounds of a range over a function; all calls. -/
import Derived.Test.YtloklombgjlofaaGreatDoorFn
namespace Am
open Go

theorem get_put (s : Nat) (v : V) : ∀ (e : Env) (j : Nat), (e.put s v).get j = if s = j then some v else e.get j
  | [], j => by simp [Env.put, get_cons, Env.get]
  | (k, u) :: r, j => by
    simp only [Env.put, nbeq, cond_dec]
    by_cases e0 : k = s
    · subst e0
      rw [if_pos rfl, get_cons, get_cons]
      by_cases e1 : k = j <;> simp [e1]
    · rw [if_neg e0, get_cons, get_cons, get_put s v r j]
      by_cases e1 : k = j
      · subst e1; rw [if_pos rfl, if_neg (Ne.symm e0), if_pos rfl]
      · rw [if_neg e1, if_neg e1]

section
variable {P : Program} {C : Cx} {m : Mp} {h h' : H} {w : World} {v : V}

theorem putArgs_rel : ∀ {ps : List Nat} {vs : List V} {xs : List Value} {e e0 : Env} {t : Array Value}, putArgs e ps vs = some e0 → VRels m vs xs → ERel m e t → (∀ p ∈ ps, p < t.size) →
    ps.length = xs.length ∧ ERel m e0 ((ps.zip xs).foldl (fun t p => t.setIfInBounds p.1 p.2) t) ∧ ((ps.zip xs).foldl (fun t p => t.setIfInBounds p.1 p.2) t).size = t.size
  | [], [], xs, e, e0, t, hp, hv, he, _ => by
    have : xs = [] := hv
    subst this
    cases hp
    exact ⟨rfl, he, rfl⟩
  | [], _ :: _, _, _, _, _, hp, _, _, _ => by simp [putArgs] at hp
  | _ :: _, [], _, _, _, _, hp, _, _, _ => by simp [putArgs] at hp
  | p :: ps, u :: vs, xs, e, e0, t, hp, hv, he, hlt => by
    obtain ⟨x, s, rfl, h1, h2⟩ := hv
    simp only [putArgs] at hp
    have he' : ERel m (e.put p u) (t.setIfInBounds p x) := by
      intro j y hj
      rw [get_put] at hj
      have := hlt p (List.mem_cons_self ..)
      split at hj
      · next e1 => subst e1; cases hj; exact ⟨x, by simp [this], h1⟩
      · next e1 =>
        obtain ⟨z, g1, g2⟩ := he j y hj
        exact ⟨z, by simp [Array.getElem?_setIfInBounds_ne e1, g1], g2⟩
    obtain ⟨q1, q2, q3⟩ := putArgs_rel hp h2 he' (fun q hq => by simpa using hlt q (List.mem_cons_of_mem _ hq))
    exact ⟨by simp [q1], by simpa using q2, by simpa using q3⟩

theorem runRound_ok {call : Am.Call} (hT : TOk P C) (hC : CallOk P C call) (hF : CallF call) (hmix : P.follows .mixedOrders = true) {fuel l : Nat} {args : List V} {xs : Array Value} (hr : runRound call fuel l args h = some (v, h')) (hR : HRel P C m h w) (hG : GOk C m)
    (hx : VRels m args xs.toList) : ∀ c cs, ∃ m' w' x, Step P C h.nx m h w m' h' w' ∧ VRel m' v x ∧ Does P m c cs (.yld l) xs w w' x := by
  intro c cs
  simp only [runRound] at hr
  split at hr
  · next st pd ps env a b hl =>
    obtain ⟨loc, L, nt, s1, s2, s3, s4, s5, s6, s7, s8, s9, s10⟩ := loop_obj hR hl
    split at hr
    · cases hr
    · next e0 he0 =>
      have hps : ∀ p ∈ ps, p < L.tmps.size := fun p hp => by
        have := List.all_eq_true.1 s8 p hp
        simp [Nat.blt] at this; omega
      obtain ⟨p1, p2, p3⟩ := putArgs_rel he0 hx s6 hps
      rw [← s5] at p1 p2 p3
      have hyield : (Instr.yield loc.β xs).run P w = .ok (.round loc.β L.fn ((L.params.toList.zip xs.toList).foldl (fun t p => t.setIfInBounds p.1 p.2) L.tmps) L.assign L.body) w := by
        have hsz : ¬ (xs.size ≠ L.params.size) := by simp at p1; omega
        have hz : (L.params.zip xs).foldl (fun (t : Array Value) (p : Nat × Value) => t.setIfInBounds p.1 p.2) L.tmps = (L.params.toList.zip xs.toList).foldl (fun t p => t.setIfInBounds p.1 p.2) L.tmps := by
          rw [← Array.foldl_toList, Array.toList_zip]
        simp only [Instr.yield, Sem.run_bind, run_getLoop s2, Result.andThen_ok, hsz]
        exact congrArg (fun z => Result.ok (Next.round loc.β L.fn z L.assign L.body) w) hz
      generalize ht0 : (L.params.toList.zip xs.toList).foldl (fun t p => t.setIfInBounds p.1 p.2) L.tmps = t0 at p2 p3 hyield
      split at hr
      · next e1 h1 ha =>
        have o1 := D_ok hT hC hF hmix _ _ s9 h.nx L.fn (some loc.β) m h w t0 e0 _ _ _ ha hG hR p2 (by omega) (Nat.le_refl _) (fun l' hl' => by cases hl'; exact ⟨L, s2⟩)
        obtain ⟨m1, w1, t1, ms1, k1, q1, q2, q3, q4, q5, q6, g1, g2⟩ := o1 [.beginRound, .code L.body] [] (c :: cs)
        have : k1 = [.beginRound, .code L.body] := g1
        subst this
        have hms1 := q6 _ rfl
        subst hms1
        split at hr
        · next pd1 ps1 en1 a1 b1 hl1 =>
          obtain ⟨loc1, L1, nt1, u1, u2, u3, u4, u5, u6, u7, u8, u9, u10⟩ := loop_obj q1.rel hl1
          have : loc1 = loc := by rw [q1.mono _ _ s1] at u1; cases u1; rfl
          subst this
          have hb1 := step_loop (N := h.nx) (st' := .busy) q1.rel hl1 u1 u2 u4
          have hbegin : (Instr.beginRound loc1.β).run P w1 = .ok () { w1 with heap := w1.heap.setIfInBounds loc1.β (.loop { L1 with state := .busy, pending := L1.pending }) } := by
            simp only [Instr.beginRound, Sem.run_bind, run_getLoop u2, Result.andThen_ok, run_setLoop u2, u3]
            rfl
          generalize hw2 : ({ w1 with heap := w1.heap.setIfInBounds loc1.β (.loop { L1 with state := .busy, pending := L1.pending }) } : World) = w2 at hb1 hbegin
          split at hr
          · next ex e3 h3 hb =>
            have hro2 : RoOk w2 (some loc1.β) := RoOk.step (fun l' hl' => by cases hl'; exact ⟨L1, u2⟩) hb1
            have o2 := D_ok hT hC hF hmix _ _ s10 h.nx L.fn (some loc1.β) m1 _ w2 t1 e1 _ _ _ hb (hG.mono q1.mono) hb1.rel q2 (by omega) (by simpa using q1.nx) hro2
            obtain ⟨m3, w3, t3, ms3, k3, r1, r2, r3, r4, r5, r6, g3, g4⟩ := o2 [] [] (c :: cs)
            have hms3 := r6 _ rfl
            subst hms3
            split at hr
            · next st3 pd3 ps3 en3 a3 b3 hl3 =>
              obtain ⟨loc3, L3, nt3, v1, v2, v3, v4, v5, v6, v7, v8, v9, v10⟩ := loop_obj r1.rel hl3
              have : loc3 = loc1 := by rw [r1.mono _ _ u1] at v1; cases v1; rfl
              subst this
              -- the end of the round
              have fin : ∀ (st' : LoopState) (pd' : Option Ex) (jump : Option Code) (bv : Bool), h' = h3.set l (.loop st' pd' ps3 en3 a3 b3) → v = .bool bv → pendRel pd' jump → st' = (if jump.isNone then .ready else .done) → bv = jump.isNone →
                  (∀ k', Ends ex [] k' → (jump = none ∧ k' = []) ∨ (jump = some .ret ∧ ∃ k2, k' = .code .ret :: k2) ∨ (∃ id k2, jump = some (.exit id) ∧ k' = .code (.exit id) :: k2 ∧ exitTo id k2 = none)) →
                  ∃ m' w' x, Step P C h.nx m h w m' h' w' ∧ VRel m' v x ∧ Does P m c cs (.yld l) xs w w' x := by
                intro st' pd' jump bv e1' e2' e3' e4' e5' hk
                have hs3 := step_loop (N := h.nx) (st' := st') r1.rel hl3 v1 v2 e3'
                have hend : (Instr.endRound loc3.β jump).run P w3 = .ok (.bool jump.isNone) { w3 with heap := w3.heap.setIfInBounds loc3.β (.loop { L3 with state := st', pending := jump }) } := by
                  subst e4'
                  simp only [Instr.endRound, Sem.run_bind, run_getLoop v2, Result.andThen_ok, run_setLoop v2, Sem.run_pure]
                refine ⟨m3, _, .bool bv, (q1.trans (hb1.trans r1)).trans (by rw [e1']; exact hs3), by rw [e2']; rfl, loc3, L.fn, t0, L.assign, L.body, s1, hyield, ?_⟩
                refine Steps.trans g2 (.head (st_beginRound hbegin) (Steps.trans g4 (.one ?_)))
                rw [e5']
                exact st_leaveRound (hk k3 g3) hend
              split at hr
              · cases hr
                exact fin .ready none none true rfl rfl rfl rfl rfl fun k' hk' => .inl ⟨rfl, hk'⟩
              · next hex =>
                cases hr
                cases ex with
                | normal => exact absurd rfl (hex)
                | exit id =>
                  refine fin .done (some (.exit id)) (some (.exit id)) false rfl rfl rfl rfl rfl fun k' hk' => ?_
                  obtain ⟨k2, g1, g2⟩ := hk'
                  exact .inr (.inr ⟨id, k2, rfl, g1, g2⟩)
                | ret => exact fin .done (some .ret) (some .ret) false rfl rfl rfl rfl rfl fun k' hk' => .inr (.inl ⟨rfl, hk'⟩)
            · cases hr
          · cases hr
        · cases hr
      · cases hr
  · cases hr

/-- Functions that are given: what they do in the model. -/
def PrimsOk (P : Program) (C : Cx) (R : Prog) : Prop := ∀ f p, assoc R.prims f = some p → ∀ args h v h', p args h = some (v, h') → ∀ m w (xs : Array Value), HRel P C m h w → GOk C m → VRels m args xs.toList →
    ∀ c cs, ∃ m' w' x, Step P C h.nx m h w m' h' w' ∧ VRel m' v x ∧ Does P m c cs (.fn f) xs w w' x

/-- The program is what the literals say. -/
structure ProgOk (P : Program) (C : Cx) (R : Prog) : Prop where
  types : TOk P C
  mixed : P.follows .mixedOrders = true
  fns : ∀ f a, assoc R.fns f = some a → fnM P C f a = true
  primF : PrimsF R
  primOk : PrimsOk P C R

theorem callN_ok {R : Prog} (hP : ProgOk P C R) (fuel : Nat) : ∀ n, CallOk P C (callN R fuel n)
  | 0 => fun tgt args h v h' hr => by simp [callN] at hr
  | n + 1 => by
    have ih := callN_ok hP fuel n
    have hF := callN_F hP.primF fuel n
    intro tgt args h v h' hr m w xs hR hG hx
    cases tgt with
    | fn f =>
      simp only [callN] at hr
      split at hr
      · next p hp => exact hP.primOk f p hp _ _ _ _ hr m w xs hR hG hx
      · split at hr
        · next a ha =>
          obtain ⟨q0, q6⟩ := runFn_ok hP.types ih hF.1 hP.mixed (hP.fns f a ha) hr hR hG hx
          intro c cs
          obtain ⟨m', w', x, fr, q1, q2, q3, q4, q5⟩ := q0 (c :: cs)
          exact ⟨m', w', x, q1, q2, .inr ⟨q6, q3.trans (.one (step_leave_returned q5))⟩⟩
        · cases hr
    | yld l =>
      simp only [callN] at hr
      exact runRound_ok hP.types ih hF.1 hP.mixed hr hR hG hx

/-- A whole call. -/
theorem call_fn {R : Prog} (hP : ProgOk P C R) {fuel n : Nat} {f : FuncId} {a : AFn} (ha : assoc R.fns f = some a) (hp : assoc R.prims f = none) {args : List V} {xs : Array Value} (hr : callN R fuel (n + 1) (.fn f) args h = some (v, h')) (hR : HRel P C m h w) (hG : GOk C m) (hx : VRels m args xs.toList) :
    FnRuns P C h.nx m h w f xs v h' := by
  simp only [callN, hp, ha] at hr
  exact (runFn_ok hP.types (callN_ok hP fuel n) (callN_F hP.primF fuel n).1 hP.mixed (hP.fns f a ha) hr hR hG hx).1

/-- As the kit says it. -/
theorem FnRuns.calls {N : Nat} {f : FuncId} {xs : Array Value} (hf : FnRuns P C N m h w f xs v h') {Rl : Ending → World → Prop} (hR : ∀ m' w' x, Step P C N m h w m' h' w' → VRel m' v x → Rl (.returned x) w') : Calls P f xs w Rl := by
  intro cs
  obtain ⟨m', w', x, fr, q1, q2, q3, q4, q5⟩ := hf cs
  exact ⟨.returned x, w', fr, hR m' w' x q1 q2, q3, q4, q5⟩

end
end Am
