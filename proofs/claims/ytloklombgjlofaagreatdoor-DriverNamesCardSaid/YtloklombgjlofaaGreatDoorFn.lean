/- Functions, rounds, calls in the model. -/
import Derived.Test.YtloklombgjlofaaGreatDoorCode
namespace Am
open Go

section
variable {P : Program} {C : Cx} {m : Mp} {h h' : H} {w : World} {t : Array Value} {e : Env}

theorem res_one (hT : TOk P C) (hR : HRel P C m h w) (he : ERel m e t) {r : RV} {r' : ResultVar} {v : V} (hM : rvM C [r] [r'] = true) (hr : rvOf e h r = some v) :
    ∃ x, (match r' with
      | .tmp s => (pure (t.getD s undef) : Sem Value)
      | .cell a ty => do loadVar ty (← asAddr (t.getD a undef))).run P w = .ok x w ∧ VRel m v x := by
  cases r with
  | tmp s =>
    cases r' with
    | cell a ty => simp [rvM] at hM
    | tmp s' =>
      simp [rvM] at hM
      subst hM
      exact ⟨_, rfl, he.getD hr⟩
  | cell1 s =>
    cases r' with
    | tmp s' => simp [rvM] at hM
    | cell a ty =>
      simp only [rvM, Bool.and_eq_true, nbeq, decide_eq_true_eq] at hM
      obtain ⟨⟨rfl, hp⟩, _⟩ := hM
      simp only [rvOf] at hr
      split at hr
      · next b o hs =>
        have hx := he.getD hs
        obtain ⟨loc, hl, hx⟩ := hx
        obtain ⟨x, h1, h2⟩ := load1_run hR hr hl
        refine ⟨x, ?_, h2⟩
        simp only [hx, asAddr, Sem.run_bind, Sem.run_pure, Result.andThen_ok, loadVar, partM_none hT hp]
        simpa using h1
      · cases hr
  | cellN s n =>
    cases r' with
    | tmp s' => simp [rvM] at hM
    | cell a ty =>
      simp only [rvM, Bool.and_eq_true, nbeq, decide_eq_true_eq] at hM
      obtain ⟨⟨rfl, hp⟩, _⟩ := hM
      obtain ⟨p1, p2⟩ := partM_some hT hp w
      simp only [rvOf] at hr
      split at hr
      · next b o hs =>
        have hx := he.getD hs
        obtain ⟨loc, hl, hx⟩ := hx
        split at hr
        · next l hll =>
          cases hr
          obtain ⟨xs, h1, h2⟩ := load_run (P := P) hR hll hl
          refine ⟨.agg xs, ?_, xs, rfl, h2⟩
          simp only [hx, asAddr, Sem.run_bind, Sem.run_pure, Result.andThen_ok, loadVar, p1, p2, if_true, h1]
        · cases hr
      · cases hr

theorem run_mapM_list {α : Type} (f : α → Sem Value) : ∀ (l : List α) (vs : List V), l.length = vs.length → (∀ (i : Nat) a v, l[i]? = some a → vs[i]? = some v → ∃ x, (f a).run P w = .ok x w ∧ VRel m v x) →
    ∃ xs, (l.mapM f).run P w = .ok xs w ∧ VRels m vs xs
  | [], [], _, _ => ⟨[], by simp, rfl⟩
  | [], _ :: _, hl, _ => by simp at hl
  | _ :: _, [], hl, _ => by simp at hl
  | a :: l, v :: vs, hl, H => by
    obtain ⟨x, h1, h2⟩ := H 0 a v rfl rfl
    obtain ⟨xs, h3, h4⟩ := run_mapM_list f l vs (by simpa using hl) (fun i a v ha hv => H (i + 1) a v (by simpa using ha) (by simpa using hv))
    exact ⟨x :: xs, by simp [List.mapM_cons, h1, h3], x, xs, rfl, h2, h4⟩

theorem resOf_get : ∀ {l : List RV} {vs : List V}, resOf e h l = some vs → l.length = vs.length ∧ ∀ (i : Nat) r v, l[i]? = some r → vs[i]? = some v → rvOf e h r = some v
  | [], vs, hr => by cases hr; exact ⟨rfl, fun i r v hi => by simp at hi⟩
  | r :: rs, vs, hr => by
    rw [resOf_cons] at hr
    split at hr
    · next v l h1 h2 =>
      cases hr
      obtain ⟨q1, q2⟩ := resOf_get h2
      refine ⟨by simp [q1], fun i r' v' hi hv => ?_⟩
      cases i with
      | zero => simp at hi hv; subst hi hv; exact h1
      | succ i => exact q2 i r' v' (by simpa using hi) (by simpa using hv)
    · cases hr

theorem rvM_get : ∀ {l : List RV} {l' : List ResultVar}, rvM C l l' = true → l.length = l'.length ∧ ∀ (i : Nat) r r', l[i]? = some r → l'[i]? = some r' → rvM C [r] [r'] = true
  | [], l', hM => by
    cases l' with
    | nil => exact ⟨rfl, fun i r r' hi => by simp at hi⟩
    | cons _ _ => simp [rvM] at hM
  | r :: rs, l', hM => by
    cases l' with
    | nil => cases r <;> simp [rvM] at hM
    | cons r' rs' =>
      have key : rvM C [r] [r'] = true ∧ rvM C rs rs' = true := by
        cases r <;> cases r' <;> simp_all [rvM]
      obtain ⟨q1, q2⟩ := rvM_get key.2
      refine ⟨by simp [q1], fun i a a' hi hi' => ?_⟩
      cases i with
      | zero => simp at hi hi'; subst hi hi'; exact key.1
      | succ i => exact q2 i a a' (by simpa using hi) (by simpa using hi')

theorem packRes_rel {vs : List V} {xs : List Value} (hv : VRels m vs xs) : VRel m (packRes vs) (if h : xs.toArray.size = 1 then xs.toArray[0] else .tuple xs.toArray) := by
  have hl := hv.length
  match vs, hv with
  | [], hv =>
    have : xs = [] := hv
    subst this
    exact ⟨#[], rfl, rfl⟩
  | [v], ⟨x, s, e1, h2, h3⟩ =>
    have : s = [] := h3
    subst this
    subst e1
    exact h2
  | v :: u :: r, hv =>
    have hne : ¬ xs.toArray.size = 1 := by simp at hl ⊢; omega
    rw [dif_neg hne]
    exact ⟨xs.toArray, rfl, hv⟩

theorem results_run (hT : TOk P C) (hR : HRel P C m h w) (he : ERel m e t) {fn : Func} {l : List RV} {vs : List V} (hM : rvM C l fn.results.toList = true) (hr : resOf e h l = some vs) :
    ∃ x, (results fn t).run P w = .ok x w ∧ VRel m (packRes vs) x := by
  obtain ⟨q1, q2⟩ := resOf_get hr
  obtain ⟨p1, p2⟩ := rvM_get hM
  unfold results
  have key := run_mapM_list (P := P) (m := m) (w := w) (fun r' : ResultVar => match r' with
      | .tmp s => (pure (t.getD s undef) : Sem Value)
      | .cell a ty => do loadVar ty (← asAddr (t.getD a undef))) fn.results.toList vs (p1.symm.trans q1) (fun i r' v hi hv => by
    obtain ⟨r, hr'⟩ : ∃ r, l[i]? = some r := by
      have : i < l.length := by
        rw [q1]
        rcases Nat.lt_or_ge i vs.length with h9 | h9
        · exact h9
        · rw [List.getElem?_eq_none h9] at hv; cases hv
      exact ⟨_, List.getElem?_eq_getElem this⟩
    exact res_one hT hR he (p2 i r r' hr' hi) (q2 i r v hr' hv))
  obtain ⟨xs, k1, k2⟩ := key
  refine ⟨_, ?_, packRes_rel k2⟩
  rw [Sem.run_bind, Array.mapM_eq_mapM_toList, Sem.run_map]
  refine Eq.trans (congrArg (fun r => Result.andThen (Result.andThen r _) _) k1) ?_
  rfl

/-- The args lie in the first slots. -/
theorem args_rel {vs : List V} {xs : Array Value} (hv : VRels m vs xs.toList) (n : Nat) : ERel m (Env.ofArgs vs 0) (xs ++ Array.replicate n undef) := by
  have key : ∀ (vs : List V) (k s : Nat) (v : V), (Env.ofArgs vs k).get s = some v → ∃ i, s = k + i ∧ vs[i]? = some v := by
    intro vs
    induction vs with
    | nil => intro k s v hs; simp [Env.ofArgs, Env.get] at hs
    | cons a r ih =>
      intro k s v hs
      simp only [Env.ofArgs, get_cons] at hs
      split at hs
      · next e0 => cases hs; exact ⟨0, by omega, rfl⟩
      · obtain ⟨i, h1, h2⟩ := ih _ _ _ hs
        exact ⟨i + 1, by omega, by simpa using h2⟩
  intro s v hs
  obtain ⟨i, h1, h2⟩ := key vs 0 s v hs
  obtain ⟨x, h3, h4⟩ := hv.get h2
  refine ⟨x, ?_, h4⟩
  have : s = i := by omega
  subst this
  have hlt := lt_of_some (by simpa using h3 : xs[s]? = some x)
  rw [Array.getElem?_append_left hlt]
  simpa using h3

theorem Step.tweak {N : Nat} {m0 : Mp} {h0 : H} {w0 : World} (s : Step P C N m0 h0 w0 m h w) {r : Nat} (hr : w0.heap.size ≤ r) {ds : Option (List Deferred)} (h1 : w.heap[r]? = some (.deferred ds)) (ds' : Option (List Deferred)) :
    Step P C N m0 h0 w0 m h { w with heap := w.heap.setIfInBounds r (.deferred ds') } := by
  have hoth : ∀ j, j ≠ r → ({ w with heap := w.heap.setIfInBounds r (.deferred ds') } : World).heap[j]? = w.heap[j]? := fun j hj => by simp [Array.getElem?_setIfInBounds_ne (Ne.symm hj)]
  refine ⟨s.mono, s.old, ⟨?_, s.rel.inj, ?_⟩, s.nx, s.dead, by simpa using s.size, ?_, ?_, s.os, s.tape, s.output⟩
  · intro b o hb
    obtain ⟨l, co, g1, g2, g3⟩ := s.rel.obj b o hb
    refine ⟨l, co, g1, ?_, g3⟩
    rw [hoth]
    · exact g2
    · intro e0
      rw [e0, h1] at g2
      cases g2
      cases o with
      | cells vs ro => obtain ⟨c, el, lo, hi, e1, _⟩ := g3; cases e1
      | map es clock => obtain ⟨ces, e1, _⟩ := g3; cases e1
      | loop st pd ps en a b => obtain ⟨L, nt, e1, _⟩ := g3; cases e1
      | iter mp s sn la => obtain ⟨_, mp', e1, _⟩ := g3; cases e1
      | siter s p => obtain ⟨_, e1⟩ := g3; cases e1
  · intro b l hb
    exact s.rel.dom b l hb
  · intro β hβ hno
    obtain ⟨q1, q2⟩ := s.frame β hβ hno
    exact ⟨by rw [hoth _ (by omega)]; exact q1, q2⟩
  · intro β L hL
    have := lt_of_some hL
    obtain ⟨L', q1⟩ := s.loops β L hL
    exact ⟨L', by rw [hoth _ (by omega)]; exact q1⟩

/-- The marks are taken. -/
theorem unmark_all {N : Nat} {m0 : Mp} {h0 : H} {w0 : World} {fn : FuncId} {t : Array Value} {todo : List Item} : ∀ (ms : List Nat) (w : World), Step P C N m0 h0 w0 m h w → Mk m h w ms → (∀ r ∈ ms, w0.heap.size ≤ r) →
    ∃ w', Step P C N m0 h0 w0 m h w' ∧ ∀ cs, Steps P (lone { Fm fn none t todo (ms.map markOf) with mode := .returning } cs w) (lone { Fm fn none t todo [] with mode := .returning } cs w')
  | [], w, s, _, _ => ⟨w, s, fun cs => .refl _ _⟩
  | r :: ms, w, s, hk, hf => by
    obtain ⟨h1, h2⟩ := hk.2 r (List.mem_cons_self ..)
    have hrun : (Instr.takeDeferred r).run P w = .ok [] { w with heap := w.heap.setIfInBounds r (.deferred none) } := by
      simp [Instr.takeDeferred, getObj, setObj, Sem.run, h1]
    have hs := s.tweak (hf r (List.mem_cons_self ..)) h1 none
    have hnd := List.nodup_cons.1 hk.1
    have hk' : Mk m h { w with heap := w.heap.setIfInBounds r (.deferred none) } ms := ⟨hnd.2, fun r' hr' => by
      obtain ⟨g1, g2⟩ := hk.2 r' (List.mem_cons_of_mem _ hr')
      refine ⟨?_, g2⟩
      have hne : r ≠ r' := fun e0 => hnd.1 (e0 ▸ hr')
      simp [Array.getElem?_setIfInBounds_ne hne, g1]⟩
    obtain ⟨w', q1, q2⟩ := unmark_all ms _ hs hk' (fun r' hr' => hf r' (List.mem_cons_of_mem _ hr'))
    exact ⟨w', q1, fun cs => .head (st_unmark hrun) (q2 cs)⟩

/-- A function's run, as a caller sees it. -/
def FnRuns (P : Program) (C : Cx) (N : Nat) (m : Mp) (h : H) (w : World) (f : FuncId) (xs : Array Value) (v : V) (h' : H) : Prop :=
  ∀ cs, ∃ m' w' x fr, Step P C N m h w m' h' w' ∧ VRel m' v x ∧ Steps P (lone (Frame.enter P f xs .normal) cs w) (lone fr cs w') ∧ fr.fn = f ∧ fr.leaving P w' (.returned x)

theorem runFn_ok {call : Am.Call} (hT : TOk P C) (hC : CallOk P C call) (hF : CallF call) (hmix : P.follows .mixedOrders = true) {fuel : Nat} {f : FuncId} {a : AFn} (hM : fnM P C f a = true) {args : List V} {xs : Array Value} {v : V}
    (hr : runFn call fuel a args h = some (v, h')) (hR : HRel P C m h w) (hG : GOk C m) (hx : VRels m args xs.toList) : FnRuns P C h.nx m h w f xs v h' ∧ (callFunc f xs).run P w = .ok (.enter f xs) w := by
  unfold fnM at hM
  split at hM
  · next fn hfn =>
    split at hM
    · next c hbody =>
      simp only [Bool.and_eq_true, Bool.not_eq_true', nbeq, decide_eq_true_eq, Nat.ble_eq] at hM
      obtain ⟨⟨⟨⟨hname, hnt⟩, hnp⟩, hrv⟩, hcode⟩ := hM
      simp only [runFn] at hr
      revert hr
      cases hlen : (args.length == a.np) with
      | false => intro hr; cases hr
      | true =>
      dsimp only [cond_true]
      intro hr
      have hlen' := beq_iff_eq.1 hlen
      have hxl : xs.size = a.np := by
        have := hx.length
        simp at this; omega
      have hcall : (callFunc f xs).run P w = .ok (.enter f xs) w := by
        have hname' : ¬ fn.name = "runtime.NumGoroutine" := by simpa using hname
        simp [callFunc, hfn, hbody, hname']
      refine ⟨fun cs => ?_, hcall⟩
      have hent : Frame.enter P f xs .normal = Fm f none (xs ++ Array.replicate (fn.ntmps - xs.size) undef) [.code c] [] := by
        simp [Frame.enter, Fm, hfn, hbody]
      have hsz : (xs ++ Array.replicate (fn.ntmps - xs.size) undef).size = fn.ntmps := by simp; omega
      split at hr
      · cases hr
      · next ex e1 h1 hne hd =>
        split at hr
        · next l hl =>
          cases hr
          have o := D_ok hT hC hF hmix _ _ hcode h.nx f none m h w _ _ _ _ _ hd hG hR (args_rel hx (fn.ntmps - xs.size)) (by rw [hsz]; omega) (Nat.le_refl _) (fun l hl => by cases hl)
          obtain ⟨m1, w1, t1, ms, k1, q1, q2, q3, q4, q5, q6, e0, s0⟩ := o [] [] cs
          have hk1 : k1 = [] ∨ ∃ k2, k1 = .code .ret :: k2 := by
            cases ex with
            | normal => exact .inl e0
            | exit id => exact absurd rfl (hne id)
            | ret => exact .inr e0
          rw [List.append_nil, List.append_nil] at s0
          obtain ⟨w2, u1, u2⟩ := unmark_all (fn := f) (t := t1) (todo := k1) ms w1 q1 q4 q5
          obtain ⟨x, r1, r2⟩ := results_run hT u1.rel q2 hrv hl
          refine ⟨m1, w2, x, { Fm f none t1 k1 [] with mode := .returning }, u1, r2, ?_, rfl, rfl, rfl, rfl, fn, hfn, r1⟩
          rw [hent]
          exact s0.trans (.head (st_ret hk1) (u2 cs))
        · cases hr
      · cases hr
    · cases hM
  · cases hM

end
end Am
