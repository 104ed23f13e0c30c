/- Calls, and the steps of one operation. -/
import Derived.Test.YtloklombgjlofaaGreatDoorSteps
namespace Am
open Go

/-- The model does what the abstract call says. -/
def Does (P : Program) (m : Mp) (c : Frame) (cs : List Frame) : Tgt → Array Value → World → World → Value → Prop
  | .fn f, xs, w, w', x => (callFunc f xs).run P w = .ok (.value x) w' ∨ ((callFunc f xs).run P w = .ok (.enter f xs) w ∧ Steps P (lone (Frame.enter P f xs .normal) (c :: cs) w) (lone (c.finish x) cs w'))
  | .yld l, xs, w, w', x => ∃ loc fid t a b, m l = some loc ∧ (Instr.yield loc.β xs).run P w = .ok (.round loc.β fid t a b) w ∧ Steps P (lone (Frame.round loc.β fid t a b .normal) (c :: cs) w) (lone (c.finish x) cs w')

/-- What the calls of the abstract machine say is so. -/
def CallOk (P : Program) (C : Cx) (call : Am.Call) : Prop :=
  ∀ tgt args h v h', call tgt args h = some (v, h') → ∀ m w (xs : Array Value), HRel P C m h w → GOk C m → VRels m args xs.toList →
    ∀ c cs, ∃ m' w' x, Step P C h.nx m h w m' h' w' ∧ VRel m' v x ∧ Does P m c cs tgt xs w w' x

theorem iM_call {P : Program} {C : Cx} {f : FuncId} {args : List Opd} {op : Op} (h : iM P C (.call f args) op = true) :
    ∃ args' ts, op = .call { callee := .value (.func f), args := args', argTypes := ts } ∧ opdsM C args args'.toList = true := by
  unfold iM at h
  split at h <;> first | contradiction | skip
  next heq => cases heq; simp only [Bool.and_eq_true, nbeq, decide_eq_true_eq] at h; obtain ⟨rfl, h⟩ := h; exact ⟨_, _, rfl, h⟩
theorem iM_callv {P : Program} {C : Cx} {x : Opd} {args : List Opd} {op : Op} (h : iM P C (.callv x args) op = true) :
    ∃ y args' ts, op = .call { callee := .value y, args := args', argTypes := ts } ∧ opdM C x y = true ∧ opdsM C args args'.toList = true := by
  unfold iM at h
  split at h <;> first | contradiction | skip
  next heq => cases heq; simp only [Bool.and_eq_true] at h; exact ⟨_, _, _, rfl, h.1, h.2⟩
theorem iM_callb {P : Program} {C : Cx} {ms : List (String × List (TypeId × FuncId))} {x : Opd} {args : List Opd} {op : Op} (h : iM P C (.callb ms x args) op = true) :
    ∃ y args' ts, op = .call { callee := .value y, args := args', argTypes := ts } ∧ opdM C x y = true ∧ opdsM C args args'.toList = true ∧ (ms.all fun q => q.2.all fun p => methM P p.1 p.2 q.1) = true := by
  unfold iM at h
  split at h <;> first | contradiction | skip
  next heq => cases heq; simp only [Bool.and_eq_true] at h; exact ⟨_, _, _, rfl, h.1.1, h.1.2, h.2⟩
theorem iM_invoke {P : Program} {C : Cx} {tbl : List (TypeId × FuncId)} {x : Opd} {args : List Opd} {op : Op} (h : iM P C (.invoke tbl x args) op = true) :
    ∃ y name args' ts, op = .call { callee := .invoke y name, args := args', argTypes := ts } ∧ opdM C x y = true ∧ opdsM C args args'.toList = true ∧ (tbl.all fun p => methM P p.1 p.2 name) = true := by
  unfold iM at h
  split at h <;> first | contradiction | skip
  next heq => cases heq; simp only [Bool.and_eq_true] at h; exact ⟨_, _, _, _, rfl, h.1.1, h.1.2, h.2⟩

section
variable {P : Program} {C : Cx} {N : Nat} {m : Mp} {h h' : H} {w : World} {e : Env} {t : Array Value} {o : Oper} {v : V} {call : Am.Call}

theorem nodefer {i : I} (hM : iM P C i o.op = true) (hi : i ≠ .fail) : ∀ c, o.op ≠ .defer c := by
  intro c hc
  rw [hc] at hM
  cases i <;> first | exact hi rfl | (simp [iM] at hM; done)

theorem method_run {ty : TypeId} {f : FuncId} {name : String} (hm : methM P ty f name = true) (x : Value) (n : Nat) : (method (n + 1) ty x name).run P w = .ok (f, x) w := by
  unfold methM at hm
  split at hm
  · next i hi =>
    split at hm
    · next mt hmt =>
      simp only [Bool.and_eq_true] at hm
      obtain ⟨hp, hm⟩ := hm
      have hp' : mt.path.toList = [] := by simpa using hp
      have hti : (typeInfo ty).run P w = .ok i w := by simp [typeInfo, hi]
      split at hm
      · next g b d hf hu =>
        simp only [Bool.and_eq_true, beq_iff_eq, nbeq, decide_eq_true_eq] at hm
        obtain ⟨rfl, rfl⟩ := hm
        simp only [method, Sem.run_bind, hti, Result.andThen_ok, hmt, hp', follow, Sem.run_pure, hf, receiverAt, run_underlying hu]
        cases d <;> simp only [isPtrD, Place.get, Sem.run_pure, Result.andThen_ok]
      · cases hm
    · cases hm
  · cases hm

/-- One operation of the class E: the model goes on with it done. -/
theorem eff_steps (hT : TOk P C) (hC : CallOk P C call) (hG : GOk C m) (hR : HRel P C m h w) (he : ERel m e t) (hN : N ≤ h.nx) {i : I} (hc : i.cls = .E) (hM : iM P C i o.op = true) (hr : i.eff call e h = some (v, h')) {ops : Array Oper} {ix : Nat}
    (ho : ops[ix]? = some o) (hw : Region.wanted o (yielded ops t) = true) :
    ∀ fn ro rest k ds cs, ∃ m' w' x, Step P C N m h w m' h' w' ∧ VRel m' v x ∧ Steps P (lone (Fm fn ro t (.inRegion ops (ix :: rest) :: k) ds) cs w) (lone (Fm fn ro (putT t o.dst x) (.inRegion ops rest :: k) ds) cs w') := by
  intro fn ro rest k ds cs
  have hif : i ≠ .fail := by intro e; subst e; simp [I.cls] at hc
  have hd := nodefer hM hif
  by_cases hn : i.calls = false
  · obtain ⟨m', w', hs, hx⟩ := eff_sound hT hG hR he hN hc hn hM hr
    rcases hx with ⟨x, h1, h2⟩ | ⟨h1, rfl⟩
    · exact ⟨m', w', x, hs, h2, .one (st_op_value ho hw hd h1)⟩
    · exact ⟨m', w', undef, hs, ⟨#[], rfl, rfl⟩, .one (st_op_none ho hw hd h1)⟩
  · -- from what the call does to the steps
    have key : ∀ tgt vs (xs : Array Value), call tgt vs h = some (v, h') → VRels m vs xs.toList → (∀ f, tgt = .fn f → (execOp (evT t) o).run P w = (callFunc f xs).run P w) →
        (∀ l loc, tgt = .yld l → m l = some loc → (execOp (evT t) o).run P w = (Instr.yield loc.β xs).run P w) →
        ∃ m' w' x, Step P C N m h w m' h' w' ∧ VRel m' v x ∧ Steps P (lone (Fm fn ro t (.inRegion ops (ix :: rest) :: k) ds) cs w) (lone (Fm fn ro (putT t o.dst x) (.inRegion ops rest :: k) ds) cs w') := by
      intro tgt vs xs hcall hxs hfn hyl
      obtain ⟨m', w', x, h1, h2, h3⟩ := hC tgt vs h v h' hcall m w xs hR hG hxs (Fm fn ro t (.inRegion ops (ix :: rest) :: k) ds) cs
      refine ⟨m', w', x, h1.weaken hN, h2, ?_⟩
      cases tgt with
      | fn f =>
        rcases h3 with h3 | ⟨h3, h4⟩
        · exact .one (st_op_value ho hw hd (by rw [hfn f rfl]; exact h3))
        · refine .head (st_op_enter ho hw hd (by rw [hfn f rfl]; exact h3)) ?_
          rw [finish_Fm ho] at h4
          exact h4
      | yld l =>
        obtain ⟨loc, fid, t', a, b, h4, h5, h6⟩ := h3
        refine .head (st_op_round ho hw hd (by rw [hyl l loc rfl h4]; exact h5)) ?_
        rw [finish_Fm ho] at h6
        exact h6
    cases i with
    | call f args =>
      obtain ⟨args', ts, hop, hM⟩ := iM_call hM
      simp only [I.eff] at hr
      split at hr
      · next vs hvs =>
        refine key (.fn _) vs _ hr (map_evs (t := t) hG he hM hvs) (fun g hg => ?_) (fun l loc hl _ => by cases hl)
        cases hg
        simp only [execOp, hop, Sem.run_bind, resolve, Deferred.ofValue, evT, Sem.run_pure, Result.andThen_ok, invoke]
        simp
      · cases hr
    | callv x args =>
      obtain ⟨y, args', ts, hop, hM1, hM2⟩ := iM_callv hM
      simp only [I.eff] at hr
      split at hr
      · next f cap vs g1 g2 =>
        obtain ⟨xs, e1, h5⟩ := opd_sound (t := t) hG he hM1 g1
        have h6 := map_evs (t := t) hG he hM2 g2
        refine key (.fn f) (vs ++ cap) (_ ++ xs) hr (by rw [Array.toList_append]; exact h6.append h5) (fun g hg => ?_) (fun l loc hl _ => by cases hl)
        cases hg
        simp only [execOp, hop, Sem.run_bind, resolve, e1, Deferred.ofValue, Sem.run_pure, Result.andThen_ok, invoke]
        simp
      · next l vs g1 g2 =>
        obtain ⟨loc, h5, e1⟩ := opd_sound (t := t) hG he hM1 g1
        have h6 := map_evs (t := t) hG he hM2 g2
        refine key (.yld l) vs _ hr h6 (fun g hg => by cases hg) (fun l' loc' hl hm => ?_)
        cases hl
        rw [h5] at hm; cases hm
        simp only [execOp, hop, Sem.run_bind, resolve, e1, Deferred.ofValue, Sem.run_pure, Result.andThen_ok, invoke]
        simp
      · cases hr
    | callb ms x args =>
      obtain ⟨y, args', ts, hop, hM1, hM2, hM3⟩ := iM_callb hM
      simp only [I.eff] at hr
      split at hr
      · next f cap vs g1 g2 =>
        obtain ⟨xs, e1, h5⟩ := opd_sound (t := t) hG he hM1 g1
        have h6 := map_evs (t := t) hG he hM2 g2
        refine key (.fn f) (vs ++ cap) (_ ++ xs) hr (by rw [Array.toList_append]; exact h6.append h5) (fun g hg => ?_) (fun l loc hl _ => by cases hl)
        cases hg
        simp only [execOp, hop, Sem.run_bind, resolve, e1, Deferred.ofValue, Sem.run_pure, Result.andThen_ok, invoke]
        simp
      · next l vs g1 g2 =>
        obtain ⟨loc, h5, e1⟩ := opd_sound (t := t) hG he hM1 g1
        have h6 := map_evs (t := t) hG he hM2 g2
        refine key (.yld l) vs _ hr h6 (fun g hg => by cases hg) (fun l' loc' hl hm => ?_)
        cases hl
        rw [h5] at hm; cases hm
        simp only [execOp, hop, Sem.run_bind, resolve, e1, Deferred.ofValue, Sem.run_pure, Result.andThen_ok, invoke]
        simp
      · next n ty u vs g1 g2 =>
        split at hr
        · next q1 tbl hq1 =>
          split at hr
          · next q2 f hf =>
            obtain ⟨y', e1, h5⟩ := opd_sound (t := t) hG he hM1 g1
            have h6 := map_evs (t := t) hG he hM2 g2
            have hn := List.find?_some hq1
            simp only [beq_iff_eq] at hn
            subst hn
            have hq := List.find?_some hf
            simp only [beq_iff_eq] at hq
            subst hq
            have hm := List.all_eq_true.1 (List.all_eq_true.1 hM3 _ (List.mem_of_find?_eq_some hq1)) _ (List.mem_of_find?_eq_some hf)
            refine key (.fn f) (u :: vs) (#[y'] ++ _) hr (by rw [Array.toList_append]; exact ⟨y', _, rfl, h5, h6⟩) (fun g hg => ?_) (fun l loc hl _ => by cases hl)
            cases hg
            have hmr := method_run hm y' (P.types.size + Made.depth - 1) (w := w)
            have hfu : P.types.size + Made.depth - 1 + 1 = P.types.size + Made.depth := by unfold Made.depth; omega
            rw [hfu] at hmr
            have h0 : ∀ (a : Value) (xs : Array Value), (#[a] ++ xs)[0]? = some a := fun a xs => by simp [Array.getElem?_append]
            have h1 : ∀ (a : Value) (xs : Array Value), (#[a] ++ xs).extract 1 (#[a] ++ xs).size = xs := fun a xs => by
              apply Array.ext' ; simp
            simp only [execOp, hop, Sem.run_bind, resolve, e1, Deferred.ofValue, Sem.run_pure, Result.andThen_ok, invoke, h0, h1]
            simp [callMethod, hmr]
          · cases hr
        · cases hr
      · cases hr
    | invoke tbl x args =>
      obtain ⟨x', name, args', ts, hop, hM1, hM2, hM3⟩ := iM_invoke hM
      simp only [I.eff] at hr
      split at hr
      · next ty u vs g1 g2 =>
        split at hr
        · next q f hf =>
          obtain ⟨y, e1, h5⟩ := opd_sound (t := t) hG he hM1 g1
          have h6 := map_evs (t := t) hG he hM2 g2
          have hmem := List.mem_of_find?_eq_some hf
          have hq := List.find?_some hf
          have hm := List.all_eq_true.1 hM3 _ hmem
          simp only [beq_iff_eq] at hq
          subst hq
          refine key (.fn f) (u :: vs) (#[y] ++ _) hr (by rw [Array.toList_append]; exact ⟨y, _, rfl, h5, h6⟩) (fun g hg => ?_) (fun l loc hl _ => by cases hl)
          cases hg
          have hmr := method_run hm y (P.types.size + Made.depth - 1) (w := w)
          have hfu : P.types.size + Made.depth - 1 + 1 = P.types.size + Made.depth := by unfold Made.depth; omega
          rw [hfu] at hmr
          have h0 : ∀ (a : Value) (xs : Array Value), (#[a] ++ xs)[0]? = some a := fun a xs => by simp [Array.getElem?_append]
          have h1 : ∀ (a : Value) (xs : Array Value), (#[a] ++ xs).extract 1 (#[a] ++ xs).size = xs := fun a xs => by
            apply Array.ext' ; simp
          simp only [execOp, hop, Sem.run_bind, resolve, e1, Sem.run_pure, Result.andThen_ok, invoke, h0, h1]
          simp [callMethod, hmr]
        · cases hr
      · cases hr
    | _ => simp [I.calls] at hn

end
end Am
