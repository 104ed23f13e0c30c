/- A range over a function: its block, its rounds. -/
import Derived.Test.YtloklombgjlofaaGreatDoorRegion2
namespace Am
open Go

section
variable {P : Program} {C : Cx} {N : Nat} {m : Mp} {h h' : H} {w : World}

theorem run_getLoop {l : Nat} {L : Loop} (hb : w.heap[l]? = some (.loop L)) : (Instr.getLoop l).run P w = .ok L w := by
  simp [Instr.getLoop, getObj, Sem.run, hb]

theorem run_setLoop {l : Nat} {L : Loop} (hb : w.heap[l]? = some (.loop L)) (o : Go.Obj) : (setObj l o).run P w = .ok () { w with heap := w.heap.setIfInBounds l o } := by
  simp [setObj, Sem.run, hb]

/-- A block of the model's own. -/
theorem step_junk {co : Go.Obj} {w' : World} (hr : HRel P C m h w) (hw : w'.heap = w.heap.push co) (hs : WSame w w') : Step P C N m h w m h w' ∧ ¬ Owned m h w.heap.size := by
  have hget' : ∀ j, j < w.heap.size → w'.heap[j]? = w.heap[j]? := by
    intro j hj
    rw [hw, Array.getElem?_push, if_neg (by omega)]
  refine ⟨⟨Mono.refl _, fun _ _ e => e, ⟨?_, hr.inj, ?_⟩, Nat.le_refl _, fun _ _ e => e, by rw [hw]; simp, ?_, ?_, hs.os, hs.tape, hs.output⟩, ?_⟩
  · intro b o hb
    obtain ⟨l, co', h1, h2, h3⟩ := hr.obj b o hb
    exact ⟨l, co', h1, by rw [hget' _ (hr.lt hb h1)]; exact h2, h3⟩
  · intro b l hb
    exact hr.dom b l hb
  · intro β hβ hno
    exact ⟨hget' β hβ, hno⟩
  · intro β L hL
    have : β < w.heap.size := by
      rcases Nat.lt_or_ge β w.heap.size with hlt | hge
      · exact hlt
      · rw [Array.getElem?_eq_none hge] at hL; cases hL
    exact ⟨L, by rw [hget' β this]; exact hL⟩
  · rintro ⟨b, o, l, h1, _, h3, h4⟩
    have := hr.lt h1 h3
    omega

/-- The marks that ranges over functions leave. -/
def Mk (m : Mp) (h : H) (w : World) (ms : List Nat) : Prop := ms.Nodup ∧ ∀ r ∈ ms, w.heap[r]? = some (.deferred (some [])) ∧ ¬ Owned m h r

theorem Mk.nil (m : Mp) (h : H) (w : World) : Mk m h w [] := ⟨List.nodup_nil, fun r hr => by simp at hr⟩

theorem lt_of_some {α : Type} {a : Array α} {i : Nat} {x : α} (hx : a[i]? = some x) : i < a.size := by
  rcases Nat.lt_or_ge i a.size with hlt | hge
  · exact hlt
  · rw [Array.getElem?_eq_none hge] at hx; cases hx

theorem Mk.step {m' : Mp} {w' : World} {ms : List Nat} (k : Mk m h w ms) (s : Step P C N m h w m' h' w') : Mk m' h' w' ms :=
  ⟨k.1, fun r hr => by
    obtain ⟨h1, h2⟩ := k.2 r hr
    obtain ⟨h3, h4⟩ := s.frame r (lt_of_some h1) h2
    exact ⟨h3.trans h1, h4⟩⟩

theorem Mk.append {ms ms' : List Nat} (a : Mk m h w ms) (b : Mk m h w ms') {n : Nat} (ha : ∀ r ∈ ms, r < n) (hb : ∀ r ∈ ms', n ≤ r) : Mk m h w (ms' ++ ms) :=
  ⟨List.nodup_append.2 ⟨b.1, a.1, fun x hx y hy e => by have := ha y hy; have := hb x hx; omega⟩, fun r hr => by
    rcases List.mem_append.1 hr with h1 | h1
    · exact b.2 r h1
    · exact a.2 r h1⟩

/-- The round is of a loop. -/
def RoOk (w : World) (ro : Option Nat) : Prop := ∀ l, ro = some l → ∃ L, w.heap[l]? = some (.loop L)

theorem RoOk.step {m' : Mp} {w' : World} {ro : Option Nat} (k : RoOk w ro) (s : Step P C N m h w m' h' w') : RoOk w' ro := fun l hl => by
  obtain ⟨L, h1⟩ := k l hl
  exact s.loops l L h1

theorem only_get {s : Nat} {v : V} : ∀ {l : List Nat} {e : Env}, (e.only l).get s = some v → e.get s = some v
  | [], e, h => by simp [Env.only, Env.get] at h
  | a :: r, e, h => by
    unfold Env.only at h
    split at h
    · next u hu =>
      rw [get_cons] at h
      split at h
      · next e0 => subst e0; cases h; exact hu
      · exact only_get h
    · exact only_get h

theorem ERel.only {e : Env} {t : Array Value} (he : ERel m e t) (l : List Nat) : ERel m (e.only l) t := fun s v hs => he s v (only_get hs)

/-- A range over a function begins. -/
theorem enter_loop {fn : FuncId} {ro : Option Nat} {t : Array Value} {params : Array Tmp} {assign body : Code} {e : Env} {ca cb : AC} {nt : Nat} (hR : HRel P C m h w) (hN : N ≤ h.nx) (hro : RoOk w ro) (he : ERel m e t) (hnt : nt ≤ t.size)
    (hps : params.toList.all (Nat.blt · nt) = true) (ha : codeM P C nt ca assign = true) (hb : codeM P C nt cb body = true) :
    ∃ m' w' l ms, (Instr.enterLoop fn t params assign body ro).run P w = .ok (l, ms.map markOf) w' ∧ Step P C N m h w m' (h.new (.loop .ready none params.toList e ca cb)) w' ∧
      (∃ loc, m' h.nx = some loc ∧ loc.β = l) ∧ Mk m' (h.new (.loop .ready none params.toList e ca cb)) w' ms ∧ (∀ r ∈ ms, w.heap.size ≤ r) ∧ (∀ l', ro = some l' → ms = []) := by
  have tail : ∀ (w1 : World) (d : Nat), HRel P C m h w1 → ∃ m' w', (newObj (.loop { state := .ready, pending := none, fn, tmps := t, params, assign, body, defers := d })).run P w1 = .ok w1.heap.size w' ∧
      Step P C N m h w1 m' (h.new (.loop .ready none params.toList e ca cb)) w' ∧ (∃ loc, m' h.nx = some loc ∧ loc.β = w1.heap.size) := by
    intro w1 d hR1
    have hid : m h.nx = none := by
      cases e0 : m h.nx with
      | none => rfl
      | some l => have := hR1.dom _ _ e0; omega
    have hge : h.get h.nx = none := by
      cases e0 : h.get h.nx with
      | none => rfl
      | some o1 => obtain ⟨l, _, e1, _⟩ := hR1.obj _ _ e0; rw [hid] at e1; cases e1
    refine ⟨m.add h.nx ⟨w1.heap.size, 0, 0⟩, { w1 with heap := w1.heap.push _ }, rfl, step_new hR1 hN hid hge (fun j => H.get_new h j _) (by simp) (by simp) rfl ⟨rfl, rfl, rfl⟩ ?_, ⟨_, Mp.add_self _ _, rfl⟩⟩
    exact ⟨_, nt, rfl, rfl, rfl, rfl, he.mono (Mp.add_mono hid), hnt, hps, ha, hb⟩
  cases ro with
  | some l' =>
    obtain ⟨L, hL⟩ := hro l' rfl
    obtain ⟨m', w', h1, h2, h3⟩ := tail w L.defers hR
    refine ⟨m', w', w.heap.size, [], ?_, h2, h3, Mk.nil _ _ _, fun r hr => by simp at hr, fun _ _ => rfl⟩
    simp only [Instr.enterLoop, Sem.run_bind, run_getLoop hL, Result.andThen_ok, Sem.run_pure, h1]
    rfl
  | none =>
    obtain ⟨j1, j2⟩ := step_junk (N := N) (co := .deferred (some [])) (w' := { w with heap := w.heap.push (.deferred (some [])) }) hR rfl ⟨rfl, rfl, rfl⟩
    obtain ⟨m', w', h1, h2, h3⟩ := tail { w with heap := w.heap.push (.deferred (some [])) } w.heap.size j1.rel
    have hk : Mk m h { w with heap := w.heap.push (.deferred (some [])) } [w.heap.size] := ⟨by simp, fun r hr => by
      have : r = w.heap.size := by simpa using hr
      subst this
      exact ⟨by simp, j2⟩⟩
    refine ⟨m', w', _, [w.heap.size], ?_, j1.trans h2, h3, hk.step h2, fun r hr => by simp at hr; omega, fun l' hl => by cases hl⟩
    rw [run_newObj] at h1
    cases h1
    simp only [Instr.enterLoop, Sem.run_bind, run_newObj, Result.andThen_ok, Sem.run_pure]
    rfl

/-- The loop's block in the model. -/
theorem loop_obj (hR : HRel P C m h w) {b : Nat} {st : LoopState} {pd : Option Ex} {ps : List Nat} {en : Env} {ca cb : AC} (hb : h.get b = some (.loop st pd ps en ca cb)) :
    ∃ loc L nt, m b = some loc ∧ w.heap[loc.β]? = some (.loop L) ∧ L.state = st ∧ pendRel pd L.pending ∧ L.params.toList = ps ∧ ERel m en L.tmps ∧ nt ≤ L.tmps.size ∧ ps.all (Nat.blt · nt) = true ∧ codeM P C nt ca L.assign = true ∧ codeM P C nt cb L.body = true := by
  obtain ⟨loc, co, h1, h2, L, nt, rfl, h3⟩ := hR.obj b _ hb
  exact ⟨loc, L, nt, h1, h2, h3⟩

/-- The loop's block turns. -/
theorem step_loop (hR : HRel P C m h w) {b : Nat} {st st' : LoopState} {pd pd' : Option Ex} {ps : List Nat} {en : Env} {ca cb : AC} (hb : h.get b = some (.loop st pd ps en ca cb)) {loc : Loc} (hl : m b = some loc) {L : Loop} (hL : w.heap[loc.β]? = some (.loop L))
    {pend : Option Code} (hp : pendRel pd' pend) : Step P C N m h w m (h.set b (.loop st' pd' ps en ca cb)) { w with heap := w.heap.setIfInBounds loc.β (.loop { L with state := st', pending := pend }) } := by
  obtain ⟨loc', L', nt, h1, h2, h3, h4, h5, h6, h7, h8, h9, h10⟩ := loop_obj hR hb
  rw [hl] at h1; cases h1
  rw [hL] at h2; cases h2
  have hlt := lt_of_some hL
  refine step_set hR hb rfl rfl hl hL (fun j => H.get_set h b j _) rfl (by simp) (co' := .loop { L with state := st', pending := pend }) (by simp [hlt]) (fun j hj => by simp [Array.getElem?_setIfInBounds_ne (Ne.symm hj)]) ⟨rfl, rfl, rfl⟩ ?_ (fun L0 e0 => ⟨_, rfl⟩)
  exact ⟨_, nt, rfl, rfl, hp, h5, h6, h7, h8, h9, h10⟩

end
end Am
