/- One operation of a region, in the model. -/
import Derived.Test.YtloklombgjlofaaGreatDoorComm
namespace Am
open Go

theorem putT_size (t : Array Value) (dst : Option Nat) (x : Value) : (putT t dst x).size = t.size := by
  cases dst <;> simp [putT]

section
variable {P : Program} {C : Cx} {N : Nat} {m : Mp} {h h' : H} {w : World} {e : Env} {t : Array Value} {v : V} {call : Am.Call}

theorem ERel.layv (he : ERel m e t) {dst : Option Nat} {x : Value} (hv : VRel m v x) (hd : ∀ d, dst = some d → d < t.size) : ERel m (layv e dst v) (putT t dst x) := by
  intro s u hu
  rw [get_layv] at hu
  cases dst with
  | none => rw [if_neg (by simp)] at hu; exact he s u hu
  | some d =>
    have := hd d rfl
    by_cases e0 : d = s
    · subst e0
      simp at hu; subst hu
      exact ⟨x, by simp [putT, this], hv⟩
    · rw [if_neg (by simpa using e0)] at hu
      obtain ⟨y, h1, h2⟩ := he s u hu
      exact ⟨y, by simp [putT, Array.getElem?_setIfInBounds_ne e0, h1], h2⟩

theorem VRel.bool {b : Bool} : ∀ {v : V}, VRel m v (.bool b) → v = .bool b
  | .bool _, h => by cases h; rfl
  | .int _ _, h => by cases h
  | .str _, h => by cases h
  | .ptr none, h => by cases h
  | .ptr (some _), ⟨_, _, h⟩ => by cases h
  | .slice none _ _, ⟨_, _, h⟩ => by cases h
  | .slice (some _) _ _, ⟨_, _, _, _, h, _⟩ => by cases h
  | .map none, h => by cases h
  | .map (some _), ⟨_, _, h⟩ => by cases h
  | .clo _ _, ⟨_, h, _⟩ => by cases h
  | .yld _, ⟨_, _, h⟩ => by cases h
  | .nilfn, h => by cases h
  | .bm _ _ _, ⟨_, h, _⟩ => by cases h
  | .iface _ _, ⟨_, h, _⟩ => by cases h
  | .nili, h => by cases h
  | .agg _, ⟨_, h, _⟩ => by cases h
  | .tup _, ⟨_, h, _⟩ => by cases h

theorem wanted_rel (he : ERel m e t) {g : Option (Nat × Bool)} {ops : Array Oper} {o : Oper} (hM : guardM ops g o.guard = true) (hk : ∀ s b, g = some (s, b) → e.get s ≠ none) :
    Region.wanted o (yielded ops t) = wanted e g := by
  unfold guardM at hM
  split at hM
  · next h1 => rw [Region.wanted, h1]; rfl
  · next s b j b' h1 =>
    simp only [Bool.and_eq_true, beq_iff_eq] at hM
    obtain ⟨rfl, hM⟩ := hM
    split at hM
    · next o' ho' =>
      have hd : o'.dst = some s := by simpa using hM
      rw [Region.wanted, h1]
      dsimp only
      unfold yielded
      rw [ho']
      simp only [Option.bind_some, hd]
      have hne := hk s b rfl
      cases hs : e.get s with
      | none => exact absurd hs hne
      | some v =>
        obtain ⟨x, hx, hv⟩ := he s v hs
        rw [hx]
        simp only [wanted, hs]
        cases x with
        | bool q =>
          have := hv.bool
          subst this
          cases q <;> cases b <;> rfl
        | _ =>
          cases v with
          | bool q => cases hv
          | _ => rfl
    · cases hM
  · cases hM

theorem insM_spec {nt : Nat} {ops : Array Oper} {s : Ins} (hM : insM P C nt ops s = true) : ∃ o, ops[s.ix]? = some o ∧ s.dst = o.dst ∧ (∀ d, s.dst = some d → d < nt) ∧ guardM ops s.guard o.guard = true ∧ iM P C s.i o.op = true := by
  unfold insM at hM
  split at hM
  · next o ho =>
    simp only [Bool.and_eq_true, beq_iff_eq] at hM
    refine ⟨o, ho, hM.1.1.1, ?_, hM.1.2, hM.2⟩
    intro d hd
    have := hM.1.1.2
    rw [hd] at this
    simp [Nat.blt] at this; omega
  · cases hM

/-- One operation of a region. -/
theorem one_sound (hT : TOk P C) (hC : CallOk P C call) (hG : GOk C m) (hR : HRel P C m h w) (he : ERel m e t) (hN : N ≤ h.nx) {nt : Nat} (hnt : nt ≤ t.size) {ops : Array Oper} {s : Ins} (hM : insM P C nt ops s = true)
    (hg : ∀ q b, s.guard = some (q, b) → e.get q ≠ none) {base : Nat} (hat : ∀ k, s.at_ = some k → N ≤ base + k ∧ base + k < h.nx ∧ m (base + k) = none ∧ h.get (base + k) = none) (h1 : One call base s e h v h') :
    ∀ fn ro rest k ds cs, ∃ m' w' x, Step P C N m h w m' h' w' ∧ ERel m' (layv e s.dst v) (putT t s.dst x) ∧ (∀ j, j < h.nx → m j = none → h.get j = none → s.at_.map (base + ·) ≠ some j → m' j = none ∧ h'.get j = none) ∧
      Steps P (lone (Fm fn ro t (.inRegion ops (s.ix :: rest) :: k) ds) cs w) (lone (Fm fn ro (putT t s.dst x) (.inRegion ops rest :: k) ds) cs w') := by
  intro fn ro rest k ds cs
  obtain ⟨o, ho, hdst, hlt, hgM, hiM⟩ := insM_spec hM
  have hwant := wanted_rel he hgM hg
  have hd : ∀ d, s.dst = some d → d < t.size := fun d hd => Nat.lt_of_lt_of_le (hlt d hd) hnt
  rcases h1 with ⟨hw, rfl, rfl⟩ | ⟨hw, hr⟩
  · rw [hw] at hwant
    exact ⟨m, w, undef, Step.refl N hR, he.layv ⟨#[], rfl, rfl⟩ hd, fun j _ h1 h2 _ => ⟨h1, h2⟩, .one (by rw [hdst]; exact st_op_skip ho hwant)⟩
  · rw [hw] at hwant
    have hval : ∀ {m' w' x}, (execOp (evT t) o).run P w = .ok (.value x) w' → s.i ≠ .fail → Step P C N m h w m' h' w' → VRel m' v x → (∀ j, j < h.nx → m j = none → h.get j = none → s.at_.map (base + ·) ≠ some j → m' j = none ∧ h'.get j = none) →
        ∃ m' w' x, Step P C N m h w m' h' w' ∧ ERel m' (layv e s.dst v) (putT t s.dst x) ∧ (∀ j, j < h.nx → m j = none → h.get j = none → s.at_.map (base + ·) ≠ some j → m' j = none ∧ h'.get j = none) ∧
          Steps P (lone (Fm fn ro t (.inRegion ops (s.ix :: rest) :: k) ds) cs w) (lone (Fm fn ro (putT t s.dst x) (.inRegion ops rest :: k) ds) cs w') := by
      intro m' w' x q1 q2 q3 q4 q5
      exact ⟨m', w', x, q3, (he.mono q3.mono).layv q4 hd, q5, .one (by rw [hdst]; exact st_op_value ho hwant (nodefer hiM q2) q1)⟩
    unfold I.run at hr
    cases hc : s.i.cls <;> rw [hc] at hr <;> dsimp only at hr
    · split at hr
      · next u hu =>
        cases hr
        obtain ⟨x, h2, h3⟩ := pure_sound (o := o) hT hG he hc hiM hu w
        exact hval h2 (fun e0 => by rw [e0] at hu; simp [I.pure] at hu) (Step.refl N hR) h3 fun j _ h1 h2 _ => ⟨h1, h2⟩
      · cases hr
    · split at hr
      · next u hu =>
        cases hr
        obtain ⟨x, h2, h3⟩ := read_sound (o := o) hT hG hR he hc hiM hu
        exact hval h2 (fun e0 => by rw [e0] at hu; simp [I.read] at hu) (Step.refl N hR) h3 fun j _ h1 h2 _ => ⟨h1, h2⟩
      · cases hr
    · split at hr
      · next ob mk hm =>
        obtain ⟨co, x, w', ext, h2, h3, h4, h5⟩ := make_sound (o := o) hT hG he hc hiM hm w
        have hf : s.i ≠ .fail := fun e0 => by rw [e0] at hm; simp [I.make] at hm
        have hcase : s.at_ = none ∨ ∃ k, s.at_ = some k := by cases s.at_ <;> simp
        rcases hcase with hat' | ⟨k, hat'⟩
        · rw [hat'] at hr
          dsimp only [Option.map_none] at hr
          cases hr
          have hid : m h.nx = none := by
            cases e0 : m h.nx with
            | none => rfl
            | some l => have := hR.dom _ _ e0; omega
          have hge : h.get h.nx = none := by
            cases e0 : h.get h.nx with
            | none => rfl
            | some o1 => obtain ⟨l, _, e1, _⟩ := hR.obj _ _ e0; rw [hid] at e1; cases e1
          obtain ⟨h6, h7⟩ := h5 _ hid
          refine hval h2 hf (step_new hR hN hid hge (fun j => H.get_new h j ob) (by simp) (by simp) h3 h4 h6) h7 fun j hj h1 h2 _ => ⟨?_, ?_⟩
          · unfold Mp.add; rw [if_neg (by omega)]; exact h1
          · rw [H.get_new, if_neg (by omega)]; exact h2
        · rw [hat'] at hr
          dsimp only [Option.map_some] at hr
          cases hr
          obtain ⟨k1, k2, k3, k4⟩ := hat k hat'
          obtain ⟨h6, h7⟩ := h5 _ k3
          refine hval h2 hf (step_new hR k1 k3 k4 (fun j => H.get_set h _ j ob) (by simp) (by simpa using k2) h3 h4 h6) h7 fun j hj h1 h2 h8 => ?_
          have hne : j ≠ base + k := fun e0 => h8 (by rw [hat', e0]; rfl)
          refine ⟨?_, ?_⟩
          · unfold Mp.add; rw [if_neg hne]; exact h1
          · rw [H.get_set, if_neg hne]; exact h2
      · cases hr
    · obtain ⟨m', w', x, h2, h3, h4⟩ := eff_steps (N := h.nx) hT hC hG hR he (Nat.le_refl _) hc hiM hr ho hwant fn ro rest k ds cs
      refine ⟨m', w', x, h2.weaken hN, (he.mono h2.mono).layv h3 hd, fun j hj q1 q2 _ => ⟨h2.old j hj q1, h2.dead j hj q2⟩, ?_⟩
      rw [hdst]
      exact h4

end
end Am
