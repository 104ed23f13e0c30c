/- The rounds of SigsPlay. -/
import Derived.Test.YtkppkibkoefkjaaPlay0
namespace Am.Sigs
open Am Go

/-- How the table, the document's lists and what was handed in lie in the memory. -/
structure PInv (h0 h : H) (tb : Nat) (T : Tb) (HL RL : List Int) (vH vR : V) (i : Nat) : Prop where
  tb_ : h.get tb = some T.obj
  ok : T.ok i
  rl : Rl T HL RL
  w : h.get 2 = some (.cells [vH, vR] false)
  rH : Row 3 h 1 vH HL.length (ints HL)
  rR : Row 3 h 1 vR RL.length (ints RL)
  lH : HL.length ≤ i
  lR : RL.length ≤ i
  t1 : 1 ≤ tb
  t2 : tb < h.nx
  t3 : tb ≠ 2
  dH : ∀ q, vH.at? = some q → q ≠ tb ∧ vR.at? ≠ some q
  dR : ∀ q, vR.at? = some q → q ≠ tb
  nx : 3 ≤ h.nx
  keep : ∀ o, h0.get 0 = some o → h.get 0 = some o
theorem PInv.ext {h0 h h' : H} {tb : Nat} {T : Tb} {HL RL : List Int} {vH vR : V} {i : Nat} (p : PInv h0 h tb T HL RL vH vR i) (c : Ch (fun _ => False) h h') : PInv h0 h' tb T HL RL vH vR i := by
  have hx := c.nx
  have nx := p.nx
  exact ⟨by rw [c.get _ p.t2 id, p.tb_], p.ok, p.rl, by rw [c.get _ (by omega) id, p.w], p.rH.keep hx fun q hq => c.get q (p.rH.at_ge hq).2 id, p.rR.keep hx fun q hq => c.get q (p.rR.at_ge hq).2 id, p.lH, p.lR, p.t1, by have := p.t2; omega, p.t3, p.dH, p.dR, by omega, fun o ho => by rw [c.get _ (by omega) id]; exact p.keep o ho⟩
def PPost (h0 : H) (i : Nat) (sv : V) : Post := fun y e g => y = .normal ∧ ∃ tb T HL RL vH vR, PInv h0 g tb T HL RL vH vR (i + 1) ∧ ∃ r : Env, e = (0, sv) :: (3, .p tb 0) :: (4, .p 2 0) :: (5, .i (i : Int)) :: r
/-- The table alone turned. -/
theorem PInv.tab {h0 h h' : H} {tb : Nat} {T T' : Tb} {HL RL : List Int} {vH vR : V} {i i' : Nat} (p : PInv h0 h tb T HL RL vH vR i) (u : Upd tb T'.obj h h') (ok : T'.ok i') (rl : Rl T' HL RL) (hi : i ≤ i') : PInv h0 h' tb T' HL RL vH vR i' := by
  have hx := u.nx
  have t3 := p.t3
  have t1 := p.t1
  have t2 := p.t2
  have nx := p.nx
  have lH := p.lH
  have lR := p.lR
  exact ⟨u.self, ok, rl, by rw [u.get _ (by omega), p.w], p.rH.keep (by omega) fun q hq => u.get q (p.dH q hq).1, p.rR.keep (by omega) fun q hq => u.get q (p.dR q hq), by omega, by omega, t1, by omega, t3, p.dH, p.dR, by omega, fun o ho => by rw [u.get _ (by omega)]; exact p.keep o ho⟩

section
variable {cl : Nat → Call} (hcl : Sem cl)
include hcl

theorem pk_handle {h0 h : H} {tb i : Nat} {T : Tb} {HL RL : List Int} {vH vR : V} {s : Int} {on : Bool} (p : PInv h0 h tb T HL RL vH vR i) (hi : i ≤ 200) :
    ∃ (x : Int) (h1 h2 : H), cl 19 (.fn F.sigs_Sigs_Handle) [.p tb 0, .i s, .bool on] h = some (.i x, h1) ∧ cl 19 (.fn F.roundhouseref10_Table_Handle) [.p 2 0, .i s, .bool on] h1 = some (.i x, h2) ∧ ∃ T' HL' RL' vH' vR', PInv h0 h2 tb T' HL' RL' vH' vR' (i + 1) := by
  obtain ⟨h1, e1, u1⟩ := sp_handle hcl (d := 19) (by omega) p.tb_ s on
  by_cases hs : sig? s
  case neg =>
    rw [if_neg hs] at e1
    refine ⟨100, h1, h1, e1, rf_bad hcl (by omega) hs, T, HL, RL, vH, vR, ?_⟩
    rw [Tb.handle_bad hs] at u1
    exact p.tab u1 (p.ok.le (by omega)) p.rl (by omega)
  rw [if_pos hs] at e1
  have ok' := Tb.handle_ok p.ok (by omega) s on
  have x1 := u1.nx
  have t3 := p.t3
  have t1 := p.t1
  have t2 := p.t2
  have nx := p.nx
  have lH := p.lH
  have lR := p.lR
  have rH1 : Row 3 h1 1 vH HL.length (ints HL) := p.rH.keep (by omega) fun q hq => u1.get q (p.dH q hq).1
  have rR1 : Row 3 h1 1 vR RL.length (ints RL) := p.rR.keep (by omega) fun q hq => u1.get q (p.dR q hq)
  obtain ⟨vH', vR', h2, e2, w2, hr, c2⟩ := rf_handle hcl (d := 19) (on := on) (by omega) ((u1.get _ (by omega)).trans p.w) (by omega) rH1 rR1 (fun e => by have := (rR1.at_ge e).1; omega) (by omega) (by omega) hs
  have x2 := c2.nx
  refine ⟨0, h1, h2, e1, e2, T.handle s on, HLof HL s on, RLof RL s on, vH', vR', ?_⟩
  have hk0 : ∀ o, h0.get 0 = some o → h2.get 0 = some o := fun o ho => by rw [c2.get _ (by omega) (by omega), u1.get _ (by omega)]; exact p.keep o ho
  have htb : h2.get tb = some (T.handle s on).obj := by rw [c2.get _ (by omega) t3, u1.self]
  have l1 := HLof_len (HL := HL) (s := s) (on := on)
  have l2 := RLof_len (RL := RL) (s := s) (on := on)
  cases on
  · simp only [Bool.false_eq_true, if_false] at hr
    obtain ⟨a1, a2, a3⟩ := hr
    exact ⟨htb, ok'.le (by omega), p.rl.handle hs false, w2, a1.weaken (by omega), a2.weaken (by omega), by omega, by omega, t1, by omega, t3, fun q hq => ⟨by have := (a1.at_ge hq).1; omega, a3 q hq⟩, fun q hq => by have := (a2.at_ge hq).1; omega, by omega, hk0⟩
  · simp only [if_true] at hr
    obtain ⟨a1, rfl⟩ := hr
    exact ⟨htb, ok'.le (by omega), p.rl.handle hs true, w2, a1.weaken (by omega), rR1.keep (by omega) fun q hq => c2.get q (rR1.at_ge hq).2 (by have := (rR1.at_ge hq).1; omega), by omega, by omega, t1, by omega, t3, fun q hq => ⟨by have := (a1.at_ge hq).1; omega, fun e => by have := (a1.at_ge hq).1; have := (rR1.at_ge e).2; omega⟩, p.dR, by omega, hk0⟩

theorem pk_raise {h0 h : H} {tb i : Nat} {T : Tb} {HL RL : List Int} {vH vR : V} {s : Int} (p : PInv h0 h tb T HL RL vH vR i) (hi : i ≤ 200) :
    ∃ (x : Int) (h1 h2 : H), cl 19 (.fn F.sigs_Sigs_Raise) [.p tb 0, .i s] h = some (.i x, h1) ∧ cl 19 (.fn F.roundhouseref10_Table_Raise) [.p 2 0, .i s] h1 = some (.i x, h2) ∧ ∃ T' HL' RL' vH' vR', PInv h0 h2 tb T' HL' RL' vH' vR' (i + 1) := by
  obtain ⟨h1, e1, u1⟩ := sp_raise hcl (d := 19) (by omega) p.tb_ s (p.ok.le (by omega))
  by_cases hs : sig? s
  case neg =>
    rw [if_neg hs] at e1
    refine ⟨100, h1, h1, e1, rr_bad hcl (by omega) hs, T, HL, RL, vH, vR, ?_⟩
    rw [Tb.raise_bad hs] at u1
    exact p.tab u1 (p.ok.le (by omega)) p.rl (by omega)
  rw [if_pos hs] at e1
  have ok' := Tb.raise_ok p.ok s
  have x1 := u1.nx
  have t3 := p.t3
  have t1 := p.t1
  have t2 := p.t2
  have nx := p.nx
  have lH := p.lH
  have lR := p.lR
  have rH1 : Row 3 h1 1 vH HL.length (ints HL) := p.rH.keep (by omega) fun q hq => u1.get q (p.dH q hq).1
  have rR1 : Row 3 h1 1 vR RL.length (ints RL) := p.rR.keep (by omega) fun q hq => u1.get q (p.dR q hq)
  obtain ⟨vR', h2, e2, w2, hr, c2⟩ := rf_raise hcl (d := 19) (by omega) ((u1.get _ (by omega)).trans p.w) (by omega) rH1 rR1 (fun e => by have := (rR1.at_ge e).1; omega) (by omega) (by omega) (by omega) hs
  have x2 := c2.nx
  refine ⟨0, h1, h2, e1, e2, T.raise s, HL, RLup HL RL s, vH, vR', ?_⟩
  have hRL := p.rl.raise hs
  have l2 := RLup_len (HL := HL) (RL := RL) (s := s)
  by_cases hc : 0 < HL.count s
  · rw [if_pos hc] at hr
    obtain ⟨a1, a2⟩ := hr
    have e3 : RLup HL RL s = RL ++ [s] := by unfold RLup; rw [if_pos hc]
    rw [e3] at hRL l2 ⊢
    exact ⟨by rw [c2.get _ (by omega) (fun h => h.elim t3 fun e => p.dR tb e rfl), u1.self], ok'.le (by omega), hRL, w2, rH1.keep (by omega) fun q hq => c2.get q (rH1.at_ge hq).2 (fun h => h.elim (fun e => by have := (rH1.at_ge hq).1; omega) fun e => (p.dH q hq).2 e), a1, by omega, by omega, t1, by omega, t3,
      fun q hq => ⟨(p.dH q hq).1, fun e => by have := a2 q e; have := (rH1.at_ge hq).2; omega⟩, fun q hq => by have := a2 q hq; omega, by omega, fun o ho => by rw [c2.get _ (by omega) (fun h => h.elim (by omega) fun e => by have := (rR1.at_ge e).1; omega), u1.get _ (by omega)]; exact p.keep o ho⟩
  · rw [if_neg hc] at hr
    obtain ⟨rfl, rfl⟩ := hr
    have e3 : RLup HL RL s = RL := by unfold RLup; rw [if_neg hc]
    rw [e3] at hRL ⊢
    exact p.tab u1 (ok'.le (by omega)) hRL (by omega)
end
end Am.Sigs
