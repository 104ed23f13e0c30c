/- Slices that grow by append. -/
import Derived.Test.YtloklombgjlofaaGreatDoorStep
namespace Am
open Go

/-- v is a slice of n elements, whose cells are cs, in a block that is no older than N. -/
def Row (N : Nat) (h : H) (sz : Nat) (v : V) (n : Nat) (cs : List V) : Prop :=
  (n = 0 ∧ cs = [] ∧ v = .nils) ∨ ∃ q, N ≤ q ∧ q < h.nx ∧ v = .slice (some (q, 0)) n (.grow sz) ∧ h.get q = some (.cells cs false) ∧ cs.length = n * sz

theorem Row.nil (N : Nat) (h : H) (sz : Nat) : Row N h sz .nils 0 [] := .inl ⟨rfl, rfl, rfl⟩
/-- v's block. -/
def V.at? : V → Option Nat
  | .slice (some a) _ _ => some a.1
  | _ => none
theorem Row.keep {N sz n : Nat} {h h' : H} {v : V} {cs : List V} (r : Row N h sz v n cs) (hx : h.nx ≤ h'.nx) (hg : ∀ q, v.at? = some q → h'.get q = h.get q) : Row N h' sz v n cs := by
  rcases r with r | ⟨q, h1, h2, rfl, h4, h5⟩
  · exact .inl r
  · exact .inr ⟨q, h1, by omega, rfl, by rw [hg q rfl, h4], h5⟩
theorem Row.at_ge {N sz n : Nat} {h : H} {v : V} {cs : List V} (r : Row N h sz v n cs) {q : Nat} (hq : v.at? = some q) : N ≤ q ∧ q < h.nx := by
  rcases r with ⟨_, _, rfl⟩ | ⟨q', h1, h2, rfl, h4, h5⟩
  · cases hq
  · cases hq; exact ⟨h1, h2⟩

theorem Row.weaken {N N' sz n : Nat} {h : H} {v : V} {cs : List V} (hN : N' ≤ N) (r : Row N h sz v n cs) : Row N' h sz v n cs := by
  rcases r with r | ⟨q, h1, h2⟩
  · exact .inl r
  · exact .inr ⟨q, by omega, h2⟩
theorem Row.shape {N sz n : Nat} {h : H} {v : V} {cs : List V} (r : Row N h sz v n cs) :
    ∃ cap : Cap, (∃ a, v = .slice a n cap) ∧ ∀ i, i < n → ∃ q, N ≤ q ∧ q < h.nx ∧ v = .slice (some (q, 0)) n cap ∧ h.get q = some (.cells cs false) := by
  rcases r with ⟨rfl, _, rfl⟩ | ⟨q, e1, e2, rfl, e4, _⟩
  · exact ⟨.fix 0, ⟨none, rfl⟩, fun i hi => by omega⟩
  · exact ⟨.grow sz, ⟨_, rfl⟩, fun i _ => ⟨q, e1, e2, rfl, e4⟩⟩
theorem append_row {N sz bytes n q' : Nat} {h : H} {v : V} {cs new : List V} {cap : Cap} (r : Row N h sz v n cs) (hN : N ≤ h.nx) (hq : h.get q' = some (.cells new false)) (hl : new.length = sz) (h1 : new.all V.one = true) (hz : 1 ≤ sz)
    (hb : (n + 1) * bytes ≤ 2 ^ 46) (hn : n + 1 ≤ 2 ^ 46) (hne : v.at? ≠ some q') :
    ∃ v' h', appendV h sz bytes v (.slice (some (q', 0)) 1 cap) = some (v', h') ∧ Row N h' sz v' (n + 1) (cs ++ new) ∧ h.nx ≤ h'.nx ∧ v'.at? = some h.nx ∧ ∀ j, j < h.nx → v.at? ≠ some j → h'.get j = h.get j := by
  have hsrc : srcCells h sz 1 (.slice (some (q', 0)) 1 cap) = some new := by
    have : (1 * sz == 0) = false := by simp; omega
    simp only [srcCells, this, cond_false]
    rw [load_of hq (by omega), List.drop_zero, List.take_of_length_le (by omega)]
  have hcond : (Nat.ble ((n + 1) * bytes) (2 ^ 46) && Nat.ble (n + 1) (2 ^ 46)) = true := by simp only [Bool.and_eq_true, Nat.ble_eq]; exact ⟨hb, hn⟩
  have h10 : ((1 : Nat) == 0) = false := rfl
  rcases r with ⟨rfl, rfl, rfl⟩ | ⟨q, hq1, hq2, rfl, hq4, hq5⟩
  · refine ⟨.slice (some (h.nx, 0)) 1 (.grow sz), h.new (.cells new false), ?_, .inr ⟨h.nx, hN, by simp, rfl, by rw [get_new_self]; rfl, by simp [hl]⟩, by simp, rfl, fun j hj _ => get_new_lt hj⟩
    simp only [appendV, lenOf, hsrc]
    rw [hcond]
    simp only [cond_true, h10, cond_false, newRow]
  · have hg : (Nat.beq sz sz && Nat.ble (0 + n * sz) cs.length && new.all V.one) = true := by
      simp only [Bool.and_eq_true, Nat.ble_eq, h1, and_true]
      exact ⟨Nat.beq_refl _, by omega⟩
    have htk : (cs.drop 0).take (n * sz) = cs := by rw [List.drop_zero, List.take_of_length_le (by omega)]
    refine ⟨.slice (some (h.nx, 0)) (n + 1) (.grow sz), (h.kill q).new (.cells (cs ++ new) false), ?_, .inr ⟨h.nx, hN, by simp, rfl, ?_, ?_⟩, by simp, rfl, ?_⟩
    · simp only [appendV, lenOf, hsrc]
      rw [hcond]
      simp only [cond_true, h10, cond_false, hq4]
      rw [hg]
      simp only [cond_true, newRow, htk]
      rfl
    · exact get_new_self (h := h.kill q) _
    · simp [hq5, hl, Nat.add_mul]
    · intro j hj hv
      have hjq : j ≠ q := fun e => hv (by subst e; rfl)
      rw [get_new_lt (by simpa using hj), get_kill_ne hjq]

section
variable {call : Call} {fuel base : Nat} {K : List Fr} {e : Env} {h : H} {Q : Post} {i1 i2 d1 d2 : Nat} {ops : List Ins} {keep : List Nat}
/-- One element more. -/
theorem Ops.push {N sz bytes n : Nat} {x s : Opd} {xv sv : V} {zero cs new : List V} (hx : x.ev e = some xv) (hnew : xv.cells = new) (hl : new.length = sz) (h1 : new.all V.one = true) (hz : 1 ≤ sz) (hzl : zero.length = sz)
    (hs : s.ev (layv e (some d1) (.slice (some (h.nx, 0)) 1 (.fix 1))) = some sv) (r : Row N h sz sv n cs) (hN : N ≤ h.nx) (hb : (n + 1) * bytes ≤ 2 ^ 46) (hn : n + 1 ≤ 2 ^ 46)
    (k : ∀ v' h', Row N h' sz v' (n + 1) (cs ++ new) → h.nx ≤ h'.nx → (∀ q, v'.at? = some q → h.nx ≤ q) → (∀ j, j < h.nx → sv.at? ≠ some j → h'.get j = h.get j) →
      Ops call fuel base ops keep K (layv (layv e (some d1) (.slice (some (h.nx, 0)) 1 (.fix 1))) (some d2) v') h' Q) :
    Ops call fuel base (⟨i1, some d1, .bslice sz 1 zero [(0, x)], none, none, []⟩ :: ⟨i2, some d2, .append sz bytes s (.t d1), none, none, []⟩ :: ops) keep K e h Q := by
  have hf : fillParts zero [(0 * sz, sz, xv)] = some new := by
    have e1 : (xv.cells.length == sz && Nat.ble (0 * sz + sz) zero.length) = true := by simp [hnew, hl, hzl]
    simp only [fillParts]
    rw [e1, cond_true, hnew, Nat.zero_mul, setAll_whole _ _ (by omega)]
  refine Ops.make (ob := .cells new false) (mk := fun b => .slice (some (b, 0)) 1 (.fix 1)) rfl ?_ ?_
  · simp only [I.make, evParts, List.map, hx, hf]
  · have r' : Row N (h.new (.cells new false)) sz sv n cs := r.keep (by simp) fun q hq => get_new_lt (r.at_ge hq).2
    obtain ⟨v', h', e1, e2, e3, e4, e5⟩ := append_row (bytes := bytes) (cap := .fix 1) r' (by simp; omega) (get_new_self _) hl h1 hz hb hn (fun hq => by have := (r.at_ge hq).2; omega)
    refine Ops.step (h' := h') (v := v') (I.run_eff rfl ?_) (k v' h' e2 (by simp at e3; omega) (fun q hq => ?_) (fun j hj hv => ?_))
    · have h2 : (Opd.t d1).ev (layv e (some d1) (.slice (some (h.nx, 0)) 1 (.fix 1))) = some (.slice (some (h.nx, 0)) 1 (.fix 1)) := by
        simp [Opd.ev, layv, Env.get]
      simp only [I.eff, hs, h2, e1]
    · rw [e4] at hq; cases hq; simp
    · rw [e5 j (by simp; omega) hv, get_new_lt hj]
end
end Am
