/- Fresh worlds, with one wire or two, of each capacity: seen by running. -/
import Derived.Test.YtpbepbijgldagaaWorld4
namespace Am.Sigs
open Am Go

/-- An object's cells are these. -/
def objIs (h : H) (b : Nat) (l : List V) : Bool := match h.get b with
  | some (.cells l' false) => V.sames l' l
  | _ => false
theorem objIs_eq {h : H} {b : Nat} {l : List V} (e : objIs h b l = true) : h.get b = some (.cells l false) := by
  unfold objIs at e
  split at e
  · next l' e2 => rw [e2, V.sames_eq e]
  · cases e
/-- A new wire. -/
def freshWi (fd0 w1 fd1 : Int) (cap : Nat) : Wi := ⟨⟨1, fd0, some [], true, false, 0, 0⟩, ⟨w1, fd1, some [], true, false, 0, 0⟩, cap, false, 0, []⟩
def freshRing (b cap : Nat) : List V := [.slice (some (b, 0)) cap (.fix cap), .i 0, .i (([] : List UInt8).length : Int), .int .u64 0, .int .u64 0, .bool true]
def freePlaces : Nat → List V
  | 0 => []
  | n + 1 => .bool false :: .i 0 :: .i 0 :: freePlaces n
def worldCells (fds : List V) (sb n s : Nat) : List V := fds ++ [.slice (some (sb, 0)) n (.grow 1), .p s 0, .int .u64 0, .bool false, .i 0, .i 0]
def ringIs (h : H) (r b c : Nat) : Bool := objIs h r (freshRing b (c + 1)) && objIs h b (bts (List.replicate (c + 1) 0))
theorem ringIs_at {h h2 : H} {X : Nat → Option Obj} {r b c : Nat} (e : ringIs h r b c = true) (x : Ext X h h2) (hc : c < 60) : RingAt h2 r b [] (c + 1) := by
  simp only [ringIs, Bool.and_eq_true] at e
  exact ⟨List.replicate (c + 1) 0, 0, 0, 0, ⟨by rw [x.get, objIs_eq e.1]; rfl, by rw [x.get, objIs_eq e.2]; rfl⟩, ⟨by simp, by omega, by simp, by omega, fun i hi => by simp at hi⟩⟩

def aliveIs (n : Nat) (v : V) (h' : H) : Bool := isTrue v && (Nat.beq h'.nx n && Nat.ble (ttop h'.t) n)
theorem alive_any {cl : Nat → Call} (hcl : Sem cl) {h0 : H} {n n' : Nat} (run : ran (callN prog fuel 30 (.fn F.roundhouselaw11_alive) [] ⟨n, .lf⟩) (aliveIs n') = true) (hnx : h0.nx = n) (hwf : ∀ b, n ≤ b → h0.get b = none) (hn : n ≤ n') :
    ∃ h1, cl 30 (.fn F.roundhouselaw11_alive) [] h0 = some (.bool true, h1) ∧ h1.nx = n' ∧ (∀ j, n' ≤ j → h1.get j = none) ∧ ∀ j o, h0.get j = some o → h1.get j = some o := by
  obtain ⟨v1, e1, ra, pa⟩ := ran_ex run
  unfold aliveIs at pa
  simp only [Bool.and_eq_true, Nat.beq_eq, Nat.ble_eq] at pa
  obtain ⟨p1, p2, p3⟩ := pa
  obtain rfl := isTrue_eq p1
  have hX : Ext h0.get ⟨n, .lf⟩ h0 := by have := ext_all (h := h0) (by rw [hnx]; exact hwf); rwa [hnx] at this
  obtain ⟨h1, qa, xa⟩ := same_in hcl ra hX
  refine ⟨h1, qa, by rw [xa.nx]; exact p2, fun j hj => ?_, fun j o hj => ext_kept xa hj⟩
  rw [xa.get, hwf j (by omega), show e1.get j = none from get_top _ _ (by omega)]; rfl

def wl1 : List V := worldCells (.bool true :: .i 0 :: .i 0 :: freePlaces 95) 55 1 39
def outOk (c : Nat) (v : V) (h : H) : Bool := v.same (.tup [.i 0, .i 0, .i 0]) && (Nat.beq h.nx 56 && (objIs h 40 wl1 && (objIs h 55 [.p 41 0] && (objIs h 41 ((freshWi 0 2 0 (c + 1)).cells 43 45 .nils) && (ringIs h 43 42 c && ringIs h 45 44 c)))))
def newOk (v : V) (h : H) : Bool := v.same (.p 40 0) && (Nat.beq h.nx 41 && (List.range 60).all fun c => ran (callN prog fuel 30 (.fn F.world_World_Outer) [.p 40 0, .i ((c + 1 : Nat) : Int)] h) (outOk c))
set_option maxRecDepth 100000 in
theorem new_run : ran (callN prog fuel 30 (.fn F.world_New) [] ⟨39, .lf⟩) newOk = true := by kernel_rfl
theorem alive1_run : ran (callN prog fuel 30 (.fn F.roundhouselaw11_alive) [] ⟨1, .lf⟩) (aliveIs 39) = true := by kernel_rfl
theorem alive2_run : ran (callN prog fuel 30 (.fn F.roundhouselaw11_alive) [] ⟨201, .lf⟩) (aliveIs 239) = true := by kernel_rfl
theorem made1 {cl : Nat → Call} (hcl : Sem cl) {h1 : H} (n1 : h1.nx = 39) (wf : ∀ j, 39 ≤ j → h1.get j = none) {c : Nat} (hc : c < 60) :
    ∃ h2 h3, cl 30 (.fn F.world_New) [] h1 = some (.p 40 0, h2) ∧ cl 30 (.fn F.world_World_Outer) [.p 40 0, .i ((c + 1 : Nat) : Int)] h2 = some (.tup [.i 0, .i 0, .i 0], h3) ∧ h3.nx = 56 ∧ (∀ j o, h1.get j = some o → h3.get j = some o) ∧
      WAt h3 40 wl1 39 55 1 (.grow 1) [.p 41 0] ∧ h3.get 41 = some ((freshWi 0 2 0 (c + 1)).obj 43 45 .nils) ∧ RingAt h3 43 42 [] (c + 1) ∧ RingAt h3 45 44 [] (c + 1) := by
  obtain ⟨v, e, r, p⟩ := ran_ex new_run
  unfold newOk at p
  simp only [Bool.and_eq_true, Nat.beq_eq] at p
  obtain ⟨p1, p2, p3⟩ := p
  obtain rfl := V.same_eq p1
  obtain ⟨v4, e4, r4, p4⟩ := ran_ex (List.all_eq_true.1 p3 c (List.mem_range.2 hc))
  unfold outOk at p4
  simp only [Bool.and_eq_true, Nat.beq_eq] at p4
  obtain ⟨q1, q2, q3, q4, q5, q6, q7⟩ := p4
  obtain rfl := V.same_eq q1
  have hX : Ext h1.get ⟨39, .lf⟩ h1 := by have := ext_all (h := h1) (by rw [n1]; exact wf); rwa [n1] at this
  obtain ⟨h2, c2, x2⟩ := same_in hcl r hX
  obtain ⟨h3, c3, x3⟩ := same_in hcl r4 x2
  exact ⟨h2, h3, c2, c3, by rw [x3.nx]; exact q2, fun j o hj => ext_kept x3 hj, ⟨by rw [x3.get, objIs_eq q3]; rfl, by kernel_rfl, by kernel_rfl, by rw [x3.get, objIs_eq q4]; rfl⟩, by rw [x3.get, objIs_eq q5]; rfl, ringIs_at q6 x3 hc, ringIs_at q7 x3 hc⟩
theorem fd1 : FdAt wl1 [.p 41 0] 1 0 0 0 41 := ⟨by omega, rfl, rfl, rfl, by omega, rfl, .inl rfl⟩

def wl2 : List V := worldCells (.bool true :: .i 0 :: .i 0 :: .bool true :: .i 0 :: .i 1 :: .bool true :: .i 1 :: .i 0 :: freePlaces 93) 275 2 239
def twoOk (c : Nat) (v : V) (h : H) : Bool := v.same (.tup [.i 2, .i 1, .i 0]) && (Nat.beq h.nx 276 && (objIs h 240 wl2 && (objIs h 275 [.p 241 0, .p 259 0] && (objIs h 241 ((freshWi 0 1 1 (c + 1)).cells 243 245 .nils) && (ringIs h 243 242 c && (ringIs h 245 244 c &&
  (objIs h 259 ((freshWi 2 2 0 (c + 1)).cells 261 263 .nils) && (ringIs h 261 260 c && ringIs h 263 262 c))))))))
def pairOk (c : Nat) (v : V) (h : H) : Bool := v.same (.tup [.i 0, .i 1, .i 0]) && ran (callN prog fuel 30 (.fn F.world_World_Outer) [.p 240 0, .i ((c + 1 : Nat) : Int)] h) (twoOk c)
def newOk2 (v : V) (h : H) : Bool := v.same (.p 240 0) && (Nat.beq h.nx 241 && (List.range 40).all fun c => ran (callN prog fuel 30 (.fn F.world_World_Pair) [.p 240 0, .i ((c + 1 : Nat) : Int)] h) (pairOk c))
set_option maxRecDepth 100000 in
theorem new_run2 : ran (callN prog fuel 30 (.fn F.world_New) [] ⟨239, .lf⟩) newOk2 = true := by kernel_rfl
theorem made2 {cl : Nat → Call} (hcl : Sem cl) {h1 : H} (n1 : h1.nx = 239) (wf : ∀ j, 239 ≤ j → h1.get j = none) {c : Nat} (hc : c < 40) :
    ∃ h2 h3 h4, cl 30 (.fn F.world_New) [] h1 = some (.p 240 0, h2) ∧ cl 30 (.fn F.world_World_Pair) [.p 240 0, .i ((c + 1 : Nat) : Int)] h2 = some (.tup [.i 0, .i 1, .i 0], h3) ∧ cl 30 (.fn F.world_World_Outer) [.p 240 0, .i ((c + 1 : Nat) : Int)] h3 = some (.tup [.i 2, .i 1, .i 0], h4) ∧
      h4.nx = 276 ∧ (∀ j o, h1.get j = some o → h4.get j = some o) ∧
      WAt h4 240 wl2 239 275 2 (.grow 1) [.p 241 0, .p 259 0] ∧ h4.get 241 = some ((freshWi 0 1 1 (c + 1)).obj 243 245 .nils) ∧ RingAt h4 243 242 [] (c + 1) ∧ RingAt h4 245 244 [] (c + 1) ∧
      h4.get 259 = some ((freshWi 2 2 0 (c + 1)).obj 261 263 .nils) ∧ RingAt h4 261 260 [] (c + 1) ∧ RingAt h4 263 262 [] (c + 1) := by
  obtain ⟨v, e, r, p⟩ := ran_ex new_run2
  unfold newOk2 at p
  simp only [Bool.and_eq_true, Nat.beq_eq] at p
  obtain ⟨p1, p2, p3⟩ := p
  obtain rfl := V.same_eq p1
  obtain ⟨v3, e3, r3, p3⟩ := ran_ex (List.all_eq_true.1 p3 c (List.mem_range.2 hc))
  unfold pairOk at p3
  simp only [Bool.and_eq_true] at p3
  obtain ⟨k1, p4⟩ := p3
  obtain rfl := V.same_eq k1
  obtain ⟨v4, e4, r4, p4⟩ := ran_ex p4
  unfold twoOk at p4
  simp only [Bool.and_eq_true, Nat.beq_eq] at p4
  obtain ⟨q1, q2, q3, q4, q5, q6, q7, q8, q9, q10⟩ := p4
  obtain rfl := V.same_eq q1
  have hX : Ext h1.get ⟨239, .lf⟩ h1 := by have := ext_all (h := h1) (by rw [n1]; exact wf); rwa [n1] at this
  obtain ⟨h2, c2, x2⟩ := same_in hcl r hX
  obtain ⟨h3, c3, x3⟩ := same_in hcl r3 x2
  obtain ⟨h4, c4, x4⟩ := same_in hcl r4 x3
  exact ⟨h2, h3, h4, c2, c3, c4, by rw [x4.nx]; exact q2, fun j o hj => ext_kept x4 hj, ⟨by rw [x4.get, objIs_eq q3]; rfl, by kernel_rfl, by kernel_rfl, by rw [x4.get, objIs_eq q4]; rfl⟩, by rw [x4.get, objIs_eq q5]; rfl, ringIs_at q6 x4 (by omega), ringIs_at q7 x4 (by omega),
    by rw [x4.get, objIs_eq q8]; rfl, ringIs_at q9 x4 (by omega), ringIs_at q10 x4 (by omega)⟩
theorem fda : FdAt wl2 [.p 241 0, .p 259 0] 2 0 0 0 241 := ⟨by omega, rfl, rfl, rfl, by omega, rfl, .inl rfl⟩
theorem fdb : FdAt wl2 [.p 241 0, .p 259 0] 2 1 0 1 241 := ⟨by omega, rfl, rfl, rfl, by omega, rfl, .inr rfl⟩
theorem fdc : FdAt wl2 [.p 241 0, .p 259 0] 2 2 1 0 259 := ⟨by omega, rfl, rfl, rfl, by omega, rfl, .inl rfl⟩
end Am.Sigs
