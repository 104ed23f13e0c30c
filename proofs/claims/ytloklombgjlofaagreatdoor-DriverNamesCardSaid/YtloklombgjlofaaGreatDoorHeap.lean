/- Facts on the abstract memory, for runs that are stepped through by hand. -/
import Derived.Test.YtloklombgjlofaaGreatDoorWp
import Derived.Test.YtloklombgjlofaaGreatDoorMem
namespace Am
open Go

/-- n cells, told by a function. -/
def tab (n : Nat) (f : Nat → V) : List V := (List.range n).map f

@[simp] theorem tab_length (n : Nat) (f : Nat → V) : (tab n f).length = n := by simp [tab]
theorem tab_get (n : Nat) (f : Nat → V) (k : Nat) : (tab n f)[k]? = if k < n then some (f k) else none := by
  unfold tab
  rw [List.getElem?_map]
  by_cases h : k < n
  · simp [h]
  · simp [h]
theorem tab_get_lt {n : Nat} {f : Nat → V} {k : Nat} (h : k < n) : (tab n f)[k]? = some (f k) := by rw [tab_get, if_pos h]
theorem tab_set (n : Nat) (f : Nat → V) (k : Nat) (v : V) : (tab n f).set k v = tab n (fun j => if j = k then v else f j) := by
  apply List.ext_getElem?
  intro i
  rw [List.getElem?_set, tab_get, tab_get, tab_length]
  by_cases h1 : k = i
  · subst h1; by_cases h2 : k < n <;> simp [h2]
  · have : ¬ i = k := fun e => h1 e.symm
    simp [h1, this]
theorem tab_congr {n : Nat} {f g : Nat → V} (h : ∀ k, k < n → f k = g k) : tab n f = tab n g := by
  unfold tab; exact List.map_congr_left fun k hk => h k (by simpa using hk)
theorem tab_replicate (n : Nat) (v : V) : List.replicate n v = tab n (fun _ => v) := by
  apply List.ext_getElem?
  intro i
  rw [tab_get, List.getElem?_replicate]
theorem tab_one {n : Nat} {f : Nat → V} (h : ∀ k, k < n → (f k).one = true) : (tab n f).all V.one = true := by
  rw [List.all_eq_true]
  intro v hv
  simp [tab] at hv
  obtain ⟨k, hk, rfl⟩ := hv
  exact h k hk

theorem setAll_nil (l : List V) (o : Nat) : setAll l o [] = l := rfl
theorem setAll_cons (l : List V) (o : Nat) (v : V) (r : List V) : setAll l o (v :: r) = setAll (l.set o v) (o + 1) r := rfl
/-- A whole block is overwritten. -/
theorem setAll_whole (vs l : List V) (h : vs.length = l.length) : setAll l 0 vs = vs := by
  apply List.ext_getElem?
  intro j
  rw [setAll_get _ _ _ _ (by omega)]
  by_cases h1 : j < vs.length
  · rw [if_pos (by omega)]; simp
  · rw [if_neg (by omega), List.getElem?_eq_none (by omega), List.getElem?_eq_none (by omega)]

section
variable {h h' h'' : H} {b o n : Nat} {l vs : List V} {ro : Bool} {v : V}

theorem load1_of (hb : h.get b = some (.cells l ro)) (hv : l[o]? = some v) : h.load1 b o = some v := by simp only [H.load1, hb, hv]
theorem load_of (hb : h.get b = some (.cells l ro)) (hn : o + n ≤ l.length) : h.load b o n = some ((l.drop o).take n) := by
  simp only [H.load, hb, cond_eq_ite, Nat.ble_eq, hn, if_true]
theorem store_of (hb : h.get b = some (.cells l false)) (hn : o + vs.length ≤ l.length) (ho : vs.all V.one = true) : h.store b o vs = some (h.set b (.cells (setAll l o vs) false)) := by
  simp only [H.store, hb, cond_eq_ite, Bool.and_eq_true, Nat.ble_eq, hn, ho, and_self, if_true]
theorem get_set_self (o : Obj) : (h.set b o).get b = some o := by rw [H.get_set, if_pos rfl]
theorem get_set_ne {j : Nat} {o : Obj} (hne : j ≠ b) : (h.set b o).get j = h.get j := by rw [H.get_set, if_neg hne]
theorem get_new_self (o : Obj) : (h.new o).get h.nx = some o := by rw [H.get_new, if_pos rfl]
theorem get_new_lt {j : Nat} {o : Obj} (hlt : j < h.nx) : (h.new o).get j = h.get j := by rw [H.get_new, if_neg (by omega)]
/-- (for the packed texts) -/
theorem zzn {j : Nat} {o : Obj} {x : Option Obj} (hne : j ≠ b) (k : h.get j = x) : (h.set b o).get j = x := (get_set_ne hne).trans k
theorem zzl {j : Nat} {o : Obj} {x : Option Obj} (hlt : j < h.nx) (k : h.get j = x) : (h.new o).get j = x := (get_new_lt hlt).trans k
theorem get_kill_ne {j : Nat} (hne : j ≠ b) : (h.kill b).get j = h.get j := by rw [H.get_kill, if_neg hne]

/-- Of the blocks that were there, at most those of B changed. -/
structure Ch (B : Nat → Prop) (h h' : H) : Prop where
  nx : h.nx ≤ h'.nx
  get : ∀ j, j < h.nx → ¬ B j → h'.get j = h.get j

theorem Ch.refl (B : Nat → Prop) (h : H) : Ch B h h := ⟨Nat.le_refl _, fun _ _ _ => rfl⟩
theorem Ch.trans {B : Nat → Prop} (a : Ch B h h') (c : Ch B h' h'') : Ch B h h'' :=
  ⟨Nat.le_trans a.nx c.nx, fun j hj hn => by rw [c.get j (Nat.lt_of_lt_of_le hj a.nx) hn, a.get j hj hn]⟩
theorem Ch.weaken {B B' : Nat → Prop} (a : Ch B h h') (hB : ∀ j, j < h.nx → B j → B' j) : Ch B' h h' := ⟨a.nx, fun j hj hn => a.get j hj fun hb => hn (hB j hj hb)⟩
/-- B' may name blocks that are new. -/
theorem Ch.trans_new {B B' : Nat → Prop} (a : Ch B h h') (c : Ch B' h' h'') (hB : ∀ j, j < h.nx → B' j → B j) : Ch B h h'' :=
  ⟨Nat.le_trans a.nx c.nx, fun j hj hn => by rw [c.get j (Nat.lt_of_lt_of_le hj a.nx) fun hb => hn (hB j hj hb), a.get j hj hn]⟩
theorem Ch.set {B : Nat → Prop} {ob : Obj} (hB : B b) : Ch B h (h.set b ob) := ⟨Nat.le_refl _, fun j _ hn => get_set_ne fun e => hn (e ▸ hB)⟩
theorem Ch.new {B : Nat → Prop} {ob : Obj} : Ch B h (h.new ob) := ⟨by simp, fun j hj _ => get_new_lt hj⟩
theorem Ch.kill {B : Nat → Prop} (hB : B b) : Ch B h (h.kill b) := ⟨Nat.le_refl _, fun j _ hn => get_kill_ne fun e => hn (e ▸ hB)⟩
theorem Ch.of_none {B : Nat → Prop} (a : Ch B h h') (hB : ∀ j, j < h.nx → ¬ B j) {j : Nat} (hj : j < h.nx) : h'.get j = h.get j := a.get j hj (hB j hj)
theorem lt_of_get (hd : ∀ j o, h.get j = some o → j < h.nx) {ob : Obj} (hb : h.get b = some ob) : b < h.nx := hd _ _ hb

end

/-- All blocks are below nx. -/
def H.Wf (h : H) : Prop := ∀ j, h.nx ≤ j → h.get j = none

end Am
