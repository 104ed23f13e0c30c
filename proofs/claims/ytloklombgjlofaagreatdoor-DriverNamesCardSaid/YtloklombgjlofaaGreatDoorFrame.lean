/- The abstract machine alone: it looks at nothing but its slots, and a block that it does not know changes nothing. -/
import Derived.Test.YtloklombgjlofaaGreatDoorCall
namespace Am
open Go

/-! Slots. -/

section
variable {e e2 : Env}

theorem ev_congr {x : Opd} (h : ∀ s ∈ x.slots, e.get s = e2.get s) : x.ev e = x.ev e2 := by
  cases x with
  | t s => exact h s (by simp [Opd.slots])
  | c _ => rfl

theorem evs_congr : ∀ {l : List Opd}, (∀ s ∈ lslots l, e.get s = e2.get s) → evs e l = evs e2 l
  | [], _ => rfl
  | x :: r, h => by
    simp only [evs]
    rw [ev_congr (x := x) fun s hs => h s (by simp [lslots, hs]), evs_congr (l := r) fun s hs => h s (by
      simp only [lslots, List.flatMap_cons, List.mem_append]; exact .inr hs)]

theorem evo_congr {x : Option Opd} (h : ∀ s ∈ oslots x, e.get s = e2.get s) : evo e x = evo e2 x := by
  cases x with
  | none => rfl
  | some x => simp only [evo]; rw [ev_congr (x := x) h]

theorem evParts_congr : ∀ {l : List (Nat × Nat × Opd)}, (∀ s ∈ (l.flatMap fun p => p.2.2.slots), e.get s = e2.get s) → evParts e l = evParts e2 l
  | [], _ => rfl
  | (_, _, x) :: r, h => by
    simp only [evParts]
    rw [ev_congr (x := x) fun s hs => h s (by simp [hs]), evParts_congr (l := r) fun s hs => h s (by
      simp only [List.flatMap_cons, List.mem_append]; exact .inr hs)]

theorem bparts_slots (sz : Nat) : ∀ (l : List (Nat × Opd)), ((l.map fun p => (p.1 * sz, sz, p.2)).flatMap fun p => p.2.2.slots) = l.flatMap fun p => p.2.slots
  | [] => rfl
  | _ :: r => by simp [bparts_slots sz r]

theorem pure_congr {i : I} (h : ∀ s ∈ i.slots, e.get s = e2.get s) : i.pure e = i.pure e2 := by
  cases i <;> simp only [I.slots, List.mem_append, or_imp, forall_and] at h <;> simp only [I.pure]
  case mv x => rw [ev_congr h]
  case pick c a b => rw [ev_congr h.1.1, ev_congr h.1.2, ev_congr h.2]
  case build z ps => rw [evParts_congr h]
  case nilck x => rw [ev_congr h]
  case mkBm n x => rw [ev_congr h]
  case nilckB n tbl x => rw [ev_congr h]
  case bin op x y => rw [ev_congr h.1, ev_congr h.2]
  case eq k n x y => rw [ev_congr h.1, ev_congr h.2]
  case un op x => rw [ev_congr h]
  case convInt k x => rw [ev_congr h]
  case convStr x => rw [ev_congr h]
  case mkIface t x => rw [ev_congr h]
  case mkClo f l => rw [evs_congr h]
  case sliceS x lo hi => rw [ev_congr h.1.1, evo_congr h.1.2, evo_congr h.2]
  case slice sz x lo hi mx => rw [ev_congr h.1.1.1, evo_congr h.1.1.2, evo_congr h.1.2, evo_congr h.2]
  case sliceA n sz x lo hi mx => rw [ev_congr h.1.1.1, evo_congr h.1.1.2, evo_congr h.1.2, evo_congr h.2]
  case faddr off x => rw [ev_congr h]
  case field off n x => rw [ev_congr h]
  case ixaA a b x y => rw [ev_congr h.1, ev_congr h.2]
  case ixaS a x y => rw [ev_congr h.1, ev_congr h.2]
  case ixA a b c x y => rw [ev_congr h.1, ev_congr h.2]
  case ixStr x y => rw [ev_congr h.1, ev_congr h.2]
  case tassert t z ok x => rw [ev_congr h]
  case extract x i => rw [ev_congr h]
  case lenS x => rw [ev_congr h]
  case lenL x => rw [ev_congr h]
  case minI l => rw [evs_congr h]
  case maxI l => rw [evs_congr h]

theorem read_congr {i : I} (h : ∀ s ∈ i.slots, e.get s = e2.get s) (hp : H) : i.read e hp = i.read e2 hp := by
  cases i <;> simp only [I.slots, List.mem_append, or_imp, forall_and] at h <;> simp only [I.read]
  case load1 x => rw [ev_congr h]
  case loadN n x => rw [ev_congr h]
  case ofBytes x => rw [ev_congr h]
  case lookup ks z ok x y => rw [ev_congr h.1, ev_congr h.2]
  case lenM x => rw [ev_congr h]
  case entry x => rw [ev_congr h]

theorem make_congr {i : I} (h : ∀ s ∈ i.slots, e.get s = e2.get s) : i.make e = i.make e2 := by
  cases i <;> simp only [I.slots, List.mem_append, or_imp, forall_and] at h <;> simp only [I.make]
  case box sz x => rw [ev_congr h]
  case bslice sz n z ps => rw [evParts_congr (by rw [bparts_slots]; exact h)]
  case toBytes x => rw [ev_congr h]
  case mkSlice a b c x y => rw [ev_congr h.1, ev_congr h.2]

theorem eff_congr {i : I} (h : ∀ s ∈ i.slots, e.get s = e2.get s) (call : Am.Call) (hp : H) : i.eff call e hp = i.eff call e2 hp := by
  cases i <;> simp only [I.slots, List.mem_append, or_imp, forall_and] at h <;> simp only [I.eff]
  case mark x => rw [ev_congr h]
  case store n a x => rw [ev_congr h.1, ev_congr h.2]
  case mput ks a b c => rw [ev_congr h.1.1, ev_congr h.1.2, ev_congr h.2]
  case mentry ks z a b => rw [ev_congr h.1, ev_congr h.2]
  case mestore a b c => rw [ev_congr h.1.1, ev_congr h.1.2, ev_congr h.2]
  case mdel ks a b => rw [ev_congr h.1, ev_congr h.2]
  case range s x => rw [ev_congr h]
  case next s x => rw [ev_congr h]
  case call f l => rw [evs_congr h]
  case callv x l => rw [ev_congr h.1, evs_congr h.2]
  case callb ms x l => rw [ev_congr h.1, evs_congr h.2]
  case invoke tbl x l => rw [ev_congr h.1, evs_congr h.2]
  case append a b x y => rw [ev_congr h.1, ev_congr h.2]
  case copy a x y => rw [ev_congr h.1, ev_congr h.2]

theorem wanted_congr {g : Option (Nat × Bool)} (h : ∀ s ∈ gslots g, e.get s = e2.get s) : wanted e g = wanted e2 g := by
  cases g with
  | none => rfl
  | some p => simp only [wanted]; rw [h p.1 (by simp [gslots])]

end

/-! Blocks that are not known. -/

/-- h2: the memory h, and the blocks X beside. -/
structure Ext (X : Nat → Option Obj) (h h2 : H) : Prop where
  nx : h2.nx = h.nx
  get : ∀ j, h2.get j = (h.get j).or (X j)
  off : ∀ j, X j ≠ none → j < h.nx ∧ h.get j = none

section
variable {X : Nat → Option Obj} {h h2 : H}

theorem Ext.refl (h : H) : Ext (fun _ => none) h h := ⟨rfl, fun j => by simp, fun j hj => absurd rfl hj⟩

theorem Ext.has (x : Ext X h h2) {b : Nat} {o : Obj} (hb : h.get b = some o) : h2.get b = some o := by rw [x.get, hb]; rfl

theorem Ext.none_of (x : Ext X h h2) {b : Nat} {o : Obj} (hb : h.get b = Option.some o) : X b = none := by
  by_cases e : X b = none
  · exact e
  · have := (x.off b e).2; rw [hb] at this; cases this

theorem Ext.none_nx (x : Ext X h h2) {b : Nat} (hb : h.nx ≤ b) : X b = none := by
  by_cases e : X b = none
  · exact e
  · have := (x.off b e).1; omega

theorem Ext.upd (x : Ext X h h2) {b : Nat} (hX : X b = none) (o : Option Obj) : Ext X (h.upd b o) (h2.upd b o) := by
  refine ⟨x.nx, fun j => ?_, fun j hj => ?_⟩
  · rw [H.get_upd, H.get_upd]
    by_cases e : j = b
    · subst e; rw [if_pos rfl, if_pos rfl, hX]; simp
    · rw [if_neg e, if_neg e]; exact x.get j
  · have hne : j ≠ b := fun e => hj (e ▸ hX)
    rw [H.get_upd, if_neg hne]; exact x.off j hj

theorem Ext.set (x : Ext X h h2) {b : Nat} (hX : X b = none) (o : Obj) : Ext X (h.set b o) (h2.set b o) := x.upd hX _
theorem Ext.kill (x : Ext X h h2) {b : Nat} (hX : X b = none) : Ext X (h.kill b) (h2.kill b) := x.upd hX _
theorem Ext.new (x : Ext X h h2) (o : Obj) : Ext X (h.new o) (h2.new o) := by
  refine ⟨by simp [x.nx], fun j => ?_, fun j hj => ?_⟩
  · rw [H.get_new, H.get_new, x.nx]
    by_cases e : j = h.nx
    · subst e; rw [if_pos rfl, if_pos rfl]; rfl
    · rw [if_neg e, if_neg e]; exact x.get j
  · have := x.off j hj
    have hne : j ≠ h.nx := by omega
    rw [H.get_new, if_neg hne]; exact ⟨by simp; omega, this.2⟩
theorem Ext.reserve (x : Ext X h h2) (n : Nat) : Ext X (h.reserve n) (h2.reserve n) :=
  ⟨by simp [x.nx], fun j => by simp [x.get], fun j hj => by have := x.off j hj; exact ⟨by simp; omega, this.2⟩⟩

theorem Ext.load (x : Ext X h h2) {b o n : Nat} {l : List V} (hl : h.load b o n = Option.some l) : h2.load b o n = Option.some l := by
  unfold H.load at *
  split at hl
  · next hb => rw [x.has hb]; exact hl
  · cases hl
theorem Ext.load1 (x : Ext X h h2) {b o : Nat} {v : V} (hl : h.load1 b o = Option.some v) : h2.load1 b o = Option.some v := by
  unfold H.load1 at *
  split at hl
  · next hb => rw [x.has hb]; exact hl
  · cases hl
theorem Ext.map? (x : Ext X h h2) {b : Nat} {es : List (V × V × Nat) × Nat} (hl : h.map? b = Option.some es) : h2.map? b = Option.some es ∧ X b = none := by
  unfold H.map? at *
  split at hl
  · next hb => rw [x.has hb]; exact ⟨hl, x.none_of hb⟩
  · cases hl
theorem Ext.store (x : Ext X h h2) {b o : Nat} {vs : List V} {h' : H} (hl : h.store b o vs = Option.some h') : ∃ h2', h2.store b o vs = Option.some h2' ∧ Ext X h' h2' := by
  unfold H.store at *
  split at hl
  · next hb =>
    rw [x.has hb]
    dsimp only
    revert hl
    generalize (Nat.ble _ _ && _) = c
    cases c with
    | false => intro hl; cases hl
    | true => intro hl; cases hl; exact ⟨_, rfl, x.set (x.none_of hb) _⟩
  · cases hl
theorem Ext.src (x : Ext X h h2) {sz n : Nat} {v : V} {l : List V} (hl : srcCells h sz n v = Option.some l) : srcCells h2 sz n v = Option.some l := by
  unfold srcCells at *
  split at hl
  · exact hl
  · revert hl
    generalize (n * sz == 0) = c
    cases c with
    | true => exact id
    | false => exact x.load
  · exact hl
  · cases hl

/-- What is to be shown of a piece of the run. -/
def Goes (X : Nat → Option Obj) (h2 : H) (r : Option (V × H)) (v : V) (h' : H) : Prop := ∃ h2', r = some (v, h2') ∧ Ext X h' h2'

theorem Ext.append (x : Ext X h h2) {sz bytes : Nat} {a b v : V} {h' : H} (hl : appendV h sz bytes a b = Option.some (v, h')) : ∃ h2', appendV h2 sz bytes a b = Option.some (v, h2') ∧ Ext X h' h2' := by
  unfold appendV at *
  split at hl
  · cases hl
  next n hn =>
  split at hl
  · cases hl
  next new hnew =>
  rw [x.src hnew]
  dsimp only
  split at hl
  · next base len cap =>
    try dsimp only
    revert hl
    generalize (Nat.ble _ _ && Nat.ble _ _) = c
    cases c with
    | false => intro hl; cases hl
    | true =>
    dsimp only [cond_true]
    generalize (n == 0) = c
    cases c with
    | true => intro hl; cases hl; exact ⟨_, rfl, x⟩
    | false =>
    dsimp only [cond_false]
    cases base with
    | none =>
      intro hl
      simp only [newRow, Option.some.injEq, Prod.mk.injEq] at hl ⊢
      obtain ⟨rfl, rfl⟩ := hl
      exact ⟨_, ⟨by rw [x.nx], rfl⟩, x.new _⟩
    | some p =>
      obtain ⟨b, o⟩ := p
      cases cap with
      | fix c =>
        dsimp only
        generalize (Nat.ble _ c) = q
        cases q with
        | true =>
          dsimp only [cond_true]
          intro hl
          split at hl
          · next h3 hs =>
            cases hl
            obtain ⟨h4, e1, e2⟩ := x.store hs
            rw [e1]
            exact ⟨_, rfl, e2⟩
          · cases hl
        | false =>
          dsimp only [cond_false]
          intro hl
          split at hl
          · next old ho =>
            have : (bif len * sz == 0 then some [] else h2.load b o (len * sz)) = some old := by
              revert ho
              generalize (len * sz == 0) = c
              cases c with
              | true => exact id
              | false => exact x.load
            rw [this]
            simp only [newRow, Option.some.injEq, Prod.mk.injEq] at hl ⊢
            obtain ⟨rfl, rfl⟩ := hl
            exact ⟨_, ⟨by rw [x.nx], rfl⟩, x.new _⟩
          · cases hl
      | grow q =>
        dsimp only
        intro hl
        split at hl
        · next l hb =>
          rw [x.has hb]
          dsimp only
          revert hl
          generalize (_ && _ && _) = c
          cases c with
          | false => intro hl; cases hl
          | true =>
            dsimp only [cond_true]
            intro hl
            simp only [newRow, Option.some.injEq, Prod.mk.injEq] at hl ⊢
            obtain ⟨rfl, rfl⟩ := hl
            exact ⟨_, ⟨by simp [x.nx], rfl⟩, (x.kill (x.none_of hb)).new _⟩
        · cases hl
  · cases hl

theorem Ext.copy (x : Ext X h h2) {sz : Nat} {a b v : V} {h' : H} (hl : copyV h sz a b = Option.some (v, h')) : ∃ h2', copyV h2 sz a b = Option.some (v, h2') ∧ Ext X h' h2' := by
  unfold copyV at *
  split at hl
  · next base len c k hk =>
    dsimp only at hl ⊢
    split at hl
    · cases hl
    next l hs =>
    rw [x.src hs]
    dsimp only
    revert hl
    generalize l.isEmpty = c
    cases c with
    | true => intro hl; cases hl; exact ⟨_, rfl, x⟩
    | false =>
      dsimp only [cond_false]
      intro hl
      split at hl
      · cases hl
      · split at hl
        · next h3 hs =>
          cases hl
          obtain ⟨h4, e1, e2⟩ := x.store hs
          rw [e1]
          exact ⟨_, rfl, e2⟩
        · cases hl
  · cases hl

theorem Ext.read (x : Ext X h h2) {e : Env} {i : I} {v : V} (hr : i.read e h = Option.some v) : i.read e h2 = Option.some v := by
  cases i <;> simp only [I.read] at hr ⊢ <;> try (cases hr; done)
  case load1 a =>
    split at hr
    · split at hr
      · next hl => rw [x.load1 hl]; exact hr
      · cases hr
    · cases hr
  case loadN n a =>
    split at hr
    · split at hr
      · next hl => rw [x.load hl]; exact hr
      · cases hr
    · cases hr
  case ofBytes a =>
    split at hr
    · exact hr
    · next n _ _ =>
      revert hr
      generalize (n == 0) = c
      cases c with
      | true => exact id
      | false =>
        dsimp only [cond_false]
        intro hr
        split at hr
        · next hl => rw [x.load hl]; exact hr
        · cases hr
    · cases hr
  case lookup ks z ok m k =>
    split at hr
    · exact hr
    · split at hr
      · next hl => rw [(x.map? hl).1]; exact hr
      · cases hr
    · cases hr
  case lenM m =>
    split at hr
    · exact hr
    · split at hr
      · next hl => rw [(x.map? hl).1]; exact hr
      · cases hr
    · cases hr
  case entry a =>
    split at hr
    · split at hr
      · next hb =>
        rw [x.has hb]
        split at hr
        · next hl he => dsimp only; rw [(x.map? hl).1, he]; exact hr
        · cases hr
      · cases hr
    · cases hr

end

/-- The calls know nothing of other blocks. -/
def CallF (call : Am.Call) : Prop := ∀ tgt args h v h', call tgt args h = some (v, h') → ∀ X h2, Ext X h h2 → ∃ h2', call tgt args h2 = some (v, h2') ∧ Ext X h' h2'

section
variable {X : Nat → Option Obj} {h h2 h' : H} {call : Am.Call} {e : Env} {v : V}

theorem Ext.eff (hC : CallF call) (x : Ext X h h2) {i : I} (hr : i.eff call e h = some (v, h')) : ∃ h2', i.eff call e h2 = some (v, h2') ∧ Ext X h' h2' := by
  cases i <;> simp only [I.eff] at hr ⊢ <;> try (cases hr; done)
  case mark a =>
    split at hr
    · split at hr
      · next n _ _ _ hb =>
        simp only [cond_eq_ite, Nat.ble_eq] at hr
        split at hr
        · next h1 => cases hr; rw [x.has hb]; exact ⟨_, by simp only [cond_eq_ite, Nat.ble_eq, if_pos h1], x⟩
        · cases hr
      · cases hr
    · cases hr
  case store n a y =>
    split at hr
    · next u _ _ =>
      revert hr
      generalize (u.cells.length == n) = c
      cases c with
      | false => intro hr; cases hr
      | true =>
        dsimp only [cond_true]
        intro hr
        split at hr
        · next hs =>
          cases hr
          obtain ⟨h4, e1, e2⟩ := x.store hs
          rw [e1]; exact ⟨_, rfl, e2⟩
        · cases hr
    · cases hr
  case mput ks a b c =>
    split at hr
    · split at hr
      · next hm =>
        rw [(x.map? hm).1]
        dsimp only
        split at hr
        · cases hr; exact ⟨_, rfl, x.set (x.map? hm).2 _⟩
        · cases hr; exact ⟨_, rfl, x.set (x.map? hm).2 _⟩
        · cases hr
      · cases hr
    · cases hr
  case mentry ks z a b =>
    split at hr
    · split at hr
      · next hm =>
        rw [(x.map? hm).1]
        dsimp only
        split at hr
        · cases hr; exact ⟨_, rfl, x.set (x.map? hm).2 _⟩
        · cases hr; exact ⟨_, rfl, x.set (x.map? hm).2 _⟩
        · cases hr
      · cases hr
    · cases hr
  case mestore a b c =>
    split at hr
    · split at hr
      · next hm =>
        rw [(x.map? hm).1]
        dsimp only
        split at hr
        · split at hr
          · cases hr; exact ⟨_, rfl, x.set (x.map? hm).2 _⟩
          · cases hr
        · cases hr
      · cases hr
    · cases hr
  case mdel ks a b =>
    split at hr
    · split at hr
      · cases hr; exact ⟨_, rfl, x⟩
      · cases hr
    · split at hr
      · next hm =>
        rw [(x.map? hm).1]
        dsimp only
        split at hr
        · cases hr; exact ⟨_, rfl, x.set (x.map? hm).2 _⟩
        · cases hr; exact ⟨_, rfl, x⟩
        · cases hr
      · cases hr
    · cases hr
  case range str a =>
    split at hr
    · cases hr; rw [x.nx]; exact ⟨_, rfl, x.new _⟩
    · cases hr; rw [x.nx]; exact ⟨_, rfl, x.new _⟩
    · split at hr
      · next hm =>
        cases hr
        rw [(x.map? hm).1, x.nx]; exact ⟨_, rfl, x.new _⟩
      · cases hr
    · cases hr
  case next str a =>
    split at hr
    · split at hr
      · next hb =>
        rw [x.has hb]
        dsimp only
        split at hr
        · cases hr; exact ⟨_, rfl, x⟩
        · revert hr
          generalize Nat.blt _ _ = c
          cases c with
          | false => intro hr; cases hr
          | true => intro hr; cases hr; exact ⟨_, rfl, x.set (x.none_of hb) _⟩
      · next hb =>
        rw [x.has hb]
        cases hr; exact ⟨_, rfl, x⟩
      · next hb =>
        rw [x.has hb]
        dsimp only
        split at hr
        · next hm =>
          rw [(x.map? hm).1]
          dsimp only
          revert hr
          generalize allNew _ _ _ = c
          cases c with
          | true => intro hr; cases hr
          | false =>
            dsimp only [cond_false]
            intro hr
            split at hr
            · cases hr; exact ⟨_, rfl, x⟩
            · revert hr
              generalize Nat.blt _ _ = c
              cases c with
              | false => intro hr; cases hr
              | true => intro hr; cases hr; exact ⟨_, rfl, x.set (x.none_of hb) _⟩
            · cases hr
        · cases hr
      · cases hr
    · cases hr
  case call f l =>
    split at hr
    · exact hC _ _ _ _ _ hr _ _ x
    · cases hr
  case callv y l =>
    split at hr
    · exact hC _ _ _ _ _ hr _ _ x
    · exact hC _ _ _ _ _ hr _ _ x
    · cases hr
  case callb ms y l =>
    split at hr
    · exact hC _ _ _ _ _ hr _ _ x
    · exact hC _ _ _ _ _ hr _ _ x
    · split at hr
      · split at hr
        · exact hC _ _ _ _ _ hr _ _ x
        · cases hr
      · cases hr
    · cases hr
  case invoke tbl y l =>
    split at hr
    · split at hr
      · exact hC _ _ _ _ _ hr _ _ x
      · cases hr
    · cases hr
  case append a b y z =>
    split at hr
    · exact x.append hr
    · cases hr
  case copy a y z =>
    split at hr
    · exact x.copy hr
    · cases hr

theorem Ext.chk (x : Ext X h h2) : ∀ {l : List (Nat × I × Option (Nat × Bool))}, chkAll e h l = true → chkAll e h2 l = true
  | [], _ => rfl
  | (d, i, g) :: r, hc => by
    simp only [chkAll, Bool.and_eq_true] at hc ⊢
    refine ⟨?_, x.chk hc.2⟩
    have h1 := hc.1
    revert h1
    cases wanted e g with
    | false => exact id
    | true =>
      dsimp only [cond_true]
      intro h1
      split at h1
      · next a b ha hb => rw [x.read ha, hb]; exact h1
      · cases h1

/-- One instruction; a reserved block must not be among those beside. -/
theorem Ext.run (hC : CallF call) (x : Ext X h h2) {i : I} {at_ : Option Nat} (ha : ∀ b, at_ = some b → X b = none) (hr : i.run call e h at_ = some (v, h')) :
    ∃ h2', i.run call e h2 at_ = some (v, h2') ∧ Ext X h' h2' := by
  unfold I.run at *
  cases hc : i.cls <;> simp only [hc] at hr ⊢
  · split at hr
    · next hp => cases hr; exact ⟨_, rfl, x⟩
    · cases hr
  · split at hr
    · next hp => cases hr; rw [x.read hp]; exact ⟨_, rfl, x⟩
    · cases hr
  · split at hr
    · next hp =>
      split at hr
      · cases hr; exact ⟨_, by rw [x.nx], x.new _⟩
      · cases hr; exact ⟨_, rfl, x.set (ha _ rfl) _⟩
    · cases hr
  · exact Ext.eff hC x hr

end
end Am
