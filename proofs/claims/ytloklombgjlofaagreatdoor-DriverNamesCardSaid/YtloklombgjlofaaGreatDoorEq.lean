/- == . -/
import Derived.Test.YtloklombgjlofaaGreatDoorPure4
namespace Am
open Go

section
variable {P : Program} {C : Cx} {m : Mp} {e : Env} {t : Array Value} {o : Oper} {v : V}

theorem cellsEq_append : ∀ {a b : List LK} {l l' : List V} {r : Bool}, cellsEq (a ++ b) l l' = some r →
    ∃ r1 r2, cellsEq a (l.take a.length) (l'.take a.length) = some r1 ∧ cellsEq b (l.drop a.length) (l'.drop a.length) = some r2 ∧ r = (r1 && r2)
  | [], b, l, l', r, h => ⟨true, r, by simp [cellsEq], by simpa using h, by simp⟩
  | k :: a, b, [], l', r, h => by simp [cellsEq] at h
  | k :: a, b, x :: l, [], r, h => by simp [cellsEq] at h
  | k :: a, b, x :: l, y :: l', r, h => by
    simp only [List.cons_append, cellsEq] at h
    split at h
    · next u1 u2 e1 e2 =>
      cases h
      obtain ⟨r1, r2, h1, h2, h3⟩ := cellsEq_append e2
      exact ⟨u1 && r1, r2, by simp [cellsEq, e1, h1], by simpa using h2, by rw [h3, Bool.and_assoc]⟩
    · cases h

theorem cellsEq_length : ∀ {sh : List LK} {xs ys : List V} {r : Bool}, cellsEq sh xs ys = some r → xs.length = sh.length ∧ ys.length = sh.length
  | [], [], [], _, _ => ⟨rfl, rfl⟩
  | [], [], _ :: _, _, h => by simp [cellsEq] at h
  | [], _ :: _, _, _, h => by simp [cellsEq] at h
  | _ :: _, [], _, _, h => by simp [cellsEq] at h
  | _ :: _, _ :: _, [], _, h => by simp [cellsEq] at h
  | _ :: sh, _ :: xs, _ :: ys, _, h => by
    simp only [cellsEq] at h
    split at h
    · next e2 => have := cellsEq_length e2; simp; exact this
    · cases h

def lkDesc : LK → TypeDesc
  | .bool => .bool
  | .int k => .int k
  | .str => .string

theorem leafEq_run {lk : LK} {a b : V} {x y : Value} {r : Bool} (ha : VRel m a x) (hb : VRel m b y) (h : leafEq lk a b = some r) {ty : TypeId}
    (hu : P.underlying ty = some (lkDesc lk)) (d : Nat) (w : World) : (Op.equalIn (d + 1) ty x y).run P w = .ok r w := by
  unfold leafEq at h
  split at h
  · cases h; rw [show x = _ from ha, show y = _ from hb]; exact run_equalIn_bool' w d ty _ _ hu
  · simp only [cond_eq_ite, Bool.and_eq_true, beq_iff_eq] at h
    split at h
    · next hk =>
      cases h
      obtain ⟨rfl, rfl⟩ := hk
      rw [show x = _ from ha, show y = _ from hb]; exact run_equalIn_int w d ty _ _ _ _ hu
    · cases h
  · cases h
    rw [show x = _ from ha, show y = _ from hb, run_equalIn_string w d ty _ _ hu]
    simp [ByteArray.toList_eq]
  · cases h

/-- What is to be shown of a type whose values are compared cell by cell. -/
def EqOk (P : Program) (m : Mp) (n : Nat) (ty : TypeId) (size : Nat) (sh : List LK) : Prop :=
  sh.length = size ∧ ∀ (la lb : List V) (xs ys : Array Value) (off : Nat) (r : Bool), VRels m la xs.toList → VRels m lb ys.toList → off + size ≤ la.length → off + size ≤ lb.length →
    cellsEq sh ((la.drop off).take size) ((lb.drop off).take size) = some r → ∀ d, n ≤ d → ∀ w, ∃ x y, (Go.part ty xs off).run P w = .ok x w ∧ (Go.part ty ys off).run P w = .ok y w ∧ (Op.equalIn d ty x y).run P w = .ok r w

theorem eqFields_run (n size : Nat) (H : ∀ ty i sh, C.T.at_ ty = some i → shapeT C n ty = some sh → EqOk P m n ty i.size sh) :
    ∀ (fs : List (Nat × TypeId)) (gs : List Field) (off : Nat) (sh : List LK), shapeFs C (shapeT C n) off size fs = some sh → fsMatch fs gs = true → off ≤ size →
    off + sh.length = size ∧ ∀ (la lb : List V) (xs ys : Array Value) (r : Bool), VRels m la xs.toList → VRels m lb ys.toList → la.length = size → lb.length = size →
      cellsEq sh (la.drop off) (lb.drop off) = some r → ∀ d, n ≤ d → ∀ w, (Op.eqFields d xs ys gs).run P w = .ok r w
  | [], [], off, sh, hs, _, _ => by
    simp only [shapeFs, cond_eq_ite, nbeq, decide_eq_true_eq] at hs
    split at hs
    · next e =>
      cases hs
      refine ⟨by simpa using e, fun la lb xs ys r _ _ h1 h2 hr d _ w => ?_⟩
      rw [List.drop_eq_nil_of_le (by omega), List.drop_eq_nil_of_le (by omega)] at hr
      simp [cellsEq] at hr
      subst hr
      simp [Op.eqFields]
    · cases hs
  | [], _ :: _, _, _, _, h, _ => by simp [fsMatch] at h
  | _ :: _, [], _, _, _, h, _ => by simp [fsMatch] at h
  | (o1, ty) :: fs, f :: gs, off, sh, hs, hf, hoff => by
    simp only [fsMatch, Bool.and_eq_true, nbeq, decide_eq_true_eq, bne_iff_ne] at hf
    simp only [shapeFs] at hs
    split at hs
    · next i a b e1 e2 e3 =>
      rw [e1] at e3
      simp only [cond_eq_ite, nbeq, decide_eq_true_eq] at hs
      split at hs
      · next ho =>
        cases hs
        obtain ⟨hl, hE⟩ := H ty i a e1 e2
        have hoff2 : off + i.size ≤ size := by
          -- the rest ends at size
          rcases Nat.lt_or_ge size (off + i.size) with hlt | hge
          · exfalso
            -- behind the size no row of fields ends
            have : ∀ (fs : List (Nat × TypeId)) (q : Nat) (s : List LK), size < q → shapeFs C (shapeT C n) q size fs ≠ some s := by
              intro fs
              induction fs with
              | nil =>
                intro q s hq h
                simp only [shapeFs, cond_eq_ite, nbeq, decide_eq_true_eq] at h
                split at h
                · omega
                · cases h
              | cons p fs ih =>
                intro q s hq h
                obtain ⟨p1, p2⟩ := p
                simp only [shapeFs] at h
                split at h
                · next j _ _ f1 _ f3 => rw [f1] at f3; exact ih _ _ (by omega) f3
                · cases h
            exact this _ _ _ hlt e3
          · exact hge
        obtain ⟨hl2, hE2⟩ := eqFields_run n size H fs gs (off + i.size) b e3 hf.2 hoff2
        refine ⟨by simp; omega, fun la lb xs ys r ha hb h1 h2 hr d hd w => ?_⟩
        obtain ⟨r1, r2, h3, h4, h5⟩ := cellsEq_append hr
        rw [hl] at h3 h4
        rw [List.drop_drop] at h4
        rw [List.drop_drop] at h4
        obtain ⟨x, y, h6, h7, h8⟩ := hE la lb xs ys off r1 ha hb (by omega) (by omega) h3 d hd w
        have h9 := hE2 la lb xs ys r2 ha hb h1 h2 (by simpa [Nat.add_comm] using h4) d hd w
        have hft : f.type = ty := hf.1.1.2.symm
        have hfo : f.offset = off := hf.1.1.1.symm.trans ho
        simp only [Op.eqFields]
        rw [if_pos hf.1.2]
        simp only [Sem.run_bind, hft, hfo, h6, h7, h8, Result.andThen_ok, Sem.run_ite, h9]
        cases r1
        · simp at h5; simp [h5]
        · simp at h5; simp [h5]
      · cases hs
    · cases hs

theorem run_equalIn_array {k : Nat} {ty el : TypeId} {esz : Nat} {sh : List LK} (hT : TOk P C) (hu : P.underlying ty = some (.array k el)) (hsz : sizeM C el esz = true) {n : Nat} (hE : EqOk P m n el esz sh)
    {la lb : List V} {xs ys : Array Value} (ha : VRels m la xs.toList) (hb : VRels m lb ys.toList) (h1 : la.length = k * esz) (h2 : lb.length = k * esz) {r : Bool}
    (hr : cellsEq (List.replicate k sh).flatten la lb = some r) (d : Nat) (hd : n ≤ d) (w : World) : (Op.equalIn (d + 1) ty (.agg xs) (.agg ys)).run P w = .ok r w := by
  simp only [Op.equalIn, Sem.run_bind, run_underlying hu, Result.andThen_ok, sizeM_run hT hsz]
  rw [Std.Legacy.Range.forIn_eq_forIn_range']
  simp only [Std.Legacy.Range.size, Nat.sub_zero, Nat.add_sub_cancel, Nat.div_one]
  -- from index j on
  have key : ∀ (q j : Nat) (r : Bool), j + q = k → cellsEq (List.replicate q sh).flatten (la.drop (j * esz)) (lb.drop (j * esz)) = some r →
      ∀ w, ((forIn (List.range' j q 1) ((none, ()) : Option Bool × Unit) fun i _ => do
        let x ← Go.part el xs (i * esz)
        let y ← Go.part el ys (i * esz)
        let b ← Op.equalIn d el x y
        if (!b) = true then pure (ForInStep.done (some false, ())) else pure (ForInStep.yield (none, ())) : Sem (Option Bool × Unit))).run P w =
        .ok (if r then (none, ()) else (some false, ())) w := by
    intro q
    induction q with
    | zero =>
      intro j r hj hr w
      rw [List.drop_eq_nil_of_le (by rw [h1, ← hj]; simp), List.drop_eq_nil_of_le (by rw [h2, ← hj]; simp)] at hr
      simp [cellsEq] at hr
      subst hr
      simp
    | succ q ih =>
      intro j r hj hr w
      rw [List.replicate_succ, List.flatten_cons] at hr
      obtain ⟨r1, r2, h3, h4, h5⟩ := cellsEq_append hr
      rw [hE.1] at h3 h4
      rw [List.drop_drop, List.drop_drop] at h4
      have hjk : j * esz + esz ≤ k * esz := by
        have : (j + 1) * esz ≤ k * esz := Nat.mul_le_mul_right _ (by omega)
        rw [Nat.add_mul] at this; omega
      obtain ⟨x, y, h6, h7, h8⟩ := hE.2 la lb xs ys (j * esz) r1 ha hb (by omega) (by omega) h3 d hd w
      have h9 := ih (j + 1) r2 (by omega) (by rw [Nat.add_mul, Nat.one_mul]; exact h4) w
      rw [List.range'_succ, List.forIn_cons]
      simp only [Sem.run_bind, h6, h7, h8, Result.andThen_ok, Sem.run_ite, Sem.run_pure]
      cases r1
      · simp at h5; simp [h5]
      · simp at h5
        simp only [Bool.not_true, Bool.false_eq_true, if_false, Result.andThen_ok]
        rw [h9, h5]
  have := key k 0 r (by omega) (by simpa using hr) w
  rw [this]
  cases r <;> rfl

theorem shape_ok (hT : TOk P C) : ∀ (n : Nat) (ty : TypeId) (i : TI) (sh : List LK), C.T.at_ ty = some i → shapeT C n ty = some sh → EqOk P m n ty i.size sh
  | 0, _, _, _, _, h => by simp [shapeT] at h
  | n + 1, ty, i, sh, hi, h => by
    obtain ⟨info, dd, F⟩ := hT.facts hi
    have hud := F.ud
    have hund := F.und
    simp only [shapeT, hi] at h
    have leaf : ∀ lk, sh = [lk] → i.size = 1 → isAggT i.u = false → P.underlying ty = some (lkDesc lk) → EqOk P m (n + 1) ty i.size sh := by
      rintro lk rfl hs hna hu
      refine ⟨by simp [hs], fun la lb xs ys off r ha hb h1 h2 hr d hd w => ?_⟩
      rw [hs] at h1 h2 hr
      have ea : ∃ a, la[off]? = some a ∧ (la.drop off).take 1 = [a] := by
        refine ⟨la[off]'(by omega), by simp, ?_⟩
        rw [List.drop_eq_getElem_cons (by omega)]; rfl
      have eb : ∃ b, lb[off]? = some b ∧ (lb.drop off).take 1 = [b] := by
        refine ⟨lb[off]'(by omega), by simp, ?_⟩
        rw [List.drop_eq_getElem_cons (by omega)]; rfl
      obtain ⟨a, ea1, ea2⟩ := ea
      obtain ⟨b, eb1, eb2⟩ := eb
      rw [ea2, eb2] at hr
      simp only [cellsEq] at hr
      split at hr
      · next u1 u2 e1 e2 =>
        cases e2; cases hr
        obtain ⟨x, hx, hax⟩ := ha.get ea1
        obtain ⟨y, hy, hby⟩ := hb.get eb1
        have hx' : xs[off]? = some x := by rw [← hx]; simp
        have hy' : ys[off]? = some y := by rw [← hy]; simp
        obtain ⟨d, rfl⟩ : ∃ d', d = d' + 1 := ⟨d - 1, by omega⟩
        refine ⟨x, y, ?_, ?_, ?_⟩
        · simp [Go.part, isAgg_run hT hi, hna, hx']
        · simp [Go.part, isAgg_run hT hi, hna, hy']
        · rw [leafEq_run hax hby e1 hu]; simp
      · cases hr
    cases hu : i.u with
    | bool =>
      rw [hu] at h hud; simp only [cond_eq_ite, nbeq, decide_eq_true_eq] at h
      split at h
      · next hs =>
        cases h
        cases hd : dd <;> rw [hd] at hud <;> simp only [udMatch] at hud <;> try (cases hud; done)
        exact leaf .bool rfl hs (by rw [hu]; rfl) (by rw [hund, hd]; rfl)
      · cases h
    | int k =>
      rw [hu] at h hud; simp only [cond_eq_ite, nbeq, decide_eq_true_eq] at h
      split at h
      · next hs =>
        cases h
        cases hd : dd <;> rw [hd] at hud <;> simp only [udMatch] at hud <;> try (cases hud; done)
        simp at hud; subst hud
        exact leaf (.int k) rfl hs (by rw [hu]; rfl) (by rw [hund, hd]; rfl)
      · cases h
    | str =>
      rw [hu] at h hud; simp only [cond_eq_ite, nbeq, decide_eq_true_eq] at h
      split at h
      · next hs =>
        cases h
        cases hd : dd <;> rw [hd] at hud <;> simp only [udMatch] at hud <;> try (cases hud; done)
        exact leaf .str rfl hs (by rw [hu]; rfl) (by rw [hund, hd]; rfl)
      · cases h
    | struct fs =>
      rw [hu] at h hud; simp only [cond_eq_ite] at h
      split at h
      · next he =>
        cases hd : dd <;> rw [hd] at hud <;> simp only [udMatch] at hud <;> try (cases hud; done)
        next gs =>
        obtain ⟨hst, _⟩ := F.eqs he
        obtain ⟨hlen, hE⟩ := eqFields_run (P := P) (m := m) n i.size (fun ty' i' sh' a b => shape_ok hT n ty' i' sh' a b) fs gs.toList 0 sh h hud (Nat.zero_le _)
        refine ⟨by omega, fun la lb xs ys off r ha hb h1 h2 hr d hd' w => ?_⟩
        obtain ⟨d, rfl⟩ : ∃ d', d = d' + 1 := ⟨d - 1, by omega⟩
        have hag : isAggT i.u = true := by rw [hu]; rfl
        have hsz : sizeM C ty i.size = true := by unfold sizeM; rw [hi]; exact beqT _
        have ex : ∀ zs : Array Value, (zs.extract off (off + i.size)).toList = (zs.toList.drop off).take i.size := by intro zs; simp
        refine ⟨.agg (xs.extract off (off + i.size)), .agg (ys.extract off (off + i.size)), ?_, ?_, ?_⟩
        · simp [Go.part, isAgg_run hT hi, hag, sizeM_run hT hsz]
        · simp [Go.part, isAgg_run hT hi, hag, sizeM_run hT hsz]
        · have hfo : P.fieldsOf ty = gs := by unfold Program.fieldsOf; rw [hund, hd]
          rw [run_equalIn_struct w d ty _ _ (by rw [hfo, hund, hd]) hst, hfo]
          refine hE _ _ _ _ r (by rw [ex]; exact (ha.drop off).take i.size) (by rw [ex]; exact (hb.drop off).take i.size) (by simp; omega) (by simp; omega) (by simpa using hr) d (by omega) w
      · cases h
    | array k el =>
      rw [hu] at h hud
      dsimp only at h
      split at h
      · next j sh' hj hsh =>
        simp only [cond_eq_ite, Bool.and_eq_true, nbeq, decide_eq_true_eq] at h
        split at h
        · next hc =>
          obtain ⟨he, hs⟩ := hc
          cases h
          cases hd : dd <;> rw [hd] at hud <;> simp only [udMatch, Bool.and_eq_true, nbeq, decide_eq_true_eq] at hud <;> try (cases hud; done)
          next k' el' =>
          obtain ⟨rfl, rfl⟩ := hud
          have hE := shape_ok hT n el j sh' hj hsh
          have hesz : sizeM C el j.size = true := by unfold sizeM; rw [hj]; exact beqT _
          refine ⟨?_, fun la lb xs ys off r ha hb h1 h2 hr d hd' w => ?_⟩
          · rw [hs]; simp [hE.1]
          · obtain ⟨d, rfl⟩ : ∃ d', d = d' + 1 := ⟨d - 1, by omega⟩
            have hag : isAggT i.u = true := by rw [hu]; rfl
            have hsz : sizeM C ty i.size = true := by unfold sizeM; rw [hi]; exact beqT _
            have ex : ∀ zs : Array Value, (zs.extract off (off + i.size)).toList = (zs.toList.drop off).take i.size := by intro zs; simp
            refine ⟨.agg (xs.extract off (off + i.size)), .agg (ys.extract off (off + i.size)), ?_, ?_, ?_⟩
            · simp [Go.part, isAgg_run hT hi, hag, sizeM_run hT hsz]
            · simp [Go.part, isAgg_run hT hi, hag, sizeM_run hT hsz]
            · exact run_equalIn_array hT (by rw [hund, hd]) hesz hE (by rw [ex]; exact (ha.drop off).take i.size) (by rw [ex]; exact (hb.drop off).take i.size) (by simp; omega) (by simp; omega) hr d (by omega) w
        · cases h
      · cases h
    | _ => rw [hu] at h; cases h

section
variable {ty : TypeId} (d : Nat) (w : World)
theorem E_ptr_n {el : TypeId} (h : P.underlying ty = some (.pointer el)) (b : Option Addr) : (Op.equalIn (d + 1) ty (.pointer none) (.pointer b)).run P w = .ok b.isNone w := by
  simp only [Op.equalIn, Sem.run_bind, run_underlying h, Result.andThen_ok, Sem.run_pure]
theorem E_ptr_sn {el : TypeId} (h : P.underlying ty = some (.pointer el)) (a : Addr) : (Op.equalIn (d + 1) ty (.pointer (some a)) (.pointer none)).run P w = .ok false w := by
  simp only [Op.equalIn, Sem.run_bind, run_underlying h, Result.andThen_ok, Sem.run_pure]
theorem E_ptr_ss {el : TypeId} (h : P.underlying ty = some (.pointer el)) {n : Nat} (hs : (Go.sizeOf el).run P w = .ok n w) (hn : n ≠ 0) (b o o' : Nat) :
    (Op.equalIn (d + 1) ty (.pointer (some ⟨b, o, none⟩)) (.pointer (some ⟨b, o', none⟩))).run P w = .ok (o == o') w := by
  have hab : ((⟨b, o, none⟩ : Addr) == ⟨b, o', none⟩) = (o == o') := by rw [Bool.eq_iff_iff]; simp
  simp only [Op.equalIn, Sem.run_bind, run_underlying h, Result.andThen_ok, hs, Sem.run_ite]
  simp [hn, sameAddr, hab]
theorem E_slice_n {el : TypeId} (h : P.underlying ty = some (.slice el)) (n c : Nat) (b : Option Addr) (n' c' : Nat) : (Op.equalIn (d + 1) ty (.slice none n c) (.slice b n' c')).run P w = .ok b.isNone w := by
  simp only [Op.equalIn, Sem.run_bind, run_underlying h, Result.andThen_ok, Sem.run_pure]
theorem E_slice_sn {el : TypeId} (h : P.underlying ty = some (.slice el)) (a : Addr) (n c n' c' : Nat) : (Op.equalIn (d + 1) ty (.slice (some a) n c) (.slice none n' c')).run P w = .ok false w := by
  simp only [Op.equalIn, Sem.run_bind, run_underlying h, Result.andThen_ok, Sem.run_pure]
theorem E_map_n {k el : TypeId} (h : P.underlying ty = some (.map k el)) (b : Option Nat) : (Op.equalIn (d + 1) ty (.map none) (.map b)).run P w = .ok b.isNone w := by
  simp only [Op.equalIn, Sem.run_bind, run_underlying h, Result.andThen_ok, Sem.run_pure]
theorem E_map_sn {k el : TypeId} (h : P.underlying ty = some (.map k el)) (b : Nat) : (Op.equalIn (d + 1) ty (.map (some b)) (.map none)).run P w = .ok false w := by
  simp only [Op.equalIn, Sem.run_bind, run_underlying h, Result.andThen_ok, Sem.run_pure]
theorem E_fn_nn {a b : Array TypeId} {c : Bool} (h : P.underlying ty = some (.func a b c)) : (Op.equalIn (d + 1) ty .nilFunc .nilFunc).run P w = .ok true w := by
  simp only [Op.equalIn, Sem.run_bind, run_underlying h, Result.andThen_ok, Sem.run_pure]
theorem E_fn_sn {a b : Array TypeId} {c : Bool} (h : P.underlying ty = some (.func a b c)) (f : Fn) (x y : Array Value) : (Op.equalIn (d + 1) ty (.func f x y) .nilFunc).run P w = .ok false w := by
  simp only [Op.equalIn, Sem.run_bind, run_underlying h, Result.andThen_ok, Sem.run_pure]
theorem E_fn_ns {a b : Array TypeId} {c : Bool} (h : P.underlying ty = some (.func a b c)) (f : Fn) (x y : Array Value) : (Op.equalIn (d + 1) ty .nilFunc (.func f x y)).run P w = .ok false w := by
  simp only [Op.equalIn, Sem.run_bind, run_underlying h, Result.andThen_ok, Sem.run_pure]
theorem E_if_nn {ms : Array (String × TypeId)} (h : P.underlying ty = some (.interface ms)) : (Op.equalIn (d + 1) ty .nilIface .nilIface).run P w = .ok true w := by
  simp only [Op.equalIn, Sem.run_bind, run_underlying h, Result.andThen_ok, Sem.run_pure]
theorem E_if_sn {ms : Array (String × TypeId)} (h : P.underlying ty = some (.interface ms)) (u : TypeId) (x : Value) : (Op.equalIn (d + 1) ty (.iface u x) .nilIface).run P w = .ok false w := by
  simp only [Op.equalIn, Sem.run_bind, run_underlying h, Result.andThen_ok, Sem.run_pure]
theorem E_if_ns {ms : Array (String × TypeId)} (h : P.underlying ty = some (.interface ms)) (u : TypeId) (x : Value) : (Op.equalIn (d + 1) ty .nilIface (.iface u x)).run P w = .ok false w := by
  simp only [Op.equalIn, Sem.run_bind, run_underlying h, Result.andThen_ok, Sem.run_pure]
end

/-- A value that is no number and no text. -/
def Value.plainEq : Value → Bool
  | .int .. | .string _ | .float .. | .complex .. => false
  | _ => true

theorem eq_fin {op : BinOp} {neg : Bool} {x' y' : Operand} {ty ty' : TypeId} {r : Bool} (ho : o.op = .binOp op ty x' y' ty') (hop : op = if neg then .neq else .eql) {w : World}
    (hg : (eqGuard op ty x' y' (evT t x') (evT t y')).run P w = .ok () w) (hE : (Op.equalIn (9999 + 1) ty (evT t x') (evT t y')).run P w = .ok r w) (hp : Value.plainEq (evT t x') = true) :
    Yields P m t o (.bool (bif neg then !r else r)) w := by
  refine ⟨.bool (bif neg then !r else r), ?_, rfl⟩
  have hE' : (Op.equal ty (evT t x') (evT t y')).run P w = .ok r w := hE
  clear hE
  simp only [execOp, ho, Sem.run_bind, hg, Result.andThen_ok]
  generalize evT t x' = p at *
  generalize evT t y' = q at *
  cases neg
  · have : op = .eql := by simpa using hop
    subst this
    cases p <;> first | (cases hp; done) | simp only [Go.binOp, Sem.run_bind, hE', Result.andThen_ok, Sem.run_pure, cond_false]
  · have : op = .neq := by simpa using hop
    subst this
    cases p <;> first | (cases hp; done) | simp only [Go.binOp, Sem.run_bind, hE', Result.andThen_ok, Sem.run_pure, cond_true]

theorem pure_eq (hT : TOk P C) (hG : GOk C m) (he : ERel m e t) {k : EK} {neg : Bool} {op : BinOp} {x y : Opd} {x' y' : Operand} {ty ty' : TypeId} (ho : o.op = .binOp op ty x' y' ty')
    (hop : (if neg then op == .neq else op == .eql) = true) (hx : opdM C x x' = true) (hy : opdM C y y' = true) (hq : eqM C k ty x' y' = true) (hr : I.pure e (.eq k neg x y) = some v) (w : World) : Yields P m t o v w := by
  simp only [I.pure] at hr
  split at hr
  · next a b h1 h2 =>
    split at hr
    · next r hb =>
      cases hr
      have H1 := opd_sound (t := t) hG he hx h1
      have H2 := opd_sound (t := t) hG he hy h2
      have hop' : op = if neg then .neq else .eql := by cases neg <;> simpa using hop
      unfold eqM at hq
      split at hq
      · next i hi =>
        obtain ⟨info, dd, F⟩ := hT.facts hi
        have hud := F.ud
        have hund := F.und
        unfold eqOp at hb
        split at hb
        · -- bool
          next a b =>
          cases hb
          have e1 : evT t x' = .bool a := H1
          have e2 : evT t y' = .bool b := H2
          cases hu : i.u <;> rw [hu] at hq hud <;> simp at hq
          cases hd : dd <;> rw [hd] at hud <;> simp [udMatch] at hud
          rw [hd] at hund
          exact eq_fin ho hop' (by rw [e1, eqGuard_at_bool]; rfl) (by rw [e1, e2]; exact run_equalIn_bool' w 9999 ty _ _ hund) (by rw [e1]; rfl)
        · -- nil pointers
          next p =>
          cases hb
          have e1 : evT t x' = .pointer none := H1
          cases hu : i.u <;> rw [hu] at hq hud <;> simp at hq
          cases hd : dd <;> rw [hd] at hud <;> simp [udMatch] at hud
          rw [hd] at hund
          cases p with
          | none =>
            have e2 : evT t y' = .pointer none := H2
            exact eq_fin ho hop' (by rw [e1, eqGuard_at_pointer]; rfl) (by rw [e1, e2]; exact E_ptr_n 9999 w hund _) (by rw [e1]; rfl)
          | some a =>
            obtain ⟨l, _, e2⟩ := H2
            exact eq_fin ho hop' (by rw [e1, eqGuard_at_pointer]; rfl) (by rw [e1, e2]; exact E_ptr_n 9999 w hund _) (by rw [e1]; rfl)
        · cases hb
          obtain ⟨l, _, e1⟩ := H1
          have e2 : evT t y' = .pointer none := H2
          cases hu : i.u <;> rw [hu] at hq hud <;> simp at hq
          cases hd : dd <;> rw [hd] at hud <;> simp [udMatch] at hud
          rw [hd] at hund
          exact eq_fin ho hop' (by rw [e1, eqGuard_at_pointer]; rfl) (by rw [e1, e2]; exact E_ptr_sn 9999 w hund _) (by rw [e1]; rfl)
        · next a b =>
          simp only [cond_eq_ite, nbeq, decide_eq_true_eq] at hb
          split at hb
          · next hbb =>
            cases hb
            obtain ⟨l, hl, e1⟩ := H1
            obtain ⟨l', hl', e2⟩ := H2
            rw [hbb, hl'] at hl
            cases hl
            cases hu : i.u <;> rw [hu] at hq hud <;> simp at hq
            next el =>
            cases hd : dd <;> rw [hd] at hud <;> simp [udMatch] at hud
            rw [hd] at hund
            subst hud
            split at hq
            · next j hj =>
              obtain ⟨infoj, dj, Fj⟩ := hT.facts hj
              have hsz : infoj.size ≠ 0 := by rw [Fj.size]; simpa [nbeq] using hq
              have h9 : (Go.sizeOf el).run P w = .ok infoj.size w := by simp [Go.sizeOf, typeInfo, Fj.hinfo]
              refine eq_fin ho hop' (by rw [e1, eqGuard_at_pointer]; rfl) ?_ (by rw [e1]; rfl)
              rw [e1, e2, E_ptr_ss 9999 w hund h9 hsz]
              congr 1
              rw [Bool.eq_iff_iff]; simp
            · cases hq
          · cases hb
        · -- slices
          next n c p n' c' =>
          cases hb
          obtain ⟨rfl, rfl, e1⟩ := H1
          cases hu : i.u <;> rw [hu] at hq hud <;> simp at hq
          cases hd : dd <;> rw [hd] at hud <;> simp [udMatch] at hud
          rw [hd] at hund
          cases p with
          | none =>
            obtain ⟨_, _, e2⟩ := H2
            exact eq_fin ho hop' (by rw [e1, eqGuard_at_slice]; rfl) (by rw [e1, e2]; exact E_slice_n 9999 w hund _ _ _ _ _) (by rw [e1]; rfl)
          | some a =>
            obtain ⟨l, _, _, _, e2, _⟩ := H2
            exact eq_fin ho hop' (by rw [e1, eqGuard_at_slice]; rfl) (by rw [e1, e2]; exact E_slice_n 9999 w hund _ _ _ _ _) (by rw [e1]; rfl)
        · cases hb
          obtain ⟨l, _, _, _, e1, _⟩ := H1
          obtain ⟨_, _, e2⟩ := H2
          cases hu : i.u <;> rw [hu] at hq hud <;> simp at hq
          cases hd : dd <;> rw [hd] at hud <;> simp [udMatch] at hud
          rw [hd] at hund
          exact eq_fin ho hop' (by rw [e1, eqGuard_at_slice]; rfl) (by rw [e1, e2]; exact E_slice_sn 9999 w hund _ _ _ _ _) (by rw [e1]; rfl)
        · -- maps
          next p =>
          cases hb
          have e1 : evT t x' = .map none := H1
          cases hu : i.u <;> rw [hu] at hq hud <;> simp at hq
          cases hd : dd <;> rw [hd] at hud <;> simp [udMatch] at hud
          rw [hd] at hund
          cases p with
          | none =>
            have e2 : evT t y' = .map none := H2
            exact eq_fin ho hop' (by rw [e1, eqGuard_at_map]; rfl) (by rw [e1, e2]; exact E_map_n 9999 w hund _) (by rw [e1]; rfl)
          | some a =>
            obtain ⟨l, _, e2⟩ := H2
            exact eq_fin ho hop' (by rw [e1, eqGuard_at_map]; rfl) (by rw [e1, e2]; exact E_map_n 9999 w hund _) (by rw [e1]; rfl)
        · cases hb
          obtain ⟨l, _, e1⟩ := H1
          have e2 : evT t y' = .map none := H2
          cases hu : i.u <;> rw [hu] at hq hud <;> simp at hq
          cases hd : dd <;> rw [hd] at hud <;> simp [udMatch] at hud
          rw [hd] at hund
          exact eq_fin ho hop' (by rw [e1, eqGuard_at_map]; rfl) (by rw [e1, e2]; exact E_map_sn 9999 w hund _) (by rw [e1]; rfl)
        · -- functions
          cases hb
          have e1 : evT t x' = .nilFunc := H1
          have e2 : evT t y' = .nilFunc := H2
          cases hu : i.u <;> rw [hu] at hq hud <;> simp at hq
          cases hd : dd <;> rw [hd] at hud <;> simp [udMatch] at hud
          rw [hd] at hund
          exact eq_fin ho hop' (by rw [e1, eqGuard_at_nilFunc]; rfl) (by rw [e1, e2]; exact E_fn_nn 9999 w hund) (by rw [e1]; rfl)
        · cases hb
          obtain ⟨xs, e1, _⟩ := H1
          have e2 : evT t y' = .nilFunc := H2
          cases hu : i.u <;> rw [hu] at hq hud <;> simp at hq
          cases hd : dd <;> rw [hd] at hud <;> simp [udMatch] at hud
          rw [hd] at hund
          exact eq_fin ho hop' (by rw [e1, eqGuard_at_func]; rfl) (by rw [e1, e2]; exact E_fn_sn 9999 w hund _ _ _) (by rw [e1]; rfl)
        · cases hb
          obtain ⟨xs, e1, _⟩ := H1
          have e2 : evT t y' = .nilFunc := H2
          cases hu : i.u <;> rw [hu] at hq hud <;> simp at hq
          cases hd : dd <;> rw [hd] at hud <;> simp [udMatch] at hud
          rw [hd] at hund
          exact eq_fin ho hop' (by rw [e1, eqGuard_at_func]; rfl) (by rw [e1, e2]; exact E_fn_sn 9999 w hund _ _ _) (by rw [e1]; rfl)
        · cases hb
          have e1 : evT t x' = .nilFunc := H1
          obtain ⟨xs, e2, _⟩ := H2
          cases hu : i.u <;> rw [hu] at hq hud <;> simp at hq
          cases hd : dd <;> rw [hd] at hud <;> simp [udMatch] at hud
          rw [hd] at hund
          exact eq_fin ho hop' (by rw [e1, eqGuard_at_nilFunc]; rfl) (by rw [e1, e2]; exact E_fn_ns 9999 w hund _ _ _) (by rw [e1]; rfl)
        · -- interfaces
          cases hb
          have e1 : evT t x' = .nilIface := H1
          have e2 : evT t y' = .nilIface := H2
          cases hu : i.u <;> rw [hu] at hq hud <;> simp only at hq <;> try (cases hq; done)
          cases hd : dd <;> rw [hd] at hud <;> simp [udMatch] at hud
          rw [hd] at hund
          refine eq_fin ho hop' ?_ (by rw [e1, e2]; exact E_if_nn 9999 w hund) (by rw [e1]; rfl)
          rw [e1, e2]
          cases x' with
          | const c => rw [eqGuard_nil_constL]; rfl
          | _ =>
            cases y' with
            | const c => rw [eqGuard_nil_constR]; rfl
            | _ => simp at hq
        · cases hb
          have e1 : evT t x' = .nilIface := H1
          obtain ⟨z, e2, _⟩ := H2
          cases hu : i.u <;> rw [hu] at hq hud <;> simp only at hq <;> try (cases hq; done)
          cases hd : dd <;> rw [hd] at hud <;> simp [udMatch] at hud
          rw [hd] at hund
          exact eq_fin ho hop' (by rw [e1, e2, eqGuard_nil_iface]; rfl) (by rw [e1, e2]; exact E_if_ns 9999 w hund _ _) (by rw [e1]; rfl)
        · cases hb
          obtain ⟨z, e1, _⟩ := H1
          have e2 : evT t y' = .nilIface := H2
          cases hu : i.u <;> rw [hu] at hq hud <;> simp only at hq <;> try (cases hq; done)
          cases hd : dd <;> rw [hd] at hud <;> simp [udMatch] at hud
          rw [hd] at hund
          exact eq_fin ho hop' (by rw [e1, eqGuard_at_iface]; rfl) (by rw [e1, e2]; exact E_if_sn 9999 w hund _ _) (by rw [e1]; rfl)
        · -- structs and arrays
          next sh xs ys =>
          obtain ⟨as, e1, ha⟩ := H1
          obtain ⟨bs, e2, hb2⟩ := H2
          have hq' : i.eqs = true ∧ shapeT C 20 ty = some sh ∧ isAggT i.u = true := by
            cases hu : i.u <;> rw [hu] at hq <;> simp at hq <;> exact ⟨hq.1, hq.2, rfl⟩
          obtain ⟨h3, h4, h5⟩ := hq'
          obtain ⟨hl, hE⟩ := shape_ok (P := P) (m := m) hT 20 ty i sh hi h4
          have hlx : xs.length = sh.length ∧ ys.length = sh.length := cellsEq_length hb
          have hpart : ∀ (l : List V) (zs : Array Value), VRels m l zs.toList → l.length = i.size → (Go.part ty zs 0).run P w = .ok (.agg zs) w := by
            intro l zs hz hlen
            have hsz : sizeM C ty i.size = true := by unfold sizeM; rw [hi]; exact beqT _
            have : zs.size = i.size := by have := hz.length; simp at this; omega
            have h0 : zs.extract 0 i.size = zs := by rw [← this]; simp
            simp [Go.part, isAgg_run hT hi, h5, sizeM_run hT hsz, h0]
          obtain ⟨x, y, h6, h7, h8⟩ := hE xs ys as bs 0 r ha hb2 (by omega) (by omega) (by
            rw [List.drop_zero, List.drop_zero, List.take_of_length_le (by omega), List.take_of_length_le (by omega)]; exact hb) 10000 (by omega) w
          rw [hpart xs as ha (by omega)] at h6
          rw [hpart ys bs hb2 (by omega)] at h7
          cases h6; cases h7
          exact eq_fin ho hop' (by rw [e1, e2]; exact run_eqGuard_agg w op ty x' y' as bs (F.eqs h3).2) (by rw [e1, e2]; exact h8) (by rw [e1]; rfl)
        · cases hb
      · cases hq
    · cases hr
  · cases hr

end
end Am
