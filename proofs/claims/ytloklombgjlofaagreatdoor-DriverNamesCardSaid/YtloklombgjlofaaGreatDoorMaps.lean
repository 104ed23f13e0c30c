/- Maps: keys, look-ups, stores. -/
import Derived.Test.YtloklombgjlofaaGreatDoorRead
namespace Am
open Go

section
variable {P : Program} {C : Cx} {m : Mp} {h : H} {w : World} {e : Env} {t : Array Value} {o : Oper} {v : V}

/-- Part of a row, and a key of the type. -/
def CkOk (P : Program) (n : Nat) (ty : TypeId) (size : Nat) : Prop :=
  ∀ (xs : Array Value) (off : Nat), off + size ≤ xs.size → ∀ d, n ≤ d → ∀ (em : Bool) (w : World), ∃ x, (Go.part ty xs off).run P w = .ok x w ∧ (Instr.checkKey em d ty x).run P w = .ok () w

theorem shapeFs_le (n size : Nat) : ∀ (fs : List (Nat × TypeId)) (q : Nat) (s : List LK), shapeFs C (shapeT C n) q size fs = some s → q ≤ size
  | [], q, s, h => by
    simp only [shapeFs, cond_eq_ite, nbeq, decide_eq_true_eq] at h
    split at h
    · omega
    · cases h
  | (p1, p2) :: fs, q, s, h => by
    simp only [shapeFs] at h
    split at h
    · next j _ _ f1 _ f3 => rw [f1] at f3; have := shapeFs_le n size fs _ _ f3; omega
    · cases h

theorem run_forFields (n size : Nat) (H : ∀ ty i sh, C.T.at_ ty = some i → shapeT C n ty = some sh → CkOk P n ty i.size) {xs : Array Value} (hx : xs.size = size) {d : Nat} (hd : n ≤ d) (em : Bool) :
    ∀ (fs : List (Nat × TypeId)) (gs : List Field) (off : Nat) (sh : List LK) (w : World), shapeFs C (shapeT C n) off size fs = some sh → fsMatch fs gs = true →
    (forIn (m := Sem) gs () fun (f : Field) _ =>
      if f.name ≠ "_" then do
        let a ← Go.part f.type xs f.offset
        Instr.checkKey em d f.type a
        pure (ForInStep.yield ())
      else pure (ForInStep.yield ())).run P w = .ok () w
  | [], [], _, _, _, _, _ => by simp
  | [], _ :: _, _, _, _, _, h => by simp [fsMatch] at h
  | _ :: _, [], _, _, _, _, h => by simp [fsMatch] at h
  | (o1, ty) :: fs, f :: gs, off, sh, w, hs, hf => by
    simp only [fsMatch, Bool.and_eq_true, nbeq, decide_eq_true_eq, bne_iff_ne] at hf
    simp only [shapeFs] at hs
    split at hs
    · next i a b e1 e2 e3 =>
      rw [e1] at e3
      dsimp only at e3
      simp only [cond_eq_ite, nbeq, decide_eq_true_eq] at hs
      split at hs
      · next ho =>
        cases hs
        have hle := shapeFs_le n size fs _ _ e3
        obtain ⟨x, h1, h2⟩ := H ty i a e1 e2 xs off (by omega) d hd em w
        have hft : f.type = ty := hf.1.1.2.symm
        have hfo : f.offset = off := hf.1.1.1.symm.trans ho
        rw [List.forIn_cons]
        simp only [Sem.run_bind, Sem.run_ite]
        rw [if_pos hf.1.2]
        simp only [Sem.run_bind, hft, hfo, h1, h2, Result.andThen_ok, Sem.run_pure]
        exact run_forFields n size H hx hd em fs gs _ b w e3 hf.2
      · cases hs
    · cases hs

theorem run_checkArray {k : Nat} {ty el : TypeId} {esz : Nat} (hT : TOk P C) (hu : P.underlying ty = some (.array k el)) (hsz : sizeM C el esz = true) {n : Nat} (hE : CkOk P n el esz)
    {xs : Array Value} (hx : xs.size = k * esz) (d : Nat) (hd : n ≤ d) (em : Bool) (w : World) : (Instr.checkKey em (d + 1) ty (.agg xs)).run P w = .ok () w := by
  simp only [Instr.checkKey, Sem.run_bind, run_underlying hu, Result.andThen_ok]
  rw [Std.Legacy.Range.forIn_eq_forIn_range']
  simp only [Std.Legacy.Range.size, Nat.sub_zero, Nat.add_sub_cancel, Nat.div_one]
  have key : ∀ (q j : Nat), j + q = k → ∀ w, (forIn (m := Sem) (List.range' j q 1) () fun (i : Nat) _ => do
        let s ← Go.sizeOf el
        let x ← Go.part el xs (i * s)
        Instr.checkKey em d el x
        pure (ForInStep.yield ())).run P w = .ok () w := by
    intro q
    induction q with
    | zero => intro j _ w; simp
    | succ q ih =>
      intro j hj w
      have hjk : j * esz + esz ≤ k * esz := by
        have : (j + 1) * esz ≤ k * esz := Nat.mul_le_mul_right _ (by omega)
        rw [Nat.add_mul] at this; omega
      obtain ⟨x, h1, h2⟩ := hE xs (j * esz) (by omega) d hd em w
      rw [List.range'_succ, List.forIn_cons]
      simp only [Sem.run_bind, sizeM_run hT hsz, h1, h2, Result.andThen_ok, Sem.run_pure]
      exact ih (j + 1) (by omega) w
  rw [key k 0 (by omega) w]
  rfl

theorem check_ok (hT : TOk P C) : ∀ (n : Nat) (ty : TypeId) (i : TI) (sh : List LK), C.T.at_ ty = some i → shapeT C n ty = some sh → CkOk P n ty i.size
  | 0, _, _, _, _, h => by simp [shapeT] at h
  | n + 1, ty, i, sh, hi, h => by
    obtain ⟨info, dd, F⟩ := hT.facts hi
    have hud := F.ud
    have hund := F.und
    simp only [shapeT, hi] at h
    intro xs off hoff d hd em w
    obtain ⟨d, rfl⟩ : ∃ d', d = d' + 1 := ⟨d - 1, by omega⟩
    have leaf : i.size = 1 → isAggT i.u = false → (∀ x, (Instr.checkKey em (d + 1) ty x).run P w = .ok () w) → ∃ x, (Go.part ty xs off).run P w = .ok x w ∧ (Instr.checkKey em (d + 1) ty x).run P w = .ok () w := by
      intro hs hna hc
      have : xs[off]? = some xs[off] := Array.getElem?_eq_getElem (by omega)
      exact ⟨xs[off], by simp [Go.part, isAgg_run hT hi, hna, this], hc _⟩
    have ex : ∀ zs : Array Value, off + i.size ≤ zs.size → (zs.extract off (off + i.size)).size = i.size := by intro zs hz; simp; omega
    have agg : isAggT i.u = true → (Go.part ty xs off).run P w = .ok (.agg (xs.extract off (off + i.size))) w := by
      intro hag
      have hsz : sizeM C ty i.size = true := by unfold sizeM; rw [hi]; exact beqT _
      simp [Go.part, isAgg_run hT hi, hag, sizeM_run hT hsz]
    cases hu : i.u with
    | bool =>
      rw [hu] at h hud; simp only [cond_eq_ite, nbeq, decide_eq_true_eq] at h
      split at h
      · next hs =>
        cases hd' : dd <;> rw [hd'] at hud <;> simp only [udMatch] at hud <;> try (cases hud; done)
        rw [hd'] at hund
        exact leaf hs (by rw [hu]; rfl) (fun x => by simp only [Instr.checkKey, Sem.run_bind, run_underlying hund, Result.andThen_ok, Sem.run_pure])
      · cases h
    | int k =>
      rw [hu] at h hud; simp only [cond_eq_ite, nbeq, decide_eq_true_eq] at h
      split at h
      · next hs =>
        cases hd' : dd <;> rw [hd'] at hud <;> simp only [udMatch] at hud <;> try (cases hud; done)
        rw [hd'] at hund
        exact leaf hs (by rw [hu]; rfl) (fun x => by simp only [Instr.checkKey, Sem.run_bind, run_underlying hund, Result.andThen_ok, Sem.run_pure])
      · cases h
    | str =>
      rw [hu] at h hud; simp only [cond_eq_ite, nbeq, decide_eq_true_eq] at h
      split at h
      · next hs =>
        cases hd' : dd <;> rw [hd'] at hud <;> simp only [udMatch] at hud <;> try (cases hud; done)
        rw [hd'] at hund
        exact leaf hs (by rw [hu]; rfl) (fun x => by simp only [Instr.checkKey, Sem.run_bind, run_underlying hund, Result.andThen_ok, Sem.run_pure])
      · cases h
    | struct fs =>
      rw [hu] at h hud; simp only [cond_eq_ite] at h
      split at h
      · next he =>
        cases hd' : dd <;> rw [hd'] at hud <;> simp only [udMatch] at hud <;> try (cases hud; done)
        next gs =>
        rw [hd'] at hund
        refine ⟨_, agg (by rw [hu]; rfl), ?_⟩
        simp only [Instr.checkKey, Sem.run_bind, run_underlying hund, Result.andThen_ok]
        rw [← Array.forIn_toList]
        have := run_forFields (P := P) n i.size (fun ty' i' sh' a b => check_ok hT n ty' i' sh' a b) (ex xs hoff) (d := d) (by omega) em fs gs.toList 0 sh w h hud
        rw [this]
        rfl
      · cases h
    | array k el =>
      rw [hu] at h hud
      dsimp only at h
      split at h
      · next j sh' hj hsh =>
        simp only [cond_eq_ite, Bool.and_eq_true, nbeq, decide_eq_true_eq] at h
        split at h
        · next hc =>
          obtain ⟨he, hs⟩ := hc
          cases hd' : dd <;> rw [hd'] at hud <;> simp only [udMatch, Bool.and_eq_true, nbeq, decide_eq_true_eq] at hud <;> try (cases hud; done)
          next k' el' =>
          obtain ⟨rfl, rfl⟩ := hud
          have hesz : sizeM C el j.size = true := by unfold sizeM; rw [hj]; exact beqT _
          refine ⟨_, agg (by rw [hu]; rfl), ?_⟩
          exact run_checkArray hT (by rw [hund, hd']) hesz (check_ok hT n el j sh' hj hsh) (by rw [ex xs hoff, hs]) d (by omega) em w
        · cases h
      · cases h
    | _ => rw [hu] at h; cases h

theorem checkKey_run (hT : TOk P C) {ks : KS} {kt : TypeId} (hk : ksM C ks kt = true) {k : V} {x : Value} (hx : VRel m k x) (hq : (keyEq ks k k).isSome = true) (em : Bool) (w : World) :
    (Instr.checkKey em 10000 kt x).run P w = .ok () w := by
  obtain ⟨r, hr⟩ := Option.isSome_iff_exists.1 hq
  obtain ⟨i, hi, h1 | h1⟩ := ksM_key hT hk
  · obtain ⟨lk, rfl, hna, hsh⟩ := h1
    have hC := check_ok hT 20 kt i _ hi hsh
    have hs1 : i.size = 1 := by rw [← (shape_ok (P := P) (m := m) hT 20 kt i _ hi hsh).1]; rfl
    obtain ⟨x', h2, h3⟩ := hC #[x] 0 (by simp [hs1]) 10000 (by omega) em w
    simp [Go.part, isAgg_run hT hi, hna] at h2
    subst h2; exact h3
  · obtain ⟨sh, rfl, hag, hsh⟩ := h1
    have hC := check_ok hT 20 kt i _ hi hsh
    have hl := (shape_ok (P := P) (m := m) hT 20 kt i _ hi hsh).1
    cases k <;> simp [keyEq] at hr
    next ks =>
    obtain ⟨as, rfl, ha⟩ := hx
    have hlen := cellsEq_length hr
    have hsz : as.size = i.size := by have := ha.length; simp at this; omega
    obtain ⟨x', h2, h3⟩ := hC as 0 (by omega) 10000 (by omega) em w
    have h0 : as.extract 0 i.size = as := by rw [← hsz]; simp
    have hszM : sizeM C kt i.size = true := by unfold sizeM; rw [hi]; exact beqT _
    simp [Go.part, isAgg_run hT hi, hag, sizeM_run hT hszM, h0] at h2
    subst h2; exact h3

theorem findK_run (hT : TOk P C) {ks : KS} {kt : TypeId} (hk : ksM C ks kt = true) {k : V} {x : Value} (hx : VRel m k x) (w : World) {es : List (V × V × Nat)} {ces : List MapEntry} {r : Option (Nat × V × Nat)}
    (he : entriesRel m es ces) (hf : findK ks k es = some r) : (∀ em w, (Instr.checkKey em 10000 kt x).run P w = .ok () w) ∧ ∃ r', (Instr.findKey kt x ces).run P w = .ok r' w ∧ FoundAt m es 0 r r' := by
  unfold findK at hf
  simp only [cond_eq_ite] at hf
  split at hf
  · next hq => exact ⟨fun em w => checkKey_run hT hk hx hq em w, findKey_run hT hk hx w he hf⟩
  · cases hf

theorem mapT_und (hT : TOk P C) {ty : TypeId} {f : UD → Bool} (hu : isU C ty f = true) (hf : ∀ u, f u = true → ∃ a b, u = .map a b) : ∃ kt et, f (.map kt et) = true ∧ P.underlying ty = some (.map kt et) := by
  obtain ⟨u, dd, h1, h2, h3⟩ := isU_und hT hu
  obtain ⟨a, b, rfl⟩ := hf u h1
  cases dd <;> simp [udMatch] at h3
  obtain ⟨rfl, rfl⟩ := h3
  exact ⟨_, _, h1, h2⟩

theorem read_lookup (hT : TOk P C) (hG : GOk C m) (hr : HRel P C m h w) (he : ERel m e t) {ks : KS} {z : V} {ok : Bool} {a k : Opd} {a' k' : Operand} {ty : TypeId} (ho : o.op = .lookup ty a' k' ok) (ha : opdM C a a' = true) (hk : opdM C k k' = true)
    (hu : isU C ty (fun | .map kt e => zeroM C e z && ksM C ks kt | _ => false) = true) (hv : I.read e h (.lookup ks z ok a k) = some v) : Yields P m t o v w := by
  obtain ⟨kt, et, h1, h2⟩ := mapT_und hT hu (fun u hf => by cases u <;> simp at hf; exact ⟨_, _, rfl⟩)
  simp only [Bool.and_eq_true] at h1
  obtain ⟨hz, hks⟩ := h1
  obtain ⟨zv, hz1, hz2⟩ := zeroM_run hT hz m
  simp only [I.read] at hv
  split at hv
  · next kv g1 g2 =>
    have e1 : evT t a' = .map none := opd_sound hG he ha g1
    have hkv := opd_sound (t := t) hG he hk g2
    split at hv
    · next r hf =>
      obtain ⟨hc, r', h3, h4⟩ := findK_run hT hks hkv w (es := []) (ces := []) rfl hf
      have hr' : r' = none := by
        cases r with
        | none => exact h4
        | some q => obtain ⟨_, _, _⟩ := q; obtain ⟨_, ⟨_, hh⟩, _⟩ := h4; simp at hh
      subst hr'
      have hrun : (execOp (evT t) o).run P w = .ok (.value (if ok then .tuple #[zv, .bool false] else zv)) w := by
        simp only [execOp, ho, Sem.run_bind, Instr.lookup, run_underlying h2, Result.andThen_ok, e1, Sem.run_pure, hc, h3, hz1]
      cases ok
      · cases hv; exact ⟨_, hrun, hz2⟩
      · cases hv; exact ⟨_, hrun, _, rfl, _, _, rfl, hz2, _, _, rfl, rfl, rfl⟩
    · cases hv
  · next r kv g1 g2 =>
    obtain ⟨l, hl, e1⟩ := opd_sound (t := t) hG he ha g1
    have hkv := opd_sound (t := t) hG he hk g2
    split at hv
    · next es cl hm =>
      obtain ⟨_, ces, h7, h8⟩ := map_obj hr hm hl
      split at hv
      · next j u b hf =>
        obtain ⟨hc, r', h3, h4⟩ := findK_run hT hks hkv w h8 hf
        obtain ⟨_, _, y, rfl, hy⟩ := h4
        have hrun : (execOp (evT t) o).run P w = .ok (.value (if ok then .tuple #[y, .bool true] else y)) w := by
          simp only [execOp, ho, Sem.run_bind, Instr.lookup, run_underlying h2, Result.andThen_ok, e1, run_getObj_map h7, Sem.run_pure, hc, h3]
        cases ok
        · cases hv; exact ⟨_, hrun, hy⟩
        · cases hv; exact ⟨_, hrun, _, rfl, _, _, rfl, hy, _, _, rfl, rfl, rfl⟩
      · next hf =>
        obtain ⟨hc, r', h3, h4⟩ := findK_run hT hks hkv w h8 hf
        have h4' : r' = none := h4
        subst h4'
        have hrun : (execOp (evT t) o).run P w = .ok (.value (if ok then .tuple #[zv, .bool false] else zv)) w := by
          simp only [execOp, ho, Sem.run_bind, Instr.lookup, run_underlying h2, Result.andThen_ok, e1, run_getObj_map h7, Sem.run_pure, hc, h3, hz1]
        cases ok
        · cases hv; exact ⟨_, hrun, hz2⟩
        · cases hv; exact ⟨_, hrun, _, rfl, _, _, rfl, hz2, _, _, rfl, rfl, rfl⟩
      · cases hv
    · cases hv
  · cases hv

end
end Am
