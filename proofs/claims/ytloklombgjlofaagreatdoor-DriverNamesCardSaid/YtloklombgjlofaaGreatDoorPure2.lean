/- Instructions that go by their operands alone: addresses, slices, parts, comparisons. -/
import Derived.Test.YtloklombgjlofaaGreatDoorPure
namespace Am
open Go

section
variable {P : Program} {C : Cx} {m : Mp} {e : Env} {t : Array Value} {o : Oper} {v : V}

theorem add_addr (β o n : Nat) : (⟨β, o, none⟩ : Addr).add n = ⟨β, o + n, none⟩ := by
  unfold Addr.add
  split
  · next h => subst h; rfl
  · rfl

theorem below_iff {n : Int} {k : Nat} : below n k = true ↔ 0 ≤ n ∧ n < k := by
  cases n with
  | ofNat a =>
    show Nat.blt a k = true ↔ 0 ≤ (a : Int) ∧ (a : Int) < k
    simp only [Nat.blt, Nat.ble_eq]; omega
  | negSucc a =>
    have := Int.negSucc_lt_zero a
    show false = true ↔ _
    constructor
    · intro h; cases h
    · intro h; omega

theorem upto_iff {n : Int} {k : Nat} : upto n k = true ↔ 0 ≤ n ∧ n ≤ k := by
  cases n with
  | ofNat a =>
    show Nat.ble a k = true ↔ 0 ≤ (a : Int) ∧ (a : Int) ≤ k
    simp only [Nat.ble_eq]; omega
  | negSucc a =>
    have := Int.negSucc_lt_zero a
    show false = true ↔ _
    constructor
    · intro h; cases h
    · intro h; omega

theorem fs_get : ∀ {fs : List (Nat × TypeId)} {gs : List Field} {i : Nat} {q : Nat × TypeId}, fsMatch fs gs = true → fs[i]? = some q →
    ∃ f, gs[i]? = some f ∧ f.offset = q.1 ∧ f.type = q.2
  | [], _, _, _, _, h => by simp at h
  | (a, b) :: r, [], _, _, h, _ => by simp [fsMatch] at h
  | (a, b) :: r, f :: s, 0, q, h, hq => by
    simp at hq; subst hq
    simp only [fsMatch, Bool.and_eq_true, nbeq, decide_eq_true_eq] at h
    exact ⟨f, rfl, h.1.1.1.symm, h.1.1.2.symm⟩
  | (a, b) :: r, f :: s, i + 1, q, h, hq => by
    simp at hq
    simp only [fsMatch, Bool.and_eq_true] at h
    simpa using fs_get h.2 hq

theorem pure_faddr (hT : TOk P C) (hG : GOk C m) (he : ERel m e t) {off : Nat} {x : Opd} {x' : Operand} {ty : TypeId} {i : Nat} (ho : o.op = .fieldAddr ty x' i) (hx : opdM C x x' = true)
    (hu : isU C ty (fun
      | .struct fs => match fs[i]? with
        | some (o, ft) => Nat.beq o off && (match C.T.at_ ft with | some j => !(Nat.beq j.size 0) | none => false)
        | none => false
      | _ => false) = true) (hr : I.pure e (.faddr off x) = some v) (w : World) : Yields P m t o v w := by
  simp only [I.pure] at hr
  split at hr
  · next b o1 h1 =>
    cases hr
    have H1 := opd_sound (t := t) hG he hx h1
    obtain ⟨l, h2, e1⟩ := H1
    obtain ⟨u, dd, h3, h4, h5⟩ := isU_und hT hu
    cases u with
    | struct fs =>
      cases dd with
      | struct gs =>
        simp only [udMatch] at h5
        simp only at h3
        split at h3
        · next o2 ft hf =>
          simp only [Bool.and_eq_true, nbeq, decide_eq_true_eq] at h3
          obtain ⟨h6, h7⟩ := h3
          split at h7
          · next j hj =>
            obtain ⟨f, hg, h8, h9⟩ := fs_get h5 hf
            have h10 : gs[i]? = some f := by rw [← hg]; simp
            obtain ⟨info, d, F⟩ := hT.facts hj
            have hs : info.size ≠ 0 := by rw [F.size]; simpa using h7
            refine ⟨.pointer (some ⟨l.β, l.d + o1 + f.offset, none⟩), ?_, l, h2, by rw [h8, ← h6]; simp; omega⟩
            have h9' : f.type = ft := h9
            simp [execOp, ho, e1, Instr.fieldAt, run_underlying h4, h10, Instr.sureAddr, fieldPlace, Go.sizeOf, typeInfo, h9', F.hinfo, hs, add_addr]
          · cases h7
        · cases h3
      | _ => simp [udMatch] at h5
    | _ => simp at h3
  · cases hr

theorem pure_ixaA (hT : TOk P C) (hG : GOk C m) (he : ERel m e t) {ln sz : Nat} {x i : Opd} {x' i' : Operand} {ty : TypeId} (ho : o.op = .indexAddr ty x' i') (hx : opdM C x x' = true) (hi : opdM C i i' = true)
    (hu : isU C ty (fun | .array k e => Nat.beq k ln && sizeM C e sz | _ => false) = true) (hr : I.pure e (.ixaA ln sz x i) = some v) (w : World) : Yields P m t o v w := by
  simp only [I.pure] at hr
  split at hr
  · next b o1 k n h1 h2 =>
    simp only [cond_eq_ite] at hr
    split at hr
    · next hb =>
      cases hr
      have hb' := below_iff.1 hb
      obtain ⟨l, h3, e1⟩ := opd_sound (t := t) hG he hx h1
      have e2 : evT t i' = .int k n := opd_sound hG he hi h2
      obtain ⟨u, dd, h4, h5, h6⟩ := isU_und hT hu
      cases u with
      | array k2 e2' =>
        cases dd with
        | array k3 e3 =>
          simp only [udMatch, Bool.and_eq_true, nbeq, decide_eq_true_eq] at h6 h4
          obtain ⟨rfl, rfl⟩ := h6
          obtain ⟨rfl, h7⟩ := h4
          refine ⟨.pointer (some ⟨l.β, l.d + o1 + n.toNat * sz, none⟩), ?_, l, h3, by simp; omega⟩
          simp only [execOp, ho, Sem.run_bind, Instr.indexAt, e1, e2, asIntOf, run_underlying h5, Result.andThen_ok, Sem.run_pure, Instr.sureAddr]
          simp [hb', sizeM_run hT h7, add_addr]
        | _ => simp [udMatch] at h6
      | _ => simp at h4
    · cases hr
  · cases hr

theorem pure_ixaS (hT : TOk P C) (hG : GOk C m) (he : ERel m e t) {sz : Nat} {x i : Opd} {x' i' : Operand} {ty : TypeId} (ho : o.op = .indexAddr ty x' i') (hx : opdM C x x' = true) (hi : opdM C i i' = true)
    (hu : isU C ty (fun | .slice e => sizeM C e sz | _ => false) = true) (hr : I.pure e (.ixaS sz x i) = some v) (w : World) : Yields P m t o v w := by
  simp only [I.pure] at hr
  split at hr
  · next b o1 ln cp k n h1 h2 =>
    simp only [cond_eq_ite] at hr
    split at hr
    · next hb =>
      cases hr
      have hb' := below_iff.1 hb
      obtain ⟨l, o', c', h3, e1, h8, h9, _⟩ := opd_sound (t := t) hG he hx h1
      have e2 : evT t i' = .int k n := opd_sound hG he hi h2
      have ho' := h9 (by omega)
      subst ho'
      obtain ⟨u, dd, h4, h5, h6⟩ := isU_und hT hu
      cases u with
      | slice e2' =>
        cases dd with
        | slice e3 =>
          simp only [udMatch, nbeq, decide_eq_true_eq] at h6 h4
          subst h6
          refine ⟨.pointer (some ⟨l.β, l.d + o1 + n.toNat * sz, none⟩), ?_, l, h3, by simp; omega⟩
          simp only [execOp, ho, Sem.run_bind, Instr.indexAt, e1, e2, asIntOf, run_underlying h5, Result.andThen_ok, Sem.run_pure]
          simp [hb', sizeM_run hT h4, add_addr]
        | _ => simp [udMatch] at h6
      | _ => simp at h4
    · cases hr
  · cases hr

theorem part_run (hT : TOk P C) {ty : TypeId} {n : Option Nat} (hp : partM C ty n = true) {l : List V} {xs : Array Value} (hl : VRels m l xs.toList) {off : Nat} (hr : part l off n = some v) (w : World) :
    ∃ z, (Go.part ty xs off).run P w = .ok z w ∧ VRel m v z := by
  cases n with
  | none =>
    simp only [part] at hr
    obtain ⟨z, h1, h2⟩ := hl.get hr
    have h3 : xs[off]? = some z := by rw [← h1]; simp
    exact ⟨z, by simp [Go.part, partM_none hT hp, h3], h2⟩
  | some n =>
    simp only [part, cond_eq_ite, Nat.ble_eq] at hr
    split at hr
    · next hle =>
      cases hr
      obtain ⟨h1, h2⟩ := partM_some hT hp w
      refine ⟨.agg (xs.extract off (off + n)), by simp [Go.part, h1, h2], _, rfl, ?_⟩
      have : (xs.extract off (off + n)).toList = (xs.toList.drop off).take n := by
        simp [Array.toList_extract]
      rw [this]
      exact (hl.drop off).take n
    · cases hr

theorem pure_field (hT : TOk P C) (hG : GOk C m) (he : ERel m e t) {off : Nat} {n : Option Nat} {x : Opd} {x' : Operand} {ty : TypeId} {i : Nat} (ho : o.op = .field ty x' i) (hx : opdM C x x' = true)
    (hu : isU C ty (fun
      | .struct fs => match fs[i]? with
        | some (o, ft) => Nat.beq o off && partM C ft n
        | none => false
      | _ => false) = true) (hr : I.pure e (.field off n x) = some v) (w : World) : Yields P m t o v w := by
  simp only [I.pure] at hr
  split at hr
  · next l0 h1 =>
    obtain ⟨xs, e1, h2⟩ := opd_sound (t := t) hG he hx h1
    split at hr
    · next u0 hu0 =>
      cases hr
      obtain ⟨u, dd, h3, h4, h5⟩ := isU_und hT hu
      cases u with
      | struct fs =>
        cases dd with
        | struct gs =>
          simp only [udMatch] at h5
          simp only at h3
          split at h3
          · next o2 ft hf =>
            simp only [Bool.and_eq_true, nbeq, decide_eq_true_eq] at h3
            obtain ⟨h6, h7⟩ := h3
            obtain ⟨f, hg, h8, h9⟩ := fs_get h5 hf
            have h10 : gs[i]? = some f := by rw [← hg]; simp
            have h8' : f.offset = off := h8.trans h6
            have h9' : f.type = ft := h9
            obtain ⟨z, h11, h12⟩ := part_run hT h7 h2 hu0 w
            refine ⟨z, ?_, h12⟩
            simp [execOp, ho, e1, Instr.field, run_underlying h4, h10, asAgg, h8', h9', h11]
          · cases h3
        | _ => simp [udMatch] at h5
      | _ => simp at h3
    · cases hr
  · cases hr

theorem pure_ixA (hT : TOk P C) (hG : GOk C m) (he : ERel m e t) {ln sz : Nat} {n : Option Nat} {x i : Opd} {x' i' : Operand} {ty : TypeId} (ho : o.op = .index ty x' i') (hx : opdM C x x' = true) (hi : opdM C i i' = true)
    (hu : isU C ty (fun | .array k e => Nat.beq k ln && sizeM C e sz && partM C e n | _ => false) = true) (hr : I.pure e (.ixA ln sz n x i) = some v) (w : World) : Yields P m t o v w := by
  simp only [I.pure] at hr
  split at hr
  · next l0 k0 k h1 h2 =>
    simp only [cond_eq_ite] at hr
    split at hr
    · next hb =>
      have hb' := below_iff.1 hb
      split at hr
      · next u0 hu0 =>
        cases hr
        obtain ⟨xs, e1, h3⟩ := opd_sound (t := t) hG he hx h1
        have e2 : evT t i' = .int k0 k := opd_sound hG he hi h2
        obtain ⟨u, dd, h4, h5, h6⟩ := isU_und hT hu
        cases u with
        | array k2 e2' =>
          cases dd with
          | array k3 e3 =>
            simp only [udMatch, Bool.and_eq_true, nbeq, decide_eq_true_eq] at h6 h4
            obtain ⟨rfl, rfl⟩ := h6
            obtain ⟨⟨rfl, h7⟩, h8⟩ := h4
            obtain ⟨z, h9, h10⟩ := part_run hT h8 h3 hu0 w
            refine ⟨z, ?_, h10⟩
            simp only [execOp, ho, Sem.run_bind, Instr.index, e1, e2, asIntOf, run_underlying h5, Result.andThen_ok, Sem.run_pure]
            simp [hb', sizeM_run hT h7, h9]
          | _ => simp [udMatch] at h6
        | _ => simp at h4
      · cases hr
    · cases hr
  · cases hr

theorem getElem?_bytes (s : List UInt8) (i : Nat) : (ByteArray.mk ⟨s⟩)[i]? = s[i]? := by
  show (if h : i < (ByteArray.mk ⟨s⟩).size then some (ByteArray.mk ⟨s⟩)[i] else none) = s[i]?
  by_cases h : i < s.length
  · rw [dif_pos (by simpa [ByteArray.size] using h)]
    simp [h]; rfl
  · rw [dif_neg (by simpa [ByteArray.size] using h)]
    simp; omega

theorem pure_ixStr (hT : TOk P C) (hG : GOk C m) (he : ERel m e t) {x i : Opd} {x' i' : Operand} {ty : TypeId} (ho : o.op = .index ty x' i') (hx : opdM C x x' = true) (hi : opdM C i i' = true)
    (hu : isU C ty (fun | .str => true | _ => false) = true) (hr : I.pure e (.ixStr x i) = some v) (w : World) : Yields P m t o v w := by
  simp only [I.pure] at hr
  split at hr
  · next s k n h1 h2 =>
    simp only [cond_eq_ite] at hr
    split at hr
    · next hb =>
      have hb' := below_iff.1 hb
      split at hr
      · next b hbb =>
        cases hr
        have e1 : evT t x' = .string ⟨⟨s⟩⟩ := opd_sound hG he hx h1
        have e2 : evT t i' = .int k n := opd_sound hG he hi h2
        obtain ⟨u, dd, h4, h5, h6⟩ := isU_und hT hu
        cases u <;> simp at h4
        cases dd <;> simp [udMatch] at h6
        refine ⟨.int .u8 b.toNat, ?_, rfl⟩
        simp only [execOp, ho, Sem.run_bind, Instr.index, e1, e2, asIntOf, run_underlying h5, Result.andThen_ok, Sem.run_pure]
        rw [if_pos hb'.1, getElem?_bytes, hbb]
        rfl
      · cases hr
    · cases hr
  · cases hr

theorem foldV_run (f : V → V → Option V) (g : Value → Value → Sem Value) (hfg : ∀ a b c x y, f a b = some c → VRel m a x → VRel m b y → ∀ w, ∃ z, (g x y).run P w = .ok z w ∧ VRel m c z) :
    ∀ (l : List V) (xs : List Value) (a : V) (x : Value) (w : World), VRels m l xs → VRel m a x → foldV f a l = some v → ∃ z, (xs.foldlM g x).run P w = .ok z w ∧ VRel m v z
  | [], xs, a, x, w, hl, ha, hr => by
    rw [show xs = [] from hl]
    simp [foldV] at hr; subst hr
    exact ⟨x, by simp, ha⟩
  | b :: l, xs, a, x, w, hl, ha, hr => by
    obtain ⟨y, s, rfl, h2, h3⟩ := hl
    simp only [foldV] at hr
    split at hr
    · next c hc =>
      obtain ⟨z, h4, h5⟩ := hfg a b c x y hc ha h2 w
      obtain ⟨z', h6, h7⟩ := foldV_run f g hfg l s c z w h3 h5 hr
      exact ⟨z', by simp [h4, h6], h7⟩
    · cases hr

theorem map_evs (hG : GOk C m) (he : ERel m e t) {xs : List Opd} {ys : Array Operand} {vs : List V} (hM : opdsM C xs ys.toList = true) (hx : evs e xs = some vs) : VRels m vs (ys.map (evT t)).toList := by
  have := opds_sound (t := t) hG he hM hx
  simpa using this

theorem pure_minI (hG : GOk C m) (he : ERel m e t) {xs : List Opd} {c : Go.Call} (ho : o.op = .call c) (hc : c.callee = .builtin .min) (hx : opdsM C xs c.args.toList = true)
    (hr : I.pure e (.minI xs) = some v) (w : World) : Yields P m t o v w := by
  simp only [I.pure] at hr
  split at hr
  · next a r h1 =>
    split at hr
    · next u hu =>
      cases hr
      have H := map_evs (t := t) hG he hx h1
      obtain ⟨x, s, h2, h3, h4⟩ := H
      have hfg : ∀ (a b c : V) (x y : Value), minV a b = some c → VRel m a x → VRel m b y → ∀ w, ∃ z, (Builtin.min2 x y).run P w = .ok z w ∧ VRel m c z := by
        intro a b c x y hm ha hb w
        unfold minV at hm
        split at hm
        · simp only [cond_eq_ite, beq_iff_eq] at hm
          split at hm
          · cases hm
            rw [show x = _ from ha, show y = _ from hb]
            exact ⟨_, rfl, rfl⟩
          · cases hm
        · cases hm
      obtain ⟨z, h5, h6⟩ := foldV_run (P := P) minV Builtin.min2 hfg r s a x w h4 h3 hu
      refine ⟨z, ?_, h6⟩
      simp only [execOp, ho, Sem.run_bind, resolve, hc, Result.andThen_ok, Sem.run_pure, invoke, builtin, Builtin.min_, h2, h5]
    · cases hr
  · cases hr

theorem pure_maxI (hG : GOk C m) (he : ERel m e t) {xs : List Opd} {c : Go.Call} (ho : o.op = .call c) (hc : c.callee = .builtin .max) (hx : opdsM C xs c.args.toList = true)
    (hr : I.pure e (.maxI xs) = some v) (w : World) : Yields P m t o v w := by
  simp only [I.pure] at hr
  split at hr
  · next a r h1 =>
    split at hr
    · next u hu =>
      cases hr
      have H := map_evs (t := t) hG he hx h1
      obtain ⟨x, s, h2, h3, h4⟩ := H
      have hfg : ∀ (a b c : V) (x y : Value), maxV a b = some c → VRel m a x → VRel m b y → ∀ w, ∃ z, (Builtin.max2 x y).run P w = .ok z w ∧ VRel m c z := by
        intro a b c x y hm ha hb w
        unfold maxV at hm
        split at hm
        · simp only [cond_eq_ite, beq_iff_eq] at hm
          split at hm
          · cases hm
            rw [show x = _ from ha, show y = _ from hb]
            exact ⟨_, rfl, rfl⟩
          · cases hm
        · cases hm
      obtain ⟨z, h5, h6⟩ := foldV_run (P := P) maxV Builtin.max2 hfg r s a x w h4 h3 hu
      refine ⟨z, ?_, h6⟩
      simp only [execOp, ho, Sem.run_bind, resolve, hc, Result.andThen_ok, Sem.run_pure, invoke, builtin, Builtin.max_, h2, h5]
    · cases hr
  · cases hr

theorem pure_lenC (hT : TOk P C) {n : Int} {c : Go.Call} (ho : o.op = .call c) (hc : c.callee = .builtin .len) (h0 : c.args.isEmpty = false) (hA : argT C c.argTypes 0 (lenT C n) = true) (w : World) : Yields P m t o (.i n) w := by
  unfold argT at hA
  split at hA
  · next ty hty =>
    obtain ⟨u, dd, h1, h2, h3⟩ := isU_und hT hA
    refine ⟨.int .i64 n, ?_, rfl⟩
    have hsz : 0 < (c.args.map (evT t)).size := by
      rw [Array.size_map]; rcases Nat.eq_zero_or_pos c.args.size with h | h
      · rw [Array.size_eq_zero_iff.1 h] at h0; simp at h0
      · exact h
    have hg : (c.args.map (evT t))[0]? = some (c.args.map (evT t))[0] := Array.getElem?_eq_getElem hsz
    simp only [execOp, ho, Sem.run_bind, resolve, hc, Result.andThen_ok, Sem.run_pure, invoke, builtin, Builtin.len_, hty, hg, run_underlying h2]
    cases u with
    | array k _ =>
      cases dd <;> simp [udMatch] at h3
      simp [lenT] at h1
      simp [goInt, h1, h3]
    | ptr a =>
      cases dd <;> simp [udMatch] at h3
      subst h3
      simp only [lenT] at h1
      obtain ⟨u', dd', h4, h5, h6⟩ := isU_und hT h1
      cases u' <;> simp at h4
      cases dd' <;> simp [udMatch] at h6
      simp [run_underlying h5, goInt, h4, h6]
    | _ => simp [lenT] at h1
  · cases hA

end
end Am
