/- Instructions that go by their operands alone. -/
import Derived.Test.YtloklombgjlofaaGreatDoorTypes
import Derived.Laws.Entries
namespace Am
open Go

section
variable {P : Program} {C : Cx} {m : Mp} {e : Env} {t : Array Value} {o : Oper} {v : V}

/-- What is to be shown of an instruction that only looks. -/
def Yields (P : Program) (m : Mp) (t : Array Value) (o : Oper) (v : V) (w : World) : Prop :=
  ∃ x, (execOp (evT t) o).run P w = .ok (.value x) w ∧ VRel m v x

theorem pure_move (hG : GOk C m) (he : ERel m e t) {x : Opd} {y : Operand} (ho : o.op = .move y ∨ o.op = .assign y) (hM : opdM C x y = true) (hr : x.ev e = some v) (w : World) : Yields P m t o v w := by
  refine ⟨evT t y, ?_, opd_sound hG he hM hr⟩
  rcases ho with ho | ho <;> simp [execOp, ho]

theorem pure_pick (hG : GOk C m) (he : ERel m e t) {c a b : Opd} {c' a' b' : Operand} (ho : o.op = .pick c' a' b') (hc : opdM C c c' = true) (ha : opdM C a a' = true) (hb : opdM C b b' = true)
    (hr : I.pure e (.pick c a b) = some v) (w : World) : Yields P m t o v w := by
  simp only [I.pure] at hr
  split at hr
  · next h1 =>
    have e1 : evT t c' = .bool true := opd_sound hG he hc h1
    split at hr
    · next u hu =>
      cases hr
      exact ⟨evT t a', by simp [execOp, ho, e1, asBool], opd_sound hG he ha hu⟩
    · cases hr
  · next h1 =>
    have e1 : evT t c' = .bool false := opd_sound hG he hc h1
    split at hr
    · next u hu =>
      cases hr
      exact ⟨evT t b', by simp [execOp, ho, e1, asBool], opd_sound hG he hb hu⟩
    · cases hr
  · cases hr

theorem pure_nilck (hG : GOk C m) (he : ERel m e t) {x : Opd} {y : Operand} (ho : o.op = .nilCheck y) (hM : opdM C x y = true) (hr : I.pure e (.nilck x) = some v) (w : World) : Yields P m t o v w := by
  simp only [I.pure] at hr
  split at hr
  · next a h1 =>
    cases hr
    have H := opd_sound (t := t) hG he hM h1
    have hx := H
    obtain ⟨l, _, e1⟩ := hx
    exact ⟨evT t y, by simp [execOp, ho, e1], H⟩
  · next f c h1 =>
    cases hr
    have H := opd_sound (t := t) hG he hM h1
    have hx := H
    obtain ⟨xs, e1, _⟩ := hx
    exact ⟨evT t y, by simp [execOp, ho, e1], H⟩
  · next l h1 =>
    cases hr
    have H := opd_sound (t := t) hG he hM h1
    have hx := H
    obtain ⟨xs, _, e1⟩ := hx
    exact ⟨evT t y, by simp [execOp, ho, e1], H⟩
  · next f c h1 =>
    cases hr
    have H := opd_sound (t := t) hG he hM h1
    have hx := H
    obtain ⟨xs, e1, _⟩ := hx
    exact ⟨evT t y, by simp [execOp, ho, e1], H⟩
  · cases hr

theorem intOp_run {op : BinOp} {k k' : IntKind} {a b : Int} {ty : TypeId} (hk : (isShift op || k == k') = true) (hr : intOp op k a b = some v) (w : World) :
    ∃ x, (Go.binOp op ty (.int k a) (.int k' b)).run P w = .ok x w ∧ VRel m v x := by
  have hkk : isShift op = false → k = k' := by
    intro h; rw [h] at hk; simpa using hk
  cases op
  case quo =>
    cases hkk rfl
    simp only [intOp, cond_eq_ite, beq_iff_eq] at hr
    simp only [binOp_quo, Op.intDiv]
    by_cases hb : b = 0
    · simp [hb] at hr
    · simp [hb] at hr; subst hr; exact ⟨_, by simp [hb], rfl⟩
  case rem =>
    cases hkk rfl
    simp only [intOp, cond_eq_ite, beq_iff_eq] at hr
    simp only [binOp_rem, Op.intDiv]
    by_cases hb : b = 0
    · simp [hb] at hr
    · simp [hb] at hr; subst hr; exact ⟨_, by simp [hb], rfl⟩
  case shl =>
    simp only [intOp, cond_dec] at hr
    simp only [binOp_shl, Op.shift]
    by_cases hb : b < 0
    · simp [hb] at hr
    · simp [hb] at hr; subst hr; exact ⟨_, by simp [hb], rfl⟩
  case shr =>
    simp only [intOp, cond_dec] at hr
    simp only [binOp_shr, Op.shift]
    by_cases hb : b < 0
    · simp [hb] at hr
    · simp [hb] at hr; subst hr; exact ⟨_, by simp [hb], rfl⟩
  all_goals
    cases hkk rfl
    simp only [intOp, Option.some.injEq] at hr
    subst hr
    refine ⟨_, ?_, rfl⟩
    simp [Go.binOp, Op.intArith, Op.intBits, Op.intCmp]

theorem strOp_run {op : BinOp} {a b : List UInt8} {ty : TypeId} (hr : strOp op a b = some v) (w : World) :
    ∃ x, (Go.binOp op ty (.string ⟨⟨a⟩⟩) (.string ⟨⟨b⟩⟩)).run P w = .ok x w ∧ VRel m v x := by
  have hl : ∀ l : List UInt8, (ByteArray.mk ⟨l⟩).toList = l := fun l => by simp [ByteArray.toList_eq]
  have hadd : (ByteArray.mk ⟨a⟩) ++ (ByteArray.mk ⟨b⟩) = ByteArray.mk ⟨a ++ b⟩ := by
    apply ByteArray.ext; simp [ByteArray.data_append]
  cases op <;> simp only [strOp] at hr <;> (try cases hr)
  case add =>
    simp only [cond_eq_ite, Nat.ble_eq] at hr
    split at hr
    · next h =>
      cases hr
      refine ⟨_, ?_, rfl⟩
      have h2 : ¬ (((ByteArray.mk ⟨a⟩).size + (ByteArray.mk ⟨b⟩).size : Nat) : Int) > IntKind.i64.max := by
        simp only [ByteArray.size, List.size_toArray, IntKind.max_i64]
        omega
      simp only [Go.binOp, Op.stringOp]
      rw [if_neg h2, hadd]
      rfl
    · cases hr
  all_goals
    refine ⟨_, ?_, rfl⟩
    simp only [Go.binOp, Op.stringOp, hl]
    simp [Sem.run_pure]

theorem eqGuard_run_prim {op : BinOp} {ty : TypeId} {x y : Operand} {k k' : IntKind} {a b : Int} (w : World) : (eqGuard op ty x y (.int k a) (.int k' b)).run P w = .ok () w := by
  rw [eqGuard_at_int]; rfl

theorem pure_bin (hG : GOk C m) (he : ERel m e t) {op : BinOp} {x y : Opd} {x' y' : Operand} {ty ty' : TypeId} (ho : o.op = .binOp op ty x' y' ty') (hx : opdM C x x' = true) (hy : opdM C y y' = true)
    (hr : I.pure e (.bin op x y) = some v) (w : World) : Yields P m t o v w := by
  simp only [I.pure] at hr
  split at hr
  · next a b h1 h2 =>
    have H1 := opd_sound (t := t) hG he hx h1
    have H2 := opd_sound (t := t) hG he hy h2
    split at hr
    · next u hu =>
      cases hr
      unfold binOp at hu
      split at hu
      · next k a k' b =>
        simp only [cond_eq_ite] at hu
        split at hu
        · next hk =>
          obtain ⟨z, h3, h4⟩ := intOp_run (P := P) (m := m) (ty := ty) hk hu w
          refine ⟨z, ?_, h4⟩
          simp only [execOp, ho, Sem.run_bind]
          rw [show evT t x' = _ from H1, show evT t y' = _ from H2, eqGuard_at_int]
          simp [h3]
        · cases hu
      · next a b =>
        obtain ⟨z, h3, h4⟩ := strOp_run (P := P) (m := m) (ty := ty) hu w
        refine ⟨z, ?_, h4⟩
        simp only [execOp, ho, Sem.run_bind]
        rw [show evT t x' = _ from H1, show evT t y' = _ from H2, eqGuard_at_string]
        simp [h3]
      · cases hu
    · cases hr
  · cases hr

theorem pure_un (hG : GOk C m) (he : ERel m e t) {op : UnOp} {x : Opd} {x' : Operand} {ty : TypeId} (ho : o.op = .unOp op ty x') (hx : opdM C x x' = true)
    (hr : I.pure e (.un op x) = some v) (w : World) : Yields P m t o v w := by
  simp only [I.pure] at hr
  split at hr
  · next a h1 =>
    have H1 := opd_sound (t := t) hG he hx h1
    split at hr
    · next u hu =>
      cases hr
      unfold unOp at hu
      split at hu
      · cases hu
        refine ⟨_, ?_, rfl⟩
        simp [execOp, ho, show evT t x' = _ from H1, Op.unary, Op.intArith]
      · next k n =>
        simp only [intOp, Option.some.injEq] at hu
        subst hu
        refine ⟨_, ?_, rfl⟩
        simp [execOp, ho, show evT t x' = _ from H1, Op.unary, Op.intBits]
      · cases hu
        refine ⟨_, ?_, rfl⟩
        simp [execOp, ho, show evT t x' = _ from H1, Op.unary]
      · cases hu
    · cases hr
  · cases hr

theorem pure_convInt (hT : TOk P C) (hG : GOk C m) (he : ERel m e t) {k : IntKind} {x : Opd} {x' : Operand} {s d : TypeId} (ho : o.op = .convert s d x') (hx : opdM C x x' = true)
    (hd : isU C d (fun | .int k' => k == k' | _ => false) = true) (hs : isU C s (fun | .int _ => true | _ => false) = true)
    (hr : I.pure e (.convInt k x) = some v) (w : World) : Yields P m t o v w := by
  simp only [I.pure] at hr
  split at hr
  · next k0 n h1 =>
    cases hr
    have H1 := opd_sound (t := t) hG he hx h1
    obtain ⟨u, dd, h2, h3, h4⟩ := isU_und hT hd
    obtain ⟨u', ds, h5, h6, h7⟩ := isU_und hT hs
    refine ⟨_, ?_, rfl⟩
    cases u with
    | int k1 =>
      cases dd with
      | int k2 =>
        simp [udMatch] at h4 h2
        subst h4 h2
        cases ds <;> cases u' <;> simp [udMatch] at h7 h5
        simp [execOp, ho, show evT t x' = _ from H1, convert, run_underlying h3, run_underlying h6, Conv.intToInt]
      | _ => simp [udMatch] at h4
    | _ => simp at h2
  · cases hr

theorem pure_convStr (hT : TOk P C) (hG : GOk C m) (he : ERel m e t) {x : Opd} {x' : Operand} {s d : TypeId} (ho : o.op = .convert s d x') (hx : opdM C x x' = true)
    (hd : isU C d (fun | .str => true | _ => false) = true) (hs : isU C s (fun | .str => true | _ => false) = true)
    (hr : I.pure e (.convStr x) = some v) (w : World) : Yields P m t o v w := by
  simp only [I.pure] at hr
  split at hr
  · next s0 h1 =>
    cases hr
    have H1 := opd_sound (t := t) hG he hx h1
    obtain ⟨u, dd, h2, h3, h4⟩ := isU_und hT hd
    obtain ⟨u', ds, h5, h6, h7⟩ := isU_und hT hs
    refine ⟨_, ?_, rfl⟩
    cases u <;> simp at h2
    cases u' <;> simp at h5
    cases dd <;> simp [udMatch] at h4
    cases ds <;> simp [udMatch] at h7
    simp [execOp, ho, show evT t x' = _ from H1, convert, run_underlying h3, run_underlying h6]
  · cases hr

theorem pure_mkIface (hT : TOk P C) (hG : GOk C m) (he : ERel m e t) {ty : TypeId} {x : Opd} {x' : Operand} (ho : o.op = .makeInterface ty x') (hx : opdM C x x' = true)
    (hd : isU C ty (fun | .iface => false | _ => true) = true) (hr : I.pure e (.mkIface ty x) = some v) (w : World) : Yields P m t o v w := by
  simp only [I.pure] at hr
  split at hr
  · next s0 h1 =>
    cases hr
    have H1 := opd_sound (t := t) hG he hx h1
    obtain ⟨u, dd, h2, h3, h4⟩ := isU_und hT hd
    refine ⟨_, ?_, _, rfl, H1⟩
    simp only [execOp, ho, Sem.run_bind, Instr.makeInterface, run_underlying h3, Result.andThen_ok]
    cases u <;> cases dd <;> simp_all [udMatch]
  · cases hr

theorem pure_mkClo (hG : GOk C m) (he : ERel m e t) {f : FuncId} {cs : List Opd} {first cap : Array Operand} (ho : o.op = .makeFunc (.func f) first cap) (h0 : first.isEmpty = true) (hx : opdsM C cs cap.toList = true)
    (hr : I.pure e (.mkClo f cs) = some v) (w : World) : Yields P m t o v w := by
  simp only [I.pure] at hr
  split at hr
  · next l h1 =>
    cases hr
    have H := opds_sound (t := t) hG he hx h1
    have : first = #[] := by simpa using h0
    subst this
    refine ⟨.func (.func f) #[] (cap.map (evT t)), ?_, _, rfl, by simpa using H⟩
    simp [execOp, ho, Instr.makeFunc]
  · cases hr

theorem pure_mkBm (hG : GOk C m) (he : ERel m e t) {n : String} {x : Opd} {first cap : Array Operand} (ho : o.op = .makeFunc (.method n) first cap) (hx : opdsM C [x] first.toList = true) (h0 : cap.isEmpty = true)
    (hr : I.pure e (.mkBm n x) = some v) (w : World) : Yields P m t o v w := by
  simp only [I.pure] at hr
  split at hr
  · next ty u h1 =>
    cases hr
    have H := opds_sound (t := t) hG he hx (vs := [.iface ty u]) (by simp only [evs, h1])
    have : cap = #[] := by simpa using h0
    subst this
    obtain ⟨y, s, e1, ⟨z, e2, h2⟩, e3⟩ := H
    have e3' : s = [] := e3
    subst e3' e2
    have e4 : first.map (evT t) = #[.iface ty z] := by
      apply Array.ext'
      simpa using e1
    exact ⟨.func (.method n) #[.iface ty z] #[], by simp [execOp, ho, Instr.makeFunc, e4], z, rfl, h2⟩
  · cases hr

theorem nilAhead_run {ty : TypeId} {f : FuncId} {name : String} (hm : methM P ty f name = true) (x : Value) (n : Nat) (w : World) : (nilAhead (n + 1) ty x name).run P w = .ok (some false) w := by
  unfold methM at hm
  split at hm
  · next i hi =>
    split at hm
    · next mt hmt =>
      simp only [Bool.and_eq_true] at hm
      obtain ⟨hp, hm⟩ := hm
      have hp' : mt.path.toList = [] := by simpa using hp
      have hti : (typeInfo ty).run P w = .ok i w := by simp [typeInfo, hi]
      split at hm
      · next g b d hf hu =>
        simp only [Bool.and_eq_true, beq_iff_eq, nbeq, decide_eq_true_eq] at hm
        obtain ⟨rfl, rfl⟩ := hm
        simp only [nilAhead, Sem.run_bind, hti, Result.andThen_ok, hmt, hp', followBlind, Sem.run_pure, hf]
        cases d <;> simp only [isPtrD, Sem.run_bind, run_underlying hu, Result.andThen_ok, Sem.run_pure]
      · cases hm
    · cases hm
  · cases hm

theorem pure_nilckB (hG : GOk C m) (he : ERel m e t) {n : String} {tbl : List (TypeId × FuncId)} {x : Opd} {y : Operand} (ho : o.op = .nilCheck y) (hM : opdM C x y = true) (ht : (tbl.all fun p => methM P p.1 p.2 n) = true)
    (hr : I.pure e (.nilckB n tbl x) = some v) (w : World) : Yields P m t o v w := by
  simp only [I.pure] at hr
  split at hr
  · next n' ty u h1 =>
    simp only [cond_eq_ite] at hr
    split at hr
    · next h2 =>
      cases hr
      simp only [Bool.and_eq_true, beq_iff_eq, List.any_eq_true] at h2
      obtain ⟨rfl, p, hp, rfl⟩ := h2
      have H := opd_sound (t := t) hG he hM h1
      have hx := H
      obtain ⟨z, e1, _⟩ := hx
      have hm := List.all_eq_true.1 ht _ hp
      have hn := nilAhead_run hm z (P.types.size + Made.depth - 1) w
      have hfu : P.types.size + Made.depth - 1 + 1 = P.types.size + Made.depth := by unfold Made.depth; omega
      rw [hfu] at hn
      refine ⟨evT t y, ?_, H⟩
      simp [execOp, ho, e1, hn]
    · cases hr
  · cases hr

theorem pure_extract (hG : GOk C m) (he : ERel m e t) {x : Opd} {x' : Operand} {i : Nat} (ho : o.op = .extract x' i) (hx : opdM C x x' = true)
    (hr : I.pure e (.extract x i) = some v) (w : World) : Yields P m t o v w := by
  simp only [I.pure] at hr
  split at hr
  · next l h1 =>
    have H1 := opd_sound (t := t) hG he hx h1
    obtain ⟨xs, e1, h2⟩ := H1
    split at hr
    · next u hu =>
      cases hr
      obtain ⟨z, h3, h4⟩ := h2.get hu
      have h5 : xs[i]? = some z := by rw [← h3]; simp
      refine ⟨z, ?_, h4⟩
      simp [execOp, ho, e1, Instr.extract, h5]
    · cases hr
  · cases hr

theorem pure_tassert (hT : TOk P C) (hG : GOk C m) (he : ERel m e t) {ty : TypeId} {z : V} {ok : Bool} {x : Opd} {x' : Operand} {xt : TypeId} (ho : o.op = .typeAssert x' xt ty ok) (hx : opdM C x x' = true)
    (hz : zeroM C ty z = true) (hd : isU C ty (fun | .iface => false | _ => true) = true) (hr : I.pure e (.tassert ty z ok x) = some v) (w : World) : Yields P m t o v w := by
  obtain ⟨zv, hz1, hz2⟩ := zeroM_run hT hz m
  obtain ⟨u, dd, h2, h3, h4⟩ := isU_und hT hd
  have hni : ∀ ms, dd ≠ .interface ms := by
    intro ms h; subst h
    cases u <;> simp_all [udMatch]
  simp only [I.pure] at hr
  split at hr
  · next t0 v0 h1 =>
    have H1 := opd_sound (t := t) hG he hx h1
    obtain ⟨y, e1, h5⟩ := H1
    simp only [cond_eq_ite, beq_iff_eq] at hr
    split at hr
    · next ht =>
      subst ht
      cases ok
      · cases hr
        refine ⟨y, ?_, h5⟩
        simp only [execOp, ho, e1, Sem.run_bind, Instr.typeAssert, run_underlying h3, Result.andThen_ok]
        cases dd <;> simp_all
      · cases hr
        refine ⟨.tuple #[y, .bool true], ?_, _, rfl, _, _, rfl, h5, _, _, rfl, rfl, rfl⟩
        simp only [execOp, ho, e1, Sem.run_bind, Instr.typeAssert, run_underlying h3, Result.andThen_ok]
        cases dd <;> simp_all
    · next ht =>
      cases ok
      · simp at hr
      · simp at hr
        subst hr
        refine ⟨.tuple #[zv, .bool false], ?_, _, rfl, _, _, rfl, hz2, _, _, rfl, rfl, rfl⟩
        simp only [execOp, ho, e1, Sem.run_bind, Instr.typeAssert, run_underlying h3, Result.andThen_ok]
        cases dd <;> simp_all
  · next h1 =>
    have H1 := opd_sound (t := t) hG he hx h1
    have e1 : evT t x' = .nilIface := H1
    cases ok
    · simp at hr
    · simp at hr
      subst hr
      refine ⟨.tuple #[zv, .bool false], ?_, _, rfl, _, _, rfl, hz2, _, _, rfl, rfl, rfl⟩
      simp only [execOp, ho, e1, Sem.run_bind, Instr.typeAssert, run_underlying h3, Result.andThen_ok]
      cases dd <;> simp_all
  · cases hr

end
end Am
