/- The evaluator once more, in a form that the kernel takes quickly: each case a small closed function, the scrutinee first; printed by a program out of the evaluator's own text. It is the same: callF_eq. -/
import Derived.Test.YtloklombgjlofaaGreatDoorBase
namespace Am
open Go

/-- A number, evaluated. -/
noncomputable def forceN (n : Nat) (f : Nat → Option V) : Option V := Nat.rec (f 0) (fun k _ => f (Nat.succ k)) n
theorem forceN_eq (n : Nat) (f : Nat → Option V) : forceN n f = f n := by cases n <;> rfl
noncomputable def mkInt (k : IntKind) (n : Int) : Option V := Int.rec (fun m => forceN m fun m => some (.int k (.ofNat m))) (fun m => forceN m fun m => some (.int k (.negSucc m))) n
theorem mkInt_eq (k : IntKind) (n : Int) : mkInt k n = some (.int k n) := by
  cases n with
  | ofNat m => unfold mkInt; exact forceN_eq m _
  | negSucc m => unfold mkInt; exact forceN_eq m _

noncomputable def maxN : IntKind → Nat
  | .i8 => 127 | .i16 => 32767 | .i32 => 2147483647 | .i64 => 9223372036854775807
  | .u8 => 255 | .u16 => 65535 | .u32 => 4294967295 | .u64 => 18446744073709551615
noncomputable def minN : IntKind → Nat
  | .i8 => 128 | .i16 => 32768 | .i32 => 2147483648 | .i64 => 9223372036854775808
  | _ => 0
noncomputable def wrapF (k : IntKind) (n : Int) : Int := Int.rec (fun m => bif Nat.ble m (maxN k) then n else k.wrap n) (fun m => bif Nat.blt m (minN k) then n else k.wrap n) n
theorem wrapF_eq (k : IntKind) (n : Int) : wrapF k n = k.wrap n := by
  cases n with
  | ofNat m =>
    show (bif Nat.ble m (maxN k) then (Int.ofNat m) else k.wrap (Int.ofNat m)) = _
    cases e : Nat.ble m (maxN k)
    · rfl
    · have h := Nat.le_of_ble_eq_true e
      have h0 : Int.ofNat m = (m : Int) := rfl
      cases k <;> simp only [maxN] at h <;> simp only [cond_true, IntKind.wrap, IntKind.bits, IntKind.signed, h0] <;> (try simp only [Bool.false_and, Bool.true_and, decide_eq_true_eq, Bool.false_eq_true, if_false]) <;> (first | omega | (split <;> omega))
  | negSucc m =>
    show (bif Nat.blt m (minN k) then (Int.negSucc m) else k.wrap (Int.negSucc m)) = _
    cases e : Nat.blt m (minN k)
    · rfl
    · have h : m < minN k := Nat.le_of_ble_eq_true e
      have h0 : Int.negSucc m = -(m : Int) - 1 := by omega
      cases k <;> simp only [minN] at h <;> (try omega) <;> simp only [cond_true, IntKind.wrap, IntKind.bits, IntKind.signed, h0] <;> (try simp only [Bool.true_and, decide_eq_true_eq]) <;> (split <;> omega)

noncomputable def ltF : Int → Int → Bool
  | .ofNat a, .ofNat b => Nat.blt a b
  | .ofNat _, .negSucc _ => false
  | .negSucc _, .ofNat _ => true
  | .negSucc a, .negSucc b => Nat.blt b a
theorem blt_dec (a b : Nat) : Nat.blt a b = decide (a < b) := by
  by_cases h : a < b
  · rw [decide_eq_true h]; exact Nat.ble_eq_true_of_le h
  · rw [decide_eq_false h]
    cases e : Nat.blt a b
    · rfl
    · exact absurd (Nat.le_of_ble_eq_true e) h
theorem ltF_eq (a b : Int) : ltF a b = decide (a < b) := by
  cases a with
  | ofNat a => cases b with
    | ofNat b => simp only [ltF, blt_dec]; exact decide_eq_decide.2 (show a < b ↔ ((a : Nat) : Int) < ((b : Nat) : Int) by omega)
    | negSucc b => simp only [ltF]; symm; rw [decide_eq_false_iff_not]; show ¬ ((a : Nat) : Int) < Int.negSucc b; omega
  | negSucc a => cases b with
    | ofNat b => simp only [ltF]; symm; rw [decide_eq_true_eq]; show Int.negSucc a < ((b : Nat) : Int); omega
    | negSucc b => simp only [ltF, blt_dec]; exact decide_eq_decide.2 (by omega)
noncomputable def eqF : Int → Int → Bool
  | .ofNat a, .ofNat b => Nat.beq a b
  | .negSucc a, .negSucc b => Nat.beq a b
  | _, _ => false
theorem eqF_eq (a b : Int) : eqF a b = (a == b) := by
  cases a with
  | ofNat a => cases b with
    | ofNat b =>
      simp only [eqF]
      by_cases h : a = b
      · subst h; simp
      · have h2 : (Int.ofNat a == Int.ofNat b) = false := by rw [beq_eq_false_iff_ne]; intro e; exact h (by injection e)
        rw [h2]
        cases e : Nat.beq a b
        · rfl
        · exact absurd (Nat.eq_of_beq_eq_true e) h
    | negSucc b => simp only [eqF]; symm; rw [beq_eq_false_iff_ne]; intro e; cases e
  | negSucc a => cases b with
    | ofNat b => simp only [eqF]; symm; rw [beq_eq_false_iff_ne]; intro e; cases e
    | negSucc b =>
      simp only [eqF]
      by_cases h : a = b
      · subst h; simp
      · have h2 : (Int.negSucc a == Int.negSucc b) = false := by rw [beq_eq_false_iff_ne]; intro e; exact h (by injection e)
        rw [h2]
        cases e : Nat.beq a b
        · rfl
        · exact absurd (Nat.eq_of_beq_eq_true e) h
noncomputable def subF : Int → Int → Int
  | .ofNat a, .ofNat b => bif Nat.ble b a then .ofNat (Nat.sub a b) else Int.sub (.ofNat a) (.ofNat b)
  | a, b => Int.sub a b
theorem subF_eq (a b : Int) : subF a b = a - b := by
  cases a with
  | ofNat a => cases b with
    | ofNat b =>
      show (bif Nat.ble b a then Int.ofNat (Nat.sub a b) else Int.sub (.ofNat a) (.ofNat b)) = _
      cases e : Nat.ble b a
      · rfl
      · have h := Nat.le_of_ble_eq_true e
        show ((a - b : Nat) : Int) = (a : Int) - (b : Int)
        omega
    | negSucc _ => rfl
  | negSucc _ => rfl
noncomputable def ikN : IntKind → Nat
  | .i8 => 0 | .i16 => 1 | .i32 => 2 | .i64 => 3 | .u8 => 4 | .u16 => 5 | .u32 => 6 | .u64 => 7
noncomputable def ikEq (a b : IntKind) : Bool := Nat.beq (ikN a) (ikN b)
theorem ikEq_eq (a b : IntKind) : ikEq a b = (a == b) := by cases a <;> cases b <;> rfl

noncomputable def i_add (k : IntKind) (a b : Int) : Option V := mkInt k (wrapF k (Int.add a b))
noncomputable def i_sub (k : IntKind) (a b : Int) : Option V := mkInt k (wrapF k (subF a b))
noncomputable def i_mul (k : IntKind) (a b : Int) : Option V := mkInt k (wrapF k (Int.mul a b))
noncomputable def i_eql (_ : IntKind) (a b : Int) : Option V := some (.bool (eqF a b))
noncomputable def i_neq (_ : IntKind) (a b : Int) : Option V := some (.bool !(eqF a b))
noncomputable def i_lss (_ : IntKind) (a b : Int) : Option V := some (.bool (ltF a b))
noncomputable def i_gtr (_ : IntKind) (a b : Int) : Option V := some (.bool (ltF b a))
noncomputable def i_leq (_ : IntKind) (a b : Int) : Option V := some (.bool !(ltF b a))
noncomputable def i_geq (_ : IntKind) (a b : Int) : Option V := some (.bool !(ltF a b))
/-- of numbers that are not negative -/
noncomputable def natOp (f : Nat → Nat → Nat) (g : IntKind → Int → Int → Option V) (k : IntKind) : Int → Int → Option V
  | .ofNat a, .ofNat b => forceN (f a b) fun n => some (.int k (.ofNat n))
  | a, b => g k a b
noncomputable def i_quo (k : IntKind) (a b : Int) : Option V := bif eqF b 0 then none else mkInt k (wrapF k (a.tdiv b))
noncomputable def i_rem (k : IntKind) (a b : Int) : Option V := bif eqF b 0 then none else mkInt k (a.tmod b)
noncomputable def toF (k : IntKind) : Int → Nat
  | .ofNat a => Nat.mod a (Nat.pow 2 k.bits)
  | .negSucc a => Nat.sub (Nat.pow 2 k.bits) (Nat.succ (Nat.mod a (Nat.pow 2 k.bits)))
theorem toF_eq (k : IntKind) (a : Int) : toF k a = (BitVec.ofInt k.bits a).toNat := by
  have hp : 0 < 2 ^ k.bits := Nat.pow_pos (by decide)
  rw [BitVec.toNat_ofInt]
  cases a with
  | ofNat a => show a % 2 ^ k.bits = _; rfl
  | negSucc a =>
    show 2 ^ k.bits - Nat.succ (a % 2 ^ k.bits) = _
    have h1 : a % 2 ^ k.bits < 2 ^ k.bits := Nat.mod_lt _ hp
    have h2 := Nat.div_add_mod a (2 ^ k.bits)
    have h3 : Int.negSucc a = -(a : Int) - 1 := by omega
    have h4 : (Int.negSucc a) % ((2 ^ k.bits : Nat) : Int) = ((2 ^ k.bits - Nat.succ (a % 2 ^ k.bits) : Nat) : Int) := by
      have e : Int.negSucc a = ((2 ^ k.bits - Nat.succ (a % 2 ^ k.bits) : Nat) : Int) + ((2 ^ k.bits : Nat) : Int) * (-((a / 2 ^ k.bits : Nat) : Int) - 1) := by
        rw [h3, Int.mul_sub, Int.mul_neg, Int.mul_one]
        have h5 : (a : Int) = ((2 ^ k.bits : Nat) : Int) * ((a / 2 ^ k.bits : Nat) : Int) + ((a % 2 ^ k.bits : Nat) : Int) := by exact_mod_cast h2.symm
        omega
      rw [e, Int.add_mul_emod_self_left]
      exact Int.emod_eq_of_lt (by omega) (by omega)
    rw [h4]; rfl
noncomputable def i_and (k : IntKind) (a b : Int) : Option V := mkInt k (wrapF k (.ofNat (Nat.land (toF k a) (toF k b))))
noncomputable def i_or (k : IntKind) (a b : Int) : Option V := mkInt k (wrapF k (.ofNat (Nat.lor (toF k a) (toF k b))))
noncomputable def i_xor (k : IntKind) (a b : Int) : Option V := mkInt k (wrapF k (.ofNat (Nat.xor (toF k a) (toF k b))))
noncomputable def i_andNot (k : IntKind) (a b : Int) : Option V := mkInt k (wrapF k (.ofNat (Nat.land (toF k a) (Nat.sub (Nat.sub (Nat.pow 2 k.bits) 1) (toF k b)))))
noncomputable def minF (a b : Nat) : Nat := bif Nat.ble a b then a else b
noncomputable def i_shl (k : IntKind) (a b : Int) : Option V := Int.rec (fun b => mkInt k (wrapF k (Int.mul a (.ofNat (Nat.pow 2 (minF b k.bits)))))) (fun _ => none) b
noncomputable def i_shr (k : IntKind) (a b : Int) : Option V := Int.rec (fun b => Int.rec (fun a => mkInt k (.ofNat (Nat.div a (Nat.pow 2 (minF b k.bits))))) (fun a => mkInt k (Int.fdiv (.negSucc a) (2 ^ (Nat.min b k.bits)))) a) (fun _ => none) b
noncomputable def intOpF (op : BinOp) : IntKind → Int → Int → Option V :=
  match op with
  | .add => i_add
  | .sub => i_sub
  | .mul => i_mul
  | .quo => i_quo
  | .rem => i_rem
  | .and => i_and
  | .or => i_or
  | .xor => i_xor
  | .andNot => i_andNot
  | .eql => i_eql
  | .neq => i_neq
  | .lss => i_lss
  | .leq => i_leq
  | .gtr => i_gtr
  | .geq => i_geq
  | .shl => i_shl
  | .shr => i_shr
theorem not_lt_dec (a b : Int) : (!decide (b < a)) = decide (a ≤ b) := by by_cases h : b < a <;> simp [h] <;> omega
theorem minF_eq (a b : Nat) : minF a b = Nat.min a b := by
  unfold minF
  cases e : Nat.ble a b
  · have : ¬ a ≤ b := fun h => by rw [Nat.ble_eq_true_of_le h] at e; cases e
    simp only [cond_false]; exact (Nat.min_eq_right (by omega)).symm
  · exact (Nat.min_eq_left (Nat.le_of_ble_eq_true e)).symm
theorem intOpF_eq (op : BinOp) (k : IntKind) (a b : Int) : intOpF op k a b = intOp op k a b := by
  cases op
  case add => exact (mkInt_eq _ _).trans (by rw [wrapF_eq]; rfl)
  case sub => exact (mkInt_eq _ _).trans (by rw [wrapF_eq, subF_eq]; rfl)
  case mul => exact (mkInt_eq _ _).trans (by rw [wrapF_eq]; rfl)
  case quo => show i_quo k a b = _; unfold i_quo; rw [eqF_eq, mkInt_eq, wrapF_eq]; rfl
  case rem => show i_rem k a b = _; unfold i_rem; rw [eqF_eq, mkInt_eq]; rfl
  case and => exact (mkInt_eq _ _).trans (by rw [wrapF_eq, toF_eq, toF_eq]; simp only [intOp, BitVec.toNat_and]; rfl)
  case or => exact (mkInt_eq _ _).trans (by rw [wrapF_eq, toF_eq, toF_eq]; simp only [intOp, BitVec.toNat_or]; rfl)
  case xor => exact (mkInt_eq _ _).trans (by rw [wrapF_eq, toF_eq, toF_eq]; simp only [intOp, BitVec.toNat_xor]; rfl)
  case andNot => exact (mkInt_eq _ _).trans (by rw [wrapF_eq, toF_eq, toF_eq]; simp only [intOp, BitVec.toNat_and, BitVec.toNat_not]; rfl)
  case shl =>
    cases b with
    | negSucc b => simp [intOpF, i_shl, intOp]
    | ofNat b =>
      refine (mkInt_eq _ _).trans ?_
      have h1 : decide ((Int.ofNat b) < 0) = false := by simp
      simp only [intOp, h1, cond_false, wrapF_eq, minF_eq]
      congr 3
  case shr =>
    cases b with
    | negSucc b => simp [intOpF, i_shr, intOp]
    | ofNat b =>
      have h1 : decide ((Int.ofNat b) < 0) = false := by simp
      simp only [intOp, h1, cond_false]
      cases a with
      | negSucc a => exact mkInt_eq _ _
      | ofNat a =>
        show mkInt k (.ofNat (Nat.div a (Nat.pow 2 (minF b k.bits)))) = _
        rw [mkInt_eq, minF_eq]
        congr 2
        have h2 : ((2 : Int) ^ (Nat.min b k.bits)) = ((2 ^ (Nat.min b k.bits) : Nat) : Int) := (Int.natCast_pow 2 _).symm
        have h3 : Int.fdiv (Int.ofNat a) ((2 ^ (Nat.min b k.bits) : Nat) : Int) = ((a / 2 ^ (Nat.min b k.bits) : Nat) : Int) := Int.ofNat_fdiv a _ |>.symm
        show _ = Int.fdiv (Int.ofNat a) (2 ^ (Nat.min b k.bits))
        rw [h2, h3]; rfl
  case eql => show some _ = some _; rw [eqF_eq]
  case neq => show some (V.bool !(eqF a b)) = _; rw [eqF_eq]; rfl
  case lss => show some (V.bool (ltF a b)) = _; rw [ltF_eq]; rfl
  case gtr => show some (V.bool (ltF b a)) = _; rw [ltF_eq]; rfl
  case leq => show some (V.bool !(ltF b a)) = _; rw [ltF_eq, not_lt_dec]; rfl
  case geq => show some (V.bool !(ltF a b)) = _; rw [ltF_eq, not_lt_dec]; rfl
noncomputable def binOpF (op : BinOp) : V → V → Option V
  | .int k a, .int k' b => bif isShift op || ikEq k k' then intOpF op k a b else none
  | .str a, .str b => strOp op a b
  | _, _ => none
theorem binOpF_eq (op : BinOp) (a b : V) : binOpF op a b = binOp op a b := by
  cases a <;> cases b <;> first | rfl | (simp only [binOpF, binOp, ikEq_eq, intOpF_eq])

noncomputable def getF (e : Env) (s : Nat) : Option V := List.rec (motive := fun _ => Option V) none (fun p _ ih => bif Nat.beq p.1 s then some p.2 else ih) e
theorem getF_eq : ∀ (e : Env) (s : Nat), getF e s = e.get s
  | [], _ => rfl
  | (k, v) :: r, s => by
    show (bif Nat.beq k s then some v else getF r s) = _
    rw [getF_eq r s]; rfl
noncomputable def evF (x : Opd) (e : Env) : Option V := Opd.rec (fun s => getF e s) (fun v => some v) x
theorem evF_eq (x : Opd) (e : Env) : evF x e = x.ev e := by
  cases x
  · exact getF_eq _ _
  · rfl
noncomputable def evsF (e : Env) : List Opd → Option (List V)
  | [] => some []
  | x :: r => match evF x e, evsF e r with
    | some v, some l => some (v :: l)
    | _, _ => none
theorem evsF_eq (e : Env) : ∀ l, evsF e l = evs e l
  | [] => rfl
  | x :: r => by simp only [evsF, evs, evF_eq, evsF_eq e r]; rfl
theorem nbeqb (a b : Nat) : Nat.beq a b = (a == b) := by
  by_cases h : a = b
  · subst h; simp
  · rw [show (a == b) = false by simpa using h]
    cases e : Nat.beq a b
    · rfl
    · exact absurd (Nat.eq_of_beq_eq_true e) h
noncomputable def fin1 (o : Option V) (h : H) : Option (V × H) := Option.rec none (fun v => some (v, h)) o
noncomputable def finA (o : Option (Obj × (Nat → V))) (h : H) (at_ : Option Nat) : Option (V × H) := match o with
  | some (ob, mk) => match at_ with
    | none => some (mk h.nx, h.new ob)
    | some b => some (mk b, h.set b ob)
  | none => none
theorem fin1_eq (o : Option V) (h : H) : fin1 o h = (match o with | some v => some (v, h) | none => none) := by cases o <;> rfl

noncomputable def pf_mv (x : Opd) (e : Env) : Option V :=
  match evF x e with
    | some v => some (v)
    | none => none
noncomputable def pf_pick (c : Opd) (a : Opd) (b : Opd) (e : Env) : Option V :=
  match evF c e with
    | some (.bool true) => match evF a e with
      | some v => some (v)
      | none => none
    | some (.bool false) => match evF b e with
      | some v => some (v)
      | none => none
    | _ => none
noncomputable def pf_build (zero : List V) (parts : List (Nat × Nat × Opd)) (e : Env) : Option V :=
  match evParts e parts with
    | some ps => match fillParts zero ps with
      | some l => some (.agg l)
      | none => none
    | none => none
noncomputable def pf_nilck (x : Opd) (e : Env) : Option V :=
  match evF x e with
    | some (.ptr (some a)) => some (.ptr (some a))
    | some (.clo f c) => some (.clo f c)
    | some (.yld l) => some (.yld l)
    | some (.iface t v) => some (.iface t v)
    | _ => none
noncomputable def pf_mkBm (name : String) (x : Opd) (e : Env) : Option V :=
  match evF x e with
    | some (.iface t v) => some (.bm name t v)
    | _ => none
noncomputable def pf_nilckB (name : String) (tbl : List (TypeId × FuncId)) (x : Opd) (e : Env) : Option V :=
  match evF x e with
    | some (.bm n t v) => bif n == name && tbl.any (fun p => p.1 == t) then some (.bm n t v) else none
    | _ => none
noncomputable def pf_bin (op : BinOp) (x : Opd) (y : Opd) (e : Env) : Option V :=
  match evF x e, evF y e with
    | some a, some b => match binOpF op a b with
      | some v => some (v)
      | none => none
    | _, _ => none
noncomputable def pf_eq (k : EK) (neg : Bool) (x : Opd) (y : Opd) (e : Env) : Option V :=
  match evF x e, evF y e with
    | some a, some b => match eqOp k a b with
      | some r => some (.bool (bif neg then !r else r))
      | none => none
    | _, _ => none
noncomputable def pf_un (op : UnOp) (x : Opd) (e : Env) : Option V :=
  match evF x e with
    | some a => match unOp op a with
      | some v => some (v)
      | none => none
    | none => none
noncomputable def pf_convInt (k : IntKind) (x : Opd) (e : Env) : Option V :=
  match evF x e with
    | some (.int _ n) => some (.int k (wrapF k n))
    | _ => none
noncomputable def pf_convStr (x : Opd) (e : Env) : Option V :=
  match evF x e with
    | some (.str s) => some (.str s)
    | _ => none
noncomputable def pf_mkIface (t : TypeId) (x : Opd) (e : Env) : Option V :=
  match evF x e with
    | some v => some (.iface t v)
    | none => none
noncomputable def pf_mkClo (f : FuncId) (cap : List Opd) (e : Env) : Option V :=
  match evsF e cap with
    | some l => some (.clo f l)
    | none => none
noncomputable def pf_sliceS (x : Opd) (lo : Option Opd) (hi : Option Opd) (e : Env) : Option V :=
  match evF x e, evo e lo, evo e hi with
    | some (.str s), some lo, some hi => match slcBounds s.length s.length lo hi none with
      | some (l, r, _) => some (.str ((s.take r).drop l))
      | none => none
    | _, _, _ => none
noncomputable def pf_slice (sz : Nat) (x : Opd) (lo : Option Opd) (hi : Option Opd) (mx : Option Opd) (e : Env) : Option V :=
  match evF x e, evo e lo, evo e hi, evo e mx with
    | some (.slice a len cap), some lo, some hi, some mx => match slcBounds len (cap.room len) lo hi mx with
      | some (l, r, m) =>
        match a with
        | none => some (.slice none 0 (.fix 0))
        | some (b, o) => match cap, mx with
          | .grow q, none => bif Nat.beq q sz then some (.slice (some (b, o + l * sz)) (r - l) (.grow q)) else none
          | _, _ => some (.slice (some (b, o + l * sz)) (r - l) (.fix (m - l)))
      | none => none
    | _, _, _, _ => none
noncomputable def pf_sliceA (n : Nat) (sz : Nat) (x : Opd) (lo : Option Opd) (hi : Option Opd) (mx : Option Opd) (e : Env) : Option V :=
  match evF x e, evo e lo, evo e hi, evo e mx with
    | some (.ptr (some (b, o))), some lo, some hi, some mx => match slcBounds n n lo hi mx with
      | some (l, r, m) => some (.slice (some (b, o + l * sz)) (r - l) (.fix (m - l)))
      | none => none
    | _, _, _, _ => none
noncomputable def pf_faddr (off : Nat) (x : Opd) (e : Env) : Option V :=
  match evF x e with
    | some (.ptr (some (b, o))) => some (.ptr (some (b, o + off)))
    | _ => none
noncomputable def pf_field (off : Nat) (n : Option Nat) (x : Opd) (e : Env) : Option V :=
  match evF x e with
    | some (.agg l) => match part l off n with
      | some v => some (v)
      | none => none
    | _ => none
noncomputable def pf_ixaA (len : Nat) (sz : Nat) (x : Opd) (i : Opd) (e : Env) : Option V :=
  match evF x e, evF i e with
    | some (.ptr (some (b, o))), some (.int _ n) => bif below n len then some (.ptr (some (b, o + n.toNat * sz))) else none
    | _, _ => none
noncomputable def pf_ixaS (sz : Nat) (x : Opd) (i : Opd) (e : Env) : Option V :=
  match evF x e, evF i e with
    | some (.slice (some (b, o)) len _), some (.int _ n) => bif below n len then some (.ptr (some (b, o + n.toNat * sz))) else none
    | _, _ => none
noncomputable def pf_ixA (len : Nat) (sz : Nat) (n : Option Nat) (x : Opd) (i : Opd) (e : Env) : Option V :=
  match evF x e, evF i e with
    | some (.agg l), some (.int _ k) => bif below k len then
        match part l (k.toNat * sz) n with
        | some v => some (v)
        | none => none
      else none
    | _, _ => none
noncomputable def pf_ixStr (x : Opd) (i : Opd) (e : Env) : Option V :=
  match evF x e, evF i e with
    | some (.str s), some (.int _ n) => bif below n s.length then
        match s[n.toNat]? with
        | some b => some (byteV b)
        | none => none
      else none
    | _, _ => none
noncomputable def pf_tassert (t : TypeId) (zero : V) (ok : Bool) (x : Opd) (e : Env) : Option V :=
  match evF x e with
    | some (.iface u v) => bif Nat.beq u t then some (if ok then .tup [v, .bool true] else v) else if ok then some (.tup [zero, .bool false]) else none
    | some .nili => if ok then some (.tup [zero, .bool false]) else none
    | _ => none
noncomputable def pf_lenS (x : Opd) (e : Env) : Option V :=
  match evF x e with
    | some (.str s) => some (.int .i64 s.length)
    | _ => none
noncomputable def pf_lenL (x : Opd) (e : Env) : Option V :=
  match evF x e with
    | some (.slice _ n _) => some (.int .i64 n)
    | _ => none
noncomputable def pf_extract (x : Opd) (i : Nat) (e : Env) : Option V :=
  match evF x e with
    | some (.tup l) => match l[i]? with
      | some v => some (v)
      | none => none
    | _ => none
noncomputable def pf_minI (xs : List Opd) (e : Env) : Option V :=
  match evsF e xs with
    | some (a :: r) => match foldV minV a r with
      | some v => some (v)
      | none => none
    | _ => none
noncomputable def pf_maxI (xs : List Opd) (e : Env) : Option V :=
  match evsF e xs with
    | some (a :: r) => match foldV maxV a r with
      | some v => some (v)
      | none => none
    | _ => none
noncomputable def rf_load1 (a : Opd) (e : Env) (h : H) : Option V :=
  match evF a e with
    | some (.ptr (some (b, o))) => match h.load1 b o with
      | some v => some (v)
      | none => none
    | _ => none
noncomputable def rf_loadN (n : Nat) (a : Opd) (e : Env) (h : H) : Option V :=
  match evF a e with
    | some (.ptr (some (b, o))) => match h.load b o n with
      | some l => some (.agg l)
      | none => none
    | _ => none
noncomputable def rf_ofBytes (x : Opd) (e : Env) (h : H) : Option V :=
  match evF x e with
    | some (.slice none _ _) => some (.str [])
    | some (.slice (some (b, o)) n _) => bif n == 0 then some (.str []) else
      match h.load b o n with
      | some l => match bytesOf l with
        | some s => some (.str s)
        | none => none
      | none => none
    | _ => none
noncomputable def rf_lookup (ks : KS) (zero : V) (ok : Bool) (m : Opd) (k : Opd) (e : Env) (h : H) : Option V :=
  match evF m e, evF k e with
    | some (.map none), some k => match findK ks k [] with
      | some _ => some (if ok then .tup [zero, .bool false] else zero)
      | none => none
    | some (.map (some r)), some k => match h.map? r with
      | some (es, _) => match findK ks k es with
        | some (some (_, v, _)) => some (if ok then .tup [v, .bool true] else v)
        | some none => some (if ok then .tup [zero, .bool false] else zero)
        | none => none
      | none => none
    | _, _ => none
noncomputable def rf_lenM (x : Opd) (e : Env) (h : H) : Option V :=
  match evF x e with
    | some (.map none) => some (.int .i64 0)
    | some (.map (some r)) => match h.map? r with
      | some (es, _) => some (.int .i64 es.length)
      | none => none
    | _ => none
noncomputable def rf_entry (x : Opd) (e : Env) (h : H) : Option V :=
  match evF x e with
    | some (.ptr (some (b, 0))) => match h.get b with
      | some (.iter (some r) _ seen last) => match h.map? r, seen.getLast? with
        | some (es, c), some st => bif Nat.beq c last then
            match es.find? (fun x => Nat.beq x.2.2 st) with
            | some (k, v, _) => some (.tup [k, v])
            | none => none
          else none
        | _, _ => none
      | _ => none
    | _ => none
noncomputable def mf_alloc (_x0 : Nat) (zero : List V) (_e : Env) : Option (Obj × (Nat → V)) :=
  some (.cells zero false, fun b => .ptr (some (b, 0)))
noncomputable def mf_box (_x0 : Nat) (x : Opd) (e : Env) : Option (Obj × (Nat → V)) :=
  match evF x e with
    | some v => some (.cells v.cells false, fun b => .ptr (some (b, 0)))
    | none => none
noncomputable def mf_bslice (sz : Nat) (len : Nat) (zero : List V) (parts : List (Nat × Opd)) (e : Env) : Option (Obj × (Nat → V)) :=
  match evParts e (parts.map fun p => (p.1 * sz, sz, p.2)) with
    | some ps => match fillParts zero ps with
      | some l => some (.cells l false, fun b => .slice (some (b, 0)) len (.fix len))
      | none => none
    | none => none
noncomputable def mf_toBytes (x : Opd) (e : Env) : Option (Obj × (Nat → V)) :=
  match evF x e with
    | some (.str s) => bif Nat.ble s.length (2 ^ 46) then some (.cells (s.map byteV) false, fun b => .slice (some (b, 0)) s.length (.grow 1)) else none
    | _ => none
noncomputable def mf_mkMap  (_e : Env) : Option (Obj × (Nat → V)) :=
  some (.map [] 0, fun b => .map (some b))
noncomputable def mf_mkSlice (_x0 : Nat) (bytes : Nat) (zero : List V) (len : Opd) (cap : Opd) (e : Env) : Option (Obj × (Nat → V)) :=
  match len.ev e, cap.ev e with
    | some (.int _ (.ofNat l)), some (.int _ (.ofNat c)) =>
      bif Nat.ble l c && Nat.ble (c * bytes) (2 ^ 46) && Nat.ble c (2 ^ 46) then some (.cells (List.replicate c zero).flatten false, fun b => .slice (some (b, 0)) l (.fix c)) else none
    | _, _ => none
noncomputable def ef_store (n : Nat) (a : Opd) (x : Opd) (_call : Call) (e : Env) (h : H) : Option (V × H) :=
  match evF a e, evF x e with
    | some (.ptr (some (b, o))), some v =>
      bif Nat.beq v.cells.length n then
        match h.store b o v.cells with
        | some h' => some (.undef, h')
        | none => none
      else none
    | _, _ => none
noncomputable def ef_mput (ks : KS) (m : Opd) (k : Opd) (v : Opd) (_call : Call) (e : Env) (h : H) : Option (V × H) :=
  match evF m e, evF k e, evF v e with
    | some (.map (some r)), some k, some v => match h.map? r with
      | some (es, c) => match findK ks k es with
        | some (some (i, _, born)) => some (.undef, h.set r (.map (es.set i (k, v, born)) c))
        | some none => some (.undef, h.set r (.map (es ++ [(k, v, c)]) (c + 1)))
        | none => none
      | none => none
    | _, _, _ => none
noncomputable def ef_mentry (ks : KS) (zero : V) (m : Opd) (k : Opd) (_call : Call) (e : Env) (h : H) : Option (V × H) :=
  match evF m e, evF k e with
    | some (.map (some r)), some k => match h.map? r with
      | some (es, c) => match findK ks k es with
        | some (some (i, v, born)) => some (.tup [v, .int .i64 born], h.set r (.map (es.set i (k, v, born)) c))
        | some none => some (.tup [zero, .int .i64 c], h.set r (.map (es ++ [(k, zero, c)]) (c + 1)))
        | none => none
      | none => none
    | _, _ => none
noncomputable def ef_mestore (m : Opd) (s : Opd) (v : Opd) (_call : Call) (e : Env) (h : H) : Option (V × H) :=
  match evF m e, evF s e, evF v e with
    | some (.map (some r)), some (.int _ st), some v => match h.map? r with
      | some (es, c) => match es.findIdx? (fun x => (x.2.2 : Int) == st) with
        | some i => match es[i]? with
          | some x => some (.undef, h.set r (.map (es.set i (x.1, v, x.2.2)) c))
          | none => none
        | none => none
      | none => none
    | _, _, _ => none
noncomputable def ef_mdel (ks : KS) (m : Opd) (k : Opd) (_call : Call) (e : Env) (h : H) : Option (V × H) :=
  match evF m e, evF k e with
    | some (.map none), some k => match findK ks k [] with
      | some _ => some (.undef, h)
      | none => none
    | some (.map (some r)), some k => match h.map? r with
      | some (es, c) => match findK ks k es with
        | some (some (i, _, _)) => some (.undef, h.set r (.map (es.eraseIdx i) c))
        | some none => some (.undef, h)
        | none => none
      | none => none
    | _, _ => none
noncomputable def ef_range (str : Bool) (x : Opd) (_call : Call) (e : Env) (h : H) : Option (V × H) :=
  match str, evF x e with
    | true, some (.str s) => some (.ptr (some (h.nx, 0)), h.new (.siter s 0))
    | false, some (.map none) => some (.ptr (some (h.nx, 0)), h.new (.iter none 0 [] 0))
    | false, some (.map (some r)) => match h.map? r with
      | some (_, c) => some (.ptr (some (h.nx, 0)), h.new (.iter (some r) c [] c))
      | none => none
    | _, _ => none
noncomputable def ef_next (str : Bool) (x : Opd) (_call : Call) (e : Env) (h : H) : Option (V × H) :=
  match evF x e with
    | some (.ptr (some (b, 0))) => match str, h.get b with
      | true, some (.siter s pos) => match s[pos]? with
        | none => some (.tup [.bool false], h)
        | some c => bif Nat.blt c.toNat 128 then some (.tup [.bool true, .i pos, .int .i32 c.toNat], h.set b (.siter s (pos + 1))) else none
      | false, some (.iter none _ _ _) => some (.tup [.bool false], h)
      | false, some (.iter (some r) since seen last) => match h.map? r with
        | some (es, c) => bif allNew seen last es then none else
          match unseen seen es with
          | [] => some (.tup [.bool false], h)
          | [(k, v, born)] => bif Nat.blt born since then some (.tup [.bool true, k, v], h.set b (.iter (some r) since (seen ++ [born]) c)) else none
          | _ => none
        | none => none
      | _, _ => none
    | _ => none
noncomputable def ef_call (f : FuncId) (args : List Opd) (call : Call) (e : Env) (h : H) : Option (V × H) :=
  match evsF e args with
    | some l => call (.fn f) l h
    | none => none
noncomputable def ef_callv (x : Opd) (args : List Opd) (call : Call) (e : Env) (h : H) : Option (V × H) :=
  match evF x e, evsF e args with
    | some (.clo f cap), some l => call (.fn f) (l ++ cap) h
    | some (.yld r), some l => call (.yld r) l h
    | _, _ => none
noncomputable def ef_callb (ms : MT) (x : Opd) (args : List Opd) (call : Call) (e : Env) (h : H) : Option (V × H) :=
  match evF x e, evsF e args with
    | some (.clo f cap), some l => call (.fn f) (l ++ cap) h
    | some (.yld r), some l => call (.yld r) l h
    | some (.bm n t v), some l => match ms.find? (fun p => p.1 == n) with
      | some (_, tbl) => match tbl.find? (fun p => p.1 == t) with
        | some (_, f) => call (.fn f) (v :: l) h
        | none => none
      | none => none
    | _, _ => none
noncomputable def ef_invoke (tbl : List (TypeId × FuncId)) (x : Opd) (args : List Opd) (call : Call) (e : Env) (h : H) : Option (V × H) :=
  match evF x e, evsF e args with
    | some (.iface t v), some l => match tbl.find? (fun p => p.1 == t) with
      | some (_, f) => call (.fn f) (v :: l) h
      | none => none
    | _, _ => none
noncomputable def ef_append (sz : Nat) (bytes : Nat) (x : Opd) (y : Opd) (_call : Call) (e : Env) (h : H) : Option (V × H) :=
  match evF x e, evF y e with
    | some a, some b => appendV h sz bytes a b
    | _, _ => none
noncomputable def ef_copy (sz : Nat) (x : Opd) (y : Opd) (_call : Call) (e : Env) (h : H) : Option (V × H) :=
  match evF x e, evF y e with
    | some a, some b => copyV h sz a b
    | _, _ => none
noncomputable def ef_mark (x : Opd) (_call : Call) (e : Env) (h : H) : Option (V × H) :=
  match evF x e with
    | some (.slice (some (b, o)) n c) => match h.get b with
      | some (.cells _ false) => bif Nat.ble 1 n then some (.slice (some (b, o)) n c, h) else none
      | _ => none
    | _ => none
abbrev RunT := Call → Env → H → Option Nat → Option (V × H)
noncomputable def go_mv (q0 : Opd) : RunT := fun _ e h _ => fin1 (pf_mv q0 e) h
noncomputable def go_pick (q0 : Opd) (q1 : Opd) (q2 : Opd) : RunT := fun _ e h _ => fin1 (pf_pick q0 q1 q2 e) h
noncomputable def go_alloc (q0 : Nat) (q1 : List V) : RunT := fun _ e h a => finA (mf_alloc q0 q1 e) h a
noncomputable def go_box (q0 : Nat) (q1 : Opd) : RunT := fun _ e h a => finA (mf_box q0 q1 e) h a
noncomputable def go_build (q0 : List V) (q1 : List (Nat × Nat × Opd)) : RunT := fun _ e h _ => fin1 (pf_build q0 q1 e) h
noncomputable def go_bslice (q0 : Nat) (q1 : Nat) (q2 : List V) (q3 : List (Nat × Opd)) : RunT := fun _ e h a => finA (mf_bslice q0 q1 q2 q3 e) h a
noncomputable def go_load1 (q0 : Opd) : RunT := fun _ e h _ => fin1 (rf_load1 q0 e h) h
noncomputable def go_loadN (q0 : Nat) (q1 : Opd) : RunT := fun _ e h _ => fin1 (rf_loadN q0 q1 e h) h
noncomputable def go_store (q0 : Nat) (q1 : Opd) (q2 : Opd) : RunT := fun call e h _ => ef_store q0 q1 q2 call e h
noncomputable def go_nilck (q0 : Opd) : RunT := fun _ e h _ => fin1 (pf_nilck q0 e) h
noncomputable def go_mkBm (q0 : String) (q1 : Opd) : RunT := fun _ e h _ => fin1 (pf_mkBm q0 q1 e) h
noncomputable def go_nilckB (q0 : String) (q1 : List (TypeId × FuncId)) (q2 : Opd) : RunT := fun _ e h _ => fin1 (pf_nilckB q0 q1 q2 e) h
noncomputable def go_bin (q0 : BinOp) (q1 : Opd) (q2 : Opd) : RunT := fun _ e h _ => fin1 (pf_bin q0 q1 q2 e) h
noncomputable def go_eq (q0 : EK) (q1 : Bool) (q2 : Opd) (q3 : Opd) : RunT := fun _ e h _ => fin1 (pf_eq q0 q1 q2 q3 e) h
noncomputable def go_un (q0 : UnOp) (q1 : Opd) : RunT := fun _ e h _ => fin1 (pf_un q0 q1 e) h
noncomputable def go_convInt (q0 : IntKind) (q1 : Opd) : RunT := fun _ e h _ => fin1 (pf_convInt q0 q1 e) h
noncomputable def go_convStr (q0 : Opd) : RunT := fun _ e h _ => fin1 (pf_convStr q0 e) h
noncomputable def go_toBytes (q0 : Opd) : RunT := fun _ e h a => finA (mf_toBytes q0 e) h a
noncomputable def go_ofBytes (q0 : Opd) : RunT := fun _ e h _ => fin1 (rf_ofBytes q0 e h) h
noncomputable def go_mark (q0 : Opd) : RunT := fun call e h _ => ef_mark q0 call e h
noncomputable def go_fail  : RunT := fun _ _ _ _ => none
noncomputable def go_mkIface (q0 : TypeId) (q1 : Opd) : RunT := fun _ e h _ => fin1 (pf_mkIface q0 q1 e) h
noncomputable def go_mkClo (q0 : FuncId) (q1 : List Opd) : RunT := fun _ e h _ => fin1 (pf_mkClo q0 q1 e) h
noncomputable def go_mkMap  : RunT := fun _ e h a => finA (mf_mkMap  e) h a
noncomputable def go_mkSlice (q0 : Nat) (q1 : Nat) (q2 : List V) (q3 : Opd) (q4 : Opd) : RunT := fun _ e h a => finA (mf_mkSlice q0 q1 q2 q3 q4 e) h a
noncomputable def go_sliceS (q0 : Opd) (q1 : Option Opd) (q2 : Option Opd) : RunT := fun _ e h _ => fin1 (pf_sliceS q0 q1 q2 e) h
noncomputable def go_slice (q0 : Nat) (q1 : Opd) (q2 : Option Opd) (q3 : Option Opd) (q4 : Option Opd) : RunT := fun _ e h _ => fin1 (pf_slice q0 q1 q2 q3 q4 e) h
noncomputable def go_sliceA (q0 : Nat) (q1 : Nat) (q2 : Opd) (q3 : Option Opd) (q4 : Option Opd) (q5 : Option Opd) : RunT := fun _ e h _ => fin1 (pf_sliceA q0 q1 q2 q3 q4 q5 e) h
noncomputable def go_faddr (q0 : Nat) (q1 : Opd) : RunT := fun _ e h _ => fin1 (pf_faddr q0 q1 e) h
noncomputable def go_field (q0 : Nat) (q1 : Option Nat) (q2 : Opd) : RunT := fun _ e h _ => fin1 (pf_field q0 q1 q2 e) h
noncomputable def go_ixaA (q0 : Nat) (q1 : Nat) (q2 : Opd) (q3 : Opd) : RunT := fun _ e h _ => fin1 (pf_ixaA q0 q1 q2 q3 e) h
noncomputable def go_ixaS (q0 : Nat) (q1 : Opd) (q2 : Opd) : RunT := fun _ e h _ => fin1 (pf_ixaS q0 q1 q2 e) h
noncomputable def go_ixA (q0 : Nat) (q1 : Nat) (q2 : Option Nat) (q3 : Opd) (q4 : Opd) : RunT := fun _ e h _ => fin1 (pf_ixA q0 q1 q2 q3 q4 e) h
noncomputable def go_ixStr (q0 : Opd) (q1 : Opd) : RunT := fun _ e h _ => fin1 (pf_ixStr q0 q1 e) h
noncomputable def go_lookup (q0 : KS) (q1 : V) (q2 : Bool) (q3 : Opd) (q4 : Opd) : RunT := fun _ e h _ => fin1 (rf_lookup q0 q1 q2 q3 q4 e h) h
noncomputable def go_mput (q0 : KS) (q1 : Opd) (q2 : Opd) (q3 : Opd) : RunT := fun call e h _ => ef_mput q0 q1 q2 q3 call e h
noncomputable def go_mentry (q0 : KS) (q1 : V) (q2 : Opd) (q3 : Opd) : RunT := fun call e h _ => ef_mentry q0 q1 q2 q3 call e h
noncomputable def go_mestore (q0 : Opd) (q1 : Opd) (q2 : Opd) : RunT := fun call e h _ => ef_mestore q0 q1 q2 call e h
noncomputable def go_mdel (q0 : KS) (q1 : Opd) (q2 : Opd) : RunT := fun call e h _ => ef_mdel q0 q1 q2 call e h
noncomputable def go_range (q0 : Bool) (q1 : Opd) : RunT := fun call e h _ => ef_range q0 q1 call e h
noncomputable def go_next (q0 : Bool) (q1 : Opd) : RunT := fun call e h _ => ef_next q0 q1 call e h
noncomputable def go_entry (q0 : Opd) : RunT := fun _ e h _ => fin1 (rf_entry q0 e h) h
noncomputable def go_tassert (q0 : TypeId) (q1 : V) (q2 : Bool) (q3 : Opd) : RunT := fun _ e h _ => fin1 (pf_tassert q0 q1 q2 q3 e) h
noncomputable def go_extract (q0 : Opd) (q1 : Nat) : RunT := fun _ e h _ => fin1 (pf_extract q0 q1 e) h
noncomputable def go_call (q0 : FuncId) (q1 : List Opd) : RunT := fun call e h _ => ef_call q0 q1 call e h
noncomputable def go_callv (q0 : Opd) (q1 : List Opd) : RunT := fun call e h _ => ef_callv q0 q1 call e h
noncomputable def go_callb (q0 : MT) (q1 : Opd) (q2 : List Opd) : RunT := fun call e h _ => ef_callb q0 q1 q2 call e h
noncomputable def go_invoke (q0 : List (TypeId × FuncId)) (q1 : Opd) (q2 : List Opd) : RunT := fun call e h _ => ef_invoke q0 q1 q2 call e h
noncomputable def go_lenS (q0 : Opd) : RunT := fun _ e h _ => fin1 (pf_lenS q0 e) h
noncomputable def go_lenL (q0 : Opd) : RunT := fun _ e h _ => fin1 (pf_lenL q0 e) h
noncomputable def go_lenM (q0 : Opd) : RunT := fun _ e h _ => fin1 (rf_lenM q0 e h) h
noncomputable def go_append (q0 : Nat) (q1 : Nat) (q2 : Opd) (q3 : Opd) : RunT := fun call e h _ => ef_append q0 q1 q2 q3 call e h
noncomputable def go_copy (q0 : Nat) (q1 : Opd) (q2 : Opd) : RunT := fun call e h _ => ef_copy q0 q1 q2 call e h
noncomputable def go_minI (q0 : List Opd) : RunT := fun _ e h _ => fin1 (pf_minI q0 e) h
noncomputable def go_maxI (q0 : List Opd) : RunT := fun _ e h _ => fin1 (pf_maxI q0 e) h
noncomputable def runF (i : I) : RunT :=
  I.rec (motive := fun _ => RunT) go_mv go_pick go_alloc go_box go_build go_bslice go_load1 go_loadN go_store go_nilck go_mkBm go_nilckB go_bin go_eq go_un go_convInt go_convStr go_toBytes go_ofBytes go_mark go_fail go_mkIface go_mkClo go_mkMap go_mkSlice go_sliceS go_slice go_sliceA go_faddr go_field go_ixaA go_ixaS go_ixA go_ixStr go_lookup go_mput go_mentry go_mestore go_mdel go_range go_next go_entry go_tassert go_extract go_call go_callv go_callb go_invoke go_lenS go_lenL go_lenM go_append go_copy go_minI go_maxI i
theorem runF_eq (i : I) (call : Call) (e : Env) (h : H) (a : Option Nat) : runF i call e h a = i.run call e h a := by
  cases i
  case mv q0 =>
    show go_mv q0 call e h a = _
    simp only [go_mv, pf_mv, I.run, I.cls, I.pure, fin1_eq, evF_eq] <;> rfl
  case pick q0 q1 q2 =>
    show go_pick q0 q1 q2 call e h a = _
    simp only [go_pick, pf_pick, I.run, I.cls, I.pure, fin1_eq, evF_eq] <;> rfl
  case alloc q0 q1 =>
    show go_alloc q0 q1 call e h a = _
    simp only [go_alloc, mf_alloc, I.run, I.cls, I.make, finA] <;> rfl
  case box q0 q1 =>
    show go_box q0 q1 call e h a = _
    simp only [go_box, mf_box, I.run, I.cls, I.make, finA, evF_eq] <;> rfl
  case build q0 q1 =>
    show go_build q0 q1 call e h a = _
    simp only [go_build, pf_build, I.run, I.cls, I.pure, fin1_eq] <;> rfl
  case bslice q0 q1 q2 q3 =>
    show go_bslice q0 q1 q2 q3 call e h a = _
    simp only [go_bslice, mf_bslice, I.run, I.cls, I.make, finA] <;> rfl
  case load1 q0 =>
    show go_load1 q0 call e h a = _
    simp only [go_load1, rf_load1, I.run, I.cls, I.read, fin1_eq, evF_eq] <;> rfl
  case loadN q0 q1 =>
    show go_loadN q0 q1 call e h a = _
    simp only [go_loadN, rf_loadN, I.run, I.cls, I.read, fin1_eq, evF_eq] <;> rfl
  case store q0 q1 q2 =>
    show go_store q0 q1 q2 call e h a = _
    simp only [go_store, ef_store, I.run, I.cls, I.eff, evF_eq, nbeqb] <;> rfl
  case nilck q0 =>
    show go_nilck q0 call e h a = _
    simp only [go_nilck, pf_nilck, I.run, I.cls, I.pure, fin1_eq, evF_eq] <;> rfl
  case mkBm q0 q1 =>
    show go_mkBm q0 q1 call e h a = _
    simp only [go_mkBm, pf_mkBm, I.run, I.cls, I.pure, fin1_eq, evF_eq] <;> rfl
  case nilckB q0 q1 q2 =>
    show go_nilckB q0 q1 q2 call e h a = _
    simp only [go_nilckB, pf_nilckB, I.run, I.cls, I.pure, fin1_eq, evF_eq] <;> rfl
  case bin q0 q1 q2 =>
    show go_bin q0 q1 q2 call e h a = _
    simp only [go_bin, pf_bin, I.run, I.cls, I.pure, fin1_eq, evF_eq, binOpF_eq] <;> rfl
  case eq q0 q1 q2 q3 =>
    show go_eq q0 q1 q2 q3 call e h a = _
    simp only [go_eq, pf_eq, I.run, I.cls, I.pure, fin1_eq, evF_eq] <;> rfl
  case un q0 q1 =>
    show go_un q0 q1 call e h a = _
    simp only [go_un, pf_un, I.run, I.cls, I.pure, fin1_eq, evF_eq] <;> rfl
  case convInt q0 q1 =>
    show go_convInt q0 q1 call e h a = _
    simp only [go_convInt, pf_convInt, I.run, I.cls, I.pure, fin1_eq, evF_eq, wrapF_eq] <;> rfl
  case convStr q0 =>
    show go_convStr q0 call e h a = _
    simp only [go_convStr, pf_convStr, I.run, I.cls, I.pure, fin1_eq, evF_eq] <;> rfl
  case toBytes q0 =>
    show go_toBytes q0 call e h a = _
    simp only [go_toBytes, mf_toBytes, I.run, I.cls, I.make, finA, evF_eq] <;> rfl
  case ofBytes q0 =>
    show go_ofBytes q0 call e h a = _
    simp only [go_ofBytes, rf_ofBytes, I.run, I.cls, I.read, fin1_eq, evF_eq] <;> rfl
  case mark q0 =>
    show go_mark q0 call e h a = _
    simp only [go_mark, ef_mark, I.run, I.cls, I.eff, evF_eq] <;> rfl
  case fail  =>
    show go_fail  call e h a = _
    simp only [go_fail, I.run, I.cls, I.pure] <;> rfl
  case mkIface q0 q1 =>
    show go_mkIface q0 q1 call e h a = _
    simp only [go_mkIface, pf_mkIface, I.run, I.cls, I.pure, fin1_eq, evF_eq] <;> rfl
  case mkClo q0 q1 =>
    show go_mkClo q0 q1 call e h a = _
    simp only [go_mkClo, pf_mkClo, I.run, I.cls, I.pure, fin1_eq, evsF_eq] <;> rfl
  case mkMap  =>
    show go_mkMap  call e h a = _
    simp only [go_mkMap, mf_mkMap, I.run, I.cls, I.make, finA] <;> rfl
  case mkSlice q0 q1 q2 q3 q4 =>
    show go_mkSlice q0 q1 q2 q3 q4 call e h a = _
    simp only [go_mkSlice, mf_mkSlice, I.run, I.cls, I.make, finA] <;> rfl
  case sliceS q0 q1 q2 =>
    show go_sliceS q0 q1 q2 call e h a = _
    simp only [go_sliceS, pf_sliceS, I.run, I.cls, I.pure, fin1_eq, evF_eq] <;> rfl
  case slice q0 q1 q2 q3 q4 =>
    show go_slice q0 q1 q2 q3 q4 call e h a = _
    simp only [go_slice, pf_slice, I.run, I.cls, I.pure, fin1_eq, evF_eq] <;> rfl
  case sliceA q0 q1 q2 q3 q4 q5 =>
    show go_sliceA q0 q1 q2 q3 q4 q5 call e h a = _
    simp only [go_sliceA, pf_sliceA, I.run, I.cls, I.pure, fin1_eq, evF_eq] <;> rfl
  case faddr q0 q1 =>
    show go_faddr q0 q1 call e h a = _
    simp only [go_faddr, pf_faddr, I.run, I.cls, I.pure, fin1_eq, evF_eq] <;> rfl
  case field q0 q1 q2 =>
    show go_field q0 q1 q2 call e h a = _
    simp only [go_field, pf_field, I.run, I.cls, I.pure, fin1_eq, evF_eq] <;> rfl
  case ixaA q0 q1 q2 q3 =>
    show go_ixaA q0 q1 q2 q3 call e h a = _
    simp only [go_ixaA, pf_ixaA, I.run, I.cls, I.pure, fin1_eq, evF_eq] <;> rfl
  case ixaS q0 q1 q2 =>
    show go_ixaS q0 q1 q2 call e h a = _
    simp only [go_ixaS, pf_ixaS, I.run, I.cls, I.pure, fin1_eq, evF_eq] <;> rfl
  case ixA q0 q1 q2 q3 q4 =>
    show go_ixA q0 q1 q2 q3 q4 call e h a = _
    simp only [go_ixA, pf_ixA, I.run, I.cls, I.pure, fin1_eq, evF_eq] <;> rfl
  case ixStr q0 q1 =>
    show go_ixStr q0 q1 call e h a = _
    simp only [go_ixStr, pf_ixStr, I.run, I.cls, I.pure, fin1_eq, evF_eq] <;> rfl
  case lookup q0 q1 q2 q3 q4 =>
    show go_lookup q0 q1 q2 q3 q4 call e h a = _
    simp only [go_lookup, rf_lookup, I.run, I.cls, I.read, fin1_eq, evF_eq] <;> rfl
  case mput q0 q1 q2 q3 =>
    show go_mput q0 q1 q2 q3 call e h a = _
    simp only [go_mput, ef_mput, I.run, I.cls, I.eff, evF_eq] <;> rfl
  case mentry q0 q1 q2 q3 =>
    show go_mentry q0 q1 q2 q3 call e h a = _
    simp only [go_mentry, ef_mentry, I.run, I.cls, I.eff, evF_eq] <;> rfl
  case mestore q0 q1 q2 =>
    show go_mestore q0 q1 q2 call e h a = _
    simp only [go_mestore, ef_mestore, I.run, I.cls, I.eff, evF_eq] <;> rfl
  case mdel q0 q1 q2 =>
    show go_mdel q0 q1 q2 call e h a = _
    simp only [go_mdel, ef_mdel, I.run, I.cls, I.eff, evF_eq] <;> rfl
  case range q0 q1 =>
    show go_range q0 q1 call e h a = _
    simp only [go_range, ef_range, I.run, I.cls, I.eff, evF_eq] <;> rfl
  case next q0 q1 =>
    show go_next q0 q1 call e h a = _
    simp only [go_next, ef_next, I.run, I.cls, I.eff, evF_eq] <;> rfl
  case entry q0 =>
    show go_entry q0 call e h a = _
    simp only [go_entry, rf_entry, I.run, I.cls, I.read, fin1_eq, evF_eq] <;> rfl
  case tassert q0 q1 q2 q3 =>
    show go_tassert q0 q1 q2 q3 call e h a = _
    simp only [go_tassert, pf_tassert, I.run, I.cls, I.pure, fin1_eq, evF_eq, nbeqb] <;> rfl
  case extract q0 q1 =>
    show go_extract q0 q1 call e h a = _
    simp only [go_extract, pf_extract, I.run, I.cls, I.pure, fin1_eq, evF_eq] <;> rfl
  case call q0 q1 =>
    show go_call q0 q1 call e h a = _
    simp only [go_call, ef_call, I.run, I.cls, I.eff, evsF_eq] <;> rfl
  case callv q0 q1 =>
    show go_callv q0 q1 call e h a = _
    simp only [go_callv, ef_callv, I.run, I.cls, I.eff, evF_eq, evsF_eq] <;> rfl
  case callb q0 q1 q2 =>
    show go_callb q0 q1 q2 call e h a = _
    simp only [go_callb, ef_callb, I.run, I.cls, I.eff, evF_eq, evsF_eq] <;> rfl
  case invoke q0 q1 q2 =>
    show go_invoke q0 q1 q2 call e h a = _
    simp only [go_invoke, ef_invoke, I.run, I.cls, I.eff, evF_eq, evsF_eq] <;> rfl
  case lenS q0 =>
    show go_lenS q0 call e h a = _
    simp only [go_lenS, pf_lenS, I.run, I.cls, I.pure, fin1_eq, evF_eq] <;> rfl
  case lenL q0 =>
    show go_lenL q0 call e h a = _
    simp only [go_lenL, pf_lenL, I.run, I.cls, I.pure, fin1_eq, evF_eq] <;> rfl
  case lenM q0 =>
    show go_lenM q0 call e h a = _
    simp only [go_lenM, rf_lenM, I.run, I.cls, I.read, fin1_eq, evF_eq] <;> rfl
  case append q0 q1 q2 q3 =>
    show go_append q0 q1 q2 q3 call e h a = _
    simp only [go_append, ef_append, I.run, I.cls, I.eff, evF_eq] <;> rfl
  case copy q0 q1 q2 =>
    show go_copy q0 q1 q2 call e h a = _
    simp only [go_copy, ef_copy, I.run, I.cls, I.eff, evF_eq] <;> rfl
  case minI q0 =>
    show go_minI q0 call e h a = _
    simp only [go_minI, pf_minI, I.run, I.cls, I.pure, fin1_eq, evsF_eq] <;> rfl
  case maxI q0 =>
    show go_maxI q0 call e h a = _
    simp only [go_maxI, pf_maxI, I.run, I.cls, I.pure, fin1_eq, evsF_eq] <;> rfl

noncomputable def onlyF (e : Env) : List Nat → Env
  | [] => []
  | s :: r => match getF e s with
    | some v => (s, v) :: onlyF e r
    | none => onlyF e r
theorem onlyF_eq (e : Env) : ∀ l, onlyF e l = e.only l
  | [] => rfl
  | s :: r => by simp only [onlyF, Env.only, getF_eq, onlyF_eq e r]; rfl
noncomputable def wantF (e : Env) : Option (Nat × Bool) → Bool
  | none => true
  | some (j, want) => match getF e j with
    | some (.bool b) => b == want
    | _ => false
theorem wantF_eq (e : Env) (g : Option (Nat × Bool)) : wantF e g = wanted e g := by
  cases g with
  | none => rfl
  | some g => obtain ⟨j, w⟩ := g; simp only [wantF, wanted, getF_eq]; rfl
/-- behind an instruction -/
noncomputable def nextF (s : Ins) (e : Env) (k : Env → H → Option (Env × H)) (o : Option (V × H)) : Option (Env × H) := match o with
  | some (v, h') => match s.chk with
    | [] => k (layv e s.dst v) h'
    | c => bif chkAll e h' c then k (layv e s.dst v) h' else none
  | none => none
noncomputable def opF (s : Ins) (call : Call) (base : Nat) (e : Env) (h : H) (k : Env → H → Option (Env × H)) : Option (Env × H) :=
  bif wantF e s.guard then nextF s e k (runF s.i call e h (s.at_.map (base + ·))) else k (layv e s.dst .undef) h
noncomputable def runOpsF (l : List Ins) : Call → Nat → Env → H → Option (Env × H) :=
  List.rec (motive := fun _ => Call → Nat → Env → H → Option (Env × H)) (fun _ _ e h => some (e, h)) (fun s _ ih call base e h => opF s call base e h (ih call base)) l
theorem runOpsF_eq : ∀ (l : List Ins) (call : Call) (base : Nat) (e : Env) (h : H), runOpsF l call base e h = runOps call base l e h
  | [], _, _, _, _ => rfl
  | s :: r, call, base, e, h => by
    show opF s call base e h (runOpsF r call base) = _
    have ih : runOpsF r call base = runOps call base r := by funext e h; exact runOpsF_eq r call base e h
    rw [ih]
    have hd : runOps call base (s :: r) e h = (bif wanted e s.guard then
      match s.i.run call e h (s.at_.map (base + ·)) with
      | some (v, h') => bif chkAll e h' s.chk then runOps call base r (layv e s.dst v) h' else none
      | none => none
    else runOps call base r (layv e s.dst .undef) h) := rfl
    rw [hd]
    unfold opF
    rw [wantF_eq, runF_eq]
    generalize wanted e s.guard = g
    cases g
    · rfl
    · simp only [cond_true]
      unfold nextF
      cases I.run call e h (Option.map (fun x => base + x) s.at_) s.i with
      | none => rfl
      | some q =>
        obtain ⟨v, h'⟩ := q
        simp only
        cases s.chk with
        | nil => simp [chkAll]
        | cons _ _ => rfl

abbrev DT := Call → Nat → Env → H → Res
noncomputable def k_reg (keep : List Nat) (o : Option (Env × H)) : Res := match o with
  | some (e', h') => some (.normal, onlyF e' keep, h')
  | none => none
noncomputable def k_seq (r : Res) (k : Env → H → Res) : Res := match r with
  | some (.normal, e', h') => k e' h'
  | r => r
noncomputable def k_cond (c : Option V) (a b : Env → H → Res) (e : Env) (h : H) : Res := match c with
  | some (.bool true) => a e h
  | some (.bool false) => b e h
  | _ => none
noncomputable def k_block (id : Nat) (r : Res) : Res := match r with
  | some (.exit id', e', h') => bif Nat.beq id' id then some (.normal, e', h') else some (.exit id', e', h')
  | r => r
noncomputable def iterQ (body : Env → H → Res) (live : List Nat) (n : Nat) : Env → H → Res :=
  Nat.rec (motive := fun _ => Env → H → Res) (fun _ _ => none) (fun _ ih e h => k_seq (body (onlyF e live) h) ih) n
theorem iterQ_eq (body : Env → H → Res) (live : List Nat) : ∀ (n : Nat) (e : Env) (h : H), iterQ body live n e h = iter body live n e h
  | 0, _, _ => rfl
  | n + 1, e, h => by
    show k_seq (body (onlyF e live) h) (iterQ body live n) = _
    have ih : iterQ body live n = iter body live n := by funext e h; exact iterQ_eq body live n e h
    rw [ih, onlyF_eq]; rfl
noncomputable def k_range (f : Option V) (params live : List Nat) (assign body : AC) (call : Call) (e : Env) (h : H) : Res :=
    match f with
    | some (.clo g cap) =>
      match call (.fn g) (.yld h.nx :: cap) (h.new (.loop .ready none params (onlyF e live) assign body)) with
      | some (_, h') =>
        match h'.get h.nx with
        | some (.loop st pend _ _ _ _) =>
          match st with
          | .busy => none
          | _ => match pend with
            | none => some (.normal, e, h'.kill h.nx)
            | some ex => some (ex, e, h'.kill h.nx)
        | _ => none
      | none => none
    | _ => none
noncomputable def DF (c : AC) : DT := AC.rec (motive := fun _ => DT)
  (fun _ _ e h => some (.normal, e, h))
  (fun res ops keep call _ e h => k_reg keep (runOpsF ops call h.nx e (h.reserve res)))
  (fun _ _ iha ihb call fuel e h => k_seq (iha call fuel e h) (ihb call fuel))
  (fun c _ _ iha ihb call fuel e h => k_cond (evF c e) (iha call fuel) (ihb call fuel) e h)
  (fun id _ ih call fuel e h => k_block id (ih call fuel e h))
  (fun live _ ih call fuel e h => iterQ (ih call fuel) live fuel e h)
  (fun f params live assign body _ _ call _ e h => k_range (evF f e) params live assign body call e h)
  (fun id _ _ e h => some (.exit id, e, h))
  (fun _ _ e h => some (.ret, e, h))
  (fun _ ih => ih)
  (fun _ _ _ e h => some (.normal, e, h)) c
theorem DF_eq : ∀ (c : AC) (call : Call) (fuel : Nat) (e : Env) (h : H), DF c call fuel e h = D call fuel c e h
  | .skip, _, _, _, _ => rfl
  | .label _, _, _, _, _ => rfl
  | .exit _, _, _, _, _ => rfl
  | .ret, _, _, _, _ => rfl
  | .scope a, call, fuel, e, h => DF_eq a call fuel e h
  | .region res ops keep, call, fuel, e, h => by
    show k_reg keep (runOpsF ops call h.nx e (h.reserve res)) = _
    rw [runOpsF_eq]; simp only [D, k_reg, onlyF_eq]
    cases runOps call h.nx ops e (h.reserve res) <;> rfl
  | .seq a b, call, fuel, e, h => by
    show k_seq (DF a call fuel e h) (DF b call fuel) = _
    have ih : DF b call fuel = D call fuel b := by funext e h; exact DF_eq b call fuel e h
    rw [ih, DF_eq a]; rfl
  | .cond c a b, call, fuel, e, h => by
    show k_cond (evF c e) (DF a call fuel) (DF b call fuel) e h = _
    simp only [k_cond, D, evF_eq, DF_eq a, DF_eq b]; rfl
  | .block id a, call, fuel, e, h => by
    show k_block id (DF a call fuel e h) = _
    rw [DF_eq a]; simp only [k_block, D, nbeqb]; rfl
  | .loop live a, call, fuel, e, h => by
    show iterQ (DF a call fuel) live fuel e h = _
    have ih : DF a call fuel = D call fuel a := by funext e h; exact DF_eq a call fuel e h
    rw [ih, iterQ_eq]; rfl
  | .rangeFunc f params live assign body, call, fuel, e, h => by
    show k_range (evF f e) params live assign body call e h = _
    simp only [k_range, D, evF_eq, onlyF_eq]; rfl

noncomputable def runFnF (call : Call) (fuel : Nat) (fn : AFn) (args : List V) (h : H) : Option (V × H) :=
  bif Nat.beq args.length fn.np then
    match DF fn.body call fuel (Env.ofArgs args 0) h with
    | some (.exit _, _, _) => none
    | some (_, e, h') => match resOf e h' fn.res with
      | some l => some (packRes l, h')
      | none => none
    | none => none
  else none
theorem runFnF_eq (call : Call) (fuel : Nat) (fn : AFn) (args : List V) (h : H) : runFnF call fuel fn args h = runFn call fuel fn args h := by
  simp only [runFnF, runFn, DF_eq, nbeqb]; rfl
noncomputable def runRoundF (call : Call) (fuel : Nat) (l : Nat) (args : List V) (h : H) : Option (V × H) :=
  match h.get l with
  | some (.loop _ _ params env assign body) =>
    match putArgs env params args with
    | none => none
    | some e0 =>
      match DF assign call fuel e0 h with
      | some (.normal, e1, h1) =>
        match h1.get l with
        | some (.loop .ready p ps en a b) =>
          match DF body call fuel e1 (h1.set l (.loop .busy p ps en a b)) with
          | some (ex, _, h3) =>
            match h3.get l with
            | some (.loop _ _ ps' en' a' b') =>
              match ex with
              | .normal => some (.bool true, h3.set l (.loop .ready none ps' en' a' b'))
              | ex => some (.bool false, h3.set l (.loop .done (some ex) ps' en' a' b'))
            | _ => none
          | none => none
        | _ => none
      | _ => none
  | _ => none
theorem runRoundF_eq (call : Call) (fuel : Nat) (l : Nat) (args : List V) (h : H) : runRoundF call fuel l args h = runRound call fuel l args h := by
  simp only [runRoundF, runRound, DF_eq]; rfl
noncomputable def assocF {α : Type} (l : List (Nat × α)) (s : Nat) : Option α := List.rec (motive := fun _ => Option α) none (fun p _ ih => bif Nat.beq p.1 s then some p.2 else ih) l
theorem assocF_eq {α : Type} : ∀ (l : List (Nat × α)) (s : Nat), assocF l s = assoc l s
  | [], _ => rfl
  | (k, v) :: r, s => by
    show (bif Nat.beq k s then some v else assocF r s) = _
    rw [assocF_eq r s]; rfl
noncomputable def callP (call : Call) (fuel : Nat) (fns : List (FuncId × AFn)) (f : FuncId) (args : List V) (h : H) (p : Option Prim) : Option (V × H) := match p with
  | some p => p args h
  | none => match assocF fns f with
    | some fn => runFnF call fuel fn args h
    | none => none
noncomputable def call1 (P : Prog) (fuel : Nat) (call : Call) (t : Tgt) (args : List V) (h : H) : Option (V × H) :=
  Tgt.rec (fun f => callP call fuel P.fns f args h (assocF P.prims f)) (fun l => runRoundF call fuel l args h) t
noncomputable def callF (P : Prog) (fuel : Nat) (n : Nat) : Call := Nat.rec (motive := fun _ => Call) (fun _ _ _ => none) (fun _ ih => call1 P fuel ih) n
theorem callF_eq (P : Prog) (fuel : Nat) : ∀ n, callF P fuel n = callN P fuel n
  | 0 => rfl
  | n + 1 => by
    show call1 P fuel (callF P fuel n) = _
    rw [callF_eq P fuel n]
    funext t args h
    cases t with
    | fn f =>
      show callP (callN P fuel n) fuel P.fns f args h (assocF P.prims f) = _
      simp only [callP, assocF_eq, runFnF_eq, callN]; rfl
    | yld l => exact runRoundF_eq _ _ _ _ _

end Am
