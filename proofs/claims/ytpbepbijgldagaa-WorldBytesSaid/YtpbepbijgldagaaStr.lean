/- Bytes as strings. -/
import Derived.Test.YtpbepbijgldagaaRing2
namespace Am.Sigs
open Am Go

theorem byteOf_byteV (b : UInt8) : byteOf (byteV b) = some b := by
  have h : b.toNat < 256 := b.toNat_lt
  have h2 : below (b.toNat : Int) 256 = true := by
    rcases Nat.lt_or_ge b.toNat 256 with _ | _
    · simp [below]; omega
    · omega
  simp only [byteV, byteOf, h2, cond_true, Int.toNat_natCast]
  congr 1
  exact UInt8.ofNat_toNat
theorem bytesOf_bts : ∀ l : List UInt8, bytesOf (bts l) = some l
  | [] => rfl
  | b :: l => by
    show (match byteOf (byteV b), bytesOf (bts l) with | some b, some l => some (b :: l) | _, _ => none) = _
    rw [byteOf_byteV, bytesOf_bts l]

section
variable {call : Call} {fuel base : Nat} {ops : List Ins} {keep : List Nat} {K : List Fr} {e : Env} {h : H} {Q : Post} {ix : Nat} {dst at_ : Option Nat}
theorem Ops.sadd {x y : Opd} {a b : List UInt8} (hx : x.ev e = some (.str a)) (hy : y.ev e = some (.str b)) (hl : a.length + b.length ≤ 1000000) (k : Ops call fuel base ops keep K (layv e dst (.str (a ++ b))) h Q) :
    Ops call fuel base (⟨ix, dst, .bin .add x y, none, at_, []⟩ :: ops) keep K e h Q := by
  refine Ops.pure rfl ?_ k
  have h2 : Nat.ble (a.length + b.length) (2 ^ 62) = true := Nat.ble_eq_true_of_le (by omega)
  simp only [I.pure, hx, hy, binOp, strOp, h2, cond_true]
theorem Ops.ofRow {x : Opd} {v : V} {N n : Nat} {l : List UInt8} (hx : x.ev e = some v) (r : Row N h 1 v n (bts l)) (k : Ops call fuel base ops keep K (layv e dst (.str l)) h Q) :
    Ops call fuel base (⟨ix, dst, .ofBytes x, none, at_, []⟩ :: ops) keep K e h Q := by
  refine Ops.step (I.run_read rfl ?_) k
  rcases r with ⟨rfl, h2, rfl⟩ | ⟨q, _, _, rfl, h4, h5⟩
  · have : l = [] := by simpa using h2
    subst this
    simp only [I.read, hx]
  · simp only [I.read, hx]
    have hn : n = l.length := by simpa using h5.symm
    subst hn
    cases l with
    | nil => rfl
    | cons a l =>
      have : ((a :: l).length == 0) = false := rfl
      rw [this, cond_false, load_of h4 (by simp), List.drop_zero, List.take_of_length_le (by simp)]
      show (match bytesOf (bts (a :: l)) with | some s => some (V.str s) | none => none) = _
      rw [bytesOf_bts]
theorem Ops.ofBytesAt {x : Opd} {a : Option (Nat × Nat)} {c : Cap} {l : List UInt8} {m : Nat} (hx : x.ev e = some (.slice a m c)) (hl : BytesAt h a c l) (hm : m ≤ l.length) (k : Ops call fuel base ops keep K (layv e dst (.str (l.take m))) h Q) :
    Ops call fuel base (⟨ix, dst, .ofBytes x, none, at_, []⟩ :: ops) keep K e h Q := by
  refine Ops.step (I.run_read rfl ?_) k
  cases a with
  | none => simp only [I.read, hx, (hl.none_ rfl).2, List.take_nil]
  | some a =>
    simp only [I.read, hx]
    by_cases h0 : m = 0
    · subst h0; simp
    · have : (m == 0) = false := by simp [h0]
      rw [this, cond_false]
      obtain ⟨b, o, cs, ro, ea, _, hb, hc⟩ := hl.at_ (by rintro rfl; simp at hm; omega)
      cases ea
      obtain ⟨p1, p2⟩ := bytes_piece (k := 0) (m := m) hc (by omega) (by omega)
      rw [load_of hb (by omega)]
      simp only [Nat.add_zero, List.drop_zero] at p2
      show (match bytesOf ((cs.drop o).take m) with | some s => some (V.str s) | none => none) = _
      rw [p2, bytesOf_bts]
theorem Ops.sliceTo {x hi : Opd} {a : Option (Nat × Nat)} {c : Cap} {l : List UInt8} {m : Nat} (hx : x.ev e = some (.slice a l.length c)) (hl : BytesAt h a c l) (hhi : hi.ev e = some (.i (m : Int))) (hm : m ≤ l.length) (k : Ops call fuel base ops keep K (layv e dst (.slice a m c)) h Q) :
    Ops call fuel base (⟨ix, dst, .slice 1 x none (some hi) none, none, at_, []⟩ :: ops) keep K e h Q := by
  cases a with
  | none =>
    obtain ⟨rfl, rfl⟩ := hl.none_ rfl
    have : m = 0 := by simpa using hm
    subst this
    exact nil_slice hx hhi k
  | some a => exact Ops.slice_h hx hhi hm hl.fits k
theorem Ops.seql {x y : Opd} {a : List UInt8} (hx : x.ev e = some (.str a)) (hy : y.ev e = some (.str a)) (k : Ops call fuel base ops keep K (layv e dst (.bool true)) h Q) :
    Ops call fuel base (⟨ix, dst, .bin .eql x y, none, at_, []⟩ :: ops) keep K e h Q := by
  refine Ops.pure rfl ?_ k
  simp only [I.pure, hx, hy, binOp, strOp, beq_self_eq_true]
theorem Ops.mark {x : Opd} {b o n : Nat} {c : Cap} {l : List V} (hx : x.ev e = some (.slice (some (b, o)) n c)) (hb : h.get b = some (.cells l false)) (hn : Nat.ble 1 n = true) (k : Ops call fuel base ops keep K (layv e dst (.slice (some (b, o)) n c)) h Q) :
    Ops call fuel base (⟨ix, dst, .mark x, none, at_, []⟩ :: ops) keep K e h Q := by
  refine Ops.step (I.run_eff rfl ?_) k
  simp only [I.eff, hx, hb, hn, cond_true]
end
end Am.Sigs
