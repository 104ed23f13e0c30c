/- More rules: loads asked again, copies, parts of slices, appends of many. -/
import Derived.Test.YtnebbcobonadaaaDoorRow
namespace Am
open Go

theorem chk_nil {e : Env} {h : H} : chkAll e h [] = true := rfl
theorem chk_load {e : Env} {h : H} {d : Nat} {a : Opd} {g : Option (Nat × Bool)} {r : List (Nat × I × Option (Nat × Bool))} {b o : Nat} {l : List V} {ro : Bool} {v : V} (ha : a.ev e = some (.ptr (some (b, o)))) (hb : h.get b = some (.cells l ro)) (hv : l[o]? = some v)
    (hd : e.get d = some v) (k : chkAll e h r = true) : chkAll e h ((d, .load1 a, g) :: r) = true := by
  simp only [chkAll, I.read, ha, load1_of hb hv, hd, V.same_refl, k, Bool.and_true]
  cases wanted e g <;> rfl

section
variable {call : Call} {fuel base : Nat} {K : List Fr} {e : Env} {h h' : H} {Q : Post} {ix : Nat} {dst : Option Nat} {ops : List Ins} {keep : List Nat} {at_ : Option Nat} {c : List (Nat × I × Option (Nat × Bool))}

theorem Ops.callf_chk {f : FuncId} {args : List Opd} {vs : List V} {v : V} (ha : evs e args = some vs) (hc : call (.fn f) vs h = some (v, h')) (hk : chkAll e h' c = true) (k : Ops call fuel base ops keep K (layv e dst v) h' Q) :
    Ops call fuel base (⟨ix, dst, .call f args, none, at_, c⟩ :: ops) keep K e h Q :=
  Ops.step_chk (I.run_eff rfl (by simp only [I.eff, ha, hc])) hk k

theorem Ops.storeN_chk {a x : Opd} {b o n : Nat} {l vs : List V} (ha : a.ev e = some (.ptr (some (b, o)))) (hx : x.ev e = some (.agg vs)) (hl : vs.length = n) (h1 : vs.all V.one = true) (hb : h.get b = some (.cells l false)) (hn : o + n ≤ l.length)
    (hk : chkAll e (h.set b (.cells (setAll l o vs) false)) c = true) (k : Ops call fuel base ops keep K (layv e dst .undef) (h.set b (.cells (setAll l o vs) false)) Q) : Ops call fuel base (⟨ix, dst, .store n a x, none, at_, c⟩ :: ops) keep K e h Q := by
  subst hl
  refine Ops.step_chk (I.run_eff rfl ?_) hk k
  simp only [I.eff, ha, hx, V.cells, store_of hb hn h1, beq_self_eq_true, cond_true]
theorem Ops.store1_chk {a x : Opd} {b o : Nat} {l : List V} {v : V} (ha : a.ev e = some (.ptr (some (b, o)))) (hx : x.ev e = some v) (h1 : v.one = true) (hb : h.get b = some (.cells l false)) (hn : o < l.length)
    (hk : chkAll e (h.set b (.cells (l.set o v) false)) c = true) (k : Ops call fuel base ops keep K (layv e dst .undef) (h.set b (.cells (l.set o v) false)) Q) : Ops call fuel base (⟨ix, dst, .store 1 a x, none, at_, c⟩ :: ops) keep K e h Q := by
  have hc : v.cells = [v] := by cases v <;> first | rfl | (simp [V.one] at h1)
  refine Ops.step_chk (I.run_eff rfl ?_) hk k
  have hs := store_of (o := o) (vs := [v]) hb (by simp only [List.length_singleton]; omega) (by simp [h1])
  simp only [I.eff, ha, hx, hc, hs]
  rfl

theorem all_one_of {l : List V} (h : ∀ (i : Nat) (v : V), l[i]? = some v → v.one = true) : l.all V.one = true := by
  rw [List.all_eq_true]
  intro v hv
  obtain ⟨i, hi⟩ := List.getElem?_of_mem hv
  exact h i v hi

theorem copyV_of {sz d : Nat} {db dof m : Nat} {cd cs2 : Cap} {sb so ln : Nat} {ld ls new : List V} {ro : Bool} (hn : d = Nat.min ln m) (h0 : 0 < d * sz) (hs : h.get sb = some (.cells ls ro)) (hsl : so + d * sz ≤ ls.length) (hnew : (ls.drop so).take (d * sz) = new)
    (hone : new.all V.one = true) (hd : h.get db = some (.cells ld false)) (hdl : dof + d * sz ≤ ld.length) :
    copyV h sz (.slice (some (db, dof)) m cd) (.slice (some (sb, so)) ln cs2) = some (.i d, h.set db (.cells (setAll ld dof new) false)) := by
  have hlen : new.length = d * sz := by rw [← hnew]; simp; omega
  have h1 : (d * sz == 0) = false := by simp; omega
  have hne : new.isEmpty = false := by cases new <;> simp_all
  simp only [copyV, lenOf, ← hn, srcCells, h1, cond_false, load_of hs hsl, hnew, hne]
  rw [store_of hd (by omega) hone]
theorem Ops.copy_chk {sz d : Nat} {x y : Opd} {db dof m : Nat} {cd cs2 : Cap} {sb so ln : Nat} {ld ls new : List V} {ro : Bool} (hx : x.ev e = some (.slice (some (db, dof)) m cd)) (hy : y.ev e = some (.slice (some (sb, so)) ln cs2)) (hn : d = Nat.min ln m) (h0 : 0 < d * sz)
    (hs : h.get sb = some (.cells ls ro)) (hsl : so + d * sz ≤ ls.length) (hnew : (ls.drop so).take (d * sz) = new) (hone : new.all V.one = true) (hd : h.get db = some (.cells ld false)) (hdl : dof + d * sz ≤ ld.length)
    (hk : chkAll e (h.set db (.cells (setAll ld dof new) false)) c = true) (k : Ops call fuel base ops keep K (layv e dst (.i d)) (h.set db (.cells (setAll ld dof new) false)) Q) :
    Ops call fuel base (⟨ix, dst, .copy sz x y, none, at_, c⟩ :: ops) keep K e h Q :=
  Ops.step_chk (I.run_eff rfl (by simp only [I.eff, hx, hy, copyV_of hn h0 hs hsl hnew hone hd hdl])) hk k

theorem Ops.remN {x y : Opd} {kd : IntKind} {a b : Nat} (hx : x.ev e = some (.int kd (a : Int))) (hy : y.ev e = some (.int kd (b : Int))) (hb : 0 < b) (k : Ops call fuel base ops keep K (layv e dst (.int kd ((a % b : Nat) : Int))) h Q) :
    Ops call fuel base (⟨ix, dst, .bin .rem x y, none, at_, []⟩ :: ops) keep K e h Q := by
  refine Ops.pure rfl ?_ k
  have h0 : ((b : Int) == 0) = false := by simp; omega
  have h1 : ((a : Int).tmod (b : Int)) = ((a % b : Nat) : Int) := by rw [Int.tmod_eq_emod_of_nonneg (by omega)]; simp
  simp only [I.pure, hx, hy, binOp, isShift, intOp, beq_self_eq_true, Bool.or_true, cond_true, h0, cond_false, h1]

/-- What is left of a capacity behind its first elements. -/
def Cap.less : Cap → Nat → Cap
  | .fix k, l => .fix (k - l)
  | .grow q, _ => .grow q
def Cap.fits : Cap → Nat → Nat → Prop
  | .fix k, n, _ => n ≤ k
  | .grow q, _, sz => q = sz

theorem upto_nat {n m : Nat} (h : n ≤ m) : upto (n : Int) m = true := by
  show upto (Int.ofNat n) m = true
  simp [upto, h]
theorem slc_b {len l r : Nat} {cap : Cap} {sz : Nat} (h1 : l ≤ r) (h2 : r ≤ len) (hf : cap.fits len sz) : slcBounds len (cap.room len) (some (.i (l : Int))) (some (.i (r : Int))) none = some (l, r, cap.room len) := by
  have hc : r ≤ cap.room len := by
    cases cap with
    | fix k => exact Nat.le_trans h2 hf
    | grow q => exact h2
  simp only [slcBounds, slcM, slcH, slcL, sB, asInt, upto_nat hc, upto_nat h1, cond_true, Int.toNat_natCast, Option.isSome_none]
theorem slc_h {len r : Nat} {cap : Cap} {sz : Nat} (h2 : r ≤ len) (hf : cap.fits len sz) : slcBounds len (cap.room len) none (some (.i (r : Int))) none = some (0, r, cap.room len) := by
  have hc : r ≤ cap.room len := by
    cases cap with
    | fix k => exact Nat.le_trans h2 hf
    | grow q => exact h2
  simp only [slcBounds, slcM, slcH, slcL, sB, asInt, upto_nat hc, cond_true, Int.toNat_natCast, Option.isSome_none]
theorem slc_l {len l : Nat} {cap : Cap} (h1 : l ≤ len) : slcBounds len (cap.room len) (some (.i (l : Int))) none none = some (l, len, cap.room len) := by
  simp only [slcBounds, slcM, slcH, slcL, sB, asInt, upto_nat h1, cond_true, Int.toNat_natCast, Option.isSome_none, cond_false]
theorem Ops.slice_b {sz b o len l r : Nat} {cap : Cap} {x lo hi : Opd} (hx : x.ev e = some (.slice (some (b, o)) len cap)) (hlo : lo.ev e = some (.i (l : Int))) (hhi : hi.ev e = some (.i (r : Int))) (h1 : l ≤ r) (h2 : r ≤ len) (hf : cap.fits len sz)
    (k : Ops call fuel base ops keep K (layv e dst (.slice (some (b, o + l * sz)) (r - l) (cap.less l))) h Q) : Ops call fuel base (⟨ix, dst, .slice sz x (some lo) (some hi) none, none, at_, []⟩ :: ops) keep K e h Q := by
  refine Ops.pure rfl ?_ k
  simp only [I.pure, hx, evo, hlo, hhi, slc_b h1 h2 hf]
  cases cap with
  | fix k => rfl
  | grow q => have hq : q = sz := hf; subst hq; simp [Cap.less]
theorem Ops.slice_h {sz b o len r : Nat} {cap : Cap} {x hi : Opd} (hx : x.ev e = some (.slice (some (b, o)) len cap)) (hhi : hi.ev e = some (.i (r : Int))) (h2 : r ≤ len) (hf : cap.fits len sz)
    (k : Ops call fuel base ops keep K (layv e dst (.slice (some (b, o)) r cap)) h Q) : Ops call fuel base (⟨ix, dst, .slice sz x none (some hi) none, none, at_, []⟩ :: ops) keep K e h Q := by
  refine Ops.pure rfl ?_ k
  simp only [I.pure, hx, evo, hhi, slc_h h2 hf]
  cases cap with
  | fix k => simp [Cap.room]
  | grow q => have hq : q = sz := hf; subst hq; simp
theorem Ops.slice_l {sz b o len l : Nat} {cap : Cap} {x lo : Opd} (hx : x.ev e = some (.slice (some (b, o)) len cap)) (hlo : lo.ev e = some (.i (l : Int))) (h1 : l ≤ len) (hf : cap.fits len sz)
    (k : Ops call fuel base ops keep K (layv e dst (.slice (some (b, o + l * sz)) (len - l) (cap.less l))) h Q) : Ops call fuel base (⟨ix, dst, .slice sz x (some lo) none none, none, at_, []⟩ :: ops) keep K e h Q := by
  refine Ops.pure rfl ?_ k
  simp only [I.pure, hx, evo, hlo, slc_l h1]
  cases cap with
  | fix k => rfl
  | grow q => have hq : q = sz := hf; subst hq; simp [Cap.less]

theorem Ops.mkSliceN {bytes n : Nat} {z : V} {l c' : Opd} (hl : l.ev e = some (.i (n : Int))) (hc : c'.ev e = some (.i (n : Int))) (hb : n * bytes ≤ 2 ^ 46) (hn : n ≤ 2 ^ 46)
    (k : Ops call fuel base ops keep K (layv e dst (.slice (some (h.nx, 0)) n (.fix n))) (h.new (.cells (List.replicate n z) false)) Q) : Ops call fuel base (⟨ix, dst, .mkSlice 1 bytes [z] l c', none, none, []⟩ :: ops) keep K e h Q := by
  refine Ops.make (ob := .cells (List.replicate n z) false) (mk := fun b => .slice (some (b, 0)) n (.fix n)) rfl ?_ k
  have e1 : (Nat.ble n n && Nat.ble (n * bytes) (2 ^ 46) && Nat.ble n (2 ^ 46)) = true := by
    simp only [Bool.and_eq_true, Nat.ble_eq]; omega
  have e2 : ∀ n, (List.replicate n [z]).flatten = List.replicate n z := by
    intro n
    induction n with
    | zero => rfl
    | succ n ih => rw [List.replicate_succ, List.flatten_cons, ih]; rfl
  have e3 : (V.i (n : Int)) = V.int .i64 (Int.ofNat n) := rfl
  simp only [I.make, hl, hc, e3, e1, cond_true, e2]

end

/-- Many elements are appended. -/
theorem append_rowN {N sz bytes n m sb so : Nat} {h : H} {v : V} {cs new ls : List V} {cap : Cap} {ro : Bool} (r : Row N h sz v n cs) (hN : N ≤ h.nx) (hm : 0 < m) (hs : h.get sb = some (.cells ls ro)) (hsl : so + m * sz ≤ ls.length) (hnew : (ls.drop so).take (m * sz) = new) (h1 : new.all V.one = true) (hz : 1 ≤ sz)
    (hb : (n + m) * bytes ≤ 2 ^ 46) (hn : n + m ≤ 2 ^ 46) :
    ∃ v' h', appendV h sz bytes v (.slice (some (sb, so)) m cap) = some (v', h') ∧ Row N h' sz v' (n + m) (cs ++ new) ∧ h'.nx = h.nx + 1 ∧ v'.at? = some h.nx ∧ ∀ j, j < h.nx → v.at? ≠ some j → h'.get j = h.get j := by
  have hlen : new.length = m * sz := by rw [← hnew]; simp; omega
  have hms : 0 < m * sz := Nat.mul_pos hm hz
  have hsrc : srcCells h sz m (.slice (some (sb, so)) m cap) = some new := by
    have : (m * sz == 0) = false := by simp; omega
    simp only [srcCells, this, cond_false]
    rw [load_of hs hsl, hnew]
  have hcond : (Nat.ble ((n + m) * bytes) (2 ^ 46) && Nat.ble (n + m) (2 ^ 46)) = true := by simp only [Bool.and_eq_true, Nat.ble_eq]; exact ⟨hb, hn⟩
  have h10 : (m == 0) = false := by simp; omega
  rcases r with ⟨rfl, rfl, rfl⟩ | ⟨q, hq1, hq2, rfl, hq4, hq5⟩
  · refine ⟨.slice (some (h.nx, 0)) m (.grow sz), h.new (.cells new false), ?_, .inr ⟨h.nx, hN, by simp, by rw [Nat.zero_add], by rw [get_new_self]; rfl, by simp [hlen]⟩, by simp, rfl, fun j hj _ => get_new_lt hj⟩
    simp only [appendV, lenOf, hsrc]
    rw [hcond]
    simp only [cond_true, h10, cond_false, newRow]
  · have hg : (Nat.beq sz sz && Nat.ble (0 + n * sz) cs.length && new.all V.one) = true := by
      simp only [Bool.and_eq_true, Nat.ble_eq, h1, and_true]
      exact ⟨Nat.beq_refl _, by omega⟩
    have htk : (cs.drop 0).take (n * sz) = cs := by rw [List.drop_zero, List.take_of_length_le (by omega)]
    refine ⟨.slice (some (h.nx, 0)) (n + m) (.grow sz), (h.kill q).new (.cells (cs ++ new) false), ?_, .inr ⟨h.nx, hN, by simp, rfl, ?_, ?_⟩, by simp, rfl, ?_⟩
    · simp only [appendV, lenOf, hsrc]
      rw [hcond]
      simp only [cond_true, h10, cond_false, hq4]
      rw [hg]
      simp only [cond_true, newRow, htk]
      rfl
    · exact get_new_self (h := h.kill q) _
    · simp [hq5, hlen, Nat.add_mul]
    · intro j hj hv
      have hjq : j ≠ q := fun e => hv (by subst e; rfl)
      rw [get_new_lt (by simpa using hj), get_kill_ne hjq]

theorem Row.one {N sz n : Nat} {h : H} {v : V} {cs : List V} (r : Row N h sz v n cs) : v.one = true := by
  rcases r with ⟨_, _, rfl⟩ | ⟨q, _, _, rfl, _⟩ <;> rfl

theorem Ops.appendN {call : Call} {fuel base : Nat} {K : List Fr} {e : Env} {h : H} {Q : Post} {ix : Nat} {dst : Option Nat} {ops : List Ins} {keep : List Nat} {N sz bytes n m sb so : Nat} {x y : Opd} {sv : V} {cs new ls : List V} {cap : Cap} {ro : Bool}
    (hx : x.ev e = some sv) (hy : y.ev e = some (.slice (some (sb, so)) m cap)) (r : Row N h sz sv n cs) (hN : N ≤ h.nx) (hm : 0 < m) (hs : h.get sb = some (.cells ls ro)) (hsl : so + m * sz ≤ ls.length) (hnew : (ls.drop so).take (m * sz) = new) (h1 : new.all V.one = true) (hz : 1 ≤ sz)
    (hb : (n + m) * bytes ≤ 2 ^ 46) (hn : n + m ≤ 2 ^ 46)
    (k : ∀ v' h', Row N h' sz v' (n + m) (cs ++ new) → h'.nx = h.nx + 1 → v'.at? = some h.nx → (∀ j, j < h.nx → sv.at? ≠ some j → h'.get j = h.get j) → Ops call fuel base ops keep K (layv e dst v') h' Q) :
    Ops call fuel base (⟨ix, dst, .append sz bytes x y, none, none, []⟩ :: ops) keep K e h Q := by
  obtain ⟨v', h', e1, e2, e3, e4, e5⟩ := append_rowN (bytes := bytes) (cap := cap) r hN hm hs hsl hnew h1 hz hb hn
  exact Ops.step (I.run_eff rfl (by simp only [I.eff, hx, hy, e1])) (k v' h' e2 e3 e4 e5)
end Am
