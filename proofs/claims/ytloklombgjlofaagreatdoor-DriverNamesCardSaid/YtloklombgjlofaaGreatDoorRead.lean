/- Instructions that read memory, and those that make a block. -/
import Derived.Test.YtloklombgjlofaaGreatDoorMem
import Derived.Laws.IdiomStrings
import Derived.Laws.BytesString
namespace Am
open Go

section
variable {P : Program} {C : Cx} {m : Mp} {h : H} {w : World} {e : Env} {t : Array Value} {o : Oper} {v : V}

theorem read_load1 (hT : TOk P C) (hG : GOk C m) (hr : HRel P C m h w) (he : ERel m e t) {a : Opd} {a' : Operand} {ty : TypeId} (ho : o.op = .load ty a') (ha : opdM C a a' = true) (hp : partM C ty none = true)
    (hv : I.read e h (.load1 a) = some v) : Yields P m t o v w := by
  simp only [I.read] at hv
  split at hv
  · next b off h1 =>
    split at hv
    · next u hu =>
      cases hv
      obtain ⟨l, hl, e1⟩ := opd_sound (t := t) hG he ha h1
      obtain ⟨x, h2, h3⟩ := load1_run hr hu hl
      refine ⟨x, ?_, h3⟩
      simp only [execOp, ho, Sem.run_bind, Instr.loadAt, e1, Instr.sureAddr, Sem.run_pure, Result.andThen_ok, loadVar, partM_none hT hp]
      simp only [Bool.false_eq_true, if_false]
      rw [h2]
      rfl
    · cases hv
  · cases hv

theorem read_loadN (hT : TOk P C) (hG : GOk C m) (hr : HRel P C m h w) (he : ERel m e t) {n : Nat} {a : Opd} {a' : Operand} {ty : TypeId} (ho : o.op = .load ty a') (ha : opdM C a a' = true) (hp : partM C ty (some n) = true)
    (hv : I.read e h (.loadN n a) = some v) : Yields P m t o v w := by
  simp only [I.read] at hv
  split at hv
  · next b off h1 =>
    split at hv
    · next u hu =>
      cases hv
      obtain ⟨l, hl, e1⟩ := opd_sound (t := t) hG he ha h1
      obtain ⟨xs, h2, h3⟩ := load_run hr hu hl
      obtain ⟨h4, h5⟩ := partM_some hT hp w
      refine ⟨.agg xs, ?_, xs, rfl, h3⟩
      simp only [execOp, ho, Sem.run_bind, Instr.loadAt, e1, Instr.sureAddr, Sem.run_pure, Result.andThen_ok, loadVar, h4, if_true, h5, h2]
    · cases hv
  · cases hv

theorem bytesT_und (hT : TOk P C) {ty : TypeId} (h : bytesT C ty = true) : ∃ el, P.underlying ty = some (.slice el) ∧ P.underlying el = some (.int .u8) := by
  obtain ⟨u, dd, h1, h2, h3⟩ := isU_und hT h
  cases u <;> simp at h1
  cases dd <;> simp [udMatch] at h3
  subst h3
  obtain ⟨u', dd', h4, h5, h6⟩ := isU_und hT h1
  refine ⟨_, h2, ?_⟩
  cases u' with
  | int k =>
    cases k <;> simp at h4
    cases dd' <;> simp [udMatch] at h6
    subst h6; exact h5
  | _ => simp at h4

theorem byteOf_rel {a : V} {x : Value} {b : UInt8} (h : VRel m a x) (hb : byteOf a = some b) : x = .int .u8 (b.toNat : Int) := by
  cases a with
  | int k n =>
    cases k <;> simp only [byteOf, cond_eq_ite] at hb <;> try (cases hb; done)
    split at hb
    · next hn =>
      cases hb
      have := below_iff.1 hn
      rw [show x = _ from h]
      congr 1
      simp [UInt8.toNat_ofNat']
      omega
    · cases hb
  | _ => simp [byteOf] at hb

theorem bytesOf_get : ∀ {l : List V} {s : List UInt8}, bytesOf l = some s → l.length = s.length ∧ ∀ (k : Nat) (b : UInt8), s[k]? = some b → ∃ a, l[k]? = some a ∧ byteOf a = some b
  | [], s, hb => by simp [bytesOf] at hb; subst hb; exact ⟨rfl, by simp⟩
  | a :: l, s, hb => by
    simp only [bytesOf] at hb
    split at hb
    · next b s' hb1 hb2 =>
      cases hb
      obtain ⟨h1, h2⟩ := bytesOf_get hb2
      refine ⟨by simp [h1], fun k c hk => ?_⟩
      cases k with
      | zero => simp at hk; subst hk; exact ⟨a, rfl, hb1⟩
      | succ k => simpa using h2 k c (by simpa using hk)
    · cases hb

theorem read_ofBytes (hT : TOk P C) (hG : GOk C m) (hr : HRel P C m h w) (he : ERel m e t) {a : Opd} {a' : Operand} {s d : TypeId} (ho : o.op = .convert s d a') (ha : opdM C a a' = true) (hs : bytesT C s = true)
    (hd : isU C d (fun | .str => true | _ => false) = true) (hv : I.read e h (.ofBytes a) = some v) : Yields P m t o v w := by
  obtain ⟨el, hs1, hs2⟩ := bytesT_und hT hs
  obtain ⟨u, dd, h2, h3, h4⟩ := isU_und hT hd
  cases u <;> simp at h2
  cases dd <;> simp [udMatch] at h4
  simp only [I.read] at hv
  split at hv
  · next n c h1 =>
    cases hv
    obtain ⟨_, _, e1⟩ := opd_sound (t := t) hG he ha h1
    refine ⟨.string ⟨⟨[]⟩⟩, ?_, rfl⟩
    simp only [execOp, ho, Sem.run_bind, e1]
    rw [run_convert_bytes_string w s d el none 0 0 hs1 hs2 h3]
    rfl
  · next b off n c h1 =>
    obtain ⟨l, o', c', hl, e1, h5, h6, _⟩ := opd_sound (t := t) hG he ha h1
    simp only [cond_eq_ite, beq_iff_eq] at hv
    split at hv
    · next hn =>
      cases hv
      subst hn
      refine ⟨.string ⟨⟨[]⟩⟩, ?_, rfl⟩
      simp only [execOp, ho, Sem.run_bind, e1]
      have := run_convert_bytes_back w s d el o' c' [] hs1 hs2 h3 (by simp)
      simp only [List.length_nil] at this
      rw [this]
      rfl
    · next hn =>
      split at hv
      · next vs hvs =>
        split at hv
        · next bs hbs =>
          cases hv
          obtain ⟨g1, g2⟩ := bytesOf_get hbs
          have hlen := load_length hvs
          obtain ⟨vs0, ro, k1, k2, k3⟩ := load_split hvs
          have ho' := h6 (by omega)
          subst ho'
          refine ⟨.string ⟨⟨bs⟩⟩, ?_, rfl⟩
          simp only [execOp, ho, Sem.run_bind, e1]
          have hnb : n = bs.length := by omega
          subst hnb
          rw [run_convert_bytes_back w s d el ⟨l.β, l.d + off, none⟩ c' bs hs1 hs2 h3 (fun j hj => by
            obtain ⟨a0, q1, q2⟩ := g2 j bs[j] (List.getElem?_eq_getElem hj)
            have q3 : vs0[off + j]? = some a0 := by
              rw [k3, List.getElem?_take, if_pos (by omega), List.getElem?_drop] at q1
              exact q1
            obtain ⟨x, q4, q5⟩ := hr.cell k1 hl q3
            rw [add_addr, Nat.add_assoc, q4, byteOf_rel q5 q2])]
          rfl
        · cases hv
      · cases hv
  · cases hv

/-- A builtin of one argument. -/
theorem one_arg (hG : GOk C m) (he : ERel m e t) {a : Opd} {c : Go.Call} (hx : opdsM C [a] c.args.toList = true) {u : V} (hu : a.ev e = some u) : ∃ x, (c.args.map (evT t))[0]? = some x ∧ VRel m u x := by
  obtain ⟨a', hargs, ha⟩ : ∃ a', c.args.toList = [a'] ∧ opdM C a a' = true := by
    match hq : c.args.toList, hx with
    | [a'], hx => exact ⟨a', rfl, by simpa [opdsM] using hx⟩
    | [], hx => simp [opdsM] at hx
    | _ :: _ :: _, hx => simp [opdsM] at hx
  refine ⟨evT t a', ?_, opd_sound hG he ha hu⟩
  have : (c.args.map (evT t)).toList = [evT t a'] := by simp [hargs]
  rw [← Array.getElem?_toList, this]; rfl

theorem argT_und (hT : TOk P C) {ts : Array TypeId} {f : UD → Bool} (hA : argT C ts 0 f = true) : ∃ ty u d, ts[0]? = some ty ∧ f u = true ∧ P.underlying ty = some d ∧ udMatch u d = true := by
  unfold argT at hA
  split at hA
  · next ty hty =>
    obtain ⟨u, dd, h1, h2, h3⟩ := isU_und hT hA
    exact ⟨ty, u, dd, hty, h1, h2, h3⟩
  · cases hA

theorem run_len {c : Go.Call} (ho : o.op = .call c) (hc : c.callee = .builtin .len) {x : Value} {w w' : World} (h : (Builtin.len_ c.argTypes o.type (c.args.map (evT t))).run P w = .ok x w') :
    (execOp (evT t) o).run P w = .ok (.value x) w' := by
  simp only [execOp, ho, Sem.run_bind, resolve, hc, Result.andThen_ok, Sem.run_pure, invoke, builtin, h]

theorem pure_lenS (hT : TOk P C) (hG : GOk C m) (he : ERel m e t) {a : Opd} {c : Go.Call} (ho : o.op = .call c) (hc : c.callee = .builtin .len) (hx : opdsM C [a] c.args.toList = true)
    (hA : argT C c.argTypes 0 (fun | .str => true | _ => false) = true) (hv : I.pure e (.lenS a) = some v) (w : World) : Yields P m t o v w := by
  obtain ⟨ty, u, dd, h1, h2, h3, h4⟩ := argT_und hT hA
  simp only [I.pure] at hv
  split at hv
  · next s hs =>
    cases hv
    obtain ⟨x, h5, h6⟩ := one_arg (t := t) hG he hx hs
    rw [show x = .string ⟨⟨s⟩⟩ from h6] at h5
    cases u <;> simp at h2
    cases dd <;> simp [udMatch] at h4
    refine ⟨.int .i64 s.length, run_len ho hc ?_, rfl⟩
    simp only [Builtin.len_, h1, h5, Sem.run_bind, run_underlying h3, Result.andThen_ok, Sem.run_pure, goInt]
    simp [ByteArray.size]
  · cases hv

theorem pure_lenL (hT : TOk P C) (hG : GOk C m) (he : ERel m e t) {a : Opd} {c : Go.Call} (ho : o.op = .call c) (hc : c.callee = .builtin .len) (hx : opdsM C [a] c.args.toList = true)
    (hA : argT C c.argTypes 0 (fun | .slice _ => true | _ => false) = true) (hv : I.pure e (.lenL a) = some v) (w : World) : Yields P m t o v w := by
  obtain ⟨ty, u, dd, h1, h2, h3, h4⟩ := argT_und hT hA
  simp only [I.pure] at hv
  split at hv
  · next p n cp hs =>
    cases hv
    obtain ⟨x, h5, h6⟩ := one_arg (t := t) hG he hx hs
    have e1 : ∃ q c', x = .slice q n c' := by
      cases p with
      | none => obtain ⟨rfl, _, e1⟩ := h6; exact ⟨_, _, e1⟩
      | some q => obtain ⟨_, _, _, _, e1, _⟩ := h6; exact ⟨_, _, e1⟩
    obtain ⟨q, c', rfl⟩ := e1
    cases u <;> simp at h2
    cases dd <;> simp [udMatch] at h4
    refine ⟨.int .i64 n, run_len ho hc ?_, rfl⟩
    simp only [Builtin.len_, h1, h5, Sem.run_bind, run_underlying h3, Result.andThen_ok, Sem.run_pure, goInt]
  · cases hv

theorem entriesRel.length : ∀ {l : List (V × V × Nat)} {es : List MapEntry}, entriesRel m l es → l.length = es.length
  | [], _, h => by rw [show _ = [] from h]; rfl
  | (_, _, _) :: _, _, ⟨x, s, e, _, _, _, h5⟩ => by subst e; simp [h5.length]

theorem map_obj (hr : HRel P C m h w) {r : Nat} {es : List (V × V × Nat)} {c : Nat} (hm : h.map? r = some (es, c)) {l : Loc} (hl : m r = some l) :
    h.get r = some (.map es c) ∧ ∃ ces, w.heap[l.β]? = some (.map ces c) ∧ entriesRel m es ces.toList := by
  unfold H.map? at hm
  split at hm
  · next es' c' hg =>
    cases hm
    obtain ⟨l', co, h1, h2, ces, rfl, h3⟩ := hr.obj r _ hg
    rw [hl] at h1; cases h1
    exact ⟨hg, ces, h2, h3⟩
  · cases hm

theorem run_getObj_map {r c : Nat} {ces : Array MapEntry} (hb : w.heap[r]? = some (.map ces c)) : (getObj r).run P w = .ok (.map ces c) w := by
  simp [getObj, Sem.run, hb]

theorem read_lenM (hT : TOk P C) (hG : GOk C m) (hr : HRel P C m h w) (he : ERel m e t) {a : Opd} {c : Go.Call} (ho : o.op = .call c) (hc : c.callee = .builtin .len) (hx : opdsM C [a] c.args.toList = true)
    (hA : argT C c.argTypes 0 (fun | .map .. => true | _ => false) = true) (hv : I.read e h (.lenM a) = some v) : Yields P m t o v w := by
  obtain ⟨ty, u, dd, h1, h2, h3, h4⟩ := argT_und hT hA
  cases u <;> simp at h2
  cases dd <;> simp [udMatch] at h4
  simp only [I.read] at hv
  split at hv
  · next hs =>
    cases hv
    obtain ⟨x, h5, h6⟩ := one_arg (t := t) hG he hx hs
    rw [show x = .map none from h6] at h5
    refine ⟨.int .i64 0, run_len ho hc ?_, rfl⟩
    simp only [Builtin.len_, h1, h5, Sem.run_bind, run_underlying h3, Result.andThen_ok, Sem.run_pure, goInt]
  · next r hs =>
    obtain ⟨x, h5, l, h6, rfl⟩ := one_arg (t := t) hG he hx hs
    split at hv
    · next es cl hm =>
      cases hv
      obtain ⟨_, ces, h7, h8⟩ := map_obj hr hm h6
      refine ⟨.int .i64 es.length, run_len ho hc ?_, rfl⟩
      simp only [Builtin.len_, h1, h5, Sem.run_bind, run_underlying h3, Result.andThen_ok, Sem.run_pure, goInt, run_getObj_map h7]
      have := h8.length
      simp at this
      rw [this]
    · cases hv
  · cases hv

/-! Maps. -/

theorem ksM_key (hT : TOk P C) {ks : KS} {kt : TypeId} (hk : ksM C ks kt = true) : ∃ i, C.T.at_ kt = some i ∧ ((∃ lk, ks = .leaf lk ∧ isAggT i.u = false ∧ shapeT C 20 kt = some [lk]) ∨ (∃ sh, ks = .agg sh ∧ isAggT i.u = true ∧ shapeT C 20 kt = some sh)) := by
  unfold ksM at hk
  split at hk
  · next i hi =>
    refine ⟨i, hi, ?_⟩
    cases ks with
    | leaf lk => simp at hk; exact .inl ⟨lk, rfl, hk.1, hk.2⟩
    | agg sh => simp at hk; exact .inr ⟨sh, rfl, hk.1, hk.2⟩
  · cases hk

/-- Two keys that the machine compares, the model compares alike. -/
theorem keyEq_run (hT : TOk P C) {ks : KS} {kt : TypeId} (hk : ksM C ks kt = true) {a b : V} {x y : Value} {r : Bool} (ha : VRel m a x) (hb : VRel m b y) (hq : keyEq ks a b = some r) (w : World) :
    (Op.equal kt x y).run P w = .ok r w := by
  obtain ⟨i, hi, h1 | h1⟩ := ksM_key hT hk
  · obtain ⟨lk, rfl, hna, hsh⟩ := h1
    obtain ⟨hl, hE⟩ := shape_ok (P := P) (m := m) hT 20 kt i _ hi hsh
    have hs1 : i.size = 1 := by rw [← hl]; rfl
    have ha' : VRels m [a] (#[x] : Array Value).toList := ⟨x, [], rfl, ha, rfl⟩
    have hb' : VRels m [b] (#[y] : Array Value).toList := ⟨y, [], rfl, hb, rfl⟩
    obtain ⟨x', y', h2, h3, h4⟩ := hE [a] [b] #[x] #[y] 0 r ha' hb' (by simp [hs1]) (by simp [hs1]) (by
      simp only [keyEq] at hq
      simp [hs1, cellsEq, hq]) 10000 (by omega) w
    simp [Go.part, isAgg_run hT hi, hna] at h2 h3
    subst h2 h3
    exact h4
  · obtain ⟨sh, rfl, hag, hsh⟩ := h1
    obtain ⟨hl, hE⟩ := shape_ok (P := P) (m := m) hT 20 kt i _ hi hsh
    cases a <;> cases b <;> simp [keyEq] at hq
    next xs ys =>
    obtain ⟨as, rfl, ha⟩ := ha
    obtain ⟨bs, rfl, hb⟩ := hb
    have hlx : xs.length = sh.length ∧ ys.length = sh.length := cellsEq_length hq
    have hpart : ∀ (l : List V) (zs : Array Value), VRels m l zs.toList → l.length = i.size → (Go.part kt zs 0).run P w = .ok (.agg zs) w := by
      intro l zs hz hlen
      have hsz : sizeM C kt i.size = true := by unfold sizeM; rw [hi]; exact beqT _
      have : zs.size = i.size := by have := hz.length; simp at this; omega
      have h0 : zs.extract 0 i.size = zs := by rw [← this]; simp
      simp [Go.part, isAgg_run hT hi, hag, sizeM_run hT hsz, h0]
    obtain ⟨x', y', h2, h3, h4⟩ := hE xs ys as bs 0 r ha hb (by omega) (by omega) (by
      rw [List.drop_zero, List.drop_zero, List.take_of_length_le (by omega), List.take_of_length_le (by omega)]; exact hq) 10000 (by omega) w
    rw [hpart xs as ha (by omega)] at h2
    rw [hpart ys bs hb (by omega)] at h3
    cases h2; cases h3
    exact h4

/-- What is found of a key, from place i on. -/
def FoundAt (m : Mp) (es : List (V × V × Nat)) (i : Nat) : Option (Nat × V × Nat) → Option (Nat × Value) → Prop
  | none, r' => r' = none
  | some (j, v, b), r' => i ≤ j ∧ (∃ key, es[j - i]? = some (key, v, b)) ∧ ∃ y, r' = some (j, y) ∧ VRel m v y

theorem findAsking_run (hT : TOk P C) {ks : KS} {kt : TypeId} (hk : ksM C ks kt = true) {k : V} {x : Value} (hx : VRel m k x) (w : World) : ∀ {es : List (V × V × Nat)} {ces : List MapEntry} (i : Nat) {r : Option (Nat × V × Nat)},
    entriesRel m es ces → findKey ks k es i = some r → ∃ r', (Instr.findAsking kt x ces i).run P w = .ok r' w ∧ FoundAt m es i r r'
  | [], _, i, r, he, hf => by
    rw [show _ = [] from he]
    simp [findKey] at hf; subst hf
    exact ⟨none, by simp [Instr.findAsking], rfl⟩
  | (key, v, b) :: es, _, i, r, ⟨ce, s, e, h1, h2, h3, h4⟩, hf => by
    subst e
    simp only [findKey] at hf
    split at hf
    · next hq =>
      cases hf
      refine ⟨some (i, ce.val), ?_, Nat.le_refl _, ⟨key, by simp⟩, ce.val, rfl, h2⟩
      simp only [Instr.findAsking, Sem.run_bind, keyEq_run hT hk hx h1 hq, Result.andThen_ok, if_true, Sem.run_pure]
    · next hq =>
      obtain ⟨r', h5, h6⟩ := findAsking_run hT hk hx w (i + 1) h4 hf
      refine ⟨r', ?_, ?_⟩
      · simp only [Instr.findAsking, Sem.run_bind, keyEq_run hT hk hx h1 hq, Result.andThen_ok, Bool.false_eq_true, if_false, h5]
      · cases r with
        | none => exact h6
        | some q =>
          obtain ⟨j, v', b'⟩ := q
          obtain ⟨h7, ⟨key', h8⟩, h9⟩ := h6
          refine ⟨by omega, ⟨key', ?_⟩, h9⟩
          rw [show j - i = (j - (i + 1)) + 1 by omega]
          simpa using h8
    · cases hf

theorem sameNow_equal {d : TypeDesc} {kt : TypeId} (hd : P.underlying kt = some d) {x y : Value} {b : Bool} (h : Instr.sameNow d x y = some b) (w : World) : (Op.equal kt x y).run P w = .ok b w := by
  unfold Instr.sameNow at h
  split at h
  · split at h
    · next hk => cases h; subst hk; exact run_equalIn_int w 9999 kt _ _ _ _ hd
    · cases h
  · cases h; exact (run_equalIn_string w 9999 kt _ _ hd).trans (by simp [beq_toListBytes])
  · cases h; exact run_equalIn_bool' w 9999 kt _ _ hd
  · cases h

theorem findNow_asking {d : TypeDesc} {kt : TypeId} (hd : P.underlying kt = some d) (x : Value) (w : World) : ∀ (ces : List MapEntry) (i : Nat) (r : Option (Nat × Value)), Instr.findNow d x ces i = some r → (Instr.findAsking kt x ces i).run P w = .ok r w
  | [], i, r, h => by simp [Instr.findNow] at h; subst h; simp [Instr.findAsking]
  | ce :: ces, i, r, h => by
    simp only [Instr.findNow] at h
    split at h
    · next hs =>
      cases h
      simp only [Instr.findAsking, Sem.run_bind, sameNow_equal hd hs, Result.andThen_ok, if_true, Sem.run_pure]
    · next hs =>
      simp only [Instr.findAsking, Sem.run_bind, sameNow_equal hd hs, Result.andThen_ok, Bool.false_eq_true, if_false]
      exact findNow_asking hd x w ces (i + 1) r h
    · cases h

/-- Is the key there? -/
theorem findKey_run (hT : TOk P C) {ks : KS} {kt : TypeId} (hk : ksM C ks kt = true) {k : V} {x : Value} (hx : VRel m k x) (w : World) {es : List (V × V × Nat)} {ces : List MapEntry} {r : Option (Nat × V × Nat)}
    (he : entriesRel m es ces) (hf : findKey ks k es 0 = some r) : ∃ r', (Instr.findKey kt x ces).run P w = .ok r' w ∧ FoundAt m es 0 r r' := by
  obtain ⟨i, hi, _⟩ := ksM_key hT hk
  obtain ⟨info, d, F⟩ := hT.facts hi
  obtain ⟨r', h1, h2⟩ := findAsking_run hT hk hx w 0 he hf
  refine ⟨r', ?_, h2⟩
  simp only [Instr.findKey, Sem.run_bind, run_underlying F.und, Result.andThen_ok]
  split
  · next r0 hr0 =>
    have := findNow_asking F.und x w ces 0 r0 hr0
    rw [h1] at this
    cases this
    rfl
  · exact h1

end
end Am
