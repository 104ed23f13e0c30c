/- Instructions that make one block. -/
import Derived.Test.YtloklombgjlofaaGreatDoorMaps
import Derived.IntWalk
namespace Am
open Go

section
variable {P : Program} {C : Cx} {m : Mp} {h : H} {w : World} {e : Env} {t : Array Value} {o : Oper} {v : V}

/-- What is to be shown of an instruction that makes a block. -/
def Makes (P : Program) (C : Cx) (m : Mp) (t : Array Value) (o : Oper) (ob : Obj) (mk : Nat → V) (w : World) : Prop :=
  ∃ co x w' ext, (execOp (evT t) o).run P w = .ok (.value x) w' ∧ w'.heap = w.heap.push co ∧ WSame w w' ∧
    ∀ id, m id = none → ORel P C (m.add id ⟨w.heap.size, 0, ext⟩) ⟨w.heap.size, 0, ext⟩ ob co ∧ VRel (m.add id ⟨w.heap.size, 0, ext⟩) (mk id) x

theorem row_rel {l : List V} {xs : Array Value} (hl : VRels m l xs.toList) (id : Nat) (hid : m id = none) (el : TypeId) (β : Nat) (fz : Nat × Nat) (hf : fz.1 = fz.2 ∨ l.length ≤ fz.1) :
    ORel P C (m.add id ⟨β, 0, l.length⟩) ⟨β, 0, l.length⟩ (.cells l false) (.cells xs el fz) := by
  refine ⟨xs, el, fz.1, fz.2, rfl, Nat.le_refl _, ?_, ?_, ?_⟩
  · have := hl.length; simp at this; simp; omega
  · intro k v hv
    obtain ⟨x, hx, hvx⟩ := hl.get hv
    exact ⟨x, by simpa using hx, hvx.mono (Mp.add_mono hid)⟩
  · intro _; simpa using hf

theorem make_alloc (hT : TOk P C) {sz : Nat} {z : List V} {ty : TypeId} (ho : o.op = .alloc ty) (hz : zcellsM C ty z = true) : Makes P C m t o (.cells z false) (fun b => .ptr (some (b, 0))) w := by
  obtain ⟨zv, h1, h2⟩ := zcellsM_run hT hz m
  refine ⟨.cells zv.cells ty (0, 0), .pointer (some ⟨w.heap.size, 0, none⟩), { w with heap := w.heap.push (.cells zv.cells ty (0, 0)) }, z.length, ?_, rfl, ⟨rfl, rfl, rfl⟩, ?_⟩
  · simp [execOp, ho, Instr.alloc, h1, newVar, Go.newRow]
  · intro id hid
    exact ⟨row_rel h2 id hid ty _ (0, 0) (.inl rfl), _, Mp.add_self _ _, by simp⟩

theorem make_box (hG : GOk C m) (he : ERel m e t) {sz : Nat} {x : Opd} {x' : Operand} {ty : TypeId} (ho : o.op = .box ty x') (hx : opdM C x x' = true) {ob : Obj} {mk : Nat → V}
    (hr : I.make e (.box sz x) = some (ob, mk)) : Makes P C m t o ob mk w := by
  simp only [I.make] at hr
  split at hr
  · next u hu =>
    cases hr
    have H := (opd_sound (t := t) hG he hx hu).cells
    refine ⟨.cells (evT t x').cells ty (0, 0), .pointer (some ⟨w.heap.size, 0, none⟩), { w with heap := w.heap.push (.cells (evT t x').cells ty (0, 0)) }, u.cells.length, ?_, rfl, ⟨rfl, rfl, rfl⟩, ?_⟩
    · simp [execOp, ho, Instr.box, newVar, Go.newRow]
    · intro id hid
      exact ⟨row_rel H id hid ty _ (0, 0) (.inl rfl), _, Mp.add_self _ _, by simp⟩
  · cases hr

theorem flat_get {α : Type} (l : List α) : ∀ (c k : Nat), (List.replicate c l).flatten[k]? = if k < c * l.length then l[k % l.length]? else none
  | 0, k => by simp
  | c + 1, k => by
    rw [List.replicate_succ, List.flatten_cons, List.getElem?_append]
    by_cases h : k < l.length
    · rw [if_pos h, if_pos (by rw [Nat.add_mul]; omega), Nat.mod_eq_of_lt h]
    · rw [if_neg h, flat_get l c (k - l.length)]
      have : (k - l.length) % l.length = k % l.length := by rw [← Nat.mod_eq_sub_mod (by omega)]
      rw [this]
      by_cases h2 : k - l.length < c * l.length
      · rw [if_pos h2, if_pos (by rw [Nat.add_mul]; omega)]
      · rw [if_neg h2, if_neg (by rw [Nat.add_mul]; omega)]

theorem rows_flat (z : Array Value) (c : Nat) : ((Array.range (c * z.size)).map fun i => z[i % z.size]!).toList = (List.replicate c z.toList).flatten := by
  apply List.ext_getElem?
  intro k
  rw [flat_get]
  simp only [Array.toList_map, Array.toList_range, List.getElem?_map, Array.length_toList]
  by_cases h : k < c * z.size
  · rw [if_pos h, List.getElem?_range h]
    have hz : k % z.size < z.size := Nat.mod_lt _ (by rcases Nat.eq_zero_or_pos z.size with h0 | h0; (rw [h0] at h; simp at h); exact h0)
    simp [hz]
  · rw [if_neg h]
    simp; omega

theorem VRels.flat {l : List V} {xs : List Value} (h : VRels m l xs) : ∀ c, VRels m (List.replicate c l).flatten (List.replicate c xs).flatten
  | 0 => rfl
  | c + 1 => by
    rw [List.replicate_succ, List.flatten_cons, List.replicate_succ, List.flatten_cons]
    exact h.append (VRels.flat h c)

theorem make_mkMap {ty : TypeId} (ho : o.op = .makeMap ty none) : Makes P C m t o (.map [] 0) (fun b => .map (some b)) w := by
  refine ⟨.map #[] 0, .map (some w.heap.size), { w with heap := w.heap.push (.map #[] 0) }, 0, ?_, rfl, ⟨rfl, rfl, rfl⟩, ?_⟩
  · simp [execOp, ho, Instr.makeMap]
  · intro id hid
    exact ⟨⟨#[], rfl, rfl⟩, _, Mp.add_self _ _, rfl⟩

theorem sizes_eq (hT : TOk P C) {ty : TypeId} {n : Nat} {info : TypeInfo} (h : sizeM C ty n = true) (hi : P.info? ty = some info) : info.size = n := by
  obtain ⟨info', h1, h2⟩ := sizeM_info hT h
  rw [hi] at h1; cases h1; exact h2

theorem i64_small {n : Int} (h0 : 0 ≤ n) (h1 : n ≤ 2 ^ 46) : IntKind.i64.wrap n = n := by
  exact IntWalk.i64_in n (by omega)

theorem make_mkSlice (hT : TOk P C) (hG : GOk C m) (he : ERel m e t) {sz bytes : Nat} {z : List V} {l c : Opd} {l' c' : Operand} {ty : TypeId} (ho : o.op = .makeSlice ty l' c') (hl : opdM C l l' = true) (hc : opdM C c c' = true)
    (hu : isU C ty (fun | .slice e => sizeM C e sz && bytesM C e bytes && zcellsM C e z && Nat.beq z.length sz | _ => false) = true) {ob : Obj} {mk : Nat → V}
    (hr : I.make e (.mkSlice sz bytes z l c) = some (ob, mk)) : Makes P C m t o ob mk w := by
  simp only [I.make] at hr
  split at hr
  · next k1 a k2 b h1 h2 =>
    simp only [cond_eq_ite, Bool.and_eq_true, Nat.ble_eq] at hr
    split at hr
    · next hb =>
      cases hr
      obtain ⟨⟨hab, hcb⟩, hc46⟩ := hb
      have e1 : evT t l' = .int k1 (Int.ofNat a) := opd_sound hG he hl h1
      have e2 : evT t c' = .int k2 (Int.ofNat b) := opd_sound hG he hc h2
      obtain ⟨u, dd, h3, h4, h5⟩ := isU_und hT hu
      cases u <;> simp at h3
      next el =>
      cases dd <;> simp [udMatch] at h5
      next el' =>
      subst h5
      obtain ⟨⟨⟨h6, h7⟩, h8⟩, h9⟩ := h3
      obtain ⟨zv, h10, h11⟩ := zcellsM_run hT h8 m
      obtain ⟨info, h12, h13⟩ := bytesM_info hT h7
      have hzs : zv.cells.size = sz := by have := h11.length; simp at this; omega
      have wa : IntKind.i64.wrap (Int.ofNat a) = (a : Int) := i64_small (by simp) (by simp only [Int.ofNat_eq_natCast]; omega)
      have wb : IntKind.i64.wrap (Int.ofNat b) = (b : Int) := i64_small (by simp) (by simp only [Int.ofNat_eq_natCast]; omega)
      have hrows := rows_flat zv.cells b
      rw [hzs] at hrows
      let cs : Array Value := if b * sz = 0 then #[] else (Array.range (b * sz)).map fun i => zv.cells[i % zv.cells.size]!
      have hcs : VRels m (List.replicate b z).flatten cs.toList := by
        have := h11.flat b
        show VRels m _ (if b * sz = 0 then (#[] : Array Value) else _).toList
        split
        · next h0 =>
          have hlen : (List.replicate b z).flatten.length = 0 := by simp; rw [← h9] at h0; simpa using h0
          rw [List.length_eq_zero_iff.1 hlen]; rfl
        · rw [hzs, hrows]; exact this
      refine ⟨.cells cs el (0, 0), .slice (some ⟨w.heap.size, 0, none⟩) a b, { w with heap := w.heap.push (.cells cs el (0, 0)) }, (List.replicate b z).flatten.length, ?_, rfl, ⟨rfl, rfl, rfl⟩, ?_⟩
      · have hbb : (info.bytes : Int) * (b : Int) = ((b * bytes : Nat) : Int) := by rw [h13, Nat.mul_comm]; simp
        have hbig : ¬ ((info.bytes : Int) * (b : Int) > 2 ^ 48) := by rw [hbb]; omega
        have hneg : ¬ ((b : Int) < 0) := by omega
        have hla : ¬ ((a : Int) < 0) := by omega
        have hab' : ¬ ((a : Int) > (b : Int)) := by omega
        simp only [execOp, ho, Sem.run_bind, Instr.makeSlice, run_underlying h4, Result.andThen_ok, e1, e2, Go.asInt, asIntOf, Sem.run_pure, typeInfo, run_program, h12, wa, wb]
        simp only [hneg, hbig, hla, hab', decide_false, Bool.or_false, Bool.false_eq_true, if_false, Sem.run_bind, run_askRoom, Result.andThen_ok, sizeM_run hT h6, Int.toNat_natCast]
        by_cases h0 : b * sz = 0
        · have hr0 : Array.range 0 = #[] := rfl
          simp [h0, cs, Go.newRow, hr0]
        · simp [h0, cs, Go.newRow, h10, hzs]
      · intro id hid
        refine ⟨row_rel hcs id hid el _ (0, 0) (.inl rfl), _, _, b, Mp.add_self _ _, rfl, hab, fun _ => rfl, fun k hk => by cases hk; rfl, fun q hq => by cases hq⟩
    · cases hr
  · cases hr

theorem parts_rel_idx (hG : GOk C m) (he : ERel m e t) {sz : Nat} : ∀ {ps : List (Nat × Opd)} {qs : List (Nat × Operand)} {vs : List (Nat × Nat × V)}, partsM C ps qs = true → evParts e (ps.map fun p => (p.1 * sz, sz, p.2)) = some vs →
    PartsRel m vs (qs.map fun p => (p.1, evT t p.2)) (fun i => some (i * sz, sz))
  | [], [], vs, _, h => by simp [evParts] at h; subst h; trivial
  | [], _ :: _, _, h, _ => by simp [partsM] at h
  | _ :: _, [], _, h, _ => by simp [partsM] at h
  | (i, x) :: r, (j, y) :: s, vs, h, hv => by
    simp only [partsM, Bool.and_eq_true, nbeq, decide_eq_true_eq] at h
    simp only [List.map_cons, evParts] at hv
    split at hv
    · next a l h1 h2 =>
      cases hv
      obtain ⟨⟨rfl, h3⟩, h4⟩ := h
      exact ⟨rfl, opd_sound hG he h3 h1, parts_rel_idx hG he h4 h2⟩
    · cases hv

theorem fillParts_length : ∀ {ps : List (Nat × Nat × V)} {l l' : List V}, fillParts l ps = some l' → l'.length = l.length
  | [], l, l', h => by simp [fillParts] at h; rw [h]
  | (off, n, u) :: r, l, l', h => by
    simp only [fillParts, cond_eq_ite] at h
    split at h
    · rw [fillParts_length h, setAll_length]
    · cases h

theorem make_bslice (hT : TOk P C) (hG : GOk C m) (he : ERel m e t) {sz ln n : Nat} {z : List V} {ps : List (Nat × Opd)} {qs : Array (Nat × Operand)} {ty : TypeId} (ho : o.op = .buildSlice ty n qs) (hn : ln = n)
    (hu : isU C ty (fun | .slice e => rowsM C e n sz z | _ => false) = true) (hp : partsM C ps qs.toList = true) (hbig : n * sz ≤ 2 ^ 24) {ob : Obj} {mk : Nat → V}
    (hr : I.make e (.bslice sz ln z ps) = some (ob, mk)) : Makes P C m t o ob mk w := by
  subst hn
  simp only [I.make] at hr
  split at hr
  · next vs h1 =>
    split at hr
    · next l h2 =>
      cases hr
      obtain ⟨u, dd, h3, h4, h5⟩ := isU_und hT hu
      cases u <;> simp at h3
      next el =>
      cases dd <;> simp [udMatch] at h5
      next el' =>
      subst h5
      unfold rowsM at h3
      simp only [Bool.and_eq_true, Bool.or_eq_true] at h3
      obtain ⟨h6, h7⟩ := h3
      -- the row of zeros
      have hrow : ∃ zs : Array Value, VRels m z zs.toList ∧ (do
          let zero ← if ln * sz = 0 then pure #[] else do pure (← zeroValue el).cells
          pure ((Array.range (ln * sz)).map (zero[· % zero.size]!)) : Sem (Array Value)).run P w = .ok zs w := by
        rcases h7 with h7 | h7
        · obtain ⟨h8, h9⟩ := h7
          have h8 := beq_iff.1 h8
          have : z = [] := by simpa using h9
          subst this
          exact ⟨#[], rfl, by simp [h8]⟩
        · split at h7
          · next i hi =>
            split at h7
            · next y hy =>
              simp only [Bool.and_eq_true] at h7
              obtain ⟨h8, h9⟩ := h7
              have h8 := beq_iff.1 h8
              obtain ⟨info, d, F⟩ := hT.facts hi
              obtain ⟨zv, g1, g2, g3⟩ := F.zero y hy
              have hz : ∀ w, (zeroValue el).run P w = .ok zv w := fun w => by simp [zeroValue, typeInfo, F.hinfo, g1]
              have hcells := (vMatch_rel m g2).cells
              have hzs : zv.cells.size = sz := by have := hcells.length; simp at this; omega
              rw [← V.sames_eq h9]
              have hrows := rows_flat zv.cells ln
              rw [hzs] at hrows
              by_cases h0 : ln * sz = 0
              · refine ⟨#[], ?_, by simp [h0]⟩
                have hlen : (List.replicate ln y.cells).flatten.length = 0 := by simp; rw [← h8] at h0; simpa using h0
                rw [List.length_eq_zero_iff.1 hlen]; rfl
              · refine ⟨(Array.range (ln * sz)).map fun i => zv.cells[i % zv.cells.size]!, ?_, by simp [h0, hz]⟩
                rw [hzs, hrows]; exact hcells.flat ln
            · cases h7
          · cases h7
      obtain ⟨zs, hz1, hz2⟩ := hrow
      have hrel := parts_rel_idx (t := t) hG he hp h1
      obtain ⟨ys, h8, h9⟩ := fill_sound hrel hz1 h2
      have hqs : (qs.map fun (i, x) => (i, evT t x)).toList = qs.toList.map fun p => (p.1, evT t p.2) := by simp
      refine ⟨.cells ys el (0, 0), .slice (some ⟨w.heap.size, 0, none⟩) ln ln, { w with heap := w.heap.push (.cells ys el (0, 0)) }, l.length, ?_, rfl, ⟨rfl, rfl, rfl⟩, ?_⟩
      · simp only [execOp, ho, Sem.run_bind, Instr.buildSlice, run_underlying h4, Result.andThen_ok, sizeM_run hT h6, Sem.run_ite]
        rw [if_neg (by omega)]
        by_cases h0 : ln * sz = 0
        · simp [h0] at hz2
          subst hz2
          simp [h0, h8, Go.newRow]
        · simp only [h0, if_false, Sem.run_bind] at hz2 ⊢
          cases hzv : (zeroValue el).run P w with
          | halt a b => rw [hzv] at hz2; simp at hz2
          | ok zv w1 =>
            rw [hzv] at hz2
            simp only [Result.andThen_ok, Sem.run_pure, Result.ok.injEq] at hz2
            obtain ⟨rfl, rfl⟩ := hz2
            simp only [Result.andThen_ok, Sem.run_pure, hqs, h8, Sem.run_bind, Go.newRow, run_newObj]
      · intro id hid
        refine ⟨row_rel h9 id hid el _ (0, 0) (.inl rfl), _, _, ln, Mp.add_self _ _, rfl, Nat.le_refl _, fun _ => rfl, fun k hk => by cases hk; rfl, fun q hq => by cases hq⟩
    · cases hr
  · cases hr

theorem freeze_push (w : World) (c : Array Value) (el : TypeId) (n : Nat) :
    ({ w with heap := w.heap.push (.cells c el (0, 0)) } : World).freeze ⟨w.heap.size, n, none⟩ 1 = { w with heap := w.heap.push (.cells c el (n, n + 1)) } := by
  unfold World.freeze
  rw [if_neg (by omega)]
  congr 1
  apply Array.ext'
  simp only [Array.toList_modify, Array.toList_push]
  apply List.ext_getElem?
  intro k
  rw [List.getElem?_modify, List.getElem?_append, List.getElem?_append]
  have hl : w.heap.toList.length = w.heap.size := by simp
  by_cases h : k < w.heap.toList.length
  · have hne : ¬ w.heap.size = k := by omega
    rw [if_pos h, if_pos h]; simp [hne]
  · rw [if_neg h, if_neg h]
    by_cases h2 : k = w.heap.size
    · subst h2; simp
    · have : k - w.heap.toList.length ≠ 0 := by omega
      cases hk : k - w.heap.toList.length with
      | zero => exact absurd hk this
      | succ j => simp

theorem make_toBytes (hT : TOk P C) (hG : GOk C m) (he : ERel m e t) {x : Opd} {x' : Operand} {s d : TypeId} (ho : o.op = .convert s d x') (hx : opdM C x x' = true) (hd : bytesT C d = true)
    (hs : isU C s (fun | .str => true | _ => false) = true) {ob : Obj} {mk : Nat → V} (hr : I.make e (.toBytes x) = some (ob, mk)) : Makes P C m t o ob mk w := by
  obtain ⟨el, hd1, hd2⟩ := bytesT_und hT hd
  obtain ⟨u, dd, h2, h3, h4⟩ := isU_und hT hs
  cases u <;> simp at h2
  cases dd <;> simp [udMatch] at h4
  simp only [I.make] at hr
  split at hr
  · next bs h1 =>
    simp only [cond_eq_ite, Nat.ble_eq] at hr
    split at hr
    · next hb =>
      cases hr
      have e1 : evT t x' = .string ⟨⟨bs⟩⟩ := opd_sound hG he hx h1
      let q : Question := .appendCap bs.length 0 el
      let cap := q.cut (w.tape w.drawn q)
      have hcap : bs.length ≤ cap := by show bs.length ≤ bs.length + _; omega
      let cs : Array Value := (⟨bs⟩ : Array UInt8).map (fun b => Value.int .u8 b.toNat) ++ Array.replicate (cap - bs.length) (.int .u8 0)
      have hsz : cs.size = cap := by simp [cs]; omega
      let w1 : World := { w with drawn := w.drawn + 1, heap := w.heap.push (.cells cs el (cap, cap + 1)) }
      refine ⟨.cells cs el (cap, cap + 1), .slice (some ⟨w.heap.size, 0, none⟩) bs.length cap, w1, cap, ?_, rfl, ⟨rfl, rfl, rfl⟩, ?_⟩
      · have hss : (ByteArray.mk ⟨bs⟩).size = bs.length := by simp [ByteArray.size]
        have hch : ∀ w : World, (choose (.appendCap bs.length 0 el)).run P w = .ok ((Question.appendCap bs.length 0 el).cut (w.tape w.drawn (.appendCap bs.length 0 el))) { w with drawn := w.drawn + 1 } := by
          intro w; simp [Question.forced]
        simp only [execOp, ho, Sem.run_bind, convert, run_underlying h3, run_underlying hd1, Result.andThen_ok, e1, run_underlying hd2, Conv.stringToBytes, hss, hch, Go.newRow, run_newObj, Sem.run_pure, markStringish, run_shape]
        have hshape : World.shape? { w with drawn := w.drawn + 1, heap := w.heap.push (.cells cs el (0, 0)) } w.heap.size = some (el, cs.size) := by
          simp [World.shape?]
        have hcs : ((ByteArray.mk ⟨bs⟩).data.map fun b => Value.int .u8 b.toNat) ++ Array.replicate (cap - bs.length) (.int .u8 0) = cs := rfl
        have hfr := freeze_push { w with drawn := w.drawn + 1 } cs el cap
        have hcap' : (Question.appendCap bs.length 0 el).cut (w.tape w.drawn (.appendCap bs.length 0 el)) = cap := rfl
        rw [hcap', hcs, hshape, hsz]
        simp only [run_freeze, Result.andThen_ok]
        rw [hfr]
      · intro id hid
        refine ⟨⟨cs, el, cap, cap + 1, rfl, by simpa using hcap, by simp [hsz], ?_, ?_⟩, _, _, cap, Mp.add_self _ _, rfl, hcap, fun _ => rfl, (fun k hk => by cases hk), fun q hq => by cases hq; simp⟩
        · intro k v hv
          rw [List.getElem?_map] at hv
          cases hk : bs[k]? with
          | none => rw [hk] at hv; cases hv
          | some b =>
            rw [hk] at hv; cases hv
            have hkl : k < bs.length := by
              rcases Nat.lt_or_ge k bs.length with hlt | hge
              · exact hlt
              · rw [List.getElem?_eq_none hge] at hk; cases hk
            refine ⟨.int .u8 b.toNat, ?_, rfl⟩
            simp only [Nat.zero_add, cs]
            rw [Array.getElem?_append, if_pos (by simpa using hkl)]
            simp [hk]
        · intro _
          exact .inr (by simp)
    · cases hr
  · cases hr

end
end Am
