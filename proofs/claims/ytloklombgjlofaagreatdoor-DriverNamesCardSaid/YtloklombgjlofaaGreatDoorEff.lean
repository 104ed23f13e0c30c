/- Instructions that turn memory: stores, maps. -/
import Derived.Test.YtloklombgjlofaaGreatDoorMake
namespace Am
open Go

section
variable {P : Program} {C : Cx} {N : Nat} {m : Mp} {h h' : H} {w : World} {e : Env} {t : Array Value} {o : Oper} {v : V} {call : Am.Call}

/-- What is to be shown of an instruction that turns memory. -/
def Eff (P : Program) (C : Cx) (N : Nat) (m : Mp) (h : H) (w : World) (t : Array Value) (o : Oper) (v : V) (h' : H) : Prop :=
  ∃ m' w', Step P C N m h w m' h' w' ∧ ((∃ x, (execOp (evT t) o).run P w = .ok (.value x) w' ∧ VRel m' v x) ∨ ((execOp (evT t) o).run P w = .ok .skip w' ∧ v = .undef))

theorem eff_store (hT : TOk P C) (hG : GOk C m) (hr : HRel P C m h w) (he : ERel m e t) {n : Nat} {a x : Opd} {a' x' : Operand} {ty : TypeId} (ho : o.op = .store ty a' x') (hs : sizeM C ty n = true)
    (ha : opdM C a a' = true) (hx : opdM C x x' = true) (hv : I.eff call e h (.store n a x) = some (v, h')) : Eff P C N m h w t o v h' := by
  simp only [I.eff] at hv
  split at hv
  · next b off u h1 h2 =>
    simp only [cond_eq_ite, beq_iff_eq] at hv
    split at hv
    · next hn =>
      split at hv
      · next h1' hst =>
        cases hv
        obtain ⟨l, hl, e1⟩ := opd_sound (t := t) hG he ha h1
        have hu := opd_sound (t := t) hG he hx h2
        obtain ⟨w', h3, h4⟩ := store_run (N := N) hr hst hl hu.cells
        refine ⟨m, w', h4, .inr ⟨?_, rfl⟩⟩
        have hlen : (evT t x').cells.size = n := by have := hu.cells.length; simp at this; omega
        simp only [execOp, ho, Sem.run_bind, Instr.storeAt, e1, Instr.sureAddr, Sem.run_pure, Result.andThen_ok, storeVar, sizeM_run hT hs]
        rw [if_neg (by simp [hlen])]
        simp [h3]
      · cases hv
    · cases hv
  · cases hv

theorem run_setObj_map {r c : Nat} {ces : Array MapEntry} (hb : w.heap[r]? = some (.map ces c)) (ob : Go.Obj) : (setObj r ob).run P w = .ok () { w with heap := w.heap.setIfInBounds r ob } := by
  simp [setObj, Sem.run, hb]

theorem entriesRel.set : ∀ {es : List (V × V × Nat)} {ces : List MapEntry} {k v : V} {b : Nat} {ce : MapEntry} (i : Nat), entriesRel m es ces → VRel m k ce.key → VRel m v ce.val → ce.born = b → entriesRel m (es.set i (k, v, b)) (ces.set i ce)
  | [], _, _, _, _, _, _, h, _, _, _ => by rw [show _ = [] from h]; simp [entriesRel]
  | (_, _, _) :: es, _, k, v, b, ce, 0, ⟨c0, s, e, h1, h2, h3, h4⟩, g1, g2, g3 => by
    subst e; exact ⟨ce, s, rfl, g1, g2, g3, h4⟩
  | (_, _, _) :: es, _, k, v, b, ce, i + 1, ⟨c0, s, e, h1, h2, h3, h4⟩, g1, g2, g3 => by
    subst e; exact ⟨c0, _, rfl, h1, h2, h3, entriesRel.set i h4 g1 g2 g3⟩

theorem entriesRel.snoc : ∀ {es : List (V × V × Nat)} {ces : List MapEntry} {k v : V} {b : Nat} {ce : MapEntry}, entriesRel m es ces → VRel m k ce.key → VRel m v ce.val → ce.born = b → entriesRel m (es ++ [(k, v, b)]) (ces ++ [ce])
  | [], _, _, _, _, _, h, g1, g2, g3 => by rw [show _ = [] from h]; exact ⟨_, _, rfl, g1, g2, g3, rfl⟩
  | (_, _, _) :: es, _, k, v, b, ce, ⟨c0, s, e, h1, h2, h3, h4⟩, g1, g2, g3 => by
    subst e; exact ⟨c0, _, rfl, h1, h2, h3, entriesRel.snoc h4 g1 g2 g3⟩

theorem entriesRel.get : ∀ {es : List (V × V × Nat)} {ces : List MapEntry} {k v : V} {b : Nat} {i : Nat}, entriesRel m es ces → es[i]? = some (k, v, b) → ∃ ce, ces[i]? = some ce ∧ VRel m k ce.key ∧ VRel m v ce.val ∧ ce.born = b
  | [], _, _, _, _, _, _, hi => by simp at hi
  | (_, _, _) :: es, _, k, v, b, 0, ⟨c0, s, e, h1, h2, h3, h4⟩, hi => by
    subst e; simp at hi; obtain ⟨rfl, rfl, rfl⟩ := hi; exact ⟨c0, rfl, h1, h2, h3⟩
  | (_, _, _) :: es, _, k, v, b, i + 1, ⟨c0, s, e, h1, h2, h3, h4⟩, hi => by
    subst e; simpa using entriesRel.get h4 (by simpa using hi)

theorem entriesRel.erase : ∀ {es : List (V × V × Nat)} {ces : List MapEntry} (i : Nat), entriesRel m es ces → entriesRel m (es.eraseIdx i) (ces.eraseIdx i)
  | [], _, _, h => by rw [show _ = [] from h]; simp [entriesRel]
  | (_, _, _) :: es, _, 0, ⟨c0, s, e, h1, h2, h3, h4⟩ => by subst e; exact h4
  | (_, _, _) :: es, _, i + 1, ⟨c0, s, e, h1, h2, h3, h4⟩ => by subst e; exact ⟨c0, _, rfl, h1, h2, h3, entriesRel.erase i h4⟩

/-- A map that turns. -/
theorem map_step (hr : HRel P C m h w) {r c c' : Nat} {es es' : List (V × V × Nat)} {ces ces' : Array MapEntry} {l : Loc} (hg : h.get r = some (.map es c)) (hl : m r = some l) (hb : w.heap[l.β]? = some (.map ces c))
    (hrel : entriesRel m es' ces'.toList) : Step P C N m h w m (h.set r (.map es' c')) { w with heap := w.heap.setIfInBounds l.β (.map ces' c') } := by
  have hlt : l.β < w.heap.size := hr.lt hg hl
  refine step_set hr hg rfl rfl hl hb (H.get_set h r · _) rfl (by simp) (by simp [hlt]) (fun j hj => ?_) ⟨rfl, rfl, rfl⟩ ⟨ces', rfl, hrel⟩ (fun L hL => by cases hL)
  simp only [Array.getElem?_setIfInBounds]
  rw [if_neg (fun e => hj e.symm)]

theorem leafEq_same {lk : LK} {a b : V} {x y : Value} (ha : VRel m a x) (hb : VRel m b y) (h : leafEq lk a b = some true) (n : Nat) : Instr.sameBits n y x = true := by
  unfold leafEq at h
  split at h
  · simp at h; rw [show x = _ from ha, show y = _ from hb]; cases n <;> simp [Instr.sameBits, h]
  · simp only [cond_eq_ite, Bool.and_eq_true, beq_iff_eq] at h
    split at h
    · next hk =>
      simp at h
      obtain ⟨rfl, rfl⟩ := hk
      rw [show x = _ from ha, show y = _ from hb]; cases n <;> simp [Instr.sameBits, h]
    · cases h
  · simp at h
    subst h
    rw [show x = _ from ha, show y = _ from hb]
    have hr : ∀ b : ByteArray, (b == b) = true := fun b => by rw [beq_toListBytes]; simp
    cases n <;> exact hr _
  · cases h

theorem cellsEq_same : ∀ {sh : List LK} {a b : List V} {x y : List Value}, VRels m a x → VRels m b y → cellsEq sh a b = some true → ∀ n, (y.zip x).all (fun p => Instr.sameBits n p.1 p.2) = true ∧ x.length = y.length
  | [], [], [], x, y, ha, hb, _, n => by rw [show x = [] from ha, show y = [] from hb]; simp
  | [], [], _ :: _, _, _, _, _, h, _ => by simp [cellsEq] at h
  | [], _ :: _, _, _, _, _, _, h, _ => by simp [cellsEq] at h
  | _ :: _, [], _, _, _, _, _, h, _ => by simp [cellsEq] at h
  | _ :: _, _ :: _, [], _, _, _, _, h, _ => by simp [cellsEq] at h
  | k :: sh, a :: as, b :: bs, x, y, ⟨x0, xs, e1, h1, h2⟩, ⟨y0, ys, e2, h3, h4⟩, h, n => by
    subst e1 e2
    simp only [cellsEq] at h
    split at h
    · next u1 u2 g1 g2 =>
      simp at h
      obtain ⟨rfl, rfl⟩ := h
      obtain ⟨q1, q2⟩ := cellsEq_same h2 h4 g2 n
      simp [leafEq_same h1 h3 g1 n, q2]
      simpa using q1
    · cases h

theorem keyEq_same {ks : KS} {a b : V} {x y : Value} (ha : VRel m a x) (hb : VRel m b y) (h : keyEq ks a b = some true) : Instr.sameBits 10000 y x = true := by
  unfold keyEq at h
  split at h
  · exact leafEq_same ha hb h _
  · next sh as bs =>
    obtain ⟨xs, rfl, h1⟩ := ha
    obtain ⟨ys, rfl, h2⟩ := hb
    obtain ⟨q1, q2⟩ := cellsEq_same h1 h2 h 9999
    simp at q2
    show (ys.size == xs.size && (ys.toList.zip xs.toList).all fun (p : Value × Value) => Instr.sameBits 9999 p.1 p.2) = true
    simp only [Bool.and_eq_true]
    exact ⟨by simp [q2], q1⟩
  · cases h

theorem findKey_key {ks : KS} {k : V} : ∀ {es : List (V × V × Nat)} {i j : Nat} {v : V} {b : Nat}, findKey ks k es i = some (some (j, v, b)) → i ≤ j ∧ ∃ key, es[j - i]? = some (key, v, b) ∧ keyEq ks k key = some true
  | [], i, j, v, b, h => by simp [findKey] at h
  | (x, u, born) :: r, i, j, v, b, h => by
    simp only [findKey] at h
    split at h
    · next hq => cases h; exact ⟨Nat.le_refl _, x, by simp, hq⟩
    · obtain ⟨h1, key, h2, h3⟩ := findKey_key h
      refine ⟨by omega, key, ?_, h3⟩
      rw [show j - i = (j - (i + 1)) + 1 by omega]; simpa using h2
    · cases h

theorem modify_set {ces : Array MapEntry} {i : Nat} {ce : MapEntry} (hi : ces.toList[i]? = some ce) (f : MapEntry → MapEntry) : (ces.modify i f).toList = ces.toList.set i (f ce) := by
  rw [Array.toList_modify]
  apply List.ext_getElem?
  intro k
  rw [List.getElem?_modify, List.getElem?_set]
  by_cases h : i = k
  · subst h
    have : i < ces.toList.length := by
      rcases Nat.lt_or_ge i ces.toList.length with hlt | hge
      · exact hlt
      · rw [List.getElem?_eq_none hge] at hi; cases hi
    have h2 : i < ces.size := by simpa using this
    have h3 : ces[i]? = some ce := by rw [← hi]; simp
    have h4 : ces[i] = ce := by rw [Array.getElem?_eq_getElem h2] at h3; simpa using h3
    simp [h2, h4]
  · simp [h]

theorem eff_mput (hT : TOk P C) (hG : GOk C m) (hr : HRel P C m h w) (he : ERel m e t) {ks : KS} {a k x : Opd} {a' k' x' : Operand} {ty : TypeId} (ho : o.op = .mapUpdate ty a' k' x' ∨ o.op = .insert ty a' k' x')
    (ha : opdM C a a' = true) (hk : opdM C k k' = true) (hx : opdM C x x' = true) (hu : isU C ty (fun | .map kt _ => ksM C ks kt | _ => false) = true)
    (hv : I.eff call e h (.mput ks a k x) = some (v, h')) : Eff P C N m h w t o v h' := by
  obtain ⟨kt, et, hks, h2⟩ := mapT_und hT hu (fun u hf => by cases u <;> simp at hf; exact ⟨_, _, rfl⟩)
  dsimp only at hks
  simp only [I.eff] at hv
  split at hv
  · next r kv xv g1 g2 g3 =>
    obtain ⟨l, hl, e1⟩ := opd_sound (t := t) hG he ha g1
    have hkv := opd_sound (t := t) hG he hk g2
    have hxv := opd_sound (t := t) hG he hx g3
    split at hv
    · next es cl hm =>
      obtain ⟨hg, ces, h7, h8⟩ := map_obj hr hm hl
      have run : ∀ w', (Instr.mapUpdate ty (evT t a') (evT t k') (evT t x')).run P w = .ok () w' → (execOp (evT t) o).run P w = .ok .skip w' := by
        intro w' hw
        rcases ho with ho | ho <;> simp only [execOp, ho, Sem.run_bind, hw, Result.andThen_ok, Sem.run_pure]
      split at hv
      · next j u b hf =>
        cases hv
        obtain ⟨hc, r', h3, h4⟩ := findK_run hT hks hkv w h8 hf
        obtain ⟨_, ⟨key, hkey⟩, y, rfl, hy⟩ := h4
        have hf' : findKey ks kv es 0 = some (some (j, u, b)) := by
          unfold findK at hf; simp only [cond_eq_ite] at hf; split at hf
          · exact hf
          · cases hf
        obtain ⟨_, key', hkey', hq⟩ := findKey_key hf'
        simp only [Nat.sub_zero] at hkey' hkey
        obtain ⟨ce, h9, h10, h11, h12⟩ := h8.get hkey'
        have hce : ces[j]? = some ce := by rw [← h9]; simp
        refine ⟨m, _, map_step (ces' := ces.modify j fun e => { e with key := evT t k', val := evT t x' }) hr hg hl h7 ?_, .inr ⟨run _ ?_, rfl⟩⟩
        · rw [modify_set h9]
          exact h8.set j hkv hxv h12
        · simp only [Instr.mapUpdate, Sem.run_bind, run_underlying h2, Result.andThen_ok, e1, run_getObj_map h7, hc, h3, Instr.keyThatStays, hce, Option.map_some, Option.getD_some, keyEq_same hkv h10 hq, if_true, Sem.run_pure, run_setObj_map h7]
      · next hf =>
        cases hv
        obtain ⟨hc, r', h3, h4⟩ := findK_run hT hks hkv w h8 hf
        have h4' : r' = none := h4
        subst h4'
        refine ⟨m, _, map_step (ces' := ces.push { key := evT t k', val := evT t x', born := cl }) hr hg hl h7 ?_, .inr ⟨run _ ?_, rfl⟩⟩
        · rw [Array.toList_push]
          exact h8.snoc hkv hxv rfl
        · simp only [Instr.mapUpdate, Sem.run_bind, run_underlying h2, Result.andThen_ok, e1, run_getObj_map h7, hc, h3, run_setObj_map h7]
      · cases hv
    · cases hv
  · cases hv

theorem eff_mentry (hT : TOk P C) (hG : GOk C m) (hr : HRel P C m h w) (he : ERel m e t) {ks : KS} {z : V} {a k : Opd} {a' k' : Operand} {ty : TypeId} (ho : o.op = .mapEntry ty a' k')
    (ha : opdM C a a' = true) (hk : opdM C k k' = true) (hu : isU C ty (fun | .map kt e => zeroM C e z && ksM C ks kt | _ => false) = true)
    (hv : I.eff call e h (.mentry ks z a k) = some (v, h')) : Eff P C N m h w t o v h' := by
  obtain ⟨kt, et, h1, h2⟩ := mapT_und hT hu (fun u hf => by cases u <;> simp at hf; exact ⟨_, _, rfl⟩)
  simp only [Bool.and_eq_true] at h1
  obtain ⟨hz, hks⟩ := h1
  obtain ⟨zv, hz1, hz2⟩ := zeroM_run hT hz m
  simp only [I.eff] at hv
  split at hv
  · next r kv g1 g2 =>
    obtain ⟨l, hl, e1⟩ := opd_sound (t := t) hG he ha g1
    have hkv := opd_sound (t := t) hG he hk g2
    split at hv
    · next es cl hm =>
      obtain ⟨hg, ces, h7, h8⟩ := map_obj hr hm hl
      split at hv
      · next j u b hf =>
        cases hv
        obtain ⟨hc, r', h3, h4⟩ := findK_run hT hks hkv w h8 hf
        obtain ⟨_, ⟨key, hkey⟩, y, rfl, hy⟩ := h4
        have hf' : findKey ks kv es 0 = some (some (j, u, b)) := by
          unfold findK at hf; simp only [cond_eq_ite] at hf; split at hf
          · exact hf
          · cases hf
        obtain ⟨_, key', hkey', hq⟩ := findKey_key hf'
        simp only [Nat.sub_zero] at hkey' hkey
        obtain ⟨ce, h9, h10, h11, h12⟩ := h8.get hkey'
        have hce : ces[j]? = some ce := by rw [← h9]; simp
        refine ⟨m, _, map_step (ces' := ces.modify j fun e => { e with key := evT t k' }) hr hg hl h7 ?_, .inl ⟨.tuple #[y, goInt b], ?_, _, rfl, _, _, rfl, hy, _, _, rfl, rfl, rfl⟩⟩
        · rw [modify_set h9]
          exact h8.set j hkv h11 h12
        · simp only [execOp, ho, Instr.mapEntry, Sem.run_bind, run_underlying h2, Result.andThen_ok, e1, run_getObj_map h7, hc, h3, Instr.keyThatStays, hce, Option.map_some, Option.getD_some, keyEq_same hkv h10 hq, if_true, Sem.run_pure, run_setObj_map h7, h12]
      · next hf =>
        cases hv
        obtain ⟨hc, r', h3, h4⟩ := findK_run hT hks hkv w h8 hf
        have h4' : r' = none := h4
        subst h4'
        refine ⟨m, _, map_step (ces' := ces.push { key := evT t k', val := zv, born := cl }) hr hg hl h7 ?_, .inl ⟨.tuple #[zv, goInt cl], ?_, _, rfl, _, _, rfl, hz2, _, _, rfl, rfl, rfl⟩⟩
        · rw [Array.toList_push]
          exact h8.snoc hkv hz2 rfl
        · simp only [execOp, ho, Instr.mapEntry, Sem.run_bind, run_underlying h2, Result.andThen_ok, e1, run_getObj_map h7, hc, h3, hz1, run_setObj_map h7, Sem.run_pure]
      · cases hv
    · cases hv
  · cases hv

theorem findIdx_rel (st : Int) : ∀ {es : List (V × V × Nat)} {ces : List MapEntry}, entriesRel m es ces → ces.findIdx? (fun c => (c.born : Int) == st) = es.findIdx? (fun x => (x.2.2 : Int) == st)
  | [], _, h => by rw [show _ = [] from h]; rfl
  | (_, _, b) :: es, _, ⟨c0, s, e, h1, h2, h3, h4⟩ => by
    subst e
    simp only [List.findIdx?_cons, h3, findIdx_rel st h4]

theorem eff_mestore (hG : GOk C m) (hr : HRel P C m h w) (he : ERel m e t) {a s x : Opd} {a' s' x' : Operand} {ty : TypeId} (ho : o.op = .entryStore ty a' s' x')
    (ha : opdM C a a' = true) (hs : opdM C s s' = true) (hx : opdM C x x' = true) (hv : I.eff call e h (.mestore a s x) = some (v, h')) : Eff P C N m h w t o v h' := by
  simp only [I.eff] at hv
  split at hv
  · next r ik st xv g1 g2 g3 =>
    obtain ⟨l, hl, e1⟩ := opd_sound (t := t) hG he ha g1
    have e2 : evT t s' = .int ik st := opd_sound hG he hs g2
    have hxv := opd_sound (t := t) hG he hx g3
    split at hv
    · next es cl hm =>
      obtain ⟨hg, ces, h7, h8⟩ := map_obj hr hm hl
      split at hv
      · next i hi =>
        split at hv
        · next q hq =>
          cases hv
          obtain ⟨k0, v0, b0⟩ := q
          obtain ⟨ce, h9, h10, h11, h12⟩ := h8.get hq
          have hfi : ces.findIdx? (fun c => (c.born : Int) == st) = some i := by
            rw [← hi, ← findIdx_rel st h8]; cases ces; simp
          refine ⟨m, _, map_step (ces' := ces.modify i fun e => { e with val := evT t x' }) hr hg hl h7 ?_, .inr ⟨?_, rfl⟩⟩
          · rw [modify_set h9]
            exact h8.set i h10 hxv h12
          · simp only [execOp, ho, Instr.entryStore, Sem.run_bind, e1, run_getObj_map h7, Result.andThen_ok, e2, Go.asInt, asIntOf, Sem.run_pure, hfi, run_setObj_map h7]
        · cases hv
      · cases hv
    · cases hv
  · cases hv

/-- A builtin of two arguments. -/
theorem two_args (hG : GOk C m) (he : ERel m e t) {a b : Opd} {c : Go.Call} (hx : opdsM C [a, b] c.args.toList = true) {u z : V} (hu : a.ev e = some u) (hz : b.ev e = some z) :
    ∃ x y, (c.args.map (evT t))[0]? = some x ∧ (c.args.map (evT t))[1]? = some y ∧ VRel m u x ∧ VRel m z y := by
  obtain ⟨a', b', hargs, ha, hb⟩ : ∃ a' b', c.args.toList = [a', b'] ∧ opdM C a a' = true ∧ opdM C b b' = true := by
    match hq : c.args.toList, hx with
    | [a', b'], hx => simp [opdsM] at hx; exact ⟨a', b', rfl, hx.1, hx.2⟩
    | [], hx => simp [opdsM] at hx
    | [_], hx => simp [opdsM] at hx
    | _ :: _ :: _ :: _, hx => simp [opdsM] at hx
  have : (c.args.map (evT t)).toList = [evT t a', evT t b'] := by simp [hargs]
  refine ⟨evT t a', evT t b', ?_, ?_, opd_sound hG he ha hu, opd_sound hG he hb hz⟩
  · rw [← Array.getElem?_toList, this]; rfl
  · rw [← Array.getElem?_toList, this]; rfl

theorem eff_mdel (hT : TOk P C) (hG : GOk C m) (hr : HRel P C m h w) (he : ERel m e t) {ks : KS} {a k : Opd} {c : Go.Call} (ho : o.op = .call c) (hc : c.callee = .builtin .delete) (hx : opdsM C [a, k] c.args.toList = true)
    (hA : argT C c.argTypes 0 (fun | .map kt _ => ksM C ks kt | _ => false) = true) (hv : I.eff call e h (.mdel ks a k) = some (v, h')) : Eff P C N m h w t o v h' := by
  obtain ⟨ty, u, dd, h1, h2, h3, h4⟩ := argT_und hT hA
  cases u <;> simp at h2
  cases dd <;> simp [udMatch] at h4
  obtain ⟨rfl, rfl⟩ := h4
  have run : ∀ w', (Builtin.delete_ c.argTypes o.type (c.args.map (evT t))).run P w = .ok (.tuple #[]) w' → (execOp (evT t) o).run P w = .ok (.value (.tuple #[])) w' := by
    intro w' hw
    simp only [execOp, ho, Sem.run_bind, resolve, hc, Result.andThen_ok, Sem.run_pure, invoke, builtin, hw]
  simp only [I.eff] at hv
  split at hv
  · next kv g1 g2 =>
    obtain ⟨x, y, h5, h6, h7, h8⟩ := two_args (t := t) hG he hx g1 g2
    rw [show x = .map none from h7] at h5
    split at hv
    · next r hf =>
      cases hv
      obtain ⟨hck, _⟩ := findK_run hT h2 h8 w (es := []) (ces := []) rfl hf
      refine ⟨m, w, Step.refl N hr, .inl ⟨.tuple #[], run _ ?_, #[], rfl, rfl⟩⟩
      simp only [Builtin.delete_, h1, h5, h6, Sem.run_bind, run_underlying h3, Result.andThen_ok, hck, Sem.run_pure]
    · cases hv
  · next r kv g1 g2 =>
    obtain ⟨x, y, h5, h6, ⟨l, hl, rfl⟩, h8⟩ := two_args (t := t) hG he hx g1 g2
    split at hv
    · next es cl hm =>
      obtain ⟨hg, ces, h9, h10⟩ := map_obj hr hm hl
      split at hv
      · next j uu b hf =>
        cases hv
        obtain ⟨hck, r', h11, h12⟩ := findK_run hT h2 h8 w h10 hf
        obtain ⟨_, _, z, rfl, hz⟩ := h12
        refine ⟨m, _, map_step (ces' := ces.eraseIdxIfInBounds j) (c' := cl) hr hg hl h9 ?_, .inl ⟨.tuple #[], run _ ?_, #[], rfl, rfl⟩⟩
        · rw [Array.toList_eraseIdxIfInBounds]
          exact h10.erase j
        · simp only [Builtin.delete_, h1, h5, h6, Sem.run_bind, run_underlying h3, Result.andThen_ok, run_getObj_map h9, hck, h11, run_setObj_map h9, Sem.run_pure]
      · next hf =>
        cases hv
        obtain ⟨hck, r', h11, h12⟩ := findK_run hT h2 h8 w h10 hf
        have h4' : r' = none := h12
        subst h4'
        have hset : { w with heap := w.heap.setIfInBounds l.β (Go.Obj.map ces cl) } = w := by
          have : w.heap.setIfInBounds l.β (Go.Obj.map ces cl) = w.heap := by
            apply Array.ext_getElem?
            intro k
            rw [Array.getElem?_setIfInBounds]
            split
            · next e =>
              subst e; split
              · exact h9.symm
              · next hlt => rw [Array.getElem?_eq_none (by omega)]
            · rfl
          rw [this]
        refine ⟨m, w, Step.refl N hr, .inl ⟨.tuple #[], run _ ?_, #[], rfl, rfl⟩⟩
        simp only [Builtin.delete_, h1, h5, h6, Sem.run_bind, run_underlying h3, Result.andThen_ok, run_getObj_map h9, hck, h11, run_setObj_map h9, Sem.run_pure, hset]
      · cases hv
    · cases hv
  · cases hv

end
end Am
