/- append, copy, mark: the instructions. -/
import Derived.Test.YtloklombgjlofaaGreatDoorAppend
namespace Am
open Go

section
variable {P : Program} {C : Cx} {N : Nat} {m : Mp} {h h' : H} {w : World} {e : Env} {t : Array Value} {o : Oper} {v : V} {call : Am.Call}

theorem HRel.of_heap {w' : World} (hr : HRel P C m h w) (hw : w'.heap = w.heap) : HRel P C m h w' :=
  ⟨fun b o hb => let ⟨l, co, h1, h2, h3⟩ := hr.obj b o hb; ⟨l, co, h1, by rw [hw]; exact h2, h3⟩, hr.inj, hr.dom⟩

theorem HRel.nofuture (hr : HRel P C m h w) {b : Nat} (hb : h.nx ≤ b) : m b = none ∧ h.get b = none := by
  have h1 : m b = none := by
    cases e : m b with
    | none => rfl
    | some l => have := hr.dom b l e; omega
  refine ⟨h1, ?_⟩
  cases e : h.get b with
  | none => rfl
  | some o => obtain ⟨l, co, h2, _⟩ := hr.obj b o e; rw [h1] at h2; cases h2

theorem srcCells_length {h : H} {sz n k : Nat} {x : V} {l : List V} (hl : srcCells h sz n x = some l) (hk : lenOf x = some k) (hn : n ≤ k) (hx : ∀ c, x = .slice none k c → k = 0) : l.length = n * sz := by
  unfold srcCells at hl
  split at hl
  · cases hl; simp [lenOf] at hk; subst hk
    have := hx _ rfl
    subst this
    have : n = 0 := by omega
    simp [this]
  · simp only [cond_eq_ite, beq_iff_eq] at hl
    split at hl
    · next h0 => cases hl; simp [h0]
    · exact load_length hl
  · simp only [cond_eq_ite, beq_iff_eq] at hl
    split at hl
    · next h1 => cases hl; simp [lenOf] at hk; subst hk; simp [h1]; omega
    · cases hl
  · cases hl

theorem rest_row {l : List V} {xs rest : Array Value} (hl : VRels m l xs.toList) {id : Nat} (hid : m id = none) (el : TypeId) (β ext : Nat) (hext : ext = xs.size + rest.size) :
    ORel P C (m.add id ⟨β, 0, ext⟩) ⟨β, 0, ext⟩ (.cells l false) (.cells (xs ++ rest) el (0, 0)) := by
  have hlen := hl.length
  simp at hlen
  refine ⟨_, el, 0, 0, rfl, by simp; omega, by simp; omega, ?_, ?_⟩
  · intro k v hv
    obtain ⟨x, hx, hvx⟩ := hl.get hv
    have hk : k < xs.size := by
      rcases Nat.lt_or_ge k xs.toList.length with hlt | hge
      · simpa using hlt
      · rw [List.getElem?_eq_none hge] at hx; cases hx
    refine ⟨x, ?_, hvx.mono (Mp.add_mono hid)⟩
    simp only [Nat.zero_add]
    rw [Array.getElem?_append, if_pos hk, ← hx]; simp
  · intro _; exact .inl rfl

theorem eff_append (hT : TOk P C) (hG : GOk C m) (hr : HRel P C m h w) (he : ERel m e t) (hN : N ≤ h.nx) {sz bytes : Nat} {a b : Opd} {c : Go.Call} (ho : o.op = .call c) (hc : c.callee = .builtin .append) (hx : opdsM C [a, b] c.args.toList = true)
    (hni : notIntT C c.argTypes = true) (hE : elemOfM C c.argTypes (fun e => sizeM C e sz && bytesM C e bytes && !(Nat.beq bytes 0) && zsizeM C e sz) = true)
    (hv : I.eff call e h (.append sz bytes a b) = some (v, h')) : Eff P C N m h w t o v h' := by
  obtain ⟨ty, el, g0, gE, gu⟩ := elemOfM_und hT hE
  simp only [Bool.and_eq_true, Bool.not_eq_true', nbeq, decide_eq_false_iff_not] at gE
  obtain ⟨⟨⟨hsz, hby⟩, hb0⟩, hzs⟩ := gE
  have fin : ∀ x w', (Builtin.append_ c.argTypes o.type (c.args.map (evT t))).run P w = .ok x w' → (execOp (evT t) o).run P w = .ok (.value x) w' := by
    intro x w' hw
    simp only [execOp, ho, Sem.run_bind, resolve, hc, Result.andThen_ok, Sem.run_pure, invoke, builtin, hw]
  simp only [I.eff] at hv
  split at hv
  · next av bv g1 g2 =>
    obtain ⟨x, y, a0, a1, hxr, hyr⟩ := two_args (t := t) hG he hx g1 g2
    unfold appendV at hv
    split at hv
    · cases hv
    next n hn =>
    split at hv
    · cases hv
    next new hnew =>
    split at hv
    case h_2 => cases hv
    next base ln cap =>
    simp only [cond_eq_ite, Bool.and_eq_true, Nat.ble_eq] at hv
    split at hv
    case isFalse => cases hv
    next hbig =>
    obtain ⟨hbig, hbig2⟩ := hbig
    have hlen : ∀ w, (Builtin.lenOf y).run P w = .ok n w := fun w => lenOf_run hyr hn
    obtain ⟨xs, hfc, hxs⟩ := srcCells_run hr hyr hnew hn (Nat.le_refl _)
    have hnl : new.length = n * sz := srcCells_length hnew hn (Nat.le_refl _) (fun c' hc' => by subst hc'; exact hyr.1)
    have hxsz : xs.size = n * sz := by have := hxs.length; simp at this; omega
    let w1 : World := { w with drawn := w.drawn + 1 }
    have hr1 : HRel P C m h w1 := hr.of_heap rfl
    obtain ⟨xs1, hfc1, hxs1⟩ := srcCells_run (w := w1) hr1 hyr hnew hn (Nat.le_refl _)
    have hxsz1 : xs1.size = n * sz := by have := hxs1.length; simp at this; omega
    have hfut := hr.nofuture (Nat.le_refl h.nx)
    split at hv
    · -- nothing to append
      next h0 =>
      cases hv
      have h0 : n = 0 := by simpa using h0
      subst h0
      have hxe : xs.toList = [] := by
        have : xs.size = 0 := by omega
        simpa using this
      cases base with
      | none =>
        obtain ⟨h1, h2, rfl⟩ := hxr
        subst h1 h2
        refine ⟨m, w, Step.refl N hr, .inl ⟨_, fin _ _ (run_append_room hT g0 gu hsz hni a0 a1 (hlen w) hfc (Nat.le_refl _) rfl), rfl, rfl, rfl⟩⟩
      | some p =>
        obtain ⟨loc, o', c', h1, rfl, h2, h3⟩ := hxr
        refine ⟨m, w, Step.refl N hr, .inl ⟨_, fin _ _ (run_append_room hT g0 gu hsz hni a0 a1 (hlen w) hfc (by omega) (by simp [hxe, storeCells])), loc, o', c', h1, rfl, h2, h3⟩⟩
    next h0 =>
    have hn0 : n ≠ 0 := by simpa using h0
    -- a new row behind which there is spare room
    have grow : ∀ (ol : Array Value) (old : List V) (base' : Option Addr) (sl sc : Nat), (c.args.map (evT t))[0]? = some (.slice base' sl sc) → ln = sl → ¬ sl + n ≤ sc → (Builtin.firstCells sz sl (.slice base' sl sc)).run P w1 = .ok ol w1 →
        VRels m old ol.toList → ol.size = sl * sz → ∃ m' w', Step P C N m h w m' (h.new (.cells (old ++ new) false)) w' ∧
          ∃ x, (execOp (evT t) o).run P w = .ok (.value x) w' ∧ VRel m' (.slice (some (h.nx, 0)) (ln + n) (.grow sz)) x := by
      intro ol old base' sl sc a0' hls hnf hfo1 hold hol
      subst hls
      obtain ⟨cap, w', rest, k1, k2, k3, k4, k5⟩ := run_append_grow (o := o) hT g0 gu hsz hby hb0 hzs hni a0' a1 hlen hfc1 hfo1 hnf hbig hbig2 hol hxsz1
      have hrow : ORel P C (m.add h.nx ⟨w.heap.size, 0, (ol ++ xs1).size + rest.size⟩) ⟨w.heap.size, 0, (ol ++ xs1).size + rest.size⟩ (.cells (old ++ new) false) (.cells (ol ++ xs1 ++ rest) el (0, 0)) :=
        rest_row (by rw [Array.toList_append]; exact hold.append hxs1) hfut.1 el _ _ rfl
      refine ⟨_, w', step_new hr hN hfut.1 hfut.2 (fun j => H.get_new h j _) (by simp) (by simp) k3 k4 hrow, _, fin _ _ k1, _, _, cap, Mp.add_self _ _, rfl, k2, fun _ => rfl, (fun k hk => by cases hk), fun q hq => ?_⟩
      cases hq
      show 0 + cap * sz ≤ (ol ++ xs1).size + rest.size
      simp only [Array.size_append] at k5 ⊢
      omega
    -- and the elder block given up
    have growk : ∀ (bk : Nat) (ol : Array Value) (old : List V) (base' : Option Addr) (sl sc : Nat), (c.args.map (evT t))[0]? = some (.slice base' sl sc) → ln = sl → ¬ sl + n ≤ sc → (Builtin.firstCells sz sl (.slice base' sl sc)).run P w1 = .ok ol w1 →
        VRels m old ol.toList → ol.size = sl * sz → ∃ m' w', Step P C N m h w m' ((h.kill bk).new (.cells (old ++ new) false)) w' ∧
          ∃ x, (execOp (evT t) o).run P w = .ok (.value x) w' ∧ VRel m' (.slice (some (h.nx, 0)) (ln + n) (.grow sz)) x := by
      intro bk ol old base' sl sc a0' hls hnf hfo1 hold hol
      subst hls
      obtain ⟨cap, w', rest, k1, k2, k3, k4, k5⟩ := run_append_grow (o := o) hT g0 gu hsz hby hb0 hzs hni a0' a1 hlen hfc1 hfo1 hnf hbig hbig2 hol hxsz1
      have hrow : ORel P C (m.add h.nx ⟨w.heap.size, 0, (ol ++ xs1).size + rest.size⟩) ⟨w.heap.size, 0, (ol ++ xs1).size + rest.size⟩ (.cells (old ++ new) false) (.cells (ol ++ xs1 ++ rest) el (0, 0)) :=
        rest_row (by rw [Array.toList_append]; exact hold.append hxs1) hfut.1 el _ _ rfl
      have hk := step_kill (N := N) (b := bk) hr
      have hfk := hk.rel.nofuture (Nat.le_refl (h.kill bk).nx)
      refine ⟨_, w', hk.trans (step_new hk.rel (by simpa using hN) hfk.1 hfk.2 (fun j => H.get_new _ j _) (by simp) (by simp) k3 k4 hrow), _, fin _ _ k1, _, _, cap, Mp.add_self _ _, rfl, k2, fun _ => rfl, (fun k hk => by cases hk), fun q hq => ?_⟩
      cases hq
      show 0 + cap * sz ≤ (ol ++ xs1).size + rest.size
      simp only [Array.size_append] at k5 ⊢
      omega
    cases base with
    | none =>
      obtain ⟨rfl, rfl, rfl⟩ := hxr
      cases hv
      obtain ⟨m', w', s1, x, s2, s3⟩ := grow #[] [] none 0 0 a0 rfl (by omega) rfl rfl (by simp)
      simp only [List.nil_append, Nat.zero_add] at s1 s3
      exact ⟨m', w', s1, .inl ⟨x, s2, s3⟩⟩
    | some p =>
      obtain ⟨bk, off⟩ := p
      obtain ⟨loc, o', c', h1, rfl, h2, h3, h4, h5⟩ := hxr
      -- the elements that are there
      have oldc : ∀ old : List V, (bif ln * sz == 0 then some [] else h.load bk off (ln * sz)) = some old → ∃ ol : Array Value, (Builtin.firstCells sz ln (.slice (some o') ln c')).run P w1 = .ok ol w1 ∧ VRels m old ol.toList ∧ ol.size = ln * sz := by
        intro old ho
        have hs : srcCells h sz ln (.slice (some (bk, off)) ln cap) = some old := ho
        obtain ⟨ol, q1, q2⟩ := srcCells_run (w := w1) hr1 (x := .slice (some (bk, off)) ln cap) (y := .slice (some o') ln c') ⟨loc, o', c', h1, rfl, h2, h3, h4, h5⟩ hs rfl (Nat.le_refl _)
        have := srcCells_length hs rfl (Nat.le_refl _) (fun c hc => by cases hc)
        exact ⟨ol, q1, q2, by have := q2.length; simp at this; omega⟩
      cases cap with
      | fix k =>
        have hk := h4 k rfl
        subst hk
        dsimp only at hv
        split at hv
        · next hfit =>
          split at hv
          · next hh hst =>
            cases hv
            have ho' := h3 (by omega)
            obtain ⟨w', q1, q2⟩ := store_run (N := N) hr hst h1 hxs
            refine ⟨m, w', q2, .inl ⟨_, fin _ _ (run_append_room hT g0 gu hsz hni a0 a1 (hlen w) hfc hfit ?_), loc, o', c', h1, rfl, hfit, h3, h4, h5⟩⟩
            simp only [ho', add_addr]
            rw [Nat.add_assoc]; exact q1
          · cases hv
        · next hfit =>
          split at hv
          · next old hold =>
            cases hv
            obtain ⟨ol, q1, q2, q3⟩ := oldc old (by simpa [cond_eq_ite] using hold)
            obtain ⟨m', w', s1, x, s2, s3⟩ := grow ol old _ ln c' a0 rfl hfit q1 q2 q3
            exact ⟨m', w', s1, .inl ⟨x, s2, s3⟩⟩
          · cases hv
      | grow q =>
        dsimp only at hv
        split at hv
        · next l hb =>
          simp only [cond_eq_ite, Bool.and_eq_true, Nat.ble_eq, nbeq, decide_eq_true_eq] at hv
          split at hv
          · next hq =>
            cases hv
            obtain ⟨⟨rfl, hle⟩, hall⟩ := hq
            have h5 := h5 _ rfl
            by_cases hfit : ln + n ≤ c'
            · -- in place
              have ho' := h3 (by omega)
              obtain ⟨loc', co, k1, k2, cc, elem, lo, hi, rfl, k3, k4, k5, k6⟩ := hr.obj bk _ hb
              rw [h1] at k1; cases k1
              have hone : ∀ z ∈ xs.toList, z.oneCell' = true := by
                intro z hz
                obtain ⟨k, hk⟩ := List.getElem?_of_mem hz
                have hkl : k < new.length := by
                  rw [hxs.length]
                  rcases Nat.lt_or_ge k xs.toList.length with hlt | hge
                  · exact hlt
                  · rw [List.getElem?_eq_none hge] at hk; cases hk
                obtain ⟨x, hx, hvx⟩ := hxs.get (List.getElem?_eq_getElem hkl)
                rw [hk] at hx; cases hx
                rw [← hvx.one]
                exact List.all_eq_true.1 hall _ (List.getElem_mem hkl)
              have hcap : (ln + n) * q ≤ c' * q := Nat.mul_le_mul_right _ hfit
              rw [Nat.add_mul] at hcap
              obtain ⟨w', cc', q1, q2, q3, q4, q5, q6⟩ := run_storeCells_block (P := P) (β := loc.β) (o := loc.d + off + ln * q) xs.toList 0 w cc k2 (fun k hk => by
                simp at hk
                rcases k6 rfl with k6 | k6 <;> omega) (by simp; omega) hone
              have hcs : cc'.size = cc.size := by have := congrArg List.length q4; simpa [layL_length] using this
              refine ⟨_, w', step_move (ob := .cells ((l.drop off).take (ln * q) ++ new) false) (d := off) hr hb h1 hN hfut.1 hfut.2 (fun j => ?_) (by simp) (by simp) q2 k2 q3 q5 q6 ⟨cc', elem, lo, hi, rfl, ?_, ?_, ?_, ?_⟩ (fun L hL => by cases hL), .inl ⟨_, fin _ _ (run_append_room hT g0 gu hsz hni a0 a1 (hlen w) hfc hfit ?_), _, o', c', Mp.add_self _ _, rfl, hfit, fun _ => ?_, (fun k hk => by cases hk), fun q' hq' => ?_⟩⟩
              · rw [H.get_new, H.get_kill]; rfl
              · simp [hnl]; omega
              · simp only; omega
              · intro k v hv
                rw [List.getElem?_append] at hv
                have hc' : cc'[loc.d + off + k]? = (layL cc.toList (loc.d + off + ln * q + 0) xs.toList)[loc.d + off + k]? := by rw [← q4]; simp
                have hlt : ((l.drop off).take (ln * q)).length = ln * q := by simp; omega
                rw [hlt] at hv
                rw [hc', layL_get _ _ _ _ (by simp; omega)]
                split at hv
                · next hk =>
                  rw [if_neg (by omega)]
                  rw [List.getElem?_take, if_pos hk, List.getElem?_drop] at hv
                  obtain ⟨x, hx, hvx⟩ := k5 _ _ hv
                  exact ⟨x, by rw [show loc.d + off + k = loc.d + (off + k) by omega]; simpa using hx, hvx.mono (Mp.add_mono hfut.1)⟩
                · next hk =>
                  have hkn : k - ln * q < new.length := by
                    rcases Nat.lt_or_ge (k - ln * q) new.length with hlt | hge
                    · exact hlt
                    · rw [List.getElem?_eq_none hge] at hv; cases hv
                  rw [if_pos (by simp; omega)]
                  obtain ⟨x, hx, hvx⟩ := hxs.get hv
                  exact ⟨x, by rw [show loc.d + off + k - (loc.d + off + ln * q + 0) = k - ln * q by omega]; exact hx, hvx.mono (Mp.add_mono hfut.1)⟩
              · intro _
                rcases k6 rfl with k6 | k6
                · exact .inl k6
                · refine .inr ?_
                  simp only
                  omega
              · simp only [ho', add_addr]; exact q1
              · simp only [ho']; rfl
              · cases hq'; simp only; omega
            · -- in a new row
              have hload : (bif ln * q == 0 then some [] else h.load bk off (ln * q)) = some ((l.drop off).take (ln * q)) := by
                simp only [cond_eq_ite, beq_iff_eq]
                split
                · next h00 => rw [h00]; rfl
                · unfold H.load; rw [hb]; simp [cond_eq_ite, hle]
              obtain ⟨ol, q1, q2, q3⟩ := oldc _ hload
              obtain ⟨m', w', s1, x, s2, s3⟩ := growk bk ol _ _ ln c' a0 rfl hfit q1 q2 q3
              exact ⟨m', w', s1, .inl ⟨x, s2, s3⟩⟩
          · cases hv
        · cases hv
  · cases hv

theorem eff_copy (hT : TOk P C) (hG : GOk C m) (hr : HRel P C m h w) (he : ERel m e t) {sz : Nat} {a b : Opd} {c : Go.Call} (ho : o.op = .call c) (hc : c.callee = .builtin .copy) (hx : opdsM C [a, b] c.args.toList = true)
    (hE : elemOfM C c.argTypes (fun e => sizeM C e sz) = true) (hv : I.eff call e h (.copy sz a b) = some (v, h')) : Eff P C N m h w t o v h' := by
  obtain ⟨ty, el, g0, hsz, gu⟩ := elemOfM_und hT hE
  have fin : ∀ x w', (Builtin.copy_ c.argTypes o.type (c.args.map (evT t))).run P w = .ok x w' → (execOp (evT t) o).run P w = .ok (.value x) w' := by
    intro x w' hw
    simp only [execOp, ho, Sem.run_bind, resolve, hc, Result.andThen_ok, Sem.run_pure, invoke, builtin, hw]
  simp only [I.eff] at hv
  split at hv
  · next av bv g1 g2 =>
    obtain ⟨x, y, a0, a1, hxr, hyr⟩ := two_args (t := t) hG he hx g1 g2
    unfold copyV at hv
    split at hv
    · next base ln cap k hk =>
      dsimp only at hv
      split at hv
      · cases hv
      next l hl =>
      obtain ⟨xs, hfc, hxs⟩ := srcCells_run hr hyr hl hk (Nat.min_le_left _ _)
      have hlen : (Builtin.lenOf y).run P w = .ok k w := lenOf_run hyr hk
      have run : ∀ (base' : Option Addr) (c' : Nat) (w' : World), x = .slice base' ln c' → (match base' with | some a => storeCells a xs.toList | none => pure () : Sem Unit).run P w = .ok () w' →
          (Builtin.copy_ c.argTypes o.type (c.args.map (evT t))).run P w = .ok (.int .i64 (Nat.min k ln : Nat)) w' := by
        rintro base' c' w' rfl hst
        unfold Builtin.copy_
        simp only [g0, a0, a1, Sem.run_bind, run_underlying gu, Result.andThen_ok, hlen, sizeM_run hT hsz, hfc]
        cases base' with
        | none => simp only [Sem.run_pure] at hst; cases hst; rfl
        | some a => simp only at hst; simp only [Sem.run_bind, hst, Result.andThen_ok, Sem.run_pure, goInt]
      simp only [cond_eq_ite] at hv
      split at hv
      · next hemp =>
        cases hv
        have : l = [] := by simpa using hemp
        subst this
        have hxe : xs.toList = [] := hxs
        cases base with
        | none =>
          obtain ⟨rfl, rfl, rfl⟩ := hxr
          exact ⟨m, w, Step.refl N hr, .inl ⟨_, fin _ _ (run none 0 w rfl rfl), rfl⟩⟩
        | some p =>
          obtain ⟨loc, o', c', h1, rfl, h2, h3⟩ := hxr
          exact ⟨m, w, Step.refl N hr, .inl ⟨_, fin _ _ (run (some o') c' w rfl (by simp [hxe, storeCells])), rfl⟩⟩
      · next hemp =>
        cases base with
        | none => cases hv
        | some p =>
          obtain ⟨bk, off⟩ := p
          obtain ⟨loc, o', c', h1, rfl, h2, h3, h4⟩ := hxr
          dsimp only at hv
          split at hv
          · next hh hst =>
            cases hv
            have ho' : o' = ⟨loc.β, loc.d + off, none⟩ := by
              refine h3 ?_
              intro h0
              subst h0
              have hln : ln = 0 := by omega
              subst hln
              have hl0 := srcCells_length hl hk (Nat.min_le_left _ _) (fun c' hc' => by subst hc'; exact hyr.1)
              have : l = [] := by
                have : Nat.min k 0 = 0 := Nat.min_eq_right (Nat.zero_le _)
                rw [this] at hl0
                exact List.length_eq_zero_iff.1 (by simpa using hl0)
              exact hemp (by simp [this])
            obtain ⟨w', q1, q2⟩ := store_run (N := N) hr hst h1 hxs
            exact ⟨m, w', q2, .inl ⟨_, fin _ _ (run (some o') c' w' rfl (by simp only [ho']; exact q1)), rfl⟩⟩
          · cases hv
    · cases hv
  · cases hv

theorem run_freeze_block {β : Nat} {c : Array Value} {elem : TypeId} {lo hi : Nat} (hb : w.heap[β]? = some (.cells c elem (lo, hi))) :
    ∃ lo' hi', (w.freeze ⟨β, c.size, none⟩ 1).heap[β]? = some (.cells c elem (lo', hi')) ∧ (lo = hi → lo' = c.size) ∧ (lo ≠ hi → lo' = min lo c.size) := by
  unfold World.freeze
  rw [if_neg (by omega)]
  refine ⟨if lo = hi then c.size else min lo c.size, if lo = hi then c.size + 1 else max hi (c.size + 1), ?_, fun h => by simp [h], fun h => by simp [h]⟩
  simp only [Array.getElem?_modify, if_pos, hb, Option.map_some]
  by_cases h : lo = hi <;> simp [h]

theorem eff_mark (hT : TOk P C) (hG : GOk C m) (hr : HRel P C m h w) (he : ERel m e t) {a : Opd} {a' : Operand} {s d : TypeId} (ho : o.op = .convert s d a') (ha : opdM C a a' = true) (hsd : Nat.beq s d = true) (hd : bytesT C d = true)
    (hv : I.eff call e h (.mark a) = some (v, h')) : Eff P C N m h w t o v h' := by
  obtain ⟨el, hd1, hd2⟩ := bytesT_und hT hd
  have hsd := beq_iff.1 hsd
  subst hsd
  simp only [I.eff] at hv
  split at hv
  · next b off n cp g1 =>
    have H := opd_sound (t := t) hG he ha g1
    obtain ⟨loc, o', c', h1, e1, h2⟩ := H
    have H := opd_sound (t := t) hG he ha g1
    split at hv
    · next l hb =>
      simp only [cond_eq_ite, Nat.ble_eq] at hv
      split at hv
      case isFalse => cases hv
      next hn1 =>
      cases hv
      have ho' := h2.2.1 (by omega)
      subst ho'
      obtain ⟨loc', co, k1, k2, cc, elem, lo, hi, rfl, k3, k4, k5, k6⟩ := hr.obj b _ hb
      rw [h1] at k1; cases k1
      obtain ⟨lo', hi', q1, q2⟩ := run_freeze_block k2
      refine ⟨m, w.freeze ⟨loc.β, cc.size, none⟩ 1, ?_, .inl ⟨evT t a', ?_, H⟩⟩
      · refine step_set (o' := .cells l false) hr hb rfl rfl h1 k2 (fun j => ?_) rfl ?_ q1 ?_ ⟨?_, ?_, ?_⟩ ⟨cc, elem, lo', hi', rfl, k3, k4, k5, ?_⟩ (fun L hL => by cases hL)
        · split
          · next e => subst e; exact hb
          · rfl
        · unfold World.freeze; rw [if_neg (by omega)]; simp
        · intro j hj
          unfold World.freeze; rw [if_neg (by omega)]
          simp only [Array.getElem?_modify]
          rw [if_neg (fun e => hj e.symm)]
        · unfold World.freeze; rw [if_neg (by omega)]
        · unfold World.freeze; rw [if_neg (by omega)]
        · unfold World.freeze; rw [if_neg (by omega)]
        · intro _
          refine .inr ?_
          by_cases hlh : lo = hi
          · have := q2.1 hlh; omega
          · have := q2.2 hlh
            rcases k6 rfl with k6 | k6
            · exact absurd k6 hlh
            · omega
      · have hshape : w.shape? loc.β = some (elem, cc.size) := by simp [World.shape?, k2]
        simp only [execOp, ho, Sem.run_bind, e1, convert, run_underlying hd1, Result.andThen_ok, run_underlying hd2, beq_self_eq_true]
        simp only [markStringish, Sem.run_bind, run_shape, hshape, Result.andThen_ok, run_freeze, Sem.run_pure]
    · cases hv
  · cases hv

end
end Am
