/- The law WorldTicks, over the abstract machine. -/
import Derived.Test.YtpbepbijgldagaaDoorTicks
namespace Am.Sigs
open Am Go

theorem ints_of {k : IntKind} {h : H} : ∀ {l : List Int} {cs : List V}, rowRep (repInt k) h l cs → ∀ {i : Nat} {x : Int}, l[i]? = some x → cs[i]? = some (.int k x) ∧ k.min ≤ x ∧ x ≤ k.max
  | [], _, _, i, x, hi => by simp at hi
  | y :: l, cs, ⟨u, w, e, h1, h2⟩, 0, x, hi => by
    simp at hi; subst hi; obtain ⟨rfl, h3⟩ := h1; subst e; exact ⟨rfl, h3⟩
  | y :: l, cs, ⟨u, w, e, h1, h2⟩, i + 1, x, hi => by
    obtain ⟨rfl, h3⟩ := h1; subst e
    exact ints_of h2 (by simpa using hi)

set_option maxHeartbeats 4000000 in
theorem ticks_am {cl : Nat → Call} (hcl : Sem cl) {h0 : H} (hnx : h0.nx = 6 + 1) (hwf : ∀ b, 6 + 1 ≤ b → h0.get b = none) (_ : h0.get 4 = some (.cells lit_math_bits_deBruijn32tab true)) (_ : h0.get 5 = some (.cells lit_math_bits_deBruijn64tab true))
    (_ : h0.get 2 = some (.cells lit_internal_strconv_uint64pow10 true)) {l : List Int} {u : V} (r : repSlice 100 (repInt .u64) h0 l [u]) : ∃ h', cl 31 (.fn F.roundhouselaw11_WorldTicks) [u] h0 = some (.bool true, h') := by
  obtain ⟨ad, c, e, hin⟩ := r
  cases e
  obtain ⟨v1, e1, ra, pa⟩ := ran_ex alive_run
  unfold aliveOk at pa
  simp only [Bool.and_eq_true, Nat.beq_eq, Nat.ble_eq] at pa
  obtain ⟨p1, p2, p3⟩ := pa
  obtain rfl := isTrue_eq p1
  have hX : Ext h0.get ⟨7, .lf⟩ h0 := by have := ext_all (h := h0) (by rw [hnx]; exact hwf); rwa [hnx] at this
  obtain ⟨h1, qa, xa⟩ := same_in hcl ra hX
  have n1 : h1.nx = 45 := by rw [xa.nx]; exact p2
  have wf1 : ∀ j, 45 ≤ j → h1.get j = none := by
    intro j hj
    rw [xa.get, hwf j (by omega), show e1.get j = none from get_top _ _ (by omega)]; rfl
  have hin1 : l.length ≤ 100 → l ≠ [] → ∃ b cs, ad = some (b, 0) ∧ b < 7 ∧ h1.get b = some (.cells cs true) ∧ ∀ (i : Nat) (x : Int), l[i]? = some x → cs[i]? = some (.int .u64 x) ∧ 0 ≤ x ∧ x ≤ 18446744073709551615 := by
    intro hl hn
    obtain ⟨b, cs, e2, k1, k2, k3⟩ := hin hl hn
    exact ⟨b, cs, e2, by omega, ext_kept xa k2, fun i x hi => ints_of k3 hi⟩
  clear hin hwf hX ra p1
  suffices ∃ h', cl 31 (.fn F.roundhouselaw11_WorldTicks) [.slice ad l.length (.fix c)] h0 = some (.bool true, h') ∧ True by
    obtain ⟨h', q, _⟩ := this; exact ⟨h', q⟩
  refine call_ex (at_ hcl (by omega) rfl rfl rfl ?_)
  by_cases hlen : 100 < (l.length : Int)
  case pos =>
    repeat' (first|(refine zcg ?_;first|refine zaa rfl ?_|refine zav rfl (by assumption) (by assumption) ?_|refine zaw rfl (by assumption) ?_|refine zad (by repeat (first|(apply Kept.cons; exact rfl)|apply Kept.nil|(apply Kept.miss; exact rfl))) ?_|(refine zch ?_;first|refine zaz rfl (by first|assumption|omega|exact fun h=>h rfl) ?_|refine zba rfl (by first|assumption|omega|exact fun h=>h rfl) ?_|refine zbb rfl (by first|assumption|omega|exact fun h=>h rfl) ?_|refine zbc rfl (by first|assumption|omega|exact fun h=>h rfl) ?_|refine zbd rfl (by first|rfl|assumption) ?_|refine zbe rfl (by first|rfl|assumption) ?_|refine zbf rfl (fun _ => ?_) fun _ => ?_|refine zbg rfl (fun _ => ?_) fun _ => ?_|refine zbh rfl (fun _ => ?_) fun _ => ?_)|(refine zci ?_;first|refine zaf rfl rfl ?_|refine zag rfl rfl ?_|refine zah rfl rfl ?_|refine zal rfl rfl ⟨by omega,by omega⟩ ?_|refine zai rfl rfl ?_|refine zaj rfl rfl ?_|refine zak rfl rfl ?_|refine zam rfl rfl ⟨by omega,by omega⟩ ?_|refine zcp rfl rfl ⟨by omega,by omega⟩ ?_|refine zcq rfl rfl ⟨by omega,by omega⟩ ?_|refine zau rfl rfl ?_)|(refine zcj ?_;first|refine zap rfl ?_|refine zaq rfl (by first|assumption|omega|exact fun h=>h rfl) rfl ?_|refine zar rfl (by first|assumption|omega|exact fun h=>h rfl) rfl ?_|refine zas rfl (by first|rfl|assumption) rfl ?_|refine zat rfl (by first|rfl|assumption) rfl ?_|refine zau rfl rfl ?_)|refine zan rfl ?_|refine zao rfl ?_|refine zcn rfl rfl ?_|refine zco rfl rfl ?_|refine zcr rfl rfl ?_|refine zau rfl rfl ?_|refine zax rfl rfl (by omega) ?_|refine zay rfl rfl (by omega) ?_)|(refine zck ?_;first|refine zab ?_|refine zac ?_|(refine zcl ?_;first|refine zbi rfl (by first|assumption|omega|exact fun h=>h rfl) ?_|refine zbj rfl (by first|assumption|omega|exact fun h=>h rfl) ?_|refine zbk rfl (by first|rfl|assumption) ?_|refine zbl rfl (by first|rfl|assumption) ?_|refine zbm rfl (fun _ => ?_) fun _ => ?_|refine zbn rfl (fun _ => ?_) fun _ => ?_)|refine zbo ?_|refine zbp ?_|refine zbq ?_|refine zbr ?_|refine zbs ?_|refine zbt ?_)|(refine zcm ?_;first|refine zae ?_|refine zbw ?_|refine zcc rfl ?_|refine zbu ?_|refine zbv ?_|refine zby ?_|refine zbz rfl ?_|refine zbx ?_|refine zcb ?_|refine zca ?_|refine zcd rfl ?_|refine zce rfl ?_|refine zcf rfl ?_))
    exact ⟨rfl, trivial⟩
  have hw := wp_new hcl (d := 30) (by omega) h1
  repeat' (first|(refine zcg ?_;first|refine zaa rfl ?_|refine zav rfl (by assumption) (by assumption) ?_|refine zaw rfl (by assumption) ?_|refine zad (by repeat (first|(apply Kept.cons; exact rfl)|apply Kept.nil|(apply Kept.miss; exact rfl))) ?_|(refine zch ?_;first|refine zaz rfl (by first|assumption|omega|exact fun h=>h rfl) ?_|refine zba rfl (by first|assumption|omega|exact fun h=>h rfl) ?_|refine zbb rfl (by first|assumption|omega|exact fun h=>h rfl) ?_|refine zbc rfl (by first|assumption|omega|exact fun h=>h rfl) ?_|refine zbd rfl (by first|rfl|assumption) ?_|refine zbe rfl (by first|rfl|assumption) ?_|refine zbf rfl (fun _ => ?_) fun _ => ?_|refine zbg rfl (fun _ => ?_) fun _ => ?_|refine zbh rfl (fun _ => ?_) fun _ => ?_)|(refine zci ?_;first|refine zaf rfl rfl ?_|refine zag rfl rfl ?_|refine zah rfl rfl ?_|refine zal rfl rfl ⟨by omega,by omega⟩ ?_|refine zai rfl rfl ?_|refine zaj rfl rfl ?_|refine zak rfl rfl ?_|refine zam rfl rfl ⟨by omega,by omega⟩ ?_|refine zcp rfl rfl ⟨by omega,by omega⟩ ?_|refine zcq rfl rfl ⟨by omega,by omega⟩ ?_|refine zau rfl rfl ?_)|(refine zcj ?_;first|refine zap rfl ?_|refine zaq rfl (by first|assumption|omega|exact fun h=>h rfl) rfl ?_|refine zar rfl (by first|assumption|omega|exact fun h=>h rfl) rfl ?_|refine zas rfl (by first|rfl|assumption) rfl ?_|refine zat rfl (by first|rfl|assumption) rfl ?_|refine zau rfl rfl ?_)|refine zan rfl ?_|refine zao rfl ?_|refine zcn rfl rfl ?_|refine zco rfl rfl ?_|refine zcr rfl rfl ?_|refine zau rfl rfl ?_|refine zax rfl rfl (by omega) ?_|refine zay rfl rfl (by omega) ?_)|(refine zck ?_;first|refine zab ?_|refine zac ?_|(refine zcl ?_;first|refine zbi rfl (by first|assumption|omega|exact fun h=>h rfl) ?_|refine zbj rfl (by first|assumption|omega|exact fun h=>h rfl) ?_|refine zbk rfl (by first|rfl|assumption) ?_|refine zbl rfl (by first|rfl|assumption) ?_|refine zbm rfl (fun _ => ?_) fun _ => ?_|refine zbn rfl (fun _ => ?_) fun _ => ?_)|refine zbo ?_|refine zbp ?_|refine zbq ?_|refine zbr ?_|refine zbs ?_|refine zbt ?_)|(refine zcm ?_;first|refine zae ?_|refine zbw ?_|refine zcc rfl ?_|refine zbu ?_|refine zbv ?_|refine zby ?_|refine zbz rfl ?_|refine zbx ?_|refine zcb ?_|refine zca ?_|refine zcd rfl ?_|refine zce rfl ?_|refine zcf rfl ?_))
  clear hw qa
  refine Run.loop (fun m e h => ∃ (i : Nat) (now : Int), m = l.length - i ∧ i ≤ l.length ∧ e = [(0, .slice ad l.length (.fix c)), (3, .bool true), (4, .p (h1.nx + 1) 0), (19, .i l.length), (20, .i i)] ∧
      h.nx = 47 ∧ (∀ j, 47 ≤ j → h.get j = none) ∧ (∀ j, j < 45 → h.get j = h1.get j) ∧ h.get (h1.nx + 1) = some (.cells (wcells zeroFds .nils (.p h1.nx 0) now zeroNo) false) ∧ 0 ≤ now ∧ now ≤ 18446744073709551615)
    (k := l.length) (by show _ < 100000; omega) ⟨0, 0, rfl, by omega, rfl, by simp [n1], ?_, ?_, get_new_self (h := h1.new _) _, by omega, by omega⟩ ?_
  · intro j hj
    rw [H.get_new, if_neg (by simp [n1]; omega), H.get_new, if_neg (by omega), wf1 j (by omega)]
  · intro j hj
    rw [H.get_new, if_neg (by simp [n1]; omega), H.get_new, if_neg (by omega)]
  rintro _ _ h ⟨i, now, rfl, hi, rfl, hnx1, hwf1, hold, hb, w0, w1⟩ n ih
  have z288 : zeroFds.length = 288 := by kernel_rfl
  by_cases hlt : i < l.length
  case pos =>
    obtain ⟨bq, cs, rfl, hbq, hcs, hel⟩ := hin1 (by omega) (by rintro rfl; simp at hlt)
    have hcs1 : h.get bq = some (.cells cs true) := by rw [hold bq (by omega), hcs]
    obtain ⟨hx1, hx2, hx3⟩ := hel i _ (List.getElem?_eq_getElem hlt)
    generalize l[i] = t at hx1 hx2 hx3
    have hx1 : cs[0 + (i : Int).toNat * 1]? = some (.int .u64 t) := by rw [show 0 + (i : Int).toNat * 1 = i by omega]; exact hx1
    have hnow := wp_now hcl (d := 30) (by omega) hb (w_sg z288 (by omega)) (w_now z288 (by omega))
    have hpass := wp_pass hcl (d := 30) (by omega) hb (w_sg z288 (by omega)) (w_now z288 (by omega)) ⟨w0, w1⟩ ⟨hx2, hx3⟩
    rw [w_set z288 (by omega)] at hpass
    have hi1 : ((i + 1 : Nat) : Int) = (i : Int) + 1 := by omega
    by_cases hs : now + t ≤ 18446744073709551615
    · rw [if_pos hs] at hpass
      have hnow2 := wp_now hcl (d := 30) (by omega) (get_set_self (h := h) (b := h1.nx + 1) (.cells (wcells zeroFds .nils (.p h1.nx 0) (now + t) zeroNo) false)) (w_sg z288 (by omega)) (w_now z288 (by omega))
      have hcs2 : (h.set (h1.nx + 1) (.cells (wcells zeroFds .nils (.p h1.nx 0) (now + t) zeroNo) false)).get bq = some (.cells cs true) := by rw [get_set_ne (by omega), hcs1]
      clear z288
      repeat' (first|(refine zcg ?_;first|refine zaa rfl ?_|refine zav rfl (by assumption) (by assumption) ?_|refine zaw rfl (by assumption) ?_|refine zad (by repeat (first|(apply Kept.cons; exact rfl)|apply Kept.nil|(apply Kept.miss; exact rfl))) ?_|(refine zch ?_;first|refine zaz rfl (by first|assumption|omega|exact fun h=>h rfl) ?_|refine zba rfl (by first|assumption|omega|exact fun h=>h rfl) ?_|refine zbb rfl (by first|assumption|omega|exact fun h=>h rfl) ?_|refine zbc rfl (by first|assumption|omega|exact fun h=>h rfl) ?_|refine zbd rfl (by first|rfl|assumption) ?_|refine zbe rfl (by first|rfl|assumption) ?_|refine zbf rfl (fun _ => ?_) fun _ => ?_|refine zbg rfl (fun _ => ?_) fun _ => ?_|refine zbh rfl (fun _ => ?_) fun _ => ?_)|(refine zci ?_;first|refine zaf rfl rfl ?_|refine zag rfl rfl ?_|refine zah rfl rfl ?_|refine zal rfl rfl ⟨by omega,by omega⟩ ?_|refine zai rfl rfl ?_|refine zaj rfl rfl ?_|refine zak rfl rfl ?_|refine zam rfl rfl ⟨by omega,by omega⟩ ?_|refine zcp rfl rfl ⟨by omega,by omega⟩ ?_|refine zcq rfl rfl ⟨by omega,by omega⟩ ?_|refine zau rfl rfl ?_)|(refine zcj ?_;first|refine zap rfl ?_|refine zaq rfl (by first|assumption|omega|exact fun h=>h rfl) rfl ?_|refine zar rfl (by first|assumption|omega|exact fun h=>h rfl) rfl ?_|refine zas rfl (by first|rfl|assumption) rfl ?_|refine zat rfl (by first|rfl|assumption) rfl ?_|refine zau rfl rfl ?_)|refine zan rfl ?_|refine zao rfl ?_|refine zcn rfl rfl ?_|refine zco rfl rfl ?_|refine zcr rfl rfl ?_|refine zau rfl rfl ?_|refine zax rfl rfl (by omega) ?_|refine zay rfl rfl (by omega) ?_)|(refine zck ?_;first|refine zab ?_|refine zac ?_|(refine zcl ?_;first|refine zbi rfl (by first|assumption|omega|exact fun h=>h rfl) ?_|refine zbj rfl (by first|assumption|omega|exact fun h=>h rfl) ?_|refine zbk rfl (by first|rfl|assumption) ?_|refine zbl rfl (by first|rfl|assumption) ?_|refine zbm rfl (fun _ => ?_) fun _ => ?_|refine zbn rfl (fun _ => ?_) fun _ => ?_)|refine zbo ?_|refine zbp ?_|refine zbq ?_|refine zbr ?_|refine zbs ?_|refine zbt ?_)|(refine zcm ?_;first|refine zae ?_|refine zbw ?_|refine zcc rfl ?_|refine zbu ?_|refine zbv ?_|refine zby ?_|refine zbz rfl ?_|refine zbx ?_|refine zcb ?_|refine zca ?_|refine zcd rfl ?_|refine zce rfl ?_|refine zcf rfl ?_))
      refine ih (l.length - (i + 1)) (by omega) _ _ ⟨i + 1, now + t, rfl, by omega, rfl, hnx1, ?_, ?_, get_set_self _, by omega, by omega⟩
      · intro j hj; rw [get_set_ne (by omega), hwf1 j hj]
      · intro j hj; rw [get_set_ne (by omega), hold j hj]
    · rw [if_neg hs] at hpass
      have hnow2 := wp_now hcl (d := 30) (by omega) (get_set_self (h := h) (b := h1.nx + 1) (.cells (wcells zeroFds .nils (.p h1.nx 0) 18446744073709551615 zeroNo) false)) (w_sg z288 (by omega)) (w_now z288 (by omega))
      have hcs2 : (h.set (h1.nx + 1) (.cells (wcells zeroFds .nils (.p h1.nx 0) 18446744073709551615 zeroNo) false)).get bq = some (.cells cs true) := by rw [get_set_ne (by omega), hcs1]
      clear z288
      repeat' (first|(refine zcg ?_;first|refine zaa rfl ?_|refine zav rfl (by assumption) (by assumption) ?_|refine zaw rfl (by assumption) ?_|refine zad (by repeat (first|(apply Kept.cons; exact rfl)|apply Kept.nil|(apply Kept.miss; exact rfl))) ?_|(refine zch ?_;first|refine zaz rfl (by first|assumption|omega|exact fun h=>h rfl) ?_|refine zba rfl (by first|assumption|omega|exact fun h=>h rfl) ?_|refine zbb rfl (by first|assumption|omega|exact fun h=>h rfl) ?_|refine zbc rfl (by first|assumption|omega|exact fun h=>h rfl) ?_|refine zbd rfl (by first|rfl|assumption) ?_|refine zbe rfl (by first|rfl|assumption) ?_|refine zbf rfl (fun _ => ?_) fun _ => ?_|refine zbg rfl (fun _ => ?_) fun _ => ?_|refine zbh rfl (fun _ => ?_) fun _ => ?_)|(refine zci ?_;first|refine zaf rfl rfl ?_|refine zag rfl rfl ?_|refine zah rfl rfl ?_|refine zal rfl rfl ⟨by omega,by omega⟩ ?_|refine zai rfl rfl ?_|refine zaj rfl rfl ?_|refine zak rfl rfl ?_|refine zam rfl rfl ⟨by omega,by omega⟩ ?_|refine zcp rfl rfl ⟨by omega,by omega⟩ ?_|refine zcq rfl rfl ⟨by omega,by omega⟩ ?_|refine zau rfl rfl ?_)|(refine zcj ?_;first|refine zap rfl ?_|refine zaq rfl (by first|assumption|omega|exact fun h=>h rfl) rfl ?_|refine zar rfl (by first|assumption|omega|exact fun h=>h rfl) rfl ?_|refine zas rfl (by first|rfl|assumption) rfl ?_|refine zat rfl (by first|rfl|assumption) rfl ?_|refine zau rfl rfl ?_)|refine zan rfl ?_|refine zao rfl ?_|refine zcn rfl rfl ?_|refine zco rfl rfl ?_|refine zcr rfl rfl ?_|refine zau rfl rfl ?_|refine zax rfl rfl (by omega) ?_|refine zay rfl rfl (by omega) ?_)|(refine zck ?_;first|refine zab ?_|refine zac ?_|(refine zcl ?_;first|refine zbi rfl (by first|assumption|omega|exact fun h=>h rfl) ?_|refine zbj rfl (by first|assumption|omega|exact fun h=>h rfl) ?_|refine zbk rfl (by first|rfl|assumption) ?_|refine zbl rfl (by first|rfl|assumption) ?_|refine zbm rfl (fun _ => ?_) fun _ => ?_|refine zbn rfl (fun _ => ?_) fun _ => ?_)|refine zbo ?_|refine zbp ?_|refine zbq ?_|refine zbr ?_|refine zbs ?_|refine zbt ?_)|(refine zcm ?_;first|refine zae ?_|refine zbw ?_|refine zcc rfl ?_|refine zbu ?_|refine zbv ?_|refine zby ?_|refine zbz rfl ?_|refine zbx ?_|refine zcb ?_|refine zca ?_|refine zcd rfl ?_|refine zce rfl ?_|refine zcf rfl ?_))
      refine ih (l.length - (i + 1)) (by omega) _ _ ⟨i + 1, 18446744073709551615, rfl, by omega, rfl, hnx1, ?_, ?_, get_set_self _, by omega, by omega⟩
      · intro j hj; rw [get_set_ne (by omega), hwf1 j hj]
      · intro j hj; rw [get_set_ne (by omega), hold j hj]
  -- the end
  clear z288
  have hi2 : i = l.length := by omega
  subst hi2
  have hnew := wp_new hcl (d := 30) (by omega) h
  obtain ⟨v2, e2, ri, pi⟩ := ran_ex image_run
  have hX2 : Ext h.get (freshAt 47) ((h.new zeroTb).new (.cells (wcells zeroFds .nils (.p h.nx 0) 0 zeroNo) false)) := by
    have q := ext_all (h := h) (by rw [hnx1]; exact hwf1)
    rw [hnx1] at q ⊢
    exact (q.new _).new _
  obtain ⟨h3, qi, xi⟩ := same_in hcl ri hX2
  rw [show (48 : Nat) = h.nx + 1 by omega] at qi
  unfold imageOk at pi
  obtain ⟨w3, e3, rs, pw⟩ := ran_ex pi
  obtain rfl := isTrue_eq pw
  obtain ⟨h4, qs, _⟩ := same_in hcl rs (xi.new (.cells [.str [110, 111, 119, 32, 48]] false))
  rw [← xi.nx] at qs
  clear ri rs
  repeat' (first|(refine zcg ?_;first|refine zaa rfl ?_|refine zav rfl (by assumption) (by assumption) ?_|refine zaw rfl (by assumption) ?_|refine zad (by repeat (first|(apply Kept.cons; exact rfl)|apply Kept.nil|(apply Kept.miss; exact rfl))) ?_|(refine zch ?_;first|refine zaz rfl (by first|assumption|omega|exact fun h=>h rfl) ?_|refine zba rfl (by first|assumption|omega|exact fun h=>h rfl) ?_|refine zbb rfl (by first|assumption|omega|exact fun h=>h rfl) ?_|refine zbc rfl (by first|assumption|omega|exact fun h=>h rfl) ?_|refine zbd rfl (by first|rfl|assumption) ?_|refine zbe rfl (by first|rfl|assumption) ?_|refine zbf rfl (fun _ => ?_) fun _ => ?_|refine zbg rfl (fun _ => ?_) fun _ => ?_|refine zbh rfl (fun _ => ?_) fun _ => ?_)|(refine zci ?_;first|refine zaf rfl rfl ?_|refine zag rfl rfl ?_|refine zah rfl rfl ?_|refine zal rfl rfl ⟨by omega,by omega⟩ ?_|refine zai rfl rfl ?_|refine zaj rfl rfl ?_|refine zak rfl rfl ?_|refine zam rfl rfl ⟨by omega,by omega⟩ ?_|refine zcp rfl rfl ⟨by omega,by omega⟩ ?_|refine zcq rfl rfl ⟨by omega,by omega⟩ ?_|refine zau rfl rfl ?_)|(refine zcj ?_;first|refine zap rfl ?_|refine zaq rfl (by first|assumption|omega|exact fun h=>h rfl) rfl ?_|refine zar rfl (by first|assumption|omega|exact fun h=>h rfl) rfl ?_|refine zas rfl (by first|rfl|assumption) rfl ?_|refine zat rfl (by first|rfl|assumption) rfl ?_|refine zau rfl rfl ?_)|refine zan rfl ?_|refine zao rfl ?_|refine zcn rfl rfl ?_|refine zco rfl rfl ?_|refine zcr rfl rfl ?_|refine zau rfl rfl ?_|refine zax rfl rfl (by omega) ?_|refine zay rfl rfl (by omega) ?_)|(refine zck ?_;first|refine zab ?_|refine zac ?_|(refine zcl ?_;first|refine zbi rfl (by first|assumption|omega|exact fun h=>h rfl) ?_|refine zbj rfl (by first|assumption|omega|exact fun h=>h rfl) ?_|refine zbk rfl (by first|rfl|assumption) ?_|refine zbl rfl (by first|rfl|assumption) ?_|refine zbm rfl (fun _ => ?_) fun _ => ?_|refine zbn rfl (fun _ => ?_) fun _ => ?_)|refine zbo ?_|refine zbp ?_|refine zbq ?_|refine zbr ?_|refine zbs ?_|refine zbt ?_)|(refine zcm ?_;first|refine zae ?_|refine zbw ?_|refine zcc rfl ?_|refine zbu ?_|refine zbv ?_|refine zby ?_|refine zbz rfl ?_|refine zbx ?_|refine zcb ?_|refine zca ?_|refine zcd rfl ?_|refine zce rfl ?_|refine zcf rfl ?_))
  refine Ops.make rfl rfl ?_
  repeat' (first|(refine zcg ?_;first|refine zaa rfl ?_|refine zav rfl (by assumption) (by assumption) ?_|refine zaw rfl (by assumption) ?_|refine zad (by repeat (first|(apply Kept.cons; exact rfl)|apply Kept.nil|(apply Kept.miss; exact rfl))) ?_|(refine zch ?_;first|refine zaz rfl (by first|assumption|omega|exact fun h=>h rfl) ?_|refine zba rfl (by first|assumption|omega|exact fun h=>h rfl) ?_|refine zbb rfl (by first|assumption|omega|exact fun h=>h rfl) ?_|refine zbc rfl (by first|assumption|omega|exact fun h=>h rfl) ?_|refine zbd rfl (by first|rfl|assumption) ?_|refine zbe rfl (by first|rfl|assumption) ?_|refine zbf rfl (fun _ => ?_) fun _ => ?_|refine zbg rfl (fun _ => ?_) fun _ => ?_|refine zbh rfl (fun _ => ?_) fun _ => ?_)|(refine zci ?_;first|refine zaf rfl rfl ?_|refine zag rfl rfl ?_|refine zah rfl rfl ?_|refine zal rfl rfl ⟨by omega,by omega⟩ ?_|refine zai rfl rfl ?_|refine zaj rfl rfl ?_|refine zak rfl rfl ?_|refine zam rfl rfl ⟨by omega,by omega⟩ ?_|refine zcp rfl rfl ⟨by omega,by omega⟩ ?_|refine zcq rfl rfl ⟨by omega,by omega⟩ ?_|refine zau rfl rfl ?_)|(refine zcj ?_;first|refine zap rfl ?_|refine zaq rfl (by first|assumption|omega|exact fun h=>h rfl) rfl ?_|refine zar rfl (by first|assumption|omega|exact fun h=>h rfl) rfl ?_|refine zas rfl (by first|rfl|assumption) rfl ?_|refine zat rfl (by first|rfl|assumption) rfl ?_|refine zau rfl rfl ?_)|refine zan rfl ?_|refine zao rfl ?_|refine zcn rfl rfl ?_|refine zco rfl rfl ?_|refine zcr rfl rfl ?_|refine zau rfl rfl ?_|refine zax rfl rfl (by omega) ?_|refine zay rfl rfl (by omega) ?_)|(refine zck ?_;first|refine zab ?_|refine zac ?_|(refine zcl ?_;first|refine zbi rfl (by first|assumption|omega|exact fun h=>h rfl) ?_|refine zbj rfl (by first|assumption|omega|exact fun h=>h rfl) ?_|refine zbk rfl (by first|rfl|assumption) ?_|refine zbl rfl (by first|rfl|assumption) ?_|refine zbm rfl (fun _ => ?_) fun _ => ?_|refine zbn rfl (fun _ => ?_) fun _ => ?_)|refine zbo ?_|refine zbp ?_|refine zbq ?_|refine zbr ?_|refine zbs ?_|refine zbt ?_)|(refine zcm ?_;first|refine zae ?_|refine zbw ?_|refine zcc rfl ?_|refine zbu ?_|refine zbv ?_|refine zby ?_|refine zbz rfl ?_|refine zbx ?_|refine zcb ?_|refine zca ?_|refine zcd rfl ?_|refine zce rfl ?_|refine zcf rfl ?_))
  exact ⟨rfl, trivial⟩

end Am.Sigs
