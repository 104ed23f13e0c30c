/- The law SigsOnce, over the abstract machine. -/
import Derived.Test.YtkppkibkoefkjaaSigs2
import Derived.Test.YtkppkibkoefkjaaCalls
import Derived.Test.YtkppkibkoefkjaaOpen
import Derived.KernelRfl
namespace Am.Sigs
open Am Go

theorem cntCells_prs (l : List (Nat × Int)) : cntCells l = prs (l.map fun p => ((p.1 : Int), p.2)) := by
  induction l with
  | nil => rfl
  | cons p r ih => simp [cntCells, prs, ih]

/-- What the counts of a signal are in a list. -/
def sel : List (Nat × Int) → Int → Int
  | [], _ => 0
  | p :: r, s => (if (p.1 : Int) = s then p.2 else 0) + sel r s
theorem sel_append : ∀ l m s, sel (l ++ m) s = sel l s + sel m s
  | [], m, s => by simp [sel]
  | p :: r, m, s => by simp only [List.cons_append, sel, sel_append r m s]; omega
theorem sel_cnts (t : Tb) {s : Int} (hs : 1 ≤ s) : ∀ k : Nat, sel (t.cnts k) s = if s < k then t.pd s.toNat else 0
  | 0 => by rw [if_neg (by omega)]; rfl
  | k + 1 => by
    have ih := sel_cnts t hs k
    unfold Tb.cnts
    by_cases e : s = (k : Int)
    · subst e
      have e1 : (if (k : Int) < ((k + 1 : Nat) : Int) then t.pd (k : Int).toNat else 0) = t.pd k := by rw [if_pos (by omega), Int.toNat_natCast]
      rw [if_neg (by omega)] at ih
      rw [e1]
      by_cases hz : t.pd k = 0
      · rw [if_pos (Or.inr hz), ih, hz]
      · rw [if_neg (by omega), sel_append, ih]; simp [sel]
    · have e1 : (if s < ((k + 1 : Nat) : Int) then t.pd s.toNat else 0) = if s < (k : Int) then t.pd s.toNat else 0 := by
        by_cases h1 : s < (k : Int)
        · rw [if_pos h1, if_pos (by omega)]
        · rw [if_neg h1, if_neg (by omega)]
      rw [e1, ← ih]
      by_cases hz : k = 0 ∨ t.pd k = 0
      · rw [if_pos hz]
      · rw [if_neg hz, sel_append]
        have : ¬ (k : Int) = s := fun x => e x.symm
        simp [sel, this]
theorem sel_take_succ {l : List (Nat × Int)} {i : Nat} {p : Nat × Int} (h : l[i]? = some p) (s : Int) : sel (l.take (i + 1)) s = sel (l.take i) s + if (p.1 : Int) = s then p.2 else 0 := by
  rw [List.take_add_one, h, sel_append]; simp [sel]

/-- The example of the chapter is as it should be, whatever else there is. -/
theorem alive_run : (match callN prog fuel 19 (.fn F.roundhouselaw10_alive) [] ⟨1, .lf⟩ with | some (.bool b, _) => b | _ => false) = true := by kernel_rfl
theorem primsF : PrimsF prog := fun f p h => by cases h
theorem sp_alive {cl : Nat → Call} (hcl : Sem cl) {h0 : H} (hnx : h0.nx = 1) (hwf : ∀ j, 1 ≤ j → h0.get j = none) :
    ∃ h', cl 19 (.fn F.roundhouselaw10_alive) [] h0 = some (.bool true, h') ∧ 1 ≤ h'.nx ∧ ∀ o, h0.get 0 = some o → h'.get 0 = some o := by
  rw [hcl 19]
  have hr := alive_run
  split at hr
  · next b h1 e1 =>
    subst hr
    have hX : Ext (fun j => if j = 0 then h0.get 0 else none) ⟨1, .lf⟩ h0 := by
      refine ⟨hnx, fun j => ?_, fun j hj => ?_⟩
      · by_cases e : j = 0
        · subst e; simp [H.get, T.get]
        · simp [e, H.get, T.get]; exact hwf j (by omega)
      · have : j = 0 := by
          by_cases e : j = 0
          · exact e
          · simp [e] at hj
        subst this; exact ⟨by decide, rfl⟩
    obtain ⟨h2, q1, q2⟩ := (callN_F primsF fuel 19).1 _ _ _ _ _ e1 _ _ hX
    have hG := (callN_F primsF fuel 19).2 _ _ _ _ _ e1
    refine ⟨h2, q1, by rw [q2.nx]; exact hG, fun o hz => ?_⟩
    have := (q2.off 0 (by simp [hz])).2
    rw [q2.get 0, this]
    simp [hz]
  · cases hr


theorem Tb.handle_ok {t : Tb} {n : Int} (h : t.ok n) (hn : 0 ≤ n) (s : Int) (on : Bool) : (t.handle s on).ok n := by
  intro k
  have := h k
  unfold Tb.handle
  split
  · cases on <;> simp
    · split <;> omega
    · omega
  · exact this
theorem Tb.raise_ok {t : Tb} {n : Int} (h : t.ok n) (s : Int) : (t.raise s).ok (n + 1) := by
  intro k
  have := h k
  unfold Tb.raise
  split
  · simp only; split <;> omega
  · omega
theorem Tb.take_ok {t : Tb} {n : Int} (h : t.ok n) : t.take.ok n := by
  intro k
  have := h k
  unfold Tb.take
  simp only; split <;> omega
theorem Tb.ok.le {t : Tb} {n n' : Int} (h : t.ok n) (hn : n ≤ n') : t.ok n' := fun k => by have := h k; omega

set_option maxHeartbeats 4000000 in
/-- The law, over the abstract machine. -/
theorem once_am {cl : Nat → Call} (hcl : Sem cl) {l : List (Int × Int)} {sig : Int} {a : Option (Nat × Nat)} {c : Nat} {h0 : H} (hnx : h0.nx = 1) (hwf : ∀ j, 1 ≤ j → h0.get j = none)
    (hin : l ≠ [] → a = some (0, 0) ∧ h0.get 0 = some (.cells (prs l) true)) :
    ∃ h', cl 20 (.fn F.roundhouselaw10_SigsOnce) [.slice a l.length (.fix c), .i sig] h0 = some (.bool true, h') := by
  obtain ⟨h1, ha, hn1, hk1⟩ := sp_alive hcl hnx hwf
  suffices ∃ h', cl 20 (.fn F.roundhouselaw10_SigsOnce) [.slice a l.length (.fix c), .i sig] h0 = some (.bool true, h') ∧ True by
    obtain ⟨h', q, _⟩ := this; exact ⟨h', q⟩
  refine call_ex (at_ hcl (by omega) rfl rfl rfl ?_)
  by_cases hlen : 150 < (l.length : Int)
  case pos =>
    repeat' (first|(refine zcg ?_;first|refine zaa rfl ?_|refine zav rfl (by assumption) (by assumption) ?_|refine zaw rfl (by assumption) ?_|refine zad (by repeat (first|(apply Kept.cons; exact rfl)|apply Kept.nil|(apply Kept.miss; exact rfl))) ?_|(refine zch ?_;first|refine zaz rfl (by first|assumption|omega|exact fun h=>h rfl) ?_|refine zba rfl (by first|assumption|omega|exact fun h=>h rfl) ?_|refine zbb rfl (by first|assumption|omega|exact fun h=>h rfl) ?_|refine zbc rfl (by first|assumption|omega|exact fun h=>h rfl) ?_|refine zbd rfl (by first|assumption|rfl) ?_|refine zbe rfl (by first|assumption|rfl) ?_|refine zbf rfl (fun _ => ?_) fun _ => ?_|refine zbg rfl (fun _ => ?_) fun _ => ?_|refine zbh rfl (fun _ => ?_) fun _ => ?_)|(refine zci ?_;first|refine zaf rfl rfl ?_|refine zag rfl rfl ?_|refine zah rfl rfl ?_|refine zal rfl rfl ⟨by omega,by omega⟩ ?_|refine zai rfl rfl ?_|refine zaj rfl rfl ?_|refine zak rfl rfl ?_|refine zam rfl rfl ⟨by omega,by omega⟩ ?_|refine zau rfl rfl ?_)|(refine zcj ?_;first|refine zap rfl ?_|refine zaq rfl (by first|assumption|omega|exact fun h=>h rfl) rfl ?_|refine zar rfl (by first|assumption|omega|exact fun h=>h rfl) rfl ?_|refine zas rfl (by first|assumption|rfl) rfl ?_|refine zat rfl (by first|assumption|rfl) rfl ?_|refine zau rfl rfl ?_)|refine zan rfl ?_|refine zao rfl ?_|refine zcn rfl rfl ?_|refine zco rfl rfl ?_|refine zau rfl rfl ?_|refine zax rfl rfl (by omega) ?_|refine zay rfl rfl (by omega) ?_)|(refine zck ?_;first|refine zab ?_|refine zac ?_|(refine zcl ?_;first|refine zbi rfl (by first|assumption|omega|exact fun h=>h rfl) ?_|refine zbj rfl (by first|assumption|omega|exact fun h=>h rfl) ?_|refine zbk rfl (by first|assumption|rfl) ?_|refine zbl rfl (by first|assumption|rfl) ?_|refine zbm rfl (fun _ => ?_) fun _ => ?_|refine zbn rfl (fun _ => ?_) fun _ => ?_)|refine zbo ?_|refine zbp ?_|refine zbq ?_|refine zbr ?_|refine zbs ?_|refine zbt ?_)|(refine zcm ?_;first|refine zae ?_|refine zbw ?_|refine zcc rfl ?_|refine zbu ?_|refine zbv ?_|refine zby ?_|refine zbz rfl ?_|refine zbx ?_|refine zcb ?_|refine zca ?_|refine zcd rfl ?_|refine zce rfl ?_|refine zcf rfl ?_))
    exact ⟨rfl, trivial⟩
  repeat' (first|(refine zcg ?_;first|refine zaa rfl ?_|refine zav rfl (by assumption) (by assumption) ?_|refine zaw rfl (by assumption) ?_|refine zad (by repeat (first|(apply Kept.cons; exact rfl)|apply Kept.nil|(apply Kept.miss; exact rfl))) ?_|(refine zch ?_;first|refine zaz rfl (by first|assumption|omega|exact fun h=>h rfl) ?_|refine zba rfl (by first|assumption|omega|exact fun h=>h rfl) ?_|refine zbb rfl (by first|assumption|omega|exact fun h=>h rfl) ?_|refine zbc rfl (by first|assumption|omega|exact fun h=>h rfl) ?_|refine zbd rfl (by first|assumption|rfl) ?_|refine zbe rfl (by first|assumption|rfl) ?_|refine zbf rfl (fun _ => ?_) fun _ => ?_|refine zbg rfl (fun _ => ?_) fun _ => ?_|refine zbh rfl (fun _ => ?_) fun _ => ?_)|(refine zci ?_;first|refine zaf rfl rfl ?_|refine zag rfl rfl ?_|refine zah rfl rfl ?_|refine zal rfl rfl ⟨by omega,by omega⟩ ?_|refine zai rfl rfl ?_|refine zaj rfl rfl ?_|refine zak rfl rfl ?_|refine zam rfl rfl ⟨by omega,by omega⟩ ?_|refine zau rfl rfl ?_)|(refine zcj ?_;first|refine zap rfl ?_|refine zaq rfl (by first|assumption|omega|exact fun h=>h rfl) rfl ?_|refine zar rfl (by first|assumption|omega|exact fun h=>h rfl) rfl ?_|refine zas rfl (by first|assumption|rfl) rfl ?_|refine zat rfl (by first|assumption|rfl) rfl ?_|refine zau rfl rfl ?_)|refine zan rfl ?_|refine zao rfl ?_|refine zcn rfl rfl ?_|refine zco rfl rfl ?_|refine zau rfl rfl ?_|refine zax rfl rfl (by omega) ?_|refine zay rfl rfl (by omega) ?_)|(refine zck ?_;first|refine zab ?_|refine zac ?_|(refine zcl ?_;first|refine zbi rfl (by first|assumption|omega|exact fun h=>h rfl) ?_|refine zbj rfl (by first|assumption|omega|exact fun h=>h rfl) ?_|refine zbk rfl (by first|assumption|rfl) ?_|refine zbl rfl (by first|assumption|rfl) ?_|refine zbm rfl (fun _ => ?_) fun _ => ?_|refine zbn rfl (fun _ => ?_) fun _ => ?_)|refine zbo ?_|refine zbp ?_|refine zbq ?_|refine zbr ?_|refine zbs ?_|refine zbt ?_)|(refine zcm ?_;first|refine zae ?_|refine zbw ?_|refine zcc rfl ?_|refine zbu ?_|refine zbv ?_|refine zby ?_|refine zbz rfl ?_|refine zbx ?_|refine zcb ?_|refine zca ?_|refine zcd rfl ?_|refine zce rfl ?_|refine zcf rfl ?_))
  have hin1 : l ≠ [] → a = some (0, 0) ∧ h1.get 0 = some (.cells (prs l) true) := fun hl => ⟨(hin hl).1, hk1 _ (hin hl).2⟩
  clear hin hk1 hwf hnx ha
  have hnew := sp_new hcl (d := 19) (by omega) h1
  repeat' (first|(refine zcg ?_;first|refine zaa rfl ?_|refine zav rfl (by assumption) (by assumption) ?_|refine zaw rfl (by assumption) ?_|refine zad (by repeat (first|(apply Kept.cons; exact rfl)|apply Kept.nil|(apply Kept.miss; exact rfl))) ?_|(refine zch ?_;first|refine zaz rfl (by first|assumption|omega|exact fun h=>h rfl) ?_|refine zba rfl (by first|assumption|omega|exact fun h=>h rfl) ?_|refine zbb rfl (by first|assumption|omega|exact fun h=>h rfl) ?_|refine zbc rfl (by first|assumption|omega|exact fun h=>h rfl) ?_|refine zbd rfl (by first|assumption|rfl) ?_|refine zbe rfl (by first|assumption|rfl) ?_|refine zbf rfl (fun _ => ?_) fun _ => ?_|refine zbg rfl (fun _ => ?_) fun _ => ?_|refine zbh rfl (fun _ => ?_) fun _ => ?_)|(refine zci ?_;first|refine zaf rfl rfl ?_|refine zag rfl rfl ?_|refine zah rfl rfl ?_|refine zal rfl rfl ⟨by omega,by omega⟩ ?_|refine zai rfl rfl ?_|refine zaj rfl rfl ?_|refine zak rfl rfl ?_|refine zam rfl rfl ⟨by omega,by omega⟩ ?_|refine zau rfl rfl ?_)|(refine zcj ?_;first|refine zap rfl ?_|refine zaq rfl (by first|assumption|omega|exact fun h=>h rfl) rfl ?_|refine zar rfl (by first|assumption|omega|exact fun h=>h rfl) rfl ?_|refine zas rfl (by first|assumption|rfl) rfl ?_|refine zat rfl (by first|assumption|rfl) rfl ?_|refine zau rfl rfl ?_)|refine zan rfl ?_|refine zao rfl ?_|refine zcn rfl rfl ?_|refine zco rfl rfl ?_|refine zau rfl rfl ?_|refine zax rfl rfl (by omega) ?_|refine zay rfl rfl (by omega) ?_)|(refine zck ?_;first|refine zab ?_|refine zac ?_|(refine zcl ?_;first|refine zbi rfl (by first|assumption|omega|exact fun h=>h rfl) ?_|refine zbj rfl (by first|assumption|omega|exact fun h=>h rfl) ?_|refine zbk rfl (by first|assumption|rfl) ?_|refine zbl rfl (by first|assumption|rfl) ?_|refine zbm rfl (fun _ => ?_) fun _ => ?_|refine zbn rfl (fun _ => ?_) fun _ => ?_)|refine zbo ?_|refine zbp ?_|refine zbq ?_|refine zbr ?_|refine zbs ?_|refine zbt ?_)|(refine zcm ?_;first|refine zae ?_|refine zbw ?_|refine zcc rfl ?_|refine zbu ?_|refine zbv ?_|refine zby ?_|refine zbz rfl ?_|refine zbx ?_|refine zcb ?_|refine zca ?_|refine zcd rfl ?_|refine zce rfl ?_|refine zcf rfl ?_))
  have hb := get_new_self (h := h1) Tb.zero.obj
  obtain ⟨h2, q1, q2⟩ := sp_handle hcl (d := 19) (by omega) hb sig true
  by_cases hs : sig? sig
  case neg =>
    rw [if_neg hs] at q1
    repeat' (first|(refine zcg ?_;first|refine zaa rfl ?_|refine zav rfl (by assumption) (by assumption) ?_|refine zaw rfl (by assumption) ?_|refine zad (by repeat (first|(apply Kept.cons; exact rfl)|apply Kept.nil|(apply Kept.miss; exact rfl))) ?_|(refine zch ?_;first|refine zaz rfl (by first|assumption|omega|exact fun h=>h rfl) ?_|refine zba rfl (by first|assumption|omega|exact fun h=>h rfl) ?_|refine zbb rfl (by first|assumption|omega|exact fun h=>h rfl) ?_|refine zbc rfl (by first|assumption|omega|exact fun h=>h rfl) ?_|refine zbd rfl (by first|assumption|rfl) ?_|refine zbe rfl (by first|assumption|rfl) ?_|refine zbf rfl (fun _ => ?_) fun _ => ?_|refine zbg rfl (fun _ => ?_) fun _ => ?_|refine zbh rfl (fun _ => ?_) fun _ => ?_)|(refine zci ?_;first|refine zaf rfl rfl ?_|refine zag rfl rfl ?_|refine zah rfl rfl ?_|refine zal rfl rfl ⟨by omega,by omega⟩ ?_|refine zai rfl rfl ?_|refine zaj rfl rfl ?_|refine zak rfl rfl ?_|refine zam rfl rfl ⟨by omega,by omega⟩ ?_|refine zau rfl rfl ?_)|(refine zcj ?_;first|refine zap rfl ?_|refine zaq rfl (by first|assumption|omega|exact fun h=>h rfl) rfl ?_|refine zar rfl (by first|assumption|omega|exact fun h=>h rfl) rfl ?_|refine zas rfl (by first|assumption|rfl) rfl ?_|refine zat rfl (by first|assumption|rfl) rfl ?_|refine zau rfl rfl ?_)|refine zan rfl ?_|refine zao rfl ?_|refine zcn rfl rfl ?_|refine zco rfl rfl ?_|refine zau rfl rfl ?_|refine zax rfl rfl (by omega) ?_|refine zay rfl rfl (by omega) ?_)|(refine zck ?_;first|refine zab ?_|refine zac ?_|(refine zcl ?_;first|refine zbi rfl (by first|assumption|omega|exact fun h=>h rfl) ?_|refine zbj rfl (by first|assumption|omega|exact fun h=>h rfl) ?_|refine zbk rfl (by first|assumption|rfl) ?_|refine zbl rfl (by first|assumption|rfl) ?_|refine zbm rfl (fun _ => ?_) fun _ => ?_|refine zbn rfl (fun _ => ?_) fun _ => ?_)|refine zbo ?_|refine zbp ?_|refine zbq ?_|refine zbr ?_|refine zbs ?_|refine zbt ?_)|(refine zcm ?_;first|refine zae ?_|refine zbw ?_|refine zcc rfl ?_|refine zbu ?_|refine zbv ?_|refine zby ?_|refine zbz rfl ?_|refine zbx ?_|refine zcb ?_|refine zca ?_|refine zcd rfl ?_|refine zce rfl ?_|refine zcf rfl ?_))
    obtain ⟨h3, r1, _⟩ := sp_raise hcl (d := 19) (by omega) q2.self sig (by
      refine Tb.handle_ok (fun k => ?_) (by omega) _ _
      simp [Tb.zero])
    rw [if_neg hs] at r1
    repeat' (first|(refine zcg ?_;first|refine zaa rfl ?_|refine zav rfl (by assumption) (by assumption) ?_|refine zaw rfl (by assumption) ?_|refine zad (by repeat (first|(apply Kept.cons; exact rfl)|apply Kept.nil|(apply Kept.miss; exact rfl))) ?_|(refine zch ?_;first|refine zaz rfl (by first|assumption|omega|exact fun h=>h rfl) ?_|refine zba rfl (by first|assumption|omega|exact fun h=>h rfl) ?_|refine zbb rfl (by first|assumption|omega|exact fun h=>h rfl) ?_|refine zbc rfl (by first|assumption|omega|exact fun h=>h rfl) ?_|refine zbd rfl (by first|assumption|rfl) ?_|refine zbe rfl (by first|assumption|rfl) ?_|refine zbf rfl (fun _ => ?_) fun _ => ?_|refine zbg rfl (fun _ => ?_) fun _ => ?_|refine zbh rfl (fun _ => ?_) fun _ => ?_)|(refine zci ?_;first|refine zaf rfl rfl ?_|refine zag rfl rfl ?_|refine zah rfl rfl ?_|refine zal rfl rfl ⟨by omega,by omega⟩ ?_|refine zai rfl rfl ?_|refine zaj rfl rfl ?_|refine zak rfl rfl ?_|refine zam rfl rfl ⟨by omega,by omega⟩ ?_|refine zau rfl rfl ?_)|(refine zcj ?_;first|refine zap rfl ?_|refine zaq rfl (by first|assumption|omega|exact fun h=>h rfl) rfl ?_|refine zar rfl (by first|assumption|omega|exact fun h=>h rfl) rfl ?_|refine zas rfl (by first|assumption|rfl) rfl ?_|refine zat rfl (by first|assumption|rfl) rfl ?_|refine zau rfl rfl ?_)|refine zan rfl ?_|refine zao rfl ?_|refine zcn rfl rfl ?_|refine zco rfl rfl ?_|refine zau rfl rfl ?_|refine zax rfl rfl (by omega) ?_|refine zay rfl rfl (by omega) ?_)|(refine zck ?_;first|refine zab ?_|refine zac ?_|(refine zcl ?_;first|refine zbi rfl (by first|assumption|omega|exact fun h=>h rfl) ?_|refine zbj rfl (by first|assumption|omega|exact fun h=>h rfl) ?_|refine zbk rfl (by first|assumption|rfl) ?_|refine zbl rfl (by first|assumption|rfl) ?_|refine zbm rfl (fun _ => ?_) fun _ => ?_|refine zbn rfl (fun _ => ?_) fun _ => ?_)|refine zbo ?_|refine zbp ?_|refine zbq ?_|refine zbr ?_|refine zbs ?_|refine zbt ?_)|(refine zcm ?_;first|refine zae ?_|refine zbw ?_|refine zcc rfl ?_|refine zbu ?_|refine zbv ?_|refine zby ?_|refine zbz rfl ?_|refine zbx ?_|refine zcb ?_|refine zca ?_|refine zcd rfl ?_|refine zce rfl ?_|refine zcf rfl ?_))
    exact ⟨rfl, trivial⟩
  rw [if_pos hs] at q1
  obtain ⟨s1, s2⟩ := hs
  repeat' (first|(refine zcg ?_;first|refine zaa rfl ?_|refine zav rfl (by assumption) (by assumption) ?_|refine zaw rfl (by assumption) ?_|refine zad (by repeat (first|(apply Kept.cons; exact rfl)|apply Kept.nil|(apply Kept.miss; exact rfl))) ?_|(refine zch ?_;first|refine zaz rfl (by first|assumption|omega|exact fun h=>h rfl) ?_|refine zba rfl (by first|assumption|omega|exact fun h=>h rfl) ?_|refine zbb rfl (by first|assumption|omega|exact fun h=>h rfl) ?_|refine zbc rfl (by first|assumption|omega|exact fun h=>h rfl) ?_|refine zbd rfl (by first|assumption|rfl) ?_|refine zbe rfl (by first|assumption|rfl) ?_|refine zbf rfl (fun _ => ?_) fun _ => ?_|refine zbg rfl (fun _ => ?_) fun _ => ?_|refine zbh rfl (fun _ => ?_) fun _ => ?_)|(refine zci ?_;first|refine zaf rfl rfl ?_|refine zag rfl rfl ?_|refine zah rfl rfl ?_|refine zal rfl rfl ⟨by omega,by omega⟩ ?_|refine zai rfl rfl ?_|refine zaj rfl rfl ?_|refine zak rfl rfl ?_|refine zam rfl rfl ⟨by omega,by omega⟩ ?_|refine zau rfl rfl ?_)|(refine zcj ?_;first|refine zap rfl ?_|refine zaq rfl (by first|assumption|omega|exact fun h=>h rfl) rfl ?_|refine zar rfl (by first|assumption|omega|exact fun h=>h rfl) rfl ?_|refine zas rfl (by first|assumption|rfl) rfl ?_|refine zat rfl (by first|assumption|rfl) rfl ?_|refine zau rfl rfl ?_)|refine zan rfl ?_|refine zao rfl ?_|refine zcn rfl rfl ?_|refine zco rfl rfl ?_|refine zau rfl rfl ?_|refine zax rfl rfl (by omega) ?_|refine zay rfl rfl (by omega) ?_)|(refine zck ?_;first|refine zab ?_|refine zac ?_|(refine zcl ?_;first|refine zbi rfl (by first|assumption|omega|exact fun h=>h rfl) ?_|refine zbj rfl (by first|assumption|omega|exact fun h=>h rfl) ?_|refine zbk rfl (by first|assumption|rfl) ?_|refine zbl rfl (by first|assumption|rfl) ?_|refine zbm rfl (fun _ => ?_) fun _ => ?_|refine zbn rfl (fun _ => ?_) fun _ => ?_)|refine zbo ?_|refine zbp ?_|refine zbq ?_|refine zbr ?_|refine zbs ?_|refine zbt ?_)|(refine zcm ?_;first|refine zae ?_|refine zbw ?_|refine zcc rfl ?_|refine zbu ?_|refine zbv ?_|refine zby ?_|refine zbz rfl ?_|refine zbx ?_|refine zcb ?_|refine zca ?_|refine zcd rfl ?_|refine zce rfl ?_|refine zcf rfl ?_))
  refine Run.loop (fun m e h => ∃ (i : Nat) (raised told : Int) (T : Tb), m = l.length - i ∧ i ≤ l.length ∧ e = [(0, .slice a l.length (.fix c)), (1, .i sig), (5, .bool true), (6, .p h1.nx 0), (8, .i raised), (9, .i told), (10, .i i)] ∧
      h.get h1.nx = some T.obj ∧ T.hd sig.toNat = true ∧ T.ok i ∧ told + T.pd sig.toNat = raised ∧ 0 ≤ told ∧ raised ≤ i ∧ h1.nx < h.nx ∧ (l ≠ [] → a = some (0, 0) ∧ h.get 0 = some (.cells (prs l) true)))
    (k := l.length) (by show _ < 100000; omega) ⟨0, 0, 0, _, rfl, by omega, rfl, q2.self, ?_, ?_, ?_, by omega, by omega, by rw [q2.nx]; simp, fun hl => ⟨(hin1 hl).1, ?_⟩⟩ ?_
  · rw [Tb.handle, if_pos ⟨s1, s2⟩]; simp
  · refine Tb.handle_ok (fun k => ?_) (by omega) _ _
    simp [Tb.zero]
  · rw [Tb.handle, if_pos ⟨s1, s2⟩]; simp [Tb.zero]
  · rw [q2.get _ (by omega), get_new_lt (by omega), (hin1 hl).2]
  clear q1 q2 hnew hb
  rintro _ _ h ⟨i, raised, told, T, rfl, hi, rfl, tb, thd, tok, ts, t0, tr, hnxt, hinl⟩ n ih
  by_cases hlt : i < l.length
  case neg =>
    have hcnt := sp_count hcl (d := 19) (by omega) tb sig
    rw [show T.cnt sig = T.pd sig.toNat by rw [Tb.cnt, if_pos ⟨s1, s2⟩]] at hcnt
    have hb := tok sig.toNat
    repeat' (first|(refine zcg ?_;first|refine zaa rfl ?_|refine zav rfl (by assumption) (by assumption) ?_|refine zaw rfl (by assumption) ?_|refine zad (by repeat (first|(apply Kept.cons; exact rfl)|apply Kept.nil|(apply Kept.miss; exact rfl))) ?_|(refine zch ?_;first|refine zaz rfl (by first|assumption|omega|exact fun h=>h rfl) ?_|refine zba rfl (by first|assumption|omega|exact fun h=>h rfl) ?_|refine zbb rfl (by first|assumption|omega|exact fun h=>h rfl) ?_|refine zbc rfl (by first|assumption|omega|exact fun h=>h rfl) ?_|refine zbd rfl (by first|assumption|rfl) ?_|refine zbe rfl (by first|assumption|rfl) ?_|refine zbf rfl (fun _ => ?_) fun _ => ?_|refine zbg rfl (fun _ => ?_) fun _ => ?_|refine zbh rfl (fun _ => ?_) fun _ => ?_)|(refine zci ?_;first|refine zaf rfl rfl ?_|refine zag rfl rfl ?_|refine zah rfl rfl ?_|refine zal rfl rfl ⟨by omega,by omega⟩ ?_|refine zai rfl rfl ?_|refine zaj rfl rfl ?_|refine zak rfl rfl ?_|refine zam rfl rfl ⟨by omega,by omega⟩ ?_|refine zau rfl rfl ?_)|(refine zcj ?_;first|refine zap rfl ?_|refine zaq rfl (by first|assumption|omega|exact fun h=>h rfl) rfl ?_|refine zar rfl (by first|assumption|omega|exact fun h=>h rfl) rfl ?_|refine zas rfl (by first|assumption|rfl) rfl ?_|refine zat rfl (by first|assumption|rfl) rfl ?_|refine zau rfl rfl ?_)|refine zan rfl ?_|refine zao rfl ?_|refine zcn rfl rfl ?_|refine zco rfl rfl ?_|refine zau rfl rfl ?_|refine zax rfl rfl (by omega) ?_|refine zay rfl rfl (by omega) ?_)|(refine zck ?_;first|refine zab ?_|refine zac ?_|(refine zcl ?_;first|refine zbi rfl (by first|assumption|omega|exact fun h=>h rfl) ?_|refine zbj rfl (by first|assumption|omega|exact fun h=>h rfl) ?_|refine zbk rfl (by first|assumption|rfl) ?_|refine zbl rfl (by first|assumption|rfl) ?_|refine zbm rfl (fun _ => ?_) fun _ => ?_|refine zbn rfl (fun _ => ?_) fun _ => ?_)|refine zbo ?_|refine zbp ?_|refine zbq ?_|refine zbr ?_|refine zbs ?_|refine zbt ?_)|(refine zcm ?_;first|refine zae ?_|refine zbw ?_|refine zcc rfl ?_|refine zbu ?_|refine zbv ?_|refine zby ?_|refine zbz rfl ?_|refine zbx ?_|refine zcb ?_|refine zca ?_|refine zcd rfl ?_|refine zce rfl ?_|refine zcf rfl ?_))
    exact ⟨by rw [decide_eq_true ts], trivial⟩
  obtain ⟨rfl, hin⟩ := hinl (by rintro rfl; simp at hlt)
  have hp := List.getElem?_eq_getElem hlt
  generalize l[i] = p at hp
  obtain ⟨kind, s⟩ := p
  have hk : (prs l)[0 + (i : Int).toNat * 2 + 0]? = some (.i kind) := prs_fst hp (by omega)
  have hk2 : (prs l)[0 + (i : Int).toNat * 2 + 1]? = some (.i s) := prs_snd hp (by omega)
  have hb0 : (0 : Nat) ≠ h1.nx := by omega
  have hs0 := tok sig.toNat
  have hr0 : 0 ≤ raised := by omega
  have hi1 : ((i + 1 : Nat) : Int) = (i : Int) + 1 := by omega
  by_cases c0 : kind = 0
  case pos =>
    obtain ⟨h3, r1, r2⟩ := sp_handle hcl (d := 19) (by omega) tb s true
    repeat' (first|(refine zcg ?_;first|refine zaa rfl ?_|refine zav rfl (by assumption) (by assumption) ?_|refine zaw rfl (by assumption) ?_|refine zad (by repeat (first|(apply Kept.cons; exact rfl)|apply Kept.nil|(apply Kept.miss; exact rfl))) ?_|(refine zch ?_;first|refine zaz rfl (by first|assumption|omega|exact fun h=>h rfl) ?_|refine zba rfl (by first|assumption|omega|exact fun h=>h rfl) ?_|refine zbb rfl (by first|assumption|omega|exact fun h=>h rfl) ?_|refine zbc rfl (by first|assumption|omega|exact fun h=>h rfl) ?_|refine zbd rfl (by first|assumption|rfl) ?_|refine zbe rfl (by first|assumption|rfl) ?_|refine zbf rfl (fun _ => ?_) fun _ => ?_|refine zbg rfl (fun _ => ?_) fun _ => ?_|refine zbh rfl (fun _ => ?_) fun _ => ?_)|(refine zci ?_;first|refine zaf rfl rfl ?_|refine zag rfl rfl ?_|refine zah rfl rfl ?_|refine zal rfl rfl ⟨by omega,by omega⟩ ?_|refine zai rfl rfl ?_|refine zaj rfl rfl ?_|refine zak rfl rfl ?_|refine zam rfl rfl ⟨by omega,by omega⟩ ?_|refine zau rfl rfl ?_)|(refine zcj ?_;first|refine zap rfl ?_|refine zaq rfl (by first|assumption|omega|exact fun h=>h rfl) rfl ?_|refine zar rfl (by first|assumption|omega|exact fun h=>h rfl) rfl ?_|refine zas rfl (by first|assumption|rfl) rfl ?_|refine zat rfl (by first|assumption|rfl) rfl ?_|refine zau rfl rfl ?_)|refine zan rfl ?_|refine zao rfl ?_|refine zcn rfl rfl ?_|refine zco rfl rfl ?_|refine zau rfl rfl ?_|refine zax rfl rfl (by omega) ?_|refine zay rfl rfl (by omega) ?_)|(refine zck ?_;first|refine zab ?_|refine zac ?_|(refine zcl ?_;first|refine zbi rfl (by first|assumption|omega|exact fun h=>h rfl) ?_|refine zbj rfl (by first|assumption|omega|exact fun h=>h rfl) ?_|refine zbk rfl (by first|assumption|rfl) ?_|refine zbl rfl (by first|assumption|rfl) ?_|refine zbm rfl (fun _ => ?_) fun _ => ?_|refine zbn rfl (fun _ => ?_) fun _ => ?_)|refine zbo ?_|refine zbp ?_|refine zbq ?_|refine zbr ?_|refine zbs ?_|refine zbt ?_)|(refine zcm ?_;first|refine zae ?_|refine zbw ?_|refine zcc rfl ?_|refine zbu ?_|refine zbv ?_|refine zby ?_|refine zbz rfl ?_|refine zbx ?_|refine zcb ?_|refine zca ?_|refine zcd rfl ?_|refine zce rfl ?_|refine zcf rfl ?_))
    refine ih (l.length - (i + 1)) (by omega) _ _ ⟨i + 1, raised, told, T.handle s true, rfl, by omega, rfl, r2.self, ?_, (Tb.handle_ok tok (by omega) _ _).le (by omega), ?_, t0, by omega, by rw [r2.nx]; exact hnxt, fun hl => ⟨rfl, by rw [r2.get 0 hb0, hin]⟩⟩
    · unfold Tb.handle; split
      · simp [thd]
      · exact thd
    · unfold Tb.handle; split
      · simpa using ts
      · exact ts
  by_cases c1 : kind = 1
  case pos =>
    by_cases cs : s = sig
    case pos =>
      repeat' (first|(refine zcg ?_;first|refine zaa rfl ?_|refine zav rfl (by assumption) (by assumption) ?_|refine zaw rfl (by assumption) ?_|refine zad (by repeat (first|(apply Kept.cons; exact rfl)|apply Kept.nil|(apply Kept.miss; exact rfl))) ?_|(refine zch ?_;first|refine zaz rfl (by first|assumption|omega|exact fun h=>h rfl) ?_|refine zba rfl (by first|assumption|omega|exact fun h=>h rfl) ?_|refine zbb rfl (by first|assumption|omega|exact fun h=>h rfl) ?_|refine zbc rfl (by first|assumption|omega|exact fun h=>h rfl) ?_|refine zbd rfl (by first|assumption|rfl) ?_|refine zbe rfl (by first|assumption|rfl) ?_|refine zbf rfl (fun _ => ?_) fun _ => ?_|refine zbg rfl (fun _ => ?_) fun _ => ?_|refine zbh rfl (fun _ => ?_) fun _ => ?_)|(refine zci ?_;first|refine zaf rfl rfl ?_|refine zag rfl rfl ?_|refine zah rfl rfl ?_|refine zal rfl rfl ⟨by omega,by omega⟩ ?_|refine zai rfl rfl ?_|refine zaj rfl rfl ?_|refine zak rfl rfl ?_|refine zam rfl rfl ⟨by omega,by omega⟩ ?_|refine zau rfl rfl ?_)|(refine zcj ?_;first|refine zap rfl ?_|refine zaq rfl (by first|assumption|omega|exact fun h=>h rfl) rfl ?_|refine zar rfl (by first|assumption|omega|exact fun h=>h rfl) rfl ?_|refine zas rfl (by first|assumption|rfl) rfl ?_|refine zat rfl (by first|assumption|rfl) rfl ?_|refine zau rfl rfl ?_)|refine zan rfl ?_|refine zao rfl ?_|refine zcn rfl rfl ?_|refine zco rfl rfl ?_|refine zau rfl rfl ?_|refine zax rfl rfl (by omega) ?_|refine zay rfl rfl (by omega) ?_)|(refine zck ?_;first|refine zab ?_|refine zac ?_|(refine zcl ?_;first|refine zbi rfl (by first|assumption|omega|exact fun h=>h rfl) ?_|refine zbj rfl (by first|assumption|omega|exact fun h=>h rfl) ?_|refine zbk rfl (by first|assumption|rfl) ?_|refine zbl rfl (by first|assumption|rfl) ?_|refine zbm rfl (fun _ => ?_) fun _ => ?_|refine zbn rfl (fun _ => ?_) fun _ => ?_)|refine zbo ?_|refine zbp ?_|refine zbq ?_|refine zbr ?_|refine zbs ?_|refine zbt ?_)|(refine zcm ?_;first|refine zae ?_|refine zbw ?_|refine zcc rfl ?_|refine zbu ?_|refine zbv ?_|refine zby ?_|refine zbz rfl ?_|refine zbx ?_|refine zcb ?_|refine zca ?_|refine zcd rfl ?_|refine zce rfl ?_|refine zcf rfl ?_))
      exact ih (l.length - (i + 1)) (by omega) _ _ ⟨i + 1, raised, told, T, rfl, by omega, rfl, tb, thd, tok.le (by omega), ts, t0, by omega, hnxt, fun hl => ⟨rfl, hin⟩⟩
    obtain ⟨h3, r1, r2⟩ := sp_handle hcl (d := 19) (by omega) tb s false
    repeat' (first|(refine zcg ?_;first|refine zaa rfl ?_|refine zav rfl (by assumption) (by assumption) ?_|refine zaw rfl (by assumption) ?_|refine zad (by repeat (first|(apply Kept.cons; exact rfl)|apply Kept.nil|(apply Kept.miss; exact rfl))) ?_|(refine zch ?_;first|refine zaz rfl (by first|assumption|omega|exact fun h=>h rfl) ?_|refine zba rfl (by first|assumption|omega|exact fun h=>h rfl) ?_|refine zbb rfl (by first|assumption|omega|exact fun h=>h rfl) ?_|refine zbc rfl (by first|assumption|omega|exact fun h=>h rfl) ?_|refine zbd rfl (by first|assumption|rfl) ?_|refine zbe rfl (by first|assumption|rfl) ?_|refine zbf rfl (fun _ => ?_) fun _ => ?_|refine zbg rfl (fun _ => ?_) fun _ => ?_|refine zbh rfl (fun _ => ?_) fun _ => ?_)|(refine zci ?_;first|refine zaf rfl rfl ?_|refine zag rfl rfl ?_|refine zah rfl rfl ?_|refine zal rfl rfl ⟨by omega,by omega⟩ ?_|refine zai rfl rfl ?_|refine zaj rfl rfl ?_|refine zak rfl rfl ?_|refine zam rfl rfl ⟨by omega,by omega⟩ ?_|refine zau rfl rfl ?_)|(refine zcj ?_;first|refine zap rfl ?_|refine zaq rfl (by first|assumption|omega|exact fun h=>h rfl) rfl ?_|refine zar rfl (by first|assumption|omega|exact fun h=>h rfl) rfl ?_|refine zas rfl (by first|assumption|rfl) rfl ?_|refine zat rfl (by first|assumption|rfl) rfl ?_|refine zau rfl rfl ?_)|refine zan rfl ?_|refine zao rfl ?_|refine zcn rfl rfl ?_|refine zco rfl rfl ?_|refine zau rfl rfl ?_|refine zax rfl rfl (by omega) ?_|refine zay rfl rfl (by omega) ?_)|(refine zck ?_;first|refine zab ?_|refine zac ?_|(refine zcl ?_;first|refine zbi rfl (by first|assumption|omega|exact fun h=>h rfl) ?_|refine zbj rfl (by first|assumption|omega|exact fun h=>h rfl) ?_|refine zbk rfl (by first|assumption|rfl) ?_|refine zbl rfl (by first|assumption|rfl) ?_|refine zbm rfl (fun _ => ?_) fun _ => ?_|refine zbn rfl (fun _ => ?_) fun _ => ?_)|refine zbo ?_|refine zbp ?_|refine zbq ?_|refine zbr ?_|refine zbs ?_|refine zbt ?_)|(refine zcm ?_;first|refine zae ?_|refine zbw ?_|refine zcc rfl ?_|refine zbu ?_|refine zbv ?_|refine zby ?_|refine zbz rfl ?_|refine zbx ?_|refine zcb ?_|refine zca ?_|refine zcd rfl ?_|refine zce rfl ?_|refine zcf rfl ?_))
    refine ih (l.length - (i + 1)) (by omega) _ _ ⟨i + 1, raised, told, T.handle s false, rfl, by omega, rfl, r2.self, ?_, (Tb.handle_ok tok (by omega) _ _).le (by omega), ?_, t0, by omega, by rw [r2.nx]; exact hnxt, fun hl => ⟨rfl, by rw [r2.get 0 hb0, hin]⟩⟩
    · unfold Tb.handle; split
      · next hs => simp only; rw [if_neg (by omega)]; exact thd
      · exact thd
    · unfold Tb.handle; split
      · next hs =>
        have : (if false = true then T.pd else fun j => if j = s.toNat then 0 else T.pd j) sig.toNat = T.pd sig.toNat := by
          simp only [Bool.false_eq_true, if_false]; rw [if_neg (by omega)]
        simp only [this]; exact ts
      · exact ts
  by_cases c2 : kind = 2
  case pos =>
    obtain ⟨h3, r1, r2⟩ := sp_raise hcl (d := 19) (by omega) tb s (tok.le (by omega))
    have hin3 : h3.get 0 = some (.cells (prs l) true) := by rw [r2.get 0 hb0, hin]
    have hnx3 : h1.nx < h3.nx := by rw [r2.nx]; exact hnxt
    by_cases cs : s = sig
    case pos =>
      subst cs
      repeat' (first|(refine zcg ?_;first|refine zaa rfl ?_|refine zav rfl (by assumption) (by assumption) ?_|refine zaw rfl (by assumption) ?_|refine zad (by repeat (first|(apply Kept.cons; exact rfl)|apply Kept.nil|(apply Kept.miss; exact rfl))) ?_|(refine zch ?_;first|refine zaz rfl (by first|assumption|omega|exact fun h=>h rfl) ?_|refine zba rfl (by first|assumption|omega|exact fun h=>h rfl) ?_|refine zbb rfl (by first|assumption|omega|exact fun h=>h rfl) ?_|refine zbc rfl (by first|assumption|omega|exact fun h=>h rfl) ?_|refine zbd rfl (by first|assumption|rfl) ?_|refine zbe rfl (by first|assumption|rfl) ?_|refine zbf rfl (fun _ => ?_) fun _ => ?_|refine zbg rfl (fun _ => ?_) fun _ => ?_|refine zbh rfl (fun _ => ?_) fun _ => ?_)|(refine zci ?_;first|refine zaf rfl rfl ?_|refine zag rfl rfl ?_|refine zah rfl rfl ?_|refine zal rfl rfl ⟨by omega,by omega⟩ ?_|refine zai rfl rfl ?_|refine zaj rfl rfl ?_|refine zak rfl rfl ?_|refine zam rfl rfl ⟨by omega,by omega⟩ ?_|refine zau rfl rfl ?_)|(refine zcj ?_;first|refine zap rfl ?_|refine zaq rfl (by first|assumption|omega|exact fun h=>h rfl) rfl ?_|refine zar rfl (by first|assumption|omega|exact fun h=>h rfl) rfl ?_|refine zas rfl (by first|assumption|rfl) rfl ?_|refine zat rfl (by first|assumption|rfl) rfl ?_|refine zau rfl rfl ?_)|refine zan rfl ?_|refine zao rfl ?_|refine zcn rfl rfl ?_|refine zco rfl rfl ?_|refine zau rfl rfl ?_|refine zax rfl rfl (by omega) ?_|refine zay rfl rfl (by omega) ?_)|(refine zck ?_;first|refine zab ?_|refine zac ?_|(refine zcl ?_;first|refine zbi rfl (by first|assumption|omega|exact fun h=>h rfl) ?_|refine zbj rfl (by first|assumption|omega|exact fun h=>h rfl) ?_|refine zbk rfl (by first|assumption|rfl) ?_|refine zbl rfl (by first|assumption|rfl) ?_|refine zbm rfl (fun _ => ?_) fun _ => ?_|refine zbn rfl (fun _ => ?_) fun _ => ?_)|refine zbo ?_|refine zbp ?_|refine zbq ?_|refine zbr ?_|refine zbs ?_|refine zbt ?_)|(refine zcm ?_;first|refine zae ?_|refine zbw ?_|refine zcc rfl ?_|refine zbu ?_|refine zbv ?_|refine zby ?_|refine zbz rfl ?_|refine zbx ?_|refine zcb ?_|refine zca ?_|refine zcd rfl ?_|refine zce rfl ?_|refine zcf rfl ?_))
      refine ih (l.length - (i + 1)) (by omega) _ _ ⟨i + 1, raised + 1, told, T.raise s, rfl, by omega, rfl, r2.self, ?_, (Tb.raise_ok tok _).le (by omega), ?_, t0, by omega, hnx3, fun hl => ⟨rfl, hin3⟩⟩
      · rw [Tb.raise, if_pos ⟨⟨s1, s2⟩, thd⟩]; exact thd
      · rw [Tb.raise, if_pos ⟨⟨s1, s2⟩, thd⟩]; simp only [if_true]; omega
    repeat' (first|(refine zcg ?_;first|refine zaa rfl ?_|refine zav rfl (by assumption) (by assumption) ?_|refine zaw rfl (by assumption) ?_|refine zad (by repeat (first|(apply Kept.cons; exact rfl)|apply Kept.nil|(apply Kept.miss; exact rfl))) ?_|(refine zch ?_;first|refine zaz rfl (by first|assumption|omega|exact fun h=>h rfl) ?_|refine zba rfl (by first|assumption|omega|exact fun h=>h rfl) ?_|refine zbb rfl (by first|assumption|omega|exact fun h=>h rfl) ?_|refine zbc rfl (by first|assumption|omega|exact fun h=>h rfl) ?_|refine zbd rfl (by first|assumption|rfl) ?_|refine zbe rfl (by first|assumption|rfl) ?_|refine zbf rfl (fun _ => ?_) fun _ => ?_|refine zbg rfl (fun _ => ?_) fun _ => ?_|refine zbh rfl (fun _ => ?_) fun _ => ?_)|(refine zci ?_;first|refine zaf rfl rfl ?_|refine zag rfl rfl ?_|refine zah rfl rfl ?_|refine zal rfl rfl ⟨by omega,by omega⟩ ?_|refine zai rfl rfl ?_|refine zaj rfl rfl ?_|refine zak rfl rfl ?_|refine zam rfl rfl ⟨by omega,by omega⟩ ?_|refine zau rfl rfl ?_)|(refine zcj ?_;first|refine zap rfl ?_|refine zaq rfl (by first|assumption|omega|exact fun h=>h rfl) rfl ?_|refine zar rfl (by first|assumption|omega|exact fun h=>h rfl) rfl ?_|refine zas rfl (by first|assumption|rfl) rfl ?_|refine zat rfl (by first|assumption|rfl) rfl ?_|refine zau rfl rfl ?_)|refine zan rfl ?_|refine zao rfl ?_|refine zcn rfl rfl ?_|refine zco rfl rfl ?_|refine zau rfl rfl ?_|refine zax rfl rfl (by omega) ?_|refine zay rfl rfl (by omega) ?_)|(refine zck ?_;first|refine zab ?_|refine zac ?_|(refine zcl ?_;first|refine zbi rfl (by first|assumption|omega|exact fun h=>h rfl) ?_|refine zbj rfl (by first|assumption|omega|exact fun h=>h rfl) ?_|refine zbk rfl (by first|assumption|rfl) ?_|refine zbl rfl (by first|assumption|rfl) ?_|refine zbm rfl (fun _ => ?_) fun _ => ?_|refine zbn rfl (fun _ => ?_) fun _ => ?_)|refine zbo ?_|refine zbp ?_|refine zbq ?_|refine zbr ?_|refine zbs ?_|refine zbt ?_)|(refine zcm ?_;first|refine zae ?_|refine zbw ?_|refine zcc rfl ?_|refine zbu ?_|refine zbv ?_|refine zby ?_|refine zbz rfl ?_|refine zbx ?_|refine zcb ?_|refine zca ?_|refine zcd rfl ?_|refine zce rfl ?_|refine zcf rfl ?_))
    refine ih (l.length - (i + 1)) (by omega) _ _ ⟨i + 1, raised, told, T.raise s, rfl, by omega, rfl, r2.self, ?_, (Tb.raise_ok tok _).le (by omega), ?_, t0, by omega, hnx3, fun hl => ⟨rfl, hin3⟩⟩
    · unfold Tb.raise; split <;> exact thd
    · unfold Tb.raise; split
      · simp only; rw [if_neg (by omega)]; exact ts
      · exact ts
  by_cases c3 : kind = 3
  case neg =>
    repeat' (first|(refine zcg ?_;first|refine zaa rfl ?_|refine zav rfl (by assumption) (by assumption) ?_|refine zaw rfl (by assumption) ?_|refine zad (by repeat (first|(apply Kept.cons; exact rfl)|apply Kept.nil|(apply Kept.miss; exact rfl))) ?_|(refine zch ?_;first|refine zaz rfl (by first|assumption|omega|exact fun h=>h rfl) ?_|refine zba rfl (by first|assumption|omega|exact fun h=>h rfl) ?_|refine zbb rfl (by first|assumption|omega|exact fun h=>h rfl) ?_|refine zbc rfl (by first|assumption|omega|exact fun h=>h rfl) ?_|refine zbd rfl (by first|assumption|rfl) ?_|refine zbe rfl (by first|assumption|rfl) ?_|refine zbf rfl (fun _ => ?_) fun _ => ?_|refine zbg rfl (fun _ => ?_) fun _ => ?_|refine zbh rfl (fun _ => ?_) fun _ => ?_)|(refine zci ?_;first|refine zaf rfl rfl ?_|refine zag rfl rfl ?_|refine zah rfl rfl ?_|refine zal rfl rfl ⟨by omega,by omega⟩ ?_|refine zai rfl rfl ?_|refine zaj rfl rfl ?_|refine zak rfl rfl ?_|refine zam rfl rfl ⟨by omega,by omega⟩ ?_|refine zau rfl rfl ?_)|(refine zcj ?_;first|refine zap rfl ?_|refine zaq rfl (by first|assumption|omega|exact fun h=>h rfl) rfl ?_|refine zar rfl (by first|assumption|omega|exact fun h=>h rfl) rfl ?_|refine zas rfl (by first|assumption|rfl) rfl ?_|refine zat rfl (by first|assumption|rfl) rfl ?_|refine zau rfl rfl ?_)|refine zan rfl ?_|refine zao rfl ?_|refine zcn rfl rfl ?_|refine zco rfl rfl ?_|refine zau rfl rfl ?_|refine zax rfl rfl (by omega) ?_|refine zay rfl rfl (by omega) ?_)|(refine zck ?_;first|refine zab ?_|refine zac ?_|(refine zcl ?_;first|refine zbi rfl (by first|assumption|omega|exact fun h=>h rfl) ?_|refine zbj rfl (by first|assumption|omega|exact fun h=>h rfl) ?_|refine zbk rfl (by first|assumption|rfl) ?_|refine zbl rfl (by first|assumption|rfl) ?_|refine zbm rfl (fun _ => ?_) fun _ => ?_|refine zbn rfl (fun _ => ?_) fun _ => ?_)|refine zbo ?_|refine zbp ?_|refine zbq ?_|refine zbr ?_|refine zbs ?_|refine zbt ?_)|(refine zcm ?_;first|refine zae ?_|refine zbw ?_|refine zcc rfl ?_|refine zbu ?_|refine zbv ?_|refine zby ?_|refine zbz rfl ?_|refine zbx ?_|refine zcb ?_|refine zca ?_|refine zcd rfl ?_|refine zce rfl ?_|refine zcf rfl ?_))
    exact ih (l.length - (i + 1)) (by omega) _ _ ⟨i + 1, raised, told, T, rfl, by omega, rfl, tb, thd, tok.le (by omega), ts, t0, by omega, hnxt, fun hl => ⟨rfl, hin⟩⟩
  obtain ⟨v, h3, r1, r2, r3, r4⟩ := sp_take hcl (d := 19) (by omega) tb hnxt
  have hin3 : h3.get 0 = some (.cells (prs l) true) := by rw [r4.get 0 (by omega) hb0, hin]
  have hnx3 : h1.nx < h3.nx := by have := r4.nx; omega
  have hlen3 := T.cnts_len 32
  obtain ⟨cap, hsv, hix⟩ := r2.shape
  obtain ⟨a3, rfl⟩ := hsv
  have hsel := sel_cnts T s1 32
  rw [if_pos (by omega)] at hsel
  repeat' (first|(refine zcg ?_;first|refine zaa rfl ?_|refine zav rfl (by assumption) (by assumption) ?_|refine zaw rfl (by assumption) ?_|refine zad (by repeat (first|(apply Kept.cons; exact rfl)|apply Kept.nil|(apply Kept.miss; exact rfl))) ?_|(refine zch ?_;first|refine zaz rfl (by first|assumption|omega|exact fun h=>h rfl) ?_|refine zba rfl (by first|assumption|omega|exact fun h=>h rfl) ?_|refine zbb rfl (by first|assumption|omega|exact fun h=>h rfl) ?_|refine zbc rfl (by first|assumption|omega|exact fun h=>h rfl) ?_|refine zbd rfl (by first|assumption|rfl) ?_|refine zbe rfl (by first|assumption|rfl) ?_|refine zbf rfl (fun _ => ?_) fun _ => ?_|refine zbg rfl (fun _ => ?_) fun _ => ?_|refine zbh rfl (fun _ => ?_) fun _ => ?_)|(refine zci ?_;first|refine zaf rfl rfl ?_|refine zag rfl rfl ?_|refine zah rfl rfl ?_|refine zal rfl rfl ⟨by omega,by omega⟩ ?_|refine zai rfl rfl ?_|refine zaj rfl rfl ?_|refine zak rfl rfl ?_|refine zam rfl rfl ⟨by omega,by omega⟩ ?_|refine zau rfl rfl ?_)|(refine zcj ?_;first|refine zap rfl ?_|refine zaq rfl (by first|assumption|omega|exact fun h=>h rfl) rfl ?_|refine zar rfl (by first|assumption|omega|exact fun h=>h rfl) rfl ?_|refine zas rfl (by first|assumption|rfl) rfl ?_|refine zat rfl (by first|assumption|rfl) rfl ?_|refine zau rfl rfl ?_)|refine zan rfl ?_|refine zao rfl ?_|refine zcn rfl rfl ?_|refine zco rfl rfl ?_|refine zau rfl rfl ?_|refine zax rfl rfl (by omega) ?_|refine zay rfl rfl (by omega) ?_)|(refine zck ?_;first|refine zab ?_|refine zac ?_|(refine zcl ?_;first|refine zbi rfl (by first|assumption|omega|exact fun h=>h rfl) ?_|refine zbj rfl (by first|assumption|omega|exact fun h=>h rfl) ?_|refine zbk rfl (by first|assumption|rfl) ?_|refine zbl rfl (by first|assumption|rfl) ?_|refine zbm rfl (fun _ => ?_) fun _ => ?_|refine zbn rfl (fun _ => ?_) fun _ => ?_)|refine zbo ?_|refine zbp ?_|refine zbq ?_|refine zbr ?_|refine zbs ?_|refine zbt ?_)|(refine zcm ?_;first|refine zae ?_|refine zbw ?_|refine zcc rfl ?_|refine zbu ?_|refine zbv ?_|refine zby ?_|refine zbz rfl ?_|refine zbx ?_|refine zcb ?_|refine zca ?_|refine zcd rfl ?_|refine zce rfl ?_|refine zcf rfl ?_))
  refine Run.loop (fun m e h => ∃ (k : Nat) (t' : Int), m = (T.cnts 32).length - k ∧ k ≤ (T.cnts 32).length ∧ h = h3 ∧ t' = told + sel ((T.cnts 32).take k) sig ∧ 0 ≤ t' ∧ t' ≤ told + k * 1000 ∧
      e = [(0, .slice (some (0, 0)) l.length (.fix c)), (1, .i sig), (5, .bool true), (6, .p h1.nx 0), (8, .i raised), (9, .i t'), (10, .i i), (11, .slice a3 (T.cnts 32).length cap), (12, .i k)])
    (k := (T.cnts 32).length) (by show _ < 100000; omega) ⟨0, told, rfl, by omega, rfl, by simp [sel], t0, by omega, rfl⟩ ?_
  rintro _ _ _ ⟨k, t', rfl, hk4, rfl, ht', ht0, ht1, rfl⟩ n2 ih2
  by_cases hlt2 : k < (T.cnts 32).length
  case neg =>
    have hke : k = (T.cnts 32).length := by omega
    subst hke
    rw [List.take_length, hsel] at ht'
    repeat' (first|(refine zcg ?_;first|refine zaa rfl ?_|refine zav rfl (by assumption) (by assumption) ?_|refine zaw rfl (by assumption) ?_|refine zad (by repeat (first|(apply Kept.cons; exact rfl)|apply Kept.nil|(apply Kept.miss; exact rfl))) ?_|(refine zch ?_;first|refine zaz rfl (by first|assumption|omega|exact fun h=>h rfl) ?_|refine zba rfl (by first|assumption|omega|exact fun h=>h rfl) ?_|refine zbb rfl (by first|assumption|omega|exact fun h=>h rfl) ?_|refine zbc rfl (by first|assumption|omega|exact fun h=>h rfl) ?_|refine zbd rfl (by first|assumption|rfl) ?_|refine zbe rfl (by first|assumption|rfl) ?_|refine zbf rfl (fun _ => ?_) fun _ => ?_|refine zbg rfl (fun _ => ?_) fun _ => ?_|refine zbh rfl (fun _ => ?_) fun _ => ?_)|(refine zci ?_;first|refine zaf rfl rfl ?_|refine zag rfl rfl ?_|refine zah rfl rfl ?_|refine zal rfl rfl ⟨by omega,by omega⟩ ?_|refine zai rfl rfl ?_|refine zaj rfl rfl ?_|refine zak rfl rfl ?_|refine zam rfl rfl ⟨by omega,by omega⟩ ?_|refine zau rfl rfl ?_)|(refine zcj ?_;first|refine zap rfl ?_|refine zaq rfl (by first|assumption|omega|exact fun h=>h rfl) rfl ?_|refine zar rfl (by first|assumption|omega|exact fun h=>h rfl) rfl ?_|refine zas rfl (by first|assumption|rfl) rfl ?_|refine zat rfl (by first|assumption|rfl) rfl ?_|refine zau rfl rfl ?_)|refine zan rfl ?_|refine zao rfl ?_|refine zcn rfl rfl ?_|refine zco rfl rfl ?_|refine zau rfl rfl ?_|refine zax rfl rfl (by omega) ?_|refine zay rfl rfl (by omega) ?_)|(refine zck ?_;first|refine zab ?_|refine zac ?_|(refine zcl ?_;first|refine zbi rfl (by first|assumption|omega|exact fun h=>h rfl) ?_|refine zbj rfl (by first|assumption|omega|exact fun h=>h rfl) ?_|refine zbk rfl (by first|assumption|rfl) ?_|refine zbl rfl (by first|assumption|rfl) ?_|refine zbm rfl (fun _ => ?_) fun _ => ?_|refine zbn rfl (fun _ => ?_) fun _ => ?_)|refine zbo ?_|refine zbp ?_|refine zbq ?_|refine zbr ?_|refine zbs ?_|refine zbt ?_)|(refine zcm ?_;first|refine zae ?_|refine zbw ?_|refine zcc rfl ?_|refine zbu ?_|refine zbv ?_|refine zby ?_|refine zbz rfl ?_|refine zbx ?_|refine zcb ?_|refine zca ?_|refine zcd rfl ?_|refine zce rfl ?_|refine zcf rfl ?_))
    refine ih (l.length - (i + 1)) (by omega) _ _ ⟨i + 1, raised, t', T.take, rfl, by omega, rfl, r3, thd, (Tb.take_ok tok).le (by omega), ?_, by omega, by omega, hnx3, fun hl => ⟨rfl, hin3⟩⟩
    have : T.take.pd sig.toNat = 0 := by unfold Tb.take; simp only; rw [if_pos (by omega)]
    rw [this]; omega
  obtain ⟨q, x1, x2, x3, x4⟩ := hix k hlt2
  cases x3
  have hp2 := List.getElem?_eq_getElem hlt2
  generalize (T.cnts 32)[k] = p at hp2
  have hmem := Tb.cnts_mem (List.mem_of_getElem? hp2)
  have hpd := tok p.1
  have hst := sel_take_succ hp2 sig
  have hc1 : (cntCells (T.cnts 32))[0 + (k : Int).toNat * 2 + 0]? = some (.i p.1) := by
    rw [cntCells_prs]; exact prs_fst (p := ((p.1 : Int), p.2)) (i := k) (by simp [hp2]) (by omega)
  have hc2 : (cntCells (T.cnts 32))[0 + (k : Int).toNat * 2 + 1]? = some (.i p.2) := by
    rw [cntCells_prs]; exact prs_snd (p := ((p.1 : Int), p.2)) (i := k) (by simp [hp2]) (by omega)
  by_cases cs : (p.1 : Int) = sig
  case pos =>
    rw [if_pos cs] at hst
    repeat' (first|(refine zcg ?_;first|refine zaa rfl ?_|refine zav rfl (by assumption) (by assumption) ?_|refine zaw rfl (by assumption) ?_|refine zad (by repeat (first|(apply Kept.cons; exact rfl)|apply Kept.nil|(apply Kept.miss; exact rfl))) ?_|(refine zch ?_;first|refine zaz rfl (by first|assumption|omega|exact fun h=>h rfl) ?_|refine zba rfl (by first|assumption|omega|exact fun h=>h rfl) ?_|refine zbb rfl (by first|assumption|omega|exact fun h=>h rfl) ?_|refine zbc rfl (by first|assumption|omega|exact fun h=>h rfl) ?_|refine zbd rfl (by first|assumption|rfl) ?_|refine zbe rfl (by first|assumption|rfl) ?_|refine zbf rfl (fun _ => ?_) fun _ => ?_|refine zbg rfl (fun _ => ?_) fun _ => ?_|refine zbh rfl (fun _ => ?_) fun _ => ?_)|(refine zci ?_;first|refine zaf rfl rfl ?_|refine zag rfl rfl ?_|refine zah rfl rfl ?_|refine zal rfl rfl ⟨by omega,by omega⟩ ?_|refine zai rfl rfl ?_|refine zaj rfl rfl ?_|refine zak rfl rfl ?_|refine zam rfl rfl ⟨by omega,by omega⟩ ?_|refine zau rfl rfl ?_)|(refine zcj ?_;first|refine zap rfl ?_|refine zaq rfl (by first|assumption|omega|exact fun h=>h rfl) rfl ?_|refine zar rfl (by first|assumption|omega|exact fun h=>h rfl) rfl ?_|refine zas rfl (by first|assumption|rfl) rfl ?_|refine zat rfl (by first|assumption|rfl) rfl ?_|refine zau rfl rfl ?_)|refine zan rfl ?_|refine zao rfl ?_|refine zcn rfl rfl ?_|refine zco rfl rfl ?_|refine zau rfl rfl ?_|refine zax rfl rfl (by omega) ?_|refine zay rfl rfl (by omega) ?_)|(refine zck ?_;first|refine zab ?_|refine zac ?_|(refine zcl ?_;first|refine zbi rfl (by first|assumption|omega|exact fun h=>h rfl) ?_|refine zbj rfl (by first|assumption|omega|exact fun h=>h rfl) ?_|refine zbk rfl (by first|assumption|rfl) ?_|refine zbl rfl (by first|assumption|rfl) ?_|refine zbm rfl (fun _ => ?_) fun _ => ?_|refine zbn rfl (fun _ => ?_) fun _ => ?_)|refine zbo ?_|refine zbp ?_|refine zbq ?_|refine zbr ?_|refine zbs ?_|refine zbt ?_)|(refine zcm ?_;first|refine zae ?_|refine zbw ?_|refine zcc rfl ?_|refine zbu ?_|refine zbv ?_|refine zby ?_|refine zbz rfl ?_|refine zbx ?_|refine zcb ?_|refine zca ?_|refine zcd rfl ?_|refine zce rfl ?_|refine zcf rfl ?_))
    exact ih2 ((T.cnts 32).length - (k + 1)) (by omega) _ _ ⟨k + 1, t' + p.2, rfl, by omega, rfl, by omega, by omega, by omega, rfl⟩
  rw [if_neg cs] at hst
  repeat' (first|(refine zcg ?_;first|refine zaa rfl ?_|refine zav rfl (by assumption) (by assumption) ?_|refine zaw rfl (by assumption) ?_|refine zad (by repeat (first|(apply Kept.cons; exact rfl)|apply Kept.nil|(apply Kept.miss; exact rfl))) ?_|(refine zch ?_;first|refine zaz rfl (by first|assumption|omega|exact fun h=>h rfl) ?_|refine zba rfl (by first|assumption|omega|exact fun h=>h rfl) ?_|refine zbb rfl (by first|assumption|omega|exact fun h=>h rfl) ?_|refine zbc rfl (by first|assumption|omega|exact fun h=>h rfl) ?_|refine zbd rfl (by first|assumption|rfl) ?_|refine zbe rfl (by first|assumption|rfl) ?_|refine zbf rfl (fun _ => ?_) fun _ => ?_|refine zbg rfl (fun _ => ?_) fun _ => ?_|refine zbh rfl (fun _ => ?_) fun _ => ?_)|(refine zci ?_;first|refine zaf rfl rfl ?_|refine zag rfl rfl ?_|refine zah rfl rfl ?_|refine zal rfl rfl ⟨by omega,by omega⟩ ?_|refine zai rfl rfl ?_|refine zaj rfl rfl ?_|refine zak rfl rfl ?_|refine zam rfl rfl ⟨by omega,by omega⟩ ?_|refine zau rfl rfl ?_)|(refine zcj ?_;first|refine zap rfl ?_|refine zaq rfl (by first|assumption|omega|exact fun h=>h rfl) rfl ?_|refine zar rfl (by first|assumption|omega|exact fun h=>h rfl) rfl ?_|refine zas rfl (by first|assumption|rfl) rfl ?_|refine zat rfl (by first|assumption|rfl) rfl ?_|refine zau rfl rfl ?_)|refine zan rfl ?_|refine zao rfl ?_|refine zcn rfl rfl ?_|refine zco rfl rfl ?_|refine zau rfl rfl ?_|refine zax rfl rfl (by omega) ?_|refine zay rfl rfl (by omega) ?_)|(refine zck ?_;first|refine zab ?_|refine zac ?_|(refine zcl ?_;first|refine zbi rfl (by first|assumption|omega|exact fun h=>h rfl) ?_|refine zbj rfl (by first|assumption|omega|exact fun h=>h rfl) ?_|refine zbk rfl (by first|assumption|rfl) ?_|refine zbl rfl (by first|assumption|rfl) ?_|refine zbm rfl (fun _ => ?_) fun _ => ?_|refine zbn rfl (fun _ => ?_) fun _ => ?_)|refine zbo ?_|refine zbp ?_|refine zbq ?_|refine zbr ?_|refine zbs ?_|refine zbt ?_)|(refine zcm ?_;first|refine zae ?_|refine zbw ?_|refine zcc rfl ?_|refine zbu ?_|refine zbv ?_|refine zby ?_|refine zbz rfl ?_|refine zbx ?_|refine zcb ?_|refine zca ?_|refine zcd rfl ?_|refine zce rfl ?_|refine zcf rfl ?_))
  exact ih2 ((T.cnts 32).length - (k + 1)) (by omega) _ _ ⟨k + 1, t', rfl, by omega, rfl, by omega, by omega, by omega, rfl⟩

end Am.Sigs
