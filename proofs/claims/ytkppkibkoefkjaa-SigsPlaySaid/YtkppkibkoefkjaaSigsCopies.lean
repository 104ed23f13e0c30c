/- The law SigsCopies, over the abstract machine. -/
import Derived.Test.YtkppkibkoefkjaaSigsOnce
namespace Am.Sigs
open Am Go

/-- All counts of a list. -/
def tot : List (Nat × Int) → Int
  | [] => 0
  | p :: r => p.2 + tot r
theorem tot_append : ∀ l m, tot (l ++ m) = tot l + tot m
  | [], m => by simp [tot]
  | p :: r, m => by simp only [List.cons_append, tot, tot_append r m]; omega
theorem tot_cnts (t : Tb) : ∀ k, tot (t.cnts k) = t.sum k
  | 0 => rfl
  | k + 1 => by
    have ih := tot_cnts t k
    unfold Tb.cnts Tb.sum
    by_cases hz : k = 0 ∨ t.pd k = 0
    · rw [if_pos hz, if_pos hz, ih]
    · rw [if_neg hz, if_neg hz, tot_append, ih]; simp [tot]
theorem tot_take_succ {l : List (Nat × Int)} {i : Nat} {p : Nat × Int} (h : l[i]? = some p) : tot (l.take (i + 1)) = tot (l.take i) + p.2 := by
  rw [List.take_add_one, h, tot_append]; simp [tot]
theorem sum_take (t : Tb) : ∀ k, k ≤ 32 → t.take.sum k = 0
  | 0, _ => rfl
  | k + 1, h => by
    have ih := sum_take t k (by omega)
    unfold Tb.sum
    rw [if_pos, ih]
    by_cases h0 : k = 0
    · exact Or.inl h0
    · refine Or.inr ?_
      unfold Tb.take; simp only; rw [if_pos (by omega)]
theorem cnts_rising (t : Tb) : ∀ {n k : Nat} {p p' : Nat × Int}, (t.cnts n)[k]? = some p' → (t.cnts n)[k + 1]? = some p → p'.1 < p.1
  | 0, k, p, p', h, _ => by simp [Tb.cnts] at h
  | n + 1, k, p, p', h, h' => by
    unfold Tb.cnts at h h'
    split at h
    · next hz => rw [if_pos hz] at h'; exact cnts_rising t h h'
    · next hz =>
      rw [if_neg hz] at h'
      rw [List.getElem?_append] at h h'
      split at h'
      · next hlt => rw [if_pos (by omega)] at h; exact cnts_rising t h h'
      · next hge =>
        by_cases hk : k < (t.cnts n).length
        · rw [if_pos hk] at h
          have h3 := Tb.cnts_mem (List.mem_of_getElem? h)
          have : k + 1 - (t.cnts n).length = 0 := by omega
          rw [this] at h'
          simp at h'
          subst h'
          exact h3.2.1
        · rw [if_neg hk] at h
          rcases Nat.lt_or_ge (k + 1 - (t.cnts n).length) 1 with h5 | h5
          · omega
          · rw [List.getElem?_eq_none (by simpa using h5)] at h'; cases h'
theorem cnts_len_le {t t' : Tb} (hp : ∀ j, 1 ≤ j → t.pd j ≠ 0 → t'.pd j ≠ 0) : ∀ k, (t.cnts k).length ≤ (t'.cnts k).length
  | 0 => Nat.le_refl _
  | k + 1 => by
    have ih := cnts_len_le hp k
    unfold Tb.cnts
    by_cases hz : k = 0 ∨ t.pd k = 0
    · rw [if_pos hz]
      split
      · exact ih
      · simp; omega
    · rw [if_neg hz, if_neg]
      · simp; omega
      · rintro (h | h)
        · exact hz (.inl h)
        · exact hp k (by omega) (fun e => hz (.inr e)) h

set_option maxHeartbeats 4000000 in
/-- The law, over the abstract machine. -/
theorem copies_am {cl : Nat → Call} (hcl : Sem cl) {l : List (Int × Int)} {sig : Int} {a : Option (Nat × Nat)} {c : Nat} {h0 : H} (hnx : h0.nx = 1) (hwf : ∀ j, 1 ≤ j → h0.get j = none)
    (hin : l ≠ [] → a = some (0, 0) ∧ h0.get 0 = some (.cells (prs l) true)) :
    ∃ h', cl 20 (.fn F.roundhouselaw10_SigsCopies) [.slice a l.length (.fix c), .i sig] h0 = some (.bool true, h') := by
  obtain ⟨h1, ha, hn1, hk1⟩ := sp_alive hcl hnx hwf
  suffices ∃ h', cl 20 (.fn F.roundhouselaw10_SigsCopies) [.slice a l.length (.fix c), .i sig] h0 = some (.bool true, h') ∧ True by
    obtain ⟨h', q, _⟩ := this; exact ⟨h', q⟩
  refine call_ex (at_ hcl (by omega) rfl rfl rfl ?_)
  by_cases hlen : 200 < (l.length : Int)
  case pos =>
    repeat' (first|(refine zcg ?_;first|refine zaa rfl ?_|refine zav rfl (by repeat (first|assumption|exact get_set_self _|refine Eq.trans (get_set_ne (by first|assumption|omega)) ?_|exact get_new_self _|refine Eq.trans (get_new_lt (by first|assumption|omega|(simp only [H.nx_set,H.nx_new,H.nx_kill];omega))) ?_)) (by first|assumption|rfl) ?_|refine zaw rfl (by assumption) ?_|refine zad (by repeat (first|(apply Kept.cons; exact rfl)|apply Kept.nil|(apply Kept.miss; exact rfl))) ?_|(refine zch ?_;first|refine zaz rfl (by first|assumption|omega|exact fun h=>h rfl) ?_|refine zba rfl (by first|assumption|omega|exact fun h=>h rfl) ?_|refine zbb rfl (by first|assumption|omega|exact fun h=>h rfl) ?_|refine zbc rfl (by first|assumption|omega|exact fun h=>h rfl) ?_|refine zbd rfl (by first|rfl|assumption) ?_|refine zbe rfl (by first|rfl|assumption) ?_|refine zbf rfl (fun _ => ?_) fun _ => ?_|refine zbg rfl (fun _ => ?_) fun _ => ?_|refine zbh rfl (fun _ => ?_) fun _ => ?_)|(refine zci ?_;first|refine zaf rfl rfl ?_|refine zag rfl rfl ?_|refine zah rfl rfl ?_|refine zal rfl rfl ⟨by omega,by omega⟩ ?_|refine zai rfl rfl ?_|refine zaj rfl rfl ?_|refine zak rfl rfl ?_|refine zam rfl rfl ⟨by omega,by omega⟩ ?_|refine zcp rfl rfl ⟨by omega,by omega⟩ ?_|refine zcq rfl rfl ⟨by omega,by omega⟩ ?_|refine zau rfl rfl ?_)|(refine zcj ?_;first|refine zap rfl ?_|refine zaq rfl (by first|assumption|omega|exact fun h=>h rfl) rfl ?_|refine zar rfl (by first|assumption|omega|exact fun h=>h rfl) rfl ?_|refine zas rfl (by first|rfl|assumption) rfl ?_|refine zat rfl (by first|rfl|assumption) rfl ?_|refine zau rfl rfl ?_)|refine zan rfl ?_|refine zao rfl ?_|refine zcn rfl rfl ?_|refine zco rfl rfl ?_|refine zcr rfl rfl ?_|refine zau rfl rfl ?_|refine zax rfl rfl (by omega) ?_|refine zay rfl rfl (by omega) ?_)|(refine zck ?_;first|refine zab ?_|refine zac ?_|(refine zcl ?_;first|refine zbi rfl (by first|assumption|omega|exact fun h=>h rfl) ?_|refine zbj rfl (by first|assumption|omega|exact fun h=>h rfl) ?_|refine zbk rfl (by first|rfl|assumption) ?_|refine zbl rfl (by first|rfl|assumption) ?_|refine zbm rfl (fun _ => ?_) fun _ => ?_|refine zbn rfl (fun _ => ?_) fun _ => ?_)|refine zbo ?_|refine zbp ?_|refine zbq ?_|refine zbr ?_|refine zbs ?_|refine zbt ?_)|(refine zcm ?_;first|refine zae ?_|refine zbw ?_|refine zcc rfl ?_|refine zbu ?_|refine zbv ?_|refine zby ?_|refine zbz rfl ?_|refine zbx ?_|refine zcb ?_|refine zca ?_|refine zcd rfl ?_|refine zce rfl ?_|refine zcf rfl ?_))
    exact ⟨rfl, trivial⟩
  repeat' (first|(refine zcg ?_;first|refine zaa rfl ?_|refine zav rfl (by repeat (first|assumption|exact get_set_self _|refine Eq.trans (get_set_ne (by first|assumption|omega)) ?_|exact get_new_self _|refine Eq.trans (get_new_lt (by first|assumption|omega|(simp only [H.nx_set,H.nx_new,H.nx_kill];omega))) ?_)) (by first|assumption|rfl) ?_|refine zaw rfl (by assumption) ?_|refine zad (by repeat (first|(apply Kept.cons; exact rfl)|apply Kept.nil|(apply Kept.miss; exact rfl))) ?_|(refine zch ?_;first|refine zaz rfl (by first|assumption|omega|exact fun h=>h rfl) ?_|refine zba rfl (by first|assumption|omega|exact fun h=>h rfl) ?_|refine zbb rfl (by first|assumption|omega|exact fun h=>h rfl) ?_|refine zbc rfl (by first|assumption|omega|exact fun h=>h rfl) ?_|refine zbd rfl (by first|rfl|assumption) ?_|refine zbe rfl (by first|rfl|assumption) ?_|refine zbf rfl (fun _ => ?_) fun _ => ?_|refine zbg rfl (fun _ => ?_) fun _ => ?_|refine zbh rfl (fun _ => ?_) fun _ => ?_)|(refine zci ?_;first|refine zaf rfl rfl ?_|refine zag rfl rfl ?_|refine zah rfl rfl ?_|refine zal rfl rfl ⟨by omega,by omega⟩ ?_|refine zai rfl rfl ?_|refine zaj rfl rfl ?_|refine zak rfl rfl ?_|refine zam rfl rfl ⟨by omega,by omega⟩ ?_|refine zcp rfl rfl ⟨by omega,by omega⟩ ?_|refine zcq rfl rfl ⟨by omega,by omega⟩ ?_|refine zau rfl rfl ?_)|(refine zcj ?_;first|refine zap rfl ?_|refine zaq rfl (by first|assumption|omega|exact fun h=>h rfl) rfl ?_|refine zar rfl (by first|assumption|omega|exact fun h=>h rfl) rfl ?_|refine zas rfl (by first|rfl|assumption) rfl ?_|refine zat rfl (by first|rfl|assumption) rfl ?_|refine zau rfl rfl ?_)|refine zan rfl ?_|refine zao rfl ?_|refine zcn rfl rfl ?_|refine zco rfl rfl ?_|refine zcr rfl rfl ?_|refine zau rfl rfl ?_|refine zax rfl rfl (by omega) ?_|refine zay rfl rfl (by omega) ?_)|(refine zck ?_;first|refine zab ?_|refine zac ?_|(refine zcl ?_;first|refine zbi rfl (by first|assumption|omega|exact fun h=>h rfl) ?_|refine zbj rfl (by first|assumption|omega|exact fun h=>h rfl) ?_|refine zbk rfl (by first|rfl|assumption) ?_|refine zbl rfl (by first|rfl|assumption) ?_|refine zbm rfl (fun _ => ?_) fun _ => ?_|refine zbn rfl (fun _ => ?_) fun _ => ?_)|refine zbo ?_|refine zbp ?_|refine zbq ?_|refine zbr ?_|refine zbs ?_|refine zbt ?_)|(refine zcm ?_;first|refine zae ?_|refine zbw ?_|refine zcc rfl ?_|refine zbu ?_|refine zbv ?_|refine zby ?_|refine zbz rfl ?_|refine zbx ?_|refine zcb ?_|refine zca ?_|refine zcd rfl ?_|refine zce rfl ?_|refine zcf rfl ?_))
  have hin1 : l ≠ [] → a = some (0, 0) ∧ h1.get 0 = some (.cells (prs l) true) := fun hl => ⟨(hin hl).1, hk1 _ (hin hl).2⟩
  clear hin hk1 hwf hnx ha
  have hnew := sp_new hcl (d := 19) (by omega) h1
  repeat' (first|(refine zcg ?_;first|refine zaa rfl ?_|refine zav rfl (by repeat (first|assumption|exact get_set_self _|refine Eq.trans (get_set_ne (by first|assumption|omega)) ?_|exact get_new_self _|refine Eq.trans (get_new_lt (by first|assumption|omega|(simp only [H.nx_set,H.nx_new,H.nx_kill];omega))) ?_)) (by first|assumption|rfl) ?_|refine zaw rfl (by assumption) ?_|refine zad (by repeat (first|(apply Kept.cons; exact rfl)|apply Kept.nil|(apply Kept.miss; exact rfl))) ?_|(refine zch ?_;first|refine zaz rfl (by first|assumption|omega|exact fun h=>h rfl) ?_|refine zba rfl (by first|assumption|omega|exact fun h=>h rfl) ?_|refine zbb rfl (by first|assumption|omega|exact fun h=>h rfl) ?_|refine zbc rfl (by first|assumption|omega|exact fun h=>h rfl) ?_|refine zbd rfl (by first|rfl|assumption) ?_|refine zbe rfl (by first|rfl|assumption) ?_|refine zbf rfl (fun _ => ?_) fun _ => ?_|refine zbg rfl (fun _ => ?_) fun _ => ?_|refine zbh rfl (fun _ => ?_) fun _ => ?_)|(refine zci ?_;first|refine zaf rfl rfl ?_|refine zag rfl rfl ?_|refine zah rfl rfl ?_|refine zal rfl rfl ⟨by omega,by omega⟩ ?_|refine zai rfl rfl ?_|refine zaj rfl rfl ?_|refine zak rfl rfl ?_|refine zam rfl rfl ⟨by omega,by omega⟩ ?_|refine zcp rfl rfl ⟨by omega,by omega⟩ ?_|refine zcq rfl rfl ⟨by omega,by omega⟩ ?_|refine zau rfl rfl ?_)|(refine zcj ?_;first|refine zap rfl ?_|refine zaq rfl (by first|assumption|omega|exact fun h=>h rfl) rfl ?_|refine zar rfl (by first|assumption|omega|exact fun h=>h rfl) rfl ?_|refine zas rfl (by first|rfl|assumption) rfl ?_|refine zat rfl (by first|rfl|assumption) rfl ?_|refine zau rfl rfl ?_)|refine zan rfl ?_|refine zao rfl ?_|refine zcn rfl rfl ?_|refine zco rfl rfl ?_|refine zcr rfl rfl ?_|refine zau rfl rfl ?_|refine zax rfl rfl (by omega) ?_|refine zay rfl rfl (by omega) ?_)|(refine zck ?_;first|refine zab ?_|refine zac ?_|(refine zcl ?_;first|refine zbi rfl (by first|assumption|omega|exact fun h=>h rfl) ?_|refine zbj rfl (by first|assumption|omega|exact fun h=>h rfl) ?_|refine zbk rfl (by first|rfl|assumption) ?_|refine zbl rfl (by first|rfl|assumption) ?_|refine zbm rfl (fun _ => ?_) fun _ => ?_|refine zbn rfl (fun _ => ?_) fun _ => ?_)|refine zbo ?_|refine zbp ?_|refine zbq ?_|refine zbr ?_|refine zbs ?_|refine zbt ?_)|(refine zcm ?_;first|refine zae ?_|refine zbw ?_|refine zcc rfl ?_|refine zbu ?_|refine zbv ?_|refine zby ?_|refine zbz rfl ?_|refine zbx ?_|refine zcb ?_|refine zca ?_|refine zcd rfl ?_|refine zce rfl ?_|refine zcf rfl ?_))
  refine Run.loop (fun m e h => ∃ (i : Nat) (T : Tb), m = l.length - i ∧ i ≤ l.length ∧ e = [(0, .slice a l.length (.fix c)), (1, .i sig), (5, .bool true), (6, .p h1.nx 0), (7, .i i)] ∧
      h.get h1.nx = some T.obj ∧ T.ok i ∧ h1.nx < h.nx ∧ (l ≠ [] → a = some (0, 0) ∧ h.get 0 = some (.cells (prs l) true)))
    (k := l.length) (by show _ < 100000; omega) ⟨0, Tb.zero, rfl, by omega, rfl, get_new_self _, fun k => by simp [Tb.zero], by simp, fun hl => ⟨(hin1 hl).1, by rw [get_new_lt (by omega), (hin1 hl).2]⟩⟩ ?_
  clear hnew
  rintro _ _ h ⟨i, T, rfl, hi, rfl, tb, tok, hnxt, hinl⟩ n ih
  by_cases hlt : i < l.length
  case pos =>
    obtain ⟨rfl, hin⟩ := hinl (by rintro rfl; simp at hlt)
    have hp := List.getElem?_eq_getElem hlt
    generalize l[i] = p at hp
    obtain ⟨kind, s⟩ := p
    have hk : (prs l)[0 + (i : Int).toNat * 2 + 0]? = some (.i kind) := prs_fst hp (by omega)
    have hk2 : (prs l)[0 + (i : Int).toNat * 2 + 1]? = some (.i s) := prs_snd hp (by omega)
    obtain ⟨h2, r1, r2⟩ := sp_handle hcl (d := 19) (by omega) tb s (decide (kind.tmod 3 ≠ 0))
    have tok2 := Tb.handle_ok tok (by omega) s (decide (kind.tmod 3 ≠ 0))
    obtain ⟨h3, r3, r4⟩ := sp_raise hcl (d := 19) (by omega) r2.self s (tok2.le (by omega))
    have hin2 : h2.get 0 = some (.cells (prs l) true) := by rw [r2.get 0 (by omega), hin]
    have hin3 : h3.get 0 = some (.cells (prs l) true) := by rw [r4.get 0 (by omega), hin2]
    repeat' (first|(refine zcg ?_;first|refine zaa rfl ?_|refine zav rfl (by repeat (first|assumption|exact get_set_self _|refine Eq.trans (get_set_ne (by first|assumption|omega)) ?_|exact get_new_self _|refine Eq.trans (get_new_lt (by first|assumption|omega|(simp only [H.nx_set,H.nx_new,H.nx_kill];omega))) ?_)) (by first|assumption|rfl) ?_|refine zaw rfl (by assumption) ?_|refine zad (by repeat (first|(apply Kept.cons; exact rfl)|apply Kept.nil|(apply Kept.miss; exact rfl))) ?_|(refine zch ?_;first|refine zaz rfl (by first|assumption|omega|exact fun h=>h rfl) ?_|refine zba rfl (by first|assumption|omega|exact fun h=>h rfl) ?_|refine zbb rfl (by first|assumption|omega|exact fun h=>h rfl) ?_|refine zbc rfl (by first|assumption|omega|exact fun h=>h rfl) ?_|refine zbd rfl (by first|rfl|assumption) ?_|refine zbe rfl (by first|rfl|assumption) ?_|refine zbf rfl (fun _ => ?_) fun _ => ?_|refine zbg rfl (fun _ => ?_) fun _ => ?_|refine zbh rfl (fun _ => ?_) fun _ => ?_)|(refine zci ?_;first|refine zaf rfl rfl ?_|refine zag rfl rfl ?_|refine zah rfl rfl ?_|refine zal rfl rfl ⟨by omega,by omega⟩ ?_|refine zai rfl rfl ?_|refine zaj rfl rfl ?_|refine zak rfl rfl ?_|refine zam rfl rfl ⟨by omega,by omega⟩ ?_|refine zcp rfl rfl ⟨by omega,by omega⟩ ?_|refine zcq rfl rfl ⟨by omega,by omega⟩ ?_|refine zau rfl rfl ?_)|(refine zcj ?_;first|refine zap rfl ?_|refine zaq rfl (by first|assumption|omega|exact fun h=>h rfl) rfl ?_|refine zar rfl (by first|assumption|omega|exact fun h=>h rfl) rfl ?_|refine zas rfl (by first|rfl|assumption) rfl ?_|refine zat rfl (by first|rfl|assumption) rfl ?_|refine zau rfl rfl ?_)|refine zan rfl ?_|refine zao rfl ?_|refine zcn rfl rfl ?_|refine zco rfl rfl ?_|refine zcr rfl rfl ?_|refine zau rfl rfl ?_|refine zax rfl rfl (by omega) ?_|refine zay rfl rfl (by omega) ?_)|(refine zck ?_;first|refine zab ?_|refine zac ?_|(refine zcl ?_;first|refine zbi rfl (by first|assumption|omega|exact fun h=>h rfl) ?_|refine zbj rfl (by first|assumption|omega|exact fun h=>h rfl) ?_|refine zbk rfl (by first|rfl|assumption) ?_|refine zbl rfl (by first|rfl|assumption) ?_|refine zbm rfl (fun _ => ?_) fun _ => ?_|refine zbn rfl (fun _ => ?_) fun _ => ?_)|refine zbo ?_|refine zbp ?_|refine zbq ?_|refine zbr ?_|refine zbs ?_|refine zbt ?_)|(refine zcm ?_;first|refine zae ?_|refine zbw ?_|refine zcc rfl ?_|refine zbu ?_|refine zbv ?_|refine zby ?_|refine zbz rfl ?_|refine zbx ?_|refine zcb ?_|refine zca ?_|refine zcd rfl ?_|refine zce rfl ?_|refine zcf rfl ?_))
    exact ih (l.length - (i + 1)) (by omega) _ _ ⟨i + 1, _, rfl, by omega, rfl, r4.self, (Tb.raise_ok tok2 _).le (by omega), by rw [r4.nx, r2.nx]; exact hnxt, fun hl => ⟨rfl, hin3⟩⟩
  have tok' : T.ok 1000000 := tok.le (by omega)
  clear ih hinl hin1
  obtain ⟨h2, e1, x2, g2, f2⟩ := sp_copy hcl (d := 19) (by omega) tb
  have b2 : h2.get h1.nx = some T.obj := by rw [f2 _ (by omega), tb]
  obtain ⟨h3, e3, f3⟩ := sp_pending hcl (d := 19) (by omega) g2 (by omega) tok'
  have x3 := f3.nx
  have g3 : h3.get h.nx = some T.obj := by rw [f3.get _ (by omega) id, g2]
  have b3 : h3.get h1.nx = some T.obj := by rw [f3.get _ (by omega) id, b2]
  obtain ⟨h4, e4, f4⟩ := sp_pending hcl (d := 19) (by omega) b3 (by omega) tok'
  have x4 := f4.nx
  have g4 : h4.get h.nx = some T.obj := by rw [f4.get _ (by omega) id, g3]
  have b4 : h4.get h1.nx = some T.obj := by rw [f4.get _ (by omega) id, b3]
  have ec1 := sp_count hcl (d := 19) (by omega) g4 sig
  have ec2 := sp_count hcl (d := 19) (by omega) b4 sig
  have eh1 := sp_handled hcl (d := 19) (by omega) g4 sig
  have eh2 := sp_handled hcl (d := 19) (by omega) b4 sig
  obtain ⟨v5, h5, e5, l5, f5⟩ := sp_list hcl (d := 19) (by omega) g4 (by omega)
  obtain ⟨cap5, ⟨a5, rfl⟩, _⟩ := l5.shape
  have x5 := f5.nx
  have g5 : h5.get h.nx = some T.obj := by rw [f5.get _ (by omega) id, g4]
  have b5 : h5.get h1.nx = some T.obj := by rw [f5.get _ (by omega) id, b4]
  obtain ⟨v6, h6, e6, l6, f6⟩ := sp_list hcl (d := 19) (by omega) b5 (by omega)
  obtain ⟨cap6, ⟨a6, rfl⟩, _⟩ := l6.shape
  have x6 := f6.nx
  have g6 : h6.get h.nx = some T.obj := by rw [f6.get _ (by omega) id, g5]
  have b6 : h6.get h1.nx = some T.obj := by rw [f6.get _ (by omega) id, b5]
  obtain ⟨h7, e7, f7⟩ := sp_pending hcl (d := 19) (by omega) b6 (by omega) tok'
  have x7 := f7.nx
  have g7 : h7.get h.nx = some T.obj := by rw [f7.get _ (by omega) id, g6]
  have b7 : h7.get h1.nx = some T.obj := by rw [f7.get _ (by omega) id, b6]
  obtain ⟨h8, e8, u8⟩ := sp_handle hcl (d := 19) (by omega) g7 sig true
  have tokh : (T.handle sig true).ok i := Tb.handle_ok tok (by omega) sig true
  obtain ⟨h9, e9, u9⟩ := sp_raise hcl (d := 19) (by omega) u8.self sig (tokh.le (by omega))
  have tokr := Tb.raise_ok tokh sig
  have x8 := u8.nx
  have x9 := u9.nx
  have b9 : h9.get h1.nx = some T.obj := by rw [u9.get _ (by omega), u8.get _ (by omega), b7]
  generalize hT : (T.handle sig true).raise sig = T2 at u9 tokr
  have g9 := u9.self
  obtain ⟨v10, h10, e10, l10, g10, f10⟩ := sp_take hcl (d := 19) (by omega) g9 (by omega)
  obtain ⟨cap10, ⟨a10, rfl⟩, _⟩ := l10.shape
  have x10 := f10.nx
  have b10 : h10.get h1.nx = some T.obj := by rw [f10.get _ (by omega) (by omega), b9]
  obtain ⟨h11, e11, f11⟩ := sp_pending hcl (d := 19) (by omega) b10 (by omega) tok'
  have x11 := f11.nx
  have g11 : h11.get h.nx = some T2.take.obj := by rw [f11.get _ (by omega) id, g10]
  have b11 : h11.get h1.nx = some T.obj := by rw [f11.get _ (by omega) id, b10]
  obtain ⟨h12, e12, f12⟩ := sp_pending hcl (d := 19) (by omega) g11 (by omega) ((Tb.take_ok tokr).le (by omega))
  rw [sum_take T2 32 (by omega)] at e12
  have x12 := f12.nx
  have b12 : h12.get h1.nx = some T.obj := by rw [f12.get _ (by omega) id, b11]
  obtain ⟨v13, h13, e13, l13, b13, f13⟩ := sp_take hcl (d := 19) (by omega) b12 (by omega)
  have x13 := f13.nx
  obtain ⟨cap13, ⟨a13, rfl⟩, hix⟩ := l13.shape
  obtain ⟨h14, e14, f14⟩ := sp_pending hcl (d := 19) (by omega) b13 (by omega) ((Tb.take_ok tok).le (by omega))
  rw [sum_take T 32 (by omega)] at e14
  have hlen13 := T.cnts_len 32
  have hle : (T.cnts 32).length ≤ (T2.cnts 32).length := by
    refine cnts_len_le (fun j hj hz => ?_) 32
    subst hT
    have := tok j
    have hh : (T.handle sig true).pd j = T.pd j := by unfold Tb.handle; split <;> rfl
    unfold Tb.raise
    split
    · simp only; rw [hh]; split <;> omega
    · rw [hh]; exact hz
  have htc := tot_cnts T 32
  have hsum := Tb.sum_le tok 32
  repeat' (first|(refine zcg ?_;first|refine zaa rfl ?_|refine zav rfl (by repeat (first|assumption|exact get_set_self _|refine Eq.trans (get_set_ne (by first|assumption|omega)) ?_|exact get_new_self _|refine Eq.trans (get_new_lt (by first|assumption|omega|(simp only [H.nx_set,H.nx_new,H.nx_kill];omega))) ?_)) (by first|assumption|rfl) ?_|refine zaw rfl (by assumption) ?_|refine zad (by repeat (first|(apply Kept.cons; exact rfl)|apply Kept.nil|(apply Kept.miss; exact rfl))) ?_|(refine zch ?_;first|refine zaz rfl (by first|assumption|omega|exact fun h=>h rfl) ?_|refine zba rfl (by first|assumption|omega|exact fun h=>h rfl) ?_|refine zbb rfl (by first|assumption|omega|exact fun h=>h rfl) ?_|refine zbc rfl (by first|assumption|omega|exact fun h=>h rfl) ?_|refine zbd rfl (by first|rfl|assumption) ?_|refine zbe rfl (by first|rfl|assumption) ?_|refine zbf rfl (fun _ => ?_) fun _ => ?_|refine zbg rfl (fun _ => ?_) fun _ => ?_|refine zbh rfl (fun _ => ?_) fun _ => ?_)|(refine zci ?_;first|refine zaf rfl rfl ?_|refine zag rfl rfl ?_|refine zah rfl rfl ?_|refine zal rfl rfl ⟨by omega,by omega⟩ ?_|refine zai rfl rfl ?_|refine zaj rfl rfl ?_|refine zak rfl rfl ?_|refine zam rfl rfl ⟨by omega,by omega⟩ ?_|refine zcp rfl rfl ⟨by omega,by omega⟩ ?_|refine zcq rfl rfl ⟨by omega,by omega⟩ ?_|refine zau rfl rfl ?_)|(refine zcj ?_;first|refine zap rfl ?_|refine zaq rfl (by first|assumption|omega|exact fun h=>h rfl) rfl ?_|refine zar rfl (by first|assumption|omega|exact fun h=>h rfl) rfl ?_|refine zas rfl (by first|rfl|assumption) rfl ?_|refine zat rfl (by first|rfl|assumption) rfl ?_|refine zau rfl rfl ?_)|refine zan rfl ?_|refine zao rfl ?_|refine zcn rfl rfl ?_|refine zco rfl rfl ?_|refine zcr rfl rfl ?_|refine zau rfl rfl ?_|refine zax rfl rfl (by omega) ?_|refine zay rfl rfl (by omega) ?_)|(refine zck ?_;first|refine zab ?_|refine zac ?_|(refine zcl ?_;first|refine zbi rfl (by first|assumption|omega|exact fun h=>h rfl) ?_|refine zbj rfl (by first|assumption|omega|exact fun h=>h rfl) ?_|refine zbk rfl (by first|rfl|assumption) ?_|refine zbl rfl (by first|rfl|assumption) ?_|refine zbm rfl (fun _ => ?_) fun _ => ?_|refine zbn rfl (fun _ => ?_) fun _ => ?_)|refine zbo ?_|refine zbp ?_|refine zbq ?_|refine zbr ?_|refine zbs ?_|refine zbt ?_)|(refine zcm ?_;first|refine zae ?_|refine zbw ?_|refine zcc rfl ?_|refine zbu ?_|refine zbv ?_|refine zby ?_|refine zbz rfl ?_|refine zbx ?_|refine zcb ?_|refine zca ?_|refine zcd rfl ?_|refine zce rfl ?_|refine zcf rfl ?_))
  refine Run.loop (fun m e h => ∃ (k : Nat) (t' : Int), m = (T.cnts 32).length - k ∧ k ≤ (T.cnts 32).length ∧ h = h13 ∧ t' = tot ((T.cnts 32).take k) ∧ 0 ≤ t' ∧ t' ≤ k * 1000 ∧
      e = [(5, .bool true), (6, .p h1.nx 0), (9, .i (T.sum 32)), (10, .slice a10 (T2.cnts 32).length cap10), (11, .slice a13 (T.cnts 32).length cap13), (12, .i t'), (13, .i k)])
    (k := (T.cnts 32).length) (by show _ < 100000; omega) ⟨0, 0, rfl, by omega, rfl, by simp [tot], by omega, by omega, rfl⟩ ?_
  rintro _ _ _ ⟨k, t', rfl, hk4, rfl, ht', ht0, ht1, rfl⟩ n2 ih2
  by_cases hlt2 : k < (T.cnts 32).length
  case neg =>
    have hke : k = (T.cnts 32).length := by omega
    subst hke
    rw [List.take_length, htc] at ht'
    subst ht'
    repeat' (first|(refine zcg ?_;first|refine zaa rfl ?_|refine zav rfl (by repeat (first|assumption|exact get_set_self _|refine Eq.trans (get_set_ne (by first|assumption|omega)) ?_|exact get_new_self _|refine Eq.trans (get_new_lt (by first|assumption|omega|(simp only [H.nx_set,H.nx_new,H.nx_kill];omega))) ?_)) (by first|assumption|rfl) ?_|refine zaw rfl (by assumption) ?_|refine zad (by repeat (first|(apply Kept.cons; exact rfl)|apply Kept.nil|(apply Kept.miss; exact rfl))) ?_|(refine zch ?_;first|refine zaz rfl (by first|assumption|omega|exact fun h=>h rfl) ?_|refine zba rfl (by first|assumption|omega|exact fun h=>h rfl) ?_|refine zbb rfl (by first|assumption|omega|exact fun h=>h rfl) ?_|refine zbc rfl (by first|assumption|omega|exact fun h=>h rfl) ?_|refine zbd rfl (by first|rfl|assumption) ?_|refine zbe rfl (by first|rfl|assumption) ?_|refine zbf rfl (fun _ => ?_) fun _ => ?_|refine zbg rfl (fun _ => ?_) fun _ => ?_|refine zbh rfl (fun _ => ?_) fun _ => ?_)|(refine zci ?_;first|refine zaf rfl rfl ?_|refine zag rfl rfl ?_|refine zah rfl rfl ?_|refine zal rfl rfl ⟨by omega,by omega⟩ ?_|refine zai rfl rfl ?_|refine zaj rfl rfl ?_|refine zak rfl rfl ?_|refine zam rfl rfl ⟨by omega,by omega⟩ ?_|refine zcp rfl rfl ⟨by omega,by omega⟩ ?_|refine zcq rfl rfl ⟨by omega,by omega⟩ ?_|refine zau rfl rfl ?_)|(refine zcj ?_;first|refine zap rfl ?_|refine zaq rfl (by first|assumption|omega|exact fun h=>h rfl) rfl ?_|refine zar rfl (by first|assumption|omega|exact fun h=>h rfl) rfl ?_|refine zas rfl (by first|rfl|assumption) rfl ?_|refine zat rfl (by first|rfl|assumption) rfl ?_|refine zau rfl rfl ?_)|refine zan rfl ?_|refine zao rfl ?_|refine zcn rfl rfl ?_|refine zco rfl rfl ?_|refine zcr rfl rfl ?_|refine zau rfl rfl ?_|refine zax rfl rfl (by omega) ?_|refine zay rfl rfl (by omega) ?_)|(refine zck ?_;first|refine zab ?_|refine zac ?_|(refine zcl ?_;first|refine zbi rfl (by first|assumption|omega|exact fun h=>h rfl) ?_|refine zbj rfl (by first|assumption|omega|exact fun h=>h rfl) ?_|refine zbk rfl (by first|rfl|assumption) ?_|refine zbl rfl (by first|rfl|assumption) ?_|refine zbm rfl (fun _ => ?_) fun _ => ?_|refine zbn rfl (fun _ => ?_) fun _ => ?_)|refine zbo ?_|refine zbp ?_|refine zbq ?_|refine zbr ?_|refine zbs ?_|refine zbt ?_)|(refine zcm ?_;first|refine zae ?_|refine zbw ?_|refine zcc rfl ?_|refine zbu ?_|refine zbv ?_|refine zby ?_|refine zbz rfl ?_|refine zbx ?_|refine zcb ?_|refine zca ?_|refine zcd rfl ?_|refine zce rfl ?_|refine zcf rfl ?_))
    exact ⟨by rw [decide_eq_true (by omega)], trivial⟩
  obtain ⟨q, y1, y2, y3, y4⟩ := hix k hlt2
  cases y3
  have hp2 := List.getElem?_eq_getElem hlt2
  generalize (T.cnts 32)[k] = p at hp2
  have hmem := Tb.cnts_mem (List.mem_of_getElem? hp2)
  have hpd := tok p.1
  have hst := tot_take_succ hp2
  have hc1 : (cntCells (T.cnts 32))[0 + (k : Int).toNat * 2 + 0]? = some (.i p.1) := by
    rw [cntCells_prs]; exact prs_fst (p := ((p.1 : Int), p.2)) (i := k) (by simp [hp2]) (by omega)
  have hc2 : (cntCells (T.cnts 32))[0 + (k : Int).toNat * 2 + 1]? = some (.i p.2) := by
    rw [cntCells_prs]; exact prs_snd (p := ((p.1 : Int), p.2)) (i := k) (by simp [hp2]) (by omega)
  by_cases hk0 : k = 0
  case pos =>
    repeat' (first|(refine zcg ?_;first|refine zaa rfl ?_|refine zav rfl (by repeat (first|assumption|exact get_set_self _|refine Eq.trans (get_set_ne (by first|assumption|omega)) ?_|exact get_new_self _|refine Eq.trans (get_new_lt (by first|assumption|omega|(simp only [H.nx_set,H.nx_new,H.nx_kill];omega))) ?_)) (by first|assumption|rfl) ?_|refine zaw rfl (by assumption) ?_|refine zad (by repeat (first|(apply Kept.cons; exact rfl)|apply Kept.nil|(apply Kept.miss; exact rfl))) ?_|(refine zch ?_;first|refine zaz rfl (by first|assumption|omega|exact fun h=>h rfl) ?_|refine zba rfl (by first|assumption|omega|exact fun h=>h rfl) ?_|refine zbb rfl (by first|assumption|omega|exact fun h=>h rfl) ?_|refine zbc rfl (by first|assumption|omega|exact fun h=>h rfl) ?_|refine zbd rfl (by first|rfl|assumption) ?_|refine zbe rfl (by first|rfl|assumption) ?_|refine zbf rfl (fun _ => ?_) fun _ => ?_|refine zbg rfl (fun _ => ?_) fun _ => ?_|refine zbh rfl (fun _ => ?_) fun _ => ?_)|(refine zci ?_;first|refine zaf rfl rfl ?_|refine zag rfl rfl ?_|refine zah rfl rfl ?_|refine zal rfl rfl ⟨by omega,by omega⟩ ?_|refine zai rfl rfl ?_|refine zaj rfl rfl ?_|refine zak rfl rfl ?_|refine zam rfl rfl ⟨by omega,by omega⟩ ?_|refine zcp rfl rfl ⟨by omega,by omega⟩ ?_|refine zcq rfl rfl ⟨by omega,by omega⟩ ?_|refine zau rfl rfl ?_)|(refine zcj ?_;first|refine zap rfl ?_|refine zaq rfl (by first|assumption|omega|exact fun h=>h rfl) rfl ?_|refine zar rfl (by first|assumption|omega|exact fun h=>h rfl) rfl ?_|refine zas rfl (by first|rfl|assumption) rfl ?_|refine zat rfl (by first|rfl|assumption) rfl ?_|refine zau rfl rfl ?_)|refine zan rfl ?_|refine zao rfl ?_|refine zcn rfl rfl ?_|refine zco rfl rfl ?_|refine zcr rfl rfl ?_|refine zau rfl rfl ?_|refine zax rfl rfl (by omega) ?_|refine zay rfl rfl (by omega) ?_)|(refine zck ?_;first|refine zab ?_|refine zac ?_|(refine zcl ?_;first|refine zbi rfl (by first|assumption|omega|exact fun h=>h rfl) ?_|refine zbj rfl (by first|assumption|omega|exact fun h=>h rfl) ?_|refine zbk rfl (by first|rfl|assumption) ?_|refine zbl rfl (by first|rfl|assumption) ?_|refine zbm rfl (fun _ => ?_) fun _ => ?_|refine zbn rfl (fun _ => ?_) fun _ => ?_)|refine zbo ?_|refine zbp ?_|refine zbq ?_|refine zbr ?_|refine zbs ?_|refine zbt ?_)|(refine zcm ?_;first|refine zae ?_|refine zbw ?_|refine zcc rfl ?_|refine zbu ?_|refine zbv ?_|refine zby ?_|refine zbz rfl ?_|refine zbx ?_|refine zcb ?_|refine zca ?_|refine zcd rfl ?_|refine zce rfl ?_|refine zcf rfl ?_))
    exact ih2 ((T.cnts 32).length - (k + 1)) (by omega) _ _ ⟨k + 1, t' + p.2, rfl, by omega, rfl, by omega, by omega, by omega, rfl⟩
  have hp3 : ∃ p', (T.cnts 32)[k - 1]? = some p' := ⟨_, List.getElem?_eq_getElem (by omega)⟩
  obtain ⟨p', hp3⟩ := hp3
  have hris := cnts_rising T hp3 (by rw [show k - 1 + 1 = k by omega]; exact hp2)
  have hc3 : (cntCells (T.cnts 32))[0 + ((k : Int) - 1).toNat * 2 + 0]? = some (.i p'.1) := by
    rw [cntCells_prs]; exact prs_fst (p := ((p'.1 : Int), p'.2)) (i := k - 1) (by simp [hp3]) (by omega)
  repeat' (first|(refine zcg ?_;first|refine zaa rfl ?_|refine zav rfl (by repeat (first|assumption|exact get_set_self _|refine Eq.trans (get_set_ne (by first|assumption|omega)) ?_|exact get_new_self _|refine Eq.trans (get_new_lt (by first|assumption|omega|(simp only [H.nx_set,H.nx_new,H.nx_kill];omega))) ?_)) (by first|assumption|rfl) ?_|refine zaw rfl (by assumption) ?_|refine zad (by repeat (first|(apply Kept.cons; exact rfl)|apply Kept.nil|(apply Kept.miss; exact rfl))) ?_|(refine zch ?_;first|refine zaz rfl (by first|assumption|omega|exact fun h=>h rfl) ?_|refine zba rfl (by first|assumption|omega|exact fun h=>h rfl) ?_|refine zbb rfl (by first|assumption|omega|exact fun h=>h rfl) ?_|refine zbc rfl (by first|assumption|omega|exact fun h=>h rfl) ?_|refine zbd rfl (by first|rfl|assumption) ?_|refine zbe rfl (by first|rfl|assumption) ?_|refine zbf rfl (fun _ => ?_) fun _ => ?_|refine zbg rfl (fun _ => ?_) fun _ => ?_|refine zbh rfl (fun _ => ?_) fun _ => ?_)|(refine zci ?_;first|refine zaf rfl rfl ?_|refine zag rfl rfl ?_|refine zah rfl rfl ?_|refine zal rfl rfl ⟨by omega,by omega⟩ ?_|refine zai rfl rfl ?_|refine zaj rfl rfl ?_|refine zak rfl rfl ?_|refine zam rfl rfl ⟨by omega,by omega⟩ ?_|refine zcp rfl rfl ⟨by omega,by omega⟩ ?_|refine zcq rfl rfl ⟨by omega,by omega⟩ ?_|refine zau rfl rfl ?_)|(refine zcj ?_;first|refine zap rfl ?_|refine zaq rfl (by first|assumption|omega|exact fun h=>h rfl) rfl ?_|refine zar rfl (by first|assumption|omega|exact fun h=>h rfl) rfl ?_|refine zas rfl (by first|rfl|assumption) rfl ?_|refine zat rfl (by first|rfl|assumption) rfl ?_|refine zau rfl rfl ?_)|refine zan rfl ?_|refine zao rfl ?_|refine zcn rfl rfl ?_|refine zco rfl rfl ?_|refine zcr rfl rfl ?_|refine zau rfl rfl ?_|refine zax rfl rfl (by omega) ?_|refine zay rfl rfl (by omega) ?_)|(refine zck ?_;first|refine zab ?_|refine zac ?_|(refine zcl ?_;first|refine zbi rfl (by first|assumption|omega|exact fun h=>h rfl) ?_|refine zbj rfl (by first|assumption|omega|exact fun h=>h rfl) ?_|refine zbk rfl (by first|rfl|assumption) ?_|refine zbl rfl (by first|rfl|assumption) ?_|refine zbm rfl (fun _ => ?_) fun _ => ?_|refine zbn rfl (fun _ => ?_) fun _ => ?_)|refine zbo ?_|refine zbp ?_|refine zbq ?_|refine zbr ?_|refine zbs ?_|refine zbt ?_)|(refine zcm ?_;first|refine zae ?_|refine zbw ?_|refine zcc rfl ?_|refine zbu ?_|refine zbv ?_|refine zby ?_|refine zbz rfl ?_|refine zbx ?_|refine zcb ?_|refine zca ?_|refine zcd rfl ?_|refine zce rfl ?_|refine zcf rfl ?_))
  exact ih2 ((T.cnts 32).length - (k + 1)) (by omega) _ _ ⟨k + 1, t' + p.2, rfl, by omega, rfl, by omega, by omega, by omega, rfl⟩

end Am.Sigs
