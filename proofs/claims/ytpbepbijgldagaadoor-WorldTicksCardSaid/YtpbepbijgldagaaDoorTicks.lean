/- The law WorldTicks, over the abstract machine. -/
import Derived.Test.YtpbepbijgldagaaDoorRow
import Derived.Test.YtpbepbijgldagaaDoorRep
import Derived.Test.YtpbepbijgldagaaDoorCalls
import Derived.Test.YtpbepbijgldagaaDoorSigsCode
import Derived.KernelRfl
namespace Am.Sigs
open Am Go

abbrev fuel : Nat := 100000
def Sem (cl : Nat → Call) : Prop := ∀ d, cl d = callN prog fuel d
theorem at_ {cl : Nat → Call} (hcl : Sem cl) {d f : Nat} {fn : AFn} {args : List V} {h : H} {R : V → H → Prop} (hd : 0 < d) (hp : assoc prog.prims f = none) (hf : assoc prog.fns f = some fn) (hl : (args.length == fn.np) = true)
    (k : Run (cl (d - 1)) fuel fn.body [] (Env.ofArgs args 0) h (Fin fn.res R)) : ∃ v h', cl d (.fn f) args h = some (v, h') ∧ R v h' := by
  rw [hcl d]; rw [hcl (d - 1)] at k; exact callN_at hd hp hf hl k

theorem primsF : PrimsF prog := fun f p h => by cases h

/-- A call that was seen in a memory h does the same in one that has more. -/
theorem same_in {cl : Nat → Call} (hcl : Sem cl) {d : Nat} {t : Tgt} {args : List V} {h h' h2 : H} {v : V} {X : Nat → Option Obj} (hr : callN prog fuel d t args h = some (v, h')) (x : Ext X h h2) : ∃ h2', cl d t args h2 = some (v, h2') ∧ Ext X h' h2' := by
  rw [hcl d]; exact (callN_F primsF fuel d).1 _ _ _ _ _ hr _ _ x

/-- What is there beside a memory of which nothing is known but how many numbers are taken. -/
theorem ext_all {h : H} (hwf : ∀ j, h.nx ≤ j → h.get j = none) : Ext h.get ⟨h.nx, .lf⟩ h :=
  ⟨rfl, fun j => by simp [H.get, T.get], fun j hj => ⟨by
    rcases Nat.lt_or_ge j h.nx with h1 | h1
    · exact h1
    · exact absurd (hwf j h1) hj, rfl⟩⟩

def ran (r : Option (V × H)) (p : V → H → Bool) : Bool := match r with
  | some (v, h') => p v h'
  | none => false
theorem ran_ex {r : Option (V × H)} {p : V → H → Bool} (hr : ran r p = true) : ∃ v h', r = some (v, h') ∧ p v h' = true := by
  cases r with
  | none => cases hr
  | some x => exact ⟨x.1, x.2, rfl, hr⟩

def isTrue : V → Bool
  | .bool b => b
  | _ => false
theorem isTrue_eq {v : V} (h : isTrue v = true) : v = .bool true := by
  cases v <;> simp_all [isTrue]

theorem ext_kept {X : Nat → Option Obj} {h h2 : H} (x : Ext X h h2) {j : Nat} {o : Obj} (hj : X j = some o) : h2.get j = some o := by
  rw [x.get, (x.off j (by simp [hj])).2, hj]; rfl

/-- One more than the greatest number that is taken in a tree. -/
def isS : Option Obj → Nat
  | some _ => 1
  | none => 0
def up : Nat → Nat
  | 0 => 0
  | n + 1 => 2 * n + 3
def ttop : T → Nat
  | .lf => 0
  | .nd v l r => Nat.max (isS v) (Nat.max (2 * (ttop l)) (up (ttop r)))
theorem get_top : ∀ (t : T) (k : Nat), (ttop t) ≤ k → t.get k = none
  | .lf, _, _ => rfl
  | .nd v l r, k, h => by
    have h1 : Nat.max (isS v) (Nat.max (2 * (ttop l)) (up (ttop r))) ≤ k := h
    have a1 := Nat.le_trans (Nat.le_max_left _ _) h1
    have a2 := Nat.le_trans (Nat.le_max_left _ _) (Nat.le_trans (Nat.le_max_right _ _) h1)
    have a3 := Nat.le_trans (Nat.le_max_right _ _) (Nat.le_trans (Nat.le_max_right _ _) h1)
    rw [T.get_nd]
    by_cases k0 : k = 0
    · subst k0
      rw [if_pos rfl]
      cases v with
      | none => rfl
      | some _ => simp [isS] at a1
    · rw [if_neg k0]
      by_cases ko : k % 2 = 1
      · rw [if_pos ko]; exact get_top l _ (by omega)
      · rw [if_neg ko]
        refine get_top r _ ?_
        cases e : (ttop r) with
        | zero => omega
        | succ n => rw [e] at a3; simp [up] at a3; omega

abbrev zeroTb : Obj := .cells (List.replicate 32 (.bool false : V) ++ List.replicate 32 (.i 0 : V)) false
/-- A world's cells: its descriptors, wires, signals, ticks, notice. -/
def wcells (fds : List V) (ws sg : V) (now : Int) (no : List V) : List V := fds ++ ws :: sg :: .int .u64 now :: no
abbrev zeroFds : List V := (List.replicate 96 ([.bool false, .i 0, .i 0] : List V)).flatten
abbrev zeroNo : List V := [.bool false, .i 0, .i 0]
theorem w_sg {fds : List V} {ws sg : V} {now : Int} {no : List V} (h : fds.length = 288) {o : Nat} (ho : o = 289) : (wcells fds ws sg now no)[o]? = some sg := by
  subst ho
  unfold wcells
  rw [List.getElem?_append, if_neg (by omega), h]; rfl
theorem w_now {fds : List V} {ws sg : V} {now : Int} {no : List V} (h : fds.length = 288) {o : Nat} (ho : o = 290) : (wcells fds ws sg now no)[o]? = some (.int .u64 now) := by
  subst ho
  unfold wcells
  rw [List.getElem?_append, if_neg (by omega), h]; rfl
theorem w_set {fds : List V} {ws sg : V} {now : Int} {no : List V} {n : Int} (h : fds.length = 288) {o : Nat} (ho : o = 290) : (wcells fds ws sg now no).set o (.int .u64 n) = wcells fds ws sg n no := by
  subst ho
  unfold wcells
  rw [List.set_append, if_neg (by omega), h]; rfl

set_option maxRecDepth 100000 in
theorem wp_new {cl : Nat → Call} (hcl : Sem cl) {d : Nat} (hd : 2 ≤ d) (h : H) : cl d (.fn F.world_New) [] h = some (.p (h.nx + 1) 0, (h.new zeroTb).new (.cells (wcells zeroFds .nils (.p h.nx 0) 0 zeroNo) false)) := by
  have hs : cl (d - 1) (.fn F.sigs_New) [] h = some (.p h.nx 0, h.new zeroTb) := by
    refine call_eq (at_ hcl (by omega) rfl rfl rfl ?_)
    repeat' (first|(refine zcg ?_;first|refine zaa rfl ?_|refine zad (by repeat (first|(apply Kept.cons; exact rfl)|apply Kept.nil|(apply Kept.miss; exact rfl))) ?_|(refine zch ?_;first|refine zaz rfl (by first|assumption|omega|exact fun h=>h rfl) ?_|refine zba rfl (by first|assumption|omega|exact fun h=>h rfl) ?_|refine zbb rfl (by first|assumption|omega|exact fun h=>h rfl) ?_|refine zbc rfl (by first|assumption|omega|exact fun h=>h rfl) ?_|refine zbd rfl (by first|rfl|assumption) ?_|refine zbe rfl (by first|rfl|assumption) ?_|refine zbf rfl (fun _ => ?_) fun _ => ?_|refine zbg rfl (fun _ => ?_) fun _ => ?_|refine zbh rfl (fun _ => ?_) fun _ => ?_)|(refine zci ?_;first|refine zaf rfl rfl ?_|refine zag rfl rfl ?_|refine zah rfl rfl ?_|refine zal rfl rfl ⟨by omega,by omega⟩ ?_|refine zai rfl rfl ?_|refine zaj rfl rfl ?_|refine zak rfl rfl ?_|refine zam rfl rfl ⟨by omega,by omega⟩ ?_|refine zcp rfl rfl ⟨by omega,by omega⟩ ?_|refine zcq rfl rfl ⟨by omega,by omega⟩ ?_|refine zau rfl rfl ?_)|(refine zcj ?_;first|refine zap rfl ?_|refine zaq rfl (by first|assumption|omega|exact fun h=>h rfl) rfl ?_|refine zar rfl (by first|assumption|omega|exact fun h=>h rfl) rfl ?_|refine zas rfl (by first|rfl|assumption) rfl ?_|refine zat rfl (by first|rfl|assumption) rfl ?_|refine zau rfl rfl ?_)|refine zan rfl ?_|refine zao rfl ?_|refine zcn rfl rfl ?_|refine zco rfl rfl ?_|refine zcr rfl rfl ?_|refine zau rfl rfl ?_|refine zax rfl rfl (by omega) ?_|refine zay rfl rfl (by omega) ?_)|(refine zck ?_;first|refine zab ?_|refine zac ?_|(refine zcl ?_;first|refine zbi rfl (by first|assumption|omega|exact fun h=>h rfl) ?_|refine zbj rfl (by first|assumption|omega|exact fun h=>h rfl) ?_|refine zbk rfl (by first|rfl|assumption) ?_|refine zbl rfl (by first|rfl|assumption) ?_|refine zbm rfl (fun _ => ?_) fun _ => ?_|refine zbn rfl (fun _ => ?_) fun _ => ?_)|refine zbo ?_|refine zbp ?_|refine zbq ?_|refine zbr ?_|refine zbs ?_|refine zbt ?_)|(refine zcm ?_;first|refine zae ?_|refine zbw ?_|refine zcc rfl ?_|refine zbu ?_|refine zbv ?_|refine zby ?_|refine zbz rfl ?_|refine zbx ?_|refine zcb ?_|refine zca ?_|refine zcd rfl ?_|refine zce rfl ?_|refine zcf rfl ?_))
    refine Ops.make rfl rfl ?_
    repeat' (first|(refine zcg ?_;first|refine zaa rfl ?_|refine zad (by repeat (first|(apply Kept.cons; exact rfl)|apply Kept.nil|(apply Kept.miss; exact rfl))) ?_|(refine zch ?_;first|refine zaz rfl (by first|assumption|omega|exact fun h=>h rfl) ?_|refine zba rfl (by first|assumption|omega|exact fun h=>h rfl) ?_|refine zbb rfl (by first|assumption|omega|exact fun h=>h rfl) ?_|refine zbc rfl (by first|assumption|omega|exact fun h=>h rfl) ?_|refine zbd rfl (by first|rfl|assumption) ?_|refine zbe rfl (by first|rfl|assumption) ?_|refine zbf rfl (fun _ => ?_) fun _ => ?_|refine zbg rfl (fun _ => ?_) fun _ => ?_|refine zbh rfl (fun _ => ?_) fun _ => ?_)|(refine zci ?_;first|refine zaf rfl rfl ?_|refine zag rfl rfl ?_|refine zah rfl rfl ?_|refine zal rfl rfl ⟨by omega,by omega⟩ ?_|refine zai rfl rfl ?_|refine zaj rfl rfl ?_|refine zak rfl rfl ?_|refine zam rfl rfl ⟨by omega,by omega⟩ ?_|refine zcp rfl rfl ⟨by omega,by omega⟩ ?_|refine zcq rfl rfl ⟨by omega,by omega⟩ ?_|refine zau rfl rfl ?_)|(refine zcj ?_;first|refine zap rfl ?_|refine zaq rfl (by first|assumption|omega|exact fun h=>h rfl) rfl ?_|refine zar rfl (by first|assumption|omega|exact fun h=>h rfl) rfl ?_|refine zas rfl (by first|rfl|assumption) rfl ?_|refine zat rfl (by first|rfl|assumption) rfl ?_|refine zau rfl rfl ?_)|refine zan rfl ?_|refine zao rfl ?_|refine zcn rfl rfl ?_|refine zco rfl rfl ?_|refine zcr rfl rfl ?_|refine zau rfl rfl ?_|refine zax rfl rfl (by omega) ?_|refine zay rfl rfl (by omega) ?_)|(refine zck ?_;first|refine zab ?_|refine zac ?_|(refine zcl ?_;first|refine zbi rfl (by first|assumption|omega|exact fun h=>h rfl) ?_|refine zbj rfl (by first|assumption|omega|exact fun h=>h rfl) ?_|refine zbk rfl (by first|rfl|assumption) ?_|refine zbl rfl (by first|rfl|assumption) ?_|refine zbm rfl (fun _ => ?_) fun _ => ?_|refine zbn rfl (fun _ => ?_) fun _ => ?_)|refine zbo ?_|refine zbp ?_|refine zbq ?_|refine zbr ?_|refine zbs ?_|refine zbt ?_)|(refine zcm ?_;first|refine zae ?_|refine zbw ?_|refine zcc rfl ?_|refine zbu ?_|refine zbv ?_|refine zby ?_|refine zbz rfl ?_|refine zbx ?_|refine zcb ?_|refine zca ?_|refine zcd rfl ?_|refine zce rfl ?_|refine zcf rfl ?_))
    exact ⟨rfl, rfl⟩
  refine call_eq (at_ hcl (by omega) rfl rfl rfl ?_)
  repeat' (first|(refine zcg ?_;first|refine zaa rfl ?_|refine zav rfl (by assumption) (by assumption) ?_|refine zaw rfl (by assumption) ?_|refine zad (by repeat (first|(apply Kept.cons; exact rfl)|apply Kept.nil|(apply Kept.miss; exact rfl))) ?_|(refine zch ?_;first|refine zaz rfl (by first|assumption|omega|exact fun h=>h rfl) ?_|refine zba rfl (by first|assumption|omega|exact fun h=>h rfl) ?_|refine zbb rfl (by first|assumption|omega|exact fun h=>h rfl) ?_|refine zbc rfl (by first|assumption|omega|exact fun h=>h rfl) ?_|refine zbd rfl (by first|rfl|assumption) ?_|refine zbe rfl (by first|rfl|assumption) ?_|refine zbf rfl (fun _ => ?_) fun _ => ?_|refine zbg rfl (fun _ => ?_) fun _ => ?_|refine zbh rfl (fun _ => ?_) fun _ => ?_)|(refine zci ?_;first|refine zaf rfl rfl ?_|refine zag rfl rfl ?_|refine zah rfl rfl ?_|refine zal rfl rfl ⟨by omega,by omega⟩ ?_|refine zai rfl rfl ?_|refine zaj rfl rfl ?_|refine zak rfl rfl ?_|refine zam rfl rfl ⟨by omega,by omega⟩ ?_|refine zcp rfl rfl ⟨by omega,by omega⟩ ?_|refine zcq rfl rfl ⟨by omega,by omega⟩ ?_|refine zau rfl rfl ?_)|(refine zcj ?_;first|refine zap rfl ?_|refine zaq rfl (by first|assumption|omega|exact fun h=>h rfl) rfl ?_|refine zar rfl (by first|assumption|omega|exact fun h=>h rfl) rfl ?_|refine zas rfl (by first|rfl|assumption) rfl ?_|refine zat rfl (by first|rfl|assumption) rfl ?_|refine zau rfl rfl ?_)|refine zan rfl ?_|refine zao rfl ?_|refine zcn rfl rfl ?_|refine zco rfl rfl ?_|refine zcr rfl rfl ?_|refine zau rfl rfl ?_|refine zax rfl rfl (by omega) ?_|refine zay rfl rfl (by omega) ?_)|(refine zck ?_;first|refine zab ?_|refine zac ?_|(refine zcl ?_;first|refine zbi rfl (by first|assumption|omega|exact fun h=>h rfl) ?_|refine zbj rfl (by first|assumption|omega|exact fun h=>h rfl) ?_|refine zbk rfl (by first|rfl|assumption) ?_|refine zbl rfl (by first|rfl|assumption) ?_|refine zbm rfl (fun _ => ?_) fun _ => ?_|refine zbn rfl (fun _ => ?_) fun _ => ?_)|refine zbo ?_|refine zbp ?_|refine zbq ?_|refine zbr ?_|refine zbs ?_|refine zbt ?_)|(refine zcm ?_;first|refine zae ?_|refine zbw ?_|refine zcc rfl ?_|refine zbu ?_|refine zbv ?_|refine zby ?_|refine zbz rfl ?_|refine zbx ?_|refine zcb ?_|refine zca ?_|refine zcd rfl ?_|refine zce rfl ?_|refine zcf rfl ?_))
  refine Ops.make rfl rfl ?_
  repeat' (first|(refine zcg ?_;first|refine zaa rfl ?_|refine zad (by repeat (first|(apply Kept.cons; exact rfl)|apply Kept.nil|(apply Kept.miss; exact rfl))) ?_|(refine zch ?_;first|refine zaz rfl (by first|assumption|omega|exact fun h=>h rfl) ?_|refine zba rfl (by first|assumption|omega|exact fun h=>h rfl) ?_|refine zbb rfl (by first|assumption|omega|exact fun h=>h rfl) ?_|refine zbc rfl (by first|assumption|omega|exact fun h=>h rfl) ?_|refine zbd rfl (by first|rfl|assumption) ?_|refine zbe rfl (by first|rfl|assumption) ?_|refine zbf rfl (fun _ => ?_) fun _ => ?_|refine zbg rfl (fun _ => ?_) fun _ => ?_|refine zbh rfl (fun _ => ?_) fun _ => ?_)|(refine zci ?_;first|refine zaf rfl rfl ?_|refine zag rfl rfl ?_|refine zah rfl rfl ?_|refine zal rfl rfl ⟨by omega,by omega⟩ ?_|refine zai rfl rfl ?_|refine zaj rfl rfl ?_|refine zak rfl rfl ?_|refine zam rfl rfl ⟨by omega,by omega⟩ ?_|refine zcp rfl rfl ⟨by omega,by omega⟩ ?_|refine zcq rfl rfl ⟨by omega,by omega⟩ ?_|refine zau rfl rfl ?_)|(refine zcj ?_;first|refine zap rfl ?_|refine zaq rfl (by first|assumption|omega|exact fun h=>h rfl) rfl ?_|refine zar rfl (by first|assumption|omega|exact fun h=>h rfl) rfl ?_|refine zas rfl (by first|rfl|assumption) rfl ?_|refine zat rfl (by first|rfl|assumption) rfl ?_|refine zau rfl rfl ?_)|refine zan rfl ?_|refine zao rfl ?_|refine zcn rfl rfl ?_|refine zco rfl rfl ?_|refine zcr rfl rfl ?_|refine zau rfl rfl ?_|refine zax rfl rfl (by omega) ?_|refine zay rfl rfl (by omega) ?_)|(refine zck ?_;first|refine zab ?_|refine zac ?_|(refine zcl ?_;first|refine zbi rfl (by first|assumption|omega|exact fun h=>h rfl) ?_|refine zbj rfl (by first|assumption|omega|exact fun h=>h rfl) ?_|refine zbk rfl (by first|rfl|assumption) ?_|refine zbl rfl (by first|rfl|assumption) ?_|refine zbm rfl (fun _ => ?_) fun _ => ?_|refine zbn rfl (fun _ => ?_) fun _ => ?_)|refine zbo ?_|refine zbp ?_|refine zbq ?_|refine zbr ?_|refine zbs ?_|refine zbt ?_)|(refine zcm ?_;first|refine zae ?_|refine zbw ?_|refine zcc rfl ?_|refine zbu ?_|refine zbv ?_|refine zby ?_|refine zbz rfl ?_|refine zbx ?_|refine zcb ?_|refine zca ?_|refine zcd rfl ?_|refine zce rfl ?_|refine zcf rfl ?_))
  exact ⟨rfl, rfl⟩

theorem wp_none {cl : Nat → Call} (hcl : Sem cl) {d b s : Nat} {h : H} {l : List V} {ro : Bool} (hd : 1 ≤ d) (hb : h.get b = some (.cells l ro)) (hs : l[0 + 289]? = some (.p s 0)) : cl d (.fn F.world_World_none) [.p b 0] h = some (.bool false, h) := by
  refine call_eq (at_ hcl (by omega) rfl rfl rfl ?_)
  repeat' (first|(refine zcg ?_;first|refine zaa rfl ?_|refine zav rfl (by assumption) (by assumption) ?_|refine zaw rfl (by assumption) ?_|refine zad (by repeat (first|(apply Kept.cons; exact rfl)|apply Kept.nil|(apply Kept.miss; exact rfl))) ?_|(refine zch ?_;first|refine zaz rfl (by first|assumption|omega|exact fun h=>h rfl) ?_|refine zba rfl (by first|assumption|omega|exact fun h=>h rfl) ?_|refine zbb rfl (by first|assumption|omega|exact fun h=>h rfl) ?_|refine zbc rfl (by first|assumption|omega|exact fun h=>h rfl) ?_|refine zbd rfl (by first|rfl|assumption) ?_|refine zbe rfl (by first|rfl|assumption) ?_|refine zbf rfl (fun _ => ?_) fun _ => ?_|refine zbg rfl (fun _ => ?_) fun _ => ?_|refine zbh rfl (fun _ => ?_) fun _ => ?_)|(refine zci ?_;first|refine zaf rfl rfl ?_|refine zag rfl rfl ?_|refine zah rfl rfl ?_|refine zal rfl rfl ⟨by omega,by omega⟩ ?_|refine zai rfl rfl ?_|refine zaj rfl rfl ?_|refine zak rfl rfl ?_|refine zam rfl rfl ⟨by omega,by omega⟩ ?_|refine zcp rfl rfl ⟨by omega,by omega⟩ ?_|refine zcq rfl rfl ⟨by omega,by omega⟩ ?_|refine zau rfl rfl ?_)|(refine zcj ?_;first|refine zap rfl ?_|refine zaq rfl (by first|assumption|omega|exact fun h=>h rfl) rfl ?_|refine zar rfl (by first|assumption|omega|exact fun h=>h rfl) rfl ?_|refine zas rfl (by first|rfl|assumption) rfl ?_|refine zat rfl (by first|rfl|assumption) rfl ?_|refine zau rfl rfl ?_)|refine zan rfl ?_|refine zao rfl ?_|refine zcn rfl rfl ?_|refine zco rfl rfl ?_|refine zcr rfl rfl ?_|refine zau rfl rfl ?_|refine zax rfl rfl (by omega) ?_|refine zay rfl rfl (by omega) ?_)|(refine zck ?_;first|refine zab ?_|refine zac ?_|(refine zcl ?_;first|refine zbi rfl (by first|assumption|omega|exact fun h=>h rfl) ?_|refine zbj rfl (by first|assumption|omega|exact fun h=>h rfl) ?_|refine zbk rfl (by first|rfl|assumption) ?_|refine zbl rfl (by first|rfl|assumption) ?_|refine zbm rfl (fun _ => ?_) fun _ => ?_|refine zbn rfl (fun _ => ?_) fun _ => ?_)|refine zbo ?_|refine zbp ?_|refine zbq ?_|refine zbr ?_|refine zbs ?_|refine zbt ?_)|(refine zcm ?_;first|refine zae ?_|refine zbw ?_|refine zcc rfl ?_|refine zbu ?_|refine zbv ?_|refine zby ?_|refine zbz rfl ?_|refine zbx ?_|refine zcb ?_|refine zca ?_|refine zcd rfl ?_|refine zce rfl ?_|refine zcf rfl ?_))
  exact ⟨rfl, rfl⟩

theorem wp_now {cl : Nat → Call} (hcl : Sem cl) {d b s : Nat} {h : H} {l : List V} {ro : Bool} {n : Int} (hd : 2 ≤ d) (hb : h.get b = some (.cells l ro)) (hs : l[0 + 289]? = some (.p s 0)) (hn : l[0 + 290]? = some (.int .u64 n)) :
    cl d (.fn F.world_World_Now) [.p b 0] h = some (.int .u64 n, h) := by
  refine call_eq (at_ hcl (by omega) rfl rfl rfl ?_)
  have hno := wp_none hcl (d := d - 1) (by omega) hb hs
  repeat' (first|(refine zcg ?_;first|refine zaa rfl ?_|refine zav rfl (by assumption) (by assumption) ?_|refine zaw rfl (by assumption) ?_|refine zad (by repeat (first|(apply Kept.cons; exact rfl)|apply Kept.nil|(apply Kept.miss; exact rfl))) ?_|(refine zch ?_;first|refine zaz rfl (by first|assumption|omega|exact fun h=>h rfl) ?_|refine zba rfl (by first|assumption|omega|exact fun h=>h rfl) ?_|refine zbb rfl (by first|assumption|omega|exact fun h=>h rfl) ?_|refine zbc rfl (by first|assumption|omega|exact fun h=>h rfl) ?_|refine zbd rfl (by first|rfl|assumption) ?_|refine zbe rfl (by first|rfl|assumption) ?_|refine zbf rfl (fun _ => ?_) fun _ => ?_|refine zbg rfl (fun _ => ?_) fun _ => ?_|refine zbh rfl (fun _ => ?_) fun _ => ?_)|(refine zci ?_;first|refine zaf rfl rfl ?_|refine zag rfl rfl ?_|refine zah rfl rfl ?_|refine zal rfl rfl ⟨by omega,by omega⟩ ?_|refine zai rfl rfl ?_|refine zaj rfl rfl ?_|refine zak rfl rfl ?_|refine zam rfl rfl ⟨by omega,by omega⟩ ?_|refine zcp rfl rfl ⟨by omega,by omega⟩ ?_|refine zcq rfl rfl ⟨by omega,by omega⟩ ?_|refine zau rfl rfl ?_)|(refine zcj ?_;first|refine zap rfl ?_|refine zaq rfl (by first|assumption|omega|exact fun h=>h rfl) rfl ?_|refine zar rfl (by first|assumption|omega|exact fun h=>h rfl) rfl ?_|refine zas rfl (by first|rfl|assumption) rfl ?_|refine zat rfl (by first|rfl|assumption) rfl ?_|refine zau rfl rfl ?_)|refine zan rfl ?_|refine zao rfl ?_|refine zcn rfl rfl ?_|refine zco rfl rfl ?_|refine zcr rfl rfl ?_|refine zau rfl rfl ?_|refine zax rfl rfl (by omega) ?_|refine zay rfl rfl (by omega) ?_)|(refine zck ?_;first|refine zab ?_|refine zac ?_|(refine zcl ?_;first|refine zbi rfl (by first|assumption|omega|exact fun h=>h rfl) ?_|refine zbj rfl (by first|assumption|omega|exact fun h=>h rfl) ?_|refine zbk rfl (by first|rfl|assumption) ?_|refine zbl rfl (by first|rfl|assumption) ?_|refine zbm rfl (fun _ => ?_) fun _ => ?_|refine zbn rfl (fun _ => ?_) fun _ => ?_)|refine zbo ?_|refine zbp ?_|refine zbq ?_|refine zbr ?_|refine zbs ?_|refine zbt ?_)|(refine zcm ?_;first|refine zae ?_|refine zbw ?_|refine zcc rfl ?_|refine zbu ?_|refine zbv ?_|refine zby ?_|refine zbz rfl ?_|refine zbx ?_|refine zcb ?_|refine zca ?_|refine zcd rfl ?_|refine zce rfl ?_|refine zcf rfl ?_))
  exact ⟨rfl, rfl⟩

theorem wp_pass {cl : Nat → Call} (hcl : Sem cl) {d b s : Nat} {h : H} {l : List V} {n t : Int} (hd : 2 ≤ d) (hb : h.get b = some (.cells l false)) (hs : l[0 + 289]? = some (.p s 0)) (hn : l[0 + 290]? = some (.int .u64 n)) (n0 : 0 ≤ n ∧ n ≤ 18446744073709551615)
    (t0 : 0 ≤ t ∧ t ≤ 18446744073709551615) : cl d (.fn F.world_World_Pass) [.p b 0, .int .u64 t] h = some (.tup [], h.set b (.cells (l.set (0 + 290) (.int .u64 (if n + t ≤ 18446744073709551615 then n + t else 18446744073709551615))) false)) := by
  refine call_eq (at_ hcl (by omega) rfl rfl rfl ?_)
  have hno := wp_none hcl (d := d - 1) (by omega) hb hs
  have hlen : 0 + 290 < l.length := by
    rcases Nat.lt_or_ge (0 + 290) l.length with h1 | h1
    · exact h1
    · rw [List.getElem?_eq_none h1] at hn; cases hn
  repeat' (first|(refine zcg ?_;first|refine zaa rfl ?_|refine zav rfl (by assumption) (by assumption) ?_|refine zaw rfl (by assumption) ?_|refine zad (by repeat (first|(apply Kept.cons; exact rfl)|apply Kept.nil|(apply Kept.miss; exact rfl))) ?_|(refine zch ?_;first|refine zaz rfl (by first|assumption|omega|exact fun h=>h rfl) ?_|refine zba rfl (by first|assumption|omega|exact fun h=>h rfl) ?_|refine zbb rfl (by first|assumption|omega|exact fun h=>h rfl) ?_|refine zbc rfl (by first|assumption|omega|exact fun h=>h rfl) ?_|refine zbd rfl (by first|rfl|assumption) ?_|refine zbe rfl (by first|rfl|assumption) ?_|refine zbf rfl (fun _ => ?_) fun _ => ?_|refine zbg rfl (fun _ => ?_) fun _ => ?_|refine zbh rfl (fun _ => ?_) fun _ => ?_)|(refine zci ?_;first|refine zaf rfl rfl ?_|refine zag rfl rfl ?_|refine zah rfl rfl ?_|refine zal rfl rfl ⟨by omega,by omega⟩ ?_|refine zai rfl rfl ?_|refine zaj rfl rfl ?_|refine zak rfl rfl ?_|refine zam rfl rfl ⟨by omega,by omega⟩ ?_|refine zcp rfl rfl ⟨by omega,by omega⟩ ?_|refine zcq rfl rfl ⟨by omega,by omega⟩ ?_|refine zau rfl rfl ?_)|(refine zcj ?_;first|refine zap rfl ?_|refine zaq rfl (by first|assumption|omega|exact fun h=>h rfl) rfl ?_|refine zar rfl (by first|assumption|omega|exact fun h=>h rfl) rfl ?_|refine zas rfl (by first|rfl|assumption) rfl ?_|refine zat rfl (by first|rfl|assumption) rfl ?_|refine zau rfl rfl ?_)|refine zan rfl ?_|refine zao rfl ?_|refine zcn rfl rfl ?_|refine zco rfl rfl ?_|refine zcr rfl rfl ?_|refine zau rfl rfl ?_|refine zax rfl rfl (by omega) ?_|refine zay rfl rfl (by omega) ?_)|(refine zck ?_;first|refine zab ?_|refine zac ?_|(refine zcl ?_;first|refine zbi rfl (by first|assumption|omega|exact fun h=>h rfl) ?_|refine zbj rfl (by first|assumption|omega|exact fun h=>h rfl) ?_|refine zbk rfl (by first|rfl|assumption) ?_|refine zbl rfl (by first|rfl|assumption) ?_|refine zbm rfl (fun _ => ?_) fun _ => ?_|refine zbn rfl (fun _ => ?_) fun _ => ?_)|refine zbo ?_|refine zbp ?_|refine zbq ?_|refine zbr ?_|refine zbs ?_|refine zbt ?_)|(refine zcm ?_;first|refine zae ?_|refine zbw ?_|refine zcc rfl ?_|refine zbu ?_|refine zbv ?_|refine zby ?_|refine zbz rfl ?_|refine zbx ?_|refine zcb ?_|refine zca ?_|refine zcd rfl ?_|refine zce rfl ?_|refine zcf rfl ?_))
  refine Ops.store1 rfl rfl rfl hb hlen ?_
  rw [show n + min t (18446744073709551615 - n) = if n + t ≤ 18446744073709551615 then n + t else 18446744073709551615 by split <;> omega]
  repeat' (first|(refine zcg ?_;first|refine zaa rfl ?_|refine zad (by repeat (first|(apply Kept.cons; exact rfl)|apply Kept.nil|(apply Kept.miss; exact rfl))) ?_|(refine zch ?_;first|refine zaz rfl (by first|assumption|omega|exact fun h=>h rfl) ?_|refine zba rfl (by first|assumption|omega|exact fun h=>h rfl) ?_|refine zbb rfl (by first|assumption|omega|exact fun h=>h rfl) ?_|refine zbc rfl (by first|assumption|omega|exact fun h=>h rfl) ?_|refine zbd rfl (by first|rfl|assumption) ?_|refine zbe rfl (by first|rfl|assumption) ?_|refine zbf rfl (fun _ => ?_) fun _ => ?_|refine zbg rfl (fun _ => ?_) fun _ => ?_|refine zbh rfl (fun _ => ?_) fun _ => ?_)|(refine zci ?_;first|refine zaf rfl rfl ?_|refine zag rfl rfl ?_|refine zah rfl rfl ?_|refine zal rfl rfl ⟨by omega,by omega⟩ ?_|refine zai rfl rfl ?_|refine zaj rfl rfl ?_|refine zak rfl rfl ?_|refine zam rfl rfl ⟨by omega,by omega⟩ ?_|refine zcp rfl rfl ⟨by omega,by omega⟩ ?_|refine zcq rfl rfl ⟨by omega,by omega⟩ ?_|refine zau rfl rfl ?_)|(refine zcj ?_;first|refine zap rfl ?_|refine zaq rfl (by first|assumption|omega|exact fun h=>h rfl) rfl ?_|refine zar rfl (by first|assumption|omega|exact fun h=>h rfl) rfl ?_|refine zas rfl (by first|rfl|assumption) rfl ?_|refine zat rfl (by first|rfl|assumption) rfl ?_|refine zau rfl rfl ?_)|refine zan rfl ?_|refine zao rfl ?_|refine zcn rfl rfl ?_|refine zco rfl rfl ?_|refine zcr rfl rfl ?_|refine zau rfl rfl ?_|refine zax rfl rfl (by omega) ?_|refine zay rfl rfl (by omega) ?_)|(refine zck ?_;first|refine zab ?_|refine zac ?_|(refine zcl ?_;first|refine zbi rfl (by first|assumption|omega|exact fun h=>h rfl) ?_|refine zbj rfl (by first|assumption|omega|exact fun h=>h rfl) ?_|refine zbk rfl (by first|rfl|assumption) ?_|refine zbl rfl (by first|rfl|assumption) ?_|refine zbm rfl (fun _ => ?_) fun _ => ?_|refine zbn rfl (fun _ => ?_) fun _ => ?_)|refine zbo ?_|refine zbp ?_|refine zbq ?_|refine zbr ?_|refine zbs ?_|refine zbt ?_)|(refine zcm ?_;first|refine zae ?_|refine zbw ?_|refine zcc rfl ?_|refine zbu ?_|refine zbv ?_|refine zby ?_|refine zbz rfl ?_|refine zbx ?_|refine zcb ?_|refine zca ?_|refine zcd rfl ?_|refine zce rfl ?_|refine zcf rfl ?_))
  exact ⟨rfl, rfl⟩

/-- The chapter's example, from 7 blocks on. -/
def aliveOk (v : V) (h' : H) : Bool := isTrue v && (Nat.beq h'.nx 45 && Nat.ble (ttop h'.t) 45)
theorem alive_run : ran (callN prog fuel 30 (.fn F.roundhouselaw11_alive) [] ⟨7, .lf⟩) aliveOk = true := by kernel_rfl

/-- A fresh world's image, from 47 blocks on. -/
def freshAt (n : Nat) : H := ((⟨n, .lf⟩ : H).new zeroTb).new (.cells (wcells zeroFds .nils (.p n 0) 0 zeroNo) false)
def imageOk (v : V) (h' : H) : Bool := ran (callN prog fuel 30 (.fn F.roundhouseref11_Same) [v, .slice (some (h'.nx, 0)) 1 (.fix 1)] (h'.new (.cells [.str [110, 111, 119, 32, 48]] false))) fun w _ => isTrue w
theorem image_run : ran (callN prog fuel 30 (.fn F.world_World_Image) [.p 48 0] (freshAt 47)) imageOk = true := by kernel_rfl

end Am.Sigs
