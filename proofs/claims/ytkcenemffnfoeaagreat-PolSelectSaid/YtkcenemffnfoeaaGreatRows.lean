/-
  No cell of these rows narrows 'for every input' (looked for: loops, veiled, ifaces, maps, wideKeys, modest, calm, conditions, laid).
  DERIVED. THE GIVEN ROWS OF THIS SEAT. 6 by the template 'for every input the law returns true; each argument reads behind the call as it read before'; 0 by the template 'total and deterministic' (their statements: YtkcenemffnfoeaaGreatTotals.lean).
  GIVEN WITH THE SEED: the statements are not yours to turn. If you find one false, say at which input.
  Laid BY PROGRAM, IN A SANDBOX (cutbox-rows.mjs): the forced cells as the released guide's own fill.sh prints them over the translation b668209c6cd2ee20… (all of the seat's roots in one cut). By AI agents, Wed Nov 11 2026. No macro, syntax, notation, axiom, sorry.
-/
import Derived.Test.YtkcenemffnfoeaaGreatChecked
import GoSem.Claim
import GoSem.ClaimJoined
import GoSem.ClaimMapViews
import Derived.JoinedTies
import Derived.KernelRfl
namespace Go.Proofs.YtkcenemffnfoeaaGreat
/- THE CELL 'sum', in the pinned program and in every row, IS THE sha256 OF THE DUMP (.gsa) THAT YtkcenemffnfoeaaGreatProg.lean LOADS. Nothing in Lean hashes anything: it is a label: what it is worth is what the hold of that sum in a sandbox is worth. -/
noncomputable def Tryz.pinned : Pinned := { name := "ytkcenemffnfoeaagreat", sum := "b668209c6cd2ee20b8c290f0d6af93f2af8509c00bb25b6fc085cc38d03404d3", checked := Tryz.checked }
namespace Rows
def none {H : Type} : Left H := { results := [], args := [] }

/-- 'roundhouselaw11.WorldReady': WHATEVER THE INPUT: true; the input reads as it did. -/
def worldReadySpec : ChangeSpec := { name := "worldReady", fn := fun _ => fun
  | [d] => { results := [.lit (.bool true)], args := [d] }
  | _ => none }
def worldReadyRow : OpenClaim := { program := "ytkcenemffnfoeaagreat", sum := "b668209c6cd2ee20b8c290f0d6af93f2af8509c00bb25b6fc085cc38d03404d3", func := "roundhouse/roundhouselaw11.WorldReady", spec := "worldReady", unfollowed := true, recurses := true, apart := false }
def WorldReadySaid : Prop := worldReadyRow.holds Tryz.pinned (OpenSpec.ofChange worldReadySpec)

/-- ITS FALSE NEIGHBOUR: 'it returns false'. Refute it at one input. -/
def worldReadyWrong : ChangeSpec := { name := "worldReady", fn := fun _ => fun
  | [d] => { results := [.lit (.bool false)], args := [d] }
  | _ => none }
def WorldReadyWrongFalsely : Prop := worldReadyRow.holds Tryz.pinned (OpenSpec.ofChange worldReadyWrong)

/-- 'roundhouselaw14.PolEach': WHATEVER THE INPUT: true; the input reads as it did. -/
def polEachSpec : ChangeSpec := { name := "polEach", fn := fun _ => fun
  | [d1, d2] => { results := [.lit (.bool true)], args := [d1, d2] }
  | _ => none }
def polEachRow : OpenClaim := { program := "ytkcenemffnfoeaagreat", sum := "b668209c6cd2ee20b8c290f0d6af93f2af8509c00bb25b6fc085cc38d03404d3", func := "roundhouse/roundhouselaw14.PolEach", spec := "polEach", unfollowed := true, recurses := true, apart := false }
def PolEachSaid : Prop := polEachRow.holds Tryz.pinned (OpenSpec.ofChange polEachSpec)

/-- ITS FALSE NEIGHBOUR: 'it returns false'. Refute it at one input. -/
def polEachWrong : ChangeSpec := { name := "polEach", fn := fun _ => fun
  | [d1, d2] => { results := [.lit (.bool false)], args := [d1, d2] }
  | _ => none }
def PolEachWrongFalsely : Prop := polEachRow.holds Tryz.pinned (OpenSpec.ofChange polEachWrong)

/-- 'roundhouselaw14.PolJoins': WHATEVER THE INPUT: true; the input reads as it did. -/
def polJoinsSpec : ChangeSpec := { name := "polJoins", fn := fun _ => fun
  | [d1, d2, d3] => { results := [.lit (.bool true)], args := [d1, d2, d3] }
  | _ => none }
def polJoinsRow : OpenClaim := { program := "ytkcenemffnfoeaagreat", sum := "b668209c6cd2ee20b8c290f0d6af93f2af8509c00bb25b6fc085cc38d03404d3", func := "roundhouse/roundhouselaw14.PolJoins", spec := "polJoins", unfollowed := true, recurses := true, apart := false }
def PolJoinsSaid : Prop := polJoinsRow.holds Tryz.pinned (OpenSpec.ofChange polJoinsSpec)

/-- ITS FALSE NEIGHBOUR: 'it returns false'. Refute it at one input. -/
def polJoinsWrong : ChangeSpec := { name := "polJoins", fn := fun _ => fun
  | [d1, d2, d3] => { results := [.lit (.bool false)], args := [d1, d2, d3] }
  | _ => none }
def PolJoinsWrongFalsely : Prop := polJoinsRow.holds Tryz.pinned (OpenSpec.ofChange polJoinsWrong)

/-- 'roundhouselaw13.SelBelow': WHATEVER THE INPUT: true; the input reads as it did. -/
def selBelowSpec : ChangeSpec := { name := "selBelow", fn := fun _ => fun
  | [d1, d2] => { results := [.lit (.bool true)], args := [d1, d2] }
  | _ => none }
def selBelowRow : OpenClaim := { program := "ytkcenemffnfoeaagreat", sum := "b668209c6cd2ee20b8c290f0d6af93f2af8509c00bb25b6fc085cc38d03404d3", func := "roundhouse/roundhouselaw13.SelBelow", spec := "selBelow", unfollowed := true, recurses := true, apart := false }
def SelBelowSaid : Prop := selBelowRow.holds Tryz.pinned (OpenSpec.ofChange selBelowSpec)

/-- ITS FALSE NEIGHBOUR: 'it returns false'. Refute it at one input. -/
def selBelowWrong : ChangeSpec := { name := "selBelow", fn := fun _ => fun
  | [d1, d2] => { results := [.lit (.bool false)], args := [d1, d2] }
  | _ => none }
def SelBelowWrongFalsely : Prop := selBelowRow.holds Tryz.pinned (OpenSpec.ofChange selBelowWrong)

/-- 'roundhouselaw13.SelParts': WHATEVER THE INPUT: true; the input reads as it did. -/
def selPartsSpec : ChangeSpec := { name := "selParts", fn := fun _ => fun
  | [d1, d2, d3] => { results := [.lit (.bool true)], args := [d1, d2, d3] }
  | _ => none }
def selPartsRow : OpenClaim := { program := "ytkcenemffnfoeaagreat", sum := "b668209c6cd2ee20b8c290f0d6af93f2af8509c00bb25b6fc085cc38d03404d3", func := "roundhouse/roundhouselaw13.SelParts", spec := "selParts", unfollowed := true, recurses := true, apart := false }
def SelPartsSaid : Prop := selPartsRow.holds Tryz.pinned (OpenSpec.ofChange selPartsSpec)

/-- ITS FALSE NEIGHBOUR: 'it returns false'. Refute it at one input. -/
def selPartsWrong : ChangeSpec := { name := "selParts", fn := fun _ => fun
  | [d1, d2, d3] => { results := [.lit (.bool false)], args := [d1, d2, d3] }
  | _ => none }
def SelPartsWrongFalsely : Prop := selPartsRow.holds Tryz.pinned (OpenSpec.ofChange selPartsWrong)

/-- 'roundhouselaw14.PolSelect': WHATEVER THE INPUT: true; the input reads as it did. -/
def polSelectSpec : ChangeSpec := { name := "polSelect", fn := fun _ => fun
  | [d1, d2, d3] => { results := [.lit (.bool true)], args := [d1, d2, d3] }
  | _ => none }
def polSelectRow : OpenClaim := { program := "ytkcenemffnfoeaagreat", sum := "b668209c6cd2ee20b8c290f0d6af93f2af8509c00bb25b6fc085cc38d03404d3", func := "roundhouse/roundhouselaw14.PolSelect", spec := "polSelect", unfollowed := true, recurses := true, apart := false }
def PolSelectSaid : Prop := polSelectRow.holds Tryz.pinned (OpenSpec.ofChange polSelectSpec)

/-- ITS FALSE NEIGHBOUR: 'it returns false'. Refute it at one input. -/
def polSelectWrong : ChangeSpec := { name := "polSelect", fn := fun _ => fun
  | [d1, d2, d3] => { results := [.lit (.bool false)], args := [d1, d2, d3] }
  | _ => none }
def PolSelectWrongFalsely : Prop := polSelectRow.holds Tryz.pinned (OpenSpec.ofChange polSelectWrong)

/- THE SECOND FORM. 'bulk': how many values and letters a reading holds, each counted each time it is reached (what is shared counts as often as it is met; a slice's spare places count too). A statement '..UptoSaid' is the law's where the arguments, and the package variables that the reading takes, are together of bulk at most 1048576: NARROWER than '..Said'. Prove '..Said' where nothing that the law and all that it calls make is longer than what came in: it says more and counts as full. Else prove '..UptoSaid'. A law counts once. -/
mutual
def uptoBulk {H : Type} : DataW H → Nat
  | .lit (.string bytes) => bytes.length + 1
  | .lit _ => 1
  | .nil => 1
  | .ptr d => uptoBulk d + 1
  | .slice elems spare => uptoBulkAll elems + uptoBulkAll spare + 1
  | .agg parts => uptoBulkAll parts + 1
  | .iface _ d => uptoBulk d + 1
  | .map entries => uptoBulkEntries entries + 1
  | .held _ => 1
def uptoBulkAll {H : Type} : List (DataW H) → Nat
  | [] => 0
  | d :: r => uptoBulk d + uptoBulkAll r
def uptoBulkEntries {H : Type} : List (Lit × DataW H) → Nat
  | [] => 0
  | x :: r => uptoBulkEntry x + uptoBulkEntries r
def uptoBulkEntry {H : Type} : Lit × DataW H → Nat
  | (.string bytes, d) => bytes.length + uptoBulk d + 1
  | (_, d) => uptoBulk d + 1
 end
def uptoSmall : (H : Type) → List (DataW H) → Bool := fun _ ds => decide (uptoBulkAll ds ≤ 1048576)
def OpenSpec.upto (s : _root_.Go.ChangeSpec) : _root_.Go.OpenSpec := { _root_.Go.OpenSpec.ofChange s with cond := some uptoSmall }

/-- 'roundhouselaw11.WorldReady', WHERE WHAT IT READS IS OF BULK AT MOST 1048576: true; the input reads as it did. -/
def worldReadyUptoRow : OpenClaim := { program := "ytkcenemffnfoeaagreat", sum := "b668209c6cd2ee20b8c290f0d6af93f2af8509c00bb25b6fc085cc38d03404d3", func := "roundhouse/roundhouselaw11.WorldReady", spec := "worldReady", unfollowed := true, recurses := true, apart := false, narrowed := true }
def WorldReadyUptoSaid : Prop := worldReadyUptoRow.holds Tryz.pinned (OpenSpec.upto worldReadySpec)

/-- 'roundhouselaw14.PolEach', WHERE WHAT IT READS IS OF BULK AT MOST 1048576: true; the input reads as it did. -/
def polEachUptoRow : OpenClaim := { program := "ytkcenemffnfoeaagreat", sum := "b668209c6cd2ee20b8c290f0d6af93f2af8509c00bb25b6fc085cc38d03404d3", func := "roundhouse/roundhouselaw14.PolEach", spec := "polEach", unfollowed := true, recurses := true, apart := false, narrowed := true }
def PolEachUptoSaid : Prop := polEachUptoRow.holds Tryz.pinned (OpenSpec.upto polEachSpec)

/-- 'roundhouselaw14.PolJoins', WHERE WHAT IT READS IS OF BULK AT MOST 1048576: true; the input reads as it did. -/
def polJoinsUptoRow : OpenClaim := { program := "ytkcenemffnfoeaagreat", sum := "b668209c6cd2ee20b8c290f0d6af93f2af8509c00bb25b6fc085cc38d03404d3", func := "roundhouse/roundhouselaw14.PolJoins", spec := "polJoins", unfollowed := true, recurses := true, apart := false, narrowed := true }
def PolJoinsUptoSaid : Prop := polJoinsUptoRow.holds Tryz.pinned (OpenSpec.upto polJoinsSpec)

/-- 'roundhouselaw13.SelBelow', WHERE WHAT IT READS IS OF BULK AT MOST 1048576: true; the input reads as it did. -/
def selBelowUptoRow : OpenClaim := { program := "ytkcenemffnfoeaagreat", sum := "b668209c6cd2ee20b8c290f0d6af93f2af8509c00bb25b6fc085cc38d03404d3", func := "roundhouse/roundhouselaw13.SelBelow", spec := "selBelow", unfollowed := true, recurses := true, apart := false, narrowed := true }
def SelBelowUptoSaid : Prop := selBelowUptoRow.holds Tryz.pinned (OpenSpec.upto selBelowSpec)

/-- 'roundhouselaw13.SelParts', WHERE WHAT IT READS IS OF BULK AT MOST 1048576: true; the input reads as it did. -/
def selPartsUptoRow : OpenClaim := { program := "ytkcenemffnfoeaagreat", sum := "b668209c6cd2ee20b8c290f0d6af93f2af8509c00bb25b6fc085cc38d03404d3", func := "roundhouse/roundhouselaw13.SelParts", spec := "selParts", unfollowed := true, recurses := true, apart := false, narrowed := true }
def SelPartsUptoSaid : Prop := selPartsUptoRow.holds Tryz.pinned (OpenSpec.upto selPartsSpec)

/-- 'roundhouselaw14.PolSelect', WHERE WHAT IT READS IS OF BULK AT MOST 1048576: true; the input reads as it did. -/
def polSelectUptoRow : OpenClaim := { program := "ytkcenemffnfoeaagreat", sum := "b668209c6cd2ee20b8c290f0d6af93f2af8509c00bb25b6fc085cc38d03404d3", func := "roundhouse/roundhouselaw14.PolSelect", spec := "polSelect", unfollowed := true, recurses := true, apart := false, narrowed := true }
def PolSelectUptoSaid : Prop := polSelectUptoRow.holds Tryz.pinned (OpenSpec.upto polSelectSpec)

end Rows
end Go.Proofs.YtkcenemffnfoeaaGreat
