/-
  NARROWER THAN 'FOR EVERY INPUT', by the rows' own cells (each row's printed sentence says how): DriverHas: laid · DriverNames: laid.
  DERIVED. THE GIVEN ROWS OF THIS SEAT. 2 by the template 'for every input the law returns true; each argument reads behind the call as it read before'; 0 by the template 'total and deterministic' (their statements: YtloklombgjlofaaGreatDoorTotals.lean).
  GIVEN WITH THE SEED: the statements are not yours to turn. If you find one false, say at which input.
  Laid BY PROGRAM, IN A SANDBOX (cutbox-rows.mjs): the forced cells as the released guide's own fill.sh prints them over the translation a1e4ffeeec9b56e2… (all of the seat's roots in one cut). By AI agents, Wed Nov 11 2026. No macro, syntax, notation, axiom, sorry.
-/
import Derived.Test.YtloklombgjlofaaGreatDoorChecked
import GoSem.Claim
import GoSem.ClaimJoined
import GoSem.ClaimMapViews
import Derived.JoinedTies
import Derived.KernelRfl
namespace Go.Proofs.YtloklombgjlofaaGreatDoor
/- THE CELL 'sum', in the pinned program and in every row, IS THE sha256 OF THE DUMP (.gsa) THAT YtloklombgjlofaaGreatDoorProg.lean LOADS. Nothing in Lean hashes anything: it is a label: what it is worth is what the hold of that sum in a sandbox is worth. -/
noncomputable def Tryz.pinned : Pinned := { name := "ytloklombgjlofaagreatdoor", sum := "a1e4ffeeec9b56e25da9ced199277337830ebab699b336a684a88ae062d2f7a7", checked := Tryz.checked }
namespace Rows
def none {H : Type} : Left H := { results := [], args := [] }

/- WHAT THE LISTED PACKAGE-LEVEL VARIABLES READ AS WHEN THE CALL BEGINS. Each datum BY PROGRAM (the guide's laid-datum.mjs) off the statement by which the dump's own 'gosem.cut.vars' lays the variable. In a bare row this is a premise. The card (YtloklombgjlofaaGreatDoorCards.lean) ties it to the program's text. -/
def laid_roundhouse_flag_has {H : Type} : DataW H := .agg [.lit (.int .i64 0), .lit (.int .i64 2), .lit (.int .i64 11), .lit (.int .i64 15)]
def laid_roundhouse_flag_words {H : Type} : DataW H := .agg [.agg [.lit (.string [116, 105, 109, 101, 111, 117, 116]), .lit (.string [114, 101, 97, 100]), .lit (.string [119, 114, 105, 116, 101]), .lit (.string [115, 105, 103, 110, 97, 108]), .lit (.string [112, 101, 114, 115, 105, 115, 116]), .lit (.string [101, 100, 103, 101])], .agg [.lit (.string [101, 100, 103, 101]), .lit (.string [98, 105, 103]), .lit (.string [115, 105, 103, 110, 97, 108, 115]), .lit (.string [99, 104, 97, 110, 103, 101, 115]), .lit (.string []), .lit (.string [])], .agg [.lit (.string [115, 101, 108, 101, 99, 116]), .lit (.string [112, 111, 108, 108]), .lit (.string [101, 112, 111, 108, 108]), .lit (.string [107, 113, 117, 101, 117, 101]), .lit (.string []), .lit (.string [])]]

/-- 'roundhouselaw21.DriverHas': WHATEVER THE INPUT: true; the input reads as it did. -/
def driverHasSpec : ChangeSpec := { name := "driverHas", fn := fun _ => fun
  | [d1, d2, d3] => { results := [.lit (.bool true)], args := [d1, d2, d3] }
  | _ => none }
def driverHasRow : OpenClaim := { program := "ytloklombgjlofaagreatdoor", sum := "a1e4ffeeec9b56e25da9ced199277337830ebab699b336a684a88ae062d2f7a7", func := "roundhouse/roundhouselaw21.DriverHas", spec := "driverHas", unfollowed := true, recurses := true, named := ["roundhouse/flag.has"], plainKeys := false, apart := false, laid := [("roundhouse/flag.has", laid_roundhouse_flag_has)] }
def DriverHasSaid : Prop := driverHasRow.holds Tryz.pinned (OpenSpec.ofChange driverHasSpec)

/-- ITS FALSE NEIGHBOUR: 'it returns false'. Refute it at one input. -/
def driverHasWrong : ChangeSpec := { name := "driverHas", fn := fun _ => fun
  | [d1, d2, d3] => { results := [.lit (.bool false)], args := [d1, d2, d3] }
  | _ => none }
def DriverHasWrongFalsely : Prop := driverHasRow.holds Tryz.pinned (OpenSpec.ofChange driverHasWrong)

/-- 'roundhouselaw21.DriverNames': WHATEVER THE INPUT: true; the input reads as it did. -/
def driverNamesSpec : ChangeSpec := { name := "driverNames", fn := fun _ => fun
  | [] => { results := [.lit (.bool true)], args := [] }
  | _ => none }
def driverNamesRow : OpenClaim := { program := "ytloklombgjlofaagreatdoor", sum := "a1e4ffeeec9b56e25da9ced199277337830ebab699b336a684a88ae062d2f7a7", func := "roundhouse/roundhouselaw21.DriverNames", spec := "driverNames", unfollowed := true, recurses := true, named := ["roundhouse/flag.words", "roundhouse/flag.has"], plainKeys := false, apart := false, laid := [("roundhouse/flag.words", laid_roundhouse_flag_words), ("roundhouse/flag.has", laid_roundhouse_flag_has)] }
def DriverNamesSaid : Prop := driverNamesRow.holds Tryz.pinned (OpenSpec.ofChange driverNamesSpec)

/-- ITS FALSE NEIGHBOUR: 'it returns false'. Refute it at one input. -/
def driverNamesWrong : ChangeSpec := { name := "driverNames", fn := fun _ => fun
  | [] => { results := [.lit (.bool false)], args := [] }
  | _ => none }
def DriverNamesWrongFalsely : Prop := driverNamesRow.holds Tryz.pinned (OpenSpec.ofChange driverNamesWrong)

/- THE SECOND FORM. 'bulk': how many values and letters a reading holds, each counted each time it is reached (what is shared counts as often as it is met; a slice's spare places count too). A statement '..UptoSaid' is the law's where the arguments, and the package variables that the reading takes, are together of bulk at most 1048576: NARROWER than '..Said'. Prove '..Said' where nothing that the law and all that it calls make is longer than what came in: it says more and counts as full. Else prove '..UptoSaid'. A law counts once. -/
mutual
def uptoBulk {H : Type} : DataW H → Nat
  | .lit (.string bytes) => bytes.length + 1
  | .lit _ => 1
  | .nil => 1
  | .ptr d => uptoBulk d + 1
  | .slice elems spare => uptoBulkAll elems + uptoBulkAll spare + 1
  | .agg parts => uptoBulkAll parts + 1
  | .iface _ d => uptoBulk d + 1
  | .map entries => uptoBulkEntries entries + 1
  | .held _ => 1
def uptoBulkAll {H : Type} : List (DataW H) → Nat
  | [] => 0
  | d :: r => uptoBulk d + uptoBulkAll r
def uptoBulkEntries {H : Type} : List (Lit × DataW H) → Nat
  | [] => 0
  | x :: r => uptoBulkEntry x + uptoBulkEntries r
def uptoBulkEntry {H : Type} : Lit × DataW H → Nat
  | (.string bytes, d) => bytes.length + uptoBulk d + 1
  | (_, d) => uptoBulk d + 1
 end
def uptoSmall : (H : Type) → List (DataW H) → Bool := fun _ ds => decide (uptoBulkAll ds ≤ 1048576)
def OpenSpec.upto (s : _root_.Go.ChangeSpec) : _root_.Go.OpenSpec := { _root_.Go.OpenSpec.ofChange s with cond := some uptoSmall }

/-- 'roundhouselaw21.DriverHas', WHERE WHAT IT READS IS OF BULK AT MOST 1048576: true; the input reads as it did. -/
def driverHasUptoRow : OpenClaim := { program := "ytloklombgjlofaagreatdoor", sum := "a1e4ffeeec9b56e25da9ced199277337830ebab699b336a684a88ae062d2f7a7", func := "roundhouse/roundhouselaw21.DriverHas", spec := "driverHas", unfollowed := true, recurses := true, named := ["roundhouse/flag.has"], plainKeys := false, apart := false, laid := [("roundhouse/flag.has", laid_roundhouse_flag_has)], narrowed := true }
def DriverHasUptoSaid : Prop := driverHasUptoRow.holds Tryz.pinned (OpenSpec.upto driverHasSpec)

/-- 'roundhouselaw21.DriverNames', WHERE WHAT IT READS IS OF BULK AT MOST 1048576: true; the input reads as it did. -/
def driverNamesUptoRow : OpenClaim := { program := "ytloklombgjlofaagreatdoor", sum := "a1e4ffeeec9b56e25da9ced199277337830ebab699b336a684a88ae062d2f7a7", func := "roundhouse/roundhouselaw21.DriverNames", spec := "driverNames", unfollowed := true, recurses := true, named := ["roundhouse/flag.words", "roundhouse/flag.has"], plainKeys := false, apart := false, laid := [("roundhouse/flag.words", laid_roundhouse_flag_words), ("roundhouse/flag.has", laid_roundhouse_flag_has)], narrowed := true }
def DriverNamesUptoSaid : Prop := driverNamesUptoRow.holds Tryz.pinned (OpenSpec.upto driverNamesSpec)

end Rows
end Go.Proofs.YtloklombgjlofaaGreatDoor
