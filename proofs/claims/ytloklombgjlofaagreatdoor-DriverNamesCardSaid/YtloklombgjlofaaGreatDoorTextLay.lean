/- What the model itself answers. -/
import Derived.Test.YtloklombgjlofaaGreatDoorSigsCode
import Derived.Test.YtloklombgjlofaaGreatDoorProg
namespace Go.Proofs
set_option maxRecDepth 100000 in
theorem primOk139 : Am.PrimOk Tryz.prog Am.Sigs.cx 139 (Am.pIndexByte) := Am.pIndexByte_ok ⟨_, Tryz.func139, by kernel_rfl, by kernel_rfl, by kernel_rfl, by kernel_rfl⟩
theorem Am.Sigs.primsOk : Am.PrimsOk Tryz.prog Am.Sigs.cx Am.Sigs.prog := Am.PrimsOk.of (List.forall_mem_cons.2 ⟨primOk139, fun _ h => nomatch h⟩)
end Go.Proofs
