/- Our own library, part 27. -/
import Derived.Test.YtkhkjhojpoandaaGreatDoorProg
import Derived.Test.YtkhkjhojpoandaaGreatDoorW14
set_option maxHeartbeats 8000000
set_option maxRecDepth 800
set_option linter.all false
namespace Go.Proofs
set_option maxRecDepth 100000 in
theorem primOk268:Am.jdw Tryz.prog Am.Sigs.cx 268 (Am.jb7):=Am.jgJ ⟨_,Tryz.func268,by kernel_rfl,by kernel_rfl,by kernel_rfl,by kernel_rfl⟩
theorem Am.Sigs.primsOkT:Am.jbc Tryz.prog Am.Sigs.cx Am.Sigs.jaK:=Am.jbc.of (List.forall_mem_cons.2 ⟨primOk268,fun _ h=>nomatch h⟩)
end Go.Proofs
