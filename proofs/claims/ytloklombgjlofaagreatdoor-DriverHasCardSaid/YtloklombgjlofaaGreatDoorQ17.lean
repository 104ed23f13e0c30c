/- Our own library, part 17. -/
import Derived.Test.YtloklombgjlofaaGreatDoorProg
import Derived.Test.YtloklombgjlofaaGreatDoorQ13
set_option maxHeartbeats 8000000
set_option maxRecDepth 800
set_option linter.all false
namespace Go.Proofs
set_option maxRecDepth 100000 in
theorem primOk139:Am.jjB Tryz.prog Am.Sigs.cx 139 (Am.jbi):=Am.jeJ ⟨_,Tryz.func139,by kernel_rfl,by kernel_rfl,by kernel_rfl,by kernel_rfl⟩
theorem Am.Sigs.primsOk:Am.jec Tryz.prog Am.Sigs.cx Am.Sigs.prog:=Am.jec.of (List.forall_mem_cons.2 ⟨primOk139,fun _ h=>nomatch h⟩)
end Go.Proofs
