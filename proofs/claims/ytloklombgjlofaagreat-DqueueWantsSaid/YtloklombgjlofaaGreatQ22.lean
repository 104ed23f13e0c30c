/- Our own library, part 22. -/
import Derived.Test.YtloklombgjlofaaGreatProg
import Derived.Test.YtloklombgjlofaaGreatQ13
set_option maxHeartbeats 8000000
set_option maxRecDepth 800
set_option linter.all false
namespace Go.Proofs
set_option maxRecDepth 100000 in
theorem primOk162:Am.jnS Tryz.prog Am.Sigs.cx 162 (Am.jc8):=Am.jip ⟨_,Tryz.func162,by kernel_rfl,by kernel_rfl,by kernel_rfl,by kernel_rfl⟩
theorem Am.Sigs.primsOk:Am.jhi Tryz.prog Am.Sigs.cx Am.Sigs.prog:=Am.jhi.of (List.forall_mem_cons.2 ⟨primOk162,fun _ h=>nomatch h⟩)
end Go.Proofs
