/- Our own library, part 23. -/
import Derived.Test.YtfjmannliblijaaGreatProg
import Derived.Test.YtfjmannliblijaaGreatG13
set_option maxHeartbeats 8000000
set_option linter.all false
namespace Go.Proofs
set_option maxRecDepth 100000 in
theorem primOk154:Am.jmD Tryz.prog Am.Sigs.cx 154 (Am.jc6):=Am.jik ⟨_,Tryz.func154,by kernel_rfl,by kernel_rfl,by kernel_rfl,by kernel_rfl⟩
theorem Am.Sigs.primsOk:Am.jhi Tryz.prog Am.Sigs.cx Am.Sigs.prog:=Am.jhi.of (List.forall_mem_cons.2 ⟨primOk154,fun _ h=>nomatch h⟩)
end Go.Proofs
