/- Our own library, part 26. -/
import Derived.Test.YtafdknfdmlknfaaGreatProg
import Derived.Test.YtafdknfdmlknfaaGreatH13
set_option maxHeartbeats 8000000
set_option maxRecDepth 800
set_option linter.all false
namespace Go.Proofs
set_option maxRecDepth 100000 in
theorem primOk154:Am.jok Tryz.prog Am.Sigs.cx 154 (Am.jc0):=Am.jjb ⟨_,Tryz.func154,by kernel_rfl,by kernel_rfl,by kernel_rfl,by kernel_rfl⟩
theorem Am.Sigs.primsOk:Am.jhU Tryz.prog Am.Sigs.cx Am.Sigs.prog:=Am.jhU.of (List.forall_mem_cons.2 ⟨primOk154,fun _ h=>nomatch h⟩)
end Go.Proofs
