/- Our own library, part 15. -/
import Derived.Test.YtkhkjhojpoandaaGreatProg
import Derived.Test.YtkhkjhojpoandaaGreatR13
set_option maxHeartbeats 8000000
set_option maxRecDepth 800
set_option linter.all false
namespace Go.Proofs
set_option maxRecDepth 100000 in
theorem primOk120:Am.jdw Tryz.prog Am.Sigs.cx 120 (Am.jaT):=Am.jed ⟨_,Tryz.func120,by kernel_rfl,by kernel_rfl,by kernel_rfl,by kernel_rfl⟩
theorem Am.Sigs.primsOkT:Am.jaQ Tryz.prog Am.Sigs.cx Am.Sigs.jbb:=Am.jaQ.of (List.forall_mem_cons.2 ⟨primOk120,fun _ h=>nomatch h⟩)
end Go.Proofs
