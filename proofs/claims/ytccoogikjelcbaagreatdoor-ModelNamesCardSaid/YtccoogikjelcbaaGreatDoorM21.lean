/- Our own library, part 21. -/
import Derived.Test.YtccoogikjelcbaaGreatDoorM15
set_option maxHeartbeats 8000000
set_option maxRecDepth 800
set_option linter.all false
namespace Am.Sigs
open Am Go
theorem uK579:ja0 uS577 (jag (jac prog fuel 57) jm2.n (((rgO (nC (blkB (nC (lpB (blkB (nC c4.body 6))) 2)) 1))).drop 5) jm2.E jm2.h)=true:=by kernel_rfl
set_option maxRecDepth 100000 in
theorem uK583:after jid .normal (runL (jac prog fuel 57) fuel (((flat (blkB (nC (lpB (blkB (nC c4.body 6))) 2)))).drop 2) jm1.E jm1.h)=true:=by kernel_rfl
set_option maxRecDepth 100000 in
theorem uK585:after jgP .normal (runL (jac prog fuel 57) fuel (((flat (lpB (blkB (nC c4.body 6))))).drop 3) jid.E jid.h)=true:=by kernel_rfl
set_option maxRecDepth 100000 in
theorem uK588:after jic (.exit 0) (runL (jac prog fuel 57) fuel (((flat (lpB (blkB (nC c4.body 6))))).drop 0) jgP.E jgP.h)=true:=by kernel_rfl
set_option maxRecDepth 100000 in
theorem uK591:after jnq .ret (runL (jac prog fuel 57) fuel (((flat c4.body)).drop 7) jic.E jic.h)=true:=by kernel_rfl
theorem uK596:ja0 uS594 (jag (jac prog fuel 58) jm0.n (((rgO (nC c18.body 2))).drop 2) jm0.E jm0.h)=true:=by kernel_rfl
set_option maxRecDepth 100000 in
theorem uK598:after jnp .ret (runL (jac prog fuel 58) fuel (((flat c18.body)).drop 3) jmz.E jmz.h)=true:=by kernel_rfl
theorem uK602:ja0 uS600 (jag (jac prog fuel 59) jmy.n (((rgO (nC c3.body 26))).drop 2) jmy.E jmy.h)=true:=by kernel_rfl
set_option maxRecDepth 100000 in
theorem uK603:after jgO .ret (runL (jac prog fuel 59) fuel (((flat c3.body)).drop 27) jgO.E jgO.h)=true:=by kernel_rfl
end Am.Sigs
