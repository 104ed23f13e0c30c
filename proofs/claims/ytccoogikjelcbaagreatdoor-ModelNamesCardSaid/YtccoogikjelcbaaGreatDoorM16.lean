/- Our own library, part 16. -/
import Derived.Test.YtccoogikjelcbaaGreatDoorM15
set_option maxHeartbeats 8000000
set_option maxRecDepth 800
set_option linter.all false
namespace Am.Sigs
open Am Go
set_option maxRecDepth 100000 in
theorem uK8:after uS7 .normal (runL (jac prog fuel 59) fuel ((((flat c3.body)).drop 0).take 1) uS4.E uS4.h)=true:=by kernel_rfl
theorem uK20:ja0 uS19 (jag (jac prog fuel 59) uS7.n (((rgO (nC c3.body 1))).take 1) uS7.E uS7.h)=true:=by kernel_rfl
set_option maxRecDepth 100000 in
theorem uK31:after uS30 .normal (runL (jac prog fuel 58) fuel ((((flat c4.body)).drop 0).take 6) uS21.E uS21.h)=true:=by kernel_rfl
set_option maxRecDepth 100000 in
theorem uK37:after uS36 .normal (runL (jac prog fuel 58) fuel (((flat (lpB (blkB (nC c4.body 6))))).drop 0) uS30.E uS30.h)=true:=by kernel_rfl
set_option maxRecDepth 100000 in
theorem uK42:after uS41 .normal (runL (jac prog fuel 58) fuel (((flat (lpB (blkB (nC c4.body 6))))).drop 0) uS36.E uS36.h)=true:=by kernel_rfl
set_option maxRecDepth 100000 in
theorem uK45:after uS44 .normal (runL (jac prog fuel 58) fuel (((flat (lpB (blkB (nC c4.body 6))))).drop 0) uS41.E uS41.h)=true:=by kernel_rfl
end Am.Sigs
