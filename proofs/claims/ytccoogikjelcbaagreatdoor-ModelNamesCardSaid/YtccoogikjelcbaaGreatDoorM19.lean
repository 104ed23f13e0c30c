/- Our own library, part 19. -/
import Derived.Test.YtccoogikjelcbaaGreatDoorM15
set_option maxHeartbeats 8000000
set_option maxRecDepth 800
set_option linter.all false
namespace Am.Sigs
open Am Go
set_option maxRecDepth 100000 in
theorem uK361:after jny .ret (runL (jac prog fuel 53) fuel (((flat c123.body)).drop 4) jnz.E jnz.h)=true:=by kernel_rfl
theorem uK366:ja0 uS364 (jag (jac prog fuel 54) jmG.n (((rgO (nC (blkB (nC (lpB (blkB (nC c66.body 2))) 0)) 2))).drop 3) jmG.E jmG.h)=true:=by kernel_rfl
set_option maxRecDepth 100000 in
theorem uK368:after jio .normal (runL (jac prog fuel 54) fuel (((flat (blkB (nC (lpB (blkB (nC c66.body 2))) 0)))).drop 3) jmF.E jmF.h)=true:=by kernel_rfl
set_option maxRecDepth 100000 in
theorem uK370:after jgZ .normal (runL (jac prog fuel 54) fuel (((flat (lpB (blkB (nC c66.body 2))))).drop 1) jio.E jio.h)=true:=by kernel_rfl
set_option maxRecDepth 100000 in
theorem uK373:after jin .ret (runL (jac prog fuel 54) fuel (((flat (lpB (blkB (nC c66.body 2))))).drop 0) jgZ.E jgZ.h)=true:=by kernel_rfl
theorem uK377:ja0 uS375 (jag (jac prog fuel 55) jmE.n (((rgO (nC c30.body 2))).drop 4) jmE.E jmE.h)=true:=by kernel_rfl
set_option maxRecDepth 100000 in
theorem uK382:after jnx .ret (runL (jac prog fuel 55) fuel (((flat c30.body)).drop 3) jmD.E jmD.h)=true:=by kernel_rfl
theorem uK386:ja0 uS384 (jag (jac prog fuel 56) jmC.n (((rgO (nC (blkB (nC (lpB (blkB (nC c6.body 22))) 2)) 1))).drop 5) jmC.E jmC.h)=true:=by kernel_rfl
set_option maxRecDepth 100000 in
theorem uK390:after jim .normal (runL (jac prog fuel 56) fuel (((flat (blkB (nC (lpB (blkB (nC c6.body 22))) 2)))).drop 2) jmB.E jmB.h)=true:=by kernel_rfl
set_option maxRecDepth 100000 in
theorem uK392:after jgY .normal (runL (jac prog fuel 56) fuel (((flat (lpB (blkB (nC c6.body 22))))).drop 3) jim.E jim.h)=true:=by kernel_rfl
set_option maxRecDepth 100000 in
theorem uK399:after jgX .normal (runL (jac prog fuel 56) fuel (((flat (lpB (blkB (nC c6.body 22))))).drop 0) jgY.E jgY.h)=true:=by kernel_rfl
set_option maxRecDepth 100000 in
theorem uK402:after jil (.exit 4) (runL (jac prog fuel 56) fuel (((flat (lpB (blkB (nC c6.body 22))))).drop 0) jgX.E jgX.h)=true:=by kernel_rfl
set_option maxRecDepth 100000 in
theorem uK407:after jnw .ret (runL (jac prog fuel 56) fuel (((flat c6.body)).drop 23) jil.E jil.h)=true:=by kernel_rfl
theorem uK413:ja0 uS411 (jag (jac prog fuel 57) jmA.n (((rgO (nC (blkB (nC (lpB (blkB (nC c4.body 6))) 2)) 1))).drop 5) jmA.E jmA.h)=true:=by kernel_rfl
set_option maxRecDepth 100000 in
theorem uK416:after jik .normal (runL (jac prog fuel 57) fuel (((flat (blkB (nC (lpB (blkB (nC c4.body 6))) 2)))).drop 2) jm9.E jm9.h)=true:=by kernel_rfl
set_option maxRecDepth 100000 in
theorem uK418:after jgW .normal (runL (jac prog fuel 57) fuel (((flat (lpB (blkB (nC c4.body 6))))).drop 3) jik.E jik.h)=true:=by kernel_rfl
set_option maxRecDepth 100000 in
theorem uK422:after jgV .normal (runL (jac prog fuel 57) fuel (((flat (lpB (blkB (nC c4.body 6))))).drop 0) jgW.E jgW.h)=true:=by kernel_rfl
set_option maxRecDepth 100000 in
theorem uK427:after jgU .normal (runL (jac prog fuel 57) fuel (((flat (lpB (blkB (nC c4.body 6))))).drop 0) jgV.E jgV.h)=true:=by kernel_rfl
end Am.Sigs
