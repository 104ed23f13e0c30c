/- Our own library, part 20. -/
import Derived.Test.YtccoogikjelcbaaGreatDoorM15
set_option maxHeartbeats 8000000
set_option maxRecDepth 800
set_option linter.all false
namespace Am.Sigs
open Am Go
set_option maxRecDepth 100000 in
theorem uK430:after jij .normal (runL (jac prog fuel 57) fuel ((((flat (lpB (blkB (nC c4.body 6))))).drop 0).take 2) jgU.E jgU.h)=true:=by kernel_rfl
set_option maxRecDepth 100000 in
theorem uK434:after jkb .normal (runL (jac prog fuel 57) fuel ((((flat (blkB (nC (lpB (blkB (nC c4.body 6))) 2)))).drop 0).take 1) jij.E jij.h)=true:=by kernel_rfl
theorem uK437:ja0 uS436 (jag (jac prog fuel 57) jkb.n (((rgO (nC (blkB (nC (lpB (blkB (nC c4.body 6))) 2)) 1))).take 4) jkb.E jkb.h)=true:=by kernel_rfl
set_option maxRecDepth 100000 in
theorem uK468:after jgT .normal (runL (jac prog fuel 56) fuel ((((flat c6.body)).drop 0).take 22) jlk.E jlk.h)=true:=by kernel_rfl
set_option maxRecDepth 100000 in
theorem uK472:after jii .normal (runL (jac prog fuel 56) fuel ((((flat (lpB (blkB (nC c6.body 22))))).drop 0).take 2) jgT.E jgT.h)=true:=by kernel_rfl
set_option maxRecDepth 100000 in
theorem uK476:after jka .normal (runL (jac prog fuel 56) fuel ((((flat (blkB (nC (lpB (blkB (nC c6.body 22))) 2)))).drop 0).take 1) jii.E jii.h)=true:=by kernel_rfl
theorem uK479:ja0 uS478 (jag (jac prog fuel 56) jka.n (((rgO (nC (blkB (nC (lpB (blkB (nC c6.body 22))) 2)) 1))).take 4) jka.E jka.h)=true:=by kernel_rfl
set_option maxRecDepth 100000 in
theorem uK483:after jjZ .normal (runL (jac prog fuel 55) fuel ((((flat c30.body)).drop 0).take 2) je2.E je2.h)=true:=by kernel_rfl
theorem uK486:ja0 uS485 (jag (jac prog fuel 55) jjZ.n (((rgO (nC c30.body 2))).take 3) jjZ.E jjZ.h)=true:=by kernel_rfl
set_option maxRecDepth 100000 in
theorem uK489:after jd4 .normal (runL (jac prog fuel 54) fuel ((((flat c66.body)).drop 0).take 2) je2.E je2.h)=true:=by kernel_rfl
set_option maxRecDepth 100000 in
theorem uK497:after jjY .normal (runL (jac prog fuel 54) fuel ((((flat (blkB (nC (lpB (blkB (nC c66.body 2))) 0)))).drop 0).take 2) jd4.E jd4.h)=true:=by kernel_rfl
theorem uK500:ja0 uS499 (jag (jac prog fuel 54) jjY.n (((rgO (nC (blkB (nC (lpB (blkB (nC c66.body 2))) 0)) 2))).take 2) jjY.E jjY.h)=true:=by kernel_rfl
set_option maxRecDepth 100000 in
theorem uK506:after jnv .normal (runL (jac prog fuel 53) fuel ((((flat c123.body)).drop 0).take 3) jlj.E jlj.h)=true:=by kernel_rfl
set_option maxRecDepth 100000 in
theorem uK516:after jnu .normal (runL (jac prog fuel 53) fuel ((((flat c123.body)).drop 3).take 1) jnv.E jnv.h)=true:=by kernel_rfl
set_option maxRecDepth 100000 in
theorem uK527:after jnt .ret (runL (jac prog fuel 53) fuel (((flat c123.body)).drop 4) jnu.E jnu.h)=true:=by kernel_rfl
theorem uK532:ja0 uS530 (jag (jac prog fuel 54) jm8.n (((rgO (nC (blkB (nC (lpB (blkB (nC c66.body 2))) 0)) 2))).drop 3) jm8.E jm8.h)=true:=by kernel_rfl
set_option maxRecDepth 100000 in
theorem uK534:after jih .normal (runL (jac prog fuel 54) fuel (((flat (blkB (nC (lpB (blkB (nC c66.body 2))) 0)))).drop 3) jm7.E jm7.h)=true:=by kernel_rfl
set_option maxRecDepth 100000 in
theorem uK536:after jgS .normal (runL (jac prog fuel 54) fuel (((flat (lpB (blkB (nC c66.body 2))))).drop 1) jih.E jih.h)=true:=by kernel_rfl
set_option maxRecDepth 100000 in
theorem uK539:after jig .ret (runL (jac prog fuel 54) fuel (((flat (lpB (blkB (nC c66.body 2))))).drop 0) jgS.E jgS.h)=true:=by kernel_rfl
theorem uK543:ja0 uS541 (jag (jac prog fuel 55) jm6.n (((rgO (nC c30.body 2))).drop 4) jm6.E jm6.h)=true:=by kernel_rfl
set_option maxRecDepth 100000 in
theorem uK548:after jns .ret (runL (jac prog fuel 55) fuel (((flat c30.body)).drop 3) jm5.E jm5.h)=true:=by kernel_rfl
theorem uK552:ja0 uS550 (jag (jac prog fuel 56) jm4.n (((rgO (nC (blkB (nC (lpB (blkB (nC c6.body 22))) 2)) 1))).drop 5) jm4.E jm4.h)=true:=by kernel_rfl
set_option maxRecDepth 100000 in
theorem uK556:after jif .normal (runL (jac prog fuel 56) fuel (((flat (blkB (nC (lpB (blkB (nC c6.body 22))) 2)))).drop 2) jm3.E jm3.h)=true:=by kernel_rfl
set_option maxRecDepth 100000 in
theorem uK558:after jgR .normal (runL (jac prog fuel 56) fuel (((flat (lpB (blkB (nC c6.body 22))))).drop 3) jif.E jif.h)=true:=by kernel_rfl
set_option maxRecDepth 100000 in
theorem uK565:after jgQ .normal (runL (jac prog fuel 56) fuel (((flat (lpB (blkB (nC c6.body 22))))).drop 0) jgR.E jgR.h)=true:=by kernel_rfl
set_option maxRecDepth 100000 in
theorem uK568:after jie (.exit 4) (runL (jac prog fuel 56) fuel (((flat (lpB (blkB (nC c6.body 22))))).drop 0) jgQ.E jgQ.h)=true:=by kernel_rfl
set_option maxRecDepth 100000 in
theorem uK573:after jnr .ret (runL (jac prog fuel 56) fuel (((flat c6.body)).drop 23) jie.E jie.h)=true:=by kernel_rfl
end Am.Sigs
