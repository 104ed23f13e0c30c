/- Our own library, part 17. -/
import Derived.Test.YtccoogikjelcbaaGreatDoorM15
set_option maxHeartbeats 8000000
set_option maxRecDepth 800
set_option linter.all false
namespace Am.Sigs
open Am Go
set_option maxRecDepth 100000 in
theorem uK48:after uS47 .normal (runL (jac prog fuel 58) fuel ((((flat (lpB (blkB (nC c4.body 6))))).drop 0).take 2) uS44.E uS44.h)=true:=by kernel_rfl
set_option maxRecDepth 100000 in
theorem uK52:after uS51 .normal (runL (jac prog fuel 58) fuel ((((flat (blkB (nC (lpB (blkB (nC c4.body 6))) 2)))).drop 0).take 1) uS47.E uS47.h)=true:=by kernel_rfl
theorem uK55:ja0 uS54 (jag (jac prog fuel 58) uS51.n (((rgO (nC (blkB (nC (lpB (blkB (nC c4.body 6))) 2)) 1))).take 4) uS51.E uS51.h)=true:=by kernel_rfl
set_option maxRecDepth 100000 in
theorem uK95:after uS94 .normal (runL (jac prog fuel 57) fuel ((((flat c6.body)).drop 0).take 22) uS56.E uS56.h)=true:=by kernel_rfl
set_option maxRecDepth 100000 in
theorem uK99:after uS98 .normal (runL (jac prog fuel 57) fuel ((((flat (lpB (blkB (nC c6.body 22))))).drop 0).take 2) uS94.E uS94.h)=true:=by kernel_rfl
set_option maxRecDepth 100000 in
theorem uK103:after jkk .normal (runL (jac prog fuel 57) fuel ((((flat (blkB (nC (lpB (blkB (nC c6.body 22))) 2)))).drop 0).take 1) uS98.E uS98.h)=true:=by kernel_rfl
theorem uK106:ja0 uS105 (jag (jac prog fuel 57) jkk.n (((rgO (nC (blkB (nC (lpB (blkB (nC c6.body 22))) 2)) 1))).take 4) jkk.E jkk.h)=true:=by kernel_rfl
set_option maxRecDepth 100000 in
theorem uK110:after jkj .normal (runL (jac prog fuel 56) fuel ((((flat c30.body)).drop 0).take 2) je4.E je4.h)=true:=by kernel_rfl
theorem uK113:ja0 uS112 (jag (jac prog fuel 56) jkj.n (((rgO (nC c30.body 2))).take 3) jkj.E jkj.h)=true:=by kernel_rfl
set_option maxRecDepth 100000 in
theorem uK116:after jd6 .normal (runL (jac prog fuel 55) fuel ((((flat c66.body)).drop 0).take 2) je4.E je4.h)=true:=by kernel_rfl
set_option maxRecDepth 100000 in
theorem uK125:after jki .normal (runL (jac prog fuel 55) fuel ((((flat (blkB (nC (lpB (blkB (nC c66.body 2))) 0)))).drop 0).take 2) jd6.E jd6.h)=true:=by kernel_rfl
theorem uK128:ja0 uS127 (jag (jac prog fuel 55) jki.n (((rgO (nC (blkB (nC (lpB (blkB (nC c66.body 2))) 0)) 2))).take 2) jki.E jki.h)=true:=by kernel_rfl
set_option maxRecDepth 100000 in
theorem uK135:after jn6 .normal (runL (jac prog fuel 54) fuel ((((flat c123.body)).drop 0).take 3) jlp.E jlp.h)=true:=by kernel_rfl
set_option maxRecDepth 100000 in
theorem uK147:after jn5 .normal (runL (jac prog fuel 54) fuel ((((flat c123.body)).drop 3).take 1) jn6.E jn6.h)=true:=by kernel_rfl
set_option maxRecDepth 100000 in
theorem uK164:after jn4 .ret (runL (jac prog fuel 54) fuel (((flat c123.body)).drop 4) jn5.E jn5.h)=true:=by kernel_rfl
theorem uK169:ja0 uS167 (jag (jac prog fuel 55) jmQ.n (((rgO (nC (blkB (nC (lpB (blkB (nC c66.body 2))) 0)) 2))).drop 3) jmQ.E jmQ.h)=true:=by kernel_rfl
set_option maxRecDepth 100000 in
theorem uK171:after jiw .normal (runL (jac prog fuel 55) fuel (((flat (blkB (nC (lpB (blkB (nC c66.body 2))) 0)))).drop 3) jmP.E jmP.h)=true:=by kernel_rfl
set_option maxRecDepth 100000 in
theorem uK173:after jhf .normal (runL (jac prog fuel 55) fuel (((flat (lpB (blkB (nC c66.body 2))))).drop 1) jiw.E jiw.h)=true:=by kernel_rfl
set_option maxRecDepth 100000 in
theorem uK176:after jiv .ret (runL (jac prog fuel 55) fuel (((flat (lpB (blkB (nC c66.body 2))))).drop 0) jhf.E jhf.h)=true:=by kernel_rfl
theorem uK180:ja0 uS178 (jag (jac prog fuel 56) jmO.n (((rgO (nC c30.body 2))).drop 4) jmO.E jmO.h)=true:=by kernel_rfl
set_option maxRecDepth 100000 in
theorem uK185:after jn3 .ret (runL (jac prog fuel 56) fuel (((flat c30.body)).drop 3) jmN.E jmN.h)=true:=by kernel_rfl
theorem uK189:ja0 uS187 (jag (jac prog fuel 57) jmM.n (((rgO (nC (blkB (nC (lpB (blkB (nC c6.body 22))) 2)) 1))).drop 5) jmM.E jmM.h)=true:=by kernel_rfl
set_option maxRecDepth 100000 in
theorem uK194:after jiu .normal (runL (jac prog fuel 57) fuel (((flat (blkB (nC (lpB (blkB (nC c6.body 22))) 2)))).drop 2) jmL.E jmL.h)=true:=by kernel_rfl
set_option maxRecDepth 100000 in
theorem uK196:after jhe .normal (runL (jac prog fuel 57) fuel (((flat (lpB (blkB (nC c6.body 22))))).drop 3) jiu.E jiu.h)=true:=by kernel_rfl
set_option maxRecDepth 100000 in
theorem uK204:after jhd .normal (runL (jac prog fuel 57) fuel (((flat (lpB (blkB (nC c6.body 22))))).drop 0) jhe.E jhe.h)=true:=by kernel_rfl
set_option maxRecDepth 100000 in
theorem uK207:after jit (.exit 4) (runL (jac prog fuel 57) fuel (((flat (lpB (blkB (nC c6.body 22))))).drop 0) jhd.E jhd.h)=true:=by kernel_rfl
set_option maxRecDepth 100000 in
theorem uK213:after jn2 .ret (runL (jac prog fuel 57) fuel (((flat c6.body)).drop 23) jit.E jit.h)=true:=by kernel_rfl
end Am.Sigs
