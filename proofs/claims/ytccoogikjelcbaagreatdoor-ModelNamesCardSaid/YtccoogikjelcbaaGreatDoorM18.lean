/- Our own library, part 18. -/
import Derived.Test.YtccoogikjelcbaaGreatDoorM15
set_option maxHeartbeats 8000000
set_option maxRecDepth 800
set_option linter.all false
namespace Am.Sigs
open Am Go
theorem uK219:ja0 uS217 (jag (jac prog fuel 58) jmK.n (((rgO (nC (blkB (nC (lpB (blkB (nC c4.body 6))) 2)) 1))).drop 5) jmK.E jmK.h)=true:=by kernel_rfl
set_option maxRecDepth 100000 in
theorem uK221:after jis .normal (runL (jac prog fuel 58) fuel (((flat (blkB (nC (lpB (blkB (nC c4.body 6))) 2)))).drop 2) jmJ.E jmJ.h)=true:=by kernel_rfl
set_option maxRecDepth 100000 in
theorem uK223:after jhc .normal (runL (jac prog fuel 58) fuel (((flat (lpB (blkB (nC c4.body 6))))).drop 3) jis.E jis.h)=true:=by kernel_rfl
set_option maxRecDepth 100000 in
theorem uK226:after jir (.exit 0) (runL (jac prog fuel 58) fuel (((flat (lpB (blkB (nC c4.body 6))))).drop 0) jhc.E jhc.h)=true:=by kernel_rfl
set_option maxRecDepth 100000 in
theorem uK229:after jn1 .ret (runL (jac prog fuel 58) fuel (((flat c4.body)).drop 7) jir.E jir.h)=true:=by kernel_rfl
theorem uK234:ja0 uS232 (jag (jac prog fuel 59) jmI.n (((rgO (nC c3.body 1))).drop 2) jmI.E jmI.h)=true:=by kernel_rfl
set_option maxRecDepth 100000 in
theorem uK238:after jkh .normal (runL (jac prog fuel 59) fuel ((((flat c3.body)).drop 2).take 24) jmH.E jmH.h)=true:=by kernel_rfl
theorem uK241:ja0 uS240 (jag (jac prog fuel 59) jkh.n (((rgO (nC c3.body 26))).take 1) jkh.E jkh.h)=true:=by kernel_rfl
set_option maxRecDepth 100000 in
theorem uK248:after jkg .normal (runL (jac prog fuel 58) fuel ((((flat c18.body)).drop 0).take 2) jlo.E jlo.h)=true:=by kernel_rfl
theorem uK256:ja0 uS255 (jag (jac prog fuel 58) jkg.n (((rgO (nC c18.body 2))).take 1) jkg.E jkg.h)=true:=by kernel_rfl
set_option maxRecDepth 100000 in
theorem uK264:after jhb .normal (runL (jac prog fuel 57) fuel ((((flat c4.body)).drop 0).take 6) jln.E jln.h)=true:=by kernel_rfl
set_option maxRecDepth 100000 in
theorem uK268:after jiq .normal (runL (jac prog fuel 57) fuel ((((flat (lpB (blkB (nC c4.body 6))))).drop 0).take 2) jhb.E jhb.h)=true:=by kernel_rfl
set_option maxRecDepth 100000 in
theorem uK272:after jkf .normal (runL (jac prog fuel 57) fuel ((((flat (blkB (nC (lpB (blkB (nC c4.body 6))) 2)))).drop 0).take 1) jiq.E jiq.h)=true:=by kernel_rfl
theorem uK275:ja0 uS274 (jag (jac prog fuel 57) jkf.n (((rgO (nC (blkB (nC (lpB (blkB (nC c4.body 6))) 2)) 1))).take 4) jkf.E jkf.h)=true:=by kernel_rfl
set_option maxRecDepth 100000 in
theorem uK305:after jha .normal (runL (jac prog fuel 56) fuel ((((flat c6.body)).drop 0).take 22) jlm.E jlm.h)=true:=by kernel_rfl
set_option maxRecDepth 100000 in
theorem uK309:after jip .normal (runL (jac prog fuel 56) fuel ((((flat (lpB (blkB (nC c6.body 22))))).drop 0).take 2) jha.E jha.h)=true:=by kernel_rfl
set_option maxRecDepth 100000 in
theorem uK313:after jke .normal (runL (jac prog fuel 56) fuel ((((flat (blkB (nC (lpB (blkB (nC c6.body 22))) 2)))).drop 0).take 1) jip.E jip.h)=true:=by kernel_rfl
theorem uK316:ja0 uS315 (jag (jac prog fuel 56) jke.n (((rgO (nC (blkB (nC (lpB (blkB (nC c6.body 22))) 2)) 1))).take 4) jke.E jke.h)=true:=by kernel_rfl
set_option maxRecDepth 100000 in
theorem uK320:after jkd .normal (runL (jac prog fuel 55) fuel ((((flat c30.body)).drop 0).take 2) je3.E je3.h)=true:=by kernel_rfl
theorem uK323:ja0 uS322 (jag (jac prog fuel 55) jkd.n (((rgO (nC c30.body 2))).take 3) jkd.E jkd.h)=true:=by kernel_rfl
set_option maxRecDepth 100000 in
theorem uK326:after jd5 .normal (runL (jac prog fuel 54) fuel ((((flat c66.body)).drop 0).take 2) je3.E je3.h)=true:=by kernel_rfl
set_option maxRecDepth 100000 in
theorem uK334:after jkc .normal (runL (jac prog fuel 54) fuel ((((flat (blkB (nC (lpB (blkB (nC c66.body 2))) 0)))).drop 0).take 2) jd5.E jd5.h)=true:=by kernel_rfl
theorem uK337:ja0 uS336 (jag (jac prog fuel 54) jkc.n (((rgO (nC (blkB (nC (lpB (blkB (nC c66.body 2))) 0)) 2))).take 2) jkc.E jkc.h)=true:=by kernel_rfl
set_option maxRecDepth 100000 in
theorem uK343:after jn0 .normal (runL (jac prog fuel 53) fuel ((((flat c123.body)).drop 0).take 3) jll.E jll.h)=true:=by kernel_rfl
set_option maxRecDepth 100000 in
theorem uK350:after jnz .normal (runL (jac prog fuel 53) fuel ((((flat c123.body)).drop 3).take 1) jn0.E jn0.h)=true:=by kernel_rfl
end Am.Sigs
