/- Our own library, part 20. -/
import Derived.Test.YtkhkjhojpoandaaGreatDoorW16
set_option maxHeartbeats 8000000
set_option maxRecDepth 800
set_option linter.all false
namespace Am.Sigs
open Am Go
set_option maxRecDepth 100000 in
theorem uK306:after jkn .ret (runL (jab prog fuel 56) fuel (((flat (lpB (blkB ((((flat c24.body)).drop 2).headD .skip))))).drop 0) jif.E jif.h)=true:=by kernel_rfl
theorem uK310:jat uS308 (jaf (jab prog fuel 57) joG.n (((rgO ((((flat c8.body)).drop 2).headD .skip))).drop 4) joG.E joG.h)=true:=by kernel_rfl
set_option maxRecDepth 100000 in
theorem uK315:after jp2 .ret (runL (jab prog fuel 57) fuel (((flat c8.body)).drop 3) joF.E joF.h)=true:=by kernel_rfl
theorem uK319:jat uS317 (jaf (jab prog fuel 58) joE.n (((rgO ((((flat (blkB ((((flat (lpB (blkB ((((flat c4.body)).drop 16).headD .skip))))).drop 2).headD .skip)))).drop 1).headD .skip))).drop 9) joE.E joE.h)=true:=by kernel_rfl
set_option maxRecDepth 100000 in
theorem uK324:after jkm .normal (runL (jab prog fuel 58) fuel (((flat (blkB ((((flat (lpB (blkB ((((flat c4.body)).drop 16).headD .skip))))).drop 2).headD .skip)))).drop 2) joD.E joD.h)=true:=by kernel_rfl
set_option maxRecDepth 100000 in
theorem uK326:after jie .normal (runL (jab prog fuel 58) fuel (((flat (lpB (blkB ((((flat c4.body)).drop 16).headD .skip))))).drop 3) jkm.E jkm.h)=true:=by kernel_rfl
set_option maxRecDepth 100000 in
theorem uK329:after jkl (.exit 2) (runL (jab prog fuel 58) fuel (((flat (lpB (blkB ((((flat c4.body)).drop 16).headD .skip))))).drop 0) jie.E jie.h)=true:=by kernel_rfl
set_option maxRecDepth 100000 in
theorem uK333:after jp1 .ret (runL (jab prog fuel 58) fuel (((flat c4.body)).drop 17) jkl.E jkl.h)=true:=by kernel_rfl
theorem uK339:jat uS337 (jaf (jab prog fuel 59) joC.n (((rgO ((((flat (blkB ((((flat (lpB (blkB ((((flat c3.body)).drop 4).headD .skip))))).drop 2).headD .skip)))).drop 3).headD .skip))).drop 7) joC.E joC.h)=true:=by kernel_rfl
set_option maxRecDepth 100000 in
theorem uK341:after jkk .normal (runL (jab prog fuel 59) fuel (((flat (blkB ((((flat (lpB (blkB ((((flat c3.body)).drop 4).headD .skip))))).drop 2).headD .skip)))).drop 4) joB.E joB.h)=true:=by kernel_rfl
set_option maxRecDepth 100000 in
theorem uK343:after jid .normal (runL (jab prog fuel 59) fuel (((flat (lpB (blkB ((((flat c3.body)).drop 4).headD .skip))))).drop 3) jkk.E jkk.h)=true:=by kernel_rfl
set_option maxRecDepth 100000 in
theorem uK346:after jkj .normal (runL (jab prog fuel 59) fuel ((((flat (lpB (blkB ((((flat c3.body)).drop 4).headD .skip))))).drop 0).take 2) jid.E jid.h)=true:=by kernel_rfl
set_option maxRecDepth 100000 in
theorem uK365:after jp0 .normal (runL (jab prog fuel 59) fuel ((((flat (blkB ((((flat (lpB (blkB ((((flat c3.body)).drop 4).headD .skip))))).drop 2).headD .skip)))).drop 0).take 3) jkj.E jkj.h)=true:=by kernel_rfl
set_option maxRecDepth 100000 in
theorem uK367:after jki .normal (runL (jab prog fuel 59) fuel (((flat (blkB ((((flat (lpB (blkB ((((flat c3.body)).drop 4).headD .skip))))).drop 2).headD .skip)))).drop 3) jp0.E jp0.h)=true:=by kernel_rfl
set_option maxRecDepth 100000 in
theorem uK369:after jic .normal (runL (jab prog fuel 59) fuel (((flat (lpB (blkB ((((flat c3.body)).drop 4).headD .skip))))).drop 3) jki.E jki.h)=true:=by kernel_rfl
set_option maxRecDepth 100000 in
theorem uK372:after jkh .normal (runL (jab prog fuel 59) fuel ((((flat (lpB (blkB ((((flat c3.body)).drop 4).headD .skip))))).drop 0).take 2) jic.E jic.h)=true:=by kernel_rfl
set_option maxRecDepth 100000 in
theorem uK391:after jpz .normal (runL (jab prog fuel 59) fuel ((((flat (blkB ((((flat (lpB (blkB ((((flat c3.body)).drop 4).headD .skip))))).drop 2).headD .skip)))).drop 0).take 3) jkh.E jkh.h)=true:=by kernel_rfl
set_option maxRecDepth 100000 in
theorem uK393:after jkg .normal (runL (jab prog fuel 59) fuel (((flat (blkB ((((flat (lpB (blkB ((((flat c3.body)).drop 4).headD .skip))))).drop 2).headD .skip)))).drop 3) jpz.E jpz.h)=true:=by kernel_rfl
end Am.Sigs
