/- Our own library, part 18. -/
import Derived.Test.YtkhkjhojpoandaaGreatDoorW16
set_option maxHeartbeats 8000000
set_option maxRecDepth 800
set_option linter.all false
namespace Am.Sigs
open Am Go
set_option maxRecDepth 100000 in
theorem uK115:after jip .normal (runL (jab prog fuel 58) fuel (((flat (lpB (blkB ((((flat c4.body)).drop 16).headD .skip))))).drop 0) uS99.E uS99.h)=true:=by kernel_rfl
set_option maxRecDepth 100000 in
theorem uK118:after jks (.exit 2) (runL (jab prog fuel 58) fuel (((flat (lpB (blkB ((((flat c4.body)).drop 16).headD .skip))))).drop 0) jip.E jip.h)=true:=by kernel_rfl
set_option maxRecDepth 100000 in
theorem uK122:after jp4 .ret (runL (jab prog fuel 58) fuel (((flat c4.body)).drop 17) jks.E jks.h)=true:=by kernel_rfl
theorem uK128:jat uS126 (jaf (jab prog fuel 59) joI.n (((rgO ((((flat (blkB ((((flat (lpB (blkB ((((flat c3.body)).drop 4).headD .skip))))).drop 2).headD .skip)))).drop 1).headD .skip))).drop 3) joI.E joI.h)=true:=by kernel_rfl
theorem uK134:jat uS133 (jaf (jab prog fuel 59) jkr.n (((rgO ((((flat (blkB ((((flat (lpB (blkB ((((flat c3.body)).drop 4).headD .skip))))).drop 2).headD .skip)))).drop 2).headD .skip))).take 6) jkr.E jkr.h)=true:=by kernel_rfl
set_option maxRecDepth 100000 in
theorem uK161:after jio .normal (runL (jab prog fuel 58) fuel ((((flat c4.body)).drop 0).take 16) jnj.E jnj.h)=true:=by kernel_rfl
set_option maxRecDepth 100000 in
theorem uK170:after jin .normal (runL (jab prog fuel 58) fuel (((flat (lpB (blkB ((((flat c4.body)).drop 16).headD .skip))))).drop 0) jio.E jio.h)=true:=by kernel_rfl
set_option maxRecDepth 100000 in
theorem uK178:after jim .normal (runL (jab prog fuel 58) fuel (((flat (lpB (blkB ((((flat c4.body)).drop 16).headD .skip))))).drop 0) jin.E jin.h)=true:=by kernel_rfl
set_option maxRecDepth 100000 in
theorem uK181:after jkq (.exit 2) (runL (jab prog fuel 58) fuel (((flat (lpB (blkB ((((flat c4.body)).drop 16).headD .skip))))).drop 0) jim.E jim.h)=true:=by kernel_rfl
set_option maxRecDepth 100000 in
theorem uK185:after jp3 .ret (runL (jab prog fuel 58) fuel (((flat c4.body)).drop 17) jkq.E jkq.h)=true:=by kernel_rfl
theorem uK191:jat uS189 (jaf (jab prog fuel 59) joH.n (((rgO ((((flat (blkB ((((flat (lpB (blkB ((((flat c3.body)).drop 4).headD .skip))))).drop 2).headD .skip)))).drop 2).headD .skip))).drop 7) joH.E joH.h)=true:=by kernel_rfl
theorem uK197:jat uS196 (jaf (jab prog fuel 59) jkp.n (((rgO ((((flat (blkB ((((flat (lpB (blkB ((((flat c3.body)).drop 4).headD .skip))))).drop 2).headD .skip)))).drop 3).headD .skip))).take 6) jkp.E jkp.h)=true:=by kernel_rfl
set_option maxRecDepth 100000 in
theorem uK222:after jil .normal (runL (jab prog fuel 58) fuel ((((flat c4.body)).drop 0).take 16) jni.E jni.h)=true:=by kernel_rfl
set_option maxRecDepth 100000 in
theorem uK226:after jko .normal (runL (jab prog fuel 58) fuel ((((flat (lpB (blkB ((((flat c4.body)).drop 16).headD .skip))))).drop 0).take 2) jil.E jil.h)=true:=by kernel_rfl
set_option maxRecDepth 100000 in
theorem uK230:after jmd .normal (runL (jab prog fuel 58) fuel ((((flat (blkB ((((flat (lpB (blkB ((((flat c4.body)).drop 16).headD .skip))))).drop 2).headD .skip)))).drop 0).take 1) jko.E jko.h)=true:=by kernel_rfl
theorem uK233:jat uS232 (jaf (jab prog fuel 58) jmd.n (((rgO ((((flat (blkB ((((flat (lpB (blkB ((((flat c4.body)).drop 16).headD .skip))))).drop 2).headD .skip)))).drop 1).headD .skip))).take 8) jmd.E jmd.h)=true:=by kernel_rfl
set_option maxRecDepth 100000 in
theorem uK237:after jmc .normal (runL (jab prog fuel 57) fuel ((((flat c8.body)).drop 0).take 2) jfA.E jfA.h)=true:=by kernel_rfl
theorem uK240:jat uS239 (jaf (jab prog fuel 57) jmc.n (((rgO ((((flat c8.body)).drop 2).headD .skip))).take 3) jmc.E jmc.h)=true:=by kernel_rfl
set_option maxRecDepth 100000 in
theorem uK243:after jik .normal (runL (jab prog fuel 56) fuel ((((flat c24.body)).drop 0).take 2) jfA.E jfA.h)=true:=by kernel_rfl
set_option maxRecDepth 100000 in
theorem uK256:after jij .normal (runL (jab prog fuel 56) fuel (((flat (lpB (blkB ((((flat c24.body)).drop 2).headD .skip))))).drop 0) jik.E jik.h)=true:=by kernel_rfl
end Am.Sigs
