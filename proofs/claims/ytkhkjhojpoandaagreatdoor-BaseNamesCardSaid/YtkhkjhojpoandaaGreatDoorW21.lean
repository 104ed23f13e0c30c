/- Our own library, part 21. -/
import Derived.Test.YtkhkjhojpoandaaGreatDoorW16
set_option maxHeartbeats 8000000
set_option maxRecDepth 800
set_option linter.all false
namespace Am.Sigs
open Am Go
set_option maxRecDepth 100000 in
theorem uK395:after jib .normal (runL (jab prog fuel 59) fuel (((flat (lpB (blkB ((((flat c3.body)).drop 4).headD .skip))))).drop 3) jkg.E jkg.h)=true:=by kernel_rfl
set_option maxRecDepth 100000 in
theorem uK398:after jkf .normal (runL (jab prog fuel 59) fuel ((((flat (lpB (blkB ((((flat c3.body)).drop 4).headD .skip))))).drop 0).take 2) jib.E jib.h)=true:=by kernel_rfl
set_option maxRecDepth 100000 in
theorem uK405:after jmb .normal (runL (jab prog fuel 59) fuel ((((flat (blkB ((((flat (lpB (blkB ((((flat c3.body)).drop 4).headD .skip))))).drop 2).headD .skip)))).drop 0).take 1) jkf.E jkf.h)=true:=by kernel_rfl
theorem uK408:jat uS407 (jaf (jab prog fuel 59) jmb.n (((rgO ((((flat (blkB ((((flat (lpB (blkB ((((flat c3.body)).drop 4).headD .skip))))).drop 2).headD .skip)))).drop 1).headD .skip))).take 2) jmb.E jmb.h)=true:=by kernel_rfl
set_option maxRecDepth 100000 in
theorem uK432:after jia .normal (runL (jab prog fuel 58) fuel ((((flat c4.body)).drop 0).take 16) jnh.E jnh.h)=true:=by kernel_rfl
set_option maxRecDepth 100000 in
theorem uK445:after jhZ .normal (runL (jab prog fuel 58) fuel (((flat (lpB (blkB ((((flat c4.body)).drop 16).headD .skip))))).drop 0) jia.E jia.h)=true:=by kernel_rfl
set_option maxRecDepth 100000 in
theorem uK454:after jhY .normal (runL (jab prog fuel 58) fuel (((flat (lpB (blkB ((((flat c4.body)).drop 16).headD .skip))))).drop 0) jhZ.E jhZ.h)=true:=by kernel_rfl
set_option maxRecDepth 100000 in
theorem uK460:after jhX .normal (runL (jab prog fuel 58) fuel (((flat (lpB (blkB ((((flat c4.body)).drop 16).headD .skip))))).drop 0) jhY.E jhY.h)=true:=by kernel_rfl
set_option maxRecDepth 100000 in
theorem uK470:after jhW .normal (runL (jab prog fuel 58) fuel (((flat (lpB (blkB ((((flat c4.body)).drop 16).headD .skip))))).drop 0) jhX.E jhX.h)=true:=by kernel_rfl
set_option maxRecDepth 100000 in
theorem uK473:after jke (.exit 2) (runL (jab prog fuel 58) fuel (((flat (lpB (blkB ((((flat c4.body)).drop 16).headD .skip))))).drop 0) jhW.E jhW.h)=true:=by kernel_rfl
set_option maxRecDepth 100000 in
theorem uK477:after jpy .ret (runL (jab prog fuel 58) fuel (((flat c4.body)).drop 17) jke.E jke.h)=true:=by kernel_rfl
theorem uK483:jat uS481 (jaf (jab prog fuel 59) joA.n (((rgO ((((flat (blkB ((((flat (lpB (blkB ((((flat c3.body)).drop 4).headD .skip))))).drop 2).headD .skip)))).drop 1).headD .skip))).drop 3) joA.E joA.h)=true:=by kernel_rfl
theorem uK487:jat uS486 (jaf (jab prog fuel 59) jkd.n (((rgO ((((flat (blkB ((((flat (lpB (blkB ((((flat c3.body)).drop 4).headD .skip))))).drop 2).headD .skip)))).drop 2).headD .skip))).take 6) jkd.E jkd.h)=true:=by kernel_rfl
set_option maxRecDepth 100000 in
theorem uK510:after jhV .normal (runL (jab prog fuel 58) fuel ((((flat c4.body)).drop 0).take 16) jng.E jng.h)=true:=by kernel_rfl
set_option maxRecDepth 100000 in
theorem uK518:after jhU .normal (runL (jab prog fuel 58) fuel (((flat (lpB (blkB ((((flat c4.body)).drop 16).headD .skip))))).drop 0) jhV.E jhV.h)=true:=by kernel_rfl
end Am.Sigs
