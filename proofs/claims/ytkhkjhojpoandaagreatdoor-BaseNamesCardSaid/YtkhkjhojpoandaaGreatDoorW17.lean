/- Our own library, part 17. -/
import Derived.Test.YtkhkjhojpoandaaGreatDoorW16
set_option maxHeartbeats 8000000
set_option maxRecDepth 800
set_option linter.all false
namespace Am.Sigs
open Am Go
set_option maxRecDepth 100000 in
theorem uK9:after uS8 .normal (runL (jab prog fuel 59) fuel ((((flat c3.body)).drop 0).take 4) uS4.E uS4.h)=true:=by kernel_rfl
set_option maxRecDepth 100000 in
theorem uK13:after uS12 .normal (runL (jab prog fuel 59) fuel ((((flat (lpB (blkB ((((flat c3.body)).drop 4).headD .skip))))).drop 0).take 2) uS8.E uS8.h)=true:=by kernel_rfl
set_option maxRecDepth 100000 in
theorem uK24:after uS23 .normal (runL (jab prog fuel 59) fuel ((((flat (blkB ((((flat (lpB (blkB ((((flat c3.body)).drop 4).headD .skip))))).drop 2).headD .skip)))).drop 0).take 1) uS12.E uS12.h)=true:=by kernel_rfl
theorem uK27:jat uS26 (jaf (jab prog fuel 59) uS23.n (((rgO ((((flat (blkB ((((flat (lpB (blkB ((((flat c3.body)).drop 4).headD .skip))))).drop 2).headD .skip)))).drop 1).headD .skip))).take 2) uS23.E uS23.h)=true:=by kernel_rfl
set_option maxRecDepth 100000 in
theorem uK60:after uS59 .normal (runL (jab prog fuel 58) fuel ((((flat c4.body)).drop 0).take 16) uS28.E uS28.h)=true:=by kernel_rfl
set_option maxRecDepth 100000 in
theorem uK77:after uS76 .normal (runL (jab prog fuel 58) fuel (((flat (lpB (blkB ((((flat c4.body)).drop 16).headD .skip))))).drop 0) uS59.E uS59.h)=true:=by kernel_rfl
set_option maxRecDepth 100000 in
theorem uK92:after uS91 .normal (runL (jab prog fuel 58) fuel (((flat (lpB (blkB ((((flat c4.body)).drop 16).headD .skip))))).drop 0) uS76.E uS76.h)=true:=by kernel_rfl
set_option maxRecDepth 100000 in
theorem uK100:after uS99 .normal (runL (jab prog fuel 58) fuel (((flat (lpB (blkB ((((flat c4.body)).drop 16).headD .skip))))).drop 0) uS91.E uS91.h)=true:=by kernel_rfl
end Am.Sigs
