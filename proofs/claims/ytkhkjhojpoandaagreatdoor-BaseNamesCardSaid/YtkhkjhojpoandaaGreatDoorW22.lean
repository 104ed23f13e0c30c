/- Our own library, part 22. -/
import Derived.Test.YtkhkjhojpoandaaGreatDoorW16
set_option maxHeartbeats 8000000
set_option maxRecDepth 800
set_option linter.all false
namespace Am.Sigs
open Am Go
set_option maxRecDepth 100000 in
theorem uK524:after jhT .normal (runL (jab prog fuel 58) fuel (((flat (lpB (blkB ((((flat c4.body)).drop 16).headD .skip))))).drop 0) jhU.E jhU.h)=true:=by kernel_rfl
set_option maxRecDepth 100000 in
theorem uK527:after jkc (.exit 2) (runL (jab prog fuel 58) fuel (((flat (lpB (blkB ((((flat c4.body)).drop 16).headD .skip))))).drop 0) jhT.E jhT.h)=true:=by kernel_rfl
set_option maxRecDepth 100000 in
theorem uK531:after jpx .ret (runL (jab prog fuel 58) fuel (((flat c4.body)).drop 17) jkc.E jkc.h)=true:=by kernel_rfl
theorem uK537:jat uS535 (jaf (jab prog fuel 59) jo9.n (((rgO ((((flat (blkB ((((flat (lpB (blkB ((((flat c3.body)).drop 4).headD .skip))))).drop 2).headD .skip)))).drop 2).headD .skip))).drop 7) jo9.E jo9.h)=true:=by kernel_rfl
theorem uK541:jat uS540 (jaf (jab prog fuel 59) jkb.n (((rgO ((((flat (blkB ((((flat (lpB (blkB ((((flat c3.body)).drop 4).headD .skip))))).drop 2).headD .skip)))).drop 3).headD .skip))).take 6) jkb.E jkb.h)=true:=by kernel_rfl
set_option maxRecDepth 100000 in
theorem uK564:after jhS .normal (runL (jab prog fuel 58) fuel ((((flat c4.body)).drop 0).take 16) jnf.E jnf.h)=true:=by kernel_rfl
set_option maxRecDepth 100000 in
theorem uK568:after jka .normal (runL (jab prog fuel 58) fuel ((((flat (lpB (blkB ((((flat c4.body)).drop 16).headD .skip))))).drop 0).take 2) jhS.E jhS.h)=true:=by kernel_rfl
set_option maxRecDepth 100000 in
theorem uK572:after jma .normal (runL (jab prog fuel 58) fuel ((((flat (blkB ((((flat (lpB (blkB ((((flat c4.body)).drop 16).headD .skip))))).drop 2).headD .skip)))).drop 0).take 1) jka.E jka.h)=true:=by kernel_rfl
theorem uK575:jat uS574 (jaf (jab prog fuel 58) jma.n (((rgO ((((flat (blkB ((((flat (lpB (blkB ((((flat c4.body)).drop 16).headD .skip))))).drop 2).headD .skip)))).drop 1).headD .skip))).take 8) jma.E jma.h)=true:=by kernel_rfl
set_option maxRecDepth 100000 in
theorem uK579:after jlZ .normal (runL (jab prog fuel 57) fuel ((((flat c8.body)).drop 0).take 2) jf9.E jf9.h)=true:=by kernel_rfl
theorem uK582:jat uS581 (jaf (jab prog fuel 57) jlZ.n (((rgO ((((flat c8.body)).drop 2).headD .skip))).take 3) jlZ.E jlZ.h)=true:=by kernel_rfl
set_option maxRecDepth 100000 in
theorem uK585:after jhR .normal (runL (jab prog fuel 56) fuel ((((flat c24.body)).drop 0).take 2) jf9.E jf9.h)=true:=by kernel_rfl
set_option maxRecDepth 100000 in
theorem uK595:after jhQ .normal (runL (jab prog fuel 56) fuel (((flat (lpB (blkB ((((flat c24.body)).drop 2).headD .skip))))).drop 0) jhR.E jhR.h)=true:=by kernel_rfl
set_option maxRecDepth 100000 in
theorem uK603:after jhP .normal (runL (jab prog fuel 56) fuel (((flat (lpB (blkB ((((flat c24.body)).drop 2).headD .skip))))).drop 0) jhQ.E jhQ.h)=true:=by kernel_rfl
set_option maxRecDepth 100000 in
theorem uK611:after jhO .normal (runL (jab prog fuel 56) fuel (((flat (lpB (blkB ((((flat c24.body)).drop 2).headD .skip))))).drop 0) jhP.E jhP.h)=true:=by kernel_rfl
set_option maxRecDepth 100000 in
theorem uK619:after jhN .normal (runL (jab prog fuel 56) fuel (((flat (lpB (blkB ((((flat c24.body)).drop 2).headD .skip))))).drop 0) jhO.E jhO.h)=true:=by kernel_rfl
end Am.Sigs
