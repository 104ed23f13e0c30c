/- Our own library, part 24. -/
import Derived.Test.YtkhkjhojpoandaaGreatDoorW16
set_option maxHeartbeats 8000000
set_option maxRecDepth 800
set_option linter.all false
namespace Am.Sigs
open Am Go
set_option maxRecDepth 100000 in
theorem uK857:after jhC .normal (runL (jab prog fuel 58) fuel (((flat (lpB (blkB ((((flat c10.body)).drop 2).headD .skip))))).drop 0) jhD.E jhD.h)=true:=by kernel_rfl
set_option maxRecDepth 100000 in
theorem uK860:after jf6 .normal (runL (jab prog fuel 58) fuel ((((flat (lpB (blkB ((((flat c10.body)).drop 2).headD .skip))))).drop 0).take 2) jhC.E jhC.h)=true:=by kernel_rfl
theorem uK870:jat uS869 (jaf (jab prog fuel 58) jf6.n (((rgO ((((flat (blkB ((((flat (lpB (blkB ((((flat c10.body)).drop 2).headD .skip))))).drop 2).headD .skip)))).drop 0).headD .skip))).take 2) jf6.E jf6.h)=true:=by kernel_rfl
set_option maxRecDepth 100000 in
theorem uK903:after jhB .normal (runL (jab prog fuel 57) fuel ((((flat c4.body)).drop 0).take 16) jnb.E jnb.h)=true:=by kernel_rfl
set_option maxRecDepth 100000 in
theorem uK907:after jjO .normal (runL (jab prog fuel 57) fuel ((((flat (lpB (blkB ((((flat c4.body)).drop 16).headD .skip))))).drop 0).take 2) jhB.E jhB.h)=true:=by kernel_rfl
set_option maxRecDepth 100000 in
theorem uK911:after jlU .normal (runL (jab prog fuel 57) fuel ((((flat (blkB ((((flat (lpB (blkB ((((flat c4.body)).drop 16).headD .skip))))).drop 2).headD .skip)))).drop 0).take 1) jjO.E jjO.h)=true:=by kernel_rfl
theorem uK914:jat uS913 (jaf (jab prog fuel 57) jlU.n (((rgO ((((flat (blkB ((((flat (lpB (blkB ((((flat c4.body)).drop 16).headD .skip))))).drop 2).headD .skip)))).drop 1).headD .skip))).take 8) jlU.E jlU.h)=true:=by kernel_rfl
set_option maxRecDepth 100000 in
theorem uK918:after jlT .normal (runL (jab prog fuel 56) fuel ((((flat c8.body)).drop 0).take 2) jf5.E jf5.h)=true:=by kernel_rfl
theorem uK921:jat uS920 (jaf (jab prog fuel 56) jlT.n (((rgO ((((flat c8.body)).drop 2).headD .skip))).take 3) jlT.E jlT.h)=true:=by kernel_rfl
set_option maxRecDepth 100000 in
theorem uK924:after jdZ .normal (runL (jab prog fuel 55) fuel ((((flat c24.body)).drop 0).take 2) jf5.E jf5.h)=true:=by kernel_rfl
set_option maxRecDepth 100000 in
theorem uK932:after jlS .normal (runL (jab prog fuel 55) fuel ((((flat (blkB ((((flat (lpB (blkB ((((flat c24.body)).drop 2).headD .skip))))).drop 0).headD .skip)))).drop 0).take 2) jdZ.E jdZ.h)=true:=by kernel_rfl
theorem uK935:jat uS934 (jaf (jab prog fuel 55) jlS.n (((rgO ((((flat (blkB ((((flat (lpB (blkB ((((flat c24.body)).drop 2).headD .skip))))).drop 0).headD .skip)))).drop 2).headD .skip))).take 2) jlS.E jlS.h)=true:=by kernel_rfl
set_option maxRecDepth 100000 in
theorem uK941:after jpp .normal (runL (jab prog fuel 54) fuel ((((flat c59.body)).drop 0).take 3) jna.E jna.h)=true:=by kernel_rfl
set_option maxRecDepth 100000 in
theorem uK951:after jpo .normal (runL (jab prog fuel 54) fuel ((((flat c59.body)).drop 3).take 1) jpp.E jpp.h)=true:=by kernel_rfl
set_option maxRecDepth 100000 in
theorem uK962:after jpn .ret (runL (jab prog fuel 54) fuel (((flat c59.body)).drop 4) jpo.E jpo.h)=true:=by kernel_rfl
theorem uK967:jat uS965 (jaf (jab prog fuel 55) jou.n (((rgO ((((flat (blkB ((((flat (lpB (blkB ((((flat c24.body)).drop 2).headD .skip))))).drop 0).headD .skip)))).drop 2).headD .skip))).drop 3) jou.E jou.h)=true:=by kernel_rfl
set_option maxRecDepth 100000 in
theorem uK969:after jjN .normal (runL (jab prog fuel 55) fuel (((flat (blkB ((((flat (lpB (blkB ((((flat c24.body)).drop 2).headD .skip))))).drop 0).headD .skip)))).drop 3) jot.E jot.h)=true:=by kernel_rfl
set_option maxRecDepth 100000 in
theorem uK971:after jhA .normal (runL (jab prog fuel 55) fuel (((flat (lpB (blkB ((((flat c24.body)).drop 2).headD .skip))))).drop 1) jjN.E jjN.h)=true:=by kernel_rfl
set_option maxRecDepth 100000 in
theorem uK974:after jjM .ret (runL (jab prog fuel 55) fuel (((flat (lpB (blkB ((((flat c24.body)).drop 2).headD .skip))))).drop 0) jhA.E jhA.h)=true:=by kernel_rfl
theorem uK978:jat uS976 (jaf (jab prog fuel 56) jos.n (((rgO ((((flat c8.body)).drop 2).headD .skip))).drop 4) jos.E jos.h)=true:=by kernel_rfl
set_option maxRecDepth 100000 in
theorem uK983:after jpm .ret (runL (jab prog fuel 56) fuel (((flat c8.body)).drop 3) jor.E jor.h)=true:=by kernel_rfl
theorem uK987:jat uS985 (jaf (jab prog fuel 57) joq.n (((rgO ((((flat (blkB ((((flat (lpB (blkB ((((flat c4.body)).drop 16).headD .skip))))).drop 2).headD .skip)))).drop 1).headD .skip))).drop 9) joq.E joq.h)=true:=by kernel_rfl
set_option maxRecDepth 100000 in
theorem uK991:after jjL .normal (runL (jab prog fuel 57) fuel (((flat (blkB ((((flat (lpB (blkB ((((flat c4.body)).drop 16).headD .skip))))).drop 2).headD .skip)))).drop 2) jop.E jop.h)=true:=by kernel_rfl
set_option maxRecDepth 100000 in
theorem uK993:after jh9 .normal (runL (jab prog fuel 57) fuel (((flat (lpB (blkB ((((flat c4.body)).drop 16).headD .skip))))).drop 3) jjL.E jjL.h)=true:=by kernel_rfl
set_option maxRecDepth 100000 in
theorem uK1000:after jh8 .normal (runL (jab prog fuel 57) fuel (((flat (lpB (blkB ((((flat c4.body)).drop 16).headD .skip))))).drop 0) jh9.E jh9.h)=true:=by kernel_rfl
set_option maxRecDepth 100000 in
theorem uK1003:after jeB (.exit 2) (runL (jab prog fuel 57) fuel (((flat (lpB (blkB ((((flat c4.body)).drop 16).headD .skip))))).drop 0) jh8.E jh8.h)=true:=by kernel_rfl
set_option maxRecDepth 100000 in
theorem uK1008:after jnl .ret (runL (jab prog fuel 57) fuel (((flat c4.body)).drop 17) jeB.E jeB.h)=true:=by kernel_rfl
theorem uK1014:jat uS1012 (jaf (jab prog fuel 58) jll.n (((rgO ((((flat (blkB ((((flat (lpB (blkB ((((flat c10.body)).drop 2).headD .skip))))).drop 2).headD .skip)))).drop 0).headD .skip))).drop 3) jll.E jll.h)=true:=by kernel_rfl
set_option maxRecDepth 100000 in
theorem uK1016:after jeA .normal (runL (jab prog fuel 58) fuel (((flat (blkB ((((flat (lpB (blkB ((((flat c10.body)).drop 2).headD .skip))))).drop 2).headD .skip)))).drop 1) jlk.E jlk.h)=true:=by kernel_rfl
set_option maxRecDepth 100000 in
theorem uK1018:after jdN .normal (runL (jab prog fuel 58) fuel (((flat (lpB (blkB ((((flat c10.body)).drop 2).headD .skip))))).drop 3) jeA.E jeA.h)=true:=by kernel_rfl
set_option maxRecDepth 100000 in
theorem uK1021:after je9 (.exit 0) (runL (jab prog fuel 58) fuel (((flat (lpB (blkB ((((flat c10.body)).drop 2).headD .skip))))).drop 0) jdN.E jdN.h)=true:=by kernel_rfl
set_option maxRecDepth 100000 in
theorem uK1023:after jnk .ret (runL (jab prog fuel 58) fuel (((flat c10.body)).drop 3) je9.E je9.h)=true:=by kernel_rfl
theorem uK1028:jat uS1026 (jaf (jab prog fuel 59) jlj.n (((rgO ((((flat c3.body)).drop 19).headD .skip))).drop 2) jlj.E jlj.h)=true:=by kernel_rfl
set_option maxRecDepth 100000 in
theorem uK1029:after jdM .ret (runL (jab prog fuel 59) fuel (((flat c3.body)).drop 20) jdM.E jdM.h)=true:=by kernel_rfl
end Am.Sigs
