/- Our own library, part 23. -/
import Derived.Test.YtkhkjhojpoandaaGreatDoorW16
set_option maxHeartbeats 8000000
set_option maxRecDepth 800
set_option linter.all false
namespace Am.Sigs
open Am Go
set_option maxRecDepth 100000 in
theorem uK627:after jhM .normal (runL (jab prog fuel 56) fuel (((flat (lpB (blkB ((((flat c24.body)).drop 2).headD .skip))))).drop 0) jhN.E jhN.h)=true:=by kernel_rfl
set_option maxRecDepth 100000 in
theorem uK630:after jjZ .ret (runL (jab prog fuel 56) fuel (((flat (lpB (blkB ((((flat c24.body)).drop 2).headD .skip))))).drop 0) jhM.E jhM.h)=true:=by kernel_rfl
theorem uK634:jat uS632 (jaf (jab prog fuel 57) jo8.n (((rgO ((((flat c8.body)).drop 2).headD .skip))).drop 4) jo8.E jo8.h)=true:=by kernel_rfl
set_option maxRecDepth 100000 in
theorem uK638:after jpw .ret (runL (jab prog fuel 57) fuel (((flat c8.body)).drop 3) jo7.E jo7.h)=true:=by kernel_rfl
theorem uK642:jat uS640 (jaf (jab prog fuel 58) jo6.n (((rgO ((((flat (blkB ((((flat (lpB (blkB ((((flat c4.body)).drop 16).headD .skip))))).drop 2).headD .skip)))).drop 1).headD .skip))).drop 9) jo6.E jo6.h)=true:=by kernel_rfl
set_option maxRecDepth 100000 in
theorem uK646:after jjY .normal (runL (jab prog fuel 58) fuel (((flat (blkB ((((flat (lpB (blkB ((((flat c4.body)).drop 16).headD .skip))))).drop 2).headD .skip)))).drop 2) jo5.E jo5.h)=true:=by kernel_rfl
set_option maxRecDepth 100000 in
theorem uK648:after jhL .normal (runL (jab prog fuel 58) fuel (((flat (lpB (blkB ((((flat c4.body)).drop 16).headD .skip))))).drop 3) jjY.E jjY.h)=true:=by kernel_rfl
set_option maxRecDepth 100000 in
theorem uK651:after jjX (.exit 2) (runL (jab prog fuel 58) fuel (((flat (lpB (blkB ((((flat c4.body)).drop 16).headD .skip))))).drop 0) jhL.E jhL.h)=true:=by kernel_rfl
set_option maxRecDepth 100000 in
theorem uK655:after jpv .ret (runL (jab prog fuel 58) fuel (((flat c4.body)).drop 17) jjX.E jjX.h)=true:=by kernel_rfl
theorem uK661:jat uS659 (jaf (jab prog fuel 59) jo4.n (((rgO ((((flat (blkB ((((flat (lpB (blkB ((((flat c3.body)).drop 4).headD .skip))))).drop 2).headD .skip)))).drop 3).headD .skip))).drop 7) jo4.E jo4.h)=true:=by kernel_rfl
set_option maxRecDepth 100000 in
theorem uK663:after jjW .normal (runL (jab prog fuel 59) fuel (((flat (blkB ((((flat (lpB (blkB ((((flat c3.body)).drop 4).headD .skip))))).drop 2).headD .skip)))).drop 4) jo3.E jo3.h)=true:=by kernel_rfl
set_option maxRecDepth 100000 in
theorem uK665:after jhK .normal (runL (jab prog fuel 59) fuel (((flat (lpB (blkB ((((flat c3.body)).drop 4).headD .skip))))).drop 3) jjW.E jjW.h)=true:=by kernel_rfl
set_option maxRecDepth 100000 in
theorem uK668:after jjV (.exit 0) (runL (jab prog fuel 59) fuel (((flat (lpB (blkB ((((flat c3.body)).drop 4).headD .skip))))).drop 0) jhK.E jhK.h)=true:=by kernel_rfl
set_option maxRecDepth 100000 in
theorem uK672:after jlY .normal (runL (jab prog fuel 59) fuel ((((flat c3.body)).drop 5).take 14) jjV.E jjV.h)=true:=by kernel_rfl
theorem uK675:jat uS674 (jaf (jab prog fuel 59) jlY.n (((rgO ((((flat c3.body)).drop 19).headD .skip))).take 1) jlY.E jlY.h)=true:=by kernel_rfl
set_option maxRecDepth 100000 in
theorem uK679:after jhJ .normal (runL (jab prog fuel 58) fuel ((((flat c10.body)).drop 0).take 2) jne.E jne.h)=true:=by kernel_rfl
set_option maxRecDepth 100000 in
theorem uK683:after jf8 .normal (runL (jab prog fuel 58) fuel ((((flat (lpB (blkB ((((flat c10.body)).drop 2).headD .skip))))).drop 0).take 2) jhJ.E jhJ.h)=true:=by kernel_rfl
theorem uK697:jat uS696 (jaf (jab prog fuel 58) jf8.n (((rgO ((((flat (blkB ((((flat (lpB (blkB ((((flat c10.body)).drop 2).headD .skip))))).drop 2).headD .skip)))).drop 0).headD .skip))).take 2) jf8.E jf8.h)=true:=by kernel_rfl
set_option maxRecDepth 100000 in
theorem uK731:after jhI .normal (runL (jab prog fuel 57) fuel ((((flat c4.body)).drop 0).take 16) jnd.E jnd.h)=true:=by kernel_rfl
set_option maxRecDepth 100000 in
theorem uK735:after jjU .normal (runL (jab prog fuel 57) fuel ((((flat (lpB (blkB ((((flat c4.body)).drop 16).headD .skip))))).drop 0).take 2) jhI.E jhI.h)=true:=by kernel_rfl
set_option maxRecDepth 100000 in
theorem uK739:after jlX .normal (runL (jab prog fuel 57) fuel ((((flat (blkB ((((flat (lpB (blkB ((((flat c4.body)).drop 16).headD .skip))))).drop 2).headD .skip)))).drop 0).take 1) jjU.E jjU.h)=true:=by kernel_rfl
theorem uK742:jat uS741 (jaf (jab prog fuel 57) jlX.n (((rgO ((((flat (blkB ((((flat (lpB (blkB ((((flat c4.body)).drop 16).headD .skip))))).drop 2).headD .skip)))).drop 1).headD .skip))).take 8) jlX.E jlX.h)=true:=by kernel_rfl
set_option maxRecDepth 100000 in
theorem uK746:after jlW .normal (runL (jab prog fuel 56) fuel ((((flat c8.body)).drop 0).take 2) jf7.E jf7.h)=true:=by kernel_rfl
theorem uK749:jat uS748 (jaf (jab prog fuel 56) jlW.n (((rgO ((((flat c8.body)).drop 2).headD .skip))).take 3) jlW.E jlW.h)=true:=by kernel_rfl
set_option maxRecDepth 100000 in
theorem uK752:after jea .normal (runL (jab prog fuel 55) fuel ((((flat c24.body)).drop 0).take 2) jf7.E jf7.h)=true:=by kernel_rfl
set_option maxRecDepth 100000 in
theorem uK761:after jlV .normal (runL (jab prog fuel 55) fuel ((((flat (blkB ((((flat (lpB (blkB ((((flat c24.body)).drop 2).headD .skip))))).drop 0).headD .skip)))).drop 0).take 2) jea.E jea.h)=true:=by kernel_rfl
theorem uK764:jat uS763 (jaf (jab prog fuel 55) jlV.n (((rgO ((((flat (blkB ((((flat (lpB (blkB ((((flat c24.body)).drop 2).headD .skip))))).drop 0).headD .skip)))).drop 2).headD .skip))).take 2) jlV.E jlV.h)=true:=by kernel_rfl
set_option maxRecDepth 100000 in
theorem uK771:after jpu .normal (runL (jab prog fuel 54) fuel ((((flat c59.body)).drop 0).take 3) jnc.E jnc.h)=true:=by kernel_rfl
set_option maxRecDepth 100000 in
theorem uK779:after jpt .normal (runL (jab prog fuel 54) fuel ((((flat c59.body)).drop 3).take 1) jpu.E jpu.h)=true:=by kernel_rfl
set_option maxRecDepth 100000 in
theorem uK793:after jps .ret (runL (jab prog fuel 54) fuel (((flat c59.body)).drop 4) jpt.E jpt.h)=true:=by kernel_rfl
theorem uK798:jat uS796 (jaf (jab prog fuel 55) jo2.n (((rgO ((((flat (blkB ((((flat (lpB (blkB ((((flat c24.body)).drop 2).headD .skip))))).drop 0).headD .skip)))).drop 2).headD .skip))).drop 3) jo2.E jo2.h)=true:=by kernel_rfl
set_option maxRecDepth 100000 in
theorem uK800:after jjT .normal (runL (jab prog fuel 55) fuel (((flat (blkB ((((flat (lpB (blkB ((((flat c24.body)).drop 2).headD .skip))))).drop 0).headD .skip)))).drop 3) jo1.E jo1.h)=true:=by kernel_rfl
set_option maxRecDepth 100000 in
theorem uK802:after jhH .normal (runL (jab prog fuel 55) fuel (((flat (lpB (blkB ((((flat c24.body)).drop 2).headD .skip))))).drop 1) jjT.E jjT.h)=true:=by kernel_rfl
set_option maxRecDepth 100000 in
theorem uK805:after jjS .ret (runL (jab prog fuel 55) fuel (((flat (lpB (blkB ((((flat c24.body)).drop 2).headD .skip))))).drop 0) jhH.E jhH.h)=true:=by kernel_rfl
theorem uK809:jat uS807 (jaf (jab prog fuel 56) jo0.n (((rgO ((((flat c8.body)).drop 2).headD .skip))).drop 4) jo0.E jo0.h)=true:=by kernel_rfl
set_option maxRecDepth 100000 in
theorem uK814:after jpr .ret (runL (jab prog fuel 56) fuel (((flat c8.body)).drop 3) joz.E joz.h)=true:=by kernel_rfl
theorem uK818:jat uS816 (jaf (jab prog fuel 57) joy.n (((rgO ((((flat (blkB ((((flat (lpB (blkB ((((flat c4.body)).drop 16).headD .skip))))).drop 2).headD .skip)))).drop 1).headD .skip))).drop 9) joy.E joy.h)=true:=by kernel_rfl
set_option maxRecDepth 100000 in
theorem uK823:after jjR .normal (runL (jab prog fuel 57) fuel (((flat (blkB ((((flat (lpB (blkB ((((flat c4.body)).drop 16).headD .skip))))).drop 2).headD .skip)))).drop 2) jox.E jox.h)=true:=by kernel_rfl
set_option maxRecDepth 100000 in
theorem uK825:after jhG .normal (runL (jab prog fuel 57) fuel (((flat (lpB (blkB ((((flat c4.body)).drop 16).headD .skip))))).drop 3) jjR.E jjR.h)=true:=by kernel_rfl
set_option maxRecDepth 100000 in
theorem uK833:after jhF .normal (runL (jab prog fuel 57) fuel (((flat (lpB (blkB ((((flat c4.body)).drop 16).headD .skip))))).drop 0) jhG.E jhG.h)=true:=by kernel_rfl
set_option maxRecDepth 100000 in
theorem uK836:after jjQ (.exit 2) (runL (jab prog fuel 57) fuel (((flat (lpB (blkB ((((flat c4.body)).drop 16).headD .skip))))).drop 0) jhF.E jhF.h)=true:=by kernel_rfl
set_option maxRecDepth 100000 in
theorem uK841:after jpq .ret (runL (jab prog fuel 57) fuel (((flat c4.body)).drop 17) jjQ.E jjQ.h)=true:=by kernel_rfl
theorem uK847:jat uS845 (jaf (jab prog fuel 58) jow.n (((rgO ((((flat (blkB ((((flat (lpB (blkB ((((flat c10.body)).drop 2).headD .skip))))).drop 2).headD .skip)))).drop 0).headD .skip))).drop 3) jow.E jow.h)=true:=by kernel_rfl
set_option maxRecDepth 100000 in
theorem uK849:after jjP .normal (runL (jab prog fuel 58) fuel (((flat (blkB ((((flat (lpB (blkB ((((flat c10.body)).drop 2).headD .skip))))).drop 2).headD .skip)))).drop 1) jov.E jov.h)=true:=by kernel_rfl
set_option maxRecDepth 100000 in
theorem uK851:after jhE .normal (runL (jab prog fuel 58) fuel (((flat (lpB (blkB ((((flat c10.body)).drop 2).headD .skip))))).drop 3) jjP.E jjP.h)=true:=by kernel_rfl
set_option maxRecDepth 100000 in
theorem uK854:after jhD .normal (runL (jab prog fuel 58) fuel (((flat (lpB (blkB ((((flat c10.body)).drop 2).headD .skip))))).drop 0) jhE.E jhE.h)=true:=by kernel_rfl
end Am.Sigs
