/- Our own library, part 19. -/
import Derived.Test.YtkhkjhojpoandaaGreatDoorW16
set_option maxHeartbeats 8000000
set_option maxRecDepth 800
set_option linter.all false
namespace Am.Sigs
open Am Go
set_option maxRecDepth 100000 in
theorem uK267:after jii .normal (runL (jab prog fuel 56) fuel (((flat (lpB (blkB ((((flat c24.body)).drop 2).headD .skip))))).drop 0) jij.E jij.h)=true:=by kernel_rfl
set_option maxRecDepth 100000 in
theorem uK279:after jih .normal (runL (jab prog fuel 56) fuel (((flat (lpB (blkB ((((flat c24.body)).drop 2).headD .skip))))).drop 0) jii.E jii.h)=true:=by kernel_rfl
set_option maxRecDepth 100000 in
theorem uK291:after jig .normal (runL (jab prog fuel 56) fuel (((flat (lpB (blkB ((((flat c24.body)).drop 2).headD .skip))))).drop 0) jih.E jih.h)=true:=by kernel_rfl
set_option maxRecDepth 100000 in
theorem uK303:after jif .normal (runL (jab prog fuel 56) fuel (((flat (lpB (blkB ((((flat c24.body)).drop 2).headD .skip))))).drop 0) jig.E jig.h)=true:=by kernel_rfl
end Am.Sigs
