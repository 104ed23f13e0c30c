/- Code of functions, as the abstract machine takes it: printed by a program. -/
import Derived.Test.YtloklombgjlofaaGreatDoorSigsCodeA
set_option maxRecDepth 100000
namespace Am.Sigs
open Am Go
def c159_0 : AC :=
  .rangeFunc (.t 6) [7] [3] (.region 0 [.mk4 0 (some 4) (.alloc 3 [.i 0, .i 0, .i 0]) none,
    .mk4 1 none (.store 3 (.t 4) (.t 7)) none] [3, 4]) (.block 1 (.region 0 [.mk4 0 (some 8) (.load1 (.t 3)) none,
    .mk4 1 (some 9) (.loadN 3 (.t 4)) none,
    .mk4 2 (some 10) (.bslice 3 1 [.i 0, .i 0, .i 0] [(0, (.t 9))]) none,
    .mk4 3 (some 11) (.append 3 24 (.t 8) (.t 10)) none,
    .mk4 4 none (.store 1 (.t 3) (.t 11)) none] []))
def c159_1 : AC :=
  .seq (.region 0 [.mk4 0 (some 3) (.alloc 1 [.nils]) none] [0, 3]) (.seq (.seq (.region 0 [.mk4 0 (some 5) (.mv (.t 0)) none,
    .mk4 1 (some 6) (.call 160 [(.t 5)]) none] [3, 6]) (.block 0 (c159_0))) (.seq (.region 0 [.mk4 0 (some 12) (.load1 (.t 3)) none,
    .mk4 1 (some 2) (.mv (.t 12)) none] [2]) (.ret)))
def c159 : AFn := ⟨1, 13, [.tmp 2],
  (.seq (.region 0 [.mk4 0 (some 2) (.mv (.c (.nils))) none] [0]) (c159_1))⟩
def c160 : AFn := ⟨1, 4, [.tmp 2],
  (.seq (.region 0 [.mk4 0 (some 1) (.box 1 (.t 0)) none,
    .mk4 1 (some 2) (.mv (.c (.nilfn))) none] [1]) (.seq (.region 0 [.mk4 0 (some 3) (.mkClo 161 [(.t 1)]) none,
    .mk4 1 (some 2) (.mv (.t 3)) none] [2]) (.ret)))⟩
def c161_0 : AC :=
  .seq (.region 0 [.mk4 0 (some 23) (.mv (.t 0)) none,
    .mk4 1 (some 24) (.mv (.t 3)) none,
    .mk4 2 (some 25) (.load1 (.t 1)) none,
    .mk4 3 (some 26) (.mv (.t 3)) none,
    .mk4 4 (some 27) (.nilck (.t 25)) none,
    .mk4 5 (some 28) (.faddr 0 (.t 27)) none,
    .mk4 6 (some 29) (.ixaA 96 1 (.t 28) (.t 26)) none,
    .mk4 7 (some 30) (.load1 (.t 29)) none,
    .mk4 8 (some 31) (.mv (.t 4)) none,
    .mk4 9 (some 32) (.build [.i 0, .i 0, .i 0] [(0, 1, (.t 24)), (1, 1, (.t 30)), (2, 1, (.t 31))]) none,
    .mk4 10 (some 33) (.callv (.t 23) [(.t 32)]) none,
    .mk4 11 (some 34) (.un .not (.t 33)) none] [0, 1, 10, 11, 34]) (.cond (.t 34) (.ret) (.skip))
def c161_1 : AC :=
  .seq (.seq (.region 0 [.mk4 0 (some 15) (.load1 (.t 1)) none,
    .mk4 1 (some 16) (.mv (.t 3)) none,
    .mk4 2 (some 17) (.nilck (.t 15)) none,
    .mk4 3 (some 18) (.faddr 0 (.t 17)) none,
    .mk4 4 (some 19) (.ixaA 96 1 (.t 18) (.t 16)) none,
    .mk4 5 (some 20) (.load1 (.t 19)) none,
    .mk4 6 (some 21) (.mv (.t 4)) none,
    .mk4 7 (some 22) (.bin .eql (.t 20) (.t 21)) none] [0, 1, 3, 4, 10, 11, 22]) (.cond (.t 22) (.exit 1) (.skip))) (c161_0)
def c161_2 : AC :=
  .seq (.block 1 (.seq (.region 0 [.mk4 0 (some 13) (.mv (.t 11)) none,
    .mk4 1 (some 14) (.ixA 96 1 none (.t 10) (.t 11)) none,
    .mk4 2 (some 3) (.mv (.t 13)) none,
    .mk4 3 (some 4) (.mv (.t 14)) none] [0, 1, 3, 4, 10, 11]) (c161_1))) (.region 0 [.mk4 0 (some 35) (.bin .add (.t 11) (.c (.i 1))) none,
    .mk4 1 (some 11) (.mv (.t 35)) none] [0, 1, 10, 11])
def c161_3 : AC :=
  .seq (.region 0 [.mk4 0 (some 7) (.load1 (.t 1)) none,
    .mk4 1 (some 8) (.nilck (.t 7)) none,
    .mk4 2 (some 9) (.faddr 96 (.t 8)) none,
    .mk4 3 (some 10) (.loadN 96 (.t 9)) none,
    .mk4 4 (some 11) (.mv (.c (.i 0))) none] [0, 1, 10, 11]) (.block 0 (.loop [0, 1, 10, 11] (.seq (.region 0 [.mk4 0 (some 12) (.bin .lss (.t 11) (.c (.i 96))) none] [0, 1, 10, 11, 12]) (.seq (.cond (.t 12) (.skip) (.exit 0)) (c161_2)))))
def c161 : AFn := ⟨2, 36, [],
  (.scope (.seq (.seq (.region 0 [.mk4 0 (some 5) (.load1 (.t 1)) none,
    .mk4 1 (some 6) (.call 157 [(.t 5)]) none] [0, 1, 6]) (.cond (.t 6) (.ret) (.skip))) (.seq (.label 0) (c161_3))))⟩
def c164_0 : AC :=
  .seq (.seq (.region 0 [.mk4 0 (some 5) (.mv (.t 0)) none,
    .mk4 1 (some 6) (.call 170 [(.t 5)]) none] [2, 6]) (.block 0 (.rangeFunc (.t 6) [7] [2] (.skip) (.block 1 (.seq (.region 0 [.mk4 0 none (.store 1 (.t 2) (.c (.bool true))) none] []) (.ret)))))) (.seq (.region 0 [.mk4 0 none (.store 1 (.t 2) (.c (.bool false))) none] [2]) (.ret))
def c164_1 : AC :=
  .seq (.region 0 [.mk4 0 (some 2) (.alloc 1 [.bool false]) none] [0, 2]) (.seq (.seq (.region 0 [.mk4 0 (some 3) (.mv (.t 0)) none,
    .mk4 1 (some 4) (.call 169 [(.t 3)]) none] [0, 2, 4]) (.cond (.t 4) (.seq (.region 0 [.mk4 0 none (.store 1 (.t 2) (.c (.bool false))) none] [2]) (.ret)) (.skip))) (c164_0))
def c164 : AFn := ⟨1, 8, [.cell1 2],
  (c164_1)⟩
def c165_0 : AC :=
  .seq (.region 0 [.mk4 0 (some 2) (.mv (.c (.bool false))) none] [0]) (.seq (.region 0 [.mk4 0 (some 3) (.mv (.t 0)) none,
    .mk4 1 (some 4) (.nilck (.t 3)) none,
    .mk4 2 (some 5) (.faddr 0 (.t 4)) none,
    .mk4 3 (some 6) (.load1 (.t 5)) none,
    .mk4 4 (some 7) (.call 164 [(.t 6)]) none,
    .mk4 5 (some 2) (.mv (.t 7)) none] [2]) (.ret))
def c165 : AFn := ⟨1, 8, [.tmp 2],
  (c165_0)⟩
def c166_0 : AC :=
  .cond (.t 10) (.region 0 [.mk4 0 (some 11) (.mv (.t 0)) none,
    .mk4 1 (some 12) (.mv (.t 1)) none,
    .mk4 2 (some 6) (.mv (.c (.i 1))) none,
    .mk4 3 (some 13) (.nilck (.t 11)) none,
    .mk4 4 (some 14) (.faddr 1 (.t 13)) none,
    .mk4 5 none (.store 1 (.t 14) (.t 12)) none] [0, 1, 6]) (.skip)
def c166_1 : AC :=
  .region 0 [.mk4 0 (some 15) (.mv (.t 0)) none,
    .mk4 1 (some 16) (.nilck (.t 15)) none,
    .mk4 2 (some 17) (.faddr 0 (.t 16)) none,
    .mk4 3 (some 18) (.load1 (.t 17)) none,
    .mk4 4 (some 19) (.mv (.t 6)) none,
    .mk4 5 (some 20) (.mv (.t 1)) none,
    .mk4 6 (some 21) (.call 171 [(.t 18), (.t 19), (.t 20), (.c (.i 1))]) none] []
def c166_2 : AC :=
  .seq (.region 0 [.mk4 0 (some 7) (.mv (.t 0)) none,
    .mk4 1 (some 8) (.nilck (.t 7)) none,
    .mk4 2 (some 9) (.faddr 1 (.t 8)) none,
    .mk4 3 none (.store 1 (.t 9) (.c (.i (-1)))) none] [0, 1, 2, 6]) (.seq (.seq (.region 0 [.mk4 0 (some 10) (.mv (.t 2)) none] [0, 1, 6, 10]) (c166_0)) (c166_1))
def c166 : AFn := ⟨3, 22, [],
  (.seq (.region 0 [.mk4 0 (some 6) (.mv (.c (.i 3))) none] [0, 1, 2, 6]) (c166_2))⟩
def c167_0 : AC :=
  .cond (.t 52) (.region 0 [.mk4 0 (some 53) (.faddr 1 (.t 12)) none,
    .mk4 1 (some 54) (.load1 (.t 53)) none,
    .mk4 2 (some 55) (.bin .or (.t 54) (.c (.i 4))) none,
    .mk4 3 (some 56) (.faddr 1 (.t 12)) none,
    .mk4 4 none (.store 1 (.t 56) (.t 55)) none] [0, 9, 11, 12, 24, 25, 26]) (.skip)
def c167_1 : AC :=
  .seq (.seq (.region 0 [.mk4 0 (some 57) (.faddr 0 (.t 11)) none,
    .mk4 1 (some 58) (.load1 (.t 57)) none,
    .mk4 2 (some 59) (.mv (.t 0)) none,
    .mk4 3 (some 60) (.nilck (.t 59)) none,
    .mk4 4 (some 61) (.faddr 1 (.t 60)) none,
    .mk4 5 (some 62) (.load1 (.t 61)) none,
    .mk4 6 (some 63) (.bin .eql (.t 58) (.t 62)) none] [0, 9, 12, 24, 25, 26, 63]) (.cond (.t 63) (.region 0 [.mk4 0 (some 64) (.faddr 0 (.t 12)) none,
    .mk4 1 none (.store 1 (.t 64) (.c (.i (-1)))) none] [0, 9, 12, 24, 25, 26]) (.skip))) (.region 0 [.mk4 0 (some 65) (.mv (.t 9)) none,
    .mk4 1 (some 66) (.loadN 2 (.t 12)) none,
    .mk4 2 (some 67) (.bslice 2 1 [.i 0, .i 0] [(0, (.t 66))]) none,
    .mk4 3 (some 68) (.append 2 16 (.t 65) (.t 67)) none,
    .mk4 4 (some 9) (.mv (.t 68)) none] [0, 9, 24, 25, 26])
def c167_2 : AC :=
  .cond (.t 42) (.region 0 [.mk4 0 (some 43) (.faddr 1 (.t 12)) none,
    .mk4 1 (some 44) (.load1 (.t 43)) none,
    .mk4 2 (some 45) (.bin .or (.t 44) (.c (.i 2))) none,
    .mk4 3 (some 46) (.faddr 1 (.t 12)) none,
    .mk4 4 none (.store 1 (.t 46) (.t 45)) none] [0, 9, 11, 12, 13, 24, 25, 26]) (.skip)
def c167_3 : AC :=
  .seq (.seq (.region 0 [.mk4 0 (some 47) (.faddr 1 (.t 11)) none,
    .mk4 1 (some 48) (.load1 (.t 47)) none,
    .mk4 2 (some 49) (.mv (.t 13)) none,
    .mk4 3 (some 50) (.bin .or (.c (.i 4)) (.t 49)) none,
    .mk4 4 (some 51) (.bin .and (.t 48) (.t 50)) none,
    .mk4 5 (some 52) (.bin .neq (.t 51) (.c (.i 0))) none] [0, 9, 11, 12, 24, 25, 26, 52]) (c167_0)) (c167_1)
def c167_4 : AC :=
  .seq (.seq (.region 0 [.mk4 0 (some 37) (.faddr 1 (.t 11)) none,
    .mk4 1 (some 38) (.load1 (.t 37)) none,
    .mk4 2 (some 39) (.mv (.t 13)) none,
    .mk4 3 (some 40) (.bin .or (.c (.i 1)) (.t 39)) none,
    .mk4 4 (some 41) (.bin .and (.t 38) (.t 40)) none,
    .mk4 5 (some 42) (.bin .neq (.t 41) (.c (.i 0))) none] [0, 9, 11, 12, 13, 24, 25, 26, 42]) (c167_2)) (c167_3)
def c167_5 : AC :=
  .seq (.seq (.region 0 [.mk4 0 (some 33) (.mv (.t 0)) none,
    .mk4 1 (some 34) (.faddr 0 (.t 11)) none,
    .mk4 2 (some 35) (.load1 (.t 34)) none,
    .mk4 3 (some 36) (.call 173 [(.t 33), (.t 35)]) none] [0, 9, 11, 12, 13, 24, 25, 26, 36]) (.cond (.t 36) (.region 0 [.mk4 0 (some 13) (.mv (.c (.i 0))) none] [0, 9, 11, 12, 13, 24, 25, 26]) (.skip))) (c167_4)
def c167_6 : AC :=
  .seq (.region 0 [.mk4 0 (some 30) (.faddr 0 (.t 11)) none,
    .mk4 1 (some 31) (.load1 (.t 30)) none,
    .mk4 2 (some 32) (.build [.i 0, .i 0] [(0, 1, (.t 31))]) none,
    .mk4 3 (some 12) (.alloc 2 [.i 0, .i 0]) none,
    .mk4 4 none (.store 2 (.t 12) (.t 32)) none] [0, 9, 11, 12, 24, 25, 26]) (.seq (.region 0 [.mk4 0 (some 13) (.mv (.c (.i 24))) none] [0, 9, 11, 12, 13, 24, 25, 26]) (c167_5))
def c167_7 : AC :=
  .seq (.block 1 (.seq (.region 0 [.mk4 0 (some 28) (.ixaS 2 (.t 24) (.t 26)) none,
    .mk4 1 (some 29) (.loadN 2 (.t 28)) none,
    .mk4 2 (some 11) (.alloc 2 [.i 0, .i 0]) none,
    .mk4 3 none (.store 2 (.t 11) (.t 29)) none] [0, 9, 11, 24, 25, 26]) (c167_6))) (.region 0 [.mk4 0 (some 69) (.bin .add (.t 26) (.c (.i 1))) none,
    .mk4 1 (some 26) (.mv (.t 69)) none] [0, 9, 24, 25, 26])
def c167_8 : AC :=
  .seq (.seq (.region 0 [.mk4 0 (some 24) (.mv (.t 7)) none,
    .mk4 1 (some 25) (.lenL (.t 24)) none,
    .mk4 2 (some 26) (.mv (.c (.i 0))) none] [0, 9, 24, 25, 26]) (.block 0 (.loop [0, 9, 24, 25, 26] (.seq (.region 0 [.mk4 0 (some 27) (.bin .lss (.t 26) (.t 25)) none] [0, 9, 24, 25, 26, 27]) (.seq (.cond (.t 27) (.skip) (.exit 0)) (c167_7)))))) (.seq (.region 0 [.mk4 0 (some 70) (.mv (.t 9)) none,
    .mk4 1 (some 6) (.mv (.t 70)) none] [6]) (.ret))
def c167_9 : AC :=
  .seq (.region 0 [.mk4 0 (some 15) (.mv (.t 0)) none,
    .mk4 1 (some 16) (.nilck (.t 15)) none,
    .mk4 2 (some 17) (.faddr 0 (.t 16)) none,
    .mk4 3 (some 18) (.load1 (.t 17)) none,
    .mk4 4 (some 19) (.mv (.t 1)) none,
    .mk4 5 (some 20) (.mv (.t 2)) none,
    .mk4 6 (some 21) (.call 172 [(.t 18), (.t 19), (.t 20)]) none,
    .mk4 7 (some 14) (.mv (.t 21)) none,
    .mk4 8 (some 22) (.extract (.t 14) 0) none,
    .mk4 9 (some 23) (.extract (.t 14) 1) none,
    .mk4 10 (some 7) (.mv (.t 22)) none,
    .mk4 11 (some 8) (.mv (.t 23)) none] [0, 7]) (.seq (.region 0 [.mk4 0 (some 9) (.mv (.c (.nils))) none] [0, 7, 9]) (c167_8))
def c167 : AFn := ⟨3, 71, [.tmp 6],
  (.seq (.region 0 [.mk4 0 (some 6) (.mv (.c (.nils))) none] [0, 1, 2]) (c167_9))⟩
def c168_0 : AC :=
  .region 0 [.mk4 0 (some 11) (.mv (.t 0)) none,
    .mk4 1 (some 12) (.nilck (.t 11)) none,
    .mk4 2 (some 13) (.faddr 0 (.t 12)) none,
    .mk4 3 (some 14) (.load1 (.t 13)) none,
    .mk4 4 (some 15) (.mv (.t 4)) none,
    .mk4 5 (some 16) (.faddr 0 (.t 3)) none,
    .mk4 6 (some 17) (.load1 (.t 16)) none,
    .mk4 7 (some 18) (.mv (.t 5)) none,
    .mk4 8 (some 19) (.call 171 [(.t 14), (.t 15), (.t 17), (.t 18)]) none] []
def c168_1 : AC :=
  .seq (.region 0 [.mk4 0 (some 7) (.loadN 3 (.t 3)) none,
    .mk4 1 (some 8) (.call 174 [(.t 7)]) none,
    .mk4 2 (some 6) (.mv (.t 8)) none,
    .mk4 3 (some 9) (.extract (.t 6) 0) none,
    .mk4 4 (some 10) (.extract (.t 6) 1) none,
    .mk4 5 (some 4) (.mv (.t 9)) none,
    .mk4 6 (some 5) (.mv (.t 10)) none] [0, 3, 4, 5]) (c168_0)
def c168 : AFn := ⟨2, 20, [],
  (.seq (.region 0 [.mk4 0 (some 3) (.box 3 (.t 1)) none] [0, 3]) (c168_1))⟩
def c169_0 : AC :=
  .seq (.region 0 [.mk4 0 (some 3) (.mv (.t 0)) none,
    .mk4 1 (some 4) (.eq .ptr false (.t 3) (.c (.ptr none))) none,
    .mk4 2 (some 5) (.mv (.t 4)) none,
    .mk4 3 (some 6) (.mv (.t 0)) (some (5, false)),
    .mk4 4 (some 7) (.nilck (.t 6)) (some (5, false)),
    .mk4 5 (some 8) (.faddr 0 (.t 7)) (some (5, false)),
    .mk4 6 (some 9) (.load1 (.t 8)) (some (5, false)),
    .mk4 7 (some 10) (.eq .ptr false (.t 9) (.c (.ptr none))) (some (5, false)),
    .mk4 8 (some 11) (.pick (.t 5) (.c (.bool true)) (.t 10)) none,
    .mk4 9 (some 2) (.mv (.t 11)) none] [2]) (.ret)
def c169 : AFn := ⟨1, 12, [.tmp 2],
  (.seq (.region 0 [.mk4 0 (some 2) (.mv (.c (.bool false))) none] [0]) (c169_0))⟩
def c170 : AFn := ⟨1, 4, [.tmp 2],
  (.seq (.region 0 [.mk4 0 (some 1) (.box 1 (.t 0)) none,
    .mk4 1 (some 2) (.mv (.c (.nilfn))) none] [1]) (.seq (.region 0 [.mk4 0 (some 3) (.mkClo 175 [(.t 1)]) none,
    .mk4 1 (some 2) (.mv (.t 3)) none] [2]) (.ret)))⟩
def c171_0 : AC :=
  .seq (.region 0 [.mk4 0 (some 117) (.mv (.t 0)) none,
    .mk4 1 (some 118) (.nilck (.t 117)) none,
    .mk4 2 (some 119) (.faddr 2 (.t 118)) none,
    .mk4 3 (some 120) (.load1 (.t 119)) none,
    .mk4 4 (some 121) (.mv (.t 2)) none,
    .mk4 5 (some 122) (.mv (.t 9)) none,
    .mk4 6 (some 123) (.mv (.t 3)) none,
    .mk4 7 (some 124) (.mv (.t 14)) none,
    .mk4 8 (some 125) (.mv (.t 3)) none,
    .mk4 9 (some 126) (.bin .and (.t 124) (.t 125)) none,
    .mk4 10 (some 127) (.faddr 5 (.t 13)) none,
    .mk4 11 (some 128) (.load1 (.t 127)) none,
    .mk4 12 (some 129) (.faddr 6 (.t 13)) none,
    .mk4 13 (some 130) (.load1 (.t 129)) none,
    .mk4 14 (some 131) (.build [.i 0, .i 0, .i 0, .int .u64 0, .int .u64 0] [(0, 1, (.t 122)), (1, 1, (.t 123)), (2, 1, (.t 126)), (3, 1, (.t 128)), (4, 1, (.t 130))]) none,
    .mk4 15 none (.mput (.leaf (.int .i64)) (.t 120) (.t 121) (.t 131)) none] []) (.seq (.region 0 [.mk4 0 (some 8) (.mv (.c (.i 0))) none] [8]) (.ret))
def c171_1 : AC :=
  .seq (.seq (.region 0 [.mk4 0 (some 113) (.faddr 1 (.t 11)) none,
    .mk4 1 (some 114) (.load1 (.t 113)) none,
    .mk4 2 (some 115) (.bin .and (.t 114) (.c (.i 32))) none,
    .mk4 3 (some 116) (.bin .eql (.t 115) (.c (.i 0))) none] [0, 2, 3, 9, 13, 14, 116]) (.cond (.t 116) (.region 0 [.mk4 0 (some 14) (.mv (.c (.i 5))) none] [0, 2, 3, 9, 13, 14]) (.skip))) (c171_0)
def c171_2 : AC :=
  .seq (.region 0 [.mk4 0 (some 99) (.mv (.t 0)) none,
    .mk4 1 (some 100) (.nilck (.t 99)) none,
    .mk4 2 (some 101) (.faddr 2 (.t 100)) none,
    .mk4 3 (some 102) (.load1 (.t 101)) none,
    .mk4 4 (some 103) (.mv (.t 2)) none,
    .mk4 5 none (.mdel (.leaf (.int .i64)) (.t 102) (.t 103)) none] []) (.seq (.region 0 [.mk4 0 (some 8) (.mv (.c (.i 0))) none] [8]) (.ret))
def c171_3 : AC :=
  .cond (.t 93) (.seq (.region 0 [.mk4 0 (some 8) (.mv (.c (.i 151))) none] [8]) (.ret)) (.seq (.region 0 [.mk4 0 (some 97) (.mv (.t 1)) none,
    .mk4 1 (some 98) (.bin .eql (.t 97) (.c (.i 3))) none,
    .mk4 2 (some 96) (.mv (.t 98)) none] [0, 2, 3, 9, 11, 13, 96]) (.cond (.t 96) (c171_2) (.skip)))
def c171_4 : AC :=
  .seq (.region 0 [.mk4 0 (some 79) (.mv (.t 0)) none,
    .mk4 1 (some 80) (.nilck (.t 79)) none,
    .mk4 2 (some 81) (.faddr 2 (.t 80)) none,
    .mk4 3 (some 82) (.load1 (.t 81)) none,
    .mk4 4 (some 83) (.mv (.t 2)) none,
    .mk4 5 (some 84) (.mv (.t 9)) none,
    .mk4 6 (some 85) (.mv (.t 3)) none,
    .mk4 7 (some 86) (.mv (.t 3)) none,
    .mk4 8 (some 87) (.bin .and (.t 86) (.c (.i 5))) none,
    .mk4 9 (some 88) (.faddr 5 (.t 13)) none,
    .mk4 10 (some 89) (.load1 (.t 88)) none,
    .mk4 11 (some 90) (.faddr 6 (.t 13)) none,
    .mk4 12 (some 91) (.load1 (.t 90)) none,
    .mk4 13 (some 92) (.build [.i 0, .i 0, .i 0, .int .u64 0, .int .u64 0] [(0, 1, (.t 84)), (1, 1, (.t 85)), (2, 1, (.t 87)), (3, 1, (.t 89)), (4, 1, (.t 91))]) none,
    .mk4 14 none (.mput (.leaf (.int .i64)) (.t 82) (.t 83) (.t 92)) none] []) (.seq (.region 0 [.mk4 0 (some 8) (.mv (.c (.i 0))) none] [8]) (.ret))
def c171_5 : AC :=
  .seq (.region 0 [.mk4 0 (some 77) (.mv (.t 1)) none,
    .mk4 1 (some 78) (.bin .eql (.t 77) (.c (.i 1))) none,
    .mk4 2 (some 76) (.mv (.t 78)) none] [0, 1, 2, 3, 9, 11, 12, 13, 76]) (.cond (.t 76) (c171_4) (.seq (.region 0 [.mk4 0 (some 94) (.mv (.t 12)) none,
    .mk4 1 (some 95) (.un .not (.t 94)) none,
    .mk4 2 (some 93) (.mv (.t 95)) none] [0, 1, 2, 3, 9, 11, 13, 93]) (c171_3)))
def c171_6 : AC :=
  .seq (.region 0 [.mk4 0 (some 64) (.mv (.t 1)) none,
    .mk4 1 (some 65) (.bin .eql (.t 64) (.c (.i 1))) none,
    .mk4 2 (some 66) (.mv (.t 65)) none,
    .mk4 3 (some 67) (.mv (.t 0)) (some (66, true)),
    .mk4 6 (some 70) (.mv (.t 0)) (some (66, true)),
    .mk4 7 (some 71) (.nilck (.t 70)) (some (66, true)),
    .mk4 8 (some 72) (.faddr 1 (.t 71)) (some (66, true)),
    .mk4 9 (some 73) (.load1 (.t 72)) (some (66, true)),
    ⟨4, (some 68), .call 176 [(.t 67)], (some (66, true)), none, [(73, .load1 (.t 72), (some (66, true)))]⟩,
    .mk4 5 (some 69) (.lenL (.t 68)) (some (66, true)),
    .mk4 10 (some 74) (.bin .geq (.t 69) (.t 73)) (some (66, true)),
    .mk4 11 (some 75) (.pick (.t 66) (.t 74) (.c (.bool false))) none,
    .mk4 12 (some 63) (.mv (.t 75)) none] [0, 1, 2, 3, 9, 11, 12, 13, 63]) (.cond (.t 63) (.seq (.region 0 [.mk4 0 (some 8) (.mv (.c (.i 152))) none] [8]) (.ret)) (c171_5))
def c171_7 : AC :=
  .seq (.region 0 [.mk4 0 (some 58) (.mv (.t 1)) none,
    .mk4 1 (some 59) (.bin .eql (.t 58) (.c (.i 1))) none,
    .mk4 2 (some 60) (.mv (.t 59)) none,
    .mk4 3 (some 61) (.mv (.t 12)) (some (60, true)),
    .mk4 4 (some 62) (.pick (.t 60) (.t 61) (.c (.bool false))) none,
    .mk4 5 (some 57) (.mv (.t 62)) none] [0, 1, 2, 3, 9, 11, 12, 13, 57]) (.cond (.t 57) (.seq (.region 0 [.mk4 0 (some 8) (.mv (.c (.i 150))) none] [8]) (.ret)) (c171_6))
def c171_8 : AC :=
  .seq (.region 0 [.mk4 0 (some 104) (.loadN 5 (.t 11)) none,
    .mk4 1 (some 105) (.loadN 7 (.t 13)) none,
    .mk4 3 (some 107) (.mv (.t 3)) none,
    .mk4 4 (some 108) (.bin .and (.t 107) (.c (.i 5))) none,
    .mk4 5 (some 109) (.faddr 1 (.t 11)) none,
    .mk4 6 (some 110) (.load1 (.t 109)) none,
    .mk4 7 (some 111) (.bin .andNot (.t 108) (.t 110)) none,
    ⟨2, (some 106), .call 179 [(.t 104), (.t 105)], none, none, [(110, .load1 (.t 109), none)]⟩,
    .mk4 8 (some 112) (.bin .or (.t 106) (.t 111)) none,
    .mk4 9 (some 14) (.mv (.t 112)) none] [0, 2, 3, 9, 11, 13, 14]) (c171_1)
def c171_9 : AC :=
  .seq (.region 0 [.mk4 0 (some 51) (.mv (.t 0)) none,
    .mk4 1 (some 52) (.nilck (.t 51)) none,
    .mk4 2 (some 53) (.faddr 0 (.t 52)) none,
    .mk4 3 (some 54) (.load1 (.t 53)) none,
    .mk4 4 (some 55) (.mv (.t 2)) none,
    .mk4 5 (some 56) (.call 99 [(.t 54), (.t 55)]) none,
    .mk4 6 (some 13) (.alloc 7 [.bool false, .bool false, .bool false, .bool false, .bool false, .int .u64 0, .int .u64 0]) none,
    .mk4 7 none (.store 7 (.t 13) (.t 56)) none] [0, 1, 2, 3, 9, 11, 12, 13]) (.seq (.block 1 (c171_7)) (c171_8))
def c171_10 : AC :=
  .seq (.region 0 [.mk4 0 (some 46) (.mv (.t 0)) none,
    .mk4 1 (some 47) (.mv (.t 2)) none,
    .mk4 2 (some 48) (.call 178 [(.t 46), (.t 47)]) none,
    .mk4 3 (some 45) (.mv (.t 48)) none,
    .mk4 4 (some 49) (.extract (.t 45) 0) none,
    .mk4 5 (some 50) (.extract (.t 45) 1) none,
    .mk4 6 (some 11) (.alloc 5 [.i 0, .i 0, .i 0, .int .u64 0, .int .u64 0]) none,
    .mk4 7 none (.store 5 (.t 11) (.t 49)) none,
    .mk4 8 (some 12) (.mv (.t 50)) none] [0, 1, 2, 3, 9, 11, 12]) (c171_9)
def c171_11 : AC :=
  .seq (.region 0 [.mk4 0 (some 19) (.mv (.t 1)) none,
    .mk4 1 (some 20) (.bin .lss (.t 19) (.c (.i 1))) none,
    .mk4 2 (some 21) (.mv (.t 20)) none,
    .mk4 3 (some 22) (.mv (.t 1)) (some (21, false)),
    .mk4 4 (some 23) (.bin .gtr (.t 22) (.c (.i 3))) (some (21, false)),
    .mk4 5 (some 24) (.pick (.t 21) (.c (.bool true)) (.t 23)) none,
    .mk4 6 (some 25) (.mv (.t 24)) none,
    .mk4 7 (some 26) (.mv (.t 1)) (some (25, false)),
    .mk4 8 (some 27) (.bin .neq (.t 26) (.c (.i 3))) (some (25, false)),
    .mk4 9 (some 28) (.mv (.t 27)) (some (25, false)),
    .mk4 10 (some 29) (.mv (.t 3)) (some (28, true)),
    .mk4 11 (some 30) (.bin .andNot (.t 29) (.c (.i 37))) (some (28, true)),
    .mk4 12 (some 31) (.bin .neq (.t 30) (.c (.i 0))) (some (28, true)),
    .mk4 13 (some 32) (.pick (.t 28) (.t 31) (.c (.bool false))) (some (25, false)),
    .mk4 14 (some 33) (.pick (.t 25) (.c (.bool true)) (.t 32)) none,
    .mk4 15 (some 18) (.mv (.t 33)) none] [0, 1, 2, 3, 18]) (.cond (.t 18) (.seq (.region 0 [.mk4 0 (some 8) (.mv (.c (.i 2))) none] [8]) (.ret)) (.skip))
def c171_12 : AC :=
  .seq (.region 0 [.mk4 0 (some 35) (.mv (.t 0)) none,
    .mk4 1 (some 36) (.nilck (.t 35)) none,
    .mk4 2 (some 37) (.faddr 0 (.t 36)) none,
    .mk4 3 (some 38) (.load1 (.t 37)) none,
    .mk4 4 (some 39) (.mv (.t 2)) none,
    .mk4 5 (some 40) (.call 105 [(.t 38), (.t 39)]) none,
    .mk4 6 (some 34) (.mv (.t 40)) none,
    .mk4 7 (some 41) (.extract (.t 34) 0) none,
    .mk4 8 (some 42) (.extract (.t 34) 1) none,
    .mk4 9 (some 9) (.mv (.t 41)) none,
    .mk4 10 (some 10) (.mv (.t 42)) none] [0, 1, 2, 3, 9, 10]) (.seq (.seq (.region 0 [.mk4 0 (some 43) (.mv (.t 10)) none,
    .mk4 1 (some 44) (.bin .neq (.t 43) (.c (.i 0))) none] [0, 1, 2, 3, 9, 44]) (.cond (.t 44) (.seq (.region 0 [.mk4 0 (some 8) (.mv (.c (.i 110))) none] [8]) (.ret)) (.skip))) (c171_10))
def c171_13 : AC :=
  .seq (.region 0 [.mk4 0 (some 8) (.mv (.c (.i 0))) none] [0, 1, 2, 3]) (.seq (.block 0 (.seq (.region 0 [.mk4 0 (some 16) (.mv (.t 0)) none,
    .mk4 1 (some 17) (.call 169 [(.t 16)]) none,
    .mk4 2 (some 15) (.mv (.t 17)) none] [0, 1, 2, 3, 15]) (.cond (.t 15) (.seq (.region 0 [.mk4 0 (some 8) (.mv (.c (.i 1))) none] [8]) (.ret)) (c171_11)))) (c171_12))
def c171 : AFn := ⟨4, 132, [.tmp 8],
  (c171_13)⟩
def c172_0 : AC :=
  .region 0 [.mk4 0 (some 63) (.mv (.t 0)) none,
    .mk4 1 (some 64) (.nilck (.t 63)) none,
    .mk4 2 (some 65) (.faddr 2 (.t 64)) none,
    .mk4 3 (some 66) (.load1 (.t 65)) none,
    .mk4 4 (some 67) (.faddr 0 (.t 10)) none,
    .mk4 5 (some 68) (.load1 (.t 67)) none,
    .mk4 6 (some 69) (.loadN 5 (.t 12)) none,
    .mk4 7 none (.mput (.leaf (.int .i64)) (.t 66) (.t 68) (.t 69)) none] [0, 8, 30, 31, 32]
def c172_1 : AC :=
  .seq (.region 0 [.mk4 0 (some 50) (.loadN 5 (.t 12)) none,
    .mk4 1 (some 51) (.loadN 7 (.t 11)) none,
    .mk4 3 (some 53) (.faddr 1 (.t 10)) none,
    .mk4 4 (some 54) (.load1 (.t 53)) none,
    .mk4 6 (some 56) (.faddr 5 (.t 11)) none,
    .mk4 7 (some 57) (.load1 (.t 56)) none,
    .mk4 8 (some 58) (.faddr 6 (.t 11)) none,
    .mk4 9 (some 59) (.load1 (.t 58)) none,
    ⟨2, (some 52), .call 179 [(.t 50), (.t 51)], none, none, [(54, .load1 (.t 53), none), (57, .load1 (.t 56), none), (59, .load1 (.t 58), none)]⟩,
    .mk4 5 (some 55) (.bin .andNot (.t 52) (.t 54)) none,
    .mk4 10 (some 60) (.faddr 2 (.t 12)) none,
    ⟨11, none, .store 1 (.t 60) (.t 55), none, none, [(57, .load1 (.t 56), none), (59, .load1 (.t 58), none)]⟩,
    .mk4 12 (some 61) (.faddr 3 (.t 12)) none,
    ⟨13, none, .store 1 (.t 61) (.t 57), none, none, [(59, .load1 (.t 58), none)]⟩,
    .mk4 14 (some 62) (.faddr 4 (.t 12)) none,
    .mk4 15 none (.store 1 (.t 62) (.t 59)) none] [0, 8, 10, 12, 30, 31, 32]) (c172_0)
def c172_2 : AC :=
  .seq (.region 1 [.mk4 0 (some 43) (.mv (.t 0)) none,
    .mk4 1 (some 44) (.nilck (.t 43)) none,
    .mk4 2 (some 45) (.faddr 2 (.t 44)) none,
    .mk4 3 (some 46) (.load1 (.t 45)) none,
    .mk4 4 (some 47) (.faddr 0 (.t 10)) none,
    .mk4 5 (some 48) (.load1 (.t 47)) none,
    .mk4 6 (some 49) (.lookup (.leaf (.int .i64)) (.agg [.i 0, .i 0, .i 0, .int .u64 0, .int .u64 0]) false (.t 46) (.t 48)) none,
    ⟨7, (some 12), .alloc 5 [.i 0, .i 0, .i 0, .int .u64 0, .int .u64 0], none, some 0, []⟩,
    .mk4 8 none (.store 5 (.t 12) (.t 49)) none] [0, 8, 10, 11, 12, 30, 31, 32]) (c172_1)
def c172_3 : AC :=
  .seq (.region 1 [.mk4 0 (some 36) (.mv (.t 0)) none,
    .mk4 1 (some 37) (.nilck (.t 36)) none,
    .mk4 2 (some 38) (.faddr 0 (.t 37)) none,
    .mk4 3 (some 39) (.load1 (.t 38)) none,
    .mk4 4 (some 40) (.faddr 0 (.t 10)) none,
    .mk4 5 (some 41) (.load1 (.t 40)) none,
    .mk4 6 (some 42) (.call 99 [(.t 39), (.t 41)]) none,
    ⟨7, (some 11), .alloc 7 [.bool false, .bool false, .bool false, .bool false, .bool false, .int .u64 0, .int .u64 0], none, some 0, []⟩,
    .mk4 8 none (.store 7 (.t 11) (.t 42)) none] [0, 8, 10, 11, 30, 31, 32]) (c172_2)
def c172_4 : AC :=
  .seq (.block 2 (.seq (.region 0 [.mk4 0 (some 34) (.ixaS 2 (.t 30) (.t 32)) none,
    .mk4 1 (some 35) (.loadN 2 (.t 34)) none,
    .mk4 2 (some 10) (.alloc 2 [.i 0, .i 0]) none,
    .mk4 3 none (.store 2 (.t 10) (.t 35)) none] [0, 8, 10, 30, 31, 32]) (c172_3))) (.region 0 [.mk4 0 (some 70) (.bin .add (.t 32) (.c (.i 1))) none,
    .mk4 1 (some 32) (.mv (.t 70)) none] [0, 8, 30, 31, 32])
def c172_5 : AC :=
  .seq (.seq (.region 0 [.mk4 0 (some 30) (.mv (.t 8)) none,
    .mk4 1 (some 31) (.lenL (.t 30)) none,
    .mk4 2 (some 32) (.mv (.c (.i 0))) none] [0, 8, 30, 31, 32]) (.block 1 (.loop [0, 8, 30, 31, 32] (.seq (.region 0 [.mk4 0 (some 33) (.bin .lss (.t 32) (.t 31)) none] [0, 8, 30, 31, 32, 33]) (.seq (.cond (.t 33) (.skip) (.exit 1)) (c172_4)))))) (.seq (.region 0 [.mk4 0 (some 71) (.mv (.t 8)) none,
    .mk4 1 (some 6) (.mv (.t 71)) none,
    .mk4 2 (some 7) (.mv (.c (.i 0))) none] [6, 7]) (.ret))
def c172_6 : AC :=
  .seq (.region 0 [.mk4 0 (some 24) (.mv (.t 8)) none,
    .mk4 1 (some 25) (.mv (.t 1)) none,
    .mk4 2 (some 26) (.mv (.t 8)) none,
    .mk4 3 (some 27) (.lenL (.t 26)) none,
    .mk4 4 (some 28) (.minI [(.t 25), (.t 27)]) none,
    .mk4 5 (some 29) (.slice 2 (.t 24) none (some (.t 28)) none) none,
    .mk4 6 (some 8) (.mv (.t 29)) none] [0, 8]) (c172_5)
def c172_7 : AC :=
  .seq (.region 0 [.mk4 0 (some 17) (.mv (.t 1)) none,
    .mk4 1 (some 18) (.bin .lss (.t 17) (.c (.i 1))) none,
    .mk4 2 (some 16) (.mv (.t 18)) none] [0, 1, 2, 16]) (.cond (.t 16) (.seq (.region 0 [.mk4 0 (some 6) (.mv (.c (.nils))) none,
    .mk4 1 (some 7) (.mv (.c (.i 2))) none] [6, 7]) (.ret)) (.skip))
def c172_8 : AC :=
  .seq (.region 0 [.mk4 0 (some 14) (.mv (.t 0)) none,
    .mk4 1 (some 15) (.call 169 [(.t 14)]) none,
    .mk4 2 (some 13) (.mv (.t 15)) none] [0, 1, 2, 13]) (.cond (.t 13) (.seq (.region 0 [.mk4 0 (some 6) (.mv (.c (.nils))) none,
    .mk4 1 (some 7) (.mv (.c (.i 1))) none] [6, 7]) (.ret)) (c172_7))
def c172_9 : AC :=
  .seq (.region 0 [.mk4 0 (some 19) (.mv (.t 0)) none,
    .mk4 1 (some 20) (.call 170 [(.t 19)]) none,
    .mk4 2 (some 21) (.call 181 [(.t 20)]) none,
    .mk4 3 (some 22) (.mv (.t 2)) none,
    .mk4 4 (some 23) (.call 180 [(.t 21), (.t 22)]) none,
    .mk4 5 (some 8) (.mv (.t 23)) none] [0, 1, 8]) (c172_6)
def c172 : AFn := ⟨3, 72, [.tmp 6, .tmp 7],
  (.seq (.region 0 [.mk4 0 (some 6) (.mv (.c (.nils))) none,
    .mk4 1 (some 7) (.mv (.c (.i 0))) none] [0, 1, 2]) (.seq (.block 0 (c172_8)) (c172_9)))⟩
def c173_0 : AC :=
  .seq (.region 0 [.mk4 0 (some 5) (.mv (.t 0)) none,
    .mk4 1 (some 6) (.nilck (.t 5)) none,
    .mk4 2 (some 7) (.faddr 2 (.t 6)) none,
    .mk4 3 (some 8) (.load1 (.t 7)) none,
    .mk4 4 (some 9) (.mv (.t 1)) none,
    .mk4 5 (some 10) (.call 150 [(.t 8), (.t 9)]) none,
    .mk4 6 (some 11) (.bin .and (.t 10) (.c (.i 32))) none,
    .mk4 7 (some 12) (.bin .neq (.t 11) (.c (.i 0))) none,
    .mk4 8 (some 4) (.mv (.t 12)) none] [4]) (.ret)
def c173 : AFn := ⟨2, 13, [.tmp 4],
  (.seq (.region 0 [.mk4 0 (some 4) (.mv (.c (.bool false))) none] [0, 1]) (c173_0))⟩
def c174_0 : AC :=
  .seq (.region 0 [.mk4 0 (some 30) (.faddr 2 (.t 1)) none,
    .mk4 1 (some 31) (.load1 (.t 30)) none,
    .mk4 2 (some 32) (.bin .eql (.t 31) (.c (.i 0))) none,
    .mk4 3 (some 29) (.mv (.t 32)) none] [3, 29]) (.cond (.t 29) (.seq (.region 0 [.mk4 0 (some 33) (.mv (.t 3)) none,
    .mk4 1 (some 2) (.mv (.c (.i 3))) none,
    .mk4 2 (some 3) (.mv (.t 33)) none] [2, 3]) (.ret)) (.skip))
def c174_1 : AC :=
  .seq (.region 0 [.mk4 0 (some 25) (.faddr 1 (.t 1)) none,
    .mk4 1 (some 26) (.load1 (.t 25)) none,
    .mk4 2 (some 27) (.bin .eql (.t 26) (.c (.i 0))) none,
    .mk4 3 (some 24) (.mv (.t 27)) none] [1, 3, 24]) (.cond (.t 24) (.seq (.region 0 [.mk4 0 (some 28) (.mv (.t 3)) none,
    .mk4 1 (some 2) (.mv (.c (.i 1))) none,
    .mk4 2 (some 3) (.mv (.t 28)) none] [2, 3]) (.ret)) (c174_0))
def c174_2 : AC :=
  .seq (.region 0 [.mk4 0 (some 13) (.faddr 2 (.t 1)) none,
    .mk4 1 (some 14) (.load1 (.t 13)) none,
    .mk4 2 (some 15) (.ixaA 2 1 (.t 5) (.c (.i 0))) none,
    .mk4 3 (some 16) (.load1 (.t 15)) none,
    .mk4 4 (some 17) (.bin .and (.t 14) (.t 16)) none,
    .mk4 5 (some 18) (.bin .neq (.t 17) (.c (.i 0))) none] [1, 3, 5, 9, 10, 18]) (.cond (.t 18) (.region 0 [.mk4 0 (some 19) (.mv (.t 3)) none,
    .mk4 1 (some 20) (.ixaA 2 1 (.t 5) (.c (.i 1))) none,
    .mk4 2 (some 21) (.load1 (.t 20)) none,
    .mk4 3 (some 22) (.bin .or (.t 19) (.t 21)) none,
    .mk4 4 (some 3) (.mv (.t 22)) none] [1, 3, 9, 10]) (.skip))
def c174_3 : AC :=
  .seq (.block 1 (.seq (.region 0 [.mk4 0 (some 12) (.ixA 3 2 (some 2) (.t 9) (.t 10)) none,
    .mk4 1 (some 5) (.alloc 2 [.i 0, .i 0]) none,
    .mk4 2 none (.store 2 (.t 5) (.t 12)) none] [1, 3, 5, 9, 10]) (c174_2))) (.region 0 [.mk4 0 (some 23) (.bin .add (.t 10) (.c (.i 1))) none,
    .mk4 1 (some 10) (.mv (.t 23)) none] [1, 3, 9, 10])
def c174_4 : AC :=
  .seq (.seq (.region 0 [.mk4 0 (some 6) (.build [.i 0, .i 0] [(0, 1, (.c (.i 2))), (1, 1, (.c (.i 1)))]) none,
    .mk4 1 (some 7) (.build [.i 0, .i 0] [(0, 1, (.c (.i 4))), (1, 1, (.c (.i 4)))]) none,
    .mk4 2 (some 8) (.build [.i 0, .i 0] [(0, 1, (.c (.i 32))), (1, 1, (.c (.i 32)))]) none,
    .mk4 3 (some 9) (.build [.i 0, .i 0, .i 0, .i 0, .i 0, .i 0] [(0, 2, (.t 6)), (2, 2, (.t 7)), (4, 2, (.t 8))]) none,
    .mk4 4 (some 10) (.mv (.c (.i 0))) none] [1, 3, 9, 10]) (.block 0 (.loop [1, 3, 9, 10] (.seq (.region 0 [.mk4 0 (some 11) (.bin .lss (.t 10) (.c (.i 3))) none] [1, 3, 9, 10, 11]) (.seq (.cond (.t 11) (.skip) (.exit 0)) (c174_3)))))) (.seq (.block 2 (c174_1)) (.seq (.region 0 [.mk4 0 (some 34) (.mv (.t 3)) none,
    .mk4 1 (some 2) (.mv (.c (.i 2))) none,
    .mk4 2 (some 3) (.mv (.t 34)) none] [2, 3]) (.ret)))
def c174 : AFn := ⟨1, 35, [.tmp 2, .tmp 3],
  (.seq (.region 0 [.mk4 0 (some 1) (.box 3 (.t 0)) none,
    .mk4 1 (some 2) (.mv (.c (.i 0))) none,
    .mk4 2 (some 3) (.mv (.c (.i 0))) none] [1, 3]) (c174_4))⟩
def c175_0 : AC :=
  .seq (.region 0 [.mk4 0 (some 28) (.mv (.t 0)) none,
    .mk4 1 (some 29) (.mv (.t 4)) none,
    .mk4 2 (some 30) (.mv (.t 5)) none,
    .mk4 3 (some 31) (.build [.i 0, .i 0] [(0, 1, (.t 29)), (1, 1, (.t 30))]) none,
    .mk4 4 (some 32) (.callv (.t 28) [(.t 31)]) none,
    .mk4 5 (some 33) (.un .not (.t 32)) none] [0, 1, 7, 8, 9, 33]) (.cond (.t 33) (.ret) (.skip))
def c175_1 : AC :=
  .seq (.region 0 [.mk4 0 (some 13) (.load1 (.t 1)) none,
    .mk4 1 (some 14) (.nilck (.t 13)) none,
    .mk4 2 (some 15) (.faddr 2 (.t 14)) none,
    .mk4 3 (some 16) (.load1 (.t 15)) none,
    .mk4 4 (some 17) (.mv (.t 4)) none,
    .mk4 5 (some 18) (.lookup (.leaf (.int .i64)) (.agg [.i 0, .i 0, .i 0, .int .u64 0, .int .u64 0]) false (.t 16) (.t 17)) none,
    .mk4 6 (some 19) (.load1 (.t 1)) none,
    .mk4 7 (some 20) (.nilck (.t 19)) none,
    .mk4 8 (some 21) (.faddr 0 (.t 20)) none,
    .mk4 9 (some 22) (.load1 (.t 21)) none,
    .mk4 10 (some 23) (.mv (.t 4)) none,
    ⟨11, (some 24), .call 99 [(.t 22), (.t 23)], none, none, [(13, .load1 (.t 1), none), (16, .load1 (.t 15), none), (18, .lookup (.leaf (.int .i64)) (.agg [.i 0, .i 0, .i 0, .int .u64 0, .int .u64 0]) false (.t 16) (.t 17), none)]⟩,
    .mk4 12 (some 25) (.call 177 [(.t 18), (.t 24)]) none,
    .mk4 13 (some 5) (.mv (.t 25)) none] [0, 1, 4, 5, 7, 8, 9]) (.seq (.seq (.region 0 [.mk4 0 (some 26) (.mv (.t 5)) none,
    .mk4 1 (some 27) (.bin .eql (.t 26) (.c (.i 0))) none] [0, 1, 4, 5, 7, 8, 9, 27]) (.cond (.t 27) (.exit 1) (.skip))) (c175_0))
def c175_2 : AC :=
  .seq (.block 1 (.seq (.region 0 [.mk4 0 (some 11) (.ixaS 1 (.t 7) (.t 9)) none,
    .mk4 1 (some 12) (.load1 (.t 11)) none,
    .mk4 2 (some 4) (.mv (.t 12)) none] [0, 1, 4, 7, 8, 9]) (c175_1))) (.region 0 [.mk4 0 (some 34) (.bin .add (.t 9) (.c (.i 1))) none,
    .mk4 1 (some 9) (.mv (.t 34)) none] [0, 1, 7, 8, 9])
def c175_3 : AC :=
  .seq (.region 0 [.mk4 0 (some 6) (.load1 (.t 1)) none,
    .mk4 1 (some 7) (.call 176 [(.t 6)]) none,
    .mk4 2 (some 8) (.lenL (.t 7)) none,
    .mk4 3 (some 9) (.mv (.c (.i 0))) none] [0, 1, 7, 8, 9]) (.block 0 (.loop [0, 1, 7, 8, 9] (.seq (.region 0 [.mk4 0 (some 10) (.bin .lss (.t 9) (.t 8)) none] [0, 1, 7, 8, 9, 10]) (.seq (.cond (.t 10) (.skip) (.exit 0)) (c175_2)))))
def c175 : AFn := ⟨2, 35, [],
  (.scope (.seq (.label 0) (c175_3)))⟩
def c176_0 : AC :=
  .seq (.region 0 [.mk4 0 (some 3) (.load1 (.t 1)) none,
    .mk4 1 (some 4) (.nilck (.t 3)) none,
    .mk4 2 (some 5) (.faddr 2 (.t 4)) none,
    .mk4 3 (some 6) (.load1 (.t 5)) none,
    .mk4 4 (some 7) (.call 184 [(.t 6)]) none,
    .mk4 5 (some 8) (.call 183 [(.t 7)]) none,
    .mk4 6 (some 9) (.mkClo 185 [(.t 1)]) none,
    .mk4 7 (some 10) (.call 182 [(.t 8), (.t 9)]) none,
    .mk4 8 (some 2) (.mv (.t 10)) none] [2]) (.ret)
def c176 : AFn := ⟨1, 11, [.tmp 2],
  (.seq (.region 0 [.mk4 0 (some 1) (.box 1 (.t 0)) none,
    .mk4 1 (some 2) (.mv (.c (.nils))) none] [1]) (c176_0))⟩
def c177_0 : AC :=
  .seq (.seq (.region 0 [.mk4 0 (some 51) (.faddr 4 (.t 3)) none,
    .mk4 1 (some 52) (.load1 (.t 51)) none] [5, 52]) (.cond (.t 52) (.region 0 [.mk4 0 (some 53) (.mv (.t 5)) none,
    .mk4 1 (some 54) (.bin .or (.t 53) (.c (.i 8))) none,
    .mk4 2 (some 5) (.mv (.t 54)) none] [5]) (.skip))) (.seq (.region 0 [.mk4 0 (some 55) (.mv (.t 5)) none,
    .mk4 1 (some 4) (.mv (.t 55)) none] [4]) (.ret))
def c177_1 : AC :=
  .seq (.region 0 [.mk4 0 (some 40) (.mv (.t 5)) none,
    .mk4 1 (some 41) (.loadN 5 (.t 2)) none,
    .mk4 2 (some 42) (.loadN 7 (.t 3)) none,
    .mk4 3 (some 43) (.call 179 [(.t 41), (.t 42)]) none,
    .mk4 4 (some 44) (.bin .and (.t 40) (.t 43)) none,
    .mk4 5 (some 5) (.mv (.t 44)) none] [3, 5]) (.seq (.region 0 [.mk4 0 (some 45) (.mv (.t 5)) none,
    .mk4 1 (some 46) (.bin .eql (.t 45) (.c (.i 0))) none] [3, 5, 46]) (.cond (.t 46) (.seq (.region 0 [.mk4 0 (some 4) (.mv (.c (.i 0))) none] [4]) (.ret)) (.skip)))
def c177_2 : AC :=
  .seq (.seq (.region 0 [.mk4 0 (some 47) (.faddr 3 (.t 3)) none,
    .mk4 1 (some 48) (.load1 (.t 47)) none] [3, 5, 48]) (.cond (.t 48) (.region 0 [.mk4 0 (some 49) (.mv (.t 5)) none,
    .mk4 1 (some 50) (.bin .or (.t 49) (.c (.i 16))) none,
    .mk4 2 (some 5) (.mv (.t 50)) none] [3, 5]) (.skip))) (c177_0)
def c177_3 : AC :=
  .seq (.region 0 [.mk4 0 (some 35) (.mv (.t 5)) none,
    .mk4 1 (some 36) (.faddr 1 (.t 2)) none,
    .mk4 2 (some 37) (.load1 (.t 36)) none,
    .mk4 3 (some 38) (.bin .and (.t 35) (.t 37)) none,
    .mk4 4 (some 5) (.mv (.t 38)) none] [2, 3, 5, 6]) (.seq (.seq (.region 0 [.mk4 0 (some 39) (.mv (.t 6)) none] [2, 3, 5, 39]) (.cond (.t 39) (c177_1) (.skip))) (c177_2))
def c177_4 : AC :=
  .seq (.seq (.region 0 [.mk4 0 (some 28) (.faddr 2 (.t 3)) none,
    .mk4 1 (some 29) (.load1 (.t 28)) none,
    .mk4 2 (some 30) (.mv (.t 29)) none,
    .mk4 3 (some 31) (.mv (.t 7)) (some (30, false)),
    .mk4 4 (some 32) (.pick (.t 30) (.c (.bool true)) (.t 31)) none] [2, 3, 5, 6, 32]) (.cond (.t 32) (.region 0 [.mk4 0 (some 33) (.mv (.t 5)) none,
    .mk4 1 (some 34) (.bin .or (.t 33) (.c (.i 4))) none,
    .mk4 2 (some 5) (.mv (.t 34)) none] [2, 3, 5, 6]) (.skip))) (c177_3)
def c177_5 : AC :=
  .seq (.seq (.region 0 [.mk4 0 (some 21) (.faddr 1 (.t 3)) none,
    .mk4 1 (some 22) (.load1 (.t 21)) none,
    .mk4 2 (some 23) (.mv (.t 22)) none,
    .mk4 3 (some 24) (.mv (.t 7)) (some (23, false)),
    .mk4 4 (some 25) (.pick (.t 23) (.c (.bool true)) (.t 24)) none] [2, 3, 5, 6, 7, 25]) (.cond (.t 25) (.region 0 [.mk4 0 (some 26) (.mv (.t 5)) none,
    .mk4 1 (some 27) (.bin .or (.t 26) (.c (.i 1))) none,
    .mk4 2 (some 5) (.mv (.t 27)) none] [2, 3, 5, 6, 7]) (.skip))) (c177_4)
def c177_6 : AC :=
  .seq (.region 0 [.mk4 0 (some 12) (.mv (.t 6)) none,
    .mk4 1 (some 13) (.mv (.t 12)) none,
    .mk4 2 (some 14) (.faddr 3 (.t 3)) (some (13, true)),
    .mk4 3 (some 15) (.load1 (.t 14)) (some (13, true)),
    .mk4 4 (some 16) (.mv (.t 15)) (some (13, true)),
    .mk4 5 (some 17) (.faddr 4 (.t 3)) (some (16, false)),
    .mk4 6 (some 18) (.load1 (.t 17)) (some (16, false)),
    .mk4 7 (some 19) (.pick (.t 16) (.c (.bool true)) (.t 18)) (some (13, true)),
    .mk4 8 (some 20) (.pick (.t 13) (.t 19) (.c (.bool false))) none,
    .mk4 9 (some 7) (.mv (.t 20)) none] [2, 3, 5, 6, 7]) (c177_5)
def c177_7 : AC :=
  .seq (.region 0 [.mk4 0 (some 8) (.faddr 1 (.t 2)) none,
    .mk4 1 (some 9) (.load1 (.t 8)) none,
    .mk4 2 (some 10) (.bin .and (.t 9) (.c (.i 32))) none,
    .mk4 3 (some 11) (.bin .neq (.t 10) (.c (.i 0))) none,
    .mk4 4 (some 5) (.mv (.c (.i 0))) none,
    .mk4 5 (some 6) (.mv (.t 11)) none] [2, 3, 5, 6]) (c177_6)
def c177 : AFn := ⟨2, 56, [.tmp 4],
  (.seq (.region 0 [.mk4 0 (some 2) (.box 5 (.t 0)) none,
    .mk4 1 (some 3) (.box 7 (.t 1)) none,
    .mk4 2 (some 4) (.mv (.c (.i 0))) none] [2, 3]) (c177_7))⟩
def c178_0 : AC :=
  .seq (.seq (.region 0 [.mk4 0 (some 28) (.mv (.t 7)) none,
    .mk4 1 (some 29) (.un .not (.t 28)) none,
    .mk4 2 (some 30) (.mv (.t 29)) none,
    .mk4 3 (some 31) (.mv (.t 9)) (some (30, false)),
    .mk4 4 (some 32) (.bin .neq (.t 31) (.c (.i 0))) (some (30, false)),
    .mk4 5 (some 33) (.pick (.t 30) (.c (.bool true)) (.t 32)) none,
    .mk4 6 (some 34) (.mv (.t 33)) none,
    .mk4 7 (some 35) (.mv (.t 8)) (some (34, false)),
    .mk4 8 (some 36) (.faddr 0 (.t 6)) (some (34, false)),
    .mk4 9 (some 37) (.load1 (.t 36)) (some (34, false)),
    .mk4 10 (some 38) (.bin .neq (.t 35) (.t 37)) (some (34, false)),
    .mk4 11 (some 39) (.pick (.t 34) (.c (.bool true)) (.t 38)) none] [4, 6, 39]) (.cond (.t 39) (.seq (.region 0 [.mk4 0 (some 40) (.build [.i 0, .i 0, .i 0, .int .u64 0, .int .u64 0] []) none,
    .mk4 1 none (.store 5 (.t 4) (.t 40)) none,
    .mk4 2 (some 5) (.mv (.c (.bool false))) none] [4, 5]) (.ret)) (.skip))) (.seq (.region 0 [.mk4 0 (some 41) (.loadN 5 (.t 6)) none,
    .mk4 1 none (.store 5 (.t 4) (.t 41)) none,
    .mk4 2 (some 5) (.mv (.c (.bool true))) none] [4, 5]) (.ret))
def c178_1 : AC :=
  .seq (.region 0 [.mk4 0 (some 20) (.mv (.t 0)) none,
    .mk4 1 (some 21) (.nilck (.t 20)) none,
    .mk4 2 (some 22) (.faddr 0 (.t 21)) none,
    .mk4 3 (some 23) (.load1 (.t 22)) none,
    .mk4 4 (some 24) (.mv (.t 1)) none,
    .mk4 5 (some 25) (.call 105 [(.t 23), (.t 24)]) none,
    .mk4 6 (some 19) (.mv (.t 25)) none,
    .mk4 7 (some 26) (.extract (.t 19) 0) none,
    .mk4 8 (some 27) (.extract (.t 19) 1) none,
    .mk4 9 (some 8) (.mv (.t 26)) none,
    .mk4 10 (some 9) (.mv (.t 27)) none] [4, 6, 7, 8, 9]) (c178_0)
def c178_2 : AC :=
  .seq (.region 0 [.mk4 0 (some 11) (.mv (.t 0)) none,
    .mk4 1 (some 12) (.nilck (.t 11)) none,
    .mk4 2 (some 13) (.faddr 2 (.t 12)) none,
    .mk4 3 (some 14) (.load1 (.t 13)) none,
    .mk4 4 (some 15) (.mv (.t 1)) none,
    .mk4 5 (some 16) (.lookup (.leaf (.int .i64)) (.agg [.i 0, .i 0, .i 0, .int .u64 0, .int .u64 0]) true (.t 14) (.t 15)) none,
    .mk4 6 (some 10) (.mv (.t 16)) none,
    .mk4 7 (some 17) (.extract (.t 10) 0) none,
    .mk4 8 (some 18) (.extract (.t 10) 1) none,
    .mk4 9 (some 6) (.alloc 5 [.i 0, .i 0, .i 0, .int .u64 0, .int .u64 0]) none,
    .mk4 10 none (.store 5 (.t 6) (.t 17)) none,
    .mk4 11 (some 7) (.mv (.t 18)) none] [0, 1, 4, 6, 7]) (c178_1)
def c178 : AFn := ⟨2, 42, [.cellN 4 5, .tmp 5],
  (.seq (.region 0 [.mk4 0 (some 4) (.alloc 5 [.i 0, .i 0, .i 0, .int .u64 0, .int .u64 0]) none,
    .mk4 1 (some 5) (.mv (.c (.bool false))) none] [0, 1, 4]) (c178_2))⟩
def c179_0 : AC :=
  .seq (.seq (.region 0 [.mk4 0 (some 15) (.faddr 6 (.t 3)) none,
    .mk4 1 (some 16) (.load1 (.t 15)) none,
    .mk4 2 (some 17) (.faddr 4 (.t 2)) none,
    .mk4 3 (some 18) (.load1 (.t 17)) none,
    .mk4 4 (some 19) (.bin .gtr (.t 16) (.t 18)) none] [5, 19]) (.cond (.t 19) (.region 0 [.mk4 0 (some 20) (.mv (.t 5)) none,
    .mk4 1 (some 21) (.bin .or (.t 20) (.c (.i 4))) none,
    .mk4 2 (some 5) (.mv (.t 21)) none] [5]) (.skip))) (.seq (.region 0 [.mk4 0 (some 22) (.mv (.t 5)) none,
    .mk4 1 (some 4) (.mv (.t 22)) none] [4]) (.ret))
def c179_1 : AC :=
  .seq (.seq (.region 0 [.mk4 0 (some 8) (.faddr 5 (.t 3)) none,
    .mk4 1 (some 9) (.load1 (.t 8)) none,
    .mk4 2 (some 10) (.faddr 3 (.t 2)) none,
    .mk4 3 (some 11) (.load1 (.t 10)) none,
    .mk4 4 (some 12) (.bin .gtr (.t 9) (.t 11)) none] [2, 3, 5, 12]) (.cond (.t 12) (.region 0 [.mk4 0 (some 13) (.mv (.t 5)) none,
    .mk4 1 (some 14) (.bin .or (.t 13) (.c (.i 1))) none,
    .mk4 2 (some 5) (.mv (.t 14)) none] [2, 3, 5]) (.skip))) (c179_0)
def c179_2 : AC :=
  .seq (.region 0 [.mk4 0 (some 2) (.box 5 (.t 0)) none,
    .mk4 1 (some 3) (.box 7 (.t 1)) none,
    .mk4 2 (some 4) (.mv (.c (.i 0))) none] [2, 3]) (.seq (.region 0 [.mk4 0 (some 6) (.faddr 2 (.t 2)) none,
    .mk4 1 (some 7) (.load1 (.t 6)) none,
    .mk4 2 (some 5) (.mv (.t 7)) none] [2, 3, 5]) (c179_1))
def c179 : AFn := ⟨2, 23, [.tmp 4],
  (c179_2)⟩
def c180_0 : AC :=
  .region 0 [.mk4 0 (some 33) (.mv (.t 5)) none,
    .mk4 1 (some 34) (.mv (.t 6)) none,
    .mk4 2 (some 35) (.mv (.t 5)) none,
    .mk4 3 (some 36) (.mv (.t 7)) none,
    .mk4 4 (some 37) (.mv (.t 5)) none,
    .mk4 5 (some 38) (.mv (.t 7)) none,
    .mk4 6 (some 39) (.ixaS 2 (.t 37) (.t 38)) none,
    .mk4 7 (some 40) (.loadN 2 (.t 39)) none,
    .mk4 8 (some 41) (.mv (.t 5)) none,
    .mk4 9 (some 42) (.mv (.t 6)) none,
    .mk4 10 (some 43) (.ixaS 2 (.t 41) (.t 42)) none,
    .mk4 11 (some 44) (.loadN 2 (.t 43)) none,
    .mk4 12 (some 45) (.ixaS 2 (.t 33) (.t 34)) none,
    .mk4 13 none (.store 2 (.t 45) (.t 40)) none,
    .mk4 14 (some 46) (.ixaS 2 (.t 35) (.t 36)) none,
    .mk4 15 none (.store 2 (.t 46) (.t 44)) none] [1, 5, 11, 12]
def c180_1 : AC :=
  .seq (.region 0 [.mk4 0 (some 18) (.mv (.t 6)) none,
    .mk4 1 (some 19) (.mv (.t 1)) none,
    .mk4 2 (some 20) (.mv (.t 6)) none,
    .mk4 3 (some 21) (.mv (.t 1)) none,
    .mk4 4 (some 22) (.lenL (.t 21)) none,
    .mk4 5 (some 23) (.bin .rem (.t 20) (.t 22)) none,
    .mk4 6 (some 24) (.ixaS 1 (.t 19) (.t 23)) none,
    .mk4 7 (some 25) (.load1 (.t 24)) none,
    .mk4 8 (some 26) (.maxI [(.c (.i 0)), (.t 25)]) none,
    .mk4 9 (some 27) (.mv (.t 5)) none,
    .mk4 10 (some 28) (.lenL (.t 27)) none,
    .mk4 11 (some 29) (.mv (.t 6)) none,
    .mk4 12 (some 30) (.bin .sub (.t 28) (.t 29)) none,
    .mk4 13 (some 31) (.bin .rem (.t 26) (.t 30)) none,
    .mk4 14 (some 32) (.bin .add (.t 18) (.t 31)) none,
    .mk4 15 (some 7) (.mv (.t 32)) none] [1, 5, 6, 7, 11, 12]) (c180_0)
def c180_2 : AC :=
  .seq (.region 0 [.mk4 0 (some 14) (.mv (.t 12)) none,
    .mk4 1 (some 6) (.mv (.t 14)) none] [1, 5, 6, 11, 12]) (.seq (.region 0 [.mk4 0 (some 15) (.mv (.t 1)) none,
    .mk4 1 (some 16) (.lenL (.t 15)) none,
    .mk4 2 (some 17) (.bin .gtr (.t 16) (.c (.i 0))) none] [1, 5, 6, 11, 12, 17]) (.cond (.t 17) (c180_1) (.skip)))
def c180_3 : AC :=
  .loop [1, 5, 11, 12] (.seq (.region 0 [.mk4 0 (some 13) (.bin .lss (.t 12) (.t 11)) none] [1, 5, 11, 12, 13]) (.seq (.cond (.t 13) (.skip) (.exit 0)) (.seq (.block 1 (c180_2)) (.region 0 [.mk4 0 (some 47) (.bin .add (.t 12) (.c (.i 1))) none,
    .mk4 1 (some 12) (.mv (.t 47)) none] [1, 5, 11, 12]))))
def c180_4 : AC :=
  .seq (.region 0 [.mk4 0 (some 8) (.mv (.t 0)) none,
    .mk4 1 (some 9) (.call 186 [(.t 8)]) none,
    .mk4 2 (some 5) (.mv (.t 9)) none] [1, 5]) (.seq (.seq (.region 0 [.mk4 0 (some 10) (.mv (.t 5)) none,
    .mk4 1 (some 11) (.lenL (.t 10)) none,
    .mk4 2 (some 12) (.mv (.c (.i 0))) none] [1, 5, 11, 12]) (.block 0 (c180_3))) (.seq (.region 0 [.mk4 0 (some 48) (.mv (.t 5)) none,
    .mk4 1 (some 4) (.mv (.t 48)) none] [4]) (.ret)))
def c180 : AFn := ⟨2, 49, [.tmp 4],
  (.seq (.region 0 [.mk4 0 (some 4) (.mv (.c (.nils))) none] [0, 1]) (c180_4))⟩
def c181 : AFn := ⟨1, 5, [.tmp 2],
  (.seq (.region 0 [.mk4 0 (some 2) (.mv (.c (.nils))) none] [0]) (.seq (.region 0 [.mk4 0 (some 3) (.mv (.t 0)) none,
    .mk4 1 (some 4) (.call 187 [(.c (.nils)), (.t 3)]) none,
    .mk4 2 (some 2) (.mv (.t 4)) none] [2]) (.ret)))⟩
def c182_0 : AC :=
  .seq (.region 0 [.mk4 0 (some 30) (.mv (.t 0)) none,
    .mk4 1 (some 31) (.mv (.t 5)) none,
    .mk4 2 (some 32) (.mv (.t 7)) none,
    .mk4 3 (some 33) (.ixaS 1 (.t 30) (.t 31)) none,
    .mk4 4 none (.store 1 (.t 33) (.t 32)) none] [0, 1, 5, 6]) (.region 0 [.mk4 0 (some 34) (.mv (.t 5)) none,
    .mk4 1 (some 35) (.bin .add (.t 34) (.c (.i 1))) none,
    .mk4 2 (some 5) (.mv (.t 35)) none] [0, 1, 5, 6])
def c182_1 : AC :=
  .seq (.region 0 [.mk4 0 (some 22) (.mv (.t 0)) none,
    .mk4 1 (some 23) (.mv (.t 6)) none,
    .mk4 2 (some 24) (.ixaS 1 (.t 22) (.t 23)) none,
    .mk4 3 (some 25) (.load1 (.t 24)) none,
    .mk4 4 (some 7) (.mv (.t 25)) none] [0, 1, 5, 6, 7]) (.seq (.region 0 [.mk4 0 (some 26) (.mv (.t 1)) none,
    .mk4 1 (some 27) (.mv (.t 7)) none,
    .mk4 2 (some 28) (.callv (.t 26) [(.t 27)]) none,
    .mk4 3 (some 29) (.un .not (.t 28)) none] [0, 1, 5, 6, 7, 29]) (.cond (.t 29) (c182_0) (.skip)))
def c182_2 : AC :=
  .seq (.seq (.region 0 [.mk4 0 (some 16) (.mv (.t 6)) none,
    .mk4 1 (some 17) (.mv (.t 0)) none,
    .mk4 2 (some 18) (.lenL (.t 17)) none,
    .mk4 3 (some 19) (.bin .lss (.t 16) (.t 18)) none] [0, 1, 5, 6, 19]) (.cond (.t 19) (.skip) (.exit 0))) (.seq (.block 1 (c182_1)) (.region 0 [.mk4 0 (some 20) (.mv (.t 6)) none,
    .mk4 1 (some 21) (.bin .add (.t 20) (.c (.i 1))) none,
    .mk4 2 (some 6) (.mv (.t 21)) none] [0, 1, 5, 6]))
def c182_3 : AC :=
  .seq (.region 0 [.mk4 0 (some 36) (.mv (.t 0)) none,
    .mk4 1 (some 37) (.mv (.t 5)) none,
    .mk4 2 (some 38) (.slice 1 (.t 36) (some (.t 37)) none none) none,
    .mk4 3 none (.fail) none] [0, 5]) (.seq (.region 0 [.mk4 0 (some 39) (.mv (.t 0)) none,
    .mk4 1 (some 40) (.mv (.t 5)) none,
    .mk4 2 (some 41) (.slice 1 (.t 39) none (some (.t 40)) none) none,
    .mk4 3 (some 4) (.mv (.t 41)) none] [4]) (.ret))
def c182_4 : AC :=
  .seq (.seq (.region 0 [.mk4 0 (some 11) (.mv (.t 5)) none,
    .mk4 1 (some 12) (.bin .eql (.t 11) (.c (.i (-1)))) none] [0, 1, 5, 12]) (.cond (.t 12) (.seq (.region 0 [.mk4 0 (some 13) (.mv (.t 0)) none,
    .mk4 1 (some 4) (.mv (.t 13)) none] [4]) (.ret)) (.skip))) (.seq (.seq (.region 0 [.mk4 0 (some 14) (.mv (.t 5)) none,
    .mk4 1 (some 15) (.bin .add (.t 14) (.c (.i 1))) none,
    .mk4 2 (some 6) (.mv (.t 15)) none] [0, 1, 5, 6]) (.block 0 (.loop [0, 1, 5, 6] (c182_2)))) (c182_3))
def c182 : AFn := ⟨2, 42, [.tmp 4],
  (.seq (.region 0 [.mk4 0 (some 4) (.mv (.c (.nils))) none] [0, 1]) (.seq (.region 0 [.mk4 0 (some 8) (.mv (.t 0)) none,
    .mk4 1 (some 9) (.mv (.t 1)) none,
    .mk4 2 (some 10) (.call 124 [(.t 8), (.t 9)]) none,
    .mk4 3 (some 5) (.mv (.t 10)) none] [0, 1, 5]) (c182_4)))⟩
def c183_0 : AC :=
  .seq (.region 0 [.mk4 0 (some 4) (.mv (.t 0)) none,
    .mk4 1 (some 5) (.call 188 [(.t 4)]) none,
    .mk4 2 (some 3) (.mv (.t 5)) none] [3]) (.seq (.region 0 [.mk4 0 (some 6) (.mv (.t 3)) none,
    .mk4 1 (some 7) (.call 189 [(.t 6)]) none] [3]) (.seq (.region 0 [.mk4 0 (some 8) (.mv (.t 3)) none,
    .mk4 1 (some 2) (.mv (.t 8)) none] [2]) (.ret)))
def c183 : AFn := ⟨1, 9, [.tmp 2],
  (.seq (.region 0 [.mk4 0 (some 2) (.mv (.c (.nils))) none] [0]) (c183_0))⟩
def c184 : AFn := ⟨1, 4, [.tmp 2],
  (.seq (.region 0 [.mk4 0 (some 1) (.box 1 (.t 0)) none,
    .mk4 1 (some 2) (.mv (.c (.nilfn))) none] [1]) (.seq (.region 0 [.mk4 0 (some 3) (.mkClo 190 [(.t 1)]) none,
    .mk4 1 (some 2) (.mv (.t 3)) none] [2]) (.ret)))⟩
def c185_0 : AC :=
  .seq (.region 0 [.mk4 0 (some 7) (.load1 (.t 1)) none,
    .mk4 1 (some 8) (.mv (.t 0)) none,
    .mk4 2 (some 9) (.call 178 [(.t 7), (.t 8)]) none,
    .mk4 3 (some 6) (.mv (.t 9)) none,
    .mk4 4 (some 10) (.extract (.t 6) 0) none,
    .mk4 5 (some 11) (.extract (.t 6) 1) none,
    .mk4 6 (some 4) (.alloc 5 [.i 0, .i 0, .i 0, .int .u64 0, .int .u64 0]) none,
    .mk4 7 none (.store 5 (.t 4) (.t 10)) none,
    .mk4 8 (some 5) (.mv (.t 11)) none] [5]) (.seq (.region 0 [.mk4 0 (some 12) (.mv (.t 5)) none,
    .mk4 1 (some 13) (.un .not (.t 12)) none,
    .mk4 2 (some 3) (.mv (.t 13)) none] [3]) (.ret))
def c185 : AFn := ⟨2, 14, [.tmp 3],
  (.seq (.region 0 [.mk4 0 (some 3) (.mv (.c (.bool false))) none] [0, 1]) (c185_0))⟩
def c186_0 : AC :=
  .seq (.seq (.region 0 [.mk4 0 (some 3) (.mv (.t 0)) none,
    .mk4 1 (some 4) (.eq .slice false (.t 3) (.c (.nils))) none] [0, 4]) (.cond (.t 4) (.seq (.region 0 [.mk4 0 (some 2) (.mv (.c (.nils))) none] [2]) (.ret)) (.skip))) (.seq (.region 0 [.mk4 0 (some 5) (.bslice 2 0 [] []) none,
    .mk4 1 (some 6) (.mv (.t 0)) none,
    .mk4 2 (some 7) (.append 2 16 (.t 5) (.t 6)) none,
    .mk4 3 (some 2) (.mv (.t 7)) none] [2]) (.ret))
def c186 : AFn := ⟨1, 8, [.tmp 2],
  (.seq (.region 0 [.mk4 0 (some 2) (.mv (.c (.nils))) none] [0]) (c186_0))⟩
def c187_0 : AC :=
  .rangeFunc (.t 6) [7] [2] (.region 0 [.mk4 0 (some 5) (.alloc 2 [.i 0, .i 0]) none,
    .mk4 1 none (.store 2 (.t 5) (.t 7)) none] [2, 5]) (.block 1 (.region 0 [.mk4 0 (some 8) (.load1 (.t 2)) none,
    .mk4 1 (some 9) (.loadN 2 (.t 5)) none,
    .mk4 2 (some 10) (.bslice 2 1 [.i 0, .i 0] [(0, (.t 9))]) none,
    .mk4 3 (some 11) (.append 2 16 (.t 8) (.t 10)) none,
    .mk4 4 none (.store 1 (.t 2) (.t 11)) none] []))
def c187_1 : AC :=
  .seq (.region 0 [.mk4 0 (some 2) (.box 1 (.t 0)) none,
    .mk4 1 (some 4) (.mv (.c (.nils))) none] [1, 2]) (.seq (.seq (.region 0 [.mk4 0 (some 6) (.mv (.t 1)) none] [2, 6]) (.block 0 (c187_0))) (.seq (.region 0 [.mk4 0 (some 12) (.load1 (.t 2)) none,
    .mk4 1 (some 4) (.mv (.t 12)) none] [4]) (.ret)))
def c187 : AFn := ⟨2, 13, [.tmp 4],
  (c187_1)⟩
def c188 : AFn := ⟨1, 5, [.tmp 2],
  (.seq (.region 0 [.mk4 0 (some 2) (.mv (.c (.nils))) none] [0]) (.seq (.region 0 [.mk4 0 (some 3) (.mv (.t 0)) none,
    .mk4 1 (some 4) (.call 191 [(.c (.nils)), (.t 3)]) none,
    .mk4 2 (some 2) (.mv (.t 4)) none] [2]) (.ret)))⟩
def c189_0 : AC :=
  .seq (.region 0 [.mk4 0 (some 3) (.mv (.t 0)) none,
    .mk4 1 (some 4) (.lenL (.t 3)) none,
    .mk4 2 (some 2) (.mv (.t 4)) none] [0, 2]) (.region 0 [.mk4 0 (some 5) (.mv (.t 0)) none,
    .mk4 1 (some 6) (.mv (.t 2)) none,
    .mk4 2 (some 7) (.mv (.t 2)) none,
    .mk4 3 (some 8) (.convInt .u64 (.t 7)) none,
    .mk4 4 (some 9) (.call 193 [(.t 8)]) none,
    .mk4 5 (some 10) (.call 192 [(.t 5), (.c (.i 0)), (.t 6), (.t 9)]) none] [])
def c189 : AFn := ⟨1, 11, [],
  (c189_0)⟩
def c190_0 : AC :=
  .seq (.region 0 [.mk4 0 (some 8) (.entry (.t 5)) none,
    .mk4 1 (some 9) (.extract (.t 8) 0) none,
    .mk4 2 (some 3) (.mv (.t 9)) none] [0, 3, 5]) (.seq (.region 0 [.mk4 0 (some 10) (.mv (.t 0)) none,
    .mk4 1 (some 11) (.mv (.t 3)) none,
    .mk4 2 (some 12) (.callv (.t 10) [(.t 11)]) none,
    .mk4 3 (some 13) (.un .not (.t 12)) none] [0, 5, 13]) (.cond (.t 13) (.ret) (.skip)))
def c190_1 : AC :=
  .seq (.region 0 [.mk4 0 (some 4) (.load1 (.t 1)) none,
    .mk4 1 (some 5) (.range false (.t 4)) none] [0, 5]) (.block 0 (.loop [0, 5] (.seq (.region 0 [.mk4 0 (some 6) (.next false (.t 5)) none,
    .mk4 1 (some 7) (.extract (.t 6) 0) none] [0, 5, 7]) (.seq (.cond (.t 7) (.skip) (.exit 0)) (.block 1 (c190_0))))))
def c190 : AFn := ⟨2, 14, [],
  (c190_1)⟩
def c191_0 : AC :=
  .rangeFunc (.t 6) [7] [2] (.region 0 [.mk4 0 (some 5) (.mv (.t 7)) none] [2, 5]) (.block 1 (.region 0 [.mk4 0 (some 8) (.load1 (.t 2)) none,
    .mk4 1 (some 9) (.mv (.t 5)) none,
    .mk4 2 (some 10) (.bslice 1 1 [.i 0] [(0, (.t 9))]) none,
    .mk4 3 (some 11) (.append 1 8 (.t 8) (.t 10)) none,
    .mk4 4 none (.store 1 (.t 2) (.t 11)) none] []))
def c191_1 : AC :=
  .seq (.region 0 [.mk4 0 (some 2) (.box 1 (.t 0)) none,
    .mk4 1 (some 4) (.mv (.c (.nils))) none] [1, 2]) (.seq (.seq (.region 0 [.mk4 0 (some 6) (.mv (.t 1)) none] [2, 6]) (.block 0 (c191_0))) (.seq (.region 0 [.mk4 0 (some 12) (.load1 (.t 2)) none,
    .mk4 1 (some 4) (.mv (.t 12)) none] [4]) (.ret)))
def c191 : AFn := ⟨2, 13, [.tmp 4],
  (c191_1)⟩
def c192_0 : AC :=
  .seq (.region 0 [.mk4 0 (some 117) (.mv (.t 0)) none,
    .mk4 1 (some 118) (.mv (.t 1)) none,
    .mk4 2 (some 119) (.mv (.t 14)) none,
    .mk4 3 (some 120) (.mv (.t 3)) none,
    .mk4 4 (some 121) (.call 192 [(.t 117), (.t 118), (.t 119), (.t 120)]) none] [0, 2, 3, 8, 9, 14]) (.region 0 [.mk4 0 (some 122) (.mv (.t 14)) none,
    .mk4 1 (some 123) (.bin .add (.t 122) (.c (.i 1))) none,
    .mk4 2 (some 1) (.mv (.t 123)) none] [0, 1, 2, 3, 8, 9])
def c192_1 : AC :=
  .seq (.region 0 [.mk4 0 (some 127) (.mv (.t 0)) none,
    .mk4 1 (some 128) (.mv (.t 14)) none,
    .mk4 2 (some 129) (.bin .add (.t 128) (.c (.i 1))) none,
    .mk4 3 (some 130) (.mv (.t 2)) none,
    .mk4 4 (some 131) (.mv (.t 3)) none,
    .mk4 5 (some 132) (.call 192 [(.t 127), (.t 129), (.t 130), (.t 131)]) none] [0, 1, 3, 8, 9, 14]) (.region 0 [.mk4 0 (some 133) (.mv (.t 14)) none,
    .mk4 1 (some 2) (.mv (.t 133)) none] [0, 1, 2, 3, 8, 9])
def c192_2 : AC :=
  .cond (.t 113) (.seq (.region 0 [.mk4 0 (some 114) (.mv (.t 16)) none,
    .mk4 1 (some 115) (.mv (.t 18)) none,
    .mk4 2 (some 116) (.bin .geq (.t 114) (.t 115)) none,
    .mk4 3 (some 8) (.mv (.t 116)) none] [0, 1, 2, 3, 8, 9, 14]) (c192_0)) (.seq (.region 0 [.mk4 0 (some 124) (.mv (.t 17)) none,
    .mk4 1 (some 125) (.mv (.t 18)) none,
    .mk4 2 (some 126) (.bin .geq (.t 124) (.t 125)) none,
    .mk4 3 (some 8) (.mv (.t 126)) none] [0, 1, 2, 3, 8, 9, 14]) (c192_1))
def c192_3 : AC :=
  .seq (.region 0 [.mk4 0 (some 109) (.mv (.t 10)) none,
    .mk4 1 (some 110) (.bin .quo (.t 109) (.c (.i 8))) none,
    .mk4 2 (some 18) (.mv (.t 110)) none] [0, 1, 2, 3, 9, 14, 16, 17, 18]) (.seq (.region 0 [.mk4 0 (some 111) (.mv (.t 16)) none,
    .mk4 1 (some 112) (.mv (.t 17)) none,
    .mk4 2 (some 113) (.bin .lss (.t 111) (.t 112)) none] [0, 1, 2, 3, 9, 14, 16, 17, 18, 113]) (c192_2))
def c192_4 : AC :=
  .seq (.region 0 [.mk4 0 (some 103) (.mv (.t 14)) none,
    .mk4 1 (some 104) (.mv (.t 1)) none,
    .mk4 2 (some 105) (.bin .sub (.t 103) (.t 104)) none,
    .mk4 3 (some 106) (.mv (.t 2)) none,
    .mk4 4 (some 107) (.mv (.t 14)) none,
    .mk4 5 (some 108) (.bin .sub (.t 106) (.t 107)) none,
    .mk4 6 (some 16) (.mv (.t 105)) none,
    .mk4 7 (some 17) (.mv (.t 108)) none] [0, 1, 2, 3, 9, 10, 14, 16, 17]) (c192_3)
def c192_5 : AC :=
  .seq (.region 0 [.mk4 0 (some 88) (.mv (.t 0)) none,
    .mk4 1 (some 89) (.mv (.t 1)) none,
    .mk4 2 (some 90) (.mv (.t 2)) none,
    .mk4 3 (some 91) (.mv (.t 11)) none,
    .mk4 4 (some 92) (.call 201 [(.t 88), (.t 89), (.t 90), (.t 91)]) none,
    .mk4 5 (some 13) (.mv (.t 92)) none] [0, 2, 3, 8, 9, 13]) (.seq (.region 0 [.mk4 0 (some 93) (.mv (.t 13)) none,
    .mk4 1 (some 1) (.mv (.t 93)) none] [0, 1, 2, 3, 8, 9]) (.exit 1))
def c192_6 : AC :=
  .seq (.region 0 [.mk4 0 (some 95) (.mv (.t 0)) none,
    .mk4 1 (some 96) (.mv (.t 1)) none,
    .mk4 2 (some 97) (.mv (.t 2)) none,
    .mk4 3 (some 98) (.mv (.t 11)) none,
    .mk4 4 (some 99) (.call 202 [(.t 95), (.t 96), (.t 97), (.t 98)]) none,
    .mk4 5 (some 94) (.mv (.t 99)) none,
    .mk4 6 (some 100) (.extract (.t 94) 0) none,
    .mk4 7 (some 101) (.extract (.t 94) 1) none,
    .mk4 8 (some 14) (.mv (.t 100)) none,
    .mk4 9 (some 15) (.mv (.t 101)) none] [0, 1, 2, 3, 10, 14, 15]) (.seq (.region 0 [.mk4 0 (some 102) (.mv (.t 15)) none,
    .mk4 1 (some 9) (.mv (.t 102)) none] [0, 1, 2, 3, 9, 10, 14]) (c192_4))
def c192_7 : AC :=
  .seq (.seq (.region 0 [.mk4 0 (some 73) (.mv (.t 1)) none,
    .mk4 1 (some 74) (.bin .gtr (.t 73) (.c (.i 0))) none,
    .mk4 2 (some 75) (.mv (.t 74)) none,
    .mk4 3 (some 76) (.mv (.t 0)) (some (75, true)),
    .mk4 4 (some 77) (.mv (.t 1)) (some (75, true)),
    .mk4 5 (some 78) (.bin .sub (.t 77) (.c (.i 1))) (some (75, true)),
    .mk4 6 (some 79) (.ixaS 1 (.t 76) (.t 78)) (some (75, true)),
    .mk4 7 (some 80) (.load1 (.t 79)) (some (75, true)),
    .mk4 8 (some 81) (.mv (.t 0)) (some (75, true)),
    .mk4 9 (some 82) (.mv (.t 11)) (some (75, true)),
    .mk4 10 (some 83) (.ixaS 1 (.t 81) (.t 82)) (some (75, true)),
    .mk4 11 (some 84) (.load1 (.t 83)) (some (75, true)),
    .mk4 12 (some 85) (.call 200 [(.t 80), (.t 84)]) (some (75, true)),
    .mk4 13 (some 86) (.un .not (.t 85)) (some (75, true)),
    .mk4 14 (some 87) (.pick (.t 75) (.t 86) (.c (.bool false))) none] [0, 1, 2, 3, 8, 9, 10, 11, 87]) (.cond (.t 87) (c192_5) (.skip))) (c192_6)
def c192_8 : AC :=
  .seq (.region 0 [.mk4 0 (some 55) (.mv (.t 2)) none,
    .mk4 1 (some 56) (.bin .sub (.t 55) (.c (.i 1))) none,
    .mk4 2 (some 57) (.mv (.t 11)) none,
    .mk4 3 (some 58) (.mv (.t 1)) none,
    .mk4 4 (some 59) (.bin .sub (.t 57) (.t 58)) none,
    .mk4 5 (some 60) (.bin .sub (.t 56) (.t 59)) none,
    .mk4 6 (some 11) (.mv (.t 60)) none] [0, 1, 2, 3, 8, 9, 10, 11]) (.region 0 [.mk4 0 (some 12) (.mv (.c (.i 1))) none] [0, 1, 2, 3, 8, 9, 10, 11, 12])
def c192_9 : AC :=
  .seq (.seq (.region 0 [.mk4 0 (some 61) (.mv (.t 8)) none,
    .mk4 1 (some 62) (.mv (.t 61)) none,
    .mk4 2 (some 63) (.mv (.t 9)) (some (62, true)),
    .mk4 3 (some 64) (.pick (.t 62) (.t 63) (.c (.bool false))) none,
    .mk4 4 (some 65) (.mv (.t 64)) none,
    .mk4 5 (some 66) (.mv (.t 12)) (some (65, true)),
    .mk4 6 (some 67) (.bin .eql (.t 66) (.c (.i 1))) (some (65, true)),
    .mk4 7 (some 68) (.pick (.t 65) (.t 67) (.c (.bool false))) none] [0, 1, 2, 3, 8, 9, 10, 11, 68]) (.cond (.t 68) (.seq (.region 0 [.mk4 0 (some 69) (.mv (.t 0)) none,
    .mk4 1 (some 70) (.mv (.t 1)) none,
    .mk4 2 (some 71) (.mv (.t 2)) none,
    .mk4 3 (some 72) (.call 199 [(.t 69), (.t 70), (.t 71)]) none] [0, 1, 2, 3, 8, 9, 10, 11, 72]) (.cond (.t 72) (.ret) (.skip))) (.skip))) (c192_7)
def c192_10 : AC :=
  .seq (.seq (.region 0 [.mk4 0 (some 49) (.mv (.t 12)) none,
    .mk4 1 (some 50) (.bin .eql (.t 49) (.c (.i 2))) none] [0, 1, 2, 3, 8, 9, 10, 11, 12, 50]) (.cond (.t 50) (.seq (.region 0 [.mk4 0 (some 51) (.mv (.t 0)) none,
    .mk4 1 (some 52) (.mv (.t 1)) none,
    .mk4 2 (some 53) (.mv (.t 2)) none,
    .mk4 3 (some 54) (.call 198 [(.t 51), (.t 52), (.t 53)]) none] [0, 1, 2, 3, 8, 9, 10, 11]) (c192_8)) (.skip))) (c192_9)
def c192_11 : AC :=
  .seq (.region 0 [.mk4 0 (some 36) (.mv (.t 0)) none,
    .mk4 1 (some 37) (.mv (.t 1)) none,
    .mk4 2 (some 38) (.mv (.t 2)) none,
    .mk4 3 (some 39) (.call 196 [(.t 36), (.t 37), (.t 38)]) none] [0, 1, 2, 3, 8, 9, 10]) (.region 0 [.mk4 0 (some 40) (.mv (.t 3)) none,
    .mk4 1 (some 41) (.bin .sub (.t 40) (.c (.i 1))) none,
    .mk4 2 (some 3) (.mv (.t 41)) none] [0, 1, 2, 3, 8, 9, 10])
def c192_12 : AC :=
  .seq (.region 0 [.mk4 0 (some 43) (.mv (.t 0)) none,
    .mk4 1 (some 44) (.mv (.t 1)) none,
    .mk4 2 (some 45) (.mv (.t 2)) none,
    .mk4 3 (some 46) (.call 197 [(.t 43), (.t 44), (.t 45)]) none,
    .mk4 4 (some 42) (.mv (.t 46)) none,
    .mk4 5 (some 47) (.extract (.t 42) 0) none,
    .mk4 6 (some 48) (.extract (.t 42) 1) none,
    .mk4 7 (some 11) (.mv (.t 47)) none,
    .mk4 8 (some 12) (.mv (.t 48)) none] [0, 1, 2, 3, 8, 9, 10, 11, 12]) (c192_10)
def c192_13 : AC :=
  .seq (.seq (.region 0 [.mk4 0 (some 28) (.mv (.t 3)) none,
    .mk4 1 (some 29) (.bin .eql (.t 28) (.c (.i 0))) none] [0, 1, 2, 3, 8, 9, 10, 29]) (.cond (.t 29) (.seq (.region 0 [.mk4 0 (some 30) (.mv (.t 0)) none,
    .mk4 1 (some 31) (.mv (.t 1)) none,
    .mk4 2 (some 32) (.mv (.t 2)) none,
    .mk4 3 (some 33) (.call 195 [(.t 30), (.t 31), (.t 32)]) none] []) (.ret)) (.skip))) (.seq (.seq (.region 0 [.mk4 0 (some 34) (.mv (.t 8)) none,
    .mk4 1 (some 35) (.un .not (.t 34)) none] [0, 1, 2, 3, 8, 9, 10, 35]) (.cond (.t 35) (c192_11) (.skip))) (c192_12))
def c192_14 : AC :=
  .seq (.seq (.region 0 [.mk4 0 (some 22) (.mv (.t 10)) none,
    .mk4 1 (some 23) (.bin .leq (.t 22) (.c (.i 12))) none] [0, 1, 2, 3, 8, 9, 10, 23]) (.cond (.t 23) (.seq (.region 0 [.mk4 0 (some 24) (.mv (.t 0)) none,
    .mk4 1 (some 25) (.mv (.t 1)) none,
    .mk4 2 (some 26) (.mv (.t 2)) none,
    .mk4 3 (some 27) (.call 194 [(.t 24), (.t 25), (.t 26)]) none] []) (.ret)) (.skip))) (c192_13)
def c192_15 : AC :=
  .seq (.region 0 [.mk4 0 (some 9) (.mv (.c (.bool true))) none] [0, 1, 2, 3, 8, 9]) (.block 0 (.loop [0, 1, 2, 3, 8, 9] (.block 1 (.seq (.region 0 [.mk4 0 (some 19) (.mv (.t 2)) none,
    .mk4 1 (some 20) (.mv (.t 1)) none,
    .mk4 2 (some 21) (.bin .sub (.t 19) (.t 20)) none,
    .mk4 3 (some 10) (.mv (.t 21)) none] [0, 1, 2, 3, 8, 9, 10]) (c192_14)))))
def c192 : AFn := ⟨4, 134, [],
  (.seq (.region 0 [.mk4 0 (some 8) (.mv (.c (.bool true))) none] [0, 1, 2, 3, 8]) (c192_15))⟩
def c193_0 : AC :=
  .seq (.cond (.c (.bool false)) (.seq (.region 0 [.mk4 0 (some 3) (.mv (.t 0)) none,
    .mk4 1 (some 4) (.convInt .u32 (.t 3)) none,
    .mk4 2 (some 5) (.call 203 [(.t 4)]) none,
    .mk4 3 (some 2) (.mv (.t 5)) none] [2]) (.ret)) (.skip)) (.seq (.region 0 [.mk4 0 (some 6) (.mv (.t 0)) none,
    .mk4 1 (some 7) (.call 204 [(.t 6)]) none,
    .mk4 2 (some 2) (.mv (.t 7)) none] [2]) (.ret))
def c193 : AFn := ⟨1, 8, [.tmp 2],
  (.seq (.region 0 [.mk4 0 (some 2) (.mv (.c (.i 0))) none] [0]) (c193_0))⟩
def c194_0 : AC :=
  .region 0 [.mk4 0 (some 33) (.mv (.t 0)) none,
    .mk4 1 (some 34) (.mv (.t 7)) none,
    .mk4 2 (some 35) (.mv (.t 0)) none,
    .mk4 3 (some 36) (.mv (.t 7)) none,
    .mk4 4 (some 37) (.bin .sub (.t 36) (.c (.i 1))) none,
    .mk4 5 (some 38) (.mv (.t 0)) none,
    .mk4 6 (some 39) (.mv (.t 7)) none,
    .mk4 7 (some 40) (.bin .sub (.t 39) (.c (.i 1))) none,
    .mk4 8 (some 41) (.ixaS 1 (.t 38) (.t 40)) none,
    .mk4 9 (some 42) (.load1 (.t 41)) none,
    .mk4 10 (some 43) (.mv (.t 0)) none,
    .mk4 11 (some 44) (.mv (.t 7)) none,
    .mk4 12 (some 45) (.ixaS 1 (.t 43) (.t 44)) none,
    .mk4 13 (some 46) (.load1 (.t 45)) none,
    .mk4 14 (some 47) (.ixaS 1 (.t 33) (.t 34)) none,
    .mk4 15 none (.store 1 (.t 47) (.t 42)) none,
    .mk4 16 (some 48) (.ixaS 1 (.t 35) (.t 37)) none,
    .mk4 17 none (.store 1 (.t 48) (.t 46)) none] [0, 1, 2, 6, 7]
def c194_1 : AC :=
  .seq (.seq (.region 0 [.mk4 0 (some 16) (.mv (.t 7)) none,
    .mk4 1 (some 17) (.mv (.t 1)) none,
    .mk4 2 (some 18) (.bin .gtr (.t 16) (.t 17)) none,
    .mk4 3 (some 19) (.mv (.t 18)) none,
    .mk4 4 (some 20) (.mv (.t 0)) (some (19, true)),
    .mk4 5 (some 21) (.mv (.t 7)) (some (19, true)),
    .mk4 6 (some 22) (.ixaS 1 (.t 20) (.t 21)) (some (19, true)),
    .mk4 7 (some 23) (.load1 (.t 22)) (some (19, true)),
    .mk4 8 (some 24) (.mv (.t 0)) (some (19, true)),
    .mk4 9 (some 25) (.mv (.t 7)) (some (19, true)),
    .mk4 10 (some 26) (.bin .sub (.t 25) (.c (.i 1))) (some (19, true)),
    .mk4 11 (some 27) (.ixaS 1 (.t 24) (.t 26)) (some (19, true)),
    .mk4 12 (some 28) (.load1 (.t 27)) (some (19, true)),
    .mk4 13 (some 29) (.call 200 [(.t 23), (.t 28)]) (some (19, true)),
    .mk4 14 (some 30) (.pick (.t 19) (.t 29) (.c (.bool false))) none] [0, 1, 2, 6, 7, 30]) (.cond (.t 30) (.skip) (.exit 2))) (.seq (.block 3 (c194_0)) (.region 0 [.mk4 0 (some 31) (.mv (.t 7)) none,
    .mk4 1 (some 32) (.bin .sub (.t 31) (.c (.i 1))) none,
    .mk4 2 (some 7) (.mv (.t 32)) none] [0, 1, 2, 6, 7]))
def c194_2 : AC :=
  .seq (.block 1 (.seq (.region 0 [.mk4 0 (some 15) (.mv (.t 6)) none,
    .mk4 1 (some 7) (.mv (.t 15)) none] [0, 1, 2, 6, 7]) (.block 2 (.loop [0, 1, 2, 6, 7] (c194_1))))) (.region 0 [.mk4 0 (some 13) (.mv (.t 6)) none,
    .mk4 1 (some 14) (.bin .add (.t 13) (.c (.i 1))) none,
    .mk4 2 (some 6) (.mv (.t 14)) none] [0, 1, 2, 6])
def c194_3 : AC :=
  .seq (.region 0 [.mk4 0 (some 8) (.mv (.t 1)) none,
    .mk4 1 (some 9) (.bin .add (.t 8) (.c (.i 1))) none,
    .mk4 2 (some 6) (.mv (.t 9)) none] [0, 1, 2, 6]) (.block 0 (.loop [0, 1, 2, 6] (.seq (.seq (.region 0 [.mk4 0 (some 10) (.mv (.t 6)) none,
    .mk4 1 (some 11) (.mv (.t 2)) none,
    .mk4 2 (some 12) (.bin .lss (.t 10) (.t 11)) none] [0, 1, 2, 6, 12]) (.cond (.t 12) (.skip) (.exit 0))) (c194_2))))
def c194 : AFn := ⟨3, 49, [],
  (c194_3)⟩
def c195_0 : AC :=
  .seq (.region 0 [.mk4 0 (some 33) (.mv (.t 0)) none,
    .mk4 1 (some 34) (.mv (.t 6)) none,
    .mk4 2 (some 35) (.mv (.t 0)) none,
    .mk4 3 (some 36) (.mv (.t 6)) none,
    .mk4 4 (some 37) (.mv (.t 10)) none,
    .mk4 5 (some 38) (.bin .add (.t 36) (.t 37)) none,
    .mk4 6 (some 39) (.mv (.t 0)) none,
    .mk4 7 (some 40) (.mv (.t 6)) none,
    .mk4 8 (some 41) (.mv (.t 10)) none,
    .mk4 9 (some 42) (.bin .add (.t 40) (.t 41)) none,
    .mk4 10 (some 43) (.ixaS 1 (.t 39) (.t 42)) none,
    .mk4 11 (some 44) (.load1 (.t 43)) none,
    .mk4 12 (some 45) (.mv (.t 0)) none,
    .mk4 13 (some 46) (.mv (.t 6)) none,
    .mk4 14 (some 47) (.ixaS 1 (.t 45) (.t 46)) none,
    .mk4 15 (some 48) (.load1 (.t 47)) none,
    .mk4 16 (some 49) (.ixaS 1 (.t 33) (.t 34)) none,
    .mk4 17 none (.store 1 (.t 49) (.t 44)) none,
    .mk4 18 (some 50) (.ixaS 1 (.t 35) (.t 38)) none,
    .mk4 19 none (.store 1 (.t 50) (.t 48)) none] [0, 6, 7, 10]) (.region 0 [.mk4 0 (some 51) (.mv (.t 0)) none,
    .mk4 1 (some 52) (.mv (.t 7)) none,
    .mk4 2 (some 53) (.mv (.t 10)) none,
    .mk4 3 (some 54) (.mv (.t 6)) none,
    .mk4 4 (some 55) (.call 205 [(.t 51), (.t 52), (.t 53), (.t 54)]) none] [0, 6, 7, 10])
def c195_1 : AC :=
  .seq (.seq (.region 0 [.mk4 0 (some 29) (.mv (.t 10)) none,
    .mk4 1 (some 30) (.bin .geq (.t 29) (.c (.i 0))) none] [0, 6, 7, 10, 30]) (.cond (.t 30) (.skip) (.exit 2))) (.seq (.block 3 (c195_0)) (.region 0 [.mk4 0 (some 31) (.mv (.t 10)) none,
    .mk4 1 (some 32) (.bin .sub (.t 31) (.c (.i 1))) none,
    .mk4 2 (some 10) (.mv (.t 32)) none] [0, 6, 7, 10]))
def c195_2 : AC :=
  .seq (.block 1 (.region 0 [.mk4 0 (some 22) (.mv (.t 0)) none,
    .mk4 1 (some 23) (.mv (.t 9)) none,
    .mk4 2 (some 24) (.mv (.t 8)) none,
    .mk4 3 (some 25) (.mv (.t 6)) none,
    .mk4 4 (some 26) (.call 205 [(.t 22), (.t 23), (.t 24), (.t 25)]) none] [0, 6, 7, 8, 9])) (.region 0 [.mk4 0 (some 20) (.mv (.t 9)) none,
    .mk4 1 (some 21) (.bin .sub (.t 20) (.c (.i 1))) none,
    .mk4 2 (some 9) (.mv (.t 21)) none] [0, 6, 7, 8, 9])
def c195_3 : AC :=
  .seq (.seq (.region 0 [.mk4 0 (some 15) (.mv (.t 8)) none,
    .mk4 1 (some 16) (.bin .sub (.t 15) (.c (.i 1))) none,
    .mk4 2 (some 17) (.bin .quo (.t 16) (.c (.i 2))) none,
    .mk4 3 (some 9) (.mv (.t 17)) none] [0, 6, 7, 8, 9]) (.block 0 (.loop [0, 6, 7, 8, 9] (.seq (.seq (.region 0 [.mk4 0 (some 18) (.mv (.t 9)) none,
    .mk4 1 (some 19) (.bin .geq (.t 18) (.c (.i 0))) none] [0, 6, 7, 8, 9, 19]) (.cond (.t 19) (.skip) (.exit 0))) (c195_2))))) (.seq (.region 0 [.mk4 0 (some 27) (.mv (.t 8)) none,
    .mk4 1 (some 28) (.bin .sub (.t 27) (.c (.i 1))) none,
    .mk4 2 (some 10) (.mv (.t 28)) none] [0, 6, 7, 10]) (.block 2 (.loop [0, 6, 7, 10] (c195_1))))
def c195_4 : AC :=
  .seq (.region 0 [.mk4 0 (some 11) (.mv (.t 1)) none,
    .mk4 1 (some 6) (.mv (.t 11)) none] [0, 1, 2, 6]) (.seq (.region 0 [.mk4 0 (some 7) (.mv (.c (.i 0))) none] [0, 1, 2, 6, 7]) (.seq (.region 0 [.mk4 0 (some 12) (.mv (.t 2)) none,
    .mk4 1 (some 13) (.mv (.t 1)) none,
    .mk4 2 (some 14) (.bin .sub (.t 12) (.t 13)) none,
    .mk4 3 (some 8) (.mv (.t 14)) none] [0, 6, 7, 8]) (c195_3)))
def c195 : AFn := ⟨3, 56, [],
  (c195_4)⟩
def c196_0 : AC :=
  .region 0 [.mk4 0 (some 47) (.mv (.t 0)) none,
    .mk4 1 (some 48) (.mv (.t 9)) none,
    .mk4 2 (some 49) (.mv (.t 0)) none,
    .mk4 3 (some 50) (.mv (.t 1)) none,
    .mk4 4 (some 51) (.mv (.t 10)) none,
    .mk4 5 (some 52) (.bin .add (.t 50) (.t 51)) none,
    .mk4 6 (some 53) (.mv (.t 0)) none,
    .mk4 7 (some 54) (.mv (.t 1)) none,
    .mk4 8 (some 55) (.mv (.t 10)) none,
    .mk4 9 (some 56) (.bin .add (.t 54) (.t 55)) none,
    .mk4 10 (some 57) (.ixaS 1 (.t 53) (.t 56)) none,
    .mk4 11 (some 58) (.load1 (.t 57)) none,
    .mk4 12 (some 59) (.mv (.t 0)) none,
    .mk4 13 (some 60) (.mv (.t 9)) none,
    .mk4 14 (some 61) (.ixaS 1 (.t 59) (.t 60)) none,
    .mk4 15 (some 62) (.load1 (.t 61)) none,
    .mk4 16 (some 63) (.ixaS 1 (.t 47) (.t 48)) none,
    .mk4 17 none (.store 1 (.t 63) (.t 58)) none,
    .mk4 18 (some 64) (.ixaS 1 (.t 49) (.t 52)) none,
    .mk4 19 none (.store 1 (.t 64) (.t 62)) none] [0, 1, 6, 7, 8, 9]
def c196_1 : AC :=
  .seq (.seq (.region 0 [.mk4 0 (some 41) (.mv (.t 10)) none,
    .mk4 1 (some 42) (.mv (.t 6)) none,
    .mk4 2 (some 43) (.bin .geq (.t 41) (.t 42)) none] [0, 1, 6, 7, 8, 9, 10, 43]) (.cond (.t 43) (.region 0 [.mk4 0 (some 44) (.mv (.t 10)) none,
    .mk4 1 (some 45) (.mv (.t 6)) none,
    .mk4 2 (some 46) (.bin .sub (.t 44) (.t 45)) none,
    .mk4 3 (some 10) (.mv (.t 46)) none] [0, 1, 6, 7, 8, 9, 10]) (.skip))) (c196_0)
def c196_2 : AC :=
  .seq (.region 0 [.mk4 0 (some 36) (.call 207 [(.t 7)]) none,
    .mk4 1 (some 37) (.mv (.t 8)) none,
    .mk4 2 (some 38) (.bin .sub (.t 37) (.c (.int .u64 1))) none,
    .mk4 3 (some 39) (.bin .and (.t 36) (.t 38)) none,
    .mk4 4 (some 40) (.convInt .i64 (.t 39)) none,
    .mk4 5 (some 10) (.mv (.t 40)) none] [0, 1, 6, 7, 8, 9, 10]) (c196_1)
def c196_3 : AC :=
  .seq (.seq (.region 0 [.mk4 0 (some 26) (.mv (.t 9)) none,
    .mk4 1 (some 27) (.mv (.t 1)) none,
    .mk4 2 (some 28) (.mv (.t 6)) none,
    .mk4 3 (some 29) (.bin .quo (.t 28) (.c (.i 4))) none,
    .mk4 4 (some 30) (.bin .mul (.t 29) (.c (.i 2))) none,
    .mk4 5 (some 31) (.bin .add (.t 27) (.t 30)) none,
    .mk4 6 (some 32) (.bin .add (.t 31) (.c (.i 1))) none,
    .mk4 7 (some 33) (.bin .leq (.t 26) (.t 32)) none] [0, 1, 6, 7, 8, 9, 33]) (.cond (.t 33) (.skip) (.exit 0))) (.seq (.block 1 (c196_2)) (.region 0 [.mk4 0 (some 34) (.mv (.t 9)) none,
    .mk4 1 (some 35) (.bin .add (.t 34) (.c (.i 1))) none,
    .mk4 2 (some 9) (.mv (.t 35)) none] [0, 1, 6, 7, 8, 9]))
def c196_4 : AC :=
  .seq (.region 0 [.mk4 0 (some 20) (.mv (.t 1)) none,
    .mk4 1 (some 21) (.mv (.t 6)) none,
    .mk4 2 (some 22) (.bin .quo (.t 21) (.c (.i 4))) none,
    .mk4 3 (some 23) (.bin .mul (.t 22) (.c (.i 2))) none,
    .mk4 4 (some 24) (.bin .add (.t 20) (.t 23)) none,
    .mk4 5 (some 25) (.bin .sub (.t 24) (.c (.i 1))) none,
    .mk4 6 (some 9) (.mv (.t 25)) none] [0, 1, 6, 7, 8, 9]) (.block 0 (.loop [0, 1, 6, 7, 8, 9] (c196_3)))
def c196_5 : AC :=
  .seq (.region 0 [.mk4 0 (some 16) (.mv (.t 6)) none,
    .mk4 1 (some 17) (.convInt .u64 (.t 16)) none,
    .mk4 2 (some 7) (.alloc 1 [.int .u64 0]) none,
    .mk4 3 none (.store 1 (.t 7) (.t 17)) none] [0, 1, 6, 7]) (.seq (.region 0 [.mk4 0 (some 18) (.mv (.t 6)) none,
    .mk4 1 (some 19) (.call 206 [(.t 18)]) none,
    .mk4 2 (some 8) (.mv (.t 19)) none] [0, 1, 6, 7, 8]) (c196_4))
def c196_6 : AC :=
  .seq (.region 0 [.mk4 0 (some 11) (.mv (.t 2)) none,
    .mk4 1 (some 12) (.mv (.t 1)) none,
    .mk4 2 (some 13) (.bin .sub (.t 11) (.t 12)) none,
    .mk4 3 (some 6) (.mv (.t 13)) none] [0, 1, 6]) (.seq (.region 0 [.mk4 0 (some 14) (.mv (.t 6)) none,
    .mk4 1 (some 15) (.bin .geq (.t 14) (.c (.i 8))) none] [0, 1, 6, 15]) (.cond (.t 15) (c196_5) (.skip)))
def c196 : AFn := ⟨3, 65, [],
  (c196_6)⟩
def c197_0 : AC :=
  .cond (.t 54) (.seq (.region 0 [.mk4 0 (some 56) (.mv (.t 11)) none,
    .mk4 1 (some 6) (.mv (.t 56)) none,
    .mk4 2 (some 7) (.mv (.c (.i 2))) none] [6, 7]) (.ret)) (.seq (.region 0 [.mk4 0 (some 50) (.mv (.t 11)) none,
    .mk4 1 (some 6) (.mv (.t 50)) none,
    .mk4 2 (some 7) (.mv (.c (.i 0))) none] [6, 7]) (.ret))
def c197_1 : AC :=
  .cond (.t 51) (.seq (.region 0 [.mk4 0 (some 53) (.mv (.t 11)) none,
    .mk4 1 (some 6) (.mv (.t 53)) none,
    .mk4 2 (some 7) (.mv (.c (.i 1))) none] [6, 7]) (.ret)) (.seq (.region 0 [.mk4 0 (some 55) (.bin .eql (.t 49) (.c (.i 12))) none,
    .mk4 1 (some 54) (.mv (.t 55)) none] [11, 54]) (c197_0))
def c197_2 : AC :=
  .seq (.region 0 [.mk4 0 (some 38) (.mv (.t 0)) none,
    .mk4 1 (some 39) (.mv (.t 11)) none,
    .mk4 2 (some 40) (.call 208 [(.t 38), (.t 39), (.t 9)]) none,
    .mk4 3 (some 11) (.mv (.t 40)) none] [0, 9, 10, 11, 12]) (.region 0 [.mk4 0 (some 41) (.mv (.t 0)) none,
    .mk4 1 (some 42) (.mv (.t 12)) none,
    .mk4 2 (some 43) (.call 208 [(.t 41), (.t 42), (.t 9)]) none,
    .mk4 3 (some 12) (.mv (.t 43)) none] [0, 9, 10, 11, 12])
def c197_3 : AC :=
  .region 0 [.mk4 0 (some 44) (.mv (.t 0)) none,
    .mk4 1 (some 45) (.mv (.t 10)) none,
    .mk4 2 (some 46) (.mv (.t 11)) none,
    .mk4 3 (some 47) (.mv (.t 12)) none,
    .mk4 4 (some 48) (.call 209 [(.t 44), (.t 45), (.t 46), (.t 47), (.t 9)]) none,
    .mk4 5 (some 11) (.mv (.t 48)) none] [9, 11]
def c197_4 : AC :=
  .seq (.seq (.region 0 [.mk4 0 (some 33) (.mv (.t 8)) none,
    .mk4 1 (some 34) (.bin .geq (.t 33) (.c (.i 50))) none] [0, 9, 10, 11, 12, 34]) (.cond (.t 34) (.seq (.region 0 [.mk4 0 (some 35) (.mv (.t 0)) none,
    .mk4 1 (some 36) (.mv (.t 10)) none,
    .mk4 2 (some 37) (.call 208 [(.t 35), (.t 36), (.t 9)]) none,
    .mk4 3 (some 10) (.mv (.t 37)) none] [0, 9, 10, 11, 12]) (c197_2)) (.skip))) (c197_3)
def c197_5 : AC :=
  .seq (.seq (.region 0 [.mk4 0 (some 31) (.mv (.t 8)) none,
    .mk4 1 (some 32) (.bin .geq (.t 31) (.c (.i 8))) none] [0, 8, 9, 10, 11, 12, 32]) (.cond (.t 32) (c197_4) (.skip))) (.seq (.region 0 [.mk4 0 (some 49) (.load1 (.t 9)) none] [11, 49]) (.block 0 (.seq (.region 0 [.mk4 0 (some 52) (.bin .eql (.t 49) (.c (.i 0))) none,
    .mk4 1 (some 51) (.mv (.t 52)) none] [11, 49, 51]) (c197_1))))
def c197_6 : AC :=
  .seq (.region 0 [.mk4 0 (some 26) (.mv (.t 1)) none,
    .mk4 1 (some 27) (.mv (.t 8)) none,
    .mk4 2 (some 28) (.bin .quo (.t 27) (.c (.i 4))) none,
    .mk4 3 (some 29) (.bin .mul (.t 28) (.c (.i 3))) none,
    .mk4 4 (some 30) (.bin .add (.t 26) (.t 29)) none,
    .mk4 5 (some 12) (.mv (.t 30)) none] [0, 8, 9, 10, 11, 12]) (c197_5)
def c197_7 : AC :=
  .seq (.region 0 [.mk4 0 (some 21) (.mv (.t 1)) none,
    .mk4 1 (some 22) (.mv (.t 8)) none,
    .mk4 2 (some 23) (.bin .quo (.t 22) (.c (.i 4))) none,
    .mk4 3 (some 24) (.bin .mul (.t 23) (.c (.i 2))) none,
    .mk4 4 (some 25) (.bin .add (.t 21) (.t 24)) none,
    .mk4 5 (some 11) (.mv (.t 25)) none] [0, 1, 8, 9, 10, 11]) (c197_6)
def c197_8 : AC :=
  .seq (.region 0 [.mk4 0 (some 16) (.mv (.t 1)) none,
    .mk4 1 (some 17) (.mv (.t 8)) none,
    .mk4 2 (some 18) (.bin .quo (.t 17) (.c (.i 4))) none,
    .mk4 3 (some 19) (.bin .mul (.t 18) (.c (.i 1))) none,
    .mk4 4 (some 20) (.bin .add (.t 16) (.t 19)) none,
    .mk4 5 (some 10) (.mv (.t 20)) none] [0, 1, 8, 9, 10]) (c197_7)
def c197_9 : AC :=
  .seq (.region 0 [.mk4 0 (some 6) (.mv (.c (.i 0))) none,
    .mk4 1 (some 7) (.mv (.c (.i 0))) none] [0, 1, 2]) (.seq (.region 0 [.mk4 0 (some 13) (.mv (.t 2)) none,
    .mk4 1 (some 14) (.mv (.t 1)) none,
    .mk4 2 (some 15) (.bin .sub (.t 13) (.t 14)) none,
    .mk4 3 (some 8) (.mv (.t 15)) none] [0, 1, 8]) (.seq (.region 0 [.mk4 0 (some 9) (.alloc 1 [.i 0]) none] [0, 1, 8, 9]) (c197_8)))
def c197 : AFn := ⟨3, 57, [.tmp 6, .tmp 7],
  (c197_9)⟩
def c198_0 : AC :=
  .seq (.region 0 [.mk4 0 (some 28) (.mv (.t 6)) none,
    .mk4 1 (some 29) (.bin .add (.t 28) (.c (.i 1))) none,
    .mk4 2 (some 6) (.mv (.t 29)) none] [0, 6, 7]) (.region 0 [.mk4 0 (some 30) (.mv (.t 7)) none,
    .mk4 1 (some 31) (.bin .sub (.t 30) (.c (.i 1))) none,
    .mk4 2 (some 7) (.mv (.t 31)) none] [0, 6, 7])
def c198_1 : AC :=
  .seq (.region 0 [.mk4 0 (some 14) (.mv (.t 0)) none,
    .mk4 1 (some 15) (.mv (.t 6)) none,
    .mk4 2 (some 16) (.mv (.t 0)) none,
    .mk4 3 (some 17) (.mv (.t 7)) none,
    .mk4 4 (some 18) (.mv (.t 0)) none,
    .mk4 5 (some 19) (.mv (.t 7)) none,
    .mk4 6 (some 20) (.ixaS 1 (.t 18) (.t 19)) none,
    .mk4 7 (some 21) (.load1 (.t 20)) none,
    .mk4 8 (some 22) (.mv (.t 0)) none,
    .mk4 9 (some 23) (.mv (.t 6)) none,
    .mk4 10 (some 24) (.ixaS 1 (.t 22) (.t 23)) none,
    .mk4 11 (some 25) (.load1 (.t 24)) none,
    .mk4 12 (some 26) (.ixaS 1 (.t 14) (.t 15)) none,
    .mk4 13 none (.store 1 (.t 26) (.t 21)) none,
    .mk4 14 (some 27) (.ixaS 1 (.t 16) (.t 17)) none,
    .mk4 15 none (.store 1 (.t 27) (.t 25)) none] [0, 6, 7]) (c198_0)
def c198_2 : AC :=
  .seq (.region 0 [.mk4 0 (some 9) (.mv (.t 2)) none,
    .mk4 1 (some 10) (.bin .sub (.t 9) (.c (.i 1))) none,
    .mk4 2 (some 7) (.mv (.t 10)) none] [0, 6, 7]) (.block 0 (.loop [0, 6, 7] (.seq (.seq (.region 0 [.mk4 0 (some 11) (.mv (.t 6)) none,
    .mk4 1 (some 12) (.mv (.t 7)) none,
    .mk4 2 (some 13) (.bin .lss (.t 11) (.t 12)) none] [0, 6, 7, 13]) (.cond (.t 13) (.skip) (.exit 0))) (.block 1 (c198_1)))))
def c198 : AFn := ⟨3, 32, [],
  (.seq (.region 0 [.mk4 0 (some 8) (.mv (.t 1)) none,
    .mk4 1 (some 6) (.mv (.t 8)) none] [0, 2, 6]) (c198_2))⟩
def c199_0 : AC :=
  .region 0 [.mk4 0 (some 117) (.mv (.t 0)) none,
    .mk4 1 (some 118) (.mv (.t 10)) none,
    .mk4 2 (some 119) (.mv (.t 0)) none,
    .mk4 3 (some 120) (.mv (.t 10)) none,
    .mk4 4 (some 121) (.bin .sub (.t 120) (.c (.i 1))) none,
    .mk4 5 (some 122) (.mv (.t 0)) none,
    .mk4 6 (some 123) (.mv (.t 10)) none,
    .mk4 7 (some 124) (.bin .sub (.t 123) (.c (.i 1))) none,
    .mk4 8 (some 125) (.ixaS 1 (.t 122) (.t 124)) none,
    .mk4 9 (some 126) (.load1 (.t 125)) none,
    .mk4 10 (some 127) (.mv (.t 0)) none,
    .mk4 11 (some 128) (.mv (.t 10)) none,
    .mk4 12 (some 129) (.ixaS 1 (.t 127) (.t 128)) none,
    .mk4 13 (some 130) (.load1 (.t 129)) none,
    .mk4 14 (some 131) (.ixaS 1 (.t 117) (.t 118)) none,
    .mk4 15 none (.store 1 (.t 131) (.t 126)) none,
    .mk4 16 (some 132) (.ixaS 1 (.t 119) (.t 121)) none,
    .mk4 17 none (.store 1 (.t 132) (.t 130)) none] [0, 1, 2, 7, 8, 10]
def c199_1 : AC :=
  .seq (.seq (.region 0 [.mk4 0 (some 106) (.mv (.t 0)) none,
    .mk4 1 (some 107) (.mv (.t 10)) none,
    .mk4 2 (some 108) (.ixaS 1 (.t 106) (.t 107)) none,
    .mk4 3 (some 109) (.load1 (.t 108)) none,
    .mk4 4 (some 110) (.mv (.t 0)) none,
    .mk4 5 (some 111) (.mv (.t 10)) none,
    .mk4 6 (some 112) (.bin .sub (.t 111) (.c (.i 1))) none,
    .mk4 7 (some 113) (.ixaS 1 (.t 110) (.t 112)) none,
    .mk4 8 (some 114) (.load1 (.t 113)) none,
    .mk4 9 (some 115) (.call 200 [(.t 109), (.t 114)]) none,
    .mk4 10 (some 116) (.un .not (.t 115)) none] [0, 1, 2, 7, 8, 10, 116]) (.cond (.t 116) (.exit 6) (.skip))) (c199_0)
def c199_2 : AC :=
  .seq (.seq (.region 0 [.mk4 0 (some 101) (.mv (.t 10)) none,
    .mk4 1 (some 102) (.mv (.t 2)) none,
    .mk4 2 (some 103) (.bin .lss (.t 101) (.t 102)) none] [0, 1, 2, 7, 8, 10, 103]) (.cond (.t 103) (.skip) (.exit 6))) (.seq (.block 7 (c199_1)) (.region 0 [.mk4 0 (some 104) (.mv (.t 10)) none,
    .mk4 1 (some 105) (.bin .add (.t 104) (.c (.i 1))) none,
    .mk4 2 (some 10) (.mv (.t 105)) none] [0, 1, 2, 7, 8, 10]))
def c199_3 : AC :=
  .region 0 [.mk4 0 (some 79) (.mv (.t 0)) none,
    .mk4 1 (some 80) (.mv (.t 9)) none,
    .mk4 2 (some 81) (.mv (.t 0)) none,
    .mk4 3 (some 82) (.mv (.t 9)) none,
    .mk4 4 (some 83) (.bin .sub (.t 82) (.c (.i 1))) none,
    .mk4 5 (some 84) (.mv (.t 0)) none,
    .mk4 6 (some 85) (.mv (.t 9)) none,
    .mk4 7 (some 86) (.bin .sub (.t 85) (.c (.i 1))) none,
    .mk4 8 (some 87) (.ixaS 1 (.t 84) (.t 86)) none,
    .mk4 9 (some 88) (.load1 (.t 87)) none,
    .mk4 10 (some 89) (.mv (.t 0)) none,
    .mk4 11 (some 90) (.mv (.t 9)) none,
    .mk4 12 (some 91) (.ixaS 1 (.t 89) (.t 90)) none,
    .mk4 13 (some 92) (.load1 (.t 91)) none,
    .mk4 14 (some 93) (.ixaS 1 (.t 79) (.t 80)) none,
    .mk4 15 none (.store 1 (.t 93) (.t 88)) none,
    .mk4 16 (some 94) (.ixaS 1 (.t 81) (.t 83)) none,
    .mk4 17 none (.store 1 (.t 94) (.t 92)) none] [0, 1, 2, 7, 8, 9]
def c199_4 : AC :=
  .seq (.seq (.region 0 [.mk4 0 (some 68) (.mv (.t 0)) none,
    .mk4 1 (some 69) (.mv (.t 9)) none,
    .mk4 2 (some 70) (.ixaS 1 (.t 68) (.t 69)) none,
    .mk4 3 (some 71) (.load1 (.t 70)) none,
    .mk4 4 (some 72) (.mv (.t 0)) none,
    .mk4 5 (some 73) (.mv (.t 9)) none,
    .mk4 6 (some 74) (.bin .sub (.t 73) (.c (.i 1))) none,
    .mk4 7 (some 75) (.ixaS 1 (.t 72) (.t 74)) none,
    .mk4 8 (some 76) (.load1 (.t 75)) none,
    .mk4 9 (some 77) (.call 200 [(.t 71), (.t 76)]) none,
    .mk4 10 (some 78) (.un .not (.t 77)) none] [0, 1, 2, 7, 8, 9, 78]) (.cond (.t 78) (.exit 4) (.skip))) (c199_3)
def c199_5 : AC :=
  .seq (.seq (.region 0 [.mk4 0 (some 64) (.mv (.t 9)) none,
    .mk4 1 (some 65) (.bin .geq (.t 64) (.c (.i 1))) none] [0, 1, 2, 7, 8, 9, 65]) (.cond (.t 65) (.skip) (.exit 4))) (.seq (.block 5 (c199_4)) (.region 0 [.mk4 0 (some 66) (.mv (.t 9)) none,
    .mk4 1 (some 67) (.bin .sub (.t 66) (.c (.i 1))) none,
    .mk4 2 (some 9) (.mv (.t 67)) none] [0, 1, 2, 7, 8, 9]))
def c199_6 : AC :=
  .seq (.region 0 [.mk4 0 (some 95) (.mv (.t 2)) none,
    .mk4 1 (some 96) (.mv (.t 7)) none,
    .mk4 2 (some 97) (.bin .sub (.t 95) (.t 96)) none,
    .mk4 3 (some 98) (.bin .geq (.t 97) (.c (.i 2))) none] [0, 1, 2, 7, 8, 98]) (.cond (.t 98) (.seq (.region 0 [.mk4 0 (some 99) (.mv (.t 7)) none,
    .mk4 1 (some 100) (.bin .add (.t 99) (.c (.i 1))) none,
    .mk4 2 (some 10) (.mv (.t 100)) none] [0, 1, 2, 7, 8, 10]) (.block 6 (.loop [0, 1, 2, 7, 8, 10] (c199_2)))) (.skip))
def c199_7 : AC :=
  .seq (.seq (.region 0 [.mk4 0 (some 58) (.mv (.t 7)) none,
    .mk4 1 (some 59) (.mv (.t 1)) none,
    .mk4 2 (some 60) (.bin .sub (.t 58) (.t 59)) none,
    .mk4 3 (some 61) (.bin .geq (.t 60) (.c (.i 2))) none] [0, 1, 2, 7, 8, 61]) (.cond (.t 61) (.seq (.region 0 [.mk4 0 (some 62) (.mv (.t 7)) none,
    .mk4 1 (some 63) (.bin .sub (.t 62) (.c (.i 1))) none,
    .mk4 2 (some 9) (.mv (.t 63)) none] [0, 1, 2, 7, 8, 9]) (.block 4 (.loop [0, 1, 2, 7, 8, 9] (c199_5)))) (.skip))) (c199_6)
def c199_8 : AC :=
  .seq (.region 0 [.mk4 0 (some 42) (.mv (.t 0)) none,
    .mk4 1 (some 43) (.mv (.t 7)) none,
    .mk4 2 (some 44) (.mv (.t 0)) none,
    .mk4 3 (some 45) (.mv (.t 7)) none,
    .mk4 4 (some 46) (.bin .sub (.t 45) (.c (.i 1))) none,
    .mk4 5 (some 47) (.mv (.t 0)) none,
    .mk4 6 (some 48) (.mv (.t 7)) none,
    .mk4 7 (some 49) (.bin .sub (.t 48) (.c (.i 1))) none,
    .mk4 8 (some 50) (.ixaS 1 (.t 47) (.t 49)) none,
    .mk4 9 (some 51) (.load1 (.t 50)) none,
    .mk4 10 (some 52) (.mv (.t 0)) none,
    .mk4 11 (some 53) (.mv (.t 7)) none,
    .mk4 12 (some 54) (.ixaS 1 (.t 52) (.t 53)) none,
    .mk4 13 (some 55) (.load1 (.t 54)) none,
    .mk4 14 (some 56) (.ixaS 1 (.t 42) (.t 43)) none,
    .mk4 15 none (.store 1 (.t 56) (.t 51)) none,
    .mk4 16 (some 57) (.ixaS 1 (.t 44) (.t 46)) none,
    .mk4 17 none (.store 1 (.t 57) (.t 55)) none] [0, 1, 2, 7, 8]) (c199_7)
def c199_9 : AC :=
  .seq (.seq (.region 0 [.mk4 0 (some 38) (.mv (.t 2)) none,
    .mk4 1 (some 39) (.mv (.t 1)) none,
    .mk4 2 (some 40) (.bin .sub (.t 38) (.t 39)) none,
    .mk4 3 (some 41) (.bin .lss (.t 40) (.c (.i 50))) none] [0, 1, 2, 7, 8, 41]) (.cond (.t 41) (.seq (.region 0 [.mk4 0 (some 6) (.mv (.c (.bool false))) none] [6]) (.ret)) (.skip))) (c199_8)
def c199_10 : AC :=
  .seq (.seq (.region 0 [.mk4 0 (some 17) (.mv (.t 7)) none,
    .mk4 1 (some 18) (.mv (.t 2)) none,
    .mk4 2 (some 19) (.bin .lss (.t 17) (.t 18)) none,
    .mk4 3 (some 20) (.mv (.t 19)) none,
    .mk4 4 (some 21) (.mv (.t 0)) (some (20, true)),
    .mk4 5 (some 22) (.mv (.t 7)) (some (20, true)),
    .mk4 6 (some 23) (.ixaS 1 (.t 21) (.t 22)) (some (20, true)),
    .mk4 7 (some 24) (.load1 (.t 23)) (some (20, true)),
    .mk4 8 (some 25) (.mv (.t 0)) (some (20, true)),
    .mk4 9 (some 26) (.mv (.t 7)) (some (20, true)),
    .mk4 10 (some 27) (.bin .sub (.t 26) (.c (.i 1))) (some (20, true)),
    .mk4 11 (some 28) (.ixaS 1 (.t 25) (.t 27)) (some (20, true)),
    .mk4 12 (some 29) (.load1 (.t 28)) (some (20, true)),
    .mk4 13 (some 30) (.call 200 [(.t 24), (.t 29)]) (some (20, true)),
    .mk4 14 (some 31) (.un .not (.t 30)) (some (20, true)),
    .mk4 15 (some 32) (.pick (.t 20) (.t 31) (.c (.bool false))) none] [0, 1, 2, 7, 8, 32]) (.cond (.t 32) (.skip) (.exit 2))) (.block 3 (.region 0 [.mk4 0 (some 33) (.mv (.t 7)) none,
    .mk4 1 (some 34) (.bin .add (.t 33) (.c (.i 1))) none,
    .mk4 2 (some 7) (.mv (.t 34)) none] [0, 1, 2, 7, 8]))
def c199_11 : AC :=
  .seq (.block 2 (.loop [0, 1, 2, 7, 8] (c199_10))) (.seq (.seq (.region 0 [.mk4 0 (some 35) (.mv (.t 7)) none,
    .mk4 1 (some 36) (.mv (.t 2)) none,
    .mk4 2 (some 37) (.bin .eql (.t 35) (.t 36)) none] [0, 1, 2, 7, 8, 37]) (.cond (.t 37) (.seq (.region 0 [.mk4 0 (some 6) (.mv (.c (.bool true))) none] [6]) (.ret)) (.skip))) (c199_9))
def c199_12 : AC :=
  .seq (.seq (.region 0 [.mk4 0 (some 13) (.mv (.t 8)) none,
    .mk4 1 (some 14) (.bin .lss (.t 13) (.c (.i 5))) none] [0, 1, 2, 7, 8, 14]) (.cond (.t 14) (.skip) (.exit 0))) (.seq (.block 1 (c199_11)) (.region 0 [.mk4 0 (some 15) (.mv (.t 8)) none,
    .mk4 1 (some 16) (.bin .add (.t 15) (.c (.i 1))) none,
    .mk4 2 (some 8) (.mv (.t 16)) none] [0, 1, 2, 7, 8]))
def c199_13 : AC :=
  .seq (.region 0 [.mk4 0 (some 11) (.mv (.t 1)) none,
    .mk4 1 (some 12) (.bin .add (.t 11) (.c (.i 1))) none,
    .mk4 2 (some 7) (.mv (.t 12)) none] [0, 1, 2, 7]) (.seq (.seq (.region 0 [.mk4 0 (some 8) (.mv (.c (.i 0))) none] [0, 1, 2, 7, 8]) (.block 0 (.loop [0, 1, 2, 7, 8] (c199_12)))) (.seq (.region 0 [.mk4 0 (some 6) (.mv (.c (.bool false))) none] [6]) (.ret)))
def c199 : AFn := ⟨3, 133, [.tmp 6],
  (.seq (.region 0 [.mk4 0 (some 6) (.mv (.c (.bool false))) none] [0, 1, 2]) (c199_13))⟩
def c200_0 : AC :=
  .seq (.region 0 [.mk4 0 (some 5) (.mv (.t 0)) none,
    .mk4 1 (some 6) (.call 210 [(.t 5)]) none,
    .mk4 2 (some 7) (.mv (.t 6)) none,
    .mk4 3 (some 8) (.mv (.t 1)) (some (7, true)),
    .mk4 4 (some 9) (.call 210 [(.t 8)]) (some (7, true)),
    .mk4 5 (some 10) (.un .not (.t 9)) (some (7, true)),
    .mk4 6 (some 11) (.pick (.t 7) (.t 10) (.c (.bool false))) none,
    .mk4 7 (some 12) (.mv (.t 11)) none,
    .mk4 8 (some 13) (.mv (.t 0)) (some (12, false)),
    .mk4 9 (some 14) (.mv (.t 1)) (some (12, false)),
    .mk4 10 (some 15) (.bin .lss (.t 13) (.t 14)) (some (12, false)),
    .mk4 11 (some 16) (.pick (.t 12) (.c (.bool true)) (.t 15)) none,
    .mk4 12 (some 4) (.mv (.t 16)) none] [4]) (.ret)
def c200 : AFn := ⟨2, 17, [.tmp 4],
  (.seq (.region 0 [.mk4 0 (some 4) (.mv (.c (.bool false))) none] [0, 1]) (c200_0))⟩
def c201_0 : AC :=
  .seq (.region 0 [.mk4 0 (some 79) (.mv (.t 9)) none,
    .mk4 1 (some 80) (.bin .add (.t 79) (.c (.i 1))) none,
    .mk4 2 (some 9) (.mv (.t 80)) none] [0, 1, 9, 10]) (.region 0 [.mk4 0 (some 81) (.mv (.t 10)) none,
    .mk4 1 (some 82) (.bin .sub (.t 81) (.c (.i 1))) none,
    .mk4 2 (some 10) (.mv (.t 82)) none] [0, 1, 9, 10])
def c201_1 : AC :=
  .seq (.region 0 [.mk4 0 (some 65) (.mv (.t 0)) none,
    .mk4 1 (some 66) (.mv (.t 9)) none,
    .mk4 2 (some 67) (.mv (.t 0)) none,
    .mk4 3 (some 68) (.mv (.t 10)) none,
    .mk4 4 (some 69) (.mv (.t 0)) none,
    .mk4 5 (some 70) (.mv (.t 10)) none,
    .mk4 6 (some 71) (.ixaS 1 (.t 69) (.t 70)) none,
    .mk4 7 (some 72) (.load1 (.t 71)) none,
    .mk4 8 (some 73) (.mv (.t 0)) none,
    .mk4 9 (some 74) (.mv (.t 9)) none,
    .mk4 10 (some 75) (.ixaS 1 (.t 73) (.t 74)) none,
    .mk4 11 (some 76) (.load1 (.t 75)) none,
    .mk4 12 (some 77) (.ixaS 1 (.t 65) (.t 66)) none,
    .mk4 13 none (.store 1 (.t 77) (.t 72)) none,
    .mk4 14 (some 78) (.ixaS 1 (.t 67) (.t 68)) none,
    .mk4 15 none (.store 1 (.t 78) (.t 76)) none] [0, 1, 9, 10]) (c201_0)
def c201_2 : AC :=
  .seq (.seq (.region 0 [.mk4 0 (some 46) (.mv (.t 9)) none,
    .mk4 1 (some 47) (.mv (.t 10)) none,
    .mk4 2 (some 48) (.bin .leq (.t 46) (.t 47)) none,
    .mk4 3 (some 49) (.mv (.t 48)) none,
    .mk4 4 (some 50) (.mv (.t 0)) (some (49, true)),
    .mk4 5 (some 51) (.mv (.t 1)) (some (49, true)),
    .mk4 6 (some 52) (.ixaS 1 (.t 50) (.t 51)) (some (49, true)),
    .mk4 7 (some 53) (.load1 (.t 52)) (some (49, true)),
    .mk4 8 (some 54) (.mv (.t 0)) (some (49, true)),
    .mk4 9 (some 55) (.mv (.t 10)) (some (49, true)),
    .mk4 10 (some 56) (.ixaS 1 (.t 54) (.t 55)) (some (49, true)),
    .mk4 11 (some 57) (.load1 (.t 56)) (some (49, true)),
    .mk4 12 (some 58) (.call 200 [(.t 53), (.t 57)]) (some (49, true)),
    .mk4 13 (some 59) (.pick (.t 49) (.t 58) (.c (.bool false))) none] [0, 1, 9, 10, 59]) (.cond (.t 59) (.skip) (.exit 4))) (.block 5 (.region 0 [.mk4 0 (some 60) (.mv (.t 10)) none,
    .mk4 1 (some 61) (.bin .sub (.t 60) (.c (.i 1))) none,
    .mk4 2 (some 10) (.mv (.t 61)) none] [0, 1, 9, 10]))
def c201_3 : AC :=
  .seq (.seq (.region 0 [.mk4 0 (some 29) (.mv (.t 9)) none,
    .mk4 1 (some 30) (.mv (.t 10)) none,
    .mk4 2 (some 31) (.bin .leq (.t 29) (.t 30)) none,
    .mk4 3 (some 32) (.mv (.t 31)) none,
    .mk4 4 (some 33) (.mv (.t 0)) (some (32, true)),
    .mk4 5 (some 34) (.mv (.t 1)) (some (32, true)),
    .mk4 6 (some 35) (.ixaS 1 (.t 33) (.t 34)) (some (32, true)),
    .mk4 7 (some 36) (.load1 (.t 35)) (some (32, true)),
    .mk4 8 (some 37) (.mv (.t 0)) (some (32, true)),
    .mk4 9 (some 38) (.mv (.t 9)) (some (32, true)),
    .mk4 10 (some 39) (.ixaS 1 (.t 37) (.t 38)) (some (32, true)),
    .mk4 11 (some 40) (.load1 (.t 39)) (some (32, true)),
    .mk4 12 (some 41) (.call 200 [(.t 36), (.t 40)]) (some (32, true)),
    .mk4 13 (some 42) (.un .not (.t 41)) (some (32, true)),
    .mk4 14 (some 43) (.pick (.t 32) (.t 42) (.c (.bool false))) none] [0, 1, 9, 10, 43]) (.cond (.t 43) (.skip) (.exit 2))) (.block 3 (.region 0 [.mk4 0 (some 44) (.mv (.t 9)) none,
    .mk4 1 (some 45) (.bin .add (.t 44) (.c (.i 1))) none,
    .mk4 2 (some 9) (.mv (.t 45)) none] [0, 1, 9, 10]))
def c201_4 : AC :=
  .seq (.block 2 (.loop [0, 1, 9, 10] (c201_3))) (.seq (.block 4 (.loop [0, 1, 9, 10] (c201_2))) (.seq (.seq (.region 0 [.mk4 0 (some 62) (.mv (.t 9)) none,
    .mk4 1 (some 63) (.mv (.t 10)) none,
    .mk4 2 (some 64) (.bin .gtr (.t 62) (.t 63)) none] [0, 1, 9, 10, 64]) (.cond (.t 64) (.exit 0) (.skip))) (c201_1)))
def c201_5 : AC :=
  .seq (.region 0 [.mk4 0 (some 25) (.mv (.t 1)) none,
    .mk4 1 (some 26) (.bin .add (.t 25) (.c (.i 1))) none,
    .mk4 2 (some 27) (.mv (.t 2)) none,
    .mk4 3 (some 28) (.bin .sub (.t 27) (.c (.i 1))) none,
    .mk4 4 (some 9) (.mv (.t 26)) none,
    .mk4 5 (some 10) (.mv (.t 28)) none] [0, 1, 9, 10]) (.seq (.block 0 (.loop [0, 1, 9, 10] (.block 1 (c201_4)))) (.seq (.region 0 [.mk4 0 (some 83) (.mv (.t 9)) none,
    .mk4 1 (some 8) (.mv (.t 83)) none] [8]) (.ret)))
def c201_6 : AC :=
  .seq (.region 0 [.mk4 0 (some 11) (.mv (.t 0)) none,
    .mk4 1 (some 12) (.mv (.t 1)) none,
    .mk4 2 (some 13) (.mv (.t 0)) none,
    .mk4 3 (some 14) (.mv (.t 3)) none,
    .mk4 4 (some 15) (.mv (.t 0)) none,
    .mk4 5 (some 16) (.mv (.t 3)) none,
    .mk4 6 (some 17) (.ixaS 1 (.t 15) (.t 16)) none,
    .mk4 7 (some 18) (.load1 (.t 17)) none,
    .mk4 8 (some 19) (.mv (.t 0)) none,
    .mk4 9 (some 20) (.mv (.t 1)) none,
    .mk4 10 (some 21) (.ixaS 1 (.t 19) (.t 20)) none,
    .mk4 11 (some 22) (.load1 (.t 21)) none,
    .mk4 12 (some 23) (.ixaS 1 (.t 11) (.t 12)) none,
    .mk4 13 none (.store 1 (.t 23) (.t 18)) none,
    .mk4 14 (some 24) (.ixaS 1 (.t 13) (.t 14)) none,
    .mk4 15 none (.store 1 (.t 24) (.t 22)) none] [0, 1, 2]) (c201_5)
def c201 : AFn := ⟨4, 84, [.tmp 8],
  (.seq (.region 0 [.mk4 0 (some 8) (.mv (.c (.i 0))) none] [0, 1, 2, 3]) (c201_6))⟩
def c202_0 : AC :=
  .seq (.region 0 [.mk4 0 (some 149) (.mv (.t 10)) none,
    .mk4 1 (some 150) (.bin .add (.t 149) (.c (.i 1))) none,
    .mk4 2 (some 10) (.mv (.t 150)) none] [0, 1, 10, 11]) (.region 0 [.mk4 0 (some 151) (.mv (.t 11)) none,
    .mk4 1 (some 152) (.bin .sub (.t 151) (.c (.i 1))) none,
    .mk4 2 (some 11) (.mv (.t 152)) none] [0, 1, 10, 11])
def c202_1 : AC :=
  .seq (.region 0 [.mk4 0 (some 135) (.mv (.t 0)) none,
    .mk4 1 (some 136) (.mv (.t 10)) none,
    .mk4 2 (some 137) (.mv (.t 0)) none,
    .mk4 3 (some 138) (.mv (.t 11)) none,
    .mk4 4 (some 139) (.mv (.t 0)) none,
    .mk4 5 (some 140) (.mv (.t 11)) none,
    .mk4 6 (some 141) (.ixaS 1 (.t 139) (.t 140)) none,
    .mk4 7 (some 142) (.load1 (.t 141)) none,
    .mk4 8 (some 143) (.mv (.t 0)) none,
    .mk4 9 (some 144) (.mv (.t 10)) none,
    .mk4 10 (some 145) (.ixaS 1 (.t 143) (.t 144)) none,
    .mk4 11 (some 146) (.load1 (.t 145)) none,
    .mk4 12 (some 147) (.ixaS 1 (.t 135) (.t 136)) none,
    .mk4 13 none (.store 1 (.t 147) (.t 142)) none,
    .mk4 14 (some 148) (.ixaS 1 (.t 137) (.t 138)) none,
    .mk4 15 none (.store 1 (.t 148) (.t 146)) none] [0, 1, 10, 11]) (c202_0)
def c202_2 : AC :=
  .seq (.seq (.region 0 [.mk4 0 (some 115) (.mv (.t 10)) none,
    .mk4 1 (some 116) (.mv (.t 11)) none,
    .mk4 2 (some 117) (.bin .leq (.t 115) (.t 116)) none,
    .mk4 3 (some 118) (.mv (.t 117)) none,
    .mk4 4 (some 119) (.mv (.t 0)) (some (118, true)),
    .mk4 5 (some 120) (.mv (.t 11)) (some (118, true)),
    .mk4 6 (some 121) (.ixaS 1 (.t 119) (.t 120)) (some (118, true)),
    .mk4 7 (some 122) (.load1 (.t 121)) (some (118, true)),
    .mk4 8 (some 123) (.mv (.t 0)) (some (118, true)),
    .mk4 9 (some 124) (.mv (.t 1)) (some (118, true)),
    .mk4 10 (some 125) (.ixaS 1 (.t 123) (.t 124)) (some (118, true)),
    .mk4 11 (some 126) (.load1 (.t 125)) (some (118, true)),
    .mk4 12 (some 127) (.call 200 [(.t 122), (.t 126)]) (some (118, true)),
    .mk4 13 (some 128) (.un .not (.t 127)) (some (118, true)),
    .mk4 14 (some 129) (.pick (.t 118) (.t 128) (.c (.bool false))) none] [0, 1, 10, 11, 129]) (.cond (.t 129) (.skip) (.exit 8))) (.block 9 (.region 0 [.mk4 0 (some 130) (.mv (.t 11)) none,
    .mk4 1 (some 131) (.bin .sub (.t 130) (.c (.i 1))) none,
    .mk4 2 (some 11) (.mv (.t 131)) none] [0, 1, 10, 11]))
def c202_3 : AC :=
  .seq (.seq (.region 0 [.mk4 0 (some 99) (.mv (.t 10)) none,
    .mk4 1 (some 100) (.mv (.t 11)) none,
    .mk4 2 (some 101) (.bin .leq (.t 99) (.t 100)) none,
    .mk4 3 (some 102) (.mv (.t 101)) none,
    .mk4 4 (some 103) (.mv (.t 0)) (some (102, true)),
    .mk4 5 (some 104) (.mv (.t 10)) (some (102, true)),
    .mk4 6 (some 105) (.ixaS 1 (.t 103) (.t 104)) (some (102, true)),
    .mk4 7 (some 106) (.load1 (.t 105)) (some (102, true)),
    .mk4 8 (some 107) (.mv (.t 0)) (some (102, true)),
    .mk4 9 (some 108) (.mv (.t 1)) (some (102, true)),
    .mk4 10 (some 109) (.ixaS 1 (.t 107) (.t 108)) (some (102, true)),
    .mk4 11 (some 110) (.load1 (.t 109)) (some (102, true)),
    .mk4 12 (some 111) (.call 200 [(.t 106), (.t 110)]) (some (102, true)),
    .mk4 13 (some 112) (.pick (.t 102) (.t 111) (.c (.bool false))) none] [0, 1, 10, 11, 112]) (.cond (.t 112) (.skip) (.exit 6))) (.block 7 (.region 0 [.mk4 0 (some 113) (.mv (.t 10)) none,
    .mk4 1 (some 114) (.bin .add (.t 113) (.c (.i 1))) none,
    .mk4 2 (some 10) (.mv (.t 114)) none] [0, 1, 10, 11]))
def c202_4 : AC :=
  .seq (.block 6 (.loop [0, 1, 10, 11] (c202_3))) (.seq (.block 8 (.loop [0, 1, 10, 11] (c202_2))) (.seq (.seq (.region 0 [.mk4 0 (some 132) (.mv (.t 10)) none,
    .mk4 1 (some 133) (.mv (.t 11)) none,
    .mk4 2 (some 134) (.bin .gtr (.t 132) (.t 133)) none] [0, 1, 10, 11, 134]) (.cond (.t 134) (.exit 4) (.skip))) (c202_1)))
def c202_5 : AC :=
  .seq (.region 0 [.mk4 0 (some 153) (.mv (.t 0)) none,
    .mk4 1 (some 154) (.mv (.t 11)) none,
    .mk4 2 (some 155) (.mv (.t 0)) none,
    .mk4 3 (some 156) (.mv (.t 1)) none,
    .mk4 4 (some 157) (.mv (.t 0)) none,
    .mk4 5 (some 158) (.mv (.t 1)) none,
    .mk4 6 (some 159) (.ixaS 1 (.t 157) (.t 158)) none,
    .mk4 7 (some 160) (.load1 (.t 159)) none,
    .mk4 8 (some 161) (.mv (.t 0)) none,
    .mk4 9 (some 162) (.mv (.t 11)) none,
    .mk4 10 (some 163) (.ixaS 1 (.t 161) (.t 162)) none,
    .mk4 11 (some 164) (.load1 (.t 163)) none,
    .mk4 12 (some 165) (.ixaS 1 (.t 153) (.t 154)) none,
    .mk4 13 none (.store 1 (.t 165) (.t 160)) none,
    .mk4 14 (some 166) (.ixaS 1 (.t 155) (.t 156)) none,
    .mk4 15 none (.store 1 (.t 166) (.t 164)) none] [11]) (.seq (.region 0 [.mk4 0 (some 167) (.mv (.t 11)) none,
    .mk4 1 (some 8) (.mv (.t 167)) none,
    .mk4 2 (some 9) (.mv (.c (.bool false))) none] [8, 9]) (.ret))
def c202_6 : AC :=
  .seq (.region 0 [.mk4 0 (some 95) (.mv (.t 10)) none,
    .mk4 1 (some 96) (.bin .add (.t 95) (.c (.i 1))) none,
    .mk4 2 (some 10) (.mv (.t 96)) none] [0, 1, 10, 11]) (.seq (.region 0 [.mk4 0 (some 97) (.mv (.t 11)) none,
    .mk4 1 (some 98) (.bin .sub (.t 97) (.c (.i 1))) none,
    .mk4 2 (some 11) (.mv (.t 98)) none] [0, 1, 10, 11]) (.seq (.block 4 (.loop [0, 1, 10, 11] (.block 5 (c202_4)))) (c202_5)))
def c202_7 : AC :=
  .seq (.region 0 [.mk4 0 (some 66) (.mv (.t 0)) none,
    .mk4 1 (some 67) (.mv (.t 11)) none,
    .mk4 2 (some 68) (.mv (.t 0)) none,
    .mk4 3 (some 69) (.mv (.t 1)) none,
    .mk4 4 (some 70) (.mv (.t 0)) none,
    .mk4 5 (some 71) (.mv (.t 1)) none,
    .mk4 6 (some 72) (.ixaS 1 (.t 70) (.t 71)) none,
    .mk4 7 (some 73) (.load1 (.t 72)) none,
    .mk4 8 (some 74) (.mv (.t 0)) none,
    .mk4 9 (some 75) (.mv (.t 11)) none,
    .mk4 10 (some 76) (.ixaS 1 (.t 74) (.t 75)) none,
    .mk4 11 (some 77) (.load1 (.t 76)) none,
    .mk4 12 (some 78) (.ixaS 1 (.t 66) (.t 67)) none,
    .mk4 13 none (.store 1 (.t 78) (.t 73)) none,
    .mk4 14 (some 79) (.ixaS 1 (.t 68) (.t 69)) none,
    .mk4 15 none (.store 1 (.t 79) (.t 77)) none] [11]) (.seq (.region 0 [.mk4 0 (some 80) (.mv (.t 11)) none,
    .mk4 1 (some 8) (.mv (.t 80)) none,
    .mk4 2 (some 9) (.mv (.c (.bool true))) none] [8, 9]) (.ret))
def c202_8 : AC :=
  .seq (.region 0 [.mk4 0 (some 81) (.mv (.t 0)) none,
    .mk4 1 (some 82) (.mv (.t 10)) none,
    .mk4 2 (some 83) (.mv (.t 0)) none,
    .mk4 3 (some 84) (.mv (.t 11)) none,
    .mk4 4 (some 85) (.mv (.t 0)) none,
    .mk4 5 (some 86) (.mv (.t 11)) none,
    .mk4 6 (some 87) (.ixaS 1 (.t 85) (.t 86)) none,
    .mk4 7 (some 88) (.load1 (.t 87)) none,
    .mk4 8 (some 89) (.mv (.t 0)) none,
    .mk4 9 (some 90) (.mv (.t 10)) none,
    .mk4 10 (some 91) (.ixaS 1 (.t 89) (.t 90)) none,
    .mk4 11 (some 92) (.load1 (.t 91)) none,
    .mk4 12 (some 93) (.ixaS 1 (.t 81) (.t 82)) none,
    .mk4 13 none (.store 1 (.t 93) (.t 88)) none,
    .mk4 14 (some 94) (.ixaS 1 (.t 83) (.t 84)) none,
    .mk4 15 none (.store 1 (.t 94) (.t 92)) none] [0, 1, 10, 11]) (c202_6)
def c202_9 : AC :=
  .seq (.seq (.region 0 [.mk4 0 (some 46) (.mv (.t 10)) none,
    .mk4 1 (some 47) (.mv (.t 11)) none,
    .mk4 2 (some 48) (.bin .leq (.t 46) (.t 47)) none,
    .mk4 3 (some 49) (.mv (.t 48)) none,
    .mk4 4 (some 50) (.mv (.t 0)) (some (49, true)),
    .mk4 5 (some 51) (.mv (.t 11)) (some (49, true)),
    .mk4 6 (some 52) (.ixaS 1 (.t 50) (.t 51)) (some (49, true)),
    .mk4 7 (some 53) (.load1 (.t 52)) (some (49, true)),
    .mk4 8 (some 54) (.mv (.t 0)) (some (49, true)),
    .mk4 9 (some 55) (.mv (.t 1)) (some (49, true)),
    .mk4 10 (some 56) (.ixaS 1 (.t 54) (.t 55)) (some (49, true)),
    .mk4 11 (some 57) (.load1 (.t 56)) (some (49, true)),
    .mk4 12 (some 58) (.call 200 [(.t 53), (.t 57)]) (some (49, true)),
    .mk4 13 (some 59) (.un .not (.t 58)) (some (49, true)),
    .mk4 14 (some 60) (.pick (.t 49) (.t 59) (.c (.bool false))) none] [0, 1, 10, 11, 60]) (.cond (.t 60) (.skip) (.exit 2))) (.block 3 (.region 0 [.mk4 0 (some 61) (.mv (.t 11)) none,
    .mk4 1 (some 62) (.bin .sub (.t 61) (.c (.i 1))) none,
    .mk4 2 (some 11) (.mv (.t 62)) none] [0, 1, 10, 11]))
def c202_10 : AC :=
  .seq (.seq (.region 0 [.mk4 0 (some 30) (.mv (.t 10)) none,
    .mk4 1 (some 31) (.mv (.t 11)) none,
    .mk4 2 (some 32) (.bin .leq (.t 30) (.t 31)) none,
    .mk4 3 (some 33) (.mv (.t 32)) none,
    .mk4 4 (some 34) (.mv (.t 0)) (some (33, true)),
    .mk4 5 (some 35) (.mv (.t 10)) (some (33, true)),
    .mk4 6 (some 36) (.ixaS 1 (.t 34) (.t 35)) (some (33, true)),
    .mk4 7 (some 37) (.load1 (.t 36)) (some (33, true)),
    .mk4 8 (some 38) (.mv (.t 0)) (some (33, true)),
    .mk4 9 (some 39) (.mv (.t 1)) (some (33, true)),
    .mk4 10 (some 40) (.ixaS 1 (.t 38) (.t 39)) (some (33, true)),
    .mk4 11 (some 41) (.load1 (.t 40)) (some (33, true)),
    .mk4 12 (some 42) (.call 200 [(.t 37), (.t 41)]) (some (33, true)),
    .mk4 13 (some 43) (.pick (.t 33) (.t 42) (.c (.bool false))) none] [0, 1, 10, 11, 43]) (.cond (.t 43) (.skip) (.exit 0))) (.block 1 (.region 0 [.mk4 0 (some 44) (.mv (.t 10)) none,
    .mk4 1 (some 45) (.bin .add (.t 44) (.c (.i 1))) none,
    .mk4 2 (some 10) (.mv (.t 45)) none] [0, 1, 10, 11]))
def c202_11 : AC :=
  .seq (.block 0 (.loop [0, 1, 10, 11] (c202_10))) (.seq (.block 2 (.loop [0, 1, 10, 11] (c202_9))) (.seq (.seq (.region 0 [.mk4 0 (some 63) (.mv (.t 10)) none,
    .mk4 1 (some 64) (.mv (.t 11)) none,
    .mk4 2 (some 65) (.bin .gtr (.t 63) (.t 64)) none] [0, 1, 10, 11, 65]) (.cond (.t 65) (c202_7) (.skip))) (c202_8)))
def c202_12 : AC :=
  .seq (.region 0 [.mk4 0 (some 26) (.mv (.t 1)) none,
    .mk4 1 (some 27) (.bin .add (.t 26) (.c (.i 1))) none,
    .mk4 2 (some 28) (.mv (.t 2)) none,
    .mk4 3 (some 29) (.bin .sub (.t 28) (.c (.i 1))) none,
    .mk4 4 (some 10) (.mv (.t 27)) none,
    .mk4 5 (some 11) (.mv (.t 29)) none] [0, 1, 10, 11]) (c202_11)
def c202_13 : AC :=
  .seq (.region 0 [.mk4 0 (some 12) (.mv (.t 0)) none,
    .mk4 1 (some 13) (.mv (.t 1)) none,
    .mk4 2 (some 14) (.mv (.t 0)) none,
    .mk4 3 (some 15) (.mv (.t 3)) none,
    .mk4 4 (some 16) (.mv (.t 0)) none,
    .mk4 5 (some 17) (.mv (.t 3)) none,
    .mk4 6 (some 18) (.ixaS 1 (.t 16) (.t 17)) none,
    .mk4 7 (some 19) (.load1 (.t 18)) none,
    .mk4 8 (some 20) (.mv (.t 0)) none,
    .mk4 9 (some 21) (.mv (.t 1)) none,
    .mk4 10 (some 22) (.ixaS 1 (.t 20) (.t 21)) none,
    .mk4 11 (some 23) (.load1 (.t 22)) none,
    .mk4 12 (some 24) (.ixaS 1 (.t 12) (.t 13)) none,
    .mk4 13 none (.store 1 (.t 24) (.t 19)) none,
    .mk4 14 (some 25) (.ixaS 1 (.t 14) (.t 15)) none,
    .mk4 15 none (.store 1 (.t 25) (.t 23)) none] [0, 1, 2]) (c202_12)
def c202 : AFn := ⟨4, 168, [.tmp 8, .tmp 9],
  (.seq (.region 0 [.mk4 0 (some 8) (.mv (.c (.i 0))) none,
    .mk4 1 (some 9) (.mv (.c (.bool false))) none] [0, 1, 2, 3]) (c202_13))⟩
def c203_0 : AC :=
  .seq (.region 0 [.mk4 0 (some 9) (.mv (.t 0)) none,
    .mk4 1 (some 10) (.bin .shr (.t 9) (.c (.int .u64 8))) none,
    .mk4 2 (some 0) (.mv (.t 10)) none] [0, 2]) (.region 0 [.mk4 0 (some 11) (.mv (.t 2)) none,
    .mk4 1 (some 12) (.bin .add (.t 11) (.c (.i 8))) none,
    .mk4 2 (some 2) (.mv (.t 12)) none] [0, 2])
def c203_1 : AC :=
  .seq (.region 0 [.mk4 0 (some 13) (.mv (.t 2)) none,
    .mk4 1 (some 14) (.mv (.t 0)) none,
    .mk4 2 (some 15) (.convInt .u8 (.t 14)) none,
    .mk4 3 (some 16) (.ixStr (.c (.str [0, 1, 2, 2, 3, 3, 3, 3, 4, 4, 4, 4, 4, 4, 4, 4, 5, 5, 5, 5, 5, 5, 5, 5, 5, 5, 5, 5, 5, 5, 5, 5, 6, 6, 6, 6, 6, 6, 6, 6, 6, 6, 6, 6, 6, 6, 6, 6, 6, 6, 6, 6, 6, 6, 6, 6, 6, 6, 6, 6, 6, 6, 6, 6, 7, 7, 7, 7, 7, 7, 7, 7, 7, 7, 7, 7, 7, 7, 7, 7, 7, 7, 7, 7, 7, 7, 7, 7, 7, 7, 7, 7, 7, 7, 7, 7, 7, 7, 7, 7, 7, 7, 7, 7, 7, 7, 7, 7, 7, 7, 7, 7, 7, 7, 7, 7, 7, 7, 7, 7, 7, 7, 7, 7, 7, 7, 7, 7, 8, 8, 8, 8, 8, 8, 8, 8, 8, 8, 8, 8, 8, 8, 8, 8, 8, 8, 8, 8, 8, 8, 8, 8, 8, 8, 8, 8, 8, 8, 8, 8, 8, 8, 8, 8, 8, 8, 8, 8, 8, 8, 8, 8, 8, 8, 8, 8, 8, 8, 8, 8, 8, 8, 8, 8, 8, 8, 8, 8, 8, 8, 8, 8, 8, 8, 8, 8, 8, 8, 8, 8, 8, 8, 8, 8, 8, 8, 8, 8, 8, 8, 8, 8, 8, 8, 8, 8, 8, 8, 8, 8, 8, 8, 8, 8, 8, 8, 8, 8, 8, 8, 8, 8, 8, 8, 8, 8, 8, 8, 8, 8, 8, 8, 8, 8, 8, 8, 8, 8, 8, 8, 8, 8, 8, 8, 8, 8])) (.t 15)) none,
    .mk4 4 (some 17) (.convInt .i64 (.t 16)) none,
    .mk4 5 (some 18) (.bin .add (.t 13) (.t 17)) none,
    .mk4 6 (some 2) (.mv (.t 18)) none] [2]) (.ret)
def c203_2 : AC :=
  .seq (.seq (.region 0 [.mk4 0 (some 3) (.mv (.t 0)) none,
    .mk4 1 (some 4) (.bin .geq (.t 3) (.c (.int .u32 65536))) none] [0, 2, 4]) (.cond (.t 4) (.seq (.region 0 [.mk4 0 (some 5) (.mv (.t 0)) none,
    .mk4 1 (some 6) (.bin .shr (.t 5) (.c (.int .u64 16))) none,
    .mk4 2 (some 0) (.mv (.t 6)) none] [0]) (.region 0 [.mk4 0 (some 2) (.mv (.c (.i 16))) none] [0, 2])) (.skip))) (.seq (.seq (.region 0 [.mk4 0 (some 7) (.mv (.t 0)) none,
    .mk4 1 (some 8) (.bin .geq (.t 7) (.c (.int .u32 256))) none] [0, 2, 8]) (.cond (.t 8) (c203_0) (.skip))) (c203_1))
def c203 : AFn := ⟨1, 19, [.tmp 2],
  (.seq (.region 0 [.mk4 0 (some 2) (.mv (.c (.i 0))) none] [0, 2]) (c203_2))⟩
def c204_0 : AC :=
  .seq (.region 0 [.mk4 0 (some 15) (.mv (.t 0)) none,
    .mk4 1 (some 16) (.bin .shr (.t 15) (.c (.int .u64 8))) none,
    .mk4 2 (some 0) (.mv (.t 16)) none] [0, 2]) (.region 0 [.mk4 0 (some 17) (.mv (.t 2)) none,
    .mk4 1 (some 18) (.bin .add (.t 17) (.c (.i 8))) none,
    .mk4 2 (some 2) (.mv (.t 18)) none] [0, 2])
def c204_1 : AC :=
  .seq (.region 0 [.mk4 0 (some 19) (.mv (.t 2)) none,
    .mk4 1 (some 20) (.mv (.t 0)) none,
    .mk4 2 (some 21) (.convInt .u8 (.t 20)) none,
    .mk4 3 (some 22) (.ixStr (.c (.str [0, 1, 2, 2, 3, 3, 3, 3, 4, 4, 4, 4, 4, 4, 4, 4, 5, 5, 5, 5, 5, 5, 5, 5, 5, 5, 5, 5, 5, 5, 5, 5, 6, 6, 6, 6, 6, 6, 6, 6, 6, 6, 6, 6, 6, 6, 6, 6, 6, 6, 6, 6, 6, 6, 6, 6, 6, 6, 6, 6, 6, 6, 6, 6, 7, 7, 7, 7, 7, 7, 7, 7, 7, 7, 7, 7, 7, 7, 7, 7, 7, 7, 7, 7, 7, 7, 7, 7, 7, 7, 7, 7, 7, 7, 7, 7, 7, 7, 7, 7, 7, 7, 7, 7, 7, 7, 7, 7, 7, 7, 7, 7, 7, 7, 7, 7, 7, 7, 7, 7, 7, 7, 7, 7, 7, 7, 7, 7, 8, 8, 8, 8, 8, 8, 8, 8, 8, 8, 8, 8, 8, 8, 8, 8, 8, 8, 8, 8, 8, 8, 8, 8, 8, 8, 8, 8, 8, 8, 8, 8, 8, 8, 8, 8, 8, 8, 8, 8, 8, 8, 8, 8, 8, 8, 8, 8, 8, 8, 8, 8, 8, 8, 8, 8, 8, 8, 8, 8, 8, 8, 8, 8, 8, 8, 8, 8, 8, 8, 8, 8, 8, 8, 8, 8, 8, 8, 8, 8, 8, 8, 8, 8, 8, 8, 8, 8, 8, 8, 8, 8, 8, 8, 8, 8, 8, 8, 8, 8, 8, 8, 8, 8, 8, 8, 8, 8, 8, 8, 8, 8, 8, 8, 8, 8, 8, 8, 8, 8, 8, 8, 8, 8, 8, 8, 8, 8])) (.t 21)) none,
    .mk4 4 (some 23) (.convInt .i64 (.t 22)) none,
    .mk4 5 (some 24) (.bin .add (.t 19) (.t 23)) none,
    .mk4 6 (some 2) (.mv (.t 24)) none] [2]) (.ret)
def c204_2 : AC :=
  .seq (.region 0 [.mk4 0 (some 9) (.mv (.t 0)) none,
    .mk4 1 (some 10) (.bin .shr (.t 9) (.c (.int .u64 16))) none,
    .mk4 2 (some 0) (.mv (.t 10)) none] [0, 2]) (.region 0 [.mk4 0 (some 11) (.mv (.t 2)) none,
    .mk4 1 (some 12) (.bin .add (.t 11) (.c (.i 16))) none,
    .mk4 2 (some 2) (.mv (.t 12)) none] [0, 2])
def c204_3 : AC :=
  .seq (.seq (.region 0 [.mk4 0 (some 7) (.mv (.t 0)) none,
    .mk4 1 (some 8) (.bin .geq (.t 7) (.c (.int .u64 65536))) none] [0, 2, 8]) (.cond (.t 8) (c204_2) (.skip))) (.seq (.seq (.region 0 [.mk4 0 (some 13) (.mv (.t 0)) none,
    .mk4 1 (some 14) (.bin .geq (.t 13) (.c (.int .u64 256))) none] [0, 2, 14]) (.cond (.t 14) (c204_0) (.skip))) (c204_1))
def c204_4 : AC :=
  .seq (.seq (.region 0 [.mk4 0 (some 3) (.mv (.t 0)) none,
    .mk4 1 (some 4) (.bin .geq (.t 3) (.c (.int .u64 4294967296))) none] [0, 2, 4]) (.cond (.t 4) (.seq (.region 0 [.mk4 0 (some 5) (.mv (.t 0)) none,
    .mk4 1 (some 6) (.bin .shr (.t 5) (.c (.int .u64 32))) none,
    .mk4 2 (some 0) (.mv (.t 6)) none] [0]) (.region 0 [.mk4 0 (some 2) (.mv (.c (.i 32))) none] [0, 2])) (.skip))) (c204_3)
def c204 : AFn := ⟨1, 25, [.tmp 2],
  (.seq (.region 0 [.mk4 0 (some 2) (.mv (.c (.i 0))) none] [0, 2]) (c204_4))⟩
def c205_0 : AC :=
  .seq (.region 0 [.mk4 0 (some 53) (.mv (.t 0)) none,
    .mk4 1 (some 54) (.mv (.t 3)) none,
    .mk4 2 (some 55) (.mv (.t 8)) none,
    .mk4 3 (some 56) (.bin .add (.t 54) (.t 55)) none,
    .mk4 4 (some 57) (.mv (.t 0)) none,
    .mk4 5 (some 58) (.mv (.t 3)) none,
    .mk4 6 (some 59) (.mv (.t 9)) none,
    .mk4 7 (some 60) (.bin .add (.t 58) (.t 59)) none,
    .mk4 8 (some 61) (.mv (.t 0)) none,
    .mk4 9 (some 62) (.mv (.t 3)) none,
    .mk4 10 (some 63) (.mv (.t 9)) none,
    .mk4 11 (some 64) (.bin .add (.t 62) (.t 63)) none,
    .mk4 12 (some 65) (.ixaS 1 (.t 61) (.t 64)) none,
    .mk4 13 (some 66) (.load1 (.t 65)) none,
    .mk4 14 (some 67) (.mv (.t 0)) none,
    .mk4 15 (some 68) (.mv (.t 3)) none,
    .mk4 16 (some 69) (.mv (.t 8)) none,
    .mk4 17 (some 70) (.bin .add (.t 68) (.t 69)) none,
    .mk4 18 (some 71) (.ixaS 1 (.t 67) (.t 70)) none,
    .mk4 19 (some 72) (.load1 (.t 71)) none,
    .mk4 20 (some 73) (.ixaS 1 (.t 53) (.t 56)) none,
    .mk4 21 none (.store 1 (.t 73) (.t 66)) none,
    .mk4 22 (some 74) (.ixaS 1 (.t 57) (.t 60)) none,
    .mk4 23 none (.store 1 (.t 74) (.t 72)) none] [0, 2, 3, 9]) (.region 0 [.mk4 0 (some 75) (.mv (.t 9)) none,
    .mk4 1 (some 8) (.mv (.t 75)) none] [0, 2, 3, 8])
def c205_1 : AC :=
  .seq (.seq (.region 0 [.mk4 0 (some 39) (.mv (.t 0)) none,
    .mk4 1 (some 40) (.mv (.t 3)) none,
    .mk4 2 (some 41) (.mv (.t 8)) none,
    .mk4 3 (some 42) (.bin .add (.t 40) (.t 41)) none,
    .mk4 4 (some 43) (.ixaS 1 (.t 39) (.t 42)) none,
    .mk4 5 (some 44) (.load1 (.t 43)) none,
    .mk4 6 (some 45) (.mv (.t 0)) none,
    .mk4 7 (some 46) (.mv (.t 3)) none,
    .mk4 8 (some 47) (.mv (.t 9)) none,
    .mk4 9 (some 48) (.bin .add (.t 46) (.t 47)) none,
    .mk4 10 (some 49) (.ixaS 1 (.t 45) (.t 48)) none,
    .mk4 11 (some 50) (.load1 (.t 49)) none,
    .mk4 12 (some 51) (.call 200 [(.t 44), (.t 50)]) none,
    .mk4 13 (some 52) (.un .not (.t 51)) none] [0, 2, 3, 8, 9, 52]) (.cond (.t 52) (.ret) (.skip))) (c205_0)
def c205_2 : AC :=
  .seq (.seq (.region 0 [.mk4 0 (some 17) (.mv (.t 9)) none,
    .mk4 1 (some 18) (.bin .add (.t 17) (.c (.i 1))) none,
    .mk4 2 (some 19) (.mv (.t 2)) none,
    .mk4 3 (some 20) (.bin .lss (.t 18) (.t 19)) none,
    .mk4 4 (some 21) (.mv (.t 20)) none,
    .mk4 5 (some 22) (.mv (.t 0)) (some (21, true)),
    .mk4 6 (some 23) (.mv (.t 3)) (some (21, true)),
    .mk4 7 (some 24) (.mv (.t 9)) (some (21, true)),
    .mk4 8 (some 25) (.bin .add (.t 23) (.t 24)) (some (21, true)),
    .mk4 9 (some 26) (.ixaS 1 (.t 22) (.t 25)) (some (21, true)),
    .mk4 10 (some 27) (.load1 (.t 26)) (some (21, true)),
    .mk4 11 (some 28) (.mv (.t 0)) (some (21, true)),
    .mk4 12 (some 29) (.mv (.t 3)) (some (21, true)),
    .mk4 13 (some 30) (.mv (.t 9)) (some (21, true)),
    .mk4 14 (some 31) (.bin .add (.t 29) (.t 30)) (some (21, true)),
    .mk4 15 (some 32) (.bin .add (.t 31) (.c (.i 1))) (some (21, true)),
    .mk4 16 (some 33) (.ixaS 1 (.t 28) (.t 32)) (some (21, true)),
    .mk4 17 (some 34) (.load1 (.t 33)) (some (21, true)),
    .mk4 18 (some 35) (.call 200 [(.t 27), (.t 34)]) (some (21, true)),
    .mk4 19 (some 36) (.pick (.t 21) (.t 35) (.c (.bool false))) none] [0, 2, 3, 8, 9, 36]) (.cond (.t 36) (.region 0 [.mk4 0 (some 37) (.mv (.t 9)) none,
    .mk4 1 (some 38) (.bin .add (.t 37) (.c (.i 1))) none,
    .mk4 2 (some 9) (.mv (.t 38)) none] [0, 2, 3, 8, 9]) (.skip))) (c205_1)
def c205_3 : AC :=
  .seq (.region 0 [.mk4 0 (some 11) (.mv (.t 8)) none,
    .mk4 1 (some 12) (.bin .mul (.c (.i 2)) (.t 11)) none,
    .mk4 2 (some 13) (.bin .add (.t 12) (.c (.i 1))) none,
    .mk4 3 (some 9) (.mv (.t 13)) none] [0, 2, 3, 8, 9]) (.seq (.seq (.region 0 [.mk4 0 (some 14) (.mv (.t 9)) none,
    .mk4 1 (some 15) (.mv (.t 2)) none,
    .mk4 2 (some 16) (.bin .geq (.t 14) (.t 15)) none] [0, 2, 3, 8, 9, 16]) (.cond (.t 16) (.exit 0) (.skip))) (c205_2))
def c205 : AFn := ⟨4, 76, [],
  (.seq (.region 0 [.mk4 0 (some 10) (.mv (.t 1)) none,
    .mk4 1 (some 8) (.mv (.t 10)) none] [0, 2, 3, 8]) (.block 0 (.loop [0, 2, 3, 8] (.block 1 (c205_3)))))⟩
def c206_0 : AC :=
  .seq (.region 0 [.mk4 0 (some 2) (.mv (.c (.int .u64 0))) none] [0]) (.seq (.region 0 [.mk4 0 (some 3) (.mv (.t 0)) none,
    .mk4 1 (some 4) (.convInt .u64 (.t 3)) none,
    .mk4 2 (some 5) (.call 193 [(.t 4)]) none,
    .mk4 3 (some 6) (.bin .shl (.c (.int .u64 1)) (.t 5)) none,
    .mk4 4 (some 2) (.mv (.t 6)) none] [2]) (.ret))
def c206 : AFn := ⟨1, 7, [.tmp 2],
  (c206_0)⟩
def c207_0 : AC :=
  .seq (.region 0 [.mk4 0 (some 21) (.mv (.t 0)) none,
    .mk4 1 (some 22) (.nilck (.t 21)) none,
    .mk4 2 (some 23) (.load1 (.t 22)) none,
    .mk4 3 (some 24) (.mv (.t 0)) none,
    .mk4 4 (some 25) (.nilck (.t 24)) none,
    .mk4 5 (some 26) (.load1 (.t 25)) none,
    .mk4 6 (some 27) (.bin .shl (.t 26) (.c (.int .u64 17))) none,
    .mk4 7 (some 28) (.bin .xor (.t 23) (.t 27)) none,
    .mk4 8 (some 29) (.nilck (.t 21)) none,
    .mk4 9 none (.store 1 (.t 29) (.t 28)) none] [0]) (.seq (.region 0 [.mk4 0 (some 30) (.mv (.t 0)) none,
    .mk4 1 (some 31) (.nilck (.t 30)) none,
    .mk4 2 (some 32) (.load1 (.t 31)) none,
    .mk4 3 (some 2) (.mv (.t 32)) none] [2]) (.ret))
def c207_1 : AC :=
  .seq (.region 0 [.mk4 0 (some 12) (.mv (.t 0)) none,
    .mk4 1 (some 13) (.nilck (.t 12)) none,
    .mk4 2 (some 14) (.load1 (.t 13)) none,
    .mk4 3 (some 15) (.mv (.t 0)) none,
    .mk4 4 (some 16) (.nilck (.t 15)) none,
    .mk4 5 (some 17) (.load1 (.t 16)) none,
    .mk4 6 (some 18) (.bin .shr (.t 17) (.c (.int .u64 7))) none,
    .mk4 7 (some 19) (.bin .xor (.t 14) (.t 18)) none,
    .mk4 8 (some 20) (.nilck (.t 12)) none,
    .mk4 9 none (.store 1 (.t 20) (.t 19)) none] [0]) (c207_0)
def c207_2 : AC :=
  .seq (.region 0 [.mk4 0 (some 3) (.mv (.t 0)) none,
    .mk4 1 (some 4) (.nilck (.t 3)) none,
    .mk4 2 (some 5) (.load1 (.t 4)) none,
    .mk4 3 (some 6) (.mv (.t 0)) none,
    .mk4 4 (some 7) (.nilck (.t 6)) none,
    .mk4 5 (some 8) (.load1 (.t 7)) none,
    .mk4 6 (some 9) (.bin .shl (.t 8) (.c (.int .u64 13))) none,
    .mk4 7 (some 10) (.bin .xor (.t 5) (.t 9)) none,
    .mk4 8 (some 11) (.nilck (.t 3)) none,
    .mk4 9 none (.store 1 (.t 11) (.t 10)) none] [0]) (c207_1)
def c207 : AFn := ⟨1, 33, [.tmp 2],
  (.seq (.region 0 [.mk4 0 (some 2) (.mv (.c (.int .u64 0))) none] [0]) (c207_2))⟩
def c208_0 : AC :=
  .seq (.region 0 [.mk4 0 (some 7) (.mv (.t 0)) none,
    .mk4 1 (some 8) (.mv (.t 1)) none,
    .mk4 2 (some 9) (.bin .sub (.t 8) (.c (.i 1))) none,
    .mk4 3 (some 10) (.mv (.t 1)) none,
    .mk4 4 (some 11) (.mv (.t 1)) none,
    .mk4 5 (some 12) (.bin .add (.t 11) (.c (.i 1))) none,
    .mk4 6 (some 13) (.mv (.t 2)) none,
    .mk4 7 (some 14) (.call 209 [(.t 7), (.t 9), (.t 10), (.t 12), (.t 13)]) none,
    .mk4 8 (some 6) (.mv (.t 14)) none] [6]) (.ret)
def c208 : AFn := ⟨3, 15, [.tmp 6],
  (.seq (.region 0 [.mk4 0 (some 6) (.mv (.c (.i 0))) none] [0, 1, 2]) (c208_0))⟩
def c209_0 : AC :=
  .seq (.region 0 [.mk4 0 (some 28) (.mv (.t 0)) none,
    .mk4 1 (some 29) (.mv (.t 1)) none,
    .mk4 2 (some 30) (.mv (.t 2)) none,
    .mk4 3 (some 31) (.mv (.t 4)) none,
    .mk4 4 (some 32) (.call 211 [(.t 28), (.t 29), (.t 30), (.t 31)]) none,
    .mk4 5 (some 27) (.mv (.t 32)) none,
    .mk4 6 (some 33) (.extract (.t 27) 0) none,
    .mk4 7 (some 34) (.extract (.t 27) 1) none,
    .mk4 8 (some 1) (.mv (.t 33)) none,
    .mk4 9 (some 2) (.mv (.t 34)) none] [2]) (.seq (.region 0 [.mk4 0 (some 35) (.mv (.t 2)) none,
    .mk4 1 (some 10) (.mv (.t 35)) none] [10]) (.ret))
def c209_1 : AC :=
  .seq (.region 0 [.mk4 0 (some 20) (.mv (.t 0)) none,
    .mk4 1 (some 21) (.mv (.t 2)) none,
    .mk4 2 (some 22) (.mv (.t 3)) none,
    .mk4 3 (some 23) (.mv (.t 4)) none,
    .mk4 4 (some 24) (.call 211 [(.t 20), (.t 21), (.t 22), (.t 23)]) none,
    .mk4 5 (some 19) (.mv (.t 24)) none,
    .mk4 6 (some 25) (.extract (.t 19) 0) none,
    .mk4 7 (some 26) (.extract (.t 19) 1) none,
    .mk4 8 (some 2) (.mv (.t 25)) none,
    .mk4 9 (some 3) (.mv (.t 26)) none] [0, 1, 2, 4]) (c209_0)
def c209_2 : AC :=
  .seq (.region 0 [.mk4 0 (some 12) (.mv (.t 0)) none,
    .mk4 1 (some 13) (.mv (.t 1)) none,
    .mk4 2 (some 14) (.mv (.t 2)) none,
    .mk4 3 (some 15) (.mv (.t 4)) none,
    .mk4 4 (some 16) (.call 211 [(.t 12), (.t 13), (.t 14), (.t 15)]) none,
    .mk4 5 (some 11) (.mv (.t 16)) none,
    .mk4 6 (some 17) (.extract (.t 11) 0) none,
    .mk4 7 (some 18) (.extract (.t 11) 1) none,
    .mk4 8 (some 1) (.mv (.t 17)) none,
    .mk4 9 (some 2) (.mv (.t 18)) none] [0, 1, 2, 3, 4]) (c209_1)
def c209 : AFn := ⟨5, 36, [.tmp 10],
  (.seq (.region 0 [.mk4 0 (some 10) (.mv (.c (.i 0))) none] [0, 1, 2, 3, 4]) (c209_2))⟩
def c210 : AFn := ⟨1, 6, [.tmp 2],
  (.seq (.region 0 [.mk4 0 (some 2) (.mv (.c (.bool false))) none] [0]) (.seq (.region 0 [.mk4 0 (some 3) (.mv (.t 0)) none,
    .mk4 1 (some 4) (.mv (.t 0)) none,
    .mk4 2 (some 5) (.bin .neq (.t 3) (.t 4)) none,
    .mk4 3 (some 2) (.mv (.t 5)) none] [2]) (.ret)))⟩
def c211_0 : AC :=
  .seq (.region 0 [.mk4 0 (some 19) (.mv (.t 3)) none,
    .mk4 1 (some 20) (.nilck (.t 19)) none,
    .mk4 2 (some 21) (.load1 (.t 20)) none,
    .mk4 3 (some 22) (.bin .add (.t 21) (.c (.i 1))) none,
    .mk4 4 (some 23) (.nilck (.t 19)) none,
    .mk4 5 none (.store 1 (.t 23) (.t 22)) none] [1, 2]) (.seq (.region 0 [.mk4 0 (some 24) (.mv (.t 2)) none,
    .mk4 1 (some 25) (.mv (.t 1)) none,
    .mk4 2 (some 8) (.mv (.t 24)) none,
    .mk4 3 (some 9) (.mv (.t 25)) none] [8, 9]) (.ret))
def c211_1 : AC :=
  .seq (.seq (.region 0 [.mk4 0 (some 10) (.mv (.t 0)) none,
    .mk4 1 (some 11) (.mv (.t 2)) none,
    .mk4 2 (some 12) (.ixaS 1 (.t 10) (.t 11)) none,
    .mk4 3 (some 13) (.load1 (.t 12)) none,
    .mk4 4 (some 14) (.mv (.t 0)) none,
    .mk4 5 (some 15) (.mv (.t 1)) none,
    .mk4 6 (some 16) (.ixaS 1 (.t 14) (.t 15)) none,
    .mk4 7 (some 17) (.load1 (.t 16)) none,
    .mk4 8 (some 18) (.call 200 [(.t 13), (.t 17)]) none] [1, 2, 3, 18]) (.cond (.t 18) (c211_0) (.skip))) (.seq (.region 0 [.mk4 0 (some 26) (.mv (.t 1)) none,
    .mk4 1 (some 27) (.mv (.t 2)) none,
    .mk4 2 (some 8) (.mv (.t 26)) none,
    .mk4 3 (some 9) (.mv (.t 27)) none] [8, 9]) (.ret))
def c211 : AFn := ⟨4, 28, [.tmp 8, .tmp 9],
  (.seq (.region 0 [.mk4 0 (some 8) (.mv (.c (.i 0))) none,
    .mk4 1 (some 9) (.mv (.c (.i 0))) none] [0, 1, 2, 3]) (c211_1))⟩
def c212_0 : AC :=
  .seq (.seq (.region 0 [.mk4 0 (some 5) (.mv (.t 0)) none,
    .mk4 1 (some 6) (.call 218 [(.t 5)]) none] [2, 6]) (.block 0 (.rangeFunc (.t 6) [7] [2] (.skip) (.block 1 (.seq (.region 0 [.mk4 0 none (.store 1 (.t 2) (.c (.bool true))) none] []) (.ret)))))) (.seq (.region 0 [.mk4 0 none (.store 1 (.t 2) (.c (.bool false))) none] [2]) (.ret))
def c212_1 : AC :=
  .seq (.region 0 [.mk4 0 (some 2) (.alloc 1 [.bool false]) none] [0, 2]) (.seq (.seq (.region 0 [.mk4 0 (some 3) (.mv (.t 0)) none,
    .mk4 1 (some 4) (.call 217 [(.t 3)]) none] [0, 2, 4]) (.cond (.t 4) (.seq (.region 0 [.mk4 0 none (.store 1 (.t 2) (.c (.bool false))) none] [2]) (.ret)) (.skip))) (c212_0))
def c212 : AFn := ⟨1, 8, [.cell1 2],
  (c212_1)⟩
def c213_0 : AC :=
  .seq (.region 0 [.mk4 0 (some 2) (.mv (.c (.bool false))) none] [0]) (.seq (.region 0 [.mk4 0 (some 3) (.mv (.t 0)) none,
    .mk4 1 (some 4) (.nilck (.t 3)) none,
    .mk4 2 (some 5) (.faddr 0 (.t 4)) none,
    .mk4 3 (some 6) (.load1 (.t 5)) none,
    .mk4 4 (some 7) (.call 212 [(.t 6)]) none,
    .mk4 5 (some 2) (.mv (.t 7)) none] [2]) (.ret))
def c213 : AFn := ⟨1, 8, [.tmp 2],
  (c213_0)⟩
def c214_0 : AC :=
  .region 0 [.mk4 0 (some 13) (.mv (.t 0)) none,
    .mk4 1 (some 14) (.nilck (.t 13)) none,
    .mk4 2 (some 15) (.faddr 0 (.t 14)) none,
    .mk4 3 (some 16) (.load1 (.t 15)) none,
    .mk4 4 (some 17) (.mv (.t 7)) none,
    .mk4 5 (some 18) (.mv (.t 6)) none,
    .mk4 6 (some 19) (.build [.i 0, .i 0, .i 0, .i 0] [(0, 1, (.t 17)), (1, 1, (.c (.i 3))), (2, 1, (.t 18))]) none,
    .mk4 7 (some 20) (.bslice 4 1 [.i 0, .i 0, .i 0, .i 0] [(0, (.t 19))]) none,
    .mk4 8 (some 21) (.call 219 [(.t 16), (.t 20)]) none] [0, 6, 7]
def c214_1 : AC :=
  .seq (.seq (.region 0 [.mk4 0 (some 9) (.mv (.t 7)) none,
    .mk4 1 (some 10) (.bin .leq (.t 9) (.c (.i 31))) none] [0, 6, 7, 10]) (.cond (.t 10) (.skip) (.exit 0))) (.seq (.block 1 (c214_0)) (.region 0 [.mk4 0 (some 11) (.mv (.t 7)) none,
    .mk4 1 (some 12) (.bin .add (.t 11) (.c (.i 1))) none,
    .mk4 2 (some 7) (.mv (.t 12)) none] [0, 6, 7]))
def c214_2 : AC :=
  .seq (.region 0 [.mk4 0 (some 6) (.mv (.c (.i 2))) none] [0, 2, 6]) (.seq (.seq (.region 0 [.mk4 0 (some 8) (.mv (.t 2)) none] [0, 6, 8]) (.cond (.t 8) (.region 0 [.mk4 0 (some 6) (.mv (.c (.i 1))) none] [0, 6]) (.skip))) (.seq (.region 0 [.mk4 0 (some 7) (.mv (.c (.i 1))) none] [0, 6, 7]) (.block 0 (.loop [0, 6, 7] (c214_1)))))
def c214 : AFn := ⟨3, 22, [],
  (c214_2)⟩
def c215_0 : AC :=
  .region 0 [.mk4 0 (some 44) (.mv (.t 9)) none,
    .mk4 1 (some 45) (.faddr 0 (.t 11)) none,
    .mk4 2 (some 46) (.load1 (.t 45)) none,
    .mk4 3 (some 47) (.build [.i 0, .i 0] [(0, 1, (.t 46)), (1, 1, (.c (.i 4)))]) none,
    .mk4 4 (some 48) (.bslice 2 1 [.i 0, .i 0] [(0, (.t 47))]) none,
    .mk4 5 (some 49) (.append 2 16 (.t 44) (.t 48)) none,
    .mk4 6 (some 9) (.mv (.t 49)) none] [9, 22, 23, 24]
def c215_1 : AC :=
  .region 0 [.mk4 0 (some 30) (.mv (.t 9)) none,
    .mk4 1 (some 31) (.build [.i 0, .i 0] [(0, 1, (.c (.i (-1))))]) none,
    .mk4 2 (some 32) (.bslice 2 1 [.i 0, .i 0] [(0, (.t 31))]) none,
    .mk4 3 (some 33) (.append 2 16 (.t 30) (.t 32)) none,
    .mk4 4 (some 9) (.mv (.t 33)) none] [9, 22, 23, 24]
def c215_2 : AC :=
  .region 0 [.mk4 0 (some 36) (.mv (.t 9)) none,
    .mk4 1 (some 37) (.faddr 0 (.t 11)) none,
    .mk4 2 (some 38) (.load1 (.t 37)) none,
    .mk4 3 (some 39) (.build [.i 0, .i 0] [(0, 1, (.t 38)), (1, 1, (.c (.i 2)))]) none,
    .mk4 4 (some 40) (.bslice 2 1 [.i 0, .i 0] [(0, (.t 39))]) none,
    .mk4 5 (some 41) (.append 2 16 (.t 36) (.t 40)) none,
    .mk4 6 (some 9) (.mv (.t 41)) none] [9, 22, 23, 24]
def c215_3 : AC :=
  .seq (.region 0 [.mk4 0 (some 35) (.bin .eql (.t 29) (.c (.i 1))) none,
    .mk4 1 (some 34) (.mv (.t 35)) none] [9, 11, 22, 23, 24, 29, 34]) (.cond (.t 34) (c215_2) (.seq (.region 0 [.mk4 0 (some 43) (.bin .eql (.t 29) (.c (.i 2))) none,
    .mk4 1 (some 42) (.mv (.t 43)) none] [9, 11, 22, 23, 24, 42]) (.cond (.t 42) (c215_0) (c215_1))))
def c215_4 : AC :=
  .seq (.region 0 [.mk4 0 (some 26) (.ixaS 4 (.t 22) (.t 24)) none,
    .mk4 1 (some 27) (.loadN 4 (.t 26)) none,
    .mk4 2 (some 11) (.alloc 4 [.i 0, .i 0, .i 0, .i 0]) none,
    .mk4 3 none (.store 4 (.t 11) (.t 27)) none] [9, 11, 22, 23, 24]) (.seq (.region 0 [.mk4 0 (some 28) (.faddr 1 (.t 11)) none,
    .mk4 1 (some 29) (.load1 (.t 28)) none] [9, 11, 22, 23, 24, 29]) (.block 2 (c215_3)))
def c215_5 : AC :=
  .loop [9, 22, 23, 24] (.seq (.region 0 [.mk4 0 (some 25) (.bin .lss (.t 24) (.t 23)) none] [9, 22, 23, 24, 25]) (.seq (.cond (.t 25) (.skip) (.exit 0)) (.seq (.block 1 (c215_4)) (.region 0 [.mk4 0 (some 50) (.bin .add (.t 24) (.c (.i 1))) none,
    .mk4 1 (some 24) (.mv (.t 50)) none] [9, 22, 23, 24]))))
def c215_6 : AC :=
  .seq (.region 0 [.mk4 0 (some 9) (.mv (.c (.nils))) none] [7, 9]) (.seq (.seq (.region 0 [.mk4 0 (some 22) (.mv (.t 7)) none,
    .mk4 1 (some 23) (.lenL (.t 22)) none,
    .mk4 2 (some 24) (.mv (.c (.i 0))) none] [9, 22, 23, 24]) (.block 0 (c215_5))) (.seq (.region 0 [.mk4 0 (some 51) (.mv (.t 9)) none,
    .mk4 1 (some 6) (.mv (.t 51)) none] [6]) (.ret)))
def c215_7 : AC :=
  .seq (.region 0 [.mk4 0 (some 13) (.mv (.t 0)) none,
    .mk4 1 (some 14) (.nilck (.t 13)) none,
    .mk4 2 (some 15) (.faddr 0 (.t 14)) none,
    .mk4 3 (some 16) (.load1 (.t 15)) none,
    .mk4 4 (some 17) (.mv (.t 1)) none,
    .mk4 5 (some 18) (.mv (.t 2)) none,
    .mk4 6 (some 19) (.call 220 [(.t 16), (.t 17), (.t 18)]) none,
    .mk4 7 (some 12) (.mv (.t 19)) none,
    .mk4 8 (some 20) (.extract (.t 12) 0) none,
    .mk4 9 (some 21) (.extract (.t 12) 1) none,
    .mk4 10 (some 7) (.mv (.t 20)) none,
    .mk4 11 (some 8) (.mv (.t 21)) none] [7]) (c215_6)
def c215 : AFn := ⟨3, 52, [.tmp 6],
  (.seq (.region 0 [.mk4 0 (some 6) (.mv (.c (.nils))) none] [0, 1, 2]) (c215_7))⟩
def c216_0 : AC :=
  .region 0 [.mk4 0 (some 4) (.mv (.t 0)) none,
    .mk4 1 (some 5) (.nilck (.t 4)) none,
    .mk4 2 (some 6) (.faddr 0 (.t 5)) none,
    .mk4 3 (some 7) (.load1 (.t 6)) none,
    .mk4 4 (some 8) (.loadN 3 (.t 3)) none,
    ⟨5, (some 9), .call 221 [(.t 8)], none, none, [(7, .load1 (.t 6), none)]⟩,
    .mk4 6 (some 10) (.call 219 [(.t 7), (.t 9)]) none] []
def c216 : AFn := ⟨2, 11, [],
  (.seq (.region 0 [.mk4 0 (some 3) (.box 3 (.t 1)) none] [0, 3]) (c216_0))⟩
def c217_0 : AC :=
  .seq (.region 0 [.mk4 0 (some 3) (.mv (.t 0)) none,
    .mk4 1 (some 4) (.eq .ptr false (.t 3) (.c (.ptr none))) none,
    .mk4 2 (some 5) (.mv (.t 4)) none,
    .mk4 3 (some 6) (.mv (.t 0)) (some (5, false)),
    .mk4 4 (some 7) (.nilck (.t 6)) (some (5, false)),
    .mk4 5 (some 8) (.faddr 0 (.t 7)) (some (5, false)),
    .mk4 6 (some 9) (.load1 (.t 8)) (some (5, false)),
    .mk4 7 (some 10) (.eq .ptr false (.t 9) (.c (.ptr none))) (some (5, false)),
    .mk4 8 (some 11) (.pick (.t 5) (.c (.bool true)) (.t 10)) none,
    .mk4 9 (some 2) (.mv (.t 11)) none] [2]) (.ret)
def c217 : AFn := ⟨1, 12, [.tmp 2],
  (.seq (.region 0 [.mk4 0 (some 2) (.mv (.c (.bool false))) none] [0]) (c217_0))⟩
def c218 : AFn := ⟨1, 4, [.tmp 2],
  (.seq (.region 0 [.mk4 0 (some 1) (.box 1 (.t 0)) none,
    .mk4 1 (some 2) (.mv (.c (.nilfn))) none] [1]) (.seq (.region 0 [.mk4 0 (some 3) (.mkClo 222 [(.t 1)]) none,
    .mk4 1 (some 2) (.mv (.t 3)) none] [2]) (.ret)))⟩
def c219_0 : AC :=
  .region 0 [.mk4 0 (some 29) (.mv (.t 6)) none,
    .mk4 1 (some 30) (.faddr 0 (.t 8)) none,
    .mk4 2 (some 31) (.load1 (.t 30)) none,
    .mk4 3 (some 32) (.faddr 1 (.t 8)) none,
    .mk4 4 (some 33) (.load1 (.t 32)) none,
    .mk4 5 (some 34) (.mv (.t 9)) none,
    .mk4 6 (some 35) (.build [.i 0, .i 0, .i 0, .i 0] [(0, 1, (.t 31)), (1, 1, (.t 33)), (2, 1, (.c (.i 256))), (3, 1, (.t 34))]) none,
    .mk4 7 (some 36) (.bslice 4 1 [.i 0, .i 0, .i 0, .i 0] [(0, (.t 35))]) none,
    .mk4 8 (some 37) (.append 4 32 (.t 29) (.t 36)) none,
    .mk4 9 (some 6) (.mv (.t 37)) none] [0, 6, 12, 13, 14]
def c219_1 : AC :=
  .seq (.seq (.region 0 [.mk4 0 (some 21) (.mv (.t 9)) none,
    .mk4 1 (some 22) (.bin .eql (.t 21) (.c (.i 0))) none,
    .mk4 2 (some 23) (.mv (.t 22)) none,
    .mk4 3 (some 24) (.faddr 2 (.t 8)) (some (23, true)),
    .mk4 4 (some 25) (.load1 (.t 24)) (some (23, true)),
    .mk4 5 (some 26) (.bin .and (.t 25) (.c (.i 64))) (some (23, true)),
    .mk4 6 (some 27) (.bin .eql (.t 26) (.c (.i 0))) (some (23, true)),
    .mk4 7 (some 28) (.pick (.t 23) (.t 27) (.c (.bool false))) none] [0, 6, 8, 9, 12, 13, 14, 28]) (.cond (.t 28) (.exit 1) (.skip))) (c219_0)
def c219_2 : AC :=
  .seq (.region 0 [.mk4 0 (some 16) (.ixaS 4 (.t 12) (.t 14)) none,
    .mk4 1 (some 17) (.loadN 4 (.t 16)) none,
    .mk4 2 (some 8) (.alloc 4 [.i 0, .i 0, .i 0, .i 0]) none,
    .mk4 3 none (.store 4 (.t 8) (.t 17)) none] [0, 6, 8, 12, 13, 14]) (.seq (.region 0 [.mk4 0 (some 18) (.mv (.t 0)) none,
    .mk4 1 (some 19) (.loadN 4 (.t 8)) none,
    .mk4 2 (some 20) (.call 225 [(.t 18), (.t 19)]) none,
    .mk4 3 (some 9) (.mv (.t 20)) none] [0, 6, 8, 9, 12, 13, 14]) (c219_1))
def c219_3 : AC :=
  .loop [0, 6, 12, 13, 14] (.seq (.region 0 [.mk4 0 (some 15) (.bin .lss (.t 14) (.t 13)) none] [0, 6, 12, 13, 14, 15]) (.seq (.cond (.t 15) (.skip) (.exit 0)) (.seq (.block 1 (c219_2)) (.region 0 [.mk4 0 (some 38) (.bin .add (.t 14) (.c (.i 1))) none,
    .mk4 1 (some 14) (.mv (.t 38)) none] [0, 6, 12, 13, 14]))))
def c219_4 : AC :=
  .seq (.seq (.region 0 [.mk4 0 (some 12) (.mv (.t 1)) none,
    .mk4 1 (some 13) (.lenL (.t 12)) none,
    .mk4 2 (some 14) (.mv (.c (.i 0))) none] [0, 6, 12, 13, 14]) (.block 0 (c219_3))) (.seq (.region 0 [.mk4 0 (some 39) (.mv (.t 6)) none,
    .mk4 1 (some 4) (.mv (.t 39)) none,
    .mk4 2 (some 5) (.mv (.c (.i 0))) none] [4, 5]) (.ret))
def c219_5 : AC :=
  .scope (.seq (.seq (.region 0 [.mk4 0 (some 10) (.mv (.t 0)) none,
    .mk4 1 (some 11) (.call 217 [(.t 10)]) none] [0, 1, 11]) (.cond (.t 11) (.seq (.region 0 [.mk4 0 (some 4) (.mv (.c (.nils))) none,
    .mk4 1 (some 5) (.mv (.c (.i 1))) none] [4, 5]) (.ret)) (.skip))) (.seq (.region 0 [.mk4 0 (some 6) (.mv (.c (.nils))) none] [0, 1, 6]) (.seq (.label 0) (c219_4))))
def c219 : AFn := ⟨2, 40, [.tmp 4, .tmp 5],
  (.seq (.region 0 [.mk4 0 (some 4) (.mv (.c (.nils))) none,
    .mk4 1 (some 5) (.mv (.c (.i 0))) none] [0, 1]) (c219_5))⟩
def c220_0 : AC :=
  .region 0 [.mk4 0 (some 69) (.mv (.t 0)) none,
    .mk4 1 (some 70) (.nilck (.t 69)) none,
    .mk4 2 (some 71) (.faddr 1 (.t 70)) none,
    .mk4 3 (some 72) (.load1 (.t 71)) none,
    .mk4 4 (some 73) (.loadN 2 (.t 11)) none,
    .mk4 5 none (.mdel (.agg [.int .i64, .int .i64]) (.t 72) (.t 73)) none] [0, 8, 30, 31, 32]
def c220_1 : AC :=
  .seq (.region 0 [.mk4 0 (some 59) (.mv (.t 0)) none,
    .mk4 1 (some 60) (.nilck (.t 59)) none,
    .mk4 2 (some 61) (.faddr 1 (.t 60)) none,
    .mk4 3 (some 62) (.load1 (.t 61)) none,
    .mk4 4 (some 63) (.loadN 2 (.t 11)) none,
    .mk4 5 (some 64) (.loadN 4 (.t 12)) none,
    .mk4 6 none (.mput (.agg [.int .i64, .int .i64]) (.t 62) (.t 63) (.t 64)) none] [0, 8, 11, 12, 30, 31, 32]) (.seq (.region 0 [.mk4 0 (some 65) (.faddr 1 (.t 12)) none,
    .mk4 1 (some 66) (.load1 (.t 65)) none,
    .mk4 2 (some 67) (.bin .and (.t 66) (.c (.i 32))) none,
    .mk4 3 (some 68) (.bin .neq (.t 67) (.c (.i 0))) none] [0, 8, 11, 30, 31, 32, 68]) (.cond (.t 68) (c220_0) (.skip)))
def c220_2 : AC :=
  .seq (.region 0 [.mk4 0 (some 47) (.faddr 1 (.t 11)) none,
    .mk4 1 (some 48) (.load1 (.t 47)) none,
    .mk4 2 (some 49) (.mv (.t 0)) none,
    .mk4 3 (some 50) (.nilck (.t 49)) none,
    .mk4 4 (some 51) (.faddr 0 (.t 50)) none,
    .mk4 5 (some 52) (.load1 (.t 51)) none,
    .mk4 6 (some 53) (.faddr 0 (.t 11)) none,
    .mk4 7 (some 54) (.load1 (.t 53)) none,
    ⟨8, (some 55), .call 99 [(.t 52), (.t 54)], none, none, [(48, .load1 (.t 47), none)]⟩,
    .mk4 9 (some 56) (.call 228 [(.t 48), (.t 55)]) none,
    .mk4 10 (some 57) (.faddr 2 (.t 12)) none,
    .mk4 11 none (.store 1 (.t 57) (.c (.bool false))) none,
    .mk4 12 (some 58) (.faddr 3 (.t 12)) none,
    .mk4 13 none (.store 1 (.t 58) (.t 56)) none] [0, 8, 11, 12, 30, 31, 32]) (c220_1)
def c220_3 : AC :=
  .seq (.region 1 [.mk4 0 (some 41) (.mv (.t 0)) none,
    .mk4 1 (some 42) (.nilck (.t 41)) none,
    .mk4 2 (some 43) (.faddr 1 (.t 42)) none,
    .mk4 3 (some 44) (.load1 (.t 43)) none,
    .mk4 4 (some 45) (.loadN 2 (.t 11)) none,
    .mk4 5 (some 46) (.lookup (.agg [.int .i64, .int .i64]) (.agg [.i 0, .i 0, .bool false, .int .u64 0]) false (.t 44) (.t 45)) none,
    ⟨6, (some 12), .alloc 4 [.i 0, .i 0, .bool false, .int .u64 0], none, some 0, []⟩,
    .mk4 7 none (.store 4 (.t 12) (.t 46)) none] [0, 8, 11, 12, 30, 31, 32]) (c220_2)
def c220_4 : AC :=
  .seq (.region 0 [.mk4 0 (some 36) (.faddr 0 (.t 10)) none,
    .mk4 1 (some 37) (.load1 (.t 36)) none,
    .mk4 2 (some 38) (.faddr 1 (.t 10)) none,
    .mk4 3 (some 39) (.load1 (.t 38)) none,
    .mk4 4 (some 40) (.build [.i 0, .i 0] [(0, 1, (.t 37)), (1, 1, (.t 39))]) none,
    .mk4 5 (some 11) (.alloc 2 [.i 0, .i 0]) none,
    .mk4 6 none (.store 2 (.t 11) (.t 40)) none] [0, 8, 11, 30, 31, 32]) (c220_3)
def c220_5 : AC :=
  .seq (.block 2 (.seq (.region 0 [.mk4 0 (some 34) (.ixaS 4 (.t 30) (.t 32)) none,
    .mk4 1 (some 35) (.loadN 4 (.t 34)) none,
    .mk4 2 (some 10) (.alloc 4 [.i 0, .i 0, .i 0, .i 0]) none,
    .mk4 3 none (.store 4 (.t 10) (.t 35)) none] [0, 8, 10, 30, 31, 32]) (c220_4))) (.region 0 [.mk4 0 (some 74) (.bin .add (.t 32) (.c (.i 1))) none,
    .mk4 1 (some 32) (.mv (.t 74)) none] [0, 8, 30, 31, 32])
def c220_6 : AC :=
  .seq (.seq (.region 0 [.mk4 0 (some 30) (.mv (.t 8)) none,
    .mk4 1 (some 31) (.lenL (.t 30)) none,
    .mk4 2 (some 32) (.mv (.c (.i 0))) none] [0, 8, 30, 31, 32]) (.block 1 (.loop [0, 8, 30, 31, 32] (.seq (.region 0 [.mk4 0 (some 33) (.bin .lss (.t 32) (.t 31)) none] [0, 8, 30, 31, 32, 33]) (.seq (.cond (.t 33) (.skip) (.exit 1)) (c220_5)))))) (.seq (.region 0 [.mk4 0 (some 75) (.mv (.t 8)) none,
    .mk4 1 (some 6) (.mv (.t 75)) none,
    .mk4 2 (some 7) (.mv (.c (.i 0))) none] [6, 7]) (.ret))
def c220_7 : AC :=
  .seq (.region 0 [.mk4 0 (some 24) (.mv (.t 8)) none,
    .mk4 1 (some 25) (.mv (.t 1)) none,
    .mk4 2 (some 26) (.mv (.t 8)) none,
    .mk4 3 (some 27) (.lenL (.t 26)) none,
    .mk4 4 (some 28) (.minI [(.t 25), (.t 27)]) none,
    .mk4 5 (some 29) (.slice 4 (.t 24) none (some (.t 28)) none) none,
    .mk4 6 (some 8) (.mv (.t 29)) none] [0, 8]) (c220_6)
def c220_8 : AC :=
  .seq (.region 0 [.mk4 0 (some 17) (.mv (.t 1)) none,
    .mk4 1 (some 18) (.bin .lss (.t 17) (.c (.i 1))) none,
    .mk4 2 (some 16) (.mv (.t 18)) none] [0, 1, 2, 16]) (.cond (.t 16) (.seq (.region 0 [.mk4 0 (some 6) (.mv (.c (.nils))) none,
    .mk4 1 (some 7) (.mv (.c (.i 2))) none] [6, 7]) (.ret)) (.skip))
def c220_9 : AC :=
  .seq (.region 0 [.mk4 0 (some 14) (.mv (.t 0)) none,
    .mk4 1 (some 15) (.call 217 [(.t 14)]) none,
    .mk4 2 (some 13) (.mv (.t 15)) none] [0, 1, 2, 13]) (.cond (.t 13) (.seq (.region 0 [.mk4 0 (some 6) (.mv (.c (.nils))) none,
    .mk4 1 (some 7) (.mv (.c (.i 1))) none] [6, 7]) (.ret)) (c220_8))
def c220_10 : AC :=
  .seq (.region 0 [.mk4 0 (some 19) (.mv (.t 0)) none,
    .mk4 1 (some 20) (.call 218 [(.t 19)]) none,
    .mk4 2 (some 21) (.call 227 [(.t 20)]) none,
    .mk4 3 (some 22) (.mv (.t 2)) none,
    .mk4 4 (some 23) (.call 226 [(.t 21), (.t 22)]) none,
    .mk4 5 (some 8) (.mv (.t 23)) none] [0, 1, 8]) (c220_7)
def c220 : AFn := ⟨3, 76, [.tmp 6, .tmp 7],
  (.seq (.region 0 [.mk4 0 (some 6) (.mv (.c (.nils))) none,
    .mk4 1 (some 7) (.mv (.c (.i 0))) none] [0, 1, 2]) (.seq (.block 0 (c220_9)) (c220_10)))⟩
def c221_0 : AC :=
  .seq (.region 0 [.mk4 0 (some 48) (.faddr 2 (.t 1)) none,
    .mk4 1 (some 49) (.load1 (.t 48)) none,
    .mk4 2 (some 50) (.bin .and (.t 49) (.c (.i 32))) none,
    .mk4 3 (some 51) (.bin .neq (.t 50) (.c (.i 0))) none] [1, 3, 8, 11, 12, 51]) (.cond (.t 51) (.region 0 [.mk4 0 (some 52) (.faddr 2 (.t 8)) none,
    .mk4 1 (some 53) (.load1 (.t 52)) none,
    .mk4 2 (some 54) (.bin .or (.t 53) (.c (.i 16))) none,
    .mk4 3 (some 55) (.faddr 2 (.t 8)) none,
    .mk4 4 none (.store 1 (.t 55) (.t 54)) none] [1, 3, 8, 11, 12]) (.skip))
def c221_1 : AC :=
  .seq (.region 0 [.mk4 0 (some 57) (.mv (.t 6)) none,
    .mk4 1 (some 58) (.mv (.t 57)) none,
    .mk4 2 (some 59) (.mv (.t 7)) (some (58, true)),
    .mk4 3 (some 60) (.un .not (.t 59)) (some (58, true)),
    .mk4 4 (some 61) (.pick (.t 58) (.t 60) (.c (.bool false))) none,
    .mk4 5 (some 56) (.mv (.t 61)) none] [1, 3, 8, 11, 12, 56]) (.cond (.t 56) (.region 0 [.mk4 0 (some 62) (.faddr 2 (.t 8)) none,
    .mk4 1 none (.store 1 (.t 62) (.c (.i 2))) none] [1, 3, 8, 11, 12]) (.exit 1))
def c221_2 : AC :=
  .seq (.region 0 [.mk4 0 (some 33) (.mv (.t 7)) none,
    .mk4 1 (some 34) (.mv (.t 33)) none,
    .mk4 2 (some 35) (.mv (.t 6)) (some (34, true)),
    .mk4 3 (some 36) (.un .not (.t 35)) (some (34, true)),
    .mk4 4 (some 37) (.mv (.t 36)) (some (34, true)),
    .mk4 5 (some 38) (.faddr 1 (.t 1)) (some (37, false)),
    .mk4 6 (some 39) (.load1 (.t 38)) (some (37, false)),
    .mk4 7 (some 40) (.faddr 2 (.t 1)) (some (37, false)),
    .mk4 8 (some 41) (.load1 (.t 40)) (some (37, false)),
    .mk4 9 (some 42) (.bin .xor (.t 39) (.t 41)) (some (37, false)),
    .mk4 10 (some 43) (.bin .and (.t 42) (.c (.i 32))) (some (37, false)),
    .mk4 11 (some 44) (.bin .neq (.t 43) (.c (.i 0))) (some (37, false)),
    .mk4 12 (some 45) (.pick (.t 37) (.c (.bool true)) (.t 44)) (some (34, true)),
    .mk4 13 (some 46) (.pick (.t 34) (.t 45) (.c (.bool false))) none,
    .mk4 14 (some 32) (.mv (.t 46)) none] [1, 3, 6, 7, 8, 11, 12, 32]) (.cond (.t 32) (.seq (.region 0 [.mk4 0 (some 47) (.faddr 2 (.t 8)) none,
    .mk4 1 none (.store 1 (.t 47) (.c (.i 1))) none] [1, 3, 8, 11, 12]) (c221_0)) (c221_1))
def c221_3 : AC :=
  .seq (.block 2 (c221_2)) (.region 0 [.mk4 0 (some 63) (.mv (.t 3)) none,
    .mk4 1 (some 64) (.loadN 4 (.t 8)) none,
    .mk4 2 (some 65) (.bslice 4 1 [.i 0, .i 0, .i 0, .i 0] [(0, (.t 64))]) none,
    .mk4 3 (some 66) (.append 4 32 (.t 63) (.t 65)) none,
    .mk4 4 (some 3) (.mv (.t 66)) none] [1, 3, 11, 12])
def c221_4 : AC :=
  .seq (.region 0 [.mk4 0 (some 27) (.faddr 0 (.t 1)) none,
    .mk4 1 (some 28) (.load1 (.t 27)) none,
    .mk4 2 (some 29) (.ixaA 2 1 (.t 5) (.c (.i 1))) none,
    .mk4 3 (some 30) (.load1 (.t 29)) none,
    .mk4 4 (some 31) (.build [.i 0, .i 0, .i 0, .i 0] [(0, 1, (.t 28)), (1, 1, (.t 30))]) none,
    .mk4 5 (some 8) (.alloc 4 [.i 0, .i 0, .i 0, .i 0]) none,
    .mk4 6 none (.store 4 (.t 8) (.t 31)) none] [1, 3, 6, 7, 8, 11, 12]) (c221_3)
def c221_5 : AC :=
  .seq (.region 0 [.mk4 0 (some 15) (.faddr 1 (.t 1)) none,
    .mk4 1 (some 16) (.load1 (.t 15)) none,
    .mk4 2 (some 17) (.ixaA 2 1 (.t 5) (.c (.i 0))) none,
    .mk4 3 (some 18) (.load1 (.t 17)) none,
    .mk4 4 (some 19) (.bin .and (.t 16) (.t 18)) none,
    .mk4 5 (some 20) (.bin .neq (.t 19) (.c (.i 0))) none,
    .mk4 6 (some 21) (.faddr 2 (.t 1)) none,
    .mk4 7 (some 22) (.load1 (.t 21)) none,
    .mk4 8 (some 23) (.ixaA 2 1 (.t 5) (.c (.i 0))) none,
    .mk4 9 (some 24) (.load1 (.t 23)) none,
    .mk4 10 (some 25) (.bin .and (.t 22) (.t 24)) none,
    .mk4 11 (some 26) (.bin .neq (.t 25) (.c (.i 0))) none,
    .mk4 12 (some 6) (.mv (.t 20)) none,
    .mk4 13 (some 7) (.mv (.t 26)) none] [1, 3, 5, 6, 7, 11, 12]) (c221_4)
def c221_6 : AC :=
  .seq (.block 1 (.seq (.region 0 [.mk4 0 (some 14) (.ixA 2 2 (some 2) (.t 11) (.t 12)) none,
    .mk4 1 (some 5) (.alloc 2 [.i 0, .i 0]) none,
    .mk4 2 none (.store 2 (.t 5) (.t 14)) none] [1, 3, 5, 11, 12]) (c221_5))) (.region 0 [.mk4 0 (some 67) (.bin .add (.t 12) (.c (.i 1))) none,
    .mk4 1 (some 12) (.mv (.t 67)) none] [1, 3, 11, 12])
def c221_7 : AC :=
  .seq (.seq (.region 0 [.mk4 0 (some 9) (.build [.i 0, .i 0] [(0, 1, (.c (.i 2))), (1, 1, (.c (.i 1)))]) none,
    .mk4 1 (some 10) (.build [.i 0, .i 0] [(0, 1, (.c (.i 4))), (1, 1, (.c (.i 2)))]) none,
    .mk4 2 (some 11) (.build [.i 0, .i 0, .i 0, .i 0] [(0, 2, (.t 9)), (2, 2, (.t 10))]) none,
    .mk4 3 (some 12) (.mv (.c (.i 0))) none] [1, 3, 11, 12]) (.block 0 (.loop [1, 3, 11, 12] (.seq (.region 0 [.mk4 0 (some 13) (.bin .lss (.t 12) (.c (.i 2))) none] [1, 3, 11, 12, 13]) (.seq (.cond (.t 13) (.skip) (.exit 0)) (c221_6)))))) (.seq (.region 0 [.mk4 0 (some 68) (.mv (.t 3)) none,
    .mk4 1 (some 2) (.mv (.t 68)) none] [2]) (.ret))
def c221 : AFn := ⟨1, 69, [.tmp 2],
  (.seq (.region 0 [.mk4 0 (some 1) (.box 3 (.t 0)) none,
    .mk4 1 (some 2) (.mv (.c (.nils))) none] [1]) (.seq (.region 0 [.mk4 0 (some 3) (.mv (.c (.nils))) none] [1, 3]) (c221_7)))⟩
def c222_0 : AC :=
  .seq (.region 0 [.mk4 0 (some 20) (.mv (.t 6)) none,
    .mk4 1 (some 21) (.mv (.t 20)) none,
    .mk4 2 (some 22) (.mv (.t 0)) (some (21, true)),
    .mk4 3 (some 23) (.loadN 4 (.t 5)) (some (21, true)),
    .mk4 4 (some 24) (.callv (.t 22) [(.t 23)]) (some (21, true)),
    .mk4 5 (some 25) (.un .not (.t 24)) (some (21, true)),
    .mk4 6 (some 26) (.pick (.t 21) (.t 25) (.c (.bool false))) none] [0, 1, 8, 9, 10, 26]) (.cond (.t 26) (.ret) (.skip))
def c222_1 : AC :=
  .seq (.region 0 [.mk4 0 (some 15) (.load1 (.t 1)) none,
    .mk4 1 (some 16) (.loadN 2 (.t 4)) none,
    .mk4 2 (some 17) (.call 224 [(.t 15), (.t 16)]) none,
    .mk4 3 (some 14) (.mv (.t 17)) none,
    .mk4 4 (some 18) (.extract (.t 14) 0) none,
    .mk4 5 (some 19) (.extract (.t 14) 1) none,
    .mk4 6 (some 5) (.alloc 4 [.i 0, .i 0, .i 0, .i 0]) none,
    .mk4 7 none (.store 4 (.t 5) (.t 18)) none,
    .mk4 8 (some 6) (.mv (.t 19)) none] [0, 1, 5, 6, 8, 9, 10]) (c222_0)
def c222_2 : AC :=
  .seq (.block 1 (.seq (.region 0 [.mk4 0 (some 12) (.ixaS 2 (.t 8) (.t 10)) none,
    .mk4 1 (some 13) (.loadN 2 (.t 12)) none,
    .mk4 2 (some 4) (.alloc 2 [.i 0, .i 0]) none,
    .mk4 3 none (.store 2 (.t 4) (.t 13)) none] [0, 1, 4, 8, 9, 10]) (c222_1))) (.region 0 [.mk4 0 (some 27) (.bin .add (.t 10) (.c (.i 1))) none,
    .mk4 1 (some 10) (.mv (.t 27)) none] [0, 1, 8, 9, 10])
def c222_3 : AC :=
  .seq (.region 0 [.mk4 0 (some 7) (.load1 (.t 1)) none,
    .mk4 1 (some 8) (.call 223 [(.t 7)]) none,
    .mk4 2 (some 9) (.lenL (.t 8)) none,
    .mk4 3 (some 10) (.mv (.c (.i 0))) none] [0, 1, 8, 9, 10]) (.block 0 (.loop [0, 1, 8, 9, 10] (.seq (.region 0 [.mk4 0 (some 11) (.bin .lss (.t 10) (.t 9)) none] [0, 1, 8, 9, 10, 11]) (.seq (.cond (.t 11) (.skip) (.exit 0)) (c222_2)))))
def c222 : AFn := ⟨2, 28, [],
  (c222_3)⟩
def c223_0 : AC :=
  .seq (.region 0 [.mk4 0 (some 22) (.mv (.t 6)) none] [0, 3, 4, 11, 22]) (.cond (.t 22) (.region 0 [.mk4 0 (some 23) (.mv (.t 3)) none,
    .mk4 1 (some 24) (.loadN 2 (.t 4)) none,
    .mk4 2 (some 25) (.bslice 2 1 [.i 0, .i 0] [(0, (.t 24))]) none,
    .mk4 3 (some 26) (.append 2 16 (.t 23) (.t 25)) none,
    .mk4 4 (some 3) (.mv (.t 26)) none] [0, 3, 11]) (.skip))
def c223_1 : AC :=
  .seq (.region 0 [.mk4 0 (some 17) (.mv (.t 0)) none,
    .mk4 1 (some 18) (.loadN 2 (.t 4)) none,
    .mk4 2 (some 19) (.call 229 [(.t 17), (.t 18)]) none,
    .mk4 3 (some 16) (.mv (.t 19)) none,
    .mk4 4 (some 20) (.extract (.t 16) 0) none,
    .mk4 5 (some 21) (.extract (.t 16) 1) none,
    .mk4 6 (some 5) (.alloc 4 [.i 0, .i 0, .bool false, .int .u64 0]) none,
    .mk4 7 none (.store 4 (.t 5) (.t 20)) none,
    .mk4 8 (some 6) (.mv (.t 21)) none] [0, 3, 4, 6, 11]) (c223_0)
def c223_2 : AC :=
  .seq (.region 0 [.mk4 0 (some 12) (.next false (.t 11)) none,
    .mk4 1 (some 13) (.extract (.t 12) 0) none] [0, 3, 11, 13]) (.seq (.cond (.t 13) (.skip) (.exit 0)) (.block 1 (.seq (.region 0 [.mk4 0 (some 14) (.entry (.t 11)) none,
    .mk4 1 (some 15) (.extract (.t 14) 0) none,
    .mk4 2 (some 4) (.alloc 2 [.i 0, .i 0]) none,
    .mk4 3 none (.store 2 (.t 4) (.t 15)) none] [0, 3, 4, 11]) (c223_1))))
def c223_3 : AC :=
  .seq (.seq (.region 0 [.mk4 0 (some 7) (.mv (.t 0)) none,
    .mk4 1 (some 8) (.nilck (.t 7)) none,
    .mk4 2 (some 9) (.faddr 1 (.t 8)) none,
    .mk4 3 (some 10) (.load1 (.t 9)) none,
    .mk4 4 (some 11) (.range false (.t 10)) none] [0, 3, 11]) (.block 0 (.loop [0, 3, 11] (c223_2)))) (.seq (.region 0 [.mk4 0 (some 27) (.mv (.t 3)) none,
    .mk4 1 (some 28) (.call 230 [(.t 27), (.c (.clo 231 []))]) none] [3]) (.seq (.region 0 [.mk4 0 (some 29) (.mv (.t 3)) none,
    .mk4 1 (some 2) (.mv (.t 29)) none] [2]) (.ret)))
def c223 : AFn := ⟨1, 30, [.tmp 2],
  (.seq (.region 0 [.mk4 0 (some 2) (.mv (.c (.nils))) none] [0]) (.seq (.region 0 [.mk4 0 (some 3) (.mv (.c (.nils))) none] [0, 3]) (c223_3)))⟩
def c224_0 : AC :=
  .seq (.region 0 [.mk4 0 (some 79) (.loadN 4 (.t 7)) none,
    .mk4 1 (some 80) (.mv (.t 9)) none,
    .mk4 2 (some 81) (.mv (.t 80)) none,
    .mk4 3 (some 82) (.faddr 1 (.t 6)) (some (81, true)),
    .mk4 4 (some 83) (.load1 (.t 82)) (some (81, true)),
    .mk4 5 (some 84) (.bin .and (.t 83) (.c (.i 16))) (some (81, true)),
    .mk4 6 (some 85) (.bin .eql (.t 84) (.c (.i 0))) (some (81, true)),
    .mk4 7 (some 86) (.mv (.t 85)) (some (81, true)),
    .mk4 8 (some 87) (.faddr 2 (.t 6)) (some (86, false)),
    .mk4 9 (some 88) (.load1 (.t 87)) (some (86, false)),
    .mk4 10 (some 89) (.pick (.t 86) (.c (.bool true)) (.t 88)) (some (81, true)),
    .mk4 11 (some 90) (.mv (.t 89)) (some (81, true)),
    .mk4 12 (some 91) (.faddr 1 (.t 3)) (some (90, false)),
    .mk4 13 (some 92) (.load1 (.t 91)) (some (90, false)),
    .mk4 14 (some 93) (.loadN 7 (.t 8)) (some (90, false)),
    .mk4 16 (some 95) (.faddr 3 (.t 6)) (some (90, false)),
    .mk4 17 (some 96) (.load1 (.t 95)) (some (90, false)),
    ⟨15, (some 94), .call 228 [(.t 92), (.t 93)], (some (90, false)), none, [(79, .loadN 4 (.t 7), none), (96, .load1 (.t 95), (some (90, false)))]⟩,
    .mk4 18 (some 97) (.bin .gtr (.t 94) (.t 96)) (some (90, false)),
    .mk4 19 (some 98) (.pick (.t 90) (.c (.bool true)) (.t 97)) (some (81, true)),
    .mk4 20 (some 99) (.pick (.t 81) (.t 98) (.c (.bool false))) none,
    ⟨21, none, .store 4 (.t 4) (.t 79), none, none, [(96, .load1 (.t 95), (some (90, false)))]⟩,
    .mk4 22 (some 5) (.mv (.t 99)) none] [4, 5]) (.ret)
def c224_1 : AC :=
  .seq (.seq (.region 0 [.mk4 0 (some 72) (.faddr 3 (.t 8)) none,
    .mk4 1 (some 73) (.load1 (.t 72)) none,
    .mk4 2 (some 74) (.mv (.t 73)) none,
    .mk4 3 (some 75) (.faddr 4 (.t 8)) (some (74, false)),
    .mk4 4 (some 76) (.load1 (.t 75)) (some (74, false)),
    .mk4 5 (some 77) (.pick (.t 74) (.c (.bool true)) (.t 76)) none] [3, 4, 6, 7, 8, 9, 77]) (.cond (.t 77) (.region 0 [.mk4 0 (some 78) (.faddr 2 (.t 7)) none,
    .mk4 1 none (.store 1 (.t 78) (.c (.i 128))) none] [3, 4, 6, 7, 8, 9]) (.skip))) (c224_0)
def c224_2 : AC :=
  .seq (.region 0 [.mk4 0 (some 48) (.faddr 3 (.t 8)) none,
    .mk4 1 (some 49) (.load1 (.t 48)) none,
    .mk4 2 (some 50) (.mv (.t 49)) none,
    .mk4 3 (some 51) (.faddr 4 (.t 8)) (some (50, false)),
    .mk4 4 (some 52) (.load1 (.t 51)) (some (50, false)),
    .mk4 5 (some 53) (.pick (.t 50) (.c (.bool true)) (.t 52)) none,
    .mk4 6 (some 54) (.mv (.t 53)) none,
    .mk4 7 (some 55) (.faddr 1 (.t 3)) (some (54, false)),
    .mk4 8 (some 56) (.load1 (.t 55)) (some (54, false)),
    .mk4 9 (some 57) (.bin .eql (.t 56) (.c (.i 1))) (some (54, false)),
    .mk4 10 (some 58) (.mv (.t 57)) (some (54, false)),
    .mk4 11 (some 59) (.faddr 1 (.t 8)) (some (58, true)),
    .mk4 12 (some 60) (.load1 (.t 59)) (some (58, true)),
    .mk4 13 (some 61) (.pick (.t 58) (.t 60) (.c (.bool false))) (some (54, false)),
    .mk4 14 (some 62) (.pick (.t 54) (.c (.bool true)) (.t 61)) none,
    .mk4 15 (some 63) (.mv (.t 62)) none,
    .mk4 16 (some 64) (.faddr 1 (.t 3)) (some (63, false)),
    .mk4 17 (some 65) (.load1 (.t 64)) (some (63, false)),
    .mk4 18 (some 66) (.bin .eql (.t 65) (.c (.i 2))) (some (63, false)),
    .mk4 19 (some 67) (.mv (.t 66)) (some (63, false)),
    .mk4 20 (some 68) (.faddr 2 (.t 8)) (some (67, true)),
    .mk4 21 (some 69) (.load1 (.t 68)) (some (67, true)),
    .mk4 22 (some 70) (.pick (.t 67) (.t 69) (.c (.bool false))) (some (63, false)),
    .mk4 23 (some 71) (.pick (.t 63) (.c (.bool true)) (.t 70)) none,
    .mk4 24 (some 9) (.mv (.t 71)) none] [3, 4, 6, 7, 8, 9]) (c224_1)
def c224_3 : AC :=
  .seq (.region 0 [.mk4 0 (some 37) (.loadN 4 (.t 7)) none,
    .mk4 1 (some 38) (.faddr 3 (.t 7)) none,
    .mk4 2 (some 39) (.load1 (.t 38)) none,
    .mk4 3 (some 40) (.bin .gtr (.t 39) (.c (.i 0))) none,
    ⟨4, none, .store 4 (.t 4) (.t 37), none, none, [(39, .load1 (.t 38), none)]⟩,
    .mk4 5 (some 5) (.mv (.t 40)) none] [4, 5]) (.ret)
def c224_4 : AC :=
  .seq (.region 0 [.mk4 0 (some 29) (.mv (.t 0)) none,
    .mk4 1 (some 30) (.nilck (.t 29)) none,
    .mk4 2 (some 31) (.faddr 0 (.t 30)) none,
    .mk4 3 (some 32) (.load1 (.t 31)) none,
    .mk4 4 (some 33) (.faddr 0 (.t 3)) none,
    .mk4 5 (some 34) (.load1 (.t 33)) none,
    .mk4 6 (some 35) (.call 234 [(.t 32), (.t 34)]) none,
    .mk4 7 (some 36) (.faddr 3 (.t 7)) none,
    .mk4 8 none (.store 1 (.t 36) (.t 35)) none] [4, 7]) (c224_3)
def c224_5 : AC :=
  .seq (.region 1 [.mk4 0 (some 41) (.mv (.t 0)) none,
    .mk4 1 (some 42) (.nilck (.t 41)) none,
    .mk4 2 (some 43) (.faddr 0 (.t 42)) none,
    .mk4 3 (some 44) (.load1 (.t 43)) none,
    .mk4 4 (some 45) (.faddr 0 (.t 3)) none,
    .mk4 5 (some 46) (.load1 (.t 45)) none,
    .mk4 6 (some 47) (.call 99 [(.t 44), (.t 46)]) none,
    ⟨7, (some 8), .alloc 7 [.bool false, .bool false, .bool false, .bool false, .bool false, .int .u64 0, .int .u64 0], none, some 0, []⟩,
    .mk4 8 none (.store 7 (.t 8) (.t 47)) none] [3, 4, 6, 7, 8]) (c224_2)
def c224_6 : AC :=
  .seq (.seq (.region 0 [.mk4 0 (some 21) (.faddr 1 (.t 6)) none,
    .mk4 1 (some 22) (.load1 (.t 21)) none,
    .mk4 2 (some 23) (.bin .and (.t 22) (.c (.i 8))) none,
    .mk4 3 (some 24) (.bin .neq (.t 23) (.c (.i 0))) none] [0, 3, 4, 6, 7, 24]) (.cond (.t 24) (.seq (.region 0 [.mk4 0 (some 25) (.loadN 4 (.t 7)) none,
    .mk4 1 none (.store 4 (.t 4) (.t 25)) none,
    .mk4 2 (some 5) (.mv (.c (.bool false))) none] [4, 5]) (.ret)) (.skip))) (.seq (.seq (.region 0 [.mk4 0 (some 26) (.faddr 1 (.t 3)) none,
    .mk4 1 (some 27) (.load1 (.t 26)) none,
    .mk4 2 (some 28) (.bin .eql (.t 27) (.c (.i 3))) none] [0, 3, 4, 6, 7, 28]) (.cond (.t 28) (c224_4) (.skip))) (c224_5))
def c224_7 : AC :=
  .seq (.region 2 [.mk4 0 (some 10) (.mv (.t 0)) none,
    .mk4 1 (some 11) (.nilck (.t 10)) none,
    .mk4 2 (some 12) (.faddr 1 (.t 11)) none,
    .mk4 3 (some 13) (.load1 (.t 12)) none,
    .mk4 4 (some 14) (.loadN 2 (.t 3)) none,
    .mk4 5 (some 15) (.lookup (.agg [.int .i64, .int .i64]) (.agg [.i 0, .i 0, .bool false, .int .u64 0]) false (.t 13) (.t 14)) none,
    .mk4 6 (some 16) (.faddr 0 (.t 3)) none,
    .mk4 7 (some 17) (.load1 (.t 16)) none,
    .mk4 8 (some 18) (.faddr 1 (.t 3)) none,
    .mk4 9 (some 19) (.load1 (.t 18)) none,
    .mk4 10 (some 20) (.build [.i 0, .i 0, .i 0, .i 0] [(0, 1, (.t 17)), (1, 1, (.t 19))]) none,
    ⟨11, (some 6), .alloc 4 [.i 0, .i 0, .bool false, .int .u64 0], none, some 0, []⟩,
    ⟨12, (some 7), .alloc 4 [.i 0, .i 0, .i 0, .i 0], none, some 1, []⟩,
    ⟨13, none, .store 4 (.t 6) (.t 15), none, none, [(17, .load1 (.t 16), none), (19, .load1 (.t 18), none)]⟩,
    .mk4 14 none (.store 4 (.t 7) (.t 20)) none] [0, 3, 4, 6, 7]) (c224_6)
def c224 : AFn := ⟨2, 100, [.cellN 4 4, .tmp 5],
  (.seq (.region 0 [.mk4 0 (some 3) (.box 2 (.t 1)) none,
    .mk4 1 (some 4) (.alloc 4 [.i 0, .i 0, .i 0, .i 0]) none,
    .mk4 2 (some 5) (.mv (.c (.bool false))) none] [0, 3, 4]) (c224_7))⟩
def c225_0 : AC :=
  .region 0 [.mk4 0 (some 97) (.faddr 2 (.t 9)) none,
    .mk4 1 (some 98) (.load1 (.t 97)) none,
    .mk4 2 (some 99) (.faddr 3 (.t 9)) none,
    .mk4 3 (some 100) (.load1 (.t 99)) none,
    .mk4 4 (some 101) (.faddr 2 (.t 11)) none,
    ⟨5, none, .store 1 (.t 101) (.t 98), none, none, [(100, .load1 (.t 99), none)]⟩,
    .mk4 6 (some 102) (.faddr 3 (.t 11)) none,
    .mk4 7 none (.store 1 (.t 102) (.t 100)) none] [0, 5, 11]
def c225_1 : AC :=
  .region 0 [.mk4 0 (some 103) (.mv (.t 0)) none,
    .mk4 1 (some 104) (.nilck (.t 103)) none,
    .mk4 2 (some 105) (.faddr 1 (.t 104)) none,
    .mk4 3 (some 106) (.load1 (.t 105)) none,
    .mk4 4 (some 107) (.loadN 2 (.t 5)) none,
    .mk4 5 (some 108) (.loadN 4 (.t 11)) none,
    .mk4 6 none (.mput (.agg [.int .i64, .int .i64]) (.t 106) (.t 107) (.t 108)) none] []
def c225_2 : AC :=
  .seq (.seq (.region 0 [.mk4 0 (some 84) (.mv (.t 10)) none,
    .mk4 1 (some 85) (.mv (.t 84)) none,
    .mk4 2 (some 86) (.faddr 1 (.t 9)) (some (85, true)),
    .mk4 3 (some 87) (.load1 (.t 86)) (some (85, true)),
    .mk4 4 (some 88) (.bin .and (.t 87) (.c (.i 16))) (some (85, true)),
    .mk4 5 (some 89) (.bin .neq (.t 88) (.c (.i 0))) (some (85, true)),
    .mk4 6 (some 90) (.mv (.t 89)) (some (85, true)),
    .mk4 7 (some 91) (.faddr 1 (.t 11)) (some (90, false)),
    .mk4 8 (some 92) (.load1 (.t 91)) (some (90, false)),
    .mk4 9 (some 93) (.bin .and (.t 92) (.c (.i 16))) (some (90, false)),
    .mk4 10 (some 94) (.bin .eql (.t 93) (.c (.i 0))) (some (90, false)),
    .mk4 11 (some 95) (.pick (.t 90) (.c (.bool true)) (.t 94)) (some (85, true)),
    .mk4 12 (some 96) (.pick (.t 85) (.t 95) (.c (.bool false))) none] [0, 5, 9, 11, 96]) (.cond (.t 96) (c225_0) (.skip))) (c225_1)
def c225_3 : AC :=
  .region 0 [.mk4 0 (some 58) (.mv (.t 0)) none,
    .mk4 1 (some 59) (.nilck (.t 58)) none,
    .mk4 2 (some 60) (.faddr 1 (.t 59)) none,
    .mk4 3 (some 61) (.load1 (.t 60)) none,
    .mk4 4 (some 62) (.loadN 2 (.t 5)) none,
    .mk4 5 (some 63) (.loadN 4 (.t 9)) none,
    .mk4 6 none (.mput (.agg [.int .i64, .int .i64]) (.t 61) (.t 62) (.t 63)) none] []
def c225_4 : AC :=
  .region 0 [.mk4 0 (some 117) (.mv (.t 0)) none,
    .mk4 1 (some 118) (.nilck (.t 117)) none,
    .mk4 2 (some 119) (.faddr 1 (.t 118)) none,
    .mk4 3 (some 120) (.load1 (.t 119)) none,
    .mk4 4 (some 121) (.loadN 2 (.t 5)) none,
    .mk4 5 none (.mdel (.agg [.int .i64, .int .i64]) (.t 120) (.t 121)) none] []
def c225_5 : AC :=
  .seq (.region 0 [.mk4 0 (some 50) (.faddr 1 (.t 9)) none,
    .mk4 1 (some 51) (.load1 (.t 50)) none,
    .mk4 2 (some 52) (.bin .andNot (.t 51) (.c (.i 8))) none,
    .mk4 3 (some 53) (.faddr 2 (.t 3)) none,
    .mk4 4 (some 54) (.load1 (.t 53)) none,
    .mk4 5 (some 55) (.bin .and (.t 54) (.c (.i 8))) none,
    .mk4 6 (some 56) (.bin .or (.t 52) (.t 55)) none,
    .mk4 7 (some 57) (.faddr 1 (.t 9)) none,
    .mk4 8 none (.store 1 (.t 57) (.t 56)) none] [0, 5, 9]) (c225_3)
def c225_6 : AC :=
  .seq (.region 0 [.mk4 0 (some 113) (.faddr 2 (.t 3)) none,
    .mk4 1 (some 114) (.load1 (.t 113)) none,
    .mk4 2 (some 115) (.bin .and (.t 114) (.c (.i 2))) none,
    .mk4 3 (some 116) (.bin .neq (.t 115) (.c (.i 0))) none,
    .mk4 4 (some 112) (.mv (.t 116)) none] [0, 3, 5, 9, 112]) (.cond (.t 112) (c225_4) (c225_5))
def c225_7 : AC :=
  .seq (.region 1 [.mk4 0 (some 69) (.mv (.t 6)) none,
    .mk4 1 (some 70) (.faddr 2 (.t 3)) none,
    .mk4 2 (some 71) (.load1 (.t 70)) none,
    .mk4 3 (some 72) (.bin .and (.t 71) (.c (.i 56))) none,
    .mk4 4 (some 73) (.faddr 1 (.t 3)) none,
    .mk4 5 (some 74) (.load1 (.t 73)) none,
    .mk4 6 (some 75) (.mv (.t 0)) none,
    .mk4 7 (some 76) (.nilck (.t 75)) none,
    .mk4 8 (some 77) (.faddr 0 (.t 76)) none,
    .mk4 9 (some 78) (.load1 (.t 77)) none,
    .mk4 10 (some 79) (.faddr 0 (.t 3)) none,
    .mk4 11 (some 80) (.load1 (.t 79)) none,
    ⟨12, (some 81), .call 99 [(.t 78), (.t 80)], none, none, [(71, .load1 (.t 70), none), (74, .load1 (.t 73), none)]⟩,
    ⟨13, (some 82), .call 228 [(.t 74), (.t 81)], none, none, [(71, .load1 (.t 70), none)]⟩,
    .mk4 14 (some 83) (.build [.i 0, .i 0, .bool false, .int .u64 0] [(0, 1, (.t 69)), (1, 1, (.t 72)), (2, 1, (.c (.bool true))), (3, 1, (.t 82))]) none,
    ⟨15, (some 11), .alloc 4 [.i 0, .i 0, .bool false, .int .u64 0], none, some 0, []⟩,
    .mk4 16 none (.store 4 (.t 11) (.t 83)) none] [0, 5, 9, 10, 11]) (c225_2)
def c225_8 : AC :=
  .seq (.region 0 [.mk4 0 (some 65) (.faddr 2 (.t 3)) none,
    .mk4 1 (some 66) (.load1 (.t 65)) none,
    .mk4 2 (some 67) (.bin .and (.t 66) (.c (.i 1))) none,
    .mk4 3 (some 68) (.bin .neq (.t 67) (.c (.i 0))) none,
    .mk4 4 (some 64) (.mv (.t 68)) none] [0, 3, 5, 6, 9, 10, 64]) (.cond (.t 64) (c225_7) (.seq (.region 0 [.mk4 0 (some 110) (.mv (.t 10)) none,
    .mk4 1 (some 111) (.un .not (.t 110)) none,
    .mk4 2 (some 109) (.mv (.t 111)) none] [0, 3, 5, 9, 109]) (.cond (.t 109) (.seq (.region 0 [.mk4 0 (some 4) (.mv (.c (.i 151))) none] [4]) (.ret)) (c225_6))))
def c225_9 : AC :=
  .seq (.seq (.region 0 [.mk4 0 (some 41) (.mv (.t 8)) none,
    .mk4 1 (some 42) (.bin .neq (.t 41) (.c (.i 0))) none] [0, 3, 5, 7, 42]) (.cond (.t 42) (.seq (.region 0 [.mk4 0 (some 4) (.mv (.c (.i 110))) none] [4]) (.ret)) (.skip))) (.region 0 [.mk4 0 (some 43) (.mv (.t 7)) none,
    .mk4 1 (some 6) (.mv (.t 43)) none] [0, 3, 5, 6])
def c225_10 : AC :=
  .seq (.region 0 [.mk4 0 (some 23) (.faddr 0 (.t 3)) none,
    .mk4 1 (some 24) (.load1 (.t 23)) none,
    .mk4 2 (some 25) (.bin .lss (.t 24) (.c (.i 1))) none,
    .mk4 3 (some 26) (.mv (.t 25)) none,
    .mk4 4 (some 27) (.faddr 0 (.t 3)) (some (26, false)),
    .mk4 5 (some 28) (.load1 (.t 27)) (some (26, false)),
    .mk4 6 (some 29) (.bin .gtr (.t 28) (.c (.i 31))) (some (26, false)),
    .mk4 7 (some 30) (.pick (.t 26) (.c (.bool true)) (.t 29)) none] [0, 3, 5, 6, 30]) (.cond (.t 30) (.seq (.region 0 [.mk4 0 (some 4) (.mv (.c (.i 100))) none] [4]) (.ret)) (.skip))
def c225_11 : AC :=
  .seq (.region 0 [.mk4 0 (some 32) (.mv (.t 0)) none,
    .mk4 1 (some 33) (.nilck (.t 32)) none,
    .mk4 2 (some 34) (.faddr 0 (.t 33)) none,
    .mk4 3 (some 35) (.load1 (.t 34)) none,
    .mk4 4 (some 36) (.faddr 0 (.t 3)) none,
    .mk4 5 (some 37) (.load1 (.t 36)) none,
    .mk4 6 (some 38) (.call 105 [(.t 35), (.t 37)]) none,
    .mk4 7 (some 31) (.mv (.t 38)) none,
    .mk4 8 (some 39) (.extract (.t 31) 0) none,
    .mk4 9 (some 40) (.extract (.t 31) 1) none,
    .mk4 10 (some 7) (.mv (.t 39)) none,
    .mk4 11 (some 8) (.mv (.t 40)) none] [0, 3, 5, 7, 8]) (c225_9)
def c225_12 : AC :=
  .seq (.region 0 [.mk4 0 (some 45) (.mv (.t 0)) none,
    .mk4 1 (some 46) (.loadN 2 (.t 5)) none,
    .mk4 2 (some 47) (.call 229 [(.t 45), (.t 46)]) none,
    .mk4 3 (some 44) (.mv (.t 47)) none,
    .mk4 4 (some 48) (.extract (.t 44) 0) none,
    .mk4 5 (some 49) (.extract (.t 44) 1) none,
    .mk4 6 (some 9) (.alloc 4 [.i 0, .i 0, .bool false, .int .u64 0]) none,
    .mk4 7 none (.store 4 (.t 9) (.t 48)) none,
    .mk4 8 (some 10) (.mv (.t 49)) none] [0, 3, 5, 6, 9, 10]) (.seq (.block 0 (c225_8)) (.seq (.region 0 [.mk4 0 (some 4) (.mv (.c (.i 0))) none] [4]) (.ret)))
def c225_13 : AC :=
  .seq (.region 0 [.mk4 0 (some 6) (.mv (.c (.i 0))) none] [0, 3, 5, 6]) (.seq (.seq (.region 0 [.mk4 0 (some 20) (.faddr 1 (.t 3)) none,
    .mk4 1 (some 21) (.load1 (.t 20)) none,
    .mk4 2 (some 22) (.bin .eql (.t 21) (.c (.i 3))) none] [0, 3, 5, 6, 22]) (.cond (.t 22) (c225_10) (c225_11))) (c225_12))
def c225_14 : AC :=
  .seq (.region 0 [.mk4 0 (some 12) (.faddr 0 (.t 3)) none,
    .mk4 1 (some 13) (.load1 (.t 12)) none,
    .mk4 2 (some 14) (.faddr 1 (.t 3)) none,
    .mk4 3 (some 15) (.load1 (.t 14)) none,
    .mk4 4 (some 16) (.build [.i 0, .i 0] [(0, 1, (.t 13)), (1, 1, (.t 15))]) none,
    .mk4 5 (some 5) (.alloc 2 [.i 0, .i 0]) none,
    .mk4 6 none (.store 2 (.t 5) (.t 16)) none] [0, 3, 5]) (.seq (.seq (.region 0 [.mk4 0 (some 17) (.loadN 4 (.t 3)) none,
    .mk4 1 (some 18) (.call 235 [(.t 17)]) none,
    .mk4 2 (some 19) (.un .not (.t 18)) none] [0, 3, 5, 19]) (.cond (.t 19) (.seq (.region 0 [.mk4 0 (some 4) (.mv (.c (.i 2))) none] [4]) (.ret)) (.skip))) (c225_13))
def c225 : AFn := ⟨2, 122, [.tmp 4],
  (.seq (.region 0 [.mk4 0 (some 3) (.box 4 (.t 1)) none,
    .mk4 1 (some 4) (.mv (.c (.i 0))) none] [0, 3]) (c225_14))⟩
def c226_0 : AC :=
  .region 0 [.mk4 0 (some 33) (.mv (.t 5)) none,
    .mk4 1 (some 34) (.mv (.t 6)) none,
    .mk4 2 (some 35) (.mv (.t 5)) none,
    .mk4 3 (some 36) (.mv (.t 7)) none,
    .mk4 4 (some 37) (.mv (.t 5)) none,
    .mk4 5 (some 38) (.mv (.t 7)) none,
    .mk4 6 (some 39) (.ixaS 4 (.t 37) (.t 38)) none,
    .mk4 7 (some 40) (.loadN 4 (.t 39)) none,
    .mk4 8 (some 41) (.mv (.t 5)) none,
    .mk4 9 (some 42) (.mv (.t 6)) none,
    .mk4 10 (some 43) (.ixaS 4 (.t 41) (.t 42)) none,
    .mk4 11 (some 44) (.loadN 4 (.t 43)) none,
    .mk4 12 (some 45) (.ixaS 4 (.t 33) (.t 34)) none,
    .mk4 13 none (.store 4 (.t 45) (.t 40)) none,
    .mk4 14 (some 46) (.ixaS 4 (.t 35) (.t 36)) none,
    .mk4 15 none (.store 4 (.t 46) (.t 44)) none] [1, 5, 11, 12]
def c226_1 : AC :=
  .seq (.region 0 [.mk4 0 (some 18) (.mv (.t 6)) none,
    .mk4 1 (some 19) (.mv (.t 1)) none,
    .mk4 2 (some 20) (.mv (.t 6)) none,
    .mk4 3 (some 21) (.mv (.t 1)) none,
    .mk4 4 (some 22) (.lenL (.t 21)) none,
    .mk4 5 (some 23) (.bin .rem (.t 20) (.t 22)) none,
    .mk4 6 (some 24) (.ixaS 1 (.t 19) (.t 23)) none,
    .mk4 7 (some 25) (.load1 (.t 24)) none,
    .mk4 8 (some 26) (.maxI [(.c (.i 0)), (.t 25)]) none,
    .mk4 9 (some 27) (.mv (.t 5)) none,
    .mk4 10 (some 28) (.lenL (.t 27)) none,
    .mk4 11 (some 29) (.mv (.t 6)) none,
    .mk4 12 (some 30) (.bin .sub (.t 28) (.t 29)) none,
    .mk4 13 (some 31) (.bin .rem (.t 26) (.t 30)) none,
    .mk4 14 (some 32) (.bin .add (.t 18) (.t 31)) none,
    .mk4 15 (some 7) (.mv (.t 32)) none] [1, 5, 6, 7, 11, 12]) (c226_0)
def c226_2 : AC :=
  .seq (.region 0 [.mk4 0 (some 14) (.mv (.t 12)) none,
    .mk4 1 (some 6) (.mv (.t 14)) none] [1, 5, 6, 11, 12]) (.seq (.region 0 [.mk4 0 (some 15) (.mv (.t 1)) none,
    .mk4 1 (some 16) (.lenL (.t 15)) none,
    .mk4 2 (some 17) (.bin .gtr (.t 16) (.c (.i 0))) none] [1, 5, 6, 11, 12, 17]) (.cond (.t 17) (c226_1) (.skip)))
def c226_3 : AC :=
  .loop [1, 5, 11, 12] (.seq (.region 0 [.mk4 0 (some 13) (.bin .lss (.t 12) (.t 11)) none] [1, 5, 11, 12, 13]) (.seq (.cond (.t 13) (.skip) (.exit 0)) (.seq (.block 1 (c226_2)) (.region 0 [.mk4 0 (some 47) (.bin .add (.t 12) (.c (.i 1))) none,
    .mk4 1 (some 12) (.mv (.t 47)) none] [1, 5, 11, 12]))))
def c226_4 : AC :=
  .seq (.region 0 [.mk4 0 (some 8) (.mv (.t 0)) none,
    .mk4 1 (some 9) (.call 236 [(.t 8)]) none,
    .mk4 2 (some 5) (.mv (.t 9)) none] [1, 5]) (.seq (.seq (.region 0 [.mk4 0 (some 10) (.mv (.t 5)) none,
    .mk4 1 (some 11) (.lenL (.t 10)) none,
    .mk4 2 (some 12) (.mv (.c (.i 0))) none] [1, 5, 11, 12]) (.block 0 (c226_3))) (.seq (.region 0 [.mk4 0 (some 48) (.mv (.t 5)) none,
    .mk4 1 (some 4) (.mv (.t 48)) none] [4]) (.ret)))
def c226 : AFn := ⟨2, 49, [.tmp 4],
  (.seq (.region 0 [.mk4 0 (some 4) (.mv (.c (.nils))) none] [0, 1]) (c226_4))⟩
def c227 : AFn := ⟨1, 5, [.tmp 2],
  (.seq (.region 0 [.mk4 0 (some 2) (.mv (.c (.nils))) none] [0]) (.seq (.region 0 [.mk4 0 (some 3) (.mv (.t 0)) none,
    .mk4 1 (some 4) (.call 237 [(.c (.nils)), (.t 3)]) none,
    .mk4 2 (some 2) (.mv (.t 4)) none] [2]) (.ret)))⟩
def c228_0 : AC :=
  .seq (.seq (.region 0 [.mk4 0 (some 5) (.mv (.t 0)) none,
    .mk4 1 (some 6) (.bin .eql (.t 5) (.c (.i 1))) none] [3, 6]) (.cond (.t 6) (.seq (.region 0 [.mk4 0 (some 7) (.faddr 5 (.t 3)) none,
    .mk4 1 (some 8) (.load1 (.t 7)) none,
    .mk4 2 (some 4) (.mv (.t 8)) none] [4]) (.ret)) (.skip))) (.seq (.region 0 [.mk4 0 (some 9) (.faddr 6 (.t 3)) none,
    .mk4 1 (some 10) (.load1 (.t 9)) none,
    .mk4 2 (some 4) (.mv (.t 10)) none] [4]) (.ret))
def c228 : AFn := ⟨2, 11, [.tmp 4],
  (.seq (.region 0 [.mk4 0 (some 3) (.box 7 (.t 1)) none,
    .mk4 1 (some 4) (.mv (.c (.int .u64 0))) none] [0, 3]) (c228_0))⟩
def c229_0 : AC :=
  .region 0 [.mk4 0 (some 35) (.mv (.t 9)) none,
    .mk4 1 (some 36) (.bin .eql (.t 35) (.c (.i 0))) none,
    .mk4 2 (some 37) (.mv (.t 36)) none,
    .mk4 3 (some 38) (.mv (.t 8)) (some (37, true)),
    .mk4 4 (some 39) (.faddr 0 (.t 6)) (some (37, true)),
    .mk4 5 (some 40) (.load1 (.t 39)) (some (37, true)),
    .mk4 6 (some 41) (.bin .eql (.t 38) (.t 40)) (some (37, true)),
    .mk4 7 (some 42) (.pick (.t 37) (.t 41) (.c (.bool false))) none,
    .mk4 8 (some 7) (.mv (.t 42)) none] [4, 6, 7]
def c229_1 : AC :=
  .seq (.region 0 [.mk4 0 (some 26) (.mv (.t 0)) none,
    .mk4 1 (some 27) (.nilck (.t 26)) none,
    .mk4 2 (some 28) (.faddr 0 (.t 27)) none,
    .mk4 3 (some 29) (.load1 (.t 28)) none,
    .mk4 4 (some 30) (.faddr 0 (.t 3)) none,
    .mk4 5 (some 31) (.load1 (.t 30)) none,
    .mk4 6 (some 32) (.call 105 [(.t 29), (.t 31)]) none,
    .mk4 7 (some 25) (.mv (.t 32)) none,
    .mk4 8 (some 33) (.extract (.t 25) 0) none,
    .mk4 9 (some 34) (.extract (.t 25) 1) none,
    .mk4 10 (some 8) (.mv (.t 33)) none,
    .mk4 11 (some 9) (.mv (.t 34)) none] [4, 6, 8, 9]) (c229_0)
def c229_2 : AC :=
  .seq (.seq (.region 0 [.mk4 0 (some 19) (.mv (.t 7)) none,
    .mk4 1 (some 20) (.mv (.t 19)) none,
    .mk4 2 (some 21) (.faddr 1 (.t 3)) (some (20, true)),
    .mk4 3 (some 22) (.load1 (.t 21)) (some (20, true)),
    .mk4 4 (some 23) (.bin .neq (.t 22) (.c (.i 3))) (some (20, true)),
    .mk4 5 (some 24) (.pick (.t 20) (.t 23) (.c (.bool false))) none] [0, 3, 4, 6, 7, 24]) (.cond (.t 24) (c229_1) (.skip))) (.seq (.region 0 [.mk4 0 (some 43) (.loadN 4 (.t 6)) none,
    .mk4 1 (some 44) (.mv (.t 7)) none,
    .mk4 2 none (.store 4 (.t 4) (.t 43)) none,
    .mk4 3 (some 5) (.mv (.t 44)) none] [4, 5]) (.ret))
def c229_3 : AC :=
  .seq (.region 1 [.mk4 0 (some 11) (.mv (.t 0)) none,
    .mk4 1 (some 12) (.nilck (.t 11)) none,
    .mk4 2 (some 13) (.faddr 1 (.t 12)) none,
    .mk4 3 (some 14) (.load1 (.t 13)) none,
    .mk4 4 (some 15) (.loadN 2 (.t 3)) none,
    .mk4 5 (some 16) (.lookup (.agg [.int .i64, .int .i64]) (.agg [.i 0, .i 0, .bool false, .int .u64 0]) true (.t 14) (.t 15)) none,
    .mk4 6 (some 10) (.mv (.t 16)) none,
    .mk4 7 (some 17) (.extract (.t 10) 0) none,
    .mk4 8 (some 18) (.extract (.t 10) 1) none,
    ⟨9, (some 6), .alloc 4 [.i 0, .i 0, .bool false, .int .u64 0], none, some 0, []⟩,
    .mk4 10 none (.store 4 (.t 6) (.t 17)) none,
    .mk4 11 (some 7) (.mv (.t 18)) none] [0, 3, 4, 6, 7]) (c229_2)
def c229 : AFn := ⟨2, 45, [.cellN 4 4, .tmp 5],
  (.seq (.region 0 [.mk4 0 (some 3) (.box 2 (.t 1)) none,
    .mk4 1 (some 4) (.alloc 4 [.i 0, .i 0, .bool false, .int .u64 0]) none,
    .mk4 2 (some 5) (.mv (.c (.bool false))) none] [0, 3, 4]) (c229_3))⟩
def c230_0 : AC :=
  .region 0 [.mk4 0 (some 7) (.mv (.t 0)) none,
    .mk4 1 (some 8) (.mv (.t 4)) none,
    .mk4 2 (some 9) (.mv (.t 4)) none,
    .mk4 3 (some 10) (.convInt .u64 (.t 9)) none,
    .mk4 4 (some 11) (.call 193 [(.t 10)]) none,
    .mk4 5 (some 12) (.mv (.t 1)) none,
    .mk4 6 (some 13) (.call 238 [(.t 7), (.c (.i 0)), (.t 8), (.t 11), (.t 12)]) none] []
def c230 : AFn := ⟨2, 14, [],
  (.seq (.region 0 [.mk4 0 (some 5) (.mv (.t 0)) none,
    .mk4 1 (some 6) (.lenL (.t 5)) none,
    .mk4 2 (some 4) (.mv (.t 6)) none] [0, 1, 4]) (c230_0))⟩
def c231_0 : AC :=
  .seq (.region 1 [.mk4 0 (some 5) (.faddr 0 (.t 2)) none,
    .mk4 1 (some 6) (.load1 (.t 5)) none,
    .mk4 2 (some 7) (.faddr 0 (.t 3)) none,
    .mk4 3 (some 8) (.load1 (.t 7)) none,
    .mk4 5 (some 10) (.faddr 1 (.t 2)) none,
    .mk4 6 (some 11) (.load1 (.t 10)) none,
    .mk4 7 (some 12) (.faddr 1 (.t 3)) none,
    .mk4 8 (some 13) (.load1 (.t 12)) none,
    ⟨4, (some 9), .call 233 [(.t 6), (.t 8)], none, none, [(11, .load1 (.t 10), none), (13, .load1 (.t 12), none)]⟩,
    .mk4 9 (some 14) (.call 233 [(.t 11), (.t 13)]) none,
    ⟨10, (some 15), .bslice 1 2 [.i 0, .i 0] [(0, (.t 9)), (1, (.t 14))], none, some 0, []⟩,
    .mk4 11 (some 16) (.call 232 [(.t 15)]) none,
    .mk4 12 (some 4) (.mv (.t 16)) none] [4]) (.ret)
def c231 : AFn := ⟨2, 17, [.tmp 4],
  (.seq (.region 0 [.mk4 0 (some 2) (.box 2 (.t 0)) none,
    .mk4 1 (some 3) (.box 2 (.t 1)) none,
    .mk4 2 (some 4) (.mv (.c (.i 0))) none] [2, 3]) (c231_0))⟩
def c232_0 : AC :=
  .seq (.region 0 [.mk4 0 (some 10) (.ixaS 1 (.t 6) (.t 8)) none,
    .mk4 1 (some 11) (.load1 (.t 10)) none,
    .mk4 2 (some 5) (.mv (.t 11)) none] [3, 5, 6, 7, 8]) (.seq (.region 0 [.mk4 0 (some 12) (.mv (.t 5)) none,
    .mk4 1 (some 13) (.mv (.t 3)) none,
    .mk4 2 (some 14) (.bin .neq (.t 12) (.t 13)) none] [3, 5, 6, 7, 8, 14]) (.cond (.t 14) (.seq (.region 0 [.mk4 0 (some 15) (.mv (.t 5)) none,
    .mk4 1 (some 2) (.mv (.t 15)) none] [2]) (.ret)) (.skip)))
def c232_1 : AC :=
  .block 0 (.loop [3, 6, 7, 8] (.seq (.region 0 [.mk4 0 (some 9) (.bin .lss (.t 8) (.t 7)) none] [3, 6, 7, 8, 9]) (.seq (.cond (.t 9) (.skip) (.exit 0)) (.seq (.block 1 (c232_0)) (.region 0 [.mk4 0 (some 16) (.bin .add (.t 8) (.c (.i 1))) none,
    .mk4 1 (some 8) (.mv (.t 16)) none] [3, 6, 7, 8])))))
def c232_2 : AC :=
  .seq (.region 0 [.mk4 0 (some 3) (.mv (.c (.i 0))) none] [0, 3]) (.seq (.seq (.region 0 [.mk4 0 (some 6) (.mv (.t 0)) none,
    .mk4 1 (some 7) (.lenL (.t 6)) none,
    .mk4 2 (some 8) (.mv (.c (.i 0))) none] [3, 6, 7, 8]) (c232_1)) (.seq (.region 0 [.mk4 0 (some 17) (.mv (.t 3)) none,
    .mk4 1 (some 2) (.mv (.t 17)) none] [2]) (.ret)))
def c232 : AFn := ⟨1, 18, [.tmp 2],
  (.seq (.region 0 [.mk4 0 (some 2) (.mv (.c (.i 0))) none] [0]) (c232_2))⟩
def c233_0 : AC :=
  .seq (.seq (.region 0 [.mk4 0 (some 17) (.mv (.t 0)) none,
    .mk4 1 (some 18) (.mv (.t 1)) none,
    .mk4 2 (some 19) (.bin .gtr (.t 17) (.t 18)) none] [19]) (.cond (.t 19) (.seq (.region 0 [.mk4 0 (some 4) (.mv (.c (.i 1))) none] [4]) (.ret)) (.skip))) (.seq (.region 0 [.mk4 0 (some 4) (.mv (.c (.i 0))) none] [4]) (.ret))
def c233_1 : AC :=
  .seq (.seq (.region 0 [.mk4 0 (some 13) (.mv (.t 6)) none] [0, 1, 13]) (.cond (.t 13) (.seq (.region 0 [.mk4 0 (some 4) (.mv (.c (.i 1))) none] [4]) (.ret)) (.skip))) (.seq (.seq (.region 0 [.mk4 0 (some 14) (.mv (.t 0)) none,
    .mk4 1 (some 15) (.mv (.t 1)) none,
    .mk4 2 (some 16) (.bin .lss (.t 14) (.t 15)) none] [0, 1, 16]) (.cond (.t 16) (.seq (.region 0 [.mk4 0 (some 4) (.mv (.c (.i (-1)))) none] [4]) (.ret)) (.skip))) (c233_0))
def c233_2 : AC :=
  .seq (.seq (.region 0 [.mk4 0 (some 11) (.mv (.t 5)) none] [0, 1, 6, 11]) (.cond (.t 11) (.seq (.seq (.region 0 [.mk4 0 (some 12) (.mv (.t 6)) none] [12]) (.cond (.t 12) (.seq (.region 0 [.mk4 0 (some 4) (.mv (.c (.i 0))) none] [4]) (.ret)) (.skip))) (.seq (.region 0 [.mk4 0 (some 4) (.mv (.c (.i (-1)))) none] [4]) (.ret))) (.skip))) (c233_1)
def c233_3 : AC :=
  .seq (.region 0 [.mk4 0 (some 7) (.mv (.t 0)) none,
    .mk4 1 (some 8) (.call 210 [(.t 7)]) none,
    .mk4 2 (some 5) (.mv (.t 8)) none] [0, 1, 5]) (.seq (.region 0 [.mk4 0 (some 9) (.mv (.t 1)) none,
    .mk4 1 (some 10) (.call 210 [(.t 9)]) none,
    .mk4 2 (some 6) (.mv (.t 10)) none] [0, 1, 5, 6]) (c233_2))
def c233 : AFn := ⟨2, 20, [.tmp 4],
  (.seq (.region 0 [.mk4 0 (some 4) (.mv (.c (.i 0))) none] [0, 1]) (c233_3))⟩
def c234_0 : AC :=
  .seq (.region 0 [.mk4 0 (some 7) (.mv (.t 0)) none,
    .mk4 1 (some 8) (.nilck (.t 7)) none,
    .mk4 2 (some 9) (.faddr 289 (.t 8)) none,
    .mk4 3 (some 10) (.load1 (.t 9)) none,
    .mk4 4 (some 11) (.mv (.t 1)) none,
    .mk4 5 (some 12) (.call 67 [(.t 10), (.t 11)]) none,
    .mk4 6 (some 4) (.mv (.t 12)) none] [4]) (.ret)
def c234 : AFn := ⟨2, 13, [.tmp 4],
  (.seq (.region 0 [.mk4 0 (some 4) (.mv (.c (.i 0))) none] [0, 1]) (.seq (.seq (.region 0 [.mk4 0 (some 5) (.mv (.t 0)) none,
    .mk4 1 (some 6) (.call 25 [(.t 5)]) none] [0, 1, 6]) (.cond (.t 6) (.seq (.region 0 [.mk4 0 (some 4) (.mv (.c (.i 0))) none] [4]) (.ret)) (.skip))) (c234_0)))⟩
def c235_0 : AC :=
  .seq (.region 0 [.mk4 0 (some 26) (.mv (.t 3)) none,
    .mk4 1 (some 27) (.callv (.t 26) [(.c (.i 2))]) none,
    .mk4 2 (some 25) (.mv (.t 27)) none] [3, 25]) (.cond (.t 25) (.seq (.region 0 [.mk4 0 (some 28) (.mv (.t 3)) none,
    .mk4 1 (some 29) (.callv (.t 28) [(.c (.i 60))]) none,
    .mk4 2 (some 30) (.un .not (.t 29)) none,
    .mk4 3 (some 2) (.mv (.t 30)) none] [2]) (.ret)) (.skip))
def c235_1 : AC :=
  .seq (.region 0 [.mk4 0 (some 20) (.mv (.t 3)) none,
    .mk4 1 (some 21) (.callv (.t 20) [(.c (.i 1))]) none,
    .mk4 2 (some 19) (.mv (.t 21)) none] [3, 19]) (.cond (.t 19) (.seq (.region 0 [.mk4 0 (some 22) (.mv (.t 3)) none,
    .mk4 1 (some 23) (.callv (.t 22) [(.c (.i 6))]) none,
    .mk4 2 (some 24) (.un .not (.t 23)) none,
    .mk4 3 (some 2) (.mv (.t 24)) none] [2]) (.ret)) (c235_0))
def c235_2 : AC :=
  .seq (.region 0 [.mk4 0 (some 13) (.faddr 1 (.t 1)) none,
    .mk4 1 (some 14) (.load1 (.t 13)) none,
    .mk4 2 (some 15) (.bin .lss (.t 14) (.c (.i 1))) none,
    .mk4 3 (some 5) (.mv (.t 15)) none] [1, 3, 5]) (.cond (.t 5) (.skip) (.region 0 [.mk4 0 (some 16) (.faddr 1 (.t 1)) none,
    .mk4 1 (some 17) (.load1 (.t 16)) none,
    .mk4 2 (some 18) (.bin .gtr (.t 17) (.c (.i 3))) none,
    .mk4 3 (some 5) (.mv (.t 18)) none] [3, 5]))
def c235_3 : AC :=
  .seq (.region 0 [.mk4 0 (some 9) (.faddr 2 (.t 1)) none,
    .mk4 1 (some 10) (.load1 (.t 9)) none,
    .mk4 2 (some 11) (.bin .andNot (.t 10) (.c (.i 127))) none,
    .mk4 3 (some 12) (.bin .neq (.t 11) (.c (.i 0))) none,
    .mk4 4 (some 5) (.mv (.t 12)) none] [1, 3, 5]) (.cond (.t 5) (.skip) (c235_2))
def c235_4 : AC :=
  .seq (.seq (.region 0 [.mk4 0 (some 6) (.faddr 3 (.t 1)) none,
    .mk4 1 (some 7) (.load1 (.t 6)) none,
    .mk4 2 (some 8) (.bin .neq (.t 7) (.c (.i 0))) none,
    .mk4 3 (some 5) (.mv (.t 8)) none] [1, 3, 5]) (.cond (.t 5) (.skip) (c235_3))) (.cond (.t 5) (.seq (.region 0 [.mk4 0 (some 2) (.mv (.c (.bool false))) none] [2]) (.ret)) (c235_1))
def c235_5 : AC :=
  .seq (.region 0 [.mk4 0 (some 31) (.mv (.t 3)) none,
    .mk4 1 (some 32) (.callv (.t 31) [(.c (.i 4))]) none,
    .mk4 2 (some 33) (.mv (.t 3)) none,
    .mk4 3 (some 34) (.callv (.t 33) [(.c (.i 8))]) none,
    .mk4 4 (some 35) (.eq .bool true (.t 32) (.t 34)) none,
    .mk4 5 (some 36) (.mv (.t 35)) none,
    .mk4 6 (some 37) (.mv (.t 3)) (some (36, true)),
    .mk4 7 (some 38) (.callv (.t 37) [(.c (.i 48))]) (some (36, true)),
    .mk4 8 (some 39) (.un .not (.t 38)) (some (36, true)),
    .mk4 9 (some 40) (.pick (.t 36) (.t 39) (.c (.bool false))) none,
    .mk4 10 (some 2) (.mv (.t 40)) none] [2]) (.ret)
def c235 : AFn := ⟨1, 41, [.tmp 2],
  (.seq (.region 0 [.mk4 0 (some 1) (.box 4 (.t 0)) none,
    .mk4 1 (some 2) (.mv (.c (.bool false))) none] [1]) (.seq (.region 0 [.mk4 0 (some 4) (.mkClo 239 [(.t 1)]) none,
    .mk4 1 (some 3) (.mv (.t 4)) none] [1, 3]) (.seq (.block 0 (c235_4)) (c235_5))))⟩
def c236_0 : AC :=
  .seq (.seq (.region 0 [.mk4 0 (some 3) (.mv (.t 0)) none,
    .mk4 1 (some 4) (.eq .slice false (.t 3) (.c (.nils))) none] [0, 4]) (.cond (.t 4) (.seq (.region 0 [.mk4 0 (some 2) (.mv (.c (.nils))) none] [2]) (.ret)) (.skip))) (.seq (.region 0 [.mk4 0 (some 5) (.bslice 4 0 [] []) none,
    .mk4 1 (some 6) (.mv (.t 0)) none,
    .mk4 2 (some 7) (.append 4 32 (.t 5) (.t 6)) none,
    .mk4 3 (some 2) (.mv (.t 7)) none] [2]) (.ret))
def c236 : AFn := ⟨1, 8, [.tmp 2],
  (.seq (.region 0 [.mk4 0 (some 2) (.mv (.c (.nils))) none] [0]) (c236_0))⟩
def c237_0 : AC :=
  .rangeFunc (.t 6) [7] [2] (.region 0 [.mk4 0 (some 5) (.alloc 4 [.i 0, .i 0, .i 0, .i 0]) none,
    .mk4 1 none (.store 4 (.t 5) (.t 7)) none] [2, 5]) (.block 1 (.region 0 [.mk4 0 (some 8) (.load1 (.t 2)) none,
    .mk4 1 (some 9) (.loadN 4 (.t 5)) none,
    .mk4 2 (some 10) (.bslice 4 1 [.i 0, .i 0, .i 0, .i 0] [(0, (.t 9))]) none,
    .mk4 3 (some 11) (.append 4 32 (.t 8) (.t 10)) none,
    .mk4 4 none (.store 1 (.t 2) (.t 11)) none] []))
def c237_1 : AC :=
  .seq (.region 0 [.mk4 0 (some 2) (.box 1 (.t 0)) none,
    .mk4 1 (some 4) (.mv (.c (.nils))) none] [1, 2]) (.seq (.seq (.region 0 [.mk4 0 (some 6) (.mv (.t 1)) none] [2, 6]) (.block 0 (c237_0))) (.seq (.region 0 [.mk4 0 (some 12) (.load1 (.t 2)) none,
    .mk4 1 (some 4) (.mv (.t 12)) none] [4]) (.ret)))
def c237 : AFn := ⟨2, 13, [.tmp 4],
  (c237_1)⟩
def c238_0 : AC :=
  .seq (.region 0 [.mk4 0 (some 129) (.mv (.t 0)) none,
    .mk4 1 (some 130) (.mv (.t 1)) none,
    .mk4 2 (some 131) (.mv (.t 16)) none,
    .mk4 3 (some 132) (.mv (.t 3)) none,
    .mk4 4 (some 133) (.mv (.t 4)) none,
    .mk4 5 (some 134) (.call 238 [(.t 129), (.t 130), (.t 131), (.t 132), (.t 133)]) none] [0, 2, 3, 4, 10, 11, 16]) (.region 0 [.mk4 0 (some 135) (.mv (.t 16)) none,
    .mk4 1 (some 136) (.bin .add (.t 135) (.c (.i 1))) none,
    .mk4 2 (some 1) (.mv (.t 136)) none] [0, 1, 2, 3, 4, 10, 11])
def c238_1 : AC :=
  .seq (.region 0 [.mk4 0 (some 140) (.mv (.t 0)) none,
    .mk4 1 (some 141) (.mv (.t 16)) none,
    .mk4 2 (some 142) (.bin .add (.t 141) (.c (.i 1))) none,
    .mk4 3 (some 143) (.mv (.t 2)) none,
    .mk4 4 (some 144) (.mv (.t 3)) none,
    .mk4 5 (some 145) (.mv (.t 4)) none,
    .mk4 6 (some 146) (.call 238 [(.t 140), (.t 142), (.t 143), (.t 144), (.t 145)]) none] [0, 1, 3, 4, 10, 11, 16]) (.region 0 [.mk4 0 (some 147) (.mv (.t 16)) none,
    .mk4 1 (some 2) (.mv (.t 147)) none] [0, 1, 2, 3, 4, 10, 11])
def c238_2 : AC :=
  .cond (.t 125) (.seq (.region 0 [.mk4 0 (some 126) (.mv (.t 18)) none,
    .mk4 1 (some 127) (.mv (.t 20)) none,
    .mk4 2 (some 128) (.bin .geq (.t 126) (.t 127)) none,
    .mk4 3 (some 10) (.mv (.t 128)) none] [0, 1, 2, 3, 4, 10, 11, 16]) (c238_0)) (.seq (.region 0 [.mk4 0 (some 137) (.mv (.t 19)) none,
    .mk4 1 (some 138) (.mv (.t 20)) none,
    .mk4 2 (some 139) (.bin .geq (.t 137) (.t 138)) none,
    .mk4 3 (some 10) (.mv (.t 139)) none] [0, 1, 2, 3, 4, 10, 11, 16]) (c238_1))
def c238_3 : AC :=
  .seq (.region 0 [.mk4 0 (some 121) (.mv (.t 12)) none,
    .mk4 1 (some 122) (.bin .quo (.t 121) (.c (.i 8))) none,
    .mk4 2 (some 20) (.mv (.t 122)) none] [0, 1, 2, 3, 4, 11, 16, 18, 19, 20]) (.seq (.region 0 [.mk4 0 (some 123) (.mv (.t 18)) none,
    .mk4 1 (some 124) (.mv (.t 19)) none,
    .mk4 2 (some 125) (.bin .lss (.t 123) (.t 124)) none] [0, 1, 2, 3, 4, 11, 16, 18, 19, 20, 125]) (c238_2))
def c238_4 : AC :=
  .seq (.region 0 [.mk4 0 (some 115) (.mv (.t 16)) none,
    .mk4 1 (some 116) (.mv (.t 1)) none,
    .mk4 2 (some 117) (.bin .sub (.t 115) (.t 116)) none,
    .mk4 3 (some 118) (.mv (.t 2)) none,
    .mk4 4 (some 119) (.mv (.t 16)) none,
    .mk4 5 (some 120) (.bin .sub (.t 118) (.t 119)) none,
    .mk4 6 (some 18) (.mv (.t 117)) none,
    .mk4 7 (some 19) (.mv (.t 120)) none] [0, 1, 2, 3, 4, 11, 12, 16, 18, 19]) (c238_3)
def c238_5 : AC :=
  .seq (.region 0 [.mk4 0 (some 98) (.mv (.t 0)) none,
    .mk4 1 (some 99) (.mv (.t 1)) none,
    .mk4 2 (some 100) (.mv (.t 2)) none,
    .mk4 3 (some 101) (.mv (.t 13)) none,
    .mk4 4 (some 102) (.mv (.t 4)) none,
    .mk4 5 (some 103) (.call 246 [(.t 98), (.t 99), (.t 100), (.t 101), (.t 102)]) none,
    .mk4 6 (some 15) (.mv (.t 103)) none] [0, 2, 3, 4, 10, 11, 15]) (.seq (.region 0 [.mk4 0 (some 104) (.mv (.t 15)) none,
    .mk4 1 (some 1) (.mv (.t 104)) none] [0, 1, 2, 3, 4, 10, 11]) (.exit 1))
def c238_6 : AC :=
  .seq (.region 0 [.mk4 0 (some 106) (.mv (.t 0)) none,
    .mk4 1 (some 107) (.mv (.t 1)) none,
    .mk4 2 (some 108) (.mv (.t 2)) none,
    .mk4 3 (some 109) (.mv (.t 13)) none,
    .mk4 4 (some 110) (.mv (.t 4)) none,
    .mk4 5 (some 111) (.call 247 [(.t 106), (.t 107), (.t 108), (.t 109), (.t 110)]) none,
    .mk4 6 (some 105) (.mv (.t 111)) none,
    .mk4 7 (some 112) (.extract (.t 105) 0) none,
    .mk4 8 (some 113) (.extract (.t 105) 1) none,
    .mk4 9 (some 16) (.mv (.t 112)) none,
    .mk4 10 (some 17) (.mv (.t 113)) none] [0, 1, 2, 3, 4, 12, 16, 17]) (.seq (.region 0 [.mk4 0 (some 114) (.mv (.t 17)) none,
    .mk4 1 (some 11) (.mv (.t 114)) none] [0, 1, 2, 3, 4, 11, 12, 16]) (c238_4))
def c238_7 : AC :=
  .seq (.region 0 [.mk4 0 (some 76) (.mv (.t 0)) none,
    .mk4 1 (some 77) (.mv (.t 1)) none,
    .mk4 2 (some 78) (.mv (.t 2)) none,
    .mk4 3 (some 79) (.mv (.t 4)) none,
    .mk4 4 (some 80) (.call 245 [(.t 76), (.t 77), (.t 78), (.t 79)]) none] [0, 1, 2, 3, 4, 10, 11, 12, 13, 80]) (.cond (.t 80) (.ret) (.skip))
def c238_8 : AC :=
  .seq (.seq (.region 0 [.mk4 0 (some 81) (.mv (.t 1)) none,
    .mk4 1 (some 82) (.bin .gtr (.t 81) (.c (.i 0))) none,
    .mk4 2 (some 83) (.mv (.t 82)) none,
    .mk4 3 (some 84) (.mv (.t 4)) (some (83, true)),
    .mk4 4 (some 85) (.mv (.t 0)) (some (83, true)),
    .mk4 5 (some 86) (.mv (.t 1)) (some (83, true)),
    .mk4 6 (some 87) (.bin .sub (.t 86) (.c (.i 1))) (some (83, true)),
    .mk4 7 (some 88) (.ixaS 2 (.t 85) (.t 87)) (some (83, true)),
    .mk4 8 (some 89) (.loadN 2 (.t 88)) (some (83, true)),
    .mk4 9 (some 90) (.mv (.t 0)) (some (83, true)),
    .mk4 10 (some 91) (.mv (.t 13)) (some (83, true)),
    .mk4 11 (some 92) (.ixaS 2 (.t 90) (.t 91)) (some (83, true)),
    .mk4 12 (some 93) (.loadN 2 (.t 92)) (some (83, true)),
    .mk4 13 (some 94) (.callv (.t 84) [(.t 89), (.t 93)]) (some (83, true)),
    .mk4 14 (some 95) (.bin .lss (.t 94) (.c (.i 0))) (some (83, true)),
    .mk4 15 (some 96) (.un .not (.t 95)) (some (83, true)),
    .mk4 16 (some 97) (.pick (.t 83) (.t 96) (.c (.bool false))) none] [0, 1, 2, 3, 4, 10, 11, 12, 13, 97]) (.cond (.t 97) (c238_5) (.skip))) (c238_6)
def c238_9 : AC :=
  .seq (.region 0 [.mk4 0 (some 62) (.mv (.t 2)) none,
    .mk4 1 (some 63) (.bin .sub (.t 62) (.c (.i 1))) none,
    .mk4 2 (some 64) (.mv (.t 13)) none,
    .mk4 3 (some 65) (.mv (.t 1)) none,
    .mk4 4 (some 66) (.bin .sub (.t 64) (.t 65)) none,
    .mk4 5 (some 67) (.bin .sub (.t 63) (.t 66)) none,
    .mk4 6 (some 13) (.mv (.t 67)) none] [0, 1, 2, 3, 4, 10, 11, 12, 13]) (.region 0 [.mk4 0 (some 14) (.mv (.c (.i 1))) none] [0, 1, 2, 3, 4, 10, 11, 12, 13, 14])
def c238_10 : AC :=
  .cond (.t 56) (.seq (.region 0 [.mk4 0 (some 57) (.mv (.t 0)) none,
    .mk4 1 (some 58) (.mv (.t 1)) none,
    .mk4 2 (some 59) (.mv (.t 2)) none,
    .mk4 3 (some 60) (.mv (.t 4)) none,
    .mk4 4 (some 61) (.call 244 [(.t 57), (.t 58), (.t 59), (.t 60)]) none] [0, 1, 2, 3, 4, 10, 11, 12, 13]) (c238_9)) (.skip)
def c238_11 : AC :=
  .seq (.seq (.region 0 [.mk4 0 (some 68) (.mv (.t 10)) none,
    .mk4 1 (some 69) (.mv (.t 68)) none,
    .mk4 2 (some 70) (.mv (.t 11)) (some (69, true)),
    .mk4 3 (some 71) (.pick (.t 69) (.t 70) (.c (.bool false))) none,
    .mk4 4 (some 72) (.mv (.t 71)) none,
    .mk4 5 (some 73) (.mv (.t 14)) (some (72, true)),
    .mk4 6 (some 74) (.bin .eql (.t 73) (.c (.i 1))) (some (72, true)),
    .mk4 7 (some 75) (.pick (.t 72) (.t 74) (.c (.bool false))) none] [0, 1, 2, 3, 4, 10, 11, 12, 13, 75]) (.cond (.t 75) (c238_7) (.skip))) (c238_8)
def c238_12 : AC :=
  .seq (.region 0 [.mk4 0 (some 40) (.mv (.t 0)) none,
    .mk4 1 (some 41) (.mv (.t 1)) none,
    .mk4 2 (some 42) (.mv (.t 2)) none,
    .mk4 3 (some 43) (.mv (.t 4)) none,
    .mk4 4 (some 44) (.call 242 [(.t 40), (.t 41), (.t 42), (.t 43)]) none] [0, 1, 2, 3, 4, 10, 11, 12]) (.region 0 [.mk4 0 (some 45) (.mv (.t 3)) none,
    .mk4 1 (some 46) (.bin .sub (.t 45) (.c (.i 1))) none,
    .mk4 2 (some 3) (.mv (.t 46)) none] [0, 1, 2, 3, 4, 10, 11, 12])
def c238_13 : AC :=
  .seq (.region 0 [.mk4 0 (some 48) (.mv (.t 0)) none,
    .mk4 1 (some 49) (.mv (.t 1)) none,
    .mk4 2 (some 50) (.mv (.t 2)) none,
    .mk4 3 (some 51) (.mv (.t 4)) none,
    .mk4 4 (some 52) (.call 243 [(.t 48), (.t 49), (.t 50), (.t 51)]) none,
    .mk4 5 (some 47) (.mv (.t 52)) none,
    .mk4 6 (some 53) (.extract (.t 47) 0) none,
    .mk4 7 (some 54) (.extract (.t 47) 1) none,
    .mk4 8 (some 13) (.mv (.t 53)) none,
    .mk4 9 (some 14) (.mv (.t 54)) none] [0, 1, 2, 3, 4, 10, 11, 12, 13, 14]) (.seq (.seq (.region 0 [.mk4 0 (some 55) (.mv (.t 14)) none,
    .mk4 1 (some 56) (.bin .eql (.t 55) (.c (.i 2))) none] [0, 1, 2, 3, 4, 10, 11, 12, 13, 14, 56]) (c238_10)) (c238_11))
def c238_14 : AC :=
  .seq (.seq (.region 0 [.mk4 0 (some 31) (.mv (.t 3)) none,
    .mk4 1 (some 32) (.bin .eql (.t 31) (.c (.i 0))) none] [0, 1, 2, 3, 4, 10, 11, 12, 32]) (.cond (.t 32) (.seq (.region 0 [.mk4 0 (some 33) (.mv (.t 0)) none,
    .mk4 1 (some 34) (.mv (.t 1)) none,
    .mk4 2 (some 35) (.mv (.t 2)) none,
    .mk4 3 (some 36) (.mv (.t 4)) none,
    .mk4 4 (some 37) (.call 241 [(.t 33), (.t 34), (.t 35), (.t 36)]) none] []) (.ret)) (.skip))) (.seq (.seq (.region 0 [.mk4 0 (some 38) (.mv (.t 10)) none,
    .mk4 1 (some 39) (.un .not (.t 38)) none] [0, 1, 2, 3, 4, 10, 11, 12, 39]) (.cond (.t 39) (c238_12) (.skip))) (c238_13))
def c238_15 : AC :=
  .seq (.seq (.region 0 [.mk4 0 (some 24) (.mv (.t 12)) none,
    .mk4 1 (some 25) (.bin .leq (.t 24) (.c (.i 12))) none] [0, 1, 2, 3, 4, 10, 11, 12, 25]) (.cond (.t 25) (.seq (.region 0 [.mk4 0 (some 26) (.mv (.t 0)) none,
    .mk4 1 (some 27) (.mv (.t 1)) none,
    .mk4 2 (some 28) (.mv (.t 2)) none,
    .mk4 3 (some 29) (.mv (.t 4)) none,
    .mk4 4 (some 30) (.call 240 [(.t 26), (.t 27), (.t 28), (.t 29)]) none] []) (.ret)) (.skip))) (c238_14)
def c238_16 : AC :=
  .seq (.region 0 [.mk4 0 (some 11) (.mv (.c (.bool true))) none] [0, 1, 2, 3, 4, 10, 11]) (.block 0 (.loop [0, 1, 2, 3, 4, 10, 11] (.block 1 (.seq (.region 0 [.mk4 0 (some 21) (.mv (.t 2)) none,
    .mk4 1 (some 22) (.mv (.t 1)) none,
    .mk4 2 (some 23) (.bin .sub (.t 21) (.t 22)) none,
    .mk4 3 (some 12) (.mv (.t 23)) none] [0, 1, 2, 3, 4, 10, 11, 12]) (c238_15)))))
def c238 : AFn := ⟨5, 148, [],
  (.seq (.region 0 [.mk4 0 (some 10) (.mv (.c (.bool true))) none] [0, 1, 2, 3, 4, 10]) (c238_16))⟩
def c239_0 : AC :=
  .seq (.region 0 [.mk4 0 (some 3) (.mv (.c (.bool false))) none] [0, 1]) (.seq (.region 0 [.mk4 0 (some 4) (.faddr 2 (.t 1)) none,
    .mk4 1 (some 5) (.load1 (.t 4)) none,
    .mk4 2 (some 6) (.mv (.t 0)) none,
    .mk4 3 (some 7) (.bin .and (.t 5) (.t 6)) none,
    .mk4 4 (some 8) (.bin .neq (.t 7) (.c (.i 0))) none,
    .mk4 5 (some 3) (.mv (.t 8)) none] [3]) (.ret))
def c239 : AFn := ⟨2, 9, [.tmp 3],
  (c239_0)⟩
def c240_0 : AC :=
  .region 0 [.mk4 0 (some 37) (.mv (.t 0)) none,
    .mk4 1 (some 38) (.mv (.t 9)) none,
    .mk4 2 (some 39) (.mv (.t 0)) none,
    .mk4 3 (some 40) (.mv (.t 9)) none,
    .mk4 4 (some 41) (.bin .sub (.t 40) (.c (.i 1))) none,
    .mk4 5 (some 42) (.mv (.t 0)) none,
    .mk4 6 (some 43) (.mv (.t 9)) none,
    .mk4 7 (some 44) (.bin .sub (.t 43) (.c (.i 1))) none,
    .mk4 8 (some 45) (.ixaS 2 (.t 42) (.t 44)) none,
    .mk4 9 (some 46) (.loadN 2 (.t 45)) none,
    .mk4 10 (some 47) (.mv (.t 0)) none,
    .mk4 11 (some 48) (.mv (.t 9)) none,
    .mk4 12 (some 49) (.ixaS 2 (.t 47) (.t 48)) none,
    .mk4 13 (some 50) (.loadN 2 (.t 49)) none,
    .mk4 14 (some 51) (.ixaS 2 (.t 37) (.t 38)) none,
    .mk4 15 none (.store 2 (.t 51) (.t 46)) none,
    .mk4 16 (some 52) (.ixaS 2 (.t 39) (.t 41)) none,
    .mk4 17 none (.store 2 (.t 52) (.t 50)) none] [0, 1, 2, 3, 8, 9]
def c240_1 : AC :=
  .seq (.seq (.region 0 [.mk4 0 (some 18) (.mv (.t 9)) none,
    .mk4 1 (some 19) (.mv (.t 1)) none,
    .mk4 2 (some 20) (.bin .gtr (.t 18) (.t 19)) none,
    .mk4 3 (some 21) (.mv (.t 20)) none,
    .mk4 4 (some 22) (.mv (.t 3)) (some (21, true)),
    .mk4 5 (some 23) (.mv (.t 0)) (some (21, true)),
    .mk4 6 (some 24) (.mv (.t 9)) (some (21, true)),
    .mk4 7 (some 25) (.ixaS 2 (.t 23) (.t 24)) (some (21, true)),
    .mk4 8 (some 26) (.loadN 2 (.t 25)) (some (21, true)),
    .mk4 9 (some 27) (.mv (.t 0)) (some (21, true)),
    .mk4 10 (some 28) (.mv (.t 9)) (some (21, true)),
    .mk4 11 (some 29) (.bin .sub (.t 28) (.c (.i 1))) (some (21, true)),
    .mk4 12 (some 30) (.ixaS 2 (.t 27) (.t 29)) (some (21, true)),
    .mk4 13 (some 31) (.loadN 2 (.t 30)) (some (21, true)),
    .mk4 14 (some 32) (.callv (.t 22) [(.t 26), (.t 31)]) (some (21, true)),
    .mk4 15 (some 33) (.bin .lss (.t 32) (.c (.i 0))) (some (21, true)),
    .mk4 16 (some 34) (.pick (.t 21) (.t 33) (.c (.bool false))) none] [0, 1, 2, 3, 8, 9, 34]) (.cond (.t 34) (.skip) (.exit 2))) (.seq (.block 3 (c240_0)) (.region 0 [.mk4 0 (some 35) (.mv (.t 9)) none,
    .mk4 1 (some 36) (.bin .sub (.t 35) (.c (.i 1))) none,
    .mk4 2 (some 9) (.mv (.t 36)) none] [0, 1, 2, 3, 8, 9]))
def c240_2 : AC :=
  .seq (.block 1 (.seq (.region 0 [.mk4 0 (some 17) (.mv (.t 8)) none,
    .mk4 1 (some 9) (.mv (.t 17)) none] [0, 1, 2, 3, 8, 9]) (.block 2 (.loop [0, 1, 2, 3, 8, 9] (c240_1))))) (.region 0 [.mk4 0 (some 15) (.mv (.t 8)) none,
    .mk4 1 (some 16) (.bin .add (.t 15) (.c (.i 1))) none,
    .mk4 2 (some 8) (.mv (.t 16)) none] [0, 1, 2, 3, 8])
def c240_3 : AC :=
  .seq (.region 0 [.mk4 0 (some 10) (.mv (.t 1)) none,
    .mk4 1 (some 11) (.bin .add (.t 10) (.c (.i 1))) none,
    .mk4 2 (some 8) (.mv (.t 11)) none] [0, 1, 2, 3, 8]) (.block 0 (.loop [0, 1, 2, 3, 8] (.seq (.seq (.region 0 [.mk4 0 (some 12) (.mv (.t 8)) none,
    .mk4 1 (some 13) (.mv (.t 2)) none,
    .mk4 2 (some 14) (.bin .lss (.t 12) (.t 13)) none] [0, 1, 2, 3, 8, 14]) (.cond (.t 14) (.skip) (.exit 0))) (c240_2))))
def c240 : AFn := ⟨4, 53, [],
  (c240_3)⟩
def c241_0 : AC :=
  .region 0 [.mk4 0 (some 54) (.mv (.t 0)) none,
    .mk4 1 (some 55) (.mv (.t 9)) none,
    .mk4 2 (some 56) (.mv (.t 12)) none,
    .mk4 3 (some 57) (.mv (.t 8)) none,
    .mk4 4 (some 58) (.mv (.t 3)) none,
    .mk4 5 (some 59) (.call 248 [(.t 54), (.t 55), (.t 56), (.t 57), (.t 58)]) none] [0, 3, 8, 9, 12]
def c241_1 : AC :=
  .seq (.region 0 [.mk4 0 (some 36) (.mv (.t 0)) none,
    .mk4 1 (some 37) (.mv (.t 8)) none,
    .mk4 2 (some 38) (.mv (.t 0)) none,
    .mk4 3 (some 39) (.mv (.t 8)) none,
    .mk4 4 (some 40) (.mv (.t 12)) none,
    .mk4 5 (some 41) (.bin .add (.t 39) (.t 40)) none,
    .mk4 6 (some 42) (.mv (.t 0)) none,
    .mk4 7 (some 43) (.mv (.t 8)) none,
    .mk4 8 (some 44) (.mv (.t 12)) none,
    .mk4 9 (some 45) (.bin .add (.t 43) (.t 44)) none,
    .mk4 10 (some 46) (.ixaS 2 (.t 42) (.t 45)) none,
    .mk4 11 (some 47) (.loadN 2 (.t 46)) none,
    .mk4 12 (some 48) (.mv (.t 0)) none,
    .mk4 13 (some 49) (.mv (.t 8)) none,
    .mk4 14 (some 50) (.ixaS 2 (.t 48) (.t 49)) none,
    .mk4 15 (some 51) (.loadN 2 (.t 50)) none,
    .mk4 16 (some 52) (.ixaS 2 (.t 36) (.t 37)) none,
    .mk4 17 none (.store 2 (.t 52) (.t 47)) none,
    .mk4 18 (some 53) (.ixaS 2 (.t 38) (.t 41)) none,
    .mk4 19 none (.store 2 (.t 53) (.t 51)) none] [0, 3, 8, 9, 12]) (c241_0)
def c241_2 : AC :=
  .seq (.seq (.region 0 [.mk4 0 (some 32) (.mv (.t 12)) none,
    .mk4 1 (some 33) (.bin .geq (.t 32) (.c (.i 0))) none] [0, 3, 8, 9, 12, 33]) (.cond (.t 33) (.skip) (.exit 2))) (.seq (.block 3 (c241_1)) (.region 0 [.mk4 0 (some 34) (.mv (.t 12)) none,
    .mk4 1 (some 35) (.bin .sub (.t 34) (.c (.i 1))) none,
    .mk4 2 (some 12) (.mv (.t 35)) none] [0, 3, 8, 9, 12]))
def c241_3 : AC :=
  .region 0 [.mk4 0 (some 24) (.mv (.t 0)) none,
    .mk4 1 (some 25) (.mv (.t 11)) none,
    .mk4 2 (some 26) (.mv (.t 10)) none,
    .mk4 3 (some 27) (.mv (.t 8)) none,
    .mk4 4 (some 28) (.mv (.t 3)) none,
    .mk4 5 (some 29) (.call 248 [(.t 24), (.t 25), (.t 26), (.t 27), (.t 28)]) none] [0, 3, 8, 9, 10, 11]
def c241_4 : AC :=
  .seq (.seq (.region 0 [.mk4 0 (some 20) (.mv (.t 11)) none,
    .mk4 1 (some 21) (.bin .geq (.t 20) (.c (.i 0))) none] [0, 3, 8, 9, 10, 11, 21]) (.cond (.t 21) (.skip) (.exit 0))) (.seq (.block 1 (c241_3)) (.region 0 [.mk4 0 (some 22) (.mv (.t 11)) none,
    .mk4 1 (some 23) (.bin .sub (.t 22) (.c (.i 1))) none,
    .mk4 2 (some 11) (.mv (.t 23)) none] [0, 3, 8, 9, 10, 11]))
def c241_5 : AC :=
  .seq (.seq (.region 0 [.mk4 0 (some 17) (.mv (.t 10)) none,
    .mk4 1 (some 18) (.bin .sub (.t 17) (.c (.i 1))) none,
    .mk4 2 (some 19) (.bin .quo (.t 18) (.c (.i 2))) none,
    .mk4 3 (some 11) (.mv (.t 19)) none] [0, 3, 8, 9, 10, 11]) (.block 0 (.loop [0, 3, 8, 9, 10, 11] (c241_4)))) (.seq (.region 0 [.mk4 0 (some 30) (.mv (.t 10)) none,
    .mk4 1 (some 31) (.bin .sub (.t 30) (.c (.i 1))) none,
    .mk4 2 (some 12) (.mv (.t 31)) none] [0, 3, 8, 9, 12]) (.block 2 (.loop [0, 3, 8, 9, 12] (c241_2))))
def c241_6 : AC :=
  .seq (.region 0 [.mk4 0 (some 13) (.mv (.t 1)) none,
    .mk4 1 (some 8) (.mv (.t 13)) none] [0, 1, 2, 3, 8]) (.seq (.region 0 [.mk4 0 (some 9) (.mv (.c (.i 0))) none] [0, 1, 2, 3, 8, 9]) (.seq (.region 0 [.mk4 0 (some 14) (.mv (.t 2)) none,
    .mk4 1 (some 15) (.mv (.t 1)) none,
    .mk4 2 (some 16) (.bin .sub (.t 14) (.t 15)) none,
    .mk4 3 (some 10) (.mv (.t 16)) none] [0, 3, 8, 9, 10]) (c241_5)))
def c241 : AFn := ⟨4, 60, [],
  (c241_6)⟩
def c242_0 : AC :=
  .region 0 [.mk4 0 (some 49) (.mv (.t 0)) none,
    .mk4 1 (some 50) (.mv (.t 11)) none,
    .mk4 2 (some 51) (.mv (.t 0)) none,
    .mk4 3 (some 52) (.mv (.t 1)) none,
    .mk4 4 (some 53) (.mv (.t 12)) none,
    .mk4 5 (some 54) (.bin .add (.t 52) (.t 53)) none,
    .mk4 6 (some 55) (.mv (.t 0)) none,
    .mk4 7 (some 56) (.mv (.t 1)) none,
    .mk4 8 (some 57) (.mv (.t 12)) none,
    .mk4 9 (some 58) (.bin .add (.t 56) (.t 57)) none,
    .mk4 10 (some 59) (.ixaS 2 (.t 55) (.t 58)) none,
    .mk4 11 (some 60) (.loadN 2 (.t 59)) none,
    .mk4 12 (some 61) (.mv (.t 0)) none,
    .mk4 13 (some 62) (.mv (.t 11)) none,
    .mk4 14 (some 63) (.ixaS 2 (.t 61) (.t 62)) none,
    .mk4 15 (some 64) (.loadN 2 (.t 63)) none,
    .mk4 16 (some 65) (.ixaS 2 (.t 49) (.t 50)) none,
    .mk4 17 none (.store 2 (.t 65) (.t 60)) none,
    .mk4 18 (some 66) (.ixaS 2 (.t 51) (.t 54)) none,
    .mk4 19 none (.store 2 (.t 66) (.t 64)) none] [0, 1, 8, 9, 10, 11]
def c242_1 : AC :=
  .seq (.seq (.region 0 [.mk4 0 (some 43) (.mv (.t 12)) none,
    .mk4 1 (some 44) (.mv (.t 8)) none,
    .mk4 2 (some 45) (.bin .geq (.t 43) (.t 44)) none] [0, 1, 8, 9, 10, 11, 12, 45]) (.cond (.t 45) (.region 0 [.mk4 0 (some 46) (.mv (.t 12)) none,
    .mk4 1 (some 47) (.mv (.t 8)) none,
    .mk4 2 (some 48) (.bin .sub (.t 46) (.t 47)) none,
    .mk4 3 (some 12) (.mv (.t 48)) none] [0, 1, 8, 9, 10, 11, 12]) (.skip))) (c242_0)
def c242_2 : AC :=
  .seq (.region 0 [.mk4 0 (some 38) (.call 207 [(.t 9)]) none,
    .mk4 1 (some 39) (.mv (.t 10)) none,
    .mk4 2 (some 40) (.bin .sub (.t 39) (.c (.int .u64 1))) none,
    .mk4 3 (some 41) (.bin .and (.t 38) (.t 40)) none,
    .mk4 4 (some 42) (.convInt .i64 (.t 41)) none,
    .mk4 5 (some 12) (.mv (.t 42)) none] [0, 1, 8, 9, 10, 11, 12]) (c242_1)
def c242_3 : AC :=
  .seq (.seq (.region 0 [.mk4 0 (some 28) (.mv (.t 11)) none,
    .mk4 1 (some 29) (.mv (.t 1)) none,
    .mk4 2 (some 30) (.mv (.t 8)) none,
    .mk4 3 (some 31) (.bin .quo (.t 30) (.c (.i 4))) none,
    .mk4 4 (some 32) (.bin .mul (.t 31) (.c (.i 2))) none,
    .mk4 5 (some 33) (.bin .add (.t 29) (.t 32)) none,
    .mk4 6 (some 34) (.bin .add (.t 33) (.c (.i 1))) none,
    .mk4 7 (some 35) (.bin .leq (.t 28) (.t 34)) none] [0, 1, 8, 9, 10, 11, 35]) (.cond (.t 35) (.skip) (.exit 0))) (.seq (.block 1 (c242_2)) (.region 0 [.mk4 0 (some 36) (.mv (.t 11)) none,
    .mk4 1 (some 37) (.bin .add (.t 36) (.c (.i 1))) none,
    .mk4 2 (some 11) (.mv (.t 37)) none] [0, 1, 8, 9, 10, 11]))
def c242_4 : AC :=
  .seq (.region 0 [.mk4 0 (some 22) (.mv (.t 1)) none,
    .mk4 1 (some 23) (.mv (.t 8)) none,
    .mk4 2 (some 24) (.bin .quo (.t 23) (.c (.i 4))) none,
    .mk4 3 (some 25) (.bin .mul (.t 24) (.c (.i 2))) none,
    .mk4 4 (some 26) (.bin .add (.t 22) (.t 25)) none,
    .mk4 5 (some 27) (.bin .sub (.t 26) (.c (.i 1))) none,
    .mk4 6 (some 11) (.mv (.t 27)) none] [0, 1, 8, 9, 10, 11]) (.block 0 (.loop [0, 1, 8, 9, 10, 11] (c242_3)))
def c242_5 : AC :=
  .seq (.region 0 [.mk4 0 (some 18) (.mv (.t 8)) none,
    .mk4 1 (some 19) (.convInt .u64 (.t 18)) none,
    .mk4 2 (some 9) (.alloc 1 [.int .u64 0]) none,
    .mk4 3 none (.store 1 (.t 9) (.t 19)) none] [0, 1, 8, 9]) (.seq (.region 0 [.mk4 0 (some 20) (.mv (.t 8)) none,
    .mk4 1 (some 21) (.call 206 [(.t 20)]) none,
    .mk4 2 (some 10) (.mv (.t 21)) none] [0, 1, 8, 9, 10]) (c242_4))
def c242_6 : AC :=
  .seq (.region 0 [.mk4 0 (some 13) (.mv (.t 2)) none,
    .mk4 1 (some 14) (.mv (.t 1)) none,
    .mk4 2 (some 15) (.bin .sub (.t 13) (.t 14)) none,
    .mk4 3 (some 8) (.mv (.t 15)) none] [0, 1, 8]) (.seq (.region 0 [.mk4 0 (some 16) (.mv (.t 8)) none,
    .mk4 1 (some 17) (.bin .geq (.t 16) (.c (.i 8))) none] [0, 1, 8, 17]) (.cond (.t 17) (c242_5) (.skip)))
def c242 : AFn := ⟨4, 67, [],
  (c242_6)⟩
def c243_0 : AC :=
  .cond (.t 60) (.seq (.region 0 [.mk4 0 (some 62) (.mv (.t 13)) none,
    .mk4 1 (some 8) (.mv (.t 62)) none,
    .mk4 2 (some 9) (.mv (.c (.i 2))) none] [8, 9]) (.ret)) (.seq (.region 0 [.mk4 0 (some 56) (.mv (.t 13)) none,
    .mk4 1 (some 8) (.mv (.t 56)) none,
    .mk4 2 (some 9) (.mv (.c (.i 0))) none] [8, 9]) (.ret))
def c243_1 : AC :=
  .cond (.t 57) (.seq (.region 0 [.mk4 0 (some 59) (.mv (.t 13)) none,
    .mk4 1 (some 8) (.mv (.t 59)) none,
    .mk4 2 (some 9) (.mv (.c (.i 1))) none] [8, 9]) (.ret)) (.seq (.region 0 [.mk4 0 (some 61) (.bin .eql (.t 55) (.c (.i 12))) none,
    .mk4 1 (some 60) (.mv (.t 61)) none] [13, 60]) (c243_0))
def c243_2 : AC :=
  .seq (.region 0 [.mk4 0 (some 41) (.mv (.t 0)) none,
    .mk4 1 (some 42) (.mv (.t 13)) none,
    .mk4 2 (some 43) (.mv (.t 3)) none,
    .mk4 3 (some 44) (.call 249 [(.t 41), (.t 42), (.t 11), (.t 43)]) none,
    .mk4 4 (some 13) (.mv (.t 44)) none] [0, 3, 11, 12, 13, 14]) (.region 0 [.mk4 0 (some 45) (.mv (.t 0)) none,
    .mk4 1 (some 46) (.mv (.t 14)) none,
    .mk4 2 (some 47) (.mv (.t 3)) none,
    .mk4 3 (some 48) (.call 249 [(.t 45), (.t 46), (.t 11), (.t 47)]) none,
    .mk4 4 (some 14) (.mv (.t 48)) none] [0, 3, 11, 12, 13, 14])
def c243_3 : AC :=
  .cond (.t 36) (.seq (.region 0 [.mk4 0 (some 37) (.mv (.t 0)) none,
    .mk4 1 (some 38) (.mv (.t 12)) none,
    .mk4 2 (some 39) (.mv (.t 3)) none,
    .mk4 3 (some 40) (.call 249 [(.t 37), (.t 38), (.t 11), (.t 39)]) none,
    .mk4 4 (some 12) (.mv (.t 40)) none] [0, 3, 11, 12, 13, 14]) (c243_2)) (.skip)
def c243_4 : AC :=
  .region 0 [.mk4 0 (some 49) (.mv (.t 0)) none,
    .mk4 1 (some 50) (.mv (.t 12)) none,
    .mk4 2 (some 51) (.mv (.t 13)) none,
    .mk4 3 (some 52) (.mv (.t 14)) none,
    .mk4 4 (some 53) (.mv (.t 3)) none,
    .mk4 5 (some 54) (.call 250 [(.t 49), (.t 50), (.t 51), (.t 52), (.t 11), (.t 53)]) none,
    .mk4 6 (some 13) (.mv (.t 54)) none] [11, 13]
def c243_5 : AC :=
  .seq (.seq (.region 0 [.mk4 0 (some 33) (.mv (.t 10)) none,
    .mk4 1 (some 34) (.bin .geq (.t 33) (.c (.i 8))) none] [0, 3, 10, 11, 12, 13, 14, 34]) (.cond (.t 34) (.seq (.seq (.region 0 [.mk4 0 (some 35) (.mv (.t 10)) none,
    .mk4 1 (some 36) (.bin .geq (.t 35) (.c (.i 50))) none] [0, 3, 11, 12, 13, 14, 36]) (c243_3)) (c243_4)) (.skip))) (.seq (.region 0 [.mk4 0 (some 55) (.load1 (.t 11)) none] [13, 55]) (.block 0 (.seq (.region 0 [.mk4 0 (some 58) (.bin .eql (.t 55) (.c (.i 0))) none,
    .mk4 1 (some 57) (.mv (.t 58)) none] [13, 55, 57]) (c243_1))))
def c243_6 : AC :=
  .seq (.region 0 [.mk4 0 (some 28) (.mv (.t 1)) none,
    .mk4 1 (some 29) (.mv (.t 10)) none,
    .mk4 2 (some 30) (.bin .quo (.t 29) (.c (.i 4))) none,
    .mk4 3 (some 31) (.bin .mul (.t 30) (.c (.i 3))) none,
    .mk4 4 (some 32) (.bin .add (.t 28) (.t 31)) none,
    .mk4 5 (some 14) (.mv (.t 32)) none] [0, 3, 10, 11, 12, 13, 14]) (c243_5)
def c243_7 : AC :=
  .seq (.region 0 [.mk4 0 (some 23) (.mv (.t 1)) none,
    .mk4 1 (some 24) (.mv (.t 10)) none,
    .mk4 2 (some 25) (.bin .quo (.t 24) (.c (.i 4))) none,
    .mk4 3 (some 26) (.bin .mul (.t 25) (.c (.i 2))) none,
    .mk4 4 (some 27) (.bin .add (.t 23) (.t 26)) none,
    .mk4 5 (some 13) (.mv (.t 27)) none] [0, 1, 3, 10, 11, 12, 13]) (c243_6)
def c243_8 : AC :=
  .seq (.region 0 [.mk4 0 (some 18) (.mv (.t 1)) none,
    .mk4 1 (some 19) (.mv (.t 10)) none,
    .mk4 2 (some 20) (.bin .quo (.t 19) (.c (.i 4))) none,
    .mk4 3 (some 21) (.bin .mul (.t 20) (.c (.i 1))) none,
    .mk4 4 (some 22) (.bin .add (.t 18) (.t 21)) none,
    .mk4 5 (some 12) (.mv (.t 22)) none] [0, 1, 3, 10, 11, 12]) (c243_7)
def c243_9 : AC :=
  .seq (.region 0 [.mk4 0 (some 8) (.mv (.c (.i 0))) none,
    .mk4 1 (some 9) (.mv (.c (.i 0))) none] [0, 1, 2, 3]) (.seq (.region 0 [.mk4 0 (some 15) (.mv (.t 2)) none,
    .mk4 1 (some 16) (.mv (.t 1)) none,
    .mk4 2 (some 17) (.bin .sub (.t 15) (.t 16)) none,
    .mk4 3 (some 10) (.mv (.t 17)) none] [0, 1, 3, 10]) (.seq (.region 0 [.mk4 0 (some 11) (.alloc 1 [.i 0]) none] [0, 1, 3, 10, 11]) (c243_8)))
def c243 : AFn := ⟨4, 63, [.tmp 8, .tmp 9],
  (c243_9)⟩
def c244_0 : AC :=
  .seq (.region 0 [.mk4 0 (some 30) (.mv (.t 8)) none,
    .mk4 1 (some 31) (.bin .add (.t 30) (.c (.i 1))) none,
    .mk4 2 (some 8) (.mv (.t 31)) none] [0, 8, 9]) (.region 0 [.mk4 0 (some 32) (.mv (.t 9)) none,
    .mk4 1 (some 33) (.bin .sub (.t 32) (.c (.i 1))) none,
    .mk4 2 (some 9) (.mv (.t 33)) none] [0, 8, 9])
def c244_1 : AC :=
  .seq (.region 0 [.mk4 0 (some 16) (.mv (.t 0)) none,
    .mk4 1 (some 17) (.mv (.t 8)) none,
    .mk4 2 (some 18) (.mv (.t 0)) none,
    .mk4 3 (some 19) (.mv (.t 9)) none,
    .mk4 4 (some 20) (.mv (.t 0)) none,
    .mk4 5 (some 21) (.mv (.t 9)) none,
    .mk4 6 (some 22) (.ixaS 2 (.t 20) (.t 21)) none,
    .mk4 7 (some 23) (.loadN 2 (.t 22)) none,
    .mk4 8 (some 24) (.mv (.t 0)) none,
    .mk4 9 (some 25) (.mv (.t 8)) none,
    .mk4 10 (some 26) (.ixaS 2 (.t 24) (.t 25)) none,
    .mk4 11 (some 27) (.loadN 2 (.t 26)) none,
    .mk4 12 (some 28) (.ixaS 2 (.t 16) (.t 17)) none,
    .mk4 13 none (.store 2 (.t 28) (.t 23)) none,
    .mk4 14 (some 29) (.ixaS 2 (.t 18) (.t 19)) none,
    .mk4 15 none (.store 2 (.t 29) (.t 27)) none] [0, 8, 9]) (c244_0)
def c244_2 : AC :=
  .seq (.region 0 [.mk4 0 (some 11) (.mv (.t 2)) none,
    .mk4 1 (some 12) (.bin .sub (.t 11) (.c (.i 1))) none,
    .mk4 2 (some 9) (.mv (.t 12)) none] [0, 8, 9]) (.block 0 (.loop [0, 8, 9] (.seq (.seq (.region 0 [.mk4 0 (some 13) (.mv (.t 8)) none,
    .mk4 1 (some 14) (.mv (.t 9)) none,
    .mk4 2 (some 15) (.bin .lss (.t 13) (.t 14)) none] [0, 8, 9, 15]) (.cond (.t 15) (.skip) (.exit 0))) (.block 1 (c244_1)))))
def c244 : AFn := ⟨4, 34, [],
  (.seq (.region 0 [.mk4 0 (some 10) (.mv (.t 1)) none,
    .mk4 1 (some 8) (.mv (.t 10)) none] [0, 2, 8]) (c244_2))⟩
def c245_0 : AC :=
  .region 0 [.mk4 0 (some 125) (.mv (.t 0)) none,
    .mk4 1 (some 126) (.mv (.t 12)) none,
    .mk4 2 (some 127) (.mv (.t 0)) none,
    .mk4 3 (some 128) (.mv (.t 12)) none,
    .mk4 4 (some 129) (.bin .sub (.t 128) (.c (.i 1))) none,
    .mk4 5 (some 130) (.mv (.t 0)) none,
    .mk4 6 (some 131) (.mv (.t 12)) none,
    .mk4 7 (some 132) (.bin .sub (.t 131) (.c (.i 1))) none,
    .mk4 8 (some 133) (.ixaS 2 (.t 130) (.t 132)) none,
    .mk4 9 (some 134) (.loadN 2 (.t 133)) none,
    .mk4 10 (some 135) (.mv (.t 0)) none,
    .mk4 11 (some 136) (.mv (.t 12)) none,
    .mk4 12 (some 137) (.ixaS 2 (.t 135) (.t 136)) none,
    .mk4 13 (some 138) (.loadN 2 (.t 137)) none,
    .mk4 14 (some 139) (.ixaS 2 (.t 125) (.t 126)) none,
    .mk4 15 none (.store 2 (.t 139) (.t 134)) none,
    .mk4 16 (some 140) (.ixaS 2 (.t 127) (.t 129)) none,
    .mk4 17 none (.store 2 (.t 140) (.t 138)) none] [0, 1, 2, 3, 9, 10, 12]
def c245_1 : AC :=
  .seq (.seq (.region 0 [.mk4 0 (some 112) (.mv (.t 3)) none,
    .mk4 1 (some 113) (.mv (.t 0)) none,
    .mk4 2 (some 114) (.mv (.t 12)) none,
    .mk4 3 (some 115) (.ixaS 2 (.t 113) (.t 114)) none,
    .mk4 4 (some 116) (.loadN 2 (.t 115)) none,
    .mk4 5 (some 117) (.mv (.t 0)) none,
    .mk4 6 (some 118) (.mv (.t 12)) none,
    .mk4 7 (some 119) (.bin .sub (.t 118) (.c (.i 1))) none,
    .mk4 8 (some 120) (.ixaS 2 (.t 117) (.t 119)) none,
    .mk4 9 (some 121) (.loadN 2 (.t 120)) none,
    .mk4 10 (some 122) (.callv (.t 112) [(.t 116), (.t 121)]) none,
    .mk4 11 (some 123) (.bin .lss (.t 122) (.c (.i 0))) none,
    .mk4 12 (some 124) (.un .not (.t 123)) none] [0, 1, 2, 3, 9, 10, 12, 124]) (.cond (.t 124) (.exit 6) (.skip))) (c245_0)
def c245_2 : AC :=
  .seq (.seq (.region 0 [.mk4 0 (some 107) (.mv (.t 12)) none,
    .mk4 1 (some 108) (.mv (.t 2)) none,
    .mk4 2 (some 109) (.bin .lss (.t 107) (.t 108)) none] [0, 1, 2, 3, 9, 10, 12, 109]) (.cond (.t 109) (.skip) (.exit 6))) (.seq (.block 7 (c245_1)) (.region 0 [.mk4 0 (some 110) (.mv (.t 12)) none,
    .mk4 1 (some 111) (.bin .add (.t 110) (.c (.i 1))) none,
    .mk4 2 (some 12) (.mv (.t 111)) none] [0, 1, 2, 3, 9, 10, 12]))
def c245_3 : AC :=
  .region 0 [.mk4 0 (some 85) (.mv (.t 0)) none,
    .mk4 1 (some 86) (.mv (.t 11)) none,
    .mk4 2 (some 87) (.mv (.t 0)) none,
    .mk4 3 (some 88) (.mv (.t 11)) none,
    .mk4 4 (some 89) (.bin .sub (.t 88) (.c (.i 1))) none,
    .mk4 5 (some 90) (.mv (.t 0)) none,
    .mk4 6 (some 91) (.mv (.t 11)) none,
    .mk4 7 (some 92) (.bin .sub (.t 91) (.c (.i 1))) none,
    .mk4 8 (some 93) (.ixaS 2 (.t 90) (.t 92)) none,
    .mk4 9 (some 94) (.loadN 2 (.t 93)) none,
    .mk4 10 (some 95) (.mv (.t 0)) none,
    .mk4 11 (some 96) (.mv (.t 11)) none,
    .mk4 12 (some 97) (.ixaS 2 (.t 95) (.t 96)) none,
    .mk4 13 (some 98) (.loadN 2 (.t 97)) none,
    .mk4 14 (some 99) (.ixaS 2 (.t 85) (.t 86)) none,
    .mk4 15 none (.store 2 (.t 99) (.t 94)) none,
    .mk4 16 (some 100) (.ixaS 2 (.t 87) (.t 89)) none,
    .mk4 17 none (.store 2 (.t 100) (.t 98)) none] [0, 1, 2, 3, 9, 10, 11]
def c245_4 : AC :=
  .seq (.seq (.region 0 [.mk4 0 (some 72) (.mv (.t 3)) none,
    .mk4 1 (some 73) (.mv (.t 0)) none,
    .mk4 2 (some 74) (.mv (.t 11)) none,
    .mk4 3 (some 75) (.ixaS 2 (.t 73) (.t 74)) none,
    .mk4 4 (some 76) (.loadN 2 (.t 75)) none,
    .mk4 5 (some 77) (.mv (.t 0)) none,
    .mk4 6 (some 78) (.mv (.t 11)) none,
    .mk4 7 (some 79) (.bin .sub (.t 78) (.c (.i 1))) none,
    .mk4 8 (some 80) (.ixaS 2 (.t 77) (.t 79)) none,
    .mk4 9 (some 81) (.loadN 2 (.t 80)) none,
    .mk4 10 (some 82) (.callv (.t 72) [(.t 76), (.t 81)]) none,
    .mk4 11 (some 83) (.bin .lss (.t 82) (.c (.i 0))) none,
    .mk4 12 (some 84) (.un .not (.t 83)) none] [0, 1, 2, 3, 9, 10, 11, 84]) (.cond (.t 84) (.exit 4) (.skip))) (c245_3)
def c245_5 : AC :=
  .seq (.seq (.region 0 [.mk4 0 (some 68) (.mv (.t 11)) none,
    .mk4 1 (some 69) (.bin .geq (.t 68) (.c (.i 1))) none] [0, 1, 2, 3, 9, 10, 11, 69]) (.cond (.t 69) (.skip) (.exit 4))) (.seq (.block 5 (c245_4)) (.region 0 [.mk4 0 (some 70) (.mv (.t 11)) none,
    .mk4 1 (some 71) (.bin .sub (.t 70) (.c (.i 1))) none,
    .mk4 2 (some 11) (.mv (.t 71)) none] [0, 1, 2, 3, 9, 10, 11]))
def c245_6 : AC :=
  .seq (.region 0 [.mk4 0 (some 101) (.mv (.t 2)) none,
    .mk4 1 (some 102) (.mv (.t 9)) none,
    .mk4 2 (some 103) (.bin .sub (.t 101) (.t 102)) none,
    .mk4 3 (some 104) (.bin .geq (.t 103) (.c (.i 2))) none] [0, 1, 2, 3, 9, 10, 104]) (.cond (.t 104) (.seq (.region 0 [.mk4 0 (some 105) (.mv (.t 9)) none,
    .mk4 1 (some 106) (.bin .add (.t 105) (.c (.i 1))) none,
    .mk4 2 (some 12) (.mv (.t 106)) none] [0, 1, 2, 3, 9, 10, 12]) (.block 6 (.loop [0, 1, 2, 3, 9, 10, 12] (c245_2)))) (.skip))
def c245_7 : AC :=
  .seq (.seq (.region 0 [.mk4 0 (some 62) (.mv (.t 9)) none,
    .mk4 1 (some 63) (.mv (.t 1)) none,
    .mk4 2 (some 64) (.bin .sub (.t 62) (.t 63)) none,
    .mk4 3 (some 65) (.bin .geq (.t 64) (.c (.i 2))) none] [0, 1, 2, 3, 9, 10, 65]) (.cond (.t 65) (.seq (.region 0 [.mk4 0 (some 66) (.mv (.t 9)) none,
    .mk4 1 (some 67) (.bin .sub (.t 66) (.c (.i 1))) none,
    .mk4 2 (some 11) (.mv (.t 67)) none] [0, 1, 2, 3, 9, 10, 11]) (.block 4 (.loop [0, 1, 2, 3, 9, 10, 11] (c245_5)))) (.skip))) (c245_6)
def c245_8 : AC :=
  .seq (.region 0 [.mk4 0 (some 46) (.mv (.t 0)) none,
    .mk4 1 (some 47) (.mv (.t 9)) none,
    .mk4 2 (some 48) (.mv (.t 0)) none,
    .mk4 3 (some 49) (.mv (.t 9)) none,
    .mk4 4 (some 50) (.bin .sub (.t 49) (.c (.i 1))) none,
    .mk4 5 (some 51) (.mv (.t 0)) none,
    .mk4 6 (some 52) (.mv (.t 9)) none,
    .mk4 7 (some 53) (.bin .sub (.t 52) (.c (.i 1))) none,
    .mk4 8 (some 54) (.ixaS 2 (.t 51) (.t 53)) none,
    .mk4 9 (some 55) (.loadN 2 (.t 54)) none,
    .mk4 10 (some 56) (.mv (.t 0)) none,
    .mk4 11 (some 57) (.mv (.t 9)) none,
    .mk4 12 (some 58) (.ixaS 2 (.t 56) (.t 57)) none,
    .mk4 13 (some 59) (.loadN 2 (.t 58)) none,
    .mk4 14 (some 60) (.ixaS 2 (.t 46) (.t 47)) none,
    .mk4 15 none (.store 2 (.t 60) (.t 55)) none,
    .mk4 16 (some 61) (.ixaS 2 (.t 48) (.t 50)) none,
    .mk4 17 none (.store 2 (.t 61) (.t 59)) none] [0, 1, 2, 3, 9, 10]) (c245_7)
def c245_9 : AC :=
  .seq (.seq (.region 0 [.mk4 0 (some 42) (.mv (.t 2)) none,
    .mk4 1 (some 43) (.mv (.t 1)) none,
    .mk4 2 (some 44) (.bin .sub (.t 42) (.t 43)) none,
    .mk4 3 (some 45) (.bin .lss (.t 44) (.c (.i 50))) none] [0, 1, 2, 3, 9, 10, 45]) (.cond (.t 45) (.seq (.region 0 [.mk4 0 (some 8) (.mv (.c (.bool false))) none] [8]) (.ret)) (.skip))) (c245_8)
def c245_10 : AC :=
  .seq (.seq (.region 0 [.mk4 0 (some 19) (.mv (.t 9)) none,
    .mk4 1 (some 20) (.mv (.t 2)) none,
    .mk4 2 (some 21) (.bin .lss (.t 19) (.t 20)) none,
    .mk4 3 (some 22) (.mv (.t 21)) none,
    .mk4 4 (some 23) (.mv (.t 3)) (some (22, true)),
    .mk4 5 (some 24) (.mv (.t 0)) (some (22, true)),
    .mk4 6 (some 25) (.mv (.t 9)) (some (22, true)),
    .mk4 7 (some 26) (.ixaS 2 (.t 24) (.t 25)) (some (22, true)),
    .mk4 8 (some 27) (.loadN 2 (.t 26)) (some (22, true)),
    .mk4 9 (some 28) (.mv (.t 0)) (some (22, true)),
    .mk4 10 (some 29) (.mv (.t 9)) (some (22, true)),
    .mk4 11 (some 30) (.bin .sub (.t 29) (.c (.i 1))) (some (22, true)),
    .mk4 12 (some 31) (.ixaS 2 (.t 28) (.t 30)) (some (22, true)),
    .mk4 13 (some 32) (.loadN 2 (.t 31)) (some (22, true)),
    .mk4 14 (some 33) (.callv (.t 23) [(.t 27), (.t 32)]) (some (22, true)),
    .mk4 15 (some 34) (.bin .lss (.t 33) (.c (.i 0))) (some (22, true)),
    .mk4 16 (some 35) (.un .not (.t 34)) (some (22, true)),
    .mk4 17 (some 36) (.pick (.t 22) (.t 35) (.c (.bool false))) none] [0, 1, 2, 3, 9, 10, 36]) (.cond (.t 36) (.skip) (.exit 2))) (.block 3 (.region 0 [.mk4 0 (some 37) (.mv (.t 9)) none,
    .mk4 1 (some 38) (.bin .add (.t 37) (.c (.i 1))) none,
    .mk4 2 (some 9) (.mv (.t 38)) none] [0, 1, 2, 3, 9, 10]))
def c245_11 : AC :=
  .seq (.block 2 (.loop [0, 1, 2, 3, 9, 10] (c245_10))) (.seq (.seq (.region 0 [.mk4 0 (some 39) (.mv (.t 9)) none,
    .mk4 1 (some 40) (.mv (.t 2)) none,
    .mk4 2 (some 41) (.bin .eql (.t 39) (.t 40)) none] [0, 1, 2, 3, 9, 10, 41]) (.cond (.t 41) (.seq (.region 0 [.mk4 0 (some 8) (.mv (.c (.bool true))) none] [8]) (.ret)) (.skip))) (c245_9))
def c245_12 : AC :=
  .seq (.seq (.region 0 [.mk4 0 (some 15) (.mv (.t 10)) none,
    .mk4 1 (some 16) (.bin .lss (.t 15) (.c (.i 5))) none] [0, 1, 2, 3, 9, 10, 16]) (.cond (.t 16) (.skip) (.exit 0))) (.seq (.block 1 (c245_11)) (.region 0 [.mk4 0 (some 17) (.mv (.t 10)) none,
    .mk4 1 (some 18) (.bin .add (.t 17) (.c (.i 1))) none,
    .mk4 2 (some 10) (.mv (.t 18)) none] [0, 1, 2, 3, 9, 10]))
def c245_13 : AC :=
  .seq (.region 0 [.mk4 0 (some 13) (.mv (.t 1)) none,
    .mk4 1 (some 14) (.bin .add (.t 13) (.c (.i 1))) none,
    .mk4 2 (some 9) (.mv (.t 14)) none] [0, 1, 2, 3, 9]) (.seq (.seq (.region 0 [.mk4 0 (some 10) (.mv (.c (.i 0))) none] [0, 1, 2, 3, 9, 10]) (.block 0 (.loop [0, 1, 2, 3, 9, 10] (c245_12)))) (.seq (.region 0 [.mk4 0 (some 8) (.mv (.c (.bool false))) none] [8]) (.ret)))
def c245 : AFn := ⟨4, 141, [.tmp 8],
  (.seq (.region 0 [.mk4 0 (some 8) (.mv (.c (.bool false))) none] [0, 1, 2, 3]) (c245_13))⟩
def c246_0 : AC :=
  .seq (.region 0 [.mk4 0 (some 85) (.mv (.t 11)) none,
    .mk4 1 (some 86) (.bin .add (.t 85) (.c (.i 1))) none,
    .mk4 2 (some 11) (.mv (.t 86)) none] [0, 1, 4, 11, 12]) (.region 0 [.mk4 0 (some 87) (.mv (.t 12)) none,
    .mk4 1 (some 88) (.bin .sub (.t 87) (.c (.i 1))) none,
    .mk4 2 (some 12) (.mv (.t 88)) none] [0, 1, 4, 11, 12])
def c246_1 : AC :=
  .seq (.region 0 [.mk4 0 (some 71) (.mv (.t 0)) none,
    .mk4 1 (some 72) (.mv (.t 11)) none,
    .mk4 2 (some 73) (.mv (.t 0)) none,
    .mk4 3 (some 74) (.mv (.t 12)) none,
    .mk4 4 (some 75) (.mv (.t 0)) none,
    .mk4 5 (some 76) (.mv (.t 12)) none,
    .mk4 6 (some 77) (.ixaS 2 (.t 75) (.t 76)) none,
    .mk4 7 (some 78) (.loadN 2 (.t 77)) none,
    .mk4 8 (some 79) (.mv (.t 0)) none,
    .mk4 9 (some 80) (.mv (.t 11)) none,
    .mk4 10 (some 81) (.ixaS 2 (.t 79) (.t 80)) none,
    .mk4 11 (some 82) (.loadN 2 (.t 81)) none,
    .mk4 12 (some 83) (.ixaS 2 (.t 71) (.t 72)) none,
    .mk4 13 none (.store 2 (.t 83) (.t 78)) none,
    .mk4 14 (some 84) (.ixaS 2 (.t 73) (.t 74)) none,
    .mk4 15 none (.store 2 (.t 84) (.t 82)) none] [0, 1, 4, 11, 12]) (c246_0)
def c246_2 : AC :=
  .seq (.seq (.region 0 [.mk4 0 (some 50) (.mv (.t 11)) none,
    .mk4 1 (some 51) (.mv (.t 12)) none,
    .mk4 2 (some 52) (.bin .leq (.t 50) (.t 51)) none,
    .mk4 3 (some 53) (.mv (.t 52)) none,
    .mk4 4 (some 54) (.mv (.t 4)) (some (53, true)),
    .mk4 5 (some 55) (.mv (.t 0)) (some (53, true)),
    .mk4 6 (some 56) (.mv (.t 1)) (some (53, true)),
    .mk4 7 (some 57) (.ixaS 2 (.t 55) (.t 56)) (some (53, true)),
    .mk4 8 (some 58) (.loadN 2 (.t 57)) (some (53, true)),
    .mk4 9 (some 59) (.mv (.t 0)) (some (53, true)),
    .mk4 10 (some 60) (.mv (.t 12)) (some (53, true)),
    .mk4 11 (some 61) (.ixaS 2 (.t 59) (.t 60)) (some (53, true)),
    .mk4 12 (some 62) (.loadN 2 (.t 61)) (some (53, true)),
    .mk4 13 (some 63) (.callv (.t 54) [(.t 58), (.t 62)]) (some (53, true)),
    .mk4 14 (some 64) (.bin .lss (.t 63) (.c (.i 0))) (some (53, true)),
    .mk4 15 (some 65) (.pick (.t 53) (.t 64) (.c (.bool false))) none] [0, 1, 4, 11, 12, 65]) (.cond (.t 65) (.skip) (.exit 4))) (.block 5 (.region 0 [.mk4 0 (some 66) (.mv (.t 12)) none,
    .mk4 1 (some 67) (.bin .sub (.t 66) (.c (.i 1))) none,
    .mk4 2 (some 12) (.mv (.t 67)) none] [0, 1, 4, 11, 12]))
def c246_3 : AC :=
  .seq (.seq (.region 0 [.mk4 0 (some 31) (.mv (.t 11)) none,
    .mk4 1 (some 32) (.mv (.t 12)) none,
    .mk4 2 (some 33) (.bin .leq (.t 31) (.t 32)) none,
    .mk4 3 (some 34) (.mv (.t 33)) none,
    .mk4 4 (some 35) (.mv (.t 4)) (some (34, true)),
    .mk4 5 (some 36) (.mv (.t 0)) (some (34, true)),
    .mk4 6 (some 37) (.mv (.t 1)) (some (34, true)),
    .mk4 7 (some 38) (.ixaS 2 (.t 36) (.t 37)) (some (34, true)),
    .mk4 8 (some 39) (.loadN 2 (.t 38)) (some (34, true)),
    .mk4 9 (some 40) (.mv (.t 0)) (some (34, true)),
    .mk4 10 (some 41) (.mv (.t 11)) (some (34, true)),
    .mk4 11 (some 42) (.ixaS 2 (.t 40) (.t 41)) (some (34, true)),
    .mk4 12 (some 43) (.loadN 2 (.t 42)) (some (34, true)),
    .mk4 13 (some 44) (.callv (.t 35) [(.t 39), (.t 43)]) (some (34, true)),
    .mk4 14 (some 45) (.bin .lss (.t 44) (.c (.i 0))) (some (34, true)),
    .mk4 15 (some 46) (.un .not (.t 45)) (some (34, true)),
    .mk4 16 (some 47) (.pick (.t 34) (.t 46) (.c (.bool false))) none] [0, 1, 4, 11, 12, 47]) (.cond (.t 47) (.skip) (.exit 2))) (.block 3 (.region 0 [.mk4 0 (some 48) (.mv (.t 11)) none,
    .mk4 1 (some 49) (.bin .add (.t 48) (.c (.i 1))) none,
    .mk4 2 (some 11) (.mv (.t 49)) none] [0, 1, 4, 11, 12]))
def c246_4 : AC :=
  .seq (.block 2 (.loop [0, 1, 4, 11, 12] (c246_3))) (.seq (.block 4 (.loop [0, 1, 4, 11, 12] (c246_2))) (.seq (.seq (.region 0 [.mk4 0 (some 68) (.mv (.t 11)) none,
    .mk4 1 (some 69) (.mv (.t 12)) none,
    .mk4 2 (some 70) (.bin .gtr (.t 68) (.t 69)) none] [0, 1, 4, 11, 12, 70]) (.cond (.t 70) (.exit 0) (.skip))) (c246_1)))
def c246_5 : AC :=
  .seq (.region 0 [.mk4 0 (some 27) (.mv (.t 1)) none,
    .mk4 1 (some 28) (.bin .add (.t 27) (.c (.i 1))) none,
    .mk4 2 (some 29) (.mv (.t 2)) none,
    .mk4 3 (some 30) (.bin .sub (.t 29) (.c (.i 1))) none,
    .mk4 4 (some 11) (.mv (.t 28)) none,
    .mk4 5 (some 12) (.mv (.t 30)) none] [0, 1, 4, 11, 12]) (.seq (.block 0 (.loop [0, 1, 4, 11, 12] (.block 1 (c246_4)))) (.seq (.region 0 [.mk4 0 (some 89) (.mv (.t 11)) none,
    .mk4 1 (some 10) (.mv (.t 89)) none] [10]) (.ret)))
def c246_6 : AC :=
  .seq (.region 0 [.mk4 0 (some 13) (.mv (.t 0)) none,
    .mk4 1 (some 14) (.mv (.t 1)) none,
    .mk4 2 (some 15) (.mv (.t 0)) none,
    .mk4 3 (some 16) (.mv (.t 3)) none,
    .mk4 4 (some 17) (.mv (.t 0)) none,
    .mk4 5 (some 18) (.mv (.t 3)) none,
    .mk4 6 (some 19) (.ixaS 2 (.t 17) (.t 18)) none,
    .mk4 7 (some 20) (.loadN 2 (.t 19)) none,
    .mk4 8 (some 21) (.mv (.t 0)) none,
    .mk4 9 (some 22) (.mv (.t 1)) none,
    .mk4 10 (some 23) (.ixaS 2 (.t 21) (.t 22)) none,
    .mk4 11 (some 24) (.loadN 2 (.t 23)) none,
    .mk4 12 (some 25) (.ixaS 2 (.t 13) (.t 14)) none,
    .mk4 13 none (.store 2 (.t 25) (.t 20)) none,
    .mk4 14 (some 26) (.ixaS 2 (.t 15) (.t 16)) none,
    .mk4 15 none (.store 2 (.t 26) (.t 24)) none] [0, 1, 2, 4]) (c246_5)
def c246 : AFn := ⟨5, 90, [.tmp 10],
  (.seq (.region 0 [.mk4 0 (some 10) (.mv (.c (.i 0))) none] [0, 1, 2, 3, 4]) (c246_6))⟩
def c247_0 : AC :=
  .seq (.region 0 [.mk4 0 (some 159) (.mv (.t 12)) none,
    .mk4 1 (some 160) (.bin .add (.t 159) (.c (.i 1))) none,
    .mk4 2 (some 12) (.mv (.t 160)) none] [0, 1, 4, 12, 13]) (.region 0 [.mk4 0 (some 161) (.mv (.t 13)) none,
    .mk4 1 (some 162) (.bin .sub (.t 161) (.c (.i 1))) none,
    .mk4 2 (some 13) (.mv (.t 162)) none] [0, 1, 4, 12, 13])
def c247_1 : AC :=
  .seq (.region 0 [.mk4 0 (some 145) (.mv (.t 0)) none,
    .mk4 1 (some 146) (.mv (.t 12)) none,
    .mk4 2 (some 147) (.mv (.t 0)) none,
    .mk4 3 (some 148) (.mv (.t 13)) none,
    .mk4 4 (some 149) (.mv (.t 0)) none,
    .mk4 5 (some 150) (.mv (.t 13)) none,
    .mk4 6 (some 151) (.ixaS 2 (.t 149) (.t 150)) none,
    .mk4 7 (some 152) (.loadN 2 (.t 151)) none,
    .mk4 8 (some 153) (.mv (.t 0)) none,
    .mk4 9 (some 154) (.mv (.t 12)) none,
    .mk4 10 (some 155) (.ixaS 2 (.t 153) (.t 154)) none,
    .mk4 11 (some 156) (.loadN 2 (.t 155)) none,
    .mk4 12 (some 157) (.ixaS 2 (.t 145) (.t 146)) none,
    .mk4 13 none (.store 2 (.t 157) (.t 152)) none,
    .mk4 14 (some 158) (.ixaS 2 (.t 147) (.t 148)) none,
    .mk4 15 none (.store 2 (.t 158) (.t 156)) none] [0, 1, 4, 12, 13]) (c247_0)
def c247_2 : AC :=
  .seq (.seq (.region 0 [.mk4 0 (some 123) (.mv (.t 12)) none,
    .mk4 1 (some 124) (.mv (.t 13)) none,
    .mk4 2 (some 125) (.bin .leq (.t 123) (.t 124)) none,
    .mk4 3 (some 126) (.mv (.t 125)) none,
    .mk4 4 (some 127) (.mv (.t 4)) (some (126, true)),
    .mk4 5 (some 128) (.mv (.t 0)) (some (126, true)),
    .mk4 6 (some 129) (.mv (.t 13)) (some (126, true)),
    .mk4 7 (some 130) (.ixaS 2 (.t 128) (.t 129)) (some (126, true)),
    .mk4 8 (some 131) (.loadN 2 (.t 130)) (some (126, true)),
    .mk4 9 (some 132) (.mv (.t 0)) (some (126, true)),
    .mk4 10 (some 133) (.mv (.t 1)) (some (126, true)),
    .mk4 11 (some 134) (.ixaS 2 (.t 132) (.t 133)) (some (126, true)),
    .mk4 12 (some 135) (.loadN 2 (.t 134)) (some (126, true)),
    .mk4 13 (some 136) (.callv (.t 127) [(.t 131), (.t 135)]) (some (126, true)),
    .mk4 14 (some 137) (.bin .lss (.t 136) (.c (.i 0))) (some (126, true)),
    .mk4 15 (some 138) (.un .not (.t 137)) (some (126, true)),
    .mk4 16 (some 139) (.pick (.t 126) (.t 138) (.c (.bool false))) none] [0, 1, 4, 12, 13, 139]) (.cond (.t 139) (.skip) (.exit 8))) (.block 9 (.region 0 [.mk4 0 (some 140) (.mv (.t 13)) none,
    .mk4 1 (some 141) (.bin .sub (.t 140) (.c (.i 1))) none,
    .mk4 2 (some 13) (.mv (.t 141)) none] [0, 1, 4, 12, 13]))
def c247_3 : AC :=
  .seq (.seq (.region 0 [.mk4 0 (some 105) (.mv (.t 12)) none,
    .mk4 1 (some 106) (.mv (.t 13)) none,
    .mk4 2 (some 107) (.bin .leq (.t 105) (.t 106)) none,
    .mk4 3 (some 108) (.mv (.t 107)) none,
    .mk4 4 (some 109) (.mv (.t 4)) (some (108, true)),
    .mk4 5 (some 110) (.mv (.t 0)) (some (108, true)),
    .mk4 6 (some 111) (.mv (.t 12)) (some (108, true)),
    .mk4 7 (some 112) (.ixaS 2 (.t 110) (.t 111)) (some (108, true)),
    .mk4 8 (some 113) (.loadN 2 (.t 112)) (some (108, true)),
    .mk4 9 (some 114) (.mv (.t 0)) (some (108, true)),
    .mk4 10 (some 115) (.mv (.t 1)) (some (108, true)),
    .mk4 11 (some 116) (.ixaS 2 (.t 114) (.t 115)) (some (108, true)),
    .mk4 12 (some 117) (.loadN 2 (.t 116)) (some (108, true)),
    .mk4 13 (some 118) (.callv (.t 109) [(.t 113), (.t 117)]) (some (108, true)),
    .mk4 14 (some 119) (.bin .lss (.t 118) (.c (.i 0))) (some (108, true)),
    .mk4 15 (some 120) (.pick (.t 108) (.t 119) (.c (.bool false))) none] [0, 1, 4, 12, 13, 120]) (.cond (.t 120) (.skip) (.exit 6))) (.block 7 (.region 0 [.mk4 0 (some 121) (.mv (.t 12)) none,
    .mk4 1 (some 122) (.bin .add (.t 121) (.c (.i 1))) none,
    .mk4 2 (some 12) (.mv (.t 122)) none] [0, 1, 4, 12, 13]))
def c247_4 : AC :=
  .seq (.block 6 (.loop [0, 1, 4, 12, 13] (c247_3))) (.seq (.block 8 (.loop [0, 1, 4, 12, 13] (c247_2))) (.seq (.seq (.region 0 [.mk4 0 (some 142) (.mv (.t 12)) none,
    .mk4 1 (some 143) (.mv (.t 13)) none,
    .mk4 2 (some 144) (.bin .gtr (.t 142) (.t 143)) none] [0, 1, 4, 12, 13, 144]) (.cond (.t 144) (.exit 4) (.skip))) (c247_1)))
def c247_5 : AC :=
  .seq (.region 0 [.mk4 0 (some 163) (.mv (.t 0)) none,
    .mk4 1 (some 164) (.mv (.t 13)) none,
    .mk4 2 (some 165) (.mv (.t 0)) none,
    .mk4 3 (some 166) (.mv (.t 1)) none,
    .mk4 4 (some 167) (.mv (.t 0)) none,
    .mk4 5 (some 168) (.mv (.t 1)) none,
    .mk4 6 (some 169) (.ixaS 2 (.t 167) (.t 168)) none,
    .mk4 7 (some 170) (.loadN 2 (.t 169)) none,
    .mk4 8 (some 171) (.mv (.t 0)) none,
    .mk4 9 (some 172) (.mv (.t 13)) none,
    .mk4 10 (some 173) (.ixaS 2 (.t 171) (.t 172)) none,
    .mk4 11 (some 174) (.loadN 2 (.t 173)) none,
    .mk4 12 (some 175) (.ixaS 2 (.t 163) (.t 164)) none,
    .mk4 13 none (.store 2 (.t 175) (.t 170)) none,
    .mk4 14 (some 176) (.ixaS 2 (.t 165) (.t 166)) none,
    .mk4 15 none (.store 2 (.t 176) (.t 174)) none] [13]) (.seq (.region 0 [.mk4 0 (some 177) (.mv (.t 13)) none,
    .mk4 1 (some 10) (.mv (.t 177)) none,
    .mk4 2 (some 11) (.mv (.c (.bool false))) none] [10, 11]) (.ret))
def c247_6 : AC :=
  .seq (.region 0 [.mk4 0 (some 101) (.mv (.t 12)) none,
    .mk4 1 (some 102) (.bin .add (.t 101) (.c (.i 1))) none,
    .mk4 2 (some 12) (.mv (.t 102)) none] [0, 1, 4, 12, 13]) (.seq (.region 0 [.mk4 0 (some 103) (.mv (.t 13)) none,
    .mk4 1 (some 104) (.bin .sub (.t 103) (.c (.i 1))) none,
    .mk4 2 (some 13) (.mv (.t 104)) none] [0, 1, 4, 12, 13]) (.seq (.block 4 (.loop [0, 1, 4, 12, 13] (.block 5 (c247_4)))) (c247_5)))
def c247_7 : AC :=
  .seq (.region 0 [.mk4 0 (some 72) (.mv (.t 0)) none,
    .mk4 1 (some 73) (.mv (.t 13)) none,
    .mk4 2 (some 74) (.mv (.t 0)) none,
    .mk4 3 (some 75) (.mv (.t 1)) none,
    .mk4 4 (some 76) (.mv (.t 0)) none,
    .mk4 5 (some 77) (.mv (.t 1)) none,
    .mk4 6 (some 78) (.ixaS 2 (.t 76) (.t 77)) none,
    .mk4 7 (some 79) (.loadN 2 (.t 78)) none,
    .mk4 8 (some 80) (.mv (.t 0)) none,
    .mk4 9 (some 81) (.mv (.t 13)) none,
    .mk4 10 (some 82) (.ixaS 2 (.t 80) (.t 81)) none,
    .mk4 11 (some 83) (.loadN 2 (.t 82)) none,
    .mk4 12 (some 84) (.ixaS 2 (.t 72) (.t 73)) none,
    .mk4 13 none (.store 2 (.t 84) (.t 79)) none,
    .mk4 14 (some 85) (.ixaS 2 (.t 74) (.t 75)) none,
    .mk4 15 none (.store 2 (.t 85) (.t 83)) none] [13]) (.seq (.region 0 [.mk4 0 (some 86) (.mv (.t 13)) none,
    .mk4 1 (some 10) (.mv (.t 86)) none,
    .mk4 2 (some 11) (.mv (.c (.bool true))) none] [10, 11]) (.ret))
def c247_8 : AC :=
  .seq (.region 0 [.mk4 0 (some 87) (.mv (.t 0)) none,
    .mk4 1 (some 88) (.mv (.t 12)) none,
    .mk4 2 (some 89) (.mv (.t 0)) none,
    .mk4 3 (some 90) (.mv (.t 13)) none,
    .mk4 4 (some 91) (.mv (.t 0)) none,
    .mk4 5 (some 92) (.mv (.t 13)) none,
    .mk4 6 (some 93) (.ixaS 2 (.t 91) (.t 92)) none,
    .mk4 7 (some 94) (.loadN 2 (.t 93)) none,
    .mk4 8 (some 95) (.mv (.t 0)) none,
    .mk4 9 (some 96) (.mv (.t 12)) none,
    .mk4 10 (some 97) (.ixaS 2 (.t 95) (.t 96)) none,
    .mk4 11 (some 98) (.loadN 2 (.t 97)) none,
    .mk4 12 (some 99) (.ixaS 2 (.t 87) (.t 88)) none,
    .mk4 13 none (.store 2 (.t 99) (.t 94)) none,
    .mk4 14 (some 100) (.ixaS 2 (.t 89) (.t 90)) none,
    .mk4 15 none (.store 2 (.t 100) (.t 98)) none] [0, 1, 4, 12, 13]) (c247_6)
def c247_9 : AC :=
  .seq (.seq (.region 0 [.mk4 0 (some 50) (.mv (.t 12)) none,
    .mk4 1 (some 51) (.mv (.t 13)) none,
    .mk4 2 (some 52) (.bin .leq (.t 50) (.t 51)) none,
    .mk4 3 (some 53) (.mv (.t 52)) none,
    .mk4 4 (some 54) (.mv (.t 4)) (some (53, true)),
    .mk4 5 (some 55) (.mv (.t 0)) (some (53, true)),
    .mk4 6 (some 56) (.mv (.t 13)) (some (53, true)),
    .mk4 7 (some 57) (.ixaS 2 (.t 55) (.t 56)) (some (53, true)),
    .mk4 8 (some 58) (.loadN 2 (.t 57)) (some (53, true)),
    .mk4 9 (some 59) (.mv (.t 0)) (some (53, true)),
    .mk4 10 (some 60) (.mv (.t 1)) (some (53, true)),
    .mk4 11 (some 61) (.ixaS 2 (.t 59) (.t 60)) (some (53, true)),
    .mk4 12 (some 62) (.loadN 2 (.t 61)) (some (53, true)),
    .mk4 13 (some 63) (.callv (.t 54) [(.t 58), (.t 62)]) (some (53, true)),
    .mk4 14 (some 64) (.bin .lss (.t 63) (.c (.i 0))) (some (53, true)),
    .mk4 15 (some 65) (.un .not (.t 64)) (some (53, true)),
    .mk4 16 (some 66) (.pick (.t 53) (.t 65) (.c (.bool false))) none] [0, 1, 4, 12, 13, 66]) (.cond (.t 66) (.skip) (.exit 2))) (.block 3 (.region 0 [.mk4 0 (some 67) (.mv (.t 13)) none,
    .mk4 1 (some 68) (.bin .sub (.t 67) (.c (.i 1))) none,
    .mk4 2 (some 13) (.mv (.t 68)) none] [0, 1, 4, 12, 13]))
def c247_10 : AC :=
  .seq (.seq (.region 0 [.mk4 0 (some 32) (.mv (.t 12)) none,
    .mk4 1 (some 33) (.mv (.t 13)) none,
    .mk4 2 (some 34) (.bin .leq (.t 32) (.t 33)) none,
    .mk4 3 (some 35) (.mv (.t 34)) none,
    .mk4 4 (some 36) (.mv (.t 4)) (some (35, true)),
    .mk4 5 (some 37) (.mv (.t 0)) (some (35, true)),
    .mk4 6 (some 38) (.mv (.t 12)) (some (35, true)),
    .mk4 7 (some 39) (.ixaS 2 (.t 37) (.t 38)) (some (35, true)),
    .mk4 8 (some 40) (.loadN 2 (.t 39)) (some (35, true)),
    .mk4 9 (some 41) (.mv (.t 0)) (some (35, true)),
    .mk4 10 (some 42) (.mv (.t 1)) (some (35, true)),
    .mk4 11 (some 43) (.ixaS 2 (.t 41) (.t 42)) (some (35, true)),
    .mk4 12 (some 44) (.loadN 2 (.t 43)) (some (35, true)),
    .mk4 13 (some 45) (.callv (.t 36) [(.t 40), (.t 44)]) (some (35, true)),
    .mk4 14 (some 46) (.bin .lss (.t 45) (.c (.i 0))) (some (35, true)),
    .mk4 15 (some 47) (.pick (.t 35) (.t 46) (.c (.bool false))) none] [0, 1, 4, 12, 13, 47]) (.cond (.t 47) (.skip) (.exit 0))) (.block 1 (.region 0 [.mk4 0 (some 48) (.mv (.t 12)) none,
    .mk4 1 (some 49) (.bin .add (.t 48) (.c (.i 1))) none,
    .mk4 2 (some 12) (.mv (.t 49)) none] [0, 1, 4, 12, 13]))
def c247_11 : AC :=
  .seq (.block 0 (.loop [0, 1, 4, 12, 13] (c247_10))) (.seq (.block 2 (.loop [0, 1, 4, 12, 13] (c247_9))) (.seq (.seq (.region 0 [.mk4 0 (some 69) (.mv (.t 12)) none,
    .mk4 1 (some 70) (.mv (.t 13)) none,
    .mk4 2 (some 71) (.bin .gtr (.t 69) (.t 70)) none] [0, 1, 4, 12, 13, 71]) (.cond (.t 71) (c247_7) (.skip))) (c247_8)))
def c247_12 : AC :=
  .seq (.region 0 [.mk4 0 (some 28) (.mv (.t 1)) none,
    .mk4 1 (some 29) (.bin .add (.t 28) (.c (.i 1))) none,
    .mk4 2 (some 30) (.mv (.t 2)) none,
    .mk4 3 (some 31) (.bin .sub (.t 30) (.c (.i 1))) none,
    .mk4 4 (some 12) (.mv (.t 29)) none,
    .mk4 5 (some 13) (.mv (.t 31)) none] [0, 1, 4, 12, 13]) (c247_11)
def c247_13 : AC :=
  .seq (.region 0 [.mk4 0 (some 14) (.mv (.t 0)) none,
    .mk4 1 (some 15) (.mv (.t 1)) none,
    .mk4 2 (some 16) (.mv (.t 0)) none,
    .mk4 3 (some 17) (.mv (.t 3)) none,
    .mk4 4 (some 18) (.mv (.t 0)) none,
    .mk4 5 (some 19) (.mv (.t 3)) none,
    .mk4 6 (some 20) (.ixaS 2 (.t 18) (.t 19)) none,
    .mk4 7 (some 21) (.loadN 2 (.t 20)) none,
    .mk4 8 (some 22) (.mv (.t 0)) none,
    .mk4 9 (some 23) (.mv (.t 1)) none,
    .mk4 10 (some 24) (.ixaS 2 (.t 22) (.t 23)) none,
    .mk4 11 (some 25) (.loadN 2 (.t 24)) none,
    .mk4 12 (some 26) (.ixaS 2 (.t 14) (.t 15)) none,
    .mk4 13 none (.store 2 (.t 26) (.t 21)) none,
    .mk4 14 (some 27) (.ixaS 2 (.t 16) (.t 17)) none,
    .mk4 15 none (.store 2 (.t 27) (.t 25)) none] [0, 1, 2, 4]) (c247_12)
def c247 : AFn := ⟨5, 178, [.tmp 10, .tmp 11],
  (.seq (.region 0 [.mk4 0 (some 10) (.mv (.c (.i 0))) none,
    .mk4 1 (some 11) (.mv (.c (.bool false))) none] [0, 1, 2, 3, 4]) (c247_13))⟩
def c248_0 : AC :=
  .seq (.region 0 [.mk4 0 (some 59) (.mv (.t 0)) none,
    .mk4 1 (some 60) (.mv (.t 3)) none,
    .mk4 2 (some 61) (.mv (.t 10)) none,
    .mk4 3 (some 62) (.bin .add (.t 60) (.t 61)) none,
    .mk4 4 (some 63) (.mv (.t 0)) none,
    .mk4 5 (some 64) (.mv (.t 3)) none,
    .mk4 6 (some 65) (.mv (.t 11)) none,
    .mk4 7 (some 66) (.bin .add (.t 64) (.t 65)) none,
    .mk4 8 (some 67) (.mv (.t 0)) none,
    .mk4 9 (some 68) (.mv (.t 3)) none,
    .mk4 10 (some 69) (.mv (.t 11)) none,
    .mk4 11 (some 70) (.bin .add (.t 68) (.t 69)) none,
    .mk4 12 (some 71) (.ixaS 2 (.t 67) (.t 70)) none,
    .mk4 13 (some 72) (.loadN 2 (.t 71)) none,
    .mk4 14 (some 73) (.mv (.t 0)) none,
    .mk4 15 (some 74) (.mv (.t 3)) none,
    .mk4 16 (some 75) (.mv (.t 10)) none,
    .mk4 17 (some 76) (.bin .add (.t 74) (.t 75)) none,
    .mk4 18 (some 77) (.ixaS 2 (.t 73) (.t 76)) none,
    .mk4 19 (some 78) (.loadN 2 (.t 77)) none,
    .mk4 20 (some 79) (.ixaS 2 (.t 59) (.t 62)) none,
    .mk4 21 none (.store 2 (.t 79) (.t 72)) none,
    .mk4 22 (some 80) (.ixaS 2 (.t 63) (.t 66)) none,
    .mk4 23 none (.store 2 (.t 80) (.t 78)) none] [0, 2, 3, 4, 11]) (.region 0 [.mk4 0 (some 81) (.mv (.t 11)) none,
    .mk4 1 (some 10) (.mv (.t 81)) none] [0, 2, 3, 4, 10])
def c248_1 : AC :=
  .seq (.seq (.region 0 [.mk4 0 (some 43) (.mv (.t 4)) none,
    .mk4 1 (some 44) (.mv (.t 0)) none,
    .mk4 2 (some 45) (.mv (.t 3)) none,
    .mk4 3 (some 46) (.mv (.t 10)) none,
    .mk4 4 (some 47) (.bin .add (.t 45) (.t 46)) none,
    .mk4 5 (some 48) (.ixaS 2 (.t 44) (.t 47)) none,
    .mk4 6 (some 49) (.loadN 2 (.t 48)) none,
    .mk4 7 (some 50) (.mv (.t 0)) none,
    .mk4 8 (some 51) (.mv (.t 3)) none,
    .mk4 9 (some 52) (.mv (.t 11)) none,
    .mk4 10 (some 53) (.bin .add (.t 51) (.t 52)) none,
    .mk4 11 (some 54) (.ixaS 2 (.t 50) (.t 53)) none,
    .mk4 12 (some 55) (.loadN 2 (.t 54)) none,
    .mk4 13 (some 56) (.callv (.t 43) [(.t 49), (.t 55)]) none,
    .mk4 14 (some 57) (.bin .lss (.t 56) (.c (.i 0))) none,
    .mk4 15 (some 58) (.un .not (.t 57)) none] [0, 2, 3, 4, 10, 11, 58]) (.cond (.t 58) (.ret) (.skip))) (c248_0)
def c248_2 : AC :=
  .seq (.seq (.region 0 [.mk4 0 (some 19) (.mv (.t 11)) none,
    .mk4 1 (some 20) (.bin .add (.t 19) (.c (.i 1))) none,
    .mk4 2 (some 21) (.mv (.t 2)) none,
    .mk4 3 (some 22) (.bin .lss (.t 20) (.t 21)) none,
    .mk4 4 (some 23) (.mv (.t 22)) none,
    .mk4 5 (some 24) (.mv (.t 4)) (some (23, true)),
    .mk4 6 (some 25) (.mv (.t 0)) (some (23, true)),
    .mk4 7 (some 26) (.mv (.t 3)) (some (23, true)),
    .mk4 8 (some 27) (.mv (.t 11)) (some (23, true)),
    .mk4 9 (some 28) (.bin .add (.t 26) (.t 27)) (some (23, true)),
    .mk4 10 (some 29) (.ixaS 2 (.t 25) (.t 28)) (some (23, true)),
    .mk4 11 (some 30) (.loadN 2 (.t 29)) (some (23, true)),
    .mk4 12 (some 31) (.mv (.t 0)) (some (23, true)),
    .mk4 13 (some 32) (.mv (.t 3)) (some (23, true)),
    .mk4 14 (some 33) (.mv (.t 11)) (some (23, true)),
    .mk4 15 (some 34) (.bin .add (.t 32) (.t 33)) (some (23, true)),
    .mk4 16 (some 35) (.bin .add (.t 34) (.c (.i 1))) (some (23, true)),
    .mk4 17 (some 36) (.ixaS 2 (.t 31) (.t 35)) (some (23, true)),
    .mk4 18 (some 37) (.loadN 2 (.t 36)) (some (23, true)),
    .mk4 19 (some 38) (.callv (.t 24) [(.t 30), (.t 37)]) (some (23, true)),
    .mk4 20 (some 39) (.bin .lss (.t 38) (.c (.i 0))) (some (23, true)),
    .mk4 21 (some 40) (.pick (.t 23) (.t 39) (.c (.bool false))) none] [0, 2, 3, 4, 10, 11, 40]) (.cond (.t 40) (.region 0 [.mk4 0 (some 41) (.mv (.t 11)) none,
    .mk4 1 (some 42) (.bin .add (.t 41) (.c (.i 1))) none,
    .mk4 2 (some 11) (.mv (.t 42)) none] [0, 2, 3, 4, 10, 11]) (.skip))) (c248_1)
def c248_3 : AC :=
  .seq (.region 0 [.mk4 0 (some 13) (.mv (.t 10)) none,
    .mk4 1 (some 14) (.bin .mul (.c (.i 2)) (.t 13)) none,
    .mk4 2 (some 15) (.bin .add (.t 14) (.c (.i 1))) none,
    .mk4 3 (some 11) (.mv (.t 15)) none] [0, 2, 3, 4, 10, 11]) (.seq (.seq (.region 0 [.mk4 0 (some 16) (.mv (.t 11)) none,
    .mk4 1 (some 17) (.mv (.t 2)) none,
    .mk4 2 (some 18) (.bin .geq (.t 16) (.t 17)) none] [0, 2, 3, 4, 10, 11, 18]) (.cond (.t 18) (.exit 0) (.skip))) (c248_2))
def c248 : AFn := ⟨5, 82, [],
  (.seq (.region 0 [.mk4 0 (some 12) (.mv (.t 1)) none,
    .mk4 1 (some 10) (.mv (.t 12)) none] [0, 2, 3, 4, 10]) (.block 0 (.loop [0, 2, 3, 4, 10] (.block 1 (c248_3)))))⟩
def c249_0 : AC :=
  .seq (.region 0 [.mk4 0 (some 9) (.mv (.t 0)) none,
    .mk4 1 (some 10) (.mv (.t 1)) none,
    .mk4 2 (some 11) (.bin .sub (.t 10) (.c (.i 1))) none,
    .mk4 3 (some 12) (.mv (.t 1)) none,
    .mk4 4 (some 13) (.mv (.t 1)) none,
    .mk4 5 (some 14) (.bin .add (.t 13) (.c (.i 1))) none,
    .mk4 6 (some 15) (.mv (.t 2)) none,
    .mk4 7 (some 16) (.mv (.t 3)) none,
    .mk4 8 (some 17) (.call 250 [(.t 9), (.t 11), (.t 12), (.t 14), (.t 15), (.t 16)]) none,
    .mk4 9 (some 8) (.mv (.t 17)) none] [8]) (.ret)
def c249 : AFn := ⟨4, 18, [.tmp 8],
  (.seq (.region 0 [.mk4 0 (some 8) (.mv (.c (.i 0))) none] [0, 1, 2, 3]) (c249_0))⟩
end Am.Sigs
