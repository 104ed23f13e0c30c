/- Our own library, part 15: an abstract machine, sound for the model, and what the functions do over it. No condition. -/
import Derived.Test.YtkcenemffnfoeaaGreatDoorK14
set_option maxHeartbeats 8000000
set_option linter.all false
set_option maxRecDepth 100000
namespace Am.Sigs
open Am Go
abbrev mV (i d x:Nat):Ins := .mk4 i (some d) (.mv (.t x)) none
abbrev mC (i d:Nat) (v:V):Ins := .mk4 i (some d) (.mv (.c v)) none
abbrev fA (i d k x:Nat):Ins := .mk4 i (some d) (.faddr k (.t x)) none
abbrev lD (i d x:Nat):Ins := .mk4 i (some d) (.load1 (.t x)) none
abbrev nC (i d x:Nat):Ins := .mk4 i (some d) (.nilck (.t x)) none
abbrev eX (i d x k:Nat):Ins := .mk4 i (some d) (.extract (.t x) k) none
abbrev sT (i n a x:Nat):Ins := .mk4 i none (.store n (.t a) (.t x)) none
abbrev gG (i d:Nat) (x:I) (g:Nat) (b:Bool):Ins := .mk4 i (some d) x (some (g,b))
abbrev qQ (i d:Nat) (x:I):Ins := .mk4 i (some d) x none
abbrev bB (i d:Nat) (o:BinOp) (a b:Nat):Ins := .mk4 i (some d) (.bin o (.t a) (.t b)) none
abbrev bC (i d:Nat) (o:BinOp) (a:Nat) (v:V):Ins := .mk4 i (some d) (.bin o (.t a) (.c v)) none
abbrev pT (i d a b:Nat) (v:V):Ins := .mk4 i (some d) (.pick (.t a) (.t b) (.c v)) none
abbrev pC (i d a:Nat) (v:V) (b:Nat):Ins := .mk4 i (some d) (.pick (.t a) (.c v) (.t b)) none
abbrev aA (i d f a:Nat):Ins := .mk4 i (some d) (.call f [.t a]) none
abbrev aB (i d f a b:Nat):Ins := .mk4 i (some d) (.call f [.t a,.t b]) none
abbrev aC (i d f a b c:Nat):Ins := .mk4 i (some d) (.call f [.t a,.t b,.t c]) none
abbrev gM (i d x g:Nat) (b:Bool):Ins := .mk4 i (some d) (.mv (.t x)) (some (g,b))
abbrev gL (i d x g:Nat) (b:Bool):Ins := .mk4 i (some d) (.load1 (.t x)) (some (g,b))
abbrev gF (i d k x g:Nat) (b:Bool):Ins := .mk4 i (some d) (.faddr k (.t x)) (some (g,b))
abbrev iA (i d n s a b:Nat):Ins := .mk4 i (some d) (.ixaA n s (.t a) (.t b)) none
abbrev iS (i d s a b:Nat):Ins := .mk4 i (some d) (.ixaS s (.t a) (.t b)) none
abbrev lN (i d n a:Nat):Ins := .mk4 i (some d) (.loadN n (.t a)) none
abbrev lL (i d a:Nat):Ins := .mk4 i (some d) (.lenL (.t a)) none
abbrev sQ (a b:AC):AC := .seq a b
abbrev rG (l:List Ins) (k:List Nat):AC := .region 0 l k
abbrev cX (s n:Nat):AC := .cond (.t s) .skip (.exit n)
abbrev cD (s:Nat) (a:AC):AC := .cond (.t s) a .skip
abbrev rT (l:List Ins) (k:List Nat):AC := .seq (.region 0 l k) .ret
def c3_0:AC :=
 sQ (rG [mV 0 105 11,mV 1 106 17,iS 2 107 1 105 106,lD 3 108 107,mV 4 109 14,mV 5 110 17,iS 6 111 1 109 110,lD 7 112 111,bB 8 113 .neq 108 112,mV 9 114 113,gM 10 115 1 114 false,gM 11 116 17 114 false,gG 12 117 (.ixaS 2 (.t 115) (.t 116)) 114 false,gF 13 118 0 117 114 false,gL 14 119 118 114 false,gM 15 120 8 114 false,gM 16 121 17 114 false,gG 17 122 (.ixaS 1 (.t 120) (.t 121)) 114 false,gL 18 123 122 114 false,gG 19 124 (.bin .neq (.t 119) (.t 123)) 114 false,pC 20 125 114 (.bool true) 124,mV 21 126 125,gM 22 127 1 126 false,gM 23 128 17 126 false,gG 24 129 (.ixaS 2 (.t 127) (.t 128)) 126 false,gF 25 130 1 129 126 false,gL 26 131 130 126 false,gM 27 132 9 126 false,gM 28 133 17 126 false,gG 29 134 (.ixaS 1 (.t 132) (.t 133)) 126 false,gL 30 135 134 126 false,gG 31 136 (.bin .neq (.t 131) (.t 135)) 126 false,pC 32 137 126 (.bool true) 136] [1,5,8,9,11,14,17,137]) (cD 137 (rT [mC 0 4 (.bool false)] [4]))
def c3_1:AC :=
 sQ (sQ (rG [mV 0 99 17,mV 1 100 11,lL 2 101 100,bB 3 102 .lss 99 101] [1,5,8,9,11,14,17,102]) (cX 102 2)) (sQ (.block 3 (c3_0)) (rG [mV 0 103 17,bC 1 104 .add 103 (.i 1),mV 2 17 104] [1,5,8,9,11,14,17]))
def c3_2:AC :=
 sQ (sQ (rG [mV 0 69 11,lL 1 70 69,mV 2 71 14,lL 3 72 71,bB 4 73 .neq 70 72,mV 5 74 73,gM 6 75 12 74 false,gM 7 76 15 74 false,gG 8 77 (.bin .neq (.t 75) (.t 76)) 74 false,pC 9 78 74 (.bool true) 77,mV 10 79 78,gM 11 80 13 79 false,gM 12 81 16 79 false,gG 13 82 (.bin .neq (.t 80) (.t 81)) 79 false,pC 14 83 79 (.bool true) 82,mV 15 84 83,gM 16 85 5 84 false,gG 17 86 (.nilck (.t 85)) 84 false,gF 18 87 0 86 84 false,gL 19 88 87 84 false,gM 20 89 1 84 false,gG 21 90 (.call 8 [(.t 88),(.t 89)]) 84 false,gM 22 91 16 84 false,gG 23 92 (.bin .neq (.t 91) (.c (.i 0))) 84 false,gM 24 93 92 84 false,gM 25 94 15 93 false,gG 26 95 (.bin .gtr (.t 94) (.c (.i 0))) 93 false,gG 27 96 (.pick (.t 93) (.c (.bool true)) (.t 95)) 84 false,gG 28 97 (.eq .bool true (.t 90) (.t 96)) 84 false,pC 29 98 84 (.bool true) 97] [1,5,8,9,11,14,98]) (cD 98 (rT [mC 0 4 (.bool false)] [4]))) (sQ (sQ (rG [mC 0 17 (.i 0)] [1,5,8,9,11,14,17]) (.block 2 (.loop [1,5,8,9,11,14,17] (c3_1)))) (rT [mV 0 138 5,aA 1 139 9 138,mV 2 4 139] [4]))
def c3_3:AC :=
 sQ (rG [mV 0 62 6,mV 1 63 8,mV 2 64 9,aC 3 65 7 62 63 64,mV 4 61 65,eX 5 66 61 0,eX 6 67 61 1,eX 7 68 61 2,mV 8 14 66,mV 9 15 67,mV 10 16 68] [1,5,8,9,11,12,13,14,15,16]) (c3_2)
def c3_4:AC :=
 rG [mV 0 43 9,mV 1 44 1,mV 2 45 10,iS 3 46 2 44 45,fA 4 47 1 46,lD 5 48 47,qQ 6 49 (.bslice 1 1 [.i 0] [(0,(.t 48))]),qQ 7 50 (.append 1 8 (.t 43) (.t 49)),mV 8 9 50] [1,5,6,8,9,10]
def c3_5:AC :=
 sQ (rG [mV 0 35 8,mV 1 36 1,mV 2 37 10,iS 3 38 2 36 37,fA 4 39 0 38,lD 5 40 39,qQ 6 41 (.bslice 1 1 [.i 0] [(0,(.t 40))]),qQ 7 42 (.append 1 8 (.t 35) (.t 41)),mV 8 8 42] [1,5,6,8,9,10]) (c3_4)
def c3_6:AC :=
 sQ (sQ (rG [mV 0 29 10,mV 1 30 1,lL 2 31 30,bB 3 32 .lss 29 31] [1,5,6,8,9,10,32]) (cX 32 0)) (sQ (.block 1 (c3_5)) (rG [mV 0 33 10,bC 1 34 .add 33 (.i 1),mV 2 10 34] [1,5,6,8,9,10]))
def c3_7:AC :=
 sQ (rG [mV 0 52 5,nC 1 53 52,fA 2 54 0 53,lD 3 55 54,mV 4 56 1,aB 5 57 6 55 56,mV 6 51 57,eX 7 58 51 0,eX 8 59 51 1,eX 9 60 51 2,mV 10 11 58,mV 11 12 59,mV 12 13 60] [1,5,6,8,9,11,12,13]) (c3_3)
def c3_8:AC :=
 sQ (sQ (rG [mV 0 27 7,qQ 1 28 (.un .not (.t 27))] [1,5,6,28]) (cD 28 (rT [mC 0 4 (.bool true)] [4]))) (sQ (rG [mC 0 8 (.nils)] [1,5,6,8]) (sQ (rG [mC 0 9 (.nils)] [1,5,6,8,9]) (sQ (sQ (rG [mC 0 10 (.i 0)] [1,5,6,8,9,10]) (.block 0 (.loop [1,5,6,8,9,10] (c3_6)))) (c3_7))))
def c3_9:AC :=
 sQ (rG [mV 0 22 0,aA 1 23 5 22,mV 2 21 23,eX 3 24 21 0,eX 4 25 21 1,eX 5 26 21 2,mV 6 5 24,mV 7 6 25,mV 8 7 26] [1,5,6,7]) (c3_8)
def c3_10:AC :=
 sQ (rG [mC 0 4 (.bool false)] [0,1]) (sQ (sQ (rG [mV 0 18 1,lL 1 19 18,bC 2 20 .gtr 19 (.i 120)] [0,1,20]) (cD 20 (rT [mC 0 4 (.bool true)] [4]))) (c3_9))
def c3:AFn:=⟨2,140,[.tmp 4],(c3_10)⟩
def c5_0:AC :=
 rG [mV 0 32 8,mV 1 33 5,nC 2 34 33,fA 3 35 1 34,lD 4 36 35,mV 5 37 9,aB 6 38 23 36 37,qQ 7 39 (.bslice 7 1 [.bool false,.bool false,.bool false,.bool false,.bool false,.int .u64 0,.int .u64 0] [(0,(.t 38))]),qQ 8 40 (.append 7 24 (.t 32) (.t 39)),mV 9 8 40] [5,8,9]
def c5_1:AC :=
 sQ (sQ (rG [mV 0 28 9,bC 1 29 .leq 28 (.i 95)] [5,8,9,29]) (cX 29 2)) (sQ (.block 3 (c5_0)) (rG [mV 0 30 9,bC 1 31 .add 30 (.i 1),mV 2 9 31] [5,8,9]))
def c5_2:AC :=
 sQ (sQ (rG [mC 0 9 (.i 0)] [5,8,9]) (.block 2 (.loop [5,8,9] (c5_1)))) (rT [mV 0 41 5,mV 1 42 8,mV 2 2 41,mV 3 3 42,mC 4 4 (.bool true)] [2,3,4])
def c5_3:AC :=
 sQ (rG [mV 0 26 7,qQ 1 27 (.un .not (.t 26))] [0,5,6,27]) (cD 27 (rT [mC 0 2 (.ptr none),mC 1 3 (.nils),mC 2 4 (.bool false)] [2,3,4]))
def c5_4:AC :=
 sQ (rG [mV 0 20 5,mV 1 21 0,mV 2 22 6,iS 3 23 5 21 22,lN 4 24 5 23,aB 5 25 22 20 24,mV 6 7 25] [0,5,6,7]) (c5_3)
def c5_5:AC :=
 sQ (sQ (rG [mV 0 14 6,mV 1 15 0,lL 2 16 15,bB 3 17 .lss 14 16] [0,5,6,17]) (cX 17 0)) (sQ (.block 1 (c5_4)) (rG [mV 0 18 6,bC 1 19 .add 18 (.i 1),mV 2 6 19] [0,5,6]))
def c5_6:AC :=
 sQ (sQ (rG [mV 0 10 0,aA 1 11 20 10,bC 2 12 .gtr 11 (.i 0)] [0,12]) (cD 12 (rT [mC 0 2 (.ptr none),mC 1 3 (.nils),mC 2 4 (.bool false)] [2,3,4]))) (sQ (rG [qQ 0 13 (.call 21 []),mV 1 5 13] [0,5]) (sQ (sQ (rG [mC 0 6 (.i 0)] [0,5,6]) (.block 0 (.loop [0,5,6] (c5_5)))) (sQ (rG [mC 0 8 (.nils)] [5,8]) (c5_2))))
def c5:AFn:=⟨1,43,[.tmp 2,.tmp 3,.tmp 4],(sQ (rG [mC 0 2 (.ptr none),mC 1 3 (.nils),mC 2 4 (.bool false)] [0]) (c5_6))⟩
def c6_0:AC :=
 sQ (rG [lD 0 21 8,mV 1 22 10,qQ 2 23 (.bslice 1 1 [.i 0] [(0,(.t 22))]),qQ 3 24 (.append 1 8 (.t 21) (.t 23)),sT 4 1 8 24] [9,10]) (rG [lD 0 25 9,mV 1 26 10,qQ 2 27 (.minI [(.t 26),(.c (.i 1))]),bB 3 28 .add 25 27,sT 4 1 9 28] [])
def c6_1:AC :=
 sQ (sQ (rG [mV 0 17 0,mV 1 18 1,aB 2 19 25 17 18] [8,9,19]) (.block 0 (.rangeFunc (.t 19) [20] [8,9] (rG [mV 0 10 20] [8,9,10]) (.block 1 (c6_0))))) (rT [lD 0 29 8,lD 1 30 9,mV 2 4 29,mV 3 5 30,mC 4 6 (.i 0)] [4,5,6])
def c6_2:AC :=
 sQ (rG [mV 0 14 7,bC 1 15 .neq 14 (.i 0)] [0,1,7,15]) (cD 15 (rT [mV 0 16 7,mC 1 4 (.nils),mC 2 5 (.i 0),mV 3 6 16] [4,5,6]))
def c6_3:AC :=
 sQ (sQ (rG [mV 0 11 0,mV 1 12 1,aB 2 13 24 11 12,mV 3 7 13] [0,1,7]) (c6_2)) (sQ (rG [qQ 0 8 (.alloc 1 [.nils])] [0,1,8]) (sQ (rG [qQ 0 9 (.alloc 1 [.i 0]),.mk4 1 none (.store 1 (.t 9) (.c (.i 0))) none] [0,1,8,9]) (c6_1)))
def c6:AFn:=⟨2,31,[.tmp 4,.tmp 5,.tmp 6],(sQ (rG [mC 0 4 (.nils),mC 1 5 (.i 0),mC 2 6 (.i 0)] [0,1]) (c6_3))⟩
def c7_0:AC :=
 sQ (rG [mV 0 85 13,bC 1 86 .gtr 85 (.i 0)] [0,1,2,9,10,11,86]) (cD 86 (rG [mV 0 87 10,bC 1 88 .add 87 (.i 1),mV 2 10 88] [0,1,2,9,10,11]))
def c7_1:AC :=
 rG [mV 0 64 0,mV 1 65 1,mV 2 66 11,iS 3 67 1 65 66,lD 4 68 67,iS 5 69 7 64 68,lN 6 70 7 69,sT 7 7 12 70] [0,1,2,9,10,11,12]
def c7_2:AC :=
 sQ (rG [mV 0 71 1,mV 1 72 11,iS 2 73 1 71 72,lD 3 74 73,mV 4 75 2,mV 5 76 11,iS 6 77 1 75 76,lD 7 78 77,lN 8 79 7 12,aC 9 80 26 74 78 79,mV 10 13 80] [0,1,2,9,10,11,13]) (sQ (rG [mV 0 81 9,mV 1 82 13,qQ 2 83 (.bslice 1 1 [.i 0] [(0,(.t 82))]),qQ 3 84 (.append 1 8 (.t 81) (.t 83)),mV 4 9 84] [0,1,2,9,10,11,13]) (c7_0))
def c7_3:AC :=
 sQ (sQ (rG [mV 0 50 1,mV 1 51 11,iS 2 52 1 50 51,lD 3 53 52,bC 4 54 .geq 53 (.i 0),mV 5 55 54,gM 6 56 1 55 true,gM 7 57 11 55 true,gG 8 58 (.ixaS 1 (.t 56) (.t 57)) 55 true,gL 9 59 58 55 true,gM 10 60 0 55 true,gG 11 61 (.lenL (.t 60)) 55 true,gG 12 62 (.bin .lss (.t 59) (.t 61)) 55 true,pT 13 63 55 62 (.bool false)] [0,1,2,9,10,11,12,63]) (cD 63 (c7_1))) (c7_2)
def c7_4:AC :=
 sQ (rG [qQ 0 49 (.build [.bool false,.bool false,.bool false,.bool false,.bool false,.int .u64 0,.int .u64 0] []),qQ 1 12 (.alloc 7 [.bool false,.bool false,.bool false,.bool false,.bool false,.int .u64 0,.int .u64 0]),sT 2 7 12 49] [0,1,2,9,10,11,12]) (c7_3)
def c7_5:AC :=
 sQ (sQ (rG [mV 0 23 2,mV 1 24 11,iS 2 25 1 23 24,lD 3 26 25,bC 4 27 .neq 26 (.i 0),mV 5 28 27,gM 6 29 2 28 true,gM 7 30 11 28 true,gG 8 31 (.ixaS 1 (.t 29) (.t 30)) 28 true,gL 9 32 31 28 true,gG 10 33 (.bin .neq (.t 32) (.c (.i 1))) 28 true,pT 11 34 28 33 (.bool false),mV 12 35 34,gM 13 36 2 35 true,gM 14 37 11 35 true,gG 15 38 (.ixaS 1 (.t 36) (.t 37)) 35 true,gL 16 39 38 35 true,gG 17 40 (.bin .neq (.t 39) (.c (.i 4))) 35 true,pT 18 41 35 40 (.bool false),mV 19 42 41,gM 20 43 2 42 true,gM 21 44 11 42 true,gG 22 45 (.ixaS 1 (.t 43) (.t 44)) 42 true,gL 23 46 45 42 true,gG 24 47 (.bin .neq (.t 46) (.c (.i 5))) 42 true,pT 25 48 42 47 (.bool false)] [0,1,2,9,10,11,48]) (cD 48 (rT [mC 0 6 (.nils),mC 1 7 (.i 0),mC 2 8 (.i 2)] [6,7,8]))) (c7_4)
def c7_6:AC :=
 sQ (sQ (rG [mV 0 17 11,mV 1 18 1,lL 2 19 18,bB 3 20 .lss 17 19] [0,1,2,9,10,11,20]) (cX 20 0)) (sQ (.block 1 (c7_5)) (rG [mV 0 21 11,bC 1 22 .add 21 (.i 1),mV 2 11 22] [0,1,2,9,10,11]))
def c7_7:AC :=
 sQ (sQ (rG [mC 0 11 (.i 0)] [0,1,2,9,10,11]) (.block 0 (.loop [0,1,2,9,10,11] (c7_6)))) (rT [mV 0 89 9,mV 1 90 10,mV 2 6 89,mV 3 7 90,mC 4 8 (.i 0)] [6,7,8])
def c7_8:AC :=
 sQ (sQ (rG [mV 0 14 1,lL 1 15 14,bC 2 16 .gtr 15 (.i 96)] [0,1,2,16]) (cD 16 (rT [mC 0 6 (.nils),mC 1 7 (.i 0),mC 2 8 (.i 2)] [6,7,8]))) (sQ (rG [mC 0 9 (.nils)] [0,1,2,9]) (sQ (rG [mC 0 10 (.i 0)] [0,1,2,9,10]) (c7_7)))
def c7:AFn:=⟨3,91,[.tmp 6,.tmp 7,.tmp 8],(sQ (rG [mC 0 6 (.nils),mC 1 7 (.i 0),mC 2 8 (.i 0)] [0,1,2]) (c7_8))⟩
def c8_0:AC :=
 .rangeFunc (.t 13) [14] [5] (rG [mV 0 6 14] [5,6]) (.block 1 (sQ (rG [mV 0 15 6,bC 1 16 .neq 15 (.i 0)] [5,16]) (cD 16 (sQ (rG [.mk4 0 none (.store 1 (.t 5) (.c (.bool true))) none] []) (.exit 0)))))
def c8_1:AC :=
 sQ (.label 0) (sQ (sQ (rG [mV 0 11 0,mV 1 12 1,aB 2 13 25 11 12] [5,13]) (.block 0 (c8_0))) (rT [lD 0 17 5,mV 1 4 17] [4]))
def c8_2:AC :=
 .scope (sQ (sQ (rG [mV 0 7 0,mV 1 8 1,aB 2 9 24 7 8,bC 3 10 .neq 9 (.i 0)] [0,1,10]) (cD 10 (rT [mC 0 4 (.bool true)] [4]))) (sQ (rG [qQ 0 5 (.alloc 1 [.bool false]),.mk4 1 none (.store 1 (.t 5) (.c (.bool false))) none] [0,1,5]) (c8_1)))
def c8:AFn:=⟨2,18,[.tmp 4],(sQ (rG [mC 0 4 (.bool false)] [0,1]) (c8_2))⟩
def c9_0:AC :=
 sQ (rG [mV 0 83 3,mV 1 84 7,iS 2 85 1 83 84,lD 3 86 85,mV 4 87 4,mV 5 88 7,iS 6 89 1 87 88,lD 7 90 89,bB 8 91 .neq 86 90,mV 9 92 91,gM 10 93 0 92 false,gG 11 94 (.nilck (.t 93)) 92 false,gF 12 95 0 94 92 false,gL 13 96 95 92 false,gM 14 97 3 92 false,gM 15 98 7 92 false,gG 16 99 (.ixaS 1 (.t 97) (.t 98)) 92 false,gL 17 100 99 92 false,gM 19 102 0 92 false,gG 20 103 (.nilck (.t 102)) 92 false,gF 21 104 1 103 92 false,gL 22 105 104 92 false,gM 23 106 4 92 false,gM 24 107 7 92 false,gG 25 108 (.ixaS 1 (.t 106) (.t 107)) 92 false,gL 26 109 108 92 false,⟨18,(some 101),.call 33 [(.t 96),(.t 100)],(some (92,false)),none,[(105,.load1 (.t 104),(some (92,false))),(109,.load1 (.t 108),(some (92,false)))]⟩,gG 27 110 (.call 23 [(.t 105),(.t 109)]) 92 false,gG 28 111 (.eq (.agg [.bool,.bool,.bool,.bool,.bool,.int .u64,.int .u64]) true (.t 101) (.t 110)) 92 false,pC 29 112 92 (.bool true) 111] [0,3,4,79,80,112]) (cD 112 (rT [mC 0 2 (.bool false)] [2]))
def c9_1:AC :=
 sQ (cX 81 2) (sQ (.block 3 (sQ (rG [mV 0 82 80,mV 1 7 82] [0,3,4,7,79,80]) (c9_0))) (rG [bC 0 113 .add 80 (.i 1),mV 1 80 113] [0,3,4,79,80]))
def c9_2:AC :=
 rT [mV 0 114 0,nC 1 115 114,fA 2 116 0 115,lD 3 117 116,mV 5 119 0,nC 6 120 119,fA 7 121 1 120,lD 8 122 121,⟨4,(some 118),.call 35 [(.t 117)],none,none,[(122,.load1 (.t 121),none)]⟩,aA 9 123 36 122,aB 10 124 34 118 123,mV 11 2 124] [2]
def c9_3:AC :=
 rG [mV 0 61 0,nC 1 62 61,fA 2 63 1 62,lD 3 64 63,mV 4 65 5,nC 5 66 64,fA 6 67 34 66,iA 7 68 32 1 67 65,lD 8 69 68,mV 9 6 69] [0,3,4,5,6]
def c9_4:AC :=
 sQ (rG [mV 0 70 0,nC 1 71 70,fA 2 72 0 71,lD 3 73 72,mV 4 74 5,aB 5 75 32 73 74,mV 6 76 6,bB 7 77 .neq 75 76] [0,3,4,5,77]) (cD 77 (rT [mC 0 2 (.bool false)] [2]))
def c9_5:AC :=
 sQ (sQ (rG [mV 0 55 5,bC 1 56 .gtr 55 (.i 0),mV 2 57 56,gM 3 58 5 57 true,gG 4 59 (.bin .leq (.t 58) (.c (.i 31))) 57 true,pT 5 60 57 59 (.bool false)] [0,3,4,5,6,60]) (cD 60 (c9_3))) (c9_4)
def c9_6:AC :=
 sQ (sQ (rG [mV 0 51 5,bC 1 52 .leq 51 (.i 32)] [0,3,4,5,52]) (cX 52 0)) (sQ (.block 1 (sQ (rG [mC 0 6 (.i 0)] [0,3,4,5,6]) (c9_5))) (rG [mV 0 53 5,bC 1 54 .add 53 (.i 1),mV 2 5 54] [0,3,4,5]))
def c9_7:AC :=
 sQ (sQ (rG [mV 0 78 3,lL 1 79 78,mC 2 80 (.i 0)] [0,3,4,79,80]) (.block 2 (.loop [0,3,4,79,80] (sQ (rG [bB 0 81 .lss 80 79] [0,3,4,79,80,81]) (c9_1))))) (c9_2)
def c9_8:AC :=
 sQ (sQ (rG [mV 0 18 3,lL 1 19 18,mV 2 20 4,lL 3 21 20,bB 4 22 .neq 19 21,mV 5 23 22,gM 6 24 0 23 false,gG 7 25 (.nilck (.t 24)) 23 false,gF 8 26 0 25 23 false,gL 9 27 26 23 false,gM 11 29 0 23 false,gG 12 30 (.nilck (.t 29)) 23 false,gF 13 31 1 30 23 false,gL 14 32 31 23 false,gG 15 33 (.nilck (.t 32)) 23 false,gF 16 34 1 33 23 false,gL 17 35 34 23 false,⟨10,(some 28),.call 29 [(.t 27)],(some (23,false)),none,[(32,.load1 (.t 31),(some (23,false))),(35,.load1 (.t 34),(some (23,false)))]⟩,gG 18 36 (.bin .neq (.t 28) (.t 35)) 23 false,pC 19 37 23 (.bool true) 36,mV 20 38 37,gM 21 39 0 38 false,gG 22 40 (.nilck (.t 39)) 38 false,gF 23 41 0 40 38 false,gL 24 42 41 38 false,gM 26 44 0 38 false,gG 27 45 (.nilck (.t 44)) 38 false,gF 28 46 1 45 38 false,gL 29 47 46 38 false,⟨25,(some 43),.call 30 [(.t 42)],(some (38,false)),none,[(47,.load1 (.t 46),(some (38,false)))]⟩,gG 30 48 (.call 31 [(.t 47)]) 38 false,gG 31 49 (.bin .neq (.t 43) (.t 48)) 38 false,pC 32 50 38 (.bool true) 49] [0,3,4,50]) (cD 50 (rT [mC 0 2 (.bool false)] [2]))) (sQ (sQ (rG [mC 0 5 (.i (-1))] [0,3,4,5]) (.block 0 (.loop [0,3,4,5] (c9_6)))) (c9_7))
def c9_9:AC :=
 sQ (rG [mV 0 8 0,nC 1 9 8,fA 2 10 0 9,lD 3 11 10,aA 4 12 27 11,mV 5 3 12] [0,3]) (sQ (rG [mV 0 13 0,nC 1 14 13,fA 2 15 1 14,lD 3 16 15,aA 4 17 28 16,mV 5 4 17] [0,3,4]) (c9_8))
def c9:AFn:=⟨1,125,[.tmp 2],(sQ (rG [mC 0 2 (.bool false)] [0]) (c9_9))⟩
def c20_0:AC :=
 sQ (rG [mV 0 12 0,mV 1 13 3,iS 2 14 5 12 13,fA 3 15 4 14,lD 4 16 15,lL 5 17 16,bC 6 18 .gtr 17 (.i 300)] [0,8,9,18]) (cD 18 (rT [mC 0 2 (.i 1)] [2]))
def c20_1:AC :=
 sQ (rG [bB 0 10 .lss 9 8] [0,8,9,10]) (sQ (cX 10 0) (sQ (.block 1 (sQ (rG [mV 0 11 9,mV 1 3 11] [0,3,8,9]) (c20_0))) (rG [bC 0 19 .add 9 (.i 1),mV 1 9 19] [0,8,9])))
def c20_2:AC :=
 sQ (sQ (rG [mV 0 4 0,lL 1 5 4,bC 2 6 .gtr 5 (.i 200)] [0,6]) (cD 6 (rT [mC 0 2 (.i 1)] [2]))) (sQ (sQ (rG [mV 0 7 0,lL 1 8 7,mC 2 9 (.i 0)] [0,8,9]) (.block 0 (.loop [0,8,9] (c20_1)))) (rT [mC 0 2 (.i 0)] [2]))
def c20:AFn:=⟨1,20,[.tmp 2],(sQ (rG [mC 0 2 (.i 0)] [0]) (c20_2))⟩
def c21_0:AC :=
 sQ (rG [mC 0 0 (.ptr none)] []) (rT [qQ 0 1 (.call 47 []),qQ 1 2 (.call 48 []),qQ 2 3 (.build [.ptr none,.ptr none] [(0,1,(.t 1)),(1,1,(.t 2))]),qQ 3 4 (.box 2 (.t 3)),mV 4 0 4] [0])
def c21:AFn:=⟨0,5,[.tmp 0],(c21_0)⟩
def c22_0:AC :=
 rG [mV 0 279 5,mV 1 280 30,mV 2 281 5,mV 3 282 30,iS 4 283 1 281 282,lD 5 284 283,bC 6 285 .add 284 (.int .u8 1),iS 7 286 1 279 280,sT 8 1 286 285] [5,6,275,276]
def c22_1:AC :=
 sQ (cX 277 2) (sQ (.block 3 (sQ (rG [mV 0 278 276,mV 1 30 278] [5,6,30,275,276]) (c22_0))) (rG [bC 0 287 .add 276 (.i 1),mV 1 276 287] [5,6,275,276]))
def c22_2:AC :=
 rG [mV 0 110 7,mV 1 111 8,mV 2 112 9,mV 3 113 10,mV 4 114 0,nC 5 115 114,fA 6 116 1 115,lD 7 117 116,nC 8 118 117,fA 9 119 0 118,lD 10 120 119,lL 11 121 120,bC 12 122 .sub 121 (.i 1),mV 13 123 11,qQ 14 124 (.call 54 [(.t 110),(.t 111),(.t 112),(.t 113),(.t 122),(.t 123)]),mV 15 6 124] [5,6]
def c22_3:AC :=
 rG [mV 0 88 0,nC 1 89 88,fA 2 90 0 89,lD 3 91 90,fA 4 92 2 3,lD 5 93 92,aB 6 94 51 91 93,mV 7 87 94,eX 8 95 87 0,eX 9 96 87 1,eX 10 97 87 2,mV 11 7 95,mV 12 8 96,mV 13 9 97] [0,3,5,7,8,9]
def c22_4:AC :=
 rG [mV 0 49 0,nC 1 50 49,fA 2 51 0 50,lD 3 52 51,fA 4 53 2 3,lD 5 54 53,aB 6 55 52 52 54,mV 7 48 55,eX 8 56 48 0,eX 9 57 48 1,eX 10 58 48 2,mV 11 7 56,mV 12 8 57,mV 13 9 58] [0,3,5,7,8,9]
def c22_5:AC :=
 rG [mV 0 75 0,nC 1 76 75,fA 2 77 0 76,lD 3 78 77,fA 4 79 2 3,lD 5 80 79,aB 6 81 50 78 80,mV 7 74 81,eX 8 82 74 0,eX 9 83 74 1,eX 10 84 74 2,mV 11 7 82,mV 12 8 83,mV 13 9 84] [0,3,5,7,8,9]
def c22_6:AC :=
 rG [mV 0 62 0,nC 1 63 62,fA 2 64 0 63,lD 3 65 64,fA 4 66 2 3,lD 5 67 66,aB 6 68 49 65 67,mV 7 61 68,eX 8 69 61 0,eX 9 70 61 1,eX 10 71 61 2,mV 11 7 69,mV 12 8 70,mV 13 9 71] [0,3,5,7,8,9]
def c22_7:AC :=
 sQ (rG [bC 0 73 .eql 47 (.i 1),mV 1 72 73] [0,3,5,47,72]) (.cond (.t 72) (c22_5) (sQ (rG [bC 0 86 .eql 47 (.i 2),mV 1 85 86] [0,3,5,85]) (.cond (.t 85) (c22_3) (c22_4))))
def c22_8:AC :=
 sQ (rG [mV 0 99 0,nC 1 100 99,fA 2 101 1 100,lD 3 102 101,fA 4 103 0 3,lD 5 104 103,fA 6 105 2 3,lD 7 106 105,aC 8 107 53 102 104 106,mV 9 98 107,eX 10 108 98 0,eX 11 109 98 1,mV 12 10 108,mV 13 11 109] [0,5,7,8,9,10,11]) (c22_2)
def c22_9:AC :=
 sQ (sQ (rG [fA 0 46 0 3,lD 1 47 46] [0,3,5,47]) (.block 1 (sQ (rG [bC 0 60 .eql 47 (.i 0),mV 1 59 60] [0,3,5,47,59]) (.cond (.t 59) (c22_6) (c22_7))))) (c22_8)
def c22_10:AC :=
 rG [mV 0 149 12,mV 1 150 15,bB 2 151 .eql 149 150,mV 3 152 151,gM 4 153 13 152 true,gM 5 154 16 152 true,gG 6 155 (.bin .eql (.t 153) (.t 154)) 152 true,pT 7 156 152 155 (.bool false),mV 8 157 156,gM 9 158 14 157 true,gM 10 159 17 157 true,gG 11 160 (.bin .eql (.t 158) (.t 159)) 157 true,pT 12 161 157 160 (.bool false),mV 13 6 161] [5,6]
def c22_11:AC :=
 sQ (rG [mV 0 139 0,nC 1 140 139,fA 2 141 1 140,lD 3 142 141,fA 4 143 1 3,lD 5 144 143,aB 6 145 56 142 144,mV 7 138 145,eX 8 146 138 0,eX 9 147 138 1,eX 10 148 138 2,mV 11 15 146,mV 12 16 147,mV 13 17 148] [5,12,13,14,15,16,17]) (c22_10)
def c22_12:AC :=
 rG [mV 0 190 18,qQ 1 191 (.ofBytes (.t 190)),mV 2 192 21,qQ 3 193 (.ofBytes (.t 192)),bB 4 194 .eql 191 193,mV 5 195 194,gM 6 196 19 195 true,gM 7 197 22 195 true,gG 8 198 (.eq .bool false (.t 196) (.t 197)) 195 true,pT 9 199 195 198 (.bool false),mV 10 200 199,gM 11 201 20 200 true,gM 12 202 23 200 true,gG 13 203 (.bin .eql (.t 201) (.t 202)) 200 true,pT 14 204 200 203 (.bool false),mV 15 6 204] [5,6]
def c22_13:AC :=
 sQ (rG [mV 0 178 0,nC 1 179 178,fA 2 180 1 179,lD 3 181 180,fA 4 182 1 3,lD 5 183 182,fA 6 184 2 3,lD 7 185 184,aC 8 186 58 181 183 185,mV 9 177 186,eX 10 187 177 0,eX 11 188 177 1,eX 12 189 177 2,mV 13 21 187,mV 14 22 188,mV 15 23 189] [5,18,19,20,21,22,23]) (c22_12)
def c22_14:AC :=
 rG [mV 0 230 24,mV 1 231 26,bB 2 232 .eql 230 231,mV 3 233 232,gM 4 234 25 233 true,gM 5 235 27 233 true,gG 6 236 (.bin .eql (.t 234) (.t 235)) 233 true,pT 7 237 233 236 (.bool false),mV 8 6 237] [5,6]
def c22_15:AC :=
 sQ (rG [mV 0 219 0,nC 1 220 219,fA 2 221 1 220,lD 3 222 221,fA 4 223 1 3,lD 5 224 223,fA 6 225 4 3,lD 7 226 225,aC 8 227 60 222 224 226,mV 9 218 227,eX 10 228 218 0,eX 11 229 218 1,mV 12 26 228,mV 13 27 229] [5,24,25,26,27]) (c22_14)
def c22_16:AC :=
 rG [mV 0 247 28,mV 1 248 0,nC 2 249 248,fA 3 250 1 249,lD 4 251 250,fA 5 252 1 3,lD 6 253 252,aB 7 254 62 251 253,bB 8 255 .eql 247 254,mV 9 6 255] [5,6]
def c22_17:AC :=
 rG [mV 0 265 29,mV 1 266 0,nC 2 267 266,fA 3 268 1 267,lD 4 269 268,fA 5 270 1 3,lD 6 271 270,aB 7 272 64 269 271,bB 8 273 .eql 265 272,mV 9 6 273] [5,6]
def c22_18:AC :=
 sQ (rG [mV 0 258 0,nC 1 259 258,fA 2 260 0 259,lD 3 261 260,fA 4 262 1 3,lD 5 263 262,aB 6 264 63 261 263,mV 7 29 264] [0,3,5,29]) (c22_17)
def c22_19:AC :=
 sQ (rG [mV 0 240 0,nC 1 241 240,fA 2 242 0 241,lD 3 243 242,fA 4 244 1 3,lD 5 245 244,aB 6 246 61 243 245,mV 7 28 246] [0,3,5,28]) (c22_16)
def c22_20:AC :=
 sQ (rG [bC 0 257 .eql 36 (.i 8),mV 1 256 257] [0,3,5,256]) (.cond (.t 256) (c22_18) (rG [mV 0 37 0,lN 1 38 5 3,mV 2 39 5,aC 3 40 65 37 38 39,mV 4 6 40] [5,6]))
def c22_21:AC :=
 sQ (rG [mV 0 208 0,nC 1 209 208,fA 2 210 0 209,lD 3 211 210,fA 4 212 1 3,lD 5 213 212,mV 6 214 5,aC 7 215 59 211 213 214,mV 8 207 215,eX 9 216 207 0,eX 10 217 207 1,mV 11 24 216,mV 12 25 217] [0,3,5,24,25]) (c22_15)
def c22_22:AC :=
 sQ (rG [mV 0 165 0,nC 1 166 165,fA 2 167 0 166,lD 3 168 167,fA 4 169 1 3,lD 5 170 169,fA 6 171 2 3,lD 7 172 171,aC 8 173 57 168 170 172,mV 9 164 173,eX 10 174 164 0,eX 11 175 164 1,eX 12 176 164 2,mV 13 18 174,mV 14 19 175,mV 15 20 176] [0,3,5,18,19,20]) (c22_13)
def c22_23:AC :=
 sQ (rG [bC 0 206 .eql 36 (.i 6),mV 1 205 206] [0,3,5,36,205]) (.cond (.t 205) (c22_21) (sQ (rG [bC 0 239 .eql 36 (.i 7),mV 1 238 239] [0,3,5,36,238]) (.cond (.t 238) (c22_19) (c22_20))))
def c22_24:AC :=
 sQ (rG [mV 0 128 0,nC 1 129 128,fA 2 130 0 129,lD 3 131 130,fA 4 132 1 3,lD 5 133 132,aB 6 134 55 131 133,mV 7 127 134,eX 8 135 127 0,eX 9 136 127 1,eX 10 137 127 2,mV 11 12 135,mV 12 13 136,mV 13 14 137] [0,3,5,12,13,14]) (c22_11)
def c22_25:AC :=
 sQ (rG [bC 0 126 .eql 36 (.i 4),mV 1 125 126] [0,3,5,36,125]) (.cond (.t 125) (c22_24) (sQ (rG [bC 0 163 .eql 36 (.i 5),mV 1 162 163] [0,3,5,36,162]) (.cond (.t 162) (c22_22) (c22_23))))
def c22_26:AC :=
 .cond (.t 41) (.skip) (sQ (rG [bC 0 44 .eql 36 (.i 2),mV 1 41 44] [0,3,5,36,41]) (.cond (.t 41) (.skip) (rG [bC 0 45 .eql 36 (.i 3),mV 1 41 45] [0,3,5,36,41])))
def c22_27:AC :=
 sQ (sQ (rG [bC 0 42 .eql 36 (.i 0),mV 1 41 42] [0,3,5,36,41]) (.cond (.t 41) (.skip) (sQ (rG [bC 0 43 .eql 36 (.i 1),mV 1 41 43] [0,3,5,36,41]) (c22_26)))) (.cond (.t 41) (sQ (rG [mC 0 7 (.i 0),mC 1 8 (.i 0)] [0,3,5]) (sQ (rG [mC 0 9 (.i 0)] [0,3,5]) (c22_9))) (c22_25))
def c22_28:AC :=
 sQ (sQ (rG [mV 0 274 5,lL 1 275 274,mC 2 276 (.i 0)] [5,6,275,276]) (.block 2 (.loop [5,6,275,276] (sQ (rG [bB 0 277 .lss 276 275] [5,6,275,276,277]) (c22_1))))) (rT [mV 0 288 6,mV 1 4 288] [4])
def c22_29:AC :=
 sQ (rG [qQ 0 31 (.bslice 1 0 [] []),fA 1 32 4 3,lD 2 33 32,qQ 3 34 (.append 1 1 (.t 31) (.t 33)),mV 4 5 34] [0,3,5]) (sQ (rG [mC 0 6 (.bool true)] [0,3,5]) (sQ (sQ (rG [fA 0 35 0 3,lD 1 36 35] [0,3,5,36]) (.block 0 (c22_27))) (c22_28)))
def c22:AFn:=⟨2,289,[.tmp 4],(sQ (rG [qQ 0 3 (.box 5 (.t 1)),mC 1 4 (.bool false)] [0,3]) (c22_29))⟩
def c23_0:AC :=
 sQ (rG [mV 0 88 6,fA 1 89 0 7,iA 2 90 2 8 89 88,fA 3 91 3 90,lD 4 92 91,mV 5 93 92,gM 6 94 6 93 true,gF 7 95 0 7 93 true,gG 8 96 (.ixaA 2 8 (.t 95) (.t 94)) 93 true,gF 9 97 5 96 93 true,gL 10 98 97 93 true,gG 11 99 (.un .not (.t 98)) 93 true,pT 12 100 93 99 (.bool false),mV 13 101 100,gM 14 102 6 101 true,gG 15 103 (.bin .sub (.c (.i 1)) (.t 102)) 101 true,gF 16 104 0 7 101 true,gG 17 105 (.ixaA 2 8 (.t 104) (.t 103)) 101 true,gF 18 106 4 105 101 true,gL 19 107 106 101 true,gG 20 108 (.lenL (.t 107)) 101 true,gF 21 109 16 7 101 true,gL 22 110 109 101 true,gG 23 111 (.bin .lss (.t 108) (.t 110)) 101 true,gM 24 112 111 101 true,gM 25 113 9 112 false,gG 26 114 (.pick (.t 112) (.c (.bool true)) (.t 113)) 101 true,gM 27 115 114 101 true,gF 28 116 17 7 115 false,gL 29 117 116 115 false,gG 30 118 (.pick (.t 115) (.c (.bool true)) (.t 117)) 101 true,pT 31 119 101 118 (.bool false),fA 32 120 2 8,sT 33 1 120 119] [4,8]) (rT [lN 0 121 7 8,sT 1 7 4 121] [4])
def c23_1:AC :=
 sQ (rG [mV 0 58 6,fA 1 59 0 7,iA 2 60 2 8 59 58,fA 3 61 2 60,lD 4 62 61,mV 5 63 62,gM 6 64 6 63 true,gF 7 65 0 7 63 true,gG 8 66 (.ixaA 2 8 (.t 65) (.t 64)) 63 true,gF 9 67 4 66 63 true,gL 10 68 67 63 true,gG 11 69 (.lenL (.t 68)) 63 true,gG 12 70 (.bin .gtr (.t 69) (.c (.i 0))) 63 true,gM 13 71 70 63 true,gM 14 72 9 71 false,gG 15 73 (.pick (.t 71) (.c (.bool true)) (.t 72)) 63 true,gM 16 74 73 63 true,gM 17 75 6 74 false,gG 18 76 (.bin .sub (.c (.i 1)) (.t 75)) 74 false,gF 19 77 0 7 74 false,gG 20 78 (.ixaA 2 8 (.t 77) (.t 76)) 74 false,gF 21 79 5 78 74 false,gL 22 80 79 74 false,gG 23 81 (.pick (.t 74) (.c (.bool true)) (.t 80)) 63 true,gM 24 82 81 63 true,gF 25 83 17 7 82 false,gL 26 84 83 82 false,gG 27 85 (.pick (.t 82) (.c (.bool true)) (.t 84)) 63 true,pT 28 86 63 85 (.bool false),fA 29 87 1 8,sT 30 1 87 86] [4,6,7,8,9]) (c23_0)
def c23_2:AC :=
 sQ (rG [mV 0 53 9,fA 1 54 3 8,sT 2 1 54 53] [4,6,7,8,9]) (sQ (rG [fA 0 55 17 7,lD 1 56 55,fA 2 57 4 8,sT 3 1 57 56] [4,6,7,8,9]) (c23_1))
def c23_3:AC :=
 sQ (rG [fA 0 40 19 7,lD 1 41 40,lL 2 42 41,bC 3 43 .gtr 42 (.i 0),fA 4 44 1 8,sT 5 1 44 43] [4,8]) (rT [lN 0 45 7 8,sT 1 7 4 45] [4])
def c23_4:AC :=
 sQ (rG [mV 0 46 6,qQ 1 47 (.bin .sub (.c (.i 1)) (.t 46)),fA 2 48 0 7,iA 3 49 2 8 48 47,fA 4 50 0 49,lD 5 51 50,bC 6 52 .eql 51 (.i 3),mV 7 9 52] [4,6,7,8,9]) (c23_2)
def c23_5:AC :=
 sQ (.region 1 [mV 0 26 6,fA 1 27 0 7,iA 2 28 2 8 27 26,fA 3 29 6 28,lD 4 30 29,mV 5 31 6,fA 6 32 0 7,iA 7 33 2 8 32 31,fA 8 34 7 33,lD 9 35 34,qQ 10 36 (.build [.bool false,.bool false,.bool false,.bool false,.bool false,.int .u64 0,.int .u64 0] [(0,1,(.c (.bool true))),(5,1,(.t 30)),(6,1,(.t 35))]),⟨11,(some 8),.alloc 7 [.bool false,.bool false,.bool false,.bool false,.bool false,.int .u64 0,.int .u64 0],none,some 0,[]⟩,sT 12 7 8 36] [4,6,7,8]) (sQ (sQ (rG [fA 0 37 18 7,lD 1 38 37,bC 2 39 .gtr 38 (.i 0)] [4,6,7,8,39]) (cD 39 (c23_3))) (c23_4))
def c23_6:AC :=
 sQ (rG [mV 0 19 0,nC 1 20 19,fA 2 21 0 20,lD 3 22 21,mV 4 23 5,iS 5 24 20 22 23,lN 6 25 20 24,qQ 7 7 (.alloc 20 [.i 0,.i 0,.bool false,.bool false,.nils,.bool false,.int .u64 0,.int .u64 0,.i 0,.i 0,.bool false,.bool false,.nils,.bool false,.int .u64 0,.int .u64 0,.i 0,.bool false,.i 0,.nils]),sT 8 20 7 25] [4,6,7]) (c23_5)
def c23_7:AC :=
 sQ (sQ (rG [mV 0 16 5,bC 1 17 .lss 16 (.i 0)] [0,4,5,6,17]) (cD 17 (rT [qQ 0 18 (.build [.bool false,.bool false,.bool false,.bool false,.bool false,.int .u64 0,.int .u64 0] []),sT 1 7 4 18] [4]))) (c23_6)
def c23_8:AC :=
 sQ (rG [mV 0 11 0,mV 1 12 1,aB 2 13 66 11 12,mV 3 10 13,eX 4 14 10 0,eX 5 15 10 1,mV 6 5 14,mV 7 6 15] [0,4,5,6]) (c23_7)
def c23:AFn:=⟨2,122,[.cellN 4 7],(sQ (rG [qQ 0 4 (.alloc 7 [.bool false,.bool false,.bool false,.bool false,.bool false,.int .u64 0,.int .u64 0])] [0,1,4]) (c23_8))⟩
def c24_0:AC :=
 sQ (rG [fA 0 18 1 6,lD 1 19 18,bC 2 20 .andNot 19 (.i 5),bC 3 21 .neq 20 (.i 0)] [12,13,14,21]) (cD 21 (rT [mC 0 4 (.i 2)] [4]))
def c24_1:AC :=
 sQ (.block 1 (sQ (rG [iS 0 16 2 12 14,lN 1 17 2 16,qQ 2 6 (.alloc 2 [.i 0,.i 0]),sT 3 2 6 17] [6,12,13,14]) (c24_0))) (rG [bC 0 22 .add 14 (.i 1),mV 1 14 22] [12,13,14])
def c24_2:AC :=
 sQ (sQ (rG [mV 0 12 1,lL 1 13 12,mC 2 14 (.i 0)] [12,13,14]) (.block 0 (.loop [12,13,14] (sQ (rG [bB 0 15 .lss 14 13] [12,13,14,15]) (sQ (cX 15 0) (c24_1)))))) (rT [mC 0 4 (.i 0)] [4])
def c24_3:AC :=
 sQ (sQ (rG [mV 0 7 0,qQ 1 8 (.eq .ptr false (.t 7) (.c (.ptr none)))] [1,8]) (cD 8 (rT [mC 0 4 (.i 1)] [4]))) (sQ (sQ (rG [mV 0 9 1,lL 1 10 9,bC 2 11 .gtr 10 (.i 96)] [1,11]) (cD 11 (rT [mC 0 4 (.i 2)] [4]))) (c24_2))
def c24:AFn:=⟨2,23,[.tmp 4],(sQ (rG [mC 0 4 (.i 0)] [0,1]) (c24_3))⟩
def c25:AFn:=⟨2,6,[.tmp 4],(sQ (rG [qQ 0 2 (.box 1 (.t 0)),qQ 1 3 (.box 1 (.t 1)),mC 2 4 (.nilfn)] [2,3]) (rT [qQ 0 5 (.mkClo 67 [(.t 3),(.t 2)]),mV 1 4 5] [4]))⟩
def c26_0:AC :=
 sQ (sQ (rG [fA 0 37 3 5,lD 1 38 37] [7,38]) (cD 38 (rG [mV 0 39 7,bC 1 40 .add 39 (.i 16),mV 2 7 40] [7]))) (rT [mV 0 41 7,mV 1 6 41] [6])
def c26_1:AC :=
 sQ (sQ (rG [fA 0 33 4 5,lD 1 34 33] [5,7,34]) (cD 34 (rG [mV 0 35 7,bC 1 36 .add 35 (.i 8),mV 2 7 36] [5,7]))) (c26_0)
def c26_2:AC :=
 sQ (sQ (rG [fA 0 25 2 5,lD 1 26 25,mV 2 27 26,gM 3 28 1 27 true,gG 4 29 (.bin .geq (.t 28) (.c (.i 4))) 27 true,pT 5 30 27 29 (.bool false)] [5,7,30]) (cD 30 (rG [mV 0 31 7,bC 1 32 .add 31 (.i 4),mV 2 7 32] [5,7]))) (c26_1)
def c26_3:AC :=
 sQ (sQ (rG [fA 0 13 1 5,lD 1 14 13,mV 2 15 14,gM 3 16 1 15 true,gG 4 17 (.bin .eql (.t 16) (.c (.i 1))) 15 true,gM 5 18 17 15 true,gM 6 19 1 18 false,gG 7 20 (.bin .eql (.t 19) (.c (.i 5))) 18 false,gG 8 21 (.pick (.t 18) (.c (.bool true)) (.t 20)) 15 true,pT 9 22 15 21 (.bool false)] [1,5,7,22]) (cD 22 (rG [mV 0 23 7,bC 1 24 .add 23 (.i 1),mV 2 7 24] [1,5,7]))) (c26_2)
def c26_4:AC :=
 sQ (sQ (rG [fA 0 10 0 5,lD 1 11 10,qQ 2 12 (.un .not (.t 11))] [1,5,12]) (cD 12 (rT [mC 0 6 (.i 32)] [6]))) (sQ (rG [mC 0 7 (.i 0)] [1,5,7]) (c26_3))
def c26_5:AC :=
 sQ (rG [qQ 0 5 (.box 7 (.t 2)),mC 1 6 (.i 0)] [0,1,5]) (sQ (sQ (rG [mV 0 8 0,bC 1 9 .lss 8 (.i 0)] [1,5,9]) (cD 9 (rT [mC 0 6 (.i 0)] [6]))) (c26_4))
def c26:AFn:=⟨3,42,[.tmp 6],(c26_5)⟩
def c27_0:AC :=
 sQ (rG [fA 0 17 0 5,lD 1 18 17] [3,4,12,13,18]) (cD 18 (rG [mV 0 19 3,mV 1 20 4,qQ 2 21 (.bslice 1 1 [.i 0] [(0,(.t 20))]),qQ 3 22 (.append 1 8 (.t 19) (.t 21)),mV 4 3 22] [3,12,13]))
def c27_1:AC :=
 sQ (.block 1 (sQ (rG [mV 0 15 13,qQ 1 16 (.ixA 96 3 (some 3) (.t 12) (.t 13)),qQ 2 5 (.alloc 3 [.bool false,.i 0,.i 0]),mV 3 4 15,sT 4 3 5 16] [3,4,5,12,13]) (c27_0))) (rG [bC 0 23 .add 13 (.i 1),mV 1 13 23] [3,12,13])
def c27_2:AC :=
 sQ (rG [mV 0 9 0,nC 1 10 9,fA 2 11 0 10,lN 3 12 288 11,mC 4 13 (.i 0)] [3,12,13]) (.block 0 (.loop [3,12,13] (sQ (rG [bC 0 14 .lss 13 (.i 96)] [3,12,13,14]) (sQ (cX 14 0) (c27_1)))))
def c27_3:AC :=
 sQ (rG [mC 0 3 (.nils)] [0,3]) (sQ (sQ (rG [mV 0 6 0,aA 1 7 69 6,qQ 2 8 (.un .not (.t 7))] [0,3,8]) (cD 8 (c27_2))) (rT [mV 0 24 3,mV 1 2 24] [2]))
def c27:AFn:=⟨1,25,[.tmp 2],(sQ (rG [mC 0 2 (.nils)] [0]) (c27_3))⟩
def c28_0:AC :=
 sQ (rG [mV 0 17 5,bC 1 18 .geq 17 (.i 0)] [0,3,4,18]) (cD 18 (rG [mV 0 19 3,mV 1 20 4,qQ 2 21 (.bslice 1 1 [.i 0] [(0,(.t 20))]),qQ 3 22 (.append 1 8 (.t 19) (.t 21)),mV 4 3 22] [0,3,4]))
def c28_1:AC :=
 sQ (rG [mV 0 12 0,mV 1 13 4,aB 2 14 66 12 13,mV 3 11 14,eX 4 15 11 0,eX 5 16 11 1,mV 6 5 15,mV 7 6 16] [0,3,4,5]) (c28_0)
def c28_2:AC :=
 sQ (sQ (rG [mV 0 7 4,bC 1 8 .leq 7 (.i 95)] [0,3,4,8]) (cX 8 0)) (sQ (.block 1 (c28_1)) (rG [mV 0 9 4,bC 1 10 .add 9 (.i 1),mV 2 4 10] [0,3,4]))
def c28_3:AC :=
 sQ (rG [mC 0 2 (.nils)] [0]) (sQ (rG [mC 0 3 (.nils)] [0,3]) (sQ (sQ (rG [mC 0 4 (.i 0)] [0,3,4]) (.block 0 (.loop [0,3,4] (c28_2)))) (rT [mV 0 23 3,mV 1 2 23] [2])))
def c28:AFn:=⟨1,24,[.tmp 2],(c28_3)⟩
def c29_0:AC :=
 sQ (sQ (rG [mV 0 3 0,aA 1 4 69 3] [0,4]) (cD 4 (rT [mC 0 2 (.int .u64 0)] [2]))) (rT [mV 0 5 0,nC 1 6 5,fA 2 7 290 6,lD 3 8 7,mV 4 2 8] [2])
def c29:AFn:=⟨1,9,[.tmp 2],(sQ (rG [mC 0 2 (.int .u64 0)] [0]) (c29_0))⟩
def c30_0:AC :=
 sQ (sQ (rG [mV 0 3 0,aA 1 4 69 3] [0,4]) (cD 4 (rT [mC 0 2 (.i 0)] [2]))) (rT [mV 0 5 0,nC 1 6 5,fA 2 7 289 6,lD 3 8 7,aA 4 9 70 8,mV 5 2 9] [2])
def c30:AFn:=⟨1,10,[.tmp 2],(sQ (rG [mC 0 2 (.i 0)] [0]) (c30_0))⟩
def c31_0:AC :=
 rG [mV 0 9 3,mV 1 10 0,mV 2 11 4,nC 3 12 10,fA 4 13 34 12,iA 5 14 32 1 13 11,lD 6 15 14,bB 7 16 .add 9 15,mV 8 3 16] [0,3,4]
def c31_1:AC :=
 sQ (sQ (rG [mV 0 5 4,bC 1 6 .leq 5 (.i 31)] [0,3,4,6]) (cX 6 0)) (sQ (.block 1 (c31_0)) (rG [mV 0 7 4,bC 1 8 .add 7 (.i 1),mV 2 4 8] [0,3,4]))
def c31_2:AC :=
 sQ (rG [mC 0 2 (.i 0)] [0]) (sQ (rG [mC 0 3 (.i 0)] [0,3]) (sQ (sQ (rG [mC 0 4 (.i 1)] [0,3,4]) (.block 0 (.loop [0,3,4] (c31_1)))) (rT [mV 0 17 3,mV 1 2 17] [2])))
def c31:AFn:=⟨1,18,[.tmp 2],(c31_2)⟩
def c32_0:AC :=
 rT [mV 0 7 0,nC 1 8 7,fA 2 9 289 8,lD 3 10 9,mV 4 11 1,aB 5 12 71 10 11,mV 6 4 12] [4]
def c32:AFn:=⟨2,13,[.tmp 4],(sQ (rG [mC 0 4 (.i 0)] [0,1]) (sQ (sQ (rG [mV 0 5 0,aA 1 6 69 5] [0,1,6]) (cD 6 (rT [mC 0 4 (.i 0)] [4]))) (c32_0)))⟩
def c33_0:AC :=
 sQ (rG [fA 0 85 3 8,lD 1 86 85,mV 2 87 86,gF 3 88 4 8 87 true,gL 4 89 88 87 true,gG 5 90 (.un .not (.t 89)) 87 true,pT 6 91 87 90 (.bool false),mV 7 92 91,gF 8 93 3 10 92 true,gL 9 94 93 92 true,gM 10 95 94 92 true,gM 11 96 6 95 false,gG 12 97 (.nilck (.t 96)) 95 false,gF 13 98 14 97 95 false,gL 14 99 98 95 false,gG 15 100 (.pick (.t 95) (.c (.bool true)) (.t 99)) 92 true,gM 16 101 100 92 true,gF 17 102 2 9 101 false,gL 18 103 102 101 false,gG 19 104 (.call 75 [(.t 103)]) 101 false,gG 20 105 (.bin .gtr (.t 104) (.c (.i 0))) 101 false,gG 21 106 (.pick (.t 101) (.c (.bool true)) (.t 105)) 92 true,pT 22 107 92 106 (.bool false),fA 23 108 2 10,sT 24 1 108 107] [4,10]) (rT [lN 0 109 7 10,sT 1 7 4 109] [4])
def c33_1:AC :=
 sQ (rG [fA 0 63 2 8,lD 1 64 63,qQ 2 65 (.eq .ptr true (.t 64) (.c (.ptr none))),mV 3 66 65,gF 4 67 2 8 66 true,gL 5 68 67 66 true,gG 6 69 (.call 73 [(.t 68)]) 66 true,gG 7 70 (.bin .gtr (.t 69) (.c (.i 0))) 66 true,gM 8 71 70 66 true,gM 9 72 6 71 false,gF 10 73 2 5 71 false,gL 11 74 73 71 false,gG 12 75 (.call 74 [(.t 72),(.t 74)]) 71 false,gG 13 76 (.pick (.t 71) (.c (.bool true)) (.t 75)) 66 true,gM 14 77 76 66 true,gM 15 78 6 77 false,gG 16 79 (.nilck (.t 78)) 77 false,gF 17 80 14 79 77 false,gL 18 81 80 77 false,gG 19 82 (.pick (.t 77) (.c (.bool true)) (.t 81)) 66 true,pT 20 83 66 82 (.bool false),fA 21 84 1 10,sT 22 1 84 83] [4,6,8,9,10]) (c33_0)
def c33_2:AC :=
 sQ (rG [mV 0 46 6,nC 1 47 46,fA 2 48 16 47,lD 3 49 48,lL 4 50 49,bC 5 51 .gtr 50 (.i 0),fA 6 52 1 10,sT 7 1 52 51] [4,10]) (rT [lN 0 53 7 10,sT 1 7 4 53] [4])
def c33_3:AC :=
 sQ (rG [fA 0 54 0 9,lD 1 55 54,bC 2 56 .eql 55 (.i 3),mV 3 57 6,nC 4 58 57,fA 5 59 14 58,lD 6 60 59,fA 7 61 3 10,⟨8,none,.store 1 (.t 61) (.t 56),none,none,[(60,.load1 (.t 59),none)]⟩,fA 9 62 4 10,sT 10 1 62 60] [4,5,6,8,9,10]) (c33_1)
def c33_4:AC :=
 sQ (sQ (rG [mV 0 41 6,nC 1 42 41,fA 2 43 15 42,lD 3 44 43,bC 4 45 .gtr 44 (.i 0)] [4,5,6,8,9,10,45]) (cD 45 (c33_2))) (c33_3)
def c33_5:AC :=
 sQ (rG [fA 0 36 5 8,lD 1 37 36,fA 2 38 6 8,lD 3 39 38,qQ 4 40 (.build [.bool false,.bool false,.bool false,.bool false,.bool false,.int .u64 0,.int .u64 0] [(0,1,(.c (.bool true))),(5,1,(.t 37)),(6,1,(.t 39))]),qQ 5 10 (.alloc 7 [.bool false,.bool false,.bool false,.bool false,.bool false,.int .u64 0,.int .u64 0]),sT 6 7 10 40] [4,5,6,8,9,10]) (c33_4)
def c33_6:AC :=
 sQ (.region 2 [mV 0 21 6,fA 1 22 2 5,lD 2 23 22,nC 3 24 21,fA 4 25 0 24,iA 5 26 2 7 25 23,lN 6 27 7 26,mV 7 28 6,fA 8 29 2 5,lD 9 30 29,qQ 10 31 (.bin .sub (.c (.i 1)) (.t 30)),nC 11 32 28,fA 12 33 0 32,iA 13 34 2 7 33 31,lN 14 35 7 34,⟨15,(some 8),.alloc 7 [.i 0,.i 0,.ptr none,.bool false,.bool false,.int .u64 0,.int .u64 0],none,some 0,[]⟩,⟨16,(some 9),.alloc 7 [.i 0,.i 0,.ptr none,.bool false,.bool false,.int .u64 0,.int .u64 0],none,some 1,[]⟩,⟨17,none,.store 7 (.t 8) (.t 27),none,none,[(30,.load1 (.t 29),none),(35,.loadN 7 (.t 34),none)]⟩,sT 18 7 9 35] [4,5,6,8,9]) (c33_5)
def c33_7:AC :=
 sQ (sQ (rG [mV 0 18 7,bC 1 19 .neq 18 (.i 0)] [4,5,6,19]) (cD 19 (rT [qQ 0 20 (.build [.bool false,.bool false,.bool false,.bool false,.bool false,.int .u64 0,.int .u64 0] []),sT 1 7 4 20] [4]))) (c33_6)
def c33_8:AC :=
 sQ (rG [mV 0 12 0,mV 1 13 1,aB 2 14 72 12 13,mV 3 11 14,eX 4 15 11 0,eX 5 16 11 1,eX 6 17 11 2,qQ 7 5 (.alloc 3 [.bool false,.i 0,.i 0]),sT 8 3 5 15,mV 9 6 16,mV 10 7 17] [4,5,6,7]) (c33_7)
def c33:AFn:=⟨2,110,[.cellN 4 7],(sQ (rG [qQ 0 4 (.alloc 7 [.bool false,.bool false,.bool false,.bool false,.bool false,.int .u64 0,.int .u64 0])] [0,1,4]) (c33_8))⟩
def c34_0:AC :=
 sQ (rG [mV 0 17 0,mV 1 18 5,iS 2 19 1 17 18,lD 3 20 19,mV 4 21 1,mV 5 22 5,iS 6 23 1 21 22,lD 7 24 23,bB 8 25 .neq 20 24] [0,1,5,25]) (cD 25 (rT [mC 0 4 (.bool false)] [4]))
def c34_1:AC :=
 sQ (sQ (rG [mV 0 11 5,mV 1 12 0,lL 2 13 12,bB 3 14 .lss 11 13] [0,1,5,14]) (cX 14 0)) (sQ (.block 1 (c34_0)) (rG [mV 0 15 5,bC 1 16 .add 15 (.i 1),mV 2 5 16] [0,1,5]))
def c34_2:AC :=
 sQ (sQ (rG [mV 0 6 0,lL 1 7 6,mV 2 8 1,lL 3 9 8,bB 4 10 .neq 7 9] [0,1,10]) (cD 10 (rT [mC 0 4 (.bool false)] [4]))) (sQ (sQ (rG [mC 0 5 (.i 0)] [0,1,5]) (.block 0 (.loop [0,1,5] (c34_1)))) (rT [mC 0 4 (.bool true)] [4]))
def c34:AFn:=⟨2,26,[.tmp 4],(sQ (rG [mC 0 4 (.bool false)] [0,1]) (c34_2))⟩
def c35_0:AC :=
 .region 1 [mV 0 161 3,mV 1 162 0,nC 2 163 162,fA 3 164 291 163,fA 4 165 1 164,lD 5 166 165,mV 9 170 0,nC 10 171 170,fA 11 172 291 171,fA 12 173 2 172,lD 13 174 173,⟨6,(some 167),.call 77 [(.t 166)],none,none,[(174,.load1 (.t 173),none)]⟩,qQ 7 168 (.bin .add (.c (.str [110,111,116,105,99,101,32])) (.t 167)),bC 8 169 .add 168 (.str [32]),aA 14 175 77 174,bB 15 176 .add 169 175,⟨16,(some 177),.bslice 1 1 [.str []] [(0,(.t 176))],none,some 0,[]⟩,qQ 17 178 (.append 1 16 (.t 161) (.t 177)),mV 18 3 178] [3]
def c35_1:AC :=
 .region 1 [mV 0 141 3,mV 1 142 12,mV 5 146 0,nC 6 147 146,fA 7 148 289 147,lD 8 149 148,mV 9 150 12,⟨2,(some 143),.call 77 [(.t 142)],none,none,[(149,.load1 (.t 148),none)]⟩,qQ 3 144 (.bin .add (.c (.str [115,105,103,110,97,108,32])) (.t 143)),bC 4 145 .add 144 (.str [32]),aB 10 151 71 149 150,aA 11 152 77 151,bB 12 153 .add 145 152,⟨13,(some 154),.bslice 1 1 [.str []] [(0,(.t 153))],none,some 0,[]⟩,qQ 14 155 (.append 1 16 (.t 141) (.t 154)),mV 15 3 155] [0,3,12]
def c35_2:AC :=
 sQ (rG [mV 0 135 0,nC 1 136 135,fA 2 137 289 136,lD 3 138 137,mV 4 139 12,aB 5 140 80 138 139] [0,3,12,140]) (cD 140 (c35_1))
def c35_3:AC :=
 sQ (sQ (rG [mV 0 131 12,bC 1 132 .leq 131 (.i 31)] [0,3,12,132]) (cX 132 6)) (sQ (.block 7 (c35_2)) (rG [mV 0 133 12,bC 1 134 .add 133 (.i 1),mV 2 12 134] [0,3,12]))
def c35_4:AC :=
 sQ (sQ (rG [mV 0 156 0,nC 1 157 156,fA 2 158 291 157,fA 3 159 0 158,lD 4 160 159] [0,3,160]) (cD 160 (c35_0))) (rT [mV 0 179 3,mV 1 2 179] [2])
def c35_5:AC :=
 rG [mV 0 125 3,mV 1 126 9,qQ 2 127 (.call 79 [(.t 126),(.c (.str [32]))]),qQ 3 128 (.bslice 1 1 [.str []] [(0,(.t 127))]),qQ 4 129 (.append 1 16 (.t 125) (.t 128)),mV 5 3 129] [0,3,65,66,67]
def c35_6:AC :=
 rG [mV 0 97 9,mV 1 98 11,aA 2 99 77 98,qQ 3 100 (.bslice 1 1 [.str []] [(0,(.t 99))]),qQ 4 101 (.append 1 16 (.t 97) (.t 100)),mV 5 9 101] [0,3,8,9,65,66,67,91,92,93]
def c35_7:AC :=
 sQ (.block 5 (sQ (rG [iS 0 95 1 91 93,lD 1 96 95,mV 2 11 96] [0,3,8,9,11,65,66,67,91,92,93]) (c35_6))) (rG [bC 0 102 .add 93 (.i 1),mV 1 93 102] [0,3,8,9,65,66,67,91,92,93])
def c35_8:AC :=
 sQ (rG [mV 0 88 8,nC 1 89 88,fA 2 90 16 89,lD 3 91 90,lL 4 92 91,mC 5 93 (.i 0)] [0,3,8,9,65,66,67,91,92,93]) (.block 4 (.loop [0,3,8,9,65,66,67,91,92,93] (sQ (rG [bB 0 94 .lss 93 92] [0,3,8,9,65,66,67,91,92,93,94]) (sQ (cX 94 4) (c35_7)))))
def c35_9:AC :=
 sQ (rG [mV 0 80 9,mV 1 81 8,nC 2 82 81,fA 3 83 15 82,lD 4 84 83,aA 5 85 77 84,qQ 6 86 (.bslice 1 2 [.str [],.str []] [(0,(.c (.str [108,105,115,116,101,110]))),(1,(.t 85))]),qQ 7 87 (.append 1 16 (.t 80) (.t 86)),mV 8 9 87] [0,3,8,9,65,66,67]) (c35_8)
def c35_10:AC :=
 rG [mV 0 103 9,mV 1 104 8,nC 2 105 104,fA 3 106 0 105,qQ 4 107 (.ixaA 2 7 (.t 106) (.c (.i 0))),lN 5 108 7 107,mV 8 111 8,nC 9 112 111,fA 10 113 0 112,qQ 11 114 (.ixaA 2 7 (.t 113) (.c (.i 1))),lN 12 115 7 114,⟨6,(some 109),.call 78 [(.t 108)],none,none,[(115,.loadN 7 (.t 114),none)]⟩,⟨7,(some 110),.append 1 16 (.t 103) (.t 109),none,none,[(115,.loadN 7 (.t 114),none)]⟩,aA 13 116 78 115,qQ 14 117 (.append 1 16 (.t 110) (.t 116)),mV 15 9 117] [0,3,8,9,65,66,67]
def c35_11:AC :=
 sQ (sQ (rG [mV 0 118 8,nC 1 119 118,fA 2 120 14 119,lD 3 121 120] [0,3,9,65,66,67,121]) (cD 121 (rG [mV 0 122 9,qQ 1 123 (.bslice 1 1 [.str []] [(0,(.c (.str [114,101,115,101,116])))]),qQ 2 124 (.append 1 16 (.t 122) (.t 123)),mV 3 9 124] [0,3,9,65,66,67]))) (c35_5)
def c35_12:AC :=
 sQ (sQ (rG [mV 0 75 8,nC 1 76 75,fA 2 77 15 76,lD 3 78 77,bC 4 79 .gtr 78 (.i 0)] [0,3,8,9,65,66,67,79]) (.cond (.t 79) (c35_9) (c35_10))) (c35_11)
def c35_13:AC :=
 sQ (rG [mV 0 69 67,iS 1 70 1 65 67,lD 2 71 70,mV 3 7 69,mV 4 8 71] [0,3,7,8,65,66,67]) (sQ (rG [mV 0 72 7,aA 1 73 77 72,qQ 2 74 (.bslice 1 2 [.str [],.str []] [(0,(.c (.str [119,105,114,101]))),(1,(.t 73))]),mV 3 9 74] [0,3,8,9,65,66,67]) (c35_12))
def c35_14:AC :=
 .loop [0,3,65,66,67] (sQ (rG [bB 0 68 .lss 67 66] [0,3,65,66,67,68]) (sQ (cX 68 2) (sQ (.block 3 (c35_13)) (rG [bC 0 130 .add 67 (.i 1),mV 1 67 130] [0,3,65,66,67]))))
def c35_15:AC :=
 .region 1 [mV 0 46 3,mV 1 47 4,fA 5 51 1 5,lD 6 52 51,mV 10 56 6,⟨2,(some 48),.call 77 [(.t 47)],none,none,[(52,.load1 (.t 51),none)]⟩,qQ 3 49 (.bin .add (.c (.str [102,100,32])) (.t 48)),bC 4 50 .add 49 (.str [32,119,105,114,101,32]),aA 7 53 77 52,bB 8 54 .add 50 53,bC 9 55 .add 54 (.str [32,101,110,100,32]),aA 11 57 77 56,bB 12 58 .add 55 57,⟨13,(some 59),.bslice 1 1 [.str []] [(0,(.t 58))],none,some 0,[]⟩,qQ 14 60 (.append 1 16 (.t 46) (.t 59)),mV 15 3 60] [0,3,25,26]
def c35_16:AC :=
 sQ (sQ (rG [mV 0 34 0,nC 1 35 34,fA 2 36 288 35,lD 3 37 36,fA 4 38 1 5,lD 5 39 38,iS 6 40 1 37 39,lD 7 41 40,nC 8 42 41,fA 9 43 15 42,lD 10 44 43,bC 11 45 .gtr 44 (.i 0)] [0,3,4,5,6,25,26,45]) (cD 45 (rG [mC 0 6 (.i 2)] [0,3,4,5,6,25,26]))) (c35_15)
def c35_17:AC :=
 sQ (rG [fA 0 30 0 5,lD 1 31 30] [0,3,4,5,25,26,31]) (cD 31 (sQ (rG [fA 0 32 2 5,lD 1 33 32,mV 2 6 33] [0,3,4,5,6,25,26]) (c35_16)))
def c35_18:AC :=
 sQ (.block 1 (sQ (rG [mV 0 28 26,qQ 1 29 (.ixA 96 3 (some 3) (.t 25) (.t 26)),qQ 2 5 (.alloc 3 [.bool false,.i 0,.i 0]),mV 3 4 28,sT 4 3 5 29] [0,3,4,5,25,26]) (c35_17))) (rG [bC 0 61 .add 26 (.i 1),mV 1 26 61] [0,3,25,26])
def c35_19:AC :=
 sQ (sQ (rG [mV 0 62 0,nC 1 63 62,fA 2 64 288 63,lD 3 65 64,lL 4 66 65,mC 5 67 (.i 0)] [0,3,65,66,67]) (.block 2 (c35_14))) (sQ (sQ (rG [mC 0 12 (.i 1)] [0,3,12]) (.block 6 (.loop [0,3,12] (c35_3)))) (c35_4))
def c35_20:AC :=
 sQ (sQ (rG [mV 0 22 0,nC 1 23 22,fA 2 24 0 23,lN 3 25 288 24,mC 4 26 (.i 0)] [0,3,25,26]) (.block 0 (.loop [0,3,25,26] (sQ (rG [bC 0 27 .lss 26 (.i 96)] [0,3,25,26,27]) (sQ (cX 27 0) (c35_18)))))) (c35_19)
def c35_21:AC :=
 sQ (rG [mV 0 15 0,nC 1 16 15,fA 2 17 290 16,lD 3 18 17,qQ 4 19 (.call 76 [(.t 18),(.c (.i 10))]),qQ 5 20 (.bin .add (.c (.str [110,111,119,32])) (.t 19)),qQ 6 21 (.bslice 1 1 [.str []] [(0,(.t 20))]),mV 7 3 21] [0,3]) (c35_20)
def c35:AFn:=⟨1,180,[.tmp 2],(sQ (rG [mC 0 2 (.nils)] [0]) (sQ (sQ (rG [mV 0 13 0,aA 1 14 69 13] [0,14]) (cD 14 (rT [mC 0 2 (.nils)] [2]))) (c35_21)))⟩
def c36_0:AC :=
 .region 1 [mV 0 153 3,mV 1 154 0,nC 2 155 154,fA 3 156 66 155,lD 4 157 156,mV 8 161 0,nC 9 162 161,fA 10 163 67 162,lD 11 164 163,⟨5,(some 158),.call 82 [(.t 157)],none,none,[(164,.load1 (.t 163),none)]⟩,qQ 6 159 (.bin .add (.c (.str [110,111,116,105,99,101,32])) (.t 158)),bC 7 160 .add 159 (.str [32]),aA 12 165 82 164,bB 13 166 .add 160 165,⟨14,(some 167),.bslice 1 1 [.str []] [(0,(.t 166))],none,some 0,[]⟩,qQ 15 168 (.append 1 16 (.t 153) (.t 167)),mV 16 3 168] [3]
def c36_1:AC :=
 .region 1 [mV 0 133 3,mV 1 134 11,mV 5 138 0,mV 6 139 11,nC 7 140 138,fA 8 141 34 140,iA 9 142 32 1 141 139,lD 10 143 142,⟨2,(some 135),.call 82 [(.t 134)],none,none,[(143,.load1 (.t 142),none)]⟩,qQ 3 136 (.bin .add (.c (.str [115,105,103,110,97,108,32])) (.t 135)),bC 4 137 .add 136 (.str [32]),aA 11 144 82 143,bB 12 145 .add 137 144,⟨13,(some 146),.bslice 1 1 [.str []] [(0,(.t 145))],none,some 0,[]⟩,qQ 14 147 (.append 1 16 (.t 133) (.t 146)),mV 15 3 147] [0,3,11]
def c36_2:AC :=
 sQ (rG [mV 0 127 0,mV 1 128 11,nC 2 129 127,fA 3 130 2 129,iA 4 131 32 1 130 128,lD 5 132 131] [0,3,11,132]) (cD 132 (c36_1))
def c36_3:AC :=
 sQ (sQ (rG [mV 0 123 11,bC 1 124 .leq 123 (.i 31)] [0,3,11,124]) (cX 124 6)) (sQ (.block 7 (c36_2)) (rG [mV 0 125 11,bC 1 126 .add 125 (.i 1),mV 2 11 126] [0,3,11]))
def c36_4:AC :=
 sQ (sQ (rG [mV 0 148 0,nC 1 149 148,fA 2 150 66 149,lD 3 151 150,bC 4 152 .geq 151 (.i 0)] [0,3,152]) (cD 152 (c36_0))) (rT [mV 0 169 3,mV 1 2 169] [2])
def c36_5:AC :=
 rG [mV 0 89 9,bC 1 90 .add 89 (.str [32]),fA 2 91 19 8,lD 3 92 91,mV 4 93 10,iS 5 94 1 92 93,lD 6 95 94,aA 7 96 82 95,bB 8 97 .add 90 96,mV 9 9 97] [0,3,7,8,9,10]
def c36_6:AC :=
 sQ (sQ (rG [mV 0 82 10,fA 1 83 19 8,lD 2 84 83,lL 3 85 84,bB 4 86 .lss 82 85] [0,3,7,8,9,10,86]) (cX 86 4)) (sQ (.block 5 (c36_5)) (rG [mV 0 87 10,bC 1 88 .add 87 (.i 1),mV 2 10 88] [0,3,7,8,9,10]))
def c36_7:AC :=
 sQ (rG [mV 0 76 9,bC 1 77 .add 76 (.str [32,108,105,115,116,101,110,32]),fA 2 78 18 8,lD 3 79 78,aA 4 80 82 79,bB 5 81 .add 77 80,mV 6 9 81] [0,3,7,8,9]) (sQ (rG [mC 0 10 (.i 0)] [0,3,7,8,9,10]) (.block 4 (.loop [0,3,7,8,9,10] (c36_6))))
def c36_8:AC :=
 rG [mV 0 98 9,bC 1 99 .add 98 (.str [32]),fA 2 100 0 8,qQ 3 101 (.ixaA 2 8 (.t 100) (.c (.i 0))),lN 4 102 8 101,fA 5 103 16 8,lD 6 104 103,fA 10 108 0 8,qQ 11 109 (.ixaA 2 8 (.t 108) (.c (.i 1))),lN 12 110 8 109,fA 13 111 16 8,lD 14 112 111,⟨7,(some 105),.call 83 [(.t 102),(.t 104)],none,none,[(110,.loadN 8 (.t 109),none),(112,.load1 (.t 111),none)]⟩,bB 8 106 .add 99 105,bC 9 107 .add 106 (.str [32]),aB 15 113 83 110 112,bB 16 114 .add 107 113,mV 17 9 114] [0,3,7,8,9]
def c36_9:AC :=
 sQ (sQ (rG [fA 0 115 17 8,lD 1 116 115] [0,3,7,9,116]) (cD 116 (rG [mV 0 117 9,bC 1 118 .add 117 (.str [32,114,101,115,101,116]),mV 2 9 118] [0,3,7,9]))) (rG [mV 0 119 3,mV 1 120 9,qQ 2 121 (.bslice 1 1 [.str []] [(0,(.t 120))]),qQ 3 122 (.append 1 16 (.t 119) (.t 121)),mV 4 3 122] [0,3,7])
def c36_10:AC :=
 sQ (rG [mV 0 70 7,aA 1 71 82 70,qQ 2 72 (.bin .add (.c (.str [119,105,114,101,32])) (.t 71)),mV 3 9 72] [0,3,7,8,9]) (sQ (sQ (rG [fA 0 73 18 8,lD 1 74 73,bC 2 75 .gtr 74 (.i 0)] [0,3,7,8,9,75]) (.cond (.t 75) (c36_7) (c36_8))) (c36_9))
def c36_11:AC :=
 sQ (rG [mV 0 63 0,nC 1 64 63,fA 2 65 0 64,lD 3 66 65,mV 4 67 7,iS 5 68 20 66 67,lN 6 69 20 68,qQ 7 8 (.alloc 20 [.i 0,.i 0,.bool false,.bool false,.nils,.bool false,.int .u64 0,.int .u64 0,.i 0,.i 0,.bool false,.bool false,.nils,.bool false,.int .u64 0,.int .u64 0,.i 0,.bool false,.i 0,.nils]),sT 8 20 8 69] [0,3,7,8]) (c36_10)
def c36_12:AC :=
 sQ (sQ (rG [mV 0 54 7,mV 1 55 0,nC 2 56 55,fA 3 57 0 56,lD 4 58 57,lL 5 59 58,bB 6 60 .lss 54 59] [0,3,7,60]) (cX 60 2)) (sQ (.block 3 (c36_11)) (rG [mV 0 61 7,bC 1 62 .add 61 (.i 1),mV 2 7 62] [0,3,7]))
def c36_13:AC :=
 rG [mV 0 40 3,mV 1 41 4,aA 2 42 82 41,qQ 3 43 (.bin .add (.c (.str [102,100,32])) (.t 42)),bC 4 44 .add 43 (.str [32,119,105,114,101,32]),mV 5 45 5,aA 6 46 82 45,bB 7 47 .add 44 46,bC 8 48 .add 47 (.str [32,101,110,100,32]),mV 9 49 6,aA 10 50 82 49,bB 11 51 .add 48 50,qQ 12 52 (.bslice 1 1 [.str []] [(0,(.t 51))]),qQ 13 53 (.append 1 16 (.t 40) (.t 52)),mV 14 3 53] [0,3,4]
def c36_14:AC :=
 sQ (sQ (rG [mV 0 31 0,nC 1 32 31,fA 2 33 0 32,lD 3 34 33,mV 4 35 5,iS 5 36 20 34 35,fA 6 37 18 36,lD 7 38 37,bC 8 39 .gtr 38 (.i 0)] [0,3,4,5,6,39]) (cD 39 (rG [mC 0 6 (.i 2)] [0,3,4,5,6]))) (c36_13)
def c36_15:AC :=
 sQ (rG [mV 0 24 0,mV 1 25 4,aB 2 26 66 24 25,mV 3 23 26,eX 4 27 23 0,eX 5 28 23 1,mV 6 5 27,mV 7 6 28] [0,3,4,5,6]) (sQ (sQ (rG [mV 0 29 5,bC 1 30 .lss 29 (.i 0)] [0,3,4,5,6,30]) (cD 30 (.exit 1))) (c36_14))
def c36_16:AC :=
 sQ (sQ (rG [mV 0 19 4,bC 1 20 .leq 19 (.i 95)] [0,3,4,20]) (cX 20 0)) (sQ (.block 1 (c36_15)) (rG [mV 0 21 4,bC 1 22 .add 21 (.i 1),mV 2 4 22] [0,3,4]))
def c36_17:AC :=
 sQ (sQ (rG [mC 0 4 (.i 0)] [0,3,4]) (.block 0 (.loop [0,3,4] (c36_16)))) (sQ (sQ (rG [mC 0 7 (.i 0)] [0,3,7]) (.block 2 (.loop [0,3,7] (c36_12)))) (sQ (sQ (rG [mC 0 11 (.i 1)] [0,3,11]) (.block 6 (.loop [0,3,11] (c36_3)))) (c36_4)))
def c36_18:AC :=
 sQ (rG [mV 0 12 0,nC 1 13 12,fA 2 14 1 13,lD 3 15 14,aA 4 16 81 15,qQ 5 17 (.bin .add (.c (.str [110,111,119,32])) (.t 16)),qQ 6 18 (.bslice 1 1 [.str []] [(0,(.t 17))]),mV 7 3 18] [0,3]) (c36_17)
def c36:AFn:=⟨1,170,[.tmp 2],(sQ (rG [mC 0 2 (.nils)] [0]) (c36_18))⟩
def c47_0:AC :=
 rT [qQ 0 1 (.call 89 []),qQ 1 2 (.build ((List.replicate 96 ([.bool false,.i 0,.i 0]:List V)).flatten++[.nils,.ptr none,.int .u64 0,.bool false,.i 0,.i 0]) [(289,1,(.t 1))]),qQ 2 3 (.box 294 (.t 2)),mV 3 0 3] [0]
def c47:AFn:=⟨0,4,[.tmp 0],(sQ (rG [mC 0 0 (.ptr none)] []) (c47_0))⟩
def c48_0:AC :=
 sQ (rG [mC 0 0 (.ptr none)] []) (rT [qQ 0 1 (.build ([.nils,.int .u64 0]++List.replicate 32 (.bool false:V)++List.replicate 34 (.i 0:V)) [(66,1,(.c (.i (-1))))]),qQ 1 2 (.box 68 (.t 1)),mV 2 0 2] [0])
def c48:AFn:=⟨0,3,[.tmp 0],(c48_0)⟩
def c49_0:AC :=
 rT [mV 0 31 8,qQ 1 32 (.ixaS 1 (.t 31) (.c (.i 0))),lD 2 33 32,mV 3 34 8,qQ 4 35 (.ixaS 1 (.t 34) (.c (.i 1))),lD 5 36 35,mV 6 4 33,mV 7 5 36,mC 8 6 (.i 0)] [4,5,6]
def c49_1:AC :=
 sQ (sQ (rG [mV 0 28 6,bC 1 29 .neq 28 (.i 0)] [6,8,29]) (cD 29 (rT [mV 0 30 6,mC 1 4 (.i 0),mC 2 5 (.i 0),mV 3 6 30] [4,5,6]))) (c49_0)
def c49_2:AC :=
 sQ (rG [mV 0 22 0,mV 1 23 1,mV 2 24 7,qQ 3 25 (.call 91 [(.t 22),(.t 23),(.c (.i 2)),(.t 24)]),mV 4 21 25,eX 5 26 21 0,eX 6 27 21 1,mV 7 8 26,mV 8 6 27] [6,8]) (c49_1)
def c49_3:AC :=
 sQ (rG [mV 0 11 7,mV 1 12 7,nC 2 13 11,fA 3 14 0 13,qQ 4 15 (.ixaA 2 7 (.t 14) (.c (.i 0))),fA 5 16 3 15,nC 7 17 12,fA 8 18 0 17,.mk4 6 none (.store 1 (.t 16) (.c (.bool false))) none,qQ 9 19 (.ixaA 2 7 (.t 18) (.c (.i 1))),fA 10 20 2 19,.mk4 11 none (.store 1 (.t 20) (.c (.ptr none))) none] [0,1,7]) (c49_2)
def c49_4:AC :=
 sQ (rG [mC 0 4 (.i 0),mC 1 5 (.i 0),mC 2 6 (.i 0)] [0,1]) (sQ (rG [mV 0 9 1,aA 1 10 90 9,mV 2 7 10] [0,1,7]) (c49_3))
def c49:AFn:=⟨2,37,[.tmp 4,.tmp 5,.tmp 6],(c49_4)⟩
def c50_0:AC :=
 rT [mV 0 19 7,qQ 1 20 (.ixaS 1 (.t 19) (.c (.i 0))),lD 2 21 20,mV 3 22 7,qQ 4 23 (.ixaS 1 (.t 22) (.c (.i 1))),lD 5 24 23,mV 6 4 21,mV 7 5 24,mC 8 6 (.i 0)] [4,5,6]
def c50_1:AC :=
 sQ (sQ (rG [mV 0 16 6,bC 1 17 .neq 16 (.i 0)] [6,7,17]) (cD 17 (rT [mV 0 18 6,mC 1 4 (.i 0),mC 2 5 (.i 0),mV 3 6 18] [4,5,6]))) (c50_0)
def c50_2:AC :=
 sQ (rG [mV 0 9 0,mV 1 10 1,mV 2 11 1,aA 3 12 90 11,qQ 4 13 (.call 91 [(.t 9),(.t 10),(.c (.i 2)),(.t 12)]),mV 5 8 13,eX 6 14 8 0,eX 7 15 8 1,mV 8 7 14,mV 9 6 15] [6,7]) (c50_1)
def c50:AFn:=⟨2,25,[.tmp 4,.tmp 5,.tmp 6],(sQ (rG [mC 0 4 (.i 0),mC 1 5 (.i 0),mC 2 6 (.i 0)] [0,1]) (c50_2))⟩
def c51_0:AC :=
 rT [mV 0 26 8,qQ 1 27 (.ixaS 1 (.t 26) (.c (.i 0))),lD 2 28 27,mV 3 29 0,nC 4 30 29,fA 5 31 288 30,lD 6 32 31,lL 7 33 32,bC 8 34 .sub 33 (.i 1),mV 9 4 28,mV 10 5 34,mC 11 6 (.i 0)] [4,5,6]
def c51_1:AC :=
 sQ (sQ (rG [mV 0 23 6,bC 1 24 .neq 23 (.i 0)] [0,6,8,24]) (cD 24 (rT [mV 0 25 6,mC 1 4 (.i 0),mC 2 5 (.i 0),mV 3 6 25] [4,5,6]))) (c51_0)
def c51_2:AC :=
 sQ (rG [mV 0 17 0,mV 1 18 1,mV 2 19 7,qQ 3 20 (.call 91 [(.t 17),(.t 18),(.c (.i 1)),(.t 19)]),mV 4 16 20,eX 5 21 16 0,eX 6 22 16 1,mV 7 8 21,mV 8 6 22] [0,6,8]) (c51_1)
def c51_3:AC :=
 sQ (rG [mV 0 11 7,nC 1 12 11,fA 2 13 0 12,qQ 3 14 (.ixaA 2 7 (.t 13) (.c (.i 1))),fA 4 15 0 14,.mk4 5 none (.store 1 (.t 15) (.c (.i 2))) none] [0,1,7]) (c51_2)
def c51_4:AC :=
 sQ (rG [mC 0 4 (.i 0),mC 1 5 (.i 0),mC 2 6 (.i 0)] [0,1]) (sQ (rG [mV 0 9 1,aA 1 10 90 9,mV 2 7 10] [0,1,7]) (c51_3))
def c51:AFn:=⟨2,35,[.tmp 4,.tmp 5,.tmp 6],(c51_4)⟩
def c52_0:AC :=
 rT [mV 0 27 7,qQ 1 28 (.ixaS 1 (.t 27) (.c (.i 0))),lD 2 29 28,mV 3 30 0,nC 4 31 30,fA 5 32 288 31,lD 6 33 32,lL 7 34 33,bC 8 35 .sub 34 (.i 1),mV 9 4 29,mV 10 5 35,mC 11 6 (.i 0)] [4,5,6]
def c52_1:AC :=
 sQ (sQ (rG [mV 0 24 6,bC 1 25 .neq 24 (.i 0)] [0,6,7,25]) (cD 25 (rT [mV 0 26 6,mC 1 4 (.i 0),mC 2 5 (.i 0),mV 3 6 26] [4,5,6]))) (c52_0)
def c52_2:AC :=
 sQ (rG [mV 0 16 0,mV 1 17 1,mV 2 18 1,qQ 3 19 (.build [.i 0,.i 0,.ptr none,.bool false,.bool false,.int .u64 0,.int .u64 0,.i 0,.i 0,.ptr none,.bool false,.bool false,.int .u64 0,.int .u64 0,.bool false,.i 0,.nils] [(15,1,(.t 18))]),qQ 4 20 (.box 17 (.t 19)),qQ 5 21 (.call 91 [(.t 16),(.t 17),(.c (.i 1)),(.t 20)]),mV 6 15 21,eX 7 22 15 0,eX 8 23 15 1,mV 9 7 22,mV 10 6 23] [0,6,7]) (c52_1)
def c52_3:AC :=
 sQ (sQ (rG [mV 0 8 0,aA 1 9 69 8,qQ 2 10 (.un .not (.t 9)),mV 3 11 10,gM 4 12 1 11 true,gG 5 13 (.bin .gtr (.t 12) (.c (.i 64))) 11 true,pT 6 14 11 13 (.bool false)] [0,1,14]) (cD 14 (rT [mC 0 4 (.i 0),mC 1 5 (.i 0),mC 2 6 (.i 2)] [4,5,6]))) (c52_2)
def c52:AFn:=⟨2,36,[.tmp 4,.tmp 5,.tmp 6],(sQ (rG [mC 0 4 (.i 0),mC 1 5 (.i 0),mC 2 6 (.i 0)] [0,1]) (c52_3))⟩
def c53_0:AC :=
 rG [mV 0 95 12,mV 1 96 9,mV 2 97 12,iS 3 98 1 96 97,lD 4 99 98,fA 5 100 0 10,iA 6 101 2 8 100 95,fA 7 102 1 101,sT 8 1 102 99] [0,8,9,10,12]
def c53_1:AC :=
 sQ (.block 3 (sQ (rG [mV 0 91 12,fA 1 92 0 10,iA 2 93 2 8 92 91,fA 3 94 0 93,.mk4 4 none (.store 1 (.t 94) (.c (.i 1))) none] [0,8,9,10,12]) (c53_0))) (rG [mV 0 89 12,bC 1 90 .add 89 (.i 1),mV 2 12 90] [0,8,9,10,12])
def c53_2:AC :=
 sQ (.region 1 [mV 0 103 0,mV 1 104 0,nC 2 105 104,fA 3 106 0 105,lD 4 107 106,lN 5 108 20 10,⟨6,(some 109),.bslice 20 1 [.i 0,.i 0,.bool false,.bool false,.nils,.bool false,.int .u64 0,.int .u64 0,.i 0,.i 0,.bool false,.bool false,.nils,.bool false,.int .u64 0,.int .u64 0,.i 0,.bool false,.i 0,.nils] [(0,(.t 108))],none,some 0,[]⟩,qQ 7 110 (.append 20 192 (.t 107) (.t 109)),nC 8 111 103,fA 9 112 0 111,sT 10 1 112 110] [8,9]) (rT [mV 0 113 9,mV 1 114 8,qQ 2 115 (.slice 1 (.t 113) none (some (.t 114)) none),mV 3 6 115,mC 4 7 (.i 0)] [6,7])
def c53_3:AC :=
 sQ (sQ (rG [mC 0 12 (.i 0)] [0,8,9,10,12]) (.block 2 (.loop [0,8,9,10,12] (sQ (sQ (rG [mV 0 86 12,mV 1 87 8,bB 2 88 .lss 86 87] [0,8,9,10,12,88]) (cX 88 2)) (c53_1))))) (c53_2)
def c53_4:AC :=
 sQ (sQ (rG [mV 0 82 1,bC 1 83 .eql 82 (.i 3)] [0,2,8,9,10,83]) (cD 83 (rG [mV 0 84 2,fA 1 85 18 10,sT 2 1 85 84] [0,8,9,10]))) (c53_3)
def c53_5:AC :=
 rG [mV 0 63 11,mV 1 64 1,bC 2 65 .lss 64 (.i 3),mV 3 66 65,gM 4 67 1 66 true,gG 5 68 (.bin .gtr (.t 67) (.c (.i 0))) 66 true,gM 6 69 68 66 true,gM 7 70 11 69 false,gG 8 71 (.bin .eql (.t 70) (.c (.i 1))) 69 false,gG 9 72 (.pick (.t 69) (.c (.bool true)) (.t 71)) 66 true,pT 10 73 66 72 (.bool false),fA 11 74 0 10,iA 12 75 2 8 74 63,fA 13 76 3 75,sT 14 1 76 73] [0,1,2,8,9,10,11]
def c53_6:AC :=
 sQ (rG [mV 0 49 11,mV 1 50 1,bC 2 51 .lss 50 (.i 3),mV 3 52 51,gM 4 53 1 52 true,gG 5 54 (.bin .gtr (.t 53) (.c (.i 0))) 52 true,gM 6 55 54 52 true,gM 7 56 11 55 false,gG 8 57 (.bin .eql (.t 56) (.c (.i 0))) 55 false,gG 9 58 (.pick (.t 55) (.c (.bool true)) (.t 57)) 52 true,pT 10 59 52 58 (.bool false),fA 11 60 0 10,iA 12 61 2 8 60 49,fA 13 62 2 61,sT 14 1 62 59] [0,1,2,8,9,10,11]) (c53_5)
def c53_7:AC :=
 sQ (sQ (rG [mV 0 45 11,bC 1 46 .lss 45 (.i 2)] [0,1,2,8,9,10,11,46]) (cX 46 0)) (sQ (.block 1 (c53_6)) (rG [mV 0 47 11,bC 1 48 .add 47 (.i 1),mV 2 11 48] [0,1,2,8,9,10,11]))
def c53_8:AC :=
 sQ (sQ (rG [mV 0 77 1,bC 1 78 .eql 77 (.i 2)] [0,1,2,8,9,10,78]) (cD 78 (rG [fA 0 79 0 10,qQ 1 80 (.ixaA 2 8 (.t 79) (.c (.i 1))),fA 2 81 0 80,.mk4 3 none (.store 1 (.t 81) (.c (.i 2))) none] [0,1,2,8,9,10]))) (c53_4)
def c53_9:AC :=
 sQ (rG [mV 0 43 2,qQ 1 44 (.build [.i 0,.i 0,.bool false,.bool false,.nils,.bool false,.int .u64 0,.int .u64 0,.i 0,.i 0,.bool false,.bool false,.nils,.bool false,.int .u64 0,.int .u64 0,.i 0,.bool false,.i 0,.nils] [(16,1,(.t 43))]),qQ 2 10 (.alloc 20 [.i 0,.i 0,.bool false,.bool false,.nils,.bool false,.int .u64 0,.int .u64 0,.i 0,.i 0,.bool false,.bool false,.nils,.bool false,.int .u64 0,.int .u64 0,.i 0,.bool false,.i 0,.nils]),sT 3 20 10 44] [0,1,2,8,9,10]) (sQ (sQ (rG [mC 0 11 (.i 0)] [0,1,2,8,9,10,11]) (.block 0 (.loop [0,1,2,8,9,10,11] (c53_7)))) (c53_8))
def c53_10:AC :=
 sQ (sQ (rG [mV 0 31 9,lL 1 32 31,mV 2 33 8,bB 3 34 .lss 32 33,mV 4 35 34,gM 5 36 0 35 false,gG 6 37 (.nilck (.t 36)) 35 false,gF 7 38 0 37 35 false,gL 8 39 38 35 false,gG 9 40 (.lenL (.t 39)) 35 false,gG 10 41 (.bin .geq (.t 40) (.c (.i 1000))) 35 false,pC 11 42 35 (.bool true) 41] [0,1,2,8,9,42]) (cD 42 (rT [mC 0 6 (.nils),mC 1 7 (.i 112)] [6,7]))) (c53_9)
def c53_11:AC :=
 sQ (sQ (rG [mV 0 27 1,bC 1 28 .gtr 27 (.i 1)] [0,1,2,8,28]) (cD 28 (rG [mC 0 8 (.i 1)] [0,1,2,8]))) (sQ (rG [mV 0 29 0,aA 1 30 92 29,mV 2 9 30] [0,1,2,8,9]) (c53_10))
def c53_12:AC :=
 sQ (sQ (rG [mV 0 13 2,bC 1 14 .lss 13 (.i 1),mV 2 15 14,gM 3 16 2 15 false,gG 4 17 (.bin .gtr (.t 16) (.c (.i 65536))) 15 false,pC 5 18 15 (.bool true) 17,mV 6 19 18,gM 7 20 1 19 false,gG 8 21 (.bin .eql (.t 20) (.c (.i 3))) 19 false,gM 9 22 21 19 false,gM 10 23 2 22 true,gG 11 24 (.bin .gtr (.t 23) (.c (.i 64))) 22 true,gG 12 25 (.pick (.t 22) (.t 24) (.c (.bool false))) 19 false,pC 13 26 19 (.bool true) 25] [0,1,2,26]) (cD 26 (rT [mC 0 6 (.nils),mC 1 7 (.i 2)] [6,7]))) (sQ (rG [mC 0 8 (.i 2)] [0,1,2,8]) (c53_11))
def c53:AFn:=⟨3,116,[.tmp 6,.tmp 7],(sQ (rG [mC 0 6 (.nils),mC 1 7 (.i 0)] [0,1,2]) (c53_12))⟩
def c54_0:AC :=
 rT [mV 0 33 0,mV 1 34 3,qQ 2 35 (.ixaS 1 (.t 34) (.c (.i 0))),lD 3 36 35,bB 4 37 .eql 33 36,mV 5 38 37,gM 6 39 1 38 true,gM 7 40 3 38 true,gG 8 41 (.ixaS 1 (.t 40) (.c (.i 1))) 38 true,gL 9 42 41 38 true,gG 10 43 (.bin .eql (.t 39) (.t 42)) 38 true,pT 11 44 38 43 (.bool false),mV 12 12 44] [12]
def c54_1:AC :=
 rT [mV 0 45 0,mV 1 46 3,qQ 2 47 (.ixaS 1 (.t 46) (.c (.i 0))),lD 3 48 47,bB 4 49 .eql 45 48,mV 5 50 49,gM 6 51 1 50 true,gM 7 52 4 50 true,gG 8 53 (.bin .eql (.t 51) (.t 52)) 50 true,pT 9 54 50 53 (.bool false),mV 10 12 54] [12]
def c54_2:AC :=
 rT [mV 0 19 2,mV 1 20 5,bB 2 21 .eql 19 20,mV 3 22 21,gM 4 23 0 22 true,gG 5 24 (.bin .eql (.t 23) (.c (.i 0))) 22 true,pT 6 25 22 24 (.bool false),mV 7 26 25,gM 8 27 1 26 true,gG 9 28 (.bin .eql (.t 27) (.c (.i 0))) 26 true,pT 10 29 26 28 (.bool false),mV 11 12 29] [12]
def c54_3:AC :=
 sQ (sQ (rG [mV 0 13 5,bC 1 14 .neq 13 (.i 0),mV 2 15 14,gM 3 16 2 15 false,gG 4 17 (.bin .neq (.t 16) (.c (.i 0))) 15 false,pC 5 18 15 (.bool true) 17] [0,1,2,3,4,5,18]) (cD 18 (c54_2))) (sQ (sQ (rG [mV 0 30 3,lL 1 31 30,bC 2 32 .eql 31 (.i 2)] [0,1,3,4,32]) (cD 32 (c54_0))) (c54_1))
def c54:AFn:=⟨6,55,[.tmp 12],(sQ (rG [mC 0 12 (.bool false)] [0,1,2,3,4,5]) (c54_3))⟩
def c55_0:AC :=
 sQ (rG [lD 0 70 2,mV 1 71 9,lD 2 72 5,qQ 3 73 (.build [.bool false,.i 0,.i 0] [(0,1,(.c (.bool true))),(1,1,(.t 72)),(2,1,(.c (.i 0)))]),nC 4 74 70,fA 5 75 0 74,iA 6 76 96 3 75 71,sT 7 3 76 73] [4,5,6,9]) (rT [mV 0 77 9,lD 1 78 5,⟨2,none,.store 1 (.t 4) (.t 77),none,none,[(78,.load1 (.t 5),none)]⟩,sT 3 1 5 78,.mk4 4 none (.store 1 (.t 6) (.c (.i 0))) none] [])
def c55_1:AC :=
 sQ (rG [mV 0 59 10,mV 1 60 10,mV 2 61 9,nC 3 62 59,fA 4 63 0 62,qQ 5 64 (.ixaA 2 7 (.t 63) (.c (.i 0))),fA 6 65 0 64,nC 8 66 60,fA 9 67 0 66,.mk4 7 none (.store 1 (.t 65) (.c (.i 1))) none,qQ 10 68 (.ixaA 2 7 (.t 67) (.c (.i 0))),fA 11 69 1 68,sT 12 1 69 61] [2,4,5,6,9]) (c55_0)
def c55_2:AC :=
 sQ (rG [lD 0 52 2,nC 1 53 52,fA 2 54 288 53,lD 3 55 54,lD 4 56 5,iS 5 57 1 55 56,lD 6 58 57,mV 7 10 58] [2,4,5,6,9,10]) (c55_1)
def c55_3:AC :=
 sQ (rG [lD 0 44 8,lD 1 45 8,nC 2 46 45,fA 3 47 16 46,lD 4 48 47,qQ 5 49 (.slice 1 (.t 48) (some (.c (.i 1))) none none),nC 6 50 44,fA 7 51 16 50,sT 8 1 51 49] [2,4,5,6,9]) (c55_2)
def c55_4:AC :=
 sQ (rG [lD 0 38 8,nC 1 39 38,fA 2 40 16 39,lD 3 41 40,qQ 4 42 (.ixaS 1 (.t 41) (.c (.i 0))),lD 5 43 42,sT 6 1 5 43] [2,4,5,6,8,9]) (c55_3)
def c55_5:AC :=
 sQ (rG [lD 0 29 8,nC 1 30 29,fA 2 31 16 30,lD 3 32 31,lL 4 33 32,bC 5 34 .eql 33 (.i 0),mV 6 28 34] [2,4,5,6,8,28]) (cD 28 (rT [.mk4 0 none (.store 1 (.t 4) (.c (.i 0))) none,.mk4 1 none (.store 1 (.t 5) (.c (.i 0))) none,.mk4 2 none (.store 1 (.t 6) (.c (.i 113))) none] [4,5,6]))
def c55_6:AC :=
 sQ (rG [lD 0 23 8,nC 1 24 23,fA 2 25 15 24,lD 3 26 25,bC 4 27 .eql 26 (.i 0),mV 5 22 27] [2,4,5,6,8,22]) (.cond (.t 22) (rT [.mk4 0 none (.store 1 (.t 4) (.c (.i 0))) none,.mk4 1 none (.store 1 (.t 5) (.c (.i 0))) none,.mk4 2 none (.store 1 (.t 6) (.c (.i 111))) none] [4,5,6]) (c55_5))
def c55_7:AC :=
 .cond (.t 18) (rT [lD 0 21 6,⟨1,none,.store 1 (.t 4) (.c (.i 0)),none,none,[(21,.load1 (.t 6),none)]⟩,⟨2,none,.store 1 (.t 5) (.c (.i 0)),none,none,[(21,.load1 (.t 6),none)]⟩,sT 3 1 6 21] [4,5,6]) (c55_6)
def c55_8:AC :=
 sQ (sQ (rG [lD 0 35 2,aA 1 36 93 35] [2,4,5,6,8,36]) (.block 1 (.rangeFunc (.t 36) [37] [2,4,5,6,8] (rG [mV 0 9 37] [2,4,5,6,8,9]) (.block 2 (c55_4))))) (rT [.mk4 0 none (.store 1 (.t 4) (.c (.i 0))) none,.mk4 1 none (.store 1 (.t 5) (.c (.i 0))) none,.mk4 2 none (.store 1 (.t 6) (.c (.i 112))) none] [4,5,6])
def c55_9:AC :=
 sQ (rG [lD 0 12 2,mV 1 13 1,aB 2 14 72 12 13,mV 3 11 14,eX 4 15 11 0,eX 5 16 11 1,eX 6 17 11 2,qQ 7 7 (.alloc 3 [.bool false,.i 0,.i 0]),qQ 8 8 (.alloc 1 [.ptr none]),sT 9 3 7 15,sT 10 1 8 16,sT 11 1 6 17] [2,4,5,6,8]) (sQ (.block 0 (sQ (rG [lD 0 19 6,bC 1 20 .neq 19 (.i 0),mV 2 18 20] [2,4,5,6,8,18]) (c55_7))) (c55_8))
def c55:AFn:=⟨2,79,[.cell1 4,.cell1 5,.cell1 6],(sQ (rG [qQ 0 2 (.box 1 (.t 0)),qQ 1 4 (.alloc 1 [.i 0]),qQ 2 5 (.alloc 1 [.i 0]),qQ 3 6 (.alloc 1 [.i 0])] [1,2,4,5,6]) (c55_9))⟩
def c56_0:AC :=
 rT [mV 0 90 9,qQ 1 91 (.ixaS 1 (.t 90) (.c (.i 0))),lD 2 92 91,mV 3 93 10,mV 4 4 92,mV 5 5 93,mC 6 6 (.i 0)] [4,5,6]
def c56_1:AC :=
 sQ (rG [mV 0 78 0,nC 1 79 78,fA 2 80 0 79,lD 3 81 80,mV 4 82 10,mV 5 83 9,qQ 6 84 (.ixaS 1 (.t 83) (.c (.i 0))),lD 7 85 84,iS 8 86 20 81 82,fA 9 87 0 86,qQ 10 88 (.ixaA 2 8 (.t 87) (.c (.i 0))),fA 11 89 1 88,sT 12 1 89 85] [9,10]) (c56_0)
def c56_2:AC :=
 sQ (rG [mV 0 69 0,nC 1 70 69,fA 2 71 0 70,lD 3 72 71,mV 4 73 10,iS 5 74 20 72 73,fA 6 75 0 74,qQ 7 76 (.ixaA 2 8 (.t 75) (.c (.i 0))),fA 8 77 0 76,.mk4 9 none (.store 1 (.t 77) (.c (.i 1))) none] [0,9,10]) (c56_1)
def c56_3:AC :=
 sQ (rG [mV 0 53 0,nC 1 54 53,fA 2 55 0 54,lD 3 56 55,mV 4 57 7,mV 5 58 0,nC 6 59 58,fA 7 60 0 59,lD 8 61 60,mV 9 62 7,iS 10 63 20 61 62,fA 11 64 19 63,lD 12 65 64,qQ 13 66 (.slice 1 (.t 65) (some (.c (.i 1))) none none),iS 14 67 20 56 57,fA 15 68 19 67,sT 16 1 68 66] [0,9,10]) (c56_2)
def c56_4:AC :=
 sQ (rG [mV 0 43 0,nC 1 44 43,fA 2 45 0 44,lD 3 46 45,mV 4 47 7,iS 5 48 20 46 47,fA 6 49 19 48,lD 7 50 49,qQ 8 51 (.ixaS 1 (.t 50) (.c (.i 0))),lD 9 52 51,mV 10 10 52] [0,7,9,10]) (c56_3)
def c56_5:AC :=
 sQ (sQ (rG [mV 0 40 9,lL 1 41 40,bC 2 42 .eql 41 (.i 0)] [0,7,9,42]) (cD 42 (rT [mC 0 4 (.i 0),mC 1 5 (.i 0),mC 2 6 (.i 112)] [4,5,6]))) (c56_4)
def c56_6:AC :=
 sQ (sQ (rG [mV 0 28 0,nC 1 29 28,fA 2 30 0 29,lD 3 31 30,mV 4 32 7,iS 5 33 20 31 32,fA 6 34 19 33,lD 7 35 34,lL 8 36 35,bC 9 37 .eql 36 (.i 0)] [0,7,37]) (cD 37 (rT [mC 0 4 (.i 0),mC 1 5 (.i 0),mC 2 6 (.i 113)] [4,5,6]))) (sQ (rG [mV 0 38 0,aA 1 39 92 38,mV 2 9 39] [0,7,9]) (c56_5))
def c56_7:AC :=
 sQ (sQ (rG [mV 0 19 0,nC 1 20 19,fA 2 21 0 20,lD 3 22 21,mV 4 23 7,iS 5 24 20 22 23,fA 6 25 18 24,lD 7 26 25,bC 8 27 .eql 26 (.i 0)] [0,7,27]) (cD 27 (rT [mC 0 4 (.i 0),mC 1 5 (.i 0),mC 2 6 (.i 111)] [4,5,6]))) (c56_6)
def c56_8:AC :=
 sQ (sQ (rG [mV 0 17 7,bC 1 18 .lss 17 (.i 0)] [0,7,18]) (cD 18 (rT [mC 0 4 (.i 0),mC 1 5 (.i 0),mC 2 6 (.i 110)] [4,5,6]))) (c56_7)
def c56_9:AC :=
 sQ (rG [mV 0 12 0,mV 1 13 1,aB 2 14 66 12 13,mV 3 11 14,eX 4 15 11 0,eX 5 16 11 1,mV 6 7 15,mV 7 8 16] [0,7]) (c56_8)
def c56:AFn:=⟨2,94,[.tmp 4,.tmp 5,.tmp 6],(sQ (rG [mC 0 4 (.i 0),mC 1 5 (.i 0),mC 2 6 (.i 0)] [0,1]) (c56_9))⟩
def c57_0:AC :=
 sQ (rG [mV 0 45 6,lL 1 46 45,bC 2 47 .gtr 46 (.i 0)] [6,9,10,47]) (cD 47 (rT [mV 0 48 6,mV 1 6 48,mC 2 7 (.bool false),mC 3 8 (.i 0)] [6,7,8]))
def c57_1:AC :=
 sQ (sQ (rG [mV 0 49 10,fA 1 50 2 9,lD 2 51 50,aB 3 52 74 49 51] [52]) (cD 52 (rT [mC 0 6 (.nils),mC 1 7 (.bool true),mC 2 8 (.i 0)] [6,7,8]))) (rT [mC 0 6 (.nils),mC 1 7 (.bool false),mC 2 8 (.i 113)] [6,7,8])
def c57_2:AC :=
 sQ (rG [mV 0 36 10,nC 1 37 36,fA 2 38 14 37,lD 3 39 38,mV 4 35 39] [2,9,10,35]) (cD 35 (rT [mC 0 6 (.nils),mC 1 7 (.bool false),mC 2 8 (.i 115)] [6,7,8]))
def c57_3:AC :=
 sQ (rG [mV 0 33 2,bC 1 34 .lss 33 (.i 1),mV 2 32 34] [2,9,10,32]) (.cond (.t 32) (rT [mC 0 6 (.nils),mC 1 7 (.bool false),mC 2 8 (.i 2)] [6,7,8]) (c57_2))
def c57_4:AC :=
 sQ (rG [mV 0 23 10,fA 1 24 2 9,lD 2 25 24,nC 3 26 23,fA 4 27 0 26,iA 5 28 2 7 27 25,fA 6 29 2 28,lD 7 30 29,qQ 8 31 (.eq .ptr false (.t 30) (.c (.ptr none))),mV 9 22 31] [2,9,10,22]) (.cond (.t 22) (rT [mC 0 6 (.nils),mC 1 7 (.bool false),mC 2 8 (.i 111)] [6,7,8]) (c57_3))
def c57_5:AC :=
 sQ (rG [mV 0 19 8,bC 1 20 .neq 19 (.i 0),mV 2 18 20] [2,8,9,10,18]) (.cond (.t 18) (rT [mV 0 21 8,mC 1 6 (.nils),mC 2 7 (.bool false),mV 3 8 21] [6,7,8]) (c57_4))
def c57_6:AC :=
 sQ (sQ (rG [mV 0 40 10,fA 1 41 2 9,lD 2 42 41,mV 3 43 2,aC 4 44 94 40 42 43,mV 5 6 44] [6,9,10]) (c57_0)) (c57_1)
def c57_7:AC :=
 sQ (rG [mV 0 12 0,mV 1 13 1,aB 2 14 72 12 13,mV 3 11 14,eX 4 15 11 0,eX 5 16 11 1,eX 6 17 11 2,qQ 7 9 (.alloc 3 [.bool false,.i 0,.i 0]),sT 8 3 9 15,mV 9 10 16,mV 10 8 17] [2,8,9,10]) (sQ (.block 0 (c57_5)) (c57_6))
def c57:AFn:=⟨3,53,[.tmp 6,.tmp 7,.tmp 8],(sQ (rG [mC 0 6 (.nils),mC 1 7 (.bool false),mC 2 8 (.i 0)] [0,1,2]) (c57_7))⟩
def c58_0:AC :=
 rT [mV 0 54 0,mV 1 55 9,mV 2 56 10,mV 3 57 2,qQ 4 58 (.call 95 [(.t 54),(.t 55),(.t 56),(.t 57)]),mV 5 6 58,mC 6 7 (.bool false),mC 7 8 (.i 0)] [6,7,8]
def c58_1:AC :=
 sQ (sQ (rG [mV 0 59 0,nC 1 60 59,fA 2 61 0 60,lD 3 62 61,mV 4 63 9,mV 5 64 10,qQ 6 65 (.bin .sub (.c (.i 1)) (.t 64)),iS 7 66 20 62 63,fA 8 67 0 66,iA 9 68 2 8 67 65,fA 10 69 0 68,lD 11 70 69,bC 12 71 .eql 70 (.i 3),mV 13 72 71,gM 14 73 0 72 false,gG 15 74 (.nilck (.t 73)) 72 false,gF 16 75 0 74 72 false,gL 17 76 75 72 false,gM 18 77 9 72 false,gM 19 78 10 72 false,gG 20 79 (.bin .sub (.c (.i 1)) (.t 78)) 72 false,gG 21 80 (.ixaS 20 (.t 76) (.t 77)) 72 false,gF 22 81 0 80 72 false,gG 23 82 (.ixaA 2 8 (.t 81) (.t 79)) 72 false,gF 24 83 5 82 72 false,gL 25 84 83 72 false,pC 26 85 72 (.bool true) 84] [85]) (cD 85 (rT [mC 0 6 (.nils),mC 1 7 (.bool true),mC 2 8 (.i 0)] [6,7,8]))) (rT [mC 0 6 (.nils),mC 1 7 (.bool false),mC 2 8 (.i 113)] [6,7,8])
def c58_2:AC :=
 sQ (sQ (rG [mV 0 41 0,nC 1 42 41,fA 2 43 0 42,lD 3 44 43,mV 4 45 9,mV 5 46 10,iS 6 47 20 44 45,fA 7 48 0 47,iA 8 49 2 8 48 46,fA 9 50 4 49,lD 10 51 50,lL 11 52 51,bC 12 53 .gtr 52 (.i 0)] [0,2,9,10,53]) (cD 53 (c58_0))) (c58_1)
def c58_3:AC :=
 sQ (sQ (rG [mV 0 33 0,nC 1 34 33,fA 2 35 0 34,lD 3 36 35,mV 4 37 9,iS 5 38 20 36 37,fA 6 39 17 38,lD 7 40 39] [0,2,9,10,40]) (cD 40 (rT [mC 0 6 (.nils),mC 1 7 (.bool false),mC 2 8 (.i 115)] [6,7,8]))) (c58_2)
def c58_4:AC :=
 sQ (sQ (rG [mV 0 31 2,bC 1 32 .lss 31 (.i 1)] [0,2,9,10,32]) (cD 32 (rT [mC 0 6 (.nils),mC 1 7 (.bool false),mC 2 8 (.i 2)] [6,7,8]))) (c58_3)
def c58_5:AC :=
 sQ (sQ (rG [mV 0 19 0,nC 1 20 19,fA 2 21 0 20,lD 3 22 21,mV 4 23 9,mV 5 24 10,iS 6 25 20 22 23,fA 7 26 0 25,iA 8 27 2 8 26 24,fA 9 28 2 27,lD 10 29 28,qQ 11 30 (.un .not (.t 29))] [0,2,9,10,30]) (cD 30 (rT [mC 0 6 (.nils),mC 1 7 (.bool false),mC 2 8 (.i 111)] [6,7,8]))) (c58_4)
def c58_6:AC :=
 sQ (sQ (rG [mV 0 17 9,bC 1 18 .lss 17 (.i 0)] [0,2,9,10,18]) (cD 18 (rT [mC 0 6 (.nils),mC 1 7 (.bool false),mC 2 8 (.i 110)] [6,7,8]))) (c58_5)
def c58_7:AC :=
 sQ (rG [mV 0 12 0,mV 1 13 1,aB 2 14 66 12 13,mV 3 11 14,eX 4 15 11 0,eX 5 16 11 1,mV 6 9 15,mV 7 10 16] [0,2,9,10]) (c58_6)
def c58:AFn:=⟨3,86,[.tmp 6,.tmp 7,.tmp 8],(sQ (rG [mC 0 6 (.nils),mC 1 7 (.bool false),mC 2 8 (.i 0)] [0,1,2]) (c58_7))⟩
def c59_0:AC :=
 sQ (sQ (rG [mV 0 68 11,bC 1 69 .eql 68 (.i 0)] [11,69]) (cD 69 (rT [mC 0 6 (.i 0),mC 1 7 (.i 113)] [6,7]))) (rT [mV 0 70 11,mV 1 6 70,mC 2 7 (.i 0)] [6,7])
def c59_1:AC :=
 sQ (rG [mV 0 60 2,lL 1 61 60,bC 2 62 .eql 61 (.i 0),mV 3 59 62] [2,8,9,59]) (cD 59 (rT [mC 0 6 (.i 0),mC 1 7 (.i 0)] [6,7]))
def c59_2:AC :=
 sQ (rG [mV 0 39 9,fA 1 40 2 8,lD 2 41 40,nC 3 42 39,fA 4 43 0 42,iA 5 44 2 7 43 41,fA 6 45 4 44,lD 7 46 45,mV 8 47 46,gM 9 48 9 47 false,gF 10 49 2 8 47 false,gL 11 50 49 47 false,gG 12 51 (.bin .sub (.c (.i 1)) (.t 50)) 47 false,gG 13 52 (.nilck (.t 48)) 47 false,gF 14 53 0 52 47 false,gG 15 54 (.ixaA 2 7 (.t 53) (.t 51)) 47 false,gF 16 55 0 54 47 false,gL 17 56 55 47 false,gG 18 57 (.bin .eql (.t 56) (.c (.i 3))) 47 false,pC 19 58 47 (.bool true) 57,mV 20 38 58] [2,8,9,38]) (.cond (.t 38) (rT [mC 0 6 (.i 0),mC 1 7 (.i 114)] [6,7]) (c59_1))
def c59_3:AC :=
 sQ (rG [mV 0 34 9,nC 1 35 34,fA 2 36 14 35,lD 3 37 36,mV 4 33 37] [2,8,9,33]) (.cond (.t 33) (rT [mC 0 6 (.i 0),mC 1 7 (.i 115)] [6,7]) (c59_2))
def c59_4:AC :=
 sQ (rG [mV 0 24 9,fA 1 25 2 8,lD 2 26 25,nC 3 27 24,fA 4 28 0 27,iA 5 29 2 7 28 26,fA 6 30 3 29,lD 7 31 30,qQ 8 32 (.un .not (.t 31)),mV 9 23 32] [2,8,9,23]) (.cond (.t 23) (rT [mC 0 6 (.i 0),mC 1 7 (.i 111)] [6,7]) (c59_3))
def c59_5:AC :=
 sQ (rG [mV 0 20 10,bC 1 21 .neq 20 (.i 0),mV 2 19 21] [2,8,9,10,19]) (.cond (.t 19) (rT [mV 0 22 10,mC 1 6 (.i 0),mV 2 7 22] [6,7]) (c59_4))
def c59_6:AC :=
 sQ (rG [mV 0 63 9,fA 1 64 2 8,lD 2 65 64,mV 3 66 2,aC 4 67 96 63 65 66,mV 5 11 67] [11]) (c59_0)
def c59_7:AC :=
 sQ (rG [mV 0 13 0,mV 1 14 1,aB 2 15 72 13 14,mV 3 12 15,eX 4 16 12 0,eX 5 17 12 1,eX 6 18 12 2,qQ 7 8 (.alloc 3 [.bool false,.i 0,.i 0]),sT 8 3 8 16,mV 9 9 17,mV 10 10 18] [2,8,9,10]) (sQ (.block 0 (c59_5)) (c59_6))
def c59:AFn:=⟨3,71,[.tmp 6,.tmp 7],(sQ (rG [mC 0 6 (.i 0),mC 1 7 (.i 0)] [0,1,2]) (c59_7))⟩
def c60_0:AC :=
 sQ (sQ (rG [mV 0 73 10,bC 1 74 .eql 73 (.i 0)] [10,74]) (cD 74 (rT [mC 0 6 (.i 0),mC 1 7 (.i 113)] [6,7]))) (rT [mV 0 75 10,mV 1 6 75,mC 2 7 (.i 0)] [6,7])
def c60_1:AC :=
 sQ (rG [mV 0 68 0,mV 1 69 8,mV 2 70 9,mV 3 71 2,qQ 4 72 (.call 97 [(.t 68),(.t 69),(.t 70),(.t 71)]),mV 5 10 72] [10]) (c60_0)
def c60_2:AC :=
 sQ (sQ (rG [mV 0 65 2,lL 1 66 65,bC 2 67 .eql 66 (.i 0)] [0,2,8,9,67]) (cD 67 (rT [mC 0 6 (.i 0),mC 1 7 (.i 0)] [6,7]))) (c60_1)
def c60_3:AC :=
 sQ (sQ (rG [mV 0 39 0,nC 1 40 39,fA 2 41 0 40,lD 3 42 41,mV 4 43 8,mV 5 44 9,iS 6 45 20 42 43,fA 7 46 0 45,iA 8 47 2 8 46 44,fA 9 48 5 47,lD 10 49 48,mV 11 50 49,gM 12 51 0 50 false,gG 13 52 (.nilck (.t 51)) 50 false,gF 14 53 0 52 50 false,gL 15 54 53 50 false,gM 16 55 8 50 false,gM 17 56 9 50 false,gG 18 57 (.bin .sub (.c (.i 1)) (.t 56)) 50 false,gG 19 58 (.ixaS 20 (.t 54) (.t 55)) 50 false,gF 20 59 0 58 50 false,gG 21 60 (.ixaA 2 8 (.t 59) (.t 57)) 50 false,gF 22 61 0 60 50 false,gL 23 62 61 50 false,gG 24 63 (.bin .eql (.t 62) (.c (.i 3))) 50 false,pC 25 64 50 (.bool true) 63] [0,2,8,9,64]) (cD 64 (rT [mC 0 6 (.i 0),mC 1 7 (.i 114)] [6,7]))) (c60_2)
def c60_4:AC :=
 sQ (sQ (rG [mV 0 31 0,nC 1 32 31,fA 2 33 0 32,lD 3 34 33,mV 4 35 8,iS 5 36 20 34 35,fA 6 37 17 36,lD 7 38 37] [0,2,8,9,38]) (cD 38 (rT [mC 0 6 (.i 0),mC 1 7 (.i 115)] [6,7]))) (c60_3)
def c60_5:AC :=
 sQ (sQ (rG [mV 0 19 0,nC 1 20 19,fA 2 21 0 20,lD 3 22 21,mV 4 23 8,mV 5 24 9,iS 6 25 20 22 23,fA 7 26 0 25,iA 8 27 2 8 26 24,fA 9 28 3 27,lD 10 29 28,qQ 11 30 (.un .not (.t 29))] [0,2,8,9,30]) (cD 30 (rT [mC 0 6 (.i 0),mC 1 7 (.i 111)] [6,7]))) (c60_4)
def c60_6:AC :=
 sQ (rG [mV 0 12 0,mV 1 13 1,aB 2 14 66 12 13,mV 3 11 14,eX 4 15 11 0,eX 5 16 11 1,mV 6 8 15,mV 7 9 16] [0,2,8,9]) (sQ (sQ (rG [mV 0 17 8,bC 1 18 .lss 17 (.i 0)] [0,2,8,9,18]) (cD 18 (rT [mC 0 6 (.i 0),mC 1 7 (.i 110)] [6,7]))) (c60_5))
def c60:AFn:=⟨3,76,[.tmp 6,.tmp 7],(sQ (rG [mC 0 6 (.i 0),mC 1 7 (.i 0)] [0,1,2]) (c60_6))⟩
def c61_0:AC :=
 sQ (rG [mV 0 20 6,fA 1 21 2 5,lD 2 22 21,nC 3 23 20,fA 4 24 0 23,iA 5 25 2 7 24 22,fA 6 26 2 25,lD 7 27 26,qQ 8 28 (.eq .ptr false (.t 27) (.c (.ptr none))),mV 9 29 28,gM 10 30 6 29 false,gF 11 31 2 5 29 false,gL 12 32 31 29 false,gG 13 33 (.nilck (.t 30)) 29 false,gF 14 34 0 33 29 false,gG 15 35 (.ixaA 2 7 (.t 34) (.t 32)) 29 false,gF 16 36 3 35 29 false,gL 17 37 36 29 false,gG 18 38 (.un .not (.t 37)) 29 false,pC 19 39 29 (.bool true) 38,mV 20 19 39] [5,6,19]) (cD 19 (rT [mC 0 4 (.i 111)] [4]))
def c61_1:AC :=
 sQ (.block 0 (sQ (rG [mV 0 16 7,bC 1 17 .neq 16 (.i 0),mV 2 15 17] [5,6,7,15]) (.cond (.t 15) (rT [mV 0 18 7,mV 1 4 18] [4]) (c61_0)))) (sQ (rG [mV 0 40 6,fA 1 41 2 5,lD 2 42 41,aB 3 43 98 40 42] []) (rT [mC 0 4 (.i 0)] [4]))
def c61_2:AC :=
 sQ (rG [mV 0 9 0,mV 1 10 1,aB 2 11 72 9 10,mV 3 8 11,eX 4 12 8 0,eX 5 13 8 1,eX 6 14 8 2,qQ 7 5 (.alloc 3 [.bool false,.i 0,.i 0]),sT 8 3 5 12,mV 9 6 13,mV 10 7 14] [5,6,7]) (c61_1)
def c61:AFn:=⟨2,44,[.tmp 4],(sQ (rG [mC 0 4 (.i 0)] [0,1]) (c61_2))⟩
def c62_0:AC :=
 sQ (sQ (rG [mV 0 15 0,nC 1 16 15,fA 2 17 0 16,lD 3 18 17,mV 4 19 5,mV 5 20 6,iS 6 21 20 18 19,fA 7 22 0 21,iA 8 23 2 8 22 20,fA 9 24 2 23,lD 10 25 24,qQ 11 26 (.un .not (.t 25)),mV 12 27 26,gM 13 28 0 27 false,gG 14 29 (.nilck (.t 28)) 27 false,gF 15 30 0 29 27 false,gL 16 31 30 27 false,gM 17 32 5 27 false,gM 18 33 6 27 false,gG 19 34 (.ixaS 20 (.t 31) (.t 32)) 27 false,gF 20 35 0 34 27 false,gG 21 36 (.ixaA 2 8 (.t 35) (.t 33)) 27 false,gF 22 37 3 36 27 false,gL 23 38 37 27 false,gG 24 39 (.un .not (.t 38)) 27 false,pC 25 40 27 (.bool true) 39] [0,5,6,40]) (cD 40 (rT [mC 0 4 (.i 111)] [4]))) (sQ (rG [mV 0 41 0,mV 1 42 5,mV 2 43 6,aC 3 44 99 41 42 43] []) (rT [mC 0 4 (.i 0)] [4]))
def c62_1:AC :=
 sQ (rG [mV 0 8 0,mV 1 9 1,aB 2 10 66 8 9,mV 3 7 10,eX 4 11 7 0,eX 5 12 7 1,mV 6 5 11,mV 7 6 12] [0,5,6]) (sQ (sQ (rG [mV 0 13 5,bC 1 14 .lss 13 (.i 0)] [0,5,6,14]) (cD 14 (rT [mC 0 4 (.i 110)] [4]))) (c62_0))
def c62:AFn:=⟨2,45,[.tmp 4],(sQ (rG [mC 0 4 (.i 0)] [0,1]) (c62_1))⟩
def c63_0:AC :=
 rG [mV 0 39 0,nC 1 40 39,fA 2 41 288 40,lD 3 42 41,mV 4 43 9,iS 5 44 1 42 43,lD 6 45 44,qQ 7 46 (.call 100 [(.t 45),(.c (.i 0))])] [0,6,33,34,35]
def c63_1:AC :=
 sQ (.block 1 (sQ (rG [iS 0 37 1 33 35,lD 1 38 37,mV 2 9 38] [0,6,9,33,34,35]) (c63_0))) (rG [bC 0 47 .add 35 (.i 1),mV 1 35 47] [0,6,33,34,35])
def c63_2:AC :=
 sQ (sQ (rG [mV 0 30 6,nC 1 31 30,fA 2 32 16 31,lD 3 33 32,lL 4 34 33,mC 5 35 (.i 0)] [0,6,33,34,35]) (.block 0 (.loop [0,6,33,34,35] (sQ (rG [bB 0 36 .lss 35 34] [0,6,33,34,35,36]) (sQ (cX 36 0) (c63_1)))))) (sQ (rG [mV 0 48 6,nC 1 49 48,fA 2 50 16 49,.mk4 3 none (.store 1 (.t 50) (.c (.nils))) none] []) (rT [mC 0 4 (.i 0)] [4]))
def c63_3:AC :=
 sQ (rG [mV 0 20 0,mV 1 21 1,qQ 2 22 (.build [.bool false,.i 0,.i 0] []),nC 3 23 20,fA 4 24 0 23,iA 5 25 96 3 24 21,sT 6 3 25 22] [0,5,6]) (sQ (rG [mV 0 26 6,fA 1 27 2 5,lD 2 28 27,aB 3 29 100 26 28] [0,6]) (c63_2))
def c63_4:AC :=
 sQ (rG [mV 0 11 0,mV 1 12 1,aB 2 13 72 11 12,mV 3 10 13,eX 4 14 10 0,eX 5 15 10 1,eX 6 16 10 2,qQ 7 5 (.alloc 3 [.bool false,.i 0,.i 0]),sT 8 3 5 14,mV 9 6 15,mV 10 7 16] [0,1,5,6,7]) (sQ (sQ (rG [mV 0 17 7,bC 1 18 .neq 17 (.i 0)] [0,1,5,6,7,18]) (cD 18 (rT [mV 0 19 7,mV 1 4 19] [4]))) (c63_3))
def c63:AFn:=⟨2,51,[.tmp 4],(sQ (rG [mC 0 4 (.i 0)] [0,1]) (c63_4))⟩
def c64_0:AC :=
 rG [mV 0 33 0,mV 1 34 0,nC 2 35 34,fA 3 36 0 35,lD 4 37 36,mV 5 38 5,iS 6 39 20 37 38,fA 7 40 19 39,lD 8 41 40,mV 9 42 7,iS 10 43 1 41 42,lD 11 44 43,qQ 12 45 (.call 101 [(.t 33),(.t 44),(.c (.i 0))])] [0,5,7]
def c64_1:AC :=
 sQ (sQ (rG [mV 0 20 7,mV 1 21 0,nC 2 22 21,fA 3 23 0 22,lD 4 24 23,mV 5 25 5,iS 6 26 20 24 25,fA 7 27 19 26,lD 8 28 27,lL 9 29 28,bB 10 30 .lss 20 29] [0,5,7,30]) (cX 30 0)) (sQ (.block 1 (c64_0)) (rG [mV 0 31 7,bC 1 32 .add 31 (.i 1),mV 2 7 32] [0,5,7]))
def c64_2:AC :=
 sQ (rG [mV 0 46 0,nC 1 47 46,fA 2 48 0 47,lD 3 49 48,mV 4 50 5,iS 5 51 20 49 50,fA 6 52 19 51,.mk4 7 none (.store 1 (.t 52) (.c (.nils))) none] []) (rT [mC 0 4 (.i 0)] [4])
def c64_3:AC :=
 sQ (rG [mV 0 16 0,mV 1 17 5,mV 2 18 6,aC 3 19 101 16 17 18] [0,5]) (sQ (sQ (rG [mC 0 7 (.i 0)] [0,5,7]) (.block 0 (.loop [0,5,7] (c64_1)))) (c64_2))
def c64_4:AC :=
 sQ (rG [mV 0 9 0,mV 1 10 1,aB 2 11 66 9 10,mV 3 8 11,eX 4 12 8 0,eX 5 13 8 1,mV 6 5 12,mV 7 6 13] [0,5,6]) (sQ (sQ (rG [mV 0 14 5,bC 1 15 .lss 14 (.i 0)] [0,5,6,15]) (cD 15 (rT [mC 0 4 (.i 110)] [4]))) (c64_3))
def c64:AFn:=⟨2,53,[.tmp 4],(sQ (rG [mC 0 4 (.i 0)] [0,1]) (c64_4))⟩
def c65_0:AC :=
 rT [mV 0 59 7,mV 1 60 9,bB 2 61 .eql 59 60,mV 3 62 61,gM 4 63 8 62 true,gM 5 64 10 62 true,gG 6 65 (.bin .eql (.t 63) (.t 64)) 62 true,pT 7 66 62 65 (.bool false),mV 8 6 66] [6]
def c65_1:AC :=
 sQ (rG [mV 0 48 0,nC 1 49 48,fA 2 50 1 49,lD 3 51 50,fA 4 52 1 4,lD 5 53 52,fA 6 54 4 4,lD 7 55 54,aC 8 56 103 51 53 55,mV 9 47 56,eX 10 57 47 0,eX 11 58 47 1,mV 12 9 57,mV 13 10 58] [7,8,9,10]) (c65_0)
def c65_2:AC :=
 rT [mV 0 93 11,qQ 1 94 (.ofBytes (.t 93)),mV 2 95 13,qQ 3 96 (.ofBytes (.t 95)),bB 4 97 .eql 94 96,mV 5 98 97,gM 6 99 12 98 true,gM 7 100 14 98 true,gG 8 101 (.bin .eql (.t 99) (.t 100)) 98 true,pT 9 102 98 101 (.bool false),mV 10 6 102] [6]
def c65_3:AC :=
 sQ (rG [mV 0 82 0,nC 1 83 82,fA 2 84 1 83,lD 3 85 84,fA 4 86 1 4,lD 5 87 86,fA 6 88 2 4,lD 7 89 88,aC 8 90 105 85 87 89,mV 9 81 90,eX 10 91 81 0,eX 11 92 81 1,mV 12 13 91,mV 13 14 92] [11,12,13,14]) (c65_2)
def c65_4:AC :=
 rT [mV 0 112 15,mV 1 113 0,nC 2 114 113,fA 3 115 1 114,lD 4 116 115,fA 5 117 1 4,lD 6 118 117,aB 7 119 107 116 118,bB 8 120 .eql 112 119,mV 9 6 120] [6]
def c65_5:AC :=
 rT [mV 0 130 16,mV 1 131 0,nC 2 132 131,fA 3 133 1 132,lD 4 134 133,fA 5 135 1 4,lD 6 136 135,aB 7 137 109 134 136,bB 8 138 .eql 130 137,mV 9 6 138] [6]
def c65_6:AC :=
 rT [mV 0 148 17,mV 1 149 0,nC 2 150 149,fA 3 151 1 150,lD 4 152 151,fA 5 153 1 4,lD 6 154 153,aB 7 155 111 152 154,bB 8 156 .eql 148 155,mV 9 6 156] [6]
def c65_7:AC :=
 rT [mV 0 183 18,mV 1 184 20,bB 2 185 .eql 183 184,mV 3 186 185,gM 4 187 19 186 true,gM 5 188 21 186 true,gG 6 189 (.bin .eql (.t 187) (.t 188)) 186 true,pT 7 190 186 189 (.bool false),mV 8 6 190] [6]
def c65_8:AC :=
 sQ (rG [mV 0 172 0,nC 1 173 172,fA 2 174 1 173,lD 3 175 174,fA 4 176 1 4,lD 5 177 176,fA 6 178 2 4,lD 7 179 178,aC 8 180 113 175 177 179,mV 9 171 180,eX 10 181 171 0,eX 11 182 171 1,mV 12 20 181,mV 13 21 182] [18,19,20,21]) (c65_7)
def c65_9:AC :=
 rG [mV 0 200 0,nC 1 201 200,fA 2 202 1 201,lD 3 203 202,fA 4 204 3 4,lD 5 205 204,aB 6 206 115 203 205] []
def c65_10:AC :=
 rT [mV 0 219 22,mV 1 220 0,nC 2 221 220,fA 3 222 1 221,lD 4 223 222,fA 5 224 1 4,lD 6 225 224,fA 7 226 2 4,lD 8 227 226,bC 9 228 .gtr 227 (.i 0),aC 10 229 117 223 225 228,bB 11 230 .eql 219 229,mV 12 6 230] [6]
def c65_11:AC :=
 rT [mV 0 240 23,mV 1 241 0,nC 2 242 241,fA 3 243 1 242,lD 4 244 243,fA 5 245 1 4,lD 6 246 245,aB 7 247 119 244 246,bB 8 248 .eql 240 247,mV 9 6 248] [6]
def c65_12:AC :=
 sQ (rG [mV 0 271 24,mV 1 272 26,iS 2 273 2 271 272,lN 3 274 2 273,mV 4 275 25,mV 5 276 26,iS 6 277 2 275 276,lN 7 278 2 277,qQ 8 279 (.eq (.agg [.int .i64,.int .i64]) true (.t 274) (.t 278))] [24,25,267,268,279]) (cD 279 (rT [mC 0 6 (.bool false)] [6]))
def c65_13:AC :=
 sQ (cX 269 1) (sQ (.block 2 (sQ (rG [mV 0 270 268,mV 1 26 270] [24,25,26,267,268]) (c65_12))) (rG [bC 0 280 .add 268 (.i 1),mV 1 268 280] [24,25,267,268]))
def c65_14:AC :=
 sQ (rG [mV 0 266 24,lL 1 267 266,mC 2 268 (.i 0)] [24,25,267,268]) (.block 1 (.loop [24,25,267,268] (sQ (rG [bB 0 269 .lss 268 267] [24,25,267,268,269]) (c65_13))))
def c65_15:AC :=
 sQ (sQ (rG [mV 0 261 24,lL 1 262 261,mV 2 263 25,lL 3 264 263,bB 4 265 .neq 262 264] [24,25,265]) (cD 265 (rT [mC 0 6 (.bool false)] [6]))) (c65_14)
def c65_16:AC :=
 sQ (rG [mV 0 256 0,nC 1 257 256,fA 2 258 1 257,lD 3 259 258,aA 4 260 121 259,mV 5 25 260] [24,25]) (c65_15)
def c65_17:AC :=
 rT [mV 0 292 27,mV 1 293 0,nC 2 294 293,fA 3 295 1 294,lD 4 296 295,fA 5 297 1 4,lD 6 298 297,fA 7 299 2 4,lD 8 300 299,aC 9 301 123 296 298 300,bB 10 302 .eql 292 301,mV 11 6 302] [6]
def c65_18:AC :=
 rT [mV 0 325 28,mV 1 326 30,bB 2 327 .eql 325 326,mV 3 328 327,gM 4 329 29 328 true,gM 5 330 31 328 true,gG 6 331 (.bin .eql (.t 329) (.t 330)) 328 true,pT 7 332 328 331 (.bool false),mV 8 6 332] [6]
def c65_19:AC :=
 sQ (rG [mV 0 316 0,nC 1 317 316,fA 2 318 1 317,lD 3 319 318,fA 4 320 1 4,lD 5 321 320,aB 6 322 125 319 321,mV 7 315 322,eX 8 323 315 0,eX 9 324 315 1,mV 10 30 323,mV 11 31 324] [28,29,30,31]) (c65_18)
def c65_20:AC :=
 sQ (rG [mV 0 306 0,nC 1 307 306,fA 2 308 0 307,lD 3 309 308,fA 4 310 1 4,lD 5 311 310,aB 6 312 124 309 311,mV 7 305 312,eX 8 313 305 0,eX 9 314 305 1,mV 10 28 313,mV 11 29 314] [0,4,28,29]) (c65_19)
def c65_21:AC :=
 sQ (rG [mV 0 283 0,nC 1 284 283,fA 2 285 0 284,lD 3 286 285,fA 4 287 1 4,lD 5 288 287,fA 6 289 2 4,lD 7 290 289,aC 8 291 122 286 288 290,mV 9 27 291] [0,4,27]) (c65_17)
def c65_22:AC :=
 sQ (rG [mV 0 251 0,nC 1 252 251,fA 2 253 0 252,lD 3 254 253,aA 4 255 120 254,mV 5 24 255] [0,24]) (c65_16)
def c65_23:AC :=
 sQ (rG [bC 0 282 .eql 33 (.i 19),mV 1 281 282] [0,4,33,281]) (.cond (.t 281) (c65_21) (sQ (rG [bC 0 304 .eql 33 (.i 20),mV 1 303 304] [0,4,303]) (cD 303 (c65_20))))
def c65_24:AC :=
 sQ (rG [mV 0 233 0,nC 1 234 233,fA 2 235 0 234,lD 3 236 235,fA 4 237 1 4,lD 5 238 237,aB 6 239 118 236 238,mV 7 23 239] [0,4,23]) (c65_11)
def c65_25:AC :=
 sQ (rG [mV 0 209 0,nC 1 210 209,fA 2 211 0 210,lD 3 212 211,fA 4 213 1 4,lD 5 214 213,fA 6 215 2 4,lD 7 216 215,bC 8 217 .gtr 216 (.i 0),aC 9 218 116 212 214 217,mV 10 22 218] [0,4,22]) (c65_10)
def c65_26:AC :=
 sQ (rG [bC 0 232 .eql 33 (.i 17),mV 1 231 232] [0,4,33,231]) (.cond (.t 231) (c65_24) (sQ (rG [bC 0 250 .eql 33 (.i 18),mV 1 249 250] [0,4,33,249]) (.cond (.t 249) (c65_22) (c65_23))))
def c65_27:AC :=
 sQ (rG [mV 0 193 0,nC 1 194 193,fA 2 195 0 194,lD 3 196 195,fA 4 197 3 4,lD 5 198 197,aB 6 199 114 196 198] [0,4]) (c65_9)
def c65_28:AC :=
 sQ (rG [mV 0 160 0,nC 1 161 160,fA 2 162 0 161,lD 3 163 162,fA 4 164 1 4,lD 5 165 164,fA 6 166 2 4,lD 7 167 166,aC 8 168 112 163 165 167,mV 9 159 168,eX 10 169 159 0,eX 11 170 159 1,mV 12 18 169,mV 13 19 170] [0,4,18,19]) (c65_8)
def c65_29:AC :=
 sQ (rG [bC 0 192 .eql 33 (.i 15),mV 1 191 192] [0,4,33,191]) (.cond (.t 191) (c65_27) (sQ (rG [bC 0 208 .eql 33 (.i 16),mV 1 207 208] [0,4,33,207]) (.cond (.t 207) (c65_25) (c65_26))))
def c65_30:AC :=
 sQ (rG [mV 0 141 0,nC 1 142 141,fA 2 143 0 142,lD 3 144 143,fA 4 145 1 4,lD 5 146 145,aB 6 147 110 144 146,mV 7 17 147] [0,4,17]) (c65_6)
def c65_31:AC :=
 sQ (rG [mV 0 123 0,nC 1 124 123,fA 2 125 0 124,lD 3 126 125,fA 4 127 1 4,lD 5 128 127,aB 6 129 108 126 128,mV 7 16 129] [0,4,16]) (c65_5)
def c65_32:AC :=
 sQ (rG [bC 0 140 .eql 33 (.i 13),mV 1 139 140] [0,4,33,139]) (.cond (.t 139) (c65_30) (sQ (rG [bC 0 158 .eql 33 (.i 14),mV 1 157 158] [0,4,33,157]) (.cond (.t 157) (c65_28) (c65_29))))
def c65_33:AC :=
 sQ (rG [mV 0 105 0,nC 1 106 105,fA 2 107 0 106,lD 3 108 107,fA 4 109 1 4,lD 5 110 109,aB 6 111 106 108 110,mV 7 15 111] [0,4,15]) (c65_4)
def c65_34:AC :=
 sQ (rG [mV 0 70 0,nC 1 71 70,fA 2 72 0 71,lD 3 73 72,fA 4 74 1 4,lD 5 75 74,fA 6 76 2 4,lD 7 77 76,aC 8 78 104 73 75 77,mV 9 69 78,eX 10 79 69 0,eX 11 80 69 1,mV 12 11 79,mV 13 12 80] [0,4,11,12]) (c65_3)
def c65_35:AC :=
 sQ (rG [bC 0 104 .eql 33 (.i 11),mV 1 103 104] [0,4,33,103]) (.cond (.t 103) (c65_33) (sQ (rG [bC 0 122 .eql 33 (.i 12),mV 1 121 122] [0,4,33,121]) (.cond (.t 121) (c65_31) (c65_32))))
def c65_36:AC :=
 sQ (rG [mV 0 37 0,nC 1 38 37,fA 2 39 0 38,lD 3 40 39,fA 4 41 1 4,lD 5 42 41,mV 6 43 2,aC 7 44 102 40 42 43,mV 8 36 44,eX 9 45 36 0,eX 10 46 36 1,mV 11 7 45,mV 12 8 46] [0,4,7,8]) (c65_1)
def c65_37:AC :=
 sQ (rG [bC 0 35 .eql 33 (.i 9),mV 1 34 35] [0,2,4,33,34]) (.cond (.t 34) (c65_36) (sQ (rG [bC 0 68 .eql 33 (.i 10),mV 1 67 68] [0,4,33,67]) (.cond (.t 67) (c65_34) (c65_35))))
def c65_38:AC :=
 sQ (rG [qQ 0 4 (.box 5 (.t 1)),mC 1 6 (.bool false)] [0,2,4]) (sQ (sQ (rG [fA 0 32 0 4,lD 1 33 32] [0,2,4,33]) (.block 0 (c65_37))) (rT [mC 0 6 (.bool true)] [6]))
def c65:AFn:=⟨3,333,[.tmp 6],(c65_38)⟩
def c66_0:AC :=
 sQ (rG [mV 0 21 0,nC 1 22 21,fA 2 23 0 22,lD 3 24 23,mV 4 25 6,mV 5 26 7,iS 6 27 20 24 25,fA 7 28 0 27,iA 8 29 2 8 28 26,fA 9 30 0 29,lD 10 31 30,bC 11 32 .eql 31 (.i 1),mV 12 33 32,gM 13 34 0 33 true,gG 14 35 (.nilck (.t 34)) 33 true,gF 15 36 0 35 33 true,gL 16 37 36 33 true,gM 17 38 6 33 true,gM 18 39 7 33 true,gG 19 40 (.ixaS 20 (.t 37) (.t 38)) 33 true,gF 20 41 0 40 33 true,gG 21 42 (.ixaA 2 8 (.t 41) (.t 39)) 33 true,gF 22 43 1 42 33 true,gL 23 44 43 33 true,gM 24 45 1 33 true,gG 25 46 (.bin .eql (.t 44) (.t 45)) 33 true,pT 26 47 33 46 (.bool false)] [0,1,6,7,47]) (cD 47 (rT [mV 0 48 6,mV 1 49 7,mV 2 4 48,mV 3 5 49] [4,5]))
def c66_1:AC :=
 sQ (sQ (rG [mV 0 17 7,bC 1 18 .lss 17 (.i 2)] [0,1,6,7,18]) (cX 18 2)) (sQ (.block 3 (c66_0)) (rG [mV 0 19 7,bC 1 20 .add 19 (.i 1),mV 2 7 20] [0,1,6,7]))
def c66_2:AC :=
 sQ (sQ (rG [mV 0 8 6,mV 1 9 0,nC 2 10 9,fA 3 11 0 10,lD 4 12 11,lL 5 13 12,bB 6 14 .lss 8 13] [0,1,6,14]) (cX 14 0)) (sQ (.block 1 (sQ (rG [mC 0 7 (.i 0)] [0,1,6,7]) (.block 2 (.loop [0,1,6,7] (c66_1))))) (rG [mV 0 15 6,bC 1 16 .add 15 (.i 1),mV 2 6 16] [0,1,6]))
def c66_3:AC :=
 sQ (rG [mC 0 4 (.i 0),mC 1 5 (.i 0)] [0,1]) (sQ (sQ (rG [mC 0 6 (.i 0)] [0,1,6]) (.block 0 (.loop [0,1,6] (c66_2)))) (rT [mC 0 4 (.i (-1)),mC 1 5 (.i (-1))] [4,5]))
def c66:AFn:=⟨2,50,[.tmp 4,.tmp 5],(c66_3)⟩
def c67_0:AC :=
 sQ (rG [mV 0 12 0,lD 1 13 2,lN 2 14 2 5,aB 3 15 68 13 14,qQ 4 16 (.callv (.t 12) [(.t 15)]),qQ 5 17 (.un .not (.t 16))] [0,2,6,7,8,17]) (cD 17 (.ret))
def c67_1:AC :=
 sQ (.block 1 (sQ (rG [iS 0 10 2 6 8,lN 1 11 2 10,qQ 2 5 (.alloc 2 [.i 0,.i 0]),sT 3 2 5 11] [0,2,5,6,7,8]) (c67_0))) (rG [bC 0 18 .add 8 (.i 1),mV 1 8 18] [0,2,6,7,8])
def c67_2:AC :=
 sQ (rG [lD 0 6 1,lL 1 7 6,mC 2 8 (.i 0)] [0,2,6,7,8]) (.block 0 (.loop [0,2,6,7,8] (sQ (rG [bB 0 9 .lss 8 7] [0,2,6,7,8,9]) (sQ (cX 9 0) (c67_1)))))
def c67:AFn:=⟨3,19,[],(c67_2)⟩
def c68_0:AC :=
 cD 32 (rG [mV 0 33 6,fA 1 34 1 3,lD 2 35 34,qQ 3 36 (.bin .and (.c (.i 4)) (.t 35)),bB 4 37 .or 33 36,mV 5 6 37] [5,6])
def c68_1:AC :=
 cD 25 (rG [mV 0 26 6,fA 1 27 1 3,lD 2 28 27,qQ 3 29 (.bin .and (.c (.i 1)) (.t 28)),bB 4 30 .or 26 29,mV 5 6 30] [3,5,6])
def c68_2:AC :=
 sQ (sQ (rG [fA 0 31 2 5,lD 1 32 31] [3,5,6,32]) (c68_0)) (sQ (rG [fA 0 38 4 5,lD 1 39 38] [6,39]) (cD 39 (rG [mV 0 40 6,bC 1 41 .or 40 (.i 8),mV 2 6 41] [6])))
def c68_3:AC :=
 sQ (sQ (rG [fA 0 16 0 5,lD 1 17 16,qQ 2 18 (.un .not (.t 17)),mV 3 15 18] [3,5,6,15]) (cD 15 (.exit 2))) (sQ (rG [fA 0 20 3 5,lD 1 21 20,mV 2 19 21] [3,5,6,19]) (cD 19 (.exit 3)))
def c68_4:AC :=
 sQ (.block 1 (sQ (sQ (sQ (rG [fA 0 12 0 3,lD 1 13 12,bC 2 14 .lss 13 (.i 0),mV 3 11 14] [3,5,6,11]) (cD 11 (.exit 1))) (c68_3)) (.exit 4))) (sQ (rT [mC 0 4 (.i 0)] [4]) (.exit 0))
def c68_5:AC :=
 sQ (.block 4 (sQ (.block 3 (sQ (.block 2 (c68_4)) (sQ (rT [mC 0 4 (.i 32)] [4]) (.exit 0)))) (rG [mV 0 22 6,bC 1 23 .or 22 (.i 16),mV 2 6 23] [3,5,6]))) (sQ (sQ (sQ (rG [fA 0 24 1 5,lD 1 25 24] [3,5,6,25]) (c68_1)) (c68_2)) (.exit 0))
def c68_6:AC :=
 sQ (rG [mV 0 7 0,fA 1 8 0 3,lD 2 9 8,aB 3 10 33 7 9,qQ 4 5 (.alloc 7 [.bool false,.bool false,.bool false,.bool false,.bool false,.int .u64 0,.int .u64 0]),sT 5 7 5 10] [3,5]) (sQ (rG [mC 0 6 (.i 0)] [3,5,6]) (sQ (.block 0 (c68_5)) (rT [mV 0 42 6,mV 1 4 42] [4])))
def c68:AFn:=⟨2,43,[.tmp 4],(sQ (rG [qQ 0 3 (.box 2 (.t 1)),mC 1 4 (.i 0)] [0,3]) (c68_6))⟩
def c69_0:AC :=
 rT [mV 0 3 0,qQ 1 4 (.eq .ptr false (.t 3) (.c (.ptr none))),mV 2 5 4,gM 3 6 0 5 false,gG 4 7 (.nilck (.t 6)) 5 false,gF 5 8 289 7 5 false,gL 6 9 8 5 false,gG 7 10 (.eq .ptr false (.t 9) (.c (.ptr none))) 5 false,pC 8 11 5 (.bool true) 10,mV 9 2 11] [2]
def c69:AFn:=⟨1,12,[.tmp 2],(sQ (rG [mC 0 2 (.bool false)] [0]) (c69_0))⟩
def c70_0:AC :=
 .rangeFunc (.t 6) [7] [3] (rG [qQ 0 4 (.alloc 2 [.i 0,.i 0]),sT 1 2 4 7] [3,4]) (.block 1 (rG [lD 0 8 3,fA 1 9 1 4,lD 2 10 9,bB 3 11 .add 8 10,sT 4 1 3 11] []))
def c70_1:AC :=
 sQ (rG [qQ 0 3 (.alloc 1 [.i 0]),.mk4 1 none (.store 1 (.t 3) (.c (.i 0))) none] [0,3]) (sQ (sQ (rG [mV 0 5 0,aA 1 6 126 5] [3,6]) (.block 0 (c70_0))) (rT [lD 0 12 3,mV 1 2 12] [2]))
def c70:AFn:=⟨1,13,[.tmp 2],(sQ (rG [mC 0 2 (.i 0)] [0]) (c70_1))⟩
def c71_0:AC :=
 rT [mV 0 9 0,mV 1 10 1,nC 2 11 9,fA 3 12 32 11,iA 4 13 32 1 12 10,lD 5 14 13,mV 6 4 14] [4]
def c71_1:AC :=
 sQ (sQ (rG [mV 0 5 0,mV 1 6 1,aB 2 7 127 5 6,bC 3 8 .neq 7 (.i 0)] [0,1,8]) (cD 8 (rT [mC 0 4 (.i 0)] [4]))) (c71_0)
def c71:AFn:=⟨2,15,[.tmp 4],(sQ (rG [mC 0 4 (.i 0)] [0,1]) (c71_1))⟩
def c72_0:AC :=
 sQ (rG [mV 0 12 1,bC 1 13 .lss 12 (.i 0),mV 2 14 13,gM 3 15 1 14 false,gG 4 16 (.bin .gtr (.t 15) (.c (.i 95))) 14 false,pC 5 17 14 (.bool true) 16,mV 6 18 17,gM 7 19 0 18 false,gM 8 20 1 18 false,gG 9 21 (.nilck (.t 19)) 18 false,gF 10 22 0 21 18 false,gG 11 23 (.ixaA 96 3 (.t 22) (.t 20)) 18 false,gF 12 24 0 23 18 false,gL 13 25 24 18 false,gG 14 26 (.un .not (.t 25)) 18 false,pC 15 27 18 (.bool true) 26,mV 16 11 27] [0,1,4,11]) (cD 11 (rT [qQ 0 28 (.build [.bool false,.i 0,.i 0] []),sT 1 3 4 28,mC 2 5 (.ptr none),mC 3 6 (.i 110)] [4,5,6]))
def c72_1:AC :=
 sQ (rG [mV 0 8 0,aA 1 9 69 8,mV 2 7 9] [0,1,4,7]) (.cond (.t 7) (rT [qQ 0 10 (.build [.bool false,.i 0,.i 0] []),sT 1 3 4 10,mC 2 5 (.ptr none),mC 3 6 (.i 1)] [4,5,6]) (c72_0))
def c72_2:AC :=
 rT [mV 0 29 0,mV 1 30 1,nC 2 31 29,fA 3 32 0 31,iA 4 33 96 3 32 30,lN 5 34 3 33,mV 6 35 0,nC 7 36 35,fA 8 37 288 36,lD 9 38 37,mV 10 39 0,mV 11 40 1,nC 12 41 39,fA 13 42 0 41,iA 14 43 96 3 42 40,fA 15 44 1 43,lD 16 45 44,iS 17 46 1 38 45,lD 18 47 46,⟨19,none,.store 3 (.t 4) (.t 34),none,none,[(38,.load1 (.t 37),none),(45,.load1 (.t 44),none),(47,.load1 (.t 46),none)]⟩,mV 20 5 47,mC 21 6 (.i 0)] [4,5,6]
def c72:AFn:=⟨2,48,[.cellN 4 3,.tmp 5,.tmp 6],(sQ (rG [qQ 0 4 (.alloc 3 [.bool false,.i 0,.i 0]),mC 1 5 (.ptr none),mC 2 6 (.i 0)] [0,1,4]) (sQ (.block 0 (c72_1)) (c72_2)))⟩
def c73_0:AC :=
 sQ (sQ (rG [mV 0 3 0,aA 1 4 128 3] [0,4]) (cD 4 (rT [mC 0 2 (.i 0)] [2]))) (rT [mV 0 5 0,nC 1 6 5,fA 2 7 2 6,lD 3 8 7,mV 4 2 8] [2])
def c73:AFn:=⟨1,9,[.tmp 2],(sQ (rG [mC 0 2 (.i 0)] [0]) (c73_0))⟩
def c74_0:AC :=
 rT [mV 0 5 0,mV 1 6 1,qQ 2 7 (.bin .sub (.c (.i 1)) (.t 6)),nC 3 8 5,fA 4 9 0 8,iA 5 10 2 7 9 7,fA 6 11 0 10,lD 7 12 11,bC 8 13 .eql 12 (.i 3),mV 9 14 13,gM 10 15 0 14 false,gM 11 16 1 14 false,gG 12 17 (.bin .sub (.c (.i 1)) (.t 16)) 14 false,gG 13 18 (.nilck (.t 15)) 14 false,gF 14 19 0 18 14 false,gG 15 20 (.ixaA 2 7 (.t 19) (.t 17)) 14 false,gF 16 21 4 20 14 false,gL 17 22 21 14 false,pC 18 23 14 (.bool true) 22,mV 19 4 23] [4]
def c74:AFn:=⟨2,24,[.tmp 4],(sQ (rG [mC 0 4 (.bool false)] [0,1]) (c74_0))⟩
def c75_0:AC :=
 rT [mV 0 5 0,nC 1 6 5,fA 2 7 0 6,lD 3 8 7,lL 4 9 8,mV 5 10 0,nC 6 11 10,fA 7 12 2 11,lD 8 13 12,bB 9 14 .sub 9 13,mV 10 2 14] [2]
def c75:AFn:=⟨1,15,[.tmp 2],(sQ (rG [mC 0 2 (.i 0)] [0]) (sQ (sQ (rG [mV 0 3 0,aA 1 4 128 3] [0,4]) (cD 4 (rT [mC 0 2 (.i 0)] [2]))) (c75_0)))⟩
def c78_0:AC :=
 sQ (.region 1 [mV 0 21 3,fA 1 22 2 1,lD 2 23 22,fA 3 24 2 1,lD 4 25 24,fA 9 30 2 1,lD 10 31 30,fA 12 33 2 1,lD 13 34 33,⟨5,(some 26),.call 73 [(.t 25)],none,none,[(23,.load1 (.t 22),none),(31,.load1 (.t 30),none),(34,.load1 (.t 33),none)]⟩,⟨6,(some 27),.call 132 [(.t 23),(.t 26)],none,none,[(31,.load1 (.t 30),none),(34,.load1 (.t 33),none)]⟩,⟨7,(some 28),.call 131 [(.t 27)],none,none,[(31,.load1 (.t 30),none),(34,.load1 (.t 33),none)]⟩,bC 8 29 .add 28 (.str [47]),⟨11,(some 32),.call 73 [(.t 31)],none,none,[(34,.load1 (.t 33),none)]⟩,aA 14 35 75 34,bB 15 36 .add 32 35,aA 16 37 77 36,bB 17 38 .add 29 37,⟨18,(some 39),.bslice 1 1 [.str []] [(0,(.t 38))],none,some 0,[]⟩,qQ 19 40 (.append 1 16 (.t 21) (.t 39)),mV 20 2 40] [2]) (.ret)
def c78_1:AC :=
 sQ (sQ (rG [fA 0 15 2 1,lD 1 16 15,qQ 2 17 (.eq .ptr false (.t 16) (.c (.ptr none)))] [1,3,17]) (cD 17 (rT [mV 0 18 3,qQ 1 19 (.bslice 1 1 [.str []] [(0,(.c (.str [45])))]),qQ 2 20 (.append 1 16 (.t 18) (.t 19)),mV 3 2 20] [2]))) (c78_0)
def c78_2:AC :=
 sQ (sQ (rG [fA 0 10 4 1,lD 1 11 10] [1,3,11]) (cD 11 (rG [mV 0 12 3,qQ 1 13 (.bslice 1 1 [.str []] [(0,(.c (.str [115,104,117,116])))]),qQ 2 14 (.append 1 16 (.t 12) (.t 13)),mV 3 3 14] [1,3]))) (c78_1)
def c78_3:AC :=
 sQ (rG [qQ 0 4 (.bslice 1 4 [.str [],.str [],.str [],.str []] [(0,(.c (.str [110,111,110,101]))),(1,(.c (.str [105,110]))),(2,(.c (.str [111,117,116]))),(3,(.c (.str [99,108,111,115,101,100])))]),fA 1 5 0 1,lD 2 6 5,iS 3 7 1 4 6,lD 4 8 7,qQ 5 9 (.bslice 1 1 [.str []] [(0,(.t 8))]),mV 6 3 9] [1,3]) (c78_2)
def c78:AFn:=⟨1,41,[.tmp 2],(sQ (rG [qQ 0 1 (.box 7 (.t 0)),mC 1 2 (.nils)] [1]) (c78_3))⟩
def c80_0:AC :=
 rT [mV 0 5 0,mV 1 6 1,aB 2 7 127 5 6,bC 3 8 .eql 7 (.i 0),mV 4 9 8,gM 5 10 0 9 true,gM 6 11 1 9 true,gG 7 12 (.nilck (.t 10)) 9 true,gF 8 13 0 12 9 true,gG 9 14 (.ixaA 32 1 (.t 13) (.t 11)) 9 true,gL 10 15 14 9 true,pT 11 16 9 15 (.bool false),mV 12 4 16] [4]
def c80:AFn:=⟨2,17,[.tmp 4],(sQ (rG [mC 0 4 (.bool false)] [0,1]) (c80_0))⟩
def c81_0:AC :=
 sQ (rG [mV 0 6 0,bC 1 7 .rem 6 (.int .u64 10),qQ 2 8 (.bin .add (.c (.int .u64 48)) (.t 7)),qQ 3 9 (.convInt .u8 (.t 8)),qQ 4 10 (.bslice 1 1 [.int .u8 0] [(0,(.t 9))]),qQ 5 11 (.ofBytes (.t 10)),mV 6 12 3,bB 7 13 .add 11 12,mV 8 3 13] [0,3]) (rG [mV 0 14 0,bC 1 15 .quo 14 (.int .u64 10),mV 2 0 15] [0,3])
def c81_1:AC :=
 rT [mV 0 16 0,qQ 1 17 (.bin .add (.c (.int .u64 48)) (.t 16)),qQ 2 18 (.convInt .u8 (.t 17)),qQ 3 19 (.bslice 1 1 [.int .u8 0] [(0,(.t 18))]),qQ 4 20 (.ofBytes (.t 19)),mV 5 21 3,bB 6 22 .add 20 21,mV 7 2 22] [2]
def c81_2:AC :=
 sQ (rG [mC 0 2 (.str [])] [0]) (sQ (rG [mC 0 3 (.str [])] [0,3]) (sQ (.block 0 (.loop [0,3] (sQ (sQ (rG [mV 0 4 0,bC 1 5 .gtr 4 (.int .u64 9)] [0,3,5]) (cX 5 0)) (.block 1 (c81_0))))) (c81_1)))
def c81:AFn:=⟨1,23,[.tmp 2],(c81_2)⟩
def c82:AFn:=⟨1,6,[.tmp 2],(sQ (rG [mC 0 2 (.str [])] [0]) (rT [mV 0 3 0,qQ 1 4 (.convInt .u64 (.t 3)),aA 2 5 81 4,mV 3 2 5] [2]))⟩
def c83_0:AC :=
 rG [mV 0 50 5,mV 1 51 8,qQ 2 52 (.convInt .i64 (.t 51)),mV 3 53 8,qQ 4 54 (.convInt .i64 (.t 53)),bC 5 55 .add 54 (.i 1),qQ 6 56 (.sliceS (.c (.str [48,49,50,51,52,53,54,55,56,57,97,98,99,100,101,102])) (some (.t 52)) (some (.t 55))),bB 7 57 .add 50 56,mV 8 5 57] [1,2,5,6,44,45,46]
def c83_1:AC :=
 sQ (.block 3 (sQ (rG [iS 0 48 1 44 46,lD 1 49 48,mV 2 8 49] [1,2,5,6,8,44,45,46]) (c83_0))) (rG [bC 0 58 .add 46 (.i 1),mV 1 46 58] [1,2,5,6,44,45,46])
def c83_2:AC :=
 sQ (.region 1 [fA 0 32 4 2,lD 1 33 32,mV 2 34 6,iS 3 35 1 33 34,lD 4 36 35,bC 5 37 .quo 36 (.int .u8 16),fA 6 38 4 2,lD 7 39 38,mV 8 40 6,iS 9 41 1 39 40,lD 10 42 41,bC 11 43 .rem 42 (.int .u8 16),mC 14 46 (.i 0),⟨12,(some 44),.bslice 1 2 [.int .u8 0,.int .u8 0] [(0,(.t 37)),(1,(.t 43))],none,some 0,[]⟩,lL 13 45 44] [1,2,5,6,44,45,46]) (.block 2 (.loop [1,2,5,6,44,45,46] (sQ (rG [bB 0 47 .lss 46 45] [1,2,5,6,44,45,46,47]) (sQ (cX 47 2) (c83_1)))))
def c83_3:AC :=
 sQ (sQ (rG [mV 0 25 6,fA 1 26 4 2,lD 2 27 26,lL 3 28 27,bB 4 29 .lss 25 28] [1,2,5,6,29]) (cX 29 0)) (sQ (.block 1 (c83_2)) (rG [mV 0 30 6,bC 1 31 .add 30 (.i 1),mV 2 6 31] [1,2,5,6]))
def c83_4:AC :=
 rT [mV 0 59 5,bC 1 60 .add 59 (.str [47]),mV 2 61 1,aA 3 62 82 61,bB 4 63 .add 60 62,mV 5 4 63] [4]
def c83_5:AC :=
 sQ (sQ (rG [fA 0 18 2 2,lD 1 19 18,qQ 2 20 (.un .not (.t 19))] [1,2,5,20]) (cD 20 (rT [mV 0 21 5,bC 1 22 .add 21 (.str [32,45]),mV 2 4 22] [4]))) (sQ (rG [mV 0 23 5,bC 1 24 .add 23 (.str [32]),mV 2 5 24] [1,2,5]) (sQ (sQ (rG [mC 0 6 (.i 0)] [1,2,5,6]) (.block 0 (.loop [1,2,5,6] (c83_3)))) (c83_4)))
def c83_6:AC :=
 sQ (sQ (rG [fA 0 14 5 2,lD 1 15 14] [1,2,5,15]) (cD 15 (rG [mV 0 16 5,bC 1 17 .add 16 (.str [32,115,104,117,116]),mV 2 5 17] [1,2,5]))) (c83_5)
def c83_7:AC :=
 sQ (rG [qQ 0 9 (.bslice 1 4 [.str [],.str [],.str [],.str []] [(0,(.c (.str [110,111,110,101]))),(1,(.c (.str [105,110]))),(2,(.c (.str [111,117,116]))),(3,(.c (.str [99,108,111,115,101,100])))]),fA 1 10 0 2,lD 2 11 10,iS 3 12 1 9 11,lD 4 13 12,mV 5 5 13] [1,2,5]) (c83_6)
def c83:AFn:=⟨2,64,[.tmp 4],(sQ (rG [qQ 0 2 (.box 8 (.t 0)),mC 1 4 (.str [])] [1,2]) (c83_7))⟩
def c89:AFn:=⟨0,3,[.tmp 0],(sQ (rG [mC 0 0 (.ptr none)] []) (rT [qQ 0 1 (.build (List.replicate 32 (.bool false:V)++List.replicate 32 (.i 0:V)) []),qQ 1 2 (.box 64 (.t 1)),mV 2 0 2] [0]))⟩
def c90_0:AC :=
 rG [mV 0 21 3,mV 1 22 4,nC 2 23 21,fA 3 24 0 23,iA 4 25 2 7 24 22,fA 5 26 3 25,.mk4 6 none (.store 1 (.t 26) (.c (.bool true))) none] [0,3,7]
def c90_1:AC :=
 sQ (rG [mV 0 11 3,mV 1 12 4,mV 2 13 0,nC 7 17 11,fA 8 18 0 17,aA 3 14 137 13,mV 4 10 14,eX 5 15 10 0,eX 6 16 10 1,iA 9 19 2 7 18 12,fA 10 20 2 19,sT 11 1 20 15] [0,3,4,7]) (c90_0)
def c90_2:AC :=
 sQ (rG [bC 0 8 .lss 7 (.i 2)] [0,3,7,8]) (sQ (cX 8 0) (sQ (.block 1 (sQ (rG [mV 0 9 7,mV 1 4 9] [0,3,4,7]) (c90_1))) (rG [bC 0 27 .add 7 (.i 1),mV 1 7 27] [0,3,7])))
def c90_3:AC :=
 sQ (rG [qQ 0 5 (.build [.i 0,.i 0,.ptr none,.bool false,.bool false,.int .u64 0,.int .u64 0,.i 0,.i 0,.ptr none,.bool false,.bool false,.int .u64 0,.int .u64 0,.bool false,.i 0,.nils] []),qQ 1 6 (.box 17 (.t 5)),mV 2 3 6] [0,3]) (sQ (sQ (rG [mC 0 7 (.i 0)] [0,3,7]) (.block 0 (.loop [0,3,7] (c90_2)))) (rT [mV 0 28 3,mV 1 2 28] [2]))
def c90:AFn:=⟨1,29,[.tmp 2],(sQ (rG [mC 0 2 (.ptr none)] [0]) (c90_3))⟩
def c91_0:AC :=
 sQ (rG [mV 0 27 0,mV 1 28 3,mV 2 29 10,aC 3 30 140 27 28 29] [10]) (rT [mV 0 31 10,mV 1 8 31,mC 2 9 (.i 0)] [8,9])
def c91_1:AC :=
 sQ (rG [mV 0 16 1,aA 1 17 138 16,qQ 2 18 (.un .not (.t 17)),mV 3 15 18] [0,2,3,15]) (cD 15 (rT [mC 0 8 (.nils),mC 1 9 (.i 2)] [8,9]))
def c91_2:AC :=
 sQ (rG [mV 0 13 0,aA 1 14 69 13,mV 2 12 14] [0,1,2,3,12]) (.cond (.t 12) (rT [mC 0 8 (.nils),mC 1 9 (.i 1)] [8,9]) (c91_1))
def c91_3:AC :=
 sQ (rG [mV 0 20 0,mV 1 21 2,aB 2 22 139 20 21,mV 3 19 22,eX 4 23 19 0,eX 5 24 19 1,mV 6 10 23,mV 7 11 24] [0,3,10,11]) (sQ (sQ (rG [mV 0 25 11,qQ 1 26 (.un .not (.t 25))] [0,3,10,26]) (cD 26 (rT [mC 0 8 (.nils),mC 1 9 (.i 112)] [8,9]))) (c91_0))
def c91:AFn:=⟨4,32,[.tmp 8,.tmp 9],(sQ (rG [mC 0 8 (.nils),mC 1 9 (.i 0)] [0,1,2,3]) (sQ (.block 0 (c91_2)) (c91_3)))⟩
def c92_0:AC :=
 sQ (rG [mV 0 17 5,bC 1 18 .lss 17 (.i 0)] [0,3,4,18]) (cD 18 (rG [mV 0 19 3,mV 1 20 4,qQ 2 21 (.bslice 1 1 [.i 0] [(0,(.t 20))]),qQ 3 22 (.append 1 8 (.t 19) (.t 21)),mV 4 3 22] [0,3,4]))
def c92_1:AC :=
 sQ (rG [mV 0 12 0,mV 1 13 4,aB 2 14 66 12 13,mV 3 11 14,eX 4 15 11 0,eX 5 16 11 1,mV 6 5 15,mV 7 6 16] [0,3,4,5]) (c92_0)
def c92_2:AC :=
 sQ (sQ (rG [mV 0 7 4,bC 1 8 .leq 7 (.i 95)] [0,3,4,8]) (cX 8 0)) (sQ (.block 1 (c92_1)) (rG [mV 0 9 4,bC 1 10 .add 9 (.i 1),mV 2 4 10] [0,3,4]))
def c92_3:AC :=
 sQ (rG [mC 0 2 (.nils)] [0]) (sQ (rG [mC 0 3 (.nils)] [0,3]) (sQ (sQ (rG [mC 0 4 (.i 0)] [0,3,4]) (.block 0 (.loop [0,3,4] (c92_2)))) (rT [mV 0 23 3,mV 1 2 23] [2])))
def c92:AFn:=⟨1,24,[.tmp 2],(c92_3)⟩
def c93:AFn:=⟨1,4,[.tmp 2],(sQ (rG [qQ 0 1 (.box 1 (.t 0)),mC 1 2 (.nilfn)] [1]) (rT [qQ 0 3 (.mkClo 141 [(.t 1)]),mV 1 2 3] [2]))⟩
def c94_0:AC :=
 sQ (rG [mV 0 17 0,mV 1 18 1,qQ 2 19 (.bin .sub (.c (.i 1)) (.t 18)),mV 3 20 7,lL 4 21 20,bC 5 22 .gtr 21 (.i 0),qQ 6 23 (.call 143 [(.t 17),(.t 19),(.c (.bool false)),(.t 22)])] [7]) (rT [mV 0 24 7,mV 1 6 24] [6])
def c94_1:AC :=
 sQ (rG [mV 0 8 0,mV 1 9 1,nC 2 10 8,fA 3 11 0 10,iA 4 12 2 7 11 9,fA 5 13 2 12,lD 6 14 13,mV 7 15 2,aB 8 16 142 14 15,mV 9 7 16] [0,1,7]) (c94_0)
def c94:AFn:=⟨3,25,[.tmp 6],(sQ (rG [mC 0 6 (.nils)] [0,1,2]) (c94_1))⟩
def c95_0:AC :=
 sQ (rG [mV 0 40 0,mV 1 41 1,mV 2 42 2,qQ 3 43 (.bin .sub (.c (.i 1)) (.t 42)),mV 4 44 3,bC 5 45 .gtr 44 (.i 0),qQ 6 46 (.call 144 [(.t 40),(.t 41),(.t 43),(.c (.bool false)),(.t 45)])] [3,9]) (rT [mV 0 47 9,mV 1 48 3,qQ 2 49 (.slice 1 (.t 47) none (some (.t 48)) none),mV 3 8 49] [8])
def c95_1:AC :=
 sQ (rG [mV 0 27 0,nC 1 28 27,fA 2 29 0 28,lD 3 30 29,mV 4 31 1,mV 5 32 2,mV 6 33 9,mV 7 34 3,qQ 8 35 (.slice 1 (.t 33) (some (.t 34)) none none),iS 9 36 20 30 31,fA 10 37 0 36,iA 11 38 2 8 37 32,fA 12 39 4 38,sT 13 1 39 35] [0,1,2,3,9]) (c95_0)
def c95_2:AC :=
 sQ (sQ (rG [mV 0 21 3,mV 1 22 9,lL 2 23 22,bB 3 24 .gtr 21 23] [0,1,2,3,9,24]) (cD 24 (rG [mV 0 25 9,lL 1 26 25,mV 2 3 26] [0,1,2,3,9]))) (c95_1)
def c95_3:AC :=
 sQ (rG [mV 0 10 0,nC 1 11 10,fA 2 12 0 11,lD 3 13 12,mV 4 14 1,mV 5 15 2,iS 6 16 20 13 14,fA 7 17 0 16,iA 8 18 2 8 17 15,fA 9 19 4 18,lD 10 20 19,mV 11 9 20] [0,1,2,3,9]) (c95_2)
def c95:AFn:=⟨4,50,[.tmp 8],(sQ (rG [mC 0 8 (.nils)] [0,1,2,3]) (c95_3))⟩
def c96_0:AC :=
 sQ (rG [mV 0 18 0,mV 1 19 1,qQ 2 20 (.bin .sub (.c (.i 1)) (.t 19)),mV 3 21 7,bC 4 22 .gtr 21 (.i 0),qQ 5 23 (.call 143 [(.t 18),(.t 20),(.t 22),(.c (.bool false))])] [7]) (rT [mV 0 24 7,mV 1 6 24] [6])
def c96_1:AC :=
 sQ (rG [mV 0 8 0,mV 1 9 1,qQ 2 10 (.bin .sub (.c (.i 1)) (.t 9)),nC 3 11 8,fA 4 12 0 11,iA 5 13 2 7 12 10,fA 6 14 2 13,lD 7 15 14,mV 8 16 2,aB 9 17 145 15 16,mV 10 7 17] [0,1,7]) (c96_0)
def c96:AFn:=⟨3,25,[.tmp 6],(sQ (rG [mC 0 6 (.i 0)] [0,1,2]) (c96_1))⟩
def c97_0:AC :=
 sQ (rG [mV 0 70 0,mV 1 71 1,mV 2 72 2,qQ 3 73 (.bin .sub (.c (.i 1)) (.t 72)),mV 4 74 10,bC 5 75 .gtr 74 (.i 0),qQ 6 76 (.call 144 [(.t 70),(.t 71),(.t 73),(.t 75),(.c (.bool false))])] [10]) (rT [mV 0 77 10,mV 1 8 77] [8])
def c97_1:AC :=
 sQ (rG [mV 0 54 0,nC 1 55 54,fA 2 56 0 55,lD 3 57 56,mV 4 58 1,mV 5 59 2,qQ 6 60 (.bin .sub (.c (.i 1)) (.t 59)),mV 7 61 11,mV 8 62 3,mV 9 63 10,qQ 10 64 (.slice 1 (.t 62) none (some (.t 63)) none),iS 12 66 20 57 58,fA 13 67 0 66,⟨11,(some 65),.append 1 1 (.t 61) (.t 64),none,none,[(57,.load1 (.t 56),none)]⟩,iA 14 68 2 8 67 60,fA 15 69 4 68,sT 16 1 69 65] [0,1,2,10]) (c97_0)
def c97_2:AC :=
 sQ (rG [mV 0 40 11,mV 1 41 0,nC 2 42 41,fA 3 43 0 42,lD 4 44 43,mV 5 45 1,mV 6 46 2,qQ 7 47 (.bin .sub (.c (.i 1)) (.t 46)),iS 8 48 20 44 45,fA 9 49 0 48,iA 10 50 2 8 49 47,fA 11 51 4 50,lD 12 52 51,qQ 13 53 (.append 1 1 (.t 40) (.t 52)),mV 14 11 53] [0,1,2,3,10,11]) (c97_1)
def c97_3:AC :=
 sQ (sQ (rG [mV 0 36 10,mV 1 37 9,bB 2 38 .gtr 36 37] [0,1,2,3,9,10,38]) (cD 38 (rG [mV 0 39 9,mV 1 10 39] [0,1,2,3,10]))) (sQ (rG [mC 0 11 (.nils)] [0,1,2,3,10,11]) (c97_2))
def c97_4:AC :=
 sQ (rG [mV 0 12 0,nC 1 13 12,fA 2 14 0 13,lD 3 15 14,mV 4 16 1,iS 5 17 20 15 16,fA 6 18 16 17,lD 7 19 18,mV 8 20 0,nC 9 21 20,fA 10 22 0 21,lD 11 23 22,mV 12 24 1,mV 13 25 2,qQ 14 26 (.bin .sub (.c (.i 1)) (.t 25)),iS 15 27 20 23 24,fA 16 28 0 27,iA 17 29 2 8 28 26,fA 18 30 4 29,lD 19 31 30,lL 20 32 31,bB 21 33 .sub 19 32,mV 22 9 33] [0,1,2,3,9]) (sQ (rG [mV 0 34 3,lL 1 35 34,mV 2 10 35] [0,1,2,3,9,10]) (c97_3))
def c97:AFn:=⟨4,78,[.tmp 8],(sQ (rG [mC 0 8 (.i 0)] [0,1,2,3]) (c97_4))⟩
def c98_0:AC :=
 sQ (rG [mV 0 12 0,mV 1 13 1,nC 2 14 12,fA 3 15 0 14,iA 4 16 2 7 15 13,fA 5 17 4 16,.mk4 6 none (.store 1 (.t 17) (.c (.bool true))) none] [0,1]) (rG [mV 0 18 0,mV 1 19 1,qQ 2 20 (.bin .sub (.c (.i 1)) (.t 19)),qQ 3 21 (.call 143 [(.t 18),(.t 20),(.c (.bool true)),(.c (.bool false))])] [])
def c98_1:AC :=
 sQ (rG [mV 0 4 0,mV 1 5 1,nC 2 6 4,fA 3 7 0 6,iA 4 8 2 7 7 5,fA 5 9 4 8,lD 6 10 9,qQ 7 11 (.un .not (.t 10))] [0,1,11]) (cD 11 (c98_0))
def c98:AFn:=⟨2,22,[],(c98_1)⟩
def c99_0:AC :=
 sQ (rG [mV 0 18 0,nC 1 19 18,fA 2 20 0 19,lD 3 21 20,mV 4 22 1,mV 5 23 2,iS 6 24 20 21 22,fA 7 25 0 24,iA 8 26 2 8 25 23,fA 9 27 5 26,.mk4 10 none (.store 1 (.t 27) (.c (.bool true))) none] [0,1,2]) (rG [mV 0 28 0,mV 1 29 1,mV 2 30 2,qQ 3 31 (.bin .sub (.c (.i 1)) (.t 30)),qQ 4 32 (.call 144 [(.t 28),(.t 29),(.t 31),(.c (.bool true)),(.c (.bool false))])] [])
def c99_1:AC :=
 sQ (rG [mV 0 6 0,nC 1 7 6,fA 2 8 0 7,lD 3 9 8,mV 4 10 1,mV 5 11 2,iS 6 12 20 9 10,fA 7 13 0 12,iA 8 14 2 8 13 11,fA 9 15 5 14,lD 10 16 15,qQ 11 17 (.un .not (.t 16))] [0,1,2,17]) (cD 17 (c99_0))
def c99:AFn:=⟨3,33,[],(c99_1)⟩
def c100_0:AC :=
 rG [mV 0 16 0,mV 1 17 1,nC 2 18 16,fA 3 19 0 18,iA 4 20 2 7 19 17,fA 5 21 0 20,.mk4 6 none (.store 1 (.t 21) (.c (.i 3))) none] []
def c100_1:AC :=
 sQ (rG [mV 0 4 0,mV 1 5 1,qQ 2 6 (.bin .sub (.c (.i 1)) (.t 5)),mV 3 7 0,mV 4 8 1,nC 5 9 7,fA 6 10 0 9,iA 7 11 2 7 10 8,fA 8 12 4 11,lD 9 13 12,qQ 10 14 (.un .not (.t 13)),qQ 11 15 (.call 143 [(.t 4),(.t 6),(.t 14),(.c (.bool true))])] [0,1]) (c100_0)
def c100:AFn:=⟨2,22,[],(c100_1)⟩
def c101_0:AC :=
 rG [mV 0 23 0,nC 1 24 23,fA 2 25 0 24,lD 3 26 25,mV 4 27 1,mV 5 28 2,iS 6 29 20 26 27,fA 7 30 0 29,iA 8 31 2 8 30 28,fA 9 32 0 31,.mk4 10 none (.store 1 (.t 32) (.c (.i 3))) none] []
def c101_1:AC :=
 sQ (rG [mV 0 6 0,mV 1 7 1,mV 2 8 2,qQ 3 9 (.bin .sub (.c (.i 1)) (.t 8)),mV 4 10 0,nC 5 11 10,fA 6 12 0 11,lD 7 13 12,mV 8 14 1,mV 9 15 2,iS 10 16 20 13 14,fA 11 17 0 16,iA 12 18 2 8 17 15,fA 13 19 5 18,lD 14 20 19,qQ 15 21 (.un .not (.t 20)),qQ 16 22 (.call 144 [(.t 6),(.t 7),(.t 9),(.t 21),(.c (.bool true))])] [0,1,2]) (c101_0)
def c101:AFn:=⟨3,33,[],(c101_1)⟩
def c102_0:AC :=
 sQ (rG [mV 0 26 8,nC 1 27 26,fA 2 28 0 27,qQ 3 29 (.ixaA 2 7 (.t 28) (.c (.i 1))),fA 4 30 4 29,lD 5 31 30,mV 6 32 31,gM 7 33 8 32 false,gG 8 34 (.nilck (.t 33)) 32 false,gF 9 35 0 34 32 false,gG 10 36 (.ixaA 2 7 (.t 35) (.c (.i 0))) 32 false,gF 11 37 0 36 32 false,gL 12 38 37 32 false,gG 13 39 (.bin .eql (.t 38) (.c (.i 3))) 32 false,pC 14 40 32 (.bool true) 39,mV 15 25 40] [2,8,25]) (cD 25 (rT [mC 0 6 (.i 0),mC 1 7 (.i 114)] [6,7]))
def c102_1:AC :=
 sQ (rG [mV 0 21 8,nC 1 22 21,fA 2 23 14 22,lD 3 24 23,mV 4 20 24] [2,8,20]) (.cond (.t 20) (rT [mC 0 6 (.i 0),mC 1 7 (.i 115)] [6,7]) (c102_0))
def c102_2:AC :=
 sQ (rG [mV 0 17 9,bC 1 18 .neq 17 (.i 0),mV 2 16 18] [2,8,9,16]) (.cond (.t 16) (rT [mV 0 19 9,mC 1 6 (.i 0),mV 2 7 19] [6,7]) (c102_1))
def c102_3:AC :=
 sQ (rG [mV 0 11 0,mV 1 12 1,aB 2 13 146 11 12,mV 3 10 13,eX 4 14 10 0,eX 5 15 10 1,mV 6 8 14,mV 7 9 15] [2,8,9]) (sQ (.block 0 (c102_2)) (rT [mV 0 41 8,mV 1 42 2,qQ 2 43 (.call 96 [(.t 41),(.c (.i 1)),(.t 42)]),mV 3 6 43,mC 4 7 (.i 0)] [6,7]))
def c102:AFn:=⟨3,44,[.tmp 6,.tmp 7],(sQ (rG [mC 0 6 (.i 0),mC 1 7 (.i 0)] [0,1,2]) (c102_3))⟩
def c103_0:AC :=
 rT [mV 0 45 0,mV 1 46 1,mV 2 47 2,qQ 3 48 (.call 97 [(.t 45),(.t 46),(.c (.i 1)),(.t 47)]),mV 4 6 48,mC 5 7 (.i 0)] [6,7]
def c103_1:AC :=
 sQ (sQ (rG [mV 0 22 0,nC 1 23 22,fA 2 24 0 23,lD 3 25 24,mV 4 26 1,iS 5 27 20 25 26,fA 6 28 0 27,qQ 7 29 (.ixaA 2 8 (.t 28) (.c (.i 1))),fA 8 30 5 29,lD 9 31 30,mV 10 32 31,gM 11 33 0 32 false,gG 12 34 (.nilck (.t 33)) 32 false,gF 13 35 0 34 32 false,gL 14 36 35 32 false,gM 15 37 1 32 false,gG 16 38 (.ixaS 20 (.t 36) (.t 37)) 32 false,gF 17 39 0 38 32 false,gG 18 40 (.ixaA 2 8 (.t 39) (.c (.i 0))) 32 false,gF 19 41 0 40 32 false,gL 20 42 41 32 false,gG 21 43 (.bin .eql (.t 42) (.c (.i 3))) 32 false,pC 22 44 32 (.bool true) 43] [0,1,2,44]) (cD 44 (rT [mC 0 6 (.i 0),mC 1 7 (.i 114)] [6,7]))) (c103_0)
def c103_2:AC :=
 sQ (sQ (rG [mV 0 14 0,nC 1 15 14,fA 2 16 0 15,lD 3 17 16,mV 4 18 1,iS 5 19 20 17 18,fA 6 20 17 19,lD 7 21 20] [0,1,2,21]) (cD 21 (rT [mC 0 6 (.i 0),mC 1 7 (.i 115)] [6,7]))) (c103_1)
def c103_3:AC :=
 sQ (rG [mV 0 9 0,mV 1 10 1,aB 2 11 147 9 10,mV 3 8 11] [0,1,2,8]) (sQ (sQ (rG [mV 0 12 8,qQ 1 13 (.un .not (.t 12))] [0,1,2,13]) (cD 13 (rT [mC 0 6 (.i 0),mC 1 7 (.i 116)] [6,7]))) (c103_2))
def c103:AFn:=⟨3,49,[.tmp 6,.tmp 7],(sQ (rG [mC 0 6 (.i 0),mC 1 7 (.i 0)] [0,1,2]) (c103_3))⟩
def c104_0:AC :=
 sQ (rG [mV 0 24 8,nC 1 25 24,fA 2 26 14 25,lD 3 27 26,mV 4 23 27] [2,8,23]) (cD 23 (rT [mC 0 6 (.nils),mC 1 7 (.i 115)] [6,7]))
def c104_1:AC :=
 sQ (rG [mV 0 21 2,bC 1 22 .lss 21 (.i 0),mV 2 20 22] [2,8,20]) (.cond (.t 20) (rT [mC 0 6 (.nils),mC 1 7 (.i 2)] [6,7]) (c104_0))
def c104_2:AC :=
 sQ (rG [mV 0 17 9,bC 1 18 .neq 17 (.i 0),mV 2 16 18] [2,8,9,16]) (.cond (.t 16) (rT [mV 0 19 9,mC 1 6 (.nils),mV 2 7 19] [6,7]) (c104_1))
def c104_3:AC :=
 sQ (rG [mV 0 11 0,mV 1 12 1,aB 2 13 146 11 12,mV 3 10 13,eX 4 14 10 0,eX 5 15 10 1,mV 6 8 14,mV 7 9 15] [2,8,9]) (sQ (.block 0 (c104_2)) (rT [mV 0 28 8,mV 1 29 2,qQ 2 30 (.call 94 [(.t 28),(.c (.i 1)),(.t 29)]),mV 3 6 30,mC 4 7 (.i 0)] [6,7]))
def c104:AFn:=⟨3,31,[.tmp 6,.tmp 7],(sQ (rG [mC 0 6 (.nils),mC 1 7 (.i 0)] [0,1,2]) (c104_3))⟩
def c105_0:AC :=
 rT [mV 0 24 0,mV 1 25 1,mV 2 26 2,qQ 3 27 (.call 95 [(.t 24),(.t 25),(.c (.i 1)),(.t 26)]),mV 4 6 27,mC 5 7 (.i 0)] [6,7]
def c105_1:AC :=
 sQ (sQ (rG [mV 0 16 0,nC 1 17 16,fA 2 18 0 17,lD 3 19 18,mV 4 20 1,iS 5 21 20 19 20,fA 6 22 17 21,lD 7 23 22] [0,1,2,23]) (cD 23 (rT [mC 0 6 (.nils),mC 1 7 (.i 115)] [6,7]))) (c105_0)
def c105_2:AC :=
 sQ (sQ (rG [mV 0 12 8,qQ 1 13 (.un .not (.t 12))] [0,1,2,13]) (cD 13 (rT [mC 0 6 (.nils),mC 1 7 (.i 116)] [6,7]))) (sQ (sQ (rG [mV 0 14 2,bC 1 15 .lss 14 (.i 0)] [0,1,2,15]) (cD 15 (rT [mC 0 6 (.nils),mC 1 7 (.i 2)] [6,7]))) (c105_1))
def c105_3:AC :=
 sQ (rG [mC 0 6 (.nils),mC 1 7 (.i 0)] [0,1,2]) (sQ (rG [mV 0 9 0,mV 1 10 1,aB 2 11 147 9 10,mV 3 8 11] [0,1,2,8]) (c105_2))
def c105:AFn:=⟨3,28,[.tmp 6,.tmp 7],(c105_3)⟩
def c106_0:AC :=
 sQ (sQ (rG [mV 0 13 6,bC 1 14 .eql 13 (.i 0)] [5,6,14]) (cD 14 (rG [mV 0 15 5,qQ 1 16 (.call 98 [(.t 15),(.c (.i 1))])] [6]))) (rT [mV 0 17 6,mV 1 4 17] [4])
def c106_1:AC :=
 sQ (rG [mV 0 8 0,mV 1 9 1,aB 2 10 146 8 9,mV 3 7 10,eX 4 11 7 0,eX 5 12 7 1,mV 6 5 11,mV 7 6 12] [5,6]) (c106_0)
def c106:AFn:=⟨2,18,[.tmp 4],(sQ (rG [mC 0 4 (.i 0)] [0,1]) (c106_1))⟩
def c107_0:AC :=
 sQ (sQ (rG [mV 0 9 5,qQ 1 10 (.un .not (.t 9))] [0,1,10]) (cD 10 (rT [mC 0 4 (.i 116)] [4]))) (sQ (rG [mV 0 11 0,mV 1 12 1,qQ 2 13 (.call 99 [(.t 11),(.t 12),(.c (.i 1))])] []) (rT [mC 0 4 (.i 0)] [4]))
def c107:AFn:=⟨2,14,[.tmp 4],(sQ (rG [mC 0 4 (.i 0)] [0,1]) (sQ (rG [mV 0 6 0,mV 1 7 1,aB 2 8 147 6 7,mV 3 5 8] [0,1,5]) (c107_0)))⟩
def c108_0:AC :=
 sQ (sQ (rG [mV 0 13 6,bC 1 14 .eql 13 (.i 0)] [5,6,14]) (cD 14 (rG [mV 0 15 5,qQ 1 16 (.call 100 [(.t 15),(.c (.i 1))])] [6]))) (rT [mV 0 17 6,mV 1 4 17] [4])
def c108_1:AC :=
 sQ (rG [mV 0 8 0,mV 1 9 1,aB 2 10 146 8 9,mV 3 7 10,eX 4 11 7 0,eX 5 12 7 1,mV 6 5 11,mV 7 6 12] [5,6]) (c108_0)
def c108:AFn:=⟨2,18,[.tmp 4],(sQ (rG [mC 0 4 (.i 0)] [0,1]) (c108_1))⟩
def c109_0:AC :=
 sQ (sQ (rG [mV 0 9 5,qQ 1 10 (.un .not (.t 9))] [0,1,10]) (cD 10 (rT [mC 0 4 (.i 116)] [4]))) (sQ (rG [mV 0 11 0,mV 1 12 1,qQ 2 13 (.call 101 [(.t 11),(.t 12),(.c (.i 1))])] []) (rT [mC 0 4 (.i 0)] [4]))
def c109:AFn:=⟨2,14,[.tmp 4],(sQ (rG [mC 0 4 (.i 0)] [0,1]) (sQ (rG [mV 0 6 0,mV 1 7 1,aB 2 8 147 6 7,mV 3 5 8] [0,1,5]) (c109_0)))⟩
def c110_0:AC :=
 sQ (rG [mV 0 29 5,mV 1 30 7,nC 2 31 29,fA 3 32 0 31,iA 4 33 2 7 32 30,fA 5 34 2 33,lD 6 35 34,aA 7 36 148 35] [5,7,26]) (rG [mV 0 37 5,mV 1 38 7,qQ 2 39 (.call 143 [(.t 37),(.t 38),(.c (.bool true)),(.c (.bool true))])] [5,26])
def c110_1:AC :=
 sQ (rG [bC 0 27 .lss 26 (.i 2)] [5,26,27]) (sQ (cX 27 0) (sQ (.block 1 (sQ (rG [mV 0 28 26,mV 1 7 28] [5,7,26]) (c110_0))) (rG [bC 0 40 .add 26 (.i 1),mV 1 26 40] [5,26])))
def c110_2:AC :=
 sQ (rG [mV 0 23 5,nC 1 24 23,fA 2 25 14 24,.mk4 3 none (.store 1 (.t 25) (.c (.bool true))) none] [5]) (sQ (sQ (rG [mC 0 26 (.i 0)] [5,26]) (.block 0 (.loop [5,26] (c110_1)))) (rT [mC 0 4 (.i 0)] [4]))
def c110_3:AC :=
 sQ (sQ (rG [mV 0 14 6,bC 1 15 .neq 14 (.i 0),mV 2 16 15,gM 3 17 5 16 false,gG 4 18 (.nilck (.t 17)) 16 false,gF 5 19 14 18 16 false,gL 6 20 19 16 false,pC 7 21 16 (.bool true) 20] [5,6,21]) (cD 21 (rT [mV 0 22 6,mV 1 4 22] [4]))) (c110_2)
def c110_4:AC :=
 sQ (rG [mV 0 9 0,mV 1 10 1,aB 2 11 146 9 10,mV 3 8 11,eX 4 12 8 0,eX 5 13 8 1,mV 6 5 12,mV 7 6 13] [5,6]) (c110_3)
def c110:AFn:=⟨2,41,[.tmp 4],(sQ (rG [mC 0 4 (.i 0)] [0,1]) (c110_4))⟩
def c111_0:AC :=
 sQ (rG [mV 0 31 0,nC 1 32 31,fA 2 33 0 32,lD 3 34 33,mV 4 35 1,mV 5 36 6,iS 6 37 20 34 35,fA 7 38 0 37,iA 8 39 2 8 38 36,fA 9 40 4 39,.mk4 10 none (.store 1 (.t 40) (.c (.nils))) none] [0,1,6]) (rG [mV 0 41 0,mV 1 42 1,mV 2 43 6,qQ 3 44 (.call 144 [(.t 41),(.t 42),(.t 43),(.c (.bool true)),(.c (.bool true))])] [0,1,6])
def c111_1:AC :=
 sQ (sQ (rG [mV 0 27 6,bC 1 28 .lss 27 (.i 2)] [0,1,6,28]) (cX 28 0)) (sQ (.block 1 (c111_0)) (rG [mV 0 29 6,bC 1 30 .add 29 (.i 1),mV 2 6 30] [0,1,6]))
def c111_2:AC :=
 sQ (rG [mV 0 20 0,nC 1 21 20,fA 2 22 0 21,lD 3 23 22,mV 4 24 1,iS 5 25 20 23 24,fA 6 26 17 25,.mk4 7 none (.store 1 (.t 26) (.c (.bool true))) none] [0,1]) (sQ (sQ (rG [mC 0 6 (.i 0)] [0,1,6]) (.block 0 (.loop [0,1,6] (c111_1)))) (rT [mC 0 4 (.i 0)] [4]))
def c111_3:AC :=
 sQ (sQ (rG [mV 0 12 0,nC 1 13 12,fA 2 14 0 13,lD 3 15 14,mV 4 16 1,iS 5 17 20 15 16,fA 6 18 17 17,lD 7 19 18] [0,1,19]) (cD 19 (rT [mC 0 4 (.i 0)] [4]))) (c111_2)
def c111_4:AC :=
 sQ (rG [mV 0 7 0,mV 1 8 1,aB 2 9 147 7 8,mV 3 5 9] [0,1,5]) (sQ (sQ (rG [mV 0 10 5,qQ 1 11 (.un .not (.t 10))] [0,1,11]) (cD 11 (rT [mC 0 4 (.i 116)] [4]))) (c111_3))
def c111:AFn:=⟨2,45,[.tmp 4],(sQ (rG [mC 0 4 (.i 0)] [0,1]) (c111_4))⟩
def c112_0:AC :=
 rT [mV 0 137 0,nC 1 138 137,fA 2 139 288 138,lD 3 140 139,lL 4 141 140,bC 5 142 .sub 141 (.i 1),mV 6 6 142,mC 7 7 (.i 0)] [6,7]
def c112_1:AC :=
 sQ (rG [mV 0 127 0,mV 1 128 0,nC 2 129 128,fA 3 130 288 129,lD 4 131 130,mV 5 132 8,qQ 6 133 (.bslice 1 1 [.ptr none] [(0,(.t 132))]),qQ 7 134 (.append 1 8 (.t 131) (.t 133)),nC 8 135 127,fA 9 136 288 135,sT 10 1 136 134] [0]) (c112_0)
def c112_2:AC :=
 sQ (rG [mV 0 116 9,nC 1 117 116,fA 2 118 0 117,qQ 3 119 (.ixaA 2 7 (.t 118) (.c (.i 0))),fA 4 120 5 119,lD 5 121 120,bC 6 122 .add 121 (.int .u64 1),nC 7 123 116,fA 8 124 0 123,qQ 9 125 (.ixaA 2 7 (.t 124) (.c (.i 0))),fA 10 126 5 125,sT 11 1 126 122] [0,8]) (c112_1)
def c112_3:AC :=
 sQ (.region 1 [mV 0 101 9,mV 1 102 9,nC 2 103 102,fA 3 104 16 103,lD 4 105 104,mV 6 107 0,nC 7 108 107,fA 8 109 288 108,lD 9 110 109,lL 10 111 110,⟨5,(some 106),.call 149 [(.t 105)],none,none,[(110,.load1 (.t 109),none)]⟩,⟨11,(some 112),.bslice 1 1 [.i 0] [(0,(.t 111))],none,some 0,[]⟩,qQ 12 113 (.append 1 8 (.t 106) (.t 112)),nC 13 114 101,fA 14 115 16 114,sT 15 1 115 113] [0,8,9]) (c112_2)
def c112_4:AC :=
 sQ (rG [mV 0 94 0,nC 1 95 94,fA 2 96 288 95,lD 3 97 96,mV 4 98 1,iS 5 99 1 97 98,lD 6 100 99,mV 7 9 100] [0,8,9]) (c112_3)
def c112_5:AC :=
 sQ (rG [mV 0 89 8,nC 1 90 89,fA 2 91 0 90,qQ 3 92 (.ixaA 2 7 (.t 91) (.c (.i 1))),fA 4 93 0 92,.mk4 5 none (.store 1 (.t 93) (.c (.i 2))) none] [0,1,8]) (c112_4)
def c112_6:AC :=
 sQ (rG [mV 0 81 0,nC 1 82 81,fA 2 83 288 82,lD 3 84 83,lL 4 85 84,bC 5 86 .geq 85 (.i 1000),mV 6 80 86] [0,1,2,80]) (cD 80 (rT [mC 0 6 (.i 0),mC 1 7 (.i 112)] [6,7]))
def c112_7:AC :=
 sQ (rG [mV 0 58 0,nC 1 59 58,fA 2 60 288 59,lD 3 61 60,mV 4 62 1,iS 5 63 1 61 62,lD 6 64 63,nC 7 65 64,fA 8 66 16 65,lD 9 67 66,lL 10 68 67,mV 11 69 0,nC 12 70 69,fA 13 71 288 70,lD 14 72 71,mV 15 73 1,iS 16 74 1 72 73,lD 17 75 74,nC 18 76 75,fA 19 77 15 76,lD 20 78 77,bB 21 79 .geq 68 78,mV 22 57 79] [0,1,2,57]) (.cond (.t 57) (rT [mC 0 6 (.i 0),mC 1 7 (.i 113)] [6,7]) (c112_6))
def c112_8:AC :=
 sQ (rG [mV 0 54 2,aA 1 55 138 54,qQ 2 56 (.un .not (.t 55)),mV 3 53 56] [0,1,2,53]) (.cond (.t 53) (rT [mC 0 6 (.i 0),mC 1 7 (.i 2)] [6,7]) (c112_7))
def c112_9:AC :=
 sQ (rG [mV 0 14 1,bC 1 15 .lss 14 (.i 0),mV 2 16 15,gM 3 17 1 16 false,gM 4 18 0 16 false,gG 5 19 (.nilck (.t 18)) 16 false,gF 6 20 288 19 16 false,gL 7 21 20 16 false,gG 8 22 (.lenL (.t 21)) 16 false,gG 9 23 (.bin .geq (.t 17) (.t 22)) 16 false,pC 10 24 16 (.bool true) 23,mV 11 25 24,gM 12 26 0 25 false,gG 13 27 (.nilck (.t 26)) 25 false,gF 14 28 288 27 25 false,gL 15 29 28 25 false,gM 16 30 1 25 false,gG 17 31 (.ixaS 1 (.t 29) (.t 30)) 25 false,gL 18 32 31 25 false,gG 19 33 (.nilck (.t 32)) 25 false,gF 20 34 15 33 25 false,gL 21 35 34 25 false,gG 22 36 (.bin .eql (.t 35) (.c (.i 0))) 25 false,pC 23 37 25 (.bool true) 36,mV 24 38 37,gM 25 39 0 38 false,gG 26 40 (.nilck (.t 39)) 38 false,gF 27 41 288 40 38 false,gL 28 42 41 38 false,gM 29 43 1 38 false,gG 30 44 (.ixaS 1 (.t 42) (.t 43)) 38 false,gL 31 45 44 38 false,gG 32 46 (.nilck (.t 45)) 38 false,gF 33 47 0 46 38 false,gG 34 48 (.ixaA 2 7 (.t 47) (.c (.i 0))) 38 false,gF 35 49 0 48 38 false,gL 36 50 49 38 false,gG 37 51 (.bin .neq (.t 50) (.c (.i 1))) 38 false,pC 38 52 38 (.bool true) 51,mV 39 13 52] [0,1,2,13]) (.cond (.t 13) (rT [mC 0 6 (.i 0),mC 1 7 (.i 116)] [6,7]) (c112_8))
def c112_10:AC :=
 sQ (.block 0 (sQ (rG [mV 0 11 0,aA 1 12 69 11,mV 2 10 12] [0,1,2,10]) (.cond (.t 10) (rT [mC 0 6 (.i 0),mC 1 7 (.i 1)] [6,7]) (c112_9)))) (sQ (rG [mV 0 87 2,aA 1 88 90 87,mV 2 8 88] [0,1,8]) (c112_5))
def c112:AFn:=⟨3,143,[.tmp 6,.tmp 7],(sQ (rG [mC 0 6 (.i 0),mC 1 7 (.i 0)] [0,1,2]) (c112_10))⟩
def c113_0:AC :=
 rT [mV 0 143 0,nC 1 144 143,fA 2 145 0 144,lD 3 146 145,lL 4 147 146,bC 5 148 .sub 147 (.i 1),mV 6 6 148,mC 7 7 (.i 0)] [6,7]
def c113_1:AC :=
 sQ (.region 1 [mV 0 133 0,mV 1 134 0,nC 2 135 134,fA 3 136 0 135,lD 4 137 136,lN 5 138 20 8,⟨6,(some 139),.bslice 20 1 [.i 0,.i 0,.bool false,.bool false,.nils,.bool false,.int .u64 0,.int .u64 0,.i 0,.i 0,.bool false,.bool false,.nils,.bool false,.int .u64 0,.int .u64 0,.i 0,.bool false,.i 0,.nils] [(0,(.t 138))],none,some 0,[]⟩,qQ 7 140 (.append 20 192 (.t 137) (.t 139)),nC 8 141 133,fA 9 142 0 141,sT 10 1 142 140] [0]) (c113_0)
def c113_2:AC :=
 sQ (rG [mV 0 118 0,nC 1 119 118,fA 2 120 0 119,lD 3 121 120,mV 4 122 1,iS 5 123 20 121 122,fA 6 124 0 123,qQ 7 125 (.ixaA 2 8 (.t 124) (.c (.i 0))),fA 8 126 6 125,lD 9 127 126,bC 10 128 .add 127 (.int .u64 1),iS 11 129 20 121 122,fA 12 130 0 129,qQ 13 131 (.ixaA 2 8 (.t 130) (.c (.i 0))),fA 14 132 6 131,sT 15 1 132 128] [0,8]) (c113_1)
def c113_3:AC :=
 sQ (.region 1 [mV 0 103 0,nC 1 104 103,fA 2 105 0 104,lD 3 106 105,mV 4 107 1,mV 5 108 10,mV 6 109 0,nC 7 110 109,fA 8 111 0 110,lD 9 112 111,lL 10 113 112,⟨11,(some 114),.bslice 1 1 [.i 0] [(0,(.t 113))],none,some 0,[]⟩,⟨12,(some 115),.append 1 8 (.t 108) (.t 114),none,none,[(106,.load1 (.t 105),none)]⟩,iS 13 116 20 106 107,fA 14 117 19 116,sT 15 1 117 115] [0,1,8]) (c113_2)
def c113_4:AC :=
 sQ (rG [mV 0 93 10,mV 1 94 0,nC 2 95 94,fA 3 96 0 95,lD 4 97 96,mV 5 98 1,iS 6 99 20 97 98,fA 7 100 19 99,lD 8 101 100,qQ 9 102 (.append 1 8 (.t 93) (.t 101)),mV 10 10 102] [0,1,8,10]) (c113_3)
def c113_5:AC :=
 sQ (rG [mV 0 82 9,fA 1 83 0 8,iA 2 84 2 8 83 82,fA 3 85 2 84,.mk4 4 none (.store 1 (.t 85) (.c (.bool true))) none] [0,1,8,9]) (rG [mV 0 86 9,fA 1 87 0 8,iA 2 88 2 8 87 86,fA 3 89 3 88,.mk4 4 none (.store 1 (.t 89) (.c (.bool true))) none] [0,1,8,9])
def c113_6:AC :=
 sQ (sQ (rG [mV 0 78 9,bC 1 79 .lss 78 (.i 2)] [0,1,8,9,79]) (cX 79 0)) (sQ (.block 1 (c113_5)) (rG [mV 0 80 9,bC 1 81 .add 80 (.i 1),mV 2 9 81] [0,1,8,9]))
def c113_7:AC :=
 sQ (rG [fA 0 90 0 8,qQ 1 91 (.ixaA 2 8 (.t 90) (.c (.i 1))),fA 2 92 0 91,.mk4 3 none (.store 1 (.t 92) (.c (.i 2))) none] [0,1,8]) (sQ (rG [mC 0 10 (.nils)] [0,1,8,10]) (c113_4))
def c113_8:AC :=
 sQ (rG [mV 0 76 2,qQ 1 77 (.build [.i 0,.i 0,.bool false,.bool false,.nils,.bool false,.int .u64 0,.int .u64 0,.i 0,.i 0,.bool false,.bool false,.nils,.bool false,.int .u64 0,.int .u64 0,.i 0,.bool false,.i 0,.nils] [(16,1,(.t 76))]),qQ 2 8 (.alloc 20 [.i 0,.i 0,.bool false,.bool false,.nils,.bool false,.int .u64 0,.int .u64 0,.i 0,.i 0,.bool false,.bool false,.nils,.bool false,.int .u64 0,.int .u64 0,.i 0,.bool false,.i 0,.nils]),sT 3 20 8 77] [0,1,8]) (sQ (sQ (rG [mC 0 9 (.i 0)] [0,1,8,9]) (.block 0 (.loop [0,1,8,9] (c113_6)))) (c113_7))
def c113_9:AC :=
 sQ (sQ (rG [mV 0 70 0,nC 1 71 70,fA 2 72 0 71,lD 3 73 72,lL 4 74 73,bC 5 75 .geq 74 (.i 1000)] [0,1,2,75]) (cD 75 (rT [mC 0 6 (.i 0),mC 1 7 (.i 112)] [6,7]))) (c113_8)
def c113_10:AC :=
 sQ (sQ (rG [mV 0 52 0,nC 1 53 52,fA 2 54 0 53,lD 3 55 54,mV 4 56 1,iS 5 57 20 55 56,fA 6 58 19 57,lD 7 59 58,lL 8 60 59,mV 9 61 0,nC 10 62 61,fA 11 63 0 62,lD 12 64 63,mV 13 65 1,iS 14 66 20 64 65,fA 15 67 18 66,lD 16 68 67,bB 17 69 .geq 60 68] [0,1,2,69]) (cD 69 (rT [mC 0 6 (.i 0),mC 1 7 (.i 113)] [6,7]))) (c113_9)
def c113_11:AC :=
 sQ (sQ (rG [mV 0 46 2,bC 1 47 .lss 46 (.i 1),mV 2 48 47,gM 3 49 2 48 false,gG 4 50 (.bin .gtr (.t 49) (.c (.i 65536))) 48 false,pC 5 51 48 (.bool true) 50] [0,1,2,51]) (cD 51 (rT [mC 0 6 (.i 0),mC 1 7 (.i 2)] [6,7]))) (c113_10)
def c113_12:AC :=
 sQ (sQ (rG [mV 0 11 1,bC 1 12 .lss 11 (.i 0),mV 2 13 12,gM 3 14 1 13 false,gM 4 15 0 13 false,gG 5 16 (.nilck (.t 15)) 13 false,gF 6 17 0 16 13 false,gL 7 18 17 13 false,gG 8 19 (.lenL (.t 18)) 13 false,gG 9 20 (.bin .geq (.t 14) (.t 19)) 13 false,pC 10 21 13 (.bool true) 20,mV 11 22 21,gM 12 23 0 22 false,gG 13 24 (.nilck (.t 23)) 22 false,gF 14 25 0 24 22 false,gL 15 26 25 22 false,gM 16 27 1 22 false,gG 17 28 (.ixaS 20 (.t 26) (.t 27)) 22 false,gF 18 29 18 28 22 false,gL 19 30 29 22 false,gG 20 31 (.bin .eql (.t 30) (.c (.i 0))) 22 false,pC 21 32 22 (.bool true) 31,mV 22 33 32,gM 23 34 0 33 false,gG 24 35 (.nilck (.t 34)) 33 false,gF 25 36 0 35 33 false,gL 26 37 36 33 false,gM 27 38 1 33 false,gG 28 39 (.ixaS 20 (.t 37) (.t 38)) 33 false,gF 29 40 0 39 33 false,gG 30 41 (.ixaA 2 8 (.t 40) (.c (.i 0))) 33 false,gF 31 42 0 41 33 false,gL 32 43 42 33 false,gG 33 44 (.bin .neq (.t 43) (.c (.i 1))) 33 false,pC 34 45 33 (.bool true) 44] [0,1,2,45]) (cD 45 (rT [mC 0 6 (.i 0),mC 1 7 (.i 116)] [6,7]))) (c113_11)
def c113:AFn:=⟨3,149,[.tmp 6,.tmp 7],(sQ (rG [mC 0 6 (.i 0),mC 1 7 (.i 0)] [0,1,2]) (c113_12))⟩
def c114_0:AC :=
 rG [mV 0 7 0,nC 1 8 7,fA 2 9 290 8,lD 3 10 9,mV 4 11 1,mV 5 12 0,nC 6 13 12,fA 7 14 290 13,lD 8 15 14,qQ 9 16 (.bin .sub (.c (.int .u64 18446744073709551615)) (.t 15)),qQ 10 17 (.minI [(.t 11),(.t 16)]),bB 11 18 .add 10 17,nC 12 19 7,fA 13 20 290 19,sT 14 1 20 18] []
def c114:AFn:=⟨2,21,[],(sQ (rG [mV 0 4 0,aA 1 5 69 4,qQ 2 6 (.un .not (.t 5))] [0,1,6]) (cD 6 (c114_0)))⟩
def c115_0:AC :=
 rG [mV 0 14 0,mV 1 15 0,nC 2 16 15,fA 3 17 1 16,lD 4 18 17,mV 5 19 1,bB 6 20 .add 18 19,nC 7 21 14,fA 8 22 1 21,sT 9 1 22 20] []
def c115_1:AC :=
 sQ (sQ (rG [mV 0 4 1,mV 1 5 0,nC 2 6 5,fA 3 7 1 6,lD 4 8 7,qQ 5 9 (.bin .sub (.c (.int .u64 18446744073709551615)) (.t 8)),bB 6 10 .gtr 4 9] [0,1,10]) (cD 10 (rT [mV 0 11 0,nC 1 12 11,fA 2 13 1 12,.mk4 3 none (.store 1 (.t 13) (.c (.int .u64 18446744073709551615))) none] []))) (c115_0)
def c115:AFn:=⟨2,23,[],(c115_1)⟩
def c116_0:AC :=
 sQ (rG [mV 0 10 0,nC 1 11 10,fA 2 12 289 11,lD 3 13 12,mV 4 14 1,mV 5 15 2,aC 6 16 150 13 14 15,mV 7 7 16] [0,7]) (sQ (rG [mV 0 17 0,aA 1 18 151 17] [7]) (rT [mV 0 19 7,mV 1 6 19] [6]))
def c116:AFn:=⟨3,20,[.tmp 6],(sQ (rG [mC 0 6 (.i 0)] [0,1,2]) (sQ (sQ (rG [mV 0 8 0,aA 1 9 69 8] [0,1,2,9]) (cD 9 (rT [mC 0 6 (.i 1)] [6]))) (c116_0)))⟩
def c117_0:AC :=
 cD 22 (rG [mV 0 23 0,mV 1 24 1,nC 2 25 23,fA 3 26 34 25,iA 4 27 32 1 26 24,.mk4 5 none (.store 1 (.t 27) (.c (.i 0))) none] [0])
def c117_1:AC :=
 sQ (sQ (rG [mV 0 21 2,qQ 1 22 (.un .not (.t 21))] [0,1,22]) (c117_0)) (sQ (rG [mV 0 28 0,aA 1 29 152 28] []) (rT [mC 0 6 (.i 0)] [6]))
def c117_2:AC :=
 sQ (rG [mV 0 15 0,mV 1 16 1,mV 2 17 2,nC 3 18 15,fA 4 19 2 18,iA 5 20 32 1 19 16,sT 6 1 20 17] [0,1,2]) (c117_1)
def c117_3:AC :=
 sQ (sQ (rG [mV 0 7 1,bC 1 8 .lss 7 (.i 1),mV 2 9 8,gM 3 10 1 9 false,gG 4 11 (.bin .gtr (.t 10) (.c (.i 31))) 9 false,pC 5 12 9 (.bool true) 11] [0,1,2,12]) (cD 12 (sQ (rG [mV 0 13 0,aA 1 14 152 13] []) (rT [mC 0 6 (.i 100)] [6])))) (c117_2)
def c117:AFn:=⟨3,30,[.tmp 6],(sQ (rG [mC 0 6 (.i 0)] [0,1,2]) (c117_3))⟩
def c118_0:AC :=
 sQ (rG [mV 0 8 0,nC 1 9 8,fA 2 10 289 9,lD 3 11 10,mV 4 12 1,aB 5 13 153 11 12,mV 6 5 13] [0,5]) (sQ (rG [mV 0 14 0,aA 1 15 151 14] [5]) (rT [mV 0 16 5,mV 1 4 16] [4]))
def c118:AFn:=⟨2,17,[.tmp 4],(sQ (rG [mC 0 4 (.i 0)] [0,1]) (sQ (sQ (rG [mV 0 6 0,aA 1 7 69 6] [0,1,7]) (cD 7 (rT [mC 0 4 (.i 1)] [4]))) (c118_0)))⟩
def c119_0:AC :=
 rG [mV 0 19 0,mV 1 20 1,nC 2 21 19,fA 3 22 34 21,iA 4 23 32 1 22 20,lD 5 24 23,bC 6 25 .add 24 (.i 1),nC 7 26 19,fA 8 27 34 26,iA 9 28 32 1 27 20,sT 10 1 28 25] [0]
def c119_1:AC :=
 sQ (sQ (rG [mV 0 13 0,mV 1 14 1,nC 2 15 13,fA 3 16 2 15,iA 4 17 32 1 16 14,lD 5 18 17] [0,1,18]) (cD 18 (c119_0))) (sQ (rG [mV 0 29 0,aA 1 30 152 29] []) (rT [mC 0 4 (.i 0)] [4]))
def c119_2:AC :=
 sQ (sQ (rG [mV 0 5 1,bC 1 6 .lss 5 (.i 1),mV 2 7 6,gM 3 8 1 7 false,gG 4 9 (.bin .gtr (.t 8) (.c (.i 31))) 7 false,pC 5 10 7 (.bool true) 9] [0,1,10]) (cD 10 (sQ (rG [mV 0 11 0,aA 1 12 152 11] []) (rT [mC 0 4 (.i 100)] [4])))) (c119_1)
def c119:AFn:=⟨2,31,[.tmp 4],(sQ (rG [mC 0 4 (.i 0)] [0,1]) (c119_2))⟩
def c120_0:AC :=
 sQ (rG [mV 0 6 0,nC 1 7 6,fA 2 8 289 7,lD 3 9 8,aA 4 10 154 9,mV 5 3 10] [0,3]) (sQ (rG [mV 0 11 0,aA 1 12 151 11] [3]) (rT [mV 0 13 3,mV 1 2 13] [2]))
def c120:AFn:=⟨1,14,[.tmp 2],(sQ (rG [mC 0 2 (.nils)] [0]) (sQ (sQ (rG [mV 0 4 0,aA 1 5 69 4] [0,5]) (cD 5 (rT [mC 0 2 (.nils)] [2]))) (c120_0)))⟩
def c121_0:AC :=
 rG [mV 0 16 3,mV 1 17 4,mV 2 18 0,mV 3 19 4,nC 4 20 18,fA 5 21 34 20,iA 6 22 32 1 21 19,lD 7 23 22,qQ 8 24 (.build [.i 0,.i 0] [(0,1,(.t 17)),(1,1,(.t 23))]),qQ 9 25 (.bslice 2 1 [.i 0,.i 0] [(0,(.t 24))]),qQ 10 26 (.append 2 16 (.t 16) (.t 25)),mV 11 3 26] [0,3,4]
def c121_1:AC :=
 sQ (sQ (rG [mV 0 9 0,mV 1 10 4,nC 2 11 9,fA 3 12 34 11,iA 4 13 32 1 12 10,lD 5 14 13,bC 6 15 .gtr 14 (.i 0)] [0,3,4,15]) (cD 15 (c121_0))) (rG [mV 0 27 0,mV 1 28 4,nC 2 29 27,fA 3 30 34 29,iA 4 31 32 1 30 28,.mk4 5 none (.store 1 (.t 31) (.c (.i 0))) none] [0,3,4])
def c121_2:AC :=
 sQ (sQ (rG [mV 0 5 4,bC 1 6 .leq 5 (.i 31)] [0,3,4,6]) (cX 6 0)) (sQ (.block 1 (c121_1)) (rG [mV 0 7 4,bC 1 8 .add 7 (.i 1),mV 2 4 8] [0,3,4]))
def c121_3:AC :=
 sQ (sQ (rG [mC 0 4 (.i 1)] [0,3,4]) (.block 0 (.loop [0,3,4] (c121_2)))) (sQ (rG [mV 0 32 0,aA 1 33 152 32] [3]) (rT [mV 0 34 3,mV 1 2 34] [2]))
def c121:AFn:=⟨1,35,[.tmp 2],(sQ (rG [mC 0 2 (.nils)] [0]) (sQ (rG [mC 0 3 (.nils)] [0,3]) (c121_3)))⟩
def c122_0:AC :=
 sQ (rG [fA 0 36 1 7,lD 1 37 36,fA 2 38 1 10,lD 3 39 38,bB 4 40 .neq 37 39,mV 5 41 40,gF 6 42 2 7 41 false,gL 7 43 42 41 false,gF 8 44 2 10 41 false,gL 9 45 44 41 false,gG 10 46 (.bin .eql (.t 43) (.t 45)) 41 false,pC 11 47 41 (.bool true) 46,mV 12 48 47,gM 13 49 8 48 false,gG 14 50 (.nilck (.t 49)) 48 false,gF 15 51 0 50 48 false,gG 16 52 (.ixaA 2 7 (.t 51) (.c (.i 0))) 48 false,gF 17 53 2 52 48 false,gL 18 54 53 48 false,gG 19 55 (.eq .ptr false (.t 54) (.c (.ptr none))) 48 false,pC 20 56 48 (.bool true) 55,mV 21 57 56,gM 22 58 8 57 false,gG 23 59 (.nilck (.t 58)) 57 false,gF 24 60 0 59 57 false,gG 25 61 (.ixaA 2 7 (.t 60) (.c (.i 1))) 57 false,gF 26 62 2 61 57 false,gL 27 63 62 57 false,gG 28 64 (.eq .ptr false (.t 63) (.c (.ptr none))) 57 false,pC 29 65 57 (.bool true) 64,mV 30 35 65] [0,7,35]) (cD 35 (rT [mC 0 6 (.i 111)] [6]))
def c122_1:AC :=
 sQ (rG [mV 0 32 12,bC 1 33 .neq 32 (.i 0),mV 2 31 33] [0,7,8,10,12,31]) (.cond (.t 31) (rT [mV 0 34 12,mV 1 6 34] [6]) (c122_0))
def c122_2:AC :=
 sQ (rG [mV 0 28 9,bC 1 29 .neq 28 (.i 0),mV 2 27 29] [0,7,8,9,10,12,27]) (.cond (.t 27) (rT [mV 0 30 9,mV 1 6 30] [6]) (c122_1))
def c122_3:AC :=
 sQ (rG [mV 0 66 0,lN 1 67 3 7,nC 2 68 66,fA 3 69 291 68,sT 4 3 69 67] [0]) (sQ (rG [mV 0 70 0,aA 1 71 151 70] []) (rT [mC 0 6 (.i 0)] [6]))
def c122_4:AC :=
 sQ (rG [mV 0 21 0,mV 1 22 2,aB 2 23 72 21 22,mV 3 20 23,eX 4 24 20 0,eX 5 25 20 1,eX 6 26 20 2,qQ 7 10 (.alloc 3 [.bool false,.i 0,.i 0]),sT 8 3 10 24,mV 9 11 25,mV 10 12 26] [0,7,8,9,10,12]) (sQ (.block 0 (c122_2)) (c122_3))
def c122_5:AC :=
 sQ (rG [mV 0 14 0,mV 1 15 1,aB 2 16 72 14 15,mV 3 13 16,eX 4 17 13 0,eX 5 18 13 1,eX 6 19 13 2,qQ 7 7 (.alloc 3 [.bool false,.i 0,.i 0]),sT 8 3 7 17,mV 9 8 18,mV 10 9 19] [0,2,7,8,9]) (c122_4)
def c122:AFn:=⟨3,72,[.tmp 6],(sQ (rG [mC 0 6 (.i 0)] [0,1,2]) (c122_5))⟩
def c123_0:AC :=
 sQ (rG [mV 0 67 0,mV 1 68 8,nC 2 69 67,fA 3 70 67 69,sT 4 1 70 68] [0]) (sQ (rG [mV 0 71 0,aA 1 72 152 71] []) (rT [mC 0 6 (.i 0)] [6]))
def c123_1:AC :=
 sQ (sQ (rG [mV 0 29 7,mV 1 30 9,bB 2 31 .neq 29 30,mV 3 32 31,gM 4 33 8 32 false,gM 5 34 10 32 false,gG 6 35 (.bin .eql (.t 33) (.t 34)) 32 false,pC 7 36 32 (.bool true) 35,mV 8 37 36,gM 9 38 0 37 false,gG 10 39 (.nilck (.t 38)) 37 false,gF 11 40 0 39 37 false,gL 12 41 40 37 false,gM 13 42 7 37 false,gG 14 43 (.ixaS 20 (.t 41) (.t 42)) 37 false,gF 15 44 0 43 37 false,gG 16 45 (.ixaA 2 8 (.t 44) (.c (.i 0))) 37 false,gF 17 46 2 45 37 false,gL 18 47 46 37 false,gG 19 48 (.un .not (.t 47)) 37 false,pC 20 49 37 (.bool true) 48,mV 21 50 49,gM 22 51 0 50 false,gG 23 52 (.nilck (.t 51)) 50 false,gF 24 53 0 52 50 false,gL 25 54 53 50 false,gM 26 55 7 50 false,gG 27 56 (.ixaS 20 (.t 54) (.t 55)) 50 false,gF 28 57 0 56 50 false,gG 29 58 (.ixaA 2 8 (.t 57) (.c (.i 1))) 50 false,gF 30 59 2 58 50 false,gL 31 60 59 50 false,gG 32 61 (.un .not (.t 60)) 50 false,pC 33 62 50 (.bool true) 61] [0,7,8,62]) (cD 62 (rT [mC 0 6 (.i 111)] [6]))) (sQ (rG [mV 0 63 0,mV 1 64 7,nC 2 65 63,fA 3 66 66 65,sT 4 1 66 64] [0,8]) (c123_0))
def c123_2:AC :=
 sQ (sQ (rG [mV 0 23 7,bC 1 24 .lss 23 (.i 0),mV 2 25 24,gM 3 26 9 25 false,gG 4 27 (.bin .lss (.t 26) (.c (.i 0))) 25 false,pC 5 28 25 (.bool true) 27] [0,7,8,9,10,28]) (cD 28 (rT [mC 0 6 (.i 110)] [6]))) (c123_1)
def c123_3:AC :=
 sQ (rG [mV 0 18 0,mV 1 19 2,aB 2 20 66 18 19,mV 3 17 20,eX 4 21 17 0,eX 5 22 17 1,mV 6 9 21,mV 7 10 22] [0,7,8,9,10]) (c123_2)
def c123_4:AC :=
 sQ (rG [mV 0 12 0,mV 1 13 1,aB 2 14 66 12 13,mV 3 11 14,eX 4 15 11 0,eX 5 16 11 1,mV 6 7 15,mV 7 8 16] [0,2,7,8]) (c123_3)
def c123:AFn:=⟨3,73,[.tmp 6],(sQ (rG [mC 0 6 (.i 0)] [0,1,2]) (c123_4))⟩
def c124_0:AC :=
 sQ (rG [mV 0 10 0,mV 1 11 1,aB 2 12 72 10 11,mV 3 9 12,eX 4 13 9 0,eX 5 14 9 1,eX 6 15 9 2,qQ 7 6 (.alloc 3 [.bool false,.i 0,.i 0]),sT 8 3 6 13,mV 9 7 14,mV 10 8 15] [6,8]) (rT [fA 0 16 1 6,lD 1 17 16,mV 2 18 8,mV 3 4 17,mV 4 5 18] [4,5])
def c124:AFn:=⟨2,19,[.tmp 4,.tmp 5],(sQ (rG [mC 0 4 (.i 0),mC 1 5 (.i 0)] [0,1]) (c124_0))⟩
def c125_0:AC :=
 sQ (sQ (rG [mV 0 14 6,bC 1 15 .lss 14 (.i 0)] [6,15]) (cD 15 (rT [mC 0 4 (.i 0),mC 1 5 (.i 110)] [4,5]))) (rT [mV 0 16 6,mV 1 4 16,mC 2 5 (.i 0)] [4,5])
def c125_1:AC :=
 sQ (rG [mV 0 9 0,mV 1 10 1,aB 2 11 66 9 10,mV 3 8 11,eX 4 12 8 0,eX 5 13 8 1,mV 6 6 12,mV 7 7 13] [6]) (c125_0)
def c125:AFn:=⟨2,17,[.tmp 4,.tmp 5],(sQ (rG [mC 0 4 (.i 0),mC 1 5 (.i 0)] [0,1]) (c125_1))⟩
def c126:AFn:=⟨1,4,[.tmp 2],(sQ (rG [qQ 0 1 (.box 1 (.t 0)),mC 1 2 (.nilfn)] [1]) (rT [qQ 0 3 (.mkClo 155 [(.t 1)]),mV 1 2 3] [2]))⟩
def c127_0:AC :=
 .cond (.t 5) (rT [mC 0 4 (.i 1)] [4]) (sQ (rG [mV 0 9 1,aA 1 10 156 9,qQ 2 11 (.un .not (.t 10)),mV 3 8 11] [8]) (cD 8 (rT [mC 0 4 (.i 100)] [4])))
def c127_1:AC :=
 sQ (rG [mC 0 4 (.i 0)] [0,1]) (sQ (.block 0 (sQ (rG [mV 0 6 0,qQ 1 7 (.eq .ptr false (.t 6) (.c (.ptr none))),mV 2 5 7] [1,5]) (c127_0))) (rT [mC 0 4 (.i 0)] [4]))
def c127:AFn:=⟨2,12,[.tmp 4],(c127_1)⟩
def c128_0:AC :=
 rT [mV 0 3 0,qQ 1 4 (.eq .ptr false (.t 3) (.c (.ptr none))),mV 2 5 4,gM 3 6 0 5 false,gG 4 7 (.nilck (.t 6)) 5 false,gF 5 8 5 7 5 false,gL 6 9 8 5 false,gG 7 10 (.un .not (.t 9)) 5 false,pC 8 11 5 (.bool true) 10,mV 9 2 11] [2]
def c128:AFn:=⟨1,12,[.tmp 2],(sQ (rG [mC 0 2 (.bool false)] [0]) (c128_0))⟩
def c131_0:AC :=
 .region 1 [mV 0 12 3,mV 1 13 5,bC 2 14 .shr 13 (.int .u64 4),qQ 3 15 (.ixStr (.c (.str [48,49,50,51,52,53,54,55,56,57,97,98,99,100,101,102])) (.t 14)),mV 4 16 5,bC 5 17 .and 16 (.int .u8 15),qQ 6 18 (.ixStr (.c (.str [48,49,50,51,52,53,54,55,56,57,97,98,99,100,101,102])) (.t 17)),⟨7,(some 19),.bslice 1 2 [.int .u8 0,.int .u8 0] [(0,(.t 15)),(1,(.t 18))],none,some 0,[]⟩,qQ 8 20 (.append 1 1 (.t 12) (.t 19)),mV 9 3 20] [3,6,7,8]
def c131_1:AC :=
 sQ (.block 1 (sQ (rG [iS 0 10 1 6 8,lD 1 11 10,mV 2 5 11] [3,5,6,7,8]) (c131_0))) (rG [bC 0 21 .add 8 (.i 1),mV 1 8 21] [3,6,7,8])
def c131_2:AC :=
 sQ (sQ (rG [mV 0 6 0,lL 1 7 6,mC 2 8 (.i 0)] [3,6,7,8]) (.block 0 (.loop [3,6,7,8] (sQ (rG [bB 0 9 .lss 8 7] [3,6,7,8,9]) (sQ (cX 9 0) (c131_1)))))) (rT [mV 0 22 3,qQ 1 23 (.ofBytes (.t 22)),mV 2 2 23] [2])
def c131:AFn:=⟨1,24,[.tmp 2],(sQ (rG [mC 0 2 (.str [])] [0]) (sQ (rG [mC 0 3 (.nils)] [0,3]) (c131_2)))⟩
def c132_0:AC :=
 .block 0 (.rangeFunc (.t 19) [20] [5] (rG [mV 0 6 20] [5,6]) (.block 1 (rG [lD 0 21 5,mV 1 22 6,qQ 2 23 (.append 1 1 (.t 21) (.t 22)),sT 3 1 5 23] [])))
def c132_1:AC :=
 sQ (rG [mV 0 13 0,mV 1 14 0,nC 2 15 14,fA 3 16 1 15,lD 4 17 16,mV 5 18 1,aC 6 19 162 13 17 18] [5,19]) (c132_0)
def c132_2:AC :=
 sQ (sQ (rG [mV 0 7 1,mV 1 8 0,aA 2 9 73 8,qQ 3 10 (.minI [(.t 7),(.t 9)]),mV 4 1 10] [0,1,5]) (sQ (rG [mV 0 11 1,bC 1 12 .gtr 11 (.i 0)] [0,1,5,12]) (cD 12 (c132_1)))) (rT [lD 0 24 5,mV 1 4 24] [4])
def c132:AFn:=⟨2,25,[.tmp 4],(sQ (rG [mC 0 4 (.nils)] [0,1]) (sQ (rG [qQ 0 5 (.alloc 1 [.nils])] [0,1,5]) (c132_2)))⟩
def c137_0:AC :=
 rT [mV 0 10 0,qQ 1 11 (.mkSlice 1 1 [.int .u8 0] (.t 10) (.t 10)),qQ 2 12 (.build [.nils,.i 0,.i 0,.int .u64 0,.int .u64 0,.bool false] [(0,1,(.t 11)),(5,1,(.c (.bool true)))]),qQ 3 13 (.box 6 (.t 12)),mV 4 2 13,mC 5 3 (.i 0)] [2,3]
def c137_1:AC :=
 sQ (sQ (rG [mV 0 4 0,bC 1 5 .lss 4 (.i 0),mV 2 6 5,gM 3 7 0 6 false,gG 4 8 (.bin .gtr (.t 7) (.c (.i 65536))) 6 false,pC 5 9 6 (.bool true) 8] [0,9]) (cD 9 (rT [mC 0 2 (.ptr none),mC 1 3 (.i 2)] [2,3]))) (c137_0)
def c137:AFn:=⟨1,14,[.tmp 2,.tmp 3],(sQ (rG [mC 0 2 (.ptr none),mC 1 3 (.i 0)] [0]) (c137_1))⟩
def c138_0:AC :=
 rT [mV 0 3 0,bC 1 4 .geq 3 (.i 1),mV 2 5 4,gM 3 6 0 5 true,gG 4 7 (.bin .leq (.t 6) (.c (.i 65536))) 5 true,pT 5 8 5 7 (.bool false),mV 6 2 8] [2]
def c138:AFn:=⟨1,9,[.tmp 2],(sQ (rG [mC 0 2 (.bool false)] [0]) (c138_0))⟩
def c139_0:AC :=
 sQ (sQ (rG [lD 0 11 6,lL 1 12 11,lD 2 13 3,bB 3 14 .eql 12 13] [6,7,14]) (cD 14 (.exit 0))) (rG [lD 0 15 6,mV 1 16 7,qQ 2 17 (.bslice 1 1 [.i 0] [(0,(.t 16))]),qQ 3 18 (.append 1 8 (.t 15) (.t 17)),sT 4 1 6 18] [])
def c139_1:AC :=
 rT [lD 0 19 6,lD 1 20 6,lL 2 21 20,lD 3 22 3,bB 4 23 .eql 21 22,mV 5 24 23,gM 6 25 0 24 true,gG 7 26 (.nilck (.t 25)) 24 true,gF 8 27 288 26 24 true,gL 9 28 27 24 true,gG 10 29 (.lenL (.t 28)) 24 true,gG 11 30 (.bin .lss (.t 29) (.c (.i 1000))) 24 true,pT 12 31 24 30 (.bool false),mV 13 4 19,mV 14 5 31] [4,5]
def c139_2:AC :=
 .scope (sQ (rG [qQ 0 6 (.alloc 1 [.nils])] [0,3,6]) (sQ (.label 0) (sQ (sQ (rG [mV 0 8 0,aA 1 9 93 8] [0,3,6,9]) (.block 0 (.rangeFunc (.t 9) [10] [3,6] (rG [mV 0 7 10] [3,6,7]) (.block 1 (c139_0))))) (c139_1))))
def c139:AFn:=⟨2,32,[.tmp 4,.tmp 5],(sQ (rG [qQ 0 3 (.box 1 (.t 1)),mC 1 4 (.nils),mC 2 5 (.bool false)] [0,3]) (c139_2))⟩
def c140_0:AC :=
 rG [mV 0 28 0,mV 1 29 7,mV 2 30 0,nC 3 31 30,fA 4 32 288 31,lD 5 33 32,lL 6 34 33,mV 7 35 6,qQ 8 36 (.build [.bool false,.i 0,.i 0] [(0,1,(.c (.bool true))),(1,1,(.t 34)),(2,1,(.t 35))]),nC 9 37 28,fA 10 38 0 37,iA 11 39 96 3 38 29,sT 12 3 39 36] [0,1,8,9,10]
def c140_1:AC :=
 sQ (rG [mV 0 15 1,mV 1 16 6,mV 2 17 1,mV 3 18 6,mV 4 19 7,nC 5 20 15,fA 6 21 0 20,iA 7 22 2 7 21 16,fA 8 23 0 22,nC 10 24 17,fA 11 25 0 24,.mk4 9 none (.store 1 (.t 23) (.c (.i 1))) none,iA 12 26 2 7 25 18,fA 13 27 1 26,sT 14 1 27 19] [0,1,6,7,8,9,10]) (c140_0)
def c140_2:AC :=
 sQ (.block 1 (sQ (rG [mV 0 12 10,iS 1 13 1 8 10,lD 2 14 13,mV 3 6 12,mV 4 7 14] [0,1,6,7,8,9,10]) (c140_1))) (rG [bC 0 40 .add 10 (.i 1),mV 1 10 40] [0,1,8,9,10])
def c140_3:AC :=
 rG [mV 0 41 0,mV 1 42 0,nC 2 43 42,fA 3 44 288 43,lD 4 45 44,mV 5 46 1,qQ 6 47 (.bslice 1 1 [.ptr none] [(0,(.t 46))]),qQ 7 48 (.append 1 8 (.t 45) (.t 47)),nC 8 49 41,fA 9 50 288 49,sT 10 1 50 48] []
def c140_4:AC :=
 sQ (sQ (rG [mV 0 8 2,lL 1 9 8,mC 2 10 (.i 0)] [0,1,8,9,10]) (.block 0 (.loop [0,1,8,9,10] (sQ (rG [bB 0 11 .lss 10 9] [0,1,8,9,10,11]) (sQ (cX 11 0) (c140_2)))))) (c140_3)
def c140:AFn:=⟨3,51,[],(c140_4)⟩
def c141_0:AC :=
 sQ (rG [fA 0 13 0 4,lD 1 14 13,qQ 2 15 (.un .not (.t 14)),mV 3 16 15,gM 4 17 0 16 true,gM 5 18 3 16 true,gG 6 19 (.callv (.t 17) [(.t 18)]) 16 true,gG 7 20 (.un .not (.t 19)) 16 true,pT 8 21 16 20 (.bool false)] [0,8,9,21]) (cD 21 (.ret))
def c141_1:AC :=
 sQ (.block 1 (sQ (rG [mV 0 11 9,qQ 1 12 (.ixA 96 3 (some 3) (.t 8) (.t 9)),qQ 2 4 (.alloc 3 [.bool false,.i 0,.i 0]),mV 3 3 11,sT 4 3 4 12] [0,3,4,8,9]) (c141_0))) (rG [bC 0 22 .add 9 (.i 1),mV 1 9 22] [0,8,9])
def c141_2:AC :=
 sQ (rG [lD 0 5 1,nC 1 6 5,fA 2 7 0 6,lN 3 8 288 7,mC 4 9 (.i 0)] [0,8,9]) (.block 0 (.loop [0,8,9] (sQ (rG [bC 0 10 .lss 9 (.i 96)] [0,8,9,10]) (sQ (cX 10 0) (c141_1)))))
def c141:AFn:=⟨2,23,[],(c141_2)⟩
def c142_0:AC :=
 rG [mV 0 37 0,nC 1 38 37,fA 2 39 4 38,lD 3 40 39,mV 4 41 5,lL 5 42 41,qQ 6 43 (.convInt .u64 (.t 42)),bB 7 44 .add 40 43,nC 8 45 37,fA 9 46 4 45,sT 10 1 46 44] [5]
def c142_1:AC :=
 sQ (rG [mV 0 28 0,nC 1 29 28,fA 2 30 2 29,lD 3 31 30,mV 4 32 5,lL 5 33 32,bB 6 34 .sub 31 33,nC 7 35 28,fA 8 36 2 35,sT 9 1 36 34] [0,5]) (c142_0)
def c142_2:AC :=
 sQ (rG [mV 0 12 0,mV 1 13 0,nC 2 14 13,fA 3 15 1 14,lD 4 16 15,mV 5 17 5,lL 6 18 17,bB 7 19 .add 16 18,mV 8 20 0,nC 9 21 20,fA 10 22 0 21,lD 11 23 22,lL 12 24 23,bB 13 25 .rem 19 24,nC 14 26 12,fA 15 27 1 26,sT 16 1 27 25] [0,5]) (c142_1)
def c142_3:AC :=
 sQ (sQ (rG [mV 0 9 5,lL 1 10 9,bC 2 11 .gtr 10 (.i 0)] [0,5,11]) (cD 11 (c142_2))) (rT [mV 0 47 5,mV 1 4 47] [4])
def c142:AFn:=⟨2,48,[.tmp 4],(sQ (rG [mC 0 4 (.nils)] [0,1]) (sQ (rG [mV 0 6 0,mV 1 7 1,aB 2 8 132 6 7,mV 3 5 8] [0,5]) (c142_3)))⟩
def c143_0:AC :=
 rG [mV 0 41 0,mV 1 42 1,nC 2 43 41,fA 3 44 0 43,iA 4 45 2 7 44 42,fA 5 46 6 45,lD 6 47 46,bC 7 48 .add 47 (.int .u64 1),nC 8 49 41,fA 9 50 0 49,iA 10 51 2 7 50 42,fA 11 52 6 51,sT 12 1 52 48] []
def c143_1:AC :=
 rG [mV 0 19 0,mV 1 20 1,nC 2 21 19,fA 3 22 0 21,iA 4 23 2 7 22 20,fA 5 24 5 23,lD 6 25 24,bC 7 26 .add 25 (.int .u64 1),nC 8 27 19,fA 9 28 0 27,iA 10 29 2 7 28 20,fA 11 30 5 29,sT 12 1 30 26] [0,1,3]
def c143_2:AC :=
 sQ (rG [mV 0 31 3,mV 1 32 31,gM 2 33 0 32 true,gM 3 34 1 32 true,gG 4 35 (.nilck (.t 33)) 32 true,gF 5 36 0 35 32 true,gG 6 37 (.ixaA 2 7 (.t 36) (.t 34)) 32 true,gF 7 38 3 37 32 true,gL 8 39 38 32 true,pT 9 40 32 39 (.bool false)] [0,1,40]) (cD 40 (c143_0))
def c143_3:AC :=
 sQ (sQ (rG [mV 0 8 2,mV 1 9 8,gM 2 10 0 9 true,gM 3 11 1 9 true,gG 4 12 (.nilck (.t 10)) 9 true,gF 5 13 0 12 9 true,gG 6 14 (.ixaA 2 7 (.t 13) (.t 11)) 9 true,gF 7 15 2 14 9 true,gL 8 16 15 9 true,gG 9 17 (.eq .ptr true (.t 16) (.c (.ptr none))) 9 true,pT 10 18 9 17 (.bool false)] [0,1,3,18]) (cD 18 (c143_1))) (c143_2)
def c143:AFn:=⟨4,53,[],(c143_3)⟩
def c144_0:AC :=
 rG [mV 0 54 0,nC 1 55 54,fA 2 56 0 55,lD 3 57 56,mV 4 58 1,mV 5 59 2,iS 6 60 20 57 58,fA 7 61 0 60,iA 8 62 2 8 61 59,fA 9 63 7 62,lD 10 64 63,bC 11 65 .add 64 (.int .u64 1),iS 12 66 20 57 58,fA 13 67 0 66,iA 14 68 2 8 67 59,fA 15 69 7 68,sT 16 1 69 65] []
def c144_1:AC :=
 rG [mV 0 24 0,nC 1 25 24,fA 2 26 0 25,lD 3 27 26,mV 4 28 1,mV 5 29 2,iS 6 30 20 27 28,fA 7 31 0 30,iA 8 32 2 8 31 29,fA 9 33 6 32,lD 10 34 33,bC 11 35 .add 34 (.int .u64 1),iS 12 36 20 27 28,fA 13 37 0 36,iA 14 38 2 8 37 29,fA 15 39 6 38,sT 16 1 39 35] [0,1,2,4]
def c144_2:AC :=
 sQ (rG [mV 0 40 4,mV 1 41 40,gM 2 42 0 41 true,gG 3 43 (.nilck (.t 42)) 41 true,gF 4 44 0 43 41 true,gL 5 45 44 41 true,gM 6 46 1 41 true,gM 7 47 2 41 true,gG 8 48 (.ixaS 20 (.t 45) (.t 46)) 41 true,gF 9 49 0 48 41 true,gG 10 50 (.ixaA 2 8 (.t 49) (.t 47)) 41 true,gF 11 51 3 50 41 true,gL 12 52 51 41 true,pT 13 53 41 52 (.bool false)] [0,1,2,53]) (cD 53 (c144_0))
def c144_3:AC :=
 sQ (sQ (rG [mV 0 10 3,mV 1 11 10,gM 2 12 0 11 true,gG 3 13 (.nilck (.t 12)) 11 true,gF 4 14 0 13 11 true,gL 5 15 14 11 true,gM 6 16 1 11 true,gM 7 17 2 11 true,gG 8 18 (.ixaS 20 (.t 15) (.t 16)) 11 true,gF 9 19 0 18 11 true,gG 10 20 (.ixaA 2 8 (.t 19) (.t 17)) 11 true,gF 11 21 2 20 11 true,gL 12 22 21 11 true,pT 13 23 11 22 (.bool false)] [0,1,2,4,23]) (cD 23 (c144_1))) (c144_2)
def c144:AFn:=⟨5,70,[],(c144_3)⟩
def c145_0:AC :=
 sQ (rG [mV 0 46 0,nC 1 47 46,fA 2 48 3 47,lD 3 49 48,mV 4 50 1,lL 5 51 50,qQ 6 52 (.convInt .u64 (.t 51)),bB 7 53 .add 49 52,nC 8 54 46,fA 9 55 3 54,sT 10 1 55 53] [1]) (rT [mV 0 56 1,lL 1 57 56,mV 2 4 57] [4])
def c145_1:AC :=
 rG [lD 0 32 5,mV 1 33 6,lD 2 34 5,⟨3,(some 35),.copy 1 (.t 33) (.t 34),none,none,[(32,.load1 (.t 5),none)]⟩,qQ 4 36 (.slice 1 (.t 32) (some (.t 35)) none none),sT 5 1 5 36] []
def c145_2:AC :=
 sQ (rG [mV 0 37 0,nC 1 38 37,fA 2 39 2 38,lD 3 40 39,mV 4 41 1,lL 5 42 41,bB 6 43 .add 40 42,nC 7 44 37,fA 8 45 2 44,sT 9 1 45 43] [0,1]) (c145_0)
def c145_3:AC :=
 sQ (sQ (rG [mV 0 18 0,mV 1 19 0,nC 2 20 19,fA 3 21 1 20,lD 4 22 21,mV 5 23 0,nC 6 24 23,fA 7 25 2 24,lD 8 26 25,bB 9 27 .add 22 26,mV 10 28 1,lL 11 29 28,aC 12 30 162 18 27 29] [0,1,5,30]) (.block 0 (.rangeFunc (.t 30) [31] [5] (rG [mV 0 6 31] [5,6]) (.block 1 (c145_1))))) (c145_2)
def c145_4:AC :=
 sQ (sQ (rG [mV 0 14 1,lL 1 15 14,bC 2 16 .eql 15 (.i 0)] [0,1,16]) (cD 16 (rT [mC 0 4 (.i 0)] [4]))) (sQ (rG [mV 0 17 1,qQ 1 5 (.alloc 1 [.nils]),sT 2 1 5 17] [0,1,5]) (c145_3))
def c145_5:AC :=
 sQ (rG [mV 0 7 1,mV 1 8 1,lL 2 9 8,mV 3 10 0,aA 4 11 75 10,qQ 5 12 (.minI [(.t 9),(.t 11)]),qQ 6 13 (.slice 1 (.t 7) none (some (.t 12)) none),mV 7 1 13] [0,1]) (c145_4)
def c145:AFn:=⟨2,58,[.tmp 4],(sQ (rG [mC 0 4 (.i 0)] [0,1]) (c145_5))⟩
def c146_0:AC :=
 sQ (rG [mV 0 10 1,bC 1 11 .lss 10 (.i 0),mV 2 12 11,gM 3 13 1 12 false,gM 4 14 0 12 false,gG 5 15 (.nilck (.t 14)) 12 false,gF 6 16 288 15 12 false,gL 7 17 16 12 false,gG 8 18 (.lenL (.t 17)) 12 false,gG 9 19 (.bin .geq (.t 13) (.t 18)) 12 false,pC 10 20 12 (.bool true) 19,mV 11 21 20,gM 12 22 0 21 false,gG 13 23 (.nilck (.t 22)) 21 false,gF 14 24 288 23 21 false,gL 15 25 24 21 false,gM 16 26 1 21 false,gG 17 27 (.ixaS 1 (.t 25) (.t 26)) 21 false,gL 18 28 27 21 false,gG 19 29 (.nilck (.t 28)) 21 false,gF 20 30 0 29 21 false,gG 21 31 (.ixaA 2 7 (.t 30) (.c (.i 1))) 21 false,gF 22 32 0 31 21 false,gL 23 33 32 21 false,gG 24 34 (.bin .neq (.t 33) (.c (.i 2))) 21 false,pC 25 35 21 (.bool true) 34,mV 26 9 35] [0,1,9]) (cD 9 (rT [mC 0 4 (.ptr none),mC 1 5 (.i 116)] [4,5]))
def c146_1:AC :=
 rT [mV 0 36 0,nC 1 37 36,fA 2 38 288 37,lD 3 39 38,mV 4 40 1,iS 5 41 1 39 40,lD 6 42 41,mV 7 4 42,mC 8 5 (.i 0)] [4,5]
def c146_2:AC :=
 sQ (.block 0 (sQ (rG [mV 0 7 0,aA 1 8 69 7,mV 2 6 8] [0,1,6]) (.cond (.t 6) (rT [mC 0 4 (.ptr none),mC 1 5 (.i 1)] [4,5]) (c146_0)))) (c146_1)
def c146:AFn:=⟨2,43,[.tmp 4,.tmp 5],(sQ (rG [mC 0 4 (.ptr none),mC 1 5 (.i 0)] [0,1]) (c146_2))⟩
def c147_0:AC :=
 rT [mV 0 5 1,bC 1 6 .geq 5 (.i 0),mV 2 7 6,gM 3 8 1 7 true,gM 4 9 0 7 true,gG 5 10 (.nilck (.t 9)) 7 true,gF 6 11 0 10 7 true,gL 7 12 11 7 true,gG 8 13 (.lenL (.t 12)) 7 true,gG 9 14 (.bin .lss (.t 8) (.t 13)) 7 true,pT 10 15 7 14 (.bool false),mV 11 16 15,gM 12 17 0 16 true,gG 13 18 (.nilck (.t 17)) 16 true,gF 14 19 0 18 16 true,gL 15 20 19 16 true,gM 16 21 1 16 true,gG 17 22 (.ixaS 20 (.t 20) (.t 21)) 16 true,gF 18 23 0 22 16 true,gG 19 24 (.ixaA 2 8 (.t 23) (.c (.i 1))) 16 true,gF 20 25 0 24 16 true,gL 21 26 25 16 true,gG 22 27 (.bin .eql (.t 26) (.c (.i 2))) 16 true,pT 23 28 16 27 (.bool false),mV 24 4 28] [4]
def c147:AFn:=⟨2,29,[.tmp 4],(sQ (rG [mC 0 4 (.bool false)] [0,1]) (c147_0))⟩
def c148_0:AC :=
 sQ (rG [mC 0 2 (.i 0)] [0]) (rT [mV 0 3 0,mV 1 4 0,aA 2 5 73 4,aB 3 6 142 3 5,lL 4 7 6,mV 5 2 7] [2])
def c148:AFn:=⟨1,8,[.tmp 2],(c148_0)⟩
def c149_0:AC :=
 sQ (sQ (rG [mV 0 3 0,qQ 1 4 (.eq .slice false (.t 3) (.c (.nils)))] [0,4]) (cD 4 (rT [mC 0 2 (.nils)] [2]))) (rT [qQ 0 5 (.bslice 1 0 [] []),mV 1 6 0,qQ 2 7 (.append 1 8 (.t 5) (.t 6)),mV 3 2 7] [2])
def c149:AFn:=⟨1,8,[.tmp 2],(sQ (rG [mC 0 2 (.nils)] [0]) (c149_0))⟩
def c150_0:AC :=
 cD 21 (rG [mV 0 22 0,mV 1 23 1,nC 2 24 22,fA 3 25 32 24,iA 4 26 32 1 25 23,.mk4 5 none (.store 1 (.t 26) (.c (.i 0))) none] [])
def c150_1:AC :=
 sQ (sQ (rG [mV 0 14 0,mV 1 15 1,mV 2 16 2,nC 3 17 14,fA 4 18 0 17,iA 5 19 32 1 18 15,sT 6 1 19 16] [0,1,2]) (sQ (rG [mV 0 20 2,qQ 1 21 (.un .not (.t 20))] [0,1,21]) (c150_0))) (rT [mC 0 6 (.i 0)] [6])
def c150_2:AC :=
 sQ (sQ (rG [mV 0 8 0,mV 1 9 1,aB 2 10 127 8 9,mV 3 7 10] [0,1,2,7]) (sQ (rG [mV 0 11 7,bC 1 12 .neq 11 (.i 0)] [0,1,2,7,12]) (cD 12 (rT [mV 0 13 7,mV 1 6 13] [6])))) (c150_1)
def c150:AFn:=⟨3,27,[.tmp 6],(sQ (rG [mC 0 6 (.i 0)] [0,1,2]) (c150_2))⟩
def c151_0:AC :=
 cD 48 (rG [mV 0 52 2,mV 1 53 3,qQ 2 54 (.bin .sub (.c (.i 1)) (.t 53)),qQ 3 55 (.bslice 1 1 [.int .u8 0] [(0,(.c (.int .u8 1)))]),aC 4 56 96 52 54 55] [])
def c151_1:AC :=
 rG [mV 0 41 2,mV 1 42 3,qQ 2 43 (.bin .sub (.c (.i 1)) (.t 42)),mV 3 44 4,aA 4 45 148 44,bC 5 46 .gtr 45 (.i 0),qQ 6 47 (.call 143 [(.t 41),(.t 43),(.c (.bool false)),(.t 46)])] []
def c151_2:AC :=
 sQ (rG [mV 0 35 0,nC 1 36 35,fA 2 37 289 36,lD 3 38 37,aA 4 39 70 38,bC 5 40 .eql 39 (.i 0),mV 6 34 40] [2,3,4,34]) (.cond (.t 34) (c151_1) (sQ (rG [mV 0 49 4,aA 1 50 73 49,bC 2 51 .eql 50 (.i 0),mV 3 48 51] [2,3,48]) (c151_0)))
def c151_3:AC :=
 sQ (rG [mV 0 27 2,mV 1 28 3,nC 2 29 27,fA 3 30 0 29,iA 4 31 2 7 30 28,fA 5 32 2 31,lD 6 33 32,mV 7 4 33] [0,2,3,4]) (.block 0 (c151_2))
def c151_4:AC :=
 sQ (rG [mV 0 11 0,nC 1 12 11,fA 2 13 288 12,lD 3 14 13,mV 4 15 0,nC 5 16 15,fA 6 17 291 16,fA 7 18 1 17,lD 8 19 18,iS 9 20 1 14 19,lD 10 21 20,mV 11 22 0,nC 12 23 22,fA 13 24 291 23,fA 14 25 2 24,lD 15 26 25,mV 16 2 21,mV 17 3 26] [0,2,3]) (c151_3)
def c151_5:AC :=
 sQ (sQ (rG [mV 0 5 0,nC 1 6 5,fA 2 7 291 6,fA 3 8 0 7,lD 4 9 8,qQ 5 10 (.un .not (.t 9))] [0,10]) (cD 10 (.ret))) (c151_4)
def c151:AFn:=⟨1,57,[],(c151_5)⟩
def c152_0:AC :=
 .region 1 [mV 0 61 0,mV 1 62 0,nC 2 63 62,fA 3 64 66 63,lD 4 65 64,mV 5 66 0,nC 6 67 66,fA 7 68 67 67,lD 8 69 68,qQ 9 70 (.bin .sub (.c (.i 1)) (.t 69)),⟨10,(some 71),.bslice 1 1 [.int .u8 0] [(0,(.c (.int .u8 1)))],none,some 0,[]⟩,qQ 11 72 (.call 97 [(.t 61),(.t 65),(.t 70),(.t 71)])] []
def c152_1:AC :=
 rT [mV 0 31 0,mV 1 32 0,nC 2 33 32,fA 3 34 66 33,lD 4 35 34,mV 5 36 0,nC 6 37 36,fA 7 38 67 37,lD 8 39 38,mV 9 40 3,qQ 10 41 (.call 95 [(.t 31),(.t 35),(.t 39),(.t 40)])] []
def c152_2:AC :=
 sQ (rG [mV 0 13 0,nC 1 14 13,fA 2 15 0 14,lD 3 16 15,mV 4 17 0,nC 5 18 17,fA 6 19 66 18,lD 7 20 19,mV 8 21 0,nC 9 22 21,fA 10 23 67 22,lD 11 24 23,iS 12 25 20 16 20,fA 13 26 0 25,iA 14 27 2 8 26 24,fA 15 28 4 27,lD 16 29 28,lL 17 30 29,mV 18 3 30] [0,3]) (c152_1)
def c152_3:AC :=
 sQ (rG [mV 0 42 0,nC 1 43 42,fA 2 44 0 43,lD 3 45 44,mV 4 46 0,nC 5 47 46,fA 6 48 66 47,lD 7 49 48,mV 8 50 0,nC 9 51 50,fA 10 52 67 51,lD 11 53 52,iS 12 54 20 45 49,fA 13 55 0 54,iA 14 56 2 8 55 53,fA 15 57 4 56,lD 16 58 57,lL 17 59 58,bC 18 60 .eql 59 (.i 0)] [0,60]) (cD 60 (c152_0))
def c152_4:AC :=
 sQ (rG [mV 0 9 0,aA 1 10 31 9,mV 2 2 10] [0,2]) (sQ (sQ (rG [mV 0 11 2,bC 1 12 .eql 11 (.i 0)] [0,12]) (cD 12 (c152_2))) (c152_3))
def c152:AFn:=⟨1,73,[],(sQ (sQ (rG [mV 0 4 0,nC 1 5 4,fA 2 6 66 5,lD 3 7 6,bC 4 8 .lss 7 (.i 0)] [0,8]) (cD 8 (.ret))) (c152_4))⟩
def c153_0:AC :=
 rG [mV 0 18 0,mV 1 19 1,nC 2 20 18,fA 3 21 32 20,iA 4 22 32 1 21 19,lD 5 23 22,mV 6 24 0,mV 7 25 1,nC 8 26 24,fA 9 27 32 26,iA 10 28 32 1 27 25,lD 11 29 28,qQ 12 30 (.bin .sub (.c (.i 2147483647)) (.t 29)),qQ 13 31 (.minI [(.c (.i 1)),(.t 30)]),bB 14 32 .add 23 31,nC 15 33 18,fA 16 34 32 33,iA 17 35 32 1 34 19,sT 18 1 35 32] []
def c153_1:AC :=
 sQ (sQ (rG [mV 0 12 0,mV 1 13 1,nC 2 14 12,fA 3 15 0 14,iA 4 16 32 1 15 13,lD 5 17 16] [0,1,17]) (cD 17 (c153_0))) (rT [mC 0 4 (.i 0)] [4])
def c153_2:AC :=
 sQ (sQ (rG [mV 0 6 0,mV 1 7 1,aB 2 8 127 6 7,mV 3 5 8] [0,1,5]) (sQ (rG [mV 0 9 5,bC 1 10 .neq 9 (.i 0)] [0,1,5,10]) (cD 10 (rT [mV 0 11 5,mV 1 4 11] [4])))) (c153_1)
def c153:AFn:=⟨2,36,[.tmp 4],(sQ (rG [mC 0 4 (.i 0)] [0,1]) (c153_2))⟩
def c154_0:AC :=
 rG [mV 0 20 0,fA 1 21 0 6,lD 2 22 21,nC 3 23 20,fA 4 24 32 23,iA 5 25 32 1 24 22,.mk4 6 none (.store 1 (.t 25) (.c (.i 0))) none] [0,3,14,15,16]
def c154_1:AC :=
 sQ (.block 3 (sQ (rG [iS 0 18 2 14 16,lN 1 19 2 18,qQ 2 6 (.alloc 2 [.i 0,.i 0]),sT 3 2 6 19] [0,3,6,14,15,16]) (c154_0))) (rG [bC 0 26 .add 16 (.i 1),mV 1 16 26] [0,3,14,15,16])
def c154_2:AC :=
 .rangeFunc (.t 8) [9] [3] (rG [qQ 0 4 (.alloc 2 [.i 0,.i 0]),sT 1 2 4 9] [3,4]) (.block 1 (rG [lD 0 10 3,lN 1 11 2 4,qQ 2 12 (.bslice 2 1 [.i 0,.i 0] [(0,(.t 11))]),qQ 3 13 (.append 2 16 (.t 10) (.t 12)),sT 4 1 3 13] []))
def c154_3:AC :=
 sQ (sQ (rG [lD 0 14 3,lL 1 15 14,mC 2 16 (.i 0)] [0,3,14,15,16]) (.block 2 (.loop [0,3,14,15,16] (sQ (rG [bB 0 17 .lss 16 15] [0,3,14,15,16,17]) (sQ (cX 17 2) (c154_1)))))) (rT [lD 0 27 3,mV 1 2 27] [2])
def c154:AFn:=⟨1,28,[.tmp 2],(sQ (rG [mC 0 2 (.nils)] [0]) (sQ (rG [qQ 0 3 (.alloc 1 [.nils])] [0,3]) (sQ (sQ (rG [mV 0 7 0,aA 1 8 126 7] [0,3,8]) (.block 0 (c154_2))) (c154_3))))⟩
def c155_0:AC :=
 sQ (rG [mV 0 13 0,mV 1 14 3,mV 2 15 4,qQ 3 16 (.build [.i 0,.i 0] [(0,1,(.t 14)),(1,1,(.t 15))]),qQ 4 17 (.callv (.t 13) [(.t 16)]),qQ 5 18 (.un .not (.t 17))] [0,1,5,18]) (cD 18 (.ret))
def c155_1:AC :=
 sQ (rG [lD 0 8 1,mV 1 9 3,aB 2 10 71 8 9,mV 3 4 10] [0,1,3,4,5]) (sQ (sQ (rG [mV 0 11 4,bC 1 12 .eql 11 (.i 0)] [0,1,3,4,5,12]) (cD 12 (.exit 1))) (c155_0))
def c155_2:AC :=
 sQ (rG [bC 0 6 .lss 5 (.i 32)] [0,1,5,6]) (sQ (cX 6 0) (sQ (.block 1 (sQ (rG [mV 0 7 5,mV 1 3 7] [0,1,3,5]) (c155_1))) (rG [bC 0 19 .add 5 (.i 1),mV 1 5 19] [0,1,5])))
def c155:AFn:=⟨2,20,[],(.scope (sQ (.label 0) (sQ (rG [mC 0 5 (.i 0)] [0,1,5]) (.block 0 (.loop [0,1,5] (c155_2))))))⟩
def c156_0:AC :=
 rT [mV 0 3 0,bC 1 4 .geq 3 (.i 1),mV 2 5 4,gM 3 6 0 5 true,gG 4 7 (.bin .leq (.t 6) (.c (.i 31))) 5 true,pT 5 8 5 7 (.bool false),mV 6 2 8] [2]
def c156:AFn:=⟨1,9,[.tmp 2],(sQ (rG [mC 0 2 (.bool false)] [0]) (c156_0))⟩
def c162_0:AC :=
 sQ (rG [qQ 0 3 (.box 1 (.t 0)),qQ 1 4 (.box 1 (.t 1)),qQ 2 5 (.box 1 (.t 2)),mC 3 6 (.nilfn)] [3,4,5]) (rT [qQ 0 7 (.mkClo 170 [(.t 5),(.t 4),(.t 3)]),mV 1 6 7] [6])
def c162:AFn:=⟨3,8,[.tmp 6],(c162_0)⟩
def c170_0:AC :=
 sQ (rG [lD 0 35 2,mV 1 36 6,lL 2 37 36,bB 3 38 .add 35 37,sT 4 1 2 38] [0,1,2,3,6]) (rG [lD 0 39 1,mV 1 40 6,lL 2 41 40,bB 3 42 .sub 39 41,sT 4 1 1 42] [0,1,2,3])
def c170_1:AC :=
 sQ (rG [lD 0 16 3,nC 1 17 16,fA 2 18 0 17,lD 3 19 18,mV 4 20 5,mV 5 21 5,lD 6 22 1,bB 7 23 .add 21 22,lD 8 24 3,nC 9 25 24,fA 10 26 0 25,lD 11 27 26,lL 12 28 27,qQ 13 29 (.minI [(.t 23),(.t 28)]),qQ 14 30 (.slice 1 (.t 19) (some (.t 20)) (some (.t 29)) none),mV 15 6 30] [0,1,2,3,6]) (sQ (sQ (rG [mV 0 31 0,mV 1 32 6,qQ 2 33 (.callv (.t 31) [(.t 32)]),qQ 3 34 (.un .not (.t 33))] [0,1,2,3,6,34]) (cD 34 (.exit 0))) (c170_0))
def c170_2:AC :=
 sQ (rG [lD 0 9 2,lD 1 10 3,nC 2 11 10,fA 3 12 0 11,lD 4 13 12,lL 5 14 13,bB 6 15 .rem 9 14,mV 7 5 15] [0,1,2,3,5]) (c170_1)
def c170:AFn:=⟨4,43,[],(.scope (sQ (.label 0) (.block 0 (.loop [0,1,2,3] (sQ (sQ (rG [lD 0 7 1,bC 1 8 .gtr 7 (.i 0)] [0,1,2,3,8]) (cX 8 0)) (.block 1 (c170_2)))))))⟩
def prog:Prog := { fns:=[(3,c3),(5,c5),(6,c6),(7,c7),(8,c8),(9,c9),(20,c20),(21,c21),(22,c22),(23,c23),(24,c24),(25,c25),(26,c26),(27,c27),(28,c28),(29,c29),(30,c30),(31,c31),(32,c32),(33,c33),(34,c34),(35,c35),(36,c36),(47,c47),(48,c48),(49,c49),(50,c50),(51,c51),(52,c52),(53,c53),(54,c54),(55,c55),(56,c56),(57,c57),(58,c58),(59,c59),(60,c60),(61,c61),(62,c62),(63,c63),(64,c64),(65,c65),(66,c66),(67,c67),(68,c68),(69,c69),(70,c70),(71,c71),(72,c72),(73,c73),(74,c74),(75,c75),(78,c78),(80,c80),(81,c81),(82,c82),(83,c83),(89,c89),(90,c90),(91,c91),(92,c92),(93,c93),(94,c94),(95,c95),(96,c96),(97,c97),(98,c98),(99,c99),(100,c100),(101,c101),(102,c102),(103,c103),(104,c104),(105,c105),(106,c106),(107,c107),(108,c108),(109,c109),(110,c110),(111,c111),(112,c112),(113,c113),(114,c114),(115,c115),(116,c116),(117,c117),(118,c118),(119,c119),(120,c120),(121,c121),(122,c122),(123,c123),(124,c124),(125,c125),(126,c126),(127,c127),(128,c128),(131,c131),(132,c132),(137,c137),(138,c138),(139,c139),(140,c140),(141,c141),(142,c142),(143,c143),(144,c144),(145,c145),(146,c146),(147,c147),(148,c148),(149,c149),(150,c150),(151,c151),(152,c152),(153,c153),(154,c154),(155,c155),(156,c156),(162,c162),(170,c170)],prims:=[(76,jj5 0),(77,jj4 0),(79,ji3)] }
theorem primsF:jic prog:=jic.of (List.forall_mem_cons.2 ⟨Am.pFmtU_F 0,List.forall_mem_cons.2 ⟨Am.pItoa_F 0,List.forall_mem_cons.2 ⟨Am.pJoin_F,fun _ h=>nomatch h⟩⟩⟩)
def cx:Cx:=⟨[(3,⟨.int .i64,1,8,(some (.i 0)),false⟩),(4,⟨.bool,1,1,(some (.bool false)),false⟩),(5,⟨.int .u8,1,1,(some (.int .u8 0)),false⟩),(9,⟨.str,1,16,(some (.str [])),false⟩),(22,⟨.slice 67,1,24,(some (.nils)),false⟩),(23,⟨.slice 30,1,24,(some (.nils)),false⟩),(25,⟨.slice 69,1,24,(some (.nils)),false⟩),(28,⟨.slice 3,1,24,(some (.nils)),false⟩),(30,⟨.struct [(0,3),(1,3)],2,16,(some (.agg [.i 0,.i 0])),false⟩),(31,⟨.int .i64,1,8,(some (.i 0)),false⟩),(34,⟨.ptr 128,1,8,(some (.ptr none)),false⟩),(35,⟨.ptr 81,1,8,(some (.ptr none)),false⟩),(37,⟨.struct [(0,34),(1,35)],2,16,(some (.agg [.ptr none,.ptr none])),false⟩),(43,⟨.slice 5,1,24,(some (.nils)),false⟩),(65,⟨.int .u64,1,8,(some (.int .u64 0)),false⟩),(67,⟨.struct [(0,3),(1,3),(2,3),(3,65),(4,43)],5,56,(some (.agg [.i 0,.i 0,.i 0,.int .u64 0,.nils])),false⟩),(69,⟨.struct [(0,4),(1,4),(2,4),(3,4),(4,4),(5,65),(6,65)],7,24,(some (.agg [.bool false,.bool false,.bool false,.bool false,.bool false,.int .u64 0,.int .u64 0])),true⟩),(77,⟨.slice 120,1,24,(some (.nils)),false⟩),(78,⟨.array 32 4,32,32,(some (.agg (List.replicate 32 (.bool false:V)))),false⟩),(79,⟨.array 32 3,32,256,(some (.agg (List.replicate 32 (.i 0:V)))),false⟩),(81,⟨.struct [(0,77),(1,65),(2,78),(34,79),(66,3),(67,3)],68,336,(some (.agg ([.nils,.int .u64 0]++List.replicate 32 (.bool false:V)++List.replicate 34 (.i 0:V)))),false⟩),(85,⟨.slice 9,1,24,(some (.nils)),false⟩),(117,⟨.struct [(0,3),(1,3),(2,4),(3,4),(4,43),(5,4),(6,65),(7,65)],8,72,(some (.agg [.i 0,.i 0,.bool false,.bool false,.nils,.bool false,.int .u64 0,.int .u64 0])),false⟩),(118,⟨.array 2 117,16,144,(some (.agg [.i 0,.i 0,.bool false,.bool false,.nils,.bool false,.int .u64 0,.int .u64 0,.i 0,.i 0,.bool false,.bool false,.nils,.bool false,.int .u64 0,.int .u64 0])),false⟩),(120,⟨.struct [(0,118),(16,3),(17,4),(18,3),(19,28)],20,192,(some (.agg [.i 0,.i 0,.bool false,.bool false,.nils,.bool false,.int .u64 0,.int .u64 0,.i 0,.i 0,.bool false,.bool false,.nils,.bool false,.int .u64 0,.int .u64 0,.i 0,.bool false,.i 0,.nils])),false⟩),(123,⟨.struct [(0,4),(1,3),(2,3)],3,24,(some (.agg [.bool false,.i 0,.i 0])),false⟩),(124,⟨.array 96 123,288,2304,(some (.agg ((List.replicate 96 ([.bool false,.i 0,.i 0]:List V)).flatten))),false⟩),(125,⟨.slice 129,1,24,(some (.nils)),false⟩),(126,⟨.ptr 177,1,8,(some (.ptr none)),false⟩),(128,⟨.struct [(0,124),(288,125),(289,126),(290,65),(291,123)],294,2368,(some (.agg ((List.replicate 96 ([.bool false,.i 0,.i 0]:List V)).flatten++[.nils,.ptr none,.int .u64 0,.bool false,.i 0,.i 0]))),false⟩),(129,⟨.ptr 137,1,8,(some (.ptr none)),false⟩),(132,⟨.ptr 179,1,8,(some (.ptr none)),false⟩),(134,⟨.struct [(0,3),(1,3),(2,132),(3,4),(4,4),(5,65),(6,65)],7,48,(some (.agg [.i 0,.i 0,.ptr none,.bool false,.bool false,.int .u64 0,.int .u64 0])),false⟩),(135,⟨.array 2 134,14,96,(some (.agg [.i 0,.i 0,.ptr none,.bool false,.bool false,.int .u64 0,.int .u64 0,.i 0,.i 0,.ptr none,.bool false,.bool false,.int .u64 0,.int .u64 0])),false⟩),(137,⟨.struct [(0,135),(14,4),(15,3),(16,28)],17,136,(some (.agg [.i 0,.i 0,.ptr none,.bool false,.bool false,.int .u64 0,.int .u64 0,.i 0,.i 0,.ptr none,.bool false,.bool false,.int .u64 0,.int .u64 0,.bool false,.i 0,.nils])),false⟩),(166,⟨.slice 169,1,24,(some (.nils)),false⟩),(169,⟨.struct [(0,3),(1,3)],2,16,(some (.agg [.i 0,.i 0])),true⟩),(177,⟨.struct [(0,78),(32,79)],64,288,(some (.agg (List.replicate 32 (.bool false:V)++List.replicate 32 (.i 0:V)))),false⟩),(179,⟨.struct [(0,43),(1,3),(2,3),(3,65),(4,65),(5,4)],6,64,(some (.agg [.nils,.i 0,.i 0,.int .u64 0,.int .u64 0,.bool false])),false⟩)],[0,2,3]⟩
def jbh:List V:=[.int .u8 0,.int .u8 1,.int .u8 28,.int .u8 2,.int .u8 29,.int .u8 14,.int .u8 24,.int .u8 3,.int .u8 30,.int .u8 22,.int .u8 20,.int .u8 15,.int .u8 25,.int .u8 17,.int .u8 4,.int .u8 8,.int .u8 31,.int .u8 27,.int .u8 13,.int .u8 23,.int .u8 21,.int .u8 19,.int .u8 16,.int .u8 7,.int .u8 26,.int .u8 12,.int .u8 18,.int .u8 6,.int .u8 11,.int .u8 5,.int .u8 10,.int .u8 9]
def jbg:List V:=[.int .u8 0,.int .u8 1,.int .u8 56,.int .u8 2,.int .u8 57,.int .u8 49,.int .u8 28,.int .u8 3,.int .u8 61,.int .u8 58,.int .u8 42,.int .u8 50,.int .u8 38,.int .u8 29,.int .u8 17,.int .u8 4,.int .u8 62,.int .u8 47,.int .u8 59,.int .u8 36,.int .u8 45,.int .u8 43,.int .u8 51,.int .u8 22,.int .u8 53,.int .u8 39,.int .u8 33,.int .u8 30,.int .u8 24,.int .u8 18,.int .u8 12,.int .u8 5,.int .u8 63,.int .u8 55,.int .u8 48,.int .u8 27,.int .u8 60,.int .u8 41,.int .u8 37,.int .u8 16,.int .u8 46,.int .u8 35,.int .u8 44,.int .u8 21,.int .u8 52,.int .u8 32,.int .u8 23,.int .u8 11,.int .u8 54,.int .u8 26,.int .u8 40,.int .u8 15,.int .u8 34,.int .u8 20,.int .u8 31,.int .u8 10,.int .u8 25,.int .u8 14,.int .u8 19,.int .u8 9,.int .u8 13,.int .u8 8,.int .u8 7,.int .u8 6]
def jaC:List V:=[.int .u64 1,.int .u64 10,.int .u64 100,.int .u64 1000,.int .u64 10000,.int .u64 100000,.int .u64 1000000,.int .u64 10000000,.int .u64 100000000,.int .u64 1000000000,.int .u64 10000000000,.int .u64 100000000000,.int .u64 1000000000000,.int .u64 10000000000000,.int .u64 100000000000000,.int .u64 1000000000000000,.int .u64 10000000000000000,.int .u64 100000000000000000,.int .u64 1000000000000000000,.int .u64 10000000000000000000]
namespace F
abbrev jbX:Nat:=3
abbrev jdQ:Nat:=5
abbrev pol_Poll:Nat:=6
abbrev je3:Nat:=7
abbrev jgT:Nat:=8
abbrev jcQ:Nat:=9
abbrev jcz:Nat:=20
abbrev jdR:Nat:=21
abbrev jb4:Nat:=22
abbrev jaA:Nat:=23
abbrev pol_may:Nat:=24
abbrev pol_told:Nat:=25
abbrev jfe:Nat:=26
abbrev jgC:Nat:=27
abbrev jdi:Nat:=28
abbrev jgB:Nat:=29
abbrev jeC:Nat:=30
abbrev jc4:Nat:=31
abbrev jf5:Nat:=32
abbrev jf2:Nat:=33
abbrev je4:Nat:=34
abbrev jf4:Nat:=35
abbrev jcL:Nat:=36
abbrev world_New:Nat:=47
abbrev jeH:Nat:=48
abbrev jdI:Nat:=49
abbrev jdJ:Nat:=50
abbrev jdq:Nat:=51
abbrev jcS:Nat:=52
abbrev jav:Nat:=53
abbrev ja2:Nat:=54
abbrev jcT:Nat:=55
abbrev jba:Nat:=56
abbrev jaT:Nat:=57
abbrev jbp:Nat:=58
abbrev jaG:Nat:=59
abbrev jbc:Nat:=60
abbrev jb7:Nat:=61
abbrev jbo:Nat:=62
abbrev jcm:Nat:=63
abbrev jbf:Nat:=64
abbrev jaf:Nat:=65
abbrev jaR:Nat:=66
abbrev jeo:Nat:=67
abbrev pol_is:Nat:=68
abbrev jdH:Nat:=69
abbrev jf6:Nat:=70
abbrev jgH:Nat:=71
abbrev jb6:Nat:=72
abbrev jff:Nat:=73
abbrev jf0:Nat:=74
abbrev jh5:Nat:=75
abbrev jgA:Nat:=78
abbrev jf7:Nat:=80
abbrev jdM:Nat:=81
abbrev jci:Nat:=82
abbrev jeG:Nat:=83
abbrev sigs_New:Nat:=89
abbrev jf1:Nat:=90
abbrev jao:Nat:=91
abbrev jbl:Nat:=92
abbrev jgg:Nat:=93
abbrev jg8:Nat:=94
abbrev jbR:Nat:=95
abbrev jhx:Nat:=96
abbrev jbm:Nat:=97
abbrev jg9:Nat:=98
abbrev jcP:Nat:=99
abbrev jdF:Nat:=100
abbrev jbH:Nat:=101
abbrev jbx:Nat:=102
abbrev jbw:Nat:=103
abbrev jbr:Nat:=104
abbrev jbn:Nat:=105
abbrev jbO:Nat:=106
abbrev jaM:Nat:=107
abbrev jbE:Nat:=108
abbrev jaI:Nat:=109
abbrev jbJ:Nat:=110
abbrev jbd:Nat:=111
abbrev jb3:Nat:=112
abbrev jaV:Nat:=113
abbrev jgi:Nat:=114
abbrev jbN:Nat:=115
abbrev jeP:Nat:=116
abbrev jaZ:Nat:=117
abbrev jf3:Nat:=118
abbrev jbe:Nat:=119
abbrev jeB:Nat:=120
abbrev jaU:Nat:=121
abbrev jcR:Nat:=122
abbrev jaH:Nat:=123
abbrev jgh:Nat:=124
abbrev jbM:Nat:=125
abbrev jgj:Nat:=126
abbrev jij:Nat:=127
abbrev jh3:Nat:=128
abbrev world_hex:Nat:=131
abbrev jh6:Nat:=132
abbrev jlm:Nat:=137
abbrev jhy:Nat:=138
abbrev jcD:Nat:=139
abbrev jdG:Nat:=140
abbrev jbZ:Nat:=141
abbrev jh4:Nat:=142
abbrev jdN:Nat:=143
abbrev ja1:Nat:=144
abbrev jiu:Nat:=145
abbrev jcl:Nat:=146
abbrev jbb:Nat:=147
abbrev jcb:Nat:=148
abbrev je2:Nat:=149
abbrev jgk:Nat:=150
abbrev jcE:Nat:=151
abbrev jb8:Nat:=152
abbrev jgG:Nat:=153
abbrev jh1:Nat:=154
abbrev jcX:Nat:=155
abbrev sigs_is:Nat:=156
abbrev jgo:Nat:=162
abbrev jcY:Nat:=170
abbrev jeV:Nat:=76
abbrev jiY:Nat:=77
abbrev jfV:Nat:=79
end F
end Am.Sigs
